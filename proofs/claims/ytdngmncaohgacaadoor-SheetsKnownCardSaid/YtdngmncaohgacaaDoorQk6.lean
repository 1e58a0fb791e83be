/-
  PART 6 OF THE PROOF: Gb (no conditions).
-/
import Derived.Test.YtdngmncaohgacaaDoorQk5
set_option linter.unusedSectionVars false
set_option linter.unusedSimpArgs false
set_option linter.unusedVariables false
set_option linter.constructorNameAsVariable false
set_option linter.defProp false
/-
  THE FUNCTIONS IN THE DIRECT STYLE OF RUNS, BY PROGRAM; THE TABLE OF RUNS.
-/
set_option maxRecDepth 100000
namespace Go.Am
open Sx Go.Proofs
instance val0 : Val := ⟨fun _ => 0⟩
noncomputable instance kno0 : Kno := KnoC cc neuN
theorem mixed : cc.P.follows .mixedOrders = true := by kernel_rfl
theorem gl_flat (g : Nat) (vs : List Value) (h : cc.G g = some vs) : vs.all flat = true := by
  unfold cc at h
  simp only at h
  split at h <;> first | (cases h; done) | (obtain rfl := Option.some.inj h; kernel_rfl)
theorem drN_ok : ∀ pts ops, drN pts ops = true → ∀ (n : Nat) (σ σ' : St), opsRel cc (sm cc n).toBelow pts ops (List.range ops.size) σ σ' → anyRel cc (sm cc n).toBelow pts ops σ σ' := fun pts ops h n σ σ' hx => dr_ok neuN_ok (fun _ _ _ _ _ (h : _ ∧ _) => h.1) pts ops h n σ σ' hx
abbrev Ent (k : Nat) (g : FB) : Prop := EntOk cc sgTab siteTab k g
abbrev Cok (c : CallB) : Prop := CallBOk cc sgTab siteTab c
theorem plain_ok (f : FuncId) (sg : Sig) (ls rs : List Lf) (H' : List HObj) (hs : sgTab f = some sg) (hp : sg.plain = true) (hc : CallL cc sgTab f ls [] rs H') : ∀ H, CallL cc sgTab f ls H rs H := ct_of mixed gl_flat hs hp hc
theorem ent_of {k : Nat} {g : CallB → FB} {f : Alg RT HTr → FB} {ct : CallB → CallB} {fn : Fn1} (h0 : g = fun c => f (BA sgTab siteTab (ct c))) (h2 : f = fun A ls h K => execF A (xc k) sgTab drN fn ls h K) (h3 : FnIs (xc k) sgTab k fn) {c : CallB} (hc : Cok (ct c)) : Ent k (g c) := by
  intro ls h K w hls hk
  rw [h0, h2] at hk
  obtain ⟨rs, h', a1, _, a3⟩ := execF_ok (BA_ok (w := w) hc) drN_ok h3 hls hk
  exact ⟨rs, h', a1, a3⟩
theorem ent_ro {k : Nat} {g : FB} {sg : Sig} (h : Ent k g) (h4 : sgTab k = some sg) (h5 : sg.rs.all SK.plain = true) (h6 : neuN k = none) : Ent k (memoR g) := memoR_ok (fun ls0 rs H0 H' H σ hc hb hl => call_ro mixed gl_flat h4 h5 h6 σ hc hb hl) h
theorem ent_mem {k : Nat} {g : FB} {sg : Sig} (h : Ent k g) (h4 : sgTab k = some sg) (h5 : sg.plain = true) : Ent k (memo g) := memo_ok plain_ok h h4 h5

/-- (crimp/crimplaw05.W).Of -/
noncomputable def ct17 (c : CallB) : CallB := tblF [] c
noncomputable def b17 (c : CallB) (a0 : Int) (a1 : Int) (h : HTr) (K : Int → Int → HTr → RT) : RT :=
@Bool.rec (fun _ => RT) (remK a0 (.ofNat (nat_lit 5)) (fun n10 =>
out64 n10 (fun n11 =>
addK (.ofNat (nat_lit 1)) n11 (fun c_ => out64 c_ (fun n12 =>
@Bool.rec (fun _ => RT) (remK a1 (.ofNat (nat_lit 5)) (fun n13 =>
out64 n13 (fun n14 =>
addK (.ofNat (nat_lit 1)) n14 (fun c_ => out64 c_ (fun n15 =>
K n12 n15 h))))) none (isZ (.ofNat (nat_lit 5)))))))) none (isZ (.ofNat (nat_lit 5)))
noncomputable def wq17 (c : CallB) : FB := fun ls h K => unIB ls fun a0 l0 => unIB l0 fun a1 l1 => un0B l1 (b17 c a0 a1 h (fun r0 r1 h => K [.i r0, .i r1] h))
noncomputable def wr17 (c : CallB) : FB := fun ls h K => @List.rec Lf (fun _ => RT) none (fun x0 l0 _ => @Lf.rec (fun _ => RT) (fun a0 => @List.rec Lf (fun _ => RT) none (fun x1 l1 _ => @Lf.rec (fun _ => RT) (fun a1 => @List.rec Lf (fun _ => RT) (b17 c a0 a1 h (fun r0 r1 h => K [.i r0, .i r1] h)) (fun _ _ _ => none) l1) (fun _ => none) (fun _ => none) x1) l0) (fun _ => none) (fun _ => none) x0) ls
theorem ew17 : (fun c => wr17 c) = fun c => wq17 c := by kernel_rfl
noncomputable def w17 (c : CallB) : FB := memo (wr17 c)
noncomputable def mc17 (c : CallB) (a0 : Int) (a1 : Int) (h : HTr) (K : Int → Int → HTr → RT) : RT := fI a0 fun a0 => fI a1 fun a1 => @Option.rec _ (fun _ => RT) none (fun rs => unIB rs fun r0 l0 => unIB l0 fun r1 l1 => un0B l1 (K r0 r1 h)) (b17 c a0 a1 .empty (fun r0 r1 h => tell [.i r0, .i r1] h))
theorem vm17 : (fun (c : CallB) (a0 : Int) (a1 : Int) (h : HTr) (K : Int → Int → HTr → RT) => w17 c [.i a0, .i a1] h (fun rs h => unIB rs fun r0 l0 => unIB l0 fun r1 l1 => un0B l1 (K r0 r1 h))) = fun c a0 a1 h K => mc17 c a0 a1 h K := by kernel_rfl
theorem qm17 {c call : CallB} (hct : call (.f 17) = w17 c) {a0 : Int} {a1 : Int} {h : HTr} {K : List Lf → HTr → RT} {K' : Int → Int → HTr → RT} (hX : ∀ rs h, K rs h = unIB rs fun r0 l0 => unIB l0 fun r1 l1 => un0B l1 (K' r0 r1 h)) : (BA sgTab siteTab call).call 17 [.i a0, .i a1] h K = mc17 c a0 a1 h K' := by
  obtain rfl : K = fun rs h => unIB rs fun r0 l0 => unIB l0 fun r1 l1 => un0B l1 (K' r0 r1 h) := funext fun rs => funext fun h => hX rs h
  exact q_tab0 rfl ((congrFun (congrFun (congrFun hct _) _) _).trans (congrFun (congrFun (congrFun (congrFun (congrFun (vm17) c) a0) a1) h) K'))
theorem pf17 (c : CallB) (ls : List Lf) (h : HTr) (K : List Lf → HTr → RT) : f17 (BA sgTab siteTab (ct17 c)) ls h K = wq17 c ls h K :=
q_unI (fun n6 l7 =>
q_unI (fun n8 l9 =>
q_un0 (q_rem (fun n10 =>
q_conv64 (fun n11 =>
q_add64 (fun n12 =>
q_rem (fun n13 =>
q_conv64 (fun n14 =>
q_add64 (fun n15 =>
rfl)))))))))
theorem eb17 : (fun c => wr17 c) = fun c => f17 (BA sgTab siteTab (ct17 c)) := ew17.trans (funext fun c => funext fun ls => funext fun h => funext fun K => (pf17 c ls h K).symm)
theorem ok17 {c : CallB} (hc : Cok c) : Ent 17 (w17 c) := ent_mem (ent_of (g := fun c => wr17 c) (f := fun A => f17 A) (ct := ct17) eb17 (congrFun (congrFun e17 RT) HTr) i17 (tblF_ok hc (by
    intro p hp
    cases hp))) rfl (by kernel_rfl)
/-- crimp/sheets.Check -/
noncomputable def ct33 (c : CallB) : CallB := tblF [] c
noncomputable def b33 (c : CallB) (a0 : Int) (a1 : Int) (h : HTr) (K : Int → HTr → RT) : RT :=
@Bool.rec (fun _ => RT) (
@Bool.rec (fun _ => RT) (
@Bool.rec (fun _ => RT) (
@Bool.rec (fun _ => RT) (
mulK a0 a1 (fun c_ => out64 c_ (fun n14 =>
@Bool.rec (fun _ => RT) (
K (.ofNat (nat_lit 0)) h) (
K (.ofNat (nat_lit 1)) h) (notK (leZ n14 (.ofNat (nat_lit 256))))))) (
K (.ofNat (nat_lit 1)) h) (notK (leZ a1 (.ofNat (nat_lit 256))))) (
K (.ofNat (nat_lit 1)) h) (notK (leZ a0 (.ofNat (nat_lit 256))))) (
K (.ofNat (nat_lit 1)) h) (notK (leZ (.ofNat (nat_lit 1)) a1))) (
K (.ofNat (nat_lit 1)) h) (notK (leZ (.ofNat (nat_lit 1)) a0))
noncomputable def wq33 (c : CallB) : FB := fun ls h K => unIB ls fun a0 l0 => unIB l0 fun a1 l1 => un0B l1 (b33 c a0 a1 h (fun r0 h => K [.i r0] h))
noncomputable def wr33 (c : CallB) : FB := fun ls h K => @List.rec Lf (fun _ => RT) none (fun x0 l0 _ => @Lf.rec (fun _ => RT) (fun a0 => @List.rec Lf (fun _ => RT) none (fun x1 l1 _ => @Lf.rec (fun _ => RT) (fun a1 => @List.rec Lf (fun _ => RT) (b33 c a0 a1 h (fun r0 h => K [.i r0] h)) (fun _ _ _ => none) l1) (fun _ => none) (fun _ => none) x1) l0) (fun _ => none) (fun _ => none) x0) ls
theorem ew33 : (fun c => wr33 c) = fun c => wq33 c := by kernel_rfl
noncomputable def w33 (c : CallB) : FB := memo (wr33 c)
noncomputable def mc33 (c : CallB) (a0 : Int) (a1 : Int) (h : HTr) (K : Int → HTr → RT) : RT := fI a0 fun a0 => fI a1 fun a1 => @Option.rec _ (fun _ => RT) none (fun rs => unIB rs fun r0 l0 => un0B l0 (K r0 h)) (b33 c a0 a1 .empty (fun r0 h => tell [.i r0] h))
theorem vm33 : (fun (c : CallB) (a0 : Int) (a1 : Int) (h : HTr) (K : Int → HTr → RT) => w33 c [.i a0, .i a1] h (fun rs h => unIB rs fun r0 l0 => un0B l0 (K r0 h))) = fun c a0 a1 h K => mc33 c a0 a1 h K := by kernel_rfl
theorem qm33 {c call : CallB} (hct : call (.f 33) = w33 c) {a0 : Int} {a1 : Int} {h : HTr} {K : List Lf → HTr → RT} {K' : Int → HTr → RT} (hX : ∀ rs h, K rs h = unIB rs fun r0 l0 => un0B l0 (K' r0 h)) : (BA sgTab siteTab call).call 33 [.i a0, .i a1] h K = mc33 c a0 a1 h K' := by
  obtain rfl : K = fun rs h => unIB rs fun r0 l0 => un0B l0 (K' r0 h) := funext fun rs => funext fun h => hX rs h
  exact q_tab0 rfl ((congrFun (congrFun (congrFun hct _) _) _).trans (congrFun (congrFun (congrFun (congrFun (congrFun (vm33) c) a0) a1) h) K'))
theorem pf33 (c : CallB) (ls : List Lf) (h : HTr) (K : List Lf → HTr → RT) : f33 (BA sgTab siteTab (ct33 c)) ls h K = wq33 c ls h K :=
q_unI (fun n6 l7 =>
q_unI (fun n8 l9 =>
q_un0 (q_lss (q_cond (rfl) (q_lss (q_cond (rfl) (q_gtr (q_cond (rfl) (q_gtr (q_cond (rfl) (q_mul64 (fun n14 =>
q_gtr (q_cond (rfl) (rfl))))))))))))))
theorem eb33 : (fun c => wr33 c) = fun c => f33 (BA sgTab siteTab (ct33 c)) := ew33.trans (funext fun c => funext fun ls => funext fun h => funext fun K => (pf33 c ls h K).symm)
theorem ok33 {c : CallB} (hc : Cok c) : Ent 33 (w33 c) := ent_mem (ent_of (g := fun c => wr33 c) (f := fun A => f33 A) (ct := ct33) eb33 (congrFun (congrFun e33 RT) HTr) i33 (tblF_ok hc (by
    intro p hp
    cases hp))) rfl (by kernel_rfl)
/-- (crimp/sheets.Sheet).has -/
noncomputable def ct72 (c : CallB) : CallB := tblF [] c
noncomputable def b72 (c : CallB) (a0 : Int) (a1 : Int) (a2 : Int) (h : HTr) (K : Bool → HTr → RT) : RT :=
joinB (fun l12 h13 =>
unBB l12 (fun t14 l15 =>
un0B l15 (K t14 h13))) (fun j16 =>
@Bool.rec (fun _ => RT) (
j16 [.b false] h) (
mulK (.ofNat (nat_lit 4)) a0 (fun c_ => out64 c_ (fun n18 =>
mulK n18 a1 (fun c_ => out64 c_ (fun n19 =>
j16 [.b (notK (leZ n19 a2))] h))))) (leZ (.ofNat (nat_lit 0)) a2))
noncomputable def wq72 (c : CallB) : FB := fun ls h K => unIB ls fun a0 l0 => unIB l0 fun a1 l1 => unIB l1 fun a2 l2 => un0B l2 (b72 c a0 a1 a2 h (fun r0 h => K [.b r0] h))
noncomputable def wr72 (c : CallB) : FB := fun ls h K => @List.rec Lf (fun _ => RT) none (fun x0 l0 _ => @Lf.rec (fun _ => RT) (fun a0 => @List.rec Lf (fun _ => RT) none (fun x1 l1 _ => @Lf.rec (fun _ => RT) (fun a1 => @List.rec Lf (fun _ => RT) none (fun x2 l2 _ => @Lf.rec (fun _ => RT) (fun a2 => @List.rec Lf (fun _ => RT) (b72 c a0 a1 a2 h (fun r0 h => K [.b r0] h)) (fun _ _ _ => none) l2) (fun _ => none) (fun _ => none) x2) l1) (fun _ => none) (fun _ => none) x1) l0) (fun _ => none) (fun _ => none) x0) ls
theorem ew72 : (fun c => wr72 c) = fun c => wq72 c := by kernel_rfl
noncomputable def w72 (c : CallB) : FB := memo (wr72 c)
noncomputable def mc72 (c : CallB) (a0 : Int) (a1 : Int) (a2 : Int) (h : HTr) (K : Bool → HTr → RT) : RT := fI a0 fun a0 => fI a1 fun a1 => fI a2 fun a2 => @Option.rec _ (fun _ => RT) none (fun rs => unBB rs fun r0 l0 => un0B l0 (K r0 h)) (b72 c a0 a1 a2 .empty (fun r0 h => tell [.b r0] h))
theorem vm72 : (fun (c : CallB) (a0 : Int) (a1 : Int) (a2 : Int) (h : HTr) (K : Bool → HTr → RT) => w72 c [.i a0, .i a1, .i a2] h (fun rs h => unBB rs fun r0 l0 => un0B l0 (K r0 h))) = fun c a0 a1 a2 h K => mc72 c a0 a1 a2 h K := by kernel_rfl
theorem qm72 {c call : CallB} (hct : call (.f 72) = w72 c) {a0 : Int} {a1 : Int} {a2 : Int} {h : HTr} {K : List Lf → HTr → RT} {K' : Bool → HTr → RT} (hX : ∀ rs h, K rs h = unBB rs fun r0 l0 => un0B l0 (K' r0 h)) : (BA sgTab siteTab call).call 72 [.i a0, .i a1, .i a2] h K = mc72 c a0 a1 a2 h K' := by
  obtain rfl : K = fun rs h => unBB rs fun r0 l0 => un0B l0 (K' r0 h) := funext fun rs => funext fun h => hX rs h
  exact q_tab0 rfl ((congrFun (congrFun (congrFun hct _) _) _).trans (congrFun (congrFun (congrFun (congrFun (congrFun (congrFun (vm72) c) a0) a1) a2) h) K'))
theorem pf72 (c : CallB) (ls : List Lf) (h : HTr) (K : List Lf → HTr → RT) : f72 (BA sgTab siteTab (ct72 c)) ls h K = wq72 c ls h K :=
q_unI (fun n6 l7 =>
q_unI (fun n8 l9 =>
q_unI (fun n10 l11 =>
q_un0 (q_join (fun l12 h13 =>
q_unB (fun t14 l15 =>
q_un0 (rfl))) (fun j16 =>
q_geq (q_cond (q_mul64 (fun n18 =>
q_mul64 (fun n19 =>
q_lss (rfl)))) (rfl)))))))
theorem eb72 : (fun c => wr72 c) = fun c => f72 (BA sgTab siteTab (ct72 c)) := ew72.trans (funext fun c => funext fun ls => funext fun h => funext fun K => (pf72 c ls h K).symm)
theorem ok72 {c : CallB} (hc : Cok c) : Ent 72 (w72 c) := ent_mem (ent_of (g := fun c => wr72 c) (f := fun A => f72 A) (ct := ct72) eb72 (congrFun (congrFun e72 RT) HTr) i72 (tblF_ok hc (by
    intro p hp
    cases hp))) rfl (by kernel_rfl)
/-- (crimp/sheets.Sheet).cell -/
noncomputable def ct73 (c : CallB) : CallB := tblF [] c
noncomputable def b73 (c : CallB) (a0 : Int) (a1 : Int) (a2 : Int) (h : HTr) (K : Int → Int → Int → HTr → RT) : RT :=
@Bool.rec (fun _ => RT) (quoK a2 (.ofNat (nat_lit 4)) (fun c_ => out64 c_ (fun n12 =>
@Bool.rec (fun _ => RT) (remK n12 a0 (fun n13 =>
@Bool.rec (fun _ => RT) (quoK a2 (.ofNat (nat_lit 4)) (fun c_ => out64 c_ (fun n14 =>
@Bool.rec (fun _ => RT) (quoK n14 a0 (fun c_ => out64 c_ (fun n15 =>
@Bool.rec (fun _ => RT) (remK a2 (.ofNat (nat_lit 4)) (fun n16 =>
outU8 n16 (fun n17 =>
K n13 n15 n17 h))) none (isZ (.ofNat (nat_lit 4)))))) none (isZ a0)))) none (isZ (.ofNat (nat_lit 4))))) none (isZ a0)))) none (isZ (.ofNat (nat_lit 4)))
noncomputable def wq73 (c : CallB) : FB := fun ls h K => unIB ls fun a0 l0 => unIB l0 fun a1 l1 => unIB l1 fun a2 l2 => un0B l2 (b73 c a0 a1 a2 h (fun r0 r1 r2 h => K [.i r0, .i r1, .i r2] h))
noncomputable def wr73 (c : CallB) : FB := fun ls h K => @List.rec Lf (fun _ => RT) none (fun x0 l0 _ => @Lf.rec (fun _ => RT) (fun a0 => @List.rec Lf (fun _ => RT) none (fun x1 l1 _ => @Lf.rec (fun _ => RT) (fun a1 => @List.rec Lf (fun _ => RT) none (fun x2 l2 _ => @Lf.rec (fun _ => RT) (fun a2 => @List.rec Lf (fun _ => RT) (b73 c a0 a1 a2 h (fun r0 r1 r2 h => K [.i r0, .i r1, .i r2] h)) (fun _ _ _ => none) l2) (fun _ => none) (fun _ => none) x2) l1) (fun _ => none) (fun _ => none) x1) l0) (fun _ => none) (fun _ => none) x0) ls
theorem ew73 : (fun c => wr73 c) = fun c => wq73 c := by kernel_rfl
noncomputable def w73 (c : CallB) : FB := memo (wr73 c)
noncomputable def mc73 (c : CallB) (a0 : Int) (a1 : Int) (a2 : Int) (h : HTr) (K : Int → Int → Int → HTr → RT) : RT := fI a0 fun a0 => fI a1 fun a1 => fI a2 fun a2 => @Option.rec _ (fun _ => RT) none (fun rs => unIB rs fun r0 l0 => unIB l0 fun r1 l1 => unIB l1 fun r2 l2 => un0B l2 (K r0 r1 r2 h)) (b73 c a0 a1 a2 .empty (fun r0 r1 r2 h => tell [.i r0, .i r1, .i r2] h))
theorem vm73 : (fun (c : CallB) (a0 : Int) (a1 : Int) (a2 : Int) (h : HTr) (K : Int → Int → Int → HTr → RT) => w73 c [.i a0, .i a1, .i a2] h (fun rs h => unIB rs fun r0 l0 => unIB l0 fun r1 l1 => unIB l1 fun r2 l2 => un0B l2 (K r0 r1 r2 h))) = fun c a0 a1 a2 h K => mc73 c a0 a1 a2 h K := by kernel_rfl
theorem qm73 {c call : CallB} (hct : call (.f 73) = w73 c) {a0 : Int} {a1 : Int} {a2 : Int} {h : HTr} {K : List Lf → HTr → RT} {K' : Int → Int → Int → HTr → RT} (hX : ∀ rs h, K rs h = unIB rs fun r0 l0 => unIB l0 fun r1 l1 => unIB l1 fun r2 l2 => un0B l2 (K' r0 r1 r2 h)) : (BA sgTab siteTab call).call 73 [.i a0, .i a1, .i a2] h K = mc73 c a0 a1 a2 h K' := by
  obtain rfl : K = fun rs h => unIB rs fun r0 l0 => unIB l0 fun r1 l1 => unIB l1 fun r2 l2 => un0B l2 (K' r0 r1 r2 h) := funext fun rs => funext fun h => hX rs h
  exact q_tab0 rfl ((congrFun (congrFun (congrFun hct _) _) _).trans (congrFun (congrFun (congrFun (congrFun (congrFun (congrFun (vm73) c) a0) a1) a2) h) K'))
theorem pf73 (c : CallB) (ls : List Lf) (h : HTr) (K : List Lf → HTr → RT) : f73 (BA sgTab siteTab (ct73 c)) ls h K = wq73 c ls h K :=
q_unI (fun n6 l7 =>
q_unI (fun n8 l9 =>
q_unI (fun n10 l11 =>
q_un0 (q_quo64 (fun n12 =>
q_rem (fun n13 =>
q_quo64 (fun n14 =>
q_quo64 (fun n15 =>
q_rem (fun n16 =>
q_convU8 (fun n17 =>
rfl))))))))))
theorem eb73 : (fun c => wr73 c) = fun c => f73 (BA sgTab siteTab (ct73 c)) := ew73.trans (funext fun c => funext fun ls => funext fun h => funext fun K => (pf73 c ls h K).symm)
theorem ok73 {c : CallB} (hc : Cok c) : Ent 73 (w73 c) := ent_mem (ent_of (g := fun c => wr73 c) (f := fun A => f73 A) (ct := ct73) eb73 (congrFun (congrFun e73 RT) HTr) i73 (tblF_ok hc (by
    intro p hp
    cases hp))) rfl (by kernel_rfl)
/-- crimp/sheets.Cell -/
noncomputable def ct35 (c : CallB) : CallB := tblF [(33, w33 c), (72, w72 c), (73, w73 c)] c
noncomputable def b35 (c : CallB) (a0 : Int) (a1 : Int) (a2 : Int) (h : HTr) (K : Int → Int → Int → Int → HTr → RT) : RT :=
mc33 c a0 a1 h (fun r_1 h13 =>
@Bool.rec (fun _ => RT) (
mc72 c a0 a1 a2 h13 (fun r_2 h18 =>
@Bool.rec (fun _ => RT) (
mc73 c a0 a1 a2 h18 (fun r_3 r_4 r_5 h22 =>
K r_3 r_4 r_5 (.ofNat (nat_lit 0)) h22)) (
K (.ofNat (nat_lit 0)) (.ofNat (nat_lit 0)) (.ofNat (nat_lit 0)) (.ofNat (nat_lit 7)) h18) (!r_2))) (
K (.ofNat (nat_lit 0)) (.ofNat (nat_lit 0)) (.ofNat (nat_lit 0)) r_1 h13) (notK (eqZK r_1 (.ofNat (nat_lit 0)))))
noncomputable def wq35 (c : CallB) : FB := fun ls h K => unIB ls fun a0 l0 => unIB l0 fun a1 l1 => unIB l1 fun a2 l2 => un0B l2 (b35 c a0 a1 a2 h (fun r0 r1 r2 r3 h => K [.i r0, .i r1, .i r2, .i r3] h))
noncomputable def wr35 (c : CallB) : FB := fun ls h K => @List.rec Lf (fun _ => RT) none (fun x0 l0 _ => @Lf.rec (fun _ => RT) (fun a0 => @List.rec Lf (fun _ => RT) none (fun x1 l1 _ => @Lf.rec (fun _ => RT) (fun a1 => @List.rec Lf (fun _ => RT) none (fun x2 l2 _ => @Lf.rec (fun _ => RT) (fun a2 => @List.rec Lf (fun _ => RT) (b35 c a0 a1 a2 h (fun r0 r1 r2 r3 h => K [.i r0, .i r1, .i r2, .i r3] h)) (fun _ _ _ => none) l2) (fun _ => none) (fun _ => none) x2) l1) (fun _ => none) (fun _ => none) x1) l0) (fun _ => none) (fun _ => none) x0) ls
theorem ew35 : (fun c => wr35 c) = fun c => wq35 c := by kernel_rfl
noncomputable def w35 (c : CallB) : FB := memo (wr35 c)
noncomputable def mc35 (c : CallB) (a0 : Int) (a1 : Int) (a2 : Int) (h : HTr) (K : Int → Int → Int → Int → HTr → RT) : RT := fI a0 fun a0 => fI a1 fun a1 => fI a2 fun a2 => @Option.rec _ (fun _ => RT) none (fun rs => unIB rs fun r0 l0 => unIB l0 fun r1 l1 => unIB l1 fun r2 l2 => unIB l2 fun r3 l3 => un0B l3 (K r0 r1 r2 r3 h)) (b35 c a0 a1 a2 .empty (fun r0 r1 r2 r3 h => tell [.i r0, .i r1, .i r2, .i r3] h))
theorem vm35 : (fun (c : CallB) (a0 : Int) (a1 : Int) (a2 : Int) (h : HTr) (K : Int → Int → Int → Int → HTr → RT) => w35 c [.i a0, .i a1, .i a2] h (fun rs h => unIB rs fun r0 l0 => unIB l0 fun r1 l1 => unIB l1 fun r2 l2 => unIB l2 fun r3 l3 => un0B l3 (K r0 r1 r2 r3 h))) = fun c a0 a1 a2 h K => mc35 c a0 a1 a2 h K := by kernel_rfl
theorem qm35 {c call : CallB} (hct : call (.f 35) = w35 c) {a0 : Int} {a1 : Int} {a2 : Int} {h : HTr} {K : List Lf → HTr → RT} {K' : Int → Int → Int → Int → HTr → RT} (hX : ∀ rs h, K rs h = unIB rs fun r0 l0 => unIB l0 fun r1 l1 => unIB l1 fun r2 l2 => unIB l2 fun r3 l3 => un0B l3 (K' r0 r1 r2 r3 h)) : (BA sgTab siteTab call).call 35 [.i a0, .i a1, .i a2] h K = mc35 c a0 a1 a2 h K' := by
  obtain rfl : K = fun rs h => unIB rs fun r0 l0 => unIB l0 fun r1 l1 => unIB l1 fun r2 l2 => unIB l2 fun r3 l3 => un0B l3 (K' r0 r1 r2 r3 h) := funext fun rs => funext fun h => hX rs h
  exact q_tab0 rfl ((congrFun (congrFun (congrFun hct _) _) _).trans (congrFun (congrFun (congrFun (congrFun (congrFun (congrFun (vm35) c) a0) a1) a2) h) K'))
theorem pf35 (c : CallB) (ls : List Lf) (h : HTr) (K : List Lf → HTr → RT) : f35 (BA sgTab siteTab (ct35 c)) ls h K = wq35 c ls h K :=
q_unI (fun n6 l7 =>
q_unI (fun n8 l9 =>
q_unI (fun n10 l11 =>
q_un0 (qm33 rfl (fun l12 h13 =>
q_unI (fun n14 l15 =>
q_un0 (q_neq (q_cond (rfl) (qm72 rfl (fun l17 h18 =>
q_unB (fun t19 l20 =>
q_un0 (q_cond (rfl) (qm73 rfl (fun l21 h22 =>
q_unI (fun n23 l24 =>
q_unI (fun n25 l26 =>
q_unI (fun n27 l28 =>
q_un0 (rfl))))))))))))))))))
theorem eb35 : (fun c => wr35 c) = fun c => f35 (BA sgTab siteTab (ct35 c)) := ew35.trans (funext fun c => funext fun ls => funext fun h => funext fun K => (pf35 c ls h K).symm)
theorem ok35 {c : CallB} (hc : Cok c) : Ent 35 (w35 c) := ent_mem (ent_of (g := fun c => wr35 c) (f := fun A => f35 A) (ct := ct35) eb35 (congrFun (congrFun e35 RT) HTr) i35 (tblF_ok hc (by
    intro p hp
    simp only [List.mem_cons, List.not_mem_nil, or_false] at hp
    rcases hp with rfl | rfl | rfl
    · exact ok33 hc
    · exact ok72 hc
    · exact ok73 hc))) rfl (by kernel_rfl)
/-- crimp/cells.Check -/
noncomputable def ct43 (c : CallB) : CallB := tblF [] c
noncomputable def b43 (c : CallB) (a0 : Int) (a1 : Int) (a2 : Int) (h : HTr) (K : Int → HTr → RT) : RT :=
@Bool.rec (fun _ => RT) (
@Bool.rec (fun _ => RT) (
@Bool.rec (fun _ => RT) (
@Bool.rec (fun _ => RT) (
@Bool.rec (fun _ => RT) (
K (.ofNat (nat_lit 0)) h) (
K (.ofNat (nat_lit 1)) h) (notK (leZ a2 (.ofNat (nat_lit 3))))) (
K (.ofNat (nat_lit 1)) h) (notK (leZ a1 (.ofNat (nat_lit 4096))))) (
K (.ofNat (nat_lit 1)) h) (notK (leZ (.negSucc (nat_lit 4095)) a1))) (
K (.ofNat (nat_lit 1)) h) (notK (leZ a0 (.ofNat (nat_lit 4096))))) (
K (.ofNat (nat_lit 1)) h) (notK (leZ (.negSucc (nat_lit 4095)) a0))
noncomputable def wq43 (c : CallB) : FB := fun ls h K => unIB ls fun a0 l0 => unIB l0 fun a1 l1 => unIB l1 fun a2 l2 => un0B l2 (b43 c a0 a1 a2 h (fun r0 h => K [.i r0] h))
noncomputable def wr43 (c : CallB) : FB := fun ls h K => @List.rec Lf (fun _ => RT) none (fun x0 l0 _ => @Lf.rec (fun _ => RT) (fun a0 => @List.rec Lf (fun _ => RT) none (fun x1 l1 _ => @Lf.rec (fun _ => RT) (fun a1 => @List.rec Lf (fun _ => RT) none (fun x2 l2 _ => @Lf.rec (fun _ => RT) (fun a2 => @List.rec Lf (fun _ => RT) (b43 c a0 a1 a2 h (fun r0 h => K [.i r0] h)) (fun _ _ _ => none) l2) (fun _ => none) (fun _ => none) x2) l1) (fun _ => none) (fun _ => none) x1) l0) (fun _ => none) (fun _ => none) x0) ls
theorem ew43 : (fun c => wr43 c) = fun c => wq43 c := by kernel_rfl
noncomputable def w43 (c : CallB) : FB := memo (wr43 c)
noncomputable def mc43 (c : CallB) (a0 : Int) (a1 : Int) (a2 : Int) (h : HTr) (K : Int → HTr → RT) : RT := fI a0 fun a0 => fI a1 fun a1 => fI a2 fun a2 => @Option.rec _ (fun _ => RT) none (fun rs => unIB rs fun r0 l0 => un0B l0 (K r0 h)) (b43 c a0 a1 a2 .empty (fun r0 h => tell [.i r0] h))
theorem vm43 : (fun (c : CallB) (a0 : Int) (a1 : Int) (a2 : Int) (h : HTr) (K : Int → HTr → RT) => w43 c [.i a0, .i a1, .i a2] h (fun rs h => unIB rs fun r0 l0 => un0B l0 (K r0 h))) = fun c a0 a1 a2 h K => mc43 c a0 a1 a2 h K := by kernel_rfl
theorem qm43 {c call : CallB} (hct : call (.f 43) = w43 c) {a0 : Int} {a1 : Int} {a2 : Int} {h : HTr} {K : List Lf → HTr → RT} {K' : Int → HTr → RT} (hX : ∀ rs h, K rs h = unIB rs fun r0 l0 => un0B l0 (K' r0 h)) : (BA sgTab siteTab call).call 43 [.i a0, .i a1, .i a2] h K = mc43 c a0 a1 a2 h K' := by
  obtain rfl : K = fun rs h => unIB rs fun r0 l0 => un0B l0 (K' r0 h) := funext fun rs => funext fun h => hX rs h
  exact q_tab0 rfl ((congrFun (congrFun (congrFun hct _) _) _).trans (congrFun (congrFun (congrFun (congrFun (congrFun (congrFun (vm43) c) a0) a1) a2) h) K'))
theorem pf43 (c : CallB) (ls : List Lf) (h : HTr) (K : List Lf → HTr → RT) : f43 (BA sgTab siteTab (ct43 c)) ls h K = wq43 c ls h K :=
q_unI (fun n6 l7 =>
q_unI (fun n8 l9 =>
q_unI (fun n10 l11 =>
q_un0 (q_lss (q_cond (rfl) (q_gtr (q_cond (rfl) (q_lss (q_cond (rfl) (q_gtr (q_cond (rfl) (q_gtr (q_cond (rfl) (rfl))))))))))))))
theorem eb43 : (fun c => wr43 c) = fun c => f43 (BA sgTab siteTab (ct43 c)) := ew43.trans (funext fun c => funext fun ls => funext fun h => funext fun K => (pf43 c ls h K).symm)
theorem ok43 {c : CallB} (hc : Cok c) : Ent 43 (w43 c) := ent_mem (ent_of (g := fun c => wr43 c) (f := fun A => f43 A) (ct := ct43) eb43 (congrFun (congrFun e43 RT) HTr) i43 (tblF_ok hc (by
    intro p hp
    cases hp))) rfl (by kernel_rfl)
/-- crimp/sheets.Id -/
noncomputable def ct36 (c : CallB) : CallB := tblF [(33, w33 c), (43, w43 c)] c
noncomputable def b36 (c : CallB) (a0 : Int) (a1 : Int) (a2 : Int) (a3 : Int) (a4 : Int) (h : HTr) (K : Int → Int → HTr → RT) : RT :=
mc33 c a0 a1 h (fun r_1 h17 =>
@Bool.rec (fun _ => RT) (
mc43 c a2 a3 a4 h17 (fun r_2 h22 =>
@Bool.rec (fun _ => RT) (
@Bool.rec (fun _ => RT) (
@Bool.rec (fun _ => RT) (
@Bool.rec (fun _ => RT) (
@Bool.rec (fun _ => RT) (
mulK a3 a0 (fun c_ => out64 c_ (fun n30 =>
addK n30 a2 (fun c_ => out64 c_ (fun n31 =>
mulK (.ofNat (nat_lit 4)) n31 (fun c_ => out64 c_ (fun n32 =>
out64 a4 (fun n33 =>
addK n32 n33 (fun c_ => out64 c_ (fun n34 =>
K n34 (.ofNat (nat_lit 0)) h22)))))))))) (
K (.ofNat (nat_lit 0)) (.ofNat (nat_lit 7)) h22) (leZ a1 a3)) (
K (.ofNat (nat_lit 0)) (.ofNat (nat_lit 7)) h22) (notK (leZ (.ofNat (nat_lit 0)) a3))) (
K (.ofNat (nat_lit 0)) (.ofNat (nat_lit 7)) h22) (leZ a0 a2)) (
K (.ofNat (nat_lit 0)) (.ofNat (nat_lit 7)) h22) (notK (leZ (.ofNat (nat_lit 0)) a2))) (
K (.ofNat (nat_lit 0)) (.ofNat (nat_lit 7)) h22) (notK (eqZK r_2 (.ofNat (nat_lit 0)))))) (
K (.ofNat (nat_lit 0)) r_1 h17) (notK (eqZK r_1 (.ofNat (nat_lit 0)))))
noncomputable def wq36 (c : CallB) : FB := fun ls h K => unIB ls fun a0 l0 => unIB l0 fun a1 l1 => unIB l1 fun a2 l2 => unIB l2 fun a3 l3 => unIB l3 fun a4 l4 => un0B l4 (b36 c a0 a1 a2 a3 a4 h (fun r0 r1 h => K [.i r0, .i r1] h))
noncomputable def wr36 (c : CallB) : FB := fun ls h K => @List.rec Lf (fun _ => RT) none (fun x0 l0 _ => @Lf.rec (fun _ => RT) (fun a0 => @List.rec Lf (fun _ => RT) none (fun x1 l1 _ => @Lf.rec (fun _ => RT) (fun a1 => @List.rec Lf (fun _ => RT) none (fun x2 l2 _ => @Lf.rec (fun _ => RT) (fun a2 => @List.rec Lf (fun _ => RT) none (fun x3 l3 _ => @Lf.rec (fun _ => RT) (fun a3 => @List.rec Lf (fun _ => RT) none (fun x4 l4 _ => @Lf.rec (fun _ => RT) (fun a4 => @List.rec Lf (fun _ => RT) (b36 c a0 a1 a2 a3 a4 h (fun r0 r1 h => K [.i r0, .i r1] h)) (fun _ _ _ => none) l4) (fun _ => none) (fun _ => none) x4) l3) (fun _ => none) (fun _ => none) x3) l2) (fun _ => none) (fun _ => none) x2) l1) (fun _ => none) (fun _ => none) x1) l0) (fun _ => none) (fun _ => none) x0) ls
theorem ew36 : (fun c => wr36 c) = fun c => wq36 c := by kernel_rfl
noncomputable def w36 (c : CallB) : FB := memo (wr36 c)
noncomputable def mc36 (c : CallB) (a0 : Int) (a1 : Int) (a2 : Int) (a3 : Int) (a4 : Int) (h : HTr) (K : Int → Int → HTr → RT) : RT := fI a0 fun a0 => fI a1 fun a1 => fI a2 fun a2 => fI a3 fun a3 => fI a4 fun a4 => @Option.rec _ (fun _ => RT) none (fun rs => unIB rs fun r0 l0 => unIB l0 fun r1 l1 => un0B l1 (K r0 r1 h)) (b36 c a0 a1 a2 a3 a4 .empty (fun r0 r1 h => tell [.i r0, .i r1] h))
theorem vm36 : (fun (c : CallB) (a0 : Int) (a1 : Int) (a2 : Int) (a3 : Int) (a4 : Int) (h : HTr) (K : Int → Int → HTr → RT) => w36 c [.i a0, .i a1, .i a2, .i a3, .i a4] h (fun rs h => unIB rs fun r0 l0 => unIB l0 fun r1 l1 => un0B l1 (K r0 r1 h))) = fun c a0 a1 a2 a3 a4 h K => mc36 c a0 a1 a2 a3 a4 h K := by kernel_rfl
theorem qm36 {c call : CallB} (hct : call (.f 36) = w36 c) {a0 : Int} {a1 : Int} {a2 : Int} {a3 : Int} {a4 : Int} {h : HTr} {K : List Lf → HTr → RT} {K' : Int → Int → HTr → RT} (hX : ∀ rs h, K rs h = unIB rs fun r0 l0 => unIB l0 fun r1 l1 => un0B l1 (K' r0 r1 h)) : (BA sgTab siteTab call).call 36 [.i a0, .i a1, .i a2, .i a3, .i a4] h K = mc36 c a0 a1 a2 a3 a4 h K' := by
  obtain rfl : K = fun rs h => unIB rs fun r0 l0 => unIB l0 fun r1 l1 => un0B l1 (K' r0 r1 h) := funext fun rs => funext fun h => hX rs h
  exact q_tab0 rfl ((congrFun (congrFun (congrFun hct _) _) _).trans (congrFun (congrFun (congrFun (congrFun (congrFun (congrFun (congrFun (congrFun (vm36) c) a0) a1) a2) a3) a4) h) K'))
theorem pf36 (c : CallB) (ls : List Lf) (h : HTr) (K : List Lf → HTr → RT) : f36 (BA sgTab siteTab (ct36 c)) ls h K = wq36 c ls h K :=
q_unI (fun n6 l7 =>
q_unI (fun n8 l9 =>
q_unI (fun n10 l11 =>
q_unI (fun n12 l13 =>
q_unI (fun n14 l15 =>
q_un0 (qm33 rfl (fun l16 h17 =>
q_unI (fun n18 l19 =>
q_un0 (q_neq (q_cond (rfl) (qm43 rfl (fun l21 h22 =>
q_unI (fun n23 l24 =>
q_un0 (q_neq (q_cond (rfl) (q_lss (q_cond (rfl) (q_geq (q_cond (rfl) (q_lss (q_cond (rfl) (q_geq (q_cond (rfl) (q_mul64 (fun n30 =>
q_add64 (fun n31 =>
q_mul64 (fun n32 =>
q_conv64 (fun n33 =>
q_add64 (fun n34 =>
rfl)))))))))))))))))))))))))))))
theorem eb36 : (fun c => wr36 c) = fun c => f36 (BA sgTab siteTab (ct36 c)) := ew36.trans (funext fun c => funext fun ls => funext fun h => funext fun K => (pf36 c ls h K).symm)
theorem ok36 {c : CallB} (hc : Cok c) : Ent 36 (w36 c) := ent_mem (ent_of (g := fun c => wr36 c) (f := fun A => f36 A) (ct := ct36) eb36 (congrFun (congrFun e36 RT) HTr) i36 (tblF_ok hc (by
    intro p hp
    simp only [List.mem_cons, List.not_mem_nil, or_false] at hp
    rcases hp with rfl | rfl
    · exact ok33 hc
    · exact ok43 hc))) rfl (by kernel_rfl)
/-- crimp/cells.Neighbour -/
noncomputable def ct47 (c : CallB) : CallB := tblF [(43, w43 c)] c
noncomputable def b47 (c : CallB) (a0 : Int) (a1 : Int) (a2 : Int) (a3 : Int) (h : HTr) (K : Int → Int → Int → Int → HTr → RT) : RT :=
mc43 c a0 a1 a2 h (fun r_1 h15 =>
@Bool.rec (fun _ => RT) (
@Bool.rec (fun _ => RT) (
optB (inB 4 a2) (fun x20 =>
optB (inB 3 a3) (fun x21 =>
optB (pickV gl0 4 [(a2, 17), (a3, 3)] 3) (fun x22 =>
ucIB .i64 x22 (fun n23 l24 =>
ucIB .i64 l24 (fun n25 l26 =>
ucIB .u8 l26 (fun n27 l28 =>
uc0B l28 (
addK n23 a0 (fun c_ => out64 c_ (fun n29 =>
addK n25 a1 (fun c_ => out64 c_ (fun n30 =>
mc43 c n29 n30 n27 h15 (fun r_2 h32 =>
@Bool.rec (fun _ => RT) (
K n29 n30 n27 (.ofNat (nat_lit 0)) h32) (
K (.ofNat (nat_lit 0)) (.ofNat (nat_lit 0)) (.ofNat (nat_lit 0)) (.ofNat (nat_lit 3)) h32) (notK (eqZK r_2 (.ofNat (nat_lit 0))))))))))))))))) (
K (.ofNat (nat_lit 0)) (.ofNat (nat_lit 0)) (.ofNat (nat_lit 0)) (.ofNat (nat_lit 1)) h15) (notK (leZ a3 (.ofNat (nat_lit 2))))) (
K (.ofNat (nat_lit 0)) (.ofNat (nat_lit 0)) (.ofNat (nat_lit 0)) (.ofNat (nat_lit 1)) h15) (notK (eqZK r_1 (.ofNat (nat_lit 0)))))
noncomputable def wq47 (c : CallB) : FB := fun ls h K => unIB ls fun a0 l0 => unIB l0 fun a1 l1 => unIB l1 fun a2 l2 => unIB l2 fun a3 l3 => un0B l3 (b47 c a0 a1 a2 a3 h (fun r0 r1 r2 r3 h => K [.i r0, .i r1, .i r2, .i r3] h))
noncomputable def wr47 (c : CallB) : FB := fun ls h K => @List.rec Lf (fun _ => RT) none (fun x0 l0 _ => @Lf.rec (fun _ => RT) (fun a0 => @List.rec Lf (fun _ => RT) none (fun x1 l1 _ => @Lf.rec (fun _ => RT) (fun a1 => @List.rec Lf (fun _ => RT) none (fun x2 l2 _ => @Lf.rec (fun _ => RT) (fun a2 => @List.rec Lf (fun _ => RT) none (fun x3 l3 _ => @Lf.rec (fun _ => RT) (fun a3 => @List.rec Lf (fun _ => RT) (b47 c a0 a1 a2 a3 h (fun r0 r1 r2 r3 h => K [.i r0, .i r1, .i r2, .i r3] h)) (fun _ _ _ => none) l3) (fun _ => none) (fun _ => none) x3) l2) (fun _ => none) (fun _ => none) x2) l1) (fun _ => none) (fun _ => none) x1) l0) (fun _ => none) (fun _ => none) x0) ls
theorem ew47 : (fun c => wr47 c) = fun c => wq47 c := by kernel_rfl
noncomputable def w47 (c : CallB) : FB := memo (wr47 c)
noncomputable def mc47 (c : CallB) (a0 : Int) (a1 : Int) (a2 : Int) (a3 : Int) (h : HTr) (K : Int → Int → Int → Int → HTr → RT) : RT := fI a0 fun a0 => fI a1 fun a1 => fI a2 fun a2 => fI a3 fun a3 => @Option.rec _ (fun _ => RT) none (fun rs => unIB rs fun r0 l0 => unIB l0 fun r1 l1 => unIB l1 fun r2 l2 => unIB l2 fun r3 l3 => un0B l3 (K r0 r1 r2 r3 h)) (b47 c a0 a1 a2 a3 .empty (fun r0 r1 r2 r3 h => tell [.i r0, .i r1, .i r2, .i r3] h))
theorem vm47 : (fun (c : CallB) (a0 : Int) (a1 : Int) (a2 : Int) (a3 : Int) (h : HTr) (K : Int → Int → Int → Int → HTr → RT) => w47 c [.i a0, .i a1, .i a2, .i a3] h (fun rs h => unIB rs fun r0 l0 => unIB l0 fun r1 l1 => unIB l1 fun r2 l2 => unIB l2 fun r3 l3 => un0B l3 (K r0 r1 r2 r3 h))) = fun c a0 a1 a2 a3 h K => mc47 c a0 a1 a2 a3 h K := by kernel_rfl
theorem qm47 {c call : CallB} (hct : call (.f 47) = w47 c) {a0 : Int} {a1 : Int} {a2 : Int} {a3 : Int} {h : HTr} {K : List Lf → HTr → RT} {K' : Int → Int → Int → Int → HTr → RT} (hX : ∀ rs h, K rs h = unIB rs fun r0 l0 => unIB l0 fun r1 l1 => unIB l1 fun r2 l2 => unIB l2 fun r3 l3 => un0B l3 (K' r0 r1 r2 r3 h)) : (BA sgTab siteTab call).call 47 [.i a0, .i a1, .i a2, .i a3] h K = mc47 c a0 a1 a2 a3 h K' := by
  obtain rfl : K = fun rs h => unIB rs fun r0 l0 => unIB l0 fun r1 l1 => unIB l1 fun r2 l2 => unIB l2 fun r3 l3 => un0B l3 (K' r0 r1 r2 r3 h) := funext fun rs => funext fun h => hX rs h
  exact q_tab0 rfl ((congrFun (congrFun (congrFun hct _) _) _).trans (congrFun (congrFun (congrFun (congrFun (congrFun (congrFun (congrFun (vm47) c) a0) a1) a2) a3) h) K'))
theorem pf47 (c : CallB) (ls : List Lf) (h : HTr) (K : List Lf → HTr → RT) : f47 (BA sgTab siteTab (ct47 c)) ls h K = wq47 c ls h K :=
q_unI (fun n6 l7 =>
q_unI (fun n8 l9 =>
q_unI (fun n10 l11 =>
q_unI (fun n12 l13 =>
q_un0 (qm43 rfl (fun l14 h15 =>
q_unI (fun n16 l17 =>
q_un0 (q_neq (q_cond (rfl) (q_gtr (q_cond (rfl) (q_opt (fun x20 =>
q_opt (fun x21 =>
q_opt (fun x22 =>
q_ucI (fun n23 l24 =>
q_ucI (fun n25 l26 =>
q_ucI (fun n27 l28 =>
q_uc0 (q_add64 (fun n29 =>
q_add64 (fun n30 =>
qm43 rfl (fun l31 h32 =>
q_unI (fun n33 l34 =>
q_un0 (q_neq (q_cond (rfl) (rfl))))))))))))))))))))))))))
theorem eb47 : (fun c => wr47 c) = fun c => f47 (BA sgTab siteTab (ct47 c)) := ew47.trans (funext fun c => funext fun ls => funext fun h => funext fun K => (pf47 c ls h K).symm)
theorem ok47 {c : CallB} (hc : Cok c) : Ent 47 (w47 c) := ent_mem (ent_of (g := fun c => wr47 c) (f := fun A => f47 A) (ct := ct47) eb47 (congrFun (congrFun e47 RT) HTr) i47 (tblF_ok hc (by
    intro p hp
    simp only [List.mem_cons, List.not_mem_nil, or_false] at hp
    subst hp
    exact ok43 hc))) rfl (by kernel_rfl)
/-- crimp/sheets.Neighbour -/
noncomputable def ct18 (c : CallB) : CallB := tblF [(35, w35 c), (36, w36 c), (47, w47 c)] c
noncomputable def b18 (c : CallB) (a0 : Int) (a1 : Int) (a2 : Int) (a3 : Int) (h : HTr) (K : Int → Int → HTr → RT) : RT :=
mc35 c a0 a1 a2 h (fun r_1 r_2 r_3 r_4 h15 =>
@Bool.rec (fun _ => RT) (
mc47 c r_1 r_2 r_3 a3 h15 (fun r_5 r_6 r_7 r_8 h26 =>
@Bool.rec (fun _ => RT) (
mc36 c a0 a1 r_5 r_6 r_7 h26 (fun r_9 r_10 h37 =>
K r_9 r_10 h37)) (
K (.ofNat (nat_lit 0)) (.ofNat (nat_lit 1)) h26) (notK (eqZK r_8 (.ofNat (nat_lit 0)))))) (
K (.ofNat (nat_lit 0)) r_4 h15) (notK (eqZK r_4 (.ofNat (nat_lit 0)))))
noncomputable def wq18 (c : CallB) : FB := fun ls h K => unIB ls fun a0 l0 => unIB l0 fun a1 l1 => unIB l1 fun a2 l2 => unIB l2 fun a3 l3 => un0B l3 (b18 c a0 a1 a2 a3 h (fun r0 r1 h => K [.i r0, .i r1] h))
noncomputable def wr18 (c : CallB) : FB := fun ls h K => @List.rec Lf (fun _ => RT) none (fun x0 l0 _ => @Lf.rec (fun _ => RT) (fun a0 => @List.rec Lf (fun _ => RT) none (fun x1 l1 _ => @Lf.rec (fun _ => RT) (fun a1 => @List.rec Lf (fun _ => RT) none (fun x2 l2 _ => @Lf.rec (fun _ => RT) (fun a2 => @List.rec Lf (fun _ => RT) none (fun x3 l3 _ => @Lf.rec (fun _ => RT) (fun a3 => @List.rec Lf (fun _ => RT) (b18 c a0 a1 a2 a3 h (fun r0 r1 h => K [.i r0, .i r1] h)) (fun _ _ _ => none) l3) (fun _ => none) (fun _ => none) x3) l2) (fun _ => none) (fun _ => none) x2) l1) (fun _ => none) (fun _ => none) x1) l0) (fun _ => none) (fun _ => none) x0) ls
theorem ew18 : (fun c => wr18 c) = fun c => wq18 c := by kernel_rfl
noncomputable def w18 (c : CallB) : FB := memo (wr18 c)
noncomputable def mc18 (c : CallB) (a0 : Int) (a1 : Int) (a2 : Int) (a3 : Int) (h : HTr) (K : Int → Int → HTr → RT) : RT := fI a0 fun a0 => fI a1 fun a1 => fI a2 fun a2 => fI a3 fun a3 => @Option.rec _ (fun _ => RT) none (fun rs => unIB rs fun r0 l0 => unIB l0 fun r1 l1 => un0B l1 (K r0 r1 h)) (b18 c a0 a1 a2 a3 .empty (fun r0 r1 h => tell [.i r0, .i r1] h))
theorem vm18 : (fun (c : CallB) (a0 : Int) (a1 : Int) (a2 : Int) (a3 : Int) (h : HTr) (K : Int → Int → HTr → RT) => w18 c [.i a0, .i a1, .i a2, .i a3] h (fun rs h => unIB rs fun r0 l0 => unIB l0 fun r1 l1 => un0B l1 (K r0 r1 h))) = fun c a0 a1 a2 a3 h K => mc18 c a0 a1 a2 a3 h K := by kernel_rfl
theorem qm18 {c call : CallB} (hct : call (.f 18) = w18 c) {a0 : Int} {a1 : Int} {a2 : Int} {a3 : Int} {h : HTr} {K : List Lf → HTr → RT} {K' : Int → Int → HTr → RT} (hX : ∀ rs h, K rs h = unIB rs fun r0 l0 => unIB l0 fun r1 l1 => un0B l1 (K' r0 r1 h)) : (BA sgTab siteTab call).call 18 [.i a0, .i a1, .i a2, .i a3] h K = mc18 c a0 a1 a2 a3 h K' := by
  obtain rfl : K = fun rs h => unIB rs fun r0 l0 => unIB l0 fun r1 l1 => un0B l1 (K' r0 r1 h) := funext fun rs => funext fun h => hX rs h
  exact q_tab0 rfl ((congrFun (congrFun (congrFun hct _) _) _).trans (congrFun (congrFun (congrFun (congrFun (congrFun (congrFun (congrFun (vm18) c) a0) a1) a2) a3) h) K'))
theorem pf18 (c : CallB) (ls : List Lf) (h : HTr) (K : List Lf → HTr → RT) : f18 (BA sgTab siteTab (ct18 c)) ls h K = wq18 c ls h K :=
q_unI (fun n6 l7 =>
q_unI (fun n8 l9 =>
q_unI (fun n10 l11 =>
q_unI (fun n12 l13 =>
q_un0 (qm35 rfl (fun l14 h15 =>
q_unI (fun n16 l17 =>
q_unI (fun n18 l19 =>
q_unI (fun n20 l21 =>
q_unI (fun n22 l23 =>
q_un0 (q_neq (q_cond (rfl) (qm47 rfl (fun l25 h26 =>
q_unI (fun n27 l28 =>
q_unI (fun n29 l30 =>
q_unI (fun n31 l32 =>
q_unI (fun n33 l34 =>
q_un0 (q_neq (q_cond (rfl) (qm36 rfl (fun l36 h37 =>
q_unI (fun n38 l39 =>
q_unI (fun n40 l41 =>
q_un0 (rfl)))))))))))))))))))))))))
theorem eb18 : (fun c => wr18 c) = fun c => f18 (BA sgTab siteTab (ct18 c)) := ew18.trans (funext fun c => funext fun ls => funext fun h => funext fun K => (pf18 c ls h K).symm)
theorem ok18 {c : CallB} (hc : Cok c) : Ent 18 (w18 c) := ent_mem (ent_of (g := fun c => wr18 c) (f := fun A => f18 A) (ct := ct18) eb18 (congrFun (congrFun e18 RT) HTr) i18 (tblF_ok hc (by
    intro p hp
    simp only [List.mem_cons, List.not_mem_nil, or_false] at hp
    rcases hp with rfl | rfl | rfl
    · exact ok35 hc
    · exact ok36 hc
    · exact ok47 hc))) rfl (by kernel_rfl)
/-- crimp/sheets.Name -/
noncomputable def ct19 (c : CallB) : CallB := tblF [(18, w18 c)] c
noncomputable def b19 (c : CallB) (a0 : Int) (a1 : Int) (a2 : Int) (a3 : Int) (h : HTr) (K : Int → Int → Int → HTr → RT) : RT :=
mc18 c a0 a1 a2 a3 h (fun r_1 r_2 h15 =>
@Bool.rec (fun _ => RT) (
selB (notK (leZ a2 r_1)) r_1 a2 (fun n22 =>
K n22 a3 (.ofNat (nat_lit 0)) h15)) (
K (.ofNat (nat_lit 0)) (.ofNat (nat_lit 0)) r_2 h15) (notK (eqZK r_2 (.ofNat (nat_lit 0)))))
noncomputable def wq19 (c : CallB) : FB := fun ls h K => unIB ls fun a0 l0 => unIB l0 fun a1 l1 => unIB l1 fun a2 l2 => unIB l2 fun a3 l3 => un0B l3 (b19 c a0 a1 a2 a3 h (fun r0 r1 r2 h => K [.i r0, .i r1, .i r2] h))
noncomputable def wr19 (c : CallB) : FB := fun ls h K => @List.rec Lf (fun _ => RT) none (fun x0 l0 _ => @Lf.rec (fun _ => RT) (fun a0 => @List.rec Lf (fun _ => RT) none (fun x1 l1 _ => @Lf.rec (fun _ => RT) (fun a1 => @List.rec Lf (fun _ => RT) none (fun x2 l2 _ => @Lf.rec (fun _ => RT) (fun a2 => @List.rec Lf (fun _ => RT) none (fun x3 l3 _ => @Lf.rec (fun _ => RT) (fun a3 => @List.rec Lf (fun _ => RT) (b19 c a0 a1 a2 a3 h (fun r0 r1 r2 h => K [.i r0, .i r1, .i r2] h)) (fun _ _ _ => none) l3) (fun _ => none) (fun _ => none) x3) l2) (fun _ => none) (fun _ => none) x2) l1) (fun _ => none) (fun _ => none) x1) l0) (fun _ => none) (fun _ => none) x0) ls
theorem ew19 : (fun c => wr19 c) = fun c => wq19 c := by kernel_rfl
noncomputable def w19 (c : CallB) : FB := memo (wr19 c)
noncomputable def mc19 (c : CallB) (a0 : Int) (a1 : Int) (a2 : Int) (a3 : Int) (h : HTr) (K : Int → Int → Int → HTr → RT) : RT := fI a0 fun a0 => fI a1 fun a1 => fI a2 fun a2 => fI a3 fun a3 => @Option.rec _ (fun _ => RT) none (fun rs => unIB rs fun r0 l0 => unIB l0 fun r1 l1 => unIB l1 fun r2 l2 => un0B l2 (K r0 r1 r2 h)) (b19 c a0 a1 a2 a3 .empty (fun r0 r1 r2 h => tell [.i r0, .i r1, .i r2] h))
theorem vm19 : (fun (c : CallB) (a0 : Int) (a1 : Int) (a2 : Int) (a3 : Int) (h : HTr) (K : Int → Int → Int → HTr → RT) => w19 c [.i a0, .i a1, .i a2, .i a3] h (fun rs h => unIB rs fun r0 l0 => unIB l0 fun r1 l1 => unIB l1 fun r2 l2 => un0B l2 (K r0 r1 r2 h))) = fun c a0 a1 a2 a3 h K => mc19 c a0 a1 a2 a3 h K := by kernel_rfl
theorem qm19 {c call : CallB} (hct : call (.f 19) = w19 c) {a0 : Int} {a1 : Int} {a2 : Int} {a3 : Int} {h : HTr} {K : List Lf → HTr → RT} {K' : Int → Int → Int → HTr → RT} (hX : ∀ rs h, K rs h = unIB rs fun r0 l0 => unIB l0 fun r1 l1 => unIB l1 fun r2 l2 => un0B l2 (K' r0 r1 r2 h)) : (BA sgTab siteTab call).call 19 [.i a0, .i a1, .i a2, .i a3] h K = mc19 c a0 a1 a2 a3 h K' := by
  obtain rfl : K = fun rs h => unIB rs fun r0 l0 => unIB l0 fun r1 l1 => unIB l1 fun r2 l2 => un0B l2 (K' r0 r1 r2 h) := funext fun rs => funext fun h => hX rs h
  exact q_tab0 rfl ((congrFun (congrFun (congrFun hct _) _) _).trans (congrFun (congrFun (congrFun (congrFun (congrFun (congrFun (congrFun (vm19) c) a0) a1) a2) a3) h) K'))
theorem pf19 (c : CallB) (ls : List Lf) (h : HTr) (K : List Lf → HTr → RT) : f19 (BA sgTab siteTab (ct19 c)) ls h K = wq19 c ls h K :=
q_unI (fun n6 l7 =>
q_unI (fun n8 l9 =>
q_unI (fun n10 l11 =>
q_unI (fun n12 l13 =>
q_un0 (qm18 rfl (fun l14 h15 =>
q_unI (fun n16 l17 =>
q_unI (fun n18 l19 =>
q_un0 (q_neq (q_cond (rfl) (q_lss (q_sel (fun n22 =>
rfl)))))))))))))
theorem eb19 : (fun c => wr19 c) = fun c => f19 (BA sgTab siteTab (ct19 c)) := ew19.trans (funext fun c => funext fun ls => funext fun h => funext fun K => (pf19 c ls h K).symm)
theorem ok19 {c : CallB} (hc : Cok c) : Ent 19 (w19 c) := ent_mem (ent_of (g := fun c => wr19 c) (f := fun A => f19 A) (ct := ct19) eb19 (congrFun (congrFun e19 RT) HTr) i19 (tblF_ok hc (by
    intro p hp
    simp only [List.mem_cons, List.not_mem_nil, or_false] at hp
    subst hp
    exact ok18 hc))) rfl (by kernel_rfl)
/-- crimp/crimpref05.Id -/
noncomputable def ct38 (c : CallB) : CallB := tblF [] c
noncomputable def b38 (c : CallB) (a0 : Int) (a1 : Int) (a2 : Int) (a3 : Int) (a4 : Int) (h : HTr) (K : Int → HTr → RT) : RT :=
@Bool.rec (fun _ => RT) (
@Bool.rec (fun _ => RT) (
@Bool.rec (fun _ => RT) (
@Bool.rec (fun _ => RT) (
@Bool.rec (fun _ => RT) (
mulK (.ofNat (nat_lit 4)) a0 (fun c_ => out64 c_ (fun n21 =>
mulK n21 a3 (fun c_ => out64 c_ (fun n22 =>
mulK (.ofNat (nat_lit 4)) a2 (fun c_ => out64 c_ (fun n23 =>
addK n22 n23 (fun c_ => out64 c_ (fun n24 =>
out64 a4 (fun n25 =>
addK n24 n25 (fun c_ => out64 c_ (fun n26 =>
K n26 h)))))))))))) (
K (.negSucc (nat_lit 0)) h) (notK (leZ a4 (.ofNat (nat_lit 3))))) (
K (.negSucc (nat_lit 0)) h) (leZ a1 a3)) (
K (.negSucc (nat_lit 0)) h) (leZ a0 a2)) (
K (.negSucc (nat_lit 0)) h) (notK (leZ (.ofNat (nat_lit 0)) a3))) (
K (.negSucc (nat_lit 0)) h) (notK (leZ (.ofNat (nat_lit 0)) a2))
noncomputable def wq38 (c : CallB) : FB := fun ls h K => unIB ls fun a0 l0 => unIB l0 fun a1 l1 => unIB l1 fun a2 l2 => unIB l2 fun a3 l3 => unIB l3 fun a4 l4 => un0B l4 (b38 c a0 a1 a2 a3 a4 h (fun r0 h => K [.i r0] h))
noncomputable def wr38 (c : CallB) : FB := fun ls h K => @List.rec Lf (fun _ => RT) none (fun x0 l0 _ => @Lf.rec (fun _ => RT) (fun a0 => @List.rec Lf (fun _ => RT) none (fun x1 l1 _ => @Lf.rec (fun _ => RT) (fun a1 => @List.rec Lf (fun _ => RT) none (fun x2 l2 _ => @Lf.rec (fun _ => RT) (fun a2 => @List.rec Lf (fun _ => RT) none (fun x3 l3 _ => @Lf.rec (fun _ => RT) (fun a3 => @List.rec Lf (fun _ => RT) none (fun x4 l4 _ => @Lf.rec (fun _ => RT) (fun a4 => @List.rec Lf (fun _ => RT) (b38 c a0 a1 a2 a3 a4 h (fun r0 h => K [.i r0] h)) (fun _ _ _ => none) l4) (fun _ => none) (fun _ => none) x4) l3) (fun _ => none) (fun _ => none) x3) l2) (fun _ => none) (fun _ => none) x2) l1) (fun _ => none) (fun _ => none) x1) l0) (fun _ => none) (fun _ => none) x0) ls
theorem ew38 : (fun c => wr38 c) = fun c => wq38 c := by kernel_rfl
noncomputable def w38 (c : CallB) : FB := memo (wr38 c)
noncomputable def mc38 (c : CallB) (a0 : Int) (a1 : Int) (a2 : Int) (a3 : Int) (a4 : Int) (h : HTr) (K : Int → HTr → RT) : RT := fI a0 fun a0 => fI a1 fun a1 => fI a2 fun a2 => fI a3 fun a3 => fI a4 fun a4 => @Option.rec _ (fun _ => RT) none (fun rs => unIB rs fun r0 l0 => un0B l0 (K r0 h)) (b38 c a0 a1 a2 a3 a4 .empty (fun r0 h => tell [.i r0] h))
theorem vm38 : (fun (c : CallB) (a0 : Int) (a1 : Int) (a2 : Int) (a3 : Int) (a4 : Int) (h : HTr) (K : Int → HTr → RT) => w38 c [.i a0, .i a1, .i a2, .i a3, .i a4] h (fun rs h => unIB rs fun r0 l0 => un0B l0 (K r0 h))) = fun c a0 a1 a2 a3 a4 h K => mc38 c a0 a1 a2 a3 a4 h K := by kernel_rfl
theorem qm38 {c call : CallB} (hct : call (.f 38) = w38 c) {a0 : Int} {a1 : Int} {a2 : Int} {a3 : Int} {a4 : Int} {h : HTr} {K : List Lf → HTr → RT} {K' : Int → HTr → RT} (hX : ∀ rs h, K rs h = unIB rs fun r0 l0 => un0B l0 (K' r0 h)) : (BA sgTab siteTab call).call 38 [.i a0, .i a1, .i a2, .i a3, .i a4] h K = mc38 c a0 a1 a2 a3 a4 h K' := by
  obtain rfl : K = fun rs h => unIB rs fun r0 l0 => un0B l0 (K' r0 h) := funext fun rs => funext fun h => hX rs h
  exact q_tab0 rfl ((congrFun (congrFun (congrFun hct _) _) _).trans (congrFun (congrFun (congrFun (congrFun (congrFun (congrFun (congrFun (congrFun (vm38) c) a0) a1) a2) a3) a4) h) K'))
theorem pf38 (c : CallB) (ls : List Lf) (h : HTr) (K : List Lf → HTr → RT) : f38 (BA sgTab siteTab (ct38 c)) ls h K = wq38 c ls h K :=
q_unI (fun n6 l7 =>
q_unI (fun n8 l9 =>
q_unI (fun n10 l11 =>
q_unI (fun n12 l13 =>
q_unI (fun n14 l15 =>
q_un0 (q_lss (q_cond (rfl) (q_lss (q_cond (rfl) (q_geq (q_cond (rfl) (q_geq (q_cond (rfl) (q_gtr (q_cond (rfl) (q_mul64 (fun n21 =>
q_mul64 (fun n22 =>
q_mul64 (fun n23 =>
q_add64 (fun n24 =>
q_conv64 (fun n25 =>
q_add64 (fun n26 =>
rfl))))))))))))))))))))))
theorem eb38 : (fun c => wr38 c) = fun c => f38 (BA sgTab siteTab (ct38 c)) := ew38.trans (funext fun c => funext fun ls => funext fun h => funext fun K => (pf38 c ls h K).symm)
theorem ok38 {c : CallB} (hc : Cok c) : Ent 38 (w38 c) := ent_mem (ent_of (g := fun c => wr38 c) (f := fun A => f38 A) (ct := ct38) eb38 (congrFun (congrFun e38 RT) HTr) i38 (tblF_ok hc (by
    intro p hp
    cases hp))) rfl (by kernel_rfl)
/-- crimp/crimpref03.Corners -/
noncomputable def ct45 (c : CallB) : CallB := tblF [] c
noncomputable def b45 (c : CallB) (a0 : Int) (a1 : Int) (a2 : Int) (h : HTr) (K : Int → Int → Int → Int → Int → Int → HTr → RT) : RT :=
mulK (.ofNat (nat_lit 2)) a0 (fun c_ => out64 c_ (fun n12 =>
mulK (.ofNat (nat_lit 2)) a1 (fun c_ => out64 c_ (fun n13 =>
addK n12 (.ofNat (nat_lit 2)) (fun c_ => out64 c_ (fun n14 =>
addK n12 (.ofNat (nat_lit 2)) (fun c_ => out64 c_ (fun n15 =>
addK n13 (.ofNat (nat_lit 2)) (fun c_ => out64 c_ (fun n16 =>
addK n13 (.ofNat (nat_lit 2)) (fun c_ => out64 c_ (fun n17 =>
out64 a2 (fun n18 =>
out64 a2 (fun n19 =>
addK n19 (.ofNat (nat_lit 1)) (fun c_ => out64 c_ (fun n20 =>
@Bool.rec (fun _ => RT) (remK n20 (.ofNat (nat_lit 4)) (fun n21 =>
@Bool.rec (fun _ => RT) (remK n18 (.ofNat (nat_lit 2)) (fun n22 =>
joinB (fun l24 h25 =>
unIB l24 (fun n26 l27 =>
unIB l27 (fun n28 l29 =>
un0B l29 (addK n12 (.ofNat (nat_lit 1)) (fun c_ => out64 c_ (fun n30 =>
addK n13 (.ofNat (nat_lit 1)) (fun c_ => out64 c_ (fun n31 =>
optB (inB 4 n26) (fun x32 =>
optB (pickL [(.i n12), (.i n13), (.i n14), (.i n13), (.i n15), (.i n16), (.i n12), (.i n17)] 0 [(n26, 2)] 2) (fun x33 =>
unIB x33 (fun n34 l35 =>
unIB l35 (fun n36 l37 =>
un0B l37 (optB (inB 4 n28) (fun x38 =>
optB (pickL [(.i n12), (.i n13), (.i n14), (.i n13), (.i n15), (.i n16), (.i n12), (.i n17)] 0 [(n28, 2)] 2) (fun x39 =>
unIB x39 (fun n40 l41 =>
unIB l41 (fun n42 l43 =>
un0B l43 (K n30 n31 n34 n36 n40 n42 h25)))))))))))))))))) (fun j44 =>
@Bool.rec (fun _ => RT) (
j44 [.i n18, .i n21] h) (
j44 [.i n21, .i n18] h) (eqZK n22 (.ofNat (nat_lit 1)))))) none (isZ (.ofNat (nat_lit 2))))) none (isZ (.ofNat (nat_lit 4)))))))))))))))))))
noncomputable def wq45 (c : CallB) : FB := fun ls h K => unIB ls fun a0 l0 => unIB l0 fun a1 l1 => unIB l1 fun a2 l2 => un0B l2 (b45 c a0 a1 a2 h (fun r0 r1 r2 r3 r4 r5 h => K [.i r0, .i r1, .i r2, .i r3, .i r4, .i r5] h))
noncomputable def wr45 (c : CallB) : FB := fun ls h K => @List.rec Lf (fun _ => RT) none (fun x0 l0 _ => @Lf.rec (fun _ => RT) (fun a0 => @List.rec Lf (fun _ => RT) none (fun x1 l1 _ => @Lf.rec (fun _ => RT) (fun a1 => @List.rec Lf (fun _ => RT) none (fun x2 l2 _ => @Lf.rec (fun _ => RT) (fun a2 => @List.rec Lf (fun _ => RT) (b45 c a0 a1 a2 h (fun r0 r1 r2 r3 r4 r5 h => K [.i r0, .i r1, .i r2, .i r3, .i r4, .i r5] h)) (fun _ _ _ => none) l2) (fun _ => none) (fun _ => none) x2) l1) (fun _ => none) (fun _ => none) x1) l0) (fun _ => none) (fun _ => none) x0) ls
theorem ew45 : (fun c => wr45 c) = fun c => wq45 c := by kernel_rfl
noncomputable def w45 (c : CallB) : FB := memo (wr45 c)
noncomputable def mc45 (c : CallB) (a0 : Int) (a1 : Int) (a2 : Int) (h : HTr) (K : Int → Int → Int → Int → Int → Int → HTr → RT) : RT := fI a0 fun a0 => fI a1 fun a1 => fI a2 fun a2 => @Option.rec _ (fun _ => RT) none (fun rs => unIB rs fun r0 l0 => unIB l0 fun r1 l1 => unIB l1 fun r2 l2 => unIB l2 fun r3 l3 => unIB l3 fun r4 l4 => unIB l4 fun r5 l5 => un0B l5 (K r0 r1 r2 r3 r4 r5 h)) (b45 c a0 a1 a2 .empty (fun r0 r1 r2 r3 r4 r5 h => tell [.i r0, .i r1, .i r2, .i r3, .i r4, .i r5] h))
theorem vm45 : (fun (c : CallB) (a0 : Int) (a1 : Int) (a2 : Int) (h : HTr) (K : Int → Int → Int → Int → Int → Int → HTr → RT) => w45 c [.i a0, .i a1, .i a2] h (fun rs h => unIB rs fun r0 l0 => unIB l0 fun r1 l1 => unIB l1 fun r2 l2 => unIB l2 fun r3 l3 => unIB l3 fun r4 l4 => unIB l4 fun r5 l5 => un0B l5 (K r0 r1 r2 r3 r4 r5 h))) = fun c a0 a1 a2 h K => mc45 c a0 a1 a2 h K := by kernel_rfl
theorem qm45 {c call : CallB} (hct : call (.f 45) = w45 c) {a0 : Int} {a1 : Int} {a2 : Int} {h : HTr} {K : List Lf → HTr → RT} {K' : Int → Int → Int → Int → Int → Int → HTr → RT} (hX : ∀ rs h, K rs h = unIB rs fun r0 l0 => unIB l0 fun r1 l1 => unIB l1 fun r2 l2 => unIB l2 fun r3 l3 => unIB l3 fun r4 l4 => unIB l4 fun r5 l5 => un0B l5 (K' r0 r1 r2 r3 r4 r5 h)) : (BA sgTab siteTab call).call 45 [.i a0, .i a1, .i a2] h K = mc45 c a0 a1 a2 h K' := by
  obtain rfl : K = fun rs h => unIB rs fun r0 l0 => unIB l0 fun r1 l1 => unIB l1 fun r2 l2 => unIB l2 fun r3 l3 => unIB l3 fun r4 l4 => unIB l4 fun r5 l5 => un0B l5 (K' r0 r1 r2 r3 r4 r5 h) := funext fun rs => funext fun h => hX rs h
  exact q_tab0 rfl ((congrFun (congrFun (congrFun hct _) _) _).trans (congrFun (congrFun (congrFun (congrFun (congrFun (congrFun (vm45) c) a0) a1) a2) h) K'))
theorem pf45 (c : CallB) (ls : List Lf) (h : HTr) (K : List Lf → HTr → RT) : f45 (BA sgTab siteTab (ct45 c)) ls h K = wq45 c ls h K :=
q_unI (fun n6 l7 =>
q_unI (fun n8 l9 =>
q_unI (fun n10 l11 =>
q_un0 (q_mul64 (fun n12 =>
q_mul64 (fun n13 =>
q_add64 (fun n14 =>
q_add64 (fun n15 =>
q_add64 (fun n16 =>
q_add64 (fun n17 =>
q_conv64 (fun n18 =>
q_conv64 (fun n19 =>
q_add64 (fun n20 =>
q_rem (fun n21 =>
q_rem (fun n22 =>
q_eql (q_join (fun l24 h25 =>
q_unI (fun n26 l27 =>
q_unI (fun n28 l29 =>
q_un0 (q_add64 (fun n30 =>
q_add64 (fun n31 =>
q_opt (fun x32 =>
q_opt (fun x33 =>
q_unI (fun n34 l35 =>
q_unI (fun n36 l37 =>
q_un0 (q_opt (fun x38 =>
q_opt (fun x39 =>
q_unI (fun n40 l41 =>
q_unI (fun n42 l43 =>
q_un0 (rfl)))))))))))))))) (fun j44 =>
q_cond (rfl) (rfl))))))))))))))))))
theorem eb45 : (fun c => wr45 c) = fun c => f45 (BA sgTab siteTab (ct45 c)) := ew45.trans (funext fun c => funext fun ls => funext fun h => funext fun K => (pf45 c ls h K).symm)
theorem ok45 {c : CallB} (hc : Cok c) : Ent 45 (w45 c) := ent_mem (ent_of (g := fun c => wr45 c) (f := fun A => f45 A) (ct := ct45) eb45 (congrFun (congrFun e45 RT) HTr) i45 (tblF_ok hc (by
    intro p hp
    cases hp))) rfl (by kernel_rfl)
/-- crimp/crimpref01.Across -/
noncomputable def ct70 (c : CallB) : CallB := tblF [] c
noncomputable def b70 (c : CallB) (a0 : Int) (h : HTr) (K : Int → Int → HTr → RT) : RT :=
@Bool.rec (fun _ => RT) (
@Bool.rec (fun _ => RT) (
@Bool.rec (fun _ => RT) (
K (.negSucc (nat_lit 0)) (.ofNat (nat_lit 1)) h) (
K (.ofNat (nat_lit 1)) (.ofNat (nat_lit 1)) h) (eqZK a0 (.ofNat (nat_lit 3)))) (
K (.ofNat (nat_lit 0)) (.ofNat (nat_lit 1)) h) (eqZK a0 (.ofNat (nat_lit 2)))) (
K (.ofNat (nat_lit 1)) (.ofNat (nat_lit 0)) h) (eqZK a0 (.ofNat (nat_lit 1)))
noncomputable def wq70 (c : CallB) : FB := fun ls h K => unIB ls fun a0 l0 => un0B l0 (b70 c a0 h (fun r0 r1 h => K [.i r0, .i r1] h))
noncomputable def wr70 (c : CallB) : FB := fun ls h K => @List.rec Lf (fun _ => RT) none (fun x0 l0 _ => @Lf.rec (fun _ => RT) (fun a0 => @List.rec Lf (fun _ => RT) (b70 c a0 h (fun r0 r1 h => K [.i r0, .i r1] h)) (fun _ _ _ => none) l0) (fun _ => none) (fun _ => none) x0) ls
theorem ew70 : (fun c => wr70 c) = fun c => wq70 c := by kernel_rfl
noncomputable def w70 (c : CallB) : FB := memo (wr70 c)
noncomputable def mc70 (c : CallB) (a0 : Int) (h : HTr) (K : Int → Int → HTr → RT) : RT := fI a0 fun a0 => @Option.rec _ (fun _ => RT) none (fun rs => unIB rs fun r0 l0 => unIB l0 fun r1 l1 => un0B l1 (K r0 r1 h)) (b70 c a0 .empty (fun r0 r1 h => tell [.i r0, .i r1] h))
theorem vm70 : (fun (c : CallB) (a0 : Int) (h : HTr) (K : Int → Int → HTr → RT) => w70 c [.i a0] h (fun rs h => unIB rs fun r0 l0 => unIB l0 fun r1 l1 => un0B l1 (K r0 r1 h))) = fun c a0 h K => mc70 c a0 h K := by kernel_rfl
theorem qm70 {c call : CallB} (hct : call (.f 70) = w70 c) {a0 : Int} {h : HTr} {K : List Lf → HTr → RT} {K' : Int → Int → HTr → RT} (hX : ∀ rs h, K rs h = unIB rs fun r0 l0 => unIB l0 fun r1 l1 => un0B l1 (K' r0 r1 h)) : (BA sgTab siteTab call).call 70 [.i a0] h K = mc70 c a0 h K' := by
  obtain rfl : K = fun rs h => unIB rs fun r0 l0 => unIB l0 fun r1 l1 => un0B l1 (K' r0 r1 h) := funext fun rs => funext fun h => hX rs h
  exact q_tab0 rfl ((congrFun (congrFun (congrFun hct _) _) _).trans (congrFun (congrFun (congrFun (congrFun (vm70) c) a0) h) K'))
theorem pf70 (c : CallB) (ls : List Lf) (h : HTr) (K : List Lf → HTr → RT) : f70 (BA sgTab siteTab (ct70 c)) ls h K = wq70 c ls h K :=
q_unI (fun n6 l7 =>
q_un0 (q_eql (q_cond (rfl) (q_eql (q_cond (rfl) (q_eql (q_cond (rfl) (rfl))))))))
theorem eb70 : (fun c => wr70 c) = fun c => f70 (BA sgTab siteTab (ct70 c)) := ew70.trans (funext fun c => funext fun ls => funext fun h => funext fun K => (pf70 c ls h K).symm)
theorem ok70 {c : CallB} (hc : Cok c) : Ent 70 (w70 c) := ent_mem (ent_of (g := fun c => wr70 c) (f := fun A => f70 A) (ct := ct70) eb70 (congrFun (congrFun e70 RT) HTr) i70 (tblF_ok hc (by
    intro p hp
    cases hp))) rfl (by kernel_rfl)
/-- crimp/crimpref03.Line -/
noncomputable def ct31 (c : CallB) : CallB := tblF [(45, w45 c), (70, w70 c)] c
noncomputable def b31 (c : CallB) (a0 : Int) (a1 : Int) (a2 : Int) (a3 : Int) (h : HTr) (K : Int → Int → HTr → RT) : RT :=
mc45 c a0 a1 a2 h (fun r_1 r_2 r_3 r_4 r_5 r_6 h15 =>
addK a3 (.ofNat (nat_lit 1)) (fun c_ => out64 c_ (fun n28 =>
@Bool.rec (fun _ => RT) (remK n28 (.ofNat (nat_lit 3)) (fun n29 =>
optB (inB 3 n29) (fun x30 =>
optB (pickL [(.i r_1), (.i r_2), (.i r_3), (.i r_4), (.i r_5), (.i r_6)] 0 [(n29, 2)] 2) (fun x31 =>
unIB x31 (fun n32 l33 =>
unIB l33 (fun n34 l35 =>
un0B l35 (addK a3 (.ofNat (nat_lit 2)) (fun c_ => out64 c_ (fun n36 =>
@Bool.rec (fun _ => RT) (remK n36 (.ofNat (nat_lit 3)) (fun n37 =>
optB (inB 3 n37) (fun x38 =>
optB (pickL [(.i r_1), (.i r_2), (.i r_3), (.i r_4), (.i r_5), (.i r_6)] 0 [(n37, 2)] 2) (fun x39 =>
unIB x39 (fun n40 l41 =>
unIB l41 (fun n42 l43 =>
un0B l43 (loopB (fun s44 l45 h46 =>
unIB l45 (fun n47 l48 =>
unIB l48 (fun n49 l50 =>
unIB l50 (fun n51 l52 =>
un0B l52 (@Bool.rec (fun _ => RT) (
K n49 n51 h46) (
mc70 c n47 h46 (fun r_7 r_8 h55 =>
mulK r_7 n32 (fun c_ => out64 c_ (fun n60 =>
mulK r_8 n34 (fun c_ => out64 c_ (fun n61 =>
addK n60 n61 (fun c_ => out64 c_ (fun n62 =>
mulK r_7 n40 (fun c_ => out64 c_ (fun n63 =>
mulK r_8 n42 (fun c_ => out64 c_ (fun n64 =>
addK n63 n64 (fun c_ => out64 c_ (fun n65 =>
joinB (fun l67 h68 =>
unIB l67 (fun n69 l70 =>
unIB l70 (fun n71 l72 =>
un0B l72 (addK n47 (.ofNat (nat_lit 1)) (fun c_ => outU8 c_ (fun n73 =>
s44 [.i n73, .i n69, .i n71] h68)))))) (fun j74 =>
@Bool.rec (fun _ => RT) (
j74 [.i n49, .i n51] h55) (
mulK r_7 n32 (fun c_ => out64 c_ (fun n75 =>
mulK r_8 n34 (fun c_ => out64 c_ (fun n76 =>
addK n75 n76 (fun c_ => out64 c_ (fun n77 =>
@Bool.rec (fun _ => RT) (quoK n77 (.ofNat (nat_lit 2)) (fun c_ => out64 c_ (fun n78 =>
j74 [.i n47, .i n78] h55))) none (isZ (.ofNat (nat_lit 2)))))))))) (eqZK n62 n65)))))))))))))))) (leZ n47 (.ofNat (nat_lit 4)))))))) [.i (.ofNat (nat_lit 1)), .i (.ofNat (nat_lit 0)), .i (.ofNat (nat_lit 0))] h15))))))) none (isZ (.ofNat (nat_lit 3)))))))))))) none (isZ (.ofNat (nat_lit 3))))))
noncomputable def wq31 (c : CallB) : FB := fun ls h K => unIB ls fun a0 l0 => unIB l0 fun a1 l1 => unIB l1 fun a2 l2 => unIB l2 fun a3 l3 => un0B l3 (b31 c a0 a1 a2 a3 h (fun r0 r1 h => K [.i r0, .i r1] h))
noncomputable def wr31 (c : CallB) : FB := fun ls h K => @List.rec Lf (fun _ => RT) none (fun x0 l0 _ => @Lf.rec (fun _ => RT) (fun a0 => @List.rec Lf (fun _ => RT) none (fun x1 l1 _ => @Lf.rec (fun _ => RT) (fun a1 => @List.rec Lf (fun _ => RT) none (fun x2 l2 _ => @Lf.rec (fun _ => RT) (fun a2 => @List.rec Lf (fun _ => RT) none (fun x3 l3 _ => @Lf.rec (fun _ => RT) (fun a3 => @List.rec Lf (fun _ => RT) (b31 c a0 a1 a2 a3 h (fun r0 r1 h => K [.i r0, .i r1] h)) (fun _ _ _ => none) l3) (fun _ => none) (fun _ => none) x3) l2) (fun _ => none) (fun _ => none) x2) l1) (fun _ => none) (fun _ => none) x1) l0) (fun _ => none) (fun _ => none) x0) ls
theorem ew31 : (fun c => wr31 c) = fun c => wq31 c := by kernel_rfl
noncomputable def w31 (c : CallB) : FB := memo (wr31 c)
noncomputable def mc31 (c : CallB) (a0 : Int) (a1 : Int) (a2 : Int) (a3 : Int) (h : HTr) (K : Int → Int → HTr → RT) : RT := fI a0 fun a0 => fI a1 fun a1 => fI a2 fun a2 => fI a3 fun a3 => @Option.rec _ (fun _ => RT) none (fun rs => unIB rs fun r0 l0 => unIB l0 fun r1 l1 => un0B l1 (K r0 r1 h)) (b31 c a0 a1 a2 a3 .empty (fun r0 r1 h => tell [.i r0, .i r1] h))
theorem vm31 : (fun (c : CallB) (a0 : Int) (a1 : Int) (a2 : Int) (a3 : Int) (h : HTr) (K : Int → Int → HTr → RT) => w31 c [.i a0, .i a1, .i a2, .i a3] h (fun rs h => unIB rs fun r0 l0 => unIB l0 fun r1 l1 => un0B l1 (K r0 r1 h))) = fun c a0 a1 a2 a3 h K => mc31 c a0 a1 a2 a3 h K := by kernel_rfl
theorem qm31 {c call : CallB} (hct : call (.f 31) = w31 c) {a0 : Int} {a1 : Int} {a2 : Int} {a3 : Int} {h : HTr} {K : List Lf → HTr → RT} {K' : Int → Int → HTr → RT} (hX : ∀ rs h, K rs h = unIB rs fun r0 l0 => unIB l0 fun r1 l1 => un0B l1 (K' r0 r1 h)) : (BA sgTab siteTab call).call 31 [.i a0, .i a1, .i a2, .i a3] h K = mc31 c a0 a1 a2 a3 h K' := by
  obtain rfl : K = fun rs h => unIB rs fun r0 l0 => unIB l0 fun r1 l1 => un0B l1 (K' r0 r1 h) := funext fun rs => funext fun h => hX rs h
  exact q_tab0 rfl ((congrFun (congrFun (congrFun hct _) _) _).trans (congrFun (congrFun (congrFun (congrFun (congrFun (congrFun (congrFun (vm31) c) a0) a1) a2) a3) h) K'))
theorem pf31 (c : CallB) (ls : List Lf) (h : HTr) (K : List Lf → HTr → RT) : f31 (BA sgTab siteTab (ct31 c)) ls h K = wq31 c ls h K :=
q_unI (fun n6 l7 =>
q_unI (fun n8 l9 =>
q_unI (fun n10 l11 =>
q_unI (fun n12 l13 =>
q_un0 (qm45 rfl (fun l14 h15 =>
q_unI (fun n16 l17 =>
q_unI (fun n18 l19 =>
q_unI (fun n20 l21 =>
q_unI (fun n22 l23 =>
q_unI (fun n24 l25 =>
q_unI (fun n26 l27 =>
q_un0 (q_add64 (fun n28 =>
q_rem (fun n29 =>
q_opt (fun x30 =>
q_opt (fun x31 =>
q_unI (fun n32 l33 =>
q_unI (fun n34 l35 =>
q_un0 (q_add64 (fun n36 =>
q_rem (fun n37 =>
q_opt (fun x38 =>
q_opt (fun x39 =>
q_unI (fun n40 l41 =>
q_unI (fun n42 l43 =>
q_un0 (q_loop (fun s44 l45 h46 =>
q_unI (fun n47 l48 =>
q_unI (fun n49 l50 =>
q_unI (fun n51 l52 =>
q_un0 (q_leq (q_cond (qm70 rfl (fun l54 h55 =>
q_unI (fun n56 l57 =>
q_unI (fun n58 l59 =>
q_un0 (q_mul64 (fun n60 =>
q_mul64 (fun n61 =>
q_add64 (fun n62 =>
q_mul64 (fun n63 =>
q_mul64 (fun n64 =>
q_add64 (fun n65 =>
q_eql (q_join (fun l67 h68 =>
q_unI (fun n69 l70 =>
q_unI (fun n71 l72 =>
q_un0 (q_addU8 (fun n73 =>
rfl))))) (fun j74 =>
q_cond (q_mul64 (fun n75 =>
q_mul64 (fun n76 =>
q_add64 (fun n77 =>
q_quo64 (fun n78 =>
rfl))))) (rfl)))))))))))))) (rfl))))))))))))))))))))))))))))))))))
theorem eb31 : (fun c => wr31 c) = fun c => f31 (BA sgTab siteTab (ct31 c)) := ew31.trans (funext fun c => funext fun ls => funext fun h => funext fun K => (pf31 c ls h K).symm)
theorem ok31 {c : CallB} (hc : Cok c) : Ent 31 (w31 c) := ent_mem (ent_of (g := fun c => wr31 c) (f := fun A => f31 A) (ct := ct31) eb31 (congrFun (congrFun e31 RT) HTr) i31 (tblF_ok hc (by
    intro p hp
    simp only [List.mem_cons, List.not_mem_nil, or_false] at hp
    rcases hp with rfl | rfl
    · exact ok45 hc
    · exact ok70 hc))) rfl (by kernel_rfl)
/-- crimp/crimpref01.Far -/
noncomputable def ct28 (c : CallB) : CallB := tblF [(70, w70 c)] c
noncomputable def b28 (c : CallB) (a0 : Int) (a1 : Int) (a2 : Int) (a3 : Int) (h : HTr) (K : Int → HTr → RT) : RT :=
mc70 c a0 h (fun r_1 r_2 h15 =>
mulK r_1 a2 (fun c_ => out64 c_ (fun n20 =>
mulK r_2 a3 (fun c_ => out64 c_ (fun n21 =>
addK n20 n21 (fun c_ => out64 c_ (fun n22 =>
mulK (.ofNat (nat_lit 2)) a1 (fun c_ => out64 c_ (fun n23 =>
subK n22 n23 (fun c_ => out64 c_ (fun n24 =>
K n24 h15)))))))))))
noncomputable def wq28 (c : CallB) : FB := fun ls h K => unIB ls fun a0 l0 => unIB l0 fun a1 l1 => unIB l1 fun a2 l2 => unIB l2 fun a3 l3 => un0B l3 (b28 c a0 a1 a2 a3 h (fun r0 h => K [.i r0] h))
noncomputable def wr28 (c : CallB) : FB := fun ls h K => @List.rec Lf (fun _ => RT) none (fun x0 l0 _ => @Lf.rec (fun _ => RT) (fun a0 => @List.rec Lf (fun _ => RT) none (fun x1 l1 _ => @Lf.rec (fun _ => RT) (fun a1 => @List.rec Lf (fun _ => RT) none (fun x2 l2 _ => @Lf.rec (fun _ => RT) (fun a2 => @List.rec Lf (fun _ => RT) none (fun x3 l3 _ => @Lf.rec (fun _ => RT) (fun a3 => @List.rec Lf (fun _ => RT) (b28 c a0 a1 a2 a3 h (fun r0 h => K [.i r0] h)) (fun _ _ _ => none) l3) (fun _ => none) (fun _ => none) x3) l2) (fun _ => none) (fun _ => none) x2) l1) (fun _ => none) (fun _ => none) x1) l0) (fun _ => none) (fun _ => none) x0) ls
theorem ew28 : (fun c => wr28 c) = fun c => wq28 c := by kernel_rfl
noncomputable def w28 (c : CallB) : FB := memo (wr28 c)
noncomputable def mc28 (c : CallB) (a0 : Int) (a1 : Int) (a2 : Int) (a3 : Int) (h : HTr) (K : Int → HTr → RT) : RT := fI a0 fun a0 => fI a1 fun a1 => fI a2 fun a2 => fI a3 fun a3 => @Option.rec _ (fun _ => RT) none (fun rs => unIB rs fun r0 l0 => un0B l0 (K r0 h)) (b28 c a0 a1 a2 a3 .empty (fun r0 h => tell [.i r0] h))
theorem vm28 : (fun (c : CallB) (a0 : Int) (a1 : Int) (a2 : Int) (a3 : Int) (h : HTr) (K : Int → HTr → RT) => w28 c [.i a0, .i a1, .i a2, .i a3] h (fun rs h => unIB rs fun r0 l0 => un0B l0 (K r0 h))) = fun c a0 a1 a2 a3 h K => mc28 c a0 a1 a2 a3 h K := by kernel_rfl
theorem qm28 {c call : CallB} (hct : call (.f 28) = w28 c) {a0 : Int} {a1 : Int} {a2 : Int} {a3 : Int} {h : HTr} {K : List Lf → HTr → RT} {K' : Int → HTr → RT} (hX : ∀ rs h, K rs h = unIB rs fun r0 l0 => un0B l0 (K' r0 h)) : (BA sgTab siteTab call).call 28 [.i a0, .i a1, .i a2, .i a3] h K = mc28 c a0 a1 a2 a3 h K' := by
  obtain rfl : K = fun rs h => unIB rs fun r0 l0 => un0B l0 (K' r0 h) := funext fun rs => funext fun h => hX rs h
  exact q_tab0 rfl ((congrFun (congrFun (congrFun hct _) _) _).trans (congrFun (congrFun (congrFun (congrFun (congrFun (congrFun (congrFun (vm28) c) a0) a1) a2) a3) h) K'))
theorem pf28 (c : CallB) (ls : List Lf) (h : HTr) (K : List Lf → HTr → RT) : f28 (BA sgTab siteTab (ct28 c)) ls h K = wq28 c ls h K :=
q_unI (fun n6 l7 =>
q_unI (fun n8 l9 =>
q_unI (fun n10 l11 =>
q_unI (fun n12 l13 =>
q_un0 (qm70 rfl (fun l14 h15 =>
q_unI (fun n16 l17 =>
q_unI (fun n18 l19 =>
q_un0 (q_mul64 (fun n20 =>
q_mul64 (fun n21 =>
q_add64 (fun n22 =>
q_mul64 (fun n23 =>
q_sub64 (fun n24 =>
rfl))))))))))))))
theorem eb28 : (fun c => wr28 c) = fun c => f28 (BA sgTab siteTab (ct28 c)) := ew28.trans (funext fun c => funext fun ls => funext fun h => funext fun K => (pf28 c ls h K).symm)
theorem ok28 {c : CallB} (hc : Cok c) : Ent 28 (w28 c) := ent_mem (ent_of (g := fun c => wr28 c) (f := fun A => f28 A) (ct := ct28) eb28 (congrFun (congrFun e28 RT) HTr) i28 (tblF_ok hc (by
    intro p hp
    simp only [List.mem_cons, List.not_mem_nil, or_false] at hp
    subst hp
    exact ok70 hc))) rfl (by kernel_rfl)
/-- crimp/crimpref01.Reflect -/
noncomputable def ct76 (c : CallB) : CallB := tblF [(28, w28 c), (70, w70 c)] c
noncomputable def b76 (c : CallB) (a0 : Int) (a1 : Int) (a2 : Int) (a3 : Int) (h : HTr) (K : Int → Int → HTr → RT) : RT :=
mc70 c a0 h (fun r_1 r_2 h15 =>
mc28 c a0 a1 a2 a3 h15 (fun r_3 h21 =>
mulK (.ofNat (nat_lit 2)) r_3 (fun c_ => out64 c_ (fun n24 =>
mulK r_1 r_1 (fun c_ => out64 c_ (fun n25 =>
mulK r_2 r_2 (fun c_ => out64 c_ (fun n26 =>
addK n25 n26 (fun c_ => out64 c_ (fun n27 =>
@Bool.rec (fun _ => RT) (quoK n24 n27 (fun c_ => out64 c_ (fun n28 =>
mulK n28 r_1 (fun c_ => out64 c_ (fun n29 =>
subK a2 n29 (fun c_ => out64 c_ (fun n30 =>
mulK n28 r_2 (fun c_ => out64 c_ (fun n31 =>
subK a3 n31 (fun c_ => out64 c_ (fun n32 =>
K n30 n32 h21))))))))))) none (isZ n27)))))))))))
noncomputable def wq76 (c : CallB) : FB := fun ls h K => unIB ls fun a0 l0 => unIB l0 fun a1 l1 => unIB l1 fun a2 l2 => unIB l2 fun a3 l3 => un0B l3 (b76 c a0 a1 a2 a3 h (fun r0 r1 h => K [.i r0, .i r1] h))
noncomputable def wr76 (c : CallB) : FB := fun ls h K => @List.rec Lf (fun _ => RT) none (fun x0 l0 _ => @Lf.rec (fun _ => RT) (fun a0 => @List.rec Lf (fun _ => RT) none (fun x1 l1 _ => @Lf.rec (fun _ => RT) (fun a1 => @List.rec Lf (fun _ => RT) none (fun x2 l2 _ => @Lf.rec (fun _ => RT) (fun a2 => @List.rec Lf (fun _ => RT) none (fun x3 l3 _ => @Lf.rec (fun _ => RT) (fun a3 => @List.rec Lf (fun _ => RT) (b76 c a0 a1 a2 a3 h (fun r0 r1 h => K [.i r0, .i r1] h)) (fun _ _ _ => none) l3) (fun _ => none) (fun _ => none) x3) l2) (fun _ => none) (fun _ => none) x2) l1) (fun _ => none) (fun _ => none) x1) l0) (fun _ => none) (fun _ => none) x0) ls
theorem ew76 : (fun c => wr76 c) = fun c => wq76 c := by kernel_rfl
noncomputable def w76 (c : CallB) : FB := memo (wr76 c)
noncomputable def mc76 (c : CallB) (a0 : Int) (a1 : Int) (a2 : Int) (a3 : Int) (h : HTr) (K : Int → Int → HTr → RT) : RT := fI a0 fun a0 => fI a1 fun a1 => fI a2 fun a2 => fI a3 fun a3 => @Option.rec _ (fun _ => RT) none (fun rs => unIB rs fun r0 l0 => unIB l0 fun r1 l1 => un0B l1 (K r0 r1 h)) (b76 c a0 a1 a2 a3 .empty (fun r0 r1 h => tell [.i r0, .i r1] h))
theorem vm76 : (fun (c : CallB) (a0 : Int) (a1 : Int) (a2 : Int) (a3 : Int) (h : HTr) (K : Int → Int → HTr → RT) => w76 c [.i a0, .i a1, .i a2, .i a3] h (fun rs h => unIB rs fun r0 l0 => unIB l0 fun r1 l1 => un0B l1 (K r0 r1 h))) = fun c a0 a1 a2 a3 h K => mc76 c a0 a1 a2 a3 h K := by kernel_rfl
theorem qm76 {c call : CallB} (hct : call (.f 76) = w76 c) {a0 : Int} {a1 : Int} {a2 : Int} {a3 : Int} {h : HTr} {K : List Lf → HTr → RT} {K' : Int → Int → HTr → RT} (hX : ∀ rs h, K rs h = unIB rs fun r0 l0 => unIB l0 fun r1 l1 => un0B l1 (K' r0 r1 h)) : (BA sgTab siteTab call).call 76 [.i a0, .i a1, .i a2, .i a3] h K = mc76 c a0 a1 a2 a3 h K' := by
  obtain rfl : K = fun rs h => unIB rs fun r0 l0 => unIB l0 fun r1 l1 => un0B l1 (K' r0 r1 h) := funext fun rs => funext fun h => hX rs h
  exact q_tab0 rfl ((congrFun (congrFun (congrFun hct _) _) _).trans (congrFun (congrFun (congrFun (congrFun (congrFun (congrFun (congrFun (vm76) c) a0) a1) a2) a3) h) K'))
theorem pf76 (c : CallB) (ls : List Lf) (h : HTr) (K : List Lf → HTr → RT) : f76 (BA sgTab siteTab (ct76 c)) ls h K = wq76 c ls h K :=
q_unI (fun n6 l7 =>
q_unI (fun n8 l9 =>
q_unI (fun n10 l11 =>
q_unI (fun n12 l13 =>
q_un0 (qm70 rfl (fun l14 h15 =>
q_unI (fun n16 l17 =>
q_unI (fun n18 l19 =>
q_un0 (qm28 rfl (fun l20 h21 =>
q_unI (fun n22 l23 =>
q_un0 (q_mul64 (fun n24 =>
q_mul64 (fun n25 =>
q_mul64 (fun n26 =>
q_add64 (fun n27 =>
q_quo64 (fun n28 =>
q_mul64 (fun n29 =>
q_sub64 (fun n30 =>
q_mul64 (fun n31 =>
q_sub64 (fun n32 =>
rfl)))))))))))))))))))))
theorem eb76 : (fun c => wr76 c) = fun c => f76 (BA sgTab siteTab (ct76 c)) := ew76.trans (funext fun c => funext fun ls => funext fun h => funext fun K => (pf76 c ls h K).symm)
theorem ok76 {c : CallB} (hc : Cok c) : Ent 76 (w76 c) := ent_mem (ent_of (g := fun c => wr76 c) (f := fun A => f76 A) (ct := ct76) eb76 (congrFun (congrFun e76 RT) HTr) i76 (tblF_ok hc (by
    intro p hp
    simp only [List.mem_cons, List.not_mem_nil, or_false] at hp
    rcases hp with rfl | rfl
    · exact ok28 hc
    · exact ok70 hc))) rfl (by kernel_rfl)
/-- crimp/crimpref03.With -/
noncomputable def ct77 (c : CallB) : CallB := tblF [(45, w45 c)] c
noncomputable def b77 (c : CallB) (a0 : Int) (a1 : Int) (a2 : Int) (a3 : Int) (a4 : Int) (a5 : Int) (h : HTr) (K : Int → Int → Int → HTr → RT) : RT :=
loopB (fun s18 l19 h20 =>
unIB l19 (fun n21 l22 =>
un0B l22 (@Bool.rec (fun _ => RT) (
K (.ofNat (nat_lit 0)) (.ofNat (nat_lit 0)) (.ofNat (nat_lit 4)) h20) (
joinB (fun l24 h25 =>
un0B l24 (addK n21 (.ofNat (nat_lit 1)) (fun c_ => out64 c_ (fun n26 =>
s18 [.i n26] h25)))) (fun j27 =>
optB (inB 3 n21) (fun x28 =>
optB (pickL [(.i a0), (.i a1), (.i a2), (.i a3), (.i a4), (.i a5)] 0 [(n21, 2)] 2) (fun x29 =>
unIB x29 (fun n30 l31 =>
unIB l31 (fun n32 l33 =>
un0B l33 (addK n21 (.ofNat (nat_lit 1)) (fun c_ => out64 c_ (fun n34 =>
@Bool.rec (fun _ => RT) (remK n34 (.ofNat (nat_lit 3)) (fun n35 =>
optB (inB 3 n35) (fun x36 =>
optB (pickL [(.i a0), (.i a1), (.i a2), (.i a3), (.i a4), (.i a5)] 0 [(n35, 2)] 2) (fun x37 =>
unIB x37 (fun n38 l39 =>
unIB l39 (fun n40 l41 =>
un0B l41 (addK n21 (.ofNat (nat_lit 2)) (fun c_ => out64 c_ (fun n42 =>
@Bool.rec (fun _ => RT) (remK n42 (.ofNat (nat_lit 3)) (fun n43 =>
optB (inB 3 n43) (fun x44 =>
optB (pickL [(.i a0), (.i a1), (.i a2), (.i a3), (.i a4), (.i a5)] 0 [(n43, 2)] 2) (fun x45 =>
unIB x45 (fun n46 l47 =>
unIB l47 (fun n48 l49 =>
un0B l49 (@Bool.rec (fun _ => RT) (remK n30 (.ofNat (nat_lit 2)) (fun n50 =>
@Bool.rec (fun _ => RT) (
@Bool.rec (fun _ => RT) (remK n32 (.ofNat (nat_lit 2)) (fun n52 =>
@Bool.rec (fun _ => RT) (
loopB (fun s54 l55 h56 =>
unIB l55 (fun n57 l58 =>
un0B l58 (@Bool.rec (fun _ => RT) (
j27 [] h56) (
subK n30 (.ofNat (nat_lit 1)) (fun c_ => out64 c_ (fun n60 =>
@Bool.rec (fun _ => RT) (quoK n60 (.ofNat (nat_lit 2)) (fun c_ => out64 c_ (fun n61 =>
subK n32 (.ofNat (nat_lit 1)) (fun c_ => out64 c_ (fun n62 =>
@Bool.rec (fun _ => RT) (quoK n62 (.ofNat (nat_lit 2)) (fun c_ => out64 c_ (fun n63 =>
mc45 c n61 n63 n57 h56 (fun r_1 r_2 r_3 r_4 r_5 r_6 h65 =>
@Bool.rec (fun _ => RT) (
@Bool.rec (fun _ => RT) (
addK n57 (.ofNat (nat_lit 1)) (fun c_ => outU8 c_ (fun n87 =>
s54 [.i n87] h65))) (
@Bool.rec (fun _ => RT) (
addK n57 (.ofNat (nat_lit 1)) (fun c_ => outU8 c_ (fun n86 =>
s54 [.i n86] h65))) (
K n61 n63 n57 h65) (@Bool.rec (fun _ => Bool) false (@Bool.rec (fun _ => Bool) false true (eqZK r_6 n40)) (eqZK r_5 n38))) (@Bool.rec (fun _ => Bool) false (@Bool.rec (fun _ => Bool) false true (eqZK r_4 n48)) (eqZK r_3 n46))) (
@Bool.rec (fun _ => RT) (
@Bool.rec (fun _ => RT) (
addK n57 (.ofNat (nat_lit 1)) (fun c_ => outU8 c_ (fun n83 =>
s54 [.i n83] h65))) (
@Bool.rec (fun _ => RT) (
addK n57 (.ofNat (nat_lit 1)) (fun c_ => outU8 c_ (fun n82 =>
s54 [.i n82] h65))) (
K n61 n63 n57 h65) (@Bool.rec (fun _ => Bool) false (@Bool.rec (fun _ => Bool) false true (eqZK r_6 n40)) (eqZK r_5 n38))) (@Bool.rec (fun _ => Bool) false (@Bool.rec (fun _ => Bool) false true (eqZK r_4 n48)) (eqZK r_3 n46))) (
K n61 n63 n57 h65) (@Bool.rec (fun _ => Bool) false (@Bool.rec (fun _ => Bool) false true (eqZK r_6 n48)) (eqZK r_5 n46))) (@Bool.rec (fun _ => Bool) false (@Bool.rec (fun _ => Bool) false true (eqZK r_4 n40)) (eqZK r_3 n38)))))) none (isZ (.ofNat (nat_lit 2)))))))) none (isZ (.ofNat (nat_lit 2)))))) (notK (leZ (.ofNat (nat_lit 4)) n57))))) [.i (.ofNat (nat_lit 0))] h20) (
j27 [] h20) (eqZK n52 (.ofNat (nat_lit 0))))) none (isZ (.ofNat (nat_lit 2)))) (
j27 [] h20) (eqZK n50 (.ofNat (nat_lit 0))))) none (isZ (.ofNat (nat_lit 2)))))))))) none (isZ (.ofNat (nat_lit 3)))))))))))) none (isZ (.ofNat (nat_lit 3)))))))))))) (notK (leZ (.ofNat (nat_lit 3)) n21))))) [.i (.ofNat (nat_lit 0))] h
noncomputable def wq77 (c : CallB) : FB := fun ls h K => unIB ls fun a0 l0 => unIB l0 fun a1 l1 => unIB l1 fun a2 l2 => unIB l2 fun a3 l3 => unIB l3 fun a4 l4 => unIB l4 fun a5 l5 => un0B l5 (b77 c a0 a1 a2 a3 a4 a5 h (fun r0 r1 r2 h => K [.i r0, .i r1, .i r2] h))
noncomputable def wr77 (c : CallB) : FB := fun ls h K => @List.rec Lf (fun _ => RT) none (fun x0 l0 _ => @Lf.rec (fun _ => RT) (fun a0 => @List.rec Lf (fun _ => RT) none (fun x1 l1 _ => @Lf.rec (fun _ => RT) (fun a1 => @List.rec Lf (fun _ => RT) none (fun x2 l2 _ => @Lf.rec (fun _ => RT) (fun a2 => @List.rec Lf (fun _ => RT) none (fun x3 l3 _ => @Lf.rec (fun _ => RT) (fun a3 => @List.rec Lf (fun _ => RT) none (fun x4 l4 _ => @Lf.rec (fun _ => RT) (fun a4 => @List.rec Lf (fun _ => RT) none (fun x5 l5 _ => @Lf.rec (fun _ => RT) (fun a5 => @List.rec Lf (fun _ => RT) (b77 c a0 a1 a2 a3 a4 a5 h (fun r0 r1 r2 h => K [.i r0, .i r1, .i r2] h)) (fun _ _ _ => none) l5) (fun _ => none) (fun _ => none) x5) l4) (fun _ => none) (fun _ => none) x4) l3) (fun _ => none) (fun _ => none) x3) l2) (fun _ => none) (fun _ => none) x2) l1) (fun _ => none) (fun _ => none) x1) l0) (fun _ => none) (fun _ => none) x0) ls
theorem ew77 : (fun c => wr77 c) = fun c => wq77 c := by kernel_rfl
noncomputable def w77 (c : CallB) : FB := memo (wr77 c)
noncomputable def mc77 (c : CallB) (a0 : Int) (a1 : Int) (a2 : Int) (a3 : Int) (a4 : Int) (a5 : Int) (h : HTr) (K : Int → Int → Int → HTr → RT) : RT := fI a0 fun a0 => fI a1 fun a1 => fI a2 fun a2 => fI a3 fun a3 => fI a4 fun a4 => fI a5 fun a5 => @Option.rec _ (fun _ => RT) none (fun rs => unIB rs fun r0 l0 => unIB l0 fun r1 l1 => unIB l1 fun r2 l2 => un0B l2 (K r0 r1 r2 h)) (b77 c a0 a1 a2 a3 a4 a5 .empty (fun r0 r1 r2 h => tell [.i r0, .i r1, .i r2] h))
theorem vm77 : (fun (c : CallB) (a0 : Int) (a1 : Int) (a2 : Int) (a3 : Int) (a4 : Int) (a5 : Int) (h : HTr) (K : Int → Int → Int → HTr → RT) => w77 c [.i a0, .i a1, .i a2, .i a3, .i a4, .i a5] h (fun rs h => unIB rs fun r0 l0 => unIB l0 fun r1 l1 => unIB l1 fun r2 l2 => un0B l2 (K r0 r1 r2 h))) = fun c a0 a1 a2 a3 a4 a5 h K => mc77 c a0 a1 a2 a3 a4 a5 h K := by kernel_rfl
theorem qm77 {c call : CallB} (hct : call (.f 77) = w77 c) {a0 : Int} {a1 : Int} {a2 : Int} {a3 : Int} {a4 : Int} {a5 : Int} {h : HTr} {K : List Lf → HTr → RT} {K' : Int → Int → Int → HTr → RT} (hX : ∀ rs h, K rs h = unIB rs fun r0 l0 => unIB l0 fun r1 l1 => unIB l1 fun r2 l2 => un0B l2 (K' r0 r1 r2 h)) : (BA sgTab siteTab call).call 77 [.i a0, .i a1, .i a2, .i a3, .i a4, .i a5] h K = mc77 c a0 a1 a2 a3 a4 a5 h K' := by
  obtain rfl : K = fun rs h => unIB rs fun r0 l0 => unIB l0 fun r1 l1 => unIB l1 fun r2 l2 => un0B l2 (K' r0 r1 r2 h) := funext fun rs => funext fun h => hX rs h
  exact q_tab0 rfl ((congrFun (congrFun (congrFun hct _) _) _).trans (congrFun (congrFun (congrFun (congrFun (congrFun (congrFun (congrFun (congrFun (congrFun (vm77) c) a0) a1) a2) a3) a4) a5) h) K'))
theorem pf77 (c : CallB) (ls : List Lf) (h : HTr) (K : List Lf → HTr → RT) : f77 (BA sgTab siteTab (ct77 c)) ls h K = wq77 c ls h K :=
q_unI (fun n6 l7 =>
q_unI (fun n8 l9 =>
q_unI (fun n10 l11 =>
q_unI (fun n12 l13 =>
q_unI (fun n14 l15 =>
q_unI (fun n16 l17 =>
q_un0 (q_loop (fun s18 l19 h20 =>
q_unI (fun n21 l22 =>
q_un0 (q_lss (q_cond (q_join (fun l24 h25 =>
q_un0 (q_add64 (fun n26 =>
rfl))) (fun j27 =>
q_opt (fun x28 =>
q_opt (fun x29 =>
q_unI (fun n30 l31 =>
q_unI (fun n32 l33 =>
q_un0 (q_add64 (fun n34 =>
q_rem (fun n35 =>
q_opt (fun x36 =>
q_opt (fun x37 =>
q_unI (fun n38 l39 =>
q_unI (fun n40 l41 =>
q_un0 (q_add64 (fun n42 =>
q_rem (fun n43 =>
q_opt (fun x44 =>
q_opt (fun x45 =>
q_unI (fun n46 l47 =>
q_unI (fun n48 l49 =>
q_un0 (q_rem (fun n50 =>
q_eql (q_cond (rfl) (q_rem (fun n52 =>
q_eql (q_cond (rfl) (q_loop (fun s54 l55 h56 =>
q_unI (fun n57 l58 =>
q_un0 (q_lss (q_cond (q_sub64 (fun n60 =>
q_quo64 (fun n61 =>
q_sub64 (fun n62 =>
q_quo64 (fun n63 =>
qm45 rfl (fun l64 h65 =>
q_unI (fun n66 l67 =>
q_unI (fun n68 l69 =>
q_unI (fun n70 l71 =>
q_unI (fun n72 l73 =>
q_unI (fun n74 l75 =>
q_unI (fun n76 l77 =>
q_un0 (q_eqs (q_cond (q_eqs (q_cond (rfl) (q_eqs (q_cond (q_eqs (q_cond (rfl) (q_addU8 (fun n82 =>
rfl)))) (q_addU8 (fun n83 =>
rfl)))))) (q_eqs (q_cond (q_eqs (q_cond (rfl) (q_addU8 (fun n86 =>
rfl)))) (q_addU8 (fun n87 =>
rfl)))))))))))))))))) (rfl)))))))))))))))))))))))))))))))) (rfl))))))))))))
theorem eb77 : (fun c => wr77 c) = fun c => f77 (BA sgTab siteTab (ct77 c)) := ew77.trans (funext fun c => funext fun ls => funext fun h => funext fun K => (pf77 c ls h K).symm)
theorem ok77 {c : CallB} (hc : Cok c) : Ent 77 (w77 c) := ent_mem (ent_of (g := fun c => wr77 c) (f := fun A => f77 A) (ct := ct77) eb77 (congrFun (congrFun e77 RT) HTr) i77 (tblF_ok hc (by
    intro p hp
    simp only [List.mem_cons, List.not_mem_nil, or_false] at hp
    subst hp
    exact ok45 hc))) rfl (by kernel_rfl)
/-- crimp/crimpref03.Neighbour -/
noncomputable def ct49 (c : CallB) : CallB := tblF [(31, w31 c), (45, w45 c), (76, w76 c), (77, w77 c)] c
noncomputable def b49 (c : CallB) (a0 : Int) (a1 : Int) (a2 : Int) (a3 : Int) (h : HTr) (K : Int → Int → Int → HTr → RT) : RT :=
mc31 c a0 a1 a2 a3 h (fun r_1 r_2 h15 =>
mc45 c a0 a1 a2 h15 (fun r_3 r_4 r_5 r_6 r_7 r_8 h21 =>
loopB (fun s34 l35 h36 =>
unIB l35 (fun n37 l38 =>
unIB l38 (fun n39 l40 =>
unIB l40 (fun n41 l42 =>
unIB l42 (fun n43 l44 =>
unIB l44 (fun n45 l46 =>
unIB l46 (fun n47 l48 =>
unIB l48 (fun n49 l50 =>
un0B l50 (@Bool.rec (fun _ => RT) (
mc77 c n39 n41 n43 n45 n47 n49 h36 (fun r_11 r_12 r_13 h80 =>
K r_11 r_12 r_13 h80)) (
optB (inB 3 n37) (fun x52 =>
optB (pickL [(.i n39), (.i n41), (.i n43), (.i n45), (.i n47), (.i n49)] 0 [(n37, 2)] 2) (fun x53 =>
unIB x53 (fun n54 l55 =>
unIB l55 (fun n56 l57 =>
un0B l57 (mc76 c r_1 r_2 n54 n56 h36 (fun r_9 r_10 h59 =>
optB (inB 3 n37) (fun x64 =>
optB (putL [(.i n39), (.i n41), (.i n43), (.i n45), (.i n47), (.i n49)] 0 [(n37, 2)] [(.i r_9), (.i r_10)]) (fun x65 =>
unIB x65 (fun n66 l67 =>
unIB l67 (fun n68 l69 =>
unIB l69 (fun n70 l71 =>
unIB l71 (fun n72 l73 =>
unIB l73 (fun n74 l75 =>
unIB l75 (fun n76 l77 =>
un0B l77 (addK n37 (.ofNat (nat_lit 1)) (fun c_ => out64 c_ (fun n78 =>
s34 [.i n78, .i n66, .i n68, .i n70, .i n72, .i n74, .i n76] h59)))))))))))))))))) (notK (leZ (.ofNat (nat_lit 3)) n37))))))))))) [.i (.ofNat (nat_lit 0)), .i r_3, .i r_4, .i r_5, .i r_6, .i r_7, .i r_8] h21))
noncomputable def wq49 (c : CallB) : FB := fun ls h K => unIB ls fun a0 l0 => unIB l0 fun a1 l1 => unIB l1 fun a2 l2 => unIB l2 fun a3 l3 => un0B l3 (b49 c a0 a1 a2 a3 h (fun r0 r1 r2 h => K [.i r0, .i r1, .i r2] h))
noncomputable def wr49 (c : CallB) : FB := fun ls h K => @List.rec Lf (fun _ => RT) none (fun x0 l0 _ => @Lf.rec (fun _ => RT) (fun a0 => @List.rec Lf (fun _ => RT) none (fun x1 l1 _ => @Lf.rec (fun _ => RT) (fun a1 => @List.rec Lf (fun _ => RT) none (fun x2 l2 _ => @Lf.rec (fun _ => RT) (fun a2 => @List.rec Lf (fun _ => RT) none (fun x3 l3 _ => @Lf.rec (fun _ => RT) (fun a3 => @List.rec Lf (fun _ => RT) (b49 c a0 a1 a2 a3 h (fun r0 r1 r2 h => K [.i r0, .i r1, .i r2] h)) (fun _ _ _ => none) l3) (fun _ => none) (fun _ => none) x3) l2) (fun _ => none) (fun _ => none) x2) l1) (fun _ => none) (fun _ => none) x1) l0) (fun _ => none) (fun _ => none) x0) ls
theorem ew49 : (fun c => wr49 c) = fun c => wq49 c := by kernel_rfl
noncomputable def w49 (c : CallB) : FB := memo (wr49 c)
noncomputable def mc49 (c : CallB) (a0 : Int) (a1 : Int) (a2 : Int) (a3 : Int) (h : HTr) (K : Int → Int → Int → HTr → RT) : RT := fI a0 fun a0 => fI a1 fun a1 => fI a2 fun a2 => fI a3 fun a3 => @Option.rec _ (fun _ => RT) none (fun rs => unIB rs fun r0 l0 => unIB l0 fun r1 l1 => unIB l1 fun r2 l2 => un0B l2 (K r0 r1 r2 h)) (b49 c a0 a1 a2 a3 .empty (fun r0 r1 r2 h => tell [.i r0, .i r1, .i r2] h))
theorem vm49 : (fun (c : CallB) (a0 : Int) (a1 : Int) (a2 : Int) (a3 : Int) (h : HTr) (K : Int → Int → Int → HTr → RT) => w49 c [.i a0, .i a1, .i a2, .i a3] h (fun rs h => unIB rs fun r0 l0 => unIB l0 fun r1 l1 => unIB l1 fun r2 l2 => un0B l2 (K r0 r1 r2 h))) = fun c a0 a1 a2 a3 h K => mc49 c a0 a1 a2 a3 h K := by kernel_rfl
theorem qm49 {c call : CallB} (hct : call (.f 49) = w49 c) {a0 : Int} {a1 : Int} {a2 : Int} {a3 : Int} {h : HTr} {K : List Lf → HTr → RT} {K' : Int → Int → Int → HTr → RT} (hX : ∀ rs h, K rs h = unIB rs fun r0 l0 => unIB l0 fun r1 l1 => unIB l1 fun r2 l2 => un0B l2 (K' r0 r1 r2 h)) : (BA sgTab siteTab call).call 49 [.i a0, .i a1, .i a2, .i a3] h K = mc49 c a0 a1 a2 a3 h K' := by
  obtain rfl : K = fun rs h => unIB rs fun r0 l0 => unIB l0 fun r1 l1 => unIB l1 fun r2 l2 => un0B l2 (K' r0 r1 r2 h) := funext fun rs => funext fun h => hX rs h
  exact q_tab0 rfl ((congrFun (congrFun (congrFun hct _) _) _).trans (congrFun (congrFun (congrFun (congrFun (congrFun (congrFun (congrFun (vm49) c) a0) a1) a2) a3) h) K'))
theorem pf49 (c : CallB) (ls : List Lf) (h : HTr) (K : List Lf → HTr → RT) : f49 (BA sgTab siteTab (ct49 c)) ls h K = wq49 c ls h K :=
q_unI (fun n6 l7 =>
q_unI (fun n8 l9 =>
q_unI (fun n10 l11 =>
q_unI (fun n12 l13 =>
q_un0 (qm31 rfl (fun l14 h15 =>
q_unI (fun n16 l17 =>
q_unI (fun n18 l19 =>
q_un0 (qm45 rfl (fun l20 h21 =>
q_unI (fun n22 l23 =>
q_unI (fun n24 l25 =>
q_unI (fun n26 l27 =>
q_unI (fun n28 l29 =>
q_unI (fun n30 l31 =>
q_unI (fun n32 l33 =>
q_un0 (q_loop (fun s34 l35 h36 =>
q_unI (fun n37 l38 =>
q_unI (fun n39 l40 =>
q_unI (fun n41 l42 =>
q_unI (fun n43 l44 =>
q_unI (fun n45 l46 =>
q_unI (fun n47 l48 =>
q_unI (fun n49 l50 =>
q_un0 (q_lss (q_cond (q_opt (fun x52 =>
q_opt (fun x53 =>
q_unI (fun n54 l55 =>
q_unI (fun n56 l57 =>
q_un0 (qm76 rfl (fun l58 h59 =>
q_unI (fun n60 l61 =>
q_unI (fun n62 l63 =>
q_un0 (q_opt (fun x64 =>
q_opt (fun x65 =>
q_unI (fun n66 l67 =>
q_unI (fun n68 l69 =>
q_unI (fun n70 l71 =>
q_unI (fun n72 l73 =>
q_unI (fun n74 l75 =>
q_unI (fun n76 l77 =>
q_un0 (q_add64 (fun n78 =>
rfl)))))))))))))))))))) (qm77 rfl (fun l79 h80 =>
q_unI (fun n81 l82 =>
q_unI (fun n83 l84 =>
q_unI (fun n85 l86 =>
q_un0 (rfl)))))))))))))))))))))))))))))))))
theorem eb49 : (fun c => wr49 c) = fun c => f49 (BA sgTab siteTab (ct49 c)) := ew49.trans (funext fun c => funext fun ls => funext fun h => funext fun K => (pf49 c ls h K).symm)
theorem ok49 {c : CallB} (hc : Cok c) : Ent 49 (w49 c) := ent_mem (ent_of (g := fun c => wr49 c) (f := fun A => f49 A) (ct := ct49) eb49 (congrFun (congrFun e49 RT) HTr) i49 (tblF_ok hc (by
    intro p hp
    simp only [List.mem_cons, List.not_mem_nil, or_false] at hp
    rcases hp with rfl | rfl | rfl | rfl
    · exact ok31 hc
    · exact ok45 hc
    · exact ok76 hc
    · exact ok77 hc))) rfl (by kernel_rfl)
/-- crimp/crimpref05.Neighbour -/
noncomputable def ct20 (c : CallB) : CallB := tblF [(38, w38 c), (49, w49 c)] c
noncomputable def b20 (c : CallB) (a0 : Int) (a1 : Int) (a2 : Int) (a3 : Int) (h : HTr) (K : Int → HTr → RT) : RT :=
@Bool.rec (fun _ => RT) (quoK a2 (.ofNat (nat_lit 4)) (fun c_ => out64 c_ (fun n14 =>
@Bool.rec (fun _ => RT) (remK n14 a0 (fun n15 =>
mulK (.ofNat (nat_lit 4)) a0 (fun c_ => out64 c_ (fun n16 =>
@Bool.rec (fun _ => RT) (quoK a2 n16 (fun c_ => out64 c_ (fun n17 =>
@Bool.rec (fun _ => RT) (remK a2 (.ofNat (nat_lit 4)) (fun n18 =>
outU8 n18 (fun n19 =>
mc49 c n15 n17 n19 a3 h (fun r_1 r_2 r_3 h21 =>
mc38 c a0 a1 r_1 r_2 r_3 h21 (fun r_4 h29 =>
K r_4 h29))))) none (isZ (.ofNat (nat_lit 4)))))) none (isZ n16))))) none (isZ a0)))) none (isZ (.ofNat (nat_lit 4)))
noncomputable def wq20 (c : CallB) : FB := fun ls h K => unIB ls fun a0 l0 => unIB l0 fun a1 l1 => unIB l1 fun a2 l2 => unIB l2 fun a3 l3 => un0B l3 (b20 c a0 a1 a2 a3 h (fun r0 h => K [.i r0] h))
noncomputable def wr20 (c : CallB) : FB := fun ls h K => @List.rec Lf (fun _ => RT) none (fun x0 l0 _ => @Lf.rec (fun _ => RT) (fun a0 => @List.rec Lf (fun _ => RT) none (fun x1 l1 _ => @Lf.rec (fun _ => RT) (fun a1 => @List.rec Lf (fun _ => RT) none (fun x2 l2 _ => @Lf.rec (fun _ => RT) (fun a2 => @List.rec Lf (fun _ => RT) none (fun x3 l3 _ => @Lf.rec (fun _ => RT) (fun a3 => @List.rec Lf (fun _ => RT) (b20 c a0 a1 a2 a3 h (fun r0 h => K [.i r0] h)) (fun _ _ _ => none) l3) (fun _ => none) (fun _ => none) x3) l2) (fun _ => none) (fun _ => none) x2) l1) (fun _ => none) (fun _ => none) x1) l0) (fun _ => none) (fun _ => none) x0) ls
theorem ew20 : (fun c => wr20 c) = fun c => wq20 c := by kernel_rfl
noncomputable def w20 (c : CallB) : FB := memo (wr20 c)
noncomputable def mc20 (c : CallB) (a0 : Int) (a1 : Int) (a2 : Int) (a3 : Int) (h : HTr) (K : Int → HTr → RT) : RT := fI a0 fun a0 => fI a1 fun a1 => fI a2 fun a2 => fI a3 fun a3 => @Option.rec _ (fun _ => RT) none (fun rs => unIB rs fun r0 l0 => un0B l0 (K r0 h)) (b20 c a0 a1 a2 a3 .empty (fun r0 h => tell [.i r0] h))
theorem vm20 : (fun (c : CallB) (a0 : Int) (a1 : Int) (a2 : Int) (a3 : Int) (h : HTr) (K : Int → HTr → RT) => w20 c [.i a0, .i a1, .i a2, .i a3] h (fun rs h => unIB rs fun r0 l0 => un0B l0 (K r0 h))) = fun c a0 a1 a2 a3 h K => mc20 c a0 a1 a2 a3 h K := by kernel_rfl
theorem qm20 {c call : CallB} (hct : call (.f 20) = w20 c) {a0 : Int} {a1 : Int} {a2 : Int} {a3 : Int} {h : HTr} {K : List Lf → HTr → RT} {K' : Int → HTr → RT} (hX : ∀ rs h, K rs h = unIB rs fun r0 l0 => un0B l0 (K' r0 h)) : (BA sgTab siteTab call).call 20 [.i a0, .i a1, .i a2, .i a3] h K = mc20 c a0 a1 a2 a3 h K' := by
  obtain rfl : K = fun rs h => unIB rs fun r0 l0 => un0B l0 (K' r0 h) := funext fun rs => funext fun h => hX rs h
  exact q_tab0 rfl ((congrFun (congrFun (congrFun hct _) _) _).trans (congrFun (congrFun (congrFun (congrFun (congrFun (congrFun (congrFun (vm20) c) a0) a1) a2) a3) h) K'))
theorem pf20 (c : CallB) (ls : List Lf) (h : HTr) (K : List Lf → HTr → RT) : f20 (BA sgTab siteTab (ct20 c)) ls h K = wq20 c ls h K :=
q_unI (fun n6 l7 =>
q_unI (fun n8 l9 =>
q_unI (fun n10 l11 =>
q_unI (fun n12 l13 =>
q_un0 (q_quo64 (fun n14 =>
q_rem (fun n15 =>
q_mul64 (fun n16 =>
q_quo64 (fun n17 =>
q_rem (fun n18 =>
q_convU8 (fun n19 =>
qm49 rfl (fun l20 h21 =>
q_unI (fun n22 l23 =>
q_unI (fun n24 l25 =>
q_unI (fun n26 l27 =>
q_un0 (qm38 rfl (fun l28 h29 =>
q_unI (fun n30 l31 =>
q_un0 (rfl)))))))))))))))))))
theorem eb20 : (fun c => wr20 c) = fun c => f20 (BA sgTab siteTab (ct20 c)) := ew20.trans (funext fun c => funext fun ls => funext fun h => funext fun K => (pf20 c ls h K).symm)
theorem ok20 {c : CallB} (hc : Cok c) : Ent 20 (w20 c) := ent_mem (ent_of (g := fun c => wr20 c) (f := fun A => f20 A) (ct := ct20) eb20 (congrFun (congrFun e20 RT) HTr) i20 (tblF_ok hc (by
    intro p hp
    simp only [List.mem_cons, List.not_mem_nil, or_false] at hp
    rcases hp with rfl | rfl
    · exact ok38 hc
    · exact ok49 hc))) rfl (by kernel_rfl)
/-- crimp/crimplaw05.unit -/
noncomputable def ct22 (c : CallB) : CallB := tblF [] c
noncomputable def b22 (c : CallB) (a0 : Int) (a1 : Int) (h : HTr) (K : Int → Int → HTr → RT) : RT :=
K a0 a1 h
noncomputable def wq22 (c : CallB) : FB := fun ls h K => unIB ls fun a0 l0 => unIB l0 fun a1 l1 => un0B l1 (b22 c a0 a1 h (fun r0 r1 h => K [.i r0, .i r1] h))
noncomputable def wr22 (c : CallB) : FB := fun ls h K => @List.rec Lf (fun _ => RT) none (fun x0 l0 _ => @Lf.rec (fun _ => RT) (fun a0 => @List.rec Lf (fun _ => RT) none (fun x1 l1 _ => @Lf.rec (fun _ => RT) (fun a1 => @List.rec Lf (fun _ => RT) (b22 c a0 a1 h (fun r0 r1 h => K [.i r0, .i r1] h)) (fun _ _ _ => none) l1) (fun _ => none) (fun _ => none) x1) l0) (fun _ => none) (fun _ => none) x0) ls
theorem ew22 : (fun c => wr22 c) = fun c => wq22 c := by kernel_rfl
noncomputable def w22 (c : CallB) : FB := memo (wr22 c)
noncomputable def mc22 (c : CallB) (a0 : Int) (a1 : Int) (h : HTr) (K : Int → Int → HTr → RT) : RT := fI a0 fun a0 => fI a1 fun a1 => @Option.rec _ (fun _ => RT) none (fun rs => unIB rs fun r0 l0 => unIB l0 fun r1 l1 => un0B l1 (K r0 r1 h)) (b22 c a0 a1 .empty (fun r0 r1 h => tell [.i r0, .i r1] h))
theorem vm22 : (fun (c : CallB) (a0 : Int) (a1 : Int) (h : HTr) (K : Int → Int → HTr → RT) => w22 c [.i a0, .i a1] h (fun rs h => unIB rs fun r0 l0 => unIB l0 fun r1 l1 => un0B l1 (K r0 r1 h))) = fun c a0 a1 h K => mc22 c a0 a1 h K := by kernel_rfl
theorem qm22 {c call : CallB} (hct : call (.f 22) = w22 c) {a0 : Int} {a1 : Int} {h : HTr} {K : List Lf → HTr → RT} {K' : Int → Int → HTr → RT} (hX : ∀ rs h, K rs h = unIB rs fun r0 l0 => unIB l0 fun r1 l1 => un0B l1 (K' r0 r1 h)) : (BA sgTab siteTab call).call 22 [.i a0, .i a1] h K = mc22 c a0 a1 h K' := by
  obtain rfl : K = fun rs h => unIB rs fun r0 l0 => unIB l0 fun r1 l1 => un0B l1 (K' r0 r1 h) := funext fun rs => funext fun h => hX rs h
  exact q_tab0 rfl ((congrFun (congrFun (congrFun hct _) _) _).trans (congrFun (congrFun (congrFun (congrFun (congrFun (vm22) c) a0) a1) h) K'))
theorem pf22 (c : CallB) (ls : List Lf) (h : HTr) (K : List Lf → HTr → RT) : f22 (BA sgTab siteTab (ct22 c)) ls h K = wq22 c ls h K :=
q_unI (fun n6 l7 =>
q_unI (fun n8 l9 =>
q_un0 (rfl)))
theorem eb22 : (fun c => wr22 c) = fun c => f22 (BA sgTab siteTab (ct22 c)) := ew22.trans (funext fun c => funext fun ls => funext fun h => funext fun K => (pf22 c ls h K).symm)
theorem ok22 {c : CallB} (hc : Cok c) : Ent 22 (w22 c) := ent_mem (ent_of (g := fun c => wr22 c) (f := fun A => f22 A) (ct := ct22) eb22 (congrFun (congrFun e22 RT) HTr) i22 (tblF_ok hc (by
    intro p hp
    cases hp))) rfl (by kernel_rfl)
/-- (crimp/sheets.Sheet).all -/
noncomputable def ct67 (c : CallB) : CallB := tblF [] c
noncomputable def b67 (c : CallB) (a0 : Int) (a1 : Int) (h : HTr) (K : Value → HTr → RT) : RT :=
newB (.cells [(.int .i64 a0), (.int .i64 a1)] 2 true) h (fun m10 h11 =>
chkB (.func (.func 89) ⟨[]⟩ ⟨[(.pointer (some ⟨m10, 0, none⟩))]⟩) (
K (.func (.func 89) ⟨[]⟩ ⟨[(.pointer (some ⟨m10, 0, none⟩))]⟩) h11))
noncomputable def wq67 (c : CallB) : FB := fun ls h K => unIB ls fun a0 l0 => unIB l0 fun a1 l1 => un0B l1 (b67 c a0 a1 h (fun r0 h => K [.v r0] h))
noncomputable def wr67 (c : CallB) : FB := fun ls h K => @List.rec Lf (fun _ => RT) none (fun x0 l0 _ => @Lf.rec (fun _ => RT) (fun a0 => @List.rec Lf (fun _ => RT) none (fun x1 l1 _ => @Lf.rec (fun _ => RT) (fun a1 => @List.rec Lf (fun _ => RT) (b67 c a0 a1 h (fun r0 h => K [.v r0] h)) (fun _ _ _ => none) l1) (fun _ => none) (fun _ => none) x1) l0) (fun _ => none) (fun _ => none) x0) ls
theorem ew67 : (fun c => wr67 c) = fun c => wq67 c := by kernel_rfl
noncomputable def w67 (c : CallB) : FB := wr67 c
theorem vb67 : (fun (c : CallB) (a0 : Int) (a1 : Int) (h : HTr) (K : List Lf → HTr → RT) => w67 c [.i a0, .i a1] h K) = fun c a0 a1 h K => b67 c a0 a1 h (fun r0 h => K [.v r0] h) := by kernel_rfl
theorem qb67 {c call : CallB} (hct : call (.f 67) = w67 c) {a0 : Int} {a1 : Int} {h : HTr} {K : List Lf → HTr → RT} {K' : Value → HTr → RT} (hX : ∀ r0 h, K [.v r0] h = K' r0 h) : (BA sgTab siteTab call).call 67 [.i a0, .i a1] h K = b67 c a0 a1 h K' := by
  obtain rfl : K' = fun r0 h => K [.v r0] h := funext fun r0 => funext fun h => (hX r0 h).symm
  exact q_tab0 rfl ((congrFun (congrFun (congrFun hct _) _) _).trans (congrFun (congrFun (congrFun (congrFun (congrFun (vb67) c) a0) a1) h) K))
theorem pf67 (c : CallB) (ls : List Lf) (h : HTr) (K : List Lf → HTr → RT) : f67 (BA sgTab siteTab (ct67 c)) ls h K = wq67 c ls h K :=
q_unI (fun n6 l7 =>
q_unI (fun n8 l9 =>
q_un0 (q_new (fun m10 h11 =>
q_chk (rfl)))))
theorem eb67 : (fun c => wr67 c) = fun c => f67 (BA sgTab siteTab (ct67 c)) := ew67.trans (funext fun c => funext fun ls => funext fun h => funext fun K => (pf67 c ls h K).symm)
theorem ok67 {c : CallB} (hc : Cok c) : Ent 67 (w67 c) := (ent_of (g := fun c => wr67 c) (f := fun A => f67 A) (ct := ct67) eb67 (congrFun (congrFun e67 RT) HTr) i67 (tblF_ok hc (by
    intro p hp
    cases hp)))
/-- slices.Clip[[]crimp/sheets.Unit,crimp/sheets.Unit] -/
noncomputable def ct68 (c : CallB) : CallB := tblF [] c
noncomputable def b68 (c : CallB) (a0 : Value) (h : HTr) (K : Value → HTr → RT) : RT :=
optB (lenS a0) (fun x8 =>
optB (lenS a0) (fun x9 =>
optB (slS 2 a0 none (some x8) (some x9)) (fun x10 =>
chkB x10 (
K x10 h))))
noncomputable def wq68 (c : CallB) : FB := fun ls h K => unVB ls fun a0 l0 => un0B l0 (b68 c a0 h (fun r0 h => K [.v r0] h))
noncomputable def wr68 (c : CallB) : FB := fun ls h K => @List.rec Lf (fun _ => RT) none (fun x0 l0 _ => @Lf.rec (fun _ => RT) (fun _ => none) (fun _ => none) (fun a0 => @List.rec Lf (fun _ => RT) (b68 c a0 h (fun r0 h => K [.v r0] h)) (fun _ _ _ => none) l0) x0) ls
theorem ew68 : (fun c => wr68 c) = fun c => wq68 c := by kernel_rfl
noncomputable def w68 (c : CallB) : FB := wr68 c
theorem vb68 : (fun (c : CallB) (a0 : Value) (h : HTr) (K : List Lf → HTr → RT) => w68 c [.v a0] h K) = fun c a0 h K => b68 c a0 h (fun r0 h => K [.v r0] h) := by kernel_rfl
theorem qb68 {c call : CallB} (hct : call (.f 68) = w68 c) {a0 : Value} {h : HTr} {K : List Lf → HTr → RT} {K' : Value → HTr → RT} (hX : ∀ r0 h, K [.v r0] h = K' r0 h) : (BA sgTab siteTab call).call 68 [.v a0] h K = callG [.v a0] (b68 c a0 h K') := by
  obtain rfl : K' = fun r0 h => K [.v r0] h := funext fun r0 => funext fun h => (hX r0 h).symm
  exact q_tab rfl ((congrFun (congrFun (congrFun hct _) _) _).trans (congrFun (congrFun (congrFun (congrFun (vb68) c) a0) h) K))
theorem pf68 (c : CallB) (ls : List Lf) (h : HTr) (K : List Lf → HTr → RT) : f68 (BA sgTab siteTab (ct68 c)) ls h K = wq68 c ls h K :=
q_unV (fun x6 l7 =>
q_un0 (q_opt (fun x8 =>
q_opt (fun x9 =>
q_opt (fun x10 =>
q_chk (rfl))))))
theorem eb68 : (fun c => wr68 c) = fun c => f68 (BA sgTab siteTab (ct68 c)) := ew68.trans (funext fun c => funext fun ls => funext fun h => funext fun K => (pf68 c ls h K).symm)
theorem ok68 {c : CallB} (hc : Cok c) : Ent 68 (w68 c) := (ent_of (g := fun c => wr68 c) (f := fun A => f68 A) (ct := ct68) eb68 (congrFun (congrFun e68 RT) HTr) i68 (tblF_ok hc (by
    intro p hp
    cases hp)))
/-- crimp/sheets.Units -/
noncomputable def ct23 (c : CallB) : CallB := tblF [(33, w33 c), (67, w67 c), (68, w68 c)] c
noncomputable def b23 (c : CallB) (a0 : Int) (a1 : Int) (h : HTr) (K : Value → Int → HTr → RT) : RT :=
mc33 c a0 a1 h (fun r_1 h11 =>
@Bool.rec (fun _ => RT) (
newB (.cells [(.slice none 0 0)] 1 true) h11 (fun m15 h16 =>
b67 c a0 a1 h16 (fun r_2 h18 =>
rfunB sgTab (ct23 c) 368 r_2 [(.pointer (some ⟨m15, 0, none⟩))] h18 (fun p21 h22 =>
pendB p21 (
ldB 1 (.pointer (some ⟨m15, 0, none⟩)) h22 (fun l23 =>
ucVB l23 (fun x24 l25 =>
chkB x24 (
uc0B l25 (
callG [.v x24] (b68 c x24 h22 (fun r_3 h27 =>
K r_3 (.ofNat (nat_lit 0)) h27))))))) (
K (.slice none 0 0) (.ofNat (nat_lit 0)) h22) [])))) (
K (.slice none 0 0) r_1 h11) (notK (eqZK r_1 (.ofNat (nat_lit 0)))))
noncomputable def wq23 (c : CallB) : FB := fun ls h K => unIB ls fun a0 l0 => unIB l0 fun a1 l1 => un0B l1 (b23 c a0 a1 h (fun r0 r1 h => K [.v r0, .i r1] h))
noncomputable def wr23 (c : CallB) : FB := fun ls h K => @List.rec Lf (fun _ => RT) none (fun x0 l0 _ => @Lf.rec (fun _ => RT) (fun a0 => @List.rec Lf (fun _ => RT) none (fun x1 l1 _ => @Lf.rec (fun _ => RT) (fun a1 => @List.rec Lf (fun _ => RT) (b23 c a0 a1 h (fun r0 r1 h => K [.v r0, .i r1] h)) (fun _ _ _ => none) l1) (fun _ => none) (fun _ => none) x1) l0) (fun _ => none) (fun _ => none) x0) ls
theorem ew23 : (fun c => wr23 c) = fun c => wq23 c := by kernel_rfl
noncomputable def w23 (c : CallB) : FB := wr23 c
theorem vb23 : (fun (c : CallB) (a0 : Int) (a1 : Int) (h : HTr) (K : List Lf → HTr → RT) => w23 c [.i a0, .i a1] h K) = fun c a0 a1 h K => b23 c a0 a1 h (fun r0 r1 h => K [.v r0, .i r1] h) := by kernel_rfl
theorem qb23 {c call : CallB} (hct : call (.f 23) = w23 c) {a0 : Int} {a1 : Int} {h : HTr} {K : List Lf → HTr → RT} {K' : Value → Int → HTr → RT} (hX : ∀ r0 r1 h, K [.v r0, .i r1] h = K' r0 r1 h) : (BA sgTab siteTab call).call 23 [.i a0, .i a1] h K = b23 c a0 a1 h K' := by
  obtain rfl : K' = fun r0 r1 h => K [.v r0, .i r1] h := funext fun r0 => funext fun r1 => funext fun h => (hX r0 r1 h).symm
  exact q_tab0 rfl ((congrFun (congrFun (congrFun hct _) _) _).trans (congrFun (congrFun (congrFun (congrFun (congrFun (vb23) c) a0) a1) h) K))
theorem pf23 (c : CallB) (ls : List Lf) (h : HTr) (K : List Lf → HTr → RT) : f23 (BA sgTab siteTab (ct23 c)) ls h K = wq23 c ls h K :=
q_unI (fun n6 l7 =>
q_unI (fun n8 l9 =>
q_un0 (qm33 rfl (fun l10 h11 =>
q_unI (fun n12 l13 =>
q_un0 (q_neq (q_cond (rfl) (q_new (fun m15 h16 =>
qb67 rfl (fun r_2 h18 =>
q_unVs (q_un0s (q_rfun (fun p21 h22 =>
q_pend (q_ld (fun l23 =>
q_ucV (fun x24 l25 =>
q_chk (q_uc0 (qb68 rfl (fun r_3 h27 =>
q_unVs (q_un0s (rfl)))))))) (rfl) rfl)))))))))))))
theorem eb23 : (fun c => wr23 c) = fun c => f23 (BA sgTab siteTab (ct23 c)) := ew23.trans (funext fun c => funext fun ls => funext fun h => funext fun K => (pf23 c ls h K).symm)
theorem ok23 {c : CallB} (hc : Cok c) : Ent 23 (w23 c) := (ent_of (g := fun c => wr23 c) (f := fun A => f23 A) (ct := ct23) eb23 (congrFun (congrFun e23 RT) HTr) i23 (tblF_ok hc (by
    intro p hp
    simp only [List.mem_cons, List.not_mem_nil, or_false] at hp
    rcases hp with rfl | rfl | rfl
    · exact ok33 hc
    · exact ok67 hc
    · exact ok68 hc)))
/-- crimp/cells.Corners -/
noncomputable def ct41 (c : CallB) : CallB := tblF [(43, w43 c)] c
noncomputable def b41 (c : CallB) (a0 : Int) (a1 : Int) (a2 : Int) (h : HTr) (K : Int → Int → Int → Int → Int → Int → Int → HTr → RT) : RT :=
mc43 c a0 a1 a2 h (fun r_1 h13 =>
@Bool.rec (fun _ => RT) (
optB (inB 4 a2) (fun x17 =>
optB (pickV gl0 0 [(a2, 17)] 17) (fun x18 =>
ucIB .i64 x18 (fun n19 l20 =>
ucIB .i64 l20 (fun n21 l22 =>
ucIB .u8 l22 (fun n23 l24 =>
ucIB .i64 l24 (fun n25 l26 =>
ucIB .i64 l26 (fun n27 l28 =>
ucIB .i64 l28 (fun n29 l30 =>
ucIB .u8 l30 (fun n31 l32 =>
ucIB .i64 l32 (fun n33 l34 =>
ucIB .i64 l34 (fun n35 l36 =>
ucIB .u8 l36 (fun n37 l38 =>
ucIB .i64 l38 (fun n39 l40 =>
ucIB .i64 l40 (fun n41 l42 =>
ucIB .u8 l42 (fun n43 l44 =>
ucIB .i64 l44 (fun n45 l46 =>
ucIB .i64 l46 (fun n47 l48 =>
ucIB .i64 l48 (fun n49 l50 =>
ucIB .i64 l50 (fun n51 l52 =>
uc0B l52 (
loopB (fun s53 l54 h55 =>
unIB l54 (fun n56 l57 =>
unIB l57 (fun n58 l59 =>
unIB l59 (fun n60 l61 =>
unIB l61 (fun n62 l63 =>
unIB l63 (fun n64 l65 =>
unIB l65 (fun n66 l67 =>
unIB l67 (fun n68 l69 =>
un0B l69 (@Bool.rec (fun _ => RT) (
K n58 n60 n62 n64 n66 n68 (.ofNat (nat_lit 0)) h55) (
optB (inB 3 n56) (fun x71 =>
optB (pickL [(.i n58), (.i n60), (.i n62), (.i n64), (.i n66), (.i n68)] 0 [(n56, 2)] 1) (fun x72 =>
unIB x72 (fun n73 l74 =>
un0B l74 (mulK (.ofNat (nat_lit 2)) a0 (fun c_ => out64 c_ (fun n75 =>
addK n73 n75 (fun c_ => out64 c_ (fun n76 =>
optB (inB 3 n56) (fun x77 =>
optB (putL [(.i n58), (.i n60), (.i n62), (.i n64), (.i n66), (.i n68)] 0 [(n56, 2)] [(.i n76)]) (fun x78 =>
unIB x78 (fun n79 l80 =>
unIB l80 (fun n81 l82 =>
unIB l82 (fun n83 l84 =>
unIB l84 (fun n85 l86 =>
unIB l86 (fun n87 l88 =>
unIB l88 (fun n89 l90 =>
un0B l90 (optB (inB 3 n56) (fun x91 =>
optB (pickL [(.i n79), (.i n81), (.i n83), (.i n85), (.i n87), (.i n89)] 1 [(n56, 2)] 1) (fun x92 =>
unIB x92 (fun n93 l94 =>
un0B l94 (mulK (.ofNat (nat_lit 2)) a1 (fun c_ => out64 c_ (fun n95 =>
addK n93 n95 (fun c_ => out64 c_ (fun n96 =>
optB (inB 3 n56) (fun x97 =>
optB (putL [(.i n79), (.i n81), (.i n83), (.i n85), (.i n87), (.i n89)] 1 [(n56, 2)] [(.i n96)]) (fun x98 =>
unIB x98 (fun n99 l100 =>
unIB l100 (fun n101 l102 =>
unIB l102 (fun n103 l104 =>
unIB l104 (fun n105 l106 =>
unIB l106 (fun n107 l108 =>
unIB l108 (fun n109 l110 =>
un0B l110 (addK n56 (.ofNat (nat_lit 1)) (fun c_ => out64 c_ (fun n111 =>
s53 [.i n111, .i n99, .i n101, .i n103, .i n105, .i n107, .i n109] h55))))))))))))))))))))))))))))))))))))) (notK (leZ (.ofNat (nat_lit 3)) n56))))))))))) [.i (.ofNat (nat_lit 0)), .i (.ofNat (nat_lit 1)), .i (.ofNat (nat_lit 1)), .i n45, .i n47, .i n49, .i n51] h13))))))))))))))))))))) (
K (.ofNat (nat_lit 0)) (.ofNat (nat_lit 0)) (.ofNat (nat_lit 0)) (.ofNat (nat_lit 0)) (.ofNat (nat_lit 0)) (.ofNat (nat_lit 0)) (.ofNat (nat_lit 1)) h13) (notK (eqZK r_1 (.ofNat (nat_lit 0)))))
noncomputable def wq41 (c : CallB) : FB := fun ls h K => unIB ls fun a0 l0 => unIB l0 fun a1 l1 => unIB l1 fun a2 l2 => un0B l2 (b41 c a0 a1 a2 h (fun r0 r1 r2 r3 r4 r5 r6 h => K [.i r0, .i r1, .i r2, .i r3, .i r4, .i r5, .i r6] h))
noncomputable def wr41 (c : CallB) : FB := fun ls h K => @List.rec Lf (fun _ => RT) none (fun x0 l0 _ => @Lf.rec (fun _ => RT) (fun a0 => @List.rec Lf (fun _ => RT) none (fun x1 l1 _ => @Lf.rec (fun _ => RT) (fun a1 => @List.rec Lf (fun _ => RT) none (fun x2 l2 _ => @Lf.rec (fun _ => RT) (fun a2 => @List.rec Lf (fun _ => RT) (b41 c a0 a1 a2 h (fun r0 r1 r2 r3 r4 r5 r6 h => K [.i r0, .i r1, .i r2, .i r3, .i r4, .i r5, .i r6] h)) (fun _ _ _ => none) l2) (fun _ => none) (fun _ => none) x2) l1) (fun _ => none) (fun _ => none) x1) l0) (fun _ => none) (fun _ => none) x0) ls
theorem ew41 : (fun c => wr41 c) = fun c => wq41 c := by kernel_rfl
noncomputable def w41 (c : CallB) : FB := memo (wr41 c)
noncomputable def mc41 (c : CallB) (a0 : Int) (a1 : Int) (a2 : Int) (h : HTr) (K : Int → Int → Int → Int → Int → Int → Int → HTr → RT) : RT := fI a0 fun a0 => fI a1 fun a1 => fI a2 fun a2 => @Option.rec _ (fun _ => RT) none (fun rs => unIB rs fun r0 l0 => unIB l0 fun r1 l1 => unIB l1 fun r2 l2 => unIB l2 fun r3 l3 => unIB l3 fun r4 l4 => unIB l4 fun r5 l5 => unIB l5 fun r6 l6 => un0B l6 (K r0 r1 r2 r3 r4 r5 r6 h)) (b41 c a0 a1 a2 .empty (fun r0 r1 r2 r3 r4 r5 r6 h => tell [.i r0, .i r1, .i r2, .i r3, .i r4, .i r5, .i r6] h))
theorem vm41 : (fun (c : CallB) (a0 : Int) (a1 : Int) (a2 : Int) (h : HTr) (K : Int → Int → Int → Int → Int → Int → Int → HTr → RT) => w41 c [.i a0, .i a1, .i a2] h (fun rs h => unIB rs fun r0 l0 => unIB l0 fun r1 l1 => unIB l1 fun r2 l2 => unIB l2 fun r3 l3 => unIB l3 fun r4 l4 => unIB l4 fun r5 l5 => unIB l5 fun r6 l6 => un0B l6 (K r0 r1 r2 r3 r4 r5 r6 h))) = fun c a0 a1 a2 h K => mc41 c a0 a1 a2 h K := by kernel_rfl
theorem qm41 {c call : CallB} (hct : call (.f 41) = w41 c) {a0 : Int} {a1 : Int} {a2 : Int} {h : HTr} {K : List Lf → HTr → RT} {K' : Int → Int → Int → Int → Int → Int → Int → HTr → RT} (hX : ∀ rs h, K rs h = unIB rs fun r0 l0 => unIB l0 fun r1 l1 => unIB l1 fun r2 l2 => unIB l2 fun r3 l3 => unIB l3 fun r4 l4 => unIB l4 fun r5 l5 => unIB l5 fun r6 l6 => un0B l6 (K' r0 r1 r2 r3 r4 r5 r6 h)) : (BA sgTab siteTab call).call 41 [.i a0, .i a1, .i a2] h K = mc41 c a0 a1 a2 h K' := by
  obtain rfl : K = fun rs h => unIB rs fun r0 l0 => unIB l0 fun r1 l1 => unIB l1 fun r2 l2 => unIB l2 fun r3 l3 => unIB l3 fun r4 l4 => unIB l4 fun r5 l5 => unIB l5 fun r6 l6 => un0B l6 (K' r0 r1 r2 r3 r4 r5 r6 h) := funext fun rs => funext fun h => hX rs h
  exact q_tab0 rfl ((congrFun (congrFun (congrFun hct _) _) _).trans (congrFun (congrFun (congrFun (congrFun (congrFun (congrFun (vm41) c) a0) a1) a2) h) K'))
theorem pf41 (c : CallB) (ls : List Lf) (h : HTr) (K : List Lf → HTr → RT) : f41 (BA sgTab siteTab (ct41 c)) ls h K = wq41 c ls h K :=
q_unI (fun n6 l7 =>
q_unI (fun n8 l9 =>
q_unI (fun n10 l11 =>
q_un0 (qm43 rfl (fun l12 h13 =>
q_unI (fun n14 l15 =>
q_un0 (q_neq (q_cond (rfl) (q_opt (fun x17 =>
q_opt (fun x18 =>
q_ucI (fun n19 l20 =>
q_ucI (fun n21 l22 =>
q_ucI (fun n23 l24 =>
q_ucI (fun n25 l26 =>
q_ucI (fun n27 l28 =>
q_ucI (fun n29 l30 =>
q_ucI (fun n31 l32 =>
q_ucI (fun n33 l34 =>
q_ucI (fun n35 l36 =>
q_ucI (fun n37 l38 =>
q_ucI (fun n39 l40 =>
q_ucI (fun n41 l42 =>
q_ucI (fun n43 l44 =>
q_ucI (fun n45 l46 =>
q_ucI (fun n47 l48 =>
q_ucI (fun n49 l50 =>
q_ucI (fun n51 l52 =>
q_uc0 (q_loop (fun s53 l54 h55 =>
q_unI (fun n56 l57 =>
q_unI (fun n58 l59 =>
q_unI (fun n60 l61 =>
q_unI (fun n62 l63 =>
q_unI (fun n64 l65 =>
q_unI (fun n66 l67 =>
q_unI (fun n68 l69 =>
q_un0 (q_lss (q_cond (q_opt (fun x71 =>
q_opt (fun x72 =>
q_unI (fun n73 l74 =>
q_un0 (q_mul64 (fun n75 =>
q_add64 (fun n76 =>
q_opt (fun x77 =>
q_opt (fun x78 =>
q_unI (fun n79 l80 =>
q_unI (fun n81 l82 =>
q_unI (fun n83 l84 =>
q_unI (fun n85 l86 =>
q_unI (fun n87 l88 =>
q_unI (fun n89 l90 =>
q_un0 (q_opt (fun x91 =>
q_opt (fun x92 =>
q_unI (fun n93 l94 =>
q_un0 (q_mul64 (fun n95 =>
q_add64 (fun n96 =>
q_opt (fun x97 =>
q_opt (fun x98 =>
q_unI (fun n99 l100 =>
q_unI (fun n101 l102 =>
q_unI (fun n103 l104 =>
q_unI (fun n105 l106 =>
q_unI (fun n107 l108 =>
q_unI (fun n109 l110 =>
q_un0 (q_add64 (fun n111 =>
rfl)))))))))))))))))))))))))))))))) (rfl))))))))))))))))))))))))))))))))))))))))
theorem eb41 : (fun c => wr41 c) = fun c => f41 (BA sgTab siteTab (ct41 c)) := ew41.trans (funext fun c => funext fun ls => funext fun h => funext fun K => (pf41 c ls h K).symm)
theorem ok41 {c : CallB} (hc : Cok c) : Ent 41 (w41 c) := ent_mem (ent_of (g := fun c => wr41 c) (f := fun A => f41 A) (ct := ct41) eb41 (congrFun (congrFun e41 RT) HTr) i41 (tblF_ok hc (by
    intro p hp
    simp only [List.mem_cons, List.not_mem_nil, or_false] at hp
    subst hp
    exact ok43 hc))) rfl (by kernel_rfl)
/-- crimp/sheets.named -/
noncomputable def ct69 (c : CallB) : CallB := tblF [(19, w19 c), (33, w33 c), (73, w73 c)] c
noncomputable def b69 (c : CallB) (a0 : Int) (a1 : Int) (a2 : Int) (a3 : Int) (h : HTr) (K : Int → Int → Int → Int → HTr → RT) : RT :=
mc33 c a0 a1 h (fun r_1 h15 =>
@Bool.rec (fun _ => RT) (
mc19 c a0 a1 a2 a3 h15 (fun r_2 r_3 r_4 h20 =>
@Bool.rec (fun _ => RT) (
@Bool.rec (fun _ => RT) (
mc73 c a0 a1 a2 h20 (fun r_5 r_6 r_7 h30 =>
K r_5 r_6 r_7 (.ofNat (nat_lit 0)) h30)) (
K (.ofNat (nat_lit 0)) (.ofNat (nat_lit 0)) (.ofNat (nat_lit 0)) (.ofNat (nat_lit 7)) h20) (!(@Bool.rec (fun _ => Bool) false (@Bool.rec (fun _ => Bool) false true (eqZK r_3 a3)) (eqZK r_2 a2)))) (
K (.ofNat (nat_lit 0)) (.ofNat (nat_lit 0)) (.ofNat (nat_lit 0)) (.ofNat (nat_lit 7)) h20) (notK (eqZK r_4 (.ofNat (nat_lit 0)))))) (
K (.ofNat (nat_lit 0)) (.ofNat (nat_lit 0)) (.ofNat (nat_lit 0)) r_1 h15) (notK (eqZK r_1 (.ofNat (nat_lit 0)))))
noncomputable def wq69 (c : CallB) : FB := fun ls h K => unIB ls fun a0 l0 => unIB l0 fun a1 l1 => unIB l1 fun a2 l2 => unIB l2 fun a3 l3 => un0B l3 (b69 c a0 a1 a2 a3 h (fun r0 r1 r2 r3 h => K [.i r0, .i r1, .i r2, .i r3] h))
noncomputable def wr69 (c : CallB) : FB := fun ls h K => @List.rec Lf (fun _ => RT) none (fun x0 l0 _ => @Lf.rec (fun _ => RT) (fun a0 => @List.rec Lf (fun _ => RT) none (fun x1 l1 _ => @Lf.rec (fun _ => RT) (fun a1 => @List.rec Lf (fun _ => RT) none (fun x2 l2 _ => @Lf.rec (fun _ => RT) (fun a2 => @List.rec Lf (fun _ => RT) none (fun x3 l3 _ => @Lf.rec (fun _ => RT) (fun a3 => @List.rec Lf (fun _ => RT) (b69 c a0 a1 a2 a3 h (fun r0 r1 r2 r3 h => K [.i r0, .i r1, .i r2, .i r3] h)) (fun _ _ _ => none) l3) (fun _ => none) (fun _ => none) x3) l2) (fun _ => none) (fun _ => none) x2) l1) (fun _ => none) (fun _ => none) x1) l0) (fun _ => none) (fun _ => none) x0) ls
theorem ew69 : (fun c => wr69 c) = fun c => wq69 c := by kernel_rfl
noncomputable def w69 (c : CallB) : FB := memo (wr69 c)
noncomputable def mc69 (c : CallB) (a0 : Int) (a1 : Int) (a2 : Int) (a3 : Int) (h : HTr) (K : Int → Int → Int → Int → HTr → RT) : RT := fI a0 fun a0 => fI a1 fun a1 => fI a2 fun a2 => fI a3 fun a3 => @Option.rec _ (fun _ => RT) none (fun rs => unIB rs fun r0 l0 => unIB l0 fun r1 l1 => unIB l1 fun r2 l2 => unIB l2 fun r3 l3 => un0B l3 (K r0 r1 r2 r3 h)) (b69 c a0 a1 a2 a3 .empty (fun r0 r1 r2 r3 h => tell [.i r0, .i r1, .i r2, .i r3] h))
theorem vm69 : (fun (c : CallB) (a0 : Int) (a1 : Int) (a2 : Int) (a3 : Int) (h : HTr) (K : Int → Int → Int → Int → HTr → RT) => w69 c [.i a0, .i a1, .i a2, .i a3] h (fun rs h => unIB rs fun r0 l0 => unIB l0 fun r1 l1 => unIB l1 fun r2 l2 => unIB l2 fun r3 l3 => un0B l3 (K r0 r1 r2 r3 h))) = fun c a0 a1 a2 a3 h K => mc69 c a0 a1 a2 a3 h K := by kernel_rfl
theorem qm69 {c call : CallB} (hct : call (.f 69) = w69 c) {a0 : Int} {a1 : Int} {a2 : Int} {a3 : Int} {h : HTr} {K : List Lf → HTr → RT} {K' : Int → Int → Int → Int → HTr → RT} (hX : ∀ rs h, K rs h = unIB rs fun r0 l0 => unIB l0 fun r1 l1 => unIB l1 fun r2 l2 => unIB l2 fun r3 l3 => un0B l3 (K' r0 r1 r2 r3 h)) : (BA sgTab siteTab call).call 69 [.i a0, .i a1, .i a2, .i a3] h K = mc69 c a0 a1 a2 a3 h K' := by
  obtain rfl : K = fun rs h => unIB rs fun r0 l0 => unIB l0 fun r1 l1 => unIB l1 fun r2 l2 => unIB l2 fun r3 l3 => un0B l3 (K' r0 r1 r2 r3 h) := funext fun rs => funext fun h => hX rs h
  exact q_tab0 rfl ((congrFun (congrFun (congrFun hct _) _) _).trans (congrFun (congrFun (congrFun (congrFun (congrFun (congrFun (congrFun (vm69) c) a0) a1) a2) a3) h) K'))
theorem pf69 (c : CallB) (ls : List Lf) (h : HTr) (K : List Lf → HTr → RT) : f69 (BA sgTab siteTab (ct69 c)) ls h K = wq69 c ls h K :=
q_unI (fun n6 l7 =>
q_unI (fun n8 l9 =>
q_unI (fun n10 l11 =>
q_unI (fun n12 l13 =>
q_un0 (qm33 rfl (fun l14 h15 =>
q_unI (fun n16 l17 =>
q_un0 (q_neq (q_cond (rfl) (qm19 rfl (fun l19 h20 =>
q_unI (fun n21 l22 =>
q_unI (fun n23 l24 =>
q_unI (fun n25 l26 =>
q_un0 (q_neq (q_cond (rfl) (q_eqs (q_cond (rfl) (qm73 rfl (fun l29 h30 =>
q_unI (fun n31 l32 =>
q_unI (fun n33 l34 =>
q_unI (fun n35 l36 =>
q_un0 (rfl))))))))))))))))))))))))
theorem eb69 : (fun c => wr69 c) = fun c => f69 (BA sgTab siteTab (ct69 c)) := ew69.trans (funext fun c => funext fun ls => funext fun h => funext fun K => (pf69 c ls h K).symm)
theorem ok69 {c : CallB} (hc : Cok c) : Ent 69 (w69 c) := ent_mem (ent_of (g := fun c => wr69 c) (f := fun A => f69 A) (ct := ct69) eb69 (congrFun (congrFun e69 RT) HTr) i69 (tblF_ok hc (by
    intro p hp
    simp only [List.mem_cons, List.not_mem_nil, or_false] at hp
    rcases hp with rfl | rfl | rfl
    · exact ok19 hc
    · exact ok33 hc
    · exact ok73 hc))) rfl (by kernel_rfl)
/-- crimp/sheets.Ends -/
noncomputable def ct25 (c : CallB) : CallB := tblF [(41, w41 c), (69, w69 c)] c
noncomputable def b25 (c : CallB) (a0 : Int) (a1 : Int) (a2 : Int) (a3 : Int) (h : HTr) (K : Int → Int → Int → Int → Int → HTr → RT) : RT :=
mc69 c a0 a1 a2 a3 h (fun r_1 r_2 r_3 r_4 h15 =>
@Bool.rec (fun _ => RT) (
mc41 c r_1 r_2 r_3 h15 (fun r_5 r_6 r_7 r_8 r_9 r_10 r_11 h26 =>
addK a3 (.ofNat (nat_lit 1)) (fun c_ => outU8 c_ (fun n41 =>
@Bool.rec (fun _ => RT) (remK n41 (.ofNat (nat_lit 3)) (fun n42 =>
optB (inB 3 n42) (fun x43 =>
optB (pickL [(.i r_5), (.i r_6), (.i r_7), (.i r_8), (.i r_9), (.i r_10)] 0 [(n42, 2)] 2) (fun x44 =>
unIB x44 (fun n45 l46 =>
unIB l46 (fun n47 l48 =>
un0B l48 (addK a3 (.ofNat (nat_lit 2)) (fun c_ => outU8 c_ (fun n49 =>
@Bool.rec (fun _ => RT) (remK n49 (.ofNat (nat_lit 3)) (fun n50 =>
optB (inB 3 n50) (fun x51 =>
optB (pickL [(.i r_5), (.i r_6), (.i r_7), (.i r_8), (.i r_9), (.i r_10)] 0 [(n50, 2)] 2) (fun x52 =>
unIB x52 (fun n53 l54 =>
unIB l54 (fun n55 l56 =>
un0B l56 (@Bool.rec (fun _ => RT) (
@Bool.rec (fun _ => RT) (
K n45 n47 n53 n55 (.ofNat (nat_lit 0)) h26) (
joinB (fun l60 h61 =>
unIB l60 (fun n62 l63 =>
unIB l63 (fun n64 l65 =>
unIB l65 (fun n66 l67 =>
unIB l67 (fun n68 l69 =>
un0B l69 (K n62 n64 n66 n68 (.ofNat (nat_lit 0)) h61)))))) (fun j70 =>
@Bool.rec (fun _ => RT) (
j70 [.i n45, .i n47, .i n53, .i n55] h26) (
j70 [.i n53, .i n55, .i n45, .i n47] h26) (notK (leZ n47 n55)))) (eqZK n53 n45)) (
K n53 n55 n45 n47 (.ofNat (nat_lit 0)) h26) (notK (leZ n45 n53))))))))) none (isZ (.ofNat (nat_lit 3)))))))))))) none (isZ (.ofNat (nat_lit 3))))))) (
K (.ofNat (nat_lit 0)) (.ofNat (nat_lit 0)) (.ofNat (nat_lit 0)) (.ofNat (nat_lit 0)) r_4 h15) (notK (eqZK r_4 (.ofNat (nat_lit 0)))))
noncomputable def wq25 (c : CallB) : FB := fun ls h K => unIB ls fun a0 l0 => unIB l0 fun a1 l1 => unIB l1 fun a2 l2 => unIB l2 fun a3 l3 => un0B l3 (b25 c a0 a1 a2 a3 h (fun r0 r1 r2 r3 r4 h => K [.i r0, .i r1, .i r2, .i r3, .i r4] h))
noncomputable def wr25 (c : CallB) : FB := fun ls h K => @List.rec Lf (fun _ => RT) none (fun x0 l0 _ => @Lf.rec (fun _ => RT) (fun a0 => @List.rec Lf (fun _ => RT) none (fun x1 l1 _ => @Lf.rec (fun _ => RT) (fun a1 => @List.rec Lf (fun _ => RT) none (fun x2 l2 _ => @Lf.rec (fun _ => RT) (fun a2 => @List.rec Lf (fun _ => RT) none (fun x3 l3 _ => @Lf.rec (fun _ => RT) (fun a3 => @List.rec Lf (fun _ => RT) (b25 c a0 a1 a2 a3 h (fun r0 r1 r2 r3 r4 h => K [.i r0, .i r1, .i r2, .i r3, .i r4] h)) (fun _ _ _ => none) l3) (fun _ => none) (fun _ => none) x3) l2) (fun _ => none) (fun _ => none) x2) l1) (fun _ => none) (fun _ => none) x1) l0) (fun _ => none) (fun _ => none) x0) ls
theorem ew25 : (fun c => wr25 c) = fun c => wq25 c := by kernel_rfl
noncomputable def w25 (c : CallB) : FB := memo (wr25 c)
noncomputable def mc25 (c : CallB) (a0 : Int) (a1 : Int) (a2 : Int) (a3 : Int) (h : HTr) (K : Int → Int → Int → Int → Int → HTr → RT) : RT := fI a0 fun a0 => fI a1 fun a1 => fI a2 fun a2 => fI a3 fun a3 => @Option.rec _ (fun _ => RT) none (fun rs => unIB rs fun r0 l0 => unIB l0 fun r1 l1 => unIB l1 fun r2 l2 => unIB l2 fun r3 l3 => unIB l3 fun r4 l4 => un0B l4 (K r0 r1 r2 r3 r4 h)) (b25 c a0 a1 a2 a3 .empty (fun r0 r1 r2 r3 r4 h => tell [.i r0, .i r1, .i r2, .i r3, .i r4] h))
theorem vm25 : (fun (c : CallB) (a0 : Int) (a1 : Int) (a2 : Int) (a3 : Int) (h : HTr) (K : Int → Int → Int → Int → Int → HTr → RT) => w25 c [.i a0, .i a1, .i a2, .i a3] h (fun rs h => unIB rs fun r0 l0 => unIB l0 fun r1 l1 => unIB l1 fun r2 l2 => unIB l2 fun r3 l3 => unIB l3 fun r4 l4 => un0B l4 (K r0 r1 r2 r3 r4 h))) = fun c a0 a1 a2 a3 h K => mc25 c a0 a1 a2 a3 h K := by kernel_rfl
theorem qm25 {c call : CallB} (hct : call (.f 25) = w25 c) {a0 : Int} {a1 : Int} {a2 : Int} {a3 : Int} {h : HTr} {K : List Lf → HTr → RT} {K' : Int → Int → Int → Int → Int → HTr → RT} (hX : ∀ rs h, K rs h = unIB rs fun r0 l0 => unIB l0 fun r1 l1 => unIB l1 fun r2 l2 => unIB l2 fun r3 l3 => unIB l3 fun r4 l4 => un0B l4 (K' r0 r1 r2 r3 r4 h)) : (BA sgTab siteTab call).call 25 [.i a0, .i a1, .i a2, .i a3] h K = mc25 c a0 a1 a2 a3 h K' := by
  obtain rfl : K = fun rs h => unIB rs fun r0 l0 => unIB l0 fun r1 l1 => unIB l1 fun r2 l2 => unIB l2 fun r3 l3 => unIB l3 fun r4 l4 => un0B l4 (K' r0 r1 r2 r3 r4 h) := funext fun rs => funext fun h => hX rs h
  exact q_tab0 rfl ((congrFun (congrFun (congrFun hct _) _) _).trans (congrFun (congrFun (congrFun (congrFun (congrFun (congrFun (congrFun (vm25) c) a0) a1) a2) a3) h) K'))
theorem pf25 (c : CallB) (ls : List Lf) (h : HTr) (K : List Lf → HTr → RT) : f25 (BA sgTab siteTab (ct25 c)) ls h K = wq25 c ls h K :=
q_unI (fun n6 l7 =>
q_unI (fun n8 l9 =>
q_unI (fun n10 l11 =>
q_unI (fun n12 l13 =>
q_un0 (qm69 rfl (fun l14 h15 =>
q_unI (fun n16 l17 =>
q_unI (fun n18 l19 =>
q_unI (fun n20 l21 =>
q_unI (fun n22 l23 =>
q_un0 (q_neq (q_cond (rfl) (qm41 rfl (fun l25 h26 =>
q_unI (fun n27 l28 =>
q_unI (fun n29 l30 =>
q_unI (fun n31 l32 =>
q_unI (fun n33 l34 =>
q_unI (fun n35 l36 =>
q_unI (fun n37 l38 =>
q_unI (fun n39 l40 =>
q_un0 (q_addU8 (fun n41 =>
q_rem (fun n42 =>
q_opt (fun x43 =>
q_opt (fun x44 =>
q_unI (fun n45 l46 =>
q_unI (fun n47 l48 =>
q_un0 (q_addU8 (fun n49 =>
q_rem (fun n50 =>
q_opt (fun x51 =>
q_opt (fun x52 =>
q_unI (fun n53 l54 =>
q_unI (fun n55 l56 =>
q_un0 (q_lss (q_cond (rfl) (q_eql (q_cond (q_lss (q_join (fun l60 h61 =>
q_unI (fun n62 l63 =>
q_unI (fun n64 l65 =>
q_unI (fun n66 l67 =>
q_unI (fun n68 l69 =>
q_un0 (rfl)))))) (fun j70 =>
q_cond (rfl) (rfl)))) (rfl))))))))))))))))))))))))))))))))))))))))
theorem eb25 : (fun c => wr25 c) = fun c => f25 (BA sgTab siteTab (ct25 c)) := ew25.trans (funext fun c => funext fun ls => funext fun h => funext fun K => (pf25 c ls h K).symm)
theorem ok25 {c : CallB} (hc : Cok c) : Ent 25 (w25 c) := ent_mem (ent_of (g := fun c => wr25 c) (f := fun A => f25 A) (ct := ct25) eb25 (congrFun (congrFun e25 RT) HTr) i25 (tblF_ok hc (by
    intro p hp
    simp only [List.mem_cons, List.not_mem_nil, or_false] at hp
    rcases hp with rfl | rfl
    · exact ok41 hc
    · exact ok69 hc))) rfl (by kernel_rfl)
/-- crimp/lines.Check -/
noncomputable def ct74 (c : CallB) : CallB := tblF [] c
noncomputable def b74 (c : CallB) (a0 : Int) (a1 : Int) (h : HTr) (K : Int → HTr → RT) : RT :=
@Bool.rec (fun _ => RT) (
@Bool.rec (fun _ => RT) (
@Bool.rec (fun _ => RT) (
@Bool.rec (fun _ => RT) (
K (.ofNat (nat_lit 0)) h) (
K (.ofNat (nat_lit 1)) h) (notK (leZ a1 (.ofNat (nat_lit 4096))))) (
K (.ofNat (nat_lit 1)) h) (notK (leZ (.negSucc (nat_lit 4095)) a1))) (
K (.ofNat (nat_lit 1)) h) (notK (leZ a0 (.ofNat (nat_lit 4))))) (
K (.ofNat (nat_lit 1)) h) (notK (leZ (.ofNat (nat_lit 1)) a0))
noncomputable def wq74 (c : CallB) : FB := fun ls h K => unIB ls fun a0 l0 => unIB l0 fun a1 l1 => un0B l1 (b74 c a0 a1 h (fun r0 h => K [.i r0] h))
noncomputable def wr74 (c : CallB) : FB := fun ls h K => @List.rec Lf (fun _ => RT) none (fun x0 l0 _ => @Lf.rec (fun _ => RT) (fun a0 => @List.rec Lf (fun _ => RT) none (fun x1 l1 _ => @Lf.rec (fun _ => RT) (fun a1 => @List.rec Lf (fun _ => RT) (b74 c a0 a1 h (fun r0 h => K [.i r0] h)) (fun _ _ _ => none) l1) (fun _ => none) (fun _ => none) x1) l0) (fun _ => none) (fun _ => none) x0) ls
theorem ew74 : (fun c => wr74 c) = fun c => wq74 c := by kernel_rfl
noncomputable def w74 (c : CallB) : FB := memo (wr74 c)
noncomputable def mc74 (c : CallB) (a0 : Int) (a1 : Int) (h : HTr) (K : Int → HTr → RT) : RT := fI a0 fun a0 => fI a1 fun a1 => @Option.rec _ (fun _ => RT) none (fun rs => unIB rs fun r0 l0 => un0B l0 (K r0 h)) (b74 c a0 a1 .empty (fun r0 h => tell [.i r0] h))
theorem vm74 : (fun (c : CallB) (a0 : Int) (a1 : Int) (h : HTr) (K : Int → HTr → RT) => w74 c [.i a0, .i a1] h (fun rs h => unIB rs fun r0 l0 => un0B l0 (K r0 h))) = fun c a0 a1 h K => mc74 c a0 a1 h K := by kernel_rfl
theorem qm74 {c call : CallB} (hct : call (.f 74) = w74 c) {a0 : Int} {a1 : Int} {h : HTr} {K : List Lf → HTr → RT} {K' : Int → HTr → RT} (hX : ∀ rs h, K rs h = unIB rs fun r0 l0 => un0B l0 (K' r0 h)) : (BA sgTab siteTab call).call 74 [.i a0, .i a1] h K = mc74 c a0 a1 h K' := by
  obtain rfl : K = fun rs h => unIB rs fun r0 l0 => un0B l0 (K' r0 h) := funext fun rs => funext fun h => hX rs h
  exact q_tab0 rfl ((congrFun (congrFun (congrFun hct _) _) _).trans (congrFun (congrFun (congrFun (congrFun (congrFun (vm74) c) a0) a1) h) K'))
theorem pf74 (c : CallB) (ls : List Lf) (h : HTr) (K : List Lf → HTr → RT) : f74 (BA sgTab siteTab (ct74 c)) ls h K = wq74 c ls h K :=
q_unI (fun n6 l7 =>
q_unI (fun n8 l9 =>
q_un0 (q_lss (q_cond (rfl) (q_gtr (q_cond (rfl) (q_lss (q_cond (rfl) (q_gtr (q_cond (rfl) (rfl)))))))))))
theorem eb74 : (fun c => wr74 c) = fun c => f74 (BA sgTab siteTab (ct74 c)) := ew74.trans (funext fun c => funext fun ls => funext fun h => funext fun K => (pf74 c ls h K).symm)
theorem ok74 {c : CallB} (hc : Cok c) : Ent 74 (w74 c) := ent_mem (ent_of (g := fun c => wr74 c) (f := fun A => f74 A) (ct := ct74) eb74 (congrFun (congrFun e74 RT) HTr) i74 (tblF_ok hc (by
    intro p hp
    cases hp))) rfl (by kernel_rfl)
/-- crimp/cells.Line -/
noncomputable def ct40 (c : CallB) : CallB := tblF [(43, w43 c), (74, w74 c)] c
noncomputable def b40 (c : CallB) (a0 : Int) (a1 : Int) (a2 : Int) (a3 : Int) (h : HTr) (K : Int → Int → Int → HTr → RT) : RT :=
mc43 c a0 a1 a2 h (fun r_1 h15 =>
@Bool.rec (fun _ => RT) (
@Bool.rec (fun _ => RT) (
optB (inB 4 a2) (fun x20 =>
optB (pickV gl0 0 [(a2, 17)] 17) (fun x21 =>
ucIB .i64 x21 (fun n22 l23 =>
ucIB .i64 l23 (fun n24 l25 =>
ucIB .u8 l25 (fun n26 l27 =>
ucIB .i64 l27 (fun n28 l29 =>
ucIB .i64 l29 (fun n30 l31 =>
ucIB .i64 l31 (fun n32 l33 =>
ucIB .u8 l33 (fun n34 l35 =>
ucIB .i64 l35 (fun n36 l37 =>
ucIB .i64 l37 (fun n38 l39 =>
ucIB .u8 l39 (fun n40 l41 =>
ucIB .i64 l41 (fun n42 l43 =>
ucIB .i64 l43 (fun n44 l45 =>
ucIB .u8 l45 (fun n46 l47 =>
ucIB .i64 l47 (fun n48 l49 =>
ucIB .i64 l49 (fun n50 l51 =>
ucIB .i64 l51 (fun n52 l53 =>
ucIB .i64 l53 (fun n54 l55 =>
uc0B l55 (
addK a0 n28 (fun c_ => out64 c_ (fun n56 =>
joinB (fun l58 h59 =>
unIB l58 (fun n60 l61 =>
unIB l61 (fun n62 l63 =>
un0B l63 (mc74 c n60 n62 h59 (fun r_2 h65 =>
@Bool.rec (fun _ => RT) (
K n60 n62 (.ofNat (nat_lit 0)) h65) (
K (.ofNat (nat_lit 0)) (.ofNat (nat_lit 0)) (.ofNat (nat_lit 3)) h65) (notK (eqZK r_2 (.ofNat (nat_lit 0))))))))) (fun j69 =>
@Bool.rec (fun _ => RT) (
joinB (fun l73 h74 =>
unIB l73 (fun n75 l76 =>
unIB l76 (fun n77 l78 =>
un0B l78 (j69 [.i n75, .i n77] h74)))) (fun j79 =>
@Bool.rec (fun _ => RT) (
joinB (fun l82 h83 =>
unIB l82 (fun n84 l85 =>
unIB l85 (fun n86 l87 =>
un0B l87 (j79 [.i n84, .i n86] h83)))) (fun j88 =>
@Bool.rec (fun _ => RT) (
j88 [.i n26, .i n56] h15) (
addK a1 n28 (fun c_ => out64 c_ (fun n89 =>
j88 [.i n26, .i n89] h15))) (eqZK n26 (.ofNat (nat_lit 2))))) (
subK a1 a0 (fun c_ => out64 c_ (fun n80 =>
j79 [.i (.ofNat (nat_lit 4)), .i n80] h15))) (eqZK a3 (.ofNat (nat_lit 2))))) (
addK a0 a1 (fun c_ => out64 c_ (fun n70 =>
addK n70 (.ofNat (nat_lit 1)) (fun c_ => out64 c_ (fun n71 =>
j69 [.i (.ofNat (nat_lit 3)), .i n71] h15))))) (eqZK a3 (.ofNat (nat_lit 1))))))))))))))))))))))))))) (
K (.ofNat (nat_lit 0)) (.ofNat (nat_lit 0)) (.ofNat (nat_lit 1)) h15) (notK (leZ a3 (.ofNat (nat_lit 2))))) (
K (.ofNat (nat_lit 0)) (.ofNat (nat_lit 0)) (.ofNat (nat_lit 1)) h15) (notK (eqZK r_1 (.ofNat (nat_lit 0)))))
noncomputable def wq40 (c : CallB) : FB := fun ls h K => unIB ls fun a0 l0 => unIB l0 fun a1 l1 => unIB l1 fun a2 l2 => unIB l2 fun a3 l3 => un0B l3 (b40 c a0 a1 a2 a3 h (fun r0 r1 r2 h => K [.i r0, .i r1, .i r2] h))
noncomputable def wr40 (c : CallB) : FB := fun ls h K => @List.rec Lf (fun _ => RT) none (fun x0 l0 _ => @Lf.rec (fun _ => RT) (fun a0 => @List.rec Lf (fun _ => RT) none (fun x1 l1 _ => @Lf.rec (fun _ => RT) (fun a1 => @List.rec Lf (fun _ => RT) none (fun x2 l2 _ => @Lf.rec (fun _ => RT) (fun a2 => @List.rec Lf (fun _ => RT) none (fun x3 l3 _ => @Lf.rec (fun _ => RT) (fun a3 => @List.rec Lf (fun _ => RT) (b40 c a0 a1 a2 a3 h (fun r0 r1 r2 h => K [.i r0, .i r1, .i r2] h)) (fun _ _ _ => none) l3) (fun _ => none) (fun _ => none) x3) l2) (fun _ => none) (fun _ => none) x2) l1) (fun _ => none) (fun _ => none) x1) l0) (fun _ => none) (fun _ => none) x0) ls
theorem ew40 : (fun c => wr40 c) = fun c => wq40 c := by kernel_rfl
noncomputable def w40 (c : CallB) : FB := memo (wr40 c)
noncomputable def mc40 (c : CallB) (a0 : Int) (a1 : Int) (a2 : Int) (a3 : Int) (h : HTr) (K : Int → Int → Int → HTr → RT) : RT := fI a0 fun a0 => fI a1 fun a1 => fI a2 fun a2 => fI a3 fun a3 => @Option.rec _ (fun _ => RT) none (fun rs => unIB rs fun r0 l0 => unIB l0 fun r1 l1 => unIB l1 fun r2 l2 => un0B l2 (K r0 r1 r2 h)) (b40 c a0 a1 a2 a3 .empty (fun r0 r1 r2 h => tell [.i r0, .i r1, .i r2] h))
theorem vm40 : (fun (c : CallB) (a0 : Int) (a1 : Int) (a2 : Int) (a3 : Int) (h : HTr) (K : Int → Int → Int → HTr → RT) => w40 c [.i a0, .i a1, .i a2, .i a3] h (fun rs h => unIB rs fun r0 l0 => unIB l0 fun r1 l1 => unIB l1 fun r2 l2 => un0B l2 (K r0 r1 r2 h))) = fun c a0 a1 a2 a3 h K => mc40 c a0 a1 a2 a3 h K := by kernel_rfl
theorem qm40 {c call : CallB} (hct : call (.f 40) = w40 c) {a0 : Int} {a1 : Int} {a2 : Int} {a3 : Int} {h : HTr} {K : List Lf → HTr → RT} {K' : Int → Int → Int → HTr → RT} (hX : ∀ rs h, K rs h = unIB rs fun r0 l0 => unIB l0 fun r1 l1 => unIB l1 fun r2 l2 => un0B l2 (K' r0 r1 r2 h)) : (BA sgTab siteTab call).call 40 [.i a0, .i a1, .i a2, .i a3] h K = mc40 c a0 a1 a2 a3 h K' := by
  obtain rfl : K = fun rs h => unIB rs fun r0 l0 => unIB l0 fun r1 l1 => unIB l1 fun r2 l2 => un0B l2 (K' r0 r1 r2 h) := funext fun rs => funext fun h => hX rs h
  exact q_tab0 rfl ((congrFun (congrFun (congrFun hct _) _) _).trans (congrFun (congrFun (congrFun (congrFun (congrFun (congrFun (congrFun (vm40) c) a0) a1) a2) a3) h) K'))
theorem pf40 (c : CallB) (ls : List Lf) (h : HTr) (K : List Lf → HTr → RT) : f40 (BA sgTab siteTab (ct40 c)) ls h K = wq40 c ls h K :=
q_unI (fun n6 l7 =>
q_unI (fun n8 l9 =>
q_unI (fun n10 l11 =>
q_unI (fun n12 l13 =>
q_un0 (qm43 rfl (fun l14 h15 =>
q_unI (fun n16 l17 =>
q_un0 (q_neq (q_cond (rfl) (q_gtr (q_cond (rfl) (q_opt (fun x20 =>
q_opt (fun x21 =>
q_ucI (fun n22 l23 =>
q_ucI (fun n24 l25 =>
q_ucI (fun n26 l27 =>
q_ucI (fun n28 l29 =>
q_ucI (fun n30 l31 =>
q_ucI (fun n32 l33 =>
q_ucI (fun n34 l35 =>
q_ucI (fun n36 l37 =>
q_ucI (fun n38 l39 =>
q_ucI (fun n40 l41 =>
q_ucI (fun n42 l43 =>
q_ucI (fun n44 l45 =>
q_ucI (fun n46 l47 =>
q_ucI (fun n48 l49 =>
q_ucI (fun n50 l51 =>
q_ucI (fun n52 l53 =>
q_ucI (fun n54 l55 =>
q_uc0 (q_add64 (fun n56 =>
q_eql (q_join (fun l58 h59 =>
q_unI (fun n60 l61 =>
q_unI (fun n62 l63 =>
q_un0 (qm74 rfl (fun l64 h65 =>
q_unI (fun n66 l67 =>
q_un0 (q_neq (q_cond (rfl) (rfl))))))))) (fun j69 =>
q_cond (q_add64 (fun n70 =>
q_add64 (fun n71 =>
rfl))) (q_eql (q_join (fun l73 h74 =>
q_unI (fun n75 l76 =>
q_unI (fun n77 l78 =>
q_un0 (rfl)))) (fun j79 =>
q_cond (q_sub64 (fun n80 =>
rfl)) (q_eql (q_join (fun l82 h83 =>
q_unI (fun n84 l85 =>
q_unI (fun n86 l87 =>
q_un0 (rfl)))) (fun j88 =>
q_cond (q_add64 (fun n89 =>
rfl)) (rfl))))))))))))))))))))))))))))))))))))))))))
theorem eb40 : (fun c => wr40 c) = fun c => f40 (BA sgTab siteTab (ct40 c)) := ew40.trans (funext fun c => funext fun ls => funext fun h => funext fun K => (pf40 c ls h K).symm)
theorem ok40 {c : CallB} (hc : Cok c) : Ent 40 (w40 c) := ent_mem (ent_of (g := fun c => wr40 c) (f := fun A => f40 A) (ct := ct40) eb40 (congrFun (congrFun e40 RT) HTr) i40 (tblF_ok hc (by
    intro p hp
    simp only [List.mem_cons, List.not_mem_nil, or_false] at hp
    rcases hp with rfl | rfl
    · exact ok43 hc
    · exact ok74 hc))) rfl (by kernel_rfl)
/-- crimp/sheets.Line -/
noncomputable def ct26 (c : CallB) : CallB := tblF [(40, w40 c), (69, w69 c)] c
noncomputable def b26 (c : CallB) (a0 : Int) (a1 : Int) (a2 : Int) (a3 : Int) (h : HTr) (K : Int → Int → Int → HTr → RT) : RT :=
mc69 c a0 a1 a2 a3 h (fun r_1 r_2 r_3 r_4 h15 =>
@Bool.rec (fun _ => RT) (
mc40 c r_1 r_2 r_3 a3 h15 (fun r_5 r_6 r_7 h26 =>
K r_5 r_6 r_7 h26)) (
K (.ofNat (nat_lit 0)) (.ofNat (nat_lit 0)) r_4 h15) (notK (eqZK r_4 (.ofNat (nat_lit 0)))))
noncomputable def wq26 (c : CallB) : FB := fun ls h K => unIB ls fun a0 l0 => unIB l0 fun a1 l1 => unIB l1 fun a2 l2 => unIB l2 fun a3 l3 => un0B l3 (b26 c a0 a1 a2 a3 h (fun r0 r1 r2 h => K [.i r0, .i r1, .i r2] h))
noncomputable def wr26 (c : CallB) : FB := fun ls h K => @List.rec Lf (fun _ => RT) none (fun x0 l0 _ => @Lf.rec (fun _ => RT) (fun a0 => @List.rec Lf (fun _ => RT) none (fun x1 l1 _ => @Lf.rec (fun _ => RT) (fun a1 => @List.rec Lf (fun _ => RT) none (fun x2 l2 _ => @Lf.rec (fun _ => RT) (fun a2 => @List.rec Lf (fun _ => RT) none (fun x3 l3 _ => @Lf.rec (fun _ => RT) (fun a3 => @List.rec Lf (fun _ => RT) (b26 c a0 a1 a2 a3 h (fun r0 r1 r2 h => K [.i r0, .i r1, .i r2] h)) (fun _ _ _ => none) l3) (fun _ => none) (fun _ => none) x3) l2) (fun _ => none) (fun _ => none) x2) l1) (fun _ => none) (fun _ => none) x1) l0) (fun _ => none) (fun _ => none) x0) ls
theorem ew26 : (fun c => wr26 c) = fun c => wq26 c := by kernel_rfl
noncomputable def w26 (c : CallB) : FB := memo (wr26 c)
noncomputable def mc26 (c : CallB) (a0 : Int) (a1 : Int) (a2 : Int) (a3 : Int) (h : HTr) (K : Int → Int → Int → HTr → RT) : RT := fI a0 fun a0 => fI a1 fun a1 => fI a2 fun a2 => fI a3 fun a3 => @Option.rec _ (fun _ => RT) none (fun rs => unIB rs fun r0 l0 => unIB l0 fun r1 l1 => unIB l1 fun r2 l2 => un0B l2 (K r0 r1 r2 h)) (b26 c a0 a1 a2 a3 .empty (fun r0 r1 r2 h => tell [.i r0, .i r1, .i r2] h))
theorem vm26 : (fun (c : CallB) (a0 : Int) (a1 : Int) (a2 : Int) (a3 : Int) (h : HTr) (K : Int → Int → Int → HTr → RT) => w26 c [.i a0, .i a1, .i a2, .i a3] h (fun rs h => unIB rs fun r0 l0 => unIB l0 fun r1 l1 => unIB l1 fun r2 l2 => un0B l2 (K r0 r1 r2 h))) = fun c a0 a1 a2 a3 h K => mc26 c a0 a1 a2 a3 h K := by kernel_rfl
theorem qm26 {c call : CallB} (hct : call (.f 26) = w26 c) {a0 : Int} {a1 : Int} {a2 : Int} {a3 : Int} {h : HTr} {K : List Lf → HTr → RT} {K' : Int → Int → Int → HTr → RT} (hX : ∀ rs h, K rs h = unIB rs fun r0 l0 => unIB l0 fun r1 l1 => unIB l1 fun r2 l2 => un0B l2 (K' r0 r1 r2 h)) : (BA sgTab siteTab call).call 26 [.i a0, .i a1, .i a2, .i a3] h K = mc26 c a0 a1 a2 a3 h K' := by
  obtain rfl : K = fun rs h => unIB rs fun r0 l0 => unIB l0 fun r1 l1 => unIB l1 fun r2 l2 => un0B l2 (K' r0 r1 r2 h) := funext fun rs => funext fun h => hX rs h
  exact q_tab0 rfl ((congrFun (congrFun (congrFun hct _) _) _).trans (congrFun (congrFun (congrFun (congrFun (congrFun (congrFun (congrFun (vm26) c) a0) a1) a2) a3) h) K'))
theorem pf26 (c : CallB) (ls : List Lf) (h : HTr) (K : List Lf → HTr → RT) : f26 (BA sgTab siteTab (ct26 c)) ls h K = wq26 c ls h K :=
q_unI (fun n6 l7 =>
q_unI (fun n8 l9 =>
q_unI (fun n10 l11 =>
q_unI (fun n12 l13 =>
q_un0 (qm69 rfl (fun l14 h15 =>
q_unI (fun n16 l17 =>
q_unI (fun n18 l19 =>
q_unI (fun n20 l21 =>
q_unI (fun n22 l23 =>
q_un0 (q_neq (q_cond (rfl) (qm40 rfl (fun l25 h26 =>
q_unI (fun n27 l28 =>
q_unI (fun n29 l30 =>
q_unI (fun n31 l32 =>
q_un0 (rfl))))))))))))))))))
theorem eb26 : (fun c => wr26 c) = fun c => f26 (BA sgTab siteTab (ct26 c)) := ew26.trans (funext fun c => funext fun ls => funext fun h => funext fun K => (pf26 c ls h K).symm)
theorem ok26 {c : CallB} (hc : Cok c) : Ent 26 (w26 c) := ent_mem (ent_of (g := fun c => wr26 c) (f := fun A => f26 A) (ct := ct26) eb26 (congrFun (congrFun e26 RT) HTr) i26 (tblF_ok hc (by
    intro p hp
    simp only [List.mem_cons, List.not_mem_nil, or_false] at hp
    rcases hp with rfl | rfl
    · exact ok40 hc
    · exact ok69 hc))) rfl (by kernel_rfl)
/-- slices.Clip[[]crimp/api.Point,crimp/api.Point] -/
noncomputable def ct71 (c : CallB) : CallB := tblF [] c
noncomputable def b71 (c : CallB) (a0 : Value) (h : HTr) (K : Value → HTr → RT) : RT :=
optB (lenS a0) (fun x8 =>
optB (lenS a0) (fun x9 =>
optB (slS 2 a0 none (some x8) (some x9)) (fun x10 =>
chkB x10 (
K x10 h))))
noncomputable def wq71 (c : CallB) : FB := fun ls h K => unVB ls fun a0 l0 => un0B l0 (b71 c a0 h (fun r0 h => K [.v r0] h))
noncomputable def wr71 (c : CallB) : FB := fun ls h K => @List.rec Lf (fun _ => RT) none (fun x0 l0 _ => @Lf.rec (fun _ => RT) (fun _ => none) (fun _ => none) (fun a0 => @List.rec Lf (fun _ => RT) (b71 c a0 h (fun r0 h => K [.v r0] h)) (fun _ _ _ => none) l0) x0) ls
theorem ew71 : (fun c => wr71 c) = fun c => wq71 c := by kernel_rfl
noncomputable def w71 (c : CallB) : FB := wr71 c
theorem vb71 : (fun (c : CallB) (a0 : Value) (h : HTr) (K : List Lf → HTr → RT) => w71 c [.v a0] h K) = fun c a0 h K => b71 c a0 h (fun r0 h => K [.v r0] h) := by kernel_rfl
theorem qb71 {c call : CallB} (hct : call (.f 71) = w71 c) {a0 : Value} {h : HTr} {K : List Lf → HTr → RT} {K' : Value → HTr → RT} (hX : ∀ r0 h, K [.v r0] h = K' r0 h) : (BA sgTab siteTab call).call 71 [.v a0] h K = callG [.v a0] (b71 c a0 h K') := by
  obtain rfl : K' = fun r0 h => K [.v r0] h := funext fun r0 => funext fun h => (hX r0 h).symm
  exact q_tab rfl ((congrFun (congrFun (congrFun hct _) _) _).trans (congrFun (congrFun (congrFun (congrFun (vb71) c) a0) h) K))
theorem pf71 (c : CallB) (ls : List Lf) (h : HTr) (K : List Lf → HTr → RT) : f71 (BA sgTab siteTab (ct71 c)) ls h K = wq71 c ls h K :=
q_unV (fun x6 l7 =>
q_un0 (q_opt (fun x8 =>
q_opt (fun x9 =>
q_opt (fun x10 =>
q_chk (rfl))))))
theorem eb71 : (fun c => wr71 c) = fun c => f71 (BA sgTab siteTab (ct71 c)) := ew71.trans (funext fun c => funext fun ls => funext fun h => funext fun K => (pf71 c ls h K).symm)
theorem ok71 {c : CallB} (hc : Cok c) : Ent 71 (w71 c) := (ent_of (g := fun c => wr71 c) (f := fun A => f71 A) (ct := ct71) eb71 (congrFun (congrFun e71 RT) HTr) i71 (tblF_ok hc (by
    intro p hp
    cases hp)))
/-- crimp/sheets.Points -/
noncomputable def ct29 (c : CallB) : CallB := tblF [(33, w33 c), (71, w71 c)] c
noncomputable def b29 (c : CallB) (a0 : Int) (a1 : Int) (h : HTr) (K : Value → Int → HTr → RT) : RT :=
mc33 c a0 a1 h (fun r_1 h11 =>
@Bool.rec (fun _ => RT) (
loopB (fun s15 l16 h17 =>
unVB l16 (fun x18 l19 =>
unIB l19 (fun n20 l21 =>
un0B l21 (mulK (.ofNat (nat_lit 2)) a1 (fun c_ => out64 c_ (fun n22 =>
@Bool.rec (fun _ => RT) (
callG [.v x18] (b71 c x18 h17 (fun r_2 h50 =>
K r_2 (.ofNat (nat_lit 0)) h50))) (
loopB (fun s24 l25 h26 =>
unVB l25 (fun x27 l28 =>
unIB l28 (fun n29 l30 =>
un0B l30 (mulK (.ofNat (nat_lit 2)) a0 (fun c_ => out64 c_ (fun n31 =>
@Bool.rec (fun _ => RT) (
addK n20 (.ofNat (nat_lit 1)) (fun c_ => out64 c_ (fun n48 =>
s15 [.v x27, .i n48] h26))) (
@Bool.rec (fun _ => RT) (remK n29 (.ofNat (nat_lit 2)) (fun n33 =>
@Bool.rec (fun _ => RT) (remK n20 (.ofNat (nat_lit 2)) (fun n34 =>
joinB (fun l36 h37 =>
unVB l36 (fun x38 l39 =>
un0B l39 (addK n29 (.ofNat (nat_lit 1)) (fun c_ => out64 c_ (fun n40 =>
s24 [.v x38, .i n40] h37))))) (fun j41 =>
@Bool.rec (fun _ => RT) (
j41 [.v x27] h26) (
newB (.cells [(.int .i64 n29), (.int .i64 n20)] 2 true) h26 (fun m42 h43 =>
apB siteTab cc 2 16 x27 (.slice (some ⟨m42, 0, (some 12)⟩) 1 2) h43 (fun l44 h45 =>
ucVB l44 (fun x46 l47 =>
chkB x46 (
uc0B l47 (
j41 [.v x46] h45)))))) (eqZK n33 n34)))) none (isZ (.ofNat (nat_lit 2))))) none (isZ (.ofNat (nat_lit 2)))) (notK (leZ n31 n29)))))))) [.v x18, .i (.ofNat (nat_lit 1))] h17) (notK (leZ n22 n20)))))))) [.v (.slice none 0 0), .i (.ofNat (nat_lit 1))] h11) (
K (.slice none 0 0) r_1 h11) (notK (eqZK r_1 (.ofNat (nat_lit 0)))))
noncomputable def wq29 (c : CallB) : FB := fun ls h K => unIB ls fun a0 l0 => unIB l0 fun a1 l1 => un0B l1 (b29 c a0 a1 h (fun r0 r1 h => K [.v r0, .i r1] h))
noncomputable def wr29 (c : CallB) : FB := fun ls h K => @List.rec Lf (fun _ => RT) none (fun x0 l0 _ => @Lf.rec (fun _ => RT) (fun a0 => @List.rec Lf (fun _ => RT) none (fun x1 l1 _ => @Lf.rec (fun _ => RT) (fun a1 => @List.rec Lf (fun _ => RT) (b29 c a0 a1 h (fun r0 r1 h => K [.v r0, .i r1] h)) (fun _ _ _ => none) l1) (fun _ => none) (fun _ => none) x1) l0) (fun _ => none) (fun _ => none) x0) ls
theorem ew29 : (fun c => wr29 c) = fun c => wq29 c := by kernel_rfl
noncomputable def w29 (c : CallB) : FB := wr29 c
theorem vb29 : (fun (c : CallB) (a0 : Int) (a1 : Int) (h : HTr) (K : List Lf → HTr → RT) => w29 c [.i a0, .i a1] h K) = fun c a0 a1 h K => b29 c a0 a1 h (fun r0 r1 h => K [.v r0, .i r1] h) := by kernel_rfl
theorem qb29 {c call : CallB} (hct : call (.f 29) = w29 c) {a0 : Int} {a1 : Int} {h : HTr} {K : List Lf → HTr → RT} {K' : Value → Int → HTr → RT} (hX : ∀ r0 r1 h, K [.v r0, .i r1] h = K' r0 r1 h) : (BA sgTab siteTab call).call 29 [.i a0, .i a1] h K = b29 c a0 a1 h K' := by
  obtain rfl : K' = fun r0 r1 h => K [.v r0, .i r1] h := funext fun r0 => funext fun r1 => funext fun h => (hX r0 r1 h).symm
  exact q_tab0 rfl ((congrFun (congrFun (congrFun hct _) _) _).trans (congrFun (congrFun (congrFun (congrFun (congrFun (vb29) c) a0) a1) h) K))
theorem pf29 (c : CallB) (ls : List Lf) (h : HTr) (K : List Lf → HTr → RT) : f29 (BA sgTab siteTab (ct29 c)) ls h K = wq29 c ls h K :=
q_unI (fun n6 l7 =>
q_unI (fun n8 l9 =>
q_un0 (qm33 rfl (fun l10 h11 =>
q_unI (fun n12 l13 =>
q_un0 (q_neq (q_cond (rfl) (q_loop (fun s15 l16 h17 =>
q_unV (fun x18 l19 =>
q_unI (fun n20 l21 =>
q_un0 (q_mul64 (fun n22 =>
q_lss (q_cond (q_loop (fun s24 l25 h26 =>
q_unV (fun x27 l28 =>
q_unI (fun n29 l30 =>
q_un0 (q_mul64 (fun n31 =>
q_lss (q_cond (q_rem (fun n33 =>
q_rem (fun n34 =>
q_eql (q_join (fun l36 h37 =>
q_unV (fun x38 l39 =>
q_un0 (q_add64 (fun n40 =>
rfl)))) (fun j41 =>
q_cond (q_new (fun m42 h43 =>
q_ap (fun l44 h45 =>
q_ucV (fun x46 l47 =>
q_chk (q_uc0 (rfl)))))) (rfl)))))) (q_add64 (fun n48 =>
rfl))))))))) (qb71 rfl (fun r_2 h50 =>
q_unVs (q_un0s (rfl))))))))))))))))))
theorem eb29 : (fun c => wr29 c) = fun c => f29 (BA sgTab siteTab (ct29 c)) := ew29.trans (funext fun c => funext fun ls => funext fun h => funext fun K => (pf29 c ls h K).symm)
theorem ok29 {c : CallB} (hc : Cok c) : Ent 29 (w29 c) := (ent_of (g := fun c => wr29 c) (f := fun A => f29 A) (ct := ct29) eb29 (congrFun (congrFun e29 RT) HTr) i29 (tblF_ok hc (by
    intro p hp
    simp only [List.mem_cons, List.not_mem_nil, or_false] at hp
    rcases hp with rfl | rfl
    · exact ok33 hc
    · exact ok71 hc)))
/-- crimp/sheets.Count -/
noncomputable def ct34 (c : CallB) : CallB := tblF [(33, w33 c)] c
noncomputable def b34 (c : CallB) (a0 : Int) (a1 : Int) (h : HTr) (K : Int → HTr → RT) : RT :=
mc33 c a0 a1 h (fun r_1 h11 =>
@Bool.rec (fun _ => RT) (
mulK (.ofNat (nat_lit 4)) a0 (fun c_ => out64 c_ (fun n15 =>
mulK n15 a1 (fun c_ => out64 c_ (fun n16 =>
K n16 h11))))) (
K (.ofNat (nat_lit 0)) h11) (notK (eqZK r_1 (.ofNat (nat_lit 0)))))
noncomputable def wq34 (c : CallB) : FB := fun ls h K => unIB ls fun a0 l0 => unIB l0 fun a1 l1 => un0B l1 (b34 c a0 a1 h (fun r0 h => K [.i r0] h))
noncomputable def wr34 (c : CallB) : FB := fun ls h K => @List.rec Lf (fun _ => RT) none (fun x0 l0 _ => @Lf.rec (fun _ => RT) (fun a0 => @List.rec Lf (fun _ => RT) none (fun x1 l1 _ => @Lf.rec (fun _ => RT) (fun a1 => @List.rec Lf (fun _ => RT) (b34 c a0 a1 h (fun r0 h => K [.i r0] h)) (fun _ _ _ => none) l1) (fun _ => none) (fun _ => none) x1) l0) (fun _ => none) (fun _ => none) x0) ls
theorem ew34 : (fun c => wr34 c) = fun c => wq34 c := by kernel_rfl
noncomputable def w34 (c : CallB) : FB := memo (wr34 c)
noncomputable def mc34 (c : CallB) (a0 : Int) (a1 : Int) (h : HTr) (K : Int → HTr → RT) : RT := fI a0 fun a0 => fI a1 fun a1 => @Option.rec _ (fun _ => RT) none (fun rs => unIB rs fun r0 l0 => un0B l0 (K r0 h)) (b34 c a0 a1 .empty (fun r0 h => tell [.i r0] h))
theorem vm34 : (fun (c : CallB) (a0 : Int) (a1 : Int) (h : HTr) (K : Int → HTr → RT) => w34 c [.i a0, .i a1] h (fun rs h => unIB rs fun r0 l0 => un0B l0 (K r0 h))) = fun c a0 a1 h K => mc34 c a0 a1 h K := by kernel_rfl
theorem qm34 {c call : CallB} (hct : call (.f 34) = w34 c) {a0 : Int} {a1 : Int} {h : HTr} {K : List Lf → HTr → RT} {K' : Int → HTr → RT} (hX : ∀ rs h, K rs h = unIB rs fun r0 l0 => un0B l0 (K' r0 h)) : (BA sgTab siteTab call).call 34 [.i a0, .i a1] h K = mc34 c a0 a1 h K' := by
  obtain rfl : K = fun rs h => unIB rs fun r0 l0 => un0B l0 (K' r0 h) := funext fun rs => funext fun h => hX rs h
  exact q_tab0 rfl ((congrFun (congrFun (congrFun hct _) _) _).trans (congrFun (congrFun (congrFun (congrFun (congrFun (vm34) c) a0) a1) h) K'))
theorem pf34 (c : CallB) (ls : List Lf) (h : HTr) (K : List Lf → HTr → RT) : f34 (BA sgTab siteTab (ct34 c)) ls h K = wq34 c ls h K :=
q_unI (fun n6 l7 =>
q_unI (fun n8 l9 =>
q_un0 (qm33 rfl (fun l10 h11 =>
q_unI (fun n12 l13 =>
q_un0 (q_neq (q_cond (rfl) (q_mul64 (fun n15 =>
q_mul64 (fun n16 =>
rfl))))))))))
theorem eb34 : (fun c => wr34 c) = fun c => f34 (BA sgTab siteTab (ct34 c)) := ew34.trans (funext fun c => funext fun ls => funext fun h => funext fun K => (pf34 c ls h K).symm)
theorem ok34 {c : CallB} (hc : Cok c) : Ent 34 (w34 c) := ent_mem (ent_of (g := fun c => wr34 c) (f := fun A => f34 A) (ct := ct34) eb34 (congrFun (congrFun e34 RT) HTr) i34 (tblF_ok hc (by
    intro p hp
    simp only [List.mem_cons, List.not_mem_nil, or_false] at hp
    subst hp
    exact ok33 hc))) rfl (by kernel_rfl)
/-- crimp/crimplaw05.sheet -/
noncomputable def ct39 (c : CallB) : CallB := tblF [] c
noncomputable def b39 (c : CallB) (a0 : Int) (a1 : Int) (h : HTr) (K : Int → Int → HTr → RT) : RT :=
K a0 a1 h
noncomputable def wq39 (c : CallB) : FB := fun ls h K => unIB ls fun a0 l0 => unIB l0 fun a1 l1 => un0B l1 (b39 c a0 a1 h (fun r0 r1 h => K [.i r0, .i r1] h))
noncomputable def wr39 (c : CallB) : FB := fun ls h K => @List.rec Lf (fun _ => RT) none (fun x0 l0 _ => @Lf.rec (fun _ => RT) (fun a0 => @List.rec Lf (fun _ => RT) none (fun x1 l1 _ => @Lf.rec (fun _ => RT) (fun a1 => @List.rec Lf (fun _ => RT) (b39 c a0 a1 h (fun r0 r1 h => K [.i r0, .i r1] h)) (fun _ _ _ => none) l1) (fun _ => none) (fun _ => none) x1) l0) (fun _ => none) (fun _ => none) x0) ls
theorem ew39 : (fun c => wr39 c) = fun c => wq39 c := by kernel_rfl
noncomputable def w39 (c : CallB) : FB := memo (wr39 c)
noncomputable def mc39 (c : CallB) (a0 : Int) (a1 : Int) (h : HTr) (K : Int → Int → HTr → RT) : RT := fI a0 fun a0 => fI a1 fun a1 => @Option.rec _ (fun _ => RT) none (fun rs => unIB rs fun r0 l0 => unIB l0 fun r1 l1 => un0B l1 (K r0 r1 h)) (b39 c a0 a1 .empty (fun r0 r1 h => tell [.i r0, .i r1] h))
theorem vm39 : (fun (c : CallB) (a0 : Int) (a1 : Int) (h : HTr) (K : Int → Int → HTr → RT) => w39 c [.i a0, .i a1] h (fun rs h => unIB rs fun r0 l0 => unIB l0 fun r1 l1 => un0B l1 (K r0 r1 h))) = fun c a0 a1 h K => mc39 c a0 a1 h K := by kernel_rfl
theorem qm39 {c call : CallB} (hct : call (.f 39) = w39 c) {a0 : Int} {a1 : Int} {h : HTr} {K : List Lf → HTr → RT} {K' : Int → Int → HTr → RT} (hX : ∀ rs h, K rs h = unIB rs fun r0 l0 => unIB l0 fun r1 l1 => un0B l1 (K' r0 r1 h)) : (BA sgTab siteTab call).call 39 [.i a0, .i a1] h K = mc39 c a0 a1 h K' := by
  obtain rfl : K = fun rs h => unIB rs fun r0 l0 => unIB l0 fun r1 l1 => un0B l1 (K' r0 r1 h) := funext fun rs => funext fun h => hX rs h
  exact q_tab0 rfl ((congrFun (congrFun (congrFun hct _) _) _).trans (congrFun (congrFun (congrFun (congrFun (congrFun (vm39) c) a0) a1) h) K'))
theorem pf39 (c : CallB) (ls : List Lf) (h : HTr) (K : List Lf → HTr → RT) : f39 (BA sgTab siteTab (ct39 c)) ls h K = wq39 c ls h K :=
q_unI (fun n6 l7 =>
q_unI (fun n8 l9 =>
q_un0 (rfl)))
theorem eb39 : (fun c => wr39 c) = fun c => f39 (BA sgTab siteTab (ct39 c)) := ew39.trans (funext fun c => funext fun ls => funext fun h => funext fun K => (pf39 c ls h K).symm)
theorem ok39 {c : CallB} (hc : Cok c) : Ent 39 (w39 c) := ent_mem (ent_of (g := fun c => wr39 c) (f := fun A => f39 A) (ct := ct39) eb39 (congrFun (congrFun e39 RT) HTr) i39 (tblF_ok hc (by
    intro p hp
    cases hp))) rfl (by kernel_rfl)
/-- crimp/crimplaw05.lives -/
noncomputable def ct21 (c : CallB) : CallB := tblF [(18, w18 c), (19, w19 c), (22, w22 c), (23, w23 c), (25, w25 c), (26, w26 c), (29, w29 c), (33, w33 c), (34, w34 c), (35, w35 c), (36, w36 c), (39, w39 c)] c
noncomputable def b21 (c : CallB) (h : HTr) (K : Bool → HTr → RT) : RT :=
mc39 c (.ofNat (nat_lit 2)) (.ofNat (nat_lit 1)) h (fun r_1 r_2 h7 =>
mc35 c r_1 r_2 (.ofNat (nat_lit 5)) h7 (fun r_3 r_4 r_5 r_6 h13 =>
mc39 c (.ofNat (nat_lit 2)) (.ofNat (nat_lit 1)) h13 (fun r_7 r_8 h23 =>
mc36 c r_7 r_8 (.ofNat (nat_lit 1)) (.ofNat (nat_lit 0)) (.ofNat (nat_lit 0)) h23 (fun r_9 r_10 h29 =>
mc39 c (.ofNat (nat_lit 2)) (.ofNat (nat_lit 1)) h29 (fun r_11 r_12 h35 =>
mc19 c r_11 r_12 (.ofNat (nat_lit 7)) (.ofNat (nat_lit 0)) h35 (fun r_13 r_14 r_15 h41 =>
mc39 c (.ofNat (nat_lit 2)) (.ofNat (nat_lit 1)) h41 (fun r_16 r_17 h49 =>
mc34 c r_16 r_17 h49 (fun r_18 h55 =>
@Bool.rec (fun _ => RT) (
@Bool.rec (fun _ => RT) (
@Bool.rec (fun _ => RT) (
mc22 c (.ofNat (nat_lit 1)) (.ofNat (nat_lit 0)) h55 (fun r_19 r_20 h62 =>
@Bool.rec (fun _ => RT) (
loopB (fun s68 l69 h70 =>
unIB l69 (fun n71 l72 =>
un0B l72 (@Bool.rec (fun _ => RT) (
mc39 c (.ofNat (nat_lit 1)) (.ofNat (nat_lit 1)) h70 (fun r_25 r_26 h96 =>
b23 c r_25 r_26 h96 (fun r_27 r_28 h102 =>
mc39 c (.ofNat (nat_lit 2)) (.ofNat (nat_lit 2)) h102 (fun r_29 r_30 h108 =>
b29 c r_29 r_30 h108 (fun r_31 r_32 h114 =>
optB (lenS r_27) (fun x119 =>
@Bool.rec (fun _ => RT) (
optB (idS 2 r_27 (.ofNat (nat_lit 0))) (fun x121 =>
ldB 2 x121 h114 (fun l122 =>
ucIB .i64 l122 (fun n123 l124 =>
ucIB .u8 l124 (fun n125 l126 =>
uc0B l126 (
mc22 c (.ofNat (nat_lit 0)) (.ofNat (nat_lit 1)) h114 (fun r_33 r_34 h128 =>
@Bool.rec (fun _ => RT) (
optB (idS 2 r_27 (.ofNat (nat_lit 1))) (fun x134 =>
ldB 2 x134 h128 (fun l135 =>
ucIB .i64 l135 (fun n136 l137 =>
ucIB .u8 l137 (fun n138 l139 =>
uc0B l139 (
mc22 c (.ofNat (nat_lit 0)) (.ofNat (nat_lit 2)) h128 (fun r_35 r_36 h141 =>
@Bool.rec (fun _ => RT) (
optB (idS 2 r_27 (.ofNat (nat_lit 2))) (fun x147 =>
ldB 2 x147 h141 (fun l148 =>
ucIB .i64 l148 (fun n149 l150 =>
ucIB .u8 l150 (fun n151 l152 =>
uc0B l152 (
mc22 c (.ofNat (nat_lit 1)) (.ofNat (nat_lit 2)) h141 (fun r_37 r_38 h154 =>
@Bool.rec (fun _ => RT) (
optB (idS 2 r_27 (.ofNat (nat_lit 3))) (fun x160 =>
ldB 2 x160 h154 (fun l161 =>
ucIB .i64 l161 (fun n162 l163 =>
ucIB .u8 l163 (fun n164 l165 =>
uc0B l165 (
mc22 c (.ofNat (nat_lit 2)) (.ofNat (nat_lit 1)) h154 (fun r_39 r_40 h167 =>
@Bool.rec (fun _ => RT) (
optB (lenS r_31) (fun x173 =>
@Bool.rec (fun _ => RT) (
optB (idS 2 r_31 (.ofNat (nat_lit 0))) (fun x175 =>
ldB 2 x175 h167 (fun l176 =>
ucIB .i64 l176 (fun n177 l178 =>
ucIB .i64 l178 (fun n179 l180 =>
uc0B l180 (
@Bool.rec (fun _ => RT) (
optB (idS 2 r_31 (.ofNat (nat_lit 1))) (fun x182 =>
ldB 2 x182 h167 (fun l183 =>
ucIB .i64 l183 (fun n184 l185 =>
ucIB .i64 l185 (fun n186 l187 =>
uc0B l187 (
@Bool.rec (fun _ => RT) (
optB (idS 2 r_31 (.ofNat (nat_lit 2))) (fun x189 =>
ldB 2 x189 h167 (fun l190 =>
ucIB .i64 l190 (fun n191 l192 =>
ucIB .i64 l192 (fun n193 l194 =>
uc0B l194 (
@Bool.rec (fun _ => RT) (
optB (idS 2 r_31 (.ofNat (nat_lit 3))) (fun x196 =>
ldB 2 x196 h167 (fun l197 =>
ucIB .i64 l197 (fun n198 l199 =>
ucIB .i64 l199 (fun n200 l201 =>
uc0B l201 (
@Bool.rec (fun _ => RT) (
optB (idS 2 r_31 (.ofNat (nat_lit 4))) (fun x203 =>
ldB 2 x203 h167 (fun l204 =>
ucIB .i64 l204 (fun n205 l206 =>
ucIB .i64 l206 (fun n207 l208 =>
uc0B l208 (
@Bool.rec (fun _ => RT) (
mc39 c (.ofNat (nat_lit 1)) (.ofNat (nat_lit 1)) h167 (fun r_41 r_42 h211 =>
mc22 c (.ofNat (nat_lit 0)) (.ofNat (nat_lit 1)) h211 (fun r_43 r_44 h217 =>
mc26 c r_41 r_42 r_43 r_44 h217 (fun r_45 r_46 r_47 h223 =>
mc39 c (.ofNat (nat_lit 1)) (.ofNat (nat_lit 1)) h223 (fun r_48 r_49 h231 =>
mc22 c (.ofNat (nat_lit 0)) (.ofNat (nat_lit 1)) h231 (fun r_50 r_51 h237 =>
mc25 c r_48 r_49 r_50 r_51 h237 (fun r_52 r_53 r_54 r_55 r_56 h243 =>
mc39 c (.ofNat (nat_lit 2)) (.ofNat (nat_lit 1)) h243 (fun r_57 r_58 h255 =>
mc22 c (.ofNat (nat_lit 1)) (.ofNat (nat_lit 0)) h255 (fun r_59 r_60 h261 =>
mc26 c r_57 r_58 r_59 r_60 h261 (fun r_61 r_62 r_63 h267 =>
mc39 c (.ofNat (nat_lit 2)) (.ofNat (nat_lit 1)) h267 (fun r_64 r_65 h275 =>
mc22 c (.ofNat (nat_lit 1)) (.ofNat (nat_lit 0)) h275 (fun r_66 r_67 h281 =>
mc25 c r_64 r_65 r_66 r_67 h281 (fun r_68 r_69 r_70 r_71 r_72 h287 =>
@Bool.rec (fun _ => RT) (
@Bool.rec (fun _ => RT) (
@Bool.rec (fun _ => RT) (
@Bool.rec (fun _ => RT) (
mc39 c (.ofNat (nat_lit 2)) (.ofNat (nat_lit 1)) h287 (fun r_73 r_74 h303 =>
mc18 c r_73 r_74 (.ofNat (nat_lit 0)) (.ofNat (nat_lit 0)) h303 (fun r_75 r_76 h309 =>
mc39 c (.ofNat (nat_lit 2)) (.ofNat (nat_lit 1)) h309 (fun r_77 r_78 h315 =>
mc18 c r_77 r_78 (.ofNat (nat_lit 0)) (.ofNat (nat_lit 3)) h315 (fun r_79 r_80 h321 =>
mc39 c (.ofNat (nat_lit 2)) (.ofNat (nat_lit 1)) h321 (fun r_81 r_82 h327 =>
mc18 c r_81 r_82 (.ofNat (nat_lit 8)) (.ofNat (nat_lit 0)) h327 (fun r_83 r_84 h333 =>
joinB (fun l338 h339 =>
unBB l338 (fun t340 l341 =>
un0B l341 (K t340 h339))) (fun j342 =>
@Bool.rec (fun _ => RT) (
j342 [.b false] h333) (
@Bool.rec (fun _ => RT) (
j342 [.b false] h333) (
@Bool.rec (fun _ => RT) (
j342 [.b false] h333) (
mc39 c (.ofNat (nat_lit 16)) (.ofNat (nat_lit 16)) h333 (fun r_85 r_86 h347 =>
mc33 c r_85 r_86 h347 (fun r_87 h353 =>
@Bool.rec (fun _ => RT) (
j342 [.b false] h353) (
mc39 c (.ofNat (nat_lit 256)) (.ofNat (nat_lit 1)) h353 (fun r_88 r_89 h358 =>
mc33 c r_88 r_89 h358 (fun r_90 h364 =>
@Bool.rec (fun _ => RT) (
j342 [.b false] h364) (
mc39 c (.ofNat (nat_lit 17)) (.ofNat (nat_lit 16)) h364 (fun r_91 r_92 h369 =>
mc33 c r_91 r_92 h369 (fun r_93 h375 =>
@Bool.rec (fun _ => RT) (
j342 [.b false] h375) (
mc39 c (.ofNat (nat_lit 0)) (.ofNat (nat_lit 1)) h375 (fun r_94 r_95 h380 =>
mc33 c r_94 r_95 h380 (fun r_96 h386 =>
j342 [.b (eqZK r_96 (.ofNat (nat_lit 1)))] h386))) (eqZK r_93 (.ofNat (nat_lit 1)))))) (eqZK r_90 (.ofNat (nat_lit 0)))))) (eqZK r_87 (.ofNat (nat_lit 0)))))) (eqZK r_84 (.ofNat (nat_lit 7)))) (eqZK r_80 (.ofNat (nat_lit 1)))) (eqZK r_76 (.ofNat (nat_lit 7))))))))))) (
K false h287) (!(@Bool.rec (fun _ => Bool) false (@Bool.rec (fun _ => Bool) false (@Bool.rec (fun _ => Bool) false (@Bool.rec (fun _ => Bool) false true (eqZK r_71 (.ofNat (nat_lit 2)))) (eqZK r_70 (.ofNat (nat_lit 2)))) (eqZK r_69 (.ofNat (nat_lit 0)))) (eqZK r_68 (.ofNat (nat_lit 2)))))) (
K false h287) (!(@Bool.rec (fun _ => Bool) false (@Bool.rec (fun _ => Bool) false true (eqZK r_62 (.ofNat (nat_lit 1)))) (eqZK r_61 (.ofNat (nat_lit 1)))))) (
K false h287) (!(@Bool.rec (fun _ => Bool) false (@Bool.rec (fun _ => Bool) false (@Bool.rec (fun _ => Bool) false (@Bool.rec (fun _ => Bool) false true (eqZK r_55 (.ofNat (nat_lit 0)))) (eqZK r_54 (.ofNat (nat_lit 2)))) (eqZK r_53 (.ofNat (nat_lit 1)))) (eqZK r_52 (.ofNat (nat_lit 1)))))) (
K false h287) (!(@Bool.rec (fun _ => Bool) false (@Bool.rec (fun _ => Bool) false true (eqZK r_46 (.ofNat (nat_lit 1)))) (eqZK r_45 (.ofNat (nat_lit 3)))))))))))))))))) (
K false h167) (!(@Bool.rec (fun _ => Bool) false (@Bool.rec (fun _ => Bool) false true (eqZK n207 (.ofNat (nat_lit 3)))) (eqZK n205 (.ofNat (nat_lit 3))))))))))) (
K false h167) (!(@Bool.rec (fun _ => Bool) false (@Bool.rec (fun _ => Bool) false true (eqZK n200 (.ofNat (nat_lit 3)))) (eqZK n198 (.ofNat (nat_lit 1))))))))))) (
K false h167) (!(@Bool.rec (fun _ => Bool) false (@Bool.rec (fun _ => Bool) false true (eqZK n193 (.ofNat (nat_lit 2)))) (eqZK n191 (.ofNat (nat_lit 2))))))))))) (
K false h167) (!(@Bool.rec (fun _ => Bool) false (@Bool.rec (fun _ => Bool) false true (eqZK n186 (.ofNat (nat_lit 1)))) (eqZK n184 (.ofNat (nat_lit 3))))))))))) (
K false h167) (!(@Bool.rec (fun _ => Bool) false (@Bool.rec (fun _ => Bool) false true (eqZK n179 (.ofNat (nat_lit 1)))) (eqZK n177 (.ofNat (nat_lit 1))))))))))) (
K false h167) (notK (eqZK x173 (.ofNat (nat_lit 5)))))) (
K false h167) (!(@Bool.rec (fun _ => Bool) false (@Bool.rec (fun _ => Bool) false true (eqZK n164 r_40)) (eqZK n162 r_39)))))))))) (
K false h154) (!(@Bool.rec (fun _ => Bool) false (@Bool.rec (fun _ => Bool) false true (eqZK n151 r_38)) (eqZK n149 r_37)))))))))) (
K false h141) (!(@Bool.rec (fun _ => Bool) false (@Bool.rec (fun _ => Bool) false true (eqZK n138 r_36)) (eqZK n136 r_35)))))))))) (
K false h128) (!(@Bool.rec (fun _ => Bool) false (@Bool.rec (fun _ => Bool) false true (eqZK n125 r_34)) (eqZK n123 r_33)))))))))) (
K false h114) (notK (eqZK x119 (.ofNat (nat_lit 4)))))))))) (
mc39 c (.ofNat (nat_lit 2)) (.ofNat (nat_lit 1)) h70 (fun r_21 r_22 h75 =>
mc18 c r_21 r_22 (.ofNat (nat_lit 1)) n71 h75 (fun r_23 r_24 h81 =>
newB (.cells [(.int .i64 (.ofNat (nat_lit 7))), (.int .i64 (.ofNat (nat_lit 0))), (.int .i64 (.ofNat (nat_lit 2)))] 1 true) h81 (fun m86 h87 =>
optB (idS 1 (.slice (some ⟨m86, 0, (some 11)⟩) 3 4) n71) (fun x88 =>
ldB 1 x88 h87 (fun l89 =>
ucIB .i64 l89 (fun n90 l91 =>
uc0B l91 (
@Bool.rec (fun _ => RT) (
@Bool.rec (fun _ => RT) (
addK n71 (.ofNat (nat_lit 1)) (fun c_ => outU8 c_ (fun n94 =>
s68 [.i n94] h87))) (
K false h87) (notK (eqZK r_24 (.ofNat (nat_lit 0))))) (
K false h87) (notK (eqZK r_23 n90)))))))))) (notK (leZ (.ofNat (nat_lit 3)) n71))))) [.i (.ofNat (nat_lit 0))] h62) (
K false h62) (!(@Bool.rec (fun _ => Bool) false (@Bool.rec (fun _ => Bool) false true (eqZK r_14 r_20)) (eqZK r_13 r_19))))) (
K false h55) (notK (eqZK r_9 (.ofNat (nat_lit 4))))) (
K false h55) (!(@Bool.rec (fun _ => Bool) false (@Bool.rec (fun _ => Bool) false (@Bool.rec (fun _ => Bool) false true (eqZK r_5 (.ofNat (nat_lit 1)))) (eqZK r_4 (.ofNat (nat_lit 0)))) (eqZK r_3 (.ofNat (nat_lit 1)))))) (
K false h55) (notK (eqZK r_18 (.ofNat (nat_lit 8))))))))))))
noncomputable def wq21 (c : CallB) : FB := fun ls h K => un0B ls (b21 c h (fun r0 h => K [.b r0] h))
noncomputable def wr21 (c : CallB) : FB := fun ls h K => @List.rec Lf (fun _ => RT) (b21 c h (fun r0 h => K [.b r0] h)) (fun _ _ _ => none) ls
theorem ew21 : (fun c => wr21 c) = fun c => wq21 c := by kernel_rfl
noncomputable def w21 (c : CallB) : FB := memo (wr21 c)
noncomputable def mc21 (c : CallB) (h : HTr) (K : Bool → HTr → RT) : RT := @Option.rec _ (fun _ => RT) none (fun rs => unBB rs fun r0 l0 => un0B l0 (K r0 h)) (b21 c .empty (fun r0 h => tell [.b r0] h))
theorem vm21 : (fun (c : CallB) (h : HTr) (K : Bool → HTr → RT) => w21 c [] h (fun rs h => unBB rs fun r0 l0 => un0B l0 (K r0 h))) = fun c h K => mc21 c h K := by kernel_rfl
theorem qm21 {c call : CallB} (hct : call (.f 21) = w21 c) {h : HTr} {K : List Lf → HTr → RT} {K' : Bool → HTr → RT} (hX : ∀ rs h, K rs h = unBB rs fun r0 l0 => un0B l0 (K' r0 h)) : (BA sgTab siteTab call).call 21 [] h K = mc21 c h K' := by
  obtain rfl : K = fun rs h => unBB rs fun r0 l0 => un0B l0 (K' r0 h) := funext fun rs => funext fun h => hX rs h
  exact q_tab0 rfl ((congrFun (congrFun (congrFun hct _) _) _).trans (congrFun (congrFun (congrFun (vm21) c) h) K'))
theorem pf21 (c : CallB) (ls : List Lf) (h : HTr) (K : List Lf → HTr → RT) : f21 (BA sgTab siteTab (ct21 c)) ls h K = wq21 c ls h K :=
q_un0 (qm39 rfl (fun l6 h7 =>
q_unI (fun n8 l9 =>
q_unI (fun n10 l11 =>
q_un0 (qm35 rfl (fun l12 h13 =>
q_unI (fun n14 l15 =>
q_unI (fun n16 l17 =>
q_unI (fun n18 l19 =>
q_unI (fun n20 l21 =>
q_un0 (qm39 rfl (fun l22 h23 =>
q_unI (fun n24 l25 =>
q_unI (fun n26 l27 =>
q_un0 (qm36 rfl (fun l28 h29 =>
q_unI (fun n30 l31 =>
q_unI (fun n32 l33 =>
q_un0 (qm39 rfl (fun l34 h35 =>
q_unI (fun n36 l37 =>
q_unI (fun n38 l39 =>
q_un0 (qm19 rfl (fun l40 h41 =>
q_unI (fun n42 l43 =>
q_unI (fun n44 l45 =>
q_unI (fun n46 l47 =>
q_un0 (qm39 rfl (fun l48 h49 =>
q_unI (fun n50 l51 =>
q_unI (fun n52 l53 =>
q_un0 (qm34 rfl (fun l54 h55 =>
q_unI (fun n56 l57 =>
q_un0 (q_neq (q_cond (rfl) (q_eqs (q_cond (rfl) (q_neq (q_cond (rfl) (qm22 rfl (fun l61 h62 =>
q_unI (fun n63 l64 =>
q_unI (fun n65 l66 =>
q_un0 (q_eqs (q_cond (rfl) (q_loop (fun s68 l69 h70 =>
q_unI (fun n71 l72 =>
q_un0 (q_lss (q_cond (qm39 rfl (fun l74 h75 =>
q_unI (fun n76 l77 =>
q_unI (fun n78 l79 =>
q_un0 (qm18 rfl (fun l80 h81 =>
q_unI (fun n82 l83 =>
q_unI (fun n84 l85 =>
q_un0 (q_new (fun m86 h87 =>
q_opt (fun x88 =>
q_ld (fun l89 =>
q_ucI (fun n90 l91 =>
q_uc0 (q_neq (q_cond (rfl) (q_neq (q_cond (rfl) (q_addU8 (fun n94 =>
rfl))))))))))))))))))) (qm39 rfl (fun l95 h96 =>
q_unI (fun n97 l98 =>
q_unI (fun n99 l100 =>
q_un0 (qb23 rfl (fun r_27 r_28 h102 =>
q_unVs (q_unIs (q_un0s (qm39 rfl (fun l107 h108 =>
q_unI (fun n109 l110 =>
q_unI (fun n111 l112 =>
q_un0 (qb29 rfl (fun r_31 r_32 h114 =>
q_unVs (q_unIs (q_un0s (q_opt (fun x119 =>
q_neq (q_cond (rfl) (q_opt (fun x121 =>
q_ld (fun l122 =>
q_ucI (fun n123 l124 =>
q_ucI (fun n125 l126 =>
q_uc0 (qm22 rfl (fun l127 h128 =>
q_unI (fun n129 l130 =>
q_unI (fun n131 l132 =>
q_un0 (q_eqs (q_cond (rfl) (q_opt (fun x134 =>
q_ld (fun l135 =>
q_ucI (fun n136 l137 =>
q_ucI (fun n138 l139 =>
q_uc0 (qm22 rfl (fun l140 h141 =>
q_unI (fun n142 l143 =>
q_unI (fun n144 l145 =>
q_un0 (q_eqs (q_cond (rfl) (q_opt (fun x147 =>
q_ld (fun l148 =>
q_ucI (fun n149 l150 =>
q_ucI (fun n151 l152 =>
q_uc0 (qm22 rfl (fun l153 h154 =>
q_unI (fun n155 l156 =>
q_unI (fun n157 l158 =>
q_un0 (q_eqs (q_cond (rfl) (q_opt (fun x160 =>
q_ld (fun l161 =>
q_ucI (fun n162 l163 =>
q_ucI (fun n164 l165 =>
q_uc0 (qm22 rfl (fun l166 h167 =>
q_unI (fun n168 l169 =>
q_unI (fun n170 l171 =>
q_un0 (q_eqs (q_cond (rfl) (q_opt (fun x173 =>
q_neq (q_cond (rfl) (q_opt (fun x175 =>
q_ld (fun l176 =>
q_ucI (fun n177 l178 =>
q_ucI (fun n179 l180 =>
q_uc0 (q_eqs (q_cond (rfl) (q_opt (fun x182 =>
q_ld (fun l183 =>
q_ucI (fun n184 l185 =>
q_ucI (fun n186 l187 =>
q_uc0 (q_eqs (q_cond (rfl) (q_opt (fun x189 =>
q_ld (fun l190 =>
q_ucI (fun n191 l192 =>
q_ucI (fun n193 l194 =>
q_uc0 (q_eqs (q_cond (rfl) (q_opt (fun x196 =>
q_ld (fun l197 =>
q_ucI (fun n198 l199 =>
q_ucI (fun n200 l201 =>
q_uc0 (q_eqs (q_cond (rfl) (q_opt (fun x203 =>
q_ld (fun l204 =>
q_ucI (fun n205 l206 =>
q_ucI (fun n207 l208 =>
q_uc0 (q_eqs (q_cond (rfl) (qm39 rfl (fun l210 h211 =>
q_unI (fun n212 l213 =>
q_unI (fun n214 l215 =>
q_un0 (qm22 rfl (fun l216 h217 =>
q_unI (fun n218 l219 =>
q_unI (fun n220 l221 =>
q_un0 (qm26 rfl (fun l222 h223 =>
q_unI (fun n224 l225 =>
q_unI (fun n226 l227 =>
q_unI (fun n228 l229 =>
q_un0 (qm39 rfl (fun l230 h231 =>
q_unI (fun n232 l233 =>
q_unI (fun n234 l235 =>
q_un0 (qm22 rfl (fun l236 h237 =>
q_unI (fun n238 l239 =>
q_unI (fun n240 l241 =>
q_un0 (qm25 rfl (fun l242 h243 =>
q_unI (fun n244 l245 =>
q_unI (fun n246 l247 =>
q_unI (fun n248 l249 =>
q_unI (fun n250 l251 =>
q_unI (fun n252 l253 =>
q_un0 (qm39 rfl (fun l254 h255 =>
q_unI (fun n256 l257 =>
q_unI (fun n258 l259 =>
q_un0 (qm22 rfl (fun l260 h261 =>
q_unI (fun n262 l263 =>
q_unI (fun n264 l265 =>
q_un0 (qm26 rfl (fun l266 h267 =>
q_unI (fun n268 l269 =>
q_unI (fun n270 l271 =>
q_unI (fun n272 l273 =>
q_un0 (qm39 rfl (fun l274 h275 =>
q_unI (fun n276 l277 =>
q_unI (fun n278 l279 =>
q_un0 (qm22 rfl (fun l280 h281 =>
q_unI (fun n282 l283 =>
q_unI (fun n284 l285 =>
q_un0 (qm25 rfl (fun l286 h287 =>
q_unI (fun n288 l289 =>
q_unI (fun n290 l291 =>
q_unI (fun n292 l293 =>
q_unI (fun n294 l295 =>
q_unI (fun n296 l297 =>
q_un0 (q_eqs (q_cond (rfl) (q_eqs (q_cond (rfl) (q_eqs (q_cond (rfl) (q_eqs (q_cond (rfl) (qm39 rfl (fun l302 h303 =>
q_unI (fun n304 l305 =>
q_unI (fun n306 l307 =>
q_un0 (qm18 rfl (fun l308 h309 =>
q_unI (fun n310 l311 =>
q_unI (fun n312 l313 =>
q_un0 (qm39 rfl (fun l314 h315 =>
q_unI (fun n316 l317 =>
q_unI (fun n318 l319 =>
q_un0 (qm18 rfl (fun l320 h321 =>
q_unI (fun n322 l323 =>
q_unI (fun n324 l325 =>
q_un0 (qm39 rfl (fun l326 h327 =>
q_unI (fun n328 l329 =>
q_unI (fun n330 l331 =>
q_un0 (qm18 rfl (fun l332 h333 =>
q_unI (fun n334 l335 =>
q_unI (fun n336 l337 =>
q_un0 (q_join (fun l338 h339 =>
q_unB (fun t340 l341 =>
q_un0 (rfl))) (fun j342 =>
q_eql (q_cond (q_eql (q_cond (q_eql (q_cond (qm39 rfl (fun l346 h347 =>
q_unI (fun n348 l349 =>
q_unI (fun n350 l351 =>
q_un0 (qm33 rfl (fun l352 h353 =>
q_unI (fun n354 l355 =>
q_un0 (q_eql (q_cond (qm39 rfl (fun l357 h358 =>
q_unI (fun n359 l360 =>
q_unI (fun n361 l362 =>
q_un0 (qm33 rfl (fun l363 h364 =>
q_unI (fun n365 l366 =>
q_un0 (q_eql (q_cond (qm39 rfl (fun l368 h369 =>
q_unI (fun n370 l371 =>
q_unI (fun n372 l373 =>
q_un0 (qm33 rfl (fun l374 h375 =>
q_unI (fun n376 l377 =>
q_un0 (q_eql (q_cond (qm39 rfl (fun l379 h380 =>
q_unI (fun n381 l382 =>
q_unI (fun n383 l384 =>
q_un0 (qm33 rfl (fun l385 h386 =>
q_unI (fun n387 l388 =>
q_un0 (q_eql (rfl))))))))) (rfl)))))))))) (rfl)))))))))) (rfl)))))))))) (rfl))) (rfl))) (rfl))))))))))))))))))))))))))))))))))))))))))))))))))))))))))))))))))))))))))))))))))))))))))))))))))))))))))))))))))))))))))))))))))))))))))))))))))))))))))))))))))))))))))))))))))))))))))))))))))))))))))))))))))))))))))))))))))))))))))))))))))))
theorem eb21 : (fun c => wr21 c) = fun c => f21 (BA sgTab siteTab (ct21 c)) := ew21.trans (funext fun c => funext fun ls => funext fun h => funext fun K => (pf21 c ls h K).symm)
theorem ok21 {c : CallB} (hc : Cok c) : Ent 21 (w21 c) := ent_mem (ent_of (g := fun c => wr21 c) (f := fun A => f21 A) (ct := ct21) eb21 (congrFun (congrFun e21 RT) HTr) i21 (tblF_ok hc (by
    intro p hp
    simp only [List.mem_cons, List.not_mem_nil, or_false] at hp
    rcases hp with rfl | rfl | rfl | rfl | rfl | rfl | rfl | rfl | rfl | rfl | rfl | rfl
    · exact ok18 hc
    · exact ok19 hc
    · exact ok22 hc
    · exact ok23 hc
    · exact ok25 hc
    · exact ok26 hc
    · exact ok29 hc
    · exact ok33 hc
    · exact ok34 hc
    · exact ok35 hc
    · exact ok36 hc
    · exact ok39 hc))) rfl (by kernel_rfl)
/-- crimp/crimplaw05.SheetsNeighbour -/
noncomputable def ct3 (c : CallB) : CallB := tblF [(17, w17 c), (18, w18 c), (19, w19 c), (20, w20 c), (21, w21 c), (22, w22 c)] c
noncomputable def b3 (c : CallB) (a0 : Int) (a1 : Int) (a2 : Int) (a3 : Int) (h : HTr) (K : Bool → HTr → RT) : RT :=
mc17 c a0 a1 h (fun r_1 r_2 h15 =>
mc18 c r_1 r_2 a2 a3 h15 (fun r_3 r_4 h21 =>
mc19 c r_1 r_2 a2 a3 h21 (fun r_5 r_6 r_7 h27 =>
@Bool.rec (fun _ => RT) (
mulK (.ofNat (nat_lit 4)) r_1 (fun c_ => out64 c_ (fun n91 =>
mulK n91 r_2 (fun c_ => out64 c_ (fun n92 =>
joinB (fun l94 h95 =>
unIB l94 (fun n96 l97 =>
un0B l97 (@Bool.rec (fun _ => RT) (
@Bool.rec (fun _ => RT) (
@Bool.rec (fun _ => RT) (
mc18 c r_1 r_2 r_3 a3 h95 (fun r_19 r_20 h113 =>
mc19 c r_1 r_2 r_3 a3 h113 (fun r_21 r_22 r_23 h119 =>
joinB (fun l126 h127 =>
unBB l126 (fun t128 l129 =>
un0B l129 (K t128 h127))) (fun j130 =>
out64 a3 (fun n131 =>
mc20 c r_1 r_2 a2 n131 h119 (fun r_24 h133 =>
@Bool.rec (fun _ => RT) (
j130 [.b false] h133) (
@Bool.rec (fun _ => RT) (
j130 [.b false] h133) (
@Bool.rec (fun _ => RT) (
j130 [.b false] h133) (
selB (notK (leZ a2 r_3)) r_3 a2 (fun n140 =>
mc22 c n140 a3 h133 (fun r_25 r_26 h142 =>
@Bool.rec (fun _ => RT) (
j130 [.b false] h142) (
@Bool.rec (fun _ => RT) (
j130 [.b false] h142) (
@Bool.rec (fun _ => RT) (
j130 [.b false] h142) (
mc21 c h142 (fun r_27 h151 =>
j130 [.b r_27] h151)) (@Bool.rec (fun _ => Bool) false (@Bool.rec (fun _ => Bool) false true (eqZK r_22 r_6)) (eqZK r_21 r_5))) (eqZK r_23 (.ofNat (nat_lit 0)))) (@Bool.rec (fun _ => Bool) false (@Bool.rec (fun _ => Bool) false true (eqZK r_6 r_26)) (eqZK r_5 r_25))))) (eqZK r_19 a2)) (eqZK r_20 (.ofNat (nat_lit 0)))) (eqZK r_3 r_24))))))) (
joinB (fun l101 h102 =>
unBB l101 (fun t103 l104 =>
un0B l104 (K t103 h102))) (fun j105 =>
@Bool.rec (fun _ => RT) (
j105 [.b false] h95) (
@Bool.rec (fun _ => RT) (
j105 [.b false] h95) (
mc21 c h95 (fun r_18 h109 =>
j105 [.b r_18] h109)) (@Bool.rec (fun _ => Bool) false (@Bool.rec (fun _ => Bool) false true (eqZK r_6 (.ofNat (nat_lit 0)))) (eqZK r_5 (.ofNat (nat_lit 0))))) (eqZK r_3 (.ofNat (nat_lit 0))))) (notK (eqZK n96 (.ofNat (nat_lit 0))))) (
K false h95) (notK (eqZK r_7 n96))) (
K false h95) (notK (eqZK r_4 n96))))) (fun j154 =>
@Bool.rec (fun _ => RT) (
joinB (fun l156 h157 =>
unIB l156 (fun n158 l159 =>
un0B l159 (j154 [.i n158] h157))) (fun j160 =>
@Bool.rec (fun _ => RT) (
out64 a3 (fun n161 =>
mc20 c r_1 r_2 a2 n161 h27 (fun r_28 h163 =>
joinB (fun l167 h168 =>
unIB l167 (fun n169 l170 =>
un0B l170 (j160 [.i n169] h168))) (fun j171 =>
@Bool.rec (fun _ => RT) (
j171 [.i (.ofNat (nat_lit 0))] h163) (
j171 [.i (.ofNat (nat_lit 7))] h163) (notK (leZ (.ofNat (nat_lit 0)) r_28)))))) (
j160 [.i (.ofNat (nat_lit 1))] h27) (notK (leZ a3 (.ofNat (nat_lit 2)))))) (
j154 [.i (.ofNat (nat_lit 7))] h27) (leZ n92 a2))))))) (
@Bool.rec (fun _ => RT) (
@Bool.rec (fun _ => RT) (
@Bool.rec (fun _ => RT) (
mc18 c r_1 r_2 r_3 a3 h27 (fun r_9 r_10 h50 =>
mc19 c r_1 r_2 r_3 a3 h50 (fun r_11 r_12 r_13 h56 =>
joinB (fun l63 h64 =>
unBB l63 (fun t65 l66 =>
un0B l66 (K t65 h64))) (fun j67 =>
out64 a3 (fun n68 =>
mc20 c r_1 r_2 a2 n68 h56 (fun r_14 h70 =>
@Bool.rec (fun _ => RT) (
j67 [.b false] h70) (
@Bool.rec (fun _ => RT) (
j67 [.b false] h70) (
@Bool.rec (fun _ => RT) (
j67 [.b false] h70) (
selB (notK (leZ a2 r_3)) r_3 a2 (fun n77 =>
mc22 c n77 a3 h70 (fun r_15 r_16 h79 =>
@Bool.rec (fun _ => RT) (
j67 [.b false] h79) (
@Bool.rec (fun _ => RT) (
j67 [.b false] h79) (
@Bool.rec (fun _ => RT) (
j67 [.b false] h79) (
mc21 c h79 (fun r_17 h88 =>
j67 [.b r_17] h88)) (@Bool.rec (fun _ => Bool) false (@Bool.rec (fun _ => Bool) false true (eqZK r_12 r_6)) (eqZK r_11 r_5))) (eqZK r_13 (.ofNat (nat_lit 0)))) (@Bool.rec (fun _ => Bool) false (@Bool.rec (fun _ => Bool) false true (eqZK r_6 r_16)) (eqZK r_5 r_15))))) (eqZK r_9 a2)) (eqZK r_10 (.ofNat (nat_lit 0)))) (eqZK r_3 r_14))))))) (
joinB (fun l38 h39 =>
unBB l38 (fun t40 l41 =>
un0B l41 (K t40 h39))) (fun j42 =>
@Bool.rec (fun _ => RT) (
j42 [.b false] h27) (
@Bool.rec (fun _ => RT) (
j42 [.b false] h27) (
mc21 c h27 (fun r_8 h46 =>
j42 [.b r_8] h46)) (@Bool.rec (fun _ => Bool) false (@Bool.rec (fun _ => Bool) false true (eqZK r_6 (.ofNat (nat_lit 0)))) (eqZK r_5 (.ofNat (nat_lit 0))))) (eqZK r_3 (.ofNat (nat_lit 0))))) (notK (eqZK (.ofNat (nat_lit 7)) (.ofNat (nat_lit 0))))) (
K false h27) (notK (eqZK r_7 (.ofNat (nat_lit 7))))) (
K false h27) (notK (eqZK r_4 (.ofNat (nat_lit 7))))) (notK (leZ (.ofNat (nat_lit 0)) a2)))))
noncomputable def wq3 (c : CallB) : FB := fun ls h K => unIB ls fun a0 l0 => unIB l0 fun a1 l1 => unIB l1 fun a2 l2 => unIB l2 fun a3 l3 => un0B l3 (b3 c a0 a1 a2 a3 h (fun r0 h => K [.b r0] h))
noncomputable def wr3 (c : CallB) : FB := fun ls h K => @List.rec Lf (fun _ => RT) none (fun x0 l0 _ => @Lf.rec (fun _ => RT) (fun a0 => @List.rec Lf (fun _ => RT) none (fun x1 l1 _ => @Lf.rec (fun _ => RT) (fun a1 => @List.rec Lf (fun _ => RT) none (fun x2 l2 _ => @Lf.rec (fun _ => RT) (fun a2 => @List.rec Lf (fun _ => RT) none (fun x3 l3 _ => @Lf.rec (fun _ => RT) (fun a3 => @List.rec Lf (fun _ => RT) (b3 c a0 a1 a2 a3 h (fun r0 h => K [.b r0] h)) (fun _ _ _ => none) l3) (fun _ => none) (fun _ => none) x3) l2) (fun _ => none) (fun _ => none) x2) l1) (fun _ => none) (fun _ => none) x1) l0) (fun _ => none) (fun _ => none) x0) ls
theorem ew3 : (fun c => wr3 c) = fun c => wq3 c := by kernel_rfl
noncomputable def w3 (c : CallB) : FB := memo (wr3 c)
theorem pf3 (c : CallB) (ls : List Lf) (h : HTr) (K : List Lf → HTr → RT) : f3 (BA sgTab siteTab (ct3 c)) ls h K = wq3 c ls h K :=
q_unI (fun n6 l7 =>
q_unI (fun n8 l9 =>
q_unI (fun n10 l11 =>
q_unI (fun n12 l13 =>
q_un0 (qm17 rfl (fun l14 h15 =>
q_unI (fun n16 l17 =>
q_unI (fun n18 l19 =>
q_un0 (qm18 rfl (fun l20 h21 =>
q_unI (fun n22 l23 =>
q_unI (fun n24 l25 =>
q_un0 (qm19 rfl (fun l26 h27 =>
q_unI (fun n28 l29 =>
q_unI (fun n30 l31 =>
q_unI (fun n32 l33 =>
q_un0 (q_lss (q_cond (q_neq (q_cond (rfl) (q_neq (q_cond (rfl) (q_neq (q_cond (q_join (fun l38 h39 =>
q_unB (fun t40 l41 =>
q_un0 (rfl))) (fun j42 =>
q_eql (q_cond (q_eqs (q_cond (qm21 rfl (fun l45 h46 =>
q_unB (fun t47 l48 =>
q_un0 (rfl)))) (rfl))) (rfl)))) (qm18 rfl (fun l49 h50 =>
q_unI (fun n51 l52 =>
q_unI (fun n53 l54 =>
q_un0 (qm19 rfl (fun l55 h56 =>
q_unI (fun n57 l58 =>
q_unI (fun n59 l60 =>
q_unI (fun n61 l62 =>
q_un0 (q_join (fun l63 h64 =>
q_unB (fun t65 l66 =>
q_un0 (rfl))) (fun j67 =>
q_conv64 (fun n68 =>
qm20 rfl (fun l69 h70 =>
q_unI (fun n71 l72 =>
q_un0 (q_eql (q_cond (q_eql (q_cond (q_eql (q_cond (q_lss (q_sel (fun n77 =>
qm22 rfl (fun l78 h79 =>
q_unI (fun n80 l81 =>
q_unI (fun n82 l83 =>
q_un0 (q_eqs (q_cond (q_eql (q_cond (q_eqs (q_cond (qm21 rfl (fun l87 h88 =>
q_unB (fun t89 l90 =>
q_un0 (rfl)))) (rfl))) (rfl))) (rfl))))))))) (rfl))) (rfl))) (rfl))))))))))))))))))))))) (q_mul64 (fun n91 =>
q_mul64 (fun n92 =>
q_geq (q_join (fun l94 h95 =>
q_unI (fun n96 l97 =>
q_un0 (q_neq (q_cond (rfl) (q_neq (q_cond (rfl) (q_neq (q_cond (q_join (fun l101 h102 =>
q_unB (fun t103 l104 =>
q_un0 (rfl))) (fun j105 =>
q_eql (q_cond (q_eqs (q_cond (qm21 rfl (fun l108 h109 =>
q_unB (fun t110 l111 =>
q_un0 (rfl)))) (rfl))) (rfl)))) (qm18 rfl (fun l112 h113 =>
q_unI (fun n114 l115 =>
q_unI (fun n116 l117 =>
q_un0 (qm19 rfl (fun l118 h119 =>
q_unI (fun n120 l121 =>
q_unI (fun n122 l123 =>
q_unI (fun n124 l125 =>
q_un0 (q_join (fun l126 h127 =>
q_unB (fun t128 l129 =>
q_un0 (rfl))) (fun j130 =>
q_conv64 (fun n131 =>
qm20 rfl (fun l132 h133 =>
q_unI (fun n134 l135 =>
q_un0 (q_eql (q_cond (q_eql (q_cond (q_eql (q_cond (q_lss (q_sel (fun n140 =>
qm22 rfl (fun l141 h142 =>
q_unI (fun n143 l144 =>
q_unI (fun n145 l146 =>
q_un0 (q_eqs (q_cond (q_eql (q_cond (q_eqs (q_cond (qm21 rfl (fun l150 h151 =>
q_unB (fun t152 l153 =>
q_un0 (rfl)))) (rfl))) (rfl))) (rfl))))))))) (rfl))) (rfl))) (rfl))))))))))))))))))))))))) (fun j154 =>
q_cond (rfl) (q_gtr (q_join (fun l156 h157 =>
q_unI (fun n158 l159 =>
q_un0 (rfl))) (fun j160 =>
q_cond (rfl) (q_conv64 (fun n161 =>
qm20 rfl (fun l162 h163 =>
q_unI (fun n164 l165 =>
q_un0 (q_lss (q_join (fun l167 h168 =>
q_unI (fun n169 l170 =>
q_un0 (rfl))) (fun j171 =>
q_cond (rfl) (rfl)))))))))))))))))))))))))))))))))))
theorem eb3 : (fun c => wr3 c) = fun c => f3 (BA sgTab siteTab (ct3 c)) := ew3.trans (funext fun c => funext fun ls => funext fun h => funext fun K => (pf3 c ls h K).symm)
theorem ok3 {c : CallB} (hc : Cok c) : Ent 3 (w3 c) := ent_mem (ent_of (g := fun c => wr3 c) (f := fun A => f3 A) (ct := ct3) eb3 (congrFun (congrFun e3 RT) HTr) i3 (tblF_ok hc (by
    intro p hp
    simp only [List.mem_cons, List.not_mem_nil, or_false] at hp
    rcases hp with rfl | rfl | rfl | rfl | rfl | rfl
    · exact ok17 hc
    · exact ok18 hc
    · exact ok19 hc
    · exact ok20 hc
    · exact ok21 hc
    · exact ok22 hc))) rfl (by kernel_rfl)
/-- crimp/crimpref05.Units -/
noncomputable def ct24 (c : CallB) : CallB := tblF [(20, w20 c)] c
noncomputable def b24 (c : CallB) (a0 : Int) (a1 : Int) (h : HTr) (K : Value → HTr → RT) : RT :=
loopB (fun s10 l11 h12 =>
unVB l11 (fun x13 l14 =>
unIB l14 (fun n15 l16 =>
un0B l16 (mulK (.ofNat (nat_lit 4)) a0 (fun c_ => out64 c_ (fun n17 =>
mulK n17 a1 (fun c_ => out64 c_ (fun n18 =>
@Bool.rec (fun _ => RT) (
K x13 h12) (
loopB (fun s20 l21 h22 =>
unVB l21 (fun x23 l24 =>
unIB l24 (fun n25 l26 =>
un0B l26 (@Bool.rec (fun _ => RT) (
addK n15 (.ofNat (nat_lit 1)) (fun c_ => out64 c_ (fun n46 =>
s10 [.v x23, .i n46] h22))) (
mc20 c a0 a1 n15 n25 h22 (fun r_1 h29 =>
joinB (fun l33 h34 =>
unVB l33 (fun x35 l36 =>
un0B l36 (addK n25 (.ofNat (nat_lit 1)) (fun c_ => out64 c_ (fun n37 =>
s20 [.v x35, .i n37] h34))))) (fun j38 =>
@Bool.rec (fun _ => RT) (
j38 [.v x23] h29) (
outU8 n25 (fun n39 =>
newB (.cells [(.int .i64 n15), (.int .u8 n39)] 2 true) h29 (fun m40 h41 =>
apB siteTab cc 2 16 x23 (.slice (some ⟨m40, 0, (some 12)⟩) 1 2) h41 (fun l42 h43 =>
ucVB l42 (fun x44 l45 =>
chkB x44 (
uc0B l45 (
j38 [.v x44] h43))))))) (notK (leZ r_1 n15))))) (notK (leZ (.ofNat (nat_lit 3)) n25)))))) [.v x13, .i (.ofNat (nat_lit 0))] h12) (notK (leZ n18 n15)))))))))) [.v (.slice none 0 0), .i (.ofNat (nat_lit 0))] h
noncomputable def wq24 (c : CallB) : FB := fun ls h K => unIB ls fun a0 l0 => unIB l0 fun a1 l1 => un0B l1 (b24 c a0 a1 h (fun r0 h => K [.v r0] h))
noncomputable def wr24 (c : CallB) : FB := fun ls h K => @List.rec Lf (fun _ => RT) none (fun x0 l0 _ => @Lf.rec (fun _ => RT) (fun a0 => @List.rec Lf (fun _ => RT) none (fun x1 l1 _ => @Lf.rec (fun _ => RT) (fun a1 => @List.rec Lf (fun _ => RT) (b24 c a0 a1 h (fun r0 h => K [.v r0] h)) (fun _ _ _ => none) l1) (fun _ => none) (fun _ => none) x1) l0) (fun _ => none) (fun _ => none) x0) ls
theorem ew24 : (fun c => wr24 c) = fun c => wq24 c := by kernel_rfl
noncomputable def w24 (c : CallB) : FB := wr24 c
theorem vb24 : (fun (c : CallB) (a0 : Int) (a1 : Int) (h : HTr) (K : List Lf → HTr → RT) => w24 c [.i a0, .i a1] h K) = fun c a0 a1 h K => b24 c a0 a1 h (fun r0 h => K [.v r0] h) := by kernel_rfl
theorem qb24 {c call : CallB} (hct : call (.f 24) = w24 c) {a0 : Int} {a1 : Int} {h : HTr} {K : List Lf → HTr → RT} {K' : Value → HTr → RT} (hX : ∀ r0 h, K [.v r0] h = K' r0 h) : (BA sgTab siteTab call).call 24 [.i a0, .i a1] h K = b24 c a0 a1 h K' := by
  obtain rfl : K' = fun r0 h => K [.v r0] h := funext fun r0 => funext fun h => (hX r0 h).symm
  exact q_tab0 rfl ((congrFun (congrFun (congrFun hct _) _) _).trans (congrFun (congrFun (congrFun (congrFun (congrFun (vb24) c) a0) a1) h) K))
theorem pf24 (c : CallB) (ls : List Lf) (h : HTr) (K : List Lf → HTr → RT) : f24 (BA sgTab siteTab (ct24 c)) ls h K = wq24 c ls h K :=
q_unI (fun n6 l7 =>
q_unI (fun n8 l9 =>
q_un0 (q_loop (fun s10 l11 h12 =>
q_unV (fun x13 l14 =>
q_unI (fun n15 l16 =>
q_un0 (q_mul64 (fun n17 =>
q_mul64 (fun n18 =>
q_lss (q_cond (q_loop (fun s20 l21 h22 =>
q_unV (fun x23 l24 =>
q_unI (fun n25 l26 =>
q_un0 (q_lss (q_cond (qm20 rfl (fun l28 h29 =>
q_unI (fun n30 l31 =>
q_un0 (q_gtr (q_join (fun l33 h34 =>
q_unV (fun x35 l36 =>
q_un0 (q_add64 (fun n37 =>
rfl)))) (fun j38 =>
q_cond (q_convU8 (fun n39 =>
q_new (fun m40 h41 =>
q_ap (fun l42 h43 =>
q_ucV (fun x44 l45 =>
q_chk (q_uc0 (rfl))))))) (rfl))))))) (q_add64 (fun n46 =>
rfl)))))))) (rfl)))))))))))
theorem eb24 : (fun c => wr24 c) = fun c => f24 (BA sgTab siteTab (ct24 c)) := ew24.trans (funext fun c => funext fun ls => funext fun h => funext fun K => (pf24 c ls h K).symm)
theorem ok24 {c : CallB} (hc : Cok c) : Ent 24 (w24 c) := (ent_of (g := fun c => wr24 c) (f := fun A => f24 A) (ct := ct24) eb24 (congrFun (congrFun e24 RT) HTr) i24 (tblF_ok hc (by
    intro p hp
    simp only [List.mem_cons, List.not_mem_nil, or_false] at hp
    subst hp
    exact ok20 hc)))
/-- crimp/crimpref05.Ends -/
noncomputable def ct27 (c : CallB) : CallB := tblF [(45, w45 c), (49, w49 c)] c
noncomputable def b27 (c : CallB) (a0 : Int) (a1 : Int) (a2 : Int) (a3 : Int) (h : HTr) (K : Int → Int → Int → Int → HTr → RT) : RT :=
@Bool.rec (fun _ => RT) (quoK a2 (.ofNat (nat_lit 4)) (fun c_ => out64 c_ (fun n14 =>
@Bool.rec (fun _ => RT) (remK n14 a0 (fun n15 =>
mulK (.ofNat (nat_lit 4)) a0 (fun c_ => out64 c_ (fun n16 =>
@Bool.rec (fun _ => RT) (quoK a2 n16 (fun c_ => out64 c_ (fun n17 =>
@Bool.rec (fun _ => RT) (remK a2 (.ofNat (nat_lit 4)) (fun n18 =>
outU8 n18 (fun n19 =>
mc45 c n15 n17 n19 h (fun r_1 r_2 r_3 r_4 r_5 r_6 h21 =>
out64 a3 (fun n34 =>
mc49 c n15 n17 n19 n34 h21 (fun r_7 r_8 r_9 h36 =>
mc45 c r_7 r_8 r_9 h36 (fun r_10 r_11 r_12 r_13 r_14 r_15 h44 =>
loopB (fun s57 l58 h59 =>
unVB l58 (fun x60 l61 =>
unIB l61 (fun n62 l63 =>
un0B l63 (@Bool.rec (fun _ => RT) (
optB (idS 2 x60 (.ofNat (nat_lit 1))) (fun x105 =>
optB (fdP 0 x105) (fun x106 =>
chkB x106 (
ldB 1 x106 h59 (fun l107 =>
ucIB .i64 l107 (fun n108 l109 =>
uc0B l109 (
optB (idS 2 x60 (.ofNat (nat_lit 0))) (fun x110 =>
optB (fdP 0 x110) (fun x111 =>
chkB x111 (
ldB 1 x111 h59 (fun l112 =>
ucIB .i64 l112 (fun n113 l114 =>
uc0B l114 (
@Bool.rec (fun _ => RT) (
optB (idS 2 x60 (.ofNat (nat_lit 1))) (fun x128 =>
optB (fdP 0 x128) (fun x129 =>
chkB x129 (
ldB 1 x129 h59 (fun l130 =>
ucIB .i64 l130 (fun n131 l132 =>
uc0B l132 (
optB (idS 2 x60 (.ofNat (nat_lit 0))) (fun x133 =>
optB (fdP 0 x133) (fun x134 =>
chkB x134 (
ldB 1 x134 h59 (fun l135 =>
ucIB .i64 l135 (fun n136 l137 =>
uc0B l137 (
@Bool.rec (fun _ => RT) (
optB (idS 2 x60 (.ofNat (nat_lit 0))) (fun x174 =>
ldB 2 x174 h59 (fun l175 =>
ucIB .i64 l175 (fun n176 l177 =>
ucIB .i64 l177 (fun n178 l179 =>
uc0B l179 (
optB (idS 2 x60 (.ofNat (nat_lit 1))) (fun x180 =>
ldB 2 x180 h59 (fun l181 =>
ucIB .i64 l181 (fun n182 l183 =>
ucIB .i64 l183 (fun n184 l185 =>
uc0B l185 (
K n176 n178 n182 n184 h59))))))))))) (
optB (idS 2 x60 (.ofNat (nat_lit 1))) (fun x139 =>
optB (fdP 1 x139) (fun x140 =>
chkB x140 (
ldB 1 x140 h59 (fun l141 =>
ucIB .i64 l141 (fun n142 l143 =>
uc0B l143 (
optB (idS 2 x60 (.ofNat (nat_lit 0))) (fun x144 =>
optB (fdP 1 x144) (fun x145 =>
chkB x145 (
ldB 1 x145 h59 (fun l146 =>
ucIB .i64 l146 (fun n147 l148 =>
uc0B l148 (
@Bool.rec (fun _ => RT) (
optB (idS 2 x60 (.ofNat (nat_lit 0))) (fun x162 =>
ldB 2 x162 h59 (fun l163 =>
ucIB .i64 l163 (fun n164 l165 =>
ucIB .i64 l165 (fun n166 l167 =>
uc0B l167 (
optB (idS 2 x60 (.ofNat (nat_lit 1))) (fun x168 =>
ldB 2 x168 h59 (fun l169 =>
ucIB .i64 l169 (fun n170 l171 =>
ucIB .i64 l171 (fun n172 l173 =>
uc0B l173 (
K n164 n166 n170 n172 h59))))))))))) (
optB (idS 2 x60 (.ofNat (nat_lit 1))) (fun x150 =>
ldB 2 x150 h59 (fun l151 =>
ucIB .i64 l151 (fun n152 l153 =>
ucIB .i64 l153 (fun n154 l155 =>
uc0B l155 (
optB (idS 2 x60 (.ofNat (nat_lit 0))) (fun x156 =>
ldB 2 x156 h59 (fun l157 =>
ucIB .i64 l157 (fun n158 l159 =>
ucIB .i64 l159 (fun n160 l161 =>
uc0B l161 (
K n152 n154 n158 n160 h59))))))))))) (notK (leZ n147 n142))))))))))))))) (eqZK n131 n136)))))))))))))) (
optB (idS 2 x60 (.ofNat (nat_lit 1))) (fun x116 =>
ldB 2 x116 h59 (fun l117 =>
ucIB .i64 l117 (fun n118 l119 =>
ucIB .i64 l119 (fun n120 l121 =>
uc0B l121 (
optB (idS 2 x60 (.ofNat (nat_lit 0))) (fun x122 =>
ldB 2 x122 h59 (fun l123 =>
ucIB .i64 l123 (fun n124 l125 =>
ucIB .i64 l125 (fun n126 l127 =>
uc0B l127 (
K n118 n120 n124 n126 h59))))))))))) (notK (leZ n113 n108))))))))))))))) (
loopB (fun s65 l66 h67 =>
unVB l66 (fun x68 l69 =>
unIB l69 (fun n70 l71 =>
un0B l71 (@Bool.rec (fun _ => RT) (
addK n62 (.ofNat (nat_lit 1)) (fun c_ => out64 c_ (fun n104 =>
s57 [.v x68, .i n104] h67))) (
optB (inB 3 n62) (fun x73 =>
optB (pickL [(.i r_1), (.i r_2), (.i r_3), (.i r_4), (.i r_5), (.i r_6)] 0 [(n62, 2)] 2) (fun x74 =>
unIB x74 (fun n75 l76 =>
unIB l76 (fun n77 l78 =>
un0B l78 (optB (inB 3 n70) (fun x79 =>
optB (pickL [(.i r_10), (.i r_11), (.i r_12), (.i r_13), (.i r_14), (.i r_15)] 0 [(n70, 2)] 2) (fun x80 =>
unIB x80 (fun n81 l82 =>
unIB l82 (fun n83 l84 =>
un0B l84 (joinB (fun l86 h87 =>
unVB l86 (fun x88 l89 =>
un0B l89 (addK n70 (.ofNat (nat_lit 1)) (fun c_ => out64 c_ (fun n90 =>
s65 [.v x88, .i n90] h87))))) (fun j91 =>
@Bool.rec (fun _ => RT) (
j91 [.v x68] h67) (
optB (inB 3 n62) (fun x92 =>
optB (pickL [(.i r_1), (.i r_2), (.i r_3), (.i r_4), (.i r_5), (.i r_6)] 0 [(n62, 2)] 2) (fun x93 =>
unIB x93 (fun n94 l95 =>
unIB l95 (fun n96 l97 =>
un0B l97 (newB (.cells [(.int .i64 n94), (.int .i64 n96)] 2 true) h67 (fun m98 h99 =>
apB siteTab cc 2 16 x68 (.slice (some ⟨m98, 0, (some 12)⟩) 1 2) h99 (fun l100 h101 =>
ucVB l100 (fun x102 l103 =>
chkB x102 (
uc0B l103 (
j91 [.v x102] h101))))))))))) (@Bool.rec (fun _ => Bool) false (@Bool.rec (fun _ => Bool) false true (eqZK n77 n83)) (eqZK n75 n81)))))))))))))) (notK (leZ (.ofNat (nat_lit 3)) n70)))))) [.v x60, .i (.ofNat (nat_lit 0))] h59) (notK (leZ (.ofNat (nat_lit 3)) n62)))))) [.v (.slice none 0 0), .i (.ofNat (nat_lit 0))] h44))))))) none (isZ (.ofNat (nat_lit 4)))))) none (isZ n16))))) none (isZ a0)))) none (isZ (.ofNat (nat_lit 4)))
noncomputable def wq27 (c : CallB) : FB := fun ls h K => unIB ls fun a0 l0 => unIB l0 fun a1 l1 => unIB l1 fun a2 l2 => unIB l2 fun a3 l3 => un0B l3 (b27 c a0 a1 a2 a3 h (fun r0 r1 r2 r3 h => K [.i r0, .i r1, .i r2, .i r3] h))
noncomputable def wr27 (c : CallB) : FB := fun ls h K => @List.rec Lf (fun _ => RT) none (fun x0 l0 _ => @Lf.rec (fun _ => RT) (fun a0 => @List.rec Lf (fun _ => RT) none (fun x1 l1 _ => @Lf.rec (fun _ => RT) (fun a1 => @List.rec Lf (fun _ => RT) none (fun x2 l2 _ => @Lf.rec (fun _ => RT) (fun a2 => @List.rec Lf (fun _ => RT) none (fun x3 l3 _ => @Lf.rec (fun _ => RT) (fun a3 => @List.rec Lf (fun _ => RT) (b27 c a0 a1 a2 a3 h (fun r0 r1 r2 r3 h => K [.i r0, .i r1, .i r2, .i r3] h)) (fun _ _ _ => none) l3) (fun _ => none) (fun _ => none) x3) l2) (fun _ => none) (fun _ => none) x2) l1) (fun _ => none) (fun _ => none) x1) l0) (fun _ => none) (fun _ => none) x0) ls
theorem ew27 : (fun c => wr27 c) = fun c => wq27 c := by kernel_rfl
noncomputable def w27 (c : CallB) : FB := memo (wr27 c)
noncomputable def mc27 (c : CallB) (a0 : Int) (a1 : Int) (a2 : Int) (a3 : Int) (h : HTr) (K : Int → Int → Int → Int → HTr → RT) : RT := fI a0 fun a0 => fI a1 fun a1 => fI a2 fun a2 => fI a3 fun a3 => @Option.rec _ (fun _ => RT) none (fun rs => unIB rs fun r0 l0 => unIB l0 fun r1 l1 => unIB l1 fun r2 l2 => unIB l2 fun r3 l3 => un0B l3 (K r0 r1 r2 r3 h)) (b27 c a0 a1 a2 a3 .empty (fun r0 r1 r2 r3 h => tell [.i r0, .i r1, .i r2, .i r3] h))
theorem vm27 : (fun (c : CallB) (a0 : Int) (a1 : Int) (a2 : Int) (a3 : Int) (h : HTr) (K : Int → Int → Int → Int → HTr → RT) => w27 c [.i a0, .i a1, .i a2, .i a3] h (fun rs h => unIB rs fun r0 l0 => unIB l0 fun r1 l1 => unIB l1 fun r2 l2 => unIB l2 fun r3 l3 => un0B l3 (K r0 r1 r2 r3 h))) = fun c a0 a1 a2 a3 h K => mc27 c a0 a1 a2 a3 h K := by kernel_rfl
theorem qm27 {c call : CallB} (hct : call (.f 27) = w27 c) {a0 : Int} {a1 : Int} {a2 : Int} {a3 : Int} {h : HTr} {K : List Lf → HTr → RT} {K' : Int → Int → Int → Int → HTr → RT} (hX : ∀ rs h, K rs h = unIB rs fun r0 l0 => unIB l0 fun r1 l1 => unIB l1 fun r2 l2 => unIB l2 fun r3 l3 => un0B l3 (K' r0 r1 r2 r3 h)) : (BA sgTab siteTab call).call 27 [.i a0, .i a1, .i a2, .i a3] h K = mc27 c a0 a1 a2 a3 h K' := by
  obtain rfl : K = fun rs h => unIB rs fun r0 l0 => unIB l0 fun r1 l1 => unIB l1 fun r2 l2 => unIB l2 fun r3 l3 => un0B l3 (K' r0 r1 r2 r3 h) := funext fun rs => funext fun h => hX rs h
  exact q_tab0 rfl ((congrFun (congrFun (congrFun hct _) _) _).trans (congrFun (congrFun (congrFun (congrFun (congrFun (congrFun (congrFun (vm27) c) a0) a1) a2) a3) h) K'))
theorem pf27 (c : CallB) (ls : List Lf) (h : HTr) (K : List Lf → HTr → RT) : f27 (BA sgTab siteTab (ct27 c)) ls h K = wq27 c ls h K :=
q_unI (fun n6 l7 =>
q_unI (fun n8 l9 =>
q_unI (fun n10 l11 =>
q_unI (fun n12 l13 =>
q_un0 (q_quo64 (fun n14 =>
q_rem (fun n15 =>
q_mul64 (fun n16 =>
q_quo64 (fun n17 =>
q_rem (fun n18 =>
q_convU8 (fun n19 =>
qm45 rfl (fun l20 h21 =>
q_unI (fun n22 l23 =>
q_unI (fun n24 l25 =>
q_unI (fun n26 l27 =>
q_unI (fun n28 l29 =>
q_unI (fun n30 l31 =>
q_unI (fun n32 l33 =>
q_un0 (q_conv64 (fun n34 =>
qm49 rfl (fun l35 h36 =>
q_unI (fun n37 l38 =>
q_unI (fun n39 l40 =>
q_unI (fun n41 l42 =>
q_un0 (qm45 rfl (fun l43 h44 =>
q_unI (fun n45 l46 =>
q_unI (fun n47 l48 =>
q_unI (fun n49 l50 =>
q_unI (fun n51 l52 =>
q_unI (fun n53 l54 =>
q_unI (fun n55 l56 =>
q_un0 (q_loop (fun s57 l58 h59 =>
q_unV (fun x60 l61 =>
q_unI (fun n62 l63 =>
q_un0 (q_lss (q_cond (q_loop (fun s65 l66 h67 =>
q_unV (fun x68 l69 =>
q_unI (fun n70 l71 =>
q_un0 (q_lss (q_cond (q_opt (fun x73 =>
q_opt (fun x74 =>
q_unI (fun n75 l76 =>
q_unI (fun n77 l78 =>
q_un0 (q_opt (fun x79 =>
q_opt (fun x80 =>
q_unI (fun n81 l82 =>
q_unI (fun n83 l84 =>
q_un0 (q_eqs (q_join (fun l86 h87 =>
q_unV (fun x88 l89 =>
q_un0 (q_add64 (fun n90 =>
rfl)))) (fun j91 =>
q_cond (q_opt (fun x92 =>
q_opt (fun x93 =>
q_unI (fun n94 l95 =>
q_unI (fun n96 l97 =>
q_un0 (q_new (fun m98 h99 =>
q_ap (fun l100 h101 =>
q_ucV (fun x102 l103 =>
q_chk (q_uc0 (rfl))))))))))) (rfl)))))))))))))) (q_add64 (fun n104 =>
rfl)))))))) (q_opt (fun x105 =>
q_opt (fun x106 =>
q_chk (q_ld (fun l107 =>
q_ucI (fun n108 l109 =>
q_uc0 (q_opt (fun x110 =>
q_opt (fun x111 =>
q_chk (q_ld (fun l112 =>
q_ucI (fun n113 l114 =>
q_uc0 (q_lss (q_cond (q_opt (fun x116 =>
q_ld (fun l117 =>
q_ucI (fun n118 l119 =>
q_ucI (fun n120 l121 =>
q_uc0 (q_opt (fun x122 =>
q_ld (fun l123 =>
q_ucI (fun n124 l125 =>
q_ucI (fun n126 l127 =>
q_uc0 (rfl))))))))))) (q_opt (fun x128 =>
q_opt (fun x129 =>
q_chk (q_ld (fun l130 =>
q_ucI (fun n131 l132 =>
q_uc0 (q_opt (fun x133 =>
q_opt (fun x134 =>
q_chk (q_ld (fun l135 =>
q_ucI (fun n136 l137 =>
q_uc0 (q_eql (q_cond (q_opt (fun x139 =>
q_opt (fun x140 =>
q_chk (q_ld (fun l141 =>
q_ucI (fun n142 l143 =>
q_uc0 (q_opt (fun x144 =>
q_opt (fun x145 =>
q_chk (q_ld (fun l146 =>
q_ucI (fun n147 l148 =>
q_uc0 (q_lss (q_cond (q_opt (fun x150 =>
q_ld (fun l151 =>
q_ucI (fun n152 l153 =>
q_ucI (fun n154 l155 =>
q_uc0 (q_opt (fun x156 =>
q_ld (fun l157 =>
q_ucI (fun n158 l159 =>
q_ucI (fun n160 l161 =>
q_uc0 (rfl))))))))))) (q_opt (fun x162 =>
q_ld (fun l163 =>
q_ucI (fun n164 l165 =>
q_ucI (fun n166 l167 =>
q_uc0 (q_opt (fun x168 =>
q_ld (fun l169 =>
q_ucI (fun n170 l171 =>
q_ucI (fun n172 l173 =>
q_uc0 (rfl))))))))))))))))))))))))) (q_opt (fun x174 =>
q_ld (fun l175 =>
q_ucI (fun n176 l177 =>
q_ucI (fun n178 l179 =>
q_uc0 (q_opt (fun x180 =>
q_ld (fun l181 =>
q_ucI (fun n182 l183 =>
q_ucI (fun n184 l185 =>
q_uc0 (rfl)))))))))))))))))))))))))))))))))))))))))))))))))))))))))))))))))))))))))))))
theorem eb27 : (fun c => wr27 c) = fun c => f27 (BA sgTab siteTab (ct27 c)) := ew27.trans (funext fun c => funext fun ls => funext fun h => funext fun K => (pf27 c ls h K).symm)
theorem ok27 {c : CallB} (hc : Cok c) : Ent 27 (w27 c) := ent_mem (ent_of (g := fun c => wr27 c) (f := fun A => f27 A) (ct := ct27) eb27 (congrFun (congrFun e27 RT) HTr) i27 (tblF_ok hc (by
    intro p hp
    simp only [List.mem_cons, List.not_mem_nil, or_false] at hp
    rcases hp with rfl | rfl
    · exact ok45 hc
    · exact ok49 hc))) rfl (by kernel_rfl)
/-- crimp/crimplaw05.SheetsUnits -/
noncomputable def ct4 (c : CallB) : CallB := tblF [(17, w17 c), (21, w21 c), (23, w23 c), (24, w24 c), (25, w25 c), (26, w26 c), (27, w27 c), (28, w28 c), (29, w29 c)] c
noncomputable def b4 (c : CallB) (a0 : Int) (a1 : Int) (h : HTr) (K : Bool → HTr → RT) : RT :=
mc17 c a0 a1 h (fun r_1 r_2 h11 =>
b23 c r_1 r_2 h11 (fun r_3 r_4 h17 =>
b24 c r_1 r_2 h17 (fun r_5 h23 =>
@Bool.rec (fun _ => RT) (
optB (lenS r_3) (fun x27 =>
optB (lenS r_5) (fun x28 =>
@Bool.rec (fun _ => RT) (
optB (capS r_3) (fun x30 =>
optB (lenS r_3) (fun x31 =>
@Bool.rec (fun _ => RT) (
optB (lenS r_3) (fun x33 =>
mulK (.ofNat (nat_lit 6)) r_1 (fun c_ => out64 c_ (fun n34 =>
mulK n34 r_2 (fun c_ => out64 c_ (fun n35 =>
subK n35 r_1 (fun c_ => out64 c_ (fun n36 =>
subK n36 r_2 (fun c_ => out64 c_ (fun n37 =>
@Bool.rec (fun _ => RT) (
newB (.map [] 0) h23 (fun m39 h40 =>
loopB (fun s41 l42 h43 =>
unIB l42 (fun n44 l45 =>
un0B l45 (optB (lenS r_3) (fun x46 =>
@Bool.rec (fun _ => RT) (
b29 c r_1 r_2 h43 (fun r_20 r_21 h148 =>
loopB (fun s153 l154 h155 =>
unIB l154 (fun n156 l157 =>
unIB l157 (fun n158 l159 =>
un0B l159 (mulK (.ofNat (nat_lit 2)) r_2 (fun c_ => out64 c_ (fun n160 =>
@Bool.rec (fun _ => RT) (
joinB (fun l219 h220 =>
unBB l219 (fun t221 l222 =>
un0B l222 (K t221 h220))) (fun j223 =>
@Bool.rec (fun _ => RT) (
j223 [.b false] h155) (
optB (lenS r_20) (fun x225 =>
@Bool.rec (fun _ => RT) (
j223 [.b false] h155) (
optB (capS r_20) (fun x227 =>
@Bool.rec (fun _ => RT) (
j223 [.b false] h155) (
mc21 c h155 (fun r_22 h230 =>
j223 [.b r_22] h230)) (eqZK x227 n156))) (eqZK n156 x225))) (eqZK r_21 (.ofNat (nat_lit 0))))) (
loopB (fun s162 l163 h164 =>
unIB l163 (fun n165 l166 =>
unIB l166 (fun n167 l168 =>
un0B l168 (mulK (.ofNat (nat_lit 2)) r_1 (fun c_ => out64 c_ (fun n169 =>
@Bool.rec (fun _ => RT) (
addK n158 (.ofNat (nat_lit 1)) (fun c_ => out64 c_ (fun n218 =>
s153 [.i n165, .i n218] h164))) (
joinB (fun l171 h172 =>
unIB l171 (fun n173 l174 =>
un0B l174 (addK n167 (.ofNat (nat_lit 1)) (fun c_ => out64 c_ (fun n175 =>
s162 [.i n173, .i n175] h172))))) (fun j176 =>
joinB (fun l177 h178 =>
unBB l177 (fun t179 l180 =>
un0B l180 (@Bool.rec (fun _ => RT) (
@Bool.rec (fun _ => RT) (remK n167 (.ofNat (nat_lit 2)) (fun n181 =>
joinB (fun l183 h184 =>
unIB l183 (fun n185 l186 =>
un0B l186 (optB (lenS r_20) (fun x187 =>
@Bool.rec (fun _ => RT) (
optB (idS 2 r_20 n165) (fun x189 =>
ldB 2 x189 h184 (fun l190 =>
ucIB .i64 l190 (fun n191 l192 =>
ucIB .i64 l192 (fun n193 l194 =>
uc0B l194 (
@Bool.rec (fun _ => RT) (
optB (idS 2 r_20 n165) (fun x196 =>
ldB 2 x196 h184 (fun l197 =>
ucIB .i64 l197 (fun n198 l199 =>
ucIB .i64 l199 (fun n200 l201 =>
uc0B l201 (
peekB siteTab (.fn (luG cc 44 false (.int .i64 (.ofNat (nat_lit 0))) (.map (some m39)) (.agg ⟨[(.int .i64 n198), (.int .i64 n200)]⟩) false)) h184 (fun l202 =>
ucIB .i64 l202 (fun n203 l204 =>
uc0B l204 (
@Bool.rec (fun _ => RT) (
addK n165 (.ofNat (nat_lit 1)) (fun c_ => out64 c_ (fun n206 =>
j176 [.i n206] h184))) (
K false h184) (notK (eqZK n203 n185))))))))))) (
K false h184) (!(@Bool.rec (fun _ => Bool) false (@Bool.rec (fun _ => Bool) false true (eqZK n193 n158)) (eqZK n191 n167))))))))) (
K false h184) (leZ x187 n165))))) (fun j207 =>
@Bool.rec (fun _ => RT) (
j207 [.i (.ofNat (nat_lit 8))] h178) (
j207 [.i (.ofNat (nat_lit 4))] h178) (eqZK n181 (.ofNat (nat_lit 1)))))) none (isZ (.ofNat (nat_lit 2)))) (
j176 [.i n165] h178) (!t179)))) (fun j208 =>
@Bool.rec (fun _ => RT) (
j208 [.b false] h164) (
@Bool.rec (fun _ => RT) (
j208 [.b false] h164) (
mulK (.ofNat (nat_lit 2)) r_1 (fun c_ => out64 c_ (fun n211 =>
@Bool.rec (fun _ => RT) (
j208 [.b false] h164) (
mulK (.ofNat (nat_lit 2)) r_2 (fun c_ => out64 c_ (fun n213 =>
@Bool.rec (fun _ => RT) (
j208 [.b false] h164) (
addK n167 n158 (fun c_ => out64 c_ (fun n215 =>
@Bool.rec (fun _ => RT) (remK n215 (.ofNat (nat_lit 2)) (fun n216 =>
j208 [.b (eqZK n216 (.ofNat (nat_lit 0)))] h164)) none (isZ (.ofNat (nat_lit 2)))))) (notK (leZ n213 n158))))) (notK (leZ n211 n167))))) (notK (leZ n158 (.ofNat (nat_lit 0))))) (notK (leZ n167 (.ofNat (nat_lit 0))))))) (leZ n167 n169))))))) [.i n156, .i (.ofNat (nat_lit 0))] h155) (leZ n158 n160))))))) [.i (.ofNat (nat_lit 0)), .i (.ofNat (nat_lit 0))] h148)) (
optB (idS 2 r_3 n44) (fun x48 =>
ldB 2 x48 h43 (fun l49 =>
ucIB .i64 l49 (fun n50 l51 =>
ucIB .u8 l51 (fun n52 l53 =>
uc0B l53 (
mc25 c r_1 r_2 n50 n52 h43 (fun r_6 r_7 r_8 r_9 r_10 h55 =>
optB (idS 2 r_3 n44) (fun x66 =>
ldB 2 x66 h55 (fun l67 =>
ucIB .i64 l67 (fun n68 l69 =>
ucIB .u8 l69 (fun n70 l71 =>
uc0B l71 (
mc26 c r_1 r_2 n68 n70 h55 (fun r_11 r_12 r_13 h73 =>
optB (idS 2 r_3 n44) (fun x80 =>
ldB 2 x80 h73 (fun l81 =>
ucIB .i64 l81 (fun n82 l83 =>
ucIB .u8 l83 (fun n84 l85 =>
uc0B l85 (
optB (idS 2 r_5 n44) (fun x86 =>
ldB 2 x86 h73 (fun l87 =>
ucIB .i64 l87 (fun n88 l89 =>
ucIB .u8 l89 (fun n90 l91 =>
uc0B l91 (
@Bool.rec (fun _ => RT) (
@Bool.rec (fun _ => RT) (
@Bool.rec (fun _ => RT) (
optB (idS 2 r_3 n44) (fun x95 =>
ldB 2 x95 h73 (fun l96 =>
ucIB .i64 l96 (fun n97 l98 =>
ucIB .u8 l98 (fun n99 l100 =>
uc0B l100 (
mc27 c r_1 r_2 n97 n99 h73 (fun r_14 r_15 r_16 r_17 h102 =>
@Bool.rec (fun _ => RT) (
mc28 c r_11 r_12 r_6 r_7 h102 (fun r_18 h113 =>
@Bool.rec (fun _ => RT) (
mc28 c r_11 r_12 r_8 r_9 h113 (fun r_19 h118 =>
@Bool.rec (fun _ => RT) (
peekB siteTab (.fn (luG cc 44 false (.int .i64 (.ofNat (nat_lit 0))) (.map (some m39)) (.agg ⟨[(.int .i64 r_6), (.int .i64 r_7)]⟩) false)) h118 (fun l122 =>
ucIB .i64 l122 (fun n123 l124 =>
uc0B l124 (
addK n123 (.ofNat (nat_lit 1)) (fun c_ => out64 c_ (fun n125 =>
heapB siteTab (.fn (meG cc 44 false (.int .i64 (.ofNat (nat_lit 0))) (.map (some m39)) (.agg ⟨[(.int .i64 r_6), (.int .i64 r_7)]⟩))) h118 (fun l126 h127 =>
ucIB .i64 l126 (fun n128 l129 =>
ucIB .i64 l129 (fun n130 l131 =>
uc0B l131 (
heapB siteTab (.fn (esG (.map (some m39)) n130 (.int .i64 n125))) h127 (fun l132 h133 =>
peekB siteTab (.fn (luG cc 44 false (.int .i64 (.ofNat (nat_lit 0))) (.map (some m39)) (.agg ⟨[(.int .i64 r_8), (.int .i64 r_9)]⟩) false)) h133 (fun l134 =>
ucIB .i64 l134 (fun n135 l136 =>
uc0B l136 (
addK n135 (.ofNat (nat_lit 1)) (fun c_ => out64 c_ (fun n137 =>
heapB siteTab (.fn (meG cc 44 false (.int .i64 (.ofNat (nat_lit 0))) (.map (some m39)) (.agg ⟨[(.int .i64 r_8), (.int .i64 r_9)]⟩))) h133 (fun l138 h139 =>
ucIB .i64 l138 (fun n140 l141 =>
ucIB .i64 l141 (fun n142 l143 =>
uc0B l143 (
heapB siteTab (.fn (esG (.map (some m39)) n142 (.int .i64 n137))) h139 (fun l144 h145 =>
addK n44 (.ofNat (nat_lit 1)) (fun c_ => out64 c_ (fun n146 =>
s41 [.i n146] h145))))))))))))))))))))))) (
K false h118) (notK (eqZK r_19 (.ofNat (nat_lit 0)))))) (
K false h113) (notK (eqZK r_18 (.ofNat (nat_lit 0)))))) (
K false h102) (!(@Bool.rec (fun _ => Bool) false (@Bool.rec (fun _ => Bool) false (@Bool.rec (fun _ => Bool) false (@Bool.rec (fun _ => Bool) false true (eqZK r_9 r_17)) (eqZK r_8 r_16)) (eqZK r_7 r_15)) (eqZK r_6 r_14)))))))))) (
K false h73) (notK (eqZK r_13 (.ofNat (nat_lit 0))))) (
K false h73) (notK (eqZK r_10 (.ofNat (nat_lit 0))))) (
K false h73) (!(@Bool.rec (fun _ => Bool) false (@Bool.rec (fun _ => Bool) false true (eqZK n84 n90)) (eqZK n82 n88)))))))))))))))))))))))))) (notK (leZ x46 n44)))))) [.i (.ofNat (nat_lit 0))] h40)) (
K false h23) (notK (eqZK x33 n37)))))))))))) (
K false h23) (notK (eqZK x30 x31))))) (
K false h23) (notK (eqZK x27 x28))))) (
K false h23) (notK (eqZK r_4 (.ofNat (nat_lit 0)))))))
noncomputable def wq4 (c : CallB) : FB := fun ls h K => unIB ls fun a0 l0 => unIB l0 fun a1 l1 => un0B l1 (b4 c a0 a1 h (fun r0 h => K [.b r0] h))
noncomputable def wr4 (c : CallB) : FB := fun ls h K => @List.rec Lf (fun _ => RT) none (fun x0 l0 _ => @Lf.rec (fun _ => RT) (fun a0 => @List.rec Lf (fun _ => RT) none (fun x1 l1 _ => @Lf.rec (fun _ => RT) (fun a1 => @List.rec Lf (fun _ => RT) (b4 c a0 a1 h (fun r0 h => K [.b r0] h)) (fun _ _ _ => none) l1) (fun _ => none) (fun _ => none) x1) l0) (fun _ => none) (fun _ => none) x0) ls
theorem ew4 : (fun c => wr4 c) = fun c => wq4 c := by kernel_rfl
noncomputable def w4 (c : CallB) : FB := memo (wr4 c)
theorem pf4 (c : CallB) (ls : List Lf) (h : HTr) (K : List Lf → HTr → RT) : f4 (BA sgTab siteTab (ct4 c)) ls h K = wq4 c ls h K :=
q_unI (fun n6 l7 =>
q_unI (fun n8 l9 =>
q_un0 (qm17 rfl (fun l10 h11 =>
q_unI (fun n12 l13 =>
q_unI (fun n14 l15 =>
q_un0 (qb23 rfl (fun r_3 r_4 h17 =>
q_unVs (q_unIs (q_un0s (qb24 rfl (fun r_5 h23 =>
q_unVs (q_un0s (q_neq (q_cond (rfl) (q_opt (fun x27 =>
q_opt (fun x28 =>
q_neq (q_cond (rfl) (q_opt (fun x30 =>
q_opt (fun x31 =>
q_neq (q_cond (rfl) (q_opt (fun x33 =>
q_mul64 (fun n34 =>
q_mul64 (fun n35 =>
q_sub64 (fun n36 =>
q_sub64 (fun n37 =>
q_neq (q_cond (rfl) (q_new (fun m39 h40 =>
q_loop (fun s41 l42 h43 =>
q_unI (fun n44 l45 =>
q_un0 (q_opt (fun x46 =>
q_lss (q_cond (q_opt (fun x48 =>
q_ld (fun l49 =>
q_ucI (fun n50 l51 =>
q_ucI (fun n52 l53 =>
q_uc0 (qm25 rfl (fun l54 h55 =>
q_unI (fun n56 l57 =>
q_unI (fun n58 l59 =>
q_unI (fun n60 l61 =>
q_unI (fun n62 l63 =>
q_unI (fun n64 l65 =>
q_un0 (q_opt (fun x66 =>
q_ld (fun l67 =>
q_ucI (fun n68 l69 =>
q_ucI (fun n70 l71 =>
q_uc0 (qm26 rfl (fun l72 h73 =>
q_unI (fun n74 l75 =>
q_unI (fun n76 l77 =>
q_unI (fun n78 l79 =>
q_un0 (q_opt (fun x80 =>
q_ld (fun l81 =>
q_ucI (fun n82 l83 =>
q_ucI (fun n84 l85 =>
q_uc0 (q_opt (fun x86 =>
q_ld (fun l87 =>
q_ucI (fun n88 l89 =>
q_ucI (fun n90 l91 =>
q_uc0 (q_eqs (q_cond (rfl) (q_neq (q_cond (rfl) (q_neq (q_cond (rfl) (q_opt (fun x95 =>
q_ld (fun l96 =>
q_ucI (fun n97 l98 =>
q_ucI (fun n99 l100 =>
q_uc0 (qm27 rfl (fun l101 h102 =>
q_unI (fun n103 l104 =>
q_unI (fun n105 l106 =>
q_unI (fun n107 l108 =>
q_unI (fun n109 l110 =>
q_un0 (q_eqs (q_cond (rfl) (qm28 rfl (fun l112 h113 =>
q_unI (fun n114 l115 =>
q_un0 (q_neq (q_cond (rfl) (qm28 rfl (fun l117 h118 =>
q_unI (fun n119 l120 =>
q_un0 (q_neq (q_cond (rfl) (q_peek (fun l122 =>
q_ucI (fun n123 l124 =>
q_uc0 (q_add64 (fun n125 =>
q_heap (fun l126 h127 =>
q_ucI (fun n128 l129 =>
q_ucI (fun n130 l131 =>
q_uc0 (q_heap (fun l132 h133 =>
q_peek (fun l134 =>
q_ucI (fun n135 l136 =>
q_uc0 (q_add64 (fun n137 =>
q_heap (fun l138 h139 =>
q_ucI (fun n140 l141 =>
q_ucI (fun n142 l143 =>
q_uc0 (q_heap (fun l144 h145 =>
q_add64 (fun n146 =>
rfl))))))))))))))))))))))))))))))))))))))))))))))))))))))))))))))))))))))))))))))))) (qb29 rfl (fun r_20 r_21 h148 =>
q_unVs (q_unIs (q_un0s (q_loop (fun s153 l154 h155 =>
q_unI (fun n156 l157 =>
q_unI (fun n158 l159 =>
q_un0 (q_mul64 (fun n160 =>
q_leq (q_cond (q_loop (fun s162 l163 h164 =>
q_unI (fun n165 l166 =>
q_unI (fun n167 l168 =>
q_un0 (q_mul64 (fun n169 =>
q_leq (q_cond (q_join (fun l171 h172 =>
q_unI (fun n173 l174 =>
q_un0 (q_add64 (fun n175 =>
rfl)))) (fun j176 =>
q_join (fun l177 h178 =>
q_unB (fun t179 l180 =>
q_un0 (q_cond (rfl) (q_rem (fun n181 =>
q_eql (q_join (fun l183 h184 =>
q_unI (fun n185 l186 =>
q_un0 (q_opt (fun x187 =>
q_geq (q_cond (rfl) (q_opt (fun x189 =>
q_ld (fun l190 =>
q_ucI (fun n191 l192 =>
q_ucI (fun n193 l194 =>
q_uc0 (q_eqs (q_cond (rfl) (q_opt (fun x196 =>
q_ld (fun l197 =>
q_ucI (fun n198 l199 =>
q_ucI (fun n200 l201 =>
q_uc0 (q_peek (fun l202 =>
q_ucI (fun n203 l204 =>
q_uc0 (q_neq (q_cond (rfl) (q_add64 (fun n206 =>
rfl)))))))))))))))))))))))) (fun j207 =>
q_cond (rfl) (rfl)))))))) (fun j208 =>
q_gtr (q_cond (q_gtr (q_cond (q_mul64 (fun n211 =>
q_lss (q_cond (q_mul64 (fun n213 =>
q_lss (q_cond (q_add64 (fun n215 =>
q_rem (fun n216 =>
q_eql (rfl)))) (rfl)))) (rfl)))) (rfl))) (rfl))))) (q_add64 (fun n218 =>
rfl))))))))) (q_join (fun l219 h220 =>
q_unB (fun t221 l222 =>
q_un0 (rfl))) (fun j223 =>
q_eql (q_cond (q_opt (fun x225 =>
q_eql (q_cond (q_opt (fun x227 =>
q_eql (q_cond (qm21 rfl (fun l229 h230 =>
q_unB (fun t231 l232 =>
q_un0 (rfl)))) (rfl)))) (rfl)))) (rfl))))))))))))))))))))))))))))))))))))))))))))))))))))
theorem eb4 : (fun c => wr4 c) = fun c => f4 (BA sgTab siteTab (ct4 c)) := ew4.trans (funext fun c => funext fun ls => funext fun h => funext fun K => (pf4 c ls h K).symm)
theorem ok4 {c : CallB} (hc : Cok c) : Ent 4 (w4 c) := ent_mem (ent_of (g := fun c => wr4 c) (f := fun A => f4 A) (ct := ct4) eb4 (congrFun (congrFun e4 RT) HTr) i4 (tblF_ok hc (by
    intro p hp
    simp only [List.mem_cons, List.not_mem_nil, or_false] at hp
    rcases hp with rfl | rfl | rfl | rfl | rfl | rfl | rfl | rfl | rfl
    · exact ok17 hc
    · exact ok21 hc
    · exact ok23 hc
    · exact ok24 hc
    · exact ok25 hc
    · exact ok26 hc
    · exact ok27 hc
    · exact ok28 hc
    · exact ok29 hc))) rfl (by kernel_rfl)
/-- crimp/crimpref05.Cells -/
noncomputable def ct30 (c : CallB) : CallB := tblF [] c
noncomputable def b30 (c : CallB) (a0 : Int) (a1 : Int) (h : HTr) (K : Value → HTr → RT) : RT :=
loopB (fun s10 l11 h12 =>
unVB l11 (fun x13 l14 =>
unIB l14 (fun n15 l16 =>
un0B l16 (@Bool.rec (fun _ => RT) (
K x13 h12) (
loopB (fun s18 l19 h20 =>
unVB l19 (fun x21 l22 =>
unIB l22 (fun n23 l24 =>
un0B l24 (@Bool.rec (fun _ => RT) (
addK n15 (.ofNat (nat_lit 1)) (fun c_ => out64 c_ (fun n42 =>
s10 [.v x21, .i n42] h20))) (
loopB (fun s26 l27 h28 =>
unVB l27 (fun x29 l30 =>
unIB l30 (fun n31 l32 =>
un0B l32 (@Bool.rec (fun _ => RT) (
addK n23 (.ofNat (nat_lit 1)) (fun c_ => out64 c_ (fun n41 =>
s18 [.v x29, .i n41] h28))) (
newB (.cells [(.int .i64 n23), (.int .i64 n15), (.int .u8 n31)] 3 true) h28 (fun m34 h35 =>
apB siteTab cc 3 24 x29 (.slice (some ⟨m34, 0, (some 13)⟩) 1 2) h35 (fun l36 h37 =>
ucVB l36 (fun x38 l39 =>
chkB x38 (
uc0B l39 (
addK n31 (.ofNat (nat_lit 1)) (fun c_ => outU8 c_ (fun n40 =>
s26 [.v x38, .i n40] h37)))))))) (notK (leZ (.ofNat (nat_lit 4)) n31)))))) [.v x21, .i (.ofNat (nat_lit 0))] h20) (notK (leZ a0 n23)))))) [.v x13, .i (.ofNat (nat_lit 0))] h12) (notK (leZ a1 n15)))))) [.v (.slice none 0 0), .i (.ofNat (nat_lit 0))] h
noncomputable def wq30 (c : CallB) : FB := fun ls h K => unIB ls fun a0 l0 => unIB l0 fun a1 l1 => un0B l1 (b30 c a0 a1 h (fun r0 h => K [.v r0] h))
noncomputable def wr30 (c : CallB) : FB := fun ls h K => @List.rec Lf (fun _ => RT) none (fun x0 l0 _ => @Lf.rec (fun _ => RT) (fun a0 => @List.rec Lf (fun _ => RT) none (fun x1 l1 _ => @Lf.rec (fun _ => RT) (fun a1 => @List.rec Lf (fun _ => RT) (b30 c a0 a1 h (fun r0 h => K [.v r0] h)) (fun _ _ _ => none) l1) (fun _ => none) (fun _ => none) x1) l0) (fun _ => none) (fun _ => none) x0) ls
theorem ew30 : (fun c => wr30 c) = fun c => wq30 c := by kernel_rfl
noncomputable def w30 (c : CallB) : FB := wr30 c
theorem vb30 : (fun (c : CallB) (a0 : Int) (a1 : Int) (h : HTr) (K : List Lf → HTr → RT) => w30 c [.i a0, .i a1] h K) = fun c a0 a1 h K => b30 c a0 a1 h (fun r0 h => K [.v r0] h) := by kernel_rfl
theorem qb30 {c call : CallB} (hct : call (.f 30) = w30 c) {a0 : Int} {a1 : Int} {h : HTr} {K : List Lf → HTr → RT} {K' : Value → HTr → RT} (hX : ∀ r0 h, K [.v r0] h = K' r0 h) : (BA sgTab siteTab call).call 30 [.i a0, .i a1] h K = b30 c a0 a1 h K' := by
  obtain rfl : K' = fun r0 h => K [.v r0] h := funext fun r0 => funext fun h => (hX r0 h).symm
  exact q_tab0 rfl ((congrFun (congrFun (congrFun hct _) _) _).trans (congrFun (congrFun (congrFun (congrFun (congrFun (vb30) c) a0) a1) h) K))
theorem pf30 (c : CallB) (ls : List Lf) (h : HTr) (K : List Lf → HTr → RT) : f30 (BA sgTab siteTab (ct30 c)) ls h K = wq30 c ls h K :=
q_unI (fun n6 l7 =>
q_unI (fun n8 l9 =>
q_un0 (q_loop (fun s10 l11 h12 =>
q_unV (fun x13 l14 =>
q_unI (fun n15 l16 =>
q_un0 (q_lss (q_cond (q_loop (fun s18 l19 h20 =>
q_unV (fun x21 l22 =>
q_unI (fun n23 l24 =>
q_un0 (q_lss (q_cond (q_loop (fun s26 l27 h28 =>
q_unV (fun x29 l30 =>
q_unI (fun n31 l32 =>
q_un0 (q_lss (q_cond (q_new (fun m34 h35 =>
q_ap (fun l36 h37 =>
q_ucV (fun x38 l39 =>
q_chk (q_uc0 (q_addU8 (fun n40 =>
rfl))))))) (q_add64 (fun n41 =>
rfl)))))))) (q_add64 (fun n42 =>
rfl)))))))) (rfl)))))))))
theorem eb30 : (fun c => wr30 c) = fun c => f30 (BA sgTab siteTab (ct30 c)) := ew30.trans (funext fun c => funext fun ls => funext fun h => funext fun K => (pf30 c ls h K).symm)
theorem ok30 {c : CallB} (hc : Cok c) : Ent 30 (w30 c) := (ent_of (g := fun c => wr30 c) (f := fun A => f30 A) (ct := ct30) eb30 (congrFun (congrFun e30 RT) HTr) i30 (tblF_ok hc (by
    intro p hp
    cases hp)))
/-- crimp/crimplaw05.SheetsNone -/
noncomputable def ct5 (c : CallB) : CallB := tblF [(17, w17 c), (21, w21 c), (24, w24 c), (25, w25 c), (26, w26 c), (30, w30 c), (31, w31 c)] c
noncomputable def b5 (c : CallB) (a0 : Int) (a1 : Int) (a2 : Int) (a3 : Int) (h : HTr) (K : Bool → HTr → RT) : RT :=
mc17 c a0 a1 h (fun r_1 r_2 h15 =>
b24 c r_1 r_2 h15 (fun r_3 h21 =>
loopB (fun s24 l25 h26 =>
unBB l25 (fun t27 l28 =>
unIB l28 (fun n29 l30 =>
un0B l30 (optB (lenS r_3) (fun x31 =>
@Bool.rec (fun _ => RT) (
mc26 c r_1 r_2 a2 a3 h26 (fun r_4 r_5 r_6 h47 =>
mc25 c r_1 r_2 a2 a3 h47 (fun r_7 r_8 r_9 r_10 r_11 h55 =>
@Bool.rec (fun _ => RT) (
b30 c r_1 r_2 h55 (fun r_13 h80 =>
optB (idS 3 r_13 a2) (fun x83 =>
ldB 3 x83 h80 (fun l84 =>
ucIB .i64 l84 (fun n85 l86 =>
ucIB .i64 l86 (fun n87 l88 =>
ucIB .u8 l88 (fun n89 l90 =>
uc0B l90 (
joinB (fun l91 h92 =>
unBB l91 (fun t93 l94 =>
un0B l94 (K t93 h92))) (fun j95 =>
@Bool.rec (fun _ => RT) (
j95 [.b false] h80) (
@Bool.rec (fun _ => RT) (
j95 [.b false] h80) (
out64 a3 (fun n98 =>
mc31 c n85 n87 n89 n98 h80 (fun r_14 r_15 h100 =>
@Bool.rec (fun _ => RT) (
j95 [.b false] h100) (
mc21 c h100 (fun r_16 h107 =>
j95 [.b r_16] h107)) (@Bool.rec (fun _ => Bool) false (@Bool.rec (fun _ => Bool) false true (eqZK r_5 r_15)) (eqZK r_4 r_14))))) (eqZK r_11 (.ofNat (nat_lit 0)))) (eqZK r_6 (.ofNat (nat_lit 0)))))))))))) (
joinB (fun l66 h67 =>
unBB l66 (fun t68 l69 =>
un0B l69 (K t68 h67))) (fun j70 =>
@Bool.rec (fun _ => RT) (
j70 [.b false] h55) (
@Bool.rec (fun _ => RT) (
j70 [.b false] h55) (
@Bool.rec (fun _ => RT) (
j70 [.b false] h55) (
@Bool.rec (fun _ => RT) (
j70 [.b false] h55) (
mc21 c h55 (fun r_12 h76 =>
j70 [.b r_12] h76)) (@Bool.rec (fun _ => Bool) false (@Bool.rec (fun _ => Bool) false (@Bool.rec (fun _ => Bool) false (@Bool.rec (fun _ => Bool) false true (eqZK r_10 (.ofNat (nat_lit 0)))) (eqZK r_9 (.ofNat (nat_lit 0)))) (eqZK r_8 (.ofNat (nat_lit 0)))) (eqZK r_7 (.ofNat (nat_lit 0))))) (@Bool.rec (fun _ => Bool) false (@Bool.rec (fun _ => Bool) false true (eqZK r_5 (.ofNat (nat_lit 0)))) (eqZK r_4 (.ofNat (nat_lit 0))))) (eqZK r_11 (.ofNat (nat_lit 7)))) (eqZK r_6 (.ofNat (nat_lit 7))))) (!t27)))) (
joinB (fun l33 h34 =>
unBB l33 (fun t35 l36 =>
un0B l36 (addK n29 (.ofNat (nat_lit 1)) (fun c_ => out64 c_ (fun n37 =>
s24 [.b t35, .i n37] h34))))) (fun j38 =>
@Bool.rec (fun _ => RT) (
optB (idS 2 r_3 n29) (fun x39 =>
ldB 2 x39 h26 (fun l40 =>
ucIB .i64 l40 (fun n41 l42 =>
ucIB .u8 l42 (fun n43 l44 =>
uc0B l44 (
j38 [.b (@Bool.rec (fun _ => Bool) false (@Bool.rec (fun _ => Bool) false true (eqZK n43 a3)) (eqZK n41 a2))] h26)))))) (
j38 [.b true] h26) t27)) (notK (leZ x31 n29))))))) [.b false, .i (.ofNat (nat_lit 0))] h21))
noncomputable def wq5 (c : CallB) : FB := fun ls h K => unIB ls fun a0 l0 => unIB l0 fun a1 l1 => unIB l1 fun a2 l2 => unIB l2 fun a3 l3 => un0B l3 (b5 c a0 a1 a2 a3 h (fun r0 h => K [.b r0] h))
noncomputable def wr5 (c : CallB) : FB := fun ls h K => @List.rec Lf (fun _ => RT) none (fun x0 l0 _ => @Lf.rec (fun _ => RT) (fun a0 => @List.rec Lf (fun _ => RT) none (fun x1 l1 _ => @Lf.rec (fun _ => RT) (fun a1 => @List.rec Lf (fun _ => RT) none (fun x2 l2 _ => @Lf.rec (fun _ => RT) (fun a2 => @List.rec Lf (fun _ => RT) none (fun x3 l3 _ => @Lf.rec (fun _ => RT) (fun a3 => @List.rec Lf (fun _ => RT) (b5 c a0 a1 a2 a3 h (fun r0 h => K [.b r0] h)) (fun _ _ _ => none) l3) (fun _ => none) (fun _ => none) x3) l2) (fun _ => none) (fun _ => none) x2) l1) (fun _ => none) (fun _ => none) x1) l0) (fun _ => none) (fun _ => none) x0) ls
theorem ew5 : (fun c => wr5 c) = fun c => wq5 c := by kernel_rfl
noncomputable def w5 (c : CallB) : FB := memo (wr5 c)
theorem pf5 (c : CallB) (ls : List Lf) (h : HTr) (K : List Lf → HTr → RT) : f5 (BA sgTab siteTab (ct5 c)) ls h K = wq5 c ls h K :=
q_unI (fun n6 l7 =>
q_unI (fun n8 l9 =>
q_unI (fun n10 l11 =>
q_unI (fun n12 l13 =>
q_un0 (qm17 rfl (fun l14 h15 =>
q_unI (fun n16 l17 =>
q_unI (fun n18 l19 =>
q_un0 (qb24 rfl (fun r_3 h21 =>
q_unVs (q_un0s (q_loop (fun s24 l25 h26 =>
q_unB (fun t27 l28 =>
q_unI (fun n29 l30 =>
q_un0 (q_opt (fun x31 =>
q_lss (q_cond (q_join (fun l33 h34 =>
q_unB (fun t35 l36 =>
q_un0 (q_add64 (fun n37 =>
rfl)))) (fun j38 =>
q_cond (rfl) (q_opt (fun x39 =>
q_ld (fun l40 =>
q_ucI (fun n41 l42 =>
q_ucI (fun n43 l44 =>
q_uc0 (q_eqs (rfl))))))))) (qm26 rfl (fun l46 h47 =>
q_unI (fun n48 l49 =>
q_unI (fun n50 l51 =>
q_unI (fun n52 l53 =>
q_un0 (qm25 rfl (fun l54 h55 =>
q_unI (fun n56 l57 =>
q_unI (fun n58 l59 =>
q_unI (fun n60 l61 =>
q_unI (fun n62 l63 =>
q_unI (fun n64 l65 =>
q_un0 (q_cond (q_join (fun l66 h67 =>
q_unB (fun t68 l69 =>
q_un0 (rfl))) (fun j70 =>
q_eql (q_cond (q_eql (q_cond (q_eqs (q_cond (q_eqs (q_cond (qm21 rfl (fun l75 h76 =>
q_unB (fun t77 l78 =>
q_un0 (rfl)))) (rfl))) (rfl))) (rfl))) (rfl)))) (qb30 rfl (fun r_13 h80 =>
q_unVs (q_un0s (q_opt (fun x83 =>
q_ld (fun l84 =>
q_ucI (fun n85 l86 =>
q_ucI (fun n87 l88 =>
q_ucI (fun n89 l90 =>
q_uc0 (q_join (fun l91 h92 =>
q_unB (fun t93 l94 =>
q_un0 (rfl))) (fun j95 =>
q_eql (q_cond (q_eql (q_cond (q_conv64 (fun n98 =>
qm31 rfl (fun l99 h100 =>
q_unI (fun n101 l102 =>
q_unI (fun n103 l104 =>
q_un0 (q_eqs (q_cond (qm21 rfl (fun l106 h107 =>
q_unB (fun t108 l109 =>
q_un0 (rfl)))) (rfl)))))))) (rfl))) (rfl))))))))))))))))))))))))))))))))))))))))))))
theorem eb5 : (fun c => wr5 c) = fun c => f5 (BA sgTab siteTab (ct5 c)) := ew5.trans (funext fun c => funext fun ls => funext fun h => funext fun K => (pf5 c ls h K).symm)
theorem ok5 {c : CallB} (hc : Cok c) : Ent 5 (w5 c) := ent_mem (ent_of (g := fun c => wr5 c) (f := fun A => f5 A) (ct := ct5) eb5 (congrFun (congrFun e5 RT) HTr) i5 (tblF_ok hc (by
    intro p hp
    simp only [List.mem_cons, List.not_mem_nil, or_false] at hp
    rcases hp with rfl | rfl | rfl | rfl | rfl | rfl | rfl
    · exact ok17 hc
    · exact ok21 hc
    · exact ok24 hc
    · exact ok25 hc
    · exact ok26 hc
    · exact ok30 hc
    · exact ok31 hc))) rfl (by kernel_rfl)
/-- crimp/crimpref05.Valid -/
noncomputable def ct32 (c : CallB) : CallB := tblF [] c
noncomputable def b32 (c : CallB) (a0 : Int) (a1 : Int) (h : HTr) (K : Int → HTr → RT) : RT :=
@Bool.rec (fun _ => RT) (
@Bool.rec (fun _ => RT) (
@Bool.rec (fun _ => RT) (
@Bool.rec (fun _ => RT) (
mulK a0 a1 (fun c_ => out64 c_ (fun n14 =>
@Bool.rec (fun _ => RT) (
K (.ofNat (nat_lit 1)) h) (
K (.ofNat (nat_lit 0)) h) (notK (leZ n14 (.ofNat (nat_lit 256))))))) (
K (.ofNat (nat_lit 0)) h) (notK (leZ a1 (.ofNat (nat_lit 256))))) (
K (.ofNat (nat_lit 0)) h) (notK (leZ a0 (.ofNat (nat_lit 256))))) (
K (.ofNat (nat_lit 0)) h) (notK (leZ (.ofNat (nat_lit 1)) a1))) (
K (.ofNat (nat_lit 0)) h) (notK (leZ (.ofNat (nat_lit 1)) a0))
noncomputable def wq32 (c : CallB) : FB := fun ls h K => unIB ls fun a0 l0 => unIB l0 fun a1 l1 => un0B l1 (b32 c a0 a1 h (fun r0 h => K [.i r0] h))
noncomputable def wr32 (c : CallB) : FB := fun ls h K => @List.rec Lf (fun _ => RT) none (fun x0 l0 _ => @Lf.rec (fun _ => RT) (fun a0 => @List.rec Lf (fun _ => RT) none (fun x1 l1 _ => @Lf.rec (fun _ => RT) (fun a1 => @List.rec Lf (fun _ => RT) (b32 c a0 a1 h (fun r0 h => K [.i r0] h)) (fun _ _ _ => none) l1) (fun _ => none) (fun _ => none) x1) l0) (fun _ => none) (fun _ => none) x0) ls
theorem ew32 : (fun c => wr32 c) = fun c => wq32 c := by kernel_rfl
noncomputable def w32 (c : CallB) : FB := memo (wr32 c)
noncomputable def mc32 (c : CallB) (a0 : Int) (a1 : Int) (h : HTr) (K : Int → HTr → RT) : RT := fI a0 fun a0 => fI a1 fun a1 => @Option.rec _ (fun _ => RT) none (fun rs => unIB rs fun r0 l0 => un0B l0 (K r0 h)) (b32 c a0 a1 .empty (fun r0 h => tell [.i r0] h))
theorem vm32 : (fun (c : CallB) (a0 : Int) (a1 : Int) (h : HTr) (K : Int → HTr → RT) => w32 c [.i a0, .i a1] h (fun rs h => unIB rs fun r0 l0 => un0B l0 (K r0 h))) = fun c a0 a1 h K => mc32 c a0 a1 h K := by kernel_rfl
theorem qm32 {c call : CallB} (hct : call (.f 32) = w32 c) {a0 : Int} {a1 : Int} {h : HTr} {K : List Lf → HTr → RT} {K' : Int → HTr → RT} (hX : ∀ rs h, K rs h = unIB rs fun r0 l0 => un0B l0 (K' r0 h)) : (BA sgTab siteTab call).call 32 [.i a0, .i a1] h K = mc32 c a0 a1 h K' := by
  obtain rfl : K = fun rs h => unIB rs fun r0 l0 => un0B l0 (K' r0 h) := funext fun rs => funext fun h => hX rs h
  exact q_tab0 rfl ((congrFun (congrFun (congrFun hct _) _) _).trans (congrFun (congrFun (congrFun (congrFun (congrFun (vm32) c) a0) a1) h) K'))
theorem pf32 (c : CallB) (ls : List Lf) (h : HTr) (K : List Lf → HTr → RT) : f32 (BA sgTab siteTab (ct32 c)) ls h K = wq32 c ls h K :=
q_unI (fun n6 l7 =>
q_unI (fun n8 l9 =>
q_un0 (q_lss (q_cond (rfl) (q_lss (q_cond (rfl) (q_gtr (q_cond (rfl) (q_gtr (q_cond (rfl) (q_mul64 (fun n14 =>
q_gtr (q_cond (rfl) (rfl))))))))))))))
theorem eb32 : (fun c => wr32 c) = fun c => f32 (BA sgTab siteTab (ct32 c)) := ew32.trans (funext fun c => funext fun ls => funext fun h => funext fun K => (pf32 c ls h K).symm)
theorem ok32 {c : CallB} (hc : Cok c) : Ent 32 (w32 c) := ent_mem (ent_of (g := fun c => wr32 c) (f := fun A => f32 A) (ct := ct32) eb32 (congrFun (congrFun e32 RT) HTr) i32 (tblF_ok hc (by
    intro p hp
    cases hp))) rfl (by kernel_rfl)
/-- crimp/sheets.Cells -/
noncomputable def ct37 (c : CallB) : CallB := tblF [(33, w33 c), (34, w34 c), (73, w73 c)] c
noncomputable def b37 (c : CallB) (a0 : Int) (a1 : Int) (h : HTr) (K : Value → Int → HTr → RT) : RT :=
mc33 c a0 a1 h (fun r_1 h11 =>
@Bool.rec (fun _ => RT) (
mc34 c a0 a1 h11 (fun r_2 h16 =>
optB (mkOk (.ofNat (nat_lit 0)) r_2) (fun x19 =>
newB (.cells (zerosA [(.int .i64 (.ofNat (nat_lit 0))), (.int .i64 (.ofNat (nat_lit 0))), (.int .u8 (.ofNat (nat_lit 0)))] (Int.toNat r_2)) 3 true) h16 (fun m20 h21 =>
mc34 c a0 a1 h21 (fun r_3 h23 =>
loopB (fun s26 l27 h28 =>
unVB l27 (fun x29 l30 =>
unIB l30 (fun n31 l32 =>
un0B l32 (@Bool.rec (fun _ => RT) (
K x29 (.ofNat (nat_lit 0)) h28) (
mc73 c a0 a1 n31 h28 (fun r_4 r_5 r_6 h35 =>
newB (.cells [(.int .i64 r_4), (.int .i64 r_5), (.int .u8 r_6)] 3 true) h35 (fun m42 h43 =>
apB siteTab cc 3 24 x29 (.slice (some ⟨m42, 0, (some 13)⟩) 1 2) h43 (fun l44 h45 =>
ucVB l44 (fun x46 l47 =>
chkB x46 (
uc0B l47 (
addK n31 (.ofNat (nat_lit 1)) (fun c_ => out64 c_ (fun n48 =>
s26 [.v x46, .i n48] h45))))))))) (notK (leZ r_3 n31)))))) [.v (.slice (some ⟨m20, 0, (some 13)⟩) (Int.toNat (.ofNat (nat_lit 0))) ((Int.toNat r_2) + 1)), .i (.ofNat (nat_lit 0))] h23))))) (
K (.slice none 0 0) r_1 h11) (notK (eqZK r_1 (.ofNat (nat_lit 0)))))
noncomputable def wq37 (c : CallB) : FB := fun ls h K => unIB ls fun a0 l0 => unIB l0 fun a1 l1 => un0B l1 (b37 c a0 a1 h (fun r0 r1 h => K [.v r0, .i r1] h))
noncomputable def wr37 (c : CallB) : FB := fun ls h K => @List.rec Lf (fun _ => RT) none (fun x0 l0 _ => @Lf.rec (fun _ => RT) (fun a0 => @List.rec Lf (fun _ => RT) none (fun x1 l1 _ => @Lf.rec (fun _ => RT) (fun a1 => @List.rec Lf (fun _ => RT) (b37 c a0 a1 h (fun r0 r1 h => K [.v r0, .i r1] h)) (fun _ _ _ => none) l1) (fun _ => none) (fun _ => none) x1) l0) (fun _ => none) (fun _ => none) x0) ls
theorem ew37 : (fun c => wr37 c) = fun c => wq37 c := by kernel_rfl
noncomputable def w37 (c : CallB) : FB := wr37 c
theorem vb37 : (fun (c : CallB) (a0 : Int) (a1 : Int) (h : HTr) (K : List Lf → HTr → RT) => w37 c [.i a0, .i a1] h K) = fun c a0 a1 h K => b37 c a0 a1 h (fun r0 r1 h => K [.v r0, .i r1] h) := by kernel_rfl
theorem qb37 {c call : CallB} (hct : call (.f 37) = w37 c) {a0 : Int} {a1 : Int} {h : HTr} {K : List Lf → HTr → RT} {K' : Value → Int → HTr → RT} (hX : ∀ r0 r1 h, K [.v r0, .i r1] h = K' r0 r1 h) : (BA sgTab siteTab call).call 37 [.i a0, .i a1] h K = b37 c a0 a1 h K' := by
  obtain rfl : K' = fun r0 r1 h => K [.v r0, .i r1] h := funext fun r0 => funext fun r1 => funext fun h => (hX r0 r1 h).symm
  exact q_tab0 rfl ((congrFun (congrFun (congrFun hct _) _) _).trans (congrFun (congrFun (congrFun (congrFun (congrFun (vb37) c) a0) a1) h) K))
theorem pf37 (c : CallB) (ls : List Lf) (h : HTr) (K : List Lf → HTr → RT) : f37 (BA sgTab siteTab (ct37 c)) ls h K = wq37 c ls h K :=
q_unI (fun n6 l7 =>
q_unI (fun n8 l9 =>
q_un0 (qm33 rfl (fun l10 h11 =>
q_unI (fun n12 l13 =>
q_un0 (q_neq (q_cond (rfl) (qm34 rfl (fun l15 h16 =>
q_unI (fun n17 l18 =>
q_un0 (q_opt (fun x19 =>
q_new (fun m20 h21 =>
qm34 rfl (fun l22 h23 =>
q_unI (fun n24 l25 =>
q_un0 (q_loop (fun s26 l27 h28 =>
q_unV (fun x29 l30 =>
q_unI (fun n31 l32 =>
q_un0 (q_lss (q_cond (qm73 rfl (fun l34 h35 =>
q_unI (fun n36 l37 =>
q_unI (fun n38 l39 =>
q_unI (fun n40 l41 =>
q_un0 (q_new (fun m42 h43 =>
q_ap (fun l44 h45 =>
q_ucV (fun x46 l47 =>
q_chk (q_uc0 (q_add64 (fun n48 =>
rfl)))))))))))) (rfl))))))))))))))))))))))
theorem eb37 : (fun c => wr37 c) = fun c => f37 (BA sgTab siteTab (ct37 c)) := ew37.trans (funext fun c => funext fun ls => funext fun h => funext fun K => (pf37 c ls h K).symm)
theorem ok37 {c : CallB} (hc : Cok c) : Ent 37 (w37 c) := (ent_of (g := fun c => wr37 c) (f := fun A => f37 A) (ct := ct37) eb37 (congrFun (congrFun e37 RT) HTr) i37 (tblF_ok hc (by
    intro p hp
    simp only [List.mem_cons, List.not_mem_nil, or_false] at hp
    rcases hp with rfl | rfl | rfl
    · exact ok33 hc
    · exact ok34 hc
    · exact ok73 hc)))
/-- crimp/crimplaw05.SheetsCheck -/
noncomputable def ct6 (c : CallB) : CallB := tblF [(18, w18 c), (19, w19 c), (21, w21 c), (23, w23 c), (25, w25 c), (26, w26 c), (29, w29 c), (32, w32 c), (33, w33 c), (34, w34 c), (35, w35 c), (36, w36 c), (37, w37 c)] c
noncomputable def b6 (c : CallB) (a0 : Int) (a1 : Int) (a2 : Int) (h : HTr) (K : Bool → HTr → RT) : RT :=
mc32 c a0 a1 h (fun r_1 h13 =>
mc33 c a0 a1 h13 (fun r_2 h18 =>
@Bool.rec (fun _ => RT) (
@Bool.rec (fun _ => RT) (
mc35 c a0 a1 a2 h18 (fun r_5 r_6 r_7 r_8 h40 =>
mc36 c a0 a1 (.ofNat (nat_lit 0)) (.ofNat (nat_lit 0)) (.ofNat (nat_lit 0)) h40 (fun r_9 r_10 h50 =>
mc18 c a0 a1 a2 (.ofNat (nat_lit 0)) h50 (fun r_11 r_12 h56 =>
mc19 c a0 a1 a2 (.ofNat (nat_lit 9)) h56 (fun r_13 r_14 r_15 h62 =>
b23 c a0 a1 h62 (fun r_16 r_17 h70 =>
mc26 c a0 a1 (.ofNat (nat_lit 0)) (.ofNat (nat_lit 0)) h70 (fun r_18 r_19 r_20 h76 =>
mc25 c a0 a1 (.ofNat (nat_lit 0)) (.ofNat (nat_lit 0)) h76 (fun r_21 r_22 r_23 r_24 r_25 h84 =>
b29 c a0 a1 h84 (fun r_26 r_27 h96 =>
b37 c a0 a1 h96 (fun r_28 r_29 h102 =>
mc33 c a0 a1 h102 (fun r_30 h108 =>
newB (.cells [(.int .i64 r_30), (.int .i64 r_8), (.int .i64 r_10), (.int .i64 r_12), (.int .i64 r_15), (.int .i64 r_17), (.int .i64 r_20), (.int .i64 r_25), (.int .i64 r_27), (.int .i64 r_29)] 1 true) h108 (fun m111 h112 =>
loopB (fun s113 l114 h115 =>
unIB l114 (fun n116 l117 =>
un0B l117 (optB (lenS (.slice (some ⟨m111, 0, (some 11)⟩) 10 11)) (fun x118 =>
@Bool.rec (fun _ => RT) (
joinB (fun l126 h127 =>
unBB l126 (fun t128 l129 =>
un0B l129 (K t128 h127))) (fun j130 =>
mc34 c a0 a1 h115 (fun r_31 h132 =>
@Bool.rec (fun _ => RT) (
j130 [.b false] h132) (
mc21 c h132 (fun r_32 h137 =>
j130 [.b r_32] h137)) (eqZK r_31 (.ofNat (nat_lit 0)))))) (
optB (idS 1 (.slice (some ⟨m111, 0, (some 11)⟩) 10 11) n116) (fun x120 =>
ldB 1 x120 h115 (fun l121 =>
ucIB .i64 l121 (fun n122 l123 =>
uc0B l123 (
@Bool.rec (fun _ => RT) (
addK n116 (.ofNat (nat_lit 1)) (fun c_ => out64 c_ (fun n125 =>
s113 [.i n125] h115))) (
K false h115) (notK (eqZK n122 (.ofNat (nat_lit 1))))))))) (notK (leZ x118 n116)))))) [.i (.ofNat (nat_lit 0))] h112)))))))))))) (
joinB (fun l23 h24 =>
unBB l23 (fun t25 l26 =>
un0B l26 (K t25 h24))) (fun j27 =>
mc34 c a0 a1 h18 (fun r_3 h29 =>
mulK (.ofNat (nat_lit 4)) a0 (fun c_ => out64 c_ (fun n32 =>
mulK n32 a1 (fun c_ => out64 c_ (fun n33 =>
@Bool.rec (fun _ => RT) (
j27 [.b false] h29) (
mc21 c h29 (fun r_4 h36 =>
j27 [.b r_4] h36)) (eqZK r_3 n33)))))))) (eqZK r_1 (.ofNat (nat_lit 1)))) (
K false h18) (!(@Bool.rec (fun _ => Bool) false true (eqBK (eqZK r_2 (.ofNat (nat_lit 0))) (eqZK r_1 (.ofNat (nat_lit 1))))))))
noncomputable def wq6 (c : CallB) : FB := fun ls h K => unIB ls fun a0 l0 => unIB l0 fun a1 l1 => unIB l1 fun a2 l2 => un0B l2 (b6 c a0 a1 a2 h (fun r0 h => K [.b r0] h))
noncomputable def wr6 (c : CallB) : FB := fun ls h K => @List.rec Lf (fun _ => RT) none (fun x0 l0 _ => @Lf.rec (fun _ => RT) (fun a0 => @List.rec Lf (fun _ => RT) none (fun x1 l1 _ => @Lf.rec (fun _ => RT) (fun a1 => @List.rec Lf (fun _ => RT) none (fun x2 l2 _ => @Lf.rec (fun _ => RT) (fun a2 => @List.rec Lf (fun _ => RT) (b6 c a0 a1 a2 h (fun r0 h => K [.b r0] h)) (fun _ _ _ => none) l2) (fun _ => none) (fun _ => none) x2) l1) (fun _ => none) (fun _ => none) x1) l0) (fun _ => none) (fun _ => none) x0) ls
theorem ew6 : (fun c => wr6 c) = fun c => wq6 c := by kernel_rfl
noncomputable def w6 (c : CallB) : FB := memo (wr6 c)
theorem pf6 (c : CallB) (ls : List Lf) (h : HTr) (K : List Lf → HTr → RT) : f6 (BA sgTab siteTab (ct6 c)) ls h K = wq6 c ls h K :=
q_unI (fun n6 l7 =>
q_unI (fun n8 l9 =>
q_unI (fun n10 l11 =>
q_un0 (qm32 rfl (fun l12 h13 =>
q_unI (fun n14 l15 =>
q_un0 (q_eql (qm33 rfl (fun l17 h18 =>
q_unI (fun n19 l20 =>
q_un0 (q_eql (q_eqs (q_cond (rfl) (q_cond (q_join (fun l23 h24 =>
q_unB (fun t25 l26 =>
q_un0 (rfl))) (fun j27 =>
qm34 rfl (fun l28 h29 =>
q_unI (fun n30 l31 =>
q_un0 (q_mul64 (fun n32 =>
q_mul64 (fun n33 =>
q_eql (q_cond (qm21 rfl (fun l35 h36 =>
q_unB (fun t37 l38 =>
q_un0 (rfl)))) (rfl))))))))) (qm35 rfl (fun l39 h40 =>
q_unI (fun n41 l42 =>
q_unI (fun n43 l44 =>
q_unI (fun n45 l46 =>
q_unI (fun n47 l48 =>
q_un0 (qm36 rfl (fun l49 h50 =>
q_unI (fun n51 l52 =>
q_unI (fun n53 l54 =>
q_un0 (qm18 rfl (fun l55 h56 =>
q_unI (fun n57 l58 =>
q_unI (fun n59 l60 =>
q_un0 (qm19 rfl (fun l61 h62 =>
q_unI (fun n63 l64 =>
q_unI (fun n65 l66 =>
q_unI (fun n67 l68 =>
q_un0 (qb23 rfl (fun r_16 r_17 h70 =>
q_unVs (q_unIs (q_un0s (qm26 rfl (fun l75 h76 =>
q_unI (fun n77 l78 =>
q_unI (fun n79 l80 =>
q_unI (fun n81 l82 =>
q_un0 (qm25 rfl (fun l83 h84 =>
q_unI (fun n85 l86 =>
q_unI (fun n87 l88 =>
q_unI (fun n89 l90 =>
q_unI (fun n91 l92 =>
q_unI (fun n93 l94 =>
q_un0 (qb29 rfl (fun r_26 r_27 h96 =>
q_unVs (q_unIs (q_un0s (qb37 rfl (fun r_28 r_29 h102 =>
q_unVs (q_unIs (q_un0s (qm33 rfl (fun l107 h108 =>
q_unI (fun n109 l110 =>
q_un0 (q_new (fun m111 h112 =>
q_loop (fun s113 l114 h115 =>
q_unI (fun n116 l117 =>
q_un0 (q_opt (fun x118 =>
q_lss (q_cond (q_opt (fun x120 =>
q_ld (fun l121 =>
q_ucI (fun n122 l123 =>
q_uc0 (q_neq (q_cond (rfl) (q_add64 (fun n125 =>
rfl)))))))) (q_join (fun l126 h127 =>
q_unB (fun t128 l129 =>
q_un0 (rfl))) (fun j130 =>
qm34 rfl (fun l131 h132 =>
q_unI (fun n133 l134 =>
q_un0 (q_eql (q_cond (qm21 rfl (fun l136 h137 =>
q_unB (fun t138 l139 =>
q_un0 (rfl)))) (rfl))))))))))))))))))))))))))))))))))))))))))))))))))))))))))))))))))))))))))
theorem eb6 : (fun c => wr6 c) = fun c => f6 (BA sgTab siteTab (ct6 c)) := ew6.trans (funext fun c => funext fun ls => funext fun h => funext fun K => (pf6 c ls h K).symm)
theorem ok6 {c : CallB} (hc : Cok c) : Ent 6 (w6 c) := ent_mem (ent_of (g := fun c => wr6 c) (f := fun A => f6 A) (ct := ct6) eb6 (congrFun (congrFun e6 RT) HTr) i6 (tblF_ok hc (by
    intro p hp
    simp only [List.mem_cons, List.not_mem_nil, or_false] at hp
    rcases hp with rfl | rfl | rfl | rfl | rfl | rfl | rfl | rfl | rfl | rfl | rfl | rfl | rfl
    · exact ok18 hc
    · exact ok19 hc
    · exact ok21 hc
    · exact ok23 hc
    · exact ok25 hc
    · exact ok26 hc
    · exact ok29 hc
    · exact ok32 hc
    · exact ok33 hc
    · exact ok34 hc
    · exact ok35 hc
    · exact ok36 hc
    · exact ok37 hc))) rfl (by kernel_rfl)
/-- crimp/crimplaw05.SheetsCell -/
noncomputable def ct7 (c : CallB) : CallB := tblF [(17, w17 c), (21, w21 c), (30, w30 c), (35, w35 c), (36, w36 c), (37, w37 c), (38, w38 c)] c
noncomputable def b7 (c : CallB) (a0 : Int) (a1 : Int) (a2 : Int) (a3 : Int) (a4 : Int) (a5 : Int) (h : HTr) (K : Bool → HTr → RT) : RT :=
mc17 c a0 a1 h (fun r_1 r_2 h19 =>
b37 c r_1 r_2 h19 (fun r_3 r_4 h25 =>
b30 c r_1 r_2 h25 (fun r_5 h31 =>
@Bool.rec (fun _ => RT) (
optB (lenS r_3) (fun x35 =>
optB (lenS r_5) (fun x36 =>
@Bool.rec (fun _ => RT) (
optB (capS r_3) (fun x38 =>
optB (lenS r_3) (fun x39 =>
@Bool.rec (fun _ => RT) (
loopB (fun s41 l42 h43 =>
unIB l42 (fun n44 l45 =>
un0B l45 (optB (lenS r_5) (fun x46 =>
@Bool.rec (fun _ => RT) (
mc35 c r_1 r_2 a2 h43 (fun r_12 r_13 r_14 r_15 h103 =>
@Bool.rec (fun _ => RT) (
optB (lenS r_5) (fun x148 =>
joinB (fun l150 h151 =>
un0B l150 (mc36 c r_1 r_2 a3 a4 a5 h151 (fun r_21 r_22 h153 =>
mc38 c r_1 r_2 a3 a4 a5 h153 (fun r_23 h159 =>
@Bool.rec (fun _ => RT) (
joinB (fun l174 h175 =>
unBB l174 (fun t176 l177 =>
un0B l177 (K t176 h175))) (fun j178 =>
@Bool.rec (fun _ => RT) (
j178 [.b false] h159) (
@Bool.rec (fun _ => RT) (
j178 [.b false] h159) (
mc21 c h159 (fun r_25 h182 =>
j178 [.b r_25] h182)) (eqZK r_21 r_23)) (eqZK r_22 (.ofNat (nat_lit 0))))) (
joinB (fun l163 h164 =>
unBB l163 (fun t165 l166 =>
un0B l166 (K t165 h164))) (fun j167 =>
@Bool.rec (fun _ => RT) (
j167 [.b false] h159) (
@Bool.rec (fun _ => RT) (
j167 [.b false] h159) (
mc21 c h159 (fun r_24 h171 =>
j167 [.b r_24] h171)) (eqZK r_21 (.ofNat (nat_lit 0)))) (eqZK r_22 (.ofNat (nat_lit 7))))) (notK (leZ (.ofNat (nat_lit 0)) r_23)))))) (fun j185 =>
@Bool.rec (fun _ => RT) (
j185 [] h103) (
@Bool.rec (fun _ => RT) (
@Bool.rec (fun _ => RT) (
j185 [] h103) (
K false h103) (!(@Bool.rec (fun _ => Bool) false (@Bool.rec (fun _ => Bool) false (@Bool.rec (fun _ => Bool) false true (eqZK r_14 (.ofNat (nat_lit 0)))) (eqZK r_13 (.ofNat (nat_lit 0)))) (eqZK r_12 (.ofNat (nat_lit 0)))))) (
K false h103) (notK (eqZK r_15 (.ofNat (nat_lit 7))))) (leZ x148 a2)))) (
@Bool.rec (fun _ => RT) (
@Bool.rec (fun _ => RT) (
mc36 c r_1 r_2 a3 a4 a5 h103 (fun r_16 r_17 h116 =>
mc38 c r_1 r_2 a3 a4 a5 h116 (fun r_18 h122 =>
@Bool.rec (fun _ => RT) (
joinB (fun l137 h138 =>
unBB l137 (fun t139 l140 =>
un0B l140 (K t139 h138))) (fun j141 =>
@Bool.rec (fun _ => RT) (
j141 [.b false] h122) (
@Bool.rec (fun _ => RT) (
j141 [.b false] h122) (
mc21 c h122 (fun r_20 h145 =>
j141 [.b r_20] h145)) (eqZK r_16 r_18)) (eqZK r_17 (.ofNat (nat_lit 0))))) (
joinB (fun l126 h127 =>
unBB l126 (fun t128 l129 =>
un0B l129 (K t128 h127))) (fun j130 =>
@Bool.rec (fun _ => RT) (
j130 [.b false] h122) (
@Bool.rec (fun _ => RT) (
j130 [.b false] h122) (
mc21 c h122 (fun r_19 h134 =>
j130 [.b r_19] h134)) (eqZK r_16 (.ofNat (nat_lit 0)))) (eqZK r_17 (.ofNat (nat_lit 7))))) (notK (leZ (.ofNat (nat_lit 0)) r_18))))) (
K false h103) (!(@Bool.rec (fun _ => Bool) false (@Bool.rec (fun _ => Bool) false (@Bool.rec (fun _ => Bool) false true (eqZK r_14 (.ofNat (nat_lit 0)))) (eqZK r_13 (.ofNat (nat_lit 0)))) (eqZK r_12 (.ofNat (nat_lit 0)))))) (
K false h103) (notK (eqZK r_15 (.ofNat (nat_lit 7))))) (notK (leZ (.ofNat (nat_lit 0)) a2)))) (
mc35 c r_1 r_2 n44 h43 (fun r_6 r_7 r_8 r_9 h49 =>
optB (idS 3 r_5 n44) (fun x58 =>
ldB 3 x58 h49 (fun l59 =>
ucIB .i64 l59 (fun n60 l61 =>
ucIB .i64 l61 (fun n62 l63 =>
ucIB .u8 l63 (fun n64 l65 =>
uc0B l65 (
mc36 c r_1 r_2 n60 n62 n64 h49 (fun r_10 r_11 h67 =>
optB (idS 3 r_3 n44) (fun x72 =>
ldB 3 x72 h67 (fun l73 =>
ucIB .i64 l73 (fun n74 l75 =>
ucIB .i64 l75 (fun n76 l77 =>
ucIB .u8 l77 (fun n78 l79 =>
uc0B l79 (
optB (idS 3 r_5 n44) (fun x80 =>
ldB 3 x80 h67 (fun l81 =>
ucIB .i64 l81 (fun n82 l83 =>
ucIB .i64 l83 (fun n84 l85 =>
ucIB .u8 l85 (fun n86 l87 =>
uc0B l87 (
@Bool.rec (fun _ => RT) (
@Bool.rec (fun _ => RT) (
optB (idS 3 r_5 n44) (fun x90 =>
ldB 3 x90 h67 (fun l91 =>
ucIB .i64 l91 (fun n92 l93 =>
ucIB .i64 l93 (fun n94 l95 =>
ucIB .u8 l95 (fun n96 l97 =>
uc0B l97 (
@Bool.rec (fun _ => RT) (
@Bool.rec (fun _ => RT) (
@Bool.rec (fun _ => RT) (
addK n44 (.ofNat (nat_lit 1)) (fun c_ => out64 c_ (fun n101 =>
s41 [.i n101] h67))) (
K false h67) (notK (eqZK r_10 n44))) (
K false h67) (notK (eqZK r_11 (.ofNat (nat_lit 0))))) (
K false h67) (!(@Bool.rec (fun _ => Bool) false (@Bool.rec (fun _ => Bool) false (@Bool.rec (fun _ => Bool) false true (eqZK r_8 n96)) (eqZK r_7 n94)) (eqZK r_6 n92)))))))))) (
K false h67) (notK (eqZK r_9 (.ofNat (nat_lit 0))))) (
K false h67) (!(@Bool.rec (fun _ => Bool) false (@Bool.rec (fun _ => Bool) false (@Bool.rec (fun _ => Bool) false true (eqZK n78 n86)) (eqZK n76 n84)) (eqZK n74 n82)))))))))))))))))))))))) (notK (leZ x46 n44)))))) [.i (.ofNat (nat_lit 0))] h31) (
K false h31) (notK (eqZK x38 x39))))) (
K false h31) (notK (eqZK x35 x36))))) (
K false h31) (notK (eqZK r_4 (.ofNat (nat_lit 0)))))))
noncomputable def wq7 (c : CallB) : FB := fun ls h K => unIB ls fun a0 l0 => unIB l0 fun a1 l1 => unIB l1 fun a2 l2 => unIB l2 fun a3 l3 => unIB l3 fun a4 l4 => unIB l4 fun a5 l5 => un0B l5 (b7 c a0 a1 a2 a3 a4 a5 h (fun r0 h => K [.b r0] h))
noncomputable def wr7 (c : CallB) : FB := fun ls h K => @List.rec Lf (fun _ => RT) none (fun x0 l0 _ => @Lf.rec (fun _ => RT) (fun a0 => @List.rec Lf (fun _ => RT) none (fun x1 l1 _ => @Lf.rec (fun _ => RT) (fun a1 => @List.rec Lf (fun _ => RT) none (fun x2 l2 _ => @Lf.rec (fun _ => RT) (fun a2 => @List.rec Lf (fun _ => RT) none (fun x3 l3 _ => @Lf.rec (fun _ => RT) (fun a3 => @List.rec Lf (fun _ => RT) none (fun x4 l4 _ => @Lf.rec (fun _ => RT) (fun a4 => @List.rec Lf (fun _ => RT) none (fun x5 l5 _ => @Lf.rec (fun _ => RT) (fun a5 => @List.rec Lf (fun _ => RT) (b7 c a0 a1 a2 a3 a4 a5 h (fun r0 h => K [.b r0] h)) (fun _ _ _ => none) l5) (fun _ => none) (fun _ => none) x5) l4) (fun _ => none) (fun _ => none) x4) l3) (fun _ => none) (fun _ => none) x3) l2) (fun _ => none) (fun _ => none) x2) l1) (fun _ => none) (fun _ => none) x1) l0) (fun _ => none) (fun _ => none) x0) ls
theorem ew7 : (fun c => wr7 c) = fun c => wq7 c := by kernel_rfl
noncomputable def w7 (c : CallB) : FB := memo (wr7 c)
theorem pf7 (c : CallB) (ls : List Lf) (h : HTr) (K : List Lf → HTr → RT) : f7 (BA sgTab siteTab (ct7 c)) ls h K = wq7 c ls h K :=
q_unI (fun n6 l7 =>
q_unI (fun n8 l9 =>
q_unI (fun n10 l11 =>
q_unI (fun n12 l13 =>
q_unI (fun n14 l15 =>
q_unI (fun n16 l17 =>
q_un0 (qm17 rfl (fun l18 h19 =>
q_unI (fun n20 l21 =>
q_unI (fun n22 l23 =>
q_un0 (qb37 rfl (fun r_3 r_4 h25 =>
q_unVs (q_unIs (q_un0s (qb30 rfl (fun r_5 h31 =>
q_unVs (q_un0s (q_neq (q_cond (rfl) (q_opt (fun x35 =>
q_opt (fun x36 =>
q_neq (q_cond (rfl) (q_opt (fun x38 =>
q_opt (fun x39 =>
q_neq (q_cond (rfl) (q_loop (fun s41 l42 h43 =>
q_unI (fun n44 l45 =>
q_un0 (q_opt (fun x46 =>
q_lss (q_cond (qm35 rfl (fun l48 h49 =>
q_unI (fun n50 l51 =>
q_unI (fun n52 l53 =>
q_unI (fun n54 l55 =>
q_unI (fun n56 l57 =>
q_un0 (q_opt (fun x58 =>
q_ld (fun l59 =>
q_ucI (fun n60 l61 =>
q_ucI (fun n62 l63 =>
q_ucI (fun n64 l65 =>
q_uc0 (qm36 rfl (fun l66 h67 =>
q_unI (fun n68 l69 =>
q_unI (fun n70 l71 =>
q_un0 (q_opt (fun x72 =>
q_ld (fun l73 =>
q_ucI (fun n74 l75 =>
q_ucI (fun n76 l77 =>
q_ucI (fun n78 l79 =>
q_uc0 (q_opt (fun x80 =>
q_ld (fun l81 =>
q_ucI (fun n82 l83 =>
q_ucI (fun n84 l85 =>
q_ucI (fun n86 l87 =>
q_uc0 (q_eqs (q_cond (rfl) (q_neq (q_cond (rfl) (q_opt (fun x90 =>
q_ld (fun l91 =>
q_ucI (fun n92 l93 =>
q_ucI (fun n94 l95 =>
q_ucI (fun n96 l97 =>
q_uc0 (q_eqs (q_cond (rfl) (q_neq (q_cond (rfl) (q_neq (q_cond (rfl) (q_add64 (fun n101 =>
rfl)))))))))))))))))))))))))))))))))))))))))))))) (qm35 rfl (fun l102 h103 =>
q_unI (fun n104 l105 =>
q_unI (fun n106 l107 =>
q_unI (fun n108 l109 =>
q_unI (fun n110 l111 =>
q_un0 (q_lss (q_cond (q_neq (q_cond (rfl) (q_eqs (q_cond (rfl) (qm36 rfl (fun l115 h116 =>
q_unI (fun n117 l118 =>
q_unI (fun n119 l120 =>
q_un0 (qm38 rfl (fun l121 h122 =>
q_unI (fun n123 l124 =>
q_un0 (q_lss (q_cond (q_join (fun l126 h127 =>
q_unB (fun t128 l129 =>
q_un0 (rfl))) (fun j130 =>
q_eql (q_cond (q_eql (q_cond (qm21 rfl (fun l133 h134 =>
q_unB (fun t135 l136 =>
q_un0 (rfl)))) (rfl))) (rfl)))) (q_join (fun l137 h138 =>
q_unB (fun t139 l140 =>
q_un0 (rfl))) (fun j141 =>
q_eql (q_cond (q_eql (q_cond (qm21 rfl (fun l144 h145 =>
q_unB (fun t146 l147 =>
q_un0 (rfl)))) (rfl))) (rfl))))))))))))))))) (q_opt (fun x148 =>
q_geq (q_join (fun l150 h151 =>
q_un0 (qm36 rfl (fun l152 h153 =>
q_unI (fun n154 l155 =>
q_unI (fun n156 l157 =>
q_un0 (qm38 rfl (fun l158 h159 =>
q_unI (fun n160 l161 =>
q_un0 (q_lss (q_cond (q_join (fun l163 h164 =>
q_unB (fun t165 l166 =>
q_un0 (rfl))) (fun j167 =>
q_eql (q_cond (q_eql (q_cond (qm21 rfl (fun l170 h171 =>
q_unB (fun t172 l173 =>
q_un0 (rfl)))) (rfl))) (rfl)))) (q_join (fun l174 h175 =>
q_unB (fun t176 l177 =>
q_un0 (rfl))) (fun j178 =>
q_eql (q_cond (q_eql (q_cond (qm21 rfl (fun l181 h182 =>
q_unB (fun t183 l184 =>
q_un0 (rfl)))) (rfl))) (rfl)))))))))))))) (fun j185 =>
q_cond (q_neq (q_cond (rfl) (q_eqs (q_cond (rfl) (rfl))))) (rfl))))))))))))))))))))))))))))))))))))))))))))))
theorem eb7 : (fun c => wr7 c) = fun c => f7 (BA sgTab siteTab (ct7 c)) := ew7.trans (funext fun c => funext fun ls => funext fun h => funext fun K => (pf7 c ls h K).symm)
theorem ok7 {c : CallB} (hc : Cok c) : Ent 7 (w7 c) := ent_mem (ent_of (g := fun c => wr7 c) (f := fun A => f7 A) (ct := ct7) eb7 (congrFun (congrFun e7 RT) HTr) i7 (tblF_ok hc (by
    intro p hp
    simp only [List.mem_cons, List.not_mem_nil, or_false] at hp
    rcases hp with rfl | rfl | rfl | rfl | rfl | rfl | rfl
    · exact ok17 hc
    · exact ok21 hc
    · exact ok30 hc
    · exact ok35 hc
    · exact ok36 hc
    · exact ok37 hc
    · exact ok38 hc))) rfl (by kernel_rfl)
/-- crimp/crimplaw05.SheetsKnown -/
noncomputable def ct8 (c : CallB) : CallB := tblF [(21, w21 c), (22, w22 c), (23, w23 c), (39, w39 c)] c
noncomputable def b8 (c : CallB) (h : HTr) (K : Bool → HTr → RT) : RT :=
loopB (fun s6 l7 h8 =>
unIB l7 (fun n9 l10 =>
unIB l10 (fun n11 l12 =>
un0B l12 (@Bool.rec (fun _ => RT) (
mc39 c (.ofNat (nat_lit 16)) (.ofNat (nat_lit 16)) h8 (fun r_5 r_6 h72 =>
b23 c r_5 r_6 h72 (fun r_7 r_8 h78 =>
mc39 c (.ofNat (nat_lit 1)) (.ofNat (nat_lit 256)) h78 (fun r_9 r_10 h84 =>
b23 c r_9 r_10 h84 (fun r_11 r_12 h90 =>
joinB (fun l95 h96 =>
unBB l95 (fun t97 l98 =>
un0B l98 (K t97 h96))) (fun j99 =>
@Bool.rec (fun _ => RT) (
j99 [.b false] h90) (
@Bool.rec (fun _ => RT) (
j99 [.b false] h90) (
optB (lenS r_7) (fun x102 =>
@Bool.rec (fun _ => RT) (
j99 [.b false] h90) (
optB (lenS r_11) (fun x104 =>
@Bool.rec (fun _ => RT) (
j99 [.b false] h90) (
mc39 c (.ofNat (nat_lit 4611686018427387904)) (.ofNat (nat_lit 4611686018427387904)) h90 (fun r_13 r_14 h107 =>
callB (ct8 c) 6 [.i r_13, .i r_14, .i (.negSucc (nat_lit 9223372036854775807))] h107 (fun l112 h113 =>
unBB l112 (fun t114 l115 =>
un0B l115 (@Bool.rec (fun _ => RT) (
j99 [.b false] h113) (
mc21 c h113 (fun r_15 h117 =>
j99 [.b r_15] h117)) t114))))) (eqZK x104 (.ofNat (nat_lit 1279))))) (eqZK x102 (.ofNat (nat_lit 1504))))) (eqZK r_12 (.ofNat (nat_lit 0)))) (eqZK r_8 (.ofNat (nat_lit 0))))))))) (
outU8 n11 (fun n14 =>
@Bool.rec (fun _ => RT) (quoK n11 (.ofNat (nat_lit 5)) (fun c_ => out64 c_ (fun n15 =>
outU8 n15 (fun n16 =>
callB (ct8 c) 4 [.i n14, .i n16] h8 (fun l17 h18 =>
unBB l17 (fun t19 l20 =>
un0B l20 (@Bool.rec (fun _ => RT) (
@Bool.rec (fun _ => RT) (remK n9 (.ofNat (nat_lit 120)) (fun n21 =>
subK n21 (.ofNat (nat_lit 10)) (fun c_ => out64 c_ (fun n22 =>
@Bool.rec (fun _ => RT) (remK n9 (.ofNat (nat_lit 7)) (fun n23 =>
@Bool.rec (fun _ => RT) (quoK n9 (.ofNat (nat_lit 7)) (fun c_ => out64 c_ (fun n24 =>
@Bool.rec (fun _ => RT) (remK n24 (.ofNat (nat_lit 6)) (fun n25 =>
@Bool.rec (fun _ => RT) (remK n9 (.ofNat (nat_lit 5)) (fun n26 =>
outU8 n26 (fun n27 =>
callB (ct8 c) 7 [.i n14, .i n16, .i n22, .i n23, .i n25, .i n27] h18 (fun l28 h29 =>
unBB l28 (fun t30 l31 =>
un0B l31 (@Bool.rec (fun _ => RT) (
@Bool.rec (fun _ => RT) (remK n9 (.ofNat (nat_lit 110)) (fun n32 =>
@Bool.rec (fun _ => RT) (remK n11 (.ofNat (nat_lit 4)) (fun n33 =>
outU8 n33 (fun n34 =>
callB (ct8 c) 3 [.i n14, .i n16, .i n32, .i n34] h29 (fun l35 h36 =>
unBB l35 (fun t37 l38 =>
un0B l38 (@Bool.rec (fun _ => RT) (
@Bool.rec (fun _ => RT) (remK n9 (.ofNat (nat_lit 90)) (fun n39 =>
@Bool.rec (fun _ => RT) (remK n9 (.ofNat (nat_lit 4)) (fun n40 =>
outU8 n40 (fun n41 =>
mc22 c n39 n41 h36 (fun r_1 r_2 h43 =>
callB (ct8 c) 5 [.i n14, .i n16, .i r_1, .i r_2] h43 (fun l48 h49 =>
unBB l48 (fun t50 l51 =>
un0B l51 (@Bool.rec (fun _ => RT) (
mulK n11 (.ofNat (nat_lit 13)) (fun c_ => out64 c_ (fun n52 =>
@Bool.rec (fun _ => RT) (remK n9 (.ofNat (nat_lit 20)) (fun n53 =>
subK n53 (.ofNat (nat_lit 2)) (fun c_ => out64 c_ (fun n54 =>
mc39 c n52 n54 h49 (fun r_3 r_4 h56 =>
callB (ct8 c) 6 [.i r_3, .i r_4, .i n11] h56 (fun l61 h62 =>
unBB l61 (fun t63 l64 =>
un0B l64 (@Bool.rec (fun _ => RT) (
mulK n9 (.ofNat (nat_lit 31)) (fun c_ => out64 c_ (fun n65 =>
mulK (.ofNat (nat_lit 7)) n11 (fun c_ => out64 c_ (fun n66 =>
addK n65 n66 (fun c_ => out64 c_ (fun n67 =>
addK n67 (.ofNat (nat_lit 11)) (fun c_ => out64 c_ (fun n68 =>
@Bool.rec (fun _ => RT) (remK n68 (.ofNat (nat_lit 100003)) (fun n69 =>
addK n11 (.ofNat (nat_lit 1)) (fun c_ => out64 c_ (fun n70 =>
s6 [.i n69, .i n70] h62)))) none (isZ (.ofNat (nat_lit 100003)))))))))))) (
K false h62) (!t63))))))))) none (isZ (.ofNat (nat_lit 20)))))) (
K false h49) (!t50)))))))) none (isZ (.ofNat (nat_lit 4))))) none (isZ (.ofNat (nat_lit 90)))) (
K false h36) (!t37))))))) none (isZ (.ofNat (nat_lit 4))))) none (isZ (.ofNat (nat_lit 110)))) (
K false h29) (!t30))))))) none (isZ (.ofNat (nat_lit 5))))) none (isZ (.ofNat (nat_lit 6)))))) none (isZ (.ofNat (nat_lit 7))))) none (isZ (.ofNat (nat_lit 7))))))) none (isZ (.ofNat (nat_lit 120)))) (
K false h18) (!t19)))))))) none (isZ (.ofNat (nat_lit 5))))) (notK (leZ (.ofNat (nat_lit 25)) n11)))))) [.i (.ofNat (nat_lit 1)), .i (.ofNat (nat_lit 0))] h
noncomputable def wq8 (c : CallB) : FB := fun ls h K => un0B ls (b8 c h (fun r0 h => K [.b r0] h))
noncomputable def wr8 (c : CallB) : FB := fun ls h K => @List.rec Lf (fun _ => RT) (b8 c h (fun r0 h => K [.b r0] h)) (fun _ _ _ => none) ls
theorem ew8 : (fun c => wr8 c) = fun c => wq8 c := by kernel_rfl
noncomputable def w8 (c : CallB) : FB := memo (wr8 c)
theorem pf8 (c : CallB) (ls : List Lf) (h : HTr) (K : List Lf → HTr → RT) : f8 (BA sgTab siteTab (ct8 c)) ls h K = wq8 c ls h K :=
q_un0 (q_loop (fun s6 l7 h8 =>
q_unI (fun n9 l10 =>
q_unI (fun n11 l12 =>
q_un0 (q_lss (q_cond (q_convU8 (fun n14 =>
q_quo64 (fun n15 =>
q_convU8 (fun n16 =>
q_callD (fun l17 h18 =>
q_unB (fun t19 l20 =>
q_un0 (q_cond (rfl) (q_rem (fun n21 =>
q_sub64 (fun n22 =>
q_rem (fun n23 =>
q_quo64 (fun n24 =>
q_rem (fun n25 =>
q_rem (fun n26 =>
q_convU8 (fun n27 =>
q_callD (fun l28 h29 =>
q_unB (fun t30 l31 =>
q_un0 (q_cond (rfl) (q_rem (fun n32 =>
q_rem (fun n33 =>
q_convU8 (fun n34 =>
q_callD (fun l35 h36 =>
q_unB (fun t37 l38 =>
q_un0 (q_cond (rfl) (q_rem (fun n39 =>
q_rem (fun n40 =>
q_convU8 (fun n41 =>
qm22 rfl (fun l42 h43 =>
q_unI (fun n44 l45 =>
q_unI (fun n46 l47 =>
q_un0 (q_callD (fun l48 h49 =>
q_unB (fun t50 l51 =>
q_un0 (q_cond (rfl) (q_mul64 (fun n52 =>
q_rem (fun n53 =>
q_sub64 (fun n54 =>
qm39 rfl (fun l55 h56 =>
q_unI (fun n57 l58 =>
q_unI (fun n59 l60 =>
q_un0 (q_callD (fun l61 h62 =>
q_unB (fun t63 l64 =>
q_un0 (q_cond (rfl) (q_mul64 (fun n65 =>
q_mul64 (fun n66 =>
q_add64 (fun n67 =>
q_add64 (fun n68 =>
q_rem (fun n69 =>
q_add64 (fun n70 =>
rfl)))))))))))))))))))))))))))))))))))))))))))))))))))))) (qm39 rfl (fun l71 h72 =>
q_unI (fun n73 l74 =>
q_unI (fun n75 l76 =>
q_un0 (qb23 rfl (fun r_7 r_8 h78 =>
q_unVs (q_unIs (q_un0s (qm39 rfl (fun l83 h84 =>
q_unI (fun n85 l86 =>
q_unI (fun n87 l88 =>
q_un0 (qb23 rfl (fun r_11 r_12 h90 =>
q_unVs (q_unIs (q_un0s (q_join (fun l95 h96 =>
q_unB (fun t97 l98 =>
q_un0 (rfl))) (fun j99 =>
q_eql (q_cond (q_eql (q_cond (q_opt (fun x102 =>
q_eql (q_cond (q_opt (fun x104 =>
q_eql (q_cond (qm39 rfl (fun l106 h107 =>
q_unI (fun n108 l109 =>
q_unI (fun n110 l111 =>
q_un0 (q_callD (fun l112 h113 =>
q_unB (fun t114 l115 =>
q_un0 (q_cond (qm21 rfl (fun l116 h117 =>
q_unB (fun t118 l119 =>
q_un0 (rfl)))) (rfl))))))))) (rfl)))) (rfl)))) (rfl))) (rfl))))))))))))))))))))))))))
theorem eb8 : (fun c => wr8 c) = fun c => f8 (BA sgTab siteTab (ct8 c)) := ew8.trans (funext fun c => funext fun ls => funext fun h => funext fun K => (pf8 c ls h K).symm)
theorem ok8 {c : CallB} (hc : Cok c) : Ent 8 (w8 c) := ent_mem (ent_of (g := fun c => wr8 c) (f := fun A => f8 A) (ct := ct8) eb8 (congrFun (congrFun e8 RT) HTr) i8 (tblF_ok hc (by
    intro p hp
    simp only [List.mem_cons, List.not_mem_nil, or_false] at hp
    rcases hp with rfl | rfl | rfl | rfl
    · exact ok21 hc
    · exact ok22 hc
    · exact ok23 hc
    · exact ok39 hc))) rfl (by kernel_rfl)
/-- (crimp/sheets.Sheet).all$1 -/
noncomputable def ct89 (c : CallB) : CallB := tblF [(18, w18 c), (34, w34 c)] c
noncomputable def b89 (c : CallB) (a0 : Value) (a1 : Value) (h : HTr) (K : HTr → RT) : RT :=
ldB 2 a1 h (fun l10 =>
ucIB .i64 l10 (fun n11 l12 =>
ucIB .i64 l12 (fun n13 l14 =>
uc0B l14 (
mc34 c n11 n13 h (fun r_1 h16 =>
loopB (fun s19 l20 h21 =>
unIB l20 (fun n22 l23 =>
un0B l23 (@Bool.rec (fun _ => RT) (
K h21) (
loopB (fun s25 l26 h27 =>
unIB l26 (fun n28 l29 =>
un0B l29 (@Bool.rec (fun _ => RT) (
addK n22 (.ofNat (nat_lit 1)) (fun c_ => out64 c_ (fun n51 =>
s19 [.i n51] h27))) (
ldB 2 a1 h27 (fun l31 =>
ucIB .i64 l31 (fun n32 l33 =>
ucIB .i64 l33 (fun n34 l35 =>
uc0B l35 (
mc18 c n32 n34 n22 n28 h27 (fun r_2 r_3 h37 =>
@Bool.rec (fun _ => RT) (
addK n28 (.ofNat (nat_lit 1)) (fun c_ => outU8 c_ (fun n50 =>
s25 [.i n50] h37))) (
@Bool.rec (fun _ => RT) (
addK n28 (.ofNat (nat_lit 1)) (fun c_ => outU8 c_ (fun n49 =>
s25 [.i n49] h37))) (
callvB sgTab siteTab (ct89 c) a0 [(.agg ⟨[(.int .i64 n22), (.int .u8 n28)]⟩)] [(.leaf .b)] h37 (fun l44 h45 =>
unBB l44 (fun t46 l47 =>
un0B l47 (@Bool.rec (fun _ => RT) (
addK n28 (.ofNat (nat_lit 1)) (fun c_ => outU8 c_ (fun n48 =>
s25 [.i n48] h45))) (
K h45) (!t46))))) (notK (leZ r_2 n22))) (eqZK r_3 (.ofNat (nat_lit 0))))))))) (notK (leZ (.ofNat (nat_lit 3)) n28))))) [.i (.ofNat (nat_lit 0))] h21) (notK (leZ r_1 n22))))) [.i (.ofNat (nat_lit 0))] h16)))))
noncomputable def wq89 (c : CallB) : FB := fun ls h K => unVB ls fun a0 l0 => unVB l0 fun a1 l1 => un0B l1 (b89 c a0 a1 h (fun h => K [] h))
noncomputable def wr89 (c : CallB) : FB := fun ls h K => @List.rec Lf (fun _ => RT) none (fun x0 l0 _ => @Lf.rec (fun _ => RT) (fun _ => none) (fun _ => none) (fun a0 => @List.rec Lf (fun _ => RT) none (fun x1 l1 _ => @Lf.rec (fun _ => RT) (fun _ => none) (fun _ => none) (fun a1 => @List.rec Lf (fun _ => RT) (b89 c a0 a1 h (fun h => K [] h)) (fun _ _ _ => none) l1) x1) l0) x0) ls
theorem ew89 : (fun c => wr89 c) = fun c => wq89 c := by kernel_rfl
noncomputable def w89 (c : CallB) : FB := wr89 c
theorem pf89 (c : CallB) (ls : List Lf) (h : HTr) (K : List Lf → HTr → RT) : f89 (BA sgTab siteTab (ct89 c)) ls h K = wq89 c ls h K :=
q_unV (fun x6 l7 =>
q_unV (fun x8 l9 =>
q_un0 (q_ld (fun l10 =>
q_ucI (fun n11 l12 =>
q_ucI (fun n13 l14 =>
q_uc0 (qm34 rfl (fun l15 h16 =>
q_unI (fun n17 l18 =>
q_un0 (q_loop (fun s19 l20 h21 =>
q_unI (fun n22 l23 =>
q_un0 (q_lss (q_cond (q_loop (fun s25 l26 h27 =>
q_unI (fun n28 l29 =>
q_un0 (q_lss (q_cond (q_ld (fun l31 =>
q_ucI (fun n32 l33 =>
q_ucI (fun n34 l35 =>
q_uc0 (qm18 rfl (fun l36 h37 =>
q_unI (fun n38 l39 =>
q_unI (fun n40 l41 =>
q_un0 (q_eql (q_cond (q_gtr (q_cond (q_callv (fun l44 h45 =>
q_unB (fun t46 l47 =>
q_un0 (q_cond (rfl) (q_addU8 (fun n48 =>
rfl)))))) (q_addU8 (fun n49 =>
rfl)))) (q_addU8 (fun n50 =>
rfl)))))))))))) (q_add64 (fun n51 =>
rfl))))))) (rfl)))))))))))))))
theorem eb89 : (fun c => wr89 c) = fun c => f89 (BA sgTab siteTab (ct89 c)) := ew89.trans (funext fun c => funext fun ls => funext fun h => funext fun K => (pf89 c ls h K).symm)
theorem ok89 {c : CallB} (hc : Cok c) : Ent 89 (w89 c) := (ent_of (g := fun c => wr89 c) (f := fun A => f89 A) (ct := ct89) eb89 (congrFun (congrFun e89 RT) HTr) i89 (tblF_ok hc (by
    intro p hp
    simp only [List.mem_cons, List.not_mem_nil, or_false] at hp
    rcases hp with rfl | rfl
    · exact ok18 hc
    · exact ok34 hc)))
theorem y_of {κ : Nat} {g : CallB → List Value → Nat → FB} {ct : CallB → CallB} {c : CallB} (h0 : ∀ vs l ls h K, execY (BA sgTab siteTab (ct c)) (xc 0) sgTab drN (siteTab κ) vs l ls h K = g c vs l ls h K) (hc : Cok (ct c)) : YOk cc sgTab siteTab κ (g c) := by
  intro vs l ls h K w st pd xs e hy hk
  rw [← h0] at hk
  obtain ⟨b, h', a1, a3⟩ := execY_ok (X := xc 0) (BA_ok (w := w) hc) drN_ok (hloop_at e) rfl rfl rfl rfl hy hk
  exact ⟨b, h', a1, a3⟩
noncomputable def ctY368 (c : CallB) : CallB := tblF [] c
noncomputable def bY368 (c : CallB) (vs : List Value) (lp : Nat) : FB := fun ls h K =>
ucVB vs (fun x8 l9 =>
chkB x8 (
uc0B l9 (
unIB ls (fun n10 l11 =>
unIB l11 (fun n12 l13 =>
un0B l13 (newB (.cells [(.int .i64 (.ofNat (nat_lit 0))), (.int .u8 (.ofNat (nat_lit 0)))] 2 true) h (fun m14 h15 =>
stB (.pointer (some ⟨m14, 0, none⟩)) [(.int .i64 n10), (.int .u8 n12)] h15 (fun l16 h17 =>
lp1B lp h17 (fun h18 =>
ldB 1 x8 h18 (fun l19 =>
ucVB l19 (fun x20 l21 =>
chkB x20 (
uc0B l21 (
ldB 2 (.pointer (some ⟨m14, 0, none⟩)) h18 (fun l22 =>
ucIB .i64 l22 (fun n23 l24 =>
ucIB .u8 l24 (fun n25 l26 =>
uc0B l26 (
newB (.cells [(.int .i64 n23), (.int .u8 n25)] 2 true) h18 (fun m27 h28 =>
apB siteTab cc 2 16 x20 (.slice (some ⟨m27, 0, (some 12)⟩) 1 2) h28 (fun l29 h30 =>
ucVB l29 (fun x31 l32 =>
chkB x31 (
uc0B l32 (
stB x8 [x31] h30 (fun l33 h34 =>
lp2B lp none h34 (fun h35 =>
K [.b true] h35))))))))))))))))))))))))
theorem pfY368 (c : CallB) (vs : List Value) (lp : Nat) (ls : List Lf) (h : HTr) (K : List Lf → HTr → RT) : y368 (BA sgTab siteTab (ctY368 c)) vs lp ls h K = bY368 c vs lp ls h K :=
q_ucV (fun x8 l9 =>
q_chk (q_uc0 (q_unI (fun n10 l11 =>
q_unI (fun n12 l13 =>
q_un0 (q_new (fun m14 h15 =>
q_st (fun l16 h17 =>
q_lp1 (fun h18 =>
q_ld (fun l19 =>
q_ucV (fun x20 l21 =>
q_chk (q_uc0 (q_ld (fun l22 =>
q_ucI (fun n23 l24 =>
q_ucI (fun n25 l26 =>
q_uc0 (q_new (fun m27 h28 =>
q_ap (fun l29 h30 =>
q_ucV (fun x31 l32 =>
q_chk (q_uc0 (q_st (fun l33 h34 =>
q_lp2 (fun h35 =>
rfl))))))))))))))))))))))))
theorem okY368 {c : CallB} (hc : Cok c) : YOk cc sgTab siteTab 368 (bY368 c) := y_of (g := bY368) (ct := ctY368) (fun vs l ls h K => (congrFun (congrFun (congrFun (congrFun (congrFun (congrFun (congrFun (congrFun ey368 RT) HTr) _) vs) l) ls) h) K).symm.trans (pfY368 c vs l ls h K)) (tblF_ok hc (by
    intro p hp
    cases hp))
/-- The functions by their numbers. -/
noncomputable def tabW (c : CallB) : Tr FB :=
(.node nf (.node nf (.node (w3 c) (.node (w7 c) (.node nf (.node (w31 c) .leaf .leaf) (.node (w47 c) .leaf .leaf)) (.node (w23 c) (.node (w39 c) (.node (w71 c) .leaf .leaf) .leaf) .leaf)) (.node nf (.node (w19 c) (.node (w35 c) (.node (w67 c) .leaf .leaf) .leaf) .leaf) (.node (w27 c) (.node (w43 c) .leaf .leaf) .leaf))) (.node (w5 c) (.node nf (.node (w17 c) (.node (w33 c) .leaf .leaf) (.node (w49 c) .leaf .leaf)) (.node (w25 c) (.node (w41 c) (.node (w73 c) .leaf .leaf) .leaf) (.node nf (.node (w89 c) .leaf .leaf) .leaf))) (.node nf (.node (w21 c) (.node (w37 c) (.node (w69 c) .leaf .leaf) .leaf) .leaf) (.node (w29 c) (.node (w45 c) (.node (w77 c) .leaf .leaf) .leaf) .leaf)))) (.node nf (.node (w4 c) (.node (w8 c) (.node nf (.node (w32 c) .leaf .leaf) .leaf) (.node (w24 c) (.node (w40 c) (.node (w72 c) .leaf .leaf) .leaf) .leaf)) (.node nf (.node (w20 c) (.node (w36 c) (.node (w68 c) .leaf .leaf) .leaf) .leaf) (.node (w28 c) (.node nf (.node (w76 c) .leaf .leaf) .leaf) .leaf))) (.node (w6 c) (.node nf (.node (w18 c) (.node (w34 c) .leaf .leaf) .leaf) (.node (w26 c) (.node nf (.node (w74 c) .leaf .leaf) .leaf) .leaf)) (.node nf (.node (w22 c) (.node (w38 c) (.node (w70 c) .leaf .leaf) .leaf) .leaf) (.node (w30 c) .leaf .leaf)))))
noncomputable def stepF (c : CallB) : CallB := fun ck => match ck with
  | .f f => match Nat.blt f 90 with
    | true => (pathOf f).get nf (tabW c)
    | false => nf
  | .y κ vs l => lookY [(368, bY368 c)] κ (fun vs l ls h K => execY (BA sgTab siteTab c) (xc 0) sgTab drN (siteTab κ) vs l ls h K) vs l
noncomputable def runF (n : Nat) : CallB := Nat.rec (motive := fun _ => CallB) (fun _ _ _ _ => none) (fun _ c => stepF c) n
noncomputable def isT (l : List Lf) (_ : HTr) : RT := match l with | [.b t] => ans t | _ => none
theorem tw_no {k : Nat} (h1 : (fun c => (pathOf k).get nf (tabW c)) = fun _ => nf) (c : CallB) : Ent k ((pathOf k).get nf (tabW c)) := by
  intro ls h K w hls hk
  rw [congrFun h1 c] at hk
  cases hk
theorem tw_is {k : Nat} {g : CallB → FB} (h1 : (fun c => (pathOf k).get nf (tabW c)) = g) {c : CallB} (h : Ent k (g c)) : Ent k ((pathOf k).get nf (tabW c)) := by
  rw [congrFun h1 c]; exact h
theorem tabW_ok {c : CallB} (hc : Cok c) : ∀ f, Nat.blt f 90 = true → Ent f ((pathOf f).get nf (tabW c))
  | 0, _ => tw_no (by kernel_rfl) c
  | 1, _ => tw_no (by kernel_rfl) c
  | 2, _ => tw_no (by kernel_rfl) c
  | 3, _ => tw_is (g := fun c => w3 c) (by kernel_rfl) (ok3 hc)
  | 4, _ => tw_is (g := fun c => w4 c) (by kernel_rfl) (ok4 hc)
  | 5, _ => tw_is (g := fun c => w5 c) (by kernel_rfl) (ok5 hc)
  | 6, _ => tw_is (g := fun c => w6 c) (by kernel_rfl) (ok6 hc)
  | 7, _ => tw_is (g := fun c => w7 c) (by kernel_rfl) (ok7 hc)
  | 8, _ => tw_is (g := fun c => w8 c) (by kernel_rfl) (ok8 hc)
  | 9, _ => tw_no (by kernel_rfl) c
  | 10, _ => tw_no (by kernel_rfl) c
  | 11, _ => tw_no (by kernel_rfl) c
  | 12, _ => tw_no (by kernel_rfl) c
  | 13, _ => tw_no (by kernel_rfl) c
  | 14, _ => tw_no (by kernel_rfl) c
  | 15, _ => tw_no (by kernel_rfl) c
  | 16, _ => tw_no (by kernel_rfl) c
  | 17, _ => tw_is (g := fun c => w17 c) (by kernel_rfl) (ok17 hc)
  | 18, _ => tw_is (g := fun c => w18 c) (by kernel_rfl) (ok18 hc)
  | 19, _ => tw_is (g := fun c => w19 c) (by kernel_rfl) (ok19 hc)
  | 20, _ => tw_is (g := fun c => w20 c) (by kernel_rfl) (ok20 hc)
  | 21, _ => tw_is (g := fun c => w21 c) (by kernel_rfl) (ok21 hc)
  | 22, _ => tw_is (g := fun c => w22 c) (by kernel_rfl) (ok22 hc)
  | 23, _ => tw_is (g := fun c => w23 c) (by kernel_rfl) (ok23 hc)
  | 24, _ => tw_is (g := fun c => w24 c) (by kernel_rfl) (ok24 hc)
  | 25, _ => tw_is (g := fun c => w25 c) (by kernel_rfl) (ok25 hc)
  | 26, _ => tw_is (g := fun c => w26 c) (by kernel_rfl) (ok26 hc)
  | 27, _ => tw_is (g := fun c => w27 c) (by kernel_rfl) (ok27 hc)
  | 28, _ => tw_is (g := fun c => w28 c) (by kernel_rfl) (ok28 hc)
  | 29, _ => tw_is (g := fun c => w29 c) (by kernel_rfl) (ok29 hc)
  | 30, _ => tw_is (g := fun c => w30 c) (by kernel_rfl) (ok30 hc)
  | 31, _ => tw_is (g := fun c => w31 c) (by kernel_rfl) (ok31 hc)
  | 32, _ => tw_is (g := fun c => w32 c) (by kernel_rfl) (ok32 hc)
  | 33, _ => tw_is (g := fun c => w33 c) (by kernel_rfl) (ok33 hc)
  | 34, _ => tw_is (g := fun c => w34 c) (by kernel_rfl) (ok34 hc)
  | 35, _ => tw_is (g := fun c => w35 c) (by kernel_rfl) (ok35 hc)
  | 36, _ => tw_is (g := fun c => w36 c) (by kernel_rfl) (ok36 hc)
  | 37, _ => tw_is (g := fun c => w37 c) (by kernel_rfl) (ok37 hc)
  | 38, _ => tw_is (g := fun c => w38 c) (by kernel_rfl) (ok38 hc)
  | 39, _ => tw_is (g := fun c => w39 c) (by kernel_rfl) (ok39 hc)
  | 40, _ => tw_is (g := fun c => w40 c) (by kernel_rfl) (ok40 hc)
  | 41, _ => tw_is (g := fun c => w41 c) (by kernel_rfl) (ok41 hc)
  | 42, _ => tw_no (by kernel_rfl) c
  | 43, _ => tw_is (g := fun c => w43 c) (by kernel_rfl) (ok43 hc)
  | 44, _ => tw_no (by kernel_rfl) c
  | 45, _ => tw_is (g := fun c => w45 c) (by kernel_rfl) (ok45 hc)
  | 46, _ => tw_no (by kernel_rfl) c
  | 47, _ => tw_is (g := fun c => w47 c) (by kernel_rfl) (ok47 hc)
  | 48, _ => tw_no (by kernel_rfl) c
  | 49, _ => tw_is (g := fun c => w49 c) (by kernel_rfl) (ok49 hc)
  | 50, _ => tw_no (by kernel_rfl) c
  | 51, _ => tw_no (by kernel_rfl) c
  | 52, _ => tw_no (by kernel_rfl) c
  | 53, _ => tw_no (by kernel_rfl) c
  | 54, _ => tw_no (by kernel_rfl) c
  | 55, _ => tw_no (by kernel_rfl) c
  | 56, _ => tw_no (by kernel_rfl) c
  | 57, _ => tw_no (by kernel_rfl) c
  | 58, _ => tw_no (by kernel_rfl) c
  | 59, _ => tw_no (by kernel_rfl) c
  | 60, _ => tw_no (by kernel_rfl) c
  | 61, _ => tw_no (by kernel_rfl) c
  | 62, _ => tw_no (by kernel_rfl) c
  | 63, _ => tw_no (by kernel_rfl) c
  | 64, _ => tw_no (by kernel_rfl) c
  | 65, _ => tw_no (by kernel_rfl) c
  | 66, _ => tw_no (by kernel_rfl) c
  | 67, _ => tw_is (g := fun c => w67 c) (by kernel_rfl) (ok67 hc)
  | 68, _ => tw_is (g := fun c => w68 c) (by kernel_rfl) (ok68 hc)
  | 69, _ => tw_is (g := fun c => w69 c) (by kernel_rfl) (ok69 hc)
  | 70, _ => tw_is (g := fun c => w70 c) (by kernel_rfl) (ok70 hc)
  | 71, _ => tw_is (g := fun c => w71 c) (by kernel_rfl) (ok71 hc)
  | 72, _ => tw_is (g := fun c => w72 c) (by kernel_rfl) (ok72 hc)
  | 73, _ => tw_is (g := fun c => w73 c) (by kernel_rfl) (ok73 hc)
  | 74, _ => tw_is (g := fun c => w74 c) (by kernel_rfl) (ok74 hc)
  | 75, _ => tw_no (by kernel_rfl) c
  | 76, _ => tw_is (g := fun c => w76 c) (by kernel_rfl) (ok76 hc)
  | 77, _ => tw_is (g := fun c => w77 c) (by kernel_rfl) (ok77 hc)
  | 78, _ => tw_no (by kernel_rfl) c
  | 79, _ => tw_no (by kernel_rfl) c
  | 80, _ => tw_no (by kernel_rfl) c
  | 81, _ => tw_no (by kernel_rfl) c
  | 82, _ => tw_no (by kernel_rfl) c
  | 83, _ => tw_no (by kernel_rfl) c
  | 84, _ => tw_no (by kernel_rfl) c
  | 85, _ => tw_no (by kernel_rfl) c
  | 86, _ => tw_no (by kernel_rfl) c
  | 87, _ => tw_no (by kernel_rfl) c
  | 88, _ => tw_no (by kernel_rfl) c
  | 89, _ => tw_is (g := fun c => w89 c) (by kernel_rfl) (ok89 hc)
  | n + 90, h => by rw [Nat.blt_eq] at h; omega
theorem stepF_ok {c : CallB} (hc : Cok c) : Cok (stepF c) := by
  refine ⟨fun f ls h K w hls hk => ?_, fun κ vs l ls h K w st pd xs e hy hk => ?_⟩
  · have hk : (match Nat.blt f 90 with | true => (pathOf f).get nf (tabW c) | false => nf) ls h K = some w := hk
    cases e : Nat.blt f 90 with
    | true => rw [e] at hk; exact tabW_ok hc f e ls h K w hls hk
    | false => rw [e] at hk; cases hk
  · have hd : YOk cc sgTab siteTab κ (fun vs l ls h K => execY (BA sgTab siteTab c) (xc 0) sgTab drN (siteTab κ) vs l ls h K) := y_of (g := fun c vs l ls h K => execY (BA sgTab siteTab c) (xc 0) sgTab drN (siteTab κ) vs l ls h K) (ct := fun c => c) (fun _ _ _ _ _ => rfl) hc
    refine lookY_ok hd (l := [(368, bY368 c)]) (fun p hp => ?_) vs l ls h K w st pd xs e hy hk
    simp only [List.mem_cons, List.not_mem_nil, or_false] at hp
    subst hp
    exact okY368 hc
theorem runF_ok : ∀ n, Cok (runF n)
  | 0 => ⟨fun _ _ _ _ _ _ h => by (cases h), fun _ _ _ _ _ _ _ _ _ _ _ _ h => by (cases h)⟩
  | n + 1 => stepF_ok (runF_ok n)
/-- What a run of a function of numbers answers is known. -/
theorem known_of {g n : Nat} {ls : List Lf} {sg : Sig} (hs : sgTab g = some sg) (hp : sg.plain = true) (hr : sg.rs = [lb]) (hg : goodLs ls = true) (h : runF n (.f g) ls .empty isT = yes) : ∀ H, CallL cc sgTab g ls H [.b true] H := by
  obtain ⟨rs, h', a1, a2⟩ := (runF_ok n).f g ls .empty isT [] (goodLs_ok hg) h
  have : rs = [.b true] := by
    match rs, a2 with
    | [.b true], _ => rfl
    | [.b false], hk => exact nomatch (show (none : RT) = yes from hk)
  subst this
  exact plain_ok g sg ls _ _ hs hp a1
/-- A closed function that a run shows to say true, with what is known. -/
theorem closed_known {g n : Nat} {l : List KN1} (hl : AllK cc sgTab l) (hs : sgTab g = some ⟨[], [lb]⟩) {W : CallB → FB} (hW : ∀ {c : CallB}, Cok c → Ent g (W c)) (h : W (runKn l (runF n)) [] .empty isT = yes) : ∀ H, CallL cc sgTab g [] H [.b true] H := by
  obtain ⟨rs, h', a1, a2⟩ := hW (runKn_ok (runF_ok n) hl) [] .empty isT [] (fun _ h => by cases h) h
  have : rs = [.b true] := by
    match rs, a2 with
    | [.b true], _ => rfl
    | [.b false], hk => exact nomatch (show (none : RT) = yes from hk)
  subst this
  exact plain_ok g _ [] _ _ hs (by rfl) a1
end Go.Am


/-
  THE FUNCTIONS OF THE PROGRAM ARE WHAT IS TOLD OF THEM, BY PROGRAM.
-/
import Derived.Test.YtdngmncaohgacaaDoorGf
import Derived.Test.YtdngmncaohgacaaDoorSx11
set_option linter.unusedSectionVars false
set_option linter.unusedSimpArgs false
set_option linter.unusedVariables false
set_option linter.constructorNameAsVariable false
set_option maxRecDepth 100000
namespace Go.Am
open Sx Go.Proofs

def neuT : List (Nat × Nat) := [(22, 2), (66, 3)]
def lookN (l : List (Nat × Nat)) (f : Nat) : Option Nat := match l with
  | [] => none
  | p :: l => match Nat.beq p.1 f with
    | true => some p.2
    | false => lookN l f
def neuN (f : FuncId) : Option Nat := lookN neuT f
theorem lookN_mem {f n : Nat} : ∀ {l : List (Nat × Nat)}, lookN l f = some n → (f, n) ∈ l
  | p :: l, h => by
    unfold lookN at h
    split at h
    · rename_i e
      cases h
      have := Nat.eq_of_beq_eq_true e
      subst this
      exact List.mem_cons_self
    · exact List.mem_cons_of_mem _ (lookN_mem h)
theorem neuT_ok : (neuT.all fun p => neuF neuN cc p.1 p.2) = true := by kernel_rfl
theorem neuN_ok (f n : Nat) (h : neuN f = some n) : neuF neuN cc f n = true := List.all_eq_true.1 neuT_ok (f, n) (lookN_mem h)
def drN (pts : List Nat) (ops : Array Oper) : Bool := regOk neuN pts ops

noncomputable def n3 : Fn1 := fn1 cc.P 3 ((sgTab 3).getD ⟨[], []⟩) an3
noncomputable def n4 : Fn1 := fn1 cc.P 4 ((sgTab 4).getD ⟨[], []⟩) an4
noncomputable def n5 : Fn1 := fn1 cc.P 5 ((sgTab 5).getD ⟨[], []⟩) an5
noncomputable def n6 : Fn1 := fn1 cc.P 6 ((sgTab 6).getD ⟨[], []⟩) an6
noncomputable def n7 : Fn1 := fn1 cc.P 7 ((sgTab 7).getD ⟨[], []⟩) an7
noncomputable def n8 : Fn1 := fn1 cc.P 8 ((sgTab 8).getD ⟨[], []⟩) an8
noncomputable def n9 : Fn1 := fn1 cc.P 9 ((sgTab 9).getD ⟨[], []⟩) an9
noncomputable def n10 : Fn1 := fn1 cc.P 10 ((sgTab 10).getD ⟨[], []⟩) an10
noncomputable def n11 : Fn1 := fn1 cc.P 11 ((sgTab 11).getD ⟨[], []⟩) an11
noncomputable def n12 : Fn1 := fn1 cc.P 12 ((sgTab 12).getD ⟨[], []⟩) an12
noncomputable def n13 : Fn1 := fn1 cc.P 13 ((sgTab 13).getD ⟨[], []⟩) an13
noncomputable def n14 : Fn1 := fn1 cc.P 14 ((sgTab 14).getD ⟨[], []⟩) an14
noncomputable def n15 : Fn1 := fn1 cc.P 15 ((sgTab 15).getD ⟨[], []⟩) an15
noncomputable def n16 : Fn1 := fn1 cc.P 16 ((sgTab 16).getD ⟨[], []⟩) an16
noncomputable def n17 : Fn1 := fn1 cc.P 17 ((sgTab 17).getD ⟨[], []⟩) an17
noncomputable def n18 : Fn1 := fn1 cc.P 18 ((sgTab 18).getD ⟨[], []⟩) an18
noncomputable def n19 : Fn1 := fn1 cc.P 19 ((sgTab 19).getD ⟨[], []⟩) an19
noncomputable def n20 : Fn1 := fn1 cc.P 20 ((sgTab 20).getD ⟨[], []⟩) an20
noncomputable def n21 : Fn1 := fn1 cc.P 21 ((sgTab 21).getD ⟨[], []⟩) an21
noncomputable def n22 : Fn1 := fn1 cc.P 22 ((sgTab 22).getD ⟨[], []⟩) an22
noncomputable def n23 : Fn1 := fn1 cc.P 23 ((sgTab 23).getD ⟨[], []⟩) an23
noncomputable def n24 : Fn1 := fn1 cc.P 24 ((sgTab 24).getD ⟨[], []⟩) an24
noncomputable def n25 : Fn1 := fn1 cc.P 25 ((sgTab 25).getD ⟨[], []⟩) an25
noncomputable def n26 : Fn1 := fn1 cc.P 26 ((sgTab 26).getD ⟨[], []⟩) an26
noncomputable def n27 : Fn1 := fn1 cc.P 27 ((sgTab 27).getD ⟨[], []⟩) an27
noncomputable def n28 : Fn1 := fn1 cc.P 28 ((sgTab 28).getD ⟨[], []⟩) an28
noncomputable def n29 : Fn1 := fn1 cc.P 29 ((sgTab 29).getD ⟨[], []⟩) an29
noncomputable def n30 : Fn1 := fn1 cc.P 30 ((sgTab 30).getD ⟨[], []⟩) an30
noncomputable def n31 : Fn1 := fn1 cc.P 31 ((sgTab 31).getD ⟨[], []⟩) an31
noncomputable def n32 : Fn1 := fn1 cc.P 32 ((sgTab 32).getD ⟨[], []⟩) an32
noncomputable def n33 : Fn1 := fn1 cc.P 33 ((sgTab 33).getD ⟨[], []⟩) an33
noncomputable def n34 : Fn1 := fn1 cc.P 34 ((sgTab 34).getD ⟨[], []⟩) an34
noncomputable def n35 : Fn1 := fn1 cc.P 35 ((sgTab 35).getD ⟨[], []⟩) an35
noncomputable def n36 : Fn1 := fn1 cc.P 36 ((sgTab 36).getD ⟨[], []⟩) an36
noncomputable def n37 : Fn1 := fn1 cc.P 37 ((sgTab 37).getD ⟨[], []⟩) an37
noncomputable def n38 : Fn1 := fn1 cc.P 38 ((sgTab 38).getD ⟨[], []⟩) an38
noncomputable def n39 : Fn1 := fn1 cc.P 39 ((sgTab 39).getD ⟨[], []⟩) an39
noncomputable def n40 : Fn1 := fn1 cc.P 40 ((sgTab 40).getD ⟨[], []⟩) an40
noncomputable def n41 : Fn1 := fn1 cc.P 41 ((sgTab 41).getD ⟨[], []⟩) an41
noncomputable def n42 : Fn1 := fn1 cc.P 42 ((sgTab 42).getD ⟨[], []⟩) an42
noncomputable def n43 : Fn1 := fn1 cc.P 43 ((sgTab 43).getD ⟨[], []⟩) an43
noncomputable def n44 : Fn1 := fn1 cc.P 44 ((sgTab 44).getD ⟨[], []⟩) an44
noncomputable def n45 : Fn1 := fn1 cc.P 45 ((sgTab 45).getD ⟨[], []⟩) an45
noncomputable def n46 : Fn1 := fn1 cc.P 46 ((sgTab 46).getD ⟨[], []⟩) an46
noncomputable def n47 : Fn1 := fn1 cc.P 47 ((sgTab 47).getD ⟨[], []⟩) an47
noncomputable def n48 : Fn1 := fn1 cc.P 48 ((sgTab 48).getD ⟨[], []⟩) an48
noncomputable def n49 : Fn1 := fn1 cc.P 49 ((sgTab 49).getD ⟨[], []⟩) an49
noncomputable def n50 : Fn1 := fn1 cc.P 50 ((sgTab 50).getD ⟨[], []⟩) an50
noncomputable def n51 : Fn1 := fn1 cc.P 51 ((sgTab 51).getD ⟨[], []⟩) an51
noncomputable def n52 : Fn1 := fn1 cc.P 52 ((sgTab 52).getD ⟨[], []⟩) an52
noncomputable def n53 : Fn1 := fn1 cc.P 53 ((sgTab 53).getD ⟨[], []⟩) an53
noncomputable def n54 : Fn1 := fn1 cc.P 54 ((sgTab 54).getD ⟨[], []⟩) an54
noncomputable def n55 : Fn1 := fn1 cc.P 55 ((sgTab 55).getD ⟨[], []⟩) an55
noncomputable def n56 : Fn1 := fn1 cc.P 56 ((sgTab 56).getD ⟨[], []⟩) an56
noncomputable def n57 : Fn1 := fn1 cc.P 57 ((sgTab 57).getD ⟨[], []⟩) an57
noncomputable def n58 : Fn1 := fn1 cc.P 58 ((sgTab 58).getD ⟨[], []⟩) an58
noncomputable def n59 : Fn1 := fn1 cc.P 59 ((sgTab 59).getD ⟨[], []⟩) an59
noncomputable def n60 : Fn1 := fn1 cc.P 60 ((sgTab 60).getD ⟨[], []⟩) an60
noncomputable def n61 : Fn1 := fn1 cc.P 61 ((sgTab 61).getD ⟨[], []⟩) an61
noncomputable def n62 : Fn1 := fn1 cc.P 62 ((sgTab 62).getD ⟨[], []⟩) an62
noncomputable def n63 : Fn1 := fn1 cc.P 63 ((sgTab 63).getD ⟨[], []⟩) an63
noncomputable def n64 : Fn1 := fn1 cc.P 64 ((sgTab 64).getD ⟨[], []⟩) an64
noncomputable def n65 : Fn1 := fn1 cc.P 65 ((sgTab 65).getD ⟨[], []⟩) an65
noncomputable def n66 : Fn1 := fn1 cc.P 66 ((sgTab 66).getD ⟨[], []⟩) an66
noncomputable def n67 : Fn1 := fn1 cc.P 67 ((sgTab 67).getD ⟨[], []⟩) an67
noncomputable def n68 : Fn1 := fn1 cc.P 68 ((sgTab 68).getD ⟨[], []⟩) an68
noncomputable def n69 : Fn1 := fn1 cc.P 69 ((sgTab 69).getD ⟨[], []⟩) an69
noncomputable def n70 : Fn1 := fn1 cc.P 70 ((sgTab 70).getD ⟨[], []⟩) an70
noncomputable def n71 : Fn1 := fn1 cc.P 71 ((sgTab 71).getD ⟨[], []⟩) an71
noncomputable def n72 : Fn1 := fn1 cc.P 72 ((sgTab 72).getD ⟨[], []⟩) an72
noncomputable def n73 : Fn1 := fn1 cc.P 73 ((sgTab 73).getD ⟨[], []⟩) an73
noncomputable def n74 : Fn1 := fn1 cc.P 74 ((sgTab 74).getD ⟨[], []⟩) an74
noncomputable def n75 : Fn1 := fn1 cc.P 75 ((sgTab 75).getD ⟨[], []⟩) an75
noncomputable def n76 : Fn1 := fn1 cc.P 76 ((sgTab 76).getD ⟨[], []⟩) an76
noncomputable def n77 : Fn1 := fn1 cc.P 77 ((sgTab 77).getD ⟨[], []⟩) an77
noncomputable def n78 : Fn1 := fn1 cc.P 78 ((sgTab 78).getD ⟨[], []⟩) an78
noncomputable def n79 : Fn1 := fn1 cc.P 79 ((sgTab 79).getD ⟨[], []⟩) an79
noncomputable def n80 : Fn1 := fn1 cc.P 80 ((sgTab 80).getD ⟨[], []⟩) an80
noncomputable def n81 : Fn1 := fn1 cc.P 81 ((sgTab 81).getD ⟨[], []⟩) an81
noncomputable def n82 : Fn1 := fn1 cc.P 82 ((sgTab 82).getD ⟨[], []⟩) an82
noncomputable def n83 : Fn1 := fn1 cc.P 83 ((sgTab 83).getD ⟨[], []⟩) an83
noncomputable def n84 : Fn1 := fn1 cc.P 84 ((sgTab 84).getD ⟨[], []⟩) an84
noncomputable def n85 : Fn1 := fn1 cc.P 85 ((sgTab 85).getD ⟨[], []⟩) an85
noncomputable def n86 : Fn1 := fn1 cc.P 86 ((sgTab 86).getD ⟨[], []⟩) an86
noncomputable def n87 : Fn1 := fn1 cc.P 87 ((sgTab 87).getD ⟨[], []⟩) an87
noncomputable def n88 : Fn1 := fn1 cc.P 88 ((sgTab 88).getD ⟨[], []⟩) an88
noncomputable def n89 : Fn1 := fn1 cc.P 89 ((sgTab 89).getD ⟨[], []⟩) an89
noncomputable def n90 : Fn1 := fn1 cc.P 90 ((sgTab 90).getD ⟨[], []⟩) an90
noncomputable def n91 : Fn1 := fn1 cc.P 91 ((sgTab 91).getD ⟨[], []⟩) an91
noncomputable def n92 : Fn1 := fn1 cc.P 92 ((sgTab 92).getD ⟨[], []⟩) an92
noncomputable def n93 : Fn1 := fn1 cc.P 93 ((sgTab 93).getD ⟨[], []⟩) an93
noncomputable def n94 : Fn1 := fn1 cc.P 94 ((sgTab 94).getD ⟨[], []⟩) an94
noncomputable def n95 : Fn1 := fn1 cc.P 95 ((sgTab 95).getD ⟨[], []⟩) an95
noncomputable def n96 : Fn1 := fn1 cc.P 96 ((sgTab 96).getD ⟨[], []⟩) an96
noncomputable def n97 : Fn1 := fn1 cc.P 97 ((sgTab 97).getD ⟨[], []⟩) an97
noncomputable def n98 : Fn1 := fn1 cc.P 98 ((sgTab 98).getD ⟨[], []⟩) an98
noncomputable def n99 : Fn1 := fn1 cc.P 99 ((sgTab 99).getD ⟨[], []⟩) an99
noncomputable def n100 : Fn1 := fn1 cc.P 100 ((sgTab 100).getD ⟨[], []⟩) an100
noncomputable def n101 : Fn1 := fn1 cc.P 101 ((sgTab 101).getD ⟨[], []⟩) an101
noncomputable def n102 : Fn1 := fn1 cc.P 102 ((sgTab 102).getD ⟨[], []⟩) an102
noncomputable def n103 : Fn1 := fn1 cc.P 103 ((sgTab 103).getD ⟨[], []⟩) an103
noncomputable def n104 : Fn1 := fn1 cc.P 104 ((sgTab 104).getD ⟨[], []⟩) an104
noncomputable def n105 : Fn1 := fn1 cc.P 105 ((sgTab 105).getD ⟨[], []⟩) an105
noncomputable def n106 : Fn1 := fn1 cc.P 106 ((sgTab 106).getD ⟨[], []⟩) an106
noncomputable def n107 : Fn1 := fn1 cc.P 107 ((sgTab 107).getD ⟨[], []⟩) an107
theorem i3 : FnIs (xc 3) sgTab 3 n3 := ⟨⟨Tryd.f3, Tryd.func3, by kernel_rfl, by kernel_rfl, by kernel_rfl, by kernel_rfl⟩, rfl, by kernel_rfl⟩
theorem e3 : @f3 = fun R HT A ls h K => execF A (xc 3) sgTab drN n3 ls h K := by kernel_rfl
theorem i4 : FnIs (xc 4) sgTab 4 n4 := ⟨⟨Tryd.f4, Tryd.func4, by kernel_rfl, by kernel_rfl, by kernel_rfl, by kernel_rfl⟩, rfl, by kernel_rfl⟩
theorem i5 : FnIs (xc 5) sgTab 5 n5 := ⟨⟨Tryd.f5, Tryd.func5, by kernel_rfl, by kernel_rfl, by kernel_rfl, by kernel_rfl⟩, rfl, by kernel_rfl⟩
theorem e5 : @f5 = fun R HT A ls h K => execF A (xc 5) sgTab drN n5 ls h K := by kernel_rfl
theorem i6 : FnIs (xc 6) sgTab 6 n6 := ⟨⟨Tryd.f6, Tryd.func6, by kernel_rfl, by kernel_rfl, by kernel_rfl, by kernel_rfl⟩, rfl, by kernel_rfl⟩
theorem e6 : @f6 = fun R HT A ls h K => execF A (xc 6) sgTab drN n6 ls h K := by kernel_rfl
theorem i7 : FnIs (xc 7) sgTab 7 n7 := ⟨⟨Tryd.f7, Tryd.func7, by kernel_rfl, by kernel_rfl, by kernel_rfl, by kernel_rfl⟩, rfl, by kernel_rfl⟩
theorem e7 : @f7 = fun R HT A ls h K => execF A (xc 7) sgTab drN n7 ls h K := by kernel_rfl
theorem i8 : FnIs (xc 8) sgTab 8 n8 := ⟨⟨Tryd.f8, Tryd.func8, by kernel_rfl, by kernel_rfl, by kernel_rfl, by kernel_rfl⟩, rfl, by kernel_rfl⟩
theorem e8 : @f8 = fun R HT A ls h K => execF A (xc 8) sgTab drN n8 ls h K := by kernel_rfl
theorem i9 : FnIs (xc 9) sgTab 9 n9 := ⟨⟨Tryd.f9, Tryd.func9, by kernel_rfl, by kernel_rfl, by kernel_rfl, by kernel_rfl⟩, rfl, by kernel_rfl⟩
theorem e9 : @f9 = fun R HT A ls h K => execF A (xc 9) sgTab drN n9 ls h K := by kernel_rfl
theorem i10 : FnIs (xc 10) sgTab 10 n10 := ⟨⟨Tryd.f10, Tryd.func10, by kernel_rfl, by kernel_rfl, by kernel_rfl, by kernel_rfl⟩, rfl, by kernel_rfl⟩
theorem e10 : @f10 = fun R HT A ls h K => execF A (xc 10) sgTab drN n10 ls h K := by kernel_rfl
theorem i11 : FnIs (xc 11) sgTab 11 n11 := ⟨⟨Tryd.f11, Tryd.func11, by kernel_rfl, by kernel_rfl, by kernel_rfl, by kernel_rfl⟩, rfl, by kernel_rfl⟩
theorem e11 : @f11 = fun R HT A ls h K => execF A (xc 11) sgTab drN n11 ls h K := by kernel_rfl
theorem i12 : FnIs (xc 12) sgTab 12 n12 := ⟨⟨Tryd.f12, Tryd.func12, by kernel_rfl, by kernel_rfl, by kernel_rfl, by kernel_rfl⟩, rfl, by kernel_rfl⟩
theorem e12 : @f12 = fun R HT A ls h K => execF A (xc 12) sgTab drN n12 ls h K := by kernel_rfl
theorem i13 : FnIs (xc 13) sgTab 13 n13 := ⟨⟨Tryd.f13, Tryd.func13, by kernel_rfl, by kernel_rfl, by kernel_rfl, by kernel_rfl⟩, rfl, by kernel_rfl⟩
theorem e13 : @f13 = fun R HT A ls h K => execF A (xc 13) sgTab drN n13 ls h K := by kernel_rfl
theorem i14 : FnIs (xc 14) sgTab 14 n14 := ⟨⟨Tryd.f14, Tryd.func14, by kernel_rfl, by kernel_rfl, by kernel_rfl, by kernel_rfl⟩, rfl, by kernel_rfl⟩
theorem e14 : @f14 = fun R HT A ls h K => execF A (xc 14) sgTab drN n14 ls h K := by kernel_rfl
theorem i15 : FnIs (xc 15) sgTab 15 n15 := ⟨⟨Tryd.f15, Tryd.func15, by kernel_rfl, by kernel_rfl, by kernel_rfl, by kernel_rfl⟩, rfl, by kernel_rfl⟩
theorem e15 : @f15 = fun R HT A ls h K => execF A (xc 15) sgTab drN n15 ls h K := by kernel_rfl
theorem i16 : FnIs (xc 16) sgTab 16 n16 := ⟨⟨Tryd.f16, Tryd.func16, by kernel_rfl, by kernel_rfl, by kernel_rfl, by kernel_rfl⟩, rfl, by kernel_rfl⟩
theorem e16 : @f16 = fun R HT A ls h K => execF A (xc 16) sgTab drN n16 ls h K := by kernel_rfl
theorem i17 : FnIs (xc 17) sgTab 17 n17 := ⟨⟨Tryd.f17, Tryd.func17, by kernel_rfl, by kernel_rfl, by kernel_rfl, by kernel_rfl⟩, rfl, by kernel_rfl⟩
theorem e17 : @f17 = fun R HT A ls h K => execF A (xc 17) sgTab drN n17 ls h K := by kernel_rfl
theorem i18 : FnIs (xc 18) sgTab 18 n18 := ⟨⟨Tryd.f18, Tryd.func18, by kernel_rfl, by kernel_rfl, by kernel_rfl, by kernel_rfl⟩, rfl, by kernel_rfl⟩
theorem e18 : @f18 = fun R HT A ls h K => execF A (xc 18) sgTab drN n18 ls h K := by kernel_rfl
theorem i19 : FnIs (xc 19) sgTab 19 n19 := ⟨⟨Tryd.f19, Tryd.func19, by kernel_rfl, by kernel_rfl, by kernel_rfl, by kernel_rfl⟩, rfl, by kernel_rfl⟩
theorem e19 : @f19 = fun R HT A ls h K => execF A (xc 19) sgTab drN n19 ls h K := by kernel_rfl
theorem i20 : FnIs (xc 20) sgTab 20 n20 := ⟨⟨Tryd.f20, Tryd.func20, by kernel_rfl, by kernel_rfl, by kernel_rfl, by kernel_rfl⟩, rfl, by kernel_rfl⟩
theorem e20 : @f20 = fun R HT A ls h K => execF A (xc 20) sgTab drN n20 ls h K := by kernel_rfl
theorem i21 : FnIs (xc 21) sgTab 21 n21 := ⟨⟨Tryd.f21, Tryd.func21, by kernel_rfl, by kernel_rfl, by kernel_rfl, by kernel_rfl⟩, rfl, by kernel_rfl⟩
theorem e21 : @f21 = fun R HT A ls h K => execF A (xc 21) sgTab drN n21 ls h K := by kernel_rfl
theorem i22 : FnIs (xc 22) sgTab 22 n22 := ⟨⟨Tryd.f22, Tryd.func22, by kernel_rfl, by kernel_rfl, by kernel_rfl, by kernel_rfl⟩, rfl, by kernel_rfl⟩
theorem e22 : @f22 = fun R HT A ls h K => execF A (xc 22) sgTab drN n22 ls h K := by kernel_rfl
theorem i23 : FnIs (xc 23) sgTab 23 n23 := ⟨⟨Tryd.f23, Tryd.func23, by kernel_rfl, by kernel_rfl, by kernel_rfl, by kernel_rfl⟩, rfl, by kernel_rfl⟩
theorem e23 : @f23 = fun R HT A ls h K => execF A (xc 23) sgTab drN n23 ls h K := by kernel_rfl
theorem i24 : FnIs (xc 24) sgTab 24 n24 := ⟨⟨Tryd.f24, Tryd.func24, by kernel_rfl, by kernel_rfl, by kernel_rfl, by kernel_rfl⟩, rfl, by kernel_rfl⟩
theorem e24 : @f24 = fun R HT A ls h K => execF A (xc 24) sgTab drN n24 ls h K := by kernel_rfl
theorem i25 : FnIs (xc 25) sgTab 25 n25 := ⟨⟨Tryd.f25, Tryd.func25, by kernel_rfl, by kernel_rfl, by kernel_rfl, by kernel_rfl⟩, rfl, by kernel_rfl⟩
theorem e25 : @f25 = fun R HT A ls h K => execF A (xc 25) sgTab drN n25 ls h K := by kernel_rfl
theorem i26 : FnIs (xc 26) sgTab 26 n26 := ⟨⟨Tryd.f26, Tryd.func26, by kernel_rfl, by kernel_rfl, by kernel_rfl, by kernel_rfl⟩, rfl, by kernel_rfl⟩
theorem e26 : @f26 = fun R HT A ls h K => execF A (xc 26) sgTab drN n26 ls h K := by kernel_rfl
theorem i27 : FnIs (xc 27) sgTab 27 n27 := ⟨⟨Tryd.f27, Tryd.func27, by kernel_rfl, by kernel_rfl, by kernel_rfl, by kernel_rfl⟩, rfl, by kernel_rfl⟩
theorem e27 : @f27 = fun R HT A ls h K => execF A (xc 27) sgTab drN n27 ls h K := by kernel_rfl
theorem i28 : FnIs (xc 28) sgTab 28 n28 := ⟨⟨Tryd.f28, Tryd.func28, by kernel_rfl, by kernel_rfl, by kernel_rfl, by kernel_rfl⟩, rfl, by kernel_rfl⟩
theorem e28 : @f28 = fun R HT A ls h K => execF A (xc 28) sgTab drN n28 ls h K := by kernel_rfl
theorem i29 : FnIs (xc 29) sgTab 29 n29 := ⟨⟨Tryd.f29, Tryd.func29, by kernel_rfl, by kernel_rfl, by kernel_rfl, by kernel_rfl⟩, rfl, by kernel_rfl⟩
theorem e29 : @f29 = fun R HT A ls h K => execF A (xc 29) sgTab drN n29 ls h K := by kernel_rfl
theorem i30 : FnIs (xc 30) sgTab 30 n30 := ⟨⟨Tryd.f30, Tryd.func30, by kernel_rfl, by kernel_rfl, by kernel_rfl, by kernel_rfl⟩, rfl, by kernel_rfl⟩
theorem e30 : @f30 = fun R HT A ls h K => execF A (xc 30) sgTab drN n30 ls h K := by kernel_rfl
theorem i31 : FnIs (xc 31) sgTab 31 n31 := ⟨⟨Tryd.f31, Tryd.func31, by kernel_rfl, by kernel_rfl, by kernel_rfl, by kernel_rfl⟩, rfl, by kernel_rfl⟩
theorem e31 : @f31 = fun R HT A ls h K => execF A (xc 31) sgTab drN n31 ls h K := by kernel_rfl
theorem i32 : FnIs (xc 32) sgTab 32 n32 := ⟨⟨Tryd.f32, Tryd.func32, by kernel_rfl, by kernel_rfl, by kernel_rfl, by kernel_rfl⟩, rfl, by kernel_rfl⟩
theorem e32 : @f32 = fun R HT A ls h K => execF A (xc 32) sgTab drN n32 ls h K := by kernel_rfl
theorem i33 : FnIs (xc 33) sgTab 33 n33 := ⟨⟨Tryd.f33, Tryd.func33, by kernel_rfl, by kernel_rfl, by kernel_rfl, by kernel_rfl⟩, rfl, by kernel_rfl⟩
theorem e33 : @f33 = fun R HT A ls h K => execF A (xc 33) sgTab drN n33 ls h K := by kernel_rfl
theorem i34 : FnIs (xc 34) sgTab 34 n34 := ⟨⟨Tryd.f34, Tryd.func34, by kernel_rfl, by kernel_rfl, by kernel_rfl, by kernel_rfl⟩, rfl, by kernel_rfl⟩
theorem e34 : @f34 = fun R HT A ls h K => execF A (xc 34) sgTab drN n34 ls h K := by kernel_rfl
theorem i35 : FnIs (xc 35) sgTab 35 n35 := ⟨⟨Tryd.f35, Tryd.func35, by kernel_rfl, by kernel_rfl, by kernel_rfl, by kernel_rfl⟩, rfl, by kernel_rfl⟩
theorem e35 : @f35 = fun R HT A ls h K => execF A (xc 35) sgTab drN n35 ls h K := by kernel_rfl
theorem i36 : FnIs (xc 36) sgTab 36 n36 := ⟨⟨Tryd.f36, Tryd.func36, by kernel_rfl, by kernel_rfl, by kernel_rfl, by kernel_rfl⟩, rfl, by kernel_rfl⟩
theorem e36 : @f36 = fun R HT A ls h K => execF A (xc 36) sgTab drN n36 ls h K := by kernel_rfl
theorem i37 : FnIs (xc 37) sgTab 37 n37 := ⟨⟨Tryd.f37, Tryd.func37, by kernel_rfl, by kernel_rfl, by kernel_rfl, by kernel_rfl⟩, rfl, by kernel_rfl⟩
theorem e37 : @f37 = fun R HT A ls h K => execF A (xc 37) sgTab drN n37 ls h K := by kernel_rfl
theorem i38 : FnIs (xc 38) sgTab 38 n38 := ⟨⟨Tryd.f38, Tryd.func38, by kernel_rfl, by kernel_rfl, by kernel_rfl, by kernel_rfl⟩, rfl, by kernel_rfl⟩
theorem e38 : @f38 = fun R HT A ls h K => execF A (xc 38) sgTab drN n38 ls h K := by kernel_rfl
theorem i39 : FnIs (xc 39) sgTab 39 n39 := ⟨⟨Tryd.f39, Tryd.func39, by kernel_rfl, by kernel_rfl, by kernel_rfl, by kernel_rfl⟩, rfl, by kernel_rfl⟩
theorem e39 : @f39 = fun R HT A ls h K => execF A (xc 39) sgTab drN n39 ls h K := by kernel_rfl
theorem i40 : FnIs (xc 40) sgTab 40 n40 := ⟨⟨Tryd.f40, Tryd.func40, by kernel_rfl, by kernel_rfl, by kernel_rfl, by kernel_rfl⟩, rfl, by kernel_rfl⟩
theorem e40 : @f40 = fun R HT A ls h K => execF A (xc 40) sgTab drN n40 ls h K := by kernel_rfl
theorem i41 : FnIs (xc 41) sgTab 41 n41 := ⟨⟨Tryd.f41, Tryd.func41, by kernel_rfl, by kernel_rfl, by kernel_rfl, by kernel_rfl⟩, rfl, by kernel_rfl⟩
theorem e41 : @f41 = fun R HT A ls h K => execF A (xc 41) sgTab drN n41 ls h K := by kernel_rfl
theorem i42 : FnIs (xc 42) sgTab 42 n42 := ⟨⟨Tryd.f42, Tryd.func42, by kernel_rfl, by kernel_rfl, by kernel_rfl, by kernel_rfl⟩, rfl, by kernel_rfl⟩
theorem e42 : @f42 = fun R HT A ls h K => execF A (xc 42) sgTab drN n42 ls h K := by kernel_rfl
theorem i43 : FnIs (xc 43) sgTab 43 n43 := ⟨⟨Tryd.f43, Tryd.func43, by kernel_rfl, by kernel_rfl, by kernel_rfl, by kernel_rfl⟩, rfl, by kernel_rfl⟩
theorem e43 : @f43 = fun R HT A ls h K => execF A (xc 43) sgTab drN n43 ls h K := by kernel_rfl
theorem i44 : FnIs (xc 44) sgTab 44 n44 := ⟨⟨Tryd.f44, Tryd.func44, by kernel_rfl, by kernel_rfl, by kernel_rfl, by kernel_rfl⟩, rfl, by kernel_rfl⟩
theorem e44 : @f44 = fun R HT A ls h K => execF A (xc 44) sgTab drN n44 ls h K := by kernel_rfl
theorem i45 : FnIs (xc 45) sgTab 45 n45 := ⟨⟨Tryd.f45, Tryd.func45, by kernel_rfl, by kernel_rfl, by kernel_rfl, by kernel_rfl⟩, rfl, by kernel_rfl⟩
theorem e45 : @f45 = fun R HT A ls h K => execF A (xc 45) sgTab drN n45 ls h K := by kernel_rfl
theorem i46 : FnIs (xc 46) sgTab 46 n46 := ⟨⟨Tryd.f46, Tryd.func46, by kernel_rfl, by kernel_rfl, by kernel_rfl, by kernel_rfl⟩, rfl, by kernel_rfl⟩
theorem e46 : @f46 = fun R HT A ls h K => execF A (xc 46) sgTab drN n46 ls h K := by kernel_rfl
theorem i47 : FnIs (xc 47) sgTab 47 n47 := ⟨⟨Tryd.f47, Tryd.func47, by kernel_rfl, by kernel_rfl, by kernel_rfl, by kernel_rfl⟩, rfl, by kernel_rfl⟩
theorem e47 : @f47 = fun R HT A ls h K => execF A (xc 47) sgTab drN n47 ls h K := by kernel_rfl
theorem i48 : FnIs (xc 48) sgTab 48 n48 := ⟨⟨Tryd.f48, Tryd.func48, by kernel_rfl, by kernel_rfl, by kernel_rfl, by kernel_rfl⟩, rfl, by kernel_rfl⟩
theorem e48 : @f48 = fun R HT A ls h K => execF A (xc 48) sgTab drN n48 ls h K := by kernel_rfl
theorem i49 : FnIs (xc 49) sgTab 49 n49 := ⟨⟨Tryd.f49, Tryd.func49, by kernel_rfl, by kernel_rfl, by kernel_rfl, by kernel_rfl⟩, rfl, by kernel_rfl⟩
theorem e49 : @f49 = fun R HT A ls h K => execF A (xc 49) sgTab drN n49 ls h K := by kernel_rfl
theorem i50 : FnIs (xc 50) sgTab 50 n50 := ⟨⟨Tryd.f50, Tryd.func50, by kernel_rfl, by kernel_rfl, by kernel_rfl, by kernel_rfl⟩, rfl, by kernel_rfl⟩
theorem e50 : @f50 = fun R HT A ls h K => execF A (xc 50) sgTab drN n50 ls h K := by kernel_rfl
theorem i51 : FnIs (xc 51) sgTab 51 n51 := ⟨⟨Tryd.f51, Tryd.func51, by kernel_rfl, by kernel_rfl, by kernel_rfl, by kernel_rfl⟩, rfl, by kernel_rfl⟩
theorem e51 : @f51 = fun R HT A ls h K => execF A (xc 51) sgTab drN n51 ls h K := by kernel_rfl
theorem i52 : FnIs (xc 52) sgTab 52 n52 := ⟨⟨Tryd.f52, Tryd.func52, by kernel_rfl, by kernel_rfl, by kernel_rfl, by kernel_rfl⟩, rfl, by kernel_rfl⟩
theorem e52 : @f52 = fun R HT A ls h K => execF A (xc 52) sgTab drN n52 ls h K := by kernel_rfl
theorem i53 : FnIs (xc 53) sgTab 53 n53 := ⟨⟨Tryd.f53, Tryd.func53, by kernel_rfl, by kernel_rfl, by kernel_rfl, by kernel_rfl⟩, rfl, by kernel_rfl⟩
theorem e53 : @f53 = fun R HT A ls h K => execF A (xc 53) sgTab drN n53 ls h K := by kernel_rfl
theorem i54 : FnIs (xc 54) sgTab 54 n54 := ⟨⟨Tryd.f54, Tryd.func54, by kernel_rfl, by kernel_rfl, by kernel_rfl, by kernel_rfl⟩, rfl, by kernel_rfl⟩
theorem e54 : @f54 = fun R HT A ls h K => execF A (xc 54) sgTab drN n54 ls h K := by kernel_rfl
theorem i55 : FnIs (xc 55) sgTab 55 n55 := ⟨⟨Tryd.f55, Tryd.func55, by kernel_rfl, by kernel_rfl, by kernel_rfl, by kernel_rfl⟩, rfl, by kernel_rfl⟩
theorem e55 : @f55 = fun R HT A ls h K => execF A (xc 55) sgTab drN n55 ls h K := by kernel_rfl
theorem i56 : FnIs (xc 56) sgTab 56 n56 := ⟨⟨Tryd.f56, Tryd.func56, by kernel_rfl, by kernel_rfl, by kernel_rfl, by kernel_rfl⟩, rfl, by kernel_rfl⟩
theorem e56 : @f56 = fun R HT A ls h K => execF A (xc 56) sgTab drN n56 ls h K := by kernel_rfl
theorem i57 : FnIs (xc 57) sgTab 57 n57 := ⟨⟨Tryd.f57, Tryd.func57, by kernel_rfl, by kernel_rfl, by kernel_rfl, by kernel_rfl⟩, rfl, by kernel_rfl⟩
theorem e57 : @f57 = fun R HT A ls h K => execF A (xc 57) sgTab drN n57 ls h K := by kernel_rfl
theorem i58 : FnIs (xc 58) sgTab 58 n58 := ⟨⟨Tryd.f58, Tryd.func58, by kernel_rfl, by kernel_rfl, by kernel_rfl, by kernel_rfl⟩, rfl, by kernel_rfl⟩
theorem e58 : @f58 = fun R HT A ls h K => execF A (xc 58) sgTab drN n58 ls h K := by kernel_rfl
theorem i59 : FnIs (xc 59) sgTab 59 n59 := ⟨⟨Tryd.f59, Tryd.func59, by kernel_rfl, by kernel_rfl, by kernel_rfl, by kernel_rfl⟩, rfl, by kernel_rfl⟩
theorem e59 : @f59 = fun R HT A ls h K => execF A (xc 59) sgTab drN n59 ls h K := by kernel_rfl
theorem i60 : FnIs (xc 60) sgTab 60 n60 := ⟨⟨Tryd.f60, Tryd.func60, by kernel_rfl, by kernel_rfl, by kernel_rfl, by kernel_rfl⟩, rfl, by kernel_rfl⟩
theorem e60 : @f60 = fun R HT A ls h K => execF A (xc 60) sgTab drN n60 ls h K := by kernel_rfl
theorem i61 : FnIs (xc 61) sgTab 61 n61 := ⟨⟨Tryd.f61, Tryd.func61, by kernel_rfl, by kernel_rfl, by kernel_rfl, by kernel_rfl⟩, rfl, by kernel_rfl⟩
theorem e61 : @f61 = fun R HT A ls h K => execF A (xc 61) sgTab drN n61 ls h K := by kernel_rfl
theorem i62 : FnIs (xc 62) sgTab 62 n62 := ⟨⟨Tryd.f62, Tryd.func62, by kernel_rfl, by kernel_rfl, by kernel_rfl, by kernel_rfl⟩, rfl, by kernel_rfl⟩
theorem e62 : @f62 = fun R HT A ls h K => execF A (xc 62) sgTab drN n62 ls h K := by kernel_rfl
theorem i63 : FnIs (xc 63) sgTab 63 n63 := ⟨⟨Tryd.f63, Tryd.func63, by kernel_rfl, by kernel_rfl, by kernel_rfl, by kernel_rfl⟩, rfl, by kernel_rfl⟩
theorem e63 : @f63 = fun R HT A ls h K => execF A (xc 63) sgTab drN n63 ls h K := by kernel_rfl
theorem i64 : FnIs (xc 64) sgTab 64 n64 := ⟨⟨Tryd.f64, Tryd.func64, by kernel_rfl, by kernel_rfl, by kernel_rfl, by kernel_rfl⟩, rfl, by kernel_rfl⟩
theorem e64 : @f64 = fun R HT A ls h K => execF A (xc 64) sgTab drN n64 ls h K := by kernel_rfl
theorem i65 : FnIs (xc 65) sgTab 65 n65 := ⟨⟨Tryd.f65, Tryd.func65, by kernel_rfl, by kernel_rfl, by kernel_rfl, by kernel_rfl⟩, rfl, by kernel_rfl⟩
theorem e65 : @f65 = fun R HT A ls h K => execF A (xc 65) sgTab drN n65 ls h K := by kernel_rfl
theorem i66 : FnIs (xc 66) sgTab 66 n66 := ⟨⟨Tryd.f66, Tryd.func66, by kernel_rfl, by kernel_rfl, by kernel_rfl, by kernel_rfl⟩, rfl, by kernel_rfl⟩
theorem e66 : @f66 = fun R HT A ls h K => execF A (xc 66) sgTab drN n66 ls h K := by kernel_rfl
theorem i67 : FnIs (xc 67) sgTab 67 n67 := ⟨⟨Tryd.f67, Tryd.func67, by kernel_rfl, by kernel_rfl, by kernel_rfl, by kernel_rfl⟩, rfl, by kernel_rfl⟩
theorem e67 : @f67 = fun R HT A ls h K => execF A (xc 67) sgTab drN n67 ls h K := by kernel_rfl
theorem i68 : FnIs (xc 68) sgTab 68 n68 := ⟨⟨Tryd.f68, Tryd.func68, by kernel_rfl, by kernel_rfl, by kernel_rfl, by kernel_rfl⟩, rfl, by kernel_rfl⟩
theorem e68 : @f68 = fun R HT A ls h K => execF A (xc 68) sgTab drN n68 ls h K := by kernel_rfl
theorem i69 : FnIs (xc 69) sgTab 69 n69 := ⟨⟨Tryd.f69, Tryd.func69, by kernel_rfl, by kernel_rfl, by kernel_rfl, by kernel_rfl⟩, rfl, by kernel_rfl⟩
theorem e69 : @f69 = fun R HT A ls h K => execF A (xc 69) sgTab drN n69 ls h K := by kernel_rfl
theorem i70 : FnIs (xc 70) sgTab 70 n70 := ⟨⟨Tryd.f70, Tryd.func70, by kernel_rfl, by kernel_rfl, by kernel_rfl, by kernel_rfl⟩, rfl, by kernel_rfl⟩
theorem e70 : @f70 = fun R HT A ls h K => execF A (xc 70) sgTab drN n70 ls h K := by kernel_rfl
theorem i71 : FnIs (xc 71) sgTab 71 n71 := ⟨⟨Tryd.f71, Tryd.func71, by kernel_rfl, by kernel_rfl, by kernel_rfl, by kernel_rfl⟩, rfl, by kernel_rfl⟩
theorem e71 : @f71 = fun R HT A ls h K => execF A (xc 71) sgTab drN n71 ls h K := by kernel_rfl
theorem i72 : FnIs (xc 72) sgTab 72 n72 := ⟨⟨Tryd.f72, Tryd.func72, by kernel_rfl, by kernel_rfl, by kernel_rfl, by kernel_rfl⟩, rfl, by kernel_rfl⟩
theorem e72 : @f72 = fun R HT A ls h K => execF A (xc 72) sgTab drN n72 ls h K := by kernel_rfl
theorem i73 : FnIs (xc 73) sgTab 73 n73 := ⟨⟨Tryd.f73, Tryd.func73, by kernel_rfl, by kernel_rfl, by kernel_rfl, by kernel_rfl⟩, rfl, by kernel_rfl⟩
theorem e73 : @f73 = fun R HT A ls h K => execF A (xc 73) sgTab drN n73 ls h K := by kernel_rfl
theorem i74 : FnIs (xc 74) sgTab 74 n74 := ⟨⟨Tryd.f74, Tryd.func74, by kernel_rfl, by kernel_rfl, by kernel_rfl, by kernel_rfl⟩, rfl, by kernel_rfl⟩
theorem e74 : @f74 = fun R HT A ls h K => execF A (xc 74) sgTab drN n74 ls h K := by kernel_rfl
theorem i75 : FnIs (xc 75) sgTab 75 n75 := ⟨⟨Tryd.f75, Tryd.func75, by kernel_rfl, by kernel_rfl, by kernel_rfl, by kernel_rfl⟩, rfl, by kernel_rfl⟩
theorem e75 : @f75 = fun R HT A ls h K => execF A (xc 75) sgTab drN n75 ls h K := by kernel_rfl
theorem i76 : FnIs (xc 76) sgTab 76 n76 := ⟨⟨Tryd.f76, Tryd.func76, by kernel_rfl, by kernel_rfl, by kernel_rfl, by kernel_rfl⟩, rfl, by kernel_rfl⟩
theorem e76 : @f76 = fun R HT A ls h K => execF A (xc 76) sgTab drN n76 ls h K := by kernel_rfl
theorem i77 : FnIs (xc 77) sgTab 77 n77 := ⟨⟨Tryd.f77, Tryd.func77, by kernel_rfl, by kernel_rfl, by kernel_rfl, by kernel_rfl⟩, rfl, by kernel_rfl⟩
theorem e77 : @f77 = fun R HT A ls h K => execF A (xc 77) sgTab drN n77 ls h K := by kernel_rfl
theorem i78 : FnIs (xc 78) sgTab 78 n78 := ⟨⟨Tryd.f78, Tryd.func78, by kernel_rfl, by kernel_rfl, by kernel_rfl, by kernel_rfl⟩, rfl, by kernel_rfl⟩
theorem e78 : @f78 = fun R HT A ls h K => execF A (xc 78) sgTab drN n78 ls h K := by kernel_rfl
theorem i79 : FnIs (xc 79) sgTab 79 n79 := ⟨⟨Tryd.f79, Tryd.func79, by kernel_rfl, by kernel_rfl, by kernel_rfl, by kernel_rfl⟩, rfl, by kernel_rfl⟩
theorem e79 : @f79 = fun R HT A ls h K => execF A (xc 79) sgTab drN n79 ls h K := by kernel_rfl
theorem i80 : FnIs (xc 80) sgTab 80 n80 := ⟨⟨Tryd.f80, Tryd.func80, by kernel_rfl, by kernel_rfl, by kernel_rfl, by kernel_rfl⟩, rfl, by kernel_rfl⟩
theorem e80 : @f80 = fun R HT A ls h K => execF A (xc 80) sgTab drN n80 ls h K := by kernel_rfl
theorem i81 : FnIs (xc 81) sgTab 81 n81 := ⟨⟨Tryd.f81, Tryd.func81, by kernel_rfl, by kernel_rfl, by kernel_rfl, by kernel_rfl⟩, rfl, by kernel_rfl⟩
theorem e81 : @f81 = fun R HT A ls h K => execF A (xc 81) sgTab drN n81 ls h K := by kernel_rfl
theorem i82 : FnIs (xc 82) sgTab 82 n82 := ⟨⟨Tryd.f82, Tryd.func82, by kernel_rfl, by kernel_rfl, by kernel_rfl, by kernel_rfl⟩, rfl, by kernel_rfl⟩
theorem e82 : @f82 = fun R HT A ls h K => execF A (xc 82) sgTab drN n82 ls h K := by kernel_rfl
theorem i83 : FnIs (xc 83) sgTab 83 n83 := ⟨⟨Tryd.f83, Tryd.func83, by kernel_rfl, by kernel_rfl, by kernel_rfl, by kernel_rfl⟩, rfl, by kernel_rfl⟩
theorem e83 : @f83 = fun R HT A ls h K => execF A (xc 83) sgTab drN n83 ls h K := by kernel_rfl
theorem i84 : FnIs (xc 84) sgTab 84 n84 := ⟨⟨Tryd.f84, Tryd.func84, by kernel_rfl, by kernel_rfl, by kernel_rfl, by kernel_rfl⟩, rfl, by kernel_rfl⟩
theorem e84 : @f84 = fun R HT A ls h K => execF A (xc 84) sgTab drN n84 ls h K := by kernel_rfl
theorem i85 : FnIs (xc 85) sgTab 85 n85 := ⟨⟨Tryd.f85, Tryd.func85, by kernel_rfl, by kernel_rfl, by kernel_rfl, by kernel_rfl⟩, rfl, by kernel_rfl⟩
theorem e85 : @f85 = fun R HT A ls h K => execF A (xc 85) sgTab drN n85 ls h K := by kernel_rfl
theorem i86 : FnIs (xc 86) sgTab 86 n86 := ⟨⟨Tryd.f86, Tryd.func86, by kernel_rfl, by kernel_rfl, by kernel_rfl, by kernel_rfl⟩, rfl, by kernel_rfl⟩
theorem e86 : @f86 = fun R HT A ls h K => execF A (xc 86) sgTab drN n86 ls h K := by kernel_rfl
theorem i87 : FnIs (xc 87) sgTab 87 n87 := ⟨⟨Tryd.f87, Tryd.func87, by kernel_rfl, by kernel_rfl, by kernel_rfl, by kernel_rfl⟩, rfl, by kernel_rfl⟩
theorem e87 : @f87 = fun R HT A ls h K => execF A (xc 87) sgTab drN n87 ls h K := by kernel_rfl
theorem i88 : FnIs (xc 88) sgTab 88 n88 := ⟨⟨Tryd.f88, Tryd.func88, by kernel_rfl, by kernel_rfl, by kernel_rfl, by kernel_rfl⟩, rfl, by kernel_rfl⟩
theorem e88 : @f88 = fun R HT A ls h K => execF A (xc 88) sgTab drN n88 ls h K := by kernel_rfl
theorem i89 : FnIs (xc 89) sgTab 89 n89 := ⟨⟨Tryd.f89, Tryd.func89, by kernel_rfl, by kernel_rfl, by kernel_rfl, by kernel_rfl⟩, rfl, by kernel_rfl⟩
theorem e89 : @f89 = fun R HT A ls h K => execF A (xc 89) sgTab drN n89 ls h K := by kernel_rfl
theorem i90 : FnIs (xc 90) sgTab 90 n90 := ⟨⟨Tryd.f90, Tryd.func90, by kernel_rfl, by kernel_rfl, by kernel_rfl, by kernel_rfl⟩, rfl, by kernel_rfl⟩
theorem e90 : @f90 = fun R HT A ls h K => execF A (xc 90) sgTab drN n90 ls h K := by kernel_rfl
theorem i91 : FnIs (xc 91) sgTab 91 n91 := ⟨⟨Tryd.f91, Tryd.func91, by kernel_rfl, by kernel_rfl, by kernel_rfl, by kernel_rfl⟩, rfl, by kernel_rfl⟩
theorem e91 : @f91 = fun R HT A ls h K => execF A (xc 91) sgTab drN n91 ls h K := by kernel_rfl
theorem i92 : FnIs (xc 92) sgTab 92 n92 := ⟨⟨Tryd.f92, Tryd.func92, by kernel_rfl, by kernel_rfl, by kernel_rfl, by kernel_rfl⟩, rfl, by kernel_rfl⟩
theorem e92 : @f92 = fun R HT A ls h K => execF A (xc 92) sgTab drN n92 ls h K := by kernel_rfl
theorem i93 : FnIs (xc 93) sgTab 93 n93 := ⟨⟨Tryd.f93, Tryd.func93, by kernel_rfl, by kernel_rfl, by kernel_rfl, by kernel_rfl⟩, rfl, by kernel_rfl⟩
theorem e93 : @f93 = fun R HT A ls h K => execF A (xc 93) sgTab drN n93 ls h K := by kernel_rfl
theorem i94 : FnIs (xc 94) sgTab 94 n94 := ⟨⟨Tryd.f94, Tryd.func94, by kernel_rfl, by kernel_rfl, by kernel_rfl, by kernel_rfl⟩, rfl, by kernel_rfl⟩
theorem e94 : @f94 = fun R HT A ls h K => execF A (xc 94) sgTab drN n94 ls h K := by kernel_rfl
theorem i95 : FnIs (xc 95) sgTab 95 n95 := ⟨⟨Tryd.f95, Tryd.func95, by kernel_rfl, by kernel_rfl, by kernel_rfl, by kernel_rfl⟩, rfl, by kernel_rfl⟩
theorem e95 : @f95 = fun R HT A ls h K => execF A (xc 95) sgTab drN n95 ls h K := by kernel_rfl
theorem i96 : FnIs (xc 96) sgTab 96 n96 := ⟨⟨Tryd.f96, Tryd.func96, by kernel_rfl, by kernel_rfl, by kernel_rfl, by kernel_rfl⟩, rfl, by kernel_rfl⟩
theorem e96 : @f96 = fun R HT A ls h K => execF A (xc 96) sgTab drN n96 ls h K := by kernel_rfl
theorem i97 : FnIs (xc 97) sgTab 97 n97 := ⟨⟨Tryd.f97, Tryd.func97, by kernel_rfl, by kernel_rfl, by kernel_rfl, by kernel_rfl⟩, rfl, by kernel_rfl⟩
theorem e97 : @f97 = fun R HT A ls h K => execF A (xc 97) sgTab drN n97 ls h K := by kernel_rfl
theorem i98 : FnIs (xc 98) sgTab 98 n98 := ⟨⟨Tryd.f98, Tryd.func98, by kernel_rfl, by kernel_rfl, by kernel_rfl, by kernel_rfl⟩, rfl, by kernel_rfl⟩
theorem e98 : @f98 = fun R HT A ls h K => execF A (xc 98) sgTab drN n98 ls h K := by kernel_rfl
theorem i99 : FnIs (xc 99) sgTab 99 n99 := ⟨⟨Tryd.f99, Tryd.func99, by kernel_rfl, by kernel_rfl, by kernel_rfl, by kernel_rfl⟩, rfl, by kernel_rfl⟩
theorem e99 : @f99 = fun R HT A ls h K => execF A (xc 99) sgTab drN n99 ls h K := by kernel_rfl
theorem i100 : FnIs (xc 100) sgTab 100 n100 := ⟨⟨Tryd.f100, Tryd.func100, by kernel_rfl, by kernel_rfl, by kernel_rfl, by kernel_rfl⟩, rfl, by kernel_rfl⟩
theorem e100 : @f100 = fun R HT A ls h K => execF A (xc 100) sgTab drN n100 ls h K := by kernel_rfl
theorem i101 : FnIs (xc 101) sgTab 101 n101 := ⟨⟨Tryd.f101, Tryd.func101, by kernel_rfl, by kernel_rfl, by kernel_rfl, by kernel_rfl⟩, rfl, by kernel_rfl⟩
theorem e101 : @f101 = fun R HT A ls h K => execF A (xc 101) sgTab drN n101 ls h K := by kernel_rfl
theorem i102 : FnIs (xc 102) sgTab 102 n102 := ⟨⟨Tryd.f102, Tryd.func102, by kernel_rfl, by kernel_rfl, by kernel_rfl, by kernel_rfl⟩, rfl, by kernel_rfl⟩
theorem e102 : @f102 = fun R HT A ls h K => execF A (xc 102) sgTab drN n102 ls h K := by kernel_rfl
theorem i103 : FnIs (xc 103) sgTab 103 n103 := ⟨⟨Tryd.f103, Tryd.func103, by kernel_rfl, by kernel_rfl, by kernel_rfl, by kernel_rfl⟩, rfl, by kernel_rfl⟩
theorem e103 : @f103 = fun R HT A ls h K => execF A (xc 103) sgTab drN n103 ls h K := by kernel_rfl
theorem i104 : FnIs (xc 104) sgTab 104 n104 := ⟨⟨Tryd.f104, Tryd.func104, by kernel_rfl, by kernel_rfl, by kernel_rfl, by kernel_rfl⟩, rfl, by kernel_rfl⟩
theorem e104 : @f104 = fun R HT A ls h K => execF A (xc 104) sgTab drN n104 ls h K := by kernel_rfl
theorem i105 : FnIs (xc 105) sgTab 105 n105 := ⟨⟨Tryd.f105, Tryd.func105, by kernel_rfl, by kernel_rfl, by kernel_rfl, by kernel_rfl⟩, rfl, by kernel_rfl⟩
theorem e105 : @f105 = fun R HT A ls h K => execF A (xc 105) sgTab drN n105 ls h K := by kernel_rfl
theorem i106 : FnIs (xc 106) sgTab 106 n106 := ⟨⟨Tryd.f106, Tryd.func106, by kernel_rfl, by kernel_rfl, by kernel_rfl, by kernel_rfl⟩, rfl, by kernel_rfl⟩
theorem e106 : @f106 = fun R HT A ls h K => execF A (xc 106) sgTab drN n106 ls h K := by kernel_rfl
theorem i107 : FnIs (xc 107) sgTab 107 n107 := ⟨⟨Tryd.f107, Tryd.func107, by kernel_rfl, by kernel_rfl, by kernel_rfl, by kernel_rfl⟩, rfl, by kernel_rfl⟩
theorem e107 : @f107 = fun R HT A ls h K => execF A (xc 107) sgTab drN n107 ls h K := by kernel_rfl

end Go.Am

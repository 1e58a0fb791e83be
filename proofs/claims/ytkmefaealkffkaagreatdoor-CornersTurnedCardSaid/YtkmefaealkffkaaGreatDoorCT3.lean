/-
  PART 3 OF THE PROOF: Gf Am7 Am8 Am8b Am8c Sx5 Ht1 Sx4 Sx5d Sx6 Sx6b Sx6c (no conditions).
-/
import Derived.Test.YtkmefaealkffkaaGreatDoorCT2
import Derived.IntWalk
set_option linter.unusedSectionVars false
set_option linter.unusedSimpArgs false
set_option linter.unusedVariables false
set_option linter.constructorNameAsVariable false
set_option linter.defProp false
noncomputable section
/-
 WHAT EACH FUNCTION DOES,BY PROGRAM.
-/
set_option maxRecDepth 100000
namespace Go.Am
section
variable {R HT:Type} (A:Alg R HT)
/-- crimp/crimplaw09.CornersTurned -/
def f3(ls:List Lf)(h:HT)(K:List Lf->HT->R):R:=A.unI ls (λn6 b0=>A.unI b0 (λn8 b1=>A.unV b1 (λb2 b3=>A.unI b3 (λn12 b4=>A.un0 b4 ( A.call 4 [(.i n6),(.i n8),(.v b2)] h (λb5 b6=>A.unI b5 (λn16 b7=>A.unI b7 (λn18 b8=>A.unV b8 (λa5 b9=>A.un0 b9 ( A.call 5 [(.i n16),(.i n18),(.v a5)] b6 (λc0 c1=>A.unI c0 (λn24 d0=>A.unI d0 (λn26 d1=>A.unV d1 (λd2 d3=>A.unI d3 (λn30 d4=>A.un0 d4 ( A.call 6 [(.i n16),(.i n18)] c1 (λd5 O=>A.unV d5 (λa3 d6=>A.unI d6 (λn36 d7=>A.un0 d7 ( A.cmp .neq n30 0 (λd8=>A.cond d8 ( K [(.b false)] O) ( A.cmp .neq n36 0 (λd9=>A.cond d9 ( K [(.b false)] O) ( A.opt (lenS a3) (λe0=>A.cmp .eql e0 0 (λe1=>A.cond e1 ( K [(.b false)] O) ( A.conv .i64 n12 (λn42=>A.opt (lenS a3) (λe2=>A.ari .rem .i64 n42 e2 (λn44=>A.opt (idS 2 a3 n44) (λx45=>A.peek (.lg cc 2 x45) O (λf0=>A.ucI .i64 f0 (λn47 f1=>A.ucI .i64 f1 (λn49 f2=>A.uc0 f2 ( A.call 7 [(.i n16),(.i n18),(.v a5),(.i n47),(.i n49)] O (λg0 g1=>A.unV g0 (λV g2=>A.unI g2 (λn55 g3=>A.un0 g3 ( A.ari .mul .i64 2 n16 (λn57=>A.ari .sub .i64 n57 n47 (λn58=>A.call 8 [(.i n58),(.i n49)] g1 (λg4 g5=>A.unI g4 (λn61 g6=>A.unI g6 (λn63 g7=>A.un0 g7 ( A.call 7 [(.i n24),(.i n26),(.v d2),(.i n61),(.i n63)] g5 (λg8 a0=>A.unV g8 (λa4 g9=>A.unI g9 (λn69 h0=>A.un0 h0 ( A.cmp .neq n55 0 (λh1=>A.cond h1 ( K [(.b false)] a0) ( A.cmp .neq n69 0 (λh2=>A.cond h2 ( K [(.b false)] a0) ( A.opt (lenS V) (λh3=>A.opt (lenS a4) (λx74=>A.cmp .neq h3 x74 (λh4=>A.cond h4 ( K [(.b false)] a0) ( A.loop (λh5 h6 a1=>A.unI h6 (λa2 h7=>A.un0 h7 ( A.opt (lenS V) (λh8=>A.cmp .lss a2 h8 (λh9=>A.cond h9 ( A.opt (idS 2 V a2) (λi0=>A.opt (fdP 0 i0) (λa6=>A.chk a6 ( A.peek (.lg cc 1 a6) a1 (λi1=>A.ucI .i64 i1 (λn86 i2=>A.uc0 i2 ( A.ari .sub .i64 12 n86 (λn88=>A.ari .rem .i64 n88 8 (λn89=>A.opt (idS 2 V a2) (λx90=>A.opt (fdP 1 x90) (λa7=>A.chk a7 ( A.peek (.lg cc 1 a7) a1 (λj0=>A.ucI .u8 j0 (λn93 j1=>A.uc0 j1 ( A.call 9 [(.i n93)] a1 (λj2 j3=>A.unI j2 (λn97 j4=>A.un0 j4 ( A.loop (λj5 j6 U=>A.unB j6 (λa8 j7=>A.unI j7 (λn104 j8=>A.un0 j8 ( A.opt (lenS a4) (λj9=>A.cmp .lss n104 j9 (λk0=>A.cond k0 ( A.join (λk1 k2=>A.unB k1 (λk3 k4=>A.un0 k4 ( A.ari .add .i64 n104 1 (λn112=>j5 [(.b k3),(.i n112)] k2)))) (λa9=>A.cond a8 ( a9 [(.b true)] U) ( A.opt (idS 2 a4 n104) (λk5=>A.peek (.lg cc 2 k5) U (λk6=>A.ucI .i64 k6 (λn116 k7=>A.ucI .u8 k7 (λk8 k9=>A.uc0 k9 ( A.eqs [((.i n116),(.i n89)),((.i k8),(.i n97))] (λl0=>a9 [(.b l0)] U))))))))) ( A.cond (!a8) ( K [(.b false)] U) ( A.ari .add .i64 a2 1 (λl1=>h5 [(.i l1)] U))))))))) [(.b false),(.i 0)] j3)))))))))))))))))) ( A.call 10 [] a1 (λl2 l3=>A.unB l2 (λl4 l5=>A.un0 l5 ( K [(.b l4)] l3))))))))) [(.i 0)] a0)))))))))))))))))))))))))))))))))))))))))))))))))))))))))
/-- (crimp/crimplaw06.P).Of -/
def f4(ls:List Lf)(h:HT)(K:List Lf->HT->R):R:=A.unI ls (λn6 a1=>A.unI a1 (λn8 a2=>A.unV a2 (λV a3=>A.un0 a3 ( A.ari .rem .u8 n6 4 (λn12=>A.conv .i64 n12 (λn13=>A.ari .add .i64 1 n13 (λn14=>A.ari .rem .u8 n8 4 (λn15=>A.conv .i64 n15 (λn16=>A.ari .add .i64 1 n16 (λn17=>A.ari .mul .i64 6 n14 (λn18=>A.ari .mul .i64 n18 n17 (λn19=>A.opt (mkOk n19 n19) (λd2=>A.new (.cells (ba [(.int .u8 0)] (Int.toNat n19)) 1 true) h (λU a4=>A.join (λa5 a6=>A.un0 a5 ( A.call 11 [(.i n14),(.i n17),(.v (.slice (some ⟨U,0,(some 11)⟩) (Int.toNat n19) ((Int.toNat n19)+1)))] a6 (λa7 a8=>A.unI a7 (λn27 a9=>A.unI a9 (λn29 b0=>A.unV b0 (λb1 b2=>A.un0 b2 ( K [(.i n27),(.i n29),(.v b1)] a8))))))) (λa0=>A.loop (λb3 b4 O=>A.unI b4 (λn37 b5=>A.un0 b5 ( A.opt (lenS (.slice (some ⟨U,0,(some 11)⟩) (Int.toNat n19) ((Int.toNat n19)+1))) (λx39=>A.cmp .lss n37 x39 (λb6=>A.cond b6 ( A.opt (lenS V) (λb7=>A.cmp .lss n37 b7 (λb8=>A.cond b8 ( A.opt (idS 1 V n37) (λb9=>A.peek (.lg cc 1 b9) O (λc0=>A.ucI .u8 c0 (λn45 c1=>A.uc0 c1 ( A.ari .rem .u8 n45 4 (λn47=>A.opt (idS 1 (.slice (some ⟨U,0,(some 11)⟩) (Int.toNat n19) ((Int.toNat n19)+1)) n37) (λd0=>A.heap (.st d0 [(.int .u8 n47)]) O (λd3 d1=>A.ari .add .i64 n37 1 (λn51=>b3 [(.i n51)] d1))))))))) ( a0 [] O)))) ( a0 [] O)))))) [(.i 0)] a4)))))))))))))))
/-- crimp/patterns.Turned -/
def f5(ls:List Lf)(h:HT)(K:List Lf->HT->R):R:=A.unI ls (λn6 a0=>A.unI a0 (λn8 a1=>A.unV a1 (λa2 a3=>A.un0 a3 ( A.call 12 [(.i n6),(.i n8),(.v a2)] h (λa4 V=>A.unI a4 (λn14 a5=>A.unI a5 (λn16 a6=>A.unV a6 (λO a7=>A.unI a7 (λn20 a8=>A.un0 a8 ( A.cmp .neq n20 0 (λa9=>A.cond a9 ( A.opt (chk2 (.slice none 0 0)) (λg5=>K [(.i 0),(.i 0),(.v (.slice none 0 0)),(.i n20)] V)) ( A.opt (lenS O) (λx24=>A.loop (λb0 b1 U=>A.unI b1 (λn28 b2=>A.un0 b2 ( A.cmp .lss n28 x24 (λb3=>A.cond b3 ( A.opt (idS 3 O n28) (λb4=>A.peek (.lg cc 3 b4) U (λb5=>A.ucI .i64 b5 (λn33 b6=>A.ucI .u8 b6 (λn35 b7=>A.ucI .u8 b7 (λn37 b8=>A.uc0 b8 ( A.call 13 [(.i n6),(.i n8),(.i n33)] U (λb9 c0=>A.unI b9 (λn41 c1=>A.unI c1 (λn43 d0=>A.unI d0 (λn45 d1=>A.unI d1 (λn47 d2=>A.un0 d2 ( A.ari .sub .i64 n6 1 (λn49=>A.ari .sub .i64 n49 n41 (λn50=>A.opt (inB 4 n45) (λx51=>A.opt (eh [(.i 0),(.i 3),(.i 2),(.i 1)] 0 [(n45,1)] 1) (λd3=>A.unI d3 (λn53 d4=>A.un0 d4 ( A.call 14 [(.i n6),(.i n8),(.i n50),(.i n43),(.i n53)] c0 (λd5 d6=>A.unI d5 (λn57 d7=>A.unI d7 (λn59 d8=>A.un0 d8 ( A.opt (inB 3 n35) (λx61=>A.opt (eh [(.i 0),(.i 2),(.i 1)] 0 [(n35,1)] 1) (λx62=>A.unI x62 (λn63 d9=>A.un0 d9 ( A.call 15 [(.i n6),(.i n8),(.i n57),(.i n63)] d6 (λe0 e1=>A.unI e0 (λe2 f0=>A.unI f0 (λn69 f1=>A.unI f1 (λn71 f2=>A.un0 f2 ( A.opt (idS 3 O n28) (λg0=>A.heap (.st g0 [(.int .i64 e2),(.int .u8 n69),(.int .u8 n37)]) e1 (λg6 g1=>A.ari .add .i64 n28 1 (λg2=>b0 [(.i g2)] g1))))))))))))))))))))))))))))))))))) ( A.call 16 [(.v O),(.v (.func (.func 17) ⟨[]⟩ ⟨[]⟩))] U (λg3 g4=>A.un0 g3 ( A.opt (chk2 O) (λg7=>K [(.i n14),(.i n16),(.v O),(.i 0)] g4)))))))) [(.i 0)] V)))))))))))))
/-- crimp/corners.All -/
def f6(ls:List Lf)(h:HT)(K:List Lf->HT->R):R:=A.unI ls (λn6 O=>A.unI O (λn8 U=>A.un0 U ( A.call 20 [(.i n6),(.i n8)] h (λV a0=>A.unV V (λx12 a1=>A.unI a1 (λn14 a2=>A.un0 a2 ( K [(.v x12),(.i n14)] a0)))))))
/-- crimp/corners.Creases -/
def f7(ls:List Lf)(h:HT)(K:List Lf->HT->R):R:=A.unI ls (λn6 a9=>A.unI a9 (λn8 b0=>A.unV b0 (λb1 b2=>A.unI b2 (λn12 b3=>A.unI b3 (λn14 b4=>A.un0 b4 ( A.new (.cells [(.int .i64 n6),(.int .i64 n8),b1] 3 true) h (λO a1=>A.peek (.lg cc 3 (.pointer (some ⟨O,0,none⟩))) a1 (λb5=>A.ucI .i64 b5 (λn19 b6=>A.ucI .i64 b6 (λn21 b7=>A.ucV b7 (λa2 b8=>A.chk a2 ( A.uc0 b8 ( A.call 21 [(.i n19),(.i n21),(.v a2)] a1 (λb9 U=>A.unI b9 (λn27 c0=>A.un0 c0 ( A.cmp .neq n27 0 (λc1=>A.cond c1 ( K [(.v (.slice none 0 0)),(.i n27)] U) ( A.opt (fdP 0 (.pointer (some ⟨O,0,none⟩))) (λa3=>A.chk a3 ( A.peek (.lg cc 2 a3) U (λd0=>A.ucI .i64 d0 (λn32 d1=>A.ucI .i64 d1 (λn34 d2=>A.uc0 d2 ( A.call 22 [(.i n32),(.i n34),(.i n12),(.i n14)] U (λd3 a4=>A.unI d3 (λn38 d4=>A.un0 d4 ( A.cmp .neq n38 0 (λd5=>A.cond d5 ( K [(.v (.slice none 0 0)),(.i n38)] a4) ( A.new (.cells [(.slice none 0 0)] 1 true) a4 (λV a5=>A.opt (fdP 0 (.pointer (some ⟨O,0,none⟩))) (λa6=>A.chk a6 ( A.peek (.lg cc 2 a6) a5 (λd6=>A.ucI .i64 d6 (λn45 d7=>A.ucI .i64 d7 (λn47 d8=>A.uc0 d8 ( A.call 23 [(.i n45),(.i n47),(.i n12),(.i n14)] a5 (λd9 e0=>A.unV d9 (λx51 e1=>A.un0 e1 ( A.rfun 112 x51 [(.pointer (some ⟨O,0,none⟩)),(.pointer (some ⟨V,0,none⟩))] e0 (λe2 a0=>A.pend e2 ( A.peek (.lg cc 1 (.pointer (some ⟨V,0,none⟩))) a0 (λf0=>A.ucV f0 (λa7 f1=>A.chk a7 ( A.uc0 f1 ( A.call 25 [(.v a7),(.v (.func (.func 26) ⟨[]⟩ ⟨[]⟩))] a0 (λf2 a8=>A.un0 f2 ( A.peek (.lg cc 1 (.pointer (some ⟨V,0,none⟩))) a8 (λg0=>A.ucV g0 (λx61 g1=>A.chk x61 ( A.uc0 g1 ( A.call 27 [(.v x61)] a8 (λg2 g3=>A.unV g2 (λg4 g5=>A.un0 g5 ( K [(.v g4),(.i 0)] g3)))))))))))))) ( K [(.v (.slice none 0 0)),(.i 0)] a0) []))))))))))))))))))))))))))))))))))))))))
/-- crimp/crimplaw09.point -/
def f8(ls:List Lf)(h:HT)(K:List Lf->HT->R):R:=A.unI ls (λn6 O=>A.unI O (λn8 U=>A.un0 U ( K [(.i n6),(.i n8)] h)))
/-- crimp/crimpref06.Other -/
def f9(ls:List Lf)(h:HT)(K:List Lf->HT->R):R:=A.unI ls (λn6 O=>A.un0 O ( A.cmp .eql n6 1 (λU=>A.cond U ( K [(.i 2)] h) ( A.cmp .eql n6 2 (λV=>A.cond V ( K [(.i 1)] h) ( K [(.i n6)] h))))))
/-- crimp/crimplaw09.lives -/
def f10(ls:List Lf)(h:HT)(K:List Lf->HT->R):R:=A.un0 ls ( A.call 6 [(.i 2),(.i 2)] h (λb1 b2=>A.unV b1 (λa6 b3=>A.unI b3 (λn10 b4=>A.un0 b4 ( A.call 8 [(.i 1),(.i 1)] b2 (λb5 b6=>A.unI b5 (λn14 b7=>A.unI b7 (λn16 b8=>A.un0 b8 ( A.call 28 [(.i 2),(.i 2),(.i n14),(.i n16)] b6 (λb9 c0=>A.unV b9 (λc1 d0=>A.unI d0 (λn22 d1=>A.un0 d1 ( A.call 8 [(.i 2),(.i 2)] c0 (λd2 d3=>A.unI d2 (λn26 d4=>A.unI d4 (λn28 d5=>A.un0 d5 ( A.call 28 [(.i 2),(.i 2),(.i n26),(.i n28)] d3 (λd6 d7=>A.unV d6 (λd8 d9=>A.unI d9 (λn34 e0=>A.un0 e0 ( A.call 8 [(.i 1),(.i 1)] d7 (λe1 e2=>A.unI e1 (λn38 f0=>A.unI f0 (λn40 f1=>A.un0 f1 ( A.call 8 [(.i 3),(.i 1)] e2 (λf2 g0=>A.unI f2 (λn44 g1=>A.unI g1 (λn46 g2=>A.un0 g2 ( A.call 8 [(.i 2),(.i 2)] g0 (λg3 g4=>A.unI g3 (λn50 g5=>A.unI g5 (λn52 g6=>A.un0 g6 ( A.call 8 [(.i 1),(.i 3)] g4 (λg7 g8=>A.unI g7 (λn56 g9=>A.unI g9 (λn58 h0=>A.un0 h0 ( A.call 8 [(.i 3),(.i 3)] g8 (λh1 h2=>A.unI h1 (λn62 h3=>A.unI h3 (λn64 h4=>A.un0 h4 ( A.new (.cells [(.int .i64 n38),(.int .i64 n40),(.int .i64 n44),(.int .i64 n46),(.int .i64 n50),(.int .i64 n52),(.int .i64 n56),(.int .i64 n58),(.int .i64 n62),(.int .i64 n64)] 2 true) h2 (λh5 V=>A.cmp .neq n10 0 (λh6=>A.cond h6 ( K [(.b false)] V) ( A.cmp .neq n22 0 (λh7=>A.cond h7 ( K [(.b false)] V) ( A.cmp .neq n34 0 (λh8=>A.cond h8 ( K [(.b false)] V) ( A.opt (lenS a6) (λh9=>A.cmp .neq h9 5 (λi0=>A.cond i0 ( K [(.b false)] V) ( A.new (.cells [(.int .i64 2),(.int .i64 3),(.int .i64 0),(.int .i64 1)] 1 true) V (λi1 i2=>A.call 29 [(.v c1),(.v (.slice (some ⟨i1,0,(some 11)⟩) 4 5))] i2 (λj0 a7=>A.unI j0 (λj1 j2=>A.un0 j2 ( A.cmp .eql j1 0 (λj3=>A.cond j3 ( K [(.b false)] a7) ( A.new (.cells [(.int .i64 12),(.int .i64 15),(.int .i64 9),(.int .i64 8),(.int .i64 2),(.int .i64 1),(.int .i64 7),(.int .i64 6)] 1 true) a7 (λj4 j5=>A.call 29 [(.v d8),(.v (.slice (some ⟨j4,0,(some 11)⟩) 8 9))] j5 (λj6 a8=>A.unI j6 (λn84 j7=>A.un0 j7 ( A.cmp .eql n84 0 (λj8=>A.cond j8 ( K [(.b false)] a8) ( A.loop (λj9 k0 a0=>A.unI k0 (λn90 k1=>A.un0 k1 ( A.cmp .lss n90 5 (λk2=>A.cond k2 ( A.opt (idS 2 a6 n90) (λx93=>A.peek (.lg cc 2 x93) a0 (λk3=>A.ucI .i64 k3 (λn95 k4=>A.ucI .i64 k4 (λn97 k5=>A.uc0 k5 ( A.opt (idS 2 (.slice (some ⟨h5,0,(some 12)⟩) 5 6) n90) (λk6=>A.peek (.lg cc 2 k6) a0 (λk7=>A.ucI .i64 k7 (λn101 k8=>A.ucI .i64 k8 (λn103 k9=>A.uc0 k9 ( A.eqs [((.i n95),(.i n101)),((.i n97),(.i n103))] (λl0=>A.cond (!l0) ( K [(.b false)] a0) ( A.ari .add .i64 n90 1 (λn106=>j9 [(.i n106)] a0)))))))))))))) ( A.new (.cells [(.int .u8 1),(.int .u8 1),(.int .i64 1),(.int .i64 0),(.int .i64 4),(.int .u8 2),(.int .u8 3),(.int .i64 2),(.int .i64 2),(.int .i64 4),(.int .u8 3),(.int .u8 4),(.int .i64 0),(.int .i64 0),(.int .i64 1)] 5 true) a0 (λl1 l2=>A.call 30 [(.i 2),(.i 2),(.v (.slice (some ⟨l1,0,(some 15)⟩) 3 4))] l2 (λl3 l4=>A.unI l3 (λa1 l5=>A.unI l5 (λn113 l6=>A.unV l6 (λa2 l7=>A.unI l7 (λv2 l8=>A.unI l8 (λv3 l9=>A.un0 l9 ( A.call 8 [(.i 2),(.i 2)] l4 (λm0 m1=>A.unI m0 (λm2 m3=>A.unI m3 (λm4 m5=>A.un0 m5 ( A.call 7 [(.i a1),(.i n113),(.v a2),(.i m2),(.i m4)] m1 (λm6 m7=>A.unV m6 (λa3 m8=>A.unI m8 (λv4 m9=>A.un0 m9 ( A.call 8 [(.i 2),(.i 2)] m7 (λn0 n1=>A.unI n0 (λn2 o0=>A.unI o0 (λo1 o2=>A.un0 o2 ( A.call 31 [(.i a1),(.i n113),(.v a2),(.i n2),(.i o1)] n1 (λo3 o4=>A.unV o3 (λo5 o6=>A.unI o6 (λv5 o7=>A.un0 o7 ( A.call 8 [(.i 2),(.i 2)] o4 (λo8 o9=>A.unI o8 (λp0 p1=>A.unI p1 (λp2 p3=>A.un0 p3 ( A.call 32 [(.i a1),(.i n113),(.v a2),(.i p0),(.i p2)] o9 (λp4 p5=>A.unB p4 (λp6 p7=>A.unI p7 (λv6 p8=>A.un0 p8 ( A.call 8 [(.i 1),(.i 1)] p5 (λp9 q0=>A.unI p9 (λq1 q2=>A.unI q2 (λq3 q4=>A.un0 q4 ( A.call 7 [(.i a1),(.i n113),(.v a2),(.i q1),(.i q3)] q0 (λq5 O=>A.unV q5 (λa9 q6=>A.unI q6 (λv7 q7=>A.un0 q7 ( A.opt (lenS a3) (λr1=>A.cmp .neq r1 3 (λr2=>A.cond r2 ( K [(.b false)] O) ( A.opt (idS 2 a3 0) (λr3=>A.peek (.lg cc 2 r3) O (λr4=>A.ucI .i64 r4 (λr5 r6=>A.ucI .u8 r6 (λr7 r8=>A.uc0 r8 ( A.eqs [((.i r5),(.i 2)),((.i r7),(.i 1))] (λr9=>A.cond (!r9) ( K [(.b false)] O) ( A.opt (idS 2 a3 1) (λs0=>A.peek (.lg cc 2 s0) O (λs1=>A.ucI .i64 s1 (λs2 s3=>A.ucI .u8 s3 (λs4 s5=>A.uc0 s5 ( A.eqs [((.i s2),(.i 6)),((.i s4),(.i 1))] (λs6=>A.cond (!s6) ( K [(.b false)] O) ( A.opt (idS 2 a3 2) (λs7=>A.peek (.lg cc 2 s7) O (λs8=>A.ucI .i64 s8 (λs9 t0=>A.ucI .u8 t0 (λt1 t2=>A.uc0 t2 ( A.eqs [((.i s9),(.i 7)),((.i t1),(.i 2))] (λt3=>A.cond (!t3) ( K [(.b false)] O) ( A.new (.cells [(.int .i64 4),(.int .i64 1),(.int .i64 3)] 1 true) O (λt4 t5=>A.call 29 [(.v o5),(.v (.slice (some ⟨t4,0,(some 11)⟩) 3 4))] t5 (λt6 U=>A.unI t6 (λt7 t8=>A.un0 t8 ( A.cmp .eql t7 0 (λt9=>A.cond t9 ( K [(.b false)] U) ( A.cond p6 ( K [(.b false)] U) ( A.opt (lenS a9) (λuc=>A.cmp .neq uc 1 (λu0=>A.cond u0 ( K [(.b false)] U) ( A.opt (idS 2 a9 0) (λu1=>A.peek (.lg cc 2 u1) U (λu2=>A.ucI .i64 u2 (λu5 u6=>A.ucI .u8 u6 (λu7 vo=>A.uc0 vo ( A.eqs [((.i u5),(.i 5)),((.i u7),(.i 3))] (λvp=>A.cond (!vp) ( K [(.b false)] U) ( A.call 8 [(.i 2),(.i 1)] U (λvq vr=>A.unI vq (λvt vu=>A.unI vu (λvw vx=>A.un0 vx ( A.call 8 [(.i 0),(.i 0)] vr (λvy vz=>A.unI vy (λvA vB=>A.unI vB (λvC vD=>A.un0 vD ( A.call 8 [(.i 4),(.i 2)] vz (λvE vF=>A.unI vE (λvG vH=>A.unI vH (λvI vJ=>A.un0 vJ ( A.new (.cells [(.int .i64 vt),(.int .i64 vw),(.int .i64 vA),(.int .i64 vC),(.int .i64 vG),(.int .i64 vI)] 2 true) vF (λvK vL=>A.loop (λvM vN a4=>A.unI vN (λa5 vO=>A.un0 vO ( A.cmp .lss a5 3 (λvP=>A.cond vP ( A.opt (idS 2 (.slice (some ⟨vK,0,(some 12)⟩) 3 4) a5) (λvQ=>A.peek (.lg cc 2 vQ) a4 (λvR=>A.ucI .i64 vR (λvS vT=>A.ucI .i64 vT (λvU vV=>A.uc0 vV ( A.call 28 [(.i 2),(.i 2),(.i vS),(.i vU)] a4 (λvW b0=>A.unV vW (λv8 vX=>A.unI vX (λvY vZ=>A.un0 vZ ( A.cmp .neq vY 7 (λv0=>A.cond v0 ( K [(.b false)] b0) ( A.ari .add .i64 a5 1 (λv1=>vM [(.i v1)] b0))))))))))))) ( K [(.b true)] a4))))) [(.i 0)] vL))))))))))))))))))))))))))))))))))))))))))))))))))))))))))))))))))))))))))))))))))))))))))))))))))) [(.i 0)] a8)))))))))))))))))))))))))))))))))))))))))))))))))))))))))))))))
/-- crimp/crimpref06.With -/
def f11(ls:List Lf)(h:HT)(K:List Lf->HT->R):R:=A.unI ls (λn6 a5=>A.unI a5 (λn8 a6=>A.unV a6 (λV a7=>A.un0 a7 ( A.call 33 [(.i n6),(.i n8)] h (λa8 a9=>A.unV a8 (λa0 b0=>A.un0 b0 ( A.join (λb1 b2=>A.unI b1 (λn18 b3=>A.unI b3 (λn20 b4=>A.unV b4 (λb5 b6=>A.un0 b6 ( K [(.i n18),(.i n20),(.v b5)] b2))))) (λa1=>A.loop (λb7 b8 O=>A.unI b8 (λn28 b9=>A.unI b9 (λn30 c0=>A.unI c0 (λn32 c1=>A.unV c1 (λU d0=>A.un0 d0 ( A.opt (lenS a0) (λd1=>A.cmp .lss n28 d1 (λd2=>A.cond d2 ( A.opt (lenS V) (λd3=>A.cmp .lss n28 d3 (λd4=>A.cond d4 ( A.opt (idS 1 V n28) (λd5=>A.peek (.lg cc 1 d5) O (λd6=>A.ucI .u8 d6 (λn42 d7=>A.uc0 d7 ( A.cmp .neq n42 0 (λd8=>A.join (λd9 e0=>A.unI d9 (λn47 e1=>A.unI e1 (λn49 e2=>A.unV e2 (λx51 f0=>A.un0 f0 ( A.ari .add .i64 n28 1 (λn53=>b7 [(.i n53),(.i n47),(.i n49),(.v x51)] e0)))))) (λa2=>A.cond d8 ( A.opt (idS 2 a0 n28) (λf1=>A.opt (fdP 0 f1) (λa3=>A.chk a3 ( A.peek (.lg cc 1 a3) O (λf2=>A.ucI .i64 f2 (λn58 g0=>A.uc0 g0 ( A.opt (idS 2 a0 n28) (λx60=>A.opt (fdP 1 x60) (λx61=>A.chk x61 ( A.peek (.lg cc 1 x61) O (λg1=>A.ucI .u8 g1 (λn63 g2=>A.uc0 g2 ( A.opt (idS 1 V n28) (λg3=>A.peek (.lg cc 1 g3) O (λg4=>A.ucI .u8 g4 (λg5 g6=>A.uc0 g6 ( A.new (.cells [(.int .i64 n58),(.int .u8 n63),(.int .u8 g5)] 3 true) O (λg7 g8=>A.heap (.ap cc 3 16 U (.slice (some ⟨g7,0,(some 13)⟩) 1 2)) g8 (λg9 h0=>A.ucV g9 (λa4 h1=>A.chk a4 ( A.uc0 h1 ( a2 [(.i n30),(.i n32),(.v a4)] h0)))))))))))))))))))))) ( a2 [(.i n30),(.i n32),(.v U)] O)))))))) ( a1 [(.i n30),(.i n32),(.v U)] O)))) ( a1 [(.i n30),(.i n32),(.v U)] O))))))))) [(.i 0),(.i n6),(.i n8),(.v (.slice none 0 0))] a9))))))))
/-- crimp/patterns.Opposite -/
def f12(ls:List Lf)(h:HT)(K:List Lf->HT->R):R:=A.unI ls (λn6 a4=>A.unI a4 (λn8 a5=>A.unV a5 (λV a6=>A.un0 a6 ( A.call 21 [(.i n6),(.i n8),(.v V)] h (λa7 a1=>A.unI a7 (λn14 a8=>A.un0 a8 ( A.cmp .neq n14 0 (λa9=>A.cond a9 ( A.opt (chk2 (.slice none 0 0)) (λd2=>K [(.i 0),(.i 0),(.v (.slice none 0 0)),(.i n14)] a1)) ( A.opt (lenS V) (λO=>A.opt (mkOk O O) (λd3=>A.new (.cells (ba [(.int .i64 0),(.int .u8 0),(.int .u8 0)] (Int.toNat O)) 3 true) a1 (λU b0=>A.heap (.fn (cpG cc 3 (.slice (some ⟨U,0,(some 13)⟩) (Int.toNat O) ((Int.toNat O)+1)) V)) b0 (λb1 b2=>A.ucI .i64 b1 (λn24 b3=>A.uc0 b3 ( A.opt (lenS (.slice (some ⟨U,0,(some 13)⟩) (Int.toNat O) ((Int.toNat O)+1))) (λb4=>A.loop (λb5 b6 a0=>A.unI b6 (λn30 b7=>A.un0 b7 ( A.cmp .lss n30 b4 (λb8=>A.cond b8 ( A.opt (idS 3 (.slice (some ⟨U,0,(some 13)⟩) (Int.toNat O) ((Int.toNat O)+1)) n30) (λb9=>A.opt (fdP 2 b9) (λa2=>A.chk a2 ( A.peek (.lg cc 1 a2) a0 (λc0=>A.ucI .u8 c0 (λn36 c1=>A.uc0 c1 ( A.opt (inB 4 n36) (λd4=>A.opt (se gl0 0 [(n36,1)] 1) (λx39=>A.ucI .u8 x39 (λn40 d0=>A.uc0 d0 ( A.opt (idS 3 (.slice (some ⟨U,0,(some 13)⟩) (Int.toNat O) ((Int.toNat O)+1)) n30) (λx42=>A.opt (fdP 2 x42) (λa3=>A.chk a3 ( A.heap (.st a3 [(.int .u8 n40)]) a0 (λd5 d1=>A.ari .add .i64 n30 1 (λn46=>b5 [(.i n46)] d1)))))))))))))))) ( A.opt (chk2 (.slice (some ⟨U,0,(some 13)⟩) (Int.toNat O) ((Int.toNat O)+1))) (λd6=>K [(.i n6),(.i n8),(.v (.slice (some ⟨U,0,(some 13)⟩) (Int.toNat O) ((Int.toNat O)+1))),(.i 0)] a0)))))) [(.i 0)] b2))))))))))))))))
/-- crimp/sheets.Cell -/
def f13(ls:List Lf)(h:HT)(K:List Lf->HT->R):R:=A.unI ls (λn6 V=>A.unI V (λn8 a0=>A.unI a0 (λn10 a1=>A.un0 a1 ( A.call 34 [(.i n6),(.i n8)] h (λa2 O=>A.unI a2 (λn14 a3=>A.un0 a3 ( A.cmp .neq n14 0 (λa4=>A.cond a4 ( K [(.i 0),(.i 0),(.i 0),(.i n14)] O) ( A.call 35 [(.i n6),(.i n8),(.i n10)] O (λa5 U=>A.unB a5 (λa6 a7=>A.un0 a7 ( A.cond (!a6) ( K [(.i 0),(.i 0),(.i 0),(.i 7)] U) ( A.call 36 [(.i n6),(.i n8),(.i n10)] U (λa8 a9=>A.unI a8 (λn23 b0=>A.unI b0 (λn25 b1=>A.unI b1 (λn27 b2=>A.un0 b2 ( K [(.i n23),(.i n25),(.i n27),(.i 0)] a9))))))))))))))))))
/-- crimp/sheets.Id -/
def f14(ls:List Lf)(h:HT)(K:List Lf->HT->R):R:=A.unI ls (λn6 V=>A.unI V (λn8 a0=>A.unI a0 (λn10 a1=>A.unI a1 (λn12 a2=>A.unI a2 (λn14 a3=>A.un0 a3 ( A.call 34 [(.i n6),(.i n8)] h (λa4 U=>A.unI a4 (λn18 a5=>A.un0 a5 ( A.cmp .neq n18 0 (λa6=>A.cond a6 ( K [(.i 0),(.i n18)] U) ( A.call 37 [(.i n10),(.i n12),(.i n14)] U (λa7 O=>A.unI a7 (λn23 a8=>A.un0 a8 ( A.cmp .neq n23 0 (λa9=>A.cond a9 ( K [(.i 0),(.i 7)] O) ( A.cmp .lss n10 0 (λb0=>A.cond b0 ( K [(.i 0),(.i 7)] O) ( A.cmp .geq n10 n6 (λb1=>A.cond b1 ( K [(.i 0),(.i 7)] O) ( A.cmp .lss n12 0 (λb2=>A.cond b2 ( K [(.i 0),(.i 7)] O) ( A.cmp .geq n12 n8 (λb3=>A.cond b3 ( K [(.i 0),(.i 7)] O) ( A.ari .mul .i64 n12 n6 (λn30=>A.ari .add .i64 n30 n10 (λn31=>A.ari .mul .i64 4 n31 (λn32=>A.conv .i64 n14 (λn33=>A.ari .add .i64 n32 n33 (λn34=>K [(.i n34),(.i 0)] O)))))))))))))))))))))))))))))
/-- crimp/sheets.Name -/
def f15(ls:List Lf)(h:HT)(K:List Lf->HT->R):R:=A.unI ls (λn6 U=>A.unI U (λn8 V=>A.unI V (λn10 a0=>A.unI a0 (λn12 a1=>A.un0 a1 ( A.call 38 [(.i n6),(.i n8),(.i n10),(.i n12)] h (λa2 O=>A.unI a2 (λn16 a3=>A.unI a3 (λn18 a4=>A.un0 a4 ( A.cmp .neq n18 0 (λa5=>A.cond a5 ( K [(.i 0),(.i 0),(.i n18)] O) ( A.cmp .lss n16 n10 (λa6=>A.sel a6 n16 n10 (λn22=>K [(.i n22),(.i n12),(.i 0)] O)))))))))))))
/-- slices.SortFunc[[]crimp/patterns.Crease,crimp/patterns.Crease] -/
def f16(ls:List Lf)(h:HT)(K:List Lf->HT->R):R:=A.unV ls (λO V=>A.unV V (λa0 a1=>A.un0 a1 ( A.opt (lenS O) (λU=>A.conv .u64 U (λn11=>A.call 40 [(.i n11)] h (λa2 a3=>A.unI a2 (λn14 a4=>A.un0 a4 ( A.call 39 [(.v O),(.i 0),(.i U),(.i n14),(.v a0)] a3 (λa5 a6=>A.un0 a5 ( K [] a6))))))))))
/-- crimp/patterns.Turned$1 -/
def f17(ls:List Lf)(h:HT)(K:List Lf->HT->R):R:=A.unI ls (λn6 O=>A.unI O (λn8 U=>A.unI U (λn10 V=>A.unI V (λn12 a0=>A.unI a0 (λn14 a1=>A.unI a1 (λn16 a2=>A.un0 a2 ( A.call 19 [(.i n6),(.i n8),(.i n10)] h (λa3 a4=>A.unI a3 (λn20 a5=>A.unI a5 (λn22 a6=>A.un0 a6 ( A.call 19 [(.i n12),(.i n14),(.i n16)] a4 (λa7 a8=>A.unI a7 (λn26 a9=>A.unI a9 (λn28 b0=>A.un0 b0 ( A.call 18 [(.i n20),(.i n22),(.i n26),(.i n28)] a8 (λb1 b2=>A.unI b1 (λn32 b3=>A.un0 b3 ( K [(.i n32)] b2))))))))))))))))))
/-- crimp/patterns.order -/
def f18(ls:List Lf)(h:HT)(K:List Lf->HT->R):R:=A.unI ls (λn6 O=>A.unI O (λn8 U=>A.unI U (λn10 V=>A.unI V (λn12 a0=>A.un0 a0 ( A.cmp .neq n6 n10 (λa1=>A.cond a1 ( A.ari .sub .i64 n6 n10 (λn15=>K [(.i n15)] h)) ( A.conv .i64 n8 (λn16=>A.conv .i64 n12 (λn17=>A.ari .sub .i64 n16 n17 (λn18=>K [(.i n18)] h))))))))))
/-- (crimp/patterns.Crease).unit -/
def f19(ls:List Lf)(h:HT)(K:List Lf->HT->R):R:=A.unI ls (λn6 O=>A.unI O (λn8 U=>A.unI U (λn10 V=>A.un0 V ( K [(.i n6),(.i n8)] h))))
/-- crimp/sheets.Points -/
def f20(ls:List Lf)(h:HT)(K:List Lf->HT->R):R:=A.unI ls (λn6 a3=>A.unI a3 (λn8 a4=>A.un0 a4 ( A.call 34 [(.i n6),(.i n8)] h (λa5 U=>A.unI a5 (λn12 a6=>A.un0 a6 ( A.cmp .neq n12 0 (λa7=>A.cond a7 ( K [(.v (.slice none 0 0)),(.i n12)] U) ( A.loop (λa8 a9 V=>A.unV a9 (λa0 b0=>A.unI b0 (λn20 b1=>A.un0 b1 ( A.ari .mul .i64 2 n8 (λn22=>A.cmp .lss n20 n22 (λb2=>A.cond b2 ( A.loop (λb3 b4 O=>A.unV b4 (λx27 b5=>A.unI b5 (λn29 b6=>A.un0 b6 ( A.ari .mul .i64 2 n6 (λn31=>A.cmp .lss n29 n31 (λb7=>A.cond b7 ( A.ari .rem .i64 n29 2 (λn33=>A.ari .rem .i64 n20 2 (λn34=>A.cmp .eql n33 n34 (λb8=>A.join (λb9 c0=>A.unV b9 (λc1 d0=>A.un0 d0 ( A.ari .add .i64 n29 1 (λn40=>b3 [(.v c1),(.i n40)] c0)))) (λa1=>A.cond b8 ( A.new (.cells [(.int .i64 n29),(.int .i64 n20)] 2 true) O (λd1 d2=>A.heap (.ap cc 2 16 x27 (.slice (some ⟨d1,0,(some 12)⟩) 1 2)) d2 (λd3 d4=>A.ucV d3 (λa2 d5=>A.chk a2 ( A.uc0 d5 ( a1 [(.v a2)] d4)))))) ( a1 [(.v x27)] O)))))) ( A.ari .add .i64 n20 1 (λn48=>a8 [(.v x27),(.i n48)] O)))))))) [(.v a0),(.i 1)] V) ( A.call 41 [(.v a0)] V (λd6 d7=>A.unV d6 (λx51 d8=>A.un0 d8 ( K [(.v x51),(.i 0)] d7)))))))))) [(.v (.slice none 0 0)),(.i 1)] U))))))))
/-- crimp/patterns.Check -/
def f21(ls:List Lf)(h:HT)(K:List Lf->HT->R):R:=A.unI ls (λn6 a6=>A.unI a6 (λn8 a7=>A.unV a7 (λO a8=>A.un0 a8 ( A.call 34 [(.i n6),(.i n8)] h (λa9 a0=>A.unI a9 (λn14 b0=>A.un0 b0 ( A.cmp .neq n14 0 (λb1=>A.cond b1 ( K [(.i n14)] a0) ( A.call 42 [(.v O),(.v (.func (.func 43) ⟨[]⟩ ⟨[]⟩))] a0 (λb2 a1=>A.unB b2 (λb3 b4=>A.un0 b4 ( A.cond b3 ( K [(.i 1)] a1) ( A.opt (lenS O) (λx21=>A.loop (λb5 b6 U=>A.unI b6 (λn25 b7=>A.un0 b7 ( A.cmp .lss n25 x21 (λb8=>A.cond b8 ( A.opt (idS 3 O n25) (λb9=>A.peek (.lg cc 3 b9) U (λc0=>A.ucI .i64 c0 (λn30 c1=>A.ucI .u8 c1 (λn32 d0=>A.ucI .u8 d0 (λn34 d1=>A.uc0 d1 ( A.call 15 [(.i n6),(.i n8),(.i n30),(.i n32)] U (λd2 a2=>A.unI d2 (λn38 d3=>A.unI d3 (λn40 d4=>A.unI d4 (λn42 d5=>A.un0 d5 ( A.cmp .neq n42 0 (λd6=>A.cond d6 ( K [(.i 7)] a2) ( A.call 19 [(.i n30),(.i n32),(.i n34)] a2 (λd7 a3=>A.unI d7 (λn47 d8=>A.unI d8 (λn49 d9=>A.un0 d9 ( A.eqs [((.i n38),(.i n47)),((.i n40),(.i n49))] (λe0=>A.cond (!e0) ( K [(.i 7)] a3) ( A.ari .add .i64 n25 1 (λn52=>b5 [(.i n52)] a3))))))))))))))))))))) ( A.loop (λe1 e2 V=>A.unI e2 (λn56 f0=>A.un0 f0 ( A.opt (lenS O) (λf1=>A.cmp .lss n56 f1 (λf2=>A.cond f2 ( A.ari .sub .i64 n56 1 (λn60=>A.opt (idS 3 O n60) (λx61=>A.peek (.lg cc 3 x61) V (λg0=>A.ucI .i64 g0 (λn63 g1=>A.ucI .u8 g1 (λg2 g3=>A.ucI .u8 g3 (λg4 g5=>A.uc0 g5 ( A.call 19 [(.i n63),(.i g2),(.i g4)] V (λg6 a4=>A.unI g6 (λn71 g7=>A.unI g7 (λn73 g8=>A.un0 g8 ( A.opt (idS 3 O n56) (λx75=>A.peek (.lg cc 3 x75) a4 (λg9=>A.ucI .i64 g9 (λh0 h1=>A.ucI .u8 h1 (λh2 h3=>A.ucI .u8 h3 (λh4 h5=>A.uc0 h5 ( A.call 19 [(.i h0),(.i h2),(.i h4)] a4 (λh6 h7=>A.unI h6 (λn85 h8=>A.unI h8 (λn87 h9=>A.un0 h9 ( A.call 18 [(.i n71),(.i n73),(.i n85),(.i n87)] h7 (λi0 a5=>A.unI i0 (λn91 i1=>A.un0 i1 ( A.cmp .geq n91 0 (λi2=>A.cond i2 ( K [(.i 6)] a5) ( A.ari .add .i64 n56 1 (λn94=>e1 [(.i n94)] a5)))))))))))))))))))))))))))) ( K [(.i 0)] V)))))) [(.i 1)] U))))) [(.i 0)] a1))))))))))))))
/-- crimp/corners.corner -/
def f22(ls:List Lf)(h:HT)(K:List Lf->HT->R):R:=A.unI ls (λn6 U=>A.unI U (λn8 V=>A.unI V (λn10 a0=>A.unI a0 (λn12 a1=>A.un0 a1 ( A.call 34 [(.i n6),(.i n8)] h (λa2 O=>A.unI a2 (λn16 a3=>A.un0 a3 ( A.cmp .neq n16 0 (λa4=>A.cond a4 ( K [(.i n16)] O) ( A.cmp .leq n10 0 (λa5=>A.cond a5 ( K [(.i 7)] O) ( A.cmp .leq n12 0 (λa6=>A.cond a6 ( K [(.i 7)] O) ( A.ari .mul .i64 2 n6 (λn21=>A.cmp .geq n10 n21 (λa7=>A.cond a7 ( K [(.i 7)] O) ( A.ari .mul .i64 2 n8 (λn23=>A.cmp .geq n12 n23 (λa8=>A.cond a8 ( K [(.i 7)] O) ( A.ari .rem .i64 n10 2 (λn25=>A.ari .rem .i64 n12 2 (λn26=>A.cmp .neq n25 n26 (λa9=>A.cond a9 ( K [(.i 7)] O) ( K [(.i 0)] O))))))))))))))))))))))))
/-- crimp/corners.walk -/
def f23(ls:List Lf)(h:HT)(K:List Lf->HT->R):R:=A.unI ls (λn6 V=>A.unI V (λn8 a0=>A.unI a0 (λn10 a1=>A.unI a1 (λn12 a2=>A.un0 a2 ( A.new (.cells [(.int .i64 n6),(.int .i64 n8)] 2 true) h (λO a3=>A.new (.cells [(.int .i64 n10),(.int .i64 n12)] 2 true) a3 (λU a4=>A.chk (.func (.func 45) ⟨[]⟩ ⟨[(.pointer (some ⟨U,0,none⟩)),(.pointer (some ⟨O,0,none⟩))]⟩) ( K [(.v (.func (.func 45) ⟨[]⟩ ⟨[(.pointer (some ⟨U,0,none⟩)),(.pointer (some ⟨O,0,none⟩))]⟩))] a4))))))))
/-- crimp/patterns.Kind -/
def f24(ls:List Lf)(h:HT)(K:List Lf->HT->R):R:=A.unI ls (λn6 a0=>A.unI a0 (λn8 a1=>A.unV a1 (λU a2=>A.unI a2 (λn12 a3=>A.unI a3 (λn14 a4=>A.un0 a4 ( A.call 50 [(.i n6),(.i n8),(.v U),(.i n12),(.i n14)] h (λa5 O=>A.unI a5 (λn18 a6=>A.unI a6 (λn20 a7=>A.unI a7 (λn22 a8=>A.unB a8 (λa9 b0=>A.unI b0 (λn26 b1=>A.un0 b1 ( A.cmp .neq n26 0 (λb2=>A.cond b2 ( K [(.i 0),(.i n26)] O) ( A.cond (!a9) ( K [(.i 0),(.i n26)] O) ( A.opt (idS 3 U n22) (λb3=>A.opt (fdP 2 b3) (λV=>A.chk V ( A.peek (.lg cc 1 V) O (λb4=>A.ucI .u8 b4 (λn32 b5=>A.uc0 b5 ( K [(.i n32),(.i 0)] O))))))))))))))))))))))
/-- slices.SortFunc[[]crimp/corners.Ray,crimp/corners.Ray] -/
def f25(ls:List Lf)(h:HT)(K:List Lf->HT->R):R:=A.unV ls (λO V=>A.unV V (λa0 a1=>A.un0 a1 ( A.opt (lenS O) (λU=>A.conv .u64 U (λn11=>A.call 40 [(.i n11)] h (λa2 a3=>A.unI a2 (λn14 a4=>A.un0 a4 ( A.call 51 [(.v O),(.i 0),(.i U),(.i n14),(.v a0)] a3 (λa5 a6=>A.un0 a5 ( K [] a6))))))))))
/-- crimp/corners.Creases$1 -/
def f26(ls:List Lf)(h:HT)(K:List Lf->HT->R):R:=A.unI ls (λn6 O=>A.unI O (λn8 U=>A.unI U (λn10 V=>A.unI V (λn12 a0=>A.un0 a0 ( A.ari .sub .i64 n6 n10 (λn14=>K [(.i n14)] h))))))
/-- slices.Clip[[]crimp/corners.Ray,crimp/corners.Ray] -/
def f27(ls:List Lf)(h:HT)(K:List Lf->HT->R):R:=A.unV ls (λO V=>A.un0 V ( A.opt (lenS O) (λa0=>A.opt (lenS O) (λa1=>A.opt (slS 2 O none (some a0) (some a1)) (λU=>A.chk U ( K [(.v U)] h))))))
/-- crimp/corners.Around -/
def f28(ls:List Lf)(h:HT)(K:List Lf->HT->R):R:=A.unI ls (λn6 a1=>A.unI a1 (λn8 a2=>A.unI a2 (λn10 a3=>A.unI a3 (λn12 a4=>A.un0 a4 ( A.call 22 [(.i n6),(.i n8),(.i n10),(.i n12)] h (λa5 U=>A.unI a5 (λn16 a6=>A.un0 a6 ( A.cmp .neq n16 0 (λa7=>A.cond a7 ( K [(.v (.slice none 0 0)),(.i n16)] U) ( A.new (.cells [(.slice none 0 0)] 1 true) U (λV a8=>A.call 23 [(.i n6),(.i n8),(.i n10),(.i n12)] a8 (λa9 b0=>A.unV a9 (λb1 b2=>A.un0 b2 ( A.rfun 448 b1 [(.pointer (some ⟨V,0,none⟩))] b0 (λb3 O=>A.pend b3 ( A.peek (.lg cc 1 (.pointer (some ⟨V,0,none⟩))) O (λb4=>A.ucV b4 (λa0 b5=>A.chk a0 ( A.uc0 b5 ( A.call 52 [(.v a0)] O (λb6 b7=>A.unV b6 (λb8 b9=>A.un0 b9 ( K [(.v b8),(.i 0)] b7)))))))) ( K [(.v (.slice none 0 0)),(.i 0)] O) [])))))))))))))))
/-- crimp/crimplaw09.same -/
def f29(ls:List Lf)(h:HT)(K:List Lf->HT->R):R:=A.unV ls (λO a0=>A.unV a0 (λV a1=>A.un0 a1 ( A.opt (lenS O) (λa2=>A.opt (lenS V) (λx11=>A.cmp .neq a2 x11 (λa3=>A.cond a3 ( K [(.i 0)] h) ( A.opt (capS O) (λa4=>A.opt (lenS O) (λa5=>A.cmp .neq a4 a5 (λa6=>A.cond a6 ( K [(.i 0)] h) ( A.loop (λa7 a8 U=>A.unI a8 (λn19 a9=>A.un0 a9 ( A.opt (lenS O) (λx21=>A.cmp .lss n19 x21 (λb0=>A.cond b0 ( A.opt (idS 1 O n19) (λb1=>A.peek (.lg cc 1 b1) U (λb2=>A.ucI .i64 b2 (λn25 b3=>A.uc0 b3 ( A.opt (idS 1 V n19) (λx27=>A.peek (.lg cc 1 x27) U (λb4=>A.ucI .i64 b4 (λn29 b5=>A.uc0 b5 ( A.cmp .neq n25 n29 (λb6=>A.cond b6 ( K [(.i 0)] U) ( A.ari .add .i64 n19 1 (λn32=>a7 [(.i n32)] U)))))))))))) ( K [(.i 1)] U)))))) [(.i 0)] h)))))))))))
/-- crimp/segments.Pattern -/
def f30(ls:List Lf)(h:HT)(K:List Lf->HT->R):R:=A.unI ls (λn6 a8=>A.unI a8 (λn8 a9=>A.unV a9 (λa0 b0=>A.un0 b0 ( A.call 34 [(.i n6),(.i n8)] h (λb1 a1=>A.unI b1 (λn14 b2=>A.un0 b2 ( A.cmp .neq n14 0 (λb3=>A.cond b3 ( A.opt (chk2 (.slice none 0 0)) (λi2=>K [(.i 0),(.i 0),(.v (.slice none 0 0)),(.i 0),(.i n14)] a1)) ( A.call 53 [(.i n6),(.i n8)] a1 (λb4 b5=>A.unV b4 (λb6 b7=>A.un0 b7 ( A.new (.map [] 0) b5 (λa2 b8=>A.opt (lenS a0) (λx24=>A.loop (λb9 c0 U=>A.unV c0 (λV c1=>A.unI c1 (λn30 d0=>A.un0 d0 ( A.cmp .lss n30 x24 (λd1=>A.cond d1 ( A.opt (idS 5 a0 n30) (λd2=>A.peek (.lg cc 5 d2) U (λd3=>A.ucI .u8 d3 (λn35 d4=>A.ucI .u8 d4 (λn37 d5=>A.ucI .i64 d5 (λn39 d6=>A.ucI .i64 d6 (λn41 d7=>A.ucI .i64 d7 (λn43 d8=>A.uc0 d8 ( A.call 54 [(.v b6),(.i n35),(.i n37),(.i n39),(.i n41),(.i n43)] U (λd9 a3=>A.unV d9 (λa4 e0=>A.unI e0 (λn49 e1=>A.un0 e1 ( A.cmp .neq n49 0 (λe2=>A.cond e2 ( A.opt (chk2 (.slice none 0 0)) (λj0=>K [(.i 0),(.i 0),(.v (.slice none 0 0)),(.i n30),(.i n49)] a3)) ( A.opt (lenS a4) (λf0=>A.loop (λf1 f2 O=>A.unV f2 (λa5 g0=>A.unI g0 (λn59 g1=>A.un0 g1 ( A.cmp .lss n59 f0 (λg2=>A.cond g2 ( A.opt (idS 2 a4 n59) (λx62=>A.peek (.lg cc 2 x62) O (λg3=>A.ucI .i64 g3 (λn64 g4=>A.ucI .u8 g4 (λn66 g5=>A.uc0 g5 ( A.peek (.fn (luG cc 61 false (.int .u8 0) (.map (some a2)) (.agg ⟨[(.int .i64 n64),(.int .u8 n66)]⟩) false)) O (λg6=>A.ucI .u8 g6 (λn69 g7=>A.uc0 g7 ( A.cmp .neq n69 0 (λg8=>A.cond g8 ( A.opt (chk2 (.slice none 0 0)) (λj1=>K [(.i 0),(.i 0),(.v (.slice none 0 0)),(.i n30),(.i 8)] O)) ( A.heap (.fn (muG cc 61 (.map (some a2)) (.agg ⟨[(.int .i64 n64),(.int .u8 n66)]⟩) (.int .u8 n35))) O (λj2 g9=>A.new (.cells [(.int .i64 n64),(.int .u8 n66),(.int .u8 n35)] 3 true) g9 (λh0 h1=>A.heap (.ap cc 3 16 a5 (.slice (some ⟨h0,0,(some 13)⟩) 1 2)) h1 (λh2 h3=>A.ucV h2 (λa6 h4=>A.chk a6 ( A.uc0 h4 ( A.ari .add .i64 n59 1 (λh5=>f1 [(.v a6),(.i h5)] h3)))))))))))))))))) ( A.ari .add .i64 n30 1 (λh6=>b9 [(.v a5),(.i h6)] O))))))) [(.v V),(.i 0)] a3)))))))))))))))) ( A.call 16 [(.v V),(.v (.func (.func 55) ⟨[]⟩ ⟨[]⟩))] U (λh7 h8=>A.un0 h7 ( A.call 57 [(.v V)] h8 (λh9 i0=>A.unV h9 (λa7 i1=>A.un0 i1 ( A.opt (chk2 a7) (λj3=>K [(.i n6),(.i n8),(.v a7),(.i 0),(.i 0)] i0)))))))))))) [(.v (.slice none 0 0)),(.i 0)] b8))))))))))))))
/-- crimp/corners.Angles -/
def f31(ls:List Lf)(h:HT)(K:List Lf->HT->R):R:=A.unI ls (λn6 a5=>A.unI a5 (λn8 a6=>A.unV a6 (λa7 a8=>A.unI a8 (λn12 a9=>A.unI a9 (λn14 b0=>A.un0 b0 ( A.call 7 [(.i n6),(.i n8),(.v a7),(.i n12),(.i n14)] h (λb1 a2=>A.unV b1 (λU b2=>A.unI b2 (λn20 b3=>A.un0 b3 ( A.cmp .neq n20 0 (λb4=>A.cond b4 ( K [(.v (.slice none 0 0)),(.i n20)] a2) ( A.opt (lenS U) (λO=>A.opt (mkOk O O) (λx24=>A.new (.cells (ba [(.int .i64 0)] (Int.toNat O)) 1 true) a2 (λV b5=>A.opt (lenS U) (λx27=>A.loop (λb6 b7 a0=>A.unI b7 (λn31 b8=>A.un0 b8 ( A.cmp .lss n31 x27 (λb9=>A.cond b9 ( A.opt (idS 2 U n31) (λc0=>A.peek (.lg cc 2 c0) a0 (λc1=>A.ucI .i64 c1 (λn36 d0=>A.ucI .u8 d0 (λn38 d1=>A.uc0 d1 ( A.ari .add .i64 n31 1 (λn40=>A.opt (lenS U) (λd2=>A.ari .rem .i64 n40 d2 (λn42=>A.opt (idS 2 U n42) (λd3=>A.opt (fdP 0 d3) (λa3=>A.chk a3 ( A.peek (.lg cc 1 a3) a0 (λd4=>A.ucI .i64 d4 (λn46 d5=>A.uc0 d5 ( A.ari .sub .i64 n46 n36 (λn48=>A.ari .add .i64 n48 8 (λn49=>A.ari .rem .i64 n49 8 (λn50=>A.opt (idS 1 (.slice (some ⟨V,0,(some 11)⟩) (Int.toNat O) ((Int.toNat O)+1)) n31) (λx51=>A.heap (.st x51 [(.int .i64 n50)]) a0 (λf0 a1=>A.opt (idS 1 (.slice (some ⟨V,0,(some 11)⟩) (Int.toNat O) ((Int.toNat O)+1)) n31) (λd6=>A.peek (.lg cc 1 d6) a1 (λd7=>A.ucI .i64 d7 (λn56 d8=>A.uc0 d8 ( A.cmp .eql n56 0 (λd9=>A.join (λe0 e1=>A.un0 e0 ( A.ari .add .i64 n31 1 (λn61=>b6 [(.i n61)] e1))) (λa4=>A.cond d9 ( A.opt (idS 1 (.slice (some ⟨V,0,(some 11)⟩) (Int.toNat O) ((Int.toNat O)+1)) n31) (λx63=>A.heap (.st x63 [(.int .i64 8)]) a1 (λf1 e2=>a4 [] e2))) ( a4 [] a1))))))))))))))))))))))))))) ( K [(.v (.slice (some ⟨V,0,(some 11)⟩) (Int.toNat O) ((Int.toNat O)+1))),(.i 0)] a0))))) [(.i 0)] b5))))))))))))))))
/-- crimp/corners.Straight -/
def f32(ls:List Lf)(h:HT)(K:List Lf->HT->R):R:=A.unI ls (λn6 a4=>A.unI a4 (λn8 a5=>A.unV a5 (λa6 a7=>A.unI a7 (λn12 a8=>A.unI a8 (λn14 a9=>A.un0 a9 ( A.call 7 [(.i n6),(.i n8),(.v a6),(.i n12),(.i n14)] h (λb0 O=>A.unV b0 (λU b1=>A.unI b1 (λn20 b2=>A.un0 b2 ( A.join (λb3 b4=>A.unB b3 (λb5 b6=>A.unI b6 (λn26 b7=>A.un0 b7 ( K [(.b b5),(.i n26)] b4)))) (λV=>A.opt (lenS U) (λb8=>A.cmp .eql b8 2 (λb9=>A.cond b9 ( A.opt (idS 2 U 0) (λc0=>A.opt (fdP 1 c0) (λa0=>A.chk a0 ( A.peek (.lg cc 1 a0) O (λc1=>A.ucI .u8 c1 (λn34 d0=>A.uc0 d0 ( A.opt (idS 2 U 1) (λd1=>A.opt (fdP 1 d1) (λa1=>A.chk a1 ( A.peek (.lg cc 1 a1) O (λd2=>A.ucI .u8 d2 (λn39 d3=>A.uc0 d3 ( A.cmp .eql n34 n39 (λd4=>A.cond d4 ( A.opt (idS 2 U 1) (λx42=>A.opt (fdP 0 x42) (λa2=>A.chk a2 ( A.peek (.lg cc 1 a2) O (λd5=>A.ucI .i64 d5 (λn45 d6=>A.uc0 d6 ( A.opt (idS 2 U 0) (λd7=>A.opt (fdP 0 d7) (λa3=>A.chk a3 ( A.peek (.lg cc 1 a3) O (λd8=>A.ucI .i64 d8 (λn50 d9=>A.uc0 d9 ( A.ari .sub .i64 n45 n50 (λn52=>A.cmp .eql n52 4 (λe0=>V [(.b e0),(.i n20)] O))))))))))))))) ( V [(.b false),(.i n20)] O))))))))))))))) ( V [(.b false),(.i n20)] O))))))))))))))
/-- crimp/crimpref05.Units -/
def f33(ls:List Lf)(h:HT)(K:List Lf->HT->R):R:=A.unI ls (λn6 a4=>A.unI a4 (λn8 a5=>A.un0 a5 ( A.loop (λa6 a7 U=>A.unV a7 (λV a8=>A.unI a8 (λn15 a9=>A.un0 a9 ( A.ari .mul .i64 4 n6 (λn17=>A.ari .mul .i64 n17 n8 (λn18=>A.cmp .lss n15 n18 (λb0=>A.cond b0 ( A.loop (λb1 b2 a0=>A.unV b2 (λO b3=>A.unI b3 (λn25 b4=>A.un0 b4 ( A.cmp .lss n25 3 (λb5=>A.cond b5 ( A.call 58 [(.i n6),(.i n8),(.i n15),(.i n25)] a0 (λb6 a1=>A.unI b6 (λn30 b7=>A.un0 b7 ( A.cmp .gtr n30 n15 (λb8=>A.join (λb9 c0=>A.unV b9 (λc1 d0=>A.un0 d0 ( A.ari .add .i64 n25 1 (λn37=>b1 [(.v c1),(.i n37)] c0)))) (λa2=>A.cond b8 ( A.conv .u8 n25 (λn39=>A.new (.cells [(.int .i64 n15),(.int .u8 n39)] 2 true) a1 (λd1 d2=>A.heap (.ap cc 2 16 O (.slice (some ⟨d1,0,(some 12)⟩) 1 2)) d2 (λd3 d4=>A.ucV d3 (λa3 d5=>A.chk a3 ( A.uc0 d5 ( a2 [(.v a3)] d4))))))) ( a2 [(.v O)] a1))))))) ( A.ari .add .i64 n15 1 (λn46=>a6 [(.v O),(.i n46)] a0))))))) [(.v V),(.i 0)] U) ( K [(.v V)] U)))))))) [(.v (.slice none 0 0)),(.i 0)] h)))
/-- crimp/sheets.Check -/
def f34(ls:List Lf)(h:HT)(K:List Lf->HT->R):R:=A.unI ls (λn6 O=>A.unI O (λn8 U=>A.un0 U ( A.cmp .lss n6 1 (λV=>A.cond V ( K [(.i 1)] h) ( A.cmp .lss n8 1 (λa0=>A.cond a0 ( K [(.i 1)] h) ( A.cmp .gtr n6 256 (λa1=>A.cond a1 ( K [(.i 1)] h) ( A.cmp .gtr n8 256 (λa2=>A.cond a2 ( K [(.i 1)] h) ( A.ari .mul .i64 n6 n8 (λn14=>A.cmp .gtr n14 256 (λa3=>A.cond a3 ( K [(.i 1)] h) ( K [(.i 0)] h))))))))))))))
/-- (crimp/sheets.Sheet).has -/
def f35(ls:List Lf)(h:HT)(K:List Lf->HT->R):R:=A.unI ls (λn6 U=>A.unI U (λn8 V=>A.unI V (λn10 a0=>A.un0 a0 ( A.join (λa1 a2=>A.unB a1 (λa3 a4=>A.un0 a4 ( K [(.b a3)] a2))) (λO=>A.cmp .geq n10 0 (λa5=>A.cond a5 ( A.ari .mul .i64 4 n6 (λn18=>A.ari .mul .i64 n18 n8 (λn19=>A.cmp .lss n10 n19 (λa6=>O [(.b a6)] h)))) ( O [(.b false)] h)))))))
/-- (crimp/sheets.Sheet).cell -/
def f36(ls:List Lf)(h:HT)(K:List Lf->HT->R):R:=A.unI ls (λn6 O=>A.unI O (λn8 U=>A.unI U (λn10 V=>A.un0 V ( A.ari .quo .i64 n10 4 (λn12=>A.ari .rem .i64 n12 n6 (λn13=>A.ari .quo .i64 n10 4 (λn14=>A.ari .quo .i64 n14 n6 (λn15=>A.ari .rem .i64 n10 4 (λn16=>A.conv .u8 n16 (λn17=>K [(.i n13),(.i n15),(.i n17)] h))))))))))
/-- crimp/cells.Check -/
def f37(ls:List Lf)(h:HT)(K:List Lf->HT->R):R:=A.unI ls (λn6 O=>A.unI O (λn8 U=>A.unI U (λn10 V=>A.un0 V ( A.cmp .lss n6 (-4096) (λa0=>A.cond a0 ( K [(.i 1)] h) ( A.cmp .gtr n6 4096 (λa1=>A.cond a1 ( K [(.i 1)] h) ( A.cmp .lss n8 (-4096) (λa2=>A.cond a2 ( K [(.i 1)] h) ( A.cmp .gtr n8 4096 (λa3=>A.cond a3 ( K [(.i 1)] h) ( A.cmp .gtr n10 3 (λa4=>A.cond a4 ( K [(.i 1)] h) ( K [(.i 0)] h))))))))))))))
/-- crimp/sheets.Neighbour -/
def f38(ls:List Lf)(h:HT)(K:List Lf->HT->R):R:=A.unI ls (λn6 V=>A.unI V (λn8 a0=>A.unI a0 (λn10 a1=>A.unI a1 (λn12 a2=>A.un0 a2 ( A.call 13 [(.i n6),(.i n8),(.i n10)] h (λa3 O=>A.unI a3 (λn16 a4=>A.unI a4 (λn18 a5=>A.unI a5 (λn20 a6=>A.unI a6 (λn22 a7=>A.un0 a7 ( A.cmp .neq n22 0 (λa8=>A.cond a8 ( K [(.i 0),(.i n22)] O) ( A.call 49 [(.i n16),(.i n18),(.i n20),(.i n12)] O (λa9 U=>A.unI a9 (λn27 b0=>A.unI b0 (λn29 b1=>A.unI b1 (λn31 b2=>A.unI b2 (λn33 b3=>A.un0 b3 ( A.cmp .neq n33 0 (λb4=>A.cond b4 ( K [(.i 0),(.i 1)] U) ( A.call 14 [(.i n6),(.i n8),(.i n27),(.i n29),(.i n31)] U (λb5 b6=>A.unI b5 (λn38 b7=>A.unI b7 (λn40 b8=>A.un0 b8 ( K [(.i n38),(.i n40)] b6)))))))))))))))))))))))))
/-- slices.pdqsortCmpFunc[crimp/patterns.Crease] -/
def f39(ls:List Lf)(h:HT)(K:List Lf->HT->R):R:=A.unV ls (λO h0=>A.unI h0 (λn8 h1=>A.unI h1 (λn10 h2=>A.unI h2 (λn12 h3=>A.unV h3 (λU h4=>A.un0 h4 ( A.loop (λh5 h6 a8=>A.unI h6 (λn19 h7=>A.unI h7 (λn21 h8=>A.unB h8 (λa9 h9=>A.unB h9 (λa7 i0=>A.unI i0 (λn27 i1=>A.un0 i1 ( A.join (λi2 j0=>A.unI i2 (λn31 j1=>A.unI j1 (λn33 j2=>A.unB j2 (λj3 j4=>A.unB j4 (λj5 j6=>A.unI j6 (λn39 j7=>A.un0 j7 ( h5 [(.i n31),(.i n33),(.b j3),(.b j5),(.i n39)] j0))))))) (λa0=>A.ari .sub .i64 n27 n21 (λn42=>A.cmp .leq n42 12 (λj8=>A.cond j8 ( A.call 59 [(.v O),(.i n21),(.i n27),(.v U)] a8 (λj9 k0=>A.un0 j9 ( K [] k0))) ( A.cmp .eql n19 0 (λk1=>A.cond k1 ( A.call 60 [(.v O),(.i n21),(.i n27),(.v U)] a8 (λk2 k3=>A.un0 k2 ( K [] k3))) ( A.join (λk4 k5=>A.unI k4 (λn51 k6=>A.un0 k6 ( A.call 62 [(.v O),(.i n21),(.i n27),(.v U)] k5 (λk7 b3=>A.unI k7 (λn55 k8=>A.unI k8 (λn57 k9=>A.un0 k9 ( A.cmp .eql n57 2 (λl0=>A.join (λl1 V=>A.unI l1 (λn62 l2=>A.unI l2 (λn64 l3=>A.un0 l3 ( A.cond a7 ( A.cond a9 ( A.cmp .eql n64 1 (λl4=>A.join (λl5 b0=>A.un0 l5 ( A.cmp .gtr n21 0 (λl6=>A.cond l6 ( A.ari .sub .i64 n21 1 (λn70=>A.opt (idS 3 O n70) (λl7=>A.peek (.lg cc 3 l7) b0 (λl8=>A.ucI .i64 l8 (λn73 l9=>A.ucI .u8 l9 (λn75 m0=>A.ucI .u8 m0 (λm1 m2=>A.uc0 m2 ( A.opt (idS 3 O n62) (λm3=>A.peek (.lg cc 3 m3) b0 (λm4=>A.ucI .i64 m4 (λm5 m6=>A.ucI .u8 m6 (λn83 m7=>A.ucI .u8 m7 (λn85 m8=>A.uc0 m8 ( A.callv U [(.agg ⟨[(.int .i64 n73),(.int .u8 n75),(.int .u8 m1)]⟩),(.agg ⟨[(.int .i64 m5),(.int .u8 n83),(.int .u8 n85)]⟩)] [(.leaf (.i .i64))] b0 (λm9 b4=>A.unI m9 (λn89 n0=>A.un0 n0 ( A.cmp .lss n89 0 (λn1=>A.join (λn2 o0=>A.unI n2 (λn94 o1=>A.un0 o1 ( A.call 66 [(.v O),(.i n94),(.i n27),(.i n62),(.v U)] o0 (λo2 b5=>A.unI o2 (λa1 o3=>A.unB o3 (λo4 o5=>A.un0 o5 ( A.ari .sub .i64 a1 n94 (λn102=>A.ari .sub .i64 n27 a1 (λn103=>A.ari .quo .i64 n42 8 (λn104=>A.cmp .lss n102 n103 (λo6=>A.join (λo7 o8=>A.unB o7 (λo9 p0=>A.unI p0 (λn110 p1=>A.unI p1 (λn112 p2=>A.un0 p2 ( a0 [(.i n51),(.i n110),(.b o4),(.b o9),(.i n112)] o8))))) (λb6=>A.cond o6 ( A.cmp .geq n102 n104 (λp3=>A.call 39 [(.v O),(.i n94),(.i a1),(.i n51),(.v U)] b5 (λp4 p5=>A.un0 p4 ( A.ari .add .i64 a1 1 (λp6=>b6 [(.b p3),(.i p6),(.i n27)] p5))))) ( A.cmp .geq n103 n104 (λp7=>A.ari .add .i64 a1 1 (λp8=>A.call 39 [(.v O),(.i p8),(.i n27),(.i n51),(.v U)] b5 (λp9 q0=>A.un0 p9 ( b6 [(.b p7),(.i n94),(.i a1)] q0))))))))))))))))) (λq1=>A.cond (!n1) ( A.call 65 [(.v O),(.i n21),(.i n27),(.i n62),(.v U)] b4 (λq2 q3=>A.unI q2 (λq4 q5=>A.un0 q5 ( a0 [(.i n51),(.i q4),(.b a9),(.b a7),(.i n27)] q3)))) ( q1 [(.i n21)] b4)))))))))))))))))))) ( A.call 66 [(.v O),(.i n21),(.i n27),(.i n62),(.v U)] b0 (λq6 b7=>A.unI q6 (λa2 q7=>A.unB q7 (λr1 r2=>A.un0 r2 ( A.ari .sub .i64 a2 n21 (λb8=>A.ari .sub .i64 n27 a2 (λb9=>A.ari .quo .i64 n42 8 (λc0=>A.cmp .lss b8 b9 (λr3=>A.join (λr4 r5=>A.unB r4 (λr6 r7=>A.unI r7 (λr8 r9=>A.unI r9 (λs0 s1=>A.un0 s1 ( a0 [(.i n51),(.i r8),(.b r1),(.b r6),(.i s0)] r5))))) (λc1=>A.cond r3 ( A.cmp .geq b8 c0 (λs2=>A.call 39 [(.v O),(.i n21),(.i a2),(.i n51),(.v U)] b7 (λs3 s4=>A.un0 s3 ( A.ari .add .i64 a2 1 (λs5=>c1 [(.b s2),(.i s5),(.i n27)] s4))))) ( A.cmp .geq b9 c0 (λs6=>A.ari .add .i64 a2 1 (λs7=>A.call 39 [(.v O),(.i s7),(.i n27),(.i n51),(.v U)] b7 (λs8 s9=>A.un0 s8 ( c1 [(.b s6),(.i n21),(.i a2)] s9)))))))))))))))))) (λd0=>A.cond l4 ( A.call 64 [(.v O),(.i n21),(.i n27),(.v U)] V (λt0 d1=>A.unB t0 (λt1 t2=>A.un0 t2 ( A.cond t1 ( K [] d1) ( d0 [] d1))))) ( d0 [] V)))) ( A.cmp .gtr n21 0 (λt3=>A.cond t3 ( A.ari .sub .i64 n21 1 (λt4=>A.opt (idS 3 O t4) (λt5=>A.peek (.lg cc 3 t5) V (λt6=>A.ucI .i64 t6 (λt7 t8=>A.ucI .u8 t8 (λt9 uc=>A.ucI .u8 uc (λu0 u1=>A.uc0 u1 ( A.opt (idS 3 O n62) (λu2=>A.peek (.lg cc 3 u2) V (λu5=>A.ucI .i64 u5 (λu6 u7=>A.ucI .u8 u7 (λvo vp=>A.ucI .u8 vp (λvq vr=>A.uc0 vr ( A.callv U [(.agg ⟨[(.int .i64 t7),(.int .u8 t9),(.int .u8 u0)]⟩),(.agg ⟨[(.int .i64 u6),(.int .u8 vo),(.int .u8 vq)]⟩)] [(.leaf (.i .i64))] V (λvt d2=>A.unI vt (λvu vw=>A.un0 vw ( A.cmp .lss vu 0 (λvx=>A.join (λvy vz=>A.unI vy (λb1 vA=>A.un0 vA ( A.call 66 [(.v O),(.i b1),(.i n27),(.i n62),(.v U)] vz (λvB d3=>A.unI vB (λa3 vC=>A.unB vC (λvD vE=>A.un0 vE ( A.ari .sub .i64 a3 b1 (λd4=>A.ari .sub .i64 n27 a3 (λd5=>A.ari .quo .i64 n42 8 (λd6=>A.cmp .lss d4 d5 (λvF=>A.join (λvG vH=>A.unB vG (λvI vJ=>A.unI vJ (λvK vL=>A.unI vL (λvM vN=>A.un0 vN ( a0 [(.i n51),(.i vK),(.b vD),(.b vI),(.i vM)] vH))))) (λd7=>A.cond vF ( A.cmp .geq d4 d6 (λvO=>A.call 39 [(.v O),(.i b1),(.i a3),(.i n51),(.v U)] d3 (λvP vQ=>A.un0 vP ( A.ari .add .i64 a3 1 (λvR=>d7 [(.b vO),(.i vR),(.i n27)] vQ))))) ( A.cmp .geq d5 d6 (λvS=>A.ari .add .i64 a3 1 (λvT=>A.call 39 [(.v O),(.i vT),(.i n27),(.i n51),(.v U)] d3 (λvU vV=>A.un0 vU ( d7 [(.b vS),(.i b1),(.i a3)] vV))))))))))))))))) (λvW=>A.cond (!vx) ( A.call 65 [(.v O),(.i n21),(.i n27),(.i n62),(.v U)] d2 (λvX vY=>A.unI vX (λvZ v0=>A.un0 v0 ( a0 [(.i n51),(.i vZ),(.b a9),(.b a7),(.i n27)] vY)))) ( vW [(.i n21)] d2)))))))))))))))))))) ( A.call 66 [(.v O),(.i n21),(.i n27),(.i n62),(.v U)] V (λv1 d8=>A.unI v1 (λa4 v2=>A.unB v2 (λv3 v4=>A.un0 v4 ( A.ari .sub .i64 a4 n21 (λd9=>A.ari .sub .i64 n27 a4 (λe0=>A.ari .quo .i64 n42 8 (λe1=>A.cmp .lss d9 e0 (λv5=>A.join (λv6 v7=>A.unB v6 (λv8 v9=>A.unI v9 (λwc we=>A.unI we (λwg wh=>A.un0 wh ( a0 [(.i n51),(.i wc),(.b v3),(.b v8),(.i wg)] v7))))) (λe2=>A.cond v5 ( A.cmp .geq d9 e1 (λwi=>A.call 39 [(.v O),(.i n21),(.i a4),(.i n51),(.v U)] d8 (λwj wk=>A.un0 wj ( A.ari .add .i64 a4 1 (λwl=>e2 [(.b wi),(.i wl),(.i n27)] wk))))) ( A.cmp .geq e0 e1 (λwm=>A.ari .add .i64 a4 1 (λwn=>A.call 39 [(.v O),(.i wn),(.i n27),(.i n51),(.v U)] d8 (λwo wp=>A.un0 wo ( e2 [(.b wm),(.i n21),(.i a4)] wp)))))))))))))))))) ( A.cmp .gtr n21 0 (λwq=>A.cond wq ( A.ari .sub .i64 n21 1 (λwt=>A.opt (idS 3 O wt) (λwu=>A.peek (.lg cc 3 wu) V (λwv=>A.ucI .i64 wv (λww wx=>A.ucI .u8 wx (λwy wz=>A.ucI .u8 wz (λwA wB=>A.uc0 wB ( A.opt (idS 3 O n62) (λwC=>A.peek (.lg cc 3 wC) V (λwD=>A.ucI .i64 wD (λwE wF=>A.ucI .u8 wF (λwG wH=>A.ucI .u8 wH (λwI wJ=>A.uc0 wJ ( A.callv U [(.agg ⟨[(.int .i64 ww),(.int .u8 wy),(.int .u8 wA)]⟩),(.agg ⟨[(.int .i64 wE),(.int .u8 wG),(.int .u8 wI)]⟩)] [(.leaf (.i .i64))] V (λwK f0=>A.unI wK (λwL wM=>A.un0 wM ( A.cmp .lss wL 0 (λwN=>A.join (λwO wP=>A.unI wO (λb2 wQ=>A.un0 wQ ( A.call 66 [(.v O),(.i b2),(.i n27),(.i n62),(.v U)] wP (λwR f1=>A.unI wR (λa5 wS=>A.unB wS (λwT wU=>A.un0 wU ( A.ari .sub .i64 a5 b2 (λf2=>A.ari .sub .i64 n27 a5 (λg0=>A.ari .quo .i64 n42 8 (λg1=>A.cmp .lss f2 g0 (λwV=>A.join (λwW wX=>A.unB wW (λwY wZ=>A.unI wZ (λw0 w1=>A.unI w1 (λw2 xa=>A.un0 xa ( a0 [(.i n51),(.i w0),(.b wT),(.b wY),(.i w2)] wX))))) (λg2=>A.cond wV ( A.cmp .geq f2 g1 (λxd=>A.call 39 [(.v O),(.i b2),(.i a5),(.i n51),(.v U)] f1 (λxe xf=>A.un0 xe ( A.ari .add .i64 a5 1 (λxg=>g2 [(.b xd),(.i xg),(.i n27)] xf))))) ( A.cmp .geq g0 g1 (λxh=>A.ari .add .i64 a5 1 (λxi=>A.call 39 [(.v O),(.i xi),(.i n27),(.i n51),(.v U)] f1 (λxj xk=>A.un0 xj ( g2 [(.b xh),(.i b2),(.i a5)] xk))))))))))))))))) (λxl=>A.cond (!wN) ( A.call 65 [(.v O),(.i n21),(.i n27),(.i n62),(.v U)] f0 (λxm xn=>A.unI xm (λxp xq=>A.un0 xq ( a0 [(.i n51),(.i xp),(.b a9),(.b a7),(.i n27)] xn)))) ( xl [(.i n21)] f0)))))))))))))))))))) ( A.call 66 [(.v O),(.i n21),(.i n27),(.i n62),(.v U)] V (λxr g3=>A.unI xr (λa6 xt=>A.unB xt (λxu xw=>A.un0 xw ( A.ari .sub .i64 a6 n21 (λg4=>A.ari .sub .i64 n27 a6 (λg5=>A.ari .quo .i64 n42 8 (λg6=>A.cmp .lss g4 g5 (λxy=>A.join (λxz xA=>A.unB xz (λxB xC=>A.unI xC (λxD xE=>A.unI xE (λxF xG=>A.un0 xG ( a0 [(.i n51),(.i xD),(.b xu),(.b xB),(.i xF)] xA))))) (λg7=>A.cond xy ( A.cmp .geq g4 g6 (λxH=>A.call 39 [(.v O),(.i n21),(.i a6),(.i n51),(.v U)] g3 (λxI xJ=>A.un0 xI ( A.ari .add .i64 a6 1 (λxK=>g7 [(.b xH),(.i xK),(.i n27)] xJ))))) ( A.cmp .geq g5 g6 (λxM=>A.ari .add .i64 a6 1 (λxN=>A.call 39 [(.v O),(.i xN),(.i n27),(.i n51),(.v U)] g3 (λxO xP=>A.un0 xO ( g7 [(.b xM),(.i n21),(.i a6)] xP))))))))))))))))))))) (λg8=>A.cond l0 ( A.call 63 [(.v O),(.i n21),(.i n27),(.v U)] b3 (λxQ xR=>A.un0 xQ ( A.ari .sub .i64 n27 1 (λxS=>A.ari .sub .i64 n55 n21 (λxU=>A.ari .sub .i64 xS xU (λxV=>g8 [(.i xV),(.i 1)] xR)))))) ( g8 [(.i n55),(.i n57)] b3)))))))))) (λg9=>A.cond (!a7) ( A.call 61 [(.v O),(.i n21),(.i n27),(.v U)] a8 (λxW xX=>A.un0 xW ( A.ari .sub .i64 n19 1 (λxY=>g9 [(.i xY)] xX)))) ( g9 [(.i n19)] a8))))))))))))))) [(.i n12),(.i n8),(.b true),(.b true),(.i n10)] h))))))
/-- math/bits.Len -/
def f40(ls:List Lf)(h:HT)(K:List Lf->HT->R):R:=A.unI ls (λn6 O=>A.un0 O ( A.call 68 [(.i n6)] h (λU V=>A.unI U (λn10 a0=>A.un0 a0 ( K [(.i n10)] V)))))
/-- slices.Clip[[]crimp/api.Point,crimp/api.Point] -/
def f41(ls:List Lf)(h:HT)(K:List Lf->HT->R):R:=A.unV ls (λO V=>A.un0 V ( A.opt (lenS O) (λa0=>A.opt (lenS O) (λa1=>A.opt (slS 2 O none (some a0) (some a1)) (λU=>A.chk U ( K [(.v U)] h))))))
/-- slices.ContainsFunc[[]crimp/patterns.Crease,crimp/patterns.Crease] -/
def f42(ls:List Lf)(h:HT)(K:List Lf->HT->R):R:=A.unV ls (λO U=>A.unV U (λV a0=>A.un0 a0 ( A.call 69 [(.v O),(.v V)] h (λa1 a2=>A.unI a1 (λn12 a3=>A.un0 a3 ( A.cmp .geq n12 0 (λa4=>K [(.b a4)] a2)))))))
/-- crimp/patterns.Check$1 -/
def f43(ls:List Lf)(h:HT)(K:List Lf->HT->R):R:=A.unI ls (λn6 O=>A.unI O (λn8 U=>A.unI U (λn10 V=>A.un0 V ( A.call 44 [(.i n10)] h (λa0 a1=>A.unB a0 (λa2 a3=>A.un0 a3 ( K [(.b (!a2))] a1)))))))
/-- crimp/patterns.isKind -/
def f44(ls:List Lf)(h:HT)(K:List Lf->HT->R):R:=A.unI ls (λn6 U=>A.un0 U ( A.join (λV a0=>A.unB V (λa1 a2=>A.un0 a2 ( K [(.b a1)] a0))) (λO=>A.cmp .geq n6 1 (λa3=>A.cond a3 ( A.cmp .leq n6 3 (λa4=>O [(.b a4)] h)) ( O [(.b false)] h)))))
/-- crimp/corners.walk$1 -/
def f45(ls:List Lf)(h:HT)(K:List Lf->HT->R):R:=A.unV ls (λa6 d4=>A.unV d4 (λO d5=>A.unV d5 (λa1 d6=>A.un0 d6 ( A.opt (fdP 0 O) (λx12=>A.chk x12 ( A.peek (.lg cc 1 x12) h (λd7=>A.ucI .i64 d7 (λn14 d8=>A.uc0 d8 ( A.ari .quo .i64 n14 2 (λn16=>A.opt (fdP 1 O) (λa7=>A.chk a7 ( A.peek (.lg cc 1 a7) h (λd9=>A.ucI .i64 d9 (λn19 e0=>A.uc0 e0 ( A.ari .quo .i64 n19 2 (λn21=>A.opt (fdP 0 O) (λa8=>A.chk a8 ( A.peek (.lg cc 1 a8) h (λe1=>A.ucI .i64 e1 (λn24 e2=>A.uc0 e2 ( A.ari .rem .i64 n24 2 (λn26=>A.cmp .neq n26 0 (λf0=>A.join (λf1 f2=>A.unI f1 (λn30 g0=>A.unI g0 (λn32 g1=>A.unI g1 (λn34 g2=>A.un0 g2 ( A.loop (λa9 g3 b0=>A.unI g3 (λn39 g4=>A.unI g4 (λn41 g5=>A.unI g5 (λn43 g6=>A.unI g6 (λn45 g7=>A.un0 g7 ( A.peek (.lg cc 2 a1) b0 (λg8=>A.ucI .i64 g8 (λn48 g9=>A.ucI .i64 g9 (λn50 h0=>A.uc0 h0 ( A.call 14 [(.i n48),(.i n50),(.i n41),(.i n43),(.i n45)] b0 (λh1 h2=>A.unI h1 (λn54 h3=>A.unI h3 (λn56 h4=>A.un0 h4 ( A.loop (λh5 h6 a2=>A.unI h6 (λn61 h7=>A.unI h7 (λn63 h8=>A.unI h8 (λU h9=>A.unI h9 (λV i0=>A.unI i0 (λn69 i1=>A.un0 i1 ( A.cmp .lss n63 3 (λi2=>A.cond i2 ( A.join (λj0 j1=>A.unI j0 (λn74 j2=>A.unI j2 (λj3 j4=>A.unI j4 (λj5 j6=>A.unI j6 (λj7 j8=>A.un0 j8 ( A.ari .add .u8 n63 1 (λj9=>h5 [(.i n74),(.i j9),(.i j3),(.i j5),(.i j7)] j1))))))) (λa3=>A.peek (.lg cc 2 O) a2 (λk0=>A.ucI .i64 k0 (λn85 k1=>A.ucI .i64 k1 (λn87 k2=>A.uc0 k2 ( A.call 46 [(.i U),(.i V),(.i n69),(.i n63),(.i n85),(.i n87)] a2 (λk3 a0=>A.unB k3 (λk4 k5=>A.un0 k5 ( A.cond (!k4) ( a3 [(.i n61),(.i U),(.i V),(.i n69)] a0) ( A.cmp .eql n63 n61 (λk6=>A.cond k6 ( a3 [(.i n61),(.i U),(.i V),(.i n69)] a0) ( A.cmp .eql n61 3 (λk7=>A.cond k7 ( A.peek (.lg cc 2 O) a0 (λk8=>A.ucI .i64 k8 (λn96 k9=>A.ucI .i64 k9 (λl0 l1=>A.uc0 l1 ( A.call 47 [(.i U),(.i V),(.i n69),(.i n63),(.i n96),(.i l0)] a0 (λl2 b1=>A.unB l2 (λl3 l4=>A.un0 l4 ( A.join (λl5 b2=>A.un0 l5 ( A.peek (.lg cc 2 a1) b2 (λl6=>A.ucI .i64 l6 (λn107 l7=>A.ucI .i64 l7 (λn109 l8=>A.uc0 l8 ( A.call 15 [(.i n107),(.i n109),(.i n54),(.i n63)] b2 (λl9 a4=>A.unI l9 (λn113 m0=>A.unI m0 (λn115 m1=>A.unI m1 (λs9 m2=>A.un0 m2 ( A.peek (.lg cc 2 a1) a4 (λm3=>A.ucI .i64 m3 (λm4 m5=>A.ucI .i64 m5 (λm6 m7=>A.uc0 m7 ( A.peek (.lg cc 2 O) a4 (λm8=>A.ucI .i64 m8 (λm9 n0=>A.ucI .i64 n0 (λn1 n2=>A.uc0 n2 ( A.call 48 [(.i m4),(.i m6),(.i n113),(.i n115),(.i m9),(.i n1)] a4 (λo0 o1=>A.unI o0 (λo2 o3=>A.un0 o3 ( A.callv a6 [(.int .i64 n54),(.agg ⟨[(.int .i64 o2),(.int .i64 n113),(.int .u8 n115)]⟩)] [(.leaf .b)] o1 (λo4 b3=>A.unB o4 (λo5 o6=>A.un0 o6 ( A.cond (!o5) ( K [] b3) ( A.call 49 [(.i U),(.i V),(.i n69),(.i n63)] b3 (λo7 b4=>A.unI o7 (λb5 o8=>A.unI o8 (λb6 o9=>A.unI o9 (λb7 p0=>A.unI p0 (λt0 p1=>A.un0 p1 ( A.eqs [((.i b5),(.i n30)),((.i b6),(.i n32)),((.i b7),(.i n34))] (λp2=>A.cond p2 ( K [] b4) ( a9 [(.i n63),(.i b5),(.i b6),(.i b7)] b4)))))))))))))))))))))))))))))))))) (λp3=>A.cond (!l3) ( a3 [(.i n61),(.i U),(.i V),(.i n69)] b1) ( p3 [] b1)))))))))) ( A.peek (.lg cc 2 a1) a0 (λp4=>A.ucI .i64 p4 (λp5 p6=>A.ucI .i64 p6 (λp7 p8=>A.uc0 p8 ( A.call 15 [(.i p5),(.i p7),(.i n54),(.i n63)] a0 (λp9 a5=>A.unI p9 (λb8 q0=>A.unI q0 (λb9 q1=>A.unI q1 (λt1 q2=>A.un0 q2 ( A.peek (.lg cc 2 a1) a5 (λq3=>A.ucI .i64 q3 (λq4 q5=>A.ucI .i64 q5 (λq6 q7=>A.uc0 q7 ( A.peek (.lg cc 2 O) a5 (λr1=>A.ucI .i64 r1 (λr2 r3=>A.ucI .i64 r3 (λr4 r5=>A.uc0 r5 ( A.call 48 [(.i q4),(.i q6),(.i b8),(.i b9),(.i r2),(.i r4)] a5 (λr6 r7=>A.unI r6 (λr8 r9=>A.un0 r9 ( A.callv a6 [(.int .i64 n54),(.agg ⟨[(.int .i64 r8),(.int .i64 b8),(.int .u8 b9)]⟩)] [(.leaf .b)] r7 (λs0 c0=>A.unB s0 (λs1 s2=>A.un0 s2 ( A.cond (!s1) ( K [] c0) ( A.call 49 [(.i U),(.i V),(.i n69),(.i n63)] c0 (λs3 c1=>A.unI s3 (λd0 s4=>A.unI s4 (λd1 s5=>A.unI s5 (λd2 s6=>A.unI s6 (λt2 s7=>A.un0 s7 ( A.eqs [((.i d0),(.i n30)),((.i d1),(.i n32)),((.i d2),(.i n34))] (λs8=>A.cond s8 ( K [] c1) ( a9 [(.i n63),(.i d0),(.i d1),(.i d2)] c1)))))))))))))))))))))))))))))))))))))))))))))) ( K [] a2))))))))) [(.i n39),(.i 0),(.i n41),(.i n43),(.i n45)] h2)))))))))))))) [(.i 3),(.i n30),(.i n32),(.i n34)] f2))))) (λd3=>A.cond f0 ( d3 [(.i n16),(.i n21),(.i 2)] h) ( d3 [(.i n16),(.i n21),(.i 0)] h)))))))))))))))))))))))))
/-- crimp/corners.touches -/
def f46(ls:List Lf)(h:HT)(K:List Lf->HT->R):R:=A.unI ls (λn6 O=>A.unI O (λn8 U=>A.unI U (λn10 V=>A.unI V (λn12 a0=>A.unI a0 (λn14 a1=>A.unI a1 (λn16 a2=>A.un0 a2 ( A.call 70 [(.i n6),(.i n8),(.i n10)] h (λa3 a4=>A.unI a3 (λn20 a5=>A.unI a5 (λn22 a6=>A.unI a6 (λn24 a7=>A.unI a7 (λn26 a8=>A.unI a8 (λn28 a9=>A.unI a9 (λn30 b0=>A.unI b0 (λn32 b1=>A.un0 b1 ( A.opt (inB 3 n12) (λb6=>A.opt (eh [(.i n20),(.i n22),(.i n24),(.i n26),(.i n28),(.i n30)] 0 [(n12,2)] 2) (λb2=>A.unI b2 (λn36 b3=>A.unI b3 (λn38 b4=>A.un0 b4 ( A.eqs [((.i n36),(.i n14)),((.i n38),(.i n16))] (λb5=>K [(.b (!b5))] a4))))))))))))))))))))))
/-- crimp/corners.leaves -/
def f47(ls:List Lf)(h:HT)(K:List Lf->HT->R):R:=A.unI ls (λn6 O=>A.unI O (λn8 U=>A.unI U (λn10 V=>A.unI V (λn12 a0=>A.unI a0 (λn14 a1=>A.unI a1 (λn16 a2=>A.un0 a2 ( A.ari .rem .i64 n14 2 (λn18=>A.cmp .neq n18 0 (λa3=>A.cond a3 ( A.cmp .eql n12 1 (λa4=>K [(.b a4)] h)) ( A.cmp .eql n12 2 (λa5=>K [(.b a5)] h)))))))))))
/-- crimp/corners.direction -/
def f48(ls:List Lf)(h:HT)(K:List Lf->HT->R):R:=A.unI ls (λn6 a0=>A.unI a0 (λn8 a1=>A.unI a1 (λn10 a2=>A.unI a2 (λn12 a3=>A.unI a3 (λn14 a4=>A.unI a4 (λn16 a5=>A.un0 a5 ( A.call 71 [(.i n6),(.i n8),(.i n10),(.i n12)] h (λa6 O=>A.unI a6 (λn20 a7=>A.unI a7 (λn22 a8=>A.unI a8 (λn24 a9=>A.unI a9 (λn26 b0=>A.unI b0 (λn28 b1=>A.un0 b1 ( A.eqs [((.i n20),(.i n14)),((.i n22),(.i n16))] (λb2=>A.join (λb3 b4=>A.unI b3 (λn33 b5=>A.unI b5 (λn35 b6=>A.un0 b6 ( A.ari .sub .i64 n33 n14 (λn37=>A.call 72 [(.i n37)] b4 (λb7 b8=>A.unI b7 (λn40 b9=>A.un0 b9 ( A.ari .sub .i64 n35 n16 (λn42=>A.call 72 [(.i n42)] b8 (λc0 c1=>A.unI c0 (λn45 d0=>A.un0 d0 ( A.opt (ca cc 149 ⟨1,0,(some 1)⟩ none none none []) (λU=>A.chk U ( A.call 73 [(.v U),(.i n40),(.i n45)] c1 (λd1 d2=>A.unI d1 (λn50 d3=>A.un0 d3 ( K [(.i n50)] d2))))))))))))))))) (λV=>A.cond b2 ( V [(.i n24),(.i n26)] O) ( V [(.i n20),(.i n22)] O)))))))))))))))))
/-- crimp/cells.Neighbour -/
def f49(ls:List Lf)(h:HT)(K:List Lf->HT->R):R:=A.unI ls (λn6 V=>A.unI V (λn8 a0=>A.unI a0 (λn10 a1=>A.unI a1 (λn12 a2=>A.un0 a2 ( A.call 37 [(.i n6),(.i n8),(.i n10)] h (λa3 O=>A.unI a3 (λn16 a4=>A.un0 a4 ( A.cmp .neq n16 0 (λa5=>A.cond a5 ( K [(.i 0),(.i 0),(.i 0),(.i 1)] O) ( A.cmp .gtr n12 2 (λa6=>A.cond a6 ( K [(.i 0),(.i 0),(.i 0),(.i 1)] O) ( A.opt (inB 4 n10) (λb4=>A.opt (inB 3 n12) (λx21=>A.opt (se gl2 4 [(n10,17),(n12,3)] 3) (λa7=>A.ucI .i64 a7 (λn23 a8=>A.ucI .i64 a8 (λn25 a9=>A.ucI .u8 a9 (λn27 b0=>A.uc0 b0 ( A.ari .add .i64 n23 n6 (λn29=>A.ari .add .i64 n25 n8 (λn30=>A.call 37 [(.i n29),(.i n30),(.i n27)] O (λb1 U=>A.unI b1 (λn33 b2=>A.un0 b2 ( A.cmp .neq n33 0 (λb3=>A.cond b3 ( K [(.i 0),(.i 0),(.i 0),(.i 3)] U) ( K [(.i n29),(.i n30),(.i n27),(.i 0)] U))))))))))))))))))))))))))
/-- crimp/patterns.at -/
def f50(ls:List Lf)(h:HT)(K:List Lf->HT->R):R:=A.unI ls (λn6 a0=>A.unI a0 (λn8 a1=>A.unV a1 (λO a2=>A.unI a2 (λn12 a3=>A.unI a3 (λn14 a4=>A.un0 a4 ( A.call 21 [(.i n6),(.i n8),(.v O)] h (λa5 U=>A.unI a5 (λn18 a6=>A.un0 a6 ( A.cmp .neq n18 0 (λa7=>A.cond a7 ( K [(.i 0),(.i 0),(.i 0),(.b false),(.i n18)] U) ( A.call 15 [(.i n6),(.i n8),(.i n12),(.i n14)] U (λa8 V=>A.unI a8 (λn23 a9=>A.unI a9 (λn25 b0=>A.unI b0 (λn27 b1=>A.un0 b1 ( A.cmp .neq n27 0 (λb2=>A.cond b2 ( K [(.i 0),(.i 0),(.i 0),(.b false),(.i n27)] V) ( A.call 74 [(.v O),(.i n23),(.i n25)] V (λb3 b4=>A.unI b3 (λn32 b5=>A.unB b5 (λb6 b7=>A.un0 b7 ( K [(.i n23),(.i n25),(.i n32),(.b b6),(.i 0)] b4))))))))))))))))))))))
/-- slices.pdqsortCmpFunc[crimp/corners.Ray] -/
def f51(ls:List Lf)(h:HT)(K:List Lf->HT->R):R:=A.unV ls (λO h2=>A.unI h2 (λn8 h3=>A.unI h3 (λn10 h4=>A.unI h4 (λn12 h5=>A.unV h5 (λU h6=>A.un0 h6 ( A.loop (λh7 h8 a7=>A.unI h8 (λn19 h9=>A.unI h9 (λn21 i0=>A.unB i0 (λa8 i1=>A.unB i1 (λa6 i2=>A.unI i2 (λn27 j0=>A.un0 j0 ( A.join (λj1 j2=>A.unI j1 (λn31 j3=>A.unI j3 (λn33 j4=>A.unB j4 (λj5 j6=>A.unB j6 (λj7 j8=>A.unI j8 (λn39 j9=>A.un0 j9 ( h7 [(.i n31),(.i n33),(.b j5),(.b j7),(.i n39)] j2))))))) (λa0=>A.ari .sub .i64 n27 n21 (λn42=>A.cmp .leq n42 12 (λk0=>A.cond k0 ( A.call 75 [(.v O),(.i n21),(.i n27),(.v U)] a7 (λk1 k2=>A.un0 k1 ( K [] k2))) ( A.cmp .eql n19 0 (λk3=>A.cond k3 ( A.call 76 [(.v O),(.i n21),(.i n27),(.v U)] a7 (λk4 k5=>A.un0 k4 ( K [] k5))) ( A.join (λk6 k7=>A.unI k6 (λn51 k8=>A.un0 k8 ( A.call 78 [(.v O),(.i n21),(.i n27),(.v U)] k7 (λk9 b2=>A.unI k9 (λn55 l0=>A.unI l0 (λn57 l1=>A.un0 l1 ( A.cmp .eql n57 2 (λl2=>A.join (λl3 V=>A.unI l3 (λn62 l4=>A.unI l4 (λn64 l5=>A.un0 l5 ( A.cond a6 ( A.cond a8 ( A.cmp .eql n64 1 (λl6=>A.join (λl7 a9=>A.un0 l7 ( A.cmp .gtr n21 0 (λl8=>A.cond l8 ( A.ari .sub .i64 n21 1 (λn70=>A.opt (idS 2 O n70) (λl9=>A.peek (.lg cc 2 l9) a9 (λm0=>A.ucI .i64 m0 (λn73 m1=>A.ucI .u8 m1 (λn75 m2=>A.uc0 m2 ( A.opt (idS 2 O n62) (λm3=>A.peek (.lg cc 2 m3) a9 (λm4=>A.ucI .i64 m4 (λm5 m6=>A.ucI .u8 m6 (λm7 m8=>A.uc0 m8 ( A.callv U [(.agg ⟨[(.int .i64 n73),(.int .u8 n75)]⟩),(.agg ⟨[(.int .i64 m5),(.int .u8 m7)]⟩)] [(.leaf (.i .i64))] a9 (λm9 b3=>A.unI m9 (λn85 n0=>A.un0 n0 ( A.cmp .lss n85 0 (λn1=>A.join (λn2 o0=>A.unI n2 (λn90 o1=>A.un0 o1 ( A.call 82 [(.v O),(.i n90),(.i n27),(.i n62),(.v U)] o0 (λo2 b4=>A.unI o2 (λn94 o3=>A.unB o3 (λo4 o5=>A.un0 o5 ( A.ari .sub .i64 n94 n90 (λb5=>A.ari .sub .i64 n27 n94 (λb6=>A.ari .quo .i64 n42 8 (λb7=>A.cmp .lss b5 b6 (λo6=>A.join (λo7 o8=>A.unB o7 (λo9 p0=>A.unI p0 (λn106 p1=>A.unI p1 (λn108 p2=>A.un0 p2 ( a0 [(.i n51),(.i n106),(.b o4),(.b o9),(.i n108)] o8))))) (λb8=>A.cond o6 ( A.cmp .geq b5 b7 (λp3=>A.call 51 [(.v O),(.i n90),(.i n94),(.i n51),(.v U)] b4 (λp4 p5=>A.un0 p4 ( A.ari .add .i64 n94 1 (λn114=>b8 [(.b p3),(.i n114),(.i n27)] p5))))) ( A.cmp .geq b6 b7 (λp6=>A.ari .add .i64 n94 1 (λn116=>A.call 51 [(.v O),(.i n116),(.i n27),(.i n51),(.v U)] b4 (λp7 p8=>A.un0 p7 ( b8 [(.b p6),(.i n90),(.i n94)] p8))))))))))))))))) (λp9=>A.cond (!n1) ( A.call 81 [(.v O),(.i n21),(.i n27),(.i n62),(.v U)] b3 (λq0 q1=>A.unI q0 (λq2 q3=>A.un0 q3 ( a0 [(.i n51),(.i q2),(.b a8),(.b a6),(.i n27)] q1)))) ( p9 [(.i n21)] b3)))))))))))))))))) ( A.call 82 [(.v O),(.i n21),(.i n27),(.i n62),(.v U)] a9 (λq4 b9=>A.unI q4 (λa1 q5=>A.unB q5 (λq6 q7=>A.un0 q7 ( A.ari .sub .i64 a1 n21 (λc0=>A.ari .sub .i64 n27 a1 (λc1=>A.ari .quo .i64 n42 8 (λd0=>A.cmp .lss c0 c1 (λr1=>A.join (λr2 r3=>A.unB r2 (λr4 r5=>A.unI r5 (λr6 r7=>A.unI r7 (λr8 r9=>A.un0 r9 ( a0 [(.i n51),(.i r6),(.b q6),(.b r4),(.i r8)] r3))))) (λd1=>A.cond r1 ( A.cmp .geq c0 d0 (λs0=>A.call 51 [(.v O),(.i n21),(.i a1),(.i n51),(.v U)] b9 (λs1 s2=>A.un0 s1 ( A.ari .add .i64 a1 1 (λs3=>d1 [(.b s0),(.i s3),(.i n27)] s2))))) ( A.cmp .geq c1 d0 (λs4=>A.ari .add .i64 a1 1 (λs5=>A.call 51 [(.v O),(.i s5),(.i n27),(.i n51),(.v U)] b9 (λs6 s7=>A.un0 s6 ( d1 [(.b s4),(.i n21),(.i a1)] s7)))))))))))))))))) (λd2=>A.cond l6 ( A.call 80 [(.v O),(.i n21),(.i n27),(.v U)] V (λs8 d3=>A.unB s8 (λs9 t0=>A.un0 t0 ( A.cond s9 ( K [] d3) ( d2 [] d3))))) ( d2 [] V)))) ( A.cmp .gtr n21 0 (λt1=>A.cond t1 ( A.ari .sub .i64 n21 1 (λt2=>A.opt (idS 2 O t2) (λt3=>A.peek (.lg cc 2 t3) V (λt4=>A.ucI .i64 t4 (λt5 t6=>A.ucI .u8 t6 (λt7 t8=>A.uc0 t8 ( A.opt (idS 2 O n62) (λt9=>A.peek (.lg cc 2 t9) V (λuc=>A.ucI .i64 uc (λu0 u1=>A.ucI .u8 u1 (λu2 u5=>A.uc0 u5 ( A.callv U [(.agg ⟨[(.int .i64 t5),(.int .u8 t7)]⟩),(.agg ⟨[(.int .i64 u0),(.int .u8 u2)]⟩)] [(.leaf (.i .i64))] V (λu6 d4=>A.unI u6 (λu7 vo=>A.un0 vo ( A.cmp .lss u7 0 (λvp=>A.join (λvq vr=>A.unI vq (λb0 vt=>A.un0 vt ( A.call 82 [(.v O),(.i b0),(.i n27),(.i n62),(.v U)] vr (λvu d5=>A.unI vu (λa2 vw=>A.unB vw (λvx vy=>A.un0 vy ( A.ari .sub .i64 a2 b0 (λd6=>A.ari .sub .i64 n27 a2 (λd7=>A.ari .quo .i64 n42 8 (λd8=>A.cmp .lss d6 d7 (λvz=>A.join (λvA vB=>A.unB vA (λvC vD=>A.unI vD (λvE vF=>A.unI vF (λvG vH=>A.un0 vH ( a0 [(.i n51),(.i vE),(.b vx),(.b vC),(.i vG)] vB))))) (λd9=>A.cond vz ( A.cmp .geq d6 d8 (λvI=>A.call 51 [(.v O),(.i b0),(.i a2),(.i n51),(.v U)] d5 (λvJ vK=>A.un0 vJ ( A.ari .add .i64 a2 1 (λvL=>d9 [(.b vI),(.i vL),(.i n27)] vK))))) ( A.cmp .geq d7 d8 (λvM=>A.ari .add .i64 a2 1 (λvN=>A.call 51 [(.v O),(.i vN),(.i n27),(.i n51),(.v U)] d5 (λvO vP=>A.un0 vO ( d9 [(.b vM),(.i b0),(.i a2)] vP))))))))))))))))) (λvQ=>A.cond (!vp) ( A.call 81 [(.v O),(.i n21),(.i n27),(.i n62),(.v U)] d4 (λvR vS=>A.unI vR (λvT vU=>A.un0 vU ( a0 [(.i n51),(.i vT),(.b a8),(.b a6),(.i n27)] vS)))) ( vQ [(.i n21)] d4)))))))))))))))))) ( A.call 82 [(.v O),(.i n21),(.i n27),(.i n62),(.v U)] V (λvV e0=>A.unI vV (λa3 vW=>A.unB vW (λvX vY=>A.un0 vY ( A.ari .sub .i64 a3 n21 (λe1=>A.ari .sub .i64 n27 a3 (λe2=>A.ari .quo .i64 n42 8 (λf0=>A.cmp .lss e1 e2 (λvZ=>A.join (λv0 v1=>A.unB v0 (λv2 v3=>A.unI v3 (λv4 v5=>A.unI v5 (λv6 v7=>A.un0 v7 ( a0 [(.i n51),(.i v4),(.b vX),(.b v2),(.i v6)] v1))))) (λf1=>A.cond vZ ( A.cmp .geq e1 f0 (λv8=>A.call 51 [(.v O),(.i n21),(.i a3),(.i n51),(.v U)] e0 (λv9 wc=>A.un0 v9 ( A.ari .add .i64 a3 1 (λwe=>f1 [(.b v8),(.i we),(.i n27)] wc))))) ( A.cmp .geq e2 f0 (λwg=>A.ari .add .i64 a3 1 (λwh=>A.call 51 [(.v O),(.i wh),(.i n27),(.i n51),(.v U)] e0 (λwi wj=>A.un0 wi ( f1 [(.b wg),(.i n21),(.i a3)] wj)))))))))))))))))) ( A.cmp .gtr n21 0 (λwk=>A.cond wk ( A.ari .sub .i64 n21 1 (λwl=>A.opt (idS 2 O wl) (λwm=>A.peek (.lg cc 2 wm) V (λwn=>A.ucI .i64 wn (λwo wp=>A.ucI .u8 wp (λwq wt=>A.uc0 wt ( A.opt (idS 2 O n62) (λwu=>A.peek (.lg cc 2 wu) V (λwv=>A.ucI .i64 wv (λww wx=>A.ucI .u8 wx (λwy wz=>A.uc0 wz ( A.callv U [(.agg ⟨[(.int .i64 wo),(.int .u8 wq)]⟩),(.agg ⟨[(.int .i64 ww),(.int .u8 wy)]⟩)] [(.leaf (.i .i64))] V (λwA f2=>A.unI wA (λwB wC=>A.un0 wC ( A.cmp .lss wB 0 (λwD=>A.join (λwE wF=>A.unI wE (λb1 wG=>A.un0 wG ( A.call 82 [(.v O),(.i b1),(.i n27),(.i n62),(.v U)] wF (λwH g0=>A.unI wH (λa4 wI=>A.unB wI (λwJ wK=>A.un0 wK ( A.ari .sub .i64 a4 b1 (λg1=>A.ari .sub .i64 n27 a4 (λg2=>A.ari .quo .i64 n42 8 (λg3=>A.cmp .lss g1 g2 (λwL=>A.join (λwM wN=>A.unB wM (λwO wP=>A.unI wP (λwQ wR=>A.unI wR (λwS wT=>A.un0 wT ( a0 [(.i n51),(.i wQ),(.b wJ),(.b wO),(.i wS)] wN))))) (λg4=>A.cond wL ( A.cmp .geq g1 g3 (λwU=>A.call 51 [(.v O),(.i b1),(.i a4),(.i n51),(.v U)] g0 (λwV wW=>A.un0 wV ( A.ari .add .i64 a4 1 (λwX=>g4 [(.b wU),(.i wX),(.i n27)] wW))))) ( A.cmp .geq g2 g3 (λwY=>A.ari .add .i64 a4 1 (λwZ=>A.call 51 [(.v O),(.i wZ),(.i n27),(.i n51),(.v U)] g0 (λw0 w1=>A.un0 w0 ( g4 [(.b wY),(.i b1),(.i a4)] w1))))))))))))))))) (λw2=>A.cond (!wD) ( A.call 81 [(.v O),(.i n21),(.i n27),(.i n62),(.v U)] f2 (λxa xd=>A.unI xa (λxe xf=>A.un0 xf ( a0 [(.i n51),(.i xe),(.b a8),(.b a6),(.i n27)] xd)))) ( w2 [(.i n21)] f2)))))))))))))))))) ( A.call 82 [(.v O),(.i n21),(.i n27),(.i n62),(.v U)] V (λxg g5=>A.unI xg (λa5 xh=>A.unB xh (λxi xj=>A.un0 xj ( A.ari .sub .i64 a5 n21 (λg6=>A.ari .sub .i64 n27 a5 (λg7=>A.ari .quo .i64 n42 8 (λg8=>A.cmp .lss g6 g7 (λxk=>A.join (λxl xm=>A.unB xl (λxn xp=>A.unI xp (λxq xr=>A.unI xr (λxt xu=>A.un0 xu ( a0 [(.i n51),(.i xq),(.b xi),(.b xn),(.i xt)] xm))))) (λg9=>A.cond xk ( A.cmp .geq g6 g8 (λxw=>A.call 51 [(.v O),(.i n21),(.i a5),(.i n51),(.v U)] g5 (λxy xz=>A.un0 xy ( A.ari .add .i64 a5 1 (λxA=>g9 [(.b xw),(.i xA),(.i n27)] xz))))) ( A.cmp .geq g7 g8 (λxB=>A.ari .add .i64 a5 1 (λxC=>A.call 51 [(.v O),(.i xC),(.i n27),(.i n51),(.v U)] g5 (λxD xE=>A.un0 xD ( g9 [(.b xB),(.i n21),(.i a5)] xE))))))))))))))))))))) (λh0=>A.cond l2 ( A.call 79 [(.v O),(.i n21),(.i n27),(.v U)] b2 (λxF xG=>A.un0 xF ( A.ari .sub .i64 n27 1 (λxH=>A.ari .sub .i64 n55 n21 (λxI=>A.ari .sub .i64 xH xI (λxJ=>h0 [(.i xJ),(.i 1)] xG)))))) ( h0 [(.i n55),(.i n57)] b2)))))))))) (λh1=>A.cond (!a6) ( A.call 77 [(.v O),(.i n21),(.i n27),(.v U)] a7 (λxK xM=>A.un0 xK ( A.ari .sub .i64 n19 1 (λxN=>h1 [(.i xN)] xM)))) ( h1 [(.i n19)] a7))))))))))))))) [(.i n12),(.i n8),(.b true),(.b true),(.i n10)] h))))))
def f52(ls:List Lf)(h:HT)(K:List Lf->HT->R):R:=A.unV ls (λO V=>A.un0 V ( A.opt (lenS O) (λa0=>A.opt (lenS O) (λa1=>A.opt (slS 1 O none (some a0) (some a1)) (λU=>A.chk U ( K [(.v U)] h))))))
/-- crimp/segments.pieces -/
def f53(ls:List Lf)(h:HT)(K:List Lf->HT->R):R:=A.unI ls (λn6 V=>A.unI V (λn8 a0=>A.un0 a0 ( A.call 83 [(.i n6),(.i n8)] h (λa1 a2=>A.unV a1 (λx12 a3=>A.unI a3 (λn14 a4=>A.un0 a4 ( A.opt (lenS x12) (λx16=>A.new (.map [] 0) a2 (λU a5=>A.opt (lenS x12) (λa6=>A.loop (λa7 a8 O=>A.unI a8 (λn23 a9=>A.un0 a9 ( A.cmp .lss n23 a6 (λb0=>A.cond b0 ( A.opt (idS 2 x12 n23) (λb1=>A.peek (.lg cc 2 b1) O (λb2=>A.ucI .i64 b2 (λn28 b3=>A.ucI .u8 b3 (λn30 b4=>A.uc0 b4 ( A.call 84 [(.i n6),(.i n8),(.i n28),(.i n30)] O (λb5 b6=>A.unI b5 (λn34 b7=>A.unI b7 (λn36 b8=>A.unI b8 (λn38 b9=>A.unI b9 (λn40 c0=>A.un0 c0 ( A.heap (.fn (muG cc 162 (.map (some U)) (.agg ⟨[(.int .u8 n34),(.int .i64 n36),(.int .i64 n38)]⟩) (.agg ⟨[(.int .i64 n28),(.int .u8 n30),(.int .i64 n40)]⟩))) b6 (λd0 c1=>A.ari .add .i64 n23 1 (λn44=>a7 [(.i n44)] c1)))))))))))))) ( K [(.v (.map (some U)))] O))))) [(.i 0)] a5))))))))))
/-- crimp/segments.units -/
def f54(ls:List Lf)(h:HT)(K:List Lf->HT->R):R:=A.unV ls (λa0 a1=>A.unI a1 (λn8 a2=>A.unI a2 (λn10 a3=>A.unI a3 (λn12 a4=>A.unI a4 (λn14 a5=>A.unI a5 (λn16 a6=>A.un0 a6 ( A.call 85 [(.i n8),(.i n10),(.i n12),(.i n14),(.i n16)] h (λa7 U=>A.unB a7 (λa8 a9=>A.un0 a9 ( A.cond (!a8) ( K [(.v (.slice none 0 0)),(.i 1)] U) ( A.loop (λb0 b1 O=>A.unV b1 (λx25 b2=>A.unI b2 (λn27 b3=>A.un0 b3 ( A.cmp .neq n27 n16 (λb4=>A.cond b4 ( A.peek (.fn (luG cc 162 true (.agg ⟨[(.int .i64 0),(.int .u8 0),(.int .i64 0)]⟩) a0 (.agg ⟨[(.int .u8 n10),(.int .i64 n12),(.int .i64 n27)]⟩) true)) O (λb5=>A.ucI .i64 b5 (λn31 b6=>A.ucI .u8 b6 (λn33 b7=>A.ucI .i64 b7 (λn35 b8=>A.ucB b8 (λb9 c0=>A.uc0 c0 ( A.cond (!b9) ( K [(.v (.slice none 0 0)),(.i 7)] O) ( A.cmp .gtr n35 n16 (λc1=>A.cond c1 ( K [(.v (.slice none 0 0)),(.i 7)] O) ( A.new (.cells [(.int .i64 n31),(.int .u8 n33)] 2 true) O (λd0 d1=>A.heap (.ap cc 2 16 x25 (.slice (some ⟨d0,0,(some 12)⟩) 1 2)) d1 (λd2 d3=>A.ucV d2 (λV d4=>A.chk V ( A.uc0 d4 ( b0 [(.v V),(.i n35)] d3))))))))))))))) ( A.call 86 [(.v x25)] O (λd5 d6=>A.unV d5 (λd7 d8=>A.un0 d8 ( K [(.v d7),(.i 0)] d6))))))))) [(.v (.slice none 0 0)),(.i n14)] U)))))))))))
/-- crimp/segments.Pattern$1 -/
def f55(ls:List Lf)(h:HT)(K:List Lf->HT->R):R:=A.unI ls (λn6 O=>A.unI O (λn8 U=>A.unI U (λn10 V=>A.unI V (λn12 a0=>A.unI a0 (λn14 a1=>A.unI a1 (λn16 a2=>A.un0 a2 ( A.conv .i64 n8 (λn18=>A.conv .i64 n14 (λn19=>A.new (.cells [(.int .i64 n6),(.int .i64 n12),(.int .i64 n18),(.int .i64 n19)] 2 true) h (λa3 a4=>A.call 56 [(.v (.slice (some ⟨a3,0,(some 12)⟩) 2 3))] a4 (λa5 a6=>A.unI a5 (λn24 a7=>A.un0 a7 ( K [(.i n24)] a6)))))))))))))
/-- crimp/segments.order[int] -/
def f56(ls:List Lf)(h:HT)(K:List Lf->HT->R):R:=A.unV ls (λU a0=>A.un0 a0 ( A.opt (lenS U) (λa1=>A.loop (λa2 a3 O=>A.unI a3 (λn12 a4=>A.un0 a4 ( A.cmp .lss n12 a1 (λa5=>A.cond a5 ( A.opt (idS 2 U n12) (λa6=>A.peek (.lg cc 2 a6) O (λa7=>A.ucI .i64 a7 (λn17 a8=>A.ucI .i64 a8 (λn19 a9=>A.uc0 a9 ( A.call 87 [(.i n17),(.i n19)] O (λb0 V=>A.unI b0 (λn23 b1=>A.un0 b1 ( A.cmp .neq n23 0 (λb2=>A.cond b2 ( K [(.i n23)] V) ( A.ari .add .i64 n12 1 (λn26=>a2 [(.i n26)] V)))))))))))) ( K [(.i 0)] O))))) [(.i 0)] h)))
/-- slices.Clip[[]crimp/patterns.Crease,crimp/patterns.Crease] -/
def f57(ls:List Lf)(h:HT)(K:List Lf->HT->R):R:=A.unV ls (λO V=>A.un0 V ( A.opt (lenS O) (λa0=>A.opt (lenS O) (λa1=>A.opt (slS 3 O none (some a0) (some a1)) (λU=>A.chk U ( K [(.v U)] h))))))
/-- crimp/crimpref05.Neighbour -/
def f58(ls:List Lf)(h:HT)(K:List Lf->HT->R):R:=A.unI ls (λn6 O=>A.unI O (λn8 U=>A.unI U (λn10 V=>A.unI V (λn12 a0=>A.un0 a0 ( A.ari .quo .i64 n10 4 (λn14=>A.ari .rem .i64 n14 n6 (λn15=>A.ari .mul .i64 4 n6 (λn16=>A.ari .quo .i64 n10 n16 (λn17=>A.ari .rem .i64 n10 4 (λn18=>A.conv .u8 n18 (λn19=>A.call 89 [(.i n15),(.i n17),(.i n19),(.i n12)] h (λa1 a2=>A.unI a1 (λn22 a3=>A.unI a3 (λn24 a4=>A.unI a4 (λn26 a5=>A.un0 a5 ( A.call 88 [(.i n6),(.i n8),(.i n22),(.i n24),(.i n26)] a2 (λa6 a7=>A.unI a6 (λn30 a8=>A.un0 a8 ( K [(.i n30)] a7)))))))))))))))))))
/-- slices.insertionSortCmpFunc[crimp/patterns.Crease] -/
def f59(ls:List Lf)(h:HT)(K:List Lf->HT->R):R:=A.unV ls (λO a2=>A.unI a2 (λn8 a3=>A.unI a3 (λn10 a4=>A.unV a4 (λx12 a5=>A.un0 a5 ( A.ari .add .i64 n8 1 (λn14=>A.loop (λa6 a7 a0=>A.unI a7 (λn18 a8=>A.un0 a8 ( A.cmp .lss n18 n10 (λa9=>A.cond a9 ( A.join (λb0 b1=>A.un0 b0 ( A.ari .add .i64 n18 1 (λn23=>a6 [(.i n23)] b1))) (λa1=>A.loop (λb2 b3 U=>A.unI b3 (λn28 b4=>A.un0 b4 ( A.cmp .gtr n28 n8 (λb5=>A.cond b5 ( A.opt (idS 3 O n28) (λb6=>A.peek (.lg cc 3 b6) U (λb7=>A.ucI .i64 b7 (λn33 b8=>A.ucI .u8 b8 (λn35 b9=>A.ucI .u8 b9 (λn37 c0=>A.uc0 c0 ( A.ari .sub .i64 n28 1 (λn39=>A.opt (idS 3 O n39) (λc1=>A.peek (.lg cc 3 c1) U (λd0=>A.ucI .i64 d0 (λn42 d1=>A.ucI .u8 d1 (λn44 d2=>A.ucI .u8 d2 (λn46 d3=>A.uc0 d3 ( A.callv x12 [(.agg ⟨[(.int .i64 n33),(.int .u8 n35),(.int .u8 n37)]⟩),(.agg ⟨[(.int .i64 n42),(.int .u8 n44),(.int .u8 n46)]⟩)] [(.leaf (.i .i64))] U (λd4 V=>A.unI d4 (λn50 d5=>A.un0 d5 ( A.cmp .lss n50 0 (λd6=>A.cond d6 ( A.ari .sub .i64 n28 1 (λn53=>A.ari .sub .i64 n28 1 (λn54=>A.opt (idS 3 O n54) (λd7=>A.peek (.lg cc 3 d7) V (λd8=>A.ucI .i64 d8 (λn57 d9=>A.ucI .u8 d9 (λn59 e0=>A.ucI .u8 e0 (λn61 e1=>A.uc0 e1 ( A.opt (idS 3 O n28) (λx63=>A.peek (.lg cc 3 x63) V (λe2=>A.ucI .i64 e2 (λf0 f1=>A.ucI .u8 f1 (λf2 g0=>A.ucI .u8 g0 (λn69 g1=>A.uc0 g1 ( A.opt (idS 3 O n28) (λg2=>A.heap (.st g2 [(.int .i64 n57),(.int .u8 n59),(.int .u8 n61)]) V (λg6 g3=>A.opt (idS 3 O n53) (λx74=>A.heap (.st x74 [(.int .i64 f0),(.int .u8 f2),(.int .u8 n69)]) g3 (λg7 g4=>A.ari .sub .i64 n28 1 (λg5=>b2 [(.i g5)] g4)))))))))))))))))))) ( a1 [] V))))))))))))))))))) ( a1 [] U))))) [(.i n18)] a0)) ( K [] a0))))) [(.i n14)] h))))))
/-- slices.heapSortCmpFunc[crimp/patterns.Crease] -/
def f60(ls:List Lf)(h:HT)(K:List Lf->HT->R):R:=A.unV ls (λO a0=>A.unI a0 (λn8 a1=>A.unI a1 (λn10 a2=>A.unV a2 (λx12 a3=>A.un0 a3 ( A.ari .sub .i64 n10 n8 (λn14=>A.ari .sub .i64 n14 1 (λn15=>A.ari .quo .i64 n15 2 (λn16=>A.loop (λa4 a5 V=>A.unI a5 (λn20 a6=>A.un0 a6 ( A.cmp .geq n20 0 (λa7=>A.cond a7 ( A.call 90 [(.v O),(.i n20),(.i n14),(.i n8),(.v x12)] V (λa8 a9=>A.un0 a8 ( A.ari .sub .i64 n20 1 (λn25=>a4 [(.i n25)] a9)))) ( A.ari .sub .i64 n14 1 (λn26=>A.loop (λb0 b1 U=>A.unI b1 (λn30 b2=>A.un0 b2 ( A.cmp .geq n30 0 (λb3=>A.cond b3 ( A.ari .add .i64 n8 n30 (λn33=>A.ari .add .i64 n8 n30 (λn34=>A.opt (idS 3 O n34) (λb4=>A.peek (.lg cc 3 b4) U (λb5=>A.ucI .i64 b5 (λn37 b6=>A.ucI .u8 b6 (λn39 b7=>A.ucI .u8 b7 (λn41 b8=>A.uc0 b8 ( A.opt (idS 3 O n8) (λb9=>A.peek (.lg cc 3 b9) U (λc0=>A.ucI .i64 c0 (λn45 c1=>A.ucI .u8 c1 (λn47 d0=>A.ucI .u8 d0 (λn49 d1=>A.uc0 d1 ( A.opt (idS 3 O n8) (λx51=>A.heap (.st x51 [(.int .i64 n37),(.int .u8 n39),(.int .u8 n41)]) U (λd7 d2=>A.opt (idS 3 O n33) (λd3=>A.heap (.st d3 [(.int .i64 n45),(.int .u8 n47),(.int .u8 n49)]) d2 (λd8 d4=>A.call 90 [(.v O),(.i 0),(.i n30),(.i n8),(.v x12)] d4 (λd5 d6=>A.un0 d5 ( A.ari .sub .i64 n30 1 (λn59=>b0 [(.i n59)] d6)))))))))))))))))))))) ( K [] U))))) [(.i n26)] V)))))) [(.i n16)] h))))))))
/-- slices.breakPatternsCmpFunc[crimp/patterns.Crease] -/
def f61(ls:List Lf)(h:HT)(K:List Lf->HT->R):R:=A.unV ls (λO a4=>A.unI a4 (λn8 a5=>A.unI a5 (λn10 a6=>A.unV a6 (λx12 a7=>A.un0 a7 ( A.ari .sub .i64 n10 n8 (λn14=>A.cmp .geq n14 8 (λa8=>A.join (λa9 b0=>A.un0 a9 ( K [] b0)) (λV=>A.cond a8 ( A.conv .u64 n14 (λn19=>A.new (.cells [(.int .u64 0)] 1 true) h (λa0 b1=>A.heap (.st (.pointer (some ⟨a0,0,none⟩)) [(.int .u64 n19)]) b1 (λg1 b2=>A.call 91 [(.i n14)] b2 (λb3 b4=>A.unI b3 (λn26 b5=>A.un0 b5 ( A.ari .quo .i64 n14 4 (λn28=>A.ari .mul .i64 n28 2 (λn29=>A.ari .add .i64 n8 n29 (λn30=>A.ari .sub .i64 n30 1 (λn31=>A.loop (λb6 b7 a1=>A.unI b7 (λn35 b8=>A.un0 b8 ( A.ari .quo .i64 n14 4 (λn37=>A.ari .mul .i64 n37 2 (λn38=>A.ari .add .i64 n8 n38 (λn39=>A.ari .add .i64 n39 1 (λn40=>A.cmp .leq n35 n40 (λb9=>A.cond b9 ( A.call 92 [(.v (.pointer (some ⟨a0,0,none⟩)))] a1 (λc0 a2=>A.unI c0 (λn44 c1=>A.un0 c1 ( A.ari .sub .u64 n26 1 (λn46=>A.ari .and .u64 n44 n46 (λn47=>A.conv .i64 n47 (λn48=>A.cmp .geq n48 n14 (λd0=>A.join (λd1 U=>A.unI d1 (λn52 d2=>A.un0 d2 ( A.ari .add .i64 n8 n52 (λn54=>A.ari .add .i64 n8 n52 (λn55=>A.opt (idS 3 O n55) (λd3=>A.peek (.lg cc 3 d3) U (λd4=>A.ucI .i64 d4 (λn58 d5=>A.ucI .u8 d5 (λn60 d6=>A.ucI .u8 d6 (λn62 d7=>A.uc0 d7 ( A.opt (idS 3 O n35) (λx64=>A.peek (.lg cc 3 x64) U (λd8=>A.ucI .i64 d8 (λn66 d9=>A.ucI .u8 d9 (λn68 e0=>A.ucI .u8 e0 (λn70 e1=>A.uc0 e1 ( A.opt (idS 3 O n35) (λe2=>A.heap (.st e2 [(.int .i64 n58),(.int .u8 n60),(.int .u8 n62)]) U (λg2 f0=>A.opt (idS 3 O n54) (λx75=>A.heap (.st x75 [(.int .i64 n66),(.int .u8 n68),(.int .u8 n70)]) f0 (λg3 f1=>A.ari .add .i64 n35 1 (λf2=>b6 [(.i f2)] f1)))))))))))))))))))))) (λa3=>A.cond d0 ( A.ari .sub .i64 n48 n14 (λg0=>a3 [(.i g0)] a2)) ( a3 [(.i n48)] a2)))))))))) ( V [] a1))))))))) [(.i n31)] b4))))))))))) ( V [] h)))))))))
/-- slices.choosePivotCmpFunc[crimp/patterns.Crease] -/
def f62(ls:List Lf)(h:HT)(K:List Lf->HT->R):R:=A.unV ls (λU a3=>A.unI a3 (λn8 a4=>A.unI a4 (λn10 a5=>A.unV a5 (λx12 a6=>A.un0 a6 ( A.ari .sub .i64 n10 n8 (λn14=>A.new (.cells [(.int .i64 0)] 1 true) h (λO a0=>A.ari .quo .i64 n14 4 (λn17=>A.ari .mul .i64 n17 1 (λn18=>A.ari .add .i64 n8 n18 (λn19=>A.ari .quo .i64 n14 4 (λn20=>A.ari .mul .i64 n20 2 (λn21=>A.ari .add .i64 n8 n21 (λn22=>A.ari .quo .i64 n14 4 (λn23=>A.ari .mul .i64 n23 3 (λn24=>A.ari .add .i64 n8 n24 (λn25=>A.cmp .geq n14 8 (λa7=>A.join (λa8 V=>A.unI a8 (λn29 a9=>A.un0 a9 ( A.peek (.lg cc 1 (.pointer (some ⟨O,0,none⟩))) V (λb0=>A.ucI .i64 b0 (λn32 b1=>A.uc0 b1 ( A.cmp .eql n32 0 (λb2=>A.cond b2 ( K [(.i n29),(.i 1)] V) ( A.cmp .eql n32 12 (λb3=>A.cond b3 ( K [(.i n29),(.i 2)] V) ( K [(.i n29),(.i 0)] V)))))))))) (λa1=>A.cond a7 ( A.cmp .geq n14 50 (λb4=>A.join (λb5 b6=>A.unI b5 (λn40 b7=>A.unI b7 (λn42 b8=>A.unI b8 (λn44 b9=>A.un0 b9 ( A.call 94 [(.v U),(.i n40),(.i n42),(.i n44),(.v (.pointer (some ⟨O,0,none⟩))),(.v x12)] b6 (λc0 c1=>A.unI c0 (λn48 d0=>A.un0 d0 ( a1 [(.i n48)] c1)))))))) (λa2=>A.cond b4 ( A.call 93 [(.v U),(.i n19),(.v (.pointer (some ⟨O,0,none⟩))),(.v x12)] a0 (λd1 d2=>A.unI d1 (λn53 d3=>A.un0 d3 ( A.call 93 [(.v U),(.i n22),(.v (.pointer (some ⟨O,0,none⟩))),(.v x12)] d2 (λd4 d5=>A.unI d4 (λn57 d6=>A.un0 d6 ( A.call 93 [(.v U),(.i n25),(.v (.pointer (some ⟨O,0,none⟩))),(.v x12)] d5 (λd7 d8=>A.unI d7 (λn61 d9=>A.un0 d9 ( a2 [(.i n53),(.i n57),(.i n61)] d8)))))))))) ( a2 [(.i n19),(.i n22),(.i n25)] a0)))) ( a1 [(.i n22)] a0)))))))))))))))))))
/-- slices.reverseRangeCmpFunc[crimp/patterns.Crease] -/
def f63(ls:List Lf)(h:HT)(K:List Lf->HT->R):R:=A.unV ls (λO V=>A.unI V (λn8 a0=>A.unI a0 (λn10 a1=>A.unV a1 (λx12 a2=>A.un0 a2 ( A.ari .sub .i64 n10 1 (λn14=>A.loop (λa3 a4 U=>A.unI a4 (λn18 a5=>A.unI a5 (λn20 a6=>A.un0 a6 ( A.cmp .lss n18 n20 (λa7=>A.cond a7 ( A.opt (idS 3 O n20) (λa8=>A.peek (.lg cc 3 a8) U (λa9=>A.ucI .i64 a9 (λn25 b0=>A.ucI .u8 b0 (λn27 b1=>A.ucI .u8 b1 (λn29 b2=>A.uc0 b2 ( A.opt (idS 3 O n18) (λb3=>A.peek (.lg cc 3 b3) U (λb4=>A.ucI .i64 b4 (λn33 b5=>A.ucI .u8 b5 (λn35 b6=>A.ucI .u8 b6 (λn37 b7=>A.uc0 b7 ( A.opt (idS 3 O n18) (λx39=>A.heap (.st x39 [(.int .i64 n25),(.int .u8 n27),(.int .u8 n29)]) U (λc0 b8=>A.opt (idS 3 O n20) (λx42=>A.heap (.st x42 [(.int .i64 n33),(.int .u8 n35),(.int .u8 n37)]) b8 (λc1 b9=>A.ari .add .i64 n18 1 (λn45=>A.ari .sub .i64 n20 1 (λn46=>a3 [(.i n45),(.i n46)] b9))))))))))))))))))) ( K [] U)))))) [(.i n8),(.i n14)] h))))))
/-- slices.partialInsertionSortCmpFunc[crimp/patterns.Crease] -/
def f64(ls:List Lf)(h:HT)(K:List Lf->HT->R):R:=A.unV ls (λO b5=>A.unI b5 (λn8 b6=>A.unI b6 (λn10 b7=>A.unV b7 (λx12 b8=>A.un0 b8 ( A.ari .add .i64 n8 1 (λn14=>A.loop (λb9 c0 a6=>A.unI c0 (λn18 c1=>A.unI c1 (λn20 d0=>A.un0 d0 ( A.cmp .lss n20 5 (λd1=>A.cond d1 ( A.join (λd2 a0=>A.unI d2 (λn25 d3=>A.un0 d3 ( A.cmp .eql n25 n10 (λd4=>A.cond d4 ( K [(.b true)] a0) ( A.ari .sub .i64 n10 n8 (λn28=>A.cmp .lss n28 50 (λd5=>A.cond d5 ( K [(.b false)] a0) ( A.ari .sub .i64 n25 1 (λn30=>A.ari .sub .i64 n25 1 (λn31=>A.opt (idS 3 O n31) (λd6=>A.peek (.lg cc 3 d6) a0 (λd7=>A.ucI .i64 d7 (λn34 d8=>A.ucI .u8 d8 (λn36 d9=>A.ucI .u8 d9 (λn38 e0=>A.uc0 e0 ( A.opt (idS 3 O n25) (λe1=>A.peek (.lg cc 3 e1) a0 (λe2=>A.ucI .i64 e2 (λn42 f0=>A.ucI .u8 f0 (λn44 f1=>A.ucI .u8 f1 (λn46 f2=>A.uc0 f2 ( A.opt (idS 3 O n25) (λg0=>A.heap (.st g0 [(.int .i64 n34),(.int .u8 n36),(.int .u8 n38)]) a0 (λt9 g1=>A.opt (idS 3 O n30) (λx51=>A.heap (.st x51 [(.int .i64 n42),(.int .u8 n44),(.int .u8 n46)]) g1 (λuc a7=>A.ari .sub .i64 n25 n8 (λn54=>A.cmp .geq n54 2 (λg2=>A.join (λg3 a8=>A.un0 g3 ( A.ari .sub .i64 n10 n25 (λn58=>A.cmp .geq n58 2 (λg4=>A.join (λg5 g6=>A.un0 g5 ( A.ari .add .i64 n20 1 (λn62=>b9 [(.i n25),(.i n62)] g6))) (λa9=>A.cond g4 ( A.ari .add .i64 n25 1 (λn64=>A.join (λg7 g8=>A.un0 g7 ( a9 [] g8)) (λb0=>A.loop (λg9 h0 a1=>A.unI h0 (λn71 h1=>A.un0 h1 ( A.cmp .lss n71 n10 (λh2=>A.cond h2 ( A.opt (idS 3 O n71) (λx74=>A.peek (.lg cc 3 x74) a1 (λh3=>A.ucI .i64 h3 (λh4 h5=>A.ucI .u8 h5 (λh6 h7=>A.ucI .u8 h7 (λh8 h9=>A.uc0 h9 ( A.ari .sub .i64 n71 1 (λi0=>A.opt (idS 3 O i0) (λi1=>A.peek (.lg cc 3 i1) a1 (λi2=>A.ucI .i64 i2 (λn85 j0=>A.ucI .u8 j0 (λn87 j1=>A.ucI .u8 j1 (λn89 j2=>A.uc0 j2 ( A.callv x12 [(.agg ⟨[(.int .i64 h4),(.int .u8 h6),(.int .u8 h8)]⟩),(.agg ⟨[(.int .i64 n85),(.int .u8 n87),(.int .u8 n89)]⟩)] [(.leaf (.i .i64))] a1 (λj3 a2=>A.unI j3 (λn93 j4=>A.un0 j4 ( A.cmp .lss n93 0 (λj5=>A.cond (!j5) ( b0 [] a2) ( A.ari .sub .i64 n71 1 (λn96=>A.ari .sub .i64 n71 1 (λn97=>A.opt (idS 3 O n97) (λj6=>A.peek (.lg cc 3 j6) a2 (λj7=>A.ucI .i64 j7 (λj8 j9=>A.ucI .u8 j9 (λn102 k0=>A.ucI .u8 k0 (λn104 k1=>A.uc0 k1 ( A.opt (idS 3 O n71) (λk2=>A.peek (.lg cc 3 k2) a2 (λk3=>A.ucI .i64 k3 (λn108 k4=>A.ucI .u8 k4 (λn110 k5=>A.ucI .u8 k5 (λn112 k6=>A.uc0 k6 ( A.opt (idS 3 O n71) (λk7=>A.heap (.st k7 [(.int .i64 j8),(.int .u8 n102),(.int .u8 n104)]) a2 (λu0 k8=>A.opt (idS 3 O n96) (λk9=>A.heap (.st k9 [(.int .i64 n108),(.int .u8 n110),(.int .u8 n112)]) k8 (λu1 l0=>A.ari .add .i64 n71 1 (λl1=>g9 [(.i l1)] l0)))))))))))))))))))))))))))))))))))))) ( b0 [] a1))))) [(.i n64)] a8))) ( a9 [] a8)))))) (λb1=>A.cond g2 ( A.ari .sub .i64 n25 1 (λl2=>A.join (λl3 l4=>A.un0 l3 ( b1 [] l4)) (λb2=>A.loop (λl5 l6 a3=>A.unI l6 (λU l7=>A.un0 l7 ( A.cmp .geq U 1 (λl8=>A.cond l8 ( A.opt (idS 3 O U) (λl9=>A.peek (.lg cc 3 l9) a3 (λm0=>A.ucI .i64 m0 (λm1 m2=>A.ucI .u8 m2 (λm3 m4=>A.ucI .u8 m4 (λm5 m6=>A.uc0 m6 ( A.ari .sub .i64 U 1 (λm7=>A.opt (idS 3 O m7) (λm8=>A.peek (.lg cc 3 m8) a3 (λm9=>A.ucI .i64 m9 (λn0 n1=>A.ucI .u8 n1 (λn2 o0=>A.ucI .u8 o0 (λo1 o2=>A.uc0 o2 ( A.callv x12 [(.agg ⟨[(.int .i64 m1),(.int .u8 m3),(.int .u8 m5)]⟩),(.agg ⟨[(.int .i64 n0),(.int .u8 n2),(.int .u8 o1)]⟩)] [(.leaf (.i .i64))] a3 (λo3 a4=>A.unI o3 (λo4 o5=>A.un0 o5 ( A.cmp .lss o4 0 (λo6=>A.cond (!o6) ( b2 [] a4) ( A.ari .sub .i64 U 1 (λo7=>A.ari .sub .i64 U 1 (λo8=>A.opt (idS 3 O o8) (λo9=>A.peek (.lg cc 3 o9) a4 (λp0=>A.ucI .i64 p0 (λp1 p2=>A.ucI .u8 p2 (λp3 p4=>A.ucI .u8 p4 (λp5 p6=>A.uc0 p6 ( A.opt (idS 3 O U) (λp7=>A.peek (.lg cc 3 p7) a4 (λp8=>A.ucI .i64 p8 (λp9 q0=>A.ucI .u8 q0 (λq1 q2=>A.ucI .u8 q2 (λq3 q4=>A.uc0 q4 ( A.opt (idS 3 O U) (λq5=>A.heap (.st q5 [(.int .i64 p1),(.int .u8 p3),(.int .u8 p5)]) a4 (λu2 q6=>A.opt (idS 3 O o7) (λq7=>A.heap (.st q7 [(.int .i64 p9),(.int .u8 q1),(.int .u8 q3)]) q6 (λu5 r1=>A.ari .sub .i64 U 1 (λr2=>l5 [(.i r2)] r1)))))))))))))))))))))))))))))))))))))) ( b2 [] a3))))) [(.i l2)] a7))) ( b1 [] a7)))))))))))))))))))))))))))))) (λb3=>A.loop (λr3 r4 a5=>A.unI r4 (λV r5=>A.un0 r5 ( A.cmp .lss V n10 (λr6=>A.cond r6 ( A.opt (idS 3 O V) (λr7=>A.peek (.lg cc 3 r7) a5 (λr8=>A.ucI .i64 r8 (λr9 s0=>A.ucI .u8 s0 (λs1 s2=>A.ucI .u8 s2 (λs3 s4=>A.uc0 s4 ( A.ari .sub .i64 V 1 (λs5=>A.opt (idS 3 O s5) (λs6=>A.peek (.lg cc 3 s6) a5 (λs7=>A.ucI .i64 s7 (λs8 s9=>A.ucI .u8 s9 (λt0 t1=>A.ucI .u8 t1 (λt2 t3=>A.uc0 t3 ( A.callv x12 [(.agg ⟨[(.int .i64 r9),(.int .u8 s1),(.int .u8 s3)]⟩),(.agg ⟨[(.int .i64 s8),(.int .u8 t0),(.int .u8 t2)]⟩)] [(.leaf (.i .i64))] a5 (λt4 b4=>A.unI t4 (λt5 t6=>A.un0 t6 ( A.cmp .lss t5 0 (λt7=>A.cond (!t7) ( A.ari .add .i64 V 1 (λt8=>r3 [(.i t8)] b4)) ( b3 [(.i V)] b4))))))))))))))))))) ( b3 [(.i V)] a5))))) [(.i n18)] a6)) ( K [(.b false)] a6)))))) [(.i n14),(.i 0)] h))))))
/-- slices.partitionCmpFunc[crimp/patterns.Crease] -/
def f66(ls:List Lf)(h:HT)(K:List Lf->HT->R):R:=A.unV ls (λO b8=>A.unI b8 (λn8 b9=>A.unI b9 (λn10 c0=>A.unI c0 (λn12 c1=>A.unV c1 (λa4 d0=>A.un0 d0 ( A.opt (idS 3 O n12) (λx16=>A.peek (.lg cc 3 x16) h (λd1=>A.ucI .i64 d1 (λn18 d2=>A.ucI .u8 d2 (λn20 d3=>A.ucI .u8 d3 (λn22 d4=>A.uc0 d4 ( A.opt (idS 3 O n8) (λx24=>A.peek (.lg cc 3 x24) h (λd5=>A.ucI .i64 d5 (λn26 d6=>A.ucI .u8 d6 (λn28 d7=>A.ucI .u8 d7 (λn30 d8=>A.uc0 d8 ( A.opt (idS 3 O n8) (λd9=>A.heap (.st d9 [(.int .i64 n18),(.int .u8 n20),(.int .u8 n22)]) h (λwm e0=>A.opt (idS 3 O n12) (λe1=>A.heap (.st e1 [(.int .i64 n26),(.int .u8 n28),(.int .u8 n30)]) e0 (λwn e2=>A.ari .add .i64 n8 1 (λn38=>A.ari .sub .i64 n10 1 (λn39=>A.join (λf0 f1=>A.unI f0 (λn42 f2=>A.un0 f2 ( A.join (λg0 U=>A.unI g0 (λn46 g1=>A.un0 g1 ( A.cmp .gtr n42 n46 (λg2=>A.cond g2 ( A.opt (idS 3 O n8) (λg3=>A.peek (.lg cc 3 g3) U (λg4=>A.ucI .i64 g4 (λn51 g5=>A.ucI .u8 g5 (λn53 g6=>A.ucI .u8 g6 (λn55 g7=>A.uc0 g7 ( A.opt (idS 3 O n46) (λg8=>A.peek (.lg cc 3 g8) U (λg9=>A.ucI .i64 g9 (λn59 h0=>A.ucI .u8 h0 (λn61 h1=>A.ucI .u8 h1 (λn63 h2=>A.uc0 h2 ( A.opt (idS 3 O n46) (λh3=>A.heap (.st h3 [(.int .i64 n51),(.int .u8 n53),(.int .u8 n55)]) U (λwo h4=>A.opt (idS 3 O n8) (λh5=>A.heap (.st h5 [(.int .i64 n59),(.int .u8 n61),(.int .u8 n63)]) h4 (λwp h6=>K [(.i n46),(.b true)] h6))))))))))))))))) ( A.opt (idS 3 O n46) (λh7=>A.peek (.lg cc 3 h7) U (λh8=>A.ucI .i64 h8 (λn73 h9=>A.ucI .u8 h9 (λn75 i0=>A.ucI .u8 i0 (λi1 i2=>A.uc0 i2 ( A.opt (idS 3 O n42) (λj0=>A.peek (.lg cc 3 j0) U (λj1=>A.ucI .i64 j1 (λj2 j3=>A.ucI .u8 j3 (λn83 j4=>A.ucI .u8 j4 (λn85 j5=>A.uc0 j5 ( A.opt (idS 3 O n42) (λj6=>A.heap (.st j6 [(.int .i64 n73),(.int .u8 n75),(.int .u8 i1)]) U (λwq j7=>A.opt (idS 3 O n46) (λx90=>A.heap (.st x90 [(.int .i64 j2),(.int .u8 n83),(.int .u8 n85)]) j7 (λwt j8=>A.ari .add .i64 n42 1 (λn93=>A.ari .sub .i64 n46 1 (λn94=>A.loop (λj9 k0 k1=>A.unI k0 (λk2 k3=>A.unI k3 (λa9 k4=>A.un0 k4 ( A.join (λk5 k6=>A.unI k5 (λn104 k7=>A.un0 k7 ( A.join (λk8 V=>A.unI k8 (λn108 k9=>A.un0 k9 ( A.cmp .gtr n104 n108 (λl0=>A.cond l0 ( A.opt (idS 3 O n8) (λl1=>A.peek (.lg cc 3 l1) V (λl2=>A.ucI .i64 l2 (λn113 l3=>A.ucI .u8 l3 (λn115 l4=>A.ucI .u8 l4 (λl5 l6=>A.uc0 l6 ( A.opt (idS 3 O n108) (λl7=>A.peek (.lg cc 3 l7) V (λl8=>A.ucI .i64 l8 (λl9 m0=>A.ucI .u8 m0 (λm1 m2=>A.ucI .u8 m2 (λm3 m4=>A.uc0 m4 ( A.opt (idS 3 O n108) (λm5=>A.heap (.st m5 [(.int .i64 n113),(.int .u8 n115),(.int .u8 l5)]) V (λwu m6=>A.opt (idS 3 O n8) (λm7=>A.heap (.st m7 [(.int .i64 l9),(.int .u8 m1),(.int .u8 m3)]) m6 (λwv m8=>K [(.i n108),(.b false)] m8))))))))))))))))) ( A.opt (idS 3 O n108) (λm9=>A.peek (.lg cc 3 m9) V (λn0=>A.ucI .i64 n0 (λn1 n2=>A.ucI .u8 n2 (λo0 o1=>A.ucI .u8 o1 (λo2 o3=>A.uc0 o3 ( A.opt (idS 3 O n104) (λo4=>A.peek (.lg cc 3 o4) V (λo5=>A.ucI .i64 o5 (λo6 o7=>A.ucI .u8 o7 (λo8 o9=>A.ucI .u8 o9 (λp0 p1=>A.uc0 p1 ( A.opt (idS 3 O n104) (λp2=>A.heap (.st p2 [(.int .i64 n1),(.int .u8 o0),(.int .u8 o2)]) V (λww p3=>A.opt (idS 3 O n108) (λp4=>A.heap (.st p4 [(.int .i64 o6),(.int .u8 o8),(.int .u8 p0)]) p3 (λwx p5=>A.ari .add .i64 n104 1 (λp6=>A.ari .sub .i64 n108 1 (λp7=>j9 [(.i p6),(.i p7)] p5))))))))))))))))))))))) (λb0=>A.loop (λp8 p9 a5=>A.unI p9 (λa0 q0=>A.un0 q0 ( A.cmp .leq n104 a0 (λq1=>A.cond q1 ( A.opt (idS 3 O a0) (λq2=>A.peek (.lg cc 3 q2) a5 (λq3=>A.ucI .i64 q3 (λq4 q5=>A.ucI .u8 q5 (λq6 q7=>A.ucI .u8 q7 (λr1 r2=>A.uc0 r2 ( A.opt (idS 3 O n8) (λr3=>A.peek (.lg cc 3 r3) a5 (λr4=>A.ucI .i64 r4 (λr5 r6=>A.ucI .u8 r6 (λr7 r8=>A.ucI .u8 r8 (λr9 s0=>A.uc0 s0 ( A.callv a4 [(.agg ⟨[(.int .i64 q4),(.int .u8 q6),(.int .u8 r1)]⟩),(.agg ⟨[(.int .i64 r5),(.int .u8 r7),(.int .u8 r9)]⟩)] [(.leaf (.i .i64))] a5 (λs1 b1=>A.unI s1 (λs2 s3=>A.un0 s3 ( A.cmp .lss s2 0 (λs4=>A.cond (!s4) ( A.ari .sub .i64 a0 1 (λs5=>p8 [(.i s5)] b1)) ( b0 [(.i a0)] b1)))))))))))))))))) ( b0 [(.i a0)] a5))))) [(.i a9)] k6)))) (λb2=>A.loop (λs6 s7 a6=>A.unI s7 (λa1 s8=>A.un0 s8 ( A.cmp .leq a1 a9 (λs9=>A.cond s9 ( A.opt (idS 3 O a1) (λt0=>A.peek (.lg cc 3 t0) a6 (λt1=>A.ucI .i64 t1 (λt2 t3=>A.ucI .u8 t3 (λt4 t5=>A.ucI .u8 t5 (λt6 t7=>A.uc0 t7 ( A.opt (idS 3 O n8) (λt8=>A.peek (.lg cc 3 t8) a6 (λt9=>A.ucI .i64 t9 (λuc u0=>A.ucI .u8 u0 (λu1 u2=>A.ucI .u8 u2 (λu5 u6=>A.uc0 u6 ( A.callv a4 [(.agg ⟨[(.int .i64 t2),(.int .u8 t4),(.int .u8 t6)]⟩),(.agg ⟨[(.int .i64 uc),(.int .u8 u1),(.int .u8 u5)]⟩)] [(.leaf (.i .i64))] a6 (λu7 b3=>A.unI u7 (λvo vp=>A.un0 vp ( A.cmp .lss vo 0 (λvq=>A.cond vq ( A.ari .add .i64 a1 1 (λvr=>s6 [(.i vr)] b3)) ( b2 [(.i a1)] b3)))))))))))))))))) ( b2 [(.i a1)] a6))))) [(.i k2)] k1))))) [(.i n93),(.i n94)] j8))))))))))))))))))))))) (λb4=>A.loop (λvt vu a7=>A.unI vu (λa2 vw=>A.un0 vw ( A.cmp .leq n42 a2 (λvx=>A.cond vx ( A.opt (idS 3 O a2) (λvy=>A.peek (.lg cc 3 vy) a7 (λvz=>A.ucI .i64 vz (λvA vB=>A.ucI .u8 vB (λvC vD=>A.ucI .u8 vD (λvE vF=>A.uc0 vF ( A.opt (idS 3 O n8) (λvG=>A.peek (.lg cc 3 vG) a7 (λvH=>A.ucI .i64 vH (λvI vJ=>A.ucI .u8 vJ (λvK vL=>A.ucI .u8 vL (λvM vN=>A.uc0 vN ( A.callv a4 [(.agg ⟨[(.int .i64 vA),(.int .u8 vC),(.int .u8 vE)]⟩),(.agg ⟨[(.int .i64 vI),(.int .u8 vK),(.int .u8 vM)]⟩)] [(.leaf (.i .i64))] a7 (λvO b5=>A.unI vO (λvP vQ=>A.un0 vQ ( A.cmp .lss vP 0 (λvR=>A.cond (!vR) ( A.ari .sub .i64 a2 1 (λvS=>vt [(.i vS)] b5)) ( b4 [(.i a2)] b5)))))))))))))))))) ( b4 [(.i a2)] a7))))) [(.i n39)] f1)))) (λb6=>A.loop (λvT vU a8=>A.unI vU (λa3 vV=>A.un0 vV ( A.cmp .leq a3 n39 (λvW=>A.cond vW ( A.opt (idS 3 O a3) (λvX=>A.peek (.lg cc 3 vX) a8 (λvY=>A.ucI .i64 vY (λvZ v0=>A.ucI .u8 v0 (λv1 v2=>A.ucI .u8 v2 (λv3 v4=>A.uc0 v4 ( A.opt (idS 3 O n8) (λv5=>A.peek (.lg cc 3 v5) a8 (λv6=>A.ucI .i64 v6 (λv7 v8=>A.ucI .u8 v8 (λv9 wc=>A.ucI .u8 wc (λwe wg=>A.uc0 wg ( A.callv a4 [(.agg ⟨[(.int .i64 vZ),(.int .u8 v1),(.int .u8 v3)]⟩),(.agg ⟨[(.int .i64 v7),(.int .u8 v9),(.int .u8 we)]⟩)] [(.leaf (.i .i64))] a8 (λwh b7=>A.unI wh (λwi wj=>A.un0 wj ( A.cmp .lss wi 0 (λwk=>A.cond wk ( A.ari .add .i64 a3 1 (λwl=>vT [(.i wl)] b7)) ( b6 [(.i a3)] b7)))))))))))))))))) ( b6 [(.i a3)] a8))))) [(.i n38)] e2)))))))))))))))))))))))))
/-- math/bits.Len64 -/
def f68(ls:List Lf)(h:HT)(K:List Lf->HT->R):R:=A.unI ls (λn6 a2=>A.un0 a2 ( A.cmp .geq n6 4294967296 (λa3=>A.join (λa4 O=>A.unI a4 (λn11 a5=>A.unI a5 (λn13 a6=>A.un0 a6 ( A.cmp .geq n11 65536 (λa7=>A.join (λa8 U=>A.unI a8 (λn18 a9=>A.unI a9 (λn20 b0=>A.un0 b0 ( A.cmp .geq n18 256 (λb1=>A.join (λb2 b3=>A.unI b2 (λn25 b4=>A.unI b4 (λn27 b5=>A.un0 b5 ( A.conv .u8 n25 (λn29=>A.opt (strAt (.mk ⟨[.ofNat 0,.ofNat 1,.ofNat 2,.ofNat 2,.ofNat 3,.ofNat 3,.ofNat 3,.ofNat 3,.ofNat 4,.ofNat 4,.ofNat 4,.ofNat 4,.ofNat 4,.ofNat 4,.ofNat 4,.ofNat 4,.ofNat 5,.ofNat 5,.ofNat 5,.ofNat 5,.ofNat 5,.ofNat 5,.ofNat 5,.ofNat 5,.ofNat 5,.ofNat 5,.ofNat 5,.ofNat 5,.ofNat 5,.ofNat 5,.ofNat 5,.ofNat 5,.ofNat 6,.ofNat 6,.ofNat 6,.ofNat 6,.ofNat 6,.ofNat 6,.ofNat 6,.ofNat 6,.ofNat 6,.ofNat 6,.ofNat 6,.ofNat 6,.ofNat 6,.ofNat 6,.ofNat 6,.ofNat 6,.ofNat 6,.ofNat 6,.ofNat 6,.ofNat 6,.ofNat 6,.ofNat 6,.ofNat 6,.ofNat 6,.ofNat 6,.ofNat 6,.ofNat 6,.ofNat 6,.ofNat 6,.ofNat 6,.ofNat 6,.ofNat 6,.ofNat 7,.ofNat 7,.ofNat 7,.ofNat 7,.ofNat 7,.ofNat 7,.ofNat 7,.ofNat 7,.ofNat 7,.ofNat 7,.ofNat 7,.ofNat 7,.ofNat 7,.ofNat 7,.ofNat 7,.ofNat 7,.ofNat 7,.ofNat 7,.ofNat 7,.ofNat 7,.ofNat 7,.ofNat 7,.ofNat 7,.ofNat 7,.ofNat 7,.ofNat 7,.ofNat 7,.ofNat 7,.ofNat 7,.ofNat 7,.ofNat 7,.ofNat 7,.ofNat 7,.ofNat 7,.ofNat 7,.ofNat 7,.ofNat 7,.ofNat 7,.ofNat 7,.ofNat 7,.ofNat 7,.ofNat 7,.ofNat 7,.ofNat 7,.ofNat 7,.ofNat 7,.ofNat 7,.ofNat 7,.ofNat 7,.ofNat 7,.ofNat 7,.ofNat 7,.ofNat 7,.ofNat 7,.ofNat 7,.ofNat 7,.ofNat 7,.ofNat 7,.ofNat 7,.ofNat 7,.ofNat 7,.ofNat 7,.ofNat 7,.ofNat 7,.ofNat 8,.ofNat 8,.ofNat 8,.ofNat 8,.ofNat 8,.ofNat 8,.ofNat 8,.ofNat 8,.ofNat 8,.ofNat 8,.ofNat 8,.ofNat 8,.ofNat 8,.ofNat 8,.ofNat 8,.ofNat 8,.ofNat 8,.ofNat 8,.ofNat 8,.ofNat 8,.ofNat 8,.ofNat 8,.ofNat 8,.ofNat 8,.ofNat 8,.ofNat 8,.ofNat 8,.ofNat 8,.ofNat 8,.ofNat 8,.ofNat 8,.ofNat 8,.ofNat 8,.ofNat 8,.ofNat 8,.ofNat 8,.ofNat 8,.ofNat 8,.ofNat 8,.ofNat 8,.ofNat 8,.ofNat 8,.ofNat 8,.ofNat 8,.ofNat 8,.ofNat 8,.ofNat 8,.ofNat 8,.ofNat 8,.ofNat 8,.ofNat 8,.ofNat 8,.ofNat 8,.ofNat 8,.ofNat 8,.ofNat 8,.ofNat 8,.ofNat 8,.ofNat 8,.ofNat 8,.ofNat 8,.ofNat 8,.ofNat 8,.ofNat 8,.ofNat 8,.ofNat 8,.ofNat 8,.ofNat 8,.ofNat 8,.ofNat 8,.ofNat 8,.ofNat 8,.ofNat 8,.ofNat 8,.ofNat 8,.ofNat 8,.ofNat 8,.ofNat 8,.ofNat 8,.ofNat 8,.ofNat 8,.ofNat 8,.ofNat 8,.ofNat 8,.ofNat 8,.ofNat 8,.ofNat 8,.ofNat 8,.ofNat 8,.ofNat 8,.ofNat 8,.ofNat 8,.ofNat 8,.ofNat 8,.ofNat 8,.ofNat 8,.ofNat 8,.ofNat 8,.ofNat 8,.ofNat 8,.ofNat 8,.ofNat 8,.ofNat 8,.ofNat 8,.ofNat 8,.ofNat 8,.ofNat 8,.ofNat 8,.ofNat 8,.ofNat 8,.ofNat 8,.ofNat 8,.ofNat 8,.ofNat 8,.ofNat 8,.ofNat 8,.ofNat 8,.ofNat 8,.ofNat 8,.ofNat 8,.ofNat 8,.ofNat 8,.ofNat 8,.ofNat 8,.ofNat 8,.ofNat 8,.ofNat 8,.ofNat 8]⟩) n29) (λb6=>A.conv .i64 b6 (λn31=>A.ari .add .i64 n27 n31 (λn32=>K [(.i n32)] b3)))))))) (λV=>A.cond b1 ( A.shf .shr .u64 n18 .u64 8 (λn34=>A.ari .add .i64 n20 8 (λn35=>V [(.i n34),(.i n35)] U))) ( V [(.i n18),(.i n20)] U))))))) (λa0=>A.cond a7 ( A.shf .shr .u64 n11 .u64 16 (λn37=>A.ari .add .i64 n13 16 (λn38=>a0 [(.i n37),(.i n38)] O))) ( a0 [(.i n11),(.i n13)] O))))))) (λa1=>A.cond a3 ( A.shf .shr .u64 n6 .u64 32 (λn40=>a1 [(.i n40),(.i 32)] h)) ( a1 [(.i n6),(.i 0)] h)))))
/-- slices.IndexFunc[[]crimp/patterns.Crease,crimp/patterns.Crease] -/
def f69(ls:List Lf)(h:HT)(K:List Lf->HT->R):R:=A.unV ls (λU a0=>A.unV a0 (λa1 a2=>A.un0 a2 ( A.opt (lenS U) (λa3=>A.loop (λa4 a5 O=>A.unI a5 (λn14 a6=>A.un0 a6 ( A.cmp .lss n14 a3 (λa7=>A.cond a7 ( A.opt (idS 3 U n14) (λa8=>A.peek (.lg cc 3 a8) O (λa9=>A.ucI .i64 a9 (λn19 b0=>A.ucI .u8 b0 (λn21 b1=>A.ucI .u8 b1 (λn23 b2=>A.uc0 b2 ( A.callv a1 [(.agg ⟨[(.int .i64 n19),(.int .u8 n21),(.int .u8 n23)]⟩)] [(.leaf .b)] O (λb3 V=>A.unB b3 (λb4 b5=>A.un0 b5 ( A.cond b4 ( K [(.i n14)] V) ( A.ari .add .i64 n14 1 (λn29=>a4 [(.i n29)] V)))))))))))) ( K [(.i (-1))] O))))) [(.i 0)] h))))
/-- crimp/cells.Corners -/
def f70(ls:List Lf)(h:HT)(K:List Lf->HT->R):R:=A.unI ls (λn6 a1=>A.unI a1 (λn8 a2=>A.unI a2 (λn10 a3=>A.un0 a3 ( A.call 37 [(.i n6),(.i n8),(.i n10)] h (λa4 O=>A.unI a4 (λn14 a5=>A.un0 a5 ( A.cmp .neq n14 0 (λa6=>A.cond a6 ( K [(.i 0),(.i 0),(.i 0),(.i 0),(.i 0),(.i 0),(.i 1)] O) ( A.opt (inB 4 n10) (λh7=>A.opt (se gl2 0 [(n10,17)] 17) (λa7=>A.ucI .i64 a7 (λn19 a8=>A.ucI .i64 a8 (λn21 a9=>A.ucI .u8 a9 (λn23 b0=>A.ucI .i64 b0 (λn25 b1=>A.ucI .i64 b1 (λn27 b2=>A.ucI .i64 b2 (λn29 b3=>A.ucI .u8 b3 (λn31 b4=>A.ucI .i64 b4 (λn33 b5=>A.ucI .i64 b5 (λn35 b6=>A.ucI .u8 b6 (λn37 b7=>A.ucI .i64 b7 (λn39 b8=>A.ucI .i64 b8 (λn41 b9=>A.ucI .u8 b9 (λn43 c0=>A.ucI .i64 c0 (λn45 c1=>A.ucI .i64 c1 (λn47 d0=>A.ucI .i64 d0 (λn49 d1=>A.ucI .i64 d1 (λn51 d2=>A.uc0 d2 ( A.loop (λd3 d4 U=>A.unI d4 (λn56 d5=>A.unI d5 (λn58 d6=>A.unI d6 (λn60 d7=>A.unI d7 (λn62 d8=>A.unI d8 (λn64 d9=>A.unI d9 (λn66 e0=>A.unI e0 (λn68 e1=>A.un0 e1 ( A.cmp .lss n56 3 (λe2=>A.cond e2 ( A.opt (inB 3 n56) (λh8=>A.opt (eh [(.i n58),(.i n60),(.i n62),(.i n64),(.i n66),(.i n68)] 0 [(n56,2)] 1) (λf0=>A.unI f0 (λn73 f1=>A.un0 f1 ( A.ari .mul .i64 2 n6 (λn75=>A.ari .add .i64 n73 n75 (λf2=>A.opt (inB 3 n56) (λh9=>A.opt (putL [(.i n58),(.i n60),(.i n62),(.i n64),(.i n66),(.i n68)] 0 [(n56,2)] [(.i f2)]) (λg0=>A.unI g0 (λV g1=>A.unI g1 (λa0 g2=>A.unI g2 (λn83 g3=>A.unI g3 (λn85 g4=>A.unI g4 (λn87 g5=>A.unI g5 (λn89 g6=>A.un0 g6 ( A.opt (inB 3 n56) (λi0=>A.opt (eh [(.i V),(.i a0),(.i n83),(.i n85),(.i n87),(.i n89)] 1 [(n56,2)] 1) (λx92=>A.unI x92 (λn93 g7=>A.un0 g7 ( A.ari .mul .i64 2 n8 (λn95=>A.ari .add .i64 n93 n95 (λn96=>A.opt (inB 3 n56) (λi1=>A.opt (putL [(.i V),(.i a0),(.i n83),(.i n85),(.i n87),(.i n89)] 1 [(n56,2)] [(.i n96)]) (λg8=>A.unI g8 (λg9 h0=>A.unI h0 (λn101 h1=>A.unI h1 (λn103 h2=>A.unI h2 (λn105 h3=>A.unI h3 (λn107 h4=>A.unI h4 (λn109 h5=>A.un0 h5 ( A.ari .add .i64 n56 1 (λh6=>d3 [(.i h6),(.i g9),(.i n101),(.i n103),(.i n105),(.i n107),(.i n109)] U)))))))))))))))))))))))))))))))) ( K [(.i n58),(.i n60),(.i n62),(.i n64),(.i n66),(.i n68),(.i 0)] U))))))))))) [(.i 0),(.i 1),(.i 1),(.i n45),(.i n47),(.i n49),(.i n51)] O)))))))))))))))))))))))))))))
/-- crimp/sheets.Ends -/
def f71(ls:List Lf)(h:HT)(K:List Lf->HT->R):R:=A.unI ls (λn6 a0=>A.unI a0 (λn8 a1=>A.unI a1 (λn10 a2=>A.unI a2 (λn12 a3=>A.un0 a3 ( A.call 95 [(.i n6),(.i n8),(.i n10),(.i n12)] h (λa4 U=>A.unI a4 (λn16 a5=>A.unI a5 (λn18 a6=>A.unI a6 (λn20 a7=>A.unI a7 (λn22 a8=>A.un0 a8 ( A.cmp .neq n22 0 (λa9=>A.cond a9 ( K [(.i 0),(.i 0),(.i 0),(.i 0),(.i n22)] U) ( A.call 70 [(.i n16),(.i n18),(.i n20)] U (λb0 O=>A.unI b0 (λn27 b1=>A.unI b1 (λn29 b2=>A.unI b2 (λn31 b3=>A.unI b3 (λn33 b4=>A.unI b4 (λn35 b5=>A.unI b5 (λn37 b6=>A.unI b6 (λn39 b7=>A.un0 b7 ( A.ari .add .u8 n12 1 (λn41=>A.ari .rem .u8 n41 3 (λn42=>A.opt (inB 3 n42) (λe1=>A.opt (eh [(.i n27),(.i n29),(.i n31),(.i n33),(.i n35),(.i n37)] 0 [(n42,2)] 2) (λb8=>A.unI b8 (λn45 b9=>A.unI b9 (λn47 c0=>A.un0 c0 ( A.ari .add .u8 n12 2 (λn49=>A.ari .rem .u8 n49 3 (λn50=>A.opt (inB 3 n50) (λx51=>A.opt (eh [(.i n27),(.i n29),(.i n31),(.i n33),(.i n35),(.i n37)] 0 [(n50,2)] 2) (λc1=>A.unI c1 (λn53 d0=>A.unI d0 (λn55 d1=>A.un0 d1 ( A.cmp .lss n53 n45 (λd2=>A.cond d2 ( K [(.i n53),(.i n55),(.i n45),(.i n47),(.i 0)] O) ( A.cmp .eql n53 n45 (λd3=>A.cond d3 ( A.cmp .lss n55 n47 (λd4=>A.join (λd5 d6=>A.unI d5 (λn62 d7=>A.unI d7 (λn64 d8=>A.unI d8 (λn66 d9=>A.unI d9 (λn68 e0=>A.un0 e0 ( K [(.i n62),(.i n64),(.i n66),(.i n68),(.i 0)] d6)))))) (λV=>A.cond d4 ( V [(.i n53),(.i n55),(.i n45),(.i n47)] O) ( V [(.i n45),(.i n47),(.i n53),(.i n55)] O)))) ( K [(.i n45),(.i n47),(.i n53),(.i n55),(.i 0)] O))))))))))))))))))))))))))))))))))))))))
/-- crimp/corners.sign -/
def f72(ls:List Lf)(h:HT)(K:List Lf->HT->R):R:=A.unI ls (λn6 O=>A.un0 O ( A.cmp .lss n6 (-1) (λU=>A.sel U (-1) n6 (λn9=>A.cmp .lss 1 n9 (λV=>A.sel V 1 n9 (λn11=>K [(.i n11)] h))))))
/-- slices.Index[[]crimp/api.Point,crimp/api.Point] -/
def f73(ls:List Lf)(h:HT)(K:List Lf->HT->R):R:=A.unV ls (λU V=>A.unI V (λn8 a0=>A.unI a0 (λn10 a1=>A.un0 a1 ( A.opt (lenS U) (λx12=>A.loop (λa2 a3 O=>A.unI a3 (λn16 a4=>A.un0 a4 ( A.cmp .lss n16 x12 (λa5=>A.cond a5 ( A.opt (idS 2 U n16) (λa6=>A.peek (.lg cc 2 a6) O (λa7=>A.ucI .i64 a7 (λn21 a8=>A.ucI .i64 a8 (λn23 a9=>A.uc0 a9 ( A.eqs [((.i n8),(.i n21)),((.i n10),(.i n23))] (λb0=>A.cond b0 ( K [(.i n16)] O) ( A.ari .add .i64 n16 1 (λn26=>a2 [(.i n26)] O))))))))) ( K [(.i (-1))] O))))) [(.i 0)] h)))))
/-- crimp/patterns.find -/
def f74(ls:List Lf)(h:HT)(K:List Lf->HT->R):R:=A.unV ls (λO U=>A.unI U (λn8 V=>A.unI V (λn10 a0=>A.un0 a0 ( A.call 96 [(.v O),(.i n8),(.i n10),(.v (.func (.func 97) ⟨[]⟩ ⟨[]⟩))] h (λa1 a2=>A.unI a1 (λn14 a3=>A.unB a3 (λa4 a5=>A.un0 a5 ( K [(.i n14),(.b a4)] a2))))))))
/-- slices.insertionSortCmpFunc[crimp/corners.Ray] -/
def f75(ls:List Lf)(h:HT)(K:List Lf->HT->R):R:=A.unV ls (λO a2=>A.unI a2 (λn8 a3=>A.unI a3 (λn10 a4=>A.unV a4 (λx12 a5=>A.un0 a5 ( A.ari .add .i64 n8 1 (λn14=>A.loop (λa6 a7 a0=>A.unI a7 (λn18 a8=>A.un0 a8 ( A.cmp .lss n18 n10 (λa9=>A.cond a9 ( A.join (λb0 b1=>A.un0 b0 ( A.ari .add .i64 n18 1 (λn23=>a6 [(.i n23)] b1))) (λa1=>A.loop (λb2 b3 U=>A.unI b3 (λn28 b4=>A.un0 b4 ( A.cmp .gtr n28 n8 (λb5=>A.cond b5 ( A.opt (idS 2 O n28) (λb6=>A.peek (.lg cc 2 b6) U (λb7=>A.ucI .i64 b7 (λn33 b8=>A.ucI .u8 b8 (λn35 b9=>A.uc0 b9 ( A.ari .sub .i64 n28 1 (λn37=>A.opt (idS 2 O n37) (λc0=>A.peek (.lg cc 2 c0) U (λc1=>A.ucI .i64 c1 (λn40 d0=>A.ucI .u8 d0 (λn42 d1=>A.uc0 d1 ( A.callv x12 [(.agg ⟨[(.int .i64 n33),(.int .u8 n35)]⟩),(.agg ⟨[(.int .i64 n40),(.int .u8 n42)]⟩)] [(.leaf (.i .i64))] U (λd2 V=>A.unI d2 (λn46 d3=>A.un0 d3 ( A.cmp .lss n46 0 (λd4=>A.cond d4 ( A.ari .sub .i64 n28 1 (λn49=>A.ari .sub .i64 n28 1 (λn50=>A.opt (idS 2 O n50) (λx51=>A.peek (.lg cc 2 x51) V (λd5=>A.ucI .i64 d5 (λn53 d6=>A.ucI .u8 d6 (λn55 d7=>A.uc0 d7 ( A.opt (idS 2 O n28) (λd8=>A.peek (.lg cc 2 d8) V (λd9=>A.ucI .i64 d9 (λn59 e0=>A.ucI .u8 e0 (λn61 e1=>A.uc0 e1 ( A.opt (idS 2 O n28) (λx63=>A.heap (.st x63 [(.int .i64 n53),(.int .u8 n55)]) V (λf1 e2=>A.opt (idS 2 O n49) (λx66=>A.heap (.st x66 [(.int .i64 n59),(.int .u8 n61)]) e2 (λf2 f0=>A.ari .sub .i64 n28 1 (λn69=>b2 [(.i n69)] f0)))))))))))))))))) ( a1 [] V))))))))))))))))) ( a1 [] U))))) [(.i n18)] a0)) ( K [] a0))))) [(.i n14)] h))))))
/-- crimp/sheets.Units -/
def f83(ls:List Lf)(h:HT)(K:List Lf->HT->R):R:=A.unI ls (λn6 a0=>A.unI a0 (λn8 a1=>A.un0 a1 ( A.call 34 [(.i n6),(.i n8)] h (λa2 U=>A.unI a2 (λn12 a3=>A.un0 a3 ( A.cmp .neq n12 0 (λa4=>A.cond a4 ( K [(.v (.slice none 0 0)),(.i n12)] U) ( A.new (.cells [(.slice none 0 0)] 1 true) U (λV a5=>A.call 101 [(.i n6),(.i n8)] a5 (λa6 a7=>A.unV a6 (λa8 a9=>A.un0 a9 ( A.rfun 1328 a8 [(.pointer (some ⟨V,0,none⟩))] a7 (λb0 O=>A.pend b0 ( A.peek (.lg cc 1 (.pointer (some ⟨V,0,none⟩))) O (λb1=>A.ucV b1 (λx24 b2=>A.chk x24 ( A.uc0 b2 ( A.call 86 [(.v x24)] O (λb3 b4=>A.unV b3 (λb5 b6=>A.un0 b6 ( K [(.v b5),(.i 0)] b4)))))))) ( K [(.v (.slice none 0 0)),(.i 0)] O) [])))))))))))))
/-- crimp/segments.lies -/
def f84(ls:List Lf)(h:HT)(K:List Lf->HT->R):R:=A.unI ls (λn6 O=>A.unI O (λn8 U=>A.unI U (λn10 V=>A.unI V (λn12 a0=>A.un0 a0 ( A.call 102 [(.i n6),(.i n8),(.i n10),(.i n12)] h (λa1 a2=>A.unI a1 (λn16 a3=>A.unI a3 (λn18 a4=>A.unI a4 (λn20 a5=>A.un0 a5 ( A.call 71 [(.i n6),(.i n8),(.i n10),(.i n12)] a2 (λa6 a7=>A.unI a6 (λn24 a8=>A.unI a8 (λn26 a9=>A.unI a9 (λn28 b0=>A.unI b0 (λn30 b1=>A.unI b1 (λn32 b2=>A.un0 b2 ( A.call 103 [(.i n16),(.i n24),(.i n26)] a7 (λb3 b4=>A.unI b3 (λn36 b5=>A.un0 b5 ( A.call 103 [(.i n16),(.i n28),(.i n30)] b4 (λb6 b7=>A.unI b6 (λn40 b8=>A.un0 b8 ( K [(.i n16),(.i n18),(.i n36),(.i n40)] b7)))))))))))))))))))))))
/-- crimp/segments.ordinary -/
def f85(ls:List Lf)(h:HT)(K:List Lf->HT->R):R:=A.unI ls (λn6 V=>A.unI V (λn8 a0=>A.unI a0 (λn10 a1=>A.unI a1 (λn12 a2=>A.unI a2 (λn14 a3=>A.un0 a3 ( A.join (λa4 a5=>A.unB a4 (λa6 a7=>A.un0 a7 ( K [(.b a6)] a5))) (λO=>A.cmp .geq n6 1 (λa8=>A.cond a8 ( A.cmp .leq n6 3 (λa9=>A.cond a9 ( A.call 104 [(.i n8),(.i n10)] h (λb0 U=>A.unI b0 (λn25 b1=>A.un0 b1 ( A.cmp .eql n25 0 (λb2=>A.cond b2 ( A.cmp .lss n12 n14 (λb3=>O [(.b b3)] U)) ( O [(.b false)] U)))))) ( O [(.b false)] h))) ( O [(.b false)] h)))))))))
/-- slices.Clip[[]crimp/sheets.Unit,crimp/sheets.Unit] -/
def f86(ls:List Lf)(h:HT)(K:List Lf->HT->R):R:=A.unV ls (λO V=>A.un0 V ( A.opt (lenS O) (λa0=>A.opt (lenS O) (λa1=>A.opt (slS 2 O none (some a0) (some a1)) (λU=>A.chk U ( K [(.v U)] h))))))
def f87(ls:List Lf)(h:HT)(K:List Lf->HT->R):R:=A.unI ls (λn6 V=>A.unI V (λn8 a0=>A.un0 a0 ( A.call 105 [(.i n6)] h (λa1 a2=>A.unB a1 (λa3 a4=>A.un0 a4 ( A.call 105 [(.i n8)] a2 (λa5 O=>A.unB a5 (λU a6=>A.un0 a6 ( A.cond a3 ( A.cond U ( K [(.i 0)] O) ( K [(.i (-1))] O)) ( A.cond U ( K [(.i 1)] O) ( A.cmp .lss n6 n8 (λa7=>A.cond a7 ( K [(.i (-1))] O) ( A.cmp .gtr n6 n8 (λa8=>A.cond a8 ( K [(.i 1)] O) ( K [(.i 0)] O)))))))))))))))
/-- crimp/crimpref05.Id -/
def f88(ls:List Lf)(h:HT)(K:List Lf->HT->R):R:=A.unI ls (λn6 O=>A.unI O (λn8 U=>A.unI U (λn10 V=>A.unI V (λn12 a0=>A.unI a0 (λn14 a1=>A.un0 a1 ( A.cmp .lss n10 0 (λa2=>A.cond a2 ( K [(.i (-1))] h) ( A.cmp .lss n12 0 (λa3=>A.cond a3 ( K [(.i (-1))] h) ( A.cmp .geq n10 n6 (λa4=>A.cond a4 ( K [(.i (-1))] h) ( A.cmp .geq n12 n8 (λa5=>A.cond a5 ( K [(.i (-1))] h) ( A.cmp .gtr n14 3 (λa6=>A.cond a6 ( K [(.i (-1))] h) ( A.ari .mul .i64 4 n6 (λn21=>A.ari .mul .i64 n21 n12 (λn22=>A.ari .mul .i64 4 n10 (λn23=>A.ari .add .i64 n22 n23 (λn24=>A.conv .i64 n14 (λn25=>A.ari .add .i64 n24 n25 (λn26=>K [(.i n26)] h))))))))))))))))))))))
/-- crimp/crimpref03.Neighbour -/
def f89(ls:List Lf)(h:HT)(K:List Lf->HT->R):R:=A.unI ls (λn6 U=>A.unI U (λn8 V=>A.unI V (λn10 a0=>A.unI a0 (λn12 a1=>A.un0 a1 ( A.call 106 [(.i n6),(.i n8),(.i n10),(.i n12)] h (λa2 a3=>A.unI a2 (λn16 a4=>A.unI a4 (λn18 a5=>A.un0 a5 ( A.call 107 [(.i n6),(.i n8),(.i n10)] a3 (λa6 a7=>A.unI a6 (λn22 a8=>A.unI a8 (λn24 a9=>A.unI a9 (λn26 b0=>A.unI b0 (λn28 b1=>A.unI b1 (λn30 b2=>A.unI b2 (λn32 b3=>A.un0 b3 ( A.loop (λb4 b5 O=>A.unI b5 (λn37 b6=>A.unI b6 (λn39 b7=>A.unI b7 (λn41 b8=>A.unI b8 (λn43 b9=>A.unI b9 (λn45 c0=>A.unI c0 (λn47 c1=>A.unI c1 (λn49 d0=>A.un0 d0 ( A.cmp .lss n37 3 (λd1=>A.cond d1 ( A.opt (inB 3 n37) (λg8=>A.opt (eh [(.i n39),(.i n41),(.i n43),(.i n45),(.i n47),(.i n49)] 0 [(n37,2)] 2) (λd2=>A.unI d2 (λn54 d3=>A.unI d3 (λn56 d4=>A.un0 d4 ( A.call 108 [(.i n16),(.i n18),(.i n54),(.i n56)] O (λd5 d6=>A.unI d5 (λn60 d7=>A.unI d7 (λn62 d8=>A.un0 d8 ( A.opt (inB 3 n37) (λx64=>A.opt (putL [(.i n39),(.i n41),(.i n43),(.i n45),(.i n47),(.i n49)] 0 [(n37,2)] [(.i n60),(.i n62)]) (λd9=>A.unI d9 (λn66 e0=>A.unI e0 (λn68 e1=>A.unI e1 (λn70 e2=>A.unI e2 (λn72 f0=>A.unI f0 (λn74 f1=>A.unI f1 (λf2 g0=>A.un0 g0 ( A.ari .add .i64 n37 1 (λg1=>b4 [(.i g1),(.i n66),(.i n68),(.i n70),(.i n72),(.i n74),(.i f2)] d6)))))))))))))))))))) ( A.call 109 [(.i n39),(.i n41),(.i n43),(.i n45),(.i n47),(.i n49)] O (λg2 g3=>A.unI g2 (λg4 g5=>A.unI g5 (λn83 g6=>A.unI g6 (λn85 g7=>A.un0 g7 ( K [(.i g4),(.i n83),(.i n85)] g3)))))))))))))))) [(.i 0),(.i n22),(.i n24),(.i n26),(.i n28),(.i n30),(.i n32)] a7)))))))))))))))))
/-- slices.siftDownCmpFunc[crimp/patterns.Crease] -/
def f90(ls:List Lf)(h:HT)(K:List Lf->HT->R):R:=A.unV ls (λO a6=>A.unI a6 (λn8 a7=>A.unI a7 (λn10 a8=>A.unI a8 (λn12 a9=>A.unV a9 (λa1 b0=>A.un0 b0 ( A.loop (λa3 b1 U=>A.unI b1 (λn19 b2=>A.un0 b2 ( A.ari .mul .i64 2 n19 (λn21=>A.ari .add .i64 n21 1 (λn22=>A.cmp .geq n22 n10 (λb3=>A.cond b3 ( K [] U) ( A.ari .add .i64 n22 1 (λn24=>A.cmp .lss n24 n10 (λb4=>A.cond b4 ( A.ari .add .i64 n12 n22 (λn26=>A.opt (idS 3 O n26) (λx27=>A.peek (.lg cc 3 x27) U (λb5=>A.ucI .i64 b5 (λn29 b6=>A.ucI .u8 b6 (λn31 b7=>A.ucI .u8 b7 (λn33 b8=>A.uc0 b8 ( A.ari .add .i64 n12 n22 (λn35=>A.ari .add .i64 n35 1 (λn36=>A.opt (idS 3 O n36) (λb9=>A.peek (.lg cc 3 b9) U (λc0=>A.ucI .i64 c0 (λn39 c1=>A.ucI .u8 c1 (λn41 d0=>A.ucI .u8 d0 (λn43 d1=>A.uc0 d1 ( A.callv a1 [(.agg ⟨[(.int .i64 n29),(.int .u8 n31),(.int .u8 n33)]⟩),(.agg ⟨[(.int .i64 n39),(.int .u8 n41),(.int .u8 n43)]⟩)] [(.leaf (.i .i64))] U (λd2 a4=>A.unI d2 (λn47 d3=>A.un0 d3 ( A.cmp .lss n47 0 (λd4=>A.join (λd5 a2=>A.unI d5 (λn52 d6=>A.un0 d6 ( A.ari .add .i64 n12 n19 (λn54=>A.opt (idS 3 O n54) (λd7=>A.peek (.lg cc 3 d7) a2 (λd8=>A.ucI .i64 d8 (λn57 d9=>A.ucI .u8 d9 (λn59 e0=>A.ucI .u8 e0 (λn61 e1=>A.uc0 e1 ( A.ari .add .i64 n12 n52 (λn63=>A.opt (idS 3 O n63) (λx64=>A.peek (.lg cc 3 x64) a2 (λe2=>A.ucI .i64 e2 (λn66 f0=>A.ucI .u8 f0 (λn68 f1=>A.ucI .u8 f1 (λn70 f2=>A.uc0 f2 ( A.callv a1 [(.agg ⟨[(.int .i64 n57),(.int .u8 n59),(.int .u8 n61)]⟩),(.agg ⟨[(.int .i64 n66),(.int .u8 n68),(.int .u8 n70)]⟩)] [(.leaf (.i .i64))] a2 (λg0 V=>A.unI g0 (λn74 g1=>A.un0 g1 ( A.cmp .lss n74 0 (λg2=>A.cond (!g2) ( K [] V) ( A.ari .add .i64 n12 n19 (λg3=>A.ari .add .i64 n12 n52 (λg4=>A.ari .add .i64 n12 n52 (λg5=>A.opt (idS 3 O g5) (λg6=>A.peek (.lg cc 3 g6) V (λg7=>A.ucI .i64 g7 (λg8 g9=>A.ucI .u8 g9 (λn84 h0=>A.ucI .u8 h0 (λn86 h1=>A.uc0 h1 ( A.ari .add .i64 n12 n19 (λn88=>A.opt (idS 3 O n88) (λh2=>A.peek (.lg cc 3 h2) V (λh3=>A.ucI .i64 h3 (λn91 h4=>A.ucI .u8 h4 (λn93 h5=>A.ucI .u8 h5 (λn95 h6=>A.uc0 h6 ( A.opt (idS 3 O g3) (λh7=>A.heap (.st h7 [(.int .i64 g8),(.int .u8 n84),(.int .u8 n86)]) V (λm9 h8=>A.opt (idS 3 O g4) (λh9=>A.heap (.st h9 [(.int .i64 n91),(.int .u8 n93),(.int .u8 n95)]) h8 (λn0 i0=>a3 [(.i n52)] i0)))))))))))))))))))))))))))))))))))))))))) (λa5=>A.cond d4 ( A.ari .add .i64 n22 1 (λn104=>a5 [(.i n104)] a4)) ( a5 [(.i n22)] a4)))))))))))))))))))))) ( A.ari .add .i64 n12 n19 (λn105=>A.opt (idS 3 O n105) (λi1=>A.peek (.lg cc 3 i1) U (λi2=>A.ucI .i64 i2 (λn108 j0=>A.ucI .u8 j0 (λn110 j1=>A.ucI .u8 j1 (λn112 j2=>A.uc0 j2 ( A.ari .add .i64 n12 n22 (λn114=>A.opt (idS 3 O n114) (λj3=>A.peek (.lg cc 3 j3) U (λj4=>A.ucI .i64 j4 (λj5 j6=>A.ucI .u8 j6 (λj7 j8=>A.ucI .u8 j8 (λj9 k0=>A.uc0 k0 ( A.callv a1 [(.agg ⟨[(.int .i64 n108),(.int .u8 n110),(.int .u8 n112)]⟩),(.agg ⟨[(.int .i64 j5),(.int .u8 j7),(.int .u8 j9)]⟩)] [(.leaf (.i .i64))] U (λk1 a0=>A.unI k1 (λk2 k3=>A.un0 k3 ( A.cmp .lss k2 0 (λk4=>A.cond (!k4) ( K [] a0) ( A.ari .add .i64 n12 n19 (λk5=>A.ari .add .i64 n12 n22 (λk6=>A.ari .add .i64 n12 n22 (λk7=>A.opt (idS 3 O k7) (λk8=>A.peek (.lg cc 3 k8) a0 (λk9=>A.ucI .i64 k9 (λl0 l1=>A.ucI .u8 l1 (λl2 l3=>A.ucI .u8 l3 (λl4 l5=>A.uc0 l5 ( A.ari .add .i64 n12 n19 (λl6=>A.opt (idS 3 O l6) (λl7=>A.peek (.lg cc 3 l7) a0 (λl8=>A.ucI .i64 l8 (λl9 m0=>A.ucI .u8 m0 (λm1 m2=>A.ucI .u8 m2 (λm3 m4=>A.uc0 m4 ( A.opt (idS 3 O k5) (λm5=>A.heap (.st m5 [(.int .i64 l0),(.int .u8 l2),(.int .u8 l4)]) a0 (λn1 m6=>A.opt (idS 3 O k6) (λm7=>A.heap (.st m7 [(.int .i64 l9),(.int .u8 m1),(.int .u8 m3)]) m6 (λn2 m8=>a3 [(.i n22)] m8))))))))))))))))))))))))))))))))))))))))))))))))) [(.i n8)] h))))))
def f91(ls:List Lf)(h:HT)(K:List Lf->HT->R):R:=A.unI ls (λn6 O=>A.un0 O ( A.conv .u64 n6 (λn8=>A.call 40 [(.i n8)] h (λU V=>A.unI U (λn11 a0=>A.un0 a0 ( A.shf .shl .u64 1 .i64 n11 (λn13=>K [(.i n13)] V)))))))
def f92(ls:List Lf)(h:HT)(K:List Lf->HT->R):R:=A.unV ls (λO a8=>A.un0 a8 ( A.opt (nilP O) (λa0=>A.chk a0 ( A.peek (.lg cc 1 a0) h (λa9=>A.ucI .u64 a9 (λn10 b0=>A.uc0 b0 ( A.opt (nilP O) (λx12=>A.chk x12 ( A.peek (.lg cc 1 x12) h (λb1=>A.ucI .u64 b1 (λn14 b2=>A.uc0 b2 ( A.shf .shl .u64 n14 .u64 13 (λn16=>A.ari .xor .u64 n10 n16 (λn17=>A.opt (nilP O) (λa1=>A.chk a1 ( A.heap (.st a1 [(.int .u64 n17)]) h (λd1 U=>A.opt (nilP O) (λx21=>A.chk x21 ( A.peek (.lg cc 1 x21) U (λb3=>A.ucI .u64 b3 (λn23 b4=>A.uc0 b4 ( A.opt (nilP O) (λx25=>A.chk x25 ( A.peek (.lg cc 1 x25) U (λb5=>A.ucI .u64 b5 (λn27 b6=>A.uc0 b6 ( A.shf .shr .u64 n27 .u64 7 (λn29=>A.ari .xor .u64 n23 n29 (λn30=>A.opt (nilP O) (λa2=>A.chk a2 ( A.heap (.st a2 [(.int .u64 n30)]) U (λd2 V=>A.opt (nilP O) (λa3=>A.chk a3 ( A.peek (.lg cc 1 a3) V (λb7=>A.ucI .u64 b7 (λn36 b8=>A.uc0 b8 ( A.opt (nilP O) (λa4=>A.chk a4 ( A.peek (.lg cc 1 a4) V (λb9=>A.ucI .u64 b9 (λn40 c0=>A.uc0 c0 ( A.shf .shl .u64 n40 .u64 17 (λn42=>A.ari .xor .u64 n36 n42 (λn43=>A.opt (nilP O) (λa5=>A.chk a5 ( A.heap (.st a5 [(.int .u64 n43)]) V (λd3 a6=>A.opt (nilP O) (λa7=>A.chk a7 ( A.peek (.lg cc 1 a7) a6 (λc1=>A.ucI .u64 c1 (λn49 d0=>A.uc0 d0 ( K [(.i n49)] a6))))))))))))))))))))))))))))))))))))))))))))))))))))
/-- slices.medianAdjacentCmpFunc[crimp/patterns.Crease] -/
def f93(ls:List Lf)(h:HT)(K:List Lf->HT->R):R:=A.unV ls (λO U=>A.unI U (λn8 V=>A.unV V (λa0 a1=>A.unV a1 (λx12 a2=>A.un0 a2 ( A.ari .sub .i64 n8 1 (λn14=>A.ari .add .i64 n8 1 (λn15=>A.call 94 [(.v O),(.i n14),(.i n8),(.i n15),(.v a0),(.v x12)] h (λa3 a4=>A.unI a3 (λn18 a5=>A.un0 a5 ( K [(.i n18)] a4))))))))))
/-- slices.medianCmpFunc[crimp/patterns.Crease] -/
def f94(ls:List Lf)(h:HT)(K:List Lf->HT->R):R:=A.unV ls (λO V=>A.unI V (λn8 a0=>A.unI a0 (λn10 a1=>A.unI a1 (λn12 a2=>A.unV a2 (λU a3=>A.unV a3 (λx16 a4=>A.un0 a4 ( A.call 110 [(.v O),(.i n8),(.i n10),(.v U),(.v x16)] h (λa5 a6=>A.unI a5 (λn20 a7=>A.unI a7 (λn22 a8=>A.un0 a8 ( A.call 110 [(.v O),(.i n22),(.i n12),(.v U),(.v x16)] a6 (λa9 b0=>A.unI a9 (λn26 b1=>A.unI b1 (λn28 b2=>A.un0 b2 ( A.call 110 [(.v O),(.i n20),(.i n26),(.v U),(.v x16)] b0 (λb3 b4=>A.unI b3 (λn32 b5=>A.unI b5 (λn34 b6=>A.un0 b6 ( K [(.i n34)] b4)))))))))))))))))))
/-- crimp/sheets.named -/
def f95(ls:List Lf)(h:HT)(K:List Lf->HT->R):R:=A.unI ls (λn6 V=>A.unI V (λn8 a0=>A.unI a0 (λn10 a1=>A.unI a1 (λn12 a2=>A.un0 a2 ( A.call 34 [(.i n6),(.i n8)] h (λa3 U=>A.unI a3 (λn16 a4=>A.un0 a4 ( A.cmp .neq n16 0 (λa5=>A.cond a5 ( K [(.i 0),(.i 0),(.i 0),(.i n16)] U) ( A.call 15 [(.i n6),(.i n8),(.i n10),(.i n12)] U (λa6 O=>A.unI a6 (λn21 a7=>A.unI a7 (λn23 a8=>A.unI a8 (λn25 a9=>A.un0 a9 ( A.cmp .neq n25 0 (λb0=>A.cond b0 ( K [(.i 0),(.i 0),(.i 0),(.i 7)] O) ( A.eqs [((.i n21),(.i n10)),((.i n23),(.i n12))] (λb1=>A.cond (!b1) ( K [(.i 0),(.i 0),(.i 0),(.i 7)] O) ( A.call 36 [(.i n6),(.i n8),(.i n10)] O (λb2 b3=>A.unI b2 (λn31 b4=>A.unI b4 (λn33 b5=>A.unI b5 (λn35 b6=>A.un0 b6 ( K [(.i n31),(.i n33),(.i n35),(.i 0)] b3))))))))))))))))))))))))
/-- slices.BinarySearchFunc[[]crimp/patterns.Crease,crimp/patterns.Crease,crimp/sheets.Unit] -/
def f96(ls:List Lf)(h:HT)(K:List Lf->HT->R):R:=A.unV ls (λU a3=>A.unI a3 (λn8 a4=>A.unI a4 (λn10 a5=>A.unV a5 (λx12 a6=>A.un0 a6 ( A.opt (lenS U) (λV=>A.loop (λa7 a8 O=>A.unI a8 (λn18 a9=>A.unI a9 (λn20 b0=>A.un0 b0 ( A.cmp .lss n18 n20 (λb1=>A.cond b1 ( A.ari .add .i64 n18 n20 (λn23=>A.conv .u64 n23 (λn24=>A.shf .shr .u64 n24 .u64 1 (λn25=>A.conv .i64 n25 (λn26=>A.opt (idS 3 U n26) (λx27=>A.peek (.lg cc 3 x27) O (λb2=>A.ucI .i64 b2 (λn29 b3=>A.ucI .u8 b3 (λn31 b4=>A.ucI .u8 b4 (λn33 b5=>A.uc0 b5 ( A.callv x12 [(.agg ⟨[(.int .i64 n29),(.int .u8 n31),(.int .u8 n33)]⟩),(.agg ⟨[(.int .i64 n8),(.int .u8 n10)]⟩)] [(.leaf (.i .i64))] O (λb6 a0=>A.unI b6 (λn37 b7=>A.un0 b7 ( A.cmp .lss n37 0 (λb8=>A.join (λb9 c0=>A.unI b9 (λn42 c1=>A.unI c1 (λn44 d0=>A.un0 d0 ( a7 [(.i n42),(.i n44)] c0)))) (λa1=>A.cond b8 ( A.ari .add .i64 n26 1 (λn47=>a1 [(.i n47),(.i n20)] a0)) ( a1 [(.i n18),(.i n26)] a0))))))))))))))))) ( A.join (λd1 d2=>A.unI d1 (λn50 d3=>A.unB d3 (λd4 d5=>A.un0 d5 ( K [(.i n50),(.b d4)] d2)))) (λa2=>A.cmp .lss n18 V (λd6=>A.cond d6 ( A.opt (idS 3 U n18) (λd7=>A.peek (.lg cc 3 d7) O (λd8=>A.ucI .i64 d8 (λn58 d9=>A.ucI .u8 d9 (λn60 e0=>A.ucI .u8 e0 (λn62 e1=>A.uc0 e1 ( A.callv x12 [(.agg ⟨[(.int .i64 n58),(.int .u8 n60),(.int .u8 n62)]⟩),(.agg ⟨[(.int .i64 n8),(.int .u8 n10)]⟩)] [(.leaf (.i .i64))] O (λe2 f0=>A.unI e2 (λn66 f1=>A.un0 f1 ( A.cmp .eql n66 0 (λf2=>a2 [(.i n18),(.b f2)] f0))))))))))) ( a2 [(.i n18),(.b false)] O))))))))) [(.i 0),(.i V)] h))))))
/-- crimp/patterns.find$1 -/
def f97(ls:List Lf)(h:HT)(K:List Lf->HT->R):R:=A.unI ls (λn6 O=>A.unI O (λn8 U=>A.unI U (λn10 V=>A.unI V (λn12 a0=>A.unI a0 (λn14 a1=>A.un0 a1 ( A.call 19 [(.i n6),(.i n8),(.i n10)] h (λa2 a3=>A.unI a2 (λn18 a4=>A.unI a4 (λn20 a5=>A.un0 a5 ( A.call 18 [(.i n18),(.i n20),(.i n12),(.i n14)] a3 (λa6 a7=>A.unI a6 (λn24 a8=>A.un0 a8 ( K [(.i n24)] a7)))))))))))))
/-- (crimp/sheets.Sheet).all -/
def f101(ls:List Lf)(h:HT)(K:List Lf->HT->R):R:=A.unI ls (λn6 U=>A.unI U (λn8 V=>A.un0 V ( A.new (.cells [(.int .i64 n6),(.int .i64 n8)] 2 true) h (λO a0=>A.chk (.func (.func 112) ⟨[]⟩ ⟨[(.pointer (some ⟨O,0,none⟩))]⟩) ( K [(.v (.func (.func 112) ⟨[]⟩ ⟨[(.pointer (some ⟨O,0,none⟩))]⟩))] a0)))))
/-- crimp/sheets.Line -/
def f102(ls:List Lf)(h:HT)(K:List Lf->HT->R):R:=A.unI ls (λn6 U=>A.unI U (λn8 V=>A.unI V (λn10 a0=>A.unI a0 (λn12 a1=>A.un0 a1 ( A.call 95 [(.i n6),(.i n8),(.i n10),(.i n12)] h (λa2 O=>A.unI a2 (λn16 a3=>A.unI a3 (λn18 a4=>A.unI a4 (λn20 a5=>A.unI a5 (λn22 a6=>A.un0 a6 ( A.cmp .neq n22 0 (λa7=>A.cond a7 ( K [(.i 0),(.i 0),(.i n22)] O) ( A.call 114 [(.i n16),(.i n18),(.i n20),(.i n12)] O (λa8 a9=>A.unI a8 (λn27 b0=>A.unI b0 (λn29 b1=>A.unI b1 (λn31 b2=>A.un0 b2 ( K [(.i n27),(.i n29),(.i n31)] a9))))))))))))))))))
/-- crimp/segments.place -/
def f103(ls:List Lf)(h:HT)(K:List Lf->HT->R):R:=A.unI ls (λn6 O=>A.unI O (λn8 U=>A.unI U (λn10 V=>A.un0 V ( A.cmp .eql n6 1 (λa0=>A.cond a0 ( K [(.i n10)] h) ( K [(.i n8)] h))))))
/-- crimp/lines.Check -/
def f104(ls:List Lf)(h:HT)(K:List Lf->HT->R):R:=A.unI ls (λn6 O=>A.unI O (λn8 U=>A.un0 U ( A.cmp .lss n6 1 (λV=>A.cond V ( K [(.i 1)] h) ( A.cmp .gtr n6 4 (λa0=>A.cond a0 ( K [(.i 1)] h) ( A.cmp .lss n8 (-4096) (λa1=>A.cond a1 ( K [(.i 1)] h) ( A.cmp .gtr n8 4096 (λa2=>A.cond a2 ( K [(.i 1)] h) ( K [(.i 0)] h)))))))))))
def f105(ls:List Lf)(h:HT)(K:List Lf->HT->R):R:=A.unI ls (λn6 O=>A.un0 O ( A.cmp .neq n6 n6 (λU=>K [(.b U)] h)))
/-- crimp/crimpref03.Line -/
def f106(ls:List Lf)(h:HT)(K:List Lf->HT->R):R:=A.unI ls (λn6 a0=>A.unI a0 (λn8 a1=>A.unI a1 (λn10 a2=>A.unI a2 (λn12 a3=>A.un0 a3 ( A.call 107 [(.i n6),(.i n8),(.i n10)] h (λa4 a5=>A.unI a4 (λn16 a6=>A.unI a6 (λn18 a7=>A.unI a7 (λn20 a8=>A.unI a8 (λn22 a9=>A.unI a9 (λn24 b0=>A.unI b0 (λn26 b1=>A.un0 b1 ( A.ari .add .i64 n12 1 (λn28=>A.ari .rem .i64 n28 3 (λn29=>A.opt (inB 3 n29) (λf0=>A.opt (eh [(.i n16),(.i n18),(.i n20),(.i n22),(.i n24),(.i n26)] 0 [(n29,2)] 2) (λb2=>A.unI b2 (λn32 b3=>A.unI b3 (λn34 b4=>A.un0 b4 ( A.ari .add .i64 n12 2 (λn36=>A.ari .rem .i64 n36 3 (λn37=>A.opt (inB 3 n37) (λf1=>A.opt (eh [(.i n16),(.i n18),(.i n20),(.i n22),(.i n24),(.i n26)] 0 [(n37,2)] 2) (λx39=>A.unI x39 (λn40 b5=>A.unI b5 (λn42 b6=>A.un0 b6 ( A.loop (λb7 b8 O=>A.unI b8 (λn47 b9=>A.unI b9 (λn49 c0=>A.unI c0 (λn51 c1=>A.un0 c1 ( A.cmp .leq n47 4 (λd0=>A.cond d0 ( A.call 115 [(.i n47)] O (λd1 U=>A.unI d1 (λn56 d2=>A.unI d2 (λn58 d3=>A.un0 d3 ( A.ari .mul .i64 n56 n32 (λn60=>A.ari .mul .i64 n58 n34 (λn61=>A.ari .add .i64 n60 n61 (λn62=>A.ari .mul .i64 n56 n40 (λn63=>A.ari .mul .i64 n58 n42 (λn64=>A.ari .add .i64 n63 n64 (λd4=>A.cmp .eql n62 d4 (λd5=>A.join (λd6 d7=>A.unI d6 (λn69 d8=>A.unI d8 (λn71 d9=>A.un0 d9 ( A.ari .add .u8 n47 1 (λn73=>b7 [(.i n73),(.i n69),(.i n71)] d7))))) (λV=>A.cond d5 ( A.ari .mul .i64 n56 n32 (λn75=>A.ari .mul .i64 n58 n34 (λe0=>A.ari .add .i64 n75 e0 (λe1=>A.ari .quo .i64 e1 2 (λe2=>V [(.i n47),(.i e2)] U))))) ( V [(.i n49),(.i n51)] U)))))))))))))) ( K [(.i n49),(.i n51)] O))))))) [(.i 1),(.i 0),(.i 0)] a5)))))))))))))))))))))))))))
/-- crimp/crimpref03.Corners -/
def f107(ls:List Lf)(h:HT)(K:List Lf->HT->R):R:=A.unI ls (λn6 U=>A.unI U (λn8 V=>A.unI V (λn10 a0=>A.un0 a0 ( A.ari .mul .i64 2 n6 (λn12=>A.ari .mul .i64 2 n8 (λn13=>A.ari .add .i64 n12 2 (λn14=>A.ari .add .i64 n12 2 (λn15=>A.ari .add .i64 n13 2 (λn16=>A.ari .add .i64 n13 2 (λn17=>A.conv .i64 n10 (λn18=>A.conv .i64 n10 (λn19=>A.ari .add .i64 n19 1 (λn20=>A.ari .rem .i64 n20 4 (λn21=>A.ari .rem .i64 n18 2 (λn22=>A.cmp .eql n22 1 (λa1=>A.join (λa2 a3=>A.unI a2 (λn26 a4=>A.unI a4 (λn28 a5=>A.un0 a5 ( A.ari .add .i64 n12 1 (λn30=>A.ari .add .i64 n13 1 (λn31=>A.opt (inB 4 n26) (λb1=>A.opt (eh [(.i n12),(.i n13),(.i n14),(.i n13),(.i n15),(.i n16),(.i n12),(.i n17)] 0 [(n26,2)] 2) (λa6=>A.unI a6 (λn34 a7=>A.unI a7 (λn36 a8=>A.un0 a8 ( A.opt (inB 4 n28) (λb2=>A.opt (eh [(.i n12),(.i n13),(.i n14),(.i n13),(.i n15),(.i n16),(.i n12),(.i n17)] 0 [(n28,2)] 2) (λx39=>A.unI x39 (λn40 a9=>A.unI a9 (λn42 b0=>A.un0 b0 ( K [(.i n30),(.i n31),(.i n34),(.i n36),(.i n40),(.i n42)] a3)))))))))))))))) (λO=>A.cond a1 ( O [(.i n21),(.i n18)] h) ( O [(.i n18),(.i n21)] h))))))))))))))))))
/-- crimp/crimpref01.Reflect -/
def f108(ls:List Lf)(h:HT)(K:List Lf->HT->R):R:=A.unI ls (λn6 O=>A.unI O (λn8 U=>A.unI U (λn10 V=>A.unI V (λn12 a0=>A.un0 a0 ( A.call 115 [(.i n6)] h (λa1 a2=>A.unI a1 (λn16 a3=>A.unI a3 (λn18 a4=>A.un0 a4 ( A.call 116 [(.i n6),(.i n8),(.i n10),(.i n12)] a2 (λa5 a6=>A.unI a5 (λn22 a7=>A.un0 a7 ( A.ari .mul .i64 2 n22 (λn24=>A.ari .mul .i64 n16 n16 (λn25=>A.ari .mul .i64 n18 n18 (λn26=>A.ari .add .i64 n25 n26 (λn27=>A.ari .quo .i64 n24 n27 (λn28=>A.ari .mul .i64 n28 n16 (λn29=>A.ari .sub .i64 n10 n29 (λn30=>A.ari .mul .i64 n28 n18 (λn31=>A.ari .sub .i64 n12 n31 (λn32=>K [(.i n30),(.i n32)] a6)))))))))))))))))))))
/-- crimp/crimpref03.With -/
def f109(ls:List Lf)(h:HT)(K:List Lf->HT->R):R:=A.unI ls (λn6 a3=>A.unI a3 (λn8 a4=>A.unI a4 (λn10 a5=>A.unI a5 (λn12 a6=>A.unI a6 (λn14 a7=>A.unI a7 (λn16 a8=>A.un0 a8 ( A.loop (λa9 b0 U=>A.unI b0 (λn21 b1=>A.un0 b1 ( A.cmp .lss n21 3 (λb2=>A.cond b2 ( A.join (λb3 b4=>A.un0 b3 ( A.ari .add .i64 n21 1 (λn26=>a9 [(.i n26)] b4))) (λa0=>A.opt (inB 3 n21) (λg9=>A.opt (eh [(.i n6),(.i n8),(.i n10),(.i n12),(.i n14),(.i n16)] 0 [(n21,2)] 2) (λb5=>A.unI b5 (λn30 b6=>A.unI b6 (λn32 b7=>A.un0 b7 ( A.ari .add .i64 n21 1 (λn34=>A.ari .rem .i64 n34 3 (λn35=>A.opt (inB 3 n35) (λh0=>A.opt (eh [(.i n6),(.i n8),(.i n10),(.i n12),(.i n14),(.i n16)] 0 [(n35,2)] 2) (λb8=>A.unI b8 (λn38 b9=>A.unI b9 (λn40 c0=>A.un0 c0 ( A.ari .add .i64 n21 2 (λn42=>A.ari .rem .i64 n42 3 (λn43=>A.opt (inB 3 n43) (λh1=>A.opt (eh [(.i n6),(.i n8),(.i n10),(.i n12),(.i n14),(.i n16)] 0 [(n43,2)] 2) (λx45=>A.unI x45 (λn46 c1=>A.unI c1 (λn48 d0=>A.un0 d0 ( A.ari .rem .i64 n30 2 (λn50=>A.cmp .eql n50 0 (λd1=>A.cond d1 ( a0 [] U) ( A.ari .rem .i64 n32 2 (λn52=>A.cmp .eql n52 0 (λd2=>A.cond d2 ( a0 [] U) ( A.loop (λV d3 a2=>A.unI d3 (λn57 d4=>A.un0 d4 ( A.cmp .lss n57 4 (λd5=>A.cond d5 ( A.ari .sub .i64 n30 1 (λn60=>A.ari .quo .i64 n60 2 (λn61=>A.ari .sub .i64 n32 1 (λn62=>A.ari .quo .i64 n62 2 (λn63=>A.call 107 [(.i n61),(.i n63),(.i n57)] a2 (λd6 O=>A.unI d6 (λn66 d7=>A.unI d7 (λn68 d8=>A.unI d8 (λn70 d9=>A.unI d9 (λn72 e0=>A.unI e0 (λn74 e1=>A.unI e1 (λa1 e2=>A.un0 e2 ( A.eqs [((.i n70),(.i n38)),((.i n72),(.i n40))] (λf0=>A.cond f0 ( A.eqs [((.i n74),(.i n46)),((.i a1),(.i n48))] (λf1=>A.cond f1 ( K [(.i n61),(.i n63),(.i n57)] O) ( A.eqs [((.i n70),(.i n46)),((.i n72),(.i n48))] (λf2=>A.cond f2 ( A.eqs [((.i n74),(.i n38)),((.i a1),(.i n40))] (λg0=>A.join (λg1 g2=>A.un0 g1 ( A.ari .add .u8 n57 1 (λn84=>V [(.i n84)] g2))) (λg3=>A.cond g0 ( K [(.i n61),(.i n63),(.i n57)] O) ( g3 [] O)))) ( A.ari .add .u8 n57 1 (λn86=>V [(.i n86)] O)))))) ( A.eqs [((.i n70),(.i n46)),((.i n72),(.i n48))] (λg4=>A.cond g4 ( A.eqs [((.i n74),(.i n38)),((.i a1),(.i n40))] (λg5=>A.join (λg6 g7=>A.un0 g6 ( A.ari .add .u8 n57 1 (λn91=>V [(.i n91)] g7))) (λg8=>A.cond g5 ( K [(.i n61),(.i n63),(.i n57)] O) ( g8 [] O)))) ( A.ari .add .u8 n57 1 (λn93=>V [(.i n93)] O)))))))))))))))))) ( a0 [] a2))))) [(.i 0)] U))))))))))))))))))))))))))) ( K [(.i 0),(.i 0),(.i 4)] U))))) [(.i 0)] h)))))))
/-- slices.order2CmpFunc[crimp/patterns.Crease] -/
def f110(ls:List Lf)(h:HT)(K:List Lf->HT->R):R:=A.unV ls (λU a0=>A.unI a0 (λn8 a1=>A.unI a1 (λn10 a2=>A.unV a2 (λx12 a3=>A.unV a3 (λa4 a5=>A.un0 a5 ( A.opt (idS 3 U n10) (λx16=>A.peek (.lg cc 3 x16) h (λa6=>A.ucI .i64 a6 (λn18 a7=>A.ucI .u8 a7 (λn20 a8=>A.ucI .u8 a8 (λn22 a9=>A.uc0 a9 ( A.opt (idS 3 U n8) (λx24=>A.peek (.lg cc 3 x24) h (λb0=>A.ucI .i64 b0 (λn26 b1=>A.ucI .u8 b1 (λn28 b2=>A.ucI .u8 b2 (λn30 b3=>A.uc0 b3 ( A.callv a4 [(.agg ⟨[(.int .i64 n18),(.int .u8 n20),(.int .u8 n22)]⟩),(.agg ⟨[(.int .i64 n26),(.int .u8 n28),(.int .u8 n30)]⟩)] [(.leaf (.i .i64))] h (λb4 O=>A.unI b4 (λn34 b5=>A.un0 b5 ( A.cmp .lss n34 0 (λb6=>A.cond b6 ( A.opt (nilP x12) (λV=>A.chk V ( A.peek (.lg cc 1 V) O (λb7=>A.ucI .i64 b7 (λn39 b8=>A.uc0 b8 ( A.ari .add .i64 n39 1 (λn41=>A.opt (nilP x12) (λx42=>A.chk x42 ( A.heap (.st x42 [(.int .i64 n41)]) O (λc0 b9=>K [(.i n10),(.i n8)] b9)))))))))) ( K [(.i n8),(.i n10)] O)))))))))))))))))))))))
/-- (crimp/sheets.Sheet).all$1 -/
def f112(ls:List Lf)(h:HT)(K:List Lf->HT->R):R:=A.unV ls (λa3 a4=>A.unV a4 (λa0 a5=>A.un0 a5 ( A.peek (.lg cc 2 a0) h (λa6=>A.ucI .i64 a6 (λn11 a7=>A.ucI .i64 a7 (λn13 a8=>A.uc0 a8 ( A.call 113 [(.i n11),(.i n13)] h (λa9 b0=>A.unI a9 (λn17 b1=>A.un0 b1 ( A.loop (λb2 b3 a1=>A.unI b3 (λn22 b4=>A.un0 b4 ( A.cmp .lss n22 n17 (λb5=>A.cond b5 ( A.loop (λO b6 U=>A.unI b6 (λn28 b7=>A.un0 b7 ( A.cmp .lss n28 3 (λb8=>A.cond b8 ( A.peek (.lg cc 2 a0) U (λb9=>A.ucI .i64 b9 (λn32 c0=>A.ucI .i64 c0 (λn34 c1=>A.uc0 c1 ( A.call 38 [(.i n32),(.i n34),(.i n22),(.i n28)] U (λd0 V=>A.unI d0 (λn38 d1=>A.unI d1 (λn40 d2=>A.un0 d2 ( A.cmp .eql n40 0 (λd3=>A.cond d3 ( A.cmp .gtr n38 n22 (λd4=>A.cond d4 ( A.callv a3 [(.agg ⟨[(.int .i64 n22),(.int .u8 n28)]⟩)] [(.leaf .b)] V (λd5 a2=>A.unB d5 (λd6 d7=>A.un0 d7 ( A.join (λd8 d9=>A.un0 d8 ( A.ari .add .u8 n28 1 (λn50=>O [(.i n50)] d9))) (λe0=>A.cond (!d6) ( K [] a2) ( e0 [] a2)))))) ( A.ari .add .u8 n28 1 (λn52=>O [(.i n52)] V)))) ( A.ari .add .u8 n28 1 (λn53=>O [(.i n53)] V)))))))))))) ( A.ari .add .i64 n22 1 (λn54=>b2 [(.i n54)] U)))))) [(.i 0)] a1) ( K [] a1))))) [(.i 0)] b0))))))))))
/-- crimp/sheets.Count -/
def f113(ls:List Lf)(h:HT)(K:List Lf->HT->R):R:=A.unI ls (λn6 U=>A.unI U (λn8 V=>A.un0 V ( A.call 34 [(.i n6),(.i n8)] h (λa0 O=>A.unI a0 (λn12 a1=>A.un0 a1 ( A.cmp .neq n12 0 (λa2=>A.cond a2 ( K [(.i 0)] O) ( A.ari .mul .i64 4 n6 (λn15=>A.ari .mul .i64 n15 n8 (λn16=>K [(.i n16)] O))))))))))
/-- crimp/cells.Line -/
def f114(ls:List Lf)(h:HT)(K:List Lf->HT->R):R:=A.unI ls (λn6 a2=>A.unI a2 (λn8 a3=>A.unI a3 (λn10 a4=>A.unI a4 (λn12 a5=>A.un0 a5 ( A.call 37 [(.i n6),(.i n8),(.i n10)] h (λa6 O=>A.unI a6 (λn16 a7=>A.un0 a7 ( A.cmp .neq n16 0 (λa8=>A.cond a8 ( K [(.i 0),(.i 0),(.i 1)] O) ( A.cmp .gtr n12 2 (λa9=>A.cond a9 ( K [(.i 0),(.i 0),(.i 1)] O) ( A.opt (inB 4 n10) (λg9=>A.opt (se gl2 0 [(n10,17)] 17) (λx21=>A.ucI .i64 x21 (λn22 b0=>A.ucI .i64 b0 (λn24 b1=>A.ucI .u8 b1 (λn26 b2=>A.ucI .i64 b2 (λn28 b3=>A.ucI .i64 b3 (λn30 b4=>A.ucI .i64 b4 (λn32 b5=>A.ucI .u8 b5 (λn34 b6=>A.ucI .i64 b6 (λn36 b7=>A.ucI .i64 b7 (λn38 b8=>A.ucI .u8 b8 (λn40 b9=>A.ucI .i64 b9 (λn42 c0=>A.ucI .i64 c0 (λn44 c1=>A.ucI .u8 c1 (λn46 d0=>A.ucI .i64 d0 (λn48 d1=>A.ucI .i64 d1 (λn50 d2=>A.ucI .i64 d2 (λn52 d3=>A.ucI .i64 d3 (λn54 d4=>A.uc0 d4 ( A.ari .add .i64 n6 n28 (λn56=>A.cmp .eql n12 1 (λd5=>A.join (λd6 d7=>A.unI d6 (λn60 d8=>A.unI d8 (λn62 d9=>A.un0 d9 ( A.call 104 [(.i n60),(.i n62)] d7 (λe0 U=>A.unI e0 (λn66 e1=>A.un0 e1 ( A.cmp .neq n66 0 (λe2=>A.cond e2 ( K [(.i 0),(.i 0),(.i 3)] U) ( K [(.i n60),(.i n62),(.i 0)] U))))))))) (λV=>A.cond d5 ( A.ari .add .i64 n6 n8 (λn70=>A.ari .add .i64 n70 1 (λn71=>V [(.i 3),(.i n71)] O))) ( A.cmp .eql n12 2 (λf0=>A.join (λf1 f2=>A.unI f1 (λn75 g0=>A.unI g0 (λg1 g2=>A.un0 g2 ( V [(.i n75),(.i g1)] f2)))) (λa0=>A.cond f0 ( A.ari .sub .i64 n8 n6 (λg3=>a0 [(.i 4),(.i g3)] O)) ( A.cmp .eql n26 2 (λg4=>A.join (λg5 g6=>A.unI g5 (λn84 g7=>A.unI g7 (λn86 g8=>A.un0 g8 ( a0 [(.i n84),(.i n86)] g6)))) (λa1=>A.cond g4 ( A.ari .add .i64 n8 n28 (λn89=>a1 [(.i n26),(.i n89)] O)) ( a1 [(.i n26),(.i n56)] O))))))))))))))))))))))))))))))))))))))))))
/-- crimp/crimpref01.Across -/
def f115(ls:List Lf)(h:HT)(K:List Lf->HT->R):R:=A.unI ls (λn6 O=>A.un0 O ( A.cmp .eql n6 1 (λU=>A.cond U ( K [(.i 1),(.i 0)] h) ( A.cmp .eql n6 2 (λV=>A.cond V ( K [(.i 0),(.i 1)] h) ( A.cmp .eql n6 3 (λa0=>A.cond a0 ( K [(.i 1),(.i 1)] h) ( K [(.i (-1)),(.i 1)] h))))))))
/-- crimp/crimpref01.Far -/
def f116(ls:List Lf)(h:HT)(K:List Lf->HT->R):R:=A.unI ls (λn6 O=>A.unI O (λn8 U=>A.unI U (λn10 V=>A.unI V (λn12 a0=>A.un0 a0 ( A.call 115 [(.i n6)] h (λa1 a2=>A.unI a1 (λn16 a3=>A.unI a3 (λn18 a4=>A.un0 a4 ( A.ari .mul .i64 n16 n10 (λn20=>A.ari .mul .i64 n18 n12 (λn21=>A.ari .add .i64 n20 n21 (λn22=>A.ari .mul .i64 2 n8 (λn23=>A.ari .sub .i64 n22 n23 (λn24=>K [(.i n24)] a2))))))))))))))
end
end Go.Am

/-
 THE EXECUTOR: a run of the abstract machine that the kernel can make;numbers may be symbolic,the ways of a run are all followed.
-/
namespace Go.Am
inductive Pth where
 |e
 |o (p:Pth)
 |i (p:Pth)
inductive Tr(α:Type) where
 |leaf
 |node (v:α) (l r:Tr α)
def Pth.num:Pth->Nat
 | .e=>1
 | .o p=>2*p.num
 | .i p=>2*p.num+1
def pthF:Nat->Nat->Pth
 |0,_=>.e
 |f+1,n=>if Nat.ble n 1 then .e else if Nat.beq (n%2) 0 then .o (pthF f (n / 2))else .i (pthF f (n / 2))
def bo(n:Nat):Pth:=pthF (n+1) (n+1)
def Pth.get{α:Type}(d:α)(p:Pth):Tr α->α:=
 Pth.rec (motive:=λ_=>Tr α->α)
  (λt=>Tr.casesOn t d λv _ _=>v)
  (λ_ ih t=>Tr.casesOn t d λ_ l _=>ih l)
  (λ_ ih t=>Tr.casesOn t d λ_ _ r=>ih r) p
def Pth.setK{α:Type}(d:α)(p:Pth):Tr α->α->(Tr α->Bool)->Bool:=
 Pth.rec (motive:=λ_=>Tr α->α->(Tr α->Bool)->Bool)
  (λt x k=>Tr.casesOn t (k (.node x .leaf .leaf)) λ_ l r=>k (.node x l r))
  (λ_ ih t x k=>Tr.casesOn t (ih .leaf x λl=>k (.node d l .leaf)) λv l r=>ih l x λl=>k (.node v l r))
  (λ_ ih t x k=>Tr.casesOn t (ih .leaf x λr=>k (.node d .leaf r)) λv l r=>ih r x λr=>k (.node v l r)) p
def eqI:Int->Int->Bool
 | .ofNat a,.ofNat b=>Nat.beq a b
 | .negSucc a,.negSucc b=>Nat.beq a b
 |_,_=>false
def kmax:IntKind->Nat
 | .i8=>127
 | .i16=>32767
 | .i32=>2147483647
 | .i64=>9223372036854775807
 | .u8=>255
 | .u16=>65535
 | .u32=>4294967295
 | .u64=>18446744073709551615
def fits(k:IntKind):Int->Bool
 | .ofNat n=>Nat.ble n (kmax k)
 | .negSucc n=>k.signed&&Nat.ble n (kmax k)
abbrev Lin:=List Int
def dot:List Int->List Int->Int
 |c :: l,x :: ρ=>c*x+dot l ρ
 |_,_=>0
def Lin.eval(l:Lin)(ρ:List Int):Int:=
 match l with
 | []=>0
 |c :: l=>c+dot l ρ
structure Ctx where
 iv:List (Int×Int)
 cs:List (List Int×Int×Int)
inductive Opd where
 |t (p:Pth)
 |c (v:Value)
inductive Ins where
 |mv (x:Opd)
 |pick (c a b:Opd)
 |ar (op:BinOp) (x y:Opd)
 |cmp (op:BinOp) (x y:Opd)
 |notb (x:Opd)
 |conv (k:IntKind) (x:Opd)
 |fld (x:Opd) (off:Nat)
 |flda (x:Opd) (off n:Nat)
 |ext (x:Opd) (i:Nat)
 |fad (x:Opd) (off:Nat)
 |lload (s:Nat) (p:Pth) (a:Opd)
 |lloada (s:Nat) (p:Pth) (n:Nat) (a:Opd)
 |lbox (s:Nat) (p:Pth) (x:Opd)
 |lnew (s:Nat) (p:Pth) (vs:List Value)
 |bld (z:List Value) (ps:List (Nat×Nat×Opd))
 |lstore (s:Nat) (p:Pth) (n:Nat) (a x:Opd)
 |call (f:FuncId) (args:List Opd)
 |gen
abbrev TV:=Tr Value
abbrev TL:=Tr (Option (List Value))
def rd(tm:TV):Opd->Value
 | .t p=>p.get undef tm
 | .c v=>v
structure XCfg where
 C:Cfg
 kf:FuncId->List Value->List HObj->Option (Value×List HObj)
abbrev KS:=Ctx->TV->TL->List HObj->Bool
structure XS where
 call:Ctx->FuncId->List Value->List HObj->(Ctx->Value->List HObj->Bool)->Bool
 yield:Ctx->Nat->List Value->List HObj->(Ctx->Value->List HObj->Bool)->Bool
 ex:Ctx->List Nat->Nat->Code->TV->TL->List HObj->KS->(Exit->KS)->Bool
end Go.Am

/-
 THE EXECUTOR IS SOUND: trees,numbers,linear forms.
-/
namespace Go.Am
theorem tS:∀(f n:Nat),n<=f->1<=n->(pthF f n).num=n
 |0,n,h,h1=>by omega
 |f+1,n,h,h1=>by
  unfold pthF
  by_cases hn:n<=1
  ·have:n=1:=by omega
   subst this
   rfl
  ·have h2:Nat.ble n 1=false:=by
    rw[←qaJ,qa4];exact hn
   rw[h2]
   have ih:=tS f (n / 2) (by omega) (by omega)
   by_cases hm:n%2=0
   ·simp[hm,Pth.num,ih];omega
   ·simp[hm,Pth.num,ih];omega
theorem nF(n:Nat):(bo n).num=n+1:=tS _ _ (qal _) (by omega)
theorem jg{a b:Nat}(h:bo a=bo b):a=b:=by
 have:=congrArg Pth.num h
 rw[nF,nF]at this
 omega
def Pth.set{α:Type}(d:α):Pth->Tr α->α->Tr α
 | .e,.leaf,x=>.node x .leaf .leaf
 | .e,.node _ l r,x=>.node x l r
 | .o p,.leaf,x=>.node d (Pth.set d p .leaf x) .leaf
 | .o p,.node v l r,x=>.node v (Pth.set d p l x) r
 | .i p,.leaf,x=>.node d .leaf (Pth.set d p .leaf x)
 | .i p,.node v l r,x=>.node v l (Pth.set d p r x)
theorem Pth.setK_eq{α:Type}(d:α):∀(p:Pth) (t:Tr α) (x:α) (k:Tr α->Bool),p.setK d t x k=k (p.set d t x)
 | .e,t,x,k=>by cases t<;>rfl
 | .o p,t,x,k=>by
  cases t with
  |leaf=>exact Pth.setK_eq d p .leaf x _
  |node v l r=>exact Pth.setK_eq d p l x _
 | .i p,t,x,k=>by
  cases t with
  |leaf=>exact Pth.setK_eq d p .leaf x _
  |node v l r=>exact Pth.setK_eq d p r x _
theorem Pth.get_leaf{α:Type}(d:α)(p:Pth):p.get d .leaf=d:=by cases p<;>rfl
theorem Pth.get_set{α:Type}(d:α):∀(p:Pth) (t:Tr α) (x:α),p.get d (p.set d t x)=x
 | .e,t,x=>by cases t<;>rfl
 | .o p,t,x=>by
  cases t with
  |leaf=>exact Pth.get_set d p .leaf x
  |node v l r=>exact Pth.get_set d p l x
 | .i p,t,x=>by
  cases t with
  |leaf=>exact Pth.get_set d p .leaf x
  |node v l r=>exact Pth.get_set d p r x
theorem Pth.get_set_ne{α:Type}(d:α):∀(p q:Pth) (t:Tr α) (x:α),q≠p->q.get d (p.set d t x)=q.get d t
 | .e,q,t,x,h=>by cases q<;>cases t<;>first|rfl|exact absurd rfl h|exact Pth.get_leaf d _
 | .o p,q,t,x,h=>by
  cases q with
  |e=>cases t<;>rfl
  |o q=>
   have hq:q≠p:=λe=>h (e▸rfl)
   cases t with
   |leaf=>exact(Pth.get_set_ne d p q .leaf x hq).trans (Pth.get_leaf d q)
   |node v l r=>exact Pth.get_set_ne d p q l x hq
  |i q=>
   cases t with
   |leaf=>exact Pth.get_leaf d q
   |node v l r=>rfl
 | .i p,q,t,x,h=>by
  cases q with
  |e=>cases t<;>rfl
  |i q=>
   have hq:q≠p:=λe=>h (e▸rfl)
   cases t with
   |leaf=>exact(Pth.get_set_ne d p q .leaf x hq).trans (Pth.get_leaf d q)
   |node v l r=>exact Pth.get_set_ne d p q r x hq
  |o q=>
   cases t with
   |leaf=>exact Pth.get_leaf d q
   |node v l r=>rfl
def Tr.map{α:Type}(f:α->α):Tr α->Tr α
 | .leaf=>.leaf
 | .node v l r=>.node (f v) (l.map f) (r.map f)
theorem eqI_iff{a b:Int}:eqI a b=true↔a=b:=by
 cases a<;>cases b<;>simp[eqI]<;>omega
theorem fits_iff{k:IntKind}{c:Int}(h:fits k c=true):(k.signed=true->-(kmax k:Int) - 1<=c)/\(k.signed=false->0<=c)/\c<=kmax k:=by
 cases c with
 |ofNat n=>
  simp only[fits,qa4]at h
  refine⟨λ_=>?_,λ_=>?_,?_⟩<;>simp<;>omega
 |negSucc n=>
  simp only[fits,qaa,qa4]at h
  refine⟨λ_=>?_,λhs=>?_,?_⟩
  ·omega
  ·rw[h.1]at hs;cases hs
  ·omega
theorem qv{k:IntKind}{c:Int}(h:fits k c=true):k.wrap c=c:=by
 obtain⟨h1,h2,h3⟩:=fits_iff h
 cases k<;>simp only[IntKind.signed,kmax,forall_const,reduceCtorEq,false_implies]at h1 h2 h3
 ·exact Go.IntWalk.i8_in c (by omega)
 ·exact Go.IntWalk.i16_in c (by omega)
 ·exact Go.IntWalk.i32_in c (by omega)
 ·exact Go.IntWalk.i64_in c (by omega)
 ·exact Go.IntWalk.u8_in c (by omega)
 ·exact Go.IntWalk.u16_in c (by omega)
 ·exact Go.IntWalk.u32_in c (by omega)
 ·exact Go.IntWalk.u64_in c (by omega)
end Go.Am

/-
 THE EXECUTOR IS SOUND: arithmetic,plain and symbolic.
-/
namespace Go.Am
section
variable [Val] {ρ:List Int}
def mV(op:BinOp)(x y:Int):Option Bool:=
 match op with
 | .eql=>some (x==y)
 | .neq=>some (x != y)
 | .lss=>some (decide (x<y))
 | .leq=>some (decide (x<=y))
 | .gtr=>some (decide (x > y))
 | .geq=>some (decide (x ≥ y))
 |_=>none
def nW(op:BinOp)(k:IntKind)(x y n:Int):Prop:=∀(P:Program) (t:TypeId) (w:World),(binOp op t (.int k x) (.int k y)).run P w = .ok (.int k n) w
theorem bits_one{k:IntKind}(x:Int):((BitVec.ofInt k.bits x &&& BitVec.ofInt k.bits 1).toNat:Int)=x%2:=by
 have hb:k.bits=k.bits - 1+1:=by cases k<;>rfl
 generalize k.bits - 1=n at hb
 rw[hb]
 have h1:(BitVec.ofInt (n+1) 1).toNat=1:=by
  simp
 rw[BitVec.toNat_and,h1,Nat.and_one_is_mod,BitVec.toNat_ofInt]
 have hp:(0:Int)<2 ^ (n+1):=Int.pow_pos (by omega)
 have e:(2:Int) ^ (n+1)=2*2 ^ n:=by rw[Int.pow_succ];omega
 have h0:0<=x%(2 ^ (n+1):Int):=Int.emod_nonneg _ (by omega)
 have:((x%((2 ^ (n+1):Nat):Int)).toNat%2:Nat)=((x%(2 ^ (n+1):Int))%2:Int):=by
  have e2:((2 ^ (n+1):Nat):Int)=(2 ^ (n+1):Int):=by simp
  rw[e2]
  omega
 rw[this,e,Int.emod_emod_of_dvd _ ⟨2 ^ n,rfl⟩]
theorem mh{k:IntKind}{x n:Int}(hn:x%2=n):nW .and k x 1 n:=by
 intro P t w
 have hw:k.wrap n=n:=qv (by
  have h0:0<=n:=by omega
  have h1:n<=1:=by omega
  obtain⟨m,rfl⟩ : ∃m:Nat,n=m:=⟨n.toNat,by omega⟩
  show Nat.ble m (kmax k)=true
  rw[qa4]
  cases k<;>simp only[kmax]<;>omega)
 have hb:=bits_one (k:=k) x
 simp only[binOp,ne_eq,not_true_eq_false,if_false,Op.intBits]
 show Result.ok (Value.int k (k.wrap _)) w=_
 rw[hb,hn,hw]
end
end Go.Am

/-
 THE EXECUTOR IS SOUND: instructions that give a value.
-/
namespace Go.Am
section
variable [Val] {ρ:List Int}
structure Rep(pts:List Nat)(nt:Nat)(tm:TV)(lc:TL)(σ:St):Prop where
 len:σ.tmps.length=nt
 val:∀(i:Nat) v,σ.tmps[i]? = some v->(bo i).get undef tm=v
 llen:pts≠[]->σ.loc.length=nt
 loc:∀(i:Nat) x,σ.loc[i]? = some x->(bo i).get none lc=x
def ValStep(C:Cfg)(pts:List Nat)(σ:St)(o:Oper)(v:Value):Prop:=
 (∃e,ai C pts (oval σ.tmps) o=some e/\aG σ e=some (σ,v))∨gF C σ.tmps o v
theorem ValStep.val{C:Cfg}{pts:List Nat}{σ:St}{o:Oper}{v:Value}(h:ai C pts (oval σ.tmps) o=some (.val v)):ValStep C pts σ o v:=.inl ⟨_,h,rfl⟩
theorem mC(k:IntKind)(x:Int):k.wrap (x%(2 ^ k.bits:Int))=k.wrap x:=by
 unfold IntKind.wrap
 rw[Int.emod_emod_of_dvd _ (Int.dvd_refl _)]
theorem mg{k:IntKind}(m n:Nat):nW .and k m n (k.wrap (Nat.land m n:Nat)):=by
 intro P t w
 simp only[binOp,ne_eq,not_true_eq_false,if_false,Op.intBits]
 show Result.ok (Value.int k (k.wrap _)) w=_
 rw[←mC k (Nat.land m n:Nat)]
 congr 3
 have h2:∀x:Nat,(BitVec.ofInt k.bits (x:Int)).toNat=x%2 ^ k.bits:=λx=>by
  rw[BitVec.toNat_ofInt]
  have:((x:Int)%((2 ^ k.bits:Nat):Int))=((x%2 ^ k.bits:Nat):Int):=by simp
  rw[this,qcv]
 have h3:(BitVec.ofInt k.bits (m:Int) &&& BitVec.ofInt k.bits (n:Int)).toNat=(m &&& n)%2 ^ k.bits:=by
  rw[BitVec.toNat_and,h2,h2,Nat.and_mod_two_pow]
 rw[h3]
 simp
theorem mj{k:IntKind}(m n:Nat):nW .xor k m n (k.wrap (Nat.xor m n:Nat)):=by
 intro P t w
 simp only[binOp,ne_eq,not_true_eq_false,if_false,Op.intBits]
 show Result.ok (Value.int k (k.wrap _)) w=_
 rw[←mC k (Nat.xor m n:Nat)]
 congr 3
 have h2:∀x:Nat,(BitVec.ofInt k.bits (x:Int)).toNat=x%2 ^ k.bits:=λx=>by
  rw[BitVec.toNat_ofInt]
  have:((x:Int)%((2 ^ k.bits:Nat):Int))=((x%2 ^ k.bits:Nat):Int):=by simp
  rw[this,qcv]
 have h3:(BitVec.ofInt k.bits (m:Int) ^^^ BitVec.ofInt k.bits (n:Int)).toNat=(m ^^^ n)%2 ^ k.bits:=by
  rw[BitVec.toNat_xor,h2,h2,Nat.xor_mod_two_pow]
 rw[h3]
 simp
theorem vf{k:IntKind}(m n:Nat):nW .or k m n (k.wrap (Nat.lor m n:Nat)):=by
 intro P t w
 simp only[binOp,ne_eq,not_true_eq_false,if_false,Op.intBits]
 show Result.ok (Value.int k (k.wrap _)) w=_
 rw[←mC k (Nat.lor m n:Nat)]
 congr 3
 have h2:∀x:Nat,(BitVec.ofInt k.bits (x:Int)).toNat=x%2 ^ k.bits:=λx=>by
  rw[BitVec.toNat_ofInt]
  have:((x:Int)%((2 ^ k.bits:Nat):Int))=((x%2 ^ k.bits:Nat):Int):=by simp
  rw[this,qcv]
 have h3:(BitVec.ofInt k.bits (m:Int) ||| BitVec.ofInt k.bits (n:Int)).toNat=(m ||| n)%2 ^ k.bits:=by
  rw[BitVec.toNat_or,h2,h2,Nat.or_mod_two_pow]
 rw[h3]
 simp
end
end Go.Am

/-
 WHEN AN ALGEBRA TELLS THE TRUTH;what an environment says of a state.
-/
namespace Go.Am
section
variable {R:Type}
theorem setK_eq{α:Type}(x:α):∀(l:List α) (i:Nat) (k:List α->R),setK x l i k=k (l.set i x)
 | [],_,_=>rfl
 |_ :: _,0,_=>rfl
 |a :: l,i+1,k=>setK_eq x l i λl=>k (a :: l)
theorem rO(n:Nat)(K:Nat->R):oL n K=K n:=by cases n<;>rfl
end
def SL.good:SL->Prop
 | .v x=>bg x=true
 |_=>True
def S0.good(x:S0):Prop:=∀l∈x.cells,l.good
def SV.gd:SV->Prop
 | .st x=>x.good
 | .tup xs=>(∀x∈xs,x.good)/\2<=xs.length
 | .no=>False
 |_=>True
theorem dm{x:Value}:bg x=true↔noLoc x=true/\bj x=true/\bd x=true/\aH x=false:=by
 unfold bg
 cases noLoc x<;>cases bj x<;>cases bd x<;>cases aH x<;>simp
theorem nh{x:Value}(h:bg x=true):aP x=true:=by
 obtain⟨h1,_,h2,_⟩:=dm.1 h
 simp[aP,h1,h2]
theorem rP{x:Value}(h:bg x=true):x.cells = #[x]:=dq (dm.1 h).2.2.1
theorem SL.val_good{l:SL}(h:l.good):bg l.val=true:=by
 cases l with
 |v x=>exact h
 |_=>rfl
theorem S0.cells_val{x:S0}(h:x.good):x.val.cells=⟨x.cells.map SL.val⟩:=by
 cases x with
 |leaf l=>exact rP (SL.val_good (h l (by simp[S0.cells])))
 |agg cs=>rfl
theorem S0.noLoc{x:S0}(h:x.good):noLoc x.val=true:=by
 cases x with
 |leaf l=>exact(dm.1 (SL.val_good (h l (by simp[S0.cells])))).1
 |agg cs=>
  simp only[S0.val,Am.noLoc,qac,qaK]
  rintro _ ⟨l,hl,rfl⟩
  exact(dm.1 (SL.val_good (h l hl))).2.1
theorem S0.not_tuple{x:S0}(h:x.good):aH x.val=false:=by
 cases x with
 |leaf l=>exact(dm.1 (SL.val_good (h l (by simp[S0.cells])))).2.2.2
 |agg cs=>rfl
theorem S0.cells_ok{x:S0}(h:x.good):x.val.cells.toList.all aP=true:=by
 rw[S0.cells_val h]
 simp only[qac,qaK]
 rintro _ ⟨l,hl,rfl⟩
 exact nh (SL.val_good (h l hl))
theorem cells_ok'{cs:List SL}(h:∀l∈cs,l.good):(cs.map SL.val).all aP=true:=by
 simp only[qac,qaK]
 rintro _ ⟨l,hl,rfl⟩
 exact nh (SL.val_good (h l hl))
theorem sq{v:Value}(h:scalar v=true):bg v=true:=by
 cases v<;>first|rfl|(simp[scalar]at h;done)|skip
 case pointer a=>cases a<;>first|rfl|simp[scalar]at h
 case slice a l c=>
  cases a with
  |none=>rfl
  |some a=>cases l<;>cases c<;>simp[scalar]at h
theorem pz(v:Value):(slOf v).val=v:=by cases v<;>rfl
theorem mm{v:Value}(h:scalar v=true):(slOf v).good:=by
 cases v<;>first|trivial|exact sq h
theorem pt{v:Value}{x:S0}(h:s0Of v=some x):x.val=v/\x.good/\ed v=true:=by
 unfold s0Of at h
 split at h
 ·rename_i cs
  split at h
  ·rename_i ha
   cases h
   refine⟨?_,?_,ha⟩
   ·simp only[S0.val,qcl,Value.agg.injEq]
    have:(SL.val ∘ slOf)=id:=funext pz
    rw[this,List.map_id]
   ·intro l hl
    simp only[S0.cells,qaK]at hl
    obtain⟨v,hv,rfl⟩:=hl
    exact mm (qac.1 ha v hv)
  ·cases h
 ·rename_i hne
  split at h
  ·rename_i hs
   cases h
   refine⟨pz v,?_,?_⟩
   ·intro l hl
    simp only[S0.cells,qay]at hl
    subst hl
    exact mm hs
   ·cases v<;>first|exact hs|exact absurd rfl (hne _)
  ·cases h
theorem cT{a b:IntKind}(h:ez a b=true):a=b:=by
 cases a<;>cases b<;>first|rfl|cases h
theorem dd(a:IntKind):ez a a=true:=by cases a<;>rfl
section
variable [Val] [Kno]
def Told(sks:List SK)(ls:List Lf)(xs:List S0):Prop:=bz xs sks=true/\bB xs=ls/\∀x∈xs,x.good
def aI(C:Cfg)(Sg:FuncId->Option Sig)(g:FuncId)(ls:List Lf)(H:List HObj)(rs:List Lf)(H':List HObj):Prop:=
 ∃sg xs ys,Sg g=some sg/\Told sg.ps ls xs/\Told sg.rs rs ys/\gw C g (ah xs) H (dW (ah ys)) H'
def rA(C:Cfg)(v:Value)(args:List Value)(hs:List SK)(H:List HObj)(rs:List Lf)(H':List HObj):Prop:=
 ∃ys,Told hs rs ys/\((∃g first cap,v = .func (.func g) first cap/\gw C g (first.toList++args++cap.toList) H (dW (ah ys)) H')∨
  (∃l,v = .func (.yield l) #[] #[]/\eI C l args H (dW (ah ys)) H'))
def mG(nt:Nat):List (Nat×SK)->List Value->List Value->List Value
 |(t,_) :: l,v :: vs,tm=>mG nt l vs (tm.set t v)
 |_,_,tm=>tm
def lpOf(s:Site)(κ:Nat)(vals:List Value):ALoop:=
 { state:=.ready,pending:=none,fn:=κ,tmps:=mG s.nt s.caps vals (List.replicate s.nt poison),params:=s.params.map (·.1),assign:=s.assign.erase nz,body:=s.body.erase nz }
def gp:Lf->Lf->Bool
 | .i a,.i b=>a==b
 | .b a,.b b=>a==b
 |_,_=>false
def cm(l:List (Lf×Lf)):Bool:=l.all λp=>gp p.1 p.2
def ShRun(op:BinOp)(k:IntKind)(x:Int)(k':IntKind)(y n:Int):Prop:=∀(P:Program) (t:TypeId) (w:World),(binOp op t (.int k x) (.int k' y)).run P w = .ok (.int k n) w
structure AlgOk{R HT:Type}(A:Alg R HT)(C:Cfg)(Sg:FuncId->Option Sig)(T:Nat->Site)(holds:R->Prop)(abs:HT->List HObj):Prop where
 fail:¬holds A.fail
 cond:∀b x y,holds (A.cond b x y)->(b=true/\holds x)∨(b=false/\holds y)
 ari:∀op k a b K,holds (A.ari op k a b K)->∃n,nW op k a b n/\holds (K n)
 shf:∀op k a k' b K,holds (A.shf op k a k' b K)->∃n,ShRun op k a k' b n/\holds (K n)
 cmp:∀op a b K,holds (A.cmp op a b K)->∃t,mV op a b=some t/\holds (K t)
 eqs:∀l K,holds (A.eqs l K)->holds (K (cm l))
 conv:∀k a K,holds (A.conv k a K)->holds (K (k.wrap a))
 sel:∀t a b K,holds (A.sel t a b K)->holds (K (if t then a else b))
 opt:∀ {α:Type} (o:Option α) K,holds (A.opt o K)->∃x,o=some x/\holds (K x)
 chk:∀v K,holds (A.chk v K)->bg v=true/\holds K
 unI:∀ls K,holds (A.unI ls K)->∃n r,ls = .i n :: r/\holds (K n r)
 unB:∀ls K,holds (A.unB ls K)->∃t r,ls = .b t :: r/\holds (K t r)
 unV:∀ls K,holds (A.unV ls K)->∃x r,ls = .v x :: r/\holds (K x r)
 un0:∀ls K,holds (A.un0 ls K)->ls=[]/\holds K
 ucI:∀k ls K,holds (A.ucI k ls K)->∃n r,ls = .int k n :: r/\holds (K n r)
 ucB:∀ls K,holds (A.ucB ls K)->∃t r,ls = .bool t :: r/\holds (K t r)
 ucV:∀ls K,holds (A.ucV ls K)->∃x r,ls=x :: r/\holds (K x r)
 uc0:∀ls K,holds (A.uc0 ls K)->ls=[]/\holds K
 peek:∀f h K,holds (A.peek f h K)->∃cs,f.run (λi=>(abs h)[i]?)=some cs/\holds (K cs)
 heap:∀f h K,holds (A.heap f h K)->∃acts cs h',f.run (λi=>(abs h)[i]?) (abs h).length=some (acts,cs)/\abs h'=ff (abs h) acts/\holds (K cs h')
 new:∀o h K,holds (A.new o h K)->∃h',abs h'=abs h++[o]/\holds (K (abs h).length h')
 call:∀g ls h K,holds (A.call g ls h K)->∃rs h',aI C Sg g ls (abs h) rs (abs h')/\holds (K rs h')
 callv:∀v args hs h K,holds (A.callv v args hs h K)->∃rs h',rA C v args hs (abs h) rs (abs h')/\holds (K rs h')
 join:∀b m,holds (A.join b m)->holds (m b)
 loop:∀F ls h,holds (A.loop F ls h)->∃it:Nat->List Lf->HT->R,(∀ls h,¬holds (it 0 ls h))/\(∀n ls h,it (n+1) ls h=F (it n) ls h)/\∃n,holds (it n ls h)
 rfun:∀κ v vals h K,holds (A.rfun κ v vals h K)->∃g first cap r H1 lp h2,v = .func (.func g) first cap/\
  gw C g (first.toList++[.func (.yield (abs h).length) #[] #[]]++cap.toList) (abs h++[.loop (lpOf (T κ) κ vals)]) r H1/\
  dn H1 (abs h).length=some lp/\lp.state≠.busy/\abs h2=H1.set (abs h).length (.loop { lp with state:=.exhausted })/\holds (K lp.pending h2)
 pend:∀pd kn kr ks,holds (A.pend pd kn kr ks)->(pd=none/\holds kn)∨(pd=some .ret/\holds kr)∨∃id x,pd=some (.exit id)/\(id,x)∈ks/\holds x
 lp1:∀l h K,holds (A.lp1 l h K)->∃lp h',dn (abs h) l=some lp/\lp.state = .ready/\abs h'=(abs h).set l (.loop { lp with state:=.busy })/\holds (K h')
 lp2:∀l j h K,holds (A.lp2 l j h K)->∃lp h',dn (abs h) l=some lp/\abs h'=(abs h).set l (.loop { lp with state:=if j.isNone then .ready else .done,pending:=j })/\holds (K h')
def SV.ok(tmps:List Value)(i:Nat)(s:SV):Prop:=
 match s with
 | .no=>True
 |s=>tmps[i]? = some s.val/\s.gd
def LR.ok(loc:List (Option (List Value)))(i:Nat):LR->Prop
 | .unk=>True
 | .nil=>loc[i]? = some none
 | .any n=>∃vs,loc[i]? = some (some vs)/\vs.length=n
 | .row cs=>loc[i]? = some (some (cs.map SL.val))/\∀c∈cs,c.good
structure Rp(ev:Env)(σ:St):Prop where
 len:ev.tm.length=σ.tmps.length
 val:∀(i:Nat) s,ev.tm[i]? = some s->s.ok σ.tmps i
 llen:ev.lc.length=σ.loc.length
 row:∀(i:Nat) r,ev.lc[i]? = some r->r.ok σ.loc i
theorem SV.ok_gd{tmps:List Value}{i:Nat}{s:SV}(h:s.gd)(hv:tmps[i]? = some s.val):s.ok tmps i:=by
 cases s<;>first|trivial|exact⟨hv,h⟩
theorem Rp.at{ev:Env}{σ:St}(h:Rp ev σ){t:Nat}{s:SV}(hs:ev.tm.getD t .no=s)(hn:s≠.no):σ.tmps[t]? = some s.val/\s.gd:=by
 rw[List.getD_eq_getElem?_getD]at hs
 cases he:ev.tm[t]? with
 |none=>rw[he]at hs;exact absurd hs.symm hn
 |some x=>
  rw[he]at hs
  simp only[qbi]at hs
  subst hs
  have:=h.val t x he
  cases x<;>first|exact this|exact absurd rfl hn
theorem Rp.sval{ev:Env}{σ:St}(h:Rp ev σ){x:Operand}{s:SV}(hs:sval ev x=s)(hn:s≠.no):oval σ.tmps x=s.val/\s.gd:=by
 cases x with
 |tmp t=>
  obtain⟨h1,h2⟩:=h.at (t:=t) hs hn
  exact⟨by simp[oval,List.getD_eq_getElem?_getD,h1],h2⟩
 |const v=>
  simp only[Am.sval]at hs
  cases hv:s0Of v with
  |none=>rw[hv]at hs;exact absurd hs.symm hn
  |some x=>
   rw[hv]at hs
   subst hs
   obtain⟨h1,h2,h3⟩:=pt hv
   refine⟨?_,h2⟩
   have:flat v=true:=by cases v<;>first|exact h3|(simp[ed,scalar]at h3)
   simp[oval,this,SV.val,h1]
 |global g=>
  subst hs
  simp only[Am.sval,oval]
  cases hb:Nat.blt g gB with
  |true=>exact⟨rfl,trivial⟩
  |false=>exact absurd (by simp only[Am.sval,hb]) hn
 |func f=>
  subst hs
  refine⟨rfl,λl hl=>?_⟩
  simp only[S0.cells,qay]at hl
  subst hl
  rfl
theorem Rp.sval0{ev:Env}{σ:St}(h:Rp ev σ){x:Operand}{s:S0}(hs:sval0 ev x=some s):oval σ.tmps x=s.val/\s.good:=by
 unfold Am.sval0 at hs
 split at hs
 ·rename_i y e
  cases hs
  exact h.sval e (by simp)
 ·cases hs
theorem Rp.svals{ev:Env}{σ:St}(h:Rp ev σ):∀ {l:List Operand} {xs:List S0},svals ev l=some xs->l.map (oval σ.tmps)=ah xs/\∀x∈xs,x.good
 | [],xs,hs=>by cases hs;exact⟨rfl,by simp⟩
 |o :: l,xs,hs=>by
  simp only[Am.svals]at hs
  split at hs
  ·rename_i x ys e1 e2
   cases hs
   obtain⟨h1,h2⟩:=h.sval0 e1
   obtain⟨h3,h4⟩:=h.svals e2
   refine⟨by simp[ah,h1];exact h3,λy hy=>?_⟩
   rcases qap.1 hy with rfl|hy
   ·exact h2
   ·exact h4 y hy
  ·cases hs
theorem Rp.put{ev:Env}{σ:St}(h:Rp ev σ)(d:Nat){s:SV}(hs:s.gd):Rp ⟨ev.tm.set d s,ev.lc⟩ (σ.put (some d) s.val):=by
 refine⟨by simp[St.put,h.len],λi x hx=>?_,h.llen,h.row⟩
 simp only[qaS]at hx
 split at hx
 ·rename_i hi
  subst hi
  split at hx
  ·rename_i hlt
   cases hx
   refine SV.ok_gd hs ?_
   simp only[St.put,List.getElem?_set_self']
   rw[qaC (by rw[←h.len];exact hlt)]
   rfl
  ·cases hx
 ·rename_i hi
  have:=h.val i x hx
  cases x<;>first|trivial|exact⟨by simp only[St.put];rw[qaj hi];exact this.1,this.2⟩
theorem Rp.heap{ev:Env}{σ:St}(h:Rp ev σ)(H:List HObj):Rp ev { σ with heap:=H }:=⟨h.len,h.val,h.llen,h.row⟩
structure Fr(ws ks rs:List Nat)(σ σ':St):Prop where
 tlen:σ'.tmps.length=σ.tmps.length
 llen:σ'.loc.length=σ.loc.length
 tm:∀(i:Nat) v,σ.tmps[i]? = some v->i∉ws->noLoc v=true->σ'.tmps[i]? = some v
 tp:∀(i s off:Nat),σ.tmps[i]? = some (.pointer (some ⟨s,off,some 0⟩))->i∉ws->s∉ks->σ'.tmps[i]? = some (.pointer (some ⟨s,off,some 0⟩))
 row:∀(s:Nat) x,σ.loc[s]? = some x->s∉rs->σ'.loc[s]? = some x
 rlen:∀(s:Nat) vs,σ.loc[s]? = some (some vs)->s∉ks->∃vs',σ'.loc[s]? = some (some vs')/\vs'.length=vs.length
theorem Fr.refl(ws ks rs:List Nat)(σ:St):Fr ws ks rs σ σ:=⟨rfl,rfl,λ_ _ h _ _=>h,λ_ _ _ h _ _=>h,λ_ _ h _=>h,λ_ vs h _=>⟨vs,h,rfl⟩⟩
theorem Fr.trans{ws ks rs:List Nat}{σ σ₁ σ':St}(h:Fr ws ks rs σ σ₁)(h':Fr ws ks rs σ₁ σ'):Fr ws ks rs σ σ':=
 ⟨h'.tlen.trans h.tlen,h'.llen.trans h.llen,λi v a b c=>h'.tm i v (h.tm i v a b c) b c,λi s off a b c=>h'.tp i s off (h.tp i s off a b c) b c,
  λs x a b=>h'.row s x (h.row s x a b) b,λs vs a b=>let ⟨v1,c1,d1⟩:=h.rlen s vs a b;let ⟨v2,c2,d2⟩:=h'.rlen s v1 c1 b;⟨v2,c2,d2.trans d1⟩⟩
theorem Fr.mono{ws ks rs ws' ks' rs':List Nat}{σ σ':St}(h:Fr ws ks rs σ σ')(h1:∀i∈ws,i∈ws')(h2:∀i∈ks,i∈ks')(h3:∀i∈rs,i∈rs'):Fr ws' ks' rs' σ σ':=
 ⟨h.tlen,h.llen,λi v a b c=>h.tm i v a (λhi=>b (h1 i hi)) c,λi s off a b c=>h.tp i s off a (λhi=>b (h1 i hi)) (λhi=>c (h2 s hi)),
  λs x a b=>h.row s x a (λhi=>b (h3 s hi)),λs vs a b=>h.rlen s vs a (λhi=>b (h2 s hi))⟩
theorem Fr.heap{ws ks rs:List Nat}{σ σ':St}(h:Fr ws ks rs σ σ')(H:List HObj):Fr ws ks rs σ { σ' with heap:=H }:=⟨h.tlen,h.llen,h.tm,h.tp,h.row,h.rlen⟩
theorem Fr.put{σ:St}(dst:Option Tmp)(v:Value)(ks rs:List Nat):Fr dst.toList ks rs σ (σ.put dst v):=by
 cases dst with
 |none=>exact .refl _ _ _ _
 |some d=>
  refine⟨by simp[St.put],rfl,λi x h hi _=>?_,λi s off h hi _=>?_,λ_ _ h _=>h,λ_ vs h _=>⟨vs,h,rfl⟩⟩<;>
  ·simp only[Option.toList_some,qay]at hi
   simp only[St.put]
   rw[qaj (λe=>hi e.symm)]
   exact h
end
end Go.Am

/-
 HEAPS AS TREES: what lies at a number is found,and put,in few steps;lists that are forced.
-/
namespace Go.Am
inductive HO where
 |o (x:HObj)
 |lp (κ:Nat) (st:LoopState) (pd:Option Code) (vs:List Value)
abbrev HL:=List HO
inductive CK where
 |f (g:FuncId)
 |y (κ:Nat) (vs:List Value) (l:Nat)
def absO(T:Nat->Site):HO->HObj
 | .o x=>x
 | .lp κ st pd vs=>.loop { lpOf (T κ) κ vs with state:=st,pending:=pd }
def absH(T:Nat->Site)(h:HL):List HObj:=h.map (absO T)
namespace Sx
inductive HOT where
 |o (x:HObj)
 |lp (κ:Nat) (st:LoopState) (pd:Option Code) (vs:List Value)
 |t (n e:Nat) (rw:Bool) (c:Tr Value)
def nilV:Value:=.bool false
def bI(c:Tr Value)(n:Nat):List Value:=(List.range n).map λi=>(bo i).get nilV c
def HOT.ho:HOT->HO
 | .o x=>.o x
 | .lp κ st pd vs=>.lp κ st pd vs
 | .t n e rw c=>.o (.cells (bI c n) e rw)
structure HTr where
 n:Nat
 t:Tr HOT
def noO:HOT:=.o .dead
def HTr.empty:HTr:=⟨0,.leaf⟩
def HTr.at(h:HTr)(i:Nat):Option HOT:=match Nat.blt i h.n with
 |true=>some ((bo i).get noO h.t)
 |false=>none
def toL(h:HTr):HL:=(List.range h.n).map λi=>((bo i).get noO h.t).ho
theorem eC(h:HTr):(toL h).length=h.n:=by simp[toL]
theorem gV(h:HTr)(i:Nat):(toL h)[i]? = (h.at i).map HOT.ho:=by
 unfold toL HTr.at
 rw[qax]
 cases e:Nat.blt i h.n with
 |true=>
  rw[qaF]at e
  rw[qcj e];rfl
 |false=>
  have:h.n<=i:=by
   rcases qaz i h.n with h1|h1
   ·rw[←qaF,e]at h1;cases h1
   ·exact h1
  rw[qag (by simpa using this)];rfl
def HTr.put(h:HTr)(i:Nat)(o:HOT):HTr:=match Nat.blt i h.n with
 |true=>⟨h.n,(bo i).set noO h.t o⟩
 |false=>h
def HTr.push(h:HTr)(o:HOT):HTr:=⟨h.n+1,(bo h.n).set noO h.t o⟩
theorem fW(h:HTr)(i:Nat)(o:HOT):toL (h.put i o)=(toL h).set i o.ho:=by
 apply qaP
 intro j
 unfold HTr.put
 cases e:Nat.blt i h.n with
 |true=>
  rw[qaF]at e
  simp only
  rw[gV]
  by_cases hj:i=j
  ·subst hj
   rw[qaD (by rw[eC];exact e)]
   unfold HTr.at
   simp only[(qaF▸e:Nat.blt i h.n=true)]
   rw[Pth.get_set];rfl
  ·rw[qaj hj,gV]
   unfold HTr.at
   simp only
   rw[Pth.get_set_ne _ _ _ _ _ (λh=>hj (jg h).symm)]
 |false=>
  simp only
  have:h.n<=i:=by
   rcases qaz i h.n with h1|h1
   ·rw[←qaF,e]at h1;cases h1
   ·exact h1
  rw[List.set_eq_of_length_le (by rw[eC];exact this)]
theorem gm(h:HTr)(o:HOT):toL (h.push o)=toL h++[o.ho]:=by
 apply qaP
 intro j
 rw[gV]
 unfold HTr.push HTr.at
 simp only
 by_cases h1:j<h.n
 ·rw[qah (by rw[eC];exact h1),gV]
  unfold HTr.at
  have e1:Nat.blt j (h.n+1)=true:=by rw[qaF];omega
  have e2:Nat.blt j h.n=true:=by rw[qaF];omega
  simp only[e1,e2]
  rw[Pth.get_set_ne _ _ _ _ _ (λh=>by have:=jg h;omega)]
 ·rw[qan (by rw[eC];omega),eC]
  by_cases h2:j=h.n
  ·subst h2
   have e1:Nat.blt h.n (h.n+1)=true:=by rw[qaF];omega
   simp only[e1,qbn,qbd]
   rw[Pth.get_set];rfl
  ·have e1:Nat.blt j (h.n+1)=false:=by rw[←qaJ,qaF];omega
   simp only[e1]
   rw[qag (by simp;omega)];rfl
theorem aS(c:Tr Value)(n:Nat):(bI c n).length=n:=by simp[bI]
theorem da(c:Tr Value){n i:Nat}(h:i<n):(bI c n)[i]? = some ((bo i).get nilV c):=by
 unfold bI
 rw[qax,qcj h];rfl
def insT:List Value->Nat->Tr Value->Tr Value
 | [],_,c=>c
 |v :: l,i,c=>insT l (i+1) ((bo i).set nilV c v)
theorem oQ:∀(l:List Value) (i:Nat) (c:Tr Value) (j:Nat),(bo j).get nilV (insT l i c)=if i<=j/\j<i+l.length then l[j - i]?.getD nilV else(bo j).get nilV c
 | [],i,c,j=>by
  have h:¬(i<=j/\j<i+([]:List Value).length):=by intro h;have:=h.2;simp at this;omega
  rw[if_neg h];rfl
 |v :: l,i,c,j=>by
  show(bo j).get nilV (insT l (i+1) _)=_
  rw[oQ l (i+1)]
  by_cases h:i+1<=j/\j<i+1+l.length
  ·rw[if_pos h,if_pos (by simp;omega)]
   have:j - i=(j - (i+1))+1:=by omega
   rw[this,qbN]
  ·rw[if_neg h]
   by_cases h2:j=i
   ·subst h2
    rw[Pth.get_set,if_pos (by simp)];simp
   ·rw[Pth.get_set_ne _ _ _ _ _ (λe=>h2 (jg e)),if_neg (by simp;omega)]
theorem mT{l:List Value}{i n:Nat}{c:Tr Value}(h:i+l.length<=n):bI (insT l i c) n=(bI c n).take i++l++(bI c n).drop (i+l.length):=by
 apply qaP
 intro j
 by_cases hj:j<n
 ·rw[da _ hj,oQ]
  by_cases h1:j<i
  ·rw[if_neg (by omega),qaA,qah (by rw[qaT,aS];omega),List.getElem?_take_of_lt h1,da _ hj]
  ·have hl:((bI c n).take i).length=i:=by rw[qaT,aS];omega
   by_cases h2:j<i+l.length
   ·rw[if_pos ⟨by omega,h2⟩,qaA,qan (by omega),hl,qah (by omega)]
    rw[qaC (by omega)];rfl
   ·rw[if_neg (by omega),qan (by rw[qaB,hl];omega),qaB,hl,qaO,show i+l.length+(j - (i+l.length))=j by omega,da _ hj]
 ·rw[qag (by rw[aS];omega),qag (by simp[aS];omega)]
theorem kR{l:List Value}{n:Nat}{c:Tr Value}:bI (insT l n c) (n+l.length)=bI c n++l:=by
 apply qaP
 intro j
 by_cases hj:j<n+l.length
 ·rw[da _ hj,oQ]
  by_cases h1:j<n
  ·rw[if_neg (by omega),qah (by rw[aS];exact h1),da _ h1]
  ·rw[if_pos ⟨by omega,hj⟩,qan (by rw[aS];omega),aS,qaC (by omega)];rfl
 ·rw[qag (by rw[aS];omega),qag (by simp[aS];omega)]
theorem ux(l:List Value):bI (insT l 0 .leaf) l.length=l:=by
 have:=kR (l:=l) (n:=0) (c:=.leaf)
 simpa[bI]using this
def uY(c:Tr Value)(n:Nat):Nat->List Value:=Nat.rec (motive:=λ_=>Nat->List Value) (λ_=>[]) (λ_ ih off=>(bo off).get nilV c :: fN (Nat.succ off) ih) n
theorem iA(c:Tr Value):∀(n off m:Nat),off+n<=m->uY c n off=((bI c m).drop off).take n
 |0,_,_,_=>by rw[qcx];rfl
 |n+1,off,m,h=>by
  show(bo off).get nilV c :: uY c n (off+1)=_
  rw[iA c n (off+1) m (by omega)]
  have h1:off<(bI c m).length:=by rw[aS];omega
  rw[qby h1,qci]
  congr 1
  have:=da c (n:=m) (i:=off) (by omega)
  rw[qaC h1]at this
  exact(qao this).symm
section
variable {R:Type}
def putR{α:Type}(d:α)(p:Pth):Tr α->α->(Tr α->R)->R:=
 Pth.rec (motive:=λ_=>Tr α->α->(Tr α->R)->R)
  (λt x k=>Tr.casesOn t (k (.node x .leaf .leaf)) λ_ l r=>k (.node x l r))
  (λ_ ih t x k=>Tr.casesOn t (ih .leaf x λl=>k (.node d l .leaf)) λv l r=>ih l x λl=>k (.node v l r))
  (λ_ ih t x k=>Tr.casesOn t (ih .leaf x λr=>k (.node d .leaf r)) λv l r=>ih r x λr=>k (.node v l r)) p
theorem gR{α:Type}(d:α):∀(p:Pth) (t:Tr α) (x:α) (k:Tr α->R),putR d p t x k=k (p.set d t x)
 | .e,t,x,k=>by cases t<;>rfl
 | .o p,t,x,k=>by
  cases t with
  |leaf=>exact gR d p .leaf x _
  |node v l r=>exact gR d p l x _
 | .i p,t,x,k=>by
  cases t with
  |leaf=>exact gR d p .leaf x _
  |node v l r=>exact gR d p r x _
def putK(h:HTr)(i:Nat)(o:HOT)(k:HTr->R):R:=match Nat.blt i h.n with
 |true=>putR noO (bo i) h.t o λt=>k ⟨h.n,t⟩
 |false=>k h
def ji(h:HTr)(o:HOT)(k:HTr->R):R:=putR noO (bo h.n) h.t o λt=>fN (Nat.succ h.n) λn=>k ⟨n,t⟩
theorem fR(h:HTr)(i:Nat)(o:HOT)(k:HTr->R):putK h i o k=k (h.put i o):=by
 unfold putK HTr.put
 split
 ·rename_i e;rw[gR]
 ·rfl
theorem gf(h:HTr)(o:HOT)(k:HTr->R):ji h o k=k (h.push o):=by
 unfold ji HTr.push
 rw[gR,gq]
def tN{α:Type}(l:List α):(List α->R)->R:=
 List.rec (motive:=λ_=>(List α->R)->R) (λk=>k []) (λx _ ih k=>ih λl=>k (x :: l)) l
theorem lY{α:Type}:∀(l:List α) (k:List α->R),tN l k=k l
 | [],_=>rfl
 |x :: l,k=>lY l λl=>k (x :: l)
def tO(v:Value)(k:Value->R):R:=match v with
 | .int kd n=>fI n λn=>k (.int kd n)
 | .bool b=>Bool.rec (k (.bool false)) (k (.bool true)) b
 |v=>k v
theorem plainV_eq(v:Value)(k:Value->R):tO v k=k v:=by
 unfold tO
 split
 ·exact ij _ _
 ·rename_i b;cases b<;>rfl
 ·rfl
def insK(l:List Value):Nat->Tr Value->(Tr Value->R)->R:=
 List.rec (motive:=λ_=>Nat->Tr Value->(Tr Value->R)->R) (λ_ c k=>k c) (λv _ ih i c k=>tO v λv=>putR nilV (bo i) c v λc=>fN (Nat.succ i) λi=>ih i c k) l
theorem lD:∀(l:List Value) (i:Nat) (c:Tr Value) (k:Tr Value->R),insK l i c k=k (insT l i c)
 | [],_,_,_=>rfl
 |v :: l,i,c,k=>by
  show(tO v λv=>putR nilV (bo i) c v λc=>fN (Nat.succ i) λi=>insK l i c k)=_
  rw[plainV_eq,gR,gq,lD l];rfl
def qD(o:HObj)(k:HOT->R):R:=match o with
 | .cells vs e rw=>fN vs.length λn=>insK vs 0 .leaf λc=>k (.t n e rw c)
 | .map es c=>tN es λes=>fN c λc=>k (.o (.map es c))
 |o=>k (.o o)
theorem io{o:HObj}{k:HOT->R}:∃x:HOT,x.ho = .o o/\qD o k=k x:=by
 cases o with
 |cells vs e rw=>
  refine⟨.t vs.length e rw (insT vs 0 .leaf),by simp only[HOT.ho,ux],?_⟩
  show(fN vs.length λn=>insK vs 0 .leaf λc=>k (.t n e rw c))=_
  rw[gq,lD]
 |map es c=>
  refine⟨.o (.map es c),rfl,?_⟩
  show(tN es λes=>fN c λc=>k (.o (.map es c)))=_
  rw[lY,gq]
 |_=>exact⟨.o _,rfl,rfl⟩
def pf(l:List Lf):(List Lf->R)->R:=
 List.rec (motive:=λ_=>(List Lf->R)->R) (λk=>k []) (λx _ ih k=>match x with
  | .i n=>fI n λn=>ih λl=>k (.i n :: l)
  | .b t=>Bool.rec (ih λl=>k (.b false :: l)) (ih λl=>k (.b true :: l)) t
  | .v v=>ih λl=>k (.v v :: l)) l
theorem dF:∀(l:List Lf) (k:List Lf->R),pf l k=k l
 | [],_=>rfl
 | .i n :: l,k=>(ij n λn=>pf l λl=>k (.i n :: l)).trans (dF l _)
 | .b true :: l,k=>dF l λl=>k (.b true :: l)
 | .b false :: l,k=>dF l λl=>k (.b false :: l)
 | .v v :: l,k=>dF l λl=>k (.v v :: l)
end
end Sx
end Go.Am

/-
 THE ALGEBRA OF RUNS: a run that the kernel makes.
-/
namespace Go.Am
section
open Sx
abbrev RT:=Option (List Lf)
abbrev yes:RT:=some []
def ans(b:Bool):RT:=match b with|true=>yes|false=>none
abbrev aa:=CK->List Lf->HTr->(List Lf->HTr->RT)->RT
def Act1.onH(h:HL):Act1->HL
 | .set i o=>h.set i (.o o)
 | .push o=>h++[.o o]
def bk(h:HL)(l:List Act1):HL:=l.foldl Act1.onH h
def getH(T:Nat->Site)(h:HL):bU:=λi=>match h[i]? with
 |some x=>some (absO T x)
 |none=>none
def getT(T:Nat->Site)(h:HTr):bU:=λi=>match h.at i with
 |some x=>some (absO T x.ho)
 |none=>none
def uo(l:List Act1):HTr->(HTr->RT)->RT:=
 List.rec (motive:=λ_=>HTr->(HTr->RT)->RT) (λh k=>k h) (λa _ ih h k=>match a with
  | .set i o=>qD o λo=>putK h i o λh=>ih h k
  | .push o=>qD o λo=>ji h o λh=>ih h k) l
def condB(b:Bool)(x y:RT):RT:=Bool.rec y x b
def outG(k:IntKind)(c:Int)(K:Int->RT):RT:=Bool.rec (fI (k.wrap c) K) (K c) (fits k c)
def out64(c:Int)(K:Int->RT):RT:=@Bool.rec (λ_=>RT) (fI (IntKind.wrap .i64 c) K) (K c) (@Int.rec (λ_=>Bool) (λn=>Nat.ble n 9223372036854775807) (λn=>Nat.ble n 9223372036854775807) c)
def outU8(c:Int)(K:Int->RT):RT:=@Bool.rec (λ_=>RT) (fI (IntKind.wrap .u8 c) K) (K c) (@Int.rec (λ_=>Bool) (λn=>Nat.ble n 255) (λ_=>false) c)
def outK(k:IntKind)(c:Int)(K:Int->RT):RT:=@IntKind.rec (λ_=>RT) (outG .i8 c K) (outG .i16 c K) (outG .i32 c K) (out64 c K) (outU8 c K) (outG .u16 c K) (outG .u32 c K) (outG .u64 c K) k
def addK(a b:Int)(K:Int->RT):RT:=
 Int.rec (λm=>Int.rec (λn=>fN (Nat.add m n) λc=>K (.ofNat c)) (λn=>Bool.rec (fN (Nat.sub n m) λc=>K (.negSucc c)) (fN (Nat.sub m (Nat.succ n)) λc=>K (.ofNat c)) (Nat.blt n m)) b)
  (λm=>Int.rec (λn=>Bool.rec (fN (Nat.sub m n) λc=>K (.negSucc c)) (fN (Nat.sub n (Nat.succ m)) λc=>K (.ofNat c)) (Nat.blt m n)) (λn=>fN (Nat.succ (Nat.add m n)) λc=>K (.negSucc c)) b) a
def subK(a b:Int)(K:Int->RT):RT:=
 Int.rec (λm=>Int.rec (λn=>Bool.rec (fN (Nat.sub n (Nat.succ m)) λc=>K (.negSucc c)) (fN (Nat.sub m n) λc=>K (.ofNat c)) (Nat.ble n m)) (λn=>fN (Nat.succ (Nat.add m n)) λc=>K (.ofNat c)) b)
  (λm=>Int.rec (λn=>fN (Nat.add m n) λc=>K (.negSucc c)) (λn=>Bool.rec (fN (Nat.sub m (Nat.succ n)) λc=>K (.negSucc c)) (fN (Nat.sub n m) λc=>K (.ofNat c)) (Nat.ble m n)) b) a
def mulK(a b:Int)(K:Int->RT):RT:=
 Int.rec (λm=>Int.rec (λn=>fN (Nat.mul m n) λc=>K (.ofNat c)) (λn=>Nat.rec (K (.ofNat 0)) (λm' _=>fN (Nat.add (Nat.mul m n) m') λc=>K (.negSucc c)) m) b)
  (λm=>Int.rec (λn=>Nat.rec (K (.ofNat 0)) (λn' _=>fN (Nat.add (Nat.mul m n) n') λc=>K (.negSucc c)) n) (λn=>fN (Nat.mul (Nat.succ m) (Nat.succ n)) λc=>K (.ofNat c)) b) a
def quoK(a b:Int)(K:Int->RT):RT:=
 Int.rec (λm=>Int.rec (λn=>fN (Nat.div m n) λc=>K (.ofNat c)) (λ_=>fI (Int.tdiv a b) K) b) (λ_=>fI (Int.tdiv a b) K) a
def remK(a b:Int)(K:Int->RT):RT:=
 Int.rec (λm=>Int.rec (λn=>fN (Nat.mod m n) λc=>K (.ofNat c)) (λ_=>fI (Int.tmod a b) K) b) (λ_=>fI (Int.tmod a b) K) a
def isZ(b:Int):Bool:=Int.rec (λn=>Nat.beq n 0) (λ_=>false) b
def ariB(op:BinOp)(k:IntKind)(a b:Int)(K:Int->RT):RT:=
 match op with
 | .add=>addK a b λc=>outK k c K
 | .sub=>subK a b λc=>outK k c K
 | .mul=>mulK a b λc=>outK k c K
 | .quo=>Bool.rec (quoK a b λc=>outK k c K) none (isZ b)
 | .rem=>Bool.rec (remK a b K) none (isZ b)
 | .and=>match eqI b 1 with
  |true=>fI (Int.emod a 2) K
  |false=>match a,b with
   | .ofNat m,.ofNat n=>fI (.ofNat (Nat.land m n)) λc=>outK k c K
   |_,_=>none
 | .xor=>match a,b with
  | .ofNat m,.ofNat n=>fI (.ofNat (Nat.xor m n)) λc=>outK k c K
  |_,_=>none
 | .or=>match a,b with
  | .ofNat m,.ofNat n=>fI (.ofNat (Nat.lor m n)) λc=>outK k c K
  |_,_=>none
 |_=>none
def eqZK(a b:Int):Bool:=Int.rec (λm=>Int.rec (λn=>Nat.beq m n) (λ_=>false) b) (λm=>Int.rec (λ_=>false) (λn=>Nat.beq m n) b) a
def notK(b:Bool):Bool:=Bool.rec true false b
def cmpB(op:BinOp)(a b:Int)(K:Bool->RT):RT:=
 match op with
 | .eql=>K (eqZK a b)
 | .neq=>K (notK (eqZK a b))
 | .lss=>K (notK (leZ b a))
 | .leq=>K (leZ a b)
 | .gtr=>K (notK (leZ a b))
 | .geq=>K (leZ b a)
 |_=>none
def eqBK(a b:Bool):Bool:=Bool.rec (notK b) b a
def eqLf(x y:Lf):Bool:=Lf.rec (λa=>Lf.rec (λb=>eqZK a b) (λ_=>false) (λ_=>false) y) (λa=>Lf.rec (λ_=>false) (λb=>eqBK a b) (λ_=>false) y) (λ_=>false) x
def eqsV(l:List (Lf×Lf)):Bool:=List.rec true (λp _ ih=>Bool.rec false ih (eqLf p.1 p.2)) l
def eqsB(l:List (Lf×Lf))(K:Bool->RT):RT:=K (eqsV l)
def convB(k:IntKind)(a:Int)(K:Int->RT):RT:=outK k a K
def selB(t:Bool)(a b:Int)(K:Int->RT):RT:=Bool.rec (K b) (K a) t
def optB{α:Type}(o:Option α)(K:α->RT):RT:=Option.rec none K o
def unIB(ls:List Lf)(K:Int->List Lf->RT):RT:=List.rec none (λx r _=>Lf.rec (λn=>K n r) (λ_=>none) (λ_=>none) x) ls
def unBB(ls:List Lf)(K:Bool->List Lf->RT):RT:=List.rec none (λx r _=>Lf.rec (λ_=>none) (λn=>K n r) (λ_=>none) x) ls
def unVB(ls:List Lf)(K:Value->List Lf->RT):RT:=List.rec none (λx r _=>Lf.rec (λ_=>none) (λ_=>none) (λn=>K n r) x) ls
def un0B(ls:List Lf)(K:RT):RT:=List.rec K (λ_ _ _=>none) ls
def ucIB(k:IntKind)(ls:List Value)(K:Int->List Value->RT):RT:=match ls with | .int k' n :: r=>(match ez k k' with|true=>K n r|false=>none)|_=>none
def ucBB(ls:List Value)(K:Bool->List Value->RT):RT:=match ls with | .bool n :: r=>K n r|_=>none
def ucVB(ls:List Value)(K:Value->List Value->RT):RT:=match ls with|n :: r=>K n r|_=>none
def uc0B(ls:List Value)(K:RT):RT:=match ls with | []=>K|_=>none
def spot0(s:Option Nat):Bool:=match s with
 |none=>true
 |some k=>match k with
  |0=>false
  |_=>true
def goodF(v:Value):Bool:=match v with
 | .pointer (some a)=>spot0 a.spot
 | .slice (some a) _ _=>spot0 a.spot
 |v=>bg v
def chkB(v:Value)(K:RT):RT:=match goodF v with|true=>K|false=>none
def lenR{α:Type}(l:List α):Nat:=List.rec 0 (λ_ _ n=>Nat.succ n) l
def ldB(n:Nat)(p:Value)(h:HTr)(K:List Value->RT):RT:=match p with
 | .pointer (some a)=>match a.spot with
  |none=>match h.at a.block with
   |some (.t m _ _ c)=>match Nat.ble (Nat.add a.off n) m with
    |true=>K (uY c n a.off)
    |false=>none
   |_=>none
  |some _=>none
 |_=>none
def lgB(C:Cfg)(n:Nat)(p:Value)(h:HTr)(K:List Value->RT):RT:=match p with
 | .pointer (some a)=>match a.spot with
  |none=>match h.at a.block with
   |some (.t m _ _ c)=>match Nat.ble (Nat.add a.off n) m with
    |true=>K (uY c n a.off)
    |false=>none
   |_=>none
  |some k=>match Nat.beq k 1 with
   |true=>match C.G a.block with
    |some vs=>match cutL vs a.off n with
     |some cs=>K cs
     |none=>none
    |none=>none
   |false=>none
 |_=>none
def peekB(T:Nat->Site)(f:Pk)(h:HTr)(K:List Value->RT):RT:=match f with
 | .ld n p=>ldB n p h K
 | .lg C n p=>lgB C n p h K
 | .fn f=>match f (getT T h)with|some x=>K x|none=>none
def stB(p:Value)(new:List Value)(h:HTr)(K:List Value->HTr->RT):RT:=match p with
 | .pointer (some a)=>match a.spot with
  |none=>match h.at a.block with
   |some (.t m e true c)=>match Nat.ble (Nat.add a.off (lenR new)) m with
    |true=>insK new a.off c λc=>putK h a.block (.t m e true c) λh=>K [] h
    |false=>none
   |_=>none
  |some _=>none
 |_=>none
def tagB(s:Option Nat)(esz:Nat):Bool:=match s with
 |none=>false
 |some k=>Nat.beq k (Nat.add esz 10)
def slB(C:Cfg)(T:Nat->Site)(esz:Nat)(x:Value)(h:HTr)(K:List Value->Nat->RT):RT:=match x with
 | .slice (some a) len _=>match tagB a.spot esz with
  |true=>match h.at a.block with
   |some (.t m e _ c)=>match Nat.beq e esz,Nat.ble (Nat.add a.off (Nat.mul len esz)) m with
    |true,true=>K (uY c (Nat.mul len esz) a.off) len
    |_,_=>none
   |_=>none
  |false=>match slG C esz (getT T h) x with
   |some p=>K p.1 p.2
   |none=>none
 |x=>match slG C esz (getT T h) x with
  |some p=>K p.1 p.2
  |none=>none
def growB(c:Tr Value)(m off w esz:Nat)(new:List Value)(k:HOT->RT):RT:=match Nat.beq off 0,Nat.beq w m with
 |true,true=>insK new m c λc=>fN (Nat.add m (lenR new)) λm=>k (.t m esz true c)
 |_,_=>qD (.cells (uY c w off++new) esz true) k
def apB(T:Nat->Site)(C:Cfg)(esz bytes:Nat)(s x:Value)(h:HTr)(K:List Value->HTr->RT):RT:=
 slB C T esz x h λnew n=>match s with
  | .slice none 0 0=>match n with
   |0=>K [.slice none 0 0] h
   |n+1=>match cE (n+1) bytes with
    |true=>qD (.cells new esz true) λo=>ji h o λh'=>fN (n+1) λn=>K [.slice (some ⟨h.n,0,tag esz⟩) n 0] h'
    |false=>none
  | .slice (some a) len cx=>match tagB a.spot esz with
   |false=>none
   |true=>match h.at a.block with
    |some (.t m e rw c)=>match Nat.beq e esz,Nat.ble (Nat.add a.off (Nat.mul len esz)) m with
     |true,true=>match cx with
      |0=>match n with
       |0=>K [.slice (some a) len 0] h
       |n+1=>match rw,cE (len+(n+1)) bytes with
        |true,true=>growB c m a.off (Nat.mul len esz) esz new λo=>putK h a.block (.o .dead) λh'=>ji h' o λh''=>fN (len+(n+1)) λl=>K [.slice (some ⟨h.n,0,tag esz⟩) l 0] h''
        |_,_=>none
      |cap+1=>match Nat.ble (len+n) cap with
       |true=>match rw,Nat.ble (Nat.add (Nat.add a.off (Nat.mul len esz)) (lenR new)) m with
        |true,true=>insK new (Nat.add a.off (Nat.mul len esz)) c λc=>putK h a.block (.t m e true c) λh'=>fN (len+n) λl=>K [.slice (some a) l (cap+1)] h'
        |_,_=>none
       |false=>match cE (len+n) bytes with
        |true=>growB c m a.off (Nat.mul len esz) esz new λo=>ji h o λh'=>fN (len+n) λl=>K [.slice (some ⟨h.n,0,tag esz⟩) l 0] h'
        |false=>none
     |_,_=>none
    |_=>none
  |_=>none
def heapB(T:Nat->Site)(f:Hp)(h:HTr)(K:List Value->HTr->RT):RT:=match f with
 | .st p new=>stB p new h K
 | .ap C esz bytes s x=>apB T C esz bytes s x h K
 | .fn f=>match f (getT T h) h.n with|some p=>tN p.2 λcs=>uo p.1 h λh=>K cs h|none=>none
def newB(o:HObj)(h:HTr)(K:Nat->HTr->RT):RT:=qD o λo=>ji h o λh'=>K h.n h'
def toSL(k:LK)(v:Value):Option SL:=
 match k with
 | .i k=>match v with
  | .int k' n=>match ez k' k with
   |true=>some (.i k' n)
   |false=>none
  |_=>none
 | .b=>match v with
  | .bool t=>some (.b t)
  |_=>none
 | .v=>match bg v with
  |true=>some (.v v)
  |false=>none
def toSLs:List LK->List Value->Option (List SL)
 | [],[]=>some []
 |k :: ks,v :: vs=>match toSL k v with
  |some x=>match toSLs ks vs with
   |some xs=>some (x :: xs)
   |none=>none
  |none=>none
 |_,_=>none
def toS0(sk:SK)(v:Value):Option S0:=
 match sk with
 | .leaf k=>(toSL k v).map .leaf
 | .agg ks=>match v with
  | .agg cs=>(toSLs ks cs.toList).map .agg
  |_=>none
def toS0s:List SK->List Value->Option (List S0)
 | [],[]=>some []
 |k :: ks,v :: vs=>match toS0 k v with
  |some x=>match toS0s ks vs with
   |some xs=>some (x :: xs)
   |none=>none
  |none=>none
 |_,_=>none
def eqLK:LK->LK->Bool
 | .i a,.i b=>ez a b
 | .b,.b=>true
 | .v,.v=>true
 |_,_=>false
def eqLKs:List LK->List LK->Bool
 | [],[]=>true
 |a :: l,b :: m=>eqLK a b&&eqLKs l m
 |_,_=>false
def eqSK:SK->SK->Bool
 | .leaf a,.leaf b=>eqLK a b
 | .agg a,.agg b=>eqLKs a b
 |_,_=>false
def eqSKs:List SK->List SK->Bool
 | [],[]=>true
 |a :: l,b :: m=>eqSK a b&&eqSKs l m
 |_,_=>false
def fK(ls:List Lf):Bool:=List.rec true (λl _ ih=>match l with
 | .v x=>(match goodF x with
  |true=>ih
  |false=>false)
 |_=>ih) ls
section
variable (Sg:FuncId->Option Sig) (T:Nat->Site) (call:aa)
def uv(g:FuncId)(ls:List Lf)(h:HTr)(K:List Lf->HTr->RT):RT:=match fK ls with|true=>call (.f g) ls h K|false=>none
def jZ(g:FuncId)(hs:Option (List SK))(vals:List Value)(h:HTr)(K:List Lf->HTr->RT):RT:=
 match Sg g with
 |none=>none
 |some sg=>match (match hs with|none=>true|some hs=>eqSKs sg.rs hs)with
  |false=>none
  |true=>match toS0s sg.ps vals with
   |none=>none
   |some xs=>uv call g (bB xs) h K
def callvB(v:Value)(args:List Value)(hs:List SK)(h:HTr)(K:List Lf->HTr->RT):RT:=
 match v with
 | .func fn first cap=>match fn with
  | .func g=>jZ Sg call g (some hs) (first.toList++args++cap.toList) h K
  | .yield l=>match first.toList,cap.toList with
   | [],[]=>match h.at l with
    |some (.lp κ _ _ vs)=>match eqSKs [.leaf .b] hs with
     |false=>none
     |true=>match toS0s ((T κ).params.map (·.2)) args with
      |none=>none
      |some xs=>match fK (bB xs)with
       |true=>call (.y κ vs l) (bB xs) h K
       |false=>none
    |_=>none
   |_,_=>none
  |_=>none
 |_=>none
def rfunB(κ:Nat)(v:Value)(vals:List Value)(h:HTr)(K:Option Code->HTr->RT):RT:=
 match v with
 | .func fn first cap=>match fn with
  | .func g=>ji h (.lp κ .ready none vals) λh0=>jZ Sg call g none (first.toList++[.func (.yield h.n) #[] #[]]++cap.toList) h0 λ_ h1=>match h1.at h.n with
   |some (.lp κ' st pd vs)=>match st with
    | .busy=>none
    |_=>putK h1 h.n (.lp κ' .exhausted pd vs) λh2=>K pd h2
   |_=>none
  |_=>none
 |_=>none
def pendB(pd:Option Code)(kn kr:RT)(ks:List (Nat×RT)):RT:=
 match pd with
 |none=>kn
 |some c=>match c with
  | .ret=>kr
  | .exit id=>List.rec none (λp _ ih=>match Nat.beq p.1 id with|true=>p.2|false=>ih) ks
  |_=>none
def lp1B(l:Nat)(h:HTr)(K:HTr->RT):RT:=
 match h.at l with
 |some (.lp κ st pd vs)=>match st with
  | .ready=>putK h l (.lp κ .busy pd vs) K
  |_=>none
 |_=>none
def lp2B(l:Nat)(j:Option Code)(h:HTr)(K:HTr->RT):RT:=
 match h.at l with
 |some (.lp κ _ _ vs)=>match j with
  |none=>putK h l (.lp κ .ready none vs) K
  |some c=>putK h l (.lp κ .done (some c) vs) K
 |_=>none
end
def loopB(F:(List Lf->HTr->RT)->List Lf->HTr->RT)(ls:List Lf)(h:HTr):RT:=
 Nat.rec (motive:=λ_=>List Lf->HTr->RT) (λ_ _=>none) (λ_ ih ls h=>F ih ls h) 1000000 ls h
def joinB(b:List Lf->HTr->RT)(m:(List Lf->HTr->RT)->RT):RT:=m b
def shfB(op:BinOp)(k:IntKind)(a:Int)(_:IntKind)(b:Int)(K:Int->RT):RT:=match leZ 0 b with
 |true=>match op with
  | .shl=>fI (k.wrap (a*2 ^ min b.toNat k.bits)) K
  | .shr=>fI (a.fdiv (2 ^ min b.toNat k.bits)) K
  |_=>none
 |false=>none
def BA(Sg:FuncId->Option Sig)(T:Nat->Site)(call:aa):Alg RT HTr where
 fail:=none
 cond:=condB
 ari:=ariB
 shf:=shfB
 cmp:=cmpB
 eqs:=eqsB
 conv:=convB
 sel:=selB
 opt:=optB
 chk:=chkB
 unI:=unIB
 unB:=unBB
 unV:=unVB
 un0:=un0B
 ucI:=ucIB
 ucB:=ucBB
 ucV:=ucVB
 uc0:=uc0B
 peek:=peekB T
 heap:=heapB T
 new:=newB
 call:=uv call
 callv:=callvB Sg T call
 join:=joinB
 loop:=loopB
 rfun:=rfunB Sg call
 pend:=pendB
 lp1:=lp1B
 lp2:=lp2B
end
end Go.Am

/-
 REGIONS THAT DRAW THEIR ORDER: what is known where the values have been told apart.
-/
namespace Go.Am
namespace Sx
section
variable [Val] [Kno]
def wAt(pts:List Nat)(tm:List Value)(o:Oper):List Nat:=(wOps pts o).flatMap λx=>adr (oval tm x)
def fAt(pts:List Nat)(tm:List Value)(o:Oper):List Nat:=(cC pts o).1.flatMap λx=>adrK (cC pts o).2 (oval tm x)
def dstIn(pts:List Nat)(tm:List Value)(o:Oper):Prop:=∀d,o.dst=some d->hCls pts o=2->∃v,tm[d]? = some v
def SepAt(pts:List Nat)(ops:Array Oper)(tm:List Value)(ps:List (Nat×Nat)):Prop:=
 ∀p∈ps,∃a b,ops[p.1]? = some a/\ops[p.2]? = some b/\(∀x∈wAt pts tm a,x∉fAt pts tm b)/\(∀x∈wAt pts tm a,x∉wAt pts tm b)/\(∀x∈wAt pts tm b,x∉fAt pts tm a)/\dstIn pts tm a/\dstIn pts tm b
def DrOk(C:Cfg)(dr:Dr):Prop:=∀pts ops ps,dr pts ops=some ps->∀(n:Nat) (σ σ':St),cd C (sm C n).toBelow pts ops (List.range ops.size) σ σ'->SepAt pts ops σ'.tmps ps->fm C (sm C n).toBelow pts ops σ σ'
theorem tD{x:Nat}:∀ {l:List Nat},memN x l=true↔x∈l
 | []=>by simp[memN]
 |y :: l=>by
  unfold memN
  cases h:Nat.beq x y with
  |true=>simp[qaf h]
  |false=>
   have:x≠y:=λe=>by subst e;rw[show Nat.beq x x=true from qcm x]at h;cases h
   simp only[qap,this,false_or]
   exact tD
theorem sQ:∀ {l m:List Nat},disjN l m=true->∀x∈l,x∉m
 | [],_,_,_,h=>by cases h
 |y :: l,m,h,x,hx=>by
  unfold disjN at h
  cases hm:memN y m with
  |true=>rw[hm]at h;cases h
  |false=>
   rw[hm]at h
   rcases qap.1 hx with rfl|hx
   ·intro e;rw[tD.2 e]at hm;cases hm
   ·exact sQ h x hx
theorem sepL_ok:∀ {l:List (Value×Nat×Value)} {u:Unit},sepL l=some u->∀p∈l,∀r∈adr p.1,r∉adrK p.2.1 p.2.2
 | [],_,_,_,h=>by cases h
 |q :: l,u,h,p,hp=>by
  unfold sepL at h
  split at h
  ·rename_i hd
   rcases qap.1 hp with rfl|hp
   ·exact sQ hd
   ·exact sepL_ok h p hp
  ·cases h
theorem entV_ok{ev:Env}{σ:St}(hR:Rp ev σ){x:Operand}{us:List Value}(h:entV (sval ev x)=some us)(k r:Nat)(hr:r∈adrK k (oval σ.tmps x)):∃u∈us,r∈adrK k u:=by
 have hn:sval ev x≠.no:=λe=>by rw[e]at h;cases h
 have hv:=(hR.sval rfl hn).1
 rw[hv]at hr
 generalize sval ev x=s at *
 have none:adrK k s.val=[]->∃u∈us,r∈adrK k u:=λe=>by rw[e]at hr;cases hr
 cases s with
 |st y=>
  cases y with
  |leaf l=>
   cases l with
   |v u=>
    cases h
    exact⟨u,by simp,hr⟩
   |_=>exact none (by cases k with|zero=>rfl|succ k=>cases k<;>rfl)
  |agg cs=>exact none (by cases k with|zero=>rfl|succ k=>cases k<;>rfl)
 |no=>exact absurd rfl hn
 |_=>exact none (by cases k with|zero=>rfl|succ k=>cases k<;>rfl)
theorem eO{ev:Env}{σ:St}(hR:Rp ev σ):∀ {l:List Operand} {us:List Value},oA ev l=some us->∀(k r:Nat),r∈l.flatMap (λx=>adrK k (oval σ.tmps x))->∃u∈us,r∈adrK k u
 | [],_,_,_,_,h=>by cases h
 |x :: l,us,h,k,r,hr=>by
  unfold oA at h
  split at h
  ·rename_i a b ha hb
   cases h
   rw[qbt,qaQ]at hr
   rcases hr with hr|hr
   ·obtain⟨u,h1,h2⟩:=entV_ok hR ha k r hr
    exact⟨u,qaN _ h1,h2⟩
   ·obtain⟨u,h1,h2⟩:=eO hR hb k r hr
    exact⟨u,qa1 _ h1,h2⟩
  ·cases h
theorem kY{ev:Env}{σ:St}(hR:Rp ev σ){d:Nat}:∀ {l:List Operand} {us:List Value},oA ev l=some us->Operand.tmp d∈l->∃v,σ.tmps[d]? = some v
 |x :: l,us,h,hm=>by
  unfold oA at h
  split at h
  ·rename_i a b ha hb
   rcases qap.1 hm with rfl|hm
   ·have hn:sval ev (.tmp d)≠.no:=λe=>by rw[e]at ha;cases ha
    exact⟨_,(hR.at (s:=ev.tm.getD d .no) rfl hn).1⟩
   ·exact kY hR hb hm
  ·cases h
theorem pJ{pts:List Nat}{o:Oper}{d:Nat}(hd:o.dst=some d)(h:hCls pts o=2):Operand.tmp d∈wOps pts o:=by
 unfold wOps
 rw[h,hd]
 simp
theorem kU{us vs:List Value}{k:Nat}{u v:Value}(hu:u∈us)(hv:v∈vs):(u,k,v)∈cross us k vs:=by
 unfold cross
 exact qbr.2 ⟨u,hu,qaK.2 ⟨v,hv,rfl⟩⟩
theorem sepOne_ok{pts:List Nat}{ev:Env}{σ:St}(hR:Rp ev σ){a b:Oper}{l:List (Value×Nat×Value)}(h:sepOne pts ev a b=some l)(hs:∀p∈l,∀r∈adr p.1,r∉adrK p.2.1 p.2.2) :
  (∀x∈wAt pts σ.tmps a,x∉fAt pts σ.tmps b)/\(∀x∈wAt pts σ.tmps a,x∉wAt pts σ.tmps b)/\(∀x∈wAt pts σ.tmps b,x∉fAt pts σ.tmps a)/\dstIn pts σ.tmps a/\dstIn pts σ.tmps b:=by
 unfold sepOne at h
 split at h
 ·rename_i wa wb fa fb h1 h2 h3 h4
  cases h
  refine⟨λx hx hy=>?_,λx hx hy=>?_,λx hx hy=>?_,λd hd hc=>kY hR h1 (pJ hd hc),λd hd hc=>kY hR h2 (pJ hd hc)⟩
  ·obtain⟨u,u1,u2⟩:=eO hR h1 0 x hx
   obtain⟨v,v1,v2⟩:=eO hR h4 _ x hy
   exact hs (u,_,v) (qaN _ (qaN _ (kU u1 v1))) x u2 v2
  ·obtain⟨u,u1,u2⟩:=eO hR h1 0 x hx
   obtain⟨v,v1,v2⟩:=eO hR h2 0 x hy
   exact hs (u,0,v) (qaN _ (qa1 _ (kU u1 v1))) x u2 v2
  ·obtain⟨u,u1,u2⟩:=eO hR h2 0 x hx
   obtain⟨v,v1,v2⟩:=eO hR h3 _ x hy
   exact hs (u,_,v) (qa1 _ (kU u1 v1)) x u2 v2
 ·cases h
theorem nO{pts:List Nat}{ops:Array Oper}{ev:Env}{σ:St}(hR:Rp ev σ):∀ {ps:List (Nat×Nat)} {l:List (Value×Nat×Value)},px pts ops ev ps=some l->(∀p∈l,∀r∈adr p.1,r∉adrK p.2.1 p.2.2)->SepAt pts ops σ.tmps ps
 | [],_,_,_,_,h=>by cases h
 |q :: ps,l,h,hs,p,hp=>by
  unfold px at h
  split at h
  ·rename_i a b r ha hb hr
   obtain⟨x,hx,rfl⟩:=qae.1 h
   rcases qap.1 hp with rfl|hp
   ·exact⟨a,b,ha,hb,sepOne_ok hR hx λp hp=>hs p (qaN _ hp)⟩
   ·exact nO hR hr (λp hp=>hs p (qa1 _ hp)) p hp
  ·cases h
theorem sepK_ok{R HT:Type}{A:Alg R HT}{C:Cfg}{Sg:FuncId->Option Sig}{T:Nat->Site}{holds:R->Prop}{abs:HT->List HObj}(hA:AlgOk A C Sg T holds abs){pts:List Nat}{ops:Array Oper}{ps:List (Nat×Nat)}{kn:KN R HT}{ev:Env}{σ:St}(hR:Rp ev σ){h:HT}(hk:holds (sepK A pts ops ps kn ev h)) :
  SepAt pts ops σ.tmps ps/\holds (kn ev h):=by
 unfold sepK at hk
 split at hk
 ·exact⟨λp hp=>(by cases hp),hk⟩
 ·simp only at hk
  split at hk
  ·rename_i l hl
   obtain⟨u,h1,h2⟩:=hA.opt _ _ hk
   exact⟨nO hR hl (sepL_ok h1),h2⟩
  ·exact absurd hk hA.fail
end
end Sx
end Go.Am

/-
 OPERATIONS: what the algebra says of them,the abstract machine does. First part: temporaries,local rows,structs.
-/
namespace Go.Am
section
variable [Val] [Kno] {R HT:Type} {A:Alg R HT} {X:Ctxt} {Sg:FuncId->Option Sig} {holds:R->Prop} {abs:HT->List HObj}
variable {ev:Env} {σ:St} {h:HT} {o:Oper} {K:KN R HT}
def StepO(C:Cfg)(pts:List Nat)(o:Oper)(σ σ':St):Prop:=
 (∃e,ai C pts (oval σ.tmps) o=some e/\ig (uB C) e o.dst σ σ')∨(∃v,gF C σ.tmps o v/\σ'=σ.put o.dst v)
def qT(pts:List Nat)(o:Oper):Option Nat:=
 match o.op,o.dst with
 | .box ..,some d=>if pts.getD d 0=d+2 then some d else none
 | .alloc _,some d=>if pts.getD d 0=d+2 then some d else none
 |_,_=>none
def Done(X:Ctxt)(holds:R->Prop)(abs:HT->List HObj)(o:Oper)(σ:St)(K:KN R HT):Prop:=
 ∃σ' ev' h',StepO X.C X.pts o σ σ'/\Rp ev' σ'/\abs h'=σ'.heap/\Fr o.dst.toList (qT X.pts o).toList (gP X.pts o).toList σ σ'/\holds (K ev' h')
theorem ss(hR:Rp ev σ){dst:Option Tmp}{s:SV}(hs:s.gd)(hk:holds (setD dst s ev h K)):∃ev',Rp ev' (σ.put dst s.val)/\holds (K ev' h):=by
 unfold setD at hk
 cases dst with
 |none=>exact⟨ev,hR,hk⟩
 |some d=>
  simp only[setK_eq]at hk
  exact⟨_,hR.put d hs,hk⟩
theorem cS(hR:Rp ev σ)(H':List HObj)(ha:abs h=H'){s:SV}(hs:s.gd)
  (hst:StepO X.C X.pts o σ (({ σ with heap:=H' }:St).put o.dst s.val)) (hk:holds (setD o.dst s ev h K)):Done X holds abs o σ K:=by
 obtain⟨ev',h1,h2⟩:=ss (hR.heap H') hs hk
 refine⟨_,ev',h,hst,h1,?_,?_,h2⟩
 ·rw[ha];cases o.dst<;>rfl
 ·have:=Fr.put (σ:=({ σ with heap:=H' }:St)) o.dst s.val (qT X.pts o).toList (gP X.pts o).toList
  exact⟨this.tlen,this.llen,this.tm,this.tp,this.row,this.rlen⟩
theorem ao(hR:Rp ev σ)(ha:abs h=σ.heap){s:SV}(hs:s.gd)(he:ai X.C X.pts (oval σ.tmps) o=some (.val s.val))(hk:holds (setD o.dst s ev h K)) :
  Done X holds abs o σ K:=
 cS hR σ.heap ha hs (.inl ⟨_,he,_,rfl,rfl⟩) hk
theorem bJ(hR:Rp ev σ)(ha:abs h=σ.heap){s:SV}(hs:s.gd)(he:gF X.C σ.tmps o s.val)(hk:holds (setD o.dst s ev h K)) :
  Done X holds abs o σ K:=
 cS hR σ.heap ha hs (.inr ⟨_,he,rfl⟩) hk
theorem fz(hR:Rp ev σ)(ha:abs h=σ.heap){s:SV}(hs:s.gd){f:List HObj->Option Value}(he:ai X.C X.pts (oval σ.tmps) o=some (.hget f))(hf:f σ.heap=some s.val)
  (hk:holds (setD o.dst s ev h K)):Done X holds abs o σ K:=
 cS hR σ.heap ha hs (.inl ⟨_,he,(σ,s.val),by simp[aG,hf],rfl⟩) hk
theorem cF(hR:Rp ev σ){H':List HObj}(ha:abs h=H'){s:SV}(hs:s.gd){f:List HObj->Option (List HObj×Value)}(he:ai X.C X.pts (oval σ.tmps) o=some (.hop f))
  (hf:f σ.heap=some (H',s.val)) (hk:holds (setD o.dst s ev h K)):Done X holds abs o σ K:=
 cS hR H' ha hs (.inl ⟨_,he,({ σ with heap:=H' },s.val),by simp[aG,hf],rfl⟩) hk
theorem move_ok(hR:Rp ev σ)(ha:abs h=σ.heap){x:Operand}(ho:o.op = .move x∨o.op = .assign x){y:SV}(hy:sval ev x=y)(hn:y≠.no)(hk:holds (setD o.dst y ev h K)):Done X holds abs o σ K:=by
 obtain⟨h1,h2⟩:=hR.sval hy hn
 refine ao hR ha h2 ?_ hk
 rcases ho with ho|ho<;>simp only[ai,ho,h1]
theorem pick_ok(hA:AlgOk A X.C Sg X.T holds abs)(hR:Rp ev σ)(ha:abs h=σ.heap){c a b:Operand}(ho:o.op = .pick c a b)
  (hk:holds (match sval ev c,sval ev a,sval ev b with
  | .st (.leaf (.l true)),.st y,_=>setD o.dst (.st y) ev h K
  | .st (.leaf (.l false)),_,.st y=>setD o.dst (.st y) ev h K
  | .st (.leaf (.b t)),.st y,.st z=>A.cond t (setD o.dst (.st y) ev h K) (setD o.dst (.st z) ev h K)
  |_,_,_=>A.fail)):Done X holds abs o σ K:=by
 split at hk
 ·rename_i y e1 e2
  obtain⟨h1,_⟩:=hR.sval e1 (by simp)
  obtain⟨h2,g2⟩:=hR.sval e2 (by simp)
  refine ao hR ha g2 ?_ hk
  simp only[ai,ho,h1,SV.val,S0.val,SL.val,if_true,h2]
 ·rename_i y e1 e2
  obtain⟨h1,_⟩:=hR.sval e1 (by simp)
  obtain⟨h2,g2⟩:=hR.sval e2 (by simp)
  refine ao hR ha g2 ?_ hk
  simp only[ai,ho,h1,SV.val,S0.val,SL.val,h2,qaq,if_false]
 ·rename_i t y z e1 e2 e3
  obtain⟨h1,_⟩:=hR.sval e1 (by simp)
  obtain⟨h2,g2⟩:=hR.sval e2 (by simp)
  obtain⟨h3,g3⟩:=hR.sval e3 (by simp)
  rcases hA.cond _ _ _ hk with⟨ht,hk⟩|⟨ht,hk⟩
  ·refine ao hR ha g2 ?_ hk
   simp only[ai,ho,h1,SV.val,S0.val,SL.val,ht,if_true,h2]
  ·refine ao hR ha g3 ?_ hk
   simp only[ai,ho,h1,SV.val,S0.val,SL.val,ht,h3,qaq,if_false]
 ·exact absurd hk hA.fail
theorem newV_ok(hA:AlgOk A X.C Sg X.T holds abs)(hR:Rp ev σ)(ha:abs h=σ.heap){t:TypeId}{x:S0}(hx:x.good)(he:ai X.C X.pts (oval σ.tmps) o=bR X.C X.pts o.dst t x.val)
  (hb:(∃y,o.op = .box t y)∨o.op = .alloc t) (hk:holds (newV A X o.dst t x ev h K)):Done X holds abs o σ K:=by
 unfold newV at hk
 split at hk
 ·exact absurd hk hA.fail
 ·rename_i d hd
  have dP:=S0.cells_val hx
  have hok:=S0.cells_ok hx
  have hnt:=S0.not_tuple hx
  split at hk
  ·rename_i hp
   have hp:X.pts.getD d 0=d+2:=by simpa using hp
   split at hk
   ·rename_i hl
    rw[setK_eq,setK_eq]at hk
    have hrow:ev.lc[d]? = some .nil:=by
     rw[List.getD_eq_getElem?_getD]at hl
     cases he:ev.lc[d]? with
     |none=>rw[he]at hl;cases hl
     |some r=>rw[he]at hl;simp at hl;rw[hl]
    have hloc:σ.loc[d]? = some none:=hR.row d _ hrow
    have heff:ai X.C X.pts (oval σ.tmps) o=some (.lnew d (x.cells.map SL.val)):=by
     rw[he,hd]
     unfold bR
     simp only[hnt,qaq,if_false,dP,cells_ok' hx,qaL,hp,if_true]
    let σ₁:St:={ σ with loc:=σ.loc.set d (some (x.cells.map SL.val)) }
    have hR1:Rp ⟨ev.tm,ev.lc.set d (.row x.cells)⟩ σ₁:=by
     refine⟨hR.len,hR.val,by simp[σ₁,hR.llen],λi r hr=>?_⟩
     simp only[qaS]at hr
     split at hr
     ·rename_i hi
      subst hi
      split at hr
      ·rename_i hlt
       cases hr
       exact⟨by simp only[σ₁];rw[qaD (by rw[←hR.llen];exact hlt)],hx⟩
      ·cases hr
     ·rename_i hi
      have:=hR.row i r hr
      have hne:σ₁.loc[i]? = σ.loc[i]?:=by simp only[σ₁];rw[qaj hi]
      cases r<;>first|trivial|(simp only[LR.ok]at this ⊢;rw[hne];exact this)
    have hkey:qT X.pts o=some d:=by
     rcases hb with⟨y,hb⟩|hb<;>(simp only[qT,hb,hd];rw[if_pos hp])
    have hrow':gP X.pts o=some d:=by
     rcases hb with⟨y,hb⟩|hb<;>(simp only[gP,hb,hd];rw[if_pos hp])
    refine⟨σ₁.put o.dst (.pointer (some ⟨d,0,some 0⟩)),_,h,.inl ⟨_,heff,(σ₁,.pointer (some ⟨d,0,some 0⟩)),by simp[aG,hloc,σ₁],rfl⟩,?_,?_,?_,hk⟩
    ·rw[hd];exact hR1.put d (s:=.lad d 0) trivial
    ·rw[ha];cases o.dst<;>rfl
    ·have hf:=Fr.put (σ:=σ₁) o.dst (.pointer (some ⟨d,0,some 0⟩)) [d] [d]
     have h0:Fr o.dst.toList [d] [d] σ σ₁:=by
      refine⟨rfl,by simp[σ₁],λ_ _ h _ _=>h,λ_ _ _ h _ _=>h,λs y hs hn=>?_,λs vs hs hn=>?_⟩
      ·simp only[qay]at hn
       simp only[σ₁]
       rw[qaj (λe=>hn e.symm)];exact hs
      ·simp only[qay]at hn
       refine⟨vs,?_,rfl⟩
       simp only[σ₁]
       rw[qaj (λe=>hn e.symm)];exact hs
     rw[hkey,hrow']
     exact h0.trans hf
   ·exact absurd hk hA.fail
  ·rename_i hp
   have hp:¬X.pts.getD d 0=d+2:=λe=>by rw[e]at hp;simp at hp
   obtain⟨h',e1,e2⟩:=hA.new _ _ _ hk
   rw[ha]at e1 e2
   have heff:ai X.C X.pts (oval σ.tmps) o=some (.hop λH=>some (H++[.cells x.val.cells.toList (jo X.C.P t) true],.pointer (some ⟨H.length,0,none⟩))):=by
    rw[he,hd]
    unfold bR
    simp only[hnt,qaq,if_false,hok,qaL,hp]
   rw[←hd]at e2
   refine cF (s:=.st (.leaf (.v (.pointer (some ⟨σ.heap.length,0,none⟩))))) hR e1 (λl hl=>?_) heff ?_ e2
   ·simp only[S0.cells,qay]at hl
    subst hl;rfl
   ·simp only[dP];rfl
theorem sI(new:List Value):∀(off k:Nat) (cs:List Value),off+k+new.length<=cs.length->
  ((new.zipIdx k).foldl (λ(acc:Array Value) (p:Value×Nat)=>acc.setIfInBounds (off+p.2) p.1) cs.toArray).toList=cs.take (off+k)++new++cs.drop (off+k+new.length):=by
 induction new with
 |nil=>intro off k cs h;simp
 |cons a l ih=>
  intro off k cs h
  simp only[qaX]at h
  simp only[List.zipIdx_cons,qb7]
  have hset:(cs.toArray.setIfInBounds (off+k) a)=(cs.set (off+k) a).toArray:=by simp
  rw[hset,ih off (k+1) (cs.set (off+k) a) (by simp;omega)]
  rw[List.take_set,List.drop_set]
  have h1:(cs.take (off+(k+1))).set (off+k) a=cs.take (off+k)++[a]:=by
   rw[show off+(k+1)=(off+k)+1 from by omega]
   rw[List.take_succ_eq_append_getElem (by omega),List.set_append]
   simp[qcs (show off+k<=cs.length by omega)]
  rw[h1]
  rw[if_pos (show off+k<off+(k+1)+l.length by omega),show off+(k+1)+l.length=off+k+(l.length+1)by omega]
  simp only[qaA,qbV,qbg,qaX]
theorem oJ(pl:Nat->Option (Nat×Nat)):∀(ps:List (Nat×S0)) (cs r:List SL),(∀p∈ps,p.2.good)->oI pl cs ps=some r->
  Instr.fill pl ⟨cs.map SL.val⟩ (ps.map λp=>(p.1,p.2.val))=some ⟨r.map SL.val⟩
 | [],cs,r,_,hf=>by cases hf;rfl
 |(i,x) :: ps,cs,r,hg,hf=>by
  simp only[oI]at hf
  split at hf
  ·rename_i off n hpl
   split at hf
   ·rename_i hn
    split at hf
    ·rename_i cs1 hs
     have hn:x.cells.length=n:=by simpa using hn
     have hx:x.good:=hg (i,x) (by simp)
     have hc:=S0.cells_val hx
     unfold fV at hs
     split at hs
     ·rename_i hle
      cases hs
      have ih:=oJ pl ps _ r (λp hp=>hg p (by simp[hp])) hf
      simp only[qat,Instr.fill,hpl,hc]
      have hsz:(⟨x.cells.map SL.val⟩ : Array Value).size=n:=by simp[hn]
      rw[if_neg (by
       have h2:(⟨cs.map SL.val⟩ : Array Value).size=cs.length:=by simp
       rw[hsz,h2];simp;omega)]
      rw[←ih]
      congr 1
      have hfold:=sI (x.cells.map SL.val) off 0 (cs.map SL.val) (by simp;omega)
      apply qa2.1
      rw[←qb4,qcK]
      refine Eq.trans hfold ?_
      simp[qb8,qb9]
     ·cases hs
    ·cases hf
   ·cases hf
  ·cases hf
theorem na(pl:Nat->Option (Nat×Nat)):∀(ps:List (Nat×S0)) (cs r:List SL),(∀c∈cs,c.good)->(∀p∈ps,p.2.good)->oI pl cs ps=some r->∀c∈r,c.good
 | [],cs,r,hc,_,hf=>by cases hf;exact hc
 |(i,x) :: ps,cs,r,hc,hg,hf=>by
  simp only[oI]at hf
  split at hf
  ·split at hf
   ·split at hf
    ·rename_i cs1 hs
     refine na pl ps cs1 r (λc hm=>?_) (λp hp=>hg p (by simp[hp])) hf
     unfold fV at hs
     split at hs
     ·cases hs
      simp only[qaQ]at hm
      rcases hm with(hm|hm)|hm
      ·exact hc c (qbw hm)
      ·exact hg (i,x) (by simp) c hm
      ·exact hc c (qbD hm)
     ·cases hs
    ·cases hf
   ·cases hf
  ·cases hf
theorem nV{ps:List (Nat×Operand)}{xs:List S0}(hv:(ps.map (·.2)).map (oval σ.tmps)=ah xs) :
  ps.map (λp=>(p.1,oval σ.tmps p.2))=((ps.map (·.1)).zip xs).map λp=>(p.1,p.2.val):=by
 induction ps generalizing xs with
 |nil=>simp
 |cons p ps ih=>
  cases xs with
  |nil=>simp[ah]at hv
  |cons x xs=>
   simp only[qat,ah,qbh]at hv
   simp only[qat,qb6,hv.1]
   rw[ih (xs:=xs) hv.2]
theorem pN{is:List Nat}{xs:List S0}(hg:∀x∈xs,x.good):∀p∈is.zip xs,p.2.good:=λ_ hp=>hg _ (List.of_mem_zip hp).2
theorem pL{P:Program}{t:TypeId}{x:S0}(hz:sH P t=some x):∃z,cY P t=some z/\x.val=z/\x.good:=by
 unfold sH at hz
 obtain⟨z,h1,h2⟩:=qam.1 hz
 obtain⟨h3,h4,_⟩:=pt h2
 exact⟨z,h1,h3,h4⟩
theorem build_ok(hA:AlgOk A X.C Sg X.T holds abs)(hR:Rp ev σ)(ha:abs h=σ.heap){t:TypeId}{ps:Array (Nat×Operand)}(ho:o.op = .build t ps)
  (hk:holds (match sH X.C.P t,kH X.C.P t,svals ev (ps.toList.map (·.2))with
  |some z,some pl,some xs=>match oI pl z.cells ((ps.toList.map (·.1)).zip xs)with
   |some cs=>setD o.dst (.st (.agg cs)) ev h K
   |none=>A.fail
  |_,_,_=>A.fail)):Done X holds abs o σ K:=by
 split at hk
 ·rename_i z pl xs e1 e2 e3
  split at hk
  ·rename_i cs e4
   obtain⟨zv,hz1,hz2,hz3⟩:=pL e1
   obtain⟨hv,hg⟩:=hR.svals e3
   have hzc:=S0.cells_val hz3
   have hfill:=oJ pl _ _ _ (pN (is:=ps.toList.map (·.1)) hg) e4
   have hgood:=na pl _ _ _ (λc hc=>hz3 c hc) (pN (is:=ps.toList.map (·.1)) hg) e4
   refine ao hR ha (s:=.st (.agg cs)) hgood ?_ hk
   have hall:(ps.toList.all λp=>!aH (oval σ.tmps p.2))=true:=by
    simp only[qac,qbF]
    intro p hp
    have hm:oval σ.tmps p.2∈ah xs:=by
     rw[←hv]
     exact qaK.2 ⟨p.2,qaK.2 ⟨p,hp,rfl⟩,rfl⟩
    simp only[ah,qaK]at hm
    obtain⟨x,hx,e⟩:=hm
    rw[←e]
    exact S0.not_tuple (hg x hx)
   simp only[ai,ho,hall,if_true,pW,hz1,e2]
   rw[nV hv,←hz2,hzc,hfill]
   rfl
  ·exact absurd hk hA.fail
 ·exact absurd hk hA.fail
end
end Go.Am

/-
 OPERATIONS,second part: leaves taken apart;loads,stores.
-/
namespace Go.Am
theorem SL.lf_val{a b:SL}{k:LK}(ha:a.is k=true)(hb:b.is k=true)(he:a.lf=b.lf):a.val=b.val/\(a.good->b.good):=by
 cases a<;>cases b<;>cases k<;>simp only[SL.lf,Lf.i.injEq,Lf.b.injEq,Lf.v.injEq,reduceCtorEq,SL.is,qaq]at he ha hb ⊢<;>try (subst he;exact⟨rfl,id⟩)
 subst he
 exact⟨by simp only[SL.val];rw[cT ha,cT hb],id⟩
theorem bn:∀ {cs:List SL} {ks:List LK},aJ cs ks=true->cs.length=ks.length
 | [],[],_=>rfl
 |c :: cs,k :: ks,h=>by
  simp only[aJ,qaa]at h
  simp[bn h.2]
 | [],_ :: _,h=>by cases h
 |_ :: _,[],h=>by cases h
theorem fl:∀ {a b:List SL} {ks:List LK},aJ a ks=true->aJ b ks=true->a.map SL.lf=b.map SL.lf->a.map SL.val=b.map SL.val/\((∀c∈a,c.good)->∀c∈b,c.good)
 | [],[],[],_,_,_=>⟨rfl,λ_ _ h=>by cases h⟩
 |a :: as0,b :: bs,k :: ks,ha,hb,he=>by
  simp only[aJ,qaa]at ha hb
  simp only[qat,qbh]at he
  obtain⟨h1,h2⟩:=SL.lf_val ha.1 hb.1 he.1
  obtain⟨h3,h4⟩:=fl ha.2 hb.2 he.2
  refine⟨by simp[h1,h3],λhg c hc=>?_⟩
  rcases qap.1 hc with rfl|hc
  ·exact h2 (hg a (by simp))
  ·exact h4 (λc hc=>hg c (by simp[hc])) c hc
 | [],_ :: _,[],_,hb,_=>by cases hb
 | [],_,_ :: _,ha,_,_=>by cases ha
 |_ :: _,_,[],ha,_,_=>by cases ha
 |_ :: _,[],_ :: _,_,hb,_=>by cases hb
theorem S0.is_val{a b:S0}{sk:SK}(ha:a.is sk=true)(hb:b.is sk=true)(he:a.cells.map SL.lf=b.cells.map SL.lf):a.val=b.val/\(a.good->b.good):=by
 cases sk with
 |leaf k=>
  cases a with
  |agg _=>cases ha
  |leaf a=>
   cases b with
   |agg _=>cases hb
   |leaf b=>
    simp only[S0.cells,qat,qa8,qbh,and_true]at he
    obtain⟨h1,h2⟩:=SL.lf_val ha hb he
    refine⟨h1,λhg l hl=>?_⟩
    simp only[S0.cells,qay]at hl
    subst hl
    exact h2 (hg a (by simp[S0.cells]))
 |agg ks=>
  cases a with
  |leaf _=>cases ha
  |agg a=>
   cases b with
   |leaf _=>cases hb
   |agg b=>
    obtain⟨h1,h2⟩:=fl ha hb he
    exact⟨by simp only[S0.val,h1],h2⟩
theorem S0.is_len{a:S0}{sk:SK}(ha:a.is sk=true):∃n,a.cells.length=n/\∀b:S0,b.is sk=true->b.cells.length=n:=by
 refine⟨_,rfl,λb hb=>?_⟩
 cases sk with
 |leaf k=>
  cases a with
  |agg _=>cases ha
  |leaf a=>cases b with
   |agg _=>cases hb
   |leaf b=>rfl
 |agg ks=>
  cases a with
  |leaf _=>cases ha
  |agg a=>cases b with
   |leaf _=>cases hb
   |agg b=>exact(bn hb).trans (bn ha).symm
theorem cA:∀ {a b:List S0} {sks:List SK},bz a sks=true->bz b sks=true->bB a=bB b->ah a=ah b/\((∀c∈a,c.good)->∀c∈b,c.good)
 | [],[],[],_,_,_=>⟨rfl,λ_ _ h=>by cases h⟩
 |a :: as0,b :: bs,k :: ks,ha,hb,he=>by
  simp only[bz,qaa]at ha hb
  obtain⟨n,hn1,hn2⟩:=S0.is_len ha.1
  have hn2:=hn2 b hb.1
  simp only[bB]at he
  obtain⟨he1,he2⟩:=qc3 he (by simp[hn1,hn2])
  obtain⟨h1,h2⟩:=S0.is_val ha.1 hb.1 he1
  obtain⟨h3,h4⟩:=cA ha.2 hb.2 he2
  refine⟨by simp only[ah,qat,h1]at h3 ⊢;rw[h3],λhg c hc=>?_⟩
  rcases qap.1 hc with rfl|hc
  ·exact h2 (hg a (by simp))
  ·exact h4 (λc hc=>hg c (by simp[hc])) c hc
 | [],_ :: _,[],_,hb,_=>by cases hb
 | [],_,_ :: _,ha,_,_=>by cases ha
 |_ :: _,_,[],ha,_,_=>by cases ha
 |_ :: _,[],_ :: _,_,hb,_=>by cases hb
section
variable [Val] [Kno] {R HT:Type} {A:Alg R HT} {X:Ctxt} {Sg:FuncId->Option Sig} {holds:R->Prop} {abs:HT->List HObj}
variable {ev:Env} {σ:St} {h:HT} {o:Oper} {K:KN R HT}
theorem nS{C:Cfg}{T:Nat->Site}(hA:AlgOk A C Sg T holds abs):∀ {ks:List LK} {ls:List Lf} {K:List SL->List Lf->R},holds (unL A ks ls K)->
  ∃cs r,ls=cs.map SL.lf++r/\aJ cs ks=true/\holds (K cs r)
 | [],ls,K,hk=>⟨[],ls,rfl,rfl,hk⟩
 | .i k :: ks,ls,K,hk=>by
  obtain⟨n,r,rfl,hk1⟩:=hA.unI _ _ hk
  obtain⟨cs,r',rfl,h2,h3⟩:=nS hA (ks:=ks) hk1
  exact⟨.i k n :: cs,r',rfl,by simp[aJ,SL.is,dd,h2],h3⟩
 | .b :: ks,ls,K,hk=>by
  obtain⟨n,r,rfl,hk1⟩:=hA.unB _ _ hk
  obtain⟨cs,r',rfl,h2,h3⟩:=nS hA (ks:=ks) hk1
  exact⟨.b n :: cs,r',rfl,by simp[aJ,SL.is,h2],h3⟩
 | .v :: ks,ls,K,hk=>by
  obtain⟨n,r,rfl,hk1⟩:=hA.unV _ _ hk
  obtain⟨cs,r',rfl,h2,h3⟩:=nS hA (ks:=ks) hk1
  exact⟨.v n :: cs,r',rfl,by simp[aJ,SL.is,h2],h3⟩
theorem unS_ok{C:Cfg}{T:Nat->Site}(hA:AlgOk A C Sg T holds abs){sk:SK}{ls:List Lf}{K:S0->List Lf->R}(hk:holds (unS A sk ls K)) :
  ∃x r,ls=x.cells.map SL.lf++r/\x.is sk=true/\holds (K x r):=by
 cases sk with
 |leaf k=>
  cases k with
  |i k=>
   obtain⟨n,r,rfl,hk1⟩:=hA.unI _ _ hk
   exact⟨.leaf (.i k n),r,rfl,by simp[S0.is,SL.is,dd],hk1⟩
  |b=>
   obtain⟨n,r,rfl,hk1⟩:=hA.unB _ _ hk
   exact⟨.leaf (.b n),r,rfl,rfl,hk1⟩
  |v=>
   obtain⟨n,r,rfl,hk1⟩:=hA.unV _ _ hk
   exact⟨.leaf (.v n),r,rfl,rfl,hk1⟩
 |agg ks=>
  obtain⟨cs,r,h1,h2,h3⟩:=nS hA hk
  exact⟨.agg cs,r,h1,h2,h3⟩
theorem mA{C:Cfg}{T:Nat->Site}(hA:AlgOk A C Sg T holds abs):∀ {sks:List SK} {ls:List Lf} {K:List S0->List Lf->R},holds (unSs A sks ls K)->
  ∃xs r,ls=bB xs++r/\bz xs sks=true/\holds (K xs r)
 | [],ls,K,hk=>⟨[],ls,rfl,rfl,hk⟩
 |sk :: sks,ls,K,hk=>by
  have hk0:holds (unS A sk ls λx r=>unSs A sks r λxs r=>K (x :: xs) r):=hk
  obtain⟨x,r,rfl,h1,hk1⟩:=unS_ok hA hk0
  obtain⟨xs,r',rfl,h2,h3⟩:=mA hA (sks:=sks) hk1
  exact⟨x :: xs,r',by simp[bB],by simp[bz,h1,h2],h3⟩
theorem um{C:Cfg}{T:Nat->Site}(hA:AlgOk A C Sg T holds abs):∀ {ks:List LK} {ls:List Value} {K:List SL->List Value->R},holds (ucL A ks ls K)->
  ∃cs r,ls=cs.map SL.val++r/\aJ cs ks=true/\(∀c∈cs,c.good)/\holds (K cs r)
 | [],ls,K,hk=>⟨[],ls,rfl,rfl,by simp,hk⟩
 | .i k :: ks,ls,K,hk=>by
  obtain⟨n,r,rfl,hk1⟩:=hA.ucI _ _ _ hk
  obtain⟨cs,r',rfl,h2,h3,h4⟩:=um hA (ks:=ks) hk1
  exact⟨.i k n :: cs,r',rfl,by simp[aJ,SL.is,dd,h2],qbb.2 ⟨trivial,h3⟩,h4⟩
 | .b :: ks,ls,K,hk=>by
  obtain⟨n,r,rfl,hk1⟩:=hA.ucB _ _ hk
  obtain⟨cs,r',rfl,h2,h3,h4⟩:=um hA (ks:=ks) hk1
  exact⟨.b n :: cs,r',rfl,by simp[aJ,SL.is,h2],qbb.2 ⟨trivial,h3⟩,h4⟩
 | .v :: ks,ls,K,hk=>by
  obtain⟨n,r,rfl,hk1⟩:=hA.ucV _ _ hk
  obtain⟨hg,hk2⟩:=hA.chk _ _ hk1
  obtain⟨cs,r',rfl,h2,h3,h4⟩:=um hA (ks:=ks) hk2
  exact⟨.v n :: cs,r',rfl,by simp[aJ,SL.is,h2],qbb.2 ⟨hg,h3⟩,h4⟩
theorem mz{C:Cfg}{T:Nat->Site}(hA:AlgOk A C Sg T holds abs){sk:SK}{ls:List Value}{K:S0->List Value->R}(hk:holds (ucS A sk ls K)) :
  ∃x r,ls=x.cells.map SL.val++r/\x.is sk=true/\x.good/\holds (K x r):=by
 cases sk with
 |leaf k=>
  cases k with
  |i k=>
   obtain⟨n,r,rfl,hk1⟩:=hA.ucI _ _ _ hk
   exact⟨.leaf (.i k n),r,rfl,by simp[S0.is,SL.is,dd],λl hl=>by simp only[S0.cells,qay]at hl;subst hl;trivial,hk1⟩
  |b=>
   obtain⟨n,r,rfl,hk1⟩:=hA.ucB _ _ hk
   exact⟨.leaf (.b n),r,rfl,rfl,λl hl=>by simp only[S0.cells,qay]at hl;subst hl;trivial,hk1⟩
  |v=>
   obtain⟨n,r,rfl,hk1⟩:=hA.ucV _ _ hk
   obtain⟨hg,hk2⟩:=hA.chk _ _ hk1
   exact⟨.leaf (.v n),r,rfl,rfl,λl hl=>by simp only[S0.cells,qay]at hl;subst hl;exact hg,hk2⟩
 |agg ks=>
  obtain⟨cs,r,h1,h2,h3,h4⟩:=um hA hk
  exact⟨.agg cs,r,h1,h2,h3,h4⟩
theorem ucSs_ok{C:Cfg}{T:Nat->Site}(hA:AlgOk A C Sg T holds abs):∀ {sks:List SK} {ls:List Value} {K:List S0->List Value->R},holds (ucSs A sks ls K)->
  ∃xs r,ls=kg xs++r/\bz xs sks=true/\(∀x∈xs,x.good)/\holds (K xs r)
 | [],ls,K,hk=>⟨[],ls,rfl,rfl,by simp,hk⟩
 |sk :: sks,ls,K,hk=>by
  have hk0:holds (ucS A sk ls λx r=>ucSs A sks r λxs r=>K (x :: xs) r):=hk
  obtain⟨x,r,rfl,h1,hg,hk1⟩:=mz hA hk0
  obtain⟨xs,r',rfl,h2,h3,h4⟩:=ucSs_ok hA (sks:=sks) hk1
  refine⟨x :: xs,r',by simp[kg],by simp[bz,h1,h2],λc hc=>?_,h4⟩
  rcases qap.1 hc with rfl|hc
  ·exact hg
  ·exact h3 c hc
def mkV(agg:Bool)(cs:List Value)(v:Value):Prop:=(agg=true/\v = .agg ⟨cs⟩)∨(agg=false/\cs=[v])
theorem nr{x:S0}{sk:SK}(hx:x.is sk=true){v:Value}(hv:mkV (gU sk) (x.cells.map SL.val) v):x.val=v:=by
 cases sk with
 |leaf k=>
  cases x with
  |agg _=>cases hx
  |leaf l=>
   rcases hv with⟨h,_⟩|⟨_,h⟩
   ·cases h
   ·simp only[S0.cells,qat,qa8,qbh,and_true]at h
    exact h
 |agg ks=>
  cases x with
  |leaf _=>cases hx
  |agg cs=>
   rcases hv with⟨_,h⟩|⟨h,_⟩
   ·exact h.symm
   ·cases h
theorem eqB_eq{a b:Bool}(h:eqB a b=true):a=b:=by cases a<;>cases b<;>first|rfl|cases h
theorem lJ{agg:Bool}{cs:List SL}{x:S0}(hx:mkS0 agg cs=some x):x.cells=cs/\mkV agg (cs.map SL.val) x.val:=by
 unfold mkS0 at hx
 split at hx
 ·cases hx;exact⟨rfl,.inl ⟨rfl,rfl⟩⟩
 ·cases hx;exact⟨rfl,.inr ⟨rfl,rfl⟩⟩
 ·cases hx
theorem cq{P:Program}{t:TypeId}{agg:Bool}(hag:aggT P t=some agg){vs cs:List Value}{off:Nat}(hc:cut vs off (if agg then P.cellsOf t else 1)=some cs) :
  ∃v,cN P t vs off=some v/\mkV agg cs v:=by
 unfold aggT at hag
 unfold cN
 split at hag
 ·rename_i fs e
  cases hag
  rw[e]
  simp only[if_true]at hc
  exact⟨.agg ⟨cs⟩,by simp[hc],.inl ⟨rfl,rfl⟩⟩
 ·rename_i fs e
  cases hag
  rw[e]
  simp only[if_true]at hc
  exact⟨.agg ⟨cs⟩,by simp[hc],.inl ⟨rfl,rfl⟩⟩
 ·rename_i d h1 h2 e
  cases hag
  rw[e]
  simp only[qaq,if_false]at hc
  unfold cut at hc
  split at hc
  ·rename_i hle
   cases hc
   have hlt:off<vs.length:=by omega
   have hcs:(vs.drop off).take 1=[vs[off]]:=by
    rw[qby hlt];rfl
   refine⟨vs[off],?_,.inr ⟨rfl,hcs⟩⟩
   simp[hlt]
  ·cases hc
 ·cases hag
theorem jq(hA:AlgOk A X.C Sg X.T holds abs){dst:Option Tmp}{sk:SK}{cs:List Value}{v:Value}(hv:mkV (gU sk) cs v)(hk:holds (setC A dst sk cs ev h K)) :
  ∃x:S0,x.val=v/\x.good/\holds (setD dst (.st x) ev h K):=by
 obtain⟨x,r,h1,h2,h3,hk1⟩:=mz hA hk
 obtain⟨hr,hk2⟩:=hA.uc0 _ _ hk1
 rw[hr,qaI]at h1
 subst h1
 exact⟨x,nr h2 hv,h3,hk2⟩
theorem kW{cs ds:List SL}{off n:Nat}(hc:cutS cs off n=some ds):cut (cs.map SL.val) off n=some (ds.map SL.val)/\(∀d∈ds,d∈cs):=by
 unfold cutS at hc
 unfold cut
 split at hc
 ·rename_i hle
  cases hc
  rw[if_pos (by simpa using hle)]
  exact⟨by simp[qb9,qb8],λd hd=>qbD (qbw hd)⟩
 ·cases hc
theorem iB(hR:Rp ev σ){s:Nat}{cs:List SL}(hr:pn ev s=some cs):σ.loc[s]? = some (some (cs.map SL.val))/\(∀c∈cs,c.good)/\ev.lc[s]? = some (.row cs):=by
 unfold pn at hr
 split at hr
 ·rename_i ds e
  cases hr
  rw[List.getD_eq_getElem?_getD]at e
  cases he:ev.lc[s]? with
  |none=>rw[he]at e;cases e
  |some r=>
   rw[he]at e
   simp only[qbi]at e
   subst e
   have:=hR.row s _ he
   exact⟨this.1,this.2,rfl⟩
 ·cases hr
theorem tM{cs:List SL}{base:Nat}{ix:List (Int×Nat)}{n:Nat}{ls:List Lf}(hp:eh (cs.map SL.lf) base ix n=some ls) :
  ∃ds,cutS cs (offX base ix) n=some ds/\ls=ds.map SL.lf:=by
 rw[pickL_eq]at hp
 split at hp
 ·rename_i hle
  cases hp
  refine⟨_,by unfold cutS;rw[if_pos (by simpa using hle)],by simp[qb9,qb8]⟩
 ·cases hp
theorem offX_le:∀(ix:List (Int×Nat)) (base:Nat),base<=offX base ix
 | [],base=>qal _
 |p :: l,base=>qbP (Nat.le_add_right _ _) (offX_le l _)
theorem jV{cs ds:List SL}{ks:List LK}:∀ {ix:List (Int×Nat)} {base:Nat},pR cs ks base ix=true->cutS cs (offX base ix) ks.length=some ds->aJ ds ks=true
 | [],base,h1,h2=>by
  simp only[pR,offX]at h1 h2
  rw[h2]at h1
  exact h1
 |p :: l,base,h1,h2=>by
  simp only[pR,qaa,qac,qbF,offX]at h1 h2
  obtain⟨h0,h1⟩:=h1
  refine jV (ix:=l) (h1 p.1.toNat ?_) h2
  have hp:p.2≠0:=λe=>by rw[e]at h0;cases h0
  have hle:offX (base+p.1.toNat*p.2) l<=cs.length:=by
   unfold cutS at h2
   split at h2
   ·omega
   ·cases h2
  have:=offX_le l (base+p.1.toNat*p.2)
  have h3:p.1.toNat<=p.1.toNat*p.2:=Nat.le_mul_of_pos_right _ (Nat.pos_of_ne_zero hp)
  simp only[qak]
  omega
theorem is_skKs{x:S0}{sk:SK}(hx:x.is sk=true):aJ x.cells (skKs sk)=true:=by
 cases sk with
 |leaf k=>
  cases x with
  |agg _=>cases hx
  |leaf l=>simp[S0.cells,skKs,aJ];exact hx
 |agg ks=>
  cases x with
  |leaf _=>cases hx
  |agg cs=>exact hx
theorem setL_ok(hA:AlgOk A X.C Sg X.T holds abs){dst:Option Tmp}{sk:SK}{ds:List SL}{v:Value}(hd:aJ ds (skKs sk)=true)(hg:∀c∈ds,c.good)(hv:mkV (gU sk) (ds.map SL.val) v)
  (hk:holds (setL A dst sk (ds.map SL.lf) ev h K)):∃x:S0,x.val=v/\x.good/\holds (setD dst (.st x) ev h K):=by
 obtain⟨x,r,e1,e2,hk1⟩:=unS_ok hA hk
 obtain⟨hr0,hk2⟩:=hA.un0 _ _ hk1
 rw[hr0,qaI]at e1
 obtain⟨h1,h2⟩:=fl hd (is_skKs e2) e1
 rw[h1]at hv
 exact⟨x,nr e2 hv,h2 hg,hk2⟩
theorem is_lk(c:SL):c.is c.lk=true:=by cases c<;>first|rfl|exact dd _
theorem jW:∀cs:List SL,aJ cs (cs.map SL.lk)=true
 | []=>rfl
 |c :: cs=>by simp[aJ,is_lk,jW cs]
theorem fk:∀ {a b:List SL} {ka kb:List LK},aJ a ka=true->aJ b kb=true->aJ (a++b) (ka++kb)=true
 | [],b,[],kb,_,h=>h
 |a :: as0,b,k :: ka,kb,h1,h2=>by
  simp only[aJ,qaa,qbV]at h1 ⊢
  exact⟨h1.1,fk h1.2 h2⟩
 | [],_,_ :: _,_,h,_=>by cases h
 |_ :: _,_,[],_,h,_=>by cases h
end
end Go.Am

/-
 OPERATIONS,third part: loads,stores,addresses.
-/
namespace Go.Am
section
variable [Val] [Kno] {R HT:Type} {A:Alg R HT} {X:Ctxt} {Sg:FuncId->Option Sig} {holds:R->Prop} {abs:HT->List HObj}
variable {ev:Env} {σ:St} {h:HT} {o:Oper} {K:KN R HT}
theorem pZ(H:List HObj)(id:Nat):fq (λi=>H[i]?) id=dP H id:=rfl
theorem ldP_ok{n:Nat}{p:Value}{g:bU}{cs:List Value}(h:ldP n p g=some cs):∃id off vs,p = .pointer (some ⟨id,off,none⟩)/\fq g id=some vs/\cut vs off n=some cs:=by
 unfold ldP at h
 split at h
 ·rename_i a
  split at h
  ·rename_i hs
   obtain⟨vs,h1,h2⟩:=qam.1 h
   obtain⟨b,f,sp⟩:=a
   simp only at hs
   subst hs
   exact⟨b,f,vs,rfl,h1,h2⟩
  ·cases h
 ·cases h
theorem lgP_ok{C:Cfg}{n:Nat}{p:Value}{g:bU}{cs:List Value}(h:lgP C n p g=some cs):(∃id off vs,p = .pointer (some ⟨id,off,none⟩)/\fq g id=some vs/\cut vs off n=some cs)∨∃id off vs,p = .pointer (some ⟨id,off,some 1⟩)/\C.G id=some vs/\cut vs off n=some cs:=by
 unfold lgP at h
 split at h
 ·rename_i a
  split at h
  ·rename_i hs
   obtain⟨vs,h1,h2⟩:=qam.1 h
   obtain⟨b,f,sp⟩:=a
   simp only at hs
   subst hs
   exact .inl ⟨b,f,vs,rfl,h1,h2⟩
  ·rename_i k hs
   split at h
   ·rename_i hb
    obtain⟨vs,h1,h2⟩:=qam.1 h
    obtain⟨b,f,sp⟩:=a
    simp only at hs
    subst hs
    rw[qaf hb]
    exact .inr ⟨b,f,vs,rfl,h1,h2⟩
   ·cases h
 ·cases h
theorem load_ok(hA:AlgOk A X.C Sg X.T holds abs)(hR:Rp ev σ)(ha:abs h=σ.heap){t:TypeId}{a:Operand}{sk:SK}{agg:Bool}(ho:o.op = .load t a)(hag:aggT X.C.P t=some agg)
  (hsk:agg=gU sk) (hk:holds (loadE A X o.dst sk agg (if agg then X.C.P.cellsOf t else 1) a ev h K)):Done X holds abs o σ K:=by
 have heff:ai X.C X.pts (oval σ.tmps) o=de X.C X.pts t a (oval σ.tmps a):=by simp only[ai,ho]
 unfold loadE at hk
 split at hk
 ·rename_i p hkey he
  obtain⟨h1,_⟩:=hR.sval he (by simp)
  obtain⟨cs,h2,hk1⟩:=hA.peek _ _ _ hk
  simp only[Pk.run]at h2
  rw[ha]at h2
  rcases lgP_ok h2 with⟨id,off,vs,rfl,h3,h4⟩|⟨id,off,vs,rfl,h3,h4⟩
  ·rw[pZ]at h3
   obtain⟨v,h5,h6⟩:=cq hag h4
   rw[hsk]at h6
   obtain⟨x,rfl,h7,hk2⟩:=jq hA h6 hk1
   refine fz hR ha (s:=.st x) h7 (f:=λH=>(dP H id).bind λvs=>cN X.C.P t vs off) ?_ ?_ hk2
   ·rw[heff,de,hkey,h1];rfl
   ·simp only[h3,qai,h5];rfl
  ·obtain⟨v,h5,h6⟩:=cq hag h4
   rw[hsk]at h6
   obtain⟨x,rfl,h7,hk2⟩:=jq hA h6 hk1
   refine fz hR ha (s:=.st x) h7 (f:=λ_=>(X.C.G id).bind λvs=>cN X.C.P t vs off) ?_ ?_ hk2
   ·rw[heff,de,hkey,h1];rfl
   ·simp only[h3,qai,h5];rfl
 ·rename_i g off hkey he
  obtain⟨h1,_⟩:=hR.sval he (by simp)
  split at hk
  ·rename_i vs hg
   split at hk
   ·rename_i cs hc
    obtain⟨v,h5,h6⟩:=cq hag hc
    have hval:ai X.C X.pts (oval σ.tmps) o=some (.val v):=by
     rw[heff,de,hkey,h1]
     simp only[SV.val,eQ,if_true,qai,hg,h5,qaw]
    split at hk
    ·rename_i x hsc hm
     obtain⟨hm1,hm2⟩:=lJ hm
     have hcs:(cs.map slOf).map SL.val=cs:=by
      rw[qcl]
      have:(SL.val ∘ slOf)=id:=funext pz
      rw[this,List.map_id]
     rw[hcs]at hm2
     have hv:x.val=v:=by
      rcases hm2 with⟨a1,a2⟩|⟨a1,a2⟩<;>rcases h6 with⟨b1,b2⟩|⟨b1,b2⟩
      ·rw[a2,b2]
      ·rw[a1]at b1;cases b1
      ·rw[a1]at b1;cases b1
      ·rw[a2]at b2;simpa using b2
     subst hv
     refine ao hR ha (s:=.st x) (λl hl=>?_) hval hk
     rw[hm1]at hl
     obtain⟨c,hc1,rfl⟩:=qaK.1 hl
     exact mm (qac.1 hsc c hc1)
    ·rw[hsk]at h6
     obtain⟨x,rfl,h7,hk⟩:=jq hA h6 hk
     exact ao hR ha (s:=.st x) h7 hval hk
   ·exact absurd hk hA.fail
  ·exact absurd hk hA.fail
 ·rename_i g base ix hkey he
  obtain⟨h1,_⟩:=hR.sval he (by simp)
  split at hk
  ·rename_i vs hg
   obtain⟨cs,hc,hk⟩:=hA.opt _ _ hk
   obtain⟨v,h5,h6⟩:=cq hag (vs:=vs) (off:=offX base ix) ((pickV_eq _ _ _ _).symm.trans hc)
   have hval:ai X.C X.pts (oval σ.tmps) o=some (.val v):=by
    rw[heff,de,hkey,h1]
    simp only[SV.val,eQ,if_true,qai,hg,h5,qaw]
   rw[hsk]at h6
   obtain⟨x,rfl,h7,hk⟩:=jq hA h6 hk
   exact ao hR ha (s:=.st x) h7 hval hk
  ·exact absurd hk hA.fail
 ·rename_i p hkey he
  obtain⟨h1,_⟩:=hR.sval he (by simp)
  obtain⟨cs,hc,hk1⟩:=hA.opt _ _ hk
  unfold ldGv at hc
  split at hc
  ·rename_i ad
   split at hc
   ·rename_i hsp
    obtain⟨vs,hg,hc⟩:=qam.1 hc
    obtain⟨v,h5,h6⟩:=cq hag hc
    have hval:ai X.C X.pts (oval σ.tmps) o=some (.val v):=by
     rw[heff,de,hkey,h1]
     simp only[SV.val,S0.val,SL.val,eQ,hsp,if_true,qai,hg,h5,qaw]
    rw[hsk]at h6
    obtain⟨x,rfl,h7,hk2⟩:=jq hA h6 hk1
    exact ao hR ha (s:=.st x) h7 hval hk2
   ·cases hc
  ·cases hc
 ·rename_i s s' off hkey he
  obtain⟨h1,_⟩:=hR.sval he (by simp)
  split at hk
  ·rename_i x hs hx
   have hs:s=s':=by simpa using hs
   subst hs
   obtain⟨cs,hr,hx⟩:=qam.1 hx
   obtain⟨ds,hd,hx⟩:=qam.1 hx
   obtain⟨r1,r2,_⟩:=iB hR hr
   obtain⟨c1,c2⟩:=kW hd
   obtain⟨v,h5,h6⟩:=cq hag c1
   obtain⟨hm1,hm2⟩:=lJ hx
   have hv:x.val=v:=by
    rcases hm2 with⟨a1,a2⟩|⟨a1,a2⟩<;>rcases h6 with⟨b1,b2⟩|⟨b1,b2⟩
    ·rw[a2,b2]
    ·rw[a1]at b1;cases b1
    ·rw[a1]at b1;cases b1
    ·rw[a2]at b2;simpa using b2
   subst hv
   refine cS hR σ.heap ha (s:=.st x) (λl hl=>?_) (.inl ⟨.lget s λvs=>cN X.C.P t vs off,?_,(σ,x.val),?_,rfl⟩) hk
   ·rw[hm1]at hl;exact r2 l (c2 l hl)
   ·rw[heff,de,hkey,h1]
    simp[SV.val,gC]
   ·simp[aG,r1,h5]
  ·exact absurd hk hA.fail
 ·rename_i s s' base ix hkey he
  obtain⟨h1,_⟩:=hR.sval he (by simp)
  split at hk
  ·rename_i cs hs hr
   have hs:s=s':=by simpa using hs
   subst hs
   split at hk
   ·rename_i hat
    simp only[qaa]at hat
    obtain⟨hat,hn⟩:=hat
    have hn:=qaf hn
    obtain⟨ls,hp,hk1⟩:=hA.opt _ _ hk
    obtain⟨ds,hd,rfl⟩:=tM hp
    obtain⟨r1,r2,_⟩:=iB hR hr
    obtain⟨c1,c2⟩:=kW hd
    obtain⟨v,h5,h6⟩:=cq hag c1
    rw[hsk]at h6
    rw[hn]at hd
    obtain⟨x,rfl,h7,hk2⟩:=setL_ok hA (jV hat hd) (λc hc=>r2 c (c2 c hc)) h6 hk1
    refine cS hR σ.heap ha (s:=.st x) h7 (.inl ⟨.lget s λvs=>cN X.C.P t vs (offX base ix),?_,(σ,x.val),?_,rfl⟩) hk2
    ·rw[heff,de,hkey,h1]
     simp[SV.val,gC]
    ·simp[aG,r1,h5]
   ·exact absurd hk hA.fail
  ·exact absurd hk hA.fail
 ·exact absurd hk hA.fail
theorem nP{cs r new:List SL}{off:Nat}(hs:fV cs off new=some r):splice (cs.map SL.val) off (new.map SL.val)=some (r.map SL.val)/\r.length=cs.length/\((∀c∈cs,c.good)->(∀c∈new,c.good)->∀c∈r,c.good):=by
 unfold fV at hs
 unfold splice
 split at hs
 ·rename_i hle
  cases hs
  rw[if_pos (by simpa using hle)]
  refine⟨by simp[qb8,qb9],by simp;omega,λh1 h2 c hc=>?_⟩
  simp only[qaQ]at hc
  rcases hc with(hc|hc)|hc
  ·exact h1 c (qbw hc)
  ·exact h2 c hc
  ·exact h1 c (qbD hc)
 ·cases hs
theorem sF{P:Program}{t:TypeId}{x:S0}(hx:x.good)(hlen:x.cells.length=P.cellsOf t)(hi:(P.info? t).isSome=true)(vs:List Value)(off:Nat) :
  dD P t x.val vs off=splice vs off (x.cells.map SL.val):=by
 unfold dD
 have h1:=S0.cells_val hx
 rw[if_pos ⟨by rw[h1];simpa using hlen,hi⟩,if_pos (S0.cells_ok hx),h1]
theorem ow(hR:Rp ev σ)(ha:abs h=σ.heap){s:Nat}{cs:List SL}{f:List Value->Option (List Value)}{vs:List Value}(he:ai X.C X.pts (oval σ.tmps) o=some (.lset s f))(hloc:σ.loc[s]? = some (some vs))
  (hf:f vs=some (cs.map SL.val)) (hlen:(cs.map SL.val).length=vs.length) (hg:∀c∈cs,c.good) (hrow:gP X.pts o=some s)
  (hk:holds (setD o.dst .un ⟨ev.tm,ev.lc.set s (.row cs)⟩ h K)):Done X holds abs o σ K:=by
 let σ₁:St:={ σ with loc:=σ.loc.set s (some (cs.map SL.val)) }
 have hlt:s<σ.loc.length:=(qaM.1 hloc).1
 have hR1:Rp ⟨ev.tm,ev.lc.set s (.row cs)⟩ σ₁:=by
  refine⟨hR.len,hR.val,by simp[σ₁,hR.llen],λi r hr=>?_⟩
  simp only[qaS]at hr
  split at hr
  ·rename_i hi
   subst hi
   split at hr
   ·cases hr
    exact⟨by simp only[σ₁];rw[qaD hlt],hg⟩
   ·cases hr
  ·rename_i hi
   have:=hR.row i r hr
   have hne:σ₁.loc[i]? = σ.loc[i]?:=by simp only[σ₁];rw[qaj hi]
   cases r<;>first|trivial|(simp only[LR.ok]at this ⊢;rw[hne];exact this)
 obtain⟨ev',h1,h2⟩:=ss (dst:=o.dst) hR1 (s:=.un) trivial hk
 refine⟨σ₁.put o.dst undef,ev',h,.inl ⟨_,he,(σ₁,undef),by simp[aG,hloc,hf,σ₁],rfl⟩,h1,?_,?_,h2⟩
 ·rw[ha];cases o.dst<;>rfl
 ·have hf:=Fr.put (σ:=σ₁) o.dst undef (qT X.pts o).toList (gP X.pts o).toList
  have h0:Fr o.dst.toList (qT X.pts o).toList (gP X.pts o).toList σ σ₁:=by
   refine⟨rfl,by simp[σ₁],λ_ _ h _ _=>h,λ_ _ _ h _ _=>h,λi y hs hn=>?_,λi ws hs hn=>?_⟩
   ·rw[hrow]at hn
    simp only[Option.toList_some,qay]at hn
    simp only[σ₁]
    rw[qaj (λe=>hn e.symm)];exact hs
   ·by_cases hi:i=s
    ·subst hi
     rw[hloc]at hs
     cases hs
     exact⟨_,by simp only[σ₁];rw[qaD hlt],hlen⟩
    ·exact⟨ws,by simp only[σ₁];rw[qaj (λe=>hi e.symm)];exact hs,rfl⟩
  exact h0.trans hf
theorem stP_ok{p:Value}{new:List Value}{g:bU}{n:Nat}{acts:List Act1}{cs:List Value}(h:stP p new g n=some (acts,cs)) :
  ∃id off vs vs' e,p = .pointer (some ⟨id,off,none⟩)/\g id=some (.cells vs e true)/\splice vs off new=some vs'/\acts=[.set id (.cells vs' e true)]:=by
 unfold stP at h
 split at h
 ·rename_i a
  split at h
  ·rename_i hs
   split at h
   ·rename_i vs e hg
    obtain⟨vs',h1,h2⟩:=qae.1 h
    obtain⟨b,f,sp⟩:=a
    simp only at hs
    subst hs
    cases h2
    exact⟨b,f,vs,vs',e,rfl,hg,h1,rfl⟩
   ·cases h
  ·cases h
 ·cases h
theorem store_ok(hA:AlgOk A X.C Sg X.T holds abs)(hR:Rp ev σ)(ha:abs h=σ.heap){t:TypeId}{a y:Operand}{x:S0}(ho:o.op = .store t a y)(hy:sval ev y = .st x)
  (hk:holds (storeE A X o.dst t a x ev h K)):Done X holds abs o σ K:=by
 obtain⟨hy1,hx⟩:=hR.sval hy (by simp)
 have hx:x.good:=hx
 have heff:ai X.C X.pts (oval σ.tmps) o=dB X.C X.pts t a (oval σ.tmps a) x.val:=by simp only[ai,ho,hy1];rfl
 have hnt:=S0.not_tuple hx
 unfold storeE at hk
 split at hk
 ·exact absurd hk hA.fail
 ·rename_i hc
  simp only[qaa]at hc
  obtain⟨hlen,hi⟩:=hc
  have hlen:=qaf hlen
  have hw:=sF (P:=X.C.P) (t:=t) hx hlen hi
  split at hk
  ·rename_i p hkey he
   obtain⟨h1,_⟩:=hR.sval he (by simp)
   obtain⟨acts,cs,h',h2,h3,hk1⟩:=hA.heap _ _ _ hk
   simp only[Hp.run]at h2
   rw[ha]at h2 h3
   obtain⟨id,off,vs,vs',e,rfl,g1,g2,rfl⟩:=stP_ok h2
   refine cF (s:=.un) hR (H':=σ.heap.set id (.cells vs' e true)) h3 trivial (f:=gM X.C t id off x.val) ?_ ?_ hk1
   ·rw[heff,dB,hnt,hkey,h1];rfl
   ·simp only[gM,g1,hw,g2,qaw];rfl
  ·rename_i s s' off hkey he
   obtain⟨h1,_⟩:=hR.sval he (by simp)
   have hrow:gP X.pts o=some s:=by simp only[gP,ho,hkey]
   split at hk
   ·rename_i cs hs hst
    have hs:s=s':=by simpa using hs
    subst hs
    rw[setK_eq]at hk
    have heff2:ai X.C X.pts (oval σ.tmps) o=some (.lset s λvs=>dD X.C.P t x.val vs off):=by
     rw[heff,dB,hnt,hkey,h1]
     simp[SV.val,gC]
    have hrow0:ev.lc[s]? = some (ev.lc.getD s .unk)∨ev.lc.getD s .unk = .unk:=by
     rw[List.getD_eq_getElem?_getD]
     cases ev.lc[s]?<;>simp
    unfold storeR at hst
    split at hst
    ·rename_i cs0 hl
     obtain⟨q1,q2,q3⟩:=nP hst
     have hlc:ev.lc[s]? = some (.row cs0):=by rcases hrow0 with h|h<;>rw[hl]at h<;>first|exact h|cases h
     have hr:=hR.row s _ hlc
     exact ow hR ha heff2 hr.1 (by rw[hw];exact q1) (by simp[q2]) (q3 hr.2 hx) hrow hk
    ·rename_i n hl
     split at hst
     ·rename_i hz
      cases hst
      simp only[qaa]at hz
      have hz1:=qaf hz.1
      have hz2:=qaf hz.2
      have hlc:ev.lc[s]? = some (.any n):=by rcases hrow0 with h|h<;>rw[hl]at h<;>first|exact h|cases h
      obtain⟨vs,hv1,hv2⟩:=hR.row s _ hlc
      refine ow hR ha heff2 hv1 ?_ (by rw[hv2,hz2];simp) hx hrow hk
      rw[hw,hz1,splice,if_pos (by simp;omega)]
      simp[show vs.length<=x.cells.length by omega]
     ·cases hst
    ·cases hst
   ·exact absurd hk hA.fail
  ·rename_i s s' base ix hkey he
   obtain⟨h1,_⟩:=hR.sval he (by simp)
   have hrow:gP X.pts o=some s:=by simp only[gP,ho,hkey]
   split at hk
   ·rename_i cs hs hr
    have hs:s=s':=by simpa using hs
    subst hs
    split at hk
    ·exact absurd hk hA.fail
    ·rename_i hat
     obtain⟨ls,hp,hk1⟩:=hA.opt _ _ hk
     obtain⟨cs',r,e1,e2,hk2⟩:=nS hA hk1
     obtain⟨hr0,hk3⟩:=hA.un0 _ _ hk2
     rw[hr0,qaI]at e1
     rw[setK_eq]at hk3
     obtain⟨r1,r2,_⟩:=iB hR hr
     have heff2:ai X.C X.pts (oval σ.tmps) o=some (.lset s λvs=>dD X.C.P t x.val vs (offX base ix)):=by
      rw[heff,dB,hnt,hkey,h1]
      simp[SV.val,gC]
     rw[putL_eq]at hp
     split at hp
     ·rename_i hle
      simp only[qa0]at hle
      let off:=offX base ix
      have hmid:cutS cs off x.cells.length=some ((cs.drop off).take x.cells.length):=by unfold cutS;rw[if_pos hle]
      have hk0:aJ ((cs.drop off).take x.cells.length) (x.cells.map SL.lk)=true:=jV hat (by rw[qa0];exact hmid)
      let new:=cs.take off++x.cells++cs.drop (off+x.cells.length)
      have hsp:fV cs off x.cells=some new:=by unfold fV;rw[if_pos hle]
      obtain⟨q1,q2,q3⟩:=nP hsp
      have hkinds:aJ new (cs.map SL.lk)=true:=by
       have hsplit:cs=cs.take off++(cs.drop off).take x.cells.length++cs.drop (off+x.cells.length):=by
        rw[qaA,←qbB,qbq,qbq]
       have hlk:∀ {a b:List SL},aJ a (b.map SL.lk)=true->a.map SL.lk=b.map SL.lk:=by
        intro a b hab
        induction a generalizing b with
        |nil=>cases b with
         |nil=>rfl
         |cons _ _=>cases hab
        |cons a as0 ih=>cases b with
         |nil=>cases hab
         |cons b bs=>
          simp only[qat,aJ,qaa]at hab
          simp only[qat,ih hab.2]
          have:a.lk=b.lk:=by
           have h0:=hab.1
           cases a<;>cases b<;>first|rfl|(simp[SL.is,SL.lk]at h0;done)|(simp only[SL.is,SL.lk]at h0 ⊢;rw[cT h0])
          rw[this]
       have hm:cs.map SL.lk=(cs.take off).map SL.lk++x.cells.map SL.lk++(cs.drop (off+x.cells.length)).map SL.lk:=by
        conv=>lhs;rw[hsplit]
        simp only[qbH]
        rw[hlk hk0]
       rw[hm]
       exact fk (fk (jW _) (jW _)) (jW _)
      have hlf:new.map SL.lf=cs'.map SL.lf:=by
       rw[←e1]
       cases hp
       simp[new,off,qb8,qb9]
      obtain⟨v1,v2⟩:=fl hkinds e2 hlf
      refine ow hR ha heff2 r1 (by rw[hw,←v1];exact q1) (by rw[←v1];simp[q2]) (v2 (q3 r2 hx)) hrow hk3
     ·cases hp
   ·exact absurd hk hA.fail
  ·exact absurd hk hA.fail
end
end Go.Am

end

/-
  PART 3 OF THE PROOF: Gf Am7 Am8 Am8b Am8c Sx5 Ht1 Sx4 Sx5d Sx6 Sx6b Sx6c (no conditions).
-/
import Derived.Test.YtaahgdggnndaoaaGreatDoorPM2
import Derived.IntWalk
set_option linter.unusedSectionVars false
set_option linter.unusedSimpArgs false
set_option linter.unusedVariables false
set_option linter.constructorNameAsVariable false
set_option linter.defProp false
noncomputable section
/-
 WHAT EACH FUNCTION DOES,BY PROGRAM.
-/
set_option maxRecDepth 100000
namespace Go.Am
section
variable {R HT:Type} (A:Alg R HT)
/-- crimp/crimplaw10.PlacesMoved -/
def f3(ls:List Lf)(h:HT)(K:List Lf->HT->R):R:=A.unI ls (λn6 a4=>A.unI a4 (λn8 a5=>A.unV a5 (λa6 a7=>A.unV a7 (λa8 a9=>A.unI a9 (λn14 b0=>A.unI b0 (λn16 b1=>A.unI b1 (λn18 b2=>A.unI b2 (λn20 b3=>A.unI b3 (λn22 b4=>A.unI b4 (λn24 b5=>A.un0 b5 ( A.call 4 [(.i n6),(.i n8),(.v a6),(.v a8)] h (λb6 b7=>A.unI b6 (λn28 b8=>A.unI b8 (λn30 b9=>A.unV b9 (λa2 c0=>A.un0 c0 ( A.call 5 [(.i n28),(.i n30),(.v a2)] b7 (λc1 d0=>A.unI c1 (λn36 d1=>A.unI d1 (λn38 d2=>A.unV d2 (λd3 d4=>A.unI d4 (λn42 d5=>A.un0 d5 ( A.call 7 [(.i n14),(.i n16),(.i n18)] d0 (λd6 d7=>A.unI d6 (λn46 d8=>A.unI d8 (λn48 d9=>A.unI d9 (λn50 e0=>A.un0 e0 ( A.call 7 [(.i n20),(.i n22),(.i n24)] d7 (λe1 e2=>A.unI e1 (λn54 f0=>A.unI f0 (λn56 f1=>A.unI f1 (λn58 f2=>A.un0 f2 ( A.call 6 [(.i n46),(.i n48),(.i n50),(.i n54),(.i n56),(.i n58)] e2 (λgl g0=>A.unI gl (λn62 g1=>A.unI g1 (λn64 g2=>A.unI g2 (λn66 g3=>A.unI g3 (λn68 g4=>A.un0 g4 ( A.call 7 [(.i n14),(.i n16),(.i n18)] g0 (λg5 g6=>A.unI g5 (λn72 g7=>A.unI g7 (λn74 g8=>A.unI g8 (λn76 g9=>A.un0 g9 ( A.call 8 [(.i n28),(.i n30),(.v a2),(.i n72),(.i n74),(.i n76)] g6 (λh0 h1=>A.unV h0 (λa0 h2=>A.unI h2 (λn82 h3=>A.un0 h3 ( A.call 8 [(.i n36),(.i n38),(.v d3),(.i n62),(.i n64),(.i n66)] h1 (λh4 J=>A.unV h4 (λa3 h5=>A.unI h5 (λn88 h6=>A.un0 h6 ( A.cmp .neq n42 0 (λh7=>A.cond h7 ( K [(.b false)] J) ( A.cmp .neq n68 0 (λh8=>A.cond h8 ( K [(.b false)] J) ( A.cmp .neq n82 0 (λh9=>A.cond h9 ( K [(.b false)] J) ( A.cmp .neq n88 0 (λi0=>A.cond i0 ( K [(.b false)] J) ( A.opt (lenS a0) (λi1=>A.opt (lenS a3) (λi2=>A.cmp .neq i1 i2 (λj0=>A.cond j0 ( K [(.b false)] J) ( A.loop (λj1 j2 a1=>A.unI j2 (λn100 j3=>A.un0 j3 ( A.opt (lenS a0) (λj4=>A.cmp .lss n100 j4 (λj5=>A.cond j5 ( A.opt (idS 3 a0 n100) (λj6=>A.peek (.lg cc 3 j6) a1 (λj7=>A.ucI .u8 j7 (λn106 j8=>A.ucI .i64 j8 (λn108 j9=>A.ucI .i64 j9 (λn110 k0=>A.uc0 k0 ( A.call 7 [(.i n20),(.i n22),(.i n24)] a1 (λk1 k2=>A.unI k1 (λk3 k4=>A.unI k4 (λk5 k6=>A.unI k6 (λk7 k8=>A.un0 k8 ( A.call 6 [(.i n106),(.i n108),(.i n110),(.i k3),(.i k5),(.i k7)] k2 (λk9 O=>A.unI k9 (λn122 l0=>A.unI l0 (λn124 l1=>A.unI l1 (λn126 l2=>A.unI l2 (λn128 l3=>A.un0 l3 ( A.cmp .neq n128 0 (λl4=>A.cond l4 ( K [(.b false)] O) ( A.opt (idS 3 a3 n100) (λl5=>A.peek (.lg cc 3 l5) O (λl6=>A.ucI .u8 l6 (λl7 l8=>A.ucI .i64 l8 (λl9 m0=>A.ucI .i64 m0 (λm1 m2=>A.uc0 m2 ( A.eqs [((.i l7),(.i n122)),((.i l9),(.i n124)),((.i m1),(.i n126))] (λm3=>A.cond (!m3) ( K [(.b false)] O) ( A.ari .add .i64 n100 1 (λm4=>j1 [(.i m4)] O))))))))))))))))))))))))))))) ( A.call 9 [] a1 (λm5 m6=>A.unB m5 (λm7 m8=>A.un0 m8 ( K [(.b m7)] m6))))))))) [(.i 0)] J)))))))))))))))))))))))))))))))))))))))))))))))))))))))))))))))
/-- (crimp/crimplaw10.F).Of -/
def f4(ls:List Lf)(h:HT)(K:List Lf->HT->R):R:=A.unI ls (λn6 b4=>A.unI b4 (λn8 b5=>A.unV b5 (λJ b6=>A.unV b6 (λa4 b7=>A.un0 b7 ( A.ari .rem .u8 n6 4 (λn14=>A.conv .i64 n14 (λn15=>A.ari .add .i64 1 n15 (λn16=>A.ari .rem .u8 n8 4 (λn17=>A.conv .i64 n17 (λn18=>A.ari .add .i64 1 n18 (λn19=>A.call 10 [(.i n16),(.i n19)] h (λb8 b9=>A.unV b8 (λc0 c1=>A.unV c1 (λd0 d1=>A.un0 d1 ( A.join (λd2 d3=>A.unV d2 (λd4 d5=>A.un0 d5 ( A.call 13 [(.i n16),(.i n19),(.v d4)] d3 (λd6 d7=>A.unI d6 (λn32 d8=>A.unI d8 (λn34 d9=>A.unV d9 (λx36 e0=>A.un0 e0 ( A.join (λe1 e2=>A.un0 e1 ( K [(.i n32),(.i n34),(.v x36)] e2)) (λa5=>A.loop (λf0 f1 a0=>A.unI f1 (λn44 f2=>A.un0 f2 ( A.opt (lenS a4) (λgl=>A.cmp .lss n44 gl (λg0=>A.cond g0 ( A.opt (lenS x36) (λg1=>A.cmp .gtr g1 0 (λg2=>A.cond g2 ( A.opt (idS 1 a4 n44) (λg3=>A.peek (.lg cc 1 g3) a0 (λg4=>A.ucI .u8 g4 (λn52 g5=>A.uc0 g5 ( A.conv .i64 n52 (λn54=>A.opt (lenS x36) (λg6=>A.ari .rem .i64 n54 g6 (λn56=>A.opt (idS 3 x36 n56) (λg7=>A.opt (fdP 2 g7) (λa6=>A.chk a6 ( A.heap (.st a6 [(.int .u8 3)]) a0 (λl4 g8=>A.ari .add .i64 n44 1 (λn61=>f0 [(.i n61)] g8))))))))))))) ( a5 [] a0)))) ( a5 [] a0)))))) [(.i 0)] d7))))))))) (λa7=>A.loop (λg9 h0 O=>A.unV h0 (λh1 h2=>A.unV h2 (λa1 h3=>A.unI h3 (λn70 h4=>A.un0 h4 ( A.opt (lenS J) (λh5=>A.cmp .lss n70 h5 (λh6=>A.cond h6 ( A.cmp .lss n70 6 (λh7=>A.cond h7 ( A.opt (idS 4 J n70) (λh8=>A.opt (fdP 2 h8) (λa8=>A.chk a8 ( A.peek (.lg cc 1 a8) O (λh9=>A.ucB h9 (λi0 i1=>A.uc0 i1 ( A.join (λi2 a2=>A.unI i2 (λn82 j0=>A.un0 j0 ( A.opt (idS 4 J n70) (λj1=>A.opt (fdP 3 j1) (λa9=>A.chk a9 ( A.peek (.lg cc 1 a9) a2 (λj2=>A.ucB j2 (λj3 j4=>A.uc0 j4 ( A.join (λj5 a3=>A.unI j5 (λn91 j6=>A.un0 j6 ( A.opt (idS 4 J n70) (λj7=>A.opt (fdP 0 j7) (λb0=>A.chk b0 ( A.peek (.lg cc 1 b0) a3 (λj8=>A.ucI .u8 j8 (λn96 j9=>A.uc0 j9 ( A.opt (idS 4 J n70) (λk0=>A.opt (fdP 1 k0) (λb1=>A.chk b1 ( A.peek (.lg cc 1 b1) a3 (λk1=>A.ucI .i8 k1 (λn101 k2=>A.uc0 k2 ( A.call 12 [(.i n96),(.i n101)] a3 (λk3 k4=>A.unI k3 (λn105 k5=>A.unI k5 (λn107 k6=>A.un0 k6 ( A.call 11 [(.i n16),(.i n19),(.v h1),(.v a1),(.i n105),(.i n107),(.i n82),(.i n91)] k4 (λk7 k8=>A.unV k7 (λk9 l0=>A.unV l0 (λl1 l2=>A.un0 l2 ( A.ari .add .i64 n70 1 (λl3=>g9 [(.v k9),(.v l1),(.i l3)] k8)))))))))))))))))))))))) (λb2=>A.cond j3 ( b2 [(.i 1)] a2) ( b2 [(.i 0)] a2))))))))))) (λb3=>A.cond i0 ( b3 [(.i 1)] O) ( b3 [(.i 0)] O))))))))) ( a7 [(.v a1)] O))) ( a7 [(.v a1)] O)))))))) [(.v c0),(.v d0),(.i 0)] b9))))))))))))))))
/-- crimp/patterns.Opposite -/
def f5(ls:List Lf)(h:HT)(K:List Lf->HT->R):R:=A.unI ls (λn6 a4=>A.unI a4 (λn8 a5=>A.unV a5 (λa0 a6=>A.un0 a6 ( A.call 14 [(.i n6),(.i n8),(.v a0)] h (λa7 a2=>A.unI a7 (λn14 a8=>A.un0 a8 ( A.cmp .neq n14 0 (λa9=>A.cond a9 ( A.opt (chk2 (.slice none 0 0)) (λd4=>K [(.i 0),(.i 0),(.v (.slice none 0 0)),(.i n14)] a2)) ( A.opt (lenS a0) (λJ=>A.opt (mkOk J J) (λd5=>A.new (.cells (aU [(.int .i64 0),(.int .u8 0),(.int .u8 0)] (Int.toNat J)) 3 true) a2 (λO b0=>A.heap (.fn (cpG cc 3 (.slice (some ⟨O,0,(some 13)⟩) (Int.toNat J) ((Int.toNat J)+1)) a0)) b0 (λb1 b2=>A.ucI .i64 b1 (λn24 b3=>A.uc0 b3 ( A.opt (lenS (.slice (some ⟨O,0,(some 13)⟩) (Int.toNat J) ((Int.toNat J)+1))) (λb4=>A.loop (λb5 b6 a1=>A.unI b6 (λn30 b7=>A.un0 b7 ( A.cmp .lss n30 b4 (λb8=>A.cond b8 ( A.opt (idS 3 (.slice (some ⟨O,0,(some 13)⟩) (Int.toNat J) ((Int.toNat J)+1)) n30) (λb9=>A.opt (fdP 2 b9) (λa3=>A.chk a3 ( A.peek (.lg cc 1 a3) a1 (λc0=>A.ucI .u8 c0 (λn36 c1=>A.uc0 c1 ( A.opt (inB 4 n36) (λd6=>A.opt (iU gl0 0 [(n36,1)] 1) (λd0=>A.ucI .u8 d0 (λn40 d1=>A.uc0 d1 ( A.opt (idS 3 (.slice (some ⟨O,0,(some 13)⟩) (Int.toNat J) ((Int.toNat J)+1)) n30) (λd2=>A.opt (fdP 2 d2) (λx43=>A.chk x43 ( A.heap (.st x43 [(.int .u8 n40)]) a1 (λd7 d3=>A.ari .add .i64 n30 1 (λn46=>b5 [(.i n46)] d3)))))))))))))))) ( A.opt (chk2 (.slice (some ⟨O,0,(some 13)⟩) (Int.toNat J) ((Int.toNat J)+1))) (λd8=>K [(.i n6),(.i n8),(.v (.slice (some ⟨O,0,(some 13)⟩) (Int.toNat J) ((Int.toNat J)+1))),(.i 0)] a1)))))) [(.i 0)] b2))))))))))))))))
/-- crimp/moves.Then -/
def f6(ls:List Lf)(h:HT)(K:List Lf->HT->R):R:=A.unI ls (λn6 a1=>A.unI a1 (λn8 a2=>A.unI a2 (λJ a3=>A.unI a3 (λn12 a4=>A.unI a4 (λn14 a5=>A.unI a5 (λn16 a6=>A.un0 a6 ( A.call 15 [(.i n6),(.i n8),(.i J)] h (λa7 O=>A.unI a7 (λn20 a8=>A.un0 a8 ( A.cmp .neq n20 0 (λa9=>A.cond a9 ( K [(.i 0),(.i 0),(.i 0),(.i 1)] O) ( A.call 15 [(.i n12),(.i n14),(.i n16)] O (λb0 a0=>A.unI b0 (λn25 b1=>A.un0 b1 ( A.cmp .neq n25 0 (λb2=>A.cond b2 ( K [(.i 0),(.i 0),(.i 0),(.i 1)] a0) ( A.opt (inB 8 n12) (λg8=>A.opt (iU gl1 0 [(n12,4)] 4) (λb3=>A.ucI .i64 b3 (λn30 b4=>A.ucI .i64 b4 (λn32 b5=>A.ucI .i64 b5 (λn34 b6=>A.ucI .i64 b6 (λn36 b7=>A.uc0 b7 ( A.call 16 [(.i n30),(.i n32),(.i n34),(.i n36),(.i n8),(.i J)] a0 (λb8 b9=>A.unI b8 (λn40 c0=>A.unI c0 (λn42 c1=>A.un0 c1 ( A.opt (inB 8 n6) (λg9=>A.opt (iU gl1 0 [(n6,4)] 4) (λd0=>A.ucI .i64 d0 (λn46 d1=>A.ucI .i64 d1 (λn48 d2=>A.ucI .i64 d2 (λn50 d3=>A.ucI .i64 d3 (λn52 d4=>A.uc0 d4 ( A.opt (inB 8 n12) (λh0=>A.opt (iU gl1 0 [(n12,4)] 4) (λd5=>A.ucI .i64 d5 (λn56 d6=>A.ucI .i64 d6 (λn58 d7=>A.ucI .i64 d7 (λn60 d8=>A.ucI .i64 d8 (λn62 d9=>A.uc0 d9 ( A.call 19 [(.i n46),(.i n48),(.i n50),(.i n52),(.i n56),(.i n58),(.i n60),(.i n62)] b9 (λe0 e1=>A.unI e0 (λn66 e2=>A.unI e2 (λn68 f0=>A.unI f0 (λn70 f1=>A.unI f1 (λn72 f2=>A.un0 f2 ( A.call 18 [(.i n66),(.i n68),(.i n70),(.i n72)] e1 (λgl g0=>A.unI gl (λn76 g1=>A.un0 g1 ( A.ari .add .i64 n40 n14 (λn78=>A.ari .add .i64 n42 n16 (λn79=>A.call 17 [(.i n76),(.i n78),(.i n79)] g0 (λg2 g3=>A.unI g2 (λn82 g4=>A.unI g4 (λn84 g5=>A.unI g5 (λn86 g6=>A.unI g6 (λn88 g7=>A.un0 g7 ( K [(.i n82),(.i n84),(.i n86),(.i n88)] g3)))))))))))))))))))))))))))))))))))))))))))))))))))))))))))
/-- (crimp/crimplaw02.M).Of -/
def f7(ls:List Lf)(h:HT)(K:List Lf->HT->R):R:=A.unI ls (λn6 O=>A.unI O (λn8 a0=>A.unI a0 (λa1 a2=>A.un0 a2 ( A.ari .rem .u8 n6 8 (λn12=>A.conv .i64 n8 (λn13=>A.conv .i64 a1 (λn14=>A.ari .add .i64 n13 n14 (λn15=>A.ari .rem .i64 n15 2 (λn16=>A.cmp .neq n16 0 (λa3=>A.join (λa4 a5=>A.unI a4 (λn20 a6=>A.unI a6 (λn22 a7=>A.unI a7 (λn24 a8=>A.un0 a8 ( K [(.i n20),(.i n22),(.i n24)] a5))))) (λJ=>A.cond a3 ( A.ari .add .i64 n14 1 (λn27=>J [(.i n12),(.i n13),(.i n27)] h)) ( J [(.i n12),(.i n13),(.i n14)] h))))))))))))
/-- crimp/places.Places -/
def f8(ls:List Lf)(h:HT)(K:List Lf->HT->R):R:=A.unI ls (λn6 J=>A.unI J (λn8 O=>A.unV O (λa0 a1=>A.unI a1 (λn12 a2=>A.unI a2 (λn14 a3=>A.unI a3 (λn16 a4=>A.un0 a4 ( A.call 20 [(.i n6),(.i n8),(.v a0),(.i n12),(.i n14),(.i n16)] h (λa5 a6=>A.unV a5 (λx20 a7=>A.unV a7 (λb0 a8=>A.unI a8 (λn24 a9=>A.un0 a9 ( K [(.v x20),(.i n24)] a6))))))))))))
/-- crimp/crimplaw10.lives -/
def f9(ls:List Lf)(h:HT)(K:List Lf->HT->R):R:=A.un0 ls ( A.call 22 [(.i 1),(.i 1),(.i 0),(.i 2)] h (λb7 b8=>A.unI b7 (λn8 b9=>A.unI b9 (λc0 c1=>A.unI c1 (λn12 d0=>A.unI d0 (λn14 d1=>A.unI d1 (λn16 d2=>A.un0 d2 ( A.new (.cells [(.int .u8 n8),(.int .u8 c0),(.int .i64 n12),(.int .i64 n14),(.int .i64 n16)] 5 true) b8 (λd3 d4=>A.call 21 [(.i 2),(.i 1),(.v (.slice (some ⟨d3,0,(some 15)⟩) 1 2))] d4 (λd5 d6=>A.unI d5 (λn22 d7=>A.unI d7 (λn24 d8=>A.unV d8 (λd9 e0=>A.un0 e0 ( A.call 23 [] d6 (λe1 e2=>A.unI e1 (λn30 f0=>A.unI f0 (λn32 f1=>A.unI f1 (λn34 f2=>A.un0 f2 ( A.call 8 [(.i n22),(.i n24),(.v d9),(.i n30),(.i n32),(.i n34)] e2 (λgl g0=>A.unV gl (λa8 g1=>A.unI g1 (λn40 g2=>A.un0 g2 ( A.call 22 [(.i 1),(.i 1),(.i 0),(.i 4)] g0 (λg3 g4=>A.unI g3 (λn44 g5=>A.unI g5 (λn46 g6=>A.unI g6 (λn48 g7=>A.unI g7 (λn50 g8=>A.unI g8 (λn52 g9=>A.un0 g9 ( A.call 22 [(.i 2),(.i 1),(.i 0),(.i 4)] g4 (λh0 h1=>A.unI h0 (λn56 h2=>A.unI h2 (λn58 h3=>A.unI h3 (λn60 h4=>A.unI h4 (λn62 h5=>A.unI h5 (λn64 h6=>A.un0 h6 ( A.new (.cells [(.int .u8 n44),(.int .u8 n46),(.int .i64 n48),(.int .i64 n50),(.int .i64 n52),(.int .u8 n56),(.int .u8 n58),(.int .i64 n60),(.int .i64 n62),(.int .i64 n64)] 5 true) h1 (λh7 h8=>A.call 21 [(.i 2),(.i 2),(.v (.slice (some ⟨h7,0,(some 15)⟩) 2 3))] h8 (λh9 i0=>A.unI h9 (λn70 i1=>A.unI i1 (λn72 i2=>A.unV i2 (λj0 j1=>A.un0 j1 ( A.call 23 [] i0 (λj2 j3=>A.unI j2 (λn78 j4=>A.unI j4 (λn80 j5=>A.unI j5 (λn82 j6=>A.un0 j6 ( A.call 8 [(.i n70),(.i n72),(.v j0),(.i n78),(.i n80),(.i n82)] j3 (λj7 a0=>A.unV j7 (λa6 j8=>A.unI j8 (λn88 j9=>A.un0 j9 ( A.cmp .neq n40 0 (λk0=>A.cond k0 ( K [(.b false)] a0) ( A.cmp .neq n88 0 (λk1=>A.cond k1 ( K [(.b false)] a0) ( A.opt (lenS a8) (λk2=>A.cmp .neq k2 8 (λk3=>A.cond k3 ( K [(.b false)] a0) ( A.opt (lenS a6) (λk4=>A.cmp .neq k4 16 (λk5=>A.cond k5 ( K [(.b false)] a0) ( A.loop (λa9 k6 a7=>A.unI k6 (λn99 k7=>A.un0 k7 ( A.cmp .lss n99 16 (λk8=>A.cond k8 ( A.opt (idS 3 a6 n99) (λa2=>A.peek (.lg cc 3 a2) a7 (λk9=>A.ucI .u8 k9 (λn104 l0=>A.ucI .i64 l0 (λn106 l1=>A.ucI .i64 l1 (λn108 l2=>A.uc0 l2 ( A.new (.cells [(.int .u8 0),(.int .i64 0),(.int .i64 0),(.int .u8 4),(.int .i64 2),(.int .i64 0),(.int .u8 6),(.int .i64 0),(.int .i64 2),(.int .u8 2),(.int .i64 2),(.int .i64 2)] 3 true) a7 (λa3 O=>A.ari .quo .i64 n99 4 (λn112=>A.opt (idS 3 (.slice (some ⟨a3,0,(some 13)⟩) 4 5) n112) (λl3=>A.peek (.lg cc 3 l3) O (λl4=>A.ucI .u8 l4 (λl5 l6=>A.ucI .i64 l6 (λl7 l8=>A.ucI .i64 l8 (λl9 m0=>A.uc0 m0 ( A.eqs [((.i n104),(.i l5)),((.i n106),(.i l7)),((.i n108),(.i l9))] (λm1=>A.cond (!m1) ( A.opt (Sx.sepL [((.slice (some ⟨a3,0,(some 13)⟩) 4 5),(0,a2))]) (λz4=>K [(.b false)] O)) ( A.cmp .lss n99 8 (λm2=>A.cond m2 ( A.opt (idS 3 a8 n99) (λm3=>A.peek (.lg cc 3 m3) O (λm4=>A.ucI .u8 m4 (λn126 m5=>A.ucI .i64 m5 (λn128 m6=>A.ucI .i64 m6 (λm7 m8=>A.uc0 m8 ( A.opt (idS 3 a6 n99) (λm9=>A.peek (.lg cc 3 m9) O (λn0=>A.ucI .u8 n0 (λn1 n2=>A.ucI .i64 n2 (λn136 o0=>A.ucI .i64 o0 (λo1 o2=>A.uc0 o2 ( A.eqs [((.i n126),(.i n1)),((.i n128),(.i n136)),((.i m7),(.i o1))] (λo3=>A.opt (Sx.sepL [((.slice (some ⟨a3,0,(some 13)⟩) 4 5),(0,a2))]) (λz5=>A.join (λo4 o5=>A.un0 o4 ( A.ari .add .i64 n99 1 (λo6=>a9 [(.i o6)] o5))) (λo7=>A.cond (!o3) ( K [(.b false)] O) ( o7 [] O))))))))))))))))) ( A.opt (Sx.sepL [((.slice (some ⟨a3,0,(some 13)⟩) 4 5),(0,a2))]) (λz6=>A.ari .add .i64 n99 1 (λo8=>a9 [(.i o8)] O))))))))))))))))))))) ( A.call 22 [(.i 1),(.i 1),(.i 0),(.i 4)] a7 (λo9 p0=>A.unI o9 (λp1 p2=>A.unI p2 (λp3 p4=>A.unI p4 (λp5 p6=>A.unI p6 (λp7 p8=>A.unI p8 (λp9 q0=>A.un0 q0 ( A.call 22 [(.i 2),(.i 1),(.i 0),(.i 4)] p0 (λq1 q2=>A.unI q1 (λq3 q5=>A.unI q5 (λq8 q9=>A.unI q9 (λr1 r2=>A.unI r2 (λr3 r4=>A.unI r4 (λr5 r6=>A.un0 r6 ( A.new (.cells [(.int .u8 p1),(.int .u8 p3),(.int .i64 p5),(.int .i64 p7),(.int .i64 p9),(.int .u8 q3),(.int .u8 q8),(.int .i64 r1),(.int .i64 r3),(.int .i64 r5)] 5 true) q2 (λr7 r8=>A.call 21 [(.i 2),(.i 2),(.v (.slice (some ⟨r7,0,(some 15)⟩) 2 3))] r8 (λr9 s0=>A.unI r9 (λs1 s2=>A.unI s2 (λs3 s4=>A.unV s4 (λs5 s6=>A.un0 s6 ( A.call 23 [] s0 (λs7 s8=>A.unI s7 (λs9 t0=>A.unI t0 (λt1 t2=>A.unI t2 (λt3 t4=>A.un0 t4 ( A.call 24 [(.i s1),(.i s3),(.v s5),(.i s9),(.i t1),(.i t3)] s8 (λt5 t6=>A.unI t5 (λt7 t9=>A.unI t9 (λuc u0=>A.un0 u0 ( A.call 22 [(.i 1),(.i 1),(.i 0),(.i 4)] t6 (λu1 u2=>A.unI u1 (λu4 u5=>A.unI u5 (λu9 v0=>A.unI v0 (λv1 v2=>A.unI v2 (λv3 v4=>A.unI v4 (λv5 v6=>A.un0 v6 ( A.call 22 [(.i 2),(.i 1),(.i 0),(.i 2)] u2 (λv7 v8=>A.unI v7 (λv9 wv=>A.unI wv (λww wx=>A.unI wx (λwy wz=>A.unI wz (λwA wB=>A.unI wB (λwC wD=>A.un0 wD ( A.new (.cells [(.int .u8 u4),(.int .u8 u9),(.int .i64 v1),(.int .i64 v3),(.int .i64 v5),(.int .u8 v9),(.int .u8 ww),(.int .i64 wy),(.int .i64 wA),(.int .i64 wC)] 5 true) v8 (λwE wF=>A.call 21 [(.i 2),(.i 2),(.v (.slice (some ⟨wE,0,(some 15)⟩) 2 3))] wF (λwG wH=>A.unI wG (λb0 wI=>A.unI wI (λb1 wJ=>A.unV wJ (λb2 wK=>A.un0 wK ( A.call 23 [] wH (λwL wM=>A.unI wL (λwN wO=>A.unI wO (λwP wQ=>A.unI wQ (λwR wS=>A.un0 wS ( A.call 8 [(.i b0),(.i b1),(.v b2),(.i wN),(.i wP),(.i wR)] wM (λwT wU=>A.unV wT (λz7 wV=>A.unI wV (λwW wX=>A.un0 wX ( A.call 25 [(.i b0),(.i b1),(.v b2)] wU (λwY wZ=>A.unI wY (λw0 w1=>A.unI w1 (λw2 xb=>A.unB xb (λxd xe=>A.unI xe (λxg xh=>A.un0 xh ( A.call 22 [(.i 3),(.i 1),(.i 0),(.i 2)] wZ (λxi xj=>A.unI xi (λxk xl=>A.unI xl (λxm xn=>A.unI xn (λxo xp=>A.unI xp (λxq xr=>A.unI xr (λxt xu=>A.un0 xu ( A.new (.cells [(.int .u8 xk),(.int .u8 xm),(.int .i64 xo),(.int .i64 xq),(.int .i64 xt)] 5 true) xj (λxw xy=>A.call 21 [(.i 1),(.i 1),(.v (.slice (some ⟨xw,0,(some 15)⟩) 1 2))] xy (λxz xA=>A.unI xz (λxB xC=>A.unI xC (λxD xE=>A.unV xE (λxF xG=>A.un0 xG ( A.call 23 [] xA (λxH xI=>A.unI xH (λxJ xK=>A.unI xK (λxL xM=>A.unI xM (λxN xO=>A.un0 xO ( A.call 26 [(.i xB),(.i xD),(.v xF),(.i xJ),(.i xL),(.i xN)] xI (λxP J=>A.unV xP (λa1 xQ=>A.unI xQ (λxR xS=>A.un0 xS ( A.cmp .neq t7 4 (λxU=>A.cond xU ( K [(.b false)] J) ( A.cmp .neq uc 0 (λxV=>A.cond xV ( K [(.b false)] J) ( A.cmp .neq wW 11 (λxW=>A.cond xW ( K [(.b false)] J) ( A.eqs [((.i w0),(.i 2)),((.i w2),(.i 2))] (λxX=>A.cond (!xX) ( K [(.b false)] J) ( A.cond (!xd) ( K [(.b false)] J) ( A.cmp .neq xg 0 (λxY=>A.cond xY ( K [(.b false)] J) ( A.cmp .neq xR 0 (λxZ=>A.cond xZ ( K [(.b false)] J) ( A.opt (lenS a1) (λx0=>A.cmp .neq x0 4 (λx1=>A.cond x1 ( K [(.b false)] J) ( A.opt (idS 3 a1 0) (λx2=>A.opt (fdP 2 x2) (λb3=>A.chk b3 ( A.peek (.lg cc 1 b3) J (λx6=>A.ucI .u8 x6 (λx7 x9=>A.uc0 x9 ( A.cmp .neq x7 0 (λya=>A.cond ya ( K [(.b false)] J) ( A.opt (idS 3 a1 1) (λyb=>A.opt (fdP 2 yb) (λb4=>A.chk b4 ( A.peek (.lg cc 1 b4) J (λyc=>A.ucI .u8 yc (λyd ye=>A.uc0 ye ( A.cmp .neq yd 0 (λyf=>A.cond yf ( K [(.b false)] J) ( A.opt (idS 3 a1 2) (λyg=>A.opt (fdP 2 yg) (λb5=>A.chk b5 ( A.peek (.lg cc 1 b5) J (λyh=>A.ucI .u8 yh (λyi yj=>A.uc0 yj ( A.cmp .neq yi 3 (λyk=>A.cond yk ( K [(.b false)] J) ( A.opt (idS 3 a1 3) (λyl=>A.opt (fdP 2 yl) (λb6=>A.chk b6 ( A.peek (.lg cc 1 b6) J (λym=>A.ucI .u8 ym (λyn yo=>A.uc0 yo ( A.cmp .neq yn 3 (λyp=>A.cond yp ( K [(.b false)] J) ( A.call 22 [(.i 1),(.i 1),(.i 0),(.i 4)] J (λyq yr=>A.unI yq (λyu yv=>A.unI yv (λyw yx=>A.unI yx (λyy yz=>A.unI yz (λyA yB=>A.unI yB (λyC yD=>A.un0 yD ( A.call 22 [(.i 3),(.i 2),(.i 2),(.i 4)] yr (λyE yF=>A.unI yE (λyG yH=>A.unI yH (λyI yJ=>A.unI yJ (λyK yL=>A.unI yL (λyM yN=>A.unI yN (λyO yP=>A.un0 yP ( A.call 22 [(.i 4),(.i 0),(.i 0),(.i 2)] yF (λyQ yR=>A.unI yQ (λyS yT=>A.unI yT (λyU yV=>A.unI yV (λyW yX=>A.unI yX (λyY yZ=>A.unI yZ (λy0 y1=>A.un0 y1 ( A.new (.cells [(.int .u8 yu),(.int .u8 yw),(.int .i64 yy),(.int .i64 yA),(.int .i64 yC),(.int .u8 yG),(.int .u8 yI),(.int .i64 yK),(.int .i64 yM),(.int .i64 yO),(.int .u8 yS),(.int .u8 yU),(.int .i64 yW),(.int .i64 yY),(.int .i64 y0)] 5 true) yR (λy2 y3=>A.call 21 [(.i 2),(.i 2),(.v (.slice (some ⟨y2,0,(some 15)⟩) 3 4))] y3 (λy4 y5=>A.unI y4 (λy6 y7=>A.unI y7 (λy8 y9=>A.unV y9 (λza zb=>A.un0 zb ( A.call 27 [(.i y6),(.i y8),(.v za),(.i 2),(.i 2)] y5 (λzc zd=>A.unB zc (λze zf=>A.unI zf (λzg zh=>A.un0 zh ( A.call 22 [(.i 3),(.i 2),(.i 0),(.i 4)] zd (λzi zj=>A.unI zi (λzk zl=>A.unI zl (λzm zn=>A.unI zn (λzo zp=>A.unI zp (λzq zr=>A.unI zr (λzt zu=>A.un0 zu ( A.call 22 [(.i 4),(.i 0),(.i 0),(.i 4)] zj (λzw zx=>A.unI zw (λzy zA=>A.unI zA (λzB zC=>A.unI zC (λzD zE=>A.unI zE (λzF zG=>A.unI zG (λzH zI=>A.un0 zI ( A.new (.cells [(.int .u8 zk),(.int .u8 zm),(.int .i64 zo),(.int .i64 zq),(.int .i64 zt),(.int .u8 zy),(.int .u8 zB),(.int .i64 zD),(.int .i64 zF),(.int .i64 zH)] 5 true) zx (λzJ zK=>A.call 21 [(.i 2),(.i 2),(.v (.slice (some ⟨zJ,0,(some 15)⟩) 2 3))] zK (λzL zM=>A.unI zL (λzN zO=>A.unI zO (λzP zQ=>A.unV zQ (λzR zS=>A.un0 zS ( A.call 27 [(.i zN),(.i zP),(.v zR),(.i 2),(.i 2)] zM (λzT a4=>A.unB zT (λzU zV=>A.unI zV (λzW zX=>A.un0 zX ( A.join (λzY zZ=>A.unB zY (λz0 z1=>A.un0 z1 ( K [(.b z0)] zZ))) (λa5=>A.cond ze ( A.cmp .eql zg 0 (λz2=>A.cond z2 ( A.cond zU ( A.cmp .eql zW 0 (λz3=>a5 [(.b z3)] a4)) ( a5 [(.b false)] a4)) ( a5 [(.b false)] a4))) ( a5 [(.b false)] a4)))))))))))))))))))))))))))))))))))))))))))))))))))))))))))))))))))))))))))))))))))))))))))))))))))))))))))))))))))))))))))))))))))))))))))))))))))))))))))))))))))))))))))))))))))))))))))))))))))) [(.i 0)] a0))))))))))))))))))))))))))))))))))))))))))))))))))))))))))))))
/-- crimp/crimpref10.Fold -/
def f11(ls:List Lf)(h:HT)(K:List Lf->HT->R):R:=A.unI ls (λn6 b9=>A.unI b9 (λn8 c0=>A.unV c0 (λa0 c1=>A.unV c1 (λa8 d0=>A.unI d0 (λn14 d1=>A.unI d1 (λn16 d2=>A.unI d2 (λn18 d3=>A.unI d3 (λn20 d4=>A.un0 d4 ( A.call 29 [(.i n6),(.i n8)] h (λd5 d6=>A.unV d5 (λa9 d7=>A.un0 d7 ( A.call 28 [(.i n6),(.i n8)] d6 (λd8 d9=>A.unV d8 (λa4 e0=>A.un0 e0 ( A.new (.cells [] 3 true) d9 (λe1 e2=>A.heap (.ap cc 3 24 (.slice (some ⟨e1,0,(some 13)⟩) 0 1) a0) e2 (λf0 f1=>A.ucV f0 (λO f2=>A.chk O ( A.uc0 f2 ( A.loop (λgl g0 a1=>A.unI g0 (λn39 g1=>A.un0 g1 ( A.opt (lenS a9) (λg2=>A.cmp .lss n39 g2 (λg3=>A.cond g3 ( A.opt (idS 3 a0 n39) (λx43=>A.peek (.lg cc 3 x43) a1 (λg4=>A.ucI .u8 g4 (λn45 g5=>A.ucI .i64 g5 (λn47 g6=>A.ucI .i64 g6 (λn49 g7=>A.uc0 g7 ( A.opt (idS 3 a9 n39) (λg8=>A.peek (.lg cc 3 g8) a1 (λg9=>A.ucI .i64 g9 (λn53 h0=>A.ucI .i64 h0 (λn55 h1=>A.ucI .u8 h1 (λn57 h2=>A.uc0 h2 ( A.call 31 [(.i n45),(.i n47),(.i n49),(.i n53),(.i n55),(.i n57)] a1 (λh3 h4=>A.unI h3 (λn61 h5=>A.unI h5 (λn63 h6=>A.unI h6 (λn65 h7=>A.un0 h7 ( A.call 30 [(.i n14),(.i n16),(.i n61),(.i n63),(.i n65)] h4 (λh8 a5=>A.unI h8 (λn69 h9=>A.un0 h9 ( A.cmp .eql n69 n18 (λi0=>A.join (λi1 i2=>A.un0 i1 ( A.ari .add .i64 n39 1 (λn74=>gl [(.i n74)] i2))) (λb0=>A.cond i0 ( A.opt (idS 3 a0 n39) (λj0=>A.peek (.lg cc 3 j0) a5 (λj1=>A.ucI .u8 j1 (λn78 j2=>A.ucI .i64 j2 (λn80 j3=>A.ucI .i64 j3 (λn82 j4=>A.uc0 j4 ( A.call 33 [(.i n14),(.i n16)] a5 (λj5 j6=>A.unI j5 (λn86 j7=>A.unI j7 (λn88 j8=>A.unI j8 (λn90 j9=>A.un0 j9 ( A.call 32 [(.i n78),(.i n80),(.i n82),(.i n86),(.i n88),(.i n90)] j6 (λk0 k1=>A.unI k0 (λn94 k2=>A.unI k2 (λn96 k3=>A.unI k3 (λn98 k4=>A.un0 k4 ( A.opt (idS 3 O n39) (λk5=>A.heap (.st k5 [(.int .u8 n94),(.int .i64 n96),(.int .i64 n98)]) k1 (λt6 k6=>b0 [] k6))))))))))))))))))) ( b0 [] a5)))))))))))))))))))))))) ( A.new (.cells [] 1 true) a1 (λk7 k8=>A.heap (.ap cc 1 1 (.slice (some ⟨k7,0,(some 11)⟩) 0 1) a8) k8 (λk9 l0=>A.ucV k9 (λa2 l1=>A.chk a2 ( A.uc0 l1 ( A.loop (λl2 l3 a3=>A.unI l3 (λn112 l4=>A.un0 l4 ( A.opt (lenS a4) (λl5=>A.cmp .lss n112 l5 (λl6=>A.cond l6 ( A.join (λl7 l8=>A.un0 l7 ( A.ari .add .i64 n112 1 (λl9=>l2 [(.i l9)] l8))) (λa6=>A.opt (idS 2 a4 n112) (λm0=>A.opt (fdP 0 m0) (λb1=>A.chk b1 ( A.peek (.lg cc 1 b1) a3 (λm1=>A.ucI .i64 m1 (λn123 m2=>A.uc0 m2 ( A.opt (idS 2 a4 n112) (λm3=>A.opt (fdP 1 m3) (λb2=>A.chk b2 ( A.peek (.lg cc 1 b2) a3 (λm4=>A.ucI .u8 m4 (λn128 m5=>A.uc0 m5 ( A.conv .i64 n128 (λm6=>A.call 34 [(.i n6),(.i n8),(.i n123),(.i m6)] a3 (λm7 J=>A.unI m7 (λb3 m8=>A.un0 m8 ( A.opt (idS 1 a8 n112) (λm9=>A.peek (.lg cc 1 m9) J (λn0=>A.ucI .u8 n0 (λn1 n2=>A.uc0 n2 ( A.cmp .neq n1 0 (λo0=>A.cond o0 ( a6 [] J) ( A.opt (idS 3 O n123) (λo1=>A.peek (.lg cc 3 o1) J (λo2=>A.ucI .u8 o2 (λn142 o3=>A.ucI .i64 o3 (λo4 o5=>A.ucI .i64 o5 (λo6 o7=>A.uc0 o7 ( A.opt (idS 3 O b3) (λo8=>A.peek (.lg cc 3 o8) J (λo9=>A.ucI .u8 o9 (λp0 p1=>A.ucI .i64 p1 (λp2 p3=>A.ucI .i64 p3 (λp4 p5=>A.uc0 p5 ( A.eqs [((.i n142),(.i p0)),((.i o4),(.i p2)),((.i o6),(.i p4))] (λp6=>A.cond p6 ( a6 [] J) ( A.opt (idS 3 O n123) (λp7=>A.peek (.lg cc 3 p7) J (λp8=>A.ucI .u8 p8 (λp9 q0=>A.ucI .i64 q0 (λq1 q2=>A.ucI .i64 q2 (λq3 q5=>A.uc0 q5 ( A.opt (idS 3 a0 n123) (λq8=>A.peek (.lg cc 3 q8) J (λq9=>A.ucI .u8 q9 (λr1 r2=>A.ucI .i64 r2 (λr3 r4=>A.ucI .i64 r4 (λr5 r6=>A.uc0 r6 ( A.eqs [((.i p9),(.i r1)),((.i q1),(.i r3)),((.i q3),(.i r5))] (λr7=>A.join (λr8 a7=>A.unI r8 (λr9 s0=>A.un0 s0 ( A.opt (idS 3 O r9) (λs1=>A.opt (fdP 0 s1) (λb4=>A.chk b4 ( A.peek (.lg cc 1 b4) a7 (λs2=>A.ucI .u8 s2 (λs3 s4=>A.uc0 s4 ( A.cmp .gtr s3 3 (λs5=>A.join (λs6 s7=>A.unI s6 (λs8 s9=>A.un0 s9 ( A.opt (idS 1 a2 n112) (λt0=>A.heap (.st t0 [(.int .u8 1)]) s7 (λt7 b5=>A.cmp .eql s8 n20 (λt1=>A.join (λt2 t3=>A.un0 t2 ( a6 [] t3)) (λb6=>A.cond t1 ( A.opt (idS 1 a2 n112) (λt4=>A.heap (.st t4 [(.int .u8 2)]) b5 (λt9 t5=>b6 [] t5))) ( b6 [] b5)))))))) (λb7=>A.cond s5 ( b7 [(.i 0)] a7) ( b7 [(.i 1)] a7)))))))))))) (λb8=>A.cond (!r7) ( b8 [(.i b3)] J) ( b8 [(.i n123)] J))))))))))))))))))))))))))))))))))))))))))))))))))))) ( K [(.v O),(.v a2)] a3)))))) [(.i 0)] l0))))))))))) [(.i 0)] f1))))))))))))))))))))
/-- crimp/crimpref10.Line -/
def f12(ls:List Lf)(h:HT)(K:List Lf->HT->R):R:=A.unI ls (λn6 J=>A.unI J (λn8 O=>A.un0 O ( A.ari .rem .u8 n6 4 (λa0=>A.ari .add .u8 1 a0 (λn11=>A.ari .rem .i8 n8 9 (λn12=>A.conv .i64 n12 (λn13=>K [(.i n11),(.i n13)] h)))))))
/-- crimp/crimpref06.With -/
def f13(ls:List Lf)(h:HT)(K:List Lf->HT->R):R:=A.unI ls (λn6 a5=>A.unI a5 (λn8 a6=>A.unV a6 (λa0 a7=>A.un0 a7 ( A.call 28 [(.i n6),(.i n8)] h (λa8 a9=>A.unV a8 (λx14 b0=>A.un0 b0 ( A.join (λb1 b2=>A.unI b1 (λn18 b3=>A.unI b3 (λn20 b4=>A.unV b4 (λb5 b6=>A.un0 b6 ( K [(.i n18),(.i n20),(.v b5)] b2))))) (λa1=>A.loop (λb7 b8 J=>A.unI b8 (λn28 b9=>A.unI b9 (λn30 c0=>A.unI c0 (λn32 c1=>A.unV c1 (λO d0=>A.un0 d0 ( A.opt (lenS x14) (λx36=>A.cmp .lss n28 x36 (λd1=>A.cond d1 ( A.opt (lenS a0) (λd2=>A.cmp .lss n28 d2 (λd3=>A.cond d3 ( A.opt (idS 1 a0 n28) (λd4=>A.peek (.lg cc 1 d4) J (λd5=>A.ucI .u8 d5 (λn42 d6=>A.uc0 d6 ( A.cmp .neq n42 0 (λd7=>A.join (λd8 d9=>A.unI d8 (λn47 e0=>A.unI e0 (λn49 e1=>A.unV e1 (λe2 f0=>A.un0 f0 ( A.ari .add .i64 n28 1 (λn53=>b7 [(.i n53),(.i n47),(.i n49),(.v e2)] d9)))))) (λa2=>A.cond d7 ( A.opt (idS 2 x14 n28) (λf1=>A.opt (fdP 0 f1) (λa3=>A.chk a3 ( A.peek (.lg cc 1 a3) J (λf2=>A.ucI .i64 f2 (λn58 gl=>A.uc0 gl ( A.opt (idS 2 x14 n28) (λg0=>A.opt (fdP 1 g0) (λx61=>A.chk x61 ( A.peek (.lg cc 1 x61) J (λg1=>A.ucI .u8 g1 (λn63 g2=>A.uc0 g2 ( A.opt (idS 1 a0 n28) (λx65=>A.peek (.lg cc 1 x65) J (λg3=>A.ucI .u8 g3 (λn67 g4=>A.uc0 g4 ( A.new (.cells [(.int .i64 n58),(.int .u8 n63),(.int .u8 n67)] 3 true) J (λg5 g6=>A.heap (.ap cc 3 16 O (.slice (some ⟨g5,0,(some 13)⟩) 1 2)) g6 (λg7 g8=>A.ucV g7 (λa4 g9=>A.chk a4 ( A.uc0 g9 ( a2 [(.i n30),(.i n32),(.v a4)] g8)))))))))))))))))))))) ( a2 [(.i n30),(.i n32),(.v O)] J)))))))) ( a1 [(.i n30),(.i n32),(.v O)] J)))) ( a1 [(.i n30),(.i n32),(.v O)] J))))))))) [(.i 0),(.i n6),(.i n8),(.v (.slice none 0 0))] a9))))))))
/-- crimp/patterns.Check -/
def f14(ls:List Lf)(h:HT)(K:List Lf->HT->R):R:=A.unI ls (λn6 a7=>A.unI a7 (λn8 a8=>A.unV a8 (λJ a9=>A.un0 a9 ( A.call 35 [(.i n6),(.i n8)] h (λb0 a1=>A.unI b0 (λn14 b1=>A.un0 b1 ( A.cmp .neq n14 0 (λb2=>A.cond b2 ( K [(.i n14)] a1) ( A.call 36 [(.v J),(.v (.func (.func 37) ⟨[]⟩ ⟨[]⟩))] a1 (λb3 a2=>A.unB b3 (λb4 b5=>A.un0 b5 ( A.cond b4 ( K [(.i 1)] a2) ( A.opt (lenS J) (λb6=>A.loop (λb7 b8 O=>A.unI b8 (λn25 b9=>A.un0 b9 ( A.cmp .lss n25 b6 (λc0=>A.cond c0 ( A.opt (idS 3 J n25) (λc1=>A.peek (.lg cc 3 c1) O (λd0=>A.ucI .i64 d0 (λn30 d1=>A.ucI .u8 d1 (λn32 d2=>A.ucI .u8 d2 (λn34 d3=>A.uc0 d3 ( A.call 39 [(.i n6),(.i n8),(.i n30),(.i n32)] O (λd4 a3=>A.unI d4 (λn38 d5=>A.unI d5 (λn40 d6=>A.unI d6 (λn42 d7=>A.un0 d7 ( A.cmp .neq n42 0 (λd8=>A.cond d8 ( K [(.i 7)] a3) ( A.call 40 [(.i n30),(.i n32),(.i n34)] a3 (λd9 a4=>A.unI d9 (λn47 e0=>A.unI e0 (λn49 e1=>A.un0 e1 ( A.eqs [((.i n38),(.i n47)),((.i n40),(.i n49))] (λe2=>A.cond (!e2) ( K [(.i 7)] a4) ( A.ari .add .i64 n25 1 (λn52=>b7 [(.i n52)] a4))))))))))))))))))))) ( A.loop (λf0 f1 a0=>A.unI f1 (λn56 f2=>A.un0 f2 ( A.opt (lenS J) (λgl=>A.cmp .lss n56 gl (λg0=>A.cond g0 ( A.ari .sub .i64 n56 1 (λn60=>A.opt (idS 3 J n60) (λx61=>A.peek (.lg cc 3 x61) a0 (λg1=>A.ucI .i64 g1 (λn63 g2=>A.ucI .u8 g2 (λn65 g3=>A.ucI .u8 g3 (λn67 g4=>A.uc0 g4 ( A.call 40 [(.i n63),(.i n65),(.i n67)] a0 (λg5 a5=>A.unI g5 (λn71 g6=>A.unI g6 (λn73 g7=>A.un0 g7 ( A.opt (idS 3 J n56) (λg8=>A.peek (.lg cc 3 g8) a5 (λg9=>A.ucI .i64 g9 (λn77 h0=>A.ucI .u8 h0 (λn79 h1=>A.ucI .u8 h1 (λn81 h2=>A.uc0 h2 ( A.call 40 [(.i n77),(.i n79),(.i n81)] a5 (λh3 h4=>A.unI h3 (λn85 h5=>A.unI h5 (λn87 h6=>A.un0 h6 ( A.call 41 [(.i n71),(.i n73),(.i n85),(.i n87)] h4 (λh7 a6=>A.unI h7 (λn91 h8=>A.un0 h8 ( A.cmp .geq n91 0 (λh9=>A.cond h9 ( K [(.i 6)] a6) ( A.ari .add .i64 n56 1 (λn94=>f0 [(.i n94)] a6)))))))))))))))))))))))))))) ( K [(.i 0)] a0)))))) [(.i 1)] O))))) [(.i 0)] a2))))))))))))))
/-- crimp/moves.Check -/
def f15(ls:List Lf)(h:HT)(K:List Lf->HT->R):R:=A.unI ls (λn6 a1=>A.unI a1 (λn8 a2=>A.unI a2 (λO a3=>A.un0 a3 ( A.conv .i64 n6 (λn12=>A.cmp .geq n12 8 (λa4=>A.cond a4 ( K [(.i 1)] h) ( A.call 42 [(.i n8)] h (λa5 a0=>A.unB a5 (λa6 a7=>A.un0 a7 ( A.cond a6 ( K [(.i 1)] a0) ( A.call 42 [(.i O)] a0 (λa8 J=>A.unB a8 (λa9 b0=>A.un0 b0 ( A.cond a9 ( K [(.i 1)] J) ( A.ari .add .i64 n8 O (λn22=>A.ari .rem .i64 n22 2 (λn23=>A.cmp .neq n23 0 (λb1=>A.cond b1 ( K [(.i 1)] J) ( K [(.i 0)] J)))))))))))))))))))
/-- (crimp/moves.matrix).of -/
def f16(ls:List Lf)(h:HT)(K:List Lf->HT->R):R:=A.unI ls (λn6 J=>A.unI J (λn8 O=>A.unI O (λa0 a1=>A.unI a1 (λn12 a2=>A.unI a2 (λn14 a3=>A.unI a3 (λn16 a4=>A.un0 a4 ( A.ari .mul .i64 n6 n14 (λn18=>A.ari .mul .i64 n8 n16 (λn19=>A.ari .add .i64 n18 n19 (λn20=>A.ari .mul .i64 a0 n14 (λn21=>A.ari .mul .i64 n12 n16 (λn22=>A.ari .add .i64 n21 n22 (λn23=>K [(.i n20),(.i n23)] h)))))))))))))
/-- crimp/moves.limited -/
def f17(ls:List Lf)(h:HT)(K:List Lf->HT->R):R:=A.unI ls (λn6 a0=>A.unI a0 (λn8 a1=>A.unI a1 (λJ a2=>A.un0 a2 ( A.call 15 [(.i n6),(.i n8),(.i J)] h (λa3 O=>A.unI a3 (λn14 a4=>A.un0 a4 ( A.cmp .neq n14 0 (λa5=>A.cond a5 ( K [(.i 0),(.i 0),(.i 0),(.i 3)] O) ( K [(.i n6),(.i n8),(.i J),(.i 0)] O)))))))))
/-- crimp/moves.number -/
def f18(ls:List Lf)(h:HT)(K:List Lf->HT->R):R:=A.unI ls (λn6 O=>A.unI O (λn8 a0=>A.unI a0 (λa1 a2=>A.unI a2 (λn12 a3=>A.un0 a3 ( A.loop (λa4 a5 J=>A.unI a5 (λn17 a6=>A.un0 a6 ( A.cmp .lss n17 8 (λa7=>A.cond a7 ( A.opt (inB 8 n17) (λx20=>A.opt (cm [(.i 1),(.i 0),(.i 0),(.i 1),(.i 0),(.i (-1)),(.i 1),(.i 0),(.i (-1)),(.i 0),(.i 0),(.i (-1)),(.i 0),(.i 1),(.i (-1)),(.i 0),(.i (-1)),(.i 0),(.i 0),(.i 1),(.i 0),(.i (-1)),(.i (-1)),(.i 0),(.i 1),(.i 0),(.i 0),(.i (-1)),(.i 0),(.i 1),(.i 1),(.i 0)] 0 [(n17,4)] 4) (λa8=>A.unI a8 (λn22 a9=>A.unI a9 (λn24 b0=>A.unI b0 (λn26 b1=>A.unI b1 (λn28 b2=>A.un0 b2 ( A.eqs [((.i n22),(.i n6)),((.i n24),(.i n8)),((.i n26),(.i a1)),((.i n28),(.i n12))] (λb3=>A.cond b3 ( A.conv .u8 n17 (λn31=>K [(.i n31)] J)) ( A.ari .add .i64 n17 1 (λn32=>a4 [(.i n32)] J))))))))))) ( K [(.i 0)] J))))) [(.i 0)] h)))))
/-- (crimp/moves.matrix).then -/
def f19(ls:List Lf)(h:HT)(K:List Lf->HT->R):R:=A.unI ls (λn6 J=>A.unI J (λn8 O=>A.unI O (λa0 a1=>A.unI a1 (λn12 a2=>A.unI a2 (λn14 a3=>A.unI a3 (λn16 a4=>A.unI a4 (λn18 a5=>A.unI a5 (λn20 a6=>A.un0 a6 ( A.call 16 [(.i n14),(.i n16),(.i n18),(.i n20),(.i n6),(.i a0)] h (λa7 a8=>A.unI a7 (λn24 a9=>A.unI a9 (λn26 b0=>A.un0 b0 ( A.call 16 [(.i n14),(.i n16),(.i n18),(.i n20),(.i n8),(.i n12)] a8 (λb1 b2=>A.unI b1 (λn30 b3=>A.unI b3 (λn32 b4=>A.un0 b4 ( K [(.i n24),(.i n30),(.i n26),(.i n32)] b2)))))))))))))))))
/-- crimp/places.both -/
def f20(ls:List Lf)(h:HT)(K:List Lf->HT->R):R:=A.unI ls (λn6 a8=>A.unI a8 (λn8 a9=>A.unV a9 (λa2 b0=>A.unI b0 (λn12 b1=>A.unI b1 (λn14 b2=>A.unI b2 (λn16 b3=>A.un0 b3 ( A.call 14 [(.i n6),(.i n8),(.v a2)] h (λb4 a3=>A.unI b4 (λn20 b5=>A.un0 b5 ( A.cmp .neq n20 0 (λb6=>A.cond b6 ( K [(.v (.slice none 0 0)),(.v (.slice none 0 0)),(.i n20)] a3) ( A.call 15 [(.i n12),(.i n14),(.i n16)] a3 (λb7 a4=>A.unI b7 (λn25 b8=>A.un0 b8 ( A.cmp .neq n25 0 (λb9=>A.cond b9 ( K [(.v (.slice none 0 0)),(.v (.slice none 0 0)),(.i 1)] a4) ( A.call 43 [(.i n6),(.i n8),(.v a2)] a4 (λc0 a5=>A.unV c0 (λO c1=>A.unI c1 (λn32 d0=>A.un0 d0 ( A.cmp .neq n32 0 (λd1=>A.cond d1 ( K [(.v (.slice none 0 0)),(.v (.slice none 0 0)),(.i n32)] a5) ( A.opt (lenS O) (λJ=>A.opt (mkOk J J) (λx36=>A.new (.cells (aU [(.int .i64 0),(.int .i64 0),(.int .u8 0)] (Int.toNat J)) 3 true) a5 (λa6 d2=>A.opt (lenS O) (λd3=>A.loop (λd4 d5 a0=>A.unI d5 (λn43 d6=>A.un0 d6 ( A.cmp .lss n43 d3 (λd7=>A.cond d7 ( A.opt (idS 3 O n43) (λd8=>A.peek (.lg cc 3 d8) a0 (λd9=>A.ucI .u8 d9 (λn48 e0=>A.ucI .i64 e0 (λn50 e1=>A.ucI .i64 e1 (λn52 e2=>A.uc0 e2 ( A.call 44 [(.i n6),(.i n8),(.i n43)] a0 (λf0 f1=>A.unI f0 (λn56 f2=>A.unI f2 (λn58 gl=>A.unI gl (λn60 g0=>A.unI g0 (λn62 g1=>A.un0 g1 ( A.call 6 [(.i n48),(.i n50),(.i n52),(.i n12),(.i n14),(.i n16)] f1 (λg2 g3=>A.unI g2 (λn66 g4=>A.unI g4 (λn68 g5=>A.unI g5 (λn70 g6=>A.unI g6 (λn72 g7=>A.un0 g7 ( A.opt (idS 3 O n43) (λg8=>A.heap (.st g8 [(.int .u8 n66),(.int .i64 n68),(.int .i64 n70)]) g3 (λj0 a1=>A.cmp .neq n72 0 (λg9=>A.cond g9 ( K [(.v (.slice none 0 0)),(.v (.slice none 0 0)),(.i n72)] a1) ( A.opt (idS 3 O n43) (λh0=>A.peek (.lg cc 3 h0) a1 (λh1=>A.ucI .u8 h1 (λn80 h2=>A.ucI .i64 h2 (λn82 h3=>A.ucI .i64 h3 (λn84 h4=>A.uc0 h4 ( A.call 45 [(.i n80),(.i n82),(.i n84),(.i n56),(.i n58),(.i n60)] a1 (λh5 h6=>A.unI h5 (λn88 h7=>A.unI h7 (λn90 h8=>A.unI h8 (λn92 h9=>A.unI h9 (λn94 i0=>A.un0 i0 ( A.opt (idS 3 (.slice (some ⟨a6,0,(some 13)⟩) (Int.toNat J) ((Int.toNat J)+1)) n43) (λi1=>A.heap (.st i1 [(.int .i64 n88),(.int .i64 n90),(.int .u8 n92)]) h6 (λj1 a7=>A.cmp .neq n94 0 (λi2=>A.cond i2 ( K [(.v (.slice none 0 0)),(.v (.slice none 0 0)),(.i n94)] a7) ( A.ari .add .i64 n43 1 (λn100=>d4 [(.i n100)] a7)))))))))))))))))))))))))))))))))))))))) ( K [(.v O),(.v (.slice (some ⟨a6,0,(some 13)⟩) (Int.toNat J) ((Int.toNat J)+1))),(.i 0)] a0))))) [(.i 0)] d2)))))))))))))))))))))))))))
/-- crimp/crimplaw10.pattern -/
def f21(ls:List Lf)(h:HT)(K:List Lf->HT->R):R:=A.unI ls (λn6 J=>A.unI J (λn8 O=>A.unV O (λa0 a1=>A.un0 a1 ( A.call 46 [(.i n6),(.i n8),(.v a0)] h (λa2 a3=>A.unI a2 (λn14 a4=>A.unI a4 (λn16 a5=>A.unV a5 (λa6 a7=>A.unI a7 (λn20 a8=>A.unI a8 (λn22 a9=>A.un0 a9 ( K [(.i n14),(.i n16),(.v a6)] a3)))))))))))
/-- crimp/crimplaw10.segment -/
def f22(ls:List Lf)(h:HT)(K:List Lf->HT->R):R:=A.unI ls (λn6 J=>A.unI J (λn8 O=>A.unI O (λa0 a1=>A.unI a1 (λn12 a2=>A.un0 a2 ( K [(.i 1),(.i n6),(.i n8),(.i a0),(.i n12)] h)))))
/-- crimp/moves.Identity -/
def f23(ls:List Lf)(h:HT)(K:List Lf->HT->R):R:=A.un0 ls ( K [(.i 0),(.i 0),(.i 0)] h)
/-- crimp/places.Depth -/
def f24(ls:List Lf)(h:HT)(K:List Lf->HT->R):R:=A.unI ls (λn6 a2=>A.unI a2 (λn8 a3=>A.unV a3 (λa4 a5=>A.unI a5 (λn12 a6=>A.unI a6 (λn14 a7=>A.unI a7 (λn16 a8=>A.un0 a8 ( A.call 26 [(.i n6),(.i n8),(.v a4),(.i n12),(.i n14),(.i n16)] h (λa9 a0=>A.unV a9 (λx20 b0=>A.unI b0 (λn22 b1=>A.un0 b1 ( A.cmp .neq n22 0 (λb2=>A.cond b2 ( K [(.i 0),(.i n22)] a0) ( A.new (.map [] 0) a0 (λJ b3=>A.opt (lenS x20) (λb4=>A.loop (λb5 b6 O=>A.unI b6 (λn31 b7=>A.unI b7 (λn33 b8=>A.un0 b8 ( A.cmp .lss n33 b4 (λb9=>A.cond b9 ( A.opt (idS 3 x20 n33) (λx36=>A.peek (.lg cc 3 x36) O (λc0=>A.ucI .i64 c0 (λn38 c1=>A.ucI .i64 c1 (λn40 d0=>A.ucI .u8 d0 (λn42 d1=>A.uc0 d1 ( A.peek (.fn (luG cc 89 false (.int .i64 0) (.map (some J)) (.agg ⟨[(.int .i64 n38),(.int .i64 n40),(.int .u8 n42)]⟩) false)) O (λd2=>A.ucI .i64 d2 (λn45 d3=>A.uc0 d3 ( A.ari .add .i64 n45 1 (λn47=>A.heap (.fn (meG cc 89 false (.int .i64 0) (.map (some J)) (.agg ⟨[(.int .i64 n38),(.int .i64 n40),(.int .u8 n42)]⟩))) O (λd4 d5=>A.ucI .i64 d4 (λn50 d6=>A.ucI .i64 d6 (λn52 d7=>A.uc0 d7 ( A.heap (.fn (esG (.map (some J)) n52 (.int .i64 n47))) d5 (λe1 a1=>A.peek (.fn (luG cc 89 false (.int .i64 0) (.map (some J)) (.agg ⟨[(.int .i64 n38),(.int .i64 n40),(.int .u8 n42)]⟩) false)) a1 (λd8=>A.ucI .i64 d8 (λn57 d9=>A.uc0 d9 ( A.cmp .lss n31 n57 (λe0=>A.sel e0 n57 n31 (λn60=>A.ari .add .i64 n33 1 (λn61=>b5 [(.i n60),(.i n61)] a1)))))))))))))))))))))) ( K [(.i n31),(.i 0)] O)))))) [(.i 0),(.i 0)] b3)))))))))))))))
/-- crimp/places.Open -/
def f25(ls:List Lf)(h:HT)(K:List Lf->HT->R):R:=A.unI ls (λn6 a5=>A.unI a5 (λn8 a6=>A.unV a6 (λa7 a8=>A.un0 a8 ( A.new (.cells [(.int .i64 n6),(.int .i64 n8),a7] 3 true) h (λJ a1=>A.peek (.lg cc 3 (.pointer (some ⟨J,0,none⟩))) a1 (λa9=>A.ucI .i64 a9 (λn15 b0=>A.ucI .i64 b0 (λn17 b1=>A.ucV b1 (λa2 b2=>A.chk a2 ( A.uc0 b2 ( A.call 14 [(.i n15),(.i n17),(.v a2)] a1 (λb3 O=>A.unI b3 (λn23 b4=>A.un0 b4 ( A.cmp .neq n23 0 (λb5=>A.cond b5 ( K [(.i 0),(.i 0),(.b false),(.i n23)] O) ( A.opt (fdP 0 (.pointer (some ⟨J,0,none⟩))) (λa3=>A.chk a3 ( A.peek (.lg cc 2 a3) O (λb6=>A.ucI .i64 b6 (λn28 b7=>A.ucI .i64 b7 (λn30 b8=>A.uc0 b8 ( A.call 47 [(.i n28),(.i n30)] O (λb9 c0=>A.unV b9 (λa4 c1=>A.unI c1 (λn36 d0=>A.un0 d0 ( A.chk (.func (.func 49) ⟨[]⟩ ⟨[(.pointer (some ⟨J,0,none⟩))]⟩) ( A.call 48 [(.v a4),(.v (.func (.func 49) ⟨[]⟩ ⟨[(.pointer (some ⟨J,0,none⟩))]⟩))] c0 (λd1 a0=>A.unI d1 (λn40 d2=>A.un0 d2 ( A.cmp .geq n40 0 (λd3=>A.cond d3 ( A.opt (idS 2 a4 n40) (λx43=>A.peek (.lg cc 2 x43) a0 (λd4=>A.ucI .i64 d4 (λn45 d5=>A.ucI .i64 d5 (λn47 d6=>A.uc0 d6 ( K [(.i n45),(.i n47),(.b true),(.i 0)] a0)))))) ( K [(.i 0),(.i 0),(.b false),(.i 0)] a0))))))))))))))))))))))))))))))))
/-- crimp/places.Images -/
def f26(ls:List Lf)(h:HT)(K:List Lf->HT->R):R:=A.unI ls (λn6 J=>A.unI J (λn8 O=>A.unV O (λa0 a1=>A.unI a1 (λn12 a2=>A.unI a2 (λn14 a3=>A.unI a3 (λn16 a4=>A.un0 a4 ( A.call 20 [(.i n6),(.i n8),(.v a0),(.i n12),(.i n14),(.i n16)] h (λa5 a6=>A.unV a5 (λx20 a7=>A.unV a7 (λa8 a9=>A.unI a9 (λn24 b0=>A.un0 b0 ( K [(.v a8),(.i n24)] a6))))))))))))
/-- crimp/places.Closes -/
def f27(ls:List Lf)(h:HT)(K:List Lf->HT->R):R:=A.unI ls (λn6 a3=>A.unI a3 (λn8 a4=>A.unV a4 (λa5 a6=>A.unI a6 (λn12 a7=>A.unI a7 (λn14 a8=>A.un0 a8 ( A.call 50 [(.i n6),(.i n8),(.v a5),(.i n12),(.i n14)] h (λa9 a0=>A.unV a9 (λa1 b0=>A.unI b0 (λn20 b1=>A.un0 b1 ( A.cmp .neq n20 0 (λb2=>A.cond b2 ( K [(.b false),(.i n20)] a0) ( A.new (.cells [(.int .u8 0),(.int .i64 0),(.int .i64 0)] 3 true) a0 (λO b3=>A.chk (.func (.func 51) ⟨[(.pointer (some ⟨O,0,none⟩))]⟩ ⟨[]⟩) ( A.opt (lenS a1) (λb4=>A.loop (λb5 b6 J=>A.unI b6 (λn29 b7=>A.un0 b7 ( A.cmp .lss n29 b4 (λb8=>A.cond b8 ( A.opt (idS 2 a1 n29) (λb9=>A.peek (.lg cc 2 b9) J (λc0=>A.ucI .i64 c0 (λn34 c1=>A.ucI .u8 c1 (λn36 d0=>A.uc0 d0 ( A.ari .rem .i64 n34 4 (λn38=>A.opt (inB 4 n38) (λg3=>A.opt (cm [(.i 2),(.i 4),(.i 1),(.i 3)] 0 [(n38,1)] 1) (λd1=>A.unI d1 (λn41 d2=>A.un0 d2 ( A.call 52 [(.i n41),(.i n12),(.i n14)] J (λd3 d4=>A.unI d3 (λn45 d5=>A.unI d5 (λn47 d6=>A.unI d6 (λn49 d7=>A.un0 d7 ( A.callv (.func (.func 51) ⟨[(.pointer (some ⟨O,0,none⟩))]⟩ ⟨[]⟩) [(.agg ⟨[(.int .u8 n45),(.int .i64 n47)]⟩)] [] d4 (λd8 d9=>A.un0 d8 ( A.ari .add .i64 n29 1 (λn53=>b5 [(.i n53)] d9))))))))))))))))))) ( A.opt (fdP 0 (.pointer (some ⟨O,0,none⟩))) (λa2=>A.chk a2 ( A.peek (.lg cc 3 a2) J (λe0=>A.ucI .u8 e0 (λn56 e1=>A.ucI .i64 e1 (λn58 e2=>A.ucI .i64 e2 (λn60 f0=>A.uc0 f0 ( A.call 23 [] J (λf1 f2=>A.unI f1 (λn64 gl=>A.unI gl (λn66 g0=>A.unI g0 (λn68 g1=>A.un0 g1 ( A.eqs [((.i n56),(.i n64)),((.i n58),(.i n66)),((.i n60),(.i n68))] (λg2=>K [(.b g2),(.i 0)] f2)))))))))))))))))) [(.i 0)] b3)))))))))))))))
/-- crimp/crimpref05.Units -/
def f28(ls:List Lf)(h:HT)(K:List Lf->HT->R):R:=A.unI ls (λn6 a4=>A.unI a4 (λn8 a5=>A.un0 a5 ( A.loop (λa6 a7 O=>A.unV a7 (λx13 a8=>A.unI a8 (λn15 a9=>A.un0 a9 ( A.ari .mul .i64 4 n6 (λn17=>A.ari .mul .i64 n17 n8 (λn18=>A.cmp .lss n15 n18 (λb0=>A.cond b0 ( A.loop (λb1 b2 a0=>A.unV b2 (λJ b3=>A.unI b3 (λn25 b4=>A.un0 b4 ( A.cmp .lss n25 3 (λb5=>A.cond b5 ( A.call 34 [(.i n6),(.i n8),(.i n15),(.i n25)] a0 (λb6 a1=>A.unI b6 (λn30 b7=>A.un0 b7 ( A.cmp .gtr n30 n15 (λb8=>A.join (λb9 c0=>A.unV b9 (λc1 d0=>A.un0 d0 ( A.ari .add .i64 n25 1 (λn37=>b1 [(.v c1),(.i n37)] c0)))) (λa2=>A.cond b8 ( A.conv .u8 n25 (λn39=>A.new (.cells [(.int .i64 n15),(.int .u8 n39)] 2 true) a1 (λd1 d2=>A.heap (.ap cc 2 16 J (.slice (some ⟨d1,0,(some 12)⟩) 1 2)) d2 (λd3 d4=>A.ucV d3 (λa3 d5=>A.chk a3 ( A.uc0 d5 ( a2 [(.v a3)] d4))))))) ( a2 [(.v J)] a1))))))) ( A.ari .add .i64 n15 1 (λn46=>a6 [(.v J),(.i n46)] a0))))))) [(.v x13),(.i 0)] O) ( K [(.v x13)] O)))))))) [(.v (.slice none 0 0)),(.i 0)] h)))
/-- crimp/crimpref05.Cells -/
def f29(ls:List Lf)(h:HT)(K:List Lf->HT->R):R:=A.unI ls (λn6 a4=>A.unI a4 (λn8 a5=>A.un0 a5 ( A.loop (λa6 a7 J=>A.unV a7 (λx13 a8=>A.unI a8 (λn15 a9=>A.un0 a9 ( A.cmp .lss n15 n8 (λb0=>A.cond b0 ( A.loop (λb1 b2 O=>A.unV b2 (λa0 b3=>A.unI b3 (λn23 b4=>A.un0 b4 ( A.cmp .lss n23 n6 (λb5=>A.cond b5 ( A.loop (λb6 b7 a1=>A.unV b7 (λa2 b8=>A.unI b8 (λn31 b9=>A.un0 b9 ( A.cmp .lss n31 4 (λc0=>A.cond c0 ( A.new (.cells [(.int .i64 n23),(.int .i64 n15),(.int .u8 n31)] 3 true) a1 (λc1 d0=>A.heap (.ap cc 3 24 a2 (.slice (some ⟨c1,0,(some 13)⟩) 1 2)) d0 (λd1 d2=>A.ucV d1 (λa3 d3=>A.chk a3 ( A.uc0 d3 ( A.ari .add .u8 n31 1 (λn40=>b6 [(.v a3),(.i n40)] d2))))))) ( A.ari .add .i64 n23 1 (λn41=>b1 [(.v a2),(.i n41)] a1))))))) [(.v a0),(.i 0)] O) ( A.ari .add .i64 n15 1 (λn42=>a6 [(.v a0),(.i n42)] O))))))) [(.v x13),(.i 0)] J) ( K [(.v x13)] J)))))) [(.v (.slice none 0 0)),(.i 0)] h)))
/-- crimp/crimpref03.Side -/
def f30(ls:List Lf)(h:HT)(K:List Lf->HT->R):R:=A.unI ls (λn6 O=>A.unI O (λn8 a0=>A.unI a0 (λa1 a2=>A.unI a2 (λn12 a3=>A.unI a3 (λn14 a4=>A.un0 a4 ( A.call 53 [(.i a1),(.i n12),(.i n14)] h (λa5 a6=>A.unI a5 (λn18 a7=>A.unI a7 (λn20 a8=>A.unI a8 (λn22 a9=>A.unI a9 (λn24 b0=>A.unI b0 (λn26 b1=>A.unI b1 (λn28 b2=>A.un0 b2 ( A.call 54 [(.i n6),(.i n8),(.i n18),(.i n20)] a6 (λb3 b4=>A.unI b3 (λn32 b5=>A.un0 b5 ( A.call 54 [(.i n6),(.i n8),(.i n22),(.i n24)] b4 (λb6 b7=>A.unI b6 (λn36 b8=>A.un0 b8 ( A.ari .add .i64 n32 n36 (λn38=>A.call 54 [(.i n6),(.i n8),(.i n26),(.i n28)] b7 (λb9 J=>A.unI b9 (λn41 c0=>A.un0 c0 ( A.ari .add .i64 n38 n41 (λn43=>A.cmp .gtr n43 0 (λc1=>A.cond c1 ( K [(.i 1)] J) ( K [(.i 0)] J)))))))))))))))))))))))))))
/-- crimp/crimpref03.Move -/
def f31(ls:List Lf)(h:HT)(K:List Lf->HT->R):R:=A.unI ls (λn6 O=>A.unI O (λn8 a0=>A.unI a0 (λa1 a2=>A.unI a2 (λn12 a3=>A.unI a3 (λn14 a4=>A.unI a4 (λn16 a5=>A.un0 a5 ( A.call 53 [(.i n12),(.i n14),(.i n16)] h (λa6 a7=>A.unI a6 (λn20 a8=>A.unI a8 (λn22 a9=>A.unI a9 (λn24 b0=>A.unI b0 (λn26 b1=>A.unI b1 (λn28 b2=>A.unI b2 (λn30 b3=>A.un0 b3 ( A.loop (λb4 b5 J=>A.unI b5 (λn35 b6=>A.unI b6 (λn37 b7=>A.unI b7 (λn39 b8=>A.unI b8 (λn41 b9=>A.unI b9 (λn43 c0=>A.unI c0 (λn45 c1=>A.unI c1 (λn47 d0=>A.un0 d0 ( A.cmp .lss n35 3 (λd1=>A.cond d1 ( A.opt (inB 3 n35) (λg3=>A.opt (cm [(.i n37),(.i n39),(.i n41),(.i n43),(.i n45),(.i n47)] 0 [(n35,2)] 2) (λd2=>A.unI d2 (λn52 d3=>A.unI d3 (λn54 d4=>A.un0 d4 ( A.call 55 [(.i n6),(.i n8),(.i a1),(.i n52),(.i n54)] J (λd5 d6=>A.unI d5 (λn58 d7=>A.unI d7 (λn60 d8=>A.un0 d8 ( A.opt (inB 3 n35) (λg4=>A.opt (putL [(.i n37),(.i n39),(.i n41),(.i n43),(.i n45),(.i n47)] 0 [(n35,2)] [(.i n58),(.i n60)]) (λx63=>A.unI x63 (λn64 d9=>A.unI d9 (λn66 e0=>A.unI e0 (λn68 e1=>A.unI e1 (λn70 e2=>A.unI e2 (λn72 f0=>A.unI f0 (λn74 f1=>A.un0 f1 ( A.ari .add .i64 n35 1 (λn76=>b4 [(.i n76),(.i n64),(.i n66),(.i n68),(.i n70),(.i n72),(.i n74)] d6)))))))))))))))))))) ( A.call 56 [(.i n37),(.i n39),(.i n41),(.i n43),(.i n45),(.i n47)] J (λf2 gl=>A.unI f2 (λn79 g0=>A.unI g0 (λn81 g1=>A.unI g1 (λn83 g2=>A.un0 g2 ( K [(.i n79),(.i n81),(.i n83)] gl)))))))))))))))) [(.i 0),(.i n20),(.i n22),(.i n24),(.i n26),(.i n28),(.i n30)] a7)))))))))))))))
/-- crimp/crimpref02.Then -/
def f32(ls:List Lf)(h:HT)(K:List Lf->HT->R):R:=A.unI ls (λn6 O=>A.unI O (λn8 a0=>A.unI a0 (λJ a1=>A.unI a1 (λn12 a2=>A.unI a2 (λn14 a3=>A.unI a3 (λn16 a4=>A.un0 a4 ( A.call 55 [(.i n6),(.i n8),(.i J),(.i 0),(.i 0)] h (λa5 a6=>A.unI a5 (λn20 a7=>A.unI a7 (λn22 a8=>A.un0 a8 ( A.call 55 [(.i n12),(.i n14),(.i n16),(.i n20),(.i n22)] a6 (λa9 b0=>A.unI a9 (λn26 b1=>A.unI b1 (λn28 b2=>A.un0 b2 ( A.call 55 [(.i n6),(.i n8),(.i J),(.i 2),(.i 0)] b0 (λb3 b4=>A.unI b3 (λn32 b5=>A.unI b5 (λn34 b6=>A.un0 b6 ( A.call 55 [(.i n12),(.i n14),(.i n16),(.i n32),(.i n34)] b4 (λb7 b8=>A.unI b7 (λn38 b9=>A.unI b9 (λn40 c0=>A.un0 c0 ( A.call 55 [(.i n6),(.i n8),(.i J),(.i 0),(.i 2)] b8 (λc1 d0=>A.unI c1 (λn44 d1=>A.unI d1 (λn46 d2=>A.un0 d2 ( A.call 55 [(.i n12),(.i n14),(.i n16),(.i n44),(.i n46)] d0 (λd3 d4=>A.unI d3 (λn50 d5=>A.unI d5 (λn52 d6=>A.un0 d6 ( A.call 57 [(.i n26),(.i n28),(.i n38),(.i n40),(.i n50),(.i n52)] d4 (λd7 d8=>A.unI d7 (λn56 d9=>A.unI d9 (λn58 e0=>A.unI e0 (λn60 e1=>A.un0 e1 ( K [(.i n56),(.i n58),(.i n60)] d8))))))))))))))))))))))))))))))))))))
/-- crimp/crimpref02.Of -/
def f33(ls:List Lf)(h:HT)(K:List Lf->HT->R):R:=A.unI ls (λn6 J=>A.unI J (λn8 O=>A.un0 O ( A.call 58 [(.i n6),(.i n8),(.i 0),(.i 0)] h (λa0 a1=>A.unI a0 (λn12 a2=>A.unI a2 (λn14 a3=>A.un0 a3 ( A.call 58 [(.i n6),(.i n8),(.i 2),(.i 0)] a1 (λa4 a5=>A.unI a4 (λn18 a6=>A.unI a6 (λn20 a7=>A.un0 a7 ( A.call 58 [(.i n6),(.i n8),(.i 0),(.i 2)] a5 (λa8 a9=>A.unI a8 (λn24 b0=>A.unI b0 (λn26 b1=>A.un0 b1 ( A.call 57 [(.i n12),(.i n14),(.i n18),(.i n20),(.i n24),(.i n26)] a9 (λb2 b3=>A.unI b2 (λn30 b4=>A.unI b4 (λn32 b5=>A.unI b5 (λn34 b6=>A.un0 b6 ( K [(.i n30),(.i n32),(.i n34)] b3))))))))))))))))))))
/-- crimp/crimpref05.Neighbour -/
def f34(ls:List Lf)(h:HT)(K:List Lf->HT->R):R:=A.unI ls (λn6 O=>A.unI O (λn8 a0=>A.unI a0 (λJ a1=>A.unI a1 (λn12 a2=>A.un0 a2 ( A.ari .quo .i64 J 4 (λn14=>A.ari .rem .i64 n14 n6 (λn15=>A.ari .mul .i64 4 n6 (λn16=>A.ari .quo .i64 J n16 (λn17=>A.ari .rem .i64 J 4 (λn18=>A.conv .u8 n18 (λn19=>A.call 60 [(.i n15),(.i n17),(.i n19),(.i n12)] h (λa3 a4=>A.unI a3 (λn22 a5=>A.unI a5 (λn24 a6=>A.unI a6 (λn26 a7=>A.un0 a7 ( A.call 59 [(.i n6),(.i n8),(.i n22),(.i n24),(.i n26)] a4 (λa8 a9=>A.unI a8 (λn30 b0=>A.un0 b0 ( K [(.i n30)] a9)))))))))))))))))))
/-- crimp/sheets.Check -/
def f35(ls:List Lf)(h:HT)(K:List Lf->HT->R):R:=A.unI ls (λn6 J=>A.unI J (λn8 O=>A.un0 O ( A.cmp .lss n6 1 (λa0=>A.cond a0 ( K [(.i 1)] h) ( A.cmp .lss n8 1 (λa1=>A.cond a1 ( K [(.i 1)] h) ( A.cmp .gtr n6 256 (λa2=>A.cond a2 ( K [(.i 1)] h) ( A.cmp .gtr n8 256 (λa3=>A.cond a3 ( K [(.i 1)] h) ( A.ari .mul .i64 n6 n8 (λn14=>A.cmp .gtr n14 256 (λa4=>A.cond a4 ( K [(.i 1)] h) ( K [(.i 0)] h))))))))))))))
/-- slices.ContainsFunc[[]crimp/patterns.Crease,crimp/patterns.Crease] -/
def f36(ls:List Lf)(h:HT)(K:List Lf->HT->R):R:=A.unV ls (λJ O=>A.unV O (λx8 a0=>A.un0 a0 ( A.call 61 [(.v J),(.v x8)] h (λa1 a2=>A.unI a1 (λn12 a3=>A.un0 a3 ( A.cmp .geq n12 0 (λa4=>K [(.b a4)] a2)))))))
/-- crimp/patterns.Check$1 -/
def f37(ls:List Lf)(h:HT)(K:List Lf->HT->R):R:=A.unI ls (λn6 J=>A.unI J (λn8 O=>A.unI O (λa0 a1=>A.un0 a1 ( A.call 38 [(.i a0)] h (λa2 a3=>A.unB a2 (λa4 a5=>A.un0 a5 ( K [(.b (!a4))] a3)))))))
/-- crimp/patterns.isKind -/
def f38(ls:List Lf)(h:HT)(K:List Lf->HT->R):R:=A.unI ls (λn6 O=>A.un0 O ( A.join (λa0 a1=>A.unB a0 (λa2 a3=>A.un0 a3 ( K [(.b a2)] a1))) (λJ=>A.cmp .geq n6 1 (λa4=>A.cond a4 ( A.cmp .leq n6 3 (λa5=>J [(.b a5)] h)) ( J [(.b false)] h)))))
/-- crimp/sheets.Name -/
def f39(ls:List Lf)(h:HT)(K:List Lf->HT->R):R:=A.unI ls (λn6 a0=>A.unI a0 (λn8 a1=>A.unI a1 (λJ a2=>A.unI a2 (λn12 a3=>A.un0 a3 ( A.call 62 [(.i n6),(.i n8),(.i J),(.i n12)] h (λa4 O=>A.unI a4 (λn16 a5=>A.unI a5 (λn18 a6=>A.un0 a6 ( A.cmp .neq n18 0 (λa7=>A.cond a7 ( K [(.i 0),(.i 0),(.i n18)] O) ( A.cmp .lss n16 J (λa8=>A.sel a8 n16 J (λn22=>K [(.i n22),(.i n12),(.i 0)] O)))))))))))))
/-- (crimp/patterns.Crease).unit -/
def f40(ls:List Lf)(h:HT)(K:List Lf->HT->R):R:=A.unI ls (λn6 J=>A.unI J (λn8 O=>A.unI O (λa1 a0=>A.un0 a0 ( K [(.i n6),(.i n8)] h))))
/-- crimp/patterns.order -/
def f41(ls:List Lf)(h:HT)(K:List Lf->HT->R):R:=A.unI ls (λn6 O=>A.unI O (λn8 a0=>A.unI a0 (λJ a1=>A.unI a1 (λn12 a2=>A.un0 a2 ( A.cmp .neq n6 J (λa3=>A.cond a3 ( A.ari .sub .i64 n6 J (λn15=>K [(.i n15)] h)) ( A.conv .i64 n8 (λn16=>A.conv .i64 n12 (λn17=>A.ari .sub .i64 n16 n17 (λn18=>K [(.i n18)] h))))))))))
/-- crimp/moves.beyond -/
def f42(ls:List Lf)(h:HT)(K:List Lf->HT->R):R:=A.unI ls (λn6 O=>A.un0 O ( A.join (λa0 a1=>A.unB a0 (λa2 a3=>A.un0 a3 ( K [(.b a2)] a1))) (λJ=>A.cmp .lss n6 (-16384) (λa4=>A.cond a4 ( J [(.b true)] h) ( A.cmp .gtr n6 16384 (λa5=>J [(.b a5)] h))))))
/-- crimp/places.relative -/
def f43(ls:List Lf)(h:HT)(K:List Lf->HT->R):R:=A.unI ls (λn6 d1=>A.unI d1 (λn8 d2=>A.unV d2 (λd3 d4=>A.un0 d4 ( A.new (.cells [(.int .i64 n6),(.int .i64 n8),d3] 3 true) h (λa0 a8=>A.peek (.lg cc 3 (.pointer (some ⟨a0,0,none⟩))) a8 (λd5=>A.ucI .i64 d5 (λn15 d6=>A.ucI .i64 d6 (λn17 d7=>A.ucV d7 (λa9 d8=>A.chk a9 ( A.uc0 d8 ( A.call 63 [(.i n15),(.i n17),(.v a9)] a8 (λd9 e0=>A.unV d9 (λe1 e2=>A.un0 e2 ( A.new (.cells [(.map none)] 1 true) e0 (λa5 f0=>A.heap (.st (.pointer (some ⟨a5,0,none⟩)) [e1]) f0 (λo3 b0=>A.opt (fdP 0 (.pointer (some ⟨a0,0,none⟩))) (λb1=>A.chk b1 ( A.peek (.lg cc 2 b1) b0 (λf1=>A.ucI .i64 f1 (λn31 f2=>A.ucI .i64 f2 (λn33 gl=>A.uc0 gl ( A.call 64 [(.i n31),(.i n33)] b0 (λg0 g1=>A.unI g0 (λn37 g2=>A.un0 g2 ( A.opt (mkOk n37 n37) (λo4=>A.new (.cells (aU [(.int .u8 0),(.int .i64 0),(.int .i64 0)] (Int.toNat n37)) 3 true) g1 (λg3 g4=>A.new (.cells [(.slice none 0 0)] 1 true) g4 (λO g5=>A.heap (.st (.pointer (some ⟨O,0,none⟩)) [(.slice (some ⟨g3,0,(some 13)⟩) (Int.toNat n37) ((Int.toNat n37)+1))]) g5 (λo5 b2=>A.peek (.lg cc 1 (.pointer (some ⟨O,0,none⟩))) b2 (λg6=>A.ucV g6 (λb3 g7=>A.chk b3 ( A.uc0 g7 ( A.opt (lenS b3) (λJ=>A.opt (mkOk J J) (λo6=>A.new (.cells (aU [(.bool false)] (Int.toNat J)) 1 true) b2 (λa6 g8=>A.chk (.func (.func 65) ⟨[]⟩ ⟨[(.pointer (some ⟨a0,0,none⟩)),(.pointer (some ⟨a5,0,none⟩)),(.pointer (some ⟨O,0,none⟩))]⟩) ( A.opt (idS 1 (.slice (some ⟨a6,0,(some 11)⟩) (Int.toNat J) ((Int.toNat J)+1)) 0) (λg9=>A.heap (.st g9 [(.bool true)]) g8 (λo7 h0=>A.new (.cells [(.int .i64 0)] 1 true) h0 (λh1 h2=>A.loop (λh3 h4 a1=>A.unV h4 (λx61 h5=>A.un0 h5 ( A.opt (lenS x61) (λx63=>A.cmp .gtr x63 0 (λh6=>A.cond h6 ( A.opt (idS 1 x61 0) (λx65=>A.peek (.lg cc 1 x65) a1 (λh7=>A.ucI .i64 h7 (λn67 h8=>A.uc0 h8 ( A.opt (slS 1 x61 (some 1) none none) (λb4=>A.chk b4 ( A.loop (λh9 i0 a7=>A.unV i0 (λa2 i1=>A.unI i1 (λn75 i2=>A.un0 i2 ( A.cmp .lss n75 3 (λj0=>A.cond j0 ( A.join (λj1 j2=>A.unV j1 (λj3 j4=>A.un0 j4 ( A.ari .add .u8 n75 1 (λn82=>h9 [(.v j3),(.i n82)] j2)))) (λb5=>A.opt (fdP 0 (.pointer (some ⟨a0,0,none⟩))) (λb6=>A.chk b6 ( A.peek (.lg cc 2 b6) a7 (λj5=>A.ucI .i64 j5 (λn86 j6=>A.ucI .i64 j6 (λn88 j7=>A.uc0 j7 ( A.call 62 [(.i n86),(.i n88),(.i n67),(.i n75)] a7 (λj8 b7=>A.unI j8 (λn92 j9=>A.unI j9 (λn94 k0=>A.un0 k0 ( A.cmp .neq n94 0 (λk1=>A.cond k1 ( b5 [(.v a2)] b7) ( A.callv (.func (.func 65) ⟨[]⟩ ⟨[(.pointer (some ⟨a0,0,none⟩)),(.pointer (some ⟨a5,0,none⟩)),(.pointer (some ⟨O,0,none⟩))]⟩) [(.int .i64 n67),(.int .u8 n75)] [(.agg [(.i .u8),(.i .i64),(.i .i64)])] b7 (λk2 a3=>A.unI k2 (λn99 k3=>A.unI k3 (λn101 k4=>A.unI k4 (λn103 k5=>A.un0 k5 ( A.opt (idS 1 (.slice (some ⟨a6,0,(some 11)⟩) (Int.toNat J) ((Int.toNat J)+1)) n92) (λk6=>A.peek (.lg cc 1 k6) a3 (λk7=>A.ucB k7 (λk8 k9=>A.uc0 k9 ( A.join (λl0 a4=>A.unV l0 (λl1 l2=>A.un0 l2 ( A.peek (.lg cc 1 (.pointer (some ⟨O,0,none⟩))) a4 (λl3=>A.ucV l3 (λb8 l4=>A.chk b8 ( A.uc0 l4 ( A.opt (idS 3 b8 n92) (λl5=>A.peek (.lg cc 3 l5) a4 (λl6=>A.ucI .u8 l6 (λl7 l8=>A.ucI .i64 l8 (λl9 m0=>A.ucI .i64 m0 (λn122 m1=>A.uc0 m1 ( A.eqs [((.i l7),(.i n99)),((.i l9),(.i n101)),((.i n122),(.i n103))] (λm2=>A.cond (!m2) ( K [(.v (.slice none 0 0)),(.i 11)] a4) ( b5 [(.v l1)] a4))))))))))))))) (λb9=>A.cond (!k8) ( A.peek (.lg cc 1 (.pointer (some ⟨O,0,none⟩))) a3 (λm3=>A.ucV m3 (λc0 m4=>A.chk c0 ( A.uc0 m4 ( A.opt (idS 3 c0 n92) (λm5=>A.heap (.st m5 [(.int .u8 n99),(.int .i64 n101),(.int .i64 n103)]) a3 (λo8 m6=>A.opt (idS 1 (.slice (some ⟨a6,0,(some 11)⟩) (Int.toNat J) ((Int.toNat J)+1)) n92) (λm7=>A.heap (.st m7 [(.bool true)]) m6 (λo9 m8=>A.new (.cells [(.int .i64 n92)] 1 true) m8 (λm9 n0=>A.heap (.ap cc 1 8 a2 (.slice (some ⟨m9,0,(some 11)⟩) 1 2)) n0 (λn1 n2=>A.ucV n1 (λc1 o0=>A.chk c1 ( A.uc0 o0 ( b9 [(.v c1)] n2)))))))))))))) ( b9 [(.v a2)] a3))))))))))))))))))))))))) ( h3 [(.v a2)] a7)))))) [(.v b4),(.i 0)] a1))))))) ( A.peek (.lg cc 1 (.pointer (some ⟨O,0,none⟩))) a1 (λo1=>A.ucV o1 (λd0 o2=>A.chk d0 ( A.uc0 o2 ( K [(.v d0),(.i 0)] a1)))))))))) [(.v (.slice (some ⟨h1,0,(some 11)⟩) 1 2))] h2))))))))))))))))))))))))))))))))))))))))
/-- crimp/sheets.Cell -/
def f44(ls:List Lf)(h:HT)(K:List Lf->HT->R):R:=A.unI ls (λn6 a1=>A.unI a1 (λn8 a2=>A.unI a2 (λJ a3=>A.un0 a3 ( A.call 35 [(.i n6),(.i n8)] h (λa4 O=>A.unI a4 (λn14 a5=>A.un0 a5 ( A.cmp .neq n14 0 (λa6=>A.cond a6 ( K [(.i 0),(.i 0),(.i 0),(.i n14)] O) ( A.call 68 [(.i n6),(.i n8),(.i J)] O (λa7 a0=>A.unB a7 (λa8 a9=>A.un0 a9 ( A.cond (!a8) ( K [(.i 0),(.i 0),(.i 0),(.i 7)] a0) ( A.call 69 [(.i n6),(.i n8),(.i J)] a0 (λb0 b1=>A.unI b0 (λn23 b2=>A.unI b2 (λn25 b3=>A.unI b3 (λn27 b4=>A.un0 b4 ( K [(.i n23),(.i n25),(.i n27),(.i 0)] b1))))))))))))))))))
/-- crimp/cells.Move -/
def f45(ls:List Lf)(h:HT)(K:List Lf->HT->R):R:=A.unI ls (λn6 a2=>A.unI a2 (λn8 a3=>A.unI a3 (λJ a4=>A.unI a4 (λn12 a5=>A.unI a5 (λn14 a6=>A.unI a6 (λn16 a7=>A.un0 a7 ( A.call 15 [(.i n6),(.i n8),(.i J)] h (λa8 O=>A.unI a8 (λn20 a9=>A.un0 a9 ( A.cmp .neq n20 0 (λb0=>A.cond b0 ( K [(.i 0),(.i 0),(.i 0),(.i 1)] O) ( A.call 70 [(.i n12),(.i n14),(.i n16)] O (λb1 a0=>A.unI b1 (λn25 b2=>A.un0 b2 ( A.cmp .neq n25 0 (λb3=>A.cond b3 ( K [(.i 0),(.i 0),(.i 0),(.i 1)] a0) ( A.call 71 [(.i n6),(.i n8),(.i J),(.i n12),(.i n14),(.i n16)] a0 (λb4 b5=>A.unI b4 (λn30 b6=>A.unI b6 (λn32 b7=>A.unI b7 (λn34 b8=>A.un0 b8 ( A.call 70 [(.i n30),(.i n32),(.i n34)] b5 (λb9 a1=>A.unI b9 (λn38 c0=>A.un0 c0 ( A.cmp .neq n38 0 (λc1=>A.cond c1 ( K [(.i 0),(.i 0),(.i 0),(.i 3)] a1) ( K [(.i n30),(.i n32),(.i n34),(.i 0)] a1)))))))))))))))))))))))))))
/-- crimp/segments.Pattern -/
def f46(ls:List Lf)(h:HT)(K:List Lf->HT->R):R:=A.unI ls (λn6 a9=>A.unI a9 (λn8 b0=>A.unV b0 (λa1 b1=>A.un0 b1 ( A.call 35 [(.i n6),(.i n8)] h (λb2 a2=>A.unI b2 (λn14 b3=>A.un0 b3 ( A.cmp .neq n14 0 (λb4=>A.cond b4 ( A.opt (chk2 (.slice none 0 0)) (λi1=>K [(.i 0),(.i 0),(.v (.slice none 0 0)),(.i 0),(.i n14)] a2)) ( A.call 72 [(.i n6),(.i n8)] a2 (λb5 b6=>A.unV b5 (λx20 b7=>A.un0 b7 ( A.new (.map [] 0) b6 (λa3 b8=>A.opt (lenS a1) (λb9=>A.loop (λc0 c1 O=>A.unV c1 (λa0 d0=>A.unI d0 (λn30 d1=>A.un0 d1 ( A.cmp .lss n30 b9 (λd2=>A.cond d2 ( A.opt (idS 5 a1 n30) (λd3=>A.peek (.lg cc 5 d3) O (λd4=>A.ucI .u8 d4 (λn35 d5=>A.ucI .u8 d5 (λn37 d6=>A.ucI .i64 d6 (λn39 d7=>A.ucI .i64 d7 (λn41 d8=>A.ucI .i64 d8 (λn43 d9=>A.uc0 d9 ( A.call 73 [(.v x20),(.i n35),(.i n37),(.i n39),(.i n41),(.i n43)] O (λe0 a4=>A.unV e0 (λa5 e1=>A.unI e1 (λn49 e2=>A.un0 e2 ( A.cmp .neq n49 0 (λf0=>A.cond f0 ( A.opt (chk2 (.slice none 0 0)) (λi2=>K [(.i 0),(.i 0),(.v (.slice none 0 0)),(.i n30),(.i n49)] a4)) ( A.opt (lenS a5) (λf1=>A.loop (λf2 gl J=>A.unV gl (λa6 g0=>A.unI g0 (λn59 g1=>A.un0 g1 ( A.cmp .lss n59 f1 (λg2=>A.cond g2 ( A.opt (idS 2 a5 n59) (λg3=>A.peek (.lg cc 2 g3) J (λg4=>A.ucI .i64 g4 (λn64 g5=>A.ucI .u8 g5 (λn66 g6=>A.uc0 g6 ( A.peek (.fn (luG cc 100 false (.int .u8 0) (.map (some a3)) (.agg ⟨[(.int .i64 n64),(.int .u8 n66)]⟩) false)) J (λg7=>A.ucI .u8 g7 (λn69 g8=>A.uc0 g8 ( A.cmp .neq n69 0 (λg9=>A.cond g9 ( A.opt (chk2 (.slice none 0 0)) (λj0=>K [(.i 0),(.i 0),(.v (.slice none 0 0)),(.i n30),(.i 8)] J)) ( A.heap (.fn (muG cc 100 (.map (some a3)) (.agg ⟨[(.int .i64 n64),(.int .u8 n66)]⟩) (.int .u8 n35))) J (λj1 h0=>A.new (.cells [(.int .i64 n64),(.int .u8 n66),(.int .u8 n35)] 3 true) h0 (λh1 h2=>A.heap (.ap cc 3 16 a6 (.slice (some ⟨h1,0,(some 13)⟩) 1 2)) h2 (λh3 h4=>A.ucV h3 (λa7 h5=>A.chk a7 ( A.uc0 h5 ( A.ari .add .i64 n59 1 (λn81=>f2 [(.v a7),(.i n81)] h4)))))))))))))))))) ( A.ari .add .i64 n30 1 (λn82=>c0 [(.v a6),(.i n82)] J))))))) [(.v a0),(.i 0)] a4)))))))))))))))) ( A.call 74 [(.v a0),(.v (.func (.func 75) ⟨[]⟩ ⟨[]⟩))] O (λh6 h7=>A.un0 h6 ( A.call 77 [(.v a0)] h7 (λh8 h9=>A.unV h8 (λa8 i0=>A.un0 i0 ( A.opt (chk2 a8) (λj2=>K [(.i n6),(.i n8),(.v a8),(.i 0),(.i 0)] h9)))))))))))) [(.v (.slice none 0 0)),(.i 0)] b8))))))))))))))
/-- crimp/corners.All -/
def f47(ls:List Lf)(h:HT)(K:List Lf->HT->R):R:=A.unI ls (λn6 J=>A.unI J (λn8 O=>A.un0 O ( A.call 78 [(.i n6),(.i n8)] h (λa0 a1=>A.unV a0 (λa2 a3=>A.unI a3 (λn14 a4=>A.un0 a4 ( K [(.v a2),(.i n14)] a1)))))))
/-- slices.IndexFunc[[]crimp/api.Point,crimp/api.Point] -/
def f48(ls:List Lf)(h:HT)(K:List Lf->HT->R):R:=A.unV ls (λO a1=>A.unV a1 (λx8 a2=>A.un0 a2 ( A.opt (lenS O) (λa3=>A.loop (λa4 a5 J=>A.unI a5 (λn14 a6=>A.un0 a6 ( A.cmp .lss n14 a3 (λa7=>A.cond a7 ( A.opt (idS 2 O n14) (λa8=>A.peek (.lg cc 2 a8) J (λa9=>A.ucI .i64 a9 (λn19 b0=>A.ucI .i64 b0 (λn21 b1=>A.uc0 b1 ( A.callv x8 [(.agg ⟨[(.int .i64 n19),(.int .i64 n21)]⟩)] [(.leaf .b)] J (λb2 a0=>A.unB b2 (λb3 b4=>A.un0 b4 ( A.cond b3 ( K [(.i n14)] a0) ( A.ari .add .i64 n14 1 (λn27=>a4 [(.i n27)] a0))))))))))) ( K [(.i (-1))] J))))) [(.i 0)] h))))
/-- crimp/places.Open$1 -/
def f49(ls:List Lf)(h:HT)(K:List Lf->HT->R):R:=A.unI ls (λn6 O=>A.unI O (λn8 a0=>A.unV a0 (λa1 a2=>A.un0 a2 ( A.peek (.lg cc 3 a1) h (λa3=>A.ucI .i64 a3 (λn13 a4=>A.ucI .i64 a4 (λn15 a5=>A.ucV a5 (λJ a6=>A.chk J ( A.uc0 a6 ( A.call 27 [(.i n13),(.i n15),(.v J),(.i n6),(.i n8)] h (λa7 a8=>A.unB a7 (λa9 b0=>A.unI b0 (λn23 b1=>A.un0 b1 ( K [(.b (!a9))] a8))))))))))))))
/-- crimp/corners.Creases -/
def f50(ls:List Lf)(h:HT)(K:List Lf->HT->R):R:=A.unI ls (λn6 a9=>A.unI a9 (λn8 b0=>A.unV b0 (λb1 b2=>A.unI b2 (λn12 b3=>A.unI b3 (λn14 b4=>A.un0 b4 ( A.new (.cells [(.int .i64 n6),(.int .i64 n8),b1] 3 true) h (λJ a2=>A.peek (.lg cc 3 (.pointer (some ⟨J,0,none⟩))) a2 (λb5=>A.ucI .i64 b5 (λn19 b6=>A.ucI .i64 b6 (λn21 b7=>A.ucV b7 (λa3 b8=>A.chk a3 ( A.uc0 b8 ( A.call 14 [(.i n19),(.i n21),(.v a3)] a2 (λb9 O=>A.unI b9 (λn27 c0=>A.un0 c0 ( A.cmp .neq n27 0 (λc1=>A.cond c1 ( K [(.v (.slice none 0 0)),(.i n27)] O) ( A.opt (fdP 0 (.pointer (some ⟨J,0,none⟩))) (λa4=>A.chk a4 ( A.peek (.lg cc 2 a4) O (λd0=>A.ucI .i64 d0 (λn32 d1=>A.ucI .i64 d1 (λn34 d2=>A.uc0 d2 ( A.call 79 [(.i n32),(.i n34),(.i n12),(.i n14)] O (λd3 a5=>A.unI d3 (λn38 d4=>A.un0 d4 ( A.cmp .neq n38 0 (λd5=>A.cond d5 ( K [(.v (.slice none 0 0)),(.i n38)] a5) ( A.new (.cells [(.slice none 0 0)] 1 true) a5 (λa0 a6=>A.opt (fdP 0 (.pointer (some ⟨J,0,none⟩))) (λx43=>A.chk x43 ( A.peek (.lg cc 2 x43) a6 (λd6=>A.ucI .i64 d6 (λn45 d7=>A.ucI .i64 d7 (λn47 d8=>A.uc0 d8 ( A.call 80 [(.i n45),(.i n47),(.i n12),(.i n14)] a6 (λd9 e0=>A.unV d9 (λe1 e2=>A.un0 e2 ( A.rfun 800 e1 [(.pointer (some ⟨J,0,none⟩)),(.pointer (some ⟨a0,0,none⟩))] e0 (λf0 a1=>A.pend f0 ( A.peek (.lg cc 1 (.pointer (some ⟨a0,0,none⟩))) a1 (λf1=>A.ucV f1 (λa7 f2=>A.chk a7 ( A.uc0 f2 ( A.call 82 [(.v a7),(.v (.func (.func 83) ⟨[]⟩ ⟨[]⟩))] a1 (λgl a8=>A.un0 gl ( A.peek (.lg cc 1 (.pointer (some ⟨a0,0,none⟩))) a8 (λg0=>A.ucV g0 (λx61 g1=>A.chk x61 ( A.uc0 g1 ( A.call 84 [(.v x61)] a8 (λg2 g3=>A.unV g2 (λx65 g4=>A.un0 g4 ( K [(.v x65),(.i 0)] g3)))))))))))))) ( K [(.v (.slice none 0 0)),(.i 0)] a1) []))))))))))))))))))))))))))))))))))))))))
/-- (*crimp/places.chain).add -/
def f51(ls:List Lf)(h:HT)(K:List Lf->HT->R):R:=A.unV ls (λJ a4=>A.unI a4 (λn8 a5=>A.unI a5 (λa6 a7=>A.un0 a7 ( A.call 67 [(.i n8),(.i a6)] h (λa8 O=>A.unI a8 (λn14 a9=>A.unI a9 (λn16 b0=>A.unI b0 (λn18 b1=>A.unI b1 (λn20 b2=>A.un0 b2 ( A.opt (nilP J) (λa0=>A.chk a0 ( A.opt (fdP 0 a0) (λa1=>A.chk a1 ( A.peek (.lg cc 3 a1) O (λb3=>A.ucI .u8 b3 (λn25 b4=>A.ucI .i64 b4 (λn27 b5=>A.ucI .i64 b5 (λn29 b6=>A.uc0 b6 ( A.call 6 [(.i n25),(.i n27),(.i n29),(.i n14),(.i n16),(.i n18)] O (λb7 b8=>A.unI b7 (λn33 b9=>A.unI b9 (λn35 c0=>A.unI c0 (λn37 c1=>A.unI c1 (λn39 d0=>A.un0 d0 ( A.opt (nilP J) (λa2=>A.chk a2 ( A.opt (fdP 0 a2) (λa3=>A.chk a3 ( A.heap (.st a3 [(.int .u8 n33),(.int .i64 n35),(.int .i64 n37)]) b8 (λd2 d1=>K [] d1))))))))))))))))))))))))))))))
/-- crimp/lines.Through -/
def f52(ls:List Lf)(h:HT)(K:List Lf->HT->R):R:=A.unI ls (λn6 a2=>A.unI a2 (λn8 a3=>A.unI a3 (λJ a4=>A.un0 a4 ( A.cmp .lss n6 1 (λa5=>A.cond a5 ( K [(.i 0),(.i 0),(.i 1)] h) ( A.cmp .gtr n6 4 (λa6=>A.cond a6 ( K [(.i 0),(.i 0),(.i 1)] h) ( A.call 85 [(.i n8),(.i J)] h (λa7 O=>A.unI a7 (λn16 a8=>A.un0 a8 ( A.cmp .neq n16 0 (λa9=>A.cond a9 ( K [(.i 0),(.i 0),(.i 1)] O) ( A.call 86 [(.i n6),(.i n8),(.i J)] O (λb0 a0=>A.unI b0 (λn21 b1=>A.un0 b1 ( A.ari .quo .i64 n21 2 (λn23=>A.ari .rem .i64 n21 2 (λn24=>A.cmp .neq n24 0 (λb2=>A.cond b2 ( K [(.i 0),(.i 0),(.i 7)] a0) ( A.call 87 [(.i n6),(.i n23)] a0 (λb3 a1=>A.unI b3 (λn28 b4=>A.un0 b4 ( A.cmp .neq n28 0 (λb5=>A.cond b5 ( K [(.i 0),(.i 0),(.i 3)] a1) ( K [(.i n6),(.i n23),(.i 0)] a1)))))))))))))))))))))))))
/-- crimp/crimpref03.Corners -/
def f53(ls:List Lf)(h:HT)(K:List Lf->HT->R):R:=A.unI ls (λn6 a0=>A.unI a0 (λn8 a1=>A.unI a1 (λJ a2=>A.un0 a2 ( A.ari .mul .i64 2 n6 (λn12=>A.ari .mul .i64 2 n8 (λn13=>A.ari .add .i64 n12 2 (λn14=>A.ari .add .i64 n12 2 (λn15=>A.ari .add .i64 n13 2 (λn16=>A.ari .add .i64 n13 2 (λn17=>A.conv .i64 J (λn18=>A.conv .i64 J (λn19=>A.ari .add .i64 n19 1 (λn20=>A.ari .rem .i64 n20 4 (λn21=>A.ari .rem .i64 n18 2 (λn22=>A.cmp .eql n22 1 (λa3=>A.join (λa4 a5=>A.unI a4 (λn26 a6=>A.unI a6 (λn28 a7=>A.un0 a7 ( A.ari .add .i64 n12 1 (λn30=>A.ari .add .i64 n13 1 (λn31=>A.opt (inB 4 n26) (λb4=>A.opt (cm [(.i n12),(.i n13),(.i n14),(.i n13),(.i n15),(.i n16),(.i n12),(.i n17)] 0 [(n26,2)] 2) (λa8=>A.unI a8 (λn34 a9=>A.unI a9 (λn36 b0=>A.un0 b0 ( A.opt (inB 4 n28) (λb5=>A.opt (cm [(.i n12),(.i n13),(.i n14),(.i n13),(.i n15),(.i n16),(.i n12),(.i n17)] 0 [(n28,2)] 2) (λb1=>A.unI b1 (λn40 b2=>A.unI b2 (λn42 b3=>A.un0 b3 ( K [(.i n30),(.i n31),(.i n34),(.i n36),(.i n40),(.i n42)] a5)))))))))))))))) (λO=>A.cond a3 ( O [(.i n21),(.i n18)] h) ( O [(.i n18),(.i n21)] h))))))))))))))))))
/-- crimp/crimpref01.Far -/
def f54(ls:List Lf)(h:HT)(K:List Lf->HT->R):R:=A.unI ls (λn6 J=>A.unI J (λn8 O=>A.unI O (λa0 a1=>A.unI a1 (λn12 a2=>A.un0 a2 ( A.call 88 [(.i n6)] h (λa3 a4=>A.unI a3 (λn16 a5=>A.unI a5 (λn18 a6=>A.un0 a6 ( A.ari .mul .i64 n16 a0 (λn20=>A.ari .mul .i64 n18 n12 (λn21=>A.ari .add .i64 n20 n21 (λn22=>A.ari .mul .i64 2 n8 (λn23=>A.ari .sub .i64 n22 n23 (λn24=>K [(.i n24)] a4))))))))))))))
/-- crimp/crimpref02.Point -/
def f55(ls:List Lf)(h:HT)(K:List Lf->HT->R):R:=A.unI ls (λn6 b1=>A.unI b1 (λn8 b2=>A.unI b2 (λb3 b4=>A.unI b4 (λn12 b5=>A.unI b5 (λn14 b6=>A.un0 b6 ( A.cmp .eql n6 1 (λb7=>A.join (λb8 J=>A.unI b8 (λn19 b9=>A.unI b9 (λn21 c0=>A.un0 c0 ( A.cmp .eql n6 2 (λc1=>A.join (λd0 O=>A.unI d0 (λn26 d1=>A.unI d1 (λn28 d2=>A.un0 d2 ( A.cmp .eql n6 3 (λd3=>A.join (λd4 a0=>A.unI d4 (λn33 d5=>A.unI d5 (λn35 d6=>A.un0 d6 ( A.cmp .eql n6 4 (λd7=>A.join (λd8 a1=>A.unI d8 (λn40 d9=>A.unI d9 (λn42 e0=>A.un0 e0 ( A.cmp .eql n6 5 (λe1=>A.join (λe2 a2=>A.unI e2 (λn47 f0=>A.unI f0 (λn49 f1=>A.un0 f1 ( A.cmp .eql n6 6 (λf2=>A.join (λgl a3=>A.unI gl (λn54 g0=>A.unI g0 (λn56 g1=>A.un0 g1 ( A.cmp .eql n6 7 (λg2=>A.join (λg3 g4=>A.unI g3 (λn61 g5=>A.unI g5 (λn63 g6=>A.un0 g6 ( A.ari .mul .i64 2 n8 (λn65=>A.ari .add .i64 n61 n65 (λn66=>A.ari .mul .i64 2 b3 (λn67=>A.ari .add .i64 n63 n67 (λn68=>K [(.i n66),(.i n68)] g4)))))))) (λa4=>A.cond g2 ( a4 [(.i n14),(.i n12)] a3) ( a4 [(.i n54),(.i n56)] a3))))))) (λa5=>A.cond f2 ( A.ari .sub .i64 0 n14 (λn71=>a5 [(.i n12),(.i n71)] a2)) ( a5 [(.i n47),(.i n49)] a2))))))) (λa6=>A.cond e1 ( A.ari .sub .i64 0 n14 (λn73=>A.ari .sub .i64 0 n12 (λn74=>a6 [(.i n73),(.i n74)] a1))) ( a6 [(.i n40),(.i n42)] a1))))))) (λa7=>A.cond d7 ( A.ari .sub .i64 0 n12 (λn76=>a7 [(.i n76),(.i n14)] a0)) ( a7 [(.i n33),(.i n35)] a0))))))) (λa8=>A.cond d3 ( A.ari .sub .i64 0 n12 (λn78=>a8 [(.i n14),(.i n78)] O)) ( a8 [(.i n26),(.i n28)] O))))))) (λa9=>A.cond c1 ( A.ari .sub .i64 0 n12 (λn80=>A.ari .sub .i64 0 n14 (λn81=>a9 [(.i n80),(.i n81)] J))) ( a9 [(.i n19),(.i n21)] J))))))) (λb0=>A.cond b7 ( A.ari .sub .i64 0 n14 (λn83=>b0 [(.i n83),(.i n12)] h)) ( b0 [(.i n12),(.i n14)] h)))))))))
/-- crimp/crimpref03.With -/
def f56(ls:List Lf)(h:HT)(K:List Lf->HT->R):R:=A.unI ls (λn6 a4=>A.unI a4 (λn8 a5=>A.unI a5 (λa1 a6=>A.unI a6 (λn12 a7=>A.unI a7 (λn14 a8=>A.unI a8 (λn16 a9=>A.un0 a9 ( A.loop (λb0 b1 O=>A.unI b1 (λn21 b2=>A.un0 b2 ( A.cmp .lss n21 3 (λb3=>A.cond b3 ( A.join (λb4 b5=>A.un0 b4 ( A.ari .add .i64 n21 1 (λn26=>b0 [(.i n26)] b5))) (λa2=>A.opt (inB 3 n21) (λh0=>A.opt (cm [(.i n6),(.i n8),(.i a1),(.i n12),(.i n14),(.i n16)] 0 [(n21,2)] 2) (λb6=>A.unI b6 (λn30 b7=>A.unI b7 (λn32 b8=>A.un0 b8 ( A.ari .add .i64 n21 1 (λn34=>A.ari .rem .i64 n34 3 (λn35=>A.opt (inB 3 n35) (λx36=>A.opt (cm [(.i n6),(.i n8),(.i a1),(.i n12),(.i n14),(.i n16)] 0 [(n35,2)] 2) (λb9=>A.unI b9 (λn38 c0=>A.unI c0 (λn40 c1=>A.un0 c1 ( A.ari .add .i64 n21 2 (λn42=>A.ari .rem .i64 n42 3 (λn43=>A.opt (inB 3 n43) (λh1=>A.opt (cm [(.i n6),(.i n8),(.i a1),(.i n12),(.i n14),(.i n16)] 0 [(n43,2)] 2) (λd0=>A.unI d0 (λn46 d1=>A.unI d1 (λn48 d2=>A.un0 d2 ( A.ari .rem .i64 n30 2 (λn50=>A.cmp .eql n50 0 (λd3=>A.cond d3 ( a2 [] O) ( A.ari .rem .i64 n32 2 (λn52=>A.cmp .eql n52 0 (λd4=>A.cond d4 ( a2 [] O) ( A.loop (λa0 d5 a3=>A.unI d5 (λn57 d6=>A.un0 d6 ( A.cmp .lss n57 4 (λd7=>A.cond d7 ( A.ari .sub .i64 n30 1 (λn60=>A.ari .quo .i64 n60 2 (λn61=>A.ari .sub .i64 n32 1 (λn62=>A.ari .quo .i64 n62 2 (λn63=>A.call 53 [(.i n61),(.i n63),(.i n57)] a3 (λd8 J=>A.unI d8 (λn66 d9=>A.unI d9 (λn68 e0=>A.unI e0 (λn70 e1=>A.unI e1 (λn72 e2=>A.unI e2 (λn74 f0=>A.unI f0 (λn76 f1=>A.un0 f1 ( A.eqs [((.i n70),(.i n38)),((.i n72),(.i n40))] (λf2=>A.cond f2 ( A.eqs [((.i n74),(.i n46)),((.i n76),(.i n48))] (λgl=>A.cond gl ( K [(.i n61),(.i n63),(.i n57)] J) ( A.eqs [((.i n70),(.i n46)),((.i n72),(.i n48))] (λg0=>A.cond g0 ( A.eqs [((.i n74),(.i n38)),((.i n76),(.i n40))] (λg1=>A.join (λg2 g3=>A.un0 g2 ( A.ari .add .u8 n57 1 (λn84=>a0 [(.i n84)] g3))) (λg4=>A.cond g1 ( K [(.i n61),(.i n63),(.i n57)] J) ( g4 [] J)))) ( A.ari .add .u8 n57 1 (λn86=>a0 [(.i n86)] J)))))) ( A.eqs [((.i n70),(.i n46)),((.i n72),(.i n48))] (λg5=>A.cond g5 ( A.eqs [((.i n74),(.i n38)),((.i n76),(.i n40))] (λg6=>A.join (λg7 g8=>A.un0 g7 ( A.ari .add .u8 n57 1 (λn91=>a0 [(.i n91)] g8))) (λg9=>A.cond g6 ( K [(.i n61),(.i n63),(.i n57)] J) ( g9 [] J)))) ( A.ari .add .u8 n57 1 (λn93=>a0 [(.i n93)] J)))))))))))))))))) ( a2 [] a3))))) [(.i 0)] O))))))))))))))))))))))))))) ( K [(.i 0),(.i 0),(.i 4)] O))))) [(.i 0)] h)))))))
/-- crimp/crimpref02.Told -/
def f57(ls:List Lf)(h:HT)(K:List Lf->HT->R):R:=A.unI ls (λn6 a3=>A.unI a3 (λn8 a4=>A.unI a4 (λa5 a6=>A.unI a6 (λn12 a7=>A.unI a7 (λn14 a8=>A.unI a8 (λn16 a9=>A.un0 a9 ( A.loop (λJ b0 O=>A.unI b0 (λn21 b1=>A.un0 b1 ( A.cmp .lss n21 8 (λb2=>A.cond b2 ( A.ari .quo .i64 n6 2 (λn24=>A.ari .quo .i64 n8 2 (λn25=>A.call 55 [(.i n21),(.i n24),(.i n25),(.i 2),(.i 0)] O (λb3 a0=>A.unI b3 (λn28 b4=>A.unI b4 (λn30 b5=>A.un0 b5 ( A.eqs [((.i n28),(.i a5)),((.i n30),(.i n12))] (λb6=>A.cond b6 ( A.call 55 [(.i n21),(.i n24),(.i n25),(.i 0),(.i 2)] a0 (λb7 a1=>A.unI b7 (λn35 b8=>A.unI b8 (λn37 b9=>A.un0 b9 ( A.eqs [((.i n35),(.i n14)),((.i n37),(.i n16))] (λc0=>A.cond c0 ( A.call 55 [(.i n21),(.i n24),(.i n25),(.i 0),(.i 0)] a1 (λc1 a2=>A.unI c1 (λn42 d0=>A.unI d0 (λn44 d1=>A.un0 d1 ( A.eqs [((.i n42),(.i n6)),((.i n44),(.i n8))] (λd2=>A.join (λd3 d4=>A.un0 d3 ( A.ari .add .u8 n21 1 (λn49=>J [(.i n49)] d4))) (λd5=>A.cond d2 ( K [(.i n21),(.i n24),(.i n25)] a2) ( d5 [] a2)))))))) ( A.ari .add .u8 n21 1 (λn51=>J [(.i n51)] a1)))))))) ( A.ari .add .u8 n21 1 (λn52=>J [(.i n52)] a0)))))))))) ( K [(.i 8),(.i 0),(.i 0)] O))))) [(.i 0)] h)))))))
/-- crimp/crimpref01.Reflect -/
def f58(ls:List Lf)(h:HT)(K:List Lf->HT->R):R:=A.unI ls (λn6 O=>A.unI O (λn8 a0=>A.unI a0 (λJ a1=>A.unI a1 (λn12 a2=>A.un0 a2 ( A.call 88 [(.i n6)] h (λa3 a4=>A.unI a3 (λn16 a5=>A.unI a5 (λn18 a6=>A.un0 a6 ( A.call 54 [(.i n6),(.i n8),(.i J),(.i n12)] a4 (λa7 a8=>A.unI a7 (λn22 a9=>A.un0 a9 ( A.ari .mul .i64 2 n22 (λn24=>A.ari .mul .i64 n16 n16 (λn25=>A.ari .mul .i64 n18 n18 (λn26=>A.ari .add .i64 n25 n26 (λn27=>A.ari .quo .i64 n24 n27 (λn28=>A.ari .mul .i64 n28 n16 (λn29=>A.ari .sub .i64 J n29 (λn30=>A.ari .mul .i64 n28 n18 (λn31=>A.ari .sub .i64 n12 n31 (λn32=>K [(.i n30),(.i n32)] a8)))))))))))))))))))))
/-- crimp/crimpref05.Id -/
def f59(ls:List Lf)(h:HT)(K:List Lf->HT->R):R:=A.unI ls (λn6 O=>A.unI O (λn8 a0=>A.unI a0 (λJ a1=>A.unI a1 (λn12 a2=>A.unI a2 (λn14 a3=>A.un0 a3 ( A.cmp .lss J 0 (λa4=>A.cond a4 ( K [(.i (-1))] h) ( A.cmp .lss n12 0 (λa5=>A.cond a5 ( K [(.i (-1))] h) ( A.cmp .geq J n6 (λa6=>A.cond a6 ( K [(.i (-1))] h) ( A.cmp .geq n12 n8 (λa7=>A.cond a7 ( K [(.i (-1))] h) ( A.cmp .gtr n14 3 (λa8=>A.cond a8 ( K [(.i (-1))] h) ( A.ari .mul .i64 4 n6 (λn21=>A.ari .mul .i64 n21 n12 (λn22=>A.ari .mul .i64 4 J (λn23=>A.ari .add .i64 n22 n23 (λn24=>A.conv .i64 n14 (λn25=>A.ari .add .i64 n24 n25 (λn26=>K [(.i n26)] h))))))))))))))))))))))
/-- crimp/crimpref03.Neighbour -/
def f60(ls:List Lf)(h:HT)(K:List Lf->HT->R):R:=A.unI ls (λn6 a0=>A.unI a0 (λn8 a1=>A.unI a1 (λJ a2=>A.unI a2 (λn12 a3=>A.un0 a3 ( A.call 89 [(.i n6),(.i n8),(.i J),(.i n12)] h (λa4 a5=>A.unI a4 (λn16 a6=>A.unI a6 (λn18 a7=>A.un0 a7 ( A.call 53 [(.i n6),(.i n8),(.i J)] a5 (λa8 a9=>A.unI a8 (λn22 b0=>A.unI b0 (λn24 b1=>A.unI b1 (λn26 b2=>A.unI b2 (λn28 b3=>A.unI b3 (λn30 b4=>A.unI b4 (λn32 b5=>A.un0 b5 ( A.loop (λb6 b7 O=>A.unI b7 (λn37 b8=>A.unI b8 (λn39 b9=>A.unI b9 (λn41 c0=>A.unI c0 (λn43 c1=>A.unI c1 (λn45 d0=>A.unI d0 (λn47 d1=>A.unI d1 (λn49 d2=>A.un0 d2 ( A.cmp .lss n37 3 (λd3=>A.cond d3 ( A.opt (inB 3 n37) (λg5=>A.opt (cm [(.i n39),(.i n41),(.i n43),(.i n45),(.i n47),(.i n49)] 0 [(n37,2)] 2) (λd4=>A.unI d4 (λn54 d5=>A.unI d5 (λn56 d6=>A.un0 d6 ( A.call 58 [(.i n16),(.i n18),(.i n54),(.i n56)] O (λd7 d8=>A.unI d7 (λn60 d9=>A.unI d9 (λn62 e0=>A.un0 e0 ( A.opt (inB 3 n37) (λg6=>A.opt (putL [(.i n39),(.i n41),(.i n43),(.i n45),(.i n47),(.i n49)] 0 [(n37,2)] [(.i n60),(.i n62)]) (λx65=>A.unI x65 (λn66 e1=>A.unI e1 (λn68 e2=>A.unI e2 (λn70 f0=>A.unI f0 (λn72 f1=>A.unI f1 (λn74 f2=>A.unI f2 (λn76 gl=>A.un0 gl ( A.ari .add .i64 n37 1 (λn78=>b6 [(.i n78),(.i n66),(.i n68),(.i n70),(.i n72),(.i n74),(.i n76)] d8)))))))))))))))))))) ( A.call 56 [(.i n39),(.i n41),(.i n43),(.i n45),(.i n47),(.i n49)] O (λg0 g1=>A.unI g0 (λn81 g2=>A.unI g2 (λn83 g3=>A.unI g3 (λn85 g4=>A.un0 g4 ( K [(.i n81),(.i n83),(.i n85)] g1)))))))))))))))) [(.i 0),(.i n22),(.i n24),(.i n26),(.i n28),(.i n30),(.i n32)] a9)))))))))))))))))
/-- slices.IndexFunc[[]crimp/patterns.Crease,crimp/patterns.Crease] -/
def f61(ls:List Lf)(h:HT)(K:List Lf->HT->R):R:=A.unV ls (λO a1=>A.unV a1 (λx8 a2=>A.un0 a2 ( A.opt (lenS O) (λa3=>A.loop (λa4 a5 J=>A.unI a5 (λn14 a6=>A.un0 a6 ( A.cmp .lss n14 a3 (λa7=>A.cond a7 ( A.opt (idS 3 O n14) (λa8=>A.peek (.lg cc 3 a8) J (λa9=>A.ucI .i64 a9 (λn19 b0=>A.ucI .u8 b0 (λn21 b1=>A.ucI .u8 b1 (λn23 b2=>A.uc0 b2 ( A.callv x8 [(.agg ⟨[(.int .i64 n19),(.int .u8 n21),(.int .u8 n23)]⟩)] [(.leaf .b)] J (λb3 a0=>A.unB b3 (λb4 b5=>A.un0 b5 ( A.cond b4 ( K [(.i n14)] a0) ( A.ari .add .i64 n14 1 (λn29=>a4 [(.i n29)] a0)))))))))))) ( K [(.i (-1))] J))))) [(.i 0)] h))))
/-- crimp/sheets.Neighbour -/
def f62(ls:List Lf)(h:HT)(K:List Lf->HT->R):R:=A.unI ls (λn6 a0=>A.unI a0 (λn8 a1=>A.unI a1 (λa2 a3=>A.unI a3 (λn12 a4=>A.un0 a4 ( A.call 44 [(.i n6),(.i n8),(.i a2)] h (λa5 J=>A.unI a5 (λn16 a6=>A.unI a6 (λn18 a7=>A.unI a7 (λn20 a8=>A.unI a8 (λn22 a9=>A.un0 a9 ( A.cmp .neq n22 0 (λb0=>A.cond b0 ( K [(.i 0),(.i n22)] J) ( A.call 90 [(.i n16),(.i n18),(.i n20),(.i n12)] J (λb1 O=>A.unI b1 (λn27 b2=>A.unI b2 (λn29 b3=>A.unI b3 (λn31 b4=>A.unI b4 (λn33 b5=>A.un0 b5 ( A.cmp .neq n33 0 (λb6=>A.cond b6 ( K [(.i 0),(.i 1)] O) ( A.call 91 [(.i n6),(.i n8),(.i n27),(.i n29),(.i n31)] O (λb7 b8=>A.unI b7 (λn38 b9=>A.unI b9 (λn40 c0=>A.un0 c0 ( K [(.i n38),(.i n40)] b8)))))))))))))))))))))))))
/-- crimp/places.creased -/
def f63(ls:List Lf)(h:HT)(K:List Lf->HT->R):R:=A.unI ls (λn6 a1=>A.unI a1 (λn8 a2=>A.unV a2 (λJ a3=>A.un0 a3 ( A.opt (lenS J) (λb6=>A.new (.map [] 0) h (λa0 a4=>A.opt (lenS J) (λa5=>A.loop (λa6 a7 O=>A.unI a7 (λn19 a8=>A.un0 a8 ( A.cmp .lss n19 a5 (λa9=>A.cond a9 ( A.opt (idS 3 J n19) (λb0=>A.peek (.lg cc 3 b0) O (λb1=>A.ucI .i64 b1 (λn24 b2=>A.ucI .u8 b2 (λn26 b3=>A.ucI .u8 b3 (λn28 b4=>A.uc0 b4 ( A.heap (.fn (muG cc 100 (.map (some a0)) (.agg ⟨[(.int .i64 n24),(.int .u8 n26)]⟩) (.bool true))) O (λb7 b5=>A.ari .add .i64 n19 1 (λn32=>a6 [(.i n32)] b5))))))))) ( K [(.v (.map (some a0)))] O))))) [(.i 0)] a4)))))))
/-- crimp/sheets.Count -/
def f64(ls:List Lf)(h:HT)(K:List Lf->HT->R):R:=A.unI ls (λn6 O=>A.unI O (λn8 a0=>A.un0 a0 ( A.call 35 [(.i n6),(.i n8)] h (λa1 J=>A.unI a1 (λn12 a2=>A.un0 a2 ( A.cmp .neq n12 0 (λa3=>A.cond a3 ( K [(.i 0)] J) ( A.ari .mul .i64 4 n6 (λn15=>A.ari .mul .i64 n15 n8 (λn16=>K [(.i n16)] J))))))))))
/-- crimp/places.relative$1 -/
def f65(ls:List Lf)(h:HT)(K:List Lf->HT->R):R:=A.unI ls (λn6 a6=>A.unI a6 (λn8 a7=>A.unV a7 (λa0 a8=>A.unV a8 (λa9 b0=>A.unV b0 (λx14 b1=>A.un0 b1 ( A.opt (fdP 0 a0) (λa1=>A.chk a1 ( A.peek (.lg cc 2 a1) h (λb2=>A.ucI .i64 b2 (λn18 b3=>A.ucI .i64 b3 (λn20 b4=>A.uc0 b4 ( A.call 39 [(.i n18),(.i n20),(.i n6),(.i n8)] h (λb5 J=>A.unI b5 (λn24 b6=>A.unI b6 (λn26 b7=>A.unI b7 (λn28 b8=>A.un0 b8 ( A.peek (.lg cc 1 a9) J (λb9=>A.ucV b9 (λa2 c0=>A.chk a2 ( A.uc0 c0 ( A.peek (.fn (luG cc 100 false (.bool false) a2 (.agg ⟨[(.int .i64 n24),(.int .u8 n26)]⟩) false)) J (λc1=>A.ucB c1 (λd0 d1=>A.uc0 d1 ( A.cond (!d0) ( A.peek (.lg cc 1 x14) J (λd2=>A.ucV d2 (λa3 d3=>A.chk a3 ( A.uc0 d3 ( A.opt (idS 3 a3 n6) (λd4=>A.peek (.lg cc 3 d4) J (λd5=>A.ucI .u8 d5 (λn41 d6=>A.ucI .i64 d6 (λn43 d7=>A.ucI .i64 d7 (λn45 d8=>A.uc0 d8 ( K [(.i n41),(.i n43),(.i n45)] J))))))))))) ( A.opt (fdP 0 a0) (λa4=>A.chk a4 ( A.peek (.lg cc 2 a4) J (λd9=>A.ucI .i64 d9 (λn49 e0=>A.ucI .i64 e0 (λn51 e1=>A.uc0 e1 ( A.call 66 [(.i n49),(.i n51),(.i n24),(.i n26)] J (λe2 f0=>A.unI e2 (λn55 f1=>A.unI f1 (λn57 f2=>A.unI f2 (λn59 gl=>A.un0 gl ( A.call 67 [(.i n55),(.i n57)] f0 (λg0 O=>A.unI g0 (λn63 g1=>A.unI g1 (λn65 g2=>A.unI g2 (λn67 g3=>A.unI g3 (λn69 g4=>A.un0 g4 ( A.peek (.lg cc 1 x14) O (λg5=>A.ucV g5 (λa5 g6=>A.chk a5 ( A.uc0 g6 ( A.opt (idS 3 a5 n6) (λg7=>A.peek (.lg cc 3 g7) O (λg8=>A.ucI .u8 g8 (λn76 g9=>A.ucI .i64 g9 (λn78 h0=>A.ucI .i64 h0 (λn80 h1=>A.uc0 h1 ( A.call 6 [(.i n63),(.i n65),(.i n67),(.i n76),(.i n78),(.i n80)] O (λh2 h3=>A.unI h2 (λn84 h4=>A.unI h4 (λn86 h5=>A.unI h5 (λn88 h6=>A.unI h6 (λn90 h7=>A.un0 h7 ( K [(.i n84),(.i n86),(.i n88)] h3))))))))))))))))))))))))))))))))))))))))))))))))))))))))))
/-- crimp/sheets.Line -/
def f66(ls:List Lf)(h:HT)(K:List Lf->HT->R):R:=A.unI ls (λn6 O=>A.unI O (λn8 a0=>A.unI a0 (λa1 a2=>A.unI a2 (λn12 a3=>A.un0 a3 ( A.call 92 [(.i n6),(.i n8),(.i a1),(.i n12)] h (λa4 J=>A.unI a4 (λn16 a5=>A.unI a5 (λn18 a6=>A.unI a6 (λn20 a7=>A.unI a7 (λn22 a8=>A.un0 a8 ( A.cmp .neq n22 0 (λa9=>A.cond a9 ( K [(.i 0),(.i 0),(.i n22)] J) ( A.call 93 [(.i n16),(.i n18),(.i n20),(.i n12)] J (λb0 b1=>A.unI b0 (λn27 b2=>A.unI b2 (λn29 b3=>A.unI b3 (λn31 b4=>A.un0 b4 ( K [(.i n27),(.i n29),(.i n31)] b1))))))))))))))))))
/-- crimp/moves.Of -/
def f67(ls:List Lf)(h:HT)(K:List Lf->HT->R):R:=A.unI ls (λn6 O=>A.unI O (λn8 a0=>A.un0 a0 ( A.call 87 [(.i n6),(.i n8)] h (λa1 J=>A.unI a1 (λn12 a2=>A.un0 a2 ( A.cmp .neq n12 0 (λa3=>A.cond a3 ( K [(.i 0),(.i 0),(.i 0),(.i 1)] J) ( A.cmp .eql n6 1 (λa4=>A.cond a4 ( A.ari .mul .i64 2 n8 (λn16=>K [(.i 4),(.i n16),(.i 0),(.i 0)] J)) ( A.cmp .eql n6 2 (λa5=>A.cond a5 ( A.ari .mul .i64 2 n8 (λn18=>K [(.i 6),(.i 0),(.i n18),(.i 0)] J)) ( A.cmp .eql n6 3 (λa6=>A.cond a6 ( K [(.i 5),(.i n8),(.i n8),(.i 0)] J) ( A.ari .sub .i64 0 n8 (λn20=>K [(.i 7),(.i n20),(.i n8),(.i 0)] J)))))))))))))))
/-- (crimp/sheets.Sheet).has -/
def f68(ls:List Lf)(h:HT)(K:List Lf->HT->R):R:=A.unI ls (λn6 a0=>A.unI a0 (λn8 a1=>A.unI a1 (λJ a2=>A.un0 a2 ( A.join (λa3 a4=>A.unB a3 (λa5 a6=>A.un0 a6 ( K [(.b a5)] a4))) (λO=>A.cmp .geq J 0 (λa7=>A.cond a7 ( A.ari .mul .i64 4 n6 (λn18=>A.ari .mul .i64 n18 n8 (λn19=>A.cmp .lss J n19 (λa8=>O [(.b a8)] h)))) ( O [(.b false)] h)))))))
/-- (crimp/sheets.Sheet).cell -/
def f69(ls:List Lf)(h:HT)(K:List Lf->HT->R):R:=A.unI ls (λn6 O=>A.unI O (λn8 a0=>A.unI a0 (λJ a1=>A.un0 a1 ( A.ari .quo .i64 J 4 (λn12=>A.ari .rem .i64 n12 n6 (λn13=>A.ari .quo .i64 J 4 (λn14=>A.ari .quo .i64 n14 n6 (λn15=>A.ari .rem .i64 J 4 (λn16=>A.conv .u8 n16 (λn17=>K [(.i n13),(.i n15),(.i n17)] h))))))))))
/-- crimp/cells.Check -/
def f70(ls:List Lf)(h:HT)(K:List Lf->HT->R):R:=A.unI ls (λn6 J=>A.unI J (λn8 O=>A.unI O (λa0 a1=>A.un0 a1 ( A.cmp .lss n6 (-4096) (λa2=>A.cond a2 ( K [(.i 1)] h) ( A.cmp .gtr n6 4096 (λa3=>A.cond a3 ( K [(.i 1)] h) ( A.cmp .lss n8 (-4096) (λa4=>A.cond a4 ( K [(.i 1)] h) ( A.cmp .gtr n8 4096 (λa5=>A.cond a5 ( K [(.i 1)] h) ( A.cmp .gtr a0 3 (λa6=>A.cond a6 ( K [(.i 1)] h) ( K [(.i 0)] h))))))))))))))
/-- crimp/cells.moved -/
def f71(ls:List Lf)(h:HT)(K:List Lf->HT->R):R:=A.unI ls (λn6 a0=>A.unI a0 (λn8 a1=>A.unI a1 (λa2 a3=>A.unI a3 (λn12 a4=>A.unI a4 (λn14 a5=>A.unI a5 (λn16 a6=>A.un0 a6 ( A.call 94 [(.i n12),(.i n14),(.i n16)] h (λa7 a8=>A.unI a7 (λn20 a9=>A.unI a9 (λn22 b0=>A.un0 b0 ( A.opt (inB 4 n16) (λh5=>A.opt (iU gl2 0 [(n16,17)] 2) (λb1=>A.ucI .i64 b1 (λn26 b2=>A.ucI .i64 b2 (λn28 b3=>A.uc0 b3 ( A.call 95 [(.i n6),(.i n8),(.i a2),(.i n20),(.i n22)] a8 (λb4 b5=>A.unI b4 (λn32 b6=>A.unI b6 (λn34 b7=>A.unI b7 (λn36 b8=>A.un0 b8 ( A.call 95 [(.i n6),(.i 0),(.i 0),(.i n26),(.i n28)] b5 (λb9 c0=>A.unI b9 (λn40 c1=>A.unI c1 (λn42 d0=>A.unI d0 (λn44 d1=>A.un0 d1 ( A.ari .and .i64 n32 1 (λn46=>A.ari .sub .i64 n32 n46 (λn47=>A.ari .quo .i64 n47 2 (λn48=>A.ari .and .i64 n34 1 (λn49=>A.ari .sub .i64 n34 n49 (λn50=>A.ari .quo .i64 n50 2 (λn51=>A.loop (λd2 d3 J=>A.unI d3 (λn55 d4=>A.unI d4 (λn57 d5=>A.unI d5 (λn59 d6=>A.unI d6 (λn61 d7=>A.un0 d7 ( A.cmp .lss n55 4 (λd8=>A.cond d8 ( A.opt (inB 4 n55) (λh6=>A.opt (cm [(.i 0),(.i (-1)),(.i 2),(.i 0),(.i 0),(.i (-1)),(.i 2),(.i 0),(.i 0),(.i 1),(.i 0),(.i 0),(.i 3),(.i 0),(.i 0),(.i 2),(.i 0),(.i 1),(.i 0),(.i 1),(.i 1),(.i 1),(.i 0),(.i 3),(.i 0),(.i 0),(.i 0),(.i 0),(.i 0),(.i 2),(.i 2),(.i 2),(.i 2),(.i 0),(.i 0),(.i 1),(.i 2),(.i 1),(.i 0),(.i 1),(.i 0),(.i 0),(.i 0),(.i 3),(.i 0),(.i 0),(.i 1),(.i 2),(.i 2),(.i 0),(.i 2),(.i (-1)),(.i 0),(.i 1),(.i 0),(.i (-1)),(.i 0),(.i 1),(.i 0),(.i 0),(.i 2),(.i 0),(.i 0),(.i 0),(.i 0),(.i 0),(.i 0),(.i 2)] 0 [(n55,17)] 17) (λx65=>A.unI x65 (λn66 d9=>A.unI d9 (λn68 e0=>A.unI e0 (λn70 e1=>A.unI e1 (λn72 e2=>A.unI e2 (λn74 f0=>A.unI f0 (λn76 f1=>A.unI f1 (λn78 f2=>A.unI f2 (λn80 gl=>A.unI gl (λn82 g0=>A.unI g0 (λn84 g1=>A.unI g1 (λn86 g2=>A.unI g2 (λn88 g3=>A.unI g3 (λn90 g4=>A.unI g4 (λn92 g5=>A.unI g5 (λn94 g6=>A.unI g6 (λn96 g7=>A.unI g7 (λn98 g8=>A.un0 g8 ( A.eqs [((.i n66),(.i n40)),((.i n68),(.i n42))] (λg9=>A.join (λh0 h1=>A.unI h0 (λn103 h2=>A.unI h2 (λn105 h3=>A.unI h3 (λn107 h4=>A.un0 h4 ( A.ari .add .i64 n55 1 (λn109=>d2 [(.i n109),(.i n103),(.i n105),(.i n107)] h1)))))) (λO=>A.cond g9 ( A.conv .u8 n55 (λn111=>O [(.i n57),(.i n59),(.i n111)] J)) ( O [(.i n57),(.i n59),(.i n61)] J)))))))))))))))))))))))) ( K [(.i n57),(.i n59),(.i n61)] J)))))))) [(.i 0),(.i n48),(.i n51),(.i 0)] c0))))))))))))))))))))))))))))))))
/-- crimp/segments.pieces -/
def f72(ls:List Lf)(h:HT)(K:List Lf->HT->R):R:=A.unI ls (λn6 a1=>A.unI a1 (λn8 a2=>A.un0 a2 ( A.call 96 [(.i n6),(.i n8)] h (λa3 a4=>A.unV a3 (λJ a5=>A.unI a5 (λn14 a6=>A.un0 a6 ( A.opt (lenS J) (λd2=>A.new (.map [] 0) a4 (λa0 a7=>A.opt (lenS J) (λa8=>A.loop (λa9 b0 O=>A.unI b0 (λn23 b1=>A.un0 b1 ( A.cmp .lss n23 a8 (λb2=>A.cond b2 ( A.opt (idS 2 J n23) (λb3=>A.peek (.lg cc 2 b3) O (λb4=>A.ucI .i64 b4 (λn28 b5=>A.ucI .u8 b5 (λn30 b6=>A.uc0 b6 ( A.call 97 [(.i n6),(.i n8),(.i n28),(.i n30)] O (λb7 b8=>A.unI b7 (λn34 b9=>A.unI b9 (λn36 c0=>A.unI c0 (λn38 c1=>A.unI c1 (λn40 d0=>A.un0 d0 ( A.heap (.fn (muG cc 197 (.map (some a0)) (.agg ⟨[(.int .u8 n34),(.int .i64 n36),(.int .i64 n38)]⟩) (.agg ⟨[(.int .i64 n28),(.int .u8 n30),(.int .i64 n40)]⟩))) b8 (λd3 d1=>A.ari .add .i64 n23 1 (λn44=>a9 [(.i n44)] d1)))))))))))))) ( K [(.v (.map (some a0)))] O))))) [(.i 0)] a7))))))))))
/-- crimp/segments.units -/
def f73(ls:List Lf)(h:HT)(K:List Lf->HT->R):R:=A.unV ls (λa3 a4=>A.unI a4 (λn8 a5=>A.unI a5 (λO a6=>A.unI a6 (λn12 a7=>A.unI a7 (λn14 a8=>A.unI a8 (λn16 a9=>A.un0 a9 ( A.call 98 [(.i n8),(.i O),(.i n12),(.i n14),(.i n16)] h (λb0 a0=>A.unB b0 (λb1 b2=>A.un0 b2 ( A.cond (!b1) ( K [(.v (.slice none 0 0)),(.i 1)] a0) ( A.loop (λb3 b4 J=>A.unV b4 (λa1 b5=>A.unI b5 (λn27 b6=>A.un0 b6 ( A.cmp .neq n27 n16 (λb7=>A.cond b7 ( A.peek (.fn (luG cc 197 true (.agg ⟨[(.int .i64 0),(.int .u8 0),(.int .i64 0)]⟩) a3 (.agg ⟨[(.int .u8 O),(.int .i64 n12),(.int .i64 n27)]⟩) true)) J (λb8=>A.ucI .i64 b8 (λn31 b9=>A.ucI .u8 b9 (λn33 c0=>A.ucI .i64 c0 (λn35 c1=>A.ucB c1 (λd0 d1=>A.uc0 d1 ( A.cond (!d0) ( K [(.v (.slice none 0 0)),(.i 7)] J) ( A.cmp .gtr n35 n16 (λd2=>A.cond d2 ( K [(.v (.slice none 0 0)),(.i 7)] J) ( A.new (.cells [(.int .i64 n31),(.int .u8 n33)] 2 true) J (λd3 d4=>A.heap (.ap cc 2 16 a1 (.slice (some ⟨d3,0,(some 12)⟩) 1 2)) d4 (λd5 d6=>A.ucV d5 (λa2 d7=>A.chk a2 ( A.uc0 d7 ( b3 [(.v a2),(.i n35)] d6))))))))))))))) ( A.call 99 [(.v a1)] J (λd8 d9=>A.unV d8 (λe0 e1=>A.un0 e1 ( K [(.v e0),(.i 0)] d9))))))))) [(.v (.slice none 0 0)),(.i n14)] a0)))))))))))
/-- slices.SortFunc[[]crimp/patterns.Crease,crimp/patterns.Crease] -/
def f74(ls:List Lf)(h:HT)(K:List Lf->HT->R):R:=A.unV ls (λJ a0=>A.unV a0 (λx8 a1=>A.un0 a1 ( A.opt (lenS J) (λO=>A.conv .u64 O (λn11=>A.call 101 [(.i n11)] h (λa2 a3=>A.unI a2 (λn14 a4=>A.un0 a4 ( A.call 100 [(.v J),(.i 0),(.i O),(.i n14),(.v x8)] a3 (λa5 a6=>A.un0 a5 ( K [] a6))))))))))
/-- crimp/segments.Pattern$1 -/
def f75(ls:List Lf)(h:HT)(K:List Lf->HT->R):R:=A.unI ls (λn6 J=>A.unI J (λn8 O=>A.unI O (λa9 a0=>A.unI a0 (λn12 a1=>A.unI a1 (λn14 a2=>A.unI a2 (λn16 a3=>A.un0 a3 ( A.conv .i64 n8 (λn18=>A.conv .i64 n14 (λn19=>A.new (.cells [(.int .i64 n6),(.int .i64 n12),(.int .i64 n18),(.int .i64 n19)] 2 true) h (λa4 a5=>A.call 76 [(.v (.slice (some ⟨a4,0,(some 12)⟩) 2 3))] a5 (λa6 a7=>A.unI a6 (λn24 a8=>A.un0 a8 ( K [(.i n24)] a7)))))))))))))
/-- crimp/segments.order[int] -/
def f76(ls:List Lf)(h:HT)(K:List Lf->HT->R):R:=A.unV ls (λO a1=>A.un0 a1 ( A.opt (lenS O) (λx8=>A.loop (λa2 a3 J=>A.unI a3 (λn12 a4=>A.un0 a4 ( A.cmp .lss n12 x8 (λa5=>A.cond a5 ( A.opt (idS 2 O n12) (λa6=>A.peek (.lg cc 2 a6) J (λa7=>A.ucI .i64 a7 (λn17 a8=>A.ucI .i64 a8 (λn19 a9=>A.uc0 a9 ( A.call 102 [(.i n17),(.i n19)] J (λb0 a0=>A.unI b0 (λn23 b1=>A.un0 b1 ( A.cmp .neq n23 0 (λb2=>A.cond b2 ( K [(.i n23)] a0) ( A.ari .add .i64 n12 1 (λn26=>a2 [(.i n26)] a0)))))))))))) ( K [(.i 0)] J))))) [(.i 0)] h)))
/-- slices.Clip[[]crimp/patterns.Crease,crimp/patterns.Crease] -/
def f77(ls:List Lf)(h:HT)(K:List Lf->HT->R):R:=A.unV ls (λJ a0=>A.un0 a0 ( A.opt (lenS J) (λx8=>A.opt (lenS J) (λa1=>A.opt (slS 3 J none (some x8) (some a1)) (λO=>A.chk O ( K [(.v O)] h))))))
/-- crimp/sheets.Points -/
def f78(ls:List Lf)(h:HT)(K:List Lf->HT->R):R:=A.unI ls (λn6 a5=>A.unI a5 (λn8 a6=>A.un0 a6 ( A.call 35 [(.i n6),(.i n8)] h (λa7 a0=>A.unI a7 (λn12 a8=>A.un0 a8 ( A.cmp .neq n12 0 (λa9=>A.cond a9 ( K [(.v (.slice none 0 0)),(.i n12)] a0) ( A.loop (λb0 b1 a1=>A.unV b1 (λa2 b2=>A.unI b2 (λn20 b3=>A.un0 b3 ( A.ari .mul .i64 2 n8 (λn22=>A.cmp .lss n20 n22 (λb4=>A.cond b4 ( A.loop (λb5 b6 J=>A.unV b6 (λO b7=>A.unI b7 (λn29 b8=>A.un0 b8 ( A.ari .mul .i64 2 n6 (λn31=>A.cmp .lss n29 n31 (λb9=>A.cond b9 ( A.ari .rem .i64 n29 2 (λn33=>A.ari .rem .i64 n20 2 (λn34=>A.cmp .eql n33 n34 (λc0=>A.join (λc1 d0=>A.unV c1 (λd1 d2=>A.un0 d2 ( A.ari .add .i64 n29 1 (λn40=>b5 [(.v d1),(.i n40)] d0)))) (λa3=>A.cond c0 ( A.new (.cells [(.int .i64 n29),(.int .i64 n20)] 2 true) J (λd3 d4=>A.heap (.ap cc 2 16 O (.slice (some ⟨d3,0,(some 12)⟩) 1 2)) d4 (λd5 d6=>A.ucV d5 (λa4 d7=>A.chk a4 ( A.uc0 d7 ( a3 [(.v a4)] d6)))))) ( a3 [(.v O)] J)))))) ( A.ari .add .i64 n20 1 (λn48=>b0 [(.v O),(.i n48)] J)))))))) [(.v a2),(.i 1)] a1) ( A.call 103 [(.v a2)] a1 (λd8 d9=>A.unV d8 (λe0 e1=>A.un0 e1 ( K [(.v e0),(.i 0)] d9)))))))))) [(.v (.slice none 0 0)),(.i 1)] a0))))))))
/-- crimp/corners.corner -/
def f79(ls:List Lf)(h:HT)(K:List Lf->HT->R):R:=A.unI ls (λn6 a0=>A.unI a0 (λn8 a1=>A.unI a1 (λO a2=>A.unI a2 (λn12 a3=>A.un0 a3 ( A.call 35 [(.i n6),(.i n8)] h (λa4 J=>A.unI a4 (λn16 a5=>A.un0 a5 ( A.cmp .neq n16 0 (λa6=>A.cond a6 ( K [(.i n16)] J) ( A.cmp .leq O 0 (λa7=>A.cond a7 ( K [(.i 7)] J) ( A.cmp .leq n12 0 (λa8=>A.cond a8 ( K [(.i 7)] J) ( A.ari .mul .i64 2 n6 (λn21=>A.cmp .geq O n21 (λa9=>A.cond a9 ( K [(.i 7)] J) ( A.ari .mul .i64 2 n8 (λn23=>A.cmp .geq n12 n23 (λb0=>A.cond b0 ( K [(.i 7)] J) ( A.ari .rem .i64 O 2 (λn25=>A.ari .rem .i64 n12 2 (λn26=>A.cmp .neq n25 n26 (λb1=>A.cond b1 ( K [(.i 7)] J) ( K [(.i 0)] J))))))))))))))))))))))))
/-- crimp/corners.walk -/
def f80(ls:List Lf)(h:HT)(K:List Lf->HT->R):R:=A.unI ls (λn6 a0=>A.unI a0 (λn8 a1=>A.unI a1 (λa2 a3=>A.unI a3 (λn12 a4=>A.un0 a4 ( A.new (.cells [(.int .i64 n6),(.int .i64 n8)] 2 true) h (λJ a5=>A.new (.cells [(.int .i64 a2),(.int .i64 n12)] 2 true) a5 (λO a6=>A.chk (.func (.func 104) ⟨[]⟩ ⟨[(.pointer (some ⟨O,0,none⟩)),(.pointer (some ⟨J,0,none⟩))]⟩) ( K [(.v (.func (.func 104) ⟨[]⟩ ⟨[(.pointer (some ⟨O,0,none⟩)),(.pointer (some ⟨J,0,none⟩))]⟩))] a6))))))))
/-- crimp/patterns.Kind -/
def f81(ls:List Lf)(h:HT)(K:List Lf->HT->R):R:=A.unI ls (λn6 a1=>A.unI a1 (λn8 a2=>A.unV a2 (λO a3=>A.unI a3 (λn12 a4=>A.unI a4 (λn14 a5=>A.un0 a5 ( A.call 108 [(.i n6),(.i n8),(.v O),(.i n12),(.i n14)] h (λa6 J=>A.unI a6 (λn18 a7=>A.unI a7 (λn20 a8=>A.unI a8 (λn22 a9=>A.unB a9 (λb0 b1=>A.unI b1 (λn26 b2=>A.un0 b2 ( A.cmp .neq n26 0 (λb3=>A.cond b3 ( K [(.i 0),(.i n26)] J) ( A.cond (!b0) ( K [(.i 0),(.i n26)] J) ( A.opt (idS 3 O n22) (λb4=>A.opt (fdP 2 b4) (λa0=>A.chk a0 ( A.peek (.lg cc 1 a0) J (λb5=>A.ucI .u8 b5 (λn32 b6=>A.uc0 b6 ( K [(.i n32),(.i 0)] J))))))))))))))))))))))
/-- slices.SortFunc[[]crimp/corners.Ray,crimp/corners.Ray] -/
def f82(ls:List Lf)(h:HT)(K:List Lf->HT->R):R:=A.unV ls (λJ a0=>A.unV a0 (λx8 a1=>A.un0 a1 ( A.opt (lenS J) (λO=>A.conv .u64 O (λn11=>A.call 101 [(.i n11)] h (λa2 a3=>A.unI a2 (λn14 a4=>A.un0 a4 ( A.call 109 [(.v J),(.i 0),(.i O),(.i n14),(.v x8)] a3 (λa5 a6=>A.un0 a5 ( K [] a6))))))))))
/-- crimp/corners.Creases$1 -/
def f83(ls:List Lf)(h:HT)(K:List Lf->HT->R):R:=A.unI ls (λn6 J=>A.unI J (λn8 O=>A.unI O (λa0 a1=>A.unI a1 (λn12 a2=>A.un0 a2 ( A.ari .sub .i64 n6 a0 (λn14=>K [(.i n14)] h))))))
/-- slices.Clip[[]crimp/corners.Ray,crimp/corners.Ray] -/
def f84(ls:List Lf)(h:HT)(K:List Lf->HT->R):R:=A.unV ls (λJ a0=>A.un0 a0 ( A.opt (lenS J) (λx8=>A.opt (lenS J) (λa1=>A.opt (slS 2 J none (some x8) (some a1)) (λO=>A.chk O ( K [(.v O)] h))))))
/-- crimp/lines.CheckPoint -/
def f85(ls:List Lf)(h:HT)(K:List Lf->HT->R):R:=A.unI ls (λn6 J=>A.unI J (λn8 O=>A.un0 O ( A.cmp .lss n6 (-65536) (λa0=>A.cond a0 ( K [(.i 1)] h) ( A.cmp .gtr n6 65536 (λa1=>A.cond a1 ( K [(.i 1)] h) ( A.cmp .lss n8 (-65536) (λa2=>A.cond a2 ( K [(.i 1)] h) ( A.cmp .gtr n8 65536 (λa3=>A.cond a3 ( K [(.i 1)] h) ( K [(.i 0)] h)))))))))))
/-- crimp/lines.along -/
def f86(ls:List Lf)(h:HT)(K:List Lf->HT->R):R:=A.unI ls (λn6 O=>A.unI O (λn8 a0=>A.unI a0 (λJ a1=>A.un0 a1 ( A.cmp .eql n6 1 (λa2=>A.cond a2 ( K [(.i n8)] h) ( A.cmp .eql n6 2 (λa3=>A.cond a3 ( K [(.i J)] h) ( A.cmp .eql n6 3 (λa4=>A.cond a4 ( A.ari .add .i64 n8 J (λn15=>K [(.i n15)] h)) ( A.ari .sub .i64 J n8 (λn16=>K [(.i n16)] h)))))))))))
/-- crimp/lines.Check -/
def f87(ls:List Lf)(h:HT)(K:List Lf->HT->R):R:=A.unI ls (λn6 J=>A.unI J (λn8 O=>A.un0 O ( A.cmp .lss n6 1 (λa0=>A.cond a0 ( K [(.i 1)] h) ( A.cmp .gtr n6 4 (λa1=>A.cond a1 ( K [(.i 1)] h) ( A.cmp .lss n8 (-4096) (λa2=>A.cond a2 ( K [(.i 1)] h) ( A.cmp .gtr n8 4096 (λa3=>A.cond a3 ( K [(.i 1)] h) ( K [(.i 0)] h)))))))))))
/-- crimp/crimpref01.Across -/
def f88(ls:List Lf)(h:HT)(K:List Lf->HT->R):R:=A.unI ls (λn6 J=>A.un0 J ( A.cmp .eql n6 1 (λt8=>A.cond t8 ( K [(.i 1),(.i 0)] h) ( A.cmp .eql n6 2 (λO=>A.cond O ( K [(.i 0),(.i 1)] h) ( A.cmp .eql n6 3 (λa0=>A.cond a0 ( K [(.i 1),(.i 1)] h) ( K [(.i (-1)),(.i 1)] h))))))))
/-- crimp/crimpref03.Line -/
def f89(ls:List Lf)(h:HT)(K:List Lf->HT->R):R:=A.unI ls (λn6 a1=>A.unI a1 (λn8 a2=>A.unI a2 (λa3 a4=>A.unI a4 (λn12 a5=>A.un0 a5 ( A.call 53 [(.i n6),(.i n8),(.i a3)] h (λa6 a7=>A.unI a6 (λn16 a8=>A.unI a8 (λn18 a9=>A.unI a9 (λn20 b0=>A.unI b0 (λn22 b1=>A.unI b1 (λn24 b2=>A.unI b2 (λn26 b3=>A.un0 b3 ( A.ari .add .i64 n12 1 (λn28=>A.ari .rem .i64 n28 3 (λn29=>A.opt (inB 3 n29) (λe2=>A.opt (cm [(.i n16),(.i n18),(.i n20),(.i n22),(.i n24),(.i n26)] 0 [(n29,2)] 2) (λb4=>A.unI b4 (λn32 b5=>A.unI b5 (λn34 b6=>A.un0 b6 ( A.ari .add .i64 n12 2 (λn36=>A.ari .rem .i64 n36 3 (λn37=>A.opt (inB 3 n37) (λf0=>A.opt (cm [(.i n16),(.i n18),(.i n20),(.i n22),(.i n24),(.i n26)] 0 [(n37,2)] 2) (λb7=>A.unI b7 (λn40 b8=>A.unI b8 (λn42 b9=>A.un0 b9 ( A.loop (λc0 c1 J=>A.unI c1 (λn47 d0=>A.unI d0 (λn49 d1=>A.unI d1 (λn51 d2=>A.un0 d2 ( A.cmp .leq n47 4 (λd3=>A.cond d3 ( A.call 88 [(.i n47)] J (λd4 O=>A.unI d4 (λn56 d5=>A.unI d5 (λn58 d6=>A.un0 d6 ( A.ari .mul .i64 n56 n32 (λn60=>A.ari .mul .i64 n58 n34 (λn61=>A.ari .add .i64 n60 n61 (λn62=>A.ari .mul .i64 n56 n40 (λn63=>A.ari .mul .i64 n58 n42 (λn64=>A.ari .add .i64 n63 n64 (λn65=>A.cmp .eql n62 n65 (λd7=>A.join (λd8 d9=>A.unI d8 (λn69 e0=>A.unI e0 (λn71 e1=>A.un0 e1 ( A.ari .add .u8 n47 1 (λn73=>c0 [(.i n73),(.i n69),(.i n71)] d9))))) (λa0=>A.cond d7 ( A.ari .mul .i64 n56 n32 (λn75=>A.ari .mul .i64 n58 n34 (λn76=>A.ari .add .i64 n75 n76 (λn77=>A.ari .quo .i64 n77 2 (λn78=>a0 [(.i n47),(.i n78)] O))))) ( a0 [(.i n49),(.i n51)] O)))))))))))))) ( K [(.i n49),(.i n51)] J))))))) [(.i 1),(.i 0),(.i 0)] a7)))))))))))))))))))))))))))
/-- crimp/cells.Neighbour -/
def f90(ls:List Lf)(h:HT)(K:List Lf->HT->R):R:=A.unI ls (λn6 a1=>A.unI a1 (λn8 a2=>A.unI a2 (λJ a3=>A.unI a3 (λn12 a4=>A.un0 a4 ( A.call 70 [(.i n6),(.i n8),(.i J)] h (λa5 O=>A.unI a5 (λn16 a6=>A.un0 a6 ( A.cmp .neq n16 0 (λa7=>A.cond a7 ( K [(.i 0),(.i 0),(.i 0),(.i 1)] O) ( A.cmp .gtr n12 2 (λa8=>A.cond a8 ( K [(.i 0),(.i 0),(.i 0),(.i 1)] O) ( A.opt (inB 4 J) (λx20=>A.opt (inB 3 n12) (λb6=>A.opt (iU gl2 4 [(J,17),(n12,3)] 3) (λa9=>A.ucI .i64 a9 (λn23 b0=>A.ucI .i64 b0 (λn25 b1=>A.ucI .u8 b1 (λn27 b2=>A.uc0 b2 ( A.ari .add .i64 n23 n6 (λn29=>A.ari .add .i64 n25 n8 (λn30=>A.call 70 [(.i n29),(.i n30),(.i n27)] O (λb3 a0=>A.unI b3 (λn33 b4=>A.un0 b4 ( A.cmp .neq n33 0 (λb5=>A.cond b5 ( K [(.i 0),(.i 0),(.i 0),(.i 3)] a0) ( K [(.i n29),(.i n30),(.i n27),(.i 0)] a0))))))))))))))))))))))))))
/-- crimp/sheets.Id -/
def f91(ls:List Lf)(h:HT)(K:List Lf->HT->R):R:=A.unI ls (λn6 a1=>A.unI a1 (λn8 a2=>A.unI a2 (λO a3=>A.unI a3 (λn12 a4=>A.unI a4 (λn14 a5=>A.un0 a5 ( A.call 35 [(.i n6),(.i n8)] h (λa6 a0=>A.unI a6 (λn18 a7=>A.un0 a7 ( A.cmp .neq n18 0 (λa8=>A.cond a8 ( K [(.i 0),(.i n18)] a0) ( A.call 70 [(.i O),(.i n12),(.i n14)] a0 (λa9 J=>A.unI a9 (λn23 b0=>A.un0 b0 ( A.cmp .neq n23 0 (λb1=>A.cond b1 ( K [(.i 0),(.i 7)] J) ( A.cmp .lss O 0 (λb2=>A.cond b2 ( K [(.i 0),(.i 7)] J) ( A.cmp .geq O n6 (λb3=>A.cond b3 ( K [(.i 0),(.i 7)] J) ( A.cmp .lss n12 0 (λb4=>A.cond b4 ( K [(.i 0),(.i 7)] J) ( A.cmp .geq n12 n8 (λb5=>A.cond b5 ( K [(.i 0),(.i 7)] J) ( A.ari .mul .i64 n12 n6 (λn30=>A.ari .add .i64 n30 O (λn31=>A.ari .mul .i64 4 n31 (λn32=>A.conv .i64 n14 (λn33=>A.ari .add .i64 n32 n33 (λn34=>K [(.i n34),(.i 0)] J)))))))))))))))))))))))))))))
/-- crimp/sheets.named -/
def f92(ls:List Lf)(h:HT)(K:List Lf->HT->R):R:=A.unI ls (λn6 a1=>A.unI a1 (λn8 a2=>A.unI a2 (λJ a3=>A.unI a3 (λn12 a4=>A.un0 a4 ( A.call 35 [(.i n6),(.i n8)] h (λa5 a0=>A.unI a5 (λn16 a6=>A.un0 a6 ( A.cmp .neq n16 0 (λa7=>A.cond a7 ( K [(.i 0),(.i 0),(.i 0),(.i n16)] a0) ( A.call 39 [(.i n6),(.i n8),(.i J),(.i n12)] a0 (λa8 O=>A.unI a8 (λn21 a9=>A.unI a9 (λn23 b0=>A.unI b0 (λn25 b1=>A.un0 b1 ( A.cmp .neq n25 0 (λb2=>A.cond b2 ( K [(.i 0),(.i 0),(.i 0),(.i 7)] O) ( A.eqs [((.i n21),(.i J)),((.i n23),(.i n12))] (λb3=>A.cond (!b3) ( K [(.i 0),(.i 0),(.i 0),(.i 7)] O) ( A.call 69 [(.i n6),(.i n8),(.i J)] O (λb4 b5=>A.unI b4 (λn31 b6=>A.unI b6 (λn33 b7=>A.unI b7 (λn35 b8=>A.un0 b8 ( K [(.i n31),(.i n33),(.i n35),(.i 0)] b5))))))))))))))))))))))))
/-- crimp/cells.Line -/
def f93(ls:List Lf)(h:HT)(K:List Lf->HT->R):R:=A.unI ls (λn6 a4=>A.unI a4 (λn8 a5=>A.unI a5 (λO a6=>A.unI a6 (λn12 a7=>A.un0 a7 ( A.call 70 [(.i n6),(.i n8),(.i O)] h (λa8 J=>A.unI a8 (λn16 a9=>A.un0 a9 ( A.cmp .neq n16 0 (λb0=>A.cond b0 ( K [(.i 0),(.i 0),(.i 1)] J) ( A.cmp .gtr n12 2 (λb1=>A.cond b1 ( K [(.i 0),(.i 0),(.i 1)] J) ( A.opt (inB 4 O) (λx20=>A.opt (iU gl2 0 [(O,17)] 17) (λb2=>A.ucI .i64 b2 (λn22 b3=>A.ucI .i64 b3 (λn24 b4=>A.ucI .u8 b4 (λn26 b5=>A.ucI .i64 b5 (λn28 b6=>A.ucI .i64 b6 (λn30 b7=>A.ucI .i64 b7 (λn32 b8=>A.ucI .u8 b8 (λn34 b9=>A.ucI .i64 b9 (λn36 c0=>A.ucI .i64 c0 (λn38 c1=>A.ucI .u8 c1 (λn40 d0=>A.ucI .i64 d0 (λn42 d1=>A.ucI .i64 d1 (λn44 d2=>A.ucI .u8 d2 (λn46 d3=>A.ucI .i64 d3 (λn48 d4=>A.ucI .i64 d4 (λn50 d5=>A.ucI .i64 d5 (λn52 d6=>A.ucI .i64 d6 (λn54 d7=>A.uc0 d7 ( A.ari .add .i64 n6 n28 (λn56=>A.cmp .eql n12 1 (λd8=>A.join (λd9 e0=>A.unI d9 (λn60 e1=>A.unI e1 (λn62 e2=>A.un0 e2 ( A.call 87 [(.i n60),(.i n62)] e0 (λf0 a0=>A.unI f0 (λn66 f1=>A.un0 f1 ( A.cmp .neq n66 0 (λf2=>A.cond f2 ( K [(.i 0),(.i 0),(.i 3)] a0) ( K [(.i n60),(.i n62),(.i 0)] a0))))))))) (λa1=>A.cond d8 ( A.ari .add .i64 n6 n8 (λn70=>A.ari .add .i64 n70 1 (λn71=>a1 [(.i 3),(.i n71)] J))) ( A.cmp .eql n12 2 (λgl=>A.join (λg0 g1=>A.unI g0 (λn75 g2=>A.unI g2 (λn77 g3=>A.un0 g3 ( a1 [(.i n75),(.i n77)] g1)))) (λa2=>A.cond gl ( A.ari .sub .i64 n8 n6 (λn80=>a2 [(.i 4),(.i n80)] J)) ( A.cmp .eql n26 2 (λg4=>A.join (λg5 g6=>A.unI g5 (λn84 g7=>A.unI g7 (λn86 g8=>A.un0 g8 ( a2 [(.i n84),(.i n86)] g6)))) (λa3=>A.cond g4 ( A.ari .add .i64 n8 n28 (λn89=>a3 [(.i n26),(.i n89)] J)) ( a3 [(.i n26),(.i n56)] J))))))))))))))))))))))))))))))))))))))))))
/-- crimp/cells.middle -/
def f94(ls:List Lf)(h:HT)(K:List Lf->HT->R):R:=A.unI ls (λn6 J=>A.unI J (λn8 O=>A.unI O (λa1 a0=>A.un0 a0 ( A.ari .mul .i64 2 n6 (λn12=>A.ari .add .i64 n12 1 (λn13=>A.ari .mul .i64 2 n8 (λn14=>A.ari .add .i64 n14 1 (λn15=>K [(.i n13),(.i n15)] h))))))))
/-- crimp/moves.Point -/
def f95(ls:List Lf)(h:HT)(K:List Lf->HT->R):R:=A.unI ls (λn6 a2=>A.unI a2 (λn8 a3=>A.unI a3 (λJ a4=>A.unI a4 (λn12 a5=>A.unI a5 (λn14 a6=>A.un0 a6 ( A.call 15 [(.i n6),(.i n8),(.i J)] h (λa7 O=>A.unI a7 (λn18 a8=>A.un0 a8 ( A.cmp .neq n18 0 (λa9=>A.cond a9 ( K [(.i 0),(.i 0),(.i 1)] O) ( A.call 85 [(.i n12),(.i n14)] O (λb0 a0=>A.unI b0 (λn23 b1=>A.un0 b1 ( A.cmp .neq n23 0 (λb2=>A.cond b2 ( K [(.i 0),(.i 0),(.i 1)] a0) ( A.opt (inB 8 n6) (λd3=>A.opt (iU gl1 0 [(n6,4)] 4) (λb3=>A.ucI .i64 b3 (λn28 b4=>A.ucI .i64 b4 (λn30 b5=>A.ucI .i64 b5 (λn32 b6=>A.ucI .i64 b6 (λn34 b7=>A.uc0 b7 ( A.call 16 [(.i n28),(.i n30),(.i n32),(.i n34),(.i n12),(.i n14)] a0 (λb8 b9=>A.unI b8 (λn38 c0=>A.unI c0 (λn40 c1=>A.un0 c1 ( A.ari .mul .i64 2 n8 (λn42=>A.ari .add .i64 n38 n42 (λn43=>A.ari .mul .i64 2 J (λn44=>A.ari .add .i64 n40 n44 (λn45=>A.call 85 [(.i n43),(.i n45)] b9 (λd0 a1=>A.unI d0 (λn48 d1=>A.un0 d1 ( A.cmp .neq n48 0 (λd2=>A.cond d2 ( K [(.i 0),(.i 0),(.i 3)] a1) ( K [(.i n43),(.i n45),(.i 0)] a1))))))))))))))))))))))))))))))))))))
/-- crimp/sheets.Units -/
def f96(ls:List Lf)(h:HT)(K:List Lf->HT->R):R:=A.unI ls (λn6 a2=>A.unI a2 (λn8 a3=>A.un0 a3 ( A.call 35 [(.i n6),(.i n8)] h (λa4 O=>A.unI a4 (λn12 a5=>A.un0 a5 ( A.cmp .neq n12 0 (λa6=>A.cond a6 ( K [(.v (.slice none 0 0)),(.i n12)] O) ( A.new (.cells [(.slice none 0 0)] 1 true) O (λa0 a7=>A.call 110 [(.i n6),(.i n8)] a7 (λa8 a9=>A.unV a8 (λb0 b1=>A.un0 b1 ( A.rfun 1536 b0 [(.pointer (some ⟨a0,0,none⟩))] a9 (λb2 J=>A.pend b2 ( A.peek (.lg cc 1 (.pointer (some ⟨a0,0,none⟩))) J (λb3=>A.ucV b3 (λa1 b4=>A.chk a1 ( A.uc0 b4 ( A.call 99 [(.v a1)] J (λb5 b6=>A.unV b5 (λb7 b8=>A.un0 b8 ( K [(.v b7),(.i 0)] b6)))))))) ( K [(.v (.slice none 0 0)),(.i 0)] J) [])))))))))))))
/-- crimp/segments.lies -/
def f97(ls:List Lf)(h:HT)(K:List Lf->HT->R):R:=A.unI ls (λn6 O=>A.unI O (λn8 a0=>A.unI a0 (λJ a1=>A.unI a1 (λn12 a2=>A.un0 a2 ( A.call 66 [(.i n6),(.i n8),(.i J),(.i n12)] h (λa3 a4=>A.unI a3 (λn16 a5=>A.unI a5 (λn18 a6=>A.unI a6 (λn20 a7=>A.un0 a7 ( A.call 111 [(.i n6),(.i n8),(.i J),(.i n12)] a4 (λa8 a9=>A.unI a8 (λn24 b0=>A.unI b0 (λn26 b1=>A.unI b1 (λn28 b2=>A.unI b2 (λn30 b3=>A.unI b3 (λn32 b4=>A.un0 b4 ( A.call 112 [(.i n16),(.i n24),(.i n26)] a9 (λb5 b6=>A.unI b5 (λn36 b7=>A.un0 b7 ( A.call 112 [(.i n16),(.i n28),(.i n30)] b6 (λb8 b9=>A.unI b8 (λn40 c0=>A.un0 c0 ( K [(.i n16),(.i n18),(.i n36),(.i n40)] b9)))))))))))))))))))))))
/-- crimp/segments.ordinary -/
def f98(ls:List Lf)(h:HT)(K:List Lf->HT->R):R:=A.unI ls (λn6 a0=>A.unI a0 (λn8 a1=>A.unI a1 (λa2 a3=>A.unI a3 (λn12 a4=>A.unI a4 (λn14 a5=>A.un0 a5 ( A.join (λa6 a7=>A.unB a6 (λa8 a9=>A.un0 a9 ( K [(.b a8)] a7))) (λJ=>A.cmp .geq n6 1 (λb0=>A.cond b0 ( A.cmp .leq n6 3 (λb1=>A.cond b1 ( A.call 87 [(.i n8),(.i a2)] h (λb2 O=>A.unI b2 (λn25 b3=>A.un0 b3 ( A.cmp .eql n25 0 (λb4=>A.cond b4 ( A.cmp .lss n12 n14 (λb5=>J [(.b b5)] O)) ( J [(.b false)] O)))))) ( J [(.b false)] h))) ( J [(.b false)] h)))))))))
/-- slices.Clip[[]crimp/sheets.Unit,crimp/sheets.Unit] -/
def f99(ls:List Lf)(h:HT)(K:List Lf->HT->R):R:=A.unV ls (λJ a0=>A.un0 a0 ( A.opt (lenS J) (λx8=>A.opt (lenS J) (λa1=>A.opt (slS 2 J none (some x8) (some a1)) (λO=>A.chk O ( K [(.v O)] h))))))
/-- slices.pdqsortCmpFunc[crimp/patterns.Crease] -/
def f100(ls:List Lf)(h:HT)(K:List Lf->HT->R):R:=A.unV ls (λJ g7=>A.unI g7 (λn8 g8=>A.unI g8 (λg9 h0=>A.unI h0 (λn12 h1=>A.unV h1 (λx14 h2=>A.un0 h2 ( A.loop (λh3 h4 a7=>A.unI h4 (λn19 h5=>A.unI h5 (λn21 h6=>A.unB h6 (λa8 h7=>A.unB h7 (λa6 h8=>A.unI h8 (λn27 h9=>A.un0 h9 ( A.join (λi0 i1=>A.unI i0 (λn31 i2=>A.unI i2 (λn33 j0=>A.unB j0 (λj1 j2=>A.unB j2 (λj3 j4=>A.unI j4 (λn39 j5=>A.un0 j5 ( h3 [(.i n31),(.i n33),(.b j1),(.b j3),(.i n39)] i1))))))) (λa0=>A.ari .sub .i64 n27 n21 (λn42=>A.cmp .leq n42 12 (λj6=>A.cond j6 ( A.call 113 [(.v J),(.i n21),(.i n27),(.v x14)] a7 (λj7 j8=>A.un0 j7 ( K [] j8))) ( A.cmp .eql n19 0 (λj9=>A.cond j9 ( A.call 114 [(.v J),(.i n21),(.i n27),(.v x14)] a7 (λk0 k1=>A.un0 k0 ( K [] k1))) ( A.join (λk2 k3=>A.unI k2 (λn51 k4=>A.un0 k4 ( A.call 116 [(.v J),(.i n21),(.i n27),(.v x14)] k3 (λk5 b2=>A.unI k5 (λn55 k6=>A.unI k6 (λn57 k7=>A.un0 k7 ( A.cmp .eql n57 2 (λk8=>A.join (λk9 O=>A.unI k9 (λn62 l0=>A.unI l0 (λn64 l1=>A.un0 l1 ( A.cond a6 ( A.cond a8 ( A.cmp .eql n64 1 (λl2=>A.join (λl3 a9=>A.un0 l3 ( A.cmp .gtr n21 0 (λl4=>A.cond l4 ( A.ari .sub .i64 n21 1 (λn70=>A.opt (idS 3 J n70) (λl5=>A.peek (.lg cc 3 l5) a9 (λl6=>A.ucI .i64 l6 (λn73 l7=>A.ucI .u8 l7 (λn75 l8=>A.ucI .u8 l8 (λn77 l9=>A.uc0 l9 ( A.opt (idS 3 J n62) (λm0=>A.peek (.lg cc 3 m0) a9 (λm1=>A.ucI .i64 m1 (λn81 m2=>A.ucI .u8 m2 (λn83 m3=>A.ucI .u8 m3 (λn85 m4=>A.uc0 m4 ( A.callv x14 [(.agg ⟨[(.int .i64 n73),(.int .u8 n75),(.int .u8 n77)]⟩),(.agg ⟨[(.int .i64 n81),(.int .u8 n83),(.int .u8 n85)]⟩)] [(.leaf (.i .i64))] a9 (λm5 b3=>A.unI m5 (λn89 m6=>A.un0 m6 ( A.cmp .lss n89 0 (λm7=>A.join (λm8 m9=>A.unI m8 (λn94 n0=>A.un0 n0 ( A.call 120 [(.v J),(.i n94),(.i n27),(.i n62),(.v x14)] m9 (λn1 b4=>A.unI n1 (λn98 n2=>A.unB n2 (λo0 o1=>A.un0 o1 ( A.ari .sub .i64 n98 n94 (λn102=>A.ari .sub .i64 n27 n98 (λn103=>A.ari .quo .i64 n42 8 (λn104=>A.cmp .lss n102 n103 (λo2=>A.join (λo3 o4=>A.unB o3 (λo5 o6=>A.unI o6 (λn110 o7=>A.unI o7 (λn112 o8=>A.un0 o8 ( a0 [(.i n51),(.i n110),(.b o0),(.b o5),(.i n112)] o4))))) (λb5=>A.cond o2 ( A.cmp .geq n102 n104 (λo9=>A.call 100 [(.v J),(.i n94),(.i n98),(.i n51),(.v x14)] b4 (λp0 p1=>A.un0 p0 ( A.ari .add .i64 n98 1 (λp2=>b5 [(.b o9),(.i p2),(.i n27)] p1))))) ( A.cmp .geq n103 n104 (λp3=>A.ari .add .i64 n98 1 (λp4=>A.call 100 [(.v J),(.i p4),(.i n27),(.i n51),(.v x14)] b4 (λp5 p6=>A.un0 p5 ( b5 [(.b p3),(.i n94),(.i n98)] p6))))))))))))))))) (λp7=>A.cond (!m7) ( A.call 119 [(.v J),(.i n21),(.i n27),(.i n62),(.v x14)] b3 (λp8 p9=>A.unI p8 (λn126 q0=>A.un0 q0 ( a0 [(.i n51),(.i n126),(.b a8),(.b a6),(.i n27)] p9)))) ( p7 [(.i n21)] b3)))))))))))))))))))) ( A.call 120 [(.v J),(.i n21),(.i n27),(.i n62),(.v x14)] a9 (λq1 b6=>A.unI q1 (λa1 q2=>A.unB q2 (λq3 q5=>A.un0 q5 ( A.ari .sub .i64 a1 n21 (λb7=>A.ari .sub .i64 n27 a1 (λb8=>A.ari .quo .i64 n42 8 (λn136=>A.cmp .lss b7 b8 (λq8=>A.join (λq9 r1=>A.unB q9 (λr2 r3=>A.unI r3 (λn142 r4=>A.unI r4 (λr5 r6=>A.un0 r6 ( a0 [(.i n51),(.i n142),(.b q3),(.b r2),(.i r5)] r1))))) (λb9=>A.cond q8 ( A.cmp .geq b7 n136 (λr7=>A.call 100 [(.v J),(.i n21),(.i a1),(.i n51),(.v x14)] b6 (λr8 r9=>A.un0 r8 ( A.ari .add .i64 a1 1 (λs0=>b9 [(.b r7),(.i s0),(.i n27)] r9))))) ( A.cmp .geq b8 n136 (λs1=>A.ari .add .i64 a1 1 (λs2=>A.call 100 [(.v J),(.i s2),(.i n27),(.i n51),(.v x14)] b6 (λs3 s4=>A.un0 s3 ( b9 [(.b s1),(.i n21),(.i a1)] s4)))))))))))))))))) (λc0=>A.cond l2 ( A.call 118 [(.v J),(.i n21),(.i n27),(.v x14)] O (λs5 c1=>A.unB s5 (λs6 s7=>A.un0 s7 ( A.cond s6 ( K [] c1) ( c0 [] c1))))) ( c0 [] O)))) ( A.cmp .gtr n21 0 (λs8=>A.cond s8 ( A.ari .sub .i64 n21 1 (λs9=>A.opt (idS 3 J s9) (λt0=>A.peek (.lg cc 3 t0) O (λt1=>A.ucI .i64 t1 (λt2 t3=>A.ucI .u8 t3 (λt4 t5=>A.ucI .u8 t5 (λt6 t7=>A.uc0 t7 ( A.opt (idS 3 J n62) (λt9=>A.peek (.lg cc 3 t9) O (λuc=>A.ucI .i64 uc (λu0 u1=>A.ucI .u8 u1 (λu2 u4=>A.ucI .u8 u4 (λu5 u9=>A.uc0 u9 ( A.callv x14 [(.agg ⟨[(.int .i64 t2),(.int .u8 t4),(.int .u8 t6)]⟩),(.agg ⟨[(.int .i64 u0),(.int .u8 u2),(.int .u8 u5)]⟩)] [(.leaf (.i .i64))] O (λv0 d0=>A.unI v0 (λv1 v2=>A.un0 v2 ( A.cmp .lss v1 0 (λv3=>A.join (λv4 v5=>A.unI v4 (λb0 v6=>A.un0 v6 ( A.call 120 [(.v J),(.i b0),(.i n27),(.i n62),(.v x14)] v5 (λv7 d1=>A.unI v7 (λa2 v8=>A.unB v8 (λv9 wv=>A.un0 wv ( A.ari .sub .i64 a2 b0 (λd2=>A.ari .sub .i64 n27 a2 (λd3=>A.ari .quo .i64 n42 8 (λd4=>A.cmp .lss d2 d3 (λww=>A.join (λwx wy=>A.unB wx (λwz wA=>A.unI wA (λwB wC=>A.unI wC (λwD wE=>A.un0 wE ( a0 [(.i n51),(.i wB),(.b v9),(.b wz),(.i wD)] wy))))) (λd5=>A.cond ww ( A.cmp .geq d2 d4 (λwF=>A.call 100 [(.v J),(.i b0),(.i a2),(.i n51),(.v x14)] d1 (λwG wH=>A.un0 wG ( A.ari .add .i64 a2 1 (λwI=>d5 [(.b wF),(.i wI),(.i n27)] wH))))) ( A.cmp .geq d3 d4 (λwJ=>A.ari .add .i64 a2 1 (λwK=>A.call 100 [(.v J),(.i wK),(.i n27),(.i n51),(.v x14)] d1 (λwL wM=>A.un0 wL ( d5 [(.b wJ),(.i b0),(.i a2)] wM))))))))))))))))) (λwN=>A.cond (!v3) ( A.call 119 [(.v J),(.i n21),(.i n27),(.i n62),(.v x14)] d0 (λwO wP=>A.unI wO (λwQ wR=>A.un0 wR ( a0 [(.i n51),(.i wQ),(.b a8),(.b a6),(.i n27)] wP)))) ( wN [(.i n21)] d0)))))))))))))))))))) ( A.call 120 [(.v J),(.i n21),(.i n27),(.i n62),(.v x14)] O (λwS d6=>A.unI wS (λa3 wT=>A.unB wT (λwU wV=>A.un0 wV ( A.ari .sub .i64 a3 n21 (λd7=>A.ari .sub .i64 n27 a3 (λd8=>A.ari .quo .i64 n42 8 (λd9=>A.cmp .lss d7 d8 (λwW=>A.join (λwX wY=>A.unB wX (λwZ w0=>A.unI w0 (λw1 w2=>A.unI w2 (λxb xd=>A.un0 xd ( a0 [(.i n51),(.i w1),(.b wU),(.b wZ),(.i xb)] wY))))) (λe0=>A.cond wW ( A.cmp .geq d7 d9 (λxe=>A.call 100 [(.v J),(.i n21),(.i a3),(.i n51),(.v x14)] d6 (λxg xh=>A.un0 xg ( A.ari .add .i64 a3 1 (λxi=>e0 [(.b xe),(.i xi),(.i n27)] xh))))) ( A.cmp .geq d8 d9 (λxj=>A.ari .add .i64 a3 1 (λxk=>A.call 100 [(.v J),(.i xk),(.i n27),(.i n51),(.v x14)] d6 (λxl xm=>A.un0 xl ( e0 [(.b xj),(.i n21),(.i a3)] xm)))))))))))))))))) ( A.cmp .gtr n21 0 (λxn=>A.cond xn ( A.ari .sub .i64 n21 1 (λxo=>A.opt (idS 3 J xo) (λxp=>A.peek (.lg cc 3 xp) O (λxq=>A.ucI .i64 xq (λxr xt=>A.ucI .u8 xt (λxu xw=>A.ucI .u8 xw (λxy xz=>A.uc0 xz ( A.opt (idS 3 J n62) (λxA=>A.peek (.lg cc 3 xA) O (λxB=>A.ucI .i64 xB (λxC xD=>A.ucI .u8 xD (λxE xF=>A.ucI .u8 xF (λxG xH=>A.uc0 xH ( A.callv x14 [(.agg ⟨[(.int .i64 xr),(.int .u8 xu),(.int .u8 xy)]⟩),(.agg ⟨[(.int .i64 xC),(.int .u8 xE),(.int .u8 xG)]⟩)] [(.leaf (.i .i64))] O (λxI e1=>A.unI xI (λxJ xK=>A.un0 xK ( A.cmp .lss xJ 0 (λxL=>A.join (λxM xN=>A.unI xM (λb1 xO=>A.un0 xO ( A.call 120 [(.v J),(.i b1),(.i n27),(.i n62),(.v x14)] xN (λxP e2=>A.unI xP (λa4 xQ=>A.unB xQ (λxR xS=>A.un0 xS ( A.ari .sub .i64 a4 b1 (λf0=>A.ari .sub .i64 n27 a4 (λf1=>A.ari .quo .i64 n42 8 (λf2=>A.cmp .lss f0 f1 (λxU=>A.join (λxV xW=>A.unB xV (λxX xY=>A.unI xY (λxZ x0=>A.unI x0 (λx1 x2=>A.un0 x2 ( a0 [(.i n51),(.i xZ),(.b xR),(.b xX),(.i x1)] xW))))) (λgl=>A.cond xU ( A.cmp .geq f0 f2 (λx6=>A.call 100 [(.v J),(.i b1),(.i a4),(.i n51),(.v x14)] e2 (λx7 x9=>A.un0 x7 ( A.ari .add .i64 a4 1 (λya=>gl [(.b x6),(.i ya),(.i n27)] x9))))) ( A.cmp .geq f1 f2 (λyb=>A.ari .add .i64 a4 1 (λyc=>A.call 100 [(.v J),(.i yc),(.i n27),(.i n51),(.v x14)] e2 (λyd ye=>A.un0 yd ( gl [(.b yb),(.i b1),(.i a4)] ye))))))))))))))))) (λyf=>A.cond (!xL) ( A.call 119 [(.v J),(.i n21),(.i n27),(.i n62),(.v x14)] e1 (λyg yh=>A.unI yg (λyi yj=>A.un0 yj ( a0 [(.i n51),(.i yi),(.b a8),(.b a6),(.i n27)] yh)))) ( yf [(.i n21)] e1)))))))))))))))))))) ( A.call 120 [(.v J),(.i n21),(.i n27),(.i n62),(.v x14)] O (λyk g0=>A.unI yk (λa5 yl=>A.unB yl (λym yn=>A.un0 yn ( A.ari .sub .i64 a5 n21 (λg1=>A.ari .sub .i64 n27 a5 (λg2=>A.ari .quo .i64 n42 8 (λg3=>A.cmp .lss g1 g2 (λyo=>A.join (λyp yq=>A.unB yp (λyr yu=>A.unI yu (λyv yw=>A.unI yw (λyx yy=>A.un0 yy ( a0 [(.i n51),(.i yv),(.b ym),(.b yr),(.i yx)] yq))))) (λg4=>A.cond yo ( A.cmp .geq g1 g3 (λyz=>A.call 100 [(.v J),(.i n21),(.i a5),(.i n51),(.v x14)] g0 (λyA yB=>A.un0 yA ( A.ari .add .i64 a5 1 (λyC=>g4 [(.b yz),(.i yC),(.i n27)] yB))))) ( A.cmp .geq g2 g3 (λyD=>A.ari .add .i64 a5 1 (λyE=>A.call 100 [(.v J),(.i yE),(.i n27),(.i n51),(.v x14)] g0 (λyF yG=>A.un0 yF ( g4 [(.b yD),(.i n21),(.i a5)] yG))))))))))))))))))))) (λg5=>A.cond k8 ( A.call 117 [(.v J),(.i n21),(.i n27),(.v x14)] b2 (λyH yI=>A.un0 yH ( A.ari .sub .i64 n27 1 (λyJ=>A.ari .sub .i64 n55 n21 (λyK=>A.ari .sub .i64 yJ yK (λyL=>g5 [(.i yL),(.i 1)] yI)))))) ( g5 [(.i n55),(.i n57)] b2)))))))))) (λg6=>A.cond (!a6) ( A.call 115 [(.v J),(.i n21),(.i n27),(.v x14)] a7 (λyM yN=>A.un0 yM ( A.ari .sub .i64 n19 1 (λyO=>g6 [(.i yO)] yN)))) ( g6 [(.i n19)] a7))))))))))))))) [(.i n12),(.i n8),(.b true),(.b true),(.i g9)] h))))))
/-- math/bits.Len -/
def f101(ls:List Lf)(h:HT)(K:List Lf->HT->R):R:=A.unI ls (λn6 J=>A.un0 J ( A.call 122 [(.i n6)] h (λO a0=>A.unI O (λa1 a2=>A.un0 a2 ( K [(.i a1)] a0)))))
def f102(ls:List Lf)(h:HT)(K:List Lf->HT->R):R:=A.unI ls (λn6 a0=>A.unI a0 (λn8 a1=>A.un0 a1 ( A.call 123 [(.i n6)] h (λa2 a3=>A.unB a2 (λa4 a5=>A.un0 a5 ( A.call 123 [(.i n8)] a3 (λa6 J=>A.unB a6 (λO a7=>A.un0 a7 ( A.cond a4 ( A.cond O ( K [(.i 0)] J) ( K [(.i (-1))] J)) ( A.cond O ( K [(.i 1)] J) ( A.cmp .lss n6 n8 (λa8=>A.cond a8 ( K [(.i (-1))] J) ( A.cmp .gtr n6 n8 (λa9=>A.cond a9 ( K [(.i 1)] J) ( K [(.i 0)] J)))))))))))))))
/-- slices.Clip[[]crimp/api.Point,crimp/api.Point] -/
def f103(ls:List Lf)(h:HT)(K:List Lf->HT->R):R:=A.unV ls (λJ a0=>A.un0 a0 ( A.opt (lenS J) (λx8=>A.opt (lenS J) (λa1=>A.opt (slS 2 J none (some x8) (some a1)) (λO=>A.chk O ( K [(.v O)] h))))))
/-- crimp/corners.walk$1 -/
def f104(ls:List Lf)(h:HT)(K:List Lf->HT->R):R:=A.unV ls (λa4 d3=>A.unV d3 (λx8 d4=>A.unV d4 (λO d5=>A.un0 d5 ( A.opt (fdP 0 x8) (λa5=>A.chk a5 ( A.peek (.lg cc 1 a5) h (λd6=>A.ucI .i64 d6 (λn14 d7=>A.uc0 d7 ( A.ari .quo .i64 n14 2 (λn16=>A.opt (fdP 1 x8) (λa6=>A.chk a6 ( A.peek (.lg cc 1 a6) h (λd8=>A.ucI .i64 d8 (λn19 d9=>A.uc0 d9 ( A.ari .quo .i64 n19 2 (λn21=>A.opt (fdP 0 x8) (λa7=>A.chk a7 ( A.peek (.lg cc 1 a7) h (λe0=>A.ucI .i64 e0 (λn24 e1=>A.uc0 e1 ( A.ari .rem .i64 n24 2 (λn26=>A.cmp .neq n26 0 (λe2=>A.join (λf0 f1=>A.unI f0 (λn30 f2=>A.unI f2 (λn32 gl=>A.unI gl (λn34 g0=>A.un0 g0 ( A.loop (λa8 g1 a9=>A.unI g1 (λn39 g2=>A.unI g2 (λn41 g3=>A.unI g3 (λn43 g4=>A.unI g4 (λn45 g5=>A.un0 g5 ( A.peek (.lg cc 2 O) a9 (λg6=>A.ucI .i64 g6 (λn48 g7=>A.ucI .i64 g7 (λn50 g8=>A.uc0 g8 ( A.call 91 [(.i n48),(.i n50),(.i n41),(.i n43),(.i n45)] a9 (λg9 h0=>A.unI g9 (λn54 h1=>A.unI h1 (λn56 h2=>A.un0 h2 ( A.loop (λh3 h4 a0=>A.unI h4 (λn61 h5=>A.unI h5 (λn63 h6=>A.unI h6 (λn65 h7=>A.unI h7 (λn67 h8=>A.unI h8 (λn69 h9=>A.un0 h9 ( A.cmp .lss n63 3 (λi0=>A.cond i0 ( A.join (λi1 i2=>A.unI i1 (λn74 j0=>A.unI j0 (λn76 j1=>A.unI j1 (λn78 j2=>A.unI j2 (λn80 j3=>A.un0 j3 ( A.ari .add .u8 n63 1 (λn82=>h3 [(.i n74),(.i n82),(.i n76),(.i n78),(.i n80)] i2))))))) (λa1=>A.peek (.lg cc 2 x8) a0 (λj4=>A.ucI .i64 j4 (λn85 j5=>A.ucI .i64 j5 (λn87 j6=>A.uc0 j6 ( A.call 105 [(.i n65),(.i n67),(.i n69),(.i n63),(.i n85),(.i n87)] a0 (λj7 J=>A.unB j7 (λj8 j9=>A.un0 j9 ( A.cond (!j8) ( a1 [(.i n61),(.i n65),(.i n67),(.i n69)] J) ( A.cmp .eql n63 n61 (λk0=>A.cond k0 ( a1 [(.i n61),(.i n65),(.i n67),(.i n69)] J) ( A.cmp .eql n61 3 (λk1=>A.cond k1 ( A.peek (.lg cc 2 x8) J (λk2=>A.ucI .i64 k2 (λn96 k3=>A.ucI .i64 k3 (λn98 k4=>A.uc0 k4 ( A.call 106 [(.i n65),(.i n67),(.i n69),(.i n63),(.i n96),(.i n98)] J (λk5 b0=>A.unB k5 (λk6 k7=>A.un0 k7 ( A.join (λk8 b1=>A.un0 k8 ( A.peek (.lg cc 2 O) b1 (λk9=>A.ucI .i64 k9 (λn107 l0=>A.ucI .i64 l0 (λn109 l1=>A.uc0 l1 ( A.call 39 [(.i n107),(.i n109),(.i n54),(.i n63)] b1 (λl2 a2=>A.unI l2 (λn113 l3=>A.unI l3 (λb2 l4=>A.unI l4 (λs0 l5=>A.un0 l5 ( A.peek (.lg cc 2 O) a2 (λl6=>A.ucI .i64 l6 (λl7 l8=>A.ucI .i64 l8 (λn122 l9=>A.uc0 l9 ( A.peek (.lg cc 2 x8) a2 (λm0=>A.ucI .i64 m0 (λn125 m1=>A.ucI .i64 m1 (λn127 m2=>A.uc0 m2 ( A.call 107 [(.i l7),(.i n122),(.i n113),(.i b2),(.i n125),(.i n127)] a2 (λm3 m4=>A.unI m3 (λm5 m6=>A.un0 m6 ( A.callv a4 [(.int .i64 n54),(.agg ⟨[(.int .i64 m5),(.int .i64 n113),(.int .u8 b2)]⟩)] [(.leaf .b)] m4 (λm7 b3=>A.unB m7 (λm8 m9=>A.un0 m9 ( A.cond (!m8) ( K [] b3) ( A.call 90 [(.i n65),(.i n67),(.i n69),(.i n63)] b3 (λn0 b4=>A.unI n0 (λb5 n1=>A.unI n1 (λb6 n2=>A.unI n2 (λn143 o0=>A.unI o0 (λs1 o1=>A.un0 o1 ( A.eqs [((.i b5),(.i n30)),((.i b6),(.i n32)),((.i n143),(.i n34))] (λo2=>A.cond o2 ( K [] b4) ( a8 [(.i n63),(.i b5),(.i b6),(.i n143)] b4)))))))))))))))))))))))))))))))))) (λo3=>A.cond (!k6) ( a1 [(.i n61),(.i n65),(.i n67),(.i n69)] b0) ( o3 [] b0)))))))))) ( A.peek (.lg cc 2 O) J (λo4=>A.ucI .i64 o4 (λo5 o6=>A.ucI .i64 o6 (λo7 o8=>A.uc0 o8 ( A.call 39 [(.i o5),(.i o7),(.i n54),(.i n63)] J (λo9 a3=>A.unI o9 (λb7 p0=>A.unI p0 (λb8 p1=>A.unI p1 (λs2 p2=>A.un0 p2 ( A.peek (.lg cc 2 O) a3 (λp3=>A.ucI .i64 p3 (λp4 p5=>A.ucI .i64 p5 (λp6 p7=>A.uc0 p7 ( A.peek (.lg cc 2 x8) a3 (λp8=>A.ucI .i64 p8 (λp9 q0=>A.ucI .i64 q0 (λq1 q2=>A.uc0 q2 ( A.call 107 [(.i p4),(.i p6),(.i b7),(.i b8),(.i p9),(.i q1)] a3 (λq3 q5=>A.unI q3 (λq8 q9=>A.un0 q9 ( A.callv a4 [(.int .i64 n54),(.agg ⟨[(.int .i64 q8),(.int .i64 b7),(.int .u8 b8)]⟩)] [(.leaf .b)] q5 (λr1 b9=>A.unB r1 (λr2 r3=>A.un0 r3 ( A.cond (!r2) ( K [] b9) ( A.call 90 [(.i n65),(.i n67),(.i n69),(.i n63)] b9 (λr4 c0=>A.unI r4 (λc1 r5=>A.unI r5 (λd0 r6=>A.unI r6 (λd1 r7=>A.unI r7 (λs3 r8=>A.un0 r8 ( A.eqs [((.i c1),(.i n30)),((.i d0),(.i n32)),((.i d1),(.i n34))] (λr9=>A.cond r9 ( K [] c0) ( a8 [(.i n63),(.i c1),(.i d0),(.i d1)] c0)))))))))))))))))))))))))))))))))))))))))))))) ( K [] a0))))))))) [(.i n39),(.i 0),(.i n41),(.i n43),(.i n45)] h0)))))))))))))) [(.i 3),(.i n30),(.i n32),(.i n34)] f1))))) (λd2=>A.cond e2 ( d2 [(.i n16),(.i n21),(.i 2)] h) ( d2 [(.i n16),(.i n21),(.i 0)] h)))))))))))))))))))))))))
/-- crimp/corners.touches -/
def f105(ls:List Lf)(h:HT)(K:List Lf->HT->R):R:=A.unI ls (λn6 J=>A.unI J (λn8 O=>A.unI O (λa0 a1=>A.unI a1 (λn12 a2=>A.unI a2 (λn14 a3=>A.unI a3 (λn16 a4=>A.un0 a4 ( A.call 124 [(.i n6),(.i n8),(.i a0)] h (λa5 a6=>A.unI a5 (λn20 a7=>A.unI a7 (λn22 a8=>A.unI a8 (λn24 a9=>A.unI a9 (λn26 b0=>A.unI b0 (λn28 b1=>A.unI b1 (λn30 b2=>A.unI b2 (λn32 b3=>A.un0 b3 ( A.opt (inB 3 n12) (λb8=>A.opt (cm [(.i n20),(.i n22),(.i n24),(.i n26),(.i n28),(.i n30)] 0 [(n12,2)] 2) (λb4=>A.unI b4 (λn36 b5=>A.unI b5 (λn38 b6=>A.un0 b6 ( A.eqs [((.i n36),(.i n14)),((.i n38),(.i n16))] (λb7=>K [(.b (!b7))] a6))))))))))))))))))))))
/-- crimp/corners.leaves -/
def f106(ls:List Lf)(h:HT)(K:List Lf->HT->R):R:=A.unI ls (λn6 J=>A.unI J (λn8 O=>A.unI O (λa7 a0=>A.unI a0 (λn12 a1=>A.unI a1 (λn14 a2=>A.unI a2 (λn16 a3=>A.un0 a3 ( A.ari .rem .i64 n14 2 (λn18=>A.cmp .neq n18 0 (λa4=>A.cond a4 ( A.cmp .eql n12 1 (λa5=>K [(.b a5)] h)) ( A.cmp .eql n12 2 (λa6=>K [(.b a6)] h)))))))))))
/-- crimp/corners.direction -/
def f107(ls:List Lf)(h:HT)(K:List Lf->HT->R):R:=A.unI ls (λn6 a1=>A.unI a1 (λn8 a2=>A.unI a2 (λa3 a4=>A.unI a4 (λn12 a5=>A.unI a5 (λn14 a6=>A.unI a6 (λn16 a7=>A.un0 a7 ( A.call 111 [(.i n6),(.i n8),(.i a3),(.i n12)] h (λa8 J=>A.unI a8 (λn20 a9=>A.unI a9 (λn22 b0=>A.unI b0 (λn24 b1=>A.unI b1 (λn26 b2=>A.unI b2 (λn28 b3=>A.un0 b3 ( A.eqs [((.i n20),(.i n14)),((.i n22),(.i n16))] (λb4=>A.join (λb5 b6=>A.unI b5 (λn33 b7=>A.unI b7 (λn35 b8=>A.un0 b8 ( A.ari .sub .i64 n33 n14 (λn37=>A.call 125 [(.i n37)] b6 (λb9 c0=>A.unI b9 (λn40 c1=>A.un0 c1 ( A.ari .sub .i64 n35 n16 (λn42=>A.call 125 [(.i n42)] c0 (λd0 d1=>A.unI d0 (λn45 d2=>A.un0 d2 ( A.opt (ca cc 239 ⟨3,0,(some 1)⟩ none none none []) (λO=>A.chk O ( A.call 126 [(.v O),(.i n40),(.i n45)] d1 (λd3 d4=>A.unI d3 (λn50 d5=>A.un0 d5 ( K [(.i n50)] d4))))))))))))))))) (λa0=>A.cond b4 ( a0 [(.i n24),(.i n26)] J) ( a0 [(.i n20),(.i n22)] J)))))))))))))))))
/-- crimp/patterns.at -/
def f108(ls:List Lf)(h:HT)(K:List Lf->HT->R):R:=A.unI ls (λn6 a1=>A.unI a1 (λn8 a2=>A.unV a2 (λJ a3=>A.unI a3 (λn12 a4=>A.unI a4 (λn14 a5=>A.un0 a5 ( A.call 14 [(.i n6),(.i n8),(.v J)] h (λa6 O=>A.unI a6 (λn18 a7=>A.un0 a7 ( A.cmp .neq n18 0 (λa8=>A.cond a8 ( K [(.i 0),(.i 0),(.i 0),(.b false),(.i n18)] O) ( A.call 39 [(.i n6),(.i n8),(.i n12),(.i n14)] O (λa9 a0=>A.unI a9 (λn23 b0=>A.unI b0 (λn25 b1=>A.unI b1 (λn27 b2=>A.un0 b2 ( A.cmp .neq n27 0 (λb3=>A.cond b3 ( K [(.i 0),(.i 0),(.i 0),(.b false),(.i n27)] a0) ( A.call 127 [(.v J),(.i n23),(.i n25)] a0 (λb4 b5=>A.unI b4 (λn32 b6=>A.unB b6 (λb7 b8=>A.un0 b8 ( K [(.i n23),(.i n25),(.i n32),(.b b7),(.i 0)] b5))))))))))))))))))))))
/-- slices.pdqsortCmpFunc[crimp/corners.Ray] -/
def f109(ls:List Lf)(h:HT)(K:List Lf->HT->R):R:=A.unV ls (λJ g7=>A.unI g7 (λn8 g8=>A.unI g8 (λg9 h0=>A.unI h0 (λn12 h1=>A.unV h1 (λx14 h2=>A.un0 h2 ( A.loop (λh3 h4 a6=>A.unI h4 (λn19 h5=>A.unI h5 (λn21 h6=>A.unB h6 (λa7 h7=>A.unB h7 (λa5 h8=>A.unI h8 (λn27 h9=>A.un0 h9 ( A.join (λi0 i1=>A.unI i0 (λn31 i2=>A.unI i2 (λn33 j0=>A.unB j0 (λj1 j2=>A.unB j2 (λj3 j4=>A.unI j4 (λn39 j5=>A.un0 j5 ( h3 [(.i n31),(.i n33),(.b j1),(.b j3),(.i n39)] i1))))))) (λa0=>A.ari .sub .i64 n27 n21 (λn42=>A.cmp .leq n42 12 (λj6=>A.cond j6 ( A.call 128 [(.v J),(.i n21),(.i n27),(.v x14)] a6 (λj7 j8=>A.un0 j7 ( K [] j8))) ( A.cmp .eql n19 0 (λj9=>A.cond j9 ( A.call 129 [(.v J),(.i n21),(.i n27),(.v x14)] a6 (λk0 k1=>A.un0 k0 ( K [] k1))) ( A.join (λk2 k3=>A.unI k2 (λn51 k4=>A.un0 k4 ( A.call 131 [(.v J),(.i n21),(.i n27),(.v x14)] k3 (λk5 b1=>A.unI k5 (λn55 k6=>A.unI k6 (λn57 k7=>A.un0 k7 ( A.cmp .eql n57 2 (λk8=>A.join (λk9 O=>A.unI k9 (λn62 l0=>A.unI l0 (λn64 l1=>A.un0 l1 ( A.cond a5 ( A.cond a7 ( A.cmp .eql n64 1 (λl2=>A.join (λl3 a8=>A.un0 l3 ( A.cmp .gtr n21 0 (λl4=>A.cond l4 ( A.ari .sub .i64 n21 1 (λn70=>A.opt (idS 2 J n70) (λl5=>A.peek (.lg cc 2 l5) a8 (λl6=>A.ucI .i64 l6 (λn73 l7=>A.ucI .u8 l7 (λn75 l8=>A.uc0 l8 ( A.opt (idS 2 J n62) (λl9=>A.peek (.lg cc 2 l9) a8 (λm0=>A.ucI .i64 m0 (λn79 m1=>A.ucI .u8 m1 (λn81 m2=>A.uc0 m2 ( A.callv x14 [(.agg ⟨[(.int .i64 n73),(.int .u8 n75)]⟩),(.agg ⟨[(.int .i64 n79),(.int .u8 n81)]⟩)] [(.leaf (.i .i64))] a8 (λm3 b2=>A.unI m3 (λn85 m4=>A.un0 m4 ( A.cmp .lss n85 0 (λm5=>A.join (λm6 m7=>A.unI m6 (λn90 m8=>A.un0 m8 ( A.call 135 [(.v J),(.i n90),(.i n27),(.i n62),(.v x14)] m7 (λm9 b3=>A.unI m9 (λn94 n0=>A.unB n0 (λn1 n2=>A.un0 n2 ( A.ari .sub .i64 n94 n90 (λn98=>A.ari .sub .i64 n27 n94 (λn99=>A.ari .quo .i64 n42 8 (λn100=>A.cmp .lss n98 n99 (λo0=>A.join (λo1 o2=>A.unB o1 (λo3 o4=>A.unI o4 (λn106 o5=>A.unI o5 (λn108 o6=>A.un0 o6 ( a0 [(.i n51),(.i n106),(.b n1),(.b o3),(.i n108)] o2))))) (λb4=>A.cond o0 ( A.cmp .geq n98 n100 (λo7=>A.call 109 [(.v J),(.i n90),(.i n94),(.i n51),(.v x14)] b3 (λo8 o9=>A.un0 o8 ( A.ari .add .i64 n94 1 (λp0=>b4 [(.b o7),(.i p0),(.i n27)] o9))))) ( A.cmp .geq n99 n100 (λp1=>A.ari .add .i64 n94 1 (λp2=>A.call 109 [(.v J),(.i p2),(.i n27),(.i n51),(.v x14)] b3 (λp3 p4=>A.un0 p3 ( b4 [(.b p1),(.i n90),(.i n94)] p4))))))))))))))))) (λp5=>A.cond (!m5) ( A.call 134 [(.v J),(.i n21),(.i n27),(.i n62),(.v x14)] b2 (λp6 p7=>A.unI p6 (λn122 p8=>A.un0 p8 ( a0 [(.i n51),(.i n122),(.b a7),(.b a5),(.i n27)] p7)))) ( p5 [(.i n21)] b2)))))))))))))))))) ( A.call 135 [(.v J),(.i n21),(.i n27),(.i n62),(.v x14)] a8 (λp9 b5=>A.unI p9 (λn126 q0=>A.unB q0 (λq1 q2=>A.un0 q2 ( A.ari .sub .i64 n126 n21 (λb6=>A.ari .sub .i64 n27 n126 (λb7=>A.ari .quo .i64 n42 8 (λb8=>A.cmp .lss b6 b7 (λq3=>A.join (λq5 q8=>A.unB q5 (λq9 r1=>A.unI r1 (λr2 r3=>A.unI r3 (λr4 r5=>A.un0 r5 ( a0 [(.i n51),(.i r2),(.b q1),(.b q9),(.i r4)] q8))))) (λb9=>A.cond q3 ( A.cmp .geq b6 b8 (λr6=>A.call 109 [(.v J),(.i n21),(.i n126),(.i n51),(.v x14)] b5 (λr7 r8=>A.un0 r7 ( A.ari .add .i64 n126 1 (λr9=>b9 [(.b r6),(.i r9),(.i n27)] r8))))) ( A.cmp .geq b7 b8 (λs0=>A.ari .add .i64 n126 1 (λs1=>A.call 109 [(.v J),(.i s1),(.i n27),(.i n51),(.v x14)] b5 (λs2 s3=>A.un0 s2 ( b9 [(.b s0),(.i n21),(.i n126)] s3)))))))))))))))))) (λc0=>A.cond l2 ( A.call 133 [(.v J),(.i n21),(.i n27),(.v x14)] O (λs4 c1=>A.unB s4 (λs5 s6=>A.un0 s6 ( A.cond s5 ( K [] c1) ( c0 [] c1))))) ( c0 [] O)))) ( A.cmp .gtr n21 0 (λs7=>A.cond s7 ( A.ari .sub .i64 n21 1 (λs8=>A.opt (idS 2 J s8) (λs9=>A.peek (.lg cc 2 s9) O (λt0=>A.ucI .i64 t0 (λt1 t2=>A.ucI .u8 t2 (λt3 t4=>A.uc0 t4 ( A.opt (idS 2 J n62) (λt5=>A.peek (.lg cc 2 t5) O (λt6=>A.ucI .i64 t6 (λt7 t9=>A.ucI .u8 t9 (λuc u0=>A.uc0 u0 ( A.callv x14 [(.agg ⟨[(.int .i64 t1),(.int .u8 t3)]⟩),(.agg ⟨[(.int .i64 t7),(.int .u8 uc)]⟩)] [(.leaf (.i .i64))] O (λu1 d0=>A.unI u1 (λu2 u4=>A.un0 u4 ( A.cmp .lss u2 0 (λu5=>A.join (λu9 v0=>A.unI u9 (λa9 v1=>A.un0 v1 ( A.call 135 [(.v J),(.i a9),(.i n27),(.i n62),(.v x14)] v0 (λv2 d1=>A.unI v2 (λa1 v3=>A.unB v3 (λv4 v5=>A.un0 v5 ( A.ari .sub .i64 a1 a9 (λd2=>A.ari .sub .i64 n27 a1 (λd3=>A.ari .quo .i64 n42 8 (λd4=>A.cmp .lss d2 d3 (λv6=>A.join (λv7 v8=>A.unB v7 (λv9 wv=>A.unI wv (λww wx=>A.unI wx (λwy wz=>A.un0 wz ( a0 [(.i n51),(.i ww),(.b v4),(.b v9),(.i wy)] v8))))) (λd5=>A.cond v6 ( A.cmp .geq d2 d4 (λwA=>A.call 109 [(.v J),(.i a9),(.i a1),(.i n51),(.v x14)] d1 (λwB wC=>A.un0 wB ( A.ari .add .i64 a1 1 (λwD=>d5 [(.b wA),(.i wD),(.i n27)] wC))))) ( A.cmp .geq d3 d4 (λwE=>A.ari .add .i64 a1 1 (λwF=>A.call 109 [(.v J),(.i wF),(.i n27),(.i n51),(.v x14)] d1 (λwG wH=>A.un0 wG ( d5 [(.b wE),(.i a9),(.i a1)] wH))))))))))))))))) (λwI=>A.cond (!u5) ( A.call 134 [(.v J),(.i n21),(.i n27),(.i n62),(.v x14)] d0 (λwJ wK=>A.unI wJ (λwL wM=>A.un0 wM ( a0 [(.i n51),(.i wL),(.b a7),(.b a5),(.i n27)] wK)))) ( wI [(.i n21)] d0)))))))))))))))))) ( A.call 135 [(.v J),(.i n21),(.i n27),(.i n62),(.v x14)] O (λwN d6=>A.unI wN (λa2 wO=>A.unB wO (λwP wQ=>A.un0 wQ ( A.ari .sub .i64 a2 n21 (λd7=>A.ari .sub .i64 n27 a2 (λd8=>A.ari .quo .i64 n42 8 (λd9=>A.cmp .lss d7 d8 (λwR=>A.join (λwS wT=>A.unB wS (λwU wV=>A.unI wV (λwW wX=>A.unI wX (λwY wZ=>A.un0 wZ ( a0 [(.i n51),(.i wW),(.b wP),(.b wU),(.i wY)] wT))))) (λe0=>A.cond wR ( A.cmp .geq d7 d9 (λw0=>A.call 109 [(.v J),(.i n21),(.i a2),(.i n51),(.v x14)] d6 (λw1 w2=>A.un0 w1 ( A.ari .add .i64 a2 1 (λxb=>e0 [(.b w0),(.i xb),(.i n27)] w2))))) ( A.cmp .geq d8 d9 (λxd=>A.ari .add .i64 a2 1 (λxe=>A.call 109 [(.v J),(.i xe),(.i n27),(.i n51),(.v x14)] d6 (λxg xh=>A.un0 xg ( e0 [(.b xd),(.i n21),(.i a2)] xh)))))))))))))))))) ( A.cmp .gtr n21 0 (λxi=>A.cond xi ( A.ari .sub .i64 n21 1 (λxj=>A.opt (idS 2 J xj) (λxk=>A.peek (.lg cc 2 xk) O (λxl=>A.ucI .i64 xl (λxm xn=>A.ucI .u8 xn (λxo xp=>A.uc0 xp ( A.opt (idS 2 J n62) (λxq=>A.peek (.lg cc 2 xq) O (λxr=>A.ucI .i64 xr (λxt xu=>A.ucI .u8 xu (λxw xy=>A.uc0 xy ( A.callv x14 [(.agg ⟨[(.int .i64 xm),(.int .u8 xo)]⟩),(.agg ⟨[(.int .i64 xt),(.int .u8 xw)]⟩)] [(.leaf (.i .i64))] O (λxz e1=>A.unI xz (λxA xB=>A.un0 xB ( A.cmp .lss xA 0 (λxC=>A.join (λxD xE=>A.unI xD (λb0 xF=>A.un0 xF ( A.call 135 [(.v J),(.i b0),(.i n27),(.i n62),(.v x14)] xE (λxG e2=>A.unI xG (λa3 xH=>A.unB xH (λxI xJ=>A.un0 xJ ( A.ari .sub .i64 a3 b0 (λf0=>A.ari .sub .i64 n27 a3 (λf1=>A.ari .quo .i64 n42 8 (λf2=>A.cmp .lss f0 f1 (λxK=>A.join (λxL xM=>A.unB xL (λxN xO=>A.unI xO (λxP xQ=>A.unI xQ (λxR xS=>A.un0 xS ( a0 [(.i n51),(.i xP),(.b xI),(.b xN),(.i xR)] xM))))) (λgl=>A.cond xK ( A.cmp .geq f0 f2 (λxU=>A.call 109 [(.v J),(.i b0),(.i a3),(.i n51),(.v x14)] e2 (λxV xW=>A.un0 xV ( A.ari .add .i64 a3 1 (λxX=>gl [(.b xU),(.i xX),(.i n27)] xW))))) ( A.cmp .geq f1 f2 (λxY=>A.ari .add .i64 a3 1 (λxZ=>A.call 109 [(.v J),(.i xZ),(.i n27),(.i n51),(.v x14)] e2 (λx0 x1=>A.un0 x0 ( gl [(.b xY),(.i b0),(.i a3)] x1))))))))))))))))) (λx2=>A.cond (!xC) ( A.call 134 [(.v J),(.i n21),(.i n27),(.i n62),(.v x14)] e1 (λx6 x7=>A.unI x6 (λx9 ya=>A.un0 ya ( a0 [(.i n51),(.i x9),(.b a7),(.b a5),(.i n27)] x7)))) ( x2 [(.i n21)] e1)))))))))))))))))) ( A.call 135 [(.v J),(.i n21),(.i n27),(.i n62),(.v x14)] O (λyb g0=>A.unI yb (λa4 yc=>A.unB yc (λyd ye=>A.un0 ye ( A.ari .sub .i64 a4 n21 (λg1=>A.ari .sub .i64 n27 a4 (λg2=>A.ari .quo .i64 n42 8 (λg3=>A.cmp .lss g1 g2 (λyf=>A.join (λyg yh=>A.unB yg (λyi yj=>A.unI yj (λyk yl=>A.unI yl (λym yn=>A.un0 yn ( a0 [(.i n51),(.i yk),(.b yd),(.b yi),(.i ym)] yh))))) (λg4=>A.cond yf ( A.cmp .geq g1 g3 (λyo=>A.call 109 [(.v J),(.i n21),(.i a4),(.i n51),(.v x14)] g0 (λyp yq=>A.un0 yp ( A.ari .add .i64 a4 1 (λyr=>g4 [(.b yo),(.i yr),(.i n27)] yq))))) ( A.cmp .geq g2 g3 (λyu=>A.ari .add .i64 a4 1 (λyv=>A.call 109 [(.v J),(.i yv),(.i n27),(.i n51),(.v x14)] g0 (λyw yx=>A.un0 yw ( g4 [(.b yu),(.i n21),(.i a4)] yx))))))))))))))))))))) (λg5=>A.cond k8 ( A.call 132 [(.v J),(.i n21),(.i n27),(.v x14)] b1 (λyy yz=>A.un0 yy ( A.ari .sub .i64 n27 1 (λyA=>A.ari .sub .i64 n55 n21 (λyB=>A.ari .sub .i64 yA yB (λyC=>g5 [(.i yC),(.i 1)] yz)))))) ( g5 [(.i n55),(.i n57)] b1)))))))))) (λg6=>A.cond (!a5) ( A.call 130 [(.v J),(.i n21),(.i n27),(.v x14)] a6 (λyD yE=>A.un0 yD ( A.ari .sub .i64 n19 1 (λyF=>g6 [(.i yF)] yE)))) ( g6 [(.i n19)] a6))))))))))))))) [(.i n12),(.i n8),(.b true),(.b true),(.i g9)] h))))))
/-- (crimp/sheets.Sheet).all -/
def f110(ls:List Lf)(h:HT)(K:List Lf->HT->R):R:=A.unI ls (λn6 O=>A.unI O (λn8 a0=>A.un0 a0 ( A.new (.cells [(.int .i64 n6),(.int .i64 n8)] 2 true) h (λJ a1=>A.chk (.func (.func 136) ⟨[]⟩ ⟨[(.pointer (some ⟨J,0,none⟩))]⟩) ( K [(.v (.func (.func 136) ⟨[]⟩ ⟨[(.pointer (some ⟨J,0,none⟩))]⟩))] a1)))))
/-- crimp/sheets.Ends -/
def f111(ls:List Lf)(h:HT)(K:List Lf->HT->R):R:=A.unI ls (λn6 a1=>A.unI a1 (λn8 a2=>A.unI a2 (λa3 a4=>A.unI a4 (λn12 a5=>A.un0 a5 ( A.call 92 [(.i n6),(.i n8),(.i a3),(.i n12)] h (λa6 O=>A.unI a6 (λn16 a7=>A.unI a7 (λn18 a8=>A.unI a8 (λn20 a9=>A.unI a9 (λn22 b0=>A.un0 b0 ( A.cmp .neq n22 0 (λb1=>A.cond b1 ( K [(.i 0),(.i 0),(.i 0),(.i 0),(.i n22)] O) ( A.call 124 [(.i n16),(.i n18),(.i n20)] O (λb2 J=>A.unI b2 (λn27 b3=>A.unI b3 (λn29 b4=>A.unI b4 (λn31 b5=>A.unI b5 (λn33 b6=>A.unI b6 (λn35 b7=>A.unI b7 (λn37 b8=>A.unI b8 (λn39 b9=>A.un0 b9 ( A.ari .add .u8 n12 1 (λn41=>A.ari .rem .u8 n41 3 (λn42=>A.opt (inB 3 n42) (λx43=>A.opt (cm [(.i n27),(.i n29),(.i n31),(.i n33),(.i n35),(.i n37)] 0 [(n42,2)] 2) (λc0=>A.unI c0 (λn45 c1=>A.unI c1 (λn47 d0=>A.un0 d0 ( A.ari .add .u8 n12 2 (λn49=>A.ari .rem .u8 n49 3 (λn50=>A.opt (inB 3 n50) (λf0=>A.opt (cm [(.i n27),(.i n29),(.i n31),(.i n33),(.i n35),(.i n37)] 0 [(n50,2)] 2) (λd1=>A.unI d1 (λn53 d2=>A.unI d2 (λn55 d3=>A.un0 d3 ( A.cmp .lss n53 n45 (λd4=>A.cond d4 ( K [(.i n53),(.i n55),(.i n45),(.i n47),(.i 0)] J) ( A.cmp .eql n53 n45 (λd5=>A.cond d5 ( A.cmp .lss n55 n47 (λd6=>A.join (λd7 d8=>A.unI d7 (λn62 d9=>A.unI d9 (λn64 e0=>A.unI e0 (λn66 e1=>A.unI e1 (λn68 e2=>A.un0 e2 ( K [(.i n62),(.i n64),(.i n66),(.i n68),(.i 0)] d8)))))) (λa0=>A.cond d6 ( a0 [(.i n53),(.i n55),(.i n45),(.i n47)] J) ( a0 [(.i n45),(.i n47),(.i n53),(.i n55)] J)))) ( K [(.i n45),(.i n47),(.i n53),(.i n55),(.i 0)] J))))))))))))))))))))))))))))))))))))))))
/-- crimp/segments.place -/
def f112(ls:List Lf)(h:HT)(K:List Lf->HT->R):R:=A.unI ls (λn6 J=>A.unI J (λn8 O=>A.unI O (λa0 a1=>A.un0 a1 ( A.cmp .eql n6 1 (λa2=>A.cond a2 ( K [(.i a0)] h) ( K [(.i n8)] h))))))
/-- slices.insertionSortCmpFunc[crimp/patterns.Crease] -/
def f113(ls:List Lf)(h:HT)(K:List Lf->HT->R):R:=A.unV ls (λJ a3=>A.unI a3 (λn8 a4=>A.unI a4 (λa5 a6=>A.unV a6 (λa7 a8=>A.un0 a8 ( A.ari .add .i64 n8 1 (λn14=>A.loop (λa9 b0 a1=>A.unI b0 (λn18 b1=>A.un0 b1 ( A.cmp .lss n18 a5 (λb2=>A.cond b2 ( A.join (λb3 b4=>A.un0 b3 ( A.ari .add .i64 n18 1 (λn23=>a9 [(.i n23)] b4))) (λa2=>A.loop (λb5 b6 O=>A.unI b6 (λn28 b7=>A.un0 b7 ( A.cmp .gtr n28 n8 (λb8=>A.cond b8 ( A.opt (idS 3 J n28) (λb9=>A.peek (.lg cc 3 b9) O (λc0=>A.ucI .i64 c0 (λn33 c1=>A.ucI .u8 c1 (λn35 d0=>A.ucI .u8 d0 (λn37 d1=>A.uc0 d1 ( A.ari .sub .i64 n28 1 (λn39=>A.opt (idS 3 J n39) (λd2=>A.peek (.lg cc 3 d2) O (λd3=>A.ucI .i64 d3 (λn42 d4=>A.ucI .u8 d4 (λn44 d5=>A.ucI .u8 d5 (λn46 d6=>A.uc0 d6 ( A.callv a7 [(.agg ⟨[(.int .i64 n33),(.int .u8 n35),(.int .u8 n37)]⟩),(.agg ⟨[(.int .i64 n42),(.int .u8 n44),(.int .u8 n46)]⟩)] [(.leaf (.i .i64))] O (λd7 a0=>A.unI d7 (λn50 d8=>A.un0 d8 ( A.cmp .lss n50 0 (λd9=>A.cond d9 ( A.ari .sub .i64 n28 1 (λn53=>A.ari .sub .i64 n28 1 (λn54=>A.opt (idS 3 J n54) (λe0=>A.peek (.lg cc 3 e0) a0 (λe1=>A.ucI .i64 e1 (λn57 e2=>A.ucI .u8 e2 (λn59 f0=>A.ucI .u8 f0 (λn61 f1=>A.uc0 f1 ( A.opt (idS 3 J n28) (λx63=>A.peek (.lg cc 3 x63) a0 (λf2=>A.ucI .i64 f2 (λn65 gl=>A.ucI .u8 gl (λn67 g0=>A.ucI .u8 g0 (λn69 g1=>A.uc0 g1 ( A.opt (idS 3 J n28) (λg2=>A.heap (.st g2 [(.int .i64 n57),(.int .u8 n59),(.int .u8 n61)]) a0 (λg6 g3=>A.opt (idS 3 J n53) (λg4=>A.heap (.st g4 [(.int .i64 n65),(.int .u8 n67),(.int .u8 n69)]) g3 (λg7 g5=>A.ari .sub .i64 n28 1 (λn77=>b5 [(.i n77)] g5)))))))))))))))))))) ( a2 [] a0))))))))))))))))))) ( a2 [] O))))) [(.i n18)] a1)) ( K [] a1))))) [(.i n14)] h))))))
/-- math/bits.Len64 -/
def f122(ls:List Lf)(h:HT)(K:List Lf->HT->R):R:=A.unI ls (λn6 a3=>A.un0 a3 ( A.cmp .geq n6 4294967296 (λt8=>A.join (λa4 J=>A.unI a4 (λn11 a5=>A.unI a5 (λn13 a6=>A.un0 a6 ( A.cmp .geq n11 65536 (λa7=>A.join (λa8 O=>A.unI a8 (λn18 a9=>A.unI a9 (λn20 b0=>A.un0 b0 ( A.cmp .geq n18 256 (λb1=>A.join (λb2 b3=>A.unI b2 (λn25 b4=>A.unI b4 (λn27 b5=>A.un0 b5 ( A.conv .u8 n25 (λn29=>A.opt (strAt (.mk ⟨[.ofNat 0,.ofNat 1,.ofNat 2,.ofNat 2,.ofNat 3,.ofNat 3,.ofNat 3,.ofNat 3,.ofNat 4,.ofNat 4,.ofNat 4,.ofNat 4,.ofNat 4,.ofNat 4,.ofNat 4,.ofNat 4,.ofNat 5,.ofNat 5,.ofNat 5,.ofNat 5,.ofNat 5,.ofNat 5,.ofNat 5,.ofNat 5,.ofNat 5,.ofNat 5,.ofNat 5,.ofNat 5,.ofNat 5,.ofNat 5,.ofNat 5,.ofNat 5,.ofNat 6,.ofNat 6,.ofNat 6,.ofNat 6,.ofNat 6,.ofNat 6,.ofNat 6,.ofNat 6,.ofNat 6,.ofNat 6,.ofNat 6,.ofNat 6,.ofNat 6,.ofNat 6,.ofNat 6,.ofNat 6,.ofNat 6,.ofNat 6,.ofNat 6,.ofNat 6,.ofNat 6,.ofNat 6,.ofNat 6,.ofNat 6,.ofNat 6,.ofNat 6,.ofNat 6,.ofNat 6,.ofNat 6,.ofNat 6,.ofNat 6,.ofNat 6,.ofNat 7,.ofNat 7,.ofNat 7,.ofNat 7,.ofNat 7,.ofNat 7,.ofNat 7,.ofNat 7,.ofNat 7,.ofNat 7,.ofNat 7,.ofNat 7,.ofNat 7,.ofNat 7,.ofNat 7,.ofNat 7,.ofNat 7,.ofNat 7,.ofNat 7,.ofNat 7,.ofNat 7,.ofNat 7,.ofNat 7,.ofNat 7,.ofNat 7,.ofNat 7,.ofNat 7,.ofNat 7,.ofNat 7,.ofNat 7,.ofNat 7,.ofNat 7,.ofNat 7,.ofNat 7,.ofNat 7,.ofNat 7,.ofNat 7,.ofNat 7,.ofNat 7,.ofNat 7,.ofNat 7,.ofNat 7,.ofNat 7,.ofNat 7,.ofNat 7,.ofNat 7,.ofNat 7,.ofNat 7,.ofNat 7,.ofNat 7,.ofNat 7,.ofNat 7,.ofNat 7,.ofNat 7,.ofNat 7,.ofNat 7,.ofNat 7,.ofNat 7,.ofNat 7,.ofNat 7,.ofNat 7,.ofNat 7,.ofNat 7,.ofNat 7,.ofNat 8,.ofNat 8,.ofNat 8,.ofNat 8,.ofNat 8,.ofNat 8,.ofNat 8,.ofNat 8,.ofNat 8,.ofNat 8,.ofNat 8,.ofNat 8,.ofNat 8,.ofNat 8,.ofNat 8,.ofNat 8,.ofNat 8,.ofNat 8,.ofNat 8,.ofNat 8,.ofNat 8,.ofNat 8,.ofNat 8,.ofNat 8,.ofNat 8,.ofNat 8,.ofNat 8,.ofNat 8,.ofNat 8,.ofNat 8,.ofNat 8,.ofNat 8,.ofNat 8,.ofNat 8,.ofNat 8,.ofNat 8,.ofNat 8,.ofNat 8,.ofNat 8,.ofNat 8,.ofNat 8,.ofNat 8,.ofNat 8,.ofNat 8,.ofNat 8,.ofNat 8,.ofNat 8,.ofNat 8,.ofNat 8,.ofNat 8,.ofNat 8,.ofNat 8,.ofNat 8,.ofNat 8,.ofNat 8,.ofNat 8,.ofNat 8,.ofNat 8,.ofNat 8,.ofNat 8,.ofNat 8,.ofNat 8,.ofNat 8,.ofNat 8,.ofNat 8,.ofNat 8,.ofNat 8,.ofNat 8,.ofNat 8,.ofNat 8,.ofNat 8,.ofNat 8,.ofNat 8,.ofNat 8,.ofNat 8,.ofNat 8,.ofNat 8,.ofNat 8,.ofNat 8,.ofNat 8,.ofNat 8,.ofNat 8,.ofNat 8,.ofNat 8,.ofNat 8,.ofNat 8,.ofNat 8,.ofNat 8,.ofNat 8,.ofNat 8,.ofNat 8,.ofNat 8,.ofNat 8,.ofNat 8,.ofNat 8,.ofNat 8,.ofNat 8,.ofNat 8,.ofNat 8,.ofNat 8,.ofNat 8,.ofNat 8,.ofNat 8,.ofNat 8,.ofNat 8,.ofNat 8,.ofNat 8,.ofNat 8,.ofNat 8,.ofNat 8,.ofNat 8,.ofNat 8,.ofNat 8,.ofNat 8,.ofNat 8,.ofNat 8,.ofNat 8,.ofNat 8,.ofNat 8,.ofNat 8,.ofNat 8,.ofNat 8,.ofNat 8,.ofNat 8,.ofNat 8,.ofNat 8,.ofNat 8,.ofNat 8]⟩) n29) (λb6=>A.conv .i64 b6 (λn31=>A.ari .add .i64 n27 n31 (λn32=>K [(.i n32)] b3)))))))) (λa0=>A.cond b1 ( A.shf .shr .u64 n18 .u64 8 (λn34=>A.ari .add .i64 n20 8 (λn35=>a0 [(.i n34),(.i n35)] O))) ( a0 [(.i n18),(.i n20)] O))))))) (λa1=>A.cond a7 ( A.shf .shr .u64 n11 .u64 16 (λn37=>A.ari .add .i64 n13 16 (λn38=>a1 [(.i n37),(.i n38)] J))) ( a1 [(.i n11),(.i n13)] J))))))) (λa2=>A.cond t8 ( A.shf .shr .u64 n6 .u64 32 (λn40=>a2 [(.i n40),(.i 32)] h)) ( a2 [(.i n6),(.i 0)] h)))))
def f123(ls:List Lf)(h:HT)(K:List Lf->HT->R):R:=A.unI ls (λn6 J=>A.un0 J ( A.cmp .neq n6 n6 (λt8=>K [(.b t8)] h)))
/-- crimp/cells.Corners -/
def f124(ls:List Lf)(h:HT)(K:List Lf->HT->R):R:=A.unI ls (λn6 a1=>A.unI a1 (λn8 a2=>A.unI a2 (λJ a3=>A.un0 a3 ( A.call 70 [(.i n6),(.i n8),(.i J)] h (λa4 O=>A.unI a4 (λn14 a5=>A.un0 a5 ( A.cmp .neq n14 0 (λa6=>A.cond a6 ( K [(.i 0),(.i 0),(.i 0),(.i 0),(.i 0),(.i 0),(.i 1)] O) ( A.opt (inB 4 J) (λh4=>A.opt (iU gl2 0 [(J,17)] 17) (λa7=>A.ucI .i64 a7 (λn19 a8=>A.ucI .i64 a8 (λn21 a9=>A.ucI .u8 a9 (λn23 b0=>A.ucI .i64 b0 (λn25 b1=>A.ucI .i64 b1 (λn27 b2=>A.ucI .i64 b2 (λn29 b3=>A.ucI .u8 b3 (λn31 b4=>A.ucI .i64 b4 (λn33 b5=>A.ucI .i64 b5 (λn35 b6=>A.ucI .u8 b6 (λn37 b7=>A.ucI .i64 b7 (λn39 b8=>A.ucI .i64 b8 (λn41 b9=>A.ucI .u8 b9 (λn43 c0=>A.ucI .i64 c0 (λn45 c1=>A.ucI .i64 c1 (λn47 d0=>A.ucI .i64 d0 (λn49 d1=>A.ucI .i64 d1 (λn51 d2=>A.uc0 d2 ( A.loop (λd3 d4 a0=>A.unI d4 (λn56 d5=>A.unI d5 (λn58 d6=>A.unI d6 (λn60 d7=>A.unI d7 (λn62 d8=>A.unI d8 (λn64 d9=>A.unI d9 (λn66 e0=>A.unI e0 (λn68 e1=>A.un0 e1 ( A.cmp .lss n56 3 (λe2=>A.cond e2 ( A.opt (inB 3 n56) (λh5=>A.opt (cm [(.i n58),(.i n60),(.i n62),(.i n64),(.i n66),(.i n68)] 0 [(n56,2)] 1) (λf0=>A.unI f0 (λn73 f1=>A.un0 f1 ( A.ari .mul .i64 2 n6 (λn75=>A.ari .add .i64 n73 n75 (λn76=>A.opt (inB 3 n56) (λh6=>A.opt (putL [(.i n58),(.i n60),(.i n62),(.i n64),(.i n66),(.i n68)] 0 [(n56,2)] [(.i n76)]) (λf2=>A.unI f2 (λn79 gl=>A.unI gl (λn81 g0=>A.unI g0 (λn83 g1=>A.unI g1 (λn85 g2=>A.unI g2 (λn87 g3=>A.unI g3 (λn89 g4=>A.un0 g4 ( A.opt (inB 3 n56) (λh7=>A.opt (cm [(.i n79),(.i n81),(.i n83),(.i n85),(.i n87),(.i n89)] 1 [(n56,2)] 1) (λg5=>A.unI g5 (λn93 g6=>A.un0 g6 ( A.ari .mul .i64 2 n8 (λn95=>A.ari .add .i64 n93 n95 (λn96=>A.opt (inB 3 n56) (λh8=>A.opt (putL [(.i n79),(.i n81),(.i n83),(.i n85),(.i n87),(.i n89)] 1 [(n56,2)] [(.i n96)]) (λg7=>A.unI g7 (λn99 g8=>A.unI g8 (λn101 g9=>A.unI g9 (λn103 h0=>A.unI h0 (λn105 h1=>A.unI h1 (λn107 h2=>A.unI h2 (λn109 h3=>A.un0 h3 ( A.ari .add .i64 n56 1 (λn111=>d3 [(.i n111),(.i n99),(.i n101),(.i n103),(.i n105),(.i n107),(.i n109)] a0)))))))))))))))))))))))))))))))) ( K [(.i n58),(.i n60),(.i n62),(.i n64),(.i n66),(.i n68),(.i 0)] a0))))))))))) [(.i 0),(.i 1),(.i 1),(.i n45),(.i n47),(.i n49),(.i n51)] O)))))))))))))))))))))))))))))
/-- crimp/corners.sign -/
def f125(ls:List Lf)(h:HT)(K:List Lf->HT->R):R:=A.unI ls (λn6 J=>A.un0 J ( A.cmp .lss n6 (-1) (λt8=>A.sel t8 (-1) n6 (λn9=>A.cmp .lss 1 n9 (λO=>A.sel O 1 n9 (λn11=>K [(.i n11)] h))))))
/-- slices.Index[[]crimp/api.Point,crimp/api.Point] -/
def f126(ls:List Lf)(h:HT)(K:List Lf->HT->R):R:=A.unV ls (λO a0=>A.unI a0 (λn8 a1=>A.unI a1 (λa2 a3=>A.un0 a3 ( A.opt (lenS O) (λa4=>A.loop (λa5 a6 J=>A.unI a6 (λn16 a7=>A.un0 a7 ( A.cmp .lss n16 a4 (λa8=>A.cond a8 ( A.opt (idS 2 O n16) (λa9=>A.peek (.lg cc 2 a9) J (λb0=>A.ucI .i64 b0 (λn21 b1=>A.ucI .i64 b1 (λn23 b2=>A.uc0 b2 ( A.eqs [((.i n8),(.i n21)),((.i a2),(.i n23))] (λb3=>A.cond b3 ( K [(.i n16)] J) ( A.ari .add .i64 n16 1 (λn26=>a5 [(.i n26)] J))))))))) ( K [(.i (-1))] J))))) [(.i 0)] h)))))
/-- crimp/patterns.find -/
def f127(ls:List Lf)(h:HT)(K:List Lf->HT->R):R:=A.unV ls (λJ O=>A.unI O (λn8 a0=>A.unI a0 (λa1 a2=>A.un0 a2 ( A.call 142 [(.v J),(.i n8),(.i a1),(.v (.func (.func 143) ⟨[]⟩ ⟨[]⟩))] h (λa3 a4=>A.unI a3 (λn14 a5=>A.unB a5 (λa6 a7=>A.un0 a7 ( K [(.i n14),(.b a6)] a4))))))))
/-- slices.insertionSortCmpFunc[crimp/corners.Ray] -/
def f128(ls:List Lf)(h:HT)(K:List Lf->HT->R):R:=A.unV ls (λJ a3=>A.unI a3 (λn8 a4=>A.unI a4 (λa5 a6=>A.unV a6 (λa7 a8=>A.un0 a8 ( A.ari .add .i64 n8 1 (λn14=>A.loop (λa9 b0 a1=>A.unI b0 (λn18 b1=>A.un0 b1 ( A.cmp .lss n18 a5 (λb2=>A.cond b2 ( A.join (λb3 b4=>A.un0 b3 ( A.ari .add .i64 n18 1 (λn23=>a9 [(.i n23)] b4))) (λa2=>A.loop (λb5 b6 O=>A.unI b6 (λn28 b7=>A.un0 b7 ( A.cmp .gtr n28 n8 (λb8=>A.cond b8 ( A.opt (idS 2 J n28) (λb9=>A.peek (.lg cc 2 b9) O (λc0=>A.ucI .i64 c0 (λn33 c1=>A.ucI .u8 c1 (λn35 d0=>A.uc0 d0 ( A.ari .sub .i64 n28 1 (λn37=>A.opt (idS 2 J n37) (λd1=>A.peek (.lg cc 2 d1) O (λd2=>A.ucI .i64 d2 (λn40 d3=>A.ucI .u8 d3 (λn42 d4=>A.uc0 d4 ( A.callv a7 [(.agg ⟨[(.int .i64 n33),(.int .u8 n35)]⟩),(.agg ⟨[(.int .i64 n40),(.int .u8 n42)]⟩)] [(.leaf (.i .i64))] O (λd5 a0=>A.unI d5 (λn46 d6=>A.un0 d6 ( A.cmp .lss n46 0 (λd7=>A.cond d7 ( A.ari .sub .i64 n28 1 (λn49=>A.ari .sub .i64 n28 1 (λn50=>A.opt (idS 2 J n50) (λd8=>A.peek (.lg cc 2 d8) a0 (λd9=>A.ucI .i64 d9 (λn53 e0=>A.ucI .u8 e0 (λn55 e1=>A.uc0 e1 ( A.opt (idS 2 J n28) (λe2=>A.peek (.lg cc 2 e2) a0 (λf0=>A.ucI .i64 f0 (λn59 f1=>A.ucI .u8 f1 (λn61 f2=>A.uc0 f2 ( A.opt (idS 2 J n28) (λx63=>A.heap (.st x63 [(.int .i64 n53),(.int .u8 n55)]) a0 (λg2 gl=>A.opt (idS 2 J n49) (λg0=>A.heap (.st g0 [(.int .i64 n59),(.int .u8 n61)]) gl (λg3 g1=>A.ari .sub .i64 n28 1 (λn69=>b5 [(.i n69)] g1)))))))))))))))))) ( a2 [] a0))))))))))))))))) ( a2 [] O))))) [(.i n18)] a1)) ( K [] a1))))) [(.i n14)] h))))))
/-- (crimp/sheets.Sheet).all$1 -/
def f136(ls:List Lf)(h:HT)(K:List Lf->HT->R):R:=A.unV ls (λa3 a4=>A.unV a4 (λx8 a5=>A.un0 a5 ( A.peek (.lg cc 2 x8) h (λa6=>A.ucI .i64 a6 (λn11 a7=>A.ucI .i64 a7 (λn13 a8=>A.uc0 a8 ( A.call 64 [(.i n11),(.i n13)] h (λa9 b0=>A.unI a9 (λn17 b1=>A.un0 b1 ( A.loop (λb2 b3 a1=>A.unI b3 (λn22 b4=>A.un0 b4 ( A.cmp .lss n22 n17 (λb5=>A.cond b5 ( A.loop (λJ b6 O=>A.unI b6 (λn28 b7=>A.un0 b7 ( A.cmp .lss n28 3 (λb8=>A.cond b8 ( A.peek (.lg cc 2 x8) O (λb9=>A.ucI .i64 b9 (λn32 c0=>A.ucI .i64 c0 (λn34 c1=>A.uc0 c1 ( A.call 62 [(.i n32),(.i n34),(.i n22),(.i n28)] O (λd0 a0=>A.unI d0 (λn38 d1=>A.unI d1 (λn40 d2=>A.un0 d2 ( A.cmp .eql n40 0 (λd3=>A.cond d3 ( A.cmp .gtr n38 n22 (λd4=>A.cond d4 ( A.callv a3 [(.agg ⟨[(.int .i64 n22),(.int .u8 n28)]⟩)] [(.leaf .b)] a0 (λd5 a2=>A.unB d5 (λd6 d7=>A.un0 d7 ( A.join (λd8 d9=>A.un0 d8 ( A.ari .add .u8 n28 1 (λn50=>J [(.i n50)] d9))) (λe0=>A.cond (!d6) ( K [] a2) ( e0 [] a2)))))) ( A.ari .add .u8 n28 1 (λn52=>J [(.i n52)] a0)))) ( A.ari .add .u8 n28 1 (λn53=>J [(.i n53)] a0)))))))))))) ( A.ari .add .i64 n22 1 (λn54=>b2 [(.i n54)] O)))))) [(.i 0)] a1) ( K [] a1))))) [(.i 0)] b0))))))))))
/-- slices.BinarySearchFunc[[]crimp/patterns.Crease,crimp/patterns.Crease,crimp/sheets.Unit] -/
def f142(ls:List Lf)(h:HT)(K:List Lf->HT->R):R:=A.unV ls (λO a5=>A.unI a5 (λn8 a6=>A.unI a6 (λa0 a7=>A.unV a7 (λa1 a8=>A.un0 a8 ( A.opt (lenS O) (λx14=>A.loop (λa9 b0 J=>A.unI b0 (λn18 b1=>A.unI b1 (λn20 b2=>A.un0 b2 ( A.cmp .lss n18 n20 (λb3=>A.cond b3 ( A.ari .add .i64 n18 n20 (λn23=>A.conv .u64 n23 (λn24=>A.shf .shr .u64 n24 .u64 1 (λn25=>A.conv .i64 n25 (λn26=>A.opt (idS 3 O n26) (λb4=>A.peek (.lg cc 3 b4) J (λb5=>A.ucI .i64 b5 (λn29 b6=>A.ucI .u8 b6 (λn31 b7=>A.ucI .u8 b7 (λn33 b8=>A.uc0 b8 ( A.callv a1 [(.agg ⟨[(.int .i64 n29),(.int .u8 n31),(.int .u8 n33)]⟩),(.agg ⟨[(.int .i64 n8),(.int .u8 a0)]⟩)] [(.leaf (.i .i64))] J (λb9 a2=>A.unI b9 (λn37 c0=>A.un0 c0 ( A.cmp .lss n37 0 (λc1=>A.join (λd0 d1=>A.unI d0 (λn42 d2=>A.unI d2 (λn44 d3=>A.un0 d3 ( a9 [(.i n42),(.i n44)] d1)))) (λa3=>A.cond c1 ( A.ari .add .i64 n26 1 (λn47=>a3 [(.i n47),(.i n20)] a2)) ( a3 [(.i n18),(.i n26)] a2))))))))))))))))) ( A.join (λd4 d5=>A.unI d4 (λn50 d6=>A.unB d6 (λd7 d8=>A.un0 d8 ( K [(.i n50),(.b d7)] d5)))) (λa4=>A.cmp .lss n18 x14 (λd9=>A.cond d9 ( A.opt (idS 3 O n18) (λe0=>A.peek (.lg cc 3 e0) J (λe1=>A.ucI .i64 e1 (λn58 e2=>A.ucI .u8 e2 (λn60 f0=>A.ucI .u8 f0 (λn62 f1=>A.uc0 f1 ( A.callv a1 [(.agg ⟨[(.int .i64 n58),(.int .u8 n60),(.int .u8 n62)]⟩),(.agg ⟨[(.int .i64 n8),(.int .u8 a0)]⟩)] [(.leaf (.i .i64))] J (λf2 gl=>A.unI f2 (λn66 g0=>A.un0 g0 ( A.cmp .eql n66 0 (λg1=>a4 [(.i n18),(.b g1)] gl))))))))))) ( a4 [(.i n18),(.b false)] J))))))))) [(.i 0),(.i x14)] h))))))
/-- crimp/patterns.find$1 -/
def f143(ls:List Lf)(h:HT)(K:List Lf->HT->R):R:=A.unI ls (λn6 J=>A.unI J (λn8 O=>A.unI O (λa0 a1=>A.unI a1 (λn12 a2=>A.unI a2 (λn14 a3=>A.un0 a3 ( A.call 40 [(.i n6),(.i n8),(.i a0)] h (λa4 a5=>A.unI a4 (λn18 a6=>A.unI a6 (λn20 a7=>A.un0 a7 ( A.call 41 [(.i n18),(.i n20),(.i n12),(.i n14)] a5 (λa8 a9=>A.unI a8 (λn24 b0=>A.un0 b0 ( K [(.i n24)] a9)))))))))))))
end
end Go.Am

/-
 THE EXECUTOR: a run of the abstract machine that the kernel can make;numbers may be symbolic,the ways of a run are all followed.
-/
namespace Go.Am
inductive Pth where
 |e
 |o (p:Pth)
 |i (p:Pth)
inductive Tr(α:Type) where
 |leaf
 |node (v:α) (l r:Tr α)
def Pth.num:Pth->Nat
 | .e=>1
 | .o p=>2*p.num
 | .i p=>2*p.num+1
def pthF:Nat->Nat->Pth
 |0,_=>.e
 |f+1,n=>if Nat.ble n 1 then .e else if Nat.beq (n%2) 0 then .o (pthF f (n / 2))else .i (pthF f (n / 2))
def bi(n:Nat):Pth:=pthF (n+1) (n+1)
def Pth.get{α:Type}(d:α)(p:Pth):Tr α->α:=
 Pth.rec (motive:=λ_=>Tr α->α)
  (λt=>Tr.casesOn t d λv _ _=>v)
  (λ_ ih t=>Tr.casesOn t d λ_ l _=>ih l)
  (λ_ ih t=>Tr.casesOn t d λ_ _ r=>ih r) p
def Pth.setK{α:Type}(d:α)(p:Pth):Tr α->α->(Tr α->Bool)->Bool:=
 Pth.rec (motive:=λ_=>Tr α->α->(Tr α->Bool)->Bool)
  (λt x k=>Tr.casesOn t (k (.node x .leaf .leaf)) λ_ l r=>k (.node x l r))
  (λ_ ih t x k=>Tr.casesOn t (ih .leaf x λl=>k (.node d l .leaf)) λv l r=>ih l x λl=>k (.node v l r))
  (λ_ ih t x k=>Tr.casesOn t (ih .leaf x λr=>k (.node d .leaf r)) λv l r=>ih r x λr=>k (.node v l r)) p
def eqI:Int->Int->Bool
 | .ofNat a,.ofNat b=>Nat.beq a b
 | .negSucc a,.negSucc b=>Nat.beq a b
 |_,_=>false
def kmax:IntKind->Nat
 | .i8=>127
 | .i16=>32767
 | .i32=>2147483647
 | .i64=>9223372036854775807
 | .u8=>255
 | .u16=>65535
 | .u32=>4294967295
 | .u64=>18446744073709551615
def fits(k:IntKind):Int->Bool
 | .ofNat n=>Nat.ble n (kmax k)
 | .negSucc n=>k.signed&&Nat.ble n (kmax k)
abbrev Lin:=List Int
def dot:List Int->List Int->Int
 |c :: l,x :: ρ=>c*x+dot l ρ
 |_,_=>0
def Lin.eval(l:Lin)(ρ:List Int):Int:=
 match l with
 | []=>0
 |c :: l=>c+dot l ρ
structure Ctx where
 iv:List (Int×Int)
 cs:List (List Int×Int×Int)
inductive Opd where
 |t (p:Pth)
 |c (v:Value)
inductive Ins where
 |mv (x:Opd)
 |pick (c a b:Opd)
 |ar (op:BinOp) (x y:Opd)
 |cmp (op:BinOp) (x y:Opd)
 |notb (x:Opd)
 |conv (k:IntKind) (x:Opd)
 |fld (x:Opd) (off:Nat)
 |flda (x:Opd) (off n:Nat)
 |ext (x:Opd) (i:Nat)
 |fad (x:Opd) (off:Nat)
 |lload (s:Nat) (p:Pth) (a:Opd)
 |lloada (s:Nat) (p:Pth) (n:Nat) (a:Opd)
 |lbox (s:Nat) (p:Pth) (x:Opd)
 |lnew (s:Nat) (p:Pth) (vs:List Value)
 |bld (z:List Value) (ps:List (Nat×Nat×Opd))
 |lstore (s:Nat) (p:Pth) (n:Nat) (a x:Opd)
 |call (f:FuncId) (args:List Opd)
 |gen
abbrev TV:=Tr Value
abbrev TL:=Tr (Option (List Value))
def rd(tm:TV):Opd->Value
 | .t p=>p.get undef tm
 | .c v=>v
structure XCfg where
 C:Cfg
 kf:FuncId->List Value->List HObj->Option (Value×List HObj)
abbrev KS:=Ctx->TV->TL->List HObj->Bool
structure XS where
 call:Ctx->FuncId->List Value->List HObj->(Ctx->Value->List HObj->Bool)->Bool
 yield:Ctx->Nat->List Value->List HObj->(Ctx->Value->List HObj->Bool)->Bool
 ex:Ctx->List Nat->Nat->Code->TV->TL->List HObj->KS->(Exit->KS)->Bool
end Go.Am

/-
 THE EXECUTOR IS SOUND: trees,numbers,linear forms.
-/
namespace Go.Am
theorem va:∀(f n:Nat),n<=f->1<=n->(pthF f n).num=n
 |0,n,h,h1=>by omega
 |f+1,n,h,h1=>by
  unfold pthF
  by_cases hn:n<=1
  ·have:n=1:=by omega
   subst this
   rfl
  ·have h2:Nat.ble n 1=false:=by
    rw[←qa4,qbx];exact hn
   rw[h2]
   have ih:=va f (n / 2) (by omega) (by omega)
   by_cases hm:n%2=0
   ·simp[hm,Pth.num,ih];omega
   ·simp[hm,Pth.num,ih];omega
theorem oy(n:Nat):(bi n).num=n+1:=va _ _ (qaA _) (by omega)
theorem jN{a b:Nat}(h:bi a=bi b):a=b:=by
 have:=congrArg Pth.num h
 rw[oy,oy]at this
 omega
def Pth.set{α:Type}(d:α):Pth->Tr α->α->Tr α
 | .e,.leaf,x=>.node x .leaf .leaf
 | .e,.node _ l r,x=>.node x l r
 | .o p,.leaf,x=>.node d (Pth.set d p .leaf x) .leaf
 | .o p,.node v l r,x=>.node v (Pth.set d p l x) r
 | .i p,.leaf,x=>.node d .leaf (Pth.set d p .leaf x)
 | .i p,.node v l r,x=>.node v l (Pth.set d p r x)
theorem Pth.setK_eq{α:Type}(d:α):∀(p:Pth) (t:Tr α) (x:α) (k:Tr α->Bool),p.setK d t x k=k (p.set d t x)
 | .e,t,x,k=>by cases t<;>rfl
 | .o p,t,x,k=>by
  cases t with
  |leaf=>exact Pth.setK_eq d p .leaf x _
  |node v l r=>exact Pth.setK_eq d p l x _
 | .i p,t,x,k=>by
  cases t with
  |leaf=>exact Pth.setK_eq d p .leaf x _
  |node v l r=>exact Pth.setK_eq d p r x _
theorem Pth.get_leaf{α:Type}(d:α)(p:Pth):p.get d .leaf=d:=by cases p<;>rfl
theorem Pth.get_set{α:Type}(d:α):∀(p:Pth) (t:Tr α) (x:α),p.get d (p.set d t x)=x
 | .e,t,x=>by cases t<;>rfl
 | .o p,t,x=>by
  cases t with
  |leaf=>exact Pth.get_set d p .leaf x
  |node v l r=>exact Pth.get_set d p l x
 | .i p,t,x=>by
  cases t with
  |leaf=>exact Pth.get_set d p .leaf x
  |node v l r=>exact Pth.get_set d p r x
theorem Pth.get_set_ne{α:Type}(d:α):∀(p q:Pth) (t:Tr α) (x:α),q≠p->q.get d (p.set d t x)=q.get d t
 | .e,q,t,x,h=>by cases q<;>cases t<;>first|rfl|exact absurd rfl h|exact Pth.get_leaf d _
 | .o p,q,t,x,h=>by
  cases q with
  |e=>cases t<;>rfl
  |o q=>
   have hq:q≠p:=λe=>h (e▸rfl)
   cases t with
   |leaf=>exact(Pth.get_set_ne d p q .leaf x hq).trans (Pth.get_leaf d q)
   |node v l r=>exact Pth.get_set_ne d p q l x hq
  |i q=>
   cases t with
   |leaf=>exact Pth.get_leaf d q
   |node v l r=>rfl
 | .i p,q,t,x,h=>by
  cases q with
  |e=>cases t<;>rfl
  |i q=>
   have hq:q≠p:=λe=>h (e▸rfl)
   cases t with
   |leaf=>exact(Pth.get_set_ne d p q .leaf x hq).trans (Pth.get_leaf d q)
   |node v l r=>exact Pth.get_set_ne d p q r x hq
  |o q=>
   cases t with
   |leaf=>exact Pth.get_leaf d q
   |node v l r=>rfl
def Tr.map{α:Type}(f:α->α):Tr α->Tr α
 | .leaf=>.leaf
 | .node v l r=>.node (f v) (l.map f) (r.map f)
theorem eqI_iff{a b:Int}:eqI a b=true↔a=b:=by
 cases a<;>cases b<;>simp[eqI]<;>omega
theorem fits_iff{k:IntKind}{c:Int}(h:fits k c=true):(k.signed=true->-(kmax k:Int) - 1<=c)/\(k.signed=false->0<=c)/\c<=kmax k:=by
 cases c with
 |ofNat n=>
  simp only[fits,qbx]at h
  refine⟨λ_=>?_,λ_=>?_,?_⟩<;>simp<;>omega
 |negSucc n=>
  simp only[fits,qaa,qbx]at h
  refine⟨λ_=>?_,λhs=>?_,?_⟩
  ·omega
  ·rw[h.1]at hs;cases hs
  ·omega
theorem rp{k:IntKind}{c:Int}(h:fits k c=true):k.wrap c=c:=by
 obtain⟨h1,h2,h3⟩:=fits_iff h
 cases k<;>simp only[IntKind.signed,kmax,forall_const,reduceCtorEq,false_implies]at h1 h2 h3
 ·exact Go.IntWalk.i8_in c (by omega)
 ·exact Go.IntWalk.i16_in c (by omega)
 ·exact Go.IntWalk.i32_in c (by omega)
 ·exact Go.IntWalk.i64_in c (by omega)
 ·exact Go.IntWalk.u8_in c (by omega)
 ·exact Go.IntWalk.u16_in c (by omega)
 ·exact Go.IntWalk.u32_in c (by omega)
 ·exact Go.IntWalk.u64_in c (by omega)
end Go.Am

/-
 THE EXECUTOR IS SOUND: arithmetic,plain and symbolic.
-/
namespace Go.Am
section
variable [Val] {ρ:List Int}
def nF(op:BinOp)(x y:Int):Option Bool:=
 match op with
 | .eql=>some (x==y)
 | .neq=>some (x != y)
 | .lss=>some (decide (x<y))
 | .leq=>some (decide (x<=y))
 | .gtr=>some (decide (x > y))
 | .geq=>some (decide (x ≥ y))
 |_=>none
def oR(op:BinOp)(k:IntKind)(x y n:Int):Prop:=∀(P:Program) (t:TypeId) (w:World),(binOp op t (.int k x) (.int k y)).run P w = .ok (.int k n) w
theorem bits_one{k:IntKind}(x:Int):((BitVec.ofInt k.bits x &&& BitVec.ofInt k.bits 1).toNat:Int)=x%2:=by
 have hb:k.bits=k.bits - 1+1:=by cases k<;>rfl
 generalize k.bits - 1=n at hb
 rw[hb]
 have h1:(BitVec.ofInt (n+1) 1).toNat=1:=by
  simp
 rw[BitVec.toNat_and,h1,Nat.and_one_is_mod,BitVec.toNat_ofInt]
 have hp:(0:Int)<2 ^ (n+1):=Int.pow_pos (by omega)
 have e:(2:Int) ^ (n+1)=2*2 ^ n:=by rw[Int.pow_succ];omega
 have h0:0<=x%(2 ^ (n+1):Int):=qdl _ (by omega)
 have:((x%((2 ^ (n+1):Nat):Int)).toNat%2:Nat)=((x%(2 ^ (n+1):Int))%2:Int):=by
  have e2:((2 ^ (n+1):Nat):Int)=(2 ^ (n+1):Int):=by simp
  rw[e2]
  omega
 rw[this,e,Int.emod_emod_of_dvd _ ⟨2 ^ n,rfl⟩]
theorem mU{k:IntKind}{x n:Int}(hn:x%2=n):oR .and k x 1 n:=by
 intro P t w
 have hw:k.wrap n=n:=rp (by
  have h0:0<=n:=by omega
  have h1:n<=1:=by omega
  obtain⟨m,rfl⟩ : ∃m:Nat,n=m:=⟨n.toNat,by omega⟩
  show Nat.ble m (kmax k)=true
  rw[qbx]
  cases k<;>simp only[kmax]<;>omega)
 have hb:=bits_one (k:=k) x
 simp only[binOp,ne_eq,not_true_eq_false,if_false,Op.intBits]
 show Result.ok (Value.int k (k.wrap _)) w=_
 rw[hb,hn,hw]
end
end Go.Am

/-
 THE EXECUTOR IS SOUND: instructions that give a value.
-/
namespace Go.Am
section
variable [Val] {ρ:List Int}
structure Rep(pts:List Nat)(nt:Nat)(tm:TV)(lc:TL)(σ:St):Prop where
 len:σ.tmps.length=nt
 val:∀(i:Nat) v,σ.tmps[i]? = some v->(bi i).get undef tm=v
 llen:pts≠[]->σ.loc.length=nt
 loc:∀(i:Nat) x,σ.loc[i]? = some x->(bi i).get none lc=x
def ValStep(C:Cfg)(pts:List Nat)(σ:St)(o:Oper)(v:Value):Prop:=
 (∃e,ak C pts (oval σ.tmps) o=some e/\aG σ e=some (σ,v))∨gU C σ.tmps o v
theorem ValStep.val{C:Cfg}{pts:List Nat}{σ:St}{o:Oper}{v:Value}(h:ak C pts (oval σ.tmps) o=some (.val v)):ValStep C pts σ o v:=.inl ⟨_,h,rfl⟩
theorem ne(k:IntKind)(x:Int):k.wrap (x%(2 ^ k.bits:Int))=k.wrap x:=by
 unfold IntKind.wrap
 rw[Int.emod_emod_of_dvd _ (Int.dvd_refl _)]
theorem tz{k:IntKind}(m n:Nat):oR .and k m n (k.wrap (Nat.land m n:Nat)):=by
 intro P t w
 simp only[binOp,ne_eq,not_true_eq_false,if_false,Op.intBits]
 show Result.ok (Value.int k (k.wrap _)) w=_
 rw[←ne k (Nat.land m n:Nat)]
 congr 3
 have h2:∀x:Nat,(BitVec.ofInt k.bits (x:Int)).toNat=x%2 ^ k.bits:=λx=>by
  rw[BitVec.toNat_ofInt]
  have:((x:Int)%((2 ^ k.bits:Nat):Int))=((x%2 ^ k.bits:Nat):Int):=by simp
  rw[this,qcM]
 have h3:(BitVec.ofInt k.bits (m:Int) &&& BitVec.ofInt k.bits (n:Int)).toNat=(m &&& n)%2 ^ k.bits:=by
  rw[BitVec.toNat_and,h2,h2,Nat.and_mod_two_pow]
 rw[h3]
 simp
theorem tC{k:IntKind}(m n:Nat):oR .xor k m n (k.wrap (Nat.xor m n:Nat)):=by
 intro P t w
 simp only[binOp,ne_eq,not_true_eq_false,if_false,Op.intBits]
 show Result.ok (Value.int k (k.wrap _)) w=_
 rw[←ne k (Nat.xor m n:Nat)]
 congr 3
 have h2:∀x:Nat,(BitVec.ofInt k.bits (x:Int)).toNat=x%2 ^ k.bits:=λx=>by
  rw[BitVec.toNat_ofInt]
  have:((x:Int)%((2 ^ k.bits:Nat):Int))=((x%2 ^ k.bits:Nat):Int):=by simp
  rw[this,qcM]
 have h3:(BitVec.ofInt k.bits (m:Int) ^^^ BitVec.ofInt k.bits (n:Int)).toNat=(m ^^^ n)%2 ^ k.bits:=by
  rw[BitVec.toNat_xor,h2,h2,Nat.xor_mod_two_pow]
 rw[h3]
 simp
theorem wl{k:IntKind}(m n:Nat):oR .or k m n (k.wrap (Nat.lor m n:Nat)):=by
 intro P t w
 simp only[binOp,ne_eq,not_true_eq_false,if_false,Op.intBits]
 show Result.ok (Value.int k (k.wrap _)) w=_
 rw[←ne k (Nat.lor m n:Nat)]
 congr 3
 have h2:∀x:Nat,(BitVec.ofInt k.bits (x:Int)).toNat=x%2 ^ k.bits:=λx=>by
  rw[BitVec.toNat_ofInt]
  have:((x:Int)%((2 ^ k.bits:Nat):Int))=((x%2 ^ k.bits:Nat):Int):=by simp
  rw[this,qcM]
 have h3:(BitVec.ofInt k.bits (m:Int) ||| BitVec.ofInt k.bits (n:Int)).toNat=(m ||| n)%2 ^ k.bits:=by
  rw[BitVec.toNat_or,h2,h2,Nat.or_mod_two_pow]
 rw[h3]
 simp
end
end Go.Am

/-
 WHEN AN ALGEBRA TELLS THE TRUTH;what an environment says of a state.
-/
namespace Go.Am
section
variable {R:Type}
theorem setK_eq{α:Type}(x:α):∀(l:List α) (i:Nat) (k:List α->R),setK x l i k=k (l.set i x)
 | [],_,_=>rfl
 |_ :: _,0,_=>rfl
 |a :: l,i+1,k=>setK_eq x l i λl=>k (a :: l)
theorem sO(n:Nat)(K:Nat->R):pK n K=K n:=by cases n<;>rfl
end
def SL.good:SL->Prop
 | .v x=>bc x=true
 |_=>True
def S0.good(x:S0):Prop:=∀l∈x.cells,l.good
def SV.gd:SV->Prop
 | .st x=>x.good
 | .tup xs=>(∀x∈xs,x.good)/\2<=xs.length
 | .no=>False
 |_=>True
theorem dv{x:Value}:bc x=true↔noLoc x=true/\aZ x=true/\aQ x=true/\aD x=false:=by
 unfold bc
 cases noLoc x<;>cases aZ x<;>cases aQ x<;>cases aD x<;>simp
theorem nP{x:Value}(h:bc x=true):aM x=true:=by
 obtain⟨h1,_,h2,_⟩:=dv.1 h
 simp[aM,h1,h2]
theorem sP{x:Value}(h:bc x=true):x.cells = #[x]:=dA (dv.1 h).2.2.1
theorem SL.val_good{l:SL}(h:l.good):bc l.val=true:=by
 cases l with
 |v x=>exact h
 |_=>rfl
theorem S0.cells_val{x:S0}(h:x.good):x.val.cells=⟨x.cells.map SL.val⟩:=by
 cases x with
 |leaf l=>exact sP (SL.val_good (h l (by simp[S0.cells])))
 |agg cs=>rfl
theorem S0.noLoc{x:S0}(h:x.good):noLoc x.val=true:=by
 cases x with
 |leaf l=>exact(dv.1 (SL.val_good (h l (by simp[S0.cells])))).1
 |agg cs=>
  simp only[S0.val,Am.noLoc,qab,qaI]
  rintro _ ⟨l,hl,rfl⟩
  exact(dv.1 (SL.val_good (h l hl))).2.1
theorem S0.not_tuple{x:S0}(h:x.good):aD x.val=false:=by
 cases x with
 |leaf l=>exact(dv.1 (SL.val_good (h l (by simp[S0.cells])))).2.2.2
 |agg cs=>rfl
theorem S0.cells_ok{x:S0}(h:x.good):x.val.cells.toList.all aM=true:=by
 rw[S0.cells_val h]
 simp only[qab,qaI]
 rintro _ ⟨l,hl,rfl⟩
 exact nP (SL.val_good (h l hl))
theorem cells_ok'{cs:List SL}(h:∀l∈cs,l.good):(cs.map SL.val).all aM=true:=by
 simp only[qab,qaI]
 rintro _ ⟨l,hl,rfl⟩
 exact nP (SL.val_good (h l hl))
theorem tD{v:Value}(h:scalar v=true):bc v=true:=by
 cases v<;>first|rfl|(simp[scalar]at h;done)|skip
 case pointer a=>cases a<;>first|rfl|simp[scalar]at h
 case slice a l c=>
  cases a with
  |none=>rfl
  |some a=>cases l<;>cases c<;>simp[scalar]at h
theorem qt(v:Value):(slOf v).val=v:=by cases v<;>rfl
theorem mX{v:Value}(h:scalar v=true):(slOf v).good:=by
 cases v<;>first|trivial|exact tD h
theorem qn{v:Value}{x:S0}(h:s0Of v=some x):x.val=v/\x.good/\eA v=true:=by
 unfold s0Of at h
 split at h
 ·rename_i cs
  split at h
  ·rename_i ha
   cases h
   refine⟨?_,?_,ha⟩
   ·simp only[S0.val,qcQ,Value.agg.injEq]
    have:(SL.val ∘ slOf)=id:=funext qt
    rw[this,List.map_id]
   ·intro l hl
    simp only[S0.cells,qaI]at hl
    obtain⟨v,hv,rfl⟩:=hl
    exact mX (qab.1 ha v hv)
  ·cases h
 ·rename_i hne
  split at h
  ·rename_i hs
   cases h
   refine⟨qt v,?_,?_⟩
   ·intro l hl
    simp only[S0.cells,qaD]at hl
    subst hl
    exact mX hs
   ·cases v<;>first|exact hs|exact absurd rfl (hne _)
  ·cases h
theorem cz{a b:IntKind}(h:dB a b=true):a=b:=by
 cases a<;>cases b<;>first|rfl|cases h
theorem dc(a:IntKind):dB a a=true:=by cases a<;>rfl
section
variable [Val] [Kno]
def Told(sks:List SK)(ls:List Lf)(xs:List S0):Prop:=bu xs sks=true/\bF xs=ls/\∀x∈xs,x.good
def aW(C:Cfg)(Sg:FuncId->Option Sig)(g:FuncId)(ls:List Lf)(H:List HObj)(rs:List Lf)(H':List HObj):Prop:=
 ∃sg xs ys,Sg g=some sg/\Told sg.ps ls xs/\Told sg.rs rs ys/\gu C g (ai xs) H (en (ai ys)) H'
def sw(C:Cfg)(v:Value)(args:List Value)(hs:List SK)(H:List HObj)(rs:List Lf)(H':List HObj):Prop:=
 ∃ys,Told hs rs ys/\((∃g first cap,v = .func (.func g) first cap/\gu C g (first.toList++args++cap.toList) H (en (ai ys)) H')∨
  (∃l,v = .func (.yield l) #[] #[]/\jm C l args H (en (ai ys)) H'))
def nk(nt:Nat):List (Nat×SK)->List Value->List Value->List Value
 |(t,_) :: l,v :: vs,tm=>nk nt l vs (tm.set t v)
 |_,_,tm=>tm
def lpOf(s:Site)(κ:Nat)(vals:List Value):ALoop:=
 { state:=.ready,pending:=none,fn:=κ,tmps:=nk s.nt s.caps vals (List.replicate s.nt poison),params:=s.params.map (·.1),assign:=s.assign.erase og,body:=s.body.erase og }
def gK:Lf->Lf->Bool
 | .i a,.i b=>a==b
 | .b a,.b b=>a==b
 |_,_=>false
def cf(l:List (Lf×Lf)):Bool:=l.all λp=>gK p.1 p.2
def ShRun(op:BinOp)(k:IntKind)(x:Int)(k':IntKind)(y n:Int):Prop:=∀(P:Program) (t:TypeId) (w:World),(binOp op t (.int k x) (.int k' y)).run P w = .ok (.int k n) w
structure AlgOk{R HT:Type}(A:Alg R HT)(C:Cfg)(Sg:FuncId->Option Sig)(T:Nat->Site)(holds:R->Prop)(abs:HT->List HObj):Prop where
 fail:¬holds A.fail
 cond:∀b x y,holds (A.cond b x y)->(b=true/\holds x)∨(b=false/\holds y)
 ari:∀op k a b K,holds (A.ari op k a b K)->∃n,oR op k a b n/\holds (K n)
 shf:∀op k a k' b K,holds (A.shf op k a k' b K)->∃n,ShRun op k a k' b n/\holds (K n)
 cmp:∀op a b K,holds (A.cmp op a b K)->∃t,nF op a b=some t/\holds (K t)
 eqs:∀l K,holds (A.eqs l K)->holds (K (cf l))
 conv:∀k a K,holds (A.conv k a K)->holds (K (k.wrap a))
 sel:∀t a b K,holds (A.sel t a b K)->holds (K (if t then a else b))
 opt:∀ {α:Type} (o:Option α) K,holds (A.opt o K)->∃x,o=some x/\holds (K x)
 chk:∀v K,holds (A.chk v K)->bc v=true/\holds K
 unI:∀ls K,holds (A.unI ls K)->∃n r,ls = .i n :: r/\holds (K n r)
 unB:∀ls K,holds (A.unB ls K)->∃t r,ls = .b t :: r/\holds (K t r)
 unV:∀ls K,holds (A.unV ls K)->∃x r,ls = .v x :: r/\holds (K x r)
 un0:∀ls K,holds (A.un0 ls K)->ls=[]/\holds K
 ucI:∀k ls K,holds (A.ucI k ls K)->∃n r,ls = .int k n :: r/\holds (K n r)
 ucB:∀ls K,holds (A.ucB ls K)->∃t r,ls = .bool t :: r/\holds (K t r)
 ucV:∀ls K,holds (A.ucV ls K)->∃x r,ls=x :: r/\holds (K x r)
 uc0:∀ls K,holds (A.uc0 ls K)->ls=[]/\holds K
 peek:∀f h K,holds (A.peek f h K)->∃cs,f.run (λi=>(abs h)[i]?)=some cs/\holds (K cs)
 heap:∀f h K,holds (A.heap f h K)->∃acts cs h',f.run (λi=>(abs h)[i]?) (abs h).length=some (acts,cs)/\abs h'=fD (abs h) acts/\holds (K cs h')
 new:∀o h K,holds (A.new o h K)->∃h',abs h'=abs h++[o]/\holds (K (abs h).length h')
 call:∀g ls h K,holds (A.call g ls h K)->∃rs h',aW C Sg g ls (abs h) rs (abs h')/\holds (K rs h')
 callv:∀v args hs h K,holds (A.callv v args hs h K)->∃rs h',sw C v args hs (abs h) rs (abs h')/\holds (K rs h')
 join:∀b m,holds (A.join b m)->holds (m b)
 loop:∀F ls h,holds (A.loop F ls h)->∃it:Nat->List Lf->HT->R,(∀ls h,¬holds (it 0 ls h))/\(∀n ls h,it (n+1) ls h=F (it n) ls h)/\∃n,holds (it n ls h)
 rfun:∀κ v vals h K,holds (A.rfun κ v vals h K)->∃g first cap r H1 lp h2,v = .func (.func g) first cap/\
  gu C g (first.toList++[.func (.yield (abs h).length) #[] #[]]++cap.toList) (abs h++[.loop (lpOf (T κ) κ vals)]) r H1/\
  dJ H1 (abs h).length=some lp/\lp.state≠.busy/\abs h2=H1.set (abs h).length (.loop { lp with state:=.exhausted })/\holds (K lp.pending h2)
 pend:∀pd kn kr ks,holds (A.pend pd kn kr ks)->(pd=none/\holds kn)∨(pd=some .ret/\holds kr)∨∃id x,pd=some (.exit id)/\(id,x)∈ks/\holds x
 lp1:∀l h K,holds (A.lp1 l h K)->∃lp h',dJ (abs h) l=some lp/\lp.state = .ready/\abs h'=(abs h).set l (.loop { lp with state:=.busy })/\holds (K h')
 lp2:∀l j h K,holds (A.lp2 l j h K)->∃lp h',dJ (abs h) l=some lp/\abs h'=(abs h).set l (.loop { lp with state:=if j.isNone then .ready else .done,pending:=j })/\holds (K h')
def SV.ok(tmps:List Value)(i:Nat)(s:SV):Prop:=
 match s with
 | .no=>True
 |s=>tmps[i]? = some s.val/\s.gd
def LR.ok(loc:List (Option (List Value)))(i:Nat):LR->Prop
 | .unk=>True
 | .nil=>loc[i]? = some none
 | .any n=>∃vs,loc[i]? = some (some vs)/\vs.length=n
 | .row cs=>loc[i]? = some (some (cs.map SL.val))/\∀c∈cs,c.good
structure Rp(ev:Env)(σ:St):Prop where
 len:ev.tm.length=σ.tmps.length
 val:∀(i:Nat) s,ev.tm[i]? = some s->s.ok σ.tmps i
 llen:ev.lc.length=σ.loc.length
 row:∀(i:Nat) r,ev.lc[i]? = some r->r.ok σ.loc i
theorem SV.ok_gd{tmps:List Value}{i:Nat}{s:SV}(h:s.gd)(hv:tmps[i]? = some s.val):s.ok tmps i:=by
 cases s<;>first|trivial|exact⟨hv,h⟩
theorem Rp.at{ev:Env}{σ:St}(h:Rp ev σ){t:Nat}{s:SV}(hs:ev.tm.getD t .no=s)(hn:s≠.no):σ.tmps[t]? = some s.val/\s.gd:=by
 rw[List.getD_eq_getElem?_getD]at hs
 cases he:ev.tm[t]? with
 |none=>rw[he]at hs;exact absurd hs.symm hn
 |some x=>
  rw[he]at hs
  simp only[qbf]at hs
  subst hs
  have:=h.val t x he
  cases x<;>first|exact this|exact absurd rfl hn
theorem Rp.sval{ev:Env}{σ:St}(h:Rp ev σ){x:Operand}{s:SV}(hs:sval ev x=s)(hn:s≠.no):oval σ.tmps x=s.val/\s.gd:=by
 cases x with
 |tmp t=>
  obtain⟨h1,h2⟩:=h.at (t:=t) hs hn
  exact⟨by simp[oval,List.getD_eq_getElem?_getD,h1],h2⟩
 |const v=>
  simp only[Am.sval]at hs
  cases hv:s0Of v with
  |none=>rw[hv]at hs;exact absurd hs.symm hn
  |some x=>
   rw[hv]at hs
   subst hs
   obtain⟨h1,h2,h3⟩:=qn hv
   refine⟨?_,h2⟩
   have:flat v=true:=by cases v<;>first|exact h3|(simp[eA,scalar]at h3)
   simp[oval,this,SV.val,h1]
 |global g=>
  subst hs
  simp only[Am.sval,oval]
  cases hb:Nat.blt g gB with
  |true=>exact⟨rfl,trivial⟩
  |false=>exact absurd (by simp only[Am.sval,hb]) hn
 |func f=>
  subst hs
  refine⟨rfl,λl hl=>?_⟩
  simp only[S0.cells,qaD]at hl
  subst hl
  rfl
theorem Rp.sval0{ev:Env}{σ:St}(h:Rp ev σ){x:Operand}{s:S0}(hs:sval0 ev x=some s):oval σ.tmps x=s.val/\s.good:=by
 unfold Am.sval0 at hs
 split at hs
 ·rename_i y e
  cases hs
  exact h.sval e (by simp)
 ·cases hs
theorem Rp.svals{ev:Env}{σ:St}(h:Rp ev σ):∀ {l:List Operand} {xs:List S0},svals ev l=some xs->l.map (oval σ.tmps)=ai xs/\∀x∈xs,x.good
 | [],xs,hs=>by cases hs;exact⟨rfl,by simp⟩
 |o :: l,xs,hs=>by
  simp only[Am.svals]at hs
  split at hs
  ·rename_i x ys e1 e2
   cases hs
   obtain⟨h1,h2⟩:=h.sval0 e1
   obtain⟨h3,h4⟩:=h.svals e2
   refine⟨by simp[ai,h1];exact h3,λy hy=>?_⟩
   rcases qaj.1 hy with rfl|hy
   ·exact h2
   ·exact h4 y hy
  ·cases hs
theorem Rp.put{ev:Env}{σ:St}(h:Rp ev σ)(d:Nat){s:SV}(hs:s.gd):Rp ⟨ev.tm.set d s,ev.lc⟩ (σ.put (some d) s.val):=by
 refine⟨by simp[St.put,h.len],λi x hx=>?_,h.llen,h.row⟩
 simp only[qaT]at hx
 split at hx
 ·rename_i hi
  subst hi
  split at hx
  ·rename_i hlt
   cases hx
   refine SV.ok_gd hs ?_
   simp only[St.put,List.getElem?_set_self']
   rw[qaE (by rw[←h.len];exact hlt)]
   rfl
  ·cases hx
 ·rename_i hi
  have:=h.val i x hx
  cases x<;>first|trivial|exact⟨by simp only[St.put];rw[qaC hi];exact this.1,this.2⟩
theorem Rp.heap{ev:Env}{σ:St}(h:Rp ev σ)(H:List HObj):Rp ev { σ with heap:=H }:=⟨h.len,h.val,h.llen,h.row⟩
structure Fr(ws ks rs:List Nat)(σ σ':St):Prop where
 tlen:σ'.tmps.length=σ.tmps.length
 llen:σ'.loc.length=σ.loc.length
 tm:∀(i:Nat) v,σ.tmps[i]? = some v->i∉ws->noLoc v=true->σ'.tmps[i]? = some v
 tp:∀(i s off:Nat),σ.tmps[i]? = some (.pointer (some ⟨s,off,some 0⟩))->i∉ws->s∉ks->σ'.tmps[i]? = some (.pointer (some ⟨s,off,some 0⟩))
 row:∀(s:Nat) x,σ.loc[s]? = some x->s∉rs->σ'.loc[s]? = some x
 rlen:∀(s:Nat) vs,σ.loc[s]? = some (some vs)->s∉ks->∃vs',σ'.loc[s]? = some (some vs')/\vs'.length=vs.length
theorem Fr.refl(ws ks rs:List Nat)(σ:St):Fr ws ks rs σ σ:=⟨rfl,rfl,λ_ _ h _ _=>h,λ_ _ _ h _ _=>h,λ_ _ h _=>h,λ_ vs h _=>⟨vs,h,rfl⟩⟩
theorem Fr.trans{ws ks rs:List Nat}{σ σ₁ σ':St}(h:Fr ws ks rs σ σ₁)(h':Fr ws ks rs σ₁ σ'):Fr ws ks rs σ σ':=
 ⟨h'.tlen.trans h.tlen,h'.llen.trans h.llen,λi v a b c=>h'.tm i v (h.tm i v a b c) b c,λi s off a b c=>h'.tp i s off (h.tp i s off a b c) b c,
  λs x a b=>h'.row s x (h.row s x a b) b,λs vs a b=>let ⟨v1,c1,d1⟩:=h.rlen s vs a b;let ⟨v2,c2,d2⟩:=h'.rlen s v1 c1 b;⟨v2,c2,d2.trans d1⟩⟩
theorem Fr.mono{ws ks rs ws' ks' rs':List Nat}{σ σ':St}(h:Fr ws ks rs σ σ')(h1:∀i∈ws,i∈ws')(h2:∀i∈ks,i∈ks')(h3:∀i∈rs,i∈rs'):Fr ws' ks' rs' σ σ':=
 ⟨h.tlen,h.llen,λi v a b c=>h.tm i v a (λhi=>b (h1 i hi)) c,λi s off a b c=>h.tp i s off a (λhi=>b (h1 i hi)) (λhi=>c (h2 s hi)),
  λs x a b=>h.row s x a (λhi=>b (h3 s hi)),λs vs a b=>h.rlen s vs a (λhi=>b (h2 s hi))⟩
theorem Fr.heap{ws ks rs:List Nat}{σ σ':St}(h:Fr ws ks rs σ σ')(H:List HObj):Fr ws ks rs σ { σ' with heap:=H }:=⟨h.tlen,h.llen,h.tm,h.tp,h.row,h.rlen⟩
theorem Fr.put{σ:St}(dst:Option Tmp)(v:Value)(ks rs:List Nat):Fr dst.toList ks rs σ (σ.put dst v):=by
 cases dst with
 |none=>exact .refl _ _ _ _
 |some d=>
  refine⟨by simp[St.put],rfl,λi x h hi _=>?_,λi s off h hi _=>?_,λ_ _ h _=>h,λ_ vs h _=>⟨vs,h,rfl⟩⟩<;>
  ·simp only[Option.toList_some,qaD]at hi
   simp only[St.put]
   rw[qaC (λe=>hi e.symm)]
   exact h
end
end Go.Am

/-
 HEAPS AS TREES: what lies at a number is found,and put,in few steps;lists that are forced.
-/
namespace Go.Am
inductive HO where
 |o (x:HObj)
 |lp (κ:Nat) (st:LoopState) (pd:Option Code) (vs:List Value)
abbrev HL:=List HO
inductive CK where
 |f (g:FuncId)
 |y (κ:Nat) (vs:List Value) (l:Nat)
def absO(T:Nat->Site):HO->HObj
 | .o x=>x
 | .lp κ st pd vs=>.loop { lpOf (T κ) κ vs with state:=st,pending:=pd }
def absH(T:Nat->Site)(h:HL):List HObj:=h.map (absO T)
namespace Sx
inductive HOT where
 |o (x:HObj)
 |lp (κ:Nat) (st:LoopState) (pd:Option Code) (vs:List Value)
 |t (n e:Nat) (rw:Bool) (c:Tr Value)
def nilV:Value:=.bool false
def bq(c:Tr Value)(n:Nat):List Value:=(List.range n).map λi=>(bi i).get nilV c
def HOT.ho:HOT->HO
 | .o x=>.o x
 | .lp κ st pd vs=>.lp κ st pd vs
 | .t n e rw c=>.o (.cells (bq c n) e rw)
structure HTr where
 n:Nat
 t:Tr HOT
def noO:HOT:=.o .dead
def HTr.empty:HTr:=⟨0,.leaf⟩
def HTr.at(h:HTr)(i:Nat):Option HOT:=match Nat.blt i h.n with
 |true=>some ((bi i).get noO h.t)
 |false=>none
def toL(h:HTr):HL:=(List.range h.n).map λi=>((bi i).get noO h.t).ho
theorem cN(h:HTr):(toL h).length=h.n:=by simp[toL]
theorem iq(h:HTr)(i:Nat):(toL h)[i]? = (h.at i).map HOT.ho:=by
 unfold toL HTr.at
 rw[qaw]
 cases e:Nat.blt i h.n with
 |true=>
  rw[qaV]at e
  rw[qbP e];rfl
 |false=>
  have:h.n<=i:=by
   rcases qaz i h.n with h1|h1
   ·rw[←qaV,e]at h1;cases h1
   ·exact h1
  rw[qai (by simpa using this)];rfl
def HTr.put(h:HTr)(i:Nat)(o:HOT):HTr:=match Nat.blt i h.n with
 |true=>⟨h.n,(bi i).set noO h.t o⟩
 |false=>h
def HTr.push(h:HTr)(o:HOT):HTr:=⟨h.n+1,(bi h.n).set noO h.t o⟩
theorem gt(h:HTr)(i:Nat)(o:HOT):toL (h.put i o)=(toL h).set i o.ho:=by
 apply qbc
 intro j
 unfold HTr.put
 cases e:Nat.blt i h.n with
 |true=>
  rw[qaV]at e
  simp only
  rw[iq]
  by_cases hj:i=j
  ·subst hj
   rw[qaW (by rw[cN];exact e)]
   unfold HTr.at
   simp only[(qaV▸e:Nat.blt i h.n=true)]
   rw[Pth.get_set];rfl
  ·rw[qaC hj,iq]
   unfold HTr.at
   simp only
   rw[Pth.get_set_ne _ _ _ _ _ (λh=>hj (jN h).symm)]
 |false=>
  simp only
  have:h.n<=i:=by
   rcases qaz i h.n with h1|h1
   ·rw[←qaV,e]at h1;cases h1
   ·exact h1
  rw[List.set_eq_of_length_le (by rw[cN];exact this)]
theorem fA(h:HTr)(o:HOT):toL (h.push o)=toL h++[o.ho]:=by
 apply qbc
 intro j
 rw[iq]
 unfold HTr.push HTr.at
 simp only
 by_cases h1:j<h.n
 ·rw[qae (by rw[cN];exact h1),iq]
  unfold HTr.at
  have e1:Nat.blt j (h.n+1)=true:=by rw[qaV];omega
  have e2:Nat.blt j h.n=true:=by rw[qaV];omega
  simp only[e1,e2]
  rw[Pth.get_set_ne _ _ _ _ _ (λh=>by have:=jN h;omega)]
 ·rw[qak (by rw[cN];omega),cN]
  by_cases h2:j=h.n
  ·subst h2
   have e1:Nat.blt h.n (h.n+1)=true:=by rw[qaV];omega
   simp only[e1,qbp,qbl]
   rw[Pth.get_set];rfl
  ·have e1:Nat.blt j (h.n+1)=false:=by rw[←qa4,qaV];omega
   simp only[e1]
   rw[qai (by simp;omega)];rfl
theorem aP(c:Tr Value)(n:Nat):(bq c n).length=n:=by simp[bq]
theorem cZ(c:Tr Value){n i:Nat}(h:i<n):(bq c n)[i]? = some ((bi i).get nilV c):=by
 unfold bq
 rw[qaw,qbP h];rfl
def insT:List Value->Nat->Tr Value->Tr Value
 | [],_,c=>c
 |v :: l,i,c=>insT l (i+1) ((bi i).set nilV c v)
theorem pO:∀(l:List Value) (i:Nat) (c:Tr Value) (j:Nat),(bi j).get nilV (insT l i c)=if i<=j/\j<i+l.length then l[j - i]?.getD nilV else(bi j).get nilV c
 | [],i,c,j=>by
  have h:¬(i<=j/\j<i+([]:List Value).length):=by intro h;have:=h.2;simp at this;omega
  rw[if_neg h];rfl
 |v :: l,i,c,j=>by
  show(bi j).get nilV (insT l (i+1) _)=_
  rw[pO l (i+1)]
  by_cases h:i+1<=j/\j<i+1+l.length
  ·rw[if_pos h,if_pos (by simp;omega)]
   have:j - i=(j - (i+1))+1:=by omega
   rw[this,qbM]
  ·rw[if_neg h]
   by_cases h2:j=i
   ·subst h2
    rw[Pth.get_set,if_pos (by simp)];simp
   ·rw[Pth.get_set_ne _ _ _ _ _ (λe=>h2 (jN e)),if_neg (by simp;omega)]
theorem nD{l:List Value}{i n:Nat}{c:Tr Value}(h:i+l.length<=n):bq (insT l i c) n=(bq c n).take i++l++(bq c n).drop (i+l.length):=by
 apply qbc
 intro j
 by_cases hj:j<n
 ·rw[cZ _ hj,pO]
  by_cases h1:j<i
  ·rw[if_neg (by omega),qaB,qae (by rw[qaY,aP];omega),List.getElem?_take_of_lt h1,cZ _ hj]
  ·have hl:((bq c n).take i).length=i:=by rw[qaY,aP];omega
   by_cases h2:j<i+l.length
   ·rw[if_pos ⟨by omega,h2⟩,qaB,qak (by omega),hl,qae (by omega)]
    rw[qaE (by omega)];rfl
   ·rw[if_neg (by omega),qak (by rw[qaO,hl];omega),qaO,hl,qbd,show i+l.length+(j - (i+l.length))=j by omega,cZ _ hj]
 ·rw[qai (by rw[aP];omega),qai (by simp[aP];omega)]
theorem lK{l:List Value}{n:Nat}{c:Tr Value}:bq (insT l n c) (n+l.length)=bq c n++l:=by
 apply qbc
 intro j
 by_cases hj:j<n+l.length
 ·rw[cZ _ hj,pO]
  by_cases h1:j<n
  ·rw[if_neg (by omega),qae (by rw[aP];exact h1),cZ _ h1]
  ·rw[if_pos ⟨by omega,hj⟩,qak (by rw[aP];omega),aP,qaE (by omega)];rfl
 ·rw[qai (by rw[aP];omega),qai (by simp[aP];omega)]
theorem vC(l:List Value):bq (insT l 0 .leaf) l.length=l:=by
 have:=lK (l:=l) (n:=0) (c:=.leaf)
 simpa[bq]using this
def vZ(c:Tr Value)(n:Nat):Nat->List Value:=Nat.rec (motive:=λ_=>Nat->List Value) (λ_=>[]) (λ_ ih off=>(bi off).get nilV c :: fN (Nat.succ off) ih) n
theorem jd(c:Tr Value):∀(n off m:Nat),off+n<=m->vZ c n off=((bq c m).drop off).take n
 |0,_,_,_=>by rw[qaX];rfl
 |n+1,off,m,h=>by
  show(bi off).get nilV c :: vZ c n (off+1)=_
  rw[jd c n (off+1) m (by omega)]
  have h1:off<(bq c m).length:=by rw[aP];omega
  rw[qbz h1,qaH]
  congr 1
  have:=cZ c (n:=m) (i:=off) (by omega)
  rw[qaE h1]at this
  exact(qan this).symm
section
variable {R:Type}
def putR{α:Type}(d:α)(p:Pth):Tr α->α->(Tr α->R)->R:=
 Pth.rec (motive:=λ_=>Tr α->α->(Tr α->R)->R)
  (λt x k=>Tr.casesOn t (k (.node x .leaf .leaf)) λ_ l r=>k (.node x l r))
  (λ_ ih t x k=>Tr.casesOn t (ih .leaf x λl=>k (.node d l .leaf)) λv l r=>ih l x λl=>k (.node v l r))
  (λ_ ih t x k=>Tr.casesOn t (ih .leaf x λr=>k (.node d .leaf r)) λv l r=>ih r x λr=>k (.node v l r)) p
theorem il{α:Type}(d:α):∀(p:Pth) (t:Tr α) (x:α) (k:Tr α->R),putR d p t x k=k (p.set d t x)
 | .e,t,x,k=>by cases t<;>rfl
 | .o p,t,x,k=>by
  cases t with
  |leaf=>exact il d p .leaf x _
  |node v l r=>exact il d p l x _
 | .i p,t,x,k=>by
  cases t with
  |leaf=>exact il d p .leaf x _
  |node v l r=>exact il d p r x _
def putK(h:HTr)(i:Nat)(o:HOT)(k:HTr->R):R:=match Nat.blt i h.n with
 |true=>putR noO (bi i) h.t o λt=>k ⟨h.n,t⟩
 |false=>k h
def iW(h:HTr)(o:HOT)(k:HTr->R):R:=putR noO (bi h.n) h.t o λt=>fN (Nat.succ h.n) λn=>k ⟨n,t⟩
theorem gk(h:HTr)(i:Nat)(o:HOT)(k:HTr->R):putK h i o k=k (h.put i o):=by
 unfold putK HTr.put
 split
 ·rename_i e;rw[il]
 ·rfl
theorem ft(h:HTr)(o:HOT)(k:HTr->R):iW h o k=k (h.push o):=by
 unfold iW HTr.push
 rw[il,eL]
def uV{α:Type}(l:List α):(List α->R)->R:=
 List.rec (motive:=λ_=>(List α->R)->R) (λk=>k []) (λx _ ih k=>ih λl=>k (x :: l)) l
theorem mN{α:Type}:∀(l:List α) (k:List α->R),uV l k=k l
 | [],_=>rfl
 |x :: l,k=>mN l λl=>k (x :: l)
def uW(v:Value)(k:Value->R):R:=match v with
 | .int kd n=>fI n λn=>k (.int kd n)
 | .bool b=>Bool.rec (k (.bool false)) (k (.bool true)) b
 |v=>k v
theorem plainV_eq(v:Value)(k:Value->R):uW v k=k v:=by
 unfold uW
 split
 ·exact iD _ _
 ·rename_i b;cases b<;>rfl
 ·rfl
def insK(l:List Value):Nat->Tr Value->(Tr Value->R)->R:=
 List.rec (motive:=λ_=>Nat->Tr Value->(Tr Value->R)->R) (λ_ c k=>k c) (λv _ ih i c k=>uW v λv=>putR nilV (bi i) c v λc=>fN (Nat.succ i) λi=>ih i c k) l
theorem mf:∀(l:List Value) (i:Nat) (c:Tr Value) (k:Tr Value->R),insK l i c k=k (insT l i c)
 | [],_,_,_=>rfl
 |v :: l,i,c,k=>by
  show(uW v λv=>putR nilV (bi i) c v λc=>fN (Nat.succ i) λi=>insK l i c k)=_
  rw[plainV_eq,il,eL,mf l];rfl
def rC(o:HObj)(k:HOT->R):R:=match o with
 | .cells vs e rw=>fN vs.length λn=>insK vs 0 .leaf λc=>k (.t n e rw c)
 | .map es c=>uV es λes=>fN c λc=>k (.o (.map es c))
 |o=>k (.o o)
theorem iM{o:HObj}{k:HOT->R}:∃x:HOT,x.ho = .o o/\rC o k=k x:=by
 cases o with
 |cells vs e rw=>
  refine⟨.t vs.length e rw (insT vs 0 .leaf),by simp only[HOT.ho,vC],?_⟩
  show(fN vs.length λn=>insK vs 0 .leaf λc=>k (.t n e rw c))=_
  rw[eL,mf]
 |map es c=>
  refine⟨.o (.map es c),rfl,?_⟩
  show(uV es λes=>fN c λc=>k (.o (.map es c)))=_
  rw[mN,eL]
 |_=>exact⟨.o _,rfl,rfl⟩
def qg(l:List Lf):(List Lf->R)->R:=
 List.rec (motive:=λ_=>(List Lf->R)->R) (λk=>k []) (λx _ ih k=>match x with
  | .i n=>fI n λn=>ih λl=>k (.i n :: l)
  | .b t=>Bool.rec (ih λl=>k (.b false :: l)) (ih λl=>k (.b true :: l)) t
  | .v v=>ih λl=>k (.v v :: l)) l
theorem dS:∀(l:List Lf) (k:List Lf->R),qg l k=k l
 | [],_=>rfl
 | .i n :: l,k=>(iD n λn=>qg l λl=>k (.i n :: l)).trans (dS l _)
 | .b true :: l,k=>dS l λl=>k (.b true :: l)
 | .b false :: l,k=>dS l λl=>k (.b false :: l)
 | .v v :: l,k=>dS l λl=>k (.v v :: l)
end
end Sx
end Go.Am

/-
 THE ALGEBRA OF RUNS: a run that the kernel makes.
-/
namespace Go.Am
section
open Sx
abbrev RT:=Option (List Lf)
abbrev yes:RT:=some []
def ans(b:Bool):RT:=match b with|true=>yes|false=>none
abbrev aa:=CK->List Lf->HTr->(List Lf->HTr->RT)->RT
def Act1.onH(h:HL):Act1->HL
 | .set i o=>h.set i (.o o)
 | .push o=>h++[.o o]
def bT(h:HL)(l:List Act1):HL:=l.foldl Act1.onH h
def getH(T:Nat->Site)(h:HL):bR:=λi=>match h[i]? with
 |some x=>some (absO T x)
 |none=>none
def getT(T:Nat->Site)(h:HTr):bR:=λi=>match h.at i with
 |some x=>some (absO T x.ho)
 |none=>none
def vu(l:List Act1):HTr->(HTr->RT)->RT:=
 List.rec (motive:=λ_=>HTr->(HTr->RT)->RT) (λh k=>k h) (λa _ ih h k=>match a with
  | .set i o=>rC o λo=>putK h i o λh=>ih h k
  | .push o=>rC o λo=>iW h o λh=>ih h k) l
def condB(b:Bool)(x y:RT):RT:=Bool.rec y x b
def outG(k:IntKind)(c:Int)(K:Int->RT):RT:=Bool.rec (fI (k.wrap c) K) (K c) (fits k c)
def out64(c:Int)(K:Int->RT):RT:=@Bool.rec (λ_=>RT) (fI (IntKind.wrap .i64 c) K) (K c) (@Int.rec (λ_=>Bool) (λn=>Nat.ble n 9223372036854775807) (λn=>Nat.ble n 9223372036854775807) c)
def outU8(c:Int)(K:Int->RT):RT:=@Bool.rec (λ_=>RT) (fI (IntKind.wrap .u8 c) K) (K c) (@Int.rec (λ_=>Bool) (λn=>Nat.ble n 255) (λ_=>false) c)
def outK(k:IntKind)(c:Int)(K:Int->RT):RT:=@IntKind.rec (λ_=>RT) (outG .i8 c K) (outG .i16 c K) (outG .i32 c K) (out64 c K) (outU8 c K) (outG .u16 c K) (outG .u32 c K) (outG .u64 c K) k
def addK(a b:Int)(K:Int->RT):RT:=
 Int.rec (λm=>Int.rec (λn=>fN (Nat.add m n) λc=>K (.ofNat c)) (λn=>Bool.rec (fN (Nat.sub n m) λc=>K (.negSucc c)) (fN (Nat.sub m (Nat.succ n)) λc=>K (.ofNat c)) (Nat.blt n m)) b)
  (λm=>Int.rec (λn=>Bool.rec (fN (Nat.sub m n) λc=>K (.negSucc c)) (fN (Nat.sub n (Nat.succ m)) λc=>K (.ofNat c)) (Nat.blt m n)) (λn=>fN (Nat.succ (Nat.add m n)) λc=>K (.negSucc c)) b) a
def subK(a b:Int)(K:Int->RT):RT:=
 Int.rec (λm=>Int.rec (λn=>Bool.rec (fN (Nat.sub n (Nat.succ m)) λc=>K (.negSucc c)) (fN (Nat.sub m n) λc=>K (.ofNat c)) (Nat.ble n m)) (λn=>fN (Nat.succ (Nat.add m n)) λc=>K (.ofNat c)) b)
  (λm=>Int.rec (λn=>fN (Nat.add m n) λc=>K (.negSucc c)) (λn=>Bool.rec (fN (Nat.sub m (Nat.succ n)) λc=>K (.negSucc c)) (fN (Nat.sub n m) λc=>K (.ofNat c)) (Nat.ble m n)) b) a
def mulK(a b:Int)(K:Int->RT):RT:=
 Int.rec (λm=>Int.rec (λn=>fN (Nat.mul m n) λc=>K (.ofNat c)) (λn=>Nat.rec (K (.ofNat 0)) (λm' _=>fN (Nat.add (Nat.mul m n) m') λc=>K (.negSucc c)) m) b)
  (λm=>Int.rec (λn=>Nat.rec (K (.ofNat 0)) (λn' _=>fN (Nat.add (Nat.mul m n) n') λc=>K (.negSucc c)) n) (λn=>fN (Nat.mul (Nat.succ m) (Nat.succ n)) λc=>K (.ofNat c)) b) a
def quoK(a b:Int)(K:Int->RT):RT:=
 Int.rec (λm=>Int.rec (λn=>fN (Nat.div m n) λc=>K (.ofNat c)) (λ_=>fI (Int.tdiv a b) K) b) (λ_=>fI (Int.tdiv a b) K) a
def remK(a b:Int)(K:Int->RT):RT:=
 Int.rec (λm=>Int.rec (λn=>fN (Nat.mod m n) λc=>K (.ofNat c)) (λ_=>fI (Int.tmod a b) K) b) (λ_=>fI (Int.tmod a b) K) a
def isZ(b:Int):Bool:=Int.rec (λn=>Nat.beq n 0) (λ_=>false) b
def ariB(op:BinOp)(k:IntKind)(a b:Int)(K:Int->RT):RT:=
 match op with
 | .add=>addK a b λc=>outK k c K
 | .sub=>subK a b λc=>outK k c K
 | .mul=>mulK a b λc=>outK k c K
 | .quo=>Bool.rec (quoK a b λc=>outK k c K) none (isZ b)
 | .rem=>Bool.rec (remK a b K) none (isZ b)
 | .and=>match eqI b 1 with
  |true=>fI (Int.emod a 2) K
  |false=>match a,b with
   | .ofNat m,.ofNat n=>fI (.ofNat (Nat.land m n)) λc=>outK k c K
   |_,_=>none
 | .xor=>match a,b with
  | .ofNat m,.ofNat n=>fI (.ofNat (Nat.xor m n)) λc=>outK k c K
  |_,_=>none
 | .or=>match a,b with
  | .ofNat m,.ofNat n=>fI (.ofNat (Nat.lor m n)) λc=>outK k c K
  |_,_=>none
 |_=>none
def eqZK(a b:Int):Bool:=Int.rec (λm=>Int.rec (λn=>Nat.beq m n) (λ_=>false) b) (λm=>Int.rec (λ_=>false) (λn=>Nat.beq m n) b) a
def notK(b:Bool):Bool:=Bool.rec true false b
def cmpB(op:BinOp)(a b:Int)(K:Bool->RT):RT:=
 match op with
 | .eql=>K (eqZK a b)
 | .neq=>K (notK (eqZK a b))
 | .lss=>K (notK (leZ b a))
 | .leq=>K (leZ a b)
 | .gtr=>K (notK (leZ a b))
 | .geq=>K (leZ b a)
 |_=>none
def eqBK(a b:Bool):Bool:=Bool.rec (notK b) b a
def eqLf(x y:Lf):Bool:=Lf.rec (λa=>Lf.rec (λb=>eqZK a b) (λ_=>false) (λ_=>false) y) (λa=>Lf.rec (λ_=>false) (λb=>eqBK a b) (λ_=>false) y) (λ_=>false) x
def eqsV(l:List (Lf×Lf)):Bool:=List.rec true (λp _ ih=>Bool.rec false ih (eqLf p.1 p.2)) l
def eqsB(l:List (Lf×Lf))(K:Bool->RT):RT:=K (eqsV l)
def convB(k:IntKind)(a:Int)(K:Int->RT):RT:=outK k a K
def selB(t:Bool)(a b:Int)(K:Int->RT):RT:=Bool.rec (K b) (K a) t
def optB{α:Type}(o:Option α)(K:α->RT):RT:=Option.rec none K o
def unIB(ls:List Lf)(K:Int->List Lf->RT):RT:=List.rec none (λx r _=>Lf.rec (λn=>K n r) (λ_=>none) (λ_=>none) x) ls
def unBB(ls:List Lf)(K:Bool->List Lf->RT):RT:=List.rec none (λx r _=>Lf.rec (λ_=>none) (λn=>K n r) (λ_=>none) x) ls
def unVB(ls:List Lf)(K:Value->List Lf->RT):RT:=List.rec none (λx r _=>Lf.rec (λ_=>none) (λ_=>none) (λn=>K n r) x) ls
def un0B(ls:List Lf)(K:RT):RT:=List.rec K (λ_ _ _=>none) ls
def ucIB(k:IntKind)(ls:List Value)(K:Int->List Value->RT):RT:=match ls with | .int k' n :: r=>(match dB k k' with|true=>K n r|false=>none)|_=>none
def ucBB(ls:List Value)(K:Bool->List Value->RT):RT:=match ls with | .bool n :: r=>K n r|_=>none
def ucVB(ls:List Value)(K:Value->List Value->RT):RT:=match ls with|n :: r=>K n r|_=>none
def uc0B(ls:List Value)(K:RT):RT:=match ls with | []=>K|_=>none
def spot0(s:Option Nat):Bool:=match s with
 |none=>true
 |some k=>match k with
  |0=>false
  |_=>true
def goodF(v:Value):Bool:=match v with
 | .pointer (some a)=>spot0 a.spot
 | .slice (some a) _ _=>spot0 a.spot
 |v=>bc v
def chkB(v:Value)(K:RT):RT:=match goodF v with|true=>K|false=>none
def lenR{α:Type}(l:List α):Nat:=List.rec 0 (λ_ _ n=>Nat.succ n) l
def ldB(n:Nat)(p:Value)(h:HTr)(K:List Value->RT):RT:=match p with
 | .pointer (some a)=>match a.spot with
  |none=>match h.at a.block with
   |some (.t m _ _ c)=>match Nat.ble (Nat.add a.off n) m with
    |true=>K (vZ c n a.off)
    |false=>none
   |_=>none
  |some _=>none
 |_=>none
def lgB(C:Cfg)(n:Nat)(p:Value)(h:HTr)(K:List Value->RT):RT:=match p with
 | .pointer (some a)=>match a.spot with
  |none=>match h.at a.block with
   |some (.t m _ _ c)=>match Nat.ble (Nat.add a.off n) m with
    |true=>K (vZ c n a.off)
    |false=>none
   |_=>none
  |some k=>match Nat.beq k 1 with
   |true=>match C.G a.block with
    |some vs=>match cutL vs a.off n with
     |some cs=>K cs
     |none=>none
    |none=>none
   |false=>none
 |_=>none
def peekB(T:Nat->Site)(f:Pk)(h:HTr)(K:List Value->RT):RT:=match f with
 | .ld n p=>ldB n p h K
 | .lg C n p=>lgB C n p h K
 | .fn f=>match f (getT T h)with|some x=>K x|none=>none
def stB(p:Value)(new:List Value)(h:HTr)(K:List Value->HTr->RT):RT:=match p with
 | .pointer (some a)=>match a.spot with
  |none=>match h.at a.block with
   |some (.t m e true c)=>match Nat.ble (Nat.add a.off (lenR new)) m with
    |true=>insK new a.off c λc=>putK h a.block (.t m e true c) λh=>K [] h
    |false=>none
   |_=>none
  |some _=>none
 |_=>none
def tagB(s:Option Nat)(esz:Nat):Bool:=match s with
 |none=>false
 |some k=>Nat.beq k (Nat.add esz 10)
def slB(C:Cfg)(T:Nat->Site)(esz:Nat)(x:Value)(h:HTr)(K:List Value->Nat->RT):RT:=match x with
 | .slice (some a) len _=>match tagB a.spot esz with
  |true=>match h.at a.block with
   |some (.t m e _ c)=>match Nat.beq e esz,Nat.ble (Nat.add a.off (Nat.mul len esz)) m with
    |true,true=>K (vZ c (Nat.mul len esz) a.off) len
    |_,_=>none
   |_=>none
  |false=>match slG C esz (getT T h) x with
   |some p=>K p.1 p.2
   |none=>none
 |x=>match slG C esz (getT T h) x with
  |some p=>K p.1 p.2
  |none=>none
def growB(c:Tr Value)(m off w esz:Nat)(new:List Value)(k:HOT->RT):RT:=match Nat.beq off 0,Nat.beq w m with
 |true,true=>insK new m c λc=>fN (Nat.add m (lenR new)) λm=>k (.t m esz true c)
 |_,_=>rC (.cells (vZ c w off++new) esz true) k
def apB(T:Nat->Site)(C:Cfg)(esz bytes:Nat)(s x:Value)(h:HTr)(K:List Value->HTr->RT):RT:=
 slB C T esz x h λnew n=>match s with
  | .slice none 0 0=>match n with
   |0=>K [.slice none 0 0] h
   |n+1=>match cj (n+1) bytes with
    |true=>rC (.cells new esz true) λo=>iW h o λh'=>fN (n+1) λn=>K [.slice (some ⟨h.n,0,tag esz⟩) n 0] h'
    |false=>none
  | .slice (some a) len cx=>match tagB a.spot esz with
   |false=>none
   |true=>match h.at a.block with
    |some (.t m e rw c)=>match Nat.beq e esz,Nat.ble (Nat.add a.off (Nat.mul len esz)) m with
     |true,true=>match cx with
      |0=>match n with
       |0=>K [.slice (some a) len 0] h
       |n+1=>match rw,cj (len+(n+1)) bytes with
        |true,true=>growB c m a.off (Nat.mul len esz) esz new λo=>putK h a.block (.o .dead) λh'=>iW h' o λh''=>fN (len+(n+1)) λl=>K [.slice (some ⟨h.n,0,tag esz⟩) l 0] h''
        |_,_=>none
      |cap+1=>match Nat.ble (len+n) cap with
       |true=>match rw,Nat.ble (Nat.add (Nat.add a.off (Nat.mul len esz)) (lenR new)) m with
        |true,true=>insK new (Nat.add a.off (Nat.mul len esz)) c λc=>putK h a.block (.t m e true c) λh'=>fN (len+n) λl=>K [.slice (some a) l (cap+1)] h'
        |_,_=>none
       |false=>match cj (len+n) bytes with
        |true=>growB c m a.off (Nat.mul len esz) esz new λo=>iW h o λh'=>fN (len+n) λl=>K [.slice (some ⟨h.n,0,tag esz⟩) l 0] h'
        |false=>none
     |_,_=>none
    |_=>none
  |_=>none
def heapB(T:Nat->Site)(f:Hp)(h:HTr)(K:List Value->HTr->RT):RT:=match f with
 | .st p new=>stB p new h K
 | .ap C esz bytes s x=>apB T C esz bytes s x h K
 | .fn f=>match f (getT T h) h.n with|some p=>uV p.2 λcs=>vu p.1 h λh=>K cs h|none=>none
def newB(o:HObj)(h:HTr)(K:Nat->HTr->RT):RT:=rC o λo=>iW h o λh'=>K h.n h'
def toSL(k:LK)(v:Value):Option SL:=
 match k with
 | .i k=>match v with
  | .int k' n=>match dB k' k with
   |true=>some (.i k' n)
   |false=>none
  |_=>none
 | .b=>match v with
  | .bool t=>some (.b t)
  |_=>none
 | .v=>match bc v with
  |true=>some (.v v)
  |false=>none
def toSLs:List LK->List Value->Option (List SL)
 | [],[]=>some []
 |k :: ks,v :: vs=>match toSL k v with
  |some x=>match toSLs ks vs with
   |some xs=>some (x :: xs)
   |none=>none
  |none=>none
 |_,_=>none
def toS0(sk:SK)(v:Value):Option S0:=
 match sk with
 | .leaf k=>(toSL k v).map .leaf
 | .agg ks=>match v with
  | .agg cs=>(toSLs ks cs.toList).map .agg
  |_=>none
def toS0s:List SK->List Value->Option (List S0)
 | [],[]=>some []
 |k :: ks,v :: vs=>match toS0 k v with
  |some x=>match toS0s ks vs with
   |some xs=>some (x :: xs)
   |none=>none
  |none=>none
 |_,_=>none
def eqLK:LK->LK->Bool
 | .i a,.i b=>dB a b
 | .b,.b=>true
 | .v,.v=>true
 |_,_=>false
def eqLKs:List LK->List LK->Bool
 | [],[]=>true
 |a :: l,b :: m=>eqLK a b&&eqLKs l m
 |_,_=>false
def eqSK:SK->SK->Bool
 | .leaf a,.leaf b=>eqLK a b
 | .agg a,.agg b=>eqLKs a b
 |_,_=>false
def eqSKs:List SK->List SK->Bool
 | [],[]=>true
 |a :: l,b :: m=>eqSK a b&&eqSKs l m
 |_,_=>false
def gf(ls:List Lf):Bool:=List.rec true (λl _ ih=>match l with
 | .v x=>(match goodF x with
  |true=>ih
  |false=>false)
 |_=>ih) ls
section
variable (Sg:FuncId->Option Sig) (T:Nat->Site) (call:aa)
def vz(g:FuncId)(ls:List Lf)(h:HTr)(K:List Lf->HTr->RT):RT:=match gf ls with|true=>call (.f g) ls h K|false=>none
def kT(g:FuncId)(hs:Option (List SK))(vals:List Value)(h:HTr)(K:List Lf->HTr->RT):RT:=
 match Sg g with
 |none=>none
 |some sg=>match (match hs with|none=>true|some hs=>eqSKs sg.rs hs)with
  |false=>none
  |true=>match toS0s sg.ps vals with
   |none=>none
   |some xs=>vz call g (bF xs) h K
def callvB(v:Value)(args:List Value)(hs:List SK)(h:HTr)(K:List Lf->HTr->RT):RT:=
 match v with
 | .func fn first cap=>match fn with
  | .func g=>kT Sg call g (some hs) (first.toList++args++cap.toList) h K
  | .yield l=>match first.toList,cap.toList with
   | [],[]=>match h.at l with
    |some (.lp κ _ _ vs)=>match eqSKs [.leaf .b] hs with
     |false=>none
     |true=>match toS0s ((T κ).params.map (·.2)) args with
      |none=>none
      |some xs=>match gf (bF xs)with
       |true=>call (.y κ vs l) (bF xs) h K
       |false=>none
    |_=>none
   |_,_=>none
  |_=>none
 |_=>none
def rfunB(κ:Nat)(v:Value)(vals:List Value)(h:HTr)(K:Option Code->HTr->RT):RT:=
 match v with
 | .func fn first cap=>match fn with
  | .func g=>iW h (.lp κ .ready none vals) λh0=>kT Sg call g none (first.toList++[.func (.yield h.n) #[] #[]]++cap.toList) h0 λ_ h1=>match h1.at h.n with
   |some (.lp κ' st pd vs)=>match st with
    | .busy=>none
    |_=>putK h1 h.n (.lp κ' .exhausted pd vs) λh2=>K pd h2
   |_=>none
  |_=>none
 |_=>none
def pendB(pd:Option Code)(kn kr:RT)(ks:List (Nat×RT)):RT:=
 match pd with
 |none=>kn
 |some c=>match c with
  | .ret=>kr
  | .exit id=>List.rec none (λp _ ih=>match Nat.beq p.1 id with|true=>p.2|false=>ih) ks
  |_=>none
def lp1B(l:Nat)(h:HTr)(K:HTr->RT):RT:=
 match h.at l with
 |some (.lp κ st pd vs)=>match st with
  | .ready=>putK h l (.lp κ .busy pd vs) K
  |_=>none
 |_=>none
def lp2B(l:Nat)(j:Option Code)(h:HTr)(K:HTr->RT):RT:=
 match h.at l with
 |some (.lp κ _ _ vs)=>match j with
  |none=>putK h l (.lp κ .ready none vs) K
  |some c=>putK h l (.lp κ .done (some c) vs) K
 |_=>none
end
def loopB(F:(List Lf->HTr->RT)->List Lf->HTr->RT)(ls:List Lf)(h:HTr):RT:=
 Nat.rec (motive:=λ_=>List Lf->HTr->RT) (λ_ _=>none) (λ_ ih ls h=>F ih ls h) 1000000 ls h
def joinB(b:List Lf->HTr->RT)(m:(List Lf->HTr->RT)->RT):RT:=m b
def shfB(op:BinOp)(k:IntKind)(a:Int)(_:IntKind)(b:Int)(K:Int->RT):RT:=match leZ 0 b with
 |true=>match op with
  | .shl=>fI (k.wrap (a*2 ^ min b.toNat k.bits)) K
  | .shr=>fI (a.fdiv (2 ^ min b.toNat k.bits)) K
  |_=>none
 |false=>none
def BA(Sg:FuncId->Option Sig)(T:Nat->Site)(call:aa):Alg RT HTr where
 fail:=none
 cond:=condB
 ari:=ariB
 shf:=shfB
 cmp:=cmpB
 eqs:=eqsB
 conv:=convB
 sel:=selB
 opt:=optB
 chk:=chkB
 unI:=unIB
 unB:=unBB
 unV:=unVB
 un0:=un0B
 ucI:=ucIB
 ucB:=ucBB
 ucV:=ucVB
 uc0:=uc0B
 peek:=peekB T
 heap:=heapB T
 new:=newB
 call:=vz call
 callv:=callvB Sg T call
 join:=joinB
 loop:=loopB
 rfun:=rfunB Sg call
 pend:=pendB
 lp1:=lp1B
 lp2:=lp2B
end
end Go.Am

/-
 REGIONS THAT DRAW THEIR ORDER: what is known where the values have been told apart.
-/
namespace Go.Am
namespace Sx
section
variable [Val] [Kno]
def wAt(pts:List Nat)(tm:List Value)(o:Oper):List Nat:=(wOps pts o).flatMap λx=>adr (oval tm x)
def fAt(pts:List Nat)(tm:List Value)(o:Oper):List Nat:=(cE pts o).1.flatMap λx=>adrK (cE pts o).2 (oval tm x)
def dstIn(pts:List Nat)(tm:List Value)(o:Oper):Prop:=∀d,o.dst=some d->hCls pts o=2->∃v,tm[d]? = some v
def SepAt(pts:List Nat)(ops:Array Oper)(tm:List Value)(ps:List (Nat×Nat)):Prop:=
 ∀p∈ps,∃a b,ops[p.1]? = some a/\ops[p.2]? = some b/\(∀x∈wAt pts tm a,x∉fAt pts tm b)/\(∀x∈wAt pts tm a,x∉wAt pts tm b)/\(∀x∈wAt pts tm b,x∉fAt pts tm a)/\dstIn pts tm a/\dstIn pts tm b
def SameAt(ops:Array Oper)(k:Nat)(σ σ':St):Prop:=∃o d x,ops[k]? = some o/\o.dst=some d/\σ.tmps[d]? = some x/\σ'.tmps[d]? = some x
def DrOk(C:Cfg)(dr:Dr):Prop:=∀pts ops ps,dr pts ops=some ps->match splOf ps with
 |none=>∀(n:Nat) (σ σ':St),aX C (sm C n).toBelow pts ops (List.range ops.size) σ σ'->SepAt pts ops σ'.tmps ps->dW C (sm C n).toBelow pts ops σ σ'
 |some p=>∀(n:Nat) (σ σ₁ σ₂ σ':St),aX C (sm C n).toBelow pts ops (List.range' 0 (ops.toList.take (p.2+1)).length) σ σ₁->aj C (sm C n).toBelow pts ops p.1 σ₁ σ₂->SameAt ops p.1 σ₁ σ₂->
   aX C (sm C n).toBelow pts ops (List.range' (p.2+1) (ops.toList.drop (p.2+1)).length) σ₁ σ'->dW C (sm C n).toBelow pts ops σ σ'
theorem uD{x:Nat}:∀ {l:List Nat},memN x l=true↔x∈l
 | []=>by simp[memN]
 |y :: l=>by
  unfold memN
  cases h:Nat.beq x y with
  |true=>simp[qac h]
  |false=>
   have:x≠y:=λe=>by subst e;rw[show Nat.beq x x=true from qb4 x]at h;cases h
   simp only[qaj,this,false_or]
   exact uD
theorem tZ:∀ {l m:List Nat},disjN l m=true->∀x∈l,x∉m
 | [],_,_,_,h=>by cases h
 |y :: l,m,h,x,hx=>by
  unfold disjN at h
  cases hm:memN y m with
  |true=>rw[hm]at h;cases h
  |false=>
   rw[hm]at h
   rcases qaj.1 hx with rfl|hx
   ·intro e;rw[uD.2 e]at hm;cases hm
   ·exact tZ h x hx
theorem sepL_ok:∀ {l:List (Value×Nat×Value)} {u:Unit},sepL l=some u->∀p∈l,∀r∈adr p.1,r∉adrK p.2.1 p.2.2
 | [],_,_,_,h=>by cases h
 |q :: l,u,h,p,hp=>by
  unfold sepL at h
  split at h
  ·rename_i hd
   rcases qaj.1 hp with rfl|hp
   ·exact tZ hd
   ·exact sepL_ok h p hp
  ·cases h
theorem entV_ok{ev:Env}{σ:St}(hR:Rp ev σ){x:Operand}{us:List Value}(h:entV (sval ev x)=some us)(k r:Nat)(hr:r∈adrK k (oval σ.tmps x)):∃u∈us,r∈adrK k u:=by
 have hn:sval ev x≠.no:=λe=>by rw[e]at h;cases h
 have hv:=(hR.sval rfl hn).1
 rw[hv]at hr
 generalize sval ev x=s at *
 have none:adrK k s.val=[]->∃u∈us,r∈adrK k u:=λe=>by rw[e]at hr;cases hr
 cases s with
 |st y=>
  cases y with
  |leaf l=>
   cases l with
   |v u=>
    cases h
    exact⟨u,by simp,hr⟩
   |_=>exact none (by cases k with|zero=>rfl|succ k=>cases k<;>rfl)
  |agg cs=>exact none (by cases k with|zero=>rfl|succ k=>cases k<;>rfl)
 |no=>exact absurd rfl hn
 |_=>exact none (by cases k with|zero=>rfl|succ k=>cases k<;>rfl)
theorem fe{ev:Env}{σ:St}(hR:Rp ev σ):∀ {l:List Operand} {us:List Value},px ev l=some us->∀(k r:Nat),r∈l.flatMap (λx=>adrK k (oval σ.tmps x))->∃u∈us,r∈adrK k u
 | [],_,_,_,_,h=>by cases h
 |x :: l,us,h,k,r,hr=>by
  unfold px at h
  split at h
  ·rename_i a b ha hb
   cases h
   rw[qby,qaP]at hr
   rcases hr with hr|hr
   ·obtain⟨u,h1,h2⟩:=entV_ok hR ha k r hr
    exact⟨u,qaQ _ h1,h2⟩
   ·obtain⟨u,h1,h2⟩:=fe hR hb k r hr
    exact⟨u,qa9 _ h1,h2⟩
  ·cases h
theorem lU{ev:Env}{σ:St}(hR:Rp ev σ){d:Nat}:∀ {l:List Operand} {us:List Value},px ev l=some us->Operand.tmp d∈l->∃v,σ.tmps[d]? = some v
 |x :: l,us,h,hm=>by
  unfold px at h
  split at h
  ·rename_i a b ha hb
   rcases qaj.1 hm with rfl|hm
   ·have hn:sval ev (.tmp d)≠.no:=λe=>by rw[e]at ha;cases ha
    exact⟨_,(hR.at (s:=ev.tm.getD d .no) rfl hn).1⟩
   ·exact lU hR hb hm
  ·cases h
theorem qA{pts:List Nat}{o:Oper}{d:Nat}(hd:o.dst=some d)(h:hCls pts o=2):Operand.tmp d∈wOps pts o:=by
 unfold wOps
 rw[h,hd]
 simp
theorem lP{us vs:List Value}{k:Nat}{u v:Value}(hu:u∈us)(hv:v∈vs):(u,k,v)∈cross us k vs:=by
 unfold cross
 exact qbX.2 ⟨u,hu,qaI.2 ⟨v,hv,rfl⟩⟩
theorem sepOne_ok{pts:List Nat}{ev:Env}{σ:St}(hR:Rp ev σ){a b:Oper}{l:List (Value×Nat×Value)}(h:sepOne pts ev a b=some l)(hs:∀p∈l,∀r∈adr p.1,r∉adrK p.2.1 p.2.2) :
  (∀x∈wAt pts σ.tmps a,x∉fAt pts σ.tmps b)/\(∀x∈wAt pts σ.tmps a,x∉wAt pts σ.tmps b)/\(∀x∈wAt pts σ.tmps b,x∉fAt pts σ.tmps a)/\dstIn pts σ.tmps a/\dstIn pts σ.tmps b:=by
 unfold sepOne at h
 split at h
 ·rename_i wa wb fa fb h1 h2 h3 h4
  cases h
  refine⟨λx hx hy=>?_,λx hx hy=>?_,λx hx hy=>?_,λd hd hc=>lU hR h1 (qA hd hc),λd hd hc=>lU hR h2 (qA hd hc)⟩
  ·obtain⟨u,u1,u2⟩:=fe hR h1 0 x hx
   obtain⟨v,v1,v2⟩:=fe hR h4 _ x hy
   exact hs (u,_,v) (qaQ _ (qaQ _ (lP u1 v1))) x u2 v2
  ·obtain⟨u,u1,u2⟩:=fe hR h1 0 x hx
   obtain⟨v,v1,v2⟩:=fe hR h2 0 x hy
   exact hs (u,0,v) (qaQ _ (qa9 _ (lP u1 v1))) x u2 v2
  ·obtain⟨u,u1,u2⟩:=fe hR h2 0 x hx
   obtain⟨v,v1,v2⟩:=fe hR h3 _ x hy
   exact hs (u,_,v) (qa9 _ (lP u1 v1)) x u2 v2
 ·cases h
theorem oG{pts:List Nat}{ops:Array Oper}{ev:Env}{σ:St}(hR:Rp ev σ):∀ {ps:List (Nat×Nat)} {l:List (Value×Nat×Value)},qp pts ops ev ps=some l->(∀p∈l,∀r∈adr p.1,r∉adrK p.2.1 p.2.2)->SepAt pts ops σ.tmps ps
 | [],_,_,_,_,h=>by cases h
 |q :: ps,l,h,hs,p,hp=>by
  unfold qp at h
  split at h
  ·rename_i a b r ha hb hr
   obtain⟨x,hx,rfl⟩:=qad.1 h
   rcases qaj.1 hp with rfl|hp
   ·exact⟨a,b,ha,hb,sepOne_ok hR hx λp hp=>hs p (qaQ _ hp)⟩
   ·exact oG hR hr (λp hp=>hs p (qa9 _ hp)) p hp
  ·cases h
theorem eqFn_ok{x y:Value}{u:Unit}(h:eqFn x y=some u):x=y:=by
 unfold eqFn at h
 split at h
 ·split at h
  ·split at h
   ·rename_i l a b _ m c d e1 e2 e3 e4 e5
    have e1:=qac e1
    have f:∀ {a:Array Value},a.toList=[]->a = #[]:=λh=>qa7.1 h
    rw[e1,f e2,f e3,f e4,f e5]
   ·cases h
  ·cases h
 ·cases h
theorem entF_ok{ev:Env}{σ:St}(hR:Rp ev σ){d:Nat}{x:Value}(h:entF (ev.tm.getD d .no)=some x):σ.tmps[d]? = some x:=by
 unfold entF at h
 split at h
 ·rename_i y hy
  cases h
  exact(hR.at hy (by simp)).1
 ·cases h
theorem sepK_ok{R HT:Type}{A:Alg R HT}{C:Cfg}{Sg:FuncId->Option Sig}{T:Nat->Site}{holds:R->Prop}{abs:HT->List HObj}(hA:AlgOk A C Sg T holds abs){pts:List Nat}{ops:Array Oper}{ps:List (Nat×Nat)}{kn:KN R HT}{ev:Env}{σ:St}(hR:Rp ev σ){h:HT}(hk:holds (sepK A pts ops ps kn ev h)) :
  SepAt pts ops σ.tmps ps/\holds (kn ev h):=by
 unfold sepK at hk
 split at hk
 ·exact⟨λp hp=>(by cases hp),hk⟩
 ·simp only at hk
  split at hk
  ·rename_i l hl
   obtain⟨u,h1,h2⟩:=hA.opt _ _ hk
   exact⟨oG hR hl (sepL_ok h1),h2⟩
  ·exact absurd hk hA.fail
end
end Sx
end Go.Am

/-
 OPERATIONS: what the algebra says of them,the abstract machine does. First part: temporaries,local rows,structs.
-/
namespace Go.Am
section
variable [Val] [Kno] {R HT:Type} {A:Alg R HT} {X:Ctxt} {Sg:FuncId->Option Sig} {holds:R->Prop} {abs:HT->List HObj}
variable {ev:Env} {σ:St} {h:HT} {o:Oper} {K:KN R HT}
def StepO(C:Cfg)(pts:List Nat)(o:Oper)(σ σ':St):Prop:=
 (∃e,ak C pts (oval σ.tmps) o=some e/\iC (uB C) e o.dst σ σ')∨(∃v,gU C σ.tmps o v/\σ'=σ.put o.dst v)
def rQ(pts:List Nat)(o:Oper):Option Nat:=
 match o.op,o.dst with
 | .box ..,some d=>if pts.getD d 0=d+2 then some d else none
 | .alloc _,some d=>if pts.getD d 0=d+2 then some d else none
 |_,_=>none
def Done(X:Ctxt)(holds:R->Prop)(abs:HT->List HObj)(o:Oper)(σ:St)(K:KN R HT):Prop:=
 ∃σ' ev' h',StepO X.C X.pts o σ σ'/\Rp ev' σ'/\abs h'=σ'.heap/\Fr o.dst.toList (rQ X.pts o).toList (ik X.pts o).toList σ σ'/\holds (K ev' h')
theorem tE(hR:Rp ev σ){dst:Option Tmp}{s:SV}(hs:s.gd)(hk:holds (setD dst s ev h K)):∃ev',Rp ev' (σ.put dst s.val)/\holds (K ev' h):=by
 unfold setD at hk
 cases dst with
 |none=>exact⟨ev,hR,hk⟩
 |some d=>
  simp only[setK_eq]at hk
  exact⟨_,hR.put d hs,hk⟩
theorem cR(hR:Rp ev σ)(H':List HObj)(ha:abs h=H'){s:SV}(hs:s.gd)
  (hst:StepO X.C X.pts o σ (({ σ with heap:=H' }:St).put o.dst s.val)) (hk:holds (setD o.dst s ev h K)):Done X holds abs o σ K:=by
 obtain⟨ev',h1,h2⟩:=tE (hR.heap H') hs hk
 refine⟨_,ev',h,hst,h1,?_,?_,h2⟩
 ·rw[ha];cases o.dst<;>rfl
 ·have:=Fr.put (σ:=({ σ with heap:=H' }:St)) o.dst s.val (rQ X.pts o).toList (ik X.pts o).toList
  exact⟨this.tlen,this.llen,this.tm,this.tp,this.row,this.rlen⟩
theorem az(hR:Rp ev σ)(ha:abs h=σ.heap){s:SV}(hs:s.gd)(he:ak X.C X.pts (oval σ.tmps) o=some (.val s.val))(hk:holds (setD o.dst s ev h K)) :
  Done X holds abs o σ K:=
 cR hR σ.heap ha hs (.inl ⟨_,he,_,rfl,rfl⟩) hk
theorem bK(hR:Rp ev σ)(ha:abs h=σ.heap){s:SV}(hs:s.gd)(he:gU X.C σ.tmps o s.val)(hk:holds (setD o.dst s ev h K)) :
  Done X holds abs o σ K:=
 cR hR σ.heap ha hs (.inr ⟨_,he,rfl⟩) hk
theorem fU(hR:Rp ev σ)(ha:abs h=σ.heap){s:SV}(hs:s.gd){f:List HObj->Option Value}(he:ak X.C X.pts (oval σ.tmps) o=some (.hget f))(hf:f σ.heap=some s.val)
  (hk:holds (setD o.dst s ev h K)):Done X holds abs o σ K:=
 cR hR σ.heap ha hs (.inl ⟨_,he,(σ,s.val),by simp[aG,hf],rfl⟩) hk
theorem cF(hR:Rp ev σ){H':List HObj}(ha:abs h=H'){s:SV}(hs:s.gd){f:List HObj->Option (List HObj×Value)}(he:ak X.C X.pts (oval σ.tmps) o=some (.hop f))
  (hf:f σ.heap=some (H',s.val)) (hk:holds (setD o.dst s ev h K)):Done X holds abs o σ K:=
 cR hR H' ha hs (.inl ⟨_,he,({ σ with heap:=H' },s.val),by simp[aG,hf],rfl⟩) hk
theorem move_ok(hR:Rp ev σ)(ha:abs h=σ.heap){x:Operand}(ho:o.op = .move x∨o.op = .assign x){y:SV}(hy:sval ev x=y)(hn:y≠.no)(hk:holds (setD o.dst y ev h K)):Done X holds abs o σ K:=by
 obtain⟨h1,h2⟩:=hR.sval hy hn
 refine az hR ha h2 ?_ hk
 rcases ho with ho|ho<;>simp only[ak,ho,h1]
theorem pick_ok(hA:AlgOk A X.C Sg X.T holds abs)(hR:Rp ev σ)(ha:abs h=σ.heap){c a b:Operand}(ho:o.op = .pick c a b)
  (hk:holds (match sval ev c,sval ev a,sval ev b with
  | .st (.leaf (.l true)),.st y,_=>setD o.dst (.st y) ev h K
  | .st (.leaf (.l false)),_,.st y=>setD o.dst (.st y) ev h K
  | .st (.leaf (.b t)),.st y,.st z=>A.cond t (setD o.dst (.st y) ev h K) (setD o.dst (.st z) ev h K)
  |_,_,_=>A.fail)):Done X holds abs o σ K:=by
 split at hk
 ·rename_i y e1 e2
  obtain⟨h1,_⟩:=hR.sval e1 (by simp)
  obtain⟨h2,g2⟩:=hR.sval e2 (by simp)
  refine az hR ha g2 ?_ hk
  simp only[ak,ho,h1,SV.val,S0.val,SL.val,if_true,h2]
 ·rename_i y e1 e2
  obtain⟨h1,_⟩:=hR.sval e1 (by simp)
  obtain⟨h2,g2⟩:=hR.sval e2 (by simp)
  refine az hR ha g2 ?_ hk
  simp only[ak,ho,h1,SV.val,S0.val,SL.val,h2,qar,if_false]
 ·rename_i t y z e1 e2 e3
  obtain⟨h1,_⟩:=hR.sval e1 (by simp)
  obtain⟨h2,g2⟩:=hR.sval e2 (by simp)
  obtain⟨h3,g3⟩:=hR.sval e3 (by simp)
  rcases hA.cond _ _ _ hk with⟨ht,hk⟩|⟨ht,hk⟩
  ·refine az hR ha g2 ?_ hk
   simp only[ak,ho,h1,SV.val,S0.val,SL.val,ht,if_true,h2]
  ·refine az hR ha g3 ?_ hk
   simp only[ak,ho,h1,SV.val,S0.val,SL.val,ht,h3,qar,if_false]
 ·exact absurd hk hA.fail
theorem newV_ok(hA:AlgOk A X.C Sg X.T holds abs)(hR:Rp ev σ)(ha:abs h=σ.heap){t:TypeId}{x:S0}(hx:x.good)(he:ak X.C X.pts (oval σ.tmps) o=bP X.C X.pts o.dst t x.val)
  (hb:(∃y,o.op = .box t y)∨o.op = .alloc t) (hk:holds (newV A X o.dst t x ev h K)):Done X holds abs o σ K:=by
 unfold newV at hk
 split at hk
 ·exact absurd hk hA.fail
 ·rename_i d hd
  have eh:=S0.cells_val hx
  have hok:=S0.cells_ok hx
  have hnt:=S0.not_tuple hx
  split at hk
  ·rename_i hp
   have hp:X.pts.getD d 0=d+2:=by simpa using hp
   split at hk
   ·rename_i hl
    rw[setK_eq,setK_eq]at hk
    have hrow:ev.lc[d]? = some .nil:=by
     rw[List.getD_eq_getElem?_getD]at hl
     cases he:ev.lc[d]? with
     |none=>rw[he]at hl;cases hl
     |some r=>rw[he]at hl;simp at hl;rw[hl]
    have hloc:σ.loc[d]? = some none:=hR.row d _ hrow
    have heff:ak X.C X.pts (oval σ.tmps) o=some (.lnew d (x.cells.map SL.val)):=by
     rw[he,hd]
     unfold bP
     simp only[hnt,qar,if_false,eh,cells_ok' hx,qbi,hp,if_true]
    let σ₁:St:={ σ with loc:=σ.loc.set d (some (x.cells.map SL.val)) }
    have hR1:Rp ⟨ev.tm,ev.lc.set d (.row x.cells)⟩ σ₁:=by
     refine⟨hR.len,hR.val,by simp[σ₁,hR.llen],λi r hr=>?_⟩
     simp only[qaT]at hr
     split at hr
     ·rename_i hi
      subst hi
      split at hr
      ·rename_i hlt
       cases hr
       exact⟨by simp only[σ₁];rw[qaW (by rw[←hR.llen];exact hlt)],hx⟩
      ·cases hr
     ·rename_i hi
      have:=hR.row i r hr
      have hne:σ₁.loc[i]? = σ.loc[i]?:=by simp only[σ₁];rw[qaC hi]
      cases r<;>first|trivial|(simp only[LR.ok]at this ⊢;rw[hne];exact this)
    have hkey:rQ X.pts o=some d:=by
     rcases hb with⟨y,hb⟩|hb<;>(simp only[rQ,hb,hd];rw[if_pos hp])
    have hrow':ik X.pts o=some d:=by
     rcases hb with⟨y,hb⟩|hb<;>(simp only[ik,hb,hd];rw[if_pos hp])
    refine⟨σ₁.put o.dst (.pointer (some ⟨d,0,some 0⟩)),_,h,.inl ⟨_,heff,(σ₁,.pointer (some ⟨d,0,some 0⟩)),by simp[aG,hloc,σ₁],rfl⟩,?_,?_,?_,hk⟩
    ·rw[hd];exact hR1.put d (s:=.lad d 0) trivial
    ·rw[ha];cases o.dst<;>rfl
    ·have hf:=Fr.put (σ:=σ₁) o.dst (.pointer (some ⟨d,0,some 0⟩)) [d] [d]
     have h0:Fr o.dst.toList [d] [d] σ σ₁:=by
      refine⟨rfl,by simp[σ₁],λ_ _ h _ _=>h,λ_ _ _ h _ _=>h,λs y hs hn=>?_,λs vs hs hn=>?_⟩
      ·simp only[qaD]at hn
       simp only[σ₁]
       rw[qaC (λe=>hn e.symm)];exact hs
      ·simp only[qaD]at hn
       refine⟨vs,?_,rfl⟩
       simp only[σ₁]
       rw[qaC (λe=>hn e.symm)];exact hs
     rw[hkey,hrow']
     exact h0.trans hf
   ·exact absurd hk hA.fail
  ·rename_i hp
   have hp:¬X.pts.getD d 0=d+2:=λe=>by rw[e]at hp;simp at hp
   obtain⟨h',e1,e2⟩:=hA.new _ _ _ hk
   rw[ha]at e1 e2
   have heff:ak X.C X.pts (oval σ.tmps) o=some (.hop λH=>some (H++[.cells x.val.cells.toList (jU X.C.P t) true],.pointer (some ⟨H.length,0,none⟩))):=by
    rw[he,hd]
    unfold bP
    simp only[hnt,qar,if_false,hok,qbi,hp]
   rw[←hd]at e2
   refine cF (s:=.st (.leaf (.v (.pointer (some ⟨σ.heap.length,0,none⟩))))) hR e1 (λl hl=>?_) heff ?_ e2
   ·simp only[S0.cells,qaD]at hl
    subst hl;rfl
   ·simp only[eh];rfl
theorem tS(new:List Value):∀(off k:Nat) (cs:List Value),off+k+new.length<=cs.length->
  ((new.zipIdx k).foldl (λ(acc:Array Value) (p:Value×Nat)=>acc.setIfInBounds (off+p.2) p.1) cs.toArray).toList=cs.take (off+k)++new++cs.drop (off+k+new.length):=by
 induction new with
 |nil=>intro off k cs h;simp
 |cons a l ih=>
  intro off k cs h
  simp only[qay]at h
  simp only[List.zipIdx_cons,qco]
  have hset:(cs.toArray.setIfInBounds (off+k) a)=(cs.set (off+k) a).toArray:=by simp
  rw[hset,ih off (k+1) (cs.set (off+k) a) (by simp;omega)]
  rw[List.take_set,List.drop_set]
  have h1:(cs.take (off+(k+1))).set (off+k) a=cs.take (off+k)++[a]:=by
   rw[show off+(k+1)=(off+k)+1 from by omega]
   rw[List.take_succ_eq_append_getElem (by omega),List.set_append]
   simp[qce (show off+k<=cs.length by omega)]
  rw[h1]
  rw[if_pos (show off+k<off+(k+1)+l.length by omega),show off+(k+1)+l.length=off+k+(l.length+1)by omega]
  simp only[qaB,qao,qam,qay]
theorem pF(pl:Nat->Option (Nat×Nat)):∀(ps:List (Nat×S0)) (cs r:List SL),(∀p∈ps,p.2.good)->pE pl cs ps=some r->
  Instr.fill pl ⟨cs.map SL.val⟩ (ps.map λp=>(p.1,p.2.val))=some ⟨r.map SL.val⟩
 | [],cs,r,_,hf=>by cases hf;rfl
 |(i,x) :: ps,cs,r,hg,hf=>by
  simp only[pE]at hf
  split at hf
  ·rename_i off n hpl
   split at hf
   ·rename_i hn
    split at hf
    ·rename_i cs1 hs
     have hn:x.cells.length=n:=by simpa using hn
     have hx:x.good:=hg (i,x) (by simp)
     have hc:=S0.cells_val hx
     unfold gr at hs
     split at hs
     ·rename_i hle
      cases hs
      have ih:=pF pl ps _ r (λp hp=>hg p (by simp[hp])) hf
      simp only[qat,Instr.fill,hpl,hc]
      have hsz:(⟨x.cells.map SL.val⟩ : Array Value).size=n:=by simp[hn]
      rw[if_neg (by
       have h2:(⟨cs.map SL.val⟩ : Array Value).size=cs.length:=by simp
       rw[hsz,h2];simp;omega)]
      rw[←ih]
      congr 1
      have hfold:=tS (x.cells.map SL.val) off 0 (cs.map SL.val) (by simp;omega)
      apply qa7.1
      rw[←qcm,qcZ]
      refine Eq.trans hfold ?_
      simp[qch,qct]
     ·cases hs
    ·cases hf
   ·cases hf
  ·cases hf
theorem nL(pl:Nat->Option (Nat×Nat)):∀(ps:List (Nat×S0)) (cs r:List SL),(∀c∈cs,c.good)->(∀p∈ps,p.2.good)->pE pl cs ps=some r->∀c∈r,c.good
 | [],cs,r,hc,_,hf=>by cases hf;exact hc
 |(i,x) :: ps,cs,r,hc,hg,hf=>by
  simp only[pE]at hf
  split at hf
  ·split at hf
   ·split at hf
    ·rename_i cs1 hs
     refine nL pl ps cs1 r (λc hm=>?_) (λp hp=>hg p (by simp[hp])) hf
     unfold gr at hs
     split at hs
     ·cases hs
      simp only[qaP]at hm
      rcases hm with(hm|hm)|hm
      ·exact hc c (qbA hm)
      ·exact hg (i,x) (by simp) c hm
      ·exact hc c (qbF hm)
     ·cases hs
    ·cases hf
   ·cases hf
  ·cases hf
theorem oQ{ps:List (Nat×Operand)}{xs:List S0}(hv:(ps.map (·.2)).map (oval σ.tmps)=ai xs) :
  ps.map (λp=>(p.1,oval σ.tmps p.2))=((ps.map (·.1)).zip xs).map λp=>(p.1,p.2.val):=by
 induction ps generalizing xs with
 |nil=>simp
 |cons p ps ih=>
  cases xs with
  |nil=>simp[ai]at hv
  |cons x xs=>
   simp only[qat,ai,qas]at hv
   simp only[qat,qcl,hv.1]
   rw[ih (xs:=xs) hv.2]
theorem qE{is:List Nat}{xs:List S0}(hg:∀x∈xs,x.good):∀p∈is.zip xs,p.2.good:=λ_ hp=>hg _ (List.of_mem_zip hp).2
theorem qC{P:Program}{t:TypeId}{x:S0}(hz:tR P t=some x):∃z,cW P t=some z/\x.val=z/\x.good:=by
 unfold tR at hz
 obtain⟨z,h1,h2⟩:=qap.1 hz
 obtain⟨h3,h4,_⟩:=qn h2
 exact⟨z,h1,h3,h4⟩
theorem build_ok(hA:AlgOk A X.C Sg X.T holds abs)(hR:Rp ev σ)(ha:abs h=σ.heap){t:TypeId}{ps:Array (Nat×Operand)}(ho:o.op = .build t ps)
  (hk:holds (match tR X.C.P t,lA X.C.P t,svals ev (ps.toList.map (·.2))with
  |some z,some pl,some xs=>match pE pl z.cells ((ps.toList.map (·.1)).zip xs)with
   |some cs=>setD o.dst (.st (.agg cs)) ev h K
   |none=>A.fail
  |_,_,_=>A.fail)):Done X holds abs o σ K:=by
 split at hk
 ·rename_i z pl xs e1 e2 e3
  split at hk
  ·rename_i cs e4
   obtain⟨zv,hz1,hz2,hz3⟩:=qC e1
   obtain⟨hv,hg⟩:=hR.svals e3
   have hzc:=S0.cells_val hz3
   have hfill:=pF pl _ _ _ (qE (is:=ps.toList.map (·.1)) hg) e4
   have hgood:=nL pl _ _ _ (λc hc=>hz3 c hc) (qE (is:=ps.toList.map (·.1)) hg) e4
   refine az hR ha (s:=.st (.agg cs)) hgood ?_ hk
   have hall:(ps.toList.all λp=>!aD (oval σ.tmps p.2))=true:=by
    simp only[qab,qbK]
    intro p hp
    have hm:oval σ.tmps p.2∈ai xs:=by
     rw[←hv]
     exact qaI.2 ⟨p.2,qaI.2 ⟨p,hp,rfl⟩,rfl⟩
    simp only[ai,qaI]at hm
    obtain⟨x,hx,e⟩:=hm
    rw[←e]
    exact S0.not_tuple (hg x hx)
   simp only[ak,ho,hall,if_true,qN,hz1,e2]
   rw[oQ hv,←hz2,hzc,hfill]
   rfl
  ·exact absurd hk hA.fail
 ·exact absurd hk hA.fail
end
end Go.Am

/-
 OPERATIONS,second part: leaves taken apart;loads,stores.
-/
namespace Go.Am
theorem SL.lf_val{a b:SL}{k:LK}(ha:a.is k=true)(hb:b.is k=true)(he:a.lf=b.lf):a.val=b.val/\(a.good->b.good):=by
 cases a<;>cases b<;>cases k<;>simp only[SL.lf,Lf.i.injEq,Lf.b.injEq,Lf.v.injEq,reduceCtorEq,SL.is,qar]at he ha hb ⊢<;>try (subst he;exact⟨rfl,id⟩)
 subst he
 exact⟨by simp only[SL.val];rw[cz ha,cz hb],id⟩
theorem bn:∀ {cs:List SL} {ks:List LK},aI cs ks=true->cs.length=ks.length
 | [],[],_=>rfl
 |c :: cs,k :: ks,h=>by
  simp only[aI,qaa]at h
  simp[bn h.2]
 | [],_ :: _,h=>by cases h
 |_ :: _,[],h=>by cases h
theorem fK:∀ {a b:List SL} {ks:List LK},aI a ks=true->aI b ks=true->a.map SL.lf=b.map SL.lf->a.map SL.val=b.map SL.val/\((∀c∈a,c.good)->∀c∈b,c.good)
 | [],[],[],_,_,_=>⟨rfl,λ_ _ h=>by cases h⟩
 |a :: as0,b :: bs,k :: ks,ha,hb,he=>by
  simp only[aI,qaa]at ha hb
  simp only[qat,qas]at he
  obtain⟨h1,h2⟩:=SL.lf_val ha.1 hb.1 he.1
  obtain⟨h3,h4⟩:=fK ha.2 hb.2 he.2
  refine⟨by simp[h1,h3],λhg c hc=>?_⟩
  rcases qaj.1 hc with rfl|hc
  ·exact h2 (hg a (by simp))
  ·exact h4 (λc hc=>hg c (by simp[hc])) c hc
 | [],_ :: _,[],_,hb,_=>by cases hb
 | [],_,_ :: _,ha,_,_=>by cases ha
 |_ :: _,_,[],ha,_,_=>by cases ha
 |_ :: _,[],_ :: _,_,hb,_=>by cases hb
theorem S0.is_val{a b:S0}{sk:SK}(ha:a.is sk=true)(hb:b.is sk=true)(he:a.cells.map SL.lf=b.cells.map SL.lf):a.val=b.val/\(a.good->b.good):=by
 cases sk with
 |leaf k=>
  cases a with
  |agg _=>cases ha
  |leaf a=>
   cases b with
   |agg _=>cases hb
   |leaf b=>
    simp only[S0.cells,qat,qbo,qas,and_true]at he
    obtain⟨h1,h2⟩:=SL.lf_val ha hb he
    refine⟨h1,λhg l hl=>?_⟩
    simp only[S0.cells,qaD]at hl
    subst hl
    exact h2 (hg a (by simp[S0.cells]))
 |agg ks=>
  cases a with
  |leaf _=>cases ha
  |agg a=>
   cases b with
   |leaf _=>cases hb
   |agg b=>
    obtain⟨h1,h2⟩:=fK ha hb he
    exact⟨by simp only[S0.val,h1],h2⟩
theorem S0.is_len{a:S0}{sk:SK}(ha:a.is sk=true):∃n,a.cells.length=n/\∀b:S0,b.is sk=true->b.cells.length=n:=by
 refine⟨_,rfl,λb hb=>?_⟩
 cases sk with
 |leaf k=>
  cases a with
  |agg _=>cases ha
  |leaf a=>cases b with
   |agg _=>cases hb
   |leaf b=>rfl
 |agg ks=>
  cases a with
  |leaf _=>cases ha
  |agg a=>cases b with
   |leaf _=>cases hb
   |agg b=>exact(bn hb).trans (bn ha).symm
theorem cD:∀ {a b:List S0} {sks:List SK},bu a sks=true->bu b sks=true->bF a=bF b->ai a=ai b/\((∀c∈a,c.good)->∀c∈b,c.good)
 | [],[],[],_,_,_=>⟨rfl,λ_ _ h=>by cases h⟩
 |a :: as0,b :: bs,k :: ks,ha,hb,he=>by
  simp only[bu,qaa]at ha hb
  obtain⟨n,hn1,hn2⟩:=S0.is_len ha.1
  have hn2:=hn2 b hb.1
  simp only[bF]at he
  obtain⟨he1,he2⟩:=qdg he (by simp[hn1,hn2])
  obtain⟨h1,h2⟩:=S0.is_val ha.1 hb.1 he1
  obtain⟨h3,h4⟩:=cD ha.2 hb.2 he2
  refine⟨by simp only[ai,qat,h1]at h3 ⊢;rw[h3],λhg c hc=>?_⟩
  rcases qaj.1 hc with rfl|hc
  ·exact h2 (hg a (by simp))
  ·exact h4 (λc hc=>hg c (by simp[hc])) c hc
 | [],_ :: _,[],_,hb,_=>by cases hb
 | [],_,_ :: _,ha,_,_=>by cases ha
 |_ :: _,_,[],ha,_,_=>by cases ha
 |_ :: _,[],_ :: _,_,hb,_=>by cases hb
section
variable [Val] [Kno] {R HT:Type} {A:Alg R HT} {X:Ctxt} {Sg:FuncId->Option Sig} {holds:R->Prop} {abs:HT->List HObj}
variable {ev:Env} {σ:St} {h:HT} {o:Oper} {K:KN R HT}
theorem oO{C:Cfg}{T:Nat->Site}(hA:AlgOk A C Sg T holds abs):∀ {ks:List LK} {ls:List Lf} {K:List SL->List Lf->R},holds (unL A ks ls K)->
  ∃cs r,ls=cs.map SL.lf++r/\aI cs ks=true/\holds (K cs r)
 | [],ls,K,hk=>⟨[],ls,rfl,rfl,hk⟩
 | .i k :: ks,ls,K,hk=>by
  obtain⟨n,r,rfl,hk1⟩:=hA.unI _ _ hk
  obtain⟨cs,r',rfl,h2,h3⟩:=oO hA (ks:=ks) hk1
  exact⟨.i k n :: cs,r',rfl,by simp[aI,SL.is,dc,h2],h3⟩
 | .b :: ks,ls,K,hk=>by
  obtain⟨n,r,rfl,hk1⟩:=hA.unB _ _ hk
  obtain⟨cs,r',rfl,h2,h3⟩:=oO hA (ks:=ks) hk1
  exact⟨.b n :: cs,r',rfl,by simp[aI,SL.is,h2],h3⟩
 | .v :: ks,ls,K,hk=>by
  obtain⟨n,r,rfl,hk1⟩:=hA.unV _ _ hk
  obtain⟨cs,r',rfl,h2,h3⟩:=oO hA (ks:=ks) hk1
  exact⟨.v n :: cs,r',rfl,by simp[aI,SL.is,h2],h3⟩
theorem unS_ok{C:Cfg}{T:Nat->Site}(hA:AlgOk A C Sg T holds abs){sk:SK}{ls:List Lf}{K:S0->List Lf->R}(hk:holds (unS A sk ls K)) :
  ∃x r,ls=x.cells.map SL.lf++r/\x.is sk=true/\holds (K x r):=by
 cases sk with
 |leaf k=>
  cases k with
  |i k=>
   obtain⟨n,r,rfl,hk1⟩:=hA.unI _ _ hk
   exact⟨.leaf (.i k n),r,rfl,by simp[S0.is,SL.is,dc],hk1⟩
  |b=>
   obtain⟨n,r,rfl,hk1⟩:=hA.unB _ _ hk
   exact⟨.leaf (.b n),r,rfl,rfl,hk1⟩
  |v=>
   obtain⟨n,r,rfl,hk1⟩:=hA.unV _ _ hk
   exact⟨.leaf (.v n),r,rfl,rfl,hk1⟩
 |agg ks=>
  obtain⟨cs,r,h1,h2,h3⟩:=oO hA hk
  exact⟨.agg cs,r,h1,h2,h3⟩
theorem nd{C:Cfg}{T:Nat->Site}(hA:AlgOk A C Sg T holds abs):∀ {sks:List SK} {ls:List Lf} {K:List S0->List Lf->R},holds (unSs A sks ls K)->
  ∃xs r,ls=bF xs++r/\bu xs sks=true/\holds (K xs r)
 | [],ls,K,hk=>⟨[],ls,rfl,rfl,hk⟩
 |sk :: sks,ls,K,hk=>by
  have hk0:holds (unS A sk ls λx r=>unSs A sks r λxs r=>K (x :: xs) r):=hk
  obtain⟨x,r,rfl,h1,hk1⟩:=unS_ok hA hk0
  obtain⟨xs,r',rfl,h2,h3⟩:=nd hA (sks:=sks) hk1
  exact⟨x :: xs,r',by simp[bF],by simp[bu,h1,h2],h3⟩
theorem vr{C:Cfg}{T:Nat->Site}(hA:AlgOk A C Sg T holds abs):∀ {ks:List LK} {ls:List Value} {K:List SL->List Value->R},holds (ucL A ks ls K)->
  ∃cs r,ls=cs.map SL.val++r/\aI cs ks=true/\(∀c∈cs,c.good)/\holds (K cs r)
 | [],ls,K,hk=>⟨[],ls,rfl,rfl,by simp,hk⟩
 | .i k :: ks,ls,K,hk=>by
  obtain⟨n,r,rfl,hk1⟩:=hA.ucI _ _ _ hk
  obtain⟨cs,r',rfl,h2,h3,h4⟩:=vr hA (ks:=ks) hk1
  exact⟨.i k n :: cs,r',rfl,by simp[aI,SL.is,dc,h2],qbs.2 ⟨trivial,h3⟩,h4⟩
 | .b :: ks,ls,K,hk=>by
  obtain⟨n,r,rfl,hk1⟩:=hA.ucB _ _ hk
  obtain⟨cs,r',rfl,h2,h3,h4⟩:=vr hA (ks:=ks) hk1
  exact⟨.b n :: cs,r',rfl,by simp[aI,SL.is,h2],qbs.2 ⟨trivial,h3⟩,h4⟩
 | .v :: ks,ls,K,hk=>by
  obtain⟨n,r,rfl,hk1⟩:=hA.ucV _ _ hk
  obtain⟨hg,hk2⟩:=hA.chk _ _ hk1
  obtain⟨cs,r',rfl,h2,h3,h4⟩:=vr hA (ks:=ks) hk2
  exact⟨.v n :: cs,r',rfl,by simp[aI,SL.is,h2],qbs.2 ⟨hg,h3⟩,h4⟩
theorem nc{C:Cfg}{T:Nat->Site}(hA:AlgOk A C Sg T holds abs){sk:SK}{ls:List Value}{K:S0->List Value->R}(hk:holds (ucS A sk ls K)) :
  ∃x r,ls=x.cells.map SL.val++r/\x.is sk=true/\x.good/\holds (K x r):=by
 cases sk with
 |leaf k=>
  cases k with
  |i k=>
   obtain⟨n,r,rfl,hk1⟩:=hA.ucI _ _ _ hk
   exact⟨.leaf (.i k n),r,rfl,by simp[S0.is,SL.is,dc],λl hl=>by simp only[S0.cells,qaD]at hl;subst hl;trivial,hk1⟩
  |b=>
   obtain⟨n,r,rfl,hk1⟩:=hA.ucB _ _ hk
   exact⟨.leaf (.b n),r,rfl,rfl,λl hl=>by simp only[S0.cells,qaD]at hl;subst hl;trivial,hk1⟩
  |v=>
   obtain⟨n,r,rfl,hk1⟩:=hA.ucV _ _ hk
   obtain⟨hg,hk2⟩:=hA.chk _ _ hk1
   exact⟨.leaf (.v n),r,rfl,rfl,λl hl=>by simp only[S0.cells,qaD]at hl;subst hl;exact hg,hk2⟩
 |agg ks=>
  obtain⟨cs,r,h1,h2,h3,h4⟩:=vr hA hk
  exact⟨.agg cs,r,h1,h2,h3,h4⟩
theorem ucSs_ok{C:Cfg}{T:Nat->Site}(hA:AlgOk A C Sg T holds abs):∀ {sks:List SK} {ls:List Value} {K:List S0->List Value->R},holds (ucSs A sks ls K)->
  ∃xs r,ls=kU xs++r/\bu xs sks=true/\(∀x∈xs,x.good)/\holds (K xs r)
 | [],ls,K,hk=>⟨[],ls,rfl,rfl,by simp,hk⟩
 |sk :: sks,ls,K,hk=>by
  have hk0:holds (ucS A sk ls λx r=>ucSs A sks r λxs r=>K (x :: xs) r):=hk
  obtain⟨x,r,rfl,h1,hg,hk1⟩:=nc hA hk0
  obtain⟨xs,r',rfl,h2,h3,h4⟩:=ucSs_ok hA (sks:=sks) hk1
  refine⟨x :: xs,r',by simp[kU],by simp[bu,h1,h2],λc hc=>?_,h4⟩
  rcases qaj.1 hc with rfl|hc
  ·exact hg
  ·exact h3 c hc
def mkV(agg:Bool)(cs:List Value)(v:Value):Prop:=(agg=true/\v = .agg ⟨cs⟩)∨(agg=false/\cs=[v])
theorem ob{x:S0}{sk:SK}(hx:x.is sk=true){v:Value}(hv:mkV (io sk) (x.cells.map SL.val) v):x.val=v:=by
 cases sk with
 |leaf k=>
  cases x with
  |agg _=>cases hx
  |leaf l=>
   rcases hv with⟨h,_⟩|⟨_,h⟩
   ·cases h
   ·simp only[S0.cells,qat,qbo,qas,and_true]at h
    exact h
 |agg ks=>
  cases x with
  |leaf _=>cases hx
  |agg cs=>
   rcases hv with⟨_,h⟩|⟨h,_⟩
   ·exact h.symm
   ·cases h
theorem eqB_eq{a b:Bool}(h:eqB a b=true):a=b:=by cases a<;>cases b<;>first|rfl|cases h
theorem mm{agg:Bool}{cs:List SL}{x:S0}(hx:mkS0 agg cs=some x):x.cells=cs/\mkV agg (cs.map SL.val) x.val:=by
 unfold mkS0 at hx
 split at hx
 ·cases hx;exact⟨rfl,.inl ⟨rfl,rfl⟩⟩
 ·cases hx;exact⟨rfl,.inr ⟨rfl,rfl⟩⟩
 ·cases hx
theorem cr{P:Program}{t:TypeId}{agg:Bool}(hag:aggT P t=some agg){vs cs:List Value}{off:Nat}(hc:cut vs off (if agg then P.cellsOf t else 1)=some cs) :
  ∃v,cL P t vs off=some v/\mkV agg cs v:=by
 unfold aggT at hag
 unfold cL
 split at hag
 ·rename_i fs e
  cases hag
  rw[e]
  simp only[if_true]at hc
  exact⟨.agg ⟨cs⟩,by simp[hc],.inl ⟨rfl,rfl⟩⟩
 ·rename_i fs e
  cases hag
  rw[e]
  simp only[if_true]at hc
  exact⟨.agg ⟨cs⟩,by simp[hc],.inl ⟨rfl,rfl⟩⟩
 ·rename_i d h1 h2 e
  cases hag
  rw[e]
  simp only[qar,if_false]at hc
  unfold cut at hc
  split at hc
  ·rename_i hle
   cases hc
   have hlt:off<vs.length:=by omega
   have hcs:(vs.drop off).take 1=[vs[off]]:=by
    rw[qbz hlt];rfl
   refine⟨vs[off],?_,.inr ⟨rfl,hcs⟩⟩
   simp[hlt]
  ·cases hc
 ·cases hag
theorem jW(hA:AlgOk A X.C Sg X.T holds abs){dst:Option Tmp}{sk:SK}{cs:List Value}{v:Value}(hv:mkV (io sk) cs v)(hk:holds (setC A dst sk cs ev h K)) :
  ∃x:S0,x.val=v/\x.good/\holds (setD dst (.st x) ev h K):=by
 obtain⟨x,r,h1,h2,h3,hk1⟩:=nc hA hk
 obtain⟨hr,hk2⟩:=hA.uc0 _ _ hk1
 rw[hr,qaR]at h1
 subst h1
 exact⟨x,ob h2 hv,h3,hk2⟩
theorem lR{cs ds:List SL}{off n:Nat}(hc:cutS cs off n=some ds):cut (cs.map SL.val) off n=some (ds.map SL.val)/\(∀d∈ds,d∈cs):=by
 unfold cutS at hc
 unfold cut
 split at hc
 ·rename_i hle
  cases hc
  rw[if_pos (by simpa using hle)]
  exact⟨by simp[qct,qch],λd hd=>qbF (qbA hd)⟩
 ·cases hc
theorem je(hR:Rp ev σ){s:Nat}{cs:List SL}(hr:qk ev s=some cs):σ.loc[s]? = some (some (cs.map SL.val))/\(∀c∈cs,c.good)/\ev.lc[s]? = some (.row cs):=by
 unfold qk at hr
 split at hr
 ·rename_i ds e
  cases hr
  rw[List.getD_eq_getElem?_getD]at e
  cases he:ev.lc[s]? with
  |none=>rw[he]at e;cases e
  |some r=>
   rw[he]at e
   simp only[qbf]at e
   subst e
   have:=hR.row s _ he
   exact⟨this.1,this.2,rfl⟩
 ·cases hr
theorem uS{cs:List SL}{base:Nat}{ix:List (Int×Nat)}{n:Nat}{ls:List Lf}(hp:cm (cs.map SL.lf) base ix n=some ls) :
  ∃ds,cutS cs (offX base ix) n=some ds/\ls=ds.map SL.lf:=by
 rw[pickL_eq]at hp
 split at hp
 ·rename_i hle
  cases hp
  refine⟨_,by unfold cutS;rw[if_pos (by simpa using hle)],by simp[qct,qch]⟩
 ·cases hp
theorem offX_le:∀(ix:List (Int×Nat)) (base:Nat),base<=offX base ix
 | [],base=>qaA _
 |p :: l,base=>qbH (Nat.le_add_right _ _) (offX_le l _)
theorem kO{cs ds:List SL}{ks:List LK}:∀ {ix:List (Int×Nat)} {base:Nat},qH cs ks base ix=true->cutS cs (offX base ix) ks.length=some ds->aI ds ks=true
 | [],base,h1,h2=>by
  simp only[qH,offX]at h1 h2
  rw[h2]at h1
  exact h1
 |p :: l,base,h1,h2=>by
  simp only[qH,qaa,qab,qbK,offX]at h1 h2
  obtain⟨h0,h1⟩:=h1
  refine kO (ix:=l) (h1 p.1.toNat ?_) h2
  have hp:p.2≠0:=λe=>by rw[e]at h0;cases h0
  have hle:offX (base+p.1.toNat*p.2) l<=cs.length:=by
   unfold cutS at h2
   split at h2
   ·omega
   ·cases h2
  have:=offX_le l (base+p.1.toNat*p.2)
  have h3:p.1.toNat<=p.1.toNat*p.2:=Nat.le_mul_of_pos_right _ (Nat.pos_of_ne_zero hp)
  simp only[qal]
  omega
theorem is_skKs{x:S0}{sk:SK}(hx:x.is sk=true):aI x.cells (skKs sk)=true:=by
 cases sk with
 |leaf k=>
  cases x with
  |agg _=>cases hx
  |leaf l=>simp[S0.cells,skKs,aI];exact hx
 |agg ks=>
  cases x with
  |leaf _=>cases hx
  |agg cs=>exact hx
theorem setL_ok(hA:AlgOk A X.C Sg X.T holds abs){dst:Option Tmp}{sk:SK}{ds:List SL}{v:Value}(hd:aI ds (skKs sk)=true)(hg:∀c∈ds,c.good)(hv:mkV (io sk) (ds.map SL.val) v)
  (hk:holds (setL A dst sk (ds.map SL.lf) ev h K)):∃x:S0,x.val=v/\x.good/\holds (setD dst (.st x) ev h K):=by
 obtain⟨x,r,e1,e2,hk1⟩:=unS_ok hA hk
 obtain⟨hr0,hk2⟩:=hA.un0 _ _ hk1
 rw[hr0,qaR]at e1
 obtain⟨h1,h2⟩:=fK hd (is_skKs e2) e1
 rw[h1]at hv
 exact⟨x,ob e2 hv,h2 hg,hk2⟩
theorem is_lk(c:SL):c.is c.lk=true:=by cases c<;>first|rfl|exact dc _
theorem kP:∀cs:List SL,aI cs (cs.map SL.lk)=true
 | []=>rfl
 |c :: cs=>by simp[aI,is_lk,kP cs]
theorem fJ:∀ {a b:List SL} {ka kb:List LK},aI a ka=true->aI b kb=true->aI (a++b) (ka++kb)=true
 | [],b,[],kb,_,h=>h
 |a :: as0,b,k :: ka,kb,h1,h2=>by
  simp only[aI,qaa,qao]at h1 ⊢
  exact⟨h1.1,fJ h1.2 h2⟩
 | [],_,_ :: _,_,h,_=>by cases h
 |_ :: _,_,[],_,h,_=>by cases h
end
end Go.Am

/-
 OPERATIONS,third part: loads,stores,addresses.
-/
namespace Go.Am
section
variable [Val] [Kno] {R HT:Type} {A:Alg R HT} {X:Ctxt} {Sg:FuncId->Option Sig} {holds:R->Prop} {abs:HT->List HObj}
variable {ev:Env} {σ:St} {h:HT} {o:Oper} {K:KN R HT}
theorem qQ(H:List HObj)(id:Nat):fP (λi=>H[i]?) id=eh H id:=rfl
theorem ldP_ok{n:Nat}{p:Value}{g:bR}{cs:List Value}(h:ldP n p g=some cs):∃id off vs,p = .pointer (some ⟨id,off,none⟩)/\fP g id=some vs/\cut vs off n=some cs:=by
 unfold ldP at h
 split at h
 ·rename_i a
  split at h
  ·rename_i hs
   obtain⟨vs,h1,h2⟩:=qap.1 h
   obtain⟨b,f,sp⟩:=a
   simp only at hs
   subst hs
   exact⟨b,f,vs,rfl,h1,h2⟩
  ·cases h
 ·cases h
theorem lgP_ok{C:Cfg}{n:Nat}{p:Value}{g:bR}{cs:List Value}(h:lgP C n p g=some cs):(∃id off vs,p = .pointer (some ⟨id,off,none⟩)/\fP g id=some vs/\cut vs off n=some cs)∨∃id off vs,p = .pointer (some ⟨id,off,some 1⟩)/\C.G id=some vs/\cut vs off n=some cs:=by
 unfold lgP at h
 split at h
 ·rename_i a
  split at h
  ·rename_i hs
   obtain⟨vs,h1,h2⟩:=qap.1 h
   obtain⟨b,f,sp⟩:=a
   simp only at hs
   subst hs
   exact .inl ⟨b,f,vs,rfl,h1,h2⟩
  ·rename_i k hs
   split at h
   ·rename_i hb
    obtain⟨vs,h1,h2⟩:=qap.1 h
    obtain⟨b,f,sp⟩:=a
    simp only at hs
    subst hs
    rw[qac hb]
    exact .inr ⟨b,f,vs,rfl,h1,h2⟩
   ·cases h
 ·cases h
theorem load_ok(hA:AlgOk A X.C Sg X.T holds abs)(hR:Rp ev σ)(ha:abs h=σ.heap){t:TypeId}{a:Operand}{sk:SK}{agg:Bool}(ho:o.op = .load t a)(hag:aggT X.C.P t=some agg)
  (hsk:agg=io sk) (hk:holds (loadE A X o.dst sk agg (if agg then X.C.P.cellsOf t else 1) a ev h K)):Done X holds abs o σ K:=by
 have heff:ak X.C X.pts (oval σ.tmps) o=dd X.C X.pts t a (oval σ.tmps a):=by simp only[ak,ho]
 unfold loadE at hk
 split at hk
 ·rename_i p hkey he
  obtain⟨h1,_⟩:=hR.sval he (by simp)
  obtain⟨cs,h2,hk1⟩:=hA.peek _ _ _ hk
  simp only[Pk.run]at h2
  rw[ha]at h2
  rcases lgP_ok h2 with⟨id,off,vs,rfl,h3,h4⟩|⟨id,off,vs,rfl,h3,h4⟩
  ·rw[qQ]at h3
   obtain⟨v,h5,h6⟩:=cr hag h4
   rw[hsk]at h6
   obtain⟨x,rfl,h7,hk2⟩:=jW hA h6 hk1
   refine fU hR ha (s:=.st x) h7 (f:=λH=>(eh H id).bind λvs=>cL X.C.P t vs off) ?_ ?_ hk2
   ·rw[heff,dd,hkey,h1];rfl
   ·simp only[h3,qah,h5];rfl
  ·obtain⟨v,h5,h6⟩:=cr hag h4
   rw[hsk]at h6
   obtain⟨x,rfl,h7,hk2⟩:=jW hA h6 hk1
   refine fU hR ha (s:=.st x) h7 (f:=λ_=>(X.C.G id).bind λvs=>cL X.C.P t vs off) ?_ ?_ hk2
   ·rw[heff,dd,hkey,h1];rfl
   ·simp only[h3,qah,h5];rfl
 ·rename_i g off hkey he
  obtain⟨h1,_⟩:=hR.sval he (by simp)
  split at hk
  ·rename_i vs hg
   split at hk
   ·rename_i cs hc
    obtain⟨v,h5,h6⟩:=cr hag hc
    have hval:ak X.C X.pts (oval σ.tmps) o=some (.val v):=by
     rw[heff,dd,hkey,h1]
     simp only[SV.val,fi,if_true,qah,hg,h5,qav]
    split at hk
    ·rename_i x hsc hm
     obtain⟨hm1,hm2⟩:=mm hm
     have hcs:(cs.map slOf).map SL.val=cs:=by
      rw[qcQ]
      have:(SL.val ∘ slOf)=id:=funext qt
      rw[this,List.map_id]
     rw[hcs]at hm2
     have hv:x.val=v:=by
      rcases hm2 with⟨a1,a2⟩|⟨a1,a2⟩<;>rcases h6 with⟨b1,b2⟩|⟨b1,b2⟩
      ·rw[a2,b2]
      ·rw[a1]at b1;cases b1
      ·rw[a1]at b1;cases b1
      ·rw[a2]at b2;simpa using b2
     subst hv
     refine az hR ha (s:=.st x) (λl hl=>?_) hval hk
     rw[hm1]at hl
     obtain⟨c,hc1,rfl⟩:=qaI.1 hl
     exact mX (qab.1 hsc c hc1)
    ·rw[hsk]at h6
     obtain⟨x,rfl,h7,hk⟩:=jW hA h6 hk
     exact az hR ha (s:=.st x) h7 hval hk
   ·exact absurd hk hA.fail
  ·exact absurd hk hA.fail
 ·rename_i g base ix hkey he
  obtain⟨h1,_⟩:=hR.sval he (by simp)
  split at hk
  ·rename_i vs hg
   obtain⟨cs,hc,hk⟩:=hA.opt _ _ hk
   obtain⟨v,h5,h6⟩:=cr hag (vs:=vs) (off:=offX base ix) ((pickV_eq _ _ _ _).symm.trans hc)
   have hval:ak X.C X.pts (oval σ.tmps) o=some (.val v):=by
    rw[heff,dd,hkey,h1]
    simp only[SV.val,fi,if_true,qah,hg,h5,qav]
   rw[hsk]at h6
   obtain⟨x,rfl,h7,hk⟩:=jW hA h6 hk
   exact az hR ha (s:=.st x) h7 hval hk
  ·exact absurd hk hA.fail
 ·rename_i p hkey he
  obtain⟨h1,_⟩:=hR.sval he (by simp)
  obtain⟨cs,hc,hk1⟩:=hA.opt _ _ hk
  unfold ldGv at hc
  split at hc
  ·rename_i ad
   split at hc
   ·rename_i hsp
    obtain⟨vs,hg,hc⟩:=qap.1 hc
    obtain⟨v,h5,h6⟩:=cr hag hc
    have hval:ak X.C X.pts (oval σ.tmps) o=some (.val v):=by
     rw[heff,dd,hkey,h1]
     simp only[SV.val,S0.val,SL.val,fi,hsp,if_true,qah,hg,h5,qav]
    rw[hsk]at h6
    obtain⟨x,rfl,h7,hk2⟩:=jW hA h6 hk1
    exact az hR ha (s:=.st x) h7 hval hk2
   ·cases hc
  ·cases hc
 ·rename_i s s' off hkey he
  obtain⟨h1,_⟩:=hR.sval he (by simp)
  split at hk
  ·rename_i x hs hx
   have hs:s=s':=by simpa using hs
   subst hs
   obtain⟨cs,hr,hx⟩:=qap.1 hx
   obtain⟨ds,hd,hx⟩:=qap.1 hx
   obtain⟨r1,r2,_⟩:=je hR hr
   obtain⟨c1,c2⟩:=lR hd
   obtain⟨v,h5,h6⟩:=cr hag c1
   obtain⟨hm1,hm2⟩:=mm hx
   have hv:x.val=v:=by
    rcases hm2 with⟨a1,a2⟩|⟨a1,a2⟩<;>rcases h6 with⟨b1,b2⟩|⟨b1,b2⟩
    ·rw[a2,b2]
    ·rw[a1]at b1;cases b1
    ·rw[a1]at b1;cases b1
    ·rw[a2]at b2;simpa using b2
   subst hv
   refine cR hR σ.heap ha (s:=.st x) (λl hl=>?_) (.inl ⟨.lget s λvs=>cL X.C.P t vs off,?_,(σ,x.val),?_,rfl⟩) hk
   ·rw[hm1]at hl;exact r2 l (c2 l hl)
   ·rw[heff,dd,hkey,h1]
    simp[SV.val,gP]
   ·simp[aG,r1,h5]
  ·exact absurd hk hA.fail
 ·rename_i s s' base ix hkey he
  obtain⟨h1,_⟩:=hR.sval he (by simp)
  split at hk
  ·rename_i cs hs hr
   have hs:s=s':=by simpa using hs
   subst hs
   split at hk
   ·rename_i hat
    simp only[qaa]at hat
    obtain⟨hat,hn⟩:=hat
    have hn:=qac hn
    obtain⟨ls,hp,hk1⟩:=hA.opt _ _ hk
    obtain⟨ds,hd,rfl⟩:=uS hp
    obtain⟨r1,r2,_⟩:=je hR hr
    obtain⟨c1,c2⟩:=lR hd
    obtain⟨v,h5,h6⟩:=cr hag c1
    rw[hsk]at h6
    rw[hn]at hd
    obtain⟨x,rfl,h7,hk2⟩:=setL_ok hA (kO hat hd) (λc hc=>r2 c (c2 c hc)) h6 hk1
    refine cR hR σ.heap ha (s:=.st x) h7 (.inl ⟨.lget s λvs=>cL X.C.P t vs (offX base ix),?_,(σ,x.val),?_,rfl⟩) hk2
    ·rw[heff,dd,hkey,h1]
     simp[SV.val,gP]
    ·simp[aG,r1,h5]
   ·exact absurd hk hA.fail
  ·exact absurd hk hA.fail
 ·exact absurd hk hA.fail
theorem oK{cs r new:List SL}{off:Nat}(hs:gr cs off new=some r):splice (cs.map SL.val) off (new.map SL.val)=some (r.map SL.val)/\r.length=cs.length/\((∀c∈cs,c.good)->(∀c∈new,c.good)->∀c∈r,c.good):=by
 unfold gr at hs
 unfold splice
 split at hs
 ·rename_i hle
  cases hs
  rw[if_pos (by simpa using hle)]
  refine⟨by simp[qch,qct],by simp;omega,λh1 h2 c hc=>?_⟩
  simp only[qaP]at hc
  rcases hc with(hc|hc)|hc
  ·exact h1 c (qbA hc)
  ·exact h2 c hc
  ·exact h1 c (qbF hc)
 ·cases hs
theorem tQ{P:Program}{t:TypeId}{x:S0}(hx:x.good)(hlen:x.cells.length=P.cellsOf t)(hi:(P.info? t).isSome=true)(vs:List Value)(off:Nat) :
  dQ P t x.val vs off=splice vs off (x.cells.map SL.val):=by
 unfold dQ
 have h1:=S0.cells_val hx
 rw[if_pos ⟨by rw[h1];simpa using hlen,hi⟩,if_pos (S0.cells_ok hx),h1]
theorem pw(hR:Rp ev σ)(ha:abs h=σ.heap){s:Nat}{cs:List SL}{f:List Value->Option (List Value)}{vs:List Value}(he:ak X.C X.pts (oval σ.tmps) o=some (.lset s f))(hloc:σ.loc[s]? = some (some vs))
  (hf:f vs=some (cs.map SL.val)) (hlen:(cs.map SL.val).length=vs.length) (hg:∀c∈cs,c.good) (hrow:ik X.pts o=some s)
  (hk:holds (setD o.dst .un ⟨ev.tm,ev.lc.set s (.row cs)⟩ h K)):Done X holds abs o σ K:=by
 let σ₁:St:={ σ with loc:=σ.loc.set s (some (cs.map SL.val)) }
 have hlt:s<σ.loc.length:=(qa3.1 hloc).1
 have hR1:Rp ⟨ev.tm,ev.lc.set s (.row cs)⟩ σ₁:=by
  refine⟨hR.len,hR.val,by simp[σ₁,hR.llen],λi r hr=>?_⟩
  simp only[qaT]at hr
  split at hr
  ·rename_i hi
   subst hi
   split at hr
   ·cases hr
    exact⟨by simp only[σ₁];rw[qaW hlt],hg⟩
   ·cases hr
  ·rename_i hi
   have:=hR.row i r hr
   have hne:σ₁.loc[i]? = σ.loc[i]?:=by simp only[σ₁];rw[qaC hi]
   cases r<;>first|trivial|(simp only[LR.ok]at this ⊢;rw[hne];exact this)
 obtain⟨ev',h1,h2⟩:=tE (dst:=o.dst) hR1 (s:=.un) trivial hk
 refine⟨σ₁.put o.dst undef,ev',h,.inl ⟨_,he,(σ₁,undef),by simp[aG,hloc,hf,σ₁],rfl⟩,h1,?_,?_,h2⟩
 ·rw[ha];cases o.dst<;>rfl
 ·have hf:=Fr.put (σ:=σ₁) o.dst undef (rQ X.pts o).toList (ik X.pts o).toList
  have h0:Fr o.dst.toList (rQ X.pts o).toList (ik X.pts o).toList σ σ₁:=by
   refine⟨rfl,by simp[σ₁],λ_ _ h _ _=>h,λ_ _ _ h _ _=>h,λi y hs hn=>?_,λi ws hs hn=>?_⟩
   ·rw[hrow]at hn
    simp only[Option.toList_some,qaD]at hn
    simp only[σ₁]
    rw[qaC (λe=>hn e.symm)];exact hs
   ·by_cases hi:i=s
    ·subst hi
     rw[hloc]at hs
     cases hs
     exact⟨_,by simp only[σ₁];rw[qaW hlt],hlen⟩
    ·exact⟨ws,by simp only[σ₁];rw[qaC (λe=>hi e.symm)];exact hs,rfl⟩
  exact h0.trans hf
theorem stP_ok{p:Value}{new:List Value}{g:bR}{n:Nat}{acts:List Act1}{cs:List Value}(h:stP p new g n=some (acts,cs)) :
  ∃id off vs vs' e,p = .pointer (some ⟨id,off,none⟩)/\g id=some (.cells vs e true)/\splice vs off new=some vs'/\acts=[.set id (.cells vs' e true)]:=by
 unfold stP at h
 split at h
 ·rename_i a
  split at h
  ·rename_i hs
   split at h
   ·rename_i vs e hg
    obtain⟨vs',h1,h2⟩:=qad.1 h
    obtain⟨b,f,sp⟩:=a
    simp only at hs
    subst hs
    cases h2
    exact⟨b,f,vs,vs',e,rfl,hg,h1,rfl⟩
   ·cases h
  ·cases h
 ·cases h
theorem store_ok(hA:AlgOk A X.C Sg X.T holds abs)(hR:Rp ev σ)(ha:abs h=σ.heap){t:TypeId}{a y:Operand}{x:S0}(ho:o.op = .store t a y)(hy:sval ev y = .st x)
  (hk:holds (storeE A X o.dst t a x ev h K)):Done X holds abs o σ K:=by
 obtain⟨hy1,hx⟩:=hR.sval hy (by simp)
 have hx:x.good:=hx
 have heff:ak X.C X.pts (oval σ.tmps) o=dN X.C X.pts t a (oval σ.tmps a) x.val:=by simp only[ak,ho,hy1];rfl
 have hnt:=S0.not_tuple hx
 unfold storeE at hk
 split at hk
 ·exact absurd hk hA.fail
 ·rename_i hc
  simp only[qaa]at hc
  obtain⟨hlen,hi⟩:=hc
  have hlen:=qac hlen
  have hw:=tQ (P:=X.C.P) (t:=t) hx hlen hi
  split at hk
  ·rename_i p hkey he
   obtain⟨h1,_⟩:=hR.sval he (by simp)
   obtain⟨acts,cs,h',h2,h3,hk1⟩:=hA.heap _ _ _ hk
   simp only[Hp.run]at h2
   rw[ha]at h2 h3
   obtain⟨id,off,vs,vs',e,rfl,g1,g2,rfl⟩:=stP_ok h2
   refine cF (s:=.un) hR (H':=σ.heap.set id (.cells vs' e true)) h3 trivial (f:=ie X.C t id off x.val) ?_ ?_ hk1
   ·rw[heff,dN,hnt,hkey,h1];rfl
   ·simp only[ie,g1,hw,g2,qav];rfl
  ·rename_i s s' off hkey he
   obtain⟨h1,_⟩:=hR.sval he (by simp)
   have hrow:ik X.pts o=some s:=by simp only[ik,ho,hkey]
   split at hk
   ·rename_i cs hs hst
    have hs:s=s':=by simpa using hs
    subst hs
    rw[setK_eq]at hk
    have heff2:ak X.C X.pts (oval σ.tmps) o=some (.lset s λvs=>dQ X.C.P t x.val vs off):=by
     rw[heff,dN,hnt,hkey,h1]
     simp[SV.val,gP]
    have hrow0:ev.lc[s]? = some (ev.lc.getD s .unk)∨ev.lc.getD s .unk = .unk:=by
     rw[List.getD_eq_getElem?_getD]
     cases ev.lc[s]?<;>simp
    unfold storeR at hst
    split at hst
    ·rename_i cs0 hl
     obtain⟨q1,q2,q3⟩:=oK hst
     have hlc:ev.lc[s]? = some (.row cs0):=by rcases hrow0 with h|h<;>rw[hl]at h<;>first|exact h|cases h
     have hr:=hR.row s _ hlc
     exact pw hR ha heff2 hr.1 (by rw[hw];exact q1) (by simp[q2]) (q3 hr.2 hx) hrow hk
    ·rename_i n hl
     split at hst
     ·rename_i hz
      cases hst
      simp only[qaa]at hz
      have hz1:=qac hz.1
      have hz2:=qac hz.2
      have hlc:ev.lc[s]? = some (.any n):=by rcases hrow0 with h|h<;>rw[hl]at h<;>first|exact h|cases h
      obtain⟨vs,hv1,hv2⟩:=hR.row s _ hlc
      refine pw hR ha heff2 hv1 ?_ (by rw[hv2,hz2];simp) hx hrow hk
      rw[hw,hz1,splice,if_pos (by simp;omega)]
      simp[show vs.length<=x.cells.length by omega]
     ·cases hst
    ·cases hst
   ·exact absurd hk hA.fail
  ·rename_i s s' base ix hkey he
   obtain⟨h1,_⟩:=hR.sval he (by simp)
   have hrow:ik X.pts o=some s:=by simp only[ik,ho,hkey]
   split at hk
   ·rename_i cs hs hr
    have hs:s=s':=by simpa using hs
    subst hs
    split at hk
    ·exact absurd hk hA.fail
    ·rename_i hat
     obtain⟨ls,hp,hk1⟩:=hA.opt _ _ hk
     obtain⟨cs',r,e1,e2,hk2⟩:=oO hA hk1
     obtain⟨hr0,hk3⟩:=hA.un0 _ _ hk2
     rw[hr0,qaR]at e1
     rw[setK_eq]at hk3
     obtain⟨r1,r2,_⟩:=je hR hr
     have heff2:ak X.C X.pts (oval σ.tmps) o=some (.lset s λvs=>dQ X.C.P t x.val vs (offX base ix)):=by
      rw[heff,dN,hnt,hkey,h1]
      simp[SV.val,gP]
     rw[putL_eq]at hp
     split at hp
     ·rename_i hle
      simp only[qbm]at hle
      let off:=offX base ix
      have hmid:cutS cs off x.cells.length=some ((cs.drop off).take x.cells.length):=by unfold cutS;rw[if_pos hle]
      have hk0:aI ((cs.drop off).take x.cells.length) (x.cells.map SL.lk)=true:=kO hat (by rw[qbm];exact hmid)
      let new:=cs.take off++x.cells++cs.drop (off+x.cells.length)
      have hsp:gr cs off x.cells=some new:=by unfold gr;rw[if_pos hle]
      obtain⟨q1,q2,q3⟩:=oK hsp
      have hkinds:aI new (cs.map SL.lk)=true:=by
       have hsplit:cs=cs.take off++(cs.drop off).take x.cells.length++cs.drop (off+x.cells.length):=by
        rw[qaB,←qbS,qcq,qcq]
       have hlk:∀ {a b:List SL},aI a (b.map SL.lk)=true->a.map SL.lk=b.map SL.lk:=by
        intro a b hab
        induction a generalizing b with
        |nil=>cases b with
         |nil=>rfl
         |cons _ _=>cases hab
        |cons a as0 ih=>cases b with
         |nil=>cases hab
         |cons b bs=>
          simp only[qat,aI,qaa]at hab
          simp only[qat,ih hab.2]
          have:a.lk=b.lk:=by
           have h0:=hab.1
           cases a<;>cases b<;>first|rfl|(simp[SL.is,SL.lk]at h0;done)|(simp only[SL.is,SL.lk]at h0 ⊢;rw[cz h0])
          rw[this]
       have hm:cs.map SL.lk=(cs.take off).map SL.lk++x.cells.map SL.lk++(cs.drop (off+x.cells.length)).map SL.lk:=by
        conv=>lhs;rw[hsplit]
        simp only[qbT]
        rw[hlk hk0]
       rw[hm]
       exact fJ (fJ (kP _) (kP _)) (kP _)
      have hlf:new.map SL.lf=cs'.map SL.lf:=by
       rw[←e1]
       cases hp
       simp[new,off,qch,qct]
      obtain⟨v1,v2⟩:=fK hkinds e2 hlf
      refine pw hR ha heff2 r1 (by rw[hw,←v1];exact q1) (by rw[←v1];simp[q2]) (v2 (q3 r2 hx)) hrow hk3
     ·cases hp
   ·exact absurd hk hA.fail
  ·exact absurd hk hA.fail
end
end Go.Am

end

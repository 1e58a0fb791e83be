/-
  PART 3 OF THE PROOF: Gf Am7 Am8 Am8b Am8c Sx5 Ht1 Sx4 Sx5d Sx6 Sx6b (no conditions).
-/
import Derived.Test.YtplljlaeahkchaaGreatDoorCP2
import Derived.IntWalk
set_option linter.unusedSectionVars false
set_option linter.unusedSimpArgs false
set_option linter.unusedVariables false
set_option linter.constructorNameAsVariable false
set_option linter.defProp false
noncomputable section
/-
 WHAT EACH FUNCTION DOES,BY PROGRAM.
-/
set_option maxRecDepth 100000
namespace Go.Am
section
variable {R HT:Type} (A:Alg R HT)
/-- crimp/crimplaw10.PlacesCloses -/
def f3(ls:List Lf)(h:HT)(K:List Lf->HT->R):R:=A.unI ls (λb6 b7=>A.unI b7 (λb8 b9=>A.unV b9 (λc0 c1=>A.unI c1 (λn12 d0=>A.unI d0 (λn14 d1=>A.unI d1 (λn16 d2=>A.un0 d2 ( A.call 9 [(.i b6),(.i b8),(.v c0)] h (λd3 d4=>A.unI d3 (λn20 d5=>A.unI d5 (λn22 d6=>A.unV d6 (λa4 d7=>A.un0 d7 ( A.loop (λd8 d9 a8=>A.unI d9 (λe0 e1=>A.unI e1 (λn31 e2=>A.un0 e2 ( A.ari .mul .i64 (.ofNat 2) n22 (λe4=>A.cmp .lss n31 e4 (λe5=>A.cond e5 ( A.loop (λe6 e7 h37=>A.unI e7 (λn38 e8=>A.unI e8 (λn40 f0=>A.un0 f0 ( A.ari .mul .i64 (.ofNat 2) n20 (λn42=>A.cmp .lss n40 n42 (λf1=>A.cond f1 ( A.join (λf2 f4=>A.unI f2 (λf5 f6=>A.un0 f6 ( A.ari .add .i64 n40 (.ofNat 1) (λn48=>e6 [(.i f5),(.i n48)] f4)))) (λa5=>A.call 10 [(.i n20),(.i n22),(.i n40),(.i n31)] h37 (λf7 a6=>A.unI f7 (λn52 f8=>A.un0 f8 ( A.cmp .eql n52 (.ofNat 0) (λg0=>A.cond g0 ( a5 [(.i n38)] a6) ( A.ari .add .i64 n38 (.ofNat 1) (λn55=>A.ari .sub .i64 n55 (.ofNat 1) (λn56=>A.ari .rem .u8 n12 (.ofNat 25) (λn57=>A.conv .i64 n57 (λn58=>A.cmp .neq n56 n58 (λg1=>A.cond g1 ( a5 [(.i n55)] a6) ( A.call 11 [(.i n20),(.i n22),(.v a4),(.i n40),(.i n31)] a6 (λg2 g4=>A.unV g2 (λO g5=>A.un0 g5 ( A.loop (λg6 g7 U=>A.unV g7 (λa9 g8=>A.unI g8 (λn69 h0=>A.unI h0 (λn71 h1=>A.un0 h1 ( A.opt (lenS O) (λx73=>A.cmp .lss n71 x73 (λh2=>A.cond h2 ( A.opt (idS 2 O n71) (λh4=>A.opt (fdP 0 h4) (λx76=>A.chk x76 ( A.peek (.lg cc 1 x76) U (λh5=>A.ucI .i64 h5 (λn78 h6=>A.uc0 h6 ( A.new (.cells [(.int .i64 n78)] 1 true) U (λh7 h8=>A.heap (.ap cc 1 8 a9 (.slice (some ⟨h7,0,(some 11)⟩) 1 2)) h8 (λi0 a1=>A.ucV i0 (λb0 i1=>A.chk b0 ( A.uc0 i1 ( A.ari .rem .i64 n71 (.ofNat 2) (λn86=>A.cmp .eql n86 (.ofNat 0) (λi2=>A.join (λi4 h89=>A.unI i4 (λn90 i5=>A.un0 i5 ( A.ari .add .i64 n71 (.ofNat 1) (λn92=>g6 [(.v b0),(.i n90),(.i n92)] h89)))) (λb1=>A.cond i2 ( A.ari .add .i64 n71 (.ofNat 1) (λn94=>A.opt (lenS O) (λi6=>A.ari .rem .i64 n94 i6 (λn96=>A.opt (idS 2 O n96) (λi7=>A.opt (fdP 0 i7) (λb2=>A.chk b2 ( A.peek (.lg cc 1 b2) a1 (λi8=>A.ucI .i64 i8 (λj0 j1=>A.uc0 j1 ( A.opt (idS 2 O n71) (λj2=>A.opt (fdP 0 j2) (λb3=>A.chk b3 ( A.peek (.lg cc 1 b3) a1 (λj3=>A.ucI .i64 j3 (λj4 j5=>A.uc0 j5 ( A.ari .sub .i64 j0 j4 (λj6=>A.ari .add .i64 j6 (.ofNat 8) (λj7=>A.ari .rem .i64 j7 (.ofNat 8) (λn109=>A.ari .add .i64 n69 n109 (λn110=>b1 [(.i n110)] a1)))))))))))))))))))) ( b1 [(.i n69)] a1)))))))))))))))) ( A.join (λj8 j9=>A.unB j8 (λb4 k0=>A.un0 k0 ( A.call 12 [(.i n20),(.i n22),(.v a4),(.i n40),(.i n31)] j9 (λk1 h116=>A.unB k1 (λk2 k3=>A.unI k3 (λn119 k4=>A.un0 k4 ( A.cmp .neq n119 (.ofNat 0) (λk5=>A.cond k5 ( K [(.b false)] h116) ( A.eqs [((.b k2),(.b b4))] (λk6=>A.cond (!k6) ( K [(.b false)] h116) ( A.call 13 [(.i n40),(.i n31),(.v a9)] h116 (λk7 h124=>A.unI k7 (λn125 k8=>A.unI k8 (λn127 k9=>A.unI k9 (λn129 l0=>A.un0 l0 ( A.eqs [((.i n125),(.i (.ofNat 0))),((.i n127),(.i (.ofNat 0))),((.i n129),(.i (.ofNat 0)))] (λl1=>A.eqs [((.b b4),(.b l1))] (λl2=>A.cond (!l2) ( K [(.b false)] h124) ( a5 [(.i n55)] h124))))))))))))))))))) (λa7=>A.opt (lenS O) (λl3=>A.cmp .eql l3 (.ofNat 0) (λl4=>A.cond l4 ( a7 [(.b true)] U) ( A.opt (lenS O) (λl5=>A.ari .rem .i64 l5 (.ofNat 2) (λl6=>A.cmp .eql l6 (.ofNat 0) (λl7=>A.cond l7 ( A.cmp .eql n69 (.ofNat 4) (λl8=>a7 [(.b l8)] U)) ( a7 [(.b false)] U)))))))))))))))) [(.v (.slice none 0 0)),(.i (.ofNat 0)),(.i (.ofNat 0))] g4)))))))))))))))) ( A.ari .add .i64 n31 (.ofNat 1) (λl9=>d8 [(.i n38),(.i l9)] h37)))))))) [(.i e0),(.i (.ofNat 1))] a8) ( A.call 12 [(.i n20),(.i n22),(.v a4),(.i n14),(.i n16)] a8 (λm0 V=>A.unB m0 (λm1 m2=>A.unI m2 (λn145 m3=>A.un0 m3 ( A.join (λm4 a2=>A.unB m4 (λb5 m5=>A.un0 m5 ( A.join (λm6 m7=>A.unB m6 (λm8 m9=>A.un0 m9 ( K [(.b m8)] m7))) (λa3=>A.cmp .eql n145 (.ofNat 7) (λn0=>A.eqs [((.b n0),(.b b5))] (λn1=>A.cond n1 ( A.cond (!b5) ( A.call 14 [] a2 (λn2 n4=>A.unB n2 (λn5 n6=>A.un0 n6 ( a3 [(.b n5)] n4)))) ( A.cond (!m1) ( A.call 14 [] a2 (λn7 n8=>A.unB n7 (λo0 o1=>A.un0 o1 ( a3 [(.b o0)] n8)))) ( a3 [(.b false)] a2))) ( a3 [(.b false)] a2))))))) (λa0=>A.cmp .leq n14 (.ofNat 0) (λo2=>A.cond o2 ( a0 [(.b true)] V) ( A.cmp .leq n16 (.ofNat 0) (λo3=>A.cond o3 ( a0 [(.b true)] V) ( A.ari .mul .i64 (.ofNat 2) n20 (λo4=>A.cmp .geq n14 o4 (λo5=>A.cond o5 ( a0 [(.b true)] V) ( A.ari .mul .i64 (.ofNat 2) n22 (λo6=>A.cmp .geq n16 o6 (λo7=>A.cond o7 ( a0 [(.b true)] V) ( A.call 10 [(.i n20),(.i n22),(.i n14),(.i n16)] V (λo8 o9=>A.unI o8 (λn175 p0=>A.un0 p0 ( A.cmp .eql n175 (.ofNat 0) (λp1=>a0 [(.b p1)] o9)))))))))))))))))))))))))) [(.i (.ofNat 0)),(.i (.ofNat 1))] d4))))))))))))
/-- (crimp/crimplaw06.P).Of -/
def f9(ls:List Lf)(h:HT)(K:List Lf->HT->R):R:=A.unI ls (λa2 a3=>A.unI a3 (λa4 a5=>A.unV a5 (λV a6=>A.un0 a6 ( A.ari .rem .u8 a2 (.ofNat 4) (λn12=>A.conv .i64 n12 (λn13=>A.ari .add .i64 (.ofNat 1) n13 (λn14=>A.ari .rem .u8 a4 (.ofNat 4) (λa7=>A.conv .i64 a7 (λn16=>A.ari .add .i64 (.ofNat 1) n16 (λa0=>A.ari .mul .i64 (.ofNat 6) n14 (λn18=>A.ari .mul .i64 n18 a0 (λn19=>A.opt (mkOk n19 n19) (λe0=>A.new (.cells (aU [(.int .u8 (.ofNat 0))] (Int.toNat n19)) 1 true) h (λU h22=>A.join (λa8 a9=>A.un0 a8 ( A.call 18 [(.i n14),(.i a0),(.v (.slice (some ⟨U,0,(some 11)⟩) (Int.toNat n19) ((Int.toNat n19)+1)))] a9 (λb0 b1=>A.unI b0 (λb2 b3=>A.unI b3 (λb4 b5=>A.unV b5 (λb6 b7=>A.un0 b7 ( K [(.i b2),(.i b4),(.v b6)] b1))))))) (λa1=>A.loop (λb8 b9 O=>A.unI b9 (λn37 c0=>A.un0 c0 ( A.opt (lenS (.slice (some ⟨U,0,(some 11)⟩) (Int.toNat n19) ((Int.toNat n19)+1))) (λc1=>A.cmp .lss n37 c1 (λd0=>A.cond d0 ( A.opt (lenS V) (λd1=>A.cmp .lss n37 d1 (λd2=>A.cond d2 ( A.opt (idS 1 V n37) (λd3=>A.peek (.lg cc 1 d3) O (λd4=>A.ucI .u8 d4 (λd5 d6=>A.uc0 d6 ( A.ari .rem .u8 d5 (.ofNat 4) (λd7=>A.opt (idS 1 (.slice (some ⟨U,0,(some 11)⟩) (Int.toNat n19) ((Int.toNat n19)+1)) n37) (λd8=>A.heap (.st d8 [(.int .u8 d7)]) O (λe1 d9=>A.ari .add .i64 n37 (.ofNat 1) (λn51=>b8 [(.i n51)] d9))))))))) ( a1 [] O)))) ( a1 [] O)))))) [(.i (.ofNat 0))] h22)))))))))))))))
/-- crimp/crimpref09.Is -/
def f10(ls:List Lf)(h:HT)(K:List Lf->HT->R):R:=A.unI ls (λO U=>A.unI U (λV a0=>A.unI a0 (λn10 a1=>A.unI a1 (λn12 a2=>A.un0 a2 ( A.cmp .gtr n10 (.ofNat 0) (λa3=>A.cond a3 ( A.cmp .gtr n12 (.ofNat 0) (λa4=>A.cond a4 ( A.ari .mul .i64 (.ofNat 2) O (λn16=>A.cmp .lss n10 n16 (λa5=>A.cond a5 ( A.ari .mul .i64 (.ofNat 2) V (λn18=>A.cmp .lss n12 n18 (λa6=>A.cond a6 ( A.ari .sub .i64 n10 n12 (λn20=>A.ari .rem .i64 n20 (.ofNat 2) (λn21=>A.cmp .eql n21 (.ofNat 0) (λa7=>A.join (λa8 a9=>A.un0 a8 ( K [(.i (.ofNat 0))] a9)) (λb0=>A.cond a7 ( K [(.i (.ofNat 1))] h) ( b0 [] h)))))) ( K [(.i (.ofNat 0))] h)))) ( K [(.i (.ofNat 0))] h)))) ( K [(.i (.ofNat 0))] h))) ( K [(.i (.ofNat 0))] h)))))))
/-- crimp/crimpref09.Creases -/
def f11(ls:List Lf)(h:HT)(K:List Lf->HT->R):R:=A.unI ls (λb4 b5=>A.unI b5 (λb6 b7=>A.unV b7 (λa5 b8=>A.unI b8 (λn12 b9=>A.unI b9 (λn14 c0=>A.un0 c0 ( A.loop (λc1 d0 h18=>A.unV d0 (λa6 d1=>A.unI d1 (λn21 d2=>A.un0 d2 ( A.cmp .lss n21 (.ofNat 8) (λd3=>A.cond d3 ( A.loop (λV d4 a0=>A.unV d4 (λO d5=>A.unI d5 (λU d6=>A.un0 d6 ( A.opt (lenS a5) (λd7=>A.cmp .lss U d7 (λd8=>A.cond d8 ( A.opt (idS 3 a5 U) (λd9=>A.peek (.lg cc 3 d9) a0 (λe0=>A.ucI .i64 e0 (λn35 e1=>A.ucI .u8 e1 (λn37 e2=>A.ucI .u8 e2 (λn39 e4=>A.uc0 e4 ( A.call 19 [(.i b4),(.i b6),(.i n35),(.i n37)] a0 (λe5 a1=>A.unI e5 (λn43 e6=>A.unI e6 (λa2 e7=>A.unI e7 (λa3 e8=>A.unI e8 (λn49 f0=>A.un0 f0 ( A.eqs [((.i n43),(.i n12)),((.i a2),(.i n14))] (λf1=>A.cond f1 ( A.call 36 [(.i n12),(.i n14),(.i a3),(.i n49)] a1 (λf2 a4=>A.unI f2 (λn54 f4=>A.un0 f4 ( A.cmp .eql n54 n21 (λf5=>A.cond f5 ( A.new (.cells [(.int .i64 n21),(.int .u8 n39)] 2 true) a4 (λf6 f7=>A.heap (.ap cc 2 16 O (.slice (some ⟨f6,0,(some 12)⟩) 1 2)) f7 (λf8 g0=>A.ucV f8 (λa7 g1=>A.chk a7 ( A.uc0 g1 ( A.ari .add .i64 U (.ofNat 1) (λg2=>V [(.v a7),(.i g2)] g0))))))) ( A.eqs [((.i a3),(.i n12)),((.i n49),(.i n14))] (λg4=>A.cond g4 ( A.call 36 [(.i n12),(.i n14),(.i n43),(.i a2)] a4 (λg5 a8=>A.unI g5 (λn67 g6=>A.un0 g6 ( A.cmp .eql n67 n21 (λg7=>A.join (λg8 h71=>A.unV g8 (λh0 h1=>A.un0 h1 ( A.ari .add .i64 U (.ofNat 1) (λn74=>V [(.v h0),(.i n74)] h71)))) (λa9=>A.cond g7 ( A.new (.cells [(.int .i64 n21),(.int .u8 n39)] 2 true) a8 (λh2 h4=>A.heap (.ap cc 2 16 O (.slice (some ⟨h2,0,(some 12)⟩) 1 2)) h4 (λh5 h6=>A.ucV h5 (λb0 h7=>A.chk b0 ( A.uc0 h7 ( a9 [(.v b0)] h6)))))) ( a9 [(.v O)] a8))))))) ( A.ari .add .i64 U (.ofNat 1) (λn82=>V [(.v O),(.i n82)] a4))))))))) ( A.eqs [((.i a3),(.i n12)),((.i n49),(.i n14))] (λh8=>A.cond h8 ( A.call 36 [(.i n12),(.i n14),(.i n43),(.i a2)] a1 (λi0 b1=>A.unI i0 (λn86 i1=>A.un0 i1 ( A.cmp .eql n86 n21 (λi2=>A.join (λi4 h90=>A.unV i4 (λi5 i6=>A.un0 i6 ( A.ari .add .i64 U (.ofNat 1) (λn93=>V [(.v i5),(.i n93)] h90)))) (λb2=>A.cond i2 ( A.new (.cells [(.int .i64 n21),(.int .u8 n39)] 2 true) b1 (λi7 i8=>A.heap (.ap cc 2 16 O (.slice (some ⟨i7,0,(some 12)⟩) 1 2)) i8 (λj0 j1=>A.ucV j0 (λb3 j2=>A.chk b3 ( A.uc0 j2 ( b2 [(.v b3)] j1)))))) ( b2 [(.v O)] b1))))))) ( A.ari .add .i64 U (.ofNat 1) (λj3=>V [(.v O),(.i j3)] a1)))))))))))))))))) ( A.ari .add .i64 n21 (.ofNat 1) (λn102=>c1 [(.v O),(.i n102)] a0)))))))) [(.v a6),(.i (.ofNat 0))] h18) ( K [(.v a6)] h18)))))) [(.v (.slice none 0 0)),(.i (.ofNat 0))] h))))))
/-- crimp/places.Closes -/
def f12(ls:List Lf)(h:HT)(K:List Lf->HT->R):R:=A.unI ls (λa2 a3=>A.unI a3 (λa4 a5=>A.unV a5 (λa6 a7=>A.unI a7 (λn12 a8=>A.unI a8 (λn14 a9=>A.un0 a9 ( A.call 37 [(.i a2),(.i a4),(.v a6),(.i n12),(.i n14)] h (λb0 a0=>A.unV b0 (λx18 b1=>A.unI b1 (λn20 b2=>A.un0 b2 ( A.cmp .neq n20 (.ofNat 0) (λb3=>A.cond b3 ( K [(.b false),(.i n20)] a0) ( A.new (.cells [(.int .u8 (.ofNat 0)),(.int .i64 (.ofNat 0)),(.int .i64 (.ofNat 0))] 3 true) a0 (λU b4=>A.chk (.func (.func 38) ⟨[(.pointer (some ⟨U,0,none⟩))]⟩ ⟨[]⟩) ( A.opt (lenS x18) (λb5=>A.loop (λb6 b7 O=>A.unI b7 (λV b8=>A.un0 b8 ( A.cmp .lss V b5 (λb9=>A.cond b9 ( A.opt (idS 2 x18 V) (λc0=>A.peek (.lg cc 2 c0) O (λc1=>A.ucI .i64 c1 (λd0 d1=>A.ucI .u8 d1 (λn36 d2=>A.uc0 d2 ( A.ari .rem .i64 d0 (.ofNat 4) (λn38=>A.opt (inB 4 n38) (λg0=>A.opt (dn [(.i (.ofNat 2)),(.i (.ofNat 4)),(.i (.ofNat 1)),(.i (.ofNat 3))] 0 [(n38,1)] 1) (λd3=>A.unI d3 (λn41 d4=>A.un0 d4 ( A.call 39 [(.i n41),(.i n12),(.i n14)] O (λd5 d6=>A.unI d5 (λd7 d8=>A.unI d8 (λd9 e0=>A.unI e0 (λn49 e1=>A.un0 e1 ( A.callv (.func (.func 38) ⟨[(.pointer (some ⟨U,0,none⟩))]⟩ ⟨[]⟩) [(.agg ⟨[(.int .u8 d7),(.int .i64 d9)]⟩)] [] d6 (λe2 e4=>A.un0 e2 ( A.ari .add .i64 V (.ofNat 1) (λn53=>b6 [(.i n53)] e4))))))))))))))))))) ( A.opt (fdP 0 (.pointer (some ⟨U,0,none⟩))) (λa1=>A.chk a1 ( A.peek (.lg cc 3 a1) O (λe5=>A.ucI .u8 e5 (λn56 e6=>A.ucI .i64 e6 (λn58 e7=>A.ucI .i64 e7 (λe8 f0=>A.uc0 f0 ( A.call 22 [] O (λf1 f2=>A.unI f1 (λf4 f5=>A.unI f5 (λn66 f6=>A.unI f6 (λn68 f7=>A.un0 f7 ( A.eqs [((.i n56),(.i f4)),((.i n58),(.i n66)),((.i e8),(.i n68))] (λf8=>K [(.b f8),(.i (.ofNat 0))] f2)))))))))))))))))) [(.i (.ofNat 0))] b4)))))))))))))))
/-- crimp/crimpref10.Product -/
def f13(ls:List Lf)(h:HT)(K:List Lf->HT->R):R:=A.unI ls (λa3 a4=>A.unI a4 (λa5 a6=>A.unV a6 (λV a7=>A.un0 a7 ( A.loop (λa8 a9 a0=>A.unI a9 (λO b0=>A.unI b0 (λa1 b1=>A.unI b1 (λn19 b2=>A.unI b2 (λn21 b3=>A.un0 b3 ( A.opt (lenS V) (λb4=>A.cmp .lss O b4 (λb5=>A.cond b5 ( A.new (.cells [(.int .u8 (.ofNat 2)),(.int .u8 (.ofNat 4)),(.int .u8 (.ofNat 1)),(.int .u8 (.ofNat 3))] 1 true) a0 (λb6 U=>A.opt (idS 1 V O) (λb7=>A.peek (.lg cc 1 b7) U (λb8=>A.ucI .i64 b8 (λb9 c0=>A.uc0 c0 ( A.ari .rem .i64 b9 (.ofNat 4) (λn31=>A.opt (idS 1 (.slice (some ⟨b6,0,(some 11)⟩) 4 5) n31) (λc1=>A.peek (.lg cc 1 c1) U (λd0=>A.ucI .u8 d0 (λa2 d1=>A.uc0 d1 ( A.call 40 [(.i a2)] U (λd2 h37=>A.unI d2 (λn38 d3=>A.unI d3 (λn40 d4=>A.un0 d4 ( A.ari .mul .i64 n38 a3 (λn42=>A.ari .mul .i64 n40 a5 (λn43=>A.ari .add .i64 n42 n43 (λn44=>A.ari .quo .i64 n44 (.ofNat 2) (λd5=>A.call 42 [(.i a2),(.i d5)] h37 (λd6 d7=>A.unI d6 (λn48 d8=>A.unI d8 (λn50 d9=>A.unI d9 (λn52 e0=>A.un0 e0 ( A.call 41 [(.i a1),(.i n19),(.i n21),(.i n48),(.i n50),(.i n52)] d7 (λe1 e2=>A.unI e1 (λn56 e4=>A.unI e4 (λn58 e5=>A.unI e5 (λe6 e7=>A.un0 e7 ( A.ari .add .i64 O (.ofNat 1) (λe8=>a8 [(.i e8),(.i n56),(.i n58),(.i e6)] e2)))))))))))))))))))))))))))))) ( K [(.i a1),(.i n19),(.i n21)] a0))))))))) [(.i (.ofNat 0)),(.i (.ofNat 0)),(.i (.ofNat 0)),(.i (.ofNat 0))] h))))
/-- crimp/crimplaw10.lives -/
def f14(ls:List Lf)(h:HT)(K:List Lf->HT->R):R:=A.un0 ls ( A.call 44 [(.i (.ofNat 1)),(.i (.ofNat 1)),(.i (.ofNat 0)),(.i (.ofNat 2))] h (λb6 b7=>A.unI b6 (λb8 b9=>A.unI b9 (λn10 c0=>A.unI c0 (λn12 c1=>A.unI c1 (λn14 d0=>A.unI d0 (λn16 d1=>A.un0 d1 ( A.new (.cells [(.int .u8 b8),(.int .u8 n10),(.int .i64 n12),(.int .i64 n14),(.int .i64 n16)] 5 true) b7 (λd2 d3=>A.call 43 [(.i (.ofNat 2)),(.i (.ofNat 1)),(.v (.slice (some ⟨d2,0,(some 15)⟩) 1 2))] d3 (λd4 d5=>A.unI d4 (λn22 d6=>A.unI d6 (λn24 d7=>A.unV d7 (λd8 d9=>A.un0 d9 ( A.call 22 [] d5 (λe0 e1=>A.unI e0 (λn30 e2=>A.unI e2 (λe4 e5=>A.unI e5 (λe6 e7=>A.un0 e7 ( A.call 21 [(.i n22),(.i n24),(.v d8),(.i n30),(.i e4),(.i e6)] e1 (λe8 h37=>A.unV e8 (λx38 f0=>A.unI f0 (λn40 f1=>A.un0 f1 ( A.call 44 [(.i (.ofNat 1)),(.i (.ofNat 1)),(.i (.ofNat 0)),(.i (.ofNat 4))] h37 (λf2 f4=>A.unI f2 (λn44 f5=>A.unI f5 (λf6 f7=>A.unI f7 (λn48 f8=>A.unI f8 (λn50 g0=>A.unI g0 (λn52 g1=>A.un0 g1 ( A.call 44 [(.i (.ofNat 2)),(.i (.ofNat 1)),(.i (.ofNat 0)),(.i (.ofNat 4))] f4 (λg2 g4=>A.unI g2 (λn56 g5=>A.unI g5 (λn58 g6=>A.unI g6 (λg7 g8=>A.unI g8 (λh0 h1=>A.unI h1 (λh2 h4=>A.un0 h4 ( A.new (.cells [(.int .u8 n44),(.int .u8 f6),(.int .i64 n48),(.int .i64 n50),(.int .i64 n52),(.int .u8 n56),(.int .u8 n58),(.int .i64 g7),(.int .i64 h0),(.int .i64 h2)] 5 true) g4 (λh5 h6=>A.call 43 [(.i (.ofNat 2)),(.i (.ofNat 2)),(.v (.slice (some ⟨h5,0,(some 15)⟩) 2 3))] h6 (λh7 h8=>A.unI h7 (λi0 i1=>A.unI i1 (λn72 i2=>A.unV i2 (λx74 i4=>A.un0 i4 ( A.call 22 [] h8 (λi5 i6=>A.unI i5 (λn78 i7=>A.unI i7 (λn80 i8=>A.unI i8 (λn82 j0=>A.un0 j0 ( A.call 21 [(.i i0),(.i n72),(.v x74),(.i n78),(.i n80),(.i n82)] i6 (λj1 a0=>A.unV j1 (λa6 j2=>A.unI j2 (λn88 j3=>A.un0 j3 ( A.cmp .neq n40 (.ofNat 0) (λj4=>A.cond j4 ( K [(.b false)] a0) ( A.cmp .neq n88 (.ofNat 0) (λj5=>A.cond j5 ( K [(.b false)] a0) ( A.opt (lenS x38) (λj6=>A.cmp .neq j6 (.ofNat 8) (λj7=>A.cond j7 ( K [(.b false)] a0) ( A.opt (lenS a6) (λj8=>A.cmp .neq j8 (.ofNat 16) (λj9=>A.cond j9 ( K [(.b false)] a0) ( A.loop (λa8 k0 a7=>A.unI k0 (λU k1=>A.un0 k1 ( A.cmp .lss U (.ofNat 16) (λk2=>A.cond k2 ( A.opt (idS 3 a6 U) (λa2=>A.peek (.lg cc 3 a2) a7 (λk3=>A.ucI .u8 k3 (λk4 k5=>A.ucI .i64 k5 (λk6 k7=>A.ucI .i64 k7 (λk8 k9=>A.uc0 k9 ( A.new (.cells [(.int .u8 (.ofNat 0)),(.int .i64 (.ofNat 0)),(.int .i64 (.ofNat 0)),(.int .u8 (.ofNat 4)),(.int .i64 (.ofNat 2)),(.int .i64 (.ofNat 0)),(.int .u8 (.ofNat 6)),(.int .i64 (.ofNat 0)),(.int .i64 (.ofNat 2)),(.int .u8 (.ofNat 2)),(.int .i64 (.ofNat 2)),(.int .i64 (.ofNat 2))] 3 true) a7 (λa3 V=>A.ari .quo .i64 U (.ofNat 4) (λn112=>A.opt (idS 3 (.slice (some ⟨a3,0,(some 13)⟩) 4 5) n112) (λl0=>A.peek (.lg cc 3 l0) V (λl1=>A.ucI .u8 l1 (λn115 l2=>A.ucI .i64 l2 (λn117 l3=>A.ucI .i64 l3 (λn119 l4=>A.uc0 l4 ( A.eqs [((.i k4),(.i n115)),((.i k6),(.i n117)),((.i k8),(.i n119))] (λl5=>A.cond (!l5) ( A.opt (Sx.sepL [((.slice (some ⟨a3,0,(some 13)⟩) 4 5),(0,a2))]) (λyv=>K [(.b false)] V)) ( A.cmp .lss U (.ofNat 8) (λl6=>A.cond l6 ( A.opt (idS 3 x38 U) (λx124=>A.peek (.lg cc 3 x124) V (λl7=>A.ucI .u8 l7 (λn126 l8=>A.ucI .i64 l8 (λn128 l9=>A.ucI .i64 l9 (λn130 m0=>A.uc0 m0 ( A.opt (idS 3 a6 U) (λm1=>A.peek (.lg cc 3 m1) V (λm2=>A.ucI .u8 m2 (λn134 m3=>A.ucI .i64 m3 (λm4 m5=>A.ucI .i64 m5 (λm6 m7=>A.uc0 m7 ( A.eqs [((.i n126),(.i n134)),((.i n128),(.i m4)),((.i n130),(.i m6))] (λm8=>A.opt (Sx.sepL [((.slice (some ⟨a3,0,(some 13)⟩) 4 5),(0,a2))]) (λyw=>A.join (λm9 n0=>A.un0 m9 ( A.ari .add .i64 U (.ofNat 1) (λn144=>a8 [(.i n144)] n0))) (λn1=>A.cond (!m8) ( K [(.b false)] V) ( n1 [] V))))))))))))))))) ( A.opt (Sx.sepL [((.slice (some ⟨a3,0,(some 13)⟩) 4 5),(0,a2))]) (λx146=>A.ari .add .i64 U (.ofNat 1) (λn2=>a8 [(.i n2)] V))))))))))))))))))))) ( A.call 44 [(.i (.ofNat 1)),(.i (.ofNat 1)),(.i (.ofNat 0)),(.i (.ofNat 4))] a7 (λn4 n5=>A.unI n4 (λn6 n7=>A.unI n7 (λn8 o0=>A.unI o0 (λo1 o2=>A.unI o2 (λn156 o3=>A.unI o3 (λn158 o4=>A.un0 o4 ( A.call 44 [(.i (.ofNat 2)),(.i (.ofNat 1)),(.i (.ofNat 0)),(.i (.ofNat 4))] n5 (λo5 o6=>A.unI o5 (λn162 o7=>A.unI o7 (λn164 o8=>A.unI o8 (λo9 p0=>A.unI p0 (λp1 p2=>A.unI p2 (λp4 p5=>A.un0 p5 ( A.new (.cells [(.int .u8 n6),(.int .u8 n8),(.int .i64 o1),(.int .i64 n156),(.int .i64 n158),(.int .u8 n162),(.int .u8 n164),(.int .i64 o9),(.int .i64 p1),(.int .i64 p4)] 5 true) o6 (λp6 p7=>A.call 43 [(.i (.ofNat 2)),(.i (.ofNat 2)),(.v (.slice (some ⟨p6,0,(some 15)⟩) 2 3))] p7 (λp8 h175=>A.unI p8 (λn176 q0=>A.unI q0 (λq1 q2=>A.unV q2 (λq3 q4=>A.un0 q4 ( A.call 22 [] h175 (λq5 q6=>A.unI q5 (λn184 q7=>A.unI q7 (λq8 q9=>A.unI q9 (λr1 r2=>A.un0 r2 ( A.call 35 [(.i n176),(.i q1),(.v q3),(.i n184),(.i q8),(.i r1)] q6 (λr3 r4=>A.unI r3 (λn192 r5=>A.unI r5 (λr6 r7=>A.un0 r7 ( A.call 44 [(.i (.ofNat 1)),(.i (.ofNat 1)),(.i (.ofNat 0)),(.i (.ofNat 4))] r4 (λr8 r9=>A.unI r8 (λs0 s1=>A.unI s1 (λs2 s3=>A.unI s3 (λs4 s5=>A.unI s5 (λs6 s7=>A.unI s7 (λs8 s9=>A.un0 s9 ( A.call 44 [(.i (.ofNat 2)),(.i (.ofNat 1)),(.i (.ofNat 0)),(.i (.ofNat 2))] r9 (λt0 t1=>A.unI t0 (λt2 t3=>A.unI t3 (λt4 t5=>A.unI t5 (λt6 t7=>A.unI t7 (λt8 t9=>A.unI t9 (λuc u0=>A.un0 u0 ( A.new (.cells [(.int .u8 s0),(.int .u8 s2),(.int .i64 s4),(.int .i64 s6),(.int .i64 s8),(.int .u8 t2),(.int .u8 t4),(.int .i64 t6),(.int .i64 t8),(.int .i64 uc)] 5 true) t1 (λu1 u2=>A.call 43 [(.i (.ofNat 2)),(.i (.ofNat 2)),(.v (.slice (some ⟨u1,0,(some 15)⟩) 2 3))] u2 (λu4 u5=>A.unI u4 (λa9 u6=>A.unI u6 (λb0 u7=>A.unV u7 (λb1 u8=>A.un0 u8 ( A.call 22 [] u5 (λu9 vd=>A.unI u9 (λve vf=>A.unI vf (λvg vh=>A.unI vh (λvi vj=>A.un0 vj ( A.call 21 [(.i a9),(.i b0),(.v b1),(.i ve),(.i vg),(.i vi)] vd (λvk vl=>A.unV vk (λyx vm=>A.unI vm (λvn vo=>A.un0 vo ( A.call 20 [(.i a9),(.i b0),(.v b1)] vl (λvp vq=>A.unI vp (λvr vt=>A.unI vt (λvu vw=>A.unB vw (λvx vy=>A.unI vy (λvz vA=>A.un0 vA ( A.call 44 [(.i (.ofNat 3)),(.i (.ofNat 1)),(.i (.ofNat 0)),(.i (.ofNat 2))] vq (λvB vC=>A.unI vB (λvD vE=>A.unI vE (λvF vG=>A.unI vG (λvH vI=>A.unI vI (λvJ vK=>A.unI vK (λvL vM=>A.un0 vM ( A.new (.cells [(.int .u8 vD),(.int .u8 vF),(.int .i64 vH),(.int .i64 vJ),(.int .i64 vL)] 5 true) vC (λvN vO=>A.call 43 [(.i (.ofNat 1)),(.i (.ofNat 1)),(.v (.slice (some ⟨vN,0,(some 15)⟩) 1 2))] vO (λvP vQ=>A.unI vP (λvR vS=>A.unI vS (λvT vU=>A.unV vU (λvV vW=>A.un0 vW ( A.call 22 [] vQ (λvX vY=>A.unI vX (λvZ v0=>A.unI v0 (λv1 v2=>A.unI v2 (λv3 v4=>A.un0 v4 ( A.call 28 [(.i vR),(.i vT),(.v vV),(.i vZ),(.i v1),(.i v3)] vY (λv5 O=>A.unV v5 (λa1 v6=>A.unI v6 (λv7 v8=>A.un0 v8 ( A.cmp .neq n192 (.ofNat 4) (λv9=>A.cond v9 ( K [(.b false)] O) ( A.cmp .neq r6 (.ofNat 0) (λwc=>A.cond wc ( K [(.b false)] O) ( A.cmp .neq vn (.ofNat 11) (λwe=>A.cond we ( K [(.b false)] O) ( A.eqs [((.i vr),(.i (.ofNat 2))),((.i vu),(.i (.ofNat 2)))] (λwg=>A.cond (!wg) ( K [(.b false)] O) ( A.cond (!vx) ( K [(.b false)] O) ( A.cmp .neq vz (.ofNat 0) (λwh=>A.cond wh ( K [(.b false)] O) ( A.cmp .neq v7 (.ofNat 0) (λwi=>A.cond wi ( K [(.b false)] O) ( A.opt (lenS a1) (λwj=>A.cmp .neq wj (.ofNat 4) (λwk=>A.cond wk ( K [(.b false)] O) ( A.opt (idS 3 a1 (.ofNat 0)) (λwl=>A.opt (fdP 2 wl) (λb2=>A.chk b2 ( A.peek (.lg cc 1 b2) O (λwm=>A.ucI .u8 wm (λwn wo=>A.uc0 wo ( A.cmp .neq wn (.ofNat 0) (λwp=>A.cond wp ( K [(.b false)] O) ( A.opt (idS 3 a1 (.ofNat 1)) (λwq=>A.opt (fdP 2 wq) (λb3=>A.chk b3 ( A.peek (.lg cc 1 b3) O (λwt=>A.ucI .u8 wt (λwu wv=>A.uc0 wv ( A.cmp .neq wu (.ofNat 0) (λww=>A.cond ww ( K [(.b false)] O) ( A.opt (idS 3 a1 (.ofNat 2)) (λwy=>A.opt (fdP 2 wy) (λb4=>A.chk b4 ( A.peek (.lg cc 1 b4) O (λwz=>A.ucI .u8 wz (λwA wB=>A.uc0 wB ( A.cmp .neq wA (.ofNat 3) (λwC=>A.cond wC ( K [(.b false)] O) ( A.opt (idS 3 a1 (.ofNat 3)) (λwD=>A.opt (fdP 2 wD) (λb5=>A.chk b5 ( A.peek (.lg cc 1 b5) O (λwE=>A.ucI .u8 wE (λwF wG=>A.uc0 wG ( A.cmp .neq wF (.ofNat 3) (λwH=>A.cond wH ( K [(.b false)] O) ( A.call 44 [(.i (.ofNat 1)),(.i (.ofNat 1)),(.i (.ofNat 0)),(.i (.ofNat 4))] O (λwI wJ=>A.unI wI (λwK wL=>A.unI wL (λwM wN=>A.unI wN (λwO wP=>A.unI wP (λwQ wR=>A.unI wR (λwS wT=>A.un0 wT ( A.call 44 [(.i (.ofNat 3)),(.i (.ofNat 2)),(.i (.ofNat 2)),(.i (.ofNat 4))] wJ (λwU wV=>A.unI wU (λwW wX=>A.unI wX (λwY wZ=>A.unI wZ (λw0 w1=>A.unI w1 (λw2 w4=>A.unI w4 (λw5 w6=>A.un0 w6 ( A.call 44 [(.i (.ofNat 4)),(.i (.ofNat 0)),(.i (.ofNat 0)),(.i (.ofNat 2))] wV (λw7 w8=>A.unI w7 (λxa xd=>A.unI xd (λxe xf=>A.unI xf (λxg xh=>A.unI xh (λxi xj=>A.unI xj (λxk xl=>A.un0 xl ( A.new (.cells [(.int .u8 wK),(.int .u8 wM),(.int .i64 wO),(.int .i64 wQ),(.int .i64 wS),(.int .u8 wW),(.int .u8 wY),(.int .i64 w0),(.int .i64 w2),(.int .i64 w5),(.int .u8 xa),(.int .u8 xe),(.int .i64 xg),(.int .i64 xi),(.int .i64 xk)] 5 true) w8 (λxm xn=>A.call 43 [(.i (.ofNat 2)),(.i (.ofNat 2)),(.v (.slice (some ⟨xm,0,(some 15)⟩) 3 4))] xn (λxp xq=>A.unI xp (λxr xt=>A.unI xt (λxu xw=>A.unV xw (λxy xz=>A.un0 xz ( A.call 12 [(.i xr),(.i xu),(.v xy),(.i (.ofNat 2)),(.i (.ofNat 2))] xq (λxA xB=>A.unB xA (λxC xD=>A.unI xD (λxE xF=>A.un0 xF ( A.call 44 [(.i (.ofNat 3)),(.i (.ofNat 2)),(.i (.ofNat 0)),(.i (.ofNat 4))] xB (λxG xH=>A.unI xG (λxI xJ=>A.unI xJ (λxK xM=>A.unI xM (λxN xO=>A.unI xO (λxP xQ=>A.unI xQ (λxR xS=>A.un0 xS ( A.call 44 [(.i (.ofNat 4)),(.i (.ofNat 0)),(.i (.ofNat 0)),(.i (.ofNat 4))] xH (λxU xV=>A.unI xU (λxW xX=>A.unI xX (λxY xZ=>A.unI xZ (λx0 x1=>A.unI x1 (λx2 x4=>A.unI x4 (λx5 x6=>A.un0 x6 ( A.new (.cells [(.int .u8 xI),(.int .u8 xK),(.int .i64 xN),(.int .i64 xP),(.int .i64 xR),(.int .u8 xW),(.int .u8 xY),(.int .i64 x0),(.int .i64 x2),(.int .i64 x5)] 5 true) xV (λx7 x8=>A.call 43 [(.i (.ofNat 2)),(.i (.ofNat 2)),(.v (.slice (some ⟨x7,0,(some 15)⟩) 2 3))] x8 (λya yb=>A.unI ya (λyc yd=>A.unI yd (λye yf=>A.unV yf (λyg yh=>A.un0 yh ( A.call 12 [(.i yc),(.i ye),(.v yg),(.i (.ofNat 2)),(.i (.ofNat 2))] yb (λyi a4=>A.unB yi (λyj yk=>A.unI yk (λyl ym=>A.un0 ym ( A.join (λyn yo=>A.unB yn (λyp yq=>A.un0 yq ( K [(.b yp)] yo))) (λa5=>A.cond xC ( A.cmp .eql xE (.ofNat 0) (λyr=>A.cond yr ( A.cond yj ( A.cmp .eql yl (.ofNat 0) (λyu=>a5 [(.b yu)] a4)) ( a5 [(.b false)] a4)) ( a5 [(.b false)] a4))) ( a5 [(.b false)] a4)))))))))))))))))))))))))))))))))))))))))))))))))))))))))))))))))))))))))))))))))))))))))))))))))))))))))))))))))))))))))))))))))))))))))))))))))))))))))))))))))))))))))))))))))))))))))))))))))))) [(.i (.ofNat 0))] a0))))))))))))))))))))))))))))))))))))))))))))))))))))))))))))))
/-- crimp/crimpref05.Units -/
def f16(ls:List Lf)(h:HT)(K:List Lf->HT->R):R:=A.unI ls (λa0 a5=>A.unI a5 (λa1 a6=>A.un0 a6 ( A.loop (λa7 a8 h12=>A.unV a8 (λx13 a9=>A.unI a9 (λO b0=>A.un0 b0 ( A.ari .mul .i64 (.ofNat 4) a0 (λb1=>A.ari .mul .i64 b1 a1 (λn18=>A.cmp .lss O n18 (λb2=>A.cond b2 ( A.loop (λb3 b4 h22=>A.unV b4 (λV b5=>A.unI b5 (λU b6=>A.un0 b6 ( A.cmp .lss U (.ofNat 3) (λb7=>A.cond b7 ( A.call 30 [(.i a0),(.i a1),(.i O),(.i U)] h22 (λb8 a2=>A.unI b8 (λn30 b9=>A.un0 b9 ( A.cmp .gtr n30 O (λc0=>A.join (λc1 d0=>A.unV c1 (λd1 d2=>A.un0 d2 ( A.ari .add .i64 U (.ofNat 1) (λn37=>b3 [(.v d1),(.i n37)] d0)))) (λa3=>A.cond c0 ( A.conv .u8 U (λn39=>A.new (.cells [(.int .i64 O),(.int .u8 n39)] 2 true) a2 (λd3 d4=>A.heap (.ap cc 2 16 V (.slice (some ⟨d3,0,(some 12)⟩) 1 2)) d4 (λd5 d6=>A.ucV d5 (λa4 d7=>A.chk a4 ( A.uc0 d7 ( a3 [(.v a4)] d6))))))) ( a3 [(.v V)] a2))))))) ( A.ari .add .i64 O (.ofNat 1) (λd8=>a7 [(.v V),(.i d8)] h22))))))) [(.v x13),(.i (.ofNat 0))] h12) ( K [(.v x13)] h12)))))))) [(.v (.slice none 0 0)),(.i (.ofNat 0))] h)))
/-- crimp/crimpref06.With -/
def f18(ls:List Lf)(h:HT)(K:List Lf->HT->R):R:=A.unI ls (λa2 a8=>A.unI a8 (λa3 a9=>A.unV a9 (λa0 b0=>A.un0 b0 ( A.call 16 [(.i a2),(.i a3)] h (λb1 h13=>A.unV b1 (λa1 b2=>A.un0 b2 ( A.join (λb3 b4=>A.unI b3 (λn18 b5=>A.unI b5 (λn20 b6=>A.unV b6 (λb7 b8=>A.un0 b8 ( K [(.i n18),(.i n20),(.v b7)] b4))))) (λa4=>A.loop (λb9 c0 O=>A.unI c0 (λn28 c1=>A.unI c1 (λn30 d0=>A.unI d0 (λU d1=>A.unV d1 (λV d2=>A.un0 d2 ( A.opt (lenS a1) (λd3=>A.cmp .lss n28 d3 (λd4=>A.cond d4 ( A.opt (lenS a0) (λx38=>A.cmp .lss n28 x38 (λd5=>A.cond d5 ( A.opt (idS 1 a0 n28) (λd6=>A.peek (.lg cc 1 d6) O (λd7=>A.ucI .u8 d7 (λn42 d8=>A.uc0 d8 ( A.cmp .neq n42 (.ofNat 0) (λd9=>A.join (λe0 e1=>A.unI e0 (λe2 e4=>A.unI e4 (λn49 e5=>A.unV e5 (λe6 e7=>A.un0 e7 ( A.ari .add .i64 n28 (.ofNat 1) (λn53=>b9 [(.i n53),(.i e2),(.i n49),(.v e6)] e1)))))) (λa5=>A.cond d9 ( A.opt (idS 2 a1 n28) (λe8=>A.opt (fdP 0 e8) (λa6=>A.chk a6 ( A.peek (.lg cc 1 a6) O (λf0=>A.ucI .i64 f0 (λn58 f1=>A.uc0 f1 ( A.opt (idS 2 a1 n28) (λf2=>A.opt (fdP 1 f2) (λa7=>A.chk a7 ( A.peek (.lg cc 1 a7) O (λf4=>A.ucI .u8 f4 (λf5 f6=>A.uc0 f6 ( A.opt (idS 1 a0 n28) (λf7=>A.peek (.lg cc 1 f7) O (λf8=>A.ucI .u8 f8 (λn67 g0=>A.uc0 g0 ( A.new (.cells [(.int .i64 n58),(.int .u8 f5),(.int .u8 n67)] 3 true) O (λg1 g2=>A.heap (.ap cc 3 16 V (.slice (some ⟨g1,0,(some 13)⟩) 1 2)) g2 (λg4 h72=>A.ucV g4 (λx73 g5=>A.chk x73 ( A.uc0 g5 ( a5 [(.i n30),(.i U),(.v x73)] h72)))))))))))))))))))))) ( a5 [(.i n30),(.i U),(.v V)] O)))))))) ( a4 [(.i n30),(.i U),(.v V)] O)))) ( a4 [(.i n30),(.i U),(.v V)] O))))))))) [(.i (.ofNat 0)),(.i a2),(.i a3),(.v (.slice none 0 0))] h13))))))))
/-- crimp/crimpref05.Ends -/
def f19(ls:List Lf)(h:HT)(K:List Lf->HT->R):R:=A.unI ls (λa4 b6=>A.unI b6 (λp8 b7=>A.unI b7 (λn10 b8=>A.unI b8 (λn12 b9=>A.un0 b9 ( A.ari .quo .i64 n10 (.ofNat 4) (λn14=>A.ari .rem .i64 n14 a4 (λa5=>A.ari .mul .i64 (.ofNat 4) a4 (λn16=>A.ari .quo .i64 n10 n16 (λa6=>A.ari .rem .i64 n10 (.ofNat 4) (λn18=>A.conv .u8 n18 (λn19=>A.call 48 [(.i a5),(.i a6),(.i n19)] h (λc0 c1=>A.unI c0 (λn22 d0=>A.unI d0 (λn24 d1=>A.unI d1 (λa7 d2=>A.unI d2 (λn28 d3=>A.unI d3 (λn30 d4=>A.unI d4 (λa8 d5=>A.un0 d5 ( A.conv .i64 n12 (λd6=>A.call 31 [(.i a5),(.i a6),(.i n19),(.i d6)] c1 (λd7 d8=>A.unI d7 (λn37 d9=>A.unI d9 (λn39 e0=>A.unI e0 (λn41 e1=>A.un0 e1 ( A.call 48 [(.i n37),(.i n39),(.i n41)] d8 (λe2 e4=>A.unI e2 (λe5 e6=>A.unI e6 (λe7 e8=>A.unI e8 (λn49 f0=>A.unI f0 (λn51 f1=>A.unI f1 (λn53 f2=>A.unI f2 (λn55 f4=>A.un0 f4 ( A.loop (λf5 f6 O=>A.unV f6 (λU f7=>A.unI f7 (λV f8=>A.un0 f8 ( A.cmp .lss V (.ofNat 3) (λg0=>A.cond g0 ( A.loop (λg1 g2 a1=>A.unV g2 (λa2 g4=>A.unI g4 (λa0 g5=>A.un0 g5 ( A.cmp .lss a0 (.ofNat 3) (λg6=>A.cond g6 ( A.opt (inB 3 V) (λx73=>A.opt (dn [(.i n22),(.i n24),(.i a7),(.i n28),(.i n30),(.i a8)] 0 [(V,2)] 2) (λx74=>A.unI x74 (λn75 g7=>A.unI g7 (λn77 g8=>A.un0 g8 ( A.opt (inB 3 a0) (λq0=>A.opt (dn [(.i e5),(.i e7),(.i n49),(.i n51),(.i n53),(.i n55)] 0 [(a0,2)] 2) (λh0=>A.unI h0 (λn81 h1=>A.unI h1 (λn83 h2=>A.un0 h2 ( A.eqs [((.i n75),(.i n81)),((.i n77),(.i n83))] (λh4=>A.join (λh5 h87=>A.unV h5 (λh6 h7=>A.un0 h7 ( A.ari .add .i64 a0 (.ofNat 1) (λn90=>g1 [(.v h6),(.i n90)] h87)))) (λa9=>A.cond h4 ( A.opt (inB 3 V) (λq1=>A.opt (dn [(.i n22),(.i n24),(.i a7),(.i n28),(.i n30),(.i a8)] 0 [(V,2)] 2) (λh8=>A.unI h8 (λn94 i0=>A.unI i0 (λn96 i1=>A.un0 i1 ( A.new (.cells [(.int .i64 n94),(.int .i64 n96)] 2 true) a1 (λi2 i4=>A.heap (.ap cc 2 16 a2 (.slice (some ⟨i2,0,(some 12)⟩) 1 2)) i4 (λi5 i6=>A.ucV i5 (λb0 i7=>A.chk b0 ( A.uc0 i7 ( a9 [(.v b0)] i6))))))))))) ( a9 [(.v a2)] a1)))))))))))))) ( A.ari .add .i64 V (.ofNat 1) (λi8=>f5 [(.v a2),(.i i8)] a1))))))) [(.v U),(.i (.ofNat 0))] O) ( A.opt (idS 2 U (.ofNat 1)) (λj0=>A.opt (fdP 0 j0) (λb1=>A.chk b1 ( A.peek (.lg cc 1 b1) O (λj1=>A.ucI .i64 j1 (λj2 j3=>A.uc0 j3 ( A.opt (idS 2 U (.ofNat 0)) (λj4=>A.opt (fdP 0 j4) (λb2=>A.chk b2 ( A.peek (.lg cc 1 b2) O (λj5=>A.ucI .i64 j5 (λn113 j6=>A.uc0 j6 ( A.cmp .lss j2 n113 (λj7=>A.cond j7 ( A.opt (idS 2 U (.ofNat 1)) (λx116=>A.peek (.lg cc 2 x116) O (λj8=>A.ucI .i64 j8 (λn118 j9=>A.ucI .i64 j9 (λn120 k0=>A.uc0 k0 ( A.opt (idS 2 U (.ofNat 0)) (λk1=>A.peek (.lg cc 2 k1) O (λk2=>A.ucI .i64 k2 (λn124 k3=>A.ucI .i64 k3 (λn126 k4=>A.uc0 k4 ( K [(.i n118),(.i n120),(.i n124),(.i n126)] O))))))))))) ( A.opt (idS 2 U (.ofNat 1)) (λk5=>A.opt (fdP 0 k5) (λb3=>A.chk b3 ( A.peek (.lg cc 1 b3) O (λk6=>A.ucI .i64 k6 (λn131 k7=>A.uc0 k7 ( A.opt (idS 2 U (.ofNat 0)) (λk8=>A.opt (fdP 0 k8) (λb4=>A.chk b4 ( A.peek (.lg cc 1 b4) O (λk9=>A.ucI .i64 k9 (λl0 l1=>A.uc0 l1 ( A.cmp .eql n131 l0 (λl2=>A.cond l2 ( A.opt (idS 2 U (.ofNat 1)) (λl3=>A.opt (fdP 1 l3) (λb5=>A.chk b5 ( A.peek (.lg cc 1 b5) O (λl4=>A.ucI .i64 l4 (λn142 l5=>A.uc0 l5 ( A.opt (idS 2 U (.ofNat 0)) (λl6=>A.opt (fdP 1 l6) (λx145=>A.chk x145 ( A.peek (.lg cc 1 x145) O (λl7=>A.ucI .i64 l7 (λl8 l9=>A.uc0 l9 ( A.cmp .lss n142 l8 (λm0=>A.join (λm1 a3=>A.un0 m1 ( A.opt (idS 2 U (.ofNat 0)) (λm2=>A.peek (.lg cc 2 m2) a3 (λm3=>A.ucI .i64 m3 (λm4 m5=>A.ucI .i64 m5 (λn156 m6=>A.uc0 m6 ( A.opt (idS 2 U (.ofNat 1)) (λm7=>A.peek (.lg cc 2 m7) a3 (λm8=>A.ucI .i64 m8 (λn160 m9=>A.ucI .i64 m9 (λn162 n0=>A.uc0 n0 ( K [(.i m4),(.i n156),(.i n160),(.i n162)] a3)))))))))))) (λn1=>A.cond m0 ( A.opt (idS 2 U (.ofNat 1)) (λn2=>A.peek (.lg cc 2 n2) O (λn4=>A.ucI .i64 n4 (λn5 n6=>A.ucI .i64 n6 (λn7 n8=>A.uc0 n8 ( A.opt (idS 2 U (.ofNat 0)) (λo0=>A.peek (.lg cc 2 o0) O (λo1=>A.ucI .i64 o1 (λo2 o3=>A.ucI .i64 o3 (λn175 o4=>A.uc0 o4 ( K [(.i n5),(.i n7),(.i o2),(.i n175)] O))))))))))) ( n1 [] O)))))))))))))))) ( A.opt (idS 2 U (.ofNat 0)) (λo5=>A.peek (.lg cc 2 o5) O (λo6=>A.ucI .i64 o6 (λo7 o8=>A.ucI .i64 o8 (λo9 p0=>A.uc0 p0 ( A.opt (idS 2 U (.ofNat 1)) (λp1=>A.peek (.lg cc 2 p1) O (λp2=>A.ucI .i64 p2 (λp4 p5=>A.ucI .i64 p5 (λp6 p7=>A.uc0 p7 ( K [(.i o7),(.i o9),(.i p4),(.i p6)] O)))))))))))))))))))))))))))))))))))))))))))) [(.v (.slice none 0 0)),(.i (.ofNat 0))] e4)))))))))))))))))))))))))))))))))
/-- crimp/places.Open -/
def f20(ls:List Lf)(h:HT)(K:List Lf->HT->R):R:=A.unI ls (λa3 a4=>A.unI a4 (λa5 a6=>A.unV a6 (λa7 a8=>A.un0 a8 ( A.new (.cells [(.int .i64 a3),(.int .i64 a5),a7] 3 true) h (λO h13=>A.peek (.lg cc 3 (.pointer (some ⟨O,0,none⟩))) h13 (λa9=>A.ucI .i64 a9 (λb0 b1=>A.ucI .i64 b1 (λb2 b3=>A.ucV b3 (λV b4=>A.chk V ( A.uc0 b4 ( A.call 49 [(.i b0),(.i b2),(.v V)] h13 (λb5 h22=>A.unI b5 (λa0 b6=>A.un0 b6 ( A.cmp .neq a0 (.ofNat 0) (λb7=>A.cond b7 ( K [(.i (.ofNat 0)),(.i (.ofNat 0)),(.b false),(.i a0)] h22) ( A.opt (fdP 0 (.pointer (some ⟨O,0,none⟩))) (λa1=>A.chk a1 ( A.peek (.lg cc 2 a1) h22 (λb8=>A.ucI .i64 b8 (λn28 b9=>A.ucI .i64 b9 (λn30 c0=>A.uc0 c0 ( A.call 50 [(.i n28),(.i n30)] h22 (λc1 d0=>A.unV c1 (λa2 d1=>A.unI d1 (λn36 d2=>A.un0 d2 ( A.chk (.func (.func 52) ⟨[]⟩ ⟨[(.pointer (some ⟨O,0,none⟩))]⟩) ( A.call 51 [(.v a2),(.v (.func (.func 52) ⟨[]⟩ ⟨[(.pointer (some ⟨O,0,none⟩))]⟩))] d0 (λd3 U=>A.unI d3 (λn40 d4=>A.un0 d4 ( A.cmp .geq n40 (.ofNat 0) (λd5=>A.cond d5 ( A.opt (idS 2 a2 n40) (λd6=>A.peek (.lg cc 2 d6) U (λd7=>A.ucI .i64 d7 (λd8 d9=>A.ucI .i64 d9 (λe0 e1=>A.uc0 e1 ( K [(.i d8),(.i e0),(.b true),(.i (.ofNat 0))] U)))))) ( K [(.i (.ofNat 0)),(.i (.ofNat 0)),(.b false),(.i (.ofNat 0))] U))))))))))))))))))))))))))))))))
/-- crimp/places.Places -/
def f21(ls:List Lf)(h:HT)(K:List Lf->HT->R):R:=A.unI ls (λO U=>A.unI U (λV a0=>A.unV a0 (λa1 a2=>A.unI a2 (λn12 a3=>A.unI a3 (λn14 a4=>A.unI a4 (λn16 a5=>A.un0 a5 ( A.call 53 [(.i O),(.i V),(.v a1),(.i n12),(.i n14),(.i n16)] h (λa6 a7=>A.unV a6 (λa8 a9=>A.unV a9 (λb2 b0=>A.unI b0 (λn24 b1=>A.un0 b1 ( K [(.v a8),(.i n24)] a7))))))))))))
/-- crimp/moves.Identity -/
def f22(ls:List Lf)(h:HT)(K:List Lf->HT->R):R:=A.un0 ls ( K [(.i (.ofNat 0)),(.i (.ofNat 0)),(.i (.ofNat 0))] h)
/-- crimp/moves.Then -/
def f24(ls:List Lf)(h:HT)(K:List Lf->HT->R):R:=A.unI ls (λO a1=>A.unI a1 (λU a2=>A.unI a2 (λn10 a3=>A.unI a3 (λn12 a4=>A.unI a4 (λn14 a5=>A.unI a5 (λn16 a6=>A.un0 a6 ( A.call 54 [(.i O),(.i U),(.i n10)] h (λa7 V=>A.unI a7 (λn20 a8=>A.un0 a8 ( A.cmp .neq n20 (.ofNat 0) (λa9=>A.cond a9 ( K [(.i (.ofNat 0)),(.i (.ofNat 0)),(.i (.ofNat 0)),(.i (.ofNat 1))] V) ( A.call 54 [(.i n12),(.i n14),(.i n16)] V (λb0 a0=>A.unI b0 (λb1 b2=>A.un0 b2 ( A.cmp .neq b1 (.ofNat 0) (λb3=>A.cond b3 ( K [(.i (.ofNat 0)),(.i (.ofNat 0)),(.i (.ofNat 0)),(.i (.ofNat 1))] a0) ( A.opt (inB 8 n12) (λg7=>A.opt (lW gl1 0 [(n12,4)] 4) (λb4=>A.ucI .i64 b4 (λn30 b5=>A.ucI .i64 b5 (λb6 b7=>A.ucI .i64 b7 (λb8 b9=>A.ucI .i64 b9 (λn36 c0=>A.uc0 c0 ( A.call 55 [(.i n30),(.i b6),(.i b8),(.i n36),(.i U),(.i n10)] a0 (λc1 d0=>A.unI c1 (λn40 d1=>A.unI d1 (λn42 d2=>A.un0 d2 ( A.opt (inB 8 O) (λg8=>A.opt (lW gl1 0 [(O,4)] 4) (λd3=>A.ucI .i64 d3 (λd4 d5=>A.ucI .i64 d5 (λn48 d6=>A.ucI .i64 d6 (λn50 d7=>A.ucI .i64 d7 (λn52 d8=>A.uc0 d8 ( A.opt (inB 8 n12) (λh0=>A.opt (lW gl1 0 [(n12,4)] 4) (λd9=>A.ucI .i64 d9 (λn56 e0=>A.ucI .i64 e0 (λn58 e1=>A.ucI .i64 e1 (λe2 e4=>A.ucI .i64 e4 (λe5 e6=>A.uc0 e6 ( A.call 58 [(.i d4),(.i n48),(.i n50),(.i n52),(.i n56),(.i n58),(.i e2),(.i e5)] d0 (λe7 e8=>A.unI e7 (λn66 f0=>A.unI f0 (λn68 f1=>A.unI f1 (λf2 f4=>A.unI f4 (λn72 f5=>A.un0 f5 ( A.call 57 [(.i n66),(.i n68),(.i f2),(.i n72)] e8 (λf6 h75=>A.unI f6 (λn76 f7=>A.un0 f7 ( A.ari .add .i64 n40 n14 (λn78=>A.ari .add .i64 n42 n16 (λn79=>A.call 56 [(.i n76),(.i n78),(.i n79)] h75 (λf8 g0=>A.unI f8 (λn82 g1=>A.unI g1 (λg2 g4=>A.unI g4 (λn86 g5=>A.unI g5 (λn88 g6=>A.un0 g6 ( K [(.i n82),(.i g2),(.i n86),(.i n88)] g0)))))))))))))))))))))))))))))))))))))))))))))))))))))))))))
/-- crimp/places.Images -/
def f28(ls:List Lf)(h:HT)(K:List Lf->HT->R):R:=A.unI ls (λO U=>A.unI U (λV a0=>A.unV a0 (λa1 a2=>A.unI a2 (λn12 a3=>A.unI a3 (λn14 a4=>A.unI a4 (λn16 a5=>A.un0 a5 ( A.call 53 [(.i O),(.i V),(.v a1),(.i n12),(.i n14),(.i n16)] h (λa6 a7=>A.unV a6 (λb2 a8=>A.unV a8 (λa9 b0=>A.unI b0 (λn24 b1=>A.un0 b1 ( K [(.v a9),(.i n24)] a7))))))))))))
/-- crimp/crimpref05.Neighbour -/
def f30(ls:List Lf)(h:HT)(K:List Lf->HT->R):R:=A.unI ls (λO U=>A.unI U (λV a0=>A.unI a0 (λn10 a1=>A.unI a1 (λn12 a2=>A.un0 a2 ( A.ari .quo .i64 n10 (.ofNat 4) (λn14=>A.ari .rem .i64 n14 O (λa3=>A.ari .mul .i64 (.ofNat 4) O (λn16=>A.ari .quo .i64 n10 n16 (λa4=>A.ari .rem .i64 n10 (.ofNat 4) (λn18=>A.conv .u8 n18 (λn19=>A.call 31 [(.i a3),(.i a4),(.i n19),(.i n12)] h (λa5 a6=>A.unI a5 (λn22 a7=>A.unI a7 (λn24 a8=>A.unI a8 (λa9 b0=>A.un0 b0 ( A.call 66 [(.i O),(.i V),(.i n22),(.i n24),(.i a9)] a6 (λb1 b2=>A.unI b1 (λn30 b3=>A.un0 b3 ( K [(.i n30)] b2)))))))))))))))))))
/-- crimp/crimpref03.Neighbour -/
def f31(ls:List Lf)(h:HT)(K:List Lf->HT->R):R:=A.unI ls (λV a2=>A.unI a2 (λa0 a3=>A.unI a3 (λn10 a4=>A.unI a4 (λn12 a5=>A.un0 a5 ( A.call 67 [(.i V),(.i a0),(.i n10),(.i n12)] h (λa6 a7=>A.unI a6 (λn16 a8=>A.unI a8 (λn18 a9=>A.un0 a9 ( A.call 48 [(.i V),(.i a0),(.i n10)] a7 (λb0 b1=>A.unI b0 (λn22 b2=>A.unI b2 (λn24 b3=>A.unI b3 (λb4 b5=>A.unI b5 (λn28 b6=>A.unI b6 (λn30 b7=>A.unI b7 (λb8 b9=>A.un0 b9 ( A.loop (λc0 c1 a1=>A.unI c1 (λn37 d0=>A.unI d0 (λn39 d1=>A.unI d1 (λn41 d2=>A.unI d2 (λn43 d3=>A.unI d3 (λO d4=>A.unI d4 (λU d5=>A.unI d5 (λn49 d6=>A.un0 d6 ( A.cmp .lss n37 (.ofNat 3) (λd7=>A.cond d7 ( A.opt (inB 3 n37) (λg6=>A.opt (dn [(.i n39),(.i n41),(.i n43),(.i O),(.i U),(.i n49)] 0 [(n37,2)] 2) (λd8=>A.unI d8 (λn54 d9=>A.unI d9 (λn56 e0=>A.un0 e0 ( A.call 68 [(.i n16),(.i n18),(.i n54),(.i n56)] a1 (λe1 e2=>A.unI e1 (λe4 e5=>A.unI e5 (λe6 e7=>A.un0 e7 ( A.opt (inB 3 n37) (λg7=>A.opt (putL [(.i n39),(.i n41),(.i n43),(.i O),(.i U),(.i n49)] 0 [(n37,2)] [(.i e4),(.i e6)]) (λe8=>A.unI e8 (λn66 f0=>A.unI f0 (λn68 f1=>A.unI f1 (λf2 f4=>A.unI f4 (λn72 f5=>A.unI f5 (λn74 f6=>A.unI f6 (λn76 f7=>A.un0 f7 ( A.ari .add .i64 n37 (.ofNat 1) (λn78=>c0 [(.i n78),(.i n66),(.i n68),(.i f2),(.i n72),(.i n74),(.i n76)] e2)))))))))))))))))))) ( A.call 69 [(.i n39),(.i n41),(.i n43),(.i O),(.i U),(.i n49)] a1 (λf8 g0=>A.unI f8 (λn81 g1=>A.unI g1 (λn83 g2=>A.unI g2 (λg4 g5=>A.un0 g5 ( K [(.i n81),(.i n83),(.i g4)] g0)))))))))))))))) [(.i (.ofNat 0)),(.i n22),(.i n24),(.i b4),(.i n28),(.i n30),(.i b8)] b1)))))))))))))))))
/-- crimp/places.Depth -/
def f35(ls:List Lf)(h:HT)(K:List Lf->HT->R):R:=A.unI ls (λa3 a4=>A.unI a4 (λa5 a6=>A.unV a6 (λa7 a8=>A.unI a8 (λn12 a9=>A.unI a9 (λn14 b0=>A.unI b0 (λn16 b1=>A.un0 b1 ( A.call 28 [(.i a3),(.i a5),(.v a7),(.i n12),(.i n14),(.i n16)] h (λb2 a0=>A.unV b2 (λa1 b3=>A.unI b3 (λn22 b4=>A.un0 b4 ( A.cmp .neq n22 (.ofNat 0) (λb5=>A.cond b5 ( K [(.i (.ofNat 0)),(.i n22)] a0) ( A.new (.map [] 0) a0 (λO b6=>A.opt (lenS a1) (λb7=>A.loop (λb8 b9 U=>A.unI b9 (λn31 c0=>A.unI c0 (λV c1=>A.un0 c1 ( A.cmp .lss V b7 (λd0=>A.cond d0 ( A.opt (idS 3 a1 V) (λd1=>A.peek (.lg cc 3 d1) U (λd2=>A.ucI .i64 d2 (λn38 d3=>A.ucI .i64 d3 (λn40 d4=>A.ucI .u8 d4 (λn42 d5=>A.uc0 d5 ( A.peek (.fn (luG cc 87 false (.int .i64 (.ofNat 0)) (.map (some O)) (.agg ⟨[(.int .i64 n38),(.int .i64 n40),(.int .u8 n42)]⟩) false)) U (λd6=>A.ucI .i64 d6 (λd7 d8=>A.uc0 d8 ( A.ari .add .i64 d7 (.ofNat 1) (λd9=>A.heap (.fn (meG cc 87 false (.int .i64 (.ofNat 0)) (.map (some O)) (.agg ⟨[(.int .i64 n38),(.int .i64 n40),(.int .u8 n42)]⟩))) U (λe0 h49=>A.ucI .i64 e0 (λn50 e1=>A.ucI .i64 e1 (λn52 e2=>A.uc0 e2 ( A.heap (.fn (esG (.map (some O)) n52 (.int .i64 d9))) h49 (λf0 a2=>A.peek (.fn (luG cc 87 false (.int .i64 (.ofNat 0)) (.map (some O)) (.agg ⟨[(.int .i64 n38),(.int .i64 n40),(.int .u8 n42)]⟩) false)) a2 (λe4=>A.ucI .i64 e4 (λn57 e5=>A.uc0 e5 ( A.cmp .lss n31 n57 (λe6=>A.sel e6 n57 n31 (λe7=>A.ari .add .i64 V (.ofNat 1) (λe8=>b8 [(.i e7),(.i e8)] a2)))))))))))))))))))))) ( K [(.i n31),(.i (.ofNat 0))] U)))))) [(.i (.ofNat 0)),(.i (.ofNat 0))] b6)))))))))))))))
/-- crimp/crimpref09.Dir -/
def f36(ls:List Lf)(h:HT)(K:List Lf->HT->R):R:=A.unI ls (λa5 a6=>A.unI a6 (λa7 a8=>A.unI a8 (λn10 a9=>A.unI a9 (λn12 b0=>A.un0 b0 ( A.ari .sub .i64 n10 a5 (λn14=>A.ari .sub .i64 n12 a7 (λO=>A.cmp .eql O (.ofNat 0) (λb1=>A.cond b1 ( A.cmp .gtr n14 (.ofNat 0) (λb2=>A.join (λb3 U=>A.un0 b3 ( A.cmp .eql O (.ofNat 0) (λb4=>A.cond b4 ( K [(.i (.ofNat 4))] U) ( A.cmp .eql n14 (.ofNat 0) (λb5=>A.cond b5 ( A.cmp .gtr O (.ofNat 0) (λb6=>A.join (λb7 V=>A.un0 b7 ( A.cmp .eql n14 (.ofNat 0) (λb8=>A.cond b8 ( K [(.i (.ofNat 6))] V) ( A.cmp .gtr n14 (.ofNat 0) (λb9=>A.cond b9 ( A.cmp .gtr O (.ofNat 0) (λc0=>A.join (λc1 a1=>A.un0 c1 ( A.cmp .gtr O (.ofNat 0) (λd0=>A.cond d0 ( K [(.i (.ofNat 3))] a1) ( A.cmp .lss n14 (.ofNat 0) (λd1=>A.cond d1 ( K [(.i (.ofNat 5))] a1) ( K [(.i (.ofNat 7))] a1)))))) (λd2=>A.cond c0 ( K [(.i (.ofNat 1))] V) ( d2 [] V)))) ( A.cmp .gtr O (.ofNat 0) (λd3=>A.cond d3 ( K [(.i (.ofNat 3))] V) ( A.cmp .lss n14 (.ofNat 0) (λd4=>A.cond d4 ( K [(.i (.ofNat 5))] V) ( K [(.i (.ofNat 7))] V)))))))))) (λd5=>A.cond b6 ( K [(.i (.ofNat 2))] U) ( d5 [] U)))) ( A.cmp .eql n14 (.ofNat 0) (λd6=>A.cond d6 ( K [(.i (.ofNat 6))] U) ( A.cmp .gtr n14 (.ofNat 0) (λd7=>A.cond d7 ( A.cmp .gtr O (.ofNat 0) (λd8=>A.join (λd9 a2=>A.un0 d9 ( A.cmp .gtr O (.ofNat 0) (λe0=>A.cond e0 ( K [(.i (.ofNat 3))] a2) ( A.cmp .lss n14 (.ofNat 0) (λe1=>A.cond e1 ( K [(.i (.ofNat 5))] a2) ( K [(.i (.ofNat 7))] a2)))))) (λe2=>A.cond d8 ( K [(.i (.ofNat 1))] U) ( e2 [] U)))) ( A.cmp .gtr O (.ofNat 0) (λe4=>A.cond e4 ( K [(.i (.ofNat 3))] U) ( A.cmp .lss n14 (.ofNat 0) (λe5=>A.cond e5 ( K [(.i (.ofNat 5))] U) ( K [(.i (.ofNat 7))] U)))))))))))))) (λe6=>A.cond b2 ( K [(.i (.ofNat 0))] h) ( e6 [] h)))) ( A.cmp .eql O (.ofNat 0) (λe7=>A.cond e7 ( K [(.i (.ofNat 4))] h) ( A.cmp .eql n14 (.ofNat 0) (λe8=>A.cond e8 ( A.cmp .gtr O (.ofNat 0) (λf0=>A.join (λf1 a0=>A.un0 f1 ( A.cmp .eql n14 (.ofNat 0) (λf2=>A.cond f2 ( K [(.i (.ofNat 6))] a0) ( A.cmp .gtr n14 (.ofNat 0) (λf4=>A.cond f4 ( A.cmp .gtr O (.ofNat 0) (λf5=>A.join (λf6 a3=>A.un0 f6 ( A.cmp .gtr O (.ofNat 0) (λf7=>A.cond f7 ( K [(.i (.ofNat 3))] a3) ( A.cmp .lss n14 (.ofNat 0) (λf8=>A.cond f8 ( K [(.i (.ofNat 5))] a3) ( K [(.i (.ofNat 7))] a3)))))) (λg0=>A.cond f5 ( K [(.i (.ofNat 1))] a0) ( g0 [] a0)))) ( A.cmp .gtr O (.ofNat 0) (λg1=>A.cond g1 ( K [(.i (.ofNat 3))] a0) ( A.cmp .lss n14 (.ofNat 0) (λg2=>A.cond g2 ( K [(.i (.ofNat 5))] a0) ( K [(.i (.ofNat 7))] a0)))))))))) (λg4=>A.cond f0 ( K [(.i (.ofNat 2))] h) ( g4 [] h)))) ( A.cmp .eql n14 (.ofNat 0) (λg5=>A.cond g5 ( K [(.i (.ofNat 6))] h) ( A.cmp .gtr n14 (.ofNat 0) (λg6=>A.cond g6 ( A.cmp .gtr O (.ofNat 0) (λg7=>A.join (λg8 a4=>A.un0 g8 ( A.cmp .gtr O (.ofNat 0) (λh0=>A.cond h0 ( K [(.i (.ofNat 3))] a4) ( A.cmp .lss n14 (.ofNat 0) (λh1=>A.cond h1 ( K [(.i (.ofNat 5))] a4) ( K [(.i (.ofNat 7))] a4)))))) (λh2=>A.cond g7 ( K [(.i (.ofNat 1))] h) ( h2 [] h)))) ( A.cmp .gtr O (.ofNat 0) (λh4=>A.cond h4 ( K [(.i (.ofNat 3))] h) ( A.cmp .lss n14 (.ofNat 0) (λh5=>A.cond h5 ( K [(.i (.ofNat 5))] h) ( K [(.i (.ofNat 7))] h)))))))))))))))))))))
/-- crimp/corners.Creases -/
def f37(ls:List Lf)(h:HT)(K:List Lf->HT->R):R:=A.unI ls (λb0 b1=>A.unI b1 (λb2 b3=>A.unV b3 (λb4 b5=>A.unI b5 (λn12 b6=>A.unI b6 (λn14 b7=>A.un0 b7 ( A.new (.cells [(.int .i64 b0),(.int .i64 b2),b4] 3 true) h (λO a1=>A.peek (.lg cc 3 (.pointer (some ⟨O,0,none⟩))) a1 (λb8=>A.ucI .i64 b8 (λn19 b9=>A.ucI .i64 b9 (λn21 c0=>A.ucV c0 (λa2 c1=>A.chk a2 ( A.uc0 c1 ( A.call 49 [(.i n19),(.i n21),(.v a2)] a1 (λd0 U=>A.unI d0 (λa3 d1=>A.un0 d1 ( A.cmp .neq a3 (.ofNat 0) (λd2=>A.cond d2 ( K [(.v (.slice none 0 0)),(.i a3)] U) ( A.opt (fdP 0 (.pointer (some ⟨O,0,none⟩))) (λa4=>A.chk a4 ( A.peek (.lg cc 2 a4) U (λd3=>A.ucI .i64 d3 (λd4 d5=>A.ucI .i64 d5 (λd6 d7=>A.uc0 d7 ( A.call 71 [(.i d4),(.i d6),(.i n12),(.i n14)] U (λd8 h37=>A.unI d8 (λn38 d9=>A.un0 d9 ( A.cmp .neq n38 (.ofNat 0) (λe0=>A.cond e0 ( K [(.v (.slice none 0 0)),(.i n38)] h37) ( A.new (.cells [(.slice none 0 0)] 1 true) h37 (λV a5=>A.opt (fdP 0 (.pointer (some ⟨O,0,none⟩))) (λa6=>A.chk a6 ( A.peek (.lg cc 2 a6) a5 (λe1=>A.ucI .i64 e1 (λe2 e4=>A.ucI .i64 e4 (λe5 e6=>A.uc0 e6 ( A.call 72 [(.i e2),(.i e5),(.i n12),(.i n14)] a5 (λe7 e8=>A.unV e7 (λf0 f1=>A.un0 f1 ( A.rfun 592 f0 [(.pointer (some ⟨O,0,none⟩)),(.pointer (some ⟨V,0,none⟩))] e8 (λf2 a0=>A.pend f2 ( A.peek (.lg cc 1 (.pointer (some ⟨V,0,none⟩))) a0 (λf4=>A.ucV f4 (λa7 f5=>A.chk a7 ( A.uc0 f5 ( A.call 74 [(.v a7),(.v (.func (.func 75) ⟨[]⟩ ⟨[]⟩))] a0 (λf6 a8=>A.un0 f6 ( A.peek (.lg cc 1 (.pointer (some ⟨V,0,none⟩))) a8 (λf7=>A.ucV f7 (λa9 f8=>A.chk a9 ( A.uc0 f8 ( A.call 76 [(.v a9)] a8 (λg0 g1=>A.unV g0 (λg2 g4=>A.un0 g4 ( K [(.v g2),(.i (.ofNat 0))] g1)))))))))))))) ( K [(.v (.slice none 0 0)),(.i (.ofNat 0))] a0) []))))))))))))))))))))))))))))))))))))))))
/-- (*crimp/places.chain).add -/
def f38(ls:List Lf)(h:HT)(K:List Lf->HT->R):R:=A.unV ls (λO a2=>A.unI a2 (λa3 a4=>A.unI a4 (λn10 a5=>A.un0 a5 ( A.call 77 [(.i a3),(.i n10)] h (λa6 h13=>A.unI a6 (λn14 a7=>A.unI a7 (λn16 a8=>A.unI a8 (λn18 a9=>A.unI a9 (λn20 b0=>A.un0 b0 ( A.opt (nilP O) (λU=>A.chk U ( A.opt (fdP 0 U) (λV=>A.chk V ( A.peek (.lg cc 3 V) h13 (λb1=>A.ucI .u8 b1 (λb2 b3=>A.ucI .i64 b3 (λb4 b5=>A.ucI .i64 b5 (λb6 b7=>A.uc0 b7 ( A.call 24 [(.i b2),(.i b4),(.i b6),(.i n14),(.i n16),(.i n18)] h13 (λb8 b9=>A.unI b8 (λc0 c1=>A.unI c1 (λn35 d0=>A.unI d0 (λn37 d1=>A.unI d1 (λn39 d2=>A.un0 d2 ( A.opt (nilP O) (λa0=>A.chk a0 ( A.opt (fdP 0 a0) (λa1=>A.chk a1 ( A.heap (.st a1 [(.int .u8 c0),(.int .i64 n35),(.int .i64 n37)]) b9 (λd4 d3=>K [] d3))))))))))))))))))))))))))))))
/-- crimp/lines.Through -/
def f39(ls:List Lf)(h:HT)(K:List Lf->HT->R):R:=A.unI ls (λO a3=>A.unI a3 (λU a4=>A.unI a4 (λn10 a5=>A.un0 a5 ( A.cmp .lss O (.ofNat 1) (λa6=>A.cond a6 ( K [(.i (.ofNat 0)),(.i (.ofNat 0)),(.i (.ofNat 1))] h) ( A.cmp .gtr O (.ofNat 4) (λa7=>A.cond a7 ( K [(.i (.ofNat 0)),(.i (.ofNat 0)),(.i (.ofNat 1))] h) ( A.call 78 [(.i U),(.i n10)] h (λa8 V=>A.unI a8 (λn16 a9=>A.un0 a9 ( A.cmp .neq n16 (.ofNat 0) (λb0=>A.cond b0 ( K [(.i (.ofNat 0)),(.i (.ofNat 0)),(.i (.ofNat 1))] V) ( A.call 79 [(.i O),(.i U),(.i n10)] V (λb1 a0=>A.unI b1 (λn21 b2=>A.un0 b2 ( A.ari .quo .i64 n21 (.ofNat 2) (λa1=>A.ari .rem .i64 n21 (.ofNat 2) (λn24=>A.cmp .neq n24 (.ofNat 0) (λb3=>A.cond b3 ( K [(.i (.ofNat 0)),(.i (.ofNat 0)),(.i (.ofNat 7))] a0) ( A.call 80 [(.i O),(.i a1)] a0 (λb4 a2=>A.unI b4 (λn28 b5=>A.un0 b5 ( A.cmp .neq n28 (.ofNat 0) (λb6=>A.cond b6 ( K [(.i (.ofNat 0)),(.i (.ofNat 0)),(.i (.ofNat 3))] a2) ( K [(.i O),(.i a1),(.i (.ofNat 0))] a2)))))))))))))))))))))))))
/-- crimp/crimpref01.Across -/
def f40(ls:List Lf)(h:HT)(K:List Lf->HT->R):R:=A.unI ls (λO U=>A.un0 U ( A.cmp .eql O (.ofNat 1) (λV=>A.cond V ( K [(.i (.ofNat 1)),(.i (.ofNat 0))] h) ( A.cmp .eql O (.ofNat 2) (λa0=>A.cond a0 ( K [(.i (.ofNat 0)),(.i (.ofNat 1))] h) ( A.cmp .eql O (.ofNat 3) (λa1=>A.cond a1 ( K [(.i (.ofNat 1)),(.i (.ofNat 1))] h) ( K [(.i (.negSucc 0)),(.i (.ofNat 1))] h))))))))
/-- crimp/crimpref02.Then -/
def f41(ls:List Lf)(h:HT)(K:List Lf->HT->R):R:=A.unI ls (λO V=>A.unI V (λU a0=>A.unI a0 (λn10 a1=>A.unI a1 (λn12 a2=>A.unI a2 (λn14 a3=>A.unI a3 (λn16 a4=>A.un0 a4 ( A.call 82 [(.i O),(.i U),(.i n10),(.i (.ofNat 0)),(.i (.ofNat 0))] h (λa5 a6=>A.unI a5 (λn20 a7=>A.unI a7 (λn22 a8=>A.un0 a8 ( A.call 82 [(.i n12),(.i n14),(.i n16),(.i n20),(.i n22)] a6 (λa9 b0=>A.unI a9 (λb1 b2=>A.unI b2 (λn28 b3=>A.un0 b3 ( A.call 82 [(.i O),(.i U),(.i n10),(.i (.ofNat 2)),(.i (.ofNat 0))] b0 (λb4 b5=>A.unI b4 (λb6 b7=>A.unI b7 (λb8 b9=>A.un0 b9 ( A.call 82 [(.i n12),(.i n14),(.i n16),(.i b6),(.i b8)] b5 (λc0 h37=>A.unI c0 (λn38 c1=>A.unI c1 (λn40 d0=>A.un0 d0 ( A.call 82 [(.i O),(.i U),(.i n10),(.i (.ofNat 0)),(.i (.ofNat 2))] h37 (λd1 d2=>A.unI d1 (λn44 d3=>A.unI d3 (λd4 d5=>A.un0 d5 ( A.call 82 [(.i n12),(.i n14),(.i n16),(.i n44),(.i d4)] d2 (λd6 h49=>A.unI d6 (λn50 d7=>A.unI d7 (λn52 d8=>A.un0 d8 ( A.call 81 [(.i b1),(.i n28),(.i n38),(.i n40),(.i n50),(.i n52)] h49 (λd9 e0=>A.unI d9 (λn56 e1=>A.unI e1 (λn58 e2=>A.unI e2 (λe4 e5=>A.un0 e5 ( K [(.i n56),(.i n58),(.i e4)] e0))))))))))))))))))))))))))))))))))))
/-- crimp/crimpref02.Of -/
def f42(ls:List Lf)(h:HT)(K:List Lf->HT->R):R:=A.unI ls (λO V=>A.unI V (λU a0=>A.un0 a0 ( A.call 68 [(.i O),(.i U),(.i (.ofNat 0)),(.i (.ofNat 0))] h (λa1 h11=>A.unI a1 (λn12 a2=>A.unI a2 (λn14 a3=>A.un0 a3 ( A.call 68 [(.i O),(.i U),(.i (.ofNat 2)),(.i (.ofNat 0))] h11 (λa4 a5=>A.unI a4 (λn18 a6=>A.unI a6 (λn20 a7=>A.un0 a7 ( A.call 68 [(.i O),(.i U),(.i (.ofNat 0)),(.i (.ofNat 2))] a5 (λa8 a9=>A.unI a8 (λn24 b0=>A.unI b0 (λb1 b2=>A.un0 b2 ( A.call 81 [(.i n12),(.i n14),(.i n18),(.i n20),(.i n24),(.i b1)] a9 (λb3 b4=>A.unI b3 (λn30 b5=>A.unI b5 (λb6 b7=>A.unI b7 (λb8 b9=>A.un0 b9 ( K [(.i n30),(.i b6),(.i b8)] b4))))))))))))))))))))
/-- crimp/crimplaw10.pattern -/
def f43(ls:List Lf)(h:HT)(K:List Lf->HT->R):R:=A.unI ls (λO U=>A.unI U (λV a0=>A.unV a0 (λa1 a2=>A.un0 a2 ( A.call 83 [(.i O),(.i V),(.v a1)] h (λa3 h13=>A.unI a3 (λn14 a4=>A.unI a4 (λn16 a5=>A.unV a5 (λx18 a6=>A.unI a6 (λn20 a7=>A.unI a7 (λn22 a8=>A.un0 a8 ( K [(.i n14),(.i n16),(.v x18)] h13)))))))))))
/-- crimp/crimplaw10.segment -/
def f44(ls:List Lf)(h:HT)(K:List Lf->HT->R):R:=A.unI ls (λO U=>A.unI U (λV a0=>A.unI a0 (λn10 a1=>A.unI a1 (λn12 a2=>A.un0 a2 ( K [(.i (.ofNat 1)),(.i O),(.i V),(.i n10),(.i n12)] h)))))
/-- crimp/crimpref03.Corners -/
def f48(ls:List Lf)(h:HT)(K:List Lf->HT->R):R:=A.unI ls (λa1 a2=>A.unI a2 (λa3 a4=>A.unI a4 (λn10 a5=>A.un0 a5 ( A.ari .mul .i64 (.ofNat 2) a1 (λn12=>A.ari .mul .i64 (.ofNat 2) a3 (λn13=>A.ari .add .i64 n12 (.ofNat 2) (λn14=>A.ari .add .i64 n12 (.ofNat 2) (λO=>A.ari .add .i64 n13 (.ofNat 2) (λn16=>A.ari .add .i64 n13 (.ofNat 2) (λU=>A.conv .i64 n10 (λn18=>A.conv .i64 n10 (λn19=>A.ari .add .i64 n19 (.ofNat 1) (λn20=>A.ari .rem .i64 n20 (.ofNat 4) (λn21=>A.ari .rem .i64 n18 (.ofNat 2) (λn22=>A.cmp .eql n22 (.ofNat 1) (λa6=>A.join (λa7 a8=>A.unI a7 (λV a9=>A.unI a9 (λn28 b0=>A.un0 b0 ( A.ari .add .i64 n12 (.ofNat 1) (λn30=>A.ari .add .i64 n13 (.ofNat 1) (λn31=>A.opt (inB 4 V) (λb8=>A.opt (dn [(.i n12),(.i n13),(.i n14),(.i n13),(.i O),(.i n16),(.i n12),(.i U)] 0 [(V,2)] 2) (λb1=>A.unI b1 (λb2 b3=>A.unI b3 (λn36 b4=>A.un0 b4 ( A.opt (inB 4 n28) (λx38=>A.opt (dn [(.i n12),(.i n13),(.i n14),(.i n13),(.i O),(.i n16),(.i n12),(.i U)] 0 [(n28,2)] 2) (λb5=>A.unI b5 (λn40 b6=>A.unI b6 (λn42 b7=>A.un0 b7 ( K [(.i n30),(.i n31),(.i b2),(.i n36),(.i n40),(.i n42)] a8)))))))))))))))) (λa0=>A.cond a6 ( a0 [(.i n21),(.i n18)] h) ( a0 [(.i n18),(.i n21)] h))))))))))))))))))
/-- crimp/patterns.Check -/
def f49(ls:List Lf)(h:HT)(K:List Lf->HT->R):R:=A.unI ls (λa1 a6=>A.unI a6 (λa2 a7=>A.unV a7 (λO a8=>A.un0 a8 ( A.call 86 [(.i a1),(.i a2)] h (λa9 h13=>A.unI a9 (λn14 b0=>A.un0 b0 ( A.cmp .neq n14 (.ofNat 0) (λb1=>A.cond b1 ( K [(.i n14)] h13) ( A.call 87 [(.v O),(.v (.func (.func 88) ⟨[]⟩ ⟨[]⟩))] h13 (λb2 h18=>A.unB b2 (λb3 b4=>A.un0 b4 ( A.cond b3 ( K [(.i (.ofNat 1))] h18) ( A.opt (lenS O) (λb5=>A.loop (λb6 b7 U=>A.unI b7 (λV b8=>A.un0 b8 ( A.cmp .lss V b5 (λb9=>A.cond b9 ( A.opt (idS 3 O V) (λc0=>A.peek (.lg cc 3 c0) U (λc1=>A.ucI .i64 c1 (λn30 d0=>A.ucI .u8 d0 (λa3 d1=>A.ucI .u8 d1 (λd2 d3=>A.uc0 d3 ( A.call 90 [(.i a1),(.i a2),(.i n30),(.i a3)] U (λd4 h37=>A.unI d4 (λn38 d5=>A.unI d5 (λn40 d6=>A.unI d6 (λn42 d7=>A.un0 d7 ( A.cmp .neq n42 (.ofNat 0) (λd8=>A.cond d8 ( K [(.i (.ofNat 7))] h37) ( A.call 91 [(.i n30),(.i a3),(.i d2)] h37 (λd9 a4=>A.unI d9 (λe0 e1=>A.unI e1 (λn49 e2=>A.un0 e2 ( A.eqs [((.i n38),(.i e0)),((.i n40),(.i n49))] (λe4=>A.cond (!e4) ( K [(.i (.ofNat 7))] a4) ( A.ari .add .i64 V (.ofNat 1) (λn52=>b6 [(.i n52)] a4))))))))))))))))))))) ( A.loop (λe5 e6 a0=>A.unI e6 (λn56 e7=>A.un0 e7 ( A.opt (lenS O) (λe8=>A.cmp .lss n56 e8 (λf0=>A.cond f0 ( A.ari .sub .i64 n56 (.ofNat 1) (λf1=>A.opt (idS 3 O f1) (λf2=>A.peek (.lg cc 3 f2) a0 (λf4=>A.ucI .i64 f4 (λf5 f6=>A.ucI .u8 f6 (λf7 f8=>A.ucI .u8 f8 (λn67 g0=>A.uc0 g0 ( A.call 91 [(.i f5),(.i f7),(.i n67)] a0 (λg1 a5=>A.unI g1 (λn71 g2=>A.unI g2 (λn73 g4=>A.un0 g4 ( A.opt (idS 3 O n56) (λg5=>A.peek (.lg cc 3 g5) a5 (λg6=>A.ucI .i64 g6 (λn77 g7=>A.ucI .u8 g7 (λn79 g8=>A.ucI .u8 g8 (λn81 h0=>A.uc0 h0 ( A.call 91 [(.i n77),(.i n79),(.i n81)] a5 (λh1 h2=>A.unI h1 (λh4 h5=>A.unI h5 (λn87 h6=>A.un0 h6 ( A.call 92 [(.i n71),(.i n73),(.i h4),(.i n87)] h2 (λh7 h90=>A.unI h7 (λn91 h8=>A.un0 h8 ( A.cmp .geq n91 (.ofNat 0) (λi0=>A.cond i0 ( K [(.i (.ofNat 6))] h90) ( A.ari .add .i64 n56 (.ofNat 1) (λn94=>e5 [(.i n94)] h90)))))))))))))))))))))))))))) ( K [(.i (.ofNat 0))] a0)))))) [(.i (.ofNat 1))] U))))) [(.i (.ofNat 0))] h18))))))))))))))
/-- crimp/corners.All -/
def f50(ls:List Lf)(h:HT)(K:List Lf->HT->R):R:=A.unI ls (λO U=>A.unI U (λV a0=>A.un0 a0 ( A.call 93 [(.i O),(.i V)] h (λa1 h11=>A.unV a1 (λx12 a2=>A.unI a2 (λn14 a3=>A.un0 a3 ( K [(.v x12),(.i n14)] h11)))))))
/-- slices.IndexFunc[[]crimp/api.Point,crimp/api.Point] -/
def f51(ls:List Lf)(h:HT)(K:List Lf->HT->R):R:=A.unV ls (λO V=>A.unV V (λa0 a1=>A.un0 a1 ( A.opt (lenS O) (λa2=>A.loop (λa3 a4 h13=>A.unI a4 (λn14 a5=>A.un0 a5 ( A.cmp .lss n14 a2 (λa6=>A.cond a6 ( A.opt (idS 2 O n14) (λa7=>A.peek (.lg cc 2 a7) h13 (λa8=>A.ucI .i64 a8 (λn19 a9=>A.ucI .i64 a9 (λn21 b0=>A.uc0 b0 ( A.callv a0 [(.agg ⟨[(.int .i64 n19),(.int .i64 n21)]⟩)] [(.leaf .b)] h13 (λb1 U=>A.unB b1 (λb2 b3=>A.un0 b3 ( A.cond b2 ( K [(.i n14)] U) ( A.ari .add .i64 n14 (.ofNat 1) (λb4=>a3 [(.i b4)] U))))))))))) ( K [(.i (.negSucc 0))] h13))))) [(.i (.ofNat 0))] h))))
/-- crimp/places.Open$1 -/
def f52(ls:List Lf)(h:HT)(K:List Lf->HT->R):R:=A.unI ls (λU V=>A.unI V (λa0 a1=>A.unV a1 (λa2 a3=>A.un0 a3 ( A.peek (.lg cc 3 a2) h (λa4=>A.ucI .i64 a4 (λn13 a5=>A.ucI .i64 a5 (λa6 a7=>A.ucV a7 (λO a8=>A.chk O ( A.uc0 a8 ( A.call 12 [(.i n13),(.i a6),(.v O),(.i U),(.i a0)] h (λa9 b0=>A.unB a9 (λb1 b2=>A.unI b2 (λb4 b3=>A.un0 b3 ( K [(.b (!b1))] b0))))))))))))))
/-- crimp/places.both -/
def f53(ls:List Lf)(h:HT)(K:List Lf->HT->R):R:=A.unI ls (λV a9=>A.unI a9 (λa0 b0=>A.unV b0 (λa2 b1=>A.unI b1 (λn12 b2=>A.unI b2 (λn14 b3=>A.unI b3 (λn16 b4=>A.un0 b4 ( A.call 49 [(.i V),(.i a0),(.v a2)] h (λb5 a3=>A.unI b5 (λn20 b6=>A.un0 b6 ( A.cmp .neq n20 (.ofNat 0) (λb7=>A.cond b7 ( K [(.v (.slice none 0 0)),(.v (.slice none 0 0)),(.i n20)] a3) ( A.call 54 [(.i n12),(.i n14),(.i n16)] a3 (λb8 a4=>A.unI b8 (λb9 c0=>A.un0 c0 ( A.cmp .neq b9 (.ofNat 0) (λc1=>A.cond c1 ( K [(.v (.slice none 0 0)),(.v (.slice none 0 0)),(.i (.ofNat 1))] a4) ( A.call 94 [(.i V),(.i a0),(.v a2)] a4 (λd0 a5=>A.unV d0 (λU d1=>A.unI d1 (λa6 d2=>A.un0 d2 ( A.cmp .neq a6 (.ofNat 0) (λd3=>A.cond d3 ( K [(.v (.slice none 0 0)),(.v (.slice none 0 0)),(.i a6)] a5) ( A.opt (lenS U) (λO=>A.opt (mkOk O O) (λi1=>A.new (.cells (aU [(.int .i64 (.ofNat 0)),(.int .i64 (.ofNat 0)),(.int .u8 (.ofNat 0))] (Int.toNat O)) 3 true) a5 (λa7 h38=>A.opt (lenS U) (λd4=>A.loop (λd5 d6 a1=>A.unI d6 (λn43 d7=>A.un0 d7 ( A.cmp .lss n43 d4 (λd8=>A.cond d8 ( A.opt (idS 3 U n43) (λd9=>A.peek (.lg cc 3 d9) a1 (λe0=>A.ucI .u8 e0 (λn48 e1=>A.ucI .i64 e1 (λn50 e2=>A.ucI .i64 e2 (λn52 e4=>A.uc0 e4 ( A.call 95 [(.i V),(.i a0),(.i n43)] a1 (λe5 e6=>A.unI e5 (λn56 e7=>A.unI e7 (λn58 e8=>A.unI e8 (λf0 f1=>A.unI f1 (λi2 f2=>A.un0 f2 ( A.call 24 [(.i n48),(.i n50),(.i n52),(.i n12),(.i n14),(.i n16)] e6 (λf4 f5=>A.unI f4 (λn66 f6=>A.unI f6 (λn68 f7=>A.unI f7 (λf8 g0=>A.unI g0 (λn72 g1=>A.un0 g1 ( A.opt (idS 3 U n43) (λx74=>A.heap (.st x74 [(.int .u8 n66),(.int .i64 n68),(.int .i64 f8)]) f5 (λi4 h76=>A.cmp .neq n72 (.ofNat 0) (λg2=>A.cond g2 ( K [(.v (.slice none 0 0)),(.v (.slice none 0 0)),(.i n72)] h76) ( A.opt (idS 3 U n43) (λg4=>A.peek (.lg cc 3 g4) h76 (λg5=>A.ucI .u8 g5 (λn80 g6=>A.ucI .i64 g6 (λn82 g7=>A.ucI .i64 g7 (λg8 h0=>A.uc0 h0 ( A.call 96 [(.i n80),(.i n82),(.i g8),(.i n56),(.i n58),(.i f0)] h76 (λh1 h87=>A.unI h1 (λn88 h2=>A.unI h2 (λn90 h4=>A.unI h4 (λn92 h5=>A.unI h5 (λn94 h6=>A.un0 h6 ( A.opt (idS 3 (.slice (some ⟨a7,0,(some 13)⟩) (Int.toNat O) ((Int.toNat O)+1)) n43) (λh7=>A.heap (.st h7 [(.int .i64 n88),(.int .i64 n90),(.int .u8 n92)]) h87 (λi5 a8=>A.cmp .neq n94 (.ofNat 0) (λh8=>A.cond h8 ( K [(.v (.slice none 0 0)),(.v (.slice none 0 0)),(.i n94)] a8) ( A.ari .add .i64 n43 (.ofNat 1) (λi0=>d5 [(.i i0)] a8)))))))))))))))))))))))))))))))))))))))) ( K [(.v U),(.v (.slice (some ⟨a7,0,(some 13)⟩) (Int.toNat O) ((Int.toNat O)+1))),(.i (.ofNat 0))] a1))))) [(.i (.ofNat 0))] h38)))))))))))))))))))))))))))
/-- crimp/moves.Check -/
def f54(ls:List Lf)(h:HT)(K:List Lf->HT->R):R:=A.unI ls (λa0 a1=>A.unI a1 (λU a2=>A.unI a2 (λn10 a3=>A.un0 a3 ( A.conv .i64 a0 (λn12=>A.cmp .geq n12 (.ofNat 8) (λa4=>A.cond a4 ( K [(.i (.ofNat 1))] h) ( A.call 97 [(.i U)] h (λa5 V=>A.unB a5 (λa6 a7=>A.un0 a7 ( A.cond a6 ( K [(.i (.ofNat 1))] V) ( A.call 97 [(.i n10)] V (λa8 O=>A.unB a8 (λa9 b0=>A.un0 b0 ( A.cond a9 ( K [(.i (.ofNat 1))] O) ( A.ari .add .i64 U n10 (λn22=>A.ari .rem .i64 n22 (.ofNat 2) (λb1=>A.cmp .neq b1 (.ofNat 0) (λb2=>A.cond b2 ( K [(.i (.ofNat 1))] O) ( K [(.i (.ofNat 0))] O)))))))))))))))))))
/-- (crimp/moves.matrix).of -/
def f55(ls:List Lf)(h:HT)(K:List Lf->HT->R):R:=A.unI ls (λO U=>A.unI U (λV a0=>A.unI a0 (λn10 a1=>A.unI a1 (λn12 a2=>A.unI a2 (λn14 a3=>A.unI a3 (λn16 a4=>A.un0 a4 ( A.ari .mul .i64 O n14 (λn18=>A.ari .mul .i64 V n16 (λn19=>A.ari .add .i64 n18 n19 (λn20=>A.ari .mul .i64 n10 n14 (λn21=>A.ari .mul .i64 n12 n16 (λn22=>A.ari .add .i64 n21 n22 (λa5=>K [(.i n20),(.i a5)] h)))))))))))))
/-- crimp/moves.limited -/
def f56(ls:List Lf)(h:HT)(K:List Lf->HT->R):R:=A.unI ls (λO V=>A.unI V (λU a0=>A.unI a0 (λn10 a1=>A.un0 a1 ( A.call 54 [(.i O),(.i U),(.i n10)] h (λa2 h13=>A.unI a2 (λn14 a3=>A.un0 a3 ( A.cmp .neq n14 (.ofNat 0) (λa4=>A.cond a4 ( K [(.i (.ofNat 0)),(.i (.ofNat 0)),(.i (.ofNat 0)),(.i (.ofNat 3))] h13) ( K [(.i O),(.i U),(.i n10),(.i (.ofNat 0))] h13)))))))))
/-- crimp/moves.number -/
def f57(ls:List Lf)(h:HT)(K:List Lf->HT->R):R:=A.unI ls (λV a0=>A.unI a0 (λa1 a2=>A.unI a2 (λn10 a3=>A.unI a3 (λn12 a4=>A.un0 a4 ( A.loop (λa5 a6 U=>A.unI a6 (λO a7=>A.un0 a7 ( A.cmp .lss O (.ofNat 8) (λa8=>A.cond a8 ( A.opt (inB 8 O) (λb7=>A.opt (dn [(.i (.ofNat 1)),(.i (.ofNat 0)),(.i (.ofNat 0)),(.i (.ofNat 1)),(.i (.ofNat 0)),(.i (.negSucc 0)),(.i (.ofNat 1)),(.i (.ofNat 0)),(.i (.negSucc 0)),(.i (.ofNat 0)),(.i (.ofNat 0)),(.i (.negSucc 0)),(.i (.ofNat 0)),(.i (.ofNat 1)),(.i (.negSucc 0)),(.i (.ofNat 0)),(.i (.negSucc 0)),(.i (.ofNat 0)),(.i (.ofNat 0)),(.i (.ofNat 1)),(.i (.ofNat 0)),(.i (.negSucc 0)),(.i (.negSucc 0)),(.i (.ofNat 0)),(.i (.ofNat 1)),(.i (.ofNat 0)),(.i (.ofNat 0)),(.i (.negSucc 0)),(.i (.ofNat 0)),(.i (.ofNat 1)),(.i (.ofNat 1)),(.i (.ofNat 0))] 0 [(O,4)] 4) (λa9=>A.unI a9 (λn22 b0=>A.unI b0 (λn24 b1=>A.unI b1 (λb2 b3=>A.unI b3 (λn28 b4=>A.un0 b4 ( A.eqs [((.i n22),(.i V)),((.i n24),(.i a1)),((.i b2),(.i n10)),((.i n28),(.i n12))] (λb5=>A.cond b5 ( A.conv .u8 O (λn31=>K [(.i n31)] U)) ( A.ari .add .i64 O (.ofNat 1) (λb6=>a5 [(.i b6)] U))))))))))) ( K [(.i (.ofNat 0))] U))))) [(.i (.ofNat 0))] h)))))
/-- (crimp/moves.matrix).then -/
def f58(ls:List Lf)(h:HT)(K:List Lf->HT->R):R:=A.unI ls (λO U=>A.unI U (λV a0=>A.unI a0 (λn10 a1=>A.unI a1 (λn12 a2=>A.unI a2 (λn14 a3=>A.unI a3 (λn16 a4=>A.unI a4 (λn18 a5=>A.unI a5 (λn20 a6=>A.un0 a6 ( A.call 55 [(.i n14),(.i n16),(.i n18),(.i n20),(.i O),(.i n10)] h (λa7 a8=>A.unI a7 (λn24 a9=>A.unI a9 (λb0 b1=>A.un0 b1 ( A.call 55 [(.i n14),(.i n16),(.i n18),(.i n20),(.i V),(.i n12)] a8 (λb2 b3=>A.unI b2 (λn30 b4=>A.unI b4 (λb5 b6=>A.un0 b6 ( K [(.i n24),(.i n30),(.i b0),(.i b5)] b3)))))))))))))))))
/-- crimp/crimpref05.Id -/
def f66(ls:List Lf)(h:HT)(K:List Lf->HT->R):R:=A.unI ls (λO U=>A.unI U (λV a0=>A.unI a0 (λn10 a1=>A.unI a1 (λn12 a2=>A.unI a2 (λn14 a3=>A.un0 a3 ( A.cmp .lss n10 (.ofNat 0) (λa4=>A.cond a4 ( K [(.i (.negSucc 0))] h) ( A.cmp .lss n12 (.ofNat 0) (λa5=>A.cond a5 ( K [(.i (.negSucc 0))] h) ( A.cmp .geq n10 O (λa6=>A.cond a6 ( K [(.i (.negSucc 0))] h) ( A.cmp .geq n12 V (λa7=>A.cond a7 ( K [(.i (.negSucc 0))] h) ( A.cmp .gtr n14 (.ofNat 3) (λa8=>A.cond a8 ( K [(.i (.negSucc 0))] h) ( A.ari .mul .i64 (.ofNat 4) O (λn21=>A.ari .mul .i64 n21 n12 (λn22=>A.ari .mul .i64 (.ofNat 4) n10 (λa9=>A.ari .add .i64 n22 a9 (λn24=>A.conv .i64 n14 (λb0=>A.ari .add .i64 n24 b0 (λb1=>K [(.i b1)] h))))))))))))))))))))))
/-- crimp/crimpref03.Line -/
def f67(ls:List Lf)(h:HT)(K:List Lf->HT->R):R:=A.unI ls (λa5 a6=>A.unI a6 (λa7 a8=>A.unI a8 (λn10 a9=>A.unI a9 (λn12 b0=>A.un0 b0 ( A.call 48 [(.i a5),(.i a7),(.i n10)] h (λb1 b2=>A.unI b1 (λn16 b3=>A.unI b3 (λn18 b4=>A.unI b4 (λn20 b5=>A.unI b5 (λn22 b6=>A.unI b6 (λn24 b7=>A.unI b7 (λU b8=>A.un0 b8 ( A.ari .add .i64 n12 (.ofNat 1) (λn28=>A.ari .rem .i64 n28 (.ofNat 3) (λV=>A.opt (inB 3 V) (λf6=>A.opt (dn [(.i n16),(.i n18),(.i n20),(.i n22),(.i n24),(.i U)] 0 [(V,2)] 2) (λb9=>A.unI b9 (λa0 c0=>A.unI c0 (λa1 c1=>A.un0 c1 ( A.ari .add .i64 n12 (.ofNat 2) (λn36=>A.ari .rem .i64 n36 (.ofNat 3) (λn37=>A.opt (inB 3 n37) (λx38=>A.opt (dn [(.i n16),(.i n18),(.i n20),(.i n22),(.i n24),(.i U)] 0 [(n37,2)] 2) (λd0=>A.unI d0 (λn40 d1=>A.unI d1 (λn42 d2=>A.un0 d2 ( A.loop (λd3 d4 a2=>A.unI d4 (λO d5=>A.unI d5 (λn49 d6=>A.unI d6 (λn51 d7=>A.un0 d7 ( A.cmp .leq O (.ofNat 4) (λd8=>A.cond d8 ( A.call 40 [(.i O)] a2 (λd9 a3=>A.unI d9 (λn56 e0=>A.unI e0 (λn58 e1=>A.un0 e1 ( A.ari .mul .i64 n56 a0 (λe2=>A.ari .mul .i64 n58 a1 (λe4=>A.ari .add .i64 e2 e4 (λe5=>A.ari .mul .i64 n56 n40 (λe6=>A.ari .mul .i64 n58 n42 (λe7=>A.ari .add .i64 e6 e7 (λe8=>A.cmp .eql e5 e8 (λf0=>A.join (λf1 f2=>A.unI f1 (λn69 f4=>A.unI f4 (λn71 f5=>A.un0 f5 ( A.ari .add .u8 O (.ofNat 1) (λn73=>d3 [(.i n73),(.i n69),(.i n71)] f2))))) (λa4=>A.cond f0 ( A.ari .mul .i64 n56 a0 (λn75=>A.ari .mul .i64 n58 a1 (λn76=>A.ari .add .i64 n75 n76 (λn77=>A.ari .quo .i64 n77 (.ofNat 2) (λn78=>a4 [(.i O),(.i n78)] a3))))) ( a4 [(.i n49),(.i n51)] a3)))))))))))))) ( K [(.i n49),(.i n51)] a2))))))) [(.i (.ofNat 1)),(.i (.ofNat 0)),(.i (.ofNat 0))] b2)))))))))))))))))))))))))))
/-- crimp/crimpref01.Reflect -/
def f68(ls:List Lf)(h:HT)(K:List Lf->HT->R):R:=A.unI ls (λO U=>A.unI U (λV a0=>A.unI a0 (λn10 a1=>A.unI a1 (λn12 a2=>A.un0 a2 ( A.call 40 [(.i O)] h (λa3 a4=>A.unI a3 (λn16 a5=>A.unI a5 (λn18 a6=>A.un0 a6 ( A.call 102 [(.i O),(.i V),(.i n10),(.i n12)] a4 (λa7 a8=>A.unI a7 (λn22 a9=>A.un0 a9 ( A.ari .mul .i64 (.ofNat 2) n22 (λn24=>A.ari .mul .i64 n16 n16 (λb0=>A.ari .mul .i64 n18 n18 (λb1=>A.ari .add .i64 b0 b1 (λb2=>A.ari .quo .i64 n24 b2 (λn28=>A.ari .mul .i64 n28 n16 (λb3=>A.ari .sub .i64 n10 b3 (λn30=>A.ari .mul .i64 n28 n18 (λn31=>A.ari .sub .i64 n12 n31 (λb4=>K [(.i n30),(.i b4)] a8)))))))))))))))))))))
/-- crimp/crimpref03.With -/
def f69(ls:List Lf)(h:HT)(K:List Lf->HT->R):R:=A.unI ls (λa2 a9=>A.unI a9 (λa3 b0=>A.unI b0 (λn10 b1=>A.unI b1 (λn12 b2=>A.unI b2 (λn14 b3=>A.unI b3 (λn16 b4=>A.un0 b4 ( A.loop (λb5 b6 U=>A.unI b6 (λn21 b7=>A.un0 b7 ( A.cmp .lss n21 (.ofNat 3) (λb8=>A.cond b8 ( A.join (λb9 c0=>A.un0 b9 ( A.ari .add .i64 n21 (.ofNat 1) (λc1=>b5 [(.i c1)] c0))) (λa4=>A.opt (inB 3 n21) (λh1=>A.opt (dn [(.i a2),(.i a3),(.i n10),(.i n12),(.i n14),(.i n16)] 0 [(n21,2)] 2) (λd0=>A.unI d0 (λn30 d1=>A.unI d1 (λa7 d2=>A.un0 d2 ( A.ari .add .i64 n21 (.ofNat 1) (λd3=>A.ari .rem .i64 d3 (.ofNat 3) (λn35=>A.opt (inB 3 n35) (λh2=>A.opt (dn [(.i a2),(.i a3),(.i n10),(.i n12),(.i n14),(.i n16)] 0 [(n35,2)] 2) (λx37=>A.unI x37 (λn38 d4=>A.unI d4 (λn40 d5=>A.un0 d5 ( A.ari .add .i64 n21 (.ofNat 2) (λn42=>A.ari .rem .i64 n42 (.ofNat 3) (λn43=>A.opt (inB 3 n43) (λh4=>A.opt (dn [(.i a2),(.i a3),(.i n10),(.i n12),(.i n14),(.i n16)] 0 [(n43,2)] 2) (λd6=>A.unI d6 (λa5 d7=>A.unI d7 (λn48 d8=>A.un0 d8 ( A.ari .rem .i64 n30 (.ofNat 2) (λn50=>A.cmp .eql n50 (.ofNat 0) (λd9=>A.cond d9 ( a4 [] U) ( A.ari .rem .i64 a7 (.ofNat 2) (λn52=>A.cmp .eql n52 (.ofNat 0) (λe0=>A.cond e0 ( a4 [] U) ( A.loop (λV e1 a8=>A.unI e1 (λn57 e2=>A.un0 e2 ( A.cmp .lss n57 (.ofNat 4) (λe4=>A.cond e4 ( A.ari .sub .i64 n30 (.ofNat 1) (λe5=>A.ari .quo .i64 e5 (.ofNat 2) (λa0=>A.ari .sub .i64 a7 (.ofNat 1) (λe6=>A.ari .quo .i64 e6 (.ofNat 2) (λa1=>A.call 48 [(.i a0),(.i a1),(.i n57)] a8 (λe7 O=>A.unI e7 (λn66 e8=>A.unI e8 (λn68 f0=>A.unI f0 (λa6 f1=>A.unI f1 (λn72 f2=>A.unI f2 (λn74 f4=>A.unI f4 (λn76 f5=>A.un0 f5 ( A.eqs [((.i a6),(.i n38)),((.i n72),(.i n40))] (λf6=>A.cond f6 ( A.eqs [((.i n74),(.i a5)),((.i n76),(.i n48))] (λf7=>A.cond f7 ( K [(.i a0),(.i a1),(.i n57)] O) ( A.eqs [((.i a6),(.i a5)),((.i n72),(.i n48))] (λf8=>A.cond f8 ( A.eqs [((.i n74),(.i n38)),((.i n76),(.i n40))] (λg0=>A.join (λg1 g2=>A.un0 g1 ( A.ari .add .u8 n57 (.ofNat 1) (λg4=>V [(.i g4)] g2))) (λg5=>A.cond g0 ( K [(.i a0),(.i a1),(.i n57)] O) ( g5 [] O)))) ( A.ari .add .u8 n57 (.ofNat 1) (λn86=>V [(.i n86)] O)))))) ( A.eqs [((.i a6),(.i a5)),((.i n72),(.i n48))] (λg6=>A.cond g6 ( A.eqs [((.i n74),(.i n38)),((.i n76),(.i n40))] (λg7=>A.join (λg8 h90=>A.un0 g8 ( A.ari .add .u8 n57 (.ofNat 1) (λn91=>V [(.i n91)] h90))) (λh0=>A.cond g7 ( K [(.i a0),(.i a1),(.i n57)] O) ( h0 [] O)))) ( A.ari .add .u8 n57 (.ofNat 1) (λn93=>V [(.i n93)] O)))))))))))))))))) ( a4 [] a8))))) [(.i (.ofNat 0))] U))))))))))))))))))))))))))) ( K [(.i (.ofNat 0)),(.i (.ofNat 0)),(.i (.ofNat 4))] U))))) [(.i (.ofNat 0))] h)))))))
/-- crimp/corners.corner -/
def f71(ls:List Lf)(h:HT)(K:List Lf->HT->R):R:=A.unI ls (λU a0=>A.unI a0 (λV a1=>A.unI a1 (λn10 a2=>A.unI a2 (λn12 a3=>A.un0 a3 ( A.call 86 [(.i U),(.i V)] h (λa4 O=>A.unI a4 (λn16 a5=>A.un0 a5 ( A.cmp .neq n16 (.ofNat 0) (λa6=>A.cond a6 ( K [(.i n16)] O) ( A.cmp .leq n10 (.ofNat 0) (λa7=>A.cond a7 ( K [(.i (.ofNat 7))] O) ( A.cmp .leq n12 (.ofNat 0) (λa8=>A.cond a8 ( K [(.i (.ofNat 7))] O) ( A.ari .mul .i64 (.ofNat 2) U (λn21=>A.cmp .geq n10 n21 (λa9=>A.cond a9 ( K [(.i (.ofNat 7))] O) ( A.ari .mul .i64 (.ofNat 2) V (λb0=>A.cmp .geq n12 b0 (λb1=>A.cond b1 ( K [(.i (.ofNat 7))] O) ( A.ari .rem .i64 n10 (.ofNat 2) (λb2=>A.ari .rem .i64 n12 (.ofNat 2) (λb3=>A.cmp .neq b2 b3 (λb4=>A.cond b4 ( K [(.i (.ofNat 7))] O) ( K [(.i (.ofNat 0))] O))))))))))))))))))))))))
/-- crimp/corners.walk -/
def f72(ls:List Lf)(h:HT)(K:List Lf->HT->R):R:=A.unI ls (λV a0=>A.unI a0 (λa1 a2=>A.unI a2 (λn10 a3=>A.unI a3 (λn12 a4=>A.un0 a4 ( A.new (.cells [(.int .i64 V),(.int .i64 a1)] 2 true) h (λO a5=>A.new (.cells [(.int .i64 n10),(.int .i64 n12)] 2 true) a5 (λU a6=>A.chk (.func (.func 109) ⟨[]⟩ ⟨[(.pointer (some ⟨U,0,none⟩)),(.pointer (some ⟨O,0,none⟩))]⟩) ( K [(.v (.func (.func 109) ⟨[]⟩ ⟨[(.pointer (some ⟨U,0,none⟩)),(.pointer (some ⟨O,0,none⟩))]⟩))] a6))))))))
/-- crimp/patterns.Kind -/
def f73(ls:List Lf)(h:HT)(K:List Lf->HT->R):R:=A.unI ls (λa1 a2=>A.unI a2 (λa3 a4=>A.unV a4 (λV a5=>A.unI a5 (λn12 a6=>A.unI a6 (λn14 a7=>A.un0 a7 ( A.call 115 [(.i a1),(.i a3),(.v V),(.i n12),(.i n14)] h (λa8 O=>A.unI a8 (λn18 a9=>A.unI a9 (λn20 b0=>A.unI b0 (λn22 b1=>A.unB b1 (λb2 b3=>A.unI b3 (λU b4=>A.un0 b4 ( A.cmp .neq U (.ofNat 0) (λb5=>A.cond b5 ( K [(.i (.ofNat 0)),(.i U)] O) ( A.cond (!b2) ( K [(.i (.ofNat 0)),(.i U)] O) ( A.opt (idS 3 V n22) (λb6=>A.opt (fdP 2 b6) (λa0=>A.chk a0 ( A.peek (.lg cc 1 a0) O (λb7=>A.ucI .u8 b7 (λb8 b9=>A.uc0 b9 ( K [(.i b8),(.i (.ofNat 0))] O))))))))))))))))))))))
/-- slices.SortFunc[[]crimp/corners.Ray,crimp/corners.Ray] -/
def f74(ls:List Lf)(h:HT)(K:List Lf->HT->R):R:=A.unV ls (λO V=>A.unV V (λa0 a1=>A.un0 a1 ( A.opt (lenS O) (λU=>A.conv .u64 U (λn11=>A.call 117 [(.i n11)] h (λa2 h13=>A.unI a2 (λn14 a3=>A.un0 a3 ( A.call 116 [(.v O),(.i (.ofNat 0)),(.i U),(.i n14),(.v a0)] h13 (λa4 a5=>A.un0 a4 ( K [] a5))))))))))
/-- crimp/corners.Creases$1 -/
def f75(ls:List Lf)(h:HT)(K:List Lf->HT->R):R:=A.unI ls (λO U=>A.unI U (λa2 V=>A.unI V (λn10 a0=>A.unI a0 (λn12 a1=>A.un0 a1 ( A.ari .sub .i64 O n10 (λn14=>K [(.i n14)] h))))))
/-- slices.Clip[[]crimp/corners.Ray,crimp/corners.Ray] -/
def f76(ls:List Lf)(h:HT)(K:List Lf->HT->R):R:=A.unV ls (λO V=>A.un0 V ( A.opt (lenS O) (λa0=>A.opt (lenS O) (λx9=>A.opt (slS 2 O none (some a0) (some x9)) (λU=>A.chk U ( K [(.v U)] h))))))
/-- crimp/moves.Of -/
def f77(ls:List Lf)(h:HT)(K:List Lf->HT->R):R:=A.unI ls (λU V=>A.unI V (λO a0=>A.un0 a0 ( A.call 80 [(.i U),(.i O)] h (λa1 h11=>A.unI a1 (λn12 a2=>A.un0 a2 ( A.cmp .neq n12 (.ofNat 0) (λa3=>A.cond a3 ( K [(.i (.ofNat 0)),(.i (.ofNat 0)),(.i (.ofNat 0)),(.i (.ofNat 1))] h11) ( A.cmp .eql U (.ofNat 1) (λa4=>A.cond a4 ( A.ari .mul .i64 (.ofNat 2) O (λn16=>K [(.i (.ofNat 4)),(.i n16),(.i (.ofNat 0)),(.i (.ofNat 0))] h11)) ( A.cmp .eql U (.ofNat 2) (λa5=>A.cond a5 ( A.ari .mul .i64 (.ofNat 2) O (λn18=>K [(.i (.ofNat 6)),(.i (.ofNat 0)),(.i n18),(.i (.ofNat 0))] h11)) ( A.cmp .eql U (.ofNat 3) (λa6=>A.cond a6 ( K [(.i (.ofNat 5)),(.i O),(.i O),(.i (.ofNat 0))] h11) ( A.ari .sub .i64 (.ofNat 0) O (λn20=>K [(.i (.ofNat 7)),(.i n20),(.i O),(.i (.ofNat 0))] h11)))))))))))))))
/-- crimp/lines.CheckPoint -/
def f78(ls:List Lf)(h:HT)(K:List Lf->HT->R):R:=A.unI ls (λO V=>A.unI V (λU a0=>A.un0 a0 ( A.cmp .lss O (.negSucc 65535) (λa1=>A.cond a1 ( K [(.i (.ofNat 1))] h) ( A.cmp .gtr O (.ofNat 65536) (λa2=>A.cond a2 ( K [(.i (.ofNat 1))] h) ( A.cmp .lss U (.negSucc 65535) (λa3=>A.cond a3 ( K [(.i (.ofNat 1))] h) ( A.cmp .gtr U (.ofNat 65536) (λa4=>A.cond a4 ( K [(.i (.ofNat 1))] h) ( K [(.i (.ofNat 0))] h)))))))))))
/-- crimp/lines.along -/
def f79(ls:List Lf)(h:HT)(K:List Lf->HT->R):R:=A.unI ls (λO V=>A.unI V (λU a0=>A.unI a0 (λn10 a1=>A.un0 a1 ( A.cmp .eql O (.ofNat 1) (λa2=>A.cond a2 ( K [(.i U)] h) ( A.cmp .eql O (.ofNat 2) (λa3=>A.cond a3 ( K [(.i n10)] h) ( A.cmp .eql O (.ofNat 3) (λa4=>A.cond a4 ( A.ari .add .i64 U n10 (λa5=>K [(.i a5)] h)) ( A.ari .sub .i64 n10 U (λn16=>K [(.i n16)] h)))))))))))
/-- crimp/lines.Check -/
def f80(ls:List Lf)(h:HT)(K:List Lf->HT->R):R:=A.unI ls (λO V=>A.unI V (λU a0=>A.un0 a0 ( A.cmp .lss O (.ofNat 1) (λa1=>A.cond a1 ( K [(.i (.ofNat 1))] h) ( A.cmp .gtr O (.ofNat 4) (λa2=>A.cond a2 ( K [(.i (.ofNat 1))] h) ( A.cmp .lss U (.negSucc 4095) (λa3=>A.cond a3 ( K [(.i (.ofNat 1))] h) ( A.cmp .gtr U (.ofNat 4096) (λa4=>A.cond a4 ( K [(.i (.ofNat 1))] h) ( K [(.i (.ofNat 0))] h)))))))))))
/-- crimp/crimpref02.Told -/
def f81(ls:List Lf)(h:HT)(K:List Lf->HT->R):R:=A.unI ls (λV a5=>A.unI a5 (λa0 a6=>A.unI a6 (λn10 a7=>A.unI a7 (λn12 a8=>A.unI a8 (λn14 a9=>A.unI a9 (λn16 b0=>A.un0 b0 ( A.loop (λU b1 a1=>A.unI b1 (λn21 b2=>A.un0 b2 ( A.cmp .lss n21 (.ofNat 8) (λb3=>A.cond b3 ( A.ari .quo .i64 V (.ofNat 2) (λn24=>A.ari .quo .i64 a0 (.ofNat 2) (λO=>A.call 82 [(.i n21),(.i n24),(.i O),(.i (.ofNat 2)),(.i (.ofNat 0))] a1 (λb4 a2=>A.unI b4 (λn28 b5=>A.unI b5 (λn30 b6=>A.un0 b6 ( A.eqs [((.i n28),(.i n10)),((.i n30),(.i n12))] (λb7=>A.cond b7 ( A.call 82 [(.i n21),(.i n24),(.i O),(.i (.ofNat 0)),(.i (.ofNat 2))] a2 (λb8 a3=>A.unI b8 (λn35 b9=>A.unI b9 (λn37 c0=>A.un0 c0 ( A.eqs [((.i n35),(.i n14)),((.i n37),(.i n16))] (λc1=>A.cond c1 ( A.call 82 [(.i n21),(.i n24),(.i O),(.i (.ofNat 0)),(.i (.ofNat 0))] a3 (λd0 a4=>A.unI d0 (λn42 d1=>A.unI d1 (λn44 d2=>A.un0 d2 ( A.eqs [((.i n42),(.i V)),((.i n44),(.i a0))] (λd3=>A.join (λd4 d5=>A.un0 d4 ( A.ari .add .u8 n21 (.ofNat 1) (λn49=>U [(.i n49)] d5))) (λd6=>A.cond d3 ( K [(.i n21),(.i n24),(.i O)] a4) ( d6 [] a4)))))))) ( A.ari .add .u8 n21 (.ofNat 1) (λn51=>U [(.i n51)] a3)))))))) ( A.ari .add .u8 n21 (.ofNat 1) (λn52=>U [(.i n52)] a2)))))))))) ( K [(.i (.ofNat 8)),(.i (.ofNat 0)),(.i (.ofNat 0))] a1))))) [(.i (.ofNat 0))] h)))))))
/-- crimp/crimpref02.Point -/
def f82(ls:List Lf)(h:HT)(K:List Lf->HT->R):R:=A.unI ls (λO b0=>A.unI b0 (λb1 b2=>A.unI b2 (λn10 b3=>A.unI b3 (λn12 b4=>A.unI b4 (λn14 b5=>A.un0 b5 ( A.cmp .eql O (.ofNat 1) (λb6=>A.join (λb7 h18=>A.unI b7 (λn19 b8=>A.unI b8 (λn21 b9=>A.un0 b9 ( A.cmp .eql O (.ofNat 2) (λc0=>A.join (λc1 U=>A.unI c1 (λd0 d1=>A.unI d1 (λn28 d2=>A.un0 d2 ( A.cmp .eql O (.ofNat 3) (λd3=>A.join (λd4 V=>A.unI d4 (λd5 d6=>A.unI d6 (λn35 d7=>A.un0 d7 ( A.cmp .eql O (.ofNat 4) (λd8=>A.join (λd9 a0=>A.unI d9 (λn40 e0=>A.unI e0 (λn42 e1=>A.un0 e1 ( A.cmp .eql O (.ofNat 5) (λe2=>A.join (λe4 a1=>A.unI e4 (λe5 e6=>A.unI e6 (λn49 e7=>A.un0 e7 ( A.cmp .eql O (.ofNat 6) (λe8=>A.join (λf0 a2=>A.unI f0 (λn54 f1=>A.unI f1 (λn56 f2=>A.un0 f2 ( A.cmp .eql O (.ofNat 7) (λf4=>A.join (λf5 f6=>A.unI f5 (λf7 f8=>A.unI f8 (λg0 g1=>A.un0 g1 ( A.ari .mul .i64 (.ofNat 2) b1 (λg2=>A.ari .add .i64 f7 g2 (λn66=>A.ari .mul .i64 (.ofNat 2) n10 (λn67=>A.ari .add .i64 g0 n67 (λn68=>K [(.i n66),(.i n68)] f6)))))))) (λa3=>A.cond f4 ( a3 [(.i n14),(.i n12)] a2) ( a3 [(.i n54),(.i n56)] a2))))))) (λa4=>A.cond e8 ( A.ari .sub .i64 (.ofNat 0) n14 (λn71=>a4 [(.i n12),(.i n71)] a1)) ( a4 [(.i e5),(.i n49)] a1))))))) (λa5=>A.cond e2 ( A.ari .sub .i64 (.ofNat 0) n14 (λn73=>A.ari .sub .i64 (.ofNat 0) n12 (λn74=>a5 [(.i n73),(.i n74)] a0))) ( a5 [(.i n40),(.i n42)] a0))))))) (λa6=>A.cond d8 ( A.ari .sub .i64 (.ofNat 0) n12 (λn76=>a6 [(.i n76),(.i n14)] V)) ( a6 [(.i d5),(.i n35)] V))))))) (λa7=>A.cond d3 ( A.ari .sub .i64 (.ofNat 0) n12 (λn78=>a7 [(.i n14),(.i n78)] U)) ( a7 [(.i d0),(.i n28)] U))))))) (λa8=>A.cond c0 ( A.ari .sub .i64 (.ofNat 0) n12 (λn80=>A.ari .sub .i64 (.ofNat 0) n14 (λn81=>a8 [(.i n80),(.i n81)] h18))) ( a8 [(.i n19),(.i n21)] h18))))))) (λa9=>A.cond b6 ( A.ari .sub .i64 (.ofNat 0) n14 (λn83=>a9 [(.i n83),(.i n12)] h)) ( a9 [(.i n12),(.i n14)] h)))))))))
/-- crimp/segments.Pattern -/
def f83(ls:List Lf)(h:HT)(K:List Lf->HT->R):R:=A.unI ls (λU b0=>A.unI b0 (λV b1=>A.unV b1 (λa4 b2=>A.un0 b2 ( A.call 86 [(.i U),(.i V)] h (λb3 h13=>A.unI b3 (λn14 b4=>A.un0 b4 ( A.cmp .neq n14 (.ofNat 0) (λb5=>A.cond b5 ( A.opt (chk2 (.slice none 0 0)) (λh4=>K [(.i (.ofNat 0)),(.i (.ofNat 0)),(.v (.slice none 0 0)),(.i (.ofNat 0)),(.i n14)] h13)) ( A.call 118 [(.i U),(.i V)] h13 (λb6 b7=>A.unV b6 (λb8 b9=>A.un0 b9 ( A.new (.map [] 0) b7 (λa5 c0=>A.opt (lenS a4) (λc1=>A.loop (λd0 d1 a0=>A.unV d1 (λa1 d2=>A.unI d2 (λn30 d3=>A.un0 d3 ( A.cmp .lss n30 c1 (λd4=>A.cond d4 ( A.opt (idS 5 a4 n30) (λd5=>A.peek (.lg cc 5 d5) a0 (λd6=>A.ucI .u8 d6 (λn35 d7=>A.ucI .u8 d7 (λn37 d8=>A.ucI .i64 d8 (λn39 d9=>A.ucI .i64 d9 (λn41 e0=>A.ucI .i64 e0 (λn43 e1=>A.uc0 e1 ( A.call 119 [(.v b8),(.i n35),(.i n37),(.i n39),(.i n41),(.i n43)] a0 (λe2 a6=>A.unV e2 (λa7 e4=>A.unI e4 (λn49 e5=>A.un0 e5 ( A.cmp .neq n49 (.ofNat 0) (λe6=>A.cond e6 ( A.opt (chk2 (.slice none 0 0)) (λh5=>K [(.i (.ofNat 0)),(.i (.ofNat 0)),(.v (.slice none 0 0)),(.i n30),(.i n49)] a6)) ( A.opt (lenS a7) (λe7=>A.loop (λe8 f0 O=>A.unV f0 (λa8 f1=>A.unI f1 (λa2 f2=>A.un0 f2 ( A.cmp .lss a2 e7 (λf4=>A.cond f4 ( A.opt (idS 2 a7 a2) (λf5=>A.peek (.lg cc 2 f5) O (λf6=>A.ucI .i64 f6 (λa3 f7=>A.ucI .u8 f7 (λn66 f8=>A.uc0 f8 ( A.peek (.fn (luG cc 54 false (.int .u8 (.ofNat 0)) (.map (some a5)) (.agg ⟨[(.int .i64 a3),(.int .u8 n66)]⟩) false)) O (λg0=>A.ucI .u8 g0 (λn69 g1=>A.uc0 g1 ( A.cmp .neq n69 (.ofNat 0) (λg2=>A.cond g2 ( A.opt (chk2 (.slice none 0 0)) (λh6=>K [(.i (.ofNat 0)),(.i (.ofNat 0)),(.v (.slice none 0 0)),(.i n30),(.i (.ofNat 8))] O)) ( A.heap (.fn (muG cc 54 (.map (some a5)) (.agg ⟨[(.int .i64 a3),(.int .u8 n66)]⟩) (.int .u8 n35))) O (λh7 h74=>A.new (.cells [(.int .i64 a3),(.int .u8 n66),(.int .u8 n35)] 3 true) h74 (λg4 h76=>A.heap (.ap cc 3 16 a8 (.slice (some ⟨g4,0,(some 13)⟩) 1 2)) h76 (λg5 g6=>A.ucV g5 (λa9 g7=>A.chk a9 ( A.uc0 g7 ( A.ari .add .i64 a2 (.ofNat 1) (λn81=>e8 [(.v a9),(.i n81)] g6)))))))))))))))))) ( A.ari .add .i64 n30 (.ofNat 1) (λn82=>d0 [(.v a8),(.i n82)] O))))))) [(.v a1),(.i (.ofNat 0))] a6)))))))))))))))) ( A.call 120 [(.v a1),(.v (.func (.func 121) ⟨[]⟩ ⟨[]⟩))] a0 (λg8 h0=>A.un0 g8 ( A.call 123 [(.v a1)] h0 (λh1 h86=>A.unV h1 (λx87 h2=>A.un0 h2 ( A.opt (chk2 x87) (λh8=>K [(.i U),(.i V),(.v x87),(.i (.ofNat 0)),(.i (.ofNat 0))] h86)))))))))))) [(.v (.slice none 0 0)),(.i (.ofNat 0))] c0))))))))))))))
/-- crimp/sheets.Check -/
def f86(ls:List Lf)(h:HT)(K:List Lf->HT->R):R:=A.unI ls (λO V=>A.unI V (λU a0=>A.un0 a0 ( A.cmp .lss O (.ofNat 1) (λa1=>A.cond a1 ( K [(.i (.ofNat 1))] h) ( A.cmp .lss U (.ofNat 1) (λa2=>A.cond a2 ( K [(.i (.ofNat 1))] h) ( A.cmp .gtr O (.ofNat 256) (λa3=>A.cond a3 ( K [(.i (.ofNat 1))] h) ( A.cmp .gtr U (.ofNat 256) (λa4=>A.cond a4 ( K [(.i (.ofNat 1))] h) ( A.ari .mul .i64 O U (λn14=>A.cmp .gtr n14 (.ofNat 256) (λa5=>A.cond a5 ( K [(.i (.ofNat 1))] h) ( K [(.i (.ofNat 0))] h))))))))))))))
/-- slices.ContainsFunc[[]crimp/patterns.Crease,crimp/patterns.Crease] -/
def f87(ls:List Lf)(h:HT)(K:List Lf->HT->R):R:=A.unV ls (λO U=>A.unV U (λV a0=>A.un0 a0 ( A.call 124 [(.v O),(.v V)] h (λa1 h11=>A.unI a1 (λn12 a2=>A.un0 a2 ( A.cmp .geq n12 (.ofNat 0) (λa3=>K [(.b a3)] h11)))))))
/-- crimp/patterns.Check$1 -/
def f88(ls:List Lf)(h:HT)(K:List Lf->HT->R):R:=A.unI ls (λa3 O=>A.unI O (λa4 U=>A.unI U (λn10 V=>A.un0 V ( A.call 89 [(.i n10)] h (λa0 h13=>A.unB a0 (λa1 a2=>A.un0 a2 ( K [(.b (!a1))] h13)))))))
/-- crimp/patterns.isKind -/
def f89(ls:List Lf)(h:HT)(K:List Lf->HT->R):R:=A.unI ls (λO V=>A.un0 V ( A.join (λa0 h9=>A.unB a0 (λa1 a2=>A.un0 a2 ( K [(.b a1)] h9))) (λU=>A.cmp .geq O (.ofNat 1) (λa3=>A.cond a3 ( A.cmp .leq O (.ofNat 3) (λa4=>U [(.b a4)] h)) ( U [(.b false)] h)))))
/-- crimp/sheets.Name -/
def f90(ls:List Lf)(h:HT)(K:List Lf->HT->R):R:=A.unI ls (λU V=>A.unI V (λa0 a1=>A.unI a1 (λn10 a2=>A.unI a2 (λn12 a3=>A.un0 a3 ( A.call 125 [(.i U),(.i a0),(.i n10),(.i n12)] h (λa4 O=>A.unI a4 (λn16 a5=>A.unI a5 (λn18 a6=>A.un0 a6 ( A.cmp .neq n18 (.ofNat 0) (λa7=>A.cond a7 ( K [(.i (.ofNat 0)),(.i (.ofNat 0)),(.i n18)] O) ( A.cmp .lss n16 n10 (λa8=>A.sel a8 n16 n10 (λn22=>K [(.i n22),(.i n12),(.i (.ofNat 0))] O)))))))))))))
/-- (crimp/patterns.Crease).unit -/
def f91(ls:List Lf)(h:HT)(K:List Lf->HT->R):R:=A.unI ls (λO U=>A.unI U (λV a0=>A.unI a0 (λn10 a1=>A.un0 a1 ( K [(.i O),(.i V)] h))))
/-- crimp/patterns.order -/
def f92(ls:List Lf)(h:HT)(K:List Lf->HT->R):R:=A.unI ls (λO U=>A.unI U (λV a0=>A.unI a0 (λn10 a1=>A.unI a1 (λn12 a2=>A.un0 a2 ( A.cmp .neq O n10 (λa3=>A.cond a3 ( A.ari .sub .i64 O n10 (λa4=>K [(.i a4)] h)) ( A.conv .i64 V (λn16=>A.conv .i64 n12 (λa5=>A.ari .sub .i64 n16 a5 (λn18=>K [(.i n18)] h))))))))))
/-- crimp/sheets.Points -/
def f93(ls:List Lf)(h:HT)(K:List Lf->HT->R):R:=A.unI ls (λa0 a5=>A.unI a5 (λa1 a6=>A.un0 a6 ( A.call 86 [(.i a0),(.i a1)] h (λa7 h11=>A.unI a7 (λn12 a8=>A.un0 a8 ( A.cmp .neq n12 (.ofNat 0) (λa9=>A.cond a9 ( K [(.v (.slice none 0 0)),(.i n12)] h11) ( A.loop (λb0 b1 a2=>A.unV b1 (λx18 b2=>A.unI b2 (λn20 b3=>A.un0 b3 ( A.ari .mul .i64 (.ofNat 2) a1 (λn22=>A.cmp .lss n20 n22 (λb4=>A.cond b4 ( A.loop (λb5 b6 U=>A.unV b6 (λV b7=>A.unI b7 (λO b8=>A.un0 b8 ( A.ari .mul .i64 (.ofNat 2) a0 (λn31=>A.cmp .lss O n31 (λb9=>A.cond b9 ( A.ari .rem .i64 O (.ofNat 2) (λc0=>A.ari .rem .i64 n20 (.ofNat 2) (λc1=>A.cmp .eql c0 c1 (λd0=>A.join (λd1 h37=>A.unV d1 (λx38 d2=>A.un0 d2 ( A.ari .add .i64 O (.ofNat 1) (λn40=>b5 [(.v x38),(.i n40)] h37)))) (λa3=>A.cond d0 ( A.new (.cells [(.int .i64 O),(.int .i64 n20)] 2 true) U (λd3 d4=>A.heap (.ap cc 2 16 V (.slice (some ⟨d3,0,(some 12)⟩) 1 2)) d4 (λd5 d6=>A.ucV d5 (λa4 d7=>A.chk a4 ( A.uc0 d7 ( a3 [(.v a4)] d6)))))) ( a3 [(.v V)] U)))))) ( A.ari .add .i64 n20 (.ofNat 1) (λn48=>b0 [(.v V),(.i n48)] U)))))))) [(.v x18),(.i (.ofNat 1))] a2) ( A.call 126 [(.v x18)] a2 (λd8 d9=>A.unV d8 (λe0 e1=>A.un0 e1 ( K [(.v e0),(.i (.ofNat 0))] d9)))))))))) [(.v (.slice none 0 0)),(.i (.ofNat 1))] h11))))))))
/-- crimp/places.relative -/
def f94(ls:List Lf)(h:HT)(K:List Lf->HT->R):R:=A.unI ls (λc1 d0=>A.unI d0 (λd1 d2=>A.unV d2 (λd3 d4=>A.un0 d4 ( A.new (.cells [(.int .i64 c1),(.int .i64 d1),d3] 3 true) h (λU h13=>A.peek (.lg cc 3 (.pointer (some ⟨U,0,none⟩))) h13 (λd5=>A.ucI .i64 d5 (λd6 d7=>A.ucI .i64 d7 (λd8 d9=>A.ucV d9 (λa5 e0=>A.chk a5 ( A.uc0 e0 ( A.call 127 [(.i d6),(.i d8),(.v a5)] h13 (λe1 h22=>A.unV e1 (λe2 e4=>A.un0 e4 ( A.new (.cells [(.map none)] 1 true) h22 (λa2 e5=>A.heap (.st (.pointer (some ⟨a2,0,none⟩)) [e2]) e5 (λm6 a6=>A.opt (fdP 0 (.pointer (some ⟨U,0,none⟩))) (λa7=>A.chk a7 ( A.peek (.lg cc 2 a7) a6 (λe6=>A.ucI .i64 e6 (λn31 e7=>A.ucI .i64 e7 (λe8 f0=>A.uc0 f0 ( A.call 128 [(.i n31),(.i e8)] a6 (λf1 f2=>A.unI f1 (λn37 f4=>A.un0 f4 ( A.opt (mkOk n37 n37) (λm7=>A.new (.cells (aU [(.int .u8 (.ofNat 0)),(.int .i64 (.ofNat 0)),(.int .i64 (.ofNat 0))] (Int.toNat n37)) 3 true) f2 (λf5 f6=>A.new (.cells [(.slice none 0 0)] 1 true) f6 (λO f7=>A.heap (.st (.pointer (some ⟨O,0,none⟩)) [(.slice (some ⟨f5,0,(some 13)⟩) (Int.toNat n37) ((Int.toNat n37)+1))]) f7 (λm8 a8=>A.peek (.lg cc 1 (.pointer (some ⟨O,0,none⟩))) a8 (λf8=>A.ucV f8 (λa9 g0=>A.chk a9 ( A.uc0 g0 ( A.opt (lenS a9) (λx49=>A.opt (mkOk x49 x49) (λm9=>A.new (.cells (aU [(.bool false)] (Int.toNat x49)) 1 true) a8 (λa3 g1=>A.chk (.func (.func 129) ⟨[]⟩ ⟨[(.pointer (some ⟨U,0,none⟩)),(.pointer (some ⟨a2,0,none⟩)),(.pointer (some ⟨O,0,none⟩))]⟩) ( A.opt (idS 1 (.slice (some ⟨a3,0,(some 11)⟩) (Int.toNat x49) ((Int.toNat x49)+1)) (.ofNat 0)) (λg2=>A.heap (.st g2 [(.bool true)]) g1 (λn0 g4=>A.new (.cells [(.int .i64 (.ofNat 0))] 1 true) g4 (λg5 g6=>A.loop (λg7 g8 V=>A.unV g8 (λa4 h0=>A.un0 h0 ( A.opt (lenS a4) (λh1=>A.cmp .gtr h1 (.ofNat 0) (λh2=>A.cond h2 ( A.opt (idS 1 a4 (.ofNat 0)) (λh4=>A.peek (.lg cc 1 h4) V (λh5=>A.ucI .i64 h5 (λn67 h6=>A.uc0 h6 ( A.opt (slS 1 a4 (some (.ofNat 1)) none none) (λb0=>A.chk b0 ( A.loop (λh7 h8 h72=>A.unV h8 (λx73 i0=>A.unI i0 (λn75 i1=>A.un0 i1 ( A.cmp .lss n75 (.ofNat 3) (λi2=>A.cond i2 ( A.join (λi4 i5=>A.unV i4 (λi6 i7=>A.un0 i7 ( A.ari .add .u8 n75 (.ofNat 1) (λn82=>h7 [(.v i6),(.i n82)] i5)))) (λb1=>A.opt (fdP 0 (.pointer (some ⟨U,0,none⟩))) (λb2=>A.chk b2 ( A.peek (.lg cc 2 b2) h72 (λi8=>A.ucI .i64 i8 (λn86 j0=>A.ucI .i64 j0 (λn88 j1=>A.uc0 j1 ( A.call 125 [(.i n86),(.i n88),(.i n67),(.i n75)] h72 (λj2 h91=>A.unI j2 (λn92 j3=>A.unI j3 (λn94 j4=>A.un0 j4 ( A.cmp .neq n94 (.ofNat 0) (λj5=>A.cond j5 ( b1 [(.v x73)] h91) ( A.callv (.func (.func 129) ⟨[]⟩ ⟨[(.pointer (some ⟨U,0,none⟩)),(.pointer (some ⟨a2,0,none⟩)),(.pointer (some ⟨O,0,none⟩))]⟩) [(.int .i64 n67),(.int .u8 n75)] [(.agg [(.i .u8),(.i .i64),(.i .i64)])] h91 (λj6 a0=>A.unI j6 (λb3 j7=>A.unI j7 (λb4 j8=>A.unI j8 (λb5 j9=>A.un0 j9 ( A.opt (idS 1 (.slice (some ⟨a3,0,(some 11)⟩) (Int.toNat x49) ((Int.toNat x49)+1)) n92) (λk0=>A.peek (.lg cc 1 k0) a0 (λk1=>A.ucB k1 (λk2 k3=>A.uc0 k3 ( A.join (λk4 a1=>A.unV k4 (λk5 k6=>A.un0 k6 ( A.peek (.lg cc 1 (.pointer (some ⟨O,0,none⟩))) a1 (λk7=>A.ucV k7 (λb6 k8=>A.chk b6 ( A.uc0 k8 ( A.opt (idS 3 b6 n92) (λx116=>A.peek (.lg cc 3 x116) a1 (λk9=>A.ucI .u8 k9 (λn118 l0=>A.ucI .i64 l0 (λn120 l1=>A.ucI .i64 l1 (λn122 l2=>A.uc0 l2 ( A.eqs [((.i n118),(.i b3)),((.i n120),(.i b4)),((.i n122),(.i b5))] (λl3=>A.cond (!l3) ( K [(.v (.slice none 0 0)),(.i (.ofNat 11))] a1) ( b1 [(.v k5)] a1))))))))))))))) (λb7=>A.cond (!k2) ( A.peek (.lg cc 1 (.pointer (some ⟨O,0,none⟩))) a0 (λl4=>A.ucV l4 (λb8 l5=>A.chk b8 ( A.uc0 l5 ( A.opt (idS 3 b8 n92) (λl6=>A.heap (.st l6 [(.int .u8 b3),(.int .i64 b4),(.int .i64 b5)]) a0 (λn1 h131=>A.opt (idS 1 (.slice (some ⟨a3,0,(some 11)⟩) (Int.toNat x49) ((Int.toNat x49)+1)) n92) (λl7=>A.heap (.st l7 [(.bool true)]) h131 (λn2 l8=>A.new (.cells [(.int .i64 n92)] 1 true) l8 (λl9 m0=>A.heap (.ap cc 1 8 x73 (.slice (some ⟨l9,0,(some 11)⟩) 1 2)) m0 (λm1 m2=>A.ucV m1 (λb9 m3=>A.chk b9 ( A.uc0 m3 ( b7 [(.v b9)] m2)))))))))))))) ( b7 [(.v x73)] a0))))))))))))))))))))))))) ( g7 [(.v x73)] h72)))))) [(.v b0),(.i (.ofNat 0))] V))))))) ( A.peek (.lg cc 1 (.pointer (some ⟨O,0,none⟩))) V (λm4=>A.ucV m4 (λc0 m5=>A.chk c0 ( A.uc0 m5 ( K [(.v c0),(.i (.ofNat 0))] V)))))))))) [(.v (.slice (some ⟨g5,0,(some 11)⟩) 1 2))] g6))))))))))))))))))))))))))))))))))))))))
/-- crimp/sheets.Cell -/
def f95(ls:List Lf)(h:HT)(K:List Lf->HT->R):R:=A.unI ls (λO V=>A.unI V (λU a0=>A.unI a0 (λn10 a1=>A.un0 a1 ( A.call 86 [(.i O),(.i U)] h (λa2 h13=>A.unI a2 (λn14 a3=>A.un0 a3 ( A.cmp .neq n14 (.ofNat 0) (λa4=>A.cond a4 ( K [(.i (.ofNat 0)),(.i (.ofNat 0)),(.i (.ofNat 0)),(.i n14)] h13) ( A.call 131 [(.i O),(.i U),(.i n10)] h13 (λa5 h18=>A.unB a5 (λa6 a7=>A.un0 a7 ( A.cond (!a6) ( K [(.i (.ofNat 0)),(.i (.ofNat 0)),(.i (.ofNat 0)),(.i (.ofNat 7))] h18) ( A.call 132 [(.i O),(.i U),(.i n10)] h18 (λa8 h22=>A.unI a8 (λa9 b0=>A.unI b0 (λb1 b2=>A.unI b2 (λb3 b4=>A.un0 b4 ( K [(.i a9),(.i b1),(.i b3),(.i (.ofNat 0))] h22))))))))))))))))))
/-- crimp/cells.Move -/
def f96(ls:List Lf)(h:HT)(K:List Lf->HT->R):R:=A.unI ls (λO a3=>A.unI a3 (λU a4=>A.unI a4 (λn10 a5=>A.unI a5 (λn12 a6=>A.unI a6 (λn14 a7=>A.unI a7 (λn16 a8=>A.un0 a8 ( A.call 54 [(.i O),(.i U),(.i n10)] h (λa9 V=>A.unI a9 (λn20 b0=>A.un0 b0 ( A.cmp .neq n20 (.ofNat 0) (λb1=>A.cond b1 ( K [(.i (.ofNat 0)),(.i (.ofNat 0)),(.i (.ofNat 0)),(.i (.ofNat 1))] V) ( A.call 133 [(.i n12),(.i n14),(.i n16)] V (λb2 a0=>A.unI b2 (λb3 b4=>A.un0 b4 ( A.cmp .neq b3 (.ofNat 0) (λb5=>A.cond b5 ( K [(.i (.ofNat 0)),(.i (.ofNat 0)),(.i (.ofNat 0)),(.i (.ofNat 1))] a0) ( A.call 134 [(.i O),(.i U),(.i n10),(.i n12),(.i n14),(.i n16)] a0 (λb6 b7=>A.unI b6 (λn30 b8=>A.unI b8 (λa1 b9=>A.unI b9 (λa2 c0=>A.un0 c0 ( A.call 133 [(.i n30),(.i a1),(.i a2)] b7 (λc1 h37=>A.unI c1 (λn38 d0=>A.un0 d0 ( A.cmp .neq n38 (.ofNat 0) (λd1=>A.cond d1 ( K [(.i (.ofNat 0)),(.i (.ofNat 0)),(.i (.ofNat 0)),(.i (.ofNat 3))] h37) ( K [(.i n30),(.i a1),(.i a2),(.i (.ofNat 0))] h37)))))))))))))))))))))))))))
/-- crimp/moves.beyond -/
def f97(ls:List Lf)(h:HT)(K:List Lf->HT->R):R:=A.unI ls (λO V=>A.un0 V ( A.join (λa0 h9=>A.unB a0 (λa1 a2=>A.un0 a2 ( K [(.b a1)] h9))) (λU=>A.cmp .lss O (.negSucc 16383) (λa3=>A.cond a3 ( U [(.b true)] h) ( A.cmp .gtr O (.ofNat 16384) (λa4=>U [(.b a4)] h))))))
/-- crimp/crimpref01.Far -/
def f102(ls:List Lf)(h:HT)(K:List Lf->HT->R):R:=A.unI ls (λO U=>A.unI U (λV a0=>A.unI a0 (λn10 a1=>A.unI a1 (λn12 a2=>A.un0 a2 ( A.call 40 [(.i O)] h (λa3 a4=>A.unI a3 (λn16 a5=>A.unI a5 (λn18 a6=>A.un0 a6 ( A.ari .mul .i64 n16 n10 (λn20=>A.ari .mul .i64 n18 n12 (λn21=>A.ari .add .i64 n20 n21 (λn22=>A.ari .mul .i64 (.ofNat 2) V (λa7=>A.ari .sub .i64 n22 a7 (λn24=>K [(.i n24)] a4))))))))))))))
/-- crimp/corners.walk$1 -/
def f109(ls:List Lf)(h:HT)(K:List Lf->HT->R):R:=A.unV ls (λa8 d0=>A.unV d0 (λU d1=>A.unV d1 (λa0 d2=>A.un0 d2 ( A.opt (fdP 0 U) (λx12=>A.chk x12 ( A.peek (.lg cc 1 x12) h (λd3=>A.ucI .i64 d3 (λn14 d4=>A.uc0 d4 ( A.ari .quo .i64 n14 (.ofNat 2) (λn16=>A.opt (fdP 1 U) (λa9=>A.chk a9 ( A.peek (.lg cc 1 a9) h (λd5=>A.ucI .i64 d5 (λn19 d6=>A.uc0 d6 ( A.ari .quo .i64 n19 (.ofNat 2) (λn21=>A.opt (fdP 0 U) (λb0=>A.chk b0 ( A.peek (.lg cc 1 b0) h (λd7=>A.ucI .i64 d7 (λn24 d8=>A.uc0 d8 ( A.ari .rem .i64 n24 (.ofNat 2) (λd9=>A.cmp .neq d9 (.ofNat 0) (λe0=>A.join (λe1 e2=>A.unI e1 (λn30 e4=>A.unI e4 (λa2 e5=>A.unI e5 (λa3 e6=>A.un0 e6 ( A.loop (λb1 e7 h38=>A.unI e7 (λn39 e8=>A.unI e8 (λn41 f0=>A.unI f0 (λn43 f1=>A.unI f1 (λb2 f2=>A.un0 f2 ( A.peek (.lg cc 2 a0) h38 (λf4=>A.ucI .i64 f4 (λn48 f5=>A.ucI .i64 f5 (λn50 f6=>A.uc0 f6 ( A.call 110 [(.i n48),(.i n50),(.i n41),(.i n43),(.i b2)] h38 (λf7 f8=>A.unI f7 (λn54 g0=>A.unI g0 (λn56 g1=>A.un0 g1 ( A.loop (λg2 g4 a4=>A.unI g4 (λa1 g5=>A.unI g5 (λO g6=>A.unI g6 (λV g7=>A.unI g7 (λn67 g8=>A.unI g8 (λn69 h0=>A.un0 h0 ( A.cmp .lss O (.ofNat 3) (λh1=>A.cond h1 ( A.join (λh2 h73=>A.unI h2 (λn74 h4=>A.unI h4 (λn76 h5=>A.unI h5 (λn78 h6=>A.unI h6 (λn80 h7=>A.un0 h7 ( A.ari .add .u8 O (.ofNat 1) (λn82=>g2 [(.i n74),(.i n82),(.i n76),(.i n78),(.i n80)] h73))))))) (λa5=>A.peek (.lg cc 2 U) a4 (λh8=>A.ucI .i64 h8 (λi0 i1=>A.ucI .i64 i1 (λn87 i2=>A.uc0 i2 ( A.call 111 [(.i V),(.i n67),(.i n69),(.i O),(.i i0),(.i n87)] a4 (λi4 h90=>A.unB i4 (λi5 i6=>A.un0 i6 ( A.cond (!i5) ( a5 [(.i a1),(.i V),(.i n67),(.i n69)] h90) ( A.cmp .eql O a1 (λi7=>A.cond i7 ( a5 [(.i a1),(.i V),(.i n67),(.i n69)] h90) ( A.cmp .eql a1 (.ofNat 3) (λi8=>A.cond i8 ( A.peek (.lg cc 2 U) h90 (λj0=>A.ucI .i64 j0 (λn96 j1=>A.ucI .i64 j1 (λj2 j3=>A.uc0 j3 ( A.call 112 [(.i V),(.i n67),(.i n69),(.i O),(.i n96),(.i j2)] h90 (λj4 b3=>A.unB j4 (λj5 j6=>A.un0 j6 ( A.join (λj7 b4=>A.un0 j7 ( A.peek (.lg cc 2 a0) b4 (λj8=>A.ucI .i64 j8 (λj9 k0=>A.ucI .i64 k0 (λn109 k1=>A.uc0 k1 ( A.call 90 [(.i j9),(.i n109),(.i n54),(.i O)] b4 (λk2 a6=>A.unI k2 (λn113 k3=>A.unI k3 (λn115 k4=>A.unI k4 (λn117 k5=>A.un0 k5 ( A.peek (.lg cc 2 a0) a6 (λk6=>A.ucI .i64 k6 (λn120 k7=>A.ucI .i64 k7 (λn122 k8=>A.uc0 k8 ( A.peek (.lg cc 2 U) a6 (λk9=>A.ucI .i64 k9 (λn125 l0=>A.ucI .i64 l0 (λn127 l1=>A.uc0 l1 ( A.call 113 [(.i n120),(.i n122),(.i n113),(.i n115),(.i n125),(.i n127)] a6 (λl2 l3=>A.unI l2 (λn131 l4=>A.un0 l4 ( A.callv a8 [(.int .i64 n54),(.agg ⟨[(.int .i64 n131),(.int .i64 n113),(.int .u8 n115)]⟩)] [(.leaf .b)] l3 (λl5 b5=>A.unB l5 (λl6 l7=>A.un0 l7 ( A.cond (!l6) ( K [] b5) ( A.call 114 [(.i V),(.i n67),(.i n69),(.i O)] b5 (λl8 b6=>A.unI l8 (λb7 l9=>A.unI l9 (λn141 m0=>A.unI m0 (λn143 m1=>A.unI m1 (λn145 m2=>A.un0 m2 ( A.eqs [((.i b7),(.i n30)),((.i n141),(.i a2)),((.i n143),(.i a3))] (λm3=>A.cond m3 ( K [] b6) ( b1 [(.i O),(.i b7),(.i n141),(.i n143)] b6)))))))))))))))))))))))))))))))))) (λm4=>A.cond (!j5) ( a5 [(.i a1),(.i V),(.i n67),(.i n69)] b3) ( m4 [] b3)))))))))) ( A.peek (.lg cc 2 a0) h90 (λm5=>A.ucI .i64 m5 (λm6 m7=>A.ucI .i64 m7 (λm8 m9=>A.uc0 m9 ( A.call 90 [(.i m6),(.i m8),(.i n54),(.i O)] h90 (λn0 a7=>A.unI n0 (λn156 n1=>A.unI n1 (λn158 n2=>A.unI n2 (λn160 n4=>A.un0 n4 ( A.peek (.lg cc 2 a0) a7 (λn5=>A.ucI .i64 n5 (λn163 n6=>A.ucI .i64 n6 (λn165 n7=>A.uc0 n7 ( A.peek (.lg cc 2 U) a7 (λn8=>A.ucI .i64 n8 (λo0 o1=>A.ucI .i64 o1 (λo2 o3=>A.uc0 o3 ( A.call 113 [(.i n163),(.i n165),(.i n156),(.i n158),(.i o0),(.i o2)] a7 (λo4 o5=>A.unI o4 (λo6 o7=>A.un0 o7 ( A.callv a8 [(.int .i64 n54),(.agg ⟨[(.int .i64 o6),(.int .i64 n156),(.int .u8 n158)]⟩)] [(.leaf .b)] o5 (λo8 b8=>A.unB o8 (λo9 p0=>A.un0 p0 ( A.cond (!o9) ( K [] b8) ( A.call 114 [(.i V),(.i n67),(.i n69),(.i O)] b8 (λp1 b9=>A.unI p1 (λn182 p2=>A.unI p2 (λn184 p4=>A.unI p4 (λc0 p5=>A.unI p5 (λp8 p6=>A.un0 p6 ( A.eqs [((.i n182),(.i n30)),((.i n184),(.i a2)),((.i c0),(.i a3))] (λp7=>A.cond p7 ( K [] b9) ( b1 [(.i O),(.i n182),(.i n184),(.i c0)] b9)))))))))))))))))))))))))))))))))))))))))))))) ( K [] a4))))))))) [(.i n39),(.i (.ofNat 0)),(.i n41),(.i n43),(.i b2)] f8)))))))))))))) [(.i (.ofNat 3)),(.i n30),(.i a2),(.i a3)] e2))))) (λc1=>A.cond e0 ( c1 [(.i n16),(.i n21),(.i (.ofNat 2))] h) ( c1 [(.i n16),(.i n21),(.i (.ofNat 0))] h)))))))))))))))))))))))))
/-- crimp/sheets.Id -/
def f110(ls:List Lf)(h:HT)(K:List Lf->HT->R):R:=A.unI ls (λO a0=>A.unI a0 (λU a1=>A.unI a1 (λn10 a2=>A.unI a2 (λn12 a3=>A.unI a3 (λn14 a4=>A.un0 a4 ( A.call 86 [(.i O),(.i U)] h (λa5 V=>A.unI a5 (λn18 a6=>A.un0 a6 ( A.cmp .neq n18 (.ofNat 0) (λa7=>A.cond a7 ( K [(.i (.ofNat 0)),(.i n18)] V) ( A.call 133 [(.i n10),(.i n12),(.i n14)] V (λa8 h22=>A.unI a8 (λa9 b0=>A.un0 b0 ( A.cmp .neq a9 (.ofNat 0) (λb1=>A.cond b1 ( K [(.i (.ofNat 0)),(.i (.ofNat 7))] h22) ( A.cmp .lss n10 (.ofNat 0) (λb2=>A.cond b2 ( K [(.i (.ofNat 0)),(.i (.ofNat 7))] h22) ( A.cmp .geq n10 O (λb3=>A.cond b3 ( K [(.i (.ofNat 0)),(.i (.ofNat 7))] h22) ( A.cmp .lss n12 (.ofNat 0) (λb4=>A.cond b4 ( K [(.i (.ofNat 0)),(.i (.ofNat 7))] h22) ( A.cmp .geq n12 U (λb5=>A.cond b5 ( K [(.i (.ofNat 0)),(.i (.ofNat 7))] h22) ( A.ari .mul .i64 n12 O (λn30=>A.ari .add .i64 n30 n10 (λn31=>A.ari .mul .i64 (.ofNat 4) n31 (λb6=>A.conv .i64 n14 (λb7=>A.ari .add .i64 b6 b7 (λb8=>K [(.i b8),(.i (.ofNat 0))] h22)))))))))))))))))))))))))))))
/-- crimp/corners.touches -/
def f111(ls:List Lf)(h:HT)(K:List Lf->HT->R):R:=A.unI ls (λO U=>A.unI U (λV a0=>A.unI a0 (λn10 a1=>A.unI a1 (λn12 a2=>A.unI a2 (λn14 a3=>A.unI a3 (λn16 a4=>A.un0 a4 ( A.call 141 [(.i O),(.i V),(.i n10)] h (λa5 a6=>A.unI a5 (λn20 a7=>A.unI a7 (λn22 a8=>A.unI a8 (λn24 a9=>A.unI a9 (λb0 b1=>A.unI b1 (λn28 b2=>A.unI b2 (λn30 b3=>A.unI b3 (λb9 b4=>A.un0 b4 ( A.opt (inB 3 n12) (λc0=>A.opt (dn [(.i n20),(.i n22),(.i n24),(.i b0),(.i n28),(.i n30)] 0 [(n12,2)] 2) (λb5=>A.unI b5 (λn36 b6=>A.unI b6 (λn38 b7=>A.un0 b7 ( A.eqs [((.i n36),(.i n14)),((.i n38),(.i n16))] (λb8=>K [(.b (!b8))] a6))))))))))))))))))))))
/-- crimp/corners.leaves -/
def f112(ls:List Lf)(h:HT)(K:List Lf->HT->R):R:=A.unI ls (λa6 O=>A.unI O (λa7 U=>A.unI U (λn10 V=>A.unI V (λn12 a0=>A.unI a0 (λn14 a1=>A.unI a1 (λn16 a2=>A.un0 a2 ( A.ari .rem .i64 n14 (.ofNat 2) (λn18=>A.cmp .neq n18 (.ofNat 0) (λa3=>A.cond a3 ( A.cmp .eql n12 (.ofNat 1) (λa4=>K [(.b a4)] h)) ( A.cmp .eql n12 (.ofNat 2) (λa5=>K [(.b a5)] h)))))))))))
/-- crimp/corners.direction -/
def f113(ls:List Lf)(h:HT)(K:List Lf->HT->R):R:=A.unI ls (λa0 a1=>A.unI a1 (λa2 a3=>A.unI a3 (λn10 a4=>A.unI a4 (λn12 a5=>A.unI a5 (λn14 a6=>A.unI a6 (λn16 a7=>A.un0 a7 ( A.call 142 [(.i a0),(.i a2),(.i n10),(.i n12)] h (λa8 O=>A.unI a8 (λn20 a9=>A.unI a9 (λn22 b0=>A.unI b0 (λn24 b1=>A.unI b1 (λb2 b3=>A.unI b3 (λn28 b4=>A.un0 b4 ( A.eqs [((.i n20),(.i n14)),((.i n22),(.i n16))] (λb5=>A.join (λb6 b7=>A.unI b6 (λb8 b9=>A.unI b9 (λn35 c0=>A.un0 c0 ( A.ari .sub .i64 b8 n14 (λn37=>A.call 143 [(.i n37)] b7 (λc1 d0=>A.unI c1 (λn40 d1=>A.un0 d1 ( A.ari .sub .i64 n35 n16 (λn42=>A.call 143 [(.i n42)] d0 (λd2 d3=>A.unI d2 (λd4 d5=>A.un0 d5 ( A.opt (bS cc 237 ⟨2,0,(some 1)⟩ none none none []) (λU=>A.chk U ( A.call 144 [(.v U),(.i n40),(.i d4)] d3 (λd6 h49=>A.unI d6 (λn50 d7=>A.un0 d7 ( K [(.i n50)] h49))))))))))))))))) (λV=>A.cond b5 ( V [(.i n24),(.i b2)] O) ( V [(.i n20),(.i n22)] O)))))))))))))))))
/-- crimp/cells.Neighbour -/
def f114(ls:List Lf)(h:HT)(K:List Lf->HT->R):R:=A.unI ls (λU a3=>A.unI a3 (λV a4=>A.unI a4 (λn10 a5=>A.unI a5 (λn12 a6=>A.un0 a6 ( A.call 133 [(.i U),(.i V),(.i n10)] h (λa7 O=>A.unI a7 (λn16 a8=>A.un0 a8 ( A.cmp .neq n16 (.ofNat 0) (λa9=>A.cond a9 ( K [(.i (.ofNat 0)),(.i (.ofNat 0)),(.i (.ofNat 0)),(.i (.ofNat 1))] O) ( A.cmp .gtr n12 (.ofNat 2) (λb0=>A.cond b0 ( K [(.i (.ofNat 0)),(.i (.ofNat 0)),(.i (.ofNat 0)),(.i (.ofNat 1))] O) ( A.opt (inB 4 n10) (λc1=>A.opt (inB 3 n12) (λd0=>A.opt (lW gl3 4 [(n10,17),(n12,3)] 3) (λb1=>A.ucI .i64 b1 (λb2 b3=>A.ucI .i64 b3 (λb4 b5=>A.ucI .u8 b5 (λa0 b6=>A.uc0 b6 ( A.ari .add .i64 b2 U (λa1=>A.ari .add .i64 b4 V (λn30=>A.call 133 [(.i a1),(.i n30),(.i a0)] O (λb7 a2=>A.unI b7 (λb8 b9=>A.un0 b9 ( A.cmp .neq b8 (.ofNat 0) (λc0=>A.cond c0 ( K [(.i (.ofNat 0)),(.i (.ofNat 0)),(.i (.ofNat 0)),(.i (.ofNat 3))] a2) ( K [(.i a1),(.i n30),(.i a0),(.i (.ofNat 0))] a2))))))))))))))))))))))))))
/-- crimp/patterns.at -/
def f115(ls:List Lf)(h:HT)(K:List Lf->HT->R):R:=A.unI ls (λO a4=>A.unI a4 (λU a5=>A.unV a5 (λV a6=>A.unI a6 (λn12 a7=>A.unI a7 (λn14 a8=>A.un0 a8 ( A.call 49 [(.i O),(.i U),(.v V)] h (λa9 a0=>A.unI a9 (λn18 b0=>A.un0 b0 ( A.cmp .neq n18 (.ofNat 0) (λb1=>A.cond b1 ( K [(.i (.ofNat 0)),(.i (.ofNat 0)),(.i (.ofNat 0)),(.b false),(.i n18)] a0) ( A.call 90 [(.i O),(.i U),(.i n12),(.i n14)] a0 (λb2 h22=>A.unI b2 (λa1 b3=>A.unI b3 (λa2 b4=>A.unI b4 (λa3 b5=>A.un0 b5 ( A.cmp .neq a3 (.ofNat 0) (λb6=>A.cond b6 ( K [(.i (.ofNat 0)),(.i (.ofNat 0)),(.i (.ofNat 0)),(.b false),(.i a3)] h22) ( A.call 145 [(.v V),(.i a1),(.i a2)] h22 (λb7 b8=>A.unI b7 (λb9 c0=>A.unB c0 (λc1 d0=>A.un0 d0 ( K [(.i a1),(.i a2),(.i b9),(.b c1),(.i (.ofNat 0))] b8))))))))))))))))))))))
/-- slices.pdqsortCmpFunc[crimp/corners.Ray] -/
def f116(ls:List Lf)(h:HT)(K:List Lf->HT->R):R:=A.unV ls (λU f7=>A.unI f7 (λf8 g0=>A.unI g0 (λn10 g1=>A.unI g1 (λn12 g2=>A.unV g2 (λV g4=>A.un0 g4 ( A.loop (λg5 g6 h18=>A.unI g6 (λn19 g7=>A.unI g7 (λn21 g8=>A.unB g8 (λa8 h0=>A.unB h0 (λa7 h1=>A.unI h1 (λO h2=>A.un0 h2 ( A.join (λh4 h5=>A.unI h4 (λn31 h6=>A.unI h6 (λh7 h8=>A.unB h8 (λi0 i1=>A.unB i1 (λi2 i4=>A.unI i4 (λn39 i5=>A.un0 i5 ( g5 [(.i n31),(.i h7),(.b i0),(.b i2),(.i n39)] h5))))))) (λa2=>A.ari .sub .i64 O n21 (λn42=>A.cmp .leq n42 (.ofNat 12) (λi6=>A.cond i6 ( A.call 146 [(.v U),(.i n21),(.i O),(.v V)] h18 (λi7 i8=>A.un0 i7 ( K [] i8))) ( A.cmp .eql n19 (.ofNat 0) (λj0=>A.cond j0 ( A.call 147 [(.v U),(.i n21),(.i O),(.v V)] h18 (λj1 j2=>A.un0 j1 ( K [] j2))) ( A.join (λj3 j4=>A.unI j3 (λn51 j5=>A.un0 j5 ( A.call 149 [(.v U),(.i n21),(.i O),(.v V)] j4 (λj6 b2=>A.unI j6 (λn55 j7=>A.unI j7 (λn57 j8=>A.un0 j8 ( A.cmp .eql n57 (.ofNat 2) (λj9=>A.join (λk0 a1=>A.unI k0 (λa0 k1=>A.unI k1 (λk2 k3=>A.un0 k3 ( A.cond a7 ( A.cond a8 ( A.cmp .eql k2 (.ofNat 1) (λk4=>A.join (λk5 a9=>A.un0 k5 ( A.cmp .gtr n21 (.ofNat 0) (λk6=>A.cond k6 ( A.ari .sub .i64 n21 (.ofNat 1) (λk7=>A.opt (idS 2 U k7) (λk8=>A.peek (.lg cc 2 k8) a9 (λk9=>A.ucI .i64 k9 (λn73 l0=>A.ucI .u8 l0 (λn75 l1=>A.uc0 l1 ( A.opt (idS 2 U a0) (λl2=>A.peek (.lg cc 2 l2) a9 (λl3=>A.ucI .i64 l3 (λn79 l4=>A.ucI .u8 l4 (λn81 l5=>A.uc0 l5 ( A.callv V [(.agg ⟨[(.int .i64 n73),(.int .u8 n75)]⟩),(.agg ⟨[(.int .i64 n79),(.int .u8 n81)]⟩)] [(.leaf (.i .i64))] a9 (λl6 b3=>A.unI l6 (λl7 l8=>A.un0 l8 ( A.cmp .lss l7 (.ofNat 0) (λl9=>A.join (λm0 h89=>A.unI m0 (λn90 m1=>A.un0 m1 ( A.call 153 [(.v U),(.i n90),(.i O),(.i a0),(.v V)] h89 (λm2 b4=>A.unI m2 (λn94 m3=>A.unB m3 (λm4 m5=>A.un0 m5 ( A.ari .sub .i64 n94 n90 (λb5=>A.ari .sub .i64 O n94 (λb6=>A.ari .quo .i64 n42 (.ofNat 8) (λb7=>A.cmp .lss b5 b6 (λm6=>A.join (λm7 m8=>A.unB m7 (λm9 n0=>A.unI n0 (λn1 n2=>A.unI n2 (λn4 n5=>A.un0 n5 ( a2 [(.i n51),(.i n1),(.b m4),(.b m9),(.i n4)] m8))))) (λb8=>A.cond m6 ( A.cmp .geq b5 b7 (λn6=>A.call 116 [(.v U),(.i n90),(.i n94),(.i n51),(.v V)] b4 (λn7 n8=>A.un0 n7 ( A.ari .add .i64 n94 (.ofNat 1) (λn114=>b8 [(.b n6),(.i n114),(.i O)] n8))))) ( A.cmp .geq b6 b7 (λo0=>A.ari .add .i64 n94 (.ofNat 1) (λn116=>A.call 116 [(.v U),(.i n116),(.i O),(.i n51),(.v V)] b4 (λo1 o2=>A.un0 o1 ( b8 [(.b o0),(.i n90),(.i n94)] o2))))))))))))))))) (λo3=>A.cond (!l9) ( A.call 152 [(.v U),(.i n21),(.i O),(.i a0),(.v V)] b3 (λo4 o5=>A.unI o4 (λn122 o6=>A.un0 o6 ( a2 [(.i n51),(.i n122),(.b a8),(.b a7),(.i O)] o5)))) ( o3 [(.i n21)] b3)))))))))))))))))) ( A.call 153 [(.v U),(.i n21),(.i O),(.i a0),(.v V)] a9 (λo7 h125=>A.unI o7 (λn126 o8=>A.unB o8 (λo9 p0=>A.un0 p0 ( A.ari .sub .i64 n126 n21 (λn130=>A.ari .sub .i64 O n126 (λn131=>A.ari .quo .i64 n42 (.ofNat 8) (λn132=>A.cmp .lss n130 n131 (λp1=>A.join (λp2 p4=>A.unB p2 (λp5 p6=>A.unI p6 (λp7 p8=>A.unI p8 (λq0 q1=>A.un0 q1 ( a2 [(.i n51),(.i p7),(.b o9),(.b p5),(.i q0)] p4))))) (λb9=>A.cond p1 ( A.cmp .geq n130 n132 (λq2=>A.call 116 [(.v U),(.i n21),(.i n126),(.i n51),(.v V)] h125 (λq3 h145=>A.un0 q3 ( A.ari .add .i64 n126 (.ofNat 1) (λn146=>b9 [(.b q2),(.i n146),(.i O)] h145))))) ( A.cmp .geq n131 n132 (λq4=>A.ari .add .i64 n126 (.ofNat 1) (λq5=>A.call 116 [(.v U),(.i q5),(.i O),(.i n51),(.v V)] h125 (λq6 q7=>A.un0 q6 ( b9 [(.b q4),(.i n21),(.i n126)] q7)))))))))))))))))) (λc0=>A.cond k4 ( A.call 151 [(.v U),(.i n21),(.i O),(.v V)] a1 (λq8 c1=>A.unB q8 (λq9 r1=>A.un0 r1 ( A.cond q9 ( K [] c1) ( c0 [] c1))))) ( c0 [] a1)))) ( A.cmp .gtr n21 (.ofNat 0) (λr2=>A.cond r2 ( A.ari .sub .i64 n21 (.ofNat 1) (λn157=>A.opt (idS 2 U n157) (λr3=>A.peek (.lg cc 2 r3) a1 (λr4=>A.ucI .i64 r4 (λn160 r5=>A.ucI .u8 r5 (λn162 r6=>A.uc0 r6 ( A.opt (idS 2 U a0) (λr7=>A.peek (.lg cc 2 r7) a1 (λr8=>A.ucI .i64 r8 (λr9 s0=>A.ucI .u8 s0 (λs1 s2=>A.uc0 s2 ( A.callv V [(.agg ⟨[(.int .i64 n160),(.int .u8 n162)]⟩),(.agg ⟨[(.int .i64 r9),(.int .u8 s1)]⟩)] [(.leaf (.i .i64))] a1 (λs3 d0=>A.unI s3 (λs4 s5=>A.un0 s5 ( A.cmp .lss s4 (.ofNat 0) (λs6=>A.join (λs7 h176=>A.unI s7 (λb0 s8=>A.un0 s8 ( A.call 153 [(.v U),(.i b0),(.i O),(.i a0),(.v V)] h176 (λs9 d1=>A.unI s9 (λa3 t0=>A.unB t0 (λt1 t2=>A.un0 t2 ( A.ari .sub .i64 a3 b0 (λd2=>A.ari .sub .i64 O a3 (λd3=>A.ari .quo .i64 n42 (.ofNat 8) (λd4=>A.cmp .lss d2 d3 (λt3=>A.join (λt4 t5=>A.unB t4 (λt6 t7=>A.unI t7 (λt8 t9=>A.unI t9 (λuc u0=>A.un0 u0 ( a2 [(.i n51),(.i t8),(.b t1),(.b t6),(.i uc)] t5))))) (λd5=>A.cond t3 ( A.cmp .geq d2 d4 (λu1=>A.call 116 [(.v U),(.i b0),(.i a3),(.i n51),(.v V)] d1 (λu2 u4=>A.un0 u2 ( A.ari .add .i64 a3 (.ofNat 1) (λu5=>d5 [(.b u1),(.i u5),(.i O)] u4))))) ( A.cmp .geq d3 d4 (λu6=>A.ari .add .i64 a3 (.ofNat 1) (λu7=>A.call 116 [(.v U),(.i u7),(.i O),(.i n51),(.v V)] d1 (λu8 u9=>A.un0 u8 ( d5 [(.b u6),(.i b0),(.i a3)] u9))))))))))))))))) (λvd=>A.cond (!s6) ( A.call 152 [(.v U),(.i n21),(.i O),(.i a0),(.v V)] d0 (λve vf=>A.unI ve (λvg vh=>A.un0 vh ( a2 [(.i n51),(.i vg),(.b a8),(.b a7),(.i O)] vf)))) ( vd [(.i n21)] d0)))))))))))))))))) ( A.call 153 [(.v U),(.i n21),(.i O),(.i a0),(.v V)] a1 (λvi d6=>A.unI vi (λa4 vj=>A.unB vj (λvk vl=>A.un0 vl ( A.ari .sub .i64 a4 n21 (λd7=>A.ari .sub .i64 O a4 (λd8=>A.ari .quo .i64 n42 (.ofNat 8) (λd9=>A.cmp .lss d7 d8 (λvm=>A.join (λvn vo=>A.unB vn (λvp vq=>A.unI vq (λvr vt=>A.unI vt (λvu vw=>A.un0 vw ( a2 [(.i n51),(.i vr),(.b vk),(.b vp),(.i vu)] vo))))) (λe0=>A.cond vm ( A.cmp .geq d7 d9 (λvx=>A.call 116 [(.v U),(.i n21),(.i a4),(.i n51),(.v V)] d6 (λvy vz=>A.un0 vy ( A.ari .add .i64 a4 (.ofNat 1) (λvA=>e0 [(.b vx),(.i vA),(.i O)] vz))))) ( A.cmp .geq d8 d9 (λvB=>A.ari .add .i64 a4 (.ofNat 1) (λvC=>A.call 116 [(.v U),(.i vC),(.i O),(.i n51),(.v V)] d6 (λvD vE=>A.un0 vD ( e0 [(.b vB),(.i n21),(.i a4)] vE)))))))))))))))))) ( A.cmp .gtr n21 (.ofNat 0) (λvF=>A.cond vF ( A.ari .sub .i64 n21 (.ofNat 1) (λvG=>A.opt (idS 2 U vG) (λvH=>A.peek (.lg cc 2 vH) a1 (λvI=>A.ucI .i64 vI (λvJ vK=>A.ucI .u8 vK (λvL vM=>A.uc0 vM ( A.opt (idS 2 U a0) (λvN=>A.peek (.lg cc 2 vN) a1 (λvO=>A.ucI .i64 vO (λvP vQ=>A.ucI .u8 vQ (λvR vS=>A.uc0 vS ( A.callv V [(.agg ⟨[(.int .i64 vJ),(.int .u8 vL)]⟩),(.agg ⟨[(.int .i64 vP),(.int .u8 vR)]⟩)] [(.leaf (.i .i64))] a1 (λvT e1=>A.unI vT (λvU vV=>A.un0 vV ( A.cmp .lss vU (.ofNat 0) (λvW=>A.join (λvX vY=>A.unI vX (λb1 vZ=>A.un0 vZ ( A.call 153 [(.v U),(.i b1),(.i O),(.i a0),(.v V)] vY (λv0 e2=>A.unI v0 (λa5 v1=>A.unB v1 (λv2 v3=>A.un0 v3 ( A.ari .sub .i64 a5 b1 (λe4=>A.ari .sub .i64 O a5 (λe5=>A.ari .quo .i64 n42 (.ofNat 8) (λe6=>A.cmp .lss e4 e5 (λv4=>A.join (λv5 v6=>A.unB v5 (λv7 v8=>A.unI v8 (λv9 wc=>A.unI wc (λwe wg=>A.un0 wg ( a2 [(.i n51),(.i v9),(.b v2),(.b v7),(.i we)] v6))))) (λe7=>A.cond v4 ( A.cmp .geq e4 e6 (λwh=>A.call 116 [(.v U),(.i b1),(.i a5),(.i n51),(.v V)] e2 (λwi wj=>A.un0 wi ( A.ari .add .i64 a5 (.ofNat 1) (λwk=>e7 [(.b wh),(.i wk),(.i O)] wj))))) ( A.cmp .geq e5 e6 (λwl=>A.ari .add .i64 a5 (.ofNat 1) (λwm=>A.call 116 [(.v U),(.i wm),(.i O),(.i n51),(.v V)] e2 (λwn wo=>A.un0 wn ( e7 [(.b wl),(.i b1),(.i a5)] wo))))))))))))))))) (λwp=>A.cond (!vW) ( A.call 152 [(.v U),(.i n21),(.i O),(.i a0),(.v V)] e1 (λwq wt=>A.unI wq (λwu wv=>A.un0 wv ( a2 [(.i n51),(.i wu),(.b a8),(.b a7),(.i O)] wt)))) ( wp [(.i n21)] e1)))))))))))))))))) ( A.call 153 [(.v U),(.i n21),(.i O),(.i a0),(.v V)] a1 (λww e8=>A.unI ww (λa6 wy=>A.unB wy (λwz wA=>A.un0 wA ( A.ari .sub .i64 a6 n21 (λf0=>A.ari .sub .i64 O a6 (λf1=>A.ari .quo .i64 n42 (.ofNat 8) (λf2=>A.cmp .lss f0 f1 (λwB=>A.join (λwC wD=>A.unB wC (λwE wF=>A.unI wF (λwG wH=>A.unI wH (λwI wJ=>A.un0 wJ ( a2 [(.i n51),(.i wG),(.b wz),(.b wE),(.i wI)] wD))))) (λf4=>A.cond wB ( A.cmp .geq f0 f2 (λwK=>A.call 116 [(.v U),(.i n21),(.i a6),(.i n51),(.v V)] e8 (λwL wM=>A.un0 wL ( A.ari .add .i64 a6 (.ofNat 1) (λwN=>f4 [(.b wK),(.i wN),(.i O)] wM))))) ( A.cmp .geq f1 f2 (λwO=>A.ari .add .i64 a6 (.ofNat 1) (λwP=>A.call 116 [(.v U),(.i wP),(.i O),(.i n51),(.v V)] e8 (λwQ wR=>A.un0 wQ ( f4 [(.b wO),(.i n21),(.i a6)] wR))))))))))))))))))))) (λf5=>A.cond j9 ( A.call 150 [(.v U),(.i n21),(.i O),(.v V)] b2 (λwS wT=>A.un0 wS ( A.ari .sub .i64 O (.ofNat 1) (λwU=>A.ari .sub .i64 n55 n21 (λwV=>A.ari .sub .i64 wU wV (λwW=>f5 [(.i wW),(.i (.ofNat 1))] wT)))))) ( f5 [(.i n55),(.i n57)] b2)))))))))) (λf6=>A.cond (!a7) ( A.call 148 [(.v U),(.i n21),(.i O),(.v V)] h18 (λwX wY=>A.un0 wX ( A.ari .sub .i64 n19 (.ofNat 1) (λwZ=>f6 [(.i wZ)] wY)))) ( f6 [(.i n19)] h18))))))))))))))) [(.i n12),(.i f8),(.b true),(.b true),(.i n10)] h))))))
/-- math/bits.Len -/
def f117(ls:List Lf)(h:HT)(K:List Lf->HT->R):R:=A.unI ls (λO U=>A.un0 U ( A.call 155 [(.i O)] h (λV h9=>A.unI V (λn10 a0=>A.un0 a0 ( K [(.i n10)] h9)))))
/-- crimp/segments.pieces -/
def f118(ls:List Lf)(h:HT)(K:List Lf->HT->R):R:=A.unI ls (λU a1=>A.unI a1 (λV a2=>A.un0 a2 ( A.call 156 [(.i U),(.i V)] h (λa3 h11=>A.unV a3 (λx12 a4=>A.unI a4 (λn14 a5=>A.un0 a5 ( A.opt (lenS x12) (λd1=>A.new (.map [] 0) h11 (λa0 h18=>A.opt (lenS x12) (λa6=>A.loop (λa7 a8 h22=>A.unI a8 (λO a9=>A.un0 a9 ( A.cmp .lss O a6 (λb0=>A.cond b0 ( A.opt (idS 2 x12 O) (λb1=>A.peek (.lg cc 2 b1) h22 (λb2=>A.ucI .i64 b2 (λn28 b3=>A.ucI .u8 b3 (λn30 b4=>A.uc0 b4 ( A.call 157 [(.i U),(.i V),(.i n28),(.i n30)] h22 (λb5 b6=>A.unI b5 (λb7 b8=>A.unI b8 (λn36 b9=>A.unI b9 (λn38 c0=>A.unI c0 (λn40 c1=>A.un0 c1 ( A.heap (.fn (muG cc 257 (.map (some a0)) (.agg ⟨[(.int .u8 b7),(.int .i64 n36),(.int .i64 n38)]⟩) (.agg ⟨[(.int .i64 n28),(.int .u8 n30),(.int .i64 n40)]⟩))) b6 (λd2 d0=>A.ari .add .i64 O (.ofNat 1) (λn44=>a7 [(.i n44)] d0)))))))))))))) ( K [(.v (.map (some a0)))] h22))))) [(.i (.ofNat 0))] h18))))))))))
/-- crimp/segments.units -/
def f119(ls:List Lf)(h:HT)(K:List Lf->HT->R):R:=A.unV ls (λa2 a3=>A.unI a3 (λa4 a5=>A.unI a5 (λn10 a6=>A.unI a6 (λn12 a7=>A.unI a7 (λn14 a8=>A.unI a8 (λn16 a9=>A.un0 a9 ( A.call 158 [(.i a4),(.i n10),(.i n12),(.i n14),(.i n16)] h (λb0 U=>A.unB b0 (λb1 b2=>A.un0 b2 ( A.cond (!b1) ( K [(.v (.slice none 0 0)),(.i (.ofNat 1))] U) ( A.loop (λb3 b4 O=>A.unV b4 (λV b5=>A.unI b5 (λa0 b6=>A.un0 b6 ( A.cmp .neq a0 n16 (λb7=>A.cond b7 ( A.peek (.fn (luG cc 257 true (.agg ⟨[(.int .i64 (.ofNat 0)),(.int .u8 (.ofNat 0)),(.int .i64 (.ofNat 0))]⟩) a2 (.agg ⟨[(.int .u8 n10),(.int .i64 n12),(.int .i64 a0)]⟩) true)) O (λb8=>A.ucI .i64 b8 (λn31 b9=>A.ucI .u8 b9 (λc0 c1=>A.ucI .i64 c1 (λn35 d0=>A.ucB d0 (λd1 d2=>A.uc0 d2 ( A.cond (!d1) ( K [(.v (.slice none 0 0)),(.i (.ofNat 7))] O) ( A.cmp .gtr n35 n16 (λd3=>A.cond d3 ( K [(.v (.slice none 0 0)),(.i (.ofNat 7))] O) ( A.new (.cells [(.int .i64 n31),(.int .u8 c0)] 2 true) O (λd4 d5=>A.heap (.ap cc 2 16 V (.slice (some ⟨d4,0,(some 12)⟩) 1 2)) d5 (λd6 d7=>A.ucV d6 (λa1 d8=>A.chk a1 ( A.uc0 d8 ( b3 [(.v a1),(.i n35)] d7))))))))))))))) ( A.call 159 [(.v V)] O (λd9 e0=>A.unV d9 (λe1 e2=>A.un0 e2 ( K [(.v e1),(.i (.ofNat 0))] e0))))))))) [(.v (.slice none 0 0)),(.i n14)] U)))))))))))
/-- slices.SortFunc[[]crimp/patterns.Crease,crimp/patterns.Crease] -/
def f120(ls:List Lf)(h:HT)(K:List Lf->HT->R):R:=A.unV ls (λO V=>A.unV V (λa0 a1=>A.un0 a1 ( A.opt (lenS O) (λU=>A.conv .u64 U (λn11=>A.call 117 [(.i n11)] h (λa2 h13=>A.unI a2 (λn14 a3=>A.un0 a3 ( A.call 160 [(.v O),(.i (.ofNat 0)),(.i U),(.i n14),(.v a0)] h13 (λa4 a5=>A.un0 a4 ( K [] a5))))))))))
/-- crimp/segments.Pattern$1 -/
def f121(ls:List Lf)(h:HT)(K:List Lf->HT->R):R:=A.unI ls (λO U=>A.unI U (λV a0=>A.unI a0 (λn10 a1=>A.unI a1 (λn12 a2=>A.unI a2 (λn14 a3=>A.unI a3 (λn16 a4=>A.un0 a4 ( A.conv .i64 V (λn18=>A.conv .i64 n14 (λn19=>A.new (.cells [(.int .i64 O),(.int .i64 n12),(.int .i64 n18),(.int .i64 n19)] 2 true) h (λa5 a6=>A.call 122 [(.v (.slice (some ⟨a5,0,(some 12)⟩) 2 3))] a6 (λa7 a8=>A.unI a7 (λn24 a9=>A.un0 a9 ( K [(.i n24)] a8)))))))))))))
/-- crimp/segments.order[int] -/
def f122(ls:List Lf)(h:HT)(K:List Lf->HT->R):R:=A.unV ls (λO V=>A.un0 V ( A.opt (lenS O) (λa0=>A.loop (λa1 a2 h11=>A.unI a2 (λn12 a3=>A.un0 a3 ( A.cmp .lss n12 a0 (λa4=>A.cond a4 ( A.opt (idS 2 O n12) (λa5=>A.peek (.lg cc 2 a5) h11 (λa6=>A.ucI .i64 a6 (λa7 a8=>A.ucI .i64 a8 (λn19 a9=>A.uc0 a9 ( A.call 161 [(.i a7),(.i n19)] h11 (λb0 h22=>A.unI b0 (λU b1=>A.un0 b1 ( A.cmp .neq U (.ofNat 0) (λb2=>A.cond b2 ( K [(.i U)] h22) ( A.ari .add .i64 n12 (.ofNat 1) (λb3=>a1 [(.i b3)] h22)))))))))))) ( K [(.i (.ofNat 0))] h11))))) [(.i (.ofNat 0))] h)))
/-- slices.Clip[[]crimp/patterns.Crease,crimp/patterns.Crease] -/
def f123(ls:List Lf)(h:HT)(K:List Lf->HT->R):R:=A.unV ls (λO V=>A.un0 V ( A.opt (lenS O) (λa0=>A.opt (lenS O) (λx9=>A.opt (slS 3 O none (some a0) (some x9)) (λU=>A.chk U ( K [(.v U)] h))))))
/-- slices.IndexFunc[[]crimp/patterns.Crease,crimp/patterns.Crease] -/
def f124(ls:List Lf)(h:HT)(K:List Lf->HT->R):R:=A.unV ls (λO V=>A.unV V (λa0 a1=>A.un0 a1 ( A.opt (lenS O) (λa2=>A.loop (λa3 a4 h13=>A.unI a4 (λn14 a5=>A.un0 a5 ( A.cmp .lss n14 a2 (λa6=>A.cond a6 ( A.opt (idS 3 O n14) (λa7=>A.peek (.lg cc 3 a7) h13 (λa8=>A.ucI .i64 a8 (λn19 a9=>A.ucI .u8 a9 (λn21 b0=>A.ucI .u8 b0 (λb1 b2=>A.uc0 b2 ( A.callv a0 [(.agg ⟨[(.int .i64 n19),(.int .u8 n21),(.int .u8 b1)]⟩)] [(.leaf .b)] h13 (λb3 U=>A.unB b3 (λb4 b5=>A.un0 b5 ( A.cond b4 ( K [(.i n14)] U) ( A.ari .add .i64 n14 (.ofNat 1) (λb6=>a3 [(.i b6)] U)))))))))))) ( K [(.i (.negSucc 0))] h13))))) [(.i (.ofNat 0))] h))))
/-- crimp/sheets.Neighbour -/
def f125(ls:List Lf)(h:HT)(K:List Lf->HT->R):R:=A.unI ls (λO a1=>A.unI a1 (λU a2=>A.unI a2 (λn10 a3=>A.unI a3 (λn12 a4=>A.un0 a4 ( A.call 95 [(.i O),(.i U),(.i n10)] h (λa5 V=>A.unI a5 (λn16 a6=>A.unI a6 (λn18 a7=>A.unI a7 (λn20 a8=>A.unI a8 (λn22 a9=>A.un0 a9 ( A.cmp .neq n22 (.ofNat 0) (λb0=>A.cond b0 ( K [(.i (.ofNat 0)),(.i n22)] V) ( A.call 114 [(.i n16),(.i n18),(.i n20),(.i n12)] V (λb1 a0=>A.unI b1 (λb2 b3=>A.unI b3 (λb4 b5=>A.unI b5 (λn31 b6=>A.unI b6 (λb7 b8=>A.un0 b8 ( A.cmp .neq b7 (.ofNat 0) (λb9=>A.cond b9 ( K [(.i (.ofNat 0)),(.i (.ofNat 1))] a0) ( A.call 110 [(.i O),(.i U),(.i b2),(.i b4),(.i n31)] a0 (λc0 h37=>A.unI c0 (λn38 c1=>A.unI c1 (λn40 d0=>A.un0 d0 ( K [(.i n38),(.i n40)] h37)))))))))))))))))))))))))
/-- slices.Clip[[]crimp/api.Point,crimp/api.Point] -/
def f126(ls:List Lf)(h:HT)(K:List Lf->HT->R):R:=A.unV ls (λO V=>A.un0 V ( A.opt (lenS O) (λa0=>A.opt (lenS O) (λx9=>A.opt (slS 2 O none (some a0) (some x9)) (λU=>A.chk U ( K [(.v U)] h))))))
/-- crimp/places.creased -/
def f127(ls:List Lf)(h:HT)(K:List Lf->HT->R):R:=A.unI ls (λb6 V=>A.unI V (λb7 a0=>A.unV a0 (λO a1=>A.un0 a1 ( A.opt (lenS O) (λx12=>A.new (.map [] 0) h (λU a2=>A.opt (lenS O) (λa3=>A.loop (λa4 a5 h18=>A.unI a5 (λn19 a6=>A.un0 a6 ( A.cmp .lss n19 a3 (λa7=>A.cond a7 ( A.opt (idS 3 O n19) (λa8=>A.peek (.lg cc 3 a8) h18 (λa9=>A.ucI .i64 a9 (λn24 b0=>A.ucI .u8 b0 (λb1 b2=>A.ucI .u8 b2 (λn28 b3=>A.uc0 b3 ( A.heap (.fn (muG cc 54 (.map (some U)) (.agg ⟨[(.int .i64 n24),(.int .u8 b1)]⟩) (.bool true))) h18 (λb8 b4=>A.ari .add .i64 n19 (.ofNat 1) (λb5=>a4 [(.i b5)] b4))))))))) ( K [(.v (.map (some U)))] h18))))) [(.i (.ofNat 0))] a2)))))))
/-- crimp/sheets.Count -/
def f128(ls:List Lf)(h:HT)(K:List Lf->HT->R):R:=A.unI ls (λO V=>A.unI V (λU a0=>A.un0 a0 ( A.call 86 [(.i O),(.i U)] h (λa1 h11=>A.unI a1 (λn12 a2=>A.un0 a2 ( A.cmp .neq n12 (.ofNat 0) (λa3=>A.cond a3 ( K [(.i (.ofNat 0))] h11) ( A.ari .mul .i64 (.ofNat 4) O (λa4=>A.ari .mul .i64 a4 U (λn16=>K [(.i n16)] h11))))))))))
/-- crimp/places.relative$1 -/
def f129(ls:List Lf)(h:HT)(K:List Lf->HT->R):R:=A.unI ls (λU a7=>A.unI a7 (λa8 a9=>A.unV a9 (λa0 b0=>A.unV b0 (λx12 b1=>A.unV b1 (λa1 b2=>A.un0 b2 ( A.opt (fdP 0 a0) (λa2=>A.chk a2 ( A.peek (.lg cc 2 a2) h (λb3=>A.ucI .i64 b3 (λn18 b4=>A.ucI .i64 b4 (λn20 b5=>A.uc0 b5 ( A.call 90 [(.i n18),(.i n20),(.i U),(.i a8)] h (λb6 O=>A.unI b6 (λn24 b7=>A.unI b7 (λa3 b8=>A.unI b8 (λn28 b9=>A.un0 b9 ( A.peek (.lg cc 1 x12) O (λc0=>A.ucV c0 (λa4 c1=>A.chk a4 ( A.uc0 c1 ( A.peek (.fn (luG cc 54 false (.bool false) a4 (.agg ⟨[(.int .i64 n24),(.int .u8 a3)]⟩) false)) O (λd0=>A.ucB d0 (λd1 d2=>A.uc0 d2 ( A.cond (!d1) ( A.peek (.lg cc 1 a1) O (λd3=>A.ucV d3 (λx37 d4=>A.chk x37 ( A.uc0 d4 ( A.opt (idS 3 x37 U) (λd5=>A.peek (.lg cc 3 d5) O (λd6=>A.ucI .u8 d6 (λn41 d7=>A.ucI .i64 d7 (λn43 d8=>A.ucI .i64 d8 (λd9 e0=>A.uc0 e0 ( K [(.i n41),(.i n43),(.i d9)] O))))))))))) ( A.opt (fdP 0 a0) (λa5=>A.chk a5 ( A.peek (.lg cc 2 a5) O (λe1=>A.ucI .i64 e1 (λn49 e2=>A.ucI .i64 e2 (λn51 e4=>A.uc0 e4 ( A.call 130 [(.i n49),(.i n51),(.i n24),(.i a3)] O (λe5 e6=>A.unI e5 (λn55 e7=>A.unI e7 (λn57 e8=>A.unI e8 (λh6 f0=>A.un0 f0 ( A.call 77 [(.i n55),(.i n57)] e6 (λf1 V=>A.unI f1 (λf2 f4=>A.unI f4 (λf5 f6=>A.unI f6 (λn67 f7=>A.unI f7 (λn69 f8=>A.un0 f8 ( A.peek (.lg cc 1 a1) V (λg0=>A.ucV g0 (λa6 g1=>A.chk a6 ( A.uc0 g1 ( A.opt (idS 3 a6 U) (λx74=>A.peek (.lg cc 3 x74) V (λg2=>A.ucI .u8 g2 (λn76 g4=>A.ucI .i64 g4 (λn78 g5=>A.ucI .i64 g5 (λn80 g6=>A.uc0 g6 ( A.call 24 [(.i f2),(.i f5),(.i n67),(.i n76),(.i n78),(.i n80)] V (λg7 g8=>A.unI g7 (λh0 h1=>A.unI h1 (λn86 h2=>A.unI h2 (λn88 h4=>A.unI h4 (λn90 h5=>A.un0 h5 ( K [(.i h0),(.i n86),(.i n88)] g8))))))))))))))))))))))))))))))))))))))))))))))))))))))))))
/-- crimp/sheets.Line -/
def f130(ls:List Lf)(h:HT)(K:List Lf->HT->R):R:=A.unI ls (λU V=>A.unI V (λa0 a1=>A.unI a1 (λn10 a2=>A.unI a2 (λn12 a3=>A.un0 a3 ( A.call 162 [(.i U),(.i a0),(.i n10),(.i n12)] h (λa4 O=>A.unI a4 (λn16 a5=>A.unI a5 (λn18 a6=>A.unI a6 (λn20 a7=>A.unI a7 (λn22 a8=>A.un0 a8 ( A.cmp .neq n22 (.ofNat 0) (λa9=>A.cond a9 ( K [(.i (.ofNat 0)),(.i (.ofNat 0)),(.i n22)] O) ( A.call 163 [(.i n16),(.i n18),(.i n20),(.i n12)] O (λb0 b1=>A.unI b0 (λb2 b3=>A.unI b3 (λb4 b5=>A.unI b5 (λn31 b6=>A.un0 b6 ( K [(.i b2),(.i b4),(.i n31)] b1))))))))))))))))))
/-- (crimp/sheets.Sheet).has -/
def f131(ls:List Lf)(h:HT)(K:List Lf->HT->R):R:=A.unI ls (λU V=>A.unI V (λa0 a1=>A.unI a1 (λn10 a2=>A.un0 a2 ( A.join (λa3 h13=>A.unB a3 (λa4 a5=>A.un0 a5 ( K [(.b a4)] h13))) (λO=>A.cmp .geq n10 (.ofNat 0) (λa6=>A.cond a6 ( A.ari .mul .i64 (.ofNat 4) U (λn18=>A.ari .mul .i64 n18 a0 (λn19=>A.cmp .lss n10 n19 (λa7=>O [(.b a7)] h)))) ( O [(.b false)] h)))))))
/-- (crimp/sheets.Sheet).cell -/
def f132(ls:List Lf)(h:HT)(K:List Lf->HT->R):R:=A.unI ls (λO U=>A.unI U (λa3 V=>A.unI V (λn10 a0=>A.un0 a0 ( A.ari .quo .i64 n10 (.ofNat 4) (λn12=>A.ari .rem .i64 n12 O (λn13=>A.ari .quo .i64 n10 (.ofNat 4) (λn14=>A.ari .quo .i64 n14 O (λa1=>A.ari .rem .i64 n10 (.ofNat 4) (λn16=>A.conv .u8 n16 (λa2=>K [(.i n13),(.i a1),(.i a2)] h))))))))))
/-- crimp/cells.Check -/
def f133(ls:List Lf)(h:HT)(K:List Lf->HT->R):R:=A.unI ls (λO V=>A.unI V (λU a0=>A.unI a0 (λn10 a1=>A.un0 a1 ( A.cmp .lss O (.negSucc 4095) (λa2=>A.cond a2 ( K [(.i (.ofNat 1))] h) ( A.cmp .gtr O (.ofNat 4096) (λa3=>A.cond a3 ( K [(.i (.ofNat 1))] h) ( A.cmp .lss U (.negSucc 4095) (λa4=>A.cond a4 ( K [(.i (.ofNat 1))] h) ( A.cmp .gtr U (.ofNat 4096) (λa5=>A.cond a5 ( K [(.i (.ofNat 1))] h) ( A.cmp .gtr n10 (.ofNat 3) (λa6=>A.cond a6 ( K [(.i (.ofNat 1))] h) ( K [(.i (.ofNat 0))] h))))))))))))))
/-- crimp/cells.moved -/
def f134(ls:List Lf)(h:HT)(K:List Lf->HT->R):R:=A.unI ls (λV a4=>A.unI a4 (λa5 a6=>A.unI a6 (λn10 a7=>A.unI a7 (λn12 a8=>A.unI a8 (λn14 a9=>A.unI a9 (λn16 b0=>A.un0 b0 ( A.call 164 [(.i n12),(.i n14),(.i n16)] h (λb1 b2=>A.unI b1 (λn20 b3=>A.unI b3 (λn22 b4=>A.un0 b4 ( A.opt (inB 4 n16) (λi1=>A.opt (lW gl3 0 [(n16,17)] 2) (λb5=>A.ucI .i64 b5 (λb6 b7=>A.ucI .i64 b7 (λn28 b8=>A.uc0 b8 ( A.call 165 [(.i V),(.i a5),(.i n10),(.i n20),(.i n22)] b2 (λb9 c0=>A.unI b9 (λa0 c1=>A.unI c1 (λa1 d0=>A.unI d0 (λn36 d1=>A.un0 d1 ( A.call 165 [(.i V),(.i (.ofNat 0)),(.i (.ofNat 0)),(.i b6),(.i n28)] c0 (λd2 d3=>A.unI d2 (λn40 d4=>A.unI d4 (λn42 d5=>A.unI d5 (λn44 d6=>A.un0 d6 ( A.ari .and .i64 a0 (.ofNat 1) (λd7=>A.ari .sub .i64 a0 d7 (λd8=>A.ari .quo .i64 d8 (.ofNat 2) (λn48=>A.ari .and .i64 a1 (.ofNat 1) (λn49=>A.ari .sub .i64 a1 n49 (λn50=>A.ari .quo .i64 n50 (.ofNat 2) (λn51=>A.loop (λd9 e0 O=>A.unI e0 (λn55 e1=>A.unI e1 (λn57 e2=>A.unI e2 (λU e4=>A.unI e4 (λa2 e5=>A.un0 e5 ( A.cmp .lss n55 (.ofNat 4) (λe6=>A.cond e6 ( A.opt (inB 4 n55) (λi2=>A.opt (dn [(.i (.ofNat 0)),(.i (.negSucc 0)),(.i (.ofNat 2)),(.i (.ofNat 0)),(.i (.ofNat 0)),(.i (.negSucc 0)),(.i (.ofNat 2)),(.i (.ofNat 0)),(.i (.ofNat 0)),(.i (.ofNat 1)),(.i (.ofNat 0)),(.i (.ofNat 0)),(.i (.ofNat 3)),(.i (.ofNat 0)),(.i (.ofNat 0)),(.i (.ofNat 2)),(.i (.ofNat 0)),(.i (.ofNat 1)),(.i (.ofNat 0)),(.i (.ofNat 1)),(.i (.ofNat 1)),(.i (.ofNat 1)),(.i (.ofNat 0)),(.i (.ofNat 3)),(.i (.ofNat 0)),(.i (.ofNat 0)),(.i (.ofNat 0)),(.i (.ofNat 0)),(.i (.ofNat 0)),(.i (.ofNat 2)),(.i (.ofNat 2)),(.i (.ofNat 2)),(.i (.ofNat 2)),(.i (.ofNat 0)),(.i (.ofNat 0)),(.i (.ofNat 1)),(.i (.ofNat 2)),(.i (.ofNat 1)),(.i (.ofNat 0)),(.i (.ofNat 1)),(.i (.ofNat 0)),(.i (.ofNat 0)),(.i (.ofNat 0)),(.i (.ofNat 3)),(.i (.ofNat 0)),(.i (.ofNat 0)),(.i (.ofNat 1)),(.i (.ofNat 2)),(.i (.ofNat 2)),(.i (.ofNat 0)),(.i (.ofNat 2)),(.i (.negSucc 0)),(.i (.ofNat 0)),(.i (.ofNat 1)),(.i (.ofNat 0)),(.i (.negSucc 0)),(.i (.ofNat 0)),(.i (.ofNat 1)),(.i (.ofNat 0)),(.i (.ofNat 0)),(.i (.ofNat 2)),(.i (.ofNat 0)),(.i (.ofNat 0)),(.i (.ofNat 0)),(.i (.ofNat 0)),(.i (.ofNat 0)),(.i (.ofNat 0)),(.i (.ofNat 2))] 0 [(n55,17)] 17) (λe7=>A.unI e7 (λn66 e8=>A.unI e8 (λn68 f0=>A.unI f0 (λi4 f1=>A.unI f1 (λn72 f2=>A.unI f2 (λn74 f4=>A.unI f4 (λn76 f5=>A.unI f5 (λn78 f6=>A.unI f6 (λn80 f7=>A.unI f7 (λn82 f8=>A.unI f8 (λi5 g0=>A.unI g0 (λn86 g1=>A.unI g1 (λn88 g2=>A.unI g2 (λn90 g4=>A.unI g4 (λn92 g5=>A.unI g5 (λn94 g6=>A.unI g6 (λn96 g7=>A.unI g7 (λi6 g8=>A.un0 g8 ( A.eqs [((.i n66),(.i n40)),((.i n68),(.i n42))] (λh0=>A.join (λh1 h2=>A.unI h1 (λh4 h5=>A.unI h5 (λh6 h7=>A.unI h7 (λh8 i0=>A.un0 i0 ( A.ari .add .i64 n55 (.ofNat 1) (λn109=>d9 [(.i n109),(.i h4),(.i h6),(.i h8)] h2)))))) (λa3=>A.cond h0 ( A.conv .u8 n55 (λn111=>a3 [(.i n57),(.i U),(.i n111)] O)) ( a3 [(.i n57),(.i U),(.i a2)] O)))))))))))))))))))))))) ( K [(.i n57),(.i U),(.i a2)] O)))))))) [(.i (.ofNat 0)),(.i n48),(.i n51),(.i (.ofNat 0))] d3))))))))))))))))))))))))))))))))
/-- crimp/cells.Corners -/
def f141(ls:List Lf)(h:HT)(K:List Lf->HT->R):R:=A.unI ls (λa0 a4=>A.unI a4 (λa1 a5=>A.unI a5 (λn10 a6=>A.un0 a6 ( A.call 133 [(.i a0),(.i a1),(.i n10)] h (λa7 h13=>A.unI a7 (λn14 a8=>A.un0 a8 ( A.cmp .neq n14 (.ofNat 0) (λa9=>A.cond a9 ( K [(.i (.ofNat 0)),(.i (.ofNat 0)),(.i (.ofNat 0)),(.i (.ofNat 0)),(.i (.ofNat 0)),(.i (.ofNat 0)),(.i (.ofNat 1))] h13) ( A.opt (inB 4 n10) (λh7=>A.opt (lW gl3 0 [(n10,17)] 17) (λx18=>A.ucI .i64 x18 (λn19 b0=>A.ucI .i64 b0 (λn21 b1=>A.ucI .u8 b1 (λh8 b2=>A.ucI .i64 b2 (λi0 b3=>A.ucI .i64 b3 (λi1 b4=>A.ucI .i64 b4 (λi2 b5=>A.ucI .u8 b5 (λn31 b6=>A.ucI .i64 b6 (λi4 b7=>A.ucI .i64 b7 (λn35 b8=>A.ucI .u8 b8 (λn37 b9=>A.ucI .i64 b9 (λn39 c0=>A.ucI .i64 c0 (λn41 c1=>A.ucI .u8 c1 (λn43 d0=>A.ucI .i64 d0 (λd1 d2=>A.ucI .i64 d2 (λd3 d4=>A.ucI .i64 d4 (λn49 d5=>A.ucI .i64 d5 (λn51 d6=>A.uc0 d6 ( A.loop (λd7 d8 a2=>A.unI d8 (λn56 d9=>A.unI d9 (λn58 e0=>A.unI e0 (λO e1=>A.unI e1 (λU e2=>A.unI e2 (λV e4=>A.unI e4 (λn66 e5=>A.unI e5 (λn68 e6=>A.un0 e6 ( A.cmp .lss n56 (.ofNat 3) (λe7=>A.cond e7 ( A.opt (inB 3 n56) (λi5=>A.opt (dn [(.i n58),(.i O),(.i U),(.i V),(.i n66),(.i n68)] 0 [(n56,2)] 1) (λe8=>A.unI e8 (λn73 f0=>A.un0 f0 ( A.ari .mul .i64 (.ofNat 2) a0 (λn75=>A.ari .add .i64 n73 n75 (λn76=>A.opt (inB 3 n56) (λi6=>A.opt (putL [(.i n58),(.i O),(.i U),(.i V),(.i n66),(.i n68)] 0 [(n56,2)] [(.i n76)]) (λf1=>A.unI f1 (λn79 f2=>A.unI f2 (λn81 f4=>A.unI f4 (λn83 f5=>A.unI f5 (λa3 f6=>A.unI f6 (λn87 f7=>A.unI f7 (λn89 f8=>A.un0 f8 ( A.opt (inB 3 n56) (λi7=>A.opt (dn [(.i n79),(.i n81),(.i n83),(.i a3),(.i n87),(.i n89)] 1 [(n56,2)] 1) (λg0=>A.unI g0 (λn93 g1=>A.un0 g1 ( A.ari .mul .i64 (.ofNat 2) a1 (λn95=>A.ari .add .i64 n93 n95 (λn96=>A.opt (inB 3 n56) (λi8=>A.opt (putL [(.i n79),(.i n81),(.i n83),(.i a3),(.i n87),(.i n89)] 1 [(n56,2)] [(.i n96)]) (λg2=>A.unI g2 (λg4 g5=>A.unI g5 (λg6 g7=>A.unI g7 (λg8 h0=>A.unI h0 (λh1 h2=>A.unI h2 (λh4 h5=>A.unI h5 (λn109 h6=>A.un0 h6 ( A.ari .add .i64 n56 (.ofNat 1) (λn111=>d7 [(.i n111),(.i g4),(.i g6),(.i g8),(.i h1),(.i h4),(.i n109)] a2)))))))))))))))))))))))))))))))) ( K [(.i n58),(.i O),(.i U),(.i V),(.i n66),(.i n68),(.i (.ofNat 0))] a2))))))))))) [(.i (.ofNat 0)),(.i (.ofNat 1)),(.i (.ofNat 1)),(.i d1),(.i d3),(.i n49),(.i n51)] h13)))))))))))))))))))))))))))))
/-- crimp/sheets.Ends -/
def f142(ls:List Lf)(h:HT)(K:List Lf->HT->R):R:=A.unI ls (λa5 a6=>A.unI a6 (λa7 a8=>A.unI a8 (λn10 a9=>A.unI a9 (λn12 b0=>A.un0 b0 ( A.call 162 [(.i a5),(.i a7),(.i n10),(.i n12)] h (λb1 a0=>A.unI b1 (λn16 b2=>A.unI b2 (λn18 b3=>A.unI b3 (λn20 b4=>A.unI b4 (λn22 b5=>A.un0 b5 ( A.cmp .neq n22 (.ofNat 0) (λb6=>A.cond b6 ( K [(.i (.ofNat 0)),(.i (.ofNat 0)),(.i (.ofNat 0)),(.i (.ofNat 0)),(.i n22)] a0) ( A.call 141 [(.i n16),(.i n18),(.i n20)] a0 (λb7 V=>A.unI b7 (λa1 b8=>A.unI b8 (λa2 b9=>A.unI b9 (λn31 c0=>A.unI c0 (λa3 c1=>A.unI c1 (λn35 d0=>A.unI d0 (λn37 d1=>A.unI d1 (λn39 d2=>A.un0 d2 ( A.ari .add .u8 n12 (.ofNat 1) (λn41=>A.ari .rem .u8 n41 (.ofNat 3) (λn42=>A.opt (inB 3 n42) (λf2=>A.opt (dn [(.i a1),(.i a2),(.i n31),(.i a3),(.i n35),(.i n37)] 0 [(n42,2)] 2) (λd3=>A.unI d3 (λO d4=>A.unI d4 (λU d5=>A.un0 d5 ( A.ari .add .u8 n12 (.ofNat 2) (λn49=>A.ari .rem .u8 n49 (.ofNat 3) (λn50=>A.opt (inB 3 n50) (λf4=>A.opt (dn [(.i a1),(.i a2),(.i n31),(.i a3),(.i n35),(.i n37)] 0 [(n50,2)] 2) (λd6=>A.unI d6 (λn53 d7=>A.unI d7 (λn55 d8=>A.un0 d8 ( A.cmp .lss n53 O (λd9=>A.cond d9 ( K [(.i n53),(.i n55),(.i O),(.i U),(.i (.ofNat 0))] V) ( A.cmp .eql n53 O (λe0=>A.cond e0 ( A.cmp .lss n55 U (λe1=>A.join (λe2 e4=>A.unI e2 (λe5 e6=>A.unI e6 (λe7 e8=>A.unI e8 (λn66 f0=>A.unI f0 (λn68 f1=>A.un0 f1 ( K [(.i e5),(.i e7),(.i n66),(.i n68),(.i (.ofNat 0))] e4)))))) (λa4=>A.cond e1 ( a4 [(.i n53),(.i n55),(.i O),(.i U)] V) ( a4 [(.i O),(.i U),(.i n53),(.i n55)] V)))) ( K [(.i O),(.i U),(.i n53),(.i n55),(.i (.ofNat 0))] V))))))))))))))))))))))))))))))))))))))))
/-- crimp/corners.sign -/
def f143(ls:List Lf)(h:HT)(K:List Lf->HT->R):R:=A.unI ls (λO U=>A.un0 U ( A.cmp .lss O (.negSucc 0) (λV=>A.sel V (.negSucc 0) O (λn9=>A.cmp .lss (.ofNat 1) n9 (λa0=>A.sel a0 (.ofNat 1) n9 (λn11=>K [(.i n11)] h))))))
/-- slices.Index[[]crimp/api.Point,crimp/api.Point] -/
def f144(ls:List Lf)(h:HT)(K:List Lf->HT->R):R:=A.unV ls (λU V=>A.unI V (λa0 a1=>A.unI a1 (λn10 a2=>A.un0 a2 ( A.opt (lenS U) (λx12=>A.loop (λa3 a4 O=>A.unI a4 (λn16 a5=>A.un0 a5 ( A.cmp .lss n16 x12 (λa6=>A.cond a6 ( A.opt (idS 2 U n16) (λa7=>A.peek (.lg cc 2 a7) O (λa8=>A.ucI .i64 a8 (λn21 a9=>A.ucI .i64 a9 (λb0 b1=>A.uc0 b1 ( A.eqs [((.i a0),(.i n21)),((.i n10),(.i b0))] (λb2=>A.cond b2 ( K [(.i n16)] O) ( A.ari .add .i64 n16 (.ofNat 1) (λb3=>a3 [(.i b3)] O))))))))) ( K [(.i (.negSucc 0))] O))))) [(.i (.ofNat 0))] h)))))
/-- crimp/patterns.find -/
def f145(ls:List Lf)(h:HT)(K:List Lf->HT->R):R:=A.unV ls (λO U=>A.unI U (λV a0=>A.unI a0 (λn10 a1=>A.un0 a1 ( A.call 175 [(.v O),(.i V),(.i n10),(.v (.func (.func 176) ⟨[]⟩ ⟨[]⟩))] h (λa2 h13=>A.unI a2 (λn14 a3=>A.unB a3 (λa4 a5=>A.un0 a5 ( K [(.i n14),(.b a4)] h13))))))))
/-- slices.insertionSortCmpFunc[crimp/corners.Ray] -/
def f146(ls:List Lf)(h:HT)(K:List Lf->HT->R):R:=A.unV ls (λO a3=>A.unI a3 (λa0 a4=>A.unI a4 (λn10 a5=>A.unV a5 (λx12 a6=>A.un0 a6 ( A.ari .add .i64 a0 (.ofNat 1) (λn14=>A.loop (λa7 a8 a1=>A.unI a8 (λn18 a9=>A.un0 a9 ( A.cmp .lss n18 n10 (λb0=>A.cond b0 ( A.join (λb1 h22=>A.un0 b1 ( A.ari .add .i64 n18 (.ofNat 1) (λb2=>a7 [(.i b2)] h22))) (λa2=>A.loop (λb3 b4 U=>A.unI b4 (λn28 b5=>A.un0 b5 ( A.cmp .gtr n28 a0 (λb6=>A.cond b6 ( A.opt (idS 2 O n28) (λb7=>A.peek (.lg cc 2 b7) U (λb8=>A.ucI .i64 b8 (λb9 c0=>A.ucI .u8 c0 (λn35 c1=>A.uc0 c1 ( A.ari .sub .i64 n28 (.ofNat 1) (λn37=>A.opt (idS 2 O n37) (λx38=>A.peek (.lg cc 2 x38) U (λd0=>A.ucI .i64 d0 (λn40 d1=>A.ucI .u8 d1 (λn42 d2=>A.uc0 d2 ( A.callv x12 [(.agg ⟨[(.int .i64 b9),(.int .u8 n35)]⟩),(.agg ⟨[(.int .i64 n40),(.int .u8 n42)]⟩)] [(.leaf (.i .i64))] U (λd3 V=>A.unI d3 (λd4 d5=>A.un0 d5 ( A.cmp .lss d4 (.ofNat 0) (λd6=>A.cond d6 ( A.ari .sub .i64 n28 (.ofNat 1) (λn49=>A.ari .sub .i64 n28 (.ofNat 1) (λn50=>A.opt (idS 2 O n50) (λd7=>A.peek (.lg cc 2 d7) V (λd8=>A.ucI .i64 d8 (λn53 d9=>A.ucI .u8 d9 (λn55 e0=>A.uc0 e0 ( A.opt (idS 2 O n28) (λe1=>A.peek (.lg cc 2 e1) V (λe2=>A.ucI .i64 e2 (λe4 e5=>A.ucI .u8 e5 (λe6 e7=>A.uc0 e7 ( A.opt (idS 2 O n28) (λe8=>A.heap (.st e8 [(.int .i64 n53),(.int .u8 n55)]) V (λf4 f0=>A.opt (idS 2 O n49) (λf1=>A.heap (.st f1 [(.int .i64 e4),(.int .u8 e6)]) f0 (λf5 f2=>A.ari .sub .i64 n28 (.ofNat 1) (λn69=>b3 [(.i n69)] f2)))))))))))))))))) ( a2 [] V))))))))))))))))) ( a2 [] U))))) [(.i n18)] a1)) ( K [] a1))))) [(.i n14)] h))))))
/-- math/bits.Len64 -/
def f155(ls:List Lf)(h:HT)(K:List Lf->HT->R):R:=A.unI ls (λO a2=>A.un0 a2 ( A.cmp .geq O (.ofNat 4294967296) (λa3=>A.join (λa4 h10=>A.unI a4 (λn11 a5=>A.unI a5 (λn13 a6=>A.un0 a6 ( A.cmp .geq n11 (.ofNat 65536) (λa7=>A.join (λa8 U=>A.unI a8 (λn18 a9=>A.unI a9 (λn20 b0=>A.un0 b0 ( A.cmp .geq n18 (.ofNat 256) (λb1=>A.join (λb2 b3=>A.unI b2 (λb4 b5=>A.unI b5 (λb6 b7=>A.un0 b7 ( A.conv .u8 b4 (λb8=>A.opt (strAt (.mk ⟨[.ofNat 0,.ofNat 1,.ofNat 2,.ofNat 2,.ofNat 3,.ofNat 3,.ofNat 3,.ofNat 3,.ofNat 4,.ofNat 4,.ofNat 4,.ofNat 4,.ofNat 4,.ofNat 4,.ofNat 4,.ofNat 4,.ofNat 5,.ofNat 5,.ofNat 5,.ofNat 5,.ofNat 5,.ofNat 5,.ofNat 5,.ofNat 5,.ofNat 5,.ofNat 5,.ofNat 5,.ofNat 5,.ofNat 5,.ofNat 5,.ofNat 5,.ofNat 5,.ofNat 6,.ofNat 6,.ofNat 6,.ofNat 6,.ofNat 6,.ofNat 6,.ofNat 6,.ofNat 6,.ofNat 6,.ofNat 6,.ofNat 6,.ofNat 6,.ofNat 6,.ofNat 6,.ofNat 6,.ofNat 6,.ofNat 6,.ofNat 6,.ofNat 6,.ofNat 6,.ofNat 6,.ofNat 6,.ofNat 6,.ofNat 6,.ofNat 6,.ofNat 6,.ofNat 6,.ofNat 6,.ofNat 6,.ofNat 6,.ofNat 6,.ofNat 6,.ofNat 7,.ofNat 7,.ofNat 7,.ofNat 7,.ofNat 7,.ofNat 7,.ofNat 7,.ofNat 7,.ofNat 7,.ofNat 7,.ofNat 7,.ofNat 7,.ofNat 7,.ofNat 7,.ofNat 7,.ofNat 7,.ofNat 7,.ofNat 7,.ofNat 7,.ofNat 7,.ofNat 7,.ofNat 7,.ofNat 7,.ofNat 7,.ofNat 7,.ofNat 7,.ofNat 7,.ofNat 7,.ofNat 7,.ofNat 7,.ofNat 7,.ofNat 7,.ofNat 7,.ofNat 7,.ofNat 7,.ofNat 7,.ofNat 7,.ofNat 7,.ofNat 7,.ofNat 7,.ofNat 7,.ofNat 7,.ofNat 7,.ofNat 7,.ofNat 7,.ofNat 7,.ofNat 7,.ofNat 7,.ofNat 7,.ofNat 7,.ofNat 7,.ofNat 7,.ofNat 7,.ofNat 7,.ofNat 7,.ofNat 7,.ofNat 7,.ofNat 7,.ofNat 7,.ofNat 7,.ofNat 7,.ofNat 7,.ofNat 7,.ofNat 7,.ofNat 8,.ofNat 8,.ofNat 8,.ofNat 8,.ofNat 8,.ofNat 8,.ofNat 8,.ofNat 8,.ofNat 8,.ofNat 8,.ofNat 8,.ofNat 8,.ofNat 8,.ofNat 8,.ofNat 8,.ofNat 8,.ofNat 8,.ofNat 8,.ofNat 8,.ofNat 8,.ofNat 8,.ofNat 8,.ofNat 8,.ofNat 8,.ofNat 8,.ofNat 8,.ofNat 8,.ofNat 8,.ofNat 8,.ofNat 8,.ofNat 8,.ofNat 8,.ofNat 8,.ofNat 8,.ofNat 8,.ofNat 8,.ofNat 8,.ofNat 8,.ofNat 8,.ofNat 8,.ofNat 8,.ofNat 8,.ofNat 8,.ofNat 8,.ofNat 8,.ofNat 8,.ofNat 8,.ofNat 8,.ofNat 8,.ofNat 8,.ofNat 8,.ofNat 8,.ofNat 8,.ofNat 8,.ofNat 8,.ofNat 8,.ofNat 8,.ofNat 8,.ofNat 8,.ofNat 8,.ofNat 8,.ofNat 8,.ofNat 8,.ofNat 8,.ofNat 8,.ofNat 8,.ofNat 8,.ofNat 8,.ofNat 8,.ofNat 8,.ofNat 8,.ofNat 8,.ofNat 8,.ofNat 8,.ofNat 8,.ofNat 8,.ofNat 8,.ofNat 8,.ofNat 8,.ofNat 8,.ofNat 8,.ofNat 8,.ofNat 8,.ofNat 8,.ofNat 8,.ofNat 8,.ofNat 8,.ofNat 8,.ofNat 8,.ofNat 8,.ofNat 8,.ofNat 8,.ofNat 8,.ofNat 8,.ofNat 8,.ofNat 8,.ofNat 8,.ofNat 8,.ofNat 8,.ofNat 8,.ofNat 8,.ofNat 8,.ofNat 8,.ofNat 8,.ofNat 8,.ofNat 8,.ofNat 8,.ofNat 8,.ofNat 8,.ofNat 8,.ofNat 8,.ofNat 8,.ofNat 8,.ofNat 8,.ofNat 8,.ofNat 8,.ofNat 8,.ofNat 8,.ofNat 8,.ofNat 8,.ofNat 8,.ofNat 8,.ofNat 8,.ofNat 8,.ofNat 8,.ofNat 8,.ofNat 8,.ofNat 8]⟩) b8) (λb9=>A.conv .i64 b9 (λn31=>A.ari .add .i64 b6 n31 (λc0=>K [(.i c0)] b3)))))))) (λV=>A.cond b1 ( A.shf .shr .u64 n18 .u64 (.ofNat 8) (λc1=>A.ari .add .i64 n20 (.ofNat 8) (λn35=>V [(.i c1),(.i n35)] U))) ( V [(.i n18),(.i n20)] U))))))) (λa0=>A.cond a7 ( A.shf .shr .u64 n11 .u64 (.ofNat 16) (λn37=>A.ari .add .i64 n13 (.ofNat 16) (λn38=>a0 [(.i n37),(.i n38)] h10))) ( a0 [(.i n11),(.i n13)] h10))))))) (λa1=>A.cond a3 ( A.shf .shr .u64 O .u64 (.ofNat 32) (λn40=>a1 [(.i n40),(.i (.ofNat 32))] h)) ( a1 [(.i O),(.i (.ofNat 0))] h)))))
/-- crimp/sheets.Units -/
def f156(ls:List Lf)(h:HT)(K:List Lf->HT->R):R:=A.unI ls (λO a1=>A.unI a1 (λU a2=>A.un0 a2 ( A.call 86 [(.i O),(.i U)] h (λa3 h11=>A.unI a3 (λn12 a4=>A.un0 a4 ( A.cmp .neq n12 (.ofNat 0) (λa5=>A.cond a5 ( K [(.v (.slice none 0 0)),(.i n12)] h11) ( A.new (.cells [(.slice none 0 0)] 1 true) h11 (λV a6=>A.call 182 [(.i O),(.i U)] a6 (λa7 h18=>A.unV a7 (λa8 a9=>A.un0 a9 ( A.rfun 2496 a8 [(.pointer (some ⟨V,0,none⟩))] h18 (λb0 h22=>A.pend b0 ( A.peek (.lg cc 1 (.pointer (some ⟨V,0,none⟩))) h22 (λb1=>A.ucV b1 (λa0 b2=>A.chk a0 ( A.uc0 b2 ( A.call 159 [(.v a0)] h22 (λb3 b4=>A.unV b3 (λb5 b6=>A.un0 b6 ( K [(.v b5),(.i (.ofNat 0))] b4)))))))) ( K [(.v (.slice none 0 0)),(.i (.ofNat 0))] h22) [])))))))))))))
/-- crimp/segments.lies -/
def f157(ls:List Lf)(h:HT)(K:List Lf->HT->R):R:=A.unI ls (λO V=>A.unI V (λU a0=>A.unI a0 (λn10 a1=>A.unI a1 (λn12 a2=>A.un0 a2 ( A.call 130 [(.i O),(.i U),(.i n10),(.i n12)] h (λa3 a4=>A.unI a3 (λn16 a5=>A.unI a5 (λn18 a6=>A.unI a6 (λn20 a7=>A.un0 a7 ( A.call 142 [(.i O),(.i U),(.i n10),(.i n12)] a4 (λa8 a9=>A.unI a8 (λn24 b0=>A.unI b0 (λb1 b2=>A.unI b2 (λn28 b3=>A.unI b3 (λn30 b4=>A.unI b4 (λd0 b5=>A.un0 b5 ( A.call 183 [(.i n16),(.i n24),(.i b1)] a9 (λb6 b7=>A.unI b6 (λn36 b8=>A.un0 b8 ( A.call 183 [(.i n16),(.i n28),(.i n30)] b7 (λb9 c0=>A.unI b9 (λn40 c1=>A.un0 c1 ( K [(.i n16),(.i n18),(.i n36),(.i n40)] c0)))))))))))))))))))))))
/-- crimp/segments.ordinary -/
def f158(ls:List Lf)(h:HT)(K:List Lf->HT->R):R:=A.unI ls (λU a0=>A.unI a0 (λa1 a2=>A.unI a2 (λn10 a3=>A.unI a3 (λn12 a4=>A.unI a4 (λn14 a5=>A.un0 a5 ( A.join (λa6 a7=>A.unB a6 (λa8 a9=>A.un0 a9 ( K [(.b a8)] a7))) (λO=>A.cmp .geq U (.ofNat 1) (λb0=>A.cond b0 ( A.cmp .leq U (.ofNat 3) (λb1=>A.cond b1 ( A.call 80 [(.i a1),(.i n10)] h (λb2 V=>A.unI b2 (λb3 b4=>A.un0 b4 ( A.cmp .eql b3 (.ofNat 0) (λb5=>A.cond b5 ( A.cmp .lss n12 n14 (λb6=>O [(.b b6)] V)) ( O [(.b false)] V)))))) ( O [(.b false)] h))) ( O [(.b false)] h)))))))))
/-- slices.Clip[[]crimp/sheets.Unit,crimp/sheets.Unit] -/
def f159(ls:List Lf)(h:HT)(K:List Lf->HT->R):R:=A.unV ls (λO V=>A.un0 V ( A.opt (lenS O) (λa0=>A.opt (lenS O) (λx9=>A.opt (slS 2 O none (some a0) (some x9)) (λU=>A.chk U ( K [(.v U)] h))))))
/-- slices.pdqsortCmpFunc[crimp/patterns.Crease] -/
def f160(ls:List Lf)(h:HT)(K:List Lf->HT->R):R:=A.unV ls (λU g0=>A.unI g0 (λg1 g2=>A.unI g2 (λn10 g4=>A.unI g4 (λn12 g5=>A.unV g5 (λV g6=>A.un0 g6 ( A.loop (λg7 g8 h18=>A.unI g8 (λn19 h0=>A.unI h0 (λn21 h1=>A.unB h1 (λa9 h2=>A.unB h2 (λa8 h4=>A.unI h4 (λO h5=>A.un0 h5 ( A.join (λh6 h7=>A.unI h6 (λn31 h8=>A.unI h8 (λi0 i1=>A.unB i1 (λi2 i4=>A.unB i4 (λi5 i6=>A.unI i6 (λn39 i7=>A.un0 i7 ( g7 [(.i n31),(.i i0),(.b i2),(.b i5),(.i n39)] h7))))))) (λa2=>A.ari .sub .i64 O n21 (λn42=>A.cmp .leq n42 (.ofNat 12) (λi8=>A.cond i8 ( A.call 184 [(.v U),(.i n21),(.i O),(.v V)] h18 (λj0 j1=>A.un0 j0 ( K [] j1))) ( A.cmp .eql n19 (.ofNat 0) (λj2=>A.cond j2 ( A.call 185 [(.v U),(.i n21),(.i O),(.v V)] h18 (λj3 j4=>A.un0 j3 ( K [] j4))) ( A.join (λj5 j6=>A.unI j5 (λn51 j7=>A.un0 j7 ( A.call 187 [(.v U),(.i n21),(.i O),(.v V)] j6 (λj8 b3=>A.unI j8 (λn55 j9=>A.unI j9 (λn57 k0=>A.un0 k0 ( A.cmp .eql n57 (.ofNat 2) (λk1=>A.join (λk2 a1=>A.unI k2 (λa0 k3=>A.unI k3 (λk4 k5=>A.un0 k5 ( A.cond a8 ( A.cond a9 ( A.cmp .eql k4 (.ofNat 1) (λk6=>A.join (λk7 b0=>A.un0 k7 ( A.cmp .gtr n21 (.ofNat 0) (λk8=>A.cond k8 ( A.ari .sub .i64 n21 (.ofNat 1) (λk9=>A.opt (idS 3 U k9) (λl0=>A.peek (.lg cc 3 l0) b0 (λl1=>A.ucI .i64 l1 (λn73 l2=>A.ucI .u8 l2 (λn75 l3=>A.ucI .u8 l3 (λn77 l4=>A.uc0 l4 ( A.opt (idS 3 U a0) (λl5=>A.peek (.lg cc 3 l5) b0 (λl6=>A.ucI .i64 l6 (λn81 l7=>A.ucI .u8 l7 (λn83 l8=>A.ucI .u8 l8 (λl9 m0=>A.uc0 m0 ( A.callv V [(.agg ⟨[(.int .i64 n73),(.int .u8 n75),(.int .u8 n77)]⟩),(.agg ⟨[(.int .i64 n81),(.int .u8 n83),(.int .u8 l9)]⟩)] [(.leaf (.i .i64))] b0 (λm1 h88=>A.unI m1 (λn89 m2=>A.un0 m2 ( A.cmp .lss n89 (.ofNat 0) (λm3=>A.join (λm4 m5=>A.unI m4 (λn94 m6=>A.un0 m6 ( A.call 191 [(.v U),(.i n94),(.i O),(.i a0),(.v V)] m5 (λm7 b4=>A.unI m7 (λa3 m8=>A.unB m8 (λm9 n0=>A.un0 n0 ( A.ari .sub .i64 a3 n94 (λn102=>A.ari .sub .i64 O a3 (λb5=>A.ari .quo .i64 n42 (.ofNat 8) (λb6=>A.cmp .lss n102 b5 (λn1=>A.join (λn2 n4=>A.unB n2 (λn5 n6=>A.unI n6 (λn110 n7=>A.unI n7 (λn112 n8=>A.un0 n8 ( a2 [(.i n51),(.i n110),(.b m9),(.b n5),(.i n112)] n4))))) (λb7=>A.cond n1 ( A.cmp .geq n102 b6 (λo0=>A.call 160 [(.v U),(.i n94),(.i a3),(.i n51),(.v V)] b4 (λo1 o2=>A.un0 o1 ( A.ari .add .i64 a3 (.ofNat 1) (λn118=>b7 [(.b o0),(.i n118),(.i O)] o2))))) ( A.cmp .geq b5 b6 (λo3=>A.ari .add .i64 a3 (.ofNat 1) (λn120=>A.call 160 [(.v U),(.i n120),(.i O),(.i n51),(.v V)] b4 (λo4 o5=>A.un0 o4 ( b7 [(.b o3),(.i n94),(.i a3)] o5))))))))))))))))) (λo6=>A.cond (!m3) ( A.call 190 [(.v U),(.i n21),(.i O),(.i a0),(.v V)] h88 (λo7 h125=>A.unI o7 (λn126 o8=>A.un0 o8 ( a2 [(.i n51),(.i n126),(.b a9),(.b a8),(.i O)] h125)))) ( o6 [(.i n21)] h88)))))))))))))))))))) ( A.call 191 [(.v U),(.i n21),(.i O),(.i a0),(.v V)] b0 (λo9 b8=>A.unI o9 (λn130 p0=>A.unB p0 (λp1 p2=>A.un0 p2 ( A.ari .sub .i64 n130 n21 (λn134=>A.ari .sub .i64 O n130 (λb9=>A.ari .quo .i64 n42 (.ofNat 8) (λc0=>A.cmp .lss n134 b9 (λp4=>A.join (λp5 p6=>A.unB p5 (λp7 p8=>A.unI p8 (λn142 q0=>A.unI q0 (λn144 q1=>A.un0 q1 ( a2 [(.i n51),(.i n142),(.b p1),(.b p7),(.i n144)] p6))))) (λc1=>A.cond p4 ( A.cmp .geq n134 c0 (λq2=>A.call 160 [(.v U),(.i n21),(.i n130),(.i n51),(.v V)] b8 (λq3 q4=>A.un0 q3 ( A.ari .add .i64 n130 (.ofNat 1) (λq5=>c1 [(.b q2),(.i q5),(.i O)] q4))))) ( A.cmp .geq b9 c0 (λq6=>A.ari .add .i64 n130 (.ofNat 1) (λq7=>A.call 160 [(.v U),(.i q7),(.i O),(.i n51),(.v V)] b8 (λq8 q9=>A.un0 q8 ( c1 [(.b q6),(.i n21),(.i n130)] q9)))))))))))))))))) (λd0=>A.cond k6 ( A.call 189 [(.v U),(.i n21),(.i O),(.v V)] a1 (λr1 d1=>A.unB r1 (λr2 r3=>A.un0 r3 ( A.cond r2 ( K [] d1) ( d0 [] d1))))) ( d0 [] a1)))) ( A.cmp .gtr n21 (.ofNat 0) (λr4=>A.cond r4 ( A.ari .sub .i64 n21 (.ofNat 1) (λn161=>A.opt (idS 3 U n161) (λr5=>A.peek (.lg cc 3 r5) a1 (λr6=>A.ucI .i64 r6 (λn164 r7=>A.ucI .u8 r7 (λr8 r9=>A.ucI .u8 r9 (λs0 s1=>A.uc0 s1 ( A.opt (idS 3 U a0) (λs2=>A.peek (.lg cc 3 s2) a1 (λs3=>A.ucI .i64 s3 (λs4 s5=>A.ucI .u8 s5 (λs6 s7=>A.ucI .u8 s7 (λn176 s8=>A.uc0 s8 ( A.callv V [(.agg ⟨[(.int .i64 n164),(.int .u8 r8),(.int .u8 s0)]⟩),(.agg ⟨[(.int .i64 s4),(.int .u8 s6),(.int .u8 n176)]⟩)] [(.leaf (.i .i64))] a1 (λs9 d2=>A.unI s9 (λt0 t1=>A.un0 t1 ( A.cmp .lss t0 (.ofNat 0) (λt2=>A.join (λt3 t4=>A.unI t3 (λb1 t5=>A.un0 t5 ( A.call 191 [(.v U),(.i b1),(.i O),(.i a0),(.v V)] t4 (λt6 d3=>A.unI t6 (λa4 t7=>A.unB t7 (λt8 t9=>A.un0 t9 ( A.ari .sub .i64 a4 b1 (λd4=>A.ari .sub .i64 O a4 (λd5=>A.ari .quo .i64 n42 (.ofNat 8) (λd6=>A.cmp .lss d4 d5 (λuc=>A.join (λu0 u1=>A.unB u0 (λu2 u4=>A.unI u4 (λu5 u6=>A.unI u6 (λu7 u8=>A.un0 u8 ( a2 [(.i n51),(.i u5),(.b t8),(.b u2),(.i u7)] u1))))) (λd7=>A.cond uc ( A.cmp .geq d4 d6 (λu9=>A.call 160 [(.v U),(.i b1),(.i a4),(.i n51),(.v V)] d3 (λvd ve=>A.un0 vd ( A.ari .add .i64 a4 (.ofNat 1) (λvf=>d7 [(.b u9),(.i vf),(.i O)] ve))))) ( A.cmp .geq d5 d6 (λvg=>A.ari .add .i64 a4 (.ofNat 1) (λvh=>A.call 160 [(.v U),(.i vh),(.i O),(.i n51),(.v V)] d3 (λvi vj=>A.un0 vi ( d7 [(.b vg),(.i b1),(.i a4)] vj))))))))))))))))) (λvk=>A.cond (!t2) ( A.call 190 [(.v U),(.i n21),(.i O),(.i a0),(.v V)] d2 (λvl vm=>A.unI vl (λvn vo=>A.un0 vo ( a2 [(.i n51),(.i vn),(.b a9),(.b a8),(.i O)] vm)))) ( vk [(.i n21)] d2)))))))))))))))))))) ( A.call 191 [(.v U),(.i n21),(.i O),(.i a0),(.v V)] a1 (λvp d8=>A.unI vp (λa5 vq=>A.unB vq (λvr vt=>A.un0 vt ( A.ari .sub .i64 a5 n21 (λd9=>A.ari .sub .i64 O a5 (λe0=>A.ari .quo .i64 n42 (.ofNat 8) (λe1=>A.cmp .lss d9 e0 (λvu=>A.join (λvw vx=>A.unB vw (λvy vz=>A.unI vz (λvA vB=>A.unI vB (λvC vD=>A.un0 vD ( a2 [(.i n51),(.i vA),(.b vr),(.b vy),(.i vC)] vx))))) (λe2=>A.cond vu ( A.cmp .geq d9 e1 (λvE=>A.call 160 [(.v U),(.i n21),(.i a5),(.i n51),(.v V)] d8 (λvF vG=>A.un0 vF ( A.ari .add .i64 a5 (.ofNat 1) (λvH=>e2 [(.b vE),(.i vH),(.i O)] vG))))) ( A.cmp .geq e0 e1 (λvI=>A.ari .add .i64 a5 (.ofNat 1) (λvJ=>A.call 160 [(.v U),(.i vJ),(.i O),(.i n51),(.v V)] d8 (λvK vL=>A.un0 vK ( e2 [(.b vI),(.i n21),(.i a5)] vL)))))))))))))))))) ( A.cmp .gtr n21 (.ofNat 0) (λvM=>A.cond vM ( A.ari .sub .i64 n21 (.ofNat 1) (λvN=>A.opt (idS 3 U vN) (λvO=>A.peek (.lg cc 3 vO) a1 (λvP=>A.ucI .i64 vP (λvQ vR=>A.ucI .u8 vR (λvS vT=>A.ucI .u8 vT (λvU vV=>A.uc0 vV ( A.opt (idS 3 U a0) (λvW=>A.peek (.lg cc 3 vW) a1 (λvX=>A.ucI .i64 vX (λvY vZ=>A.ucI .u8 vZ (λv0 v1=>A.ucI .u8 v1 (λv2 v3=>A.uc0 v3 ( A.callv V [(.agg ⟨[(.int .i64 vQ),(.int .u8 vS),(.int .u8 vU)]⟩),(.agg ⟨[(.int .i64 vY),(.int .u8 v0),(.int .u8 v2)]⟩)] [(.leaf (.i .i64))] a1 (λv4 e4=>A.unI v4 (λv5 v6=>A.un0 v6 ( A.cmp .lss v5 (.ofNat 0) (λv7=>A.join (λv8 v9=>A.unI v8 (λb2 wc=>A.un0 wc ( A.call 191 [(.v U),(.i b2),(.i O),(.i a0),(.v V)] v9 (λwe e5=>A.unI we (λa6 wg=>A.unB wg (λwh wi=>A.un0 wi ( A.ari .sub .i64 a6 b2 (λe6=>A.ari .sub .i64 O a6 (λe7=>A.ari .quo .i64 n42 (.ofNat 8) (λe8=>A.cmp .lss e6 e7 (λwj=>A.join (λwk wl=>A.unB wk (λwm wn=>A.unI wn (λwo wp=>A.unI wp (λwq wt=>A.un0 wt ( a2 [(.i n51),(.i wo),(.b wh),(.b wm),(.i wq)] wl))))) (λf0=>A.cond wj ( A.cmp .geq e6 e8 (λwu=>A.call 160 [(.v U),(.i b2),(.i a6),(.i n51),(.v V)] e5 (λwv ww=>A.un0 wv ( A.ari .add .i64 a6 (.ofNat 1) (λwy=>f0 [(.b wu),(.i wy),(.i O)] ww))))) ( A.cmp .geq e7 e8 (λwz=>A.ari .add .i64 a6 (.ofNat 1) (λwA=>A.call 160 [(.v U),(.i wA),(.i O),(.i n51),(.v V)] e5 (λwB wC=>A.un0 wB ( f0 [(.b wz),(.i b2),(.i a6)] wC))))))))))))))))) (λwD=>A.cond (!v7) ( A.call 190 [(.v U),(.i n21),(.i O),(.i a0),(.v V)] e4 (λwE wF=>A.unI wE (λwG wH=>A.un0 wH ( a2 [(.i n51),(.i wG),(.b a9),(.b a8),(.i O)] wF)))) ( wD [(.i n21)] e4)))))))))))))))))))) ( A.call 191 [(.v U),(.i n21),(.i O),(.i a0),(.v V)] a1 (λwI f1=>A.unI wI (λa7 wJ=>A.unB wJ (λwK wL=>A.un0 wL ( A.ari .sub .i64 a7 n21 (λf2=>A.ari .sub .i64 O a7 (λf4=>A.ari .quo .i64 n42 (.ofNat 8) (λf5=>A.cmp .lss f2 f4 (λwM=>A.join (λwN wO=>A.unB wN (λwP wQ=>A.unI wQ (λwR wS=>A.unI wS (λwT wU=>A.un0 wU ( a2 [(.i n51),(.i wR),(.b wK),(.b wP),(.i wT)] wO))))) (λf6=>A.cond wM ( A.cmp .geq f2 f5 (λwV=>A.call 160 [(.v U),(.i n21),(.i a7),(.i n51),(.v V)] f1 (λwW wX=>A.un0 wW ( A.ari .add .i64 a7 (.ofNat 1) (λwY=>f6 [(.b wV),(.i wY),(.i O)] wX))))) ( A.cmp .geq f4 f5 (λwZ=>A.ari .add .i64 a7 (.ofNat 1) (λw0=>A.call 160 [(.v U),(.i w0),(.i O),(.i n51),(.v V)] f1 (λw1 w2=>A.un0 w1 ( f6 [(.b wZ),(.i n21),(.i a7)] w2))))))))))))))))))))) (λf7=>A.cond k1 ( A.call 188 [(.v U),(.i n21),(.i O),(.v V)] b3 (λw4 w5=>A.un0 w4 ( A.ari .sub .i64 O (.ofNat 1) (λw6=>A.ari .sub .i64 n55 n21 (λw7=>A.ari .sub .i64 w6 w7 (λw8=>f7 [(.i w8),(.i (.ofNat 1))] w5)))))) ( f7 [(.i n55),(.i n57)] b3)))))))))) (λf8=>A.cond (!a8) ( A.call 186 [(.v U),(.i n21),(.i O),(.v V)] h18 (λxa xd=>A.un0 xa ( A.ari .sub .i64 n19 (.ofNat 1) (λxe=>f8 [(.i xe)] xd)))) ( f8 [(.i n19)] h18))))))))))))))) [(.i n12),(.i g1),(.b true),(.b true),(.i n10)] h))))))
def f161(ls:List Lf)(h:HT)(K:List Lf->HT->R):R:=A.unI ls (λU a1=>A.unI a1 (λV a2=>A.un0 a2 ( A.call 192 [(.i U)] h (λa3 h11=>A.unB a3 (λa4 a5=>A.un0 a5 ( A.call 192 [(.i V)] h11 (λa6 O=>A.unB a6 (λa0 a7=>A.un0 a7 ( A.cond a4 ( A.cond a0 ( K [(.i (.ofNat 0))] O) ( K [(.i (.negSucc 0))] O)) ( A.cond a0 ( K [(.i (.ofNat 1))] O) ( A.cmp .lss U V (λa8=>A.cond a8 ( K [(.i (.negSucc 0))] O) ( A.cmp .gtr U V (λa9=>A.cond a9 ( K [(.i (.ofNat 1))] O) ( K [(.i (.ofNat 0))] O)))))))))))))))
/-- crimp/sheets.named -/
def f162(ls:List Lf)(h:HT)(K:List Lf->HT->R):R:=A.unI ls (λO a1=>A.unI a1 (λU a2=>A.unI a2 (λn10 a3=>A.unI a3 (λn12 a4=>A.un0 a4 ( A.call 86 [(.i O),(.i U)] h (λa5 a0=>A.unI a5 (λn16 a6=>A.un0 a6 ( A.cmp .neq n16 (.ofNat 0) (λa7=>A.cond a7 ( K [(.i (.ofNat 0)),(.i (.ofNat 0)),(.i (.ofNat 0)),(.i n16)] a0) ( A.call 90 [(.i O),(.i U),(.i n10),(.i n12)] a0 (λa8 V=>A.unI a8 (λn21 a9=>A.unI a9 (λb0 b1=>A.unI b1 (λb2 b3=>A.un0 b3 ( A.cmp .neq b2 (.ofNat 0) (λb4=>A.cond b4 ( K [(.i (.ofNat 0)),(.i (.ofNat 0)),(.i (.ofNat 0)),(.i (.ofNat 7))] V) ( A.eqs [((.i n21),(.i n10)),((.i b0),(.i n12))] (λb5=>A.cond (!b5) ( K [(.i (.ofNat 0)),(.i (.ofNat 0)),(.i (.ofNat 0)),(.i (.ofNat 7))] V) ( A.call 132 [(.i O),(.i U),(.i n10)] V (λb6 b7=>A.unI b6 (λn31 b8=>A.unI b8 (λb9 c0=>A.unI c0 (λn35 c1=>A.un0 c1 ( K [(.i n31),(.i b9),(.i n35),(.i (.ofNat 0))] b7))))))))))))))))))))))))
/-- crimp/cells.Line -/
def f163(ls:List Lf)(h:HT)(K:List Lf->HT->R):R:=A.unI ls (λU a7=>A.unI a7 (λV a8=>A.unI a8 (λn10 a9=>A.unI a9 (λn12 b0=>A.un0 b0 ( A.call 133 [(.i U),(.i V),(.i n10)] h (λb1 O=>A.unI b1 (λn16 b2=>A.un0 b2 ( A.cmp .neq n16 (.ofNat 0) (λb3=>A.cond b3 ( K [(.i (.ofNat 0)),(.i (.ofNat 0)),(.i (.ofNat 1))] O) ( A.cmp .gtr n12 (.ofNat 2) (λb4=>A.cond b4 ( K [(.i (.ofNat 0)),(.i (.ofNat 0)),(.i (.ofNat 1))] O) ( A.opt (inB 4 n10) (λg5=>A.opt (lW gl3 0 [(n10,17)] 17) (λb5=>A.ucI .i64 b5 (λn22 b6=>A.ucI .i64 b6 (λn24 b7=>A.ucI .u8 b7 (λa0 b8=>A.ucI .i64 b8 (λn28 b9=>A.ucI .i64 b9 (λn30 c0=>A.ucI .i64 c0 (λg6 c1=>A.ucI .u8 c1 (λg7 d0=>A.ucI .i64 d0 (λn36 d1=>A.ucI .i64 d1 (λn38 d2=>A.ucI .u8 d2 (λn40 d3=>A.ucI .i64 d3 (λn42 d4=>A.ucI .i64 d4 (λn44 d5=>A.ucI .u8 d5 (λg8 d6=>A.ucI .i64 d6 (λn48 d7=>A.ucI .i64 d7 (λn50 d8=>A.ucI .i64 d8 (λn52 d9=>A.ucI .i64 d9 (λn54 e0=>A.uc0 e0 ( A.ari .add .i64 U n28 (λn56=>A.cmp .eql n12 (.ofNat 1) (λe1=>A.join (λe2 e4=>A.unI e2 (λa1 e5=>A.unI e5 (λa2 e6=>A.un0 e6 ( A.call 80 [(.i a1),(.i a2)] e4 (λe7 a3=>A.unI e7 (λn66 e8=>A.un0 e8 ( A.cmp .neq n66 (.ofNat 0) (λf0=>A.cond f0 ( K [(.i (.ofNat 0)),(.i (.ofNat 0)),(.i (.ofNat 3))] a3) ( K [(.i a1),(.i a2),(.i (.ofNat 0))] a3))))))))) (λa4=>A.cond e1 ( A.ari .add .i64 U V (λf1=>A.ari .add .i64 f1 (.ofNat 1) (λn71=>a4 [(.i (.ofNat 3)),(.i n71)] O))) ( A.cmp .eql n12 (.ofNat 2) (λf2=>A.join (λf4 h74=>A.unI f4 (λn75 f5=>A.unI f5 (λn77 f6=>A.un0 f6 ( a4 [(.i n75),(.i n77)] h74)))) (λa5=>A.cond f2 ( A.ari .sub .i64 V U (λn80=>a5 [(.i (.ofNat 4)),(.i n80)] O)) ( A.cmp .eql a0 (.ofNat 2) (λf7=>A.join (λf8 g0=>A.unI f8 (λg1 g2=>A.unI g2 (λn86 g4=>A.un0 g4 ( a5 [(.i g1),(.i n86)] g0)))) (λa6=>A.cond f7 ( A.ari .add .i64 V n28 (λn89=>a6 [(.i a0),(.i n89)] O)) ( a6 [(.i a0),(.i n56)] O))))))))))))))))))))))))))))))))))))))))))
/-- crimp/cells.middle -/
def f164(ls:List Lf)(h:HT)(K:List Lf->HT->R):R:=A.unI ls (λO U=>A.unI U (λV a0=>A.unI a0 (λn10 a1=>A.un0 a1 ( A.ari .mul .i64 (.ofNat 2) O (λn12=>A.ari .add .i64 n12 (.ofNat 1) (λn13=>A.ari .mul .i64 (.ofNat 2) V (λn14=>A.ari .add .i64 n14 (.ofNat 1) (λa2=>K [(.i n13),(.i a2)] h))))))))
/-- crimp/moves.Point -/
def f165(ls:List Lf)(h:HT)(K:List Lf->HT->R):R:=A.unI ls (λO a2=>A.unI a2 (λU a3=>A.unI a3 (λn10 a4=>A.unI a4 (λn12 a5=>A.unI a5 (λn14 a6=>A.un0 a6 ( A.call 54 [(.i O),(.i U),(.i n10)] h (λa7 V=>A.unI a7 (λn18 a8=>A.un0 a8 ( A.cmp .neq n18 (.ofNat 0) (λa9=>A.cond a9 ( K [(.i (.ofNat 0)),(.i (.ofNat 0)),(.i (.ofNat 1))] V) ( A.call 78 [(.i n12),(.i n14)] V (λb0 h22=>A.unI b0 (λb1 b2=>A.un0 b2 ( A.cmp .neq b1 (.ofNat 0) (λb3=>A.cond b3 ( K [(.i (.ofNat 0)),(.i (.ofNat 0)),(.i (.ofNat 1))] h22) ( A.opt (inB 8 O) (λd5=>A.opt (lW gl1 0 [(O,4)] 4) (λb4=>A.ucI .i64 b4 (λn28 b5=>A.ucI .i64 b5 (λn30 b6=>A.ucI .i64 b6 (λb7 b8=>A.ucI .i64 b8 (λb9 c0=>A.uc0 c0 ( A.call 55 [(.i n28),(.i n30),(.i b7),(.i b9),(.i n12),(.i n14)] h22 (λc1 h37=>A.unI c1 (λn38 d0=>A.unI d0 (λn40 d1=>A.un0 d1 ( A.ari .mul .i64 (.ofNat 2) U (λn42=>A.ari .add .i64 n38 n42 (λn43=>A.ari .mul .i64 (.ofNat 2) n10 (λn44=>A.ari .add .i64 n40 n44 (λa0=>A.call 78 [(.i n43),(.i a0)] h37 (λd2 a1=>A.unI d2 (λn48 d3=>A.un0 d3 ( A.cmp .neq n48 (.ofNat 0) (λd4=>A.cond d4 ( K [(.i (.ofNat 0)),(.i (.ofNat 0)),(.i (.ofNat 3))] a1) ( K [(.i n43),(.i a0),(.i (.ofNat 0))] a1))))))))))))))))))))))))))))))))))))
/-- slices.BinarySearchFunc[[]crimp/patterns.Crease,crimp/patterns.Crease,crimp/sheets.Unit] -/
def f175(ls:List Lf)(h:HT)(K:List Lf->HT->R):R:=A.unV ls (λU a5=>A.unI a5 (λa0 a6=>A.unI a6 (λn10 a7=>A.unV a7 (λx12 a8=>A.un0 a8 ( A.opt (lenS U) (λa1=>A.loop (λa9 b0 O=>A.unI b0 (λn18 b1=>A.unI b1 (λn20 b2=>A.un0 b2 ( A.cmp .lss n18 n20 (λb3=>A.cond b3 ( A.ari .add .i64 n18 n20 (λb4=>A.conv .u64 b4 (λn24=>A.shf .shr .u64 n24 .u64 (.ofNat 1) (λb5=>A.conv .i64 b5 (λV=>A.opt (idS 3 U V) (λb6=>A.peek (.lg cc 3 b6) O (λb7=>A.ucI .i64 b7 (λb8 b9=>A.ucI .u8 b9 (λn31 c0=>A.ucI .u8 c0 (λc1 d0=>A.uc0 d0 ( A.callv x12 [(.agg ⟨[(.int .i64 b8),(.int .u8 n31),(.int .u8 c1)]⟩),(.agg ⟨[(.int .i64 a0),(.int .u8 n10)]⟩)] [(.leaf (.i .i64))] O (λd1 a2=>A.unI d1 (λn37 d2=>A.un0 d2 ( A.cmp .lss n37 (.ofNat 0) (λd3=>A.join (λd4 d5=>A.unI d4 (λn42 d6=>A.unI d6 (λn44 d7=>A.un0 d7 ( a9 [(.i n42),(.i n44)] d5)))) (λa3=>A.cond d3 ( A.ari .add .i64 V (.ofNat 1) (λd8=>a3 [(.i d8),(.i n20)] a2)) ( a3 [(.i n18),(.i V)] a2))))))))))))))))) ( A.join (λd9 h49=>A.unI d9 (λn50 e0=>A.unB e0 (λe1 e2=>A.un0 e2 ( K [(.i n50),(.b e1)] h49)))) (λa4=>A.cmp .lss n18 a1 (λe4=>A.cond e4 ( A.opt (idS 3 U n18) (λe5=>A.peek (.lg cc 3 e5) O (λe6=>A.ucI .i64 e6 (λn58 e7=>A.ucI .u8 e7 (λe8 f0=>A.ucI .u8 f0 (λf1 f2=>A.uc0 f2 ( A.callv x12 [(.agg ⟨[(.int .i64 n58),(.int .u8 e8),(.int .u8 f1)]⟩),(.agg ⟨[(.int .i64 a0),(.int .u8 n10)]⟩)] [(.leaf (.i .i64))] O (λf4 f5=>A.unI f4 (λn66 f6=>A.un0 f6 ( A.cmp .eql n66 (.ofNat 0) (λf7=>a4 [(.i n18),(.b f7)] f5))))))))))) ( a4 [(.i n18),(.b false)] O))))))))) [(.i (.ofNat 0)),(.i a1)] h))))))
/-- crimp/patterns.find$1 -/
def f176(ls:List Lf)(h:HT)(K:List Lf->HT->R):R:=A.unI ls (λO U=>A.unI U (λV a0=>A.unI a0 (λn10 a1=>A.unI a1 (λn12 a2=>A.unI a2 (λn14 a3=>A.un0 a3 ( A.call 91 [(.i O),(.i V),(.i n10)] h (λa4 a5=>A.unI a4 (λn18 a6=>A.unI a6 (λn20 a7=>A.un0 a7 ( A.call 92 [(.i n18),(.i n20),(.i n12),(.i n14)] a5 (λa8 a9=>A.unI a8 (λn24 b0=>A.un0 b0 ( K [(.i n24)] a9)))))))))))))
/-- (crimp/sheets.Sheet).all -/
def f182(ls:List Lf)(h:HT)(K:List Lf->HT->R):R:=A.unI ls (λU V=>A.unI V (λa0 a1=>A.un0 a1 ( A.new (.cells [(.int .i64 U),(.int .i64 a0)] 2 true) h (λO h11=>A.chk (.func (.func 197) ⟨[]⟩ ⟨[(.pointer (some ⟨O,0,none⟩))]⟩) ( K [(.v (.func (.func 197) ⟨[]⟩ ⟨[(.pointer (some ⟨O,0,none⟩))]⟩))] h11)))))
/-- crimp/segments.place -/
def f183(ls:List Lf)(h:HT)(K:List Lf->HT->R):R:=A.unI ls (λO U=>A.unI U (λV a0=>A.unI a0 (λn10 a1=>A.un0 a1 ( A.cmp .eql O (.ofNat 1) (λa2=>A.cond a2 ( K [(.i n10)] h) ( K [(.i V)] h))))))
/-- slices.insertionSortCmpFunc[crimp/patterns.Crease] -/
def f184(ls:List Lf)(h:HT)(K:List Lf->HT->R):R:=A.unV ls (λO a2=>A.unI a2 (λV a3=>A.unI a3 (λn10 a4=>A.unV a4 (λx12 a5=>A.un0 a5 ( A.ari .add .i64 V (.ofNat 1) (λn14=>A.loop (λa6 a7 a0=>A.unI a7 (λn18 a8=>A.un0 a8 ( A.cmp .lss n18 n10 (λa9=>A.cond a9 ( A.join (λb0 h22=>A.un0 b0 ( A.ari .add .i64 n18 (.ofNat 1) (λb1=>a6 [(.i b1)] h22))) (λa1=>A.loop (λb2 b3 U=>A.unI b3 (λn28 b4=>A.un0 b4 ( A.cmp .gtr n28 V (λb5=>A.cond b5 ( A.opt (idS 3 O n28) (λb6=>A.peek (.lg cc 3 b6) U (λb7=>A.ucI .i64 b7 (λb8 b9=>A.ucI .u8 b9 (λn35 c0=>A.ucI .u8 c0 (λn37 c1=>A.uc0 c1 ( A.ari .sub .i64 n28 (.ofNat 1) (λn39=>A.opt (idS 3 O n39) (λd0=>A.peek (.lg cc 3 d0) U (λd1=>A.ucI .i64 d1 (λn42 d2=>A.ucI .u8 d2 (λn44 d3=>A.ucI .u8 d3 (λd4 d5=>A.uc0 d5 ( A.callv x12 [(.agg ⟨[(.int .i64 b8),(.int .u8 n35),(.int .u8 n37)]⟩),(.agg ⟨[(.int .i64 n42),(.int .u8 n44),(.int .u8 d4)]⟩)] [(.leaf (.i .i64))] U (λd6 h49=>A.unI d6 (λn50 d7=>A.un0 d7 ( A.cmp .lss n50 (.ofNat 0) (λd8=>A.cond d8 ( A.ari .sub .i64 n28 (.ofNat 1) (λn53=>A.ari .sub .i64 n28 (.ofNat 1) (λn54=>A.opt (idS 3 O n54) (λd9=>A.peek (.lg cc 3 d9) h49 (λe0=>A.ucI .i64 e0 (λn57 e1=>A.ucI .u8 e1 (λe2 e4=>A.ucI .u8 e4 (λe5 e6=>A.uc0 e6 ( A.opt (idS 3 O n28) (λe7=>A.peek (.lg cc 3 e7) h49 (λe8=>A.ucI .i64 e8 (λf0 f1=>A.ucI .u8 f1 (λn67 f2=>A.ucI .u8 f2 (λn69 f4=>A.uc0 f4 ( A.opt (idS 3 O n28) (λf5=>A.heap (.st f5 [(.int .i64 n57),(.int .u8 e2),(.int .u8 e5)]) h49 (λf6 h73=>A.opt (idS 3 O n53) (λx74=>A.heap (.st x74 [(.int .i64 f0),(.int .u8 n67),(.int .u8 n69)]) h73 (λf7 h76=>A.ari .sub .i64 n28 (.ofNat 1) (λn77=>b2 [(.i n77)] h76)))))))))))))))))))) ( a1 [] h49))))))))))))))))))) ( a1 [] U))))) [(.i n18)] a0)) ( K [] a0))))) [(.i n14)] h))))))
def f192(ls:List Lf)(h:HT)(K:List Lf->HT->R):R:=A.unI ls (λO U=>A.un0 U ( A.cmp .neq O O (λV=>K [(.b V)] h)))
/-- (crimp/sheets.Sheet).all$1 -/
def f197(ls:List Lf)(h:HT)(K:List Lf->HT->R):R:=A.unV ls (λa2 a3=>A.unV a3 (λV a4=>A.un0 a4 ( A.peek (.lg cc 2 V) h (λa5=>A.ucI .i64 a5 (λn11 a6=>A.ucI .i64 a6 (λn13 a7=>A.uc0 a7 ( A.call 128 [(.i n11),(.i n13)] h (λa8 a9=>A.unI a8 (λb0 b1=>A.un0 b1 ( A.loop (λb2 b3 a0=>A.unI b3 (λn22 b4=>A.un0 b4 ( A.cmp .lss n22 b0 (λb5=>A.cond b5 ( A.loop (λO b6 U=>A.unI b6 (λn28 b7=>A.un0 b7 ( A.cmp .lss n28 (.ofNat 3) (λb8=>A.cond b8 ( A.peek (.lg cc 2 V) U (λb9=>A.ucI .i64 b9 (λc0 c1=>A.ucI .i64 c1 (λd0 d1=>A.uc0 d1 ( A.call 125 [(.i c0),(.i d0),(.i n22),(.i n28)] U (λd2 h37=>A.unI d2 (λn38 d3=>A.unI d3 (λn40 d4=>A.un0 d4 ( A.cmp .eql n40 (.ofNat 0) (λd5=>A.cond d5 ( A.cmp .gtr n38 n22 (λd6=>A.cond d6 ( A.callv a2 [(.agg ⟨[(.int .i64 n22),(.int .u8 n28)]⟩)] [(.leaf .b)] h37 (λd7 a1=>A.unB d7 (λd8 d9=>A.un0 d9 ( A.join (λe0 h49=>A.un0 e0 ( A.ari .add .u8 n28 (.ofNat 1) (λn50=>O [(.i n50)] h49))) (λe1=>A.cond (!d8) ( K [] a1) ( e1 [] a1)))))) ( A.ari .add .u8 n28 (.ofNat 1) (λn52=>O [(.i n52)] h37)))) ( A.ari .add .u8 n28 (.ofNat 1) (λn53=>O [(.i n53)] h37)))))))))))) ( A.ari .add .i64 n22 (.ofNat 1) (λn54=>b2 [(.i n54)] U)))))) [(.i (.ofNat 0))] a0) ( K [] a0))))) [(.i (.ofNat 0))] a9))))))))))
end
end Go.Am

/-
 THE EXECUTOR: a run of the abstract machine that the kernel can make;numbers may be symbolic,the ways of a run are all followed.
-/
namespace Go.Am
inductive Pth where
 |e
 |o (p:Pth)
 |i (p:Pth)
inductive Tr(α:Type) where
 |leaf
 |node (v:α) (l r:Tr α)
def Pth.num:Pth->Nat
 | .e=>1
 | .o p=>2*p.num
 | .i p=>2*p.num+1
def pthF:Nat->Nat->Pth
 |0,_=>.e
 |f+1,n=>if Nat.ble n 1 then .e else if Nat.beq (n%2) 0 then .o (pthF f (n / 2))else .i (pthF f (n / 2))
def ba(n:Nat):Pth:=pthF (n+1) (n+1)
def Pth.get{α:Type}(d:α)(p:Pth):Tr α->α:=
 Pth.rec (motive:=λ_=>Tr α->α)
  (λt=>Tr.casesOn t d λv _ _=>v)
  (λ_ ih t=>Tr.casesOn t d λ_ l _=>ih l)
  (λ_ ih t=>Tr.casesOn t d λ_ _ r=>ih r) p
def Pth.setK{α:Type}(d:α)(p:Pth):Tr α->α->(Tr α->Bool)->Bool:=
 Pth.rec (motive:=λ_=>Tr α->α->(Tr α->Bool)->Bool)
  (λt x k=>Tr.casesOn t (k (.node x .leaf .leaf)) λ_ l r=>k (.node x l r))
  (λ_ ih t x k=>Tr.casesOn t (ih .leaf x λl=>k (.node d l .leaf)) λv l r=>ih l x λl=>k (.node v l r))
  (λ_ ih t x k=>Tr.casesOn t (ih .leaf x λr=>k (.node d .leaf r)) λv l r=>ih r x λr=>k (.node v l r)) p
def eqI:Int->Int->Bool
 | .ofNat a,.ofNat b=>Nat.beq a b
 | .negSucc a,.negSucc b=>Nat.beq a b
 |_,_=>false
def kmax:IntKind->Nat
 | .i8=>127
 | .i16=>32767
 | .i32=>2147483647
 | .i64=>9223372036854775807
 | .u8=>255
 | .u16=>65535
 | .u32=>4294967295
 | .u64=>18446744073709551615
def fits(k:IntKind):Int->Bool
 | .ofNat n=>Nat.ble n (kmax k)
 | .negSucc n=>k.signed&&Nat.ble n (kmax k)
abbrev Lin:=List Int
def dot:List Int->List Int->Int
 |c :: l,x :: ρ=>c*x+dot l ρ
 |_,_=>0
def Lin.eval(l:Lin)(ρ:List Int):Int:=
 match l with
 | []=>0
 |c :: l=>c+dot l ρ
structure Ctx where
 iv:List (Int×Int)
 cs:List (List Int×Int×Int)
inductive Opd where
 |t (p:Pth)
 |c (v:Value)
inductive Ins where
 |mv (x:Opd)
 |pick (c a b:Opd)
 |ar (op:BinOp) (x y:Opd)
 |cmp (op:BinOp) (x y:Opd)
 |notb (x:Opd)
 |conv (k:IntKind) (x:Opd)
 |fld (x:Opd) (off:Nat)
 |flda (x:Opd) (off n:Nat)
 |ext (x:Opd) (i:Nat)
 |fad (x:Opd) (off:Nat)
 |lload (s:Nat) (p:Pth) (a:Opd)
 |lloada (s:Nat) (p:Pth) (n:Nat) (a:Opd)
 |lbox (s:Nat) (p:Pth) (x:Opd)
 |lnew (s:Nat) (p:Pth) (vs:List Value)
 |bld (z:List Value) (ps:List (Nat×Nat×Opd))
 |lstore (s:Nat) (p:Pth) (n:Nat) (a x:Opd)
 |call (f:FuncId) (args:List Opd)
 |gen
abbrev TV:=Tr Value
abbrev TL:=Tr (Option (List Value))
def rd(tm:TV):Opd->Value
 | .t p=>p.get undef tm
 | .c v=>v
structure XCfg where
 C:Cfg
 kf:FuncId->List Value->List HObj->Option (Value×List HObj)
abbrev KS:=Ctx->TV->TL->List HObj->Bool
structure XS where
 call:Ctx->FuncId->List Value->List HObj->(Ctx->Value->List HObj->Bool)->Bool
 yield:Ctx->Nat->List Value->List HObj->(Ctx->Value->List HObj->Bool)->Bool
 ex:Ctx->List Nat->Nat->Code->TV->TL->List HObj->KS->(Exit->KS)->Bool
end Go.Am

/-
 THE EXECUTOR IS SOUND: trees,numbers,linear forms.
-/
namespace Go.Am
theorem tH:∀(f n:Nat),n<=f->1<=n->(pthF f n).num=n
 |0,n,h,h1=>by omega
 |f+1,n,h,h1=>by
  unfold pthF
  by_cases hn:n<=1
  ·have:n=1:=by omega
   subst this
   rfl
  ·have h2:Nat.ble n 1=false:=by
    rw[←qaB,qaX];exact hn
   rw[h2]
   have ih:=tH f (n / 2) (by omega) (by omega)
   by_cases hm:n%2=0
   ·simp[hm,Pth.num,ih];omega
   ·simp[hm,Pth.num,ih];omega
theorem ny(n:Nat):(ba n).num=n+1:=tH _ _ (qaz _) (by omega)
theorem jf{a b:Nat}(h:ba a=ba b):a=b:=by
 have:=congrArg Pth.num h
 rw[ny,ny]at this
 omega
def Pth.set{α:Type}(d:α):Pth->Tr α->α->Tr α
 | .e,.leaf,x=>.node x .leaf .leaf
 | .e,.node _ l r,x=>.node x l r
 | .o p,.leaf,x=>.node d (Pth.set d p .leaf x) .leaf
 | .o p,.node v l r,x=>.node v (Pth.set d p l x) r
 | .i p,.leaf,x=>.node d .leaf (Pth.set d p .leaf x)
 | .i p,.node v l r,x=>.node v l (Pth.set d p r x)
theorem Pth.setK_eq{α:Type}(d:α):∀(p:Pth) (t:Tr α) (x:α) (k:Tr α->Bool),p.setK d t x k=k (p.set d t x)
 | .e,t,x,k=>by cases t<;>rfl
 | .o p,t,x,k=>by
  cases t with
  |leaf=>exact Pth.setK_eq d p .leaf x _
  |node v l r=>exact Pth.setK_eq d p l x _
 | .i p,t,x,k=>by
  cases t with
  |leaf=>exact Pth.setK_eq d p .leaf x _
  |node v l r=>exact Pth.setK_eq d p r x _
theorem Pth.get_leaf{α:Type}(d:α)(p:Pth):p.get d .leaf=d:=by cases p<;>rfl
theorem Pth.get_set{α:Type}(d:α):∀(p:Pth) (t:Tr α) (x:α),p.get d (p.set d t x)=x
 | .e,t,x=>by cases t<;>rfl
 | .o p,t,x=>by
  cases t with
  |leaf=>exact Pth.get_set d p .leaf x
  |node v l r=>exact Pth.get_set d p l x
 | .i p,t,x=>by
  cases t with
  |leaf=>exact Pth.get_set d p .leaf x
  |node v l r=>exact Pth.get_set d p r x
theorem Pth.get_set_ne{α:Type}(d:α):∀(p q:Pth) (t:Tr α) (x:α),q≠p->q.get d (p.set d t x)=q.get d t
 | .e,q,t,x,h=>by cases q<;>cases t<;>first|rfl|exact absurd rfl h|exact Pth.get_leaf d _
 | .o p,q,t,x,h=>by
  cases q with
  |e=>cases t<;>rfl
  |o q=>
   have hq:q≠p:=λe=>h (e▸rfl)
   cases t with
   |leaf=>exact(Pth.get_set_ne d p q .leaf x hq).trans (Pth.get_leaf d q)
   |node v l r=>exact Pth.get_set_ne d p q l x hq
  |i q=>
   cases t with
   |leaf=>exact Pth.get_leaf d q
   |node v l r=>rfl
 | .i p,q,t,x,h=>by
  cases q with
  |e=>cases t<;>rfl
  |i q=>
   have hq:q≠p:=λe=>h (e▸rfl)
   cases t with
   |leaf=>exact(Pth.get_set_ne d p q .leaf x hq).trans (Pth.get_leaf d q)
   |node v l r=>exact Pth.get_set_ne d p q r x hq
  |o q=>
   cases t with
   |leaf=>exact Pth.get_leaf d q
   |node v l r=>rfl
def Tr.map{α:Type}(f:α->α):Tr α->Tr α
 | .leaf=>.leaf
 | .node v l r=>.node (f v) (l.map f) (r.map f)
theorem eqI_iff{a b:Int}:eqI a b=true↔a=b:=by
 cases a<;>cases b<;>simp[eqI]<;>omega
theorem fits_iff{k:IntKind}{c:Int}(h:fits k c=true):(k.signed=true->-(kmax k:Int) - 1<=c)/\(k.signed=false->0<=c)/\c<=kmax k:=by
 cases c with
 |ofNat n=>
  simp only[fits,qaX]at h
  refine⟨λ_=>?_,λ_=>?_,?_⟩<;>simp<;>omega
 |negSucc n=>
  simp only[fits,qaa,qaX]at h
  refine⟨λ_=>?_,λhs=>?_,?_⟩
  ·omega
  ·rw[h.1]at hs;cases hs
  ·omega
theorem qh{k:IntKind}{c:Int}(h:fits k c=true):k.wrap c=c:=by
 obtain⟨h1,h2,h3⟩:=fits_iff h
 cases k<;>simp only[IntKind.signed,kmax,forall_const,reduceCtorEq,false_implies]at h1 h2 h3
 ·exact Go.IntWalk.i8_in c (by omega)
 ·exact Go.IntWalk.i16_in c (by omega)
 ·exact Go.IntWalk.i32_in c (by omega)
 ·exact Go.IntWalk.i64_in c (by omega)
 ·exact Go.IntWalk.u8_in c (by omega)
 ·exact Go.IntWalk.u16_in c (by omega)
 ·exact Go.IntWalk.u32_in c (by omega)
 ·exact Go.IntWalk.u64_in c (by omega)
end Go.Am

/-
 THE EXECUTOR IS SOUND: arithmetic,plain and symbolic.
-/
namespace Go.Am
section
variable [Val] {ρ:List Int}
def mO(op:BinOp)(x y:Int):Option Bool:=
 match op with
 | .eql=>some (x==y)
 | .neq=>some (x != y)
 | .lss=>some (decide (x<y))
 | .leq=>some (decide (x<=y))
 | .gtr=>some (decide (x > y))
 | .geq=>some (decide (x ≥ y))
 |_=>none
def nO(op:BinOp)(k:IntKind)(x y n:Int):Prop:=∀(P:Program) (t:TypeId) (w:World),(binOp op t (.int k x) (.int k y)).run P w = .ok (.int k n) w
theorem bits_one{k:IntKind}(x:Int):((BitVec.ofInt k.bits x &&& BitVec.ofInt k.bits 1).toNat:Int)=x%2:=by
 have hb:k.bits=k.bits - 1+1:=by cases k<;>rfl
 generalize k.bits - 1=n at hb
 rw[hb]
 have h1:(BitVec.ofInt (n+1) 1).toNat=1:=by
  simp
 rw[BitVec.toNat_and,h1,Nat.and_one_is_mod,BitVec.toNat_ofInt]
 have hp:(0:Int)<2 ^ (n+1):=Int.pow_pos (by omega)
 have e:(2:Int) ^ (n+1)=2*2 ^ n:=by rw[Int.pow_succ];omega
 have h0:0<=x%(2 ^ (n+1):Int):=Int.emod_nonneg _ (by omega)
 have:((x%((2 ^ (n+1):Nat):Int)).toNat%2:Nat)=((x%(2 ^ (n+1):Int))%2:Int):=by
  have e2:((2 ^ (n+1):Nat):Int)=(2 ^ (n+1):Int):=by simp
  rw[e2]
  omega
 rw[this,e,Int.emod_emod_of_dvd _ ⟨2 ^ n,rfl⟩]
theorem mg{k:IntKind}{x n:Int}(hn:x%2=n):nO .and k x 1 n:=by
 intro P t w
 have hw:k.wrap n=n:=qh (by
  have h0:0<=n:=by omega
  have h1:n<=1:=by omega
  obtain⟨m,rfl⟩ : ∃m:Nat,n=m:=⟨n.toNat,by omega⟩
  show Nat.ble m (kmax k)=true
  rw[qaX]
  cases k<;>simp only[kmax]<;>omega)
 have hb:=bits_one (k:=k) x
 simp only[binOp,ne_eq,not_true_eq_false,if_false,Op.intBits]
 show Result.ok (Value.int k (k.wrap _)) w=_
 rw[hb,hn,hw]
end
end Go.Am

/-
 THE EXECUTOR IS SOUND: instructions that give a value.
-/
namespace Go.Am
section
variable [Val] {ρ:List Int}
structure Rep(pts:List Nat)(nt:Nat)(tm:TV)(lc:TL)(σ:St):Prop where
 len:σ.tmps.length=nt
 val:∀(i:Nat) v,σ.tmps[i]? = some v->(ba i).get undef tm=v
 llen:pts≠[]->σ.loc.length=nt
 loc:∀(i:Nat) x,σ.loc[i]? = some x->(ba i).get none lc=x
def ValStep(C:Cfg)(pts:List Nat)(σ:St)(o:Oper)(v:Value):Prop:=
 (∃e,ak C pts (oval σ.tmps) o=some e/\aD σ e=some (σ,v))∨gy C σ.tmps o v
theorem ValStep.val{C:Cfg}{pts:List Nat}{σ:St}{o:Oper}{v:Value}(h:ak C pts (oval σ.tmps) o=some (.val v)):ValStep C pts σ o v:=.inl ⟨_,h,rfl⟩
theorem mt(k:IntKind)(x:Int):k.wrap (x%(2 ^ k.bits:Int))=k.wrap x:=by
 unfold IntKind.wrap
 rw[Int.emod_emod_of_dvd _ (Int.dvd_refl _)]
theorem rT{k:IntKind}(m n:Nat):nO .and k m n (k.wrap (Nat.land m n:Nat)):=by
 intro P t w
 simp only[binOp,ne_eq,not_true_eq_false,if_false,Op.intBits]
 show Result.ok (Value.int k (k.wrap _)) w=_
 rw[←mt k (Nat.land m n:Nat)]
 congr 3
 have h2:∀x:Nat,(BitVec.ofInt k.bits (x:Int)).toNat=x%2 ^ k.bits:=λx=>by
  rw[BitVec.toNat_ofInt]
  have:((x:Int)%((2 ^ k.bits:Nat):Int))=((x%2 ^ k.bits:Nat):Int):=by simp
  rw[this,qcu]
 have h3:(BitVec.ofInt k.bits (m:Int) &&& BitVec.ofInt k.bits (n:Int)).toNat=(m &&& n)%2 ^ k.bits:=by
  rw[BitVec.toNat_and,h2,h2,Nat.and_mod_two_pow]
 rw[h3]
 simp
theorem rV{k:IntKind}(m n:Nat):nO .xor k m n (k.wrap (Nat.xor m n:Nat)):=by
 intro P t w
 simp only[binOp,ne_eq,not_true_eq_false,if_false,Op.intBits]
 show Result.ok (Value.int k (k.wrap _)) w=_
 rw[←mt k (Nat.xor m n:Nat)]
 congr 3
 have h2:∀x:Nat,(BitVec.ofInt k.bits (x:Int)).toNat=x%2 ^ k.bits:=λx=>by
  rw[BitVec.toNat_ofInt]
  have:((x:Int)%((2 ^ k.bits:Nat):Int))=((x%2 ^ k.bits:Nat):Int):=by simp
  rw[this,qcu]
 have h3:(BitVec.ofInt k.bits (m:Int) ^^^ BitVec.ofInt k.bits (n:Int)).toNat=(m ^^^ n)%2 ^ k.bits:=by
  rw[BitVec.toNat_xor,h2,h2,Nat.xor_mod_two_pow]
 rw[h3]
 simp
theorem uU{k:IntKind}(m n:Nat):nO .or k m n (k.wrap (Nat.lor m n:Nat)):=by
 intro P t w
 simp only[binOp,ne_eq,not_true_eq_false,if_false,Op.intBits]
 show Result.ok (Value.int k (k.wrap _)) w=_
 rw[←mt k (Nat.lor m n:Nat)]
 congr 3
 have h2:∀x:Nat,(BitVec.ofInt k.bits (x:Int)).toNat=x%2 ^ k.bits:=λx=>by
  rw[BitVec.toNat_ofInt]
  have:((x:Int)%((2 ^ k.bits:Nat):Int))=((x%2 ^ k.bits:Nat):Int):=by simp
  rw[this,qcu]
 have h3:(BitVec.ofInt k.bits (m:Int) ||| BitVec.ofInt k.bits (n:Int)).toNat=(m ||| n)%2 ^ k.bits:=by
  rw[BitVec.toNat_or,h2,h2,Nat.or_mod_two_pow]
 rw[h3]
 simp
end
end Go.Am

/-
 WHEN AN ALGEBRA TELLS THE TRUTH;what an environment says of a state.
-/
namespace Go.Am
section
variable {R:Type}
theorem setK_eq{α:Type}(x:α):∀(l:List α) (i:Nat) (k:List α->R),setK x l i k=k (l.set i x)
 | [],_,_=>rfl
 |_ :: _,0,_=>rfl
 |a :: l,i+1,k=>setK_eq x l i λl=>k (a :: l)
theorem rB(n:Nat)(K:Nat->R):oA n K=K n:=by cases n<;>rfl
end
def SL.good:SL->Prop
 | .v x=>aX x=true
 |_=>True
def S0.good(x:S0):Prop:=∀l∈x.cells,l.good
def SV.gd:SV->Prop
 | .st x=>x.good
 | .tup xs=>(∀x∈xs,x.good)/\2<=xs.length
 | .no=>False
 |_=>True
theorem dl{x:Value}:aX x=true↔noLoc x=true/\bh x=true/\aZ x=true/\aF x=false:=by
 unfold aX
 cases noLoc x<;>cases bh x<;>cases aZ x<;>cases aF x<;>simp
theorem mX{x:Value}(h:aX x=true):aJ x=true:=by
 obtain⟨h1,_,h2,_⟩:=dl.1 h
 simp[aJ,h1,h2]
theorem rC{x:Value}(h:aX x=true):x.cells = #[x]:=dq (dl.1 h).2.2.1
theorem SL.val_good{l:SL}(h:l.good):aX l.val=true:=by
 cases l with
 |v x=>exact h
 |_=>rfl
theorem S0.cells_val{x:S0}(h:x.good):x.val.cells=⟨x.cells.map SL.val⟩:=by
 cases x with
 |leaf l=>exact rC (SL.val_good (h l (by simp[S0.cells])))
 |agg cs=>rfl
theorem S0.noLoc{x:S0}(h:x.good):noLoc x.val=true:=by
 cases x with
 |leaf l=>exact(dl.1 (SL.val_good (h l (by simp[S0.cells])))).1
 |agg cs=>
  simp only[S0.val,Am.noLoc,qab,qaE]
  rintro _ ⟨l,hl,rfl⟩
  exact(dl.1 (SL.val_good (h l hl))).2.1
theorem S0.not_tuple{x:S0}(h:x.good):aF x.val=false:=by
 cases x with
 |leaf l=>exact(dl.1 (SL.val_good (h l (by simp[S0.cells])))).2.2.2
 |agg cs=>rfl
theorem S0.cells_ok{x:S0}(h:x.good):x.val.cells.toList.all aJ=true:=by
 rw[S0.cells_val h]
 simp only[qab,qaE]
 rintro _ ⟨l,hl,rfl⟩
 exact mX (SL.val_good (h l hl))
theorem cells_ok'{cs:List SL}(h:∀l∈cs,l.good):(cs.map SL.val).all aJ=true:=by
 simp only[qab,qaE]
 rintro _ ⟨l,hl,rfl⟩
 exact mX (SL.val_good (h l hl))
theorem rW{v:Value}(h:scalar v=true):aX v=true:=by
 cases v<;>first|rfl|(simp[scalar]at h;done)|skip
 case pointer a=>cases a<;>first|rfl|simp[scalar]at h
 case slice a l c=>
  cases a with
  |none=>rfl
  |some a=>cases l<;>cases c<;>simp[scalar]at h
theorem ph(v:Value):(slOf v).val=v:=by cases v<;>rfl
theorem mj{v:Value}(h:scalar v=true):(slOf v).good:=by
 cases v<;>first|trivial|exact rW h
theorem pc{v:Value}{x:S0}(h:s0Of v=some x):x.val=v/\x.good/\ea v=true:=by
 unfold s0Of at h
 split at h
 ·rename_i cs
  split at h
  ·rename_i ha
   cases h
   refine⟨?_,?_,ha⟩
   ·simp only[S0.val,qcM,Value.agg.injEq]
    have:(SL.val ∘ slOf)=id:=funext ph
    rw[this,List.map_id]
   ·intro l hl
    simp only[S0.cells,qaE]at hl
    obtain⟨v,hv,rfl⟩:=hl
    exact mj (qab.1 ha v hv)
  ·cases h
 ·rename_i hne
  split at h
  ·rename_i hs
   cases h
   refine⟨ph v,?_,?_⟩
   ·intro l hl
    simp only[S0.cells,qax]at hl
    subst hl
    exact mj hs
   ·cases v<;>first|exact hs|exact absurd rfl (hne _)
  ·cases h
theorem cP{a b:IntKind}(h:eq a b=true):a=b:=by
 cases a<;>cases b<;>first|rfl|cases h
theorem cZ(a:IntKind):eq a a=true:=by cases a<;>rfl
section
variable [Val] [Kno]
def Told(sks:List SK)(ls:List Lf)(xs:List S0):Prop:=bm xs sks=true/\bn xs=ls/\∀x∈xs,x.good
def aq(C:Cfg)(Sg:FuncId->Option Sig)(g:FuncId)(ls:List Lf)(H:List HObj)(rs:List Lf)(H':List HObj):Prop:=
 ∃sg xs ys,Sg g=some sg/\Told sg.ps ls xs/\Told sg.rs rs ys/\gp C g (ah xs) H (dU (ah ys)) H'
def ri(C:Cfg)(v:Value)(args:List Value)(hs:List SK)(H:List HObj)(rs:List Lf)(H':List HObj):Prop:=
 ∃ys,Told hs rs ys/\((∃g first cap,v = .func (.func g) first cap/\gp C g (first.toList++args++cap.toList) H (dU (ah ys)) H')∨
  (∃l,v = .func (.yield l) #[] #[]/\eG C l args H (dU (ah ys)) H'))
def mA(nt:Nat):List (Nat×SK)->List Value->List Value->List Value
 |(t,_) :: l,v :: vs,tm=>mA nt l vs (tm.set t v)
 |_,_,tm=>tm
def lpOf(s:Site)(κ:Nat)(vals:List Value):ALoop:=
 { state:=.ready,pending:=none,fn:=κ,tmps:=mA s.nt s.caps vals (List.replicate s.nt poison),params:=s.params.map (·.1),assign:=s.assign.erase nm,body:=s.body.erase nm }
def gj:Lf->Lf->Bool
 | .i a,.i b=>a==b
 | .b a,.b b=>a==b
 |_,_=>false
def bZ(l:List (Lf×Lf)):Bool:=l.all λp=>gj p.1 p.2
def ShRun(op:BinOp)(k:IntKind)(x:Int)(k':IntKind)(y n:Int):Prop:=∀(P:Program) (t:TypeId) (w:World),(binOp op t (.int k x) (.int k' y)).run P w = .ok (.int k n) w
structure AlgOk{R HT:Type}(A:Alg R HT)(C:Cfg)(Sg:FuncId->Option Sig)(T:Nat->Site)(holds:R->Prop)(abs:HT->List HObj):Prop where
 fail:¬holds A.fail
 cond:∀b x y,holds (A.cond b x y)->(b=true/\holds x)∨(b=false/\holds y)
 ari:∀op k a b K,holds (A.ari op k a b K)->∃n,nO op k a b n/\holds (K n)
 shf:∀op k a k' b K,holds (A.shf op k a k' b K)->∃n,ShRun op k a k' b n/\holds (K n)
 cmp:∀op a b K,holds (A.cmp op a b K)->∃t,mO op a b=some t/\holds (K t)
 eqs:∀l K,holds (A.eqs l K)->holds (K (bZ l))
 conv:∀k a K,holds (A.conv k a K)->holds (K (k.wrap a))
 sel:∀t a b K,holds (A.sel t a b K)->holds (K (if t then a else b))
 opt:∀ {α:Type} (o:Option α) K,holds (A.opt o K)->∃x,o=some x/\holds (K x)
 chk:∀v K,holds (A.chk v K)->aX v=true/\holds K
 unI:∀ls K,holds (A.unI ls K)->∃n r,ls = .i n :: r/\holds (K n r)
 unB:∀ls K,holds (A.unB ls K)->∃t r,ls = .b t :: r/\holds (K t r)
 unV:∀ls K,holds (A.unV ls K)->∃x r,ls = .v x :: r/\holds (K x r)
 un0:∀ls K,holds (A.un0 ls K)->ls=[]/\holds K
 ucI:∀k ls K,holds (A.ucI k ls K)->∃n r,ls = .int k n :: r/\holds (K n r)
 ucB:∀ls K,holds (A.ucB ls K)->∃t r,ls = .bool t :: r/\holds (K t r)
 ucV:∀ls K,holds (A.ucV ls K)->∃x r,ls=x :: r/\holds (K x r)
 uc0:∀ls K,holds (A.uc0 ls K)->ls=[]/\holds K
 peek:∀f h K,holds (A.peek f h K)->∃cs,f.run (λi=>(abs h)[i]?)=some cs/\holds (K cs)
 heap:∀f h K,holds (A.heap f h K)->∃acts cs h',f.run (λi=>(abs h)[i]?) (abs h).length=some (acts,cs)/\abs h'=fg (abs h) acts/\holds (K cs h')
 new:∀o h K,holds (A.new o h K)->∃h',abs h'=abs h++[o]/\holds (K (abs h).length h')
 call:∀g ls h K,holds (A.call g ls h K)->∃rs h',aq C Sg g ls (abs h) rs (abs h')/\holds (K rs h')
 callv:∀v args hs h K,holds (A.callv v args hs h K)->∃rs h',ri C v args hs (abs h) rs (abs h')/\holds (K rs h')
 join:∀b m,holds (A.join b m)->holds (m b)
 loop:∀F ls h,holds (A.loop F ls h)->∃it:Nat->List Lf->HT->R,(∀ls h,¬holds (it 0 ls h))/\(∀n ls h,it (n+1) ls h=F (it n) ls h)/\∃n,holds (it n ls h)
 rfun:∀κ v vals h K,holds (A.rfun κ v vals h K)->∃g first cap r H1 lp h2,v = .func (.func g) first cap/\
  gp C g (first.toList++[.func (.yield (abs h).length) #[] #[]]++cap.toList) (abs h++[.loop (lpOf (T κ) κ vals)]) r H1/\
  dm H1 (abs h).length=some lp/\lp.state≠.busy/\abs h2=H1.set (abs h).length (.loop { lp with state:=.exhausted })/\holds (K lp.pending h2)
 pend:∀pd kn kr ks,holds (A.pend pd kn kr ks)->(pd=none/\holds kn)∨(pd=some .ret/\holds kr)∨∃id x,pd=some (.exit id)/\(id,x)∈ks/\holds x
 lp1:∀l h K,holds (A.lp1 l h K)->∃lp h',dm (abs h) l=some lp/\lp.state = .ready/\abs h'=(abs h).set l (.loop { lp with state:=.busy })/\holds (K h')
 lp2:∀l j h K,holds (A.lp2 l j h K)->∃lp h',dm (abs h) l=some lp/\abs h'=(abs h).set l (.loop { lp with state:=if j.isNone then .ready else .done,pending:=j })/\holds (K h')
def SV.ok(tmps:List Value)(i:Nat)(s:SV):Prop:=
 match s with
 | .no=>True
 |s=>tmps[i]? = some s.val/\s.gd
def LR.ok(loc:List (Option (List Value)))(i:Nat):LR->Prop
 | .unk=>True
 | .nil=>loc[i]? = some none
 | .any n=>∃vs,loc[i]? = some (some vs)/\vs.length=n
 | .row cs=>loc[i]? = some (some (cs.map SL.val))/\∀c∈cs,c.good
structure Rp(ev:Env)(σ:St):Prop where
 len:ev.tm.length=σ.tmps.length
 val:∀(i:Nat) s,ev.tm[i]? = some s->s.ok σ.tmps i
 llen:ev.lc.length=σ.loc.length
 row:∀(i:Nat) r,ev.lc[i]? = some r->r.ok σ.loc i
theorem SV.ok_gd{tmps:List Value}{i:Nat}{s:SV}(h:s.gd)(hv:tmps[i]? = some s.val):s.ok tmps i:=by
 cases s<;>first|trivial|exact⟨hv,h⟩
theorem Rp.at{ev:Env}{σ:St}(h:Rp ev σ){t:Nat}{s:SV}(hs:ev.tm.getD t .no=s)(hn:s≠.no):σ.tmps[t]? = some s.val/\s.gd:=by
 rw[List.getD_eq_getElem?_getD]at hs
 cases he:ev.tm[t]? with
 |none=>rw[he]at hs;exact absurd hs.symm hn
 |some x=>
  rw[he]at hs
  simp only[qbf]at hs
  subst hs
  have:=h.val t x he
  cases x<;>first|exact this|exact absurd rfl hn
theorem Rp.sval{ev:Env}{σ:St}(h:Rp ev σ){x:Operand}{s:SV}(hs:sval ev x=s)(hn:s≠.no):oval σ.tmps x=s.val/\s.gd:=by
 cases x with
 |tmp t=>
  obtain⟨h1,h2⟩:=h.at (t:=t) hs hn
  exact⟨by simp[oval,List.getD_eq_getElem?_getD,h1],h2⟩
 |const v=>
  simp only[Am.sval]at hs
  cases hv:s0Of v with
  |none=>rw[hv]at hs;exact absurd hs.symm hn
  |some x=>
   rw[hv]at hs
   subst hs
   obtain⟨h1,h2,h3⟩:=pc hv
   refine⟨?_,h2⟩
   have:flat v=true:=by cases v<;>first|exact h3|(simp[ea,scalar]at h3)
   simp[oval,this,SV.val,h1]
 |global g=>
  subst hs
  simp only[Am.sval,oval]
  cases hb:Nat.blt g gB with
  |true=>exact⟨rfl,trivial⟩
  |false=>exact absurd (by simp only[Am.sval,hb]) hn
 |func f=>
  subst hs
  refine⟨rfl,λl hl=>?_⟩
  simp only[S0.cells,qax]at hl
  subst hl
  rfl
theorem Rp.sval0{ev:Env}{σ:St}(h:Rp ev σ){x:Operand}{s:S0}(hs:sval0 ev x=some s):oval σ.tmps x=s.val/\s.good:=by
 unfold Am.sval0 at hs
 split at hs
 ·rename_i y e
  cases hs
  exact h.sval e (by simp)
 ·cases hs
theorem Rp.svals{ev:Env}{σ:St}(h:Rp ev σ):∀ {l:List Operand} {xs:List S0},svals ev l=some xs->l.map (oval σ.tmps)=ah xs/\∀x∈xs,x.good
 | [],xs,hs=>by cases hs;exact⟨rfl,by simp⟩
 |o :: l,xs,hs=>by
  simp only[Am.svals]at hs
  split at hs
  ·rename_i x ys e1 e2
   cases hs
   obtain⟨h1,h2⟩:=h.sval0 e1
   obtain⟨h3,h4⟩:=h.svals e2
   refine⟨by simp[ah,h1];exact h3,λy hy=>?_⟩
   rcases qak.1 hy with rfl|hy
   ·exact h2
   ·exact h4 y hy
  ·cases hs
theorem Rp.put{ev:Env}{σ:St}(h:Rp ev σ)(d:Nat){s:SV}(hs:s.gd):Rp ⟨ev.tm.set d s,ev.lc⟩ (σ.put (some d) s.val):=by
 refine⟨by simp[St.put,h.len],λi x hx=>?_,h.llen,h.row⟩
 simp only[qaL]at hx
 split at hx
 ·rename_i hi
  subst hi
  split at hx
  ·rename_i hlt
   cases hx
   refine SV.ok_gd hs ?_
   simp only[St.put,List.getElem?_set_self']
   rw[qaA (by rw[←h.len];exact hlt)]
   rfl
  ·cases hx
 ·rename_i hi
  have:=h.val i x hx
  cases x<;>first|trivial|exact⟨by simp only[St.put];rw[qap hi];exact this.1,this.2⟩
theorem Rp.heap{ev:Env}{σ:St}(h:Rp ev σ)(H:List HObj):Rp ev { σ with heap:=H }:=⟨h.len,h.val,h.llen,h.row⟩
structure Fr(ws ks rs:List Nat)(σ σ':St):Prop where
 tlen:σ'.tmps.length=σ.tmps.length
 llen:σ'.loc.length=σ.loc.length
 tm:∀(i:Nat) v,σ.tmps[i]? = some v->i∉ws->noLoc v=true->σ'.tmps[i]? = some v
 tp:∀(i s off:Nat),σ.tmps[i]? = some (.pointer (some ⟨s,off,some 0⟩))->i∉ws->s∉ks->σ'.tmps[i]? = some (.pointer (some ⟨s,off,some 0⟩))
 row:∀(s:Nat) x,σ.loc[s]? = some x->s∉rs->σ'.loc[s]? = some x
 rlen:∀(s:Nat) vs,σ.loc[s]? = some (some vs)->s∉ks->∃vs',σ'.loc[s]? = some (some vs')/\vs'.length=vs.length
theorem Fr.refl(ws ks rs:List Nat)(σ:St):Fr ws ks rs σ σ:=⟨rfl,rfl,λ_ _ h _ _=>h,λ_ _ _ h _ _=>h,λ_ _ h _=>h,λ_ vs h _=>⟨vs,h,rfl⟩⟩
theorem Fr.trans{ws ks rs:List Nat}{σ σ₁ σ':St}(h:Fr ws ks rs σ σ₁)(h':Fr ws ks rs σ₁ σ'):Fr ws ks rs σ σ':=
 ⟨h'.tlen.trans h.tlen,h'.llen.trans h.llen,λi v a b c=>h'.tm i v (h.tm i v a b c) b c,λi s off a b c=>h'.tp i s off (h.tp i s off a b c) b c,
  λs x a b=>h'.row s x (h.row s x a b) b,λs vs a b=>let ⟨v1,c1,d1⟩:=h.rlen s vs a b;let ⟨v2,c2,d2⟩:=h'.rlen s v1 c1 b;⟨v2,c2,d2.trans d1⟩⟩
theorem Fr.mono{ws ks rs ws' ks' rs':List Nat}{σ σ':St}(h:Fr ws ks rs σ σ')(h1:∀i∈ws,i∈ws')(h2:∀i∈ks,i∈ks')(h3:∀i∈rs,i∈rs'):Fr ws' ks' rs' σ σ':=
 ⟨h.tlen,h.llen,λi v a b c=>h.tm i v a (λhi=>b (h1 i hi)) c,λi s off a b c=>h.tp i s off a (λhi=>b (h1 i hi)) (λhi=>c (h2 s hi)),
  λs x a b=>h.row s x a (λhi=>b (h3 s hi)),λs vs a b=>h.rlen s vs a (λhi=>b (h2 s hi))⟩
theorem Fr.heap{ws ks rs:List Nat}{σ σ':St}(h:Fr ws ks rs σ σ')(H:List HObj):Fr ws ks rs σ { σ' with heap:=H }:=⟨h.tlen,h.llen,h.tm,h.tp,h.row,h.rlen⟩
theorem Fr.put{σ:St}(dst:Option Tmp)(v:Value)(ks rs:List Nat):Fr dst.toList ks rs σ (σ.put dst v):=by
 cases dst with
 |none=>exact .refl _ _ _ _
 |some d=>
  refine⟨by simp[St.put],rfl,λi x h hi _=>?_,λi s off h hi _=>?_,λ_ _ h _=>h,λ_ vs h _=>⟨vs,h,rfl⟩⟩<;>
  ·simp only[Option.toList_some,qax]at hi
   simp only[St.put]
   rw[qap (λe=>hi e.symm)]
   exact h
end
end Go.Am

/-
 HEAPS AS TREES: what lies at a number is found,and put,in few steps;lists that are forced.
-/
namespace Go.Am
inductive HO where
 |o (x:HObj)
 |lp (κ:Nat) (st:LoopState) (pd:Option Code) (vs:List Value)
abbrev HL:=List HO
inductive CK where
 |f (g:FuncId)
 |y (κ:Nat) (vs:List Value) (l:Nat)
def absO(T:Nat->Site):HO->HObj
 | .o x=>x
 | .lp κ st pd vs=>.loop { lpOf (T κ) κ vs with state:=st,pending:=pd }
def absH(T:Nat->Site)(h:HL):List HObj:=h.map (absO T)
namespace Sx
inductive HOT where
 |o (x:HObj)
 |lp (κ:Nat) (st:LoopState) (pd:Option Code) (vs:List Value)
 |t (n e:Nat) (rw:Bool) (c:Tr Value)
def nilV:Value:=.bool false
def bj(c:Tr Value)(n:Nat):List Value:=(List.range n).map λi=>(ba i).get nilV c
def HOT.ho:HOT->HO
 | .o x=>.o x
 | .lp κ st pd vs=>.lp κ st pd vs
 | .t n e rw c=>.o (.cells (bj c n) e rw)
structure HTr where
 n:Nat
 t:Tr HOT
def noO:HOT:=.o .dead
def HTr.empty:HTr:=⟨0,.leaf⟩
def HTr.at(h:HTr)(i:Nat):Option HOT:=match Nat.blt i h.n with
 |true=>some ((ba i).get noO h.t)
 |false=>none
def toL(h:HTr):HL:=(List.range h.n).map λi=>((ba i).get noO h.t).ho
theorem cJ(h:HTr):(toL h).length=h.n:=by simp[toL]
theorem gQ(h:HTr)(i:Nat):(toL h)[i]? = (h.at i).map HOT.ho:=by
 unfold toL HTr.at
 rw[qav]
 cases e:Nat.blt i h.n with
 |true=>
  rw[qaH]at e
  rw[qch e];rfl
 |false=>
  have:h.n<=i:=by
   rcases qaw i h.n with h1|h1
   ·rw[←qaH,e]at h1;cases h1
   ·exact h1
  rw[qae (by simpa using this)];rfl
def HTr.put(h:HTr)(i:Nat)(o:HOT):HTr:=match Nat.blt i h.n with
 |true=>⟨h.n,(ba i).set noO h.t o⟩
 |false=>h
def HTr.push(h:HTr)(o:HOT):HTr:=⟨h.n+1,(ba h.n).set noO h.t o⟩
theorem fV(h:HTr)(i:Nat)(o:HOT):toL (h.put i o)=(toL h).set i o.ho:=by
 apply qaS
 intro j
 unfold HTr.put
 cases e:Nat.blt i h.n with
 |true=>
  rw[qaH]at e
  simp only
  rw[gQ]
  by_cases hj:i=j
  ·subst hj
   rw[qaO (by rw[cJ];exact e)]
   unfold HTr.at
   simp only[(qaH▸e:Nat.blt i h.n=true)]
   rw[Pth.get_set];rfl
  ·rw[qap hj,gQ]
   unfold HTr.at
   simp only
   rw[Pth.get_set_ne _ _ _ _ _ (λh=>hj (jf h).symm)]
 |false=>
  simp only
  have:h.n<=i:=by
   rcases qaw i h.n with h1|h1
   ·rw[←qaH,e]at h1;cases h1
   ·exact h1
  rw[List.set_eq_of_length_le (by rw[cJ];exact this)]
theorem fe(h:HTr)(o:HOT):toL (h.push o)=toL h++[o.ho]:=by
 apply qaS
 intro j
 rw[gQ]
 unfold HTr.push HTr.at
 simp only
 by_cases h1:j<h.n
 ·rw[qag (by rw[cJ];exact h1),gQ]
  unfold HTr.at
  have e1:Nat.blt j (h.n+1)=true:=by rw[qaH];omega
  have e2:Nat.blt j h.n=true:=by rw[qaH];omega
  simp only[e1,e2]
  rw[Pth.get_set_ne _ _ _ _ _ (λh=>by have:=jf h;omega)]
 ·rw[qam (by rw[cJ];omega),cJ]
  by_cases h2:j=h.n
  ·subst h2
   have e1:Nat.blt h.n (h.n+1)=true:=by rw[qaH];omega
   simp only[e1,qbw,qbc]
   rw[Pth.get_set];rfl
  ·have e1:Nat.blt j (h.n+1)=false:=by rw[←qaB,qaH];omega
   simp only[e1]
   rw[qae (by simp;omega)];rfl
theorem aM(c:Tr Value)(n:Nat):(bj c n).length=n:=by simp[bj]
theorem cX(c:Tr Value){n i:Nat}(h:i<n):(bj c n)[i]? = some ((ba i).get nilV c):=by
 unfold bj
 rw[qav,qch h];rfl
def insT:List Value->Nat->Tr Value->Tr Value
 | [],_,c=>c
 |v :: l,i,c=>insT l (i+1) ((ba i).set nilV c v)
theorem oE:∀(l:List Value) (i:Nat) (c:Tr Value) (j:Nat),(ba j).get nilV (insT l i c)=if i<=j/\j<i+l.length then l[j - i]?.getD nilV else(ba j).get nilV c
 | [],i,c,j=>by
  have h:¬(i<=j/\j<i+([]:List Value).length):=by intro h;have:=h.2;simp at this;omega
  rw[if_neg h];rfl
 |v :: l,i,c,j=>by
  show(ba j).get nilV (insT l (i+1) _)=_
  rw[oE l (i+1)]
  by_cases h:i+1<=j/\j<i+1+l.length
  ·rw[if_pos h,if_pos (by simp;omega)]
   have:j - i=(j - (i+1))+1:=by omega
   rw[this,qbJ]
  ·rw[if_neg h]
   by_cases h2:j=i
   ·subst h2
    rw[Pth.get_set,if_pos (by simp)];simp
   ·rw[Pth.get_set_ne _ _ _ _ _ (λe=>h2 (jf e)),if_neg (by simp;omega)]
theorem mM{l:List Value}{i n:Nat}{c:Tr Value}(h:i+l.length<=n):bj (insT l i c) n=(bj c n).take i++l++(bj c n).drop (i+l.length):=by
 apply qaS
 intro j
 by_cases hj:j<n
 ·rw[cX _ hj,oE]
  by_cases h1:j<i
  ·rw[if_neg (by omega),qaC,qag (by rw[qaZ,aM];omega),List.getElem?_take_of_lt h1,cX _ hj]
  ·have hl:((bj c n).take i).length=i:=by rw[qaZ,aM];omega
   by_cases h2:j<i+l.length
   ·rw[if_pos ⟨by omega,h2⟩,qaC,qam (by omega),hl,qag (by omega)]
    rw[qaA (by omega)];rfl
   ·rw[if_neg (by omega),qam (by rw[qaD,hl];omega),qaD,hl,qa0,show i+l.length+(j - (i+l.length))=j by omega,cX _ hj]
 ·rw[qae (by rw[aM];omega),qae (by simp[aM];omega)]
theorem kP{l:List Value}{n:Nat}{c:Tr Value}:bj (insT l n c) (n+l.length)=bj c n++l:=by
 apply qaS
 intro j
 by_cases hj:j<n+l.length
 ·rw[cX _ hj,oE]
  by_cases h1:j<n
  ·rw[if_neg (by omega),qag (by rw[aM];exact h1),cX _ h1]
  ·rw[if_pos ⟨by omega,hj⟩,qam (by rw[aM];omega),aM,qaA (by omega)];rfl
 ·rw[qae (by rw[aM];omega),qae (by simp[aM];omega)]
theorem ui(l:List Value):bj (insT l 0 .leaf) l.length=l:=by
 have:=kP (l:=l) (n:=0) (c:=.leaf)
 simpa[bj]using this
def uN(c:Tr Value)(n:Nat):Nat->List Value:=Nat.rec (motive:=λ_=>Nat->List Value) (λ_=>[]) (λ_ ih off=>(ba off).get nilV c :: fN (Nat.succ off) ih) n
theorem iw(c:Tr Value):∀(n off m:Nat),off+n<=m->uN c n off=((bj c m).drop off).take n
 |0,_,_,_=>by rw[qc0];rfl
 |n+1,off,m,h=>by
  show(ba off).get nilV c :: uN c n (off+1)=_
  rw[iw c n (off+1) m (by omega)]
  have h1:off<(bj c m).length:=by rw[aM];omega
  rw[qbV h1,qci]
  congr 1
  have:=cX c (n:=m) (i:=off) (by omega)
  rw[qaA h1]at this
  exact(qan this).symm
section
variable {R:Type}
def putR{α:Type}(d:α)(p:Pth):Tr α->α->(Tr α->R)->R:=
 Pth.rec (motive:=λ_=>Tr α->α->(Tr α->R)->R)
  (λt x k=>Tr.casesOn t (k (.node x .leaf .leaf)) λ_ l r=>k (.node x l r))
  (λ_ ih t x k=>Tr.casesOn t (ih .leaf x λl=>k (.node d l .leaf)) λv l r=>ih l x λl=>k (.node v l r))
  (λ_ ih t x k=>Tr.casesOn t (ih .leaf x λr=>k (.node d .leaf r)) λv l r=>ih r x λr=>k (.node v l r)) p
theorem gN{α:Type}(d:α):∀(p:Pth) (t:Tr α) (x:α) (k:Tr α->R),putR d p t x k=k (p.set d t x)
 | .e,t,x,k=>by cases t<;>rfl
 | .o p,t,x,k=>by
  cases t with
  |leaf=>exact gN d p .leaf x _
  |node v l r=>exact gN d p l x _
 | .i p,t,x,k=>by
  cases t with
  |leaf=>exact gN d p .leaf x _
  |node v l r=>exact gN d p r x _
def putK(h:HTr)(i:Nat)(o:HOT)(k:HTr->R):R:=match Nat.blt i h.n with
 |true=>putR noO (ba i) h.t o λt=>k ⟨h.n,t⟩
 |false=>k h
def ir(h:HTr)(o:HOT)(k:HTr->R):R:=putR noO (ba h.n) h.t o λt=>fN (Nat.succ h.n) λn=>k ⟨n,t⟩
theorem fP(h:HTr)(i:Nat)(o:HOT)(k:HTr->R):putK h i o k=k (h.put i o):=by
 unfold putK HTr.put
 split
 ·rename_i e;rw[gN]
 ·rfl
theorem eV(h:HTr)(o:HOT)(k:HTr->R):ir h o k=k (h.push o):=by
 unfold ir HTr.push
 rw[gN,eO]
def tC{α:Type}(l:List α):(List α->R)->R:=
 List.rec (motive:=λ_=>(List α->R)->R) (λk=>k []) (λx _ ih k=>ih λl=>k (x :: l)) l
theorem lX{α:Type}:∀(l:List α) (k:List α->R),tC l k=k l
 | [],_=>rfl
 |x :: l,k=>lX l λl=>k (x :: l)
def tD(v:Value)(k:Value->R):R:=match v with
 | .int kd n=>fI n λn=>k (.int kd n)
 | .bool b=>Bool.rec (k (.bool false)) (k (.bool true)) b
 |v=>k v
theorem plainV_eq(v:Value)(k:Value->R):tD v k=k v:=by
 unfold tD
 split
 ·exact gF _ _
 ·rename_i b;cases b<;>rfl
 ·rfl
def insK(l:List Value):Nat->Tr Value->(Tr Value->R)->R:=
 List.rec (motive:=λ_=>Nat->Tr Value->(Tr Value->R)->R) (λ_ c k=>k c) (λv _ ih i c k=>tD v λv=>putR nilV (ba i) c v λc=>fN (Nat.succ i) λi=>ih i c k) l
theorem ly:∀(l:List Value) (i:Nat) (c:Tr Value) (k:Tr Value->R),insK l i c k=k (insT l i c)
 | [],_,_,_=>rfl
 |v :: l,i,c,k=>by
  show(tD v λv=>putR nilV (ba i) c v λc=>fN (Nat.succ i) λi=>insK l i c k)=_
  rw[plainV_eq,gN,eO,ly l];rfl
def qp(o:HObj)(k:HOT->R):R:=match o with
 | .cells vs e rw=>fN vs.length λn=>insK vs 0 .leaf λc=>k (.t n e rw c)
 | .map es c=>tC es λes=>fN c λc=>k (.o (.map es c))
 |o=>k (.o o)
theorem ii{o:HObj}{k:HOT->R}:∃x:HOT,x.ho = .o o/\qp o k=k x:=by
 cases o with
 |cells vs e rw=>
  refine⟨.t vs.length e rw (insT vs 0 .leaf),by simp only[HOT.ho,ui],?_⟩
  show(fN vs.length λn=>insK vs 0 .leaf λc=>k (.t n e rw c))=_
  rw[eO,ly]
 |map es c=>
  refine⟨.o (.map es c),rfl,?_⟩
  show(tC es λes=>fN c λc=>k (.o (.map es c)))=_
  rw[lX,eO]
 |_=>exact⟨.o _,rfl,rfl⟩
def oS(l:List Lf):(List Lf->R)->R:=
 List.rec (motive:=λ_=>(List Lf->R)->R) (λk=>k []) (λx _ ih k=>match x with
  | .i n=>fI n λn=>ih λl=>k (.i n :: l)
  | .b t=>Bool.rec (ih λl=>k (.b false :: l)) (ih λl=>k (.b true :: l)) t
  | .v v=>ih λl=>k (.v v :: l)) l
theorem dG:∀(l:List Lf) (k:List Lf->R),oS l k=k l
 | [],_=>rfl
 | .i n :: l,k=>(gF n λn=>oS l λl=>k (.i n :: l)).trans (dG l _)
 | .b true :: l,k=>dG l λl=>k (.b true :: l)
 | .b false :: l,k=>dG l λl=>k (.b false :: l)
 | .v v :: l,k=>dG l λl=>k (.v v :: l)
end
end Sx
end Go.Am

/-
 THE ALGEBRA OF RUNS: a run that the kernel makes.
-/
namespace Go.Am
section
open Sx
abbrev RT:=Option (List Lf)
abbrev yes:RT:=some []
def ans(b:Bool):RT:=match b with|true=>yes|false=>none
abbrev ac:=CK->List Lf->HTr->(List Lf->HTr->RT)->RT
def Act1.onH(h:HL):Act1->HL
 | .set i o=>h.set i (.o o)
 | .push o=>h++[.o o]
def bY(h:HL)(l:List Act1):HL:=l.foldl Act1.onH h
def getH(T:Nat->Site)(h:HL):bM:=λi=>match h[i]? with
 |some x=>some (absO T x)
 |none=>none
def getT(T:Nat->Site)(h:HTr):bM:=λi=>match h.at i with
 |some x=>some (absO T x.ho)
 |none=>none
def tZ(l:List Act1):HTr->(HTr->RT)->RT:=
 List.rec (motive:=λ_=>HTr->(HTr->RT)->RT) (λh k=>k h) (λa _ ih h k=>match a with
  | .set i o=>qp o λo=>putK h i o λh=>ih h k
  | .push o=>qp o λo=>ir h o λh=>ih h k) l
def condB(b:Bool)(x y:RT):RT:=Bool.rec y x b
def outG(k:IntKind)(c:Int)(K:Int->RT):RT:=Bool.rec (fI (k.wrap c) K) (K c) (fits k c)
def out64(c:Int)(K:Int->RT):RT:=@Bool.rec (λ_=>RT) (fI (IntKind.wrap .i64 c) K) (K c) (@Int.rec (λ_=>Bool) (λn=>Nat.ble n 9223372036854775807) (λn=>Nat.ble n 9223372036854775807) c)
def outU8(c:Int)(K:Int->RT):RT:=@Bool.rec (λ_=>RT) (fI (IntKind.wrap .u8 c) K) (K c) (@Int.rec (λ_=>Bool) (λn=>Nat.ble n 255) (λ_=>false) c)
def outK(k:IntKind)(c:Int)(K:Int->RT):RT:=@IntKind.rec (λ_=>RT) (outG .i8 c K) (outG .i16 c K) (outG .i32 c K) (out64 c K) (outU8 c K) (outG .u16 c K) (outG .u32 c K) (outG .u64 c K) k
def addK(a b:Int)(K:Int->RT):RT:=
 Int.rec (λm=>Int.rec (λn=>fN (Nat.add m n) λc=>K (.ofNat c)) (λn=>Bool.rec (fN (Nat.sub n m) λc=>K (.negSucc c)) (fN (Nat.sub m (Nat.succ n)) λc=>K (.ofNat c)) (Nat.blt n m)) b)
  (λm=>Int.rec (λn=>Bool.rec (fN (Nat.sub m n) λc=>K (.negSucc c)) (fN (Nat.sub n (Nat.succ m)) λc=>K (.ofNat c)) (Nat.blt m n)) (λn=>fN (Nat.succ (Nat.add m n)) λc=>K (.negSucc c)) b) a
def subK(a b:Int)(K:Int->RT):RT:=
 Int.rec (λm=>Int.rec (λn=>Bool.rec (fN (Nat.sub n (Nat.succ m)) λc=>K (.negSucc c)) (fN (Nat.sub m n) λc=>K (.ofNat c)) (Nat.ble n m)) (λn=>fN (Nat.succ (Nat.add m n)) λc=>K (.ofNat c)) b)
  (λm=>Int.rec (λn=>fN (Nat.add m n) λc=>K (.negSucc c)) (λn=>Bool.rec (fN (Nat.sub m (Nat.succ n)) λc=>K (.negSucc c)) (fN (Nat.sub n m) λc=>K (.ofNat c)) (Nat.ble m n)) b) a
def mulK(a b:Int)(K:Int->RT):RT:=
 Int.rec (λm=>Int.rec (λn=>fN (Nat.mul m n) λc=>K (.ofNat c)) (λn=>Nat.rec (K (.ofNat 0)) (λm' _=>fN (Nat.add (Nat.mul m n) m') λc=>K (.negSucc c)) m) b)
  (λm=>Int.rec (λn=>Nat.rec (K (.ofNat 0)) (λn' _=>fN (Nat.add (Nat.mul m n) n') λc=>K (.negSucc c)) n) (λn=>fN (Nat.mul (Nat.succ m) (Nat.succ n)) λc=>K (.ofNat c)) b) a
def quoK(a b:Int)(K:Int->RT):RT:=
 Int.rec (λm=>Int.rec (λn=>fN (Nat.div m n) λc=>K (.ofNat c)) (λ_=>fI (Int.tdiv a b) K) b) (λ_=>fI (Int.tdiv a b) K) a
def remK(a b:Int)(K:Int->RT):RT:=
 Int.rec (λm=>Int.rec (λn=>fN (Nat.mod m n) λc=>K (.ofNat c)) (λ_=>fI (Int.tmod a b) K) b) (λ_=>fI (Int.tmod a b) K) a
def isZ(b:Int):Bool:=Int.rec (λn=>Nat.beq n 0) (λ_=>false) b
def ariB(op:BinOp)(k:IntKind)(a b:Int)(K:Int->RT):RT:=
 match op with
 | .add=>addK a b λc=>outK k c K
 | .sub=>subK a b λc=>outK k c K
 | .mul=>mulK a b λc=>outK k c K
 | .quo=>Bool.rec (quoK a b λc=>outK k c K) none (isZ b)
 | .rem=>Bool.rec (remK a b K) none (isZ b)
 | .and=>match eqI b 1 with
  |true=>fI (Int.emod a 2) K
  |false=>match a,b with
   | .ofNat m,.ofNat n=>fI (.ofNat (Nat.land m n)) λc=>outK k c K
   |_,_=>none
 | .xor=>match a,b with
  | .ofNat m,.ofNat n=>fI (.ofNat (Nat.xor m n)) λc=>outK k c K
  |_,_=>none
 | .or=>match a,b with
  | .ofNat m,.ofNat n=>fI (.ofNat (Nat.lor m n)) λc=>outK k c K
  |_,_=>none
 |_=>none
def eqZK(a b:Int):Bool:=Int.rec (λm=>Int.rec (λn=>Nat.beq m n) (λ_=>false) b) (λm=>Int.rec (λ_=>false) (λn=>Nat.beq m n) b) a
def notK(b:Bool):Bool:=Bool.rec true false b
def cmpB(op:BinOp)(a b:Int)(K:Bool->RT):RT:=
 match op with
 | .eql=>K (eqZK a b)
 | .neq=>K (notK (eqZK a b))
 | .lss=>K (notK (leZ b a))
 | .leq=>K (leZ a b)
 | .gtr=>K (notK (leZ a b))
 | .geq=>K (leZ b a)
 |_=>none
def eqBK(a b:Bool):Bool:=Bool.rec (notK b) b a
def eqLf(x y:Lf):Bool:=Lf.rec (λa=>Lf.rec (λb=>eqZK a b) (λ_=>false) (λ_=>false) y) (λa=>Lf.rec (λ_=>false) (λb=>eqBK a b) (λ_=>false) y) (λ_=>false) x
def eqsV(l:List (Lf×Lf)):Bool:=List.rec true (λp _ ih=>Bool.rec false ih (eqLf p.1 p.2)) l
def eqsB(l:List (Lf×Lf))(K:Bool->RT):RT:=K (eqsV l)
def convB(k:IntKind)(a:Int)(K:Int->RT):RT:=outK k a K
def selB(t:Bool)(a b:Int)(K:Int->RT):RT:=Bool.rec (K b) (K a) t
def optB{α:Type}(o:Option α)(K:α->RT):RT:=Option.rec none K o
def unIB(ls:List Lf)(K:Int->List Lf->RT):RT:=List.rec none (λx r _=>Lf.rec (λn=>K n r) (λ_=>none) (λ_=>none) x) ls
def unBB(ls:List Lf)(K:Bool->List Lf->RT):RT:=List.rec none (λx r _=>Lf.rec (λ_=>none) (λn=>K n r) (λ_=>none) x) ls
def unVB(ls:List Lf)(K:Value->List Lf->RT):RT:=List.rec none (λx r _=>Lf.rec (λ_=>none) (λ_=>none) (λn=>K n r) x) ls
def un0B(ls:List Lf)(K:RT):RT:=List.rec K (λ_ _ _=>none) ls
def ucIB(k:IntKind)(ls:List Value)(K:Int->List Value->RT):RT:=match ls with | .int k' n :: r=>(match eq k k' with|true=>K n r|false=>none)|_=>none
def ucBB(ls:List Value)(K:Bool->List Value->RT):RT:=match ls with | .bool n :: r=>K n r|_=>none
def ucVB(ls:List Value)(K:Value->List Value->RT):RT:=match ls with|n :: r=>K n r|_=>none
def uc0B(ls:List Value)(K:RT):RT:=match ls with | []=>K|_=>none
def spot0(s:Option Nat):Bool:=match s with
 |none=>true
 |some k=>match k with
  |0=>false
  |_=>true
def goodF(v:Value):Bool:=match v with
 | .pointer (some a)=>spot0 a.spot
 | .slice (some a) _ _=>spot0 a.spot
 |v=>aX v
def chkB(v:Value)(K:RT):RT:=match goodF v with|true=>K|false=>none
def lenR{α:Type}(l:List α):Nat:=List.rec 0 (λ_ _ n=>Nat.succ n) l
def ldB(n:Nat)(p:Value)(h:HTr)(K:List Value->RT):RT:=match p with
 | .pointer (some a)=>match a.spot with
  |none=>match h.at a.block with
   |some (.t m _ _ c)=>match Nat.ble (Nat.add a.off n) m with
    |true=>K (uN c n a.off)
    |false=>none
   |_=>none
  |some _=>none
 |_=>none
def lgB(C:Cfg)(n:Nat)(p:Value)(h:HTr)(K:List Value->RT):RT:=match p with
 | .pointer (some a)=>match a.spot with
  |none=>match h.at a.block with
   |some (.t m _ _ c)=>match Nat.ble (Nat.add a.off n) m with
    |true=>K (uN c n a.off)
    |false=>none
   |_=>none
  |some k=>match Nat.beq k 1 with
   |true=>match C.G a.block with
    |some vs=>match cutL vs a.off n with
     |some cs=>K cs
     |none=>none
    |none=>none
   |false=>none
 |_=>none
def peekB(T:Nat->Site)(f:Pk)(h:HTr)(K:List Value->RT):RT:=match f with
 | .ld n p=>ldB n p h K
 | .lg C n p=>lgB C n p h K
 | .fn f=>match f (getT T h)with|some x=>K x|none=>none
def stB(p:Value)(new:List Value)(h:HTr)(K:List Value->HTr->RT):RT:=match p with
 | .pointer (some a)=>match a.spot with
  |none=>match h.at a.block with
   |some (.t m e true c)=>match Nat.ble (Nat.add a.off (lenR new)) m with
    |true=>insK new a.off c λc=>putK h a.block (.t m e true c) λh=>K [] h
    |false=>none
   |_=>none
  |some _=>none
 |_=>none
def tagB(s:Option Nat)(esz:Nat):Bool:=match s with
 |none=>false
 |some k=>Nat.beq k (Nat.add esz 10)
def slB(C:Cfg)(T:Nat->Site)(esz:Nat)(x:Value)(h:HTr)(K:List Value->Nat->RT):RT:=match x with
 | .slice (some a) len _=>match tagB a.spot esz with
  |true=>match h.at a.block with
   |some (.t m e _ c)=>match Nat.beq e esz,Nat.ble (Nat.add a.off (Nat.mul len esz)) m with
    |true,true=>K (uN c (Nat.mul len esz) a.off) len
    |_,_=>none
   |_=>none
  |false=>match slG C esz (getT T h) x with
   |some p=>K p.1 p.2
   |none=>none
 |x=>match slG C esz (getT T h) x with
  |some p=>K p.1 p.2
  |none=>none
def growB(c:Tr Value)(m off w esz:Nat)(new:List Value)(k:HOT->RT):RT:=match Nat.beq off 0,Nat.beq w m with
 |true,true=>insK new m c λc=>fN (Nat.add m (lenR new)) λm=>k (.t m esz true c)
 |_,_=>qp (.cells (uN c w off++new) esz true) k
def apB(T:Nat->Site)(C:Cfg)(esz bytes:Nat)(s x:Value)(h:HTr)(K:List Value->HTr->RT):RT:=
 slB C T esz x h λnew n=>match s with
  | .slice none 0 0=>match n with
   |0=>K [.slice none 0 0] h
   |n+1=>match cf (n+1) bytes with
    |true=>qp (.cells new esz true) λo=>ir h o λh'=>fN (n+1) λn=>K [.slice (some ⟨h.n,0,tag esz⟩) n 0] h'
    |false=>none
  | .slice (some a) len cx=>match tagB a.spot esz with
   |false=>none
   |true=>match h.at a.block with
    |some (.t m e rw c)=>match Nat.beq e esz,Nat.ble (Nat.add a.off (Nat.mul len esz)) m with
     |true,true=>match cx with
      |0=>match n with
       |0=>K [.slice (some a) len 0] h
       |n+1=>match rw,cf (len+(n+1)) bytes with
        |true,true=>growB c m a.off (Nat.mul len esz) esz new λo=>putK h a.block (.o .dead) λh'=>ir h' o λh''=>fN (len+(n+1)) λl=>K [.slice (some ⟨h.n,0,tag esz⟩) l 0] h''
        |_,_=>none
      |cap+1=>match Nat.ble (len+n) cap with
       |true=>match rw,Nat.ble (Nat.add (Nat.add a.off (Nat.mul len esz)) (lenR new)) m with
        |true,true=>insK new (Nat.add a.off (Nat.mul len esz)) c λc=>putK h a.block (.t m e true c) λh'=>fN (len+n) λl=>K [.slice (some a) l (cap+1)] h'
        |_,_=>none
       |false=>match cf (len+n) bytes with
        |true=>growB c m a.off (Nat.mul len esz) esz new λo=>ir h o λh'=>fN (len+n) λl=>K [.slice (some ⟨h.n,0,tag esz⟩) l 0] h'
        |false=>none
     |_,_=>none
    |_=>none
  |_=>none
def heapB(T:Nat->Site)(f:Hp)(h:HTr)(K:List Value->HTr->RT):RT:=match f with
 | .st p new=>stB p new h K
 | .ap C esz bytes s x=>apB T C esz bytes s x h K
 | .fn f=>match f (getT T h) h.n with|some p=>tC p.2 λcs=>tZ p.1 h λh=>K cs h|none=>none
def newB(o:HObj)(h:HTr)(K:Nat->HTr->RT):RT:=qp o λo=>ir h o λh'=>K h.n h'
def toSL(k:LK)(v:Value):Option SL:=
 match k with
 | .i k=>match v with
  | .int k' n=>match eq k' k with
   |true=>some (.i k' n)
   |false=>none
  |_=>none
 | .b=>match v with
  | .bool t=>some (.b t)
  |_=>none
 | .v=>match aX v with
  |true=>some (.v v)
  |false=>none
def toSLs:List LK->List Value->Option (List SL)
 | [],[]=>some []
 |k :: ks,v :: vs=>match toSL k v with
  |some x=>match toSLs ks vs with
   |some xs=>some (x :: xs)
   |none=>none
  |none=>none
 |_,_=>none
def toS0(sk:SK)(v:Value):Option S0:=
 match sk with
 | .leaf k=>(toSL k v).map .leaf
 | .agg ks=>match v with
  | .agg cs=>(toSLs ks cs.toList).map .agg
  |_=>none
def toS0s:List SK->List Value->Option (List S0)
 | [],[]=>some []
 |k :: ks,v :: vs=>match toS0 k v with
  |some x=>match toS0s ks vs with
   |some xs=>some (x :: xs)
   |none=>none
  |none=>none
 |_,_=>none
def eqLK:LK->LK->Bool
 | .i a,.i b=>eq a b
 | .b,.b=>true
 | .v,.v=>true
 |_,_=>false
def eqLKs:List LK->List LK->Bool
 | [],[]=>true
 |a :: l,b :: m=>eqLK a b&&eqLKs l m
 |_,_=>false
def eqSK:SK->SK->Bool
 | .leaf a,.leaf b=>eqLK a b
 | .agg a,.agg b=>eqLKs a b
 |_,_=>false
def eqSKs:List SK->List SK->Bool
 | [],[]=>true
 |a :: l,b :: m=>eqSK a b&&eqSKs l m
 |_,_=>false
def aO(ls:List Lf):Bool:=List.rec true (λl _ ih=>match l with
 | .v x=>(match goodF x with
  |true=>ih
  |false=>false)
 |_=>ih) ls
section
variable (Sg:FuncId->Option Sig) (T:Nat->Site) (call:ac)
def ug(g:FuncId)(ls:List Lf)(h:HTr)(K:List Lf->HTr->RT):RT:=match aO ls with|true=>call (.f g) ls h K|false=>none
def jY(g:FuncId)(hs:Option (List SK))(vals:List Value)(h:HTr)(K:List Lf->HTr->RT):RT:=
 match Sg g with
 |none=>none
 |some sg=>match (match hs with|none=>true|some hs=>eqSKs sg.rs hs)with
  |false=>none
  |true=>match toS0s sg.ps vals with
   |none=>none
   |some xs=>ug call g (bn xs) h K
def callvB(v:Value)(args:List Value)(hs:List SK)(h:HTr)(K:List Lf->HTr->RT):RT:=
 match v with
 | .func fn first cap=>match fn with
  | .func g=>jY Sg call g (some hs) (first.toList++args++cap.toList) h K
  | .yield l=>match first.toList,cap.toList with
   | [],[]=>match h.at l with
    |some (.lp κ _ _ vs)=>match eqSKs [.leaf .b] hs with
     |false=>none
     |true=>match toS0s ((T κ).params.map (·.2)) args with
      |none=>none
      |some xs=>match aO (bn xs)with
       |true=>call (.y κ vs l) (bn xs) h K
       |false=>none
    |_=>none
   |_,_=>none
  |_=>none
 |_=>none
def rfunB(κ:Nat)(v:Value)(vals:List Value)(h:HTr)(K:Option Code->HTr->RT):RT:=
 match v with
 | .func fn first cap=>match fn with
  | .func g=>ir h (.lp κ .ready none vals) λh0=>jY Sg call g none (first.toList++[.func (.yield h.n) #[] #[]]++cap.toList) h0 λ_ h1=>match h1.at h.n with
   |some (.lp κ' st pd vs)=>match st with
    | .busy=>none
    |_=>putK h1 h.n (.lp κ' .exhausted pd vs) λh2=>K pd h2
   |_=>none
  |_=>none
 |_=>none
def pendB(pd:Option Code)(kn kr:RT)(ks:List (Nat×RT)):RT:=
 match pd with
 |none=>kn
 |some c=>match c with
  | .ret=>kr
  | .exit id=>List.rec none (λp _ ih=>match Nat.beq p.1 id with|true=>p.2|false=>ih) ks
  |_=>none
def lp1B(l:Nat)(h:HTr)(K:HTr->RT):RT:=
 match h.at l with
 |some (.lp κ st pd vs)=>match st with
  | .ready=>putK h l (.lp κ .busy pd vs) K
  |_=>none
 |_=>none
def lp2B(l:Nat)(j:Option Code)(h:HTr)(K:HTr->RT):RT:=
 match h.at l with
 |some (.lp κ _ _ vs)=>match j with
  |none=>putK h l (.lp κ .ready none vs) K
  |some c=>putK h l (.lp κ .done (some c) vs) K
 |_=>none
end
def loopB(F:(List Lf->HTr->RT)->List Lf->HTr->RT)(ls:List Lf)(h:HTr):RT:=
 Nat.rec (motive:=λ_=>List Lf->HTr->RT) (λ_ _=>none) (λ_ ih ls h=>F ih ls h) 1000000 ls h
def joinB(b:List Lf->HTr->RT)(m:(List Lf->HTr->RT)->RT):RT:=m b
def shfB(op:BinOp)(k:IntKind)(a:Int)(_:IntKind)(b:Int)(K:Int->RT):RT:=match leZ 0 b with
 |true=>match op with
  | .shl=>fI (k.wrap (a*2 ^ min b.toNat k.bits)) K
  | .shr=>fI (a.fdiv (2 ^ min b.toNat k.bits)) K
  |_=>none
 |false=>none
def BA(Sg:FuncId->Option Sig)(T:Nat->Site)(call:ac):Alg RT HTr where
 fail:=none
 cond:=condB
 ari:=ariB
 shf:=shfB
 cmp:=cmpB
 eqs:=eqsB
 conv:=convB
 sel:=selB
 opt:=optB
 chk:=chkB
 unI:=unIB
 unB:=unBB
 unV:=unVB
 un0:=un0B
 ucI:=ucIB
 ucB:=ucBB
 ucV:=ucVB
 uc0:=uc0B
 peek:=peekB T
 heap:=heapB T
 new:=newB
 call:=ug call
 callv:=callvB Sg T call
 join:=joinB
 loop:=loopB
 rfun:=rfunB Sg call
 pend:=pendB
 lp1:=lp1B
 lp2:=lp2B
end
end Go.Am

/-
 REGIONS THAT DRAW THEIR ORDER: what is known where the values have been told apart.
-/
namespace Go.Am
namespace Sx
section
variable [Val] [Kno]
def wAt(pts:List Nat)(tm:List Value)(o:Oper):List Nat:=(wOps pts o).flatMap λx=>adr (oval tm x)
def fAt(pts:List Nat)(tm:List Value)(o:Oper):List Nat:=(cy pts o).1.flatMap λx=>adrK (cy pts o).2 (oval tm x)
def dstIn(pts:List Nat)(tm:List Value)(o:Oper):Prop:=∀d,o.dst=some d->hCls pts o=2->∃v,tm[d]? = some v
def SepAt(pts:List Nat)(ops:Array Oper)(tm:List Value)(ps:List (Nat×Nat)):Prop:=
 ∀p∈ps,∃a b,ops[p.1]? = some a/\ops[p.2]? = some b/\(∀x∈wAt pts tm a,x∉fAt pts tm b)/\(∀x∈wAt pts tm a,x∉wAt pts tm b)/\(∀x∈wAt pts tm b,x∉fAt pts tm a)/\dstIn pts tm a/\dstIn pts tm b
def DrOk(C:Cfg)(dr:Dr):Prop:=∀pts ops ps,dr pts ops=some ps->∀(n:Nat) (σ σ':St),bU C (sm C n).toBelow pts ops (List.range ops.size) σ σ'->SepAt pts ops σ'.tmps ps->fp C (sm C n).toBelow pts ops σ σ'
theorem tc{x:Nat}:∀ {l:List Nat},memN x l=true↔x∈l
 | []=>by simp[memN]
 |y :: l=>by
  unfold memN
  cases h:Nat.beq x y with
  |true=>simp[qad h]
  |false=>
   have:x≠y:=λe=>by subst e;rw[show Nat.beq x x=true from qb6 x]at h;cases h
   simp only[qak,this,false_or]
   exact tc
theorem sB:∀ {l m:List Nat},disjN l m=true->∀x∈l,x∉m
 | [],_,_,_,h=>by cases h
 |y :: l,m,h,x,hx=>by
  unfold disjN at h
  cases hm:memN y m with
  |true=>rw[hm]at h;cases h
  |false=>
   rw[hm]at h
   rcases qak.1 hx with rfl|hx
   ·intro e;rw[tc.2 e]at hm;cases hm
   ·exact sB h x hx
theorem sepL_ok:∀ {l:List (Value×Nat×Value)} {u:Unit},sepL l=some u->∀p∈l,∀r∈adr p.1,r∉adrK p.2.1 p.2.2
 | [],_,_,_,h=>by cases h
 |q :: l,u,h,p,hp=>by
  unfold sepL at h
  split at h
  ·rename_i hd
   rcases qak.1 hp with rfl|hp
   ·exact sB hd
   ·exact sepL_ok h p hp
  ·cases h
theorem entV_ok{ev:Env}{σ:St}(hR:Rp ev σ){x:Operand}{us:List Value}(h:entV (sval ev x)=some us)(k r:Nat)(hr:r∈adrK k (oval σ.tmps x)):∃u∈us,r∈adrK k u:=by
 have hn:sval ev x≠.no:=λe=>by rw[e]at h;cases h
 have hv:=(hR.sval rfl hn).1
 rw[hv]at hr
 generalize sval ev x=s at *
 have none:adrK k s.val=[]->∃u∈us,r∈adrK k u:=λe=>by rw[e]at hr;cases hr
 cases s with
 |st y=>
  cases y with
  |leaf l=>
   cases l with
   |v u=>
    cases h
    exact⟨u,by simp,hr⟩
   |_=>exact none (by cases k with|zero=>rfl|succ k=>cases k<;>rfl)
  |agg cs=>exact none (by cases k with|zero=>rfl|succ k=>cases k<;>rfl)
 |no=>exact absurd rfl hn
 |_=>exact none (by cases k with|zero=>rfl|succ k=>cases k<;>rfl)
theorem eN{ev:Env}{σ:St}(hR:Rp ev σ):∀ {l:List Operand} {us:List Value},ol ev l=some us->∀(k r:Nat),r∈l.flatMap (λx=>adrK k (oval σ.tmps x))->∃u∈us,r∈adrK k u
 | [],_,_,_,_,h=>by cases h
 |x :: l,us,h,k,r,hr=>by
  unfold ol at h
  split at h
  ·rename_i a b ha hb
   cases h
   rw[qbo,qaK]at hr
   rcases hr with hr|hr
   ·obtain⟨u,h1,h2⟩:=entV_ok hR ha k r hr
    exact⟨u,qaI _ h1,h2⟩
   ·obtain⟨u,h1,h2⟩:=eN hR hb k r hr
    exact⟨u,qaR _ h1,h2⟩
  ·cases h
theorem kX{ev:Env}{σ:St}(hR:Rp ev σ){d:Nat}:∀ {l:List Operand} {us:List Value},ol ev l=some us->Operand.tmp d∈l->∃v,σ.tmps[d]? = some v
 |x :: l,us,h,hm=>by
  unfold ol at h
  split at h
  ·rename_i a b ha hb
   rcases qak.1 hm with rfl|hm
   ·have hn:sval ev (.tmp d)≠.no:=λe=>by rw[e]at ha;cases ha
    exact⟨_,(hR.at (s:=ev.tm.getD d .no) rfl hn).1⟩
   ·exact kX hR hb hm
  ·cases h
theorem pv{pts:List Nat}{o:Oper}{d:Nat}(hd:o.dst=some d)(h:hCls pts o=2):Operand.tmp d∈wOps pts o:=by
 unfold wOps
 rw[h,hd]
 simp
theorem kT{us vs:List Value}{k:Nat}{u v:Value}(hu:u∈us)(hv:v∈vs):(u,k,v)∈cross us k vs:=by
 unfold cross
 exact qbx.2 ⟨u,hu,qaE.2 ⟨v,hv,rfl⟩⟩
theorem sepOne_ok{pts:List Nat}{ev:Env}{σ:St}(hR:Rp ev σ){a b:Oper}{l:List (Value×Nat×Value)}(h:sepOne pts ev a b=some l)(hs:∀p∈l,∀r∈adr p.1,r∉adrK p.2.1 p.2.2) :
  (∀x∈wAt pts σ.tmps a,x∉fAt pts σ.tmps b)/\(∀x∈wAt pts σ.tmps a,x∉wAt pts σ.tmps b)/\(∀x∈wAt pts σ.tmps b,x∉fAt pts σ.tmps a)/\dstIn pts σ.tmps a/\dstIn pts σ.tmps b:=by
 unfold sepOne at h
 split at h
 ·rename_i wa wb fa fb h1 h2 h3 h4
  cases h
  refine⟨λx hx hy=>?_,λx hx hy=>?_,λx hx hy=>?_,λd hd hc=>kX hR h1 (pv hd hc),λd hd hc=>kX hR h2 (pv hd hc)⟩
  ·obtain⟨u,u1,u2⟩:=eN hR h1 0 x hx
   obtain⟨v,v1,v2⟩:=eN hR h4 _ x hy
   exact hs (u,_,v) (qaI _ (qaI _ (kT u1 v1))) x u2 v2
  ·obtain⟨u,u1,u2⟩:=eN hR h1 0 x hx
   obtain⟨v,v1,v2⟩:=eN hR h2 0 x hy
   exact hs (u,0,v) (qaI _ (qaR _ (kT u1 v1))) x u2 v2
  ·obtain⟨u,u1,u2⟩:=eN hR h2 0 x hx
   obtain⟨v,v1,v2⟩:=eN hR h3 _ x hy
   exact hs (u,_,v) (qaR _ (kT u1 v1)) x u2 v2
 ·cases h
theorem nH{pts:List Nat}{ops:Array Oper}{ev:Env}{σ:St}(hR:Rp ev σ):∀ {ps:List (Nat×Nat)} {l:List (Value×Nat×Value)},pf pts ops ev ps=some l->(∀p∈l,∀r∈adr p.1,r∉adrK p.2.1 p.2.2)->SepAt pts ops σ.tmps ps
 | [],_,_,_,_,h=>by cases h
 |q :: ps,l,h,hs,p,hp=>by
  unfold pf at h
  split at h
  ·rename_i a b r ha hb hr
   obtain⟨x,hx,rfl⟩:=qac.1 h
   rcases qak.1 hp with rfl|hp
   ·exact⟨a,b,ha,hb,sepOne_ok hR hx λp hp=>hs p (qaI _ hp)⟩
   ·exact nH hR hr (λp hp=>hs p (qaR _ hp)) p hp
  ·cases h
theorem sepK_ok{R HT:Type}{A:Alg R HT}{C:Cfg}{Sg:FuncId->Option Sig}{T:Nat->Site}{holds:R->Prop}{abs:HT->List HObj}(hA:AlgOk A C Sg T holds abs){pts:List Nat}{ops:Array Oper}{ps:List (Nat×Nat)}{kn:KN R HT}{ev:Env}{σ:St}(hR:Rp ev σ){h:HT}(hk:holds (sepK A pts ops ps kn ev h)) :
  SepAt pts ops σ.tmps ps/\holds (kn ev h):=by
 unfold sepK at hk
 split at hk
 ·exact⟨λp hp=>(by cases hp),hk⟩
 ·simp only at hk
  split at hk
  ·rename_i l hl
   obtain⟨u,h1,h2⟩:=hA.opt _ _ hk
   exact⟨nH hR hl (sepL_ok h1),h2⟩
  ·exact absurd hk hA.fail
end
end Sx
end Go.Am

/-
 OPERATIONS: what the algebra says of them,the abstract machine does. First part: temporaries,local rows,structs.
-/
namespace Go.Am
section
variable [Val] [Kno] {R HT:Type} {A:Alg R HT} {X:Ctxt} {Sg:FuncId->Option Sig} {holds:R->Prop} {abs:HT->List HObj}
variable {ev:Env} {σ:St} {h:HT} {o:Oper} {K:KN R HT}
def StepO(C:Cfg)(pts:List Nat)(o:Oper)(σ σ':St):Prop:=
 (∃e,ak C pts (oval σ.tmps) o=some e/\hO (uB C) e o.dst σ σ')∨(∃v,gy C σ.tmps o v/\σ'=σ.put o.dst v)
def qD(pts:List Nat)(o:Oper):Option Nat:=
 match o.op,o.dst with
 | .box ..,some d=>if pts.getD d 0=d+2 then some d else none
 | .alloc _,some d=>if pts.getD d 0=d+2 then some d else none
 |_,_=>none
def Done(X:Ctxt)(holds:R->Prop)(abs:HT->List HObj)(o:Oper)(σ:St)(K:KN R HT):Prop:=
 ∃σ' ev' h',StepO X.C X.pts o σ σ'/\Rp ev' σ'/\abs h'=σ'.heap/\Fr o.dst.toList (qD X.pts o).toList (gK X.pts o).toList σ σ'/\holds (K ev' h')
theorem rX(hR:Rp ev σ){dst:Option Tmp}{s:SV}(hs:s.gd)(hk:holds (setD dst s ev h K)):∃ev',Rp ev' (σ.put dst s.val)/\holds (K ev' h):=by
 unfold setD at hk
 cases dst with
 |none=>exact⟨ev,hR,hk⟩
 |some d=>
  simp only[setK_eq]at hk
  exact⟨_,hR.put d hs,hk⟩
theorem cO(hR:Rp ev σ)(H':List HObj)(ha:abs h=H'){s:SV}(hs:s.gd)
  (hst:StepO X.C X.pts o σ (({ σ with heap:=H' }:St).put o.dst s.val)) (hk:holds (setD o.dst s ev h K)):Done X holds abs o σ K:=by
 obtain⟨ev',h1,h2⟩:=rX (hR.heap H') hs hk
 refine⟨_,ev',h,hst,h1,?_,?_,h2⟩
 ·rw[ha];cases o.dst<;>rfl
 ·have:=Fr.put (σ:=({ σ with heap:=H' }:St)) o.dst s.val (qD X.pts o).toList (gK X.pts o).toList
  exact⟨this.tlen,this.llen,this.tm,this.tp,this.row,this.rlen⟩
theorem aw(hR:Rp ev σ)(ha:abs h=σ.heap){s:SV}(hs:s.gd)(he:ak X.C X.pts (oval σ.tmps) o=some (.val s.val))(hk:holds (setD o.dst s ev h K)) :
  Done X holds abs o σ K:=
 cO hR σ.heap ha hs (.inl ⟨_,he,_,rfl,rfl⟩) hk
theorem bE(hR:Rp ev σ)(ha:abs h=σ.heap){s:SV}(hs:s.gd)(he:gy X.C σ.tmps o s.val)(hk:holds (setD o.dst s ev h K)) :
  Done X holds abs o σ K:=
 cO hR σ.heap ha hs (.inr ⟨_,he,rfl⟩) hk
theorem fA(hR:Rp ev σ)(ha:abs h=σ.heap){s:SV}(hs:s.gd){f:List HObj->Option Value}(he:ak X.C X.pts (oval σ.tmps) o=some (.hget f))(hf:f σ.heap=some s.val)
  (hk:holds (setD o.dst s ev h K)):Done X holds abs o σ K:=
 cO hR σ.heap ha hs (.inl ⟨_,he,(σ,s.val),by simp[aD,hf],rfl⟩) hk
theorem cA(hR:Rp ev σ){H':List HObj}(ha:abs h=H'){s:SV}(hs:s.gd){f:List HObj->Option (List HObj×Value)}(he:ak X.C X.pts (oval σ.tmps) o=some (.hop f))
  (hf:f σ.heap=some (H',s.val)) (hk:holds (setD o.dst s ev h K)):Done X holds abs o σ K:=
 cO hR H' ha hs (.inl ⟨_,he,({ σ with heap:=H' },s.val),by simp[aD,hf],rfl⟩) hk
theorem move_ok(hR:Rp ev σ)(ha:abs h=σ.heap){x:Operand}(ho:o.op = .move x∨o.op = .assign x){y:SV}(hy:sval ev x=y)(hn:y≠.no)(hk:holds (setD o.dst y ev h K)):Done X holds abs o σ K:=by
 obtain⟨h1,h2⟩:=hR.sval hy hn
 refine aw hR ha h2 ?_ hk
 rcases ho with ho|ho<;>simp only[ak,ho,h1]
theorem pick_ok(hA:AlgOk A X.C Sg X.T holds abs)(hR:Rp ev σ)(ha:abs h=σ.heap){c a b:Operand}(ho:o.op = .pick c a b)
  (hk:holds (match sval ev c,sval ev a,sval ev b with
  | .st (.leaf (.l true)),.st y,_=>setD o.dst (.st y) ev h K
  | .st (.leaf (.l false)),_,.st y=>setD o.dst (.st y) ev h K
  | .st (.leaf (.b t)),.st y,.st z=>A.cond t (setD o.dst (.st y) ev h K) (setD o.dst (.st z) ev h K)
  |_,_,_=>A.fail)):Done X holds abs o σ K:=by
 split at hk
 ·rename_i y e1 e2
  obtain⟨h1,_⟩:=hR.sval e1 (by simp)
  obtain⟨h2,g2⟩:=hR.sval e2 (by simp)
  refine aw hR ha g2 ?_ hk
  simp only[ak,ho,h1,SV.val,S0.val,SL.val,if_true,h2]
 ·rename_i y e1 e2
  obtain⟨h1,_⟩:=hR.sval e1 (by simp)
  obtain⟨h2,g2⟩:=hR.sval e2 (by simp)
  refine aw hR ha g2 ?_ hk
  simp only[ak,ho,h1,SV.val,S0.val,SL.val,h2,qar,if_false]
 ·rename_i t y z e1 e2 e3
  obtain⟨h1,_⟩:=hR.sval e1 (by simp)
  obtain⟨h2,g2⟩:=hR.sval e2 (by simp)
  obtain⟨h3,g3⟩:=hR.sval e3 (by simp)
  rcases hA.cond _ _ _ hk with⟨ht,hk⟩|⟨ht,hk⟩
  ·refine aw hR ha g2 ?_ hk
   simp only[ak,ho,h1,SV.val,S0.val,SL.val,ht,if_true,h2]
  ·refine aw hR ha g3 ?_ hk
   simp only[ak,ho,h1,SV.val,S0.val,SL.val,ht,h3,qar,if_false]
 ·exact absurd hk hA.fail
theorem newV_ok(hA:AlgOk A X.C Sg X.T holds abs)(hR:Rp ev σ)(ha:abs h=σ.heap){t:TypeId}{x:S0}(hx:x.good)(he:ak X.C X.pts (oval σ.tmps) o=bJ X.C X.pts o.dst t x.val)
  (hb:(∃y,o.op = .box t y)∨o.op = .alloc t) (hk:holds (newV A X o.dst t x ev h K)):Done X holds abs o σ K:=by
 unfold newV at hk
 split at hk
 ·exact absurd hk hA.fail
 ·rename_i d hd
  have dO:=S0.cells_val hx
  have hok:=S0.cells_ok hx
  have hnt:=S0.not_tuple hx
  split at hk
  ·rename_i hp
   have hp:X.pts.getD d 0=d+2:=by simpa using hp
   split at hk
   ·rename_i hl
    rw[setK_eq,setK_eq]at hk
    have hrow:ev.lc[d]? = some .nil:=by
     rw[List.getD_eq_getElem?_getD]at hl
     cases he:ev.lc[d]? with
     |none=>rw[he]at hl;cases hl
     |some r=>rw[he]at hl;simp at hl;rw[hl]
    have hloc:σ.loc[d]? = some none:=hR.row d _ hrow
    have heff:ak X.C X.pts (oval σ.tmps) o=some (.lnew d (x.cells.map SL.val)):=by
     rw[he,hd]
     unfold bJ
     simp only[hnt,qar,if_false,dO,cells_ok' hx,qaJ,hp,if_true]
    let σ₁:St:={ σ with loc:=σ.loc.set d (some (x.cells.map SL.val)) }
    have hR1:Rp ⟨ev.tm,ev.lc.set d (.row x.cells)⟩ σ₁:=by
     refine⟨hR.len,hR.val,by simp[σ₁,hR.llen],λi r hr=>?_⟩
     simp only[qaL]at hr
     split at hr
     ·rename_i hi
      subst hi
      split at hr
      ·rename_i hlt
       cases hr
       exact⟨by simp only[σ₁];rw[qaO (by rw[←hR.llen];exact hlt)],hx⟩
      ·cases hr
     ·rename_i hi
      have:=hR.row i r hr
      have hne:σ₁.loc[i]? = σ.loc[i]?:=by simp only[σ₁];rw[qap hi]
      cases r<;>first|trivial|(simp only[LR.ok]at this ⊢;rw[hne];exact this)
    have hkey:qD X.pts o=some d:=by
     rcases hb with⟨y,hb⟩|hb<;>(simp only[qD,hb,hd];rw[if_pos hp])
    have hrow':gK X.pts o=some d:=by
     rcases hb with⟨y,hb⟩|hb<;>(simp only[gK,hb,hd];rw[if_pos hp])
    refine⟨σ₁.put o.dst (.pointer (some ⟨d,0,some 0⟩)),_,h,.inl ⟨_,heff,(σ₁,.pointer (some ⟨d,0,some 0⟩)),by simp[aD,hloc,σ₁],rfl⟩,?_,?_,?_,hk⟩
    ·rw[hd];exact hR1.put d (s:=.lad d 0) trivial
    ·rw[ha];cases o.dst<;>rfl
    ·have hf:=Fr.put (σ:=σ₁) o.dst (.pointer (some ⟨d,0,some 0⟩)) [d] [d]
     have h0:Fr o.dst.toList [d] [d] σ σ₁:=by
      refine⟨rfl,by simp[σ₁],λ_ _ h _ _=>h,λ_ _ _ h _ _=>h,λs y hs hn=>?_,λs vs hs hn=>?_⟩
      ·simp only[qax]at hn
       simp only[σ₁]
       rw[qap (λe=>hn e.symm)];exact hs
      ·simp only[qax]at hn
       refine⟨vs,?_,rfl⟩
       simp only[σ₁]
       rw[qap (λe=>hn e.symm)];exact hs
     rw[hkey,hrow']
     exact h0.trans hf
   ·exact absurd hk hA.fail
  ·rename_i hp
   have hp:¬X.pts.getD d 0=d+2:=λe=>by rw[e]at hp;simp at hp
   obtain⟨h',e1,e2⟩:=hA.new _ _ _ hk
   rw[ha]at e1 e2
   have heff:ak X.C X.pts (oval σ.tmps) o=some (.hop λH=>some (H++[.cells x.val.cells.toList (jo X.C.P t) true],.pointer (some ⟨H.length,0,none⟩))):=by
    rw[he,hd]
    unfold bJ
    simp only[hnt,qar,if_false,hok,qaJ,hp]
   rw[←hd]at e2
   refine cA (s:=.st (.leaf (.v (.pointer (some ⟨σ.heap.length,0,none⟩))))) hR e1 (λl hl=>?_) heff ?_ e2
   ·simp only[S0.cells,qax]at hl
    subst hl;rfl
   ·simp only[dO];rfl
theorem sn(new:List Value):∀(off k:Nat) (cs:List Value),off+k+new.length<=cs.length->
  ((new.zipIdx k).foldl (λ(acc:Array Value) (p:Value×Nat)=>acc.setIfInBounds (off+p.2) p.1) cs.toArray).toList=cs.take (off+k)++new++cs.drop (off+k+new.length):=by
 induction new with
 |nil=>intro off k cs h;simp
 |cons a l ih=>
  intro off k cs h
  simp only[qaN]at h
  simp only[List.zipIdx_cons,qb8]
  have hset:(cs.toArray.setIfInBounds (off+k) a)=(cs.set (off+k) a).toArray:=by simp
  rw[hset,ih off (k+1) (cs.set (off+k) a) (by simp;omega)]
  rw[List.take_set,List.drop_set]
  have h1:(cs.take (off+(k+1))).set (off+k) a=cs.take (off+k)++[a]:=by
   rw[show off+(k+1)=(off+k)+1 from by omega]
   rw[List.take_succ_eq_append_getElem (by omega),List.set_append]
   simp[qco (show off+k<=cs.length by omega)]
  rw[h1]
  rw[if_pos (show off+k<off+(k+1)+l.length by omega),show off+(k+1)+l.length=off+k+(l.length+1)by omega]
  simp only[qaC,qbP,qbq,qaN]
theorem oy(pl:Nat->Option (Nat×Nat)):∀(ps:List (Nat×S0)) (cs r:List SL),(∀p∈ps,p.2.good)->ox pl cs ps=some r->
  Instr.fill pl ⟨cs.map SL.val⟩ (ps.map λp=>(p.1,p.2.val))=some ⟨r.map SL.val⟩
 | [],cs,r,_,hf=>by cases hf;rfl
 |(i,x) :: ps,cs,r,hg,hf=>by
  simp only[ox]at hf
  split at hf
  ·rename_i off n hpl
   split at hf
   ·rename_i hn
    split at hf
    ·rename_i cs1 hs
     have hn:x.cells.length=n:=by simpa using hn
     have hx:x.good:=hg (i,x) (by simp)
     have hc:=S0.cells_val hx
     unfold fU at hs
     split at hs
     ·rename_i hle
      cases hs
      have ih:=oy pl ps _ r (λp hp=>hg p (by simp[hp])) hf
      simp only[qaq,Instr.fill,hpl,hc]
      have hsz:(⟨x.cells.map SL.val⟩ : Array Value).size=n:=by simp[hn]
      rw[if_neg (by
       have h2:(⟨cs.map SL.val⟩ : Array Value).size=cs.length:=by simp
       rw[hsz,h2];simp;omega)]
      rw[←ih]
      congr 1
      have hfold:=sn (x.cells.map SL.val) off 0 (cs.map SL.val) (by simp;omega)
      apply qaV.1
      rw[←qb5,qcC]
      refine Eq.trans hfold ?_
      simp[qb9,qca]
     ·cases hs
    ·cases hf
   ·cases hf
  ·cases hf
theorem mT(pl:Nat->Option (Nat×Nat)):∀(ps:List (Nat×S0)) (cs r:List SL),(∀c∈cs,c.good)->(∀p∈ps,p.2.good)->ox pl cs ps=some r->∀c∈r,c.good
 | [],cs,r,hc,_,hf=>by cases hf;exact hc
 |(i,x) :: ps,cs,r,hc,hg,hf=>by
  simp only[ox]at hf
  split at hf
  ·split at hf
   ·split at hf
    ·rename_i cs1 hs
     refine mT pl ps cs1 r (λc hm=>?_) (λp hp=>hg p (by simp[hp])) hf
     unfold fU at hs
     split at hs
     ·cases hs
      simp only[qaK]at hm
      rcases hm with(hm|hm)|hm
      ·exact hc c (qa7 hm)
      ·exact hg (i,x) (by simp) c hm
      ·exact hc c (qbv hm)
     ·cases hs
    ·cases hf
   ·cases hf
  ·cases hf
theorem nN{ps:List (Nat×Operand)}{xs:List S0}(hv:(ps.map (·.2)).map (oval σ.tmps)=ah xs) :
  ps.map (λp=>(p.1,oval σ.tmps p.2))=((ps.map (·.1)).zip xs).map λp=>(p.1,p.2.val):=by
 induction ps generalizing xs with
 |nil=>simp
 |cons p ps ih=>
  cases xs with
  |nil=>simp[ah]at hv
  |cons x xs=>
   simp only[qaq,ah,qbe]at hv
   simp only[qaq,qb4,hv.1]
   rw[ih (xs:=xs) hv.2]
theorem pz{is:List Nat}{xs:List S0}(hg:∀x∈xs,x.good):∀p∈is.zip xs,p.2.good:=λ_ hp=>hg _ (List.of_mem_zip hp).2
theorem px{P:Program}{t:TypeId}{x:S0}(hz:sj P t=some x):∃z,cT P t=some z/\x.val=z/\x.good:=by
 unfold sj at hz
 obtain⟨z,h1,h2⟩:=qal.1 hz
 obtain⟨h3,h4,_⟩:=pc h2
 exact⟨z,h1,h3,h4⟩
theorem build_ok(hA:AlgOk A X.C Sg X.T holds abs)(hR:Rp ev σ)(ha:abs h=σ.heap){t:TypeId}{ps:Array (Nat×Operand)}(ho:o.op = .build t ps)
  (hk:holds (match sj X.C.P t,kF X.C.P t,svals ev (ps.toList.map (·.2))with
  |some z,some pl,some xs=>match ox pl z.cells ((ps.toList.map (·.1)).zip xs)with
   |some cs=>setD o.dst (.st (.agg cs)) ev h K
   |none=>A.fail
  |_,_,_=>A.fail)):Done X holds abs o σ K:=by
 split at hk
 ·rename_i z pl xs e1 e2 e3
  split at hk
  ·rename_i cs e4
   obtain⟨zv,hz1,hz2,hz3⟩:=px e1
   obtain⟨hv,hg⟩:=hR.svals e3
   have hzc:=S0.cells_val hz3
   have hfill:=oy pl _ _ _ (pz (is:=ps.toList.map (·.1)) hg) e4
   have hgood:=mT pl _ _ _ (λc hc=>hz3 c hc) (pz (is:=ps.toList.map (·.1)) hg) e4
   refine aw hR ha (s:=.st (.agg cs)) hgood ?_ hk
   have hall:(ps.toList.all λp=>!aF (oval σ.tmps p.2))=true:=by
    simp only[qab,qbz]
    intro p hp
    have hm:oval σ.tmps p.2∈ah xs:=by
     rw[←hv]
     exact qaE.2 ⟨p.2,qaE.2 ⟨p,hp,rfl⟩,rfl⟩
    simp only[ah,qaE]at hm
    obtain⟨x,hx,e⟩:=hm
    rw[←e]
    exact S0.not_tuple (hg x hx)
   simp only[ak,ho,hall,if_true,pL,hz1,e2]
   rw[nN hv,←hz2,hzc,hfill]
   rfl
  ·exact absurd hk hA.fail
 ·exact absurd hk hA.fail
end
end Go.Am

/-
 OPERATIONS,second part: leaves taken apart;loads,stores.
-/
namespace Go.Am
theorem SL.lf_val{a b:SL}{k:LK}(ha:a.is k=true)(hb:b.is k=true)(he:a.lf=b.lf):a.val=b.val/\(a.good->b.good):=by
 cases a<;>cases b<;>cases k<;>simp only[SL.lf,Lf.i.injEq,Lf.b.injEq,Lf.v.injEq,reduceCtorEq,SL.is,qar]at he ha hb ⊢<;>try (subst he;exact⟨rfl,id⟩)
 subst he
 exact⟨by simp only[SL.val];rw[cP ha,cP hb],id⟩
theorem bg:∀ {cs:List SL} {ks:List LK},aG cs ks=true->cs.length=ks.length
 | [],[],_=>rfl
 |c :: cs,k :: ks,h=>by
  simp only[aG,qaa]at h
  simp[bg h.2]
 | [],_ :: _,h=>by cases h
 |_ :: _,[],h=>by cases h
theorem fo:∀ {a b:List SL} {ks:List LK},aG a ks=true->aG b ks=true->a.map SL.lf=b.map SL.lf->a.map SL.val=b.map SL.val/\((∀c∈a,c.good)->∀c∈b,c.good)
 | [],[],[],_,_,_=>⟨rfl,λ_ _ h=>by cases h⟩
 |a :: as0,b :: bs,k :: ks,ha,hb,he=>by
  simp only[aG,qaa]at ha hb
  simp only[qaq,qbe]at he
  obtain⟨h1,h2⟩:=SL.lf_val ha.1 hb.1 he.1
  obtain⟨h3,h4⟩:=fo ha.2 hb.2 he.2
  refine⟨by simp[h1,h3],λhg c hc=>?_⟩
  rcases qak.1 hc with rfl|hc
  ·exact h2 (hg a (by simp))
  ·exact h4 (λc hc=>hg c (by simp[hc])) c hc
 | [],_ :: _,[],_,hb,_=>by cases hb
 | [],_,_ :: _,ha,_,_=>by cases ha
 |_ :: _,_,[],ha,_,_=>by cases ha
 |_ :: _,[],_ :: _,_,hb,_=>by cases hb
theorem S0.is_val{a b:S0}{sk:SK}(ha:a.is sk=true)(hb:b.is sk=true)(he:a.cells.map SL.lf=b.cells.map SL.lf):a.val=b.val/\(a.good->b.good):=by
 cases sk with
 |leaf k=>
  cases a with
  |agg _=>cases ha
  |leaf a=>
   cases b with
   |agg _=>cases hb
   |leaf b=>
    simp only[S0.cells,qaq,qa5,qbe,and_true]at he
    obtain⟨h1,h2⟩:=SL.lf_val ha hb he
    refine⟨h1,λhg l hl=>?_⟩
    simp only[S0.cells,qax]at hl
    subst hl
    exact h2 (hg a (by simp[S0.cells]))
 |agg ks=>
  cases a with
  |leaf _=>cases ha
  |agg a=>
   cases b with
   |leaf _=>cases hb
   |agg b=>
    obtain⟨h1,h2⟩:=fo ha hb he
    exact⟨by simp only[S0.val,h1],h2⟩
theorem S0.is_len{a:S0}{sk:SK}(ha:a.is sk=true):∃n,a.cells.length=n/\∀b:S0,b.is sk=true->b.cells.length=n:=by
 refine⟨_,rfl,λb hb=>?_⟩
 cases sk with
 |leaf k=>
  cases a with
  |agg _=>cases ha
  |leaf a=>cases b with
   |agg _=>cases hb
   |leaf b=>rfl
 |agg ks=>
  cases a with
  |leaf _=>cases ha
  |agg a=>cases b with
   |leaf _=>cases hb
   |agg b=>exact(bg hb).trans (bg ha).symm
theorem ca:∀ {a b:List S0} {sks:List SK},bm a sks=true->bm b sks=true->bn a=bn b->ah a=ah b/\((∀c∈a,c.good)->∀c∈b,c.good)
 | [],[],[],_,_,_=>⟨rfl,λ_ _ h=>by cases h⟩
 |a :: as0,b :: bs,k :: ks,ha,hb,he=>by
  simp only[bm,qaa]at ha hb
  obtain⟨n,hn1,hn2⟩:=S0.is_len ha.1
  have hn2:=hn2 b hb.1
  simp only[bn]at he
  obtain⟨he1,he2⟩:=qcT he (by simp[hn1,hn2])
  obtain⟨h1,h2⟩:=S0.is_val ha.1 hb.1 he1
  obtain⟨h3,h4⟩:=ca ha.2 hb.2 he2
  refine⟨by simp only[ah,qaq,h1]at h3 ⊢;rw[h3],λhg c hc=>?_⟩
  rcases qak.1 hc with rfl|hc
  ·exact h2 (hg a (by simp))
  ·exact h4 (λc hc=>hg c (by simp[hc])) c hc
 | [],_ :: _,[],_,hb,_=>by cases hb
 | [],_,_ :: _,ha,_,_=>by cases ha
 |_ :: _,_,[],ha,_,_=>by cases ha
 |_ :: _,[],_ :: _,_,hb,_=>by cases hb
section
variable [Val] [Kno] {R HT:Type} {A:Alg R HT} {X:Ctxt} {Sg:FuncId->Option Sig} {holds:R->Prop} {abs:HT->List HObj}
variable {ev:Env} {σ:St} {h:HT} {o:Oper} {K:KN R HT}
theorem nL{C:Cfg}{T:Nat->Site}(hA:AlgOk A C Sg T holds abs):∀ {ks:List LK} {ls:List Lf} {K:List SL->List Lf->R},holds (unL A ks ls K)->
  ∃cs r,ls=cs.map SL.lf++r/\aG cs ks=true/\holds (K cs r)
 | [],ls,K,hk=>⟨[],ls,rfl,rfl,hk⟩
 | .i k :: ks,ls,K,hk=>by
  obtain⟨n,r,rfl,hk1⟩:=hA.unI _ _ hk
  obtain⟨cs,r',rfl,h2,h3⟩:=nL hA (ks:=ks) hk1
  exact⟨.i k n :: cs,r',rfl,by simp[aG,SL.is,cZ,h2],h3⟩
 | .b :: ks,ls,K,hk=>by
  obtain⟨n,r,rfl,hk1⟩:=hA.unB _ _ hk
  obtain⟨cs,r',rfl,h2,h3⟩:=nL hA (ks:=ks) hk1
  exact⟨.b n :: cs,r',rfl,by simp[aG,SL.is,h2],h3⟩
 | .v :: ks,ls,K,hk=>by
  obtain⟨n,r,rfl,hk1⟩:=hA.unV _ _ hk
  obtain⟨cs,r',rfl,h2,h3⟩:=nL hA (ks:=ks) hk1
  exact⟨.v n :: cs,r',rfl,by simp[aG,SL.is,h2],h3⟩
theorem unS_ok{C:Cfg}{T:Nat->Site}(hA:AlgOk A C Sg T holds abs){sk:SK}{ls:List Lf}{K:S0->List Lf->R}(hk:holds (unS A sk ls K)) :
  ∃x r,ls=x.cells.map SL.lf++r/\x.is sk=true/\holds (K x r):=by
 cases sk with
 |leaf k=>
  cases k with
  |i k=>
   obtain⟨n,r,rfl,hk1⟩:=hA.unI _ _ hk
   exact⟨.leaf (.i k n),r,rfl,by simp[S0.is,SL.is,cZ],hk1⟩
  |b=>
   obtain⟨n,r,rfl,hk1⟩:=hA.unB _ _ hk
   exact⟨.leaf (.b n),r,rfl,rfl,hk1⟩
  |v=>
   obtain⟨n,r,rfl,hk1⟩:=hA.unV _ _ hk
   exact⟨.leaf (.v n),r,rfl,rfl,hk1⟩
 |agg ks=>
  obtain⟨cs,r,h1,h2,h3⟩:=nL hA hk
  exact⟨.agg cs,r,h1,h2,h3⟩
theorem mr{C:Cfg}{T:Nat->Site}(hA:AlgOk A C Sg T holds abs):∀ {sks:List SK} {ls:List Lf} {K:List S0->List Lf->R},holds (unSs A sks ls K)->
  ∃xs r,ls=bn xs++r/\bm xs sks=true/\holds (K xs r)
 | [],ls,K,hk=>⟨[],ls,rfl,rfl,hk⟩
 |sk :: sks,ls,K,hk=>by
  have hk0:holds (unS A sk ls λx r=>unSs A sks r λxs r=>K (x :: xs) r):=hk
  obtain⟨x,r,rfl,h1,hk1⟩:=unS_ok hA hk0
  obtain⟨xs,r',rfl,h2,h3⟩:=mr hA (sks:=sks) hk1
  exact⟨x :: xs,r',by simp[bn],by simp[bm,h1,h2],h3⟩
theorem tX{C:Cfg}{T:Nat->Site}(hA:AlgOk A C Sg T holds abs):∀ {ks:List LK} {ls:List Value} {K:List SL->List Value->R},holds (ucL A ks ls K)->
  ∃cs r,ls=cs.map SL.val++r/\aG cs ks=true/\(∀c∈cs,c.good)/\holds (K cs r)
 | [],ls,K,hk=>⟨[],ls,rfl,rfl,by simp,hk⟩
 | .i k :: ks,ls,K,hk=>by
  obtain⟨n,r,rfl,hk1⟩:=hA.ucI _ _ _ hk
  obtain⟨cs,r',rfl,h2,h3,h4⟩:=tX hA (ks:=ks) hk1
  exact⟨.i k n :: cs,r',rfl,by simp[aG,SL.is,cZ,h2],qa8.2 ⟨trivial,h3⟩,h4⟩
 | .b :: ks,ls,K,hk=>by
  obtain⟨n,r,rfl,hk1⟩:=hA.ucB _ _ hk
  obtain⟨cs,r',rfl,h2,h3,h4⟩:=tX hA (ks:=ks) hk1
  exact⟨.b n :: cs,r',rfl,by simp[aG,SL.is,h2],qa8.2 ⟨trivial,h3⟩,h4⟩
 | .v :: ks,ls,K,hk=>by
  obtain⟨n,r,rfl,hk1⟩:=hA.ucV _ _ hk
  obtain⟨hg,hk2⟩:=hA.chk _ _ hk1
  obtain⟨cs,r',rfl,h2,h3,h4⟩:=tX hA (ks:=ks) hk2
  exact⟨.v n :: cs,r',rfl,by simp[aG,SL.is,h2],qa8.2 ⟨hg,h3⟩,h4⟩
theorem mq{C:Cfg}{T:Nat->Site}(hA:AlgOk A C Sg T holds abs){sk:SK}{ls:List Value}{K:S0->List Value->R}(hk:holds (ucS A sk ls K)) :
  ∃x r,ls=x.cells.map SL.val++r/\x.is sk=true/\x.good/\holds (K x r):=by
 cases sk with
 |leaf k=>
  cases k with
  |i k=>
   obtain⟨n,r,rfl,hk1⟩:=hA.ucI _ _ _ hk
   exact⟨.leaf (.i k n),r,rfl,by simp[S0.is,SL.is,cZ],λl hl=>by simp only[S0.cells,qax]at hl;subst hl;trivial,hk1⟩
  |b=>
   obtain⟨n,r,rfl,hk1⟩:=hA.ucB _ _ hk
   exact⟨.leaf (.b n),r,rfl,rfl,λl hl=>by simp only[S0.cells,qax]at hl;subst hl;trivial,hk1⟩
  |v=>
   obtain⟨n,r,rfl,hk1⟩:=hA.ucV _ _ hk
   obtain⟨hg,hk2⟩:=hA.chk _ _ hk1
   exact⟨.leaf (.v n),r,rfl,rfl,λl hl=>by simp only[S0.cells,qax]at hl;subst hl;exact hg,hk2⟩
 |agg ks=>
  obtain⟨cs,r,h1,h2,h3,h4⟩:=tX hA hk
  exact⟨.agg cs,r,h1,h2,h3,h4⟩
theorem ucSs_ok{C:Cfg}{T:Nat->Site}(hA:AlgOk A C Sg T holds abs):∀ {sks:List SK} {ls:List Value} {K:List S0->List Value->R},holds (ucSs A sks ls K)->
  ∃xs r,ls=kg xs++r/\bm xs sks=true/\(∀x∈xs,x.good)/\holds (K xs r)
 | [],ls,K,hk=>⟨[],ls,rfl,rfl,by simp,hk⟩
 |sk :: sks,ls,K,hk=>by
  have hk0:holds (ucS A sk ls λx r=>ucSs A sks r λxs r=>K (x :: xs) r):=hk
  obtain⟨x,r,rfl,h1,hg,hk1⟩:=mq hA hk0
  obtain⟨xs,r',rfl,h2,h3,h4⟩:=ucSs_ok hA (sks:=sks) hk1
  refine⟨x :: xs,r',by simp[kg],by simp[bm,h1,h2],λc hc=>?_,h4⟩
  rcases qak.1 hc with rfl|hc
  ·exact hg
  ·exact h3 c hc
def mkV(agg:Bool)(cs:List Value)(v:Value):Prop:=(agg=true/\v = .agg ⟨cs⟩)∨(agg=false/\cs=[v])
theorem ni{x:S0}{sk:SK}(hx:x.is sk=true){v:Value}(hv:mkV (gP sk) (x.cells.map SL.val) v):x.val=v:=by
 cases sk with
 |leaf k=>
  cases x with
  |agg _=>cases hx
  |leaf l=>
   rcases hv with⟨h,_⟩|⟨_,h⟩
   ·cases h
   ·simp only[S0.cells,qaq,qa5,qbe,and_true]at h
    exact h
 |agg ks=>
  cases x with
  |leaf _=>cases hx
  |agg cs=>
   rcases hv with⟨_,h⟩|⟨h,_⟩
   ·exact h.symm
   ·cases h
theorem eqB_eq{a b:Bool}(h:eqB a b=true):a=b:=by cases a<;>cases b<;>first|rfl|cases h
theorem lG{agg:Bool}{cs:List SL}{x:S0}(hx:mkS0 agg cs=some x):x.cells=cs/\mkV agg (cs.map SL.val) x.val:=by
 unfold mkS0 at hx
 split at hx
 ·cases hx;exact⟨rfl,.inl ⟨rfl,rfl⟩⟩
 ·cases hx;exact⟨rfl,.inr ⟨rfl,rfl⟩⟩
 ·cases hx
theorem cm{P:Program}{t:TypeId}{agg:Bool}(hag:aggT P t=some agg){vs cs:List Value}{off:Nat}(hc:cut vs off (if agg then P.cellsOf t else 1)=some cs) :
  ∃v,cH P t vs off=some v/\mkV agg cs v:=by
 unfold aggT at hag
 unfold cH
 split at hag
 ·rename_i fs e
  cases hag
  rw[e]
  simp only[if_true]at hc
  exact⟨.agg ⟨cs⟩,by simp[hc],.inl ⟨rfl,rfl⟩⟩
 ·rename_i fs e
  cases hag
  rw[e]
  simp only[if_true]at hc
  exact⟨.agg ⟨cs⟩,by simp[hc],.inl ⟨rfl,rfl⟩⟩
 ·rename_i d h1 h2 e
  cases hag
  rw[e]
  simp only[qar,if_false]at hc
  unfold cut at hc
  split at hc
  ·rename_i hle
   cases hc
   have hlt:off<vs.length:=by omega
   have hcs:(vs.drop off).take 1=[vs[off]]:=by
    rw[qbV hlt];rfl
   refine⟨vs[off],?_,.inr ⟨rfl,hcs⟩⟩
   simp[hlt]
  ·cases hc
 ·cases hag
theorem jq(hA:AlgOk A X.C Sg X.T holds abs){dst:Option Tmp}{sk:SK}{cs:List Value}{v:Value}(hv:mkV (gP sk) cs v)(hk:holds (setC A dst sk cs ev h K)) :
  ∃x:S0,x.val=v/\x.good/\holds (setD dst (.st x) ev h K):=by
 obtain⟨x,r,h1,h2,h3,hk1⟩:=mq hA hk
 obtain⟨hr,hk2⟩:=hA.uc0 _ _ hk1
 rw[hr,qaM]at h1
 subst h1
 exact⟨x,ni h2 hv,h3,hk2⟩
theorem kV{cs ds:List SL}{off n:Nat}(hc:cutS cs off n=some ds):cut (cs.map SL.val) off n=some (ds.map SL.val)/\(∀d∈ds,d∈cs):=by
 unfold cutS at hc
 unfold cut
 split at hc
 ·rename_i hle
  cases hc
  rw[if_pos (by simpa using hle)]
  exact⟨by simp[qca,qb9],λd hd=>qbv (qa7 hd)⟩
 ·cases hc
theorem iy(hR:Rp ev σ){s:Nat}{cs:List SL}(hr:oX ev s=some cs):σ.loc[s]? = some (some (cs.map SL.val))/\(∀c∈cs,c.good)/\ev.lc[s]? = some (.row cs):=by
 unfold oX at hr
 split at hr
 ·rename_i ds e
  cases hr
  rw[List.getD_eq_getElem?_getD]at e
  cases he:ev.lc[s]? with
  |none=>rw[he]at e;cases e
  |some r=>
   rw[he]at e
   simp only[qbf]at e
   subst e
   have:=hR.row s _ he
   exact⟨this.1,this.2,rfl⟩
 ·cases hr
theorem tB{cs:List SL}{base:Nat}{ix:List (Int×Nat)}{n:Nat}{ls:List Lf}(hp:dn (cs.map SL.lf) base ix n=some ls) :
  ∃ds,cutS cs (offX base ix) n=some ds/\ls=ds.map SL.lf:=by
 rw[pickL_eq]at hp
 split at hp
 ·rename_i hle
  cases hp
  refine⟨_,by unfold cutS;rw[if_pos (by simpa using hle)],by simp[qca,qb9]⟩
 ·cases hp
theorem offX_le:∀(ix:List (Int×Nat)) (base:Nat),base<=offX base ix
 | [],base=>qaz _
 |p :: l,base=>qbT (Nat.le_add_right _ _) (offX_le l _)
theorem jU{cs ds:List SL}{ks:List LK}:∀ {ix:List (Int×Nat)} {base:Nat},pG cs ks base ix=true->cutS cs (offX base ix) ks.length=some ds->aG ds ks=true
 | [],base,h1,h2=>by
  simp only[pG,offX]at h1 h2
  rw[h2]at h1
  exact h1
 |p :: l,base,h1,h2=>by
  simp only[pG,qaa,qab,qbz,offX]at h1 h2
  obtain⟨h0,h1⟩:=h1
  refine jU (ix:=l) (h1 p.1.toNat ?_) h2
  have hp:p.2≠0:=λe=>by rw[e]at h0;cases h0
  have hle:offX (base+p.1.toNat*p.2) l<=cs.length:=by
   unfold cutS at h2
   split at h2
   ·omega
   ·cases h2
  have:=offX_le l (base+p.1.toNat*p.2)
  have h3:p.1.toNat<=p.1.toNat*p.2:=Nat.le_mul_of_pos_right _ (Nat.pos_of_ne_zero hp)
  simp only[qaj]
  omega
theorem is_skKs{x:S0}{sk:SK}(hx:x.is sk=true):aG x.cells (skKs sk)=true:=by
 cases sk with
 |leaf k=>
  cases x with
  |agg _=>cases hx
  |leaf l=>simp[S0.cells,skKs,aG];exact hx
 |agg ks=>
  cases x with
  |leaf _=>cases hx
  |agg cs=>exact hx
theorem setL_ok(hA:AlgOk A X.C Sg X.T holds abs){dst:Option Tmp}{sk:SK}{ds:List SL}{v:Value}(hd:aG ds (skKs sk)=true)(hg:∀c∈ds,c.good)(hv:mkV (gP sk) (ds.map SL.val) v)
  (hk:holds (setL A dst sk (ds.map SL.lf) ev h K)):∃x:S0,x.val=v/\x.good/\holds (setD dst (.st x) ev h K):=by
 obtain⟨x,r,e1,e2,hk1⟩:=unS_ok hA hk
 obtain⟨hr0,hk2⟩:=hA.un0 _ _ hk1
 rw[hr0,qaM]at e1
 obtain⟨h1,h2⟩:=fo hd (is_skKs e2) e1
 rw[h1]at hv
 exact⟨x,ni e2 hv,h2 hg,hk2⟩
theorem is_lk(c:SL):c.is c.lk=true:=by cases c<;>first|rfl|exact cZ _
theorem jV:∀cs:List SL,aG cs (cs.map SL.lk)=true
 | []=>rfl
 |c :: cs=>by simp[aG,is_lk,jV cs]
theorem fm:∀ {a b:List SL} {ka kb:List LK},aG a ka=true->aG b kb=true->aG (a++b) (ka++kb)=true
 | [],b,[],kb,_,h=>h
 |a :: as0,b,k :: ka,kb,h1,h2=>by
  simp only[aG,qaa,qbP]at h1 ⊢
  exact⟨h1.1,fm h1.2 h2⟩
 | [],_,_ :: _,_,h,_=>by cases h
 |_ :: _,_,[],_,h,_=>by cases h
end
end Go.Am

end

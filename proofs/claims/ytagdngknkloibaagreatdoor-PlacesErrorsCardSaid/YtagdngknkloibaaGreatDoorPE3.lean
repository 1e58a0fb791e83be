/-
  PART 3 OF THE PROOF (no conditions).
-/
import Derived.Test.YtagdngknkloibaaGreatDoorPE2
import Derived.IntWalk
set_option linter.unusedSectionVars false
set_option linter.unusedSimpArgs false
set_option linter.unusedVariables false
set_option linter.constructorNameAsVariable false
set_option linter.defProp false
noncomputable section
set_option maxRecDepth 100000
namespace Go.Am
section
variable {R HT:Type} (A:Alg R HT)
def Alg.k0(l:List Lf)(k:Int->Int->Value->Int->Int->Int->R):R:=A.unI l λa0 l=>A.unI l λa1 l=>A.unV l λa2 l=>A.unI l λa3 l=>A.unI l λa4 l=>A.unI l λa5 l=>A.un0 l (k a0 a1 a2 a3 a4 a5)
def Alg.k1(l:List Lf)(k:Int->Int->Value->R):R:=A.unI l λa0 l=>A.unI l λa1 l=>A.unV l λa2 l=>A.un0 l (k a0 a1 a2)
def Alg.k2(l:List Lf)(k:Bool->R):R:=A.unB l λa0 l=>A.un0 l (k a0)
def Alg.k3(l:List Lf)(k:Value->Int->R):R:=A.unV l λa0 l=>A.unI l λa1 l=>A.un0 l (k a0 a1)
def Alg.k4(l:List Lf)(k:Int->R):R:=A.unI l λa0 l=>A.un0 l (k a0)
def Alg.k5(l:List Lf)(k:Int->Int->Int->R):R:=A.unI l λa0 l=>A.unI l λa1 l=>A.unI l λa2 l=>A.un0 l (k a0 a1 a2)
def Alg.k6(l:List Lf)(k:Value->R):R:=A.unV l λa0 l=>A.un0 l (k a0)
def Alg.k7(l:List Value)(k:Int->R):R:=A.ucI .i64 l λa0 l=>A.uc0 l (k a0)
def Alg.k8(l:List Value)(k:Int->R):R:=A.ucI .u8 l λa0 l=>A.uc0 l (k a0)
def Alg.k9(l:List Value)(k:Int->Int->Int->R):R:=A.ucI .i64 l λa0 l=>A.ucI .i64 l λa1 l=>A.ucI .u8 l λa2 l=>A.uc0 l (k a0 a1 a2)
def Alg.k10(l:List Lf)(k:Int->Int->R):R:=A.unI l λa0 l=>A.unI l λa1 l=>A.un0 l (k a0 a1)
def Alg.k11(l:List Value)(k:Int->Int->Int->R):R:=A.ucI .u8 l λa0 l=>A.ucI .i64 l λa1 l=>A.ucI .i64 l λa2 l=>A.uc0 l (k a0 a1 a2)
def Alg.k12(l:List Value)(k:Int->Int->R):R:=A.ucI .i64 l λa0 l=>A.ucI .i64 l λa1 l=>A.uc0 l (k a0 a1)
def Alg.k13(l:List Lf)(k:Int->Int->Int->Int->Int->R):R:=A.unI l λa0 l=>A.unI l λa1 l=>A.unI l λa2 l=>A.unI l λa3 l=>A.unI l λa4 l=>A.un0 l (k a0 a1 a2 a3 a4)
def Alg.k14(l:List Lf)(k:Int->Int->Int->Int->R):R:=A.unI l λa0 l=>A.unI l λa1 l=>A.unI l λa2 l=>A.unI l λa3 l=>A.un0 l (k a0 a1 a2 a3)
def Alg.k15(l:List Lf)(k:Int->Int->Int->Int->Int->Int->R):R:=A.unI l λa0 l=>A.unI l λa1 l=>A.unI l λa2 l=>A.unI l λa3 l=>A.unI l λa4 l=>A.unI l λa5 l=>A.un0 l (k a0 a1 a2 a3 a4 a5)
def Alg.k16(l:List Value)(k:Int->Int->R):R:=A.ucI .i64 l λa0 l=>A.ucI .u8 l λa1 l=>A.uc0 l (k a0 a1)
def Alg.k17(l:List Value)(k:Int->Int->Int->R):R:=A.ucI .i64 l λa0 l=>A.ucI .u8 l λa1 l=>A.ucI .u8 l λa2 l=>A.uc0 l (k a0 a1 a2)
def Alg.k18(l:List Lf)(k:Value->Int->Int->Value->R):R:=A.unV l λa0 l=>A.unI l λa1 l=>A.unI l λa2 l=>A.unV l λa3 l=>A.un0 l (k a0 a1 a2 a3)
def Alg.cd(o:BinOp)(x y:Int)(p q:R):R:=A.cmp o x y λt=>A.cond t p q
def Alg.ix(e:Nat)(x:Value)(n:Int)(w:Nat)(h:HT)(k:List Value->R):R:=A.opt (idS e x n) λp=>A.peek (.lg cc w p) h k
def Alg.fx(e:Nat)(x:Value)(n:Int)(o w:Nat)(h:HT)(k:List Value->R):R:=A.opt (idS e x n) λp=>A.opt (fdP o p) λq=>A.chk q (A.peek (.lg cc w q) h k)
theorem qeq:(∀l k,A.k0 l k=A.unI l λa0 l=>A.unI l λa1 l=>A.unV l λa2 l=>A.unI l λa3 l=>A.unI l λa4 l=>A.unI l λa5 l=>A.un0 l (k a0 a1 a2 a3 a4 a5))/\(∀l k,A.k1 l k=A.unI l λa0 l=>A.unI l λa1 l=>A.unV l λa2 l=>A.un0 l (k a0 a1 a2))/\(∀l k,A.k2 l k=A.unB l λa0 l=>A.un0 l (k a0))/\(∀l k,A.k3 l k=A.unV l λa0 l=>A.unI l λa1 l=>A.un0 l (k a0 a1))/\(∀l k,A.k4 l k=A.unI l λa0 l=>A.un0 l (k a0))/\(∀l k,A.k5 l k=A.unI l λa0 l=>A.unI l λa1 l=>A.unI l λa2 l=>A.un0 l (k a0 a1 a2))/\(∀l k,A.k6 l k=A.unV l λa0 l=>A.un0 l (k a0))/\(∀l k,A.k7 l k=A.ucI .i64 l λa0 l=>A.uc0 l (k a0))/\(∀l k,A.k8 l k=A.ucI .u8 l λa0 l=>A.uc0 l (k a0))/\(∀l k,A.k9 l k=A.ucI .i64 l λa0 l=>A.ucI .i64 l λa1 l=>A.ucI .u8 l λa2 l=>A.uc0 l (k a0 a1 a2))/\(∀l k,A.k10 l k=A.unI l λa0 l=>A.unI l λa1 l=>A.un0 l (k a0 a1))/\(∀l k,A.k11 l k=A.ucI .u8 l λa0 l=>A.ucI .i64 l λa1 l=>A.ucI .i64 l λa2 l=>A.uc0 l (k a0 a1 a2))/\(∀l k,A.k12 l k=A.ucI .i64 l λa0 l=>A.ucI .i64 l λa1 l=>A.uc0 l (k a0 a1))/\(∀l k,A.k13 l k=A.unI l λa0 l=>A.unI l λa1 l=>A.unI l λa2 l=>A.unI l λa3 l=>A.unI l λa4 l=>A.un0 l (k a0 a1 a2 a3 a4))/\(∀l k,A.k14 l k=A.unI l λa0 l=>A.unI l λa1 l=>A.unI l λa2 l=>A.unI l λa3 l=>A.un0 l (k a0 a1 a2 a3))/\(∀l k,A.k15 l k=A.unI l λa0 l=>A.unI l λa1 l=>A.unI l λa2 l=>A.unI l λa3 l=>A.unI l λa4 l=>A.unI l λa5 l=>A.un0 l (k a0 a1 a2 a3 a4 a5))/\(∀l k,A.k16 l k=A.ucI .i64 l λa0 l=>A.ucI .u8 l λa1 l=>A.uc0 l (k a0 a1))/\(∀l k,A.k17 l k=A.ucI .i64 l λa0 l=>A.ucI .u8 l λa1 l=>A.ucI .u8 l λa2 l=>A.uc0 l (k a0 a1 a2))/\(∀l k,A.k18 l k=A.unV l λa0 l=>A.unI l λa1 l=>A.unI l λa2 l=>A.unV l λa3 l=>A.un0 l (k a0 a1 a2 a3))/\(∀o x y p q,A.cd o x y p q=A.cmp o x y λt=>A.cond t p q)/\(∀e x n w h k,A.ix e x n w h k=A.opt (idS e x n) λp=>A.peek (.lg cc w p) h k)/\(∀e x n o w h k,A.fx e x n o w h k=A.opt (idS e x n) λp=>A.opt (fdP o p) λq=>A.chk q (A.peek (.lg cc w q) h k)):=by
 refine⟨?_,?_,?_,?_,?_,?_,?_,?_,?_,?_,?_,?_,?_,?_,?_,?_,?_,?_,?_,?_,?_,?_⟩<;>intros<;>rfl
def f5(ls:List Lf)(h:HT)(K:List Lf->HT->R):R:=A.k0 ls (λa0 n8 a1 a2 n14 n16=>A.opt (lenS a1) (λb4=>A.cd .gtr b4 20 ( K [(.b true)] h) ( A.call 19 [(.i a0),(.i n8)] h (λb5 a7=>A.k4 b5 (λn22=>A.cd .eql n22 1 ( A.cd .gtr a0 5 ( K [(.b true)] a7) ( A.cmp .gtr n8 5 (λb6=>A.join (λb7 b8=>A.un0 b7 ( A.call 20 [(.i a0),(.i n8),(.v a1)] b8 (λb9 a8=>A.k4 b9 (λn31=>A.cd .eql n31 0 ( A.join (λc0 c1=>A.k2 c0 (λd0=>K [(.b d0)] c1)) (λa9=>A.call 7 [(.i a0),(.i n8),(.v a1),(.i a2),(.i n14),(.i n16)] a8 (λd1 b0=>A.k2 d1 (λd2=>A.cond d2 ( A.call 10 [] b0 (λd3 d4=>A.k2 d3 (λd5=>a9 [(.b d5)] d4))) ( a9 [(.b false)] b0))))) ( A.call 21 [(.i a0),(.i n8),(.v a1),(.i a2),(.i n14),(.i n16)] a8 (λd6 d7=>A.k3 d6 (λx49 n51=>A.call 13 [(.i a0),(.i n8),(.v a1),(.i a2),(.i n14),(.i n16)] d7 (λd8 d9=>A.k3 d8 (λm0 n57=>A.call 14 [(.i a0),(.i n8),(.v a1),(.i a2),(.i n14),(.i n16)] d9 (λe0 e1=>A.k3 e0 (λx61 n63=>A.call 22 [(.i a0),(.i n8),(.v a1),(.i a2),(.i n14),(.i n16)] e1 (λe2 e3=>A.k3 e2 (λm1 e4=>A.call 23 [(.i a0),(.i n8),(.v a1),(.i a2),(.i n14),(.i n16)] e3 (λe6 f0=>A.k10 e6 (λn73 n75=>A.call 24 [(.i a0),(.i n8),(.v a1),(.i 0),(.i 0)] f0 (λf1 f2=>A.unB f1 (λm2 f3=>A.k4 f3 (λn81=>A.call 9 [(.i a0),(.i n8),(.v a1)] f2 (λf4 a3=>A.unI f4 (λn85 f6=>A.unI f6 (λn87 gl=>A.unB gl (λg0 g1=>A.k4 g1 (λn91=>A.join (λg2 g3=>A.k2 g2 (λg4=>K [(.b g4)] g3)) (λa4=>A.cd .eql n51 n31 ( A.cd .eql n57 n31 ( A.cd .eql n63 n31 ( A.cd .eql e4 n31 ( A.cd .eql n75 n31 ( A.cd .eql n81 n31 ( A.cd .eql n91 n31 ( A.cond (!g0) ( A.call 10 [] a3 (λg5 g6=>A.k2 g5 (λg7=>a4 [(.b g7)] g6))) ( a4 [(.b false)] a3)) ( a4 [(.b false)] a3)) ( a4 [(.b false)] a3)) ( a4 [(.b false)] a3)) ( a4 [(.b false)] a3)) ( a4 [(.b false)] a3)) ( a4 [(.b false)] a3)) ( a4 [(.b false)] a3))))))))))))))))))))))))) (λg8=>A.cond b6 ( K [(.b true)] a7) ( g8 [] a7))))) ( A.call 20 [(.i a0),(.i n8),(.v a1)] a7 (λg9 b1=>A.k4 g9 (λn112=>A.cd .eql n112 0 ( A.join (λh0 h1=>A.k2 h0 (λh2=>K [(.b h2)] h1)) (λb2=>A.call 7 [(.i a0),(.i n8),(.v a1),(.i a2),(.i n14),(.i n16)] b1 (λh3 b3=>A.k2 h3 (λh4=>A.cond h4 ( A.call 10 [] b3 (λh5 h6=>A.k2 h5 (λh7=>b2 [(.b h7)] h6))) ( b2 [(.b false)] b3))))) ( A.call 21 [(.i a0),(.i n8),(.v a1),(.i a2),(.i n14),(.i n16)] b1 (λh8 h9=>A.k3 h8 (λm3 n132=>A.call 13 [(.i a0),(.i n8),(.v a1),(.i a2),(.i n14),(.i n16)] h9 (λi0 i1=>A.k3 i0 (λm4 n138=>A.call 14 [(.i a0),(.i n8),(.v a1),(.i a2),(.i n14),(.i n16)] i1 (λi2 i3=>A.k3 i2 (λx142 i4=>A.call 22 [(.i a0),(.i n8),(.v a1),(.i a2),(.i n14),(.i n16)] i3 (λi6 j0=>A.k3 i6 (λm5 j1=>A.call 23 [(.i a0),(.i n8),(.v a1),(.i a2),(.i n14),(.i n16)] j0 (λj2 j3=>A.k10 j2 (λn154 n156=>A.call 24 [(.i a0),(.i n8),(.v a1),(.i 0),(.i 0)] j3 (λj4 j5=>A.unB j4 (λm6 j6=>A.k4 j6 (λj7=>A.call 9 [(.i a0),(.i n8),(.v a1)] j5 (λj8 a5=>A.unI j8 (λn166 j9=>A.unI j9 (λn168 l0=>A.unB l0 (λl1 l2=>A.k4 l2 (λl3=>A.join (λl4 l5=>A.k2 l4 (λl6=>K [(.b l6)] l5)) (λa6=>A.cd .eql n132 n112 ( A.cd .eql n138 n112 ( A.cd .eql i4 n112 ( A.cd .eql j1 n112 ( A.cd .eql n156 n112 ( A.cd .eql j7 n112 ( A.cd .eql l3 n112 ( A.cond (!l1) ( A.call 10 [] a5 (λl7 l8=>A.k2 l7 (λl9=>a6 [(.b l9)] l8))) ( a6 [(.b false)] a5)) ( a6 [(.b false)] a5)) ( a6 [(.b false)] a5)) ( a6 [(.b false)] a5)) ( a6 [(.b false)] a5)) ( a6 [(.b false)] a5)) ( a6 [(.b false)] a5)) ( a6 [(.b false)] a5)))))))))))))))))))))))))))))
def f7(ls:List Lf)(h:HT)(K:List Lf->HT->R):R:=A.k0 ls (λa1 n8 a2 a5 n14 n16=>A.call 26 [(.i a1),(.i n8),(.v a2),(.i a5),(.i n14),(.i n16)] h (λb1 b2=>A.k3 b1 (λx20 n22=>A.call 21 [(.i a1),(.i n8),(.v a2),(.i a5),(.i n14),(.i n16)] b2 (λb3 b4=>A.k3 b3 (λx26 n28=>A.call 13 [(.i a1),(.i n8),(.v a2),(.i a5),(.i n14),(.i n16)] b4 (λb5 b6=>A.k3 b5 (λx32 n34=>A.call 14 [(.i a1),(.i n8),(.v a2),(.i a5),(.i n14),(.i n16)] b6 (λb7 b8=>A.k3 b7 (λa6 b9=>A.call 22 [(.i a1),(.i n8),(.v a2),(.i a5),(.i n14),(.i n16)] b8 (λc0 c1=>A.k3 c0 (λa7 n46=>A.call 23 [(.i a1),(.i n8),(.v a2),(.i a5),(.i n14),(.i n16)] c1 (λd0 a3=>A.k10 d0 (λn50 n52=>A.cd .neq n28 n22 ( K [(.b false)] a3) ( A.cd .neq n34 n22 ( K [(.b false)] a3) ( A.cd .neq b9 n22 ( K [(.b false)] a3) ( A.cd .neq n46 n22 ( K [(.b false)] a3) ( A.cd .neq n52 n22 ( K [(.b false)] a3) ( A.cd .neq n22 0 ( A.opt (lenS x26) (λd1=>A.opt (lenS x32) (λx61=>A.ari .add .i64 d1 x61 (λn62=>A.opt (lenS a6) (λd2=>A.ari .add .i64 n62 d2 (λn64=>A.opt (lenS a7) (λd3=>A.ari .add .i64 n64 d3 (λn66=>A.ari .add .i64 n66 n50 (λn67=>A.cmp .eql n67 0 (λd4=>K [(.b d4)] a3)))))))))) ( A.call 27 [(.i a1),(.i n8),(.v a2),(.v x20)] a3 (λd5 a4=>A.k6 d5 (λx71=>A.opt (lenS x26) (λd6=>A.opt (lenS x20) (λd7=>A.cd .neq d6 d7 ( K [(.b false)] a4) ( A.opt (lenS x32) (λd8=>A.opt (lenS x20) (λx77=>A.cd .neq d8 x77 ( K [(.b false)] a4) ( A.opt (lenS a6) (λd9=>A.opt (lenS x20) (λe0=>A.cd .neq d9 e0 ( K [(.b false)] a4) ( A.opt (capS x26) (λx82=>A.opt (lenS x26) (λe1=>A.cd .neq x82 e1 ( K [(.b false)] a4) ( A.opt (capS x32) (λe2=>A.opt (lenS x32) (λe3=>A.cd .neq e2 e3 ( K [(.b false)] a4) ( A.opt (capS a6) (λe4=>A.opt (lenS a6) (λe6=>A.cd .neq e4 e6 ( K [(.b false)] a4) ( A.call 29 [(.v x71)] a4 (λf0 f1=>A.k6 f0 (λf2=>A.call 28 [(.v a7),(.v f2)] f1 (λf3 a8=>A.k2 f3 (λf4=>A.cond (!f4) ( K [(.b false)] a8) ( A.loop (λf6 gl a9=>A.k10 gl (λn102 n104=>A.opt (lenS x20) (λg0=>A.cd .lss n104 g0 ( A.loop (λg1 g2 a0=>A.k10 g2 (λn111 n113=>A.opt (lenS x20) (λg3=>A.cd .lss n113 g3 ( A.ix 3 x71 n113 3 a0 (λg4=>A.k9 g4 (λn119 g5 n123=>A.ix 3 x71 n104 3 a0 (λg6=>A.k9 g6 (λn127 n129 n131=>A.eqs [((.i n119),(.i n127)),((.i g5),(.i n129)),((.i n123),(.i n131))] (λg7=>A.join (λg8 g9=>A.k4 g8 (λn136=>A.ari .add .i64 n113 1 (λn138=>g1 [(.i n136),(.i n138)] g9))) (λb0=>A.cond g7 ( A.ari .add .i64 n111 1 (λn140=>b0 [(.i n140)] a0)) ( b0 [(.i n111)] a0)))))))) ( A.cmp .lss n102 n111 (λh0=>A.sel h0 n111 n102 (λn142=>A.ix 3 x26 n104 3 a0 (λh1=>A.k11 h1 (λh2 h3 h4=>A.ix 3 x20 n104 3 a0 (λh5=>A.k11 h5 (λn153 n155 n157=>A.eqs [((.i h2),(.i n153)),((.i h3),(.i n155)),((.i h4),(.i n157))] (λh6=>A.cond (!h6) ( K [(.b false)] a0) ( A.ix 3 x32 n104 3 a0 (λh7=>A.k9 h7 (λh8 h9 n166=>A.ix 3 x71 n104 3 a0 (λi0=>A.k9 i0 (λi1 i2 i3=>A.eqs [((.i h8),(.i i1)),((.i h9),(.i i2)),((.i n166),(.i i3))] (λi4=>A.cond (!i4) ( K [(.b false)] a0) ( A.ix 1 a6 n104 1 a0 (λi6=>A.ucB i6 (λj0 j1=>A.uc0 j1 ( A.fx 3 x20 n104 0 1 a0 (λj2=>A.k8 j2 (λj3=>A.cmp .lss j3 4 (λj4=>A.eqs [((.b j0),(.b j4))] (λj5=>A.cond (!j5) ( K [(.b false)] a0) ( A.ari .add .i64 n104 1 (λj6=>f6 [(.i n142),(.i j6)] a0))))))))))))))))))))))))))) [(.i 0),(.i 0)] a9) ( A.cmp .eql n50 n102 (λj7=>K [(.b j7)] a9))))) [(.i 0),(.i 0)] a8))))))))))))))))))))))))))))))))))))))))))))
def f8(ls:List Lf)(h:HT)(K:List Lf->HT->R):R:=A.k0 ls (λa6 n8 b5 b6 n14 n16=>A.call 15 [(.i a6),(.i n8)] h (λb7 b8=>A.k6 b7 (λx20=>A.call 16 [(.i a6),(.i n8),(.v b5)] b8 (λb9 c0=>A.k6 b9 (λx24=>A.call 30 [(.i a6),(.i n8)] c0 (λc1 d0=>A.k6 c1 (λx28=>A.loop (λd1 d2 a7=>A.k3 d2 (λa9 n35=>A.opt (lenS x20) (λd3=>A.cd .lss n35 d3 ( A.fx 2 x20 n35 0 1 a7 (λd4=>A.k7 d4 (λn42=>A.fx 2 x20 n35 1 1 a7 (λd5=>A.k8 d5 (λn47=>A.conv .i64 n47 (λn49=>A.call 17 [(.i a6),(.i n8),(.i n42),(.i n49)] a7 (λd6 d7=>A.k4 d6 (λn52=>A.new (.cells [(.int .i64 n52)] 1 true) d7 (λd8 d9=>A.heap (.ap cc 1 8 a9 (.slice (some ⟨d8,0,(some 11)⟩) 1 2)) d9 (λe0 e1=>A.ucV e0 (λb0 e2=>A.chk b0 ( A.uc0 e2 ( A.ari .add .i64 n35 1 (λn60=>d1 [(.v b0),(.i n60)] e1)))))))))))))) ( A.opt (lenS x28) (λx61=>A.opt (mkOk x61 x61) (λo0=>A.new (.cells (aJ [(.int .u8 0),(.int .i64 0),(.int .i64 0)] (Int.toNat x61)) 3 true) a7 (λa3 e3=>A.opt (lenS x28) (λa0=>A.opt (mkOk a0 a0) (λo1=>A.new (.cells (aJ [(.int .i64 0)] (Int.toNat a0)) 1 true) e3 (λa4 e4=>A.opt (idS 3 (.slice (some ⟨a3,0,(some 13)⟩) (Int.toNat x61) ((Int.toNat x61)+1)) 0) (λe6=>A.heap (.st e6 [(.int .u8 b6),(.int .i64 n14),(.int .i64 n16)]) e4 (λo2 f0=>A.opt (idS 1 (.slice (some ⟨a4,0,(some 11)⟩) (Int.toNat a0) ((Int.toNat a0)+1)) 0) (λf1=>A.heap (.st f1 [(.int .i64 1)]) f0 (λo3 f2=>A.loop (λf3 f4 b1=>A.k2 f4 (λf6=>A.cond f6 ( A.loop (λgl g0 a1=>A.unB g0 (λb2 g1=>A.k4 g1 (λn85=>A.opt (lenS x20) (λg2=>A.cd .lss n85 g2 ( A.join (λg3 g4=>A.k2 g3 (λg5=>A.ari .add .i64 n85 1 (λn93=>gl [(.b g5),(.i n93)] g4))) (λb3=>A.fx 2 x20 n85 0 1 a1 (λg6=>A.k7 g6 (λn98=>A.ix 1 a9 n85 1 a1 (λg7=>A.k7 g7 (λn102=>A.opt (idS 1 (.slice (some ⟨a4,0,(some 11)⟩) (Int.toNat a0) ((Int.toNat a0)+1)) n98) (λg8=>A.peek (.lg cc 1 g8) a1 (λg9=>A.k7 g9 (λn106=>A.opt (idS 1 (.slice (some ⟨a4,0,(some 11)⟩) (Int.toNat a0) ((Int.toNat a0)+1)) n102) (λh0=>A.peek (.lg cc 1 h0) a1 (λh1=>A.k7 h1 (λn110=>A.cd .eql n106 n110 ( b3 [(.b b2)] a1) ( A.opt (idS 1 (.slice (some ⟨a4,0,(some 11)⟩) (Int.toNat a0) ((Int.toNat a0)+1)) n102) (λh2=>A.peek (.lg cc 1 h2) a1 (λh3=>A.k7 h3 (λn115=>A.cmp .eql n115 1 (λh4=>A.join (λh5 a5=>A.k10 h5 (λn120 n122=>A.ix 3 x28 n120 3 a5 (λh6=>A.k9 h6 (λn126 n128 n130=>A.fx 2 x20 n85 1 1 a5 (λh7=>A.k8 h7 (λn135=>A.conv .i64 n135 (λn137=>A.ix 1 x24 n85 1 a5 (λh8=>A.k8 h8 (λn140=>A.opt (idS 3 (.slice (some ⟨a3,0,(some 13)⟩) (Int.toNat x61) ((Int.toNat x61)+1)) n120) (λx142=>A.peek (.lg cc 3 x142) a5 (λh9=>A.k11 h9 (λi0 i1 i2=>A.call 31 [(.i n126),(.i n128),(.i n130),(.i n137),(.i n140),(.i i0),(.i i1),(.i i2)] a5 (λi3 i4=>A.k5 i3 (λn152 n154 n156=>A.opt (idS 3 (.slice (some ⟨a3,0,(some 13)⟩) (Int.toNat x61) ((Int.toNat x61)+1)) n122) (λi6=>A.heap (.st i6 [(.int .u8 n152),(.int .i64 n154),(.int .i64 n156)]) i4 (λo4 j0=>A.opt (idS 1 (.slice (some ⟨a4,0,(some 11)⟩) (Int.toNat a0) ((Int.toNat a0)+1)) n122) (λj1=>A.heap (.st j1 [(.int .i64 1)]) j0 (λo5 j2=>b3 [(.b true)] j2)))))))))))))))))) (λb4=>A.cond h4 ( b4 [(.i n102),(.i n98)] a1) ( b4 [(.i n98),(.i n102)] a1))))))))))))))))))) ( f3 [(.b b2)] a1))))) [(.b false),(.i 0)] b1) ( A.loop (λj3 j4 a2=>A.k4 j4 (λn168=>A.opt (lenS x20) (λj5=>A.cd .lss n168 j5 ( A.fx 2 x20 n168 0 1 a2 (λj6=>A.k7 j6 (λj7=>A.ix 3 x28 j7 3 a2 (λj8=>A.k9 j8 (λj9 l0 n183=>A.fx 2 x20 n168 1 1 a2 (λl1=>A.k8 l1 (λl2=>A.conv .i64 l2 (λl3=>A.ix 1 x24 n168 1 a2 (λl4=>A.k8 l4 (λl5=>A.fx 2 x20 n168 0 1 a2 (λl6=>A.k7 l6 (λl7=>A.opt (idS 3 (.slice (some ⟨a3,0,(some 13)⟩) (Int.toNat x61) ((Int.toNat x61)+1)) l7) (λl8=>A.peek (.lg cc 3 l8) a2 (λl9=>A.k11 l9 (λm0 m1 m2=>A.call 31 [(.i j9),(.i l0),(.i n183),(.i l3),(.i l5),(.i m0),(.i m1),(.i m2)] a2 (λm3 a8=>A.k5 m3 (λm4 m5 m6=>A.ix 1 a9 n168 1 a8 (λm7=>A.k7 m7 (λm8=>A.opt (idS 3 (.slice (some ⟨a3,0,(some 13)⟩) (Int.toNat x61) ((Int.toNat x61)+1)) m8) (λm9=>A.peek (.lg cc 3 m9) a8 (λn0=>A.k11 n0 (λn1 n2 n3=>A.eqs [((.i m4),(.i n1)),((.i m5),(.i n2)),((.i m6),(.i n3))] (λn4=>A.cond (!n4) ( K [(.v (.slice none 0 0)),(.i 0)] a8) ( A.ari .add .i64 n168 1 (λn6=>j3 [(.i n6)] a8))))))))))))))))))))))))) ( K [(.v (.slice (some ⟨a3,0,(some 13)⟩) (Int.toNat x61) ((Int.toNat x61)+1))),(.i 1)] a2)))) [(.i 0)] b1))) [(.b true)] f2)))))))))))))) [(.v (.slice none 0 0)),(.i 0)] d0)))))))
def f9(ls:List Lf)(h:HT)(K:List Lf->HT->R):R:=A.k1 ls (λa7 n8 a8=>A.new (.cells [(.int .i64 a7),(.int .i64 n8),a8] 3 true) h (λa0 a3=>A.peek (.lg cc 3 (.pointer (some ⟨a0,0,none⟩))) a3 (λa9=>A.ucI .i64 a9 (λn15 b0=>A.ucI .i64 b0 (λn17 b1=>A.ucV b1 (λa4 b2=>A.chk a4 ( A.uc0 b2 ( A.call 32 [(.i n15),(.i n17),(.v a4)] a3 (λb3 a1=>A.k4 b3 (λn23=>A.cd .neq n23 0 ( K [(.i 0),(.i 0),(.b false),(.i n23)] a1) ( A.opt (fdP 0 (.pointer (some ⟨a0,0,none⟩))) (λx26=>A.chk x26 ( A.peek (.lg cc 2 x26) a1 (λb4=>A.k12 b4 (λn28 n30=>A.call 33 [(.i n28),(.i n30)] a1 (λb5 b6=>A.k3 b5 (λa5 n36=>A.chk (.func (.func 35) ⟨[]⟩ ⟨[(.pointer (some ⟨a0,0,none⟩))]⟩) ( A.call 34 [(.v a5),(.v (.func (.func 35) ⟨[]⟩ ⟨[(.pointer (some ⟨a0,0,none⟩))]⟩))] b6 (λb7 a2=>A.k4 b7 (λa6=>A.cd .geq a6 0 ( A.ix 2 a5 a6 2 a2 (λb8=>A.k12 b8 (λn45 n47=>K [(.i n45),(.i n47),(.b true),(.i 0)] a2))) ( K [(.i 0),(.i 0),(.b false),(.i 0)] a2)))))))))))))))))))))
def f10(ls:List Lf)(h:HT)(K:List Lf->HT->R):R:=A.un0 ls ( A.call 37 [(.i 1),(.i 1),(.i 0),(.i 2)] h (λb9 c0=>A.k13 b9 (λn8 n10 c1 n14 n16=>A.new (.cells [(.int .u8 n8),(.int .u8 n10),(.int .i64 c1),(.int .i64 n14),(.int .i64 n16)] 5 true) c0 (λd0 d1=>A.call 36 [(.i 2),(.i 1),(.v (.slice (some ⟨d0,0,(some 15)⟩) 1 2))] d1 (λd2 d3=>A.k1 d2 (λn22 n24 x26=>A.call 38 [] d3 (λd4 d5=>A.k5 d4 (λn30 n32 n34=>A.call 21 [(.i n22),(.i n24),(.v x26),(.i n30),(.i n32),(.i n34)] d5 (λd6 d7=>A.k3 d6 (λb0 d8=>A.call 37 [(.i 1),(.i 1),(.i 0),(.i 4)] d7 (λd9 e0=>A.k13 d9 (λn44 n46 n48 n50 n52=>A.call 37 [(.i 2),(.i 1),(.i 0),(.i 4)] e0 (λe1 e2=>A.k13 e1 (λn56 n58 n60 n62 n64=>A.new (.cells [(.int .u8 n44),(.int .u8 n46),(.int .i64 n48),(.int .i64 n50),(.int .i64 n52),(.int .u8 n56),(.int .u8 n58),(.int .i64 n60),(.int .i64 n62),(.int .i64 n64)] 5 true) e2 (λe3 e4=>A.call 36 [(.i 2),(.i 2),(.v (.slice (some ⟨e3,0,(some 15)⟩) 2 3))] e4 (λe6 f0=>A.k1 e6 (λn70 n72 f1=>A.call 38 [] f0 (λf2 f3=>A.k5 f2 (λn78 n80 n82=>A.call 21 [(.i n70),(.i n72),(.v f1),(.i n78),(.i n80),(.i n82)] f3 (λf4 a2=>A.k3 f4 (λa8 n88=>A.cd .neq d8 0 ( K [(.b false)] a2) ( A.cd .neq n88 0 ( K [(.b false)] a2) ( A.opt (lenS b0) (λf6=>A.cd .neq f6 8 ( K [(.b false)] a2) ( A.opt (lenS a8) (λx94=>A.cd .neq x94 16 ( K [(.b false)] a2) ( A.loop (λb1 gl a9=>A.k4 gl (λn99=>A.cd .lss n99 16 ( A.opt (idS 3 a8 n99) (λa4=>A.peek (.lg cc 3 a4) a9 (λg0=>A.k11 g0 (λn104 n106 n108=>A.new (.cells [(.int .u8 0),(.int .i64 0),(.int .i64 0),(.int .u8 4),(.int .i64 2),(.int .i64 0),(.int .u8 6),(.int .i64 0),(.int .i64 2),(.int .u8 2),(.int .i64 2),(.int .i64 2)] 3 true) a9 (λa5 a1=>A.ari .quo .i64 n99 4 (λn112=>A.opt (idS 3 (.slice (some ⟨a5,0,(some 13)⟩) 4 5) n112) (λg1=>A.peek (.lg cc 3 g1) a1 (λg2=>A.k11 g2 (λn115 n117 n119=>A.eqs [((.i n104),(.i n115)),((.i n106),(.i n117)),((.i n108),(.i n119))] (λg3=>A.cond (!g3) ( A.opt (Sx.sepL [((.slice (some ⟨a5,0,(some 13)⟩) 4 5),(0,a4))]) (λxI=>K [(.b false)] a1)) ( A.cd .lss n99 8 ( A.ix 3 b0 n99 3 a1 (λg4=>A.k11 g4 (λn126 n128 n130=>A.ix 3 a8 n99 3 a1 (λg5=>A.k11 g5 (λn134 n136 n138=>A.eqs [((.i n126),(.i n134)),((.i n128),(.i n136)),((.i n130),(.i n138))] (λg6=>A.opt (Sx.sepL [((.slice (some ⟨a5,0,(some 13)⟩) 4 5),(0,a4))]) (λxJ=>A.join (λg7 g8=>A.un0 g7 ( A.ari .add .i64 n99 1 (λg9=>b1 [(.i g9)] g8))) (λh0=>A.cond (!g6) ( K [(.b false)] a1) ( h0 [] a1))))))))) ( A.opt (Sx.sepL [((.slice (some ⟨a5,0,(some 13)⟩) 4 5),(0,a4))]) (λxK=>A.ari .add .i64 n99 1 (λh1=>b1 [(.i h1)] a1)))))))))))))) ( A.call 37 [(.i 1),(.i 1),(.i 0),(.i 4)] a9 (λh2 h3=>A.k13 h2 (λh4 n152 n154 n156 n158=>A.call 37 [(.i 2),(.i 1),(.i 0),(.i 4)] h3 (λh5 h6=>A.k13 h5 (λh7 h8 n166 n168 h9=>A.new (.cells [(.int .u8 h4),(.int .u8 n152),(.int .i64 n154),(.int .i64 n156),(.int .i64 n158),(.int .u8 h7),(.int .u8 h8),(.int .i64 n166),(.int .i64 n168),(.int .i64 h9)] 5 true) h6 (λi0 i1=>A.call 36 [(.i 2),(.i 2),(.v (.slice (some ⟨i0,0,(some 15)⟩) 2 3))] i1 (λi2 i3=>A.k1 i2 (λn176 i4 i6=>A.call 38 [] i3 (λj0 j1=>A.k5 j0 (λj2 j3 j4=>A.call 23 [(.i n176),(.i i4),(.v i6),(.i j2),(.i j3),(.i j4)] j1 (λj5 j6=>A.k10 j5 (λj7 j8=>A.call 37 [(.i 1),(.i 1),(.i 0),(.i 4)] j6 (λj9 l0=>A.k13 j9 (λl1 l2 l3 l4 l5=>A.call 37 [(.i 2),(.i 1),(.i 0),(.i 2)] l0 (λl6 l7=>A.k13 l6 (λl8 l9 m0 m1 m2=>A.new (.cells [(.int .u8 l1),(.int .u8 l2),(.int .i64 l3),(.int .i64 l4),(.int .i64 l5),(.int .u8 l8),(.int .u8 l9),(.int .i64 m0),(.int .i64 m1),(.int .i64 m2)] 5 true) l7 (λm3 m4=>A.call 36 [(.i 2),(.i 2),(.v (.slice (some ⟨m3,0,(some 15)⟩) 2 3))] m4 (λm5 m6=>A.k1 m5 (λb2 b3 b4=>A.call 38 [] m6 (λm7 m8=>A.k5 m7 (λm9 n0 n1=>A.call 21 [(.i b2),(.i b3),(.v b4),(.i m9),(.i n0),(.i n1)] m8 (λn2 n3=>A.k3 n2 (λxL n4=>A.call 9 [(.i b2),(.i b3),(.v b4)] n3 (λn6 o0=>A.unI n6 (λo1 o2=>A.unI o2 (λo3 o4=>A.unB o4 (λo5 o6=>A.k4 o6 (λo7=>A.call 37 [(.i 3),(.i 1),(.i 0),(.i 2)] o0 (λo8 o9=>A.k13 o8 (λp0 p1 p2 p3 p4=>A.new (.cells [(.int .u8 p0),(.int .u8 p1),(.int .i64 p2),(.int .i64 p3),(.int .i64 p4)] 5 true) o9 (λp5 p6=>A.call 36 [(.i 1),(.i 1),(.v (.slice (some ⟨p5,0,(some 15)⟩) 1 2))] p6 (λp7 p8=>A.k1 p7 (λp9 q0 q1=>A.call 38 [] p8 (λq2 q3=>A.k5 q2 (λq5 q6 q7=>A.call 13 [(.i p9),(.i q0),(.v q1),(.i q5),(.i q6),(.i q7)] q3 (λq8 a0=>A.k3 q8 (λa3 q9=>A.cd .neq j7 4 ( K [(.b false)] a0) ( A.cd .neq j8 0 ( K [(.b false)] a0) ( A.cd .neq n4 11 ( K [(.b false)] a0) ( A.eqs [((.i o1),(.i 2)),((.i o3),(.i 2))] (λr1=>A.cond (!r1) ( K [(.b false)] a0) ( A.cond (!o5) ( K [(.b false)] a0) ( A.cd .neq o7 0 ( K [(.b false)] a0) ( A.cd .neq q9 0 ( K [(.b false)] a0) ( A.opt (lenS a3) (λr2=>A.cd .neq r2 4 ( K [(.b false)] a0) ( A.opt (idS 3 a3 0) (λr3=>A.opt (fdP 2 r3) (λb5=>A.chk b5 ( A.peek (.lg cc 1 b5) a0 (λr4=>A.k8 r4 (λr5=>A.cd .neq r5 0 ( K [(.b false)] a0) ( A.opt (idS 3 a3 1) (λr6=>A.opt (fdP 2 r6) (λb6=>A.chk b6 ( A.peek (.lg cc 1 b6) a0 (λr7=>A.k8 r7 (λr8=>A.cd .neq r8 0 ( K [(.b false)] a0) ( A.opt (idS 3 a3 2) (λr9=>A.opt (fdP 2 r9) (λb7=>A.chk b7 ( A.peek (.lg cc 1 b7) a0 (λs0=>A.k8 s0 (λs1=>A.cd .neq s1 3 ( K [(.b false)] a0) ( A.opt (idS 3 a3 3) (λs2=>A.opt (fdP 2 s2) (λb8=>A.chk b8 ( A.peek (.lg cc 1 b8) a0 (λs3=>A.k8 s3 (λs4=>A.cd .neq s4 3 ( K [(.b false)] a0) ( A.call 37 [(.i 1),(.i 1),(.i 0),(.i 4)] a0 (λs5 s6=>A.k13 s5 (λs7 s8 s9 t0 t1=>A.call 37 [(.i 3),(.i 2),(.i 2),(.i 4)] s6 (λt2 t3=>A.k13 t2 (λt4 t5 t6 t7 t9=>A.call 37 [(.i 4),(.i 0),(.i 0),(.i 2)] t3 (λuc u0=>A.k13 uc (λu1 u2 u3 u4 u5=>A.new (.cells [(.int .u8 s7),(.int .u8 s8),(.int .i64 s9),(.int .i64 t0),(.int .i64 t1),(.int .u8 t4),(.int .u8 t5),(.int .i64 t6),(.int .i64 t7),(.int .i64 t9),(.int .u8 u1),(.int .u8 u2),(.int .i64 u3),(.int .i64 u4),(.int .i64 u5)] 5 true) u0 (λu6 u7=>A.call 36 [(.i 2),(.i 2),(.v (.slice (some ⟨u6,0,(some 15)⟩) 3 4))] u7 (λu9 v0=>A.k1 u9 (λv1 v2 v3=>A.call 24 [(.i v1),(.i v2),(.v v3),(.i 2),(.i 2)] v0 (λv4 v5=>A.unB v4 (λv6 v7=>A.k4 v7 (λv8=>A.call 37 [(.i 3),(.i 2),(.i 0),(.i 4)] v5 (λv9 w0=>A.k13 v9 (λw1 w2 w3 w4 w6=>A.call 37 [(.i 4),(.i 0),(.i 0),(.i 4)] w0 (λxk xl=>A.k13 xk (λxm xn xo xp xq=>A.new (.cells [(.int .u8 w1),(.int .u8 w2),(.int .i64 w3),(.int .i64 w4),(.int .i64 w6),(.int .u8 xm),(.int .u8 xn),(.int .i64 xo),(.int .i64 xp),(.int .i64 xq)] 5 true) xl (λxr xt=>A.call 36 [(.i 2),(.i 2),(.v (.slice (some ⟨xr,0,(some 15)⟩) 2 3))] xt (λxu xv=>A.k1 xu (λxw xy xz=>A.call 24 [(.i xw),(.i xy),(.v xz),(.i 2),(.i 2)] xv (λxA a6=>A.unB xA (λxB xC=>A.k4 xC (λxD=>A.join (λxE xF=>A.k2 xE (λxG=>K [(.b xG)] xF)) (λa7=>A.cond v6 ( A.cd .eql v8 0 ( A.cond xB ( A.cmp .eql xD 0 (λxH=>a7 [(.b xH)] a6)) ( a7 [(.b false)] a6)) ( a7 [(.b false)] a6)) ( a7 [(.b false)] a6))))))))))))))))))))))))))))))))))))))))))))))))))))))))))))))))))))))))))))))))))))))))))))))))) [(.i 0)] a2)))))))))))))))))))))))))))
def f13(ls:List Lf)(h:HT)(K:List Lf->HT->R):R:=A.k0 ls (λa0 n8 a1 a2 n14 n16=>A.call 42 [(.i a0),(.i n8),(.v a1),(.i a2),(.i n14),(.i n16)] h (λa3 a4=>A.unV a3 (λx20 a5=>A.k3 a5 (λx22 n24=>K [(.v x22),(.i n24)] a4))))
def f14(ls:List Lf)(h:HT)(K:List Lf->HT->R):R:=A.k0 ls (λa3 n8 a4 a5 n14 n16=>A.call 42 [(.i a3),(.i n8),(.v a4),(.i a5),(.i n14),(.i n16)] h (λa6 a1=>A.unV a6 (λx20 a7=>A.k3 a7 (λx22 n24=>A.cd .neq n24 0 ( K [(.v (.slice none 0 0)),(.i n24)] a1) ( A.opt (lenS x20) (λx27=>A.opt (mkOk x27 x27) (λx28=>A.new (.cells (aJ [(.bool false)] (Int.toNat x27)) 1 true) a1 (λa2 a8=>A.opt (lenS x20) (λa9=>A.loop (λb0 b1 a0=>A.k4 b1 (λn35=>A.cd .lss n35 a9 ( A.ix 3 x20 n35 3 a0 (λb2=>A.k11 b2 (λb3 n42 n44=>A.call 43 [(.i b3),(.i n42),(.i n44)] a0 (λb4 b5=>A.k2 b4 (λb6=>A.opt (idS 1 (.slice (some ⟨a2,0,(some 11)⟩) (Int.toNat x27) ((Int.toNat x27)+1)) n35) (λx50=>A.heap (.st x50 [(.bool (!b6))]) b5 (λb8 b7=>A.ari .add .i64 n35 1 (λn53=>b0 [(.i n53)] b7)))))))) ( K [(.v (.slice (some ⟨a2,0,(some 11)⟩) (Int.toNat x27) ((Int.toNat x27)+1))),(.i 0)] a0))) [(.i 0)] a8)))))))))
def f15(ls:List Lf)(h:HT)(K:List Lf->HT->R):R:=A.k10 ls (λa1 n8=>A.loop (λa7 a8 a2=>A.k3 a8 (λx13 n15=>A.ari .mul .i64 4 a1 (λn17=>A.ari .mul .i64 n17 n8 (λn18=>A.cd .lss n15 n18 ( A.loop (λa9 b0 a3=>A.k3 b0 (λx23 a0=>A.cd .lss a0 3 ( A.call 17 [(.i a1),(.i n8),(.i n15),(.i a0)] a3 (λb1 a4=>A.k4 b1 (λn30=>A.cmp .gtr n30 n15 (λb2=>A.join (λb3 b4=>A.k6 b3 (λb5=>A.ari .add .i64 a0 1 (λn37=>a9 [(.v b5),(.i n37)] b4))) (λa5=>A.cond b2 ( A.conv .u8 a0 (λb6=>A.new (.cells [(.int .i64 n15),(.int .u8 b6)] 2 true) a4 (λb7 b8=>A.heap (.ap cc 2 16 x23 (.slice (some ⟨b7,0,(some 12)⟩) 1 2)) b8 (λb9 c0=>A.ucV b9 (λa6 c1=>A.chk a6 ( A.uc0 c1 ( a5 [(.v a6)] c0))))))) ( a5 [(.v x23)] a4)))))) ( A.ari .add .i64 n15 1 (λn46=>a7 [(.v x23),(.i n46)] a3)))) [(.v x13),(.i 0)] a2) ( K [(.v x13)] a2))))) [(.v (.slice none 0 0)),(.i 0)] h)
def f16(ls:List Lf)(h:HT)(K:List Lf->HT->R):R:=A.k1 ls (λa6 n8 a1=>A.call 15 [(.i a6),(.i n8)] h (λa7 a8=>A.k6 a7 (λx14=>A.opt (lenS x14) (λx16=>A.opt (mkOk x16 x16) (λd3=>A.new (.cells (aJ [(.int .u8 0)] (Int.toNat x16)) 1 true) a8 (λa2 a9=>A.loop (λb0 b1 a3=>A.k4 b1 (λn23=>A.opt (lenS x14) (λb2=>A.cd .lss n23 b2 ( A.loop (λa4 b3 a0=>A.k4 b3 (λn30=>A.opt (lenS a1) (λx32=>A.cd .lss n30 x32 ( A.fx 3 a1 n30 0 1 a0 (λb4=>A.k7 b4 (λn37=>A.fx 2 x14 n23 0 1 a0 (λb5=>A.k7 b5 (λn42=>A.cd .eql n37 n42 ( A.fx 3 a1 n30 1 1 a0 (λb6=>A.k8 b6 (λn48=>A.fx 2 x14 n23 1 1 a0 (λb7=>A.k8 b7 (λn53=>A.cmp .eql n48 n53 (λb8=>A.join (λb9 c0=>A.un0 b9 ( A.ari .add .i64 n30 1 (λn58=>a4 [(.i n58)] c0))) (λa5=>A.cond b8 ( A.fx 3 a1 n30 2 1 a0 (λc1=>A.k8 c1 (λn63=>A.opt (idS 1 (.slice (some ⟨a2,0,(some 11)⟩) (Int.toNat x16) ((Int.toNat x16)+1)) n23) (λd0=>A.heap (.st d0 [(.int .u8 n63)]) a0 (λd4 d1=>a5 [] d1))))) ( a5 [] a0)))))))) ( A.ari .add .i64 n30 1 (λn68=>a4 [(.i n68)] a0))))))) ( A.ari .add .i64 n23 1 (λd2=>b0 [(.i d2)] a0))))) [(.i 0)] a3) ( K [(.v (.slice (some ⟨a2,0,(some 11)⟩) (Int.toNat x16) ((Int.toNat x16)+1)))] a3)))) [(.i 0)] a9))))))
def f17(ls:List Lf)(h:HT)(K:List Lf->HT->R):R:=A.k14 ls (λa0 n8 n10 a1=>A.ari .quo .i64 n10 4 (λn14=>A.ari .rem .i64 n14 a0 (λn15=>A.ari .mul .i64 4 a0 (λn16=>A.ari .quo .i64 n10 n16 (λn17=>A.ari .rem .i64 n10 4 (λn18=>A.conv .u8 n18 (λn19=>A.call 18 [(.i n15),(.i n17),(.i n19),(.i a1)] h (λa2 a3=>A.k5 a2 (λn22 n24 n26=>A.call 44 [(.i a0),(.i n8),(.i n22),(.i n24),(.i n26)] a3 (λa4 a5=>A.k4 a4 (λn30=>K [(.i n30)] a5)))))))))))
def f18(ls:List Lf)(h:HT)(K:List Lf->HT->R):R:=A.k14 ls (λa2 n8 n10 a4=>A.call 45 [(.i a2),(.i n8),(.i n10),(.i a4)] h (λa5 a6=>A.k10 a5 (λn16 n18=>A.call 46 [(.i a2),(.i n8),(.i n10)] a6 (λa7 a8=>A.k15 a7 (λn22 n24 n26 n28 n30 n32=>A.loop (λa9 b0 a3=>A.unI b0 (λn37 b1=>A.k15 b1 (λa0 a1 n43 n45 n47 n49=>A.cd .lss n37 3 ( A.opt (inB 3 n37) (λb8=>A.opt (dF [(.i a0),(.i a1),(.i n43),(.i n45),(.i n47),(.i n49)] 0 [(n37,2)] 2) (λb2=>A.k10 b2 (λn54 n56=>A.call 47 [(.i n16),(.i n18),(.i n54),(.i n56)] a3 (λb3 b4=>A.k10 b3 (λn60 n62=>A.opt (inB 3 n37) (λb9=>A.opt (putL [(.i a0),(.i a1),(.i n43),(.i n45),(.i n47),(.i n49)] 0 [(n37,2)] [(.i n60),(.i n62)]) (λb5=>A.k15 b5 (λn66 n68 n70 n72 n74 n76=>A.ari .add .i64 n37 1 (λn78=>a9 [(.i n78),(.i n66),(.i n68),(.i n70),(.i n72),(.i n74),(.i n76)] b4)))))))))) ( A.call 48 [(.i a0),(.i a1),(.i n43),(.i n45),(.i n47),(.i n49)] a3 (λb6 b7=>A.k5 b6 (λn81 n83 n85=>K [(.i n81),(.i n83),(.i n85)] b7)))))) [(.i 0),(.i n22),(.i n24),(.i n26),(.i n28),(.i n30),(.i n32)] a8)))))
def f19(ls:List Lf)(h:HT)(K:List Lf->HT->R):R:=A.k10 ls (λa0 n8=>A.cd .lss a0 1 ( K [(.i 0)] h) ( A.cd .lss n8 1 ( K [(.i 0)] h) ( A.cd .gtr a0 256 ( K [(.i 0)] h) ( A.cd .gtr n8 256 ( K [(.i 0)] h) ( A.ari .mul .i64 a0 n8 (λn14=>A.cd .gtr n14 256 ( K [(.i 0)] h) ( K [(.i 1)] h)))))))
def f20(ls:List Lf)(h:HT)(K:List Lf->HT->R):R:=A.k1 ls (λa3 n8 a1=>A.call 19 [(.i a3),(.i n8)] h (λa9 a4=>A.k4 a9 (λn14=>A.cd .eql n14 0 ( K [(.i 1)] a4) ( A.loop (λb0 b1 a2=>A.k4 b1 (λn20=>A.opt (lenS a1) (λx22=>A.cd .lss n20 x22 ( A.fx 3 a1 n20 2 1 a2 (λb2=>A.k8 b2 (λn27=>A.cd .lss n27 1 ( K [(.i 1)] a2) ( A.fx 3 a1 n20 2 1 a2 (λb3=>A.k8 b3 (λn33=>A.cd .gtr n33 3 ( K [(.i 1)] a2) ( A.ari .add .i64 n20 1 (λn36=>b0 [(.i n36)] a2)))))))) ( A.call 15 [(.i a3),(.i n8)] a2 (λb4 b5=>A.k6 b4 (λa5=>A.loop (λb6 b7 a6=>A.k5 b7 (λn44 n46 n48=>A.opt (lenS a1) (λx50=>A.cd .lss n48 x50 ( A.loop (λb8 b9 a0=>A.k10 b9 (λn55 n57=>A.opt (lenS a5) (λc0=>A.cd .lss n57 c0 ( A.ix 2 a5 n57 2 a0 (λc1=>A.k16 c1 (λn63 n65=>A.fx 3 a1 n48 0 1 a0 (λd0=>A.k7 d0 (λn70=>A.fx 3 a1 n48 1 1 a0 (λd1=>A.k8 d1 (λn75=>A.eqs [((.i n63),(.i n70)),((.i n65),(.i n75))] (λd2=>A.join (λd3 d4=>A.k4 d3 (λn80=>A.ari .add .i64 n57 1 (λn82=>b8 [(.i n80),(.i n82)] d4))) (λa7=>A.cond d2 ( a7 [(.i n57)] a0) ( a7 [(.i n55)] a0)))))))))) ( A.cd .lss n55 0 ( K [(.i 7)] a0) ( A.cmp .leq n55 n46 (λd5=>A.join (λd6 d7=>A.k4 d6 (λn88=>A.ari .add .i64 n48 1 (λn90=>b6 [(.i n88),(.i n55),(.i n90)] d7))) (λa8=>A.cond d5 ( a8 [(.i 6)] a0) ( a8 [(.i n44)] a0)))))))) [(.i (-1)),(.i 0)] a6) ( K [(.i n44)] a6)))) [(.i 0),(.i (-1)),(.i 0)] b5)))))) [(.i 0)] a4))))
def f21(ls:List Lf)(h:HT)(K:List Lf->HT->R):R:=A.k0 ls (λa0 n8 a1 a2 n14 n16=>A.call 42 [(.i a0),(.i n8),(.v a1),(.i a2),(.i n14),(.i n16)] h (λa3 a4=>A.unV a3 (λx20 a5=>A.k3 a5 (λx22 n24=>K [(.v x20),(.i n24)] a4))))
def f22(ls:List Lf)(h:HT)(K:List Lf->HT->R):R:=A.k0 ls (λa1 n8 a2 a3 n14 n16=>A.call 13 [(.i a1),(.i n8),(.v a2),(.i a3),(.i n14),(.i n16)] h (λa4 a0=>A.k3 a4 (λx20 n22=>A.cd .neq n22 0 ( K [(.v (.slice none 0 0)),(.i n22)] a0) ( A.call 49 [(.v x20)] a0 (λa5 a6=>A.k3 a5 (λx27 n29=>K [(.v x27),(.i n29)] a6))))))
def f23(ls:List Lf)(h:HT)(K:List Lf->HT->R):R:=A.k0 ls (λa5 n8 a6 a7 n14 n16=>A.call 13 [(.i a5),(.i n8),(.v a6),(.i a7),(.i n14),(.i n16)] h (λa8 a3=>A.k3 a8 (λx20 n22=>A.cd .neq n22 0 ( K [(.i 0),(.i n22)] a3) ( A.new (.map [] 0) a3 (λa0 a9=>A.opt (lenS x20) (λx27=>A.loop (λb0 b1 a1=>A.k10 b1 (λn31 n33=>A.cd .lss n33 x27 ( A.ix 3 x20 n33 3 a1 (λb2=>A.k9 b2 (λn38 a2 n42=>A.peek (.fn (luG cc 66 false (.int .i64 0) (.map (some a0)) (.agg ⟨[(.int .i64 n38),(.int .i64 a2),(.int .u8 n42)]⟩) false)) a1 (λb3=>A.k7 b3 (λn45=>A.ari .add .i64 n45 1 (λn47=>A.heap (.fn (meG cc 66 false (.int .i64 0) (.map (some a0)) (.agg ⟨[(.int .i64 n38),(.int .i64 a2),(.int .u8 n42)]⟩))) a1 (λb4 b5=>A.k12 b4 (λn50 n52=>A.heap (.fn (esG (.map (some a0)) n52 (.int .i64 n47))) b5 (λb8 a4=>A.peek (.fn (luG cc 66 false (.int .i64 0) (.map (some a0)) (.agg ⟨[(.int .i64 n38),(.int .i64 a2),(.int .u8 n42)]⟩) false)) a4 (λb6=>A.k7 b6 (λn57=>A.cmp .lss n31 n57 (λb7=>A.sel b7 n57 n31 (λn60=>A.ari .add .i64 n33 1 (λn61=>b0 [(.i n60),(.i n61)] a4)))))))))))))) ( K [(.i n31),(.i 0)] a1))) [(.i 0),(.i 0)] a9))))))
def f24(ls:List Lf)(h:HT)(K:List Lf->HT->R):R:=A.unI ls (λa6 a7=>A.unI a7 (λn8 a8=>A.unV a8 (λa9 b0=>A.k10 b0 (λa2 n14=>A.call 50 [(.i a6),(.i n8),(.v a9),(.i a2),(.i n14)] h (λb1 a3=>A.k3 b1 (λa4 n20=>A.cd .neq n20 0 ( K [(.b false),(.i n20)] a3) ( A.new (.cells [(.int .u8 0),(.int .i64 0),(.int .i64 0)] 3 true) a3 (λa1 b2=>A.chk (.func (.func 51) ⟨[(.pointer (some ⟨a1,0,none⟩))]⟩ ⟨[]⟩) ( A.opt (lenS a4) (λb3=>A.loop (λb4 b5 a0=>A.k4 b5 (λn29=>A.cd .lss n29 b3 ( A.ix 2 a4 n29 2 a0 (λb6=>A.k16 b6 (λn34 n36=>A.ari .rem .i64 n34 4 (λn38=>A.opt (inB 4 n38) (λd5=>A.opt (dF [(.i 2),(.i 4),(.i 1),(.i 3)] 0 [(n38,1)] 1) (λb7=>A.k4 b7 (λb8=>A.call 52 [(.i b8),(.i a2),(.i n14)] a0 (λb9 c0=>A.k5 b9 (λn45 n47 n49=>A.callv (.func (.func 51) ⟨[(.pointer (some ⟨a1,0,none⟩))]⟩ ⟨[]⟩) [(.agg ⟨[(.int .u8 n45),(.int .i64 n47)]⟩)] [] c0 (λc1 d0=>A.un0 c1 ( A.ari .add .i64 n29 1 (λn53=>b4 [(.i n53)] d0)))))))))))) ( A.opt (fdP 0 (.pointer (some ⟨a1,0,none⟩))) (λa5=>A.chk a5 ( A.peek (.lg cc 3 a5) a0 (λd1=>A.k11 d1 (λn56 n58 n60=>A.call 38 [] a0 (λd2 d3=>A.k5 d2 (λn64 n66 n68=>A.eqs [((.i n56),(.i n64)),((.i n58),(.i n66)),((.i n60),(.i n68))] (λd4=>K [(.b d4),(.i 0)] d3)))))))))) [(.i 0)] b2))))))))))
def f26(ls:List Lf)(h:HT)(K:List Lf->HT->R):R:=A.k0 ls (λa3 n8 a4 a5 n14 n16=>A.call 53 [(.i a5),(.i n14),(.i n16)] h (λa9 a6=>A.k4 a9 (λn20=>A.cd .eql n20 0 ( K [(.v (.slice none 0 0)),(.i 1)] a6) ( A.call 8 [(.i a3),(.i n8),(.v a4),(.i a5),(.i n14),(.i n16)] a6 (λb0 a7=>A.k3 b0 (λa0 n27=>A.cd .eql n27 0 ( K [(.v (.slice none 0 0)),(.i 11)] a7) ( A.call 27 [(.i a3),(.i n8),(.v a4),(.v a0)] a7 (λb1 b2=>A.k6 b1 (λx32=>A.loop (λb3 b4 a1=>A.k4 b4 (λn37=>A.opt (lenS a0) (λb5=>A.cd .lss n37 b5 ( A.ix 3 a0 n37 3 a1 (λb6=>A.k11 b6 (λn43 n45 n47=>A.call 53 [(.i n43),(.i n45),(.i n47)] a1 (λb7 a2=>A.k4 b7 (λn51=>A.cd .eql n51 0 ( K [(.v (.slice none 0 0)),(.i 3)] a2) ( A.ix 3 x32 n37 3 a2 (λb8=>A.k9 b8 (λn56 n58 n60=>A.call 54 [(.i n56),(.i n58),(.i n60)] a2 (λb9 a8=>A.k4 b9 (λn64=>A.cd .eql n64 0 ( K [(.v (.slice none 0 0)),(.i 3)] a8) ( A.ari .add .i64 n37 1 (λn67=>b3 [(.i n67)] a8)))))))))))) ( K [(.v a0),(.i 0)] a1)))) [(.i 0)] b2)))))))))
def f27(ls:List Lf)(h:HT)(K:List Lf->HT->R):R:=A.unI ls (λa2 a3=>A.unI a3 (λn8 a4=>A.unV a4 (λd1 a5=>A.k6 a5 (λa6=>A.call 30 [(.i a2),(.i n8)] h (λa7 a8=>A.k6 a7 (λx16=>A.loop (λa9 b0 a0=>A.k3 b0 (λx21 n23=>A.opt (lenS x16) (λb1=>A.cd .lss n23 b1 ( A.ix 3 a6 n23 3 a0 (λb2=>A.k11 b2 (λn29 n31 n33=>A.ix 3 x16 n23 3 a0 (λb3=>A.k9 b3 (λn37 b4 b5=>A.call 55 [(.i n29),(.i n31),(.i n33),(.i n37),(.i b4),(.i b5)] a0 (λb6 b7=>A.k5 b6 (λn45 n47 n49=>A.new (.cells [(.int .i64 n45),(.int .i64 n47),(.int .u8 n49)] 3 true) b7 (λb8 b9=>A.heap (.ap cc 3 24 x21 (.slice (some ⟨b8,0,(some 13)⟩) 1 2)) b9 (λc0 c1=>A.ucV c0 (λa1 d0=>A.chk a1 ( A.uc0 d0 ( A.ari .add .i64 n23 1 (λn57=>a9 [(.v a1),(.i n57)] c1))))))))))))) ( K [(.v x21)] a0)))) [(.v (.slice none 0 0)),(.i 0)] a8))))))
def f28(ls:List Lf)(h:HT)(K:List Lf->HT->R):R:=A.unV ls (λa0 a1=>A.k6 a1 (λx8=>A.call 56 [(.v a0),(.v x8)] h (λa2 a3=>A.k2 a2 (λa4=>K [(.b a4)] a3))))
def f29(ls:List Lf)(h:HT)(K:List Lf->HT->R):R:=A.k6 ls (λa1=>A.loop (λa3 a4 a0=>A.k3 a4 (λa2 n13=>A.opt (lenS a1) (λa5=>A.cd .lss n13 a5 ( A.ix 3 a1 n13 3 a0 (λa6=>A.k9 a6 (λn19 n21 n23=>A.call 57 [(.v a2),(.i n19),(.i n21),(.i n23)] a0 (λa7 a8=>A.k6 a7 (λx27=>A.ari .add .i64 n13 1 (λn29=>a3 [(.v x27),(.i n29)] a8)))))) ( K [(.v a2)] a0)))) [(.v (.slice none 0 0)),(.i 0)] h)
def f30(ls:List Lf)(h:HT)(K:List Lf->HT->R):R:=A.k10 ls (λa4 n8=>A.loop (λa5 a6 a0=>A.k3 a6 (λx13 n15=>A.cd .lss n15 n8 ( A.loop (λa7 a8 a1=>A.k3 a8 (λx21 n23=>A.cd .lss n23 a4 ( A.loop (λa9 b0 a2=>A.k3 b0 (λx29 n31=>A.cd .lss n31 4 ( A.new (.cells [(.int .i64 n23),(.int .i64 n15),(.int .u8 n31)] 3 true) a2 (λb1 b2=>A.heap (.ap cc 3 24 x29 (.slice (some ⟨b1,0,(some 13)⟩) 1 2)) b2 (λb3 b4=>A.ucV b3 (λa3 b5=>A.chk a3 ( A.uc0 b5 ( A.ari .add .u8 n31 1 (λb6=>a9 [(.v a3),(.i b6)] b4))))))) ( A.ari .add .i64 n23 1 (λb7=>a7 [(.v x29),(.i b7)] a2)))) [(.v x21),(.i 0)] a1) ( A.ari .add .i64 n15 1 (λn42=>a5 [(.v x21),(.i n42)] a1)))) [(.v x13),(.i 0)] a0) ( K [(.v x13)] a0))) [(.v (.slice none 0 0)),(.i 0)] h)
def f31(ls:List Lf)(h:HT)(K:List Lf->HT->R):R:=A.unI ls (λa0 a1=>A.unI a1 (λn8 a2=>A.k15 a2 (λn10 a3 n14 n16 n18 n20=>A.cd .eql n14 0 ( K [(.i n16),(.i n18),(.i n20)] h) ( A.call 45 [(.i a0),(.i n8),(.i n10),(.i a3)] h (λa4 a5=>A.k10 a4 (λa6 n27=>A.call 59 [(.i a6),(.i n27)] a5 (λa7 a8=>A.k5 a7 (λn31 n33 n35=>A.call 58 [(.i n31),(.i n33),(.i n35),(.i n16),(.i n18),(.i n20)] a8 (λa9 b0=>A.k5 a9 (λb1 b2 n43=>K [(.i b1),(.i b2),(.i n43)] b0))))))))))
def f32(ls:List Lf)(h:HT)(K:List Lf->HT->R):R:=A.k1 ls (λa4 n8 a0=>A.call 60 [(.i a4),(.i n8)] h (λb1 a5=>A.k4 b1 (λn14=>A.cd .neq n14 0 ( K [(.i n14)] a5) ( A.call 61 [(.v a0),(.v (.func (.func 62) ⟨[]⟩ ⟨[]⟩))] a5 (λb2 a6=>A.k2 b2 (λb3=>A.cond b3 ( K [(.i 1)] a6) ( A.opt (lenS a0) (λx21=>A.loop (λb4 b5 a1=>A.k4 b5 (λa2=>A.cd .lss a2 x21 ( A.ix 3 a0 a2 3 a1 (λb6=>A.k17 b6 (λn30 n32 n34=>A.call 64 [(.i a4),(.i n8),(.i n30),(.i n32)] a1 (λb7 a7=>A.k5 b7 (λn38 b8 n42=>A.cd .neq n42 0 ( K [(.i 7)] a7) ( A.call 65 [(.i n30),(.i n32),(.i n34)] a7 (λb9 a8=>A.k10 b9 (λn47 n49=>A.eqs [((.i n38),(.i n47)),((.i b8),(.i n49))] (λc0=>A.cond (!c0) ( K [(.i 7)] a8) ( A.ari .add .i64 a2 1 (λn52=>b4 [(.i n52)] a8))))))))))) ( A.loop (λc1 d0 a3=>A.k4 d0 (λn56=>A.opt (lenS a0) (λd1=>A.cd .lss n56 d1 ( A.ari .sub .i64 n56 1 (λn60=>A.ix 3 a0 n60 3 a3 (λd2=>A.k17 d2 (λn63 n65 n67=>A.call 65 [(.i n63),(.i n65),(.i n67)] a3 (λd3 a9=>A.k10 d3 (λn71 n73=>A.ix 3 a0 n56 3 a9 (λd4=>A.k17 d4 (λn77 d5 n81=>A.call 65 [(.i n77),(.i d5),(.i n81)] a9 (λd6 d7=>A.k10 d6 (λn85 n87=>A.call 66 [(.i n71),(.i n73),(.i n85),(.i n87)] d7 (λd8 b0=>A.k4 d8 (λn91=>A.cd .geq n91 0 ( K [(.i 6)] b0) ( A.ari .add .i64 n56 1 (λn94=>c1 [(.i n94)] b0)))))))))))))) ( K [(.i 0)] a3)))) [(.i 1)] a1))) [(.i 0)] a6))))))))
def f33(ls:List Lf)(h:HT)(K:List Lf->HT->R):R:=A.k10 ls (λa0 n8=>A.call 67 [(.i a0),(.i n8)] h (λa1 a2=>A.k3 a1 (λa3 n14=>K [(.v a3),(.i n14)] a2)))
def f34(ls:List Lf)(h:HT)(K:List Lf->HT->R):R:=A.unV ls (λa1 a3=>A.k6 a3 (λx8=>A.opt (lenS a1) (λa4=>A.loop (λa5 a6 a0=>A.k4 a6 (λn14=>A.cd .lss n14 a4 ( A.ix 2 a1 n14 2 a0 (λa7=>A.k12 a7 (λn19 n21=>A.callv x8 [(.agg ⟨[(.int .i64 n19),(.int .i64 n21)]⟩)] [(.leaf .b)] a0 (λa8 a2=>A.k2 a8 (λa9=>A.cond a9 ( K [(.i n14)] a2) ( A.ari .add .i64 n14 1 (λn27=>a5 [(.i n27)] a2))))))) ( K [(.i (-1))] a0))) [(.i 0)] h)))
def f35(ls:List Lf)(h:HT)(K:List Lf->HT->R):R:=A.k1 ls (λa1 n8 a2=>A.peek (.lg cc 3 a2) h (λa3=>A.ucI .i64 a3 (λn13 a4=>A.ucI .i64 a4 (λn15 a5=>A.ucV a5 (λa0 a6=>A.chk a0 ( A.uc0 a6 ( A.call 24 [(.i n13),(.i n15),(.v a0),(.i a1),(.i n8)] h (λa7 a8=>A.unB a7 (λa9 b0=>A.k4 b0 (λn23=>K [(.b (!a9))] a8))))))))))
def f36(ls:List Lf)(h:HT)(K:List Lf->HT->R):R:=A.k1 ls (λa0 n8 a1=>A.call 68 [(.i a0),(.i n8),(.v a1)] h (λa2 a3=>A.unI a2 (λn14 a4=>A.unI a4 (λn16 a5=>A.unV a5 (λa6 a7=>A.k10 a7 (λn20 n22=>K [(.i n14),(.i n16),(.v a6)] a3))))))
def f37(ls:List Lf)(h:HT)(K:List Lf->HT->R):R:=A.k14 ls (λa0 n8 n10 a1=>K [(.i 1),(.i a0),(.i n8),(.i n10),(.i a1)] h)
def f38(ls:List Lf)(h:HT)(K:List Lf->HT->R):R:=A.un0 ls ( K [(.i 0),(.i 0),(.i 0)] h)
def f42(ls:List Lf)(h:HT)(K:List Lf->HT->R):R:=A.k0 ls (λa2 n8 a5 a6 n14 n16=>A.call 32 [(.i a2),(.i n8),(.v a5)] h (λb2 a7=>A.k4 b2 (λn20=>A.cd .neq n20 0 ( K [(.v (.slice none 0 0)),(.v (.slice none 0 0)),(.i n20)] a7) ( A.call 70 [(.i a6),(.i n14),(.i n16)] a7 (λb3 a8=>A.k4 b3 (λb4=>A.cd .neq b4 0 ( K [(.v (.slice none 0 0)),(.v (.slice none 0 0)),(.i 1)] a8) ( A.call 71 [(.i a2),(.i n8),(.v a5)] a8 (λb5 a9=>A.k3 b5 (λa1 n32=>A.cd .neq n32 0 ( K [(.v (.slice none 0 0)),(.v (.slice none 0 0)),(.i n32)] a9) ( A.opt (lenS a1) (λa0=>A.opt (mkOk a0 a0) (λd8=>A.new (.cells (aJ [(.int .i64 0),(.int .i64 0),(.int .u8 0)] (Int.toNat a0)) 3 true) a9 (λb0 b6=>A.opt (lenS a1) (λb7=>A.loop (λb8 b9 a3=>A.k4 b9 (λn43=>A.cd .lss n43 b7 ( A.ix 3 a1 n43 3 a3 (λc0=>A.k11 c0 (λn48 n50 n52=>A.call 72 [(.i a2),(.i n8),(.i n43)] a3 (λc1 d0=>A.k14 c1 (λn56 n58 n60 n62=>A.call 73 [(.i n48),(.i n50),(.i n52),(.i a6),(.i n14),(.i n16)] d0 (λd1 d2=>A.k14 d1 (λn66 n68 n70 n72=>A.opt (idS 3 a1 n43) (λd3=>A.heap (.st d3 [(.int .u8 n66),(.int .i64 n68),(.int .i64 n70)]) d2 (λd9 a4=>A.cd .neq n72 0 ( K [(.v (.slice none 0 0)),(.v (.slice none 0 0)),(.i n72)] a4) ( A.ix 3 a1 n43 3 a4 (λd4=>A.k11 d4 (λn80 n82 n84=>A.call 74 [(.i n80),(.i n82),(.i n84),(.i n56),(.i n58),(.i n60)] a4 (λd5 d6=>A.k14 d5 (λn88 n90 n92 n94=>A.opt (idS 3 (.slice (some ⟨b0,0,(some 13)⟩) (Int.toNat a0) ((Int.toNat a0)+1)) n43) (λd7=>A.heap (.st d7 [(.int .i64 n88),(.int .i64 n90),(.int .u8 n92)]) d6 (λe0 b1=>A.cd .neq n94 0 ( K [(.v (.slice none 0 0)),(.v (.slice none 0 0)),(.i n94)] b1) ( A.ari .add .i64 n43 1 (λn100=>b8 [(.i n100)] b1)))))))))))))))))) ( K [(.v a1),(.v (.slice (some ⟨b0,0,(some 13)⟩) (Int.toNat a0) ((Int.toNat a0)+1))),(.i 0)] a3))) [(.i 0)] b6))))))))))))))
def f43(ls:List Lf)(h:HT)(K:List Lf->HT->R):R:=A.k5 ls (λa0 n8 n10=>A.join (λa3 a4=>A.k2 a3 (λa5=>K [(.b a5)] a4)) (λa1=>A.call 70 [(.i a0),(.i n8),(.i n10)] h (λa6 a2=>A.k4 a6 (λn19=>A.cd .eql n19 0 ( A.cmp .geq a0 4 (λa7=>a1 [(.b a7)] a2)) ( a1 [(.b false)] a2)))))
def f44(ls:List Lf)(h:HT)(K:List Lf->HT->R):R:=A.k13 ls (λa1 n8 n10 a0 n14=>A.cd .lss n10 0 ( K [(.i (-1))] h) ( A.cd .lss a0 0 ( K [(.i (-1))] h) ( A.cd .geq n10 a1 ( K [(.i (-1))] h) ( A.cd .geq a0 n8 ( K [(.i (-1))] h) ( A.cd .gtr n14 3 ( K [(.i (-1))] h) ( A.ari .mul .i64 4 a1 (λn21=>A.ari .mul .i64 n21 a0 (λn22=>A.ari .mul .i64 4 n10 (λn23=>A.ari .add .i64 n22 n23 (λn24=>A.conv .i64 n14 (λa2=>A.ari .add .i64 n24 a2 (λn26=>K [(.i n26)] h))))))))))))
def f45(ls:List Lf)(h:HT)(K:List Lf->HT->R):R:=A.k14 ls (λa4 n8 n10 a0=>A.call 46 [(.i a4),(.i n8),(.i n10)] h (λa5 a6=>A.k15 a5 (λn16 n18 n20 n22 n24 n26=>A.ari .add .i64 a0 1 (λn28=>A.ari .rem .i64 n28 3 (λn29=>A.opt (inB 3 n29) (λb7=>A.opt (dF [(.i n16),(.i n18),(.i n20),(.i n22),(.i n24),(.i n26)] 0 [(n29,2)] 2) (λa7=>A.k10 a7 (λn32 n34=>A.ari .add .i64 a0 2 (λn36=>A.ari .rem .i64 n36 3 (λn37=>A.opt (inB 3 n37) (λb8=>A.opt (dF [(.i n16),(.i n18),(.i n20),(.i n22),(.i n24),(.i n26)] 0 [(n37,2)] 2) (λa8=>A.k10 a8 (λa9 n42=>A.loop (λb0 b1 a1=>A.k5 b1 (λn47 n49 n51=>A.cd .leq n47 4 ( A.call 75 [(.i n47)] a1 (λb2 a2=>A.k10 b2 (λn56 n58=>A.ari .mul .i64 n56 n32 (λn60=>A.ari .mul .i64 n58 n34 (λn61=>A.ari .add .i64 n60 n61 (λn62=>A.ari .mul .i64 n56 a9 (λn63=>A.ari .mul .i64 n58 n42 (λn64=>A.ari .add .i64 n63 n64 (λn65=>A.cmp .eql n62 n65 (λb3=>A.join (λb4 b5=>A.k10 b4 (λb6 n71=>A.ari .add .u8 n47 1 (λn73=>b0 [(.i n73),(.i b6),(.i n71)] b5))) (λa3=>A.cond b3 ( A.ari .mul .i64 n56 n32 (λn75=>A.ari .mul .i64 n58 n34 (λn76=>A.ari .add .i64 n75 n76 (λn77=>A.ari .quo .i64 n77 2 (λn78=>a3 [(.i n47),(.i n78)] a2))))) ( a3 [(.i n49),(.i n51)] a2)))))))))))) ( K [(.i n49),(.i n51)] a1))) [(.i 1),(.i 0),(.i 0)] a6)))))))))))))
def f46(ls:List Lf)(h:HT)(K:List Lf->HT->R):R:=A.k5 ls (λa2 n8 n10=>A.ari .mul .i64 2 a2 (λa0=>A.ari .mul .i64 2 n8 (λn13=>A.ari .add .i64 a0 2 (λn14=>A.ari .add .i64 a0 2 (λn15=>A.ari .add .i64 n13 2 (λn16=>A.ari .add .i64 n13 2 (λn17=>A.conv .i64 n10 (λn18=>A.conv .i64 n10 (λn19=>A.ari .add .i64 n19 1 (λn20=>A.ari .rem .i64 n20 4 (λn21=>A.ari .rem .i64 n18 2 (λn22=>A.cmp .eql n22 1 (λa3=>A.join (λa4 a5=>A.k10 a4 (λn26 n28=>A.ari .add .i64 a0 1 (λn30=>A.ari .add .i64 n13 1 (λn31=>A.opt (inB 4 n26) (λx32=>A.opt (dF [(.i a0),(.i n13),(.i n14),(.i n13),(.i n15),(.i n16),(.i a0),(.i n17)] 0 [(n26,2)] 2) (λa6=>A.k10 a6 (λn34 n36=>A.opt (inB 4 n28) (λa9=>A.opt (dF [(.i a0),(.i n13),(.i n14),(.i n13),(.i n15),(.i n16),(.i a0),(.i n17)] 0 [(n28,2)] 2) (λa7=>A.k10 a7 (λa8 n42=>K [(.i n30),(.i n31),(.i n34),(.i n36),(.i a8),(.i n42)] a5)))))))))) (λa1=>A.cond a3 ( a1 [(.i n21),(.i n18)] h) ( a1 [(.i n18),(.i n21)] h)))))))))))))))
def f47(ls:List Lf)(h:HT)(K:List Lf->HT->R):R:=A.k14 ls (λa0 n8 n10 a1=>A.call 75 [(.i a0)] h (λa2 a3=>A.k10 a2 (λn16 n18=>A.call 76 [(.i a0),(.i n8),(.i n10),(.i a1)] a3 (λa4 a5=>A.k4 a4 (λn22=>A.ari .mul .i64 2 n22 (λn24=>A.ari .mul .i64 n16 n16 (λa6=>A.ari .mul .i64 n18 n18 (λn26=>A.ari .add .i64 a6 n26 (λn27=>A.ari .quo .i64 n24 n27 (λn28=>A.ari .mul .i64 n28 n16 (λn29=>A.ari .sub .i64 n10 n29 (λn30=>A.ari .mul .i64 n28 n18 (λn31=>A.ari .sub .i64 a1 n31 (λn32=>K [(.i n30),(.i n32)] a5))))))))))))))
def f48(ls:List Lf)(h:HT)(K:List Lf->HT->R):R:=A.k15 ls (λa3 n8 n10 a4 n14 n16=>A.loop (λa8 a9 a1=>A.k4 a9 (λn21=>A.cd .lss n21 3 ( A.join (λb0 b1=>A.un0 b0 ( A.ari .add .i64 n21 1 (λn26=>a8 [(.i n26)] b1))) (λa5=>A.opt (inB 3 n21) (λx28=>A.opt (dF [(.i a3),(.i n8),(.i n10),(.i a4),(.i n14),(.i n16)] 0 [(n21,2)] 2) (λx29=>A.k10 x29 (λn30 n32=>A.ari .add .i64 n21 1 (λn34=>A.ari .rem .i64 n34 3 (λn35=>A.opt (inB 3 n35) (λd6=>A.opt (dF [(.i a3),(.i n8),(.i n10),(.i a4),(.i n14),(.i n16)] 0 [(n35,2)] 2) (λb2=>A.k10 b2 (λn38 a6=>A.ari .add .i64 n21 2 (λn42=>A.ari .rem .i64 n42 3 (λn43=>A.opt (inB 3 n43) (λd7=>A.opt (dF [(.i a3),(.i n8),(.i n10),(.i a4),(.i n14),(.i n16)] 0 [(n43,2)] 2) (λb3=>A.k10 b3 (λn46 n48=>A.ari .rem .i64 n30 2 (λn50=>A.cd .eql n50 0 ( a5 [] a1) ( A.ari .rem .i64 n32 2 (λn52=>A.cd .eql n52 0 ( a5 [] a1) ( A.loop (λa2 b4 a7=>A.k4 b4 (λn57=>A.cd .lss n57 4 ( A.ari .sub .i64 n30 1 (λn60=>A.ari .quo .i64 n60 2 (λn61=>A.ari .sub .i64 n32 1 (λn62=>A.ari .quo .i64 n62 2 (λn63=>A.call 46 [(.i n61),(.i n63),(.i n57)] a7 (λb5 a0=>A.k15 b5 (λn66 n68 n70 n72 n74 n76=>A.eqs [((.i n70),(.i n38)),((.i n72),(.i a6))] (λb6=>A.cond b6 ( A.eqs [((.i n74),(.i n46)),((.i n76),(.i n48))] (λb7=>A.cond b7 ( K [(.i n61),(.i n63),(.i n57)] a0) ( A.eqs [((.i n70),(.i n46)),((.i n72),(.i n48))] (λb8=>A.cond b8 ( A.eqs [((.i n74),(.i n38)),((.i n76),(.i a6))] (λb9=>A.join (λc0 c1=>A.un0 c0 ( A.ari .add .u8 n57 1 (λn84=>a2 [(.i n84)] c1))) (λd0=>A.cond b9 ( K [(.i n61),(.i n63),(.i n57)] a0) ( d0 [] a0)))) ( A.ari .add .u8 n57 1 (λn86=>a2 [(.i n86)] a0)))))) ( A.eqs [((.i n70),(.i n46)),((.i n72),(.i n48))] (λd1=>A.cond d1 ( A.eqs [((.i n74),(.i n38)),((.i n76),(.i a6))] (λd2=>A.join (λd3 d4=>A.un0 d3 ( A.ari .add .u8 n57 1 (λn91=>a2 [(.i n91)] d4))) (λd5=>A.cond d2 ( K [(.i n61),(.i n63),(.i n57)] a0) ( d5 [] a0)))) ( A.ari .add .u8 n57 1 (λn93=>a2 [(.i n93)] a0)))))))))))) ( a5 [] a7))) [(.i 0)] a1))))))))))))))))))) ( K [(.i 0),(.i 0),(.i 4)] a1))) [(.i 0)] h)
def f49(ls:List Lf)(h:HT)(K:List Lf->HT->R):R:=A.k6 ls (λa0=>A.call 77 [(.v a0)] h (λa3 a1=>A.k2 a3 (λa4=>A.cond a4 ( K [(.v (.slice none 0 0)),(.i 1)] a1) ( A.call 78 [(.v a0)] a1 (λa5 a6=>A.k6 a5 (λx14=>A.call 79 [(.v x14),(.v (.func (.func 80) ⟨[]⟩ ⟨[]⟩))] a6 (λa7 a8=>A.un0 a7 ( A.call 81 [(.v x14)] a8 (λa9 a2=>A.k6 a9 (λx20=>A.opt (lenS x20) (λx22=>A.cd .gtr x22 1024 ( K [(.v (.slice none 0 0)),(.i 3)] a2) ( A.call 82 [(.v x20)] a2 (λb0 b1=>A.k6 b0 (λx26=>K [(.v x26),(.i 0)] b1))))))))))))))
def f50(ls:List Lf)(h:HT)(K:List Lf->HT->R):R:=A.unI ls (λb1 b2=>A.unI b2 (λn8 b3=>A.unV b3 (λb4 b5=>A.k10 b5 (λa4 n14=>A.new (.cells [(.int .i64 b1),(.int .i64 n8),b4] 3 true) h (λa0 a5=>A.peek (.lg cc 3 (.pointer (some ⟨a0,0,none⟩))) a5 (λb6=>A.ucI .i64 b6 (λn19 b7=>A.ucI .i64 b7 (λn21 b8=>A.ucV b8 (λx23 b9=>A.chk x23 ( A.uc0 b9 ( A.call 32 [(.i n19),(.i n21),(.v x23)] a5 (λc0 a1=>A.k4 c0 (λn27=>A.cd .neq n27 0 ( K [(.v (.slice none 0 0)),(.i n27)] a1) ( A.opt (fdP 0 (.pointer (some ⟨a0,0,none⟩))) (λa6=>A.chk a6 ( A.peek (.lg cc 2 a6) a1 (λc1=>A.k12 c1 (λn32 n34=>A.call 83 [(.i n32),(.i n34),(.i a4),(.i n14)] a1 (λd0 a7=>A.k4 d0 (λn38=>A.cd .neq n38 0 ( K [(.v (.slice none 0 0)),(.i n38)] a7) ( A.new (.cells [(.slice none 0 0)] 1 true) a7 (λa2 a8=>A.opt (fdP 0 (.pointer (some ⟨a0,0,none⟩))) (λa9=>A.chk a9 ( A.peek (.lg cc 2 a9) a8 (λd1=>A.k12 d1 (λn45 n47=>A.call 84 [(.i n45),(.i n47),(.i a4),(.i n14)] a8 (λd2 d3=>A.k6 d2 (λd4=>A.rfun 800 d4 [(.pointer (some ⟨a0,0,none⟩)),(.pointer (some ⟨a2,0,none⟩))] d3 (λd5 a3=>A.pend d5 ( A.peek (.lg cc 1 (.pointer (some ⟨a2,0,none⟩))) a3 (λd6=>A.ucV d6 (λx56 d7=>A.chk x56 ( A.uc0 d7 ( A.call 86 [(.v x56),(.v (.func (.func 87) ⟨[]⟩ ⟨[]⟩))] a3 (λd8 b0=>A.un0 d8 ( A.peek (.lg cc 1 (.pointer (some ⟨a2,0,none⟩))) b0 (λd9=>A.ucV d9 (λx61 e0=>A.chk x61 ( A.uc0 e0 ( A.call 88 [(.v x61)] b0 (λe1 e2=>A.k6 e1 (λe3=>K [(.v e3),(.i 0)] e2))))))))))))) ( K [(.v (.slice none 0 0)),(.i 0)] a3) [])))))))))))))))))))))))))))))
def f51(ls:List Lf)(h:HT)(K:List Lf->HT->R):R:=A.unV ls (λa0 a3=>A.k10 a3 (λn8 n10=>A.call 89 [(.i n8),(.i n10)] h (λa4 a1=>A.k14 a4 (λn14 n16 n18 n20=>A.opt (nilP a0) (λx22=>A.chk x22 ( A.opt (fdP 0 x22) (λx23=>A.chk x23 ( A.peek (.lg cc 3 x23) a1 (λa5=>A.k11 a5 (λa6 n27 n29=>A.call 73 [(.i a6),(.i n27),(.i n29),(.i n14),(.i n16),(.i n18)] a1 (λa7 a8=>A.k14 a7 (λn33 n35 n37 b0=>A.opt (nilP a0) (λa2=>A.chk a2 ( A.opt (fdP 0 a2) (λx42=>A.chk x42 ( A.heap (.st x42 [(.int .u8 n33),(.int .i64 n35),(.int .i64 n37)]) a8 (λb1 a9=>K [] a9)))))))))))))))))
def f52(ls:List Lf)(h:HT)(K:List Lf->HT->R):R:=A.k5 ls (λa0 n8 n10=>A.cd .lss a0 1 ( K [(.i 0),(.i 0),(.i 1)] h) ( A.cd .gtr a0 4 ( K [(.i 0),(.i 0),(.i 1)] h) ( A.call 90 [(.i n8),(.i n10)] h (λa4 a1=>A.k4 a4 (λn16=>A.cd .neq n16 0 ( K [(.i 0),(.i 0),(.i 1)] a1) ( A.call 91 [(.i a0),(.i n8),(.i n10)] a1 (λa5 a2=>A.k4 a5 (λn21=>A.ari .quo .i64 n21 2 (λn23=>A.ari .rem .i64 n21 2 (λn24=>A.cd .neq n24 0 ( K [(.i 0),(.i 0),(.i 7)] a2) ( A.call 92 [(.i a0),(.i n23)] a2 (λa6 a3=>A.k4 a6 (λn28=>A.cd .neq n28 0 ( K [(.i 0),(.i 0),(.i 3)] a3) ( K [(.i a0),(.i n23),(.i 0)] a3))))))))))))))
def f53(ls:List Lf)(h:HT)(K:List Lf->HT->R):R:=A.k5 ls (λa0 n8 n10=>A.cd .gtr a0 7 ( K [(.i 0)] h) ( A.cd .lss n8 (-16384) ( K [(.i 0)] h) ( A.cd .gtr n8 16384 ( K [(.i 0)] h) ( A.cd .lss n10 (-16384) ( K [(.i 0)] h) ( A.cd .gtr n10 16384 ( K [(.i 0)] h) ( A.ari .sub .i64 n8 n10 (λn17=>A.ari .rem .i64 n17 2 (λn18=>A.cd .neq n18 0 ( K [(.i 0)] h) ( K [(.i 1)] h)))))))))
def f54(ls:List Lf)(h:HT)(K:List Lf->HT->R):R:=A.k5 ls (λa0 n8 n10=>A.cd .lss a0 (-4096) ( K [(.i 0)] h) ( A.cd .gtr a0 4096 ( K [(.i 0)] h) ( A.cd .lss n8 (-4096) ( K [(.i 0)] h) ( A.cd .gtr n8 4096 ( K [(.i 0)] h) ( A.cd .gtr n10 3 ( K [(.i 0)] h) ( K [(.i 1)] h))))))
def f55(ls:List Lf)(h:HT)(K:List Lf->HT->R):R:=A.k15 ls (λa3 n8 n10 a4 n14 n16=>A.call 46 [(.i a4),(.i n14),(.i n16)] h (λa5 a6=>A.k15 a5 (λn20 n22 n24 n26 n28 n30=>A.loop (λa7 a8 a2=>A.unI a8 (λn35 a9=>A.k15 a9 (λn37 a0 a1 n43 n45 n47=>A.cd .lss n35 3 ( A.opt (inB 3 n35) (λx50=>A.opt (dF [(.i n37),(.i a0),(.i a1),(.i n43),(.i n45),(.i n47)] 0 [(n35,2)] 2) (λb0=>A.k10 b0 (λn52 n54=>A.call 93 [(.i a3),(.i n8),(.i n10),(.i n52),(.i n54)] a2 (λb1 b2=>A.k10 b1 (λn58 n60=>A.opt (inB 3 n35) (λb7=>A.opt (putL [(.i n37),(.i a0),(.i a1),(.i n43),(.i n45),(.i n47)] 0 [(n35,2)] [(.i n58),(.i n60)]) (λb3=>A.k15 b3 (λn64 n66 n68 n70 n72 n74=>A.ari .add .i64 n35 1 (λn76=>a7 [(.i n76),(.i n64),(.i n66),(.i n68),(.i n70),(.i n72),(.i n74)] b2)))))))))) ( A.call 48 [(.i n37),(.i a0),(.i a1),(.i n43),(.i n45),(.i n47)] a2 (λb4 b5=>A.k5 b4 (λb6 n81 n83=>K [(.i b6),(.i n81),(.i n83)] b5)))))) [(.i 0),(.i n20),(.i n22),(.i n24),(.i n26),(.i n28),(.i n30)] a6)))
def f56(ls:List Lf)(h:HT)(K:List Lf->HT->R):R:=A.unV ls (λa1 a2=>A.k6 a2 (λx8=>A.opt (lenS a1) (λa3=>A.opt (lenS x8) (λa4=>A.cd .neq a3 a4 ( K [(.b false)] h) ( A.opt (lenS a1) (λx13=>A.loop (λa5 a6 a0=>A.k4 a6 (λn17=>A.cd .lss n17 x13 ( A.ix 3 a1 n17 3 a0 (λa7=>A.k9 a7 (λn22 n24 n26=>A.ix 3 x8 n17 3 a0 (λa8=>A.k9 a8 (λn30 n32 n34=>A.eqs [((.i n22),(.i n30)),((.i n24),(.i n32)),((.i n26),(.i n34))] (λa9=>A.cond (!a9) ( K [(.b false)] a0) ( A.ari .add .i64 n17 1 (λn37=>a5 [(.i n37)] a0)))))))) ( K [(.b true)] a0))) [(.i 0)] h))))))
def f57(ls:List Lf)(h:HT)(K:List Lf->HT->R):R:=A.unV ls (λa0 b2=>A.k5 b2 (λn8 n10 a2=>A.call 94 [(.v a0),(.i n8),(.i n10),(.i a2)] h (λb3 a3=>A.k4 b3 (λn16=>A.cd .eql n16 1 ( K [(.v a0)] a3) ( A.loop (λa4 b4 a1=>A.unV b4 (λx22 b5=>A.k10 b5 (λn24 n26=>A.opt (lenS a0) (λx28=>A.cd .lss n26 x28 ( A.cd .eql n24 0 ( A.ix 3 a0 n26 3 a1 (λb6=>A.k9 b6 (λn33 n35 n37=>A.call 95 [(.i n8),(.i n10),(.i a2),(.i n33),(.i n35),(.i n37)] a1 (λb7 a5=>A.k4 b7 (λb8=>A.cmp .eql b8 1 (λb9=>A.join (λc0 a6=>A.k3 c0 (λc1 n48=>A.ix 3 a0 n26 3 a6 (λd0=>A.k9 d0 (λn52 n54 n56=>A.new (.cells [(.int .i64 n52),(.int .i64 n54),(.int .u8 n56)] 3 true) a6 (λd1 d2=>A.heap (.ap cc 3 24 c1 (.slice (some ⟨d1,0,(some 13)⟩) 1 2)) d2 (λd3 d4=>A.ucV d3 (λa7 d5=>A.chk a7 ( A.uc0 d5 ( A.ari .add .i64 n26 1 (λn64=>a4 [(.v a7),(.i n48),(.i n64)] d4)))))))))) (λa8=>A.cond b9 ( A.new (.cells [(.int .i64 n8),(.int .i64 n10),(.int .u8 a2)] 3 true) a5 (λd6 d7=>A.heap (.ap cc 3 24 x22 (.slice (some ⟨d6,0,(some 13)⟩) 1 2)) d7 (λd8 d9=>A.ucV d8 (λa9 e0=>A.chk a9 ( A.uc0 e0 ( a8 [(.v a9),(.i 1)] d9)))))) ( a8 [(.v x22),(.i n24)] a5)))))))) ( A.ix 3 a0 n26 3 a1 (λe1=>A.k9 e1 (λn74 n76 n78=>A.new (.cells [(.int .i64 n74),(.int .i64 n76),(.int .u8 n78)] 3 true) a1 (λe2 e3=>A.heap (.ap cc 3 24 x22 (.slice (some ⟨e2,0,(some 13)⟩) 1 2)) e3 (λe4 e6=>A.ucV e4 (λb0 f0=>A.chk b0 ( A.uc0 f0 ( A.ari .add .i64 n26 1 (λn86=>a4 [(.v b0),(.i n24),(.i n86)] e6)))))))))) ( A.cmp .eql n24 0 (λf1=>A.join (λf2 f3=>A.k6 f2 (λf4=>K [(.v f4)] f3)) (λb1=>A.cond f1 ( A.new (.cells [(.int .i64 n8),(.int .i64 n10),(.int .u8 a2)] 3 true) a1 (λf6 gl=>A.heap (.ap cc 3 24 x22 (.slice (some ⟨f6,0,(some 13)⟩) 1 2)) gl (λg0 g1=>A.ucV g0 (λx97 g2=>A.chk x97 ( A.uc0 g2 ( b1 [(.v x97)] g1)))))) ( b1 [(.v x22)] a1)))))))) [(.v (.slice none 0 0)),(.i 0),(.i 0)] a3)))))
def f58(ls:List Lf)(h:HT)(K:List Lf->HT->R):R:=A.k15 ls (λa0 n8 n10 a1 n14 n16=>A.call 93 [(.i a0),(.i n8),(.i n10),(.i 0),(.i 0)] h (λa2 a3=>A.k10 a2 (λn20 n22=>A.call 93 [(.i a1),(.i n14),(.i n16),(.i n20),(.i n22)] a3 (λa4 a5=>A.k10 a4 (λn26 n28=>A.call 93 [(.i a0),(.i n8),(.i n10),(.i 2),(.i 0)] a5 (λa6 a7=>A.k10 a6 (λn32 n34=>A.call 93 [(.i a1),(.i n14),(.i n16),(.i n32),(.i n34)] a7 (λa8 a9=>A.k10 a8 (λn38 b0=>A.call 93 [(.i a0),(.i n8),(.i n10),(.i 0),(.i 2)] a9 (λb1 b2=>A.k10 b1 (λn44 n46=>A.call 93 [(.i a1),(.i n14),(.i n16),(.i n44),(.i n46)] b2 (λb3 b4=>A.k10 b3 (λn50 n52=>A.call 96 [(.i n26),(.i n28),(.i n38),(.i b0),(.i n50),(.i n52)] b4 (λb5 b6=>A.k5 b5 (λn56 n58 n60=>K [(.i n56),(.i n58),(.i n60)] b6)))))))))))))))
def f59(ls:List Lf)(h:HT)(K:List Lf->HT->R):R:=A.k10 ls (λa0 n8=>A.call 47 [(.i a0),(.i n8),(.i 0),(.i 0)] h (λa1 a2=>A.k10 a1 (λa3 n14=>A.call 47 [(.i a0),(.i n8),(.i 2),(.i 0)] a2 (λa4 a5=>A.k10 a4 (λn18 n20=>A.call 47 [(.i a0),(.i n8),(.i 0),(.i 2)] a5 (λa6 a7=>A.k10 a6 (λn24 n26=>A.call 96 [(.i a3),(.i n14),(.i n18),(.i n20),(.i n24),(.i n26)] a7 (λa8 a9=>A.k5 a8 (λn30 n32 n34=>K [(.i n30),(.i n32),(.i n34)] a9)))))))))
def f60(ls:List Lf)(h:HT)(K:List Lf->HT->R):R:=A.k10 ls (λa0 n8=>A.cd .lss a0 1 ( K [(.i 1)] h) ( A.cd .lss n8 1 ( K [(.i 1)] h) ( A.cd .gtr a0 256 ( K [(.i 1)] h) ( A.cd .gtr n8 256 ( K [(.i 1)] h) ( A.ari .mul .i64 a0 n8 (λn14=>A.cd .gtr n14 256 ( K [(.i 1)] h) ( K [(.i 0)] h)))))))
def f61(ls:List Lf)(h:HT)(K:List Lf->HT->R):R:=A.unV ls (λa0 a1=>A.k6 a1 (λx8=>A.call 97 [(.v a0),(.v x8)] h (λa2 a3=>A.k4 a2 (λa4=>A.cmp .geq a4 0 (λa5=>K [(.b a5)] a3)))))
def f62(ls:List Lf)(h:HT)(K:List Lf->HT->R):R:=A.k5 ls (λa3 n8 n10=>A.call 63 [(.i n10)] h (λa0 a1=>A.k2 a0 (λa2=>K [(.b (!a2))] a1)))
def f63(ls:List Lf)(h:HT)(K:List Lf->HT->R):R:=A.k4 ls (λa0=>A.join (λa2 a3=>A.k2 a2 (λa4=>K [(.b a4)] a3)) (λa1=>A.cd .geq a0 1 ( A.cmp .leq a0 3 (λa5=>a1 [(.b a5)] h)) ( a1 [(.b false)] h)))
def f64(ls:List Lf)(h:HT)(K:List Lf->HT->R):R:=A.k14 ls (λa2 n8 n10 a0=>A.call 98 [(.i a2),(.i n8),(.i n10),(.i a0)] h (λa3 a1=>A.k10 a3 (λn16 n18=>A.cd .neq n18 0 ( K [(.i 0),(.i 0),(.i n18)] a1) ( A.cmp .lss n16 n10 (λa4=>A.sel a4 n16 n10 (λn22=>K [(.i n22),(.i a0),(.i 0)] a1))))))
def f65(ls:List Lf)(h:HT)(K:List Lf->HT->R):R:=A.k5 ls (λa0 n8 n10=>K [(.i a0),(.i n8)] h)
def f66(ls:List Lf)(h:HT)(K:List Lf->HT->R):R:=A.k14 ls (λa0 n8 n10 a1=>A.cd .neq a0 n10 ( A.ari .sub .i64 a0 n10 (λn15=>K [(.i n15)] h)) ( A.conv .i64 n8 (λn16=>A.conv .i64 a1 (λn17=>A.ari .sub .i64 n16 n17 (λn18=>K [(.i n18)] h)))))
def f67(ls:List Lf)(h:HT)(K:List Lf->HT->R):R:=A.k10 ls (λa1 n8=>A.call 60 [(.i a1),(.i n8)] h (λa8 a2=>A.k4 a8 (λa3=>A.cd .neq a3 0 ( K [(.v (.slice none 0 0)),(.i a3)] a2) ( A.loop (λa9 b0 a4=>A.k3 b0 (λa5 n20=>A.ari .mul .i64 2 n8 (λn22=>A.cd .lss n20 n22 ( A.loop (λb1 b2 a0=>A.k3 b2 (λx27 n29=>A.ari .mul .i64 2 a1 (λn31=>A.cd .lss n29 n31 ( A.ari .rem .i64 n29 2 (λn33=>A.ari .rem .i64 n20 2 (λn34=>A.cmp .eql n33 n34 (λb3=>A.join (λb4 b5=>A.k6 b4 (λb6=>A.ari .add .i64 n29 1 (λb7=>b1 [(.v b6),(.i b7)] b5))) (λa6=>A.cond b3 ( A.new (.cells [(.int .i64 n29),(.int .i64 n20)] 2 true) a0 (λb8 b9=>A.heap (.ap cc 2 16 x27 (.slice (some ⟨b8,0,(some 12)⟩) 1 2)) b9 (λc0 c1=>A.ucV c0 (λa7 d0=>A.chk a7 ( A.uc0 d0 ( a6 [(.v a7)] c1)))))) ( a6 [(.v x27)] a0)))))) ( A.ari .add .i64 n20 1 (λn48=>a9 [(.v x27),(.i n48)] a0))))) [(.v a5),(.i 1)] a4) ( A.call 99 [(.v a5)] a4 (λd1 d2=>A.k6 d1 (λd3=>K [(.v d3),(.i 0)] d2)))))) [(.v (.slice none 0 0)),(.i 1)] a2))))
def f68(ls:List Lf)(h:HT)(K:List Lf->HT->R):R:=A.k1 ls (λa1 n8 a3=>A.call 60 [(.i a1),(.i n8)] h (λb0 a4=>A.k4 b0 (λn14=>A.cd .neq n14 0 ( A.opt (chk2 (.slice none 0 0)) (λf1=>K [(.i 0),(.i 0),(.v (.slice none 0 0)),(.i 0),(.i n14)] a4)) ( A.call 100 [(.i a1),(.i n8)] a4 (λb1 b2=>A.k6 b1 (λx20=>A.new (.map [] 0) b2 (λa5 b3=>A.opt (lenS a3) (λx24=>A.loop (λb4 b5 a2=>A.k3 b5 (λx28 n30=>A.cd .lss n30 x24 ( A.ix 5 a3 n30 5 a2 (λb6=>A.ucI .u8 b6 (λn35 b7=>A.ucI .u8 b7 (λn37 b8=>A.ucI .i64 b8 (λb9 c0=>A.k12 c0 (λc1 n43=>A.call 101 [(.v x20),(.i n35),(.i n37),(.i b9),(.i c1),(.i n43)] a2 (λd0 a6=>A.k3 d0 (λa7 n49=>A.cd .neq n49 0 ( A.opt (chk2 (.slice none 0 0)) (λf2=>K [(.i 0),(.i 0),(.v (.slice none 0 0)),(.i n30),(.i n49)] a6)) ( A.opt (lenS a7) (λd1=>A.loop (λd2 d3 a0=>A.k3 d3 (λx57 n59=>A.cd .lss n59 d1 ( A.ix 2 a7 n59 2 a0 (λd4=>A.k16 d4 (λn64 n66=>A.peek (.fn (luG cc 62 false (.int .u8 0) (.map (some a5)) (.agg ⟨[(.int .i64 n64),(.int .u8 n66)]⟩) false)) a0 (λd5=>A.k8 d5 (λd6=>A.cd .neq d6 0 ( A.opt (chk2 (.slice none 0 0)) (λf3=>K [(.i 0),(.i 0),(.v (.slice none 0 0)),(.i n30),(.i 8)] a0)) ( A.heap (.fn (muG cc 62 (.map (some a5)) (.agg ⟨[(.int .i64 n64),(.int .u8 n66)]⟩) (.int .u8 n35))) a0 (λf4 d7=>A.new (.cells [(.int .i64 n64),(.int .u8 n66),(.int .u8 n35)] 3 true) d7 (λd8 d9=>A.heap (.ap cc 3 16 x57 (.slice (some ⟨d8,0,(some 13)⟩) 1 2)) d9 (λe0 e1=>A.ucV e0 (λa8 e2=>A.chk a8 ( A.uc0 e2 ( A.ari .add .i64 n59 1 (λn81=>d2 [(.v a8),(.i n81)] e1))))))))))))) ( A.ari .add .i64 n30 1 (λn82=>b4 [(.v x57),(.i n82)] a0)))) [(.v x28),(.i 0)] a6)))))))))) ( A.call 102 [(.v x28),(.v (.func (.func 103) ⟨[]⟩ ⟨[]⟩))] a2 (λe3 e4=>A.un0 e3 ( A.call 105 [(.v x28)] e4 (λe6 f0=>A.k6 e6 (λa9=>A.opt (chk2 a9) (λf6=>K [(.i a1),(.i n8),(.v a9),(.i 0),(.i 0)] f0)))))))) [(.v (.slice none 0 0)),(.i 0)] b3))))))))
def f70(ls:List Lf)(h:HT)(K:List Lf->HT->R):R:=A.k5 ls (λa2 n8 n10=>A.conv .i64 a2 (λa3=>A.cd .geq a3 8 ( K [(.i 1)] h) ( A.call 106 [(.i n8)] h (λa4 a1=>A.k2 a4 (λa5=>A.cond a5 ( K [(.i 1)] a1) ( A.call 106 [(.i n10)] a1 (λa6 a0=>A.k2 a6 (λa7=>A.cond a7 ( K [(.i 1)] a0) ( A.ari .add .i64 n8 n10 (λn22=>A.ari .rem .i64 n22 2 (λn23=>A.cd .neq n23 0 ( K [(.i 1)] a0) ( K [(.i 0)] a0))))))))))))
def f71(ls:List Lf)(h:HT)(K:List Lf->HT->R):R:=A.k1 ls (λd0 n8 d1=>A.new (.cells [(.int .i64 d0),(.int .i64 n8),d1] 3 true) h (λa1 a9=>A.peek (.lg cc 3 (.pointer (some ⟨a1,0,none⟩))) a9 (λd2=>A.ucI .i64 d2 (λn15 d3=>A.ucI .i64 d3 (λn17 d4=>A.ucV d4 (λb0 d5=>A.chk b0 ( A.uc0 d5 ( A.call 107 [(.i n15),(.i n17),(.v b0)] a9 (λd6 d7=>A.k6 d6 (λx23=>A.new (.cells [(.map none)] 1 true) d7 (λa6 d8=>A.heap (.st (.pointer (some ⟨a6,0,none⟩)) [x23]) d8 (λj9 b1=>A.opt (fdP 0 (.pointer (some ⟨a1,0,none⟩))) (λx29=>A.chk x29 ( A.peek (.lg cc 2 x29) b1 (λd9=>A.k12 d9 (λn31 n33=>A.call 108 [(.i n31),(.i n33)] b1 (λe0 e1=>A.k4 e0 (λn37=>A.opt (mkOk n37 n37) (λl0=>A.new (.cells (aJ [(.int .u8 0),(.int .i64 0),(.int .i64 0)] (Int.toNat n37)) 3 true) e1 (λe2 e3=>A.new (.cells [(.slice none 0 0)] 1 true) e3 (λa0 e4=>A.heap (.st (.pointer (some ⟨a0,0,none⟩)) [(.slice (some ⟨e2,0,(some 13)⟩) (Int.toNat n37) ((Int.toNat n37)+1))]) e4 (λl1 b2=>A.peek (.lg cc 1 (.pointer (some ⟨a0,0,none⟩))) b2 (λe6=>A.ucV e6 (λb3 f0=>A.chk b3 ( A.uc0 f0 ( A.opt (lenS b3) (λx49=>A.opt (mkOk x49 x49) (λx50=>A.new (.cells (aJ [(.bool false)] (Int.toNat x49)) 1 true) b2 (λa7 f1=>A.chk (.func (.func 109) ⟨[]⟩ ⟨[(.pointer (some ⟨a1,0,none⟩)),(.pointer (some ⟨a6,0,none⟩)),(.pointer (some ⟨a0,0,none⟩))]⟩) ( A.opt (idS 1 (.slice (some ⟨a7,0,(some 11)⟩) (Int.toNat x49) ((Int.toNat x49)+1)) 0) (λf2=>A.heap (.st f2 [(.bool true)]) f1 (λl2 f3=>A.new (.cells [(.int .i64 0)] 1 true) f3 (λf4 f6=>A.loop (λgl g0 a2=>A.k6 g0 (λx61=>A.opt (lenS x61) (λg1=>A.cd .gtr g1 0 ( A.opt (idS 1 x61 0) (λg2=>A.peek (.lg cc 1 g2) a2 (λg3=>A.k7 g3 (λn67=>A.opt (slS 1 x61 (some 1) none none) (λb4=>A.chk b4 ( A.loop (λg4 g5 a8=>A.k3 g5 (λa3 n75=>A.cd .lss n75 3 ( A.join (λg6 g7=>A.k6 g6 (λg8=>A.ari .add .u8 n75 1 (λn82=>g4 [(.v g8),(.i n82)] g7))) (λb5=>A.opt (fdP 0 (.pointer (some ⟨a1,0,none⟩))) (λb6=>A.chk b6 ( A.peek (.lg cc 2 b6) a8 (λg9=>A.k12 g9 (λn86 n88=>A.call 98 [(.i n86),(.i n88),(.i n67),(.i n75)] a8 (λh0 b7=>A.k10 h0 (λn92 n94=>A.cd .neq n94 0 ( b5 [(.v a3)] b7) ( A.callv (.func (.func 109) ⟨[]⟩ ⟨[(.pointer (some ⟨a1,0,none⟩)),(.pointer (some ⟨a6,0,none⟩)),(.pointer (some ⟨a0,0,none⟩))]⟩) [(.int .i64 n67),(.int .u8 n75)] [(.agg [(.i .u8),(.i .i64),(.i .i64)])] b7 (λh1 a4=>A.k5 h1 (λn99 n101 n103=>A.opt (idS 1 (.slice (some ⟨a7,0,(some 11)⟩) (Int.toNat x49) ((Int.toNat x49)+1)) n92) (λh2=>A.peek (.lg cc 1 h2) a4 (λh3=>A.ucB h3 (λh4 h5=>A.uc0 h5 ( A.join (λh6 a5=>A.k6 h6 (λh7=>A.peek (.lg cc 1 (.pointer (some ⟨a0,0,none⟩))) a5 (λh8=>A.ucV h8 (λb8 h9=>A.chk b8 ( A.uc0 h9 ( A.ix 3 b8 n92 3 a5 (λi0=>A.k11 i0 (λn118 n120 n122=>A.eqs [((.i n118),(.i n99)),((.i n120),(.i n101)),((.i n122),(.i n103))] (λi1=>A.cond (!i1) ( K [(.v (.slice none 0 0)),(.i 11)] a5) ( b5 [(.v h7)] a5)))))))))) (λb9=>A.cond (!h4) ( A.peek (.lg cc 1 (.pointer (some ⟨a0,0,none⟩))) a4 (λi2=>A.ucV i2 (λc0 i3=>A.chk c0 ( A.uc0 i3 ( A.opt (idS 3 c0 n92) (λi4=>A.heap (.st i4 [(.int .u8 n99),(.int .i64 n101),(.int .i64 n103)]) a4 (λl3 i6=>A.opt (idS 1 (.slice (some ⟨a7,0,(some 11)⟩) (Int.toNat x49) ((Int.toNat x49)+1)) n92) (λj0=>A.heap (.st j0 [(.bool true)]) i6 (λl4 j1=>A.new (.cells [(.int .i64 n92)] 1 true) j1 (λj2 j3=>A.heap (.ap cc 1 8 a3 (.slice (some ⟨j2,0,(some 11)⟩) 1 2)) j3 (λj4 j5=>A.ucV j4 (λc1 j6=>A.chk c1 ( A.uc0 j6 ( b9 [(.v c1)] j5)))))))))))))) ( b9 [(.v a3)] a4))))))))))))))))) ( gl [(.v a3)] a8))) [(.v b4),(.i 0)] a2)))))) ( A.peek (.lg cc 1 (.pointer (some ⟨a0,0,none⟩))) a2 (λj7=>A.ucV j7 (λx142 j8=>A.chk x142 ( A.uc0 j8 ( K [(.v x142),(.i 0)] a2)))))))) [(.v (.slice (some ⟨f4,0,(some 11)⟩) 1 2))] f6)))))))))))))))))))))))))))))))))
def f72(ls:List Lf)(h:HT)(K:List Lf->HT->R):R:=A.k5 ls (λa0 n8 n10=>A.call 60 [(.i a0),(.i n8)] h (λa3 a1=>A.k4 a3 (λn14=>A.cd .neq n14 0 ( K [(.i 0),(.i 0),(.i 0),(.i n14)] a1) ( A.call 111 [(.i a0),(.i n8),(.i n10)] a1 (λa4 a2=>A.k2 a4 (λa5=>A.cond (!a5) ( K [(.i 0),(.i 0),(.i 0),(.i 7)] a2) ( A.call 112 [(.i a0),(.i n8),(.i n10)] a2 (λa6 a7=>A.k5 a6 (λn23 a8 n27=>K [(.i n23),(.i a8),(.i n27),(.i 0)] a7)))))))))
def f73(ls:List Lf)(h:HT)(K:List Lf->HT->R):R:=A.k15 ls (λa1 n8 n10 a0 n14 n16=>A.call 70 [(.i a1),(.i n8),(.i n10)] h (λa4 a2=>A.k4 a4 (λn20=>A.cd .neq n20 0 ( K [(.i 0),(.i 0),(.i 0),(.i 1)] a2) ( A.call 70 [(.i a0),(.i n14),(.i n16)] a2 (λa5 a3=>A.k4 a5 (λa6=>A.cd .neq a6 0 ( K [(.i 0),(.i 0),(.i 0),(.i 1)] a3) ( A.opt (inB 8 a0) (λx28=>A.opt (kM gl0 0 [(a0,4)] 4) (λx29=>A.ucI .i64 x29 (λn30 a7=>A.ucI .i64 a7 (λn32 a8=>A.k12 a8 (λn34 n36=>A.call 113 [(.i n30),(.i n32),(.i n34),(.i n36),(.i n8),(.i n10)] a3 (λa9 b0=>A.k10 a9 (λb1 n42=>A.opt (inB 8 a1) (λd3=>A.opt (kM gl0 0 [(a1,4)] 4) (λb2=>A.ucI .i64 b2 (λn46 b3=>A.ucI .i64 b3 (λn48 b4=>A.k12 b4 (λn50 n52=>A.opt (inB 8 a0) (λd4=>A.opt (kM gl0 0 [(a0,4)] 4) (λb5=>A.ucI .i64 b5 (λn56 b6=>A.ucI .i64 b6 (λn58 b7=>A.k12 b7 (λn60 n62=>A.call 116 [(.i n46),(.i n48),(.i n50),(.i n52),(.i n56),(.i n58),(.i n60),(.i n62)] b0 (λb8 b9=>A.k14 b8 (λn66 n68 n70 n72=>A.call 115 [(.i n66),(.i n68),(.i n70),(.i n72)] b9 (λc0 c1=>A.k4 c0 (λn76=>A.ari .add .i64 b1 n14 (λn78=>A.ari .add .i64 n42 n16 (λd0=>A.call 114 [(.i n76),(.i n78),(.i d0)] c1 (λd1 d2=>A.k14 d1 (λn82 n84 n86 n88=>K [(.i n82),(.i n84),(.i n86),(.i n88)] d2))))))))))))))))))))))))))))))))
def f74(ls:List Lf)(h:HT)(K:List Lf->HT->R):R:=A.k15 ls (λa0 n8 n10 a1 n14 n16=>A.call 70 [(.i a0),(.i n8),(.i n10)] h (λa5 a2=>A.k4 a5 (λn20=>A.cd .neq n20 0 ( K [(.i 0),(.i 0),(.i 0),(.i 1)] a2) ( A.call 117 [(.i a1),(.i n14),(.i n16)] a2 (λa6 a3=>A.k4 a6 (λa7=>A.cd .neq a7 0 ( K [(.i 0),(.i 0),(.i 0),(.i 1)] a3) ( A.call 118 [(.i a0),(.i n8),(.i n10),(.i a1),(.i n14),(.i n16)] a3 (λa8 a9=>A.k5 a8 (λn30 n32 n34=>A.call 117 [(.i n30),(.i n32),(.i n34)] a9 (λb0 a4=>A.k4 b0 (λn38=>A.cd .neq n38 0 ( K [(.i 0),(.i 0),(.i 0),(.i 3)] a4) ( K [(.i n30),(.i n32),(.i n34),(.i 0)] a4))))))))))))
def f75(ls:List Lf)(h:HT)(K:List Lf->HT->R):R:=A.k4 ls (λa0=>A.cd .eql a0 1 ( K [(.i 1),(.i 0)] h) ( A.cd .eql a0 2 ( K [(.i 0),(.i 1)] h) ( A.cd .eql a0 3 ( K [(.i 1),(.i 1)] h) ( K [(.i (-1)),(.i 1)] h))))
def f76(ls:List Lf)(h:HT)(K:List Lf->HT->R):R:=A.k14 ls (λa0 n8 n10 a1=>A.call 75 [(.i a0)] h (λa2 a3=>A.k10 a2 (λn16 n18=>A.ari .mul .i64 n16 n10 (λn20=>A.ari .mul .i64 n18 a1 (λn21=>A.ari .add .i64 n20 n21 (λn22=>A.ari .mul .i64 2 n8 (λn23=>A.ari .sub .i64 n22 n23 (λn24=>K [(.i n24)] a3))))))))
def f77(ls:List Lf)(h:HT)(K:List Lf->HT->R):R:=A.k6 ls (λa0=>A.call 119 [(.v a0),(.v (.func (.func 120) ⟨[]⟩ ⟨[]⟩))] h (λa1 a2=>A.k2 a1 (λa3=>K [(.b a3)] a2)))
def f78(ls:List Lf)(h:HT)(K:List Lf->HT->R):R:=A.k6 ls (λa0=>A.opt (sd 1 a0 (.slice none 0 0)) (λx8=>A.cond x8 ( K [(.v (.slice none 0 0))] h) ( A.new (.cells [] 3 true) h (λa1 a2=>A.heap (.ap cc 3 24 (.slice (some ⟨a1,0,(some 13)⟩) 0 1) a0) a2 (λa3 a4=>A.ucV a3 (λx13 a5=>A.chk x13 ( A.uc0 a5 ( K [(.v x13)] a4))))))))
def f80(ls:List Lf)(h:HT)(K:List Lf->HT->R):R:=A.k15 ls (λa0 n8 n10 a1 n14 n16=>A.conv .i64 n10 (λn18=>A.conv .i64 n16 (λn19=>A.new (.cells [(.int .i64 n8),(.int .i64 n14),(.int .i64 a0),(.int .i64 a1),(.int .i64 n18),(.int .i64 n19)] 2 true) h (λa2 a3=>A.call 123 [(.v (.slice (some ⟨a2,0,(some 12)⟩) 3 4))] a3 (λa4 a5=>A.k4 a4 (λn24=>K [(.i n24)] a5))))))
def f81(ls:List Lf)(h:HT)(K:List Lf->HT->R):R:=A.k6 ls (λa0=>A.opt (lenS a0) (λx8=>A.cd .lss x8 2 ( K [(.v a0)] h) ( A.loop (λa8 a9 a2=>A.k4 a9 (λn13=>A.opt (lenS a0) (λb0=>A.cd .lss n13 b0 ( A.ix 3 a0 n13 3 a2 (λb1=>A.k9 b1 (λn19 n21 n23=>A.ari .sub .i64 n13 1 (λb2=>A.ix 3 a0 b2 3 a2 (λb3=>A.k9 b3 (λn28 n30 n32=>A.eqs [((.i n19),(.i n28)),((.i n21),(.i n30)),((.i n23),(.i n32))] (λb4=>A.cond b4 ( A.opt (slS 3 a0 (some n13) none none) (λa3=>A.chk a3 ( A.loop (λb5 b6 a1=>A.k10 b6 (λa4 a5=>A.opt (lenS a3) (λb7=>A.cd .lss a5 b7 ( A.ix 3 a3 a5 3 a1 (λb8=>A.k9 b8 (λn47 n49 n51=>A.ari .sub .i64 a5 1 (λn53=>A.ix 3 a3 n53 3 a1 (λb9=>A.k9 b9 (λn56 n58 n60=>A.eqs [((.i n47),(.i n56)),((.i n49),(.i n58)),((.i n51),(.i n60))] (λc0=>A.join (λc1 d0=>A.k4 c1 (λn65=>A.ari .add .i64 a5 1 (λn67=>b5 [(.i n65),(.i n67)] d0))) (λa6=>A.cond (!c0) ( A.ix 3 a3 a5 3 a1 (λd1=>A.k9 d1 (λn71 n73 n75=>A.opt (idS 3 a0 a4) (λx77=>A.heap (.st x77 [(.int .i64 n71),(.int .i64 n73),(.int .u8 n75)]) a1 (λd4 d2=>A.ari .add .i64 a4 1 (λn80=>a6 [(.i n80)] d2)))))) ( a6 [(.i a4)] a1))))))))) ( A.opt (slS 3 a0 (some a4) none none) (λx81=>A.chk x81 ( A.heap (.fn (clG 3 [(.int .i64 0),(.int .i64 0),(.int .u8 0)] x81)) a1 (λd5 d3=>A.opt (slS 3 a0 none (some a4) none) (λa7=>A.chk a7 ( K [(.v a7)] d3))))))))) [(.i n13),(.i 1)] a2))) ( A.ari .add .i64 n13 1 (λn85=>a8 [(.i n85)] a2))))))))) ( K [(.v a0)] a2)))) [(.i 1)] h)))
def f82(ls:List Lf)(h:HT)(K:List Lf->HT->R):R:=A.k6 ls (λa0=>A.opt (lenS a0) (λx8=>A.opt (lenS a0) (λx9=>A.opt (slS 3 a0 none (some x8) (some x9)) (λa1=>A.chk a1 ( K [(.v a1)] h)))))
def f83(ls:List Lf)(h:HT)(K:List Lf->HT->R):R:=A.k14 ls (λa2 n8 n10 a1=>A.call 60 [(.i a2),(.i n8)] h (λa3 a0=>A.k4 a3 (λn16=>A.cd .neq n16 0 ( K [(.i n16)] a0) ( A.cd .leq n10 0 ( K [(.i 7)] a0) ( A.cd .leq a1 0 ( K [(.i 7)] a0) ( A.ari .mul .i64 2 a2 (λn21=>A.cd .geq n10 n21 ( K [(.i 7)] a0) ( A.ari .mul .i64 2 n8 (λn23=>A.cd .geq a1 n23 ( K [(.i 7)] a0) ( A.ari .rem .i64 n10 2 (λa4=>A.ari .rem .i64 a1 2 (λn26=>A.cd .neq a4 n26 ( K [(.i 7)] a0) ( K [(.i 0)] a0)))))))))))))
def f84(ls:List Lf)(h:HT)(K:List Lf->HT->R):R:=A.k14 ls (λa2 n8 n10 a3=>A.new (.cells [(.int .i64 a2),(.int .i64 n8)] 2 true) h (λa0 a4=>A.new (.cells [(.int .i64 n10),(.int .i64 a3)] 2 true) a4 (λa1 a5=>A.chk (.func (.func 124) ⟨[]⟩ ⟨[(.pointer (some ⟨a1,0,none⟩)),(.pointer (some ⟨a0,0,none⟩))]⟩) ( K [(.v (.func (.func 124) ⟨[]⟩ ⟨[(.pointer (some ⟨a1,0,none⟩)),(.pointer (some ⟨a0,0,none⟩))]⟩))] a5))))
def f85(ls:List Lf)(h:HT)(K:List Lf->HT->R):R:=A.unI ls (λa2 a3=>A.unI a3 (λn8 a4=>A.unV a4 (λa1 a5=>A.k10 a5 (λa6 n14=>A.call 130 [(.i a2),(.i n8),(.v a1),(.i a6),(.i n14)] h (λa7 a0=>A.unI a7 (λn18 a8=>A.unI a8 (λn20 a9=>A.unI a9 (λn22 b0=>A.unB b0 (λb1 b2=>A.k4 b2 (λn26=>A.cd .neq n26 0 ( K [(.i 0),(.i n26)] a0) ( A.cond (!b1) ( K [(.i 0),(.i n26)] a0) ( A.fx 3 a1 n22 2 1 a0 (λb3=>A.k8 b3 (λn32=>K [(.i n32),(.i 0)] a0))))))))))))))
def f86(ls:List Lf)(h:HT)(K:List Lf->HT->R):R:=A.unV ls (λa0 a2=>A.k6 a2 (λx8=>A.opt (lenS a0) (λa1=>A.conv .u64 a1 (λa3=>A.call 122 [(.i a3)] h (λa4 a5=>A.k4 a4 (λn14=>A.call 131 [(.v a0),(.i 0),(.i a1),(.i n14),(.v x8)] a5 (λa6 a7=>A.un0 a6 ( K [] a7))))))))
def f87(ls:List Lf)(h:HT)(K:List Lf->HT->R):R:=A.k14 ls (λa0 n8 n10 a1=>A.ari .sub .i64 a0 n10 (λn14=>K [(.i n14)] h))
def f88(ls:List Lf)(h:HT)(K:List Lf->HT->R):R:=A.k6 ls (λa0=>A.opt (lenS a0) (λx8=>A.opt (lenS a0) (λx9=>A.opt (slS 2 a0 none (some x8) (some x9)) (λa1=>A.chk a1 ( K [(.v a1)] h)))))
def f89(ls:List Lf)(h:HT)(K:List Lf->HT->R):R:=A.k10 ls (λa1 n8=>A.call 92 [(.i a1),(.i n8)] h (λa2 a0=>A.k4 a2 (λa3=>A.cd .neq a3 0 ( K [(.i 0),(.i 0),(.i 0),(.i 1)] a0) ( A.cd .eql a1 1 ( A.ari .mul .i64 2 n8 (λn16=>K [(.i 4),(.i n16),(.i 0),(.i 0)] a0)) ( A.cd .eql a1 2 ( A.ari .mul .i64 2 n8 (λn18=>K [(.i 6),(.i 0),(.i n18),(.i 0)] a0)) ( A.cd .eql a1 3 ( K [(.i 5),(.i n8),(.i n8),(.i 0)] a0) ( A.ari .sub .i64 0 n8 (λn20=>K [(.i 7),(.i n20),(.i n8),(.i 0)] a0))))))))
def f90(ls:List Lf)(h:HT)(K:List Lf->HT->R):R:=A.k10 ls (λa0 n8=>A.cd .lss a0 (-65536) ( K [(.i 1)] h) ( A.cd .gtr a0 65536 ( K [(.i 1)] h) ( A.cd .lss n8 (-65536) ( K [(.i 1)] h) ( A.cd .gtr n8 65536 ( K [(.i 1)] h) ( K [(.i 0)] h)))))
def f91(ls:List Lf)(h:HT)(K:List Lf->HT->R):R:=A.k5 ls (λa0 n8 n10=>A.cd .eql a0 1 ( K [(.i n8)] h) ( A.cd .eql a0 2 ( K [(.i n10)] h) ( A.cd .eql a0 3 ( A.ari .add .i64 n8 n10 (λn15=>K [(.i n15)] h)) ( A.ari .sub .i64 n10 n8 (λn16=>K [(.i n16)] h)))))
def f92(ls:List Lf)(h:HT)(K:List Lf->HT->R):R:=A.k10 ls (λa0 n8=>A.cd .lss a0 1 ( K [(.i 1)] h) ( A.cd .gtr a0 4 ( K [(.i 1)] h) ( A.cd .lss n8 (-4096) ( K [(.i 1)] h) ( A.cd .gtr n8 4096 ( K [(.i 1)] h) ( K [(.i 0)] h)))))
def f93(ls:List Lf)(h:HT)(K:List Lf->HT->R):R:=A.k13 ls (λa1 n8 n10 a0 n14=>A.cmp .eql a1 1 (λb5=>A.join (λb6 a2=>A.k10 b6 (λn19 n21=>A.cmp .eql a1 2 (λb7=>A.join (λb8 a3=>A.k10 b8 (λn26 n28=>A.cmp .eql a1 3 (λb9=>A.join (λc0 a4=>A.k10 c0 (λn33 n35=>A.cmp .eql a1 4 (λc1=>A.join (λd0 a5=>A.k10 d0 (λd1 n42=>A.cmp .eql a1 5 (λd2=>A.join (λd3 a6=>A.k10 d3 (λn47 n49=>A.cmp .eql a1 6 (λd4=>A.join (λd5 a7=>A.k10 d5 (λn54 n56=>A.cmp .eql a1 7 (λd6=>A.join (λd7 d8=>A.k10 d7 (λn61 n63=>A.ari .mul .i64 2 n8 (λn65=>A.ari .add .i64 n61 n65 (λn66=>A.ari .mul .i64 2 n10 (λn67=>A.ari .add .i64 n63 n67 (λn68=>K [(.i n66),(.i n68)] d8)))))) (λa8=>A.cond d6 ( a8 [(.i n14),(.i a0)] a7) ( a8 [(.i n54),(.i n56)] a7))))) (λa9=>A.cond d4 ( A.ari .sub .i64 0 n14 (λn71=>a9 [(.i a0),(.i n71)] a6)) ( a9 [(.i n47),(.i n49)] a6))))) (λb0=>A.cond d2 ( A.ari .sub .i64 0 n14 (λn73=>A.ari .sub .i64 0 a0 (λn74=>b0 [(.i n73),(.i n74)] a5))) ( b0 [(.i d1),(.i n42)] a5))))) (λb1=>A.cond c1 ( A.ari .sub .i64 0 a0 (λn76=>b1 [(.i n76),(.i n14)] a4)) ( b1 [(.i n33),(.i n35)] a4))))) (λb2=>A.cond b9 ( A.ari .sub .i64 0 a0 (λn78=>b2 [(.i n14),(.i n78)] a3)) ( b2 [(.i n26),(.i n28)] a3))))) (λb3=>A.cond b7 ( A.ari .sub .i64 0 a0 (λn80=>A.ari .sub .i64 0 n14 (λn81=>b3 [(.i n80),(.i n81)] a2))) ( b3 [(.i n19),(.i n21)] a2))))) (λb4=>A.cond b5 ( A.ari .sub .i64 0 n14 (λn83=>b4 [(.i n83),(.i a0)] h)) ( b4 [(.i a0),(.i n14)] h))))
def f94(ls:List Lf)(h:HT)(K:List Lf->HT->R):R:=A.unV ls (λa1 a2=>A.k5 a2 (λn8 n10 a3=>A.loop (λa4 a5 a0=>A.k4 a5 (λn17=>A.opt (lenS a1) (λa6=>A.cd .lss n17 a6 ( A.ix 3 a1 n17 3 a0 (λa7=>A.k9 a7 (λn23 a8 n27=>A.eqs [((.i n23),(.i n8)),((.i a8),(.i n10)),((.i n27),(.i a3))] (λa9=>A.cond a9 ( K [(.i 1)] a0) ( A.ari .add .i64 n17 1 (λn30=>a4 [(.i n30)] a0)))))) ( K [(.i 0)] a0)))) [(.i 0)] h))
def f95(ls:List Lf)(h:HT)(K:List Lf->HT->R):R:=A.k15 ls (λa0 n8 n10 a1 n14 n16=>A.cd .lss n8 n14 ( K [(.i 1)] h) ( A.cd .eql n8 n14 ( A.cd .lss a0 a1 ( K [(.i 1)] h) ( A.cd .eql a0 a1 ( A.cmp .lss n10 n16 (λa2=>A.join (λa3 a4=>A.un0 a3 ( K [(.i 0)] a4)) (λa5=>A.cond a2 ( K [(.i 1)] h) ( a5 [] h)))) ( K [(.i 0)] h))) ( K [(.i 0)] h)))
def f96(ls:List Lf)(h:HT)(K:List Lf->HT->R):R:=A.k15 ls (λa2 n8 n10 a7 n14 n16=>A.loop (λa1 a8 a3=>A.k4 a8 (λn21=>A.cd .lss n21 8 ( A.ari .quo .i64 a2 2 (λn24=>A.ari .quo .i64 n8 2 (λa0=>A.call 93 [(.i n21),(.i n24),(.i a0),(.i 2),(.i 0)] a3 (λa9 a4=>A.k10 a9 (λn28 n30=>A.eqs [((.i n28),(.i n10)),((.i n30),(.i a7))] (λb0=>A.cond b0 ( A.call 93 [(.i n21),(.i n24),(.i a0),(.i 0),(.i 2)] a4 (λb1 a5=>A.k10 b1 (λn35 n37=>A.eqs [((.i n35),(.i n14)),((.i n37),(.i n16))] (λb2=>A.cond b2 ( A.call 93 [(.i n21),(.i n24),(.i a0),(.i 0),(.i 0)] a5 (λb3 a6=>A.k10 b3 (λn42 n44=>A.eqs [((.i n42),(.i a2)),((.i n44),(.i n8))] (λb4=>A.join (λb5 b6=>A.un0 b5 ( A.ari .add .u8 n21 1 (λn49=>a1 [(.i n49)] b6))) (λb7=>A.cond b4 ( K [(.i n21),(.i n24),(.i a0)] a6) ( b7 [] a6)))))) ( A.ari .add .u8 n21 1 (λn51=>a1 [(.i n51)] a5)))))) ( A.ari .add .u8 n21 1 (λn52=>a1 [(.i n52)] a4)))))))) ( K [(.i 8),(.i 0),(.i 0)] a3))) [(.i 0)] h)
def f97(ls:List Lf)(h:HT)(K:List Lf->HT->R):R:=A.unV ls (λa1 a3=>A.k6 a3 (λx8=>A.opt (lenS a1) (λa4=>A.loop (λa5 a6 a0=>A.k4 a6 (λn14=>A.cd .lss n14 a4 ( A.ix 3 a1 n14 3 a0 (λa7=>A.k17 a7 (λn19 n21 n23=>A.callv x8 [(.agg ⟨[(.int .i64 n19),(.int .u8 n21),(.int .u8 n23)]⟩)] [(.leaf .b)] a0 (λa8 a2=>A.k2 a8 (λa9=>A.cond a9 ( K [(.i n14)] a2) ( A.ari .add .i64 n14 1 (λn29=>a5 [(.i n29)] a2))))))) ( K [(.i (-1))] a0))) [(.i 0)] h)))
def f98(ls:List Lf)(h:HT)(K:List Lf->HT->R):R:=A.k14 ls (λa0 n8 n10 a3=>A.call 72 [(.i a0),(.i n8),(.i n10)] h (λa4 a1=>A.k14 a4 (λn16 n18 n20 n22=>A.cd .neq n22 0 ( K [(.i 0),(.i n22)] a1) ( A.call 129 [(.i n16),(.i n18),(.i n20),(.i a3)] a1 (λa5 a2=>A.k14 a5 (λn27 n29 n31 n33=>A.cd .neq n33 0 ( K [(.i 0),(.i 1)] a2) ( A.call 125 [(.i a0),(.i n8),(.i n27),(.i n29),(.i n31)] a2 (λa6 a7=>A.k10 a6 (λn38 a8=>K [(.i n38),(.i a8)] a7)))))))))
def f99(ls:List Lf)(h:HT)(K:List Lf->HT->R):R:=A.k6 ls (λa0=>A.opt (lenS a0) (λx8=>A.opt (lenS a0) (λx9=>A.opt (slS 2 a0 none (some x8) (some x9)) (λa1=>A.chk a1 ( K [(.v a1)] h)))))
def f100(ls:List Lf)(h:HT)(K:List Lf->HT->R):R:=A.k10 ls (λa2 n8=>A.call 132 [(.i a2),(.i n8)] h (λa4 a5=>A.k3 a4 (λa0 n14=>A.opt (lenS a0) (λx16=>A.new (.map [] 0) a5 (λa3 a6=>A.opt (lenS a0) (λa7=>A.loop (λa8 a9 a1=>A.k4 a9 (λn23=>A.cd .lss n23 a7 ( A.ix 2 a0 n23 2 a1 (λb0=>A.k16 b0 (λn28 n30=>A.call 133 [(.i a2),(.i n8),(.i n28),(.i n30)] a1 (λb1 b2=>A.k14 b1 (λn34 n36 n38 b3=>A.heap (.fn (muG cc 220 (.map (some a3)) (.agg ⟨[(.int .u8 n34),(.int .i64 n36),(.int .i64 n38)]⟩) (.agg ⟨[(.int .i64 n28),(.int .u8 n30),(.int .i64 b3)]⟩))) b2 (λb5 b4=>A.ari .add .i64 n23 1 (λn44=>a8 [(.i n44)] b4))))))) ( K [(.v (.map (some a3)))] a1))) [(.i 0)] a6))))))
def f101(ls:List Lf)(h:HT)(K:List Lf->HT->R):R:=A.unV ls (λa5 a6=>A.k13 a6 (λn8 n10 a1 n14 n16=>A.call 134 [(.i n8),(.i n10),(.i a1),(.i n14),(.i n16)] h (λa7 a2=>A.k2 a7 (λa8=>A.cond (!a8) ( K [(.v (.slice none 0 0)),(.i 1)] a2) ( A.loop (λa9 b0 a0=>A.k3 b0 (λa3 n27=>A.cd .neq n27 n16 ( A.peek (.fn (luG cc 220 true (.agg ⟨[(.int .i64 0),(.int .u8 0),(.int .i64 0)]⟩) a5 (.agg ⟨[(.int .u8 n10),(.int .i64 a1),(.int .i64 n27)]⟩) true)) a0 (λb1=>A.ucI .i64 b1 (λn31 b2=>A.ucI .u8 b2 (λn33 b3=>A.ucI .i64 b3 (λn35 b4=>A.ucB b4 (λb5 b6=>A.uc0 b6 ( A.cond (!b5) ( K [(.v (.slice none 0 0)),(.i 7)] a0) ( A.cd .gtr n35 n16 ( K [(.v (.slice none 0 0)),(.i 7)] a0) ( A.new (.cells [(.int .i64 n31),(.int .u8 n33)] 2 true) a0 (λb7 b8=>A.heap (.ap cc 2 16 a3 (.slice (some ⟨b7,0,(some 12)⟩) 1 2)) b8 (λb9 c0=>A.ucV b9 (λa4 c1=>A.chk a4 ( A.uc0 c1 ( a9 [(.v a4),(.i n35)] c0)))))))))))))) ( A.call 135 [(.v a3)] a0 (λd0 d1=>A.k6 d0 (λd2=>K [(.v d2),(.i 0)] d1))))) [(.v (.slice none 0 0)),(.i n14)] a2)))))
def f102(ls:List Lf)(h:HT)(K:List Lf->HT->R):R:=A.unV ls (λa0 a2=>A.k6 a2 (λx8=>A.opt (lenS a0) (λa1=>A.conv .u64 a1 (λa3=>A.call 122 [(.i a3)] h (λa4 a5=>A.k4 a4 (λn14=>A.call 136 [(.v a0),(.i 0),(.i a1),(.i n14),(.v x8)] a5 (λa6 a7=>A.un0 a6 ( K [] a7))))))))
def f103(ls:List Lf)(h:HT)(K:List Lf->HT->R):R:=A.k15 ls (λa0 n8 n10 a1 n14 n16=>A.conv .i64 n8 (λn18=>A.conv .i64 n14 (λn19=>A.new (.cells [(.int .i64 a0),(.int .i64 a1),(.int .i64 n18),(.int .i64 n19)] 2 true) h (λa2 a3=>A.call 104 [(.v (.slice (some ⟨a2,0,(some 12)⟩) 2 3))] a3 (λa4 a5=>A.k4 a4 (λn24=>K [(.i n24)] a5))))))
def f104(ls:List Lf)(h:HT)(K:List Lf->HT->R):R:=A.k6 ls (λa2=>A.opt (lenS a2) (λx8=>A.loop (λa4 a5 a0=>A.k4 a5 (λa1=>A.cd .lss a1 x8 ( A.ix 2 a2 a1 2 a0 (λa6=>A.k12 a6 (λn17 n19=>A.call 137 [(.i n17),(.i n19)] a0 (λa7 a3=>A.k4 a7 (λn23=>A.cd .neq n23 0 ( K [(.i n23)] a3) ( A.ari .add .i64 a1 1 (λn26=>a4 [(.i n26)] a3))))))) ( K [(.i 0)] a0))) [(.i 0)] h))
def f105(ls:List Lf)(h:HT)(K:List Lf->HT->R):R:=A.k6 ls (λa0=>A.opt (lenS a0) (λx8=>A.opt (lenS a0) (λx9=>A.opt (slS 3 a0 none (some x8) (some x9)) (λa1=>A.chk a1 ( K [(.v a1)] h)))))
def f106(ls:List Lf)(h:HT)(K:List Lf->HT->R):R:=A.k4 ls (λa0=>A.join (λa2 a3=>A.k2 a2 (λa4=>K [(.b a4)] a3)) (λa1=>A.cd .lss a0 (-16384) ( a1 [(.b true)] h) ( A.cmp .gtr a0 16384 (λa5=>a1 [(.b a5)] h))))
def f107(ls:List Lf)(h:HT)(K:List Lf->HT->R):R:=A.k1 ls (λa9 n8 a0=>A.opt (lenS a0) (λb0=>A.new (.map [] 0) h (λa2 a3=>A.opt (lenS a0) (λa4=>A.loop (λa5 a6 a1=>A.k4 a6 (λn19=>A.cd .lss n19 a4 ( A.ix 3 a0 n19 3 a1 (λa7=>A.k17 a7 (λn24 n26 n28=>A.heap (.fn (muG cc 62 (.map (some a2)) (.agg ⟨[(.int .i64 n24),(.int .u8 n26)]⟩) (.bool true))) a1 (λb1 a8=>A.ari .add .i64 n19 1 (λn32=>a5 [(.i n32)] a8))))) ( K [(.v (.map (some a2)))] a1))) [(.i 0)] a3))))
def f108(ls:List Lf)(h:HT)(K:List Lf->HT->R):R:=A.k10 ls (λa0 n8=>A.call 60 [(.i a0),(.i n8)] h (λa2 a1=>A.k4 a2 (λa3=>A.cd .neq a3 0 ( K [(.i 0)] a1) ( A.ari .mul .i64 4 a0 (λn15=>A.ari .mul .i64 n15 n8 (λn16=>K [(.i n16)] a1))))))
def f109(ls:List Lf)(h:HT)(K:List Lf->HT->R):R:=A.unI ls (λa1 a8=>A.unI a8 (λn8 a9=>A.unV a9 (λa3 b0=>A.unV b0 (λb1 b2=>A.k6 b2 (λx14=>A.opt (fdP 0 a3) (λx16=>A.chk x16 ( A.peek (.lg cc 2 x16) h (λb3=>A.k12 b3 (λn18 n20=>A.call 64 [(.i n18),(.i n20),(.i a1),(.i n8)] h (λb4 a0=>A.k5 b4 (λn24 n26 n28=>A.peek (.lg cc 1 b1) a0 (λb5=>A.ucV b5 (λa4 b6=>A.chk a4 ( A.uc0 b6 ( A.peek (.fn (luG cc 62 false (.bool false) a4 (.agg ⟨[(.int .i64 n24),(.int .u8 n26)]⟩) false)) a0 (λb7=>A.ucB b7 (λb8 b9=>A.uc0 b9 ( A.cond (!b8) ( A.peek (.lg cc 1 x14) a0 (λc0=>A.ucV c0 (λa5 c1=>A.chk a5 ( A.uc0 c1 ( A.ix 3 a5 a1 3 a0 (λd0=>A.k11 d0 (λd1 n43 n45=>K [(.i d1),(.i n43),(.i n45)] a0))))))) ( A.opt (fdP 0 a3) (λa6=>A.chk a6 ( A.peek (.lg cc 2 a6) a0 (λd2=>A.k12 d2 (λn49 n51=>A.call 110 [(.i n49),(.i n51),(.i n24),(.i n26)] a0 (λd3 d4=>A.k5 d3 (λn55 n57 n59=>A.call 89 [(.i n55),(.i n57)] d4 (λd5 a2=>A.k14 d5 (λn63 n65 n67 e1=>A.peek (.lg cc 1 x14) a2 (λd6=>A.ucV d6 (λa7 d7=>A.chk a7 ( A.uc0 d7 ( A.ix 3 a7 a1 3 a2 (λd8=>A.k11 d8 (λn76 n78 n80=>A.call 73 [(.i n63),(.i n65),(.i n67),(.i n76),(.i n78),(.i n80)] a2 (λd9 e0=>A.k14 d9 (λn84 n86 n88 n90=>K [(.i n84),(.i n86),(.i n88)] e0)))))))))))))))))))))))))))))))))))
def f110(ls:List Lf)(h:HT)(K:List Lf->HT->R):R:=A.k14 ls (λa2 n8 n10 a0=>A.call 138 [(.i a2),(.i n8),(.i n10),(.i a0)] h (λa3 a1=>A.k14 a3 (λn16 n18 n20 n22=>A.cd .neq n22 0 ( K [(.i 0),(.i 0),(.i n22)] a1) ( A.call 139 [(.i n16),(.i n18),(.i n20),(.i a0)] a1 (λa4 a5=>A.k5 a4 (λn27 n29 n31=>K [(.i n27),(.i n29),(.i n31)] a5))))))
def f111(ls:List Lf)(h:HT)(K:List Lf->HT->R):R:=A.k5 ls (λa1 n8 n10=>A.join (λa2 a3=>A.k2 a2 (λa4=>K [(.b a4)] a3)) (λa0=>A.cd .geq n10 0 ( A.ari .mul .i64 4 a1 (λn18=>A.ari .mul .i64 n18 n8 (λn19=>A.cmp .lss n10 n19 (λa5=>a0 [(.b a5)] h)))) ( a0 [(.b false)] h)))
def f112(ls:List Lf)(h:HT)(K:List Lf->HT->R):R:=A.k5 ls (λa0 n8 n10=>A.ari .quo .i64 n10 4 (λa1=>A.ari .rem .i64 a1 a0 (λn13=>A.ari .quo .i64 n10 4 (λn14=>A.ari .quo .i64 n14 a0 (λn15=>A.ari .rem .i64 n10 4 (λn16=>A.conv .u8 n16 (λn17=>K [(.i n13),(.i n15),(.i n17)] h)))))))
def f113(ls:List Lf)(h:HT)(K:List Lf->HT->R):R:=A.k15 ls (λa0 n8 n10 a1 n14 n16=>A.ari .mul .i64 a0 n14 (λn18=>A.ari .mul .i64 n8 n16 (λn19=>A.ari .add .i64 n18 n19 (λn20=>A.ari .mul .i64 n10 n14 (λn21=>A.ari .mul .i64 a1 n16 (λn22=>A.ari .add .i64 n21 n22 (λn23=>K [(.i n20),(.i n23)] h)))))))
def f114(ls:List Lf)(h:HT)(K:List Lf->HT->R):R:=A.k5 ls (λa0 n8 n10=>A.call 70 [(.i a0),(.i n8),(.i n10)] h (λa2 a1=>A.k4 a2 (λn14=>A.cd .neq n14 0 ( K [(.i 0),(.i 0),(.i 0),(.i 3)] a1) ( K [(.i a0),(.i n8),(.i n10),(.i 0)] a1))))
def f115(ls:List Lf)(h:HT)(K:List Lf->HT->R):R:=A.k14 ls (λa1 n8 n10 a2=>A.loop (λa3 a4 a0=>A.k4 a4 (λn17=>A.cd .lss n17 8 ( A.opt (inB 8 n17) (λx20=>A.opt (dF [(.i 1),(.i 0),(.i 0),(.i 1),(.i 0),(.i (-1)),(.i 1),(.i 0),(.i (-1)),(.i 0),(.i 0),(.i (-1)),(.i 0),(.i 1),(.i (-1)),(.i 0),(.i (-1)),(.i 0),(.i 0),(.i 1),(.i 0),(.i (-1)),(.i (-1)),(.i 0),(.i 1),(.i 0),(.i 0),(.i (-1)),(.i 0),(.i 1),(.i 1),(.i 0)] 0 [(n17,4)] 4) (λx21=>A.k14 x21 (λn22 n24 n26 n28=>A.eqs [((.i n22),(.i a1)),((.i n24),(.i n8)),((.i n26),(.i n10)),((.i n28),(.i a2))] (λa5=>A.cond a5 ( A.conv .u8 n17 (λn31=>K [(.i n31)] a0)) ( A.ari .add .i64 n17 1 (λn32=>a3 [(.i n32)] a0))))))) ( K [(.i 0)] a0))) [(.i 0)] h)
def f116(ls:List Lf)(h:HT)(K:List Lf->HT->R):R:=A.unI ls (λa0 a1=>A.unI a1 (λn8 a2=>A.k15 a2 (λn10 a3 n14 n16 n18 n20=>A.call 113 [(.i n14),(.i n16),(.i n18),(.i n20),(.i a0),(.i n10)] h (λa4 a5=>A.k10 a4 (λn24 n26=>A.call 113 [(.i n14),(.i n16),(.i n18),(.i n20),(.i n8),(.i a3)] a5 (λa6 a7=>A.k10 a6 (λn30 n32=>K [(.i n24),(.i n30),(.i n26),(.i n32)] a7)))))))
def f117(ls:List Lf)(h:HT)(K:List Lf->HT->R):R:=A.k5 ls (λa0 n8 n10=>A.cd .lss a0 (-4096) ( K [(.i 1)] h) ( A.cd .gtr a0 4096 ( K [(.i 1)] h) ( A.cd .lss n8 (-4096) ( K [(.i 1)] h) ( A.cd .gtr n8 4096 ( K [(.i 1)] h) ( A.cd .gtr n10 3 ( K [(.i 1)] h) ( K [(.i 0)] h))))))
def f118(ls:List Lf)(h:HT)(K:List Lf->HT->R):R:=A.k15 ls (λa1 n8 n10 a3 n14 n16=>A.call 140 [(.i a3),(.i n14),(.i n16)] h (λa4 a5=>A.k10 a4 (λn20 n22=>A.opt (inB 4 n16) (λx24=>A.opt (kM gl1 0 [(n16,17)] 2) (λa6=>A.k12 a6 (λn26 n28=>A.call 141 [(.i a1),(.i n8),(.i n10),(.i n20),(.i n22)] a5 (λa7 a8=>A.k5 a7 (λn32 n34 n36=>A.call 141 [(.i a1),(.i 0),(.i 0),(.i n26),(.i n28)] a8 (λa9 b0=>A.k5 a9 (λb1 n42 n44=>A.ari .and .i64 n32 1 (λn46=>A.ari .sub .i64 n32 n46 (λn47=>A.ari .quo .i64 n47 2 (λn48=>A.ari .and .i64 n34 1 (λn49=>A.ari .sub .i64 n34 n49 (λn50=>A.ari .quo .i64 n50 2 (λn51=>A.loop (λb2 b3 a0=>A.k14 b3 (λn55 n57 n59 n61=>A.cd .lss n55 4 ( A.opt (inB 4 n55) (λd7=>A.opt (dF [(.i 0),(.i (-1)),(.i 2),(.i 0),(.i 0),(.i (-1)),(.i 2),(.i 0),(.i 0),(.i 1),(.i 0),(.i 0),(.i 3),(.i 0),(.i 0),(.i 2),(.i 0),(.i 1),(.i 0),(.i 1),(.i 1),(.i 1),(.i 0),(.i 3),(.i 0),(.i 0),(.i 0),(.i 0),(.i 0),(.i 2),(.i 2),(.i 2),(.i 2),(.i 0),(.i 0),(.i 1),(.i 2),(.i 1),(.i 0),(.i 1),(.i 0),(.i 0),(.i 0),(.i 3),(.i 0),(.i 0),(.i 1),(.i 2),(.i 2),(.i 0),(.i 2),(.i (-1)),(.i 0),(.i 1),(.i 0),(.i (-1)),(.i 0),(.i 1),(.i 0),(.i 0),(.i 2),(.i 0),(.i 0),(.i 0),(.i 0),(.i 0),(.i 0),(.i 2)] 0 [(n55,17)] 17) (λb4=>A.unI b4 (λn66 b5=>A.unI b5 (λn68 b6=>A.unI b6 (λn70 b7=>A.unI b7 (λn72 b8=>A.unI b8 (λn74 b9=>A.unI b9 (λn76 c0=>A.unI c0 (λn78 c1=>A.unI c1 (λn80 d0=>A.unI d0 (λn82 d1=>A.unI d1 (λn84 d2=>A.unI d2 (λn86 d3=>A.k15 d3 (λn88 n90 n92 n94 n96 n98=>A.eqs [((.i n66),(.i b1)),((.i n68),(.i n42))] (λd4=>A.join (λd5 d6=>A.k5 d5 (λn103 n105 n107=>A.ari .add .i64 n55 1 (λn109=>b2 [(.i n109),(.i n103),(.i n105),(.i n107)] d6))) (λa2=>A.cond d4 ( A.conv .u8 n55 (λn111=>a2 [(.i n57),(.i n59),(.i n111)] a0)) ( a2 [(.i n57),(.i n59),(.i n61)] a0)))))))))))))))))) ( K [(.i n57),(.i n59),(.i n61)] a0))) [(.i 0),(.i n48),(.i n51),(.i 0)] b0))))))))))))))))
def f119(ls:List Lf)(h:HT)(K:List Lf->HT->R):R:=A.unV ls (λa0 a1=>A.k6 a1 (λx8=>A.call 142 [(.v a0),(.v x8)] h (λa2 a3=>A.k4 a2 (λa4=>A.cmp .geq a4 0 (λa5=>K [(.b a5)] a3)))))
def f120(ls:List Lf)(h:HT)(K:List Lf->HT->R):R:=A.k5 ls (λa0 n8 n10=>A.call 117 [(.i a0),(.i n8),(.i n10)] h (λa1 a2=>A.k4 a1 (λn14=>A.cmp .neq n14 0 (λa3=>K [(.b a3)] a2))))
def f122(ls:List Lf)(h:HT)(K:List Lf->HT->R):R:=A.k4 ls (λa0=>A.call 152 [(.i a0)] h (λa1 a2=>A.k4 a1 (λn10=>K [(.i n10)] a2)))
def f123(ls:List Lf)(h:HT)(K:List Lf->HT->R):R:=A.k6 ls (λa2=>A.opt (lenS a2) (λx8=>A.loop (λa4 a5 a0=>A.k4 a5 (λa1=>A.cd .lss a1 x8 ( A.ix 2 a2 a1 2 a0 (λa6=>A.k12 a6 (λn17 n19=>A.call 137 [(.i n17),(.i n19)] a0 (λa7 a3=>A.k4 a7 (λn23=>A.cd .neq n23 0 ( K [(.i n23)] a3) ( A.ari .add .i64 a1 1 (λn26=>a4 [(.i n26)] a3))))))) ( K [(.i 0)] a0))) [(.i 0)] h))
def f124(ls:List Lf)(h:HT)(K:List Lf->HT->R):R:=A.unV ls (λa7 d1=>A.unV d1 (λx8 d2=>A.k6 d2 (λa2=>A.opt (fdP 0 x8) (λa8=>A.chk a8 ( A.peek (.lg cc 1 a8) h (λd3=>A.k7 d3 (λn14=>A.ari .quo .i64 n14 2 (λn16=>A.opt (fdP 1 x8) (λa9=>A.chk a9 ( A.peek (.lg cc 1 a9) h (λd4=>A.k7 d4 (λn19=>A.ari .quo .i64 n19 2 (λn21=>A.opt (fdP 0 x8) (λx22=>A.chk x22 ( A.peek (.lg cc 1 x22) h (λd5=>A.k7 d5 (λn24=>A.ari .rem .i64 n24 2 (λn26=>A.cmp .neq n26 0 (λd6=>A.join (λd7 d8=>A.k5 d7 (λn30 n32 n34=>A.loop (λb0 d9 b1=>A.k14 d9 (λe0 b2 n43 n45=>A.peek (.lg cc 2 a2) b1 (λe1=>A.k12 e1 (λn48 n50=>A.call 125 [(.i n48),(.i n50),(.i b2),(.i n43),(.i n45)] b1 (λe2 e3=>A.k10 e2 (λn54 n56=>A.loop (λe4 e6 a3=>A.k13 e6 (λn61 n63 n65 n67 a0=>A.cd .lss n63 3 ( A.join (λf0 f1=>A.k14 f0 (λn74 n76 n78 n80=>A.ari .add .u8 n63 1 (λn82=>e4 [(.i n74),(.i n82),(.i n76),(.i n78),(.i n80)] f1))) (λa4=>A.peek (.lg cc 2 x8) a3 (λf2=>A.k12 f2 (λn85 n87=>A.call 126 [(.i n65),(.i n67),(.i a0),(.i n63),(.i n85),(.i n87)] a3 (λf3 a1=>A.k2 f3 (λf4=>A.cond (!f4) ( a4 [(.i n61),(.i n65),(.i n67),(.i a0)] a1) ( A.cd .eql n63 n61 ( a4 [(.i n61),(.i n65),(.i n67),(.i a0)] a1) ( A.cd .eql n61 3 ( A.peek (.lg cc 2 x8) a1 (λf6=>A.k12 f6 (λn96 n98=>A.call 127 [(.i n65),(.i n67),(.i a0),(.i n63),(.i n96),(.i n98)] a1 (λgl b3=>A.k2 gl (λg0=>A.join (λg1 b4=>A.un0 g1 ( A.peek (.lg cc 2 a2) b4 (λg2=>A.k12 g2 (λn107 n109=>A.call 64 [(.i n107),(.i n109),(.i n54),(.i n63)] b4 (λg3 a5=>A.k5 g3 (λn113 n115 n117=>A.peek (.lg cc 2 a2) a5 (λg4=>A.k12 g4 (λn120 n122=>A.peek (.lg cc 2 x8) a5 (λg5=>A.k12 g5 (λn125 n127=>A.call 128 [(.i n120),(.i n122),(.i n113),(.i n115),(.i n125),(.i n127)] a5 (λg6 g7=>A.k4 g6 (λn131=>A.callv a7 [(.int .i64 n54),(.agg ⟨[(.int .i64 n131),(.int .i64 n113),(.int .u8 n115)]⟩)] [(.leaf .b)] g7 (λg8 b5=>A.k2 g8 (λg9=>A.cond (!g9) ( K [] b5) ( A.call 129 [(.i n65),(.i n67),(.i a0),(.i n63)] b5 (λh0 b6=>A.k14 h0 (λn139 n141 b7 j2=>A.eqs [((.i n139),(.i n30)),((.i n141),(.i n32)),((.i b7),(.i n34))] (λh1=>A.cond h1 ( K [] b6) ( b0 [(.i n63),(.i n139),(.i n141),(.i b7)] b6))))))))))))))))))) (λh2=>A.cond (!g0) ( a4 [(.i n61),(.i n65),(.i n67),(.i a0)] b3) ( h2 [] b3))))))) ( A.peek (.lg cc 2 a2) a1 (λh3=>A.k12 h3 (λh4 n152=>A.call 64 [(.i h4),(.i n152),(.i n54),(.i n63)] a1 (λh5 a6=>A.k5 h5 (λn156 n158 j3=>A.peek (.lg cc 2 a2) a6 (λh6=>A.k12 h6 (λh7 h8=>A.peek (.lg cc 2 x8) a6 (λh9=>A.k12 h9 (λn168 i0=>A.call 128 [(.i h7),(.i h8),(.i n156),(.i n158),(.i n168),(.i i0)] a6 (λi1 i2=>A.k4 i1 (λi3=>A.callv a7 [(.int .i64 n54),(.agg ⟨[(.int .i64 i3),(.int .i64 n156),(.int .u8 n158)]⟩)] [(.leaf .b)] i2 (λi4 b8=>A.k2 i4 (λi6=>A.cond (!i6) ( K [] b8) ( A.call 129 [(.i n65),(.i n67),(.i a0),(.i n63)] b8 (λj0 b9=>A.k14 j0 (λn182 c0 c1 j4=>A.eqs [((.i n182),(.i n30)),((.i c0),(.i n32)),((.i c1),(.i n34))] (λj1=>A.cond j1 ( K [] b9) ( b0 [(.i n63),(.i n182),(.i c0),(.i c1)] b9)))))))))))))))))))))))))) ( K [] a3))) [(.i e0),(.i 0),(.i b2),(.i n43),(.i n45)] e3)))))) [(.i 3),(.i n30),(.i n32),(.i n34)] d8)) (λd0=>A.cond d6 ( d0 [(.i n16),(.i n21),(.i 2)] h) ( d0 [(.i n16),(.i n21),(.i 0)] h)))))))))))))))))))))
def f125(ls:List Lf)(h:HT)(K:List Lf->HT->R):R:=A.k13 ls (λa2 n8 n10 a1 n14=>A.call 60 [(.i a2),(.i n8)] h (λa4 a3=>A.k4 a4 (λn18=>A.cd .neq n18 0 ( K [(.i 0),(.i n18)] a3) ( A.call 117 [(.i n10),(.i a1),(.i n14)] a3 (λa5 a0=>A.k4 a5 (λn23=>A.cd .neq n23 0 ( K [(.i 0),(.i 7)] a0) ( A.cd .lss n10 0 ( K [(.i 0),(.i 7)] a0) ( A.cd .geq n10 a2 ( K [(.i 0),(.i 7)] a0) ( A.cd .lss a1 0 ( K [(.i 0),(.i 7)] a0) ( A.cd .geq a1 n8 ( K [(.i 0),(.i 7)] a0) ( A.ari .mul .i64 a1 a2 (λn30=>A.ari .add .i64 n30 n10 (λn31=>A.ari .mul .i64 4 n31 (λn32=>A.conv .i64 n14 (λn33=>A.ari .add .i64 n32 n33 (λn34=>K [(.i n34),(.i 0)] a0))))))))))))))))
def f126(ls:List Lf)(h:HT)(K:List Lf->HT->R):R:=A.k15 ls (λa1 n8 n10 a0 n14 n16=>A.call 153 [(.i a1),(.i n8),(.i n10)] h (λa2 a3=>A.unI a2 (λn20 a4=>A.k15 a4 (λn22 n24 n26 n28 n30 n32=>A.opt (inB 3 a0) (λa7=>A.opt (dF [(.i n20),(.i n22),(.i n24),(.i n26),(.i n28),(.i n30)] 0 [(a0,2)] 2) (λa5=>A.k10 a5 (λn36 n38=>A.eqs [((.i n36),(.i n14)),((.i n38),(.i n16))] (λa6=>K [(.b (!a6))] a3))))))))
def f127(ls:List Lf)(h:HT)(K:List Lf->HT->R):R:=A.k15 ls (λa3 n8 n10 a0 n14 n16=>A.ari .rem .i64 n14 2 (λn18=>A.cd .neq n18 0 ( A.cmp .eql a0 1 (λa1=>K [(.b a1)] h)) ( A.cmp .eql a0 2 (λa2=>K [(.b a2)] h))))
def f128(ls:List Lf)(h:HT)(K:List Lf->HT->R):R:=A.k15 ls (λa3 n8 n10 a4 n14 n16=>A.call 154 [(.i a3),(.i n8),(.i n10),(.i a4)] h (λa5 a0=>A.k13 a5 (λn20 n22 n24 n26 n28=>A.eqs [((.i n20),(.i n14)),((.i n22),(.i n16))] (λa6=>A.join (λa7 a8=>A.k10 a7 (λn33 n35=>A.ari .sub .i64 n33 n14 (λn37=>A.call 155 [(.i n37)] a8 (λa9 b0=>A.k4 a9 (λb1=>A.ari .sub .i64 n35 n16 (λn42=>A.call 155 [(.i n42)] b0 (λb2 b3=>A.k4 b2 (λn45=>A.opt (cq cc 260 ⟨2,0,(some 1)⟩ none none none []) (λa1=>A.chk a1 ( A.call 156 [(.v a1),(.i b1),(.i n45)] b3 (λb4 b5=>A.k4 b4 (λn50=>K [(.i n50)] b5)))))))))))) (λa2=>A.cond a6 ( a2 [(.i n24),(.i n26)] a0) ( a2 [(.i n20),(.i n22)] a0))))))
def f129(ls:List Lf)(h:HT)(K:List Lf->HT->R):R:=A.k14 ls (λa2 n8 n10 a0=>A.call 117 [(.i a2),(.i n8),(.i n10)] h (λa4 a1=>A.k4 a4 (λn16=>A.cd .neq n16 0 ( K [(.i 0),(.i 0),(.i 0),(.i 1)] a1) ( A.cd .gtr a0 2 ( K [(.i 0),(.i 0),(.i 0),(.i 1)] a1) ( A.opt (inB 4 n10) (λx20=>A.opt (inB 3 a0) (λx21=>A.opt (kM gl1 4 [(n10,17),(a0,3)] 3) (λx22=>A.k9 x22 (λn23 a5 n27=>A.ari .add .i64 n23 a2 (λn29=>A.ari .add .i64 a5 n8 (λn30=>A.call 117 [(.i n29),(.i n30),(.i n27)] a1 (λa6 a3=>A.k4 a6 (λn33=>A.cd .neq n33 0 ( K [(.i 0),(.i 0),(.i 0),(.i 3)] a3) ( K [(.i n29),(.i n30),(.i n27),(.i 0)] a3))))))))))))))
def f130(ls:List Lf)(h:HT)(K:List Lf->HT->R):R:=A.unI ls (λa0 a5=>A.unI a5 (λn8 a6=>A.unV a6 (λa1 a7=>A.k10 a7 (λa8 n14=>A.call 32 [(.i a0),(.i n8),(.v a1)] h (λa9 a2=>A.k4 a9 (λn18=>A.cd .neq n18 0 ( K [(.i 0),(.i 0),(.i 0),(.b false),(.i n18)] a2) ( A.call 64 [(.i a0),(.i n8),(.i a8),(.i n14)] a2 (λb0 a3=>A.k5 b0 (λn23 a4 n27=>A.cd .neq n27 0 ( K [(.i 0),(.i 0),(.i 0),(.b false),(.i n27)] a3) ( A.call 157 [(.v a1),(.i n23),(.i a4)] a3 (λb1 b2=>A.unI b1 (λn32 b3=>A.k2 b3 (λb4=>K [(.i n23),(.i a4),(.i n32),(.b b4),(.i 0)] b2)))))))))))))
def f131(ls:List Lf)(h:HT)(K:List Lf->HT->R):R:=A.unV ls (λa0 gl=>A.unI gl (λn8 g0=>A.k1 g0 (λn10 g1 x14=>A.loop (λg2 g3 a8=>A.unI g3 (λn19 g4=>A.unI g4 (λn21 g5=>A.unB g5 (λa9 g6=>A.unB g6 (λa7 g7=>A.k4 g7 (λn27=>A.join (λg8 g9=>A.unI g8 (λn31 h0=>A.unI h0 (λn33 h1=>A.unB h1 (λh2 h3=>A.unB h3 (λh4 h5=>A.k4 h5 (λh6=>g2 [(.i n31),(.i n33),(.b h2),(.b h4),(.i h6)] g9)))))) (λa2=>A.ari .sub .i64 n27 n21 (λn42=>A.cd .leq n42 12 ( A.call 158 [(.v a0),(.i n21),(.i n27),(.v x14)] a8 (λh7 h8=>A.un0 h7 ( K [] h8))) ( A.cd .eql n19 0 ( A.call 159 [(.v a0),(.i n21),(.i n27),(.v x14)] a8 (λh9 i0=>A.un0 h9 ( K [] i0))) ( A.join (λi1 i2=>A.k4 i1 (λn51=>A.call 161 [(.v a0),(.i n21),(.i n27),(.v x14)] i2 (λi3 b3=>A.k10 i3 (λn55 n57=>A.cmp .eql n57 2 (λi4=>A.join (λi6 a1=>A.k10 i6 (λn62 n64=>A.cond a7 ( A.cond a9 ( A.cmp .eql n64 1 (λj0=>A.join (λj1 b0=>A.un0 j1 ( A.cd .gtr n21 0 ( A.ari .sub .i64 n21 1 (λn70=>A.ix 2 a0 n70 2 b0 (λj2=>A.k16 j2 (λn73 n75=>A.ix 2 a0 n62 2 b0 (λj3=>A.k16 j3 (λj4 n81=>A.callv x14 [(.agg ⟨[(.int .i64 n73),(.int .u8 n75)]⟩),(.agg ⟨[(.int .i64 j4),(.int .u8 n81)]⟩)] [(.leaf (.i .i64))] b0 (λj5 b4=>A.k4 j5 (λn85=>A.cmp .lss n85 0 (λj6=>A.join (λj7 j8=>A.k4 j7 (λn90=>A.call 165 [(.v a0),(.i n90),(.i n27),(.i n62),(.v x14)] j8 (λj9 b5=>A.unI j9 (λn94 l0=>A.k2 l0 (λl1=>A.ari .sub .i64 n94 n90 (λn98=>A.ari .sub .i64 n27 n94 (λn99=>A.ari .quo .i64 n42 8 (λn100=>A.cmp .lss n98 n99 (λl2=>A.join (λl3 l4=>A.unB l3 (λl5 l6=>A.k10 l6 (λn106 n108=>a2 [(.i n51),(.i n106),(.b l1),(.b l5),(.i n108)] l4))) (λb6=>A.cond l2 ( A.cmp .geq n98 n100 (λl7=>A.call 131 [(.v a0),(.i n90),(.i n94),(.i n51),(.v x14)] b5 (λl8 l9=>A.un0 l8 ( A.ari .add .i64 n94 1 (λn114=>b6 [(.b l7),(.i n114),(.i n27)] l9))))) ( A.cmp .geq n99 n100 (λm0=>A.ari .add .i64 n94 1 (λn116=>A.call 131 [(.v a0),(.i n116),(.i n27),(.i n51),(.v x14)] b5 (λm1 m2=>A.un0 m1 ( b6 [(.b m0),(.i n90),(.i n94)] m2))))))))))))))) (λm3=>A.cond (!j6) ( A.call 164 [(.v a0),(.i n21),(.i n27),(.i n62),(.v x14)] b4 (λm4 m5=>A.k4 m4 (λn122=>a2 [(.i n51),(.i n122),(.b a9),(.b a7),(.i n27)] m5))) ( m3 [(.i n21)] b4))))))))))) ( A.call 165 [(.v a0),(.i n21),(.i n27),(.i n62),(.v x14)] b0 (λm6 b7=>A.unI m6 (λn126 m7=>A.k2 m7 (λm8=>A.ari .sub .i64 n126 n21 (λn130=>A.ari .sub .i64 n27 n126 (λn131=>A.ari .quo .i64 n42 8 (λn132=>A.cmp .lss n130 n131 (λm9=>A.join (λn0 n1=>A.unB n0 (λn2 n3=>A.k10 n3 (λn138 n140=>a2 [(.i n51),(.i n138),(.b m8),(.b n2),(.i n140)] n1))) (λb8=>A.cond m9 ( A.cmp .geq n130 n132 (λn4=>A.call 131 [(.v a0),(.i n21),(.i n126),(.i n51),(.v x14)] b7 (λn6 o0=>A.un0 n6 ( A.ari .add .i64 n126 1 (λo1=>b8 [(.b n4),(.i o1),(.i n27)] o0))))) ( A.cmp .geq n131 n132 (λo2=>A.ari .add .i64 n126 1 (λo3=>A.call 131 [(.v a0),(.i o3),(.i n27),(.i n51),(.v x14)] b7 (λo4 o5=>A.un0 o4 ( b8 [(.b o2),(.i n21),(.i n126)] o5)))))))))))))))) (λb9=>A.cond j0 ( A.call 163 [(.v a0),(.i n21),(.i n27),(.v x14)] a1 (λo6 c0=>A.k2 o6 (λo7=>A.cond o7 ( K [] c0) ( b9 [] c0)))) ( b9 [] a1)))) ( A.cd .gtr n21 0 ( A.ari .sub .i64 n21 1 (λn157=>A.ix 2 a0 n157 2 a1 (λo8=>A.k16 o8 (λo9 p0=>A.ix 2 a0 n62 2 a1 (λp1=>A.k16 p1 (λn166 n168=>A.callv x14 [(.agg ⟨[(.int .i64 o9),(.int .u8 p0)]⟩),(.agg ⟨[(.int .i64 n166),(.int .u8 n168)]⟩)] [(.leaf (.i .i64))] a1 (λp2 c1=>A.k4 p2 (λp3=>A.cmp .lss p3 0 (λp4=>A.join (λp5 p6=>A.k4 p5 (λb1=>A.call 165 [(.v a0),(.i b1),(.i n27),(.i n62),(.v x14)] p6 (λp7 d0=>A.unI p7 (λa3 p8=>A.k2 p8 (λp9=>A.ari .sub .i64 a3 b1 (λd1=>A.ari .sub .i64 n27 a3 (λd2=>A.ari .quo .i64 n42 8 (λn187=>A.cmp .lss d1 d2 (λq0=>A.join (λq1 q2=>A.unB q1 (λq3 q5=>A.k10 q5 (λq6 q7=>a2 [(.i n51),(.i q6),(.b p9),(.b q3),(.i q7)] q2))) (λd3=>A.cond q0 ( A.cmp .geq d1 n187 (λq8=>A.call 131 [(.v a0),(.i b1),(.i a3),(.i n51),(.v x14)] d0 (λq9 r1=>A.un0 q9 ( A.ari .add .i64 a3 1 (λr2=>d3 [(.b q8),(.i r2),(.i n27)] r1))))) ( A.cmp .geq d2 n187 (λr3=>A.ari .add .i64 a3 1 (λr4=>A.call 131 [(.v a0),(.i r4),(.i n27),(.i n51),(.v x14)] d0 (λr5 r6=>A.un0 r5 ( d3 [(.b r3),(.i b1),(.i a3)] r6))))))))))))))) (λr7=>A.cond (!p4) ( A.call 164 [(.v a0),(.i n21),(.i n27),(.i n62),(.v x14)] c1 (λr8 r9=>A.k4 r8 (λs0=>a2 [(.i n51),(.i s0),(.b a9),(.b a7),(.i n27)] r9))) ( r7 [(.i n21)] c1))))))))))) ( A.call 165 [(.v a0),(.i n21),(.i n27),(.i n62),(.v x14)] a1 (λs1 d4=>A.unI s1 (λa4 s2=>A.k2 s2 (λs3=>A.ari .sub .i64 a4 n21 (λd5=>A.ari .sub .i64 n27 a4 (λd6=>A.ari .quo .i64 n42 8 (λd7=>A.cmp .lss d5 d6 (λs4=>A.join (λs5 s6=>A.unB s5 (λs7 s8=>A.k10 s8 (λs9 t0=>a2 [(.i n51),(.i s9),(.b s3),(.b s7),(.i t0)] s6))) (λd8=>A.cond s4 ( A.cmp .geq d5 d7 (λt1=>A.call 131 [(.v a0),(.i n21),(.i a4),(.i n51),(.v x14)] d4 (λt2 t3=>A.un0 t2 ( A.ari .add .i64 a4 1 (λt4=>d8 [(.b t1),(.i t4),(.i n27)] t3))))) ( A.cmp .geq d6 d7 (λt5=>A.ari .add .i64 a4 1 (λt6=>A.call 131 [(.v a0),(.i t6),(.i n27),(.i n51),(.v x14)] d4 (λt7 t9=>A.un0 t7 ( d8 [(.b t5),(.i n21),(.i a4)] t9)))))))))))))))) ( A.cd .gtr n21 0 ( A.ari .sub .i64 n21 1 (λuc=>A.ix 2 a0 uc 2 a1 (λu0=>A.k16 u0 (λu1 u2=>A.ix 2 a0 n62 2 a1 (λu3=>A.k16 u3 (λu4 u5=>A.callv x14 [(.agg ⟨[(.int .i64 u1),(.int .u8 u2)]⟩),(.agg ⟨[(.int .i64 u4),(.int .u8 u5)]⟩)] [(.leaf (.i .i64))] a1 (λu6 d9=>A.k4 u6 (λu7=>A.cmp .lss u7 0 (λu9=>A.join (λv0 v1=>A.k4 v0 (λb2=>A.call 165 [(.v a0),(.i b2),(.i n27),(.i n62),(.v x14)] v1 (λv2 e0=>A.unI v2 (λa5 v3=>A.k2 v3 (λv4=>A.ari .sub .i64 a5 b2 (λe1=>A.ari .sub .i64 n27 a5 (λe2=>A.ari .quo .i64 n42 8 (λe3=>A.cmp .lss e1 e2 (λv5=>A.join (λv6 v7=>A.unB v6 (λv8 v9=>A.k10 v9 (λw0 w1=>a2 [(.i n51),(.i w0),(.b v4),(.b v8),(.i w1)] v7))) (λe4=>A.cond v5 ( A.cmp .geq e1 e3 (λw2=>A.call 131 [(.v a0),(.i b2),(.i a5),(.i n51),(.v x14)] e0 (λw3 w4=>A.un0 w3 ( A.ari .add .i64 a5 1 (λw6=>e4 [(.b w2),(.i w6),(.i n27)] w4))))) ( A.cmp .geq e2 e3 (λxk=>A.ari .add .i64 a5 1 (λxl=>A.call 131 [(.v a0),(.i xl),(.i n27),(.i n51),(.v x14)] e0 (λxm xn=>A.un0 xm ( e4 [(.b xk),(.i b2),(.i a5)] xn))))))))))))))) (λxo=>A.cond (!u9) ( A.call 164 [(.v a0),(.i n21),(.i n27),(.i n62),(.v x14)] d9 (λxp xq=>A.k4 xp (λxr=>a2 [(.i n51),(.i xr),(.b a9),(.b a7),(.i n27)] xq))) ( xo [(.i n21)] d9))))))))))) ( A.call 165 [(.v a0),(.i n21),(.i n27),(.i n62),(.v x14)] a1 (λxt e6=>A.unI xt (λa6 xu=>A.k2 xu (λxv=>A.ari .sub .i64 a6 n21 (λf0=>A.ari .sub .i64 n27 a6 (λf1=>A.ari .quo .i64 n42 8 (λf2=>A.cmp .lss f0 f1 (λxw=>A.join (λxy xz=>A.unB xy (λxA xB=>A.k10 xB (λxC xD=>a2 [(.i n51),(.i xC),(.b xv),(.b xA),(.i xD)] xz))) (λf3=>A.cond xw ( A.cmp .geq f0 f2 (λxE=>A.call 131 [(.v a0),(.i n21),(.i a6),(.i n51),(.v x14)] e6 (λxF xG=>A.un0 xF ( A.ari .add .i64 a6 1 (λxH=>f3 [(.b xE),(.i xH),(.i n27)] xG))))) ( A.cmp .geq f1 f2 (λxI=>A.ari .add .i64 a6 1 (λxJ=>A.call 131 [(.v a0),(.i xJ),(.i n27),(.i n51),(.v x14)] e6 (λxK xL=>A.un0 xK ( f3 [(.b xI),(.i n21),(.i a6)] xL))))))))))))))))) (λf4=>A.cond i4 ( A.call 162 [(.v a0),(.i n21),(.i n27),(.v x14)] b3 (λxM xN=>A.un0 xM ( A.ari .sub .i64 n27 1 (λxO=>A.ari .sub .i64 n55 n21 (λxP=>A.ari .sub .i64 xO xP (λxQ=>f4 [(.i xQ),(.i 1)] xN)))))) ( f4 [(.i n55),(.i n57)] b3))))))) (λf6=>A.cond (!a7) ( A.call 160 [(.v a0),(.i n21),(.i n27),(.v x14)] a8 (λxR xS=>A.un0 xR ( A.ari .sub .i64 n19 1 (λxU=>f6 [(.i xU)] xS)))) ( f6 [(.i n19)] a8)))))))))))) [(.i g1),(.i n8),(.b true),(.b true),(.i n10)] h)))
def f132(ls:List Lf)(h:HT)(K:List Lf->HT->R):R:=A.k10 ls (λa1 n8=>A.call 60 [(.i a1),(.i n8)] h (λa5 a2=>A.k4 a5 (λa3=>A.cd .neq a3 0 ( K [(.v (.slice none 0 0)),(.i a3)] a2) ( A.new (.cells [(.slice none 0 0)] 1 true) a2 (λa4 a6=>A.call 166 [(.i a1),(.i n8)] a6 (λa7 a8=>A.k6 a7 (λa9=>A.rfun 2112 a9 [(.pointer (some ⟨a4,0,none⟩))] a8 (λb0 a0=>A.pend b0 ( A.peek (.lg cc 1 (.pointer (some ⟨a4,0,none⟩))) a0 (λb1=>A.ucV b1 (λx24 b2=>A.chk x24 ( A.uc0 b2 ( A.call 135 [(.v x24)] a0 (λb3 b4=>A.k6 b3 (λx28=>K [(.v x28),(.i 0)] b4))))))) ( K [(.v (.slice none 0 0)),(.i 0)] a0) []))))))))
def f133(ls:List Lf)(h:HT)(K:List Lf->HT->R):R:=A.k14 ls (λa0 n8 n10 a1=>A.call 110 [(.i a0),(.i n8),(.i n10),(.i a1)] h (λa2 a3=>A.k5 a2 (λn16 n18 n20=>A.call 154 [(.i a0),(.i n8),(.i n10),(.i a1)] a3 (λa4 a5=>A.k13 a4 (λn24 n26 n28 n30 n32=>A.call 167 [(.i n16),(.i n24),(.i n26)] a5 (λa6 a7=>A.k4 a6 (λn36=>A.call 167 [(.i n16),(.i n28),(.i n30)] a7 (λa8 a9=>A.k4 a8 (λb0=>K [(.i n16),(.i n18),(.i n36),(.i b0)] a9)))))))))
def f134(ls:List Lf)(h:HT)(K:List Lf->HT->R):R:=A.k13 ls (λa1 n8 n10 a3 n14=>A.join (λa4 a5=>A.k2 a4 (λa6=>K [(.b a6)] a5)) (λa0=>A.cd .geq a1 1 ( A.cd .leq a1 3 ( A.call 92 [(.i n8),(.i n10)] h (λa7 a2=>A.k4 a7 (λa8=>A.cd .eql a8 0 ( A.cmp .lss a3 n14 (λa9=>a0 [(.b a9)] a2)) ( a0 [(.b false)] a2)))) ( a0 [(.b false)] h)) ( a0 [(.b false)] h)))
def f135(ls:List Lf)(h:HT)(K:List Lf->HT->R):R:=A.k6 ls (λa0=>A.opt (lenS a0) (λx8=>A.opt (lenS a0) (λx9=>A.opt (slS 2 a0 none (some x8) (some x9)) (λa1=>A.chk a1 ( K [(.v a1)] h)))))
def f136(ls:List Lf)(h:HT)(K:List Lf->HT->R):R:=A.unV ls (λa0 g0=>A.unI g0 (λn8 g1=>A.k1 g1 (λn10 g2 x14=>A.loop (λg3 g4 a8=>A.unI g4 (λn19 g5=>A.unI g5 (λn21 g6=>A.unB g6 (λa9 g7=>A.unB g7 (λa7 g8=>A.k4 g8 (λn27=>A.join (λg9 h0=>A.unI g9 (λn31 h1=>A.unI h1 (λn33 h2=>A.unB h2 (λh3 h4=>A.unB h4 (λh5 h6=>A.k4 h6 (λh7=>g3 [(.i n31),(.i n33),(.b h3),(.b h5),(.i h7)] h0)))))) (λa2=>A.ari .sub .i64 n27 n21 (λn42=>A.cd .leq n42 12 ( A.call 168 [(.v a0),(.i n21),(.i n27),(.v x14)] a8 (λh8 h9=>A.un0 h8 ( K [] h9))) ( A.cd .eql n19 0 ( A.call 169 [(.v a0),(.i n21),(.i n27),(.v x14)] a8 (λi0 i1=>A.un0 i0 ( K [] i1))) ( A.join (λi2 i3=>A.k4 i2 (λn51=>A.call 171 [(.v a0),(.i n21),(.i n27),(.v x14)] i3 (λi4 b3=>A.k10 i4 (λn55 n57=>A.cmp .eql n57 2 (λi6=>A.join (λj0 a1=>A.k10 j0 (λn62 n64=>A.cond a7 ( A.cond a9 ( A.cmp .eql n64 1 (λj1=>A.join (λj2 b0=>A.un0 j2 ( A.cd .gtr n21 0 ( A.ari .sub .i64 n21 1 (λn70=>A.ix 3 a0 n70 3 b0 (λj3=>A.k17 j3 (λn73 n75 n77=>A.ix 3 a0 n62 3 b0 (λj4=>A.k17 j4 (λn81 n83 n85=>A.callv x14 [(.agg ⟨[(.int .i64 n73),(.int .u8 n75),(.int .u8 n77)]⟩),(.agg ⟨[(.int .i64 n81),(.int .u8 n83),(.int .u8 n85)]⟩)] [(.leaf (.i .i64))] b0 (λj5 b4=>A.k4 j5 (λn89=>A.cmp .lss n89 0 (λj6=>A.join (λj7 j8=>A.k4 j7 (λn94=>A.call 175 [(.v a0),(.i n94),(.i n27),(.i n62),(.v x14)] j8 (λj9 b5=>A.unI j9 (λn98 l0=>A.k2 l0 (λl1=>A.ari .sub .i64 n98 n94 (λn102=>A.ari .sub .i64 n27 n98 (λn103=>A.ari .quo .i64 n42 8 (λn104=>A.cmp .lss n102 n103 (λl2=>A.join (λl3 l4=>A.unB l3 (λl5 l6=>A.k10 l6 (λn110 n112=>a2 [(.i n51),(.i n110),(.b l1),(.b l5),(.i n112)] l4))) (λb6=>A.cond l2 ( A.cmp .geq n102 n104 (λl7=>A.call 136 [(.v a0),(.i n94),(.i n98),(.i n51),(.v x14)] b5 (λl8 l9=>A.un0 l8 ( A.ari .add .i64 n98 1 (λn118=>b6 [(.b l7),(.i n118),(.i n27)] l9))))) ( A.cmp .geq n103 n104 (λm0=>A.ari .add .i64 n98 1 (λn120=>A.call 136 [(.v a0),(.i n120),(.i n27),(.i n51),(.v x14)] b5 (λm1 m2=>A.un0 m1 ( b6 [(.b m0),(.i n94),(.i n98)] m2))))))))))))))) (λm3=>A.cond (!j6) ( A.call 174 [(.v a0),(.i n21),(.i n27),(.i n62),(.v x14)] b4 (λm4 m5=>A.k4 m4 (λn126=>a2 [(.i n51),(.i n126),(.b a9),(.b a7),(.i n27)] m5))) ( m3 [(.i n21)] b4))))))))))) ( A.call 175 [(.v a0),(.i n21),(.i n27),(.i n62),(.v x14)] b0 (λm6 b7=>A.unI m6 (λn130 m7=>A.k2 m7 (λm8=>A.ari .sub .i64 n130 n21 (λn134=>A.ari .sub .i64 n27 n130 (λn135=>A.ari .quo .i64 n42 8 (λn136=>A.cmp .lss n134 n135 (λm9=>A.join (λn0 n1=>A.unB n0 (λn2 n3=>A.k10 n3 (λn142 n4=>a2 [(.i n51),(.i n142),(.b m8),(.b n2),(.i n4)] n1))) (λb8=>A.cond m9 ( A.cmp .geq n134 n136 (λn6=>A.call 136 [(.v a0),(.i n21),(.i n130),(.i n51),(.v x14)] b7 (λo0 o1=>A.un0 o0 ( A.ari .add .i64 n130 1 (λo2=>b8 [(.b n6),(.i o2),(.i n27)] o1))))) ( A.cmp .geq n135 n136 (λo3=>A.ari .add .i64 n130 1 (λn152=>A.call 136 [(.v a0),(.i n152),(.i n27),(.i n51),(.v x14)] b7 (λo4 o5=>A.un0 o4 ( b8 [(.b o3),(.i n21),(.i n130)] o5)))))))))))))))) (λb9=>A.cond j1 ( A.call 173 [(.v a0),(.i n21),(.i n27),(.v x14)] a1 (λo6 c0=>A.k2 o6 (λo7=>A.cond o7 ( K [] c0) ( b9 [] c0)))) ( b9 [] a1)))) ( A.cd .gtr n21 0 ( A.ari .sub .i64 n21 1 (λo8=>A.ix 3 a0 o8 3 a1 (λo9=>A.k17 o9 (λp0 n166 n168=>A.ix 3 a0 n62 3 a1 (λp1=>A.k17 p1 (λp2 p3 n176=>A.callv x14 [(.agg ⟨[(.int .i64 p0),(.int .u8 n166),(.int .u8 n168)]⟩),(.agg ⟨[(.int .i64 p2),(.int .u8 p3),(.int .u8 n176)]⟩)] [(.leaf (.i .i64))] a1 (λp4 c1=>A.k4 p4 (λp5=>A.cmp .lss p5 0 (λp6=>A.join (λp7 p8=>A.k4 p7 (λb1=>A.call 175 [(.v a0),(.i b1),(.i n27),(.i n62),(.v x14)] p8 (λp9 d0=>A.unI p9 (λa3 q0=>A.k2 q0 (λq1=>A.ari .sub .i64 a3 b1 (λd1=>A.ari .sub .i64 n27 a3 (λd2=>A.ari .quo .i64 n42 8 (λd3=>A.cmp .lss d1 d2 (λq2=>A.join (λq3 q5=>A.unB q3 (λq6 q7=>A.k10 q7 (λq8 q9=>a2 [(.i n51),(.i q8),(.b q1),(.b q6),(.i q9)] q5))) (λd4=>A.cond q2 ( A.cmp .geq d1 d3 (λr1=>A.call 136 [(.v a0),(.i b1),(.i a3),(.i n51),(.v x14)] d0 (λr2 r3=>A.un0 r2 ( A.ari .add .i64 a3 1 (λr4=>d4 [(.b r1),(.i r4),(.i n27)] r3))))) ( A.cmp .geq d2 d3 (λr5=>A.ari .add .i64 a3 1 (λr6=>A.call 136 [(.v a0),(.i r6),(.i n27),(.i n51),(.v x14)] d0 (λr7 r8=>A.un0 r7 ( d4 [(.b r5),(.i b1),(.i a3)] r8))))))))))))))) (λr9=>A.cond (!p6) ( A.call 174 [(.v a0),(.i n21),(.i n27),(.i n62),(.v x14)] c1 (λs0 s1=>A.k4 s0 (λs2=>a2 [(.i n51),(.i s2),(.b a9),(.b a7),(.i n27)] s1))) ( r9 [(.i n21)] c1))))))))))) ( A.call 175 [(.v a0),(.i n21),(.i n27),(.i n62),(.v x14)] a1 (λs3 d5=>A.unI s3 (λa4 s4=>A.k2 s4 (λs5=>A.ari .sub .i64 a4 n21 (λd6=>A.ari .sub .i64 n27 a4 (λd7=>A.ari .quo .i64 n42 8 (λd8=>A.cmp .lss d6 d7 (λs6=>A.join (λs7 s8=>A.unB s7 (λs9 t0=>A.k10 t0 (λt1 t2=>a2 [(.i n51),(.i t1),(.b s5),(.b s9),(.i t2)] s8))) (λd9=>A.cond s6 ( A.cmp .geq d6 d8 (λt3=>A.call 136 [(.v a0),(.i n21),(.i a4),(.i n51),(.v x14)] d5 (λt4 t5=>A.un0 t4 ( A.ari .add .i64 a4 1 (λt6=>d9 [(.b t3),(.i t6),(.i n27)] t5))))) ( A.cmp .geq d7 d8 (λt7=>A.ari .add .i64 a4 1 (λt9=>A.call 136 [(.v a0),(.i t9),(.i n27),(.i n51),(.v x14)] d5 (λuc u0=>A.un0 uc ( d9 [(.b t7),(.i n21),(.i a4)] u0)))))))))))))))) ( A.cd .gtr n21 0 ( A.ari .sub .i64 n21 1 (λu1=>A.ix 3 a0 u1 3 a1 (λu2=>A.k17 u2 (λu3 u4 u5=>A.ix 3 a0 n62 3 a1 (λu6=>A.k17 u6 (λu7 u9 v0=>A.callv x14 [(.agg ⟨[(.int .i64 u3),(.int .u8 u4),(.int .u8 u5)]⟩),(.agg ⟨[(.int .i64 u7),(.int .u8 u9),(.int .u8 v0)]⟩)] [(.leaf (.i .i64))] a1 (λv1 e0=>A.k4 v1 (λv2=>A.cmp .lss v2 0 (λv3=>A.join (λv4 v5=>A.k4 v4 (λb2=>A.call 175 [(.v a0),(.i b2),(.i n27),(.i n62),(.v x14)] v5 (λv6 e1=>A.unI v6 (λa5 v7=>A.k2 v7 (λv8=>A.ari .sub .i64 a5 b2 (λe2=>A.ari .sub .i64 n27 a5 (λe3=>A.ari .quo .i64 n42 8 (λe4=>A.cmp .lss e2 e3 (λv9=>A.join (λw0 w1=>A.unB w0 (λw2 w3=>A.k10 w3 (λw4 w6=>a2 [(.i n51),(.i w4),(.b v8),(.b w2),(.i w6)] w1))) (λe6=>A.cond v9 ( A.cmp .geq e2 e4 (λxk=>A.call 136 [(.v a0),(.i b2),(.i a5),(.i n51),(.v x14)] e1 (λxl xm=>A.un0 xl ( A.ari .add .i64 a5 1 (λxn=>e6 [(.b xk),(.i xn),(.i n27)] xm))))) ( A.cmp .geq e3 e4 (λxo=>A.ari .add .i64 a5 1 (λxp=>A.call 136 [(.v a0),(.i xp),(.i n27),(.i n51),(.v x14)] e1 (λxq xr=>A.un0 xq ( e6 [(.b xo),(.i b2),(.i a5)] xr))))))))))))))) (λxt=>A.cond (!v3) ( A.call 174 [(.v a0),(.i n21),(.i n27),(.i n62),(.v x14)] e0 (λxu xv=>A.k4 xu (λxw=>a2 [(.i n51),(.i xw),(.b a9),(.b a7),(.i n27)] xv))) ( xt [(.i n21)] e0))))))))))) ( A.call 175 [(.v a0),(.i n21),(.i n27),(.i n62),(.v x14)] a1 (λxy f0=>A.unI xy (λa6 xz=>A.k2 xz (λxA=>A.ari .sub .i64 a6 n21 (λf1=>A.ari .sub .i64 n27 a6 (λf2=>A.ari .quo .i64 n42 8 (λf3=>A.cmp .lss f1 f2 (λxB=>A.join (λxC xD=>A.unB xC (λxE xF=>A.k10 xF (λxG xH=>a2 [(.i n51),(.i xG),(.b xA),(.b xE),(.i xH)] xD))) (λf4=>A.cond xB ( A.cmp .geq f1 f3 (λxI=>A.call 136 [(.v a0),(.i n21),(.i a6),(.i n51),(.v x14)] f0 (λxJ xK=>A.un0 xJ ( A.ari .add .i64 a6 1 (λxL=>f4 [(.b xI),(.i xL),(.i n27)] xK))))) ( A.cmp .geq f2 f3 (λxM=>A.ari .add .i64 a6 1 (λxN=>A.call 136 [(.v a0),(.i xN),(.i n27),(.i n51),(.v x14)] f0 (λxO xP=>A.un0 xO ( f4 [(.b xM),(.i n21),(.i a6)] xP))))))))))))))))) (λf6=>A.cond i6 ( A.call 172 [(.v a0),(.i n21),(.i n27),(.v x14)] b3 (λxQ xR=>A.un0 xQ ( A.ari .sub .i64 n27 1 (λxS=>A.ari .sub .i64 n55 n21 (λxU=>A.ari .sub .i64 xS xU (λxV=>f6 [(.i xV),(.i 1)] xR)))))) ( f6 [(.i n55),(.i n57)] b3))))))) (λgl=>A.cond (!a7) ( A.call 170 [(.v a0),(.i n21),(.i n27),(.v x14)] a8 (λxW xX=>A.un0 xW ( A.ari .sub .i64 n19 1 (λxY=>gl [(.i xY)] xX)))) ( gl [(.i n19)] a8)))))))))))) [(.i g2),(.i n8),(.b true),(.b true),(.i n10)] h)))
def f137(ls:List Lf)(h:HT)(K:List Lf->HT->R):R:=A.k10 ls (λa1 n8=>A.call 176 [(.i a1)] h (λa3 a4=>A.k2 a3 (λa5=>A.call 176 [(.i n8)] a4 (λa6 a0=>A.k2 a6 (λa2=>A.cond a5 ( A.cond a2 ( K [(.i 0)] a0) ( K [(.i (-1))] a0)) ( A.cond a2 ( K [(.i 1)] a0) ( A.cd .lss a1 n8 ( K [(.i (-1))] a0) ( A.cd .gtr a1 n8 ( K [(.i 1)] a0) ( K [(.i 0)] a0)))))))))
def f138(ls:List Lf)(h:HT)(K:List Lf->HT->R):R:=A.k14 ls (λa0 n8 n10 a2=>A.call 60 [(.i a0),(.i n8)] h (λa4 a3=>A.k4 a4 (λn16=>A.cd .neq n16 0 ( K [(.i 0),(.i 0),(.i 0),(.i n16)] a3) ( A.call 64 [(.i a0),(.i n8),(.i n10),(.i a2)] a3 (λa5 a1=>A.k5 a5 (λn21 n23 a6=>A.cd .neq a6 0 ( K [(.i 0),(.i 0),(.i 0),(.i 7)] a1) ( A.eqs [((.i n21),(.i n10)),((.i n23),(.i a2))] (λa7=>A.cond (!a7) ( K [(.i 0),(.i 0),(.i 0),(.i 7)] a1) ( A.call 112 [(.i a0),(.i n8),(.i n10)] a1 (λa8 a9=>A.k5 a8 (λn31 n33 n35=>K [(.i n31),(.i n33),(.i n35),(.i 0)] a9)))))))))))
def f139(ls:List Lf)(h:HT)(K:List Lf->HT->R):R:=A.k14 ls (λa1 n8 n10 a2=>A.call 117 [(.i a1),(.i n8),(.i n10)] h (λa7 a0=>A.k4 a7 (λn16=>A.cd .neq n16 0 ( K [(.i 0),(.i 0),(.i 1)] a0) ( A.cd .gtr a2 2 ( K [(.i 0),(.i 0),(.i 1)] a0) ( A.opt (inB 4 n10) (λx20=>A.opt (kM gl1 0 [(n10,17)] 17) (λx21=>A.ucI .i64 x21 (λn22 a8=>A.ucI .i64 a8 (λn24 a9=>A.ucI .u8 a9 (λn26 b0=>A.ucI .i64 b0 (λn28 b1=>A.ucI .i64 b1 (λn30 b2=>A.ucI .i64 b2 (λn32 b3=>A.ucI .u8 b3 (λn34 b4=>A.ucI .i64 b4 (λn36 b5=>A.ucI .i64 b5 (λn38 b6=>A.ucI .u8 b6 (λe1 b7=>A.ucI .i64 b7 (λn42 b8=>A.ucI .i64 b8 (λn44 b9=>A.ucI .u8 b9 (λn46 c0=>A.ucI .i64 c0 (λn48 c1=>A.ucI .i64 c1 (λn50 d0=>A.k12 d0 (λn52 n54=>A.ari .add .i64 a1 n28 (λn56=>A.cmp .eql a2 1 (λd1=>A.join (λd2 d3=>A.k10 d2 (λn60 n62=>A.call 92 [(.i n60),(.i n62)] d3 (λd4 a3=>A.k4 d4 (λn66=>A.cd .neq n66 0 ( K [(.i 0),(.i 0),(.i 3)] a3) ( K [(.i n60),(.i n62),(.i 0)] a3))))) (λa4=>A.cond d1 ( A.ari .add .i64 a1 n8 (λn70=>A.ari .add .i64 n70 1 (λn71=>a4 [(.i 3),(.i n71)] a0))) ( A.cmp .eql a2 2 (λd5=>A.join (λd6 d7=>A.k10 d6 (λn75 n77=>a4 [(.i n75),(.i n77)] d7)) (λa5=>A.cond d5 ( A.ari .sub .i64 n8 a1 (λn80=>a5 [(.i 4),(.i n80)] a0)) ( A.cmp .eql n26 2 (λd8=>A.join (λd9 e0=>A.k10 d9 (λn84 n86=>a5 [(.i n84),(.i n86)] e0)) (λa6=>A.cond d8 ( A.ari .add .i64 n8 n28 (λn89=>a6 [(.i n26),(.i n89)] a0)) ( a6 [(.i n26),(.i n56)] a0)))))))))))))))))))))))))))))))))
def f140(ls:List Lf)(h:HT)(K:List Lf->HT->R):R:=A.k5 ls (λa0 n8 n10=>A.ari .mul .i64 2 a0 (λa1=>A.ari .add .i64 a1 1 (λn13=>A.ari .mul .i64 2 n8 (λn14=>A.ari .add .i64 n14 1 (λn15=>K [(.i n13),(.i n15)] h)))))
def f141(ls:List Lf)(h:HT)(K:List Lf->HT->R):R:=A.k13 ls (λa0 n8 n10 a1 n14=>A.call 70 [(.i a0),(.i n8),(.i n10)] h (λa5 a2=>A.k4 a5 (λn18=>A.cd .neq n18 0 ( K [(.i 0),(.i 0),(.i 1)] a2) ( A.call 90 [(.i a1),(.i n14)] a2 (λa6 a3=>A.k4 a6 (λn23=>A.cd .neq n23 0 ( K [(.i 0),(.i 0),(.i 1)] a3) ( A.opt (inB 8 a0) (λx26=>A.opt (kM gl0 0 [(a0,4)] 4) (λx27=>A.ucI .i64 x27 (λn28 a7=>A.ucI .i64 a7 (λn30 a8=>A.k12 a8 (λn32 n34=>A.call 113 [(.i n28),(.i n30),(.i n32),(.i n34),(.i a1),(.i n14)] a3 (λa9 b0=>A.k10 a9 (λn38 b1=>A.ari .mul .i64 2 n8 (λn42=>A.ari .add .i64 n38 n42 (λn43=>A.ari .mul .i64 2 n10 (λn44=>A.ari .add .i64 b1 n44 (λn45=>A.call 90 [(.i n43),(.i n45)] b0 (λb2 a4=>A.k4 b2 (λn48=>A.cd .neq n48 0 ( K [(.i 0),(.i 0),(.i 3)] a4) ( K [(.i n43),(.i n45),(.i 0)] a4)))))))))))))))))))))
def f142(ls:List Lf)(h:HT)(K:List Lf->HT->R):R:=A.unV ls (λa1 a3=>A.k6 a3 (λx8=>A.opt (lenS a1) (λa4=>A.loop (λa5 a6 a0=>A.k4 a6 (λn14=>A.cd .lss n14 a4 ( A.ix 3 a1 n14 3 a0 (λa7=>A.k9 a7 (λn19 n21 n23=>A.callv x8 [(.agg ⟨[(.int .i64 n19),(.int .i64 n21),(.int .u8 n23)]⟩)] [(.leaf .b)] a0 (λa8 a2=>A.k2 a8 (λa9=>A.cond a9 ( K [(.i n14)] a2) ( A.ari .add .i64 n14 1 (λn29=>a5 [(.i n29)] a2))))))) ( K [(.i (-1))] a0))) [(.i 0)] h)))
def f152(ls:List Lf)(h:HT)(K:List Lf->HT->R):R:=A.k4 ls (λa0=>A.cmp .geq a0 4294967296 (λt8=>A.join (λa7 a2=>A.k10 a7 (λa1 n13=>A.cmp .geq a1 65536 (λa8=>A.join (λa9 a3=>A.k10 a9 (λn18 n20=>A.cmp .geq n18 256 (λb0=>A.join (λb1 b2=>A.k10 b1 (λb3 n27=>A.conv .u8 b3 (λn29=>A.opt (strAt (.mk ⟨[.ofNat 0,.ofNat 1,.ofNat 2,.ofNat 2,.ofNat 3,.ofNat 3,.ofNat 3,.ofNat 3,.ofNat 4,.ofNat 4,.ofNat 4,.ofNat 4,.ofNat 4,.ofNat 4,.ofNat 4,.ofNat 4,.ofNat 5,.ofNat 5,.ofNat 5,.ofNat 5,.ofNat 5,.ofNat 5,.ofNat 5,.ofNat 5,.ofNat 5,.ofNat 5,.ofNat 5,.ofNat 5,.ofNat 5,.ofNat 5,.ofNat 5,.ofNat 5,.ofNat 6,.ofNat 6,.ofNat 6,.ofNat 6,.ofNat 6,.ofNat 6,.ofNat 6,.ofNat 6,.ofNat 6,.ofNat 6,.ofNat 6,.ofNat 6,.ofNat 6,.ofNat 6,.ofNat 6,.ofNat 6,.ofNat 6,.ofNat 6,.ofNat 6,.ofNat 6,.ofNat 6,.ofNat 6,.ofNat 6,.ofNat 6,.ofNat 6,.ofNat 6,.ofNat 6,.ofNat 6,.ofNat 6,.ofNat 6,.ofNat 6,.ofNat 6,.ofNat 7,.ofNat 7,.ofNat 7,.ofNat 7,.ofNat 7,.ofNat 7,.ofNat 7,.ofNat 7,.ofNat 7,.ofNat 7,.ofNat 7,.ofNat 7,.ofNat 7,.ofNat 7,.ofNat 7,.ofNat 7,.ofNat 7,.ofNat 7,.ofNat 7,.ofNat 7,.ofNat 7,.ofNat 7,.ofNat 7,.ofNat 7,.ofNat 7,.ofNat 7,.ofNat 7,.ofNat 7,.ofNat 7,.ofNat 7,.ofNat 7,.ofNat 7,.ofNat 7,.ofNat 7,.ofNat 7,.ofNat 7,.ofNat 7,.ofNat 7,.ofNat 7,.ofNat 7,.ofNat 7,.ofNat 7,.ofNat 7,.ofNat 7,.ofNat 7,.ofNat 7,.ofNat 7,.ofNat 7,.ofNat 7,.ofNat 7,.ofNat 7,.ofNat 7,.ofNat 7,.ofNat 7,.ofNat 7,.ofNat 7,.ofNat 7,.ofNat 7,.ofNat 7,.ofNat 7,.ofNat 7,.ofNat 7,.ofNat 7,.ofNat 7,.ofNat 8,.ofNat 8,.ofNat 8,.ofNat 8,.ofNat 8,.ofNat 8,.ofNat 8,.ofNat 8,.ofNat 8,.ofNat 8,.ofNat 8,.ofNat 8,.ofNat 8,.ofNat 8,.ofNat 8,.ofNat 8,.ofNat 8,.ofNat 8,.ofNat 8,.ofNat 8,.ofNat 8,.ofNat 8,.ofNat 8,.ofNat 8,.ofNat 8,.ofNat 8,.ofNat 8,.ofNat 8,.ofNat 8,.ofNat 8,.ofNat 8,.ofNat 8,.ofNat 8,.ofNat 8,.ofNat 8,.ofNat 8,.ofNat 8,.ofNat 8,.ofNat 8,.ofNat 8,.ofNat 8,.ofNat 8,.ofNat 8,.ofNat 8,.ofNat 8,.ofNat 8,.ofNat 8,.ofNat 8,.ofNat 8,.ofNat 8,.ofNat 8,.ofNat 8,.ofNat 8,.ofNat 8,.ofNat 8,.ofNat 8,.ofNat 8,.ofNat 8,.ofNat 8,.ofNat 8,.ofNat 8,.ofNat 8,.ofNat 8,.ofNat 8,.ofNat 8,.ofNat 8,.ofNat 8,.ofNat 8,.ofNat 8,.ofNat 8,.ofNat 8,.ofNat 8,.ofNat 8,.ofNat 8,.ofNat 8,.ofNat 8,.ofNat 8,.ofNat 8,.ofNat 8,.ofNat 8,.ofNat 8,.ofNat 8,.ofNat 8,.ofNat 8,.ofNat 8,.ofNat 8,.ofNat 8,.ofNat 8,.ofNat 8,.ofNat 8,.ofNat 8,.ofNat 8,.ofNat 8,.ofNat 8,.ofNat 8,.ofNat 8,.ofNat 8,.ofNat 8,.ofNat 8,.ofNat 8,.ofNat 8,.ofNat 8,.ofNat 8,.ofNat 8,.ofNat 8,.ofNat 8,.ofNat 8,.ofNat 8,.ofNat 8,.ofNat 8,.ofNat 8,.ofNat 8,.ofNat 8,.ofNat 8,.ofNat 8,.ofNat 8,.ofNat 8,.ofNat 8,.ofNat 8,.ofNat 8,.ofNat 8,.ofNat 8,.ofNat 8,.ofNat 8,.ofNat 8,.ofNat 8,.ofNat 8,.ofNat 8]⟩) n29) (λb4=>A.conv .i64 b4 (λn31=>A.ari .add .i64 n27 n31 (λn32=>K [(.i n32)] b2)))))) (λa4=>A.cond b0 ( A.shf .shr .u64 n18 .u64 8 (λn34=>A.ari .add .i64 n20 8 (λn35=>a4 [(.i n34),(.i n35)] a3))) ( a4 [(.i n18),(.i n20)] a3))))) (λa5=>A.cond a8 ( A.shf .shr .u64 a1 .u64 16 (λn37=>A.ari .add .i64 n13 16 (λn38=>a5 [(.i n37),(.i n38)] a2))) ( a5 [(.i a1),(.i n13)] a2))))) (λa6=>A.cond t8 ( A.shf .shr .u64 a0 .u64 32 (λb5=>a6 [(.i b5),(.i 32)] h)) ( a6 [(.i a0),(.i 0)] h))))
def f153(ls:List Lf)(h:HT)(K:List Lf->HT->R):R:=A.k5 ls (λa0 n8 n10=>A.call 117 [(.i a0),(.i n8),(.i n10)] h (λa4 a1=>A.k4 a4 (λn14=>A.cd .neq n14 0 ( K [(.i 0),(.i 0),(.i 0),(.i 0),(.i 0),(.i 0),(.i 1)] a1) ( A.opt (inB 4 n10) (λd5=>A.opt (kM gl1 0 [(n10,17)] 17) (λa5=>A.ucI .i64 a5 (λn19 a6=>A.ucI .i64 a6 (λn21 a7=>A.ucI .u8 a7 (λn23 a8=>A.ucI .i64 a8 (λd6 a9=>A.ucI .i64 a9 (λn27 b0=>A.ucI .i64 b0 (λn29 b1=>A.ucI .u8 b1 (λn31 b2=>A.ucI .i64 b2 (λn33 b3=>A.ucI .i64 b3 (λn35 b4=>A.ucI .u8 b4 (λn37 b5=>A.ucI .i64 b5 (λd7 b6=>A.ucI .i64 b6 (λd8 b7=>A.ucI .u8 b7 (λn43 b8=>A.ucI .i64 b8 (λn45 b9=>A.ucI .i64 b9 (λn47 c0=>A.k12 c0 (λn49 n51=>A.loop (λc1 d0 a2=>A.unI d0 (λn56 d1=>A.k15 d1 (λn58 n60 n62 n64 n66 n68=>A.cd .lss n56 3 ( A.opt (inB 3 n56) (λx71=>A.opt (dF [(.i n58),(.i n60),(.i n62),(.i n64),(.i n66),(.i n68)] 0 [(n56,2)] 1) (λd2=>A.k4 d2 (λn73=>A.ari .mul .i64 2 a0 (λn75=>A.ari .add .i64 n73 n75 (λn76=>A.opt (inB 3 n56) (λx77=>A.opt (putL [(.i n58),(.i n60),(.i n62),(.i n64),(.i n66),(.i n68)] 0 [(n56,2)] [(.i n76)]) (λx78=>A.k15 x78 (λa3 n81 n83 n85 n87 n89=>A.opt (inB 3 n56) (λd9=>A.opt (dF [(.i a3),(.i n81),(.i n83),(.i n85),(.i n87),(.i n89)] 1 [(n56,2)] 1) (λd3=>A.k4 d3 (λn93=>A.ari .mul .i64 2 n8 (λn95=>A.ari .add .i64 n93 n95 (λn96=>A.opt (inB 3 n56) (λx97=>A.opt (putL [(.i a3),(.i n81),(.i n83),(.i n85),(.i n87),(.i n89)] 1 [(n56,2)] [(.i n96)]) (λd4=>A.k15 d4 (λn99 n101 n103 n105 n107 n109=>A.ari .add .i64 n56 1 (λn111=>c1 [(.i n111),(.i n99),(.i n101),(.i n103),(.i n105),(.i n107),(.i n109)] a2)))))))))))))))))) ( K [(.i n58),(.i n60),(.i n62),(.i n64),(.i n66),(.i n68),(.i 0)] a2)))) [(.i 0),(.i 1),(.i 1),(.i n45),(.i n47),(.i n49),(.i n51)] a1))))))))))))))))))))))
def f154(ls:List Lf)(h:HT)(K:List Lf->HT->R):R:=A.k14 ls (λa4 n8 n10 a1=>A.call 138 [(.i a4),(.i n8),(.i n10),(.i a1)] h (λa5 a2=>A.k14 a5 (λn16 n18 n20 n22=>A.cd .neq n22 0 ( K [(.i 0),(.i 0),(.i 0),(.i 0),(.i n22)] a2) ( A.call 153 [(.i n16),(.i n18),(.i n20)] a2 (λa6 a0=>A.unI a6 (λn27 a7=>A.k15 a7 (λn29 n31 n33 n35 n37 b4=>A.ari .add .u8 a1 1 (λa8=>A.ari .rem .u8 a8 3 (λn42=>A.opt (inB 3 n42) (λb5=>A.opt (dF [(.i n27),(.i n29),(.i n31),(.i n33),(.i n35),(.i n37)] 0 [(n42,2)] 2) (λa9=>A.k10 a9 (λn45 n47=>A.ari .add .u8 a1 2 (λn49=>A.ari .rem .u8 n49 3 (λn50=>A.opt (inB 3 n50) (λb6=>A.opt (dF [(.i n27),(.i n29),(.i n31),(.i n33),(.i n35),(.i n37)] 0 [(n50,2)] 2) (λb0=>A.k10 b0 (λn53 n55=>A.cd .lss n53 n45 ( K [(.i n53),(.i n55),(.i n45),(.i n47),(.i 0)] a0) ( A.cd .eql n53 n45 ( A.cmp .lss n55 n47 (λb1=>A.join (λb2 b3=>A.k14 b2 (λn62 n64 n66 n68=>K [(.i n62),(.i n64),(.i n66),(.i n68),(.i 0)] b3)) (λa3=>A.cond b1 ( a3 [(.i n53),(.i n55),(.i n45),(.i n47)] a0) ( a3 [(.i n45),(.i n47),(.i n53),(.i n55)] a0)))) ( K [(.i n45),(.i n47),(.i n53),(.i n55),(.i 0)] a0)))))))))))))))))))
def f155(ls:List Lf)(h:HT)(K:List Lf->HT->R):R:=A.k4 ls (λa0=>A.cmp .lss a0 (-1) (λt8=>A.sel t8 (-1) a0 (λn9=>A.cmp .lss 1 n9 (λa1=>A.sel a1 1 n9 (λa2=>K [(.i a2)] h)))))
def f156(ls:List Lf)(h:HT)(K:List Lf->HT->R):R:=A.unV ls (λa1 a2=>A.k10 a2 (λn8 n10=>A.opt (lenS a1) (λa3=>A.loop (λa4 a5 a0=>A.k4 a5 (λn16=>A.cd .lss n16 a3 ( A.ix 2 a1 n16 2 a0 (λa6=>A.k12 a6 (λn21 n23=>A.eqs [((.i n8),(.i n21)),((.i n10),(.i n23))] (λa7=>A.cond a7 ( K [(.i n16)] a0) ( A.ari .add .i64 n16 1 (λn26=>a4 [(.i n26)] a0)))))) ( K [(.i (-1))] a0))) [(.i 0)] h)))
def f157(ls:List Lf)(h:HT)(K:List Lf->HT->R):R:=A.unV ls (λa0 a1=>A.k10 a1 (λn8 n10=>A.call 182 [(.v a0),(.i n8),(.i n10),(.v (.func (.func 183) ⟨[]⟩ ⟨[]⟩))] h (λa2 a3=>A.unI a2 (λn14 a4=>A.k2 a4 (λa5=>K [(.i n14),(.b a5)] a3)))))
def f158(ls:List Lf)(h:HT)(K:List Lf->HT->R):R:=A.k18 ls (λa0 n8 n10 a5=>A.ari .add .i64 n8 1 (λn14=>A.loop (λa6 a7 a3=>A.k4 a7 (λn18=>A.cd .lss n18 n10 ( A.join (λa8 a9=>A.un0 a8 ( A.ari .add .i64 n18 1 (λn23=>a6 [(.i n23)] a9))) (λa4=>A.loop (λb0 b1 a1=>A.k4 b1 (λn28=>A.cd .gtr n28 n8 ( A.ix 2 a0 n28 2 a1 (λb2=>A.k16 b2 (λn33 n35=>A.ari .sub .i64 n28 1 (λn37=>A.ix 2 a0 n37 2 a1 (λb3=>A.k16 b3 (λb4 n42=>A.callv a5 [(.agg ⟨[(.int .i64 n33),(.int .u8 n35)]⟩),(.agg ⟨[(.int .i64 b4),(.int .u8 n42)]⟩)] [(.leaf (.i .i64))] a1 (λb5 a2=>A.k4 b5 (λn46=>A.cd .lss n46 0 ( A.ari .sub .i64 n28 1 (λn49=>A.ari .sub .i64 n28 1 (λn50=>A.ix 2 a0 n50 2 a2 (λb6=>A.k16 b6 (λn53 n55=>A.ix 2 a0 n28 2 a2 (λb7=>A.k16 b7 (λn59 n61=>A.opt (idS 2 a0 n28) (λb8=>A.heap (.st b8 [(.int .i64 n53),(.int .u8 n55)]) a2 (λd1 b9=>A.opt (idS 2 a0 n49) (λc0=>A.heap (.st c0 [(.int .i64 n59),(.int .u8 n61)]) b9 (λd2 c1=>A.ari .sub .i64 n28 1 (λd0=>b0 [(.i d0)] c1)))))))))))) ( a4 [] a2))))))))) ( a4 [] a1))) [(.i n18)] a3)) ( K [] a3))) [(.i n14)] h))
def f166(ls:List Lf)(h:HT)(K:List Lf->HT->R):R:=A.k10 ls (λa1 n8=>A.new (.cells [(.int .i64 a1),(.int .i64 n8)] 2 true) h (λa0 a2=>A.chk (.func (.func 187) ⟨[]⟩ ⟨[(.pointer (some ⟨a0,0,none⟩))]⟩) ( K [(.v (.func (.func 187) ⟨[]⟩ ⟨[(.pointer (some ⟨a0,0,none⟩))]⟩))] a2)))
def f167(ls:List Lf)(h:HT)(K:List Lf->HT->R):R:=A.k5 ls (λa0 n8 n10=>A.cd .eql a0 1 ( K [(.i n10)] h) ( K [(.i n8)] h))
def f168(ls:List Lf)(h:HT)(K:List Lf->HT->R):R:=A.k18 ls (λa0 n8 n10 a5=>A.ari .add .i64 n8 1 (λn14=>A.loop (λa6 a7 a3=>A.k4 a7 (λn18=>A.cd .lss n18 n10 ( A.join (λa8 a9=>A.un0 a8 ( A.ari .add .i64 n18 1 (λn23=>a6 [(.i n23)] a9))) (λa4=>A.loop (λb0 b1 a1=>A.k4 b1 (λn28=>A.cd .gtr n28 n8 ( A.ix 3 a0 n28 3 a1 (λb2=>A.k17 b2 (λn33 n35 n37=>A.ari .sub .i64 n28 1 (λb3=>A.ix 3 a0 b3 3 a1 (λb4=>A.k17 b4 (λn42 n44 n46=>A.callv a5 [(.agg ⟨[(.int .i64 n33),(.int .u8 n35),(.int .u8 n37)]⟩),(.agg ⟨[(.int .i64 n42),(.int .u8 n44),(.int .u8 n46)]⟩)] [(.leaf (.i .i64))] a1 (λb5 a2=>A.k4 b5 (λn50=>A.cd .lss n50 0 ( A.ari .sub .i64 n28 1 (λn53=>A.ari .sub .i64 n28 1 (λn54=>A.ix 3 a0 n54 3 a2 (λb6=>A.k17 b6 (λn57 n59 n61=>A.ix 3 a0 n28 3 a2 (λb7=>A.k17 b7 (λn65 n67 b8=>A.opt (idS 3 a0 n28) (λx71=>A.heap (.st x71 [(.int .i64 n57),(.int .u8 n59),(.int .u8 n61)]) a2 (λd0 b9=>A.opt (idS 3 a0 n53) (λc0=>A.heap (.st c0 [(.int .i64 n65),(.int .u8 n67),(.int .u8 b8)]) b9 (λd1 c1=>A.ari .sub .i64 n28 1 (λn77=>b0 [(.i n77)] c1)))))))))))) ( a4 [] a2))))))))) ( a4 [] a1))) [(.i n18)] a3)) ( K [] a3))) [(.i n14)] h))
def f176(ls:List Lf)(h:HT)(K:List Lf->HT->R):R:=A.k4 ls (λa0=>A.cmp .neq a0 a0 (λt8=>K [(.b t8)] h))
def f182(ls:List Lf)(h:HT)(K:List Lf->HT->R):R:=A.k18 ls (λa1 n8 n10 a2=>A.opt (lenS a1) (λx14=>A.loop (λa6 a7 a0=>A.k10 a7 (λn18 n20=>A.cd .lss n18 n20 ( A.ari .add .i64 n18 n20 (λn23=>A.conv .u64 n23 (λn24=>A.shf .shr .u64 n24 .u64 1 (λa8=>A.conv .i64 a8 (λn26=>A.ix 3 a1 n26 3 a0 (λa9=>A.k17 a9 (λn29 n31 n33=>A.callv a2 [(.agg ⟨[(.int .i64 n29),(.int .u8 n31),(.int .u8 n33)]⟩),(.agg ⟨[(.int .i64 n8),(.int .u8 n10)]⟩)] [(.leaf (.i .i64))] a0 (λb0 a3=>A.k4 b0 (λn37=>A.cmp .lss n37 0 (λb1=>A.join (λb2 b3=>A.k10 b2 (λn42 n44=>a6 [(.i n42),(.i n44)] b3)) (λa4=>A.cond b1 ( A.ari .add .i64 n26 1 (λn47=>a4 [(.i n47),(.i n20)] a3)) ( a4 [(.i n18),(.i n26)] a3)))))))))))) ( A.join (λb4 b5=>A.unI b4 (λn50 b6=>A.k2 b6 (λb7=>K [(.i n50),(.b b7)] b5))) (λa5=>A.cd .lss n18 x14 ( A.ix 3 a1 n18 3 a0 (λb8=>A.k17 b8 (λn58 n60 n62=>A.callv a2 [(.agg ⟨[(.int .i64 n58),(.int .u8 n60),(.int .u8 n62)]⟩),(.agg ⟨[(.int .i64 n8),(.int .u8 n10)]⟩)] [(.leaf (.i .i64))] a0 (λb9 c0=>A.k4 b9 (λn66=>A.cmp .eql n66 0 (λc1=>a5 [(.i n18),(.b c1)] c0)))))) ( a5 [(.i n18),(.b false)] a0))))) [(.i 0),(.i x14)] h))
def f183(ls:List Lf)(h:HT)(K:List Lf->HT->R):R:=A.k13 ls (λa0 n8 n10 a1 n14=>A.call 65 [(.i a0),(.i n8),(.i n10)] h (λa2 a3=>A.k10 a2 (λn18 n20=>A.call 66 [(.i n18),(.i n20),(.i a1),(.i n14)] a3 (λa4 a5=>A.k4 a4 (λn24=>K [(.i n24)] a5)))))
def f187(ls:List Lf)(h:HT)(K:List Lf->HT->R):R:=A.unV ls (λa5 a6=>A.k6 a6 (λx8=>A.peek (.lg cc 2 x8) h (λa7=>A.k12 a7 (λa8 n13=>A.call 108 [(.i a8),(.i n13)] h (λa9 b0=>A.k4 a9 (λn17=>A.loop (λb1 b2 a3=>A.k4 b2 (λn22=>A.cd .lss n22 n17 ( A.loop (λa0 b3 a1=>A.k4 b3 (λn28=>A.cd .lss n28 3 ( A.peek (.lg cc 2 x8) a1 (λb4=>A.k12 b4 (λn32 n34=>A.call 98 [(.i n32),(.i n34),(.i n22),(.i n28)] a1 (λb5 a2=>A.k10 b5 (λn38 b6=>A.cd .eql b6 0 ( A.cd .gtr n38 n22 ( A.callv a5 [(.agg ⟨[(.int .i64 n22),(.int .u8 n28)]⟩)] [(.leaf .b)] a2 (λb7 a4=>A.k2 b7 (λb8=>A.join (λb9 c0=>A.un0 b9 ( A.ari .add .u8 n28 1 (λn50=>a0 [(.i n50)] c0))) (λc1=>A.cond (!b8) ( K [] a4) ( c1 [] a4))))) ( A.ari .add .u8 n28 1 (λn52=>a0 [(.i n52)] a2))) ( A.ari .add .u8 n28 1 (λn53=>a0 [(.i n53)] a2))))))) ( A.ari .add .i64 n22 1 (λn54=>b1 [(.i n54)] a1)))) [(.i 0)] a3) ( K [] a3))) [(.i 0)] b0))))))
end
inductive Pth where
 |e
 |o (p:Pth)
 |i (p:Pth)
inductive Tr(α:Type) where
 |leaf
 |node (v:α) (l r:Tr α)
def Pth.num:Pth->Nat
 | .e=>1
 | .o p=>2*p.num
 | .i p=>2*p.num+1
def pthF:Nat->Nat->Pth
 |0,_=>.e
 |f+1,n=>if Nat.ble n 1 then .e else if Nat.beq (n%2) 0 then .o (pthF f (n / 2))else .i (pthF f (n / 2))
def bm(n:Nat):Pth:=pthF (n+1) (n+1)
def Pth.get{α:Type}(d:α)(p:Pth):Tr α->α:=
 Pth.rec (motive:=λ_=>Tr α->α)
  (λt=>Tr.casesOn t d λv _ _=>v)
  (λ_ ih t=>Tr.casesOn t d λ_ l _=>ih l)
  (λ_ ih t=>Tr.casesOn t d λ_ _ r=>ih r) p
def Pth.setK{α:Type}(d:α)(p:Pth):Tr α->α->(Tr α->Bool)->Bool:=
 Pth.rec (motive:=λ_=>Tr α->α->(Tr α->Bool)->Bool)
  (λt x k=>Tr.casesOn t (k (.node x .leaf .leaf)) λ_ l r=>k (.node x l r))
  (λ_ ih t x k=>Tr.casesOn t (ih .leaf x λl=>k (.node d l .leaf)) λv l r=>ih l x λl=>k (.node v l r))
  (λ_ ih t x k=>Tr.casesOn t (ih .leaf x λr=>k (.node d .leaf r)) λv l r=>ih r x λr=>k (.node v l r)) p
def eqI:Int->Int->Bool
 | .ofNat a,.ofNat b=>Nat.beq a b
 | .negSucc a,.negSucc b=>Nat.beq a b
 |_,_=>false
def kmax:IntKind->Nat
 | .i8=>127
 | .i16=>32767
 | .i32=>2147483647
 | .i64=>9223372036854775807
 | .u8=>255
 | .u16=>65535
 | .u32=>4294967295
 | .u64=>18446744073709551615
def fits(k:IntKind):Int->Bool
 | .ofNat n=>Nat.ble n (kmax k)
 | .negSucc n=>k.signed&&Nat.ble n (kmax k)
abbrev Lin:=List Int
def dot:List Int->List Int->Int
 |c :: l,x :: ρ=>c*x+dot l ρ
 |_,_=>0
def Lin.eval(l:Lin)(ρ:List Int):Int:=
 match l with
 | []=>0
 |c :: l=>c+dot l ρ
structure Ctx where
 iv:List (Int×Int)
 cs:List (List Int×Int×Int)
inductive Opd where
 |t (p:Pth)
 |c (v:Value)
inductive Ins where
 |mv (x:Opd)
 |pick (c a b:Opd)
 |ar (op:BinOp) (x y:Opd)
 |cmp (op:BinOp) (x y:Opd)
 |notb (x:Opd)
 |conv (k:IntKind) (x:Opd)
 |fld (x:Opd) (off:Nat)
 |flda (x:Opd) (off n:Nat)
 |ext (x:Opd) (i:Nat)
 |fad (x:Opd) (off:Nat)
 |lload (s:Nat) (p:Pth) (a:Opd)
 |lloada (s:Nat) (p:Pth) (n:Nat) (a:Opd)
 |lbox (s:Nat) (p:Pth) (x:Opd)
 |lnew (s:Nat) (p:Pth) (vs:List Value)
 |bld (z:List Value) (ps:List (Nat×Nat×Opd))
 |lstore (s:Nat) (p:Pth) (n:Nat) (a x:Opd)
 |call (f:FuncId) (args:List Opd)
 |gen
abbrev TV:=Tr Value
abbrev TL:=Tr (Option (List Value))
def rd(tm:TV):Opd->Value
 | .t p=>p.get undef tm
 | .c v=>v
structure XCfg where
 C:Cfg
 kf:FuncId->List Value->List HObj->Option (Value×List HObj)
abbrev KS:=Ctx->TV->TL->List HObj->Bool
structure XS where
 call:Ctx->FuncId->List Value->List HObj->(Ctx->Value->List HObj->Bool)->Bool
 yield:Ctx->Nat->List Value->List HObj->(Ctx->Value->List HObj->Bool)->Bool
 ex:Ctx->List Nat->Nat->Code->TV->TL->List HObj->KS->(Exit->KS)->Bool
theorem vF:∀(f n:Nat),n<=f->1<=n->(pthF f n).num=n
 |0,n,h,h1=>by omega
 |f+1,n,h,h1=>by
  unfold pthF
  by_cases hn:n<=1
  ·have:n=1:=by omega
   subst this
   rfl
  ·have h2:Nat.ble n 1=false:=by
    rw[←qaY,qbd];exact hn
   rw[h2]
   have ih:=vF f (n / 2) (by omega) (by omega)
   by_cases hm:n%2=0
   ·simp[hm,Pth.num,ih];omega
   ·simp[hm,Pth.num,ih];omega
theorem oJ(n:Nat):(bm n).num=n+1:=vF _ _ (qal _) (by omega)
theorem jI{a b:Nat}(h:bm a=bm b):a=b:=by
 have:=congrArg Pth.num h
 rw[oJ,oJ]at this
 omega
def Pth.set{α:Type}(d:α):Pth->Tr α->α->Tr α
 | .e,.leaf,x=>.node x .leaf .leaf
 | .e,.node _ l r,x=>.node x l r
 | .o p,.leaf,x=>.node d (Pth.set d p .leaf x) .leaf
 | .o p,.node v l r,x=>.node v (Pth.set d p l x) r
 | .i p,.leaf,x=>.node d .leaf (Pth.set d p .leaf x)
 | .i p,.node v l r,x=>.node v l (Pth.set d p r x)
theorem Pth.setK_eq{α:Type}(d:α):∀(p:Pth) (t:Tr α) (x:α) (k:Tr α->Bool),p.setK d t x k=k (p.set d t x)
 | .e,t,x,k=>by cases t<;>rfl
 | .o p,t,x,k=>by
  cases t with
  |leaf=>exact Pth.setK_eq d p .leaf x _
  |node v l r=>exact Pth.setK_eq d p l x _
 | .i p,t,x,k=>by
  cases t with
  |leaf=>exact Pth.setK_eq d p .leaf x _
  |node v l r=>exact Pth.setK_eq d p r x _
theorem Pth.get_leaf{α:Type}(d:α)(p:Pth):p.get d .leaf=d:=by cases p<;>rfl
theorem Pth.get_set{α:Type}(d:α):∀(p:Pth) (t:Tr α) (x:α),p.get d (p.set d t x)=x
 | .e,t,x=>by cases t<;>rfl
 | .o p,t,x=>by
  cases t with
  |leaf=>exact Pth.get_set d p .leaf x
  |node v l r=>exact Pth.get_set d p l x
 | .i p,t,x=>by
  cases t with
  |leaf=>exact Pth.get_set d p .leaf x
  |node v l r=>exact Pth.get_set d p r x
theorem Pth.get_set_ne{α:Type}(d:α):∀(p q:Pth) (t:Tr α) (x:α),q≠p->q.get d (p.set d t x)=q.get d t
 | .e,q,t,x,h=>by cases q<;>cases t<;>first|rfl|exact absurd rfl h|exact Pth.get_leaf d _
 | .o p,q,t,x,h=>by
  cases q with
  |e=>cases t<;>rfl
  |o q=>
   have hq:q≠p:=λe=>h (e▸rfl)
   cases t with
   |leaf=>exact(Pth.get_set_ne d p q .leaf x hq).trans (Pth.get_leaf d q)
   |node v l r=>exact Pth.get_set_ne d p q l x hq
  |i q=>
   cases t with
   |leaf=>exact Pth.get_leaf d q
   |node v l r=>rfl
 | .i p,q,t,x,h=>by
  cases q with
  |e=>cases t<;>rfl
  |i q=>
   have hq:q≠p:=λe=>h (e▸rfl)
   cases t with
   |leaf=>exact(Pth.get_set_ne d p q .leaf x hq).trans (Pth.get_leaf d q)
   |node v l r=>exact Pth.get_set_ne d p q r x hq
  |o q=>
   cases t with
   |leaf=>exact Pth.get_leaf d q
   |node v l r=>rfl
def Tr.map{α:Type}(f:α->α):Tr α->Tr α
 | .leaf=>.leaf
 | .node v l r=>.node (f v) (l.map f) (r.map f)
theorem eqI_iff{a b:Int}:eqI a b=true↔a=b:=by
 cases a<;>cases b<;>simp[eqI]<;>omega
theorem fits_iff{k:IntKind}{c:Int}(h:fits k c=true):(k.signed=true->-(kmax k:Int) - 1<=c)/\(k.signed=false->0<=c)/\c<=kmax k:=by
 cases c with
 |ofNat n=>
  simp only[fits,qbd]at h
  refine⟨λ_=>?_,λ_=>?_,?_⟩<;>simp<;>omega
 |negSucc n=>
  simp only[fits,qaa,qbd]at h
  refine⟨λ_=>?_,λhs=>?_,?_⟩
  ·omega
  ·rw[h.1]at hs;cases hs
  ·omega
theorem rF{k:IntKind}{c:Int}(h:fits k c=true):k.wrap c=c:=by
 obtain⟨h1,h2,h3⟩:=fits_iff h
 cases k<;>simp only[IntKind.signed,kmax,forall_const,reduceCtorEq,false_implies]at h1 h2 h3
 ·exact Go.IntWalk.i8_in c (by omega)
 ·exact Go.IntWalk.i16_in c (by omega)
 ·exact Go.IntWalk.i32_in c (by omega)
 ·exact Go.IntWalk.i64_in c (by omega)
 ·exact Go.IntWalk.u8_in c (by omega)
 ·exact Go.IntWalk.u16_in c (by omega)
 ·exact Go.IntWalk.u32_in c (by omega)
 ·exact Go.IntWalk.u64_in c (by omega)
section
variable [Val] {ρ:List Int}
def nQ(op:BinOp)(x y:Int):Option Bool:=
 match op with
 | .eql=>some (x==y)
 | .neq=>some (x != y)
 | .lss=>some (decide (x<y))
 | .leq=>some (decide (x<=y))
 | .gtr=>some (decide (x > y))
 | .geq=>some (decide (x ≥ y))
 |_=>none
def pe(op:BinOp)(k:IntKind)(x y n:Int):Prop:=∀(P:Program) (t:TypeId) (w:World),(binOp op t (.int k x) (.int k y)).run P w = .ok (.int k n) w
theorem bits_one{k:IntKind}(x:Int):((BitVec.ofInt k.bits x &&& BitVec.ofInt k.bits 1).toNat:Int)=x%2:=by
 have hb:k.bits=k.bits - 1+1:=by cases k<;>rfl
 generalize k.bits - 1=n at hb
 rw[hb]
 have h1:(BitVec.ofInt (n+1) 1).toNat=1:=by
  simp
 rw[BitVec.toNat_and,h1,Nat.and_one_is_mod,BitVec.toNat_ofInt]
 have hp:(0:Int)<2 ^ (n+1):=Int.pow_pos (by omega)
 have e:(2:Int) ^ (n+1)=2*2 ^ n:=by rw[Int.pow_succ];omega
 have h0:0<=x%(2 ^ (n+1):Int):=Int.emod_nonneg _ (by omega)
 have:((x%((2 ^ (n+1):Nat):Int)).toNat%2:Nat)=((x%(2 ^ (n+1):Int))%2:Int):=by
  have e2:((2 ^ (n+1):Nat):Int)=(2 ^ (n+1):Int):=by simp
  rw[e2]
  omega
 rw[this,e,Int.emod_emod_of_dvd _ ⟨2 ^ n,rfl⟩]
theorem nb{k:IntKind}{x n:Int}(hn:x%2=n):pe .and k x 1 n:=by
 intro P t w
 have hw:k.wrap n=n:=rF (by
  have h0:0<=n:=by omega
  have h1:n<=1:=by omega
  obtain⟨m,rfl⟩ : ∃m:Nat,n=m:=⟨n.toNat,by omega⟩
  show Nat.ble m (kmax k)=true
  rw[qbd]
  cases k<;>simp only[kmax]<;>omega)
 have hb:=bits_one (k:=k) x
 simp only[binOp,ne_eq,not_true_eq_false,if_false,Op.intBits]
 show Result.ok (Value.int k (k.wrap _)) w=_
 rw[hb,hn,hw]
end
section
variable [Val] {ρ:List Int}
structure Rep(pts:List Nat)(nt:Nat)(tm:TV)(lc:TL)(σ:St):Prop where
 len:σ.tmps.length=nt
 val:∀(i:Nat) v,σ.tmps[i]? = some v->(bm i).get undef tm=v
 llen:pts≠[]->σ.loc.length=nt
 loc:∀(i:Nat) x,σ.loc[i]? = some x->(bm i).get none lc=x
def ValStep(C:Cfg)(pts:List Nat)(σ:St)(o:Oper)(v:Value):Prop:=
 (∃e,am C pts (oval σ.tmps) o=some e/\aI σ e=some (σ,v))∨gS C σ.tmps o v
theorem ValStep.val{C:Cfg}{pts:List Nat}{σ:St}{o:Oper}{v:Value}(h:am C pts (oval σ.tmps) o=some (.val v)):ValStep C pts σ o v:=.inl ⟨_,h,rfl⟩
theorem nr(k:IntKind)(x:Int):k.wrap (x%(2 ^ k.bits:Int))=k.wrap x:=by
 unfold IntKind.wrap
 rw[Int.emod_emod_of_dvd _ (Int.dvd_refl _)]
theorem tX{k:IntKind}(m n:Nat):pe .and k m n (k.wrap (Nat.land m n:Nat)):=by
 intro P t w
 simp only[binOp,ne_eq,not_true_eq_false,if_false,Op.intBits]
 show Result.ok (Value.int k (k.wrap _)) w=_
 rw[←nr k (Nat.land m n:Nat)]
 congr 3
 have h2:∀x:Nat,(BitVec.ofInt k.bits (x:Int)).toNat=x%2 ^ k.bits:=λx=>by
  rw[BitVec.toNat_ofInt]
  have:((x:Int)%((2 ^ k.bits:Nat):Int))=((x%2 ^ k.bits:Nat):Int):=by simp
  rw[this,qcE]
 have h3:(BitVec.ofInt k.bits (m:Int) &&& BitVec.ofInt k.bits (n:Int)).toNat=(m &&& n)%2 ^ k.bits:=by
  rw[BitVec.toNat_and,h2,h2,Nat.and_mod_two_pow]
 rw[h3]
 simp
theorem ud{k:IntKind}(m n:Nat):pe .xor k m n (k.wrap (Nat.xor m n:Nat)):=by
 intro P t w
 simp only[binOp,ne_eq,not_true_eq_false,if_false,Op.intBits]
 show Result.ok (Value.int k (k.wrap _)) w=_
 rw[←nr k (Nat.xor m n:Nat)]
 congr 3
 have h2:∀x:Nat,(BitVec.ofInt k.bits (x:Int)).toNat=x%2 ^ k.bits:=λx=>by
  rw[BitVec.toNat_ofInt]
  have:((x:Int)%((2 ^ k.bits:Nat):Int))=((x%2 ^ k.bits:Nat):Int):=by simp
  rw[this,qcE]
 have h3:(BitVec.ofInt k.bits (m:Int) ^^^ BitVec.ofInt k.bits (n:Int)).toNat=(m ^^^ n)%2 ^ k.bits:=by
  rw[BitVec.toNat_xor,h2,h2,Nat.xor_mod_two_pow]
 rw[h3]
 simp
theorem wZ{k:IntKind}(m n:Nat):pe .or k m n (k.wrap (Nat.lor m n:Nat)):=by
 intro P t w
 simp only[binOp,ne_eq,not_true_eq_false,if_false,Op.intBits]
 show Result.ok (Value.int k (k.wrap _)) w=_
 rw[←nr k (Nat.lor m n:Nat)]
 congr 3
 have h2:∀x:Nat,(BitVec.ofInt k.bits (x:Int)).toNat=x%2 ^ k.bits:=λx=>by
  rw[BitVec.toNat_ofInt]
  have:((x:Int)%((2 ^ k.bits:Nat):Int))=((x%2 ^ k.bits:Nat):Int):=by simp
  rw[this,qcE]
 have h3:(BitVec.ofInt k.bits (m:Int) ||| BitVec.ofInt k.bits (n:Int)).toNat=(m ||| n)%2 ^ k.bits:=by
  rw[BitVec.toNat_or,h2,h2,Nat.or_mod_two_pow]
 rw[h3]
 simp
end
section
variable {R:Type}
theorem setK_eq{α:Type}(x:α):∀(l:List α) (i:Nat) (k:List α->R),setK x l i k=k (l.set i x)
 | [],_,_=>rfl
 |_ :: _,0,_=>rfl
 |a :: l,i+1,k=>setK_eq x l i λl=>k (a :: l)
theorem tv(n:Nat)(K:Nat->R):pX n K=K n:=by cases n<;>rfl
end
def SL.good:SL->Prop
 | .v x=>aP x=true
 |_=>True
def S0.good(x:S0):Prop:=∀l∈x.cells,l.good
def SV.gd:SV->Prop
 | .st x=>x.good
 | .tup xs=>(∀x∈xs,x.good)/\2<=xs.length
 | .no=>False
 |_=>True
theorem dD{x:Value}:aP x=true↔noLoc x=true/\bb x=true/\aU x=true/\aD x=false:=by
 unfold aP
 cases noLoc x<;>cases bb x<;>cases aU x<;>cases aD x<;>simp
theorem nZ{x:Value}(h:aP x=true):aQ x=true:=by
 obtain⟨h1,_,h2,_⟩:=dD.1 h
 simp[aQ,h1,h2]
theorem tw{x:Value}(h:aP x=true):x.cells = #[x]:=dI (dD.1 h).2.2.1
theorem SL.val_good{l:SL}(h:l.good):aP l.val=true:=by
 cases l with
 |v x=>exact h
 |_=>rfl
theorem S0.cells_val{x:S0}(h:x.good):x.val.cells=⟨x.cells.map SL.val⟩:=by
 cases x with
 |leaf l=>exact tw (SL.val_good (h l (by simp[S0.cells])))
 |agg cs=>rfl
theorem S0.noLoc{x:S0}(h:x.good):noLoc x.val=true:=by
 cases x with
 |leaf l=>exact(dD.1 (SL.val_good (h l (by simp[S0.cells])))).1
 |agg cs=>
  simp only[S0.val,Am.noLoc,qab,qaL]
  rintro _ ⟨l,hl,rfl⟩
  exact(dD.1 (SL.val_good (h l hl))).2.1
theorem S0.not_tuple{x:S0}(h:x.good):aD x.val=false:=by
 cases x with
 |leaf l=>exact(dD.1 (SL.val_good (h l (by simp[S0.cells])))).2.2.2
 |agg cs=>rfl
theorem S0.cells_ok{x:S0}(h:x.good):x.val.cells.toList.all aQ=true:=by
 rw[S0.cells_val h]
 simp only[qab,qaL]
 rintro _ ⟨l,hl,rfl⟩
 exact nZ (SL.val_good (h l hl))
theorem cells_ok'{cs:List SL}(h:∀l∈cs,l.good):(cs.map SL.val).all aQ=true:=by
 simp only[qab,qaL]
 rintro _ ⟨l,hl,rfl⟩
 exact nZ (SL.val_good (h l hl))
theorem ue{v:Value}(h:scalar v=true):aP v=true:=by
 cases v<;>first|rfl|(simp[scalar]at h;done)|skip
 case pointer a=>cases a<;>first|rfl|simp[scalar]at h
 case slice a l c=>
  cases a with
  |none=>rfl
  |some a=>cases l<;>cases c<;>simp[scalar]at h
theorem qH(v:Value):(slOf v).val=v:=by cases v<;>rfl
theorem ni{v:Value}(h:scalar v=true):(slOf v).good:=by
 cases v<;>first|trivial|exact ue h
theorem qD{v:Value}{x:S0}(h:s0Of v=some x):x.val=v/\x.good/\eG v=true:=by
 unfold s0Of at h
 split at h
 ·rename_i cs
  split at h
  ·rename_i ha
   cases h
   refine⟨?_,?_,ha⟩
   ·simp only[S0.val,qc5,Value.agg.injEq]
    have:(SL.val ∘ slOf)=id:=funext qH
    rw[this,List.map_id]
   ·intro l hl
    simp only[S0.cells,qaL]at hl
    obtain⟨v,hv,rfl⟩:=hl
    exact ni (qab.1 ha v hv)
  ·cases h
 ·rename_i hne
  split at h
  ·rename_i hs
   cases h
   refine⟨qH v,?_,?_⟩
   ·intro l hl
    simp only[S0.cells,qay]at hl
    subst hl
    exact ni hs
   ·cases v<;>first|exact hs|exact absurd rfl (hne _)
  ·cases h
theorem dd{a b:IntKind}(h:de a b=true):a=b:=by
 cases a<;>cases b<;>first|rfl|cases h
theorem dt(a:IntKind):de a a=true:=by cases a<;>rfl
section
variable [Val] [Kno]
def Told(sks:List SK)(ls:List Lf)(xs:List S0):Prop:=bJ xs sks=true/\bL xs=ls/\∀x∈xs,x.good
def aB(C:Cfg)(Sg:FuncId->Option Sig)(g:FuncId)(ls:List Lf)(H:List HObj)(rs:List Lf)(H':List HObj):Prop:=
 ∃sg xs ys,Sg g=some sg/\Told sg.ps ls xs/\Told sg.rs rs ys/\gM C g (af xs) H (eI (af ys)) H'
def sR(C:Cfg)(v:Value)(args:List Value)(hs:List SK)(H:List HObj)(rs:List Lf)(H':List HObj):Prop:=
 ∃ys,Told hs rs ys/\((∃g first cap,v = .func (.func g) first cap/\gM C g (first.toList++args++cap.toList) H (eI (af ys)) H')∨
  (∃l,v = .func (.yield l) #[] #[]/\ja C l args H (eI (af ys)) H'))
def nz(nt:Nat):List (Nat×SK)->List Value->List Value->List Value
 |(t,_) :: l,v :: vs,tm=>nz nt l vs (tm.set t v)
 |_,_,tm=>tm
def lpOf(s:Site)(κ:Nat)(vals:List Value):ALoop:=
 { state:=.ready,pending:=none,fn:=κ,tmps:=nz s.nt s.caps vals (List.replicate s.nt poison),params:=s.params.map (·.1),assign:=s.assign.erase oA,body:=s.body.erase oA }
def fY:Lf->Lf->Bool
 | .i a,.i b=>a==b
 | .b a,.b b=>a==b
 |_,_=>false
def ca(l:List (Lf×Lf)):Bool:=l.all λp=>fY p.1 p.2
def ShRun(op:BinOp)(k:IntKind)(x:Int)(k':IntKind)(y n:Int):Prop:=∀(P:Program) (t:TypeId) (w:World),(binOp op t (.int k x) (.int k' y)).run P w = .ok (.int k n) w
structure AlgOk{R HT:Type}(A:Alg R HT)(C:Cfg)(Sg:FuncId->Option Sig)(T:Nat->Site)(holds:R->Prop)(abs:HT->List HObj):Prop where
 fail:¬holds A.fail
 cond:∀b x y,holds (A.cond b x y)->(b=true/\holds x)∨(b=false/\holds y)
 ari:∀op k a b K,holds (A.ari op k a b K)->∃n,pe op k a b n/\holds (K n)
 shf:∀op k a k' b K,holds (A.shf op k a k' b K)->∃n,ShRun op k a k' b n/\holds (K n)
 cmp:∀op a b K,holds (A.cmp op a b K)->∃t,nQ op a b=some t/\holds (K t)
 eqs:∀l K,holds (A.eqs l K)->holds (K (ca l))
 conv:∀k a K,holds (A.conv k a K)->holds (K (k.wrap a))
 sel:∀t a b K,holds (A.sel t a b K)->holds (K (if t then a else b))
 opt:∀ {α:Type} (o:Option α) K,holds (A.opt o K)->∃x,o=some x/\holds (K x)
 chk:∀v K,holds (A.chk v K)->aP v=true/\holds K
 unI:∀ls K,holds (A.unI ls K)->∃n r,ls = .i n :: r/\holds (K n r)
 unB:∀ls K,holds (A.unB ls K)->∃t r,ls = .b t :: r/\holds (K t r)
 unV:∀ls K,holds (A.unV ls K)->∃x r,ls = .v x :: r/\holds (K x r)
 un0:∀ls K,holds (A.un0 ls K)->ls=[]/\holds K
 ucI:∀k ls K,holds (A.ucI k ls K)->∃n r,ls = .int k n :: r/\holds (K n r)
 ucB:∀ls K,holds (A.ucB ls K)->∃t r,ls = .bool t :: r/\holds (K t r)
 ucV:∀ls K,holds (A.ucV ls K)->∃x r,ls=x :: r/\holds (K x r)
 uc0:∀ls K,holds (A.uc0 ls K)->ls=[]/\holds K
 peek:∀f h K,holds (A.peek f h K)->∃cs,f.run (λi=>(abs h)[i]?)=some cs/\holds (K cs)
 heap:∀f h K,holds (A.heap f h K)->∃acts cs h',f.run (λi=>(abs h)[i]?) (abs h).length=some (acts,cs)/\abs h'=fG (abs h) acts/\holds (K cs h')
 new:∀o h K,holds (A.new o h K)->∃h',abs h'=abs h++[o]/\holds (K (abs h).length h')
 call:∀g ls h K,holds (A.call g ls h K)->∃rs h',aB C Sg g ls (abs h) rs (abs h')/\holds (K rs h')
 callv:∀v args hs h K,holds (A.callv v args hs h K)->∃rs h',sR C v args hs (abs h) rs (abs h')/\holds (K rs h')
 join:∀b m,holds (A.join b m)->holds (m b)
 loop:∀F ls h,holds (A.loop F ls h)->∃it:Nat->List Lf->HT->R,(∀ls h,¬holds (it 0 ls h))/\(∀n ls h,it (n+1) ls h=F (it n) ls h)/\∃n,holds (it n ls h)
 rfun:∀κ v vals h K,holds (A.rfun κ v vals h K)->∃g first cap r H1 lp h2,v = .func (.func g) first cap/\
  gM C g (first.toList++[.func (.yield (abs h).length) #[] #[]]++cap.toList) (abs h++[.loop (lpOf (T κ) κ vals)]) r H1/\
  dQ H1 (abs h).length=some lp/\lp.state≠.busy/\abs h2=H1.set (abs h).length (.loop { lp with state:=.exhausted })/\holds (K lp.pending h2)
 pend:∀pd kn kr ks,holds (A.pend pd kn kr ks)->(pd=none/\holds kn)∨(pd=some .ret/\holds kr)∨∃id x,pd=some (.exit id)/\(id,x)∈ks/\holds x
 lp1:∀l h K,holds (A.lp1 l h K)->∃lp h',dQ (abs h) l=some lp/\lp.state = .ready/\abs h'=(abs h).set l (.loop { lp with state:=.busy })/\holds (K h')
 lp2:∀l j h K,holds (A.lp2 l j h K)->∃lp h',dQ (abs h) l=some lp/\abs h'=(abs h).set l (.loop { lp with state:=if j.isNone then .ready else .done,pending:=j })/\holds (K h')
def SV.ok(tmps:List Value)(i:Nat)(s:SV):Prop:=
 match s with
 | .no=>True
 |s=>tmps[i]? = some s.val/\s.gd
def LR.ok(loc:List (Option (List Value)))(i:Nat):LR->Prop
 | .unk=>True
 | .nil=>loc[i]? = some none
 | .any n=>∃vs,loc[i]? = some (some vs)/\vs.length=n
 | .row cs=>loc[i]? = some (some (cs.map SL.val))/\∀c∈cs,c.good
structure Rp(ev:Env)(σ:St):Prop where
 len:ev.tm.length=σ.tmps.length
 val:∀(i:Nat) s,ev.tm[i]? = some s->s.ok σ.tmps i
 llen:ev.lc.length=σ.loc.length
 row:∀(i:Nat) r,ev.lc[i]? = some r->r.ok σ.loc i
theorem SV.ok_gd{tmps:List Value}{i:Nat}{s:SV}(h:s.gd)(hv:tmps[i]? = some s.val):s.ok tmps i:=by
 cases s<;>first|trivial|exact⟨hv,h⟩
theorem Rp.at{ev:Env}{σ:St}(h:Rp ev σ){t:Nat}{s:SV}(hs:ev.tm.getD t .no=s)(hn:s≠.no):σ.tmps[t]? = some s.val/\s.gd:=by
 rw[List.getD_eq_getElem?_getD]at hs
 cases he:ev.tm[t]? with
 |none=>rw[he]at hs;exact absurd hs.symm hn
 |some x=>
  rw[he]at hs
  simp only[qbm]at hs
  subst hs
  have:=h.val t x he
  cases x<;>first|exact this|exact absurd rfl hn
theorem Rp.sval{ev:Env}{σ:St}(h:Rp ev σ){x:Operand}{s:SV}(hs:sval ev x=s)(hn:s≠.no):oval σ.tmps x=s.val/\s.gd:=by
 cases x with
 |tmp t=>
  obtain⟨h1,h2⟩:=h.at (t:=t) hs hn
  exact⟨by simp[oval,List.getD_eq_getElem?_getD,h1],h2⟩
 |const v=>
  simp only[Am.sval]at hs
  cases hv:s0Of v with
  |none=>rw[hv]at hs;exact absurd hs.symm hn
  |some x=>
   rw[hv]at hs
   subst hs
   obtain⟨h1,h2,h3⟩:=qD hv
   refine⟨?_,h2⟩
   have:flat v=true:=by cases v<;>first|exact h3|(simp[eG,scalar]at h3)
   simp[oval,this,SV.val,h1]
 |global g=>
  subst hs
  simp only[Am.sval,oval]
  cases hb:Nat.blt g gB with
  |true=>exact⟨rfl,trivial⟩
  |false=>exact absurd (by simp only[Am.sval,hb]) hn
 |func f=>
  subst hs
  refine⟨rfl,λl hl=>?_⟩
  simp only[S0.cells,qay]at hl
  subst hl
  rfl
theorem Rp.sval0{ev:Env}{σ:St}(h:Rp ev σ){x:Operand}{s:S0}(hs:sval0 ev x=some s):oval σ.tmps x=s.val/\s.good:=by
 unfold Am.sval0 at hs
 split at hs
 ·rename_i y e
  cases hs
  exact h.sval e (by simp)
 ·cases hs
theorem Rp.svals{ev:Env}{σ:St}(h:Rp ev σ):∀ {l:List Operand} {xs:List S0},svals ev l=some xs->l.map (oval σ.tmps)=af xs/\∀x∈xs,x.good
 | [],xs,hs=>by cases hs;exact⟨rfl,by simp⟩
 |o :: l,xs,hs=>by
  simp only[Am.svals]at hs
  split at hs
  ·rename_i x ys e1 e2
   cases hs
   obtain⟨h1,h2⟩:=h.sval0 e1
   obtain⟨h3,h4⟩:=h.svals e2
   refine⟨by simp[af,h1];exact h3,λy hy=>?_⟩
   rcases qam.1 hy with rfl|hy
   ·exact h2
   ·exact h4 y hy
  ·cases hs
theorem Rp.put{ev:Env}{σ:St}(h:Rp ev σ)(d:Nat){s:SV}(hs:s.gd):Rp ⟨ev.tm.set d s,ev.lc⟩ (σ.put (some d) s.val):=by
 refine⟨by simp[St.put,h.len],λi x hx=>?_,h.llen,h.row⟩
 simp only[qaS]at hx
 split at hx
 ·rename_i hi
  subst hi
  split at hx
  ·rename_i hlt
   cases hx
   refine SV.ok_gd hs ?_
   simp only[St.put,List.getElem?_set_self']
   rw[qax (by rw[←h.len];exact hlt)]
   rfl
  ·cases hx
 ·rename_i hi
  have:=h.val i x hx
  cases x<;>first|trivial|exact⟨by simp only[St.put];rw[qat hi];exact this.1,this.2⟩
theorem Rp.heap{ev:Env}{σ:St}(h:Rp ev σ)(H:List HObj):Rp ev { σ with heap:=H }:=⟨h.len,h.val,h.llen,h.row⟩
structure Fr(ws ks rs:List Nat)(σ σ':St):Prop where
 tlen:σ'.tmps.length=σ.tmps.length
 llen:σ'.loc.length=σ.loc.length
 tm:∀(i:Nat) v,σ.tmps[i]? = some v->i∉ws->noLoc v=true->σ'.tmps[i]? = some v
 tp:∀(i s off:Nat),σ.tmps[i]? = some (.pointer (some ⟨s,off,some 0⟩))->i∉ws->s∉ks->σ'.tmps[i]? = some (.pointer (some ⟨s,off,some 0⟩))
 row:∀(s:Nat) x,σ.loc[s]? = some x->s∉rs->σ'.loc[s]? = some x
 rlen:∀(s:Nat) vs,σ.loc[s]? = some (some vs)->s∉ks->∃vs',σ'.loc[s]? = some (some vs')/\vs'.length=vs.length
theorem Fr.refl(ws ks rs:List Nat)(σ:St):Fr ws ks rs σ σ:=⟨rfl,rfl,λ_ _ h _ _=>h,λ_ _ _ h _ _=>h,λ_ _ h _=>h,λ_ vs h _=>⟨vs,h,rfl⟩⟩
theorem Fr.trans{ws ks rs:List Nat}{σ σ₁ σ':St}(h:Fr ws ks rs σ σ₁)(h':Fr ws ks rs σ₁ σ'):Fr ws ks rs σ σ':=
 ⟨h'.tlen.trans h.tlen,h'.llen.trans h.llen,λi v a b c=>h'.tm i v (h.tm i v a b c) b c,λi s off a b c=>h'.tp i s off (h.tp i s off a b c) b c,
  λs x a b=>h'.row s x (h.row s x a b) b,λs vs a b=>let ⟨v1,c1,d1⟩:=h.rlen s vs a b;let ⟨v2,c2,d2⟩:=h'.rlen s v1 c1 b;⟨v2,c2,d2.trans d1⟩⟩
theorem Fr.mono{ws ks rs ws' ks' rs':List Nat}{σ σ':St}(h:Fr ws ks rs σ σ')(h1:∀i∈ws,i∈ws')(h2:∀i∈ks,i∈ks')(h3:∀i∈rs,i∈rs'):Fr ws' ks' rs' σ σ':=
 ⟨h.tlen,h.llen,λi v a b c=>h.tm i v a (λhi=>b (h1 i hi)) c,λi s off a b c=>h.tp i s off a (λhi=>b (h1 i hi)) (λhi=>c (h2 s hi)),
  λs x a b=>h.row s x a (λhi=>b (h3 s hi)),λs vs a b=>h.rlen s vs a (λhi=>b (h2 s hi))⟩
theorem Fr.heap{ws ks rs:List Nat}{σ σ':St}(h:Fr ws ks rs σ σ')(H:List HObj):Fr ws ks rs σ { σ' with heap:=H }:=⟨h.tlen,h.llen,h.tm,h.tp,h.row,h.rlen⟩
theorem Fr.put{σ:St}(dst:Option Tmp)(v:Value)(ks rs:List Nat):Fr dst.toList ks rs σ (σ.put dst v):=by
 cases dst with
 |none=>exact .refl _ _ _ _
 |some d=>
  refine⟨by simp[St.put],rfl,λi x h hi _=>?_,λi s off h hi _=>?_,λ_ _ h _=>h,λ_ vs h _=>⟨vs,h,rfl⟩⟩<;>
  ·simp only[Option.toList_some,qay]at hi
   simp only[St.put]
   rw[qat (λe=>hi e.symm)]
   exact h
end
inductive HO where
 |o (x:HObj)
 |lp (κ:Nat) (st:LoopState) (pd:Option Code) (vs:List Value)
abbrev HL:=List HO
inductive CK where
 |f (g:FuncId)
 |y (κ:Nat) (vs:List Value) (l:Nat)
def absO(T:Nat->Site):HO->HObj
 | .o x=>x
 | .lp κ st pd vs=>.loop { lpOf (T κ) κ vs with state:=st,pending:=pd }
def absH(T:Nat->Site)(h:HL):List HObj:=h.map (absO T)
namespace Sx
inductive HOT where
 |o (x:HObj)
 |lp (κ:Nat) (st:LoopState) (pd:Option Code) (vs:List Value)
 |t (n e:Nat) (rw:Bool) (c:Tr Value)
def nilV:Value:=.bool false
def bB(c:Tr Value)(n:Nat):List Value:=(List.range n).map λi=>(bm i).get nilV c
def HOT.ho:HOT->HO
 | .o x=>.o x
 | .lp κ st pd vs=>.lp κ st pd vs
 | .t n e rw c=>.o (.cells (bB c n) e rw)
structure HTr where
 n:Nat
 t:Tr HOT
def noO:HOT:=.o .dead
def HTr.empty:HTr:=⟨0,.leaf⟩
def HTr.at(h:HTr)(i:Nat):Option HOT:=match Nat.blt i h.n with
 |true=>some ((bm i).get noO h.t)
 |false=>none
def toL(h:HTr):HL:=(List.range h.n).map λi=>((bm i).get noO h.t).ho
theorem di(h:HTr):(toL h).length=h.n:=by simp[toL]
theorem ip(h:HTr)(i:Nat):(toL h)[i]? = (h.at i).map HOT.ho:=by
 unfold toL HTr.at
 rw[qas]
 cases e:Nat.blt i h.n with
 |true=>
  rw[qaT]at e
  rw[qb5 e];rfl
 |false=>
  have:h.n<=i:=by
   rcases qaw i h.n with h1|h1
   ·rw[←qaT,e]at h1;cases h1
   ·exact h1
  rw[qaf (by simpa using this)];rfl
def HTr.put(h:HTr)(i:Nat)(o:HOT):HTr:=match Nat.blt i h.n with
 |true=>⟨h.n,(bm i).set noO h.t o⟩
 |false=>h
def HTr.push(h:HTr)(o:HOT):HTr:=⟨h.n+1,(bm h.n).set noO h.t o⟩
theorem gw(h:HTr)(i:Nat)(o:HOT):toL (h.put i o)=(toL h).set i o.ho:=by
 apply qaU
 intro j
 unfold HTr.put
 cases e:Nat.blt i h.n with
 |true=>
  rw[qaT]at e
  simp only
  rw[ip]
  by_cases hj:i=j
  ·subst hj
   rw[qaE (by rw[di];exact e)]
   unfold HTr.at
   simp only[(qaT▸e:Nat.blt i h.n=true)]
   rw[Pth.get_set];rfl
  ·rw[qat hj,ip]
   unfold HTr.at
   simp only
   rw[Pth.get_set_ne _ _ _ _ _ (λh=>hj (jI h).symm)]
 |false=>
  simp only
  have:h.n<=i:=by
   rcases qaw i h.n with h1|h1
   ·rw[←qaT,e]at h1;cases h1
   ·exact h1
  rw[List.set_eq_of_length_le (by rw[di];exact this)]
theorem fE(h:HTr)(o:HOT):toL (h.push o)=toL h++[o.ho]:=by
 apply qaU
 intro j
 rw[ip]
 unfold HTr.push HTr.at
 simp only
 by_cases h1:j<h.n
 ·rw[qae (by rw[di];exact h1),ip]
  unfold HTr.at
  have e1:Nat.blt j (h.n+1)=true:=by rw[qaT];omega
  have e2:Nat.blt j h.n=true:=by rw[qaT];omega
  simp only[e1,e2]
  rw[Pth.get_set_ne _ _ _ _ _ (λh=>by have:=jI h;omega)]
 ·rw[qak (by rw[di];omega),di]
  by_cases h2:j=h.n
  ·subst h2
   have e1:Nat.blt h.n (h.n+1)=true:=by rw[qaT];omega
   simp only[e1,qbA,qa6]
   rw[Pth.get_set];rfl
  ·have e1:Nat.blt j (h.n+1)=false:=by rw[←qaY,qaT];omega
   simp only[e1]
   rw[qaf (by simp;omega)];rfl
theorem aS(c:Tr Value)(n:Nat):(bB c n).length=n:=by simp[bB]
theorem dp(c:Tr Value){n i:Nat}(h:i<n):(bB c n)[i]? = some ((bm i).get nilV c):=by
 unfold bB
 rw[qas,qb5 h];rfl
def insT:List Value->Nat->Tr Value->Tr Value
 | [],_,c=>c
 |v :: l,i,c=>insT l (i+1) ((bm i).set nilV c v)
theorem qc:∀(l:List Value) (i:Nat) (c:Tr Value) (j:Nat),(bm j).get nilV (insT l i c)=if i<=j/\j<i+l.length then l[j - i]?.getD nilV else(bm j).get nilV c
 | [],i,c,j=>by
  have h:¬(i<=j/\j<i+([]:List Value).length):=by intro h;have:=h.2;simp at this;omega
  rw[if_neg h];rfl
 |v :: l,i,c,j=>by
  show(bm j).get nilV (insT l (i+1) _)=_
  rw[qc l (i+1)]
  by_cases h:i+1<=j/\j<i+1+l.length
  ·rw[if_pos h,if_pos (by simp;omega)]
   have:j - i=(j - (i+1))+1:=by omega
   rw[this,qbN]
  ·rw[if_neg h]
   by_cases h2:j=i
   ·subst h2
    rw[Pth.get_set,if_pos (by simp)];simp
   ·rw[Pth.get_set_ne _ _ _ _ _ (λe=>h2 (jI e)),if_neg (by simp;omega)]
theorem nO{l:List Value}{i n:Nat}{c:Tr Value}(h:i+l.length<=n):bB (insT l i c) n=(bB c n).take i++l++(bB c n).drop (i+l.length):=by
 apply qaU
 intro j
 by_cases hj:j<n
 ·rw[dp _ hj,qc]
  by_cases h1:j<i
  ·rw[if_neg (by omega),qaM,qae (by rw[qaI,aS];omega),List.getElem?_take_of_lt h1,dp _ hj]
  ·have hl:((bB c n).take i).length=i:=by rw[qaI,aS];omega
   by_cases h2:j<i+l.length
   ·rw[if_pos ⟨by omega,h2⟩,qaM,qak (by omega),hl,qae (by omega)]
    rw[qax (by omega)];rfl
   ·rw[if_neg (by omega),qak (by rw[qaz,hl];omega),qaz,hl,qaZ,show i+l.length+(j - (i+l.length))=j by omega,dp _ hj]
 ·rw[qaf (by rw[aS];omega),qaf (by simp[aS];omega)]
theorem lO{l:List Value}{n:Nat}{c:Tr Value}:bB (insT l n c) (n+l.length)=bB c n++l:=by
 apply qaU
 intro j
 by_cases hj:j<n+l.length
 ·rw[dp _ hj,qc]
  by_cases h1:j<n
  ·rw[if_neg (by omega),qae (by rw[aS];exact h1),dp _ h1]
  ·rw[if_pos ⟨by omega,hj⟩,qak (by rw[aS];omega),aS,qax (by omega)];rfl
 ·rw[qaf (by rw[aS];omega),qaf (by simp[aS];omega)]
theorem wp(l:List Value):bB (insT l 0 .leaf) l.length=l:=by
 have:=lO (l:=l) (n:=0) (c:=.leaf)
 simpa[bB]using this
def wQ(c:Tr Value)(n:Nat):Nat->List Value:=Nat.rec (motive:=λ_=>Nat->List Value) (λ_=>[]) (λ_ ih off=>(bm off).get nilV c :: fN (Nat.succ off) ih) n
theorem iS(c:Tr Value):∀(n off m:Nat),off+n<=m->wQ c n off=((bB c m).drop off).take n
 |0,_,_,_=>by rw[qca];rfl
 |n+1,off,m,h=>by
  show(bm off).get nilV c :: wQ c n (off+1)=_
  rw[iS c n (off+1) m (by omega)]
  have h1:off<(bB c m).length:=by rw[aS];omega
  rw[qbi h1,qbv]
  congr 1
  have:=dp c (n:=m) (i:=off) (by omega)
  rw[qax h1]at this
  exact(qan this).symm
section
variable {R:Type}
def putR{α:Type}(d:α)(p:Pth):Tr α->α->(Tr α->R)->R:=
 Pth.rec (motive:=λ_=>Tr α->α->(Tr α->R)->R)
  (λt x k=>Tr.casesOn t (k (.node x .leaf .leaf)) λ_ l r=>k (.node x l r))
  (λ_ ih t x k=>Tr.casesOn t (ih .leaf x λl=>k (.node d l .leaf)) λv l r=>ih l x λl=>k (.node v l r))
  (λ_ ih t x k=>Tr.casesOn t (ih .leaf x λr=>k (.node d .leaf r)) λv l r=>ih r x λr=>k (.node v l r)) p
theorem ik{α:Type}(d:α):∀(p:Pth) (t:Tr α) (x:α) (k:Tr α->R),putR d p t x k=k (p.set d t x)
 | .e,t,x,k=>by cases t<;>rfl
 | .o p,t,x,k=>by
  cases t with
  |leaf=>exact ik d p .leaf x _
  |node v l r=>exact ik d p l x _
 | .i p,t,x,k=>by
  cases t with
  |leaf=>exact ik d p .leaf x _
  |node v l r=>exact ik d p r x _
def putK(h:HTr)(i:Nat)(o:HOT)(k:HTr->R):R:=match Nat.blt i h.n with
 |true=>putR noO (bm i) h.t o λt=>k ⟨h.n,t⟩
 |false=>k h
def iQ(h:HTr)(o:HOT)(k:HTr->R):R:=putR noO (bm h.n) h.t o λt=>fN (Nat.succ h.n) λn=>k ⟨n,t⟩
theorem gm(h:HTr)(i:Nat)(o:HOT)(k:HTr->R):putK h i o k=k (h.put i o):=by
 unfold putK HTr.put
 split
 ·rename_i e;rw[ik]
 ·rfl
theorem fy(h:HTr)(o:HOT)(k:HTr->R):iQ h o k=k (h.push o):=by
 unfold iQ HTr.push
 rw[ik,dO]
def vA{α:Type}(l:List α):(List α->R)->R:=
 List.rec (motive:=λ_=>(List α->R)->R) (λk=>k []) (λx _ ih k=>ih λl=>k (x :: l)) l
theorem mR{α:Type}:∀(l:List α) (k:List α->R),vA l k=k l
 | [],_=>rfl
 |x :: l,k=>mR l λl=>k (x :: l)
def vB(v:Value)(k:Value->R):R:=match v with
 | .int kd n=>fI n λn=>k (.int kd n)
 | .bool b=>Bool.rec (k (.bool false)) (k (.bool true)) b
 |v=>k v
theorem plainV_eq(v:Value)(k:Value->R):vB v k=k v:=by
 unfold vB
 split
 ·exact iC _ _
 ·rename_i b;cases b<;>rfl
 ·rfl
def insK(l:List Value):Nat->Tr Value->(Tr Value->R)->R:=
 List.rec (motive:=λ_=>Nat->Tr Value->(Tr Value->R)->R) (λ_ c k=>k c) (λv _ ih i c k=>vB v λv=>putR nilV (bm i) c v λc=>fN (Nat.succ i) λi=>ih i c k) l
theorem ml:∀(l:List Value) (i:Nat) (c:Tr Value) (k:Tr Value->R),insK l i c k=k (insT l i c)
 | [],_,_,_=>rfl
 |v :: l,i,c,k=>by
  show(vB v λv=>putR nilV (bm i) c v λc=>fN (Nat.succ i) λi=>insK l i c k)=_
  rw[plainV_eq,ik,dO,ml l];rfl
def rR(o:HObj)(k:HOT->R):R:=match o with
 | .cells vs e rw=>fN vs.length λn=>insK vs 0 .leaf λc=>k (.t n e rw c)
 | .map es c=>vA es λes=>fN c λc=>k (.o (.map es c))
 |o=>k (.o o)
theorem iI{o:HObj}{k:HOT->R}:∃x:HOT,x.ho = .o o/\rR o k=k x:=by
 cases o with
 |cells vs e rw=>
  refine⟨.t vs.length e rw (insT vs 0 .leaf),by simp only[HOT.ho,wp],?_⟩
  show(fN vs.length λn=>insK vs 0 .leaf λc=>k (.t n e rw c))=_
  rw[dO,ml]
 |map es c=>
  refine⟨.o (.map es c),rfl,?_⟩
  show(vA es λes=>fN c λc=>k (.o (.map es c)))=_
  rw[mR,dO]
 |_=>exact⟨.o _,rfl,rfl⟩
def qx(l:List Lf):(List Lf->R)->R:=
 List.rec (motive:=λ_=>(List Lf->R)->R) (λk=>k []) (λx _ ih k=>match x with
  | .i n=>fI n λn=>ih λl=>k (.i n :: l)
  | .b t=>Bool.rec (ih λl=>k (.b false :: l)) (ih λl=>k (.b true :: l)) t
  | .v v=>ih λl=>k (.v v :: l)) l
theorem ea:∀(l:List Lf) (k:List Lf->R),qx l k=k l
 | [],_=>rfl
 | .i n :: l,k=>(iC n λn=>qx l λl=>k (.i n :: l)).trans (ea l _)
 | .b true :: l,k=>ea l λl=>k (.b true :: l)
 | .b false :: l,k=>ea l λl=>k (.b false :: l)
 | .v v :: l,k=>ea l λl=>k (.v v :: l)
end
end Sx
section
open Sx
abbrev RT:=Option (List Lf)
abbrev yes:RT:=some []
def ans(b:Bool):RT:=match b with|true=>yes|false=>none
abbrev ac:=CK->List Lf->HTr->(List Lf->HTr->RT)->RT
def Act1.onH(h:HL):Act1->HL
 | .set i o=>h.set i (.o o)
 | .push o=>h++[.o o]
def bR(h:HL)(l:List Act1):HL:=l.foldl Act1.onH h
def getH(T:Nat->Site)(h:HL):cb:=λi=>match h[i]? with
 |some x=>some (absO T x)
 |none=>none
def getT(T:Nat->Site)(h:HTr):cb:=λi=>match h.at i with
 |some x=>some (absO T x.ho)
 |none=>none
def wj(l:List Act1):HTr->(HTr->RT)->RT:=
 List.rec (motive:=λ_=>HTr->(HTr->RT)->RT) (λh k=>k h) (λa _ ih h k=>match a with
  | .set i o=>rR o λo=>putK h i o λh=>ih h k
  | .push o=>rR o λo=>iQ h o λh=>ih h k) l
def condB(b:Bool)(x y:RT):RT:=Bool.rec y x b
def outG(k:IntKind)(c:Int)(K:Int->RT):RT:=Bool.rec (fI (k.wrap c) K) (K c) (fits k c)
def out64(c:Int)(K:Int->RT):RT:=@Bool.rec (λ_=>RT) (fI (IntKind.wrap .i64 c) K) (K c) (@Int.rec (λ_=>Bool) (λn=>Nat.ble n 9223372036854775807) (λn=>Nat.ble n 9223372036854775807) c)
def outU8(c:Int)(K:Int->RT):RT:=@Bool.rec (λ_=>RT) (fI (IntKind.wrap .u8 c) K) (K c) (@Int.rec (λ_=>Bool) (λn=>Nat.ble n 255) (λ_=>false) c)
def outK(k:IntKind)(c:Int)(K:Int->RT):RT:=@IntKind.rec (λ_=>RT) (outG .i8 c K) (outG .i16 c K) (outG .i32 c K) (out64 c K) (outU8 c K) (outG .u16 c K) (outG .u32 c K) (outG .u64 c K) k
def addK(a b:Int)(K:Int->RT):RT:=
 Int.rec (λm=>Int.rec (λn=>fN (Nat.add m n) λc=>K (.ofNat c)) (λn=>Bool.rec (fN (Nat.sub n m) λc=>K (.negSucc c)) (fN (Nat.sub m (Nat.succ n)) λc=>K (.ofNat c)) (Nat.blt n m)) b)
  (λm=>Int.rec (λn=>Bool.rec (fN (Nat.sub m n) λc=>K (.negSucc c)) (fN (Nat.sub n (Nat.succ m)) λc=>K (.ofNat c)) (Nat.blt m n)) (λn=>fN (Nat.succ (Nat.add m n)) λc=>K (.negSucc c)) b) a
def subK(a b:Int)(K:Int->RT):RT:=
 Int.rec (λm=>Int.rec (λn=>Bool.rec (fN (Nat.sub n (Nat.succ m)) λc=>K (.negSucc c)) (fN (Nat.sub m n) λc=>K (.ofNat c)) (Nat.ble n m)) (λn=>fN (Nat.succ (Nat.add m n)) λc=>K (.ofNat c)) b)
  (λm=>Int.rec (λn=>fN (Nat.add m n) λc=>K (.negSucc c)) (λn=>Bool.rec (fN (Nat.sub m (Nat.succ n)) λc=>K (.negSucc c)) (fN (Nat.sub n m) λc=>K (.ofNat c)) (Nat.ble m n)) b) a
def mulK(a b:Int)(K:Int->RT):RT:=
 Int.rec (λm=>Int.rec (λn=>fN (Nat.mul m n) λc=>K (.ofNat c)) (λn=>Nat.rec (K (.ofNat 0)) (λm' _=>fN (Nat.add (Nat.mul m n) m') λc=>K (.negSucc c)) m) b)
  (λm=>Int.rec (λn=>Nat.rec (K (.ofNat 0)) (λn' _=>fN (Nat.add (Nat.mul m n) n') λc=>K (.negSucc c)) n) (λn=>fN (Nat.mul (Nat.succ m) (Nat.succ n)) λc=>K (.ofNat c)) b) a
def quoK(a b:Int)(K:Int->RT):RT:=
 Int.rec (λm=>Int.rec (λn=>fN (Nat.div m n) λc=>K (.ofNat c)) (λ_=>fI (Int.tdiv a b) K) b) (λ_=>fI (Int.tdiv a b) K) a
def remK(a b:Int)(K:Int->RT):RT:=
 Int.rec (λm=>Int.rec (λn=>fN (Nat.mod m n) λc=>K (.ofNat c)) (λ_=>fI (Int.tmod a b) K) b) (λ_=>fI (Int.tmod a b) K) a
def isZ(b:Int):Bool:=Int.rec (λn=>Nat.beq n 0) (λ_=>false) b
def ariB(op:BinOp)(k:IntKind)(a b:Int)(K:Int->RT):RT:=
 match op with
 | .add=>addK a b λc=>outK k c K
 | .sub=>subK a b λc=>outK k c K
 | .mul=>mulK a b λc=>outK k c K
 | .quo=>Bool.rec (quoK a b λc=>outK k c K) none (isZ b)
 | .rem=>Bool.rec (remK a b K) none (isZ b)
 | .and=>match eqI b 1 with
  |true=>fI (Int.emod a 2) K
  |false=>match a,b with
   | .ofNat m,.ofNat n=>fI (.ofNat (Nat.land m n)) λc=>outK k c K
   |_,_=>none
 | .xor=>match a,b with
  | .ofNat m,.ofNat n=>fI (.ofNat (Nat.xor m n)) λc=>outK k c K
  |_,_=>none
 | .or=>match a,b with
  | .ofNat m,.ofNat n=>fI (.ofNat (Nat.lor m n)) λc=>outK k c K
  |_,_=>none
 |_=>none
def eqZK(a b:Int):Bool:=Int.rec (λm=>Int.rec (λn=>Nat.beq m n) (λ_=>false) b) (λm=>Int.rec (λ_=>false) (λn=>Nat.beq m n) b) a
def notK(b:Bool):Bool:=Bool.rec true false b
def cmpB(op:BinOp)(a b:Int)(K:Bool->RT):RT:=
 match op with
 | .eql=>K (eqZK a b)
 | .neq=>K (notK (eqZK a b))
 | .lss=>K (notK (leZ b a))
 | .leq=>K (leZ a b)
 | .gtr=>K (notK (leZ a b))
 | .geq=>K (leZ b a)
 |_=>none
def eqBK(a b:Bool):Bool:=Bool.rec (notK b) b a
def eqLf(x y:Lf):Bool:=Lf.rec (λa=>Lf.rec (λb=>eqZK a b) (λ_=>false) (λ_=>false) y) (λa=>Lf.rec (λ_=>false) (λb=>eqBK a b) (λ_=>false) y) (λ_=>false) x
def eqsV(l:List (Lf×Lf)):Bool:=List.rec true (λp _ ih=>Bool.rec false ih (eqLf p.1 p.2)) l
def eqsB(l:List (Lf×Lf))(K:Bool->RT):RT:=K (eqsV l)
def convB(k:IntKind)(a:Int)(K:Int->RT):RT:=outK k a K
def selB(t:Bool)(a b:Int)(K:Int->RT):RT:=Bool.rec (K b) (K a) t
def optB{α:Type}(o:Option α)(K:α->RT):RT:=Option.rec none K o
def unIB(ls:List Lf)(K:Int->List Lf->RT):RT:=List.rec none (λx r _=>Lf.rec (λn=>K n r) (λ_=>none) (λ_=>none) x) ls
def unBB(ls:List Lf)(K:Bool->List Lf->RT):RT:=List.rec none (λx r _=>Lf.rec (λ_=>none) (λn=>K n r) (λ_=>none) x) ls
def unVB(ls:List Lf)(K:Value->List Lf->RT):RT:=List.rec none (λx r _=>Lf.rec (λ_=>none) (λ_=>none) (λn=>K n r) x) ls
def un0B(ls:List Lf)(K:RT):RT:=List.rec K (λ_ _ _=>none) ls
def ucIB(k:IntKind)(ls:List Value)(K:Int->List Value->RT):RT:=match ls with | .int k' n :: r=>(match de k k' with|true=>K n r|false=>none)|_=>none
def ucBB(ls:List Value)(K:Bool->List Value->RT):RT:=match ls with | .bool n :: r=>K n r|_=>none
def ucVB(ls:List Value)(K:Value->List Value->RT):RT:=match ls with|n :: r=>K n r|_=>none
def uc0B(ls:List Value)(K:RT):RT:=match ls with | []=>K|_=>none
def spot0(s:Option Nat):Bool:=match s with
 |none=>true
 |some k=>match k with
  |0=>false
  |_=>true
def goodF(v:Value):Bool:=match v with
 | .pointer (some a)=>spot0 a.spot
 | .slice (some a) _ _=>spot0 a.spot
 |v=>aP v
def chkB(v:Value)(K:RT):RT:=match goodF v with|true=>K|false=>none
def lenR{α:Type}(l:List α):Nat:=List.rec 0 (λ_ _ n=>Nat.succ n) l
def ldB(n:Nat)(p:Value)(h:HTr)(K:List Value->RT):RT:=match p with
 | .pointer (some a)=>match a.spot with
  |none=>match h.at a.block with
   |some (.t m _ _ c)=>match Nat.ble (Nat.add a.off n) m with
    |true=>K (wQ c n a.off)
    |false=>none
   |_=>none
  |some _=>none
 |_=>none
def lgB(C:Cfg)(n:Nat)(p:Value)(h:HTr)(K:List Value->RT):RT:=match p with
 | .pointer (some a)=>match a.spot with
  |none=>match h.at a.block with
   |some (.t m _ _ c)=>match Nat.ble (Nat.add a.off n) m with
    |true=>K (wQ c n a.off)
    |false=>none
   |_=>none
  |some k=>match Nat.beq k 1 with
   |true=>match C.G a.block with
    |some vs=>match cutL vs a.off n with
     |some cs=>K cs
     |none=>none
    |none=>none
   |false=>none
 |_=>none
def peekB(T:Nat->Site)(f:Pk)(h:HTr)(K:List Value->RT):RT:=match f with
 | .ld n p=>ldB n p h K
 | .lg C n p=>lgB C n p h K
 | .fn f=>match f (getT T h)with|some x=>K x|none=>none
def stB(p:Value)(new:List Value)(h:HTr)(K:List Value->HTr->RT):RT:=match p with
 | .pointer (some a)=>match a.spot with
  |none=>match h.at a.block with
   |some (.t m e true c)=>match Nat.ble (Nat.add a.off (lenR new)) m with
    |true=>insK new a.off c λc=>putK h a.block (.t m e true c) λh=>K [] h
    |false=>none
   |_=>none
  |some _=>none
 |_=>none
def tagB(s:Option Nat)(esz:Nat):Bool:=match s with
 |none=>false
 |some k=>Nat.beq k (Nat.add esz 10)
def slB(C:Cfg)(T:Nat->Site)(esz:Nat)(x:Value)(h:HTr)(K:List Value->Nat->RT):RT:=match x with
 | .slice (some a) len _=>match tagB a.spot esz with
  |true=>match h.at a.block with
   |some (.t m e _ c)=>match Nat.beq e esz,Nat.ble (Nat.add a.off (Nat.mul len esz)) m with
    |true,true=>K (wQ c (Nat.mul len esz) a.off) len
    |_,_=>none
   |_=>none
  |false=>match slG C esz (getT T h) x with
   |some p=>K p.1 p.2
   |none=>none
 |x=>match slG C esz (getT T h) x with
  |some p=>K p.1 p.2
  |none=>none
def growB(c:Tr Value)(m off w esz:Nat)(new:List Value)(k:HOT->RT):RT:=match Nat.beq off 0,Nat.beq w m with
 |true,true=>insK new m c λc=>fN (Nat.add m (lenR new)) λm=>k (.t m esz true c)
 |_,_=>rR (.cells (wQ c w off++new) esz true) k
def apB(T:Nat->Site)(C:Cfg)(esz bytes:Nat)(s x:Value)(h:HTr)(K:List Value->HTr->RT):RT:=
 slB C T esz x h λnew n=>match s with
  | .slice none 0 0=>match n with
   |0=>K [.slice none 0 0] h
   |n+1=>match bZ (n+1) bytes with
    |true=>rR (.cells new esz true) λo=>iQ h o λh'=>fN (n+1) λn=>K [.slice (some ⟨h.n,0,tag esz⟩) n 0] h'
    |false=>none
  | .slice (some a) len cx=>match tagB a.spot esz with
   |false=>none
   |true=>match h.at a.block with
    |some (.t m e rw c)=>match Nat.beq e esz,Nat.ble (Nat.add a.off (Nat.mul len esz)) m with
     |true,true=>match cx with
      |0=>match n with
       |0=>K [.slice (some a) len 0] h
       |n+1=>match rw,bZ (len+(n+1)) bytes with
        |true,true=>growB c m a.off (Nat.mul len esz) esz new λo=>putK h a.block (.o .dead) λh'=>iQ h' o λh''=>fN (len+(n+1)) λl=>K [.slice (some ⟨h.n,0,tag esz⟩) l 0] h''
        |_,_=>none
      |cap+1=>match Nat.ble (len+n) cap with
       |true=>match rw,Nat.ble (Nat.add (Nat.add a.off (Nat.mul len esz)) (lenR new)) m with
        |true,true=>insK new (Nat.add a.off (Nat.mul len esz)) c λc=>putK h a.block (.t m e true c) λh'=>fN (len+n) λl=>K [.slice (some a) l (cap+1)] h'
        |_,_=>none
       |false=>match bZ (len+n) bytes with
        |true=>growB c m a.off (Nat.mul len esz) esz new λo=>iQ h o λh'=>fN (len+n) λl=>K [.slice (some ⟨h.n,0,tag esz⟩) l 0] h'
        |false=>none
     |_,_=>none
    |_=>none
  |_=>none
def heapB(T:Nat->Site)(f:Hp)(h:HTr)(K:List Value->HTr->RT):RT:=match f with
 | .st p new=>stB p new h K
 | .ap C esz bytes s x=>apB T C esz bytes s x h K
 | .fn f=>match f (getT T h) h.n with|some p=>vA p.2 λcs=>wj p.1 h λh=>K cs h|none=>none
def newB(o:HObj)(h:HTr)(K:Nat->HTr->RT):RT:=rR o λo=>iQ h o λh'=>K h.n h'
def toSL(k:LK)(v:Value):Option SL:=
 match k with
 | .i k=>match v with
  | .int k' n=>match de k' k with
   |true=>some (.i k' n)
   |false=>none
  |_=>none
 | .b=>match v with
  | .bool t=>some (.b t)
  |_=>none
 | .v=>match aP v with
  |true=>some (.v v)
  |false=>none
def toSLs:List LK->List Value->Option (List SL)
 | [],[]=>some []
 |k :: ks,v :: vs=>match toSL k v with
  |some x=>match toSLs ks vs with
   |some xs=>some (x :: xs)
   |none=>none
  |none=>none
 |_,_=>none
def toS0(sk:SK)(v:Value):Option S0:=
 match sk with
 | .leaf k=>(toSL k v).map .leaf
 | .agg ks=>match v with
  | .agg cs=>(toSLs ks cs.toList).map .agg
  |_=>none
def toS0s:List SK->List Value->Option (List S0)
 | [],[]=>some []
 |k :: ks,v :: vs=>match toS0 k v with
  |some x=>match toS0s ks vs with
   |some xs=>some (x :: xs)
   |none=>none
  |none=>none
 |_,_=>none
def eqLK:LK->LK->Bool
 | .i a,.i b=>de a b
 | .b,.b=>true
 | .v,.v=>true
 |_,_=>false
def eqLKs:List LK->List LK->Bool
 | [],[]=>true
 |a :: l,b :: m=>eqLK a b&&eqLKs l m
 |_,_=>false
def eqSK:SK->SK->Bool
 | .leaf a,.leaf b=>eqLK a b
 | .agg a,.agg b=>eqLKs a b
 |_,_=>false
def eqSKs:List SK->List SK->Bool
 | [],[]=>true
 |a :: l,b :: m=>eqSK a b&&eqSKs l m
 |_,_=>false
def gh(ls:List Lf):Bool:=List.rec true (λl _ ih=>match l with
 | .v x=>(match goodF x with
  |true=>ih
  |false=>false)
 |_=>ih) ls
section
variable (Sg:FuncId->Option Sig) (T:Nat->Site) (call:ac)
def wn(g:FuncId)(ls:List Lf)(h:HTr)(K:List Lf->HTr->RT):RT:=match gh ls with|true=>call (.f g) ls h K|false=>none
def kY(g:FuncId)(hs:Option (List SK))(vals:List Value)(h:HTr)(K:List Lf->HTr->RT):RT:=
 match Sg g with
 |none=>none
 |some sg=>match (match hs with|none=>true|some hs=>eqSKs sg.rs hs)with
  |false=>none
  |true=>match toS0s sg.ps vals with
   |none=>none
   |some xs=>wn call g (bL xs) h K
def callvB(v:Value)(args:List Value)(hs:List SK)(h:HTr)(K:List Lf->HTr->RT):RT:=
 match v with
 | .func fn first cap=>match fn with
  | .func g=>kY Sg call g (some hs) (first.toList++args++cap.toList) h K
  | .yield l=>match first.toList,cap.toList with
   | [],[]=>match h.at l with
    |some (.lp κ _ _ vs)=>match eqSKs [.leaf .b] hs with
     |false=>none
     |true=>match toS0s ((T κ).params.map (·.2)) args with
      |none=>none
      |some xs=>match gh (bL xs)with
       |true=>call (.y κ vs l) (bL xs) h K
       |false=>none
    |_=>none
   |_,_=>none
  |_=>none
 |_=>none
def rfunB(κ:Nat)(v:Value)(vals:List Value)(h:HTr)(K:Option Code->HTr->RT):RT:=
 match v with
 | .func fn first cap=>match fn with
  | .func g=>iQ h (.lp κ .ready none vals) λh0=>kY Sg call g none (first.toList++[.func (.yield h.n) #[] #[]]++cap.toList) h0 λ_ h1=>match h1.at h.n with
   |some (.lp κ' st pd vs)=>match st with
    | .busy=>none
    |_=>putK h1 h.n (.lp κ' .exhausted pd vs) λh2=>K pd h2
   |_=>none
  |_=>none
 |_=>none
def pendB(pd:Option Code)(kn kr:RT)(ks:List (Nat×RT)):RT:=
 match pd with
 |none=>kn
 |some c=>match c with
  | .ret=>kr
  | .exit id=>List.rec none (λp _ ih=>match Nat.beq p.1 id with|true=>p.2|false=>ih) ks
  |_=>none
def lp1B(l:Nat)(h:HTr)(K:HTr->RT):RT:=
 match h.at l with
 |some (.lp κ st pd vs)=>match st with
  | .ready=>putK h l (.lp κ .busy pd vs) K
  |_=>none
 |_=>none
def lp2B(l:Nat)(j:Option Code)(h:HTr)(K:HTr->RT):RT:=
 match h.at l with
 |some (.lp κ _ _ vs)=>match j with
  |none=>putK h l (.lp κ .ready none vs) K
  |some c=>putK h l (.lp κ .done (some c) vs) K
 |_=>none
end
def loopB(F:(List Lf->HTr->RT)->List Lf->HTr->RT)(ls:List Lf)(h:HTr):RT:=
 Nat.rec (motive:=λ_=>List Lf->HTr->RT) (λ_ _=>none) (λ_ ih ls h=>F ih ls h) 1000000 ls h
def joinB(b:List Lf->HTr->RT)(m:(List Lf->HTr->RT)->RT):RT:=m b
def shfB(op:BinOp)(k:IntKind)(a:Int)(_:IntKind)(b:Int)(K:Int->RT):RT:=match leZ 0 b with
 |true=>match op with
  | .shl=>fI (k.wrap (a*2 ^ min b.toNat k.bits)) K
  | .shr=>fI (a.fdiv (2 ^ min b.toNat k.bits)) K
  |_=>none
 |false=>none
def BA(Sg:FuncId->Option Sig)(T:Nat->Site)(call:ac):Alg RT HTr where
 fail:=none
 cond:=condB
 ari:=ariB
 shf:=shfB
 cmp:=cmpB
 eqs:=eqsB
 conv:=convB
 sel:=selB
 opt:=optB
 chk:=chkB
 unI:=unIB
 unB:=unBB
 unV:=unVB
 un0:=un0B
 ucI:=ucIB
 ucB:=ucBB
 ucV:=ucVB
 uc0:=uc0B
 peek:=peekB T
 heap:=heapB T
 new:=newB
 call:=wn call
 callv:=callvB Sg T call
 join:=joinB
 loop:=loopB
 rfun:=rfunB Sg call
 pend:=pendB
 lp1:=lp1B
 lp2:=lp2B
end
namespace Sx
section
variable [Val] [Kno]
def wAt(pts:List Nat)(tm:List Value)(o:Oper):List Nat:=(wOps pts o).flatMap λx=>adr (oval tm x)
def fAt(pts:List Nat)(tm:List Value)(o:Oper):List Nat:=(cM pts o).1.flatMap λx=>adrK (cM pts o).2 (oval tm x)
def dstIn(pts:List Nat)(tm:List Value)(o:Oper):Prop:=∀d,o.dst=some d->hCls pts o=2->∃v,tm[d]? = some v
def SepAt(pts:List Nat)(ops:Array Oper)(tm:List Value)(ps:List (Nat×Nat)):Prop:=
 ∀p∈ps,∃a b,ops[p.1]? = some a/\ops[p.2]? = some b/\(∀x∈wAt pts tm a,x∉fAt pts tm b)/\(∀x∈wAt pts tm a,x∉wAt pts tm b)/\(∀x∈wAt pts tm b,x∉fAt pts tm a)/\dstIn pts tm a/\dstIn pts tm b
def SameAt(ops:Array Oper)(k:Nat)(σ σ':St):Prop:=∃o d x,ops[k]? = some o/\o.dst=some d/\σ.tmps[d]? = some x/\σ'.tmps[d]? = some x
def DrOk(C:Cfg)(dr:Dr):Prop:=∀pts ops ps,dr pts ops=some ps->match splOf ps with
 |none=>∀(n:Nat) (σ σ':St),aZ C (sm C n).toBelow pts ops (List.range ops.size) σ σ'->SepAt pts ops σ'.tmps ps->eJ C (sm C n).toBelow pts ops σ σ'
 |some p=>∀(n:Nat) (σ σ₁ σ₂ σ':St),aZ C (sm C n).toBelow pts ops (List.range' 0 (ops.toList.take (p.2+1)).length) σ σ₁->ak C (sm C n).toBelow pts ops p.1 σ₁ σ₂->SameAt ops p.1 σ₁ σ₂->
   aZ C (sm C n).toBelow pts ops (List.range' (p.2+1) (ops.toList.drop (p.2+1)).length) σ₁ σ'->eJ C (sm C n).toBelow pts ops σ σ'
theorem vj{x:Nat}:∀ {l:List Nat},memN x l=true↔x∈l
 | []=>by simp[memN]
 |y :: l=>by
  unfold memN
  cases h:Nat.beq x y with
  |true=>simp[qac h]
  |false=>
   have:x≠y:=λe=>by subst e;rw[show Nat.beq x x=true from qb0 x]at h;cases h
   simp only[qam,this,false_or]
   exact vj
theorem uK:∀ {l m:List Nat},disjN l m=true->∀x∈l,x∉m
 | [],_,_,_,h=>by cases h
 |y :: l,m,h,x,hx=>by
  unfold disjN at h
  cases hm:memN y m with
  |true=>rw[hm]at h;cases h
  |false=>
   rw[hm]at h
   rcases qam.1 hx with rfl|hx
   ·intro e;rw[vj.2 e]at hm;cases hm
   ·exact uK h x hx
theorem sepL_ok:∀ {l:List (Value×Nat×Value)} {u:Unit},sepL l=some u->∀p∈l,∀r∈adr p.1,r∉adrK p.2.1 p.2.2
 | [],_,_,_,h=>by cases h
 |q :: l,u,h,p,hp=>by
  unfold sepL at h
  split at h
  ·rename_i hd
   rcases qam.1 hp with rfl|hp
   ·exact uK hd
   ·exact sepL_ok h p hp
  ·cases h
theorem entV_ok{ev:Env}{σ:St}(hR:Rp ev σ){x:Operand}{us:List Value}(h:entV (sval ev x)=some us)(k r:Nat)(hr:r∈adrK k (oval σ.tmps x)):∃u∈us,r∈adrK k u:=by
 have hn:sval ev x≠.no:=λe=>by rw[e]at h;cases h
 have hv:=(hR.sval rfl hn).1
 rw[hv]at hr
 generalize sval ev x=s at *
 have none:adrK k s.val=[]->∃u∈us,r∈adrK k u:=λe=>by rw[e]at hr;cases hr
 cases s with
 |st y=>
  cases y with
  |leaf l=>
   cases l with
   |v u=>
    cases h
    exact⟨u,by simp,hr⟩
   |_=>exact none (by cases k with|zero=>rfl|succ k=>cases k<;>rfl)
  |agg cs=>exact none (by cases k with|zero=>rfl|succ k=>cases k<;>rfl)
 |no=>exact absurd rfl hn
 |_=>exact none (by cases k with|zero=>rfl|succ k=>cases k<;>rfl)
theorem fl{ev:Env}{σ:St}(hR:Rp ev σ):∀ {l:List Operand} {us:List Value},pL ev l=some us->∀(k r:Nat),r∈l.flatMap (λx=>adrK k (oval σ.tmps x))->∃u∈us,r∈adrK k u
 | [],_,_,_,_,h=>by cases h
 |x :: l,us,h,k,r,hr=>by
  unfold pL at h
  split at h
  ·rename_i a b ha hb
   cases h
   rw[qbK,qaG]at hr
   rcases hr with hr|hr
   ·obtain⟨u,h1,h2⟩:=entV_ok hR ha k r hr
    exact⟨u,qaN _ h1,h2⟩
   ·obtain⟨u,h1,h2⟩:=fl hR hb k r hr
    exact⟨u,qa2 _ h1,h2⟩
  ·cases h
theorem lW{ev:Env}{σ:St}(hR:Rp ev σ){d:Nat}:∀ {l:List Operand} {us:List Value},pL ev l=some us->Operand.tmp d∈l->∃v,σ.tmps[d]? = some v
 |x :: l,us,h,hm=>by
  unfold pL at h
  split at h
  ·rename_i a b ha hb
   rcases qam.1 hm with rfl|hm
   ·have hn:sval ev (.tmp d)≠.no:=λe=>by rw[e]at ha;cases ha
    exact⟨_,(hR.at (s:=ev.tm.getD d .no) rfl hn).1⟩
   ·exact lW hR hb hm
  ·cases h
theorem qO{pts:List Nat}{o:Oper}{d:Nat}(hd:o.dst=some d)(h:hCls pts o=2):Operand.tmp d∈wOps pts o:=by
 unfold wOps
 rw[h,hd]
 simp
theorem lS{us vs:List Value}{k:Nat}{u v:Value}(hu:u∈us)(hv:v∈vs):(u,k,v)∈cross us k vs:=by
 unfold cross
 exact qbw.2 ⟨u,hu,qaL.2 ⟨v,hv,rfl⟩⟩
theorem sepOne_ok{pts:List Nat}{ev:Env}{σ:St}(hR:Rp ev σ){a b:Oper}{l:List (Value×Nat×Value)}(h:sepOne pts ev a b=some l)(hs:∀p∈l,∀r∈adr p.1,r∉adrK p.2.1 p.2.2) :
  (∀x∈wAt pts σ.tmps a,x∉fAt pts σ.tmps b)/\(∀x∈wAt pts σ.tmps a,x∉wAt pts σ.tmps b)/\(∀x∈wAt pts σ.tmps b,x∉fAt pts σ.tmps a)/\dstIn pts σ.tmps a/\dstIn pts σ.tmps b:=by
 unfold sepOne at h
 split at h
 ·rename_i wa wb fa fb h1 h2 h3 h4
  cases h
  refine⟨λx hx hy=>?_,λx hx hy=>?_,λx hx hy=>?_,λd hd hc=>lW hR h1 (qO hd hc),λd hd hc=>lW hR h2 (qO hd hc)⟩
  ·obtain⟨u,u1,u2⟩:=fl hR h1 0 x hx
   obtain⟨v,v1,v2⟩:=fl hR h4 _ x hy
   exact hs (u,_,v) (qaN _ (qaN _ (lS u1 v1))) x u2 v2
  ·obtain⟨u,u1,u2⟩:=fl hR h1 0 x hx
   obtain⟨v,v1,v2⟩:=fl hR h2 0 x hy
   exact hs (u,0,v) (qaN _ (qa2 _ (lS u1 v1))) x u2 v2
  ·obtain⟨u,u1,u2⟩:=fl hR h2 0 x hx
   obtain⟨v,v1,v2⟩:=fl hR h3 _ x hy
   exact hs (u,_,v) (qa2 _ (lS u1 v1)) x u2 v2
 ·cases h
theorem oR{pts:List Nat}{ops:Array Oper}{ev:Env}{σ:St}(hR:Rp ev σ):∀ {ps:List (Nat×Nat)} {l:List (Value×Nat×Value)},qF pts ops ev ps=some l->(∀p∈l,∀r∈adr p.1,r∉adrK p.2.1 p.2.2)->SepAt pts ops σ.tmps ps
 | [],_,_,_,_,h=>by cases h
 |q :: ps,l,h,hs,p,hp=>by
  unfold qF at h
  split at h
  ·rename_i a b r ha hb hr
   obtain⟨x,hx,rfl⟩:=qad.1 h
   rcases qam.1 hp with rfl|hp
   ·exact⟨a,b,ha,hb,sepOne_ok hR hx λp hp=>hs p (qaN _ hp)⟩
   ·exact oR hR hr (λp hp=>hs p (qa2 _ hp)) p hp
  ·cases h
theorem eqFn_ok{x y:Value}{u:Unit}(h:eqFn x y=some u):x=y:=by
 unfold eqFn at h
 split at h
 ·split at h
  ·split at h
   ·rename_i l a b _ m c d e1 e2 e3 e4 e5
    have e1:=qac e1
    have f:∀ {a:Array Value},a.toList=[]->a = #[]:=λh=>qa3.1 h
    rw[e1,f e2,f e3,f e4,f e5]
   ·cases h
  ·cases h
 ·cases h
theorem entF_ok{ev:Env}{σ:St}(hR:Rp ev σ){d:Nat}{x:Value}(h:entF (ev.tm.getD d .no)=some x):σ.tmps[d]? = some x:=by
 unfold entF at h
 split at h
 ·rename_i y hy
  cases h
  exact(hR.at hy (by simp)).1
 ·cases h
theorem sepK_ok{R HT:Type}{A:Alg R HT}{C:Cfg}{Sg:FuncId->Option Sig}{T:Nat->Site}{holds:R->Prop}{abs:HT->List HObj}(hA:AlgOk A C Sg T holds abs){pts:List Nat}{ops:Array Oper}{ps:List (Nat×Nat)}{kn:KN R HT}{ev:Env}{σ:St}(hR:Rp ev σ){h:HT}(hk:holds (sepK A pts ops ps kn ev h)) :
  SepAt pts ops σ.tmps ps/\holds (kn ev h):=by
 unfold sepK at hk
 split at hk
 ·exact⟨λp hp=>(by cases hp),hk⟩
 ·simp only at hk
  split at hk
  ·rename_i l hl
   obtain⟨u,h1,h2⟩:=hA.opt _ _ hk
   exact⟨oR hR hl (sepL_ok h1),h2⟩
  ·exact absurd hk hA.fail
end
end Sx
section
variable [Val] [Kno] {R HT:Type} {A:Alg R HT} {X:Ctxt} {Sg:FuncId->Option Sig} {holds:R->Prop} {abs:HT->List HObj}
variable {ev:Env} {σ:St} {h:HT} {o:Oper} {K:KN R HT}
def StepO(C:Cfg)(pts:List Nat)(o:Oper)(σ σ':St):Prop:=
 (∃e,am C pts (oval σ.tmps) o=some e/\iB (uB C) e o.dst σ σ')∨(∃v,gS C σ.tmps o v/\σ'=σ.put o.dst v)
def sf(pts:List Nat)(o:Oper):Option Nat:=
 match o.op,o.dst with
 | .box ..,some d=>if pts.getD d 0=d+2 then some d else none
 | .alloc _,some d=>if pts.getD d 0=d+2 then some d else none
 |_,_=>none
def Done(X:Ctxt)(holds:R->Prop)(abs:HT->List HObj)(o:Oper)(σ:St)(K:KN R HT):Prop:=
 ∃σ' ev' h',StepO X.C X.pts o σ σ'/\Rp ev' σ'/\abs h'=σ'.heap/\Fr o.dst.toList (sf X.pts o).toList (ii X.pts o).toList σ σ'/\holds (K ev' h')
theorem uf(hR:Rp ev σ){dst:Option Tmp}{s:SV}(hs:s.gd)(hk:holds (setD dst s ev h K)):∃ev',Rp ev' (σ.put dst s.val)/\holds (K ev' h):=by
 unfold setD at hk
 cases dst with
 |none=>exact⟨ev,hR,hk⟩
 |some d=>
  simp only[setK_eq]at hk
  exact⟨_,hR.put d hs,hk⟩
theorem dc(hR:Rp ev σ)(H':List HObj)(ha:abs h=H'){s:SV}(hs:s.gd)
  (hst:StepO X.C X.pts o σ (({ σ with heap:=H' }:St).put o.dst s.val)) (hk:holds (setD o.dst s ev h K)):Done X holds abs o σ K:=by
 obtain⟨ev',h1,h2⟩:=uf (hR.heap H') hs hk
 refine⟨_,ev',h,hst,h1,?_,?_,h2⟩
 ·rw[ha];cases o.dst<;>rfl
 ·have:=Fr.put (σ:=({ σ with heap:=H' }:St)) o.dst s.val (sf X.pts o).toList (ii X.pts o).toList
  exact⟨this.tlen,this.llen,this.tm,this.tp,this.row,this.rlen⟩
theorem aw(hR:Rp ev σ)(ha:abs h=σ.heap){s:SV}(hs:s.gd)(he:am X.C X.pts (oval σ.tmps) o=some (.val s.val))(hk:holds (setD o.dst s ev h K)) :
  Done X holds abs o σ K:=
 dc hR σ.heap ha hs (.inl ⟨_,he,_,rfl,rfl⟩) hk
theorem bQ(hR:Rp ev σ)(ha:abs h=σ.heap){s:SV}(hs:s.gd)(he:gS X.C σ.tmps o s.val)(hk:holds (setD o.dst s ev h K)) :
  Done X holds abs o σ K:=
 dc hR σ.heap ha hs (.inr ⟨_,he,rfl⟩) hk
theorem fW(hR:Rp ev σ)(ha:abs h=σ.heap){s:SV}(hs:s.gd){f:List HObj->Option Value}(he:am X.C X.pts (oval σ.tmps) o=some (.hget f))(hf:f σ.heap=some s.val)
  (hk:holds (setD o.dst s ev h K)):Done X holds abs o σ K:=
 dc hR σ.heap ha hs (.inl ⟨_,he,(σ,s.val),by simp[aI,hf],rfl⟩) hk
theorem cO(hR:Rp ev σ){H':List HObj}(ha:abs h=H'){s:SV}(hs:s.gd){f:List HObj->Option (List HObj×Value)}(he:am X.C X.pts (oval σ.tmps) o=some (.hop f))
  (hf:f σ.heap=some (H',s.val)) (hk:holds (setD o.dst s ev h K)):Done X holds abs o σ K:=
 dc hR H' ha hs (.inl ⟨_,he,({ σ with heap:=H' },s.val),by simp[aI,hf],rfl⟩) hk
theorem move_ok(hR:Rp ev σ)(ha:abs h=σ.heap){x:Operand}(ho:o.op = .move x∨o.op = .assign x){y:SV}(hy:sval ev x=y)(hn:y≠.no)(hk:holds (setD o.dst y ev h K)):Done X holds abs o σ K:=by
 obtain⟨h1,h2⟩:=hR.sval hy hn
 refine aw hR ha h2 ?_ hk
 rcases ho with ho|ho<;>simp only[am,ho,h1]
theorem pick_ok(hA:AlgOk A X.C Sg X.T holds abs)(hR:Rp ev σ)(ha:abs h=σ.heap){c a b:Operand}(ho:o.op = .pick c a b)
  (hk:holds (match sval ev c,sval ev a,sval ev b with
  | .st (.leaf (.l true)),.st y,_=>setD o.dst (.st y) ev h K
  | .st (.leaf (.l false)),_,.st y=>setD o.dst (.st y) ev h K
  | .st (.leaf (.b t)),.st y,.st z=>A.cond t (setD o.dst (.st y) ev h K) (setD o.dst (.st z) ev h K)
  |_,_,_=>A.fail)):Done X holds abs o σ K:=by
 split at hk
 ·rename_i y e1 e2
  obtain⟨h1,_⟩:=hR.sval e1 (by simp)
  obtain⟨h2,g2⟩:=hR.sval e2 (by simp)
  refine aw hR ha g2 ?_ hk
  simp only[am,ho,h1,SV.val,S0.val,SL.val,if_true,h2]
 ·rename_i y e1 e2
  obtain⟨h1,_⟩:=hR.sval e1 (by simp)
  obtain⟨h2,g2⟩:=hR.sval e2 (by simp)
  refine aw hR ha g2 ?_ hk
  simp only[am,ho,h1,SV.val,S0.val,SL.val,h2,qaj,if_false]
 ·rename_i t y z e1 e2 e3
  obtain⟨h1,_⟩:=hR.sval e1 (by simp)
  obtain⟨h2,g2⟩:=hR.sval e2 (by simp)
  obtain⟨h3,g3⟩:=hR.sval e3 (by simp)
  rcases hA.cond _ _ _ hk with⟨ht,hk⟩|⟨ht,hk⟩
  ·refine aw hR ha g2 ?_ hk
   simp only[am,ho,h1,SV.val,S0.val,SL.val,ht,if_true,h2]
  ·refine aw hR ha g3 ?_ hk
   simp only[am,ho,h1,SV.val,S0.val,SL.val,ht,h3,qaj,if_false]
 ·exact absurd hk hA.fail
theorem newV_ok(hA:AlgOk A X.C Sg X.T holds abs)(hR:Rp ev σ)(ha:abs h=σ.heap){t:TypeId}{x:S0}(hx:x.good)(he:am X.C X.pts (oval σ.tmps) o=bW X.C X.pts o.dst t x.val)
  (hb:(∃y,o.op = .box t y)∨o.op = .alloc t) (hk:holds (newV A X o.dst t x ev h K)):Done X holds abs o σ K:=by
 unfold newV at hk
 split at hk
 ·exact absurd hk hA.fail
 ·rename_i d hd
  have ep:=S0.cells_val hx
  have hok:=S0.cells_ok hx
  have hnt:=S0.not_tuple hx
  split at hk
  ·rename_i hp
   have hp:X.pts.getD d 0=d+2:=by simpa using hp
   split at hk
   ·rename_i hl
    rw[setK_eq,setK_eq]at hk
    have hrow:ev.lc[d]? = some .nil:=by
     rw[List.getD_eq_getElem?_getD]at hl
     cases he:ev.lc[d]? with
     |none=>rw[he]at hl;cases hl
     |some r=>rw[he]at hl;simp at hl;rw[hl]
    have hloc:σ.loc[d]? = some none:=hR.row d _ hrow
    have heff:am X.C X.pts (oval σ.tmps) o=some (.lnew d (x.cells.map SL.val)):=by
     rw[he,hd]
     unfold bW
     simp only[hnt,qaj,if_false,ep,cells_ok' hx,qaR,hp,if_true]
    let σ₁:St:={ σ with loc:=σ.loc.set d (some (x.cells.map SL.val)) }
    have hR1:Rp ⟨ev.tm,ev.lc.set d (.row x.cells)⟩ σ₁:=by
     refine⟨hR.len,hR.val,by simp[σ₁,hR.llen],λi r hr=>?_⟩
     simp only[qaS]at hr
     split at hr
     ·rename_i hi
      subst hi
      split at hr
      ·rename_i hlt
       cases hr
       exact⟨by simp only[σ₁];rw[qaE (by rw[←hR.llen];exact hlt)],hx⟩
      ·cases hr
     ·rename_i hi
      have:=hR.row i r hr
      have hne:σ₁.loc[i]? = σ.loc[i]?:=by simp only[σ₁];rw[qat hi]
      cases r<;>first|trivial|(simp only[LR.ok]at this ⊢;rw[hne];exact this)
    have hkey:sf X.pts o=some d:=by
     rcases hb with⟨y,hb⟩|hb<;>(simp only[sf,hb,hd];rw[if_pos hp])
    have hrow':ii X.pts o=some d:=by
     rcases hb with⟨y,hb⟩|hb<;>(simp only[ii,hb,hd];rw[if_pos hp])
    refine⟨σ₁.put o.dst (.pointer (some ⟨d,0,some 0⟩)),_,h,.inl ⟨_,heff,(σ₁,.pointer (some ⟨d,0,some 0⟩)),by simp[aI,hloc,σ₁],rfl⟩,?_,?_,?_,hk⟩
    ·rw[hd];exact hR1.put d (s:=.lad d 0) trivial
    ·rw[ha];cases o.dst<;>rfl
    ·have hf:=Fr.put (σ:=σ₁) o.dst (.pointer (some ⟨d,0,some 0⟩)) [d] [d]
     have h0:Fr o.dst.toList [d] [d] σ σ₁:=by
      refine⟨rfl,by simp[σ₁],λ_ _ h _ _=>h,λ_ _ _ h _ _=>h,λs y hs hn=>?_,λs vs hs hn=>?_⟩
      ·simp only[qay]at hn
       simp only[σ₁]
       rw[qat (λe=>hn e.symm)];exact hs
      ·simp only[qay]at hn
       refine⟨vs,?_,rfl⟩
       simp only[σ₁]
       rw[qat (λe=>hn e.symm)];exact hs
     rw[hkey,hrow']
     exact h0.trans hf
   ·exact absurd hk hA.fail
  ·rename_i hp
   have hp:¬X.pts.getD d 0=d+2:=λe=>by rw[e]at hp;simp at hp
   obtain⟨h',e1,e2⟩:=hA.new _ _ _ hk
   rw[ha]at e1 e2
   have heff:am X.C X.pts (oval σ.tmps) o=some (.hop λH=>some (H++[.cells x.val.cells.toList (jP X.C.P t) true],.pointer (some ⟨H.length,0,none⟩))):=by
    rw[he,hd]
    unfold bW
    simp only[hnt,qaj,if_false,hok,qaR,hp]
   rw[←hd]at e2
   refine cO (s:=.st (.leaf (.v (.pointer (some ⟨σ.heap.length,0,none⟩))))) hR e1 (λl hl=>?_) heff ?_ e2
   ·simp only[S0.cells,qay]at hl
    subst hl;rfl
   ·simp only[ep];rfl
theorem uz(new:List Value):∀(off k:Nat) (cs:List Value),off+k+new.length<=cs.length->
  ((new.zipIdx k).foldl (λ(acc:Array Value) (p:Value×Nat)=>acc.setIfInBounds (off+p.2) p.1) cs.toArray).toList=cs.take (off+k)++new++cs.drop (off+k+new.length):=by
 induction new with
 |nil=>intro off k cs h;simp
 |cons a l ih=>
  intro off k cs h
  simp only[qaF]at h
  simp only[List.zipIdx_cons,qcl]
  have hset:(cs.toArray.setIfInBounds (off+k) a)=(cs.set (off+k) a).toArray:=by simp
  rw[hset,ih off (k+1) (cs.set (off+k) a) (by simp;omega)]
  rw[List.take_set,List.drop_set]
  have h1:(cs.take (off+(k+1))).set (off+k) a=cs.take (off+k)++[a]:=by
   rw[show off+(k+1)=(off+k)+1 from by omega]
   rw[List.take_succ_eq_append_getElem (by omega),List.set_append]
   simp[qb6 (show off+k<=cs.length by omega)]
  rw[h1]
  rw[if_pos (show off+k<off+(k+1)+l.length by omega),show off+(k+1)+l.length=off+k+(l.length+1)by omega]
  simp only[qaM,qaD,qaC,qaF]
theorem pU(pl:Nat->Option (Nat×Nat)):∀(ps:List (Nat×S0)) (cs r:List SL),(∀p∈ps,p.2.good)->pT pl cs ps=some r->
  Instr.fill pl ⟨cs.map SL.val⟩ (ps.map λp=>(p.1,p.2.val))=some ⟨r.map SL.val⟩
 | [],cs,r,_,hf=>by cases hf;rfl
 |(i,x) :: ps,cs,r,hg,hf=>by
  simp only[pT]at hf
  split at hf
  ·rename_i off n hpl
   split at hf
   ·rename_i hn
    split at hf
    ·rename_i cs1 hs
     have hn:x.cells.length=n:=by simpa using hn
     have hx:x.good:=hg (i,x) (by simp)
     have hc:=S0.cells_val hx
     unfold gu at hs
     split at hs
     ·rename_i hle
      cases hs
      have ih:=pU pl ps _ r (λp hp=>hg p (by simp[hp])) hf
      simp only[qar,Instr.fill,hpl,hc]
      have hsz:(⟨x.cells.map SL.val⟩ : Array Value).size=n:=by simp[hn]
      rw[if_neg (by
       have h2:(⟨cs.map SL.val⟩ : Array Value).size=cs.length:=by simp
       rw[hsz,h2];simp;omega)]
      rw[←ih]
      congr 1
      have hfold:=uz (x.cells.map SL.val) off 0 (cs.map SL.val) (by simp;omega)
      apply qa3.1
      rw[←qcj,qcX]
      refine Eq.trans hfold ?_
      simp[qcg,qcn]
     ·cases hs
    ·cases hf
   ·cases hf
  ·cases hf
theorem nW(pl:Nat->Option (Nat×Nat)):∀(ps:List (Nat×S0)) (cs r:List SL),(∀c∈cs,c.good)->(∀p∈ps,p.2.good)->pT pl cs ps=some r->∀c∈r,c.good
 | [],cs,r,hc,_,hf=>by cases hf;exact hc
 |(i,x) :: ps,cs,r,hc,hg,hf=>by
  simp only[pT]at hf
  split at hf
  ·split at hf
   ·split at hf
    ·rename_i cs1 hs
     refine nW pl ps cs1 r (λc hm=>?_) (λp hp=>hg p (by simp[hp])) hf
     unfold gu at hs
     split at hs
     ·cases hs
      simp only[qaG]at hm
      rcases hm with(hm|hm)|hm
      ·exact hc c (qbs hm)
      ·exact hg (i,x) (by simp) c hm
      ·exact hc c (qby hm)
     ·cases hs
    ·cases hf
   ·cases hf
  ·cases hf
theorem pc{ps:List (Nat×Operand)}{xs:List S0}(hv:(ps.map (·.2)).map (oval σ.tmps)=af xs) :
  ps.map (λp=>(p.1,oval σ.tmps p.2))=((ps.map (·.1)).zip xs).map λp=>(p.1,p.2.val):=by
 induction ps generalizing xs with
 |nil=>simp
 |cons p ps ih=>
  cases xs with
  |nil=>simp[af]at hv
  |cons x xs=>
   simp only[qar,af,qaX]at hv
   simp only[qar,qct,hv.1]
   rw[ih (xs:=xs) hv.2]
theorem qS{is:List Nat}{xs:List S0}(hg:∀x∈xs,x.good):∀p∈is.zip xs,p.2.good:=λ_ hp=>hg _ (List.of_mem_zip hp).2
theorem qQ{P:Program}{t:TypeId}{x:S0}(hz:uy P t=some x):∃z,dj P t=some z/\x.val=z/\x.good:=by
 unfold uy at hz
 obtain⟨z,h1,h2⟩:=qap.1 hz
 obtain⟨h3,h4,_⟩:=qD h2
 exact⟨z,h1,h3,h4⟩
theorem build_ok(hA:AlgOk A X.C Sg X.T holds abs)(hR:Rp ev σ)(ha:abs h=σ.heap){t:TypeId}{ps:Array (Nat×Operand)}(ho:o.op = .build t ps)
  (hk:holds (match uy X.C.P t,lC X.C.P t,svals ev (ps.toList.map (·.2))with
  |some z,some pl,some xs=>match pT pl z.cells ((ps.toList.map (·.1)).zip xs)with
   |some cs=>setD o.dst (.st (.agg cs)) ev h K
   |none=>A.fail
  |_,_,_=>A.fail)):Done X holds abs o σ K:=by
 split at hk
 ·rename_i z pl xs e1 e2 e3
  split at hk
  ·rename_i cs e4
   obtain⟨zv,hz1,hz2,hz3⟩:=qQ e1
   obtain⟨hv,hg⟩:=hR.svals e3
   have hzc:=S0.cells_val hz3
   have hfill:=pU pl _ _ _ (qS (is:=ps.toList.map (·.1)) hg) e4
   have hgood:=nW pl _ _ _ (λc hc=>hz3 c hc) (qS (is:=ps.toList.map (·.1)) hg) e4
   refine aw hR ha (s:=.st (.agg cs)) hgood ?_ hk
   have hall:(ps.toList.all λp=>!aD (oval σ.tmps p.2))=true:=by
    simp only[qab,qbR]
    intro p hp
    have hm:oval σ.tmps p.2∈af xs:=by
     rw[←hv]
     exact qaL.2 ⟨p.2,qaL.2 ⟨p,hp,rfl⟩,rfl⟩
    simp only[af,qaL]at hm
    obtain⟨x,hx,e⟩:=hm
    rw[←e]
    exact S0.not_tuple (hg x hx)
   simp only[am,ho,hall,if_true,rf,hz1,e2]
   rw[pc hv,←hz2,hzc,hfill]
   rfl
  ·exact absurd hk hA.fail
 ·exact absurd hk hA.fail
end
theorem SL.lf_val{a b:SL}{k:LK}(ha:a.is k=true)(hb:b.is k=true)(he:a.lf=b.lf):a.val=b.val/\(a.good->b.good):=by
 cases a<;>cases b<;>cases k<;>simp only[SL.lf,Lf.i.injEq,Lf.b.injEq,Lf.v.injEq,reduceCtorEq,SL.is,qaj]at he ha hb ⊢<;>try (subst he;exact⟨rfl,id⟩)
 subst he
 exact⟨by simp only[SL.val];rw[dd ha,dd hb],id⟩
theorem bu:∀ {cs:List SL} {ks:List LK},aK cs ks=true->cs.length=ks.length
 | [],[],_=>rfl
 |c :: cs,k :: ks,h=>by
  simp only[aK,qaa]at h
  simp[bu h.2]
 | [],_ :: _,h=>by cases h
 |_ :: _,[],h=>by cases h
theorem fP:∀ {a b:List SL} {ks:List LK},aK a ks=true->aK b ks=true->a.map SL.lf=b.map SL.lf->a.map SL.val=b.map SL.val/\((∀c∈a,c.good)->∀c∈b,c.good)
 | [],[],[],_,_,_=>⟨rfl,λ_ _ h=>by cases h⟩
 |a :: as0,b :: bs,k :: ks,ha,hb,he=>by
  simp only[aK,qaa]at ha hb
  simp only[qar,qaX]at he
  obtain⟨h1,h2⟩:=SL.lf_val ha.1 hb.1 he.1
  obtain⟨h3,h4⟩:=fP ha.2 hb.2 he.2
  refine⟨by simp[h1,h3],λhg c hc=>?_⟩
  rcases qam.1 hc with rfl|hc
  ·exact h2 (hg a (by simp))
  ·exact h4 (λc hc=>hg c (by simp[hc])) c hc
 | [],_ :: _,[],_,hb,_=>by cases hb
 | [],_,_ :: _,ha,_,_=>by cases ha
 |_ :: _,_,[],ha,_,_=>by cases ha
 |_ :: _,[],_ :: _,_,hb,_=>by cases hb
theorem S0.is_val{a b:S0}{sk:SK}(ha:a.is sk=true)(hb:b.is sk=true)(he:a.cells.map SL.lf=b.cells.map SL.lf):a.val=b.val/\(a.good->b.good):=by
 cases sk with
 |leaf k=>
  cases a with
  |agg _=>cases ha
  |leaf a=>
   cases b with
   |agg _=>cases hb
   |leaf b=>
    simp only[S0.cells,qar,qbe,qaX,and_true]at he
    obtain⟨h1,h2⟩:=SL.lf_val ha hb he
    refine⟨h1,λhg l hl=>?_⟩
    simp only[S0.cells,qay]at hl
    subst hl
    exact h2 (hg a (by simp[S0.cells]))
 |agg ks=>
  cases a with
  |leaf _=>cases ha
  |agg a=>
   cases b with
   |leaf _=>cases hb
   |agg b=>
    obtain⟨h1,h2⟩:=fP ha hb he
    exact⟨by simp only[S0.val,h1],h2⟩
theorem S0.is_len{a:S0}{sk:SK}(ha:a.is sk=true):∃n,a.cells.length=n/\∀b:S0,b.is sk=true->b.cells.length=n:=by
 refine⟨_,rfl,λb hb=>?_⟩
 cases sk with
 |leaf k=>
  cases a with
  |agg _=>cases ha
  |leaf a=>cases b with
   |agg _=>cases hb
   |leaf b=>rfl
 |agg ks=>
  cases a with
  |leaf _=>cases ha
  |agg a=>cases b with
   |leaf _=>cases hb
   |agg b=>exact(bu hb).trans (bu ha).symm
theorem cL:∀ {a b:List S0} {sks:List SK},bJ a sks=true->bJ b sks=true->bL a=bL b->af a=af b/\((∀c∈a,c.good)->∀c∈b,c.good)
 | [],[],[],_,_,_=>⟨rfl,λ_ _ h=>by cases h⟩
 |a :: as0,b :: bs,k :: ks,ha,hb,he=>by
  simp only[bJ,qaa]at ha hb
  obtain⟨n,hn1,hn2⟩:=S0.is_len ha.1
  have hn2:=hn2 b hb.1
  simp only[bL]at he
  obtain⟨he1,he2⟩:=qdn he (by simp[hn1,hn2])
  obtain⟨h1,h2⟩:=S0.is_val ha.1 hb.1 he1
  obtain⟨h3,h4⟩:=cL ha.2 hb.2 he2
  refine⟨by simp only[af,qar,h1]at h3 ⊢;rw[h3],λhg c hc=>?_⟩
  rcases qam.1 hc with rfl|hc
  ·exact h2 (hg a (by simp))
  ·exact h4 (λc hc=>hg c (by simp[hc])) c hc
 | [],_ :: _,[],_,hb,_=>by cases hb
 | [],_,_ :: _,ha,_,_=>by cases ha
 |_ :: _,_,[],ha,_,_=>by cases ha
 |_ :: _,[],_ :: _,_,hb,_=>by cases hb
section
variable [Val] [Kno] {R HT:Type} {A:Alg R HT} {X:Ctxt} {Sg:FuncId->Option Sig} {holds:R->Prop} {abs:HT->List HObj}
variable {ev:Env} {σ:St} {h:HT} {o:Oper} {K:KN R HT}
theorem oY{C:Cfg}{T:Nat->Site}(hA:AlgOk A C Sg T holds abs):∀ {ks:List LK} {ls:List Lf} {K:List SL->List Lf->R},holds (unL A ks ls K)->
  ∃cs r,ls=cs.map SL.lf++r/\aK cs ks=true/\holds (K cs r)
 | [],ls,K,hk=>⟨[],ls,rfl,rfl,hk⟩
 | .i k :: ks,ls,K,hk=>by
  obtain⟨n,r,rfl,hk1⟩:=hA.unI _ _ hk
  obtain⟨cs,r',rfl,h2,h3⟩:=oY hA (ks:=ks) hk1
  exact⟨.i k n :: cs,r',rfl,by simp[aK,SL.is,dt,h2],h3⟩
 | .b :: ks,ls,K,hk=>by
  obtain⟨n,r,rfl,hk1⟩:=hA.unB _ _ hk
  obtain⟨cs,r',rfl,h2,h3⟩:=oY hA (ks:=ks) hk1
  exact⟨.b n :: cs,r',rfl,by simp[aK,SL.is,h2],h3⟩
 | .v :: ks,ls,K,hk=>by
  obtain⟨n,r,rfl,hk1⟩:=hA.unV _ _ hk
  obtain⟨cs,r',rfl,h2,h3⟩:=oY hA (ks:=ks) hk1
  exact⟨.v n :: cs,r',rfl,by simp[aK,SL.is,h2],h3⟩
theorem unS_ok{C:Cfg}{T:Nat->Site}(hA:AlgOk A C Sg T holds abs){sk:SK}{ls:List Lf}{K:S0->List Lf->R}(hk:holds (unS A sk ls K)) :
  ∃x r,ls=x.cells.map SL.lf++r/\x.is sk=true/\holds (K x r):=by
 cases sk with
 |leaf k=>
  cases k with
  |i k=>
   obtain⟨n,r,rfl,hk1⟩:=hA.unI _ _ hk
   exact⟨.leaf (.i k n),r,rfl,by simp[S0.is,SL.is,dt],hk1⟩
  |b=>
   obtain⟨n,r,rfl,hk1⟩:=hA.unB _ _ hk
   exact⟨.leaf (.b n),r,rfl,rfl,hk1⟩
  |v=>
   obtain⟨n,r,rfl,hk1⟩:=hA.unV _ _ hk
   exact⟨.leaf (.v n),r,rfl,rfl,hk1⟩
 |agg ks=>
  obtain⟨cs,r,h1,h2,h3⟩:=oY hA hk
  exact⟨.agg cs,r,h1,h2,h3⟩
theorem nq{C:Cfg}{T:Nat->Site}(hA:AlgOk A C Sg T holds abs):∀ {sks:List SK} {ls:List Lf} {K:List S0->List Lf->R},holds (unSs A sks ls K)->
  ∃xs r,ls=bL xs++r/\bJ xs sks=true/\holds (K xs r)
 | [],ls,K,hk=>⟨[],ls,rfl,rfl,hk⟩
 |sk :: sks,ls,K,hk=>by
  have hk0:holds (unS A sk ls λx r=>unSs A sks r λxs r=>K (x :: xs) r):=hk
  obtain⟨x,r,rfl,h1,hk1⟩:=unS_ok hA hk0
  obtain⟨xs,r',rfl,h2,h3⟩:=nq hA (sks:=sks) hk1
  exact⟨x :: xs,r',by simp[bL],by simp[bJ,h1,h2],h3⟩
theorem wh{C:Cfg}{T:Nat->Site}(hA:AlgOk A C Sg T holds abs):∀ {ks:List LK} {ls:List Value} {K:List SL->List Value->R},holds (ucL A ks ls K)->
  ∃cs r,ls=cs.map SL.val++r/\aK cs ks=true/\(∀c∈cs,c.good)/\holds (K cs r)
 | [],ls,K,hk=>⟨[],ls,rfl,rfl,by simp,hk⟩
 | .i k :: ks,ls,K,hk=>by
  obtain⟨n,r,rfl,hk1⟩:=hA.ucI _ _ _ hk
  obtain⟨cs,r',rfl,h2,h3,h4⟩:=wh hA (ks:=ks) hk1
  exact⟨.i k n :: cs,r',rfl,by simp[aK,SL.is,dt,h2],qbk.2 ⟨trivial,h3⟩,h4⟩
 | .b :: ks,ls,K,hk=>by
  obtain⟨n,r,rfl,hk1⟩:=hA.ucB _ _ hk
  obtain⟨cs,r',rfl,h2,h3,h4⟩:=wh hA (ks:=ks) hk1
  exact⟨.b n :: cs,r',rfl,by simp[aK,SL.is,h2],qbk.2 ⟨trivial,h3⟩,h4⟩
 | .v :: ks,ls,K,hk=>by
  obtain⟨n,r,rfl,hk1⟩:=hA.ucV _ _ hk
  obtain⟨hg,hk2⟩:=hA.chk _ _ hk1
  obtain⟨cs,r',rfl,h2,h3,h4⟩:=wh hA (ks:=ks) hk2
  exact⟨.v n :: cs,r',rfl,by simp[aK,SL.is,h2],qbk.2 ⟨hg,h3⟩,h4⟩
theorem nn{C:Cfg}{T:Nat->Site}(hA:AlgOk A C Sg T holds abs){sk:SK}{ls:List Value}{K:S0->List Value->R}(hk:holds (ucS A sk ls K)) :
  ∃x r,ls=x.cells.map SL.val++r/\x.is sk=true/\x.good/\holds (K x r):=by
 cases sk with
 |leaf k=>
  cases k with
  |i k=>
   obtain⟨n,r,rfl,hk1⟩:=hA.ucI _ _ _ hk
   exact⟨.leaf (.i k n),r,rfl,by simp[S0.is,SL.is,dt],λl hl=>by simp only[S0.cells,qay]at hl;subst hl;trivial,hk1⟩
  |b=>
   obtain⟨n,r,rfl,hk1⟩:=hA.ucB _ _ hk
   exact⟨.leaf (.b n),r,rfl,rfl,λl hl=>by simp only[S0.cells,qay]at hl;subst hl;trivial,hk1⟩
  |v=>
   obtain⟨n,r,rfl,hk1⟩:=hA.ucV _ _ hk
   obtain⟨hg,hk2⟩:=hA.chk _ _ hk1
   exact⟨.leaf (.v n),r,rfl,rfl,λl hl=>by simp only[S0.cells,qay]at hl;subst hl;exact hg,hk2⟩
 |agg ks=>
  obtain⟨cs,r,h1,h2,h3,h4⟩:=wh hA hk
  exact⟨.agg cs,r,h1,h2,h3,h4⟩
theorem ucSs_ok{C:Cfg}{T:Nat->Site}(hA:AlgOk A C Sg T holds abs):∀ {sks:List SK} {ls:List Value} {K:List S0->List Value->R},holds (ucSs A sks ls K)->
  ∃xs r,ls=kZ xs++r/\bJ xs sks=true/\(∀x∈xs,x.good)/\holds (K xs r)
 | [],ls,K,hk=>⟨[],ls,rfl,rfl,by simp,hk⟩
 |sk :: sks,ls,K,hk=>by
  have hk0:holds (ucS A sk ls λx r=>ucSs A sks r λxs r=>K (x :: xs) r):=hk
  obtain⟨x,r,rfl,h1,hg,hk1⟩:=nn hA hk0
  obtain⟨xs,r',rfl,h2,h3,h4⟩:=ucSs_ok hA (sks:=sks) hk1
  refine⟨x :: xs,r',by simp[kZ],by simp[bJ,h1,h2],λc hc=>?_,h4⟩
  rcases qam.1 hc with rfl|hc
  ·exact hg
  ·exact h3 c hc
def mkV(agg:Bool)(cs:List Value)(v:Value):Prop:=(agg=true/\v = .agg ⟨cs⟩)∨(agg=false/\cs=[v])
theorem ot{x:S0}{sk:SK}(hx:x.is sk=true){v:Value}(hv:mkV (im sk) (x.cells.map SL.val) v):x.val=v:=by
 cases sk with
 |leaf k=>
  cases x with
  |agg _=>cases hx
  |leaf l=>
   rcases hv with⟨h,_⟩|⟨_,h⟩
   ·cases h
   ·simp only[S0.cells,qar,qbe,qaX,and_true]at h
    exact h
 |agg ks=>
  cases x with
  |leaf _=>cases hx
  |agg cs=>
   rcases hv with⟨_,h⟩|⟨h,_⟩
   ·exact h.symm
   ·cases h
theorem eqB_eq{a b:Bool}(h:eqB a b=true):a=b:=by cases a<;>cases b<;>first|rfl|cases h
theorem mr{agg:Bool}{cs:List SL}{x:S0}(hx:mkS0 agg cs=some x):x.cells=cs/\mkV agg (cs.map SL.val) x.val:=by
 unfold mkS0 at hx
 split at hx
 ·cases hx;exact⟨rfl,.inl ⟨rfl,rfl⟩⟩
 ·cases hx;exact⟨rfl,.inr ⟨rfl,rfl⟩⟩
 ·cases hx
theorem cE{P:Program}{t:TypeId}{agg:Bool}(hag:aggT P t=some agg){vs cs:List Value}{off:Nat}(hc:cut vs off (if agg then P.cellsOf t else 1)=some cs) :
  ∃v,cV P t vs off=some v/\mkV agg cs v:=by
 unfold aggT at hag
 unfold cV
 split at hag
 ·rename_i fs e
  cases hag
  rw[e]
  simp only[if_true]at hc
  exact⟨.agg ⟨cs⟩,by simp[hc],.inl ⟨rfl,rfl⟩⟩
 ·rename_i fs e
  cases hag
  rw[e]
  simp only[if_true]at hc
  exact⟨.agg ⟨cs⟩,by simp[hc],.inl ⟨rfl,rfl⟩⟩
 ·rename_i d h1 h2 e
  cases hag
  rw[e]
  simp only[qaj,if_false]at hc
  unfold cut at hc
  split at hc
  ·rename_i hle
   cases hc
   have hlt:off<vs.length:=by omega
   have hcs:(vs.drop off).take 1=[vs[off]]:=by
    rw[qbi hlt];rfl
   refine⟨vs[off],?_,.inr ⟨rfl,hcs⟩⟩
   simp[hlt]
  ·cases hc
 ·cases hag
theorem jR(hA:AlgOk A X.C Sg X.T holds abs){dst:Option Tmp}{sk:SK}{cs:List Value}{v:Value}(hv:mkV (im sk) cs v)(hk:holds (setC A dst sk cs ev h K)) :
  ∃x:S0,x.val=v/\x.good/\holds (setD dst (.st x) ev h K):=by
 obtain⟨x,r,h1,h2,h3,hk1⟩:=nn hA hk
 obtain⟨hr,hk2⟩:=hA.uc0 _ _ hk1
 rw[hr,qa0]at h1
 subst h1
 exact⟨x,ot h2 hv,h3,hk2⟩
theorem lU{cs ds:List SL}{off n:Nat}(hc:cutS cs off n=some ds):cut (cs.map SL.val) off n=some (ds.map SL.val)/\(∀d∈ds,d∈cs):=by
 unfold cutS at hc
 unfold cut
 split at hc
 ·rename_i hle
  cases hc
  rw[if_pos (by simpa using hle)]
  exact⟨by simp[qcn,qcg],λd hd=>qby (qbs hd)⟩
 ·cases hc
theorem iT(hR:Rp ev σ){s:Nat}{cs:List SL}(hr:qB ev s=some cs):σ.loc[s]? = some (some (cs.map SL.val))/\(∀c∈cs,c.good)/\ev.lc[s]? = some (.row cs):=by
 unfold qB at hr
 split at hr
 ·rename_i ds e
  cases hr
  rw[List.getD_eq_getElem?_getD]at e
  cases he:ev.lc[s]? with
  |none=>rw[he]at e;cases e
  |some r=>
   rw[he]at e
   simp only[qbm]at e
   subst e
   have:=hR.row s _ he
   exact⟨this.1,this.2,rfl⟩
 ·cases hr
theorem vz{cs:List SL}{base:Nat}{ix:List (Int×Nat)}{n:Nat}{ls:List Lf}(hp:dF (cs.map SL.lf) base ix n=some ls) :
  ∃ds,cutS cs (offX base ix) n=some ds/\ls=ds.map SL.lf:=by
 rw[pickL_eq]at hp
 split at hp
 ·rename_i hle
  cases hp
  refine⟨_,by unfold cutS;rw[if_pos (by simpa using hle)],by simp[qcn,qcg]⟩
 ·cases hp
theorem offX_le:∀(ix:List (Int×Nat)) (base:Nat),base<=offX base ix
 | [],base=>qal _
 |p :: l,base=>qbP (qdh _ _) (offX_le l _)
theorem kS{cs ds:List SL}{ks:List LK}:∀ {ix:List (Int×Nat)} {base:Nat},qW cs ks base ix=true->cutS cs (offX base ix) ks.length=some ds->aK ds ks=true
 | [],base,h1,h2=>by
  simp only[qW,offX]at h1 h2
  rw[h2]at h1
  exact h1
 |p :: l,base,h1,h2=>by
  simp only[qW,qaa,qab,qbR,offX]at h1 h2
  obtain⟨h0,h1⟩:=h1
  refine kS (ix:=l) (h1 p.1.toNat ?_) h2
  have hp:p.2≠0:=λe=>by rw[e]at h0;cases h0
  have hle:offX (base+p.1.toNat*p.2) l<=cs.length:=by
   unfold cutS at h2
   split at h2
   ·omega
   ·cases h2
  have:=offX_le l (base+p.1.toNat*p.2)
  have h3:p.1.toNat<=p.1.toNat*p.2:=Nat.le_mul_of_pos_right _ (Nat.pos_of_ne_zero hp)
  simp only[qai]
  omega
theorem is_skKs{x:S0}{sk:SK}(hx:x.is sk=true):aK x.cells (skKs sk)=true:=by
 cases sk with
 |leaf k=>
  cases x with
  |agg _=>cases hx
  |leaf l=>simp[S0.cells,skKs,aK];exact hx
 |agg ks=>
  cases x with
  |leaf _=>cases hx
  |agg cs=>exact hx
theorem setL_ok(hA:AlgOk A X.C Sg X.T holds abs){dst:Option Tmp}{sk:SK}{ds:List SL}{v:Value}(hd:aK ds (skKs sk)=true)(hg:∀c∈ds,c.good)(hv:mkV (im sk) (ds.map SL.val) v)
  (hk:holds (setL A dst sk (ds.map SL.lf) ev h K)):∃x:S0,x.val=v/\x.good/\holds (setD dst (.st x) ev h K):=by
 obtain⟨x,r,e1,e2,hk1⟩:=unS_ok hA hk
 obtain⟨hr0,hk2⟩:=hA.un0 _ _ hk1
 rw[hr0,qa0]at e1
 obtain⟨h1,h2⟩:=fP hd (is_skKs e2) e1
 rw[h1]at hv
 exact⟨x,ot e2 hv,h2 hg,hk2⟩
theorem is_lk(c:SL):c.is c.lk=true:=by cases c<;>first|rfl|exact dt _
theorem kT:∀cs:List SL,aK cs (cs.map SL.lk)=true
 | []=>rfl
 |c :: cs=>by simp[aK,is_lk,kT cs]
theorem fO:∀ {a b:List SL} {ka kb:List LK},aK a ka=true->aK b kb=true->aK (a++b) (ka++kb)=true
 | [],b,[],kb,_,h=>h
 |a :: as0,b,k :: ka,kb,h1,h2=>by
  simp only[aK,qaa,qaD]at h1 ⊢
  exact⟨h1.1,fO h1.2 h2⟩
 | [],_,_ :: _,_,h,_=>by cases h
 |_ :: _,_,[],_,h,_=>by cases h
end
section
variable [Val] [Kno] {R HT:Type} {A:Alg R HT} {X:Ctxt} {Sg:FuncId->Option Sig} {holds:R->Prop} {abs:HT->List HObj}
variable {ev:Env} {σ:St} {h:HT} {o:Oper} {K:KN R HT}
theorem rh(H:List HObj)(id:Nat):fS (λi=>H[i]?) id=ep H id:=rfl
theorem ldP_ok{n:Nat}{p:Value}{g:cb}{cs:List Value}(h:ldP n p g=some cs):∃id off vs,p = .pointer (some ⟨id,off,none⟩)/\fS g id=some vs/\cut vs off n=some cs:=by
 unfold ldP at h
 split at h
 ·rename_i a
  split at h
  ·rename_i hs
   obtain⟨vs,h1,h2⟩:=qap.1 h
   obtain⟨b,f,sp⟩:=a
   simp only at hs
   subst hs
   exact⟨b,f,vs,rfl,h1,h2⟩
  ·cases h
 ·cases h
theorem lgP_ok{C:Cfg}{n:Nat}{p:Value}{g:cb}{cs:List Value}(h:lgP C n p g=some cs):(∃id off vs,p = .pointer (some ⟨id,off,none⟩)/\fS g id=some vs/\cut vs off n=some cs)∨∃id off vs,p = .pointer (some ⟨id,off,some 1⟩)/\C.G id=some vs/\cut vs off n=some cs:=by
 unfold lgP at h
 split at h
 ·rename_i a
  split at h
  ·rename_i hs
   obtain⟨vs,h1,h2⟩:=qap.1 h
   obtain⟨b,f,sp⟩:=a
   simp only at hs
   subst hs
   exact .inl ⟨b,f,vs,rfl,h1,h2⟩
  ·rename_i k hs
   split at h
   ·rename_i hb
    obtain⟨vs,h1,h2⟩:=qap.1 h
    obtain⟨b,f,sp⟩:=a
    simp only at hs
    subst hs
    rw[qac hb]
    exact .inr ⟨b,f,vs,rfl,h1,h2⟩
   ·cases h
 ·cases h
theorem load_ok(hA:AlgOk A X.C Sg X.T holds abs)(hR:Rp ev σ)(ha:abs h=σ.heap){t:TypeId}{a:Operand}{sk:SK}{agg:Bool}(ho:o.op = .load t a)(hag:aggT X.C.P t=some agg)
  (hsk:agg=im sk) (hk:holds (loadE A X o.dst sk agg (if agg then X.C.P.cellsOf t else 1) a ev h K)):Done X holds abs o σ K:=by
 have heff:am X.C X.pts (oval σ.tmps) o=du X.C X.pts t a (oval σ.tmps a):=by simp only[am,ho]
 unfold loadE at hk
 split at hk
 ·rename_i p hkey he
  obtain⟨h1,_⟩:=hR.sval he (by simp)
  obtain⟨cs,h2,hk1⟩:=hA.peek _ _ _ hk
  simp only[Pk.run]at h2
  rw[ha]at h2
  rcases lgP_ok h2 with⟨id,off,vs,rfl,h3,h4⟩|⟨id,off,vs,rfl,h3,h4⟩
  ·rw[rh]at h3
   obtain⟨v,h5,h6⟩:=cE hag h4
   rw[hsk]at h6
   obtain⟨x,rfl,h7,hk2⟩:=jR hA h6 hk1
   refine fW hR ha (s:=.st x) h7 (f:=λH=>(ep H id).bind λvs=>cV X.C.P t vs off) ?_ ?_ hk2
   ·rw[heff,du,hkey,h1];rfl
   ·simp only[h3,qah,h5];rfl
  ·obtain⟨v,h5,h6⟩:=cE hag h4
   rw[hsk]at h6
   obtain⟨x,rfl,h7,hk2⟩:=jR hA h6 hk1
   refine fW hR ha (s:=.st x) h7 (f:=λ_=>(X.C.G id).bind λvs=>cV X.C.P t vs off) ?_ ?_ hk2
   ·rw[heff,du,hkey,h1];rfl
   ·simp only[h3,qah,h5];rfl
 ·rename_i g off hkey he
  obtain⟨h1,_⟩:=hR.sval he (by simp)
  split at hk
  ·rename_i vs hg
   split at hk
   ·rename_i cs hc
    obtain⟨v,h5,h6⟩:=cE hag hc
    have hval:am X.C X.pts (oval σ.tmps) o=some (.val v):=by
     rw[heff,du,hkey,h1]
     simp only[SV.val,fm,if_true,qah,hg,h5,qav]
    split at hk
    ·rename_i x hsc hm
     obtain⟨hm1,hm2⟩:=mr hm
     have hcs:(cs.map slOf).map SL.val=cs:=by
      rw[qc5]
      have:(SL.val ∘ slOf)=id:=funext qH
      rw[this,List.map_id]
     rw[hcs]at hm2
     have hv:x.val=v:=by
      rcases hm2 with⟨a1,a2⟩|⟨a1,a2⟩<;>rcases h6 with⟨b1,b2⟩|⟨b1,b2⟩
      ·rw[a2,b2]
      ·rw[a1]at b1;cases b1
      ·rw[a1]at b1;cases b1
      ·rw[a2]at b2;simpa using b2
     subst hv
     refine aw hR ha (s:=.st x) (λl hl=>?_) hval hk
     rw[hm1]at hl
     obtain⟨c,hc1,rfl⟩:=qaL.1 hl
     exact ni (qab.1 hsc c hc1)
    ·rw[hsk]at h6
     obtain⟨x,rfl,h7,hk⟩:=jR hA h6 hk
     exact aw hR ha (s:=.st x) h7 hval hk
   ·exact absurd hk hA.fail
  ·exact absurd hk hA.fail
 ·rename_i g base ix hkey he
  obtain⟨h1,_⟩:=hR.sval he (by simp)
  split at hk
  ·rename_i vs hg
   obtain⟨cs,hc,hk⟩:=hA.opt _ _ hk
   obtain⟨v,h5,h6⟩:=cE hag (vs:=vs) (off:=offX base ix) ((pickV_eq _ _ _ _).symm.trans hc)
   have hval:am X.C X.pts (oval σ.tmps) o=some (.val v):=by
    rw[heff,du,hkey,h1]
    simp only[SV.val,fm,if_true,qah,hg,h5,qav]
   rw[hsk]at h6
   obtain⟨x,rfl,h7,hk⟩:=jR hA h6 hk
   exact aw hR ha (s:=.st x) h7 hval hk
  ·exact absurd hk hA.fail
 ·rename_i p hkey he
  obtain⟨h1,_⟩:=hR.sval he (by simp)
  obtain⟨cs,hc,hk1⟩:=hA.opt _ _ hk
  unfold ldGv at hc
  split at hc
  ·rename_i ad
   split at hc
   ·rename_i hsp
    obtain⟨vs,hg,hc⟩:=qap.1 hc
    obtain⟨v,h5,h6⟩:=cE hag hc
    have hval:am X.C X.pts (oval σ.tmps) o=some (.val v):=by
     rw[heff,du,hkey,h1]
     simp only[SV.val,S0.val,SL.val,fm,hsp,if_true,qah,hg,h5,qav]
    rw[hsk]at h6
    obtain⟨x,rfl,h7,hk2⟩:=jR hA h6 hk1
    exact aw hR ha (s:=.st x) h7 hval hk2
   ·cases hc
  ·cases hc
 ·rename_i s s' off hkey he
  obtain⟨h1,_⟩:=hR.sval he (by simp)
  split at hk
  ·rename_i x hs hx
   have hs:s=s':=by simpa using hs
   subst hs
   obtain⟨cs,hr,hx⟩:=qap.1 hx
   obtain⟨ds,hd,hx⟩:=qap.1 hx
   obtain⟨r1,r2,_⟩:=iT hR hr
   obtain⟨c1,c2⟩:=lU hd
   obtain⟨v,h5,h6⟩:=cE hag c1
   obtain⟨hm1,hm2⟩:=mr hx
   have hv:x.val=v:=by
    rcases hm2 with⟨a1,a2⟩|⟨a1,a2⟩<;>rcases h6 with⟨b1,b2⟩|⟨b1,b2⟩
    ·rw[a2,b2]
    ·rw[a1]at b1;cases b1
    ·rw[a1]at b1;cases b1
    ·rw[a2]at b2;simpa using b2
   subst hv
   refine dc hR σ.heap ha (s:=.st x) (λl hl=>?_) (.inl ⟨.lget s λvs=>cV X.C.P t vs off,?_,(σ,x.val),?_,rfl⟩) hk
   ·rw[hm1]at hl;exact r2 l (c2 l hl)
   ·rw[heff,du,hkey,h1]
    simp[SV.val,gP]
   ·simp[aI,r1,h5]
  ·exact absurd hk hA.fail
 ·rename_i s s' base ix hkey he
  obtain⟨h1,_⟩:=hR.sval he (by simp)
  split at hk
  ·rename_i cs hs hr
   have hs:s=s':=by simpa using hs
   subst hs
   split at hk
   ·rename_i hat
    simp only[qaa]at hat
    obtain⟨hat,hn⟩:=hat
    have hn:=qac hn
    obtain⟨ls,hp,hk1⟩:=hA.opt _ _ hk
    obtain⟨ds,hd,rfl⟩:=vz hp
    obtain⟨r1,r2,_⟩:=iT hR hr
    obtain⟨c1,c2⟩:=lU hd
    obtain⟨v,h5,h6⟩:=cE hag c1
    rw[hsk]at h6
    rw[hn]at hd
    obtain⟨x,rfl,h7,hk2⟩:=setL_ok hA (kS hat hd) (λc hc=>r2 c (c2 c hc)) h6 hk1
    refine dc hR σ.heap ha (s:=.st x) h7 (.inl ⟨.lget s λvs=>cV X.C.P t vs (offX base ix),?_,(σ,x.val),?_,rfl⟩) hk2
    ·rw[heff,du,hkey,h1]
     simp[SV.val,gP]
    ·simp[aI,r1,h5]
   ·exact absurd hk hA.fail
  ·exact absurd hk hA.fail
 ·exact absurd hk hA.fail
theorem oU{cs r new:List SL}{off:Nat}(hs:gu cs off new=some r):splice (cs.map SL.val) off (new.map SL.val)=some (r.map SL.val)/\r.length=cs.length/\((∀c∈cs,c.good)->(∀c∈new,c.good)->∀c∈r,c.good):=by
 unfold gu at hs
 unfold splice
 split at hs
 ·rename_i hle
  cases hs
  rw[if_pos (by simpa using hle)]
  refine⟨by simp[qcg,qcn],by simp;omega,λh1 h2 c hc=>?_⟩
  simp only[qaG]at hc
  rcases hc with(hc|hc)|hc
  ·exact h1 c (qbs hc)
  ·exact h2 c hc
  ·exact h1 c (qby hc)
 ·cases hs
theorem uw{P:Program}{t:TypeId}{x:S0}(hx:x.good)(hlen:x.cells.length=P.cellsOf t)(hi:(P.info? t).isSome=true)(vs:List Value)(off:Nat) :
  dY P t x.val vs off=splice vs off (x.cells.map SL.val):=by
 unfold dY
 have h1:=S0.cells_val hx
 rw[if_pos ⟨by rw[h1];simpa using hlen,hi⟩,if_pos (S0.cells_ok hx),h1]
theorem pJ(hR:Rp ev σ)(ha:abs h=σ.heap){s:Nat}{cs:List SL}{f:List Value->Option (List Value)}{vs:List Value}(he:am X.C X.pts (oval σ.tmps) o=some (.lset s f))(hloc:σ.loc[s]? = some (some vs))
  (hf:f vs=some (cs.map SL.val)) (hlen:(cs.map SL.val).length=vs.length) (hg:∀c∈cs,c.good) (hrow:ii X.pts o=some s)
  (hk:holds (setD o.dst .un ⟨ev.tm,ev.lc.set s (.row cs)⟩ h K)):Done X holds abs o σ K:=by
 let σ₁:St:={ σ with loc:=σ.loc.set s (some (cs.map SL.val)) }
 have hlt:s<σ.loc.length:=(qaK.1 hloc).1
 have hR1:Rp ⟨ev.tm,ev.lc.set s (.row cs)⟩ σ₁:=by
  refine⟨hR.len,hR.val,by simp[σ₁,hR.llen],λi r hr=>?_⟩
  simp only[qaS]at hr
  split at hr
  ·rename_i hi
   subst hi
   split at hr
   ·cases hr
    exact⟨by simp only[σ₁];rw[qaE hlt],hg⟩
   ·cases hr
  ·rename_i hi
   have:=hR.row i r hr
   have hne:σ₁.loc[i]? = σ.loc[i]?:=by simp only[σ₁];rw[qat hi]
   cases r<;>first|trivial|(simp only[LR.ok]at this ⊢;rw[hne];exact this)
 obtain⟨ev',h1,h2⟩:=uf (dst:=o.dst) hR1 (s:=.un) trivial hk
 refine⟨σ₁.put o.dst undef,ev',h,.inl ⟨_,he,(σ₁,undef),by simp[aI,hloc,hf,σ₁],rfl⟩,h1,?_,?_,h2⟩
 ·rw[ha];cases o.dst<;>rfl
 ·have hf:=Fr.put (σ:=σ₁) o.dst undef (sf X.pts o).toList (ii X.pts o).toList
  have h0:Fr o.dst.toList (sf X.pts o).toList (ii X.pts o).toList σ σ₁:=by
   refine⟨rfl,by simp[σ₁],λ_ _ h _ _=>h,λ_ _ _ h _ _=>h,λi y hs hn=>?_,λi ws hs hn=>?_⟩
   ·rw[hrow]at hn
    simp only[Option.toList_some,qay]at hn
    simp only[σ₁]
    rw[qat (λe=>hn e.symm)];exact hs
   ·by_cases hi:i=s
    ·subst hi
     rw[hloc]at hs
     cases hs
     exact⟨_,by simp only[σ₁];rw[qaE hlt],hlen⟩
    ·exact⟨ws,by simp only[σ₁];rw[qat (λe=>hi e.symm)];exact hs,rfl⟩
  exact h0.trans hf
theorem stP_ok{p:Value}{new:List Value}{g:cb}{n:Nat}{acts:List Act1}{cs:List Value}(h:stP p new g n=some (acts,cs)) :
  ∃id off vs vs' e,p = .pointer (some ⟨id,off,none⟩)/\g id=some (.cells vs e true)/\splice vs off new=some vs'/\acts=[.set id (.cells vs' e true)]:=by
 unfold stP at h
 split at h
 ·rename_i a
  split at h
  ·rename_i hs
   split at h
   ·rename_i vs e hg
    obtain⟨vs',h1,h2⟩:=qad.1 h
    obtain⟨b,f,sp⟩:=a
    simp only at hs
    subst hs
    cases h2
    exact⟨b,f,vs,vs',e,rfl,hg,h1,rfl⟩
   ·cases h
  ·cases h
 ·cases h
theorem store_ok(hA:AlgOk A X.C Sg X.T holds abs)(hR:Rp ev σ)(ha:abs h=σ.heap){t:TypeId}{a y:Operand}{x:S0}(ho:o.op = .store t a y)(hy:sval ev y = .st x)
  (hk:holds (storeE A X o.dst t a x ev h K)):Done X holds abs o σ K:=by
 obtain⟨hy1,hx⟩:=hR.sval hy (by simp)
 have hx:x.good:=hx
 have heff:am X.C X.pts (oval σ.tmps) o=dW X.C X.pts t a (oval σ.tmps a) x.val:=by simp only[am,ho,hy1];rfl
 have hnt:=S0.not_tuple hx
 unfold storeE at hk
 split at hk
 ·exact absurd hk hA.fail
 ·rename_i hc
  simp only[qaa]at hc
  obtain⟨hlen,hi⟩:=hc
  have hlen:=qac hlen
  have hw:=uw (P:=X.C.P) (t:=t) hx hlen hi
  split at hk
  ·rename_i p hkey he
   obtain⟨h1,_⟩:=hR.sval he (by simp)
   obtain⟨acts,cs,h',h2,h3,hk1⟩:=hA.heap _ _ _ hk
   simp only[Hp.run]at h2
   rw[ha]at h2 h3
   obtain⟨id,off,vs,vs',e,rfl,g1,g2,rfl⟩:=stP_ok h2
   refine cO (s:=.un) hR (H':=σ.heap.set id (.cells vs' e true)) h3 trivial (f:=hQ X.C t id off x.val) ?_ ?_ hk1
   ·rw[heff,dW,hnt,hkey,h1];rfl
   ·simp only[hQ,g1,hw,g2,qav];rfl
  ·rename_i s s' off hkey he
   obtain⟨h1,_⟩:=hR.sval he (by simp)
   have hrow:ii X.pts o=some s:=by simp only[ii,ho,hkey]
   split at hk
   ·rename_i cs hs hst
    have hs:s=s':=by simpa using hs
    subst hs
    rw[setK_eq]at hk
    have heff2:am X.C X.pts (oval σ.tmps) o=some (.lset s λvs=>dY X.C.P t x.val vs off):=by
     rw[heff,dW,hnt,hkey,h1]
     simp[SV.val,gP]
    have hrow0:ev.lc[s]? = some (ev.lc.getD s .unk)∨ev.lc.getD s .unk = .unk:=by
     rw[List.getD_eq_getElem?_getD]
     cases ev.lc[s]?<;>simp
    unfold storeR at hst
    split at hst
    ·rename_i cs0 hl
     obtain⟨q1,q2,q3⟩:=oU hst
     have hlc:ev.lc[s]? = some (.row cs0):=by rcases hrow0 with h|h<;>rw[hl]at h<;>first|exact h|cases h
     have hr:=hR.row s _ hlc
     exact pJ hR ha heff2 hr.1 (by rw[hw];exact q1) (by simp[q2]) (q3 hr.2 hx) hrow hk
    ·rename_i n hl
     split at hst
     ·rename_i hz
      cases hst
      simp only[qaa]at hz
      have hz1:=qac hz.1
      have hz2:=qac hz.2
      have hlc:ev.lc[s]? = some (.any n):=by rcases hrow0 with h|h<;>rw[hl]at h<;>first|exact h|cases h
      obtain⟨vs,hv1,hv2⟩:=hR.row s _ hlc
      refine pJ hR ha heff2 hv1 ?_ (by rw[hv2,hz2];simp) hx hrow hk
      rw[hw,hz1,splice,if_pos (by simp;omega)]
      simp[show vs.length<=x.cells.length by omega]
     ·cases hst
    ·cases hst
   ·exact absurd hk hA.fail
  ·rename_i s s' base ix hkey he
   obtain⟨h1,_⟩:=hR.sval he (by simp)
   have hrow:ii X.pts o=some s:=by simp only[ii,ho,hkey]
   split at hk
   ·rename_i cs hs hr
    have hs:s=s':=by simpa using hs
    subst hs
    split at hk
    ·exact absurd hk hA.fail
    ·rename_i hat
     obtain⟨ls,hp,hk1⟩:=hA.opt _ _ hk
     obtain⟨cs',r,e1,e2,hk2⟩:=oY hA hk1
     obtain⟨hr0,hk3⟩:=hA.un0 _ _ hk2
     rw[hr0,qa0]at e1
     rw[setK_eq]at hk3
     obtain⟨r1,r2,_⟩:=iT hR hr
     have heff2:am X.C X.pts (oval σ.tmps) o=some (.lset s λvs=>dY X.C.P t x.val vs (offX base ix)):=by
      rw[heff,dW,hnt,hkey,h1]
      simp[SV.val,gP]
     rw[putL_eq]at hp
     split at hp
     ·rename_i hle
      simp only[qaW]at hle
      let off:=offX base ix
      have hmid:cutS cs off x.cells.length=some ((cs.drop off).take x.cells.length):=by unfold cutS;rw[if_pos hle]
      have hk0:aK ((cs.drop off).take x.cells.length) (x.cells.map SL.lk)=true:=kS hat (by rw[qaW];exact hmid)
      let new:=cs.take off++x.cells++cs.drop (off+x.cells.length)
      have hsp:gu cs off x.cells=some new:=by unfold gu;rw[if_pos hle]
      obtain⟨q1,q2,q3⟩:=oU hsp
      have hkinds:aK new (cs.map SL.lk)=true:=by
       have hsplit:cs=cs.take off++(cs.drop off).take x.cells.length++cs.drop (off+x.cells.length):=by
        rw[qaM,←qbS,qbJ,qbJ]
       have hlk:∀ {a b:List SL},aK a (b.map SL.lk)=true->a.map SL.lk=b.map SL.lk:=by
        intro a b hab
        induction a generalizing b with
        |nil=>cases b with
         |nil=>rfl
         |cons _ _=>cases hab
        |cons a as0 ih=>cases b with
         |nil=>cases hab
         |cons b bs=>
          simp only[qar,aK,qaa]at hab
          simp only[qar,ih hab.2]
          have:a.lk=b.lk:=by
           have h0:=hab.1
           cases a<;>cases b<;>first|rfl|(simp[SL.is,SL.lk]at h0;done)|(simp only[SL.is,SL.lk]at h0 ⊢;rw[dd h0])
          rw[this]
       have hm:cs.map SL.lk=(cs.take off).map SL.lk++x.cells.map SL.lk++(cs.drop (off+x.cells.length)).map SL.lk:=by
        conv=>lhs;rw[hsplit]
        simp only[qbM]
        rw[hlk hk0]
       rw[hm]
       exact fO (fO (kT _) (kT _)) (kT _)
      have hlf:new.map SL.lf=cs'.map SL.lf:=by
       rw[←e1]
       cases hp
       simp[new,off,qcg,qcn]
      obtain⟨v1,v2⟩:=fP hkinds e2 hlf
      refine pJ hR ha heff2 r1 (by rw[hw,←v1];exact q1) (by rw[←v1];simp[q2]) (v2 (q3 r2 hx)) hrow hk3
     ·cases hp
   ·exact absurd hk hA.fail
  ·exact absurd hk hA.fail
end
end Go.Am
end

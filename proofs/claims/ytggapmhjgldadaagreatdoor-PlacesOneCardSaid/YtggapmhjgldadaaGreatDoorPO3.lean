/-
  PART 3 OF THE PROOF (no conditions).
-/
import Derived.Test.YtggapmhjgldadaaGreatDoorPO2
import Derived.IntWalk
set_option linter.unusedSectionVars false
set_option linter.unusedSimpArgs false
set_option linter.unusedVariables false
set_option linter.constructorNameAsVariable false
set_option linter.defProp false
noncomputable section
set_option maxRecDepth 100000
namespace Go.Am
section
variable {R HT:Type} (A:Alg R HT)
def Alg.k0(l:List Lf)(k:Value->Int->R):R:=A.unV l λO l=>A.unI l λa0 l=>A.un0 l (k O a0)
def Alg.k1(l:List Lf)(k:Int->Int->Value->R):R:=A.unI l λO l=>A.unI l λa0 l=>A.unV l λa1 l=>A.un0 l (k O a0 a1)
def Alg.k2(l:List Lf)(k:Value->R):R:=A.unV l λO l=>A.un0 l (k O)
def Alg.k3(l:List Value)(k:Int->Int->R):R:=A.ucI .i64 l λO l=>A.ucI .u8 l λa0 l=>A.uc0 l (k O a0)
def Alg.k4(l:List Value)(k:Int->R):R:=A.ucI .u8 l λO l=>A.uc0 l (k O)
def Alg.k5(l:List Lf)(k:Int->Int->Int->Int->R):R:=A.unI l λO l=>A.unI l λa0 l=>A.unI l λa1 l=>A.unI l λa2 l=>A.un0 l (k O a0 a1 a2)
def Alg.k6(l:List Lf)(k:Int->Int->Int->R):R:=A.unI l λO l=>A.unI l λa0 l=>A.unI l λa1 l=>A.un0 l (k O a0 a1)
def Alg.k7(l:List Lf)(k:Bool->Int->Int->R):R:=A.unB l λO l=>A.unI l λa0 l=>A.unI l λa1 l=>A.un0 l (k O a0 a1)
def Alg.k8(l:List Lf)(k:Int->Int->R):R:=A.unI l λO l=>A.unI l λa0 l=>A.un0 l (k O a0)
def Alg.k9(l:List Lf)(k:Int->R):R:=A.unI l λO l=>A.un0 l (k O)
def Alg.k10(l:List Lf)(k:Bool->R):R:=A.unB l λO l=>A.un0 l (k O)
def Alg.k11(l:List Value)(k:Int->R):R:=A.ucI .i64 l λO l=>A.uc0 l (k O)
def Alg.k12(l:List Lf)(k:Int->Int->Int->Int->Int->Int->R):R:=A.unI l λO l=>A.unI l λa0 l=>A.unI l λa1 l=>A.unI l λa2 l=>A.unI l λa3 l=>A.unI l λa4 l=>A.un0 l (k O a0 a1 a2 a3 a4)
def Alg.k13(l:List Value)(k:Int->Int->R):R:=A.ucI .i64 l λO l=>A.ucI .i64 l λa0 l=>A.uc0 l (k O a0)
def Alg.k14(l:List Lf)(k:Int->Int->Int->Int->Int->R):R:=A.unI l λO l=>A.unI l λa0 l=>A.unI l λa1 l=>A.unI l λa2 l=>A.unI l λa3 l=>A.un0 l (k O a0 a1 a2 a3)
def Alg.k15(l:List Value)(k:Int->Int->Int->R):R:=A.ucI .u8 l λO l=>A.ucI .i64 l λa0 l=>A.ucI .i64 l λa1 l=>A.uc0 l (k O a0 a1)
def Alg.k16(l:List Value)(k:Int->Int->Int->R):R:=A.ucI .i64 l λO l=>A.ucI .u8 l λa0 l=>A.ucI .u8 l λa1 l=>A.uc0 l (k O a0 a1)
def Alg.k17(l:List Lf)(k:Value->Int->Int->Value->R):R:=A.unV l λO l=>A.unI l λa0 l=>A.unI l λa1 l=>A.unV l λa2 l=>A.un0 l (k O a0 a1 a2)
def Alg.cd(o:BinOp)(x y:Int)(p q:R):R:=A.cmp o x y λt=>A.cond t p q
def Alg.ix(e:Nat)(x:Value)(n:Int)(w:Nat)(h:HT)(k:List Value->R):R:=A.opt (idS e x n) λp=>A.peek (.lg cc w p) h k
def Alg.fx(e:Nat)(x:Value)(n:Int)(o w:Nat)(h:HT)(k:List Value->R):R:=A.opt (idS e x n) λp=>A.opt (fdP o p) λq=>A.chk q (A.peek (.lg cc w q) h k)
theorem qeq:(∀l k,A.k0 l k=A.unV l λa0 l=>A.unI l λa1 l=>A.un0 l (k a0 a1))/\(∀l k,A.k1 l k=A.unI l λa0 l=>A.unI l λa1 l=>A.unV l λa2 l=>A.un0 l (k a0 a1 a2))/\(∀l k,A.k2 l k=A.unV l λa0 l=>A.un0 l (k a0))/\(∀l k,A.k3 l k=A.ucI .i64 l λa0 l=>A.ucI .u8 l λa1 l=>A.uc0 l (k a0 a1))/\(∀l k,A.k4 l k=A.ucI .u8 l λa0 l=>A.uc0 l (k a0))/\(∀l k,A.k5 l k=A.unI l λa0 l=>A.unI l λa1 l=>A.unI l λa2 l=>A.unI l λa3 l=>A.un0 l (k a0 a1 a2 a3))/\(∀l k,A.k6 l k=A.unI l λa0 l=>A.unI l λa1 l=>A.unI l λa2 l=>A.un0 l (k a0 a1 a2))/\(∀l k,A.k7 l k=A.unB l λa0 l=>A.unI l λa1 l=>A.unI l λa2 l=>A.un0 l (k a0 a1 a2))/\(∀l k,A.k8 l k=A.unI l λa0 l=>A.unI l λa1 l=>A.un0 l (k a0 a1))/\(∀l k,A.k9 l k=A.unI l λa0 l=>A.un0 l (k a0))/\(∀l k,A.k10 l k=A.unB l λa0 l=>A.un0 l (k a0))/\(∀l k,A.k11 l k=A.ucI .i64 l λa0 l=>A.uc0 l (k a0))/\(∀l k,A.k12 l k=A.unI l λa0 l=>A.unI l λa1 l=>A.unI l λa2 l=>A.unI l λa3 l=>A.unI l λa4 l=>A.unI l λa5 l=>A.un0 l (k a0 a1 a2 a3 a4 a5))/\(∀l k,A.k13 l k=A.ucI .i64 l λa0 l=>A.ucI .i64 l λa1 l=>A.uc0 l (k a0 a1))/\(∀l k,A.k14 l k=A.unI l λa0 l=>A.unI l λa1 l=>A.unI l λa2 l=>A.unI l λa3 l=>A.unI l λa4 l=>A.un0 l (k a0 a1 a2 a3 a4))/\(∀l k,A.k15 l k=A.ucI .u8 l λa0 l=>A.ucI .i64 l λa1 l=>A.ucI .i64 l λa2 l=>A.uc0 l (k a0 a1 a2))/\(∀l k,A.k16 l k=A.ucI .i64 l λa0 l=>A.ucI .u8 l λa1 l=>A.ucI .u8 l λa2 l=>A.uc0 l (k a0 a1 a2))/\(∀l k,A.k17 l k=A.unV l λa0 l=>A.unI l λa1 l=>A.unI l λa2 l=>A.unV l λa3 l=>A.un0 l (k a0 a1 a2 a3))/\(∀o x y p q,A.cd o x y p q=A.cmp o x y λt=>A.cond t p q)/\(∀e x n w h k,A.ix e x n w h k=A.opt (idS e x n) λp=>A.peek (.lg cc w p) h k)/\(∀e x n o w h k,A.fx e x n o w h k=A.opt (idS e x n) λp=>A.opt (fdP o p) λq=>A.chk q (A.peek (.lg cc w q) h k)):=by
 refine⟨?_,?_,?_,?_,?_,?_,?_,?_,?_,?_,?_,?_,?_,?_,?_,?_,?_,?_,?_,?_,?_⟩<;>intros<;>rfl
def f3(ls:List Lf)(h:HT)(K:List Lf->HT->R):R:=A.unI ls (λn6 c1=>A.unI c1 (λn8 d0=>A.unV d0 (λx10 d1=>A.k0 d1 (λd2 b5=>A.call 4 [(.i n6),(.i n8),(.v x10),(.v d2)] h (λd3 d4=>A.k1 d3 (λn18 n20 x22=>A.call 5 [(.i n18),(.i n20)] d4 (λd5 b6=>A.k2 d5 (λb2=>A.conv .i64 b5 (λn28=>A.opt (lenS b2) (λd6=>A.ari .rem .i64 n28 d6 (λn30=>A.ix 2 b2 n30 2 b6 (λd7=>A.k3 d7 (λn33 n35=>A.call 6 [(.i n18),(.i n20),(.v x22)] b6 (λd8 b3=>A.k2 d8 (λa4=>A.conv .i64 b5 (λn41=>A.opt (lenS b2) (λd9=>A.ari .rem .i64 n41 d9 (λn43=>A.ix 1 a4 n43 1 b3 (λe0=>A.k4 e0 (λn46=>A.cmp .eql n46 0 (λe1=>A.join (λe2 f0=>A.un0 e2 ( A.call 7 [(.i n18),(.i n20),(.v a4)] f0 (λf1 f2=>A.k1 f1 (λn53 n55 b7=>A.call 8 [(.i n18),(.i n20),(.i n33),(.i n35)] f2 (λg0 g1=>A.k5 g0 (λn61 n63 n65 n67=>A.loop (λg2 g3 b8=>A.unB g3 (λa0 g4=>A.k6 g4 (λn74 n76 n78=>A.cd .lss n74 2 ( A.join (λg5 g6=>A.k7 g5 (λg7 n85 n87=>A.ari .add .i64 n74 1 (λn89=>g2 [(.b g7),(.i n89),(.i n85),(.i n87)] g6))) (λa3=>A.opt (inB 2 n74) (λr8=>A.opt (cF [(.i n61),(.i n63),(.i n65),(.i n67)] 0 [(n74,2)] 2) (λg8=>A.k8 g8 (λn93 n95=>A.call 9 [(.i n18),(.i n20),(.i n93),(.i n95)] b8 (λg9 a2=>A.k9 g9 (λn99=>A.cd .eql n99 0 ( a3 [(.b a0),(.i n76),(.i n78)] a2) ( A.cond (!a0) ( A.opt (inB 2 n74) (λr9=>A.opt (cF [(.i n61),(.i n63),(.i n65),(.i n67)] 0 [(n74,2)] 2) (λh0=>A.k8 h0 (λn104 n106=>a3 [(.b true),(.i n104),(.i n106)] a2)))) ( A.opt (inB 2 n74) (λs0=>A.opt (cF [(.i n61),(.i n63),(.i n65),(.i n67)] 1 [(n74,2)] 1) (λh1=>A.k9 h1 (λn110=>A.cd .lss n110 n78 ( A.opt (inB 2 n74) (λs1=>A.opt (cF [(.i n61),(.i n63),(.i n65),(.i n67)] 0 [(n74,2)] 2) (λh2=>A.k8 h2 (λn115 h3=>a3 [(.b true),(.i n115),(.i h3)] a2)))) ( A.opt (inB 2 n74) (λs2=>A.opt (cF [(.i n61),(.i n63),(.i n65),(.i n67)] 1 [(n74,2)] 1) (λh4=>A.k9 h4 (λh5=>A.cd .eql h5 n78 ( A.opt (inB 2 n74) (λs3=>A.opt (cF [(.i n61),(.i n63),(.i n65),(.i n67)] 0 [(n74,2)] 1) (λh6=>A.k9 h6 (λn126=>A.cmp .lss n126 n76 (λh7=>A.join (λh8 h9=>A.k8 h8 (λi0 i1=>a3 [(.b true),(.i i0),(.i i1)] h9)) (λb9=>A.cond h7 ( A.opt (inB 2 n74) (λs4=>A.opt (cF [(.i n61),(.i n63),(.i n65),(.i n67)] 0 [(n74,2)] 2) (λx137=>A.k8 x137 (λn138 i2=>b9 [(.i n138),(.i i2)] a2)))) ( b9 [(.i n76),(.i n78)] a2))))))) ( a3 [(.b true),(.i n76),(.i n78)] a2))))))))))))))))) ( A.call 10 [(.i n53),(.i n55),(.v b7)] b8 (λj0 j1=>A.unI j0 (λn144 j2=>A.unI j2 (λb4 j3=>A.unB j3 (λa5 j4=>A.k9 j4 (λj5=>A.call 12 [] j1 (λj6 j7=>A.k6 j6 (λj8 j9 l0=>A.call 11 [(.i n53),(.i n55),(.v b7),(.i j8),(.i j9),(.i l0)] j7 (λl1 O=>A.k0 l1 (λs5 a1=>A.cd .neq j5 0 ( K [(.b false)] O) ( A.eqs [((.b a5),(.b a0))] (λl2=>A.cond (!l2) ( K [(.b false)] O) ( A.cond a5 ( A.eqs [((.i n144),(.i n76)),((.i b4),(.i n78))] (λl3=>A.cond (!l3) ( K [(.b false)] O) ( A.cond (!a5) ( A.eqs [((.i n144),(.i 0)),((.i b4),(.i 0))] (λl4=>A.join (λl5 a6=>A.un0 l5 ( A.join (λl6 l7=>A.k10 l6 (λl8=>K [(.b l8)] l7)) (λa7=>A.cmp .eql a1 11 (λl9=>A.eqs [((.b l9),(.b a0))] (λm0=>A.cond m0 ( A.cond a0 ( A.call 13 [] a6 (λm1 m2=>A.k10 m1 (λm3=>a7 [(.b m3)] m2))) ( A.cd .eql a1 0 ( A.call 13 [] a6 (λm4 m5=>A.k10 m4 (λm6=>a7 [(.b m6)] m5))) ( a7 [(.b false)] a6))) ( a7 [(.b false)] a6)))))) (λm7=>A.cond (!l4) ( K [(.b false)] O) ( m7 [] O)))) ( A.join (λm8 m9=>A.k10 m8 (λn0=>K [(.b n0)] m9)) (λa8=>A.cmp .eql a1 11 (λn1=>A.eqs [((.b n1),(.b a0))] (λn2=>A.cond n2 ( A.cond a0 ( A.call 13 [] O (λo0 o1=>A.k10 o0 (λo2=>a8 [(.b o2)] o1))) ( A.cd .eql a1 0 ( A.call 13 [] O (λo3 o4=>A.k10 o3 (λo5=>a8 [(.b o5)] o4))) ( a8 [(.b false)] O))) ( a8 [(.b false)] O)))))))) ( A.cond (!a5) ( A.eqs [((.i n144),(.i 0)),((.i b4),(.i 0))] (λo6=>A.join (λo7 a9=>A.un0 o7 ( A.join (λo8 o9=>A.k10 o8 (λp0=>K [(.b p0)] o9)) (λb0=>A.cmp .eql a1 11 (λp1=>A.eqs [((.b p1),(.b a0))] (λp2=>A.cond p2 ( A.cond a0 ( A.call 13 [] a9 (λp3 p4=>A.k10 p3 (λp5=>b0 [(.b p5)] p4))) ( A.cd .eql a1 0 ( A.call 13 [] a9 (λp6 p7=>A.k10 p6 (λp8=>b0 [(.b p8)] p7))) ( b0 [(.b false)] a9))) ( b0 [(.b false)] a9)))))) (λp9=>A.cond (!o6) ( K [(.b false)] O) ( p9 [] O)))) ( A.join (λq0 q1=>A.k10 q0 (λq2=>K [(.b q2)] q1)) (λb1=>A.cmp .eql a1 11 (λq3=>A.eqs [((.b q3),(.b a0))] (λq5=>A.cond q5 ( A.cond a0 ( A.call 13 [] O (λq6 q7=>A.k10 q6 (λq8=>b1 [(.b q8)] q7))) ( A.cd .eql a1 0 ( A.call 13 [] O (λr1 r2=>A.k10 r1 (λr3=>b1 [(.b r3)] r2))) ( b1 [(.b false)] O))) ( b1 [(.b false)] O)))))))))))))))))))))) [(.b false),(.i 0),(.i 0),(.i 0)] g1)))))) (λc0=>A.cond e1 ( A.opt (idS 1 a4 n43) (λr4=>A.heap (.st r4 [(.int .u8 2)]) b3 (λs6 r5=>c0 [] r5))) ( A.opt (idS 1 a4 n43) (λr6=>A.heap (.st r6 [(.int .u8 0)]) b3 (λs7 r7=>c0 [] r7)))))))))))))))))))))))))
def f4(ls:List Lf)(h:HT)(K:List Lf->HT->R):R:=A.unI ls (λn6 b0=>A.unI b0 (λn8 b1=>A.unV b1 (λx10 b2=>A.k2 b2 (λa4=>A.ari .rem .u8 n6 4 (λb3=>A.conv .i64 b3 (λn15=>A.ari .add .i64 1 n15 (λn16=>A.ari .rem .u8 n8 4 (λn17=>A.conv .i64 n17 (λn18=>A.ari .add .i64 1 n18 (λn19=>A.call 14 [(.i n16),(.i n19)] h (λb4 b5=>A.unV b4 (λx22 b6=>A.k2 b6 (λx24=>A.join (λb7 b8=>A.k2 b7 (λb9=>A.call 7 [(.i n16),(.i n19),(.v b9)] b8 (λc0 c1=>A.k1 c0 (λn32 n34 a0=>A.join (λd0 d1=>A.un0 d0 ( K [(.i n32),(.i n34),(.v a0)] d1)) (λa5=>A.loop (λd2 d3 a1=>A.k9 d3 (λn44=>A.opt (lenS a4) (λd4=>A.cd .lss n44 d4 ( A.opt (lenS a0) (λx48=>A.cd .gtr x48 0 ( A.ix 1 a4 n44 1 a1 (λd5=>A.k4 d5 (λn52=>A.conv .i64 n52 (λn54=>A.opt (lenS a0) (λd6=>A.ari .rem .i64 n54 d6 (λn56=>A.opt (idS 3 a0 n56) (λd7=>A.opt (fdP 2 d7) (λa6=>A.chk a6 ( A.heap (.st a6 [(.int .u8 3)]) a1 (λh5 d8=>A.ari .add .i64 n44 1 (λn61=>d2 [(.i n61)] d8))))))))))) ( a5 [] a1))) ( a5 [] a1)))) [(.i 0)] c1))))) (λa7=>A.loop (λd9 e0 O=>A.unV e0 (λx66 e1=>A.k0 e1 (λx68 n70=>A.opt (lenS x10) (λe2=>A.cd .lss n70 e2 ( A.cd .lss n70 6 ( A.fx 4 x10 n70 2 1 O (λf0=>A.ucB f0 (λf1 f2=>A.uc0 f2 ( A.join (λg0 a2=>A.k9 g0 (λn82=>A.fx 4 x10 n70 3 1 a2 (λg1=>A.ucB g1 (λg2 g3=>A.uc0 g3 ( A.join (λg4 a3=>A.k9 g4 (λn91=>A.fx 4 x10 n70 0 1 a3 (λg5=>A.k4 g5 (λn96=>A.fx 4 x10 n70 1 1 a3 (λg6=>A.ucI .i8 g6 (λn101 g7=>A.uc0 g7 ( A.call 16 [(.i n96),(.i n101)] a3 (λg8 g9=>A.k8 g8 (λn105 n107=>A.call 15 [(.i n16),(.i n19),(.v x66),(.v x68),(.i n105),(.i n107),(.i n82),(.i n91)] g9 (λh0 h1=>A.unV h0 (λh2 h3=>A.k2 h3 (λh4=>A.ari .add .i64 n70 1 (λn115=>d9 [(.v h2),(.v h4),(.i n115)] h1))))))))))))) (λa8=>A.cond g2 ( a8 [(.i 1)] a2) ( a8 [(.i 0)] a2))))))) (λa9=>A.cond f1 ( a9 [(.i 1)] O) ( a9 [(.i 0)] O)))))) ( a7 [(.v x68)] O)) ( a7 [(.v x68)] O))))) [(.v x22),(.v x24),(.i 0)] b5))))))))))))))
def f5(ls:List Lf)(h:HT)(K:List Lf->HT->R):R:=A.k8 ls (λn6 n8=>A.loop (λa5 a6 O=>A.k0 a6 (λa0 n15=>A.ari .mul .i64 4 n6 (λn17=>A.ari .mul .i64 n17 n8 (λn18=>A.cd .lss n15 n18 ( A.loop (λa7 a8 a1=>A.k0 a8 (λx23 n25=>A.cd .lss n25 3 ( A.call 17 [(.i n6),(.i n8),(.i n15),(.i n25)] a1 (λa9 a2=>A.k9 a9 (λn30=>A.cmp .gtr n30 n15 (λb0=>A.join (λb1 b2=>A.k2 b1 (λb3=>A.ari .add .i64 n25 1 (λn37=>a7 [(.v b3),(.i n37)] b2))) (λa3=>A.cond b0 ( A.conv .u8 n25 (λn39=>A.new (.cells [(.int .i64 n15),(.int .u8 n39)] 2 true) a2 (λb4 b5=>A.heap (.ap cc 2 16 x23 (.slice (some ⟨b4,0,(some 12)⟩) 1 2)) b5 (λb6 b7=>A.ucV b6 (λa4 b8=>A.chk a4 ( A.uc0 b8 ( a3 [(.v a4)] b7))))))) ( a3 [(.v x23)] a2)))))) ( A.ari .add .i64 n15 1 (λn46=>a5 [(.v x23),(.i n46)] a1)))) [(.v a0),(.i 0)] O) ( K [(.v a0)] O))))) [(.v (.slice none 0 0)),(.i 0)] h)
def f6(ls:List Lf)(h:HT)(K:List Lf->HT->R):R:=A.k1 ls (λn6 n8 x10=>A.call 5 [(.i n6),(.i n8)] h (λa6 a7=>A.k2 a6 (λa1=>A.opt (lenS a1) (λa0=>A.opt (mkOk a0 a0) (λd0=>A.new (.cells (be [(.int .u8 0)] (Int.toNat a0)) 1 true) a7 (λa2 a8=>A.loop (λa9 b0 a3=>A.k9 b0 (λn23=>A.opt (lenS a1) (λx25=>A.cd .lss n23 x25 ( A.loop (λa4 b1 O=>A.k9 b1 (λn30=>A.opt (lenS x10) (λb2=>A.cd .lss n30 b2 ( A.fx 3 x10 n30 0 1 O (λb3=>A.k11 b3 (λn37=>A.fx 2 a1 n23 0 1 O (λb4=>A.k11 b4 (λn42=>A.cd .eql n37 n42 ( A.fx 3 x10 n30 1 1 O (λb5=>A.k4 b5 (λn48=>A.fx 2 a1 n23 1 1 O (λb6=>A.k4 b6 (λn53=>A.cmp .eql n48 n53 (λb7=>A.join (λb8 b9=>A.un0 b8 ( A.ari .add .i64 n30 1 (λn58=>a4 [(.i n58)] b9))) (λa5=>A.cond b7 ( A.fx 3 x10 n30 2 1 O (λc0=>A.k4 c0 (λn63=>A.opt (idS 1 (.slice (some ⟨a2,0,(some 11)⟩) (Int.toNat a0) ((Int.toNat a0)+1)) n23) (λx65=>A.heap (.st x65 [(.int .u8 n63)]) O (λd1 c1=>a5 [] c1))))) ( a5 [] O)))))))) ( A.ari .add .i64 n30 1 (λn68=>a4 [(.i n68)] O))))))) ( A.ari .add .i64 n23 1 (λn69=>a9 [(.i n69)] O))))) [(.i 0)] a3) ( K [(.v (.slice (some ⟨a2,0,(some 11)⟩) (Int.toNat a0) ((Int.toNat a0)+1)))] a3)))) [(.i 0)] a8))))))
def f7(ls:List Lf)(h:HT)(K:List Lf->HT->R):R:=A.k1 ls (λn6 n8 x10=>A.call 5 [(.i n6),(.i n8)] h (λa5 a6=>A.k2 a5 (λa1=>A.join (λa7 a8=>A.k1 a7 (λn18 n20 x22=>K [(.i n18),(.i n20),(.v x22)] a8)) (λa2=>A.loop (λa9 b0 O=>A.unI b0 (λn28 b1=>A.k1 b1 (λn30 n32 a0=>A.opt (lenS a1) (λb2=>A.cd .lss n28 b2 ( A.opt (lenS x10) (λb3=>A.cd .lss n28 b3 ( A.ix 1 x10 n28 1 O (λb4=>A.k4 b4 (λn42=>A.cmp .neq n42 0 (λb5=>A.join (λb6 b7=>A.k1 b6 (λn47 n49 x51=>A.ari .add .i64 n28 1 (λn53=>a9 [(.i n53),(.i n47),(.i n49),(.v x51)] b7))) (λa3=>A.cond b5 ( A.fx 2 a1 n28 0 1 O (λb8=>A.k11 b8 (λn58=>A.fx 2 a1 n28 1 1 O (λb9=>A.k4 b9 (λn63=>A.ix 1 x10 n28 1 O (λc0=>A.k4 c0 (λn67=>A.new (.cells [(.int .i64 n58),(.int .u8 n63),(.int .u8 n67)] 3 true) O (λc1 d0=>A.heap (.ap cc 3 16 a0 (.slice (some ⟨c1,0,(some 13)⟩) 1 2)) d0 (λd1 d2=>A.ucV d1 (λa4 d3=>A.chk a4 ( A.uc0 d3 ( a3 [(.i n30),(.i n32),(.v a4)] d2)))))))))))) ( a3 [(.i n30),(.i n32),(.v a0)] O)))))) ( a2 [(.i n30),(.i n32),(.v a0)] O))) ( a2 [(.i n30),(.i n32),(.v a0)] O))))) [(.i 0),(.i n6),(.i n8),(.v (.slice none 0 0))] a6))))
def f8(ls:List Lf)(h:HT)(K:List Lf->HT->R):R:=A.k5 ls (λn6 n8 n10 n12=>A.ari .quo .i64 n10 4 (λb0=>A.ari .rem .i64 b0 n6 (λn15=>A.ari .mul .i64 4 n6 (λn16=>A.ari .quo .i64 n10 n16 (λn17=>A.ari .rem .i64 n10 4 (λn18=>A.conv .u8 n18 (λn19=>A.call 18 [(.i n15),(.i n17),(.i n19)] h (λb1 b2=>A.k12 b1 (λn22 n24 n26 n28 n30 n32=>A.conv .i64 n12 (λn34=>A.call 19 [(.i n15),(.i n17),(.i n19),(.i n34)] b2 (λb3 b4=>A.k6 b3 (λn37 n39 n41=>A.call 18 [(.i n37),(.i n39),(.i n41)] b4 (λb5 b6=>A.k12 b5 (λn45 n47 n49 n51 n53 n55=>A.loop (λb7 b8 O=>A.k0 b8 (λx60 n62=>A.cd .lss n62 3 ( A.loop (λb9 c0 a0=>A.k0 c0 (λx68 n70=>A.cd .lss n70 3 ( A.opt (inB 3 n62) (λl9=>A.opt (cF [(.i n22),(.i n24),(.i n26),(.i n28),(.i n30),(.i n32)] 0 [(n62,2)] 2) (λx74=>A.k8 x74 (λn75 n77=>A.opt (inB 3 n70) (λm0=>A.opt (cF [(.i n45),(.i n47),(.i n49),(.i n51),(.i n53),(.i n55)] 0 [(n70,2)] 2) (λc1=>A.k8 c1 (λn81 n83=>A.eqs [((.i n75),(.i n81)),((.i n77),(.i n83))] (λd0=>A.join (λd1 d2=>A.k2 d1 (λd3=>A.ari .add .i64 n70 1 (λn90=>b9 [(.v d3),(.i n90)] d2))) (λa2=>A.cond d0 ( A.opt (inB 3 n62) (λm1=>A.opt (cF [(.i n22),(.i n24),(.i n26),(.i n28),(.i n30),(.i n32)] 0 [(n62,2)] 2) (λd4=>A.k8 d4 (λn94 n96=>A.new (.cells [(.int .i64 n94),(.int .i64 n96)] 2 true) a0 (λd5 d6=>A.heap (.ap cc 2 16 x68 (.slice (some ⟨d5,0,(some 12)⟩) 1 2)) d6 (λd7 d8=>A.ucV d7 (λa3 d9=>A.chk a3 ( A.uc0 d9 ( a2 [(.v a3)] d8))))))))) ( a2 [(.v x68)] a0)))))))))) ( A.ari .add .i64 n62 1 (λn104=>b7 [(.v x68),(.i n104)] a0)))) [(.v x60),(.i 0)] O) ( A.opt (idS 2 x60 1) (λe0=>A.opt (fdP 0 e0) (λa4=>A.chk a4 ( A.peek (.lg cc 1 a4) O (λe1=>A.k11 e1 (λn108=>A.opt (idS 2 x60 0) (λe2=>A.opt (fdP 0 e2) (λa5=>A.chk a5 ( A.peek (.lg cc 1 a5) O (λf0=>A.k11 f0 (λn113=>A.cd .lss n108 n113 ( A.opt (idS 2 x60 1) (λx116=>A.peek (.lg cc 2 x116) O (λf1=>A.k13 f1 (λf2 g0=>A.opt (idS 2 x60 0) (λg1=>A.peek (.lg cc 2 g1) O (λg2=>A.k13 g2 (λg3 n126=>K [(.i f2),(.i g0),(.i g3),(.i n126)] O))))))) ( A.opt (idS 2 x60 1) (λg4=>A.opt (fdP 0 g4) (λa6=>A.chk a6 ( A.peek (.lg cc 1 a6) O (λg5=>A.k11 g5 (λg6=>A.opt (idS 2 x60 0) (λg7=>A.opt (fdP 0 g7) (λa7=>A.chk a7 ( A.peek (.lg cc 1 a7) O (λg8=>A.k11 g8 (λn136=>A.cd .eql g6 n136 ( A.opt (idS 2 x60 1) (λg9=>A.opt (fdP 1 g9) (λa8=>A.chk a8 ( A.peek (.lg cc 1 a8) O (λh0=>A.k11 h0 (λh1=>A.opt (idS 2 x60 0) (λh2=>A.opt (fdP 1 h2) (λa9=>A.chk a9 ( A.peek (.lg cc 1 a9) O (λh3=>A.k11 h3 (λh4=>A.cmp .lss h1 h4 (λh5=>A.join (λh6 a1=>A.un0 h6 ( A.opt (idS 2 x60 0) (λh7=>A.peek (.lg cc 2 h7) a1 (λh8=>A.k13 h8 (λh9 i0=>A.opt (idS 2 x60 1) (λi1=>A.peek (.lg cc 2 i1) a1 (λi2=>A.k13 i2 (λj0 j1=>K [(.i h9),(.i i0),(.i j0),(.i j1)] a1)))))))) (λj2=>A.cond h5 ( A.opt (idS 2 x60 1) (λj3=>A.peek (.lg cc 2 j3) O (λj4=>A.k13 j4 (λj5 j6=>A.opt (idS 2 x60 0) (λj7=>A.peek (.lg cc 2 j7) O (λj8=>A.k13 j8 (λj9 l0=>K [(.i j5),(.i j6),(.i j9),(.i l0)] O))))))) ( j2 [] O)))))))))))))) ( A.opt (idS 2 x60 0) (λl1=>A.peek (.lg cc 2 l1) O (λl2=>A.k13 l2 (λl3 l4=>A.opt (idS 2 x60 1) (λl5=>A.peek (.lg cc 2 l5) O (λl6=>A.k13 l6 (λl7 l8=>K [(.i l3),(.i l4),(.i l7),(.i l8)] O))))))))))))))))))))))))))))))) [(.v (.slice none 0 0)),(.i 0)] b6))))))))))))))
def f9(ls:List Lf)(h:HT)(K:List Lf->HT->R):R:=A.k5 ls (λn6 n8 n10 n12=>A.cd .gtr n10 0 ( A.cd .gtr n12 0 ( A.ari .mul .i64 2 n6 (λn16=>A.cd .lss n10 n16 ( A.ari .mul .i64 2 n8 (λn18=>A.cd .lss n12 n18 ( A.ari .sub .i64 n10 n12 (λn20=>A.ari .rem .i64 n20 2 (λn21=>A.cmp .eql n21 0 (λO=>A.join (λa0 a1=>A.un0 a0 ( K [(.i 0)] a1)) (λa2=>A.cond O ( K [(.i 1)] h) ( a2 [] h)))))) ( K [(.i 0)] h))) ( K [(.i 0)] h))) ( K [(.i 0)] h)) ( K [(.i 0)] h))
def f10(ls:List Lf)(h:HT)(K:List Lf->HT->R):R:=A.k1 ls (λn6 n8 x10=>A.new (.cells [(.int .i64 n6),(.int .i64 n8),x10] 3 true) h (λO a2=>A.peek (.lg cc 3 (.pointer (some ⟨O,0,none⟩))) a2 (λa6=>A.ucI .i64 a6 (λn15 a7=>A.ucI .i64 a7 (λn17 a8=>A.ucV a8 (λa3 a9=>A.chk a3 ( A.uc0 a9 ( A.call 20 [(.i n15),(.i n17),(.v a3)] a2 (λb0 a0=>A.k9 b0 (λn23=>A.cd .neq n23 0 ( K [(.i 0),(.i 0),(.b false),(.i n23)] a0) ( A.opt (fdP 0 (.pointer (some ⟨O,0,none⟩))) (λa4=>A.chk a4 ( A.peek (.lg cc 2 a4) a0 (λb1=>A.k13 b1 (λn28 n30=>A.call 21 [(.i n28),(.i n30)] a0 (λb2 b3=>A.k0 b2 (λa5 n36=>A.chk (.func (.func 23) ⟨[]⟩ ⟨[(.pointer (some ⟨O,0,none⟩))]⟩) ( A.call 22 [(.v a5),(.v (.func (.func 23) ⟨[]⟩ ⟨[(.pointer (some ⟨O,0,none⟩))]⟩))] b3 (λb4 a1=>A.k9 b4 (λn40=>A.cd .geq n40 0 ( A.ix 2 a5 n40 2 a1 (λb5=>A.k13 b5 (λn45 n47=>K [(.i n45),(.i n47),(.b true),(.i 0)] a1))) ( K [(.i 0),(.i 0),(.b false),(.i 0)] a1)))))))))))))))))))))
def f11(ls:List Lf)(h:HT)(K:List Lf->HT->R):R:=A.unI ls (λn6 O=>A.unI O (λn8 a0=>A.unV a0 (λx10 a1=>A.k6 a1 (λn12 a2 n16=>A.call 25 [(.i n6),(.i n8),(.v x10),(.i n12),(.i a2),(.i n16)] h (λa3 a4=>A.unV a3 (λx20 a5=>A.k0 a5 (λx22 n24=>K [(.v x20),(.i n24)] a4)))))))
def f12(ls:List Lf)(h:HT)(K:List Lf->HT->R):R:=A.un0 ls ( K [(.i 0),(.i 0),(.i 0)] h)
def f13(ls:List Lf)(h:HT)(K:List Lf->HT->R):R:=A.un0 ls ( A.call 27 [(.i 1),(.i 1),(.i 0),(.i 2)] h (λb8 b9=>A.k14 b8 (λn8 n10 n12 c0 n16=>A.new (.cells [(.int .u8 n8),(.int .u8 n10),(.int .i64 n12),(.int .i64 c0),(.int .i64 n16)] 5 true) b9 (λc1 d0=>A.call 26 [(.i 2),(.i 1),(.v (.slice (some ⟨c1,0,(some 15)⟩) 1 2))] d0 (λd1 d2=>A.k1 d1 (λn22 n24 d3=>A.call 12 [] d2 (λd4 d5=>A.k6 d4 (λn30 n32 n34=>A.call 11 [(.i n22),(.i n24),(.v d3),(.i n30),(.i n32),(.i n34)] d5 (λd6 d7=>A.k0 d6 (λa9 n40=>A.call 27 [(.i 1),(.i 1),(.i 0),(.i 4)] d7 (λd8 d9=>A.k14 d8 (λn44 n46 n48 n50 n52=>A.call 27 [(.i 2),(.i 1),(.i 0),(.i 4)] d9 (λe0 e1=>A.k14 e0 (λn56 n58 n60 n62 n64=>A.new (.cells [(.int .u8 n44),(.int .u8 n46),(.int .i64 n48),(.int .i64 n50),(.int .i64 n52),(.int .u8 n56),(.int .u8 n58),(.int .i64 n60),(.int .i64 n62),(.int .i64 n64)] 5 true) e1 (λe2 f0=>A.call 26 [(.i 2),(.i 2),(.v (.slice (some ⟨e2,0,(some 15)⟩) 2 3))] f0 (λf1 f2=>A.k1 f1 (λn70 n72 x74=>A.call 12 [] f2 (λg0 g1=>A.k6 g0 (λn78 n80 n82=>A.call 11 [(.i n70),(.i n72),(.v x74),(.i n78),(.i n80),(.i n82)] g1 (λg2 a1=>A.k0 g2 (λa7 n88=>A.cd .neq n40 0 ( K [(.b false)] a1) ( A.cd .neq n88 0 ( K [(.b false)] a1) ( A.opt (lenS a9) (λg3=>A.cd .neq g3 8 ( K [(.b false)] a1) ( A.opt (lenS a7) (λx94=>A.cd .neq x94 16 ( K [(.b false)] a1) ( A.loop (λb0 g4 a8=>A.k9 g4 (λn99=>A.cd .lss n99 16 ( A.opt (idS 3 a7 n99) (λa3=>A.peek (.lg cc 3 a3) a8 (λg5=>A.k15 g5 (λn104 n106 n108=>A.new (.cells [(.int .u8 0),(.int .i64 0),(.int .i64 0),(.int .u8 4),(.int .i64 2),(.int .i64 0),(.int .u8 6),(.int .i64 0),(.int .i64 2),(.int .u8 2),(.int .i64 2),(.int .i64 2)] 3 true) a8 (λa4 a0=>A.ari .quo .i64 n99 4 (λn112=>A.opt (idS 3 (.slice (some ⟨a4,0,(some 13)⟩) 4 5) n112) (λg6=>A.peek (.lg cc 3 g6) a0 (λg7=>A.k15 g7 (λn115 g8 g9=>A.eqs [((.i n104),(.i n115)),((.i n106),(.i g8)),((.i n108),(.i g9))] (λh0=>A.cond (!h0) ( A.opt (Sx.sepL [((.slice (some ⟨a4,0,(some 13)⟩) 4 5),(0,a3))]) (λzh=>K [(.b false)] a0)) ( A.cd .lss n99 8 ( A.ix 3 a9 n99 3 a0 (λh1=>A.k15 h1 (λn126 n128 h2=>A.ix 3 a7 n99 3 a0 (λh3=>A.k15 h3 (λh4 n136 n138=>A.eqs [((.i n126),(.i h4)),((.i n128),(.i n136)),((.i h2),(.i n138))] (λh5=>A.opt (Sx.sepL [((.slice (some ⟨a4,0,(some 13)⟩) 4 5),(0,a3))]) (λzi=>A.join (λh6 h7=>A.un0 h6 ( A.ari .add .i64 n99 1 (λn144=>b0 [(.i n144)] h7))) (λh8=>A.cond (!h5) ( K [(.b false)] a0) ( h8 [] a0))))))))) ( A.opt (Sx.sepL [((.slice (some ⟨a4,0,(some 13)⟩) 4 5),(0,a3))]) (λzj=>A.ari .add .i64 n99 1 (λh9=>b0 [(.i h9)] a0)))))))))))))) ( A.call 27 [(.i 1),(.i 1),(.i 0),(.i 4)] a8 (λi0 i1=>A.k14 i0 (λi2 j0 j1 j2 j3=>A.call 27 [(.i 2),(.i 1),(.i 0),(.i 4)] i1 (λj4 j5=>A.k14 j4 (λj6 j7 j8 j9 l0=>A.new (.cells [(.int .u8 i2),(.int .u8 j0),(.int .i64 j1),(.int .i64 j2),(.int .i64 j3),(.int .u8 j6),(.int .u8 j7),(.int .i64 j8),(.int .i64 j9),(.int .i64 l0)] 5 true) j5 (λl1 l2=>A.call 26 [(.i 2),(.i 2),(.v (.slice (some ⟨l1,0,(some 15)⟩) 2 3))] l2 (λl3 l4=>A.k1 l3 (λl5 l6 l7=>A.call 12 [] l4 (λl8 l9=>A.k6 l8 (λm0 m1 m2=>A.call 28 [(.i l5),(.i l6),(.v l7),(.i m0),(.i m1),(.i m2)] l9 (λm3 m4=>A.k8 m3 (λm5 m6=>A.call 27 [(.i 1),(.i 1),(.i 0),(.i 4)] m4 (λm7 m8=>A.k14 m7 (λm9 n0 n1 n2 o0=>A.call 27 [(.i 2),(.i 1),(.i 0),(.i 2)] m8 (λo1 o2=>A.k14 o1 (λo3 o4 o5 o6 o7=>A.new (.cells [(.int .u8 m9),(.int .u8 n0),(.int .i64 n1),(.int .i64 n2),(.int .i64 o0),(.int .u8 o3),(.int .u8 o4),(.int .i64 o5),(.int .i64 o6),(.int .i64 o7)] 5 true) o2 (λo8 o9=>A.call 26 [(.i 2),(.i 2),(.v (.slice (some ⟨o8,0,(some 15)⟩) 2 3))] o9 (λp0 p1=>A.k1 p0 (λb1 b2 b3=>A.call 12 [] p1 (λp2 p3=>A.k6 p2 (λp4 p5 p6=>A.call 11 [(.i b1),(.i b2),(.v b3),(.i p4),(.i p5),(.i p6)] p3 (λp7 p8=>A.k0 p7 (λzk p9=>A.call 10 [(.i b1),(.i b2),(.v b3)] p8 (λq0 q1=>A.unI q0 (λq2 q3=>A.unI q3 (λq5 q6=>A.unB q6 (λq7 q8=>A.k9 q8 (λr1=>A.call 27 [(.i 3),(.i 1),(.i 0),(.i 2)] q1 (λr2 r3=>A.k14 r2 (λr4 r5 r6 r7 r8=>A.new (.cells [(.int .u8 r4),(.int .u8 r5),(.int .i64 r6),(.int .i64 r7),(.int .i64 r8)] 5 true) r3 (λr9 s0=>A.call 26 [(.i 1),(.i 1),(.v (.slice (some ⟨r9,0,(some 15)⟩) 1 2))] s0 (λs1 s2=>A.k1 s1 (λs3 s4 s5=>A.call 12 [] s2 (λs6 s7=>A.k6 s6 (λs8 s9 t0=>A.call 29 [(.i s3),(.i s4),(.v s5),(.i s8),(.i s9),(.i t0)] s7 (λt1 O=>A.k0 t1 (λa2 t2=>A.cd .neq m5 4 ( K [(.b false)] O) ( A.cd .neq m6 0 ( K [(.b false)] O) ( A.cd .neq p9 11 ( K [(.b false)] O) ( A.eqs [((.i q2),(.i 2)),((.i q5),(.i 2))] (λt3=>A.cond (!t3) ( K [(.b false)] O) ( A.cond (!q7) ( K [(.b false)] O) ( A.cd .neq r1 0 ( K [(.b false)] O) ( A.cd .neq t2 0 ( K [(.b false)] O) ( A.opt (lenS a2) (λt4=>A.cd .neq t4 4 ( K [(.b false)] O) ( A.opt (idS 3 a2 0) (λt5=>A.opt (fdP 2 t5) (λb4=>A.chk b4 ( A.peek (.lg cc 1 b4) O (λt6=>A.k4 t6 (λt7=>A.cd .neq t7 0 ( K [(.b false)] O) ( A.opt (idS 3 a2 1) (λt9=>A.opt (fdP 2 t9) (λb5=>A.chk b5 ( A.peek (.lg cc 1 b5) O (λuc=>A.k4 uc (λu0=>A.cd .neq u0 0 ( K [(.b false)] O) ( A.opt (idS 3 a2 2) (λu1=>A.opt (fdP 2 u1) (λb6=>A.chk b6 ( A.peek (.lg cc 1 b6) O (λu2=>A.k4 u2 (λu5=>A.cd .neq u5 3 ( K [(.b false)] O) ( A.opt (idS 3 a2 3) (λu6=>A.opt (fdP 2 u6) (λb7=>A.chk b7 ( A.peek (.lg cc 1 b7) O (λu7=>A.k4 u7 (λu8=>A.cd .neq u8 3 ( K [(.b false)] O) ( A.call 27 [(.i 1),(.i 1),(.i 0),(.i 4)] O (λv0 v1=>A.k14 v0 (λv2 v3 v4 v5 v6=>A.call 27 [(.i 3),(.i 2),(.i 2),(.i 4)] v1 (λv7 v8=>A.k14 v7 (λv9 w0 w1 w2 x0=>A.call 27 [(.i 4),(.i 0),(.i 0),(.i 2)] v8 (λx1 x2=>A.k14 x1 (λx5 x8 x9 yA yB=>A.new (.cells [(.int .u8 v2),(.int .u8 v3),(.int .i64 v4),(.int .i64 v5),(.int .i64 v6),(.int .u8 v9),(.int .u8 w0),(.int .i64 w1),(.int .i64 w2),(.int .i64 x0),(.int .u8 x5),(.int .u8 x8),(.int .i64 x9),(.int .i64 yA),(.int .i64 yB)] 5 true) x2 (λyC yD=>A.call 26 [(.i 2),(.i 2),(.v (.slice (some ⟨yC,0,(some 15)⟩) 3 4))] yD (λyE yF=>A.k1 yE (λyG yH yI=>A.call 24 [(.i yG),(.i yH),(.v yI),(.i 2),(.i 2)] yF (λyJ yK=>A.unB yJ (λyL yM=>A.k9 yM (λyN=>A.call 27 [(.i 3),(.i 2),(.i 0),(.i 4)] yK (λyO yP=>A.k14 yO (λyQ yR yS yT yU=>A.call 27 [(.i 4),(.i 0),(.i 0),(.i 4)] yP (λyV yW=>A.k14 yV (λyX yY yZ y0 y1=>A.new (.cells [(.int .u8 yQ),(.int .u8 yR),(.int .i64 yS),(.int .i64 yT),(.int .i64 yU),(.int .u8 yX),(.int .u8 yY),(.int .i64 yZ),(.int .i64 y0),(.int .i64 y1)] 5 true) yW (λy2 y3=>A.call 26 [(.i 2),(.i 2),(.v (.slice (some ⟨y2,0,(some 15)⟩) 2 3))] y3 (λy4 y5=>A.k1 y4 (λy6 y7 y8=>A.call 24 [(.i y6),(.i y7),(.v y8),(.i 2),(.i 2)] y5 (λy9 a5=>A.unB y9 (λza zb=>A.k9 zb (λzc=>A.join (λzd ze=>A.k10 zd (λzf=>K [(.b zf)] ze)) (λa6=>A.cond yL ( A.cd .eql yN 0 ( A.cond za ( A.cmp .eql zc 0 (λzg=>a6 [(.b zg)] a5)) ( a6 [(.b false)] a5)) ( a6 [(.b false)] a5)) ( a6 [(.b false)] a5))))))))))))))))))))))))))))))))))))))))))))))))))))))))))))))))))))))))))))))))))))))))))))))))) [(.i 0)] a1)))))))))))))))))))))))))))
def f15(ls:List Lf)(h:HT)(K:List Lf->HT->R):R:=A.unI ls (λn6 b7=>A.unI b7 (λn8 b8=>A.unV b8 (λx10 b9=>A.unV b9 (λa9 c0=>A.k5 c0 (λb0 n16 n18 n20=>A.call 30 [(.i n6),(.i n8)] h (λc1 d0=>A.k2 c1 (λx24=>A.call 5 [(.i n6),(.i n8)] d0 (λd1 d2=>A.k2 d1 (λa5=>A.new (.cells [] 3 true) d2 (λd3 d4=>A.heap (.ap cc 3 24 (.slice (some ⟨d3,0,(some 13)⟩) 0 1) x10) d4 (λd5 d6=>A.ucV d5 (λa0 d7=>A.chk a0 ( A.uc0 d7 ( A.loop (λd8 d9 a2=>A.k9 d9 (λn39=>A.opt (lenS x24) (λe0=>A.cd .lss n39 e0 ( A.ix 3 x10 n39 3 a2 (λe1=>A.k15 e1 (λn45 n47 n49=>A.ix 3 x24 n39 3 a2 (λe2=>A.ucI .i64 e2 (λn53 f0=>A.k3 f0 (λn55 n57=>A.call 32 [(.i n45),(.i n47),(.i n49),(.i n53),(.i n55),(.i n57)] a2 (λf1 f2=>A.k6 f1 (λn61 n63 n65=>A.call 31 [(.i b0),(.i n16),(.i n61),(.i n63),(.i n65)] f2 (λg0 a6=>A.k9 g0 (λn69=>A.cmp .eql n69 n18 (λg1=>A.join (λg2 g3=>A.un0 g2 ( A.ari .add .i64 n39 1 (λn74=>d8 [(.i n74)] g3))) (λb1=>A.cond g1 ( A.ix 3 x10 n39 3 a6 (λg4=>A.k15 g4 (λn78 n80 n82=>A.call 34 [(.i b0),(.i n16)] a6 (λg5 g6=>A.k6 g5 (λn86 n88 n90=>A.call 33 [(.i n78),(.i n80),(.i n82),(.i n86),(.i n88),(.i n90)] g6 (λg7 g8=>A.k6 g7 (λn94 n96 n98=>A.opt (idS 3 a0 n39) (λg9=>A.heap (.st g9 [(.int .u8 n94),(.int .i64 n96),(.int .i64 n98)]) g8 (λo2 h0=>b1 [] h0))))))))) ( b1 [] a6))))))))))))) ( A.new (.cells [] 1 true) a2 (λh1 h2=>A.heap (.ap cc 1 1 (.slice (some ⟨h1,0,(some 11)⟩) 0 1) a9) h2 (λh3 h4=>A.ucV h3 (λa3 h5=>A.chk a3 ( A.uc0 h5 ( A.loop (λh6 h7 a4=>A.k9 h7 (λn112=>A.opt (lenS a5) (λh8=>A.cd .lss n112 h8 ( A.join (λh9 i0=>A.un0 h9 ( A.ari .add .i64 n112 1 (λi1=>h6 [(.i i1)] i0))) (λa7=>A.fx 2 a5 n112 0 1 a4 (λi2=>A.k11 i2 (λa1=>A.fx 2 a5 n112 1 1 a4 (λj0=>A.k4 j0 (λn128=>A.conv .i64 n128 (λj1=>A.call 17 [(.i n6),(.i n8),(.i a1),(.i j1)] a4 (λj2 O=>A.k9 j2 (λb2=>A.ix 1 a9 n112 1 O (λj3=>A.k4 j3 (λn137=>A.cd .neq n137 0 ( a7 [] O) ( A.ix 3 a0 a1 3 O (λj4=>A.k15 j4 (λj5 n144 j6=>A.ix 3 a0 b2 3 O (λj7=>A.k15 j7 (λj8 j9 l0=>A.eqs [((.i j5),(.i j8)),((.i n144),(.i j9)),((.i j6),(.i l0))] (λl1=>A.cond l1 ( a7 [] O) ( A.ix 3 a0 a1 3 O (λl2=>A.k15 l2 (λl3 l4 l5=>A.ix 3 x10 a1 3 O (λl6=>A.k15 l6 (λl7 l8 l9=>A.eqs [((.i l3),(.i l7)),((.i l4),(.i l8)),((.i l5),(.i l9))] (λm0=>A.join (λm1 a8=>A.k9 m1 (λm2=>A.fx 3 a0 m2 0 1 a8 (λm3=>A.k4 m3 (λm4=>A.cmp .gtr m4 3 (λm5=>A.join (λm6 m7=>A.k9 m6 (λm8=>A.opt (idS 1 a3 n112) (λm9=>A.heap (.st m9 [(.int .u8 1)]) m7 (λo3 b3=>A.cmp .eql m8 n20 (λn0=>A.join (λn1 n2=>A.un0 n1 ( a7 [] n2)) (λb4=>A.cond n0 ( A.opt (idS 1 a3 n112) (λo0=>A.heap (.st o0 [(.int .u8 2)]) b3 (λo4 o1=>b4 [] o1))) ( b4 [] b3))))))) (λb5=>A.cond m5 ( b5 [(.i 0)] a8) ( b5 [(.i 1)] a8))))))) (λb6=>A.cond (!m0) ( b6 [(.i b2)] O) ( b6 [(.i a1)] O))))))))))))))))))))))))) ( K [(.v a0),(.v a3)] a4)))) [(.i 0)] h4))))))))) [(.i 0)] d6))))))))))))))
def f16(ls:List Lf)(h:HT)(K:List Lf->HT->R):R:=A.k8 ls (λn6 n8=>A.ari .rem .u8 n6 4 (λn10=>A.ari .add .u8 1 n10 (λn11=>A.ari .rem .i8 n8 9 (λn12=>A.conv .i64 n12 (λn13=>K [(.i n11),(.i n13)] h)))))
def f17(ls:List Lf)(h:HT)(K:List Lf->HT->R):R:=A.k5 ls (λn6 n8 n10 n12=>A.ari .quo .i64 n10 4 (λO=>A.ari .rem .i64 O n6 (λn15=>A.ari .mul .i64 4 n6 (λn16=>A.ari .quo .i64 n10 n16 (λn17=>A.ari .rem .i64 n10 4 (λn18=>A.conv .u8 n18 (λn19=>A.call 19 [(.i n15),(.i n17),(.i n19),(.i n12)] h (λa0 a1=>A.k6 a0 (λn22 n24 n26=>A.call 35 [(.i n6),(.i n8),(.i n22),(.i n24),(.i n26)] a1 (λa2 a3=>A.k9 a2 (λn30=>K [(.i n30)] a3)))))))))))
def f18(ls:List Lf)(h:HT)(K:List Lf->HT->R):R:=A.k6 ls (λn6 n8 n10=>A.ari .mul .i64 2 n6 (λn12=>A.ari .mul .i64 2 n8 (λn13=>A.ari .add .i64 n12 2 (λO=>A.ari .add .i64 n12 2 (λn15=>A.ari .add .i64 n13 2 (λn16=>A.ari .add .i64 n13 2 (λn17=>A.conv .i64 n10 (λn18=>A.conv .i64 n10 (λn19=>A.ari .add .i64 n19 1 (λn20=>A.ari .rem .i64 n20 4 (λn21=>A.ari .rem .i64 n18 2 (λn22=>A.cmp .eql n22 1 (λa1=>A.join (λa2 a3=>A.k8 a2 (λn26 n28=>A.ari .add .i64 n12 1 (λn30=>A.ari .add .i64 n13 1 (λn31=>A.opt (inB 4 n26) (λa6=>A.opt (cF [(.i n12),(.i n13),(.i O),(.i n13),(.i n15),(.i n16),(.i n12),(.i n17)] 0 [(n26,2)] 2) (λa4=>A.k8 a4 (λn34 n36=>A.opt (inB 4 n28) (λa7=>A.opt (cF [(.i n12),(.i n13),(.i O),(.i n13),(.i n15),(.i n16),(.i n12),(.i n17)] 0 [(n28,2)] 2) (λa5=>A.k8 a5 (λn40 n42=>K [(.i n30),(.i n31),(.i n34),(.i n36),(.i n40),(.i n42)] a3)))))))))) (λa0=>A.cond a1 ( a0 [(.i n21),(.i n18)] h) ( a0 [(.i n18),(.i n21)] h)))))))))))))))
def f19(ls:List Lf)(h:HT)(K:List Lf->HT->R):R:=A.k5 ls (λn6 n8 n10 n12=>A.call 36 [(.i n6),(.i n8),(.i n10),(.i n12)] h (λa0 a1=>A.k8 a0 (λn16 n18=>A.call 18 [(.i n6),(.i n8),(.i n10)] a1 (λa2 a3=>A.k12 a2 (λn22 n24 n26 n28 n30 n32=>A.loop (λa4 a5 O=>A.unI a5 (λn37 a6=>A.k12 a6 (λn39 n41 n43 n45 n47 n49=>A.cd .lss n37 3 ( A.opt (inB 3 n37) (λb2=>A.opt (cF [(.i n39),(.i n41),(.i n43),(.i n45),(.i n47),(.i n49)] 0 [(n37,2)] 2) (λa7=>A.k8 a7 (λn54 n56=>A.call 37 [(.i n16),(.i n18),(.i n54),(.i n56)] O (λa8 a9=>A.k8 a8 (λn60 n62=>A.opt (inB 3 n37) (λb3=>A.opt (putL [(.i n39),(.i n41),(.i n43),(.i n45),(.i n47),(.i n49)] 0 [(n37,2)] [(.i n60),(.i n62)]) (λx65=>A.k12 x65 (λn66 n68 n70 n72 n74 n76=>A.ari .add .i64 n37 1 (λn78=>a4 [(.i n78),(.i n66),(.i n68),(.i n70),(.i n72),(.i n74),(.i n76)] a9)))))))))) ( A.call 38 [(.i n39),(.i n41),(.i n43),(.i n45),(.i n47),(.i n49)] O (λb0 b1=>A.k6 b0 (λn81 n83 n85=>K [(.i n81),(.i n83),(.i n85)] b1)))))) [(.i 0),(.i n22),(.i n24),(.i n26),(.i n28),(.i n30),(.i n32)] a3)))))
def f20(ls:List Lf)(h:HT)(K:List Lf->HT->R):R:=A.k1 ls (λn6 n8 x10=>A.call 39 [(.i n6),(.i n8)] h (λa8 a1=>A.k9 a8 (λa2=>A.cd .neq a2 0 ( K [(.i a2)] a1) ( A.call 40 [(.v x10),(.v (.func (.func 41) ⟨[]⟩ ⟨[]⟩))] a1 (λa9 a3=>A.k10 a9 (λb0=>A.cond b0 ( K [(.i 1)] a3) ( A.opt (lenS x10) (λb1=>A.loop (λb2 b3 O=>A.k9 b3 (λn25=>A.cd .lss n25 b1 ( A.ix 3 x10 n25 3 O (λb4=>A.k16 b4 (λn30 n32 n34=>A.call 43 [(.i n6),(.i n8),(.i n30),(.i n32)] O (λb5 a4=>A.k6 b5 (λn38 n40 n42=>A.cd .neq n42 0 ( K [(.i 7)] a4) ( A.call 44 [(.i n30),(.i n32),(.i n34)] a4 (λb6 a5=>A.k8 b6 (λn47 n49=>A.eqs [((.i n38),(.i n47)),((.i n40),(.i n49))] (λb7=>A.cond (!b7) ( K [(.i 7)] a5) ( A.ari .add .i64 n25 1 (λn52=>b2 [(.i n52)] a5))))))))))) ( A.loop (λb8 b9 a0=>A.k9 b9 (λn56=>A.opt (lenS x10) (λc0=>A.cd .lss n56 c0 ( A.ari .sub .i64 n56 1 (λn60=>A.ix 3 x10 n60 3 a0 (λc1=>A.k16 c1 (λn63 n65 n67=>A.call 44 [(.i n63),(.i n65),(.i n67)] a0 (λd0 a6=>A.k8 d0 (λn71 n73=>A.ix 3 x10 n56 3 a6 (λd1=>A.k16 d1 (λn77 n79 n81=>A.call 44 [(.i n77),(.i n79),(.i n81)] a6 (λd2 d3=>A.k8 d2 (λn85 n87=>A.call 45 [(.i n71),(.i n73),(.i n85),(.i n87)] d3 (λd4 a7=>A.k9 d4 (λn91=>A.cd .geq n91 0 ( K [(.i 6)] a7) ( A.ari .add .i64 n56 1 (λn94=>b8 [(.i n94)] a7)))))))))))))) ( K [(.i 0)] a0)))) [(.i 1)] O))) [(.i 0)] a3))))))))
def f21(ls:List Lf)(h:HT)(K:List Lf->HT->R):R:=A.k8 ls (λn6 n8=>A.call 46 [(.i n6),(.i n8)] h (λO a0=>A.k0 O (λa1 a2=>K [(.v a1),(.i a2)] a0)))
def f22(ls:List Lf)(h:HT)(K:List Lf->HT->R):R:=A.unV ls (λx6 a2=>A.k2 a2 (λa3=>A.opt (lenS x6) (λx10=>A.loop (λa4 a5 a0=>A.k9 a5 (λO=>A.cd .lss O x10 ( A.ix 2 x6 O 2 a0 (λa6=>A.k13 a6 (λn19 n21=>A.callv a3 [(.agg ⟨[(.int .i64 n19),(.int .i64 n21)]⟩)] [(.leaf .b)] a0 (λa7 a1=>A.k10 a7 (λa8=>A.cond a8 ( K [(.i O)] a1) ( A.ari .add .i64 O 1 (λn27=>a4 [(.i n27)] a1))))))) ( K [(.i (-1))] a0))) [(.i 0)] h)))
def f23(ls:List Lf)(h:HT)(K:List Lf->HT->R):R:=A.k1 ls (λn6 n8 x10=>A.peek (.lg cc 3 x10) h (λa0=>A.ucI .i64 a0 (λn13 a1=>A.ucI .i64 a1 (λn15 a2=>A.ucV a2 (λO a3=>A.chk O ( A.uc0 a3 ( A.call 24 [(.i n13),(.i n15),(.v O),(.i n6),(.i n8)] h (λa4 a5=>A.unB a4 (λa6 a7=>A.k9 a7 (λn23=>K [(.b (!a6))] a5))))))))))
def f24(ls:List Lf)(h:HT)(K:List Lf->HT->R):R:=A.unI ls (λn6 a5=>A.unI a5 (λn8 a6=>A.unV a6 (λx10 a7=>A.k8 a7 (λn12 a1=>A.call 47 [(.i n6),(.i n8),(.v x10),(.i n12),(.i a1)] h (λa8 a2=>A.k0 a8 (λa3 n20=>A.cd .neq n20 0 ( K [(.b false),(.i n20)] a2) ( A.new (.cells [(.int .u8 0),(.int .i64 0),(.int .i64 0)] 3 true) a2 (λa0 a9=>A.chk (.func (.func 48) ⟨[(.pointer (some ⟨a0,0,none⟩))]⟩ ⟨[]⟩) ( A.opt (lenS a3) (λx25=>A.loop (λb0 b1 O=>A.k9 b1 (λn29=>A.cd .lss n29 x25 ( A.ix 2 a3 n29 2 O (λb2=>A.k3 b2 (λn34 n36=>A.ari .rem .i64 n34 4 (λn38=>A.opt (inB 4 n38) (λc1=>A.opt (cF [(.i 2),(.i 4),(.i 1),(.i 3)] 0 [(n38,1)] 1) (λx40=>A.k9 x40 (λn41=>A.call 49 [(.i n41),(.i n12),(.i a1)] O (λb3 b4=>A.k6 b3 (λn45 n47 n49=>A.callv (.func (.func 48) ⟨[(.pointer (some ⟨a0,0,none⟩))]⟩ ⟨[]⟩) [(.agg ⟨[(.int .u8 n45),(.int .i64 n47)]⟩)] [] b4 (λb5 b6=>A.un0 b5 ( A.ari .add .i64 n29 1 (λn53=>b0 [(.i n53)] b6)))))))))))) ( A.opt (fdP 0 (.pointer (some ⟨a0,0,none⟩))) (λa4=>A.chk a4 ( A.peek (.lg cc 3 a4) O (λb7=>A.k15 b7 (λn56 n58 n60=>A.call 12 [] O (λb8 b9=>A.k6 b8 (λn64 n66 n68=>A.eqs [((.i n56),(.i n64)),((.i n58),(.i n66)),((.i n60),(.i n68))] (λc0=>K [(.b c0),(.i 0)] b9)))))))))) [(.i 0)] a9))))))))))
def f25(ls:List Lf)(h:HT)(K:List Lf->HT->R):R:=A.unI ls (λn6 a9=>A.unI a9 (λn8 b0=>A.unV b0 (λx10 b1=>A.k6 b1 (λn12 a3 n16=>A.call 20 [(.i n6),(.i n8),(.v x10)] h (λb2 a4=>A.k9 b2 (λn20=>A.cd .neq n20 0 ( K [(.v (.slice none 0 0)),(.v (.slice none 0 0)),(.i n20)] a4) ( A.call 50 [(.i n12),(.i a3),(.i n16)] a4 (λb3 a5=>A.k9 b3 (λn25=>A.cd .neq n25 0 ( K [(.v (.slice none 0 0)),(.v (.slice none 0 0)),(.i 1)] a5) ( A.call 51 [(.i n6),(.i n8),(.v x10)] a5 (λb4 a6=>A.k0 b4 (λa0 n32=>A.cd .neq n32 0 ( K [(.v (.slice none 0 0)),(.v (.slice none 0 0)),(.i n32)] a6) ( A.opt (lenS a0) (λO=>A.opt (mkOk O O) (λd6=>A.new (.cells (be [(.int .i64 0),(.int .i64 0),(.int .u8 0)] (Int.toNat O)) 3 true) a6 (λa7 b5=>A.opt (lenS a0) (λb6=>A.loop (λb7 b8 a1=>A.k9 b8 (λn43=>A.cd .lss n43 b6 ( A.ix 3 a0 n43 3 a1 (λb9=>A.k15 b9 (λn48 n50 n52=>A.call 52 [(.i n6),(.i n8),(.i n43)] a1 (λc0 c1=>A.k5 c0 (λn56 n58 n60 n62=>A.call 53 [(.i n48),(.i n50),(.i n52),(.i n12),(.i a3),(.i n16)] c1 (λd0 d1=>A.k5 d0 (λn66 n68 n70 n72=>A.opt (idS 3 a0 n43) (λx74=>A.heap (.st x74 [(.int .u8 n66),(.int .i64 n68),(.int .i64 n70)]) d1 (λd7 a2=>A.cd .neq n72 0 ( K [(.v (.slice none 0 0)),(.v (.slice none 0 0)),(.i n72)] a2) ( A.ix 3 a0 n43 3 a2 (λd2=>A.k15 d2 (λn80 n82 n84=>A.call 54 [(.i n80),(.i n82),(.i n84),(.i n56),(.i n58),(.i n60)] a2 (λd3 d4=>A.k5 d3 (λn88 n90 n92 n94=>A.opt (idS 3 (.slice (some ⟨a7,0,(some 13)⟩) (Int.toNat O) ((Int.toNat O)+1)) n43) (λd5=>A.heap (.st d5 [(.int .i64 n88),(.int .i64 n90),(.int .u8 n92)]) d4 (λd8 a8=>A.cd .neq n94 0 ( K [(.v (.slice none 0 0)),(.v (.slice none 0 0)),(.i n94)] a8) ( A.ari .add .i64 n43 1 (λn100=>b7 [(.i n100)] a8)))))))))))))))))) ( K [(.v a0),(.v (.slice (some ⟨a7,0,(some 13)⟩) (Int.toNat O) ((Int.toNat O)+1))),(.i 0)] a1))) [(.i 0)] b5)))))))))))))))))
def f26(ls:List Lf)(h:HT)(K:List Lf->HT->R):R:=A.k1 ls (λn6 n8 x10=>A.call 55 [(.i n6),(.i n8),(.v x10)] h (λO a0=>A.unI O (λa1 a2=>A.unI a2 (λn16 a3=>A.unV a3 (λa4 a5=>A.k8 a5 (λn20 n22=>K [(.i a1),(.i n16),(.v a4)] a0))))))
def f27(ls:List Lf)(h:HT)(K:List Lf->HT->R):R:=A.k5 ls (λn6 n8 n10 n12=>K [(.i 1),(.i n6),(.i n8),(.i n10),(.i n12)] h)
def f28(ls:List Lf)(h:HT)(K:List Lf->HT->R):R:=A.unI ls (λn6 a3=>A.unI a3 (λn8 a4=>A.unV a4 (λx10 a5=>A.k6 a5 (λn12 a6 n16=>A.call 29 [(.i n6),(.i n8),(.v x10),(.i n12),(.i a6),(.i n16)] h (λa7 a1=>A.k0 a7 (λx20 n22=>A.cd .neq n22 0 ( K [(.i 0),(.i n22)] a1) ( A.new (.map [] 0) a1 (λO a8=>A.opt (lenS x20) (λa9=>A.loop (λb0 b1 a0=>A.k8 b1 (λn31 n33=>A.cd .lss n33 a9 ( A.ix 3 x20 n33 3 a0 (λb2=>A.ucI .i64 b2 (λn38 b3=>A.k3 b3 (λn40 n42=>A.peek (.fn (luG cc 70 false (.int .i64 0) (.map (some O)) (.agg ⟨[(.int .i64 n38),(.int .i64 n40),(.int .u8 n42)]⟩) false)) a0 (λb4=>A.k11 b4 (λn45=>A.ari .add .i64 n45 1 (λn47=>A.heap (.fn (meG cc 70 false (.int .i64 0) (.map (some O)) (.agg ⟨[(.int .i64 n38),(.int .i64 n40),(.int .u8 n42)]⟩))) a0 (λb5 b6=>A.k13 b5 (λn50 n52=>A.heap (.fn (esG (.map (some O)) n52 (.int .i64 n47))) b6 (λb9 a2=>A.peek (.fn (luG cc 70 false (.int .i64 0) (.map (some O)) (.agg ⟨[(.int .i64 n38),(.int .i64 n40),(.int .u8 n42)]⟩) false)) a2 (λb7=>A.k11 b7 (λn57=>A.cmp .lss n31 n57 (λb8=>A.sel b8 n57 n31 (λn60=>A.ari .add .i64 n33 1 (λn61=>b0 [(.i n60),(.i n61)] a2))))))))))))))) ( K [(.i n31),(.i 0)] a0))) [(.i 0),(.i 0)] a8)))))))))
def f29(ls:List Lf)(h:HT)(K:List Lf->HT->R):R:=A.unI ls (λn6 O=>A.unI O (λn8 a0=>A.unV a0 (λx10 a1=>A.k6 a1 (λn12 a2 n16=>A.call 25 [(.i n6),(.i n8),(.v x10),(.i n12),(.i a2),(.i n16)] h (λa3 a4=>A.unV a3 (λx20 a5=>A.k0 a5 (λx22 n24=>K [(.v x22),(.i n24)] a4)))))))
def f30(ls:List Lf)(h:HT)(K:List Lf->HT->R):R:=A.k8 ls (λn6 n8=>A.loop (λa6 a7 O=>A.k0 a7 (λa0 n15=>A.cd .lss n15 n8 ( A.loop (λa8 a9 a1=>A.k0 a9 (λa2 n23=>A.cd .lss n23 n6 ( A.loop (λb0 b1 a3=>A.k0 b1 (λa4 n31=>A.cd .lss n31 4 ( A.new (.cells [(.int .i64 n23),(.int .i64 n15),(.int .u8 n31)] 3 true) a3 (λb2 b3=>A.heap (.ap cc 3 24 a4 (.slice (some ⟨b2,0,(some 13)⟩) 1 2)) b3 (λb4 b5=>A.ucV b4 (λa5 b6=>A.chk a5 ( A.uc0 b6 ( A.ari .add .u8 n31 1 (λn40=>b0 [(.v a5),(.i n40)] b5))))))) ( A.ari .add .i64 n23 1 (λn41=>a8 [(.v a4),(.i n41)] a3)))) [(.v a2),(.i 0)] a1) ( A.ari .add .i64 n15 1 (λn42=>a6 [(.v a2),(.i n42)] a1)))) [(.v a0),(.i 0)] O) ( K [(.v a0)] O))) [(.v (.slice none 0 0)),(.i 0)] h)
def f31(ls:List Lf)(h:HT)(K:List Lf->HT->R):R:=A.k14 ls (λn6 n8 n10 n12 a0=>A.call 18 [(.i n10),(.i n12),(.i a0)] h (λa1 a2=>A.k12 a1 (λn18 n20 n22 n24 n26 n28=>A.call 56 [(.i n6),(.i n8),(.i n18),(.i n20)] a2 (λa3 a4=>A.k9 a3 (λn32=>A.call 56 [(.i n6),(.i n8),(.i n22),(.i n24)] a4 (λa5 a6=>A.k9 a5 (λn36=>A.ari .add .i64 n32 n36 (λn38=>A.call 56 [(.i n6),(.i n8),(.i n26),(.i n28)] a6 (λa7 O=>A.k9 a7 (λn41=>A.ari .add .i64 n38 n41 (λn43=>A.cd .gtr n43 0 ( K [(.i 1)] O) ( K [(.i 0)] O))))))))))))
def f32(ls:List Lf)(h:HT)(K:List Lf->HT->R):R:=A.k12 ls (λn6 n8 n10 n12 a0 n16=>A.call 18 [(.i n12),(.i a0),(.i n16)] h (λa1 a2=>A.k12 a1 (λn20 n22 n24 n26 n28 n30=>A.loop (λa3 a4 O=>A.unI a4 (λn35 a5=>A.k12 a5 (λn37 n39 n41 n43 n45 n47=>A.cd .lss n35 3 ( A.opt (inB 3 n35) (λb1=>A.opt (cF [(.i n37),(.i n39),(.i n41),(.i n43),(.i n45),(.i n47)] 0 [(n35,2)] 2) (λx51=>A.k8 x51 (λn52 n54=>A.call 57 [(.i n6),(.i n8),(.i n10),(.i n52),(.i n54)] O (λa6 a7=>A.k8 a6 (λn58 n60=>A.opt (inB 3 n35) (λb2=>A.opt (putL [(.i n37),(.i n39),(.i n41),(.i n43),(.i n45),(.i n47)] 0 [(n35,2)] [(.i n58),(.i n60)]) (λa8=>A.k12 a8 (λn64 n66 n68 n70 n72 n74=>A.ari .add .i64 n35 1 (λn76=>a3 [(.i n76),(.i n64),(.i n66),(.i n68),(.i n70),(.i n72),(.i n74)] a7)))))))))) ( A.call 38 [(.i n37),(.i n39),(.i n41),(.i n43),(.i n45),(.i n47)] O (λa9 b0=>A.k6 a9 (λn79 n81 n83=>K [(.i n79),(.i n81),(.i n83)] b0)))))) [(.i 0),(.i n20),(.i n22),(.i n24),(.i n26),(.i n28),(.i n30)] a2)))
def f33(ls:List Lf)(h:HT)(K:List Lf->HT->R):R:=A.k12 ls (λn6 n8 n10 n12 O n16=>A.call 57 [(.i n6),(.i n8),(.i n10),(.i 0),(.i 0)] h (λa0 a1=>A.k8 a0 (λn20 n22=>A.call 57 [(.i n12),(.i O),(.i n16),(.i n20),(.i n22)] a1 (λa2 a3=>A.k8 a2 (λn26 n28=>A.call 57 [(.i n6),(.i n8),(.i n10),(.i 2),(.i 0)] a3 (λa4 a5=>A.k8 a4 (λn32 n34=>A.call 57 [(.i n12),(.i O),(.i n16),(.i n32),(.i n34)] a5 (λa6 a7=>A.k8 a6 (λn38 n40=>A.call 57 [(.i n6),(.i n8),(.i n10),(.i 0),(.i 2)] a7 (λa8 a9=>A.k8 a8 (λn44 n46=>A.call 57 [(.i n12),(.i O),(.i n16),(.i n44),(.i n46)] a9 (λb0 b1=>A.k8 b0 (λn50 n52=>A.call 58 [(.i n26),(.i n28),(.i n38),(.i n40),(.i n50),(.i n52)] b1 (λb2 b3=>A.k6 b2 (λn56 n58 n60=>K [(.i n56),(.i n58),(.i n60)] b3)))))))))))))))
def f34(ls:List Lf)(h:HT)(K:List Lf->HT->R):R:=A.k8 ls (λn6 n8=>A.call 37 [(.i n6),(.i n8),(.i 0),(.i 0)] h (λO a0=>A.k8 O (λn12 a1=>A.call 37 [(.i n6),(.i n8),(.i 2),(.i 0)] a0 (λa2 a3=>A.k8 a2 (λn18 n20=>A.call 37 [(.i n6),(.i n8),(.i 0),(.i 2)] a3 (λa4 a5=>A.k8 a4 (λn24 n26=>A.call 58 [(.i n12),(.i a1),(.i n18),(.i n20),(.i n24),(.i n26)] a5 (λa6 a7=>A.k6 a6 (λn30 n32 n34=>K [(.i n30),(.i n32),(.i n34)] a7)))))))))
def f35(ls:List Lf)(h:HT)(K:List Lf->HT->R):R:=A.k14 ls (λn6 n8 n10 n12 O=>A.cd .lss n10 0 ( K [(.i (-1))] h) ( A.cd .lss n12 0 ( K [(.i (-1))] h) ( A.cd .geq n10 n6 ( K [(.i (-1))] h) ( A.cd .geq n12 n8 ( K [(.i (-1))] h) ( A.cd .gtr O 3 ( K [(.i (-1))] h) ( A.ari .mul .i64 4 n6 (λn21=>A.ari .mul .i64 n21 n12 (λn22=>A.ari .mul .i64 4 n10 (λn23=>A.ari .add .i64 n22 n23 (λn24=>A.conv .i64 O (λn25=>A.ari .add .i64 n24 n25 (λn26=>K [(.i n26)] h))))))))))))
def f36(ls:List Lf)(h:HT)(K:List Lf->HT->R):R:=A.k5 ls (λn6 n8 n10 n12=>A.call 18 [(.i n6),(.i n8),(.i n10)] h (λa2 a3=>A.k12 a2 (λn16 n18 n20 n22 n24 n26=>A.ari .add .i64 n12 1 (λn28=>A.ari .rem .i64 n28 3 (λn29=>A.opt (inB 3 n29) (λb2=>A.opt (cF [(.i n16),(.i n18),(.i n20),(.i n22),(.i n24),(.i n26)] 0 [(n29,2)] 2) (λa4=>A.k8 a4 (λn32 n34=>A.ari .add .i64 n12 2 (λn36=>A.ari .rem .i64 n36 3 (λn37=>A.opt (inB 3 n37) (λb3=>A.opt (cF [(.i n16),(.i n18),(.i n20),(.i n22),(.i n24),(.i n26)] 0 [(n37,2)] 2) (λa5=>A.k8 a5 (λn40 n42=>A.loop (λa6 a7 O=>A.k6 a7 (λn47 n49 n51=>A.cd .leq n47 4 ( A.call 59 [(.i n47)] O (λa8 a0=>A.k8 a8 (λn56 n58=>A.ari .mul .i64 n56 n32 (λn60=>A.ari .mul .i64 n58 n34 (λn61=>A.ari .add .i64 n60 n61 (λn62=>A.ari .mul .i64 n56 n40 (λn63=>A.ari .mul .i64 n58 n42 (λn64=>A.ari .add .i64 n63 n64 (λn65=>A.cmp .eql n62 n65 (λa9=>A.join (λb0 b1=>A.k8 b0 (λn69 n71=>A.ari .add .u8 n47 1 (λn73=>a6 [(.i n73),(.i n69),(.i n71)] b1))) (λa1=>A.cond a9 ( A.ari .mul .i64 n56 n32 (λn75=>A.ari .mul .i64 n58 n34 (λn76=>A.ari .add .i64 n75 n76 (λn77=>A.ari .quo .i64 n77 2 (λn78=>a1 [(.i n47),(.i n78)] a0))))) ( a1 [(.i n49),(.i n51)] a0)))))))))))) ( K [(.i n49),(.i n51)] O))) [(.i 1),(.i 0),(.i 0)] a3)))))))))))))
def f37(ls:List Lf)(h:HT)(K:List Lf->HT->R):R:=A.k5 ls (λn6 n8 n10 n12=>A.call 59 [(.i n6)] h (λO a0=>A.k8 O (λn16 n18=>A.call 56 [(.i n6),(.i n8),(.i n10),(.i n12)] a0 (λa1 a2=>A.k9 a1 (λn22=>A.ari .mul .i64 2 n22 (λn24=>A.ari .mul .i64 n16 n16 (λn25=>A.ari .mul .i64 n18 n18 (λn26=>A.ari .add .i64 n25 n26 (λn27=>A.ari .quo .i64 n24 n27 (λn28=>A.ari .mul .i64 n28 n16 (λn29=>A.ari .sub .i64 n10 n29 (λn30=>A.ari .mul .i64 n28 n18 (λn31=>A.ari .sub .i64 n12 n31 (λn32=>K [(.i n30),(.i n32)] a2))))))))))))))
def f38(ls:List Lf)(h:HT)(K:List Lf->HT->R):R:=A.k12 ls (λn6 n8 n10 n12 a2 n16=>A.loop (λa5 a6 a0=>A.k9 a6 (λn21=>A.cd .lss n21 3 ( A.join (λa7 a8=>A.un0 a7 ( A.ari .add .i64 n21 1 (λn26=>a5 [(.i n26)] a8))) (λa3=>A.opt (inB 3 n21) (λd4=>A.opt (cF [(.i n6),(.i n8),(.i n10),(.i n12),(.i a2),(.i n16)] 0 [(n21,2)] 2) (λa9=>A.k8 a9 (λn30 n32=>A.ari .add .i64 n21 1 (λn34=>A.ari .rem .i64 n34 3 (λn35=>A.opt (inB 3 n35) (λd5=>A.opt (cF [(.i n6),(.i n8),(.i n10),(.i n12),(.i a2),(.i n16)] 0 [(n35,2)] 2) (λb0=>A.k8 b0 (λn38 n40=>A.ari .add .i64 n21 2 (λn42=>A.ari .rem .i64 n42 3 (λn43=>A.opt (inB 3 n43) (λd6=>A.opt (cF [(.i n6),(.i n8),(.i n10),(.i n12),(.i a2),(.i n16)] 0 [(n43,2)] 2) (λb1=>A.k8 b1 (λn46 n48=>A.ari .rem .i64 n30 2 (λn50=>A.cd .eql n50 0 ( a3 [] a0) ( A.ari .rem .i64 n32 2 (λn52=>A.cd .eql n52 0 ( a3 [] a0) ( A.loop (λa1 b2 a4=>A.k9 b2 (λn57=>A.cd .lss n57 4 ( A.ari .sub .i64 n30 1 (λn60=>A.ari .quo .i64 n60 2 (λn61=>A.ari .sub .i64 n32 1 (λn62=>A.ari .quo .i64 n62 2 (λn63=>A.call 18 [(.i n61),(.i n63),(.i n57)] a4 (λb3 O=>A.k12 b3 (λn66 n68 n70 n72 n74 n76=>A.eqs [((.i n70),(.i n38)),((.i n72),(.i n40))] (λb4=>A.cond b4 ( A.eqs [((.i n74),(.i n46)),((.i n76),(.i n48))] (λb5=>A.cond b5 ( K [(.i n61),(.i n63),(.i n57)] O) ( A.eqs [((.i n70),(.i n46)),((.i n72),(.i n48))] (λb6=>A.cond b6 ( A.eqs [((.i n74),(.i n38)),((.i n76),(.i n40))] (λb7=>A.join (λb8 b9=>A.un0 b8 ( A.ari .add .u8 n57 1 (λn84=>a1 [(.i n84)] b9))) (λc0=>A.cond b7 ( K [(.i n61),(.i n63),(.i n57)] O) ( c0 [] O)))) ( A.ari .add .u8 n57 1 (λn86=>a1 [(.i n86)] O)))))) ( A.eqs [((.i n70),(.i n46)),((.i n72),(.i n48))] (λc1=>A.cond c1 ( A.eqs [((.i n74),(.i n38)),((.i n76),(.i n40))] (λd0=>A.join (λd1 d2=>A.un0 d1 ( A.ari .add .u8 n57 1 (λn91=>a1 [(.i n91)] d2))) (λd3=>A.cond d0 ( K [(.i n61),(.i n63),(.i n57)] O) ( d3 [] O)))) ( A.ari .add .u8 n57 1 (λn93=>a1 [(.i n93)] O)))))))))))) ( a3 [] a4))) [(.i 0)] a0))))))))))))))))))) ( K [(.i 0),(.i 0),(.i 4)] a0))) [(.i 0)] h)
def f39(ls:List Lf)(h:HT)(K:List Lf->HT->R):R:=A.k8 ls (λn6 n8=>A.cd .lss n6 1 ( K [(.i 1)] h) ( A.cd .lss n8 1 ( K [(.i 1)] h) ( A.cd .gtr n6 256 ( K [(.i 1)] h) ( A.cd .gtr n8 256 ( K [(.i 1)] h) ( A.ari .mul .i64 n6 n8 (λO=>A.cd .gtr O 256 ( K [(.i 1)] h) ( K [(.i 0)] h)))))))
def f40(ls:List Lf)(h:HT)(K:List Lf->HT->R):R:=A.unV ls (λx6 O=>A.k2 O (λa0=>A.call 60 [(.v x6),(.v a0)] h (λa1 a2=>A.k9 a1 (λn12=>A.cmp .geq n12 0 (λa3=>K [(.b a3)] a2)))))
def f41(ls:List Lf)(h:HT)(K:List Lf->HT->R):R:=A.k6 ls (λn6 n8 n10=>A.call 42 [(.i n10)] h (λO a0=>A.k10 O (λa1=>K [(.b (!a1))] a0)))
def f42(ls:List Lf)(h:HT)(K:List Lf->HT->R):R:=A.k9 ls (λn6=>A.join (λa0 a1=>A.k10 a0 (λa2=>K [(.b a2)] a1)) (λO=>A.cd .geq n6 1 ( A.cmp .leq n6 3 (λa3=>O [(.b a3)] h)) ( O [(.b false)] h)))
def f43(ls:List Lf)(h:HT)(K:List Lf->HT->R):R:=A.k5 ls (λn6 n8 n10 n12=>A.call 61 [(.i n6),(.i n8),(.i n10),(.i n12)] h (λa0 O=>A.k8 a0 (λn16 n18=>A.cd .neq n18 0 ( K [(.i 0),(.i 0),(.i n18)] O) ( A.cmp .lss n16 n10 (λa1=>A.sel a1 n16 n10 (λn22=>K [(.i n22),(.i n12),(.i 0)] O))))))
def f44(ls:List Lf)(h:HT)(K:List Lf->HT->R):R:=A.k6 ls (λn6 n8 n10=>K [(.i n6),(.i n8)] h)
def f45(ls:List Lf)(h:HT)(K:List Lf->HT->R):R:=A.k5 ls (λn6 n8 n10 n12=>A.cd .neq n6 n10 ( A.ari .sub .i64 n6 n10 (λn15=>K [(.i n15)] h)) ( A.conv .i64 n8 (λn16=>A.conv .i64 n12 (λn17=>A.ari .sub .i64 n16 n17 (λn18=>K [(.i n18)] h)))))
def f46(ls:List Lf)(h:HT)(K:List Lf->HT->R):R:=A.k8 ls (λn6 n8=>A.call 39 [(.i n6),(.i n8)] h (λa6 a1=>A.k9 a6 (λn12=>A.cd .neq n12 0 ( K [(.v (.slice none 0 0)),(.i n12)] a1) ( A.loop (λa7 a8 a2=>A.k0 a8 (λa3 n20=>A.ari .mul .i64 2 n8 (λn22=>A.cd .lss n20 n22 ( A.loop (λa9 b0 O=>A.k0 b0 (λa0 n29=>A.ari .mul .i64 2 n6 (λn31=>A.cd .lss n29 n31 ( A.ari .rem .i64 n29 2 (λn33=>A.ari .rem .i64 n20 2 (λn34=>A.cmp .eql n33 n34 (λb1=>A.join (λb2 b3=>A.k2 b2 (λb4=>A.ari .add .i64 n29 1 (λn40=>a9 [(.v b4),(.i n40)] b3))) (λa4=>A.cond b1 ( A.new (.cells [(.int .i64 n29),(.int .i64 n20)] 2 true) O (λb5 b6=>A.heap (.ap cc 2 16 a0 (.slice (some ⟨b5,0,(some 12)⟩) 1 2)) b6 (λb7 b8=>A.ucV b7 (λa5 b9=>A.chk a5 ( A.uc0 b9 ( a4 [(.v a5)] b8)))))) ( a4 [(.v a0)] O)))))) ( A.ari .add .i64 n20 1 (λn48=>a7 [(.v a0),(.i n48)] O))))) [(.v a3),(.i 1)] a2) ( A.call 62 [(.v a3)] a2 (λc0 c1=>A.k2 c0 (λx51=>K [(.v x51),(.i 0)] c1)))))) [(.v (.slice none 0 0)),(.i 1)] a1))))
def f47(ls:List Lf)(h:HT)(K:List Lf->HT->R):R:=A.unI ls (λn6 b2=>A.unI b2 (λn8 b3=>A.unV b3 (λx10 b4=>A.k8 b4 (λn12 a3=>A.new (.cells [(.int .i64 n6),(.int .i64 n8),x10] 3 true) h (λO a4=>A.peek (.lg cc 3 (.pointer (some ⟨O,0,none⟩))) a4 (λb5=>A.ucI .i64 b5 (λn19 b6=>A.ucI .i64 b6 (λn21 b7=>A.ucV b7 (λx23 b8=>A.chk x23 ( A.uc0 b8 ( A.call 20 [(.i n19),(.i n21),(.v x23)] a4 (λb9 a0=>A.k9 b9 (λn27=>A.cd .neq n27 0 ( K [(.v (.slice none 0 0)),(.i n27)] a0) ( A.opt (fdP 0 (.pointer (some ⟨O,0,none⟩))) (λa5=>A.chk a5 ( A.peek (.lg cc 2 a5) a0 (λc0=>A.k13 c0 (λn32 n34=>A.call 63 [(.i n32),(.i n34),(.i n12),(.i a3)] a0 (λc1 a6=>A.k9 c1 (λn38=>A.cd .neq n38 0 ( K [(.v (.slice none 0 0)),(.i n38)] a6) ( A.new (.cells [(.slice none 0 0)] 1 true) a6 (λa1 a7=>A.opt (fdP 0 (.pointer (some ⟨O,0,none⟩))) (λa8=>A.chk a8 ( A.peek (.lg cc 2 a8) a7 (λd0=>A.k13 d0 (λn45 n47=>A.call 64 [(.i n45),(.i n47),(.i n12),(.i a3)] a7 (λd1 d2=>A.k2 d1 (λx51=>A.rfun 752 x51 [(.pointer (some ⟨O,0,none⟩)),(.pointer (some ⟨a1,0,none⟩))] d2 (λd3 a2=>A.pend d3 ( A.peek (.lg cc 1 (.pointer (some ⟨a1,0,none⟩))) a2 (λd4=>A.ucV d4 (λa9 d5=>A.chk a9 ( A.uc0 d5 ( A.call 66 [(.v a9),(.v (.func (.func 67) ⟨[]⟩ ⟨[]⟩))] a2 (λd6 b0=>A.un0 d6 ( A.peek (.lg cc 1 (.pointer (some ⟨a1,0,none⟩))) b0 (λd7=>A.ucV d7 (λb1 d8=>A.chk b1 ( A.uc0 d8 ( A.call 68 [(.v b1)] b0 (λd9 e0=>A.k2 d9 (λx65=>K [(.v x65),(.i 0)] e0))))))))))))) ( K [(.v (.slice none 0 0)),(.i 0)] a2) [])))))))))))))))))))))))))))))
def f48(ls:List Lf)(h:HT)(K:List Lf->HT->R):R:=A.unV ls (λx6 a2=>A.k8 a2 (λn8 n10=>A.call 69 [(.i n8),(.i n10)] h (λa3 O=>A.k5 a3 (λa4 n16 n18 n20=>A.opt (nilP x6) (λx22=>A.chk x22 ( A.opt (fdP 0 x22) (λx23=>A.chk x23 ( A.peek (.lg cc 3 x23) O (λa5=>A.k15 a5 (λn25 n27 n29=>A.call 53 [(.i n25),(.i n27),(.i n29),(.i a4),(.i n16),(.i n18)] O (λa6 a7=>A.k5 a6 (λn33 n35 n37 n39=>A.opt (nilP x6) (λa0=>A.chk a0 ( A.opt (fdP 0 a0) (λa1=>A.chk a1 ( A.heap (.st a1 [(.int .u8 n33),(.int .i64 n35),(.int .i64 n37)]) a7 (λa9 a8=>K [] a8)))))))))))))))))
def f49(ls:List Lf)(h:HT)(K:List Lf->HT->R):R:=A.k6 ls (λn6 n8 n10=>A.cd .lss n6 1 ( K [(.i 0),(.i 0),(.i 1)] h) ( A.cd .gtr n6 4 ( K [(.i 0),(.i 0),(.i 1)] h) ( A.call 70 [(.i n8),(.i n10)] h (λa2 O=>A.k9 a2 (λn16=>A.cd .neq n16 0 ( K [(.i 0),(.i 0),(.i 1)] O) ( A.call 71 [(.i n6),(.i n8),(.i n10)] O (λa3 a0=>A.k9 a3 (λn21=>A.ari .quo .i64 n21 2 (λn23=>A.ari .rem .i64 n21 2 (λn24=>A.cd .neq n24 0 ( K [(.i 0),(.i 0),(.i 7)] a0) ( A.call 72 [(.i n6),(.i n23)] a0 (λa4 a1=>A.k9 a4 (λn28=>A.cd .neq n28 0 ( K [(.i 0),(.i 0),(.i 3)] a1) ( K [(.i n6),(.i n23),(.i 0)] a1))))))))))))))
def f50(ls:List Lf)(h:HT)(K:List Lf->HT->R):R:=A.k6 ls (λn6 n8 n10=>A.conv .i64 n6 (λn12=>A.cd .geq n12 8 ( K [(.i 1)] h) ( A.call 73 [(.i n8)] h (λa1 a0=>A.k10 a1 (λa2=>A.cond a2 ( K [(.i 1)] a0) ( A.call 73 [(.i n10)] a0 (λa3 O=>A.k10 a3 (λa4=>A.cond a4 ( K [(.i 1)] O) ( A.ari .add .i64 n8 n10 (λn22=>A.ari .rem .i64 n22 2 (λn23=>A.cd .neq n23 0 ( K [(.i 1)] O) ( K [(.i 0)] O))))))))))))
def f51(ls:List Lf)(h:HT)(K:List Lf->HT->R):R:=A.k1 ls (λn6 n8 x10=>A.new (.cells [(.int .i64 n6),(.int .i64 n8),x10] 3 true) h (λa1 b0=>A.peek (.lg cc 3 (.pointer (some ⟨a1,0,none⟩))) b0 (λd2=>A.ucI .i64 d2 (λn15 d3=>A.ucI .i64 d3 (λn17 d4=>A.ucV d4 (λb1 d5=>A.chk b1 ( A.uc0 d5 ( A.call 74 [(.i n15),(.i n17),(.v b1)] b0 (λd6 d7=>A.k2 d6 (λx23=>A.new (.cells [(.map none)] 1 true) d7 (λa6 d8=>A.heap (.st (.pointer (some ⟨a6,0,none⟩)) [x23]) d8 (λm1 b2=>A.opt (fdP 0 (.pointer (some ⟨a1,0,none⟩))) (λb3=>A.chk b3 ( A.peek (.lg cc 2 b3) b2 (λd9=>A.k13 d9 (λn31 n33=>A.call 75 [(.i n31),(.i n33)] b2 (λe0 e1=>A.k9 e0 (λn37=>A.opt (mkOk n37 n37) (λm2=>A.new (.cells (be [(.int .u8 0),(.int .i64 0),(.int .i64 0)] (Int.toNat n37)) 3 true) e1 (λe2 f0=>A.new (.cells [(.slice none 0 0)] 1 true) f0 (λa0 f1=>A.heap (.st (.pointer (some ⟨a0,0,none⟩)) [(.slice (some ⟨e2,0,(some 13)⟩) (Int.toNat n37) ((Int.toNat n37)+1))]) f1 (λm3 b4=>A.peek (.lg cc 1 (.pointer (some ⟨a0,0,none⟩))) b4 (λf2=>A.ucV f2 (λx47 g0=>A.chk x47 ( A.uc0 g0 ( A.opt (lenS x47) (λO=>A.opt (mkOk O O) (λm4=>A.new (.cells (be [(.bool false)] (Int.toNat O)) 1 true) b4 (λa7 g1=>A.chk (.func (.func 76) ⟨[]⟩ ⟨[(.pointer (some ⟨a1,0,none⟩)),(.pointer (some ⟨a6,0,none⟩)),(.pointer (some ⟨a0,0,none⟩))]⟩) ( A.opt (idS 1 (.slice (some ⟨a7,0,(some 11)⟩) (Int.toNat O) ((Int.toNat O)+1)) 0) (λg2=>A.heap (.st g2 [(.bool true)]) g1 (λm5 g3=>A.new (.cells [(.int .i64 0)] 1 true) g3 (λg4 g5=>A.loop (λg6 g7 a2=>A.k2 g7 (λa8=>A.opt (lenS a8) (λg8=>A.cd .gtr g8 0 ( A.opt (idS 1 a8 0) (λx65=>A.peek (.lg cc 1 x65) a2 (λg9=>A.k11 g9 (λn67=>A.opt (slS 1 a8 (some 1) none none) (λb5=>A.chk b5 ( A.loop (λh0 h1 a9=>A.k0 h1 (λa3 n75=>A.cd .lss n75 3 ( A.join (λh2 h3=>A.k2 h2 (λh4=>A.ari .add .u8 n75 1 (λn82=>h0 [(.v h4),(.i n82)] h3))) (λb6=>A.opt (fdP 0 (.pointer (some ⟨a1,0,none⟩))) (λb7=>A.chk b7 ( A.peek (.lg cc 2 b7) a9 (λh5=>A.k13 h5 (λn86 n88=>A.call 61 [(.i n86),(.i n88),(.i n67),(.i n75)] a9 (λh6 b8=>A.k8 h6 (λn92 n94=>A.cd .neq n94 0 ( b6 [(.v a3)] b8) ( A.callv (.func (.func 76) ⟨[]⟩ ⟨[(.pointer (some ⟨a1,0,none⟩)),(.pointer (some ⟨a6,0,none⟩)),(.pointer (some ⟨a0,0,none⟩))]⟩) [(.int .i64 n67),(.int .u8 n75)] [(.agg [(.i .u8),(.i .i64),(.i .i64)])] b8 (λh7 a4=>A.k6 h7 (λn99 n101 n103=>A.opt (idS 1 (.slice (some ⟨a7,0,(some 11)⟩) (Int.toNat O) ((Int.toNat O)+1)) n92) (λh8=>A.peek (.lg cc 1 h8) a4 (λh9=>A.ucB h9 (λi0 i1=>A.uc0 i1 ( A.join (λi2 a5=>A.k2 i2 (λj0=>A.peek (.lg cc 1 (.pointer (some ⟨a0,0,none⟩))) a5 (λj1=>A.ucV j1 (λb9 j2=>A.chk b9 ( A.uc0 j2 ( A.ix 3 b9 n92 3 a5 (λj3=>A.k15 j3 (λj4 j5 j6=>A.eqs [((.i j4),(.i n99)),((.i j5),(.i n101)),((.i j6),(.i n103))] (λj7=>A.cond (!j7) ( K [(.v (.slice none 0 0)),(.i 11)] a5) ( b6 [(.v j0)] a5)))))))))) (λc0=>A.cond (!i0) ( A.peek (.lg cc 1 (.pointer (some ⟨a0,0,none⟩))) a4 (λj8=>A.ucV j8 (λc1 j9=>A.chk c1 ( A.uc0 j9 ( A.opt (idS 3 c1 n92) (λl0=>A.heap (.st l0 [(.int .u8 n99),(.int .i64 n101),(.int .i64 n103)]) a4 (λm6 l1=>A.opt (idS 1 (.slice (some ⟨a7,0,(some 11)⟩) (Int.toNat O) ((Int.toNat O)+1)) n92) (λl2=>A.heap (.st l2 [(.bool true)]) l1 (λm7 l3=>A.new (.cells [(.int .i64 n92)] 1 true) l3 (λl4 l5=>A.heap (.ap cc 1 8 a3 (.slice (some ⟨l4,0,(some 11)⟩) 1 2)) l5 (λl6 l7=>A.ucV l6 (λd0 l8=>A.chk d0 ( A.uc0 l8 ( c0 [(.v d0)] l7)))))))))))))) ( c0 [(.v a3)] a4))))))))))))))))) ( g6 [(.v a3)] a9))) [(.v b5),(.i 0)] a2)))))) ( A.peek (.lg cc 1 (.pointer (some ⟨a0,0,none⟩))) a2 (λl9=>A.ucV l9 (λd1 m0=>A.chk d1 ( A.uc0 m0 ( K [(.v d1),(.i 0)] a2)))))))) [(.v (.slice (some ⟨g4,0,(some 11)⟩) 1 2))] g5)))))))))))))))))))))))))))))))))
def f52(ls:List Lf)(h:HT)(K:List Lf->HT->R):R:=A.k6 ls (λn6 n8 n10=>A.call 39 [(.i n6),(.i n8)] h (λa2 O=>A.k9 a2 (λa0=>A.cd .neq a0 0 ( K [(.i 0),(.i 0),(.i 0),(.i a0)] O) ( A.call 78 [(.i n6),(.i n8),(.i n10)] O (λa3 a1=>A.k10 a3 (λa4=>A.cond (!a4) ( K [(.i 0),(.i 0),(.i 0),(.i 7)] a1) ( A.call 79 [(.i n6),(.i n8),(.i n10)] a1 (λa5 a6=>A.k6 a5 (λn23 n25 n27=>K [(.i n23),(.i n25),(.i n27),(.i 0)] a6)))))))))
def f53(ls:List Lf)(h:HT)(K:List Lf->HT->R):R:=A.k12 ls (λn6 n8 n10 n12 O n16=>A.call 50 [(.i n6),(.i n8),(.i n10)] h (λa2 a0=>A.k9 a2 (λn20=>A.cd .neq n20 0 ( K [(.i 0),(.i 0),(.i 0),(.i 1)] a0) ( A.call 50 [(.i n12),(.i O),(.i n16)] a0 (λa3 a1=>A.k9 a3 (λn25=>A.cd .neq n25 0 ( K [(.i 0),(.i 0),(.i 0),(.i 1)] a1) ( A.opt (inB 8 n12) (λc1=>A.opt (lY gl0 0 [(n12,4)] 4) (λa4=>A.ucI .i64 a4 (λn30 a5=>A.ucI .i64 a5 (λn32 a6=>A.k13 a6 (λn34 n36=>A.call 80 [(.i n30),(.i n32),(.i n34),(.i n36),(.i n8),(.i n10)] a1 (λa7 a8=>A.k8 a7 (λn40 n42=>A.opt (inB 8 n6) (λd0=>A.opt (lY gl0 0 [(n6,4)] 4) (λa9=>A.ucI .i64 a9 (λn46 b0=>A.ucI .i64 b0 (λn48 b1=>A.k13 b1 (λn50 n52=>A.opt (inB 8 n12) (λd1=>A.opt (lY gl0 0 [(n12,4)] 4) (λb2=>A.ucI .i64 b2 (λn56 b3=>A.ucI .i64 b3 (λn58 b4=>A.k13 b4 (λn60 n62=>A.call 83 [(.i n46),(.i n48),(.i n50),(.i n52),(.i n56),(.i n58),(.i n60),(.i n62)] a8 (λb5 b6=>A.k5 b5 (λn66 n68 n70 n72=>A.call 82 [(.i n66),(.i n68),(.i n70),(.i n72)] b6 (λb7 b8=>A.k9 b7 (λn76=>A.ari .add .i64 n40 O (λn78=>A.ari .add .i64 n42 n16 (λn79=>A.call 81 [(.i n76),(.i n78),(.i n79)] b8 (λb9 c0=>A.k5 b9 (λn82 n84 n86 n88=>K [(.i n82),(.i n84),(.i n86),(.i n88)] c0))))))))))))))))))))))))))))))))
def f54(ls:List Lf)(h:HT)(K:List Lf->HT->R):R:=A.k12 ls (λn6 n8 n10 n12 O n16=>A.call 50 [(.i n6),(.i n8),(.i n10)] h (λa3 a0=>A.k9 a3 (λn20=>A.cd .neq n20 0 ( K [(.i 0),(.i 0),(.i 0),(.i 1)] a0) ( A.call 84 [(.i n12),(.i O),(.i n16)] a0 (λa4 a1=>A.k9 a4 (λn25=>A.cd .neq n25 0 ( K [(.i 0),(.i 0),(.i 0),(.i 1)] a1) ( A.call 85 [(.i n6),(.i n8),(.i n10),(.i n12),(.i O),(.i n16)] a1 (λa5 a6=>A.k6 a5 (λn30 n32 n34=>A.call 84 [(.i n30),(.i n32),(.i n34)] a6 (λa7 a2=>A.k9 a7 (λn38=>A.cd .neq n38 0 ( K [(.i 0),(.i 0),(.i 0),(.i 3)] a2) ( K [(.i n30),(.i n32),(.i n34),(.i 0)] a2))))))))))))
def f55(ls:List Lf)(h:HT)(K:List Lf->HT->R):R:=A.k1 ls (λn6 n8 x10=>A.call 39 [(.i n6),(.i n8)] h (λa9 a2=>A.k9 a9 (λa3=>A.cd .neq a3 0 ( A.opt (chk2 (.slice none 0 0)) (λf0=>K [(.i 0),(.i 0),(.v (.slice none 0 0)),(.i 0),(.i a3)] a2)) ( A.call 86 [(.i n6),(.i n8)] a2 (λb0 b1=>A.k2 b0 (λx20=>A.new (.map [] 0) b1 (λa4 b2=>A.opt (lenS x10) (λx24=>A.loop (λb3 b4 a0=>A.k0 b4 (λa1 n30=>A.cd .lss n30 x24 ( A.ix 5 x10 n30 5 a0 (λb5=>A.ucI .u8 b5 (λn35 b6=>A.ucI .u8 b6 (λn37 b7=>A.ucI .i64 b7 (λn39 b8=>A.k13 b8 (λn41 n43=>A.call 87 [(.v x20),(.i n35),(.i n37),(.i n39),(.i n41),(.i n43)] a0 (λb9 a5=>A.k0 b9 (λx47 n49=>A.cd .neq n49 0 ( A.opt (chk2 (.slice none 0 0)) (λf1=>K [(.i 0),(.i 0),(.v (.slice none 0 0)),(.i n30),(.i n49)] a5)) ( A.opt (lenS x47) (λc0=>A.loop (λc1 d0 O=>A.k0 d0 (λa6 n59=>A.cd .lss n59 c0 ( A.ix 2 x47 n59 2 O (λd1=>A.k3 d1 (λn64 n66=>A.peek (.fn (luG cc 35 false (.int .u8 0) (.map (some a4)) (.agg ⟨[(.int .i64 n64),(.int .u8 n66)]⟩) false)) O (λd2=>A.k4 d2 (λn69=>A.cd .neq n69 0 ( A.opt (chk2 (.slice none 0 0)) (λf2=>K [(.i 0),(.i 0),(.v (.slice none 0 0)),(.i n30),(.i 8)] O)) ( A.heap (.fn (muG cc 35 (.map (some a4)) (.agg ⟨[(.int .i64 n64),(.int .u8 n66)]⟩) (.int .u8 n35))) O (λg0 d3=>A.new (.cells [(.int .i64 n64),(.int .u8 n66),(.int .u8 n35)] 3 true) d3 (λd4 d5=>A.heap (.ap cc 3 16 a6 (.slice (some ⟨d4,0,(some 13)⟩) 1 2)) d5 (λd6 d7=>A.ucV d6 (λa7 d8=>A.chk a7 ( A.uc0 d8 ( A.ari .add .i64 n59 1 (λn81=>c1 [(.v a7),(.i n81)] d7))))))))))))) ( A.ari .add .i64 n30 1 (λn82=>b3 [(.v a6),(.i n82)] O)))) [(.v a1),(.i 0)] a5)))))))))) ( A.call 88 [(.v a1),(.v (.func (.func 89) ⟨[]⟩ ⟨[]⟩))] a0 (λd9 e0=>A.un0 d9 ( A.call 91 [(.v a1)] e0 (λe1 e2=>A.k2 e1 (λa8=>A.opt (chk2 a8) (λg1=>K [(.i n6),(.i n8),(.v a8),(.i 0),(.i 0)] e2)))))))) [(.v (.slice none 0 0)),(.i 0)] b2))))))))
def f56(ls:List Lf)(h:HT)(K:List Lf->HT->R):R:=A.k5 ls (λn6 n8 n10 n12=>A.call 59 [(.i n6)] h (λO a0=>A.k8 O (λn16 n18=>A.ari .mul .i64 n16 n10 (λn20=>A.ari .mul .i64 n18 n12 (λn21=>A.ari .add .i64 n20 n21 (λn22=>A.ari .mul .i64 2 n8 (λn23=>A.ari .sub .i64 n22 n23 (λn24=>K [(.i n24)] a0))))))))
def f57(ls:List Lf)(h:HT)(K:List Lf->HT->R):R:=A.k14 ls (λn6 n8 n10 n12 O=>A.cmp .eql n6 1 (λb3=>A.join (λb4 a0=>A.k8 b4 (λn19 n21=>A.cmp .eql n6 2 (λb5=>A.join (λb6 a1=>A.k8 b6 (λn26 n28=>A.cmp .eql n6 3 (λb7=>A.join (λb8 a2=>A.k8 b8 (λn33 n35=>A.cmp .eql n6 4 (λb9=>A.join (λc0 a3=>A.k8 c0 (λn40 n42=>A.cmp .eql n6 5 (λc1=>A.join (λd0 a4=>A.k8 d0 (λn47 n49=>A.cmp .eql n6 6 (λd1=>A.join (λd2 a5=>A.k8 d2 (λn54 n56=>A.cmp .eql n6 7 (λd3=>A.join (λd4 d5=>A.k8 d4 (λn61 n63=>A.ari .mul .i64 2 n8 (λn65=>A.ari .add .i64 n61 n65 (λn66=>A.ari .mul .i64 2 n10 (λn67=>A.ari .add .i64 n63 n67 (λn68=>K [(.i n66),(.i n68)] d5)))))) (λa6=>A.cond d3 ( a6 [(.i O),(.i n12)] a5) ( a6 [(.i n54),(.i n56)] a5))))) (λa7=>A.cond d1 ( A.ari .sub .i64 0 O (λn71=>a7 [(.i n12),(.i n71)] a4)) ( a7 [(.i n47),(.i n49)] a4))))) (λa8=>A.cond c1 ( A.ari .sub .i64 0 O (λn73=>A.ari .sub .i64 0 n12 (λn74=>a8 [(.i n73),(.i n74)] a3))) ( a8 [(.i n40),(.i n42)] a3))))) (λa9=>A.cond b9 ( A.ari .sub .i64 0 n12 (λn76=>a9 [(.i n76),(.i O)] a2)) ( a9 [(.i n33),(.i n35)] a2))))) (λb0=>A.cond b7 ( A.ari .sub .i64 0 n12 (λn78=>b0 [(.i O),(.i n78)] a1)) ( b0 [(.i n26),(.i n28)] a1))))) (λb1=>A.cond b5 ( A.ari .sub .i64 0 n12 (λn80=>A.ari .sub .i64 0 O (λn81=>b1 [(.i n80),(.i n81)] a0))) ( b1 [(.i n19),(.i n21)] a0))))) (λb2=>A.cond b3 ( A.ari .sub .i64 0 O (λn83=>b2 [(.i n83),(.i n12)] h)) ( b2 [(.i n12),(.i O)] h))))
def f58(ls:List Lf)(h:HT)(K:List Lf->HT->R):R:=A.k12 ls (λn6 n8 n10 n12 a4 n16=>A.loop (λO a5 a0=>A.k9 a5 (λn21=>A.cd .lss n21 8 ( A.ari .quo .i64 n6 2 (λn24=>A.ari .quo .i64 n8 2 (λn25=>A.call 57 [(.i n21),(.i n24),(.i n25),(.i 2),(.i 0)] a0 (λa6 a1=>A.k8 a6 (λn28 n30=>A.eqs [((.i n28),(.i n10)),((.i n30),(.i n12))] (λa7=>A.cond a7 ( A.call 57 [(.i n21),(.i n24),(.i n25),(.i 0),(.i 2)] a1 (λa8 a2=>A.k8 a8 (λn35 n37=>A.eqs [((.i n35),(.i a4)),((.i n37),(.i n16))] (λa9=>A.cond a9 ( A.call 57 [(.i n21),(.i n24),(.i n25),(.i 0),(.i 0)] a2 (λb0 a3=>A.k8 b0 (λn42 n44=>A.eqs [((.i n42),(.i n6)),((.i n44),(.i n8))] (λb1=>A.join (λb2 b3=>A.un0 b2 ( A.ari .add .u8 n21 1 (λn49=>O [(.i n49)] b3))) (λb4=>A.cond b1 ( K [(.i n21),(.i n24),(.i n25)] a3) ( b4 [] a3)))))) ( A.ari .add .u8 n21 1 (λn51=>O [(.i n51)] a2)))))) ( A.ari .add .u8 n21 1 (λn52=>O [(.i n52)] a1)))))))) ( K [(.i 8),(.i 0),(.i 0)] a0))) [(.i 0)] h)
def f59(ls:List Lf)(h:HT)(K:List Lf->HT->R):R:=A.k9 ls (λn6=>A.cd .eql n6 1 ( K [(.i 1),(.i 0)] h) ( A.cd .eql n6 2 ( K [(.i 0),(.i 1)] h) ( A.cd .eql n6 3 ( K [(.i 1),(.i 1)] h) ( K [(.i (-1)),(.i 1)] h))))
def f60(ls:List Lf)(h:HT)(K:List Lf->HT->R):R:=A.unV ls (λx6 a2=>A.k2 a2 (λa3=>A.opt (lenS x6) (λx10=>A.loop (λa4 a5 a0=>A.k9 a5 (λO=>A.cd .lss O x10 ( A.ix 3 x6 O 3 a0 (λa6=>A.k16 a6 (λn19 n21 n23=>A.callv a3 [(.agg ⟨[(.int .i64 n19),(.int .u8 n21),(.int .u8 n23)]⟩)] [(.leaf .b)] a0 (λa7 a1=>A.k10 a7 (λa8=>A.cond a8 ( K [(.i O)] a1) ( A.ari .add .i64 O 1 (λn29=>a4 [(.i n29)] a1))))))) ( K [(.i (-1))] a0))) [(.i 0)] h)))
def f61(ls:List Lf)(h:HT)(K:List Lf->HT->R):R:=A.k5 ls (λn6 n8 n10 n12=>A.call 52 [(.i n6),(.i n8),(.i n10)] h (λa1 O=>A.k5 a1 (λn16 n18 n20 n22=>A.cd .neq n22 0 ( K [(.i 0),(.i n22)] O) ( A.call 92 [(.i n16),(.i n18),(.i n20),(.i n12)] O (λa2 a0=>A.k5 a2 (λn27 n29 n31 n33=>A.cd .neq n33 0 ( K [(.i 0),(.i 1)] a0) ( A.call 93 [(.i n6),(.i n8),(.i n27),(.i n29),(.i n31)] a0 (λa3 a4=>A.k8 a3 (λn38 n40=>K [(.i n38),(.i n40)] a4)))))))))
def f62(ls:List Lf)(h:HT)(K:List Lf->HT->R):R:=A.k2 ls (λx6=>A.opt (lenS x6) (λO=>A.opt (lenS x6) (λa0=>A.opt (slS 2 x6 none (some O) (some a0)) (λx10=>A.chk x10 ( K [(.v x10)] h)))))
def f63(ls:List Lf)(h:HT)(K:List Lf->HT->R):R:=A.k5 ls (λn6 n8 n10 n12=>A.call 39 [(.i n6),(.i n8)] h (λa0 O=>A.k9 a0 (λn16=>A.cd .neq n16 0 ( K [(.i n16)] O) ( A.cd .leq n10 0 ( K [(.i 7)] O) ( A.cd .leq n12 0 ( K [(.i 7)] O) ( A.ari .mul .i64 2 n6 (λn21=>A.cd .geq n10 n21 ( K [(.i 7)] O) ( A.ari .mul .i64 2 n8 (λn23=>A.cd .geq n12 n23 ( K [(.i 7)] O) ( A.ari .rem .i64 n10 2 (λn25=>A.ari .rem .i64 n12 2 (λn26=>A.cd .neq n25 n26 ( K [(.i 7)] O) ( K [(.i 0)] O)))))))))))))
def f64(ls:List Lf)(h:HT)(K:List Lf->HT->R):R:=A.k5 ls (λn6 n8 n10 n12=>A.new (.cells [(.int .i64 n6),(.int .i64 n8)] 2 true) h (λO a1=>A.new (.cells [(.int .i64 n10),(.int .i64 n12)] 2 true) a1 (λa0 a2=>A.chk (.func (.func 94) ⟨[]⟩ ⟨[(.pointer (some ⟨a0,0,none⟩)),(.pointer (some ⟨O,0,none⟩))]⟩) ( K [(.v (.func (.func 94) ⟨[]⟩ ⟨[(.pointer (some ⟨a0,0,none⟩)),(.pointer (some ⟨O,0,none⟩))]⟩))] a2))))
def f65(ls:List Lf)(h:HT)(K:List Lf->HT->R):R:=A.unI ls (λn6 a0=>A.unI a0 (λn8 a1=>A.unV a1 (λx10 a2=>A.k8 a2 (λn12 a3=>A.call 98 [(.i n6),(.i n8),(.v x10),(.i n12),(.i a3)] h (λa4 O=>A.unI a4 (λn18 a5=>A.unI a5 (λn20 a6=>A.unI a6 (λn22 a7=>A.unB a7 (λa8 a9=>A.k9 a9 (λn26=>A.cd .neq n26 0 ( K [(.i 0),(.i n26)] O) ( A.cond (!a8) ( K [(.i 0),(.i n26)] O) ( A.fx 3 x10 n22 2 1 O (λb0=>A.k4 b0 (λn32=>K [(.i n32),(.i 0)] O))))))))))))))
def f66(ls:List Lf)(h:HT)(K:List Lf->HT->R):R:=A.unV ls (λx6 O=>A.k2 O (λa0=>A.opt (lenS x6) (λx10=>A.conv .u64 x10 (λn11=>A.call 100 [(.i n11)] h (λa1 a2=>A.k9 a1 (λa3=>A.call 99 [(.v x6),(.i 0),(.i x10),(.i a3),(.v a0)] a2 (λa4 a5=>A.un0 a4 ( K [] a5))))))))
def f67(ls:List Lf)(h:HT)(K:List Lf->HT->R):R:=A.k5 ls (λn6 n8 n10 n12=>A.ari .sub .i64 n6 n10 (λO=>K [(.i O)] h))
def f68(ls:List Lf)(h:HT)(K:List Lf->HT->R):R:=A.k2 ls (λx6=>A.opt (lenS x6) (λO=>A.opt (lenS x6) (λa0=>A.opt (slS 2 x6 none (some O) (some a0)) (λx10=>A.chk x10 ( K [(.v x10)] h)))))
def f69(ls:List Lf)(h:HT)(K:List Lf->HT->R):R:=A.k8 ls (λn6 n8=>A.call 72 [(.i n6),(.i n8)] h (λa0 O=>A.k9 a0 (λn12=>A.cd .neq n12 0 ( K [(.i 0),(.i 0),(.i 0),(.i 1)] O) ( A.cd .eql n6 1 ( A.ari .mul .i64 2 n8 (λn16=>K [(.i 4),(.i n16),(.i 0),(.i 0)] O)) ( A.cd .eql n6 2 ( A.ari .mul .i64 2 n8 (λn18=>K [(.i 6),(.i 0),(.i n18),(.i 0)] O)) ( A.cd .eql n6 3 ( K [(.i 5),(.i n8),(.i n8),(.i 0)] O) ( A.ari .sub .i64 0 n8 (λn20=>K [(.i 7),(.i n20),(.i n8),(.i 0)] O))))))))
def f70(ls:List Lf)(h:HT)(K:List Lf->HT->R):R:=A.k8 ls (λn6 n8=>A.cd .lss n6 (-65536) ( K [(.i 1)] h) ( A.cd .gtr n6 65536 ( K [(.i 1)] h) ( A.cd .lss n8 (-65536) ( K [(.i 1)] h) ( A.cd .gtr n8 65536 ( K [(.i 1)] h) ( K [(.i 0)] h)))))
def f71(ls:List Lf)(h:HT)(K:List Lf->HT->R):R:=A.k6 ls (λn6 n8 n10=>A.cd .eql n6 1 ( K [(.i n8)] h) ( A.cd .eql n6 2 ( K [(.i n10)] h) ( A.cd .eql n6 3 ( A.ari .add .i64 n8 n10 (λn15=>K [(.i n15)] h)) ( A.ari .sub .i64 n10 n8 (λn16=>K [(.i n16)] h)))))
def f72(ls:List Lf)(h:HT)(K:List Lf->HT->R):R:=A.k8 ls (λn6 n8=>A.cd .lss n6 1 ( K [(.i 1)] h) ( A.cd .gtr n6 4 ( K [(.i 1)] h) ( A.cd .lss n8 (-4096) ( K [(.i 1)] h) ( A.cd .gtr n8 4096 ( K [(.i 1)] h) ( K [(.i 0)] h)))))
def f73(ls:List Lf)(h:HT)(K:List Lf->HT->R):R:=A.k9 ls (λn6=>A.join (λa0 a1=>A.k10 a0 (λa2=>K [(.b a2)] a1)) (λO=>A.cd .lss n6 (-16384) ( O [(.b true)] h) ( A.cmp .gtr n6 16384 (λa3=>O [(.b a3)] h))))
def f74(ls:List Lf)(h:HT)(K:List Lf->HT->R):R:=A.k1 ls (λn6 n8 x10=>A.opt (lenS x10) (λa6=>A.new (.map [] 0) h (λa0 a1=>A.opt (lenS x10) (λx15=>A.loop (λa2 a3 O=>A.k9 a3 (λn19=>A.cd .lss n19 x15 ( A.ix 3 x10 n19 3 O (λa4=>A.k16 a4 (λn24 n26 n28=>A.heap (.fn (muG cc 35 (.map (some a0)) (.agg ⟨[(.int .i64 n24),(.int .u8 n26)]⟩) (.bool true))) O (λa7 a5=>A.ari .add .i64 n19 1 (λn32=>a2 [(.i n32)] a5))))) ( K [(.v (.map (some a0)))] O))) [(.i 0)] a1))))
def f75(ls:List Lf)(h:HT)(K:List Lf->HT->R):R:=A.k8 ls (λn6 n8=>A.call 39 [(.i n6),(.i n8)] h (λa0 O=>A.k9 a0 (λn12=>A.cd .neq n12 0 ( K [(.i 0)] O) ( A.ari .mul .i64 4 n6 (λn15=>A.ari .mul .i64 n15 n8 (λn16=>K [(.i n16)] O))))))
def f76(ls:List Lf)(h:HT)(K:List Lf->HT->R):R:=A.unI ls (λn6 a6=>A.unI a6 (λn8 a7=>A.unV a7 (λx10 a8=>A.unV a8 (λa9 b0=>A.k2 b0 (λa1=>A.opt (fdP 0 x10) (λa2=>A.chk a2 ( A.peek (.lg cc 2 a2) h (λb1=>A.k13 b1 (λn18 n20=>A.call 43 [(.i n18),(.i n20),(.i n6),(.i n8)] h (λb2 O=>A.k6 b2 (λn24 n26 n28=>A.peek (.lg cc 1 a9) O (λb3=>A.ucV b3 (λa3 b4=>A.chk a3 ( A.uc0 b4 ( A.peek (.fn (luG cc 35 false (.bool false) a3 (.agg ⟨[(.int .i64 n24),(.int .u8 n26)]⟩) false)) O (λb5=>A.ucB b5 (λb6 b7=>A.uc0 b7 ( A.cond (!b6) ( A.peek (.lg cc 1 a1) O (λb8=>A.ucV b8 (λa4 b9=>A.chk a4 ( A.uc0 b9 ( A.ix 3 a4 n6 3 O (λc0=>A.k15 c0 (λn41 n43 n45=>K [(.i n41),(.i n43),(.i n45)] O))))))) ( A.opt (fdP 0 x10) (λx47=>A.chk x47 ( A.peek (.lg cc 2 x47) O (λc1=>A.k13 c1 (λn49 n51=>A.call 77 [(.i n49),(.i n51),(.i n24),(.i n26)] O (λd0 d1=>A.k6 d0 (λn55 n57 n59=>A.call 69 [(.i n55),(.i n57)] d1 (λd2 a0=>A.k5 d2 (λn63 n65 n67 n69=>A.peek (.lg cc 1 a1) a0 (λd3=>A.ucV d3 (λa5 d4=>A.chk a5 ( A.uc0 d4 ( A.ix 3 a5 n6 3 a0 (λd5=>A.k15 d5 (λn76 n78 n80=>A.call 53 [(.i n63),(.i n65),(.i n67),(.i n76),(.i n78),(.i n80)] a0 (λd6 d7=>A.k5 d6 (λn84 n86 n88 n90=>K [(.i n84),(.i n86),(.i n88)] d7)))))))))))))))))))))))))))))))))))
def f77(ls:List Lf)(h:HT)(K:List Lf->HT->R):R:=A.k5 ls (λn6 n8 n10 n12=>A.call 101 [(.i n6),(.i n8),(.i n10),(.i n12)] h (λa0 O=>A.k5 a0 (λn16 n18 n20 n22=>A.cd .neq n22 0 ( K [(.i 0),(.i 0),(.i n22)] O) ( A.call 102 [(.i n16),(.i n18),(.i n20),(.i n12)] O (λa1 a2=>A.k6 a1 (λn27 n29 n31=>K [(.i n27),(.i n29),(.i n31)] a2))))))
def f78(ls:List Lf)(h:HT)(K:List Lf->HT->R):R:=A.k6 ls (λn6 n8 n10=>A.join (λa0 a1=>A.k10 a0 (λa2=>K [(.b a2)] a1)) (λO=>A.cd .geq n10 0 ( A.ari .mul .i64 4 n6 (λn18=>A.ari .mul .i64 n18 n8 (λn19=>A.cmp .lss n10 n19 (λa3=>O [(.b a3)] h)))) ( O [(.b false)] h)))
def f79(ls:List Lf)(h:HT)(K:List Lf->HT->R):R:=A.k6 ls (λn6 n8 n10=>A.ari .quo .i64 n10 4 (λn12=>A.ari .rem .i64 n12 n6 (λn13=>A.ari .quo .i64 n10 4 (λO=>A.ari .quo .i64 O n6 (λn15=>A.ari .rem .i64 n10 4 (λn16=>A.conv .u8 n16 (λn17=>K [(.i n13),(.i n15),(.i n17)] h)))))))
def f80(ls:List Lf)(h:HT)(K:List Lf->HT->R):R:=A.k12 ls (λn6 n8 n10 n12 O n16=>A.ari .mul .i64 n6 O (λn18=>A.ari .mul .i64 n8 n16 (λn19=>A.ari .add .i64 n18 n19 (λn20=>A.ari .mul .i64 n10 O (λn21=>A.ari .mul .i64 n12 n16 (λn22=>A.ari .add .i64 n21 n22 (λn23=>K [(.i n20),(.i n23)] h)))))))
def f81(ls:List Lf)(h:HT)(K:List Lf->HT->R):R:=A.k6 ls (λn6 n8 n10=>A.call 50 [(.i n6),(.i n8),(.i n10)] h (λa0 O=>A.k9 a0 (λa1=>A.cd .neq a1 0 ( K [(.i 0),(.i 0),(.i 0),(.i 3)] O) ( K [(.i n6),(.i n8),(.i n10),(.i 0)] O))))
def f82(ls:List Lf)(h:HT)(K:List Lf->HT->R):R:=A.k5 ls (λn6 n8 n10 n12=>A.loop (λa0 a1 O=>A.k9 a1 (λn17=>A.cd .lss n17 8 ( A.opt (inB 8 n17) (λx20=>A.opt (cF [(.i 1),(.i 0),(.i 0),(.i 1),(.i 0),(.i (-1)),(.i 1),(.i 0),(.i (-1)),(.i 0),(.i 0),(.i (-1)),(.i 0),(.i 1),(.i (-1)),(.i 0),(.i (-1)),(.i 0),(.i 0),(.i 1),(.i 0),(.i (-1)),(.i (-1)),(.i 0),(.i 1),(.i 0),(.i 0),(.i (-1)),(.i 0),(.i 1),(.i 1),(.i 0)] 0 [(n17,4)] 4) (λa2=>A.k5 a2 (λn22 n24 n26 n28=>A.eqs [((.i n22),(.i n6)),((.i n24),(.i n8)),((.i n26),(.i n10)),((.i n28),(.i n12))] (λa3=>A.cond a3 ( A.conv .u8 n17 (λn31=>K [(.i n31)] O)) ( A.ari .add .i64 n17 1 (λn32=>a0 [(.i n32)] O))))))) ( K [(.i 0)] O))) [(.i 0)] h)
def f83(ls:List Lf)(h:HT)(K:List Lf->HT->R):R:=A.unI ls (λn6 a0=>A.unI a0 (λn8 a1=>A.k12 a1 (λn10 n12 O n16 n18 n20=>A.call 80 [(.i O),(.i n16),(.i n18),(.i n20),(.i n6),(.i n10)] h (λa2 a3=>A.k8 a2 (λn24 n26=>A.call 80 [(.i O),(.i n16),(.i n18),(.i n20),(.i n8),(.i n12)] a3 (λa4 a5=>A.k8 a4 (λn30 n32=>K [(.i n24),(.i n30),(.i n26),(.i n32)] a5)))))))
def f84(ls:List Lf)(h:HT)(K:List Lf->HT->R):R:=A.k6 ls (λn6 n8 n10=>A.cd .lss n6 (-4096) ( K [(.i 1)] h) ( A.cd .gtr n6 4096 ( K [(.i 1)] h) ( A.cd .lss n8 (-4096) ( K [(.i 1)] h) ( A.cd .gtr n8 4096 ( K [(.i 1)] h) ( A.cd .gtr n10 3 ( K [(.i 1)] h) ( K [(.i 0)] h))))))
def f85(ls:List Lf)(h:HT)(K:List Lf->HT->R):R:=A.k12 ls (λn6 n8 n10 n12 a1 n16=>A.call 103 [(.i n12),(.i a1),(.i n16)] h (λa2 a3=>A.k8 a2 (λn20 n22=>A.opt (inB 4 n16) (λx24=>A.opt (lY gl1 0 [(n16,17)] 2) (λx25=>A.k13 x25 (λn26 n28=>A.call 104 [(.i n6),(.i n8),(.i n10),(.i n20),(.i n22)] a3 (λa4 a5=>A.k6 a4 (λn32 n34 n36=>A.call 104 [(.i n6),(.i 0),(.i 0),(.i n26),(.i n28)] a5 (λa6 a7=>A.k6 a6 (λn40 n42 n44=>A.ari .and .i64 n32 1 (λn46=>A.ari .sub .i64 n32 n46 (λn47=>A.ari .quo .i64 n47 2 (λn48=>A.ari .and .i64 n34 1 (λn49=>A.ari .sub .i64 n34 n49 (λn50=>A.ari .quo .i64 n50 2 (λn51=>A.loop (λa8 a9 O=>A.k5 a9 (λn55 n57 n59 n61=>A.cd .lss n55 4 ( A.opt (inB 4 n55) (λd2=>A.opt (cF [(.i 0),(.i (-1)),(.i 2),(.i 0),(.i 0),(.i (-1)),(.i 2),(.i 0),(.i 0),(.i 1),(.i 0),(.i 0),(.i 3),(.i 0),(.i 0),(.i 2),(.i 0),(.i 1),(.i 0),(.i 1),(.i 1),(.i 1),(.i 0),(.i 3),(.i 0),(.i 0),(.i 0),(.i 0),(.i 0),(.i 2),(.i 2),(.i 2),(.i 2),(.i 0),(.i 0),(.i 1),(.i 2),(.i 1),(.i 0),(.i 1),(.i 0),(.i 0),(.i 0),(.i 3),(.i 0),(.i 0),(.i 1),(.i 2),(.i 2),(.i 0),(.i 2),(.i (-1)),(.i 0),(.i 1),(.i 0),(.i (-1)),(.i 0),(.i 1),(.i 0),(.i 0),(.i 2),(.i 0),(.i 0),(.i 0),(.i 0),(.i 0),(.i 0),(.i 2)] 0 [(n55,17)] 17) (λx65=>A.unI x65 (λn66 b0=>A.unI b0 (λn68 b1=>A.unI b1 (λn70 b2=>A.unI b2 (λn72 b3=>A.unI b3 (λn74 b4=>A.unI b4 (λn76 b5=>A.unI b5 (λn78 b6=>A.unI b6 (λn80 b7=>A.unI b7 (λn82 b8=>A.unI b8 (λn84 b9=>A.unI b9 (λn86 c0=>A.k12 c0 (λn88 n90 n92 n94 n96 n98=>A.eqs [((.i n66),(.i n40)),((.i n68),(.i n42))] (λc1=>A.join (λd0 d1=>A.k6 d0 (λn103 n105 n107=>A.ari .add .i64 n55 1 (λn109=>a8 [(.i n109),(.i n103),(.i n105),(.i n107)] d1))) (λa0=>A.cond c1 ( A.conv .u8 n55 (λn111=>a0 [(.i n57),(.i n59),(.i n111)] O)) ( a0 [(.i n57),(.i n59),(.i n61)] O)))))))))))))))))) ( K [(.i n57),(.i n59),(.i n61)] O))) [(.i 0),(.i n48),(.i n51),(.i 0)] a7))))))))))))))))
def f86(ls:List Lf)(h:HT)(K:List Lf->HT->R):R:=A.k8 ls (λn6 n8=>A.call 105 [(.i n6),(.i n8)] h (λa2 a3=>A.k0 a2 (λO b2=>A.opt (lenS O) (λb3=>A.new (.map [] 0) a3 (λa1 a4=>A.opt (lenS O) (λa5=>A.loop (λa6 a7 a0=>A.k9 a7 (λn23=>A.cd .lss n23 a5 ( A.ix 2 O n23 2 a0 (λa8=>A.k3 a8 (λn28 n30=>A.call 106 [(.i n6),(.i n8),(.i n28),(.i n30)] a0 (λa9 b0=>A.k5 a9 (λn34 n36 n38 n40=>A.heap (.fn (muG cc 205 (.map (some a1)) (.agg ⟨[(.int .u8 n34),(.int .i64 n36),(.int .i64 n38)]⟩) (.agg ⟨[(.int .i64 n28),(.int .u8 n30),(.int .i64 n40)]⟩))) b0 (λb4 b1=>A.ari .add .i64 n23 1 (λn44=>a6 [(.i n44)] b1))))))) ( K [(.v (.map (some a1)))] a0))) [(.i 0)] a4))))))
def f87(ls:List Lf)(h:HT)(K:List Lf->HT->R):R:=A.unV ls (λx6 a3=>A.k14 a3 (λn8 n10 n12 a0 n16=>A.call 107 [(.i n8),(.i n10),(.i n12),(.i a0),(.i n16)] h (λa4 a1=>A.k10 a4 (λa5=>A.cond (!a5) ( K [(.v (.slice none 0 0)),(.i 1)] a1) ( A.loop (λa6 a7 O=>A.k0 a7 (λx25 n27=>A.cd .neq n27 n16 ( A.peek (.fn (luG cc 205 true (.agg ⟨[(.int .i64 0),(.int .u8 0),(.int .i64 0)]⟩) x6 (.agg ⟨[(.int .u8 n10),(.int .i64 n12),(.int .i64 n27)]⟩) true)) O (λa8=>A.ucI .i64 a8 (λn31 a9=>A.ucI .u8 a9 (λn33 b0=>A.ucI .i64 b0 (λn35 b1=>A.ucB b1 (λb2 b3=>A.uc0 b3 ( A.cond (!b2) ( K [(.v (.slice none 0 0)),(.i 7)] O) ( A.cd .gtr n35 n16 ( K [(.v (.slice none 0 0)),(.i 7)] O) ( A.new (.cells [(.int .i64 n31),(.int .u8 n33)] 2 true) O (λb4 b5=>A.heap (.ap cc 2 16 x25 (.slice (some ⟨b4,0,(some 12)⟩) 1 2)) b5 (λb6 b7=>A.ucV b6 (λa2 b8=>A.chk a2 ( A.uc0 b8 ( a6 [(.v a2),(.i n35)] b7)))))))))))))) ( A.call 108 [(.v x25)] O (λb9 c0=>A.k2 b9 (λx48=>K [(.v x48),(.i 0)] c0))))) [(.v (.slice none 0 0)),(.i a0)] a1)))))
def f88(ls:List Lf)(h:HT)(K:List Lf->HT->R):R:=A.unV ls (λx6 O=>A.k2 O (λa0=>A.opt (lenS x6) (λx10=>A.conv .u64 x10 (λn11=>A.call 100 [(.i n11)] h (λa1 a2=>A.k9 a1 (λa3=>A.call 109 [(.v x6),(.i 0),(.i x10),(.i a3),(.v a0)] a2 (λa4 a5=>A.un0 a4 ( K [] a5))))))))
def f89(ls:List Lf)(h:HT)(K:List Lf->HT->R):R:=A.k12 ls (λn6 n8 n10 n12 O n16=>A.conv .i64 n8 (λn18=>A.conv .i64 O (λn19=>A.new (.cells [(.int .i64 n6),(.int .i64 n12),(.int .i64 n18),(.int .i64 n19)] 2 true) h (λa0 a1=>A.call 90 [(.v (.slice (some ⟨a0,0,(some 12)⟩) 2 3))] a1 (λa2 a3=>A.k9 a2 (λn24=>K [(.i n24)] a3))))))
def f90(ls:List Lf)(h:HT)(K:List Lf->HT->R):R:=A.k2 ls (λx6=>A.opt (lenS x6) (λa1=>A.loop (λa2 a3 O=>A.k9 a3 (λn12=>A.cd .lss n12 a1 ( A.ix 2 x6 n12 2 O (λa4=>A.k13 a4 (λn17 n19=>A.call 110 [(.i n17),(.i n19)] O (λa5 a0=>A.k9 a5 (λn23=>A.cd .neq n23 0 ( K [(.i n23)] a0) ( A.ari .add .i64 n12 1 (λn26=>a2 [(.i n26)] a0))))))) ( K [(.i 0)] O))) [(.i 0)] h))
def f91(ls:List Lf)(h:HT)(K:List Lf->HT->R):R:=A.k2 ls (λx6=>A.opt (lenS x6) (λO=>A.opt (lenS x6) (λa0=>A.opt (slS 3 x6 none (some O) (some a0)) (λx10=>A.chk x10 ( K [(.v x10)] h)))))
def f92(ls:List Lf)(h:HT)(K:List Lf->HT->R):R:=A.k5 ls (λn6 n8 n10 n12=>A.call 84 [(.i n6),(.i n8),(.i n10)] h (λa1 O=>A.k9 a1 (λn16=>A.cd .neq n16 0 ( K [(.i 0),(.i 0),(.i 0),(.i 1)] O) ( A.cd .gtr n12 2 ( K [(.i 0),(.i 0),(.i 0),(.i 1)] O) ( A.opt (inB 4 n10) (λx20=>A.opt (inB 3 n12) (λa4=>A.opt (lY gl1 4 [(n10,17),(n12,3)] 3) (λx22=>A.ucI .i64 x22 (λn23 a2=>A.k3 a2 (λn25 n27=>A.ari .add .i64 n23 n6 (λn29=>A.ari .add .i64 n25 n8 (λn30=>A.call 84 [(.i n29),(.i n30),(.i n27)] O (λa3 a0=>A.k9 a3 (λn33=>A.cd .neq n33 0 ( K [(.i 0),(.i 0),(.i 0),(.i 3)] a0) ( K [(.i n29),(.i n30),(.i n27),(.i 0)] a0)))))))))))))))
def f93(ls:List Lf)(h:HT)(K:List Lf->HT->R):R:=A.k14 ls (λn6 n8 n10 n12 a0=>A.call 39 [(.i n6),(.i n8)] h (λa2 a1=>A.k9 a2 (λn18=>A.cd .neq n18 0 ( K [(.i 0),(.i n18)] a1) ( A.call 84 [(.i n10),(.i n12),(.i a0)] a1 (λa3 O=>A.k9 a3 (λn23=>A.cd .neq n23 0 ( K [(.i 0),(.i 7)] O) ( A.cd .lss n10 0 ( K [(.i 0),(.i 7)] O) ( A.cd .geq n10 n6 ( K [(.i 0),(.i 7)] O) ( A.cd .lss n12 0 ( K [(.i 0),(.i 7)] O) ( A.cd .geq n12 n8 ( K [(.i 0),(.i 7)] O) ( A.ari .mul .i64 n12 n6 (λn30=>A.ari .add .i64 n30 n10 (λn31=>A.ari .mul .i64 4 n31 (λn32=>A.conv .i64 a0 (λn33=>A.ari .add .i64 n32 n33 (λn34=>K [(.i n34),(.i 0)] O))))))))))))))))
def f94(ls:List Lf)(h:HT)(K:List Lf->HT->R):R:=A.unV ls (λx6 d2=>A.unV d2 (λO d3=>A.k2 d3 (λx10=>A.opt (fdP 0 O) (λa5=>A.chk a5 ( A.peek (.lg cc 1 a5) h (λd4=>A.k11 d4 (λd5=>A.ari .quo .i64 d5 2 (λn16=>A.opt (fdP 1 O) (λa6=>A.chk a6 ( A.peek (.lg cc 1 a6) h (λd6=>A.k11 d6 (λn19=>A.ari .quo .i64 n19 2 (λn21=>A.opt (fdP 0 O) (λx22=>A.chk x22 ( A.peek (.lg cc 1 x22) h (λd7=>A.k11 d7 (λn24=>A.ari .rem .i64 n24 2 (λn26=>A.cmp .neq n26 0 (λd8=>A.join (λd9 e0=>A.k6 d9 (λn30 n32 n34=>A.loop (λa7 e1 a8=>A.k5 e1 (λn39 n41 n43 n45=>A.peek (.lg cc 2 x10) a8 (λe2=>A.k13 e2 (λn48 n50=>A.call 93 [(.i n48),(.i n50),(.i n41),(.i n43),(.i n45)] a8 (λf0 f1=>A.k8 f0 (λn54 n56=>A.loop (λf2 g0 a1=>A.k14 g0 (λn61 n63 n65 n67 n69=>A.cd .lss n63 3 ( A.join (λg1 g2=>A.k5 g1 (λn74 n76 n78 n80=>A.ari .add .u8 n63 1 (λn82=>f2 [(.i n74),(.i n82),(.i n76),(.i n78),(.i n80)] g2))) (λa2=>A.peek (.lg cc 2 O) a1 (λg3=>A.k13 g3 (λn85 n87=>A.call 95 [(.i n65),(.i n67),(.i n69),(.i n63),(.i n85),(.i n87)] a1 (λg4 a0=>A.k10 g4 (λg5=>A.cond (!g5) ( a2 [(.i n61),(.i n65),(.i n67),(.i n69)] a0) ( A.cd .eql n63 n61 ( a2 [(.i n61),(.i n65),(.i n67),(.i n69)] a0) ( A.cd .eql n61 3 ( A.peek (.lg cc 2 O) a0 (λg6=>A.k13 g6 (λn96 n98=>A.call 96 [(.i n65),(.i n67),(.i n69),(.i n63),(.i n96),(.i n98)] a0 (λg7 a9=>A.k10 g7 (λg8=>A.join (λg9 b0=>A.un0 g9 ( A.peek (.lg cc 2 x10) b0 (λh0=>A.k13 h0 (λn107 n109=>A.call 43 [(.i n107),(.i n109),(.i n54),(.i n63)] b0 (λh1 a3=>A.k6 h1 (λn113 n115 l8=>A.peek (.lg cc 2 x10) a3 (λh2=>A.k13 h2 (λh3 h4=>A.peek (.lg cc 2 O) a3 (λh5=>A.k13 h5 (λn125 n127=>A.call 97 [(.i h3),(.i h4),(.i n113),(.i n115),(.i n125),(.i n127)] a3 (λh6 h7=>A.k9 h6 (λh8=>A.callv x6 [(.int .i64 n54),(.agg ⟨[(.int .i64 h8),(.int .i64 n113),(.int .u8 n115)]⟩)] [(.leaf .b)] h7 (λh9 b1=>A.k10 h9 (λi0=>A.cond (!i0) ( K [] b1) ( A.call 92 [(.i n65),(.i n67),(.i n69),(.i n63)] b1 (λi1 b2=>A.k5 i1 (λb3 b4 b5 l9=>A.eqs [((.i b3),(.i n30)),((.i b4),(.i n32)),((.i b5),(.i n34))] (λi2=>A.cond i2 ( K [] b2) ( a7 [(.i n63),(.i b3),(.i b4),(.i b5)] b2))))))))))))))))))) (λj0=>A.cond (!g8) ( a2 [(.i n61),(.i n65),(.i n67),(.i n69)] a9) ( j0 [] a9))))))) ( A.peek (.lg cc 2 x10) a0 (λj1=>A.k13 j1 (λj2 j3=>A.call 43 [(.i j2),(.i j3),(.i n54),(.i n63)] a0 (λj4 a4=>A.k6 j4 (λb6 b7 m0=>A.peek (.lg cc 2 x10) a4 (λj5=>A.k13 j5 (λj6 j7=>A.peek (.lg cc 2 O) a4 (λj8=>A.k13 j8 (λj9 l0=>A.call 97 [(.i j6),(.i j7),(.i b6),(.i b7),(.i j9),(.i l0)] a4 (λl1 l2=>A.k9 l1 (λl3=>A.callv x6 [(.int .i64 n54),(.agg ⟨[(.int .i64 l3),(.int .i64 b6),(.int .u8 b7)]⟩)] [(.leaf .b)] l2 (λl4 b8=>A.k10 l4 (λl5=>A.cond (!l5) ( K [] b8) ( A.call 92 [(.i n65),(.i n67),(.i n69),(.i n63)] b8 (λl6 b9=>A.k5 l6 (λc0 c1 d0 m1=>A.eqs [((.i c0),(.i n30)),((.i c1),(.i n32)),((.i d0),(.i n34))] (λl7=>A.cond l7 ( K [] b9) ( a7 [(.i n63),(.i c0),(.i c1),(.i d0)] b9)))))))))))))))))))))))))) ( K [] a1))) [(.i n39),(.i 0),(.i n41),(.i n43),(.i n45)] f1)))))) [(.i 3),(.i n30),(.i n32),(.i n34)] e0)) (λd1=>A.cond d8 ( d1 [(.i n16),(.i n21),(.i 2)] h) ( d1 [(.i n16),(.i n21),(.i 0)] h)))))))))))))))))))))
def f95(ls:List Lf)(h:HT)(K:List Lf->HT->R):R:=A.k12 ls (λn6 n8 n10 n12 O n16=>A.call 111 [(.i n6),(.i n8),(.i n10)] h (λa0 a1=>A.unI a0 (λn20 a2=>A.k12 a2 (λn22 n24 n26 n28 n30 n32=>A.opt (inB 3 n12) (λa5=>A.opt (cF [(.i n20),(.i n22),(.i n24),(.i n26),(.i n28),(.i n30)] 0 [(n12,2)] 2) (λa3=>A.k8 a3 (λn36 n38=>A.eqs [((.i n36),(.i O)),((.i n38),(.i n16))] (λa4=>K [(.b (!a4))] a1))))))))
def f96(ls:List Lf)(h:HT)(K:List Lf->HT->R):R:=A.k12 ls (λn6 n8 n10 n12 O n16=>A.ari .rem .i64 O 2 (λn18=>A.cd .neq n18 0 ( A.cmp .eql n12 1 (λa0=>K [(.b a0)] h)) ( A.cmp .eql n12 2 (λa1=>K [(.b a1)] h))))
def f97(ls:List Lf)(h:HT)(K:List Lf->HT->R):R:=A.k12 ls (λn6 n8 n10 n12 O n16=>A.call 112 [(.i n6),(.i n8),(.i n10),(.i n12)] h (λa2 a0=>A.k14 a2 (λn20 n22 n24 n26 n28=>A.eqs [((.i n20),(.i O)),((.i n22),(.i n16))] (λa3=>A.join (λa4 a5=>A.k8 a4 (λn33 n35=>A.ari .sub .i64 n33 O (λn37=>A.call 113 [(.i n37)] a5 (λa6 a7=>A.k9 a6 (λn40=>A.ari .sub .i64 n35 n16 (λn42=>A.call 113 [(.i n42)] a7 (λa8 a9=>A.k9 a8 (λn45=>A.opt (cv cc 222 ⟨2,0,(some 1)⟩ none none none []) (λx47=>A.chk x47 ( A.call 114 [(.v x47),(.i n40),(.i n45)] a9 (λb0 b1=>A.k9 b0 (λn50=>K [(.i n50)] b1)))))))))))) (λa1=>A.cond a3 ( a1 [(.i n24),(.i n26)] a0) ( a1 [(.i n20),(.i n22)] a0))))))
def f98(ls:List Lf)(h:HT)(K:List Lf->HT->R):R:=A.unI ls (λn6 a1=>A.unI a1 (λn8 a2=>A.unV a2 (λx10 a3=>A.k8 a3 (λn12 a4=>A.call 20 [(.i n6),(.i n8),(.v x10)] h (λa5 O=>A.k9 a5 (λn18=>A.cd .neq n18 0 ( K [(.i 0),(.i 0),(.i 0),(.b false),(.i n18)] O) ( A.call 43 [(.i n6),(.i n8),(.i n12),(.i a4)] O (λa6 a0=>A.k6 a6 (λn23 n25 n27=>A.cd .neq n27 0 ( K [(.i 0),(.i 0),(.i 0),(.b false),(.i n27)] a0) ( A.call 115 [(.v x10),(.i n23),(.i n25)] a0 (λa7 a8=>A.unI a7 (λn32 a9=>A.k10 a9 (λb0=>K [(.i n23),(.i n25),(.i n32),(.b b0),(.i 0)] a8)))))))))))))
def f99(ls:List Lf)(h:HT)(K:List Lf->HT->R):R:=A.unV ls (λx6 g9=>A.unI g9 (λn8 h0=>A.k1 h0 (λn10 n12 O=>A.loop (λh1 h2 a7=>A.unI h2 (λn19 h3=>A.unI h3 (λn21 h4=>A.unB h4 (λa8 h5=>A.unB h5 (λa6 h6=>A.k9 h6 (λn27=>A.join (λh7 h8=>A.unI h7 (λn31 h9=>A.unI h9 (λn33 i0=>A.unB i0 (λi1 i2=>A.unB i2 (λj0 j1=>A.k9 j1 (λn39=>h1 [(.i n31),(.i n33),(.b i1),(.b j0),(.i n39)] h8)))))) (λa1=>A.ari .sub .i64 n27 n21 (λn42=>A.cd .leq n42 12 ( A.call 116 [(.v x6),(.i n21),(.i n27),(.v O)] a7 (λj2 j3=>A.un0 j2 ( K [] j3))) ( A.cd .eql n19 0 ( A.call 117 [(.v x6),(.i n21),(.i n27),(.v O)] a7 (λj4 j5=>A.un0 j4 ( K [] j5))) ( A.join (λj6 j7=>A.k9 j6 (λn51=>A.call 119 [(.v x6),(.i n21),(.i n27),(.v O)] j7 (λj8 b2=>A.k8 j8 (λn55 n57=>A.cmp .eql n57 2 (λj9=>A.join (λl0 a0=>A.k8 l0 (λn62 n64=>A.cond a6 ( A.cond a8 ( A.cmp .eql n64 1 (λl1=>A.join (λl2 a9=>A.un0 l2 ( A.cd .gtr n21 0 ( A.ari .sub .i64 n21 1 (λn70=>A.ix 2 x6 n70 2 a9 (λl3=>A.k3 l3 (λn73 n75=>A.ix 2 x6 n62 2 a9 (λl4=>A.k3 l4 (λn79 n81=>A.callv O [(.agg ⟨[(.int .i64 n73),(.int .u8 n75)]⟩),(.agg ⟨[(.int .i64 n79),(.int .u8 n81)]⟩)] [(.leaf (.i .i64))] a9 (λl5 b3=>A.k9 l5 (λn85=>A.cmp .lss n85 0 (λl6=>A.join (λl7 l8=>A.k9 l7 (λn90=>A.call 123 [(.v x6),(.i n90),(.i n27),(.i n62),(.v O)] l8 (λl9 b4=>A.unI l9 (λn94 m0=>A.k10 m0 (λm1=>A.ari .sub .i64 n94 n90 (λn98=>A.ari .sub .i64 n27 n94 (λn99=>A.ari .quo .i64 n42 8 (λn100=>A.cmp .lss n98 n99 (λm2=>A.join (λm3 m4=>A.k7 m3 (λm5 n106 n108=>a1 [(.i n51),(.i n106),(.b m1),(.b m5),(.i n108)] m4)) (λb5=>A.cond m2 ( A.cmp .geq n98 n100 (λm6=>A.call 99 [(.v x6),(.i n90),(.i n94),(.i n51),(.v O)] b4 (λm7 m8=>A.un0 m7 ( A.ari .add .i64 n94 1 (λn114=>b5 [(.b m6),(.i n114),(.i n27)] m8))))) ( A.cmp .geq n99 n100 (λm9=>A.ari .add .i64 n94 1 (λn116=>A.call 99 [(.v x6),(.i n116),(.i n27),(.i n51),(.v O)] b4 (λn0 n1=>A.un0 n0 ( b5 [(.b m9),(.i n90),(.i n94)] n1))))))))))))))) (λn2=>A.cond (!l6) ( A.call 122 [(.v x6),(.i n21),(.i n27),(.i n62),(.v O)] b3 (λo0 o1=>A.k9 o0 (λo2=>a1 [(.i n51),(.i o2),(.b a8),(.b a6),(.i n27)] o1))) ( n2 [(.i n21)] b3))))))))))) ( A.call 123 [(.v x6),(.i n21),(.i n27),(.i n62),(.v O)] a9 (λo3 b6=>A.unI o3 (λn126 o4=>A.k10 o4 (λo5=>A.ari .sub .i64 n126 n21 (λb7=>A.ari .sub .i64 n27 n126 (λb8=>A.ari .quo .i64 n42 8 (λb9=>A.cmp .lss b7 b8 (λo6=>A.join (λo7 o8=>A.k7 o7 (λo9 n138 p0=>a1 [(.i n51),(.i n138),(.b o5),(.b o9),(.i p0)] o8)) (λc0=>A.cond o6 ( A.cmp .geq b7 b9 (λp1=>A.call 99 [(.v x6),(.i n21),(.i n126),(.i n51),(.v O)] b6 (λp2 p3=>A.un0 p2 ( A.ari .add .i64 n126 1 (λp4=>c0 [(.b p1),(.i p4),(.i n27)] p3))))) ( A.cmp .geq b8 b9 (λp5=>A.ari .add .i64 n126 1 (λp6=>A.call 99 [(.v x6),(.i p6),(.i n27),(.i n51),(.v O)] b6 (λp7 p8=>A.un0 p7 ( c0 [(.b p5),(.i n21),(.i n126)] p8)))))))))))))))) (λc1=>A.cond l1 ( A.call 121 [(.v x6),(.i n21),(.i n27),(.v O)] a0 (λp9 d0=>A.k10 p9 (λq0=>A.cond q0 ( K [] d0) ( c1 [] d0)))) ( c1 [] a0)))) ( A.cd .gtr n21 0 ( A.ari .sub .i64 n21 1 (λq1=>A.ix 2 x6 q1 2 a0 (λq2=>A.k3 q2 (λq3 q5=>A.ix 2 x6 n62 2 a0 (λq6=>A.k3 q6 (λq7 q8=>A.callv O [(.agg ⟨[(.int .i64 q3),(.int .u8 q5)]⟩),(.agg ⟨[(.int .i64 q7),(.int .u8 q8)]⟩)] [(.leaf (.i .i64))] a0 (λr1 d1=>A.k9 r1 (λr2=>A.cmp .lss r2 0 (λr3=>A.join (λr4 r5=>A.k9 r4 (λb0=>A.call 123 [(.v x6),(.i b0),(.i n27),(.i n62),(.v O)] r5 (λr6 d2=>A.unI r6 (λa2 r7=>A.k10 r7 (λr8=>A.ari .sub .i64 a2 b0 (λd3=>A.ari .sub .i64 n27 a2 (λd4=>A.ari .quo .i64 n42 8 (λd5=>A.cmp .lss d3 d4 (λr9=>A.join (λs0 s1=>A.k7 s0 (λs2 s3 s4=>a1 [(.i n51),(.i s3),(.b r8),(.b s2),(.i s4)] s1)) (λd6=>A.cond r9 ( A.cmp .geq d3 d5 (λs5=>A.call 99 [(.v x6),(.i b0),(.i a2),(.i n51),(.v O)] d2 (λs6 s7=>A.un0 s6 ( A.ari .add .i64 a2 1 (λs8=>d6 [(.b s5),(.i s8),(.i n27)] s7))))) ( A.cmp .geq d4 d5 (λs9=>A.ari .add .i64 a2 1 (λt0=>A.call 99 [(.v x6),(.i t0),(.i n27),(.i n51),(.v O)] d2 (λt1 t2=>A.un0 t1 ( d6 [(.b s9),(.i b0),(.i a2)] t2))))))))))))))) (λt3=>A.cond (!r3) ( A.call 122 [(.v x6),(.i n21),(.i n27),(.i n62),(.v O)] d1 (λt4 t5=>A.k9 t4 (λt6=>a1 [(.i n51),(.i t6),(.b a8),(.b a6),(.i n27)] t5))) ( t3 [(.i n21)] d1))))))))))) ( A.call 123 [(.v x6),(.i n21),(.i n27),(.i n62),(.v O)] a0 (λt7 d7=>A.unI t7 (λa3 t9=>A.k10 t9 (λuc=>A.ari .sub .i64 a3 n21 (λd8=>A.ari .sub .i64 n27 a3 (λd9=>A.ari .quo .i64 n42 8 (λe0=>A.cmp .lss d8 d9 (λu0=>A.join (λu1 u2=>A.k7 u1 (λu5 u6 u7=>a1 [(.i n51),(.i u6),(.b uc),(.b u5),(.i u7)] u2)) (λe1=>A.cond u0 ( A.cmp .geq d8 e0 (λu8=>A.call 99 [(.v x6),(.i n21),(.i a3),(.i n51),(.v O)] d7 (λv0 v1=>A.un0 v0 ( A.ari .add .i64 a3 1 (λv2=>e1 [(.b u8),(.i v2),(.i n27)] v1))))) ( A.cmp .geq d9 e0 (λv3=>A.ari .add .i64 a3 1 (λv4=>A.call 99 [(.v x6),(.i v4),(.i n27),(.i n51),(.v O)] d7 (λv5 v6=>A.un0 v5 ( e1 [(.b v3),(.i n21),(.i a3)] v6)))))))))))))))) ( A.cd .gtr n21 0 ( A.ari .sub .i64 n21 1 (λv7=>A.ix 2 x6 v7 2 a0 (λv8=>A.k3 v8 (λv9 w0=>A.ix 2 x6 n62 2 a0 (λw1=>A.k3 w1 (λw2 x0=>A.callv O [(.agg ⟨[(.int .i64 v9),(.int .u8 w0)]⟩),(.agg ⟨[(.int .i64 w2),(.int .u8 x0)]⟩)] [(.leaf (.i .i64))] a0 (λx1 e2=>A.k9 x1 (λx2=>A.cmp .lss x2 0 (λx5=>A.join (λx8 x9=>A.k9 x8 (λb1=>A.call 123 [(.v x6),(.i b1),(.i n27),(.i n62),(.v O)] x9 (λyA f0=>A.unI yA (λa4 yB=>A.k10 yB (λyC=>A.ari .sub .i64 a4 b1 (λf1=>A.ari .sub .i64 n27 a4 (λf2=>A.ari .quo .i64 n42 8 (λg0=>A.cmp .lss f1 f2 (λyD=>A.join (λyE yF=>A.k7 yE (λyG yH yI=>a1 [(.i n51),(.i yH),(.b yC),(.b yG),(.i yI)] yF)) (λg1=>A.cond yD ( A.cmp .geq f1 g0 (λyJ=>A.call 99 [(.v x6),(.i b1),(.i a4),(.i n51),(.v O)] f0 (λyK yL=>A.un0 yK ( A.ari .add .i64 a4 1 (λyM=>g1 [(.b yJ),(.i yM),(.i n27)] yL))))) ( A.cmp .geq f2 g0 (λyN=>A.ari .add .i64 a4 1 (λyO=>A.call 99 [(.v x6),(.i yO),(.i n27),(.i n51),(.v O)] f0 (λyP yQ=>A.un0 yP ( g1 [(.b yN),(.i b1),(.i a4)] yQ))))))))))))))) (λyR=>A.cond (!x5) ( A.call 122 [(.v x6),(.i n21),(.i n27),(.i n62),(.v O)] e2 (λyS yT=>A.k9 yS (λyU=>a1 [(.i n51),(.i yU),(.b a8),(.b a6),(.i n27)] yT))) ( yR [(.i n21)] e2))))))))))) ( A.call 123 [(.v x6),(.i n21),(.i n27),(.i n62),(.v O)] a0 (λyV g2=>A.unI yV (λa5 yW=>A.k10 yW (λyX=>A.ari .sub .i64 a5 n21 (λg3=>A.ari .sub .i64 n27 a5 (λg4=>A.ari .quo .i64 n42 8 (λg5=>A.cmp .lss g3 g4 (λyY=>A.join (λyZ y0=>A.k7 yZ (λy1 y2 y3=>a1 [(.i n51),(.i y2),(.b yX),(.b y1),(.i y3)] y0)) (λg6=>A.cond yY ( A.cmp .geq g3 g5 (λy4=>A.call 99 [(.v x6),(.i n21),(.i a5),(.i n51),(.v O)] g2 (λy5 y6=>A.un0 y5 ( A.ari .add .i64 a5 1 (λy7=>g6 [(.b y4),(.i y7),(.i n27)] y6))))) ( A.cmp .geq g4 g5 (λy8=>A.ari .add .i64 a5 1 (λy9=>A.call 99 [(.v x6),(.i y9),(.i n27),(.i n51),(.v O)] g2 (λza zb=>A.un0 za ( g6 [(.b y8),(.i n21),(.i a5)] zb))))))))))))))))) (λg7=>A.cond j9 ( A.call 120 [(.v x6),(.i n21),(.i n27),(.v O)] b2 (λzc zd=>A.un0 zc ( A.ari .sub .i64 n27 1 (λze=>A.ari .sub .i64 n55 n21 (λzf=>A.ari .sub .i64 ze zf (λzg=>g7 [(.i zg),(.i 1)] zd)))))) ( g7 [(.i n55),(.i n57)] b2))))))) (λg8=>A.cond (!a6) ( A.call 118 [(.v x6),(.i n21),(.i n27),(.v O)] a7 (λzh zi=>A.un0 zh ( A.ari .sub .i64 n19 1 (λzj=>g8 [(.i zj)] zi)))) ( g8 [(.i n19)] a7)))))))))))) [(.i n12),(.i n8),(.b true),(.b true),(.i n10)] h)))
def f100(ls:List Lf)(h:HT)(K:List Lf->HT->R):R:=A.k9 ls (λn6=>A.call 125 [(.i n6)] h (λO a0=>A.k9 O (λn10=>K [(.i n10)] a0)))
def f101(ls:List Lf)(h:HT)(K:List Lf->HT->R):R:=A.k5 ls (λn6 n8 n10 n12=>A.call 39 [(.i n6),(.i n8)] h (λa1 a0=>A.k9 a1 (λn16=>A.cd .neq n16 0 ( K [(.i 0),(.i 0),(.i 0),(.i n16)] a0) ( A.call 43 [(.i n6),(.i n8),(.i n10),(.i n12)] a0 (λa2 O=>A.k6 a2 (λn21 n23 n25=>A.cd .neq n25 0 ( K [(.i 0),(.i 0),(.i 0),(.i 7)] O) ( A.eqs [((.i n21),(.i n10)),((.i n23),(.i n12))] (λa3=>A.cond (!a3) ( K [(.i 0),(.i 0),(.i 0),(.i 7)] O) ( A.call 79 [(.i n6),(.i n8),(.i n10)] O (λa4 a5=>A.k6 a4 (λn31 n33 n35=>K [(.i n31),(.i n33),(.i n35),(.i 0)] a5)))))))))))
def f102(ls:List Lf)(h:HT)(K:List Lf->HT->R):R:=A.k5 ls (λn6 n8 n10 n12=>A.call 84 [(.i n6),(.i n8),(.i n10)] h (λa4 O=>A.k9 a4 (λn16=>A.cd .neq n16 0 ( K [(.i 0),(.i 0),(.i 1)] O) ( A.cd .gtr n12 2 ( K [(.i 0),(.i 0),(.i 1)] O) ( A.opt (inB 4 n10) (λx20=>A.opt (lY gl1 0 [(n10,17)] 17) (λa5=>A.ucI .i64 a5 (λn22 a6=>A.ucI .i64 a6 (λn24 a7=>A.ucI .u8 a7 (λn26 a8=>A.ucI .i64 a8 (λn28 a9=>A.ucI .i64 a9 (λn30 b0=>A.ucI .i64 b0 (λn32 b1=>A.ucI .u8 b1 (λn34 b2=>A.ucI .i64 b2 (λn36 b3=>A.ucI .i64 b3 (λn38 b4=>A.ucI .u8 b4 (λn40 b5=>A.ucI .i64 b5 (λn42 b6=>A.ucI .i64 b6 (λn44 b7=>A.ucI .u8 b7 (λn46 b8=>A.ucI .i64 b8 (λn48 b9=>A.ucI .i64 b9 (λn50 c0=>A.k13 c0 (λn52 n54=>A.ari .add .i64 n6 n28 (λn56=>A.cmp .eql n12 1 (λc1=>A.join (λd0 d1=>A.k8 d0 (λn60 n62=>A.call 72 [(.i n60),(.i n62)] d1 (λd2 a0=>A.k9 d2 (λn66=>A.cd .neq n66 0 ( K [(.i 0),(.i 0),(.i 3)] a0) ( K [(.i n60),(.i n62),(.i 0)] a0))))) (λa1=>A.cond c1 ( A.ari .add .i64 n6 n8 (λn70=>A.ari .add .i64 n70 1 (λn71=>a1 [(.i 3),(.i n71)] O))) ( A.cmp .eql n12 2 (λd3=>A.join (λd4 d5=>A.k8 d4 (λn75 n77=>a1 [(.i n75),(.i n77)] d5)) (λa2=>A.cond d3 ( A.ari .sub .i64 n8 n6 (λn80=>a2 [(.i 4),(.i n80)] O)) ( A.cmp .eql n26 2 (λd6=>A.join (λd7 d8=>A.k8 d7 (λn84 n86=>a2 [(.i n84),(.i n86)] d8)) (λa3=>A.cond d6 ( A.ari .add .i64 n8 n28 (λn89=>a3 [(.i n26),(.i n89)] O)) ( a3 [(.i n26),(.i n56)] O)))))))))))))))))))))))))))))))))
def f103(ls:List Lf)(h:HT)(K:List Lf->HT->R):R:=A.k6 ls (λn6 n8 n10=>A.ari .mul .i64 2 n6 (λn12=>A.ari .add .i64 n12 1 (λn13=>A.ari .mul .i64 2 n8 (λO=>A.ari .add .i64 O 1 (λn15=>K [(.i n13),(.i n15)] h)))))
def f104(ls:List Lf)(h:HT)(K:List Lf->HT->R):R:=A.k14 ls (λn6 n8 n10 n12 O=>A.call 50 [(.i n6),(.i n8),(.i n10)] h (λa3 a0=>A.k9 a3 (λn18=>A.cd .neq n18 0 ( K [(.i 0),(.i 0),(.i 1)] a0) ( A.call 70 [(.i n12),(.i O)] a0 (λa4 a1=>A.k9 a4 (λn23=>A.cd .neq n23 0 ( K [(.i 0),(.i 0),(.i 1)] a1) ( A.opt (inB 8 n6) (λb1=>A.opt (lY gl0 0 [(n6,4)] 4) (λa5=>A.ucI .i64 a5 (λn28 a6=>A.ucI .i64 a6 (λn30 a7=>A.k13 a7 (λn32 n34=>A.call 80 [(.i n28),(.i n30),(.i n32),(.i n34),(.i n12),(.i O)] a1 (λa8 a9=>A.k8 a8 (λn38 n40=>A.ari .mul .i64 2 n8 (λn42=>A.ari .add .i64 n38 n42 (λn43=>A.ari .mul .i64 2 n10 (λn44=>A.ari .add .i64 n40 n44 (λn45=>A.call 70 [(.i n43),(.i n45)] a9 (λb0 a2=>A.k9 b0 (λn48=>A.cd .neq n48 0 ( K [(.i 0),(.i 0),(.i 3)] a2) ( K [(.i n43),(.i n45),(.i 0)] a2)))))))))))))))))))))
def f105(ls:List Lf)(h:HT)(K:List Lf->HT->R):R:=A.k8 ls (λn6 n8=>A.call 39 [(.i n6),(.i n8)] h (λa2 a0=>A.k9 a2 (λn12=>A.cd .neq n12 0 ( K [(.v (.slice none 0 0)),(.i n12)] a0) ( A.new (.cells [(.slice none 0 0)] 1 true) a0 (λa1 a3=>A.call 126 [(.i n6),(.i n8)] a3 (λa4 a5=>A.k2 a4 (λa6=>A.rfun 1680 a6 [(.pointer (some ⟨a1,0,none⟩))] a5 (λa7 O=>A.pend a7 ( A.peek (.lg cc 1 (.pointer (some ⟨a1,0,none⟩))) O (λa8=>A.ucV a8 (λx24 a9=>A.chk x24 ( A.uc0 a9 ( A.call 108 [(.v x24)] O (λb0 b1=>A.k2 b0 (λb2=>K [(.v b2),(.i 0)] b1))))))) ( K [(.v (.slice none 0 0)),(.i 0)] O) []))))))))
def f106(ls:List Lf)(h:HT)(K:List Lf->HT->R):R:=A.k5 ls (λn6 n8 n10 n12=>A.call 77 [(.i n6),(.i n8),(.i n10),(.i n12)] h (λO a0=>A.k6 O (λn16 n18 n20=>A.call 112 [(.i n6),(.i n8),(.i n10),(.i n12)] a0 (λa1 a2=>A.k14 a1 (λn24 n26 n28 n30 n32=>A.call 127 [(.i n16),(.i n24),(.i n26)] a2 (λa3 a4=>A.k9 a3 (λn36=>A.call 127 [(.i n16),(.i n28),(.i n30)] a4 (λa5 a6=>A.k9 a5 (λn40=>K [(.i n16),(.i n18),(.i n36),(.i n40)] a6)))))))))
def f107(ls:List Lf)(h:HT)(K:List Lf->HT->R):R:=A.k14 ls (λn6 n8 n10 n12 a1=>A.join (λa2 a3=>A.k10 a2 (λa4=>K [(.b a4)] a3)) (λO=>A.cd .geq n6 1 ( A.cd .leq n6 3 ( A.call 72 [(.i n8),(.i n10)] h (λa5 a0=>A.k9 a5 (λn25=>A.cd .eql n25 0 ( A.cmp .lss n12 a1 (λa6=>O [(.b a6)] a0)) ( O [(.b false)] a0)))) ( O [(.b false)] h)) ( O [(.b false)] h)))
def f108(ls:List Lf)(h:HT)(K:List Lf->HT->R):R:=A.k2 ls (λx6=>A.opt (lenS x6) (λO=>A.opt (lenS x6) (λa0=>A.opt (slS 2 x6 none (some O) (some a0)) (λx10=>A.chk x10 ( K [(.v x10)] h)))))
def f109(ls:List Lf)(h:HT)(K:List Lf->HT->R):R:=A.unV ls (λx6 g9=>A.unI g9 (λn8 h0=>A.k1 h0 (λn10 n12 O=>A.loop (λh1 h2 a8=>A.unI h2 (λn19 h3=>A.unI h3 (λn21 h4=>A.unB h4 (λa9 h5=>A.unB h5 (λa7 h6=>A.k9 h6 (λn27=>A.join (λh7 h8=>A.unI h7 (λn31 h9=>A.unI h9 (λn33 i0=>A.unB i0 (λi1 i2=>A.unB i2 (λj0 j1=>A.k9 j1 (λn39=>h1 [(.i n31),(.i n33),(.b i1),(.b j0),(.i n39)] h8)))))) (λa1=>A.ari .sub .i64 n27 n21 (λn42=>A.cd .leq n42 12 ( A.call 128 [(.v x6),(.i n21),(.i n27),(.v O)] a8 (λj2 j3=>A.un0 j2 ( K [] j3))) ( A.cd .eql n19 0 ( A.call 129 [(.v x6),(.i n21),(.i n27),(.v O)] a8 (λj4 j5=>A.un0 j4 ( K [] j5))) ( A.join (λj6 j7=>A.k9 j6 (λn51=>A.call 131 [(.v x6),(.i n21),(.i n27),(.v O)] j7 (λj8 b3=>A.k8 j8 (λn55 n57=>A.cmp .eql n57 2 (λj9=>A.join (λl0 a0=>A.k8 l0 (λn62 n64=>A.cond a7 ( A.cond a9 ( A.cmp .eql n64 1 (λl1=>A.join (λl2 b0=>A.un0 l2 ( A.cd .gtr n21 0 ( A.ari .sub .i64 n21 1 (λn70=>A.ix 3 x6 n70 3 b0 (λl3=>A.k16 l3 (λn73 n75 n77=>A.ix 3 x6 n62 3 b0 (λl4=>A.k16 l4 (λn81 n83 n85=>A.callv O [(.agg ⟨[(.int .i64 n73),(.int .u8 n75),(.int .u8 n77)]⟩),(.agg ⟨[(.int .i64 n81),(.int .u8 n83),(.int .u8 n85)]⟩)] [(.leaf (.i .i64))] b0 (λl5 b4=>A.k9 l5 (λn89=>A.cmp .lss n89 0 (λl6=>A.join (λl7 l8=>A.k9 l7 (λn94=>A.call 135 [(.v x6),(.i n94),(.i n27),(.i n62),(.v O)] l8 (λl9 b5=>A.unI l9 (λn98 m0=>A.k10 m0 (λm1=>A.ari .sub .i64 n98 n94 (λn102=>A.ari .sub .i64 n27 n98 (λn103=>A.ari .quo .i64 n42 8 (λn104=>A.cmp .lss n102 n103 (λm2=>A.join (λm3 m4=>A.k7 m3 (λm5 n110 n112=>a1 [(.i n51),(.i n110),(.b m1),(.b m5),(.i n112)] m4)) (λb6=>A.cond m2 ( A.cmp .geq n102 n104 (λm6=>A.call 109 [(.v x6),(.i n94),(.i n98),(.i n51),(.v O)] b5 (λm7 m8=>A.un0 m7 ( A.ari .add .i64 n98 1 (λm9=>b6 [(.b m6),(.i m9),(.i n27)] m8))))) ( A.cmp .geq n103 n104 (λn0=>A.ari .add .i64 n98 1 (λn1=>A.call 109 [(.v x6),(.i n1),(.i n27),(.i n51),(.v O)] b5 (λn2 o0=>A.un0 n2 ( b6 [(.b n0),(.i n94),(.i n98)] o0))))))))))))))) (λo1=>A.cond (!l6) ( A.call 134 [(.v x6),(.i n21),(.i n27),(.i n62),(.v O)] b4 (λo2 o3=>A.k9 o2 (λn126=>a1 [(.i n51),(.i n126),(.b a9),(.b a7),(.i n27)] o3))) ( o1 [(.i n21)] b4))))))))))) ( A.call 135 [(.v x6),(.i n21),(.i n27),(.i n62),(.v O)] b0 (λo4 b7=>A.unI o4 (λa2 o5=>A.k10 o5 (λo6=>A.ari .sub .i64 a2 n21 (λb8=>A.ari .sub .i64 n27 a2 (λb9=>A.ari .quo .i64 n42 8 (λn136=>A.cmp .lss b8 b9 (λo7=>A.join (λo8 o9=>A.k7 o8 (λp0 p1 n144=>a1 [(.i n51),(.i p1),(.b o6),(.b p0),(.i n144)] o9)) (λc0=>A.cond o7 ( A.cmp .geq b8 n136 (λp2=>A.call 109 [(.v x6),(.i n21),(.i a2),(.i n51),(.v O)] b7 (λp3 p4=>A.un0 p3 ( A.ari .add .i64 a2 1 (λp5=>c0 [(.b p2),(.i p5),(.i n27)] p4))))) ( A.cmp .geq b9 n136 (λp6=>A.ari .add .i64 a2 1 (λp7=>A.call 109 [(.v x6),(.i p7),(.i n27),(.i n51),(.v O)] b7 (λp8 p9=>A.un0 p8 ( c0 [(.b p6),(.i n21),(.i a2)] p9)))))))))))))))) (λc1=>A.cond l1 ( A.call 133 [(.v x6),(.i n21),(.i n27),(.v O)] a0 (λq0 d0=>A.k10 q0 (λq1=>A.cond q1 ( K [] d0) ( c1 [] d0)))) ( c1 [] a0)))) ( A.cd .gtr n21 0 ( A.ari .sub .i64 n21 1 (λq2=>A.ix 3 x6 q2 3 a0 (λq3=>A.k16 q3 (λq5 q6 q7=>A.ix 3 x6 n62 3 a0 (λq8=>A.k16 q8 (λr1 r2 r3=>A.callv O [(.agg ⟨[(.int .i64 q5),(.int .u8 q6),(.int .u8 q7)]⟩),(.agg ⟨[(.int .i64 r1),(.int .u8 r2),(.int .u8 r3)]⟩)] [(.leaf (.i .i64))] a0 (λr4 d1=>A.k9 r4 (λr5=>A.cmp .lss r5 0 (λr6=>A.join (λr7 r8=>A.k9 r7 (λb1=>A.call 135 [(.v x6),(.i b1),(.i n27),(.i n62),(.v O)] r8 (λr9 d2=>A.unI r9 (λa3 s0=>A.k10 s0 (λs1=>A.ari .sub .i64 a3 b1 (λd3=>A.ari .sub .i64 n27 a3 (λd4=>A.ari .quo .i64 n42 8 (λd5=>A.cmp .lss d3 d4 (λs2=>A.join (λs3 s4=>A.k7 s3 (λs5 s6 s7=>a1 [(.i n51),(.i s6),(.b s1),(.b s5),(.i s7)] s4)) (λd6=>A.cond s2 ( A.cmp .geq d3 d5 (λs8=>A.call 109 [(.v x6),(.i b1),(.i a3),(.i n51),(.v O)] d2 (λs9 t0=>A.un0 s9 ( A.ari .add .i64 a3 1 (λt1=>d6 [(.b s8),(.i t1),(.i n27)] t0))))) ( A.cmp .geq d4 d5 (λt2=>A.ari .add .i64 a3 1 (λt3=>A.call 109 [(.v x6),(.i t3),(.i n27),(.i n51),(.v O)] d2 (λt4 t5=>A.un0 t4 ( d6 [(.b t2),(.i b1),(.i a3)] t5))))))))))))))) (λt6=>A.cond (!r6) ( A.call 134 [(.v x6),(.i n21),(.i n27),(.i n62),(.v O)] d1 (λt7 t9=>A.k9 t7 (λuc=>a1 [(.i n51),(.i uc),(.b a9),(.b a7),(.i n27)] t9))) ( t6 [(.i n21)] d1))))))))))) ( A.call 135 [(.v x6),(.i n21),(.i n27),(.i n62),(.v O)] a0 (λu0 d7=>A.unI u0 (λa4 u1=>A.k10 u1 (λu2=>A.ari .sub .i64 a4 n21 (λd8=>A.ari .sub .i64 n27 a4 (λd9=>A.ari .quo .i64 n42 8 (λe0=>A.cmp .lss d8 d9 (λu5=>A.join (λu6 u7=>A.k7 u6 (λu8 v0 v1=>a1 [(.i n51),(.i v0),(.b u2),(.b u8),(.i v1)] u7)) (λe1=>A.cond u5 ( A.cmp .geq d8 e0 (λv2=>A.call 109 [(.v x6),(.i n21),(.i a4),(.i n51),(.v O)] d7 (λv3 v4=>A.un0 v3 ( A.ari .add .i64 a4 1 (λv5=>e1 [(.b v2),(.i v5),(.i n27)] v4))))) ( A.cmp .geq d9 e0 (λv6=>A.ari .add .i64 a4 1 (λv7=>A.call 109 [(.v x6),(.i v7),(.i n27),(.i n51),(.v O)] d7 (λv8 v9=>A.un0 v8 ( e1 [(.b v6),(.i n21),(.i a4)] v9)))))))))))))))) ( A.cd .gtr n21 0 ( A.ari .sub .i64 n21 1 (λw0=>A.ix 3 x6 w0 3 a0 (λw1=>A.k16 w1 (λw2 x0 x1=>A.ix 3 x6 n62 3 a0 (λx2=>A.k16 x2 (λx5 x8 x9=>A.callv O [(.agg ⟨[(.int .i64 w2),(.int .u8 x0),(.int .u8 x1)]⟩),(.agg ⟨[(.int .i64 x5),(.int .u8 x8),(.int .u8 x9)]⟩)] [(.leaf (.i .i64))] a0 (λyA e2=>A.k9 yA (λyB=>A.cmp .lss yB 0 (λyC=>A.join (λyD yE=>A.k9 yD (λb2=>A.call 135 [(.v x6),(.i b2),(.i n27),(.i n62),(.v O)] yE (λyF f0=>A.unI yF (λa5 yG=>A.k10 yG (λyH=>A.ari .sub .i64 a5 b2 (λf1=>A.ari .sub .i64 n27 a5 (λf2=>A.ari .quo .i64 n42 8 (λg0=>A.cmp .lss f1 f2 (λyI=>A.join (λyJ yK=>A.k7 yJ (λyL yM yN=>a1 [(.i n51),(.i yM),(.b yH),(.b yL),(.i yN)] yK)) (λg1=>A.cond yI ( A.cmp .geq f1 g0 (λyO=>A.call 109 [(.v x6),(.i b2),(.i a5),(.i n51),(.v O)] f0 (λyP yQ=>A.un0 yP ( A.ari .add .i64 a5 1 (λyR=>g1 [(.b yO),(.i yR),(.i n27)] yQ))))) ( A.cmp .geq f2 g0 (λyS=>A.ari .add .i64 a5 1 (λyT=>A.call 109 [(.v x6),(.i yT),(.i n27),(.i n51),(.v O)] f0 (λyU yV=>A.un0 yU ( g1 [(.b yS),(.i b2),(.i a5)] yV))))))))))))))) (λyW=>A.cond (!yC) ( A.call 134 [(.v x6),(.i n21),(.i n27),(.i n62),(.v O)] e2 (λyX yY=>A.k9 yX (λyZ=>a1 [(.i n51),(.i yZ),(.b a9),(.b a7),(.i n27)] yY))) ( yW [(.i n21)] e2))))))))))) ( A.call 135 [(.v x6),(.i n21),(.i n27),(.i n62),(.v O)] a0 (λy0 g2=>A.unI y0 (λa6 y1=>A.k10 y1 (λy2=>A.ari .sub .i64 a6 n21 (λg3=>A.ari .sub .i64 n27 a6 (λg4=>A.ari .quo .i64 n42 8 (λg5=>A.cmp .lss g3 g4 (λy3=>A.join (λy4 y5=>A.k7 y4 (λy6 y7 y8=>a1 [(.i n51),(.i y7),(.b y2),(.b y6),(.i y8)] y5)) (λg6=>A.cond y3 ( A.cmp .geq g3 g5 (λy9=>A.call 109 [(.v x6),(.i n21),(.i a6),(.i n51),(.v O)] g2 (λza zb=>A.un0 za ( A.ari .add .i64 a6 1 (λzc=>g6 [(.b y9),(.i zc),(.i n27)] zb))))) ( A.cmp .geq g4 g5 (λzd=>A.ari .add .i64 a6 1 (λze=>A.call 109 [(.v x6),(.i ze),(.i n27),(.i n51),(.v O)] g2 (λzf zg=>A.un0 zf ( g6 [(.b zd),(.i n21),(.i a6)] zg))))))))))))))))) (λg7=>A.cond j9 ( A.call 132 [(.v x6),(.i n21),(.i n27),(.v O)] b3 (λzh zi=>A.un0 zh ( A.ari .sub .i64 n27 1 (λzj=>A.ari .sub .i64 n55 n21 (λzk=>A.ari .sub .i64 zj zk (λzl=>g7 [(.i zl),(.i 1)] zi)))))) ( g7 [(.i n55),(.i n57)] b3))))))) (λg8=>A.cond (!a7) ( A.call 130 [(.v x6),(.i n21),(.i n27),(.v O)] a8 (λzm zn=>A.un0 zm ( A.ari .sub .i64 n19 1 (λzo=>g8 [(.i zo)] zn)))) ( g8 [(.i n19)] a8)))))))))))) [(.i n12),(.i n8),(.b true),(.b true),(.i n10)] h)))
def f110(ls:List Lf)(h:HT)(K:List Lf->HT->R):R:=A.k8 ls (λn6 n8=>A.call 136 [(.i n6)] h (λa1 a2=>A.k10 a1 (λa3=>A.call 136 [(.i n8)] a2 (λa4 O=>A.k10 a4 (λa0=>A.cond a3 ( A.cond a0 ( K [(.i 0)] O) ( K [(.i (-1))] O)) ( A.cond a0 ( K [(.i 1)] O) ( A.cd .lss n6 n8 ( K [(.i (-1))] O) ( A.cd .gtr n6 n8 ( K [(.i 1)] O) ( K [(.i 0)] O)))))))))
def f111(ls:List Lf)(h:HT)(K:List Lf->HT->R):R:=A.k6 ls (λn6 n8 n10=>A.call 84 [(.i n6),(.i n8),(.i n10)] h (λa1 O=>A.k9 a1 (λa2=>A.cd .neq a2 0 ( K [(.i 0),(.i 0),(.i 0),(.i 0),(.i 0),(.i 0),(.i 1)] O) ( A.opt (inB 4 n10) (λd3=>A.opt (lY gl1 0 [(n10,17)] 17) (λa3=>A.ucI .i64 a3 (λn19 a4=>A.ucI .i64 a4 (λn21 a5=>A.ucI .u8 a5 (λn23 a6=>A.ucI .i64 a6 (λn25 a7=>A.ucI .i64 a7 (λn27 a8=>A.ucI .i64 a8 (λn29 a9=>A.ucI .u8 a9 (λn31 b0=>A.ucI .i64 b0 (λn33 b1=>A.ucI .i64 b1 (λn35 b2=>A.ucI .u8 b2 (λn37 b3=>A.ucI .i64 b3 (λn39 b4=>A.ucI .i64 b4 (λn41 b5=>A.ucI .u8 b5 (λn43 b6=>A.ucI .i64 b6 (λn45 b7=>A.ucI .i64 b7 (λn47 b8=>A.k13 b8 (λn49 n51=>A.loop (λb9 c0 a0=>A.unI c0 (λn56 c1=>A.k12 c1 (λn58 n60 n62 n64 n66 n68=>A.cd .lss n56 3 ( A.opt (inB 3 n56) (λd4=>A.opt (cF [(.i n58),(.i n60),(.i n62),(.i n64),(.i n66),(.i n68)] 0 [(n56,2)] 1) (λd0=>A.k9 d0 (λn73=>A.ari .mul .i64 2 n6 (λn75=>A.ari .add .i64 n73 n75 (λn76=>A.opt (inB 3 n56) (λd5=>A.opt (putL [(.i n58),(.i n60),(.i n62),(.i n64),(.i n66),(.i n68)] 0 [(n56,2)] [(.i n76)]) (λd1=>A.k12 d1 (λn79 n81 n83 n85 n87 n89=>A.opt (inB 3 n56) (λd6=>A.opt (cF [(.i n79),(.i n81),(.i n83),(.i n85),(.i n87),(.i n89)] 1 [(n56,2)] 1) (λd2=>A.k9 d2 (λn93=>A.ari .mul .i64 2 n8 (λn95=>A.ari .add .i64 n93 n95 (λn96=>A.opt (inB 3 n56) (λd7=>A.opt (putL [(.i n79),(.i n81),(.i n83),(.i n85),(.i n87),(.i n89)] 1 [(n56,2)] [(.i n96)]) (λx98=>A.k12 x98 (λn99 n101 n103 n105 n107 n109=>A.ari .add .i64 n56 1 (λn111=>b9 [(.i n111),(.i n99),(.i n101),(.i n103),(.i n105),(.i n107),(.i n109)] a0)))))))))))))))))) ( K [(.i n58),(.i n60),(.i n62),(.i n64),(.i n66),(.i n68),(.i 0)] a0)))) [(.i 0),(.i 1),(.i 1),(.i n45),(.i n47),(.i n49),(.i n51)] O))))))))))))))))))))))
def f112(ls:List Lf)(h:HT)(K:List Lf->HT->R):R:=A.k5 ls (λn6 n8 n10 n12=>A.call 101 [(.i n6),(.i n8),(.i n10),(.i n12)] h (λa2 a0=>A.k5 a2 (λn16 n18 n20 n22=>A.cd .neq n22 0 ( K [(.i 0),(.i 0),(.i 0),(.i 0),(.i n22)] a0) ( A.call 111 [(.i n16),(.i n18),(.i n20)] a0 (λa3 O=>A.unI a3 (λn27 a4=>A.k12 a4 (λn29 n31 n33 n35 n37 n39=>A.ari .add .u8 n12 1 (λn41=>A.ari .rem .u8 n41 3 (λn42=>A.opt (inB 3 n42) (λb0=>A.opt (cF [(.i n27),(.i n29),(.i n31),(.i n33),(.i n35),(.i n37)] 0 [(n42,2)] 2) (λa5=>A.k8 a5 (λn45 n47=>A.ari .add .u8 n12 2 (λn49=>A.ari .rem .u8 n49 3 (λn50=>A.opt (inB 3 n50) (λx51=>A.opt (cF [(.i n27),(.i n29),(.i n31),(.i n33),(.i n35),(.i n37)] 0 [(n50,2)] 2) (λa6=>A.k8 a6 (λn53 n55=>A.cd .lss n53 n45 ( K [(.i n53),(.i n55),(.i n45),(.i n47),(.i 0)] O) ( A.cd .eql n53 n45 ( A.cmp .lss n55 n47 (λa7=>A.join (λa8 a9=>A.k5 a8 (λn62 n64 n66 n68=>K [(.i n62),(.i n64),(.i n66),(.i n68),(.i 0)] a9)) (λa1=>A.cond a7 ( a1 [(.i n53),(.i n55),(.i n45),(.i n47)] O) ( a1 [(.i n45),(.i n47),(.i n53),(.i n55)] O)))) ( K [(.i n45),(.i n47),(.i n53),(.i n55),(.i 0)] O)))))))))))))))))))
def f113(ls:List Lf)(h:HT)(K:List Lf->HT->R):R:=A.k9 ls (λn6=>A.cmp .lss n6 (-1) (λt8=>A.sel t8 (-1) n6 (λn9=>A.cmp .lss 1 n9 (λO=>A.sel O 1 n9 (λn11=>K [(.i n11)] h)))))
def f114(ls:List Lf)(h:HT)(K:List Lf->HT->R):R:=A.unV ls (λx6 a0=>A.k8 a0 (λn8 n10=>A.opt (lenS x6) (λa1=>A.loop (λa2 a3 O=>A.k9 a3 (λn16=>A.cd .lss n16 a1 ( A.ix 2 x6 n16 2 O (λa4=>A.k13 a4 (λn21 n23=>A.eqs [((.i n8),(.i n21)),((.i n10),(.i n23))] (λa5=>A.cond a5 ( K [(.i n16)] O) ( A.ari .add .i64 n16 1 (λn26=>a2 [(.i n26)] O)))))) ( K [(.i (-1))] O))) [(.i 0)] h)))
def f115(ls:List Lf)(h:HT)(K:List Lf->HT->R):R:=A.unV ls (λx6 O=>A.k8 O (λn8 n10=>A.call 137 [(.v x6),(.i n8),(.i n10),(.v (.func (.func 138) ⟨[]⟩ ⟨[]⟩))] h (λa0 a1=>A.unI a0 (λa2 a3=>A.k10 a3 (λa4=>K [(.i a2),(.b a4)] a1)))))
def f116(ls:List Lf)(h:HT)(K:List Lf->HT->R):R:=A.k17 ls (λx6 n8 n10 a3=>A.ari .add .i64 n8 1 (λa4=>A.loop (λa5 a6 a1=>A.k9 a6 (λn18=>A.cd .lss n18 n10 ( A.join (λa7 a8=>A.un0 a7 ( A.ari .add .i64 n18 1 (λn23=>a5 [(.i n23)] a8))) (λa2=>A.loop (λa9 b0 O=>A.k9 b0 (λn28=>A.cd .gtr n28 n8 ( A.ix 2 x6 n28 2 O (λb1=>A.k3 b1 (λn33 n35=>A.ari .sub .i64 n28 1 (λn37=>A.ix 2 x6 n37 2 O (λb2=>A.k3 b2 (λn40 n42=>A.callv a3 [(.agg ⟨[(.int .i64 n33),(.int .u8 n35)]⟩),(.agg ⟨[(.int .i64 n40),(.int .u8 n42)]⟩)] [(.leaf (.i .i64))] O (λb3 a0=>A.k9 b3 (λn46=>A.cd .lss n46 0 ( A.ari .sub .i64 n28 1 (λn49=>A.ari .sub .i64 n28 1 (λn50=>A.ix 2 x6 n50 2 a0 (λb4=>A.k3 b4 (λn53 n55=>A.ix 2 x6 n28 2 a0 (λb5=>A.k3 b5 (λn59 n61=>A.opt (idS 2 x6 n28) (λb6=>A.heap (.st b6 [(.int .i64 n53),(.int .u8 n55)]) a0 (λb9 b7=>A.opt (idS 2 x6 n49) (λx66=>A.heap (.st x66 [(.int .i64 n59),(.int .u8 n61)]) b7 (λc0 b8=>A.ari .sub .i64 n28 1 (λn69=>a9 [(.i n69)] b8)))))))))))) ( a2 [] a0))))))))) ( a2 [] O))) [(.i n18)] a1)) ( K [] a1))) [(.i a4)] h))
def f125(ls:List Lf)(h:HT)(K:List Lf->HT->R):R:=A.k9 ls (λn6=>A.cmp .geq n6 4294967296 (λt8=>A.join (λa4 O=>A.k8 a4 (λn11 n13=>A.cmp .geq n11 65536 (λa5=>A.join (λa6 a0=>A.k8 a6 (λn18 n20=>A.cmp .geq n18 256 (λa7=>A.join (λa8 a9=>A.k8 a8 (λn25 n27=>A.conv .u8 n25 (λn29=>A.opt (strAt (.mk ⟨[.ofNat 0,.ofNat 1,.ofNat 2,.ofNat 2,.ofNat 3,.ofNat 3,.ofNat 3,.ofNat 3,.ofNat 4,.ofNat 4,.ofNat 4,.ofNat 4,.ofNat 4,.ofNat 4,.ofNat 4,.ofNat 4,.ofNat 5,.ofNat 5,.ofNat 5,.ofNat 5,.ofNat 5,.ofNat 5,.ofNat 5,.ofNat 5,.ofNat 5,.ofNat 5,.ofNat 5,.ofNat 5,.ofNat 5,.ofNat 5,.ofNat 5,.ofNat 5,.ofNat 6,.ofNat 6,.ofNat 6,.ofNat 6,.ofNat 6,.ofNat 6,.ofNat 6,.ofNat 6,.ofNat 6,.ofNat 6,.ofNat 6,.ofNat 6,.ofNat 6,.ofNat 6,.ofNat 6,.ofNat 6,.ofNat 6,.ofNat 6,.ofNat 6,.ofNat 6,.ofNat 6,.ofNat 6,.ofNat 6,.ofNat 6,.ofNat 6,.ofNat 6,.ofNat 6,.ofNat 6,.ofNat 6,.ofNat 6,.ofNat 6,.ofNat 6,.ofNat 7,.ofNat 7,.ofNat 7,.ofNat 7,.ofNat 7,.ofNat 7,.ofNat 7,.ofNat 7,.ofNat 7,.ofNat 7,.ofNat 7,.ofNat 7,.ofNat 7,.ofNat 7,.ofNat 7,.ofNat 7,.ofNat 7,.ofNat 7,.ofNat 7,.ofNat 7,.ofNat 7,.ofNat 7,.ofNat 7,.ofNat 7,.ofNat 7,.ofNat 7,.ofNat 7,.ofNat 7,.ofNat 7,.ofNat 7,.ofNat 7,.ofNat 7,.ofNat 7,.ofNat 7,.ofNat 7,.ofNat 7,.ofNat 7,.ofNat 7,.ofNat 7,.ofNat 7,.ofNat 7,.ofNat 7,.ofNat 7,.ofNat 7,.ofNat 7,.ofNat 7,.ofNat 7,.ofNat 7,.ofNat 7,.ofNat 7,.ofNat 7,.ofNat 7,.ofNat 7,.ofNat 7,.ofNat 7,.ofNat 7,.ofNat 7,.ofNat 7,.ofNat 7,.ofNat 7,.ofNat 7,.ofNat 7,.ofNat 7,.ofNat 7,.ofNat 8,.ofNat 8,.ofNat 8,.ofNat 8,.ofNat 8,.ofNat 8,.ofNat 8,.ofNat 8,.ofNat 8,.ofNat 8,.ofNat 8,.ofNat 8,.ofNat 8,.ofNat 8,.ofNat 8,.ofNat 8,.ofNat 8,.ofNat 8,.ofNat 8,.ofNat 8,.ofNat 8,.ofNat 8,.ofNat 8,.ofNat 8,.ofNat 8,.ofNat 8,.ofNat 8,.ofNat 8,.ofNat 8,.ofNat 8,.ofNat 8,.ofNat 8,.ofNat 8,.ofNat 8,.ofNat 8,.ofNat 8,.ofNat 8,.ofNat 8,.ofNat 8,.ofNat 8,.ofNat 8,.ofNat 8,.ofNat 8,.ofNat 8,.ofNat 8,.ofNat 8,.ofNat 8,.ofNat 8,.ofNat 8,.ofNat 8,.ofNat 8,.ofNat 8,.ofNat 8,.ofNat 8,.ofNat 8,.ofNat 8,.ofNat 8,.ofNat 8,.ofNat 8,.ofNat 8,.ofNat 8,.ofNat 8,.ofNat 8,.ofNat 8,.ofNat 8,.ofNat 8,.ofNat 8,.ofNat 8,.ofNat 8,.ofNat 8,.ofNat 8,.ofNat 8,.ofNat 8,.ofNat 8,.ofNat 8,.ofNat 8,.ofNat 8,.ofNat 8,.ofNat 8,.ofNat 8,.ofNat 8,.ofNat 8,.ofNat 8,.ofNat 8,.ofNat 8,.ofNat 8,.ofNat 8,.ofNat 8,.ofNat 8,.ofNat 8,.ofNat 8,.ofNat 8,.ofNat 8,.ofNat 8,.ofNat 8,.ofNat 8,.ofNat 8,.ofNat 8,.ofNat 8,.ofNat 8,.ofNat 8,.ofNat 8,.ofNat 8,.ofNat 8,.ofNat 8,.ofNat 8,.ofNat 8,.ofNat 8,.ofNat 8,.ofNat 8,.ofNat 8,.ofNat 8,.ofNat 8,.ofNat 8,.ofNat 8,.ofNat 8,.ofNat 8,.ofNat 8,.ofNat 8,.ofNat 8,.ofNat 8,.ofNat 8,.ofNat 8,.ofNat 8,.ofNat 8,.ofNat 8,.ofNat 8,.ofNat 8]⟩) n29) (λb0=>A.conv .i64 b0 (λn31=>A.ari .add .i64 n27 n31 (λn32=>K [(.i n32)] a9)))))) (λa1=>A.cond a7 ( A.shf .shr .u64 n18 .u64 8 (λn34=>A.ari .add .i64 n20 8 (λn35=>a1 [(.i n34),(.i n35)] a0))) ( a1 [(.i n18),(.i n20)] a0))))) (λa2=>A.cond a5 ( A.shf .shr .u64 n11 .u64 16 (λn37=>A.ari .add .i64 n13 16 (λn38=>a2 [(.i n37),(.i n38)] O))) ( a2 [(.i n11),(.i n13)] O))))) (λa3=>A.cond t8 ( A.shf .shr .u64 n6 .u64 32 (λn40=>a3 [(.i n40),(.i 32)] h)) ( a3 [(.i n6),(.i 0)] h))))
def f126(ls:List Lf)(h:HT)(K:List Lf->HT->R):R:=A.k8 ls (λn6 n8=>A.new (.cells [(.int .i64 n6),(.int .i64 n8)] 2 true) h (λO a0=>A.chk (.func (.func 144) ⟨[]⟩ ⟨[(.pointer (some ⟨O,0,none⟩))]⟩) ( K [(.v (.func (.func 144) ⟨[]⟩ ⟨[(.pointer (some ⟨O,0,none⟩))]⟩))] a0)))
def f127(ls:List Lf)(h:HT)(K:List Lf->HT->R):R:=A.k6 ls (λn6 n8 n10=>A.cd .eql n6 1 ( K [(.i n10)] h) ( K [(.i n8)] h))
def f128(ls:List Lf)(h:HT)(K:List Lf->HT->R):R:=A.k17 ls (λx6 n8 n10 a3=>A.ari .add .i64 n8 1 (λa4=>A.loop (λa5 a6 a1=>A.k9 a6 (λn18=>A.cd .lss n18 n10 ( A.join (λa7 a8=>A.un0 a7 ( A.ari .add .i64 n18 1 (λn23=>a5 [(.i n23)] a8))) (λa2=>A.loop (λa9 b0 O=>A.k9 b0 (λn28=>A.cd .gtr n28 n8 ( A.ix 3 x6 n28 3 O (λb1=>A.k16 b1 (λn33 n35 n37=>A.ari .sub .i64 n28 1 (λn39=>A.ix 3 x6 n39 3 O (λb2=>A.k16 b2 (λn42 n44 n46=>A.callv a3 [(.agg ⟨[(.int .i64 n33),(.int .u8 n35),(.int .u8 n37)]⟩),(.agg ⟨[(.int .i64 n42),(.int .u8 n44),(.int .u8 n46)]⟩)] [(.leaf (.i .i64))] O (λb3 a0=>A.k9 b3 (λn50=>A.cd .lss n50 0 ( A.ari .sub .i64 n28 1 (λn53=>A.ari .sub .i64 n28 1 (λn54=>A.ix 3 x6 n54 3 a0 (λb4=>A.k16 b4 (λn57 n59 n61=>A.ix 3 x6 n28 3 a0 (λb5=>A.k16 b5 (λn65 n67 n69=>A.opt (idS 3 x6 n28) (λb6=>A.heap (.st b6 [(.int .i64 n57),(.int .u8 n59),(.int .u8 n61)]) a0 (λb9 b7=>A.opt (idS 3 x6 n53) (λx74=>A.heap (.st x74 [(.int .i64 n65),(.int .u8 n67),(.int .u8 n69)]) b7 (λc0 b8=>A.ari .sub .i64 n28 1 (λn77=>a9 [(.i n77)] b8)))))))))))) ( a2 [] a0))))))))) ( a2 [] O))) [(.i n18)] a1)) ( K [] a1))) [(.i a4)] h))
def f136(ls:List Lf)(h:HT)(K:List Lf->HT->R):R:=A.k9 ls (λn6=>A.cmp .neq n6 n6 (λt8=>K [(.b t8)] h))
def f137(ls:List Lf)(h:HT)(K:List Lf->HT->R):R:=A.k17 ls (λx6 n8 n10 a0=>A.opt (lenS x6) (λa1=>A.loop (λa5 a6 O=>A.k8 a6 (λn18 n20=>A.cd .lss n18 n20 ( A.ari .add .i64 n18 n20 (λn23=>A.conv .u64 n23 (λn24=>A.shf .shr .u64 n24 .u64 1 (λn25=>A.conv .i64 n25 (λn26=>A.ix 3 x6 n26 3 O (λa7=>A.k16 a7 (λn29 n31 n33=>A.callv a0 [(.agg ⟨[(.int .i64 n29),(.int .u8 n31),(.int .u8 n33)]⟩),(.agg ⟨[(.int .i64 n8),(.int .u8 n10)]⟩)] [(.leaf (.i .i64))] O (λa8 a2=>A.k9 a8 (λn37=>A.cmp .lss n37 0 (λa9=>A.join (λb0 b1=>A.k8 b0 (λn42 n44=>a5 [(.i n42),(.i n44)] b1)) (λa3=>A.cond a9 ( A.ari .add .i64 n26 1 (λn47=>a3 [(.i n47),(.i n20)] a2)) ( a3 [(.i n18),(.i n26)] a2)))))))))))) ( A.join (λb2 b3=>A.unI b2 (λn50 b4=>A.k10 b4 (λb5=>K [(.i n50),(.b b5)] b3))) (λa4=>A.cd .lss n18 a1 ( A.ix 3 x6 n18 3 O (λb6=>A.k16 b6 (λn58 n60 n62=>A.callv a0 [(.agg ⟨[(.int .i64 n58),(.int .u8 n60),(.int .u8 n62)]⟩),(.agg ⟨[(.int .i64 n8),(.int .u8 n10)]⟩)] [(.leaf (.i .i64))] O (λb7 b8=>A.k9 b7 (λn66=>A.cmp .eql n66 0 (λb9=>a4 [(.i n18),(.b b9)] b8)))))) ( a4 [(.i n18),(.b false)] O))))) [(.i 0),(.i a1)] h))
def f138(ls:List Lf)(h:HT)(K:List Lf->HT->R):R:=A.k14 ls (λn6 n8 n10 n12 O=>A.call 44 [(.i n6),(.i n8),(.i n10)] h (λa0 a1=>A.k8 a0 (λn18 n20=>A.call 45 [(.i n18),(.i n20),(.i n12),(.i O)] a1 (λa2 a3=>A.k9 a2 (λn24=>K [(.i n24)] a3)))))
def f144(ls:List Lf)(h:HT)(K:List Lf->HT->R):R:=A.unV ls (λx6 a5=>A.k2 a5 (λa2=>A.peek (.lg cc 2 a2) h (λa6=>A.k13 a6 (λn11 n13=>A.call 75 [(.i n11),(.i n13)] h (λa7 a8=>A.k9 a7 (λn17=>A.loop (λa9 b0 a3=>A.k9 b0 (λn22=>A.cd .lss n22 n17 ( A.loop (λO b1 a0=>A.k9 b1 (λn28=>A.cd .lss n28 3 ( A.peek (.lg cc 2 a2) a0 (λb2=>A.k13 b2 (λn32 n34=>A.call 61 [(.i n32),(.i n34),(.i n22),(.i n28)] a0 (λb3 a1=>A.k8 b3 (λn38 n40=>A.cd .eql n40 0 ( A.cd .gtr n38 n22 ( A.callv x6 [(.agg ⟨[(.int .i64 n22),(.int .u8 n28)]⟩)] [(.leaf .b)] a1 (λb4 a4=>A.k10 b4 (λb5=>A.join (λb6 b7=>A.un0 b6 ( A.ari .add .u8 n28 1 (λn50=>O [(.i n50)] b7))) (λb8=>A.cond (!b5) ( K [] a4) ( b8 [] a4))))) ( A.ari .add .u8 n28 1 (λn52=>O [(.i n52)] a1))) ( A.ari .add .u8 n28 1 (λn53=>O [(.i n53)] a1))))))) ( A.ari .add .i64 n22 1 (λn54=>a9 [(.i n54)] a0)))) [(.i 0)] a3) ( K [] a3))) [(.i 0)] a8))))))
end
inductive Pth where
 |e
 |o (p:Pth)
 |i (p:Pth)
inductive Tr(α:Type) where
 |leaf
 |node (v:α) (l r:Tr α)
def Pth.num:Pth->Nat
 | .e=>1
 | .o p=>2*p.num
 | .i p=>2*p.num+1
def pthF:Nat->Nat->Pth
 |0,_=>.e
 |f+1,n=>if Nat.ble n 1 then .e else if Nat.beq (n%2) 0 then .o (pthF f (n / 2))else .i (pthF f (n / 2))
def bp(n:Nat):Pth:=pthF (n+1) (n+1)
def Pth.get{α:Type}(d:α)(p:Pth):Tr α->α:=
 Pth.rec (motive:=λ_=>Tr α->α)
  (λt=>Tr.casesOn t d λv _ _=>v)
  (λ_ ih t=>Tr.casesOn t d λ_ l _=>ih l)
  (λ_ ih t=>Tr.casesOn t d λ_ _ r=>ih r) p
def Pth.setK{α:Type}(d:α)(p:Pth):Tr α->α->(Tr α->Bool)->Bool:=
 Pth.rec (motive:=λ_=>Tr α->α->(Tr α->Bool)->Bool)
  (λt x k=>Tr.casesOn t (k (.node x .leaf .leaf)) λ_ l r=>k (.node x l r))
  (λ_ ih t x k=>Tr.casesOn t (ih .leaf x λl=>k (.node d l .leaf)) λv l r=>ih l x λl=>k (.node v l r))
  (λ_ ih t x k=>Tr.casesOn t (ih .leaf x λr=>k (.node d .leaf r)) λv l r=>ih r x λr=>k (.node v l r)) p
def eqI:Int->Int->Bool
 | .ofNat a,.ofNat b=>Nat.beq a b
 | .negSucc a,.negSucc b=>Nat.beq a b
 |_,_=>false
def kmax:IntKind->Nat
 | .i8=>127
 | .i16=>32767
 | .i32=>2147483647
 | .i64=>9223372036854775807
 | .u8=>255
 | .u16=>65535
 | .u32=>4294967295
 | .u64=>18446744073709551615
def fits(k:IntKind):Int->Bool
 | .ofNat n=>Nat.ble n (kmax k)
 | .negSucc n=>k.signed&&Nat.ble n (kmax k)
abbrev Lin:=List Int
def dot:List Int->List Int->Int
 |c :: l,x :: ρ=>c*x+dot l ρ
 |_,_=>0
def Lin.eval(l:Lin)(ρ:List Int):Int:=
 match l with
 | []=>0
 |c :: l=>c+dot l ρ
structure Ctx where
 iv:List (Int×Int)
 cs:List (List Int×Int×Int)
inductive Opd where
 |t (p:Pth)
 |c (v:Value)
inductive Ins where
 |mv (x:Opd)
 |pick (c a b:Opd)
 |ar (op:BinOp) (x y:Opd)
 |cmp (op:BinOp) (x y:Opd)
 |notb (x:Opd)
 |conv (k:IntKind) (x:Opd)
 |fld (x:Opd) (off:Nat)
 |flda (x:Opd) (off n:Nat)
 |ext (x:Opd) (i:Nat)
 |fad (x:Opd) (off:Nat)
 |lload (s:Nat) (p:Pth) (a:Opd)
 |lloada (s:Nat) (p:Pth) (n:Nat) (a:Opd)
 |lbox (s:Nat) (p:Pth) (x:Opd)
 |lnew (s:Nat) (p:Pth) (vs:List Value)
 |bld (z:List Value) (ps:List (Nat×Nat×Opd))
 |lstore (s:Nat) (p:Pth) (n:Nat) (a x:Opd)
 |call (f:FuncId) (args:List Opd)
 |gen
abbrev TV:=Tr Value
abbrev TL:=Tr (Option (List Value))
def rd(tm:TV):Opd->Value
 | .t p=>p.get undef tm
 | .c v=>v
structure XCfg where
 C:Cfg
 kf:FuncId->List Value->List HObj->Option (Value×List HObj)
abbrev KS:=Ctx->TV->TL->List HObj->Bool
structure XS where
 call:Ctx->FuncId->List Value->List HObj->(Ctx->Value->List HObj->Bool)->Bool
 yield:Ctx->Nat->List Value->List HObj->(Ctx->Value->List HObj->Bool)->Bool
 ex:Ctx->List Nat->Nat->Code->TV->TL->List HObj->KS->(Exit->KS)->Bool
theorem wX:∀(f n:Nat),n<=f->1<=n->(pthF f n).num=n
 |0,n,h,h1=>by omega
 |f+1,n,h,h1=>by
  unfold pthF
  by_cases hn:n<=1
  ·have:n=1:=by omega
   subst this
   rfl
  ·have h2:Nat.ble n 1=false:=by
    rw[←qaK,qbb];exact hn
   rw[h2]
   have ih:=wX f (n / 2) (by omega) (by omega)
   by_cases hm:n%2=0
   ·simp[hm,Pth.num,ih];omega
   ·simp[hm,Pth.num,ih];omega
theorem pY(n:Nat):(bp n).num=n+1:=wX _ _ (qaz _) (by omega)
theorem kV{a b:Nat}(h:bp a=bp b):a=b:=by
 have:=congrArg Pth.num h
 rw[pY,pY]at this
 omega
def Pth.set{α:Type}(d:α):Pth->Tr α->α->Tr α
 | .e,.leaf,x=>.node x .leaf .leaf
 | .e,.node _ l r,x=>.node x l r
 | .o p,.leaf,x=>.node d (Pth.set d p .leaf x) .leaf
 | .o p,.node v l r,x=>.node v (Pth.set d p l x) r
 | .i p,.leaf,x=>.node d .leaf (Pth.set d p .leaf x)
 | .i p,.node v l r,x=>.node v l (Pth.set d p r x)
theorem Pth.setK_eq{α:Type}(d:α):∀(p:Pth) (t:Tr α) (x:α) (k:Tr α->Bool),p.setK d t x k=k (p.set d t x)
 | .e,t,x,k=>by cases t<;>rfl
 | .o p,t,x,k=>by
  cases t with
  |leaf=>exact Pth.setK_eq d p .leaf x _
  |node v l r=>exact Pth.setK_eq d p l x _
 | .i p,t,x,k=>by
  cases t with
  |leaf=>exact Pth.setK_eq d p .leaf x _
  |node v l r=>exact Pth.setK_eq d p r x _
theorem Pth.get_leaf{α:Type}(d:α)(p:Pth):p.get d .leaf=d:=by cases p<;>rfl
theorem Pth.get_set{α:Type}(d:α):∀(p:Pth) (t:Tr α) (x:α),p.get d (p.set d t x)=x
 | .e,t,x=>by cases t<;>rfl
 | .o p,t,x=>by
  cases t with
  |leaf=>exact Pth.get_set d p .leaf x
  |node v l r=>exact Pth.get_set d p l x
 | .i p,t,x=>by
  cases t with
  |leaf=>exact Pth.get_set d p .leaf x
  |node v l r=>exact Pth.get_set d p r x
theorem Pth.get_set_ne{α:Type}(d:α):∀(p q:Pth) (t:Tr α) (x:α),q≠p->q.get d (p.set d t x)=q.get d t
 | .e,q,t,x,h=>by cases q<;>cases t<;>first|rfl|exact absurd rfl h|exact Pth.get_leaf d _
 | .o p,q,t,x,h=>by
  cases q with
  |e=>cases t<;>rfl
  |o q=>
   have hq:q≠p:=λe=>h (e▸rfl)
   cases t with
   |leaf=>exact(Pth.get_set_ne d p q .leaf x hq).trans (Pth.get_leaf d q)
   |node v l r=>exact Pth.get_set_ne d p q l x hq
  |i q=>
   cases t with
   |leaf=>exact Pth.get_leaf d q
   |node v l r=>rfl
 | .i p,q,t,x,h=>by
  cases q with
  |e=>cases t<;>rfl
  |i q=>
   have hq:q≠p:=λe=>h (e▸rfl)
   cases t with
   |leaf=>exact(Pth.get_set_ne d p q .leaf x hq).trans (Pth.get_leaf d q)
   |node v l r=>exact Pth.get_set_ne d p q r x hq
  |o q=>
   cases t with
   |leaf=>exact Pth.get_leaf d q
   |node v l r=>rfl
def Tr.map{α:Type}(f:α->α):Tr α->Tr α
 | .leaf=>.leaf
 | .node v l r=>.node (f v) (l.map f) (r.map f)
theorem eqI_iff{a b:Int}:eqI a b=true↔a=b:=by
 cases a<;>cases b<;>simp[eqI]<;>omega
theorem fits_iff{k:IntKind}{c:Int}(h:fits k c=true):(k.signed=true->-(kmax k:Int) - 1<=c)/\(k.signed=false->0<=c)/\c<=kmax k:=by
 cases c with
 |ofNat n=>
  simp only[fits,qbb]at h
  refine⟨λ_=>?_,λ_=>?_,?_⟩<;>simp<;>omega
 |negSucc n=>
  simp only[fits,qaa,qbb]at h
  refine⟨λ_=>?_,λhs=>?_,?_⟩
  ·omega
  ·rw[h.1]at hs;cases hs
  ·omega
theorem tq{k:IntKind}{c:Int}(h:fits k c=true):k.wrap c=c:=by
 obtain⟨h1,h2,h3⟩:=fits_iff h
 cases k<;>simp only[IntKind.signed,kmax,forall_const,reduceCtorEq,false_implies]at h1 h2 h3
 ·exact Go.IntWalk.i8_in c (by omega)
 ·exact Go.IntWalk.i16_in c (by omega)
 ·exact Go.IntWalk.i32_in c (by omega)
 ·exact Go.IntWalk.i64_in c (by omega)
 ·exact Go.IntWalk.u8_in c (by omega)
 ·exact Go.IntWalk.u16_in c (by omega)
 ·exact Go.IntWalk.u32_in c (by omega)
 ·exact Go.IntWalk.u64_in c (by omega)
section
variable [Val] {ρ:List Int}
def pg(op:BinOp)(x y:Int):Option Bool:=
 match op with
 | .eql=>some (x==y)
 | .neq=>some (x != y)
 | .lss=>some (decide (x<y))
 | .leq=>some (decide (x<=y))
 | .gtr=>some (decide (x > y))
 | .geq=>some (decide (x ≥ y))
 |_=>none
def qr(op:BinOp)(k:IntKind)(x y n:Int):Prop:=∀(P:Program) (t:TypeId) (w:World),(binOp op t (.int k x) (.int k y)).run P w = .ok (.int k n) w
theorem bits_one{k:IntKind}(x:Int):((BitVec.ofInt k.bits x &&& BitVec.ofInt k.bits 1).toNat:Int)=x%2:=by
 have hb:k.bits=k.bits - 1+1:=by cases k<;>rfl
 generalize k.bits - 1=n at hb
 rw[hb]
 have h1:(BitVec.ofInt (n+1) 1).toNat=1:=by
  simp
 rw[BitVec.toNat_and,h1,Nat.and_one_is_mod,BitVec.toNat_ofInt]
 have hp:(0:Int)<2 ^ (n+1):=Int.pow_pos (by omega)
 have e:(2:Int) ^ (n+1)=2*2 ^ n:=by rw[Int.pow_succ];omega
 have h0:0<=x%(2 ^ (n+1):Int):=qc5 _ (by omega)
 have:((x%((2 ^ (n+1):Nat):Int)).toNat%2:Nat)=((x%(2 ^ (n+1):Int))%2:Int):=by
  have e2:((2 ^ (n+1):Nat):Int)=(2 ^ (n+1):Int):=by simp
  rw[e2]
  omega
 rw[this,e,Int.emod_emod_of_dvd _ ⟨2 ^ n,rfl⟩]
theorem ox{k:IntKind}{x n:Int}(hn:x%2=n):qr .and k x 1 n:=by
 intro P t w
 have hw:k.wrap n=n:=tq (by
  have h0:0<=n:=by omega
  have h1:n<=1:=by omega
  obtain⟨m,rfl⟩ : ∃m:Nat,n=m:=⟨n.toNat,by omega⟩
  show Nat.ble m (kmax k)=true
  rw[qbb]
  cases k<;>simp only[kmax]<;>omega)
 have hb:=bits_one (k:=k) x
 simp only[binOp,ne_eq,not_true_eq_false,if_false,Op.intBits]
 show Result.ok (Value.int k (k.wrap _)) w=_
 rw[hb,hn,hw]
end
section
variable [Val] {ρ:List Int}
structure Rep(pts:List Nat)(nt:Nat)(tm:TV)(lc:TL)(σ:St):Prop where
 len:σ.tmps.length=nt
 val:∀(i:Nat) v,σ.tmps[i]? = some v->(bp i).get undef tm=v
 llen:pts≠[]->σ.loc.length=nt
 loc:∀(i:Nat) x,σ.loc[i]? = some x->(bp i).get none lc=x
def ValStep(C:Cfg)(pts:List Nat)(σ:St)(o:Oper)(v:Value):Prop:=
 (∃e,al C pts (oval σ.tmps) o=some e/\aI σ e=some (σ,v))∨iR C σ.tmps o v
theorem ValStep.val{C:Cfg}{pts:List Nat}{σ:St}{o:Oper}{v:Value}(h:al C pts (oval σ.tmps) o=some (.val v)):ValStep C pts σ o v:=.inl ⟨_,h,rfl⟩
theorem oK(k:IntKind)(x:Int):k.wrap (x%(2 ^ k.bits:Int))=k.wrap x:=by
 unfold IntKind.wrap
 rw[Int.emod_emod_of_dvd _ (Int.dvd_refl _)]
theorem vt{k:IntKind}(m n:Nat):qr .and k m n (k.wrap (Nat.land m n:Nat)):=by
 intro P t w
 simp only[binOp,ne_eq,not_true_eq_false,if_false,Op.intBits]
 show Result.ok (Value.int k (k.wrap _)) w=_
 rw[←oK k (Nat.land m n:Nat)]
 congr 3
 have h2:∀x:Nat,(BitVec.ofInt k.bits (x:Int)).toNat=x%2 ^ k.bits:=λx=>by
  rw[BitVec.toNat_ofInt]
  have:((x:Int)%((2 ^ k.bits:Nat):Int))=((x%2 ^ k.bits:Nat):Int):=by simp
  rw[this,qcQ]
 have h3:(BitVec.ofInt k.bits (m:Int) &&& BitVec.ofInt k.bits (n:Int)).toNat=(m &&& n)%2 ^ k.bits:=by
  rw[BitVec.toNat_and,h2,h2,Nat.and_mod_two_pow]
 rw[h3]
 simp
theorem vx{k:IntKind}(m n:Nat):qr .xor k m n (k.wrap (Nat.xor m n:Nat)):=by
 intro P t w
 simp only[binOp,ne_eq,not_true_eq_false,if_false,Op.intBits]
 show Result.ok (Value.int k (k.wrap _)) w=_
 rw[←oK k (Nat.xor m n:Nat)]
 congr 3
 have h2:∀x:Nat,(BitVec.ofInt k.bits (x:Int)).toNat=x%2 ^ k.bits:=λx=>by
  rw[BitVec.toNat_ofInt]
  have:((x:Int)%((2 ^ k.bits:Nat):Int))=((x%2 ^ k.bits:Nat):Int):=by simp
  rw[this,qcQ]
 have h3:(BitVec.ofInt k.bits (m:Int) ^^^ BitVec.ofInt k.bits (n:Int)).toNat=(m ^^^ n)%2 ^ k.bits:=by
  rw[BitVec.toNat_xor,h2,h2,Nat.xor_mod_two_pow]
 rw[h3]
 simp
theorem yq{k:IntKind}(m n:Nat):qr .or k m n (k.wrap (Nat.lor m n:Nat)):=by
 intro P t w
 simp only[binOp,ne_eq,not_true_eq_false,if_false,Op.intBits]
 show Result.ok (Value.int k (k.wrap _)) w=_
 rw[←oK k (Nat.lor m n:Nat)]
 congr 3
 have h2:∀x:Nat,(BitVec.ofInt k.bits (x:Int)).toNat=x%2 ^ k.bits:=λx=>by
  rw[BitVec.toNat_ofInt]
  have:((x:Int)%((2 ^ k.bits:Nat):Int))=((x%2 ^ k.bits:Nat):Int):=by simp
  rw[this,qcQ]
 have h3:(BitVec.ofInt k.bits (m:Int) ||| BitVec.ofInt k.bits (n:Int)).toNat=(m ||| n)%2 ^ k.bits:=by
  rw[BitVec.toNat_or,h2,h2,Nat.or_mod_two_pow]
 rw[h3]
 simp
end
section
variable {R:Type}
theorem setK_eq{α:Type}(x:α):∀(l:List α) (i:Nat) (k:List α->R),setK x l i k=k (l.set i x)
 | [],_,_=>rfl
 |_ :: _,0,_=>rfl
 |a :: l,i+1,k=>setK_eq x l i λl=>k (a :: l)
theorem uP(n:Nat)(K:Nat->R):ri n K=K n:=by cases n<;>rfl
end
def SL.good:SL->Prop
 | .v x=>bf x=true
 |_=>True
def S0.good(x:S0):Prop:=∀l∈x.cells,l.good
def SV.gd:SV->Prop
 | .st x=>x.good
 | .tup xs=>(∀x∈xs,x.good)/\2<=xs.length
 | .no=>False
 |_=>True
theorem dQ{x:Value}:bf x=true↔noLoc x=true/\bj x=true/\aX x=true/\aG x=false:=by
 unfold bf
 cases noLoc x<;>cases bj x<;>cases aX x<;>cases aG x<;>simp
theorem pD{x:Value}(h:bf x=true):aT x=true:=by
 obtain⟨h1,_,h2,_⟩:=dQ.1 h
 simp[aT,h1,h2]
theorem uQ{x:Value}(h:bf x=true):x.cells = #[x]:=dW (dQ.1 h).2.2.1
theorem SL.val_good{l:SL}(h:l.good):bf l.val=true:=by
 cases l with
 |v x=>exact h
 |_=>rfl
theorem S0.cells_val{x:S0}(h:x.good):x.val.cells=⟨x.cells.map SL.val⟩:=by
 cases x with
 |leaf l=>exact uQ (SL.val_good (h l (by simp[S0.cells])))
 |agg cs=>rfl
theorem S0.noLoc{x:S0}(h:x.good):noLoc x.val=true:=by
 cases x with
 |leaf l=>exact(dQ.1 (SL.val_good (h l (by simp[S0.cells])))).1
 |agg cs=>
  simp only[S0.val,Am.noLoc,qab,qaI]
  rintro _ ⟨l,hl,rfl⟩
  exact(dQ.1 (SL.val_good (h l hl))).2.1
theorem S0.not_tuple{x:S0}(h:x.good):aG x.val=false:=by
 cases x with
 |leaf l=>exact(dQ.1 (SL.val_good (h l (by simp[S0.cells])))).2.2.2
 |agg cs=>rfl
theorem S0.cells_ok{x:S0}(h:x.good):x.val.cells.toList.all aT=true:=by
 rw[S0.cells_val h]
 simp only[qab,qaI]
 rintro _ ⟨l,hl,rfl⟩
 exact pD (SL.val_good (h l hl))
theorem cells_ok'{cs:List SL}(h:∀l∈cs,l.good):(cs.map SL.val).all aT=true:=by
 simp only[qab,qaI]
 rintro _ ⟨l,hl,rfl⟩
 exact pD (SL.val_good (h l hl))
theorem vy{v:Value}(h:scalar v=true):bf v=true:=by
 cases v<;>first|rfl|(simp[scalar]at h;done)|skip
 case pointer a=>cases a<;>first|rfl|simp[scalar]at h
 case slice a l c=>
  cases a with
  |none=>rfl
  |some a=>cases l<;>cases c<;>simp[scalar]at h
theorem rW(v:Value):(slOf v).val=v:=by cases v<;>rfl
theorem oB{v:Value}(h:scalar v=true):(slOf v).good:=by
 cases v<;>first|trivial|exact vy h
theorem rS{v:Value}{x:S0}(h:s0Of v=some x):x.val=v/\x.good/\eY v=true:=by
 unfold s0Of at h
 split at h
 ·rename_i cs
  split at h
  ·rename_i ha
   cases h
   refine⟨?_,?_,ha⟩
   ·simp only[S0.val,qdf,Value.agg.injEq]
    have:(SL.val ∘ slOf)=id:=funext rW
    rw[this,List.map_id]
   ·intro l hl
    simp only[S0.cells,qaI]at hl
    obtain⟨v,hv,rfl⟩:=hl
    exact oB (qab.1 ha v hv)
  ·cases h
 ·rename_i hne
  split at h
  ·rename_i hs
   cases h
   refine⟨rW v,?_,?_⟩
   ·intro l hl
    simp only[S0.cells,qax]at hl
    subst hl
    exact oB hs
   ·cases v<;>first|exact hs|exact absurd rfl (hne _)
  ·cases h
theorem cS{a b:IntKind}(h:dX a b=true):a=b:=by
 cases a<;>cases b<;>first|rfl|cases h
theorem dF(a:IntKind):dX a a=true:=by cases a<;>rfl
section
variable [Val] [Kno]
def Told(sks:List SK)(ls:List Lf)(xs:List S0):Prop:=bA xs sks=true/\bC xs=ls/\∀x∈xs,x.good
def aF(C:Cfg)(Sg:FuncId->Option Sig)(g:FuncId)(ls:List Lf)(H:List HObj)(rs:List Lf)(H':List HObj):Prop:=
 ∃sg xs ys,Sg g=some sg/\Told sg.ps ls xs/\Told sg.rs rs ys/\iq C g (ai xs) H (ek (ai ys)) H'
def sw(C:Cfg)(v:Value)(args:List Value)(hs:List SK)(H:List HObj)(rs:List Lf)(H':List HObj):Prop:=
 ∃ys,Told hs rs ys/\((∃g first cap,v = .func (.func g) first cap/\iq C g (first.toList++args++cap.toList) H (ek (ai ys)) H')∨
  (∃l,v = .func (.yield l) #[] #[]/\fJ C l args H (ek (ai ys)) H'))
def oO(nt:Nat):List (Nat×SK)->List Value->List Value->List Value
 |(t,_) :: l,v :: vs,tm=>oO nt l vs (tm.set t v)
 |_,_,tm=>tm
def lpOf(s:Site)(κ:Nat)(vals:List Value):ALoop:=
 { state:=.ready,pending:=none,fn:=κ,tmps:=oO s.nt s.caps vals (List.replicate s.nt poison),params:=s.params.map (·.1),assign:=s.assign.erase pQ,body:=s.body.erase pQ }
def gP:Lf->Lf->Bool
 | .i a,.i b=>a==b
 | .b a,.b b=>a==b
 |_,_=>false
def cm(l:List (Lf×Lf)):Bool:=l.all λp=>gP p.1 p.2
def ShRun(op:BinOp)(k:IntKind)(x:Int)(k':IntKind)(y n:Int):Prop:=∀(P:Program) (t:TypeId) (w:World),(binOp op t (.int k x) (.int k' y)).run P w = .ok (.int k n) w
structure AlgOk{R HT:Type}(A:Alg R HT)(C:Cfg)(Sg:FuncId->Option Sig)(T:Nat->Site)(holds:R->Prop)(abs:HT->List HObj):Prop where
 fail:¬holds A.fail
 cond:∀b x y,holds (A.cond b x y)->(b=true/\holds x)∨(b=false/\holds y)
 ari:∀op k a b K,holds (A.ari op k a b K)->∃n,qr op k a b n/\holds (K n)
 shf:∀op k a k' b K,holds (A.shf op k a k' b K)->∃n,ShRun op k a k' b n/\holds (K n)
 cmp:∀op a b K,holds (A.cmp op a b K)->∃t,pg op a b=some t/\holds (K t)
 eqs:∀l K,holds (A.eqs l K)->holds (K (cm l))
 conv:∀k a K,holds (A.conv k a K)->holds (K (k.wrap a))
 sel:∀t a b K,holds (A.sel t a b K)->holds (K (if t then a else b))
 opt:∀ {α:Type} (o:Option α) K,holds (A.opt o K)->∃x,o=some x/\holds (K x)
 chk:∀v K,holds (A.chk v K)->bf v=true/\holds K
 unI:∀ls K,holds (A.unI ls K)->∃n r,ls = .i n :: r/\holds (K n r)
 unB:∀ls K,holds (A.unB ls K)->∃t r,ls = .b t :: r/\holds (K t r)
 unV:∀ls K,holds (A.unV ls K)->∃x r,ls = .v x :: r/\holds (K x r)
 un0:∀ls K,holds (A.un0 ls K)->ls=[]/\holds K
 ucI:∀k ls K,holds (A.ucI k ls K)->∃n r,ls = .int k n :: r/\holds (K n r)
 ucB:∀ls K,holds (A.ucB ls K)->∃t r,ls = .bool t :: r/\holds (K t r)
 ucV:∀ls K,holds (A.ucV ls K)->∃x r,ls=x :: r/\holds (K x r)
 uc0:∀ls K,holds (A.uc0 ls K)->ls=[]/\holds K
 peek:∀f h K,holds (A.peek f h K)->∃cs,f.run (λi=>(abs h)[i]?)=some cs/\holds (K cs)
 heap:∀f h K,holds (A.heap f h K)->∃acts cs h',f.run (λi=>(abs h)[i]?) (abs h).length=some (acts,cs)/\abs h'=gt (abs h) acts/\holds (K cs h')
 new:∀o h K,holds (A.new o h K)->∃h',abs h'=abs h++[o]/\holds (K (abs h).length h')
 call:∀g ls h K,holds (A.call g ls h K)->∃rs h',aF C Sg g ls (abs h) rs (abs h')/\holds (K rs h')
 callv:∀v args hs h K,holds (A.callv v args hs h K)->∃rs h',sw C v args hs (abs h) rs (abs h')/\holds (K rs h')
 join:∀b m,holds (A.join b m)->holds (m b)
 loop:∀F ls h,holds (A.loop F ls h)->∃it:Nat->List Lf->HT->R,(∀ls h,¬holds (it 0 ls h))/\(∀n ls h,it (n+1) ls h=F (it n) ls h)/\∃n,holds (it n ls h)
 rfun:∀κ v vals h K,holds (A.rfun κ v vals h K)->∃g first cap r H1 lp h2,v = .func (.func g) first cap/\
  iq C g (first.toList++[.func (.yield (abs h).length) #[] #[]]++cap.toList) (abs h++[.loop (lpOf (T κ) κ vals)]) r H1/\
  dR H1 (abs h).length=some lp/\lp.state≠.busy/\abs h2=H1.set (abs h).length (.loop { lp with state:=.exhausted })/\holds (K lp.pending h2)
 pend:∀pd kn kr ks,holds (A.pend pd kn kr ks)->(pd=none/\holds kn)∨(pd=some .ret/\holds kr)∨∃id x,pd=some (.exit id)/\(id,x)∈ks/\holds x
 lp1:∀l h K,holds (A.lp1 l h K)->∃lp h',dR (abs h) l=some lp/\lp.state = .ready/\abs h'=(abs h).set l (.loop { lp with state:=.busy })/\holds (K h')
 lp2:∀l j h K,holds (A.lp2 l j h K)->∃lp h',dR (abs h) l=some lp/\abs h'=(abs h).set l (.loop { lp with state:=if j.isNone then .ready else .done,pending:=j })/\holds (K h')
def SV.ok(tmps:List Value)(i:Nat)(s:SV):Prop:=
 match s with
 | .no=>True
 |s=>tmps[i]? = some s.val/\s.gd
def LR.ok(loc:List (Option (List Value)))(i:Nat):LR->Prop
 | .unk=>True
 | .nil=>loc[i]? = some none
 | .any n=>∃vs,loc[i]? = some (some vs)/\vs.length=n
 | .row cs=>loc[i]? = some (some (cs.map SL.val))/\∀c∈cs,c.good
structure Rp(ev:Env)(σ:St):Prop where
 len:ev.tm.length=σ.tmps.length
 val:∀(i:Nat) s,ev.tm[i]? = some s->s.ok σ.tmps i
 llen:ev.lc.length=σ.loc.length
 row:∀(i:Nat) r,ev.lc[i]? = some r->r.ok σ.loc i
theorem SV.ok_gd{tmps:List Value}{i:Nat}{s:SV}(h:s.gd)(hv:tmps[i]? = some s.val):s.ok tmps i:=by
 cases s<;>first|trivial|exact⟨hv,h⟩
theorem Rp.at{ev:Env}{σ:St}(h:Rp ev σ){t:Nat}{s:SV}(hs:ev.tm.getD t .no=s)(hn:s≠.no):σ.tmps[t]? = some s.val/\s.gd:=by
 rw[List.getD_eq_getElem?_getD]at hs
 cases he:ev.tm[t]? with
 |none=>rw[he]at hs;exact absurd hs.symm hn
 |some x=>
  rw[he]at hs
  simp only[qba]at hs
  subst hs
  have:=h.val t x he
  cases x<;>first|exact this|exact absurd rfl hn
theorem Rp.sval{ev:Env}{σ:St}(h:Rp ev σ){x:Operand}{s:SV}(hs:sval ev x=s)(hn:s≠.no):oval σ.tmps x=s.val/\s.gd:=by
 cases x with
 |tmp t=>
  obtain⟨h1,h2⟩:=h.at (t:=t) hs hn
  exact⟨by simp[oval,List.getD_eq_getElem?_getD,h1],h2⟩
 |const v=>
  simp only[Am.sval]at hs
  cases hv:s0Of v with
  |none=>rw[hv]at hs;exact absurd hs.symm hn
  |some x=>
   rw[hv]at hs
   subst hs
   obtain⟨h1,h2,h3⟩:=rS hv
   refine⟨?_,h2⟩
   have:flat v=true:=by cases v<;>first|exact h3|(simp[eY,scalar]at h3)
   simp[oval,this,SV.val,h1]
 |global g=>
  subst hs
  simp only[Am.sval,oval]
  cases hb:Nat.blt g gB with
  |true=>exact⟨rfl,trivial⟩
  |false=>exact absurd (by simp only[Am.sval,hb]) hn
 |func f=>
  subst hs
  refine⟨rfl,λl hl=>?_⟩
  simp only[S0.cells,qax]at hl
  subst hl
  rfl
theorem Rp.sval0{ev:Env}{σ:St}(h:Rp ev σ){x:Operand}{s:S0}(hs:sval0 ev x=some s):oval σ.tmps x=s.val/\s.good:=by
 unfold Am.sval0 at hs
 split at hs
 ·rename_i y e
  cases hs
  exact h.sval e (by simp)
 ·cases hs
theorem Rp.svals{ev:Env}{σ:St}(h:Rp ev σ):∀ {l:List Operand} {xs:List S0},svals ev l=some xs->l.map (oval σ.tmps)=ai xs/\∀x∈xs,x.good
 | [],xs,hs=>by cases hs;exact⟨rfl,by simp⟩
 |o :: l,xs,hs=>by
  simp only[Am.svals]at hs
  split at hs
  ·rename_i x ys e1 e2
   cases hs
   obtain⟨h1,h2⟩:=h.sval0 e1
   obtain⟨h3,h4⟩:=h.svals e2
   refine⟨by simp[ai,h1];exact h3,λy hy=>?_⟩
   rcases qaj.1 hy with rfl|hy
   ·exact h2
   ·exact h4 y hy
  ·cases hs
theorem Rp.put{ev:Env}{σ:St}(h:Rp ev σ)(d:Nat){s:SV}(hs:s.gd):Rp ⟨ev.tm.set d s,ev.lc⟩ (σ.put (some d) s.val):=by
 refine⟨by simp[St.put,h.len],λi x hx=>?_,h.llen,h.row⟩
 simp only[qaV]at hx
 split at hx
 ·rename_i hi
  subst hi
  split at hx
  ·rename_i hlt
   cases hx
   refine SV.ok_gd hs ?_
   simp only[St.put,List.getElem?_set_self']
   rw[qau (by rw[←h.len];exact hlt)]
   rfl
  ·cases hx
 ·rename_i hi
  have:=h.val i x hx
  cases x<;>first|trivial|exact⟨by simp only[St.put];rw[qal hi];exact this.1,this.2⟩
theorem Rp.heap{ev:Env}{σ:St}(h:Rp ev σ)(H:List HObj):Rp ev { σ with heap:=H }:=⟨h.len,h.val,h.llen,h.row⟩
structure Fr(ws ks rs:List Nat)(σ σ':St):Prop where
 tlen:σ'.tmps.length=σ.tmps.length
 llen:σ'.loc.length=σ.loc.length
 tm:∀(i:Nat) v,σ.tmps[i]? = some v->i∉ws->noLoc v=true->σ'.tmps[i]? = some v
 tp:∀(i s off:Nat),σ.tmps[i]? = some (.pointer (some ⟨s,off,some 0⟩))->i∉ws->s∉ks->σ'.tmps[i]? = some (.pointer (some ⟨s,off,some 0⟩))
 row:∀(s:Nat) x,σ.loc[s]? = some x->s∉rs->σ'.loc[s]? = some x
 rlen:∀(s:Nat) vs,σ.loc[s]? = some (some vs)->s∉ks->∃vs',σ'.loc[s]? = some (some vs')/\vs'.length=vs.length
theorem Fr.refl(ws ks rs:List Nat)(σ:St):Fr ws ks rs σ σ:=⟨rfl,rfl,λ_ _ h _ _=>h,λ_ _ _ h _ _=>h,λ_ _ h _=>h,λ_ vs h _=>⟨vs,h,rfl⟩⟩
theorem Fr.trans{ws ks rs:List Nat}{σ σ₁ σ':St}(h:Fr ws ks rs σ σ₁)(h':Fr ws ks rs σ₁ σ'):Fr ws ks rs σ σ':=
 ⟨h'.tlen.trans h.tlen,h'.llen.trans h.llen,λi v a b c=>h'.tm i v (h.tm i v a b c) b c,λi s off a b c=>h'.tp i s off (h.tp i s off a b c) b c,
  λs x a b=>h'.row s x (h.row s x a b) b,λs vs a b=>let ⟨v1,c1,d1⟩:=h.rlen s vs a b;let ⟨v2,c2,d2⟩:=h'.rlen s v1 c1 b;⟨v2,c2,d2.trans d1⟩⟩
theorem Fr.mono{ws ks rs ws' ks' rs':List Nat}{σ σ':St}(h:Fr ws ks rs σ σ')(h1:∀i∈ws,i∈ws')(h2:∀i∈ks,i∈ks')(h3:∀i∈rs,i∈rs'):Fr ws' ks' rs' σ σ':=
 ⟨h.tlen,h.llen,λi v a b c=>h.tm i v a (λhi=>b (h1 i hi)) c,λi s off a b c=>h.tp i s off a (λhi=>b (h1 i hi)) (λhi=>c (h2 s hi)),
  λs x a b=>h.row s x a (λhi=>b (h3 s hi)),λs vs a b=>h.rlen s vs a (λhi=>b (h2 s hi))⟩
theorem Fr.heap{ws ks rs:List Nat}{σ σ':St}(h:Fr ws ks rs σ σ')(H:List HObj):Fr ws ks rs σ { σ' with heap:=H }:=⟨h.tlen,h.llen,h.tm,h.tp,h.row,h.rlen⟩
theorem Fr.put{σ:St}(dst:Option Tmp)(v:Value)(ks rs:List Nat):Fr dst.toList ks rs σ (σ.put dst v):=by
 cases dst with
 |none=>exact .refl _ _ _ _
 |some d=>
  refine⟨by simp[St.put],rfl,λi x h hi _=>?_,λi s off h hi _=>?_,λ_ _ h _=>h,λ_ vs h _=>⟨vs,h,rfl⟩⟩<;>
  ·simp only[Option.toList_some,qax]at hi
   simp only[St.put]
   rw[qal (λe=>hi e.symm)]
   exact h
end
inductive HO where
 |o (x:HObj)
 |lp (κ:Nat) (st:LoopState) (pd:Option Code) (vs:List Value)
abbrev HL:=List HO
inductive CK where
 |f (g:FuncId)
 |y (κ:Nat) (vs:List Value) (l:Nat)
def absO(T:Nat->Site):HO->HObj
 | .o x=>x
 | .lp κ st pd vs=>.loop { lpOf (T κ) κ vs with state:=st,pending:=pd }
def absH(T:Nat->Site)(h:HL):List HObj:=h.map (absO T)
namespace Sx
inductive HOT where
 |o (x:HObj)
 |lp (κ:Nat) (st:LoopState) (pd:Option Code) (vs:List Value)
 |t (n e:Nat) (rw:Bool) (c:Tr Value)
def nilV:Value:=.bool false
def bB(c:Tr Value)(n:Nat):List Value:=(List.range n).map λi=>(bp i).get nilV c
def HOT.ho:HOT->HO
 | .o x=>.o x
 | .lp κ st pd vs=>.lp κ st pd vs
 | .t n e rw c=>.o (.cells (bB c n) e rw)
structure HTr where
 n:Nat
 t:Tr HOT
def noO:HOT:=.o .dead
def HTr.empty:HTr:=⟨0,.leaf⟩
def HTr.at(h:HTr)(i:Nat):Option HOT:=match Nat.blt i h.n with
 |true=>some ((bp i).get noO h.t)
 |false=>none
def toL(h:HTr):HL:=(List.range h.n).map λi=>((bp i).get noO h.t).ho
theorem cX(h:HTr):(toL h).length=h.n:=by simp[toL]
theorem jp(h:HTr)(i:Nat):(toL h)[i]? = (h.at i).map HOT.ho:=by
 unfold toL HTr.at
 rw[qaw]
 cases e:Nat.blt i h.n with
 |true=>
  rw[qaB]at e
  rw[qbU e];rfl
 |false=>
  have:h.n<=i:=by
   rcases qay i h.n with h1|h1
   ·rw[←qaB,e]at h1;cases h1
   ·exact h1
  rw[qai (by simpa using this)];rfl
def HTr.put(h:HTr)(i:Nat)(o:HOT):HTr:=match Nat.blt i h.n with
 |true=>⟨h.n,(bp i).set noO h.t o⟩
 |false=>h
def HTr.push(h:HTr)(o:HOT):HTr:=⟨h.n+1,(bp h.n).set noO h.t o⟩
theorem ip(h:HTr)(i:Nat)(o:HOT):toL (h.put i o)=(toL h).set i o.ho:=by
 apply qa2
 intro j
 unfold HTr.put
 cases e:Nat.blt i h.n with
 |true=>
  rw[qaB]at e
  simp only
  rw[jp]
  by_cases hj:i=j
  ·subst hj
   rw[qaD (by rw[cX];exact e)]
   unfold HTr.at
   simp only[(qaB▸e:Nat.blt i h.n=true)]
   rw[Pth.get_set];rfl
  ·rw[qal hj,jp]
   unfold HTr.at
   simp only
   rw[Pth.get_set_ne _ _ _ _ _ (λh=>hj (kV h).symm)]
 |false=>
  simp only
  have:h.n<=i:=by
   rcases qay i h.n with h1|h1
   ·rw[←qaB,e]at h1;cases h1
   ·exact h1
  rw[List.set_eq_of_length_le (by rw[cX];exact this)]
theorem gp(h:HTr)(o:HOT):toL (h.push o)=toL h++[o.ho]:=by
 apply qa2
 intro j
 rw[jp]
 unfold HTr.push HTr.at
 simp only
 by_cases h1:j<h.n
 ·rw[qaf (by rw[cX];exact h1),jp]
  unfold HTr.at
  have e1:Nat.blt j (h.n+1)=true:=by rw[qaB];omega
  have e2:Nat.blt j h.n=true:=by rw[qaB];omega
  simp only[e1,e2]
  rw[Pth.get_set_ne _ _ _ _ _ (λh=>by have:=kV h;omega)]
 ·rw[qam (by rw[cX];omega),cX]
  by_cases h2:j=h.n
  ·subst h2
   have e1:Nat.blt h.n (h.n+1)=true:=by rw[qaB];omega
   simp only[e1,qbv,qbi]
   rw[Pth.get_set];rfl
  ·have e1:Nat.blt j (h.n+1)=false:=by rw[←qaK,qaB];omega
   simp only[e1]
   rw[qai (by simp;omega)];rfl
theorem aV(c:Tr Value)(n:Nat):(bB c n).length=n:=by simp[bB]
theorem dD(c:Tr Value){n i:Nat}(h:i<n):(bB c n)[i]? = some ((bp i).get nilV c):=by
 unfold bB
 rw[qaw,qbU h];rfl
def insT:List Value->Nat->Tr Value->Tr Value
 | [],_,c=>c
 |v :: l,i,c=>insT l (i+1) ((bp i).set nilV c v)
theorem rm:∀(l:List Value) (i:Nat) (c:Tr Value) (j:Nat),(bp j).get nilV (insT l i c)=if i<=j/\j<i+l.length then l[j - i]?.getD nilV else(bp j).get nilV c
 | [],i,c,j=>by
  have h:¬(i<=j/\j<i+([]:List Value).length):=by intro h;have:=h.2;simp at this;omega
  rw[if_neg h];rfl
 |v :: l,i,c,j=>by
  show(bp j).get nilV (insT l (i+1) _)=_
  rw[rm l (i+1)]
  by_cases h:i+1<=j/\j<i+1+l.length
  ·rw[if_pos h,if_pos (by simp;omega)]
   have:j - i=(j - (i+1))+1:=by omega
   rw[this,qbP]
  ·rw[if_neg h]
   by_cases h2:j=i
   ·subst h2
    rw[Pth.get_set,if_pos (by simp)];simp
   ·rw[Pth.get_set_ne _ _ _ _ _ (λe=>h2 (kV e)),if_neg (by simp;omega)]
theorem pe{l:List Value}{i n:Nat}{c:Tr Value}(h:i+l.length<=n):bB (insT l i c) n=(bB c n).take i++l++(bB c n).drop (i+l.length):=by
 apply qa2
 intro j
 by_cases hj:j<n
 ·rw[dD _ hj,rm]
  by_cases h1:j<i
  ·rw[if_neg (by omega),qaC,qaf (by rw[qa6,aV];omega),List.getElem?_take_of_lt h1,dD _ hj]
  ·have hl:((bB c n).take i).length=i:=by rw[qa6,aV];omega
   by_cases h2:j<i+l.length
   ·rw[if_pos ⟨by omega,h2⟩,qaC,qam (by omega),hl,qaf (by omega)]
    rw[qau (by omega)];rfl
   ·rw[if_neg (by omega),qam (by rw[qaO,hl];omega),qaO,hl,qbf,show i+l.length+(j - (i+l.length))=j by omega,dD _ hj]
 ·rw[qai (by rw[aV];omega),qai (by simp[aV];omega)]
theorem mZ{l:List Value}{n:Nat}{c:Tr Value}:bB (insT l n c) (n+l.length)=bB c n++l:=by
 apply qa2
 intro j
 by_cases hj:j<n+l.length
 ·rw[dD _ hj,rm]
  by_cases h1:j<n
  ·rw[if_neg (by omega),qaf (by rw[aV];exact h1),dD _ h1]
  ·rw[if_pos ⟨by omega,hj⟩,qam (by rw[aV];omega),aV,qau (by omega)];rfl
 ·rw[qai (by rw[aV];omega),qai (by simp[aV];omega)]
theorem xK(l:List Value):bB (insT l 0 .leaf) l.length=l:=by
 have:=mZ (l:=l) (n:=0) (c:=.leaf)
 simpa[bB]using this
def yj(c:Tr Value)(n:Nat):Nat->List Value:=Nat.rec (motive:=λ_=>Nat->List Value) (λ_=>[]) (λ_ ih off=>(bp off).get nilV c :: fN (Nat.succ off) ih) n
theorem jS(c:Tr Value):∀(n off m:Nat),off+n<=m->yj c n off=((bB c m).drop off).take n
 |0,_,_,_=>by rw[qb8];rfl
 |n+1,off,m,h=>by
  show(bp off).get nilV c :: yj c n (off+1)=_
  rw[jS c n (off+1) m (by omega)]
  have h1:off<(bB c m).length:=by rw[aV];omega
  rw[qbJ h1,qbx]
  congr 1
  have:=dD c (n:=m) (i:=off) (by omega)
  rw[qau h1]at this
  exact(qan this).symm
section
variable {R:Type}
def putR{α:Type}(d:α)(p:Pth):Tr α->α->(Tr α->R)->R:=
 Pth.rec (motive:=λ_=>Tr α->α->(Tr α->R)->R)
  (λt x k=>Tr.casesOn t (k (.node x .leaf .leaf)) λ_ l r=>k (.node x l r))
  (λ_ ih t x k=>Tr.casesOn t (ih .leaf x λl=>k (.node d l .leaf)) λv l r=>ih l x λl=>k (.node v l r))
  (λ_ ih t x k=>Tr.casesOn t (ih .leaf x λr=>k (.node d .leaf r)) λv l r=>ih r x λr=>k (.node v l r)) p
theorem jk{α:Type}(d:α):∀(p:Pth) (t:Tr α) (x:α) (k:Tr α->R),putR d p t x k=k (p.set d t x)
 | .e,t,x,k=>by cases t<;>rfl
 | .o p,t,x,k=>by
  cases t with
  |leaf=>exact jk d p .leaf x _
  |node v l r=>exact jk d p l x _
 | .i p,t,x,k=>by
  cases t with
  |leaf=>exact jk d p .leaf x _
  |node v l r=>exact jk d p r x _
def putK(h:HTr)(i:Nat)(o:HOT)(k:HTr->R):R:=match Nat.blt i h.n with
 |true=>putR noO (bp i) h.t o λt=>k ⟨h.n,t⟩
 |false=>k h
def jQ(h:HTr)(o:HOT)(k:HTr->R):R:=putR noO (bp h.n) h.t o λt=>fN (Nat.succ h.n) λn=>k ⟨n,t⟩
theorem gZ(h:HTr)(i:Nat)(o:HOT)(k:HTr->R):putK h i o k=k (h.put i o):=by
 unfold putK HTr.put
 split
 ·rename_i e;rw[jk]
 ·rfl
theorem gh(h:HTr)(o:HOT)(k:HTr->R):jQ h o k=k (h.push o):=by
 unfold jQ HTr.push
 rw[jk,eX]
def wS{α:Type}(l:List α):(List α->R)->R:=
 List.rec (motive:=λ_=>(List α->R)->R) (λk=>k []) (λx _ ih k=>ih λl=>k (x :: l)) l
theorem og{α:Type}:∀(l:List α) (k:List α->R),wS l k=k l
 | [],_=>rfl
 |x :: l,k=>og l λl=>k (x :: l)
def wT(v:Value)(k:Value->R):R:=match v with
 | .int kd n=>fI n λn=>k (.int kd n)
 | .bool b=>Bool.rec (k (.bool false)) (k (.bool true)) b
 |v=>k v
theorem plainV_eq(v:Value)(k:Value->R):wT v k=k v:=by
 unfold wT
 split
 ·exact iY _ _
 ·rename_i b;cases b<;>rfl
 ·rfl
def insK(l:List Value):Nat->Tr Value->(Tr Value->R)->R:=
 List.rec (motive:=λ_=>Nat->Tr Value->(Tr Value->R)->R) (λ_ c k=>k c) (λv _ ih i c k=>wT v λv=>putR nilV (bp i) c v λc=>fN (Nat.succ i) λi=>ih i c k) l
theorem nG:∀(l:List Value) (i:Nat) (c:Tr Value) (k:Tr Value->R),insK l i c k=k (insT l i c)
 | [],_,_,_=>rfl
 |v :: l,i,c,k=>by
  show(wT v λv=>putR nilV (bp i) c v λc=>fN (Nat.succ i) λi=>insK l i c k)=_
  rw[plainV_eq,jk,eX,nG l];rfl
def tB(o:HObj)(k:HOT->R):R:=match o with
 | .cells vs e rw=>fN vs.length λn=>insK vs 0 .leaf λc=>k (.t n e rw c)
 | .map es c=>wS es λes=>fN c λc=>k (.o (.map es c))
 |o=>k (.o o)
theorem jJ{o:HObj}{k:HOT->R}:∃x:HOT,x.ho = .o o/\tB o k=k x:=by
 cases o with
 |cells vs e rw=>
  refine⟨.t vs.length e rw (insT vs 0 .leaf),by simp only[HOT.ho,xK],?_⟩
  show(fN vs.length λn=>insK vs 0 .leaf λc=>k (.t n e rw c))=_
  rw[eX,nG]
 |map es c=>
  refine⟨.o (.map es c),rfl,?_⟩
  show(wS es λes=>fN c λc=>k (.o (.map es c)))=_
  rw[og,eX]
 |_=>exact⟨.o _,rfl,rfl⟩
def rK(l:List Lf):(List Lf->R)->R:=
 List.rec (motive:=λ_=>(List Lf->R)->R) (λk=>k []) (λx _ ih k=>match x with
  | .i n=>fI n λn=>ih λl=>k (.i n :: l)
  | .b t=>Bool.rec (ih λl=>k (.b false :: l)) (ih λl=>k (.b true :: l)) t
  | .v v=>ih λl=>k (.v v :: l)) l
theorem eC:∀(l:List Lf) (k:List Lf->R),rK l k=k l
 | [],_=>rfl
 | .i n :: l,k=>(iY n λn=>rK l λl=>k (.i n :: l)).trans (eC l _)
 | .b true :: l,k=>eC l λl=>k (.b true :: l)
 | .b false :: l,k=>eC l λl=>k (.b false :: l)
 | .v v :: l,k=>eC l λl=>k (.v v :: l)
end
end Sx
section
open Sx
abbrev RT:=Option (List Lf)
abbrev yes:RT:=some []
def ans(b:Bool):RT:=match b with|true=>yes|false=>none
abbrev af:=CK->List Lf->HTr->(List Lf->HTr->RT)->RT
def Act1.onH(h:HL):Act1->HL
 | .set i o=>h.set i (.o o)
 | .push o=>h++[.o o]
def cg(h:HL)(l:List Act1):HL:=l.foldl Act1.onH h
def getH(T:Nat->Site)(h:HL):ca:=λi=>match h[i]? with
 |some x=>some (absO T x)
 |none=>none
def getT(T:Nat->Site)(h:HTr):ca:=λi=>match h.at i with
 |some x=>some (absO T x.ho)
 |none=>none
def xD(l:List Act1):HTr->(HTr->RT)->RT:=
 List.rec (motive:=λ_=>HTr->(HTr->RT)->RT) (λh k=>k h) (λa _ ih h k=>match a with
  | .set i o=>tB o λo=>putK h i o λh=>ih h k
  | .push o=>tB o λo=>jQ h o λh=>ih h k) l
def condB(b:Bool)(x y:RT):RT:=Bool.rec y x b
def outG(k:IntKind)(c:Int)(K:Int->RT):RT:=Bool.rec (fI (k.wrap c) K) (K c) (fits k c)
def out64(c:Int)(K:Int->RT):RT:=@Bool.rec (λ_=>RT) (fI (IntKind.wrap .i64 c) K) (K c) (@Int.rec (λ_=>Bool) (λn=>Nat.ble n 9223372036854775807) (λn=>Nat.ble n 9223372036854775807) c)
def outU8(c:Int)(K:Int->RT):RT:=@Bool.rec (λ_=>RT) (fI (IntKind.wrap .u8 c) K) (K c) (@Int.rec (λ_=>Bool) (λn=>Nat.ble n 255) (λ_=>false) c)
def outK(k:IntKind)(c:Int)(K:Int->RT):RT:=@IntKind.rec (λ_=>RT) (outG .i8 c K) (outG .i16 c K) (outG .i32 c K) (out64 c K) (outU8 c K) (outG .u16 c K) (outG .u32 c K) (outG .u64 c K) k
def addK(a b:Int)(K:Int->RT):RT:=
 Int.rec (λm=>Int.rec (λn=>fN (Nat.add m n) λc=>K (.ofNat c)) (λn=>Bool.rec (fN (Nat.sub n m) λc=>K (.negSucc c)) (fN (Nat.sub m (Nat.succ n)) λc=>K (.ofNat c)) (Nat.blt n m)) b)
  (λm=>Int.rec (λn=>Bool.rec (fN (Nat.sub m n) λc=>K (.negSucc c)) (fN (Nat.sub n (Nat.succ m)) λc=>K (.ofNat c)) (Nat.blt m n)) (λn=>fN (Nat.succ (Nat.add m n)) λc=>K (.negSucc c)) b) a
def subK(a b:Int)(K:Int->RT):RT:=
 Int.rec (λm=>Int.rec (λn=>Bool.rec (fN (Nat.sub n (Nat.succ m)) λc=>K (.negSucc c)) (fN (Nat.sub m n) λc=>K (.ofNat c)) (Nat.ble n m)) (λn=>fN (Nat.succ (Nat.add m n)) λc=>K (.ofNat c)) b)
  (λm=>Int.rec (λn=>fN (Nat.add m n) λc=>K (.negSucc c)) (λn=>Bool.rec (fN (Nat.sub m (Nat.succ n)) λc=>K (.negSucc c)) (fN (Nat.sub n m) λc=>K (.ofNat c)) (Nat.ble m n)) b) a
def mulK(a b:Int)(K:Int->RT):RT:=
 Int.rec (λm=>Int.rec (λn=>fN (Nat.mul m n) λc=>K (.ofNat c)) (λn=>Nat.rec (K (.ofNat 0)) (λm' _=>fN (Nat.add (Nat.mul m n) m') λc=>K (.negSucc c)) m) b)
  (λm=>Int.rec (λn=>Nat.rec (K (.ofNat 0)) (λn' _=>fN (Nat.add (Nat.mul m n) n') λc=>K (.negSucc c)) n) (λn=>fN (Nat.mul (Nat.succ m) (Nat.succ n)) λc=>K (.ofNat c)) b) a
def quoK(a b:Int)(K:Int->RT):RT:=
 Int.rec (λm=>Int.rec (λn=>fN (Nat.div m n) λc=>K (.ofNat c)) (λ_=>fI (Int.tdiv a b) K) b) (λ_=>fI (Int.tdiv a b) K) a
def remK(a b:Int)(K:Int->RT):RT:=
 Int.rec (λm=>Int.rec (λn=>fN (Nat.mod m n) λc=>K (.ofNat c)) (λ_=>fI (Int.tmod a b) K) b) (λ_=>fI (Int.tmod a b) K) a
def isZ(b:Int):Bool:=Int.rec (λn=>Nat.beq n 0) (λ_=>false) b
def ariB(op:BinOp)(k:IntKind)(a b:Int)(K:Int->RT):RT:=
 match op with
 | .add=>addK a b λc=>outK k c K
 | .sub=>subK a b λc=>outK k c K
 | .mul=>mulK a b λc=>outK k c K
 | .quo=>Bool.rec (quoK a b λc=>outK k c K) none (isZ b)
 | .rem=>Bool.rec (remK a b K) none (isZ b)
 | .and=>match eqI b 1 with
  |true=>fI (Int.emod a 2) K
  |false=>match a,b with
   | .ofNat m,.ofNat n=>fI (.ofNat (Nat.land m n)) λc=>outK k c K
   |_,_=>none
 | .xor=>match a,b with
  | .ofNat m,.ofNat n=>fI (.ofNat (Nat.xor m n)) λc=>outK k c K
  |_,_=>none
 | .or=>match a,b with
  | .ofNat m,.ofNat n=>fI (.ofNat (Nat.lor m n)) λc=>outK k c K
  |_,_=>none
 |_=>none
def eqZK(a b:Int):Bool:=Int.rec (λm=>Int.rec (λn=>Nat.beq m n) (λ_=>false) b) (λm=>Int.rec (λ_=>false) (λn=>Nat.beq m n) b) a
def notK(b:Bool):Bool:=Bool.rec true false b
def cmpB(op:BinOp)(a b:Int)(K:Bool->RT):RT:=
 match op with
 | .eql=>K (eqZK a b)
 | .neq=>K (notK (eqZK a b))
 | .lss=>K (notK (leZ b a))
 | .leq=>K (leZ a b)
 | .gtr=>K (notK (leZ a b))
 | .geq=>K (leZ b a)
 |_=>none
def eqBK(a b:Bool):Bool:=Bool.rec (notK b) b a
def eqLf(x y:Lf):Bool:=Lf.rec (λa=>Lf.rec (λb=>eqZK a b) (λ_=>false) (λ_=>false) y) (λa=>Lf.rec (λ_=>false) (λb=>eqBK a b) (λ_=>false) y) (λ_=>false) x
def eqsV(l:List (Lf×Lf)):Bool:=List.rec true (λp _ ih=>Bool.rec false ih (eqLf p.1 p.2)) l
def eqsB(l:List (Lf×Lf))(K:Bool->RT):RT:=K (eqsV l)
def convB(k:IntKind)(a:Int)(K:Int->RT):RT:=outK k a K
def selB(t:Bool)(a b:Int)(K:Int->RT):RT:=Bool.rec (K b) (K a) t
def optB{α:Type}(o:Option α)(K:α->RT):RT:=Option.rec none K o
def unIB(ls:List Lf)(K:Int->List Lf->RT):RT:=List.rec none (λx r _=>Lf.rec (λn=>K n r) (λ_=>none) (λ_=>none) x) ls
def unBB(ls:List Lf)(K:Bool->List Lf->RT):RT:=List.rec none (λx r _=>Lf.rec (λ_=>none) (λn=>K n r) (λ_=>none) x) ls
def unVB(ls:List Lf)(K:Value->List Lf->RT):RT:=List.rec none (λx r _=>Lf.rec (λ_=>none) (λ_=>none) (λn=>K n r) x) ls
def un0B(ls:List Lf)(K:RT):RT:=List.rec K (λ_ _ _=>none) ls
def ucIB(k:IntKind)(ls:List Value)(K:Int->List Value->RT):RT:=match ls with | .int k' n :: r=>(match dX k k' with|true=>K n r|false=>none)|_=>none
def ucBB(ls:List Value)(K:Bool->List Value->RT):RT:=match ls with | .bool n :: r=>K n r|_=>none
def ucVB(ls:List Value)(K:Value->List Value->RT):RT:=match ls with|n :: r=>K n r|_=>none
def uc0B(ls:List Value)(K:RT):RT:=match ls with | []=>K|_=>none
def spot0(s:Option Nat):Bool:=match s with
 |none=>true
 |some k=>match k with
  |0=>false
  |_=>true
def goodF(v:Value):Bool:=match v with
 | .pointer (some a)=>spot0 a.spot
 | .slice (some a) _ _=>spot0 a.spot
 |v=>bf v
def chkB(v:Value)(K:RT):RT:=match goodF v with|true=>K|false=>none
def lenR{α:Type}(l:List α):Nat:=List.rec 0 (λ_ _ n=>Nat.succ n) l
def ldB(n:Nat)(p:Value)(h:HTr)(K:List Value->RT):RT:=match p with
 | .pointer (some a)=>match a.spot with
  |none=>match h.at a.block with
   |some (.t m _ _ c)=>match Nat.ble (Nat.add a.off n) m with
    |true=>K (yj c n a.off)
    |false=>none
   |_=>none
  |some _=>none
 |_=>none
def lgB(C:Cfg)(n:Nat)(p:Value)(h:HTr)(K:List Value->RT):RT:=match p with
 | .pointer (some a)=>match a.spot with
  |none=>match h.at a.block with
   |some (.t m _ _ c)=>match Nat.ble (Nat.add a.off n) m with
    |true=>K (yj c n a.off)
    |false=>none
   |_=>none
  |some k=>match Nat.beq k 1 with
   |true=>match C.G a.block with
    |some vs=>match cutL vs a.off n with
     |some cs=>K cs
     |none=>none
    |none=>none
   |false=>none
 |_=>none
def peekB(T:Nat->Site)(f:Pk)(h:HTr)(K:List Value->RT):RT:=match f with
 | .ld n p=>ldB n p h K
 | .lg C n p=>lgB C n p h K
 | .fn f=>match f (getT T h)with|some x=>K x|none=>none
def stB(p:Value)(new:List Value)(h:HTr)(K:List Value->HTr->RT):RT:=match p with
 | .pointer (some a)=>match a.spot with
  |none=>match h.at a.block with
   |some (.t m e true c)=>match Nat.ble (Nat.add a.off (lenR new)) m with
    |true=>insK new a.off c λc=>putK h a.block (.t m e true c) λh=>K [] h
    |false=>none
   |_=>none
  |some _=>none
 |_=>none
def tagB(s:Option Nat)(esz:Nat):Bool:=match s with
 |none=>false
 |some k=>Nat.beq k (Nat.add esz 10)
def slB(C:Cfg)(T:Nat->Site)(esz:Nat)(x:Value)(h:HTr)(K:List Value->Nat->RT):RT:=match x with
 | .slice (some a) len _=>match tagB a.spot esz with
  |true=>match h.at a.block with
   |some (.t m e _ c)=>match Nat.beq e esz,Nat.ble (Nat.add a.off (Nat.mul len esz)) m with
    |true,true=>K (yj c (Nat.mul len esz) a.off) len
    |_,_=>none
   |_=>none
  |false=>match slG C esz (getT T h) x with
   |some p=>K p.1 p.2
   |none=>none
 |x=>match slG C esz (getT T h) x with
  |some p=>K p.1 p.2
  |none=>none
def growB(c:Tr Value)(m off w esz:Nat)(new:List Value)(k:HOT->RT):RT:=match Nat.beq off 0,Nat.beq w m with
 |true,true=>insK new m c λc=>fN (Nat.add m (lenR new)) λm=>k (.t m esz true c)
 |_,_=>tB (.cells (yj c w off++new) esz true) k
def apB(T:Nat->Site)(C:Cfg)(esz bytes:Nat)(s x:Value)(h:HTr)(K:List Value->HTr->RT):RT:=
 slB C T esz x h λnew n=>match s with
  | .slice none 0 0=>match n with
   |0=>K [.slice none 0 0] h
   |n+1=>match cC (n+1) bytes with
    |true=>tB (.cells new esz true) λo=>jQ h o λh'=>fN (n+1) λn=>K [.slice (some ⟨h.n,0,tag esz⟩) n 0] h'
    |false=>none
  | .slice (some a) len cx=>match tagB a.spot esz with
   |false=>none
   |true=>match h.at a.block with
    |some (.t m e rw c)=>match Nat.beq e esz,Nat.ble (Nat.add a.off (Nat.mul len esz)) m with
     |true,true=>match cx with
      |0=>match n with
       |0=>K [.slice (some a) len 0] h
       |n+1=>match rw,cC (len+(n+1)) bytes with
        |true,true=>growB c m a.off (Nat.mul len esz) esz new λo=>putK h a.block (.o .dead) λh'=>jQ h' o λh''=>fN (len+(n+1)) λl=>K [.slice (some ⟨h.n,0,tag esz⟩) l 0] h''
        |_,_=>none
      |cap+1=>match Nat.ble (len+n) cap with
       |true=>match rw,Nat.ble (Nat.add (Nat.add a.off (Nat.mul len esz)) (lenR new)) m with
        |true,true=>insK new (Nat.add a.off (Nat.mul len esz)) c λc=>putK h a.block (.t m e true c) λh'=>fN (len+n) λl=>K [.slice (some a) l (cap+1)] h'
        |_,_=>none
       |false=>match cC (len+n) bytes with
        |true=>growB c m a.off (Nat.mul len esz) esz new λo=>jQ h o λh'=>fN (len+n) λl=>K [.slice (some ⟨h.n,0,tag esz⟩) l 0] h'
        |false=>none
     |_,_=>none
    |_=>none
  |_=>none
def heapB(T:Nat->Site)(f:Hp)(h:HTr)(K:List Value->HTr->RT):RT:=match f with
 | .st p new=>stB p new h K
 | .ap C esz bytes s x=>apB T C esz bytes s x h K
 | .fn f=>match f (getT T h) h.n with|some p=>wS p.2 λcs=>xD p.1 h λh=>K cs h|none=>none
def newB(o:HObj)(h:HTr)(K:Nat->HTr->RT):RT:=tB o λo=>jQ h o λh'=>K h.n h'
def toSL(k:LK)(v:Value):Option SL:=
 match k with
 | .i k=>match v with
  | .int k' n=>match dX k' k with
   |true=>some (.i k' n)
   |false=>none
  |_=>none
 | .b=>match v with
  | .bool t=>some (.b t)
  |_=>none
 | .v=>match bf v with
  |true=>some (.v v)
  |false=>none
def toSLs:List LK->List Value->Option (List SL)
 | [],[]=>some []
 |k :: ks,v :: vs=>match toSL k v with
  |some x=>match toSLs ks vs with
   |some xs=>some (x :: xs)
   |none=>none
  |none=>none
 |_,_=>none
def toS0(sk:SK)(v:Value):Option S0:=
 match sk with
 | .leaf k=>(toSL k v).map .leaf
 | .agg ks=>match v with
  | .agg cs=>(toSLs ks cs.toList).map .agg
  |_=>none
def toS0s:List SK->List Value->Option (List S0)
 | [],[]=>some []
 |k :: ks,v :: vs=>match toS0 k v with
  |some x=>match toS0s ks vs with
   |some xs=>some (x :: xs)
   |none=>none
  |none=>none
 |_,_=>none
def eqLK:LK->LK->Bool
 | .i a,.i b=>dX a b
 | .b,.b=>true
 | .v,.v=>true
 |_,_=>false
def eqLKs:List LK->List LK->Bool
 | [],[]=>true
 |a :: l,b :: m=>eqLK a b&&eqLKs l m
 |_,_=>false
def eqSK:SK->SK->Bool
 | .leaf a,.leaf b=>eqLK a b
 | .agg a,.agg b=>eqLKs a b
 |_,_=>false
def eqSKs:List SK->List SK->Bool
 | [],[]=>true
 |a :: l,b :: m=>eqSK a b&&eqSKs l m
 |_,_=>false
def fj(ls:List Lf):Bool:=List.rec true (λl _ ih=>match l with
 | .v x=>(match goodF x with
  |true=>ih
  |false=>false)
 |_=>ih) ls
section
variable (Sg:FuncId->Option Sig) (T:Nat->Site) (call:af)
def xH(g:FuncId)(ls:List Lf)(h:HTr)(K:List Lf->HTr->RT):RT:=match fj ls with|true=>call (.f g) ls h K|false=>none
def ml(g:FuncId)(hs:Option (List SK))(vals:List Value)(h:HTr)(K:List Lf->HTr->RT):RT:=
 match Sg g with
 |none=>none
 |some sg=>match (match hs with|none=>true|some hs=>eqSKs sg.rs hs)with
  |false=>none
  |true=>match toS0s sg.ps vals with
   |none=>none
   |some xs=>xH call g (bC xs) h K
def callvB(v:Value)(args:List Value)(hs:List SK)(h:HTr)(K:List Lf->HTr->RT):RT:=
 match v with
 | .func fn first cap=>match fn with
  | .func g=>ml Sg call g (some hs) (first.toList++args++cap.toList) h K
  | .yield l=>match first.toList,cap.toList with
   | [],[]=>match h.at l with
    |some (.lp κ _ _ vs)=>match eqSKs [.leaf .b] hs with
     |false=>none
     |true=>match toS0s ((T κ).params.map (·.2)) args with
      |none=>none
      |some xs=>match fj (bC xs)with
       |true=>call (.y κ vs l) (bC xs) h K
       |false=>none
    |_=>none
   |_,_=>none
  |_=>none
 |_=>none
def rfunB(κ:Nat)(v:Value)(vals:List Value)(h:HTr)(K:Option Code->HTr->RT):RT:=
 match v with
 | .func fn first cap=>match fn with
  | .func g=>jQ h (.lp κ .ready none vals) λh0=>ml Sg call g none (first.toList++[.func (.yield h.n) #[] #[]]++cap.toList) h0 λ_ h1=>match h1.at h.n with
   |some (.lp κ' st pd vs)=>match st with
    | .busy=>none
    |_=>putK h1 h.n (.lp κ' .exhausted pd vs) λh2=>K pd h2
   |_=>none
  |_=>none
 |_=>none
def pendB(pd:Option Code)(kn kr:RT)(ks:List (Nat×RT)):RT:=
 match pd with
 |none=>kn
 |some c=>match c with
  | .ret=>kr
  | .exit id=>List.rec none (λp _ ih=>match Nat.beq p.1 id with|true=>p.2|false=>ih) ks
  |_=>none
def lp1B(l:Nat)(h:HTr)(K:HTr->RT):RT:=
 match h.at l with
 |some (.lp κ st pd vs)=>match st with
  | .ready=>putK h l (.lp κ .busy pd vs) K
  |_=>none
 |_=>none
def lp2B(l:Nat)(j:Option Code)(h:HTr)(K:HTr->RT):RT:=
 match h.at l with
 |some (.lp κ _ _ vs)=>match j with
  |none=>putK h l (.lp κ .ready none vs) K
  |some c=>putK h l (.lp κ .done (some c) vs) K
 |_=>none
end
def loopB(F:(List Lf->HTr->RT)->List Lf->HTr->RT)(ls:List Lf)(h:HTr):RT:=
 Nat.rec (motive:=λ_=>List Lf->HTr->RT) (λ_ _=>none) (λ_ ih ls h=>F ih ls h) 1000000 ls h
def joinB(b:List Lf->HTr->RT)(m:(List Lf->HTr->RT)->RT):RT:=m b
def shfB(op:BinOp)(k:IntKind)(a:Int)(_:IntKind)(b:Int)(K:Int->RT):RT:=match leZ 0 b with
 |true=>match op with
  | .shl=>fI (k.wrap (a*2 ^ min b.toNat k.bits)) K
  | .shr=>fI (a.fdiv (2 ^ min b.toNat k.bits)) K
  |_=>none
 |false=>none
def BA(Sg:FuncId->Option Sig)(T:Nat->Site)(call:af):Alg RT HTr where
 fail:=none
 cond:=condB
 ari:=ariB
 shf:=shfB
 cmp:=cmpB
 eqs:=eqsB
 conv:=convB
 sel:=selB
 opt:=optB
 chk:=chkB
 unI:=unIB
 unB:=unBB
 unV:=unVB
 un0:=un0B
 ucI:=ucIB
 ucB:=ucBB
 ucV:=ucVB
 uc0:=uc0B
 peek:=peekB T
 heap:=heapB T
 new:=newB
 call:=xH call
 callv:=callvB Sg T call
 join:=joinB
 loop:=loopB
 rfun:=rfunB Sg call
 pend:=pendB
 lp1:=lp1B
 lp2:=lp2B
end
namespace Sx
section
variable [Val] [Kno]
def wAt(pts:List Nat)(tm:List Value)(o:Oper):List Nat:=(wOps pts o).flatMap λx=>adr (oval tm x)
def fAt(pts:List Nat)(tm:List Value)(o:Oper):List Nat:=(cY pts o).1.flatMap λx=>adrK (cY pts o).2 (oval tm x)
def dstIn(pts:List Nat)(tm:List Value)(o:Oper):Prop:=∀d,o.dst=some d->hCls pts o=2->∃v,tm[d]? = some v
def SepAt(pts:List Nat)(ops:Array Oper)(tm:List Value)(ps:List (Nat×Nat)):Prop:=
 ∀p∈ps,∃a b,ops[p.1]? = some a/\ops[p.2]? = some b/\(∀x∈wAt pts tm a,x∉fAt pts tm b)/\(∀x∈wAt pts tm a,x∉wAt pts tm b)/\(∀x∈wAt pts tm b,x∉fAt pts tm a)/\dstIn pts tm a/\dstIn pts tm b
def SameAt(ops:Array Oper)(k:Nat)(σ σ':St):Prop:=∃o d x,ops[k]? = some o/\o.dst=some d/\σ.tmps[d]? = some x/\σ'.tmps[d]? = some x
def DrOk(C:Cfg)(dr:Dr):Prop:=∀pts ops ps,dr pts ops=some ps->match splOf ps with
 |none=>∀(n:Nat) (σ σ':St),bg C (sm C n).toBelow pts ops (List.range ops.size) σ σ'->SepAt pts ops σ'.tmps ps->eF C (sm C n).toBelow pts ops σ σ'
 |some p=>∀(n:Nat) (σ σ₁ σ₂ σ':St),bg C (sm C n).toBelow pts ops (List.range' 0 (ops.toList.take (p.2+1)).length) σ σ₁->ak C (sm C n).toBelow pts ops p.1 σ₁ σ₂->SameAt ops p.1 σ₁ σ₂->
   bg C (sm C n).toBelow pts ops (List.range' (p.2+1) (ops.toList.drop (p.2+1)).length) σ₁ σ'->eF C (sm C n).toBelow pts ops σ σ'
theorem wC{x:Nat}:∀ {l:List Nat},memN x l=true↔x∈l
 | []=>by simp[memN]
 |y :: l=>by
  unfold memN
  cases h:Nat.beq x y with
  |true=>simp[qac h]
  |false=>
   have:x≠y:=λe=>by subst e;rw[show Nat.beq x x=true from qbM x]at h;cases h
   simp only[qaj,this,false_or]
   exact wC
theorem vW:∀ {l m:List Nat},disjN l m=true->∀x∈l,x∉m
 | [],_,_,_,h=>by cases h
 |y :: l,m,h,x,hx=>by
  unfold disjN at h
  cases hm:memN y m with
  |true=>rw[hm]at h;cases h
  |false=>
   rw[hm]at h
   rcases qaj.1 hx with rfl|hx
   ·intro e;rw[wC.2 e]at hm;cases hm
   ·exact vW h x hx
theorem sepL_ok:∀ {l:List (Value×Nat×Value)} {u:Unit},sepL l=some u->∀p∈l,∀r∈adr p.1,r∉adrK p.2.1 p.2.2
 | [],_,_,_,h=>by cases h
 |q :: l,u,h,p,hp=>by
  unfold sepL at h
  split at h
  ·rename_i hd
   rcases qaj.1 hp with rfl|hp
   ·exact vW hd
   ·exact sepL_ok h p hp
  ·cases h
theorem entV_ok{ev:Env}{σ:St}(hR:Rp ev σ){x:Operand}{us:List Value}(h:entV (sval ev x)=some us)(k r:Nat)(hr:r∈adrK k (oval σ.tmps x)):∃u∈us,r∈adrK k u:=by
 have hn:sval ev x≠.no:=λe=>by rw[e]at h;cases h
 have hv:=(hR.sval rfl hn).1
 rw[hv]at hr
 generalize sval ev x=s at *
 have none:adrK k s.val=[]->∃u∈us,r∈adrK k u:=λe=>by rw[e]at hr;cases hr
 cases s with
 |st y=>
  cases y with
  |leaf l=>
   cases l with
   |v u=>
    cases h
    exact⟨u,by simp,hr⟩
   |_=>exact none (by cases k with|zero=>rfl|succ k=>cases k<;>rfl)
  |agg cs=>exact none (by cases k with|zero=>rfl|succ k=>cases k<;>rfl)
 |no=>exact absurd rfl hn
 |_=>exact none (by cases k with|zero=>rfl|succ k=>cases k<;>rfl)
theorem fT{ev:Env}{σ:St}(hR:Rp ev σ):∀ {l:List Operand} {us:List Value},qP ev l=some us->∀(k r:Nat),r∈l.flatMap (λx=>adrK k (oval σ.tmps x))->∃u∈us,r∈adrK k u
 | [],_,_,_,_,h=>by cases h
 |x :: l,us,h,k,r,hr=>by
  unfold qP at h
  split at h
  ·rename_i a b ha hb
   cases h
   rw[qbd,qaP]at hr
   rcases hr with hr|hr
   ·obtain⟨u,h1,h2⟩:=entV_ok hR ha k r hr
    exact⟨u,qaQ _ h1,h2⟩
   ·obtain⟨u,h1,h2⟩:=fT hR hb k r hr
    exact⟨u,qa3 _ h1,h2⟩
  ·cases h
theorem nq{ev:Env}{σ:St}(hR:Rp ev σ){d:Nat}:∀ {l:List Operand} {us:List Value},qP ev l=some us->Operand.tmp d∈l->∃v,σ.tmps[d]? = some v
 |x :: l,us,h,hm=>by
  unfold qP at h
  split at h
  ·rename_i a b ha hb
   rcases qaj.1 hm with rfl|hm
   ·have hn:sval ev (.tmp d)≠.no:=λe=>by rw[e]at ha;cases ha
    exact⟨_,(hR.at (s:=ev.tm.getD d .no) rfl hn).1⟩
   ·exact nq hR hb hm
  ·cases h
theorem si{pts:List Nat}{o:Oper}{d:Nat}(hd:o.dst=some d)(h:hCls pts o=2):Operand.tmp d∈wOps pts o:=by
 unfold wOps
 rw[h,hd]
 simp
theorem ni{us vs:List Value}{k:Nat}{u v:Value}(hu:u∈us)(hv:v∈vs):(u,k,v)∈cross us k vs:=by
 unfold cross
 exact qbB.2 ⟨u,hu,qaI.2 ⟨v,hv,rfl⟩⟩
theorem sepOne_ok{pts:List Nat}{ev:Env}{σ:St}(hR:Rp ev σ){a b:Oper}{l:List (Value×Nat×Value)}(h:sepOne pts ev a b=some l)(hs:∀p∈l,∀r∈adr p.1,r∉adrK p.2.1 p.2.2) :
  (∀x∈wAt pts σ.tmps a,x∉fAt pts σ.tmps b)/\(∀x∈wAt pts σ.tmps a,x∉wAt pts σ.tmps b)/\(∀x∈wAt pts σ.tmps b,x∉fAt pts σ.tmps a)/\dstIn pts σ.tmps a/\dstIn pts σ.tmps b:=by
 unfold sepOne at h
 split at h
 ·rename_i wa wb fa fb h1 h2 h3 h4
  cases h
  refine⟨λx hx hy=>?_,λx hx hy=>?_,λx hx hy=>?_,λd hd hc=>nq hR h1 (si hd hc),λd hd hc=>nq hR h2 (si hd hc)⟩
  ·obtain⟨u,u1,u2⟩:=fT hR h1 0 x hx
   obtain⟨v,v1,v2⟩:=fT hR h4 _ x hy
   exact hs (u,_,v) (qaQ _ (qaQ _ (ni u1 v1))) x u2 v2
  ·obtain⟨u,u1,u2⟩:=fT hR h1 0 x hx
   obtain⟨v,v1,v2⟩:=fT hR h2 0 x hy
   exact hs (u,0,v) (qaQ _ (qa3 _ (ni u1 v1))) x u2 v2
  ·obtain⟨u,u1,u2⟩:=fT hR h2 0 x hx
   obtain⟨v,v1,v2⟩:=fT hR h3 _ x hy
   exact hs (u,_,v) (qa3 _ (ni u1 v1)) x u2 v2
 ·cases h
theorem qi{pts:List Nat}{ops:Array Oper}{ev:Env}{σ:St}(hR:Rp ev σ):∀ {ps:List (Nat×Nat)} {l:List (Value×Nat×Value)},rU pts ops ev ps=some l->(∀p∈l,∀r∈adr p.1,r∉adrK p.2.1 p.2.2)->SepAt pts ops σ.tmps ps
 | [],_,_,_,_,h=>by cases h
 |q :: ps,l,h,hs,p,hp=>by
  unfold rU at h
  split at h
  ·rename_i a b r ha hb hr
   obtain⟨x,hx,rfl⟩:=qae.1 h
   rcases qaj.1 hp with rfl|hp
   ·exact⟨a,b,ha,hb,sepOne_ok hR hx λp hp=>hs p (qaQ _ hp)⟩
   ·exact qi hR hr (λp hp=>hs p (qa3 _ hp)) p hp
  ·cases h
theorem eqFn_ok{x y:Value}{u:Unit}(h:eqFn x y=some u):x=y:=by
 unfold eqFn at h
 split at h
 ·split at h
  ·split at h
   ·rename_i l a b _ m c d e1 e2 e3 e4 e5
    have e1:=qac e1
    have f:∀ {a:Array Value},a.toList=[]->a = #[]:=λh=>qa5.1 h
    rw[e1,f e2,f e3,f e4,f e5]
   ·cases h
  ·cases h
 ·cases h
theorem entF_ok{ev:Env}{σ:St}(hR:Rp ev σ){d:Nat}{x:Value}(h:entF (ev.tm.getD d .no)=some x):σ.tmps[d]? = some x:=by
 unfold entF at h
 split at h
 ·rename_i y hy
  cases h
  exact(hR.at hy (by simp)).1
 ·cases h
theorem sepK_ok{R HT:Type}{A:Alg R HT}{C:Cfg}{Sg:FuncId->Option Sig}{T:Nat->Site}{holds:R->Prop}{abs:HT->List HObj}(hA:AlgOk A C Sg T holds abs){pts:List Nat}{ops:Array Oper}{ps:List (Nat×Nat)}{kn:KN R HT}{ev:Env}{σ:St}(hR:Rp ev σ){h:HT}(hk:holds (sepK A pts ops ps kn ev h)) :
  SepAt pts ops σ.tmps ps/\holds (kn ev h):=by
 unfold sepK at hk
 split at hk
 ·exact⟨λp hp=>(by cases hp),hk⟩
 ·simp only at hk
  split at hk
  ·rename_i l hl
   obtain⟨u,h1,h2⟩:=hA.opt _ _ hk
   exact⟨qi hR hl (sepL_ok h1),h2⟩
  ·exact absurd hk hA.fail
end
end Sx
section
variable [Val] [Kno] {R HT:Type} {A:Alg R HT} {X:Ctxt} {Sg:FuncId->Option Sig} {holds:R->Prop} {abs:HT->List HObj}
variable {ev:Env} {σ:St} {h:HT} {o:Oper} {K:KN R HT}
def StepO(C:Cfg)(pts:List Nat)(o:Oper)(σ σ':St):Prop:=
 (∃e,al C pts (oval σ.tmps) o=some e/\jC (uB C) e o.dst σ σ')∨(∃v,iR C σ.tmps o v/\σ'=σ.put o.dst v)
def tP(pts:List Nat)(o:Oper):Option Nat:=
 match o.op,o.dst with
 | .box ..,some d=>if pts.getD d 0=d+2 then some d else none
 | .alloc _,some d=>if pts.getD d 0=d+2 then some d else none
 |_,_=>none
def Done(X:Ctxt)(holds:R->Prop)(abs:HT->List HObj)(o:Oper)(σ:St)(K:KN R HT):Prop:=
 ∃σ' ev' h',StepO X.C X.pts o σ σ'/\Rp ev' σ'/\abs h'=σ'.heap/\Fr o.dst.toList (tP X.pts o).toList (jg X.pts o).toList σ σ'/\holds (K ev' h')
theorem vz(hR:Rp ev σ){dst:Option Tmp}{s:SV}(hs:s.gd)(hk:holds (setD dst s ev h K)):∃ev',Rp ev' (σ.put dst s.val)/\holds (K ev' h):=by
 unfold setD at hk
 cases dst with
 |none=>exact⟨ev,hR,hk⟩
 |some d=>
  simp only[setK_eq]at hk
  exact⟨_,hR.put d hs,hk⟩
theorem dq(hR:Rp ev σ)(H':List HObj)(ha:abs h=H'){s:SV}(hs:s.gd)
  (hst:StepO X.C X.pts o σ (({ σ with heap:=H' }:St).put o.dst s.val)) (hk:holds (setD o.dst s ev h K)):Done X holds abs o σ K:=by
 obtain⟨ev',h1,h2⟩:=vz (hR.heap H') hs hk
 refine⟨_,ev',h,hst,h1,?_,?_,h2⟩
 ·rw[ha];cases o.dst<;>rfl
 ·have:=Fr.put (σ:=({ σ with heap:=H' }:St)) o.dst s.val (tP X.pts o).toList (jg X.pts o).toList
  exact⟨this.tlen,this.llen,this.tm,this.tp,this.row,this.rlen⟩
theorem aB(hR:Rp ev σ)(ha:abs h=σ.heap){s:SV}(hs:s.gd)(he:al X.C X.pts (oval σ.tmps) o=some (.val s.val))(hk:holds (setD o.dst s ev h K)) :
  Done X holds abs o σ K:=
 dq hR σ.heap ha hs (.inl ⟨_,he,_,rfl,rfl⟩) hk
theorem bQ(hR:Rp ev σ)(ha:abs h=σ.heap){s:SV}(hs:s.gd)(he:iR X.C σ.tmps o s.val)(hk:holds (setD o.dst s ev h K)) :
  Done X holds abs o σ K:=
 dq hR σ.heap ha hs (.inr ⟨_,he,rfl⟩) hk
theorem gM(hR:Rp ev σ)(ha:abs h=σ.heap){s:SV}(hs:s.gd){f:List HObj->Option Value}(he:al X.C X.pts (oval σ.tmps) o=some (.hget f))(hf:f σ.heap=some s.val)
  (hk:holds (setD o.dst s ev h K)):Done X holds abs o σ K:=
 dq hR σ.heap ha hs (.inl ⟨_,he,(σ,s.val),by simp[aI,hf],rfl⟩) hk
theorem cZ(hR:Rp ev σ){H':List HObj}(ha:abs h=H'){s:SV}(hs:s.gd){f:List HObj->Option (List HObj×Value)}(he:al X.C X.pts (oval σ.tmps) o=some (.hop f))
  (hf:f σ.heap=some (H',s.val)) (hk:holds (setD o.dst s ev h K)):Done X holds abs o σ K:=
 dq hR H' ha hs (.inl ⟨_,he,({ σ with heap:=H' },s.val),by simp[aI,hf],rfl⟩) hk
theorem move_ok(hR:Rp ev σ)(ha:abs h=σ.heap){x:Operand}(ho:o.op = .move x∨o.op = .assign x){y:SV}(hy:sval ev x=y)(hn:y≠.no)(hk:holds (setD o.dst y ev h K)):Done X holds abs o σ K:=by
 obtain⟨h1,h2⟩:=hR.sval hy hn
 refine aB hR ha h2 ?_ hk
 rcases ho with ho|ho<;>simp only[al,ho,h1]
theorem pick_ok(hA:AlgOk A X.C Sg X.T holds abs)(hR:Rp ev σ)(ha:abs h=σ.heap){c a b:Operand}(ho:o.op = .pick c a b)
  (hk:holds (match sval ev c,sval ev a,sval ev b with
  | .st (.leaf (.l true)),.st y,_=>setD o.dst (.st y) ev h K
  | .st (.leaf (.l false)),_,.st y=>setD o.dst (.st y) ev h K
  | .st (.leaf (.b t)),.st y,.st z=>A.cond t (setD o.dst (.st y) ev h K) (setD o.dst (.st z) ev h K)
  |_,_,_=>A.fail)):Done X holds abs o σ K:=by
 split at hk
 ·rename_i y e1 e2
  obtain⟨h1,_⟩:=hR.sval e1 (by simp)
  obtain⟨h2,g2⟩:=hR.sval e2 (by simp)
  refine aB hR ha g2 ?_ hk
  simp only[al,ho,h1,SV.val,S0.val,SL.val,if_true,h2]
 ·rename_i y e1 e2
  obtain⟨h1,_⟩:=hR.sval e1 (by simp)
  obtain⟨h2,g2⟩:=hR.sval e2 (by simp)
  refine aB hR ha g2 ?_ hk
  simp only[al,ho,h1,SV.val,S0.val,SL.val,h2,qar,if_false]
 ·rename_i t y z e1 e2 e3
  obtain⟨h1,_⟩:=hR.sval e1 (by simp)
  obtain⟨h2,g2⟩:=hR.sval e2 (by simp)
  obtain⟨h3,g3⟩:=hR.sval e3 (by simp)
  rcases hA.cond _ _ _ hk with⟨ht,hk⟩|⟨ht,hk⟩
  ·refine aB hR ha g2 ?_ hk
   simp only[al,ho,h1,SV.val,S0.val,SL.val,ht,if_true,h2]
  ·refine aB hR ha g3 ?_ hk
   simp only[al,ho,h1,SV.val,S0.val,SL.val,ht,h3,qar,if_false]
 ·exact absurd hk hA.fail
theorem newV_ok(hA:AlgOk A X.C Sg X.T holds abs)(hR:Rp ev σ)(ha:abs h=σ.heap){t:TypeId}{x:S0}(hx:x.good)(he:al X.C X.pts (oval σ.tmps) o=bY X.C X.pts o.dst t x.val)
  (hb:(∃y,o.op = .box t y)∨o.op = .alloc t) (hk:holds (newV A X o.dst t x ev h K)):Done X holds abs o σ K:=by
 unfold newV at hk
 split at hk
 ·exact absurd hk hA.fail
 ·rename_i d hd
  have eN:=S0.cells_val hx
  have hok:=S0.cells_ok hx
  have hnt:=S0.not_tuple hx
  split at hk
  ·rename_i hp
   have hp:X.pts.getD d 0=d+2:=by simpa using hp
   split at hk
   ·rename_i hl
    rw[setK_eq,setK_eq]at hk
    have hrow:ev.lc[d]? = some .nil:=by
     rw[List.getD_eq_getElem?_getD]at hl
     cases he:ev.lc[d]? with
     |none=>rw[he]at hl;cases hl
     |some r=>rw[he]at hl;simp at hl;rw[hl]
    have hloc:σ.loc[d]? = some none:=hR.row d _ hrow
    have heff:al X.C X.pts (oval σ.tmps) o=some (.lnew d (x.cells.map SL.val)):=by
     rw[he,hd]
     unfold bY
     simp only[hnt,qar,if_false,eN,cells_ok' hx,qaJ,hp,if_true]
    let σ₁:St:={ σ with loc:=σ.loc.set d (some (x.cells.map SL.val)) }
    have hR1:Rp ⟨ev.tm,ev.lc.set d (.row x.cells)⟩ σ₁:=by
     refine⟨hR.len,hR.val,by simp[σ₁,hR.llen],λi r hr=>?_⟩
     simp only[qaV]at hr
     split at hr
     ·rename_i hi
      subst hi
      split at hr
      ·rename_i hlt
       cases hr
       exact⟨by simp only[σ₁];rw[qaD (by rw[←hR.llen];exact hlt)],hx⟩
      ·cases hr
     ·rename_i hi
      have:=hR.row i r hr
      have hne:σ₁.loc[i]? = σ.loc[i]?:=by simp only[σ₁];rw[qal hi]
      cases r<;>first|trivial|(simp only[LR.ok]at this ⊢;rw[hne];exact this)
    have hkey:tP X.pts o=some d:=by
     rcases hb with⟨y,hb⟩|hb<;>(simp only[tP,hb,hd];rw[if_pos hp])
    have hrow':jg X.pts o=some d:=by
     rcases hb with⟨y,hb⟩|hb<;>(simp only[jg,hb,hd];rw[if_pos hp])
    refine⟨σ₁.put o.dst (.pointer (some ⟨d,0,some 0⟩)),_,h,.inl ⟨_,heff,(σ₁,.pointer (some ⟨d,0,some 0⟩)),by simp[aI,hloc,σ₁],rfl⟩,?_,?_,?_,hk⟩
    ·rw[hd];exact hR1.put d (s:=.lad d 0) trivial
    ·rw[ha];cases o.dst<;>rfl
    ·have hf:=Fr.put (σ:=σ₁) o.dst (.pointer (some ⟨d,0,some 0⟩)) [d] [d]
     have h0:Fr o.dst.toList [d] [d] σ σ₁:=by
      refine⟨rfl,by simp[σ₁],λ_ _ h _ _=>h,λ_ _ _ h _ _=>h,λs y hs hn=>?_,λs vs hs hn=>?_⟩
      ·simp only[qax]at hn
       simp only[σ₁]
       rw[qal (λe=>hn e.symm)];exact hs
      ·simp only[qax]at hn
       refine⟨vs,?_,rfl⟩
       simp only[σ₁]
       rw[qal (λe=>hn e.symm)];exact hs
     rw[hkey,hrow']
     exact h0.trans hf
   ·exact absurd hk hA.fail
  ·rename_i hp
   have hp:¬X.pts.getD d 0=d+2:=λe=>by rw[e]at hp;simp at hp
   obtain⟨h',e1,e2⟩:=hA.new _ _ _ hk
   rw[ha]at e1 e2
   have heff:al X.C X.pts (oval σ.tmps) o=some (.hop λH=>some (H++[.cells x.val.cells.toList (ll X.C.P t) true],.pointer (some ⟨H.length,0,none⟩))):=by
    rw[he,hd]
    unfold bY
    simp only[hnt,qar,if_false,hok,qaJ,hp]
   rw[←hd]at e2
   refine cZ (s:=.st (.leaf (.v (.pointer (some ⟨σ.heap.length,0,none⟩))))) hR e1 (λl hl=>?_) heff ?_ e2
   ·simp only[S0.cells,qax]at hl
    subst hl;rfl
   ·simp only[eN];rfl
theorem vO(new:List Value):∀(off k:Nat) (cs:List Value),off+k+new.length<=cs.length->
  ((new.zipIdx k).foldl (λ(acc:Array Value) (p:Value×Nat)=>acc.setIfInBounds (off+p.2) p.1) cs.toArray).toList=cs.take (off+k)++new++cs.drop (off+k+new.length):=by
 induction new with
 |nil=>intro off k cs h;simp
 |cons a l ih=>
  intro off k cs h
  simp only[qaE]at h
  simp only[List.zipIdx_cons,qco]
  have hset:(cs.toArray.setIfInBounds (off+k) a)=(cs.set (off+k) a).toArray:=by simp
  rw[hset,ih off (k+1) (cs.set (off+k) a) (by simp;omega)]
  rw[List.take_set,List.drop_set]
  have h1:(cs.take (off+(k+1))).set (off+k) a=cs.take (off+k)++[a]:=by
   rw[show off+(k+1)=(off+k)+1 from by omega]
   rw[List.take_succ_eq_append_getElem (by omega),List.set_append]
   simp[qbQ (show off+k<=cs.length by omega)]
  rw[h1]
  rw[if_pos (show off+k<off+(k+1)+l.length by omega),show off+(k+1)+l.length=off+k+(l.length+1)by omega]
  simp only[qaC,qaL,qaF,qaE]
theorem qZ(pl:Nat->Option (Nat×Nat)):∀(ps:List (Nat×S0)) (cs r:List SL),(∀p∈ps,p.2.good)->qY pl cs ps=some r->
  Instr.fill pl ⟨cs.map SL.val⟩ (ps.map λp=>(p.1,p.2.val))=some ⟨r.map SL.val⟩
 | [],cs,r,_,hf=>by cases hf;rfl
 |(i,x) :: ps,cs,r,hg,hf=>by
  simp only[qY]at hf
  split at hf
  ·rename_i off n hpl
   split at hf
   ·rename_i hn
    split at hf
    ·rename_i cs1 hs
     have hn:x.cells.length=n:=by simpa using hn
     have hx:x.good:=hg (i,x) (by simp)
     have hc:=S0.cells_val hx
     unfold il at hs
     split at hs
     ·rename_i hle
      cases hs
      have ih:=qZ pl ps _ r (λp hp=>hg p (by simp[hp])) hf
      simp only[qas,Instr.fill,hpl,hc]
      have hsz:(⟨x.cells.map SL.val⟩ : Array Value).size=n:=by simp[hn]
      rw[if_neg (by
       have h2:(⟨cs.map SL.val⟩ : Array Value).size=cs.length:=by simp
       rw[hsz,h2];simp;omega)]
      rw[←ih]
      congr 1
      have hfold:=vO (x.cells.map SL.val) off 0 (cs.map SL.val) (by simp;omega)
      apply qa5.1
      rw[←qcu,qda]
      refine Eq.trans hfold ?_
      simp[qcq,qcx]
     ·cases hs
    ·cases hf
   ·cases hf
  ·cases hf
theorem pv(pl:Nat->Option (Nat×Nat)):∀(ps:List (Nat×S0)) (cs r:List SL),(∀c∈cs,c.good)->(∀p∈ps,p.2.good)->qY pl cs ps=some r->∀c∈r,c.good
 | [],cs,r,hc,_,hf=>by cases hf;exact hc
 |(i,x) :: ps,cs,r,hc,hg,hf=>by
  simp only[qY]at hf
  split at hf
  ·split at hf
   ·split at hf
    ·rename_i cs1 hs
     refine pv pl ps cs1 r (λc hm=>?_) (λp hp=>hg p (by simp[hp])) hf
     unfold il at hs
     split at hs
     ·cases hs
      simp only[qaP]at hm
      rcases hm with(hm|hm)|hm
      ·exact hc c (qbk hm)
      ·exact hg (i,x) (by simp) c hm
      ·exact hc c (qbF hm)
     ·cases hs
    ·cases hf
   ·cases hf
  ·cases hf
theorem qp{ps:List (Nat×Operand)}{xs:List S0}(hv:(ps.map (·.2)).map (oval σ.tmps)=ai xs) :
  ps.map (λp=>(p.1,oval σ.tmps p.2))=((ps.map (·.1)).zip xs).map λp=>(p.1,p.2.val):=by
 induction ps generalizing xs with
 |nil=>simp
 |cons p ps ih=>
  cases xs with
  |nil=>simp[ai]at hv
  |cons x xs=>
   simp only[qas,ai,qaX]at hv
   simp only[qas,qcv,hv.1]
   rw[ih (xs:=xs) hv.2]
theorem sq{is:List Nat}{xs:List S0}(hg:∀x∈xs,x.good):∀p∈is.zip xs,p.2.good:=λ_ hp=>hg _ (List.of_mem_zip hp).2
theorem sn{P:Program}{t:TypeId}{x:S0}(hz:vN P t=some x):∃z,dA P t=some z/\x.val=z/\x.good:=by
 unfold vN at hz
 obtain⟨z,h1,h2⟩:=qaq.1 hz
 obtain⟨h3,h4,_⟩:=rS h2
 exact⟨z,h1,h3,h4⟩
theorem build_ok(hA:AlgOk A X.C Sg X.T holds abs)(hR:Rp ev σ)(ha:abs h=σ.heap){t:TypeId}{ps:Array (Nat×Operand)}(ho:o.op = .build t ps)
  (hk:holds (match vN X.C.P t,mQ X.C.P t,svals ev (ps.toList.map (·.2))with
  |some z,some pl,some xs=>match qY pl z.cells ((ps.toList.map (·.1)).zip xs)with
   |some cs=>setD o.dst (.st (.agg cs)) ev h K
   |none=>A.fail
  |_,_,_=>A.fail)):Done X holds abs o σ K:=by
 split at hk
 ·rename_i z pl xs e1 e2 e3
  split at hk
  ·rename_i cs e4
   obtain⟨zv,hz1,hz2,hz3⟩:=sn e1
   obtain⟨hv,hg⟩:=hR.svals e3
   have hzc:=S0.cells_val hz3
   have hfill:=qZ pl _ _ _ (sq (is:=ps.toList.map (·.1)) hg) e4
   have hgood:=pv pl _ _ _ (λc hc=>hz3 c hc) (sq (is:=ps.toList.map (·.1)) hg) e4
   refine aB hR ha (s:=.st (.agg cs)) hgood ?_ hk
   have hall:(ps.toList.all λp=>!aG (oval σ.tmps p.2))=true:=by
    simp only[qab,qbD]
    intro p hp
    have hm:oval σ.tmps p.2∈ai xs:=by
     rw[←hv]
     exact qaI.2 ⟨p.2,qaI.2 ⟨p,hp,rfl⟩,rfl⟩
    simp only[ai,qaI]at hm
    obtain⟨x,hx,e⟩:=hm
    rw[←e]
    exact S0.not_tuple (hg x hx)
   simp only[al,ho,hall,if_true,sG,hz1,e2]
   rw[qp hv,←hz2,hzc,hfill]
   rfl
  ·exact absurd hk hA.fail
 ·exact absurd hk hA.fail
end
theorem SL.lf_val{a b:SL}{k:LK}(ha:a.is k=true)(hb:b.is k=true)(he:a.lf=b.lf):a.val=b.val/\(a.good->b.good):=by
 cases a<;>cases b<;>cases k<;>simp only[SL.lf,Lf.i.injEq,Lf.b.injEq,Lf.v.injEq,reduceCtorEq,SL.is,qar]at he ha hb ⊢<;>try (subst he;exact⟨rfl,id⟩)
 subst he
 exact⟨by simp only[SL.val];rw[cS ha,cS hb],id⟩
theorem bw:∀ {cs:List SL} {ks:List LK},aO cs ks=true->cs.length=ks.length
 | [],[],_=>rfl
 |c :: cs,k :: ks,h=>by
  simp only[aO,qaa]at h
  simp[bw h.2]
 | [],_ :: _,h=>by cases h
 |_ :: _,[],h=>by cases h
theorem gD:∀ {a b:List SL} {ks:List LK},aO a ks=true->aO b ks=true->a.map SL.lf=b.map SL.lf->a.map SL.val=b.map SL.val/\((∀c∈a,c.good)->∀c∈b,c.good)
 | [],[],[],_,_,_=>⟨rfl,λ_ _ h=>by cases h⟩
 |a :: as0,b :: bs,k :: ks,ha,hb,he=>by
  simp only[aO,qaa]at ha hb
  simp only[qas,qaX]at he
  obtain⟨h1,h2⟩:=SL.lf_val ha.1 hb.1 he.1
  obtain⟨h3,h4⟩:=gD ha.2 hb.2 he.2
  refine⟨by simp[h1,h3],λhg c hc=>?_⟩
  rcases qaj.1 hc with rfl|hc
  ·exact h2 (hg a (by simp))
  ·exact h4 (λc hc=>hg c (by simp[hc])) c hc
 | [],_ :: _,[],_,hb,_=>by cases hb
 | [],_,_ :: _,ha,_,_=>by cases ha
 |_ :: _,_,[],ha,_,_=>by cases ha
 |_ :: _,[],_ :: _,_,hb,_=>by cases hb
theorem S0.is_val{a b:S0}{sk:SK}(ha:a.is sk=true)(hb:b.is sk=true)(he:a.cells.map SL.lf=b.cells.map SL.lf):a.val=b.val/\(a.good->b.good):=by
 cases sk with
 |leaf k=>
  cases a with
  |agg _=>cases ha
  |leaf a=>
   cases b with
   |agg _=>cases hb
   |leaf b=>
    simp only[S0.cells,qas,qbj,qaX,and_true]at he
    obtain⟨h1,h2⟩:=SL.lf_val ha hb he
    refine⟨h1,λhg l hl=>?_⟩
    simp only[S0.cells,qax]at hl
    subst hl
    exact h2 (hg a (by simp[S0.cells]))
 |agg ks=>
  cases a with
  |leaf _=>cases ha
  |agg a=>
   cases b with
   |leaf _=>cases hb
   |agg b=>
    obtain⟨h1,h2⟩:=gD ha hb he
    exact⟨by simp only[S0.val,h1],h2⟩
theorem S0.is_len{a:S0}{sk:SK}(ha:a.is sk=true):∃n,a.cells.length=n/\∀b:S0,b.is sk=true->b.cells.length=n:=by
 refine⟨_,rfl,λb hb=>?_⟩
 cases sk with
 |leaf k=>
  cases a with
  |agg _=>cases ha
  |leaf a=>cases b with
   |agg _=>cases hb
   |leaf b=>rfl
 |agg ks=>
  cases a with
  |leaf _=>cases ha
  |agg a=>cases b with
   |leaf _=>cases hb
   |agg b=>exact(bw hb).trans (bw ha).symm
theorem cz:∀ {a b:List S0} {sks:List SK},bA a sks=true->bA b sks=true->bC a=bC b->ai a=ai b/\((∀c∈a,c.good)->∀c∈b,c.good)
 | [],[],[],_,_,_=>⟨rfl,λ_ _ h=>by cases h⟩
 |a :: as0,b :: bs,k :: ks,ha,hb,he=>by
  simp only[bA,qaa]at ha hb
  obtain⟨n,hn1,hn2⟩:=S0.is_len ha.1
  have hn2:=hn2 b hb.1
  simp only[bC]at he
  obtain⟨he1,he2⟩:=qdw he (by simp[hn1,hn2])
  obtain⟨h1,h2⟩:=S0.is_val ha.1 hb.1 he1
  obtain⟨h3,h4⟩:=cz ha.2 hb.2 he2
  refine⟨by simp only[ai,qas,h1]at h3 ⊢;rw[h3],λhg c hc=>?_⟩
  rcases qaj.1 hc with rfl|hc
  ·exact h2 (hg a (by simp))
  ·exact h4 (λc hc=>hg c (by simp[hc])) c hc
 | [],_ :: _,[],_,hb,_=>by cases hb
 | [],_,_ :: _,ha,_,_=>by cases ha
 |_ :: _,_,[],ha,_,_=>by cases ha
 |_ :: _,[],_ :: _,_,hb,_=>by cases hb
section
variable [Val] [Kno] {R HT:Type} {A:Alg R HT} {X:Ctxt} {Sg:FuncId->Option Sig} {holds:R->Prop} {abs:HT->List HObj}
variable {ev:Env} {σ:St} {h:HT} {o:Oper} {K:KN R HT}
theorem qn{C:Cfg}{T:Nat->Site}(hA:AlgOk A C Sg T holds abs):∀ {ks:List LK} {ls:List Lf} {K:List SL->List Lf->R},holds (unL A ks ls K)->
  ∃cs r,ls=cs.map SL.lf++r/\aO cs ks=true/\holds (K cs r)
 | [],ls,K,hk=>⟨[],ls,rfl,rfl,hk⟩
 | .i k :: ks,ls,K,hk=>by
  obtain⟨n,r,rfl,hk1⟩:=hA.unI _ _ hk
  obtain⟨cs,r',rfl,h2,h3⟩:=qn hA (ks:=ks) hk1
  exact⟨.i k n :: cs,r',rfl,by simp[aO,SL.is,dF,h2],h3⟩
 | .b :: ks,ls,K,hk=>by
  obtain⟨n,r,rfl,hk1⟩:=hA.unB _ _ hk
  obtain⟨cs,r',rfl,h2,h3⟩:=qn hA (ks:=ks) hk1
  exact⟨.b n :: cs,r',rfl,by simp[aO,SL.is,h2],h3⟩
 | .v :: ks,ls,K,hk=>by
  obtain⟨n,r,rfl,hk1⟩:=hA.unV _ _ hk
  obtain⟨cs,r',rfl,h2,h3⟩:=qn hA (ks:=ks) hk1
  exact⟨.v n :: cs,r',rfl,by simp[aO,SL.is,h2],h3⟩
theorem unS_ok{C:Cfg}{T:Nat->Site}(hA:AlgOk A C Sg T holds abs){sk:SK}{ls:List Lf}{K:S0->List Lf->R}(hk:holds (unS A sk ls K)) :
  ∃x r,ls=x.cells.map SL.lf++r/\x.is sk=true/\holds (K x r):=by
 cases sk with
 |leaf k=>
  cases k with
  |i k=>
   obtain⟨n,r,rfl,hk1⟩:=hA.unI _ _ hk
   exact⟨.leaf (.i k n),r,rfl,by simp[S0.is,SL.is,dF],hk1⟩
  |b=>
   obtain⟨n,r,rfl,hk1⟩:=hA.unB _ _ hk
   exact⟨.leaf (.b n),r,rfl,rfl,hk1⟩
  |v=>
   obtain⟨n,r,rfl,hk1⟩:=hA.unV _ _ hk
   exact⟨.leaf (.v n),r,rfl,rfl,hk1⟩
 |agg ks=>
  obtain⟨cs,r,h1,h2,h3⟩:=qn hA hk
  exact⟨.agg cs,r,h1,h2,h3⟩
theorem oJ{C:Cfg}{T:Nat->Site}(hA:AlgOk A C Sg T holds abs):∀ {sks:List SK} {ls:List Lf} {K:List S0->List Lf->R},holds (unSs A sks ls K)->
  ∃xs r,ls=bC xs++r/\bA xs sks=true/\holds (K xs r)
 | [],ls,K,hk=>⟨[],ls,rfl,rfl,hk⟩
 |sk :: sks,ls,K,hk=>by
  have hk0:holds (unS A sk ls λx r=>unSs A sks r λxs r=>K (x :: xs) r):=hk
  obtain⟨x,r,rfl,h1,hk1⟩:=unS_ok hA hk0
  obtain⟨xs,r',rfl,h2,h3⟩:=oJ hA (sks:=sks) hk1
  exact⟨x :: xs,r',by simp[bC],by simp[bA,h1,h2],h3⟩
theorem xA{C:Cfg}{T:Nat->Site}(hA:AlgOk A C Sg T holds abs):∀ {ks:List LK} {ls:List Value} {K:List SL->List Value->R},holds (ucL A ks ls K)->
  ∃cs r,ls=cs.map SL.val++r/\aO cs ks=true/\(∀c∈cs,c.good)/\holds (K cs r)
 | [],ls,K,hk=>⟨[],ls,rfl,rfl,by simp,hk⟩
 | .i k :: ks,ls,K,hk=>by
  obtain⟨n,r,rfl,hk1⟩:=hA.ucI _ _ _ hk
  obtain⟨cs,r',rfl,h2,h3,h4⟩:=xA hA (ks:=ks) hk1
  exact⟨.i k n :: cs,r',rfl,by simp[aO,SL.is,dF,h2],qbl.2 ⟨trivial,h3⟩,h4⟩
 | .b :: ks,ls,K,hk=>by
  obtain⟨n,r,rfl,hk1⟩:=hA.ucB _ _ hk
  obtain⟨cs,r',rfl,h2,h3,h4⟩:=xA hA (ks:=ks) hk1
  exact⟨.b n :: cs,r',rfl,by simp[aO,SL.is,h2],qbl.2 ⟨trivial,h3⟩,h4⟩
 | .v :: ks,ls,K,hk=>by
  obtain⟨n,r,rfl,hk1⟩:=hA.ucV _ _ hk
  obtain⟨hg,hk2⟩:=hA.chk _ _ hk1
  obtain⟨cs,r',rfl,h2,h3,h4⟩:=xA hA (ks:=ks) hk2
  exact⟨.v n :: cs,r',rfl,by simp[aO,SL.is,h2],qbl.2 ⟨hg,h3⟩,h4⟩
theorem oG{C:Cfg}{T:Nat->Site}(hA:AlgOk A C Sg T holds abs){sk:SK}{ls:List Value}{K:S0->List Value->R}(hk:holds (ucS A sk ls K)) :
  ∃x r,ls=x.cells.map SL.val++r/\x.is sk=true/\x.good/\holds (K x r):=by
 cases sk with
 |leaf k=>
  cases k with
  |i k=>
   obtain⟨n,r,rfl,hk1⟩:=hA.ucI _ _ _ hk
   exact⟨.leaf (.i k n),r,rfl,by simp[S0.is,SL.is,dF],λl hl=>by simp only[S0.cells,qax]at hl;subst hl;trivial,hk1⟩
  |b=>
   obtain⟨n,r,rfl,hk1⟩:=hA.ucB _ _ hk
   exact⟨.leaf (.b n),r,rfl,rfl,λl hl=>by simp only[S0.cells,qax]at hl;subst hl;trivial,hk1⟩
  |v=>
   obtain⟨n,r,rfl,hk1⟩:=hA.ucV _ _ hk
   obtain⟨hg,hk2⟩:=hA.chk _ _ hk1
   exact⟨.leaf (.v n),r,rfl,rfl,λl hl=>by simp only[S0.cells,qax]at hl;subst hl;exact hg,hk2⟩
 |agg ks=>
  obtain⟨cs,r,h1,h2,h3,h4⟩:=xA hA hk
  exact⟨.agg cs,r,h1,h2,h3,h4⟩
theorem ucSs_ok{C:Cfg}{T:Nat->Site}(hA:AlgOk A C Sg T holds abs):∀ {sks:List SK} {ls:List Value} {K:List S0->List Value->R},holds (ucSs A sks ls K)->
  ∃xs r,ls=mn xs++r/\bA xs sks=true/\(∀x∈xs,x.good)/\holds (K xs r)
 | [],ls,K,hk=>⟨[],ls,rfl,rfl,by simp,hk⟩
 |sk :: sks,ls,K,hk=>by
  have hk0:holds (ucS A sk ls λx r=>ucSs A sks r λxs r=>K (x :: xs) r):=hk
  obtain⟨x,r,rfl,h1,hg,hk1⟩:=oG hA hk0
  obtain⟨xs,r',rfl,h2,h3,h4⟩:=ucSs_ok hA (sks:=sks) hk1
  refine⟨x :: xs,r',by simp[mn],by simp[bA,h1,h2],λc hc=>?_,h4⟩
  rcases qaj.1 hc with rfl|hc
  ·exact hg
  ·exact h3 c hc
def mkV(agg:Bool)(cs:List Value)(v:Value):Prop:=(agg=true/\v = .agg ⟨cs⟩)∨(agg=false/\cs=[v])
theorem pM{x:S0}{sk:SK}(hx:x.is sk=true){v:Value}(hv:mkV (jo sk) (x.cells.map SL.val) v):x.val=v:=by
 cases sk with
 |leaf k=>
  cases x with
  |agg _=>cases hx
  |leaf l=>
   rcases hv with⟨h,_⟩|⟨_,h⟩
   ·cases h
   ·simp only[S0.cells,qas,qbj,qaX,and_true]at h
    exact h
 |agg ks=>
  cases x with
  |leaf _=>cases hx
  |agg cs=>
   rcases hv with⟨_,h⟩|⟨h,_⟩
   ·exact h.symm
   ·cases h
theorem eqB_eq{a b:Bool}(h:eqB a b=true):a=b:=by cases a<;>cases b<;>first|rfl|cases h
theorem nM{agg:Bool}{cs:List SL}{x:S0}(hx:mkS0 agg cs=some x):x.cells=cs/\mkV agg (cs.map SL.val) x.val:=by
 unfold mkS0 at hx
 split at hx
 ·cases hx;exact⟨rfl,.inl ⟨rfl,rfl⟩⟩
 ·cases hx;exact⟨rfl,.inr ⟨rfl,rfl⟩⟩
 ·cases hx
theorem cN{P:Program}{t:TypeId}{agg:Bool}(hag:aggT P t=some agg){vs cs:List Value}{off:Nat}(hc:cut vs off (if agg then P.cellsOf t else 1)=some cs) :
  ∃v,df P t vs off=some v/\mkV agg cs v:=by
 unfold aggT at hag
 unfold df
 split at hag
 ·rename_i fs e
  cases hag
  rw[e]
  simp only[if_true]at hc
  exact⟨.agg ⟨cs⟩,by simp[hc],.inl ⟨rfl,rfl⟩⟩
 ·rename_i fs e
  cases hag
  rw[e]
  simp only[if_true]at hc
  exact⟨.agg ⟨cs⟩,by simp[hc],.inl ⟨rfl,rfl⟩⟩
 ·rename_i d h1 h2 e
  cases hag
  rw[e]
  simp only[qar,if_false]at hc
  unfold cut at hc
  split at hc
  ·rename_i hle
   cases hc
   have hlt:off<vs.length:=by omega
   have hcs:(vs.drop off).take 1=[vs[off]]:=by
    rw[qbJ hlt];rfl
   refine⟨vs[off],?_,.inr ⟨rfl,hcs⟩⟩
   simp[hlt]
  ·cases hc
 ·cases hag
theorem lr(hA:AlgOk A X.C Sg X.T holds abs){dst:Option Tmp}{sk:SK}{cs:List Value}{v:Value}(hv:mkV (jo sk) cs v)(hk:holds (setC A dst sk cs ev h K)) :
  ∃x:S0,x.val=v/\x.good/\holds (setD dst (.st x) ev h K):=by
 obtain⟨x,r,h1,h2,h3,hk1⟩:=oG hA hk
 obtain⟨hr,hk2⟩:=hA.uc0 _ _ hk1
 rw[hr,qaR]at h1
 subst h1
 exact⟨x,pM h2 hv,h3,hk2⟩
theorem nl{cs ds:List SL}{off n:Nat}(hc:cutS cs off n=some ds):cut (cs.map SL.val) off n=some (ds.map SL.val)/\(∀d∈ds,d∈cs):=by
 unfold cutS at hc
 unfold cut
 split at hc
 ·rename_i hle
  cases hc
  rw[if_pos (by simpa using hle)]
  exact⟨by simp[qcx,qcq],λd hd=>qbF (qbk hd)⟩
 ·cases hc
theorem jU(hR:Rp ev σ){s:Nat}{cs:List SL}(hr:rP ev s=some cs):σ.loc[s]? = some (some (cs.map SL.val))/\(∀c∈cs,c.good)/\ev.lc[s]? = some (.row cs):=by
 unfold rP at hr
 split at hr
 ·rename_i ds e
  cases hr
  rw[List.getD_eq_getElem?_getD]at e
  cases he:ev.lc[s]? with
  |none=>rw[he]at e;cases e
  |some r=>
   rw[he]at e
   simp only[qba]at e
   subst e
   have:=hR.row s _ he
   exact⟨this.1,this.2,rfl⟩
 ·cases hr
theorem wQ{cs:List SL}{base:Nat}{ix:List (Int×Nat)}{n:Nat}{ls:List Lf}(hp:cF (cs.map SL.lf) base ix n=some ls) :
  ∃ds,cutS cs (offX base ix) n=some ds/\ls=ds.map SL.lf:=by
 rw[pickL_eq]at hp
 split at hp
 ·rename_i hle
  cases hp
  refine⟨_,by unfold cutS;rw[if_pos (by simpa using hle)],by simp[qcx,qcq]⟩
 ·cases hp
theorem offX_le:∀(ix:List (Int×Nat)) (base:Nat),base<=offX base ix
 | [],base=>qaz _
 |p :: l,base=>qbG (Nat.le_add_right _ _) (offX_le l _)
theorem mf{cs ds:List SL}{ks:List LK}:∀ {ix:List (Int×Nat)} {base:Nat},sA cs ks base ix=true->cutS cs (offX base ix) ks.length=some ds->aO ds ks=true
 | [],base,h1,h2=>by
  simp only[sA,offX]at h1 h2
  rw[h2]at h1
  exact h1
 |p :: l,base,h1,h2=>by
  simp only[sA,qaa,qab,qbD,offX]at h1 h2
  obtain⟨h0,h1⟩:=h1
  refine mf (ix:=l) (h1 p.1.toNat ?_) h2
  have hp:p.2≠0:=λe=>by rw[e]at h0;cases h0
  have hle:offX (base+p.1.toNat*p.2) l<=cs.length:=by
   unfold cutS at h2
   split at h2
   ·omega
   ·cases h2
  have:=offX_le l (base+p.1.toNat*p.2)
  have h3:p.1.toNat<=p.1.toNat*p.2:=Nat.le_mul_of_pos_right _ (Nat.pos_of_ne_zero hp)
  simp only[qad]
  omega
theorem is_skKs{x:S0}{sk:SK}(hx:x.is sk=true):aO x.cells (skKs sk)=true:=by
 cases sk with
 |leaf k=>
  cases x with
  |agg _=>cases hx
  |leaf l=>simp[S0.cells,skKs,aO];exact hx
 |agg ks=>
  cases x with
  |leaf _=>cases hx
  |agg cs=>exact hx
theorem setL_ok(hA:AlgOk A X.C Sg X.T holds abs){dst:Option Tmp}{sk:SK}{ds:List SL}{v:Value}(hd:aO ds (skKs sk)=true)(hg:∀c∈ds,c.good)(hv:mkV (jo sk) (ds.map SL.val) v)
  (hk:holds (setL A dst sk (ds.map SL.lf) ev h K)):∃x:S0,x.val=v/\x.good/\holds (setD dst (.st x) ev h K):=by
 obtain⟨x,r,e1,e2,hk1⟩:=unS_ok hA hk
 obtain⟨hr0,hk2⟩:=hA.un0 _ _ hk1
 rw[hr0,qaR]at e1
 obtain⟨h1,h2⟩:=gD hd (is_skKs e2) e1
 rw[h1]at hv
 exact⟨x,pM e2 hv,h2 hg,hk2⟩
theorem is_lk(c:SL):c.is c.lk=true:=by cases c<;>first|rfl|exact dF _
theorem mg:∀cs:List SL,aO cs (cs.map SL.lk)=true
 | []=>rfl
 |c :: cs=>by simp[aO,is_lk,mg cs]
theorem gC:∀ {a b:List SL} {ka kb:List LK},aO a ka=true->aO b kb=true->aO (a++b) (ka++kb)=true
 | [],b,[],kb,_,h=>h
 |a :: as0,b,k :: ka,kb,h1,h2=>by
  simp only[aO,qaa,qaL]at h1 ⊢
  exact⟨h1.1,gC h1.2 h2⟩
 | [],_,_ :: _,_,h,_=>by cases h
 |_ :: _,_,[],_,h,_=>by cases h
end
section
variable [Val] [Kno] {R HT:Type} {A:Alg R HT} {X:Ctxt} {Sg:FuncId->Option Sig} {holds:R->Prop} {abs:HT->List HObj}
variable {ev:Env} {σ:St} {h:HT} {o:Oper} {K:KN R HT}
theorem sK(H:List HObj)(id:Nat):gH (λi=>H[i]?) id=eN H id:=rfl
theorem ldP_ok{n:Nat}{p:Value}{g:ca}{cs:List Value}(h:ldP n p g=some cs):∃id off vs,p = .pointer (some ⟨id,off,none⟩)/\gH g id=some vs/\cut vs off n=some cs:=by
 unfold ldP at h
 split at h
 ·rename_i a
  split at h
  ·rename_i hs
   obtain⟨vs,h1,h2⟩:=qaq.1 h
   obtain⟨b,f,sp⟩:=a
   simp only at hs
   subst hs
   exact⟨b,f,vs,rfl,h1,h2⟩
  ·cases h
 ·cases h
theorem lgP_ok{C:Cfg}{n:Nat}{p:Value}{g:ca}{cs:List Value}(h:lgP C n p g=some cs):(∃id off vs,p = .pointer (some ⟨id,off,none⟩)/\gH g id=some vs/\cut vs off n=some cs)∨∃id off vs,p = .pointer (some ⟨id,off,some 1⟩)/\C.G id=some vs/\cut vs off n=some cs:=by
 unfold lgP at h
 split at h
 ·rename_i a
  split at h
  ·rename_i hs
   obtain⟨vs,h1,h2⟩:=qaq.1 h
   obtain⟨b,f,sp⟩:=a
   simp only at hs
   subst hs
   exact .inl ⟨b,f,vs,rfl,h1,h2⟩
  ·rename_i k hs
   split at h
   ·rename_i hb
    obtain⟨vs,h1,h2⟩:=qaq.1 h
    obtain⟨b,f,sp⟩:=a
    simp only at hs
    subst hs
    rw[qac hb]
    exact .inr ⟨b,f,vs,rfl,h1,h2⟩
   ·cases h
 ·cases h
theorem load_ok(hA:AlgOk A X.C Sg X.T holds abs)(hR:Rp ev σ)(ha:abs h=σ.heap){t:TypeId}{a:Operand}{sk:SK}{agg:Bool}(ho:o.op = .load t a)(hag:aggT X.C.P t=some agg)
  (hsk:agg=jo sk) (hk:holds (loadE A X o.dst sk agg (if agg then X.C.P.cellsOf t else 1) a ev h K)):Done X holds abs o σ K:=by
 have heff:al X.C X.pts (oval σ.tmps) o=dG X.C X.pts t a (oval σ.tmps a):=by simp only[al,ho]
 unfold loadE at hk
 split at hk
 ·rename_i p hkey he
  obtain⟨h1,_⟩:=hR.sval he (by simp)
  obtain⟨cs,h2,hk1⟩:=hA.peek _ _ _ hk
  simp only[Pk.run]at h2
  rw[ha]at h2
  rcases lgP_ok h2 with⟨id,off,vs,rfl,h3,h4⟩|⟨id,off,vs,rfl,h3,h4⟩
  ·rw[sK]at h3
   obtain⟨v,h5,h6⟩:=cN hag h4
   rw[hsk]at h6
   obtain⟨x,rfl,h7,hk2⟩:=lr hA h6 hk1
   refine gM hR ha (s:=.st x) h7 (f:=λH=>(eN H id).bind λvs=>df X.C.P t vs off) ?_ ?_ hk2
   ·rw[heff,dG,hkey,h1];rfl
   ·simp only[h3,qak,h5];rfl
  ·obtain⟨v,h5,h6⟩:=cN hag h4
   rw[hsk]at h6
   obtain⟨x,rfl,h7,hk2⟩:=lr hA h6 hk1
   refine gM hR ha (s:=.st x) h7 (f:=λ_=>(X.C.G id).bind λvs=>df X.C.P t vs off) ?_ ?_ hk2
   ·rw[heff,dG,hkey,h1];rfl
   ·simp only[h3,qak,h5];rfl
 ·rename_i g off hkey he
  obtain⟨h1,_⟩:=hR.sval he (by simp)
  split at hk
  ·rename_i vs hg
   split at hk
   ·rename_i cs hc
    obtain⟨v,h5,h6⟩:=cN hag hc
    have hval:al X.C X.pts (oval σ.tmps) o=some (.val v):=by
     rw[heff,dG,hkey,h1]
     simp only[SV.val,fX,if_true,qak,hg,h5,qav]
    split at hk
    ·rename_i x hsc hm
     obtain⟨hm1,hm2⟩:=nM hm
     have hcs:(cs.map slOf).map SL.val=cs:=by
      rw[qdf]
      have:(SL.val ∘ slOf)=id:=funext rW
      rw[this,List.map_id]
     rw[hcs]at hm2
     have hv:x.val=v:=by
      rcases hm2 with⟨a1,a2⟩|⟨a1,a2⟩<;>rcases h6 with⟨b1,b2⟩|⟨b1,b2⟩
      ·rw[a2,b2]
      ·rw[a1]at b1;cases b1
      ·rw[a1]at b1;cases b1
      ·rw[a2]at b2;simpa using b2
     subst hv
     refine aB hR ha (s:=.st x) (λl hl=>?_) hval hk
     rw[hm1]at hl
     obtain⟨c,hc1,rfl⟩:=qaI.1 hl
     exact oB (qab.1 hsc c hc1)
    ·rw[hsk]at h6
     obtain⟨x,rfl,h7,hk⟩:=lr hA h6 hk
     exact aB hR ha (s:=.st x) h7 hval hk
   ·exact absurd hk hA.fail
  ·exact absurd hk hA.fail
 ·rename_i g base ix hkey he
  obtain⟨h1,_⟩:=hR.sval he (by simp)
  split at hk
  ·rename_i vs hg
   obtain⟨cs,hc,hk⟩:=hA.opt _ _ hk
   obtain⟨v,h5,h6⟩:=cN hag (vs:=vs) (off:=offX base ix) ((pickV_eq _ _ _ _).symm.trans hc)
   have hval:al X.C X.pts (oval σ.tmps) o=some (.val v):=by
    rw[heff,dG,hkey,h1]
    simp only[SV.val,fX,if_true,qak,hg,h5,qav]
   rw[hsk]at h6
   obtain⟨x,rfl,h7,hk⟩:=lr hA h6 hk
   exact aB hR ha (s:=.st x) h7 hval hk
  ·exact absurd hk hA.fail
 ·rename_i p hkey he
  obtain⟨h1,_⟩:=hR.sval he (by simp)
  obtain⟨cs,hc,hk1⟩:=hA.opt _ _ hk
  unfold ldGv at hc
  split at hc
  ·rename_i ad
   split at hc
   ·rename_i hsp
    obtain⟨vs,hg,hc⟩:=qaq.1 hc
    obtain⟨v,h5,h6⟩:=cN hag hc
    have hval:al X.C X.pts (oval σ.tmps) o=some (.val v):=by
     rw[heff,dG,hkey,h1]
     simp only[SV.val,S0.val,SL.val,fX,hsp,if_true,qak,hg,h5,qav]
    rw[hsk]at h6
    obtain⟨x,rfl,h7,hk2⟩:=lr hA h6 hk1
    exact aB hR ha (s:=.st x) h7 hval hk2
   ·cases hc
  ·cases hc
 ·rename_i s s' off hkey he
  obtain⟨h1,_⟩:=hR.sval he (by simp)
  split at hk
  ·rename_i x hs hx
   have hs:s=s':=by simpa using hs
   subst hs
   obtain⟨cs,hr,hx⟩:=qaq.1 hx
   obtain⟨ds,hd,hx⟩:=qaq.1 hx
   obtain⟨r1,r2,_⟩:=jU hR hr
   obtain⟨c1,c2⟩:=nl hd
   obtain⟨v,h5,h6⟩:=cN hag c1
   obtain⟨hm1,hm2⟩:=nM hx
   have hv:x.val=v:=by
    rcases hm2 with⟨a1,a2⟩|⟨a1,a2⟩<;>rcases h6 with⟨b1,b2⟩|⟨b1,b2⟩
    ·rw[a2,b2]
    ·rw[a1]at b1;cases b1
    ·rw[a1]at b1;cases b1
    ·rw[a2]at b2;simpa using b2
   subst hv
   refine dq hR σ.heap ha (s:=.st x) (λl hl=>?_) (.inl ⟨.lget s λvs=>df X.C.P t vs off,?_,(σ,x.val),?_,rfl⟩) hk
   ·rw[hm1]at hl;exact r2 l (c2 l hl)
   ·rw[heff,dG,hkey,h1]
    simp[SV.val,iO]
   ·simp[aI,r1,h5]
  ·exact absurd hk hA.fail
 ·rename_i s s' base ix hkey he
  obtain⟨h1,_⟩:=hR.sval he (by simp)
  split at hk
  ·rename_i cs hs hr
   have hs:s=s':=by simpa using hs
   subst hs
   split at hk
   ·rename_i hat
    simp only[qaa]at hat
    obtain⟨hat,hn⟩:=hat
    have hn:=qac hn
    obtain⟨ls,hp,hk1⟩:=hA.opt _ _ hk
    obtain⟨ds,hd,rfl⟩:=wQ hp
    obtain⟨r1,r2,_⟩:=jU hR hr
    obtain⟨c1,c2⟩:=nl hd
    obtain⟨v,h5,h6⟩:=cN hag c1
    rw[hsk]at h6
    rw[hn]at hd
    obtain⟨x,rfl,h7,hk2⟩:=setL_ok hA (mf hat hd) (λc hc=>r2 c (c2 c hc)) h6 hk1
    refine dq hR σ.heap ha (s:=.st x) h7 (.inl ⟨.lget s λvs=>df X.C.P t vs (offX base ix),?_,(σ,x.val),?_,rfl⟩) hk2
    ·rw[heff,dG,hkey,h1]
     simp[SV.val,iO]
    ·simp[aI,r1,h5]
   ·exact absurd hk hA.fail
  ·exact absurd hk hA.fail
 ·exact absurd hk hA.fail
theorem qj{cs r new:List SL}{off:Nat}(hs:il cs off new=some r):splice (cs.map SL.val) off (new.map SL.val)=some (r.map SL.val)/\r.length=cs.length/\((∀c∈cs,c.good)->(∀c∈new,c.good)->∀c∈r,c.good):=by
 unfold il at hs
 unfold splice
 split at hs
 ·rename_i hle
  cases hs
  rw[if_pos (by simpa using hle)]
  refine⟨by simp[qcq,qcx],by simp;omega,λh1 h2 c hc=>?_⟩
  simp only[qaP]at hc
  rcases hc with(hc|hc)|hc
  ·exact h1 c (qbk hc)
  ·exact h2 c hc
  ·exact h1 c (qbF hc)
 ·cases hs
theorem vM{P:Program}{t:TypeId}{x:S0}(hx:x.good)(hlen:x.cells.length=P.cellsOf t)(hi:(P.info? t).isSome=true)(vs:List Value)(off:Nat) :
  eA P t x.val vs off=splice vs off (x.cells.map SL.val):=by
 unfold eA
 have h1:=S0.cells_val hx
 rw[if_pos ⟨by rw[h1];simpa using hlen,hi⟩,if_pos (S0.cells_ok hx),h1]
theorem qO(hR:Rp ev σ)(ha:abs h=σ.heap){s:Nat}{cs:List SL}{f:List Value->Option (List Value)}{vs:List Value}(he:al X.C X.pts (oval σ.tmps) o=some (.lset s f))(hloc:σ.loc[s]? = some (some vs))
  (hf:f vs=some (cs.map SL.val)) (hlen:(cs.map SL.val).length=vs.length) (hg:∀c∈cs,c.good) (hrow:jg X.pts o=some s)
  (hk:holds (setD o.dst .un ⟨ev.tm,ev.lc.set s (.row cs)⟩ h K)):Done X holds abs o σ K:=by
 let σ₁:St:={ σ with loc:=σ.loc.set s (some (cs.map SL.val)) }
 have hlt:s<σ.loc.length:=(qaZ.1 hloc).1
 have hR1:Rp ⟨ev.tm,ev.lc.set s (.row cs)⟩ σ₁:=by
  refine⟨hR.len,hR.val,by simp[σ₁,hR.llen],λi r hr=>?_⟩
  simp only[qaV]at hr
  split at hr
  ·rename_i hi
   subst hi
   split at hr
   ·cases hr
    exact⟨by simp only[σ₁];rw[qaD hlt],hg⟩
   ·cases hr
  ·rename_i hi
   have:=hR.row i r hr
   have hne:σ₁.loc[i]? = σ.loc[i]?:=by simp only[σ₁];rw[qal hi]
   cases r<;>first|trivial|(simp only[LR.ok]at this ⊢;rw[hne];exact this)
 obtain⟨ev',h1,h2⟩:=vz (dst:=o.dst) hR1 (s:=.un) trivial hk
 refine⟨σ₁.put o.dst undef,ev',h,.inl ⟨_,he,(σ₁,undef),by simp[aI,hloc,hf,σ₁],rfl⟩,h1,?_,?_,h2⟩
 ·rw[ha];cases o.dst<;>rfl
 ·have hf:=Fr.put (σ:=σ₁) o.dst undef (tP X.pts o).toList (jg X.pts o).toList
  have h0:Fr o.dst.toList (tP X.pts o).toList (jg X.pts o).toList σ σ₁:=by
   refine⟨rfl,by simp[σ₁],λ_ _ h _ _=>h,λ_ _ _ h _ _=>h,λi y hs hn=>?_,λi ws hs hn=>?_⟩
   ·rw[hrow]at hn
    simp only[Option.toList_some,qax]at hn
    simp only[σ₁]
    rw[qal (λe=>hn e.symm)];exact hs
   ·by_cases hi:i=s
    ·subst hi
     rw[hloc]at hs
     cases hs
     exact⟨_,by simp only[σ₁];rw[qaD hlt],hlen⟩
    ·exact⟨ws,by simp only[σ₁];rw[qal (λe=>hi e.symm)];exact hs,rfl⟩
  exact h0.trans hf
theorem stP_ok{p:Value}{new:List Value}{g:ca}{n:Nat}{acts:List Act1}{cs:List Value}(h:stP p new g n=some (acts,cs)) :
  ∃id off vs vs' e,p = .pointer (some ⟨id,off,none⟩)/\g id=some (.cells vs e true)/\splice vs off new=some vs'/\acts=[.set id (.cells vs' e true)]:=by
 unfold stP at h
 split at h
 ·rename_i a
  split at h
  ·rename_i hs
   split at h
   ·rename_i vs e hg
    obtain⟨vs',h1,h2⟩:=qae.1 h
    obtain⟨b,f,sp⟩:=a
    simp only at hs
    subst hs
    cases h2
    exact⟨b,f,vs,vs',e,rfl,hg,h1,rfl⟩
   ·cases h
  ·cases h
 ·cases h
theorem store_ok(hA:AlgOk A X.C Sg X.T holds abs)(hR:Rp ev σ)(ha:abs h=σ.heap){t:TypeId}{a y:Operand}{x:S0}(ho:o.op = .store t a y)(hy:sval ev y = .st x)
  (hk:holds (storeE A X o.dst t a x ev h K)):Done X holds abs o σ K:=by
 obtain⟨hy1,hx⟩:=hR.sval hy (by simp)
 have hx:x.good:=hx
 have heff:al X.C X.pts (oval σ.tmps) o=eu X.C X.pts t a (oval σ.tmps a) x.val:=by simp only[al,ho,hy1];rfl
 have hnt:=S0.not_tuple hx
 unfold storeE at hk
 split at hk
 ·exact absurd hk hA.fail
 ·rename_i hc
  simp only[qaa]at hc
  obtain⟨hlen,hi⟩:=hc
  have hlen:=qac hlen
  have hw:=vM (P:=X.C.P) (t:=t) hx hlen hi
  split at hk
  ·rename_i p hkey he
   obtain⟨h1,_⟩:=hR.sval he (by simp)
   obtain⟨acts,cs,h',h2,h3,hk1⟩:=hA.heap _ _ _ hk
   simp only[Hp.run]at h2
   rw[ha]at h2 h3
   obtain⟨id,off,vs,vs',e,rfl,g1,g2,rfl⟩:=stP_ok h2
   refine cZ (s:=.un) hR (H':=σ.heap.set id (.cells vs' e true)) h3 trivial (f:=jd X.C t id off x.val) ?_ ?_ hk1
   ·rw[heff,eu,hnt,hkey,h1];rfl
   ·simp only[jd,g1,hw,g2,qav];rfl
  ·rename_i s s' off hkey he
   obtain⟨h1,_⟩:=hR.sval he (by simp)
   have hrow:jg X.pts o=some s:=by simp only[jg,ho,hkey]
   split at hk
   ·rename_i cs hs hst
    have hs:s=s':=by simpa using hs
    subst hs
    rw[setK_eq]at hk
    have heff2:al X.C X.pts (oval σ.tmps) o=some (.lset s λvs=>eA X.C.P t x.val vs off):=by
     rw[heff,eu,hnt,hkey,h1]
     simp[SV.val,iO]
    have hrow0:ev.lc[s]? = some (ev.lc.getD s .unk)∨ev.lc.getD s .unk = .unk:=by
     rw[List.getD_eq_getElem?_getD]
     cases ev.lc[s]?<;>simp
    unfold storeR at hst
    split at hst
    ·rename_i cs0 hl
     obtain⟨q1,q2,q3⟩:=qj hst
     have hlc:ev.lc[s]? = some (.row cs0):=by rcases hrow0 with h|h<;>rw[hl]at h<;>first|exact h|cases h
     have hr:=hR.row s _ hlc
     exact qO hR ha heff2 hr.1 (by rw[hw];exact q1) (by simp[q2]) (q3 hr.2 hx) hrow hk
    ·rename_i n hl
     split at hst
     ·rename_i hz
      cases hst
      simp only[qaa]at hz
      have hz1:=qac hz.1
      have hz2:=qac hz.2
      have hlc:ev.lc[s]? = some (.any n):=by rcases hrow0 with h|h<;>rw[hl]at h<;>first|exact h|cases h
      obtain⟨vs,hv1,hv2⟩:=hR.row s _ hlc
      refine qO hR ha heff2 hv1 ?_ (by rw[hv2,hz2];simp) hx hrow hk
      rw[hw,hz1,splice,if_pos (by simp;omega)]
      simp[show vs.length<=x.cells.length by omega]
     ·cases hst
    ·cases hst
   ·exact absurd hk hA.fail
  ·rename_i s s' base ix hkey he
   obtain⟨h1,_⟩:=hR.sval he (by simp)
   have hrow:jg X.pts o=some s:=by simp only[jg,ho,hkey]
   split at hk
   ·rename_i cs hs hr
    have hs:s=s':=by simpa using hs
    subst hs
    split at hk
    ·exact absurd hk hA.fail
    ·rename_i hat
     obtain⟨ls,hp,hk1⟩:=hA.opt _ _ hk
     obtain⟨cs',r,e1,e2,hk2⟩:=qn hA hk1
     obtain⟨hr0,hk3⟩:=hA.un0 _ _ hk2
     rw[hr0,qaR]at e1
     rw[setK_eq]at hk3
     obtain⟨r1,r2,_⟩:=jU hR hr
     have heff2:al X.C X.pts (oval σ.tmps) o=some (.lset s λvs=>eA X.C.P t x.val vs (offX base ix)):=by
      rw[heff,eu,hnt,hkey,h1]
      simp[SV.val,iO]
     rw[putL_eq]at hp
     split at hp
     ·rename_i hle
      simp only[qbO]at hle
      let off:=offX base ix
      have hmid:cutS cs off x.cells.length=some ((cs.drop off).take x.cells.length):=by unfold cutS;rw[if_pos hle]
      have hk0:aO ((cs.drop off).take x.cells.length) (x.cells.map SL.lk)=true:=mf hat (by rw[qbO];exact hmid)
      let new:=cs.take off++x.cells++cs.drop (off+x.cells.length)
      have hsp:il cs off x.cells=some new:=by unfold il;rw[if_pos hle]
      obtain⟨q1,q2,q3⟩:=qj hsp
      have hkinds:aO new (cs.map SL.lk)=true:=by
       have hsplit:cs=cs.take off++(cs.drop off).take x.cells.length++cs.drop (off+x.cells.length):=by
        rw[qaC,←qbW,qcg,qcg]
       have hlk:∀ {a b:List SL},aO a (b.map SL.lk)=true->a.map SL.lk=b.map SL.lk:=by
        intro a b hab
        induction a generalizing b with
        |nil=>cases b with
         |nil=>rfl
         |cons _ _=>cases hab
        |cons a as0 ih=>cases b with
         |nil=>cases hab
         |cons b bs=>
          simp only[qas,aO,qaa]at hab
          simp only[qas,ih hab.2]
          have:a.lk=b.lk:=by
           have h0:=hab.1
           cases a<;>cases b<;>first|rfl|(simp[SL.is,SL.lk]at h0;done)|(simp only[SL.is,SL.lk]at h0 ⊢;rw[cS h0])
          rw[this]
       have hm:cs.map SL.lk=(cs.take off).map SL.lk++x.cells.map SL.lk++(cs.drop (off+x.cells.length)).map SL.lk:=by
        conv=>lhs;rw[hsplit]
        simp only[qb0]
        rw[hlk hk0]
       rw[hm]
       exact gC (gC (mg _) (mg _)) (mg _)
      have hlf:new.map SL.lf=cs'.map SL.lf:=by
       rw[←e1]
       cases hp
       simp[new,off,qcq,qcx]
      obtain⟨v1,v2⟩:=gD hkinds e2 hlf
      refine qO hR ha heff2 r1 (by rw[hw,←v1];exact q1) (by rw[←v1];simp[q2]) (v2 (q3 r2 hx)) hrow hk3
     ·cases hp
   ·exact absurd hk hA.fail
  ·exact absurd hk hA.fail
end
end Go.Am
end

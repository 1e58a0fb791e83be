/-
  PART 3 OF THE PROOF: Gf Am7 Am8 Am8b Am8c Sx5 Ht1 Sx4 (no conditions).
-/
import Derived.Test.YtoccchebipfncaaGreatDoorCK2
import Derived.IntWalk
set_option linter.unusedSectionVars false
set_option linter.unusedSimpArgs false
set_option linter.unusedVariables false
set_option linter.constructorNameAsVariable false
set_option linter.defProp false
/-
 WHAT EACH FUNCTION DOES,BY PROGRAM.
-/
set_option maxRecDepth 100000
namespace Go.Am
section
variable {R HT:Type} (A:Alg R HT)
/-- crimp/crimplaw09.CornersKnown -/
noncomputable def f3(ls:List Lf)(h:HT)(K:List Lf→HT→R):R:=A.un0 ls ( A.loop (fun a8 a9 O=>A.unI a9 (fun n9 b0=>A.unI b0 (fun n11 b1=>A.un0 b1 ( A.cmp .lss n11 (.ofNat 16) (fun b2=>A.cond b2 ( A.conv .u8 n11 (fun n14=>A.ari .quo .i64 n11 (.ofNat 3) (fun n15=>A.conv .u8 n15 (fun n16=>A.loop (fun b3 b4 U=>A.unI b4 (fun n20 b6=>A.unI b6 (fun n22 b7=>A.unI b7 (fun n24 b8=>A.unI b8 (fun n26 b9=>A.unV b9 (fun J c0=>A.un0 c0 ( A.cmp .lss n22 (.ofNat 50) (fun c1=>A.cond c1 ( A.conv .u8 n20 (fun n31=>A.new (.cells [(.int .u8 n31)] 1 true) U (fun d0 d1=>A.heap (.ap cc 1 1 J (.slice (some ⟨d0,0,(some 11)⟩) 1 2)) d1 (fun d2 d3=>A.ucV d2 (fun V d4=>A.chk V ( A.uc0 d4 ( A.ari .mul .i64 n20 (.ofNat 31) (fun n38=>A.ari .mul .i64 (.ofNat 7) n22 (fun n39=>A.ari .add .i64 n38 n39 (fun n40=>A.ari .add .i64 n40 (.ofNat 11) (fun n41=>A.ari .rem .i64 n41 (.ofNat 100003) (fun n42=>A.ari .add .i64 n22 (.ofNat 1) (fun n43=>b3 [(.i n42),(.i n43),(.i n24),(.i n26),(.v V)] d3))))))))))))) ( A.conv .u8 n11 (fun n44=>A.ari .quo .i64 n11 (.ofNat 5) (fun n45=>A.conv .u8 n45 (fun n46=>A.ari .rem .i64 n20 (.ofNat 9) (fun n47=>A.call 5 [(.i n11),(.i n47)] U (fun d5 d6=>A.unI d5 (fun n50 d7=>A.unI d7 (fun n52 d8=>A.un0 d8 ( A.call 4 [(.i n44),(.i n46),(.i n50),(.i n52)] d6 (fun d9 a0=>A.unB d9 (fun e0 e1=>A.un0 e1 ( A.cond (!e0) ( K [(.b false)] a0) ( A.conv .u8 n20 (fun n58=>A.call 6 [(.i n44),(.i n46),(.i n58)] a0 (fun e2 a1=>A.unB e2 (fun f0 f1=>A.un0 f1 ( A.cond (!f0) ( K [(.b false)] a1) ( A.conv .u8 n20 (fun n63=>A.call 7 [(.i n24),(.i n26),(.v J),(.i n63)] a1 (fun f2 a2=>A.unB f2 (fun gl g0=>A.un0 g0 ( A.cond (!gl) ( K [(.b false)] a2) ( A.call 8 [(.i n24),(.i n26),(.v J)] a2 (fun g1 a3=>A.unB g1 (fun g2 g3=>A.un0 g3 ( A.cond (!g2) ( K [(.b false)] a3) ( A.conv .u8 n11 (fun n72=>A.call 9 [(.i n24),(.i n26),(.v J),(.i n72)] a3 (fun g4 a4=>A.unB g4 (fun g5 g6=>A.un0 g6 ( A.cond (!g5) ( K [(.b false)] a4) ( A.ari .sub .i64 n11 (.ofNat 2) (fun n77=>A.call 5 [(.i n11),(.i (.ofNat 1))] a4 (fun g7 g8=>A.unI g7 (fun n80 g9=>A.unI g9 (fun n82 h0=>A.un0 h0 ( A.call 10 [(.i n77),(.i (.ofNat 2)),(.v (.slice none 0 0)),(.i n80),(.i n82)] g8 (fun h1 a5=>A.unB h1 (fun h2 h3=>A.un0 h3 ( A.cond (!h2) ( K [(.b false)] a5) ( A.ari .add .i64 n11 (.ofNat 1) (fun n88=>a8 [(.i n20),(.i n88)] a5)))))))))))))))))))))))))))))))))))))))))))))))))) [(.i n9),(.i (.ofNat 0)),(.i n14),(.i n16),(.v (.slice none 0 0))] O)))) ( A.join (fun h4 h5=>A.unB h4 (fun h6 h7=>A.un0 h7 ( K [(.b h6)] h5))) (fun a6=>A.call 5 [(.i (.negSucc 9223372036854775807)),(.i (.ofNat 4611686018427387904))] O (fun h8 h9=>A.unI h8 (fun i0 i1=>A.unI i1 (fun i2 j0=>A.un0 j0 ( A.call 4 [(.i (.ofNat 1)),(.i (.ofNat 1)),(.i i0),(.i i2)] h9 (fun j1 a7=>A.unB j1 (fun j2 j3=>A.un0 j3 ( A.cond j2 ( A.call 11 [] a7 (fun j4 j5=>A.unB j4 (fun j6 j7=>A.un0 j7 ( a6 [(.b j6)] j5)))) ( a6 [(.b false)] a7))))))))))))))) [(.i (.ofNat 1)),(.i (.ofNat 0))] h)
/-- crimp/crimplaw09.CornersAll -/
noncomputable def f4(ls:List Lf)(h:HT)(K:List Lf→HT→R):R:=A.unI ls (fun n6 c0=>A.unI c0 (fun n8 c1=>A.unI c1 (fun n10 d0=>A.unI d0 (fun n12 d1=>A.un0 d1 ( A.call 12 [(.i n6),(.i n8)] h (fun d2 d3=>A.unI d2 (fun n16 d4=>A.unI d4 (fun n18 d5=>A.un0 d5 ( A.call 13 [(.i n16),(.i n18)] d3 (fun d6 d7=>A.unV d6 (fun O d8=>A.unI d8 (fun n24 d9=>A.un0 d9 ( A.loop (fun e0 e1 b3=>A.unI e1 (fun n29 e2=>A.unI e2 (fun n31 f0=>A.un0 f0 ( A.ari .mul .i64 (.ofNat 2) n18 (fun n33=>A.cmp .leq n31 n33 (fun f1=>A.cond f1 ( A.loop (fun f2 gl b4=>A.unI gl (fun n38 g0=>A.unI g0 (fun n40 g1=>A.un0 g1 ( A.ari .mul .i64 (.ofNat 2) n16 (fun n42=>A.cmp .leq n40 n42 (fun g2=>A.cond g2 ( A.call 5 [(.i n40),(.i n31)] b4 (fun g3 g4=>A.unI g3 (fun n46 g5=>A.unI g5 (fun n48 g6=>A.un0 g6 ( A.call 14 [(.i n16),(.i n18),(.i n46),(.i n48)] g4 (fun g7 b2=>A.unI g7 (fun n52 g8=>A.un0 g8 ( A.cmp .eql n52 (.ofNat 1) (fun g9=>A.join (fun h0 h1=>A.unI h0 (fun n57 h2=>A.un0 h2 ( A.ari .add .i64 n40 (.ofNat 1) (fun n59=>f2 [(.i n57),(.i n59)] h1)))) (fun b6=>A.cond g9 ( A.opt (lenS O) (fun h3=>A.cmp .geq n38 h3 (fun h4=>A.cond h4 ( K [(.b false)] b2) ( A.opt (idS 2 O n38) (fun h5=>A.peek (.lg cc 2 h5) b2 (fun h6=>A.ucI .i64 h6 (fun n65 h7=>A.ucI .i64 h7 (fun n67 h8=>A.uc0 h8 ( A.call 5 [(.i n40),(.i n31)] b2 (fun h9 b7=>A.unI h9 (fun n71 i0=>A.unI i0 (fun n73 i1=>A.un0 i1 ( A.eqs [((.i n65),(.i n71)),((.i n67),(.i n73))] (fun i2=>A.cond (!i2) ( K [(.b false)] b7) ( A.ari .add .i64 n38 (.ofNat 1) (fun n76=>b6 [(.i n76)] b7)))))))))))))))) ( b6 [(.i n38)] b2))))))))))) ( A.ari .add .i64 n31 (.ofNat 1) (fun n77=>e0 [(.i n38),(.i n77)] b4)))))))) [(.i n29),(.i (.ofNat 0))] b3) ( A.call 15 [(.i n16),(.i n18),(.i n10),(.i n12)] b3 (fun j0 j1=>A.unV j0 (fun a5 j2=>A.unI j2 (fun n82 j3=>A.un0 j3 ( A.call 16 [(.i n16),(.i n18),(.v (.slice none 0 0)),(.i n10),(.i n12)] j1 (fun j4 j5=>A.unV j4 (fun a6 j6=>A.unI j6 (fun n88 j7=>A.un0 j7 ( A.call 17 [(.i n16),(.i n18),(.v (.slice none 0 0)),(.i n10),(.i n12)] j5 (fun j8 j9=>A.unI j8 (fun n92 k0=>A.unI k0 (fun a7 k1=>A.un0 k1 ( A.call 18 [(.i n16),(.i n18),(.v (.slice none 0 0)),(.i n10),(.i n12)] j9 (fun k2 k3=>A.unB k2 (fun a8 k4=>A.unI k4 (fun a9 k5=>A.un0 k5 ( A.call 19 [(.i n16),(.i n18),(.v (.slice none 0 0)),(.i n10),(.i n12)] k3 (fun k6 J=>A.unV k6 (fun b0 k7=>A.unI k7 (fun b1 k8=>A.un0 k8 ( A.cmp .leq n10 (.ofNat 0) (fun k9=>A.cond k9 ( A.join (fun l0 l1=>A.unB l0 (fun l2 l3=>A.un0 l3 ( K [(.b l2)] l1))) (fun U=>A.cmp .eql n24 (.ofNat 0) (fun l4=>A.cond l4 ( A.opt (lenS O) (fun l5=>A.cmp .eql n29 l5 (fun l6=>A.cond l6 ( A.opt (capS O) (fun l7=>A.cmp .eql l7 n29 (fun l8=>A.cond l8 ( A.cmp .eql n82 (.ofNat 7) (fun l9=>A.cond l9 ( A.cmp .eql n88 (.ofNat 7) (fun m0=>A.cond m0 ( A.cmp .eql a7 (.ofNat 7) (fun m1=>A.cond m1 ( A.cmp .eql a9 (.ofNat 7) (fun m2=>A.cond m2 ( A.cmp .eql b1 (.ofNat 7) (fun m3=>A.cond m3 ( A.opt (lenS a6) (fun m4=>A.ari .add .i64 m4 n92 (fun m5=>A.opt (lenS b0) (fun m6=>A.ari .add .i64 m5 m6 (fun m7=>A.cmp .eql m7 (.ofNat 0) (fun m8=>A.cond m8 ( A.cond (!a8) ( A.opt (lenS a5) (fun m9=>A.cmp .eql m9 (.ofNat 0) (fun n0=>A.cmp .neq (.ofNat 7) (.ofNat 0) (fun n1=>A.eqs [((.b n0),(.b n1))] (fun n2=>A.cond n2 ( A.call 11 [] J (fun o0 o1=>A.unB o0 (fun o2 o3=>A.un0 o3 ( U [(.b o2)] o1)))) ( U [(.b false)] J)))))) ( U [(.b false)] J)) ( U [(.b false)] J))))))) ( U [(.b false)] J))) ( U [(.b false)] J))) ( U [(.b false)] J))) ( U [(.b false)] J))) ( U [(.b false)] J))) ( U [(.b false)] J)))) ( U [(.b false)] J)))) ( U [(.b false)] J)))) ( A.cmp .leq n12 (.ofNat 0) (fun o4=>A.cond o4 ( A.join (fun o5 o6=>A.unB o5 (fun o7 o8=>A.un0 o8 ( K [(.b o7)] o6))) (fun V=>A.cmp .eql n24 (.ofNat 0) (fun o9=>A.cond o9 ( A.opt (lenS O) (fun p0=>A.cmp .eql n29 p0 (fun p1=>A.cond p1 ( A.opt (capS O) (fun p2=>A.cmp .eql p2 n29 (fun p3=>A.cond p3 ( A.cmp .eql n82 (.ofNat 7) (fun p4=>A.cond p4 ( A.cmp .eql n88 (.ofNat 7) (fun p5=>A.cond p5 ( A.cmp .eql a7 (.ofNat 7) (fun p6=>A.cond p6 ( A.cmp .eql a9 (.ofNat 7) (fun p7=>A.cond p7 ( A.cmp .eql b1 (.ofNat 7) (fun p8=>A.cond p8 ( A.opt (lenS a6) (fun p9=>A.ari .add .i64 p9 n92 (fun q0=>A.opt (lenS b0) (fun q1=>A.ari .add .i64 q0 q1 (fun q2=>A.cmp .eql q2 (.ofNat 0) (fun q3=>A.cond q3 ( A.cond (!a8) ( A.opt (lenS a5) (fun q4=>A.cmp .eql q4 (.ofNat 0) (fun q5=>A.cmp .neq (.ofNat 7) (.ofNat 0) (fun q6=>A.eqs [((.b q5),(.b q6))] (fun q7=>A.cond q7 ( A.call 11 [] J (fun q8 q9=>A.unB q8 (fun rT rU=>A.un0 rU ( V [(.b rT)] q9)))) ( V [(.b false)] J)))))) ( V [(.b false)] J)) ( V [(.b false)] J))))))) ( V [(.b false)] J))) ( V [(.b false)] J))) ( V [(.b false)] J))) ( V [(.b false)] J))) ( V [(.b false)] J))) ( V [(.b false)] J)))) ( V [(.b false)] J)))) ( V [(.b false)] J)))) ( A.ari .mul .i64 (.ofNat 2) n16 (fun rW=>A.cmp .geq n10 rW (fun rX=>A.cond rX ( A.join (fun rY rZ=>A.unB rY (fun r1 r2=>A.un0 r2 ( K [(.b r1)] rZ))) (fun a0=>A.cmp .eql n24 (.ofNat 0) (fun r3=>A.cond r3 ( A.opt (lenS O) (fun r4=>A.cmp .eql n29 r4 (fun r5=>A.cond r5 ( A.opt (capS O) (fun r6=>A.cmp .eql r6 n29 (fun r7=>A.cond r7 ( A.cmp .eql n82 (.ofNat 7) (fun r8=>A.cond r8 ( A.cmp .eql n88 (.ofNat 7) (fun r9=>A.cond r9 ( A.cmp .eql a7 (.ofNat 7) (fun sa=>A.cond sa ( A.cmp .eql a9 (.ofNat 7) (fun sb=>A.cond sb ( A.cmp .eql b1 (.ofNat 7) (fun sc=>A.cond sc ( A.opt (lenS a6) (fun sd=>A.ari .add .i64 sd n92 (fun se=>A.opt (lenS b0) (fun sf=>A.ari .add .i64 se sf (fun sh=>A.cmp .eql sh (.ofNat 0) (fun si=>A.cond si ( A.cond (!a8) ( A.opt (lenS a5) (fun sj=>A.cmp .eql sj (.ofNat 0) (fun sn=>A.cmp .neq (.ofNat 7) (.ofNat 0) (fun so=>A.eqs [((.b sn),(.b so))] (fun sq=>A.cond sq ( A.call 11 [] J (fun ss su=>A.unB ss (fun sw sx=>A.un0 sx ( a0 [(.b sw)] su)))) ( a0 [(.b false)] J)))))) ( a0 [(.b false)] J)) ( a0 [(.b false)] J))))))) ( a0 [(.b false)] J))) ( a0 [(.b false)] J))) ( a0 [(.b false)] J))) ( a0 [(.b false)] J))) ( a0 [(.b false)] J))) ( a0 [(.b false)] J)))) ( a0 [(.b false)] J)))) ( a0 [(.b false)] J)))) ( A.ari .mul .i64 (.ofNat 2) n18 (fun sy=>A.cmp .geq n12 sy (fun sz=>A.cond sz ( A.join (fun sA sB=>A.unB sA (fun sC sD=>A.un0 sD ( K [(.b sC)] sB))) (fun a1=>A.cmp .eql n24 (.ofNat 0) (fun sE=>A.cond sE ( A.opt (lenS O) (fun sF=>A.cmp .eql n29 sF (fun sG=>A.cond sG ( A.opt (capS O) (fun sH=>A.cmp .eql sH n29 (fun sI=>A.cond sI ( A.cmp .eql n82 (.ofNat 7) (fun sJ=>A.cond sJ ( A.cmp .eql n88 (.ofNat 7) (fun sK=>A.cond sK ( A.cmp .eql a7 (.ofNat 7) (fun sL=>A.cond sL ( A.cmp .eql a9 (.ofNat 7) (fun sM=>A.cond sM ( A.cmp .eql b1 (.ofNat 7) (fun sN=>A.cond sN ( A.opt (lenS a6) (fun sO=>A.ari .add .i64 sO n92 (fun sP=>A.opt (lenS b0) (fun sQ=>A.ari .add .i64 sP sQ (fun sR=>A.cmp .eql sR (.ofNat 0) (fun sS=>A.cond sS ( A.cond (!a8) ( A.opt (lenS a5) (fun sU=>A.cmp .eql sU (.ofNat 0) (fun sV=>A.cmp .neq (.ofNat 7) (.ofNat 0) (fun sW=>A.eqs [((.b sV),(.b sW))] (fun sX=>A.cond sX ( A.call 11 [] J (fun sY sZ=>A.unB sY (fun s0 s1=>A.un0 s1 ( a1 [(.b s0)] sZ)))) ( a1 [(.b false)] J)))))) ( a1 [(.b false)] J)) ( a1 [(.b false)] J))))))) ( a1 [(.b false)] J))) ( a1 [(.b false)] J))) ( a1 [(.b false)] J))) ( a1 [(.b false)] J))) ( a1 [(.b false)] J))) ( a1 [(.b false)] J)))) ( a1 [(.b false)] J)))) ( a1 [(.b false)] J)))) ( A.call 14 [(.i n16),(.i n18),(.i n10),(.i n12)] J (fun s2 b8=>A.unI s2 (fun s3 s4=>A.un0 s4 ( A.cmp .eql s3 (.ofNat 0) (fun s5=>A.join (fun s6 a2=>A.unI s6 (fun a4 s7=>A.un0 s7 ( A.join (fun s8 s9=>A.unB s8 (fun ta tb=>A.un0 tb ( K [(.b ta)] s9))) (fun a3=>A.cmp .eql n24 (.ofNat 0) (fun tc=>A.cond tc ( A.opt (lenS O) (fun td=>A.cmp .eql n29 td (fun tg=>A.cond tg ( A.opt (capS O) (fun th=>A.cmp .eql th n29 (fun ti=>A.cond ti ( A.cmp .eql n82 a4 (fun tj=>A.cond tj ( A.cmp .eql n88 a4 (fun tn=>A.cond tn ( A.cmp .eql a7 a4 (fun tq=>A.cond tq ( A.cmp .eql a9 a4 (fun tr=>A.cond tr ( A.cmp .eql b1 a4 (fun tt=>A.cond tt ( A.opt (lenS a6) (fun tu=>A.ari .add .i64 tu n92 (fun tv=>A.opt (lenS b0) (fun tw=>A.ari .add .i64 tv tw (fun tx=>A.cmp .eql tx (.ofNat 0) (fun tz=>A.cond tz ( A.cond (!a8) ( A.opt (lenS a5) (fun tA=>A.cmp .eql tA (.ofNat 0) (fun tB=>A.cmp .neq a4 (.ofNat 0) (fun tC=>A.eqs [((.b tB),(.b tC))] (fun tD=>A.cond tD ( A.call 11 [] a2 (fun tE tF=>A.unB tE (fun tG tH=>A.un0 tH ( a3 [(.b tG)] tF)))) ( a3 [(.b false)] a2)))))) ( a3 [(.b false)] a2)) ( a3 [(.b false)] a2))))))) ( a3 [(.b false)] a2))) ( a3 [(.b false)] a2))) ( a3 [(.b false)] a2))) ( a3 [(.b false)] a2))) ( a3 [(.b false)] a2))) ( a3 [(.b false)] a2)))) ( a3 [(.b false)] a2)))) ( a3 [(.b false)] a2)))))) (fun b9=>A.cond s5 ( b9 [(.i (.ofNat 7))] b8) ( b9 [(.i (.ofNat 0))] b8))))))))))))))))))))))))))))))))))))))))))) [(.i (.ofNat 0)),(.i (.ofNat 0))] d7)))))))))))))
/-- crimp/crimplaw09.point -/
noncomputable def f5(ls:List Lf)(h:HT)(K:List Lf→HT→R):R:=A.unI ls (fun n6 J=>A.unI J (fun n8 O=>A.un0 O ( K [(.i n6),(.i n8)] h)))
/-- crimp/crimplaw09.CornersAround -/
noncomputable def f6(ls:List Lf)(h:HT)(K:List Lf→HT→R):R:=A.unI ls (fun n6 a8=>A.unI a8 (fun n8 a9=>A.unI a9 (fun n10 b0=>A.un0 b0 ( A.call 12 [(.i n6),(.i n8)] h (fun b1 b2=>A.unI b1 (fun n14 b3=>A.unI b3 (fun n16 b4=>A.un0 b4 ( A.call 13 [(.i n14),(.i n16)] b2 (fun b6 O=>A.unV b6 (fun V b7=>A.unI b7 (fun n22 b8=>A.un0 b8 ( A.cmp .neq n22 (.ofNat 0) (fun b9=>A.cond b9 ( K [(.b false)] O) ( A.opt (lenS V) (fun c0=>A.cmp .eql c0 (.ofNat 0) (fun c1=>A.cond c1 ( K [(.b false)] O) ( A.conv .i64 n10 (fun n27=>A.opt (lenS V) (fun d0=>A.ari .rem .i64 n27 d0 (fun n29=>A.opt (idS 2 V n29) (fun d1=>A.peek (.lg cc 2 d1) O (fun d2=>A.ucI .i64 d2 (fun n32 d3=>A.ucI .i64 d3 (fun n34 d4=>A.uc0 d4 ( A.call 15 [(.i n14),(.i n16),(.i n32),(.i n34)] O (fun d5 a1=>A.unV d5 (fun U d6=>A.unI d6 (fun n40 d7=>A.un0 d7 ( A.ari .rem .i64 n32 (.ofNat 2) (fun n42=>A.cmp .eql n42 (.ofNat 1) (fun d8=>A.join (fun d9 a0=>A.unI d9 (fun n46 e0=>A.un0 e0 ( A.cmp .neq n40 (.ofNat 0) (fun e1=>A.cond e1 ( K [(.b false)] a0) ( A.opt (lenS U) (fun e2=>A.cmp .neq e2 n46 (fun f0=>A.cond f0 ( K [(.b false)] a0) ( A.call 21 [(.i n14),(.i n16),(.i n32),(.i n34)] a0 (fun f1 f2=>A.unV f1 (fun gl g0=>A.un0 g0 ( A.call 20 [(.v U),(.v gl)] f2 (fun g1 a2=>A.unI g1 (fun n57 g2=>A.un0 g2 ( A.cmp .eql n57 (.ofNat 0) (fun g3=>A.cond g3 ( K [(.b false)] a2) ( A.loop (fun g4 g5 a3=>A.unI g5 (fun n63 g6=>A.un0 g6 ( A.cmp .lss n63 n46 (fun g7=>A.cond g7 ( A.loop (fun g8 g9 J=>A.unB g9 (fun a4 h0=>A.unI h0 (fun n71 h1=>A.un0 h1 ( A.cmp .lss n71 (.ofNat 3) (fun h2=>A.cond h2 ( A.join (fun h3 h4=>A.unB h3 (fun h5 h6=>A.un0 h6 ( A.ari .add .i64 n71 (.ofNat 1) (fun n78=>g8 [(.b h5),(.i n78)] h4)))) (fun a5=>A.cond a4 ( a5 [(.b true)] J) ( A.opt (idS 1 U n63) (fun h7=>A.peek (.lg cc 1 h7) J (fun h8=>A.ucI .i64 h8 (fun n82 h9=>A.uc0 h9 ( A.call 22 [(.i n14),(.i n16),(.i n82),(.i n71)] J (fun i0 a6=>A.unI i0 (fun n86 i1=>A.un0 i1 ( A.ari .add .i64 n63 (.ofNat 1) (fun n88=>A.ari .rem .i64 n88 n46 (fun n89=>A.opt (idS 1 U n89) (fun i2=>A.peek (.lg cc 1 i2) a6 (fun j0=>A.ucI .i64 j0 (fun n92 j1=>A.uc0 j1 ( A.cmp .eql n86 n92 (fun j2=>a5 [(.b j2)] a6))))))))))))))))) ( A.cond (!a4) ( K [(.b false)] J) ( A.ari .add .i64 n63 (.ofNat 1) (fun j3=>g4 [(.i j3)] J)))))))) [(.b false),(.i (.ofNat 0))] a3) ( A.call 11 [] a3 (fun j4 j5=>A.unB j4 (fun j6 j7=>A.un0 j7 ( K [(.b j6)] j5)))))))) [(.i (.ofNat 0))] a2)))))))))))))))) (fun a7=>A.cond d8 ( a7 [(.i (.ofNat 4))] a1) ( a7 [(.i (.ofNat 8))] a1)))))))))))))))))))))))))))))))))
/-- crimp/crimplaw09.CornersCreases -/
noncomputable def f7(ls:List Lf)(h:HT)(K:List Lf→HT→R):R:=A.unI ls (fun n6 b6=>A.unI b6 (fun n8 b7=>A.unV b7 (fun b8 b9=>A.unI b9 (fun n12 c0=>A.un0 c0 ( A.call 23 [(.i n6),(.i n8),(.v b8)] h (fun c1 d0=>A.unI c1 (fun n16 d1=>A.unI d1 (fun n18 d2=>A.unV d2 (fun a0 d3=>A.un0 d3 ( A.call 13 [(.i n16),(.i n18)] d0 (fun d4 a3=>A.unV d4 (fun a4 d5=>A.unI d5 (fun n26 d6=>A.un0 d6 ( A.cmp .neq n26 (.ofNat 0) (fun d7=>A.cond d7 ( K [(.b false)] a3) ( A.opt (lenS a4) (fun d8=>A.cmp .eql d8 (.ofNat 0) (fun d9=>A.cond d9 ( K [(.b false)] a3) ( A.conv .i64 n12 (fun n31=>A.opt (lenS a4) (fun e0=>A.ari .rem .i64 n31 e0 (fun n33=>A.opt (idS 2 a4 n33) (fun e1=>A.peek (.lg cc 2 e1) a3 (fun e2=>A.ucI .i64 e2 (fun n36 f0=>A.ucI .i64 f0 (fun n38 f1=>A.uc0 f1 ( A.call 16 [(.i n16),(.i n18),(.v a0),(.i n36),(.i n38)] a3 (fun f2 gl=>A.unV f2 (fun O g0=>A.unI g0 (fun n44 g1=>A.un0 g1 ( A.call 17 [(.i n16),(.i n18),(.v a0),(.i n36),(.i n38)] gl (fun g2 g3=>A.unI g2 (fun n48 g4=>A.unI g4 (fun n50 g5=>A.un0 g5 ( A.call 19 [(.i n16),(.i n18),(.v a0),(.i n36),(.i n38)] g3 (fun g6 g7=>A.unV g6 (fun V g8=>A.unI g8 (fun n56 g9=>A.un0 g9 ( A.call 18 [(.i n16),(.i n18),(.v a0),(.i n36),(.i n38)] g7 (fun h0 h1=>A.unB h0 (fun a6 h2=>A.unI h2 (fun n62 h3=>A.un0 h3 ( A.call 24 [(.i n16),(.i n18),(.v a0),(.i n36),(.i n38)] h1 (fun h4 U=>A.unV h4 (fun a7 h5=>A.un0 h5 ( A.cmp .neq n44 (.ofNat 0) (fun h6=>A.cond h6 ( K [(.b false)] U) ( A.cmp .neq n50 (.ofNat 0) (fun h7=>A.cond h7 ( K [(.b false)] U) ( A.cmp .neq n56 (.ofNat 0) (fun h8=>A.cond h8 ( K [(.b false)] U) ( A.cmp .neq n62 (.ofNat 0) (fun h9=>A.cond h9 ( K [(.b false)] U) ( A.opt (lenS O) (fun i0=>A.opt (lenS a7) (fun i1=>A.cmp .neq i0 i1 (fun i2=>A.cond i2 ( K [(.b false)] U) ( A.opt (capS O) (fun j0=>A.opt (lenS O) (fun j1=>A.cmp .neq j0 j1 (fun j2=>A.cond j2 ( K [(.b false)] U) ( A.opt (lenS O) (fun j3=>A.cmp .neq n48 j3 (fun j4=>A.cond j4 ( K [(.b false)] U) ( A.opt (lenS V) (fun j5=>A.opt (lenS O) (fun j6=>A.cmp .neq j5 j6 (fun j7=>A.cond j7 ( K [(.b false)] U) ( A.opt (capS V) (fun j8=>A.opt (lenS V) (fun j9=>A.cmp .neq j8 j9 (fun k0=>A.cond k0 ( K [(.b false)] U) ( A.loop (fun k1 k2 J=>A.unI k2 (fun n89 k3=>A.unI k3 (fun n91 k4=>A.un0 k4 ( A.opt (lenS O) (fun k5=>A.cmp .lss n91 k5 (fun k6=>A.cond k6 ( A.opt (idS 2 O n91) (fun k7=>A.peek (.lg cc 2 k7) J (fun k8=>A.ucI .i64 k8 (fun k9 l0=>A.ucI .u8 l0 (fun l1 l2=>A.uc0 l2 ( A.opt (idS 2 a7 n91) (fun l3=>A.peek (.lg cc 2 l3) J (fun l4=>A.ucI .i64 l4 (fun n103 l5=>A.ucI .u8 l5 (fun n105 l6=>A.uc0 l6 ( A.eqs [((.i k9),(.i n103)),((.i l1),(.i n105))] (fun l7=>A.cond (!l7) ( K [(.b false)] J) ( A.opt (idS 1 V n91) (fun l8=>A.peek (.lg cc 1 l8) J (fun l9=>A.ucI .i64 l9 (fun n110 m0=>A.uc0 m0 ( A.cmp .lss n110 (.ofNat 1) (fun m1=>A.cond m1 ( K [(.b false)] J) ( A.opt (idS 2 O n91) (fun m2=>A.opt (fdP 0 m2) (fun a8=>A.chk a8 ( A.peek (.lg cc 1 a8) J (fun m3=>A.ucI .i64 m3 (fun n116 m4=>A.uc0 m4 ( A.opt (idS 1 V n91) (fun m5=>A.peek (.lg cc 1 m5) J (fun m6=>A.ucI .i64 m6 (fun n120 m7=>A.uc0 m7 ( A.ari .add .i64 n116 n120 (fun m8=>A.ari .add .i64 n91 (.ofNat 1) (fun m9=>A.opt (lenS O) (fun n0=>A.ari .rem .i64 m9 n0 (fun n1=>A.opt (idS 2 O n1) (fun n2=>A.opt (fdP 0 n2) (fun a9=>A.chk a9 ( A.peek (.lg cc 1 a9) J (fun o0=>A.ucI .i64 o0 (fun n129 o1=>A.uc0 o1 ( A.ari .sub .i64 m8 n129 (fun n131=>A.ari .rem .i64 n131 (.ofNat 8) (fun o2=>A.cmp .neq o2 (.ofNat 0) (fun o3=>A.cond o3 ( K [(.b false)] J) ( A.opt (idS 1 V n91) (fun o4=>A.peek (.lg cc 1 o4) J (fun o5=>A.ucI .i64 o5 (fun o6 o7=>A.uc0 o7 ( A.ari .add .i64 n89 o6 (fun o8=>A.ari .add .i64 n91 (.ofNat 1) (fun o9=>k1 [(.i o8),(.i o9)] J))))))))))))))))))))))))))))))))))))))))))))))))) ( A.join (fun p0 a1=>A.unB p0 (fun b0 p1=>A.un0 p1 ( A.join (fun p2 p3=>A.unB p2 (fun p4 p5=>A.un0 p5 ( K [(.b p4)] p3))) (fun a2=>A.cmp .eql n89 (.ofNat 8) (fun p6=>A.cond p6 ( A.eqs [((.b a6),(.b b0))] (fun p7=>A.cond p7 ( A.call 11 [] a1 (fun p8 p9=>A.unB p8 (fun q0 q1=>A.un0 q1 ( a2 [(.b q0)] p9)))) ( a2 [(.b false)] a1))) ( A.opt (lenS O) (fun q2=>A.cmp .eql q2 (.ofNat 0) (fun q3=>A.cond q3 ( A.eqs [((.b a6),(.b b0))] (fun q4=>A.cond q4 ( A.call 11 [] a1 (fun q5 q6=>A.unB q5 (fun q7 q8=>A.un0 q8 ( a2 [(.b q7)] q6)))) ( a2 [(.b false)] a1))) ( a2 [(.b false)] a1))))))))) (fun a5=>A.opt (lenS O) (fun q9=>A.cmp .eql q9 (.ofNat 2) (fun rT=>A.cond rT ( A.opt (idS 2 O (.ofNat 0)) (fun rU=>A.opt (fdP 1 rU) (fun b1=>A.chk b1 ( A.peek (.lg cc 1 b1) J (fun rW=>A.ucI .u8 rW (fun rX rY=>A.uc0 rY ( A.opt (idS 2 O (.ofNat 1)) (fun rZ=>A.opt (fdP 1 rZ) (fun b2=>A.chk b2 ( A.peek (.lg cc 1 b2) J (fun r1=>A.ucI .u8 r1 (fun r2 r3=>A.uc0 r3 ( A.cmp .eql rX r2 (fun r4=>A.cond r4 ( A.opt (idS 2 O (.ofNat 1)) (fun r5=>A.opt (fdP 0 r5) (fun b3=>A.chk b3 ( A.peek (.lg cc 1 b3) J (fun r6=>A.ucI .i64 r6 (fun r7 r8=>A.uc0 r8 ( A.opt (idS 2 O (.ofNat 0)) (fun r9=>A.opt (fdP 0 r9) (fun b4=>A.chk b4 ( A.peek (.lg cc 1 b4) J (fun sa=>A.ucI .i64 sa (fun sb sc=>A.uc0 sc ( A.ari .add .i64 sb (.ofNat 4) (fun sd=>A.cmp .eql r7 sd (fun se=>a5 [(.b se)] J))))))))))))))) ( a5 [(.b false)] J))))))))))))))) ( a5 [(.b false)] J))))))))))) [(.i (.ofNat 0)),(.i (.ofNat 0))] U)))))))))))))))))))))))))))))))))))))))))))))))))))))))))))))))))))))))))
/-- crimp/crimplaw09.CornersBoth -/
noncomputable def f8(ls:List Lf)(h:HT)(K:List Lf→HT→R):R:=A.unI ls (fun n6 b2=>A.unI b2 (fun n8 b3=>A.unV b3 (fun b4 b6=>A.un0 b6 ( A.call 23 [(.i n6),(.i n8),(.v b4)] h (fun b7 b8=>A.unI b7 (fun n14 b9=>A.unI b9 (fun n16 c0=>A.unV c0 (fun O c1=>A.un0 c1 ( A.call 13 [(.i n14),(.i n16)] b8 (fun d0 a1=>A.unV d0 (fun a2 d1=>A.unI d1 (fun n24 d2=>A.un0 d2 ( A.cmp .neq n24 (.ofNat 0) (fun d3=>A.cond d3 ( K [(.b false)] a1) ( A.loop (fun d4 d5 V=>A.unI d5 (fun n30 d6=>A.unI d6 (fun n32 d7=>A.un0 d7 ( A.opt (lenS a2) (fun d8=>A.cmp .lss n32 d8 (fun d9=>A.cond d9 ( A.opt (idS 2 a2 n32) (fun e0=>A.peek (.lg cc 2 e0) V (fun e1=>A.ucI .i64 e1 (fun n38 e2=>A.ucI .i64 e2 (fun n40 f0=>A.uc0 f0 ( A.call 17 [(.i n14),(.i n16),(.v O),(.i n38),(.i n40)] V (fun f1 a3=>A.unI f1 (fun n44 f2=>A.unI f2 (fun n46 gl=>A.un0 gl ( A.cmp .neq n46 (.ofNat 0) (fun g0=>A.cond g0 ( K [(.b false)] a3) ( A.ari .add .i64 n30 n44 (fun n49=>A.ari .add .i64 n32 (.ofNat 1) (fun n50=>d4 [(.i n49),(.i n50)] a3)))))))))))))) ( A.loop (fun g1 g2 U=>A.unI g2 (fun n54 g3=>A.unI g3 (fun n56 g4=>A.un0 g4 ( A.opt (lenS O) (fun g5=>A.cmp .lss n56 g5 (fun g6=>A.cond g6 ( A.opt (idS 3 O n56) (fun g7=>A.peek (.lg cc 3 g7) U (fun g8=>A.ucI .i64 g8 (fun n62 g9=>A.ucI .u8 g9 (fun n64 h0=>A.ucI .u8 h0 (fun n66 h1=>A.uc0 h1 ( A.call 25 [(.i n14),(.i n16),(.i n62),(.i n64)] U (fun h2 h3=>A.unI h2 (fun n70 h4=>A.unI h4 (fun n72 h5=>A.unI h5 (fun n74 h6=>A.unI h6 (fun n76 h7=>A.un0 h7 ( A.loop (fun h8 h9 a4=>A.unI h9 (fun n81 i0=>A.unI i0 (fun n83 i1=>A.un0 i1 ( A.cmp .lss n83 (.ofNat 2) (fun i2=>A.cond i2 ( A.join (fun j0 j1=>A.unI j0 (fun n88 j2=>A.un0 j2 ( A.ari .add .i64 n83 (.ofNat 1) (fun n90=>h8 [(.i n88),(.i n90)] j1)))) (fun a5=>A.opt (inB 2 n83) (fun p8=>A.opt (bo [(.i n70),(.i n72),(.i n74),(.i n76)] 0 [(n83,2)] 2) (fun j3=>A.unI j3 (fun j4 j5=>A.unI j5 (fun j6 j7=>A.un0 j7 ( A.call 14 [(.i n14),(.i n16),(.i j4),(.i j6)] a4 (fun j8 a6=>A.unI j8 (fun j9 k0=>A.un0 k0 ( A.cmp .eql j9 (.ofNat 0) (fun k1=>A.cond k1 ( a5 [(.i n81)] a6) ( A.ari .add .i64 n81 (.ofNat 1) (fun n103=>A.opt (inB 2 n83) (fun p9=>A.opt (bo [(.i n70),(.i n72),(.i n74),(.i n76)] 0 [(n83,2)] 2) (fun k2=>A.unI k2 (fun k3 k4=>A.unI k4 (fun n108 k5=>A.un0 k5 ( A.call 16 [(.i n14),(.i n16),(.v O),(.i k3),(.i n108)] a6 (fun k6 k7=>A.unV k6 (fun a7 k8=>A.unI k8 (fun n114 k9=>A.un0 k9 ( A.loop (fun l0 l1 J=>A.unB l1 (fun a8 l2=>A.unI l2 (fun a0 l3=>A.un0 l3 ( A.opt (lenS a7) (fun l4=>A.cmp .lss a0 l4 (fun l5=>A.cond l5 ( A.join (fun l6 l7=>A.unB l6 (fun l8 l9=>A.un0 l9 ( A.ari .add .i64 a0 (.ofNat 1) (fun n129=>l0 [(.b l8),(.i n129)] l7)))) (fun a9=>A.cond a8 ( a9 [(.b true)] J) ( A.opt (idS 2 a7 a0) (fun m0=>A.peek (.lg cc 2 m0) J (fun m1=>A.ucI .i64 m1 (fun n133 m2=>A.ucI .u8 m2 (fun m3 m4=>A.uc0 m4 ( A.opt (inB 2 n83) (fun q0=>A.opt (bo [(.i n70),(.i n72),(.i n74),(.i n76)] 0 [(n83,2)] 2) (fun m5=>A.unI m5 (fun m6 m7=>A.unI m7 (fun m8 m9=>A.un0 m9 ( A.ari .sub .i64 (.ofNat 1) n83 (fun b0=>A.opt (inB 2 b0) (fun q1=>A.opt (bo [(.i n70),(.i n72),(.i n74),(.i n76)] 0 [(b0,2)] 2) (fun n0=>A.unI n0 (fun n1 n2=>A.unI n2 (fun o0 o1=>A.un0 o1 ( A.call 26 [(.i m6),(.i m8),(.i n1),(.i o0)] J (fun o2 o3=>A.unI o2 (fun o4 o5=>A.un0 o5 ( A.eqs [((.i n133),(.i o4)),((.i m3),(.i n66))] (fun o6=>a9 [(.b o6)] o3))))))))))))))))))))))) ( A.cmp .neq n114 (.ofNat 0) (fun o7=>A.cond o7 ( K [(.b false)] J) ( A.cond (!a8) ( K [(.b false)] J) ( a5 [(.i n103)] J)))))))))) [(.b false),(.i (.ofNat 0))] k7)))))))))))))))))))))) ( A.ari .add .i64 n56 (.ofNat 1) (fun o8=>g1 [(.i n81),(.i o8)] a4))))))) [(.i n54),(.i (.ofNat 0))] h3))))))))))))) ( A.join (fun o9 p0=>A.unB o9 (fun p1 p2=>A.un0 p2 ( K [(.b p1)] p0))) (fun b1=>A.cmp .eql n30 n54 (fun p3=>A.cond p3 ( A.call 11 [] U (fun p4 p5=>A.unB p4 (fun p6 p7=>A.un0 p7 ( b1 [(.b p6)] p5)))) ( b1 [(.b false)] U)))))))))) [(.i (.ofNat 0)),(.i (.ofNat 0))] V))))))) [(.i (.ofNat 0)),(.i (.ofNat 0))] a1)))))))))))))))
/-- crimp/crimplaw09.CornersTurned -/
noncomputable def f9(ls:List Lf)(h:HT)(K:List Lf→HT→R):R:=A.unI ls (fun n6 a8=>A.unI a8 (fun n8 a9=>A.unV a9 (fun b0 b1=>A.unI b1 (fun n12 b2=>A.un0 b2 ( A.call 23 [(.i n6),(.i n8),(.v b0)] h (fun b3 b4=>A.unI b3 (fun n16 b6=>A.unI b6 (fun n18 b7=>A.unV b7 (fun a3 b8=>A.un0 b8 ( A.call 27 [(.i n16),(.i n18),(.v a3)] b4 (fun b9 c0=>A.unI b9 (fun n24 c1=>A.unI c1 (fun n26 d0=>A.unV d0 (fun d1 d2=>A.unI d2 (fun n30 d3=>A.un0 d3 ( A.call 13 [(.i n16),(.i n18)] c0 (fun d4 J=>A.unV d4 (fun a1 d5=>A.unI d5 (fun n36 d6=>A.un0 d6 ( A.cmp .neq n30 (.ofNat 0) (fun d7=>A.cond d7 ( K [(.b false)] J) ( A.cmp .neq n36 (.ofNat 0) (fun d8=>A.cond d8 ( K [(.b false)] J) ( A.opt (lenS a1) (fun d9=>A.cmp .eql d9 (.ofNat 0) (fun e0=>A.cond e0 ( K [(.b false)] J) ( A.conv .i64 n12 (fun n42=>A.opt (lenS a1) (fun e1=>A.ari .rem .i64 n42 e1 (fun n44=>A.opt (idS 2 a1 n44) (fun e2=>A.peek (.lg cc 2 e2) J (fun f0=>A.ucI .i64 f0 (fun n47 f1=>A.ucI .i64 f1 (fun n49 f2=>A.uc0 f2 ( A.call 16 [(.i n16),(.i n18),(.v a3),(.i n47),(.i n49)] J (fun gl g0=>A.unV gl (fun U g1=>A.unI g1 (fun n55 g2=>A.un0 g2 ( A.ari .mul .i64 (.ofNat 2) n16 (fun n57=>A.ari .sub .i64 n57 n47 (fun n58=>A.call 5 [(.i n58),(.i n49)] g0 (fun g3 g4=>A.unI g3 (fun n61 g5=>A.unI g5 (fun n63 g6=>A.un0 g6 ( A.call 16 [(.i n24),(.i n26),(.v d1),(.i n61),(.i n63)] g4 (fun g7 V=>A.unV g7 (fun a2 g8=>A.unI g8 (fun n69 g9=>A.un0 g9 ( A.cmp .neq n55 (.ofNat 0) (fun h0=>A.cond h0 ( K [(.b false)] V) ( A.cmp .neq n69 (.ofNat 0) (fun h1=>A.cond h1 ( K [(.b false)] V) ( A.opt (lenS U) (fun h2=>A.opt (lenS a2) (fun h3=>A.cmp .neq h2 h3 (fun h4=>A.cond h4 ( K [(.b false)] V) ( A.loop (fun h5 h6 a0=>A.unI h6 (fun n79 h7=>A.un0 h7 ( A.opt (lenS U) (fun h8=>A.cmp .lss n79 h8 (fun h9=>A.cond h9 ( A.opt (idS 2 U n79) (fun i0=>A.opt (fdP 0 i0) (fun a4=>A.chk a4 ( A.peek (.lg cc 1 a4) a0 (fun i1=>A.ucI .i64 i1 (fun n86 i2=>A.uc0 i2 ( A.ari .sub .i64 (.ofNat 12) n86 (fun n88=>A.ari .rem .i64 n88 (.ofNat 8) (fun n89=>A.opt (idS 2 U n79) (fun j0=>A.opt (fdP 1 j0) (fun a5=>A.chk a5 ( A.peek (.lg cc 1 a5) a0 (fun j1=>A.ucI .u8 j1 (fun n93 j2=>A.uc0 j2 ( A.call 28 [(.i n93)] a0 (fun j3 j4=>A.unI j3 (fun j5 j6=>A.un0 j6 ( A.loop (fun j7 j8 O=>A.unB j8 (fun a6 j9=>A.unI j9 (fun n104 k0=>A.un0 k0 ( A.opt (lenS a2) (fun k1=>A.cmp .lss n104 k1 (fun k2=>A.cond k2 ( A.join (fun k3 k4=>A.unB k3 (fun k5 k6=>A.un0 k6 ( A.ari .add .i64 n104 (.ofNat 1) (fun n112=>j7 [(.b k5),(.i n112)] k4)))) (fun a7=>A.cond a6 ( a7 [(.b true)] O) ( A.opt (idS 2 a2 n104) (fun k7=>A.peek (.lg cc 2 k7) O (fun k8=>A.ucI .i64 k8 (fun n116 k9=>A.ucI .u8 k9 (fun n118 l0=>A.uc0 l0 ( A.eqs [((.i n116),(.i n89)),((.i n118),(.i j5))] (fun l1=>a7 [(.b l1)] O))))))))) ( A.cond (!a6) ( K [(.b false)] O) ( A.ari .add .i64 n79 (.ofNat 1) (fun l2=>h5 [(.i l2)] O))))))))) [(.b false),(.i (.ofNat 0))] j4)))))))))))))))))) ( A.call 11 [] a0 (fun l3 l4=>A.unB l3 (fun l5 l6=>A.un0 l6 ( K [(.b l5)] l4))))))))) [(.i (.ofNat 0))] V)))))))))))))))))))))))))))))))))))))))))))))))))))))))))
/-- crimp/crimplaw09.CornersErrors -/
noncomputable def f10(ls:List Lf)(h:HT)(K:List Lf→HT→R):R:=A.unI ls (fun n6 f1=>A.unI f1 (fun n8 f2=>A.unV f2 (fun J gl=>A.unI gl (fun n12 g0=>A.unI g0 (fun n14 g1=>A.un0 g1 ( A.opt (lenS J) (fun g2=>A.cmp .gtr g2 (.ofNat 20) (fun g3=>A.cond g3 ( K [(.b true)] h) ( A.call 29 [(.i n6),(.i n8)] h (fun g4 c0=>A.unI g4 (fun n20 g5=>A.un0 g5 ( A.cmp .eql n20 (.ofNat 1) (fun g6=>A.cond g6 ( A.cmp .gtr n6 (.ofNat 5) (fun g7=>A.cond g7 ( K [(.b true)] c0) ( A.cmp .gtr n8 (.ofNat 5) (fun g8=>A.join (fun g9 h0=>A.un0 g9 ( A.call 13 [(.i n6),(.i n8)] h0 (fun h1 h2=>A.unV h1 (fun wQ h3=>A.unI h3 (fun n31 h4=>A.un0 h4 ( A.call 15 [(.i n6),(.i n8),(.i n12),(.i n14)] h2 (fun h5 h6=>A.unV h5 (fun wR h7=>A.unI h7 (fun n37 h8=>A.un0 h8 ( A.call 29 [(.i n6),(.i n8)] h6 (fun h9 c1=>A.unI h9 (fun n41 i0=>A.un0 i0 ( A.cmp .eql n41 (.ofNat 0) (fun i1=>A.cond i1 ( A.cmp .neq n31 (.ofNat 1) (fun i2=>A.cond i2 ( K [(.b false)] c1) ( A.cmp .neq n37 (.ofNat 1) (fun j0=>A.cond j0 ( K [(.b false)] c1) ( A.call 29 [(.i n6),(.i n8)] c1 (fun j1 d1=>A.unI j1 (fun n48 j2=>A.un0 j2 ( A.cmp .eql n48 (.ofNat 1) (fun j3=>A.cond j3 ( A.cmp .neq n31 (.ofNat 0) (fun j4=>A.join (fun j5 j6=>A.un0 j5 ( A.call 30 [(.i n6),(.i n8),(.v J)] j6 (fun j7 d6=>A.unI j7 (fun n56 j8=>A.un0 j8 ( A.cmp .eql n56 (.ofNat 0) (fun j9=>A.cond j9 ( A.call 11 [] d6 (fun k0 k1=>A.unB k0 (fun k2 k3=>A.un0 k3 ( K [(.b k2)] k1)))) ( A.call 16 [(.i n6),(.i n8),(.v J),(.i n12),(.i n14)] d6 (fun k4 k5=>A.unV k4 (fun wS k6=>A.unI k6 (fun n67 k7=>A.un0 k7 ( A.call 17 [(.i n6),(.i n8),(.v J),(.i n12),(.i n14)] k5 (fun k8 k9=>A.unI k8 (fun n71 l0=>A.unI l0 (fun n73 l1=>A.un0 l1 ( A.call 18 [(.i n6),(.i n8),(.v J),(.i n12),(.i n14)] k9 (fun l2 l3=>A.unB l2 (fun wT l4=>A.unI l4 (fun n79 l5=>A.un0 l5 ( A.call 19 [(.i n6),(.i n8),(.v J),(.i n12),(.i n14)] l3 (fun l6 O=>A.unV l6 (fun wU l7=>A.unI l7 (fun n85 l8=>A.un0 l8 ( A.join (fun l9 m0=>A.unB l9 (fun m1 m2=>A.un0 m2 ( K [(.b m1)] m0))) (fun U=>A.cmp .eql n67 n56 (fun m3=>A.cond m3 ( A.cmp .eql n73 n56 (fun m4=>A.cond m4 ( A.cmp .eql n79 n56 (fun m5=>A.cond m5 ( A.cmp .eql n85 n56 (fun m6=>A.cond m6 ( A.call 11 [] O (fun m7 m8=>A.unB m7 (fun m9 n0=>A.un0 n0 ( U [(.b m9)] m8)))) ( U [(.b false)] O))) ( U [(.b false)] O))) ( U [(.b false)] O))) ( U [(.b false)] O)))))))))))))))))))))))))) (fun n1=>A.cond j4 ( K [(.b false)] d1) ( n1 [] d1)))) ( A.call 30 [(.i n6),(.i n8),(.v J)] d1 (fun n2 d7=>A.unI n2 (fun n103 o0=>A.un0 o0 ( A.cmp .eql n103 (.ofNat 0) (fun o1=>A.cond o1 ( A.call 11 [] d7 (fun o2 o3=>A.unB o2 (fun o4 o5=>A.un0 o5 ( K [(.b o4)] o3)))) ( A.call 16 [(.i n6),(.i n8),(.v J),(.i n12),(.i n14)] d7 (fun o6 o7=>A.unV o6 (fun wV o8=>A.unI o8 (fun n114 o9=>A.un0 o9 ( A.call 17 [(.i n6),(.i n8),(.v J),(.i n12),(.i n14)] o7 (fun p0 p1=>A.unI p0 (fun n118 p2=>A.unI p2 (fun n120 p3=>A.un0 p3 ( A.call 18 [(.i n6),(.i n8),(.v J),(.i n12),(.i n14)] p1 (fun p4 p5=>A.unB p4 (fun wW p6=>A.unI p6 (fun p7 p8=>A.un0 p8 ( A.call 19 [(.i n6),(.i n8),(.v J),(.i n12),(.i n14)] p5 (fun p9 V=>A.unV p9 (fun wX q0=>A.unI q0 (fun q1 q2=>A.un0 q2 ( A.join (fun q3 q4=>A.unB q3 (fun q5 q6=>A.un0 q6 ( K [(.b q5)] q4))) (fun a0=>A.cmp .eql n114 n103 (fun q7=>A.cond q7 ( A.cmp .eql n120 n103 (fun q8=>A.cond q8 ( A.cmp .eql p7 n103 (fun q9=>A.cond q9 ( A.cmp .eql q1 n103 (fun rT=>A.cond rT ( A.call 11 [] V (fun rU rW=>A.unB rU (fun rX rY=>A.un0 rY ( a0 [(.b rX)] rW)))) ( a0 [(.b false)] V))) ( a0 [(.b false)] V))) ( a0 [(.b false)] V))) ( a0 [(.b false)] V)))))))))))))))))))))))))))))))))) ( A.call 29 [(.i n6),(.i n8)] c1 (fun rZ d2=>A.unI rZ (fun r1 r2=>A.un0 r2 ( A.cmp .eql r1 (.ofNat 1) (fun r3=>A.cond r3 ( A.cmp .neq n31 (.ofNat 0) (fun r4=>A.join (fun r5 r6=>A.un0 r5 ( A.call 30 [(.i n6),(.i n8),(.v J)] r6 (fun r7 d8=>A.unI r7 (fun a1 r8=>A.un0 r8 ( A.cmp .eql a1 (.ofNat 0) (fun r9=>A.cond r9 ( A.call 11 [] d8 (fun sa sb=>A.unB sa (fun sc sd=>A.un0 sd ( K [(.b sc)] sb)))) ( A.call 16 [(.i n6),(.i n8),(.v J),(.i n12),(.i n14)] d8 (fun se sf=>A.unV se (fun wY sh=>A.unI sh (fun si sj=>A.un0 sj ( A.call 17 [(.i n6),(.i n8),(.v J),(.i n12),(.i n14)] sf (fun sn so=>A.unI sn (fun wZ sq=>A.unI sq (fun ss su=>A.un0 su ( A.call 18 [(.i n6),(.i n8),(.v J),(.i n12),(.i n14)] so (fun sw sx=>A.unB sw (fun w0 sy=>A.unI sy (fun sz sA=>A.un0 sA ( A.call 19 [(.i n6),(.i n8),(.v J),(.i n12),(.i n14)] sx (fun sB a2=>A.unV sB (fun w1 sC=>A.unI sC (fun sD sE=>A.un0 sE ( A.join (fun sF sG=>A.unB sF (fun sH sI=>A.un0 sI ( K [(.b sH)] sG))) (fun a3=>A.cmp .eql si a1 (fun sJ=>A.cond sJ ( A.cmp .eql ss a1 (fun sK=>A.cond sK ( A.cmp .eql sz a1 (fun sL=>A.cond sL ( A.cmp .eql sD a1 (fun sM=>A.cond sM ( A.call 11 [] a2 (fun sN sO=>A.unB sN (fun sP sQ=>A.un0 sQ ( a3 [(.b sP)] sO)))) ( a3 [(.b false)] a2))) ( a3 [(.b false)] a2))) ( a3 [(.b false)] a2))) ( a3 [(.b false)] a2)))))))))))))))))))))))))) (fun sR=>A.cond r4 ( K [(.b false)] d2) ( sR [] d2)))) ( A.call 30 [(.i n6),(.i n8),(.v J)] d2 (fun sS d9=>A.unI sS (fun a4 sU=>A.un0 sU ( A.cmp .eql a4 (.ofNat 0) (fun sV=>A.cond sV ( A.call 11 [] d9 (fun sW sX=>A.unB sW (fun sY sZ=>A.un0 sZ ( K [(.b sY)] sX)))) ( A.call 16 [(.i n6),(.i n8),(.v J),(.i n12),(.i n14)] d9 (fun s0 s1=>A.unV s0 (fun w2 s2=>A.unI s2 (fun s3 s4=>A.un0 s4 ( A.call 17 [(.i n6),(.i n8),(.v J),(.i n12),(.i n14)] s1 (fun s5 s6=>A.unI s5 (fun xa s7=>A.unI s7 (fun s8 s9=>A.un0 s9 ( A.call 18 [(.i n6),(.i n8),(.v J),(.i n12),(.i n14)] s6 (fun ta tb=>A.unB ta (fun xb tc=>A.unI tc (fun td tg=>A.un0 tg ( A.call 19 [(.i n6),(.i n8),(.v J),(.i n12),(.i n14)] tb (fun th a5=>A.unV th (fun xd ti=>A.unI ti (fun tj tn=>A.un0 tn ( A.join (fun tq tr=>A.unB tq (fun tt tu=>A.un0 tu ( K [(.b tt)] tr))) (fun a6=>A.cmp .eql s3 a4 (fun tv=>A.cond tv ( A.cmp .eql s8 a4 (fun tw=>A.cond tw ( A.cmp .eql td a4 (fun tx=>A.cond tx ( A.cmp .eql tj a4 (fun tz=>A.cond tz ( A.call 11 [] a5 (fun tA tB=>A.unB tA (fun tC tD=>A.un0 tD ( a6 [(.b tC)] tB)))) ( a6 [(.b false)] a5))) ( a6 [(.b false)] a5))) ( a6 [(.b false)] a5))) ( a6 [(.b false)] a5)))))))))))))))))))))))))))))))))))))))))))) (fun tE=>A.cond g8 ( K [(.b true)] c0) ( tE [] c0)))))) ( A.call 13 [(.i n6),(.i n8)] c0 (fun tF tG=>A.unV tF (fun xe tH=>A.unI tH (fun d3 tI=>A.un0 tI ( A.call 15 [(.i n6),(.i n8),(.i n12),(.i n14)] tG (fun tJ tK=>A.unV tJ (fun xf tL=>A.unI tL (fun tM tN=>A.un0 tN ( A.call 29 [(.i n6),(.i n8)] tK (fun tO d0=>A.unI tO (fun tP tQ=>A.un0 tQ ( A.cmp .eql tP (.ofNat 0) (fun tR=>A.cond tR ( A.cmp .neq d3 (.ofNat 1) (fun tS=>A.cond tS ( K [(.b false)] d0) ( A.cmp .neq tM (.ofNat 1) (fun tT=>A.cond tT ( K [(.b false)] d0) ( A.call 29 [(.i n6),(.i n8)] d0 (fun tU d4=>A.unI tU (fun tV tW=>A.un0 tW ( A.cmp .eql tV (.ofNat 1) (fun tX=>A.cond tX ( A.cmp .neq d3 (.ofNat 0) (fun tY=>A.join (fun tZ t0=>A.un0 tZ ( A.call 30 [(.i n6),(.i n8),(.v J)] t0 (fun t1 e0=>A.unI t1 (fun a7 t2=>A.un0 t2 ( A.cmp .eql a7 (.ofNat 0) (fun t3=>A.cond t3 ( A.call 11 [] e0 (fun t4 t5=>A.unB t4 (fun t6 t7=>A.un0 t7 ( K [(.b t6)] t5)))) ( A.call 16 [(.i n6),(.i n8),(.v J),(.i n12),(.i n14)] e0 (fun t8 t9=>A.unV t8 (fun xg uc=>A.unI uc (fun ud ue=>A.un0 ue ( A.call 17 [(.i n6),(.i n8),(.v J),(.i n12),(.i n14)] t9 (fun uf ug=>A.unI uf (fun xh uh=>A.unI uh (fun ui uj=>A.un0 uj ( A.call 18 [(.i n6),(.i n8),(.v J),(.i n12),(.i n14)] ug (fun uk ul=>A.unB uk (fun xi um=>A.unI um (fun uo uq=>A.un0 uq ( A.call 19 [(.i n6),(.i n8),(.v J),(.i n12),(.i n14)] ul (fun ur a8=>A.unV ur (fun xj ut=>A.unI ut (fun uu uv=>A.un0 uv ( A.join (fun uw ux=>A.unB uw (fun uy uz=>A.un0 uz ( K [(.b uy)] ux))) (fun a9=>A.cmp .eql ud a7 (fun uA=>A.cond uA ( A.cmp .eql ui a7 (fun uC=>A.cond uC ( A.cmp .eql uo a7 (fun uD=>A.cond uD ( A.cmp .eql uu a7 (fun uE=>A.cond uE ( A.call 11 [] a8 (fun uF uG=>A.unB uF (fun uH uI=>A.un0 uI ( a9 [(.b uH)] uG)))) ( a9 [(.b false)] a8))) ( a9 [(.b false)] a8))) ( a9 [(.b false)] a8))) ( a9 [(.b false)] a8)))))))))))))))))))))))))) (fun uJ=>A.cond tY ( K [(.b false)] d4) ( uJ [] d4)))) ( A.call 30 [(.i n6),(.i n8),(.v J)] d4 (fun uK e1=>A.unI uK (fun b0 uL=>A.un0 uL ( A.cmp .eql b0 (.ofNat 0) (fun uM=>A.cond uM ( A.call 11 [] e1 (fun uN uO=>A.unB uN (fun uP uQ=>A.un0 uQ ( K [(.b uP)] uO)))) ( A.call 16 [(.i n6),(.i n8),(.v J),(.i n12),(.i n14)] e1 (fun uR uS=>A.unV uR (fun xk uT=>A.unI uT (fun uU uV=>A.un0 uV ( A.call 17 [(.i n6),(.i n8),(.v J),(.i n12),(.i n14)] uS (fun uW uX=>A.unI uW (fun xl uY=>A.unI uY (fun uZ u0=>A.un0 u0 ( A.call 18 [(.i n6),(.i n8),(.v J),(.i n12),(.i n14)] uX (fun u1 u2=>A.unB u1 (fun xm u3=>A.unI u3 (fun u4 u5=>A.un0 u5 ( A.call 19 [(.i n6),(.i n8),(.v J),(.i n12),(.i n14)] u2 (fun u6 b1=>A.unV u6 (fun xn u7=>A.unI u7 (fun u8 u9=>A.un0 u9 ( A.join (fun va vb=>A.unB va (fun vc vd=>A.un0 vd ( K [(.b vc)] vb))) (fun b2=>A.cmp .eql uU b0 (fun ve=>A.cond ve ( A.cmp .eql uZ b0 (fun vf=>A.cond vf ( A.cmp .eql u4 b0 (fun vg=>A.cond vg ( A.cmp .eql u8 b0 (fun vh=>A.cond vh ( A.call 11 [] b1 (fun vi vj=>A.unB vi (fun vk vl=>A.un0 vl ( b2 [(.b vk)] vj)))) ( b2 [(.b false)] b1))) ( b2 [(.b false)] b1))) ( b2 [(.b false)] b1))) ( b2 [(.b false)] b1)))))))))))))))))))))))))))))))))) ( A.call 29 [(.i n6),(.i n8)] d0 (fun vm d5=>A.unI vm (fun vn vo=>A.un0 vo ( A.cmp .eql vn (.ofNat 1) (fun vp=>A.cond vp ( A.cmp .neq d3 (.ofNat 0) (fun vq=>A.join (fun vr vt=>A.un0 vr ( A.call 30 [(.i n6),(.i n8),(.v J)] vt (fun vu e2=>A.unI vu (fun b3 vw=>A.un0 vw ( A.cmp .eql b3 (.ofNat 0) (fun vx=>A.cond vx ( A.call 11 [] e2 (fun vy vz=>A.unB vy (fun vA vB=>A.un0 vB ( K [(.b vA)] vz)))) ( A.call 16 [(.i n6),(.i n8),(.v J),(.i n12),(.i n14)] e2 (fun vC vD=>A.unV vC (fun xo vE=>A.unI vE (fun vF vG=>A.un0 vG ( A.call 17 [(.i n6),(.i n8),(.v J),(.i n12),(.i n14)] vD (fun vH vI=>A.unI vH (fun xp vJ=>A.unI vJ (fun vK vL=>A.un0 vL ( A.call 18 [(.i n6),(.i n8),(.v J),(.i n12),(.i n14)] vI (fun vM vN=>A.unB vM (fun xq vO=>A.unI vO (fun vP vQ=>A.un0 vQ ( A.call 19 [(.i n6),(.i n8),(.v J),(.i n12),(.i n14)] vN (fun vR b4=>A.unV vR (fun xr vS=>A.unI vS (fun vT vU=>A.un0 vU ( A.join (fun vV vW=>A.unB vV (fun vX vY=>A.un0 vY ( K [(.b vX)] vW))) (fun b6=>A.cmp .eql vF b3 (fun vZ=>A.cond vZ ( A.cmp .eql vK b3 (fun v0=>A.cond v0 ( A.cmp .eql vP b3 (fun v1=>A.cond v1 ( A.cmp .eql vT b3 (fun v2=>A.cond v2 ( A.call 11 [] b4 (fun v3 v4=>A.unB v3 (fun v5 v6=>A.un0 v6 ( b6 [(.b v5)] v4)))) ( b6 [(.b false)] b4))) ( b6 [(.b false)] b4))) ( b6 [(.b false)] b4))) ( b6 [(.b false)] b4)))))))))))))))))))))))))) (fun v7=>A.cond vq ( K [(.b false)] d5) ( v7 [] d5)))) ( A.call 30 [(.i n6),(.i n8),(.v J)] d5 (fun v8 f0=>A.unI v8 (fun b7 v9=>A.un0 v9 ( A.cmp .eql b7 (.ofNat 0) (fun wc=>A.cond wc ( A.call 11 [] f0 (fun we wg=>A.unB we (fun wh wi=>A.un0 wi ( K [(.b wh)] wg)))) ( A.call 16 [(.i n6),(.i n8),(.v J),(.i n12),(.i n14)] f0 (fun wj wk=>A.unV wj (fun xt wl=>A.unI wl (fun wm wn=>A.un0 wn ( A.call 17 [(.i n6),(.i n8),(.v J),(.i n12),(.i n14)] wk (fun wo wp=>A.unI wo (fun xu wq=>A.unI wq (fun wt wu=>A.un0 wu ( A.call 18 [(.i n6),(.i n8),(.v J),(.i n12),(.i n14)] wp (fun wv ww=>A.unB wv (fun xv wx=>A.unI wx (fun wy wz=>A.un0 wz ( A.call 19 [(.i n6),(.i n8),(.v J),(.i n12),(.i n14)] ww (fun wA b8=>A.unV wA (fun xw wB=>A.unI wB (fun wC wD=>A.un0 wD ( A.join (fun wE wF=>A.unB wE (fun wG wH=>A.un0 wH ( K [(.b wG)] wF))) (fun b9=>A.cmp .eql wm b7 (fun wI=>A.cond wI ( A.cmp .eql wt b7 (fun wJ=>A.cond wJ ( A.cmp .eql wy b7 (fun wK=>A.cond wK ( A.cmp .eql wC b7 (fun wL=>A.cond wL ( A.call 11 [] b8 (fun wM wN=>A.unB wM (fun wO wP=>A.un0 wP ( b9 [(.b wO)] wN)))) ( b9 [(.b false)] b8))) ( b9 [(.b false)] b8))) ( b9 [(.b false)] b8))) ( b9 [(.b false)] b8))))))))))))))))))))))))))))))))))))))))))))))))))))))))
/-- crimp/crimplaw09.lives -/
noncomputable def f11(ls:List Lf)(h:HT)(K:List Lf→HT→R):R:=A.un0 ls ( A.call 13 [(.i (.ofNat 2)),(.i (.ofNat 2))] h (fun b0 b1=>A.unV b0 (fun a5 b2=>A.unI b2 (fun n10 b3=>A.un0 b3 ( A.call 5 [(.i (.ofNat 1)),(.i (.ofNat 1))] b1 (fun b4 b6=>A.unI b4 (fun n14 b7=>A.unI b7 (fun n16 b8=>A.un0 b8 ( A.call 15 [(.i (.ofNat 2)),(.i (.ofNat 2)),(.i n14),(.i n16)] b6 (fun b9 c0=>A.unV b9 (fun c1 d0=>A.unI d0 (fun n22 d1=>A.un0 d1 ( A.call 5 [(.i (.ofNat 2)),(.i (.ofNat 2))] c0 (fun d2 d3=>A.unI d2 (fun n26 d4=>A.unI d4 (fun n28 d5=>A.un0 d5 ( A.call 15 [(.i (.ofNat 2)),(.i (.ofNat 2)),(.i n26),(.i n28)] d3 (fun d6 d7=>A.unV d6 (fun d8 d9=>A.unI d9 (fun n34 e0=>A.un0 e0 ( A.call 5 [(.i (.ofNat 1)),(.i (.ofNat 1))] d7 (fun e1 e2=>A.unI e1 (fun n38 f0=>A.unI f0 (fun n40 f1=>A.un0 f1 ( A.call 5 [(.i (.ofNat 3)),(.i (.ofNat 1))] e2 (fun f2 gl=>A.unI f2 (fun n44 g0=>A.unI g0 (fun n46 g1=>A.un0 g1 ( A.call 5 [(.i (.ofNat 2)),(.i (.ofNat 2))] gl (fun g2 g3=>A.unI g2 (fun n50 g4=>A.unI g4 (fun n52 g5=>A.un0 g5 ( A.call 5 [(.i (.ofNat 1)),(.i (.ofNat 3))] g3 (fun g6 g7=>A.unI g6 (fun n56 g8=>A.unI g8 (fun n58 g9=>A.un0 g9 ( A.call 5 [(.i (.ofNat 3)),(.i (.ofNat 3))] g7 (fun h0 h1=>A.unI h0 (fun n62 h2=>A.unI h2 (fun n64 h3=>A.un0 h3 ( A.new (.cells [(.int .i64 n38),(.int .i64 n40),(.int .i64 n44),(.int .i64 n46),(.int .i64 n50),(.int .i64 n52),(.int .i64 n56),(.int .i64 n58),(.int .i64 n62),(.int .i64 n64)] 2 true) h1 (fun h4 U=>A.cmp .neq n10 (.ofNat 0) (fun h5=>A.cond h5 ( K [(.b false)] U) ( A.cmp .neq n22 (.ofNat 0) (fun h6=>A.cond h6 ( K [(.b false)] U) ( A.cmp .neq n34 (.ofNat 0) (fun h7=>A.cond h7 ( K [(.b false)] U) ( A.opt (lenS a5) (fun h8=>A.cmp .neq h8 (.ofNat 5) (fun h9=>A.cond h9 ( K [(.b false)] U) ( A.new (.cells [(.int .i64 (.ofNat 2)),(.int .i64 (.ofNat 3)),(.int .i64 (.ofNat 0)),(.int .i64 (.ofNat 1))] 1 true) U (fun i0 i1=>A.call 20 [(.v c1),(.v (.slice (some ⟨i0,0,(some 11)⟩) 4 5))] i1 (fun i2 a6=>A.unI i2 (fun n77 j0=>A.un0 j0 ( A.cmp .eql n77 (.ofNat 0) (fun j1=>A.cond j1 ( K [(.b false)] a6) ( A.new (.cells [(.int .i64 (.ofNat 12)),(.int .i64 (.ofNat 15)),(.int .i64 (.ofNat 9)),(.int .i64 (.ofNat 8)),(.int .i64 (.ofNat 2)),(.int .i64 (.ofNat 1)),(.int .i64 (.ofNat 7)),(.int .i64 (.ofNat 6))] 1 true) a6 (fun j2 j3=>A.call 20 [(.v d8),(.v (.slice (some ⟨j2,0,(some 11)⟩) 8 9))] j3 (fun j4 a7=>A.unI j4 (fun n84 j5=>A.un0 j5 ( A.cmp .eql n84 (.ofNat 0) (fun j6=>A.cond j6 ( K [(.b false)] a7) ( A.loop (fun j7 j8 V=>A.unI j8 (fun n90 j9=>A.un0 j9 ( A.cmp .lss n90 (.ofNat 5) (fun k0=>A.cond k0 ( A.opt (idS 2 a5 n90) (fun k1=>A.peek (.lg cc 2 k1) V (fun k2=>A.ucI .i64 k2 (fun k3 k4=>A.ucI .i64 k4 (fun k5 k6=>A.uc0 k6 ( A.opt (idS 2 (.slice (some ⟨h4,0,(some 12)⟩) 5 6) n90) (fun k7=>A.peek (.lg cc 2 k7) V (fun k8=>A.ucI .i64 k8 (fun k9 l0=>A.ucI .i64 l0 (fun n103 l1=>A.uc0 l1 ( A.eqs [((.i k3),(.i k9)),((.i k5),(.i n103))] (fun l2=>A.cond (!l2) ( K [(.b false)] V) ( A.ari .add .i64 n90 (.ofNat 1) (fun l3=>j7 [(.i l3)] V)))))))))))))) ( A.new (.cells [(.int .u8 (.ofNat 1)),(.int .u8 (.ofNat 1)),(.int .i64 (.ofNat 1)),(.int .i64 (.ofNat 0)),(.int .i64 (.ofNat 4)),(.int .u8 (.ofNat 2)),(.int .u8 (.ofNat 3)),(.int .i64 (.ofNat 2)),(.int .i64 (.ofNat 2)),(.int .i64 (.ofNat 4)),(.int .u8 (.ofNat 3)),(.int .u8 (.ofNat 4)),(.int .i64 (.ofNat 0)),(.int .i64 (.ofNat 0)),(.int .i64 (.ofNat 1))] 5 true) V (fun l4 l5=>A.call 31 [(.i (.ofNat 2)),(.i (.ofNat 2)),(.v (.slice (some ⟨l4,0,(some 15)⟩) 3 4))] l5 (fun l6 l7=>A.unI l6 (fun a0 l8=>A.unI l8 (fun n113 l9=>A.unV l9 (fun a1 m0=>A.unI m0 (fun n117 m1=>A.unI m1 (fun n119 m2=>A.un0 m2 ( A.call 5 [(.i (.ofNat 2)),(.i (.ofNat 2))] l7 (fun m3 m4=>A.unI m3 (fun m5 m6=>A.unI m6 (fun m7 m8=>A.un0 m8 ( A.call 16 [(.i a0),(.i n113),(.v a1),(.i m5),(.i m7)] m4 (fun m9 n0=>A.unV m9 (fun a2 n1=>A.unI n1 (fun n131 n2=>A.un0 n2 ( A.call 5 [(.i (.ofNat 2)),(.i (.ofNat 2))] n0 (fun o0 o1=>A.unI o0 (fun o2 o3=>A.unI o3 (fun o4 o5=>A.un0 o5 ( A.call 19 [(.i a0),(.i n113),(.v a1),(.i o2),(.i o4)] o1 (fun o6 o7=>A.unV o6 (fun o8 o9=>A.unI o9 (fun tj p0=>A.un0 p0 ( A.call 5 [(.i (.ofNat 2)),(.i (.ofNat 2))] o7 (fun p1 p2=>A.unI p1 (fun p3 p4=>A.unI p4 (fun p5 p6=>A.un0 p6 ( A.call 18 [(.i a0),(.i n113),(.v a1),(.i p3),(.i p5)] p2 (fun p7 p8=>A.unB p7 (fun p9 q0=>A.unI q0 (fun tn q1=>A.un0 q1 ( A.call 5 [(.i (.ofNat 1)),(.i (.ofNat 1))] p8 (fun q2 q3=>A.unI q2 (fun q4 q5=>A.unI q5 (fun q6 q7=>A.un0 q7 ( A.call 16 [(.i a0),(.i n113),(.v a1),(.i q4),(.i q6)] q3 (fun q8 J=>A.unV q8 (fun a8 q9=>A.unI q9 (fun tq rT=>A.un0 rT ( A.opt (lenS a2) (fun rU=>A.cmp .neq rU (.ofNat 3) (fun rW=>A.cond rW ( K [(.b false)] J) ( A.opt (idS 2 a2 (.ofNat 0)) (fun rX=>A.peek (.lg cc 2 rX) J (fun rY=>A.ucI .i64 rY (fun rZ r1=>A.ucI .u8 r1 (fun r2 r3=>A.uc0 r3 ( A.eqs [((.i rZ),(.i (.ofNat 2))),((.i r2),(.i (.ofNat 1)))] (fun r4=>A.cond (!r4) ( K [(.b false)] J) ( A.opt (idS 2 a2 (.ofNat 1)) (fun r5=>A.peek (.lg cc 2 r5) J (fun r6=>A.ucI .i64 r6 (fun r7 r8=>A.ucI .u8 r8 (fun r9 sa=>A.uc0 sa ( A.eqs [((.i r7),(.i (.ofNat 6))),((.i r9),(.i (.ofNat 1)))] (fun sb=>A.cond (!sb) ( K [(.b false)] J) ( A.opt (idS 2 a2 (.ofNat 2)) (fun sc=>A.peek (.lg cc 2 sc) J (fun sd=>A.ucI .i64 sd (fun se sf=>A.ucI .u8 sf (fun sh si=>A.uc0 si ( A.eqs [((.i se),(.i (.ofNat 7))),((.i sh),(.i (.ofNat 2)))] (fun sj=>A.cond (!sj) ( K [(.b false)] J) ( A.new (.cells [(.int .i64 (.ofNat 4)),(.int .i64 (.ofNat 1)),(.int .i64 (.ofNat 3))] 1 true) J (fun sn so=>A.call 20 [(.v o8),(.v (.slice (some ⟨sn,0,(some 11)⟩) 3 4))] so (fun sq O=>A.unI sq (fun ss su=>A.un0 su ( A.cmp .eql ss (.ofNat 0) (fun sw=>A.cond sw ( K [(.b false)] O) ( A.cond p9 ( K [(.b false)] O) ( A.opt (lenS a8) (fun sx=>A.cmp .neq sx (.ofNat 1) (fun sy=>A.cond sy ( K [(.b false)] O) ( A.opt (idS 2 a8 (.ofNat 0)) (fun sz=>A.peek (.lg cc 2 sz) O (fun sA=>A.ucI .i64 sA (fun sB sC=>A.ucI .u8 sC (fun sD sE=>A.uc0 sE ( A.eqs [((.i sB),(.i (.ofNat 5))),((.i sD),(.i (.ofNat 3)))] (fun sF=>A.cond (!sF) ( K [(.b false)] O) ( A.call 5 [(.i (.ofNat 2)),(.i (.ofNat 1))] O (fun sG sH=>A.unI sG (fun sI sJ=>A.unI sJ (fun sK sL=>A.un0 sL ( A.call 5 [(.i (.ofNat 0)),(.i (.ofNat 0))] sH (fun sM sN=>A.unI sM (fun sO sP=>A.unI sP (fun sQ sR=>A.un0 sR ( A.call 5 [(.i (.ofNat 4)),(.i (.ofNat 2))] sN (fun sS sU=>A.unI sS (fun sV sW=>A.unI sW (fun sX sY=>A.un0 sY ( A.new (.cells [(.int .i64 sI),(.int .i64 sK),(.int .i64 sO),(.int .i64 sQ),(.int .i64 sV),(.int .i64 sX)] 2 true) sU (fun sZ s0=>A.loop (fun s1 s2 a3=>A.unI s2 (fun a4 s3=>A.un0 s3 ( A.cmp .lss a4 (.ofNat 3) (fun s4=>A.cond s4 ( A.opt (idS 2 (.slice (some ⟨sZ,0,(some 12)⟩) 3 4) a4) (fun s5=>A.peek (.lg cc 2 s5) a3 (fun s6=>A.ucI .i64 s6 (fun s7 s8=>A.ucI .i64 s8 (fun s9 ta=>A.uc0 ta ( A.call 15 [(.i (.ofNat 2)),(.i (.ofNat 2)),(.i s7),(.i s9)] a3 (fun tb a9=>A.unV tb (fun tr tc=>A.unI tc (fun td tg=>A.un0 tg ( A.cmp .neq td (.ofNat 7) (fun th=>A.cond th ( K [(.b false)] a9) ( A.ari .add .i64 a4 (.ofNat 1) (fun ti=>s1 [(.i ti)] a9))))))))))))) ( K [(.b true)] a3))))) [(.i (.ofNat 0))] s0))))))))))))))))))))))))))))))))))))))))))))))))))))))))))))))))))))))))))))))))))))))))))))))))))) [(.i (.ofNat 0))] a7)))))))))))))))))))))))))))))))))))))))))))))))))))))))))))))))
/-- (crimp/crimplaw05.W).Of -/
noncomputable def f12(ls:List Lf)(h:HT)(K:List Lf→HT→R):R:=A.unI ls (fun n6 J=>A.unI J (fun n8 O=>A.un0 O ( A.ari .rem .u8 n6 (.ofNat 5) (fun n10=>A.conv .i64 n10 (fun n11=>A.ari .add .i64 (.ofNat 1) n11 (fun n12=>A.ari .rem .u8 n8 (.ofNat 5) (fun n13=>A.conv .i64 n13 (fun n14=>A.ari .add .i64 (.ofNat 1) n14 (fun n15=>K [(.i n12),(.i n15)] h)))))))))
/-- crimp/corners.All -/
noncomputable def f13(ls:List Lf)(h:HT)(K:List Lf→HT→R):R:=A.unI ls (fun n6 J=>A.unI J (fun n8 O=>A.un0 O ( A.call 32 [(.i n6),(.i n8)] h (fun U V=>A.unV U (fun a0 a1=>A.unI a1 (fun n14 a2=>A.un0 a2 ( K [(.v a0),(.i n14)] V)))))))
/-- crimp/crimpref09.Is -/
noncomputable def f14(ls:List Lf)(h:HT)(K:List Lf→HT→R):R:=A.unI ls (fun n6 J=>A.unI J (fun n8 O=>A.unI O (fun n10 U=>A.unI U (fun n12 V=>A.un0 V ( A.cmp .gtr n10 (.ofNat 0) (fun a0=>A.cond a0 ( A.cmp .gtr n12 (.ofNat 0) (fun a1=>A.cond a1 ( A.ari .mul .i64 (.ofNat 2) n6 (fun n16=>A.cmp .lss n10 n16 (fun a2=>A.cond a2 ( A.ari .mul .i64 (.ofNat 2) n8 (fun n18=>A.cmp .lss n12 n18 (fun a3=>A.cond a3 ( A.ari .sub .i64 n10 n12 (fun n20=>A.ari .rem .i64 n20 (.ofNat 2) (fun n21=>A.cmp .eql n21 (.ofNat 0) (fun a4=>A.join (fun a5 a6=>A.un0 a5 ( K [(.i (.ofNat 0))] a6)) (fun a7=>A.cond a4 ( K [(.i (.ofNat 1))] h) ( a7 [] h)))))) ( K [(.i (.ofNat 0))] h)))) ( K [(.i (.ofNat 0))] h)))) ( K [(.i (.ofNat 0))] h))) ( K [(.i (.ofNat 0))] h)))))))
/-- crimp/corners.Around -/
noncomputable def f15(ls:List Lf)(h:HT)(K:List Lf→HT→R):R:=A.unI ls (fun n6 a0=>A.unI a0 (fun n8 a1=>A.unI a1 (fun n10 a2=>A.unI a2 (fun n12 a3=>A.un0 a3 ( A.call 33 [(.i n6),(.i n8),(.i n10),(.i n12)] h (fun a4 O=>A.unI a4 (fun n16 a5=>A.un0 a5 ( A.cmp .neq n16 (.ofNat 0) (fun a6=>A.cond a6 ( K [(.v (.slice none 0 0)),(.i n16)] O) ( A.new (.cells [(.slice none 0 0)] 1 true) O (fun U a7=>A.call 34 [(.i n6),(.i n8),(.i n10),(.i n12)] a7 (fun a8 a9=>A.unV a8 (fun b0 b1=>A.un0 b1 ( A.rfun 240 b0 [(.pointer (some ⟨U,0,none⟩))] a9 (fun b2 J=>A.pend b2 ( A.peek (.lg cc 1 (.pointer (some ⟨U,0,none⟩))) J (fun b3=>A.ucV b3 (fun V b4=>A.chk V ( A.uc0 b4 ( A.call 35 [(.v V)] J (fun b6 b7=>A.unV b6 (fun b8 b9=>A.un0 b9 ( K [(.v b8),(.i (.ofNat 0))] b7)))))))) ( K [(.v (.slice none 0 0)),(.i (.ofNat 0))] J) [])))))))))))))))
/-- crimp/corners.Creases -/
noncomputable def f16(ls:List Lf)(h:HT)(K:List Lf→HT→R):R:=A.unI ls (fun n6 a9=>A.unI a9 (fun n8 b0=>A.unV b0 (fun b1 b2=>A.unI b2 (fun n12 b3=>A.unI b3 (fun n14 b4=>A.un0 b4 ( A.new (.cells [(.int .i64 n6),(.int .i64 n8),b1] 3 true) h (fun J a0=>A.peek (.lg cc 3 (.pointer (some ⟨J,0,none⟩))) a0 (fun b6=>A.ucI .i64 b6 (fun n19 b7=>A.ucI .i64 b7 (fun n21 b8=>A.ucV b8 (fun a1 b9=>A.chk a1 ( A.uc0 b9 ( A.call 36 [(.i n19),(.i n21),(.v a1)] a0 (fun c0 O=>A.unI c0 (fun n27 c1=>A.un0 c1 ( A.cmp .neq n27 (.ofNat 0) (fun d0=>A.cond d0 ( K [(.v (.slice none 0 0)),(.i n27)] O) ( A.opt (fdP 0 (.pointer (some ⟨J,0,none⟩))) (fun a2=>A.chk a2 ( A.peek (.lg cc 2 a2) O (fun d1=>A.ucI .i64 d1 (fun n32 d2=>A.ucI .i64 d2 (fun n34 d3=>A.uc0 d3 ( A.call 33 [(.i n32),(.i n34),(.i n12),(.i n14)] O (fun d4 a3=>A.unI d4 (fun n38 d5=>A.un0 d5 ( A.cmp .neq n38 (.ofNat 0) (fun d6=>A.cond d6 ( K [(.v (.slice none 0 0)),(.i n38)] a3) ( A.new (.cells [(.slice none 0 0)] 1 true) a3 (fun U a4=>A.opt (fdP 0 (.pointer (some ⟨J,0,none⟩))) (fun a5=>A.chk a5 ( A.peek (.lg cc 2 a5) a4 (fun d7=>A.ucI .i64 d7 (fun n45 d8=>A.ucI .i64 d8 (fun n47 d9=>A.uc0 d9 ( A.call 34 [(.i n45),(.i n47),(.i n12),(.i n14)] a4 (fun e0 e1=>A.unV e0 (fun e2 f0=>A.un0 f0 ( A.rfun 256 e2 [(.pointer (some ⟨J,0,none⟩)),(.pointer (some ⟨U,0,none⟩))] e1 (fun f1 V=>A.pend f1 ( A.peek (.lg cc 1 (.pointer (some ⟨U,0,none⟩))) V (fun f2=>A.ucV f2 (fun a6 gl=>A.chk a6 ( A.uc0 gl ( A.call 38 [(.v a6),(.v (.func (.func 39) ⟨[]⟩ ⟨[]⟩))] V (fun g0 a7=>A.un0 g0 ( A.peek (.lg cc 1 (.pointer (some ⟨U,0,none⟩))) a7 (fun g1=>A.ucV g1 (fun a8 g2=>A.chk a8 ( A.uc0 g2 ( A.call 40 [(.v a8)] a7 (fun g3 g4=>A.unV g3 (fun g5 g6=>A.un0 g6 ( K [(.v g5),(.i (.ofNat 0))] g4)))))))))))))) ( K [(.v (.slice none 0 0)),(.i (.ofNat 0))] V) []))))))))))))))))))))))))))))))))))))))))
/-- crimp/corners.Degree -/
noncomputable def f17(ls:List Lf)(h:HT)(K:List Lf→HT→R):R:=A.unI ls (fun n6 J=>A.unI J (fun n8 O=>A.unV O (fun U V=>A.unI V (fun n12 a0=>A.unI a0 (fun n14 a1=>A.un0 a1 ( A.call 16 [(.i n6),(.i n8),(.v U),(.i n12),(.i n14)] h (fun a2 a3=>A.unV a2 (fun a4 a5=>A.unI a5 (fun n20 a6=>A.un0 a6 ( A.opt (lenS a4) (fun a7=>K [(.i a7),(.i n20)] a3)))))))))))
/-- crimp/corners.Straight -/
noncomputable def f18(ls:List Lf)(h:HT)(K:List Lf→HT→R):R:=A.unI ls (fun n6 a3=>A.unI a3 (fun n8 a4=>A.unV a4 (fun a5 a6=>A.unI a6 (fun n12 a7=>A.unI a7 (fun n14 a8=>A.un0 a8 ( A.call 16 [(.i n6),(.i n8),(.v a5),(.i n12),(.i n14)] h (fun a9 J=>A.unV a9 (fun O b0=>A.unI b0 (fun n20 b1=>A.un0 b1 ( A.join (fun b2 b3=>A.unB b2 (fun b4 b6=>A.unI b6 (fun n26 b7=>A.un0 b7 ( K [(.b b4),(.i n26)] b3)))) (fun U=>A.opt (lenS O) (fun b8=>A.cmp .eql b8 (.ofNat 2) (fun b9=>A.cond b9 ( A.opt (idS 2 O (.ofNat 0)) (fun c0=>A.opt (fdP 1 c0) (fun V=>A.chk V ( A.peek (.lg cc 1 V) J (fun c1=>A.ucI .u8 c1 (fun n34 d0=>A.uc0 d0 ( A.opt (idS 2 O (.ofNat 1)) (fun d1=>A.opt (fdP 1 d1) (fun a0=>A.chk a0 ( A.peek (.lg cc 1 a0) J (fun d2=>A.ucI .u8 d2 (fun n39 d3=>A.uc0 d3 ( A.cmp .eql n34 n39 (fun d4=>A.cond d4 ( A.opt (idS 2 O (.ofNat 1)) (fun d5=>A.opt (fdP 0 d5) (fun a1=>A.chk a1 ( A.peek (.lg cc 1 a1) J (fun d6=>A.ucI .i64 d6 (fun n45 d7=>A.uc0 d7 ( A.opt (idS 2 O (.ofNat 0)) (fun d8=>A.opt (fdP 0 d8) (fun a2=>A.chk a2 ( A.peek (.lg cc 1 a2) J (fun d9=>A.ucI .i64 d9 (fun n50 e0=>A.uc0 e0 ( A.ari .sub .i64 n45 n50 (fun n52=>A.cmp .eql n52 (.ofNat 4) (fun e1=>U [(.b e1),(.i n20)] J))))))))))))))) ( U [(.b false),(.i n20)] J))))))))))))))) ( U [(.b false),(.i n20)] J))))))))))))))
/-- crimp/corners.Angles -/
noncomputable def f19(ls:List Lf)(h:HT)(K:List Lf→HT→R):R:=A.unI ls (fun n6 a4=>A.unI a4 (fun n8 a5=>A.unV a5 (fun a6 a7=>A.unI a7 (fun n12 a8=>A.unI a8 (fun n14 a9=>A.un0 a9 ( A.call 16 [(.i n6),(.i n8),(.v a6),(.i n12),(.i n14)] h (fun b0 a1=>A.unV b0 (fun O b1=>A.unI b1 (fun n20 b2=>A.un0 b2 ( A.cmp .neq n20 (.ofNat 0) (fun b3=>A.cond b3 ( K [(.v (.slice none 0 0)),(.i n20)] a1) ( A.opt (lenS O) (fun J=>A.opt (mkOk J J) (fun gl=>A.new (.cells (bC [(.int .i64 (.ofNat 0))] (Int.toNat J)) 1 true) a1 (fun U b4=>A.opt (lenS O) (fun b6=>A.loop (fun b7 b8 V=>A.unI b8 (fun n31 b9=>A.un0 b9 ( A.cmp .lss n31 b6 (fun c0=>A.cond c0 ( A.opt (idS 2 O n31) (fun c1=>A.peek (.lg cc 2 c1) V (fun d0=>A.ucI .i64 d0 (fun n36 d1=>A.ucI .u8 d1 (fun n38 d2=>A.uc0 d2 ( A.ari .add .i64 n31 (.ofNat 1) (fun n40=>A.opt (lenS O) (fun d3=>A.ari .rem .i64 n40 d3 (fun n42=>A.opt (idS 2 O n42) (fun d4=>A.opt (fdP 0 d4) (fun a2=>A.chk a2 ( A.peek (.lg cc 1 a2) V (fun d5=>A.ucI .i64 d5 (fun n46 d6=>A.uc0 d6 ( A.ari .sub .i64 n46 n36 (fun n48=>A.ari .add .i64 n48 (.ofNat 8) (fun n49=>A.ari .rem .i64 n49 (.ofNat 8) (fun n50=>A.opt (idS 1 (.slice (some ⟨U,0,(some 11)⟩) (Int.toNat J) ((Int.toNat J)+1)) n31) (fun d7=>A.heap (.st d7 [(.int .i64 n50)]) V (fun g0 a0=>A.opt (idS 1 (.slice (some ⟨U,0,(some 11)⟩) (Int.toNat J) ((Int.toNat J)+1)) n31) (fun d8=>A.peek (.lg cc 1 d8) a0 (fun d9=>A.ucI .i64 d9 (fun n56 e0=>A.uc0 e0 ( A.cmp .eql n56 (.ofNat 0) (fun e1=>A.join (fun e2 f0=>A.un0 e2 ( A.ari .add .i64 n31 (.ofNat 1) (fun n61=>b7 [(.i n61)] f0))) (fun a3=>A.cond e1 ( A.opt (idS 1 (.slice (some ⟨U,0,(some 11)⟩) (Int.toNat J) ((Int.toNat J)+1)) n31) (fun f1=>A.heap (.st f1 [(.int .i64 (.ofNat 8))]) a0 (fun g1 f2=>a3 [] f2))) ( a3 [] a0))))))))))))))))))))))))))) ( K [(.v (.slice (some ⟨U,0,(some 11)⟩) (Int.toNat J) ((Int.toNat J)+1))),(.i (.ofNat 0))] V))))) [(.i (.ofNat 0))] b4))))))))))))))))
/-- crimp/crimplaw09.same -/
noncomputable def f20(ls:List Lf)(h:HT)(K:List Lf→HT→R):R:=A.unV ls (fun J V=>A.unV V (fun U a0=>A.un0 a0 ( A.opt (lenS J) (fun a1=>A.opt (lenS U) (fun a2=>A.cmp .neq a1 a2 (fun a3=>A.cond a3 ( K [(.i (.ofNat 0))] h) ( A.opt (capS J) (fun a4=>A.opt (lenS J) (fun a5=>A.cmp .neq a4 a5 (fun a6=>A.cond a6 ( K [(.i (.ofNat 0))] h) ( A.loop (fun a7 a8 O=>A.unI a8 (fun n19 a9=>A.un0 a9 ( A.opt (lenS J) (fun b0=>A.cmp .lss n19 b0 (fun b1=>A.cond b1 ( A.opt (idS 1 J n19) (fun b2=>A.peek (.lg cc 1 b2) O (fun b3=>A.ucI .i64 b3 (fun n25 b4=>A.uc0 b4 ( A.opt (idS 1 U n19) (fun b6=>A.peek (.lg cc 1 b6) O (fun b7=>A.ucI .i64 b7 (fun n29 b8=>A.uc0 b8 ( A.cmp .neq n25 n29 (fun b9=>A.cond b9 ( K [(.i (.ofNat 0))] O) ( A.ari .add .i64 n19 (.ofNat 1) (fun n32=>a7 [(.i n32)] O)))))))))))) ( K [(.i (.ofNat 1))] O)))))) [(.i (.ofNat 0))] h)))))))))))
/-- crimp/crimpref09.Around -/
noncomputable def f21(ls:List Lf)(h:HT)(K:List Lf→HT→R):R:=A.unI ls (fun n6 b7=>A.unI b7 (fun n8 b8=>A.unI b8 (fun n10 b9=>A.unI b9 (fun n12 c0=>A.un0 c0 ( A.call 41 [(.i n6),(.i n8)] h (fun c1 d0=>A.unV c1 (fun a7 d1=>A.un0 d1 ( A.loop (fun d2 d3 a4=>A.unV d3 (fun a0 d4=>A.unI d4 (fun n23 d5=>A.un0 d5 ( A.cmp .lss n23 (.ofNat 8) (fun d6=>A.cond d6 ( A.new (.cells [(.int .i64 (.ofNat 2)),(.int .i64 (.ofNat 1)),(.int .i64 (.negSucc 0)),(.int .i64 (.negSucc 1)),(.int .i64 (.negSucc 1)),(.int .i64 (.negSucc 0)),(.int .i64 (.ofNat 1)),(.int .i64 (.ofNat 2))] 1 true) a4 (fun d7 a8=>A.opt (idS 1 (.slice (some ⟨d7,0,(some 11)⟩) 8 9) n23) (fun d8=>A.peek (.lg cc 1 d8) a8 (fun d9=>A.ucI .i64 d9 (fun n30 e0=>A.uc0 e0 ( A.new (.cells [(.int .i64 (.ofNat 1)),(.int .i64 (.ofNat 2)),(.int .i64 (.ofNat 2)),(.int .i64 (.ofNat 1)),(.int .i64 (.negSucc 0)),(.int .i64 (.negSucc 1)),(.int .i64 (.negSucc 1)),(.int .i64 (.negSucc 0))] 1 true) a8 (fun e1 a9=>A.opt (idS 1 (.slice (some ⟨e1,0,(some 11)⟩) 8 9) n23) (fun e2=>A.peek (.lg cc 1 e2) a9 (fun f0=>A.ucI .i64 f0 (fun n36 f1=>A.uc0 f1 ( A.loop (fun a1 f2 a5=>A.unV f2 (fun J gl=>A.unI gl (fun n43 g0=>A.un0 g0 ( A.opt (lenS a7) (fun g1=>A.cmp .lss n43 g1 (fun g2=>A.cond g2 ( A.opt (idS 3 a7 n43) (fun g3=>A.peek (.lg cc 3 g3) a5 (fun g4=>A.ucI .i64 g4 (fun n49 g5=>A.ucI .i64 g5 (fun n51 g6=>A.ucI .u8 g6 (fun n53 g7=>A.uc0 g7 ( A.ari .mul .i64 (.ofNat 12) n10 (fun n55=>A.ari .add .i64 n55 n30 (fun n56=>A.ari .mul .i64 (.ofNat 12) n12 (fun n57=>A.ari .add .i64 n57 n36 (fun n58=>A.call 42 [(.i n49),(.i n51),(.i n53),(.i n56),(.i n58)] a5 (fun g8 O=>A.unI g8 (fun n61 g9=>A.un0 g9 ( A.cmp .eql n61 (.ofNat 1) (fun h0=>A.cond h0 ( A.opt (lenS J) (fun h1=>A.cmp .eql h1 (.ofNat 0) (fun h2=>A.cond h2 ( A.new (.cells [(.int .i64 n43)] 1 true) O (fun h3 h4=>A.heap (.ap cc 1 8 J (.slice (some ⟨h3,0,(some 11)⟩) 1 2)) h4 (fun h5 h6=>A.ucV h5 (fun b0 h7=>A.chk b0 ( A.uc0 h7 ( A.ari .add .i64 n43 (.ofNat 1) (fun n72=>a1 [(.v b0),(.i n72)] h6))))))) ( A.opt (lenS J) (fun h8=>A.ari .sub .i64 h8 (.ofNat 1) (fun n74=>A.opt (idS 1 J n74) (fun h9=>A.peek (.lg cc 1 h9) O (fun i0=>A.ucI .i64 i0 (fun n77 i1=>A.uc0 i1 ( A.cmp .neq n77 n43 (fun i2=>A.cond i2 ( A.opt (idS 1 J (.ofNat 0)) (fun j0=>A.peek (.lg cc 1 j0) O (fun j1=>A.ucI .i64 j1 (fun n82 j2=>A.uc0 j2 ( A.cmp .neq n82 n43 (fun j3=>A.join (fun j4 j5=>A.unV j4 (fun j6 j7=>A.un0 j7 ( A.ari .add .i64 n43 (.ofNat 1) (fun n89=>a1 [(.v j6),(.i n89)] j5)))) (fun b1=>A.cond j3 ( A.new (.cells [(.int .i64 n43)] 1 true) O (fun j8 j9=>A.heap (.ap cc 1 8 J (.slice (some ⟨j8,0,(some 11)⟩) 1 2)) j9 (fun k0 k1=>A.ucV k0 (fun b2 k2=>A.chk b2 ( A.uc0 k2 ( b1 [(.v b2)] k1)))))) ( b1 [(.v J)] O)))))))) ( A.ari .add .i64 n43 (.ofNat 1) (fun k3=>a1 [(.v J),(.i k3)] O))))))))))))) ( A.ari .add .i64 n43 (.ofNat 1) (fun k4=>a1 [(.v J),(.i k4)] O))))))))))))))))) ( A.ari .add .i64 n23 (.ofNat 1) (fun k5=>d2 [(.v J),(.i k5)] a5)))))))) [(.v a0),(.i (.ofNat 0))] a9))))))))))) ( A.ari .rem .i64 n10 (.ofNat 2) (fun k6=>A.cmp .neq k6 (.ofNat 0) (fun k7=>A.join (fun k8 k9=>A.unV k8 (fun l0 l1=>A.un0 l1 ( K [(.v l0)] k9))) (fun b3=>A.cond k7 ( A.new (.cells [] 1 true) a4 (fun U l2=>A.opt (slS 1 a0 (some (.ofNat 1)) none none) (fun a6=>A.chk a6 ( A.heap (.ap cc 1 8 (.slice (some ⟨U,0,(some 11)⟩) 0 1) a6) l2 (fun l3 b4=>A.ucV l3 (fun a2 l4=>A.chk a2 ( A.uc0 l4 ( A.opt (idS 1 a0 (.ofNat 0)) (fun a3=>A.peek (.lg cc 1 a3) b4 (fun l5=>A.ucI .i64 l5 (fun n116 l6=>A.uc0 l6 ( A.new (.cells [(.int .i64 n116)] 1 true) b4 (fun V l7=>A.heap (.ap cc 1 8 a2 (.slice (some ⟨V,0,(some 11)⟩) 1 2)) l7 (fun l8 l9=>A.ucV l8 (fun b6 m0=>A.chk b6 ( A.uc0 m0 ( A.opt (Sx.sepL [((.slice (some ⟨U,0,(some 11)⟩) 0 1),(1,a0)),((.slice (some ⟨U,0,(some 11)⟩) 0 1),(0,a3)),((.slice (some ⟨U,0,(some 11)⟩) 0 1),(0,a3)),(a2,(0,a3)),((.slice (some ⟨U,0,(some 11)⟩) 0 1),(0,(.slice (some ⟨V,0,(some 11)⟩) 1 2))),((.slice (some ⟨V,0,(some 11)⟩) 1 2),(1,a0)),((.slice (some ⟨U,0,(some 11)⟩) 0 1),(0,(.slice (some ⟨V,0,(some 11)⟩) 1 2))),(a2,(0,(.slice (some ⟨V,0,(some 11)⟩) 1 2))),((.slice (some ⟨V,0,(some 11)⟩) 1 2),(0,(.slice (some ⟨U,0,(some 11)⟩) 0 1))),((.slice (some ⟨V,0,(some 11)⟩) 1 2),(0,a6))]) (fun m1=>b3 [(.v b6)] l9)))))))))))))))))) ( b3 [(.v a0)] a4)))))))))) [(.v (.slice none 0 0)),(.i (.ofNat 0))] d0))))))))
/-- crimp/crimpref05.Neighbour -/
noncomputable def f22(ls:List Lf)(h:HT)(K:List Lf→HT→R):R:=A.unI ls (fun n6 J=>A.unI J (fun n8 O=>A.unI O (fun n10 U=>A.unI U (fun n12 V=>A.un0 V ( A.ari .quo .i64 n10 (.ofNat 4) (fun n14=>A.ari .rem .i64 n14 n6 (fun n15=>A.ari .mul .i64 (.ofNat 4) n6 (fun n16=>A.ari .quo .i64 n10 n16 (fun n17=>A.ari .rem .i64 n10 (.ofNat 4) (fun n18=>A.conv .u8 n18 (fun n19=>A.call 44 [(.i n15),(.i n17),(.i n19),(.i n12)] h (fun a0 a1=>A.unI a0 (fun n22 a2=>A.unI a2 (fun n24 a3=>A.unI a3 (fun n26 a4=>A.un0 a4 ( A.call 43 [(.i n6),(.i n8),(.i n22),(.i n24),(.i n26)] a1 (fun a5 a6=>A.unI a5 (fun n30 a7=>A.un0 a7 ( K [(.i n30)] a6)))))))))))))))))))
/-- (crimp/crimplaw06.P).Of -/
noncomputable def f23(ls:List Lf)(h:HT)(K:List Lf→HT→R):R:=A.unI ls (fun n6 a0=>A.unI a0 (fun n8 a1=>A.unV a1 (fun U a2=>A.un0 a2 ( A.ari .rem .u8 n6 (.ofNat 4) (fun n12=>A.conv .i64 n12 (fun n13=>A.ari .add .i64 (.ofNat 1) n13 (fun n14=>A.ari .rem .u8 n8 (.ofNat 4) (fun n15=>A.conv .i64 n15 (fun n16=>A.ari .add .i64 (.ofNat 1) n16 (fun n17=>A.ari .mul .i64 (.ofNat 6) n14 (fun n18=>A.ari .mul .i64 n18 n17 (fun n19=>A.opt (mkOk n19 n19) (fun d3=>A.new (.cells (bC [(.int .u8 (.ofNat 0))] (Int.toNat n19)) 1 true) h (fun O a3=>A.join (fun a4 a5=>A.un0 a4 ( A.call 45 [(.i n14),(.i n17),(.v (.slice (some ⟨O,0,(some 11)⟩) (Int.toNat n19) ((Int.toNat n19)+1)))] a5 (fun a6 a7=>A.unI a6 (fun n27 a8=>A.unI a8 (fun n29 a9=>A.unV a9 (fun b0 b1=>A.un0 b1 ( K [(.i n27),(.i n29),(.v b0)] a7))))))) (fun V=>A.loop (fun b2 b3 J=>A.unI b3 (fun n37 b4=>A.un0 b4 ( A.opt (lenS (.slice (some ⟨O,0,(some 11)⟩) (Int.toNat n19) ((Int.toNat n19)+1))) (fun b6=>A.cmp .lss n37 b6 (fun b7=>A.cond b7 ( A.opt (lenS U) (fun b8=>A.cmp .lss n37 b8 (fun b9=>A.cond b9 ( A.opt (idS 1 U n37) (fun c0=>A.peek (.lg cc 1 c0) J (fun c1=>A.ucI .u8 c1 (fun n45 d0=>A.uc0 d0 ( A.ari .rem .u8 n45 (.ofNat 4) (fun n47=>A.opt (idS 1 (.slice (some ⟨O,0,(some 11)⟩) (Int.toNat n19) ((Int.toNat n19)+1)) n37) (fun d1=>A.heap (.st d1 [(.int .u8 n47)]) J (fun d4 d2=>A.ari .add .i64 n37 (.ofNat 1) (fun n51=>b2 [(.i n51)] d2))))))))) ( V [] J)))) ( V [] J)))))) [(.i (.ofNat 0))] a3)))))))))))))))
/-- crimp/crimpref09.Creases -/
noncomputable def f24(ls:List Lf)(h:HT)(K:List Lf→HT→R):R:=A.unI ls (fun n6 b1=>A.unI b1 (fun n8 b2=>A.unV b2 (fun a1 b3=>A.unI b3 (fun n12 b4=>A.unI b4 (fun n14 b6=>A.un0 b6 ( A.loop (fun b7 b8 a2=>A.unV b8 (fun a3 b9=>A.unI b9 (fun n21 c0=>A.un0 c0 ( A.cmp .lss n21 (.ofNat 8) (fun c1=>A.cond c1 ( A.loop (fun O d0 U=>A.unV d0 (fun J d1=>A.unI d1 (fun n29 d2=>A.un0 d2 ( A.opt (lenS a1) (fun d3=>A.cmp .lss n29 d3 (fun d4=>A.cond d4 ( A.opt (idS 3 a1 n29) (fun d5=>A.peek (.lg cc 3 d5) U (fun d6=>A.ucI .i64 d6 (fun n35 d7=>A.ucI .u8 d7 (fun n37 d8=>A.ucI .u8 d8 (fun n39 d9=>A.uc0 d9 ( A.call 25 [(.i n6),(.i n8),(.i n35),(.i n37)] U (fun e0 V=>A.unI e0 (fun n43 e1=>A.unI e1 (fun n45 e2=>A.unI e2 (fun n47 f0=>A.unI f0 (fun n49 f1=>A.un0 f1 ( A.eqs [((.i n43),(.i n12)),((.i n45),(.i n14))] (fun f2=>A.cond f2 ( A.call 26 [(.i n12),(.i n14),(.i n47),(.i n49)] V (fun gl a0=>A.unI gl (fun n54 g0=>A.un0 g0 ( A.cmp .eql n54 n21 (fun g1=>A.cond g1 ( A.new (.cells [(.int .i64 n21),(.int .u8 n39)] 2 true) a0 (fun g2 g3=>A.heap (.ap cc 2 16 J (.slice (some ⟨g2,0,(some 12)⟩) 1 2)) g3 (fun g4 g5=>A.ucV g4 (fun a4 g6=>A.chk a4 ( A.uc0 g6 ( A.ari .add .i64 n29 (.ofNat 1) (fun n63=>O [(.v a4),(.i n63)] g5))))))) ( A.eqs [((.i n47),(.i n12)),((.i n49),(.i n14))] (fun g7=>A.cond g7 ( A.call 26 [(.i n12),(.i n14),(.i n43),(.i n45)] a0 (fun g8 a5=>A.unI g8 (fun n67 g9=>A.un0 g9 ( A.cmp .eql n67 n21 (fun h0=>A.join (fun h1 h2=>A.unV h1 (fun h3 h4=>A.un0 h4 ( A.ari .add .i64 n29 (.ofNat 1) (fun n74=>O [(.v h3),(.i n74)] h2)))) (fun a6=>A.cond h0 ( A.new (.cells [(.int .i64 n21),(.int .u8 n39)] 2 true) a5 (fun h5 h6=>A.heap (.ap cc 2 16 J (.slice (some ⟨h5,0,(some 12)⟩) 1 2)) h6 (fun h7 h8=>A.ucV h7 (fun a7 h9=>A.chk a7 ( A.uc0 h9 ( a6 [(.v a7)] h8)))))) ( a6 [(.v J)] a5))))))) ( A.ari .add .i64 n29 (.ofNat 1) (fun n82=>O [(.v J),(.i n82)] a0))))))))) ( A.eqs [((.i n47),(.i n12)),((.i n49),(.i n14))] (fun i0=>A.cond i0 ( A.call 26 [(.i n12),(.i n14),(.i n43),(.i n45)] V (fun i1 a8=>A.unI i1 (fun n86 i2=>A.un0 i2 ( A.cmp .eql n86 n21 (fun j0=>A.join (fun j1 j2=>A.unV j1 (fun j3 j4=>A.un0 j4 ( A.ari .add .i64 n29 (.ofNat 1) (fun n93=>O [(.v j3),(.i n93)] j2)))) (fun a9=>A.cond j0 ( A.new (.cells [(.int .i64 n21),(.int .u8 n39)] 2 true) a8 (fun j5 j6=>A.heap (.ap cc 2 16 J (.slice (some ⟨j5,0,(some 12)⟩) 1 2)) j6 (fun j7 j8=>A.ucV j7 (fun b0 j9=>A.chk b0 ( A.uc0 j9 ( a9 [(.v b0)] j8)))))) ( a9 [(.v J)] a8))))))) ( A.ari .add .i64 n29 (.ofNat 1) (fun k0=>O [(.v J),(.i k0)] V)))))))))))))))))) ( A.ari .add .i64 n21 (.ofNat 1) (fun n102=>b7 [(.v J),(.i n102)] U)))))))) [(.v a3),(.i (.ofNat 0))] a2) ( K [(.v a3)] a2)))))) [(.v (.slice none 0 0)),(.i (.ofNat 0))] h))))))
/-- crimp/crimpref05.Ends -/
noncomputable def f25(ls:List Lf)(h:HT)(K:List Lf→HT→R):R:=A.unI ls (fun n6 a9=>A.unI a9 (fun n8 b0=>A.unI b0 (fun n10 b1=>A.unI b1 (fun n12 b2=>A.un0 b2 ( A.ari .quo .i64 n10 (.ofNat 4) (fun n14=>A.ari .rem .i64 n14 n6 (fun n15=>A.ari .mul .i64 (.ofNat 4) n6 (fun n16=>A.ari .quo .i64 n10 n16 (fun n17=>A.ari .rem .i64 n10 (.ofNat 4) (fun n18=>A.conv .u8 n18 (fun n19=>A.call 46 [(.i n15),(.i n17),(.i n19)] h (fun b3 b4=>A.unI b3 (fun n22 b6=>A.unI b6 (fun n24 b7=>A.unI b7 (fun n26 b8=>A.unI b8 (fun n28 b9=>A.unI b9 (fun n30 c0=>A.unI c0 (fun n32 c1=>A.un0 c1 ( A.conv .i64 n12 (fun n34=>A.call 44 [(.i n15),(.i n17),(.i n19),(.i n34)] b4 (fun d0 d1=>A.unI d0 (fun n37 d2=>A.unI d2 (fun n39 d3=>A.unI d3 (fun n41 d4=>A.un0 d4 ( A.call 46 [(.i n37),(.i n39),(.i n41)] d1 (fun d5 d6=>A.unI d5 (fun n45 d7=>A.unI d7 (fun n47 d8=>A.unI d8 (fun n49 d9=>A.unI d9 (fun n51 e0=>A.unI e0 (fun n53 e1=>A.unI e1 (fun n55 e2=>A.un0 e2 ( A.loop (fun f0 f1 J=>A.unV f1 (fun O f2=>A.unI f2 (fun n62 gl=>A.un0 gl ( A.cmp .lss n62 (.ofNat 3) (fun g0=>A.cond g0 ( A.loop (fun g1 g2 U=>A.unV g2 (fun V g3=>A.unI g3 (fun n70 g4=>A.un0 g4 ( A.cmp .lss n70 (.ofNat 3) (fun g5=>A.cond g5 ( A.opt (inB 3 n62) (fun rX=>A.opt (bo [(.i n22),(.i n24),(.i n26),(.i n28),(.i n30),(.i n32)] 0 [(n62,2)] 2) (fun g6=>A.unI g6 (fun n75 g7=>A.unI g7 (fun n77 g8=>A.un0 g8 ( A.opt (inB 3 n70) (fun rY=>A.opt (bo [(.i n45),(.i n47),(.i n49),(.i n51),(.i n53),(.i n55)] 0 [(n70,2)] 2) (fun g9=>A.unI g9 (fun n81 h0=>A.unI h0 (fun n83 h1=>A.un0 h1 ( A.eqs [((.i n75),(.i n81)),((.i n77),(.i n83))] (fun h2=>A.join (fun h3 h4=>A.unV h3 (fun h5 h6=>A.un0 h6 ( A.ari .add .i64 n70 (.ofNat 1) (fun n90=>g1 [(.v h5),(.i n90)] h4)))) (fun a1=>A.cond h2 ( A.opt (inB 3 n62) (fun rZ=>A.opt (bo [(.i n22),(.i n24),(.i n26),(.i n28),(.i n30),(.i n32)] 0 [(n62,2)] 2) (fun h7=>A.unI h7 (fun h8 h9=>A.unI h9 (fun i0 i1=>A.un0 i1 ( A.new (.cells [(.int .i64 h8),(.int .i64 i0)] 2 true) U (fun i2 j0=>A.heap (.ap cc 2 16 V (.slice (some ⟨i2,0,(some 12)⟩) 1 2)) j0 (fun j1 j2=>A.ucV j1 (fun a2 j3=>A.chk a2 ( A.uc0 j3 ( a1 [(.v a2)] j2))))))))))) ( a1 [(.v V)] U)))))))))))))) ( A.ari .add .i64 n62 (.ofNat 1) (fun n104=>f0 [(.v V),(.i n104)] U))))))) [(.v O),(.i (.ofNat 0))] J) ( A.opt (idS 2 O (.ofNat 1)) (fun j4=>A.opt (fdP 0 j4) (fun a3=>A.chk a3 ( A.peek (.lg cc 1 a3) J (fun j5=>A.ucI .i64 j5 (fun n108 j6=>A.uc0 j6 ( A.opt (idS 2 O (.ofNat 0)) (fun j7=>A.opt (fdP 0 j7) (fun a4=>A.chk a4 ( A.peek (.lg cc 1 a4) J (fun j8=>A.ucI .i64 j8 (fun n113 j9=>A.uc0 j9 ( A.cmp .lss n108 n113 (fun k0=>A.cond k0 ( A.opt (idS 2 O (.ofNat 1)) (fun k1=>A.peek (.lg cc 2 k1) J (fun k2=>A.ucI .i64 k2 (fun n118 k3=>A.ucI .i64 k3 (fun n120 k4=>A.uc0 k4 ( A.opt (idS 2 O (.ofNat 0)) (fun k5=>A.peek (.lg cc 2 k5) J (fun k6=>A.ucI .i64 k6 (fun k7 k8=>A.ucI .i64 k8 (fun k9 l0=>A.uc0 l0 ( K [(.i n118),(.i n120),(.i k7),(.i k9)] J))))))))))) ( A.opt (idS 2 O (.ofNat 1)) (fun l1=>A.opt (fdP 0 l1) (fun a5=>A.chk a5 ( A.peek (.lg cc 1 a5) J (fun l2=>A.ucI .i64 l2 (fun n131 l3=>A.uc0 l3 ( A.opt (idS 2 O (.ofNat 0)) (fun l4=>A.opt (fdP 0 l4) (fun a6=>A.chk a6 ( A.peek (.lg cc 1 a6) J (fun l5=>A.ucI .i64 l5 (fun l6 l7=>A.uc0 l7 ( A.cmp .eql n131 l6 (fun l8=>A.cond l8 ( A.opt (idS 2 O (.ofNat 1)) (fun l9=>A.opt (fdP 1 l9) (fun a7=>A.chk a7 ( A.peek (.lg cc 1 a7) J (fun m0=>A.ucI .i64 m0 (fun m1 m2=>A.uc0 m2 ( A.opt (idS 2 O (.ofNat 0)) (fun m3=>A.opt (fdP 1 m3) (fun a8=>A.chk a8 ( A.peek (.lg cc 1 a8) J (fun m4=>A.ucI .i64 m4 (fun m5 m6=>A.uc0 m6 ( A.cmp .lss m1 m5 (fun m7=>A.join (fun m8 a0=>A.un0 m8 ( A.opt (idS 2 O (.ofNat 0)) (fun m9=>A.peek (.lg cc 2 m9) a0 (fun n0=>A.ucI .i64 n0 (fun n1 n2=>A.ucI .i64 n2 (fun o0 o1=>A.uc0 o1 ( A.opt (idS 2 O (.ofNat 1)) (fun o2=>A.peek (.lg cc 2 o2) a0 (fun o3=>A.ucI .i64 o3 (fun o4 o5=>A.ucI .i64 o5 (fun o6 o7=>A.uc0 o7 ( K [(.i n1),(.i o0),(.i o4),(.i o6)] a0)))))))))))) (fun o8=>A.cond m7 ( A.opt (idS 2 O (.ofNat 1)) (fun o9=>A.peek (.lg cc 2 o9) J (fun p0=>A.ucI .i64 p0 (fun p1 p2=>A.ucI .i64 p2 (fun p3 p4=>A.uc0 p4 ( A.opt (idS 2 O (.ofNat 0)) (fun p5=>A.peek (.lg cc 2 p5) J (fun p6=>A.ucI .i64 p6 (fun p7 p8=>A.ucI .i64 p8 (fun p9 q0=>A.uc0 q0 ( K [(.i p1),(.i p3),(.i p7),(.i p9)] J))))))))))) ( o8 [] J)))))))))))))))) ( A.opt (idS 2 O (.ofNat 0)) (fun q1=>A.peek (.lg cc 2 q1) J (fun q2=>A.ucI .i64 q2 (fun q3 q4=>A.ucI .i64 q4 (fun q5 q6=>A.uc0 q6 ( A.opt (idS 2 O (.ofNat 1)) (fun q7=>A.peek (.lg cc 2 q7) J (fun q8=>A.ucI .i64 q8 (fun q9 rT=>A.ucI .i64 rT (fun rU rW=>A.uc0 rW ( K [(.i q3),(.i q5),(.i q9),(.i rU)] J)))))))))))))))))))))))))))))))))))))))))))) [(.v (.slice none 0 0)),(.i (.ofNat 0))] d6)))))))))))))))))))))))))))))))))
/-- crimp/crimpref09.Dir -/
noncomputable def f26(ls:List Lf)(h:HT)(K:List Lf→HT→R):R:=A.unI ls (fun n6 a3=>A.unI a3 (fun n8 a4=>A.unI a4 (fun n10 a5=>A.unI a5 (fun n12 a6=>A.un0 a6 ( A.ari .sub .i64 n10 n6 (fun n14=>A.ari .sub .i64 n12 n8 (fun n15=>A.cmp .eql n15 (.ofNat 0) (fun a7=>A.cond a7 ( A.cmp .gtr n14 (.ofNat 0) (fun a8=>A.join (fun a9 J=>A.un0 a9 ( A.cmp .eql n15 (.ofNat 0) (fun b0=>A.cond b0 ( K [(.i (.ofNat 4))] J) ( A.cmp .eql n14 (.ofNat 0) (fun b1=>A.cond b1 ( A.cmp .gtr n15 (.ofNat 0) (fun b2=>A.join (fun b3 O=>A.un0 b3 ( A.cmp .eql n14 (.ofNat 0) (fun b4=>A.cond b4 ( K [(.i (.ofNat 6))] O) ( A.cmp .gtr n14 (.ofNat 0) (fun b6=>A.cond b6 ( A.cmp .gtr n15 (.ofNat 0) (fun b7=>A.join (fun b8 V=>A.un0 b8 ( A.cmp .gtr n15 (.ofNat 0) (fun b9=>A.cond b9 ( K [(.i (.ofNat 3))] V) ( A.cmp .lss n14 (.ofNat 0) (fun c0=>A.cond c0 ( K [(.i (.ofNat 5))] V) ( K [(.i (.ofNat 7))] V)))))) (fun c1=>A.cond b7 ( K [(.i (.ofNat 1))] O) ( c1 [] O)))) ( A.cmp .gtr n15 (.ofNat 0) (fun d0=>A.cond d0 ( K [(.i (.ofNat 3))] O) ( A.cmp .lss n14 (.ofNat 0) (fun d1=>A.cond d1 ( K [(.i (.ofNat 5))] O) ( K [(.i (.ofNat 7))] O)))))))))) (fun d2=>A.cond b2 ( K [(.i (.ofNat 2))] J) ( d2 [] J)))) ( A.cmp .eql n14 (.ofNat 0) (fun d3=>A.cond d3 ( K [(.i (.ofNat 6))] J) ( A.cmp .gtr n14 (.ofNat 0) (fun d4=>A.cond d4 ( A.cmp .gtr n15 (.ofNat 0) (fun d5=>A.join (fun d6 a0=>A.un0 d6 ( A.cmp .gtr n15 (.ofNat 0) (fun d7=>A.cond d7 ( K [(.i (.ofNat 3))] a0) ( A.cmp .lss n14 (.ofNat 0) (fun d8=>A.cond d8 ( K [(.i (.ofNat 5))] a0) ( K [(.i (.ofNat 7))] a0)))))) (fun d9=>A.cond d5 ( K [(.i (.ofNat 1))] J) ( d9 [] J)))) ( A.cmp .gtr n15 (.ofNat 0) (fun e0=>A.cond e0 ( K [(.i (.ofNat 3))] J) ( A.cmp .lss n14 (.ofNat 0) (fun e1=>A.cond e1 ( K [(.i (.ofNat 5))] J) ( K [(.i (.ofNat 7))] J)))))))))))))) (fun e2=>A.cond a8 ( K [(.i (.ofNat 0))] h) ( e2 [] h)))) ( A.cmp .eql n15 (.ofNat 0) (fun f0=>A.cond f0 ( K [(.i (.ofNat 4))] h) ( A.cmp .eql n14 (.ofNat 0) (fun f1=>A.cond f1 ( A.cmp .gtr n15 (.ofNat 0) (fun f2=>A.join (fun gl U=>A.un0 gl ( A.cmp .eql n14 (.ofNat 0) (fun g0=>A.cond g0 ( K [(.i (.ofNat 6))] U) ( A.cmp .gtr n14 (.ofNat 0) (fun g1=>A.cond g1 ( A.cmp .gtr n15 (.ofNat 0) (fun g2=>A.join (fun g3 a1=>A.un0 g3 ( A.cmp .gtr n15 (.ofNat 0) (fun g4=>A.cond g4 ( K [(.i (.ofNat 3))] a1) ( A.cmp .lss n14 (.ofNat 0) (fun g5=>A.cond g5 ( K [(.i (.ofNat 5))] a1) ( K [(.i (.ofNat 7))] a1)))))) (fun g6=>A.cond g2 ( K [(.i (.ofNat 1))] U) ( g6 [] U)))) ( A.cmp .gtr n15 (.ofNat 0) (fun g7=>A.cond g7 ( K [(.i (.ofNat 3))] U) ( A.cmp .lss n14 (.ofNat 0) (fun g8=>A.cond g8 ( K [(.i (.ofNat 5))] U) ( K [(.i (.ofNat 7))] U)))))))))) (fun g9=>A.cond f2 ( K [(.i (.ofNat 2))] h) ( g9 [] h)))) ( A.cmp .eql n14 (.ofNat 0) (fun h0=>A.cond h0 ( K [(.i (.ofNat 6))] h) ( A.cmp .gtr n14 (.ofNat 0) (fun h1=>A.cond h1 ( A.cmp .gtr n15 (.ofNat 0) (fun h2=>A.join (fun h3 a2=>A.un0 h3 ( A.cmp .gtr n15 (.ofNat 0) (fun h4=>A.cond h4 ( K [(.i (.ofNat 3))] a2) ( A.cmp .lss n14 (.ofNat 0) (fun h5=>A.cond h5 ( K [(.i (.ofNat 5))] a2) ( K [(.i (.ofNat 7))] a2)))))) (fun h6=>A.cond h2 ( K [(.i (.ofNat 1))] h) ( h6 [] h)))) ( A.cmp .gtr n15 (.ofNat 0) (fun h7=>A.cond h7 ( K [(.i (.ofNat 3))] h) ( A.cmp .lss n14 (.ofNat 0) (fun h8=>A.cond h8 ( K [(.i (.ofNat 5))] h) ( K [(.i (.ofNat 7))] h)))))))))))))))))))))
/-- crimp/patterns.Turned -/
noncomputable def f27(ls:List Lf)(h:HT)(K:List Lf→HT→R):R:=A.unI ls (fun n6 V=>A.unI V (fun n8 a0=>A.unV a0 (fun a1 a2=>A.un0 a2 ( A.call 47 [(.i n6),(.i n8),(.v a1)] h (fun a3 U=>A.unI a3 (fun n14 a4=>A.unI a4 (fun n16 a5=>A.unV a5 (fun J a6=>A.unI a6 (fun n20 a7=>A.un0 a7 ( A.cmp .neq n20 (.ofNat 0) (fun a8=>A.cond a8 ( A.opt (chk2 (.slice none 0 0)) (fun g4=>K [(.i (.ofNat 0)),(.i (.ofNat 0)),(.v (.slice none 0 0)),(.i n20)] U)) ( A.opt (lenS J) (fun a9=>A.loop (fun b0 b1 O=>A.unI b1 (fun n28 b2=>A.un0 b2 ( A.cmp .lss n28 a9 (fun b3=>A.cond b3 ( A.opt (idS 3 J n28) (fun b4=>A.peek (.lg cc 3 b4) O (fun b6=>A.ucI .i64 b6 (fun n33 b7=>A.ucI .u8 b7 (fun n35 b8=>A.ucI .u8 b8 (fun n37 b9=>A.uc0 b9 ( A.call 48 [(.i n6),(.i n8),(.i n33)] O (fun c0 c1=>A.unI c0 (fun n41 d0=>A.unI d0 (fun n43 d1=>A.unI d1 (fun n45 d2=>A.unI d2 (fun n47 d3=>A.un0 d3 ( A.ari .sub .i64 n6 (.ofNat 1) (fun n49=>A.ari .sub .i64 n49 n41 (fun n50=>A.opt (inB 4 n45) (fun g5=>A.opt (bo [(.i (.ofNat 0)),(.i (.ofNat 3)),(.i (.ofNat 2)),(.i (.ofNat 1))] 0 [(n45,1)] 1) (fun d4=>A.unI d4 (fun n53 d5=>A.un0 d5 ( A.call 49 [(.i n6),(.i n8),(.i n50),(.i n43),(.i n53)] c1 (fun d6 d7=>A.unI d6 (fun n57 d8=>A.unI d8 (fun n59 d9=>A.un0 d9 ( A.opt (inB 3 n35) (fun g6=>A.opt (bo [(.i (.ofNat 0)),(.i (.ofNat 2)),(.i (.ofNat 1))] 0 [(n35,1)] 1) (fun e0=>A.unI e0 (fun n63 e1=>A.un0 e1 ( A.call 50 [(.i n6),(.i n8),(.i n57),(.i n63)] d7 (fun e2 f0=>A.unI e2 (fun n67 f1=>A.unI f1 (fun n69 f2=>A.unI f2 (fun n71 gl=>A.un0 gl ( A.opt (idS 3 J n28) (fun g0=>A.heap (.st g0 [(.int .i64 n67),(.int .u8 n69),(.int .u8 n37)]) f0 (fun g7 g1=>A.ari .add .i64 n28 (.ofNat 1) (fun n76=>b0 [(.i n76)] g1))))))))))))))))))))))))))))))))))) ( A.call 51 [(.v J),(.v (.func (.func 52) ⟨[]⟩ ⟨[]⟩))] O (fun g2 g3=>A.un0 g2 ( A.opt (chk2 J) (fun g8=>K [(.i n14),(.i n16),(.v J),(.i (.ofNat 0))] g3)))))))) [(.i (.ofNat 0))] U)))))))))))))
/-- crimp/crimpref06.Other -/
noncomputable def f28(ls:List Lf)(h:HT)(K:List Lf→HT→R):R:=A.unI ls (fun n6 J=>A.un0 J ( A.cmp .eql n6 (.ofNat 1) (fun O=>A.cond O ( K [(.i (.ofNat 2))] h) ( A.cmp .eql n6 (.ofNat 2) (fun U=>A.cond U ( K [(.i (.ofNat 1))] h) ( K [(.i n6)] h))))))
/-- crimp/crimpref05.Valid -/
noncomputable def f29(ls:List Lf)(h:HT)(K:List Lf→HT→R):R:=A.unI ls (fun n6 J=>A.unI J (fun n8 O=>A.un0 O ( A.cmp .lss n6 (.ofNat 1) (fun U=>A.cond U ( K [(.i (.ofNat 0))] h) ( A.cmp .lss n8 (.ofNat 1) (fun V=>A.cond V ( K [(.i (.ofNat 0))] h) ( A.cmp .gtr n6 (.ofNat 256) (fun a0=>A.cond a0 ( K [(.i (.ofNat 0))] h) ( A.cmp .gtr n8 (.ofNat 256) (fun a1=>A.cond a1 ( K [(.i (.ofNat 0))] h) ( A.ari .mul .i64 n6 n8 (fun n14=>A.cmp .gtr n14 (.ofNat 256) (fun a2=>A.cond a2 ( K [(.i (.ofNat 0))] h) ( K [(.i (.ofNat 1))] h))))))))))))))
/-- crimp/crimpref06.Check -/
noncomputable def f30(ls:List Lf)(h:HT)(K:List Lf→HT→R):R:=A.unI ls (fun n6 a8=>A.unI a8 (fun n8 a9=>A.unV a9 (fun O b0=>A.un0 b0 ( A.call 29 [(.i n6),(.i n8)] h (fun b1 V=>A.unI b1 (fun n14 b2=>A.un0 b2 ( A.cmp .eql n14 (.ofNat 0) (fun b3=>A.cond b3 ( K [(.i (.ofNat 1))] V) ( A.loop (fun b4 b6 U=>A.unI b6 (fun n20 b7=>A.un0 b7 ( A.opt (lenS O) (fun b8=>A.cmp .lss n20 b8 (fun b9=>A.cond b9 ( A.opt (idS 3 O n20) (fun c0=>A.opt (fdP 2 c0) (fun a0=>A.chk a0 ( A.peek (.lg cc 1 a0) U (fun c1=>A.ucI .u8 c1 (fun n27 d0=>A.uc0 d0 ( A.cmp .lss n27 (.ofNat 1) (fun d1=>A.cond d1 ( K [(.i (.ofNat 1))] U) ( A.opt (idS 3 O n20) (fun d2=>A.opt (fdP 2 d2) (fun a1=>A.chk a1 ( A.peek (.lg cc 1 a1) U (fun d3=>A.ucI .u8 d3 (fun n33 d4=>A.uc0 d4 ( A.cmp .gtr n33 (.ofNat 3) (fun d5=>A.cond d5 ( K [(.i (.ofNat 1))] U) ( A.ari .add .i64 n20 (.ofNat 1) (fun n36=>b4 [(.i n36)] U)))))))))))))))))) ( A.call 55 [(.i n6),(.i n8)] U (fun d6 d7=>A.unV d6 (fun a2 d8=>A.un0 d8 ( A.loop (fun d9 e0 a3=>A.unI e0 (fun n44 e1=>A.unI e1 (fun n46 e2=>A.unI e2 (fun n48 f0=>A.un0 f0 ( A.opt (lenS O) (fun f1=>A.cmp .lss n48 f1 (fun f2=>A.cond f2 ( A.loop (fun gl g0 J=>A.unI g0 (fun n55 g1=>A.unI g1 (fun n57 g2=>A.un0 g2 ( A.opt (lenS a2) (fun g3=>A.cmp .lss n57 g3 (fun g4=>A.cond g4 ( A.opt (idS 2 a2 n57) (fun g5=>A.peek (.lg cc 2 g5) J (fun g6=>A.ucI .i64 g6 (fun n63 g7=>A.ucI .u8 g7 (fun n65 g8=>A.uc0 g8 ( A.opt (idS 3 O n48) (fun g9=>A.opt (fdP 0 g9) (fun a4=>A.chk a4 ( A.peek (.lg cc 1 a4) J (fun h0=>A.ucI .i64 h0 (fun n70 h1=>A.uc0 h1 ( A.opt (idS 3 O n48) (fun h2=>A.opt (fdP 1 h2) (fun a5=>A.chk a5 ( A.peek (.lg cc 1 a5) J (fun h3=>A.ucI .u8 h3 (fun n75 h4=>A.uc0 h4 ( A.eqs [((.i n63),(.i n70)),((.i n65),(.i n75))] (fun h5=>A.join (fun h6 h7=>A.unI h6 (fun n80 h8=>A.un0 h8 ( A.ari .add .i64 n57 (.ofNat 1) (fun n82=>gl [(.i n80),(.i n82)] h7)))) (fun a6=>A.cond h5 ( a6 [(.i n57)] J) ( a6 [(.i n55)] J))))))))))))))))))))) ( A.cmp .lss n55 (.ofNat 0) (fun h9=>A.cond h9 ( K [(.i (.ofNat 7))] J) ( A.cmp .leq n55 n46 (fun i0=>A.join (fun i1 i2=>A.unI i1 (fun n88 j0=>A.un0 j0 ( A.ari .add .i64 n48 (.ofNat 1) (fun n90=>d9 [(.i n88),(.i n55),(.i n90)] i2)))) (fun a7=>A.cond i0 ( a7 [(.i (.ofNat 6))] J) ( a7 [(.i n44)] J)))))))))))) [(.i (.negSucc 0)),(.i (.ofNat 0))] a3) ( K [(.i n44)] a3)))))))) [(.i (.ofNat 0)),(.i (.negSucc 0)),(.i (.ofNat 0))] d7))))))))) [(.i (.ofNat 0))] V)))))))))
/-- crimp/segments.Pattern -/
noncomputable def f31(ls:List Lf)(h:HT)(K:List Lf→HT→R):R:=A.unI ls (fun n6 a7=>A.unI a7 (fun n8 a8=>A.unV a8 (fun V a9=>A.un0 a9 ( A.call 56 [(.i n6),(.i n8)] h (fun b0 a0=>A.unI b0 (fun n14 b1=>A.un0 b1 ( A.cmp .neq n14 (.ofNat 0) (fun b2=>A.cond b2 ( A.opt (chk2 (.slice none 0 0)) (fun i1=>K [(.i (.ofNat 0)),(.i (.ofNat 0)),(.v (.slice none 0 0)),(.i (.ofNat 0)),(.i n14)] a0)) ( A.call 57 [(.i n6),(.i n8)] a0 (fun b3 b4=>A.unV b3 (fun b6 b7=>A.un0 b7 ( A.new (.map [] 0) b4 (fun a1 b8=>A.opt (lenS V) (fun b9=>A.loop (fun c0 c1 O=>A.unV c1 (fun U d0=>A.unI d0 (fun n30 d1=>A.un0 d1 ( A.cmp .lss n30 b9 (fun d2=>A.cond d2 ( A.opt (idS 5 V n30) (fun d3=>A.peek (.lg cc 5 d3) O (fun d4=>A.ucI .u8 d4 (fun n35 d5=>A.ucI .u8 d5 (fun n37 d6=>A.ucI .i64 d6 (fun n39 d7=>A.ucI .i64 d7 (fun n41 d8=>A.ucI .i64 d8 (fun n43 d9=>A.uc0 d9 ( A.call 58 [(.v b6),(.i n35),(.i n37),(.i n39),(.i n41),(.i n43)] O (fun e0 a2=>A.unV e0 (fun a3 e1=>A.unI e1 (fun n49 e2=>A.un0 e2 ( A.cmp .neq n49 (.ofNat 0) (fun f0=>A.cond f0 ( A.opt (chk2 (.slice none 0 0)) (fun i2=>K [(.i (.ofNat 0)),(.i (.ofNat 0)),(.v (.slice none 0 0)),(.i n30),(.i n49)] a2)) ( A.opt (lenS a3) (fun f1=>A.loop (fun f2 gl J=>A.unV gl (fun a4 g0=>A.unI g0 (fun n59 g1=>A.un0 g1 ( A.cmp .lss n59 f1 (fun g2=>A.cond g2 ( A.opt (idS 2 a3 n59) (fun g3=>A.peek (.lg cc 2 g3) J (fun g4=>A.ucI .i64 g4 (fun n64 g5=>A.ucI .u8 g5 (fun n66 g6=>A.uc0 g6 ( A.peek (.fn (luG cc 71 false (.int .u8 (.ofNat 0)) (.map (some a1)) (.agg ⟨[(.int .i64 n64),(.int .u8 n66)]⟩) false)) J (fun g7=>A.ucI .u8 g7 (fun n69 g8=>A.uc0 g8 ( A.cmp .neq n69 (.ofNat 0) (fun g9=>A.cond g9 ( A.opt (chk2 (.slice none 0 0)) (fun j0=>K [(.i (.ofNat 0)),(.i (.ofNat 0)),(.v (.slice none 0 0)),(.i n30),(.i (.ofNat 8))] J)) ( A.heap (.fn (muG cc 71 (.map (some a1)) (.agg ⟨[(.int .i64 n64),(.int .u8 n66)]⟩) (.int .u8 n35))) J (fun j1 h0=>A.new (.cells [(.int .i64 n64),(.int .u8 n66),(.int .u8 n35)] 3 true) h0 (fun h1 h2=>A.heap (.ap cc 3 16 a4 (.slice (some ⟨h1,0,(some 13)⟩) 1 2)) h2 (fun h3 h4=>A.ucV h3 (fun a5 h5=>A.chk a5 ( A.uc0 h5 ( A.ari .add .i64 n59 (.ofNat 1) (fun n81=>f2 [(.v a5),(.i n81)] h4)))))))))))))))))) ( A.ari .add .i64 n30 (.ofNat 1) (fun n82=>c0 [(.v a4),(.i n82)] J))))))) [(.v U),(.i (.ofNat 0))] a2)))))))))))))))) ( A.call 51 [(.v U),(.v (.func (.func 59) ⟨[]⟩ ⟨[]⟩))] O (fun h6 h7=>A.un0 h6 ( A.call 61 [(.v U)] h7 (fun h8 h9=>A.unV h8 (fun a6 i0=>A.un0 i0 ( A.opt (chk2 a6) (fun j2=>K [(.i n6),(.i n8),(.v a6),(.i (.ofNat 0)),(.i (.ofNat 0))] h9)))))))))))) [(.v (.slice none 0 0)),(.i (.ofNat 0))] b8))))))))))))))
/-- crimp/sheets.Points -/
noncomputable def f32(ls:List Lf)(h:HT)(K:List Lf→HT→R):R:=A.unI ls (fun n6 a3=>A.unI a3 (fun n8 a4=>A.un0 a4 ( A.call 56 [(.i n6),(.i n8)] h (fun a5 U=>A.unI a5 (fun n12 a6=>A.un0 a6 ( A.cmp .neq n12 (.ofNat 0) (fun a7=>A.cond a7 ( K [(.v (.slice none 0 0)),(.i n12)] U) ( A.loop (fun a8 a9 V=>A.unV a9 (fun a0 b0=>A.unI b0 (fun n20 b1=>A.un0 b1 ( A.ari .mul .i64 (.ofNat 2) n8 (fun n22=>A.cmp .lss n20 n22 (fun b2=>A.cond b2 ( A.loop (fun b3 b4 J=>A.unV b4 (fun O b6=>A.unI b6 (fun n29 b7=>A.un0 b7 ( A.ari .mul .i64 (.ofNat 2) n6 (fun n31=>A.cmp .lss n29 n31 (fun b8=>A.cond b8 ( A.ari .rem .i64 n29 (.ofNat 2) (fun n33=>A.ari .rem .i64 n20 (.ofNat 2) (fun n34=>A.cmp .eql n33 n34 (fun b9=>A.join (fun c0 c1=>A.unV c0 (fun d0 d1=>A.un0 d1 ( A.ari .add .i64 n29 (.ofNat 1) (fun n40=>b3 [(.v d0),(.i n40)] c1)))) (fun a1=>A.cond b9 ( A.new (.cells [(.int .i64 n29),(.int .i64 n20)] 2 true) J (fun d2 d3=>A.heap (.ap cc 2 16 O (.slice (some ⟨d2,0,(some 12)⟩) 1 2)) d3 (fun d4 d5=>A.ucV d4 (fun a2 d6=>A.chk a2 ( A.uc0 d6 ( a1 [(.v a2)] d5)))))) ( a1 [(.v O)] J)))))) ( A.ari .add .i64 n20 (.ofNat 1) (fun n48=>a8 [(.v O),(.i n48)] J)))))))) [(.v a0),(.i (.ofNat 1))] V) ( A.call 62 [(.v a0)] V (fun d7 d8=>A.unV d7 (fun d9 e0=>A.un0 e0 ( K [(.v d9),(.i (.ofNat 0))] d8)))))))))) [(.v (.slice none 0 0)),(.i (.ofNat 1))] U))))))))
/-- crimp/corners.corner -/
noncomputable def f33(ls:List Lf)(h:HT)(K:List Lf→HT→R):R:=A.unI ls (fun n6 O=>A.unI O (fun n8 U=>A.unI U (fun n10 V=>A.unI V (fun n12 a0=>A.un0 a0 ( A.call 56 [(.i n6),(.i n8)] h (fun a1 J=>A.unI a1 (fun n16 a2=>A.un0 a2 ( A.cmp .neq n16 (.ofNat 0) (fun a3=>A.cond a3 ( K [(.i n16)] J) ( A.cmp .leq n10 (.ofNat 0) (fun a4=>A.cond a4 ( K [(.i (.ofNat 7))] J) ( A.cmp .leq n12 (.ofNat 0) (fun a5=>A.cond a5 ( K [(.i (.ofNat 7))] J) ( A.ari .mul .i64 (.ofNat 2) n6 (fun n21=>A.cmp .geq n10 n21 (fun a6=>A.cond a6 ( K [(.i (.ofNat 7))] J) ( A.ari .mul .i64 (.ofNat 2) n8 (fun n23=>A.cmp .geq n12 n23 (fun a7=>A.cond a7 ( K [(.i (.ofNat 7))] J) ( A.ari .rem .i64 n10 (.ofNat 2) (fun n25=>A.ari .rem .i64 n12 (.ofNat 2) (fun n26=>A.cmp .neq n25 n26 (fun a8=>A.cond a8 ( K [(.i (.ofNat 7))] J) ( K [(.i (.ofNat 0))] J))))))))))))))))))))))))
/-- crimp/corners.walk -/
noncomputable def f34(ls:List Lf)(h:HT)(K:List Lf→HT→R):R:=A.unI ls (fun n6 U=>A.unI U (fun n8 V=>A.unI V (fun n10 a0=>A.unI a0 (fun n12 a1=>A.un0 a1 ( A.new (.cells [(.int .i64 n6),(.int .i64 n8)] 2 true) h (fun J a2=>A.new (.cells [(.int .i64 n10),(.int .i64 n12)] 2 true) a2 (fun O a3=>A.chk (.func (.func 63) ⟨[]⟩ ⟨[(.pointer (some ⟨O,0,none⟩)),(.pointer (some ⟨J,0,none⟩))]⟩) ( K [(.v (.func (.func 63) ⟨[]⟩ ⟨[(.pointer (some ⟨O,0,none⟩)),(.pointer (some ⟨J,0,none⟩))]⟩))] a3))))))))
noncomputable def f35(ls:List Lf)(h:HT)(K:List Lf→HT→R):R:=A.unV ls (fun J U=>A.un0 U ( A.opt (lenS J) (fun V=>A.opt (lenS J) (fun a0=>A.opt (slS 1 J none (some V) (some a0)) (fun O=>A.chk O ( K [(.v O)] h))))))
/-- crimp/patterns.Check -/
noncomputable def f36(ls:List Lf)(h:HT)(K:List Lf→HT→R):R:=A.unI ls (fun n6 a5=>A.unI a5 (fun n8 a6=>A.unV a6 (fun J a7=>A.un0 a7 ( A.call 56 [(.i n6),(.i n8)] h (fun a8 V=>A.unI a8 (fun n14 a9=>A.un0 a9 ( A.cmp .neq n14 (.ofNat 0) (fun b0=>A.cond b0 ( K [(.i n14)] V) ( A.call 68 [(.v J),(.v (.func (.func 69) ⟨[]⟩ ⟨[]⟩))] V (fun b1 a0=>A.unB b1 (fun b2 b3=>A.un0 b3 ( A.cond b2 ( K [(.i (.ofNat 1))] a0) ( A.opt (lenS J) (fun b4=>A.loop (fun b6 b7 O=>A.unI b7 (fun n25 b8=>A.un0 b8 ( A.cmp .lss n25 b4 (fun b9=>A.cond b9 ( A.opt (idS 3 J n25) (fun c0=>A.peek (.lg cc 3 c0) O (fun c1=>A.ucI .i64 c1 (fun n30 d0=>A.ucI .u8 d0 (fun n32 d1=>A.ucI .u8 d1 (fun n34 d2=>A.uc0 d2 ( A.call 50 [(.i n6),(.i n8),(.i n30),(.i n32)] O (fun d3 a1=>A.unI d3 (fun n38 d4=>A.unI d4 (fun n40 d5=>A.unI d5 (fun n42 d6=>A.un0 d6 ( A.cmp .neq n42 (.ofNat 0) (fun d7=>A.cond d7 ( K [(.i (.ofNat 7))] a1) ( A.call 54 [(.i n30),(.i n32),(.i n34)] a1 (fun d8 a2=>A.unI d8 (fun n47 d9=>A.unI d9 (fun n49 e0=>A.un0 e0 ( A.eqs [((.i n38),(.i n47)),((.i n40),(.i n49))] (fun e1=>A.cond (!e1) ( K [(.i (.ofNat 7))] a2) ( A.ari .add .i64 n25 (.ofNat 1) (fun n52=>b6 [(.i n52)] a2))))))))))))))))))))) ( A.loop (fun e2 f0 U=>A.unI f0 (fun n56 f1=>A.un0 f1 ( A.opt (lenS J) (fun f2=>A.cmp .lss n56 f2 (fun gl=>A.cond gl ( A.ari .sub .i64 n56 (.ofNat 1) (fun n60=>A.opt (idS 3 J n60) (fun g0=>A.peek (.lg cc 3 g0) U (fun g1=>A.ucI .i64 g1 (fun n63 g2=>A.ucI .u8 g2 (fun n65 g3=>A.ucI .u8 g3 (fun n67 g4=>A.uc0 g4 ( A.call 54 [(.i n63),(.i n65),(.i n67)] U (fun g5 a3=>A.unI g5 (fun n71 g6=>A.unI g6 (fun n73 g7=>A.un0 g7 ( A.opt (idS 3 J n56) (fun g8=>A.peek (.lg cc 3 g8) a3 (fun g9=>A.ucI .i64 g9 (fun n77 h0=>A.ucI .u8 h0 (fun n79 h1=>A.ucI .u8 h1 (fun n81 h2=>A.uc0 h2 ( A.call 54 [(.i n77),(.i n79),(.i n81)] a3 (fun h3 h4=>A.unI h3 (fun n85 h5=>A.unI h5 (fun n87 h6=>A.un0 h6 ( A.call 53 [(.i n71),(.i n73),(.i n85),(.i n87)] h4 (fun h7 a4=>A.unI h7 (fun n91 h8=>A.un0 h8 ( A.cmp .geq n91 (.ofNat 0) (fun h9=>A.cond h9 ( K [(.i (.ofNat 6))] a4) ( A.ari .add .i64 n56 (.ofNat 1) (fun i0=>e2 [(.i i0)] a4)))))))))))))))))))))))))))) ( K [(.i (.ofNat 0))] U)))))) [(.i (.ofNat 1))] O))))) [(.i (.ofNat 0))] a0))))))))))))))
/-- crimp/patterns.Kind -/
noncomputable def f37(ls:List Lf)(h:HT)(K:List Lf→HT→R):R:=A.unI ls (fun n6 V=>A.unI V (fun n8 a0=>A.unV a0 (fun O a1=>A.unI a1 (fun n12 a2=>A.unI a2 (fun n14 a3=>A.un0 a3 ( A.call 71 [(.i n6),(.i n8),(.v O),(.i n12),(.i n14)] h (fun a4 J=>A.unI a4 (fun n18 a5=>A.unI a5 (fun n20 a6=>A.unI a6 (fun n22 a7=>A.unB a7 (fun a8 a9=>A.unI a9 (fun n26 b0=>A.un0 b0 ( A.cmp .neq n26 (.ofNat 0) (fun b1=>A.cond b1 ( K [(.i (.ofNat 0)),(.i n26)] J) ( A.cond (!a8) ( K [(.i (.ofNat 0)),(.i n26)] J) ( A.opt (idS 3 O n22) (fun b2=>A.opt (fdP 2 b2) (fun U=>A.chk U ( A.peek (.lg cc 1 U) J (fun b3=>A.ucI .u8 b3 (fun n32 b4=>A.uc0 b4 ( K [(.i n32),(.i (.ofNat 0))] J))))))))))))))))))))))
/-- slices.SortFunc[[]crimp/corners.Ray,crimp/corners.Ray] -/
noncomputable def f38(ls:List Lf)(h:HT)(K:List Lf→HT→R):R:=A.unV ls (fun J U=>A.unV U (fun V a0=>A.un0 a0 ( A.opt (lenS J) (fun O=>A.conv .u64 O (fun n11=>A.call 73 [(.i n11)] h (fun a1 a2=>A.unI a1 (fun n14 a3=>A.un0 a3 ( A.call 72 [(.v J),(.i (.ofNat 0)),(.i O),(.i n14),(.v V)] a2 (fun a4 a5=>A.un0 a4 ( K [] a5))))))))))
/-- crimp/corners.Creases$1 -/
noncomputable def f39(ls:List Lf)(h:HT)(K:List Lf→HT→R):R:=A.unI ls (fun n6 J=>A.unI J (fun n8 O=>A.unI O (fun n10 U=>A.unI U (fun n12 V=>A.un0 V ( A.ari .sub .i64 n6 n10 (fun n14=>K [(.i n14)] h))))))
/-- slices.Clip[[]crimp/corners.Ray,crimp/corners.Ray] -/
noncomputable def f40(ls:List Lf)(h:HT)(K:List Lf→HT→R):R:=A.unV ls (fun J U=>A.un0 U ( A.opt (lenS J) (fun V=>A.opt (lenS J) (fun a0=>A.opt (slS 2 J none (some V) (some a0)) (fun O=>A.chk O ( K [(.v O)] h))))))
/-- crimp/crimpref05.Cells -/
noncomputable def f41(ls:List Lf)(h:HT)(K:List Lf→HT→R):R:=A.unI ls (fun n6 a3=>A.unI a3 (fun n8 a4=>A.un0 a4 ( A.loop (fun a5 a6 J=>A.unV a6 (fun O a7=>A.unI a7 (fun n15 a8=>A.un0 a8 ( A.cmp .lss n15 n8 (fun a9=>A.cond a9 ( A.loop (fun b0 b1 U=>A.unV b1 (fun V b2=>A.unI b2 (fun n23 b3=>A.un0 b3 ( A.cmp .lss n23 n6 (fun b4=>A.cond b4 ( A.loop (fun b6 b7 a0=>A.unV b7 (fun a1 b8=>A.unI b8 (fun n31 b9=>A.un0 b9 ( A.cmp .lss n31 (.ofNat 4) (fun c0=>A.cond c0 ( A.new (.cells [(.int .i64 n23),(.int .i64 n15),(.int .u8 n31)] 3 true) a0 (fun c1 d0=>A.heap (.ap cc 3 24 a1 (.slice (some ⟨c1,0,(some 13)⟩) 1 2)) d0 (fun d1 d2=>A.ucV d1 (fun a2 d3=>A.chk a2 ( A.uc0 d3 ( A.ari .add .u8 n31 (.ofNat 1) (fun n40=>b6 [(.v a2),(.i n40)] d2))))))) ( A.ari .add .i64 n23 (.ofNat 1) (fun n41=>b0 [(.v a1),(.i n41)] a0))))))) [(.v V),(.i (.ofNat 0))] U) ( A.ari .add .i64 n15 (.ofNat 1) (fun n42=>a5 [(.v V),(.i n42)] U))))))) [(.v O),(.i (.ofNat 0))] J) ( K [(.v O)] J)))))) [(.v (.slice none 0 0)),(.i (.ofNat 0))] h)))
/-- crimp/crimpref09.has -/
noncomputable def f42(ls:List Lf)(h:HT)(K:List Lf→HT→R):R:=A.unI ls (fun n6 a0=>A.unI a0 (fun n8 a1=>A.unI a1 (fun n10 a2=>A.unI a2 (fun n12 a3=>A.unI a3 (fun n14 a4=>A.un0 a4 ( A.call 46 [(.i n6),(.i n8),(.i n10)] h (fun a5 a6=>A.unI a5 (fun n18 a7=>A.unI a7 (fun n20 a8=>A.unI a8 (fun n22 a9=>A.unI a9 (fun n24 b0=>A.unI b0 (fun n26 b1=>A.unI b1 (fun n28 b2=>A.un0 b2 ( A.loop (fun b3 b4 J=>A.unI b4 (fun n33 b6=>A.unI b6 (fun n35 b7=>A.unI b7 (fun n37 b8=>A.un0 b8 ( A.cmp .lss n37 (.ofNat 3) (fun b9=>A.cond b9 ( A.opt (inB 3 n37) (fun f0=>A.opt (bo [(.i n18),(.i n20),(.i n22),(.i n24),(.i n26),(.i n28)] 0 [(n37,2)] 2) (fun c0=>A.unI c0 (fun n42 c1=>A.unI c1 (fun n44 d0=>A.un0 d0 ( A.ari .add .i64 n37 (.ofNat 1) (fun n46=>A.ari .rem .i64 n46 (.ofNat 3) (fun n47=>A.opt (inB 3 n47) (fun f1=>A.opt (bo [(.i n18),(.i n20),(.i n22),(.i n24),(.i n26),(.i n28)] 0 [(n47,2)] 2) (fun d1=>A.unI d1 (fun n50 d2=>A.unI d2 (fun n52 d3=>A.un0 d3 ( A.ari .mul .i64 (.ofNat 12) n50 (fun n54=>A.ari .mul .i64 (.ofNat 12) n42 (fun n55=>A.ari .sub .i64 n54 n55 (fun n56=>A.ari .mul .i64 (.ofNat 12) n44 (fun n57=>A.ari .sub .i64 n14 n57 (fun n58=>A.ari .mul .i64 n56 n58 (fun n59=>A.ari .mul .i64 (.ofNat 12) n52 (fun n60=>A.ari .mul .i64 (.ofNat 12) n44 (fun n61=>A.ari .sub .i64 n60 n61 (fun n62=>A.ari .mul .i64 (.ofNat 12) n42 (fun n63=>A.ari .sub .i64 n12 n63 (fun n64=>A.ari .mul .i64 n62 n64 (fun n65=>A.ari .sub .i64 n59 n65 (fun n66=>A.cmp .gtr n66 (.ofNat 0) (fun d4=>A.join (fun d5 O=>A.unI d5 (fun n70 d6=>A.un0 d6 ( A.cmp .lss n66 (.ofNat 0) (fun d7=>A.join (fun d8 d9=>A.unI d8 (fun n75 e0=>A.un0 e0 ( A.ari .add .i64 n37 (.ofNat 1) (fun n77=>b3 [(.i n70),(.i n75),(.i n77)] d9)))) (fun U=>A.cond d7 ( A.ari .add .i64 n35 (.ofNat 1) (fun n79=>U [(.i n79)] O)) ( U [(.i n35)] O)))))) (fun V=>A.cond d4 ( A.ari .add .i64 n33 (.ofNat 1) (fun n81=>V [(.i n81)] J)) ( V [(.i n33)] J))))))))))))))))))))))))))))) ( A.cmp .eql n33 (.ofNat 3) (fun e1=>A.cond e1 ( K [(.i (.ofNat 1))] J) ( A.cmp .eql n35 (.ofNat 3) (fun e2=>A.cond e2 ( K [(.i (.ofNat 1))] J) ( K [(.i (.ofNat 0))] J))))))))))) [(.i (.ofNat 0)),(.i (.ofNat 0)),(.i (.ofNat 0))] a6))))))))))))))
/-- crimp/crimpref05.Id -/
noncomputable def f43(ls:List Lf)(h:HT)(K:List Lf→HT→R):R:=A.unI ls (fun n6 J=>A.unI J (fun n8 O=>A.unI O (fun n10 U=>A.unI U (fun n12 V=>A.unI V (fun n14 a0=>A.un0 a0 ( A.cmp .lss n10 (.ofNat 0) (fun a1=>A.cond a1 ( K [(.i (.negSucc 0))] h) ( A.cmp .lss n12 (.ofNat 0) (fun a2=>A.cond a2 ( K [(.i (.negSucc 0))] h) ( A.cmp .geq n10 n6 (fun a3=>A.cond a3 ( K [(.i (.negSucc 0))] h) ( A.cmp .geq n12 n8 (fun a4=>A.cond a4 ( K [(.i (.negSucc 0))] h) ( A.cmp .gtr n14 (.ofNat 3) (fun a5=>A.cond a5 ( K [(.i (.negSucc 0))] h) ( A.ari .mul .i64 (.ofNat 4) n6 (fun n21=>A.ari .mul .i64 n21 n12 (fun n22=>A.ari .mul .i64 (.ofNat 4) n10 (fun n23=>A.ari .add .i64 n22 n23 (fun n24=>A.conv .i64 n14 (fun n25=>A.ari .add .i64 n24 n25 (fun n26=>K [(.i n26)] h))))))))))))))))))))))
/-- crimp/crimpref03.Neighbour -/
noncomputable def f44(ls:List Lf)(h:HT)(K:List Lf→HT→R):R:=A.unI ls (fun n6 O=>A.unI O (fun n8 U=>A.unI U (fun n10 V=>A.unI V (fun n12 a0=>A.un0 a0 ( A.call 74 [(.i n6),(.i n8),(.i n10),(.i n12)] h (fun a1 a2=>A.unI a1 (fun n16 a3=>A.unI a3 (fun n18 a4=>A.un0 a4 ( A.call 46 [(.i n6),(.i n8),(.i n10)] a2 (fun a5 a6=>A.unI a5 (fun n22 a7=>A.unI a7 (fun n24 a8=>A.unI a8 (fun n26 a9=>A.unI a9 (fun n28 b0=>A.unI b0 (fun n30 b1=>A.unI b1 (fun n32 b2=>A.un0 b2 ( A.loop (fun b3 b4 J=>A.unI b4 (fun n37 b6=>A.unI b6 (fun n39 b7=>A.unI b7 (fun n41 b8=>A.unI b8 (fun n43 b9=>A.unI b9 (fun n45 c0=>A.unI c0 (fun n47 c1=>A.unI c1 (fun n49 d0=>A.un0 d0 ( A.cmp .lss n37 (.ofNat 3) (fun d1=>A.cond d1 ( A.opt (inB 3 n37) (fun g4=>A.opt (bo [(.i n39),(.i n41),(.i n43),(.i n45),(.i n47),(.i n49)] 0 [(n37,2)] 2) (fun d2=>A.unI d2 (fun n54 d3=>A.unI d3 (fun n56 d4=>A.un0 d4 ( A.call 75 [(.i n16),(.i n18),(.i n54),(.i n56)] J (fun d5 d6=>A.unI d5 (fun n60 d7=>A.unI d7 (fun n62 d8=>A.un0 d8 ( A.opt (inB 3 n37) (fun g5=>A.opt (putL [(.i n39),(.i n41),(.i n43),(.i n45),(.i n47),(.i n49)] 0 [(n37,2)] [(.i n60),(.i n62)]) (fun d9=>A.unI d9 (fun n66 e0=>A.unI e0 (fun n68 e1=>A.unI e1 (fun n70 e2=>A.unI e2 (fun n72 f0=>A.unI f0 (fun n74 f1=>A.unI f1 (fun n76 f2=>A.un0 f2 ( A.ari .add .i64 n37 (.ofNat 1) (fun n78=>b3 [(.i n78),(.i n66),(.i n68),(.i n70),(.i n72),(.i n74),(.i n76)] d6)))))))))))))))))))) ( A.call 76 [(.i n39),(.i n41),(.i n43),(.i n45),(.i n47),(.i n49)] J (fun gl g0=>A.unI gl (fun n81 g1=>A.unI g1 (fun n83 g2=>A.unI g2 (fun n85 g3=>A.un0 g3 ( K [(.i n81),(.i n83),(.i n85)] g0)))))))))))))))) [(.i (.ofNat 0)),(.i n22),(.i n24),(.i n26),(.i n28),(.i n30),(.i n32)] a6)))))))))))))))))
/-- crimp/crimpref06.With -/
noncomputable def f45(ls:List Lf)(h:HT)(K:List Lf→HT→R):R:=A.unI ls (fun n6 a5=>A.unI a5 (fun n8 a6=>A.unV a6 (fun U a7=>A.un0 a7 ( A.call 55 [(.i n6),(.i n8)] h (fun a8 a9=>A.unV a8 (fun V b0=>A.un0 b0 ( A.join (fun b1 b2=>A.unI b1 (fun n18 b3=>A.unI b3 (fun n20 b4=>A.unV b4 (fun b6 b7=>A.un0 b7 ( K [(.i n18),(.i n20),(.v b6)] b2))))) (fun a0=>A.loop (fun b8 b9 J=>A.unI b9 (fun n28 c0=>A.unI c0 (fun n30 c1=>A.unI c1 (fun n32 d0=>A.unV d0 (fun O d1=>A.un0 d1 ( A.opt (lenS V) (fun d2=>A.cmp .lss n28 d2 (fun d3=>A.cond d3 ( A.opt (lenS U) (fun d4=>A.cmp .lss n28 d4 (fun d5=>A.cond d5 ( A.opt (idS 1 U n28) (fun d6=>A.peek (.lg cc 1 d6) J (fun d7=>A.ucI .u8 d7 (fun n42 d8=>A.uc0 d8 ( A.cmp .neq n42 (.ofNat 0) (fun d9=>A.join (fun e0 e1=>A.unI e0 (fun n47 e2=>A.unI e2 (fun n49 f0=>A.unV f0 (fun f1 f2=>A.un0 f2 ( A.ari .add .i64 n28 (.ofNat 1) (fun n53=>b8 [(.i n53),(.i n47),(.i n49),(.v f1)] e1)))))) (fun a1=>A.cond d9 ( A.opt (idS 2 V n28) (fun gl=>A.opt (fdP 0 gl) (fun a2=>A.chk a2 ( A.peek (.lg cc 1 a2) J (fun g0=>A.ucI .i64 g0 (fun n58 g1=>A.uc0 g1 ( A.opt (idS 2 V n28) (fun g2=>A.opt (fdP 1 g2) (fun a3=>A.chk a3 ( A.peek (.lg cc 1 a3) J (fun g3=>A.ucI .u8 g3 (fun n63 g4=>A.uc0 g4 ( A.opt (idS 1 U n28) (fun g5=>A.peek (.lg cc 1 g5) J (fun g6=>A.ucI .u8 g6 (fun n67 g7=>A.uc0 g7 ( A.new (.cells [(.int .i64 n58),(.int .u8 n63),(.int .u8 n67)] 3 true) J (fun g8 g9=>A.heap (.ap cc 3 16 O (.slice (some ⟨g8,0,(some 13)⟩) 1 2)) g9 (fun h0 h1=>A.ucV h0 (fun a4 h2=>A.chk a4 ( A.uc0 h2 ( a1 [(.i n30),(.i n32),(.v a4)] h1)))))))))))))))))))))) ( a1 [(.i n30),(.i n32),(.v O)] J)))))))) ( a0 [(.i n30),(.i n32),(.v O)] J)))) ( a0 [(.i n30),(.i n32),(.v O)] J))))))))) [(.i (.ofNat 0)),(.i n6),(.i n8),(.v (.slice none 0 0))] a9))))))))
/-- crimp/crimpref03.Corners -/
noncomputable def f46(ls:List Lf)(h:HT)(K:List Lf→HT→R):R:=A.unI ls (fun n6 O=>A.unI O (fun n8 U=>A.unI U (fun n10 V=>A.un0 V ( A.ari .mul .i64 (.ofNat 2) n6 (fun n12=>A.ari .mul .i64 (.ofNat 2) n8 (fun n13=>A.ari .add .i64 n12 (.ofNat 2) (fun n14=>A.ari .add .i64 n12 (.ofNat 2) (fun n15=>A.ari .add .i64 n13 (.ofNat 2) (fun n16=>A.ari .add .i64 n13 (.ofNat 2) (fun n17=>A.conv .i64 n10 (fun n18=>A.conv .i64 n10 (fun n19=>A.ari .add .i64 n19 (.ofNat 1) (fun n20=>A.ari .rem .i64 n20 (.ofNat 4) (fun n21=>A.ari .rem .i64 n18 (.ofNat 2) (fun n22=>A.cmp .eql n22 (.ofNat 1) (fun a0=>A.join (fun a1 a2=>A.unI a1 (fun n26 a3=>A.unI a3 (fun n28 a4=>A.un0 a4 ( A.ari .add .i64 n12 (.ofNat 1) (fun n30=>A.ari .add .i64 n13 (.ofNat 1) (fun n31=>A.opt (inB 4 n26) (fun b1=>A.opt (bo [(.i n12),(.i n13),(.i n14),(.i n13),(.i n15),(.i n16),(.i n12),(.i n17)] 0 [(n26,2)] 2) (fun a5=>A.unI a5 (fun n34 a6=>A.unI a6 (fun n36 a7=>A.un0 a7 ( A.opt (inB 4 n28) (fun b2=>A.opt (bo [(.i n12),(.i n13),(.i n14),(.i n13),(.i n15),(.i n16),(.i n12),(.i n17)] 0 [(n28,2)] 2) (fun a8=>A.unI a8 (fun n40 a9=>A.unI a9 (fun n42 b0=>A.un0 b0 ( K [(.i n30),(.i n31),(.i n34),(.i n36),(.i n40),(.i n42)] a2)))))))))))))))) (fun J=>A.cond a0 ( J [(.i n21),(.i n18)] h) ( J [(.i n18),(.i n21)] h))))))))))))))))))
/-- crimp/patterns.Opposite -/
noncomputable def f47(ls:List Lf)(h:HT)(K:List Lf→HT→R):R:=A.unI ls (fun n6 a3=>A.unI a3 (fun n8 a4=>A.unV a4 (fun U a5=>A.un0 a5 ( A.call 36 [(.i n6),(.i n8),(.v U)] h (fun a6 a0=>A.unI a6 (fun n14 a7=>A.un0 a7 ( A.cmp .neq n14 (.ofNat 0) (fun a8=>A.cond a8 ( A.opt (chk2 (.slice none 0 0)) (fun d4=>K [(.i (.ofNat 0)),(.i (.ofNat 0)),(.v (.slice none 0 0)),(.i n14)] a0)) ( A.opt (lenS U) (fun J=>A.opt (mkOk J J) (fun d5=>A.new (.cells (bC [(.int .i64 (.ofNat 0)),(.int .u8 (.ofNat 0)),(.int .u8 (.ofNat 0))] (Int.toNat J)) 3 true) a0 (fun O a9=>A.heap (.fn (cpG cc 3 (.slice (some ⟨O,0,(some 13)⟩) (Int.toNat J) ((Int.toNat J)+1)) U)) a9 (fun b0 b1=>A.ucI .i64 b0 (fun n24 b2=>A.uc0 b2 ( A.opt (lenS (.slice (some ⟨O,0,(some 13)⟩) (Int.toNat J) ((Int.toNat J)+1))) (fun b3=>A.loop (fun b4 b6 V=>A.unI b6 (fun n30 b7=>A.un0 b7 ( A.cmp .lss n30 b3 (fun b8=>A.cond b8 ( A.opt (idS 3 (.slice (some ⟨O,0,(some 13)⟩) (Int.toNat J) ((Int.toNat J)+1)) n30) (fun b9=>A.opt (fdP 2 b9) (fun a1=>A.chk a1 ( A.peek (.lg cc 1 a1) V (fun c0=>A.ucI .u8 c0 (fun n36 c1=>A.uc0 c1 ( A.opt (inB 4 n36) (fun d6=>A.opt (kK gl0 0 [(n36,1)] 1) (fun d0=>A.ucI .u8 d0 (fun n40 d1=>A.uc0 d1 ( A.opt (idS 3 (.slice (some ⟨O,0,(some 13)⟩) (Int.toNat J) ((Int.toNat J)+1)) n30) (fun d2=>A.opt (fdP 2 d2) (fun a2=>A.chk a2 ( A.heap (.st a2 [(.int .u8 n40)]) V (fun d7 d3=>A.ari .add .i64 n30 (.ofNat 1) (fun n46=>b4 [(.i n46)] d3)))))))))))))))) ( A.opt (chk2 (.slice (some ⟨O,0,(some 13)⟩) (Int.toNat J) ((Int.toNat J)+1))) (fun d8=>K [(.i n6),(.i n8),(.v (.slice (some ⟨O,0,(some 13)⟩) (Int.toNat J) ((Int.toNat J)+1))),(.i (.ofNat 0))] V)))))) [(.i (.ofNat 0))] b1))))))))))))))))
/-- crimp/sheets.Cell -/
noncomputable def f48(ls:List Lf)(h:HT)(K:List Lf→HT→R):R:=A.unI ls (fun n6 U=>A.unI U (fun n8 V=>A.unI V (fun n10 a0=>A.un0 a0 ( A.call 56 [(.i n6),(.i n8)] h (fun a1 J=>A.unI a1 (fun n14 a2=>A.un0 a2 ( A.cmp .neq n14 (.ofNat 0) (fun a3=>A.cond a3 ( K [(.i (.ofNat 0)),(.i (.ofNat 0)),(.i (.ofNat 0)),(.i n14)] J) ( A.call 77 [(.i n6),(.i n8),(.i n10)] J (fun a4 O=>A.unB a4 (fun a5 a6=>A.un0 a6 ( A.cond (!a5) ( K [(.i (.ofNat 0)),(.i (.ofNat 0)),(.i (.ofNat 0)),(.i (.ofNat 7))] O) ( A.call 78 [(.i n6),(.i n8),(.i n10)] O (fun a7 a8=>A.unI a7 (fun n23 a9=>A.unI a9 (fun n25 b0=>A.unI b0 (fun n27 b1=>A.un0 b1 ( K [(.i n23),(.i n25),(.i n27),(.i (.ofNat 0))] a8))))))))))))))))))
/-- crimp/sheets.Id -/
noncomputable def f49(ls:List Lf)(h:HT)(K:List Lf→HT→R):R:=A.unI ls (fun n6 U=>A.unI U (fun n8 V=>A.unI V (fun n10 a0=>A.unI a0 (fun n12 a1=>A.unI a1 (fun n14 a2=>A.un0 a2 ( A.call 56 [(.i n6),(.i n8)] h (fun a3 O=>A.unI a3 (fun n18 a4=>A.un0 a4 ( A.cmp .neq n18 (.ofNat 0) (fun a5=>A.cond a5 ( K [(.i (.ofNat 0)),(.i n18)] O) ( A.call 79 [(.i n10),(.i n12),(.i n14)] O (fun a6 J=>A.unI a6 (fun n23 a7=>A.un0 a7 ( A.cmp .neq n23 (.ofNat 0) (fun a8=>A.cond a8 ( K [(.i (.ofNat 0)),(.i (.ofNat 7))] J) ( A.cmp .lss n10 (.ofNat 0) (fun a9=>A.cond a9 ( K [(.i (.ofNat 0)),(.i (.ofNat 7))] J) ( A.cmp .geq n10 n6 (fun b0=>A.cond b0 ( K [(.i (.ofNat 0)),(.i (.ofNat 7))] J) ( A.cmp .lss n12 (.ofNat 0) (fun b1=>A.cond b1 ( K [(.i (.ofNat 0)),(.i (.ofNat 7))] J) ( A.cmp .geq n12 n8 (fun b2=>A.cond b2 ( K [(.i (.ofNat 0)),(.i (.ofNat 7))] J) ( A.ari .mul .i64 n12 n6 (fun n30=>A.ari .add .i64 n30 n10 (fun n31=>A.ari .mul .i64 (.ofNat 4) n31 (fun n32=>A.conv .i64 n14 (fun n33=>A.ari .add .i64 n32 n33 (fun n34=>K [(.i n34),(.i (.ofNat 0))] J)))))))))))))))))))))))))))))
/-- crimp/sheets.Name -/
noncomputable def f50(ls:List Lf)(h:HT)(K:List Lf→HT→R):R:=A.unI ls (fun n6 O=>A.unI O (fun n8 U=>A.unI U (fun n10 V=>A.unI V (fun n12 a0=>A.un0 a0 ( A.call 80 [(.i n6),(.i n8),(.i n10),(.i n12)] h (fun a1 J=>A.unI a1 (fun n16 a2=>A.unI a2 (fun n18 a3=>A.un0 a3 ( A.cmp .neq n18 (.ofNat 0) (fun a4=>A.cond a4 ( K [(.i (.ofNat 0)),(.i (.ofNat 0)),(.i n18)] J) ( A.cmp .lss n16 n10 (fun a5=>A.sel a5 n16 n10 (fun n22=>K [(.i n22),(.i n12),(.i (.ofNat 0))] J)))))))))))))
/-- slices.SortFunc[[]crimp/patterns.Crease,crimp/patterns.Crease] -/
noncomputable def f51(ls:List Lf)(h:HT)(K:List Lf→HT→R):R:=A.unV ls (fun J U=>A.unV U (fun V a0=>A.un0 a0 ( A.opt (lenS J) (fun O=>A.conv .u64 O (fun n11=>A.call 73 [(.i n11)] h (fun a1 a2=>A.unI a1 (fun n14 a3=>A.un0 a3 ( A.call 81 [(.v J),(.i (.ofNat 0)),(.i O),(.i n14),(.v V)] a2 (fun a4 a5=>A.un0 a4 ( K [] a5))))))))))
/-- crimp/patterns.Turned$1 -/
noncomputable def f52(ls:List Lf)(h:HT)(K:List Lf→HT→R):R:=A.unI ls (fun n6 J=>A.unI J (fun n8 O=>A.unI O (fun n10 U=>A.unI U (fun n12 V=>A.unI V (fun n14 a0=>A.unI a0 (fun n16 a1=>A.un0 a1 ( A.call 54 [(.i n6),(.i n8),(.i n10)] h (fun a2 a3=>A.unI a2 (fun n20 a4=>A.unI a4 (fun n22 a5=>A.un0 a5 ( A.call 54 [(.i n12),(.i n14),(.i n16)] a3 (fun a6 a7=>A.unI a6 (fun n26 a8=>A.unI a8 (fun n28 a9=>A.un0 a9 ( A.call 53 [(.i n20),(.i n22),(.i n26),(.i n28)] a7 (fun b0 b1=>A.unI b0 (fun n32 b2=>A.un0 b2 ( K [(.i n32)] b1))))))))))))))))))
/-- crimp/patterns.order -/
noncomputable def f53(ls:List Lf)(h:HT)(K:List Lf→HT→R):R:=A.unI ls (fun n6 J=>A.unI J (fun n8 O=>A.unI O (fun n10 U=>A.unI U (fun n12 V=>A.un0 V ( A.cmp .neq n6 n10 (fun a0=>A.cond a0 ( A.ari .sub .i64 n6 n10 (fun n15=>K [(.i n15)] h)) ( A.conv .i64 n8 (fun n16=>A.conv .i64 n12 (fun n17=>A.ari .sub .i64 n16 n17 (fun n18=>K [(.i n18)] h))))))))))
/-- (crimp/patterns.Crease).unit -/
noncomputable def f54(ls:List Lf)(h:HT)(K:List Lf→HT→R):R:=A.unI ls (fun n6 J=>A.unI J (fun n8 O=>A.unI O (fun n10 U=>A.un0 U ( K [(.i n6),(.i n8)] h))))
/-- crimp/crimpref05.Units -/
noncomputable def f55(ls:List Lf)(h:HT)(K:List Lf→HT→R):R:=A.unI ls (fun n6 a3=>A.unI a3 (fun n8 a4=>A.un0 a4 ( A.loop (fun a5 a6 O=>A.unV a6 (fun U a7=>A.unI a7 (fun n15 a8=>A.un0 a8 ( A.ari .mul .i64 (.ofNat 4) n6 (fun n17=>A.ari .mul .i64 n17 n8 (fun n18=>A.cmp .lss n15 n18 (fun a9=>A.cond a9 ( A.loop (fun b0 b1 V=>A.unV b1 (fun J b2=>A.unI b2 (fun n25 b3=>A.un0 b3 ( A.cmp .lss n25 (.ofNat 3) (fun b4=>A.cond b4 ( A.call 22 [(.i n6),(.i n8),(.i n15),(.i n25)] V (fun b6 a0=>A.unI b6 (fun n30 b7=>A.un0 b7 ( A.cmp .gtr n30 n15 (fun b8=>A.join (fun b9 c0=>A.unV b9 (fun c1 d0=>A.un0 d0 ( A.ari .add .i64 n25 (.ofNat 1) (fun n37=>b0 [(.v c1),(.i n37)] c0)))) (fun a1=>A.cond b8 ( A.conv .u8 n25 (fun n39=>A.new (.cells [(.int .i64 n15),(.int .u8 n39)] 2 true) a0 (fun d1 d2=>A.heap (.ap cc 2 16 J (.slice (some ⟨d1,0,(some 12)⟩) 1 2)) d2 (fun d3 d4=>A.ucV d3 (fun a2 d5=>A.chk a2 ( A.uc0 d5 ( a1 [(.v a2)] d4))))))) ( a1 [(.v J)] a0))))))) ( A.ari .add .i64 n15 (.ofNat 1) (fun n46=>a5 [(.v J),(.i n46)] V))))))) [(.v U),(.i (.ofNat 0))] O) ( K [(.v U)] O)))))))) [(.v (.slice none 0 0)),(.i (.ofNat 0))] h)))
/-- crimp/sheets.Check -/
noncomputable def f56(ls:List Lf)(h:HT)(K:List Lf→HT→R):R:=A.unI ls (fun n6 J=>A.unI J (fun n8 O=>A.un0 O ( A.cmp .lss n6 (.ofNat 1) (fun U=>A.cond U ( K [(.i (.ofNat 1))] h) ( A.cmp .lss n8 (.ofNat 1) (fun V=>A.cond V ( K [(.i (.ofNat 1))] h) ( A.cmp .gtr n6 (.ofNat 256) (fun a0=>A.cond a0 ( K [(.i (.ofNat 1))] h) ( A.cmp .gtr n8 (.ofNat 256) (fun a1=>A.cond a1 ( K [(.i (.ofNat 1))] h) ( A.ari .mul .i64 n6 n8 (fun n14=>A.cmp .gtr n14 (.ofNat 256) (fun a2=>A.cond a2 ( K [(.i (.ofNat 1))] h) ( K [(.i (.ofNat 0))] h))))))))))))))
/-- crimp/segments.pieces -/
noncomputable def f57(ls:List Lf)(h:HT)(K:List Lf→HT→R):R:=A.unI ls (fun n6 V=>A.unI V (fun n8 a0=>A.un0 a0 ( A.call 82 [(.i n6),(.i n8)] h (fun a1 a2=>A.unV a1 (fun J a3=>A.unI a3 (fun n14 a4=>A.un0 a4 ( A.opt (lenS J) (fun d1=>A.new (.map [] 0) a2 (fun U a5=>A.opt (lenS J) (fun a6=>A.loop (fun a7 a8 O=>A.unI a8 (fun n23 a9=>A.un0 a9 ( A.cmp .lss n23 a6 (fun b0=>A.cond b0 ( A.opt (idS 2 J n23) (fun b1=>A.peek (.lg cc 2 b1) O (fun b2=>A.ucI .i64 b2 (fun n28 b3=>A.ucI .u8 b3 (fun n30 b4=>A.uc0 b4 ( A.call 83 [(.i n6),(.i n8),(.i n28),(.i n30)] O (fun b6 b7=>A.unI b6 (fun n34 b8=>A.unI b8 (fun n36 b9=>A.unI b9 (fun n38 c0=>A.unI c0 (fun n40 c1=>A.un0 c1 ( A.heap (.fn (muG cc 157 (.map (some U)) (.agg ⟨[(.int .u8 n34),(.int .i64 n36),(.int .i64 n38)]⟩) (.agg ⟨[(.int .i64 n28),(.int .u8 n30),(.int .i64 n40)]⟩))) b7 (fun d2 d0=>A.ari .add .i64 n23 (.ofNat 1) (fun n44=>a7 [(.i n44)] d0)))))))))))))) ( K [(.v (.map (some U)))] O))))) [(.i (.ofNat 0))] a5))))))))))
/-- crimp/segments.units -/
noncomputable def f58(ls:List Lf)(h:HT)(K:List Lf→HT→R):R:=A.unV ls (fun a0 a1=>A.unI a1 (fun n8 a2=>A.unI a2 (fun n10 a3=>A.unI a3 (fun n12 a4=>A.unI a4 (fun n14 a5=>A.unI a5 (fun n16 a6=>A.un0 a6 ( A.call 84 [(.i n8),(.i n10),(.i n12),(.i n14),(.i n16)] h (fun a7 O=>A.unB a7 (fun a8 a9=>A.un0 a9 ( A.cond (!a8) ( K [(.v (.slice none 0 0)),(.i (.ofNat 1))] O) ( A.loop (fun b0 b1 J=>A.unV b1 (fun U b2=>A.unI b2 (fun n27 b3=>A.un0 b3 ( A.cmp .neq n27 n16 (fun b4=>A.cond b4 ( A.peek (.fn (luG cc 157 true (.agg ⟨[(.int .i64 (.ofNat 0)),(.int .u8 (.ofNat 0)),(.int .i64 (.ofNat 0))]⟩) a0 (.agg ⟨[(.int .u8 n10),(.int .i64 n12),(.int .i64 n27)]⟩) true)) J (fun b6=>A.ucI .i64 b6 (fun n31 b7=>A.ucI .u8 b7 (fun n33 b8=>A.ucI .i64 b8 (fun n35 b9=>A.ucB b9 (fun c0 c1=>A.uc0 c1 ( A.cond (!c0) ( K [(.v (.slice none 0 0)),(.i (.ofNat 7))] J) ( A.cmp .gtr n35 n16 (fun d0=>A.cond d0 ( K [(.v (.slice none 0 0)),(.i (.ofNat 7))] J) ( A.new (.cells [(.int .i64 n31),(.int .u8 n33)] 2 true) J (fun d1 d2=>A.heap (.ap cc 2 16 U (.slice (some ⟨d1,0,(some 12)⟩) 1 2)) d2 (fun d3 d4=>A.ucV d3 (fun V d5=>A.chk V ( A.uc0 d5 ( b0 [(.v V),(.i n35)] d4))))))))))))))) ( A.call 85 [(.v U)] J (fun d6 d7=>A.unV d6 (fun d8 d9=>A.un0 d9 ( K [(.v d8),(.i (.ofNat 0))] d7))))))))) [(.v (.slice none 0 0)),(.i n14)] O)))))))))))
/-- crimp/segments.Pattern$1 -/
noncomputable def f59(ls:List Lf)(h:HT)(K:List Lf→HT→R):R:=A.unI ls (fun n6 J=>A.unI J (fun n8 O=>A.unI O (fun n10 U=>A.unI U (fun n12 V=>A.unI V (fun n14 a0=>A.unI a0 (fun n16 a1=>A.un0 a1 ( A.conv .i64 n8 (fun n18=>A.conv .i64 n14 (fun n19=>A.new (.cells [(.int .i64 n6),(.int .i64 n12),(.int .i64 n18),(.int .i64 n19)] 2 true) h (fun a2 a3=>A.call 60 [(.v (.slice (some ⟨a2,0,(some 12)⟩) 2 3))] a3 (fun a4 a5=>A.unI a4 (fun n24 a6=>A.un0 a6 ( K [(.i n24)] a5)))))))))))))
/-- crimp/segments.order[int] -/
noncomputable def f60(ls:List Lf)(h:HT)(K:List Lf→HT→R):R:=A.unV ls (fun O V=>A.un0 V ( A.opt (lenS O) (fun a0=>A.loop (fun a1 a2 J=>A.unI a2 (fun n12 a3=>A.un0 a3 ( A.cmp .lss n12 a0 (fun a4=>A.cond a4 ( A.opt (idS 2 O n12) (fun a5=>A.peek (.lg cc 2 a5) J (fun a6=>A.ucI .i64 a6 (fun n17 a7=>A.ucI .i64 a7 (fun n19 a8=>A.uc0 a8 ( A.call 86 [(.i n17),(.i n19)] J (fun a9 U=>A.unI a9 (fun n23 b0=>A.un0 b0 ( A.cmp .neq n23 (.ofNat 0) (fun b1=>A.cond b1 ( K [(.i n23)] U) ( A.ari .add .i64 n12 (.ofNat 1) (fun n26=>a1 [(.i n26)] U)))))))))))) ( K [(.i (.ofNat 0))] J))))) [(.i (.ofNat 0))] h)))
/-- slices.Clip[[]crimp/patterns.Crease,crimp/patterns.Crease] -/
noncomputable def f61(ls:List Lf)(h:HT)(K:List Lf→HT→R):R:=A.unV ls (fun J U=>A.un0 U ( A.opt (lenS J) (fun V=>A.opt (lenS J) (fun a0=>A.opt (slS 3 J none (some V) (some a0)) (fun O=>A.chk O ( K [(.v O)] h))))))
/-- slices.Clip[[]crimp/api.Point,crimp/api.Point] -/
noncomputable def f62(ls:List Lf)(h:HT)(K:List Lf→HT→R):R:=A.unV ls (fun J U=>A.un0 U ( A.opt (lenS J) (fun V=>A.opt (lenS J) (fun a0=>A.opt (slS 2 J none (some V) (some a0)) (fun O=>A.chk O ( K [(.v O)] h))))))
/-- crimp/corners.walk$1 -/
noncomputable def f63(ls:List Lf)(h:HT)(K:List Lf→HT→R):R:=A.unV ls (fun a3 d3=>A.unV d3 (fun J d4=>A.unV d4 (fun U d5=>A.un0 d5 ( A.opt (fdP 0 J) (fun a4=>A.chk a4 ( A.peek (.lg cc 1 a4) h (fun d6=>A.ucI .i64 d6 (fun n14 d7=>A.uc0 d7 ( A.ari .quo .i64 n14 (.ofNat 2) (fun n16=>A.opt (fdP 1 J) (fun a5=>A.chk a5 ( A.peek (.lg cc 1 a5) h (fun d8=>A.ucI .i64 d8 (fun n19 d9=>A.uc0 d9 ( A.ari .quo .i64 n19 (.ofNat 2) (fun n21=>A.opt (fdP 0 J) (fun a6=>A.chk a6 ( A.peek (.lg cc 1 a6) h (fun e0=>A.ucI .i64 e0 (fun n24 e1=>A.uc0 e1 ( A.ari .rem .i64 n24 (.ofNat 2) (fun n26=>A.cmp .neq n26 (.ofNat 0) (fun e2=>A.join (fun f0 f1=>A.unI f0 (fun n30 f2=>A.unI f2 (fun n32 gl=>A.unI gl (fun n34 g0=>A.un0 g0 ( A.loop (fun a7 g1 a8=>A.unI g1 (fun n39 g2=>A.unI g2 (fun n41 g3=>A.unI g3 (fun n43 g4=>A.unI g4 (fun n45 g5=>A.un0 g5 ( A.peek (.lg cc 2 U) a8 (fun g6=>A.ucI .i64 g6 (fun n48 g7=>A.ucI .i64 g7 (fun n50 g8=>A.uc0 g8 ( A.call 49 [(.i n48),(.i n50),(.i n41),(.i n43),(.i n45)] a8 (fun g9 h0=>A.unI g9 (fun n54 h1=>A.unI h1 (fun n56 h2=>A.un0 h2 ( A.loop (fun h3 h4 V=>A.unI h4 (fun n61 h5=>A.unI h5 (fun n63 h6=>A.unI h6 (fun n65 h7=>A.unI h7 (fun n67 h8=>A.unI h8 (fun n69 h9=>A.un0 h9 ( A.cmp .lss n63 (.ofNat 3) (fun i0=>A.cond i0 ( A.join (fun i1 i2=>A.unI i1 (fun n74 j0=>A.unI j0 (fun n76 j1=>A.unI j1 (fun n78 j2=>A.unI j2 (fun n80 j3=>A.un0 j3 ( A.ari .add .u8 n63 (.ofNat 1) (fun n82=>h3 [(.i n74),(.i n82),(.i n76),(.i n78),(.i n80)] i2))))))) (fun a0=>A.peek (.lg cc 2 J) V (fun j4=>A.ucI .i64 j4 (fun n85 j5=>A.ucI .i64 j5 (fun n87 j6=>A.uc0 j6 ( A.call 64 [(.i n65),(.i n67),(.i n69),(.i n63),(.i n85),(.i n87)] V (fun j7 O=>A.unB j7 (fun j8 j9=>A.un0 j9 ( A.cond (!j8) ( a0 [(.i n61),(.i n65),(.i n67),(.i n69)] O) ( A.cmp .eql n63 n61 (fun k0=>A.cond k0 ( a0 [(.i n61),(.i n65),(.i n67),(.i n69)] O) ( A.cmp .eql n61 (.ofNat 3) (fun k1=>A.cond k1 ( A.peek (.lg cc 2 J) O (fun k2=>A.ucI .i64 k2 (fun k3 k4=>A.ucI .i64 k4 (fun k5 k6=>A.uc0 k6 ( A.call 65 [(.i n65),(.i n67),(.i n69),(.i n63),(.i k3),(.i k5)] O (fun k7 a9=>A.unB k7 (fun k8 k9=>A.un0 k9 ( A.join (fun l0 b0=>A.un0 l0 ( A.peek (.lg cc 2 U) b0 (fun l1=>A.ucI .i64 l1 (fun l2 l3=>A.ucI .i64 l3 (fun l4 l5=>A.uc0 l5 ( A.call 50 [(.i l2),(.i l4),(.i n54),(.i n63)] b0 (fun l6 a1=>A.unI l6 (fun n113 l7=>A.unI l7 (fun n115 l8=>A.unI l8 (fun n117 l9=>A.un0 l9 ( A.peek (.lg cc 2 U) a1 (fun m0=>A.ucI .i64 m0 (fun n120 m1=>A.ucI .i64 m1 (fun m2 m3=>A.uc0 m3 ( A.peek (.lg cc 2 J) a1 (fun m4=>A.ucI .i64 m4 (fun m5 m6=>A.ucI .i64 m6 (fun m7 m8=>A.uc0 m8 ( A.call 66 [(.i n120),(.i m2),(.i n113),(.i n115),(.i m5),(.i m7)] a1 (fun m9 n0=>A.unI m9 (fun n131 n1=>A.un0 n1 ( A.callv a3 [(.int .i64 n54),(.agg ⟨[(.int .i64 n131),(.int .i64 n113),(.int .u8 n115)]⟩)] [(.leaf .b)] n0 (fun n2 b1=>A.unB n2 (fun o0 o1=>A.un0 o1 ( A.cond (!o0) ( K [] b1) ( A.call 67 [(.i n65),(.i n67),(.i n69),(.i n63)] b1 (fun o2 b2=>A.unI o2 (fun b3 o3=>A.unI o3 (fun b4 o4=>A.unI o4 (fun b6 o5=>A.unI o5 (fun r6 o6=>A.un0 o6 ( A.eqs [((.i b3),(.i n30)),((.i b4),(.i n32)),((.i b6),(.i n34))] (fun o7=>A.cond o7 ( K [] b2) ( a7 [(.i n63),(.i b3),(.i b4),(.i b6)] b2)))))))))))))))))))))))))))))))))) (fun o8=>A.cond (!k8) ( a0 [(.i n61),(.i n65),(.i n67),(.i n69)] a9) ( o8 [] a9)))))))))) ( A.peek (.lg cc 2 U) O (fun o9=>A.ucI .i64 o9 (fun p0 p1=>A.ucI .i64 p1 (fun p2 p3=>A.uc0 p3 ( A.call 50 [(.i p0),(.i p2),(.i n54),(.i n63)] O (fun p4 a2=>A.unI p4 (fun b7 p5=>A.unI p5 (fun b8 p6=>A.unI p6 (fun r7 p7=>A.un0 p7 ( A.peek (.lg cc 2 U) a2 (fun p8=>A.ucI .i64 p8 (fun p9 q0=>A.ucI .i64 q0 (fun q1 q2=>A.uc0 q2 ( A.peek (.lg cc 2 J) a2 (fun q3=>A.ucI .i64 q3 (fun q4 q5=>A.ucI .i64 q5 (fun q6 q7=>A.uc0 q7 ( A.call 66 [(.i p9),(.i q1),(.i b7),(.i b8),(.i q4),(.i q6)] a2 (fun q8 q9=>A.unI q8 (fun rT rU=>A.un0 rU ( A.callv a3 [(.int .i64 n54),(.agg ⟨[(.int .i64 rT),(.int .i64 b7),(.int .u8 b8)]⟩)] [(.leaf .b)] q9 (fun rW b9=>A.unB rW (fun rX rY=>A.un0 rY ( A.cond (!rX) ( K [] b9) ( A.call 67 [(.i n65),(.i n67),(.i n69),(.i n63)] b9 (fun rZ c0=>A.unI rZ (fun c1 r1=>A.unI r1 (fun d0 r2=>A.unI r2 (fun d1 r3=>A.unI r3 (fun r8 r4=>A.un0 r4 ( A.eqs [((.i c1),(.i n30)),((.i d0),(.i n32)),((.i d1),(.i n34))] (fun r5=>A.cond r5 ( K [] c0) ( a7 [(.i n63),(.i c1),(.i d0),(.i d1)] c0)))))))))))))))))))))))))))))))))))))))))))))) ( K [] V))))))))) [(.i n39),(.i (.ofNat 0)),(.i n41),(.i n43),(.i n45)] h0)))))))))))))) [(.i (.ofNat 3)),(.i n30),(.i n32),(.i n34)] f1))))) (fun d2=>A.cond e2 ( d2 [(.i n16),(.i n21),(.i (.ofNat 2))] h) ( d2 [(.i n16),(.i n21),(.i (.ofNat 0))] h)))))))))))))))))))))))))
/-- crimp/corners.touches -/
noncomputable def f64(ls:List Lf)(h:HT)(K:List Lf→HT→R):R:=A.unI ls (fun n6 J=>A.unI J (fun n8 O=>A.unI O (fun n10 U=>A.unI U (fun n12 V=>A.unI V (fun n14 a0=>A.unI a0 (fun n16 a1=>A.un0 a1 ( A.call 87 [(.i n6),(.i n8),(.i n10)] h (fun a2 a3=>A.unI a2 (fun n20 a4=>A.unI a4 (fun n22 a5=>A.unI a5 (fun n24 a6=>A.unI a6 (fun n26 a7=>A.unI a7 (fun n28 a8=>A.unI a8 (fun n30 a9=>A.unI a9 (fun n32 b0=>A.un0 b0 ( A.opt (inB 3 n12) (fun b6=>A.opt (bo [(.i n20),(.i n22),(.i n24),(.i n26),(.i n28),(.i n30)] 0 [(n12,2)] 2) (fun b1=>A.unI b1 (fun n36 b2=>A.unI b2 (fun n38 b3=>A.un0 b3 ( A.eqs [((.i n36),(.i n14)),((.i n38),(.i n16))] (fun b4=>K [(.b (!b4))] a3))))))))))))))))))))))
/-- crimp/corners.leaves -/
noncomputable def f65(ls:List Lf)(h:HT)(K:List Lf→HT→R):R:=A.unI ls (fun n6 J=>A.unI J (fun n8 O=>A.unI O (fun n10 U=>A.unI U (fun n12 V=>A.unI V (fun n14 a0=>A.unI a0 (fun n16 a1=>A.un0 a1 ( A.ari .rem .i64 n14 (.ofNat 2) (fun n18=>A.cmp .neq n18 (.ofNat 0) (fun a2=>A.cond a2 ( A.cmp .eql n12 (.ofNat 1) (fun a3=>K [(.b a3)] h)) ( A.cmp .eql n12 (.ofNat 2) (fun a4=>K [(.b a4)] h)))))))))))
/-- crimp/corners.direction -/
noncomputable def f66(ls:List Lf)(h:HT)(K:List Lf→HT→R):R:=A.unI ls (fun n6 V=>A.unI V (fun n8 a0=>A.unI a0 (fun n10 a1=>A.unI a1 (fun n12 a2=>A.unI a2 (fun n14 a3=>A.unI a3 (fun n16 a4=>A.un0 a4 ( A.call 88 [(.i n6),(.i n8),(.i n10),(.i n12)] h (fun a5 J=>A.unI a5 (fun n20 a6=>A.unI a6 (fun n22 a7=>A.unI a7 (fun n24 a8=>A.unI a8 (fun n26 a9=>A.unI a9 (fun n28 b0=>A.un0 b0 ( A.eqs [((.i n20),(.i n14)),((.i n22),(.i n16))] (fun b1=>A.join (fun b2 b3=>A.unI b2 (fun n33 b4=>A.unI b4 (fun n35 b6=>A.un0 b6 ( A.ari .sub .i64 n33 n14 (fun n37=>A.call 89 [(.i n37)] b3 (fun b7 b8=>A.unI b7 (fun n40 b9=>A.un0 b9 ( A.ari .sub .i64 n35 n16 (fun n42=>A.call 89 [(.i n42)] b8 (fun c0 c1=>A.unI c0 (fun n45 d0=>A.un0 d0 ( A.opt (ch cc 173 ⟨1,0,(some 1)⟩ none none none []) (fun O=>A.chk O ( A.call 90 [(.v O),(.i n40),(.i n45)] c1 (fun d1 d2=>A.unI d1 (fun n50 d3=>A.un0 d3 ( K [(.i n50)] d2))))))))))))))))) (fun U=>A.cond b1 ( U [(.i n24),(.i n26)] J) ( U [(.i n20),(.i n22)] J)))))))))))))))))
/-- crimp/cells.Neighbour -/
noncomputable def f67(ls:List Lf)(h:HT)(K:List Lf→HT→R):R:=A.unI ls (fun n6 U=>A.unI U (fun n8 V=>A.unI V (fun n10 a0=>A.unI a0 (fun n12 a1=>A.un0 a1 ( A.call 79 [(.i n6),(.i n8),(.i n10)] h (fun a2 J=>A.unI a2 (fun n16 a3=>A.un0 a3 ( A.cmp .neq n16 (.ofNat 0) (fun a4=>A.cond a4 ( K [(.i (.ofNat 0)),(.i (.ofNat 0)),(.i (.ofNat 0)),(.i (.ofNat 1))] J) ( A.cmp .gtr n12 (.ofNat 2) (fun a5=>A.cond a5 ( K [(.i (.ofNat 0)),(.i (.ofNat 0)),(.i (.ofNat 0)),(.i (.ofNat 1))] J) ( A.opt (inB 4 n10) (fun b3=>A.opt (inB 3 n12) (fun b4=>A.opt (kK gl2 4 [(n10,17),(n12,3)] 3) (fun a6=>A.ucI .i64 a6 (fun n23 a7=>A.ucI .i64 a7 (fun n25 a8=>A.ucI .u8 a8 (fun n27 a9=>A.uc0 a9 ( A.ari .add .i64 n23 n6 (fun n29=>A.ari .add .i64 n25 n8 (fun n30=>A.call 79 [(.i n29),(.i n30),(.i n27)] J (fun b0 O=>A.unI b0 (fun n33 b1=>A.un0 b1 ( A.cmp .neq n33 (.ofNat 0) (fun b2=>A.cond b2 ( K [(.i (.ofNat 0)),(.i (.ofNat 0)),(.i (.ofNat 0)),(.i (.ofNat 3))] O) ( K [(.i n29),(.i n30),(.i n27),(.i (.ofNat 0))] O))))))))))))))))))))))))))
/-- slices.ContainsFunc[[]crimp/patterns.Crease,crimp/patterns.Crease] -/
noncomputable def f68(ls:List Lf)(h:HT)(K:List Lf→HT→R):R:=A.unV ls (fun J O=>A.unV O (fun U V=>A.un0 V ( A.call 91 [(.v J),(.v U)] h (fun a0 a1=>A.unI a0 (fun n12 a2=>A.un0 a2 ( A.cmp .geq n12 (.ofNat 0) (fun a3=>K [(.b a3)] a1)))))))
/-- crimp/patterns.Check$1 -/
noncomputable def f69(ls:List Lf)(h:HT)(K:List Lf→HT→R):R:=A.unI ls (fun n6 J=>A.unI J (fun n8 O=>A.unI O (fun n10 U=>A.un0 U ( A.call 70 [(.i n10)] h (fun V a0=>A.unB V (fun a1 a2=>A.un0 a2 ( K [(.b (!a1))] a0)))))))
/-- crimp/patterns.isKind -/
noncomputable def f70(ls:List Lf)(h:HT)(K:List Lf→HT→R):R:=A.unI ls (fun n6 O=>A.un0 O ( A.join (fun U V=>A.unB U (fun a0 a1=>A.un0 a1 ( K [(.b a0)] V))) (fun J=>A.cmp .geq n6 (.ofNat 1) (fun a2=>A.cond a2 ( A.cmp .leq n6 (.ofNat 3) (fun a3=>J [(.b a3)] h)) ( J [(.b false)] h)))))
/-- crimp/patterns.at -/
noncomputable def f71(ls:List Lf)(h:HT)(K:List Lf→HT→R):R:=A.unI ls (fun n6 V=>A.unI V (fun n8 a0=>A.unV a0 (fun J a1=>A.unI a1 (fun n12 a2=>A.unI a2 (fun n14 a3=>A.un0 a3 ( A.call 36 [(.i n6),(.i n8),(.v J)] h (fun a4 O=>A.unI a4 (fun n18 a5=>A.un0 a5 ( A.cmp .neq n18 (.ofNat 0) (fun a6=>A.cond a6 ( K [(.i (.ofNat 0)),(.i (.ofNat 0)),(.i (.ofNat 0)),(.b false),(.i n18)] O) ( A.call 50 [(.i n6),(.i n8),(.i n12),(.i n14)] O (fun a7 U=>A.unI a7 (fun n23 a8=>A.unI a8 (fun n25 a9=>A.unI a9 (fun n27 b0=>A.un0 b0 ( A.cmp .neq n27 (.ofNat 0) (fun b1=>A.cond b1 ( K [(.i (.ofNat 0)),(.i (.ofNat 0)),(.i (.ofNat 0)),(.b false),(.i n27)] U) ( A.call 92 [(.v J),(.i n23),(.i n25)] U (fun b2 b3=>A.unI b2 (fun n32 b4=>A.unB b4 (fun b6 b7=>A.un0 b7 ( K [(.i n23),(.i n25),(.i n32),(.b b6),(.i (.ofNat 0))] b3))))))))))))))))))))))
/-- slices.pdqsortCmpFunc[crimp/corners.Ray] -/
noncomputable def f72(ls:List Lf)(h:HT)(K:List Lf→HT→R):R:=A.unV ls (fun J h0=>A.unI h0 (fun n8 h1=>A.unI h1 (fun n10 h2=>A.unI h2 (fun n12 h3=>A.unV h3 (fun O h4=>A.un0 h4 ( A.loop (fun h5 h6 a7=>A.unI h6 (fun n19 h7=>A.unI h7 (fun n21 h8=>A.unB h8 (fun a8 h9=>A.unB h9 (fun a6 i0=>A.unI i0 (fun n27 i1=>A.un0 i1 ( A.join (fun i2 j0=>A.unI i2 (fun n31 j1=>A.unI j1 (fun n33 j2=>A.unB j2 (fun j3 j4=>A.unB j4 (fun j5 j6=>A.unI j6 (fun n39 j7=>A.un0 j7 ( h5 [(.i n31),(.i n33),(.b j3),(.b j5),(.i n39)] j0))))))) (fun V=>A.ari .sub .i64 n27 n21 (fun n42=>A.cmp .leq n42 (.ofNat 12) (fun j8=>A.cond j8 ( A.call 93 [(.v J),(.i n21),(.i n27),(.v O)] a7 (fun j9 k0=>A.un0 j9 ( K [] k0))) ( A.cmp .eql n19 (.ofNat 0) (fun k1=>A.cond k1 ( A.call 94 [(.v J),(.i n21),(.i n27),(.v O)] a7 (fun k2 k3=>A.un0 k2 ( K [] k3))) ( A.join (fun k4 k5=>A.unI k4 (fun n51 k6=>A.un0 k6 ( A.call 96 [(.v J),(.i n21),(.i n27),(.v O)] k5 (fun k7 b2=>A.unI k7 (fun n55 k8=>A.unI k8 (fun n57 k9=>A.un0 k9 ( A.cmp .eql n57 (.ofNat 2) (fun l0=>A.join (fun l1 U=>A.unI l1 (fun n62 l2=>A.unI l2 (fun n64 l3=>A.un0 l3 ( A.cond a6 ( A.cond a8 ( A.cmp .eql n64 (.ofNat 1) (fun l4=>A.join (fun l5 a9=>A.un0 l5 ( A.cmp .gtr n21 (.ofNat 0) (fun l6=>A.cond l6 ( A.ari .sub .i64 n21 (.ofNat 1) (fun n70=>A.opt (idS 2 J n70) (fun l7=>A.peek (.lg cc 2 l7) a9 (fun l8=>A.ucI .i64 l8 (fun n73 l9=>A.ucI .u8 l9 (fun n75 m0=>A.uc0 m0 ( A.opt (idS 2 J n62) (fun m1=>A.peek (.lg cc 2 m1) a9 (fun m2=>A.ucI .i64 m2 (fun n79 m3=>A.ucI .u8 m3 (fun n81 m4=>A.uc0 m4 ( A.callv O [(.agg ⟨[(.int .i64 n73),(.int .u8 n75)]⟩),(.agg ⟨[(.int .i64 n79),(.int .u8 n81)]⟩)] [(.leaf (.i .i64))] a9 (fun m5 b3=>A.unI m5 (fun n85 m6=>A.un0 m6 ( A.cmp .lss n85 (.ofNat 0) (fun m7=>A.join (fun m8 m9=>A.unI m8 (fun n90 n0=>A.un0 n0 ( A.call 100 [(.v J),(.i n90),(.i n27),(.i n62),(.v O)] m9 (fun n1 b4=>A.unI n1 (fun a0 n2=>A.unB n2 (fun o0 o1=>A.un0 o1 ( A.ari .sub .i64 a0 n90 (fun b6=>A.ari .sub .i64 n27 a0 (fun b7=>A.ari .quo .i64 n42 (.ofNat 8) (fun b8=>A.cmp .lss b6 b7 (fun o2=>A.join (fun o3 o4=>A.unB o3 (fun o5 o6=>A.unI o6 (fun o7 o8=>A.unI o8 (fun n108 o9=>A.un0 o9 ( V [(.i n51),(.i o7),(.b o0),(.b o5),(.i n108)] o4))))) (fun b9=>A.cond o2 ( A.cmp .geq b6 b8 (fun p0=>A.call 72 [(.v J),(.i n90),(.i a0),(.i n51),(.v O)] b4 (fun p1 p2=>A.un0 p1 ( A.ari .add .i64 a0 (.ofNat 1) (fun n114=>b9 [(.b p0),(.i n114),(.i n27)] p2))))) ( A.cmp .geq b7 b8 (fun p3=>A.ari .add .i64 a0 (.ofNat 1) (fun n116=>A.call 72 [(.v J),(.i n116),(.i n27),(.i n51),(.v O)] b4 (fun p4 p5=>A.un0 p4 ( b9 [(.b p3),(.i n90),(.i a0)] p5))))))))))))))))) (fun p6=>A.cond (!m7) ( A.call 99 [(.v J),(.i n21),(.i n27),(.i n62),(.v O)] b3 (fun p7 p8=>A.unI p7 (fun p9 q0=>A.un0 q0 ( V [(.i n51),(.i p9),(.b a8),(.b a6),(.i n27)] p8)))) ( p6 [(.i n21)] b3)))))))))))))))))) ( A.call 100 [(.v J),(.i n21),(.i n27),(.i n62),(.v O)] a9 (fun q1 c0=>A.unI q1 (fun a1 q2=>A.unB q2 (fun q3 q4=>A.un0 q4 ( A.ari .sub .i64 a1 n21 (fun n130=>A.ari .sub .i64 n27 a1 (fun n131=>A.ari .quo .i64 n42 (.ofNat 8) (fun c1=>A.cmp .lss n130 n131 (fun q5=>A.join (fun q6 q7=>A.unB q6 (fun q8 q9=>A.unI q9 (fun rT rU=>A.unI rU (fun rW rX=>A.un0 rX ( V [(.i n51),(.i rT),(.b q3),(.b q8),(.i rW)] q7))))) (fun d0=>A.cond q5 ( A.cmp .geq n130 c1 (fun rY=>A.call 72 [(.v J),(.i n21),(.i a1),(.i n51),(.v O)] c0 (fun rZ r1=>A.un0 rZ ( A.ari .add .i64 a1 (.ofNat 1) (fun r2=>d0 [(.b rY),(.i r2),(.i n27)] r1))))) ( A.cmp .geq n131 c1 (fun r3=>A.ari .add .i64 a1 (.ofNat 1) (fun r4=>A.call 72 [(.v J),(.i r4),(.i n27),(.i n51),(.v O)] c0 (fun r5 r6=>A.un0 r5 ( d0 [(.b r3),(.i n21),(.i a1)] r6)))))))))))))))))) (fun d1=>A.cond l4 ( A.call 98 [(.v J),(.i n21),(.i n27),(.v O)] U (fun r7 d2=>A.unB r7 (fun r8 r9=>A.un0 r9 ( A.cond r8 ( K [] d2) ( d1 [] d2))))) ( d1 [] U)))) ( A.cmp .gtr n21 (.ofNat 0) (fun sa=>A.cond sa ( A.ari .sub .i64 n21 (.ofNat 1) (fun sb=>A.opt (idS 2 J sb) (fun sc=>A.peek (.lg cc 2 sc) U (fun sd=>A.ucI .i64 sd (fun se sf=>A.ucI .u8 sf (fun sh si=>A.uc0 si ( A.opt (idS 2 J n62) (fun sj=>A.peek (.lg cc 2 sj) U (fun sn=>A.ucI .i64 sn (fun so sq=>A.ucI .u8 sq (fun ss su=>A.uc0 su ( A.callv O [(.agg ⟨[(.int .i64 se),(.int .u8 sh)]⟩),(.agg ⟨[(.int .i64 so),(.int .u8 ss)]⟩)] [(.leaf (.i .i64))] U (fun sw d3=>A.unI sw (fun sx sy=>A.un0 sy ( A.cmp .lss sx (.ofNat 0) (fun sz=>A.join (fun sA sB=>A.unI sA (fun b0 sC=>A.un0 sC ( A.call 100 [(.v J),(.i b0),(.i n27),(.i n62),(.v O)] sB (fun sD d4=>A.unI sD (fun a2 sE=>A.unB sE (fun sF sG=>A.un0 sG ( A.ari .sub .i64 a2 b0 (fun d5=>A.ari .sub .i64 n27 a2 (fun d6=>A.ari .quo .i64 n42 (.ofNat 8) (fun d7=>A.cmp .lss d5 d6 (fun sH=>A.join (fun sI sJ=>A.unB sI (fun sK sL=>A.unI sL (fun sM sN=>A.unI sN (fun sO sP=>A.un0 sP ( V [(.i n51),(.i sM),(.b sF),(.b sK),(.i sO)] sJ))))) (fun d8=>A.cond sH ( A.cmp .geq d5 d7 (fun sQ=>A.call 72 [(.v J),(.i b0),(.i a2),(.i n51),(.v O)] d4 (fun sR sS=>A.un0 sR ( A.ari .add .i64 a2 (.ofNat 1) (fun sU=>d8 [(.b sQ),(.i sU),(.i n27)] sS))))) ( A.cmp .geq d6 d7 (fun sV=>A.ari .add .i64 a2 (.ofNat 1) (fun sW=>A.call 72 [(.v J),(.i sW),(.i n27),(.i n51),(.v O)] d4 (fun sX sY=>A.un0 sX ( d8 [(.b sV),(.i b0),(.i a2)] sY))))))))))))))))) (fun sZ=>A.cond (!sz) ( A.call 99 [(.v J),(.i n21),(.i n27),(.i n62),(.v O)] d3 (fun s0 s1=>A.unI s0 (fun s2 s3=>A.un0 s3 ( V [(.i n51),(.i s2),(.b a8),(.b a6),(.i n27)] s1)))) ( sZ [(.i n21)] d3)))))))))))))))))) ( A.call 100 [(.v J),(.i n21),(.i n27),(.i n62),(.v O)] U (fun s4 d9=>A.unI s4 (fun a3 s5=>A.unB s5 (fun s6 s7=>A.un0 s7 ( A.ari .sub .i64 a3 n21 (fun e0=>A.ari .sub .i64 n27 a3 (fun e1=>A.ari .quo .i64 n42 (.ofNat 8) (fun e2=>A.cmp .lss e0 e1 (fun s8=>A.join (fun s9 ta=>A.unB s9 (fun tb tc=>A.unI tc (fun td tg=>A.unI tg (fun th ti=>A.un0 ti ( V [(.i n51),(.i td),(.b s6),(.b tb),(.i th)] ta))))) (fun f0=>A.cond s8 ( A.cmp .geq e0 e2 (fun tj=>A.call 72 [(.v J),(.i n21),(.i a3),(.i n51),(.v O)] d9 (fun tn tq=>A.un0 tn ( A.ari .add .i64 a3 (.ofNat 1) (fun tr=>f0 [(.b tj),(.i tr),(.i n27)] tq))))) ( A.cmp .geq e1 e2 (fun tt=>A.ari .add .i64 a3 (.ofNat 1) (fun tu=>A.call 72 [(.v J),(.i tu),(.i n27),(.i n51),(.v O)] d9 (fun tv tw=>A.un0 tv ( f0 [(.b tt),(.i n21),(.i a3)] tw)))))))))))))))))) ( A.cmp .gtr n21 (.ofNat 0) (fun tx=>A.cond tx ( A.ari .sub .i64 n21 (.ofNat 1) (fun tz=>A.opt (idS 2 J tz) (fun tA=>A.peek (.lg cc 2 tA) U (fun tB=>A.ucI .i64 tB (fun tC tD=>A.ucI .u8 tD (fun tE tF=>A.uc0 tF ( A.opt (idS 2 J n62) (fun tG=>A.peek (.lg cc 2 tG) U (fun tH=>A.ucI .i64 tH (fun tI tJ=>A.ucI .u8 tJ (fun tK tL=>A.uc0 tL ( A.callv O [(.agg ⟨[(.int .i64 tC),(.int .u8 tE)]⟩),(.agg ⟨[(.int .i64 tI),(.int .u8 tK)]⟩)] [(.leaf (.i .i64))] U (fun tM f1=>A.unI tM (fun tN tO=>A.un0 tO ( A.cmp .lss tN (.ofNat 0) (fun tP=>A.join (fun tQ tR=>A.unI tQ (fun b1 tS=>A.un0 tS ( A.call 100 [(.v J),(.i b1),(.i n27),(.i n62),(.v O)] tR (fun tT f2=>A.unI tT (fun a4 tU=>A.unB tU (fun tV tW=>A.un0 tW ( A.ari .sub .i64 a4 b1 (fun gl=>A.ari .sub .i64 n27 a4 (fun g0=>A.ari .quo .i64 n42 (.ofNat 8) (fun g1=>A.cmp .lss gl g0 (fun tX=>A.join (fun tY tZ=>A.unB tY (fun t0 t1=>A.unI t1 (fun t2 t3=>A.unI t3 (fun t4 t5=>A.un0 t5 ( V [(.i n51),(.i t2),(.b tV),(.b t0),(.i t4)] tZ))))) (fun g2=>A.cond tX ( A.cmp .geq gl g1 (fun t6=>A.call 72 [(.v J),(.i b1),(.i a4),(.i n51),(.v O)] f2 (fun t7 t8=>A.un0 t7 ( A.ari .add .i64 a4 (.ofNat 1) (fun t9=>g2 [(.b t6),(.i t9),(.i n27)] t8))))) ( A.cmp .geq g0 g1 (fun uc=>A.ari .add .i64 a4 (.ofNat 1) (fun ud=>A.call 72 [(.v J),(.i ud),(.i n27),(.i n51),(.v O)] f2 (fun ue uf=>A.un0 ue ( g2 [(.b uc),(.i b1),(.i a4)] uf))))))))))))))))) (fun ug=>A.cond (!tP) ( A.call 99 [(.v J),(.i n21),(.i n27),(.i n62),(.v O)] f1 (fun uh ui=>A.unI uh (fun uj uk=>A.un0 uk ( V [(.i n51),(.i uj),(.b a8),(.b a6),(.i n27)] ui)))) ( ug [(.i n21)] f1)))))))))))))))))) ( A.call 100 [(.v J),(.i n21),(.i n27),(.i n62),(.v O)] U (fun ul g3=>A.unI ul (fun a5 um=>A.unB um (fun uo uq=>A.un0 uq ( A.ari .sub .i64 a5 n21 (fun g4=>A.ari .sub .i64 n27 a5 (fun g5=>A.ari .quo .i64 n42 (.ofNat 8) (fun g6=>A.cmp .lss g4 g5 (fun ur=>A.join (fun ut uu=>A.unB ut (fun uv uw=>A.unI uw (fun ux uy=>A.unI uy (fun uz uA=>A.un0 uA ( V [(.i n51),(.i ux),(.b uo),(.b uv),(.i uz)] uu))))) (fun g7=>A.cond ur ( A.cmp .geq g4 g6 (fun uC=>A.call 72 [(.v J),(.i n21),(.i a5),(.i n51),(.v O)] g3 (fun uD uE=>A.un0 uD ( A.ari .add .i64 a5 (.ofNat 1) (fun uF=>g7 [(.b uC),(.i uF),(.i n27)] uE))))) ( A.cmp .geq g5 g6 (fun uG=>A.ari .add .i64 a5 (.ofNat 1) (fun uH=>A.call 72 [(.v J),(.i uH),(.i n27),(.i n51),(.v O)] g3 (fun uI uJ=>A.un0 uI ( g7 [(.b uG),(.i n21),(.i a5)] uJ))))))))))))))))))))) (fun g8=>A.cond l0 ( A.call 97 [(.v J),(.i n21),(.i n27),(.v O)] b2 (fun uK uL=>A.un0 uK ( A.ari .sub .i64 n27 (.ofNat 1) (fun uM=>A.ari .sub .i64 n55 n21 (fun uN=>A.ari .sub .i64 uM uN (fun uO=>g8 [(.i uO),(.i (.ofNat 1))] uL)))))) ( g8 [(.i n55),(.i n57)] b2)))))))))) (fun g9=>A.cond (!a6) ( A.call 95 [(.v J),(.i n21),(.i n27),(.v O)] a7 (fun uP uQ=>A.un0 uP ( A.ari .sub .i64 n19 (.ofNat 1) (fun uR=>g9 [(.i uR)] uQ)))) ( g9 [(.i n19)] a7))))))))))))))) [(.i n12),(.i n8),(.b true),(.b true),(.i n10)] h))))))
/-- math/bits.Len -/
noncomputable def f73(ls:List Lf)(h:HT)(K:List Lf→HT→R):R:=A.unI ls (fun n6 J=>A.un0 J ( A.call 102 [(.i n6)] h (fun O U=>A.unI O (fun n10 V=>A.un0 V ( K [(.i n10)] U)))))
/-- crimp/crimpref03.Line -/
noncomputable def f74(ls:List Lf)(h:HT)(K:List Lf→HT→R):R:=A.unI ls (fun n6 V=>A.unI V (fun n8 a0=>A.unI a0 (fun n10 a1=>A.unI a1 (fun n12 a2=>A.un0 a2 ( A.call 46 [(.i n6),(.i n8),(.i n10)] h (fun a3 a4=>A.unI a3 (fun n16 a5=>A.unI a5 (fun n18 a6=>A.unI a6 (fun n20 a7=>A.unI a7 (fun n22 a8=>A.unI a8 (fun n24 a9=>A.unI a9 (fun n26 b0=>A.un0 b0 ( A.ari .add .i64 n12 (.ofNat 1) (fun n28=>A.ari .rem .i64 n28 (.ofNat 3) (fun n29=>A.opt (inB 3 n29) (fun e0=>A.opt (bo [(.i n16),(.i n18),(.i n20),(.i n22),(.i n24),(.i n26)] 0 [(n29,2)] 2) (fun b1=>A.unI b1 (fun n32 b2=>A.unI b2 (fun n34 b3=>A.un0 b3 ( A.ari .add .i64 n12 (.ofNat 2) (fun n36=>A.ari .rem .i64 n36 (.ofNat 3) (fun n37=>A.opt (inB 3 n37) (fun e1=>A.opt (bo [(.i n16),(.i n18),(.i n20),(.i n22),(.i n24),(.i n26)] 0 [(n37,2)] 2) (fun b4=>A.unI b4 (fun n40 b6=>A.unI b6 (fun n42 b7=>A.un0 b7 ( A.loop (fun b8 b9 J=>A.unI b9 (fun n47 c0=>A.unI c0 (fun n49 c1=>A.unI c1 (fun n51 d0=>A.un0 d0 ( A.cmp .leq n47 (.ofNat 4) (fun d1=>A.cond d1 ( A.call 103 [(.i n47)] J (fun d2 O=>A.unI d2 (fun n56 d3=>A.unI d3 (fun n58 d4=>A.un0 d4 ( A.ari .mul .i64 n56 n32 (fun n60=>A.ari .mul .i64 n58 n34 (fun n61=>A.ari .add .i64 n60 n61 (fun n62=>A.ari .mul .i64 n56 n40 (fun n63=>A.ari .mul .i64 n58 n42 (fun n64=>A.ari .add .i64 n63 n64 (fun n65=>A.cmp .eql n62 n65 (fun d5=>A.join (fun d6 d7=>A.unI d6 (fun n69 d8=>A.unI d8 (fun n71 d9=>A.un0 d9 ( A.ari .add .u8 n47 (.ofNat 1) (fun n73=>b8 [(.i n73),(.i n69),(.i n71)] d7))))) (fun U=>A.cond d5 ( A.ari .mul .i64 n56 n32 (fun n75=>A.ari .mul .i64 n58 n34 (fun n76=>A.ari .add .i64 n75 n76 (fun n77=>A.ari .quo .i64 n77 (.ofNat 2) (fun n78=>U [(.i n47),(.i n78)] O))))) ( U [(.i n49),(.i n51)] O)))))))))))))) ( K [(.i n49),(.i n51)] J))))))) [(.i (.ofNat 1)),(.i (.ofNat 0)),(.i (.ofNat 0))] a4)))))))))))))))))))))))))))
/-- crimp/crimpref01.Reflect -/
noncomputable def f75(ls:List Lf)(h:HT)(K:List Lf→HT→R):R:=A.unI ls (fun n6 J=>A.unI J (fun n8 O=>A.unI O (fun n10 U=>A.unI U (fun n12 V=>A.un0 V ( A.call 103 [(.i n6)] h (fun a0 a1=>A.unI a0 (fun n16 a2=>A.unI a2 (fun n18 a3=>A.un0 a3 ( A.call 104 [(.i n6),(.i n8),(.i n10),(.i n12)] a1 (fun a4 a5=>A.unI a4 (fun n22 a6=>A.un0 a6 ( A.ari .mul .i64 (.ofNat 2) n22 (fun n24=>A.ari .mul .i64 n16 n16 (fun n25=>A.ari .mul .i64 n18 n18 (fun n26=>A.ari .add .i64 n25 n26 (fun n27=>A.ari .quo .i64 n24 n27 (fun n28=>A.ari .mul .i64 n28 n16 (fun n29=>A.ari .sub .i64 n10 n29 (fun n30=>A.ari .mul .i64 n28 n18 (fun n31=>A.ari .sub .i64 n12 n31 (fun n32=>K [(.i n30),(.i n32)] a5)))))))))))))))))))))
/-- crimp/crimpref03.With -/
noncomputable def f76(ls:List Lf)(h:HT)(K:List Lf→HT→R):R:=A.unI ls (fun n6 a1=>A.unI a1 (fun n8 a2=>A.unI a2 (fun n10 a3=>A.unI a3 (fun n12 a4=>A.unI a4 (fun n14 a5=>A.unI a5 (fun n16 a6=>A.un0 a6 ( A.loop (fun a7 a8 O=>A.unI a8 (fun n21 a9=>A.un0 a9 ( A.cmp .lss n21 (.ofNat 3) (fun b0=>A.cond b0 ( A.join (fun b1 b2=>A.un0 b1 ( A.ari .add .i64 n21 (.ofNat 1) (fun n26=>a7 [(.i n26)] b2))) (fun V=>A.opt (inB 3 n21) (fun g8=>A.opt (bo [(.i n6),(.i n8),(.i n10),(.i n12),(.i n14),(.i n16)] 0 [(n21,2)] 2) (fun b3=>A.unI b3 (fun n30 b4=>A.unI b4 (fun n32 b6=>A.un0 b6 ( A.ari .add .i64 n21 (.ofNat 1) (fun n34=>A.ari .rem .i64 n34 (.ofNat 3) (fun n35=>A.opt (inB 3 n35) (fun g9=>A.opt (bo [(.i n6),(.i n8),(.i n10),(.i n12),(.i n14),(.i n16)] 0 [(n35,2)] 2) (fun b7=>A.unI b7 (fun n38 b8=>A.unI b8 (fun n40 b9=>A.un0 b9 ( A.ari .add .i64 n21 (.ofNat 2) (fun n42=>A.ari .rem .i64 n42 (.ofNat 3) (fun n43=>A.opt (inB 3 n43) (fun h0=>A.opt (bo [(.i n6),(.i n8),(.i n10),(.i n12),(.i n14),(.i n16)] 0 [(n43,2)] 2) (fun c0=>A.unI c0 (fun n46 c1=>A.unI c1 (fun n48 d0=>A.un0 d0 ( A.ari .rem .i64 n30 (.ofNat 2) (fun n50=>A.cmp .eql n50 (.ofNat 0) (fun d1=>A.cond d1 ( V [] O) ( A.ari .rem .i64 n32 (.ofNat 2) (fun n52=>A.cmp .eql n52 (.ofNat 0) (fun d2=>A.cond d2 ( V [] O) ( A.loop (fun U d3 a0=>A.unI d3 (fun n57 d4=>A.un0 d4 ( A.cmp .lss n57 (.ofNat 4) (fun d5=>A.cond d5 ( A.ari .sub .i64 n30 (.ofNat 1) (fun n60=>A.ari .quo .i64 n60 (.ofNat 2) (fun n61=>A.ari .sub .i64 n32 (.ofNat 1) (fun n62=>A.ari .quo .i64 n62 (.ofNat 2) (fun n63=>A.call 46 [(.i n61),(.i n63),(.i n57)] a0 (fun d6 J=>A.unI d6 (fun n66 d7=>A.unI d7 (fun n68 d8=>A.unI d8 (fun n70 d9=>A.unI d9 (fun n72 e0=>A.unI e0 (fun n74 e1=>A.unI e1 (fun n76 e2=>A.un0 e2 ( A.eqs [((.i n70),(.i n38)),((.i n72),(.i n40))] (fun f0=>A.cond f0 ( A.eqs [((.i n74),(.i n46)),((.i n76),(.i n48))] (fun f1=>A.cond f1 ( K [(.i n61),(.i n63),(.i n57)] J) ( A.eqs [((.i n70),(.i n46)),((.i n72),(.i n48))] (fun f2=>A.cond f2 ( A.eqs [((.i n74),(.i n38)),((.i n76),(.i n40))] (fun gl=>A.join (fun g0 g1=>A.un0 g0 ( A.ari .add .u8 n57 (.ofNat 1) (fun n84=>U [(.i n84)] g1))) (fun g2=>A.cond gl ( K [(.i n61),(.i n63),(.i n57)] J) ( g2 [] J)))) ( A.ari .add .u8 n57 (.ofNat 1) (fun n86=>U [(.i n86)] J)))))) ( A.eqs [((.i n70),(.i n46)),((.i n72),(.i n48))] (fun g3=>A.cond g3 ( A.eqs [((.i n74),(.i n38)),((.i n76),(.i n40))] (fun g4=>A.join (fun g5 g6=>A.un0 g5 ( A.ari .add .u8 n57 (.ofNat 1) (fun n91=>U [(.i n91)] g6))) (fun g7=>A.cond g4 ( K [(.i n61),(.i n63),(.i n57)] J) ( g7 [] J)))) ( A.ari .add .u8 n57 (.ofNat 1) (fun n93=>U [(.i n93)] J)))))))))))))))))) ( V [] a0))))) [(.i (.ofNat 0))] O))))))))))))))))))))))))))) ( K [(.i (.ofNat 0)),(.i (.ofNat 0)),(.i (.ofNat 4))] O))))) [(.i (.ofNat 0))] h)))))))
/-- (crimp/sheets.Sheet).has -/
noncomputable def f77(ls:List Lf)(h:HT)(K:List Lf→HT→R):R:=A.unI ls (fun n6 O=>A.unI O (fun n8 U=>A.unI U (fun n10 V=>A.un0 V ( A.join (fun a0 a1=>A.unB a0 (fun a2 a3=>A.un0 a3 ( K [(.b a2)] a1))) (fun J=>A.cmp .geq n10 (.ofNat 0) (fun a4=>A.cond a4 ( A.ari .mul .i64 (.ofNat 4) n6 (fun n18=>A.ari .mul .i64 n18 n8 (fun n19=>A.cmp .lss n10 n19 (fun a5=>J [(.b a5)] h)))) ( J [(.b false)] h)))))))
/-- (crimp/sheets.Sheet).cell -/
noncomputable def f78(ls:List Lf)(h:HT)(K:List Lf→HT→R):R:=A.unI ls (fun n6 J=>A.unI J (fun n8 O=>A.unI O (fun n10 U=>A.un0 U ( A.ari .quo .i64 n10 (.ofNat 4) (fun n12=>A.ari .rem .i64 n12 n6 (fun n13=>A.ari .quo .i64 n10 (.ofNat 4) (fun n14=>A.ari .quo .i64 n14 n6 (fun n15=>A.ari .rem .i64 n10 (.ofNat 4) (fun n16=>A.conv .u8 n16 (fun n17=>K [(.i n13),(.i n15),(.i n17)] h))))))))))
/-- crimp/cells.Check -/
noncomputable def f79(ls:List Lf)(h:HT)(K:List Lf→HT→R):R:=A.unI ls (fun n6 J=>A.unI J (fun n8 O=>A.unI O (fun n10 U=>A.un0 U ( A.cmp .lss n6 (.negSucc 4095) (fun V=>A.cond V ( K [(.i (.ofNat 1))] h) ( A.cmp .gtr n6 (.ofNat 4096) (fun a0=>A.cond a0 ( K [(.i (.ofNat 1))] h) ( A.cmp .lss n8 (.negSucc 4095) (fun a1=>A.cond a1 ( K [(.i (.ofNat 1))] h) ( A.cmp .gtr n8 (.ofNat 4096) (fun a2=>A.cond a2 ( K [(.i (.ofNat 1))] h) ( A.cmp .gtr n10 (.ofNat 3) (fun a3=>A.cond a3 ( K [(.i (.ofNat 1))] h) ( K [(.i (.ofNat 0))] h))))))))))))))
/-- crimp/sheets.Neighbour -/
noncomputable def f80(ls:List Lf)(h:HT)(K:List Lf→HT→R):R:=A.unI ls (fun n6 U=>A.unI U (fun n8 V=>A.unI V (fun n10 a0=>A.unI a0 (fun n12 a1=>A.un0 a1 ( A.call 48 [(.i n6),(.i n8),(.i n10)] h (fun a2 J=>A.unI a2 (fun n16 a3=>A.unI a3 (fun n18 a4=>A.unI a4 (fun n20 a5=>A.unI a5 (fun n22 a6=>A.un0 a6 ( A.cmp .neq n22 (.ofNat 0) (fun a7=>A.cond a7 ( K [(.i (.ofNat 0)),(.i n22)] J) ( A.call 67 [(.i n16),(.i n18),(.i n20),(.i n12)] J (fun a8 O=>A.unI a8 (fun n27 a9=>A.unI a9 (fun n29 b0=>A.unI b0 (fun n31 b1=>A.unI b1 (fun n33 b2=>A.un0 b2 ( A.cmp .neq n33 (.ofNat 0) (fun b3=>A.cond b3 ( K [(.i (.ofNat 0)),(.i (.ofNat 1))] O) ( A.call 49 [(.i n6),(.i n8),(.i n27),(.i n29),(.i n31)] O (fun b4 b6=>A.unI b4 (fun n38 b7=>A.unI b7 (fun n40 b8=>A.un0 b8 ( K [(.i n38),(.i n40)] b6)))))))))))))))))))))))))
/-- slices.pdqsortCmpFunc[crimp/patterns.Crease] -/
noncomputable def f81(ls:List Lf)(h:HT)(K:List Lf→HT→R):R:=A.unV ls (fun J g9=>A.unI g9 (fun n8 h0=>A.unI h0 (fun n10 h1=>A.unI h1 (fun n12 h2=>A.unV h2 (fun O h3=>A.un0 h3 ( A.loop (fun h4 h5 a6=>A.unI h5 (fun n19 h6=>A.unI h6 (fun n21 h7=>A.unB h7 (fun a7 h8=>A.unB h8 (fun a5 h9=>A.unI h9 (fun n27 i0=>A.un0 i0 ( A.join (fun i1 i2=>A.unI i1 (fun n31 j0=>A.unI j0 (fun n33 j1=>A.unB j1 (fun j2 j3=>A.unB j3 (fun j4 j5=>A.unI j5 (fun n39 j6=>A.un0 j6 ( h4 [(.i n31),(.i n33),(.b j2),(.b j4),(.i n39)] i2))))))) (fun V=>A.ari .sub .i64 n27 n21 (fun n42=>A.cmp .leq n42 (.ofNat 12) (fun j7=>A.cond j7 ( A.call 105 [(.v J),(.i n21),(.i n27),(.v O)] a6 (fun j8 j9=>A.un0 j8 ( K [] j9))) ( A.cmp .eql n19 (.ofNat 0) (fun k0=>A.cond k0 ( A.call 106 [(.v J),(.i n21),(.i n27),(.v O)] a6 (fun k1 k2=>A.un0 k1 ( K [] k2))) ( A.join (fun k3 k4=>A.unI k3 (fun n51 k5=>A.un0 k5 ( A.call 108 [(.v J),(.i n21),(.i n27),(.v O)] k4 (fun k6 b2=>A.unI k6 (fun n55 k7=>A.unI k7 (fun n57 k8=>A.un0 k8 ( A.cmp .eql n57 (.ofNat 2) (fun k9=>A.join (fun l0 U=>A.unI l0 (fun n62 l1=>A.unI l1 (fun n64 l2=>A.un0 l2 ( A.cond a5 ( A.cond a7 ( A.cmp .eql n64 (.ofNat 1) (fun l3=>A.join (fun l4 a8=>A.un0 l4 ( A.cmp .gtr n21 (.ofNat 0) (fun l5=>A.cond l5 ( A.ari .sub .i64 n21 (.ofNat 1) (fun n70=>A.opt (idS 3 J n70) (fun l6=>A.peek (.lg cc 3 l6) a8 (fun l7=>A.ucI .i64 l7 (fun n73 l8=>A.ucI .u8 l8 (fun n75 l9=>A.ucI .u8 l9 (fun n77 m0=>A.uc0 m0 ( A.opt (idS 3 J n62) (fun m1=>A.peek (.lg cc 3 m1) a8 (fun m2=>A.ucI .i64 m2 (fun n81 m3=>A.ucI .u8 m3 (fun n83 m4=>A.ucI .u8 m4 (fun n85 m5=>A.uc0 m5 ( A.callv O [(.agg ⟨[(.int .i64 n73),(.int .u8 n75),(.int .u8 n77)]⟩),(.agg ⟨[(.int .i64 n81),(.int .u8 n83),(.int .u8 n85)]⟩)] [(.leaf (.i .i64))] a8 (fun m6 b3=>A.unI m6 (fun n89 m7=>A.un0 m7 ( A.cmp .lss n89 (.ofNat 0) (fun m8=>A.join (fun m9 n0=>A.unI m9 (fun a9 n1=>A.un0 n1 ( A.call 112 [(.v J),(.i a9),(.i n27),(.i n62),(.v O)] n0 (fun n2 b4=>A.unI n2 (fun a0 o0=>A.unB o0 (fun o1 o2=>A.un0 o2 ( A.ari .sub .i64 a0 a9 (fun n102=>A.ari .sub .i64 n27 a0 (fun n103=>A.ari .quo .i64 n42 (.ofNat 8) (fun n104=>A.cmp .lss n102 n103 (fun o3=>A.join (fun o4 o5=>A.unB o4 (fun o6 o7=>A.unI o7 (fun n110 o8=>A.unI o8 (fun n112 o9=>A.un0 o9 ( V [(.i n51),(.i n110),(.b o1),(.b o6),(.i n112)] o5))))) (fun b6=>A.cond o3 ( A.cmp .geq n102 n104 (fun p0=>A.call 81 [(.v J),(.i a9),(.i a0),(.i n51),(.v O)] b4 (fun p1 p2=>A.un0 p1 ( A.ari .add .i64 a0 (.ofNat 1) (fun n118=>b6 [(.b p0),(.i n118),(.i n27)] p2))))) ( A.cmp .geq n103 n104 (fun p3=>A.ari .add .i64 a0 (.ofNat 1) (fun n120=>A.call 81 [(.v J),(.i n120),(.i n27),(.i n51),(.v O)] b4 (fun p4 p5=>A.un0 p4 ( b6 [(.b p3),(.i a9),(.i a0)] p5))))))))))))))))) (fun p6=>A.cond (!m8) ( A.call 111 [(.v J),(.i n21),(.i n27),(.i n62),(.v O)] b3 (fun p7 p8=>A.unI p7 (fun p9 q0=>A.un0 q0 ( V [(.i n51),(.i p9),(.b a7),(.b a5),(.i n27)] p8)))) ( p6 [(.i n21)] b3)))))))))))))))))))) ( A.call 112 [(.v J),(.i n21),(.i n27),(.i n62),(.v O)] a8 (fun q1 b7=>A.unI q1 (fun n130 q2=>A.unB q2 (fun q3 q4=>A.un0 q4 ( A.ari .sub .i64 n130 n21 (fun b8=>A.ari .sub .i64 n27 n130 (fun b9=>A.ari .quo .i64 n42 (.ofNat 8) (fun c0=>A.cmp .lss b8 b9 (fun q5=>A.join (fun q6 q7=>A.unB q6 (fun q8 q9=>A.unI q9 (fun rT rU=>A.unI rU (fun rW rX=>A.un0 rX ( V [(.i n51),(.i rT),(.b q3),(.b q8),(.i rW)] q7))))) (fun c1=>A.cond q5 ( A.cmp .geq b8 c0 (fun rY=>A.call 81 [(.v J),(.i n21),(.i n130),(.i n51),(.v O)] b7 (fun rZ r1=>A.un0 rZ ( A.ari .add .i64 n130 (.ofNat 1) (fun r2=>c1 [(.b rY),(.i r2),(.i n27)] r1))))) ( A.cmp .geq b9 c0 (fun r3=>A.ari .add .i64 n130 (.ofNat 1) (fun r4=>A.call 81 [(.v J),(.i r4),(.i n27),(.i n51),(.v O)] b7 (fun r5 r6=>A.un0 r5 ( c1 [(.b r3),(.i n21),(.i n130)] r6)))))))))))))))))) (fun d0=>A.cond l3 ( A.call 110 [(.v J),(.i n21),(.i n27),(.v O)] U (fun r7 d1=>A.unB r7 (fun r8 r9=>A.un0 r9 ( A.cond r8 ( K [] d1) ( d0 [] d1))))) ( d0 [] U)))) ( A.cmp .gtr n21 (.ofNat 0) (fun sa=>A.cond sa ( A.ari .sub .i64 n21 (.ofNat 1) (fun sb=>A.opt (idS 3 J sb) (fun sc=>A.peek (.lg cc 3 sc) U (fun sd=>A.ucI .i64 sd (fun se sf=>A.ucI .u8 sf (fun sh si=>A.ucI .u8 si (fun sj sn=>A.uc0 sn ( A.opt (idS 3 J n62) (fun so=>A.peek (.lg cc 3 so) U (fun sq=>A.ucI .i64 sq (fun ss su=>A.ucI .u8 su (fun sw sx=>A.ucI .u8 sx (fun sy sz=>A.uc0 sz ( A.callv O [(.agg ⟨[(.int .i64 se),(.int .u8 sh),(.int .u8 sj)]⟩),(.agg ⟨[(.int .i64 ss),(.int .u8 sw),(.int .u8 sy)]⟩)] [(.leaf (.i .i64))] U (fun sA d2=>A.unI sA (fun sB sC=>A.un0 sC ( A.cmp .lss sB (.ofNat 0) (fun sD=>A.join (fun sE sF=>A.unI sE (fun b0 sG=>A.un0 sG ( A.call 112 [(.v J),(.i b0),(.i n27),(.i n62),(.v O)] sF (fun sH d3=>A.unI sH (fun a1 sI=>A.unB sI (fun sJ sK=>A.un0 sK ( A.ari .sub .i64 a1 b0 (fun d4=>A.ari .sub .i64 n27 a1 (fun d5=>A.ari .quo .i64 n42 (.ofNat 8) (fun d6=>A.cmp .lss d4 d5 (fun sL=>A.join (fun sM sN=>A.unB sM (fun sO sP=>A.unI sP (fun sQ sR=>A.unI sR (fun sS sU=>A.un0 sU ( V [(.i n51),(.i sQ),(.b sJ),(.b sO),(.i sS)] sN))))) (fun d7=>A.cond sL ( A.cmp .geq d4 d6 (fun sV=>A.call 81 [(.v J),(.i b0),(.i a1),(.i n51),(.v O)] d3 (fun sW sX=>A.un0 sW ( A.ari .add .i64 a1 (.ofNat 1) (fun sY=>d7 [(.b sV),(.i sY),(.i n27)] sX))))) ( A.cmp .geq d5 d6 (fun sZ=>A.ari .add .i64 a1 (.ofNat 1) (fun s0=>A.call 81 [(.v J),(.i s0),(.i n27),(.i n51),(.v O)] d3 (fun s1 s2=>A.un0 s1 ( d7 [(.b sZ),(.i b0),(.i a1)] s2))))))))))))))))) (fun s3=>A.cond (!sD) ( A.call 111 [(.v J),(.i n21),(.i n27),(.i n62),(.v O)] d2 (fun s4 s5=>A.unI s4 (fun s6 s7=>A.un0 s7 ( V [(.i n51),(.i s6),(.b a7),(.b a5),(.i n27)] s5)))) ( s3 [(.i n21)] d2)))))))))))))))))))) ( A.call 112 [(.v J),(.i n21),(.i n27),(.i n62),(.v O)] U (fun s8 d8=>A.unI s8 (fun a2 s9=>A.unB s9 (fun ta tb=>A.un0 tb ( A.ari .sub .i64 a2 n21 (fun d9=>A.ari .sub .i64 n27 a2 (fun e0=>A.ari .quo .i64 n42 (.ofNat 8) (fun e1=>A.cmp .lss d9 e0 (fun tc=>A.join (fun td tg=>A.unB td (fun th ti=>A.unI ti (fun tj tn=>A.unI tn (fun tq tr=>A.un0 tr ( V [(.i n51),(.i tj),(.b ta),(.b th),(.i tq)] tg))))) (fun e2=>A.cond tc ( A.cmp .geq d9 e1 (fun tt=>A.call 81 [(.v J),(.i n21),(.i a2),(.i n51),(.v O)] d8 (fun tu tv=>A.un0 tu ( A.ari .add .i64 a2 (.ofNat 1) (fun tw=>e2 [(.b tt),(.i tw),(.i n27)] tv))))) ( A.cmp .geq e0 e1 (fun tx=>A.ari .add .i64 a2 (.ofNat 1) (fun tz=>A.call 81 [(.v J),(.i tz),(.i n27),(.i n51),(.v O)] d8 (fun tA tB=>A.un0 tA ( e2 [(.b tx),(.i n21),(.i a2)] tB)))))))))))))))))) ( A.cmp .gtr n21 (.ofNat 0) (fun tC=>A.cond tC ( A.ari .sub .i64 n21 (.ofNat 1) (fun tD=>A.opt (idS 3 J tD) (fun tE=>A.peek (.lg cc 3 tE) U (fun tF=>A.ucI .i64 tF (fun tG tH=>A.ucI .u8 tH (fun tI tJ=>A.ucI .u8 tJ (fun tK tL=>A.uc0 tL ( A.opt (idS 3 J n62) (fun tM=>A.peek (.lg cc 3 tM) U (fun tN=>A.ucI .i64 tN (fun tO tP=>A.ucI .u8 tP (fun tQ tR=>A.ucI .u8 tR (fun tS tT=>A.uc0 tT ( A.callv O [(.agg ⟨[(.int .i64 tG),(.int .u8 tI),(.int .u8 tK)]⟩),(.agg ⟨[(.int .i64 tO),(.int .u8 tQ),(.int .u8 tS)]⟩)] [(.leaf (.i .i64))] U (fun tU f0=>A.unI tU (fun tV tW=>A.un0 tW ( A.cmp .lss tV (.ofNat 0) (fun tX=>A.join (fun tY tZ=>A.unI tY (fun b1 t0=>A.un0 t0 ( A.call 112 [(.v J),(.i b1),(.i n27),(.i n62),(.v O)] tZ (fun t1 f1=>A.unI t1 (fun a3 t2=>A.unB t2 (fun t3 t4=>A.un0 t4 ( A.ari .sub .i64 a3 b1 (fun f2=>A.ari .sub .i64 n27 a3 (fun gl=>A.ari .quo .i64 n42 (.ofNat 8) (fun g0=>A.cmp .lss f2 gl (fun t5=>A.join (fun t6 t7=>A.unB t6 (fun t8 t9=>A.unI t9 (fun uc ud=>A.unI ud (fun ue uf=>A.un0 uf ( V [(.i n51),(.i uc),(.b t3),(.b t8),(.i ue)] t7))))) (fun g1=>A.cond t5 ( A.cmp .geq f2 g0 (fun ug=>A.call 81 [(.v J),(.i b1),(.i a3),(.i n51),(.v O)] f1 (fun uh ui=>A.un0 uh ( A.ari .add .i64 a3 (.ofNat 1) (fun uj=>g1 [(.b ug),(.i uj),(.i n27)] ui))))) ( A.cmp .geq gl g0 (fun uk=>A.ari .add .i64 a3 (.ofNat 1) (fun ul=>A.call 81 [(.v J),(.i ul),(.i n27),(.i n51),(.v O)] f1 (fun um uo=>A.un0 um ( g1 [(.b uk),(.i b1),(.i a3)] uo))))))))))))))))) (fun uq=>A.cond (!tX) ( A.call 111 [(.v J),(.i n21),(.i n27),(.i n62),(.v O)] f0 (fun ur ut=>A.unI ur (fun uu uv=>A.un0 uv ( V [(.i n51),(.i uu),(.b a7),(.b a5),(.i n27)] ut)))) ( uq [(.i n21)] f0)))))))))))))))))))) ( A.call 112 [(.v J),(.i n21),(.i n27),(.i n62),(.v O)] U (fun uw g2=>A.unI uw (fun a4 ux=>A.unB ux (fun uy uz=>A.un0 uz ( A.ari .sub .i64 a4 n21 (fun g3=>A.ari .sub .i64 n27 a4 (fun g4=>A.ari .quo .i64 n42 (.ofNat 8) (fun g5=>A.cmp .lss g3 g4 (fun uA=>A.join (fun uC uD=>A.unB uC (fun uE uF=>A.unI uF (fun uG uH=>A.unI uH (fun uI uJ=>A.un0 uJ ( V [(.i n51),(.i uG),(.b uy),(.b uE),(.i uI)] uD))))) (fun g6=>A.cond uA ( A.cmp .geq g3 g5 (fun uK=>A.call 81 [(.v J),(.i n21),(.i a4),(.i n51),(.v O)] g2 (fun uL uM=>A.un0 uL ( A.ari .add .i64 a4 (.ofNat 1) (fun uN=>g6 [(.b uK),(.i uN),(.i n27)] uM))))) ( A.cmp .geq g4 g5 (fun uO=>A.ari .add .i64 a4 (.ofNat 1) (fun uP=>A.call 81 [(.v J),(.i uP),(.i n27),(.i n51),(.v O)] g2 (fun uQ uR=>A.un0 uQ ( g6 [(.b uO),(.i n21),(.i a4)] uR))))))))))))))))))))) (fun g7=>A.cond k9 ( A.call 109 [(.v J),(.i n21),(.i n27),(.v O)] b2 (fun uS uT=>A.un0 uS ( A.ari .sub .i64 n27 (.ofNat 1) (fun uU=>A.ari .sub .i64 n55 n21 (fun uV=>A.ari .sub .i64 uU uV (fun uW=>g7 [(.i uW),(.i (.ofNat 1))] uT)))))) ( g7 [(.i n55),(.i n57)] b2)))))))))) (fun g8=>A.cond (!a5) ( A.call 107 [(.v J),(.i n21),(.i n27),(.v O)] a6 (fun uX uY=>A.un0 uX ( A.ari .sub .i64 n19 (.ofNat 1) (fun uZ=>g8 [(.i uZ)] uY)))) ( g8 [(.i n19)] a6))))))))))))))) [(.i n12),(.i n8),(.b true),(.b true),(.i n10)] h))))))
/-- crimp/sheets.Units -/
noncomputable def f82(ls:List Lf)(h:HT)(K:List Lf→HT→R):R:=A.unI ls (fun n6 a0=>A.unI a0 (fun n8 a1=>A.un0 a1 ( A.call 56 [(.i n6),(.i n8)] h (fun a2 O=>A.unI a2 (fun n12 a3=>A.un0 a3 ( A.cmp .neq n12 (.ofNat 0) (fun a4=>A.cond a4 ( K [(.v (.slice none 0 0)),(.i n12)] O) ( A.new (.cells [(.slice none 0 0)] 1 true) O (fun U a5=>A.call 113 [(.i n6),(.i n8)] a5 (fun a6 a7=>A.unV a6 (fun a8 a9=>A.un0 a9 ( A.rfun 1312 a8 [(.pointer (some ⟨U,0,none⟩))] a7 (fun b0 J=>A.pend b0 ( A.peek (.lg cc 1 (.pointer (some ⟨U,0,none⟩))) J (fun b1=>A.ucV b1 (fun V b2=>A.chk V ( A.uc0 b2 ( A.call 85 [(.v V)] J (fun b3 b4=>A.unV b3 (fun b6 b7=>A.un0 b7 ( K [(.v b6),(.i (.ofNat 0))] b4)))))))) ( K [(.v (.slice none 0 0)),(.i (.ofNat 0))] J) [])))))))))))))
/-- crimp/segments.lies -/
noncomputable def f83(ls:List Lf)(h:HT)(K:List Lf→HT→R):R:=A.unI ls (fun n6 J=>A.unI J (fun n8 O=>A.unI O (fun n10 U=>A.unI U (fun n12 V=>A.un0 V ( A.call 114 [(.i n6),(.i n8),(.i n10),(.i n12)] h (fun a0 a1=>A.unI a0 (fun n16 a2=>A.unI a2 (fun n18 a3=>A.unI a3 (fun n20 a4=>A.un0 a4 ( A.call 88 [(.i n6),(.i n8),(.i n10),(.i n12)] a1 (fun a5 a6=>A.unI a5 (fun n24 a7=>A.unI a7 (fun n26 a8=>A.unI a8 (fun n28 a9=>A.unI a9 (fun n30 b0=>A.unI b0 (fun n32 b1=>A.un0 b1 ( A.call 115 [(.i n16),(.i n24),(.i n26)] a6 (fun b2 b3=>A.unI b2 (fun n36 b4=>A.un0 b4 ( A.call 115 [(.i n16),(.i n28),(.i n30)] b3 (fun b6 b7=>A.unI b6 (fun n40 b8=>A.un0 b8 ( K [(.i n16),(.i n18),(.i n36),(.i n40)] b7)))))))))))))))))))))))
/-- crimp/segments.ordinary -/
noncomputable def f84(ls:List Lf)(h:HT)(K:List Lf→HT→R):R:=A.unI ls (fun n6 U=>A.unI U (fun n8 V=>A.unI V (fun n10 a0=>A.unI a0 (fun n12 a1=>A.unI a1 (fun n14 a2=>A.un0 a2 ( A.join (fun a3 a4=>A.unB a3 (fun a5 a6=>A.un0 a6 ( K [(.b a5)] a4))) (fun J=>A.cmp .geq n6 (.ofNat 1) (fun a7=>A.cond a7 ( A.cmp .leq n6 (.ofNat 3) (fun a8=>A.cond a8 ( A.call 116 [(.i n8),(.i n10)] h (fun a9 O=>A.unI a9 (fun n25 b0=>A.un0 b0 ( A.cmp .eql n25 (.ofNat 0) (fun b1=>A.cond b1 ( A.cmp .lss n12 n14 (fun b2=>J [(.b b2)] O)) ( J [(.b false)] O)))))) ( J [(.b false)] h))) ( J [(.b false)] h)))))))))
/-- slices.Clip[[]crimp/sheets.Unit,crimp/sheets.Unit] -/
noncomputable def f85(ls:List Lf)(h:HT)(K:List Lf→HT→R):R:=A.unV ls (fun J U=>A.un0 U ( A.opt (lenS J) (fun V=>A.opt (lenS J) (fun a0=>A.opt (slS 2 J none (some V) (some a0)) (fun O=>A.chk O ( K [(.v O)] h))))))
noncomputable def f86(ls:List Lf)(h:HT)(K:List Lf→HT→R):R:=A.unI ls (fun n6 U=>A.unI U (fun n8 V=>A.un0 V ( A.call 117 [(.i n6)] h (fun a0 a1=>A.unB a0 (fun a2 a3=>A.un0 a3 ( A.call 117 [(.i n8)] a1 (fun a4 J=>A.unB a4 (fun O a5=>A.un0 a5 ( A.cond a2 ( A.cond O ( K [(.i (.ofNat 0))] J) ( K [(.i (.negSucc 0))] J)) ( A.cond O ( K [(.i (.ofNat 1))] J) ( A.cmp .lss n6 n8 (fun a6=>A.cond a6 ( K [(.i (.negSucc 0))] J) ( A.cmp .gtr n6 n8 (fun a7=>A.cond a7 ( K [(.i (.ofNat 1))] J) ( K [(.i (.ofNat 0))] J)))))))))))))))
/-- crimp/cells.Corners -/
noncomputable def f87(ls:List Lf)(h:HT)(K:List Lf→HT→R):R:=A.unI ls (fun n6 U=>A.unI U (fun n8 V=>A.unI V (fun n10 a0=>A.un0 a0 ( A.call 79 [(.i n6),(.i n8),(.i n10)] h (fun a1 J=>A.unI a1 (fun n14 a2=>A.un0 a2 ( A.cmp .neq n14 (.ofNat 0) (fun a3=>A.cond a3 ( K [(.i (.ofNat 0)),(.i (.ofNat 0)),(.i (.ofNat 0)),(.i (.ofNat 0)),(.i (.ofNat 0)),(.i (.ofNat 0)),(.i (.ofNat 1))] J) ( A.opt (inB 4 n10) (fun h9=>A.opt (kK gl2 0 [(n10,17)] 17) (fun a4=>A.ucI .i64 a4 (fun n19 a5=>A.ucI .i64 a5 (fun n21 a6=>A.ucI .u8 a6 (fun n23 a7=>A.ucI .i64 a7 (fun n25 a8=>A.ucI .i64 a8 (fun n27 a9=>A.ucI .i64 a9 (fun n29 b0=>A.ucI .u8 b0 (fun n31 b1=>A.ucI .i64 b1 (fun n33 b2=>A.ucI .i64 b2 (fun n35 b3=>A.ucI .u8 b3 (fun n37 b4=>A.ucI .i64 b4 (fun n39 b6=>A.ucI .i64 b6 (fun n41 b7=>A.ucI .u8 b7 (fun n43 b8=>A.ucI .i64 b8 (fun n45 b9=>A.ucI .i64 b9 (fun n47 c0=>A.ucI .i64 c0 (fun n49 c1=>A.ucI .i64 c1 (fun n51 d0=>A.uc0 d0 ( A.loop (fun d1 d2 O=>A.unI d2 (fun n56 d3=>A.unI d3 (fun n58 d4=>A.unI d4 (fun n60 d5=>A.unI d5 (fun n62 d6=>A.unI d6 (fun n64 d7=>A.unI d7 (fun n66 d8=>A.unI d8 (fun n68 d9=>A.un0 d9 ( A.cmp .lss n56 (.ofNat 3) (fun e0=>A.cond e0 ( A.opt (inB 3 n56) (fun i0=>A.opt (bo [(.i n58),(.i n60),(.i n62),(.i n64),(.i n66),(.i n68)] 0 [(n56,2)] 1) (fun e1=>A.unI e1 (fun n73 e2=>A.un0 e2 ( A.ari .mul .i64 (.ofNat 2) n6 (fun n75=>A.ari .add .i64 n73 n75 (fun n76=>A.opt (inB 3 n56) (fun i1=>A.opt (putL [(.i n58),(.i n60),(.i n62),(.i n64),(.i n66),(.i n68)] 0 [(n56,2)] [(.i n76)]) (fun f0=>A.unI f0 (fun n79 f1=>A.unI f1 (fun n81 f2=>A.unI f2 (fun n83 gl=>A.unI gl (fun n85 g0=>A.unI g0 (fun n87 g1=>A.unI g1 (fun n89 g2=>A.un0 g2 ( A.opt (inB 3 n56) (fun i2=>A.opt (bo [(.i n79),(.i n81),(.i n83),(.i n85),(.i n87),(.i n89)] 1 [(n56,2)] 1) (fun g3=>A.unI g3 (fun n93 g4=>A.un0 g4 ( A.ari .mul .i64 (.ofNat 2) n8 (fun g5=>A.ari .add .i64 n93 g5 (fun g6=>A.opt (inB 3 n56) (fun j0=>A.opt (putL [(.i n79),(.i n81),(.i n83),(.i n85),(.i n87),(.i n89)] 1 [(n56,2)] [(.i g6)]) (fun g7=>A.unI g7 (fun g8 g9=>A.unI g9 (fun h0 h1=>A.unI h1 (fun n103 h2=>A.unI h2 (fun n105 h3=>A.unI h3 (fun h4 h5=>A.unI h5 (fun h6 h7=>A.un0 h7 ( A.ari .add .i64 n56 (.ofNat 1) (fun h8=>d1 [(.i h8),(.i g8),(.i h0),(.i n103),(.i n105),(.i h4),(.i h6)] O)))))))))))))))))))))))))))))))) ( K [(.i n58),(.i n60),(.i n62),(.i n64),(.i n66),(.i n68),(.i (.ofNat 0))] O))))))))))) [(.i (.ofNat 0)),(.i (.ofNat 1)),(.i (.ofNat 1)),(.i n45),(.i n47),(.i n49),(.i n51)] J)))))))))))))))))))))))))))))
/-- crimp/sheets.Ends -/
noncomputable def f88(ls:List Lf)(h:HT)(K:List Lf→HT→R):R:=A.unI ls (fun n6 V=>A.unI V (fun n8 a0=>A.unI a0 (fun n10 a1=>A.unI a1 (fun n12 a2=>A.un0 a2 ( A.call 118 [(.i n6),(.i n8),(.i n10),(.i n12)] h (fun a3 O=>A.unI a3 (fun n16 a4=>A.unI a4 (fun n18 a5=>A.unI a5 (fun n20 a6=>A.unI a6 (fun n22 a7=>A.un0 a7 ( A.cmp .neq n22 (.ofNat 0) (fun a8=>A.cond a8 ( K [(.i (.ofNat 0)),(.i (.ofNat 0)),(.i (.ofNat 0)),(.i (.ofNat 0)),(.i n22)] O) ( A.call 87 [(.i n16),(.i n18),(.i n20)] O (fun a9 J=>A.unI a9 (fun n27 b0=>A.unI b0 (fun n29 b1=>A.unI b1 (fun n31 b2=>A.unI b2 (fun n33 b3=>A.unI b3 (fun n35 b4=>A.unI b4 (fun n37 b6=>A.unI b6 (fun n39 b7=>A.un0 b7 ( A.ari .add .u8 n12 (.ofNat 1) (fun n41=>A.ari .rem .u8 n41 (.ofNat 3) (fun n42=>A.opt (inB 3 n42) (fun e1=>A.opt (bo [(.i n27),(.i n29),(.i n31),(.i n33),(.i n35),(.i n37)] 0 [(n42,2)] 2) (fun b8=>A.unI b8 (fun n45 b9=>A.unI b9 (fun n47 c0=>A.un0 c0 ( A.ari .add .u8 n12 (.ofNat 2) (fun n49=>A.ari .rem .u8 n49 (.ofNat 3) (fun n50=>A.opt (inB 3 n50) (fun e2=>A.opt (bo [(.i n27),(.i n29),(.i n31),(.i n33),(.i n35),(.i n37)] 0 [(n50,2)] 2) (fun c1=>A.unI c1 (fun n53 d0=>A.unI d0 (fun n55 d1=>A.un0 d1 ( A.cmp .lss n53 n45 (fun d2=>A.cond d2 ( K [(.i n53),(.i n55),(.i n45),(.i n47),(.i (.ofNat 0))] J) ( A.cmp .eql n53 n45 (fun d3=>A.cond d3 ( A.cmp .lss n55 n47 (fun d4=>A.join (fun d5 d6=>A.unI d5 (fun n62 d7=>A.unI d7 (fun n64 d8=>A.unI d8 (fun n66 d9=>A.unI d9 (fun n68 e0=>A.un0 e0 ( K [(.i n62),(.i n64),(.i n66),(.i n68),(.i (.ofNat 0))] d6)))))) (fun U=>A.cond d4 ( U [(.i n53),(.i n55),(.i n45),(.i n47)] J) ( U [(.i n45),(.i n47),(.i n53),(.i n55)] J)))) ( K [(.i n45),(.i n47),(.i n53),(.i n55),(.i (.ofNat 0))] J))))))))))))))))))))))))))))))))))))))))
/-- crimp/corners.sign -/
noncomputable def f89(ls:List Lf)(h:HT)(K:List Lf→HT→R):R:=A.unI ls (fun n6 J=>A.un0 J ( A.cmp .lss n6 (.negSucc 0) (fun O=>A.sel O (.negSucc 0) n6 (fun n9=>A.cmp .lss (.ofNat 1) n9 (fun U=>A.sel U (.ofNat 1) n9 (fun n11=>K [(.i n11)] h))))))
/-- slices.Index[[]crimp/api.Point,crimp/api.Point] -/
noncomputable def f90(ls:List Lf)(h:HT)(K:List Lf→HT→R):R:=A.unV ls (fun O U=>A.unI U (fun n8 V=>A.unI V (fun n10 a0=>A.un0 a0 ( A.opt (lenS O) (fun a1=>A.loop (fun a2 a3 J=>A.unI a3 (fun n16 a4=>A.un0 a4 ( A.cmp .lss n16 a1 (fun a5=>A.cond a5 ( A.opt (idS 2 O n16) (fun a6=>A.peek (.lg cc 2 a6) J (fun a7=>A.ucI .i64 a7 (fun n21 a8=>A.ucI .i64 a8 (fun n23 a9=>A.uc0 a9 ( A.eqs [((.i n8),(.i n21)),((.i n10),(.i n23))] (fun b0=>A.cond b0 ( K [(.i n16)] J) ( A.ari .add .i64 n16 (.ofNat 1) (fun n26=>a2 [(.i n26)] J))))))))) ( K [(.i (.negSucc 0))] J))))) [(.i (.ofNat 0))] h)))))
/-- slices.IndexFunc[[]crimp/patterns.Crease,crimp/patterns.Crease] -/
noncomputable def f91(ls:List Lf)(h:HT)(K:List Lf→HT→R):R:=A.unV ls (fun O V=>A.unV V (fun a0 a1=>A.un0 a1 ( A.opt (lenS O) (fun a2=>A.loop (fun a3 a4 J=>A.unI a4 (fun n14 a5=>A.un0 a5 ( A.cmp .lss n14 a2 (fun a6=>A.cond a6 ( A.opt (idS 3 O n14) (fun a7=>A.peek (.lg cc 3 a7) J (fun a8=>A.ucI .i64 a8 (fun n19 a9=>A.ucI .u8 a9 (fun n21 b0=>A.ucI .u8 b0 (fun n23 b1=>A.uc0 b1 ( A.callv a0 [(.agg ⟨[(.int .i64 n19),(.int .u8 n21),(.int .u8 n23)]⟩)] [(.leaf .b)] J (fun b2 U=>A.unB b2 (fun b3 b4=>A.un0 b4 ( A.cond b3 ( K [(.i n14)] U) ( A.ari .add .i64 n14 (.ofNat 1) (fun n29=>a3 [(.i n29)] U)))))))))))) ( K [(.i (.negSucc 0))] J))))) [(.i (.ofNat 0))] h))))
/-- crimp/patterns.find -/
noncomputable def f92(ls:List Lf)(h:HT)(K:List Lf→HT→R):R:=A.unV ls (fun J O=>A.unI O (fun n8 U=>A.unI U (fun n10 V=>A.un0 V ( A.call 119 [(.v J),(.i n8),(.i n10),(.v (.func (.func 120) ⟨[]⟩ ⟨[]⟩))] h (fun a0 a1=>A.unI a0 (fun n14 a2=>A.unB a2 (fun a3 a4=>A.un0 a4 ( K [(.i n14),(.b a3)] a1))))))))
/-- slices.insertionSortCmpFunc[crimp/corners.Ray] -/
noncomputable def f93(ls:List Lf)(h:HT)(K:List Lf→HT→R):R:=A.unV ls (fun J a1=>A.unI a1 (fun n8 a2=>A.unI a2 (fun n10 a3=>A.unV a3 (fun a4 a5=>A.un0 a5 ( A.ari .add .i64 n8 (.ofNat 1) (fun n14=>A.loop (fun a6 a7 V=>A.unI a7 (fun n18 a8=>A.un0 a8 ( A.cmp .lss n18 n10 (fun a9=>A.cond a9 ( A.join (fun b0 b1=>A.un0 b0 ( A.ari .add .i64 n18 (.ofNat 1) (fun n23=>a6 [(.i n23)] b1))) (fun a0=>A.loop (fun b2 b3 O=>A.unI b3 (fun n28 b4=>A.un0 b4 ( A.cmp .gtr n28 n8 (fun b6=>A.cond b6 ( A.opt (idS 2 J n28) (fun b7=>A.peek (.lg cc 2 b7) O (fun b8=>A.ucI .i64 b8 (fun n33 b9=>A.ucI .u8 b9 (fun n35 c0=>A.uc0 c0 ( A.ari .sub .i64 n28 (.ofNat 1) (fun n37=>A.opt (idS 2 J n37) (fun c1=>A.peek (.lg cc 2 c1) O (fun d0=>A.ucI .i64 d0 (fun n40 d1=>A.ucI .u8 d1 (fun n42 d2=>A.uc0 d2 ( A.callv a4 [(.agg ⟨[(.int .i64 n33),(.int .u8 n35)]⟩),(.agg ⟨[(.int .i64 n40),(.int .u8 n42)]⟩)] [(.leaf (.i .i64))] O (fun d3 U=>A.unI d3 (fun n46 d4=>A.un0 d4 ( A.cmp .lss n46 (.ofNat 0) (fun d5=>A.cond d5 ( A.ari .sub .i64 n28 (.ofNat 1) (fun n49=>A.ari .sub .i64 n28 (.ofNat 1) (fun n50=>A.opt (idS 2 J n50) (fun d6=>A.peek (.lg cc 2 d6) U (fun d7=>A.ucI .i64 d7 (fun n53 d8=>A.ucI .u8 d8 (fun n55 d9=>A.uc0 d9 ( A.opt (idS 2 J n28) (fun e0=>A.peek (.lg cc 2 e0) U (fun e1=>A.ucI .i64 e1 (fun n59 e2=>A.ucI .u8 e2 (fun n61 f0=>A.uc0 f0 ( A.opt (idS 2 J n28) (fun f1=>A.heap (.st f1 [(.int .i64 n53),(.int .u8 n55)]) U (fun g1 f2=>A.opt (idS 2 J n49) (fun gl=>A.heap (.st gl [(.int .i64 n59),(.int .u8 n61)]) f2 (fun g2 g0=>A.ari .sub .i64 n28 (.ofNat 1) (fun n69=>b2 [(.i n69)] g0)))))))))))))))))) ( a0 [] U))))))))))))))))) ( a0 [] O))))) [(.i n18)] V)) ( K [] V))))) [(.i n14)] h))))))
/-- math/bits.Len64 -/
noncomputable def f102(ls:List Lf)(h:HT)(K:List Lf→HT→R):R:=A.unI ls (fun n6 a1=>A.un0 a1 ( A.cmp .geq n6 (.ofNat 4294967296) (fun a2=>A.join (fun a3 J=>A.unI a3 (fun n11 a4=>A.unI a4 (fun n13 a5=>A.un0 a5 ( A.cmp .geq n11 (.ofNat 65536) (fun a6=>A.join (fun a7 O=>A.unI a7 (fun n18 a8=>A.unI a8 (fun n20 a9=>A.un0 a9 ( A.cmp .geq n18 (.ofNat 256) (fun b0=>A.join (fun b1 b2=>A.unI b1 (fun n25 b3=>A.unI b3 (fun n27 b4=>A.un0 b4 ( A.conv .u8 n25 (fun n29=>A.opt (strAt (.mk ⟨[.ofNat 0,.ofNat 1,.ofNat 2,.ofNat 2,.ofNat 3,.ofNat 3,.ofNat 3,.ofNat 3,.ofNat 4,.ofNat 4,.ofNat 4,.ofNat 4,.ofNat 4,.ofNat 4,.ofNat 4,.ofNat 4,.ofNat 5,.ofNat 5,.ofNat 5,.ofNat 5,.ofNat 5,.ofNat 5,.ofNat 5,.ofNat 5,.ofNat 5,.ofNat 5,.ofNat 5,.ofNat 5,.ofNat 5,.ofNat 5,.ofNat 5,.ofNat 5,.ofNat 6,.ofNat 6,.ofNat 6,.ofNat 6,.ofNat 6,.ofNat 6,.ofNat 6,.ofNat 6,.ofNat 6,.ofNat 6,.ofNat 6,.ofNat 6,.ofNat 6,.ofNat 6,.ofNat 6,.ofNat 6,.ofNat 6,.ofNat 6,.ofNat 6,.ofNat 6,.ofNat 6,.ofNat 6,.ofNat 6,.ofNat 6,.ofNat 6,.ofNat 6,.ofNat 6,.ofNat 6,.ofNat 6,.ofNat 6,.ofNat 6,.ofNat 6,.ofNat 7,.ofNat 7,.ofNat 7,.ofNat 7,.ofNat 7,.ofNat 7,.ofNat 7,.ofNat 7,.ofNat 7,.ofNat 7,.ofNat 7,.ofNat 7,.ofNat 7,.ofNat 7,.ofNat 7,.ofNat 7,.ofNat 7,.ofNat 7,.ofNat 7,.ofNat 7,.ofNat 7,.ofNat 7,.ofNat 7,.ofNat 7,.ofNat 7,.ofNat 7,.ofNat 7,.ofNat 7,.ofNat 7,.ofNat 7,.ofNat 7,.ofNat 7,.ofNat 7,.ofNat 7,.ofNat 7,.ofNat 7,.ofNat 7,.ofNat 7,.ofNat 7,.ofNat 7,.ofNat 7,.ofNat 7,.ofNat 7,.ofNat 7,.ofNat 7,.ofNat 7,.ofNat 7,.ofNat 7,.ofNat 7,.ofNat 7,.ofNat 7,.ofNat 7,.ofNat 7,.ofNat 7,.ofNat 7,.ofNat 7,.ofNat 7,.ofNat 7,.ofNat 7,.ofNat 7,.ofNat 7,.ofNat 7,.ofNat 7,.ofNat 7,.ofNat 8,.ofNat 8,.ofNat 8,.ofNat 8,.ofNat 8,.ofNat 8,.ofNat 8,.ofNat 8,.ofNat 8,.ofNat 8,.ofNat 8,.ofNat 8,.ofNat 8,.ofNat 8,.ofNat 8,.ofNat 8,.ofNat 8,.ofNat 8,.ofNat 8,.ofNat 8,.ofNat 8,.ofNat 8,.ofNat 8,.ofNat 8,.ofNat 8,.ofNat 8,.ofNat 8,.ofNat 8,.ofNat 8,.ofNat 8,.ofNat 8,.ofNat 8,.ofNat 8,.ofNat 8,.ofNat 8,.ofNat 8,.ofNat 8,.ofNat 8,.ofNat 8,.ofNat 8,.ofNat 8,.ofNat 8,.ofNat 8,.ofNat 8,.ofNat 8,.ofNat 8,.ofNat 8,.ofNat 8,.ofNat 8,.ofNat 8,.ofNat 8,.ofNat 8,.ofNat 8,.ofNat 8,.ofNat 8,.ofNat 8,.ofNat 8,.ofNat 8,.ofNat 8,.ofNat 8,.ofNat 8,.ofNat 8,.ofNat 8,.ofNat 8,.ofNat 8,.ofNat 8,.ofNat 8,.ofNat 8,.ofNat 8,.ofNat 8,.ofNat 8,.ofNat 8,.ofNat 8,.ofNat 8,.ofNat 8,.ofNat 8,.ofNat 8,.ofNat 8,.ofNat 8,.ofNat 8,.ofNat 8,.ofNat 8,.ofNat 8,.ofNat 8,.ofNat 8,.ofNat 8,.ofNat 8,.ofNat 8,.ofNat 8,.ofNat 8,.ofNat 8,.ofNat 8,.ofNat 8,.ofNat 8,.ofNat 8,.ofNat 8,.ofNat 8,.ofNat 8,.ofNat 8,.ofNat 8,.ofNat 8,.ofNat 8,.ofNat 8,.ofNat 8,.ofNat 8,.ofNat 8,.ofNat 8,.ofNat 8,.ofNat 8,.ofNat 8,.ofNat 8,.ofNat 8,.ofNat 8,.ofNat 8,.ofNat 8,.ofNat 8,.ofNat 8,.ofNat 8,.ofNat 8,.ofNat 8,.ofNat 8,.ofNat 8,.ofNat 8,.ofNat 8,.ofNat 8,.ofNat 8,.ofNat 8,.ofNat 8]⟩) n29) (fun b6=>A.conv .i64 b6 (fun n31=>A.ari .add .i64 n27 n31 (fun n32=>K [(.i n32)] b2)))))))) (fun U=>A.cond b0 ( A.shf .shr .u64 n18 .u64 (.ofNat 8) (fun n34=>A.ari .add .i64 n20 (.ofNat 8) (fun n35=>U [(.i n34),(.i n35)] O))) ( U [(.i n18),(.i n20)] O))))))) (fun V=>A.cond a6 ( A.shf .shr .u64 n11 .u64 (.ofNat 16) (fun n37=>A.ari .add .i64 n13 (.ofNat 16) (fun n38=>V [(.i n37),(.i n38)] J))) ( V [(.i n11),(.i n13)] J))))))) (fun a0=>A.cond a2 ( A.shf .shr .u64 n6 .u64 (.ofNat 32) (fun n40=>a0 [(.i n40),(.i (.ofNat 32))] h)) ( a0 [(.i n6),(.i (.ofNat 0))] h)))))
/-- crimp/crimpref01.Across -/
noncomputable def f103(ls:List Lf)(h:HT)(K:List Lf→HT→R):R:=A.unI ls (fun n6 J=>A.un0 J ( A.cmp .eql n6 (.ofNat 1) (fun O=>A.cond O ( K [(.i (.ofNat 1)),(.i (.ofNat 0))] h) ( A.cmp .eql n6 (.ofNat 2) (fun U=>A.cond U ( K [(.i (.ofNat 0)),(.i (.ofNat 1))] h) ( A.cmp .eql n6 (.ofNat 3) (fun V=>A.cond V ( K [(.i (.ofNat 1)),(.i (.ofNat 1))] h) ( K [(.i (.negSucc 0)),(.i (.ofNat 1))] h))))))))
/-- crimp/crimpref01.Far -/
noncomputable def f104(ls:List Lf)(h:HT)(K:List Lf→HT→R):R:=A.unI ls (fun n6 J=>A.unI J (fun n8 O=>A.unI O (fun n10 U=>A.unI U (fun n12 V=>A.un0 V ( A.call 103 [(.i n6)] h (fun a0 a1=>A.unI a0 (fun n16 a2=>A.unI a2 (fun n18 a3=>A.un0 a3 ( A.ari .mul .i64 n16 n10 (fun n20=>A.ari .mul .i64 n18 n12 (fun n21=>A.ari .add .i64 n20 n21 (fun n22=>A.ari .mul .i64 (.ofNat 2) n8 (fun n23=>A.ari .sub .i64 n22 n23 (fun n24=>K [(.i n24)] a1))))))))))))))
/-- slices.insertionSortCmpFunc[crimp/patterns.Crease] -/
noncomputable def f105(ls:List Lf)(h:HT)(K:List Lf→HT→R):R:=A.unV ls (fun J a1=>A.unI a1 (fun n8 a2=>A.unI a2 (fun n10 a3=>A.unV a3 (fun a4 a5=>A.un0 a5 ( A.ari .add .i64 n8 (.ofNat 1) (fun n14=>A.loop (fun a6 a7 V=>A.unI a7 (fun n18 a8=>A.un0 a8 ( A.cmp .lss n18 n10 (fun a9=>A.cond a9 ( A.join (fun b0 b1=>A.un0 b0 ( A.ari .add .i64 n18 (.ofNat 1) (fun n23=>a6 [(.i n23)] b1))) (fun a0=>A.loop (fun b2 b3 O=>A.unI b3 (fun n28 b4=>A.un0 b4 ( A.cmp .gtr n28 n8 (fun b6=>A.cond b6 ( A.opt (idS 3 J n28) (fun b7=>A.peek (.lg cc 3 b7) O (fun b8=>A.ucI .i64 b8 (fun n33 b9=>A.ucI .u8 b9 (fun n35 c0=>A.ucI .u8 c0 (fun n37 c1=>A.uc0 c1 ( A.ari .sub .i64 n28 (.ofNat 1) (fun n39=>A.opt (idS 3 J n39) (fun d0=>A.peek (.lg cc 3 d0) O (fun d1=>A.ucI .i64 d1 (fun n42 d2=>A.ucI .u8 d2 (fun n44 d3=>A.ucI .u8 d3 (fun n46 d4=>A.uc0 d4 ( A.callv a4 [(.agg ⟨[(.int .i64 n33),(.int .u8 n35),(.int .u8 n37)]⟩),(.agg ⟨[(.int .i64 n42),(.int .u8 n44),(.int .u8 n46)]⟩)] [(.leaf (.i .i64))] O (fun d5 U=>A.unI d5 (fun n50 d6=>A.un0 d6 ( A.cmp .lss n50 (.ofNat 0) (fun d7=>A.cond d7 ( A.ari .sub .i64 n28 (.ofNat 1) (fun n53=>A.ari .sub .i64 n28 (.ofNat 1) (fun n54=>A.opt (idS 3 J n54) (fun d8=>A.peek (.lg cc 3 d8) U (fun d9=>A.ucI .i64 d9 (fun n57 e0=>A.ucI .u8 e0 (fun n59 e1=>A.ucI .u8 e1 (fun n61 e2=>A.uc0 e2 ( A.opt (idS 3 J n28) (fun f0=>A.peek (.lg cc 3 f0) U (fun f1=>A.ucI .i64 f1 (fun n65 f2=>A.ucI .u8 f2 (fun n67 gl=>A.ucI .u8 gl (fun n69 g0=>A.uc0 g0 ( A.opt (idS 3 J n28) (fun g1=>A.heap (.st g1 [(.int .i64 n57),(.int .u8 n59),(.int .u8 n61)]) U (fun g5 g2=>A.opt (idS 3 J n53) (fun g3=>A.heap (.st g3 [(.int .i64 n65),(.int .u8 n67),(.int .u8 n69)]) g2 (fun g6 g4=>A.ari .sub .i64 n28 (.ofNat 1) (fun n77=>b2 [(.i n77)] g4)))))))))))))))))))) ( a0 [] U))))))))))))))))))) ( a0 [] O))))) [(.i n18)] V)) ( K [] V))))) [(.i n14)] h))))))
/-- slices.choosePivotCmpFunc[crimp/patterns.Crease] -/
noncomputable def f108(ls:List Lf)(h:HT)(K:List Lf→HT→R):R:=A.unV ls (fun O a3=>A.unI a3 (fun n8 a4=>A.unI a4 (fun n10 a5=>A.unV a5 (fun U a6=>A.un0 a6 ( A.ari .sub .i64 n10 n8 (fun n14=>A.new (.cells [(.int .i64 (.ofNat 0))] 1 true) h (fun J a0=>A.ari .quo .i64 n14 (.ofNat 4) (fun n17=>A.ari .mul .i64 n17 (.ofNat 1) (fun n18=>A.ari .add .i64 n8 n18 (fun n19=>A.ari .quo .i64 n14 (.ofNat 4) (fun n20=>A.ari .mul .i64 n20 (.ofNat 2) (fun n21=>A.ari .add .i64 n8 n21 (fun n22=>A.ari .quo .i64 n14 (.ofNat 4) (fun n23=>A.ari .mul .i64 n23 (.ofNat 3) (fun n24=>A.ari .add .i64 n8 n24 (fun n25=>A.cmp .geq n14 (.ofNat 8) (fun a7=>A.join (fun a8 V=>A.unI a8 (fun n29 a9=>A.un0 a9 ( A.peek (.lg cc 1 (.pointer (some ⟨J,0,none⟩))) V (fun b0=>A.ucI .i64 b0 (fun n32 b1=>A.uc0 b1 ( A.cmp .eql n32 (.ofNat 0) (fun b2=>A.cond b2 ( K [(.i n29),(.i (.ofNat 1))] V) ( A.cmp .eql n32 (.ofNat 12) (fun b3=>A.cond b3 ( K [(.i n29),(.i (.ofNat 2))] V) ( K [(.i n29),(.i (.ofNat 0))] V)))))))))) (fun a1=>A.cond a7 ( A.cmp .geq n14 (.ofNat 50) (fun b4=>A.join (fun b6 b7=>A.unI b6 (fun n40 b8=>A.unI b8 (fun n42 b9=>A.unI b9 (fun n44 c0=>A.un0 c0 ( A.call 128 [(.v O),(.i n40),(.i n42),(.i n44),(.v (.pointer (some ⟨J,0,none⟩))),(.v U)] b7 (fun c1 d0=>A.unI c1 (fun n48 d1=>A.un0 d1 ( a1 [(.i n48)] d0)))))))) (fun a2=>A.cond b4 ( A.call 127 [(.v O),(.i n19),(.v (.pointer (some ⟨J,0,none⟩))),(.v U)] a0 (fun d2 d3=>A.unI d2 (fun n53 d4=>A.un0 d4 ( A.call 127 [(.v O),(.i n22),(.v (.pointer (some ⟨J,0,none⟩))),(.v U)] d3 (fun d5 d6=>A.unI d5 (fun n57 d7=>A.un0 d7 ( A.call 127 [(.v O),(.i n25),(.v (.pointer (some ⟨J,0,none⟩))),(.v U)] d6 (fun d8 d9=>A.unI d8 (fun n61 e0=>A.un0 e0 ( a2 [(.i n53),(.i n57),(.i n61)] d9)))))))))) ( a2 [(.i n19),(.i n22),(.i n25)] a0)))) ( a1 [(.i n22)] a0)))))))))))))))))))
/-- slices.partialInsertionSortCmpFunc[crimp/patterns.Crease] -/
noncomputable def f110(ls:List Lf)(h:HT)(K:List Lf→HT→R):R:=A.unV ls (fun J b4=>A.unI b4 (fun n8 b6=>A.unI b6 (fun n10 b7=>A.unV b7 (fun a4 b8=>A.un0 b8 ( A.ari .add .i64 n8 (.ofNat 1) (fun n14=>A.loop (fun b9 c0 a5=>A.unI c0 (fun n18 c1=>A.unI c1 (fun n20 d0=>A.un0 d0 ( A.cmp .lss n20 (.ofNat 5) (fun d1=>A.cond d1 ( A.join (fun d2 U=>A.unI d2 (fun n25 d3=>A.un0 d3 ( A.cmp .eql n25 n10 (fun d4=>A.cond d4 ( K [(.b true)] U) ( A.ari .sub .i64 n10 n8 (fun n28=>A.cmp .lss n28 (.ofNat 50) (fun d5=>A.cond d5 ( K [(.b false)] U) ( A.ari .sub .i64 n25 (.ofNat 1) (fun n30=>A.ari .sub .i64 n25 (.ofNat 1) (fun n31=>A.opt (idS 3 J n31) (fun d6=>A.peek (.lg cc 3 d6) U (fun d7=>A.ucI .i64 d7 (fun n34 d8=>A.ucI .u8 d8 (fun n36 d9=>A.ucI .u8 d9 (fun n38 e0=>A.uc0 e0 ( A.opt (idS 3 J n25) (fun e1=>A.peek (.lg cc 3 e1) U (fun e2=>A.ucI .i64 e2 (fun n42 f0=>A.ucI .u8 f0 (fun n44 f1=>A.ucI .u8 f1 (fun n46 f2=>A.uc0 f2 ( A.opt (idS 3 J n25) (fun gl=>A.heap (.st gl [(.int .i64 n34),(.int .u8 n36),(.int .u8 n38)]) U (fun sn g0=>A.opt (idS 3 J n30) (fun g1=>A.heap (.st g1 [(.int .i64 n42),(.int .u8 n44),(.int .u8 n46)]) g0 (fun so a6=>A.ari .sub .i64 n25 n8 (fun n54=>A.cmp .geq n54 (.ofNat 2) (fun g2=>A.join (fun g3 a7=>A.un0 g3 ( A.ari .sub .i64 n10 n25 (fun n58=>A.cmp .geq n58 (.ofNat 2) (fun g4=>A.join (fun g5 g6=>A.un0 g5 ( A.ari .add .i64 n20 (.ofNat 1) (fun n62=>b9 [(.i n25),(.i n62)] g6))) (fun a8=>A.cond g4 ( A.ari .add .i64 n25 (.ofNat 1) (fun n64=>A.join (fun g7 g8=>A.un0 g7 ( a8 [] g8)) (fun a9=>A.loop (fun g9 h0 V=>A.unI h0 (fun n71 h1=>A.un0 h1 ( A.cmp .lss n71 n10 (fun h2=>A.cond h2 ( A.opt (idS 3 J n71) (fun h3=>A.peek (.lg cc 3 h3) V (fun h4=>A.ucI .i64 h4 (fun n76 h5=>A.ucI .u8 h5 (fun n78 h6=>A.ucI .u8 h6 (fun n80 h7=>A.uc0 h7 ( A.ari .sub .i64 n71 (.ofNat 1) (fun n82=>A.opt (idS 3 J n82) (fun h8=>A.peek (.lg cc 3 h8) V (fun h9=>A.ucI .i64 h9 (fun n85 i0=>A.ucI .u8 i0 (fun n87 i1=>A.ucI .u8 i1 (fun n89 i2=>A.uc0 i2 ( A.callv a4 [(.agg ⟨[(.int .i64 n76),(.int .u8 n78),(.int .u8 n80)]⟩),(.agg ⟨[(.int .i64 n85),(.int .u8 n87),(.int .u8 n89)]⟩)] [(.leaf (.i .i64))] V (fun j0 a0=>A.unI j0 (fun n93 j1=>A.un0 j1 ( A.cmp .lss n93 (.ofNat 0) (fun j2=>A.cond (!j2) ( a9 [] a0) ( A.ari .sub .i64 n71 (.ofNat 1) (fun j3=>A.ari .sub .i64 n71 (.ofNat 1) (fun j4=>A.opt (idS 3 J j4) (fun j5=>A.peek (.lg cc 3 j5) a0 (fun j6=>A.ucI .i64 j6 (fun j7 j8=>A.ucI .u8 j8 (fun n102 j9=>A.ucI .u8 j9 (fun n104 k0=>A.uc0 k0 ( A.opt (idS 3 J n71) (fun k1=>A.peek (.lg cc 3 k1) a0 (fun k2=>A.ucI .i64 k2 (fun n108 k3=>A.ucI .u8 k3 (fun n110 k4=>A.ucI .u8 k4 (fun n112 k5=>A.uc0 k5 ( A.opt (idS 3 J n71) (fun k6=>A.heap (.st k6 [(.int .i64 j7),(.int .u8 n102),(.int .u8 n104)]) a0 (fun sq k7=>A.opt (idS 3 J j3) (fun k8=>A.heap (.st k8 [(.int .i64 n108),(.int .u8 n110),(.int .u8 n112)]) k7 (fun ss k9=>A.ari .add .i64 n71 (.ofNat 1) (fun n120=>g9 [(.i n120)] k9)))))))))))))))))))))))))))))))))))))) ( a9 [] V))))) [(.i n64)] a7))) ( a8 [] a7)))))) (fun b0=>A.cond g2 ( A.ari .sub .i64 n25 (.ofNat 1) (fun l0=>A.join (fun l1 l2=>A.un0 l1 ( b0 [] l2)) (fun b1=>A.loop (fun l3 l4 a1=>A.unI l4 (fun n129 l5=>A.un0 l5 ( A.cmp .geq n129 (.ofNat 1) (fun l6=>A.cond l6 ( A.opt (idS 3 J n129) (fun l7=>A.peek (.lg cc 3 l7) a1 (fun l8=>A.ucI .i64 l8 (fun l9 m0=>A.ucI .u8 m0 (fun m1 m2=>A.ucI .u8 m2 (fun m3 m4=>A.uc0 m4 ( A.ari .sub .i64 n129 (.ofNat 1) (fun m5=>A.opt (idS 3 J m5) (fun m6=>A.peek (.lg cc 3 m6) a1 (fun m7=>A.ucI .i64 m7 (fun m8 m9=>A.ucI .u8 m9 (fun n0 n1=>A.ucI .u8 n1 (fun n2 o0=>A.uc0 o0 ( A.callv a4 [(.agg ⟨[(.int .i64 l9),(.int .u8 m1),(.int .u8 m3)]⟩),(.agg ⟨[(.int .i64 m8),(.int .u8 n0),(.int .u8 n2)]⟩)] [(.leaf (.i .i64))] a1 (fun o1 a2=>A.unI o1 (fun o2 o3=>A.un0 o3 ( A.cmp .lss o2 (.ofNat 0) (fun o4=>A.cond (!o4) ( b1 [] a2) ( A.ari .sub .i64 n129 (.ofNat 1) (fun o5=>A.ari .sub .i64 n129 (.ofNat 1) (fun o6=>A.opt (idS 3 J o6) (fun o7=>A.peek (.lg cc 3 o7) a2 (fun o8=>A.ucI .i64 o8 (fun o9 p0=>A.ucI .u8 p0 (fun p1 p2=>A.ucI .u8 p2 (fun p3 p4=>A.uc0 p4 ( A.opt (idS 3 J n129) (fun p5=>A.peek (.lg cc 3 p5) a2 (fun p6=>A.ucI .i64 p6 (fun p7 p8=>A.ucI .u8 p8 (fun p9 q0=>A.ucI .u8 q0 (fun q1 q2=>A.uc0 q2 ( A.opt (idS 3 J n129) (fun q3=>A.heap (.st q3 [(.int .i64 o9),(.int .u8 p1),(.int .u8 p3)]) a2 (fun su q4=>A.opt (idS 3 J o5) (fun q5=>A.heap (.st q5 [(.int .i64 p7),(.int .u8 p9),(.int .u8 q1)]) q4 (fun sw q6=>A.ari .sub .i64 n129 (.ofNat 1) (fun q7=>l3 [(.i q7)] q6)))))))))))))))))))))))))))))))))))))) ( b1 [] a1))))) [(.i l0)] a6))) ( b0 [] a6)))))))))))))))))))))))))))))) (fun b2=>A.loop (fun q8 q9 a3=>A.unI q9 (fun O rT=>A.un0 rT ( A.cmp .lss O n10 (fun rU=>A.cond rU ( A.opt (idS 3 J O) (fun rW=>A.peek (.lg cc 3 rW) a3 (fun rX=>A.ucI .i64 rX (fun rY rZ=>A.ucI .u8 rZ (fun r1 r2=>A.ucI .u8 r2 (fun r3 r4=>A.uc0 r4 ( A.ari .sub .i64 O (.ofNat 1) (fun r5=>A.opt (idS 3 J r5) (fun r6=>A.peek (.lg cc 3 r6) a3 (fun r7=>A.ucI .i64 r7 (fun r8 r9=>A.ucI .u8 r9 (fun sa sb=>A.ucI .u8 sb (fun sc sd=>A.uc0 sd ( A.callv a4 [(.agg ⟨[(.int .i64 rY),(.int .u8 r1),(.int .u8 r3)]⟩),(.agg ⟨[(.int .i64 r8),(.int .u8 sa),(.int .u8 sc)]⟩)] [(.leaf (.i .i64))] a3 (fun se b3=>A.unI se (fun sf sh=>A.un0 sh ( A.cmp .lss sf (.ofNat 0) (fun si=>A.cond (!si) ( A.ari .add .i64 O (.ofNat 1) (fun sj=>q8 [(.i sj)] b3)) ( b2 [(.i O)] b3))))))))))))))))))) ( b2 [(.i O)] a3))))) [(.i n18)] a5)) ( K [(.b false)] a5)))))) [(.i n14),(.i (.ofNat 0))] h))))))
/-- slices.partitionCmpFunc[crimp/patterns.Crease] -/
noncomputable def f112(ls:List Lf)(h:HT)(K:List Lf→HT→R):R:=A.unV ls (fun J b8=>A.unI b8 (fun n8 b9=>A.unI b9 (fun n10 c0=>A.unI c0 (fun n12 c1=>A.unV c1 (fun a3 d0=>A.un0 d0 ( A.opt (idS 3 J n12) (fun d1=>A.peek (.lg cc 3 d1) h (fun d2=>A.ucI .i64 d2 (fun n18 d3=>A.ucI .u8 d3 (fun n20 d4=>A.ucI .u8 d4 (fun n22 d5=>A.uc0 d5 ( A.opt (idS 3 J n8) (fun d6=>A.peek (.lg cc 3 d6) h (fun d7=>A.ucI .i64 d7 (fun n26 d8=>A.ucI .u8 d8 (fun n28 d9=>A.ucI .u8 d9 (fun n30 e0=>A.uc0 e0 ( A.opt (idS 3 J n8) (fun e1=>A.heap (.st e1 [(.int .i64 n18),(.int .u8 n20),(.int .u8 n22)]) h (fun tD e2=>A.opt (idS 3 J n12) (fun f0=>A.heap (.st f0 [(.int .i64 n26),(.int .u8 n28),(.int .u8 n30)]) e2 (fun tE f1=>A.ari .add .i64 n8 (.ofNat 1) (fun n38=>A.ari .sub .i64 n10 (.ofNat 1) (fun n39=>A.join (fun f2 gl=>A.unI f2 (fun n42 g0=>A.un0 g0 ( A.join (fun g1 O=>A.unI g1 (fun n46 g2=>A.un0 g2 ( A.cmp .gtr n42 n46 (fun g3=>A.cond g3 ( A.opt (idS 3 J n8) (fun g4=>A.peek (.lg cc 3 g4) O (fun g5=>A.ucI .i64 g5 (fun n51 g6=>A.ucI .u8 g6 (fun n53 g7=>A.ucI .u8 g7 (fun n55 g8=>A.uc0 g8 ( A.opt (idS 3 J n46) (fun g9=>A.peek (.lg cc 3 g9) O (fun h0=>A.ucI .i64 h0 (fun n59 h1=>A.ucI .u8 h1 (fun n61 h2=>A.ucI .u8 h2 (fun n63 h3=>A.uc0 h3 ( A.opt (idS 3 J n46) (fun h4=>A.heap (.st h4 [(.int .i64 n51),(.int .u8 n53),(.int .u8 n55)]) O (fun tF h5=>A.opt (idS 3 J n8) (fun h6=>A.heap (.st h6 [(.int .i64 n59),(.int .u8 n61),(.int .u8 n63)]) h5 (fun tG h7=>K [(.i n46),(.b true)] h7))))))))))))))))) ( A.opt (idS 3 J n46) (fun h8=>A.peek (.lg cc 3 h8) O (fun h9=>A.ucI .i64 h9 (fun n73 i0=>A.ucI .u8 i0 (fun n75 i1=>A.ucI .u8 i1 (fun n77 i2=>A.uc0 i2 ( A.opt (idS 3 J n42) (fun j0=>A.peek (.lg cc 3 j0) O (fun j1=>A.ucI .i64 j1 (fun n81 j2=>A.ucI .u8 j2 (fun n83 j3=>A.ucI .u8 j3 (fun n85 j4=>A.uc0 j4 ( A.opt (idS 3 J n42) (fun j5=>A.heap (.st j5 [(.int .i64 n73),(.int .u8 n75),(.int .u8 n77)]) O (fun tH j6=>A.opt (idS 3 J n46) (fun j7=>A.heap (.st j7 [(.int .i64 n81),(.int .u8 n83),(.int .u8 n85)]) j6 (fun tI j8=>A.ari .add .i64 n42 (.ofNat 1) (fun n93=>A.ari .sub .i64 n46 (.ofNat 1) (fun j9=>A.loop (fun k0 k1 k2=>A.unI k1 (fun k3 k4=>A.unI k4 (fun a8 k5=>A.un0 k5 ( A.join (fun k6 k7=>A.unI k6 (fun n104 k8=>A.un0 k8 ( A.join (fun k9 U=>A.unI k9 (fun n108 l0=>A.un0 l0 ( A.cmp .gtr n104 n108 (fun l1=>A.cond l1 ( A.opt (idS 3 J n8) (fun l2=>A.peek (.lg cc 3 l2) U (fun l3=>A.ucI .i64 l3 (fun n113 l4=>A.ucI .u8 l4 (fun n115 l5=>A.ucI .u8 l5 (fun n117 l6=>A.uc0 l6 ( A.opt (idS 3 J n108) (fun l7=>A.peek (.lg cc 3 l7) U (fun l8=>A.ucI .i64 l8 (fun l9 m0=>A.ucI .u8 m0 (fun m1 m2=>A.ucI .u8 m2 (fun m3 m4=>A.uc0 m4 ( A.opt (idS 3 J n108) (fun m5=>A.heap (.st m5 [(.int .i64 n113),(.int .u8 n115),(.int .u8 n117)]) U (fun tJ m6=>A.opt (idS 3 J n8) (fun m7=>A.heap (.st m7 [(.int .i64 l9),(.int .u8 m1),(.int .u8 m3)]) m6 (fun tK m8=>K [(.i n108),(.b false)] m8))))))))))))))))) ( A.opt (idS 3 J n108) (fun m9=>A.peek (.lg cc 3 m9) U (fun n0=>A.ucI .i64 n0 (fun n1 n2=>A.ucI .u8 n2 (fun o0 o1=>A.ucI .u8 o1 (fun o2 o3=>A.uc0 o3 ( A.opt (idS 3 J n104) (fun o4=>A.peek (.lg cc 3 o4) U (fun o5=>A.ucI .i64 o5 (fun o6 o7=>A.ucI .u8 o7 (fun o8 o9=>A.ucI .u8 o9 (fun p0 p1=>A.uc0 p1 ( A.opt (idS 3 J n104) (fun p2=>A.heap (.st p2 [(.int .i64 n1),(.int .u8 o0),(.int .u8 o2)]) U (fun tL p3=>A.opt (idS 3 J n108) (fun p4=>A.heap (.st p4 [(.int .i64 o6),(.int .u8 o8),(.int .u8 p0)]) p3 (fun tM p5=>A.ari .add .i64 n104 (.ofNat 1) (fun p6=>A.ari .sub .i64 n108 (.ofNat 1) (fun p7=>k0 [(.i p6),(.i p7)] p5))))))))))))))))))))))) (fun a9=>A.loop (fun p8 p9 a4=>A.unI p9 (fun V q0=>A.un0 q0 ( A.cmp .leq n104 V (fun q1=>A.cond q1 ( A.opt (idS 3 J V) (fun q2=>A.peek (.lg cc 3 q2) a4 (fun q3=>A.ucI .i64 q3 (fun q4 q5=>A.ucI .u8 q5 (fun q6 q7=>A.ucI .u8 q7 (fun q8 q9=>A.uc0 q9 ( A.opt (idS 3 J n8) (fun rT=>A.peek (.lg cc 3 rT) a4 (fun rU=>A.ucI .i64 rU (fun rW rX=>A.ucI .u8 rX (fun rY rZ=>A.ucI .u8 rZ (fun r1 r2=>A.uc0 r2 ( A.callv a3 [(.agg ⟨[(.int .i64 q4),(.int .u8 q6),(.int .u8 q8)]⟩),(.agg ⟨[(.int .i64 rW),(.int .u8 rY),(.int .u8 r1)]⟩)] [(.leaf (.i .i64))] a4 (fun r3 b0=>A.unI r3 (fun r4 r5=>A.un0 r5 ( A.cmp .lss r4 (.ofNat 0) (fun r6=>A.cond (!r6) ( A.ari .sub .i64 V (.ofNat 1) (fun r7=>p8 [(.i r7)] b0)) ( a9 [(.i V)] b0)))))))))))))))))) ( a9 [(.i V)] a4))))) [(.i a8)] k7)))) (fun b1=>A.loop (fun r8 r9 a5=>A.unI r9 (fun a0 sa=>A.un0 sa ( A.cmp .leq a0 a8 (fun sb=>A.cond sb ( A.opt (idS 3 J a0) (fun sc=>A.peek (.lg cc 3 sc) a5 (fun sd=>A.ucI .i64 sd (fun se sf=>A.ucI .u8 sf (fun sh si=>A.ucI .u8 si (fun sj sn=>A.uc0 sn ( A.opt (idS 3 J n8) (fun so=>A.peek (.lg cc 3 so) a5 (fun sq=>A.ucI .i64 sq (fun ss su=>A.ucI .u8 su (fun sw sx=>A.ucI .u8 sx (fun sy sz=>A.uc0 sz ( A.callv a3 [(.agg ⟨[(.int .i64 se),(.int .u8 sh),(.int .u8 sj)]⟩),(.agg ⟨[(.int .i64 ss),(.int .u8 sw),(.int .u8 sy)]⟩)] [(.leaf (.i .i64))] a5 (fun sA b2=>A.unI sA (fun sB sC=>A.un0 sC ( A.cmp .lss sB (.ofNat 0) (fun sD=>A.cond sD ( A.ari .add .i64 a0 (.ofNat 1) (fun sE=>r8 [(.i sE)] b2)) ( b1 [(.i a0)] b2)))))))))))))))))) ( b1 [(.i a0)] a5))))) [(.i k3)] k2))))) [(.i n93),(.i j9)] j8))))))))))))))))))))))) (fun b3=>A.loop (fun sF sG a6=>A.unI sG (fun a1 sH=>A.un0 sH ( A.cmp .leq n42 a1 (fun sI=>A.cond sI ( A.opt (idS 3 J a1) (fun sJ=>A.peek (.lg cc 3 sJ) a6 (fun sK=>A.ucI .i64 sK (fun sL sM=>A.ucI .u8 sM (fun sN sO=>A.ucI .u8 sO (fun sP sQ=>A.uc0 sQ ( A.opt (idS 3 J n8) (fun sR=>A.peek (.lg cc 3 sR) a6 (fun sS=>A.ucI .i64 sS (fun sU sV=>A.ucI .u8 sV (fun sW sX=>A.ucI .u8 sX (fun sY sZ=>A.uc0 sZ ( A.callv a3 [(.agg ⟨[(.int .i64 sL),(.int .u8 sN),(.int .u8 sP)]⟩),(.agg ⟨[(.int .i64 sU),(.int .u8 sW),(.int .u8 sY)]⟩)] [(.leaf (.i .i64))] a6 (fun s0 b4=>A.unI s0 (fun s1 s2=>A.un0 s2 ( A.cmp .lss s1 (.ofNat 0) (fun s3=>A.cond (!s3) ( A.ari .sub .i64 a1 (.ofNat 1) (fun s4=>sF [(.i s4)] b4)) ( b3 [(.i a1)] b4)))))))))))))))))) ( b3 [(.i a1)] a6))))) [(.i n39)] gl)))) (fun b6=>A.loop (fun s5 s6 a7=>A.unI s6 (fun a2 s7=>A.un0 s7 ( A.cmp .leq a2 n39 (fun s8=>A.cond s8 ( A.opt (idS 3 J a2) (fun s9=>A.peek (.lg cc 3 s9) a7 (fun ta=>A.ucI .i64 ta (fun tb tc=>A.ucI .u8 tc (fun td tg=>A.ucI .u8 tg (fun th ti=>A.uc0 ti ( A.opt (idS 3 J n8) (fun tj=>A.peek (.lg cc 3 tj) a7 (fun tn=>A.ucI .i64 tn (fun tq tr=>A.ucI .u8 tr (fun tt tu=>A.ucI .u8 tu (fun tv tw=>A.uc0 tw ( A.callv a3 [(.agg ⟨[(.int .i64 tb),(.int .u8 td),(.int .u8 th)]⟩),(.agg ⟨[(.int .i64 tq),(.int .u8 tt),(.int .u8 tv)]⟩)] [(.leaf (.i .i64))] a7 (fun tx b7=>A.unI tx (fun tz tA=>A.un0 tA ( A.cmp .lss tz (.ofNat 0) (fun tB=>A.cond tB ( A.ari .add .i64 a2 (.ofNat 1) (fun tC=>s5 [(.i tC)] b7)) ( b6 [(.i a2)] b7)))))))))))))))))) ( b6 [(.i a2)] a7))))) [(.i n38)] f1)))))))))))))))))))))))))
/-- (crimp/sheets.Sheet).all -/
noncomputable def f113(ls:List Lf)(h:HT)(K:List Lf→HT→R):R:=A.unI ls (fun n6 O=>A.unI O (fun n8 U=>A.un0 U ( A.new (.cells [(.int .i64 n6),(.int .i64 n8)] 2 true) h (fun J V=>A.chk (.func (.func 129) ⟨[]⟩ ⟨[(.pointer (some ⟨J,0,none⟩))]⟩) ( K [(.v (.func (.func 129) ⟨[]⟩ ⟨[(.pointer (some ⟨J,0,none⟩))]⟩))] V)))))
/-- crimp/sheets.Line -/
noncomputable def f114(ls:List Lf)(h:HT)(K:List Lf→HT→R):R:=A.unI ls (fun n6 O=>A.unI O (fun n8 U=>A.unI U (fun n10 V=>A.unI V (fun n12 a0=>A.un0 a0 ( A.call 118 [(.i n6),(.i n8),(.i n10),(.i n12)] h (fun a1 J=>A.unI a1 (fun n16 a2=>A.unI a2 (fun n18 a3=>A.unI a3 (fun n20 a4=>A.unI a4 (fun n22 a5=>A.un0 a5 ( A.cmp .neq n22 (.ofNat 0) (fun a6=>A.cond a6 ( K [(.i (.ofNat 0)),(.i (.ofNat 0)),(.i n22)] J) ( A.call 131 [(.i n16),(.i n18),(.i n20),(.i n12)] J (fun a7 a8=>A.unI a7 (fun n27 a9=>A.unI a9 (fun n29 b0=>A.unI b0 (fun n31 b1=>A.un0 b1 ( K [(.i n27),(.i n29),(.i n31)] a8))))))))))))))))))
/-- crimp/segments.place -/
noncomputable def f115(ls:List Lf)(h:HT)(K:List Lf→HT→R):R:=A.unI ls (fun n6 J=>A.unI J (fun n8 O=>A.unI O (fun n10 U=>A.un0 U ( A.cmp .eql n6 (.ofNat 1) (fun V=>A.cond V ( K [(.i n10)] h) ( K [(.i n8)] h))))))
/-- crimp/lines.Check -/
noncomputable def f116(ls:List Lf)(h:HT)(K:List Lf→HT→R):R:=A.unI ls (fun n6 J=>A.unI J (fun n8 O=>A.un0 O ( A.cmp .lss n6 (.ofNat 1) (fun U=>A.cond U ( K [(.i (.ofNat 1))] h) ( A.cmp .gtr n6 (.ofNat 4) (fun V=>A.cond V ( K [(.i (.ofNat 1))] h) ( A.cmp .lss n8 (.negSucc 4095) (fun a0=>A.cond a0 ( K [(.i (.ofNat 1))] h) ( A.cmp .gtr n8 (.ofNat 4096) (fun a1=>A.cond a1 ( K [(.i (.ofNat 1))] h) ( K [(.i (.ofNat 0))] h)))))))))))
noncomputable def f117(ls:List Lf)(h:HT)(K:List Lf→HT→R):R:=A.unI ls (fun n6 J=>A.un0 J ( A.cmp .neq n6 n6 (fun O=>K [(.b O)] h)))
/-- crimp/sheets.named -/
noncomputable def f118(ls:List Lf)(h:HT)(K:List Lf→HT→R):R:=A.unI ls (fun n6 U=>A.unI U (fun n8 V=>A.unI V (fun n10 a0=>A.unI a0 (fun n12 a1=>A.un0 a1 ( A.call 56 [(.i n6),(.i n8)] h (fun a2 O=>A.unI a2 (fun n16 a3=>A.un0 a3 ( A.cmp .neq n16 (.ofNat 0) (fun a4=>A.cond a4 ( K [(.i (.ofNat 0)),(.i (.ofNat 0)),(.i (.ofNat 0)),(.i n16)] O) ( A.call 50 [(.i n6),(.i n8),(.i n10),(.i n12)] O (fun a5 J=>A.unI a5 (fun n21 a6=>A.unI a6 (fun n23 a7=>A.unI a7 (fun n25 a8=>A.un0 a8 ( A.cmp .neq n25 (.ofNat 0) (fun a9=>A.cond a9 ( K [(.i (.ofNat 0)),(.i (.ofNat 0)),(.i (.ofNat 0)),(.i (.ofNat 7))] J) ( A.eqs [((.i n21),(.i n10)),((.i n23),(.i n12))] (fun b0=>A.cond (!b0) ( K [(.i (.ofNat 0)),(.i (.ofNat 0)),(.i (.ofNat 0)),(.i (.ofNat 7))] J) ( A.call 78 [(.i n6),(.i n8),(.i n10)] J (fun b1 b2=>A.unI b1 (fun n31 b3=>A.unI b3 (fun n33 b4=>A.unI b4 (fun n35 b6=>A.un0 b6 ( K [(.i n31),(.i n33),(.i n35),(.i (.ofNat 0))] b2))))))))))))))))))))))))
/-- slices.BinarySearchFunc[[]crimp/patterns.Crease,crimp/patterns.Crease,crimp/sheets.Unit] -/
noncomputable def f119(ls:List Lf)(h:HT)(K:List Lf→HT→R):R:=A.unV ls (fun O a3=>A.unI a3 (fun n8 a4=>A.unI a4 (fun n10 a5=>A.unV a5 (fun U a6=>A.un0 a6 ( A.opt (lenS O) (fun V=>A.loop (fun a7 a8 J=>A.unI a8 (fun n18 a9=>A.unI a9 (fun n20 b0=>A.un0 b0 ( A.cmp .lss n18 n20 (fun b1=>A.cond b1 ( A.ari .add .i64 n18 n20 (fun n23=>A.conv .u64 n23 (fun n24=>A.shf .shr .u64 n24 .u64 (.ofNat 1) (fun n25=>A.conv .i64 n25 (fun n26=>A.opt (idS 3 O n26) (fun b2=>A.peek (.lg cc 3 b2) J (fun b3=>A.ucI .i64 b3 (fun n29 b4=>A.ucI .u8 b4 (fun n31 b6=>A.ucI .u8 b6 (fun n33 b7=>A.uc0 b7 ( A.callv U [(.agg ⟨[(.int .i64 n29),(.int .u8 n31),(.int .u8 n33)]⟩),(.agg ⟨[(.int .i64 n8),(.int .u8 n10)]⟩)] [(.leaf (.i .i64))] J (fun b8 a0=>A.unI b8 (fun n37 b9=>A.un0 b9 ( A.cmp .lss n37 (.ofNat 0) (fun c0=>A.join (fun c1 d0=>A.unI c1 (fun n42 d1=>A.unI d1 (fun n44 d2=>A.un0 d2 ( a7 [(.i n42),(.i n44)] d0)))) (fun a1=>A.cond c0 ( A.ari .add .i64 n26 (.ofNat 1) (fun n47=>a1 [(.i n47),(.i n20)] a0)) ( a1 [(.i n18),(.i n26)] a0))))))))))))))))) ( A.join (fun d3 d4=>A.unI d3 (fun n50 d5=>A.unB d5 (fun d6 d7=>A.un0 d7 ( K [(.i n50),(.b d6)] d4)))) (fun a2=>A.cmp .lss n18 V (fun d8=>A.cond d8 ( A.opt (idS 3 O n18) (fun d9=>A.peek (.lg cc 3 d9) J (fun e0=>A.ucI .i64 e0 (fun n58 e1=>A.ucI .u8 e1 (fun n60 e2=>A.ucI .u8 e2 (fun n62 f0=>A.uc0 f0 ( A.callv U [(.agg ⟨[(.int .i64 n58),(.int .u8 n60),(.int .u8 n62)]⟩),(.agg ⟨[(.int .i64 n8),(.int .u8 n10)]⟩)] [(.leaf (.i .i64))] J (fun f1 f2=>A.unI f1 (fun n66 gl=>A.un0 gl ( A.cmp .eql n66 (.ofNat 0) (fun g0=>a2 [(.i n18),(.b g0)] f2))))))))))) ( a2 [(.i n18),(.b false)] J))))))))) [(.i (.ofNat 0)),(.i V)] h))))))
/-- crimp/patterns.find$1 -/
noncomputable def f120(ls:List Lf)(h:HT)(K:List Lf→HT→R):R:=A.unI ls (fun n6 J=>A.unI J (fun n8 O=>A.unI O (fun n10 U=>A.unI U (fun n12 V=>A.unI V (fun n14 a0=>A.un0 a0 ( A.call 54 [(.i n6),(.i n8),(.i n10)] h (fun a1 a2=>A.unI a1 (fun n18 a3=>A.unI a3 (fun n20 a4=>A.un0 a4 ( A.call 53 [(.i n18),(.i n20),(.i n12),(.i n14)] a2 (fun a5 a6=>A.unI a5 (fun n24 a7=>A.un0 a7 ( K [(.i n24)] a6)))))))))))))
/-- slices.medianCmpFunc[crimp/patterns.Crease] -/
noncomputable def f128(ls:List Lf)(h:HT)(K:List Lf→HT→R):R:=A.unV ls (fun J V=>A.unI V (fun n8 a0=>A.unI a0 (fun n10 a1=>A.unI a1 (fun n12 a2=>A.unV a2 (fun O a3=>A.unV a3 (fun U a4=>A.un0 a4 ( A.call 133 [(.v J),(.i n8),(.i n10),(.v O),(.v U)] h (fun a5 a6=>A.unI a5 (fun n20 a7=>A.unI a7 (fun n22 a8=>A.un0 a8 ( A.call 133 [(.v J),(.i n22),(.i n12),(.v O),(.v U)] a6 (fun a9 b0=>A.unI a9 (fun n26 b1=>A.unI b1 (fun n28 b2=>A.un0 b2 ( A.call 133 [(.v J),(.i n20),(.i n26),(.v O),(.v U)] b0 (fun b3 b4=>A.unI b3 (fun n32 b6=>A.unI b6 (fun n34 b7=>A.un0 b7 ( K [(.i n34)] b4)))))))))))))))))))
/-- (crimp/sheets.Sheet).all$1 -/
noncomputable def f129(ls:List Lf)(h:HT)(K:List Lf→HT→R):R:=A.unV ls (fun a2 a3=>A.unV a3 (fun V a4=>A.un0 a4 ( A.peek (.lg cc 2 V) h (fun a5=>A.ucI .i64 a5 (fun n11 a6=>A.ucI .i64 a6 (fun n13 a7=>A.uc0 a7 ( A.call 130 [(.i n11),(.i n13)] h (fun a8 a9=>A.unI a8 (fun n17 b0=>A.un0 b0 ( A.loop (fun b1 b2 a0=>A.unI b2 (fun n22 b3=>A.un0 b3 ( A.cmp .lss n22 n17 (fun b4=>A.cond b4 ( A.loop (fun J b6 O=>A.unI b6 (fun n28 b7=>A.un0 b7 ( A.cmp .lss n28 (.ofNat 3) (fun b8=>A.cond b8 ( A.peek (.lg cc 2 V) O (fun b9=>A.ucI .i64 b9 (fun n32 c0=>A.ucI .i64 c0 (fun n34 c1=>A.uc0 c1 ( A.call 80 [(.i n32),(.i n34),(.i n22),(.i n28)] O (fun d0 U=>A.unI d0 (fun n38 d1=>A.unI d1 (fun n40 d2=>A.un0 d2 ( A.cmp .eql n40 (.ofNat 0) (fun d3=>A.cond d3 ( A.cmp .gtr n38 n22 (fun d4=>A.cond d4 ( A.callv a2 [(.agg ⟨[(.int .i64 n22),(.int .u8 n28)]⟩)] [(.leaf .b)] U (fun d5 a1=>A.unB d5 (fun d6 d7=>A.un0 d7 ( A.join (fun d8 d9=>A.un0 d8 ( A.ari .add .u8 n28 (.ofNat 1) (fun n50=>J [(.i n50)] d9))) (fun e0=>A.cond (!d6) ( K [] a1) ( e0 [] a1)))))) ( A.ari .add .u8 n28 (.ofNat 1) (fun n52=>J [(.i n52)] U)))) ( A.ari .add .u8 n28 (.ofNat 1) (fun n53=>J [(.i n53)] U)))))))))))) ( A.ari .add .i64 n22 (.ofNat 1) (fun n54=>b1 [(.i n54)] O)))))) [(.i (.ofNat 0))] a0) ( K [] a0))))) [(.i (.ofNat 0))] a9))))))))))
/-- crimp/sheets.Count -/
noncomputable def f130(ls:List Lf)(h:HT)(K:List Lf→HT→R):R:=A.unI ls (fun n6 O=>A.unI O (fun n8 U=>A.un0 U ( A.call 56 [(.i n6),(.i n8)] h (fun V J=>A.unI V (fun n12 a0=>A.un0 a0 ( A.cmp .neq n12 (.ofNat 0) (fun a1=>A.cond a1 ( K [(.i (.ofNat 0))] J) ( A.ari .mul .i64 (.ofNat 4) n6 (fun n15=>A.ari .mul .i64 n15 n8 (fun n16=>K [(.i n16)] J))))))))))
/-- crimp/cells.Line -/
noncomputable def f131(ls:List Lf)(h:HT)(K:List Lf→HT→R):R:=A.unI ls (fun n6 a1=>A.unI a1 (fun n8 a2=>A.unI a2 (fun n10 a3=>A.unI a3 (fun n12 a4=>A.un0 a4 ( A.call 79 [(.i n6),(.i n8),(.i n10)] h (fun a5 J=>A.unI a5 (fun n16 a6=>A.un0 a6 ( A.cmp .neq n16 (.ofNat 0) (fun a7=>A.cond a7 ( K [(.i (.ofNat 0)),(.i (.ofNat 0)),(.i (.ofNat 1))] J) ( A.cmp .gtr n12 (.ofNat 2) (fun a8=>A.cond a8 ( K [(.i (.ofNat 0)),(.i (.ofNat 0)),(.i (.ofNat 1))] J) ( A.opt (inB 4 n10) (fun g7=>A.opt (kK gl2 0 [(n10,17)] 17) (fun a9=>A.ucI .i64 a9 (fun n22 b0=>A.ucI .i64 b0 (fun n24 b1=>A.ucI .u8 b1 (fun n26 b2=>A.ucI .i64 b2 (fun n28 b3=>A.ucI .i64 b3 (fun n30 b4=>A.ucI .i64 b4 (fun n32 b6=>A.ucI .u8 b6 (fun n34 b7=>A.ucI .i64 b7 (fun n36 b8=>A.ucI .i64 b8 (fun n38 b9=>A.ucI .u8 b9 (fun n40 c0=>A.ucI .i64 c0 (fun n42 c1=>A.ucI .i64 c1 (fun n44 d0=>A.ucI .u8 d0 (fun n46 d1=>A.ucI .i64 d1 (fun n48 d2=>A.ucI .i64 d2 (fun n50 d3=>A.ucI .i64 d3 (fun n52 d4=>A.ucI .i64 d4 (fun n54 d5=>A.uc0 d5 ( A.ari .add .i64 n6 n28 (fun n56=>A.cmp .eql n12 (.ofNat 1) (fun d6=>A.join (fun d7 d8=>A.unI d7 (fun n60 d9=>A.unI d9 (fun n62 e0=>A.un0 e0 ( A.call 116 [(.i n60),(.i n62)] d8 (fun e1 O=>A.unI e1 (fun n66 e2=>A.un0 e2 ( A.cmp .neq n66 (.ofNat 0) (fun f0=>A.cond f0 ( K [(.i (.ofNat 0)),(.i (.ofNat 0)),(.i (.ofNat 3))] O) ( K [(.i n60),(.i n62),(.i (.ofNat 0))] O))))))))) (fun U=>A.cond d6 ( A.ari .add .i64 n6 n8 (fun n70=>A.ari .add .i64 n70 (.ofNat 1) (fun n71=>U [(.i (.ofNat 3)),(.i n71)] J))) ( A.cmp .eql n12 (.ofNat 2) (fun f1=>A.join (fun f2 gl=>A.unI f2 (fun n75 g0=>A.unI g0 (fun n77 g1=>A.un0 g1 ( U [(.i n75),(.i n77)] gl)))) (fun V=>A.cond f1 ( A.ari .sub .i64 n8 n6 (fun n80=>V [(.i (.ofNat 4)),(.i n80)] J)) ( A.cmp .eql n26 (.ofNat 2) (fun g2=>A.join (fun g3 g4=>A.unI g3 (fun n84 g5=>A.unI g5 (fun n86 g6=>A.un0 g6 ( V [(.i n84),(.i n86)] g4)))) (fun a0=>A.cond g2 ( A.ari .add .i64 n8 n28 (fun n89=>a0 [(.i n26),(.i n89)] J)) ( a0 [(.i n26),(.i n56)] J))))))))))))))))))))))))))))))))))))))))))
/-- slices.order2CmpFunc[crimp/patterns.Crease] -/
noncomputable def f133(ls:List Lf)(h:HT)(K:List Lf→HT→R):R:=A.unV ls (fun O a1=>A.unI a1 (fun n8 a2=>A.unI a2 (fun n10 a3=>A.unV a3 (fun U a4=>A.unV a4 (fun a5 a6=>A.un0 a6 ( A.opt (idS 3 O n10) (fun a7=>A.peek (.lg cc 3 a7) h (fun a8=>A.ucI .i64 a8 (fun n18 a9=>A.ucI .u8 a9 (fun n20 b0=>A.ucI .u8 b0 (fun n22 b1=>A.uc0 b1 ( A.opt (idS 3 O n8) (fun b2=>A.peek (.lg cc 3 b2) h (fun b3=>A.ucI .i64 b3 (fun n26 b4=>A.ucI .u8 b4 (fun n28 b6=>A.ucI .u8 b6 (fun n30 b7=>A.uc0 b7 ( A.callv a5 [(.agg ⟨[(.int .i64 n18),(.int .u8 n20),(.int .u8 n22)]⟩),(.agg ⟨[(.int .i64 n26),(.int .u8 n28),(.int .u8 n30)]⟩)] [(.leaf (.i .i64))] h (fun b8 J=>A.unI b8 (fun n34 b9=>A.un0 b9 ( A.cmp .lss n34 (.ofNat 0) (fun c0=>A.cond c0 ( A.opt (nilP U) (fun V=>A.chk V ( A.peek (.lg cc 1 V) J (fun c1=>A.ucI .i64 c1 (fun n39 d0=>A.uc0 d0 ( A.ari .add .i64 n39 (.ofNat 1) (fun n41=>A.opt (nilP U) (fun a0=>A.chk a0 ( A.heap (.st a0 [(.int .i64 n41)]) J (fun d2 d1=>K [(.i n10),(.i n8)] d1)))))))))) ( K [(.i n8),(.i n10)] J)))))))))))))))))))))))
end
end Go.Am

/-
 THE EXECUTOR: a run of the abstract machine that the kernel can make;numbers may be symbolic,the ways of a run are all followed.
-/
namespace Go.Am
inductive Pth where
 |e
 |o (p:Pth)
 |i (p:Pth)
inductive Tr(α:Type) where
 |leaf
 |node (v:α) (l r:Tr α)
def Pth.num:Pth→Nat
 | .e=>1
 | .o p=>2*p.num
 | .i p=>2*p.num+1
def pthF:Nat→Nat→Pth
 |0,_=>.e
 |f+1,n=>if Nat.ble n 1 then .e else if Nat.beq (n%2) 0 then .o (pthF f (n / 2))else .i (pthF f (n / 2))
def bi(n:Nat):Pth:=pthF (n+1) (n+1)
noncomputable def Pth.get{α:Type}(d:α)(p:Pth):Tr α→α:=
 Pth.rec (motive:=fun _=>Tr α→α)
  (fun t=>Tr.casesOn t d fun v _ _=>v)
  (fun _ ih t=>Tr.casesOn t d fun _ l _=>ih l)
  (fun _ ih t=>Tr.casesOn t d fun _ _ r=>ih r) p
noncomputable def Pth.setK{α:Type}(d:α)(p:Pth):Tr α→α→(Tr α→Bool)→Bool:=
 Pth.rec (motive:=fun _=>Tr α→α→(Tr α→Bool)→Bool)
  (fun t x k=>Tr.casesOn t (k (.node x .leaf .leaf)) fun _ l r=>k (.node x l r))
  (fun _ ih t x k=>Tr.casesOn t (ih .leaf x fun l=>k (.node d l .leaf)) fun v l r=>ih l x fun l=>k (.node v l r))
  (fun _ ih t x k=>Tr.casesOn t (ih .leaf x fun r=>k (.node d .leaf r)) fun v l r=>ih r x fun r=>k (.node v l r)) p
def eqI:Int→Int→Bool
 | .ofNat a,.ofNat b=>Nat.beq a b
 | .negSucc a,.negSucc b=>Nat.beq a b
 |_,_=>false
def kmax:IntKind→Nat
 | .i8=>127
 | .i16=>32767
 | .i32=>2147483647
 | .i64=>9223372036854775807
 | .u8=>255
 | .u16=>65535
 | .u32=>4294967295
 | .u64=>18446744073709551615
def fits(k:IntKind):Int→Bool
 | .ofNat n=>Nat.ble n (kmax k)
 | .negSucc n=>k.signed&&Nat.ble n (kmax k)
abbrev Lin:=List Int
def dot:List Int→List Int→Int
 |c :: l,x :: ρ=>c*x+dot l ρ
 |_,_=>0
def Lin.eval(l:Lin)(ρ:List Int):Int:=
 match l with
 | []=>0
 |c :: l=>c+dot l ρ
structure Ctx where
 iv:List (Int×Int)
 cs:List (List Int×Int×Int)
inductive Opd where
 |t (p:Pth)
 |c (v:Value)
inductive Ins where
 |mv (x:Opd)
 |pick (c a b:Opd)
 |ar (op:BinOp) (x y:Opd)
 |cmp (op:BinOp) (x y:Opd)
 |notb (x:Opd)
 |conv (k:IntKind) (x:Opd)
 |fld (x:Opd) (off:Nat)
 |flda (x:Opd) (off n:Nat)
 |ext (x:Opd) (i:Nat)
 |fad (x:Opd) (off:Nat)
 |lload (s:Nat) (p:Pth) (a:Opd)
 |lloada (s:Nat) (p:Pth) (n:Nat) (a:Opd)
 |lbox (s:Nat) (p:Pth) (x:Opd)
 |lnew (s:Nat) (p:Pth) (vs:List Value)
 |bld (z:List Value) (ps:List (Nat×Nat×Opd))
 |lstore (s:Nat) (p:Pth) (n:Nat) (a x:Opd)
 |call (f:FuncId) (args:List Opd)
 |gen
abbrev TV:=Tr Value
abbrev TL:=Tr (Option (List Value))
structure XCfg where
 C:Cfg
 kf:FuncId→List Value→List HObj→Option (Value×List HObj)
abbrev KS:=Ctx→TV→TL→List HObj→Bool
structure XS where
 call:Ctx→FuncId→List Value→List HObj→(Ctx→Value→List HObj→Bool)→Bool
 yield:Ctx→Nat→List Value→List HObj→(Ctx→Value→List HObj→Bool)→Bool
 ex:Ctx→List Nat→Nat→Code→TV→TL→List HObj→KS→(Exit→KS)→Bool
end Go.Am

/-
 THE EXECUTOR IS SOUND: trees,numbers,linear forms.
-/
namespace Go.Am
theorem qH:∀(f n:Nat),n≤f→1≤n→(pthF f n).num=n
 |0,n,h,h1=>by omega
 |f+1,n,h,h1=>by
  unfold pthF
  by_cases hn:n≤1
  ·have:n=1:=by omega
   subst this
   rfl
  ·have h2:Nat.ble n 1=false:=by
    rw[←Bool.not_eq_true,Nat.ble_eq];exact hn
   rw[h2]
   have ih:=qH f (n / 2) (by omega) (by omega)
   by_cases hm:n%2=0
   ·simp[hm,Pth.num,ih];omega
   ·simp[hm,Pth.num,ih];omega
theorem lS(n:Nat):(bi n).num=n+1:=qH _ _ (Nat.le_refl _) (by omega)
theorem ij{a b:Nat}(h:bi a=bi b):a=b:=by
 have:=congrArg Pth.num h
 rw[lS,lS]at this
 omega
def Pth.set{α:Type}(d:α):Pth→Tr α→α→Tr α
 | .e,.leaf,x=>.node x .leaf .leaf
 | .e,.node _ l r,x=>.node x l r
 | .o p,.leaf,x=>.node d (Pth.set d p .leaf x) .leaf
 | .o p,.node v l r,x=>.node v (Pth.set d p l x) r
 | .i p,.leaf,x=>.node d .leaf (Pth.set d p .leaf x)
 | .i p,.node v l r,x=>.node v l (Pth.set d p r x)
theorem Pth.setK_eq{α:Type}(d:α):∀(p:Pth) (t:Tr α) (x:α) (k:Tr α→Bool),p.setK d t x k=k (p.set d t x)
 | .e,t,x,k=>by cases t<;>rfl
 | .o p,t,x,k=>by
  cases t with
  |leaf=>exact Pth.setK_eq d p .leaf x _
  |node v l r=>exact Pth.setK_eq d p l x _
 | .i p,t,x,k=>by
  cases t with
  |leaf=>exact Pth.setK_eq d p .leaf x _
  |node v l r=>exact Pth.setK_eq d p r x _
theorem Pth.get_leaf{α:Type}(d:α)(p:Pth):p.get d .leaf=d:=by cases p<;>rfl
theorem Pth.get_set{α:Type}(d:α):∀(p:Pth) (t:Tr α) (x:α),p.get d (p.set d t x)=x
 | .e,t,x=>by cases t<;>rfl
 | .o p,t,x=>by
  cases t with
  |leaf=>exact Pth.get_set d p .leaf x
  |node v l r=>exact Pth.get_set d p l x
 | .i p,t,x=>by
  cases t with
  |leaf=>exact Pth.get_set d p .leaf x
  |node v l r=>exact Pth.get_set d p r x
theorem Pth.get_set_ne{α:Type}(d:α):∀(p q:Pth) (t:Tr α) (x:α),q≠p→q.get d (p.set d t x)=q.get d t
 | .e,q,t,x,h=>by cases q<;>cases t<;>first|rfl|exact absurd rfl h|exact Pth.get_leaf d _
 | .o p,q,t,x,h=>by
  cases q with
  |e=>cases t<;>rfl
  |o q=>
   have hq:q≠p:=fun e=>h (e▸rfl)
   cases t with
   |leaf=>exact(Pth.get_set_ne d p q .leaf x hq).trans (Pth.get_leaf d q)
   |node v l r=>exact Pth.get_set_ne d p q l x hq
  |i q=>
   cases t with
   |leaf=>exact Pth.get_leaf d q
   |node v l r=>rfl
 | .i p,q,t,x,h=>by
  cases q with
  |e=>cases t<;>rfl
  |i q=>
   have hq:q≠p:=fun e=>h (e▸rfl)
   cases t with
   |leaf=>exact(Pth.get_set_ne d p q .leaf x hq).trans (Pth.get_leaf d q)
   |node v l r=>exact Pth.get_set_ne d p q r x hq
  |o q=>
   cases t with
   |leaf=>exact Pth.get_leaf d q
   |node v l r=>rfl
def Tr.map{α:Type}(f:α→α):Tr α→Tr α
 | .leaf=>.leaf
 | .node v l r=>.node (f v) (l.map f) (r.map f)
theorem eqI_iff{a b:Int}:eqI a b=true↔a=b:=by
 cases a<;>cases b<;>simp[eqI]<;>omega
theorem fits_iff{k:IntKind}{c:Int}(h:fits k c=true):(k.signed=true→-(kmax k:Int) - 1≤c)∧(k.signed=false→0≤c)∧c≤kmax k:=by
 cases c with
 |ofNat n=>
  simp only[fits,Nat.ble_eq]at h
  refine⟨fun _=>?_,fun _=>?_,?_⟩<;>simp<;>omega
 |negSucc n=>
  simp only[fits,Bool.and_eq_true,Nat.ble_eq]at h
  refine⟨fun _=>?_,fun hs=>?_,?_⟩
  ·omega
  ·rw[h.1]at hs;cases hs
  ·omega
theorem og{k:IntKind}{c:Int}(h:fits k c=true):k.wrap c=c:=by
 obtain⟨h1,h2,h3⟩:=fits_iff h
 cases k<;>simp only[IntKind.signed,kmax,forall_const,reduceCtorEq,false_implies]at h1 h2 h3
 ·exact Go.IntWalk.i8_in c (by omega)
 ·exact Go.IntWalk.i16_in c (by omega)
 ·exact Go.IntWalk.i32_in c (by omega)
 ·exact Go.IntWalk.i64_in c (by omega)
 ·exact Go.IntWalk.u8_in c (by omega)
 ·exact Go.IntWalk.u16_in c (by omega)
 ·exact Go.IntWalk.u32_in c (by omega)
 ·exact Go.IntWalk.u64_in c (by omega)
end Go.Am

/-
 THE EXECUTOR IS SOUND: arithmetic,plain and symbolic.
-/
namespace Go.Am
section
variable [Val] {ρ:List Int}
def kY(op:BinOp)(x y:Int):Option Bool:=
 match op with
 | .eql=>some (x==y)
 | .neq=>some (x != y)
 | .lss=>some (decide (x<y))
 | .leq=>some (decide (x≤y))
 | .gtr=>some (decide (x > y))
 | .geq=>some (decide (x ≥ y))
 |_=>none
def ArRun(op:BinOp)(k:IntKind)(x y n:Int):Prop:=∀(P:Program) (t:TypeId) (w:World),(binOp op t (.int k x) (.int k y)).run P w = .ok (.int k n) w
theorem bits_one{k:IntKind}(x:Int):((BitVec.ofInt k.bits x &&& BitVec.ofInt k.bits 1).toNat:Int)=x%2:=by
 have hb:k.bits=k.bits - 1+1:=by cases k<;>rfl
 generalize k.bits - 1=n at hb
 rw[hb]
 have h1:(BitVec.ofInt (n+1) 1).toNat=1:=by
  simp
 rw[BitVec.toNat_and,h1,Nat.and_one_is_mod,BitVec.toNat_ofInt]
 have hp:(0:Int)<2 ^ (n+1):=Int.pow_pos (by omega)
 have e:(2:Int) ^ (n+1)=2*2 ^ n:=by rw[Int.pow_succ];omega
 have h0:0≤x%(2 ^ (n+1):Int):=Int.emod_nonneg _ (by omega)
 have:((x%((2 ^ (n+1):Nat):Int)).toNat%2:Nat)=((x%(2 ^ (n+1):Int))%2:Int):=by
  have e2:((2 ^ (n+1):Nat):Int)=(2 ^ (n+1):Int):=by simp
  rw[e2]
  omega
 rw[this,e,Int.emod_emod_of_dvd _ ⟨2 ^ n,rfl⟩]
theorem pM{k:IntKind}{x n:Int}(hn:x%2=n):ArRun .and k x 1 n:=by
 intro P t w
 have hw:k.wrap n=n:=og (by
  have h0:0≤n:=by omega
  have h1:n≤1:=by omega
  obtain⟨m,rfl⟩ : ∃m:Nat,n=m:=⟨n.toNat,by omega⟩
  show Nat.ble m (kmax k)=true
  rw[Nat.ble_eq]
  cases k<;>simp only[kmax]<;>omega)
 have hb:=bits_one (k:=k) x
 simp only[binOp,ne_eq,not_true_eq_false,if_false,Op.intBits]
 show Result.ok (Value.int k (k.wrap _)) w=_
 rw[hb,hn,hw]
end
end Go.Am

/-
 THE EXECUTOR IS SOUND: instructions that give a value.
-/
namespace Go.Am
section
variable [Val] {ρ:List Int}
structure Rep(pts:List Nat)(nt:Nat)(tm:TV)(lc:TL)(σ:St):Prop where
 len:σ.tmps.length=nt
 val:∀(i:Nat) v,σ.tmps[i]? = some v→(bi i).get undef tm=v
 llen:pts≠[]→σ.loc.length=nt
 loc:∀(i:Nat) x,σ.loc[i]? = some x→(bi i).get none lc=x
def ValStep(C:Cfg)(pts:List Nat)(σ:St)(o:Oper)(v:Value):Prop:=
 (∃e,av C pts (oval σ.tmps) o=some e∧aM σ e=some (σ,v))∨fV C σ.tmps o v
theorem ValStep.val{C:Cfg}{pts:List Nat}{σ:St}{o:Oper}{v:Value}(h:av C pts (oval σ.tmps) o=some (.val v)):ValStep C pts σ o v:=.inl ⟨_,h,rfl⟩
theorem wrap_emod(k:IntKind)(x:Int):k.wrap (x%(2 ^ k.bits:Int))=k.wrap x:=by
 unfold IntKind.wrap
 rw[Int.emod_emod_of_dvd _ (Int.dvd_refl _)]
theorem pL{k:IntKind}(m n:Nat):ArRun .and k m n (k.wrap (Nat.land m n:Nat)):=by
 intro P t w
 simp only[binOp,ne_eq,not_true_eq_false,if_false,Op.intBits]
 show Result.ok (Value.int k (k.wrap _)) w=_
 rw[←wrap_emod k (Nat.land m n:Nat)]
 congr 3
 have h2:∀x:Nat,(BitVec.ofInt k.bits (x:Int)).toNat=x%2 ^ k.bits:=fun x=>by
  rw[BitVec.toNat_ofInt]
  have:((x:Int)%((2 ^ k.bits:Nat):Int))=((x%2 ^ k.bits:Nat):Int):=by simp
  rw[this,Int.toNat_natCast]
 have h3:(BitVec.ofInt k.bits (m:Int) &&& BitVec.ofInt k.bits (n:Int)).toNat=(m &&& n)%2 ^ k.bits:=by
  rw[BitVec.toNat_and,h2,h2,Nat.and_mod_two_pow]
 rw[h3]
 simp
end
end Go.Am

/-
 WHEN AN ALGEBRA TELLS THE TRUTH;what an environment says of a state.
-/
namespace Go.Am
section
variable {R:Type}
theorem setK_eq{α:Type}(x:α):∀(l:List α) (i:Nat) (k:List α→R),setK x l i k=k (l.set i x)
 | [],_,_=>rfl
 |_ :: _,0,_=>rfl
 |a :: l,i+1,k=>setK_eq x l i fun l=>k (a :: l)
theorem pp(n:Nat)(K:Nat→R):mL n K=K n:=by cases n<;>rfl
end
noncomputable def SL.good:SL→Prop
 | .v x=>cu x=true
 |_=>True
def S0.good(x:S0):Prop:=∀l∈x.cells,l.good
noncomputable def SV.gd:SV→Prop
 | .st x=>x.good
 | .tup xs=>(∀x∈xs,x.good)∧2≤xs.length
 | .no=>False
 |_=>True
theorem dd{x:Value}:cu x=true↔noLoc x=true∧br x=true∧bn x=true∧aT x=false:=by
 unfold cu
 cases noLoc x<;>cases br x<;>cases bn x<;>cases aT x<;>simp
theorem lA{x:Value}(h:cu x=true):bd x=true:=by
 obtain⟨h1,_,h2,_⟩:=dd.1 h
 simp[bd,h1,h2]
theorem pq{x:Value}(h:cu x=true):x.cells = #[x]:=di (dd.1 h).2.2.1
theorem SL.val_good{l:SL}(h:l.good):cu l.val=true:=by
 cases l with
 |v x=>exact h
 |_=>rfl
theorem S0.cells_val{x:S0}(h:x.good):x.val.cells=⟨x.cells.map SL.val⟩:=by
 cases x with
 |leaf l=>exact pq (SL.val_good (h l (by simp[S0.cells])))
 |agg cs=>rfl
theorem S0.noLoc{x:S0}(h:x.good):noLoc x.val=true:=by
 cases x with
 |leaf l=>exact(dd.1 (SL.val_good (h l (by simp[S0.cells])))).1
 |agg cs=>
  simp only[S0.val,Am.noLoc,List.all_eq_true,List.mem_map]
  rintro _ ⟨l,hl,rfl⟩
  exact(dd.1 (SL.val_good (h l hl))).2.1
theorem S0.not_tuple{x:S0}(h:x.good):aT x.val=false:=by
 cases x with
 |leaf l=>exact(dd.1 (SL.val_good (h l (by simp[S0.cells])))).2.2.2
 |agg cs=>rfl
theorem S0.cells_ok{x:S0}(h:x.good):x.val.cells.toList.all bd=true:=by
 rw[S0.cells_val h]
 simp only[List.all_eq_true,List.mem_map]
 rintro _ ⟨l,hl,rfl⟩
 exact lA (SL.val_good (h l hl))
theorem cells_ok'{cs:List SL}(h:∀l∈cs,l.good):(cs.map SL.val).all bd=true:=by
 simp only[List.all_eq_true,List.mem_map]
 rintro _ ⟨l,hl,rfl⟩
 exact lA (SL.val_good (h l hl))
theorem pO{v:Value}(h:scalar v=true):cu v=true:=by
 cases v<;>first|rfl|(simp[scalar]at h;done)|skip
 case pointer a=>cases a<;>first|rfl|simp[scalar]at h
 case slice a l c=>
  cases a with
  |none=>rfl
  |some a=>cases l<;>cases c<;>simp[scalar]at h
theorem nr(v:Value):(slOf v).val=v:=by cases v<;>rfl
theorem kw{v:Value}(h:scalar v=true):(slOf v).good:=by
 cases v<;>first|trivial|exact pO h
theorem nm{v:Value}{x:S0}(h:s0Of v=some x):x.val=v∧x.good∧ej v=true:=by
 unfold s0Of at h
 split at h
 ·rename_i cs
  split at h
  ·rename_i ha
   cases h
   refine⟨?_,?_,ha⟩
   ·simp only[S0.val,List.map_map,Value.agg.injEq]
    have:(SL.val ∘ slOf)=id:=funext nr
    rw[this,List.map_id]
   ·intro l hl
    simp only[S0.cells,List.mem_map]at hl
    obtain⟨v,hv,rfl⟩:=hl
    exact kw (List.all_eq_true.1 ha v hv)
  ·cases h
 ·rename_i hne
  split at h
  ·rename_i hs
   cases h
   refine⟨nr v,?_,?_⟩
   ·intro l hl
    simp only[S0.cells,List.mem_singleton]at hl
    subst hl
    exact kw hs
   ·cases v<;>first|exact hs|exact absurd rfl (hne _)
  ·cases h
theorem dj{a b:IntKind}(h:eA a b=true):a=b:=by
 cases a<;>cases b<;>first|rfl|cases h
theorem cS(a:IntKind):eA a a=true:=by cases a<;>rfl
section
variable [Val] [Kno]
def Told(sks:List SK)(ls:List Lf)(xs:List S0):Prop:=bI xs sks=true∧bR xs=ls∧∀x∈xs,x.good
def bg(C:Cfg)(Sg:FuncId→Option Sig)(g:FuncId)(ls:List Lf)(H:List HObj)(rs:List Lf)(H':List HObj):Prop:=
 ∃sg xs ys,Sg g=some sg∧Told sg.ps ls xs∧Told sg.rs rs ys∧gS C g (au xs) H (en (au ys)) H'
def CallV(C:Cfg)(v:Value)(args:List Value)(hs:List SK)(H:List HObj)(rs:List Lf)(H':List HObj):Prop:=
 ∃ys,Told hs rs ys∧((∃g first cap,v = .func (.func g) first cap∧gS C g (first.toList++args++cap.toList) H (en (au ys)) H')∨
  (∃l,v = .func (.yield l) #[] #[]∧gT C l args H (en (au ys)) H'))
noncomputable def kH(nt:Nat):List (Nat×SK)→List Value→List Value→List Value
 |(t,_) :: l,v :: vs,tm=>kH nt l vs (tm.set t v)
 |_,_,tm=>tm
noncomputable def lpOf(s:Site)(κ:Nat)(vals:List Value):ALoop:=
 { state:=.ready,pending:=none,fn:=κ,tmps:=kH s.nt s.caps vals (List.replicate s.nt poison),params:=s.params.map (·.1),assign:=s.assign.erase lM,body:=s.body.erase lM }
noncomputable def mC:Lf→Lf→Bool
 | .i a,.i b=>a==b
 | .b a,.b b=>a==b
 |_,_=>false
noncomputable def gc(l:List (Lf×Lf)):Bool:=l.all fun p=>mC p.1 p.2
def ShRun(op:BinOp)(k:IntKind)(x:Int)(k':IntKind)(y n:Int):Prop:=∀(P:Program) (t:TypeId) (w:World),(binOp op t (.int k x) (.int k' y)).run P w = .ok (.int k n) w
structure AlgOk{R HT:Type}(A:Alg R HT)(C:Cfg)(Sg:FuncId→Option Sig)(T:Nat→Site)(holds:R→Prop)(abs:HT→List HObj):Prop where
 fail:¬holds A.fail
 cond:∀b x y,holds (A.cond b x y)→(b=true∧holds x)∨(b=false∧holds y)
 ari:∀op k a b K,holds (A.ari op k a b K)→∃n,ArRun op k a b n∧holds (K n)
 shf:∀op k a k' b K,holds (A.shf op k a k' b K)→∃n,ShRun op k a k' b n∧holds (K n)
 cmp:∀op a b K,holds (A.cmp op a b K)→∃t,kY op a b=some t∧holds (K t)
 eqs:∀l K,holds (A.eqs l K)→holds (K (gc l))
 conv:∀k a K,holds (A.conv k a K)→holds (K (k.wrap a))
 sel:∀t a b K,holds (A.sel t a b K)→holds (K (if t then a else b))
 opt:∀ {α:Type} (o:Option α) K,holds (A.opt o K)→∃x,o=some x∧holds (K x)
 chk:∀v K,holds (A.chk v K)→cu v=true∧holds K
 unI:∀ls K,holds (A.unI ls K)→∃n r,ls = .i n :: r∧holds (K n r)
 unB:∀ls K,holds (A.unB ls K)→∃t r,ls = .b t :: r∧holds (K t r)
 unV:∀ls K,holds (A.unV ls K)→∃x r,ls = .v x :: r∧holds (K x r)
 un0:∀ls K,holds (A.un0 ls K)→ls=[]∧holds K
 ucI:∀k ls K,holds (A.ucI k ls K)→∃n r,ls = .int k n :: r∧holds (K n r)
 ucB:∀ls K,holds (A.ucB ls K)→∃t r,ls = .bool t :: r∧holds (K t r)
 ucV:∀ls K,holds (A.ucV ls K)→∃x r,ls=x :: r∧holds (K x r)
 uc0:∀ls K,holds (A.uc0 ls K)→ls=[]∧holds K
 peek:∀f h K,holds (A.peek f h K)→∃cs,f.run (fun i=>(abs h)[i]?)=some cs∧holds (K cs)
 heap:∀f h K,holds (A.heap f h K)→∃acts cs h',f.run (fun i=>(abs h)[i]?) (abs h).length=some (acts,cs)∧abs h'=fO (abs h) acts∧holds (K cs h')
 new:∀o h K,holds (A.new o h K)→∃h',abs h'=abs h++[o]∧holds (K (abs h).length h')
 call:∀g ls h K,holds (A.call g ls h K)→∃rs h',bg C Sg g ls (abs h) rs (abs h')∧holds (K rs h')
 callv:∀v args hs h K,holds (A.callv v args hs h K)→∃rs h',CallV C v args hs (abs h) rs (abs h')∧holds (K rs h')
 join:∀b m,holds (A.join b m)→holds (m b)
 loop:∀F ls h,holds (A.loop F ls h)→∃it:Nat→List Lf→HT→R,(∀ls h,¬holds (it 0 ls h))∧(∀n ls h,it (n+1) ls h=F (it n) ls h)∧∃n,holds (it n ls h)
 rfun:∀κ v vals h K,holds (A.rfun κ v vals h K)→∃g first cap r H1 lp h2,v = .func (.func g) first cap∧
  gS C g (first.toList++[.func (.yield (abs h).length) #[] #[]]++cap.toList) (abs h++[.loop (lpOf (T κ) κ vals)]) r H1∧
  eN H1 (abs h).length=some lp∧lp.state≠.busy∧abs h2=H1.set (abs h).length (.loop { lp with state:=.exhausted })∧holds (K lp.pending h2)
 pend:∀pd kn kr ks,holds (A.pend pd kn kr ks)→(pd=none∧holds kn)∨(pd=some .ret∧holds kr)∨∃id x,pd=some (.exit id)∧(id,x)∈ks∧holds x
 lp1:∀l h K,holds (A.lp1 l h K)→∃lp h',eN (abs h) l=some lp∧lp.state = .ready∧abs h'=(abs h).set l (.loop { lp with state:=.busy })∧holds (K h')
 lp2:∀l j h K,holds (A.lp2 l j h K)→∃lp h',eN (abs h) l=some lp∧abs h'=(abs h).set l (.loop { lp with state:=if j.isNone then .ready else .done,pending:=j })∧holds (K h')
def SV.ok(tmps:List Value)(i:Nat)(s:SV):Prop:=
 match s with
 | .no=>True
 |s=>tmps[i]? = some s.val∧s.gd
noncomputable def LR.ok(loc:List (Option (List Value)))(i:Nat):LR→Prop
 | .unk=>True
 | .nil=>loc[i]? = some none
 | .any n=>∃vs,loc[i]? = some (some vs)∧vs.length=n
 | .row cs=>loc[i]? = some (some (cs.map SL.val))∧∀c∈cs,c.good
structure Rp(ev:Env)(σ:St):Prop where
 len:ev.tm.length=σ.tmps.length
 val:∀(i:Nat) s,ev.tm[i]? = some s→s.ok σ.tmps i
 llen:ev.lc.length=σ.loc.length
 row:∀(i:Nat) r,ev.lc[i]? = some r→r.ok σ.loc i
theorem SV.ok_gd{tmps:List Value}{i:Nat}{s:SV}(h:s.gd)(hv:tmps[i]? = some s.val):s.ok tmps i:=by
 cases s<;>first|trivial|exact⟨hv,h⟩
theorem Rp.at{ev:Env}{σ:St}(h:Rp ev σ){t:Nat}{s:SV}(hs:ev.tm.getD t .no=s)(hn:s≠.no):σ.tmps[t]? = some s.val∧s.gd:=by
 rw[List.getD_eq_getElem?_getD]at hs
 cases he:ev.tm[t]? with
 |none=>rw[he]at hs;exact absurd hs.symm hn
 |some x=>
  rw[he]at hs
  simp only[Option.getD_some]at hs
  subst hs
  have:=h.val t x he
  cases x<;>first|exact this|exact absurd rfl hn
theorem Rp.sval{ev:Env}{σ:St}(h:Rp ev σ){x:Operand}{s:SV}(hs:sval ev x=s)(hn:s≠.no):oval σ.tmps x=s.val∧s.gd:=by
 cases x with
 |tmp t=>
  obtain⟨h1,h2⟩:=h.at (t:=t) hs hn
  exact⟨by simp[oval,List.getD_eq_getElem?_getD,h1],h2⟩
 |const v=>
  simp only[Am.sval]at hs
  cases hv:s0Of v with
  |none=>rw[hv]at hs;exact absurd hs.symm hn
  |some x=>
   rw[hv]at hs
   subst hs
   obtain⟨h1,h2,h3⟩:=nm hv
   refine⟨?_,h2⟩
   have:flat v=true:=by cases v<;>first|exact h3|(simp[ej,scalar]at h3)
   simp[oval,this,SV.val,h1]
 |global g=>subst hs;exact⟨rfl,trivial⟩
 |func f=>
  subst hs
  refine⟨rfl,fun l hl=>?_⟩
  simp only[S0.cells,List.mem_singleton]at hl
  subst hl
  rfl
theorem Rp.sval0{ev:Env}{σ:St}(h:Rp ev σ){x:Operand}{s:S0}(hs:sval0 ev x=some s):oval σ.tmps x=s.val∧s.good:=by
 unfold Am.sval0 at hs
 split at hs
 ·rename_i y e
  cases hs
  exact h.sval e (by simp)
 ·cases hs
theorem Rp.svals{ev:Env}{σ:St}(h:Rp ev σ):∀ {l:List Operand} {xs:List S0},svals ev l=some xs→l.map (oval σ.tmps)=au xs∧∀x∈xs,x.good
 | [],xs,hs=>by cases hs;exact⟨rfl,by simp⟩
 |o :: l,xs,hs=>by
  simp only[Am.svals]at hs
  split at hs
  ·rename_i x ys e1 e2
   cases hs
   obtain⟨h1,h2⟩:=h.sval0 e1
   obtain⟨h3,h4⟩:=h.svals e2
   refine⟨by simp[au,h1];exact h3,fun y hy=>?_⟩
   rcases List.mem_cons.1 hy with rfl|hy
   ·exact h2
   ·exact h4 y hy
  ·cases hs
theorem Rp.put{ev:Env}{σ:St}(h:Rp ev σ)(d:Nat){s:SV}(hs:s.gd):Rp ⟨ev.tm.set d s,ev.lc⟩ (σ.put (some d) s.val):=by
 refine⟨by simp[St.put,h.len],fun i x hx=>?_,h.llen,h.row⟩
 simp only[List.getElem?_set]at hx
 split at hx
 ·rename_i hi
  subst hi
  split at hx
  ·rename_i hlt
   cases hx
   refine SV.ok_gd hs ?_
   simp only[St.put,List.getElem?_set_self']
   rw[List.getElem?_eq_getElem (by rw[←h.len];exact hlt)]
   rfl
  ·cases hx
 ·rename_i hi
  have:=h.val i x hx
  cases x<;>first|trivial|exact⟨by simp only[St.put];rw[List.getElem?_set_ne hi];exact this.1,this.2⟩
theorem Rp.heap{ev:Env}{σ:St}(h:Rp ev σ)(H:List HObj):Rp ev { σ with heap:=H }:=⟨h.len,h.val,h.llen,h.row⟩
structure Fr(ws ks rs:List Nat)(σ σ':St):Prop where
 tlen:σ'.tmps.length=σ.tmps.length
 llen:σ'.loc.length=σ.loc.length
 tm:∀(i:Nat) v,σ.tmps[i]? = some v→i∉ws→noLoc v=true→σ'.tmps[i]? = some v
 tp:∀(i s off:Nat),σ.tmps[i]? = some (.pointer (some ⟨s,off,some 0⟩))→i∉ws→s∉ks→σ'.tmps[i]? = some (.pointer (some ⟨s,off,some 0⟩))
 row:∀(s:Nat) x,σ.loc[s]? = some x→s∉rs→σ'.loc[s]? = some x
 rlen:∀(s:Nat) vs,σ.loc[s]? = some (some vs)→s∉ks→∃vs',σ'.loc[s]? = some (some vs')∧vs'.length=vs.length
theorem Fr.refl(ws ks rs:List Nat)(σ:St):Fr ws ks rs σ σ:=⟨rfl,rfl,fun _ _ h _ _=>h,fun _ _ _ h _ _=>h,fun _ _ h _=>h,fun _ vs h _=>⟨vs,h,rfl⟩⟩
theorem Fr.trans{ws ks rs:List Nat}{σ σ₁ σ':St}(h:Fr ws ks rs σ σ₁)(h':Fr ws ks rs σ₁ σ'):Fr ws ks rs σ σ':=
 ⟨h'.tlen.trans h.tlen,h'.llen.trans h.llen,fun i v a b c=>h'.tm i v (h.tm i v a b c) b c,fun i s off a b c=>h'.tp i s off (h.tp i s off a b c) b c,
  fun s x a b=>h'.row s x (h.row s x a b) b,fun s vs a b=>let ⟨v1,c1,d1⟩:=h.rlen s vs a b;let ⟨v2,c2,d2⟩:=h'.rlen s v1 c1 b;⟨v2,c2,d2.trans d1⟩⟩
theorem Fr.mono{ws ks rs ws' ks' rs':List Nat}{σ σ':St}(h:Fr ws ks rs σ σ')(h1:∀i∈ws,i∈ws')(h2:∀i∈ks,i∈ks')(h3:∀i∈rs,i∈rs'):Fr ws' ks' rs' σ σ':=
 ⟨h.tlen,h.llen,fun i v a b c=>h.tm i v a (fun hi=>b (h1 i hi)) c,fun i s off a b c=>h.tp i s off a (fun hi=>b (h1 i hi)) (fun hi=>c (h2 s hi)),
  fun s x a b=>h.row s x a (fun hi=>b (h3 s hi)),fun s vs a b=>h.rlen s vs a (fun hi=>b (h2 s hi))⟩
theorem Fr.heap{ws ks rs:List Nat}{σ σ':St}(h:Fr ws ks rs σ σ')(H:List HObj):Fr ws ks rs σ { σ' with heap:=H }:=⟨h.tlen,h.llen,h.tm,h.tp,h.row,h.rlen⟩
theorem Fr.put{σ:St}(dst:Option Tmp)(v:Value)(ks rs:List Nat):Fr dst.toList ks rs σ (σ.put dst v):=by
 cases dst with
 |none=>exact .refl _ _ _ _
 |some d=>
  refine⟨by simp[St.put],rfl,fun i x h hi _=>?_,fun i s off h hi _=>?_,fun _ _ h _=>h,fun _ vs h _=>⟨vs,h,rfl⟩⟩<;>
  ·simp only[Option.toList_some,List.mem_singleton]at hi
   simp only[St.put]
   rw[List.getElem?_set_ne (fun e=>hi e.symm)]
   exact h
end
end Go.Am

/-
 HEAPS AS TREES: what lies at a number is found,and put,in few steps;lists that are forced.
-/
namespace Go.Am
inductive HO where
 |o (x:HObj)
 |lp (κ:Nat) (st:LoopState) (pd:Option Code) (vs:List Value)
abbrev HL:=List HO
inductive CK where
 |f (g:FuncId)
 |y (κ:Nat) (vs:List Value) (l:Nat)
noncomputable def absO(T:Nat→Site):HO→HObj
 | .o x=>x
 | .lp κ st pd vs=>.loop { lpOf (T κ) κ vs with state:=st,pending:=pd }
noncomputable def absH(T:Nat→Site)(h:HL):List HObj:=h.map (absO T)
namespace Sx
inductive HOT where
 |o (x:HObj)
 |lp (κ:Nat) (st:LoopState) (pd:Option Code) (vs:List Value)
 |t (n e:Nat) (rw:Bool) (c:Tr Value)
noncomputable def nilV:Value:=.bool false
noncomputable def bq(c:Tr Value)(n:Nat):List Value:=(List.range n).map fun i=>(bi i).get nilV c
noncomputable def HOT.ho:HOT→HO
 | .o x=>.o x
 | .lp κ st pd vs=>.lp κ st pd vs
 | .t n e rw c=>.o (.cells (bq c n) e rw)
structure HTr where
 n:Nat
 t:Tr HOT
noncomputable def noO:HOT:=.o .dead
noncomputable def HTr.empty:HTr:=⟨0,.leaf⟩
noncomputable def HTr.at(h:HTr)(i:Nat):Option HOT:=match Nat.blt i h.n with
 |true=>some ((bi i).get noO h.t)
 |false=>none
noncomputable def toL(h:HTr):HL:=(List.range h.n).map fun i=>((bi i).get noO h.t).ho
theorem cD(h:HTr):(toL h).length=h.n:=by simp[toL]
theorem gn(h:HTr)(i:Nat):(toL h)[i]? = (h.at i).map HOT.ho:=by
 unfold toL HTr.at
 rw[List.getElem?_map]
 cases e:Nat.blt i h.n with
 |true=>
  rw[Nat.blt_eq]at e
  rw[List.getElem?_range e];rfl
 |false=>
  have:h.n≤i:=by
   rcases Nat.lt_or_ge i h.n with h1|h1
   ·rw[←Nat.blt_eq,e]at h1;cases h1
   ·exact h1
  rw[List.getElem?_eq_none (by simpa using this)];rfl
noncomputable def HTr.put(h:HTr)(i:Nat)(o:HOT):HTr:=match Nat.blt i h.n with
 |true=>⟨h.n,(bi i).set noO h.t o⟩
 |false=>h
noncomputable def HTr.push(h:HTr)(o:HOT):HTr:=⟨h.n+1,(bi h.n).set noO h.t o⟩
theorem fv(h:HTr)(i:Nat)(o:HOT):toL (h.put i o)=(toL h).set i o.ho:=by
 apply List.ext_getElem?
 intro j
 unfold HTr.put
 cases e:Nat.blt i h.n with
 |true=>
  rw[Nat.blt_eq]at e
  simp only
  rw[gn]
  by_cases hj:i=j
  ·subst hj
   rw[List.getElem?_set_self (by rw[cD];exact e)]
   unfold HTr.at
   simp only[(Nat.blt_eq▸e:Nat.blt i h.n=true)]
   rw[Pth.get_set];rfl
  ·rw[List.getElem?_set_ne hj,gn]
   unfold HTr.at
   simp only
   rw[Pth.get_set_ne _ _ _ _ _ (fun h=>hj (ij h).symm)]
 |false=>
  simp only
  have:h.n≤i:=by
   rcases Nat.lt_or_ge i h.n with h1|h1
   ·rw[←Nat.blt_eq,e]at h1;cases h1
   ·exact h1
  rw[List.set_eq_of_length_le (by rw[cD];exact this)]
theorem dY(h:HTr)(o:HOT):toL (h.push o)=toL h++[o.ho]:=by
 apply List.ext_getElem?
 intro j
 rw[gn]
 unfold HTr.push HTr.at
 simp only
 by_cases h1:j<h.n
 ·rw[List.getElem?_append_left (by rw[cD];exact h1),gn]
  unfold HTr.at
  have e1:Nat.blt j (h.n+1)=true:=by rw[Nat.blt_eq];omega
  have e2:Nat.blt j h.n=true:=by rw[Nat.blt_eq];omega
  simp only[e1,e2]
  rw[Pth.get_set_ne _ _ _ _ _ (fun h=>by have:=ij h;omega)]
 ·rw[List.getElem?_append_right (by rw[cD];omega),cD]
  by_cases h2:j=h.n
  ·subst h2
   have e1:Nat.blt h.n (h.n+1)=true:=by rw[Nat.blt_eq];omega
   simp only[e1,Nat.sub_self,List.getElem?_cons_zero]
   rw[Pth.get_set];rfl
  ·have e1:Nat.blt j (h.n+1)=false:=by rw[←Bool.not_eq_true,Nat.blt_eq];omega
   simp only[e1]
   rw[List.getElem?_eq_none (by simp;omega)];rfl
theorem aZ(c:Tr Value)(n:Nat):(bq c n).length=n:=by simp[bq]
theorem cQ(c:Tr Value){n i:Nat}(h:i<n):(bq c n)[i]? = some ((bi i).get nilV c):=by
 unfold bq
 rw[List.getElem?_map,List.getElem?_range h];rfl
noncomputable def insT:List Value→Nat→Tr Value→Tr Value
 | [],_,c=>c
 |v :: l,i,c=>insT l (i+1) ((bi i).set nilV c v)
theorem mR:∀(l:List Value) (i:Nat) (c:Tr Value) (j:Nat),(bi j).get nilV (insT l i c)=if i≤j∧j<i+l.length then l[j - i]?.getD nilV else(bi j).get nilV c
 | [],i,c,j=>by
  have h:¬(i≤j∧j<i+([]:List Value).length):=by intro h;have:=h.2;simp at this;omega
  rw[if_neg h];rfl
 |v :: l,i,c,j=>by
  show(bi j).get nilV (insT l (i+1) _)=_
  rw[mR l (i+1)]
  by_cases h:i+1≤j∧j<i+1+l.length
  ·rw[if_pos h,if_pos (by simp;omega)]
   have:j - i=(j - (i+1))+1:=by omega
   rw[this,List.getElem?_cons_succ]
  ·rw[if_neg h]
   by_cases h2:j=i
   ·subst h2
    rw[Pth.get_set,if_pos (by simp)];simp
   ·rw[Pth.get_set_ne _ _ _ _ _ (fun e=>h2 (ij e)),if_neg (by simp;omega)]
theorem kW{l:List Value}{i n:Nat}{c:Tr Value}(h:i+l.length≤n):bq (insT l i c) n=(bq c n).take i++l++(bq c n).drop (i+l.length):=by
 apply List.ext_getElem?
 intro j
 by_cases hj:j<n
 ·rw[cQ _ hj,mR]
  by_cases h1:j<i
  ·rw[if_neg (by omega),List.append_assoc,List.getElem?_append_left (by rw[List.length_take,aZ];omega),List.getElem?_take_of_lt h1,cQ _ hj]
  ·have hl:((bq c n).take i).length=i:=by rw[List.length_take,aZ];omega
   by_cases h2:j<i+l.length
   ·rw[if_pos ⟨by omega,h2⟩,List.append_assoc,List.getElem?_append_right (by omega),hl,List.getElem?_append_left (by omega)]
    rw[List.getElem?_eq_getElem (by omega)];rfl
   ·rw[if_neg (by omega),List.getElem?_append_right (by rw[List.length_append,hl];omega),List.length_append,hl,List.getElem?_drop,show i+l.length+(j - (i+l.length))=j by omega,cQ _ hj]
 ·rw[List.getElem?_eq_none (by rw[aZ];omega),List.getElem?_eq_none (by simp[aZ];omega)]
theorem ju{l:List Value}{n:Nat}{c:Tr Value}:bq (insT l n c) (n+l.length)=bq c n++l:=by
 apply List.ext_getElem?
 intro j
 by_cases hj:j<n+l.length
 ·rw[cQ _ hj,mR]
  by_cases h1:j<n
  ·rw[if_neg (by omega),List.getElem?_append_left (by rw[aZ];exact h1),cQ _ h1]
  ·rw[if_pos ⟨by omega,hj⟩,List.getElem?_append_right (by rw[aZ];omega),aZ,List.getElem?_eq_getElem (by omega)];rfl
 ·rw[List.getElem?_eq_none (by rw[aZ];omega),List.getElem?_eq_none (by simp[aZ];omega)]
theorem rg(l:List Value):bq (insT l 0 .leaf) l.length=l:=by
 have:=ju (l:=l) (n:=0) (c:=.leaf)
 simpa[bq]using this
noncomputable def rF(c:Tr Value)(n:Nat):Nat→List Value:=Nat.rec (motive:=fun _=>Nat→List Value) (fun _=>[]) (fun _ ih off=>(bi off).get nilV c :: fN (Nat.succ off) ih) n
theorem gM(c:Tr Value):∀(n off m:Nat),off+n≤m→rF c n off=((bq c m).drop off).take n
 |0,_,_,_=>by rw[List.take_zero];rfl
 |n+1,off,m,h=>by
  show(bi off).get nilV c :: rF c n (off+1)=_
  rw[gM c n (off+1) m (by omega)]
  have h1:off<(bq c m).length:=by rw[aZ];omega
  rw[List.drop_eq_getElem_cons h1,List.take_succ_cons]
  congr 1
  have:=cQ c (n:=m) (i:=off) (by omega)
  rw[List.getElem?_eq_getElem h1]at this
  exact(Option.some.inj this).symm
section
variable {R:Type}
noncomputable def putR{α:Type}(d:α)(p:Pth):Tr α→α→(Tr α→R)→R:=
 Pth.rec (motive:=fun _=>Tr α→α→(Tr α→R)→R)
  (fun t x k=>Tr.casesOn t (k (.node x .leaf .leaf)) fun _ l r=>k (.node x l r))
  (fun _ ih t x k=>Tr.casesOn t (ih .leaf x fun l=>k (.node d l .leaf)) fun v l r=>ih l x fun l=>k (.node v l r))
  (fun _ ih t x k=>Tr.casesOn t (ih .leaf x fun r=>k (.node d .leaf r)) fun v l r=>ih r x fun r=>k (.node v l r)) p
theorem gj{α:Type}(d:α):∀(p:Pth) (t:Tr α) (x:α) (k:Tr α→R),putR d p t x k=k (p.set d t x)
 | .e,t,x,k=>by cases t<;>rfl
 | .o p,t,x,k=>by
  cases t with
  |leaf=>exact gj d p .leaf x _
  |node v l r=>exact gj d p l x _
 | .i p,t,x,k=>by
  cases t with
  |leaf=>exact gj d p .leaf x _
  |node v l r=>exact gj d p r x _
noncomputable def putK(h:HTr)(i:Nat)(o:HOT)(k:HTr→R):R:=match Nat.blt i h.n with
 |true=>putR noO (bi i) h.t o fun t=>k ⟨h.n,t⟩
 |false=>k h
noncomputable def fk(h:HTr)(o:HOT)(k:HTr→R):R:=putR noO (bi h.n) h.t o fun t=>fN (Nat.succ h.n) fun n=>k ⟨n,t⟩
theorem fl(h:HTr)(i:Nat)(o:HOT)(k:HTr→R):putK h i o k=k (h.put i o):=by
 unfold putK HTr.put
 split
 ·rename_i e;rw[gj]
 ·rfl
theorem dV(h:HTr)(o:HOT)(k:HTr→R):fk h o k=k (h.push o):=by
 unfold fk HTr.push
 rw[gj,fc]
noncomputable def qD{α:Type}(l:List α):(List α→R)→R:=
 List.rec (motive:=fun _=>(List α→R)→R) (fun k=>k []) (fun x _ ih k=>ih fun l=>k (x :: l)) l
theorem jX{α:Type}:∀(l:List α) (k:List α→R),qD l k=k l
 | [],_=>rfl
 |x :: l,k=>jX l fun l=>k (x :: l)
noncomputable def qE(v:Value)(k:Value→R):R:=match v with
 | .int kd n=>fI n fun n=>k (.int kd n)
 | .bool b=>Bool.rec (k (.bool false)) (k (.bool true)) b
 |v=>k v
theorem plainV_eq(v:Value)(k:Value→R):qE v k=k v:=by
 unfold qE
 split
 ·exact iR _ _
 ·rename_i b;cases b<;>rfl
 ·rfl
noncomputable def insK(l:List Value):Nat→Tr Value→(Tr Value→R)→R:=
 List.rec (motive:=fun _=>Nat→Tr Value→(Tr Value→R)→R) (fun _ c k=>k c) (fun v _ ih i c k=>qE v fun v=>putR nilV (bi i) c v fun c=>fN (Nat.succ i) fun i=>ih i c k) l
theorem jI:∀(l:List Value) (i:Nat) (c:Tr Value) (k:Tr Value→R),insK l i c k=k (insT l i c)
 | [],_,_,_=>rfl
 |v :: l,i,c,k=>by
  show(qE v fun v=>putR nilV (bi i) c v fun c=>fN (Nat.succ i) fun i=>insK l i c k)=_
  rw[plainV_eq,gj,fc,jI l];rfl
noncomputable def kJ(o:HObj)(k:HOT→R):R:=match o with
 | .cells vs e rw=>fN vs.length fun n=>insK vs 0 .leaf fun c=>k (.t n e rw c)
 | .map es c=>qD es fun es=>fN c fun c=>k (.o (.map es c))
 |o=>k (.o o)
theorem fC{o:HObj}{k:HOT→R}:∃x:HOT,x.ho = .o o∧kJ o k=k x:=by
 cases o with
 |cells vs e rw=>
  refine⟨.t vs.length e rw (insT vs 0 .leaf),by simp only[HOT.ho,rg],?_⟩
  show(fN vs.length fun n=>insK vs 0 .leaf fun c=>k (.t n e rw c))=_
  rw[fc,jI]
 |map es c=>
  refine⟨.o (.map es c),rfl,?_⟩
  show(qD es fun es=>fN c fun c=>k (.o (.map es c)))=_
  rw[jX,fc]
 |_=>exact⟨.o _,rfl,rfl⟩
noncomputable def ne(l:List Lf):(List Lf→R)→R:=
 List.rec (motive:=fun _=>(List Lf→R)→R) (fun k=>k []) (fun x _ ih k=>match x with
  | .i n=>fI n fun n=>ih fun l=>k (.i n :: l)
  | .b t=>Bool.rec (ih fun l=>k (.b false :: l)) (ih fun l=>k (.b true :: l)) t
  | .v v=>ih fun l=>k (.v v :: l)) l
theorem dA:∀(l:List Lf) (k:List Lf→R),ne l k=k l
 | [],_=>rfl
 | .i n :: l,k=>(iR n fun n=>ne l fun l=>k (.i n :: l)).trans (dA l _)
 | .b true :: l,k=>dA l fun l=>k (.b true :: l)
 | .b false :: l,k=>dA l fun l=>k (.b false :: l)
 | .v v :: l,k=>dA l fun l=>k (.v v :: l)
end
end Sx
end Go.Am

/-
 THE ALGEBRA OF RUNS: a run that the kernel makes.
-/
namespace Go.Am
section
open Sx
abbrev RT:=Option (List Lf)
abbrev yes:RT:=some []
noncomputable def ans(b:Bool):RT:=match b with|true=>yes|false=>none
abbrev aa:=CK→List Lf→HTr→(List Lf→HTr→RT)→RT
noncomputable def Act1.onH(h:HL):Act1→HL
 | .set i o=>h.set i (.o o)
 | .push o=>h++[.o o]
noncomputable def gY(h:HL)(l:List Act1):HL:=l.foldl Act1.onH h
noncomputable def getH(T:Nat→Site)(h:HL):bW:=fun i=>match h[i]? with
 |some x=>some (absO T x)
 |none=>none
noncomputable def getT(T:Nat→Site)(h:HTr):bW:=fun i=>match h.at i with
 |some x=>some (absO T x.ho)
 |none=>none
noncomputable def qZ(l:List Act1):HTr→(HTr→RT)→RT:=
 List.rec (motive:=fun _=>HTr→(HTr→RT)→RT) (fun h k=>k h) (fun a _ ih h k=>match a with
  | .set i o=>kJ o fun o=>putK h i o fun h=>ih h k
  | .push o=>kJ o fun o=>fk h o fun h=>ih h k) l
noncomputable def condB(b:Bool)(x y:RT):RT:=Bool.rec y x b
noncomputable def outG(k:IntKind)(c:Int)(K:Int→RT):RT:=Bool.rec (fI (k.wrap c) K) (K c) (fits k c)
noncomputable def al(c:Int)(K:Int→RT):RT:=@Bool.rec (fun _=>RT) (fI (IntKind.wrap .i64 c) K) (K c) (@Int.rec (fun _=>Bool) (fun n=>Nat.ble n 9223372036854775807) (fun n=>Nat.ble n 9223372036854775807) c)
noncomputable def em(c:Int)(K:Int→RT):RT:=@Bool.rec (fun _=>RT) (fI (IntKind.wrap .u8 c) K) (K c) (@Int.rec (fun _=>Bool) (fun n=>Nat.ble n 255) (fun _=>false) c)
noncomputable def outK(k:IntKind)(c:Int)(K:Int→RT):RT:=@IntKind.rec (fun _=>RT) (outG .i8 c K) (outG .i16 c K) (outG .i32 c K) (al c K) (em c K) (outG .u16 c K) (outG .u32 c K) (outG .u64 c K) k
noncomputable def addK(a b:Int)(K:Int→RT):RT:=
 Int.rec (fun m=>Int.rec (fun n=>fN (Nat.add m n) fun c=>K (.ofNat c)) (fun n=>Bool.rec (fN (Nat.sub n m) fun c=>K (.negSucc c)) (fN (Nat.sub m (Nat.succ n)) fun c=>K (.ofNat c)) (Nat.blt n m)) b)
  (fun m=>Int.rec (fun n=>Bool.rec (fN (Nat.sub m n) fun c=>K (.negSucc c)) (fN (Nat.sub n (Nat.succ m)) fun c=>K (.ofNat c)) (Nat.blt m n)) (fun n=>fN (Nat.succ (Nat.add m n)) fun c=>K (.negSucc c)) b) a
noncomputable def subK(a b:Int)(K:Int→RT):RT:=
 Int.rec (fun m=>Int.rec (fun n=>Bool.rec (fN (Nat.sub n (Nat.succ m)) fun c=>K (.negSucc c)) (fN (Nat.sub m n) fun c=>K (.ofNat c)) (Nat.ble n m)) (fun n=>fN (Nat.succ (Nat.add m n)) fun c=>K (.ofNat c)) b)
  (fun m=>Int.rec (fun n=>fN (Nat.add m n) fun c=>K (.negSucc c)) (fun n=>Bool.rec (fN (Nat.sub m (Nat.succ n)) fun c=>K (.negSucc c)) (fN (Nat.sub n m) fun c=>K (.ofNat c)) (Nat.ble m n)) b) a
noncomputable def mulK(a b:Int)(K:Int→RT):RT:=
 Int.rec (fun m=>Int.rec (fun n=>fN (Nat.mul m n) fun c=>K (.ofNat c)) (fun n=>Nat.rec (K (.ofNat 0)) (fun m' _=>fN (Nat.add (Nat.mul m n) m') fun c=>K (.negSucc c)) m) b)
  (fun m=>Int.rec (fun n=>Nat.rec (K (.ofNat 0)) (fun n' _=>fN (Nat.add (Nat.mul m n) n') fun c=>K (.negSucc c)) n) (fun n=>fN (Nat.mul (Nat.succ m) (Nat.succ n)) fun c=>K (.ofNat c)) b) a
noncomputable def quoK(a b:Int)(K:Int→RT):RT:=
 Int.rec (fun m=>Int.rec (fun n=>fN (Nat.div m n) fun c=>K (.ofNat c)) (fun _=>fI (Int.tdiv a b) K) b) (fun _=>fI (Int.tdiv a b) K) a
noncomputable def remK(a b:Int)(K:Int→RT):RT:=
 Int.rec (fun m=>Int.rec (fun n=>fN (Nat.mod m n) fun c=>K (.ofNat c)) (fun _=>fI (Int.tmod a b) K) b) (fun _=>fI (Int.tmod a b) K) a
noncomputable def isZ(b:Int):Bool:=Int.rec (fun n=>Nat.beq n 0) (fun _=>false) b
noncomputable def ariB(op:BinOp)(k:IntKind)(a b:Int)(K:Int→RT):RT:=
 match op with
 | .add=>addK a b fun c=>outK k c K
 | .sub=>subK a b fun c=>outK k c K
 | .mul=>mulK a b fun c=>outK k c K
 | .quo=>Bool.rec (quoK a b fun c=>outK k c K) none (isZ b)
 | .rem=>Bool.rec (remK a b K) none (isZ b)
 | .and=>match eqI b 1 with
  |true=>fI (Int.emod a 2) K
  |false=>match a,b with
   | .ofNat m,.ofNat n=>fI (.ofNat (Nat.land m n)) fun c=>outK k c K
   |_,_=>none
 |_=>none
noncomputable def eqZK(a b:Int):Bool:=Int.rec (fun m=>Int.rec (fun n=>Nat.beq m n) (fun _=>false) b) (fun m=>Int.rec (fun _=>false) (fun n=>Nat.beq m n) b) a
noncomputable def notK(b:Bool):Bool:=Bool.rec true false b
noncomputable def cmpB(op:BinOp)(a b:Int)(K:Bool→RT):RT:=
 match op with
 | .eql=>K (eqZK a b)
 | .neq=>K (notK (eqZK a b))
 | .lss=>K (notK (leZ b a))
 | .leq=>K (leZ a b)
 | .gtr=>K (notK (leZ a b))
 | .geq=>K (leZ b a)
 |_=>none
noncomputable def eqBK(a b:Bool):Bool:=Bool.rec (notK b) b a
noncomputable def eqLf(x y:Lf):Bool:=Lf.rec (fun a=>Lf.rec (fun b=>eqZK a b) (fun _=>false) (fun _=>false) y) (fun a=>Lf.rec (fun _=>false) (fun b=>eqBK a b) (fun _=>false) y) (fun _=>false) x
noncomputable def eqsV(l:List (Lf×Lf)):Bool:=List.rec true (fun p _ ih=>Bool.rec false ih (eqLf p.1 p.2)) l
noncomputable def eqsB(l:List (Lf×Lf))(K:Bool→RT):RT:=K (eqsV l)
noncomputable def convB(k:IntKind)(a:Int)(K:Int→RT):RT:=outK k a K
noncomputable def selB(t:Bool)(a b:Int)(K:Int→RT):RT:=Bool.rec (K b) (K a) t
noncomputable def optB{α:Type}(o:Option α)(K:α→RT):RT:=Option.rec none K o
noncomputable def unIB(ls:List Lf)(K:Int→List Lf→RT):RT:=List.rec none (fun x r _=>Lf.rec (fun n=>K n r) (fun _=>none) (fun _=>none) x) ls
noncomputable def unBB(ls:List Lf)(K:Bool→List Lf→RT):RT:=List.rec none (fun x r _=>Lf.rec (fun _=>none) (fun n=>K n r) (fun _=>none) x) ls
noncomputable def unVB(ls:List Lf)(K:Value→List Lf→RT):RT:=List.rec none (fun x r _=>Lf.rec (fun _=>none) (fun _=>none) (fun n=>K n r) x) ls
noncomputable def un0B(ls:List Lf)(K:RT):RT:=List.rec K (fun _ _ _=>none) ls
noncomputable def ucIB(k:IntKind)(ls:List Value)(K:Int→List Value→RT):RT:=match ls with | .int k' n :: r=>(match eA k k' with|true=>K n r|false=>none)|_=>none
noncomputable def ucBB(ls:List Value)(K:Bool→List Value→RT):RT:=match ls with | .bool n :: r=>K n r|_=>none
noncomputable def ucVB(ls:List Value)(K:Value→List Value→RT):RT:=match ls with|n :: r=>K n r|_=>none
noncomputable def uc0B(ls:List Value)(K:RT):RT:=match ls with | []=>K|_=>none
noncomputable def spot0(s:Option Nat):Bool:=match s with
 |none=>true
 |some k=>match k with
  |0=>false
  |_=>true
noncomputable def goodF(v:Value):Bool:=match v with
 | .pointer (some a)=>spot0 a.spot
 | .slice (some a) _ _=>spot0 a.spot
 |v=>cu v
noncomputable def chkB(v:Value)(K:RT):RT:=match goodF v with|true=>K|false=>none
noncomputable def lenR{α:Type}(l:List α):Nat:=List.rec 0 (fun _ _ n=>Nat.succ n) l
noncomputable def ldB(n:Nat)(p:Value)(h:HTr)(K:List Value→RT):RT:=match p with
 | .pointer (some a)=>match a.spot with
  |none=>match h.at a.block with
   |some (.t m _ _ c)=>match Nat.ble (Nat.add a.off n) m with
    |true=>K (rF c n a.off)
    |false=>none
   |_=>none
  |some _=>none
 |_=>none
noncomputable def lgB(C:Cfg)(n:Nat)(p:Value)(h:HTr)(K:List Value→RT):RT:=match p with
 | .pointer (some a)=>match a.spot with
  |none=>match h.at a.block with
   |some (.t m _ _ c)=>match Nat.ble (Nat.add a.off n) m with
    |true=>K (rF c n a.off)
    |false=>none
   |_=>none
  |some k=>match Nat.beq k 1 with
   |true=>match C.G a.block with
    |some vs=>match cutL vs a.off n with
     |some cs=>K cs
     |none=>none
    |none=>none
   |false=>none
 |_=>none
noncomputable def peekB(T:Nat→Site)(f:Pk)(h:HTr)(K:List Value→RT):RT:=match f with
 | .ld n p=>ldB n p h K
 | .lg C n p=>lgB C n p h K
 | .fn f=>match f (getT T h)with|some x=>K x|none=>none
noncomputable def stB(p:Value)(new:List Value)(h:HTr)(K:List Value→HTr→RT):RT:=match p with
 | .pointer (some a)=>match a.spot with
  |none=>match h.at a.block with
   |some (.t m e true c)=>match Nat.ble (Nat.add a.off (lenR new)) m with
    |true=>insK new a.off c fun c=>putK h a.block (.t m e true c) fun h=>K [] h
    |false=>none
   |_=>none
  |some _=>none
 |_=>none
noncomputable def tagB(s:Option Nat)(esz:Nat):Bool:=match s with
 |none=>false
 |some k=>Nat.beq k (Nat.add esz 10)
noncomputable def slB(C:Cfg)(T:Nat→Site)(esz:Nat)(x:Value)(h:HTr)(K:List Value→Nat→RT):RT:=match x with
 | .slice (some a) len _=>match tagB a.spot esz with
  |true=>match h.at a.block with
   |some (.t m e _ c)=>match Nat.beq e esz,Nat.ble (Nat.add a.off (Nat.mul len esz)) m with
    |true,true=>K (rF c (Nat.mul len esz) a.off) len
    |_,_=>none
   |_=>none
  |false=>match slG C esz (getT T h) x with
   |some p=>K p.1 p.2
   |none=>none
 |x=>match slG C esz (getT T h) x with
  |some p=>K p.1 p.2
  |none=>none
noncomputable def growB(c:Tr Value)(m off w esz:Nat)(new:List Value)(k:HOT→RT):RT:=match Nat.beq off 0,Nat.beq w m with
 |true,true=>insK new m c fun c=>fN (Nat.add m (lenR new)) fun m=>k (.t m esz true c)
 |_,_=>kJ (.cells (rF c w off++new) esz true) k
noncomputable def apB(T:Nat→Site)(C:Cfg)(esz bytes:Nat)(s x:Value)(h:HTr)(K:List Value→HTr→RT):RT:=
 slB C T esz x h fun new n=>match s with
  | .slice none 0 0=>match n with
   |0=>K [.slice none 0 0] h
   |n+1=>match df (n+1) bytes with
    |true=>kJ (.cells new esz true) fun o=>fk h o fun h'=>fN (n+1) fun n=>K [.slice (some ⟨h.n,0,tag esz⟩) n 0] h'
    |false=>none
  | .slice (some a) len cx=>match tagB a.spot esz with
   |false=>none
   |true=>match h.at a.block with
    |some (.t m e rw c)=>match Nat.beq e esz,Nat.ble (Nat.add a.off (Nat.mul len esz)) m with
     |true,true=>match cx with
      |0=>match n with
       |0=>K [.slice (some a) len 0] h
       |n+1=>match rw,df (len+(n+1)) bytes with
        |true,true=>growB c m a.off (Nat.mul len esz) esz new fun o=>putK h a.block (.o .dead) fun h'=>fk h' o fun h''=>fN (len+(n+1)) fun l=>K [.slice (some ⟨h.n,0,tag esz⟩) l 0] h''
        |_,_=>none
      |cap+1=>match Nat.ble (len+n) cap with
       |true=>match rw,Nat.ble (Nat.add (Nat.add a.off (Nat.mul len esz)) (lenR new)) m with
        |true,true=>insK new (Nat.add a.off (Nat.mul len esz)) c fun c=>putK h a.block (.t m e true c) fun h'=>fN (len+n) fun l=>K [.slice (some a) l (cap+1)] h'
        |_,_=>none
       |false=>match df (len+n) bytes with
        |true=>growB c m a.off (Nat.mul len esz) esz new fun o=>fk h o fun h'=>fN (len+n) fun l=>K [.slice (some ⟨h.n,0,tag esz⟩) l 0] h'
        |false=>none
     |_,_=>none
    |_=>none
  |_=>none
noncomputable def pv(T:Nat→Site)(f:Hp)(h:HTr)(K:List Value→HTr→RT):RT:=match f with
 | .st p new=>stB p new h K
 | .ap C esz bytes s x=>apB T C esz bytes s x h K
 | .fn f=>match f (getT T h) h.n with|some p=>qD p.2 fun cs=>qZ p.1 h fun h=>K cs h|none=>none
noncomputable def newB(o:HObj)(h:HTr)(K:Nat→HTr→RT):RT:=kJ o fun o=>fk h o fun h'=>K h.n h'
noncomputable def toSL(k:LK)(v:Value):Option SL:=
 match k with
 | .i k=>match v with
  | .int k' n=>match eA k' k with
   |true=>some (.i k' n)
   |false=>none
  |_=>none
 | .b=>match v with
  | .bool t=>some (.b t)
  |_=>none
 | .v=>match cu v with
  |true=>some (.v v)
  |false=>none
noncomputable def toSLs:List LK→List Value→Option (List SL)
 | [],[]=>some []
 |k :: ks,v :: vs=>match toSL k v with
  |some x=>match toSLs ks vs with
   |some xs=>some (x :: xs)
   |none=>none
  |none=>none
 |_,_=>none
noncomputable def toS0(sk:SK)(v:Value):Option S0:=
 match sk with
 | .leaf k=>(toSL k v).map .leaf
 | .agg ks=>match v with
  | .agg cs=>(toSLs ks cs.toList).map .agg
  |_=>none
noncomputable def toS0s:List SK→List Value→Option (List S0)
 | [],[]=>some []
 |k :: ks,v :: vs=>match toS0 k v with
  |some x=>match toS0s ks vs with
   |some xs=>some (x :: xs)
   |none=>none
  |none=>none
 |_,_=>none
noncomputable def eqLK:LK→LK→Bool
 | .i a,.i b=>eA a b
 | .b,.b=>true
 | .v,.v=>true
 |_,_=>false
noncomputable def eqLKs:List LK→List LK→Bool
 | [],[]=>true
 |a :: l,b :: m=>eqLK a b&&eqLKs l m
 |_,_=>false
noncomputable def eqSK:SK→SK→Bool
 | .leaf a,.leaf b=>eqLK a b
 | .agg a,.agg b=>eqLKs a b
 |_,_=>false
noncomputable def eqSKs:List SK→List SK→Bool
 | [],[]=>true
 |a :: l,b :: m=>eqSK a b&&eqSKs l m
 |_,_=>false
noncomputable def eL(ls:List Lf):Bool:=List.rec true (fun l _ ih=>match l with
 | .v x=>(match goodF x with
  |true=>ih
  |false=>false)
 |_=>ih) ls
section
variable (Sg:FuncId→Option Sig) (T:Nat→Site) (call:aa)
noncomputable def iP(g:FuncId)(ls:List Lf)(h:HTr)(K:List Lf→HTr→RT):RT:=match eL ls with|true=>call (.f g) ls h K|false=>none
noncomputable def ja(g:FuncId)(hs:Option (List SK))(vals:List Value)(h:HTr)(K:List Lf→HTr→RT):RT:=
 match Sg g with
 |none=>none
 |some sg=>match (match hs with|none=>true|some hs=>eqSKs sg.rs hs)with
  |false=>none
  |true=>match toS0s sg.ps vals with
   |none=>none
   |some xs=>iP call g (bR xs) h K
noncomputable def db(v:Value)(args:List Value)(hs:List SK)(h:HTr)(K:List Lf→HTr→RT):RT:=
 match v with
 | .func fn first cap=>match fn with
  | .func g=>ja Sg call g (some hs) (first.toList++args++cap.toList) h K
  | .yield l=>match first.toList,cap.toList with
   | [],[]=>match h.at l with
    |some (.lp κ _ _ vs)=>match eqSKs [.leaf .b] hs with
     |false=>none
     |true=>match toS0s ((T κ).params.map (·.2)) args with
      |none=>none
      |some xs=>match eL (bR xs)with
       |true=>call (.y κ vs l) (bR xs) h K
       |false=>none
    |_=>none
   |_,_=>none
  |_=>none
 |_=>none
noncomputable def pK(κ:Nat)(v:Value)(vals:List Value)(h:HTr)(K:Option Code→HTr→RT):RT:=
 match v with
 | .func fn first cap=>match fn with
  | .func g=>fk h (.lp κ .ready none vals) fun h0=>ja Sg call g none (first.toList++[.func (.yield h.n) #[] #[]]++cap.toList) h0 fun _ h1=>match h1.at h.n with
   |some (.lp κ' st pd vs)=>match st with
    | .busy=>none
    |_=>putK h1 h.n (.lp κ' .exhausted pd vs) fun h2=>K pd h2
   |_=>none
  |_=>none
 |_=>none
noncomputable def pendB(pd:Option Code)(kn kr:RT)(ks:List (Nat×RT)):RT:=
 match pd with
 |none=>kn
 |some c=>match c with
  | .ret=>kr
  | .exit id=>List.rec none (fun p _ ih=>match Nat.beq p.1 id with|true=>p.2|false=>ih) ks
  |_=>none
noncomputable def lp1B(l:Nat)(h:HTr)(K:HTr→RT):RT:=
 match h.at l with
 |some (.lp κ st pd vs)=>match st with
  | .ready=>putK h l (.lp κ .busy pd vs) K
  |_=>none
 |_=>none
noncomputable def lp2B(l:Nat)(j:Option Code)(h:HTr)(K:HTr→RT):RT:=
 match h.at l with
 |some (.lp κ _ _ vs)=>match j with
  |none=>putK h l (.lp κ .ready none vs) K
  |some c=>putK h l (.lp κ .done (some c) vs) K
 |_=>none
end
noncomputable def bk(F:(List Lf→HTr→RT)→List Lf→HTr→RT)(ls:List Lf)(h:HTr):RT:=
 Nat.rec (motive:=fun _=>List Lf→HTr→RT) (fun _ _=>none) (fun _ ih ls h=>F ih ls h) 1000000 ls h
noncomputable def bh(b:List Lf→HTr→RT)(m:(List Lf→HTr→RT)→RT):RT:=m b
noncomputable def shfB(op:BinOp)(k:IntKind)(a:Int)(_:IntKind)(b:Int)(K:Int→RT):RT:=match leZ 0 b with
 |true=>match op with
  | .shl=>fI (k.wrap (a*2 ^ min b.toNat k.bits)) K
  | .shr=>fI (a.fdiv (2 ^ min b.toNat k.bits)) K
  |_=>none
 |false=>none
noncomputable def BA(Sg:FuncId→Option Sig)(T:Nat→Site)(call:aa):Alg RT HTr where
 fail:=none
 cond:=condB
 ari:=ariB
 shf:=shfB
 cmp:=cmpB
 eqs:=eqsB
 conv:=convB
 sel:=selB
 opt:=optB
 chk:=chkB
 unI:=unIB
 unB:=unBB
 unV:=unVB
 un0:=un0B
 ucI:=ucIB
 ucB:=ucBB
 ucV:=ucVB
 uc0:=uc0B
 peek:=peekB T
 heap:=pv T
 new:=newB
 call:=iP call
 callv:=db Sg T call
 join:=bh
 loop:=bk
 rfun:=pK Sg call
 pend:=pendB
 lp1:=lp1B
 lp2:=lp2B
end
end Go.Am


/-
  PART 3 OF THE PROOF: Gf Am7 Am8 Am8b Am8c Sx5 Ht1 Sx4 Sx5d Sx6 Sx6b Sx6c (no conditions).
-/
import Derived.Test.YtdafccenakomlaaGreatDoorOC2
import Derived.IntWalk
set_option linter.unusedSectionVars false
set_option linter.unusedSimpArgs false
set_option linter.unusedVariables false
set_option linter.constructorNameAsVariable false
set_option linter.defProp false
noncomputable section
/-
 WHAT EACH FUNCTION DOES,BY PROGRAM.
-/
set_option maxRecDepth 100000
namespace Go.Am
section
variable {R HT:Type} (A:Alg R HT)
/-- crimp/crimplaw26.OrdersCompare -/
def f3(ls:List Lf)(h:HT)(K:List Lf->HT->R):R:=A.unV ls (λx6 e0=>A.unV e0 (λb2 e1=>A.unI e1 (λn10 e2=>A.un0 e2 ( A.opt (lenS x6) (λx12=>A.cmp .gtr x12 6 (λf0=>A.cond f0 ( A.call 4 [] h (λf1 f2=>A.unB f1 (λgl g0=>A.un0 g0 ( K [(.b gl)] f2)))) ( A.opt (lenS b2) (λg1=>A.cmp .gtr g1 6 (λg2=>A.cond g2 ( A.call 4 [] h (λg3 g4=>A.unB g3 (λg5 g6=>A.un0 g6 ( K [(.b g5)] g4)))) ( A.cmp .gtr n10 0 (λg7=>A.join (λg8 g9=>A.unV g8 (λO h0=>A.un0 h0 ( A.join (λh1 a1=>A.unI h1 (λn31 h2=>A.un0 h2 ( A.cmp .eql n31 0 (λh3=>A.cond h3 ( A.opt (lenS x6) (λh4=>A.opt (lenS O) (λh5=>A.cmp .neq h4 h5 (λh6=>A.join (λh7 h8=>A.unI h7 (λn39 h9=>A.un0 h9 ( A.join (λi0 i1=>A.unB i0 (λi2 j0=>A.un0 j0 ( K [(.b i2)] i1))) (λa5=>A.call 6 [(.i 0),(.i 0),(.v (.slice none 0 0)),(.i 0),(.i 0),(.i 0),(.v x6),(.i 0),(.i 0),(.v (.slice none 0 0)),(.i 0),(.i 0),(.i 0),(.v O)] h8 (λj1 b3=>A.unI j1 (λn48 j2=>A.un0 j2 ( A.cmp .eql n48 n39 (λj3=>A.cond j3 ( A.call 6 [(.i 0),(.i 0),(.v (.slice none 0 0)),(.i 0),(.i 0),(.i 0),(.v O),(.i 0),(.i 0),(.v (.slice none 0 0)),(.i 0),(.i 0),(.i 0),(.v x6)] b3 (λj4 b4=>A.unI j4 (λn53 j5=>A.un0 j5 ( A.ari .sub .i64 0 n39 (λn55=>A.cmp .eql n53 n55 (λj6=>A.cond j6 ( A.call 4 [] b4 (λj7 j8=>A.unB j7 (λj9 k0=>A.un0 k0 ( a5 [(.b j9)] j8)))) ( a5 [(.b false)] b4))))))) ( a5 [(.b false)] b3))))))))) (λb5=>A.cond h6 ( A.opt (lenS x6) (λk1=>A.opt (lenS O) (λk2=>A.cmp .lss k1 k2 (λk3=>A.join (λk4 k5=>A.unI k4 (λn67 k6=>A.un0 k6 ( b5 [(.i n67)] k5))) (λb6=>A.cond k3 ( b6 [(.i (-1))] a1) ( b6 [(.i 1)] a1)))))) ( b5 [(.i n31)] a1)))))) ( A.join (λk7 k8=>A.unB k7 (λk9 l0=>A.un0 l0 ( K [(.b k9)] k8))) (λa6=>A.call 6 [(.i 0),(.i 0),(.v (.slice none 0 0)),(.i 0),(.i 0),(.i 0),(.v x6),(.i 0),(.i 0),(.v (.slice none 0 0)),(.i 0),(.i 0),(.i 0),(.v O)] a1 (λl1 b7=>A.unI l1 (λn77 l2=>A.un0 l2 ( A.cmp .eql n77 n31 (λl3=>A.cond l3 ( A.call 6 [(.i 0),(.i 0),(.v (.slice none 0 0)),(.i 0),(.i 0),(.i 0),(.v O),(.i 0),(.i 0),(.v (.slice none 0 0)),(.i 0),(.i 0),(.i 0),(.v x6)] b7 (λl4 b8=>A.unI l4 (λn82 l5=>A.un0 l5 ( A.ari .sub .i64 0 n31 (λn84=>A.cmp .eql n82 n84 (λl6=>A.cond l6 ( A.call 4 [] b8 (λl7 l8=>A.unB l7 (λl9 m0=>A.un0 m0 ( a6 [(.b l9)] l8)))) ( a6 [(.b false)] b8))))))) ( a6 [(.b false)] b7))))))))))) (λa7=>A.loop (λm1 m2 J=>A.unI m2 (λa2 m3=>A.unI m3 (λn96 m4=>A.un0 m4 ( A.opt (lenS x6) (λm5=>A.cmp .lss n96 m5 (λm6=>A.cond m6 ( A.opt (lenS O) (λm7=>A.cmp .lss n96 m7 (λm8=>A.cond m8 ( A.cmp .eql a2 0 (λm9=>A.cond m9 ( A.opt (idS 4 x6 n96) (λn0=>A.opt (fdP 3 n0) (λb9=>A.chk b9 ( A.peek (.lg cc 1 b9) J (λn1=>A.ucV n1 (λc0 n2=>A.chk c0 ( A.uc0 n2 ( A.opt (lenS c0) (λo0=>A.cmp .gtr o0 5 (λo1=>A.cond o1 ( A.call 4 [] J (λo2 o3=>A.unB o2 (λo4 o5=>A.un0 o5 ( K [(.b o4)] o3)))) ( A.opt (idS 4 O n96) (λo6=>A.opt (fdP 3 o6) (λc1=>A.chk c1 ( A.peek (.lg cc 1 c1) J (λo7=>A.ucV o7 (λd0 o8=>A.chk d0 ( A.uc0 o8 ( A.opt (lenS d0) (λo9=>A.cmp .gtr o9 5 (λp0=>A.cond p0 ( A.call 4 [] J (λp1 p2=>A.unB p1 (λp3 p4=>A.un0 p4 ( K [(.b p3)] p2)))) ( A.opt (idS 4 x6 n96) (λp5=>A.peek (.lg cc 4 p5) J (λp6=>A.ucI .i64 p6 (λp7 p8=>A.ucI .i64 p8 (λp9 q0=>A.ucI .u8 q0 (λq1 q2=>A.ucV q2 (λd1 q3=>A.chk d1 ( A.uc0 q3 ( A.opt (idS 4 O n96) (λq4=>A.peek (.lg cc 4 q4) J (λq5=>A.ucI .i64 q5 (λq6 q7=>A.ucI .i64 q7 (λq8 q9=>A.ucI .u8 q9 (λr1 r2=>A.ucV r2 (λd2 r3=>A.chk d2 ( A.uc0 r3 ( A.call 5 [(.i p7),(.i p9),(.i q1),(.v d1),(.i q6),(.i q8),(.i r1),(.v d2)] J (λr4 r5=>A.unI r4 (λr6 r7=>A.un0 r7 ( A.ari .add .i64 n96 1 (λr8=>m1 [(.i r6),(.i r8)] r5))))))))))))))))))))))))))))))))))))))))) ( a7 [(.i a2)] J))) ( a7 [(.i a2)] J)))) ( a7 [(.i a2)] J))))))) [(.i 0),(.i 0)] g9)))) (λa8=>A.cond g7 ( A.loop (λr9 sR V=>A.unV sR (λU sS=>A.unI sS (λa3 sU=>A.un0 sU ( A.opt (lenS x6) (λsV=>A.cmp .lss a3 sV (λsW=>A.cond sW ( A.opt (idS 4 x6 a3) (λsX=>A.opt (fdP 0 sX) (λa0=>A.chk a0 ( A.peek (.lg cc 3 a0) V (λsY=>A.ucI .i64 sY (λsZ s0=>A.ucI .i64 s0 (λs1 s2=>A.ucI .u8 s2 (λs3 s4=>A.uc0 s4 ( A.new (.cells [] 1 true) V (λa4 d3=>A.opt (idS 4 x6 a3) (λs5=>A.opt (fdP 3 s5) (λa9=>A.chk a9 ( A.peek (.lg cc 1 a9) d3 (λs6=>A.ucV s6 (λd4 s7=>A.chk d4 ( A.uc0 s7 ( A.heap (.ap cc 1 8 (.slice (some ⟨a4,0,(some 11)⟩) 0 1) d4) d3 (λs8 s9=>A.ucV s8 (λb0 ta=>A.chk b0 ( A.uc0 ta ( A.new (.cells [(.int .i64 sZ),(.int .i64 s1),(.int .u8 s3),b0] 4 true) s9 (λtb tg=>A.heap (.ap cc 4 48 U (.slice (some ⟨tb,0,(some 14)⟩) 1 2)) tg (λth ti=>A.ucV th (λd5 tj=>A.chk d5 ( A.uc0 tj ( A.opt (Sx.sepL [((.slice (some ⟨a4,0,(some 11)⟩) 0 1),(0,a0)),((.slice (some ⟨a4,0,(some 11)⟩) 0 1),(0,a9)),((.slice (some ⟨a4,0,(some 11)⟩) 0 1),(0,a0)),(b0,(0,a0))]) (λtT=>A.ari .add .i64 a3 1 (λtn=>r9 [(.v d5),(.i tn)] ti)))))))))))))))))))))))))))) ( A.opt (lenS U) (λtq=>A.cmp .gtr tq 0 (λtr=>A.cond tr ( A.conv .i64 n10 (λtt=>A.opt (lenS U) (λtu=>A.ari .rem .i64 tt tu (λtv=>A.opt (idS 4 U tv) (λtw=>A.opt (fdP 3 tw) (λd6=>A.chk d6 ( A.peek (.lg cc 1 d6) V (λtz=>A.ucV tz (λd7 tA=>A.chk d7 ( A.uc0 tA ( A.opt (lenS d7) (λtB=>A.cmp .gtr tB 0 (λtC=>A.join (λtD tE=>A.un0 tD ( a8 [(.v U)] tE)) (λd8=>A.cond tC ( A.conv .i64 n10 (λtF=>A.opt (lenS U) (λtG=>A.ari .rem .i64 tF tG (λtH=>A.opt (idS 4 U tH) (λtI=>A.opt (fdP 3 tI) (λd9=>A.chk d9 ( A.peek (.lg cc 1 d9) V (λtJ=>A.ucV tJ (λb1 tK=>A.chk b1 ( A.uc0 tK ( A.ari .quo .u8 n10 8 (λtL=>A.conv .i64 tL (λtM=>A.opt (lenS b1) (λtN=>A.ari .rem .i64 tM tN (λtO=>A.ari .rem .u8 n10 3 (λtP=>A.conv .i64 tP (λtQ=>A.opt (idS 1 b1 tO) (λtR=>A.heap (.st tR [(.int .i64 tQ)]) V (λtU tS=>d8 [] tS))))))))))))))))))) ( d8 [] V))))))))))))))) ( a8 [(.v U)] V)))))))))) [(.v (.slice none 0 0)),(.i 0)] h) ( a8 [(.v b2)] h)))))))))))))
/-- crimp/crimplaw26.lives -/
def f4(ls:List Lf)(h:HT)(K:List Lf->HT->R):R:=A.un0 ls ( A.new (.cells [] 1 true) h (λb0 b1=>A.new (.cells [(.int .u8 2)] 1 true) b1 (λb2 b3=>A.new (.cells [(.int .u8 3)] 1 true) b3 (λb4 b5=>A.new (.cells [(.int .u8 2),(.int .u8 2)] 1 true) b5 (λb6 b7=>A.new (.cells [(.int .u8 2),(.int .u8 1)] 1 true) b7 (λb8 b9=>A.new (.cells [(.int .u8 3),(.int .u8 3)] 1 true) b9 (λc0 c1=>A.new (.cells [(.slice (some ⟨b0,0,(some 11)⟩) 0 1),(.slice (some ⟨b2,0,(some 11)⟩) 1 2),(.slice (some ⟨b4,0,(some 11)⟩) 1 2),(.slice (some ⟨b6,0,(some 11)⟩) 2 3),(.slice (some ⟨b8,0,(some 11)⟩) 2 3),(.slice (some ⟨c0,0,(some 11)⟩) 2 3)] 1 true) c1 (λa1 d0=>A.new (.cells [(.int .i64 1),(.int .i64 1),(.int .i64 2),(.int .i64 2),(.int .i64 1),(.int .i64 6)] 1 true) d0 (λd1 d2=>A.loop (λd3 d4 U=>A.unI d4 (λn25 d5=>A.un0 d5 ( A.opt (lenS (.slice (some ⟨a1,0,(some 11)⟩) 6 7)) (λd6=>A.cmp .lss n25 d6 (λd7=>A.cond d7 ( A.opt (idS 1 (.slice (some ⟨a1,0,(some 11)⟩) 6 7) n25) (λd8=>A.peek (.lg cc 1 d8) U (λd9=>A.ucV d9 (λa2 e0=>A.chk a2 ( A.uc0 e0 ( A.call 8 [(.v a2)] U (λe1 e2=>A.unI e1 (λn35 f0=>A.unI f0 (λn37 f1=>A.unV f1 (λf2 gl=>A.un0 gl ( A.call 9 [] e2 (λg0 g1=>A.unI g0 (λn43 g2=>A.unI g2 (λn45 g3=>A.unI g3 (λn47 g4=>A.un0 g4 ( A.call 7 [(.i n35),(.i n37),(.v f2),(.i n43),(.i n45),(.i n47),(.i 100)] g1 (λg5 V=>A.unI g5 (λn51 g6=>A.unI g6 (λn53 g7=>A.un0 g7 ( A.opt (idS 1 (.slice (some ⟨d1,0,(some 11)⟩) 6 7) n25) (λg8=>A.peek (.lg cc 1 g8) V (λg9=>A.ucI .i64 g9 (λh0 h1=>A.uc0 h1 ( A.cmp .neq n51 h0 (λh2=>A.cond h2 ( K [(.b false)] V) ( A.cmp .neq n53 0 (λh3=>A.cond h3 ( K [(.b false)] V) ( A.ari .add .i64 n25 1 (λh4=>d3 [(.i h4)] V))))))))))))))))))))))))))))) ( A.opt (idS 1 (.slice (some ⟨a1,0,(some 11)⟩) 6 7) 2) (λh5=>A.peek (.lg cc 1 h5) U (λh6=>A.ucV h6 (λa3 h7=>A.chk a3 ( A.uc0 h7 ( A.call 8 [(.v a3)] U (λh8 h9=>A.unI h8 (λn68 i0=>A.unI i0 (λn70 i1=>A.unV i1 (λi2 j0=>A.un0 j0 ( A.call 9 [] h9 (λj1 j2=>A.unI j1 (λn76 j3=>A.unI j3 (λn78 j4=>A.unI j4 (λn80 j5=>A.un0 j5 ( A.call 10 [(.i n68),(.i n70),(.v i2),(.i n76),(.i n78),(.i n80)] j2 (λj6 J=>A.unI j6 (λn84 j7=>A.unI j7 (λn86 j8=>A.unV j8 (λo0 j9=>A.unI j9 (λo1 k0=>A.unI k0 (λo2 k1=>A.unI k1 (λo3 k2=>A.unV k2 (λa0 k3=>A.unI k3 (λn98 k4=>A.un0 k4 ( A.join (λk5 k6=>A.unB k5 (λk7 k8=>A.un0 k8 ( K [(.b k7)] k6))) (λO=>A.cmp .eql n98 0 (λk9=>A.cond k9 ( A.opt (lenS a0) (λl0=>A.cmp .eql l0 4 (λl1=>A.cond l1 ( A.opt (idS 4 a0 0) (λl2=>A.opt (fdP 3 l2) (λa4=>A.chk a4 ( A.peek (.lg cc 1 a4) J (λl3=>A.ucV l3 (λa5 l4=>A.chk a5 ( A.uc0 l4 ( A.opt (lenS a5) (λl5=>A.cmp .eql l5 2 (λl6=>A.cond l6 ( A.opt (idS 4 a0 0) (λl7=>A.opt (fdP 3 l7) (λa6=>A.chk a6 ( A.peek (.lg cc 1 a6) J (λl8=>A.ucV l8 (λa7 l9=>A.chk a7 ( A.uc0 l9 ( A.opt (idS 1 a7 0) (λm0=>A.peek (.lg cc 1 m0) J (λm1=>A.ucI .i64 m1 (λm2 m3=>A.uc0 m3 ( A.cmp .eql m2 0 (λm4=>A.cond m4 ( A.opt (idS 4 a0 0) (λm5=>A.opt (fdP 3 m5) (λa8=>A.chk a8 ( A.peek (.lg cc 1 a8) J (λm6=>A.ucV m6 (λa9 m7=>A.chk a9 ( A.uc0 m7 ( A.opt (idS 1 a9 1) (λm8=>A.peek (.lg cc 1 m8) J (λm9=>A.ucI .i64 m9 (λn0 n1=>A.uc0 n1 ( A.cmp .eql n0 4 (λn2=>O [(.b n2)] J))))))))))))) ( O [(.b false)] J)))))))))))))) ( O [(.b false)] J))))))))))) ( O [(.b false)] J)))) ( O [(.b false)] J)))))))))))))))))))))))))))))))))) [(.i 0)] d2)))))))))
/-- crimp/crimplaw26.compared -/
def f5(ls:List Lf)(h:HT)(K:List Lf->HT->R):R:=A.unI ls (λn6 a1=>A.unI a1 (λn8 a2=>A.unI a2 (λn10 a3=>A.unV a3 (λx12 a4=>A.unI a4 (λn14 a5=>A.unI a5 (λn16 a6=>A.unI a6 (λn18 a7=>A.unV a7 (λa8 a9=>A.un0 a9 ( A.conv .i64 n10 (λn22=>A.new (.cells [(.int .i64 n8),(.int .i64 n6),(.int .i64 n22)] 1 true) h (λb0 b1=>A.conv .i64 n18 (λn25=>A.new (.cells [(.int .i64 n16),(.int .i64 n14),(.int .i64 n25)] 1 true) b1 (λb2 b3=>A.heap (.ap cc 1 8 (.slice (some ⟨b0,0,(some 11)⟩) 3 4) x12) b3 (λb4 b5=>A.ucV b4 (λO b6=>A.chk O ( A.uc0 b6 ( A.heap (.ap cc 1 8 (.slice (some ⟨b2,0,(some 11)⟩) 3 4) a8) b5 (λb7 b8=>A.ucV b7 (λU b9=>A.chk U ( A.uc0 b9 ( A.join (λc0 V=>A.un0 c0 ( A.opt (lenS O) (λc1=>A.opt (lenS U) (λd0=>A.cmp .lss c1 d0 (λd1=>A.cond d1 ( K [(.i (-1))] V) ( A.opt (lenS O) (λd2=>A.opt (lenS U) (λd3=>A.cmp .gtr d2 d3 (λd4=>A.cond d4 ( K [(.i 1)] V) ( K [(.i 0)] V)))))))))) (λa0=>A.loop (λd5 d6 J=>A.unI d6 (λn48 d7=>A.un0 d7 ( A.opt (lenS O) (λd8=>A.cmp .lss n48 d8 (λd9=>A.cond d9 ( A.opt (lenS U) (λe0=>A.cmp .lss n48 e0 (λe1=>A.cond e1 ( A.opt (idS 1 O n48) (λe2=>A.peek (.lg cc 1 e2) J (λf0=>A.ucI .i64 f0 (λf1 f2=>A.uc0 f2 ( A.opt (idS 1 U n48) (λgl=>A.peek (.lg cc 1 gl) J (λg0=>A.ucI .i64 g0 (λg1 g2=>A.uc0 g2 ( A.cmp .lss f1 g1 (λg3=>A.cond g3 ( K [(.i (-1))] J) ( A.opt (idS 1 O n48) (λg4=>A.peek (.lg cc 1 g4) J (λg5=>A.ucI .i64 g5 (λn65 g6=>A.uc0 g6 ( A.opt (idS 1 U n48) (λg7=>A.peek (.lg cc 1 g7) J (λg8=>A.ucI .i64 g8 (λn69 g9=>A.uc0 g9 ( A.cmp .gtr n65 n69 (λh0=>A.cond h0 ( K [(.i 1)] J) ( A.ari .add .i64 n48 1 (λn72=>d5 [(.i n72)] J)))))))))))))))))))))) ( a0 [] J)))) ( a0 [] J)))))) [(.i 0)] b8))))))))))))))))))))))
/-- crimp/orders.Compare -/
def f6(ls:List Lf)(h:HT)(K:List Lf->HT->R):R:=A.unI ls (λn6 J=>A.unI J (λn8 O=>A.unV O (λb5 U=>A.unI U (λn12 V=>A.unI V (λn14 a0=>A.unI a0 (λn16 a1=>A.unV a1 (λa2 a3=>A.unI a3 (λn20 a4=>A.unI a4 (λn22 a5=>A.unV a5 (λb6 a6=>A.unI a6 (λn26 a7=>A.unI a7 (λn28 a8=>A.unI a8 (λn30 a9=>A.unV a9 (λb0 b1=>A.un0 b1 ( A.call 11 [(.v a2),(.v b0),(.v (.func (.func 12) ⟨[]⟩ ⟨[]⟩))] h (λb2 b3=>A.unI b2 (λn36 b4=>A.un0 b4 ( K [(.i n36)] b3))))))))))))))))))
/-- crimp/orders.Count -/
def f7(ls:List Lf)(h:HT)(K:List Lf->HT->R):R:=A.unI ls (λn6 J=>A.unI J (λn8 O=>A.unV O (λU V=>A.unI V (λn12 a0=>A.unI a0 (λn14 a1=>A.unI a1 (λn16 a2=>A.unI a2 (λn18 a3=>A.un0 a3 ( A.call 16 [(.i n6),(.i n8),(.v U),(.i n12),(.i n14),(.i n16),(.i n18)] h (λa4 a5=>A.unV a4 (λa6 a7=>A.unI a7 (λn24 a8=>A.un0 a8 ( A.opt (lenS a6) (λa9=>K [(.i a9),(.i n24)] a5)))))))))))))
/-- crimp/crimplaw26.strip -/
def f8(ls:List Lf)(h:HT)(K:List Lf->HT->R):R:=A.unV ls (λx6 U=>A.un0 U ( A.opt (lenS x6) (λV=>A.ari .add .i64 V 1 (λn9=>A.loop (λa0 a1 J=>A.unI a1 (λn13 a2=>A.unI a2 (λn15 a3=>A.unI a3 (λn17 a4=>A.unV a4 (λx19 a5=>A.un0 a5 ( A.opt (lenS x6) (λa6=>A.cmp .lss n13 a6 (λa7=>A.cond a7 ( A.ari .mul .i64 4 n13 (λn23=>A.ari .add .i64 n23 1 (λn24=>A.opt (idS 1 x6 n13) (λa8=>A.peek (.lg cc 1 a8) J (λa9=>A.ucI .u8 a9 (λn27 b0=>A.uc0 b0 ( A.new (.cells [(.int .i64 n24),(.int .u8 0),(.int .u8 n27)] 3 true) J (λb1 b2=>A.heap (.ap cc 3 16 x19 (.slice (some ⟨b1,0,(some 13)⟩) 1 2)) b2 (λb3 b4=>A.ucV b3 (λO b5=>A.chk O ( A.uc0 b5 ( A.ari .add .i64 n13 1 (λn35=>a0 [(.i n35),(.i n15),(.i n17),(.v O)] b4))))))))))))) ( K [(.i n15),(.i n17),(.v x19)] J))))))))) [(.i 0),(.i n9),(.i 1),(.v (.slice none 0 0))] h))))
/-- crimp/moves.Identity -/
def f9(ls:List Lf)(h:HT)(K:List Lf->HT->R):R:=A.un0 ls ( K [(.i 0),(.i 0),(.i 0)] h)
/-- crimp/orders.Solve -/
def f10(ls:List Lf)(h:HT)(K:List Lf->HT->R):R:=A.unI ls (λn6 a8=>A.unI a8 (λn8 a9=>A.unV a9 (λb0 b1=>A.unI b1 (λn12 b2=>A.unI b2 (λn14 b3=>A.unI b3 (λn16 b4=>A.un0 b4 ( A.new (.cells [(.int .i64 0),(.int .i64 0),(.slice none 0 0),(.int .u8 0),(.int .i64 0),(.int .i64 0),(.slice none 0 0)] 7 true) h (λJ b5=>A.new (.cells [(.int .i64 0)] 1 true) b5 (λO b6=>A.call 17 [(.i n6),(.i n8),(.v b0),(.i n12),(.i n14),(.i n16)] b6 (λb7 a7=>A.unV b7 (λb8 b9=>A.unI b9 (λn26 c0=>A.un0 c0 ( A.cmp .neq n26 0 (λc1=>A.cond c1 ( A.heap (.st (.pointer (some ⟨J,0,none⟩)) [(.int .i64 0),(.int .i64 0),(.slice none 0 0),(.int .u8 0),(.int .i64 0),(.int .i64 0),(.slice none 0 0)]) a7 (λj0 d0=>A.heap (.st (.pointer (some ⟨O,0,none⟩)) [(.int .i64 n26)]) d0 (λj1 V=>A.peek (.ld 7 (.pointer (some ⟨J,0,none⟩))) V (λd1=>A.ucI .i64 d1 (λn34 d2=>A.ucI .i64 d2 (λn36 d3=>A.ucV d3 (λa0 d4=>A.chk a0 ( A.ucI .u8 d4 (λn40 d5=>A.ucI .i64 d5 (λn42 d6=>A.ucI .i64 d6 (λn44 d7=>A.ucV d7 (λa1 d8=>A.chk a1 ( A.uc0 d8 ( A.opt (chk2 a0) (λj2=>A.opt (chk2 a1) (λj3=>A.peek (.ld 1 (.pointer (some ⟨O,0,none⟩))) V (λd9=>A.ucI .i64 d9 (λn51 e0=>A.uc0 e0 ( K [(.i n34),(.i n36),(.v a0),(.i n40),(.i n42),(.i n44),(.v a1),(.i n51)] V))))))))))))))))))) ( A.call 18 [(.v b8)] a7 (λe1 e2=>A.unV e1 (λf0 f1=>A.un0 f1 ( A.rfun 160 f0 [(.pointer (some ⟨J,0,none⟩)),(.pointer (some ⟨O,0,none⟩))] e2 (λf2 U=>A.pend f2 ( A.heap (.st (.pointer (some ⟨J,0,none⟩)) [(.int .i64 0),(.int .i64 0),(.slice none 0 0),(.int .u8 0),(.int .i64 0),(.int .i64 0),(.slice none 0 0)]) U (λj4 gl=>A.heap (.st (.pointer (some ⟨O,0,none⟩)) [(.int .i64 15)]) gl (λj5 a2=>A.peek (.ld 7 (.pointer (some ⟨J,0,none⟩))) a2 (λg0=>A.ucI .i64 g0 (λn64 g1=>A.ucI .i64 g1 (λn66 g2=>A.ucV g2 (λa3 g3=>A.chk a3 ( A.ucI .u8 g3 (λn70 g4=>A.ucI .i64 g4 (λn72 g5=>A.ucI .i64 g5 (λn74 g6=>A.ucV g6 (λa4 g7=>A.chk a4 ( A.uc0 g7 ( A.opt (chk2 a3) (λj6=>A.opt (chk2 a4) (λj7=>A.peek (.ld 1 (.pointer (some ⟨O,0,none⟩))) a2 (λg8=>A.ucI .i64 g8 (λn81 g9=>A.uc0 g9 ( K [(.i n64),(.i n66),(.v a3),(.i n70),(.i n72),(.i n74),(.v a4),(.i n81)] a2))))))))))))))))))) ( A.peek (.ld 7 (.pointer (some ⟨J,0,none⟩))) U (λh0=>A.ucI .i64 h0 (λn84 h1=>A.ucI .i64 h1 (λn86 h2=>A.ucV h2 (λa5 h3=>A.chk a5 ( A.ucI .u8 h3 (λh4 h5=>A.ucI .i64 h5 (λh6 h7=>A.ucI .i64 h7 (λh8 h9=>A.ucV h9 (λa6 i0=>A.chk a6 ( A.uc0 i0 ( A.opt (chk2 a5) (λj8=>A.opt (chk2 a6) (λj9=>A.peek (.ld 1 (.pointer (some ⟨O,0,none⟩))) U (λi1=>A.ucI .i64 i1 (λn101 i2=>A.uc0 i2 ( K [(.i n84),(.i n86),(.v a5),(.i h4),(.i h6),(.i h8),(.v a6),(.i n101)] U))))))))))))))))) [])))))))))))))))))))
/-- slices.CompareFunc[[]crimp/stacks.Stack,[]crimp/stacks.Stack,crimp/stacks.Stack,crimp/stacks.Stack] -/
def f11(ls:List Lf)(h:HT)(K:List Lf->HT->R):R:=A.unV ls (λx6 a1=>A.unV a1 (λO a2=>A.unV a2 (λa3 a4=>A.un0 a4 ( A.opt (lenS x6) (λx12=>A.loop (λa5 a6 J=>A.unI a6 (λn16 a7=>A.un0 a7 ( A.cmp .lss n16 x12 (λa8=>A.cond a8 ( A.opt (idS 4 x6 n16) (λx19=>A.peek (.lg cc 4 x19) J (λa9=>A.ucI .i64 a9 (λn21 b0=>A.ucI .i64 b0 (λn23 b1=>A.ucI .u8 b1 (λn25 b2=>A.ucV b2 (λU b3=>A.chk U ( A.uc0 b3 ( A.opt (lenS O) (λb4=>A.cmp .geq n16 b4 (λb5=>A.cond b5 ( K [(.i 1)] J) ( A.opt (idS 4 O n16) (λb6=>A.peek (.lg cc 4 b6) J (λb7=>A.ucI .i64 b7 (λn33 b8=>A.ucI .i64 b8 (λn35 b9=>A.ucI .u8 b9 (λn37 c0=>A.ucV c0 (λV c1=>A.chk V ( A.uc0 c1 ( A.callv a3 [(.agg ⟨[(.int .i64 n21),(.int .i64 n23),(.int .u8 n25),U]⟩),(.agg ⟨[(.int .i64 n33),(.int .i64 n35),(.int .u8 n37),V]⟩)] [(.leaf (.i .i64))] J (λd0 a0=>A.unI d0 (λn43 d1=>A.un0 d1 ( A.cmp .neq n43 0 (λd2=>A.cond d2 ( K [(.i n43)] a0) ( A.ari .add .i64 n16 1 (λn46=>a5 [(.i n46)] a0)))))))))))))))))))))))))) ( A.opt (lenS x6) (λd3=>A.opt (lenS O) (λd4=>A.cmp .lss d3 d4 (λd5=>A.cond d5 ( K [(.i (-1))] J) ( K [(.i 0)] J))))))))) [(.i 0)] h)))))
/-- crimp/orders.Compare$1 -/
def f12(ls:List Lf)(h:HT)(K:List Lf->HT->R):R:=A.unI ls (λn6 J=>A.unI J (λn8 O=>A.unI O (λn10 U=>A.unV U (λx12 V=>A.unI V (λn14 a0=>A.unI a0 (λn16 a1=>A.unI a1 (λn18 a2=>A.unV a2 (λa3 a4=>A.un0 a4 ( A.call 14 [(.i n6),(.i n8),(.i n10),(.i n14),(.i n16),(.i n18)] h (λa5 a6=>A.unI a5 (λn24 a7=>A.un0 a7 ( A.call 15 [(.v x12),(.v a3)] a6 (λa8 a9=>A.unI a8 (λn28 b0=>A.un0 b0 ( A.new (.cells [(.int .i64 n24),(.int .i64 n28)] 1 true) a9 (λb1 b2=>A.call 13 [(.v (.slice (some ⟨b1,0,(some 11)⟩) 2 3))] b2 (λb3 b4=>A.unI b3 (λn34 b5=>A.un0 b5 ( K [(.i n34)] b4)))))))))))))))))))
def f13(ls:List Lf)(h:HT)(K:List Lf->HT->R):R:=A.unV ls (λx6 O=>A.un0 O ( A.opt (lenS x6) (λU=>A.loop (λV a0 J=>A.unI a0 (λn12 a1=>A.un0 a1 ( A.cmp .lss n12 U (λa2=>A.cond a2 ( A.opt (idS 1 x6 n12) (λx15=>A.peek (.lg cc 1 x15) J (λa3=>A.ucI .i64 a3 (λn17 a4=>A.uc0 a4 ( A.cmp .neq n17 0 (λa5=>A.cond a5 ( K [(.i n17)] J) ( A.ari .add .i64 n12 1 (λn20=>V [(.i n20)] J)))))))) ( K [(.i 0)] J))))) [(.i 0)] h)))
/-- crimp/cells.Compare -/
def f14(ls:List Lf)(h:HT)(K:List Lf->HT->R):R:=A.unI ls (λn6 J=>A.unI J (λn8 O=>A.unI O (λn10 U=>A.unI U (λn12 V=>A.unI V (λn14 a0=>A.unI a0 (λn16 a1=>A.un0 a1 ( A.conv .i64 n10 (λn18=>A.conv .i64 n16 (λn19=>A.new (.cells [(.int .i64 n8),(.int .i64 n14),(.int .i64 n6),(.int .i64 n12),(.int .i64 n18),(.int .i64 n19)] 2 true) h (λa2 a3=>A.call 19 [(.v (.slice (some ⟨a2,0,(some 12)⟩) 3 4))] a3 (λa4 a5=>A.unI a4 (λn24 a6=>A.un0 a6 ( K [(.i n24)] a5)))))))))))))
def f15(ls:List Lf)(h:HT)(K:List Lf->HT->R):R:=A.unV ls (λx6 V=>A.unV V (λO a0=>A.un0 a0 ( A.opt (lenS x6) (λa1=>A.loop (λa2 a3 J=>A.unI a3 (λn14 a4=>A.un0 a4 ( A.cmp .lss n14 a1 (λa5=>A.cond a5 ( A.opt (idS 1 x6 n14) (λa6=>A.peek (.lg cc 1 a6) J (λa7=>A.ucI .i64 a7 (λn19 a8=>A.uc0 a8 ( A.opt (lenS O) (λa9=>A.cmp .geq n14 a9 (λb0=>A.cond b0 ( K [(.i 1)] J) ( A.opt (idS 1 O n14) (λb1=>A.peek (.lg cc 1 b1) J (λb2=>A.ucI .i64 b2 (λn25 b3=>A.uc0 b3 ( A.call 20 [(.i n19),(.i n25)] J (λb4 U=>A.unI b4 (λn29 b5=>A.un0 b5 ( A.cmp .neq n29 0 (λb6=>A.cond b6 ( K [(.i n29)] U) ( A.ari .add .i64 n14 1 (λn32=>a2 [(.i n32)] U)))))))))))))))))) ( A.opt (lenS x6) (λb7=>A.opt (lenS O) (λb8=>A.cmp .lss b7 b8 (λb9=>A.cond b9 ( K [(.i (-1))] J) ( K [(.i 0)] J))))))))) [(.i 0)] h))))
/-- crimp/orders.All -/
def f16(ls:List Lf)(h:HT)(K:List Lf->HT->R):R:=A.unI ls (λn6 a3=>A.unI a3 (λn8 a4=>A.unV a4 (λa5 a6=>A.unI a6 (λn12 a7=>A.unI a7 (λn14 a8=>A.unI a8 (λn16 a9=>A.unI a9 (λn18 b0=>A.un0 b0 ( A.new (.cells [(.int .i64 n18)] 1 true) h (λO b1=>A.call 17 [(.i n6),(.i n8),(.v a5),(.i n12),(.i n14),(.i n16)] b1 (λb2 J=>A.unV b2 (λb3 b4=>A.unI b4 (λn26 b5=>A.un0 b5 ( A.cmp .neq n26 0 (λb6=>A.cond b6 ( K [(.v (.slice none 0 0)),(.i n26)] J) ( A.peek (.lg cc 1 (.pointer (some ⟨O,0,none⟩))) J (λb7=>A.ucI .i64 b7 (λn30 b8=>A.uc0 b8 ( A.cmp .lss n30 1 (λb9=>A.cond b9 ( K [(.v (.slice none 0 0)),(.i 1)] J) ( A.peek (.lg cc 1 (.pointer (some ⟨O,0,none⟩))) J (λc0=>A.ucI .i64 c0 (λn34 c1=>A.uc0 c1 ( A.cmp .gtr n34 1000 (λd0=>A.cond d0 ( K [(.v (.slice none 0 0)),(.i 1)] J) ( A.new (.cells [(.slice none 0 0)] 1 true) J (λV d1=>A.call 18 [(.v b3)] d1 (λd2 d3=>A.unV d2 (λd4 d5=>A.un0 d5 ( A.join (λd6 a0=>A.un0 d6 ( A.peek (.lg cc 1 (.pointer (some ⟨V,0,none⟩))) a0 (λd7=>A.ucV d7 (λa1 d8=>A.chk a1 ( A.uc0 d8 ( A.call 21 [(.v a1)] a0 (λd9 e0=>A.unV d9 (λe1 e2=>A.un0 e2 ( K [(.v e1),(.i 0)] e0))))))))) (λa2=>A.rfun 256 d4 [(.pointer (some ⟨O,0,none⟩)),(.pointer (some ⟨V,0,none⟩))] d3 (λf0 U=>A.pend f0 ( a2 [] U) ( K [(.v (.slice none 0 0)),(.i 0)] U) ((0,a2 [] U) :: []))))))))))))))))))))))))))))))))
/-- crimp/orders.newProblem -/
def f17(ls:List Lf)(h:HT)(K:List Lf->HT->R):R:=A.unI ls (λn6 l8=>A.unI l8 (λn8 l9=>A.unV l9 (λf1 m0=>A.unI m0 (λn12 m1=>A.unI m1 (λn14 m2=>A.unI m2 (λn16 m3=>A.un0 m3 ( A.call 22 [(.i n6),(.i n8),(.v f1),(.i n12),(.i n14),(.i n16)] h (λm4 b9=>A.unV m4 (λa1 m5=>A.unI m5 (λn22 m6=>A.un0 m6 ( A.cmp .neq n22 0 (λm7=>A.cond m7 ( K [(.v (.pointer none)),(.i n22)] b9) ( A.ari .mul .i64 n6 n8 (λn25=>A.cmp .gtr n25 9 (λm8=>A.cond m8 ( K [(.v (.pointer none)),(.i 3)] b9) ( A.opt (lenS a1) (λa2=>A.opt (mkOk a2 a2) (λuS=>A.new (.cells (aM [(.bool false)] (Int.toNat a2)) 1 true) b9 (λf2 m9=>A.new (.map [] 0) m9 (λc0 n0=>A.new (.cells [(.int .i64 n6),(.int .i64 n8),f1,(.int .u8 n12),(.int .i64 n14),(.int .i64 n16),(.slice none 0 0),(.slice none 0 0),(.slice none 0 0),(.slice (some ⟨f2,0,(some 11)⟩) (Int.toNat a2) ((Int.toNat a2)+1)),(.map (some c0)),(.slice none 0 0),(.slice none 0 0),(.slice none 0 0),(.bool false)] 15 true) n0 (λJ n1=>A.opt (Sx.sepL [((.map (some c0)),(2,a1)),((.slice (some ⟨f2,0,(some 11)⟩) (Int.toNat a2) ((Int.toNat a2)+1)),(0,(.map (some c0))))]) (λuT=>A.new (.map [] 0) n1 (λV n2=>A.opt (lenS a1) (λo0=>A.loop (λo1 o2 a3=>A.unI o2 (λn42 o3=>A.un0 o3 ( A.cmp .lss n42 o0 (λo4=>A.cond o4 ( A.opt (idS 3 a1 n42) (λo5=>A.peek (.lg cc 3 o5) a3 (λo6=>A.ucI .i64 o6 (λn47 o7=>A.ucI .i64 o7 (λn49 o8=>A.ucI .u8 o8 (λn51 o9=>A.uc0 o9 ( A.peek (.fn (luG cc 25 false (.int .i64 0) (.map (some V)) (.agg ⟨[(.int .i64 n47),(.int .i64 n49),(.int .u8 n51)]⟩) true)) a3 (λp0=>A.ucI .i64 p0 (λn54 p1=>A.ucB p1 (λp2 p3=>A.uc0 p3 ( A.join (λp4 p5=>A.un0 p4 ( A.ari .add .i64 n42 1 (λp6=>o1 [(.i p6)] p5))) (λgl=>A.cond (!p2) ( A.heap (.fn (muG cc 25 (.map (some V)) (.agg ⟨[(.int .i64 n47),(.int .i64 n49),(.int .u8 n51)]⟩) (.int .i64 0))) a3 (λuU g0=>A.opt (nilP (.pointer (some ⟨J,0,none⟩))) (λg1=>A.chk g1 ( A.opt (fdP 6 g1) (λc1=>A.chk c1 ( A.peek (.lg cc 1 c1) g0 (λp7=>A.ucV p7 (λg2 p8=>A.chk g2 ( A.uc0 p8 ( A.new (.cells [(.int .i64 n47),(.int .i64 n49),(.int .u8 n51)] 3 true) g0 (λg3 p9=>A.heap (.ap cc 3 24 g2 (.slice (some ⟨g3,0,(some 13)⟩) 1 2)) p9 (λq0 q1=>A.ucV q0 (λg4 q2=>A.chk g4 ( A.uc0 q2 ( A.opt (nilP (.pointer (some ⟨J,0,none⟩))) (λg5=>A.chk g5 ( A.opt (fdP 6 g5) (λg6=>A.chk g6 ( A.heap (.st g6 [g4]) q1 (λuV q3=>A.opt (Sx.sepL [((.slice (some ⟨g3,0,(some 13)⟩) 1 2),(0,c1))]) (λuW=>gl [] q3))))))))))))))))))))) ( gl [] a3))))))))))))) ( A.opt (nilP (.pointer (some ⟨J,0,none⟩))) (λg7=>A.chk g7 ( A.opt (fdP 6 g7) (λg8=>A.chk g8 ( A.peek (.lg cc 1 g8) a3 (λq4=>A.ucV q4 (λg9 q5=>A.chk g9 ( A.uc0 q5 ( A.call 23 [(.v g9),(.v (.func (.func 14) ⟨[]⟩ ⟨[]⟩))] a3 (λq6 h0=>A.un0 q6 ( A.opt (nilP (.pointer (some ⟨J,0,none⟩))) (λh1=>A.chk h1 ( A.opt (fdP 6 h1) (λh2=>A.chk h2 ( A.peek (.lg cc 1 h2) h0 (λq7=>A.ucV q7 (λd0 q8=>A.chk d0 ( A.uc0 q8 ( A.opt (lenS d0) (λq9=>A.loop (λr1 r2 b0=>A.unI r2 (λn96 r3=>A.un0 r3 ( A.cmp .lss n96 q9 (λr4=>A.cond r4 ( A.opt (idS 3 d0 n96) (λr5=>A.peek (.lg cc 3 r5) b0 (λr6=>A.ucI .i64 r6 (λn101 r7=>A.ucI .i64 r7 (λn103 r8=>A.ucI .u8 r8 (λn105 r9=>A.uc0 r9 ( A.heap (.fn (muG cc 25 (.map (some V)) (.agg ⟨[(.int .i64 n101),(.int .i64 n103),(.int .u8 n105)]⟩) (.int .i64 n96))) b0 (λuX sR=>A.ari .add .i64 n96 1 (λsS=>r1 [(.i sS)] sR))))))))) ( A.opt (nilP (.pointer (some ⟨J,0,none⟩))) (λh3=>A.chk h3 ( A.opt (fdP 6 h3) (λd1=>A.chk d1 ( A.peek (.lg cc 1 d1) b0 (λsU=>A.ucV sU (λd2 sV=>A.chk d2 ( A.uc0 sV ( A.opt (lenS d2) (λU=>A.opt (mkOk U U) (λuY=>A.new (.cells (aM [(.slice none 0 0)] (Int.toNat U)) 1 true) b0 (λb1 h4=>A.opt (nilP (.pointer (some ⟨J,0,none⟩))) (λh5=>A.chk h5 ( A.opt (fdP 6 h5) (λd3=>A.chk d3 ( A.peek (.lg cc 1 d3) h4 (λsW=>A.ucV sW (λb2 sX=>A.chk b2 ( A.uc0 sX ( A.opt (lenS b2) (λO=>A.opt (mkOk O O) (λuZ=>A.new (.cells (aM [(.slice none 0 0)] (Int.toNat O)) 1 true) h4 (λa4 sY=>A.opt (nilP (.pointer (some ⟨J,0,none⟩))) (λh6=>A.chk h6 ( A.opt (fdP 7 h6) (λa6=>A.chk a6 ( A.heap (.st a6 [(.slice (some ⟨b1,0,(some 11)⟩) (Int.toNat U) ((Int.toNat U)+1))]) sY (λu0 sZ=>A.opt (nilP (.pointer (some ⟨J,0,none⟩))) (λh7=>A.chk h7 ( A.opt (fdP 8 h7) (λh8=>A.chk h8 ( A.heap (.st h8 [(.slice (some ⟨a4,0,(some 11)⟩) (Int.toNat O) ((Int.toNat O)+1))]) sZ (λu1 s0=>A.opt (Sx.sepL [((.slice (some ⟨b1,0,(some 11)⟩) (Int.toNat U) ((Int.toNat U)+1)),(0,d3)),((.slice (some ⟨b1,0,(some 11)⟩) (Int.toNat U) ((Int.toNat U)+1)),(2,b2)),((.slice (some ⟨a4,0,(some 11)⟩) (Int.toNat O) ((Int.toNat O)+1)),(0,d1)),((.slice (some ⟨a4,0,(some 11)⟩) (Int.toNat O) ((Int.toNat O)+1)),(2,d2)),((.slice (some ⟨b1,0,(some 11)⟩) (Int.toNat U) ((Int.toNat U)+1)),(0,(.slice (some ⟨a4,0,(some 11)⟩) (Int.toNat O) ((Int.toNat O)+1)))),(a6,(2,b2)),((.slice (some ⟨a4,0,(some 11)⟩) (Int.toNat O) ((Int.toNat O)+1)),(0,a6)),((.slice (some ⟨a4,0,(some 11)⟩) (Int.toNat O) ((Int.toNat O)+1)),(0,a6))]) (λu2=>A.opt (lenS a1) (λs1=>A.loop (λs2 s3 a0=>A.unI s3 (λb3 s4=>A.un0 s4 ( A.cmp .lss b3 s1 (λs5=>A.cond s5 ( A.opt (idS 3 a1 b3) (λs6=>A.peek (.lg cc 3 s6) a0 (λs7=>A.ucI .i64 s7 (λh9 s8=>A.ucI .i64 s8 (λi0 s9=>A.ucI .u8 s9 (λi1 ta=>A.uc0 ta ( A.opt (nilP (.pointer (some ⟨J,0,none⟩))) (λi2=>A.chk i2 ( A.opt (fdP 7 i2) (λa7=>A.chk a7 ( A.peek (.lg cc 1 a7) a0 (λtb=>A.ucV tb (λj0 tg=>A.chk j0 ( A.uc0 tg ( A.peek (.fn (luG cc 25 false (.int .i64 0) (.map (some V)) (.agg ⟨[(.int .i64 h9),(.int .i64 i0),(.int .u8 i1)]⟩) false)) a0 (λth=>A.ucI .i64 th (λti tj=>A.uc0 tj ( A.opt (nilP (.pointer (some ⟨J,0,none⟩))) (λj1=>A.chk j1 ( A.opt (fdP 7 j1) (λd4=>A.chk d4 ( A.peek (.lg cc 1 d4) a0 (λtn=>A.ucV tn (λj2 tq=>A.chk j2 ( A.uc0 tq ( A.peek (.fn (luG cc 25 false (.int .i64 0) (.map (some V)) (.agg ⟨[(.int .i64 h9),(.int .i64 i0),(.int .u8 i1)]⟩) false)) a0 (λtr=>A.ucI .i64 tr (λtt tu=>A.uc0 tu ( A.opt (idS 1 j2 tt) (λj3=>A.peek (.lg cc 1 j3) a0 (λtv=>A.ucV tv (λb4 tw=>A.chk b4 ( A.uc0 tw ( A.new (.cells [(.int .i64 b3)] 1 true) a0 (λa5 tz=>A.heap (.ap cc 1 8 b4 (.slice (some ⟨a5,0,(some 11)⟩) 1 2)) tz (λtA tB=>A.ucV tA (λb5 tC=>A.chk b5 ( A.uc0 tC ( A.opt (idS 1 j0 ti) (λtD=>A.heap (.st tD [b5]) tB (λu3 tE=>A.opt (Sx.sepL [((.slice (some ⟨a5,0,(some 11)⟩) 1 2),(0,a7)),((.slice (some ⟨a5,0,(some 11)⟩) 1 2),(0,(.map (some V)))),((.slice (some ⟨a5,0,(some 11)⟩) 1 2),(0,d4)),((.slice (some ⟨a5,0,(some 11)⟩) 1 2),(0,(.map (some V)))),((.slice (some ⟨a5,0,(some 11)⟩) 1 2),(0,j3)),(b4,(0,a7)),(b5,(0,a7)),(b4,(0,(.map (some V)))),(b5,(0,(.map (some V))))]) (λu4=>A.ari .add .i64 b3 1 (λtF=>s2 [(.i tF)] tE))))))))))))))))))))))))))))))))))))))))))) ( A.opt (nilP (.pointer (some ⟨J,0,none⟩))) (λj4=>A.chk j4 ( A.opt (fdP 7 j4) (λj5=>A.chk j5 ( A.peek (.lg cc 1 j5) a0 (λtG=>A.ucV tG (λd5 tH=>A.chk d5 ( A.uc0 tH ( A.opt (lenS d5) (λtI=>A.loop (λtJ tK b6=>A.unI tK (λd6 tL=>A.un0 tL ( A.cmp .lss d6 tI (λtM=>A.cond tM ( A.opt (idS 1 d5 d6) (λtN=>A.peek (.lg cc 1 tN) b6 (λtO=>A.ucV tO (λb7 tP=>A.chk b7 ( A.uc0 tP ( A.opt (lenS b7) (λtQ=>A.loop (λtR tS d7=>A.unI tS (λb8 tT=>A.un0 tT ( A.cmp .lss b8 tQ (λtU=>A.cond tU ( A.opt (idS 1 b7 b8) (λtV=>A.peek (.lg cc 1 tV) d7 (λtW=>A.ucI .i64 tW (λtX tY=>A.uc0 tY ( A.opt (slS 1 b7 none (some b8) none) (λd8=>A.chk d8 ( A.opt (lenS d8) (λtZ=>A.loop (λt0 t1 a8=>A.unI t1 (λd9 t2=>A.un0 t2 ( A.cmp .lss d9 tZ (λt3=>A.cond t3 ( A.opt (idS 1 d8 d9) (λt4=>A.peek (.lg cc 1 t4) a8 (λt5=>A.ucI .i64 t5 (λt6 t7=>A.uc0 t7 ( A.opt (nilP (.pointer (some ⟨J,0,none⟩))) (λj6=>A.chk j6 ( A.opt (fdP 10 j6) (λj7=>A.chk j7 ( A.peek (.lg cc 1 j7) a8 (λt8=>A.ucV t8 (λj8 t9=>A.chk j8 ( A.uc0 t9 ( A.opt (nilP (.pointer (some ⟨J,0,none⟩))) (λj9=>A.chk j9 ( A.opt (fdP 11 j9) (λk0=>A.chk k0 ( A.peek (.lg cc 1 k0) a8 (λuc=>A.ucV uc (λk1 ud=>A.chk k1 ( A.uc0 ud ( A.opt (lenS k1) (λue=>A.heap (.fn (muG cc 67 j8 (.agg ⟨[(.int .i64 t6),(.int .i64 tX)]⟩) (.int .i64 ue))) a8 (λu5 e0=>A.opt (nilP (.pointer (some ⟨J,0,none⟩))) (λk2=>A.chk k2 ( A.opt (fdP 11 k2) (λe1=>A.chk e1 ( A.peek (.lg cc 1 e1) e0 (λuf=>A.ucV uf (λk3 ug=>A.chk k3 ( A.uc0 ug ( A.opt (nilP (.pointer (some ⟨J,0,none⟩))) (λk4=>A.chk k4 ( A.opt (fdP 11 k4) (λk5=>A.chk k5 ( A.peek (.lg cc 1 k5) e0 (λuh=>A.ucV uh (λk6 ui=>A.chk k6 ( A.uc0 ui ( A.opt (lenS k6) (λuj=>A.new (.cells [(.int .i64 uj),(.bool false)] 2 true) e0 (λk7 uk=>A.heap (.ap cc 2 16 k3 (.slice (some ⟨k7,0,(some 12)⟩) 1 2)) uk (λul um=>A.ucV ul (λk8 uo=>A.chk k8 ( A.uc0 uo ( A.opt (nilP (.pointer (some ⟨J,0,none⟩))) (λk9=>A.chk k9 ( A.opt (fdP 11 k9) (λl0=>A.chk l0 ( A.heap (.st l0 [k8]) um (λu6 uq=>A.opt (Sx.sepL [((.slice (some ⟨k7,0,(some 12)⟩) 1 2),(0,e1))]) (λu7=>A.ari .add .i64 d9 1 (λur=>t0 [(.i ur)] uq)))))))))))))))))))))))))))))))))))))))))))))))))))) ( A.ari .add .i64 b8 1 (λut=>tR [(.i ut)] a8)))))) [(.i 0)] d7)))))))) ( A.ari .add .i64 d6 1 (λuv=>tJ [(.i uv)] d7)))))) [(.i 0)] b6))))))) ( A.opt (nilP (.pointer (some ⟨J,0,none⟩))) (λl1=>A.chk l1 ( A.opt (fdP 11 l1) (λl2=>A.chk l2 ( A.peek (.lg cc 1 l2) b6 (λuw=>A.ucV uw (λl3 ux=>A.chk l3 ( A.uc0 ux ( A.opt (lenS l3) (λa9=>A.opt (mkOk a9 a9) (λu8=>A.new (.cells (aM [(.int .i64 0)] (Int.toNat a9)) 1 true) b6 (λuy uz=>A.opt (nilP (.pointer (some ⟨J,0,none⟩))) (λl4=>A.chk l4 ( A.opt (fdP 12 l4) (λl5=>A.chk l5 ( A.heap (.st l5 [(.slice (some ⟨uy,0,(some 11)⟩) (Int.toNat a9) ((Int.toNat a9)+1))]) uz (λu9 uA=>A.call 24 [(.v (.pointer (some ⟨J,0,none⟩))),(.v a1)] uA (λuC uD=>A.unV uC (λl6 uE=>A.unI uE (λuF uG=>A.un0 uG ( A.opt (lenS l6) (λuH=>A.loop (λuI uJ e2=>A.unI uJ (λf0 uK=>A.un0 uK ( A.cmp .lss f0 uH (λuL=>A.cond uL ( A.opt (idS 1 l6 f0) (λuM=>A.peek (.lg cc 1 uM) e2 (λuN=>A.ucV uN (λl7 uO=>A.chk l7 ( A.uc0 uO ( A.call 25 [(.v (.pointer (some ⟨J,0,none⟩))),(.v l7)] e2 (λuP uQ=>A.un0 uP ( A.ari .add .i64 f0 1 (λuR=>uI [(.i uR)] uQ))))))))) ( K [(.v (.pointer (some ⟨J,0,none⟩))),(.i uF)] e2))))) [(.i 0)] uD)))))))))))))))))))))))))) [(.i 0)] a0)))))))))))))) [(.i 0)] s0))))))))))))))))))))))))))))))))))))))) [(.i 0)] h0)))))))))))))))))))))))) [(.i 0)] n2))))))))))))))))))))))))
/-- (*crimp/orders.problem).all -/
def f18(ls:List Lf)(h:HT)(K:List Lf->HT->R):R:=A.unV ls (λx6 O=>A.un0 O ( A.new (.cells [x6] 1 true) h (λJ U=>A.chk (.func (.func 26) ⟨[]⟩ ⟨[(.pointer (some ⟨J,0,none⟩))]⟩) ( K [(.v (.func (.func 26) ⟨[]⟩ ⟨[(.pointer (some ⟨J,0,none⟩))]⟩))] U))))
/-- crimp/cells.order[int] -/
def f19(ls:List Lf)(h:HT)(K:List Lf->HT->R):R:=A.unV ls (λx6 U=>A.un0 U ( A.opt (lenS x6) (λV=>A.loop (λa0 a1 J=>A.unI a1 (λn12 a2=>A.un0 a2 ( A.cmp .lss n12 V (λa3=>A.cond a3 ( A.opt (idS 2 x6 n12) (λx15=>A.peek (.lg cc 2 x15) J (λa4=>A.ucI .i64 a4 (λn17 a5=>A.ucI .i64 a5 (λn19 a6=>A.uc0 a6 ( A.call 20 [(.i n17),(.i n19)] J (λa7 O=>A.unI a7 (λn23 a8=>A.un0 a8 ( A.cmp .neq n23 0 (λa9=>A.cond a9 ( K [(.i n23)] O) ( A.ari .add .i64 n12 1 (λn26=>a0 [(.i n26)] O)))))))))))) ( K [(.i 0)] J))))) [(.i 0)] h)))
def f20(ls:List Lf)(h:HT)(K:List Lf->HT->R):R:=A.unI ls (λn6 U=>A.unI U (λn8 V=>A.un0 V ( A.call 31 [(.i n6)] h (λa0 a1=>A.unB a0 (λa2 a3=>A.un0 a3 ( A.call 31 [(.i n8)] a1 (λa4 J=>A.unB a4 (λO a5=>A.un0 a5 ( A.cond a2 ( A.cond O ( K [(.i 0)] J) ( K [(.i (-1))] J)) ( A.cond O ( K [(.i 1)] J) ( A.cmp .lss n6 n8 (λa6=>A.cond a6 ( K [(.i (-1))] J) ( A.cmp .gtr n6 n8 (λa7=>A.cond a7 ( K [(.i 1)] J) ( K [(.i 0)] J)))))))))))))))
/-- slices.Clip[[]crimp/states.State,crimp/states.State] -/
def f21(ls:List Lf)(h:HT)(K:List Lf->HT->R):R:=A.unV ls (λx6 O=>A.un0 O ( A.opt (lenS x6) (λU=>A.opt (lenS x6) (λV=>A.opt (slS 7 x6 none (some U) (some V)) (λJ=>A.chk J ( K [(.v J)] h))))))
/-- crimp/places.Images -/
def f22(ls:List Lf)(h:HT)(K:List Lf->HT->R):R:=A.unI ls (λn6 J=>A.unI J (λn8 O=>A.unV O (λU V=>A.unI V (λn12 a0=>A.unI a0 (λn14 a1=>A.unI a1 (λn16 a2=>A.un0 a2 ( A.call 32 [(.i n6),(.i n8),(.v U),(.i n12),(.i n14),(.i n16)] h (λa3 a4=>A.unV a3 (λa9 a5=>A.unV a5 (λa6 a7=>A.unI a7 (λn24 a8=>A.un0 a8 ( K [(.v a6),(.i n24)] a4))))))))))))
/-- slices.SortFunc[[]crimp/api.Cell,crimp/api.Cell] -/
def f23(ls:List Lf)(h:HT)(K:List Lf->HT->R):R:=A.unV ls (λx6 O=>A.unV O (λU V=>A.un0 V ( A.opt (lenS x6) (λJ=>A.conv .u64 J (λn11=>A.call 34 [(.i n11)] h (λa0 a1=>A.unI a0 (λn14 a2=>A.un0 a2 ( A.call 33 [(.v x6),(.i 0),(.i J),(.i n14),(.v U)] a1 (λa3 a4=>A.un0 a3 ( K [] a4))))))))))
/-- (*crimp/orders.problem).seams -/
def f24(ls:List Lf)(h:HT)(K:List Lf->HT->R):R:=A.unV ls (λx6 l2=>A.unV l2 (λb8 l3=>A.un0 l3 ( A.new (.map [] 0) h (λb9 a4=>A.opt (nilP x6) (λx12=>A.chk x12 ( A.opt (fdP 0 x12) (λx13=>A.chk x13 ( A.peek (.lg cc 3 x13) a4 (λl4=>A.ucI .i64 l4 (λn15 l5=>A.ucI .i64 l5 (λn17 l6=>A.ucV l6 (λx19 l7=>A.chk x19 ( A.uc0 l7 ( A.opt (nilP x6) (λc0=>A.chk c0 ( A.opt (fdP 3 c0) (λc1=>A.chk c1 ( A.peek (.lg cc 3 c1) a4 (λl8=>A.ucI .u8 l8 (λn24 l9=>A.ucI .i64 l9 (λn26 m0=>A.ucI .i64 m0 (λn28 m1=>A.uc0 m1 ( A.call 35 [(.i n15),(.i n17),(.v x19),(.i n24),(.i n26),(.i n28)] a4 (λm2 m3=>A.unV m2 (λa5 m4=>A.unI m4 (λn34 m5=>A.un0 m5 ( A.opt (lenS b8) (λm6=>A.loop (λm7 m8 a6=>A.unV m8 (λd0 m9=>A.unI m9 (λn42 n0=>A.un0 n0 ( A.cmp .lss n42 m6 (λn1=>A.cond n1 ( A.opt (nilP x6) (λd1=>A.chk d1 ( A.opt (fdP 0 d1) (λd2=>A.chk d2 ( A.opt (fdP 0 d2) (λd3=>A.chk d3 ( A.peek (.lg cc 2 d3) a6 (λn2=>A.ucI .i64 n2 (λn49 o0=>A.ucI .i64 o0 (λn51 o1=>A.uc0 o1 ( A.call 36 [(.i n49),(.i n51),(.i n42)] a6 (λo2 o3=>A.unI o2 (λn55 o4=>A.unI o4 (λo5 o6=>A.unI o6 (λo7 o8=>A.unI o8 (λu9 o9=>A.un0 o9 ( A.loop (λp0 p1 d4=>A.unV p1 (λa7 p2=>A.unI p2 (λn68 p3=>A.un0 p3 ( A.cmp .lss n68 3 (λp4=>A.cond p4 ( A.join (λp5 p6=>A.unV p5 (λp7 p8=>A.un0 p8 ( A.ari .add .u8 n68 1 (λn75=>p0 [(.v p7),(.i n75)] p6)))) (λa1=>A.call 37 [(.i n55),(.i o5),(.i o7),(.i n68)] d4 (λp9 a8=>A.unI p9 (λn79 q0=>A.unI q0 (λn81 q1=>A.unI q1 (λn83 q2=>A.unI q2 (λn85 q3=>A.un0 q3 ( A.opt (idS 3 b8 n42) (λq4=>A.peek (.lg cc 3 q4) a8 (λq5=>A.ucI .i64 q5 (λn89 q6=>A.ucI .i64 q6 (λa9 q7=>A.ucI .u8 q7 (λb0 q8=>A.uc0 q8 ( A.opt (idS 3 a5 n42) (λq9=>A.peek (.lg cc 3 q9) a8 (λr1=>A.ucI .u8 r1 (λn97 r2=>A.ucI .i64 r2 (λn99 r3=>A.ucI .i64 r3 (λn101 r4=>A.uc0 r4 ( A.call 38 [(.i n97),(.i n99),(.i n101),(.i n79),(.i n81),(.i n83)] a8 (λr5 d5=>A.unI r5 (λn105 r6=>A.unI r6 (λb1 r7=>A.unI r7 (λb2 r8=>A.unI r8 (λr9 sR=>A.un0 sR ( A.cmp .neq r9 0 (λsS=>A.cond sS ( K [(.v (.slice none 0 0)),(.i 3)] d5) ( A.call 14 [(.i n89),(.i a9),(.i b0),(.i n105),(.i b1),(.i b2)] d5 (λsU d6=>A.unI sU (λsV sW=>A.un0 sW ( A.cmp .gtr sV 0 (λsX=>A.join (λsY b3=>A.unI sY (λV sZ=>A.unI sZ (λd7 s0=>A.unI s0 (λd8 s1=>A.unI s1 (λd9 s2=>A.unI s2 (λe0 s3=>A.unI s3 (λe1 s4=>A.unI s4 (λe2 s5=>A.un0 s5 ( A.peek (.fn (luG cc 110 false (.pointer none) (.map (some b9)) (.agg ⟨[(.int .i64 d7),(.int .i64 d8),(.int .u8 d9),(.int .i64 e0),(.int .i64 e1),(.int .u8 e2)]⟩) false)) b3 (λs6=>A.ucV s6 (λb4 s7=>A.chk b4 ( A.uc0 s7 ( A.opt (iL 4 b4 (.pointer none)) (λs8=>A.join (λs9 f0=>A.unV s9 (λJ ta=>A.unV ta (λa2 tb=>A.un0 tb ( A.opt (nilP x6) (λf1=>A.chk f1 ( A.opt (fdP 0 f1) (λf2=>A.chk f2 ( A.opt (fdP 0 f2) (λgl=>A.chk gl ( A.peek (.lg cc 2 gl) f0 (λtg=>A.ucI .i64 tg (λth ti=>A.ucI .i64 ti (λtj tn=>A.uc0 tn ( A.call 39 [(.i th),(.i tj),(.i n42),(.i n68)] f0 (λtq a3=>A.unI tq (λU tr=>A.unI tr (λtt tu=>A.un0 tu ( A.cmp .neq tt 0 (λtv=>A.cond tv ( a1 [(.v a2)] a3) ( A.cmp .lss U n42 (λtw=>A.cond tw ( a1 [(.v a2)] a3) ( A.opt (nilP x6) (λg0=>A.chk g0 ( A.opt (fdP 0 g0) (λg1=>A.chk g1 ( A.peek (.lg cc 3 g1) a3 (λtz=>A.ucI .i64 tz (λtA tB=>A.ucI .i64 tB (λtC tD=>A.ucV tD (λg2 tE=>A.chk g2 ( A.uc0 tE ( A.call 40 [(.i tA),(.i tC),(.v g2),(.i n42),(.i n68)] a3 (λtF O=>A.unI tF (λa0 tG=>A.unI tG (λva tH=>A.un0 tH ( A.cmp .eql a0 0 (λtI=>A.cond tI ( A.cmp .eql V 0 (λtJ=>A.join (λtK tL=>A.un0 tK ( a1 [(.v a2)] tL)) (λg3=>A.cond tJ ( A.opt (nilP J) (λg4=>A.chk g4 ( A.opt (fdP 0 g4) (λg5=>A.chk g5 ( A.peek (.lg cc 1 g5) O (λtM=>A.ucV tM (λg6 tN=>A.chk g6 ( A.uc0 tN ( A.new (.cells [(.int .i64 n42),(.int .i64 U)] 2 true) O (λtO tP=>A.heap (.ap cc 2 16 g6 (.slice (some ⟨tO,0,(some 12)⟩) 1 2)) tP (λtQ tR=>A.ucV tQ (λg7 tS=>A.chk g7 ( A.uc0 tS ( A.opt (nilP J) (λg8=>A.chk g8 ( A.opt (fdP 0 g8) (λg9=>A.chk g9 ( A.heap (.st g9 [g7]) tR (λvb tT=>g3 [] tT))))))))))))))))))) ( A.cmp .eql a0 0 (λtU=>A.join (λtV tW=>A.un0 tV ( g3 [] tW)) (λh0=>A.cond tU ( A.opt (nilP J) (λh1=>A.chk h1 ( A.opt (fdP 0 h1) (λh2=>A.chk h2 ( A.peek (.lg cc 1 h2) O (λtX=>A.ucV tX (λh3 tY=>A.chk h3 ( A.uc0 tY ( A.new (.cells [(.int .i64 U),(.int .i64 n42)] 2 true) O (λtZ t0=>A.heap (.ap cc 2 16 h3 (.slice (some ⟨tZ,0,(some 12)⟩) 1 2)) t0 (λt1 t2=>A.ucV t1 (λh4 t3=>A.chk h4 ( A.uc0 t3 ( A.opt (nilP J) (λh5=>A.chk h5 ( A.opt (fdP 0 h5) (λh6=>A.chk h6 ( A.heap (.st h6 [h4]) t2 (λvc t4=>h0 [] t4))))))))))))))))))) ( A.opt (nilP J) (λh7=>A.chk h7 ( A.opt (fdP 1 h7) (λh8=>A.chk h8 ( A.opt (idP 2 1 h8 V) (λb5=>A.chk b5 ( A.peek (.lg cc 1 b5) O (λt5=>A.ucV t5 (λh9 t6=>A.chk h9 ( A.uc0 t6 ( A.new (.cells [(.int .i64 n42),(.int .i64 U)] 2 true) O (λi0 t7=>A.heap (.ap cc 2 16 h9 (.slice (some ⟨i0,0,(some 12)⟩) 1 2)) t7 (λt8 t9=>A.ucV t8 (λi1 uc=>A.chk i1 ( A.uc0 uc ( A.opt (nilP J) (λi2=>A.chk i2 ( A.opt (fdP 1 i2) (λj0=>A.chk j0 ( A.opt (idP 2 1 j0 V) (λj1=>A.chk j1 ( A.heap (.st j1 [i1]) t9 (λvd j2=>A.opt (Sx.sepL [((.slice (some ⟨i0,0,(some 12)⟩) 1 2),(0,b5))]) (λve=>A.opt (idS 3 a5 n42) (λud=>A.peek (.lg cc 3 ud) j2 (λue=>A.ucI .u8 ue (λuf ug=>A.ucI .i64 ug (λuh ui=>A.ucI .i64 ui (λuj uk=>A.uc0 uk ( A.call 42 [(.i uf),(.i uh),(.i uj)] j2 (λul um=>A.unB ul (λuo uq=>A.un0 uq ( A.call 41 [(.v x6),(.i a0),(.i n42),(.i U),(.b (!uo))] um (λur ut=>A.un0 ur ( h0 [] ut))))))))))))))))))))))))))))))))))))))))) ( A.cmp .eql a0 0 (λuv=>A.join (λuw ux=>A.un0 uw ( a1 [(.v a2)] ux)) (λj3=>A.cond uv ( A.opt (nilP J) (λj4=>A.chk j4 ( A.opt (fdP 0 j4) (λj5=>A.chk j5 ( A.peek (.lg cc 1 j5) O (λuy=>A.ucV uy (λj6 uz=>A.chk j6 ( A.uc0 uz ( A.new (.cells [(.int .i64 U),(.int .i64 n42)] 2 true) O (λuA uC=>A.heap (.ap cc 2 16 j6 (.slice (some ⟨uA,0,(some 12)⟩) 1 2)) uC (λuD uE=>A.ucV uD (λj7 uF=>A.chk j7 ( A.uc0 uF ( A.opt (nilP J) (λj8=>A.chk j8 ( A.opt (fdP 0 j8) (λj9=>A.chk j9 ( A.heap (.st j9 [j7]) uE (λvf uG=>j3 [] uG))))))))))))))))))) ( A.opt (nilP J) (λk0=>A.chk k0 ( A.opt (fdP 1 k0) (λk1=>A.chk k1 ( A.opt (idP 2 1 k1 V) (λb6=>A.chk b6 ( A.peek (.lg cc 1 b6) O (λuH=>A.ucV uH (λk2 uI=>A.chk k2 ( A.uc0 uI ( A.new (.cells [(.int .i64 n42),(.int .i64 U)] 2 true) O (λk3 uJ=>A.heap (.ap cc 2 16 k2 (.slice (some ⟨k3,0,(some 12)⟩) 1 2)) uJ (λuK uL=>A.ucV uK (λk4 uM=>A.chk k4 ( A.uc0 uM ( A.opt (nilP J) (λk5=>A.chk k5 ( A.opt (fdP 1 k5) (λk6=>A.chk k6 ( A.opt (idP 2 1 k6 V) (λk7=>A.chk k7 ( A.heap (.st k7 [k4]) uL (λvg k8=>A.opt (Sx.sepL [((.slice (some ⟨k3,0,(some 12)⟩) 1 2),(0,b6))]) (λvh=>A.opt (idS 3 a5 n42) (λuN=>A.peek (.lg cc 3 uN) k8 (λuO=>A.ucI .u8 uO (λuP uQ=>A.ucI .i64 uQ (λuR uS=>A.ucI .i64 uS (λuT uU=>A.uc0 uU ( A.call 42 [(.i uP),(.i uR),(.i uT)] k8 (λuV uW=>A.unB uV (λuX uY=>A.un0 uY ( A.call 41 [(.v x6),(.i a0),(.i n42),(.i U),(.b (!uX))] uW (λuZ u0=>A.un0 uZ ( j3 [] u0))))))))))))))))))))))))))))))))))))))))))))))))))))))))))))))))))))))))))) (λk9=>A.cond s8 ( A.new (.cells [(.slice none 0 0),(.slice none 0 0),(.slice none 0 0)] 3 true) b3 (λb7 u1=>A.heap (.fn (muG cc 110 (.map (some b9)) (.agg ⟨[(.int .i64 d7),(.int .i64 d8),(.int .u8 d9),(.int .i64 e0),(.int .i64 e1),(.int .u8 e2)]⟩) (.pointer (some ⟨b7,0,none⟩)))) u1 (λvi u2=>A.new (.cells [(.pointer (some ⟨b7,0,none⟩))] 1 true) u2 (λu3 u4=>A.heap (.ap cc 1 8 a7 (.slice (some ⟨u3,0,(some 11)⟩) 1 2)) u4 (λu5 u6=>A.ucV u5 (λl0 u7=>A.chk l0 ( A.uc0 u7 ( k9 [(.v (.pointer (some ⟨b7,0,none⟩))),(.v l0)] u6)))))))) ( k9 [(.v b4),(.v a7)] b3)))))))))))))))) (λl1=>A.cond sX ( l1 [(.i 1),(.i n105),(.i b1),(.i b2),(.i n89),(.i a9),(.i b0)] d6) ( l1 [(.i 0),(.i n89),(.i a9),(.i b0),(.i n105),(.i b1),(.i b2)] d6)))))))))))))))))))))))))))))))))) ( A.ari .add .i64 n42 1 (λu8=>m7 [(.v a7),(.i u8)] d4))))))) [(.v d0),(.i 0)] o3))))))))))))))))) ( K [(.v d0),(.i 0)] a6)))))) [(.v (.slice none 0 0)),(.i 0)] m3))))))))))))))))))))))))))))
/-- (*crimp/orders.problem).rules -/
def f25(ls:List Lf)(h:HT)(K:List Lf->HT->R):R:=A.unV ls (λx6 d1=>A.unV d1 (λO d2=>A.un0 d2 ( A.opt (nilP O) (λa6=>A.chk a6 ( A.opt (fdP 0 a6) (λx11=>A.chk x11 ( A.peek (.lg cc 1 x11) h (λd3=>A.ucV d3 (λx13 d4=>A.chk x13 ( A.uc0 d4 ( A.opt (lenS x13) (λx15=>A.loop (λd5 d6 J=>A.unI d6 (λn19 d7=>A.un0 d7 ( A.cmp .lss n19 x15 (λd8=>A.cond d8 ( A.opt (idS 2 x13 n19) (λd9=>A.peek (.lg cc 2 d9) J (λe0=>A.ucI .i64 e0 (λn24 e1=>A.ucI .i64 e1 (λn26 e2=>A.uc0 e2 ( A.opt (nilP O) (λa7=>A.chk a7 ( A.opt (fdP 0 a7) (λa8=>A.chk a8 ( A.peek (.lg cc 1 a8) J (λf0=>A.ucV f0 (λa9 f1=>A.chk a9 ( A.uc0 f1 ( A.opt (slS 2 a9 none (some n19) none) (λa1=>A.chk a1 ( A.opt (lenS a1) (λf2=>A.loop (λgl g0 U=>A.unI g0 (λn38 g1=>A.un0 g1 ( A.cmp .lss n38 f2 (λg2=>A.cond g2 ( A.opt (idS 2 a1 n38) (λg3=>A.peek (.lg cc 2 g3) U (λg4=>A.ucI .i64 g4 (λn43 g5=>A.ucI .i64 g5 (λn45 g6=>A.uc0 g6 ( A.call 44 [(.v x6),(.i n24),(.i n43)] U (λg7 g8=>A.unI g7 (λn49 g9=>A.unB g9 (λh0 h1=>A.un0 h1 ( A.call 44 [(.v x6),(.i n26),(.i n45)] g8 (λh2 h3=>A.unI h2 (λn55 h4=>A.unB h4 (λh5 h6=>A.un0 h6 ( A.call 43 [(.v x6),(.i n49),(.b h0),(.i n55),(.b h5)] h3 (λh7 h8=>A.un0 h7 ( A.ari .add .i64 n38 1 (λh9=>gl [(.i h9)] h8))))))))))))))))) ( A.opt (nilP O) (λb0=>A.chk b0 ( A.opt (fdP 1 b0) (λb1=>A.chk b1 ( A.peek (.lg cc 2 b1) U (λi0=>A.ucV i0 (λb2 i1=>A.chk b2 ( A.ucV i1 (λb3 i2=>A.chk b3 ( A.uc0 i2 ( A.loop (λj0 j1 b4=>A.unI j1 (λn72 j2=>A.un0 j2 ( A.cmp .lss n72 2 (λj3=>A.cond j3 ( A.opt (inB 2 n72) (λq2=>A.opt (iW [(.v b2),(.v b3)] 0 [(n72,1)] 1) (λj4=>A.unV j4 (λb5 j5=>A.un0 j5 ( A.opt (lenS b5) (λj6=>A.loop (λj7 j8 a2=>A.unI j8 (λn83 j9=>A.un0 j9 ( A.cmp .lss n83 j6 (λk0=>A.cond k0 ( A.opt (idS 2 b5 n83) (λk1=>A.peek (.lg cc 2 k1) a2 (λk2=>A.ucI .i64 k2 (λn88 k3=>A.ucI .i64 k3 (λk4 k5=>A.uc0 k5 ( A.opt (inB 2 n72) (λq3=>A.opt (iW [(.i n24),(.i n26)] 0 [(n72,1)] 1) (λk6=>A.unI k6 (λk7 k8=>A.un0 k8 ( A.call 44 [(.v x6),(.i k7),(.i n88)] a2 (λk9 l0=>A.unI k9 (λn98 l1=>A.unB l1 (λl2 l3=>A.un0 l3 ( A.opt (inB 2 n72) (λq4=>A.opt (iW [(.i n24),(.i n26)] 0 [(n72,1)] 1) (λl4=>A.unI l4 (λn104 l5=>A.un0 l5 ( A.call 44 [(.v x6),(.i n104),(.i k4)] l0 (λl6 l7=>A.unI l6 (λl8 l9=>A.unB l9 (λm0 m1=>A.un0 m1 ( A.call 43 [(.v x6),(.i n98),(.b l2),(.i l8),(.b m0)] l7 (λm2 m3=>A.un0 m2 ( A.ari .add .i64 n83 1 (λm4=>j7 [(.i m4)] m3))))))))))))))))))))))))) ( A.ari .add .i64 n72 1 (λm5=>j0 [(.i m5)] a2)))))) [(.i 0)] b4)))))) ( A.ari .add .i64 n19 1 (λm6=>d5 [(.i m6)] b4)))))) [(.i 0)] U))))))))))))))) [(.i 0)] J))))))))))))))))) ( A.opt (nilP O) (λb6=>A.chk b6 ( A.opt (fdP 1 b6) (λb7=>A.chk b7 ( A.peek (.lg cc 2 b7) J (λm7=>A.ucV m7 (λb8 m8=>A.chk b8 ( A.ucV m8 (λb9 m9=>A.chk b9 ( A.uc0 m9 ( A.loop (λn0 n1 c0=>A.unI n1 (λV n2=>A.un0 n2 ( A.cmp .lss V 2 (λo0=>A.cond o0 ( A.opt (inB 2 V) (λq5=>A.opt (iW [(.v b8),(.v b9)] 0 [(V,1)] 1) (λo1=>A.unV o1 (λa3 o2=>A.un0 o2 ( A.opt (lenS a3) (λo3=>A.loop (λo4 o5 a4=>A.unI o5 (λa0 o6=>A.un0 o6 ( A.cmp .lss a0 o3 (λo7=>A.cond o7 ( A.opt (idS 2 a3 a0) (λo8=>A.peek (.lg cc 2 o8) a4 (λo9=>A.ucI .i64 o9 (λq6 p0=>A.ucI .i64 p0 (λq7 p1=>A.uc0 p1 ( A.opt (slS 2 a3 none (some a0) none) (λa5=>A.chk a5 ( A.opt (lenS a5) (λp2=>A.loop (λq8 p3 c1=>A.unI p3 (λd0 p4=>A.un0 p4 ( A.cmp .lss d0 p2 (λp5=>A.cond p5 ( A.opt (idS 2 a5 d0) (λp6=>A.peek (.lg cc 2 p6) c1 (λp7=>A.ucI .i64 p7 (λq9 p8=>A.ucI .i64 p8 (λr1 p9=>A.uc0 p9 ( A.fail)))))) ( A.ari .add .i64 a0 1 (λq0=>o4 [(.i q0)] c1)))))) [(.i 0)] a4))))))))) ( A.ari .add .i64 V 1 (λq1=>n0 [(.i q1)] a4)))))) [(.i 0)] c0)))))) ( K [] c0))))) [(.i 0)] J))))))))))))))) [(.i 0)] h))))))))))))
/-- (*crimp/orders.problem).all$1 -/
def f26(ls:List Lf)(h:HT)(K:List Lf->HT->R):R:=A.unV ls (λx6 a4=>A.unV a4 (λU a5=>A.un0 a5 ( A.new (.cells [x6] 1 true) h (λV a6=>A.new (.cells [.nilFunc] 1 true) a6 (λO a7=>A.chk (.func (.func 27) ⟨[]⟩ ⟨[U,(.pointer (some ⟨V,0,none⟩)),(.pointer (some ⟨O,0,none⟩))]⟩) ( A.heap (.st (.pointer (some ⟨O,0,none⟩)) [(.func (.func 27) ⟨[]⟩ ⟨[U,(.pointer (some ⟨V,0,none⟩)),(.pointer (some ⟨O,0,none⟩))]⟩)]) a7 (λc0 J=>A.peek (.lg cc 1 U) J (λa8=>A.ucV a8 (λa0 a9=>A.chk a0 ( A.uc0 a9 ( A.opt (nilP a0) (λx19=>A.chk x19 ( A.opt (fdP 14 x19) (λa1=>A.chk a1 ( A.peek (.lg cc 1 a1) J (λb0=>A.ucB b0 (λb1 b2=>A.uc0 b2 ( A.join (λb3 b4=>A.un0 b3 ( K [] b4)) (λa2=>A.cond (!b1) ( A.peek (.lg cc 1 (.pointer (some ⟨O,0,none⟩))) J (λb5=>A.ucV b5 (λa3 b6=>A.chk a3 ( A.uc0 b6 ( A.callv a3 [(.int .i64 0)] [(.leaf .b)] J (λb7 b8=>A.unB b7 (λc1 b9=>A.un0 b9 ( a2 [] b8)))))))) ( a2 [] J))))))))))))))))))))
/-- (*crimp/orders.problem).all$1$1 -/
def f27(ls:List Lf)(h:HT)(K:List Lf->HT->R):R:=A.unI ls (λn6 gl=>A.unV gl (λJ g0=>A.unV g0 (λa2 g1=>A.unV g1 (λx12 g2=>A.un0 g2 ( A.peek (.lg cc 1 J) h (λg3=>A.ucV g3 (λx15 g4=>A.chk x15 ( A.uc0 g4 ( A.opt (nilP x15) (λa3=>A.chk a3 ( A.opt (fdP 6 a3) (λa4=>A.chk a4 ( A.peek (.lg cc 1 a4) h (λg5=>A.ucV g5 (λa5 g6=>A.chk a5 ( A.uc0 g6 ( A.opt (lenS a5) (λg7=>A.cmp .eql n6 g7 (λg8=>A.cond g8 ( A.peek (.lg cc 1 a2) h (λg9=>A.ucV g9 (λU h0=>A.chk U ( A.uc0 h0 ( A.peek (.lg cc 1 J) h (λh1=>A.ucV h1 (λa6 h2=>A.chk a6 ( A.uc0 h2 ( A.call 28 [(.v a6)] h (λh3 a7=>A.unI h3 (λn32 h4=>A.unI h4 (λn34 h5=>A.unV h5 (λh6 h7=>A.unI h7 (λn38 h8=>A.unI h8 (λn40 h9=>A.unI h9 (λn42 i0=>A.unV i0 (λi1 i2=>A.un0 i2 ( A.peek (.lg cc 1 a2) a7 (λj0=>A.ucV j0 (λa8 j1=>A.chk a8 ( A.uc0 j1 ( A.opt (Sx.eqFn U a8) (λr2=>A.callv U [(.agg ⟨[(.int .i64 n32),(.int .i64 n34),h6,(.int .u8 n38),(.int .i64 n40),(.int .i64 n42),i1]⟩)] [(.leaf .b)] a7 (λj2 j3=>A.unB j2 (λj4 j5=>A.un0 j5 ( K [(.b j4)] j3)))))))))))))))))))))))))) ( A.peek (.lg cc 1 J) h (λj6=>A.ucV j6 (λa9 j7=>A.chk a9 ( A.uc0 j7 ( A.opt (nilP a9) (λb0=>A.chk b0 ( A.opt (fdP 8 b0) (λb1=>A.chk b1 ( A.peek (.lg cc 1 b1) h (λj8=>A.ucV j8 (λb2 j9=>A.chk b2 ( A.uc0 j9 ( A.opt (idS 1 b2 n6) (λk0=>A.peek (.lg cc 1 k0) h (λk1=>A.ucV k1 (λb3 k2=>A.chk b3 ( A.uc0 k2 ( A.opt (lenS b3) (λk3=>A.peek (.lg cc 1 J) h (λk4=>A.ucV k4 (λb4 k5=>A.chk b4 ( A.uc0 k5 ( A.opt (nilP b4) (λb5=>A.chk b5 ( A.opt (fdP 7 b5) (λb6=>A.chk b6 ( A.peek (.lg cc 1 b6) h (λk6=>A.ucV k6 (λb7 k7=>A.chk b7 ( A.uc0 k7 ( A.opt (idS 1 b7 n6) (λk8=>A.peek (.lg cc 1 k8) h (λk9=>A.ucV k9 (λb8 l0=>A.chk b8 ( A.uc0 l0 ( A.opt (lenS b8) (λl1=>A.cmp .eql k3 l1 (λl2=>A.cond l2 ( A.peek (.lg cc 1 x12) h (λl3=>A.ucV l3 (λb9 l4=>A.chk b9 ( A.uc0 l4 ( A.ari .add .i64 n6 1 (λn80=>A.callv b9 [(.int .i64 n80)] [(.leaf .b)] h (λl5 l6=>A.unB l5 (λl7 l8=>A.un0 l8 ( K [(.b l7)] l6))))))))) ( A.peek (.lg cc 1 J) h (λl9=>A.ucV l9 (λc0 m0=>A.chk c0 ( A.uc0 m0 ( A.opt (nilP c0) (λc1=>A.chk c1 ( A.opt (fdP 7 c1) (λd0=>A.chk d0 ( A.peek (.lg cc 1 d0) h (λm1=>A.ucV m1 (λd1 m2=>A.chk d1 ( A.uc0 m2 ( A.opt (idS 1 d1 n6) (λm3=>A.peek (.lg cc 1 m3) h (λm4=>A.ucV m4 (λV m5=>A.chk V ( A.uc0 m5 ( A.opt (lenS V) (λm6=>A.loop (λm7 m8 O=>A.unI m8 (λn101 m9=>A.un0 m9 ( A.cmp .lss n101 m6 (λn0=>A.cond n0 ( A.join (λn1 n2=>A.un0 n1 ( A.ari .add .i64 n101 1 (λo0=>m7 [(.i o0)] n2))) (λd2=>A.opt (idS 1 V n101) (λo1=>A.peek (.lg cc 1 o1) O (λo2=>A.ucI .i64 o2 (λd3 o3=>A.uc0 o3 ( A.peek (.lg cc 1 J) O (λo4=>A.ucV o4 (λd4 o5=>A.chk d4 ( A.uc0 o5 ( A.opt (nilP d4) (λd5=>A.chk d5 ( A.opt (fdP 9 d5) (λd6=>A.chk d6 ( A.peek (.lg cc 1 d6) O (λo6=>A.ucV o6 (λd7 o7=>A.chk d7 ( A.uc0 o7 ( A.opt (idS 1 d7 d3) (λo8=>A.peek (.lg cc 1 o8) O (λo9=>A.ucB o9 (λp0 p1=>A.uc0 p1 ( A.cond p0 ( d2 [] O) ( A.new (.cells [(.slice none 0 0)] 1 true) O (λd8 d9=>A.join (λp2 a0=>A.unB p2 (λp3 p4=>A.un0 p4 ( A.peek (.lg cc 1 J) a0 (λp5=>A.ucV p5 (λe0 p6=>A.chk e0 ( A.uc0 p6 ( A.peek (.lg cc 1 (.pointer (some ⟨d8,0,none⟩))) a0 (λp7=>A.ucV p7 (λe1 p8=>A.chk e1 ( A.uc0 p8 ( A.call 30 [(.v e0),(.i n6),(.v e1)] a0 (λp9 e2=>A.un0 p9 ( A.cond (!p3) ( K [(.b false)] e2) ( d2 [] e2)))))))))))))) (λf0=>A.peek (.lg cc 1 J) d9 (λq0=>A.ucV q0 (λf1 q1=>A.chk f1 ( A.uc0 q1 ( A.call 29 [(.v f1),(.i n6),(.i d3),(.v (.pointer (some ⟨d8,0,none⟩)))] d9 (λq2 a1=>A.unB q2 (λq3 q4=>A.un0 q4 ( A.cond (!q3) ( f0 [(.b true)] a1) ( A.peek (.lg cc 1 x12) a1 (λq5=>A.ucV q5 (λf2 q6=>A.chk f2 ( A.uc0 q6 ( A.callv f2 [(.int .i64 n6)] [(.leaf .b)] a1 (λq7 q8=>A.unB q7 (λq9 r1=>A.un0 r1 ( f0 [(.b q9)] q8)))))))))))))))))))))))))))))))))))))))) ( K [(.b true)] O))))) [(.i 0)] h))))))))))))))))))))))))))))))))))))))))))))))))))))))))))))))))))))))))))))
/-- (*crimp/orders.problem).state -/
def f28(ls:List Lf)(h:HT)(K:List Lf->HT->R):R:=A.unV ls (λx6 b5=>A.un0 b5 ( A.opt (nilP x6) (λa2=>A.chk a2 ( A.opt (fdP 0 a2) (λa3=>A.chk a3 ( A.peek (.lg cc 3 a3) h (λb6=>A.ucI .i64 b6 (λn11 b7=>A.ucI .i64 b7 (λn13 b8=>A.ucV b8 (λx15 b9=>A.chk x15 ( A.uc0 b9 ( A.call 46 [(.v x15)] h (λc0 c1=>A.unV c0 (λx19 d0=>A.un0 d0 ( A.call 45 [(.v x19)] c1 (λd1 U=>A.unV d1 (λd2 d3=>A.un0 d3 ( A.opt (nilP x6) (λa4=>A.chk a4 ( A.opt (fdP 3 a4) (λV=>A.chk V ( A.peek (.lg cc 3 V) U (λd4=>A.ucI .u8 d4 (λn28 d5=>A.ucI .i64 d5 (λn30 d6=>A.ucI .i64 d6 (λn32 d7=>A.uc0 d7 ( A.opt (nilP x6) (λa5=>A.chk a5 ( A.opt (fdP 6 a5) (λa6=>A.chk a6 ( A.peek (.lg cc 1 a6) U (λd8=>A.ucV d8 (λa7 d9=>A.chk a7 ( A.uc0 d9 ( A.opt (lenS a7) (λJ=>A.opt (mkOk J J) (λj0=>A.new (.cells (aM [(.int .i64 0),(.int .i64 0),(.int .u8 0),(.slice none 0 0)] (Int.toNat J)) 4 true) U (λa0 a8=>A.opt (Sx.sepL [((.slice (some ⟨a0,0,(some 14)⟩) (Int.toNat J) ((Int.toNat J)+1)),(0,V))]) (λj1=>A.opt (nilP x6) (λa9=>A.chk a9 ( A.opt (fdP 6 a9) (λb0=>A.chk b0 ( A.peek (.lg cc 1 b0) a8 (λe0=>A.ucV e0 (λa1 e1=>A.chk a1 ( A.uc0 e1 ( A.opt (lenS a1) (λe2=>A.loop (λf0 f1 O=>A.unI f1 (λn53 f2=>A.un0 f2 ( A.cmp .lss n53 e2 (λgl=>A.cond gl ( A.opt (idS 3 a1 n53) (λg0=>A.peek (.lg cc 3 g0) O (λg1=>A.ucI .i64 g1 (λg2 g3=>A.ucI .i64 g3 (λg4 g5=>A.ucI .u8 g5 (λg6 g7=>A.uc0 g7 ( A.opt (nilP x6) (λb1=>A.chk b1 ( A.opt (fdP 8 b1) (λb2=>A.chk b2 ( A.peek (.lg cc 1 b2) O (λg8=>A.ucV g8 (λb3 g9=>A.chk b3 ( A.uc0 g9 ( A.opt (idS 1 b3 n53) (λh0=>A.peek (.lg cc 1 h0) O (λh1=>A.ucV h1 (λb4 h2=>A.chk b4 ( A.uc0 h2 ( A.call 48 [(.v b4)] O (λh3 h4=>A.unV h3 (λh5 h6=>A.un0 h6 ( A.call 47 [(.v h5)] h4 (λh7 h8=>A.unV h7 (λh9 i0=>A.un0 i0 ( A.opt (idS 4 (.slice (some ⟨a0,0,(some 14)⟩) (Int.toNat J) ((Int.toNat J)+1)) n53) (λi1=>A.heap (.st i1 [(.int .i64 g2),(.int .i64 g4),(.int .u8 g6),h9]) h8 (λj2 i2=>A.ari .add .i64 n53 1 (λn84=>f0 [(.i n84)] i2))))))))))))))))))))))))))))) ( K [(.i n11),(.i n13),(.v d2),(.i n28),(.i n30),(.i n32),(.v (.slice (some ⟨a0,0,(some 14)⟩) (Int.toNat J) ((Int.toNat J)+1)))] O))))) [(.i 0)] a8))))))))))))))))))))))))))))))))))))))))))))))))
/-- (*crimp/orders.problem).place -/
def f29(ls:List Lf)(h:HT)(K:List Lf->HT->R):R:=A.unV ls (λx6 c1=>A.unI c1 (λn8 d0=>A.unI d0 (λn10 d1=>A.unV d1 (λx12 d2=>A.un0 d2 ( A.opt (nilP x6) (λa6=>A.chk a6 ( A.opt (fdP 9 a6) (λx15=>A.chk x15 ( A.peek (.lg cc 1 x15) h (λd3=>A.ucV d3 (λa7 d4=>A.chk a7 ( A.uc0 d4 ( A.opt (idS 1 a7 n10) (λx19=>A.heap (.st x19 [(.bool true)]) h (λj9 U=>A.opt (nilP x6) (λa8=>A.chk a8 ( A.opt (fdP 8 a8) (λO=>A.chk O ( A.peek (.lg cc 1 O) U (λd5=>A.ucV d5 (λa9 d6=>A.chk a9 ( A.uc0 d6 ( A.opt (nilP x6) (λb0=>A.chk b0 ( A.opt (fdP 8 b0) (λa1=>A.chk a1 ( A.peek (.lg cc 1 a1) U (λd7=>A.ucV d7 (λb1 d8=>A.chk b1 ( A.uc0 d8 ( A.opt (idS 1 b1 n8) (λb2=>A.peek (.lg cc 1 b2) U (λd9=>A.ucV d9 (λa2 e0=>A.chk a2 ( A.uc0 e0 ( A.new (.cells [(.int .i64 n10)] 1 true) U (λV e1=>A.heap (.ap cc 1 8 a2 (.slice (some ⟨V,0,(some 11)⟩) 1 2)) e1 (λe2 f0=>A.ucV e2 (λa3 f1=>A.chk a3 ( A.uc0 f1 ( A.opt (idS 1 a9 n8) (λf2=>A.heap (.st f2 [a3]) f0 (λk0 a4=>A.opt (Sx.sepL [((.slice (some ⟨V,0,(some 11)⟩) 1 2),(0,O)),((.slice (some ⟨V,0,(some 11)⟩) 1 2),(0,a1)),((.slice (some ⟨V,0,(some 11)⟩) 1 2),(0,b2)),(a2,(0,O)),(a3,(0,O))]) (λk1=>A.opt (nilP x6) (λb3=>A.chk b3 ( A.opt (fdP 7 b3) (λb4=>A.chk b4 ( A.peek (.lg cc 1 b4) a4 (λgl=>A.ucV gl (λb5 g0=>A.chk b5 ( A.uc0 g0 ( A.opt (idS 1 b5 n8) (λg1=>A.peek (.lg cc 1 g1) a4 (λg2=>A.ucV g2 (λa5 g3=>A.chk a5 ( A.uc0 g3 ( A.opt (lenS a5) (λg4=>A.loop (λb6 g5 J=>A.unI g5 (λa0 g6=>A.un0 g6 ( A.cmp .lss a0 g4 (λg7=>A.cond g7 ( A.opt (idS 1 a5 a0) (λg8=>A.peek (.lg cc 1 g8) J (λg9=>A.ucI .i64 g9 (λn64 h0=>A.uc0 h0 ( A.opt (nilP x6) (λb7=>A.chk b7 ( A.opt (fdP 9 b7) (λb8=>A.chk b8 ( A.peek (.lg cc 1 b8) J (λh1=>A.ucV h1 (λb9 h2=>A.chk b9 ( A.uc0 h2 ( A.opt (idS 1 b9 n64) (λh3=>A.peek (.lg cc 1 h3) J (λh4=>A.ucB h4 (λh5 h6=>A.uc0 h6 ( A.cond (!h5) ( A.call 44 [(.v x6),(.i n10),(.i n64)] J (λh7 h8=>A.unI h7 (λn77 h9=>A.unB h9 (λi0 i1=>A.un0 i1 ( A.call 49 [(.v x6),(.i n77),(.b i0),(.v x12)] h8 (λi2 c0=>A.unB i2 (λj0 j1=>A.un0 j1 ( A.join (λj2 j3=>A.un0 j2 ( A.ari .add .i64 a0 1 (λn87=>b6 [(.i n87)] j3))) (λj4=>A.cond (!j0) ( K [(.b false)] c0) ( j4 [] c0)))))))))) ( A.ari .add .i64 a0 1 (λn89=>b6 [(.i n89)] J))))))))))))))))))) ( A.call 50 [(.v x6)] J (λj5 j6=>A.unB j5 (λj7 j8=>A.un0 j8 ( K [(.b j7)] j6)))))))) [(.i 0)] a4))))))))))))))))))))))))))))))))))))))))))))))))))))))))))
/-- (*crimp/orders.problem).remove -/
def f30(ls:List Lf)(h:HT)(K:List Lf->HT->R):R:=A.unV ls (λx6 b7=>A.unI b7 (λn8 b8=>A.unV b8 (λU b9=>A.un0 b9 ( A.opt (nilP x6) (λx12=>A.chk x12 ( A.opt (fdP 8 x12) (λx13=>A.chk x13 ( A.peek (.lg cc 1 x13) h (λc0=>A.ucV c0 (λx15 c1=>A.chk x15 ( A.uc0 c1 ( A.opt (idS 1 x15 n8) (λd0=>A.peek (.lg cc 1 d0) h (λd1=>A.ucV d1 (λx19 d2=>A.chk x19 ( A.uc0 d2 ( A.opt (lenS x19) (λd3=>A.ari .sub .i64 d3 1 (λn22=>A.opt (nilP x6) (λV=>A.chk V ( A.opt (fdP 9 V) (λa0=>A.chk a0 ( A.peek (.lg cc 1 a0) h (λd4=>A.ucV d4 (λa1 d5=>A.chk a1 ( A.uc0 d5 ( A.opt (nilP x6) (λa2=>A.chk a2 ( A.opt (fdP 8 a2) (λa3=>A.chk a3 ( A.peek (.lg cc 1 a3) h (λd6=>A.ucV d6 (λa4 d7=>A.chk a4 ( A.uc0 d7 ( A.opt (idS 1 a4 n8) (λd8=>A.peek (.lg cc 1 d8) h (λd9=>A.ucV d9 (λa5 e0=>A.chk a5 ( A.uc0 e0 ( A.opt (idS 1 a5 n22) (λe1=>A.peek (.lg cc 1 e1) h (λe2=>A.ucI .i64 e2 (λn39 f0=>A.uc0 f0 ( A.opt (idS 1 a1 n39) (λf1=>A.heap (.st f1 [(.bool false)]) h (λh9 J=>A.opt (nilP x6) (λa6=>A.chk a6 ( A.opt (fdP 8 a6) (λa7=>A.chk a7 ( A.peek (.lg cc 1 a7) J (λf2=>A.ucV f2 (λa8 gl=>A.chk a8 ( A.uc0 gl ( A.opt (nilP x6) (λa9=>A.chk a9 ( A.opt (fdP 8 a9) (λb0=>A.chk b0 ( A.peek (.lg cc 1 b0) J (λg0=>A.ucV g0 (λb1 g1=>A.chk b1 ( A.uc0 g1 ( A.opt (idS 1 b1 n8) (λg2=>A.peek (.lg cc 1 g2) J (λg3=>A.ucV g3 (λb2 g4=>A.chk b2 ( A.uc0 g4 ( A.opt (slS 1 b2 none (some n22) none) (λb3=>A.chk b3 ( A.opt (idS 1 a8 n8) (λg5=>A.heap (.st g5 [b3]) J (λi0 g6=>A.opt (lenS U) (λg7=>A.loop (λg8 g9 O=>A.unI g9 (λn66 h0=>A.un0 h0 ( A.cmp .lss n66 g7 (λh1=>A.cond h1 ( A.opt (idS 1 U n66) (λh2=>A.peek (.lg cc 1 h2) O (λh3=>A.ucI .i64 h3 (λn71 h4=>A.uc0 h4 ( A.opt (nilP x6) (λb4=>A.chk b4 ( A.opt (fdP 12 b4) (λb5=>A.chk b5 ( A.peek (.lg cc 1 b5) O (λh5=>A.ucV h5 (λb6 h6=>A.chk b6 ( A.uc0 h6 ( A.opt (idS 1 b6 n71) (λh7=>A.heap (.st h7 [(.int .i64 0)]) O (λi1 h8=>A.ari .add .i64 n66 1 (λn81=>g8 [(.i n81)] h8)))))))))))))))) ( K [] O))))) [(.i 0)] g6))))))))))))))))))))))))))))))))))))))))))))))))))))))))))))))))))))))))
def f31(ls:List Lf)(h:HT)(K:List Lf->HT->R):R:=A.unI ls (λn6 J=>A.un0 J ( A.cmp .neq n6 n6 (λO=>K [(.b O)] h)))
/-- crimp/places.both -/
def f32(ls:List Lf)(h:HT)(K:List Lf->HT->R):R:=A.unI ls (λn6 a7=>A.unI a7 (λn8 a8=>A.unV a8 (λa0 a9=>A.unI a9 (λn12 b0=>A.unI b0 (λn14 b1=>A.unI b1 (λn16 b2=>A.un0 b2 ( A.call 51 [(.i n6),(.i n8),(.v a0)] h (λb3 a1=>A.unI b3 (λn20 b4=>A.un0 b4 ( A.cmp .neq n20 0 (λb5=>A.cond b5 ( K [(.v (.slice none 0 0)),(.v (.slice none 0 0)),(.i n20)] a1) ( A.call 52 [(.i n12),(.i n14),(.i n16)] a1 (λb6 a2=>A.unI b6 (λn25 b7=>A.un0 b7 ( A.cmp .neq n25 0 (λb8=>A.cond b8 ( K [(.v (.slice none 0 0)),(.v (.slice none 0 0)),(.i 1)] a2) ( A.call 53 [(.i n6),(.i n8),(.v a0)] a2 (λb9 a3=>A.unV b9 (λO c0=>A.unI c0 (λn32 c1=>A.un0 c1 ( A.cmp .neq n32 0 (λd0=>A.cond d0 ( K [(.v (.slice none 0 0)),(.v (.slice none 0 0)),(.i n32)] a3) ( A.opt (lenS O) (λJ=>A.opt (mkOk J J) (λj4=>A.new (.cells (aM [(.int .i64 0),(.int .i64 0),(.int .u8 0)] (Int.toNat J)) 3 true) a3 (λa4 d1=>A.opt (lenS O) (λd2=>A.loop (λd3 d4 U=>A.unI d4 (λn43 d5=>A.un0 d5 ( A.cmp .lss n43 d2 (λd6=>A.cond d6 ( A.opt (idS 3 O n43) (λd7=>A.peek (.lg cc 3 d7) U (λd8=>A.ucI .u8 d8 (λn48 d9=>A.ucI .i64 d9 (λn50 e0=>A.ucI .i64 e0 (λn52 e1=>A.uc0 e1 ( A.call 36 [(.i n6),(.i n8),(.i n43)] U (λe2 f0=>A.unI e2 (λf1 f2=>A.unI f2 (λgl g0=>A.unI g0 (λg1 g2=>A.unI g2 (λj5 g3=>A.un0 g3 ( A.call 54 [(.i n48),(.i n50),(.i n52),(.i n12),(.i n14),(.i n16)] f0 (λg4 g5=>A.unI g4 (λn66 g6=>A.unI g6 (λn68 g7=>A.unI g7 (λn70 g8=>A.unI g8 (λn72 g9=>A.un0 g9 ( A.opt (idS 3 O n43) (λh0=>A.heap (.st h0 [(.int .u8 n66),(.int .i64 n68),(.int .i64 n70)]) g5 (λj6 V=>A.cmp .neq n72 0 (λh1=>A.cond h1 ( K [(.v (.slice none 0 0)),(.v (.slice none 0 0)),(.i n72)] V) ( A.opt (idS 3 O n43) (λh2=>A.peek (.lg cc 3 h2) V (λh3=>A.ucI .u8 h3 (λn80 h4=>A.ucI .i64 h4 (λn82 h5=>A.ucI .i64 h5 (λn84 h6=>A.uc0 h6 ( A.call 38 [(.i n80),(.i n82),(.i n84),(.i f1),(.i gl),(.i g1)] V (λh7 h8=>A.unI h7 (λn88 h9=>A.unI h9 (λi0 i1=>A.unI i1 (λi2 j0=>A.unI j0 (λa5 j1=>A.un0 j1 ( A.opt (idS 3 (.slice (some ⟨a4,0,(some 13)⟩) (Int.toNat J) ((Int.toNat J)+1)) n43) (λj2=>A.heap (.st j2 [(.int .i64 n88),(.int .i64 i0),(.int .u8 i2)]) h8 (λj7 a6=>A.cmp .neq a5 0 (λj3=>A.cond j3 ( K [(.v (.slice none 0 0)),(.v (.slice none 0 0)),(.i a5)] a6) ( A.ari .add .i64 n43 1 (λn100=>d3 [(.i n100)] a6)))))))))))))))))))))))))))))))))))))))) ( K [(.v O),(.v (.slice (some ⟨a4,0,(some 13)⟩) (Int.toNat J) ((Int.toNat J)+1))),(.i 0)] U))))) [(.i 0)] d1)))))))))))))))))))))))))))
/-- slices.pdqsortCmpFunc[crimp/api.Cell] -/
def f33(ls:List Lf)(h:HT)(K:List Lf->HT->R):R:=A.unV ls (λx6 h0=>A.unI h0 (λn8 h1=>A.unI h1 (λn10 h2=>A.unI h2 (λn12 h3=>A.unV h3 (λJ h4=>A.un0 h4 ( A.loop (λh5 h6 a6=>A.unI h6 (λn19 h7=>A.unI h7 (λn21 h8=>A.unB h8 (λa7 h9=>A.unB h9 (λa5 i0=>A.unI i0 (λn27 i1=>A.un0 i1 ( A.join (λi2 j0=>A.unI i2 (λn31 j1=>A.unI j1 (λn33 j2=>A.unB j2 (λj3 j4=>A.unB j4 (λj5 j6=>A.unI j6 (λn39 j7=>A.un0 j7 ( h5 [(.i n31),(.i n33),(.b j3),(.b j5),(.i n39)] j0))))))) (λV=>A.ari .sub .i64 n27 n21 (λn42=>A.cmp .leq n42 12 (λj8=>A.cond j8 ( A.call 55 [(.v x6),(.i n21),(.i n27),(.v J)] a6 (λj9 k0=>A.un0 j9 ( K [] k0))) ( A.cmp .eql n19 0 (λk1=>A.cond k1 ( A.call 56 [(.v x6),(.i n21),(.i n27),(.v J)] a6 (λk2 k3=>A.un0 k2 ( K [] k3))) ( A.join (λk4 k5=>A.unI k4 (λn51 k6=>A.un0 k6 ( A.call 58 [(.v x6),(.i n21),(.i n27),(.v J)] k5 (λk7 b2=>A.unI k7 (λn55 k8=>A.unI k8 (λb3 k9=>A.un0 k9 ( A.cmp .eql b3 2 (λl0=>A.join (λl1 U=>A.unI l1 (λO l2=>A.unI l2 (λn64 l3=>A.un0 l3 ( A.cond a5 ( A.cond a7 ( A.cmp .eql n64 1 (λl4=>A.join (λl5 a8=>A.un0 l5 ( A.cmp .gtr n21 0 (λl6=>A.cond l6 ( A.ari .sub .i64 n21 1 (λn70=>A.opt (idS 3 x6 n70) (λl7=>A.peek (.lg cc 3 l7) a8 (λl8=>A.ucI .i64 l8 (λn73 l9=>A.ucI .i64 l9 (λn75 m0=>A.ucI .u8 m0 (λn77 m1=>A.uc0 m1 ( A.opt (idS 3 x6 O) (λm2=>A.peek (.lg cc 3 m2) a8 (λm3=>A.ucI .i64 m3 (λn81 m4=>A.ucI .i64 m4 (λn83 m5=>A.ucI .u8 m5 (λn85 m6=>A.uc0 m6 ( A.callv J [(.agg ⟨[(.int .i64 n73),(.int .i64 n75),(.int .u8 n77)]⟩),(.agg ⟨[(.int .i64 n81),(.int .i64 n83),(.int .u8 n85)]⟩)] [(.leaf (.i .i64))] a8 (λm7 b4=>A.unI m7 (λn89 m8=>A.un0 m8 ( A.cmp .lss n89 0 (λm9=>A.join (λn0 n1=>A.unI n0 (λa9 n2=>A.un0 n2 ( A.call 62 [(.v x6),(.i a9),(.i n27),(.i O),(.v J)] n1 (λo0 b5=>A.unI o0 (λn98 o1=>A.unB o1 (λo2 o3=>A.un0 o3 ( A.ari .sub .i64 n98 a9 (λb6=>A.ari .sub .i64 n27 n98 (λn103=>A.ari .quo .i64 n42 8 (λn104=>A.cmp .lss b6 n103 (λo4=>A.join (λo5 o6=>A.unB o5 (λo7 o8=>A.unI o8 (λo9 p0=>A.unI p0 (λp1 p2=>A.un0 p2 ( V [(.i n51),(.i o9),(.b o2),(.b o7),(.i p1)] o6))))) (λb7=>A.cond o4 ( A.cmp .geq b6 n104 (λp3=>A.call 33 [(.v x6),(.i a9),(.i n98),(.i n51),(.v J)] b5 (λp4 p5=>A.un0 p4 ( A.ari .add .i64 n98 1 (λp6=>b7 [(.b p3),(.i p6),(.i n27)] p5))))) ( A.cmp .geq n103 n104 (λp7=>A.ari .add .i64 n98 1 (λp8=>A.call 33 [(.v x6),(.i p8),(.i n27),(.i n51),(.v J)] b5 (λp9 q0=>A.un0 p9 ( b7 [(.b p7),(.i a9),(.i n98)] q0))))))))))))))))) (λq1=>A.cond (!m9) ( A.call 61 [(.v x6),(.i n21),(.i n27),(.i O),(.v J)] b4 (λq2 q3=>A.unI q2 (λq4 q5=>A.un0 q5 ( V [(.i n51),(.i q4),(.b a7),(.b a5),(.i n27)] q3)))) ( q1 [(.i n21)] b4)))))))))))))))))))) ( A.call 62 [(.v x6),(.i n21),(.i n27),(.i O),(.v J)] a8 (λq6 b8=>A.unI q6 (λa0 q7=>A.unB q7 (λq8 q9=>A.un0 q9 ( A.ari .sub .i64 a0 n21 (λb9=>A.ari .sub .i64 n27 a0 (λc0=>A.ari .quo .i64 n42 8 (λc1=>A.cmp .lss b9 c0 (λr1=>A.join (λr2 r3=>A.unB r2 (λr4 r5=>A.unI r5 (λr6 r7=>A.unI r7 (λr8 r9=>A.un0 r9 ( V [(.i n51),(.i r6),(.b q8),(.b r4),(.i r8)] r3))))) (λd0=>A.cond r1 ( A.cmp .geq b9 c1 (λsR=>A.call 33 [(.v x6),(.i n21),(.i a0),(.i n51),(.v J)] b8 (λsS sU=>A.un0 sS ( A.ari .add .i64 a0 1 (λsV=>d0 [(.b sR),(.i sV),(.i n27)] sU))))) ( A.cmp .geq c0 c1 (λsW=>A.ari .add .i64 a0 1 (λsX=>A.call 33 [(.v x6),(.i sX),(.i n27),(.i n51),(.v J)] b8 (λsY sZ=>A.un0 sY ( d0 [(.b sW),(.i n21),(.i a0)] sZ)))))))))))))))))) (λd1=>A.cond l4 ( A.call 60 [(.v x6),(.i n21),(.i n27),(.v J)] U (λs0 d2=>A.unB s0 (λs1 s2=>A.un0 s2 ( A.cond s1 ( K [] d2) ( d1 [] d2))))) ( d1 [] U)))) ( A.cmp .gtr n21 0 (λs3=>A.cond s3 ( A.ari .sub .i64 n21 1 (λs4=>A.opt (idS 3 x6 s4) (λs5=>A.peek (.lg cc 3 s5) U (λs6=>A.ucI .i64 s6 (λs7 s8=>A.ucI .i64 s8 (λs9 ta=>A.ucI .u8 ta (λtb tg=>A.uc0 tg ( A.opt (idS 3 x6 O) (λth=>A.peek (.lg cc 3 th) U (λti=>A.ucI .i64 ti (λtj tn=>A.ucI .i64 tn (λtq tr=>A.ucI .u8 tr (λtt tu=>A.uc0 tu ( A.callv J [(.agg ⟨[(.int .i64 s7),(.int .i64 s9),(.int .u8 tb)]⟩),(.agg ⟨[(.int .i64 tj),(.int .i64 tq),(.int .u8 tt)]⟩)] [(.leaf (.i .i64))] U (λtv d3=>A.unI tv (λtw tz=>A.un0 tz ( A.cmp .lss tw 0 (λtA=>A.join (λtB tC=>A.unI tB (λb0 tD=>A.un0 tD ( A.call 62 [(.v x6),(.i b0),(.i n27),(.i O),(.v J)] tC (λtE d4=>A.unI tE (λa1 tF=>A.unB tF (λtG tH=>A.un0 tH ( A.ari .sub .i64 a1 b0 (λd5=>A.ari .sub .i64 n27 a1 (λd6=>A.ari .quo .i64 n42 8 (λd7=>A.cmp .lss d5 d6 (λtI=>A.join (λtJ tK=>A.unB tJ (λtL tM=>A.unI tM (λtN tO=>A.unI tO (λtP tQ=>A.un0 tQ ( V [(.i n51),(.i tN),(.b tG),(.b tL),(.i tP)] tK))))) (λd8=>A.cond tI ( A.cmp .geq d5 d7 (λtR=>A.call 33 [(.v x6),(.i b0),(.i a1),(.i n51),(.v J)] d4 (λtS tT=>A.un0 tS ( A.ari .add .i64 a1 1 (λtU=>d8 [(.b tR),(.i tU),(.i n27)] tT))))) ( A.cmp .geq d6 d7 (λtV=>A.ari .add .i64 a1 1 (λtW=>A.call 33 [(.v x6),(.i tW),(.i n27),(.i n51),(.v J)] d4 (λtX tY=>A.un0 tX ( d8 [(.b tV),(.i b0),(.i a1)] tY))))))))))))))))) (λtZ=>A.cond (!tA) ( A.call 61 [(.v x6),(.i n21),(.i n27),(.i O),(.v J)] d3 (λt0 t1=>A.unI t0 (λt2 t3=>A.un0 t3 ( V [(.i n51),(.i t2),(.b a7),(.b a5),(.i n27)] t1)))) ( tZ [(.i n21)] d3)))))))))))))))))))) ( A.call 62 [(.v x6),(.i n21),(.i n27),(.i O),(.v J)] U (λt4 d9=>A.unI t4 (λa2 t5=>A.unB t5 (λt6 t7=>A.un0 t7 ( A.ari .sub .i64 a2 n21 (λe0=>A.ari .sub .i64 n27 a2 (λe1=>A.ari .quo .i64 n42 8 (λe2=>A.cmp .lss e0 e1 (λt8=>A.join (λt9 uc=>A.unB t9 (λud ue=>A.unI ue (λuf ug=>A.unI ug (λuh ui=>A.un0 ui ( V [(.i n51),(.i uf),(.b t6),(.b ud),(.i uh)] uc))))) (λf0=>A.cond t8 ( A.cmp .geq e0 e2 (λuj=>A.call 33 [(.v x6),(.i n21),(.i a2),(.i n51),(.v J)] d9 (λuk ul=>A.un0 uk ( A.ari .add .i64 a2 1 (λum=>f0 [(.b uj),(.i um),(.i n27)] ul))))) ( A.cmp .geq e1 e2 (λuo=>A.ari .add .i64 a2 1 (λuq=>A.call 33 [(.v x6),(.i uq),(.i n27),(.i n51),(.v J)] d9 (λur ut=>A.un0 ur ( f0 [(.b uo),(.i n21),(.i a2)] ut)))))))))))))))))) ( A.cmp .gtr n21 0 (λuv=>A.cond uv ( A.ari .sub .i64 n21 1 (λuw=>A.opt (idS 3 x6 uw) (λux=>A.peek (.lg cc 3 ux) U (λuy=>A.ucI .i64 uy (λuz uA=>A.ucI .i64 uA (λuC uD=>A.ucI .u8 uD (λuE uF=>A.uc0 uF ( A.opt (idS 3 x6 O) (λuG=>A.peek (.lg cc 3 uG) U (λuH=>A.ucI .i64 uH (λuI uJ=>A.ucI .i64 uJ (λuK uL=>A.ucI .u8 uL (λuM uN=>A.uc0 uN ( A.callv J [(.agg ⟨[(.int .i64 uz),(.int .i64 uC),(.int .u8 uE)]⟩),(.agg ⟨[(.int .i64 uI),(.int .i64 uK),(.int .u8 uM)]⟩)] [(.leaf (.i .i64))] U (λuO f1=>A.unI uO (λuP uQ=>A.un0 uQ ( A.cmp .lss uP 0 (λuR=>A.join (λuS uT=>A.unI uS (λb1 uU=>A.un0 uU ( A.call 62 [(.v x6),(.i b1),(.i n27),(.i O),(.v J)] uT (λuV f2=>A.unI uV (λa3 uW=>A.unB uW (λuX uY=>A.un0 uY ( A.ari .sub .i64 a3 b1 (λgl=>A.ari .sub .i64 n27 a3 (λg0=>A.ari .quo .i64 n42 8 (λg1=>A.cmp .lss gl g0 (λuZ=>A.join (λu0 u1=>A.unB u0 (λu2 u3=>A.unI u3 (λu4 u5=>A.unI u5 (λu6 u7=>A.un0 u7 ( V [(.i n51),(.i u4),(.b uX),(.b u2),(.i u6)] u1))))) (λg2=>A.cond uZ ( A.cmp .geq gl g1 (λu8=>A.call 33 [(.v x6),(.i b1),(.i a3),(.i n51),(.v J)] f2 (λu9 va=>A.un0 u9 ( A.ari .add .i64 a3 1 (λvb=>g2 [(.b u8),(.i vb),(.i n27)] va))))) ( A.cmp .geq g0 g1 (λvc=>A.ari .add .i64 a3 1 (λvd=>A.call 33 [(.v x6),(.i vd),(.i n27),(.i n51),(.v J)] f2 (λve vf=>A.un0 ve ( g2 [(.b vc),(.i b1),(.i a3)] vf))))))))))))))))) (λvg=>A.cond (!uR) ( A.call 61 [(.v x6),(.i n21),(.i n27),(.i O),(.v J)] f1 (λvh vi=>A.unI vh (λvj vk=>A.un0 vk ( V [(.i n51),(.i vj),(.b a7),(.b a5),(.i n27)] vi)))) ( vg [(.i n21)] f1)))))))))))))))))))) ( A.call 62 [(.v x6),(.i n21),(.i n27),(.i O),(.v J)] U (λvl g3=>A.unI vl (λa4 vm=>A.unB vm (λvn vo=>A.un0 vo ( A.ari .sub .i64 a4 n21 (λg4=>A.ari .sub .i64 n27 a4 (λg5=>A.ari .quo .i64 n42 8 (λg6=>A.cmp .lss g4 g5 (λvp=>A.join (λvq vr=>A.unB vq (λvt vu=>A.unI vu (λvw vx=>A.unI vx (λvy vz=>A.un0 vz ( V [(.i n51),(.i vw),(.b vn),(.b vt),(.i vy)] vr))))) (λg7=>A.cond vp ( A.cmp .geq g4 g6 (λvA=>A.call 33 [(.v x6),(.i n21),(.i a4),(.i n51),(.v J)] g3 (λvB vC=>A.un0 vB ( A.ari .add .i64 a4 1 (λvD=>g7 [(.b vA),(.i vD),(.i n27)] vC))))) ( A.cmp .geq g5 g6 (λvE=>A.ari .add .i64 a4 1 (λvF=>A.call 33 [(.v x6),(.i vF),(.i n27),(.i n51),(.v J)] g3 (λvG vH=>A.un0 vG ( g7 [(.b vE),(.i n21),(.i a4)] vH))))))))))))))))))))) (λg8=>A.cond l0 ( A.call 59 [(.v x6),(.i n21),(.i n27),(.v J)] b2 (λvI vJ=>A.un0 vI ( A.ari .sub .i64 n27 1 (λvK=>A.ari .sub .i64 n55 n21 (λvL=>A.ari .sub .i64 vK vL (λvM=>g8 [(.i vM),(.i 1)] vJ)))))) ( g8 [(.i n55),(.i b3)] b2)))))))))) (λg9=>A.cond (!a5) ( A.call 57 [(.v x6),(.i n21),(.i n27),(.v J)] a6 (λvN vO=>A.un0 vN ( A.ari .sub .i64 n19 1 (λvP=>g9 [(.i vP)] vO)))) ( g9 [(.i n19)] a6))))))))))))))) [(.i n12),(.i n8),(.b true),(.b true),(.i n10)] h))))))
/-- math/bits.Len -/
def f34(ls:List Lf)(h:HT)(K:List Lf->HT->R):R:=A.unI ls (λn6 J=>A.un0 J ( A.call 64 [(.i n6)] h (λO U=>A.unI O (λn10 V=>A.un0 V ( K [(.i n10)] U)))))
/-- crimp/places.Places -/
def f35(ls:List Lf)(h:HT)(K:List Lf->HT->R):R:=A.unI ls (λn6 J=>A.unI J (λn8 O=>A.unV O (λU V=>A.unI V (λn12 a0=>A.unI a0 (λn14 a1=>A.unI a1 (λn16 a2=>A.un0 a2 ( A.call 32 [(.i n6),(.i n8),(.v U),(.i n12),(.i n14),(.i n16)] h (λa3 a4=>A.unV a3 (λa5 a6=>A.unV a6 (λa9 a7=>A.unI a7 (λn24 a8=>A.un0 a8 ( K [(.v a5),(.i n24)] a4))))))))))))
/-- crimp/sheets.Cell -/
def f36(ls:List Lf)(h:HT)(K:List Lf->HT->R):R:=A.unI ls (λn6 U=>A.unI U (λn8 V=>A.unI V (λn10 a0=>A.un0 a0 ( A.call 65 [(.i n6),(.i n8)] h (λa1 J=>A.unI a1 (λn14 a2=>A.un0 a2 ( A.cmp .neq n14 0 (λa3=>A.cond a3 ( K [(.i 0),(.i 0),(.i 0),(.i n14)] J) ( A.call 66 [(.i n6),(.i n8),(.i n10)] J (λa4 O=>A.unB a4 (λa5 a6=>A.un0 a6 ( A.cond (!a5) ( K [(.i 0),(.i 0),(.i 0),(.i 7)] O) ( A.call 67 [(.i n6),(.i n8),(.i n10)] O (λa7 a8=>A.unI a7 (λn23 a9=>A.unI a9 (λn25 b0=>A.unI b0 (λn27 b1=>A.un0 b1 ( K [(.i n23),(.i n25),(.i n27),(.i 0)] a8))))))))))))))))))
/-- crimp/cells.Neighbour -/
def f37(ls:List Lf)(h:HT)(K:List Lf->HT->R):R:=A.unI ls (λn6 U=>A.unI U (λn8 V=>A.unI V (λn10 a0=>A.unI a0 (λn12 a1=>A.un0 a1 ( A.call 68 [(.i n6),(.i n8),(.i n10)] h (λa2 J=>A.unI a2 (λn16 a3=>A.un0 a3 ( A.cmp .neq n16 0 (λa4=>A.cond a4 ( K [(.i 0),(.i 0),(.i 0),(.i 1)] J) ( A.cmp .gtr n12 2 (λa5=>A.cond a5 ( K [(.i 0),(.i 0),(.i 0),(.i 1)] J) ( A.opt (inB 4 n10) (λb3=>A.opt (inB 3 n12) (λb4=>A.opt (nD gl0 4 [(n10,17),(n12,3)] 3) (λa6=>A.ucI .i64 a6 (λn23 a7=>A.ucI .i64 a7 (λn25 a8=>A.ucI .u8 a8 (λn27 a9=>A.uc0 a9 ( A.ari .add .i64 n23 n6 (λn29=>A.ari .add .i64 n25 n8 (λn30=>A.call 68 [(.i n29),(.i n30),(.i n27)] J (λb0 O=>A.unI b0 (λn33 b1=>A.un0 b1 ( A.cmp .neq n33 0 (λb2=>A.cond b2 ( K [(.i 0),(.i 0),(.i 0),(.i 3)] O) ( K [(.i n29),(.i n30),(.i n27),(.i 0)] O))))))))))))))))))))))))))
/-- crimp/cells.Move -/
def f38(ls:List Lf)(h:HT)(K:List Lf->HT->R):R:=A.unI ls (λn6 V=>A.unI V (λn8 a0=>A.unI a0 (λn10 a1=>A.unI a1 (λn12 a2=>A.unI a2 (λn14 a3=>A.unI a3 (λn16 a4=>A.un0 a4 ( A.call 52 [(.i n6),(.i n8),(.i n10)] h (λa5 J=>A.unI a5 (λn20 a6=>A.un0 a6 ( A.cmp .neq n20 0 (λa7=>A.cond a7 ( K [(.i 0),(.i 0),(.i 0),(.i 1)] J) ( A.call 68 [(.i n12),(.i n14),(.i n16)] J (λa8 O=>A.unI a8 (λn25 a9=>A.un0 a9 ( A.cmp .neq n25 0 (λb0=>A.cond b0 ( K [(.i 0),(.i 0),(.i 0),(.i 1)] O) ( A.call 69 [(.i n6),(.i n8),(.i n10),(.i n12),(.i n14),(.i n16)] O (λb1 b2=>A.unI b1 (λn30 b3=>A.unI b3 (λn32 b4=>A.unI b4 (λn34 b5=>A.un0 b5 ( A.call 68 [(.i n30),(.i n32),(.i n34)] b2 (λb6 U=>A.unI b6 (λn38 b7=>A.un0 b7 ( A.cmp .neq n38 0 (λb8=>A.cond b8 ( K [(.i 0),(.i 0),(.i 0),(.i 3)] U) ( K [(.i n30),(.i n32),(.i n34),(.i 0)] U)))))))))))))))))))))))))))
/-- crimp/sheets.Neighbour -/
def f39(ls:List Lf)(h:HT)(K:List Lf->HT->R):R:=A.unI ls (λn6 U=>A.unI U (λn8 V=>A.unI V (λn10 a0=>A.unI a0 (λn12 a1=>A.un0 a1 ( A.call 36 [(.i n6),(.i n8),(.i n10)] h (λa2 J=>A.unI a2 (λn16 a3=>A.unI a3 (λn18 a4=>A.unI a4 (λn20 a5=>A.unI a5 (λn22 a6=>A.un0 a6 ( A.cmp .neq n22 0 (λa7=>A.cond a7 ( K [(.i 0),(.i n22)] J) ( A.call 37 [(.i n16),(.i n18),(.i n20),(.i n12)] J (λa8 O=>A.unI a8 (λn27 a9=>A.unI a9 (λn29 b0=>A.unI b0 (λn31 b1=>A.unI b1 (λn33 b2=>A.un0 b2 ( A.cmp .neq n33 0 (λb3=>A.cond b3 ( K [(.i 0),(.i 1)] O) ( A.call 70 [(.i n6),(.i n8),(.i n27),(.i n29),(.i n31)] O (λb4 b5=>A.unI b4 (λn38 b6=>A.unI b6 (λn40 b7=>A.un0 b7 ( K [(.i n38),(.i n40)] b5)))))))))))))))))))))))))
/-- crimp/patterns.Kind -/
def f40(ls:List Lf)(h:HT)(K:List Lf->HT->R):R:=A.unI ls (λn6 V=>A.unI V (λn8 a0=>A.unV a0 (λO a1=>A.unI a1 (λn12 a2=>A.unI a2 (λn14 a3=>A.un0 a3 ( A.call 71 [(.i n6),(.i n8),(.v O),(.i n12),(.i n14)] h (λa4 J=>A.unI a4 (λn18 a5=>A.unI a5 (λn20 a6=>A.unI a6 (λn22 a7=>A.unB a7 (λa8 a9=>A.unI a9 (λn26 b0=>A.un0 b0 ( A.cmp .neq n26 0 (λb1=>A.cond b1 ( K [(.i 0),(.i n26)] J) ( A.cond (!a8) ( K [(.i 0),(.i n26)] J) ( A.opt (idS 3 O n22) (λb2=>A.opt (fdP 2 b2) (λU=>A.chk U ( A.peek (.lg cc 1 U) J (λb3=>A.ucI .u8 b3 (λn32 b4=>A.uc0 b4 ( K [(.i n32),(.i 0)] J))))))))))))))))))))))
/-- (*crimp/orders.problem).bend -/
def f41(ls:List Lf)(h:HT)(K:List Lf->HT->R):R:=A.unV ls (λx6 a7=>A.unI a7 (λn8 a8=>A.unI a8 (λn10 a9=>A.unI a9 (λn12 b0=>A.unB b0 (λb1 b2=>A.un0 b2 ( A.cmp .eql n8 3 (λb3=>A.cond b3 ( K [] h) ( A.call 44 [(.v x6),(.i n10),(.i n12)] h (λb4 O=>A.unI b4 (λn19 b5=>A.unB b5 (λU b6=>A.un0 b6 ( A.cmp .eql n8 2 (λb7=>A.eqs [((.b b7),(.b b1))] (λb8=>A.join (λb9 J=>A.unI b9 (λn27 c0=>A.unB c0 (λc1 d0=>A.un0 d0 ( A.join (λd1 d2=>A.un0 d1 ( K [] d2)) (λV=>A.opt (nilP x6) (λa0=>A.chk a0 ( A.opt (fdP 14 a0) (λa1=>A.chk a1 ( A.peek (.lg cc 1 a1) J (λd3=>A.ucB d3 (λd4 d5=>A.uc0 d5 ( A.cond d4 ( A.opt (nilP x6) (λa2=>A.chk a2 ( A.opt (fdP 14 a2) (λa3=>A.chk a3 ( A.heap (.st a3 [(.bool true)]) J (λe2 d6=>V [] d6)))))) ( A.call 49 [(.v x6),(.i n27),(.b c1),(.v (.pointer none))] J (λd7 d8=>A.unB d7 (λd9 e0=>A.un0 e0 ( A.opt (nilP x6) (λa4=>A.chk a4 ( A.opt (fdP 14 a4) (λa5=>A.chk a5 ( A.heap (.st a5 [(.bool (!d9))]) d8 (λf0 e1=>V [] e1))))))))))))))))))))) (λa6=>A.cond (!b8) ( a6 [(.i n19),(.b (!U))] O) ( a6 [(.i n19),(.b U)] O))))))))))))))))
/-- crimp/moves.Flips -/
def f42(ls:List Lf)(h:HT)(K:List Lf->HT->R):R:=A.unI ls (λn6 U=>A.unI U (λn8 V=>A.unI V (λn10 a0=>A.un0 a0 ( A.join (λa1 a2=>A.unB a1 (λa3 a4=>A.un0 a4 ( K [(.b a3)] a2))) (λJ=>A.call 52 [(.i n6),(.i n8),(.i n10)] h (λa5 O=>A.unI a5 (λn19 a6=>A.un0 a6 ( A.cmp .eql n19 0 (λa7=>A.cond a7 ( A.cmp .geq n6 4 (λa8=>J [(.b a8)] O)) ( J [(.b false)] O))))))))))
/-- (*crimp/orders.problem).equal -/
def f43(ls:List Lf)(h:HT)(K:List Lf->HT->R):R:=A.unV ls (λx6 f2=>A.unI f2 (λn8 gl=>A.unB gl (λg0 g1=>A.unI g1 (λn12 g2=>A.unB g2 (λg3 g4=>A.un0 g4 ( A.call 72 [(.v x6),(.i n8),(.b g0)] h (λg5 g6=>A.unI g5 (λn18 g7=>A.unB g7 (λJ g8=>A.un0 g8 ( A.call 72 [(.v x6),(.i n12),(.b g3)] g6 (λg9 U=>A.unI g9 (λn24 h0=>A.unB h0 (λO h1=>A.un0 h1 ( A.cmp .eql n18 n24 (λh2=>A.join (λh3 h4=>A.un0 h3 ( K [] h4)) (λa2=>A.cond h2 ( A.join (λh5 h6=>A.un0 h5 ( a2 [] h6)) (λa3=>A.opt (nilP x6) (λa4=>A.chk a4 ( A.opt (fdP 14 a4) (λa5=>A.chk a5 ( A.peek (.lg cc 1 a5) U (λh7=>A.ucB h7 (λh8 h9=>A.uc0 h9 ( A.cond h8 ( A.opt (nilP x6) (λa6=>A.chk a6 ( A.opt (fdP 14 a6) (λa7=>A.chk a7 ( A.heap (.st a7 [(.bool true)]) U (λp5 i0=>a3 [] i0)))))) ( A.eqs [((.b J),(.b O))] (λi1=>A.opt (nilP x6) (λa8=>A.chk a8 ( A.opt (fdP 14 a8) (λa9=>A.chk a9 ( A.heap (.st a9 [(.bool (!i1))]) U (λp6 i2=>a3 [] i2)))))))))))))))) ( A.call 73 [(.v x6),(.i n18),(.b J)] U (λj0 b0=>A.unI j0 (λn51 j1=>A.un0 j1 ( A.cmp .neq n51 0 (λj2=>A.cond j2 ( A.call 73 [(.v x6),(.i n24),(.b O)] b0 (λj3 V=>A.unI j3 (λj4 j5=>A.un0 j5 ( A.cmp .neq j4 0 (λj6=>A.join (λj7 j8=>A.un0 j7 ( a2 [] j8)) (λb1=>A.cond j6 ( A.join (λj9 b2=>A.un0 j9 ( A.opt (nilP x6) (λb3=>A.chk b3 ( A.opt (fdP 11 b3) (λb4=>A.chk b4 ( A.peek (.lg cc 1 b4) b2 (λk0=>A.ucV k0 (λb5 k1=>A.chk b5 ( A.uc0 k1 ( A.eqs [((.b J),(.b O))] (λk2=>A.opt (idS 2 b5 n18) (λk3=>A.heap (.st k3 [(.int .i64 n24),(.bool (!k2))]) b2 (λp7 k4=>b1 [] k4))))))))))))) (λb6=>A.opt (nilP x6) (λb7=>A.chk b7 ( A.opt (fdP 14 b7) (λb8=>A.chk b8 ( A.peek (.lg cc 1 b8) V (λk5=>A.ucB k5 (λk6 k7=>A.uc0 k7 ( A.cond k6 ( A.opt (nilP x6) (λb9=>A.chk b9 ( A.opt (fdP 14 b9) (λc0=>A.chk c0 ( A.heap (.st c0 [(.bool true)]) V (λp8 k8=>b6 [] k8)))))) ( A.call 73 [(.v x6),(.i n18),(.b J)] V (λk9 l0=>A.unI k9 (λn85 l1=>A.un0 l1 ( A.call 73 [(.v x6),(.i n24),(.b O)] l0 (λl2 l3=>A.unI l2 (λn89 l4=>A.un0 l4 ( A.cmp .neq n85 n89 (λl5=>A.opt (nilP x6) (λc1=>A.chk c1 ( A.opt (fdP 14 c1) (λd0=>A.chk d0 ( A.heap (.st d0 [(.bool l5)]) l3 (λp9 l6=>b6 [] l6)))))))))))))))))))))) ( A.call 73 [(.v x6),(.i n18),(.b J)] V (λl7 a0=>A.unI l7 (λn98 l8=>A.un0 l8 ( A.cmp .neq n98 0 (λl9=>A.join (λm0 m1=>A.un0 m0 ( b1 [] m1)) (λd1=>A.cond l9 ( A.opt (nilP x6) (λd2=>A.chk d2 ( A.opt (fdP 11 d2) (λd3=>A.chk d3 ( A.peek (.lg cc 1 d3) a0 (λm2=>A.ucV m2 (λd4 m3=>A.chk d4 ( A.uc0 m3 ( A.eqs [((.b J),(.b O))] (λm4=>A.opt (idS 2 d4 n24) (λm5=>A.heap (.st m5 [(.int .i64 n18),(.bool (!m4))]) a0 (λq0 m6=>d1 [] m6)))))))))))) ( A.opt (nilP x6) (λd5=>A.chk d5 ( A.opt (fdP 11 d5) (λd6=>A.chk d6 ( A.peek (.lg cc 1 d6) a0 (λm7=>A.ucV m7 (λd7 m8=>A.chk d7 ( A.uc0 m8 ( A.eqs [((.b J),(.b O))] (λm9=>A.opt (idS 2 d7 n18) (λn0=>A.heap (.st n0 [(.int .i64 n24),(.bool (!m9))]) a0 (λq1 n1=>d1 [] n1)))))))))))))))))))))))) ( A.call 73 [(.v x6),(.i n18),(.b J)] b0 (λn2 a1=>A.unI n2 (λo0 o1=>A.un0 o1 ( A.cmp .neq o0 0 (λo2=>A.join (λo3 o4=>A.un0 o3 ( a2 [] o4)) (λd8=>A.cond o2 ( A.opt (nilP x6) (λd9=>A.chk d9 ( A.opt (fdP 11 d9) (λe0=>A.chk e0 ( A.peek (.lg cc 1 e0) a1 (λo5=>A.ucV o5 (λe1 o6=>A.chk e1 ( A.uc0 o6 ( A.eqs [((.b J),(.b O))] (λo7=>A.opt (idS 2 e1 n24) (λo8=>A.heap (.st o8 [(.int .i64 n18),(.bool (!o7))]) a1 (λq2 o9=>d8 [] o9)))))))))))) ( A.opt (nilP x6) (λe2=>A.chk e2 ( A.opt (fdP 11 e2) (λf0=>A.chk f0 ( A.peek (.lg cc 1 f0) a1 (λp0=>A.ucV p0 (λf1 p1=>A.chk f1 ( A.uc0 p1 ( A.eqs [((.b J),(.b O))] (λp2=>A.opt (idS 2 f1 n18) (λp3=>A.heap (.st p3 [(.int .i64 n24),(.bool (!p2))]) a1 (λq3 p4=>d8 [] p4)))))))))))))))))))))))))))))))))))))))
/-- (*crimp/orders.problem).below -/
def f44(ls:List Lf)(h:HT)(K:List Lf->HT->R):R:=A.unV ls (λx6 a1=>A.unI a1 (λn8 a2=>A.unI a2 (λn10 a3=>A.un0 a3 ( A.cmp .lss n8 n10 (λa4=>A.cond a4 ( A.opt (nilP x6) (λx13=>A.chk x13 ( A.opt (fdP 10 x13) (λJ=>A.chk J ( A.peek (.lg cc 1 J) h (λa5=>A.ucV a5 (λO a6=>A.chk O ( A.uc0 a6 ( A.peek (.fn (luG cc 67 false (.int .i64 0) O (.agg ⟨[(.int .i64 n8),(.int .i64 n10)]⟩) false)) h (λa7=>A.ucI .i64 a7 (λn19 a8=>A.uc0 a8 ( K [(.i n19),(.b false)] h)))))))))))) ( A.opt (nilP x6) (λU=>A.chk U ( A.opt (fdP 10 U) (λV=>A.chk V ( A.peek (.lg cc 1 V) h (λa9=>A.ucV a9 (λa0 b0=>A.chk a0 ( A.uc0 b0 ( A.peek (.fn (luG cc 67 false (.int .i64 0) a0 (.agg ⟨[(.int .i64 n10),(.int .i64 n8)]⟩) false)) h (λb1=>A.ucI .i64 b1 (λn27 b2=>A.uc0 b2 ( K [(.i n27),(.b true)] h)))))))))))))))))
/-- slices.Clip[[]crimp/patterns.Crease,crimp/patterns.Crease] -/
def f45(ls:List Lf)(h:HT)(K:List Lf->HT->R):R:=A.unV ls (λx6 O=>A.un0 O ( A.opt (lenS x6) (λU=>A.opt (lenS x6) (λV=>A.opt (slS 3 x6 none (some U) (some V)) (λJ=>A.chk J ( K [(.v J)] h))))))
/-- slices.Clone[[]crimp/patterns.Crease,crimp/patterns.Crease] -/
def f46(ls:List Lf)(h:HT)(K:List Lf->HT->R):R:=A.unV ls (λx6 J=>A.un0 J ( A.opt (iL 1 x6 (.slice none 0 0)) (λO=>A.cond O ( K [(.v (.slice none 0 0))] h) ( A.new (.cells [] 3 true) h (λU V=>A.heap (.ap cc 3 16 (.slice (some ⟨U,0,(some 13)⟩) 0 1) x6) V (λa0 a1=>A.ucV a0 (λx13 a2=>A.chk x13 ( A.uc0 a2 ( K [(.v x13)] a1)))))))))
def f47(ls:List Lf)(h:HT)(K:List Lf->HT->R):R:=A.unV ls (λx6 O=>A.un0 O ( A.opt (lenS x6) (λU=>A.opt (lenS x6) (λV=>A.opt (slS 1 x6 none (some U) (some V)) (λJ=>A.chk J ( K [(.v J)] h))))))
def f48(ls:List Lf)(h:HT)(K:List Lf->HT->R):R:=A.unV ls (λx6 J=>A.un0 J ( A.opt (iL 1 x6 (.slice none 0 0)) (λO=>A.cond O ( K [(.v (.slice none 0 0))] h) ( A.new (.cells [] 1 true) h (λU V=>A.heap (.ap cc 1 8 (.slice (some ⟨U,0,(some 11)⟩) 0 1) x6) V (λa0 a1=>A.ucV a0 (λx13 a2=>A.chk x13 ( A.uc0 a2 ( K [(.v x13)] a1)))))))))
/-- (*crimp/orders.problem).set -/
def f49(ls:List Lf)(h:HT)(K:List Lf->HT->R):R:=A.unV ls (λx6 b7=>A.unI b7 (λn8 b8=>A.unB b8 (λb9 c0=>A.unV c0 (λx12 c1=>A.un0 c1 ( A.call 72 [(.v x6),(.i n8),(.b b9)] h (λd0 a0=>A.unI d0 (λn16 d1=>A.unB d1 (λd2 d3=>A.un0 d3 ( A.join (λd4 J=>A.unI d4 (λn22 d5=>A.un0 d5 ( A.opt (nilP x6) (λa1=>A.chk a1 ( A.opt (fdP 12 a1) (λa2=>A.chk a2 ( A.peek (.lg cc 1 a2) J (λd6=>A.ucV d6 (λa3 d7=>A.chk a3 ( A.uc0 d7 ( A.opt (idS 1 a3 n16) (λd8=>A.peek (.lg cc 1 d8) J (λd9=>A.ucI .i64 d9 (λn31 e0=>A.uc0 e0 ( A.cmp .eql n31 0 (λe1=>A.join (λe2 O=>A.un0 e2 ( A.opt (nilP x6) (λa4=>A.chk a4 ( A.opt (fdP 12 a4) (λa5=>A.chk a5 ( A.peek (.lg cc 1 a5) O (λf0=>A.ucV f0 (λa6 f1=>A.chk a6 ( A.uc0 f1 ( A.opt (idS 1 a6 n16) (λf2=>A.peek (.lg cc 1 f2) O (λgl=>A.ucI .i64 gl (λn43 g0=>A.uc0 g0 ( A.cmp .eql n43 n22 (λg1=>K [(.b g1)] O))))))))))))))) (λa7=>A.cond e1 ( A.opt (nilP x6) (λa8=>A.chk a8 ( A.opt (fdP 12 a8) (λa9=>A.chk a9 ( A.peek (.lg cc 1 a9) J (λg2=>A.ucV g2 (λb0 g3=>A.chk b0 ( A.uc0 g3 ( A.opt (idS 1 b0 n16) (λg4=>A.heap (.st g4 [(.int .i64 n22)]) J (λh5 U=>A.opt (iL 4 x12 (.pointer none)) (λg5=>A.join (λg6 g7=>A.un0 g6 ( a7 [] g7)) (λb1=>A.cond (!g5) ( A.opt (nilP x12) (λV=>A.chk V ( A.peek (.lg cc 1 V) U (λg8=>A.ucV g8 (λb2 g9=>A.chk b2 ( A.uc0 g9 ( A.new (.cells [(.int .i64 n16)] 1 true) U (λb3 h0=>A.heap (.ap cc 1 8 b2 (.slice (some ⟨b3,0,(some 11)⟩) 1 2)) h0 (λh1 h2=>A.ucV h1 (λb4 h3=>A.chk b4 ( A.uc0 h3 ( A.opt (nilP x12) (λb5=>A.chk b5 ( A.heap (.st b5 [b4]) h2 (λh6 h4=>A.opt (Sx.sepL [((.slice (some ⟨b3,0,(some 11)⟩) 1 2),(0,V))]) (λh7=>b1 [] h4)))))))))))))))) ( b1 [] U)))))))))))))) ( a7 [] J)))))))))))))))))) (λb6=>A.cond d2 ( b6 [(.i (-1))] a0) ( b6 [(.i 1)] a0)))))))))))
/-- (*crimp/orders.problem).even -/
def f50(ls:List Lf)(h:HT)(K:List Lf->HT->R):R:=A.unV ls (λx6 a0=>A.un0 a0 ( A.opt (nilP x6) (λU=>A.chk U ( A.opt (fdP 13 U) (λV=>A.chk V ( A.peek (.lg cc 1 V) h (λa1=>A.ucV a1 (λx11 a2=>A.chk x11 ( A.uc0 a2 ( A.opt (lenS x11) (λx13=>A.loop (λa3 a4 J=>A.unI a4 (λn17 a5=>A.un0 a5 ( A.cmp .lss n17 x13 (λa6=>A.cond a6 ( A.opt (idS 8 x11 n17) (λa7=>A.peek (.lg cc 8 a7) J (λa8=>A.ucI .i64 a8 (λn22 a9=>A.ucB a9 (λb0 b1=>A.ucI .i64 b1 (λn26 b2=>A.ucB b2 (λb3 b4=>A.ucI .i64 b4 (λn30 b5=>A.ucB b5 (λb6 b7=>A.ucI .i64 b7 (λn34 b8=>A.ucB b8 (λb9 c0=>A.uc0 c0 ( A.loop (λc1 d0 O=>A.unI d0 (λn41 d1=>A.unI d1 (λn43 d2=>A.un0 d2 ( A.cmp .lss n43 4 (λd3=>A.cond d3 ( A.opt (inB 4 n43) (λf2=>A.opt (iW [(.i n22),(.b b0),(.i n26),(.b b3),(.i n30),(.b b6),(.i n34),(.b b9)] 0 [(n43,2)] 2) (λd4=>A.unI d4 (λn48 d5=>A.unB d5 (λd6 d7=>A.un0 d7 ( A.call 73 [(.v x6),(.i n48),(.b d6)] O (λd8 d9=>A.unI d8 (λn54 e0=>A.un0 e0 ( A.ari .mul .i64 n41 n54 (λe1=>A.ari .add .i64 n43 1 (λe2=>c1 [(.i e1),(.i e2)] d9))))))))))) ( A.cmp .lss n41 0 (λf0=>A.cond f0 ( K [(.b false)] O) ( A.ari .add .i64 n17 1 (λf1=>a3 [(.i f1)] O))))))))) [(.i 1),(.i 0)] J)))))))))))) ( K [(.b true)] J))))) [(.i 0)] h)))))))))))
/-- crimp/patterns.Check -/
def f51(ls:List Lf)(h:HT)(K:List Lf->HT->R):R:=A.unI ls (λn6 a6=>A.unI a6 (λn8 a7=>A.unV a7 (λJ a8=>A.un0 a8 ( A.call 65 [(.i n6),(.i n8)] h (λa9 a0=>A.unI a9 (λn14 b0=>A.un0 b0 ( A.cmp .neq n14 0 (λb1=>A.cond b1 ( K [(.i n14)] a0) ( A.call 74 [(.v J),(.v (.func (.func 75) ⟨[]⟩ ⟨[]⟩))] a0 (λb2 a1=>A.unB b2 (λb3 b4=>A.un0 b4 ( A.cond b3 ( K [(.i 1)] a1) ( A.opt (lenS J) (λb5=>A.loop (λb6 b7 U=>A.unI b7 (λn25 b8=>A.un0 b8 ( A.cmp .lss n25 b5 (λb9=>A.cond b9 ( A.opt (idS 3 J n25) (λc0=>A.peek (.lg cc 3 c0) U (λc1=>A.ucI .i64 c1 (λn30 d0=>A.ucI .u8 d0 (λn32 d1=>A.ucI .u8 d1 (λn34 d2=>A.uc0 d2 ( A.call 77 [(.i n6),(.i n8),(.i n30),(.i n32)] U (λd3 a2=>A.unI d3 (λn38 d4=>A.unI d4 (λn40 d5=>A.unI d5 (λn42 d6=>A.un0 d6 ( A.cmp .neq n42 0 (λd7=>A.cond d7 ( K [(.i 7)] a2) ( A.call 78 [(.i n30),(.i n32),(.i n34)] a2 (λd8 a3=>A.unI d8 (λn47 d9=>A.unI d9 (λn49 e0=>A.un0 e0 ( A.eqs [((.i n38),(.i n47)),((.i n40),(.i n49))] (λe1=>A.cond (!e1) ( K [(.i 7)] a3) ( A.ari .add .i64 n25 1 (λn52=>b6 [(.i n52)] a3))))))))))))))))))))) ( A.loop (λe2 f0 V=>A.unI f0 (λO f1=>A.un0 f1 ( A.opt (lenS J) (λf2=>A.cmp .lss O f2 (λgl=>A.cond gl ( A.ari .sub .i64 O 1 (λg0=>A.opt (idS 3 J g0) (λg1=>A.peek (.lg cc 3 g1) V (λg2=>A.ucI .i64 g2 (λg3 g4=>A.ucI .u8 g4 (λn65 g5=>A.ucI .u8 g5 (λn67 g6=>A.uc0 g6 ( A.call 78 [(.i g3),(.i n65),(.i n67)] V (λg7 a4=>A.unI g7 (λn71 g8=>A.unI g8 (λn73 g9=>A.un0 g9 ( A.opt (idS 3 J O) (λh0=>A.peek (.lg cc 3 h0) a4 (λh1=>A.ucI .i64 h1 (λn77 h2=>A.ucI .u8 h2 (λn79 h3=>A.ucI .u8 h3 (λn81 h4=>A.uc0 h4 ( A.call 78 [(.i n77),(.i n79),(.i n81)] a4 (λh5 h6=>A.unI h5 (λn85 h7=>A.unI h7 (λn87 h8=>A.un0 h8 ( A.call 79 [(.i n71),(.i n73),(.i n85),(.i n87)] h6 (λh9 a5=>A.unI h9 (λi0 i1=>A.un0 i1 ( A.cmp .geq i0 0 (λi2=>A.cond i2 ( K [(.i 6)] a5) ( A.ari .add .i64 O 1 (λj0=>e2 [(.i j0)] a5)))))))))))))))))))))))))))) ( K [(.i 0)] V)))))) [(.i 1)] U))))) [(.i 0)] a1))))))))))))))
/-- crimp/moves.Check -/
def f52(ls:List Lf)(h:HT)(K:List Lf->HT->R):R:=A.unI ls (λn6 U=>A.unI U (λn8 V=>A.unI V (λn10 a0=>A.un0 a0 ( A.conv .i64 n6 (λn12=>A.cmp .geq n12 8 (λa1=>A.cond a1 ( K [(.i 1)] h) ( A.call 80 [(.i n8)] h (λa2 O=>A.unB a2 (λa3 a4=>A.un0 a4 ( A.cond a3 ( K [(.i 1)] O) ( A.call 80 [(.i n10)] O (λa5 J=>A.unB a5 (λa6 a7=>A.un0 a7 ( A.cond a6 ( K [(.i 1)] J) ( A.ari .add .i64 n8 n10 (λn22=>A.ari .rem .i64 n22 2 (λn23=>A.cmp .neq n23 0 (λa8=>A.cond a8 ( K [(.i 1)] J) ( K [(.i 0)] J)))))))))))))))))))
/-- crimp/places.relative -/
def f53(ls:List Lf)(h:HT)(K:List Lf->HT->R):R:=A.unI ls (λn6 d0=>A.unI d0 (λn8 d1=>A.unV d1 (λd2 d3=>A.un0 d3 ( A.new (.cells [(.int .i64 n6),(.int .i64 n8),d2] 3 true) h (λU a8=>A.peek (.lg cc 3 (.pointer (some ⟨U,0,none⟩))) a8 (λd4=>A.ucI .i64 d4 (λn15 d5=>A.ucI .i64 d5 (λn17 d6=>A.ucV d6 (λx19 d7=>A.chk x19 ( A.uc0 d7 ( A.call 81 [(.i n15),(.i n17),(.v x19)] a8 (λd8 d9=>A.unV d8 (λe0 e1=>A.un0 e1 ( A.new (.cells [(.map none)] 1 true) d9 (λa4 e2=>A.heap (.st (.pointer (some ⟨a4,0,none⟩)) [e0]) e2 (λo6 a9=>A.opt (fdP 0 (.pointer (some ⟨U,0,none⟩))) (λb0=>A.chk b0 ( A.peek (.lg cc 2 b0) a9 (λf0=>A.ucI .i64 f0 (λn31 f1=>A.ucI .i64 f1 (λn33 f2=>A.uc0 f2 ( A.call 82 [(.i n31),(.i n33)] a9 (λgl g0=>A.unI gl (λn37 g1=>A.un0 g1 ( A.opt (mkOk n37 n37) (λo7=>A.new (.cells (aM [(.int .u8 0),(.int .i64 0),(.int .i64 0)] (Int.toNat n37)) 3 true) g0 (λg2 g3=>A.new (.cells [(.slice none 0 0)] 1 true) g3 (λO g4=>A.heap (.st (.pointer (some ⟨O,0,none⟩)) [(.slice (some ⟨g2,0,(some 13)⟩) (Int.toNat n37) ((Int.toNat n37)+1))]) g4 (λo8 b1=>A.peek (.lg cc 1 (.pointer (some ⟨O,0,none⟩))) b1 (λg5=>A.ucV g5 (λb2 g6=>A.chk b2 ( A.uc0 g6 ( A.opt (lenS b2) (λJ=>A.opt (mkOk J J) (λo9=>A.new (.cells (aM [(.bool false)] (Int.toNat J)) 1 true) b1 (λa5 g7=>A.chk (.func (.func 83) ⟨[]⟩ ⟨[(.pointer (some ⟨U,0,none⟩)),(.pointer (some ⟨a4,0,none⟩)),(.pointer (some ⟨O,0,none⟩))]⟩) ( A.opt (idS 1 (.slice (some ⟨a5,0,(some 11)⟩) (Int.toNat J) ((Int.toNat J)+1)) 0) (λg8=>A.heap (.st g8 [(.bool true)]) g7 (λp0 g9=>A.new (.cells [(.int .i64 0)] 1 true) g9 (λh0 h1=>A.loop (λh2 h3 a0=>A.unV h3 (λa6 h4=>A.un0 h4 ( A.opt (lenS a6) (λh5=>A.cmp .gtr h5 0 (λh6=>A.cond h6 ( A.opt (idS 1 a6 0) (λh7=>A.peek (.lg cc 1 h7) a0 (λh8=>A.ucI .i64 h8 (λn67 h9=>A.uc0 h9 ( A.opt (slS 1 a6 (some 1) none none) (λb3=>A.chk b3 ( A.loop (λi0 i1 a7=>A.unV i1 (λa1 i2=>A.unI i2 (λn75 j0=>A.un0 j0 ( A.cmp .lss n75 3 (λj1=>A.cond j1 ( A.join (λj2 j3=>A.unV j2 (λj4 j5=>A.un0 j5 ( A.ari .add .u8 n75 1 (λn82=>i0 [(.v j4),(.i n82)] j3)))) (λb4=>A.opt (fdP 0 (.pointer (some ⟨U,0,none⟩))) (λb5=>A.chk b5 ( A.peek (.lg cc 2 b5) a7 (λj6=>A.ucI .i64 j6 (λn86 j7=>A.ucI .i64 j7 (λn88 j8=>A.uc0 j8 ( A.call 39 [(.i n86),(.i n88),(.i n67),(.i n75)] a7 (λj9 b6=>A.unI j9 (λV k0=>A.unI k0 (λk1 k2=>A.un0 k2 ( A.cmp .neq k1 0 (λk3=>A.cond k3 ( b4 [(.v a1)] b6) ( A.callv (.func (.func 83) ⟨[]⟩ ⟨[(.pointer (some ⟨U,0,none⟩)),(.pointer (some ⟨a4,0,none⟩)),(.pointer (some ⟨O,0,none⟩))]⟩) [(.int .i64 n67),(.int .u8 n75)] [(.agg [(.i .u8),(.i .i64),(.i .i64)])] b6 (λk4 a2=>A.unI k4 (λn99 k5=>A.unI k5 (λn101 k6=>A.unI k6 (λn103 k7=>A.un0 k7 ( A.opt (idS 1 (.slice (some ⟨a5,0,(some 11)⟩) (Int.toNat J) ((Int.toNat J)+1)) V) (λk8=>A.peek (.lg cc 1 k8) a2 (λk9=>A.ucB k9 (λl0 l1=>A.uc0 l1 ( A.join (λl2 a3=>A.unV l2 (λl3 l4=>A.un0 l4 ( A.peek (.lg cc 1 (.pointer (some ⟨O,0,none⟩))) a3 (λl5=>A.ucV l5 (λb7 l6=>A.chk b7 ( A.uc0 l6 ( A.opt (idS 3 b7 V) (λl7=>A.peek (.lg cc 3 l7) a3 (λl8=>A.ucI .u8 l8 (λl9 m0=>A.ucI .i64 m0 (λm1 m2=>A.ucI .i64 m2 (λm3 m4=>A.uc0 m4 ( A.eqs [((.i l9),(.i n99)),((.i m1),(.i n101)),((.i m3),(.i n103))] (λm5=>A.cond (!m5) ( K [(.v (.slice none 0 0)),(.i 11)] a3) ( b4 [(.v l3)] a3))))))))))))))) (λb8=>A.cond (!l0) ( A.peek (.lg cc 1 (.pointer (some ⟨O,0,none⟩))) a2 (λm6=>A.ucV m6 (λb9 m7=>A.chk b9 ( A.uc0 m7 ( A.opt (idS 3 b9 V) (λm8=>A.heap (.st m8 [(.int .u8 n99),(.int .i64 n101),(.int .i64 n103)]) a2 (λp1 m9=>A.opt (idS 1 (.slice (some ⟨a5,0,(some 11)⟩) (Int.toNat J) ((Int.toNat J)+1)) V) (λn0=>A.heap (.st n0 [(.bool true)]) m9 (λp2 n1=>A.new (.cells [(.int .i64 V)] 1 true) n1 (λn2 o0=>A.heap (.ap cc 1 8 a1 (.slice (some ⟨n2,0,(some 11)⟩) 1 2)) o0 (λo1 o2=>A.ucV o1 (λc0 o3=>A.chk c0 ( A.uc0 o3 ( b8 [(.v c0)] o2)))))))))))))) ( b8 [(.v a1)] a2))))))))))))))))))))))))) ( h2 [(.v a1)] a7)))))) [(.v b3),(.i 0)] a0))))))) ( A.peek (.lg cc 1 (.pointer (some ⟨O,0,none⟩))) a0 (λo4=>A.ucV o4 (λc1 o5=>A.chk c1 ( A.uc0 o5 ( K [(.v c1),(.i 0)] a0)))))))))) [(.v (.slice (some ⟨h0,0,(some 11)⟩) 1 2))] h1))))))))))))))))))))))))))))))))))))))))
/-- crimp/moves.Then -/
def f54(ls:List Lf)(h:HT)(K:List Lf->HT->R):R:=A.unI ls (λn6 U=>A.unI U (λn8 V=>A.unI V (λn10 a0=>A.unI a0 (λn12 a1=>A.unI a1 (λn14 a2=>A.unI a2 (λn16 a3=>A.un0 a3 ( A.call 52 [(.i n6),(.i n8),(.i n10)] h (λa4 J=>A.unI a4 (λn20 a5=>A.un0 a5 ( A.cmp .neq n20 0 (λa6=>A.cond a6 ( K [(.i 0),(.i 0),(.i 0),(.i 1)] J) ( A.call 52 [(.i n12),(.i n14),(.i n16)] J (λa7 O=>A.unI a7 (λn25 a8=>A.un0 a8 ( A.cmp .neq n25 0 (λa9=>A.cond a9 ( K [(.i 0),(.i 0),(.i 0),(.i 1)] O) ( A.opt (inB 8 n12) (λg9=>A.opt (nD gl1 0 [(n12,4)] 4) (λb0=>A.ucI .i64 b0 (λn30 b1=>A.ucI .i64 b1 (λn32 b2=>A.ucI .i64 b2 (λn34 b3=>A.ucI .i64 b3 (λn36 b4=>A.uc0 b4 ( A.call 86 [(.i n30),(.i n32),(.i n34),(.i n36),(.i n8),(.i n10)] O (λb5 b6=>A.unI b5 (λn40 b7=>A.unI b7 (λn42 b8=>A.un0 b8 ( A.opt (inB 8 n6) (λh0=>A.opt (nD gl1 0 [(n6,4)] 4) (λb9=>A.ucI .i64 b9 (λn46 c0=>A.ucI .i64 c0 (λn48 c1=>A.ucI .i64 c1 (λn50 d0=>A.ucI .i64 d0 (λn52 d1=>A.uc0 d1 ( A.opt (inB 8 n12) (λh1=>A.opt (nD gl1 0 [(n12,4)] 4) (λd2=>A.ucI .i64 d2 (λd3 d4=>A.ucI .i64 d4 (λd5 d6=>A.ucI .i64 d6 (λd7 d8=>A.ucI .i64 d8 (λd9 e0=>A.uc0 e0 ( A.call 89 [(.i n46),(.i n48),(.i n50),(.i n52),(.i d3),(.i d5),(.i d7),(.i d9)] b6 (λe1 e2=>A.unI e1 (λn66 f0=>A.unI f0 (λn68 f1=>A.unI f1 (λn70 f2=>A.unI f2 (λn72 gl=>A.un0 gl ( A.call 88 [(.i n66),(.i n68),(.i n70),(.i n72)] e2 (λg0 g1=>A.unI g0 (λn76 g2=>A.un0 g2 ( A.ari .add .i64 n40 n14 (λn78=>A.ari .add .i64 n42 n16 (λn79=>A.call 87 [(.i n76),(.i n78),(.i n79)] g1 (λg3 g4=>A.unI g3 (λn82 g5=>A.unI g5 (λn84 g6=>A.unI g6 (λn86 g7=>A.unI g7 (λn88 g8=>A.un0 g8 ( K [(.i n82),(.i n84),(.i n86),(.i n88)] g4)))))))))))))))))))))))))))))))))))))))))))))))))))))))))))
/-- slices.insertionSortCmpFunc[crimp/api.Cell] -/
def f55(ls:List Lf)(h:HT)(K:List Lf->HT->R):R:=A.unV ls (λx6 a0=>A.unI a0 (λn8 a1=>A.unI a1 (λn10 a2=>A.unV a2 (λx12 a3=>A.un0 a3 ( A.ari .add .i64 n8 1 (λn14=>A.loop (λa4 a5 U=>A.unI a5 (λn18 a6=>A.un0 a6 ( A.cmp .lss n18 n10 (λa7=>A.cond a7 ( A.join (λa8 a9=>A.un0 a8 ( A.ari .add .i64 n18 1 (λn23=>a4 [(.i n23)] a9))) (λV=>A.loop (λb0 b1 J=>A.unI b1 (λn28 b2=>A.un0 b2 ( A.cmp .gtr n28 n8 (λb3=>A.cond b3 ( A.opt (idS 3 x6 n28) (λb4=>A.peek (.lg cc 3 b4) J (λb5=>A.ucI .i64 b5 (λn33 b6=>A.ucI .i64 b6 (λn35 b7=>A.ucI .u8 b7 (λn37 b8=>A.uc0 b8 ( A.ari .sub .i64 n28 1 (λn39=>A.opt (idS 3 x6 n39) (λb9=>A.peek (.lg cc 3 b9) J (λc0=>A.ucI .i64 c0 (λn42 c1=>A.ucI .i64 c1 (λn44 d0=>A.ucI .u8 d0 (λn46 d1=>A.uc0 d1 ( A.callv x12 [(.agg ⟨[(.int .i64 n33),(.int .i64 n35),(.int .u8 n37)]⟩),(.agg ⟨[(.int .i64 n42),(.int .i64 n44),(.int .u8 n46)]⟩)] [(.leaf (.i .i64))] J (λd2 O=>A.unI d2 (λn50 d3=>A.un0 d3 ( A.cmp .lss n50 0 (λd4=>A.cond d4 ( A.ari .sub .i64 n28 1 (λn53=>A.ari .sub .i64 n28 1 (λn54=>A.opt (idS 3 x6 n54) (λd5=>A.peek (.lg cc 3 d5) O (λd6=>A.ucI .i64 d6 (λd7 d8=>A.ucI .i64 d8 (λd9 e0=>A.ucI .u8 e0 (λe1 e2=>A.uc0 e2 ( A.opt (idS 3 x6 n28) (λf0=>A.peek (.lg cc 3 f0) O (λf1=>A.ucI .i64 f1 (λn65 f2=>A.ucI .i64 f2 (λn67 gl=>A.ucI .u8 gl (λn69 g0=>A.uc0 g0 ( A.opt (idS 3 x6 n28) (λg1=>A.heap (.st g1 [(.int .i64 d7),(.int .i64 d9),(.int .u8 e1)]) O (λg5 g2=>A.opt (idS 3 x6 n53) (λg3=>A.heap (.st g3 [(.int .i64 n65),(.int .i64 n67),(.int .u8 n69)]) g2 (λg6 g4=>A.ari .sub .i64 n28 1 (λn77=>b0 [(.i n77)] g4)))))))))))))))))))) ( V [] O))))))))))))))))))) ( V [] J))))) [(.i n18)] U)) ( K [] U))))) [(.i n14)] h))))))
/-- math/bits.Len64 -/
def f64(ls:List Lf)(h:HT)(K:List Lf->HT->R):R:=A.unI ls (λn6 a1=>A.un0 a1 ( A.cmp .geq n6 4294967296 (λa2=>A.join (λa3 J=>A.unI a3 (λn11 a4=>A.unI a4 (λn13 a5=>A.un0 a5 ( A.cmp .geq n11 65536 (λa6=>A.join (λa7 O=>A.unI a7 (λn18 a8=>A.unI a8 (λn20 a9=>A.un0 a9 ( A.cmp .geq n18 256 (λb0=>A.join (λb1 b2=>A.unI b1 (λn25 b3=>A.unI b3 (λn27 b4=>A.un0 b4 ( A.conv .u8 n25 (λn29=>A.opt (strAt (.mk ⟨[.ofNat 0,.ofNat 1,.ofNat 2,.ofNat 2,.ofNat 3,.ofNat 3,.ofNat 3,.ofNat 3,.ofNat 4,.ofNat 4,.ofNat 4,.ofNat 4,.ofNat 4,.ofNat 4,.ofNat 4,.ofNat 4,.ofNat 5,.ofNat 5,.ofNat 5,.ofNat 5,.ofNat 5,.ofNat 5,.ofNat 5,.ofNat 5,.ofNat 5,.ofNat 5,.ofNat 5,.ofNat 5,.ofNat 5,.ofNat 5,.ofNat 5,.ofNat 5,.ofNat 6,.ofNat 6,.ofNat 6,.ofNat 6,.ofNat 6,.ofNat 6,.ofNat 6,.ofNat 6,.ofNat 6,.ofNat 6,.ofNat 6,.ofNat 6,.ofNat 6,.ofNat 6,.ofNat 6,.ofNat 6,.ofNat 6,.ofNat 6,.ofNat 6,.ofNat 6,.ofNat 6,.ofNat 6,.ofNat 6,.ofNat 6,.ofNat 6,.ofNat 6,.ofNat 6,.ofNat 6,.ofNat 6,.ofNat 6,.ofNat 6,.ofNat 6,.ofNat 7,.ofNat 7,.ofNat 7,.ofNat 7,.ofNat 7,.ofNat 7,.ofNat 7,.ofNat 7,.ofNat 7,.ofNat 7,.ofNat 7,.ofNat 7,.ofNat 7,.ofNat 7,.ofNat 7,.ofNat 7,.ofNat 7,.ofNat 7,.ofNat 7,.ofNat 7,.ofNat 7,.ofNat 7,.ofNat 7,.ofNat 7,.ofNat 7,.ofNat 7,.ofNat 7,.ofNat 7,.ofNat 7,.ofNat 7,.ofNat 7,.ofNat 7,.ofNat 7,.ofNat 7,.ofNat 7,.ofNat 7,.ofNat 7,.ofNat 7,.ofNat 7,.ofNat 7,.ofNat 7,.ofNat 7,.ofNat 7,.ofNat 7,.ofNat 7,.ofNat 7,.ofNat 7,.ofNat 7,.ofNat 7,.ofNat 7,.ofNat 7,.ofNat 7,.ofNat 7,.ofNat 7,.ofNat 7,.ofNat 7,.ofNat 7,.ofNat 7,.ofNat 7,.ofNat 7,.ofNat 7,.ofNat 7,.ofNat 7,.ofNat 7,.ofNat 8,.ofNat 8,.ofNat 8,.ofNat 8,.ofNat 8,.ofNat 8,.ofNat 8,.ofNat 8,.ofNat 8,.ofNat 8,.ofNat 8,.ofNat 8,.ofNat 8,.ofNat 8,.ofNat 8,.ofNat 8,.ofNat 8,.ofNat 8,.ofNat 8,.ofNat 8,.ofNat 8,.ofNat 8,.ofNat 8,.ofNat 8,.ofNat 8,.ofNat 8,.ofNat 8,.ofNat 8,.ofNat 8,.ofNat 8,.ofNat 8,.ofNat 8,.ofNat 8,.ofNat 8,.ofNat 8,.ofNat 8,.ofNat 8,.ofNat 8,.ofNat 8,.ofNat 8,.ofNat 8,.ofNat 8,.ofNat 8,.ofNat 8,.ofNat 8,.ofNat 8,.ofNat 8,.ofNat 8,.ofNat 8,.ofNat 8,.ofNat 8,.ofNat 8,.ofNat 8,.ofNat 8,.ofNat 8,.ofNat 8,.ofNat 8,.ofNat 8,.ofNat 8,.ofNat 8,.ofNat 8,.ofNat 8,.ofNat 8,.ofNat 8,.ofNat 8,.ofNat 8,.ofNat 8,.ofNat 8,.ofNat 8,.ofNat 8,.ofNat 8,.ofNat 8,.ofNat 8,.ofNat 8,.ofNat 8,.ofNat 8,.ofNat 8,.ofNat 8,.ofNat 8,.ofNat 8,.ofNat 8,.ofNat 8,.ofNat 8,.ofNat 8,.ofNat 8,.ofNat 8,.ofNat 8,.ofNat 8,.ofNat 8,.ofNat 8,.ofNat 8,.ofNat 8,.ofNat 8,.ofNat 8,.ofNat 8,.ofNat 8,.ofNat 8,.ofNat 8,.ofNat 8,.ofNat 8,.ofNat 8,.ofNat 8,.ofNat 8,.ofNat 8,.ofNat 8,.ofNat 8,.ofNat 8,.ofNat 8,.ofNat 8,.ofNat 8,.ofNat 8,.ofNat 8,.ofNat 8,.ofNat 8,.ofNat 8,.ofNat 8,.ofNat 8,.ofNat 8,.ofNat 8,.ofNat 8,.ofNat 8,.ofNat 8,.ofNat 8,.ofNat 8,.ofNat 8,.ofNat 8,.ofNat 8,.ofNat 8]⟩) n29) (λb5=>A.conv .i64 b5 (λn31=>A.ari .add .i64 n27 n31 (λn32=>K [(.i n32)] b2)))))))) (λU=>A.cond b0 ( A.shf .shr .u64 n18 .u64 8 (λn34=>A.ari .add .i64 n20 8 (λn35=>U [(.i n34),(.i n35)] O))) ( U [(.i n18),(.i n20)] O))))))) (λV=>A.cond a6 ( A.shf .shr .u64 n11 .u64 16 (λn37=>A.ari .add .i64 n13 16 (λn38=>V [(.i n37),(.i n38)] J))) ( V [(.i n11),(.i n13)] J))))))) (λa0=>A.cond a2 ( A.shf .shr .u64 n6 .u64 32 (λn40=>a0 [(.i n40),(.i 32)] h)) ( a0 [(.i n6),(.i 0)] h)))))
/-- crimp/sheets.Check -/
def f65(ls:List Lf)(h:HT)(K:List Lf->HT->R):R:=A.unI ls (λn6 J=>A.unI J (λn8 O=>A.un0 O ( A.cmp .lss n6 1 (λU=>A.cond U ( K [(.i 1)] h) ( A.cmp .lss n8 1 (λV=>A.cond V ( K [(.i 1)] h) ( A.cmp .gtr n6 256 (λa0=>A.cond a0 ( K [(.i 1)] h) ( A.cmp .gtr n8 256 (λa1=>A.cond a1 ( K [(.i 1)] h) ( A.ari .mul .i64 n6 n8 (λn14=>A.cmp .gtr n14 256 (λa2=>A.cond a2 ( K [(.i 1)] h) ( K [(.i 0)] h))))))))))))))
/-- (crimp/sheets.Sheet).has -/
def f66(ls:List Lf)(h:HT)(K:List Lf->HT->R):R:=A.unI ls (λn6 O=>A.unI O (λn8 U=>A.unI U (λn10 V=>A.un0 V ( A.join (λa0 a1=>A.unB a0 (λa2 a3=>A.un0 a3 ( K [(.b a2)] a1))) (λJ=>A.cmp .geq n10 0 (λa4=>A.cond a4 ( A.ari .mul .i64 4 n6 (λn18=>A.ari .mul .i64 n18 n8 (λn19=>A.cmp .lss n10 n19 (λa5=>J [(.b a5)] h)))) ( J [(.b false)] h)))))))
/-- (crimp/sheets.Sheet).cell -/
def f67(ls:List Lf)(h:HT)(K:List Lf->HT->R):R:=A.unI ls (λn6 J=>A.unI J (λn8 O=>A.unI O (λn10 U=>A.un0 U ( A.ari .quo .i64 n10 4 (λn12=>A.ari .rem .i64 n12 n6 (λn13=>A.ari .quo .i64 n10 4 (λn14=>A.ari .quo .i64 n14 n6 (λn15=>A.ari .rem .i64 n10 4 (λn16=>A.conv .u8 n16 (λn17=>K [(.i n13),(.i n15),(.i n17)] h))))))))))
/-- crimp/cells.Check -/
def f68(ls:List Lf)(h:HT)(K:List Lf->HT->R):R:=A.unI ls (λn6 J=>A.unI J (λn8 O=>A.unI O (λn10 U=>A.un0 U ( A.cmp .lss n6 (-4096) (λV=>A.cond V ( K [(.i 1)] h) ( A.cmp .gtr n6 4096 (λa0=>A.cond a0 ( K [(.i 1)] h) ( A.cmp .lss n8 (-4096) (λa1=>A.cond a1 ( K [(.i 1)] h) ( A.cmp .gtr n8 4096 (λa2=>A.cond a2 ( K [(.i 1)] h) ( A.cmp .gtr n10 3 (λa3=>A.cond a3 ( K [(.i 1)] h) ( K [(.i 0)] h))))))))))))))
/-- crimp/cells.moved -/
def f69(ls:List Lf)(h:HT)(K:List Lf->HT->R):R:=A.unI ls (λn6 a1=>A.unI a1 (λn8 a2=>A.unI a2 (λn10 a3=>A.unI a3 (λn12 a4=>A.unI a4 (λn14 a5=>A.unI a5 (λn16 a6=>A.un0 a6 ( A.call 95 [(.i n12),(.i n14),(.i n16)] h (λa7 a8=>A.unI a7 (λn20 a9=>A.unI a9 (λn22 b0=>A.un0 b0 ( A.opt (inB 4 n16) (λh9=>A.opt (nD gl0 0 [(n16,17)] 2) (λb1=>A.ucI .i64 b1 (λn26 b2=>A.ucI .i64 b2 (λn28 b3=>A.uc0 b3 ( A.call 96 [(.i n6),(.i n8),(.i n10),(.i n20),(.i n22)] a8 (λb4 b5=>A.unI b4 (λn32 b6=>A.unI b6 (λn34 b7=>A.unI b7 (λn36 b8=>A.un0 b8 ( A.call 96 [(.i n6),(.i 0),(.i 0),(.i n26),(.i n28)] b5 (λb9 c0=>A.unI b9 (λn40 c1=>A.unI c1 (λn42 d0=>A.unI d0 (λn44 d1=>A.un0 d1 ( A.ari .and .i64 n32 1 (λn46=>A.ari .sub .i64 n32 n46 (λn47=>A.ari .quo .i64 n47 2 (λn48=>A.ari .and .i64 n34 1 (λn49=>A.ari .sub .i64 n34 n49 (λn50=>A.ari .quo .i64 n50 2 (λn51=>A.loop (λd2 d3 J=>A.unI d3 (λn55 d4=>A.unI d4 (λO d5=>A.unI d5 (λU d6=>A.unI d6 (λV d7=>A.un0 d7 ( A.cmp .lss n55 4 (λd8=>A.cond d8 ( A.opt (inB 4 n55) (λi0=>A.opt (iW [(.i 0),(.i (-1)),(.i 2),(.i 0),(.i 0),(.i (-1)),(.i 2),(.i 0),(.i 0),(.i 1),(.i 0),(.i 0),(.i 3),(.i 0),(.i 0),(.i 2),(.i 0),(.i 1),(.i 0),(.i 1),(.i 1),(.i 1),(.i 0),(.i 3),(.i 0),(.i 0),(.i 0),(.i 0),(.i 0),(.i 2),(.i 2),(.i 2),(.i 2),(.i 0),(.i 0),(.i 1),(.i 2),(.i 1),(.i 0),(.i 1),(.i 0),(.i 0),(.i 0),(.i 3),(.i 0),(.i 0),(.i 1),(.i 2),(.i 2),(.i 0),(.i 2),(.i (-1)),(.i 0),(.i 1),(.i 0),(.i (-1)),(.i 0),(.i 1),(.i 0),(.i 0),(.i 2),(.i 0),(.i 0),(.i 0),(.i 0),(.i 0),(.i 0),(.i 2)] 0 [(n55,17)] 17) (λd9=>A.unI d9 (λn66 e0=>A.unI e0 (λn68 e1=>A.unI e1 (λn70 e2=>A.unI e2 (λn72 f0=>A.unI f0 (λn74 f1=>A.unI f1 (λn76 f2=>A.unI f2 (λn78 gl=>A.unI gl (λn80 g0=>A.unI g0 (λn82 g1=>A.unI g1 (λn84 g2=>A.unI g2 (λn86 g3=>A.unI g3 (λn88 g4=>A.unI g4 (λi1 g5=>A.unI g5 (λi2 g6=>A.unI g6 (λj0 g7=>A.unI g7 (λn96 g8=>A.unI g8 (λn98 g9=>A.un0 g9 ( A.eqs [((.i n66),(.i n40)),((.i n68),(.i n42))] (λh0=>A.join (λh1 h2=>A.unI h1 (λn103 h3=>A.unI h3 (λn105 h4=>A.unI h4 (λh5 h6=>A.un0 h6 ( A.ari .add .i64 n55 1 (λh7=>d2 [(.i h7),(.i n103),(.i n105),(.i h5)] h2)))))) (λa0=>A.cond h0 ( A.conv .u8 n55 (λh8=>a0 [(.i O),(.i U),(.i h8)] J)) ( a0 [(.i O),(.i U),(.i V)] J)))))))))))))))))))))))) ( K [(.i O),(.i U),(.i V)] J)))))))) [(.i 0),(.i n48),(.i n51),(.i 0)] c0))))))))))))))))))))))))))))))))
/-- crimp/sheets.Id -/
def f70(ls:List Lf)(h:HT)(K:List Lf->HT->R):R:=A.unI ls (λn6 U=>A.unI U (λn8 V=>A.unI V (λn10 a0=>A.unI a0 (λn12 a1=>A.unI a1 (λn14 a2=>A.un0 a2 ( A.call 65 [(.i n6),(.i n8)] h (λa3 O=>A.unI a3 (λn18 a4=>A.un0 a4 ( A.cmp .neq n18 0 (λa5=>A.cond a5 ( K [(.i 0),(.i n18)] O) ( A.call 68 [(.i n10),(.i n12),(.i n14)] O (λa6 J=>A.unI a6 (λn23 a7=>A.un0 a7 ( A.cmp .neq n23 0 (λa8=>A.cond a8 ( K [(.i 0),(.i 7)] J) ( A.cmp .lss n10 0 (λa9=>A.cond a9 ( K [(.i 0),(.i 7)] J) ( A.cmp .geq n10 n6 (λb0=>A.cond b0 ( K [(.i 0),(.i 7)] J) ( A.cmp .lss n12 0 (λb1=>A.cond b1 ( K [(.i 0),(.i 7)] J) ( A.cmp .geq n12 n8 (λb2=>A.cond b2 ( K [(.i 0),(.i 7)] J) ( A.ari .mul .i64 n12 n6 (λn30=>A.ari .add .i64 n30 n10 (λn31=>A.ari .mul .i64 4 n31 (λn32=>A.conv .i64 n14 (λn33=>A.ari .add .i64 n32 n33 (λn34=>K [(.i n34),(.i 0)] J)))))))))))))))))))))))))))))
/-- crimp/patterns.at -/
def f71(ls:List Lf)(h:HT)(K:List Lf->HT->R):R:=A.unI ls (λn6 V=>A.unI V (λn8 a0=>A.unV a0 (λJ a1=>A.unI a1 (λn12 a2=>A.unI a2 (λn14 a3=>A.un0 a3 ( A.call 51 [(.i n6),(.i n8),(.v J)] h (λa4 O=>A.unI a4 (λn18 a5=>A.un0 a5 ( A.cmp .neq n18 0 (λa6=>A.cond a6 ( K [(.i 0),(.i 0),(.i 0),(.b false),(.i n18)] O) ( A.call 77 [(.i n6),(.i n8),(.i n12),(.i n14)] O (λa7 U=>A.unI a7 (λn23 a8=>A.unI a8 (λn25 a9=>A.unI a9 (λn27 b0=>A.un0 b0 ( A.cmp .neq n27 0 (λb1=>A.cond b1 ( K [(.i 0),(.i 0),(.i 0),(.b false),(.i n27)] U) ( A.call 97 [(.v J),(.i n23),(.i n25)] U (λb2 b3=>A.unI b2 (λn32 b4=>A.unB b4 (λb5 b6=>A.un0 b6 ( K [(.i n23),(.i n25),(.i n32),(.b b5),(.i 0)] b3))))))))))))))))))))))
/-- (*crimp/orders.problem).find -/
def f72(ls:List Lf)(h:HT)(K:List Lf->HT->R):R:=A.unV ls (λx6 a4=>A.unI a4 (λn8 a5=>A.unB a5 (λa6 a7=>A.un0 a7 ( A.loop (λa8 a9 J=>A.unI a9 (λn15 b0=>A.unB b0 (λO b1=>A.un0 b1 ( A.opt (nilP x6) (λx19=>A.chk x19 ( A.opt (fdP 11 x19) (λU=>A.chk U ( A.peek (.lg cc 1 U) J (λb2=>A.ucV b2 (λV b3=>A.chk V ( A.uc0 b3 ( A.opt (idS 2 V n15) (λb4=>A.opt (fdP 0 b4) (λa0=>A.chk a0 ( A.peek (.lg cc 1 a0) J (λb5=>A.ucI .i64 b5 (λn27 b6=>A.uc0 b6 ( A.cmp .neq n27 n15 (λb7=>A.cond b7 ( A.opt (nilP x6) (λa1=>A.chk a1 ( A.opt (fdP 11 a1) (λa2=>A.chk a2 ( A.peek (.lg cc 1 a2) J (λb8=>A.ucV b8 (λa3 b9=>A.chk a3 ( A.uc0 b9 ( A.opt (idS 2 a3 n15) (λc0=>A.peek (.lg cc 2 c0) J (λc1=>A.ucI .i64 c1 (λn37 d0=>A.ucB d0 (λd1 d2=>A.uc0 d2 ( A.eqs [((.b O),(.b d1))] (λd3=>a8 [(.i n37),(.b (!d3))] J))))))))))))))) ( K [(.i n15),(.b O)] J)))))))))))))))))))) [(.i n8),(.b a6)] h))))
/-- (*crimp/orders.problem).known -/
def f73(ls:List Lf)(h:HT)(K:List Lf->HT->R):R:=A.unV ls (λx6 a2=>A.unI a2 (λn8 a3=>A.unB a3 (λa4 a5=>A.un0 a5 ( A.call 72 [(.v x6),(.i n8),(.b a4)] h (λa6 J=>A.unI a6 (λn14 a7=>A.unB a7 (λa8 a9=>A.un0 a9 ( A.cond a8 ( A.opt (nilP x6) (λO=>A.chk O ( A.opt (fdP 12 O) (λx19=>A.chk x19 ( A.peek (.lg cc 1 x19) J (λb0=>A.ucV b0 (λU b1=>A.chk U ( A.uc0 b1 ( A.opt (idS 1 U n14) (λb2=>A.peek (.lg cc 1 b2) J (λb3=>A.ucI .i64 b3 (λn25 b4=>A.uc0 b4 ( A.ari .sub .i64 0 n25 (λn27=>K [(.i n27)] J)))))))))))))) ( A.opt (nilP x6) (λV=>A.chk V ( A.opt (fdP 12 V) (λa0=>A.chk a0 ( A.peek (.lg cc 1 a0) J (λb5=>A.ucV b5 (λa1 b6=>A.chk a1 ( A.uc0 b6 ( A.opt (idS 1 a1 n14) (λb7=>A.peek (.lg cc 1 b7) J (λb8=>A.ucI .i64 b8 (λn35 b9=>A.uc0 b9 ( K [(.i n35)] J)))))))))))))))))))))
/-- slices.ContainsFunc[[]crimp/patterns.Crease,crimp/patterns.Crease] -/
def f74(ls:List Lf)(h:HT)(K:List Lf->HT->R):R:=A.unV ls (λx6 J=>A.unV J (λO U=>A.un0 U ( A.call 98 [(.v x6),(.v O)] h (λV a0=>A.unI V (λn12 a1=>A.un0 a1 ( A.cmp .geq n12 0 (λa2=>K [(.b a2)] a0)))))))
/-- crimp/patterns.Check$1 -/
def f75(ls:List Lf)(h:HT)(K:List Lf->HT->R):R:=A.unI ls (λn6 J=>A.unI J (λn8 O=>A.unI O (λn10 U=>A.un0 U ( A.call 76 [(.i n10)] h (λV a0=>A.unB V (λa1 a2=>A.un0 a2 ( K [(.b (!a1))] a0)))))))
/-- crimp/patterns.isKind -/
def f76(ls:List Lf)(h:HT)(K:List Lf->HT->R):R:=A.unI ls (λn6 O=>A.un0 O ( A.join (λU V=>A.unB U (λa0 a1=>A.un0 a1 ( K [(.b a0)] V))) (λJ=>A.cmp .geq n6 1 (λa2=>A.cond a2 ( A.cmp .leq n6 3 (λa3=>J [(.b a3)] h)) ( J [(.b false)] h)))))
/-- crimp/sheets.Name -/
def f77(ls:List Lf)(h:HT)(K:List Lf->HT->R):R:=A.unI ls (λn6 O=>A.unI O (λn8 U=>A.unI U (λn10 V=>A.unI V (λn12 a0=>A.un0 a0 ( A.call 39 [(.i n6),(.i n8),(.i n10),(.i n12)] h (λa1 J=>A.unI a1 (λn16 a2=>A.unI a2 (λn18 a3=>A.un0 a3 ( A.cmp .neq n18 0 (λa4=>A.cond a4 ( K [(.i 0),(.i 0),(.i n18)] J) ( A.cmp .lss n16 n10 (λa5=>A.sel a5 n16 n10 (λn22=>K [(.i n22),(.i n12),(.i 0)] J)))))))))))))
/-- (crimp/patterns.Crease).unit -/
def f78(ls:List Lf)(h:HT)(K:List Lf->HT->R):R:=A.unI ls (λn6 J=>A.unI J (λn8 O=>A.unI O (λn10 U=>A.un0 U ( K [(.i n6),(.i n8)] h))))
/-- crimp/patterns.order -/
def f79(ls:List Lf)(h:HT)(K:List Lf->HT->R):R:=A.unI ls (λn6 J=>A.unI J (λn8 O=>A.unI O (λn10 U=>A.unI U (λn12 V=>A.un0 V ( A.cmp .neq n6 n10 (λa0=>A.cond a0 ( A.ari .sub .i64 n6 n10 (λn15=>K [(.i n15)] h)) ( A.conv .i64 n8 (λn16=>A.conv .i64 n12 (λn17=>A.ari .sub .i64 n16 n17 (λn18=>K [(.i n18)] h))))))))))
/-- crimp/moves.beyond -/
def f80(ls:List Lf)(h:HT)(K:List Lf->HT->R):R:=A.unI ls (λn6 O=>A.un0 O ( A.join (λU V=>A.unB U (λa0 a1=>A.un0 a1 ( K [(.b a0)] V))) (λJ=>A.cmp .lss n6 (-16384) (λa2=>A.cond a2 ( J [(.b true)] h) ( A.cmp .gtr n6 16384 (λa3=>J [(.b a3)] h))))))
/-- crimp/places.creased -/
def f81(ls:List Lf)(h:HT)(K:List Lf->HT->R):R:=A.unI ls (λn6 V=>A.unI V (λn8 a0=>A.unV a0 (λJ a1=>A.un0 a1 ( A.opt (lenS J) (λx12=>A.new (.map [] 0) h (λU a2=>A.opt (lenS J) (λx15=>A.loop (λa3 a4 O=>A.unI a4 (λn19 a5=>A.un0 a5 ( A.cmp .lss n19 x15 (λa6=>A.cond a6 ( A.opt (idS 3 J n19) (λa7=>A.peek (.lg cc 3 a7) O (λa8=>A.ucI .i64 a8 (λn24 a9=>A.ucI .u8 a9 (λn26 b0=>A.ucI .u8 b0 (λn28 b1=>A.uc0 b1 ( A.heap (.fn (muG cc 154 (.map (some U)) (.agg ⟨[(.int .i64 n24),(.int .u8 n26)]⟩) (.bool true))) O (λb3 b2=>A.ari .add .i64 n19 1 (λn32=>a3 [(.i n32)] b2))))))))) ( K [(.v (.map (some U)))] O))))) [(.i 0)] a2)))))))
/-- crimp/sheets.Count -/
def f82(ls:List Lf)(h:HT)(K:List Lf->HT->R):R:=A.unI ls (λn6 O=>A.unI O (λn8 U=>A.un0 U ( A.call 65 [(.i n6),(.i n8)] h (λV J=>A.unI V (λn12 a0=>A.un0 a0 ( A.cmp .neq n12 0 (λa1=>A.cond a1 ( K [(.i 0)] J) ( A.ari .mul .i64 4 n6 (λn15=>A.ari .mul .i64 n15 n8 (λn16=>K [(.i n16)] J))))))))))
/-- crimp/places.relative$1 -/
def f83(ls:List Lf)(h:HT)(K:List Lf->HT->R):R:=A.unI ls (λn6 a5=>A.unI a5 (λn8 a6=>A.unV a6 (λU a7=>A.unV a7 (λx12 a8=>A.unV a8 (λV a9=>A.un0 a9 ( A.opt (fdP 0 U) (λa0=>A.chk a0 ( A.peek (.lg cc 2 a0) h (λb0=>A.ucI .i64 b0 (λn18 b1=>A.ucI .i64 b1 (λn20 b2=>A.uc0 b2 ( A.call 77 [(.i n18),(.i n20),(.i n6),(.i n8)] h (λb3 J=>A.unI b3 (λn24 b4=>A.unI b4 (λn26 b5=>A.unI b5 (λn28 b6=>A.un0 b6 ( A.peek (.lg cc 1 x12) J (λb7=>A.ucV b7 (λa1 b8=>A.chk a1 ( A.uc0 b8 ( A.peek (.fn (luG cc 154 false (.bool false) a1 (.agg ⟨[(.int .i64 n24),(.int .u8 n26)]⟩) false)) J (λb9=>A.ucB b9 (λc0 c1=>A.uc0 c1 ( A.cond (!c0) ( A.peek (.lg cc 1 V) J (λd0=>A.ucV d0 (λa2 d1=>A.chk a2 ( A.uc0 d1 ( A.opt (idS 3 a2 n6) (λd2=>A.peek (.lg cc 3 d2) J (λd3=>A.ucI .u8 d3 (λn41 d4=>A.ucI .i64 d4 (λn43 d5=>A.ucI .i64 d5 (λn45 d6=>A.uc0 d6 ( K [(.i n41),(.i n43),(.i n45)] J))))))))))) ( A.opt (fdP 0 U) (λa3=>A.chk a3 ( A.peek (.lg cc 2 a3) J (λd7=>A.ucI .i64 d7 (λn49 d8=>A.ucI .i64 d8 (λn51 d9=>A.uc0 d9 ( A.call 84 [(.i n49),(.i n51),(.i n24),(.i n26)] J (λe0 e1=>A.unI e0 (λn55 e2=>A.unI e2 (λf0 f1=>A.unI f1 (λh8 f2=>A.un0 f2 ( A.call 85 [(.i n55),(.i f0)] e1 (λgl O=>A.unI gl (λg0 g1=>A.unI g1 (λn65 g2=>A.unI g2 (λn67 g3=>A.unI g3 (λn69 g4=>A.un0 g4 ( A.peek (.lg cc 1 V) O (λg5=>A.ucV g5 (λa4 g6=>A.chk a4 ( A.uc0 g6 ( A.opt (idS 3 a4 n6) (λg7=>A.peek (.lg cc 3 g7) O (λg8=>A.ucI .u8 g8 (λn76 g9=>A.ucI .i64 g9 (λn78 h0=>A.ucI .i64 h0 (λn80 h1=>A.uc0 h1 ( A.call 54 [(.i g0),(.i n65),(.i n67),(.i n76),(.i n78),(.i n80)] O (λh2 h3=>A.unI h2 (λn84 h4=>A.unI h4 (λn86 h5=>A.unI h5 (λn88 h6=>A.unI h6 (λh9 h7=>A.un0 h7 ( K [(.i n84),(.i n86),(.i n88)] h3))))))))))))))))))))))))))))))))))))))))))))))))))))))))))
/-- crimp/sheets.Line -/
def f84(ls:List Lf)(h:HT)(K:List Lf->HT->R):R:=A.unI ls (λn6 O=>A.unI O (λn8 U=>A.unI U (λn10 V=>A.unI V (λn12 a0=>A.un0 a0 ( A.call 99 [(.i n6),(.i n8),(.i n10),(.i n12)] h (λa1 J=>A.unI a1 (λn16 a2=>A.unI a2 (λn18 a3=>A.unI a3 (λn20 a4=>A.unI a4 (λn22 a5=>A.un0 a5 ( A.cmp .neq n22 0 (λa6=>A.cond a6 ( K [(.i 0),(.i 0),(.i n22)] J) ( A.call 100 [(.i n16),(.i n18),(.i n20),(.i n12)] J (λa7 a8=>A.unI a7 (λn27 a9=>A.unI a9 (λn29 b0=>A.unI b0 (λn31 b1=>A.un0 b1 ( K [(.i n27),(.i n29),(.i n31)] a8))))))))))))))))))
/-- crimp/moves.Of -/
def f85(ls:List Lf)(h:HT)(K:List Lf->HT->R):R:=A.unI ls (λn6 O=>A.unI O (λn8 U=>A.un0 U ( A.call 101 [(.i n6),(.i n8)] h (λV J=>A.unI V (λn12 a0=>A.un0 a0 ( A.cmp .neq n12 0 (λa1=>A.cond a1 ( K [(.i 0),(.i 0),(.i 0),(.i 1)] J) ( A.cmp .eql n6 1 (λa2=>A.cond a2 ( A.ari .mul .i64 2 n8 (λn16=>K [(.i 4),(.i n16),(.i 0),(.i 0)] J)) ( A.cmp .eql n6 2 (λa3=>A.cond a3 ( A.ari .mul .i64 2 n8 (λn18=>K [(.i 6),(.i 0),(.i n18),(.i 0)] J)) ( A.cmp .eql n6 3 (λa4=>A.cond a4 ( K [(.i 5),(.i n8),(.i n8),(.i 0)] J) ( A.ari .sub .i64 0 n8 (λn20=>K [(.i 7),(.i n20),(.i n8),(.i 0)] J)))))))))))))))
/-- (crimp/moves.matrix).of -/
def f86(ls:List Lf)(h:HT)(K:List Lf->HT->R):R:=A.unI ls (λn6 J=>A.unI J (λn8 O=>A.unI O (λn10 U=>A.unI U (λn12 V=>A.unI V (λn14 a0=>A.unI a0 (λn16 a1=>A.un0 a1 ( A.ari .mul .i64 n6 n14 (λn18=>A.ari .mul .i64 n8 n16 (λn19=>A.ari .add .i64 n18 n19 (λn20=>A.ari .mul .i64 n10 n14 (λn21=>A.ari .mul .i64 n12 n16 (λn22=>A.ari .add .i64 n21 n22 (λn23=>K [(.i n20),(.i n23)] h)))))))))))))
/-- crimp/moves.limited -/
def f87(ls:List Lf)(h:HT)(K:List Lf->HT->R):R:=A.unI ls (λn6 O=>A.unI O (λn8 U=>A.unI U (λn10 V=>A.un0 V ( A.call 52 [(.i n6),(.i n8),(.i n10)] h (λa0 J=>A.unI a0 (λn14 a1=>A.un0 a1 ( A.cmp .neq n14 0 (λa2=>A.cond a2 ( K [(.i 0),(.i 0),(.i 0),(.i 3)] J) ( K [(.i n6),(.i n8),(.i n10),(.i 0)] J)))))))))
/-- crimp/moves.number -/
def f88(ls:List Lf)(h:HT)(K:List Lf->HT->R):R:=A.unI ls (λn6 O=>A.unI O (λn8 U=>A.unI U (λn10 V=>A.unI V (λn12 a0=>A.un0 a0 ( A.loop (λa1 a2 J=>A.unI a2 (λn17 a3=>A.un0 a3 ( A.cmp .lss n17 8 (λa4=>A.cond a4 ( A.opt (inB 8 n17) (λb1=>A.opt (iW [(.i 1),(.i 0),(.i 0),(.i 1),(.i 0),(.i (-1)),(.i 1),(.i 0),(.i (-1)),(.i 0),(.i 0),(.i (-1)),(.i 0),(.i 1),(.i (-1)),(.i 0),(.i (-1)),(.i 0),(.i 0),(.i 1),(.i 0),(.i (-1)),(.i (-1)),(.i 0),(.i 1),(.i 0),(.i 0),(.i (-1)),(.i 0),(.i 1),(.i 1),(.i 0)] 0 [(n17,4)] 4) (λa5=>A.unI a5 (λn22 a6=>A.unI a6 (λn24 a7=>A.unI a7 (λn26 a8=>A.unI a8 (λn28 a9=>A.un0 a9 ( A.eqs [((.i n22),(.i n6)),((.i n24),(.i n8)),((.i n26),(.i n10)),((.i n28),(.i n12))] (λb0=>A.cond b0 ( A.conv .u8 n17 (λn31=>K [(.i n31)] J)) ( A.ari .add .i64 n17 1 (λn32=>a1 [(.i n32)] J))))))))))) ( K [(.i 0)] J))))) [(.i 0)] h)))))
/-- (crimp/moves.matrix).then -/
def f89(ls:List Lf)(h:HT)(K:List Lf->HT->R):R:=A.unI ls (λn6 J=>A.unI J (λn8 O=>A.unI O (λn10 U=>A.unI U (λn12 V=>A.unI V (λn14 a0=>A.unI a0 (λn16 a1=>A.unI a1 (λn18 a2=>A.unI a2 (λn20 a3=>A.un0 a3 ( A.call 86 [(.i n14),(.i n16),(.i n18),(.i n20),(.i n6),(.i n10)] h (λa4 a5=>A.unI a4 (λn24 a6=>A.unI a6 (λn26 a7=>A.un0 a7 ( A.call 86 [(.i n14),(.i n16),(.i n18),(.i n20),(.i n8),(.i n12)] a5 (λa8 a9=>A.unI a8 (λn30 b0=>A.unI b0 (λn32 b1=>A.un0 b1 ( K [(.i n24),(.i n30),(.i n26),(.i n32)] a9)))))))))))))))))
/-- crimp/cells.middle -/
def f95(ls:List Lf)(h:HT)(K:List Lf->HT->R):R:=A.unI ls (λn6 J=>A.unI J (λn8 O=>A.unI O (λn10 U=>A.un0 U ( A.ari .mul .i64 2 n6 (λn12=>A.ari .add .i64 n12 1 (λn13=>A.ari .mul .i64 2 n8 (λn14=>A.ari .add .i64 n14 1 (λn15=>K [(.i n13),(.i n15)] h))))))))
/-- crimp/moves.Point -/
def f96(ls:List Lf)(h:HT)(K:List Lf->HT->R):R:=A.unI ls (λn6 V=>A.unI V (λn8 a0=>A.unI a0 (λn10 a1=>A.unI a1 (λn12 a2=>A.unI a2 (λn14 a3=>A.un0 a3 ( A.call 52 [(.i n6),(.i n8),(.i n10)] h (λa4 J=>A.unI a4 (λn18 a5=>A.un0 a5 ( A.cmp .neq n18 0 (λa6=>A.cond a6 ( K [(.i 0),(.i 0),(.i 1)] J) ( A.call 103 [(.i n12),(.i n14)] J (λa7 O=>A.unI a7 (λn23 a8=>A.un0 a8 ( A.cmp .neq n23 0 (λa9=>A.cond a9 ( K [(.i 0),(.i 0),(.i 1)] O) ( A.opt (inB 8 n6) (λd0=>A.opt (nD gl1 0 [(n6,4)] 4) (λb0=>A.ucI .i64 b0 (λn28 b1=>A.ucI .i64 b1 (λn30 b2=>A.ucI .i64 b2 (λn32 b3=>A.ucI .i64 b3 (λn34 b4=>A.uc0 b4 ( A.call 86 [(.i n28),(.i n30),(.i n32),(.i n34),(.i n12),(.i n14)] O (λb5 b6=>A.unI b5 (λn38 b7=>A.unI b7 (λn40 b8=>A.un0 b8 ( A.ari .mul .i64 2 n8 (λn42=>A.ari .add .i64 n38 n42 (λn43=>A.ari .mul .i64 2 n10 (λn44=>A.ari .add .i64 n40 n44 (λn45=>A.call 103 [(.i n43),(.i n45)] b6 (λb9 U=>A.unI b9 (λn48 c0=>A.un0 c0 ( A.cmp .neq n48 0 (λc1=>A.cond c1 ( K [(.i 0),(.i 0),(.i 3)] U) ( K [(.i n43),(.i n45),(.i 0)] U))))))))))))))))))))))))))))))))))))
/-- crimp/patterns.find -/
def f97(ls:List Lf)(h:HT)(K:List Lf->HT->R):R:=A.unV ls (λx6 J=>A.unI J (λn8 O=>A.unI O (λn10 U=>A.un0 U ( A.call 104 [(.v x6),(.i n8),(.i n10),(.v (.func (.func 105) ⟨[]⟩ ⟨[]⟩))] h (λV a0=>A.unI V (λn14 a1=>A.unB a1 (λa2 a3=>A.un0 a3 ( K [(.i n14),(.b a2)] a0))))))))
/-- slices.IndexFunc[[]crimp/patterns.Crease,crimp/patterns.Crease] -/
def f98(ls:List Lf)(h:HT)(K:List Lf->HT->R):R:=A.unV ls (λx6 U=>A.unV U (λV a0=>A.un0 a0 ( A.opt (lenS x6) (λa1=>A.loop (λa2 a3 J=>A.unI a3 (λn14 a4=>A.un0 a4 ( A.cmp .lss n14 a1 (λa5=>A.cond a5 ( A.opt (idS 3 x6 n14) (λa6=>A.peek (.lg cc 3 a6) J (λa7=>A.ucI .i64 a7 (λn19 a8=>A.ucI .u8 a8 (λn21 a9=>A.ucI .u8 a9 (λn23 b0=>A.uc0 b0 ( A.callv V [(.agg ⟨[(.int .i64 n19),(.int .u8 n21),(.int .u8 n23)]⟩)] [(.leaf .b)] J (λb1 O=>A.unB b1 (λb2 b3=>A.un0 b3 ( A.cond b2 ( K [(.i n14)] O) ( A.ari .add .i64 n14 1 (λn29=>a2 [(.i n29)] O)))))))))))) ( K [(.i (-1))] J))))) [(.i 0)] h))))
/-- crimp/sheets.named -/
def f99(ls:List Lf)(h:HT)(K:List Lf->HT->R):R:=A.unI ls (λn6 U=>A.unI U (λn8 V=>A.unI V (λn10 a0=>A.unI a0 (λn12 a1=>A.un0 a1 ( A.call 65 [(.i n6),(.i n8)] h (λa2 O=>A.unI a2 (λn16 a3=>A.un0 a3 ( A.cmp .neq n16 0 (λa4=>A.cond a4 ( K [(.i 0),(.i 0),(.i 0),(.i n16)] O) ( A.call 77 [(.i n6),(.i n8),(.i n10),(.i n12)] O (λa5 J=>A.unI a5 (λn21 a6=>A.unI a6 (λn23 a7=>A.unI a7 (λn25 a8=>A.un0 a8 ( A.cmp .neq n25 0 (λa9=>A.cond a9 ( K [(.i 0),(.i 0),(.i 0),(.i 7)] J) ( A.eqs [((.i n21),(.i n10)),((.i n23),(.i n12))] (λb0=>A.cond (!b0) ( K [(.i 0),(.i 0),(.i 0),(.i 7)] J) ( A.call 67 [(.i n6),(.i n8),(.i n10)] J (λb1 b2=>A.unI b1 (λn31 b3=>A.unI b3 (λn33 b4=>A.unI b4 (λn35 b5=>A.un0 b5 ( K [(.i n31),(.i n33),(.i n35),(.i 0)] b2))))))))))))))))))))))))
/-- crimp/cells.Line -/
def f100(ls:List Lf)(h:HT)(K:List Lf->HT->R):R:=A.unI ls (λn6 a3=>A.unI a3 (λn8 a4=>A.unI a4 (λn10 a5=>A.unI a5 (λn12 a6=>A.un0 a6 ( A.call 68 [(.i n6),(.i n8),(.i n10)] h (λa7 J=>A.unI a7 (λn16 a8=>A.un0 a8 ( A.cmp .neq n16 0 (λa9=>A.cond a9 ( K [(.i 0),(.i 0),(.i 1)] J) ( A.cmp .gtr n12 2 (λb0=>A.cond b0 ( K [(.i 0),(.i 0),(.i 1)] J) ( A.opt (inB 4 n10) (λg9=>A.opt (nD gl0 0 [(n10,17)] 17) (λb1=>A.ucI .i64 b1 (λn22 b2=>A.ucI .i64 b2 (λn24 b3=>A.ucI .u8 b3 (λn26 b4=>A.ucI .i64 b4 (λn28 b5=>A.ucI .i64 b5 (λn30 b6=>A.ucI .i64 b6 (λn32 b7=>A.ucI .u8 b7 (λn34 b8=>A.ucI .i64 b8 (λn36 b9=>A.ucI .i64 b9 (λn38 c0=>A.ucI .u8 c0 (λn40 c1=>A.ucI .i64 c1 (λn42 d0=>A.ucI .i64 d0 (λn44 d1=>A.ucI .u8 d1 (λn46 d2=>A.ucI .i64 d2 (λn48 d3=>A.ucI .i64 d3 (λn50 d4=>A.ucI .i64 d4 (λn52 d5=>A.ucI .i64 d5 (λn54 d6=>A.uc0 d6 ( A.ari .add .i64 n6 n28 (λd7=>A.cmp .eql n12 1 (λd8=>A.join (λd9 e0=>A.unI d9 (λO e1=>A.unI e1 (λU e2=>A.un0 e2 ( A.call 101 [(.i O),(.i U)] e0 (λf0 V=>A.unI f0 (λn66 f1=>A.un0 f1 ( A.cmp .neq n66 0 (λf2=>A.cond f2 ( K [(.i 0),(.i 0),(.i 3)] V) ( K [(.i O),(.i U),(.i 0)] V))))))))) (λa0=>A.cond d8 ( A.ari .add .i64 n6 n8 (λn70=>A.ari .add .i64 n70 1 (λn71=>a0 [(.i 3),(.i n71)] J))) ( A.cmp .eql n12 2 (λgl=>A.join (λg0 g1=>A.unI g0 (λn75 g2=>A.unI g2 (λn77 g3=>A.un0 g3 ( a0 [(.i n75),(.i n77)] g1)))) (λa1=>A.cond gl ( A.ari .sub .i64 n8 n6 (λn80=>a1 [(.i 4),(.i n80)] J)) ( A.cmp .eql n26 2 (λg4=>A.join (λg5 g6=>A.unI g5 (λn84 g7=>A.unI g7 (λn86 g8=>A.un0 g8 ( a1 [(.i n84),(.i n86)] g6)))) (λa2=>A.cond g4 ( A.ari .add .i64 n8 n28 (λn89=>a2 [(.i n26),(.i n89)] J)) ( a2 [(.i n26),(.i d7)] J))))))))))))))))))))))))))))))))))))))))))
/-- crimp/lines.Check -/
def f101(ls:List Lf)(h:HT)(K:List Lf->HT->R):R:=A.unI ls (λn6 J=>A.unI J (λn8 O=>A.un0 O ( A.cmp .lss n6 1 (λU=>A.cond U ( K [(.i 1)] h) ( A.cmp .gtr n6 4 (λV=>A.cond V ( K [(.i 1)] h) ( A.cmp .lss n8 (-4096) (λa0=>A.cond a0 ( K [(.i 1)] h) ( A.cmp .gtr n8 4096 (λa1=>A.cond a1 ( K [(.i 1)] h) ( K [(.i 0)] h)))))))))))
/-- crimp/lines.CheckPoint -/
def f103(ls:List Lf)(h:HT)(K:List Lf->HT->R):R:=A.unI ls (λn6 J=>A.unI J (λn8 O=>A.un0 O ( A.cmp .lss n6 (-65536) (λU=>A.cond U ( K [(.i 1)] h) ( A.cmp .gtr n6 65536 (λV=>A.cond V ( K [(.i 1)] h) ( A.cmp .lss n8 (-65536) (λa0=>A.cond a0 ( K [(.i 1)] h) ( A.cmp .gtr n8 65536 (λa1=>A.cond a1 ( K [(.i 1)] h) ( K [(.i 0)] h)))))))))))
/-- slices.BinarySearchFunc[[]crimp/patterns.Crease,crimp/patterns.Crease,crimp/sheets.Unit] -/
def f104(ls:List Lf)(h:HT)(K:List Lf->HT->R):R:=A.unV ls (λx6 a1=>A.unI a1 (λn8 a2=>A.unI a2 (λn10 a3=>A.unV a3 (λx12 a4=>A.un0 a4 ( A.opt (lenS x6) (λO=>A.loop (λa5 a6 J=>A.unI a6 (λn18 a7=>A.unI a7 (λn20 a8=>A.un0 a8 ( A.cmp .lss n18 n20 (λa9=>A.cond a9 ( A.ari .add .i64 n18 n20 (λn23=>A.conv .u64 n23 (λn24=>A.shf .shr .u64 n24 .u64 1 (λn25=>A.conv .i64 n25 (λn26=>A.opt (idS 3 x6 n26) (λb0=>A.peek (.lg cc 3 b0) J (λb1=>A.ucI .i64 b1 (λn29 b2=>A.ucI .u8 b2 (λn31 b3=>A.ucI .u8 b3 (λn33 b4=>A.uc0 b4 ( A.callv x12 [(.agg ⟨[(.int .i64 n29),(.int .u8 n31),(.int .u8 n33)]⟩),(.agg ⟨[(.int .i64 n8),(.int .u8 n10)]⟩)] [(.leaf (.i .i64))] J (λb5 U=>A.unI b5 (λn37 b6=>A.un0 b6 ( A.cmp .lss n37 0 (λb7=>A.join (λb8 b9=>A.unI b8 (λn42 c0=>A.unI c0 (λn44 c1=>A.un0 c1 ( a5 [(.i n42),(.i n44)] b9)))) (λV=>A.cond b7 ( A.ari .add .i64 n26 1 (λn47=>V [(.i n47),(.i n20)] U)) ( V [(.i n18),(.i n26)] U))))))))))))))))) ( A.join (λd0 d1=>A.unI d0 (λn50 d2=>A.unB d2 (λd3 d4=>A.un0 d4 ( K [(.i n50),(.b d3)] d1)))) (λa0=>A.cmp .lss n18 O (λd5=>A.cond d5 ( A.opt (idS 3 x6 n18) (λd6=>A.peek (.lg cc 3 d6) J (λd7=>A.ucI .i64 d7 (λd8 d9=>A.ucI .u8 d9 (λe0 e1=>A.ucI .u8 e1 (λe2 f0=>A.uc0 f0 ( A.callv x12 [(.agg ⟨[(.int .i64 d8),(.int .u8 e0),(.int .u8 e2)]⟩),(.agg ⟨[(.int .i64 n8),(.int .u8 n10)]⟩)] [(.leaf (.i .i64))] J (λf1 f2=>A.unI f1 (λn66 gl=>A.un0 gl ( A.cmp .eql n66 0 (λg0=>a0 [(.i n18),(.b g0)] f2))))))))))) ( a0 [(.i n18),(.b false)] J))))))))) [(.i 0),(.i O)] h))))))
/-- crimp/patterns.find$1 -/
def f105(ls:List Lf)(h:HT)(K:List Lf->HT->R):R:=A.unI ls (λn6 J=>A.unI J (λn8 O=>A.unI O (λn10 U=>A.unI U (λn12 V=>A.unI V (λn14 a0=>A.un0 a0 ( A.call 78 [(.i n6),(.i n8),(.i n10)] h (λa1 a2=>A.unI a1 (λn18 a3=>A.unI a3 (λn20 a4=>A.un0 a4 ( A.call 79 [(.i n18),(.i n20),(.i n12),(.i n14)] a2 (λa5 a6=>A.unI a5 (λn24 a7=>A.un0 a7 ( K [(.i n24)] a6)))))))))))))
end
end Go.Am

/-
 THE EXECUTOR: a run of the abstract machine that the kernel can make;numbers may be symbolic,the ways of a run are all followed.
-/
namespace Go.Am
inductive Pth where
 |e
 |o (p:Pth)
 |i (p:Pth)
inductive Tr(α:Type) where
 |leaf
 |node (v:α) (l r:Tr α)
def Pth.num:Pth->Nat
 | .e=>1
 | .o p=>2*p.num
 | .i p=>2*p.num+1
def pthF:Nat->Nat->Pth
 |0,_=>.e
 |f+1,n=>if Nat.ble n 1 then .e else if Nat.beq (n%2) 0 then .o (pthF f (n / 2))else .i (pthF f (n / 2))
def bc(n:Nat):Pth:=pthF (n+1) (n+1)
def Pth.get{α:Type}(d:α)(p:Pth):Tr α->α:=
 Pth.rec (motive:=λ_=>Tr α->α)
  (λt=>Tr.casesOn t d λv _ _=>v)
  (λ_ ih t=>Tr.casesOn t d λ_ l _=>ih l)
  (λ_ ih t=>Tr.casesOn t d λ_ _ r=>ih r) p
def Pth.setK{α:Type}(d:α)(p:Pth):Tr α->α->(Tr α->Bool)->Bool:=
 Pth.rec (motive:=λ_=>Tr α->α->(Tr α->Bool)->Bool)
  (λt x k=>Tr.casesOn t (k (.node x .leaf .leaf)) λ_ l r=>k (.node x l r))
  (λ_ ih t x k=>Tr.casesOn t (ih .leaf x λl=>k (.node d l .leaf)) λv l r=>ih l x λl=>k (.node v l r))
  (λ_ ih t x k=>Tr.casesOn t (ih .leaf x λr=>k (.node d .leaf r)) λv l r=>ih r x λr=>k (.node v l r)) p
def eqI:Int->Int->Bool
 | .ofNat a,.ofNat b=>Nat.beq a b
 | .negSucc a,.negSucc b=>Nat.beq a b
 |_,_=>false
def kmax:IntKind->Nat
 | .i8=>127
 | .i16=>32767
 | .i32=>2147483647
 | .i64=>9223372036854775807
 | .u8=>255
 | .u16=>65535
 | .u32=>4294967295
 | .u64=>18446744073709551615
def fits(k:IntKind):Int->Bool
 | .ofNat n=>Nat.ble n (kmax k)
 | .negSucc n=>k.signed&&Nat.ble n (kmax k)
abbrev Lin:=List Int
def dot:List Int->List Int->Int
 |c :: l,x :: ρ=>c*x+dot l ρ
 |_,_=>0
def Lin.eval(l:Lin)(ρ:List Int):Int:=
 match l with
 | []=>0
 |c :: l=>c+dot l ρ
structure Ctx where
 iv:List (Int×Int)
 cs:List (List Int×Int×Int)
inductive Opd where
 |t (p:Pth)
 |c (v:Value)
inductive Ins where
 |mv (x:Opd)
 |pick (c a b:Opd)
 |ar (op:BinOp) (x y:Opd)
 |cmp (op:BinOp) (x y:Opd)
 |notb (x:Opd)
 |conv (k:IntKind) (x:Opd)
 |fld (x:Opd) (off:Nat)
 |flda (x:Opd) (off n:Nat)
 |ext (x:Opd) (i:Nat)
 |fad (x:Opd) (off:Nat)
 |lload (s:Nat) (p:Pth) (a:Opd)
 |lloada (s:Nat) (p:Pth) (n:Nat) (a:Opd)
 |lbox (s:Nat) (p:Pth) (x:Opd)
 |lnew (s:Nat) (p:Pth) (vs:List Value)
 |bld (z:List Value) (ps:List (Nat×Nat×Opd))
 |lstore (s:Nat) (p:Pth) (n:Nat) (a x:Opd)
 |call (f:FuncId) (args:List Opd)
 |gen
abbrev TV:=Tr Value
abbrev TL:=Tr (Option (List Value))
def rd(tm:TV):Opd->Value
 | .t p=>p.get undef tm
 | .c v=>v
structure XCfg where
 C:Cfg
 kf:FuncId->List Value->List HObj->Option (Value×List HObj)
abbrev KS:=Ctx->TV->TL->List HObj->Bool
structure XS where
 call:Ctx->FuncId->List Value->List HObj->(Ctx->Value->List HObj->Bool)->Bool
 yield:Ctx->Nat->List Value->List HObj->(Ctx->Value->List HObj->Bool)->Bool
 ex:Ctx->List Nat->Nat->Code->TV->TL->List HObj->KS->(Exit->KS)->Bool
end Go.Am

/-
 THE EXECUTOR IS SOUND: trees,numbers,linear forms.
-/
namespace Go.Am
theorem rB:∀(f n:Nat),n<=f->1<=n->(pthF f n).num=n
 |0,n,h,h1=>by omega
 |f+1,n,h,h1=>by
  unfold pthF
  by_cases hn:n<=1
  ·have:n=1:=by omega
   subst this
   rfl
  ·have h2:Nat.ble n 1=false:=by
    rw[←qaY,qbr];exact hn
   rw[h2]
   have ih:=rB f (n / 2) (by omega) (by omega)
   by_cases hm:n%2=0
   ·simp[hm,Pth.num,ih];omega
   ·simp[hm,Pth.num,ih];omega
theorem ml(n:Nat):(bc n).num=n+1:=rB _ _ (qaA _) (by omega)
theorem ij{a b:Nat}(h:bc a=bc b):a=b:=by
 have:=congrArg Pth.num h
 rw[ml,ml]at this
 omega
def Pth.set{α:Type}(d:α):Pth->Tr α->α->Tr α
 | .e,.leaf,x=>.node x .leaf .leaf
 | .e,.node _ l r,x=>.node x l r
 | .o p,.leaf,x=>.node d (Pth.set d p .leaf x) .leaf
 | .o p,.node v l r,x=>.node v (Pth.set d p l x) r
 | .i p,.leaf,x=>.node d .leaf (Pth.set d p .leaf x)
 | .i p,.node v l r,x=>.node v l (Pth.set d p r x)
theorem Pth.setK_eq{α:Type}(d:α):∀(p:Pth) (t:Tr α) (x:α) (k:Tr α->Bool),p.setK d t x k=k (p.set d t x)
 | .e,t,x,k=>by cases t<;>rfl
 | .o p,t,x,k=>by
  cases t with
  |leaf=>exact Pth.setK_eq d p .leaf x _
  |node v l r=>exact Pth.setK_eq d p l x _
 | .i p,t,x,k=>by
  cases t with
  |leaf=>exact Pth.setK_eq d p .leaf x _
  |node v l r=>exact Pth.setK_eq d p r x _
theorem Pth.get_leaf{α:Type}(d:α)(p:Pth):p.get d .leaf=d:=by cases p<;>rfl
theorem Pth.get_set{α:Type}(d:α):∀(p:Pth) (t:Tr α) (x:α),p.get d (p.set d t x)=x
 | .e,t,x=>by cases t<;>rfl
 | .o p,t,x=>by
  cases t with
  |leaf=>exact Pth.get_set d p .leaf x
  |node v l r=>exact Pth.get_set d p l x
 | .i p,t,x=>by
  cases t with
  |leaf=>exact Pth.get_set d p .leaf x
  |node v l r=>exact Pth.get_set d p r x
theorem Pth.get_set_ne{α:Type}(d:α):∀(p q:Pth) (t:Tr α) (x:α),q≠p->q.get d (p.set d t x)=q.get d t
 | .e,q,t,x,h=>by cases q<;>cases t<;>first|rfl|exact absurd rfl h|exact Pth.get_leaf d _
 | .o p,q,t,x,h=>by
  cases q with
  |e=>cases t<;>rfl
  |o q=>
   have hq:q≠p:=λe=>h (e▸rfl)
   cases t with
   |leaf=>exact(Pth.get_set_ne d p q .leaf x hq).trans (Pth.get_leaf d q)
   |node v l r=>exact Pth.get_set_ne d p q l x hq
  |i q=>
   cases t with
   |leaf=>exact Pth.get_leaf d q
   |node v l r=>rfl
 | .i p,q,t,x,h=>by
  cases q with
  |e=>cases t<;>rfl
  |i q=>
   have hq:q≠p:=λe=>h (e▸rfl)
   cases t with
   |leaf=>exact(Pth.get_set_ne d p q .leaf x hq).trans (Pth.get_leaf d q)
   |node v l r=>exact Pth.get_set_ne d p q r x hq
  |o q=>
   cases t with
   |leaf=>exact Pth.get_leaf d q
   |node v l r=>rfl
def Tr.map{α:Type}(f:α->α):Tr α->Tr α
 | .leaf=>.leaf
 | .node v l r=>.node (f v) (l.map f) (r.map f)
theorem eqI_iff{a b:Int}:eqI a b=true↔a=b:=by
 cases a<;>cases b<;>simp[eqI]<;>omega
theorem fits_iff{k:IntKind}{c:Int}(h:fits k c=true):(k.signed=true->-(kmax k:Int) - 1<=c)/\(k.signed=false->0<=c)/\c<=kmax k:=by
 cases c with
 |ofNat n=>
  simp only[fits,qbr]at h
  refine⟨λ_=>?_,λ_=>?_,?_⟩<;>simp<;>omega
 |negSucc n=>
  simp only[fits,qaa,qbr]at h
  refine⟨λ_=>?_,λhs=>?_,?_⟩
  ·omega
  ·rw[h.1]at hs;cases hs
  ·omega
theorem oF{k:IntKind}{c:Int}(h:fits k c=true):k.wrap c=c:=by
 obtain⟨h1,h2,h3⟩:=fits_iff h
 cases k<;>simp only[IntKind.signed,kmax,forall_const,reduceCtorEq,false_implies]at h1 h2 h3
 ·exact Go.IntWalk.i8_in c (by omega)
 ·exact Go.IntWalk.i16_in c (by omega)
 ·exact Go.IntWalk.i32_in c (by omega)
 ·exact Go.IntWalk.i64_in c (by omega)
 ·exact Go.IntWalk.u8_in c (by omega)
 ·exact Go.IntWalk.u16_in c (by omega)
 ·exact Go.IntWalk.u32_in c (by omega)
 ·exact Go.IntWalk.u64_in c (by omega)
end Go.Am

/-
 THE EXECUTOR IS SOUND: arithmetic,plain and symbolic.
-/
namespace Go.Am
section
variable [Val] {ρ:List Int}
def lF(op:BinOp)(x y:Int):Option Bool:=
 match op with
 | .eql=>some (x==y)
 | .neq=>some (x != y)
 | .lss=>some (decide (x<y))
 | .leq=>some (decide (x<=y))
 | .gtr=>some (decide (x > y))
 | .geq=>some (decide (x ≥ y))
 |_=>none
def mF(op:BinOp)(k:IntKind)(x y n:Int):Prop:=∀(P:Program) (t:TypeId) (w:World),(binOp op t (.int k x) (.int k y)).run P w = .ok (.int k n) w
theorem bits_one{k:IntKind}(x:Int):((BitVec.ofInt k.bits x &&& BitVec.ofInt k.bits 1).toNat:Int)=x%2:=by
 have hb:k.bits=k.bits - 1+1:=by cases k<;>rfl
 generalize k.bits - 1=n at hb
 rw[hb]
 have h1:(BitVec.ofInt (n+1) 1).toNat=1:=by
  simp
 rw[BitVec.toNat_and,h1,Nat.and_one_is_mod,BitVec.toNat_ofInt]
 have hp:(0:Int)<2 ^ (n+1):=Int.pow_pos (by omega)
 have e:(2:Int) ^ (n+1)=2*2 ^ n:=by rw[Int.pow_succ];omega
 have h0:0<=x%(2 ^ (n+1):Int):=Int.emod_nonneg _ (by omega)
 have:((x%((2 ^ (n+1):Nat):Int)).toNat%2:Nat)=((x%(2 ^ (n+1):Int))%2:Int):=by
  have e2:((2 ^ (n+1):Nat):Int)=(2 ^ (n+1):Int):=by simp
  rw[e2]
  omega
 rw[this,e,Int.emod_emod_of_dvd _ ⟨2 ^ n,rfl⟩]
theorem kM{k:IntKind}{x n:Int}(hn:x%2=n):mF .and k x 1 n:=by
 intro P t w
 have hw:k.wrap n=n:=oF (by
  have h0:0<=n:=by omega
  have h1:n<=1:=by omega
  obtain⟨m,rfl⟩ : ∃m:Nat,n=m:=⟨n.toNat,by omega⟩
  show Nat.ble m (kmax k)=true
  rw[qbr]
  cases k<;>simp only[kmax]<;>omega)
 have hb:=bits_one (k:=k) x
 simp only[binOp,ne_eq,not_true_eq_false,if_false,Op.intBits]
 show Result.ok (Value.int k (k.wrap _)) w=_
 rw[hb,hn,hw]
end
end Go.Am

/-
 THE EXECUTOR IS SOUND: instructions that give a value.
-/
namespace Go.Am
section
variable [Val] {ρ:List Int}
structure Rep(pts:List Nat)(nt:Nat)(tm:TV)(lc:TL)(σ:St):Prop where
 len:σ.tmps.length=nt
 val:∀(i:Nat) v,σ.tmps[i]? = some v->(bc i).get undef tm=v
 llen:pts≠[]->σ.loc.length=nt
 loc:∀(i:Nat) x,σ.loc[i]? = some x->(bc i).get none lc=x
def ValStep(C:Cfg)(pts:List Nat)(σ:St)(o:Oper)(v:Value):Prop:=
 (∃e,ai C pts (oval σ.tmps) o=some e/\aB σ e=some (σ,v))∨fK C σ.tmps o v
theorem ValStep.val{C:Cfg}{pts:List Nat}{σ:St}{o:Oper}{v:Value}(h:ai C pts (oval σ.tmps) o=some (.val v)):ValStep C pts σ o v:=.inl ⟨_,h,rfl⟩
theorem kW(k:IntKind)(x:Int):k.wrap (x%(2 ^ k.bits:Int))=k.wrap x:=by
 unfold IntKind.wrap
 rw[Int.emod_emod_of_dvd _ (Int.dvd_refl _)]
theorem qj{k:IntKind}(m n:Nat):mF .and k m n (k.wrap (Nat.land m n:Nat)):=by
 intro P t w
 simp only[binOp,ne_eq,not_true_eq_false,if_false,Op.intBits]
 show Result.ok (Value.int k (k.wrap _)) w=_
 rw[←kW k (Nat.land m n:Nat)]
 congr 3
 have h2:∀x:Nat,(BitVec.ofInt k.bits (x:Int)).toNat=x%2 ^ k.bits:=λx=>by
  rw[BitVec.toNat_ofInt]
  have:((x:Int)%((2 ^ k.bits:Nat):Int))=((x%2 ^ k.bits:Nat):Int):=by simp
  rw[this,qcG]
 have h3:(BitVec.ofInt k.bits (m:Int) &&& BitVec.ofInt k.bits (n:Int)).toNat=(m &&& n)%2 ^ k.bits:=by
  rw[BitVec.toNat_and,h2,h2,Nat.and_mod_two_pow]
 rw[h3]
 simp
theorem qm{k:IntKind}(m n:Nat):mF .xor k m n (k.wrap (Nat.xor m n:Nat)):=by
 intro P t w
 simp only[binOp,ne_eq,not_true_eq_false,if_false,Op.intBits]
 show Result.ok (Value.int k (k.wrap _)) w=_
 rw[←kW k (Nat.xor m n:Nat)]
 congr 3
 have h2:∀x:Nat,(BitVec.ofInt k.bits (x:Int)).toNat=x%2 ^ k.bits:=λx=>by
  rw[BitVec.toNat_ofInt]
  have:((x:Int)%((2 ^ k.bits:Nat):Int))=((x%2 ^ k.bits:Nat):Int):=by simp
  rw[this,qcG]
 have h3:(BitVec.ofInt k.bits (m:Int) ^^^ BitVec.ofInt k.bits (n:Int)).toNat=(m ^^^ n)%2 ^ k.bits:=by
  rw[BitVec.toNat_xor,h2,h2,Nat.xor_mod_two_pow]
 rw[h3]
 simp
theorem sM{k:IntKind}(m n:Nat):mF .or k m n (k.wrap (Nat.lor m n:Nat)):=by
 intro P t w
 simp only[binOp,ne_eq,not_true_eq_false,if_false,Op.intBits]
 show Result.ok (Value.int k (k.wrap _)) w=_
 rw[←kW k (Nat.lor m n:Nat)]
 congr 3
 have h2:∀x:Nat,(BitVec.ofInt k.bits (x:Int)).toNat=x%2 ^ k.bits:=λx=>by
  rw[BitVec.toNat_ofInt]
  have:((x:Int)%((2 ^ k.bits:Nat):Int))=((x%2 ^ k.bits:Nat):Int):=by simp
  rw[this,qcG]
 have h3:(BitVec.ofInt k.bits (m:Int) ||| BitVec.ofInt k.bits (n:Int)).toNat=(m ||| n)%2 ^ k.bits:=by
  rw[BitVec.toNat_or,h2,h2,Nat.or_mod_two_pow]
 rw[h3]
 simp
end
end Go.Am

/-
 WHEN AN ALGEBRA TELLS THE TRUTH;what an environment says of a state.
-/
namespace Go.Am
section
variable {R:Type}
theorem setK_eq{α:Type}(x:α):∀(l:List α) (i:Nat) (k:List α->R),setK x l i k=k (l.set i x)
 | [],_,_=>rfl
 |_ :: _,0,_=>rfl
 |a :: l,i+1,k=>setK_eq x l i λl=>k (a :: l)
theorem pU(n:Nat)(K:Nat->R):nd n K=K n:=by cases n<;>rfl
end
def SL.good:SL->Prop
 | .v x=>bk x=true
 |_=>True
def S0.good(x:S0):Prop:=∀l∈x.cells,l.good
def SV.gd:SV->Prop
 | .st x=>x.good
 | .tup xs=>(∀x∈xs,x.good)/\2<=xs.length
 | .no=>False
 |_=>True
theorem cO{x:Value}:bk x=true↔noLoc x=true/\aR x=true/\aQ x=true/\az x=false:=by
 unfold bk
 cases noLoc x<;>cases aR x<;>cases aQ x<;>cases az x<;>simp
theorem lO{x:Value}(h:bk x=true):aA x=true:=by
 obtain⟨h1,_,h2,_⟩:=cO.1 h
 simp[aA,h1,h2]
theorem pW{x:Value}(h:bk x=true):x.cells = #[x]:=cR (cO.1 h).2.2.1
theorem SL.val_good{l:SL}(h:l.good):bk l.val=true:=by
 cases l with
 |v x=>exact h
 |_=>rfl
theorem S0.cells_val{x:S0}(h:x.good):x.val.cells=⟨x.cells.map SL.val⟩:=by
 cases x with
 |leaf l=>exact pW (SL.val_good (h l (by simp[S0.cells])))
 |agg cs=>rfl
theorem S0.noLoc{x:S0}(h:x.good):noLoc x.val=true:=by
 cases x with
 |leaf l=>exact(cO.1 (SL.val_good (h l (by simp[S0.cells])))).1
 |agg cs=>
  simp only[S0.val,Am.noLoc,qad,qaI]
  rintro _ ⟨l,hl,rfl⟩
  exact(cO.1 (SL.val_good (h l hl))).2.1
theorem S0.not_tuple{x:S0}(h:x.good):az x.val=false:=by
 cases x with
 |leaf l=>exact(cO.1 (SL.val_good (h l (by simp[S0.cells])))).2.2.2
 |agg cs=>rfl
theorem S0.cells_ok{x:S0}(h:x.good):x.val.cells.toList.all aA=true:=by
 rw[S0.cells_val h]
 simp only[qad,qaI]
 rintro _ ⟨l,hl,rfl⟩
 exact lO (SL.val_good (h l hl))
theorem cells_ok'{cs:List SL}(h:∀l∈cs,l.good):(cs.map SL.val).all aA=true:=by
 simp only[qad,qaI]
 rintro _ ⟨l,hl,rfl⟩
 exact lO (SL.val_good (h l hl))
theorem qn{v:Value}(h:scalar v=true):bk v=true:=by
 cases v<;>first|rfl|(simp[scalar]at h;done)|skip
 case pointer a=>cases a<;>first|rfl|simp[scalar]at h
 case slice a l c=>
  cases a with
  |none=>rfl
  |some a=>cases l<;>cases c<;>simp[scalar]at h
theorem nO(v:Value):(slOf v).val=v:=by cases v<;>rfl
theorem kQ{v:Value}(h:scalar v=true):(slOf v).good:=by
 cases v<;>first|trivial|exact qn h
theorem nK{v:Value}{x:S0}(h:s0Of v=some x):x.val=v/\x.good/\dA v=true:=by
 unfold s0Of at h
 split at h
 ·rename_i cs
  split at h
  ·rename_i ha
   cases h
   refine⟨?_,?_,ha⟩
   ·simp only[S0.val,qcL,Value.agg.injEq]
    have:(SL.val ∘ slOf)=id:=funext nO
    rw[this,List.map_id]
   ·intro l hl
    simp only[S0.cells,qaI]at hl
    obtain⟨v,hv,rfl⟩:=hl
    exact kQ (qad.1 ha v hv)
  ·cases h
 ·rename_i hne
  split at h
  ·rename_i hs
   cases h
   refine⟨nO v,?_,?_⟩
   ·intro l hl
    simp only[S0.cells,qat]at hl
    subst hl
    exact kQ hs
   ·cases v<;>first|exact hs|exact absurd rfl (hne _)
  ·cases h
theorem cA{a b:IntKind}(h:dX a b=true):a=b:=by
 cases a<;>cases b<;>first|rfl|cases h
theorem cC(a:IntKind):dX a a=true:=by cases a<;>rfl
section
variable [Val] [Kno]
def Told(sks:List SK)(ls:List Lf)(xs:List S0):Prop:=bD xs sks=true/\bH xs=ls/\∀x∈xs,x.good
def bG(C:Cfg)(Sg:FuncId->Option Sig)(g:FuncId)(ls:List Lf)(H:List HObj)(rs:List Lf)(H':List HObj):Prop:=
 ∃sg xs ys,Sg g=some sg/\Told sg.ps ls xs/\Told sg.rs rs ys/\fD C g (af xs) H (dZ (af ys)) H'
def rS(C:Cfg)(v:Value)(args:List Value)(hs:List SK)(H:List HObj)(rs:List Lf)(H':List HObj):Prop:=
 ∃ys,Told hs rs ys/\((∃g first cap,v = .func (.func g) first cap/\fD C g (first.toList++args++cap.toList) H (dZ (af ys)) H')∨
  (∃l,v = .func (.yield l) #[] #[]/\gN C l args H (dZ (af ys)) H'))
def ll(nt:Nat):List (Nat×SK)->List Value->List Value->List Value
 |(t,_) :: l,v :: vs,tm=>ll nt l vs (tm.set t v)
 |_,_,tm=>tm
def lpOf(s:Site)(κ:Nat)(vals:List Value):ALoop:=
 { state:=.ready,pending:=none,fn:=κ,tmps:=ll s.nt s.caps vals (List.replicate s.nt poison),params:=s.params.map (·.1),assign:=s.assign.erase mb,body:=s.body.erase mb }
def gp:Lf->Lf->Bool
 | .i a,.i b=>a==b
 | .b a,.b b=>a==b
 |_,_=>false
def cb(l:List (Lf×Lf)):Bool:=l.all λp=>gp p.1 p.2
def ShRun(op:BinOp)(k:IntKind)(x:Int)(k':IntKind)(y n:Int):Prop:=∀(P:Program) (t:TypeId) (w:World),(binOp op t (.int k x) (.int k' y)).run P w = .ok (.int k n) w
structure AlgOk{R HT:Type}(A:Alg R HT)(C:Cfg)(Sg:FuncId->Option Sig)(T:Nat->Site)(holds:R->Prop)(abs:HT->List HObj):Prop where
 fail:¬holds A.fail
 cond:∀b x y,holds (A.cond b x y)->(b=true/\holds x)∨(b=false/\holds y)
 ari:∀op k a b K,holds (A.ari op k a b K)->∃n,mF op k a b n/\holds (K n)
 shf:∀op k a k' b K,holds (A.shf op k a k' b K)->∃n,ShRun op k a k' b n/\holds (K n)
 cmp:∀op a b K,holds (A.cmp op a b K)->∃t,lF op a b=some t/\holds (K t)
 eqs:∀l K,holds (A.eqs l K)->holds (K (cb l))
 conv:∀k a K,holds (A.conv k a K)->holds (K (k.wrap a))
 sel:∀t a b K,holds (A.sel t a b K)->holds (K (if t then a else b))
 opt:∀ {α:Type} (o:Option α) K,holds (A.opt o K)->∃x,o=some x/\holds (K x)
 chk:∀v K,holds (A.chk v K)->bk v=true/\holds K
 unI:∀ls K,holds (A.unI ls K)->∃n r,ls = .i n :: r/\holds (K n r)
 unB:∀ls K,holds (A.unB ls K)->∃t r,ls = .b t :: r/\holds (K t r)
 unV:∀ls K,holds (A.unV ls K)->∃x r,ls = .v x :: r/\holds (K x r)
 un0:∀ls K,holds (A.un0 ls K)->ls=[]/\holds K
 ucI:∀k ls K,holds (A.ucI k ls K)->∃n r,ls = .int k n :: r/\holds (K n r)
 ucB:∀ls K,holds (A.ucB ls K)->∃t r,ls = .bool t :: r/\holds (K t r)
 ucV:∀ls K,holds (A.ucV ls K)->∃x r,ls=x :: r/\holds (K x r)
 uc0:∀ls K,holds (A.uc0 ls K)->ls=[]/\holds K
 peek:∀f h K,holds (A.peek f h K)->∃cs,f.run (λi=>(abs h)[i]?)=some cs/\holds (K cs)
 heap:∀f h K,holds (A.heap f h K)->∃acts cs h',f.run (λi=>(abs h)[i]?) (abs h).length=some (acts,cs)/\abs h'=eF (abs h) acts/\holds (K cs h')
 new:∀o h K,holds (A.new o h K)->∃h',abs h'=abs h++[o]/\holds (K (abs h).length h')
 call:∀g ls h K,holds (A.call g ls h K)->∃rs h',bG C Sg g ls (abs h) rs (abs h')/\holds (K rs h')
 callv:∀v args hs h K,holds (A.callv v args hs h K)->∃rs h',rS C v args hs (abs h) rs (abs h')/\holds (K rs h')
 join:∀b m,holds (A.join b m)->holds (m b)
 loop:∀F ls h,holds (A.loop F ls h)->∃it:Nat->List Lf->HT->R,(∀ls h,¬holds (it 0 ls h))/\(∀n ls h,it (n+1) ls h=F (it n) ls h)/\∃n,holds (it n ls h)
 rfun:∀κ v vals h K,holds (A.rfun κ v vals h K)->∃g first cap r H1 lp h2,v = .func (.func g) first cap/\
  fD C g (first.toList++[.func (.yield (abs h).length) #[] #[]]++cap.toList) (abs h++[.loop (lpOf (T κ) κ vals)]) r H1/\
  cW H1 (abs h).length=some lp/\lp.state≠.busy/\abs h2=H1.set (abs h).length (.loop { lp with state:=.exhausted })/\holds (K lp.pending h2)
 pend:∀pd kn kr ks,holds (A.pend pd kn kr ks)->(pd=none/\holds kn)∨(pd=some .ret/\holds kr)∨∃id x,pd=some (.exit id)/\(id,x)∈ks/\holds x
 lp1:∀l h K,holds (A.lp1 l h K)->∃lp h',cW (abs h) l=some lp/\lp.state = .ready/\abs h'=(abs h).set l (.loop { lp with state:=.busy })/\holds (K h')
 lp2:∀l j h K,holds (A.lp2 l j h K)->∃lp h',cW (abs h) l=some lp/\abs h'=(abs h).set l (.loop { lp with state:=if j.isNone then .ready else .done,pending:=j })/\holds (K h')
def SV.ok(tmps:List Value)(i:Nat)(s:SV):Prop:=
 match s with
 | .no=>True
 |s=>tmps[i]? = some s.val/\s.gd
def LR.ok(loc:List (Option (List Value)))(i:Nat):LR->Prop
 | .unk=>True
 | .nil=>loc[i]? = some none
 | .any n=>∃vs,loc[i]? = some (some vs)/\vs.length=n
 | .row cs=>loc[i]? = some (some (cs.map SL.val))/\∀c∈cs,c.good
structure Rp(ev:Env)(σ:St):Prop where
 len:ev.tm.length=σ.tmps.length
 val:∀(i:Nat) s,ev.tm[i]? = some s->s.ok σ.tmps i
 llen:ev.lc.length=σ.loc.length
 row:∀(i:Nat) r,ev.lc[i]? = some r->r.ok σ.loc i
theorem SV.ok_gd{tmps:List Value}{i:Nat}{s:SV}(h:s.gd)(hv:tmps[i]? = some s.val):s.ok tmps i:=by
 cases s<;>first|trivial|exact⟨hv,h⟩
theorem Rp.at{ev:Env}{σ:St}(h:Rp ev σ){t:Nat}{s:SV}(hs:ev.tm.getD t .no=s)(hn:s≠.no):σ.tmps[t]? = some s.val/\s.gd:=by
 rw[List.getD_eq_getElem?_getD]at hs
 cases he:ev.tm[t]? with
 |none=>rw[he]at hs;exact absurd hs.symm hn
 |some x=>
  rw[he]at hs
  simp only[qa8]at hs
  subst hs
  have:=h.val t x he
  cases x<;>first|exact this|exact absurd rfl hn
theorem Rp.sval{ev:Env}{σ:St}(h:Rp ev σ){x:Operand}{s:SV}(hs:sval ev x=s)(hn:s≠.no):oval σ.tmps x=s.val/\s.gd:=by
 cases x with
 |tmp t=>
  obtain⟨h1,h2⟩:=h.at (t:=t) hs hn
  exact⟨by simp[oval,List.getD_eq_getElem?_getD,h1],h2⟩
 |const v=>
  simp only[Am.sval]at hs
  cases hv:s0Of v with
  |none=>rw[hv]at hs;exact absurd hs.symm hn
  |some x=>
   rw[hv]at hs
   subst hs
   obtain⟨h1,h2,h3⟩:=nK hv
   refine⟨?_,h2⟩
   have:flat v=true:=by cases v<;>first|exact h3|(simp[dA,scalar]at h3)
   simp[oval,this,SV.val,h1]
 |global g=>
  subst hs
  simp only[Am.sval,oval]
  cases hb:Nat.blt g gB with
  |true=>exact⟨rfl,trivial⟩
  |false=>exact absurd (by simp only[Am.sval,hb]) hn
 |func f=>
  subst hs
  refine⟨rfl,λl hl=>?_⟩
  simp only[S0.cells,qat]at hl
  subst hl
  rfl
theorem Rp.sval0{ev:Env}{σ:St}(h:Rp ev σ){x:Operand}{s:S0}(hs:sval0 ev x=some s):oval σ.tmps x=s.val/\s.good:=by
 unfold Am.sval0 at hs
 split at hs
 ·rename_i y e
  cases hs
  exact h.sval e (by simp)
 ·cases hs
theorem Rp.svals{ev:Env}{σ:St}(h:Rp ev σ):∀ {l:List Operand} {xs:List S0},svals ev l=some xs->l.map (oval σ.tmps)=af xs/\∀x∈xs,x.good
 | [],xs,hs=>by cases hs;exact⟨rfl,by simp⟩
 |o :: l,xs,hs=>by
  simp only[Am.svals]at hs
  split at hs
  ·rename_i x ys e1 e2
   cases hs
   obtain⟨h1,h2⟩:=h.sval0 e1
   obtain⟨h3,h4⟩:=h.svals e2
   refine⟨by simp[af,h1];exact h3,λy hy=>?_⟩
   rcases qao.1 hy with rfl|hy
   ·exact h2
   ·exact h4 y hy
  ·cases hs
theorem Rp.put{ev:Env}{σ:St}(h:Rp ev σ)(d:Nat){s:SV}(hs:s.gd):Rp ⟨ev.tm.set d s,ev.lc⟩ (σ.put (some d) s.val):=by
 refine⟨by simp[St.put,h.len],λi x hx=>?_,h.llen,h.row⟩
 simp only[qaD]at hx
 split at hx
 ·rename_i hi
  subst hi
  split at hx
  ·rename_i hlt
   cases hx
   refine SV.ok_gd hs ?_
   simp only[St.put,List.getElem?_set_self']
   rw[qaj (by rw[←h.len];exact hlt)]
   rfl
  ·cases hx
 ·rename_i hi
  have:=h.val i x hx
  cases x<;>first|trivial|exact⟨by simp only[St.put];rw[qaE hi];exact this.1,this.2⟩
theorem Rp.heap{ev:Env}{σ:St}(h:Rp ev σ)(H:List HObj):Rp ev { σ with heap:=H }:=⟨h.len,h.val,h.llen,h.row⟩
structure Fr(ws ks rs:List Nat)(σ σ':St):Prop where
 tlen:σ'.tmps.length=σ.tmps.length
 llen:σ'.loc.length=σ.loc.length
 tm:∀(i:Nat) v,σ.tmps[i]? = some v->i∉ws->noLoc v=true->σ'.tmps[i]? = some v
 tp:∀(i s off:Nat),σ.tmps[i]? = some (.pointer (some ⟨s,off,some 0⟩))->i∉ws->s∉ks->σ'.tmps[i]? = some (.pointer (some ⟨s,off,some 0⟩))
 row:∀(s:Nat) x,σ.loc[s]? = some x->s∉rs->σ'.loc[s]? = some x
 rlen:∀(s:Nat) vs,σ.loc[s]? = some (some vs)->s∉ks->∃vs',σ'.loc[s]? = some (some vs')/\vs'.length=vs.length
theorem Fr.refl(ws ks rs:List Nat)(σ:St):Fr ws ks rs σ σ:=⟨rfl,rfl,λ_ _ h _ _=>h,λ_ _ _ h _ _=>h,λ_ _ h _=>h,λ_ vs h _=>⟨vs,h,rfl⟩⟩
theorem Fr.trans{ws ks rs:List Nat}{σ σ₁ σ':St}(h:Fr ws ks rs σ σ₁)(h':Fr ws ks rs σ₁ σ'):Fr ws ks rs σ σ':=
 ⟨h'.tlen.trans h.tlen,h'.llen.trans h.llen,λi v a b c=>h'.tm i v (h.tm i v a b c) b c,λi s off a b c=>h'.tp i s off (h.tp i s off a b c) b c,
  λs x a b=>h'.row s x (h.row s x a b) b,λs vs a b=>let ⟨v1,c1,d1⟩:=h.rlen s vs a b;let ⟨v2,c2,d2⟩:=h'.rlen s v1 c1 b;⟨v2,c2,d2.trans d1⟩⟩
theorem Fr.mono{ws ks rs ws' ks' rs':List Nat}{σ σ':St}(h:Fr ws ks rs σ σ')(h1:∀i∈ws,i∈ws')(h2:∀i∈ks,i∈ks')(h3:∀i∈rs,i∈rs'):Fr ws' ks' rs' σ σ':=
 ⟨h.tlen,h.llen,λi v a b c=>h.tm i v a (λhi=>b (h1 i hi)) c,λi s off a b c=>h.tp i s off a (λhi=>b (h1 i hi)) (λhi=>c (h2 s hi)),
  λs x a b=>h.row s x a (λhi=>b (h3 s hi)),λs vs a b=>h.rlen s vs a (λhi=>b (h2 s hi))⟩
theorem Fr.heap{ws ks rs:List Nat}{σ σ':St}(h:Fr ws ks rs σ σ')(H:List HObj):Fr ws ks rs σ { σ' with heap:=H }:=⟨h.tlen,h.llen,h.tm,h.tp,h.row,h.rlen⟩
theorem Fr.put{σ:St}(dst:Option Tmp)(v:Value)(ks rs:List Nat):Fr dst.toList ks rs σ (σ.put dst v):=by
 cases dst with
 |none=>exact .refl _ _ _ _
 |some d=>
  refine⟨by simp[St.put],rfl,λi x h hi _=>?_,λi s off h hi _=>?_,λ_ _ h _=>h,λ_ vs h _=>⟨vs,h,rfl⟩⟩<;>
  ·simp only[Option.toList_some,qat]at hi
   simp only[St.put]
   rw[qaE (λe=>hi e.symm)]
   exact h
end
end Go.Am

/-
 HEAPS AS TREES: what lies at a number is found,and put,in few steps;lists that are forced.
-/
namespace Go.Am
inductive HO where
 |o (x:HObj)
 |lp (κ:Nat) (st:LoopState) (pd:Option Code) (vs:List Value)
abbrev HL:=List HO
inductive CK where
 |f (g:FuncId)
 |y (κ:Nat) (vs:List Value) (l:Nat)
def absO(T:Nat->Site):HO->HObj
 | .o x=>x
 | .lp κ st pd vs=>.loop { lpOf (T κ) κ vs with state:=st,pending:=pd }
def absH(T:Nat->Site)(h:HL):List HObj:=h.map (absO T)
namespace Sx
inductive HOT where
 |o (x:HObj)
 |lp (κ:Nat) (st:LoopState) (pd:Option Code) (vs:List Value)
 |t (n e:Nat) (rw:Bool) (c:Tr Value)
def nilV:Value:=.bool false
def bB(c:Tr Value)(n:Nat):List Value:=(List.range n).map λi=>(bc i).get nilV c
def HOT.ho:HOT->HO
 | .o x=>.o x
 | .lp κ st pd vs=>.lp κ st pd vs
 | .t n e rw c=>.o (.cells (bB c n) e rw)
structure HTr where
 n:Nat
 t:Tr HOT
def noO:HOT:=.o .dead
def HTr.empty:HTr:=⟨0,.leaf⟩
def HTr.at(h:HTr)(i:Nat):Option HOT:=match Nat.blt i h.n with
 |true=>some ((bc i).get noO h.t)
 |false=>none
def toL(h:HTr):HL:=(List.range h.n).map λi=>((bc i).get noO h.t).ho
theorem eD(h:HTr):(toL h).length=h.n:=by simp[toL]
theorem iy(h:HTr)(i:Nat):(toL h)[i]? = (h.at i).map HOT.ho:=by
 unfold toL HTr.at
 rw[qaF]
 cases e:Nat.blt i h.n with
 |true=>
  rw[qaN]at e
  rw[qcr e];rfl
 |false=>
  have:h.n<=i:=by
   rcases qaz i h.n with h1|h1
   ·rw[←qaN,e]at h1;cases h1
   ·exact h1
  rw[qaf (by simpa using this)];rfl
def HTr.put(h:HTr)(i:Nat)(o:HOT):HTr:=match Nat.blt i h.n with
 |true=>⟨h.n,(bc i).set noO h.t o⟩
 |false=>h
def HTr.push(h:HTr)(o:HOT):HTr:=⟨h.n+1,(bc h.n).set noO h.t o⟩
theorem fj(h:HTr)(i:Nat)(o:HOT):toL (h.put i o)=(toL h).set i o.ho:=by
 apply qaV
 intro j
 unfold HTr.put
 cases e:Nat.blt i h.n with
 |true=>
  rw[qaN]at e
  simp only
  rw[iy]
  by_cases hj:i=j
  ·subst hj
   rw[qbf (by rw[eD];exact e)]
   unfold HTr.at
   simp only[(qaN▸e:Nat.blt i h.n=true)]
   rw[Pth.get_set];rfl
  ·rw[qaE hj,iy]
   unfold HTr.at
   simp only
   rw[Pth.get_set_ne _ _ _ _ _ (λh=>hj (ij h).symm)]
 |false=>
  simp only
  have:h.n<=i:=by
   rcases qaz i h.n with h1|h1
   ·rw[←qaN,e]at h1;cases h1
   ·exact h1
  rw[List.set_eq_of_length_le (by rw[eD];exact this)]
theorem fz(h:HTr)(o:HOT):toL (h.push o)=toL h++[o.ho]:=by
 apply qaV
 intro j
 rw[iy]
 unfold HTr.push HTr.at
 simp only
 by_cases h1:j<h.n
 ·rw[qag (by rw[eD];exact h1),iy]
  unfold HTr.at
  have e1:Nat.blt j (h.n+1)=true:=by rw[qaN];omega
  have e2:Nat.blt j h.n=true:=by rw[qaN];omega
  simp only[e1,e2]
  rw[Pth.get_set_ne _ _ _ _ _ (λh=>by have:=ij h;omega)]
 ·rw[qak (by rw[eD];omega),eD]
  by_cases h2:j=h.n
  ·subst h2
   have e1:Nat.blt h.n (h.n+1)=true:=by rw[qaN];omega
   simp only[e1,qbA,qa1]
   rw[Pth.get_set];rfl
  ·have e1:Nat.blt j (h.n+1)=false:=by rw[←qaY,qaN];omega
   simp only[e1]
   rw[qaf (by simp;omega)];rfl
theorem aK(c:Tr Value)(n:Nat):(bB c n).length=n:=by simp[bB]
theorem dd(c:Tr Value){n i:Nat}(h:i<n):(bB c n)[i]? = some ((bc i).get nilV c):=by
 unfold bB
 rw[qaF,qcr h];rfl
def insT:List Value->Nat->Tr Value->Tr Value
 | [],_,c=>c
 |v :: l,i,c=>insT l (i+1) ((bc i).set nilV c v)
theorem nj:∀(l:List Value) (i:Nat) (c:Tr Value) (j:Nat),(bc j).get nilV (insT l i c)=if i<=j/\j<i+l.length then l[j - i]?.getD nilV else(bc j).get nilV c
 | [],i,c,j=>by
  have h:¬(i<=j/\j<i+([]:List Value).length):=by intro h;have:=h.2;simp at this;omega
  rw[if_neg h];rfl
 |v :: l,i,c,j=>by
  show(bc j).get nilV (insT l (i+1) _)=_
  rw[nj l (i+1)]
  by_cases h:i+1<=j/\j<i+1+l.length
  ·rw[if_pos h,if_pos (by simp;omega)]
   have:j - i=(j - (i+1))+1:=by omega
   rw[this,qbR]
  ·rw[if_neg h]
   by_cases h2:j=i
   ·subst h2
    rw[Pth.get_set,if_pos (by simp)];simp
   ·rw[Pth.get_set_ne _ _ _ _ _ (λe=>h2 (ij e)),if_neg (by simp;omega)]
theorem lC{l:List Value}{i n:Nat}{c:Tr Value}(h:i+l.length<=n):bB (insT l i c) n=(bB c n).take i++l++(bB c n).drop (i+l.length):=by
 apply qaV
 intro j
 by_cases hj:j<n
 ·rw[dd _ hj,nj]
  by_cases h1:j<i
  ·rw[if_neg (by omega),qay,qag (by rw[qbo,aK];omega),List.getElem?_take_of_lt h1,dd _ hj]
  ·have hl:((bB c n).take i).length=i:=by rw[qbo,aK];omega
   by_cases h2:j<i+l.length
   ·rw[if_pos ⟨by omega,h2⟩,qay,qak (by omega),hl,qag (by omega)]
    rw[qaj (by omega)];rfl
   ·rw[if_neg (by omega),qak (by rw[qaw,hl];omega),qaw,hl,qaZ,show i+l.length+(j - (i+l.length))=j by omega,dd _ hj]
 ·rw[qaf (by rw[aK];omega),qaf (by simp[aK];omega)]
theorem jD{l:List Value}{n:Nat}{c:Tr Value}:bB (insT l n c) (n+l.length)=bB c n++l:=by
 apply qaV
 intro j
 by_cases hj:j<n+l.length
 ·rw[dd _ hj,nj]
  by_cases h1:j<n
  ·rw[if_neg (by omega),qag (by rw[aK];exact h1),dd _ h1]
  ·rw[if_pos ⟨by omega,hj⟩,qak (by rw[aK];omega),aK,qaj (by omega)];rfl
 ·rw[qaf (by rw[aK];omega),qaf (by simp[aK];omega)]
theorem rY(l:List Value):bB (insT l 0 .leaf) l.length=l:=by
 have:=jD (l:=l) (n:=0) (c:=.leaf)
 simpa[bB]using this
def sF(c:Tr Value)(n:Nat):Nat->List Value:=Nat.rec (motive:=λ_=>Nat->List Value) (λ_=>[]) (λ_ ih off=>(bc off).get nilV c :: fN (Nat.succ off) ih) n
theorem gI(c:Tr Value):∀(n off m:Nat),off+n<=m->sF c n off=((bB c m).drop off).take n
 |0,_,_,_=>by rw[qcV];rfl
 |n+1,off,m,h=>by
  show(bc off).get nilV c :: sF c n (off+1)=_
  rw[gI c n (off+1) m (by omega)]
  have h1:off<(bB c m).length:=by rw[aK];omega
  rw[qaq h1,qca]
  congr 1
  have:=dd c (n:=m) (i:=off) (by omega)
  rw[qaj h1]at this
  exact(qai this).symm
section
variable {R:Type}
def putR{α:Type}(d:α)(p:Pth):Tr α->α->(Tr α->R)->R:=
 Pth.rec (motive:=λ_=>Tr α->α->(Tr α->R)->R)
  (λt x k=>Tr.casesOn t (k (.node x .leaf .leaf)) λ_ l r=>k (.node x l r))
  (λ_ ih t x k=>Tr.casesOn t (ih .leaf x λl=>k (.node d l .leaf)) λv l r=>ih l x λl=>k (.node v l r))
  (λ_ ih t x k=>Tr.casesOn t (ih .leaf x λr=>k (.node d .leaf r)) λv l r=>ih r x λr=>k (.node v l r)) p
theorem fX{α:Type}(d:α):∀(p:Pth) (t:Tr α) (x:α) (k:Tr α->R),putR d p t x k=k (p.set d t x)
 | .e,t,x,k=>by cases t<;>rfl
 | .o p,t,x,k=>by
  cases t with
  |leaf=>exact fX d p .leaf x _
  |node v l r=>exact fX d p l x _
 | .i p,t,x,k=>by
  cases t with
  |leaf=>exact fX d p .leaf x _
  |node v l r=>exact fX d p r x _
def putK(h:HTr)(i:Nat)(o:HOT)(k:HTr->R):R:=match Nat.blt i h.n with
 |true=>putR noO (bc i) h.t o λt=>k ⟨h.n,t⟩
 |false=>k h
def il(h:HTr)(o:HOT)(k:HTr->R):R:=putR noO (bc h.n) h.t o λt=>fN (Nat.succ h.n) λn=>k ⟨n,t⟩
theorem fe(h:HTr)(i:Nat)(o:HOT)(k:HTr->R):putK h i o k=k (h.put i o):=by
 unfold putK HTr.put
 split
 ·rename_i e;rw[fX]
 ·rfl
theorem fq(h:HTr)(o:HOT)(k:HTr->R):il h o k=k (h.push o):=by
 unfold il HTr.push
 rw[fX,fS]
def ru{α:Type}(l:List α):(List α->R)->R:=
 List.rec (motive:=λ_=>(List α->R)->R) (λk=>k []) (λx _ ih k=>ih λl=>k (x :: l)) l
theorem kE{α:Type}:∀(l:List α) (k:List α->R),ru l k=k l
 | [],_=>rfl
 |x :: l,k=>kE l λl=>k (x :: l)
def rx(v:Value)(k:Value->R):R:=match v with
 | .int kd n=>fI n λn=>k (.int kd n)
 | .bool b=>Bool.rec (k (.bool false)) (k (.bool true)) b
 |v=>k v
theorem plainV_eq(v:Value)(k:Value->R):rx v k=k v:=by
 unfold rx
 split
 ·exact gW _ _
 ·rename_i b;cases b<;>rfl
 ·rfl
def insK(l:List Value):Nat->Tr Value->(Tr Value->R)->R:=
 List.rec (motive:=λ_=>Nat->Tr Value->(Tr Value->R)->R) (λ_ c k=>k c) (λv _ ih i c k=>rx v λv=>putR nilV (bc i) c v λc=>fN (Nat.succ i) λi=>ih i c k) l
theorem jY:∀(l:List Value) (i:Nat) (c:Tr Value) (k:Tr Value->R),insK l i c k=k (insT l i c)
 | [],_,_,_=>rfl
 |v :: l,i,c,k=>by
  show(rx v λv=>putR nilV (bc i) c v λc=>fN (Nat.succ i) λi=>insK l i c k)=_
  rw[plainV_eq,fX,fS,jY l];rfl
def oO(o:HObj)(k:HOT->R):R:=match o with
 | .cells vs e rw=>fN vs.length λn=>insK vs 0 .leaf λc=>k (.t n e rw c)
 | .map es c=>ru es λes=>fN c λc=>k (.o (.map es c))
 |o=>k (.o o)
theorem gz{o:HObj}{k:HOT->R}:∃x:HOT,x.ho = .o o/\oO o k=k x:=by
 cases o with
 |cells vs e rw=>
  refine⟨.t vs.length e rw (insT vs 0 .leaf),by simp only[HOT.ho,rY],?_⟩
  show(fN vs.length λn=>insK vs 0 .leaf λc=>k (.t n e rw c))=_
  rw[fS,jY]
 |map es c=>
  refine⟨.o (.map es c),rfl,?_⟩
  show(ru es λes=>fN c λc=>k (.o (.map es c)))=_
  rw[kE,fS]
 |_=>exact⟨.o _,rfl,rfl⟩
def nE(l:List Lf):(List Lf->R)->R:=
 List.rec (motive:=λ_=>(List Lf->R)->R) (λk=>k []) (λx _ ih k=>match x with
  | .i n=>fI n λn=>ih λl=>k (.i n :: l)
  | .b t=>Bool.rec (ih λl=>k (.b false :: l)) (ih λl=>k (.b true :: l)) t
  | .v v=>ih λl=>k (.v v :: l)) l
theorem df:∀(l:List Lf) (k:List Lf->R),nE l k=k l
 | [],_=>rfl
 | .i n :: l,k=>(gW n λn=>nE l λl=>k (.i n :: l)).trans (df l _)
 | .b true :: l,k=>df l λl=>k (.b true :: l)
 | .b false :: l,k=>df l λl=>k (.b false :: l)
 | .v v :: l,k=>df l λl=>k (.v v :: l)
end
end Sx
end Go.Am

/-
 THE ALGEBRA OF RUNS: a run that the kernel makes.
-/
namespace Go.Am
section
open Sx
abbrev RT:=Option (List Lf)
abbrev yes:RT:=some []
abbrev aa:=CK->List Lf->HTr->(List Lf->HTr->RT)->RT
def Act1.onH(h:HL):Act1->HL
 | .set i o=>h.set i (.o o)
 | .push o=>h++[.o o]
def bO(h:HL)(l:List Act1):HL:=l.foldl Act1.onH h
def getH(T:Nat->Site)(h:HL):bz:=λi=>match h[i]? with
 |some x=>some (absO T x)
 |none=>none
def getT(T:Nat->Site)(h:HTr):bz:=λi=>match h.at i with
 |some x=>some (absO T x.ho)
 |none=>none
def rT(l:List Act1):HTr->(HTr->RT)->RT:=
 List.rec (motive:=λ_=>HTr->(HTr->RT)->RT) (λh k=>k h) (λa _ ih h k=>match a with
  | .set i o=>oO o λo=>putK h i o λh=>ih h k
  | .push o=>oO o λo=>il h o λh=>ih h k) l
def condB(b:Bool)(x y:RT):RT:=Bool.rec y x b
def outG(k:IntKind)(c:Int)(K:Int->RT):RT:=Bool.rec (fI (k.wrap c) K) (K c) (fits k c)
def out64(c:Int)(K:Int->RT):RT:=@Bool.rec (λ_=>RT) (fI (IntKind.wrap .i64 c) K) (K c) (@Int.rec (λ_=>Bool) (λn=>Nat.ble n 9223372036854775807) (λn=>Nat.ble n 9223372036854775807) c)
def outU8(c:Int)(K:Int->RT):RT:=@Bool.rec (λ_=>RT) (fI (IntKind.wrap .u8 c) K) (K c) (@Int.rec (λ_=>Bool) (λn=>Nat.ble n 255) (λ_=>false) c)
def outK(k:IntKind)(c:Int)(K:Int->RT):RT:=@IntKind.rec (λ_=>RT) (outG .i8 c K) (outG .i16 c K) (outG .i32 c K) (out64 c K) (outU8 c K) (outG .u16 c K) (outG .u32 c K) (outG .u64 c K) k
def addK(a b:Int)(K:Int->RT):RT:=
 Int.rec (λm=>Int.rec (λn=>fN (Nat.add m n) λc=>K (.ofNat c)) (λn=>Bool.rec (fN (Nat.sub n m) λc=>K (.negSucc c)) (fN (Nat.sub m (Nat.succ n)) λc=>K (.ofNat c)) (Nat.blt n m)) b)
  (λm=>Int.rec (λn=>Bool.rec (fN (Nat.sub m n) λc=>K (.negSucc c)) (fN (Nat.sub n (Nat.succ m)) λc=>K (.ofNat c)) (Nat.blt m n)) (λn=>fN (Nat.succ (Nat.add m n)) λc=>K (.negSucc c)) b) a
def subK(a b:Int)(K:Int->RT):RT:=
 Int.rec (λm=>Int.rec (λn=>Bool.rec (fN (Nat.sub n (Nat.succ m)) λc=>K (.negSucc c)) (fN (Nat.sub m n) λc=>K (.ofNat c)) (Nat.ble n m)) (λn=>fN (Nat.succ (Nat.add m n)) λc=>K (.ofNat c)) b)
  (λm=>Int.rec (λn=>fN (Nat.add m n) λc=>K (.negSucc c)) (λn=>Bool.rec (fN (Nat.sub m (Nat.succ n)) λc=>K (.negSucc c)) (fN (Nat.sub n m) λc=>K (.ofNat c)) (Nat.ble m n)) b) a
def mulK(a b:Int)(K:Int->RT):RT:=
 Int.rec (λm=>Int.rec (λn=>fN (Nat.mul m n) λc=>K (.ofNat c)) (λn=>Nat.rec (K (.ofNat 0)) (λm' _=>fN (Nat.add (Nat.mul m n) m') λc=>K (.negSucc c)) m) b)
  (λm=>Int.rec (λn=>Nat.rec (K (.ofNat 0)) (λn' _=>fN (Nat.add (Nat.mul m n) n') λc=>K (.negSucc c)) n) (λn=>fN (Nat.mul (Nat.succ m) (Nat.succ n)) λc=>K (.ofNat c)) b) a
def quoK(a b:Int)(K:Int->RT):RT:=
 Int.rec (λm=>Int.rec (λn=>fN (Nat.div m n) λc=>K (.ofNat c)) (λ_=>fI (Int.tdiv a b) K) b) (λ_=>fI (Int.tdiv a b) K) a
def remK(a b:Int)(K:Int->RT):RT:=
 Int.rec (λm=>Int.rec (λn=>fN (Nat.mod m n) λc=>K (.ofNat c)) (λ_=>fI (Int.tmod a b) K) b) (λ_=>fI (Int.tmod a b) K) a
def isZ(b:Int):Bool:=Int.rec (λn=>Nat.beq n 0) (λ_=>false) b
def ariB(op:BinOp)(k:IntKind)(a b:Int)(K:Int->RT):RT:=
 match op with
 | .add=>addK a b λc=>outK k c K
 | .sub=>subK a b λc=>outK k c K
 | .mul=>mulK a b λc=>outK k c K
 | .quo=>Bool.rec (quoK a b λc=>outK k c K) none (isZ b)
 | .rem=>Bool.rec (remK a b K) none (isZ b)
 | .and=>match eqI b 1 with
  |true=>fI (Int.emod a 2) K
  |false=>match a,b with
   | .ofNat m,.ofNat n=>fI (.ofNat (Nat.land m n)) λc=>outK k c K
   |_,_=>none
 | .xor=>match a,b with
  | .ofNat m,.ofNat n=>fI (.ofNat (Nat.xor m n)) λc=>outK k c K
  |_,_=>none
 | .or=>match a,b with
  | .ofNat m,.ofNat n=>fI (.ofNat (Nat.lor m n)) λc=>outK k c K
  |_,_=>none
 |_=>none
def eqZK(a b:Int):Bool:=Int.rec (λm=>Int.rec (λn=>Nat.beq m n) (λ_=>false) b) (λm=>Int.rec (λ_=>false) (λn=>Nat.beq m n) b) a
def notK(b:Bool):Bool:=Bool.rec true false b
def cmpB(op:BinOp)(a b:Int)(K:Bool->RT):RT:=
 match op with
 | .eql=>K (eqZK a b)
 | .neq=>K (notK (eqZK a b))
 | .lss=>K (notK (leZ b a))
 | .leq=>K (leZ a b)
 | .gtr=>K (notK (leZ a b))
 | .geq=>K (leZ b a)
 |_=>none
def eqBK(a b:Bool):Bool:=Bool.rec (notK b) b a
def eqLf(x y:Lf):Bool:=Lf.rec (λa=>Lf.rec (λb=>eqZK a b) (λ_=>false) (λ_=>false) y) (λa=>Lf.rec (λ_=>false) (λb=>eqBK a b) (λ_=>false) y) (λ_=>false) x
def eqsV(l:List (Lf×Lf)):Bool:=List.rec true (λp _ ih=>Bool.rec false ih (eqLf p.1 p.2)) l
def eqsB(l:List (Lf×Lf))(K:Bool->RT):RT:=K (eqsV l)
def convB(k:IntKind)(a:Int)(K:Int->RT):RT:=outK k a K
def selB(t:Bool)(a b:Int)(K:Int->RT):RT:=Bool.rec (K b) (K a) t
def optB{α:Type}(o:Option α)(K:α->RT):RT:=Option.rec none K o
def unIB(ls:List Lf)(K:Int->List Lf->RT):RT:=List.rec none (λx r _=>Lf.rec (λn=>K n r) (λ_=>none) (λ_=>none) x) ls
def unBB(ls:List Lf)(K:Bool->List Lf->RT):RT:=List.rec none (λx r _=>Lf.rec (λ_=>none) (λn=>K n r) (λ_=>none) x) ls
def unVB(ls:List Lf)(K:Value->List Lf->RT):RT:=List.rec none (λx r _=>Lf.rec (λ_=>none) (λ_=>none) (λn=>K n r) x) ls
def un0B(ls:List Lf)(K:RT):RT:=List.rec K (λ_ _ _=>none) ls
def ucIB(k:IntKind)(ls:List Value)(K:Int->List Value->RT):RT:=match ls with | .int k' n :: r=>(match dX k k' with|true=>K n r|false=>none)|_=>none
def ucBB(ls:List Value)(K:Bool->List Value->RT):RT:=match ls with | .bool n :: r=>K n r|_=>none
def ucVB(ls:List Value)(K:Value->List Value->RT):RT:=match ls with|n :: r=>K n r|_=>none
def uc0B(ls:List Value)(K:RT):RT:=match ls with | []=>K|_=>none
def spot0(s:Option Nat):Bool:=match s with
 |none=>true
 |some k=>match k with
  |0=>false
  |_=>true
def goodF(v:Value):Bool:=match v with
 | .pointer (some a)=>spot0 a.spot
 | .slice (some a) _ _=>spot0 a.spot
 |v=>bk v
def chkB(v:Value)(K:RT):RT:=match goodF v with|true=>K|false=>none
def lenR{α:Type}(l:List α):Nat:=List.rec 0 (λ_ _ n=>Nat.succ n) l
def ldB(n:Nat)(p:Value)(h:HTr)(K:List Value->RT):RT:=match p with
 | .pointer (some a)=>match a.spot with
  |none=>match h.at a.block with
   |some (.t m _ _ c)=>match Nat.ble (Nat.add a.off n) m with
    |true=>K (sF c n a.off)
    |false=>none
   |_=>none
  |some _=>none
 |_=>none
def lgB(C:Cfg)(n:Nat)(p:Value)(h:HTr)(K:List Value->RT):RT:=match p with
 | .pointer (some a)=>match a.spot with
  |none=>match h.at a.block with
   |some (.t m _ _ c)=>match Nat.ble (Nat.add a.off n) m with
    |true=>K (sF c n a.off)
    |false=>none
   |_=>none
  |some k=>match Nat.beq k 1 with
   |true=>match C.G a.block with
    |some vs=>match cutL vs a.off n with
     |some cs=>K cs
     |none=>none
    |none=>none
   |false=>none
 |_=>none
def peekB(T:Nat->Site)(f:Pk)(h:HTr)(K:List Value->RT):RT:=match f with
 | .ld n p=>ldB n p h K
 | .lg C n p=>lgB C n p h K
 | .fn f=>match f (getT T h)with|some x=>K x|none=>none
def stB(p:Value)(new:List Value)(h:HTr)(K:List Value->HTr->RT):RT:=match p with
 | .pointer (some a)=>match a.spot with
  |none=>match h.at a.block with
   |some (.t m e true c)=>match Nat.ble (Nat.add a.off (lenR new)) m with
    |true=>insK new a.off c λc=>putK h a.block (.t m e true c) λh=>K [] h
    |false=>none
   |_=>none
  |some _=>none
 |_=>none
def tagB(s:Option Nat)(esz:Nat):Bool:=match s with
 |none=>false
 |some k=>Nat.beq k (Nat.add esz 10)
def slB(C:Cfg)(T:Nat->Site)(esz:Nat)(x:Value)(h:HTr)(K:List Value->Nat->RT):RT:=match x with
 | .slice (some a) len _=>match tagB a.spot esz with
  |true=>match h.at a.block with
   |some (.t m e _ c)=>match Nat.beq e esz,Nat.ble (Nat.add a.off (Nat.mul len esz)) m with
    |true,true=>K (sF c (Nat.mul len esz) a.off) len
    |_,_=>none
   |_=>none
  |false=>match slG C esz (getT T h) x with
   |some p=>K p.1 p.2
   |none=>none
 |x=>match slG C esz (getT T h) x with
  |some p=>K p.1 p.2
  |none=>none
def growB(c:Tr Value)(m off w esz:Nat)(new:List Value)(k:HOT->RT):RT:=match Nat.beq off 0,Nat.beq w m with
 |true,true=>insK new m c λc=>fN (Nat.add m (lenR new)) λm=>k (.t m esz true c)
 |_,_=>oO (.cells (sF c w off++new) esz true) k
def apB(T:Nat->Site)(C:Cfg)(esz bytes:Nat)(s x:Value)(h:HTr)(K:List Value->HTr->RT):RT:=
 slB C T esz x h λnew n=>match s with
  | .slice none 0 0=>match n with
   |0=>K [.slice none 0 0] h
   |n+1=>match bP (n+1) bytes with
    |true=>oO (.cells new esz true) λo=>il h o λh'=>fN (n+1) λn=>K [.slice (some ⟨h.n,0,tag esz⟩) n 0] h'
    |false=>none
  | .slice (some a) len cx=>match tagB a.spot esz with
   |false=>none
   |true=>match h.at a.block with
    |some (.t m e rw c)=>match Nat.beq e esz,Nat.ble (Nat.add a.off (Nat.mul len esz)) m with
     |true,true=>match cx with
      |0=>match n with
       |0=>K [.slice (some a) len 0] h
       |n+1=>match rw,bP (len+(n+1)) bytes with
        |true,true=>growB c m a.off (Nat.mul len esz) esz new λo=>putK h a.block (.o .dead) λh'=>il h' o λh''=>fN (len+(n+1)) λl=>K [.slice (some ⟨h.n,0,tag esz⟩) l 0] h''
        |_,_=>none
      |cap+1=>match Nat.ble (len+n) cap with
       |true=>match rw,Nat.ble (Nat.add (Nat.add a.off (Nat.mul len esz)) (lenR new)) m with
        |true,true=>insK new (Nat.add a.off (Nat.mul len esz)) c λc=>putK h a.block (.t m e true c) λh'=>fN (len+n) λl=>K [.slice (some a) l (cap+1)] h'
        |_,_=>none
       |false=>match bP (len+n) bytes with
        |true=>growB c m a.off (Nat.mul len esz) esz new λo=>il h o λh'=>fN (len+n) λl=>K [.slice (some ⟨h.n,0,tag esz⟩) l 0] h'
        |false=>none
     |_,_=>none
    |_=>none
  |_=>none
def heapB(T:Nat->Site)(f:Hp)(h:HTr)(K:List Value->HTr->RT):RT:=match f with
 | .st p new=>stB p new h K
 | .ap C esz bytes s x=>apB T C esz bytes s x h K
 | .fn f=>match f (getT T h) h.n with|some p=>ru p.2 λcs=>rT p.1 h λh=>K cs h|none=>none
def newB(o:HObj)(h:HTr)(K:Nat->HTr->RT):RT:=oO o λo=>il h o λh'=>K h.n h'
def toSL(k:LK)(v:Value):Option SL:=
 match k with
 | .i k=>match v with
  | .int k' n=>match dX k' k with
   |true=>some (.i k' n)
   |false=>none
  |_=>none
 | .b=>match v with
  | .bool t=>some (.b t)
  |_=>none
 | .v=>match bk v with
  |true=>some (.v v)
  |false=>none
def toSLs:List LK->List Value->Option (List SL)
 | [],[]=>some []
 |k :: ks,v :: vs=>match toSL k v with
  |some x=>match toSLs ks vs with
   |some xs=>some (x :: xs)
   |none=>none
  |none=>none
 |_,_=>none
def toS0(sk:SK)(v:Value):Option S0:=
 match sk with
 | .leaf k=>(toSL k v).map .leaf
 | .agg ks=>match v with
  | .agg cs=>(toSLs ks cs.toList).map .agg
  |_=>none
def toS0s:List SK->List Value->Option (List S0)
 | [],[]=>some []
 |k :: ks,v :: vs=>match toS0 k v with
  |some x=>match toS0s ks vs with
   |some xs=>some (x :: xs)
   |none=>none
  |none=>none
 |_,_=>none
def eqLK:LK->LK->Bool
 | .i a,.i b=>dX a b
 | .b,.b=>true
 | .v,.v=>true
 |_,_=>false
def eqLKs:List LK->List LK->Bool
 | [],[]=>true
 |a :: l,b :: m=>eqLK a b&&eqLKs l m
 |_,_=>false
def eqSK:SK->SK->Bool
 | .leaf a,.leaf b=>eqLK a b
 | .agg a,.agg b=>eqLKs a b
 |_,_=>false
def eqSKs:List SK->List SK->Bool
 | [],[]=>true
 |a :: l,b :: m=>eqSK a b&&eqSKs l m
 |_,_=>false
def gw(ls:List Lf):Bool:=List.rec true (λl _ ih=>match l with
 | .v x=>(match goodF x with
  |true=>ih
  |false=>false)
 |_=>ih) ls
section
variable (Sg:FuncId->Option Sig) (T:Nat->Site) (call:aa)
def callB(g:FuncId)(ls:List Lf)(h:HTr)(K:List Lf->HTr->RT):RT:=match gw ls with|true=>call (.f g) ls h K|false=>none
def je(g:FuncId)(hs:Option (List SK))(vals:List Value)(h:HTr)(K:List Lf->HTr->RT):RT:=
 match Sg g with
 |none=>none
 |some sg=>match (match hs with|none=>true|some hs=>eqSKs sg.rs hs)with
  |false=>none
  |true=>match toS0s sg.ps vals with
   |none=>none
   |some xs=>callB call g (bH xs) h K
def callvB(v:Value)(args:List Value)(hs:List SK)(h:HTr)(K:List Lf->HTr->RT):RT:=
 match v with
 | .func fn first cap=>match fn with
  | .func g=>je Sg call g (some hs) (first.toList++args++cap.toList) h K
  | .yield l=>match first.toList,cap.toList with
   | [],[]=>match h.at l with
    |some (.lp κ _ _ vs)=>match eqSKs [.leaf .b] hs with
     |false=>none
     |true=>match toS0s ((T κ).params.map (·.2)) args with
      |none=>none
      |some xs=>match gw (bH xs)with
       |true=>call (.y κ vs l) (bH xs) h K
       |false=>none
    |_=>none
   |_,_=>none
  |_=>none
 |_=>none
def rfunB(κ:Nat)(v:Value)(vals:List Value)(h:HTr)(K:Option Code->HTr->RT):RT:=
 match v with
 | .func fn first cap=>match fn with
  | .func g=>il h (.lp κ .ready none vals) λh0=>je Sg call g none (first.toList++[.func (.yield h.n) #[] #[]]++cap.toList) h0 λ_ h1=>match h1.at h.n with
   |some (.lp κ' st pd vs)=>match st with
    | .busy=>none
    |_=>putK h1 h.n (.lp κ' .exhausted pd vs) λh2=>K pd h2
   |_=>none
  |_=>none
 |_=>none
def pendB(pd:Option Code)(kn kr:RT)(ks:List (Nat×RT)):RT:=
 match pd with
 |none=>kn
 |some c=>match c with
  | .ret=>kr
  | .exit id=>List.rec none (λp _ ih=>match Nat.beq p.1 id with|true=>p.2|false=>ih) ks
  |_=>none
def lp1B(l:Nat)(h:HTr)(K:HTr->RT):RT:=
 match h.at l with
 |some (.lp κ st pd vs)=>match st with
  | .ready=>putK h l (.lp κ .busy pd vs) K
  |_=>none
 |_=>none
def lp2B(l:Nat)(j:Option Code)(h:HTr)(K:HTr->RT):RT:=
 match h.at l with
 |some (.lp κ _ _ vs)=>match j with
  |none=>putK h l (.lp κ .ready none vs) K
  |some c=>putK h l (.lp κ .done (some c) vs) K
 |_=>none
end
def loopB(F:(List Lf->HTr->RT)->List Lf->HTr->RT)(ls:List Lf)(h:HTr):RT:=
 Nat.rec (motive:=λ_=>List Lf->HTr->RT) (λ_ _=>none) (λ_ ih ls h=>F ih ls h) 1000000 ls h
def joinB(b:List Lf->HTr->RT)(m:(List Lf->HTr->RT)->RT):RT:=m b
def shfB(op:BinOp)(k:IntKind)(a:Int)(_:IntKind)(b:Int)(K:Int->RT):RT:=match leZ 0 b with
 |true=>match op with
  | .shl=>fI (k.wrap (a*2 ^ min b.toNat k.bits)) K
  | .shr=>fI (a.fdiv (2 ^ min b.toNat k.bits)) K
  |_=>none
 |false=>none
def BA(Sg:FuncId->Option Sig)(T:Nat->Site)(call:aa):Alg RT HTr where
 fail:=none
 cond:=condB
 ari:=ariB
 shf:=shfB
 cmp:=cmpB
 eqs:=eqsB
 conv:=convB
 sel:=selB
 opt:=optB
 chk:=chkB
 unI:=unIB
 unB:=unBB
 unV:=unVB
 un0:=un0B
 ucI:=ucIB
 ucB:=ucBB
 ucV:=ucVB
 uc0:=uc0B
 peek:=peekB T
 heap:=heapB T
 new:=newB
 call:=callB call
 callv:=callvB Sg T call
 join:=joinB
 loop:=loopB
 rfun:=rfunB Sg call
 pend:=pendB
 lp1:=lp1B
 lp2:=lp2B
end
end Go.Am

/-
 REGIONS THAT DRAW THEIR ORDER: what is known where the values have been told apart.
-/
namespace Go.Am
namespace Sx
section
variable [Val] [Kno]
def wAt(pts:List Nat)(tm:List Value)(o:Oper):List Nat:=(wOps pts o).flatMap λx=>adr (oval tm x)
def fAt(pts:List Nat)(tm:List Value)(o:Oper):List Nat:=(bV pts o).1.flatMap λx=>adrK (bV pts o).2 (oval tm x)
def dstIn(pts:List Nat)(tm:List Value)(o:Oper):Prop:=∀d,o.dst=some d->hCls pts o=2->∃v,tm[d]? = some v
def SepAt(pts:List Nat)(ops:Array Oper)(tm:List Value)(ps:List (Nat×Nat)):Prop:=
 ∀p∈ps,∃a b,ops[p.1]? = some a/\ops[p.2]? = some b/\(∀x∈wAt pts tm a,x∉fAt pts tm b)/\(∀x∈wAt pts tm a,x∉wAt pts tm b)/\(∀x∈wAt pts tm b,x∉fAt pts tm a)/\dstIn pts tm a/\dstIn pts tm b
def SameAt(ops:Array Oper)(k:Nat)(σ σ':St):Prop:=∃o d x,ops[k]? = some o/\o.dst=some d/\σ.tmps[d]? = some x/\σ'.tmps[d]? = some x
def DrOk(C:Cfg)(dr:Dr):Prop:=∀pts ops ps,dr pts ops=some ps->match splOf ps with
 |none=>∀(n:Nat) (σ σ':St),aL C (sm C n).toBelow pts ops (List.range ops.size) σ σ'->SepAt pts ops σ'.tmps ps->dC C (sm C n).toBelow pts ops σ σ'
 |some p=>∀(n:Nat) (σ σ₁ σ₂ σ':St),aL C (sm C n).toBelow pts ops (List.range' 0 (ops.toList.take (p.2+1)).length) σ σ₁->ah C (sm C n).toBelow pts ops p.1 σ₁ σ₂->SameAt ops p.1 σ₁ σ₂->
   aL C (sm C n).toBelow pts ops (List.range' (p.2+1) (ops.toList.drop (p.2+1)).length) σ₁ σ'->dC C (sm C n).toBelow pts ops σ σ'
theorem rg{x:Nat}:∀ {l:List Nat},memN x l=true↔x∈l
 | []=>by simp[memN]
 |y :: l=>by
  unfold memN
  cases h:Nat.beq x y with
  |true=>simp[qac h]
  |false=>
   have:x≠y:=λe=>by subst e;rw[show Nat.beq x x=true from qbY x]at h;cases h
   simp only[qao,this,false_or]
   exact rg
theorem qF:∀ {l m:List Nat},disjN l m=true->∀x∈l,x∉m
 | [],_,_,_,h=>by cases h
 |y :: l,m,h,x,hx=>by
  unfold disjN at h
  cases hm:memN y m with
  |true=>rw[hm]at h;cases h
  |false=>
   rw[hm]at h
   rcases qao.1 hx with rfl|hx
   ·intro e;rw[rg.2 e]at hm;cases hm
   ·exact qF h x hx
theorem sepL_ok:∀ {l:List (Value×Nat×Value)} {u:Unit},sepL l=some u->∀p∈l,∀r∈adr p.1,r∉adrK p.2.1 p.2.2
 | [],_,_,_,h=>by cases h
 |q :: l,u,h,p,hp=>by
  unfold sepL at h
  split at h
  ·rename_i hd
   rcases qao.1 hp with rfl|hp
   ·exact qF hd
   ·exact sepL_ok h p hp
  ·cases h
theorem entV_ok{ev:Env}{σ:St}(hR:Rp ev σ){x:Operand}{us:List Value}(h:entV (sval ev x)=some us)(k r:Nat)(hr:r∈adrK k (oval σ.tmps x)):∃u∈us,r∈adrK k u:=by
 have hn:sval ev x≠.no:=λe=>by rw[e]at h;cases h
 have hv:=(hR.sval rfl hn).1
 rw[hv]at hr
 generalize sval ev x=s at *
 have none:adrK k s.val=[]->∃u∈us,r∈adrK k u:=λe=>by rw[e]at hr;cases hr
 cases s with
 |st y=>
  cases y with
  |leaf l=>
   cases l with
   |v u=>
    cases h
    exact⟨u,by simp,hr⟩
   |_=>exact none (by cases k with|zero=>rfl|succ k=>cases k<;>rfl)
  |agg cs=>exact none (by cases k with|zero=>rfl|succ k=>cases k<;>rfl)
 |no=>exact absurd rfl hn
 |_=>exact none (by cases k with|zero=>rfl|succ k=>cases k<;>rfl)
theorem ek{ev:Env}{σ:St}(hR:Rp ev σ):∀ {l:List Operand} {us:List Value},mV ev l=some us->∀(k r:Nat),r∈l.flatMap (λx=>adrK k (oval σ.tmps x))->∃u∈us,r∈adrK k u
 | [],_,_,_,_,h=>by cases h
 |x :: l,us,h,k,r,hr=>by
  unfold mV at h
  split at h
  ·rename_i a b ha hb
   cases h
   rw[qbt,qax]at hr
   rcases hr with hr|hr
   ·obtain⟨u,h1,h2⟩:=entV_ok hR ha k r hr
    exact⟨u,qaH _ h1,h2⟩
   ·obtain⟨u,h1,h2⟩:=ek hR hb k r hr
    exact⟨u,qaU _ h1,h2⟩
  ·cases h
theorem jL{ev:Env}{σ:St}(hR:Rp ev σ){d:Nat}:∀ {l:List Operand} {us:List Value},mV ev l=some us->Operand.tmp d∈l->∃v,σ.tmps[d]? = some v
 |x :: l,us,h,hm=>by
  unfold mV at h
  split at h
  ·rename_i a b ha hb
   rcases qao.1 hm with rfl|hm
   ·have hn:sval ev (.tmp d)≠.no:=λe=>by rw[e]at ha;cases ha
    exact⟨_,(hR.at (s:=ev.tm.getD d .no) rfl hn).1⟩
   ·exact jL hR hb hm
  ·cases h
theorem nS{pts:List Nat}{o:Oper}{d:Nat}(hd:o.dst=some d)(h:hCls pts o=2):Operand.tmp d∈wOps pts o:=by
 unfold wOps
 rw[h,hd]
 simp
theorem jH{us vs:List Value}{k:Nat}{u v:Value}(hu:u∈us)(hv:v∈vs):(u,k,v)∈cross us k vs:=by
 unfold cross
 exact qb9.2 ⟨u,hu,qaI.2 ⟨v,hv,rfl⟩⟩
theorem sepOne_ok{pts:List Nat}{ev:Env}{σ:St}(hR:Rp ev σ){a b:Oper}{l:List (Value×Nat×Value)}(h:sepOne pts ev a b=some l)(hs:∀p∈l,∀r∈adr p.1,r∉adrK p.2.1 p.2.2) :
  (∀x∈wAt pts σ.tmps a,x∉fAt pts σ.tmps b)/\(∀x∈wAt pts σ.tmps a,x∉wAt pts σ.tmps b)/\(∀x∈wAt pts σ.tmps b,x∉fAt pts σ.tmps a)/\dstIn pts σ.tmps a/\dstIn pts σ.tmps b:=by
 unfold sepOne at h
 split at h
 ·rename_i wa wb fa fb h1 h2 h3 h4
  cases h
  refine⟨λx hx hy=>?_,λx hx hy=>?_,λx hx hy=>?_,λd hd hc=>jL hR h1 (nS hd hc),λd hd hc=>jL hR h2 (nS hd hc)⟩
  ·obtain⟨u,u1,u2⟩:=ek hR h1 0 x hx
   obtain⟨v,v1,v2⟩:=ek hR h4 _ x hy
   exact hs (u,_,v) (qaH _ (qaH _ (jH u1 v1))) x u2 v2
  ·obtain⟨u,u1,u2⟩:=ek hR h1 0 x hx
   obtain⟨v,v1,v2⟩:=ek hR h2 0 x hy
   exact hs (u,0,v) (qaH _ (qaU _ (jH u1 v1))) x u2 v2
  ·obtain⟨u,u1,u2⟩:=ek hR h2 0 x hx
   obtain⟨v,v1,v2⟩:=ek hR h3 _ x hy
   exact hs (u,_,v) (qaU _ (jH u1 v1)) x u2 v2
 ·cases h
theorem mw{pts:List Nat}{ops:Array Oper}{ev:Env}{σ:St}(hR:Rp ev σ):∀ {ps:List (Nat×Nat)} {l:List (Value×Nat×Value)},nM pts ops ev ps=some l->(∀p∈l,∀r∈adr p.1,r∉adrK p.2.1 p.2.2)->SepAt pts ops σ.tmps ps
 | [],_,_,_,_,h=>by cases h
 |q :: ps,l,h,hs,p,hp=>by
  unfold nM at h
  split at h
  ·rename_i a b r ha hb hr
   obtain⟨x,hx,rfl⟩:=qab.1 h
   rcases qao.1 hp with rfl|hp
   ·exact⟨a,b,ha,hb,sepOne_ok hR hx λp hp=>hs p (qaH _ hp)⟩
   ·exact mw hR hr (λp hp=>hs p (qaU _ hp)) p hp
  ·cases h
theorem eqFn_ok{x y:Value}{u:Unit}(h:eqFn x y=some u):x=y:=by
 unfold eqFn at h
 split at h
 ·split at h
  ·split at h
   ·rename_i l a b _ m c d e1 e2 e3 e4 e5
    have e1:=qac e1
    have f:∀ {a:Array Value},a.toList=[]->a = #[]:=λh=>qaP.1 h
    rw[e1,f e2,f e3,f e4,f e5]
   ·cases h
  ·cases h
 ·cases h
theorem entF_ok{ev:Env}{σ:St}(hR:Rp ev σ){d:Nat}{x:Value}(h:entF (ev.tm.getD d .no)=some x):σ.tmps[d]? = some x:=by
 unfold entF at h
 split at h
 ·rename_i y hy
  cases h
  exact(hR.at hy (by simp)).1
 ·cases h
theorem sepK_ok{R HT:Type}{A:Alg R HT}{C:Cfg}{Sg:FuncId->Option Sig}{T:Nat->Site}{holds:R->Prop}{abs:HT->List HObj}(hA:AlgOk A C Sg T holds abs){pts:List Nat}{ops:Array Oper}{ps:List (Nat×Nat)}{kn:KN R HT}{ev:Env}{σ:St}(hR:Rp ev σ){h:HT}(hk:holds (sepK A pts ops ps kn ev h)) :
  SepAt pts ops σ.tmps ps/\holds (kn ev h):=by
 unfold sepK at hk
 split at hk
 ·exact⟨λp hp=>(by cases hp),hk⟩
 ·simp only at hk
  split at hk
  ·rename_i l hl
   obtain⟨u,h1,h2⟩:=hA.opt _ _ hk
   exact⟨mw hR hl (sepL_ok h1),h2⟩
  ·exact absurd hk hA.fail
end
end Sx
end Go.Am

/-
 OPERATIONS: what the algebra says of them,the abstract machine does. First part: temporaries,local rows,structs.
-/
namespace Go.Am
section
variable [Val] [Kno] {R HT:Type} {A:Alg R HT} {X:Ctxt} {Sg:FuncId->Option Sig} {holds:R->Prop} {abs:HT->List HObj}
variable {ev:Env} {σ:St} {h:HT} {o:Oper} {K:KN R HT}
def StepO(C:Cfg)(pts:List Nat)(o:Oper)(σ σ':St):Prop:=
 (∃e,ai C pts (oval σ.tmps) o=some e/\gm (uB C) e o.dst σ σ')∨(∃v,fK C σ.tmps o v/\σ'=σ.put o.dst v)
def pf(pts:List Nat)(o:Oper):Option Nat:=
 match o.op,o.dst with
 | .box ..,some d=>if pts.getD d 0=d+2 then some d else none
 | .alloc _,some d=>if pts.getD d 0=d+2 then some d else none
 |_,_=>none
def Done(X:Ctxt)(holds:R->Prop)(abs:HT->List HObj)(o:Oper)(σ:St)(K:KN R HT):Prop:=
 ∃σ' ev' h',StepO X.C X.pts o σ σ'/\Rp ev' σ'/\abs h'=σ'.heap/\Fr o.dst.toList (pf X.pts o).toList (fW X.pts o).toList σ σ'/\holds (K ev' h')
theorem qo(hR:Rp ev σ){dst:Option Tmp}{s:SV}(hs:s.gd)(hk:holds (setD dst s ev h K)):∃ev',Rp ev' (σ.put dst s.val)/\holds (K ev' h):=by
 unfold setD at hk
 cases dst with
 |none=>exact⟨ev,hR,hk⟩
 |some d=>
  simp only[setK_eq]at hk
  exact⟨_,hR.put d hs,hk⟩
theorem cq(hR:Rp ev σ)(H':List HObj)(ha:abs h=H'){s:SV}(hs:s.gd)
  (hst:StepO X.C X.pts o σ (({ σ with heap:=H' }:St).put o.dst s.val)) (hk:holds (setD o.dst s ev h K)):Done X holds abs o σ K:=by
 obtain⟨ev',h1,h2⟩:=qo (hR.heap H') hs hk
 refine⟨_,ev',h,hst,h1,?_,?_,h2⟩
 ·rw[ha];cases o.dst<;>rfl
 ·have:=Fr.put (σ:=({ σ with heap:=H' }:St)) o.dst s.val (pf X.pts o).toList (fW X.pts o).toList
  exact⟨this.tlen,this.llen,this.tm,this.tp,this.row,this.rlen⟩
theorem am(hR:Rp ev σ)(ha:abs h=σ.heap){s:SV}(hs:s.gd)(he:ai X.C X.pts (oval σ.tmps) o=some (.val s.val))(hk:holds (setD o.dst s ev h K)) :
  Done X holds abs o σ K:=
 cq hR σ.heap ha hs (.inl ⟨_,he,_,rfl,rfl⟩) hk
theorem bp(hR:Rp ev σ)(ha:abs h=σ.heap){s:SV}(hs:s.gd)(he:fK X.C σ.tmps o s.val)(hk:holds (setD o.dst s ev h K)) :
  Done X holds abs o σ K:=
 cq hR σ.heap ha hs (.inr ⟨_,he,rfl⟩) hk
theorem eR(hR:Rp ev σ)(ha:abs h=σ.heap){s:SV}(hs:s.gd){f:List HObj->Option Value}(he:ai X.C X.pts (oval σ.tmps) o=some (.hget f))(hf:f σ.heap=some s.val)
  (hk:holds (setD o.dst s ev h K)):Done X holds abs o σ K:=
 cq hR σ.heap ha hs (.inl ⟨_,he,(σ,s.val),by simp[aB,hf],rfl⟩) hk
theorem bX(hR:Rp ev σ){H':List HObj}(ha:abs h=H'){s:SV}(hs:s.gd){f:List HObj->Option (List HObj×Value)}(he:ai X.C X.pts (oval σ.tmps) o=some (.hop f))
  (hf:f σ.heap=some (H',s.val)) (hk:holds (setD o.dst s ev h K)):Done X holds abs o σ K:=
 cq hR H' ha hs (.inl ⟨_,he,({ σ with heap:=H' },s.val),by simp[aB,hf],rfl⟩) hk
theorem move_ok(hR:Rp ev σ)(ha:abs h=σ.heap){x:Operand}(ho:o.op = .move x∨o.op = .assign x){y:SV}(hy:sval ev x=y)(hn:y≠.no)(hk:holds (setD o.dst y ev h K)):Done X holds abs o σ K:=by
 obtain⟨h1,h2⟩:=hR.sval hy hn
 refine am hR ha h2 ?_ hk
 rcases ho with ho|ho<;>simp only[ai,ho,h1]
theorem pick_ok(hA:AlgOk A X.C Sg X.T holds abs)(hR:Rp ev σ)(ha:abs h=σ.heap){c a b:Operand}(ho:o.op = .pick c a b)
  (hk:holds (match sval ev c,sval ev a,sval ev b with
  | .st (.leaf (.l true)),.st y,_=>setD o.dst (.st y) ev h K
  | .st (.leaf (.l false)),_,.st y=>setD o.dst (.st y) ev h K
  | .st (.leaf (.b t)),.st y,.st z=>A.cond t (setD o.dst (.st y) ev h K) (setD o.dst (.st z) ev h K)
  |_,_,_=>A.fail)):Done X holds abs o σ K:=by
 split at hk
 ·rename_i y e1 e2
  obtain⟨h1,_⟩:=hR.sval e1 (by simp)
  obtain⟨h2,g2⟩:=hR.sval e2 (by simp)
  refine am hR ha g2 ?_ hk
  simp only[ai,ho,h1,SV.val,S0.val,SL.val,if_true,h2]
 ·rename_i y e1 e2
  obtain⟨h1,_⟩:=hR.sval e1 (by simp)
  obtain⟨h2,g2⟩:=hR.sval e2 (by simp)
  refine am hR ha g2 ?_ hk
  simp only[ai,ho,h1,SV.val,S0.val,SL.val,h2,qan,if_false]
 ·rename_i t y z e1 e2 e3
  obtain⟨h1,_⟩:=hR.sval e1 (by simp)
  obtain⟨h2,g2⟩:=hR.sval e2 (by simp)
  obtain⟨h3,g3⟩:=hR.sval e3 (by simp)
  rcases hA.cond _ _ _ hk with⟨ht,hk⟩|⟨ht,hk⟩
  ·refine am hR ha g2 ?_ hk
   simp only[ai,ho,h1,SV.val,S0.val,SL.val,ht,if_true,h2]
  ·refine am hR ha g3 ?_ hk
   simp only[ai,ho,h1,SV.val,S0.val,SL.val,ht,h3,qan,if_false]
 ·exact absurd hk hA.fail
theorem newV_ok(hA:AlgOk A X.C Sg X.T holds abs)(hR:Rp ev σ)(ha:abs h=σ.heap){t:TypeId}{x:S0}(hx:x.good)(he:ai X.C X.pts (oval σ.tmps) o=bv X.C X.pts o.dst t x.val)
  (hb:(∃y,o.op = .box t y)∨o.op = .alloc t) (hk:holds (newV A X o.dst t x ev h K)):Done X holds abs o σ K:=by
 unfold newV at hk
 split at hk
 ·exact absurd hk hA.fail
 ·rename_i d hd
  have dn:=S0.cells_val hx
  have hok:=S0.cells_ok hx
  have hnt:=S0.not_tuple hx
  split at hk
  ·rename_i hp
   have hp:X.pts.getD d 0=d+2:=by simpa using hp
   split at hk
   ·rename_i hl
    rw[setK_eq,setK_eq]at hk
    have hrow:ev.lc[d]? = some .nil:=by
     rw[List.getD_eq_getElem?_getD]at hl
     cases he:ev.lc[d]? with
     |none=>rw[he]at hl;cases hl
     |some r=>rw[he]at hl;simp at hl;rw[hl]
    have hloc:σ.loc[d]? = some none:=hR.row d _ hrow
    have heff:ai X.C X.pts (oval σ.tmps) o=some (.lnew d (x.cells.map SL.val)):=by
     rw[he,hd]
     unfold bv
     simp only[hnt,qan,if_false,dn,cells_ok' hx,qbQ,hp,if_true]
    let σ₁:St:={ σ with loc:=σ.loc.set d (some (x.cells.map SL.val)) }
    have hR1:Rp ⟨ev.tm,ev.lc.set d (.row x.cells)⟩ σ₁:=by
     refine⟨hR.len,hR.val,by simp[σ₁,hR.llen],λi r hr=>?_⟩
     simp only[qaD]at hr
     split at hr
     ·rename_i hi
      subst hi
      split at hr
      ·rename_i hlt
       cases hr
       exact⟨by simp only[σ₁];rw[qbf (by rw[←hR.llen];exact hlt)],hx⟩
      ·cases hr
     ·rename_i hi
      have:=hR.row i r hr
      have hne:σ₁.loc[i]? = σ.loc[i]?:=by simp only[σ₁];rw[qaE hi]
      cases r<;>first|trivial|(simp only[LR.ok]at this ⊢;rw[hne];exact this)
    have hkey:pf X.pts o=some d:=by
     rcases hb with⟨y,hb⟩|hb<;>(simp only[pf,hb,hd];rw[if_pos hp])
    have hrow':fW X.pts o=some d:=by
     rcases hb with⟨y,hb⟩|hb<;>(simp only[fW,hb,hd];rw[if_pos hp])
    refine⟨σ₁.put o.dst (.pointer (some ⟨d,0,some 0⟩)),_,h,.inl ⟨_,heff,(σ₁,.pointer (some ⟨d,0,some 0⟩)),by simp[aB,hloc,σ₁],rfl⟩,?_,?_,?_,hk⟩
    ·rw[hd];exact hR1.put d (s:=.lad d 0) trivial
    ·rw[ha];cases o.dst<;>rfl
    ·have hf:=Fr.put (σ:=σ₁) o.dst (.pointer (some ⟨d,0,some 0⟩)) [d] [d]
     have h0:Fr o.dst.toList [d] [d] σ σ₁:=by
      refine⟨rfl,by simp[σ₁],λ_ _ h _ _=>h,λ_ _ _ h _ _=>h,λs y hs hn=>?_,λs vs hs hn=>?_⟩
      ·simp only[qat]at hn
       simp only[σ₁]
       rw[qaE (λe=>hn e.symm)];exact hs
      ·simp only[qat]at hn
       refine⟨vs,?_,rfl⟩
       simp only[σ₁]
       rw[qaE (λe=>hn e.symm)];exact hs
     rw[hkey,hrow']
     exact h0.trans hf
   ·exact absurd hk hA.fail
  ·rename_i hp
   have hp:¬X.pts.getD d 0=d+2:=λe=>by rw[e]at hp;simp at hp
   obtain⟨h',e1,e2⟩:=hA.new _ _ _ hk
   rw[ha]at e1 e2
   have heff:ai X.C X.pts (oval σ.tmps) o=some (.hop λH=>some (H++[.cells x.val.cells.toList (ir X.C.P t) true],.pointer (some ⟨H.length,0,none⟩))):=by
    rw[he,hd]
    unfold bv
    simp only[hnt,qan,if_false,hok,qbQ,hp]
   rw[←hd]at e2
   refine bX (s:=.st (.leaf (.v (.pointer (some ⟨σ.heap.length,0,none⟩))))) hR e1 (λl hl=>?_) heff ?_ e2
   ·simp only[S0.cells,qat]at hl
    subst hl;rfl
   ·simp only[dn];rfl
theorem qy(new:List Value):∀(off k:Nat) (cs:List Value),off+k+new.length<=cs.length->
  ((new.zipIdx k).foldl (λ(acc:Array Value) (p:Value×Nat)=>acc.setIfInBounds (off+p.2) p.1) cs.toArray).toList=cs.take (off+k)++new++cs.drop (off+k+new.length):=by
 induction new with
 |nil=>intro off k cs h;simp
 |cons a l ih=>
  intro off k cs h
  simp only[qaW]at h
  simp only[List.zipIdx_cons,qb0]
  have hset:(cs.toArray.setIfInBounds (off+k) a)=(cs.set (off+k) a).toArray:=by simp
  rw[hset,ih off (k+1) (cs.set (off+k) a) (by simp;omega)]
  rw[List.take_set,List.drop_set]
  have h1:(cs.take (off+(k+1))).set (off+k) a=cs.take (off+k)++[a]:=by
   rw[show off+(k+1)=(off+k)+1 from by omega]
   rw[List.take_succ_eq_append_getElem (by omega),List.set_append]
   simp[qcN (show off+k<=cs.length by omega)]
  rw[h1]
  rw[if_pos (show off+k<off+(k+1)+l.length by omega),show off+(k+1)+l.length=off+k+(l.length+1)by omega]
  simp only[qay,qbD,qbg,qaW]
theorem nb(pl:Nat->Option (Nat×Nat)):∀(ps:List (Nat×S0)) (cs r:List SL),(∀p∈ps,p.2.good)->na pl cs ps=some r->
  Instr.fill pl ⟨cs.map SL.val⟩ (ps.map λp=>(p.1,p.2.val))=some ⟨r.map SL.val⟩
 | [],cs,r,_,hf=>by cases hf;rfl
 |(i,x) :: ps,cs,r,hg,hf=>by
  simp only[na]at hf
  split at hf
  ·rename_i off n hpl
   split at hf
   ·rename_i hn
    split at hf
    ·rename_i cs1 hs
     have hn:x.cells.length=n:=by simpa using hn
     have hx:x.good:=hg (i,x) (by simp)
     have hc:=S0.cells_val hx
     unfold fi at hs
     split at hs
     ·rename_i hle
      cases hs
      have ih:=nb pl ps _ r (λp hp=>hg p (by simp[hp])) hf
      simp only[qau,Instr.fill,hpl,hc]
      have hsz:(⟨x.cells.map SL.val⟩ : Array Value).size=n:=by simp[hn]
      rw[if_neg (by
       have h2:(⟨cs.map SL.val⟩ : Array Value).size=cs.length:=by simp
       rw[hsz,h2];simp;omega)]
      rw[←ih]
      congr 1
      have hfold:=qy (x.cells.map SL.val) off 0 (cs.map SL.val) (by simp;omega)
      apply qaP.1
      rw[←qbW,qcv]
      refine Eq.trans hfold ?_
      simp[qb4,qb2]
     ·cases hs
    ·cases hf
   ·cases hf
  ·cases hf
theorem lK(pl:Nat->Option (Nat×Nat)):∀(ps:List (Nat×S0)) (cs r:List SL),(∀c∈cs,c.good)->(∀p∈ps,p.2.good)->na pl cs ps=some r->∀c∈r,c.good
 | [],cs,r,hc,_,hf=>by cases hf;exact hc
 |(i,x) :: ps,cs,r,hc,hg,hf=>by
  simp only[na]at hf
  split at hf
  ·split at hf
   ·split at hf
    ·rename_i cs1 hs
     refine lK pl ps cs1 r (λc hm=>?_) (λp hp=>hg p (by simp[hp])) hf
     unfold fi at hs
     split at hs
     ·cases hs
      simp only[qax]at hm
      rcases hm with(hm|hm)|hm
      ·exact hc c (qbd hm)
      ·exact hg (i,x) (by simp) c hm
      ·exact hc c (qbk hm)
     ·cases hs
    ·cases hf
   ·cases hf
  ·cases hf
theorem mE{ps:List (Nat×Operand)}{xs:List S0}(hv:(ps.map (·.2)).map (oval σ.tmps)=af xs) :
  ps.map (λp=>(p.1,oval σ.tmps p.2))=((ps.map (·.1)).zip xs).map λp=>(p.1,p.2.val):=by
 induction ps generalizing xs with
 |nil=>simp
 |cons p ps ih=>
  cases xs with
  |nil=>simp[af]at hv
  |cons x xs=>
   simp only[qau,af,qa9]at hv
   simp only[qau,qcd,hv.1]
   rw[ih (xs:=xs) hv.2]
theorem nV{is:List Nat}{xs:List S0}(hg:∀x∈xs,x.good):∀p∈is.zip xs,p.2.good:=λ_ hp=>hg _ (List.of_mem_zip hp).2
theorem nT{P:Program}{t:TypeId}{x:S0}(hz:qx P t=some x):∃z,cw P t=some z/\x.val=z/\x.good:=by
 unfold qx at hz
 obtain⟨z,h1,h2⟩:=qah.1 hz
 obtain⟨h3,h4,_⟩:=nK h2
 exact⟨z,h1,h3,h4⟩
theorem build_ok(hA:AlgOk A X.C Sg X.T holds abs)(hR:Rp ev σ)(ha:abs h=σ.heap){t:TypeId}{ps:Array (Nat×Operand)}(ho:o.op = .build t ps)
  (hk:holds (match qx X.C.P t,ju X.C.P t,svals ev (ps.toList.map (·.2))with
  |some z,some pl,some xs=>match na pl z.cells ((ps.toList.map (·.1)).zip xs)with
   |some cs=>setD o.dst (.st (.agg cs)) ev h K
   |none=>A.fail
  |_,_,_=>A.fail)):Done X holds abs o σ K:=by
 split at hk
 ·rename_i z pl xs e1 e2 e3
  split at hk
  ·rename_i cs e4
   obtain⟨zv,hz1,hz2,hz3⟩:=nT e1
   obtain⟨hv,hg⟩:=hR.svals e3
   have hzc:=S0.cells_val hz3
   have hfill:=nb pl _ _ _ (nV (is:=ps.toList.map (·.1)) hg) e4
   have hgood:=lK pl _ _ _ (λc hc=>hz3 c hc) (nV (is:=ps.toList.map (·.1)) hg) e4
   refine am hR ha (s:=.st (.agg cs)) hgood ?_ hk
   have hall:(ps.toList.all λp=>!az (oval σ.tmps p.2))=true:=by
    simp only[qad,qbx]
    intro p hp
    have hm:oval σ.tmps p.2∈af xs:=by
     rw[←hv]
     exact qaI.2 ⟨p.2,qaI.2 ⟨p,hp,rfl⟩,rfl⟩
    simp only[af,qaI]at hm
    obtain⟨x,hx,e⟩:=hm
    rw[←e]
    exact S0.not_tuple (hg x hx)
   simp only[ai,ho,hall,if_true,oa,hz1,e2]
   rw[mE hv,←hz2,hzc,hfill]
   rfl
  ·exact absurd hk hA.fail
 ·exact absurd hk hA.fail
end
end Go.Am

/-
 OPERATIONS,second part: leaves taken apart;loads,stores.
-/
namespace Go.Am
theorem SL.lf_val{a b:SL}{k:LK}(ha:a.is k=true)(hb:b.is k=true)(he:a.lf=b.lf):a.val=b.val/\(a.good->b.good):=by
 cases a<;>cases b<;>cases k<;>simp only[SL.lf,Lf.i.injEq,Lf.b.injEq,Lf.v.injEq,reduceCtorEq,SL.is,qan]at he ha hb ⊢<;>try (subst he;exact⟨rfl,id⟩)
 subst he
 exact⟨by simp only[SL.val];rw[cA ha,cA hb],id⟩
theorem aW:∀ {cs:List SL} {ks:List LK},aD cs ks=true->cs.length=ks.length
 | [],[],_=>rfl
 |c :: cs,k :: ks,h=>by
  simp only[aD,qaa]at h
  simp[aW h.2]
 | [],_ :: _,h=>by cases h
 |_ :: _,[],h=>by cases h
theorem eK:∀ {a b:List SL} {ks:List LK},aD a ks=true->aD b ks=true->a.map SL.lf=b.map SL.lf->a.map SL.val=b.map SL.val/\((∀c∈a,c.good)->∀c∈b,c.good)
 | [],[],[],_,_,_=>⟨rfl,λ_ _ h=>by cases h⟩
 |a :: as0,b :: bs,k :: ks,ha,hb,he=>by
  simp only[aD,qaa]at ha hb
  simp only[qau,qa9]at he
  obtain⟨h1,h2⟩:=SL.lf_val ha.1 hb.1 he.1
  obtain⟨h3,h4⟩:=eK ha.2 hb.2 he.2
  refine⟨by simp[h1,h3],λhg c hc=>?_⟩
  rcases qao.1 hc with rfl|hc
  ·exact h2 (hg a (by simp))
  ·exact h4 (λc hc=>hg c (by simp[hc])) c hc
 | [],_ :: _,[],_,hb,_=>by cases hb
 | [],_,_ :: _,ha,_,_=>by cases ha
 |_ :: _,_,[],ha,_,_=>by cases ha
 |_ :: _,[],_ :: _,_,hb,_=>by cases hb
theorem S0.is_val{a b:S0}{sk:SK}(ha:a.is sk=true)(hb:b.is sk=true)(he:a.cells.map SL.lf=b.cells.map SL.lf):a.val=b.val/\(a.good->b.good):=by
 cases sk with
 |leaf k=>
  cases a with
  |agg _=>cases ha
  |leaf a=>
   cases b with
   |agg _=>cases hb
   |leaf b=>
    simp only[S0.cells,qau,qa3,qa9,and_true]at he
    obtain⟨h1,h2⟩:=SL.lf_val ha hb he
    refine⟨h1,λhg l hl=>?_⟩
    simp only[S0.cells,qat]at hl
    subst hl
    exact h2 (hg a (by simp[S0.cells]))
 |agg ks=>
  cases a with
  |leaf _=>cases ha
  |agg a=>
   cases b with
   |leaf _=>cases hb
   |agg b=>
    obtain⟨h1,h2⟩:=eK ha hb he
    exact⟨by simp only[S0.val,h1],h2⟩
theorem S0.is_len{a:S0}{sk:SK}(ha:a.is sk=true):∃n,a.cells.length=n/\∀b:S0,b.is sk=true->b.cells.length=n:=by
 refine⟨_,rfl,λb hb=>?_⟩
 cases sk with
 |leaf k=>
  cases a with
  |agg _=>cases ha
  |leaf a=>cases b with
   |agg _=>cases hb
   |leaf b=>rfl
 |agg ks=>
  cases a with
  |leaf _=>cases ha
  |agg a=>cases b with
   |leaf _=>cases hb
   |agg b=>exact(aW hb).trans (aW ha).symm
theorem cp:∀ {a b:List S0} {sks:List SK},bD a sks=true->bD b sks=true->bH a=bH b->af a=af b/\((∀c∈a,c.good)->∀c∈b,c.good)
 | [],[],[],_,_,_=>⟨rfl,λ_ _ h=>by cases h⟩
 |a :: as0,b :: bs,k :: ks,ha,hb,he=>by
  simp only[bD,qaa]at ha hb
  obtain⟨n,hn1,hn2⟩:=S0.is_len ha.1
  have hn2:=hn2 b hb.1
  simp only[bH]at he
  obtain⟨he1,he2⟩:=qcR he (by simp[hn1,hn2])
  obtain⟨h1,h2⟩:=S0.is_val ha.1 hb.1 he1
  obtain⟨h3,h4⟩:=cp ha.2 hb.2 he2
  refine⟨by simp only[af,qau,h1]at h3 ⊢;rw[h3],λhg c hc=>?_⟩
  rcases qao.1 hc with rfl|hc
  ·exact h2 (hg a (by simp))
  ·exact h4 (λc hc=>hg c (by simp[hc])) c hc
 | [],_ :: _,[],_,hb,_=>by cases hb
 | [],_,_ :: _,ha,_,_=>by cases ha
 |_ :: _,_,[],ha,_,_=>by cases ha
 |_ :: _,[],_ :: _,_,hb,_=>by cases hb
section
variable [Val] [Kno] {R HT:Type} {A:Alg R HT} {X:Ctxt} {Sg:FuncId->Option Sig} {holds:R->Prop} {abs:HT->List HObj}
variable {ev:Env} {σ:St} {h:HT} {o:Oper} {K:KN R HT}
theorem mC{C:Cfg}{T:Nat->Site}(hA:AlgOk A C Sg T holds abs):∀ {ks:List LK} {ls:List Lf} {K:List SL->List Lf->R},holds (unL A ks ls K)->
  ∃cs r,ls=cs.map SL.lf++r/\aD cs ks=true/\holds (K cs r)
 | [],ls,K,hk=>⟨[],ls,rfl,rfl,hk⟩
 | .i k :: ks,ls,K,hk=>by
  obtain⟨n,r,rfl,hk1⟩:=hA.unI _ _ hk
  obtain⟨cs,r',rfl,h2,h3⟩:=mC hA (ks:=ks) hk1
  exact⟨.i k n :: cs,r',rfl,by simp[aD,SL.is,cC,h2],h3⟩
 | .b :: ks,ls,K,hk=>by
  obtain⟨n,r,rfl,hk1⟩:=hA.unB _ _ hk
  obtain⟨cs,r',rfl,h2,h3⟩:=mC hA (ks:=ks) hk1
  exact⟨.b n :: cs,r',rfl,by simp[aD,SL.is,h2],h3⟩
 | .v :: ks,ls,K,hk=>by
  obtain⟨n,r,rfl,hk1⟩:=hA.unV _ _ hk
  obtain⟨cs,r',rfl,h2,h3⟩:=mC hA (ks:=ks) hk1
  exact⟨.v n :: cs,r',rfl,by simp[aD,SL.is,h2],h3⟩
theorem unS_ok{C:Cfg}{T:Nat->Site}(hA:AlgOk A C Sg T holds abs){sk:SK}{ls:List Lf}{K:S0->List Lf->R}(hk:holds (unS A sk ls K)) :
  ∃x r,ls=x.cells.map SL.lf++r/\x.is sk=true/\holds (K x r):=by
 cases sk with
 |leaf k=>
  cases k with
  |i k=>
   obtain⟨n,r,rfl,hk1⟩:=hA.unI _ _ hk
   exact⟨.leaf (.i k n),r,rfl,by simp[S0.is,SL.is,cC],hk1⟩
  |b=>
   obtain⟨n,r,rfl,hk1⟩:=hA.unB _ _ hk
   exact⟨.leaf (.b n),r,rfl,rfl,hk1⟩
  |v=>
   obtain⟨n,r,rfl,hk1⟩:=hA.unV _ _ hk
   exact⟨.leaf (.v n),r,rfl,rfl,hk1⟩
 |agg ks=>
  obtain⟨cs,r,h1,h2,h3⟩:=mC hA hk
  exact⟨.agg cs,r,h1,h2,h3⟩
theorem kV{C:Cfg}{T:Nat->Site}(hA:AlgOk A C Sg T holds abs):∀ {sks:List SK} {ls:List Lf} {K:List S0->List Lf->R},holds (unSs A sks ls K)->
  ∃xs r,ls=bH xs++r/\bD xs sks=true/\holds (K xs r)
 | [],ls,K,hk=>⟨[],ls,rfl,rfl,hk⟩
 |sk :: sks,ls,K,hk=>by
  have hk0:holds (unS A sk ls λx r=>unSs A sks r λxs r=>K (x :: xs) r):=hk
  obtain⟨x,r,rfl,h1,hk1⟩:=unS_ok hA hk0
  obtain⟨xs,r',rfl,h2,h3⟩:=kV hA (sks:=sks) hk1
  exact⟨x :: xs,r',by simp[bH],by simp[bD,h1,h2],h3⟩
theorem rQ{C:Cfg}{T:Nat->Site}(hA:AlgOk A C Sg T holds abs):∀ {ks:List LK} {ls:List Value} {K:List SL->List Value->R},holds (ucL A ks ls K)->
  ∃cs r,ls=cs.map SL.val++r/\aD cs ks=true/\(∀c∈cs,c.good)/\holds (K cs r)
 | [],ls,K,hk=>⟨[],ls,rfl,rfl,by simp,hk⟩
 | .i k :: ks,ls,K,hk=>by
  obtain⟨n,r,rfl,hk1⟩:=hA.ucI _ _ _ hk
  obtain⟨cs,r',rfl,h2,h3,h4⟩:=rQ hA (ks:=ks) hk1
  exact⟨.i k n :: cs,r',rfl,by simp[aD,SL.is,cC,h2],qa4.2 ⟨trivial,h3⟩,h4⟩
 | .b :: ks,ls,K,hk=>by
  obtain⟨n,r,rfl,hk1⟩:=hA.ucB _ _ hk
  obtain⟨cs,r',rfl,h2,h3,h4⟩:=rQ hA (ks:=ks) hk1
  exact⟨.b n :: cs,r',rfl,by simp[aD,SL.is,h2],qa4.2 ⟨trivial,h3⟩,h4⟩
 | .v :: ks,ls,K,hk=>by
  obtain⟨n,r,rfl,hk1⟩:=hA.ucV _ _ hk
  obtain⟨hg,hk2⟩:=hA.chk _ _ hk1
  obtain⟨cs,r',rfl,h2,h3,h4⟩:=rQ hA (ks:=ks) hk2
  exact⟨.v n :: cs,r',rfl,by simp[aD,SL.is,h2],qa4.2 ⟨hg,h3⟩,h4⟩
theorem kU{C:Cfg}{T:Nat->Site}(hA:AlgOk A C Sg T holds abs){sk:SK}{ls:List Value}{K:S0->List Value->R}(hk:holds (ucS A sk ls K)) :
  ∃x r,ls=x.cells.map SL.val++r/\x.is sk=true/\x.good/\holds (K x r):=by
 cases sk with
 |leaf k=>
  cases k with
  |i k=>
   obtain⟨n,r,rfl,hk1⟩:=hA.ucI _ _ _ hk
   exact⟨.leaf (.i k n),r,rfl,by simp[S0.is,SL.is,cC],λl hl=>by simp only[S0.cells,qat]at hl;subst hl;trivial,hk1⟩
  |b=>
   obtain⟨n,r,rfl,hk1⟩:=hA.ucB _ _ hk
   exact⟨.leaf (.b n),r,rfl,rfl,λl hl=>by simp only[S0.cells,qat]at hl;subst hl;trivial,hk1⟩
  |v=>
   obtain⟨n,r,rfl,hk1⟩:=hA.ucV _ _ hk
   obtain⟨hg,hk2⟩:=hA.chk _ _ hk1
   exact⟨.leaf (.v n),r,rfl,rfl,λl hl=>by simp only[S0.cells,qat]at hl;subst hl;exact hg,hk2⟩
 |agg ks=>
  obtain⟨cs,r,h1,h2,h3,h4⟩:=rQ hA hk
  exact⟨.agg cs,r,h1,h2,h3,h4⟩
theorem ucSs_ok{C:Cfg}{T:Nat->Site}(hA:AlgOk A C Sg T holds abs):∀ {sks:List SK} {ls:List Value} {K:List S0->List Value->R},holds (ucSs A sks ls K)->
  ∃xs r,ls=jf xs++r/\bD xs sks=true/\(∀x∈xs,x.good)/\holds (K xs r)
 | [],ls,K,hk=>⟨[],ls,rfl,rfl,by simp,hk⟩
 |sk :: sks,ls,K,hk=>by
  have hk0:holds (ucS A sk ls λx r=>ucSs A sks r λxs r=>K (x :: xs) r):=hk
  obtain⟨x,r,rfl,h1,hg,hk1⟩:=kU hA hk0
  obtain⟨xs,r',rfl,h2,h3,h4⟩:=ucSs_ok hA (sks:=sks) hk1
  refine⟨x :: xs,r',by simp[jf],by simp[bD,h1,h2],λc hc=>?_,h4⟩
  rcases qao.1 hc with rfl|hc
  ·exact hg
  ·exact h3 c hc
def mkV(agg:Bool)(cs:List Value)(v:Value):Prop:=(agg=true/\v = .agg ⟨cs⟩)∨(agg=false/\cs=[v])
theorem lX{x:S0}{sk:SK}(hx:x.is sk=true){v:Value}(hv:mkV (fZ sk) (x.cells.map SL.val) v):x.val=v:=by
 cases sk with
 |leaf k=>
  cases x with
  |agg _=>cases hx
  |leaf l=>
   rcases hv with⟨h,_⟩|⟨_,h⟩
   ·cases h
   ·simp only[S0.cells,qau,qa3,qa9,and_true]at h
    exact h
 |agg ks=>
  cases x with
  |leaf _=>cases hx
  |agg cs=>
   rcases hv with⟨_,h⟩|⟨h,_⟩
   ·exact h.symm
   ·cases h
theorem eqB_eq{a b:Bool}(h:eqB a b=true):a=b:=by cases a<;>cases b<;>first|rfl|cases h
theorem kj{agg:Bool}{cs:List SL}{x:S0}(hx:mkS0 agg cs=some x):x.cells=cs/\mkV agg (cs.map SL.val) x.val:=by
 unfold mkS0 at hx
 split at hx
 ·cases hx;exact⟨rfl,.inl ⟨rfl,rfl⟩⟩
 ·cases hx;exact⟨rfl,.inr ⟨rfl,rfl⟩⟩
 ·cases hx
theorem bR{P:Program}{t:TypeId}{agg:Bool}(hag:aggT P t=some agg){vs cs:List Value}{off:Nat}(hc:cut vs off (if agg then P.cellsOf t else 1)=some cs) :
  ∃v,cg P t vs off=some v/\mkV agg cs v:=by
 unfold aggT at hag
 unfold cg
 split at hag
 ·rename_i fs e
  cases hag
  rw[e]
  simp only[if_true]at hc
  exact⟨.agg ⟨cs⟩,by simp[hc],.inl ⟨rfl,rfl⟩⟩
 ·rename_i fs e
  cases hag
  rw[e]
  simp only[if_true]at hc
  exact⟨.agg ⟨cs⟩,by simp[hc],.inl ⟨rfl,rfl⟩⟩
 ·rename_i d h1 h2 e
  cases hag
  rw[e]
  simp only[qan,if_false]at hc
  unfold cut at hc
  split at hc
  ·rename_i hle
   cases hc
   have hlt:off<vs.length:=by omega
   have hcs:(vs.drop off).take 1=[vs[off]]:=by
    rw[qaq hlt];rfl
   refine⟨vs[off],?_,.inr ⟨rfl,hcs⟩⟩
   simp[hlt]
  ·cases hc
 ·cases hag
theorem iw(hA:AlgOk A X.C Sg X.T holds abs){dst:Option Tmp}{sk:SK}{cs:List Value}{v:Value}(hv:mkV (fZ sk) cs v)(hk:holds (setC A dst sk cs ev h K)) :
  ∃x:S0,x.val=v/\x.good/\holds (setD dst (.st x) ev h K):=by
 obtain⟨x,r,h1,h2,h3,hk1⟩:=kU hA hk
 obtain⟨hr,hk2⟩:=hA.uc0 _ _ hk1
 rw[hr,qaL]at h1
 subst h1
 exact⟨x,lX h2 hv,h3,hk2⟩
theorem jJ{cs ds:List SL}{off n:Nat}(hc:cutS cs off n=some ds):cut (cs.map SL.val) off n=some (ds.map SL.val)/\(∀d∈ds,d∈cs):=by
 unfold cutS at hc
 unfold cut
 split at hc
 ·rename_i hle
  cases hc
  rw[if_pos (by simpa using hle)]
  exact⟨by simp[qb2,qb4],λd hd=>qbk (qbd hd)⟩
 ·cases hc
theorem gJ(hR:Rp ev σ){s:Nat}{cs:List SL}(hr:nI ev s=some cs):σ.loc[s]? = some (some (cs.map SL.val))/\(∀c∈cs,c.good)/\ev.lc[s]? = some (.row cs):=by
 unfold nI at hr
 split at hr
 ·rename_i ds e
  cases hr
  rw[List.getD_eq_getElem?_getD]at e
  cases he:ev.lc[s]? with
  |none=>rw[he]at e;cases e
  |some r=>
   rw[he]at e
   simp only[qa8]at e
   subst e
   have:=hR.row s _ he
   exact⟨this.1,this.2,rfl⟩
 ·cases hr
theorem rr{cs:List SL}{base:Nat}{ix:List (Int×Nat)}{n:Nat}{ls:List Lf}(hp:iW (cs.map SL.lf) base ix n=some ls) :
  ∃ds,cutS cs (offX base ix) n=some ds/\ls=ds.map SL.lf:=by
 rw[pickL_eq]at hp
 split at hp
 ·rename_i hle
  cases hp
  refine⟨_,by unfold cutS;rw[if_pos (by simpa using hle)],by simp[qb2,qb4]⟩
 ·cases hp
theorem offX_le:∀(ix:List (Int×Nat)) (base:Nat),base<=offX base ix
 | [],base=>qaA _
 |p :: l,base=>qbL (Nat.le_add_right _ _) (offX_le l _)
theorem ja{cs ds:List SL}{ks:List LK}:∀ {ix:List (Int×Nat)} {base:Nat},nX cs ks base ix=true->cutS cs (offX base ix) ks.length=some ds->aD ds ks=true
 | [],base,h1,h2=>by
  simp only[nX,offX]at h1 h2
  rw[h2]at h1
  exact h1
 |p :: l,base,h1,h2=>by
  simp only[nX,qaa,qad,qbx,offX]at h1 h2
  obtain⟨h0,h1⟩:=h1
  refine ja (ix:=l) (h1 p.1.toNat ?_) h2
  have hp:p.2≠0:=λe=>by rw[e]at h0;cases h0
  have hle:offX (base+p.1.toNat*p.2) l<=cs.length:=by
   unfold cutS at h2
   split at h2
   ·omega
   ·cases h2
  have:=offX_le l (base+p.1.toNat*p.2)
  have h3:p.1.toNat<=p.1.toNat*p.2:=Nat.le_mul_of_pos_right _ (Nat.pos_of_ne_zero hp)
  simp only[qaB]
  omega
theorem is_skKs{x:S0}{sk:SK}(hx:x.is sk=true):aD x.cells (skKs sk)=true:=by
 cases sk with
 |leaf k=>
  cases x with
  |agg _=>cases hx
  |leaf l=>simp[S0.cells,skKs,aD];exact hx
 |agg ks=>
  cases x with
  |leaf _=>cases hx
  |agg cs=>exact hx
theorem setL_ok(hA:AlgOk A X.C Sg X.T holds abs){dst:Option Tmp}{sk:SK}{ds:List SL}{v:Value}(hd:aD ds (skKs sk)=true)(hg:∀c∈ds,c.good)(hv:mkV (fZ sk) (ds.map SL.val) v)
  (hk:holds (setL A dst sk (ds.map SL.lf) ev h K)):∃x:S0,x.val=v/\x.good/\holds (setD dst (.st x) ev h K):=by
 obtain⟨x,r,e1,e2,hk1⟩:=unS_ok hA hk
 obtain⟨hr0,hk2⟩:=hA.un0 _ _ hk1
 rw[hr0,qaL]at e1
 obtain⟨h1,h2⟩:=eK hd (is_skKs e2) e1
 rw[h1]at hv
 exact⟨x,lX e2 hv,h2 hg,hk2⟩
theorem is_lk(c:SL):c.is c.lk=true:=by cases c<;>first|rfl|exact cC _
theorem jb:∀cs:List SL,aD cs (cs.map SL.lk)=true
 | []=>rfl
 |c :: cs=>by simp[aD,is_lk,jb cs]
theorem eJ:∀ {a b:List SL} {ka kb:List LK},aD a ka=true->aD b kb=true->aD (a++b) (ka++kb)=true
 | [],b,[],kb,_,h=>h
 |a :: as0,b,k :: ka,kb,h1,h2=>by
  simp only[aD,qaa,qbD]at h1 ⊢
  exact⟨h1.1,eJ h1.2 h2⟩
 | [],_,_ :: _,_,h,_=>by cases h
 |_ :: _,_,[],_,h,_=>by cases h
end
end Go.Am

/-
 OPERATIONS,third part: loads,stores,addresses.
-/
namespace Go.Am
section
variable [Val] [Kno] {R HT:Type} {A:Alg R HT} {X:Ctxt} {Sg:FuncId->Option Sig} {holds:R->Prop} {abs:HT->List HObj}
variable {ev:Env} {σ:St} {h:HT} {o:Oper} {K:KN R HT}
theorem og(H:List HObj)(id:Nat):eN (λi=>H[i]?) id=dn H id:=rfl
theorem ldP_ok{n:Nat}{p:Value}{g:bz}{cs:List Value}(h:ldP n p g=some cs):∃id off vs,p = .pointer (some ⟨id,off,none⟩)/\eN g id=some vs/\cut vs off n=some cs:=by
 unfold ldP at h
 split at h
 ·rename_i a
  split at h
  ·rename_i hs
   obtain⟨vs,h1,h2⟩:=qah.1 h
   obtain⟨b,f,sp⟩:=a
   simp only at hs
   subst hs
   exact⟨b,f,vs,rfl,h1,h2⟩
  ·cases h
 ·cases h
theorem lgP_ok{C:Cfg}{n:Nat}{p:Value}{g:bz}{cs:List Value}(h:lgP C n p g=some cs):(∃id off vs,p = .pointer (some ⟨id,off,none⟩)/\eN g id=some vs/\cut vs off n=some cs)∨∃id off vs,p = .pointer (some ⟨id,off,some 1⟩)/\C.G id=some vs/\cut vs off n=some cs:=by
 unfold lgP at h
 split at h
 ·rename_i a
  split at h
  ·rename_i hs
   obtain⟨vs,h1,h2⟩:=qah.1 h
   obtain⟨b,f,sp⟩:=a
   simp only at hs
   subst hs
   exact .inl ⟨b,f,vs,rfl,h1,h2⟩
  ·rename_i k hs
   split at h
   ·rename_i hb
    obtain⟨vs,h1,h2⟩:=qah.1 h
    obtain⟨b,f,sp⟩:=a
    simp only at hs
    subst hs
    rw[qac hb]
    exact .inr ⟨b,f,vs,rfl,h1,h2⟩
   ·cases h
 ·cases h
theorem load_ok(hA:AlgOk A X.C Sg X.T holds abs)(hR:Rp ev σ)(ha:abs h=σ.heap){t:TypeId}{a:Operand}{sk:SK}{agg:Bool}(ho:o.op = .load t a)(hag:aggT X.C.P t=some agg)
  (hsk:agg=fZ sk) (hk:holds (loadE A X o.dst sk agg (if agg then X.C.P.cellsOf t else 1) a ev h K)):Done X holds abs o σ K:=by
 have heff:ai X.C X.pts (oval σ.tmps) o=cD X.C X.pts t a (oval σ.tmps a):=by simp only[ai,ho]
 unfold loadE at hk
 split at hk
 ·rename_i p hkey he
  obtain⟨h1,_⟩:=hR.sval he (by simp)
  obtain⟨cs,h2,hk1⟩:=hA.peek _ _ _ hk
  simp only[Pk.run]at h2
  rw[ha]at h2
  rcases lgP_ok h2 with⟨id,off,vs,rfl,h3,h4⟩|⟨id,off,vs,rfl,h3,h4⟩
  ·rw[og]at h3
   obtain⟨v,h5,h6⟩:=bR hag h4
   rw[hsk]at h6
   obtain⟨x,rfl,h7,hk2⟩:=iw hA h6 hk1
   refine eR hR ha (s:=.st x) h7 (f:=λH=>(dn H id).bind λvs=>cg X.C.P t vs off) ?_ ?_ hk2
   ·rw[heff,cD,hkey,h1];rfl
   ·simp only[h3,qae,h5];rfl
  ·obtain⟨v,h5,h6⟩:=bR hag h4
   rw[hsk]at h6
   obtain⟨x,rfl,h7,hk2⟩:=iw hA h6 hk1
   refine eR hR ha (s:=.st x) h7 (f:=λ_=>(X.C.G id).bind λvs=>cg X.C.P t vs off) ?_ ?_ hk2
   ·rw[heff,cD,hkey,h1];rfl
   ·simp only[h3,qae,h5];rfl
 ·rename_i g off hkey he
  obtain⟨h1,_⟩:=hR.sval he (by simp)
  split at hk
  ·rename_i vs hg
   split at hk
   ·rename_i cs hc
    obtain⟨v,h5,h6⟩:=bR hag hc
    have hval:ai X.C X.pts (oval σ.tmps) o=some (.val v):=by
     rw[heff,cD,hkey,h1]
     simp only[SV.val,en,if_true,qae,hg,h5,qap]
    split at hk
    ·rename_i x hsc hm
     obtain⟨hm1,hm2⟩:=kj hm
     have hcs:(cs.map slOf).map SL.val=cs:=by
      rw[qcL]
      have:(SL.val ∘ slOf)=id:=funext nO
      rw[this,List.map_id]
     rw[hcs]at hm2
     have hv:x.val=v:=by
      rcases hm2 with⟨a1,a2⟩|⟨a1,a2⟩<;>rcases h6 with⟨b1,b2⟩|⟨b1,b2⟩
      ·rw[a2,b2]
      ·rw[a1]at b1;cases b1
      ·rw[a1]at b1;cases b1
      ·rw[a2]at b2;simpa using b2
     subst hv
     refine am hR ha (s:=.st x) (λl hl=>?_) hval hk
     rw[hm1]at hl
     obtain⟨c,hc1,rfl⟩:=qaI.1 hl
     exact kQ (qad.1 hsc c hc1)
    ·rw[hsk]at h6
     obtain⟨x,rfl,h7,hk⟩:=iw hA h6 hk
     exact am hR ha (s:=.st x) h7 hval hk
   ·exact absurd hk hA.fail
  ·exact absurd hk hA.fail
 ·rename_i g base ix hkey he
  obtain⟨h1,_⟩:=hR.sval he (by simp)
  split at hk
  ·rename_i vs hg
   obtain⟨cs,hc,hk⟩:=hA.opt _ _ hk
   obtain⟨v,h5,h6⟩:=bR hag (vs:=vs) (off:=offX base ix) ((pickV_eq _ _ _ _).symm.trans hc)
   have hval:ai X.C X.pts (oval σ.tmps) o=some (.val v):=by
    rw[heff,cD,hkey,h1]
    simp only[SV.val,en,if_true,qae,hg,h5,qap]
   rw[hsk]at h6
   obtain⟨x,rfl,h7,hk⟩:=iw hA h6 hk
   exact am hR ha (s:=.st x) h7 hval hk
  ·exact absurd hk hA.fail
 ·rename_i p hkey he
  obtain⟨h1,_⟩:=hR.sval he (by simp)
  obtain⟨cs,hc,hk1⟩:=hA.opt _ _ hk
  unfold ldGv at hc
  split at hc
  ·rename_i ad
   split at hc
   ·rename_i hsp
    obtain⟨vs,hg,hc⟩:=qah.1 hc
    obtain⟨v,h5,h6⟩:=bR hag hc
    have hval:ai X.C X.pts (oval σ.tmps) o=some (.val v):=by
     rw[heff,cD,hkey,h1]
     simp only[SV.val,S0.val,SL.val,en,hsp,if_true,qae,hg,h5,qap]
    rw[hsk]at h6
    obtain⟨x,rfl,h7,hk2⟩:=iw hA h6 hk1
    exact am hR ha (s:=.st x) h7 hval hk2
   ·cases hc
  ·cases hc
 ·rename_i s s' off hkey he
  obtain⟨h1,_⟩:=hR.sval he (by simp)
  split at hk
  ·rename_i x hs hx
   have hs:s=s':=by simpa using hs
   subst hs
   obtain⟨cs,hr,hx⟩:=qah.1 hx
   obtain⟨ds,hd,hx⟩:=qah.1 hx
   obtain⟨r1,r2,_⟩:=gJ hR hr
   obtain⟨c1,c2⟩:=jJ hd
   obtain⟨v,h5,h6⟩:=bR hag c1
   obtain⟨hm1,hm2⟩:=kj hx
   have hv:x.val=v:=by
    rcases hm2 with⟨a1,a2⟩|⟨a1,a2⟩<;>rcases h6 with⟨b1,b2⟩|⟨b1,b2⟩
    ·rw[a2,b2]
    ·rw[a1]at b1;cases b1
    ·rw[a1]at b1;cases b1
    ·rw[a2]at b2;simpa using b2
   subst hv
   refine cq hR σ.heap ha (s:=.st x) (λl hl=>?_) (.inl ⟨.lget s λvs=>cg X.C.P t vs off,?_,(σ,x.val),?_,rfl⟩) hk
   ·rw[hm1]at hl;exact r2 l (c2 l hl)
   ·rw[heff,cD,hkey,h1]
    simp[SV.val,fG]
   ·simp[aB,r1,h5]
  ·exact absurd hk hA.fail
 ·rename_i s s' base ix hkey he
  obtain⟨h1,_⟩:=hR.sval he (by simp)
  split at hk
  ·rename_i cs hs hr
   have hs:s=s':=by simpa using hs
   subst hs
   split at hk
   ·rename_i hat
    simp only[qaa]at hat
    obtain⟨hat,hn⟩:=hat
    have hn:=qac hn
    obtain⟨ls,hp,hk1⟩:=hA.opt _ _ hk
    obtain⟨ds,hd,rfl⟩:=rr hp
    obtain⟨r1,r2,_⟩:=gJ hR hr
    obtain⟨c1,c2⟩:=jJ hd
    obtain⟨v,h5,h6⟩:=bR hag c1
    rw[hsk]at h6
    rw[hn]at hd
    obtain⟨x,rfl,h7,hk2⟩:=setL_ok hA (ja hat hd) (λc hc=>r2 c (c2 c hc)) h6 hk1
    refine cq hR σ.heap ha (s:=.st x) h7 (.inl ⟨.lget s λvs=>cg X.C.P t vs (offX base ix),?_,(σ,x.val),?_,rfl⟩) hk2
    ·rw[heff,cD,hkey,h1]
     simp[SV.val,fG]
    ·simp[aB,r1,h5]
   ·exact absurd hk hA.fail
  ·exact absurd hk hA.fail
 ·exact absurd hk hA.fail
theorem my{cs r new:List SL}{off:Nat}(hs:fi cs off new=some r):splice (cs.map SL.val) off (new.map SL.val)=some (r.map SL.val)/\r.length=cs.length/\((∀c∈cs,c.good)->(∀c∈new,c.good)->∀c∈r,c.good):=by
 unfold fi at hs
 unfold splice
 split at hs
 ·rename_i hle
  cases hs
  rw[if_pos (by simpa using hle)]
  refine⟨by simp[qb4,qb2],by simp;omega,λh1 h2 c hc=>?_⟩
  simp only[qax]at hc
  rcases hc with(hc|hc)|hc
  ·exact h1 c (qbd hc)
  ·exact h2 c hc
  ·exact h1 c (qbk hc)
 ·cases hs
theorem qw{P:Program}{t:TypeId}{x:S0}(hx:x.good)(hlen:x.cells.length=P.cellsOf t)(hi:(P.info? t).isSome=true)(vs:List Value)(off:Nat) :
  dc P t x.val vs off=splice vs off (x.cells.map SL.val):=by
 unfold dc
 have h1:=S0.cells_val hx
 rw[if_pos ⟨by rw[h1];simpa using hlen,hi⟩,if_pos (S0.cells_ok hx),h1]
theorem mU(hR:Rp ev σ)(ha:abs h=σ.heap){s:Nat}{cs:List SL}{f:List Value->Option (List Value)}{vs:List Value}(he:ai X.C X.pts (oval σ.tmps) o=some (.lset s f))(hloc:σ.loc[s]? = some (some vs))
  (hf:f vs=some (cs.map SL.val)) (hlen:(cs.map SL.val).length=vs.length) (hg:∀c∈cs,c.good) (hrow:fW X.pts o=some s)
  (hk:holds (setD o.dst .un ⟨ev.tm,ev.lc.set s (.row cs)⟩ h K)):Done X holds abs o σ K:=by
 let σ₁:St:={ σ with loc:=σ.loc.set s (some (cs.map SL.val)) }
 have hlt:s<σ.loc.length:=(qaK.1 hloc).1
 have hR1:Rp ⟨ev.tm,ev.lc.set s (.row cs)⟩ σ₁:=by
  refine⟨hR.len,hR.val,by simp[σ₁,hR.llen],λi r hr=>?_⟩
  simp only[qaD]at hr
  split at hr
  ·rename_i hi
   subst hi
   split at hr
   ·cases hr
    exact⟨by simp only[σ₁];rw[qbf hlt],hg⟩
   ·cases hr
  ·rename_i hi
   have:=hR.row i r hr
   have hne:σ₁.loc[i]? = σ.loc[i]?:=by simp only[σ₁];rw[qaE hi]
   cases r<;>first|trivial|(simp only[LR.ok]at this ⊢;rw[hne];exact this)
 obtain⟨ev',h1,h2⟩:=qo (dst:=o.dst) hR1 (s:=.un) trivial hk
 refine⟨σ₁.put o.dst undef,ev',h,.inl ⟨_,he,(σ₁,undef),by simp[aB,hloc,hf,σ₁],rfl⟩,h1,?_,?_,h2⟩
 ·rw[ha];cases o.dst<;>rfl
 ·have hf:=Fr.put (σ:=σ₁) o.dst undef (pf X.pts o).toList (fW X.pts o).toList
  have h0:Fr o.dst.toList (pf X.pts o).toList (fW X.pts o).toList σ σ₁:=by
   refine⟨rfl,by simp[σ₁],λ_ _ h _ _=>h,λ_ _ _ h _ _=>h,λi y hs hn=>?_,λi ws hs hn=>?_⟩
   ·rw[hrow]at hn
    simp only[Option.toList_some,qat]at hn
    simp only[σ₁]
    rw[qaE (λe=>hn e.symm)];exact hs
   ·by_cases hi:i=s
    ·subst hi
     rw[hloc]at hs
     cases hs
     exact⟨_,by simp only[σ₁];rw[qbf hlt],hlen⟩
    ·exact⟨ws,by simp only[σ₁];rw[qaE (λe=>hi e.symm)];exact hs,rfl⟩
  exact h0.trans hf
theorem stP_ok{p:Value}{new:List Value}{g:bz}{n:Nat}{acts:List Act1}{cs:List Value}(h:stP p new g n=some (acts,cs)) :
  ∃id off vs vs' e,p = .pointer (some ⟨id,off,none⟩)/\g id=some (.cells vs e true)/\splice vs off new=some vs'/\acts=[.set id (.cells vs' e true)]:=by
 unfold stP at h
 split at h
 ·rename_i a
  split at h
  ·rename_i hs
   split at h
   ·rename_i vs e hg
    obtain⟨vs',h1,h2⟩:=qab.1 h
    obtain⟨b,f,sp⟩:=a
    simp only at hs
    subst hs
    cases h2
    exact⟨b,f,vs,vs',e,rfl,hg,h1,rfl⟩
   ·cases h
  ·cases h
 ·cases h
theorem store_ok(hA:AlgOk A X.C Sg X.T holds abs)(hR:Rp ev σ)(ha:abs h=σ.heap){t:TypeId}{a y:Operand}{x:S0}(ho:o.op = .store t a y)(hy:sval ev y = .st x)
  (hk:holds (storeE A X o.dst t a x ev h K)):Done X holds abs o σ K:=by
 obtain⟨hy1,hx⟩:=hR.sval hy (by simp)
 have hx:x.good:=hx
 have heff:ai X.C X.pts (oval σ.tmps) o=da X.C X.pts t a (oval σ.tmps a) x.val:=by simp only[ai,ho,hy1];rfl
 have hnt:=S0.not_tuple hx
 unfold storeE at hk
 split at hk
 ·exact absurd hk hA.fail
 ·rename_i hc
  simp only[qaa]at hc
  obtain⟨hlen,hi⟩:=hc
  have hlen:=qac hlen
  have hw:=qw (P:=X.C.P) (t:=t) hx hlen hi
  split at hk
  ·rename_i p hkey he
   obtain⟨h1,_⟩:=hR.sval he (by simp)
   obtain⟨acts,cs,h',h2,h3,hk1⟩:=hA.heap _ _ _ hk
   simp only[Hp.run]at h2
   rw[ha]at h2 h3
   obtain⟨id,off,vs,vs',e,rfl,g1,g2,rfl⟩:=stP_ok h2
   refine bX (s:=.un) hR (H':=σ.heap.set id (.cells vs' e true)) h3 trivial (f:=fU X.C t id off x.val) ?_ ?_ hk1
   ·rw[heff,da,hnt,hkey,h1];rfl
   ·simp only[fU,g1,hw,g2,qap];rfl
  ·rename_i s s' off hkey he
   obtain⟨h1,_⟩:=hR.sval he (by simp)
   have hrow:fW X.pts o=some s:=by simp only[fW,ho,hkey]
   split at hk
   ·rename_i cs hs hst
    have hs:s=s':=by simpa using hs
    subst hs
    rw[setK_eq]at hk
    have heff2:ai X.C X.pts (oval σ.tmps) o=some (.lset s λvs=>dc X.C.P t x.val vs off):=by
     rw[heff,da,hnt,hkey,h1]
     simp[SV.val,fG]
    have hrow0:ev.lc[s]? = some (ev.lc.getD s .unk)∨ev.lc.getD s .unk = .unk:=by
     rw[List.getD_eq_getElem?_getD]
     cases ev.lc[s]?<;>simp
    unfold storeR at hst
    split at hst
    ·rename_i cs0 hl
     obtain⟨q1,q2,q3⟩:=my hst
     have hlc:ev.lc[s]? = some (.row cs0):=by rcases hrow0 with h|h<;>rw[hl]at h<;>first|exact h|cases h
     have hr:=hR.row s _ hlc
     exact mU hR ha heff2 hr.1 (by rw[hw];exact q1) (by simp[q2]) (q3 hr.2 hx) hrow hk
    ·rename_i n hl
     split at hst
     ·rename_i hz
      cases hst
      simp only[qaa]at hz
      have hz1:=qac hz.1
      have hz2:=qac hz.2
      have hlc:ev.lc[s]? = some (.any n):=by rcases hrow0 with h|h<;>rw[hl]at h<;>first|exact h|cases h
      obtain⟨vs,hv1,hv2⟩:=hR.row s _ hlc
      refine mU hR ha heff2 hv1 ?_ (by rw[hv2,hz2];simp) hx hrow hk
      rw[hw,hz1,splice,if_pos (by simp;omega)]
      simp[show vs.length<=x.cells.length by omega]
     ·cases hst
    ·cases hst
   ·exact absurd hk hA.fail
  ·rename_i s s' base ix hkey he
   obtain⟨h1,_⟩:=hR.sval he (by simp)
   have hrow:fW X.pts o=some s:=by simp only[fW,ho,hkey]
   split at hk
   ·rename_i cs hs hr
    have hs:s=s':=by simpa using hs
    subst hs
    split at hk
    ·exact absurd hk hA.fail
    ·rename_i hat
     obtain⟨ls,hp,hk1⟩:=hA.opt _ _ hk
     obtain⟨cs',r,e1,e2,hk2⟩:=mC hA hk1
     obtain⟨hr0,hk3⟩:=hA.un0 _ _ hk2
     rw[hr0,qaL]at e1
     rw[setK_eq]at hk3
     obtain⟨r1,r2,_⟩:=gJ hR hr
     have heff2:ai X.C X.pts (oval σ.tmps) o=some (.lset s λvs=>dc X.C.P t x.val vs (offX base ix)):=by
      rw[heff,da,hnt,hkey,h1]
      simp[SV.val,fG]
     rw[putL_eq]at hp
     split at hp
     ·rename_i hle
      simp only[qbB]at hle
      let off:=offX base ix
      have hmid:cutS cs off x.cells.length=some ((cs.drop off).take x.cells.length):=by unfold cutS;rw[if_pos hle]
      have hk0:aD ((cs.drop off).take x.cells.length) (x.cells.map SL.lk)=true:=ja hat (by rw[qbB];exact hmid)
      let new:=cs.take off++x.cells++cs.drop (off+x.cells.length)
      have hsp:fi cs off x.cells=some new:=by unfold fi;rw[if_pos hle]
      obtain⟨q1,q2,q3⟩:=my hsp
      have hkinds:aD new (cs.map SL.lk)=true:=by
       have hsplit:cs=cs.take off++(cs.drop off).take x.cells.length++cs.drop (off+x.cells.length):=by
        rw[qay,←qba,qbK,qbK]
       have hlk:∀ {a b:List SL},aD a (b.map SL.lk)=true->a.map SL.lk=b.map SL.lk:=by
        intro a b hab
        induction a generalizing b with
        |nil=>cases b with
         |nil=>rfl
         |cons _ _=>cases hab
        |cons a as0 ih=>cases b with
         |nil=>cases hab
         |cons b bs=>
          simp only[qau,aD,qaa]at hab
          simp only[qau,ih hab.2]
          have:a.lk=b.lk:=by
           have h0:=hab.1
           cases a<;>cases b<;>first|rfl|(simp[SL.is,SL.lk]at h0;done)|(simp only[SL.is,SL.lk]at h0 ⊢;rw[cA h0])
          rw[this]
       have hm:cs.map SL.lk=(cs.take off).map SL.lk++x.cells.map SL.lk++(cs.drop (off+x.cells.length)).map SL.lk:=by
        conv=>lhs;rw[hsplit]
        simp only[qbZ]
        rw[hlk hk0]
       rw[hm]
       exact eJ (eJ (jb _) (jb _)) (jb _)
      have hlf:new.map SL.lf=cs'.map SL.lf:=by
       rw[←e1]
       cases hp
       simp[new,off,qb4,qb2]
      obtain⟨v1,v2⟩:=eK hkinds e2 hlf
      refine mU hR ha heff2 r1 (by rw[hw,←v1];exact q1) (by rw[←v1];simp[q2]) (v2 (q3 r2 hx)) hrow hk3
     ·cases hp
   ·exact absurd hk hA.fail
  ·exact absurd hk hA.fail
end
end Go.Am

end

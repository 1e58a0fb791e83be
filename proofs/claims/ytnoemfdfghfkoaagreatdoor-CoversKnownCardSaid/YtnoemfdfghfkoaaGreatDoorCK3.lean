/-
  PART 3 OF THE PROOF: Gf Am7 Am8 Am8b Am8c Sx5 Ht1 Sx4 (no conditions).
-/
import Derived.Test.YtnoemfdfghfkoaaGreatDoorCK2
import Derived.IntWalk
set_option linter.unusedSectionVars false
set_option linter.unusedSimpArgs false
set_option linter.unusedVariables false
set_option linter.constructorNameAsVariable false
set_option linter.defProp false
/-
 WHAT EACH FUNCTION DOES,BY PROGRAM.
-/
set_option maxRecDepth 100000
namespace Go.Am
section
variable {R HT:Type} (A:Alg R HT)
/-- crimp/crimplaw21.CoversKnown -/
noncomputable def f4(ls:List Lf)(h:HT)(K:List Lf→HT→R):R:=A.un0 ls ( A.loop (fun O a4 U=>A.unI a4 (fun n9 a5=>A.unI a5 (fun n11 a6=>A.un0 a6 ( A.cmp .lss n11 (.ofNat 12) (fun a7=>A.cond a7 ( A.conv .u8 n9 (fun n14=>A.conv .u8 n11 (fun n15=>A.loop (fun a8 a9 V=>A.unI a9 (fun n19 b0=>A.unI b0 (fun n21 b1=>A.unI b1 (fun n23 b2=>A.unI b2 (fun n25 b3=>A.unV b3 (fun J b4=>A.un0 b4 ( A.cmp .lss n21 n11 (fun b5=>A.cond b5 ( A.conv .u8 n19 (fun n30=>A.ari .quo .i64 n19 (.ofNat 7) (fun n31=>A.conv .u8 n31 (fun n32=>A.new (.cells [(.int .u8 n30),(.int .u8 n32)] 2 true) V (fun b6 b7=>A.heap (.ap cc 2 2 J (.slice (some ⟨b6,0,(some 12)⟩) 1 2)) b7 (fun b8 b9=>A.ucV b8 (fun a0 c0=>A.chk a0 ( A.uc0 c0 ( A.ari .mul .i64 n19 (.ofNat 31) (fun n39=>A.ari .mul .i64 (.ofNat 7) n21 (fun n40=>A.ari .add .i64 n39 n40 (fun n41=>A.ari .add .i64 n41 (.ofNat 11) (fun c1=>A.ari .rem .i64 c1 (.ofNat 100003) (fun n43=>A.ari .add .i64 n21 (.ofNat 1) (fun n44=>a8 [(.i n43),(.i n44),(.i n23),(.i n25),(.v a0)] b9))))))))))))))) ( A.call 11 [(.i n23),(.i n25),(.v J)] V (fun d0 a1=>A.unB d0 (fun d1 d2=>A.un0 d2 ( A.cond (!d1) ( K [(.b false)] a1) ( A.call 12 [(.i n23),(.i n25),(.v J)] a1 (fun d3 a2=>A.unB d3 (fun d4 d5=>A.un0 d5 ( A.cond (!d4) ( K [(.b false)] a2) ( A.conv .u8 n19 (fun n53=>A.conv .u8 n11 (fun n54=>A.new (.cells [(.int .u8 n53),(.int .u8 (.ofNat 1)),(.int .u8 n54)] 1 true) a2 (fun d6 d7=>A.conv .u8 n19 (fun d8=>A.call 13 [(.i n23),(.i n25),(.v J),(.v (.slice (some ⟨d6,0,(some 11)⟩) 3 4)),(.i d8)] d7 (fun d9 M=>A.unB d9 (fun e0 e1=>A.un0 e1 ( A.cond (!e0) ( K [(.b false)] M) ( A.cmp .lss n11 (.ofNat 4) (fun e2=>A.cond e2 ( A.call 14 [(.i n23),(.i n25),(.v J)] M (fun e3 a3=>A.unB e3 (fun f0 f1=>A.un0 f1 ( A.join (fun f2 f3=>A.un0 f2 ( A.ari .add .i64 n11 (.ofNat 1) (fun n69=>O [(.i n19),(.i n69)] f3))) (fun gl=>A.cond (!f0) ( K [(.b false)] a3) ( gl [] a3)))))) ( A.ari .add .i64 n11 (.ofNat 1) (fun n71=>O [(.i n19),(.i n71)] M)))))))))))))))))))))))))))) [(.i n9),(.i (.ofNat 0)),(.i n14),(.i n15),(.v (.slice none 0 0))] U))) ( A.call 10 [] U (fun g0 g1=>A.unB g0 (fun g2 g3=>A.un0 g3 ( K [(.b g2)] g1))))))))) [(.i (.ofNat 1)),(.i (.ofNat 0))] h)
/-- crimp/crimplaw21.Set -/
noncomputable def f5(ls:List Lf)(h:HT)(K:List Lf→HT→R):R:=A.unV ls (fun a0 a8=>A.un0 a8 ( A.loop (fun a9 b0 a1=>A.unV b0 (fun J b1=>A.unI b1 (fun n13 b2=>A.un0 b2 ( A.opt (lenS a0) (fun b3=>A.cmp .lss n13 b3 (fun b4=>A.cond b4 ( A.loop (fun b5 b6 O=>A.unV b6 (fun a2 b7=>A.unI b7 (fun n22 b8=>A.un0 b8 ( A.cmp .lss n22 (.ofNat 4) (fun b9=>A.cond b9 ( A.opt (idS 3 a0 n13) (fun c0=>A.opt (fdP 0 c0) (fun a3=>A.chk a3 ( A.peek (.lg cc 1 a3) O (fun c1=>A.ucI .i64 c1 (fun n28 d0=>A.uc0 d0 ( A.opt (idS 3 a0 n13) (fun d1=>A.opt (fdP 1 d1) (fun a4=>A.chk a4 ( A.peek (.lg cc 1 a4) O (fun d2=>A.ucI .i64 d2 (fun n33 d3=>A.uc0 d3 ( A.new (.cells [(.int .i64 n28),(.int .i64 n33),(.int .u8 n22)] 3 true) O (fun d4 d5=>A.heap (.ap cc 3 24 a2 (.slice (some ⟨d4,0,(some 13)⟩) 1 2)) d5 (fun d6 d7=>A.ucV d6 (fun a5 d8=>A.chk a5 ( A.uc0 d8 ( A.ari .add .u8 n22 (.ofNat 1) (fun n41=>b5 [(.v a5),(.i n41)] d7))))))))))))))))))) ( A.ari .add .i64 n13 (.ofNat 1) (fun d9=>a9 [(.v a2),(.i d9)] O))))))) [(.v J),(.i (.ofNat 0))] a1) ( A.loop (fun e0 e1 a6=>A.unI e1 (fun n46 e2=>A.un0 e2 ( A.opt (lenS J) (fun e3=>A.cmp .lss n46 e3 (fun f0=>A.cond f0 ( A.join (fun f1 f2=>A.un0 f1 ( A.ari .add .i64 n46 (.ofNat 1) (fun n52=>e0 [(.i n52)] f2))) (fun a7=>A.loop (fun f3 gl U=>A.unI gl (fun M g0=>A.un0 g0 ( A.cmp .gtr M (.ofNat 0) (fun g1=>A.cond g1 ( A.opt (idS 3 J M) (fun g2=>A.peek (.lg cc 3 g2) U (fun g3=>A.ucI .i64 g3 (fun n62 g4=>A.ucI .i64 g4 (fun n64 g5=>A.ucI .u8 g5 (fun n66 g6=>A.uc0 g6 ( A.ari .sub .i64 M (.ofNat 1) (fun n68=>A.opt (idS 3 J n68) (fun g7=>A.peek (.lg cc 3 g7) U (fun g8=>A.ucI .i64 g8 (fun n71 g9=>A.ucI .i64 g9 (fun n73 h0=>A.ucI .u8 h0 (fun n75 h1=>A.uc0 h1 ( A.call 15 [(.i n62),(.i n64),(.i n66),(.i n71),(.i n73),(.i n75)] U (fun h2 V=>A.unB h2 (fun h3 h4=>A.un0 h4 ( A.cond h3 ( A.ari .sub .i64 M (.ofNat 1) (fun h5=>A.ari .sub .i64 M (.ofNat 1) (fun n82=>A.opt (idS 3 J n82) (fun h6=>A.peek (.lg cc 3 h6) V (fun h7=>A.ucI .i64 h7 (fun n85 h8=>A.ucI .i64 h8 (fun n87 h9=>A.ucI .u8 h9 (fun n89 i0=>A.uc0 i0 ( A.opt (idS 3 J M) (fun i1=>A.peek (.lg cc 3 i1) V (fun i2=>A.ucI .i64 i2 (fun i3 j0=>A.ucI .i64 j0 (fun j1 j2=>A.ucI .u8 j2 (fun j3 j4=>A.uc0 j4 ( A.opt (idS 3 J M) (fun j5=>A.heap (.st j5 [(.int .i64 n85),(.int .i64 n87),(.int .u8 n89)]) V (fun j9 j6=>A.opt (idS 3 J h5) (fun j7=>A.heap (.st j7 [(.int .i64 i3),(.int .i64 j1),(.int .u8 j3)]) j6 (fun kw j8=>A.ari .sub .i64 M (.ofNat 1) (fun n105=>f3 [(.i n105)] j8)))))))))))))))))))) ( a7 [] V)))))))))))))))))) ( a7 [] U))))) [(.i n46)] a6)) ( K [(.v J)] a6)))))) [(.i (.ofNat 1))] a1))))))) [(.v (.slice none 0 0)),(.i (.ofNat 0))] h))
/-- crimp/covers.Walk -/
noncomputable def f6(ls:List Lf)(h:HT)(K:List Lf→HT→R):R:=A.unV ls (fun M c0=>A.un0 c0 ( A.new (.cells [(.slice none 0 0)] 1 true) h (fun J c1=>A.call 16 [(.v M)] c1 (fun d0 a4=>A.unI d0 (fun n12 d1=>A.un0 d1 ( A.cmp .neq n12 (.ofNat 0) (fun d2=>A.cond d2 ( A.heap (.st (.pointer (some ⟨J,0,none⟩)) [(.slice none 0 0)]) a4 (fun j0 a5=>A.peek (.ld 1 (.pointer (some ⟨J,0,none⟩))) a5 (fun d3=>A.ucV d3 (fun a6 d4=>A.chk a6 ( A.uc0 d4 ( K [(.v a6),(.i (.ofNat 0)),(.i (.ofNat 0)),(.i (.ofNat 0)),(.i n12)] a5)))))) ( A.call 17 [(.v M)] a4 (fun d5 d6=>A.unV d5 (fun d7 d8=>A.un0 d8 ( A.new (.cells [(.map none)] 1 true) d6 (fun V d9=>A.heap (.st (.pointer (some ⟨V,0,none⟩)) [d7]) d9 (fun j1 a0=>A.opt (idS 3 M (.ofNat 0)) (fun e0=>A.opt (fdP 0 e0) (fun a7=>A.chk a7 ( A.peek (.lg cc 1 a7) a0 (fun e1=>A.ucI .i64 e1 (fun n31 e2=>A.uc0 e2 ( A.opt (idS 3 M (.ofNat 0)) (fun e3=>A.opt (fdP 1 e3) (fun a8=>A.chk a8 ( A.peek (.lg cc 1 a8) a0 (fun f0=>A.ucI .i64 f0 (fun n36 f1=>A.uc0 f1 ( A.new (.cells [(.int .i64 (.ofNat 0))] 1 true) a0 (fun a1 f2=>A.heap (.st (.pointer (some ⟨a1,0,none⟩)) [(.int .i64 (.ofNat 0))]) f2 (fun j2 f3=>A.new (.cells [(.int .i64 (.ofNat 0))] 1 true) f3 (fun O gl=>A.heap (.st (.pointer (some ⟨O,0,none⟩)) [(.int .i64 (.ofNat 0))]) gl (fun j3 g0=>A.new (.cells [.nilFunc] 1 true) g0 (fun U g1=>A.chk (.func (.func 18) ⟨[]⟩ ⟨[(.pointer (some ⟨V,0,none⟩)),(.pointer (some ⟨J,0,none⟩)),(.pointer (some ⟨O,0,none⟩)),(.pointer (some ⟨a1,0,none⟩)),(.pointer (some ⟨U,0,none⟩))]⟩) ( A.heap (.st (.pointer (some ⟨U,0,none⟩)) [(.func (.func 18) ⟨[]⟩ ⟨[(.pointer (some ⟨V,0,none⟩)),(.pointer (some ⟨J,0,none⟩)),(.pointer (some ⟨O,0,none⟩)),(.pointer (some ⟨a1,0,none⟩)),(.pointer (some ⟨U,0,none⟩))]⟩)]) g1 (fun j4 a9=>A.peek (.lg cc 1 (.pointer (some ⟨U,0,none⟩))) a9 (fun g2=>A.ucV g2 (fun b0 g3=>A.chk b0 ( A.uc0 g3 ( A.callv b0 [(.agg ⟨[(.int .i64 n31),(.int .i64 n36),(.int .u8 (.ofNat 0))]⟩)] [] a9 (fun g4 a2=>A.un0 g4 ( A.peek (.lg cc 1 (.pointer (some ⟨J,0,none⟩))) a2 (fun g5=>A.ucV g5 (fun b1 g6=>A.chk b1 ( A.uc0 g6 ( A.peek (.lg cc 1 (.pointer (some ⟨O,0,none⟩))) a2 (fun g7=>A.ucI .i64 g7 (fun n59 g8=>A.uc0 g8 ( A.opt (slS 1 b1 none (some n59) none) (fun b2=>A.chk b2 ( A.call 20 [(.v b2)] a2 (fun g9 h0=>A.unV g9 (fun h1 h2=>A.un0 h2 ( A.heap (.st (.pointer (some ⟨J,0,none⟩)) [h1]) h0 (fun j5 b3=>A.peek (.lg cc 1 (.pointer (some ⟨J,0,none⟩))) b3 (fun h3=>A.ucV h3 (fun b4 h4=>A.chk b4 ( A.uc0 h4 ( A.call 21 [(.v b4)] b3 (fun h5 a3=>A.unI h5 (fun n73 h6=>A.un0 h6 ( A.cmp .neq n73 (.ofNat 0) (fun h7=>A.cond h7 ( A.heap (.st (.pointer (some ⟨J,0,none⟩)) [(.slice none 0 0)]) a3 (fun j6 b5=>A.peek (.ld 1 (.pointer (some ⟨J,0,none⟩))) b5 (fun h8=>A.ucV h8 (fun b6 h9=>A.chk b6 ( A.uc0 h9 ( K [(.v b6),(.i (.ofNat 0)),(.i (.ofNat 0)),(.i (.ofNat 0)),(.i n73)] b5)))))) ( A.peek (.lg cc 1 (.pointer (some ⟨J,0,none⟩))) a3 (fun i0=>A.ucV i0 (fun b7 i1=>A.chk b7 ( A.uc0 i1 ( A.heap (.st (.pointer (some ⟨J,0,none⟩)) [b7]) a3 (fun j7 b8=>A.peek (.ld 1 (.pointer (some ⟨J,0,none⟩))) b8 (fun i2=>A.ucV i2 (fun b9 i3=>A.chk b9 ( A.uc0 i3 ( K [(.v b9),(.i n31),(.i n36),(.i (.ofNat 0)),(.i (.ofNat 0))] b8)))))))))))))))))))))))))))))))))))))))))))))))))))))))))))))))))))))
/-- crimp/covers.Covers -/
noncomputable def f7(ls:List Lf)(h:HT)(K:List Lf→HT→R):R:=A.unV ls (fun M a6=>A.unV a6 (fun a7 a8=>A.unI a8 (fun n10 a9=>A.unI a9 (fun n12 b0=>A.unI b0 (fun n14 b1=>A.un0 b1 ( A.call 16 [(.v M)] h (fun b2 V=>A.unI b2 (fun n18 b3=>A.un0 b3 ( A.cmp .neq n18 (.ofNat 0) (fun b4=>A.cond b4 ( K [(.b false),(.i n18)] V) ( A.call 22 [(.v a7)] V (fun b5 O=>A.unV b5 (fun J b6=>A.unI b6 (fun n25 b7=>A.un0 b7 ( A.cmp .neq n25 (.ofNat 0) (fun b8=>A.cond b8 ( K [(.b false),(.i n25)] O) ( A.cmp .neq n14 (.ofNat 0) (fun b9=>A.cond b9 ( K [(.b false),(.i (.ofNat 1))] O) ( A.call 23 [(.v M),(.i n10),(.i n12),(.i n14)] O (fun c0 a0=>A.unB c0 (fun c1 d0=>A.un0 d0 ( A.cond (!c1) ( K [(.b false),(.i (.ofNat 1))] a0) ( A.opt (lenS J) (fun d1=>A.loop (fun d2 d3 U=>A.unI d3 (fun n37 d4=>A.un0 d4 ( A.cmp .lss n37 d1 (fun d5=>A.cond d5 ( A.opt (idS 3 J n37) (fun d6=>A.opt (fdP 0 d6) (fun a1=>A.chk a1 ( A.peek (.lg cc 1 a1) U (fun d7=>A.ucI .i64 d7 (fun n43 d8=>A.uc0 d8 ( A.ari .add .i64 n43 n10 (fun n45=>A.opt (idS 3 J n37) (fun d9=>A.opt (fdP 0 d9) (fun a2=>A.chk a2 ( A.heap (.st a2 [(.int .i64 n45)]) U (fun g0 a3=>A.opt (idS 3 J n37) (fun e0=>A.opt (fdP 1 e0) (fun a4=>A.chk a4 ( A.peek (.lg cc 1 a4) a3 (fun e1=>A.ucI .i64 e1 (fun n53 e2=>A.uc0 e2 ( A.ari .add .i64 n53 n12 (fun n55=>A.opt (idS 3 J n37) (fun e3=>A.opt (fdP 1 e3) (fun a5=>A.chk a5 ( A.heap (.st a5 [(.int .i64 n55)]) a3 (fun g1 f0=>A.ari .add .i64 n37 (.ofNat 1) (fun n60=>d2 [(.i n60)] f0)))))))))))))))))))))))) ( A.call 24 [(.v J),(.v M)] U (fun f1 f2=>A.unB f1 (fun f3 gl=>A.un0 gl ( K [(.b f3),(.i (.ofNat 0))] f2)))))))) [(.i (.ofNat 0))] a0))))))))))))))))))))))))
/-- crimp/ribbons.Length -/
noncomputable def f8(ls:List Lf)(h:HT)(K:List Lf→HT→R):R:=A.unV ls (fun J a0=>A.un0 a0 ( A.call 21 [(.v J)] h (fun a1 O=>A.unI a1 (fun n10 a2=>A.un0 a2 ( A.cmp .neq n10 (.ofNat 0) (fun a3=>A.cond a3 ( K [(.i (.ofNat 0)),(.i n10)] O) ( A.opt (lenS J) (fun a4=>A.loop (fun a5 a6 M=>A.unI a6 (fun n17 a7=>A.unI a7 (fun n19 a8=>A.un0 a8 ( A.cmp .lss n19 a4 (fun a9=>A.cond a9 ( A.opt (idS 1 J n19) (fun b0=>A.peek (.lg cc 1 b0) M (fun b1=>A.ucI .u8 b1 (fun n24 b2=>A.uc0 b2 ( A.call 25 [(.i n24)] M (fun b3 U=>A.unB b3 (fun b4 b5=>A.un0 b5 ( A.join (fun b6 b7=>A.unI b6 (fun n32 b8=>A.un0 b8 ( A.ari .add .i64 n19 (.ofNat 1) (fun n34=>a5 [(.i n32),(.i n34)] b7)))) (fun V=>A.cond (!b4) ( A.ari .add .i64 n17 (.ofNat 1) (fun n36=>V [(.i n36)] U)) ( V [(.i n17)] U)))))))))) ( K [(.i n17),(.i (.ofNat 0))] M)))))) [(.i (.ofNat 1)),(.i (.ofNat 0))] O))))))))
/-- crimp/covers.Squares -/
noncomputable def f9(ls:List Lf)(h:HT)(K:List Lf→HT→R):R:=A.unV ls (fun J O=>A.un0 O ( A.call 16 [(.v J)] h (fun U M=>A.unI U (fun n10 V=>A.un0 V ( A.cmp .neq n10 (.ofNat 0) (fun a0=>A.cond a0 ( K [(.i (.ofNat 0)),(.i n10)] M) ( A.opt (lenS J) (fun a1=>A.ari .quo .i64 a1 (.ofNat 4) (fun n14=>K [(.i n14),(.i (.ofNat 0))] M)))))))))
/-- crimp/crimplaw21.lives -/
noncomputable def f10(ls:List Lf)(h:HT)(K:List Lf→HT→R):R:=A.un0 ls ( A.new (.cells [(.int .i64 (.ofNat 0)),(.int .i64 (.ofNat 0)),(.int .u8 (.ofNat 0))] 3 true) h (fun a3 a4=>A.new (.cells [(.int .i64 (.ofNat 0)),(.int .i64 (.ofNat 0)),(.int .u8 (.ofNat 0)),(.int .i64 (.ofNat 1)),(.int .i64 (.ofNat 0)),(.int .u8 (.ofNat 0))] 3 true) a4 (fun a5 a6=>A.new (.cells [(.int .i64 (.ofNat 0)),(.int .i64 (.ofNat 0)),(.int .u8 (.ofNat 0)),(.int .i64 (.ofNat 0)),(.int .i64 (.ofNat 1)),(.int .u8 (.ofNat 0))] 3 true) a6 (fun a7 a8=>A.new (.cells [(.int .i64 (.ofNat 0)),(.int .i64 (.ofNat 0)),(.int .u8 (.ofNat 0)),(.int .i64 (.ofNat 1)),(.int .i64 (.ofNat 0)),(.int .u8 (.ofNat 0)),(.int .i64 (.ofNat 2)),(.int .i64 (.ofNat 0)),(.int .u8 (.ofNat 0))] 3 true) a8 (fun a9 b0=>A.new (.cells [(.int .i64 (.ofNat 0)),(.int .i64 (.ofNat 0)),(.int .u8 (.ofNat 0)),(.int .i64 (.ofNat 1)),(.int .i64 (.ofNat 0)),(.int .u8 (.ofNat 0)),(.int .i64 (.ofNat 0)),(.int .i64 (.ofNat 1)),(.int .u8 (.ofNat 0))] 3 true) b0 (fun b1 b2=>A.new (.cells [(.slice (some ⟨a3,0,(some 13)⟩) 1 2),(.slice (some ⟨a5,0,(some 13)⟩) 2 3),(.slice (some ⟨a7,0,(some 13)⟩) 2 3),(.slice (some ⟨a9,0,(some 13)⟩) 3 4),(.slice (some ⟨b1,0,(some 13)⟩) 3 4)] 1 true) b2 (fun a0 b3=>A.new (.cells [(.string (.mk ⟨[]⟩)),(.string (.mk ⟨[.ofNat 102]⟩)),(.string (.mk ⟨[.ofNat 98,.ofNat 114,.ofNat 102]⟩)),(.string (.mk ⟨[.ofNat 102,.ofNat 102]⟩)),(.string (.mk ⟨[.ofNat 102,.ofNat 98,.ofNat 102,.ofNat 98,.ofNat 108,.ofNat 102]⟩))] 1 true) b3 (fun b4 b5=>A.new (.cells [(.int .i64 (.ofNat 1)),(.int .i64 (.ofNat 2)),(.int .i64 (.ofNat 3)),(.int .i64 (.ofNat 3)),(.int .i64 (.ofNat 6))] 1 true) b5 (fun b6 b7=>A.new (.cells [(.int .i64 (.ofNat 1)),(.int .i64 (.ofNat 2)),(.int .i64 (.ofNat 3)),(.int .i64 (.ofNat 3)),(.int .i64 (.ofNat 5))] 1 true) b7 (fun b8 b9=>A.loop (fun c0 c1 O=>A.unI c1 (fun n27 d0=>A.un0 d0 ( A.opt (lenS (.slice (some ⟨a0,0,(some 11)⟩) 5 6)) (fun d1=>A.cmp .lss n27 d1 (fun d2=>A.cond d2 ( A.opt (idS 1 (.slice (some ⟨a0,0,(some 11)⟩) 5 6) n27) (fun d3=>A.peek (.lg cc 1 d3) O (fun d4=>A.ucV d4 (fun a1 d5=>A.chk a1 ( A.uc0 d5 ( A.call 5 [(.v a1)] O (fun d6 d7=>A.unV d6 (fun U d8=>A.un0 d8 ( A.call 6 [(.v U)] d7 (fun d9 e0=>A.unV d9 (fun V e1=>A.unI e1 (fun n43 e2=>A.unI e2 (fun n45 e3=>A.unI e3 (fun n47 f0=>A.unI f0 (fun n49 f1=>A.un0 f1 ( A.call 8 [(.v V)] e0 (fun f2 f3=>A.unI f2 (fun n53 gl=>A.unI gl (fun n55 g0=>A.un0 g0 ( A.call 26 [(.v U)] f3 (fun g1 g2=>A.unI g1 (fun n59 g3=>A.unI g3 (fun n61 g4=>A.un0 g4 ( A.call 7 [(.v U),(.v V),(.i n43),(.i n45),(.i n47)] g2 (fun g5 M=>A.unB g5 (fun g6 g7=>A.unI g7 (fun n67 g8=>A.un0 g8 ( A.cmp .neq n49 (.ofNat 0) (fun g9=>A.cond g9 ( K [(.b false)] M) ( A.cmp .neq n55 (.ofNat 0) (fun h0=>A.cond h0 ( K [(.b false)] M) ( A.cmp .neq n61 (.ofNat 0) (fun h1=>A.cond h1 ( K [(.b false)] M) ( A.cmp .neq n67 (.ofNat 0) (fun h2=>A.cond h2 ( K [(.b false)] M) ( A.cond (!g6) ( K [(.b false)] M) ( A.call 27 [(.v V)] M (fun h3 J=>A.unV h3 (fun h4 h5=>A.un0 h5 ( A.opt (idS 1 (.slice (some ⟨b4,0,(some 11)⟩) 5 6) n27) (fun h6=>A.peek (.lg cc 1 h6) J (fun h7=>A.ucV h7 (fun a2 h8=>A.chk a2 ( A.uc0 h8 ( A.opt (rq h4 a2) (fun h9=>A.cond (!h9) ( K [(.b false)] J) ( A.opt (idS 1 (.slice (some ⟨b6,0,(some 11)⟩) 5 6) n27) (fun i0=>A.peek (.lg cc 1 i0) J (fun i1=>A.ucI .i64 i1 (fun n84 i2=>A.uc0 i2 ( A.cmp .neq n53 n84 (fun i3=>A.cond i3 ( K [(.b false)] J) ( A.opt (idS 1 (.slice (some ⟨b8,0,(some 11)⟩) 5 6) n27) (fun j0=>A.peek (.lg cc 1 j0) J (fun j1=>A.ucI .i64 j1 (fun n89 j2=>A.uc0 j2 ( A.cmp .neq n59 n89 (fun j3=>A.cond j3 ( K [(.b false)] J) ( A.eqs [((.i n43),(.i (.ofNat 0))),((.i n45),(.i (.ofNat 0))),((.i n47),(.i (.ofNat 0)))] (fun j4=>A.cond (!j4) ( K [(.b false)] J) ( A.ari .add .i64 n27 (.ofNat 1) (fun j5=>c0 [(.i j5)] J)))))))))))))))))))))))))))))))))))))))))))))))))))))))))))))) ( K [(.b true)] O)))))) [(.i (.ofNat 0))] b9))))))))))
/-- crimp/crimplaw21.CoversWalk -/
noncomputable def f11(ls:List Lf)(h:HT)(K:List Lf→HT→R):R:=A.unI ls (fun n6 a1=>A.unI a1 (fun n8 a2=>A.unV a2 (fun a3 a4=>A.un0 a4 ( A.call 28 [(.i n6),(.i n8),(.v a3)] h (fun a5 a6=>A.unV a5 (fun a0 a7=>A.un0 a7 ( A.call 5 [(.v a0)] a6 (fun a8 a9=>A.unV a8 (fun M b0=>A.un0 b0 ( A.call 6 [(.v M)] a9 (fun b1 b2=>A.unV b1 (fun O b3=>A.unI b3 (fun n24 b4=>A.unI b4 (fun n26 b5=>A.unI b5 (fun n28 b6=>A.unI b6 (fun n30 b7=>A.un0 b7 ( A.call 7 [(.v M),(.v O),(.i n24),(.i n26),(.i n28)] b2 (fun b8 b9=>A.unB b8 (fun c0 c1=>A.unI c1 (fun n36 d0=>A.un0 d0 ( A.call 8 [(.v O)] b9 (fun d1 d2=>A.unI d1 (fun n40 d3=>A.unI d3 (fun d4 d5=>A.un0 d5 ( A.call 9 [(.v M)] d2 (fun d6 J=>A.unI d6 (fun n46 d7=>A.unI d7 (fun n48 d8=>A.un0 d8 ( A.cmp .neq n30 (.ofNat 0) (fun d9=>A.cond d9 ( K [(.b false)] J) ( A.cmp .neq n36 (.ofNat 0) (fun e0=>A.cond e0 ( K [(.b false)] J) ( A.cmp .neq d4 (.ofNat 0) (fun e1=>A.cond e1 ( K [(.b false)] J) ( A.cmp .neq n48 (.ofNat 0) (fun e2=>A.cond e2 ( K [(.b false)] J) ( A.cond (!c0) ( K [(.b false)] J) ( A.opt (capS O) (fun e3=>A.opt (lenS O) (fun f0=>A.cmp .neq e3 f0 (fun f1=>A.cond f1 ( K [(.b false)] J) ( A.opt (lenS a0) (fun f2=>A.cmp .neq n46 f2 (fun f3=>A.cond f3 ( K [(.b false)] J) ( A.ari .mul .i64 (.ofNat 4) n46 (fun n59=>A.ari .sub .i64 n59 (.ofNat 3) (fun n60=>A.cmp .gtr n40 n60 (fun gl=>A.cond gl ( K [(.b false)] J) ( A.opt (idS 3 M (.ofNat 0)) (fun g0=>A.peek (.lg cc 3 g0) J (fun g1=>A.ucI .i64 g1 (fun n64 g2=>A.ucI .i64 g2 (fun n66 g3=>A.ucI .u8 g3 (fun n68 g4=>A.uc0 g4 ( A.eqs [((.i n24),(.i n64)),((.i n26),(.i n66)),((.i n28),(.i n68))] (fun g5=>A.cond (!g5) ( K [(.b false)] J) ( A.call 29 [(.v O),(.i n24),(.i n26),(.i n28),(.v M)] J (fun g6 U=>A.unV g6 (fun g7 g8=>A.unB g8 (fun g9 h0=>A.un0 h0 ( A.join (fun h1 h2=>A.unB h1 (fun h3 h4=>A.un0 h4 ( K [(.b h3)] h2))) (fun V=>A.cond g9 ( A.opt (lenS g7) (fun h5=>A.opt (lenS M) (fun h6=>A.cmp .eql h5 h6 (fun h7=>A.cond h7 ( A.call 10 [] U (fun h8 h9=>A.unB h8 (fun i0 i1=>A.un0 i1 ( V [(.b i0)] h9)))) ( V [(.b false)] U))))) ( V [(.b false)] U)))))))))))))))))))))))))))))))))))))))))))))))))))))))))))))))
/-- crimp/crimplaw21.CoversTree -/
noncomputable def f12(ls:List Lf)(h:HT)(K:List Lf→HT→R):R:=A.unI ls (fun n6 a7=>A.unI a7 (fun n8 a8=>A.unV a8 (fun a9 b0=>A.un0 b0 ( A.call 28 [(.i n6),(.i n8),(.v a9)] h (fun b1 b2=>A.unV b1 (fun b3 b4=>A.un0 b4 ( A.call 5 [(.v b3)] b2 (fun b5 b6=>A.unV b5 (fun U b7=>A.un0 b7 ( A.call 6 [(.v U)] b6 (fun b8 b9=>A.unV b8 (fun c0 c1=>A.unI c1 (fun n24 d0=>A.unI d0 (fun n26 d1=>A.unI d1 (fun n28 d2=>A.unI d2 (fun n30 d3=>A.un0 d3 ( A.new (.cells [U,(.slice none 0 0),(.slice none 0 0),(.int .i64 (.ofNat 0)),(.int .i64 (.ofNat 0))] 5 true) b9 (fun J d4=>A.call 30 [(.v (.pointer (some ⟨J,0,none⟩))),(.i n24),(.i n26),(.i n28)] d4 (fun d5 V=>A.un0 d5 ( A.join (fun d6 d7=>A.unB d6 (fun d8 d9=>A.un0 d9 ( K [(.b d8)] d7))) (fun M=>A.cmp .eql n30 (.ofNat 0) (fun e0=>A.cond e0 ( A.call 27 [(.v c0)] V (fun e1 O=>A.unV e1 (fun e2 e3=>A.un0 e3 ( A.opt (nilP (.pointer (some ⟨J,0,none⟩))) (fun a0=>A.chk a0 ( A.opt (fdP 2 a0) (fun a1=>A.chk a1 ( A.peek (.lg cc 1 a1) O (fun f0=>A.ucV f0 (fun a2 f1=>A.chk a2 ( A.uc0 f1 ( A.opt (nilP (.pointer (some ⟨J,0,none⟩))) (fun a3=>A.chk a3 ( A.opt (fdP 4 a3) (fun a4=>A.chk a4 ( A.peek (.lg cc 1 a4) O (fun f2=>A.ucI .i64 f2 (fun n54 f3=>A.uc0 f3 ( A.opt (slS 1 a2 none (some n54) none) (fun a5=>A.chk a5 ( A.call 27 [(.v a5)] O (fun gl a6=>A.unV gl (fun g0 g1=>A.un0 g1 ( A.opt (rq e2 g0) (fun g2=>A.cond g2 ( A.call 10 [] a6 (fun g3 g4=>A.unB g3 (fun g5 g6=>A.un0 g6 ( M [(.b g5)] g4)))) ( M [(.b false)] a6)))))))))))))))))))))))))) ( M [(.b false)] V)))))))))))))))))))))))
/-- crimp/crimplaw21.CoversCovers -/
noncomputable def f13(ls:List Lf)(h:HT)(K:List Lf→HT→R):R:=A.unI ls (fun n6 b0=>A.unI b0 (fun n8 b1=>A.unV b1 (fun b2 b3=>A.unV b3 (fun V b4=>A.unI b4 (fun n14 b5=>A.un0 b5 ( A.opt (lenS V) (fun b6=>A.cmp .gtr b6 (.ofNat 12) (fun b7=>A.cond b7 ( A.call 10 [] h (fun b8 b9=>A.unB b8 (fun c0 c1=>A.un0 c1 ( K [(.b c0)] b9)))) ( A.call 28 [(.i n6),(.i n8),(.v b2)] h (fun d0 d1=>A.unV d0 (fun a0 d2=>A.un0 d2 ( A.call 5 [(.v a0)] d1 (fun d3 d4=>A.unV d3 (fun a1 d5=>A.un0 d5 ( A.loop (fun a2 d6 M=>A.unV d6 (fun J d7=>A.unI d7 (fun n35 d8=>A.un0 d8 ( A.opt (lenS V) (fun d9=>A.cmp .lss n35 d9 (fun e0=>A.cond e0 ( A.opt (idS 1 V n35) (fun e1=>A.peek (.lg cc 1 e1) M (fun e2=>A.ucI .u8 e2 (fun n41 e3=>A.uc0 e3 ( A.ari .rem .u8 n41 (.ofNat 4) (fun n43=>A.ari .add .u8 (.ofNat 1) n43 (fun n44=>A.cmp .lss n44 (.ofNat 3) (fun f0=>A.cond f0 ( A.new (.cells [(.int .u8 n44)] 1 true) M (fun f1 f2=>A.heap (.ap cc 1 1 J (.slice (some ⟨f1,0,(some 11)⟩) 1 2)) f2 (fun f3 gl=>A.ucV f3 (fun a3 g0=>A.chk a3 ( A.uc0 g0 ( A.ari .add .i64 n35 (.ofNat 1) (fun n52=>a2 [(.v a3),(.i n52)] gl))))))) ( A.opt (lenS J) (fun g1=>A.cmp .eql g1 (.ofNat 0) (fun g2=>A.cond g2 ( A.new (.cells [(.int .u8 n44)] 1 true) M (fun g3 g4=>A.heap (.ap cc 1 1 J (.slice (some ⟨g3,0,(some 11)⟩) 1 2)) g4 (fun g5 g6=>A.ucV g5 (fun a4 g7=>A.chk a4 ( A.uc0 g7 ( A.ari .add .i64 n35 (.ofNat 1) (fun n61=>a2 [(.v a4),(.i n61)] g6))))))) ( A.opt (lenS J) (fun g8=>A.ari .sub .i64 g8 (.ofNat 1) (fun n63=>A.opt (idS 1 J n63) (fun g9=>A.peek (.lg cc 1 g9) M (fun h0=>A.ucI .u8 h0 (fun n66 h1=>A.uc0 h1 ( A.cmp .lss n66 (.ofNat 3) (fun h2=>A.join (fun h3 h4=>A.unV h3 (fun h5 h6=>A.un0 h6 ( A.ari .add .i64 n35 (.ofNat 1) (fun n73=>a2 [(.v h5),(.i n73)] h4)))) (fun a5=>A.cond h2 ( A.new (.cells [(.int .u8 n44)] 1 true) M (fun h7 h8=>A.heap (.ap cc 1 1 J (.slice (some ⟨h7,0,(some 11)⟩) 1 2)) h8 (fun h9 i0=>A.ucV h9 (fun a6 i1=>A.chk a6 ( A.uc0 i1 ( a5 [(.v a6)] i0)))))) ( a5 [(.v J)] M))))))))))))))))))))) ( A.conv .i64 n14 (fun i2=>A.opt (lenS a0) (fun i3=>A.ari .rem .i64 i2 i3 (fun n83=>A.opt (idS 3 a0 n83) (fun j0=>A.peek (.lg cc 3 j0) M (fun j1=>A.ucI .i64 j1 (fun n86 j2=>A.ucI .i64 j2 (fun a7 j3=>A.ucI .u8 j3 (fun a8 j4=>A.uc0 j4 ( A.call 7 [(.v a1),(.v J),(.i n86),(.i a7),(.i a8)] M (fun j5 j6=>A.unB j5 (fun a9 j7=>A.unI j7 (fun j8 j9=>A.un0 j9 ( A.call 29 [(.v J),(.i n86),(.i a7),(.i a8),(.v a1)] j6 (fun kw O=>A.unV kw (fun k0 k1=>A.unB k1 (fun k2 k3=>A.un0 k3 ( A.join (fun k4 k5=>A.unB k4 (fun k6 k7=>A.un0 k7 ( K [(.b k6)] k5))) (fun U=>A.cmp .eql j8 (.ofNat 0) (fun k8=>A.cond k8 ( A.cond k2 ( A.opt (lenS k0) (fun k9=>A.opt (lenS a1) (fun l0=>A.cmp .eql k9 l0 (fun l1=>A.eqs [((.b a9),(.b l1))] (fun l2=>A.cond l2 ( A.call 10 [] O (fun l3 l4=>A.unB l3 (fun l5 l6=>A.un0 l6 ( U [(.b l5)] l4)))) ( U [(.b false)] O)))))) ( A.eqs [((.b a9),(.b false))] (fun l7=>A.cond l7 ( A.call 10 [] O (fun l8 l9=>A.unB l8 (fun m0 m1=>A.un0 m1 ( U [(.b m0)] l9)))) ( U [(.b false)] O)))) ( U [(.b false)] O))))))))))))))))))))))))))) [(.v (.slice none 0 0)),(.i (.ofNat 0))] d4)))))))))))))))
/-- crimp/crimplaw21.CoversLeast -/
noncomputable def f14(ls:List Lf)(h:HT)(K:List Lf→HT→R):R:=A.unI ls (fun n6 a7=>A.unI a7 (fun n8 a8=>A.unV a8 (fun a9 b0=>A.un0 b0 ( A.call 28 [(.i n6),(.i n8),(.v a9)] h (fun b1 b2=>A.unV b1 (fun a2 b3=>A.un0 b3 ( A.opt (lenS a2) (fun a3=>A.cmp .lss (.ofNat 3) a3 (fun b4=>A.sel b4 (.ofNat 3) a3 (fun n18=>A.opt (slS 3 a2 none (some n18) none) (fun J=>A.chk J ( A.call 5 [(.v J)] b2 (fun b5 b6=>A.unV b5 (fun U b7=>A.un0 b7 ( A.call 26 [(.v U)] b6 (fun b8 b9=>A.unI b8 (fun n26 c0=>A.unI c0 (fun n28 c1=>A.un0 c1 ( A.call 6 [(.v U)] b9 (fun d0 d1=>A.unV d0 (fun d2 d3=>A.unI d3 (fun n34 d4=>A.unI d4 (fun n36 d5=>A.unI d5 (fun n38 d6=>A.unI d6 (fun n40 d7=>A.un0 d7 ( A.call 8 [(.v d2)] d1 (fun d8 M=>A.unI d8 (fun n44 d9=>A.unI d9 (fun n46 e0=>A.un0 e0 ( A.cmp .neq n28 (.ofNat 0) (fun e1=>A.cond e1 ( K [(.b false)] M) ( A.cmp .neq n40 (.ofNat 0) (fun e2=>A.cond e2 ( K [(.b false)] M) ( A.cmp .neq n46 (.ofNat 0) (fun e3=>A.cond e3 ( K [(.b false)] M) ( A.opt (lenS J) (fun f0=>A.cmp .lss n26 f0 (fun f1=>A.cond f1 ( K [(.b false)] M) ( A.cmp .gtr n26 n44 (fun f2=>A.cond f2 ( K [(.b false)] M) ( A.loop (fun f3 gl O=>A.unB gl (fun a4 g0=>A.unB g0 (fun a5 g1=>A.unI g1 (fun n61 g2=>A.un0 g2 ( A.opt (lenS J) (fun g3=>A.cmp .lss n61 g3 (fun g4=>A.cond g4 ( A.join (fun g5 V=>A.unB g5 (fun g6 g7=>A.un0 g7 ( A.join (fun g8 g9=>A.unB g8 (fun h0 h1=>A.un0 h1 ( A.ari .add .i64 n61 (.ofNat 1) (fun n73=>f3 [(.b g6),(.b h0),(.i n73)] g9)))) (fun a0=>A.cond a5 ( a0 [(.b true)] V) ( A.cmp .gtr n26 (.ofNat 1) (fun h2=>A.cond h2 ( A.opt (idS 3 J n61) (fun h3=>A.peek (.lg cc 3 h3) V (fun h4=>A.ucI .i64 h4 (fun n78 h5=>A.ucI .i64 h5 (fun n80 h6=>A.ucI .u8 h6 (fun n82 h7=>A.uc0 h7 ( A.ari .sub .i64 n26 (.ofNat 2) (fun n84=>A.call 31 [(.v U),(.i n78),(.i n80),(.i n82),(.i (.ofNat 0)),(.i n84),(.v (.slice none 0 0))] V (fun h8 h9=>A.unB h8 (fun i0 i1=>A.un0 i1 ( a0 [(.b i0)] h9))))))))))) ( a0 [(.b false)] V))))))) (fun a6=>A.cond a4 ( a6 [(.b true)] O) ( A.opt (idS 3 J n61) (fun i2=>A.peek (.lg cc 3 i2) O (fun i3=>A.ucI .i64 i3 (fun n92 j0=>A.ucI .i64 j0 (fun j1 j2=>A.ucI .u8 j2 (fun j3 j4=>A.uc0 j4 ( A.ari .sub .i64 n26 (.ofNat 1) (fun j5=>A.call 31 [(.v U),(.i n92),(.i j1),(.i j3),(.i (.ofNat 0)),(.i j5),(.v (.slice none 0 0))] O (fun j6 j7=>A.unB j6 (fun j8 j9=>A.un0 j9 ( a6 [(.b j8)] j7))))))))))))) ( A.join (fun kw k0=>A.unB kw (fun k1 k2=>A.un0 k2 ( K [(.b k1)] k0))) (fun a1=>A.cond a4 ( A.cond (!a5) ( A.call 10 [] O (fun k3 k4=>A.unB k3 (fun k5 k6=>A.un0 k6 ( a1 [(.b k5)] k4)))) ( a1 [(.b false)] O)) ( a1 [(.b false)] O)))))))))) [(.b false),(.b false),(.i (.ofNat 0))] M)))))))))))))))))))))))))))))))))))))))))
/-- crimp/crimplaw21.before -/
noncomputable def f15(ls:List Lf)(h:HT)(K:List Lf→HT→R):R:=A.unI ls (fun n6 J=>A.unI J (fun n8 M=>A.unI M (fun n10 O=>A.unI O (fun n12 U=>A.unI U (fun n14 V=>A.unI V (fun n16 a0=>A.un0 a0 ( A.cmp .neq n8 n14 (fun a1=>A.cond a1 ( A.cmp .lss n8 n14 (fun a2=>K [(.b a2)] h)) ( A.cmp .neq n6 n12 (fun a3=>A.cond a3 ( A.cmp .lss n6 n12 (fun a4=>K [(.b a4)] h)) ( A.cmp .lss n10 n16 (fun a5=>K [(.b a5)] h))))))))))))
/-- crimp/covers.Check -/
noncomputable def f16(ls:List Lf)(h:HT)(K:List Lf→HT→R):R:=A.unV ls (fun J a9=>A.un0 a9 ( A.call 32 [(.v J)] h (fun b0 a2=>A.unI b0 (fun n10 b1=>A.un0 b1 ( A.cmp .neq n10 (.ofNat 0) (fun b2=>A.cond b2 ( K [(.i n10)] a2) ( A.opt (lenS J) (fun b3=>A.cmp .eql b3 (.ofNat 0) (fun b4=>A.cond b4 ( K [(.i (.ofNat 7))] a2) ( A.call 17 [(.v J)] a2 (fun b5 b6=>A.unV b5 (fun b7 b8=>A.un0 b8 ( A.new (.cells [(.map none)] 1 true) b6 (fun O b9=>A.heap (.st (.pointer (some ⟨O,0,none⟩)) [b7]) b9 (fun g8 U=>A.peek (.lg cc 1 (.pointer (some ⟨O,0,none⟩))) U (fun c0=>A.ucV c0 (fun a3 c1=>A.chk a3 ( A.uc0 c1 ( A.peek (.fn (lenM a3)) U (fun d0=>A.ucI .i64 d0 (fun n27 d1=>A.uc0 d1 ( A.ari .mul .i64 (.ofNat 4) n27 (fun n29=>A.opt (lenS J) (fun d2=>A.cmp .neq n29 d2 (fun d3=>A.cond d3 ( K [(.i (.ofNat 1))] U) ( A.new (.map [] 0) U (fun d4 d5=>A.new (.cells [(.map none)] 1 true) d5 (fun V d6=>A.heap (.st (.pointer (some ⟨V,0,none⟩)) [(.map (some d4))]) d6 (fun g9 d7=>A.new (.cells [.nilFunc] 1 true) d7 (fun a0 d8=>A.chk (.func (.func 33) ⟨[]⟩ ⟨[(.pointer (some ⟨O,0,none⟩)),(.pointer (some ⟨V,0,none⟩)),(.pointer (some ⟨a0,0,none⟩))]⟩) ( A.heap (.st (.pointer (some ⟨a0,0,none⟩)) [(.func (.func 33) ⟨[]⟩ ⟨[(.pointer (some ⟨O,0,none⟩)),(.pointer (some ⟨V,0,none⟩)),(.pointer (some ⟨a0,0,none⟩))]⟩)]) d8 (fun h0 a1=>A.peek (.lg cc 1 (.pointer (some ⟨a0,0,none⟩))) a1 (fun d9=>A.ucV d9 (fun a4 e0=>A.chk a4 ( A.uc0 e0 ( A.opt (idS 3 J (.ofNat 0)) (fun e1=>A.opt (fdP 0 e1) (fun a5=>A.chk a5 ( A.peek (.lg cc 1 a5) a1 (fun e2=>A.ucI .i64 e2 (fun n48 e3=>A.uc0 e3 ( A.opt (idS 3 J (.ofNat 0)) (fun f0=>A.opt (fdP 1 f0) (fun a6=>A.chk a6 ( A.peek (.lg cc 1 a6) a1 (fun f1=>A.ucI .i64 f1 (fun n53 f2=>A.uc0 f2 ( A.callv a4 [(.agg ⟨[(.int .i64 n48),(.int .i64 n53),(.int .u8 (.ofNat 0))]⟩)] [] a1 (fun f3 M=>A.un0 f3 ( A.peek (.lg cc 1 (.pointer (some ⟨V,0,none⟩))) M (fun gl=>A.ucV gl (fun a7 g0=>A.chk a7 ( A.uc0 g0 ( A.peek (.fn (lenM a7)) M (fun g1=>A.ucI .i64 g1 (fun n61 g2=>A.uc0 g2 ( A.peek (.lg cc 1 (.pointer (some ⟨O,0,none⟩))) M (fun g3=>A.ucV g3 (fun a8 g4=>A.chk a8 ( A.uc0 g4 ( A.peek (.fn (lenM a8)) M (fun g5=>A.ucI .i64 g5 (fun n67 g6=>A.uc0 g6 ( A.cmp .neq n61 n67 (fun g7=>A.cond g7 ( K [(.i (.ofNat 14))] M) ( K [(.i (.ofNat 0))] M))))))))))))))))))))))))))))))))))))))))))))))))))))))))))))))))))
/-- crimp/covers.squares -/
noncomputable def f17(ls:List Lf)(h:HT)(K:List Lf→HT→R):R:=A.unV ls (fun M U=>A.un0 U ( A.new (.map [] 0) h (fun O V=>A.opt (lenS M) (fun a0=>A.loop (fun a1 a2 J=>A.unI a2 (fun n14 a3=>A.un0 a3 ( A.cmp .lss n14 a0 (fun a4=>A.cond a4 ( A.opt (idS 3 M n14) (fun a5=>A.peek (.lg cc 3 a5) J (fun a6=>A.ucI .i64 a6 (fun n19 a7=>A.ucI .i64 a7 (fun n21 a8=>A.ucI .u8 a8 (fun n23 a9=>A.uc0 a9 ( A.heap (.fn (muG cc 24 (.map (some O)) (.agg ⟨[(.int .i64 n19),(.int .i64 n21),(.int .u8 (.ofNat 0))]⟩) (.bool true))) J (fun b1 b0=>A.ari .add .i64 n14 (.ofNat 1) (fun n27=>a1 [(.i n27)] b0))))))))) ( K [(.v (.map (some O)))] J))))) [(.i (.ofNat 0))] V))))
/-- crimp/covers.Walk$1 -/
noncomputable def f18(ls:List Lf)(h:HT)(K:List Lf→HT→R):R:=A.unI ls (fun n6 b5=>A.unI b5 (fun n8 b6=>A.unI b6 (fun n10 b7=>A.unV b7 (fun V b8=>A.unV b8 (fun M b9=>A.unV b9 (fun c0 c1=>A.unV c1 (fun O d0=>A.unV d0 (fun d1 d2=>A.un0 d2 ( A.peek (.lg cc 1 V) h (fun d3=>A.ucV d3 (fun a0 d4=>A.chk a0 ( A.uc0 d4 ( A.heap (.fn (deG cc 24 a0 (.agg ⟨[(.int .i64 n6),(.int .i64 n8),(.int .u8 n10)]⟩))) h (fun j5 a1=>A.peek (.lg cc 1 M) a1 (fun d5=>A.ucV d5 (fun a2 d6=>A.chk a2 ( A.uc0 d6 ( A.opt (lenS a2) (fun d7=>A.heap (.st c0 [(.int .i64 d7)]) a1 (fun j6 d8=>A.loop (fun d9 e0 a3=>A.unI e0 (fun n36 e1=>A.un0 e1 ( A.cmp .lss n36 (.ofNat 4) (fun e2=>A.cond e2 ( A.join (fun e3 f0=>A.un0 e3 ( A.ari .add .i64 n36 (.ofNat 1) (fun n41=>d9 [(.i n41)] f0))) (fun a4=>A.call 19 [(.i n6),(.i n8),(.i n10),(.i n36)] a3 (fun f1 J=>A.unI f1 (fun n45 f2=>A.unI f2 (fun n47 f3=>A.unI f3 (fun n49 gl=>A.un0 gl ( A.peek (.lg cc 1 V) J (fun g0=>A.ucV g0 (fun a5 g1=>A.chk a5 ( A.uc0 g1 ( A.peek (.fn (luG cc 24 false (.bool false) a5 (.agg ⟨[(.int .i64 n45),(.int .i64 n47),(.int .u8 n49)]⟩) false)) J (fun g2=>A.ucB g2 (fun g3 g4=>A.uc0 g4 ( A.cond (!g3) ( a4 [] J) ( A.peek (.lg cc 1 M) J (fun g5=>A.ucV g5 (fun a6 g6=>A.chk a6 ( A.uc0 g6 ( A.peek (.lg cc 1 O) J (fun g7=>A.ucI .i64 g7 (fun n61 g8=>A.uc0 g8 ( A.ari .sub .i64 n36 n61 (fun n63=>A.ari .add .i64 n63 (.ofNat 4) (fun n64=>A.ari .rem .i64 n64 (.ofNat 4) (fun n65=>A.opt (inB 4 n65) (fun j7=>A.opt (gJ gl0 0 [(n65,1)] 1) (fun g9=>A.ucV g9 (fun a7 h0=>A.chk a7 ( A.uc0 h0 ( A.heap (.ap cc 1 1 a6 a7) J (fun h1 h2=>A.ucV h1 (fun a8 h3=>A.chk a8 ( A.uc0 h3 ( A.heap (.st M [a8]) h2 (fun j8 h4=>A.heap (.st O [(.int .i64 n36)]) h4 (fun j9 a9=>A.peek (.lg cc 1 d1) a9 (fun h5=>A.ucV h5 (fun b0 h6=>A.chk b0 ( A.uc0 h6 ( A.callv b0 [(.agg ⟨[(.int .i64 n45),(.int .i64 n47),(.int .u8 n49)]⟩)] [] a9 (fun h7 U=>A.un0 h7 ( A.ari .add .i64 n36 (.ofNat 2) (fun n83=>A.ari .rem .i64 n83 (.ofNat 4) (fun n84=>A.peek (.lg cc 1 M) U (fun h8=>A.ucV h8 (fun b1 h9=>A.chk b1 ( A.uc0 h9 ( A.peek (.lg cc 1 O) U (fun i0=>A.ucI .i64 i0 (fun n89 i1=>A.uc0 i1 ( A.ari .sub .i64 n84 n89 (fun n91=>A.ari .add .i64 n91 (.ofNat 4) (fun n92=>A.ari .rem .i64 n92 (.ofNat 4) (fun b2=>A.opt (inB 4 b2) (fun kw=>A.opt (gJ gl0 0 [(b2,1)] 1) (fun i2=>A.ucV i2 (fun b3 i3=>A.chk b3 ( A.uc0 i3 ( A.heap (.ap cc 1 1 b1 b3) U (fun j0 j1=>A.ucV j0 (fun b4 j2=>A.chk b4 ( A.uc0 j2 ( A.heap (.st M [b4]) j1 (fun k0 j3=>A.heap (.st O [(.int .i64 n84)]) j3 (fun k1 j4=>a4 [] j4))))))))))))))))))))))))))))))))))))))))))))))))))))))))))))))))) ( K [] a3))))) [(.i (.ofNat 0))] d8))))))))))))))))))))
/-- crimp/covers.beside -/
noncomputable def f19(ls:List Lf)(h:HT)(K:List Lf→HT→R):R:=A.unI ls (fun n6 J=>A.unI J (fun n8 M=>A.unI M (fun n10 O=>A.unI O (fun n12 U=>A.un0 U ( A.opt (inB 4 n12) (fun a3=>A.opt (gJ gl1 0 [(n12,2)] 1) (fun V=>A.ucI .i64 V (fun n16 a0=>A.uc0 a0 ( A.ari .add .i64 n6 n16 (fun n18=>A.opt (inB 4 n12) (fun a4=>A.opt (gJ gl1 1 [(n12,2)] 1) (fun a1=>A.ucI .i64 a1 (fun n21 a2=>A.uc0 a2 ( A.ari .add .i64 n8 n21 (fun n23=>K [(.i n18),(.i n23),(.i (.ofNat 0))] h)))))))))))))))
/-- slices.Clip[[]crimp/ribbons.Step,crimp/ribbons.Step] -/
noncomputable def f20(ls:List Lf)(h:HT)(K:List Lf→HT→R):R:=A.unV ls (fun J O=>A.un0 O ( A.opt (lenS J) (fun U=>A.opt (lenS J) (fun V=>A.opt (slS 1 J none (some U) (some V)) (fun M=>A.chk M ( K [(.v M)] h))))))
/-- crimp/ribbons.Check -/
noncomputable def f21(ls:List Lf)(h:HT)(K:List Lf→HT→R):R:=A.unV ls (fun J a7=>A.un0 a7 ( A.call 34 [(.v J),(.v (.func (.func 35) ⟨[]⟩ ⟨[]⟩))] h (fun a8 V=>A.unB a8 (fun a9 b0=>A.un0 b0 ( A.cond a9 ( K [(.i (.ofNat 1))] V) ( A.opt (lenS J) (fun b1=>A.loop (fun U b2 M=>A.unI b2 (fun n16 b3=>A.unI b3 (fun n18 b4=>A.un0 b4 ( A.cmp .lss n18 b1 (fun b5=>A.cond b5 ( A.opt (idS 1 J n18) (fun b6=>A.peek (.lg cc 1 b6) M (fun b7=>A.ucI .u8 b7 (fun n23 b8=>A.uc0 b8 ( A.call 25 [(.i n23)] M (fun b9 O=>A.unB b9 (fun c0 c1=>A.un0 c1 ( A.cond c0 ( A.cmp .gtr n18 (.ofNat 0) (fun d0=>A.cond d0 ( A.ari .sub .i64 n18 (.ofNat 1) (fun n30=>A.opt (idS 1 J n30) (fun d1=>A.peek (.lg cc 1 d1) O (fun d2=>A.ucI .u8 d2 (fun n33 d3=>A.uc0 d3 ( A.call 25 [(.i n33)] O (fun d4 a0=>A.unB d4 (fun d5 d6=>A.un0 d6 ( A.join (fun d7 d8=>A.un0 d7 ( A.call 25 [(.i n23)] d8 (fun d9 a1=>A.unB d9 (fun e0 e1=>A.un0 e1 ( A.join (fun e2 e3=>A.unI e2 (fun n47 f0=>A.un0 f0 ( A.ari .add .i64 n18 (.ofNat 1) (fun n49=>U [(.i n47),(.i n49)] e3)))) (fun a2=>A.cond (!e0) ( A.ari .add .i64 n16 (.ofNat 1) (fun n51=>a2 [(.i n51)] a1)) ( a2 [(.i n16)] a1))))))) (fun f1=>A.cond d5 ( K [(.i (.ofNat 6))] a0) ( f1 [] a0))))))))))) ( A.call 25 [(.i n23)] O (fun f2 a3=>A.unB f2 (fun f3 gl=>A.un0 gl ( A.join (fun g0 g1=>A.unI g0 (fun n59 g2=>A.un0 g2 ( A.ari .add .i64 n18 (.ofNat 1) (fun n61=>U [(.i n59),(.i n61)] g1)))) (fun a4=>A.cond (!f3) ( A.ari .add .i64 n16 (.ofNat 1) (fun n63=>a4 [(.i n63)] a3)) ( a4 [(.i n16)] a3)))))))) ( A.call 25 [(.i n23)] O (fun g3 a5=>A.unB g3 (fun g4 g5=>A.un0 g5 ( A.join (fun g6 g7=>A.unI g6 (fun g8 g9=>A.un0 g9 ( A.ari .add .i64 n18 (.ofNat 1) (fun n72=>U [(.i g8),(.i n72)] g7)))) (fun a6=>A.cond (!g4) ( A.ari .add .i64 n16 (.ofNat 1) (fun n74=>a6 [(.i n74)] a5)) ( a6 [(.i n16)] a5)))))))))))))) ( A.cmp .gtr n16 (.ofNat 256) (fun h0=>A.cond h0 ( K [(.i (.ofNat 3))] M) ( K [(.i (.ofNat 0))] M)))))))) [(.i (.ofNat 1)),(.i (.ofNat 0))] V)))))))
/-- crimp/ribbons.Cover -/
noncomputable def f22(ls:List Lf)(h:HT)(K:List Lf→HT→R):R:=A.unV ls (fun a2 a3=>A.un0 a3 ( A.call 36 [(.v a2)] h (fun a4 O=>A.unV a4 (fun U a5=>A.unI a5 (fun n12 a6=>A.un0 a6 ( A.cmp .neq n12 (.ofNat 0) (fun a7=>A.cond a7 ( K [(.v (.slice none 0 0)),(.i n12)] O) ( A.new (.map [] 0) O (fun V a8=>A.opt (lenS U) (fun a9=>A.loop (fun b0 b1 J=>A.unV b1 (fun M b2=>A.unI b2 (fun n23 b3=>A.un0 b3 ( A.cmp .lss n23 a9 (fun b4=>A.cond b4 ( A.opt (idS 3 U n23) (fun b5=>A.peek (.lg cc 3 b5) J (fun b6=>A.ucI .i64 b6 (fun n28 b7=>A.ucI .i64 b7 (fun n30 b8=>A.ucI .u8 b8 (fun n32 b9=>A.uc0 b9 ( A.peek (.fn (luG cc 24 false (.bool false) (.map (some V)) (.agg ⟨[(.int .i64 n28),(.int .i64 n30),(.int .u8 n32)]⟩) false)) J (fun c0=>A.ucB c0 (fun c1 d0=>A.uc0 d0 ( A.join (fun d1 d2=>A.unV d1 (fun d3 d4=>A.un0 d4 ( A.ari .add .i64 n23 (.ofNat 1) (fun n41=>b0 [(.v d3),(.i n41)] d2)))) (fun a0=>A.cond (!c1) ( A.heap (.fn (muG cc 24 (.map (some V)) (.agg ⟨[(.int .i64 n28),(.int .i64 n30),(.int .u8 n32)]⟩) (.bool true))) J (fun f2 d5=>A.new (.cells [(.int .i64 n28),(.int .i64 n30),(.int .u8 n32)] 3 true) d5 (fun d6 d7=>A.heap (.ap cc 3 24 M (.slice (some ⟨d6,0,(some 13)⟩) 1 2)) d7 (fun d8 d9=>A.ucV d8 (fun a1 e0=>A.chk a1 ( A.uc0 e0 ( a0 [(.v a1)] d9))))))) ( a0 [(.v M)] J)))))))))))) ( A.call 37 [(.v M)] J (fun e1 e2=>A.unV e1 (fun e3 f0=>A.unI f0 (fun n55 f1=>A.un0 f1 ( K [(.v e3),(.i n55)] e2)))))))))) [(.v (.slice none 0 0)),(.i (.ofNat 0))] a8))))))))))
/-- crimp/sets.Has -/
noncomputable def f23(ls:List Lf)(h:HT)(K:List Lf→HT→R):R:=A.unV ls (fun J M=>A.unI M (fun n8 O=>A.unI O (fun n10 U=>A.unI U (fun n12 V=>A.un0 V ( A.call 38 [(.v J),(.i n8),(.i n10),(.i n12)] h (fun a0 a1=>A.unB a0 (fun a2 a3=>A.un0 a3 ( K [(.b a2)] a1))))))))
/-- crimp/sets.Same -/
noncomputable def f24(ls:List Lf)(h:HT)(K:List Lf→HT→R):R:=A.unV ls (fun J M=>A.unV M (fun O U=>A.un0 U ( A.call 39 [(.v J),(.v O)] h (fun V a0=>A.unB V (fun a1 a2=>A.un0 a2 ( K [(.b a1)] a0))))))
/-- (crimp/ribbons.Step).turns -/
noncomputable def f25(ls:List Lf)(h:HT)(K:List Lf→HT→R):R:=A.unI ls (fun n6 M=>A.un0 M ( A.join (fun O U=>A.unB O (fun V a0=>A.un0 a0 ( K [(.b V)] U))) (fun J=>A.cmp .eql n6 (.ofNat 3) (fun a1=>A.cond a1 ( J [(.b true)] h) ( A.cmp .eql n6 (.ofNat 4) (fun a2=>J [(.b a2)] h))))))
/-- crimp/covers.Least -/
noncomputable def f26(ls:List Lf)(h:HT)(K:List Lf→HT→R):R:=A.unV ls (fun J g0=>A.un0 g0 ( A.call 9 [(.v J)] h (fun g1 a5=>A.unI g1 (fun n10 g2=>A.unI g2 (fun n12 g3=>A.un0 g3 ( A.cmp .neq n12 (.ofNat 0) (fun g4=>A.cond g4 ( K [(.i (.ofNat 0)),(.i n12)] a5) ( A.cmp .gtr n10 (.ofNat 3) (fun g5=>A.cond g5 ( K [(.i (.ofNat 0)),(.i (.ofNat 3))] a5) ( A.new (.map [] 0) a5 (fun d1 g6=>A.opt (lenS J) (fun g7=>A.loop (fun g8 g9 U=>A.unV g9 (fun a6 h0=>A.unI h0 (fun n24 h1=>A.un0 h1 ( A.cmp .lss n24 g7 (fun h2=>A.cond h2 ( A.opt (idS 3 J n24) (fun h3=>A.peek (.lg cc 3 h3) U (fun h4=>A.ucI .i64 h4 (fun n29 h5=>A.ucI .i64 h5 (fun n31 h6=>A.ucI .u8 h6 (fun n33 h7=>A.uc0 h7 ( A.cmp .eql n33 (.ofNat 0) (fun h8=>A.join (fun h9 i0=>A.unV h9 (fun i1 i2=>A.un0 i2 ( A.ari .add .i64 n24 (.ofNat 1) (fun n40=>g8 [(.v i1),(.i n40)] i0)))) (fun d2=>A.cond h8 ( A.new (.cells [(.int .i64 n29),(.int .i64 n31),(.int .u8 n33),(.int .i64 (.ofNat 0)),(.bool false),(.bool false),(.bool false),(.bool false),(.bool false),(.bool false),(.bool false),(.bool false),(.bool false),(.bool false),(.bool false),(.bool false)] 16 true) U (fun i3 j0=>A.heap (.ap cc 16 48 a6 (.slice (some ⟨i3,0,(some 26)⟩) 1 2)) j0 (fun j1 j2=>A.ucV j1 (fun d3 j3=>A.chk d3 ( A.uc0 j3 ( d2 [(.v d3)] j2)))))) ( d2 [(.v a6)] U)))))))))) ( A.loop (fun j4 j5 j6=>A.unV j5 (fun d4 j7=>A.unI j7 (fun n53 j8=>A.un0 j8 ( A.opt (lenS d4) (fun j9=>A.loop (fun kw k0 a7=>A.unV k0 (fun d5 k1=>A.unI k1 (fun n61 k2=>A.un0 k2 ( A.cmp .lss n61 j9 (fun k3=>A.cond k3 ( A.opt (idS 16 d4 n61) (fun k4=>A.peek (.lg cc 16 k4) a7 (fun k5=>A.ucI .i64 k5 (fun n66 k6=>A.ucI .i64 k6 (fun n68 k7=>A.ucI .u8 k7 (fun d6 k8=>A.ucI .i64 k8 (fun n72 k9=>A.ucB k9 (fun l0 l1=>A.ucB l1 (fun l2 l3=>A.ucB l3 (fun l4 l5=>A.ucB l5 (fun l6 l7=>A.ucB l7 (fun l8 l9=>A.ucB l9 (fun m0 m1=>A.ucB m1 (fun m2 m3=>A.ucB m3 (fun m4 m5=>A.ucB m5 (fun m6 m7=>A.ucB m7 (fun m8 m9=>A.ucB m9 (fun n0 n1=>A.ucB n1 (fun n2 n3=>A.uc0 n3 ( A.loop (fun o0 o1 d7=>A.unV o1 (fun d8 o2=>A.unI o2 (fun n103 o3=>A.un0 o3 ( A.cmp .lss n103 (.ofNat 3) (fun o4=>A.cond o4 ( A.new (.cells [(.bool false),(.bool false),(.bool false),(.bool false),(.bool false),(.bool false),(.bool false),(.bool false),(.bool false),(.bool false),(.bool false),(.bool false)] 1 true) d7 (fun M o5=>A.heap (.st (.pointer (some ⟨M,0,none⟩)) [(.bool l0),(.bool l2),(.bool l4),(.bool l6),(.bool l8),(.bool m0),(.bool m2),(.bool m4),(.bool m6),(.bool m8),(.bool n0),(.bool n2)]) o5 (fun tL o6=>A.new (.cells [(.int .i64 (.ofNat 0)),(.int .i64 (.ofNat 1)),(.int .i64 (.ofNat 2)),(.int .i64 (.ofNat 3))] 1 true) o6 (fun o7 a8=>A.cmp .eql n103 (.ofNat 1) (fun o8=>A.join (fun o9 p0=>A.unV o9 (fun d9 p1=>A.unI p1 (fun n117 p2=>A.un0 p2 ( A.opt (lenS d9) (fun p3=>A.loop (fun p4 p5 V=>A.unI p5 (fun n123 p6=>A.un0 p6 ( A.cmp .lss n123 p3 (fun p7=>A.cond p7 ( A.opt (idS 1 d9 n123) (fun p8=>A.peek (.lg cc 1 p8) V (fun p9=>A.ucI .i64 p9 (fun n128 ql=>A.uc0 ql ( A.ari .add .i64 n72 n128 (fun n130=>A.ari .add .i64 n130 (.ofNat 1) (fun n131=>A.ari .rem .i64 n131 (.ofNat 4) (fun n132=>A.conv .u8 n132 (fun n133=>A.call 40 [(.v J),(.i n66),(.i n68),(.i n133)] V (fun q0 q1=>A.unI q0 (fun q2 q3=>A.un0 q3 ( A.opt (idP 12 1 (.pointer (some ⟨M,0,none⟩)) q2) (fun e0=>A.chk e0 ( A.heap (.st e0 [(.bool true)]) q1 (fun tM q4=>A.ari .add .i64 n123 (.ofNat 1) (fun q5=>p4 [(.i q5)] q4)))))))))))))))) ( A.opt (lenS J) (fun q6=>A.peek (.fn (slAG 12 1 (.pointer (some ⟨M,0,none⟩)) none (some q6) none)) V (fun q7=>A.ucV q7 (fun e1 q8=>A.chk e1 ( A.uc0 q8 ( A.call 41 [(.v e1),(.b false)] V (fun q9 e2=>A.unB q9 (fun ru rx=>A.un0 rx ( A.cond (!ru) ( K [(.i n53),(.i (.ofNat 0))] e2) ( A.call 19 [(.i n66),(.i n68),(.i d6),(.i n117)] e2 (fun ry a9=>A.unI ry (fun rz rA=>A.unI rA (fun rB rC=>A.unI rC (fun rD rE=>A.un0 rE ( A.peek (.lg cc 12 (.pointer (some ⟨M,0,none⟩))) a9 (fun rF=>A.ucB rF (fun rG rH=>A.ucB rH (fun rI rJ=>A.ucB rJ (fun rK rL=>A.ucB rL (fun rM rN=>A.ucB rN (fun rO rP=>A.ucB rP (fun rQ rR=>A.ucB rR (fun rS rT=>A.ucB rT (fun rU rV=>A.ucB rV (fun rW rX=>A.ucB rX (fun rY rZ=>A.ucB rZ (fun r1 r2=>A.ucB r2 (fun r3 r4=>A.uc0 r4 ( A.ari .add .i64 n117 (.ofNat 2) (fun r5=>A.ari .rem .i64 r5 (.ofNat 4) (fun r6=>A.peek (.lg cc 12 (.pointer (some ⟨M,0,none⟩))) a9 (fun r7=>A.ucB r7 (fun r8 r9=>A.ucB r9 (fun sa sb=>A.ucB sb (fun sc sd=>A.ucB sd (fun se sf=>A.ucB sf (fun sh si=>A.ucB si (fun sj sn=>A.ucB sn (fun so sq=>A.ucB sq (fun ss su=>A.ucB su (fun sw sx=>A.ucB sx (fun sy sz=>A.ucB sz (fun sA sB=>A.ucB sB (fun sC sD=>A.uc0 sD ( A.loop (fun e3 sE f0=>A.unV sE (fun a0 sF=>A.unI sF (fun O sG=>A.un0 sG ( A.cmp .lss O (.ofNat 2) (fun sH=>A.cond sH ( A.opt (inB 2 O) (fun tN=>A.opt (oe [(.i rz),(.i rB),(.i rD),(.i n117),(.b rG),(.b rI),(.b rK),(.b rM),(.b rO),(.b rQ),(.b rS),(.b rU),(.b rW),(.b rY),(.b r1),(.b r3),(.i n66),(.i n68),(.i d6),(.i r6),(.b r8),(.b sa),(.b sc),(.b se),(.b sh),(.b sj),(.b so),(.b ss),(.b sw),(.b sy),(.b sA),(.b sC)] 0 [(O,16)] 16) (fun sI=>A.unI sI (fun a1 sJ=>A.unI sJ (fun a2 sK=>A.unI sK (fun a3 sL=>A.unI sL (fun b0 sM=>A.unB sM (fun b1 sN=>A.unB sN (fun b2 sO=>A.unB sO (fun b3 sP=>A.unB sP (fun b4 sQ=>A.unB sQ (fun b5 sR=>A.unB sR (fun b6 sS=>A.unB sS (fun b7 sU=>A.unB sU (fun b8 sV=>A.unB sV (fun b9 sW=>A.unB sW (fun c0 sX=>A.unB sX (fun c1 sY=>A.unB sY (fun d0 sZ=>A.un0 sZ ( A.call 23 [(.v J),(.i a1),(.i a2),(.i a3)] f0 (fun s0 a4=>A.unB s0 (fun s1 s2=>A.un0 s2 ( A.cond s1 ( A.peek (.fn (luG cc 78 false (.bool false) (.map (some d1)) (.agg ⟨[(.int .i64 a1),(.int .i64 a2),(.int .u8 a3),(.int .i64 b0),(.bool b1),(.bool b2),(.bool b3),(.bool b4),(.bool b5),(.bool b6),(.bool b7),(.bool b8),(.bool b9),(.bool c0),(.bool c1),(.bool d0)]⟩) false)) a4 (fun s3=>A.ucB s3 (fun s4 s5=>A.uc0 s5 ( A.join (fun s6 s7=>A.unV s6 (fun s8 s9=>A.un0 s9 ( A.ari .add .i64 O (.ofNat 1) (fun ta=>e3 [(.v s8),(.i ta)] s7)))) (fun f1=>A.cond (!s4) ( A.heap (.fn (muG cc 78 (.map (some d1)) (.agg ⟨[(.int .i64 a1),(.int .i64 a2),(.int .u8 a3),(.int .i64 b0),(.bool b1),(.bool b2),(.bool b3),(.bool b4),(.bool b5),(.bool b6),(.bool b7),(.bool b8),(.bool b9),(.bool c0),(.bool c1),(.bool d0)]⟩) (.bool true))) a4 (fun tO tb=>A.new (.cells [(.int .i64 a1),(.int .i64 a2),(.int .u8 a3),(.int .i64 b0),(.bool b1),(.bool b2),(.bool b3),(.bool b4),(.bool b5),(.bool b6),(.bool b7),(.bool b8),(.bool b9),(.bool c0),(.bool c1),(.bool d0)] 16 true) tb (fun tc tg=>A.heap (.ap cc 16 48 a0 (.slice (some ⟨tc,0,(some 26)⟩) 1 2)) tg (fun th ti=>A.ucV th (fun f2 tj=>A.chk f2 ( A.uc0 tj ( f1 [(.v f2)] ti))))))) ( f1 [(.v a0)] a4)))))) ( A.ari .add .i64 O (.ofNat 1) (fun tn=>e3 [(.v a0),(.i tn)] a4))))))))))))))))))))))))) ( A.ari .add .i64 n103 (.ofNat 1) (fun tq=>o0 [(.v a0),(.i tq)] f0))))))) [(.v d8),(.i (.ofNat 0))] a9))))))))))))))))))))))))))))))))))))))))))))))))) [(.i (.ofNat 0))] p0))))) (fun f3=>A.cond o8 ( A.new (.cells [(.int .i64 (.ofNat 1)),(.int .i64 (.ofNat 2))] 1 true) a8 (fun tr tt=>A.ari .add .i64 n72 (.ofNat 1) (fun tu=>A.ari .rem .i64 tu (.ofNat 4) (fun tv=>f3 [(.v (.slice (some ⟨tr,0,(some 11)⟩) 2 3)),(.i tv)] tt)))) ( A.cmp .eql n103 (.ofNat 2) (fun tw=>A.join (fun tz tA=>A.unV tz (fun tB tC=>A.unI tC (fun tD tE=>A.un0 tE ( f3 [(.v tB),(.i tD)] tA)))) (fun gl=>A.cond tw ( A.new (.cells [(.int .i64 (.ofNat 2)),(.int .i64 (.ofNat 3))] 1 true) a8 (fun tF tG=>A.ari .add .i64 n72 (.ofNat 3) (fun tH=>A.ari .rem .i64 tH (.ofNat 4) (fun tI=>gl [(.v (.slice (some ⟨tF,0,(some 11)⟩) 2 3)),(.i tI)] tG)))) ( gl [(.v (.slice (some ⟨o7,0,(some 11)⟩) 4 5)),(.i n72)] a8)))))))))) ( A.ari .add .i64 n61 (.ofNat 1) (fun tJ=>kw [(.v d8),(.i tJ)] d7))))))) [(.v d5),(.i (.ofNat 0))] a7)))))))))))))))))))) ( A.ari .add .i64 n53 (.ofNat 1) (fun tK=>j4 [(.v d5),(.i tK)] a7))))))) [(.v (.slice none 0 0)),(.i (.ofNat 0))] j6))))) [(.v a6),(.i (.ofNat 1))] U)))))) [(.v (.slice none 0 0)),(.i (.ofNat 0))] g6))))))))))))
/-- crimp/crimplaw21.text -/
noncomputable def f27(ls:List Lf)(h:HT)(K:List Lf→HT→R):R:=A.unV ls (fun J M=>A.un0 M ( A.call 42 [(.v J)] h (fun O U=>A.unV O (fun V a0=>A.un0 a0 ( K [(.v V)] U)))))
/-- (crimp/crimplaw21.Q).Of -/
noncomputable def f28(ls:List Lf)(h:HT)(K:List Lf→HT→R):R:=A.unI ls (fun n6 a8=>A.unI a8 (fun n8 a9=>A.unV a9 (fun O b0=>A.un0 b0 ( A.ari .rem .u8 n6 (.ofNat 7) (fun n12=>A.conv .i64 n12 (fun n13=>A.ari .sub .i64 n13 (.ofNat 3) (fun n14=>A.ari .rem .u8 n8 (.ofNat 7) (fun n15=>A.conv .i64 n15 (fun n16=>A.ari .sub .i64 n16 (.ofNat 3) (fun n17=>A.new (.cells [(.int .i64 n14),(.int .i64 n17),(.int .u8 (.ofNat 0))] 3 true) h (fun b1 b2=>A.join (fun b3 b4=>A.unV b3 (fun b5 b6=>A.un0 b6 ( K [(.v b5)] b4))) (fun U=>A.loop (fun b7 b8 J=>A.unV b8 (fun M b9=>A.unI b9 (fun n30 c0=>A.un0 c0 ( A.opt (lenS O) (fun c1=>A.cmp .lss n30 c1 (fun d0=>A.cond d0 ( A.opt (lenS M) (fun d1=>A.cmp .lss d1 (.ofNat 12) (fun d2=>A.cond d2 ( A.cmp .lss n30 (.ofNat 40) (fun d3=>A.cond d3 ( A.opt (idS 2 O n30) (fun d4=>A.opt (idP 2 1 d4 (.ofNat 0)) (fun a0=>A.chk a0 ( A.peek (.lg cc 1 a0) J (fun d5=>A.ucI .u8 d5 (fun n40 d6=>A.uc0 d6 ( A.conv .i64 n40 (fun d7=>A.opt (lenS M) (fun d8=>A.ari .rem .i64 d7 d8 (fun n44=>A.opt (idS 3 M n44) (fun d9=>A.peek (.lg cc 3 d9) J (fun e0=>A.ucI .i64 e0 (fun n47 e1=>A.ucI .i64 e1 (fun n49 e2=>A.ucI .u8 e2 (fun n51 e3=>A.uc0 e3 ( A.opt (idS 2 O n30) (fun f0=>A.opt (idP 2 1 f0 (.ofNat 1)) (fun a1=>A.chk a1 ( A.peek (.lg cc 1 a1) J (fun f1=>A.ucI .u8 f1 (fun n56 f2=>A.uc0 f2 ( A.ari .rem .u8 n56 (.ofNat 4) (fun V=>A.cmp .eql V (.ofNat 0) (fun f3=>A.join (fun gl g0=>A.unI gl (fun n62 g1=>A.unI g1 (fun n64 g2=>A.unI g2 (fun n66 g3=>A.un0 g3 ( A.call 43 [(.v M),(.i n62),(.i n64),(.i n66)] g0 (fun g4 a2=>A.unB g4 (fun g5 g6=>A.un0 g6 ( A.join (fun g7 g8=>A.unV g7 (fun g9 h0=>A.un0 h0 ( A.ari .add .i64 n30 (.ofNat 1) (fun n76=>b7 [(.v g9),(.i n76)] g8)))) (fun a3=>A.cond (!g5) ( A.new (.cells [(.int .i64 n62),(.int .i64 n64),(.int .u8 n66)] 3 true) a2 (fun h1 h2=>A.heap (.ap cc 3 24 M (.slice (some ⟨h1,0,(some 13)⟩) 1 2)) h2 (fun h3 h4=>A.ucV h3 (fun a4 h5=>A.chk a4 ( A.uc0 h5 ( a3 [(.v a4)] h4)))))) ( a3 [(.v M)] a2)))))))))) (fun a5=>A.cond f3 ( A.ari .add .i64 n47 (.ofNat 1) (fun n85=>a5 [(.i n85),(.i n49),(.i n51)] J)) ( A.cmp .eql V (.ofNat 1) (fun h6=>A.join (fun h7 h8=>A.unI h7 (fun n89 h9=>A.unI h9 (fun n91 i0=>A.unI i0 (fun i1 i2=>A.un0 i2 ( a5 [(.i n89),(.i n91),(.i i1)] h8))))) (fun a6=>A.cond h6 ( A.ari .add .i64 n49 (.ofNat 1) (fun i3=>a6 [(.i n47),(.i i3),(.i n51)] J)) ( A.cmp .eql V (.ofNat 2) (fun j0=>A.join (fun j1 j2=>A.unI j1 (fun n100 j3=>A.unI j3 (fun n102 j4=>A.unI j4 (fun n104 j5=>A.un0 j5 ( a6 [(.i n100),(.i n102),(.i n104)] j2))))) (fun a7=>A.cond j0 ( A.ari .sub .i64 n47 (.ofNat 1) (fun n107=>a7 [(.i n107),(.i n49),(.i n51)] J)) ( A.ari .sub .i64 n49 (.ofNat 1) (fun n108=>a7 [(.i n47),(.i n108),(.i n51)] J))))))))))))))))))))))))))))))))) ( U [(.v M)] J))) ( U [(.v M)] J)))) ( U [(.v M)] J))))))) [(.v (.slice (some ⟨b1,0,(some 13)⟩) 1 2)),(.i (.ofNat 0))] b2))))))))))))
/-- crimp/crimplaw21.covered -/
noncomputable def f29(ls:List Lf)(h:HT)(K:List Lf→HT→R):R:=A.unV ls (fun J o3=>A.unI o3 (fun n8 o4=>A.unI o4 (fun n10 o5=>A.unI o5 (fun n12 o6=>A.unV o6 (fun O o7=>A.un0 o7 ( A.join (fun o8 o9=>A.unV o8 (fun p0 p1=>A.un0 p1 ( K [(.v p0),(.b true)] o9))) (fun a4=>A.loop (fun a6 p2 a7=>A.unV p2 (fun M p3=>A.unI p3 (fun n26 p4=>A.unI p4 (fun n28 p5=>A.unI p5 (fun n30 p6=>A.unI p6 (fun n32 p7=>A.un0 p7 ( A.opt (lenS J) (fun p8=>A.cmp .leq n32 p8 (fun p9=>A.cond p9 ( A.cmp .eql n32 (.ofNat 0) (fun ql=>A.cond ql ( A.new (.cells [(.int .i64 (.ofNat 0)),(.int .i64 (.ofNat 1)),(.int .i64 (.ofNat 2)),(.int .i64 (.ofNat 3))] 1 true) a7 (fun b3 a2=>A.opt (lenS J) (fun q0=>A.cmp .lss n32 q0 (fun q1=>A.cond q1 ( A.opt (idS 1 J n32) (fun q2=>A.peek (.lg cc 1 q2) a2 (fun q3=>A.ucI .u8 q3 (fun n43 q4=>A.uc0 q4 ( A.cmp .eql n43 (.ofNat 3) (fun q5=>A.join (fun q6 b4=>A.unV q6 (fun c1 q7=>A.un0 q7 ( A.opt (lenS J) (fun q8=>A.cmp .lss n32 q8 (fun q9=>A.cond q9 ( A.opt (idS 1 J n32) (fun ru=>A.peek (.lg cc 1 ru) b4 (fun rx=>A.ucI .u8 rx (fun n54 ry=>A.uc0 ry ( A.cmp .eql n54 (.ofNat 4) (fun rz=>A.join (fun rA rB=>A.unV rA (fun g4 rC=>A.un0 rC ( A.loop (fun rD rE U=>A.unV rE (fun a8 rF=>A.unI rF (fun n66 rG=>A.un0 rG ( A.opt (lenS g4) (fun rH=>A.cmp .lss n66 rH (fun rI=>A.cond rI ( A.opt (idS 1 g4 n66) (fun rJ=>A.peek (.lg cc 1 rJ) U (fun rK=>A.ucI .i64 rK (fun n72 rL=>A.uc0 rL ( A.ari .add .i64 n30 n72 (fun n74=>A.ari .add .i64 n74 (.ofNat 1) (fun n75=>A.ari .rem .i64 n75 (.ofNat 4) (fun n76=>A.conv .u8 n76 (fun n77=>A.call 43 [(.v O),(.i n26),(.i n28),(.i n77)] U (fun rM g5=>A.unB rM (fun rN rO=>A.un0 rO ( A.cond (!rN) ( K [(.v (.slice none 0 0)),(.b false)] g5) ( A.call 43 [(.v a8),(.i n26),(.i n28),(.i n77)] g5 (fun rP g6=>A.unB rP (fun rQ rR=>A.un0 rR ( A.join (fun rS rT=>A.unV rS (fun rU rV=>A.un0 rV ( A.ari .add .i64 n66 (.ofNat 1) (fun rW=>rD [(.v rU),(.i rW)] rT)))) (fun g7=>A.cond (!rQ) ( A.new (.cells [(.int .i64 n26),(.int .i64 n28),(.int .u8 n77)] 3 true) g6 (fun rX rY=>A.heap (.ap cc 3 24 a8 (.slice (some ⟨rX,0,(some 13)⟩) 1 2)) rY (fun rZ r1=>A.ucV rZ (fun g8 r2=>A.chk g8 ( A.uc0 r2 ( g7 [(.v g8)] r1)))))) ( g7 [(.v a8)] g6)))))))))))))))))) ( A.opt (lenS J) (fun r3=>A.cmp .eql n32 r3 (fun r4=>A.cond r4 ( a4 [(.v a8)] U) ( A.opt (idS 1 J n32) (fun r5=>A.peek (.lg cc 1 r5) U (fun r6=>A.ucI .u8 r6 (fun n102 r7=>A.uc0 r7 ( A.cmp .eql n102 (.ofNat 1) (fun r8=>A.join (fun r9 sa=>A.unI r9 (fun n107 sb=>A.unI sb (fun n109 sc=>A.unI sc (fun n111 sd=>A.un0 sd ( A.ari .add .i64 n32 (.ofNat 1) (fun n113=>a6 [(.v a8),(.i n107),(.i n109),(.i n111),(.i n113)] sa)))))) (fun g9=>A.cond r8 ( A.new (.cells [(.int .i64 (.ofNat 1)),(.int .i64 (.ofNat 0)),(.int .i64 (.negSucc 0)),(.int .i64 (.ofNat 0))] 1 true) U (fun se h0=>A.opt (idS 1 (.slice (some ⟨se,0,(some 11)⟩) 4 5) n30) (fun sf=>A.peek (.lg cc 1 sf) h0 (fun sh=>A.ucI .i64 sh (fun n119 si=>A.uc0 si ( A.ari .add .i64 n26 n119 (fun n121=>A.new (.cells [(.int .i64 (.ofNat 0)),(.int .i64 (.ofNat 1)),(.int .i64 (.ofNat 0)),(.int .i64 (.negSucc 0))] 1 true) h0 (fun sj h1=>A.opt (idS 1 (.slice (some ⟨sj,0,(some 11)⟩) 4 5) n30) (fun sn=>A.peek (.lg cc 1 sn) h1 (fun so=>A.ucI .i64 so (fun sq ss=>A.uc0 ss ( A.ari .add .i64 n28 sq (fun n128=>g9 [(.i n121),(.i n128),(.i n30)] h1))))))))))))) ( A.cmp .eql n102 (.ofNat 2) (fun su=>A.join (fun sw sx=>A.unI sw (fun n132 sy=>A.un0 sy ( g9 [(.i n26),(.i n28),(.i n132)] sx))) (fun h2=>A.cond su ( A.ari .add .i64 n30 (.ofNat 2) (fun n135=>A.ari .rem .i64 n135 (.ofNat 4) (fun sz=>h2 [(.i sz)] U))) ( A.cmp .eql n102 (.ofNat 3) (fun sA=>A.join (fun sB sC=>A.unI sB (fun sD sE=>A.un0 sE ( h2 [(.i sD)] sC))) (fun h3=>A.cond sA ( A.ari .add .i64 n30 (.ofNat 1) (fun sF=>A.ari .rem .i64 sF (.ofNat 4) (fun sG=>h3 [(.i sG)] U))) ( A.ari .add .i64 n30 (.ofNat 3) (fun sH=>A.ari .rem .i64 sH (.ofNat 4) (fun sI=>h3 [(.i sI)] U))))))))))))))))))))))))) [(.v M),(.i (.ofNat 0))] rB))) (fun h4=>A.cond rz ( A.new (.cells [(.int .i64 (.ofNat 2)),(.int .i64 (.ofNat 3))] 1 true) b4 (fun sJ sK=>h4 [(.v (.slice (some ⟨sJ,0,(some 11)⟩) 2 3))] sK)) ( h4 [(.v c1)] b4)))))))) ( A.loop (fun sL sM V=>A.unV sM (fun a9 sN=>A.unI sN (fun d0 sO=>A.un0 sO ( A.opt (lenS c1) (fun sP=>A.cmp .lss d0 sP (fun sQ=>A.cond sQ ( A.opt (idS 1 c1 d0) (fun sR=>A.peek (.lg cc 1 sR) V (fun sS=>A.ucI .i64 sS (fun sU sV=>A.uc0 sV ( A.ari .add .i64 n30 sU (fun sW=>A.ari .add .i64 sW (.ofNat 1) (fun sX=>A.ari .rem .i64 sX (.ofNat 4) (fun sY=>A.conv .u8 sY (fun d1=>A.call 43 [(.v O),(.i n26),(.i n28),(.i d1)] V (fun sZ h5=>A.unB sZ (fun s0 s1=>A.un0 s1 ( A.cond (!s0) ( K [(.v (.slice none 0 0)),(.b false)] h5) ( A.call 43 [(.v a9),(.i n26),(.i n28),(.i d1)] h5 (fun s2 h6=>A.unB s2 (fun s3 s4=>A.un0 s4 ( A.join (fun s5 s6=>A.unV s5 (fun s7 s8=>A.un0 s8 ( A.ari .add .i64 d0 (.ofNat 1) (fun s9=>sL [(.v s7),(.i s9)] s6)))) (fun h7=>A.cond (!s3) ( A.new (.cells [(.int .i64 n26),(.int .i64 n28),(.int .u8 d1)] 3 true) h6 (fun ta tb=>A.heap (.ap cc 3 24 a9 (.slice (some ⟨ta,0,(some 13)⟩) 1 2)) tb (fun tc tg=>A.ucV tc (fun h8 th=>A.chk h8 ( A.uc0 th ( h7 [(.v h8)] tg)))))) ( h7 [(.v a9)] h6)))))))))))))))))) ( A.opt (lenS J) (fun ti=>A.cmp .eql n32 ti (fun tj=>A.cond tj ( a4 [(.v a9)] V) ( A.opt (idS 1 J n32) (fun tn=>A.peek (.lg cc 1 tn) V (fun tq=>A.ucI .u8 tq (fun d2 tr=>A.uc0 tr ( A.cmp .eql d2 (.ofNat 1) (fun tt=>A.join (fun tu tv=>A.unI tu (fun tw tz=>A.unI tz (fun tA tB=>A.unI tB (fun tC tD=>A.un0 tD ( A.ari .add .i64 n32 (.ofNat 1) (fun tE=>a6 [(.v a9),(.i tw),(.i tA),(.i tC),(.i tE)] tv)))))) (fun h9=>A.cond tt ( A.new (.cells [(.int .i64 (.ofNat 1)),(.int .i64 (.ofNat 0)),(.int .i64 (.negSucc 0)),(.int .i64 (.ofNat 0))] 1 true) V (fun tF i0=>A.opt (idS 1 (.slice (some ⟨tF,0,(some 11)⟩) 4 5) n30) (fun tG=>A.peek (.lg cc 1 tG) i0 (fun tH=>A.ucI .i64 tH (fun tI tJ=>A.uc0 tJ ( A.ari .add .i64 n26 tI (fun tK=>A.new (.cells [(.int .i64 (.ofNat 0)),(.int .i64 (.ofNat 1)),(.int .i64 (.ofNat 0)),(.int .i64 (.negSucc 0))] 1 true) i0 (fun tL i1=>A.opt (idS 1 (.slice (some ⟨tL,0,(some 11)⟩) 4 5) n30) (fun tM=>A.peek (.lg cc 1 tM) i1 (fun tN=>A.ucI .i64 tN (fun tO tP=>A.uc0 tP ( A.ari .add .i64 n28 tO (fun tQ=>h9 [(.i tK),(.i tQ),(.i n30)] i1))))))))))))) ( A.cmp .eql d2 (.ofNat 2) (fun tR=>A.join (fun tS tT=>A.unI tS (fun tU tV=>A.un0 tV ( h9 [(.i n26),(.i n28),(.i tU)] tT))) (fun i2=>A.cond tR ( A.ari .add .i64 n30 (.ofNat 2) (fun tW=>A.ari .rem .i64 tW (.ofNat 4) (fun tX=>i2 [(.i tX)] V))) ( A.cmp .eql d2 (.ofNat 3) (fun tY=>A.join (fun tZ t0=>A.unI tZ (fun t1 t2=>A.un0 t2 ( i2 [(.i t1)] t0))) (fun i3=>A.cond tY ( A.ari .add .i64 n30 (.ofNat 1) (fun t3=>A.ari .rem .i64 t3 (.ofNat 4) (fun t4=>i3 [(.i t4)] V))) ( A.ari .add .i64 n30 (.ofNat 3) (fun t5=>A.ari .rem .i64 t5 (.ofNat 4) (fun t6=>i3 [(.i t6)] V))))))))))))))))))))))))) [(.v M),(.i (.ofNat 0))] b4)))))) (fun j0=>A.cond q5 ( A.new (.cells [(.int .i64 (.ofNat 1)),(.int .i64 (.ofNat 2))] 1 true) a2 (fun t7 t8=>j0 [(.v (.slice (some ⟨t7,0,(some 11)⟩) 2 3))] t8)) ( j0 [(.v (.slice (some ⟨b3,0,(some 11)⟩) 4 5))] a2)))))))) ( A.opt (lenS J) (fun t9=>A.cmp .lss n32 t9 (fun uc=>A.cond uc ( A.opt (idS 1 J n32) (fun ud=>A.peek (.lg cc 1 ud) a2 (fun ue=>A.ucI .u8 ue (fun uf ug=>A.uc0 ug ( A.cmp .eql uf (.ofNat 4) (fun uh=>A.join (fun ui uj=>A.unV ui (fun j1 uk=>A.un0 uk ( A.loop (fun ul um a0=>A.unV um (fun b0 uo=>A.unI uo (fun d3 uq=>A.un0 uq ( A.opt (lenS j1) (fun ur=>A.cmp .lss d3 ur (fun ut=>A.cond ut ( A.opt (idS 1 j1 d3) (fun uu=>A.peek (.lg cc 1 uu) a0 (fun uv=>A.ucI .i64 uv (fun uw ux=>A.uc0 ux ( A.ari .add .i64 n30 uw (fun uy=>A.ari .add .i64 uy (.ofNat 1) (fun uz=>A.ari .rem .i64 uz (.ofNat 4) (fun uA=>A.conv .u8 uA (fun d4=>A.call 43 [(.v O),(.i n26),(.i n28),(.i d4)] a0 (fun uC j2=>A.unB uC (fun uD uE=>A.un0 uE ( A.cond (!uD) ( K [(.v (.slice none 0 0)),(.b false)] j2) ( A.call 43 [(.v b0),(.i n26),(.i n28),(.i d4)] j2 (fun uF j3=>A.unB uF (fun uG uH=>A.un0 uH ( A.join (fun uI uJ=>A.unV uI (fun uK uL=>A.un0 uL ( A.ari .add .i64 d3 (.ofNat 1) (fun uM=>ul [(.v uK),(.i uM)] uJ)))) (fun j4=>A.cond (!uG) ( A.new (.cells [(.int .i64 n26),(.int .i64 n28),(.int .u8 d4)] 3 true) j3 (fun uN uO=>A.heap (.ap cc 3 24 b0 (.slice (some ⟨uN,0,(some 13)⟩) 1 2)) uO (fun uP uQ=>A.ucV uP (fun j5 uR=>A.chk j5 ( A.uc0 uR ( j4 [(.v j5)] uQ)))))) ( j4 [(.v b0)] j3)))))))))))))))))) ( A.opt (lenS J) (fun uS=>A.cmp .eql n32 uS (fun uT=>A.cond uT ( a4 [(.v b0)] a0) ( A.opt (idS 1 J n32) (fun uU=>A.peek (.lg cc 1 uU) a0 (fun uV=>A.ucI .u8 uV (fun d5 uW=>A.uc0 uW ( A.cmp .eql d5 (.ofNat 1) (fun uX=>A.join (fun uY uZ=>A.unI uY (fun u0 u1=>A.unI u1 (fun u2 u3=>A.unI u3 (fun u4 u5=>A.un0 u5 ( A.ari .add .i64 n32 (.ofNat 1) (fun u6=>a6 [(.v b0),(.i u0),(.i u2),(.i u4),(.i u6)] uZ)))))) (fun j6=>A.cond uX ( A.new (.cells [(.int .i64 (.ofNat 1)),(.int .i64 (.ofNat 0)),(.int .i64 (.negSucc 0)),(.int .i64 (.ofNat 0))] 1 true) a0 (fun u7 j7=>A.opt (idS 1 (.slice (some ⟨u7,0,(some 11)⟩) 4 5) n30) (fun u8=>A.peek (.lg cc 1 u8) j7 (fun u9=>A.ucI .i64 u9 (fun va vb=>A.uc0 vb ( A.ari .add .i64 n26 va (fun vc=>A.new (.cells [(.int .i64 (.ofNat 0)),(.int .i64 (.ofNat 1)),(.int .i64 (.ofNat 0)),(.int .i64 (.negSucc 0))] 1 true) j7 (fun vd j8=>A.opt (idS 1 (.slice (some ⟨vd,0,(some 11)⟩) 4 5) n30) (fun ve=>A.peek (.lg cc 1 ve) j8 (fun vf=>A.ucI .i64 vf (fun vg vh=>A.uc0 vh ( A.ari .add .i64 n28 vg (fun vi=>j6 [(.i vc),(.i vi),(.i n30)] j8))))))))))))) ( A.cmp .eql d5 (.ofNat 2) (fun vj=>A.join (fun vk vl=>A.unI vk (fun vm vn=>A.un0 vn ( j6 [(.i n26),(.i n28),(.i vm)] vl))) (fun j9=>A.cond vj ( A.ari .add .i64 n30 (.ofNat 2) (fun vo=>A.ari .rem .i64 vo (.ofNat 4) (fun vp=>j9 [(.i vp)] a0))) ( A.cmp .eql d5 (.ofNat 3) (fun vq=>A.join (fun vr vt=>A.unI vr (fun vu vw=>A.un0 vw ( j9 [(.i vu)] vt))) (fun kw=>A.cond vq ( A.ari .add .i64 n30 (.ofNat 1) (fun vx=>A.ari .rem .i64 vx (.ofNat 4) (fun vy=>kw [(.i vy)] a0))) ( A.ari .add .i64 n30 (.ofNat 3) (fun vz=>A.ari .rem .i64 vz (.ofNat 4) (fun vA=>kw [(.i vA)] a0))))))))))))))))))))))))) [(.v M),(.i (.ofNat 0))] uj))) (fun k0=>A.cond uh ( A.new (.cells [(.int .i64 (.ofNat 2)),(.int .i64 (.ofNat 3))] 1 true) a2 (fun vB vC=>k0 [(.v (.slice (some ⟨vB,0,(some 11)⟩) 2 3))] vC)) ( k0 [(.v (.slice (some ⟨b3,0,(some 11)⟩) 4 5))] a2)))))))) ( A.loop (fun vD vE a1=>A.unV vE (fun b1 vF=>A.unI vF (fun d6 vG=>A.un0 vG ( A.opt (lenS (.slice (some ⟨b3,0,(some 11)⟩) 4 5)) (fun vH=>A.cmp .lss d6 vH (fun vI=>A.cond vI ( A.opt (idS 1 (.slice (some ⟨b3,0,(some 11)⟩) 4 5) d6) (fun vJ=>A.peek (.lg cc 1 vJ) a1 (fun vK=>A.ucI .i64 vK (fun vL vM=>A.uc0 vM ( A.ari .add .i64 n30 vL (fun vN=>A.ari .add .i64 vN (.ofNat 1) (fun vO=>A.ari .rem .i64 vO (.ofNat 4) (fun vP=>A.conv .u8 vP (fun d7=>A.call 43 [(.v O),(.i n26),(.i n28),(.i d7)] a1 (fun vQ k1=>A.unB vQ (fun vR vS=>A.un0 vS ( A.cond (!vR) ( K [(.v (.slice none 0 0)),(.b false)] k1) ( A.call 43 [(.v b1),(.i n26),(.i n28),(.i d7)] k1 (fun vT k2=>A.unB vT (fun vU vV=>A.un0 vV ( A.join (fun vW vX=>A.unV vW (fun vY vZ=>A.un0 vZ ( A.ari .add .i64 d6 (.ofNat 1) (fun v0=>vD [(.v vY),(.i v0)] vX)))) (fun k3=>A.cond (!vU) ( A.new (.cells [(.int .i64 n26),(.int .i64 n28),(.int .u8 d7)] 3 true) k2 (fun v1 v2=>A.heap (.ap cc 3 24 b1 (.slice (some ⟨v1,0,(some 13)⟩) 1 2)) v2 (fun v3 v4=>A.ucV v3 (fun k4 v5=>A.chk k4 ( A.uc0 v5 ( k3 [(.v k4)] v4)))))) ( k3 [(.v b1)] k2)))))))))))))))))) ( A.opt (lenS J) (fun v6=>A.cmp .eql n32 v6 (fun v7=>A.cond v7 ( a4 [(.v b1)] a1) ( A.opt (idS 1 J n32) (fun v8=>A.peek (.lg cc 1 v8) a1 (fun v9=>A.ucI .u8 v9 (fun d8 wc=>A.uc0 wc ( A.cmp .eql d8 (.ofNat 1) (fun we=>A.join (fun wg wh=>A.unI wg (fun wi wj=>A.unI wj (fun wk wl=>A.unI wl (fun wm wn=>A.un0 wn ( A.ari .add .i64 n32 (.ofNat 1) (fun wo=>a6 [(.v b1),(.i wi),(.i wk),(.i wm),(.i wo)] wh)))))) (fun k5=>A.cond we ( A.new (.cells [(.int .i64 (.ofNat 1)),(.int .i64 (.ofNat 0)),(.int .i64 (.negSucc 0)),(.int .i64 (.ofNat 0))] 1 true) a1 (fun wp k6=>A.opt (idS 1 (.slice (some ⟨wp,0,(some 11)⟩) 4 5) n30) (fun wq=>A.peek (.lg cc 1 wq) k6 (fun wt=>A.ucI .i64 wt (fun wu wv=>A.uc0 wv ( A.ari .add .i64 n26 wu (fun ww=>A.new (.cells [(.int .i64 (.ofNat 0)),(.int .i64 (.ofNat 1)),(.int .i64 (.ofNat 0)),(.int .i64 (.negSucc 0))] 1 true) k6 (fun wx k7=>A.opt (idS 1 (.slice (some ⟨wx,0,(some 11)⟩) 4 5) n30) (fun wy=>A.peek (.lg cc 1 wy) k7 (fun wz=>A.ucI .i64 wz (fun wA wB=>A.uc0 wB ( A.ari .add .i64 n28 wA (fun wC=>k5 [(.i ww),(.i wC),(.i n30)] k7))))))))))))) ( A.cmp .eql d8 (.ofNat 2) (fun wD=>A.join (fun wE wF=>A.unI wE (fun wG wH=>A.un0 wH ( k5 [(.i n26),(.i n28),(.i wG)] wF))) (fun k8=>A.cond wD ( A.ari .add .i64 n30 (.ofNat 2) (fun wI=>A.ari .rem .i64 wI (.ofNat 4) (fun wJ=>k8 [(.i wJ)] a1))) ( A.cmp .eql d8 (.ofNat 3) (fun wK=>A.join (fun wL wM=>A.unI wL (fun wN wO=>A.un0 wO ( k8 [(.i wN)] wM))) (fun k9=>A.cond wK ( A.ari .add .i64 n30 (.ofNat 1) (fun wP=>A.ari .rem .i64 wP (.ofNat 4) (fun wQ=>k9 [(.i wQ)] a1))) ( A.ari .add .i64 n30 (.ofNat 3) (fun wR=>A.ari .rem .i64 wR (.ofNat 4) (fun wS=>k9 [(.i wS)] a1))))))))))))))))))))))))) [(.v M),(.i (.ofNat 0))] a2)))))))) ( A.ari .sub .i64 n32 (.ofNat 1) (fun wT=>A.opt (idS 1 J wT) (fun wU=>A.peek (.lg cc 1 wU) a7 (fun wV=>A.ucI .u8 wV (fun wW wX=>A.uc0 wX ( A.cmp .lss wW (.ofNat 3) (fun wY=>A.join (fun wZ a5=>A.unV wZ (fun l0 w0=>A.un0 w0 ( A.opt (lenS J) (fun w1=>A.cmp .eql n32 w1 (fun w2=>A.cond w2 ( a4 [(.v l0)] a5) ( A.opt (idS 1 J n32) (fun w3=>A.peek (.lg cc 1 w3) a5 (fun xa=>A.ucI .u8 xa (fun d9 xb=>A.uc0 xb ( A.cmp .eql d9 (.ofNat 1) (fun xd=>A.join (fun xe xf=>A.unI xe (fun xg xh=>A.unI xh (fun xi xj=>A.unI xj (fun xk xl=>A.un0 xl ( A.ari .add .i64 n32 (.ofNat 1) (fun xm=>a6 [(.v l0),(.i xg),(.i xi),(.i xk),(.i xm)] xf)))))) (fun l1=>A.cond xd ( A.new (.cells [(.int .i64 (.ofNat 1)),(.int .i64 (.ofNat 0)),(.int .i64 (.negSucc 0)),(.int .i64 (.ofNat 0))] 1 true) a5 (fun xn l2=>A.opt (idS 1 (.slice (some ⟨xn,0,(some 11)⟩) 4 5) n30) (fun xo=>A.peek (.lg cc 1 xo) l2 (fun xp=>A.ucI .i64 xp (fun xq xr=>A.uc0 xr ( A.ari .add .i64 n26 xq (fun xt=>A.new (.cells [(.int .i64 (.ofNat 0)),(.int .i64 (.ofNat 1)),(.int .i64 (.ofNat 0)),(.int .i64 (.negSucc 0))] 1 true) l2 (fun xu l3=>A.opt (idS 1 (.slice (some ⟨xu,0,(some 11)⟩) 4 5) n30) (fun xv=>A.peek (.lg cc 1 xv) l3 (fun xw=>A.ucI .i64 xw (fun xy xz=>A.uc0 xz ( A.ari .add .i64 n28 xy (fun xA=>l1 [(.i xt),(.i xA),(.i n30)] l3))))))))))))) ( A.cmp .eql d9 (.ofNat 2) (fun xB=>A.join (fun xC xD=>A.unI xC (fun xE xF=>A.un0 xF ( l1 [(.i n26),(.i n28),(.i xE)] xD))) (fun l4=>A.cond xB ( A.ari .add .i64 n30 (.ofNat 2) (fun xG=>A.ari .rem .i64 xG (.ofNat 4) (fun xH=>l4 [(.i xH)] a5))) ( A.cmp .eql d9 (.ofNat 3) (fun xI=>A.join (fun xJ xK=>A.unI xJ (fun xL xM=>A.un0 xM ( l4 [(.i xL)] xK))) (fun l5=>A.cond xI ( A.ari .add .i64 n30 (.ofNat 1) (fun xN=>A.ari .rem .i64 xN (.ofNat 4) (fun xO=>l5 [(.i xO)] a5))) ( A.ari .add .i64 n30 (.ofNat 3) (fun xP=>A.ari .rem .i64 xP (.ofNat 4) (fun xQ=>l5 [(.i xQ)] a5))))))))))))))))))))) (fun b2=>A.cond wY ( A.new (.cells [(.int .i64 (.ofNat 0)),(.int .i64 (.ofNat 1)),(.int .i64 (.ofNat 2)),(.int .i64 (.ofNat 3))] 1 true) a7 (fun b5 a3=>A.opt (lenS J) (fun xR=>A.cmp .lss n32 xR (fun xS=>A.cond xS ( A.opt (idS 1 J n32) (fun xU=>A.peek (.lg cc 1 xU) a3 (fun xV=>A.ucI .u8 xV (fun xW xX=>A.uc0 xX ( A.cmp .eql xW (.ofNat 3) (fun xY=>A.join (fun xZ b6=>A.unV xZ (fun e0 x0=>A.un0 x0 ( A.opt (lenS J) (fun x1=>A.cmp .lss n32 x1 (fun x2=>A.cond x2 ( A.opt (idS 1 J n32) (fun x3=>A.peek (.lg cc 1 x3) b6 (fun x4=>A.ucI .u8 x4 (fun x5 x6=>A.uc0 x6 ( A.cmp .eql x5 (.ofNat 4) (fun x7=>A.join (fun x8 x9=>A.unV x8 (fun l6 ya=>A.un0 ya ( A.loop (fun yb yc e1=>A.unV yc (fun b7 yd=>A.unI yd (fun e2 ye=>A.un0 ye ( A.opt (lenS l6) (fun yf=>A.cmp .lss e2 yf (fun yg=>A.cond yg ( A.opt (idS 1 l6 e2) (fun yh=>A.peek (.lg cc 1 yh) e1 (fun yi=>A.ucI .i64 yi (fun yj yk=>A.uc0 yk ( A.ari .add .i64 n30 yj (fun yl=>A.ari .add .i64 yl (.ofNat 1) (fun ym=>A.ari .rem .i64 ym (.ofNat 4) (fun yn=>A.conv .u8 yn (fun e3=>A.call 43 [(.v O),(.i n26),(.i n28),(.i e3)] e1 (fun yo l7=>A.unB yo (fun yp yq=>A.un0 yq ( A.cond (!yp) ( K [(.v (.slice none 0 0)),(.b false)] l7) ( A.call 43 [(.v b7),(.i n26),(.i n28),(.i e3)] l7 (fun yr l8=>A.unB yr (fun yu yv=>A.un0 yv ( A.join (fun yw yx=>A.unV yw (fun yy yz=>A.un0 yz ( A.ari .add .i64 e2 (.ofNat 1) (fun yA=>yb [(.v yy),(.i yA)] yx)))) (fun l9=>A.cond (!yu) ( A.new (.cells [(.int .i64 n26),(.int .i64 n28),(.int .u8 e3)] 3 true) l8 (fun yB yC=>A.heap (.ap cc 3 24 b7 (.slice (some ⟨yB,0,(some 13)⟩) 1 2)) yC (fun yD yE=>A.ucV yD (fun m0 yF=>A.chk m0 ( A.uc0 yF ( l9 [(.v m0)] yE)))))) ( l9 [(.v b7)] l8)))))))))))))))))) ( b2 [(.v b7)] e1))))))) [(.v M),(.i (.ofNat 0))] x9))) (fun m1=>A.cond x7 ( A.new (.cells [(.int .i64 (.ofNat 2)),(.int .i64 (.ofNat 3))] 1 true) b6 (fun yG yH=>m1 [(.v (.slice (some ⟨yG,0,(some 11)⟩) 2 3))] yH)) ( m1 [(.v e0)] b6)))))))) ( A.loop (fun yI yJ f0=>A.unV yJ (fun b8 yK=>A.unI yK (fun f1 yL=>A.un0 yL ( A.opt (lenS e0) (fun yM=>A.cmp .lss f1 yM (fun yN=>A.cond yN ( A.opt (idS 1 e0 f1) (fun yO=>A.peek (.lg cc 1 yO) f0 (fun yP=>A.ucI .i64 yP (fun yQ yR=>A.uc0 yR ( A.ari .add .i64 n30 yQ (fun yS=>A.ari .add .i64 yS (.ofNat 1) (fun yT=>A.ari .rem .i64 yT (.ofNat 4) (fun yU=>A.conv .u8 yU (fun f2=>A.call 43 [(.v O),(.i n26),(.i n28),(.i f2)] f0 (fun yV m2=>A.unB yV (fun yW yX=>A.un0 yX ( A.cond (!yW) ( K [(.v (.slice none 0 0)),(.b false)] m2) ( A.call 43 [(.v b8),(.i n26),(.i n28),(.i f2)] m2 (fun yY m3=>A.unB yY (fun yZ y0=>A.un0 y0 ( A.join (fun y1 y2=>A.unV y1 (fun y3 y4=>A.un0 y4 ( A.ari .add .i64 f1 (.ofNat 1) (fun y5=>yI [(.v y3),(.i y5)] y2)))) (fun m4=>A.cond (!yZ) ( A.new (.cells [(.int .i64 n26),(.int .i64 n28),(.int .u8 f2)] 3 true) m3 (fun y6 y7=>A.heap (.ap cc 3 24 b8 (.slice (some ⟨y6,0,(some 13)⟩) 1 2)) y7 (fun y8 y9=>A.ucV y8 (fun m5 za=>A.chk m5 ( A.uc0 za ( m4 [(.v m5)] y9)))))) ( m4 [(.v b8)] m3)))))))))))))))))) ( b2 [(.v b8)] f0))))))) [(.v M),(.i (.ofNat 0))] b6)))))) (fun m6=>A.cond xY ( A.new (.cells [(.int .i64 (.ofNat 1)),(.int .i64 (.ofNat 2))] 1 true) a3 (fun zb zc=>m6 [(.v (.slice (some ⟨zb,0,(some 11)⟩) 2 3))] zc)) ( m6 [(.v (.slice (some ⟨b5,0,(some 11)⟩) 4 5))] a3)))))))) ( A.opt (lenS J) (fun zd=>A.cmp .lss n32 zd (fun ze=>A.cond ze ( A.opt (idS 1 J n32) (fun zf=>A.peek (.lg cc 1 zf) a3 (fun zg=>A.ucI .u8 zg (fun zh zi=>A.uc0 zi ( A.cmp .eql zh (.ofNat 4) (fun zj=>A.join (fun zk zl=>A.unV zk (fun m7 zm=>A.un0 zm ( A.loop (fun zn zo f3=>A.unV zo (fun b9 zp=>A.unI zp (fun gl zq=>A.un0 zq ( A.opt (lenS m7) (fun zr=>A.cmp .lss gl zr (fun zt=>A.cond zt ( A.opt (idS 1 m7 gl) (fun zu=>A.peek (.lg cc 1 zu) f3 (fun zw=>A.ucI .i64 zw (fun zx zy=>A.uc0 zy ( A.ari .add .i64 n30 zx (fun zA=>A.ari .add .i64 zA (.ofNat 1) (fun zB=>A.ari .rem .i64 zB (.ofNat 4) (fun zC=>A.conv .u8 zC (fun g0=>A.call 43 [(.v O),(.i n26),(.i n28),(.i g0)] f3 (fun zD m8=>A.unB zD (fun zE zF=>A.un0 zF ( A.cond (!zE) ( K [(.v (.slice none 0 0)),(.b false)] m8) ( A.call 43 [(.v b9),(.i n26),(.i n28),(.i g0)] m8 (fun zG m9=>A.unB zG (fun zH zI=>A.un0 zI ( A.join (fun zJ zK=>A.unV zJ (fun zL zM=>A.un0 zM ( A.ari .add .i64 gl (.ofNat 1) (fun zN=>zn [(.v zL),(.i zN)] zK)))) (fun n0=>A.cond (!zH) ( A.new (.cells [(.int .i64 n26),(.int .i64 n28),(.int .u8 g0)] 3 true) m9 (fun zO zP=>A.heap (.ap cc 3 24 b9 (.slice (some ⟨zO,0,(some 13)⟩) 1 2)) zP (fun zQ zR=>A.ucV zQ (fun n1 zS=>A.chk n1 ( A.uc0 zS ( n0 [(.v n1)] zR)))))) ( n0 [(.v b9)] m9)))))))))))))))))) ( b2 [(.v b9)] f3))))))) [(.v M),(.i (.ofNat 0))] zl))) (fun n2=>A.cond zj ( A.new (.cells [(.int .i64 (.ofNat 2)),(.int .i64 (.ofNat 3))] 1 true) a3 (fun zT zU=>n2 [(.v (.slice (some ⟨zT,0,(some 11)⟩) 2 3))] zU)) ( n2 [(.v (.slice (some ⟨b5,0,(some 11)⟩) 4 5))] a3)))))))) ( A.loop (fun zV zW g1=>A.unV zW (fun c0 zX=>A.unI zX (fun g2 zY=>A.un0 zY ( A.opt (lenS (.slice (some ⟨b5,0,(some 11)⟩) 4 5)) (fun zZ=>A.cmp .lss g2 zZ (fun z0=>A.cond z0 ( A.opt (idS 1 (.slice (some ⟨b5,0,(some 11)⟩) 4 5) g2) (fun z1=>A.peek (.lg cc 1 z1) g1 (fun z2=>A.ucI .i64 z2 (fun z3 z4=>A.uc0 z4 ( A.ari .add .i64 n30 z3 (fun z5=>A.ari .add .i64 z5 (.ofNat 1) (fun z6=>A.ari .rem .i64 z6 (.ofNat 4) (fun z7=>A.conv .u8 z7 (fun g3=>A.call 43 [(.v O),(.i n26),(.i n28),(.i g3)] g1 (fun z8 n3=>A.unB z8 (fun z9 Aa=>A.un0 Aa ( A.cond (!z9) ( K [(.v (.slice none 0 0)),(.b false)] n3) ( A.call 43 [(.v c0),(.i n26),(.i n28),(.i g3)] n3 (fun Ab o0=>A.unB Ab (fun Ac Ad=>A.un0 Ad ( A.join (fun Ae Af=>A.unV Ae (fun Ag Ah=>A.un0 Ah ( A.ari .add .i64 g2 (.ofNat 1) (fun Ai=>zV [(.v Ag),(.i Ai)] Af)))) (fun o1=>A.cond (!Ac) ( A.new (.cells [(.int .i64 n26),(.int .i64 n28),(.int .u8 g3)] 3 true) o0 (fun Aj Ak=>A.heap (.ap cc 3 24 c0 (.slice (some ⟨Aj,0,(some 13)⟩) 1 2)) Ak (fun Al Ao=>A.ucV Al (fun o2 Ap=>A.chk o2 ( A.uc0 Ap ( o1 [(.v o2)] Ao)))))) ( o1 [(.v c0)] o0)))))))))))))))))) ( b2 [(.v c0)] g1))))))) [(.v M),(.i (.ofNat 0))] a3)))))))) ( b2 [(.v M)] a7))))))))))) ( a4 [(.v M)] a7)))))))))) [(.v (.slice none 0 0)),(.i n8),(.i n10),(.i (.ofNat 0)),(.i (.ofNat 0))] h)))))))
/-- (*crimp/crimplaw21.tree).visit -/
noncomputable def f30(ls:List Lf)(h:HT)(K:List Lf→HT→R):R:=A.unV ls (fun J d4=>A.unI d4 (fun n8 d5=>A.unI d5 (fun n10 d6=>A.unI d6 (fun n12 d7=>A.un0 d7 ( A.opt (nilP J) (fun a1=>A.chk a1 ( A.opt (fdP 1 a1) (fun M=>A.chk M ( A.peek (.lg cc 1 M) h (fun d8=>A.ucV d8 (fun a2 d9=>A.chk a2 ( A.uc0 d9 ( A.new (.cells [(.int .i64 n8),(.int .i64 n10),(.int .u8 n12)] 3 true) h (fun a3 e0=>A.heap (.ap cc 3 24 a2 (.slice (some ⟨a3,0,(some 13)⟩) 1 2)) e0 (fun e1 e2=>A.ucV e1 (fun a4 e3=>A.chk a4 ( A.uc0 e3 ( A.opt (nilP J) (fun a5=>A.chk a5 ( A.opt (fdP 1 a5) (fun a6=>A.chk a6 ( A.heap (.st a6 [a4]) e2 (fun j3 a7=>A.opt (Sx.sepL [((.slice (some ⟨a3,0,(some 13)⟩) 1 2),(0,M))]) (fun j4=>A.opt (nilP J) (fun a8=>A.chk a8 ( A.opt (fdP 2 a8) (fun a9=>A.chk a9 ( A.peek (.lg cc 1 a9) a7 (fun f0=>A.ucV f0 (fun b0 f1=>A.chk b0 ( A.uc0 f1 ( A.opt (lenS b0) (fun f2=>A.opt (nilP J) (fun b1=>A.chk b1 ( A.opt (fdP 4 b1) (fun b2=>A.chk b2 ( A.heap (.st b2 [(.int .i64 f2)]) a7 (fun j5 f3=>A.loop (fun b3 gl b4=>A.unI gl (fun n43 g0=>A.un0 g0 ( A.cmp .lss n43 (.ofNat 4) (fun g1=>A.cond g1 ( A.new (.cells [(.int .i64 (.ofNat 1)),(.int .i64 (.ofNat 0)),(.int .i64 (.negSucc 0)),(.int .i64 (.ofNat 0))] 1 true) b4 (fun O b5=>A.opt (idS 1 (.slice (some ⟨O,0,(some 11)⟩) 4 5) n43) (fun b6=>A.peek (.lg cc 1 b6) b5 (fun g2=>A.ucI .i64 g2 (fun n50 g3=>A.uc0 g3 ( A.ari .add .i64 n8 n50 (fun n52=>A.new (.cells [(.int .i64 (.ofNat 0)),(.int .i64 (.ofNat 1)),(.int .i64 (.ofNat 0)),(.int .i64 (.negSucc 0))] 1 true) b5 (fun U V=>A.opt (idS 1 (.slice (some ⟨U,0,(some 11)⟩) 4 5) n43) (fun b7=>A.peek (.lg cc 1 b7) V (fun g4=>A.ucI .i64 g4 (fun g5 g6=>A.uc0 g6 ( A.ari .add .i64 n10 g5 (fun n59=>A.opt (Sx.sepL [((.slice (some ⟨O,0,(some 11)⟩) 4 5),(0,(.slice (some ⟨U,0,(some 11)⟩) 4 5))),((.slice (some ⟨U,0,(some 11)⟩) 4 5),(0,b6)),((.slice (some ⟨O,0,(some 11)⟩) 4 5),(0,b7))]) (fun j6=>A.opt (nilP J) (fun b8=>A.chk b8 ( A.opt (fdP 0 b8) (fun b9=>A.chk b9 ( A.peek (.lg cc 1 b9) V (fun g7=>A.ucV g7 (fun c0 g8=>A.chk c0 ( A.uc0 g8 ( A.call 43 [(.v c0),(.i n52),(.i n59),(.i (.ofNat 0))] V (fun g9 a0=>A.unB g9 (fun h0 h1=>A.un0 h1 ( A.cond h0 ( A.opt (nilP J) (fun c1=>A.chk c1 ( A.opt (fdP 1 c1) (fun d0=>A.chk d0 ( A.peek (.lg cc 1 d0) a0 (fun h2=>A.ucV h2 (fun d1 h3=>A.chk d1 ( A.uc0 h3 ( A.call 43 [(.v d1),(.i n52),(.i n59),(.i (.ofNat 0))] a0 (fun h4 d2=>A.unB h4 (fun h5 h6=>A.un0 h6 ( A.join (fun h7 h8=>A.un0 h7 ( A.ari .add .i64 n43 (.ofNat 1) (fun h9=>b3 [(.i h9)] h8))) (fun d3=>A.cond (!h5) ( A.call 44 [(.v J),(.i n43)] d2 (fun i0 i1=>A.un0 i0 ( A.call 30 [(.v J),(.i n52),(.i n59),(.i (.ofNat 0))] i1 (fun i2 i3=>A.un0 i2 ( A.ari .add .i64 n43 (.ofNat 2) (fun n87=>A.ari .rem .i64 n87 (.ofNat 4) (fun j0=>A.call 44 [(.v J),(.i j0)] i3 (fun j1 j2=>A.un0 j1 ( d3 [] j2))))))))) ( d3 [] d2)))))))))))))) ( A.ari .add .i64 n43 (.ofNat 1) (fun n91=>b3 [(.i n91)] a0))))))))))))))))))))))))))) ( K [] b4))))) [(.i (.ofNat 0))] f3))))))))))))))))))))))))))))))))))))))
/-- crimp/crimplaw21.least -/
noncomputable def f31(ls:List Lf)(h:HT)(K:List Lf→HT→R):R:=A.unV ls (fun M b8=>A.unI b8 (fun n8 b9=>A.unI b9 (fun n10 c0=>A.unI c0 (fun n12 c1=>A.unI c1 (fun n14 d0=>A.unI d0 (fun n16 d1=>A.unV d1 (fun d2 d3=>A.un0 d3 ( A.loop (fun d4 d5 a2=>A.unI d5 (fun n23 d6=>A.un0 d6 ( A.cmp .lss n23 (.ofNat 3) (fun d7=>A.cond d7 ( A.join (fun d8 d9=>A.un0 d8 ( A.ari .add .i64 n23 (.ofNat 1) (fun n28=>d4 [(.i n28)] d9))) (fun U=>A.new (.cells [(.int .i64 (.ofNat 0)),(.int .i64 (.ofNat 1)),(.int .i64 (.ofNat 2)),(.int .i64 (.ofNat 3))] 1 true) a2 (fun e0 e1=>A.new (.cells [(.int .i64 (.ofNat 1)),(.int .i64 (.ofNat 2))] 1 true) e1 (fun e2 e3=>A.new (.cells [(.int .i64 (.ofNat 2)),(.int .i64 (.ofNat 3))] 1 true) e3 (fun f0 f1=>A.new (.cells [(.slice (some ⟨e0,0,(some 11)⟩) 4 5),(.slice (some ⟨e2,0,(some 11)⟩) 2 3),(.slice (some ⟨f0,0,(some 11)⟩) 2 3)] 1 true) f1 (fun f2 a3=>A.opt (idS 1 (.slice (some ⟨f2,0,(some 11)⟩) 3 4) n23) (fun f3=>A.peek (.lg cc 1 f3) a3 (fun gl=>A.ucV gl (fun V g0=>A.chk V ( A.uc0 g0 ( A.new (.cells [] 3 true) a3 (fun g1 g2=>A.heap (.ap cc 3 24 (.slice (some ⟨g1,0,(some 13)⟩) 0 1) d2) g2 (fun g3 g4=>A.ucV g3 (fun a4 g5=>A.chk a4 ( A.uc0 g5 ( A.loop (fun g6 g7 O=>A.unV g7 (fun J g8=>A.unI g8 (fun n53 g9=>A.un0 g9 ( A.opt (lenS V) (fun h0=>A.cmp .lss n53 h0 (fun h1=>A.cond h1 ( A.opt (idS 1 V n53) (fun h2=>A.peek (.lg cc 1 h2) O (fun h3=>A.ucI .i64 h3 (fun n59 h4=>A.uc0 h4 ( A.ari .add .i64 n14 n59 (fun n61=>A.ari .add .i64 n61 (.ofNat 1) (fun n62=>A.ari .rem .i64 n62 (.ofNat 4) (fun n63=>A.conv .u8 n63 (fun n64=>A.call 43 [(.v J),(.i n8),(.i n10),(.i n64)] O (fun h5 a5=>A.unB h5 (fun h6 h7=>A.un0 h7 ( A.join (fun h8 h9=>A.unV h8 (fun i0 i1=>A.un0 i1 ( A.ari .add .i64 n53 (.ofNat 1) (fun n73=>g6 [(.v i0),(.i n73)] h9)))) (fun a6=>A.cond (!h6) ( A.new (.cells [(.int .i64 n8),(.int .i64 n10),(.int .u8 n64)] 3 true) a5 (fun i2 i3=>A.heap (.ap cc 3 24 J (.slice (some ⟨i2,0,(some 13)⟩) 1 2)) i3 (fun j0 j1=>A.ucV j0 (fun a7 j2=>A.chk a7 ( A.uc0 j2 ( a6 [(.v a7)] j1)))))) ( a6 [(.v J)] a5)))))))))))))) ( A.opt (lenS J) (fun j3=>A.opt (lenS M) (fun j4=>A.cmp .eql j3 j4 (fun j5=>A.cond j5 ( K [(.b true)] O) ( A.cmp .eql n16 (.ofNat 0) (fun j6=>A.cond j6 ( U [] O) ( A.new (.cells [(.int .i64 (.ofNat 0)),(.int .i64 (.ofNat 1)),(.int .i64 (.ofNat 3))] 1 true) O (fun j7 a8=>A.opt (idS 1 (.slice (some ⟨j7,0,(some 11)⟩) 3 4) n23) (fun j8=>A.peek (.lg cc 1 j8) a8 (fun j9=>A.ucI .i64 j9 (fun n89 kw=>A.uc0 kw ( A.ari .add .i64 n14 n89 (fun n91=>A.ari .rem .i64 n91 (.ofNat 4) (fun n92=>A.new (.cells [(.int .i64 (.ofNat 1)),(.int .i64 (.ofNat 0)),(.int .i64 (.negSucc 0)),(.int .i64 (.ofNat 0))] 1 true) a8 (fun a0 a9=>A.opt (idS 1 (.slice (some ⟨a0,0,(some 11)⟩) 4 5) n92) (fun b0=>A.peek (.lg cc 1 b0) a9 (fun k0=>A.ucI .i64 k0 (fun k1 k2=>A.uc0 k2 ( A.ari .add .i64 n8 k1 (fun b1=>A.new (.cells [(.int .i64 (.ofNat 0)),(.int .i64 (.ofNat 1)),(.int .i64 (.ofNat 0)),(.int .i64 (.negSucc 0))] 1 true) a9 (fun a1 b2=>A.opt (idS 1 (.slice (some ⟨a1,0,(some 11)⟩) 4 5) n92) (fun b3=>A.peek (.lg cc 1 b3) b2 (fun k3=>A.ucI .i64 k3 (fun n104 k4=>A.uc0 k4 ( A.ari .add .i64 n10 n104 (fun n106=>A.opt (Sx.sepL [((.slice (some ⟨a0,0,(some 11)⟩) 4 5),(0,(.slice (some ⟨a1,0,(some 11)⟩) 4 5))),((.slice (some ⟨a1,0,(some 11)⟩) 4 5),(0,b0)),((.slice (some ⟨a0,0,(some 11)⟩) 4 5),(0,b3))]) (fun m4=>A.call 43 [(.v M),(.i b1),(.i n106),(.i (.ofNat 0))] b2 (fun k5 b4=>A.unB k5 (fun k6 k7=>A.un0 k7 ( A.cond k6 ( A.ari .sub .i64 n16 (.ofNat 1) (fun n112=>A.call 31 [(.v M),(.i b1),(.i n106),(.i (.ofNat 0)),(.i n92),(.i n112),(.v J)] b4 (fun k8 b5=>A.unB k8 (fun k9 l0=>A.un0 l0 ( A.cond k9 ( K [(.b true)] b5) ( A.ari .add .i64 n92 (.ofNat 2) (fun n117=>A.ari .rem .i64 n117 (.ofNat 4) (fun n118=>A.ari .sub .i64 n16 (.ofNat 1) (fun n119=>A.call 31 [(.v M),(.i n8),(.i n10),(.i n12),(.i n118),(.i n119),(.v J)] b5 (fun l1 b6=>A.unB l1 (fun l2 l3=>A.un0 l3 ( A.join (fun l4 l5=>A.un0 l4 ( U [] l5)) (fun l6=>A.cond l2 ( K [(.b true)] b6) ( l6 [] b6)))))))))))))) ( A.ari .add .i64 n92 (.ofNat 2) (fun l7=>A.ari .rem .i64 l7 (.ofNat 4) (fun n128=>A.ari .sub .i64 n16 (.ofNat 1) (fun n129=>A.call 31 [(.v M),(.i n8),(.i n10),(.i n12),(.i n128),(.i n129),(.v J)] b4 (fun l8 b7=>A.unB l8 (fun l9 m0=>A.un0 m0 ( A.join (fun m1 m2=>A.un0 m1 ( U [] m2)) (fun m3=>A.cond l9 ( K [(.b true)] b7) ( m3 [] b7))))))))))))))))))))))))))))))))))))))))))))) [(.v a4),(.i (.ofNat 0))] g4)))))))))))))))) ( K [(.b false)] a2))))) [(.i (.ofNat 0))] h))))))))
/-- crimp/sets.Check -/
noncomputable def f32(ls:List Lf)(h:HT)(K:List Lf→HT→R):R:=A.unV ls (fun J V=>A.un0 V ( A.opt (lenS J) (fun a0=>A.cmp .gtr a0 (.ofNat 1024) (fun a1=>A.cond a1 ( K [(.i (.ofNat 3))] h) ( A.call 45 [(.v J)] h (fun a2 O=>A.unB a2 (fun a3 a4=>A.un0 a4 ( A.cond a3 ( K [(.i (.ofNat 1))] O) ( A.loop (fun a5 a6 M=>A.unI a6 (fun n17 a7=>A.un0 a7 ( A.opt (lenS J) (fun a8=>A.cmp .lss n17 a8 (fun a9=>A.cond a9 ( A.ari .sub .i64 n17 (.ofNat 1) (fun n21=>A.opt (idS 3 J n21) (fun b0=>A.peek (.lg cc 3 b0) M (fun b1=>A.ucI .i64 b1 (fun n24 b2=>A.ucI .i64 b2 (fun n26 b3=>A.ucI .u8 b3 (fun n28 b4=>A.uc0 b4 ( A.opt (idS 3 J n17) (fun b5=>A.peek (.lg cc 3 b5) M (fun b6=>A.ucI .i64 b6 (fun n32 b7=>A.ucI .i64 b7 (fun n34 b8=>A.ucI .u8 b8 (fun n36 b9=>A.uc0 b9 ( A.call 46 [(.i n24),(.i n26),(.i n28),(.i n32),(.i n34),(.i n36)] M (fun c0 U=>A.unI c0 (fun n40 c1=>A.un0 c1 ( A.cmp .geq n40 (.ofNat 0) (fun d0=>A.cond d0 ( K [(.i (.ofNat 6))] U) ( A.ari .add .i64 n17 (.ofNat 1) (fun n43=>a5 [(.i n43)] U)))))))))))))))))))) ( K [(.i (.ofNat 0))] M)))))) [(.i (.ofNat 1))] O)))))))))
/-- crimp/covers.Check$1 -/
noncomputable def f33(ls:List Lf)(h:HT)(K:List Lf→HT→R):R:=A.unI ls (fun n6 a1=>A.unI a1 (fun n8 a2=>A.unI a2 (fun n10 a3=>A.unV a3 (fun a4 a5=>A.unV a5 (fun M a6=>A.unV a6 (fun a7 a8=>A.un0 a8 ( A.peek (.lg cc 1 a4) h (fun a9=>A.ucV a9 (fun O b0=>A.chk O ( A.uc0 b0 ( A.peek (.fn (luG cc 24 false (.bool false) O (.agg ⟨[(.int .i64 n6),(.int .i64 n8),(.int .u8 n10)]⟩) false)) h (fun b1=>A.ucB b1 (fun b2 b3=>A.uc0 b3 ( A.cond (!b2) ( K [] h) ( A.peek (.lg cc 1 M) h (fun b4=>A.ucV b4 (fun U b5=>A.chk U ( A.uc0 b5 ( A.peek (.fn (luG cc 24 false (.bool false) U (.agg ⟨[(.int .i64 n6),(.int .i64 n8),(.int .u8 n10)]⟩) false)) h (fun b6=>A.ucB b6 (fun b7 b8=>A.uc0 b8 ( A.cond b7 ( K [] h) ( A.peek (.lg cc 1 M) h (fun b9=>A.ucV b9 (fun V c0=>A.chk V ( A.uc0 c0 ( A.heap (.fn (muG cc 24 V (.agg ⟨[(.int .i64 n6),(.int .i64 n8),(.int .u8 n10)]⟩) (.bool true))) h (fun e3 c1=>A.loop (fun d0 d1 J=>A.unI d1 (fun n38 d2=>A.un0 d2 ( A.cmp .lss n38 (.ofNat 4) (fun d3=>A.cond d3 ( A.peek (.lg cc 1 a7) J (fun d4=>A.ucV d4 (fun a0 d5=>A.chk a0 ( A.uc0 d5 ( A.call 19 [(.i n6),(.i n8),(.i n10),(.i n38)] J (fun d6 d7=>A.unI d6 (fun n46 d8=>A.unI d8 (fun n48 d9=>A.unI d9 (fun n50 e0=>A.un0 e0 ( A.callv a0 [(.agg ⟨[(.int .i64 n46),(.int .i64 n48),(.int .u8 n50)]⟩)] [] d7 (fun e1 e2=>A.un0 e1 ( A.ari .add .i64 n38 (.ofNat 1) (fun n54=>d0 [(.i n54)] e2))))))))))))) ( K [] J))))) [(.i (.ofNat 0))] c1))))))))))))))))))))))))))))
/-- slices.ContainsFunc[[]crimp/ribbons.Step,crimp/ribbons.Step] -/
noncomputable def f34(ls:List Lf)(h:HT)(K:List Lf→HT→R):R:=A.unV ls (fun J M=>A.unV M (fun O U=>A.un0 U ( A.call 47 [(.v J),(.v O)] h (fun V a0=>A.unI V (fun n12 a1=>A.un0 a1 ( A.cmp .geq n12 (.ofNat 0) (fun a2=>K [(.b a2)] a0)))))))
/-- crimp/ribbons.Check$1 -/
noncomputable def f35(ls:List Lf)(h:HT)(K:List Lf→HT→R):R:=A.unI ls (fun n6 M=>A.un0 M ( A.join (fun O U=>A.unB O (fun V a0=>A.un0 a0 ( K [(.b V)] U))) (fun J=>A.cmp .lss n6 (.ofNat 1) (fun a1=>A.cond a1 ( J [(.b true)] h) ( A.cmp .gtr n6 (.ofNat 4) (fun a2=>J [(.b a2)] h))))))
/-- crimp/ribbons.Images -/
noncomputable def f36(ls:List Lf)(h:HT)(K:List Lf→HT→R):R:=A.unV ls (fun M a0=>A.un0 a0 ( A.call 48 [(.v M)] h (fun a1 O=>A.unI a1 (fun n10 a2=>A.unI a2 (fun n12 a3=>A.unV a3 (fun U a4=>A.unI a4 (fun n16 a5=>A.un0 a5 ( A.cmp .neq n16 (.ofNat 0) (fun a6=>A.cond a6 ( K [(.v (.slice none 0 0)),(.i n16)] O) ( A.call 49 [] O (fun a7 J=>A.unI a7 (fun n21 a8=>A.unI a8 (fun n23 a9=>A.unI a9 (fun n25 b0=>A.un0 b0 ( A.opt (lenS M) (fun b1=>A.cmp .gtr b1 (.ofNat 0) (fun b2=>A.cond b2 ( A.opt (idS 1 M (.ofNat 0)) (fun b3=>A.peek (.lg cc 1 b3) J (fun b4=>A.ucI .u8 b4 (fun n31 b5=>A.uc0 b5 ( A.cmp .eql n31 (.ofNat 3) (fun b6=>A.join (fun b7 b8=>A.unI b7 (fun n36 b9=>A.unI b9 (fun n38 c0=>A.unI c0 (fun n40 c1=>A.un0 c1 ( A.call 51 [(.i n10),(.i n12),(.v U),(.i n36),(.i n38),(.i n40)] b8 (fun d0 d1=>A.unV d0 (fun d2 d3=>A.unI d3 (fun n46 d4=>A.un0 d4 ( K [(.v d2),(.i n46)] d1))))))))) (fun V=>A.cond b6 ( A.call 50 [(.i (.ofNat 4)),(.i (.ofNat 0))] J (fun d5 d6=>A.unI d5 (fun n51 d7=>A.unI d7 (fun n53 d8=>A.unI d8 (fun n55 d9=>A.unI d9 (fun f2 e0=>A.un0 e0 ( V [(.i n51),(.i n53),(.i n55)] d6))))))) ( V [(.i n21),(.i n23),(.i n25)] J)))))))) ( A.call 51 [(.i n10),(.i n12),(.v U),(.i n21),(.i n23),(.i n25)] J (fun e1 e2=>A.unV e1 (fun e3 f0=>A.unI f0 (fun n63 f1=>A.un0 f1 ( K [(.v e3),(.i n63)] e2))))))))))))))))))))))
/-- crimp/sets.Of -/
noncomputable def f37(ls:List Lf)(h:HT)(K:List Lf→HT→R):R:=A.unV ls (fun J a0=>A.un0 a0 ( A.call 45 [(.v J)] h (fun a1 M=>A.unB a1 (fun a2 a3=>A.un0 a3 ( A.cond a2 ( K [(.v (.slice none 0 0)),(.i (.ofNat 1))] M) ( A.call 52 [(.v J)] M (fun a4 a5=>A.unV a4 (fun O a6=>A.un0 a6 ( A.call 53 [(.v O),(.v (.func (.func 46) ⟨[]⟩ ⟨[]⟩))] a5 (fun a7 a8=>A.un0 a7 ( A.call 54 [(.v O)] a8 (fun a9 U=>A.unV a9 (fun V b0=>A.un0 b0 ( A.opt (lenS V) (fun b1=>A.cmp .gtr b1 (.ofNat 1024) (fun b2=>A.cond b2 ( K [(.v (.slice none 0 0)),(.i (.ofNat 3))] U) ( A.call 55 [(.v V)] U (fun b3 b4=>A.unV b3 (fun b5 b6=>A.un0 b6 ( K [(.v b5),(.i (.ofNat 0))] b4))))))))))))))))))))
/-- slices.Contains[[]crimp/api.Cell,crimp/api.Cell] -/
noncomputable def f38(ls:List Lf)(h:HT)(K:List Lf→HT→R):R:=A.unV ls (fun J M=>A.unI M (fun n8 O=>A.unI O (fun n10 U=>A.unI U (fun n12 V=>A.un0 V ( A.call 40 [(.v J),(.i n8),(.i n10),(.i n12)] h (fun a0 a1=>A.unI a0 (fun n16 a2=>A.un0 a2 ( A.cmp .geq n16 (.ofNat 0) (fun a3=>K [(.b a3)] a1)))))))))
/-- slices.Equal[[]crimp/api.Cell,crimp/api.Cell] -/
noncomputable def f39(ls:List Lf)(h:HT)(K:List Lf→HT→R):R:=A.unV ls (fun M U=>A.unV U (fun O V=>A.un0 V ( A.opt (lenS M) (fun a0=>A.opt (lenS O) (fun a1=>A.cmp .neq a0 a1 (fun a2=>A.cond a2 ( K [(.b false)] h) ( A.opt (lenS M) (fun a3=>A.loop (fun a4 a5 J=>A.unI a5 (fun n17 a6=>A.un0 a6 ( A.cmp .lss n17 a3 (fun a7=>A.cond a7 ( A.opt (idS 3 M n17) (fun a8=>A.peek (.lg cc 3 a8) J (fun a9=>A.ucI .i64 a9 (fun n22 b0=>A.ucI .i64 b0 (fun n24 b1=>A.ucI .u8 b1 (fun n26 b2=>A.uc0 b2 ( A.opt (idS 3 O n17) (fun b3=>A.peek (.lg cc 3 b3) J (fun b4=>A.ucI .i64 b4 (fun n30 b5=>A.ucI .i64 b5 (fun n32 b6=>A.ucI .u8 b6 (fun n34 b7=>A.uc0 b7 ( A.eqs [((.i n22),(.i n30)),((.i n24),(.i n32)),((.i n26),(.i n34))] (fun b8=>A.cond (!b8) ( K [(.b false)] J) ( A.ari .add .i64 n17 (.ofNat 1) (fun n37=>a4 [(.i n37)] J)))))))))))))))) ( K [(.b true)] J))))) [(.i (.ofNat 0))] h))))))))
/-- slices.Index[[]crimp/api.Cell,crimp/api.Cell] -/
noncomputable def f40(ls:List Lf)(h:HT)(K:List Lf→HT→R):R:=A.unV ls (fun M O=>A.unI O (fun n8 U=>A.unI U (fun n10 V=>A.unI V (fun n12 a0=>A.un0 a0 ( A.opt (lenS M) (fun a1=>A.loop (fun a2 a3 J=>A.unI a3 (fun n18 a4=>A.un0 a4 ( A.cmp .lss n18 a1 (fun a5=>A.cond a5 ( A.opt (idS 3 M n18) (fun a6=>A.peek (.lg cc 3 a6) J (fun a7=>A.ucI .i64 a7 (fun n23 a8=>A.ucI .i64 a8 (fun n25 a9=>A.ucI .u8 a9 (fun n27 b0=>A.uc0 b0 ( A.eqs [((.i n8),(.i n23)),((.i n10),(.i n25)),((.i n12),(.i n27))] (fun b1=>A.cond b1 ( K [(.i n18)] J) ( A.ari .add .i64 n18 (.ofNat 1) (fun n30=>a2 [(.i n30)] J)))))))))) ( K [(.i (.negSucc 0))] J))))) [(.i (.ofNat 0))] h))))))
noncomputable def f41(ls:List Lf)(h:HT)(K:List Lf→HT→R):R:=A.unV ls (fun J M=>A.unB M (fun O U=>A.un0 U ( A.call 56 [(.v J),(.b O)] h (fun V a0=>A.unI V (fun n12 a1=>A.un0 a1 ( A.cmp .geq n12 (.ofNat 0) (fun a2=>K [(.b a2)] a0)))))))
/-- crimp/crimplaw21.has -/
noncomputable def f43(ls:List Lf)(h:HT)(K:List Lf→HT→R):R:=A.unV ls (fun M O=>A.unI O (fun n8 U=>A.unI U (fun n10 V=>A.unI V (fun n12 a0=>A.un0 a0 ( A.loop (fun a1 a2 J=>A.unI a2 (fun n17 a3=>A.un0 a3 ( A.opt (lenS M) (fun a4=>A.cmp .lss n17 a4 (fun a5=>A.cond a5 ( A.opt (idS 3 M n17) (fun a6=>A.peek (.lg cc 3 a6) J (fun a7=>A.ucI .i64 a7 (fun n23 a8=>A.ucI .i64 a8 (fun n25 a9=>A.ucI .u8 a9 (fun n27 b0=>A.uc0 b0 ( A.eqs [((.i n23),(.i n8)),((.i n25),(.i n10)),((.i n27),(.i n12))] (fun b1=>A.cond b1 ( K [(.b true)] J) ( A.ari .add .i64 n17 (.ofNat 1) (fun n30=>a1 [(.i n30)] J)))))))))) ( K [(.b false)] J)))))) [(.i (.ofNat 0))] h)))))
/-- (*crimp/crimplaw21.tree).step -/
noncomputable def f44(ls:List Lf)(h:HT)(K:List Lf→HT→R):R:=A.unV ls (fun J d9=>A.unI d9 (fun n8 e0=>A.un0 e0 ( A.opt (nilP J) (fun M=>A.chk M ( A.opt (fdP 3 M) (fun O=>A.chk O ( A.peek (.lg cc 1 O) h (fun e1=>A.ucI .i64 e1 (fun n13 e2=>A.uc0 e2 ( A.cmp .eql n8 n13 (fun e3=>A.join (fun f0 f1=>A.un0 f0 ( A.opt (nilP J) (fun U=>A.chk U ( A.opt (fdP 3 U) (fun V=>A.chk V ( A.heap (.st V [(.int .i64 n8)]) f1 (fun k6 f2=>K [] f2))))))) (fun a0=>A.cond e3 ( A.opt (nilP J) (fun a1=>A.chk a1 ( A.opt (fdP 2 a1) (fun a2=>A.chk a2 ( A.peek (.lg cc 1 a2) h (fun f3=>A.ucV f3 (fun a3 gl=>A.chk a3 ( A.uc0 gl ( A.new (.cells [(.int .u8 (.ofNat 1))] 1 true) h (fun g0 g1=>A.heap (.ap cc 1 1 a3 (.slice (some ⟨g0,0,(some 11)⟩) 1 2)) g1 (fun g2 g3=>A.ucV g2 (fun a4 g4=>A.chk a4 ( A.uc0 g4 ( A.opt (nilP J) (fun a5=>A.chk a5 ( A.opt (fdP 2 a5) (fun a6=>A.chk a6 ( A.heap (.st a6 [a4]) g3 (fun k7 g5=>a0 [] g5))))))))))))))))))) ( A.opt (nilP J) (fun a7=>A.chk a7 ( A.opt (fdP 3 a7) (fun a8=>A.chk a8 ( A.peek (.lg cc 1 a8) h (fun g6=>A.ucI .i64 g6 (fun n41 g7=>A.uc0 g7 ( A.ari .add .i64 n41 (.ofNat 1) (fun n43=>A.ari .rem .i64 n43 (.ofNat 4) (fun n44=>A.cmp .eql n8 n44 (fun g8=>A.join (fun g9 h0=>A.un0 g9 ( a0 [] h0)) (fun a9=>A.cond g8 ( A.opt (nilP J) (fun b0=>A.chk b0 ( A.opt (fdP 2 b0) (fun b1=>A.chk b1 ( A.peek (.lg cc 1 b1) h (fun h1=>A.ucV h1 (fun b2 h2=>A.chk b2 ( A.uc0 h2 ( A.new (.cells [(.int .u8 (.ofNat 2)),(.int .u8 (.ofNat 4)),(.int .u8 (.ofNat 1))] 1 true) h (fun h3 h4=>A.heap (.ap cc 1 1 b2 (.slice (some ⟨h3,0,(some 11)⟩) 3 4)) h4 (fun h5 h6=>A.ucV h5 (fun b3 h7=>A.chk b3 ( A.uc0 h7 ( A.opt (nilP J) (fun b4=>A.chk b4 ( A.opt (fdP 2 b4) (fun b5=>A.chk b5 ( A.heap (.st b5 [b3]) h6 (fun k8 h8=>a9 [] h8))))))))))))))))))) ( A.opt (nilP J) (fun b6=>A.chk b6 ( A.opt (fdP 3 b6) (fun b7=>A.chk b7 ( A.peek (.lg cc 1 b7) h (fun h9=>A.ucI .i64 h9 (fun n67 i0=>A.uc0 i0 ( A.ari .add .i64 n67 (.ofNat 2) (fun n69=>A.ari .rem .i64 n69 (.ofNat 4) (fun i1=>A.cmp .eql n8 i1 (fun i2=>A.join (fun i3 j0=>A.un0 i3 ( a9 [] j0)) (fun b8=>A.cond i2 ( A.opt (nilP J) (fun b9=>A.chk b9 ( A.opt (fdP 2 b9) (fun c0=>A.chk c0 ( A.peek (.lg cc 1 c0) h (fun j1=>A.ucV j1 (fun c1 j2=>A.chk c1 ( A.uc0 j2 ( A.new (.cells [(.int .u8 (.ofNat 2)),(.int .u8 (.ofNat 1))] 1 true) h (fun j3 j4=>A.heap (.ap cc 1 1 c1 (.slice (some ⟨j3,0,(some 11)⟩) 2 3)) j4 (fun j5 j6=>A.ucV j5 (fun d0 j7=>A.chk d0 ( A.uc0 j7 ( A.opt (nilP J) (fun d1=>A.chk d1 ( A.opt (fdP 2 d1) (fun d2=>A.chk d2 ( A.heap (.st d2 [d0]) j6 (fun k9 j8=>b8 [] j8))))))))))))))))))) ( A.opt (nilP J) (fun d3=>A.chk d3 ( A.opt (fdP 2 d3) (fun d4=>A.chk d4 ( A.peek (.lg cc 1 d4) h (fun j9=>A.ucV j9 (fun d5 kw=>A.chk d5 ( A.uc0 kw ( A.new (.cells [(.int .u8 (.ofNat 2)),(.int .u8 (.ofNat 3)),(.int .u8 (.ofNat 1))] 1 true) h (fun k0 k1=>A.heap (.ap cc 1 1 d5 (.slice (some ⟨k0,0,(some 11)⟩) 3 4)) k1 (fun k2 k3=>A.ucV k2 (fun d6 k4=>A.chk d6 ( A.uc0 k4 ( A.opt (nilP J) (fun d7=>A.chk d7 ( A.opt (fdP 2 d7) (fun d8=>A.chk d8 ( A.heap (.st d8 [d6]) k3 (fun l0 k5=>b8 [] k5)))))))))))))))))))))))))))))))))))))))))))))))))))))))
/-- crimp/sets.wrong -/
noncomputable def f45(ls:List Lf)(h:HT)(K:List Lf→HT→R):R:=A.unV ls (fun J M=>A.un0 M ( A.call 59 [(.v J),(.v (.func (.func 60) ⟨[]⟩ ⟨[]⟩))] h (fun O U=>A.unB O (fun V a0=>A.un0 a0 ( K [(.b V)] U)))))
/-- crimp/cells.Compare -/
noncomputable def f46(ls:List Lf)(h:HT)(K:List Lf→HT→R):R:=A.unI ls (fun n6 J=>A.unI J (fun n8 M=>A.unI M (fun n10 O=>A.unI O (fun n12 U=>A.unI U (fun n14 V=>A.unI V (fun n16 a0=>A.un0 a0 ( A.conv .i64 n10 (fun n18=>A.conv .i64 n16 (fun n19=>A.new (.cells [(.int .i64 n8),(.int .i64 n14),(.int .i64 n6),(.int .i64 n12),(.int .i64 n18),(.int .i64 n19)] 2 true) h (fun a1 a2=>A.call 62 [(.v (.slice (some ⟨a1,0,(some 12)⟩) 3 4))] a2 (fun a3 a4=>A.unI a3 (fun n24 a5=>A.un0 a5 ( K [(.i n24)] a4)))))))))))))
/-- slices.IndexFunc[[]crimp/ribbons.Step,crimp/ribbons.Step] -/
noncomputable def f47(ls:List Lf)(h:HT)(K:List Lf→HT→R):R:=A.unV ls (fun M U=>A.unV U (fun V a0=>A.un0 a0 ( A.opt (lenS M) (fun a1=>A.loop (fun a2 a3 J=>A.unI a3 (fun n14 a4=>A.un0 a4 ( A.cmp .lss n14 a1 (fun a5=>A.cond a5 ( A.opt (idS 1 M n14) (fun a6=>A.peek (.lg cc 1 a6) J (fun a7=>A.ucI .u8 a7 (fun n19 a8=>A.uc0 a8 ( A.callv V [(.int .u8 n19)] [(.leaf .b)] J (fun a9 O=>A.unB a9 (fun b0 b1=>A.un0 b1 ( A.cond b0 ( K [(.i n14)] O) ( A.ari .add .i64 n14 (.ofNat 1) (fun n25=>a2 [(.i n25)] O)))))))))) ( K [(.i (.negSucc 0))] J))))) [(.i (.ofNat 0))] h))))
/-- crimp/ribbons.Pattern -/
noncomputable def f48(ls:List Lf)(h:HT)(K:List Lf→HT→R):R:=A.unV ls (fun V a9=>A.un0 a9 ( A.call 8 [(.v V)] h (fun b0 a0=>A.unI b0 (fun n10 b1=>A.unI b1 (fun n12 b2=>A.un0 b2 ( A.cmp .neq n12 (.ofNat 0) (fun b3=>A.cond b3 ( A.opt (chk2 (.slice none 0 0)) (fun k3=>K [(.i (.ofNat 0)),(.i (.ofNat 0)),(.v (.slice none 0 0)),(.i n12)] a0)) ( A.opt (lenS V) (fun b4=>A.loop (fun b5 b6 M=>A.unI b6 (fun n20 b7=>A.unB b7 (fun O b8=>A.unI b8 (fun n24 b9=>A.unI b9 (fun n26 c0=>A.unI c0 (fun n28 c1=>A.unV c1 (fun J d0=>A.un0 d0 ( A.cmp .lss n24 b4 (fun d1=>A.cond d1 ( A.join (fun d2 d3=>A.unI d2 (fun n35 d4=>A.unB d4 (fun d5 d6=>A.unI d6 (fun n39 d7=>A.unI d7 (fun n41 d8=>A.unV d8 (fun d9 e0=>A.un0 e0 ( A.ari .add .i64 n24 (.ofNat 1) (fun n45=>b5 [(.i n35),(.b d5),(.i n45),(.i n39),(.i n41),(.v d9)] d3)))))))) (fun a1=>A.opt (idS 1 V n24) (fun e1=>A.peek (.lg cc 1 e1) M (fun e2=>A.ucI .u8 e2 (fun n49 e3=>A.uc0 e3 ( A.join (fun f0 U=>A.unI f0 (fun n53 f1=>A.un0 f1 ( A.cmp .eql n49 (.ofNat 1) (fun f2=>A.cond f2 ( A.ari .add .i64 n20 (.ofNat 1) (fun n56=>a1 [(.i n56),(.b O),(.i n26),(.i n28),(.v J)] U)) ( A.cmp .eql n49 (.ofNat 2) (fun f3=>A.join (fun gl g0=>A.unI gl (fun n60 g1=>A.unI g1 (fun n62 g2=>A.unI g2 (fun n64 g3=>A.unV g3 (fun g4 g5=>A.un0 g5 ( a1 [(.i n60),(.b (!O)),(.i n62),(.i n64),(.v g4)] g0)))))) (fun a2=>A.cond f3 ( A.ari .mul .i64 (.ofNat 4) n20 (fun n69=>A.ari .add .i64 n69 (.ofNat 1) (fun g6=>A.new (.cells [(.int .i64 g6),(.int .u8 (.ofNat 0)),(.int .u8 n53)] 3 true) U (fun g7 g8=>A.heap (.ap cc 3 16 J (.slice (some ⟨g7,0,(some 13)⟩) 1 2)) g8 (fun g9 h0=>A.ucV g9 (fun a3 h1=>A.chk a3 ( A.uc0 h1 ( A.ari .add .i64 n20 (.ofNat 1) (fun n77=>a2 [(.i n77),(.i n26),(.i n28),(.v a3)] h0))))))))) ( A.cmp .eql n49 (.ofNat 3) (fun h2=>A.eqs [((.b h2),(.b O))] (fun h3=>A.join (fun h4 h5=>A.unI h4 (fun n82 h6=>A.unI h6 (fun n84 h7=>A.unV h7 (fun h8 h9=>A.un0 h9 ( a2 [(.i n20),(.i n82),(.i n84),(.v h8)] h5))))) (fun a4=>A.cond h3 ( A.ari .mul .i64 (.ofNat 4) n20 (fun n89=>A.ari .mul .i64 (.ofNat 4) n20 (fun i0=>A.ari .add .i64 i0 (.ofNat 1) (fun n91=>A.new (.cells [(.int .i64 n89),(.int .u8 (.ofNat 2)),(.int .u8 n53),(.int .i64 n91),(.int .u8 (.ofNat 2)),(.int .u8 n53)] 3 true) U (fun i1 i2=>A.heap (.ap cc 3 16 J (.slice (some ⟨i1,0,(some 13)⟩) 2 3)) i2 (fun i3 j0=>A.ucV i3 (fun a5 j1=>A.chk a5 ( A.uc0 j1 ( a4 [(.i n26),(.i n28),(.v a5)] j0))))))))) ( A.ari .mul .i64 (.ofNat 4) n20 (fun j2=>A.ari .mul .i64 (.ofNat 4) n20 (fun j3=>A.ari .add .i64 j3 (.ofNat 2) (fun n100=>A.new (.cells [(.int .i64 j2),(.int .u8 (.ofNat 1)),(.int .u8 n53),(.int .i64 n100),(.int .u8 (.ofNat 1)),(.int .u8 n53)] 3 true) U (fun j4 j5=>A.heap (.ap cc 3 16 J (.slice (some ⟨j4,0,(some 13)⟩) 2 3)) j5 (fun j6 j7=>A.ucV j6 (fun a6 j8=>A.chk a6 ( A.uc0 j8 ( a4 [(.i n26),(.i n28),(.v a6)] j7)))))))))))))))))))) (fun a7=>A.cond O ( a7 [(.i (.ofNat 2))] M) ( a7 [(.i (.ofNat 1))] M)))))))) ( A.call 63 [(.v J),(.v (.func (.func 64) ⟨[]⟩ ⟨[]⟩))] M (fun j9 kw=>A.un0 j9 ( A.call 65 [(.v J)] kw (fun k0 k1=>A.unV k0 (fun a8 k2=>A.un0 k2 ( A.opt (chk2 a8) (fun k4=>K [(.i n26),(.i n28),(.v a8),(.i (.ofNat 0))] k1)))))))))))))))) [(.i (.ofNat 0)),(.b true),(.i (.ofNat 0)),(.i n10),(.i (.ofNat 1)),(.v (.slice none 0 0))] a0)))))))))
/-- crimp/moves.Identity -/
noncomputable def f49(ls:List Lf)(h:HT)(K:List Lf→HT→R):R:=A.un0 ls ( K [(.i (.ofNat 0)),(.i (.ofNat 0)),(.i (.ofNat 0))] h)
/-- crimp/moves.Of -/
noncomputable def f50(ls:List Lf)(h:HT)(K:List Lf→HT→R):R:=A.unI ls (fun n6 M=>A.unI M (fun n8 O=>A.un0 O ( A.call 66 [(.i n6),(.i n8)] h (fun U J=>A.unI U (fun n12 V=>A.un0 V ( A.cmp .neq n12 (.ofNat 0) (fun a0=>A.cond a0 ( K [(.i (.ofNat 0)),(.i (.ofNat 0)),(.i (.ofNat 0)),(.i (.ofNat 1))] J) ( A.cmp .eql n6 (.ofNat 1) (fun a1=>A.cond a1 ( A.ari .mul .i64 (.ofNat 2) n8 (fun n16=>K [(.i (.ofNat 4)),(.i n16),(.i (.ofNat 0)),(.i (.ofNat 0))] J)) ( A.cmp .eql n6 (.ofNat 2) (fun a2=>A.cond a2 ( A.ari .mul .i64 (.ofNat 2) n8 (fun n18=>K [(.i (.ofNat 6)),(.i (.ofNat 0)),(.i n18),(.i (.ofNat 0))] J)) ( A.cmp .eql n6 (.ofNat 3) (fun a3=>A.cond a3 ( K [(.i (.ofNat 5)),(.i n8),(.i n8),(.i (.ofNat 0))] J) ( A.ari .sub .i64 (.ofNat 0) n8 (fun n20=>K [(.i (.ofNat 7)),(.i n20),(.i n8),(.i (.ofNat 0))] J)))))))))))))))
/-- crimp/places.Images -/
noncomputable def f51(ls:List Lf)(h:HT)(K:List Lf→HT→R):R:=A.unI ls (fun n6 J=>A.unI J (fun n8 M=>A.unV M (fun O U=>A.unI U (fun n12 V=>A.unI V (fun n14 a0=>A.unI a0 (fun n16 a1=>A.un0 a1 ( A.call 67 [(.i n6),(.i n8),(.v O),(.i n12),(.i n14),(.i n16)] h (fun a2 a3=>A.unV a2 (fun a8 a4=>A.unV a4 (fun a5 a6=>A.unI a6 (fun n24 a7=>A.un0 a7 ( K [(.v a5),(.i n24)] a3))))))))))))
/-- slices.Clone[[]crimp/api.Cell,crimp/api.Cell] -/
noncomputable def f52(ls:List Lf)(h:HT)(K:List Lf→HT→R):R:=A.unV ls (fun J O=>A.un0 O ( A.opt (nY 1 J (.slice none 0 0)) (fun U=>A.cond U ( K [(.v (.slice none 0 0))] h) ( A.new (.cells [] 3 true) h (fun V a0=>A.heap (.ap cc 3 24 (.slice (some ⟨V,0,(some 13)⟩) 0 1) J) a0 (fun a1 a2=>A.ucV a1 (fun M a3=>A.chk M ( A.uc0 a3 ( K [(.v M)] a2)))))))))
/-- slices.SortFunc[[]crimp/api.Cell,crimp/api.Cell] -/
noncomputable def f53(ls:List Lf)(h:HT)(K:List Lf→HT→R):R:=A.unV ls (fun J O=>A.unV O (fun U V=>A.un0 V ( A.opt (lenS J) (fun M=>A.conv .u64 M (fun n11=>A.call 69 [(.i n11)] h (fun a0 a1=>A.unI a0 (fun n14 a2=>A.un0 a2 ( A.call 68 [(.v J),(.i (.ofNat 0)),(.i M),(.i n14),(.v U)] a1 (fun a3 a4=>A.un0 a3 ( K [] a4))))))))))
/-- slices.Compact[[]crimp/api.Cell,crimp/api.Cell] -/
noncomputable def f54(ls:List Lf)(h:HT)(K:List Lf→HT→R):R:=A.unV ls (fun J a2=>A.un0 a2 ( A.opt (lenS J) (fun a3=>A.cmp .lss a3 (.ofNat 2) (fun a4=>A.cond a4 ( K [(.v J)] h) ( A.loop (fun a5 a6 O=>A.unI a6 (fun n13 a7=>A.un0 a7 ( A.opt (lenS J) (fun a8=>A.cmp .lss n13 a8 (fun a9=>A.cond a9 ( A.opt (idS 3 J n13) (fun b0=>A.peek (.lg cc 3 b0) O (fun b1=>A.ucI .i64 b1 (fun n19 b2=>A.ucI .i64 b2 (fun n21 b3=>A.ucI .u8 b3 (fun n23 b4=>A.uc0 b4 ( A.ari .sub .i64 n13 (.ofNat 1) (fun n25=>A.opt (idS 3 J n25) (fun b5=>A.peek (.lg cc 3 b5) O (fun b6=>A.ucI .i64 b6 (fun n28 b7=>A.ucI .i64 b7 (fun n30 b8=>A.ucI .u8 b8 (fun n32 b9=>A.uc0 b9 ( A.eqs [((.i n19),(.i n28)),((.i n21),(.i n30)),((.i n23),(.i n32))] (fun c0=>A.cond c0 ( A.opt (slS 3 J (some n13) none none) (fun U=>A.chk U ( A.loop (fun c1 d0 M=>A.unI d0 (fun n39 d1=>A.unI d1 (fun n41 d2=>A.un0 d2 ( A.opt (lenS U) (fun d3=>A.cmp .lss n41 d3 (fun d4=>A.cond d4 ( A.opt (idS 3 U n41) (fun d5=>A.peek (.lg cc 3 d5) M (fun d6=>A.ucI .i64 d6 (fun n47 d7=>A.ucI .i64 d7 (fun n49 d8=>A.ucI .u8 d8 (fun n51 d9=>A.uc0 d9 ( A.ari .sub .i64 n41 (.ofNat 1) (fun n53=>A.opt (idS 3 U n53) (fun e0=>A.peek (.lg cc 3 e0) M (fun e1=>A.ucI .i64 e1 (fun n56 e2=>A.ucI .i64 e2 (fun e3 f0=>A.ucI .u8 f0 (fun n60 f1=>A.uc0 f1 ( A.eqs [((.i n47),(.i n56)),((.i n49),(.i e3)),((.i n51),(.i n60))] (fun f2=>A.join (fun f3 gl=>A.unI f3 (fun n65 g0=>A.un0 g0 ( A.ari .add .i64 n41 (.ofNat 1) (fun n67=>c1 [(.i n65),(.i n67)] gl)))) (fun V=>A.cond (!f2) ( A.opt (idS 3 U n41) (fun g1=>A.peek (.lg cc 3 g1) M (fun g2=>A.ucI .i64 g2 (fun n71 g3=>A.ucI .i64 g3 (fun n73 g4=>A.ucI .u8 g4 (fun n75 g5=>A.uc0 g5 ( A.opt (idS 3 J n39) (fun g6=>A.heap (.st g6 [(.int .i64 n71),(.int .i64 n73),(.int .u8 n75)]) M (fun g9 g7=>A.ari .add .i64 n39 (.ofNat 1) (fun n80=>V [(.i n80)] g7)))))))))) ( V [(.i n39)] M))))))))))))))))) ( A.opt (slS 3 J (some n39) none none) (fun a0=>A.chk a0 ( A.heap (.fn (clG 3 [(.int .i64 (.ofNat 0)),(.int .i64 (.ofNat 0)),(.int .u8 (.ofNat 0))] a0)) M (fun h0 g8=>A.opt (slS 3 J none (some n39) none) (fun a1=>A.chk a1 ( K [(.v a1)] g8)))))))))))) [(.i n13),(.i (.ofNat 1))] O))) ( A.ari .add .i64 n13 (.ofNat 1) (fun n85=>a5 [(.i n85)] O))))))))))))))))) ( K [(.v J)] O)))))) [(.i (.ofNat 1))] h)))))
/-- slices.Clip[[]crimp/api.Cell,crimp/api.Cell] -/
noncomputable def f55(ls:List Lf)(h:HT)(K:List Lf→HT→R):R:=A.unV ls (fun J O=>A.un0 O ( A.opt (lenS J) (fun U=>A.opt (lenS J) (fun V=>A.opt (slS 3 J none (some U) (some V)) (fun M=>A.chk M ( K [(.v M)] h))))))
noncomputable def f56(ls:List Lf)(h:HT)(K:List Lf→HT→R):R:=A.unV ls (fun M O=>A.unB O (fun U V=>A.un0 V ( A.opt (lenS M) (fun a0=>A.loop (fun a1 a2 J=>A.unI a2 (fun n14 a3=>A.un0 a3 ( A.cmp .lss n14 a0 (fun a4=>A.cond a4 ( A.opt (idS 1 M n14) (fun a5=>A.peek (.lg cc 1 a5) J (fun a6=>A.ucB a6 (fun a7 a8=>A.uc0 a8 ( A.eqs [((.b U),(.b a7))] (fun a9=>A.cond a9 ( K [(.i n14)] J) ( A.ari .add .i64 n14 (.ofNat 1) (fun n22=>a1 [(.i n22)] J)))))))) ( K [(.i (.negSucc 0))] J))))) [(.i (.ofNat 0))] h))))
/-- slices.ContainsFunc[[]crimp/api.Cell,crimp/api.Cell] -/
noncomputable def f59(ls:List Lf)(h:HT)(K:List Lf→HT→R):R:=A.unV ls (fun J M=>A.unV M (fun O U=>A.un0 U ( A.call 71 [(.v J),(.v O)] h (fun V a0=>A.unI V (fun n12 a1=>A.un0 a1 ( A.cmp .geq n12 (.ofNat 0) (fun a2=>K [(.b a2)] a0)))))))
/-- crimp/sets.wrong$1 -/
noncomputable def f60(ls:List Lf)(h:HT)(K:List Lf→HT→R):R:=A.unI ls (fun n6 J=>A.unI J (fun n8 M=>A.unI M (fun n10 O=>A.un0 O ( A.call 61 [(.i n6),(.i n8),(.i n10)] h (fun U V=>A.unI U (fun n14 a0=>A.un0 a0 ( A.cmp .neq n14 (.ofNat 0) (fun a1=>K [(.b a1)] V))))))))
/-- crimp/cells.Check -/
noncomputable def f61(ls:List Lf)(h:HT)(K:List Lf→HT→R):R:=A.unI ls (fun n6 J=>A.unI J (fun n8 M=>A.unI M (fun n10 O=>A.un0 O ( A.cmp .lss n6 (.negSucc 4095) (fun U=>A.cond U ( K [(.i (.ofNat 1))] h) ( A.cmp .gtr n6 (.ofNat 4096) (fun V=>A.cond V ( K [(.i (.ofNat 1))] h) ( A.cmp .lss n8 (.negSucc 4095) (fun a0=>A.cond a0 ( K [(.i (.ofNat 1))] h) ( A.cmp .gtr n8 (.ofNat 4096) (fun a1=>A.cond a1 ( K [(.i (.ofNat 1))] h) ( A.cmp .gtr n10 (.ofNat 3) (fun a2=>A.cond a2 ( K [(.i (.ofNat 1))] h) ( K [(.i (.ofNat 0))] h))))))))))))))
/-- crimp/cells.order[int] -/
noncomputable def f62(ls:List Lf)(h:HT)(K:List Lf→HT→R):R:=A.unV ls (fun M U=>A.un0 U ( A.opt (lenS M) (fun V=>A.loop (fun a0 a1 J=>A.unI a1 (fun n12 a2=>A.un0 a2 ( A.cmp .lss n12 V (fun a3=>A.cond a3 ( A.opt (idS 2 M n12) (fun a4=>A.peek (.lg cc 2 a4) J (fun a5=>A.ucI .i64 a5 (fun n17 a6=>A.ucI .i64 a6 (fun n19 a7=>A.uc0 a7 ( A.call 72 [(.i n17),(.i n19)] J (fun a8 O=>A.unI a8 (fun n23 a9=>A.un0 a9 ( A.cmp .neq n23 (.ofNat 0) (fun b0=>A.cond b0 ( K [(.i n23)] O) ( A.ari .add .i64 n12 (.ofNat 1) (fun n26=>a0 [(.i n26)] O)))))))))))) ( K [(.i (.ofNat 0))] J))))) [(.i (.ofNat 0))] h)))
/-- slices.SortFunc[[]crimp/patterns.Crease,crimp/patterns.Crease] -/
noncomputable def f63(ls:List Lf)(h:HT)(K:List Lf→HT→R):R:=A.unV ls (fun J O=>A.unV O (fun U V=>A.un0 V ( A.opt (lenS J) (fun M=>A.conv .u64 M (fun n11=>A.call 69 [(.i n11)] h (fun a0 a1=>A.unI a0 (fun n14 a2=>A.un0 a2 ( A.call 73 [(.v J),(.i (.ofNat 0)),(.i M),(.i n14),(.v U)] a1 (fun a3 a4=>A.un0 a3 ( K [] a4))))))))))
/-- crimp/ribbons.Pattern$1 -/
noncomputable def f64(ls:List Lf)(h:HT)(K:List Lf→HT→R):R:=A.unI ls (fun n6 J=>A.unI J (fun n8 M=>A.unI M (fun n10 O=>A.unI O (fun n12 U=>A.unI U (fun n14 V=>A.unI V (fun n16 a0=>A.un0 a0 ( A.ari .sub .i64 n6 n12 (fun n18=>A.ari .mul .i64 (.ofNat 4) n18 (fun n19=>A.conv .i64 n8 (fun n20=>A.ari .add .i64 n19 n20 (fun n21=>A.conv .i64 n14 (fun n22=>A.ari .sub .i64 n21 n22 (fun n23=>K [(.i n23)] h)))))))))))))
/-- slices.Clip[[]crimp/patterns.Crease,crimp/patterns.Crease] -/
noncomputable def f65(ls:List Lf)(h:HT)(K:List Lf→HT→R):R:=A.unV ls (fun J O=>A.un0 O ( A.opt (lenS J) (fun U=>A.opt (lenS J) (fun V=>A.opt (slS 3 J none (some U) (some V)) (fun M=>A.chk M ( K [(.v M)] h))))))
/-- crimp/lines.Check -/
noncomputable def f66(ls:List Lf)(h:HT)(K:List Lf→HT→R):R:=A.unI ls (fun n6 J=>A.unI J (fun n8 M=>A.un0 M ( A.cmp .lss n6 (.ofNat 1) (fun O=>A.cond O ( K [(.i (.ofNat 1))] h) ( A.cmp .gtr n6 (.ofNat 4) (fun U=>A.cond U ( K [(.i (.ofNat 1))] h) ( A.cmp .lss n8 (.negSucc 4095) (fun V=>A.cond V ( K [(.i (.ofNat 1))] h) ( A.cmp .gtr n8 (.ofNat 4096) (fun a0=>A.cond a0 ( K [(.i (.ofNat 1))] h) ( K [(.i (.ofNat 0))] h)))))))))))
/-- crimp/places.both -/
noncomputable def f67(ls:List Lf)(h:HT)(K:List Lf→HT→R):R:=A.unI ls (fun n6 a6=>A.unI a6 (fun n8 a7=>A.unV a7 (fun V a8=>A.unI a8 (fun n12 a9=>A.unI a9 (fun n14 b0=>A.unI b0 (fun n16 b1=>A.un0 b1 ( A.call 74 [(.i n6),(.i n8),(.v V)] h (fun b2 a0=>A.unI b2 (fun n20 b3=>A.un0 b3 ( A.cmp .neq n20 (.ofNat 0) (fun b4=>A.cond b4 ( K [(.v (.slice none 0 0)),(.v (.slice none 0 0)),(.i n20)] a0) ( A.call 75 [(.i n12),(.i n14),(.i n16)] a0 (fun b5 a1=>A.unI b5 (fun n25 b6=>A.un0 b6 ( A.cmp .neq n25 (.ofNat 0) (fun b7=>A.cond b7 ( K [(.v (.slice none 0 0)),(.v (.slice none 0 0)),(.i (.ofNat 1))] a1) ( A.call 76 [(.i n6),(.i n8),(.v V)] a1 (fun b8 a2=>A.unV b8 (fun M b9=>A.unI b9 (fun n32 c0=>A.un0 c0 ( A.cmp .neq n32 (.ofNat 0) (fun c1=>A.cond c1 ( K [(.v (.slice none 0 0)),(.v (.slice none 0 0)),(.i n32)] a2) ( A.opt (lenS M) (fun J=>A.opt (mkOk J J) (fun i3=>A.new (.cells (aR [(.int .i64 (.ofNat 0)),(.int .i64 (.ofNat 0)),(.int .u8 (.ofNat 0))] (Int.toNat J)) 3 true) a2 (fun a3 d0=>A.opt (lenS M) (fun d1=>A.loop (fun d2 d3 O=>A.unI d3 (fun n43 d4=>A.un0 d4 ( A.cmp .lss n43 d1 (fun d5=>A.cond d5 ( A.opt (idS 3 M n43) (fun d6=>A.peek (.lg cc 3 d6) O (fun d7=>A.ucI .u8 d7 (fun n48 d8=>A.ucI .i64 d8 (fun n50 d9=>A.ucI .i64 d9 (fun n52 e0=>A.uc0 e0 ( A.call 77 [(.i n6),(.i n8),(.i n43)] O (fun e1 e2=>A.unI e1 (fun n56 e3=>A.unI e3 (fun f0 f1=>A.unI f1 (fun n60 f2=>A.unI f2 (fun n62 f3=>A.un0 f3 ( A.call 78 [(.i n48),(.i n50),(.i n52),(.i n12),(.i n14),(.i n16)] e2 (fun gl g0=>A.unI gl (fun n66 g1=>A.unI g1 (fun n68 g2=>A.unI g2 (fun g3 g4=>A.unI g4 (fun n72 g5=>A.un0 g5 ( A.opt (idS 3 M n43) (fun g6=>A.heap (.st g6 [(.int .u8 n66),(.int .i64 n68),(.int .i64 g3)]) g0 (fun j0 U=>A.cmp .neq n72 (.ofNat 0) (fun g7=>A.cond g7 ( K [(.v (.slice none 0 0)),(.v (.slice none 0 0)),(.i n72)] U) ( A.opt (idS 3 M n43) (fun g8=>A.peek (.lg cc 3 g8) U (fun g9=>A.ucI .u8 g9 (fun n80 h0=>A.ucI .i64 h0 (fun n82 h1=>A.ucI .i64 h1 (fun n84 h2=>A.uc0 h2 ( A.call 79 [(.i n80),(.i n82),(.i n84),(.i n56),(.i f0),(.i n60)] U (fun h3 h4=>A.unI h3 (fun h5 h6=>A.unI h6 (fun h7 h8=>A.unI h8 (fun n92 h9=>A.unI h9 (fun a4 i0=>A.un0 i0 ( A.opt (idS 3 (.slice (some ⟨a3,0,(some 13)⟩) (Int.toNat J) ((Int.toNat J)+1)) n43) (fun i1=>A.heap (.st i1 [(.int .i64 h5),(.int .i64 h7),(.int .u8 n92)]) h4 (fun j1 a5=>A.cmp .neq a4 (.ofNat 0) (fun i2=>A.cond i2 ( K [(.v (.slice none 0 0)),(.v (.slice none 0 0)),(.i a4)] a5) ( A.ari .add .i64 n43 (.ofNat 1) (fun n100=>d2 [(.i n100)] a5)))))))))))))))))))))))))))))))))))))))) ( K [(.v M),(.v (.slice (some ⟨a3,0,(some 13)⟩) (Int.toNat J) ((Int.toNat J)+1))),(.i (.ofNat 0))] O))))) [(.i (.ofNat 0))] d0)))))))))))))))))))))))))))
/-- slices.pdqsortCmpFunc[crimp/api.Cell] -/
noncomputable def f68(ls:List Lf)(h:HT)(K:List Lf→HT→R):R:=A.unV ls (fun J g5=>A.unI g5 (fun n8 g6=>A.unI g6 (fun n10 g7=>A.unI g7 (fun n12 g8=>A.unV g8 (fun M g9=>A.un0 g9 ( A.loop (fun h0 h1 a6=>A.unI h1 (fun n19 h2=>A.unI h2 (fun n21 h3=>A.unB h3 (fun a7 h4=>A.unB h4 (fun a5 h5=>A.unI h5 (fun n27 h6=>A.un0 h6 ( A.join (fun h7 h8=>A.unI h7 (fun n31 h9=>A.unI h9 (fun n33 i0=>A.unB i0 (fun i1 i2=>A.unB i2 (fun i3 j0=>A.unI j0 (fun n39 j1=>A.un0 j1 ( h0 [(.i n31),(.i n33),(.b i1),(.b i3),(.i n39)] h8))))))) (fun U=>A.ari .sub .i64 n27 n21 (fun V=>A.cmp .leq V (.ofNat 12) (fun j2=>A.cond j2 ( A.call 80 [(.v J),(.i n21),(.i n27),(.v M)] a6 (fun j3 j4=>A.un0 j3 ( K [] j4))) ( A.cmp .eql n19 (.ofNat 0) (fun j5=>A.cond j5 ( A.call 81 [(.v J),(.i n21),(.i n27),(.v M)] a6 (fun j6 j7=>A.un0 j6 ( K [] j7))) ( A.join (fun j8 j9=>A.unI j8 (fun n51 kw=>A.un0 kw ( A.call 83 [(.v J),(.i n21),(.i n27),(.v M)] j9 (fun k0 b2=>A.unI k0 (fun n55 k1=>A.unI k1 (fun b3 k2=>A.un0 k2 ( A.cmp .eql b3 (.ofNat 2) (fun k3=>A.join (fun k4 O=>A.unI k4 (fun n62 k5=>A.unI k5 (fun n64 k6=>A.un0 k6 ( A.cond a5 ( A.cond a7 ( A.cmp .eql n64 (.ofNat 1) (fun k7=>A.join (fun k8 a8=>A.un0 k8 ( A.cmp .gtr n21 (.ofNat 0) (fun k9=>A.cond k9 ( A.ari .sub .i64 n21 (.ofNat 1) (fun l0=>A.opt (idS 3 J l0) (fun l1=>A.peek (.lg cc 3 l1) a8 (fun l2=>A.ucI .i64 l2 (fun n73 l3=>A.ucI .i64 l3 (fun n75 l4=>A.ucI .u8 l4 (fun n77 l5=>A.uc0 l5 ( A.opt (idS 3 J n62) (fun l6=>A.peek (.lg cc 3 l6) a8 (fun l7=>A.ucI .i64 l7 (fun l8 l9=>A.ucI .i64 l9 (fun n83 m0=>A.ucI .u8 m0 (fun n85 m1=>A.uc0 m1 ( A.callv M [(.agg ⟨[(.int .i64 n73),(.int .i64 n75),(.int .u8 n77)]⟩),(.agg ⟨[(.int .i64 l8),(.int .i64 n83),(.int .u8 n85)]⟩)] [(.leaf (.i .i64))] a8 (fun m2 b4=>A.unI m2 (fun n89 m3=>A.un0 m3 ( A.cmp .lss n89 (.ofNat 0) (fun m4=>A.join (fun m5 m6=>A.unI m5 (fun a9 m7=>A.un0 m7 ( A.call 87 [(.v J),(.i a9),(.i n27),(.i n62),(.v M)] m6 (fun m8 b5=>A.unI m8 (fun a0 m9=>A.unB m9 (fun n0 n1=>A.un0 n1 ( A.ari .sub .i64 a0 a9 (fun n102=>A.ari .sub .i64 n27 a0 (fun n103=>A.ari .quo .i64 V (.ofNat 8) (fun n104=>A.cmp .lss n102 n103 (fun n2=>A.join (fun n3 o0=>A.unB n3 (fun o1 o2=>A.unI o2 (fun n110 o3=>A.unI o3 (fun n112 o4=>A.un0 o4 ( U [(.i n51),(.i n110),(.b n0),(.b o1),(.i n112)] o0))))) (fun b6=>A.cond n2 ( A.cmp .geq n102 n104 (fun o5=>A.call 68 [(.v J),(.i a9),(.i a0),(.i n51),(.v M)] b5 (fun o6 o7=>A.un0 o6 ( A.ari .add .i64 a0 (.ofNat 1) (fun n118=>b6 [(.b o5),(.i n118),(.i n27)] o7))))) ( A.cmp .geq n103 n104 (fun o8=>A.ari .add .i64 a0 (.ofNat 1) (fun o9=>A.call 68 [(.v J),(.i o9),(.i n27),(.i n51),(.v M)] b5 (fun p0 p1=>A.un0 p0 ( b6 [(.b o8),(.i a9),(.i a0)] p1))))))))))))))))) (fun p2=>A.cond (!m4) ( A.call 86 [(.v J),(.i n21),(.i n27),(.i n62),(.v M)] b4 (fun p3 p4=>A.unI p3 (fun p5 p6=>A.un0 p6 ( U [(.i n51),(.i p5),(.b a7),(.b a5),(.i n27)] p4)))) ( p2 [(.i n21)] b4)))))))))))))))))))) ( A.call 87 [(.v J),(.i n21),(.i n27),(.i n62),(.v M)] a8 (fun p7 b7=>A.unI p7 (fun n130 p8=>A.unB p8 (fun p9 ql=>A.un0 ql ( A.ari .sub .i64 n130 n21 (fun n134=>A.ari .sub .i64 n27 n130 (fun n135=>A.ari .quo .i64 V (.ofNat 8) (fun b8=>A.cmp .lss n134 n135 (fun q0=>A.join (fun q1 q2=>A.unB q1 (fun q3 q4=>A.unI q4 (fun q5 q6=>A.unI q6 (fun q7 q8=>A.un0 q8 ( U [(.i n51),(.i q5),(.b p9),(.b q3),(.i q7)] q2))))) (fun b9=>A.cond q0 ( A.cmp .geq n134 b8 (fun q9=>A.call 68 [(.v J),(.i n21),(.i n130),(.i n51),(.v M)] b7 (fun ru rx=>A.un0 ru ( A.ari .add .i64 n130 (.ofNat 1) (fun ry=>b9 [(.b q9),(.i ry),(.i n27)] rx))))) ( A.cmp .geq n135 b8 (fun rz=>A.ari .add .i64 n130 (.ofNat 1) (fun rA=>A.call 68 [(.v J),(.i rA),(.i n27),(.i n51),(.v M)] b7 (fun rB rC=>A.un0 rB ( b9 [(.b rz),(.i n21),(.i n130)] rC)))))))))))))))))) (fun c0=>A.cond k7 ( A.call 85 [(.v J),(.i n21),(.i n27),(.v M)] O (fun rD c1=>A.unB rD (fun rE rF=>A.un0 rF ( A.cond rE ( K [] c1) ( c0 [] c1))))) ( c0 [] O)))) ( A.cmp .gtr n21 (.ofNat 0) (fun rG=>A.cond rG ( A.ari .sub .i64 n21 (.ofNat 1) (fun rH=>A.opt (idS 3 J rH) (fun rI=>A.peek (.lg cc 3 rI) O (fun rJ=>A.ucI .i64 rJ (fun rK rL=>A.ucI .i64 rL (fun rM rN=>A.ucI .u8 rN (fun rO rP=>A.uc0 rP ( A.opt (idS 3 J n62) (fun rQ=>A.peek (.lg cc 3 rQ) O (fun rR=>A.ucI .i64 rR (fun rS rT=>A.ucI .i64 rT (fun rU rV=>A.ucI .u8 rV (fun rW rX=>A.uc0 rX ( A.callv M [(.agg ⟨[(.int .i64 rK),(.int .i64 rM),(.int .u8 rO)]⟩),(.agg ⟨[(.int .i64 rS),(.int .i64 rU),(.int .u8 rW)]⟩)] [(.leaf (.i .i64))] O (fun rY d0=>A.unI rY (fun rZ r1=>A.un0 r1 ( A.cmp .lss rZ (.ofNat 0) (fun r2=>A.join (fun r3 r4=>A.unI r3 (fun b0 r5=>A.un0 r5 ( A.call 87 [(.v J),(.i b0),(.i n27),(.i n62),(.v M)] r4 (fun r6 d1=>A.unI r6 (fun a1 r7=>A.unB r7 (fun r8 r9=>A.un0 r9 ( A.ari .sub .i64 a1 b0 (fun d2=>A.ari .sub .i64 n27 a1 (fun d3=>A.ari .quo .i64 V (.ofNat 8) (fun d4=>A.cmp .lss d2 d3 (fun sa=>A.join (fun sb sc=>A.unB sb (fun sd se=>A.unI se (fun sf sh=>A.unI sh (fun si sj=>A.un0 sj ( U [(.i n51),(.i sf),(.b r8),(.b sd),(.i si)] sc))))) (fun d5=>A.cond sa ( A.cmp .geq d2 d4 (fun sn=>A.call 68 [(.v J),(.i b0),(.i a1),(.i n51),(.v M)] d1 (fun so sq=>A.un0 so ( A.ari .add .i64 a1 (.ofNat 1) (fun ss=>d5 [(.b sn),(.i ss),(.i n27)] sq))))) ( A.cmp .geq d3 d4 (fun su=>A.ari .add .i64 a1 (.ofNat 1) (fun sw=>A.call 68 [(.v J),(.i sw),(.i n27),(.i n51),(.v M)] d1 (fun sx sy=>A.un0 sx ( d5 [(.b su),(.i b0),(.i a1)] sy))))))))))))))))) (fun sz=>A.cond (!r2) ( A.call 86 [(.v J),(.i n21),(.i n27),(.i n62),(.v M)] d0 (fun sA sB=>A.unI sA (fun sC sD=>A.un0 sD ( U [(.i n51),(.i sC),(.b a7),(.b a5),(.i n27)] sB)))) ( sz [(.i n21)] d0)))))))))))))))))))) ( A.call 87 [(.v J),(.i n21),(.i n27),(.i n62),(.v M)] O (fun sE d6=>A.unI sE (fun a2 sF=>A.unB sF (fun sG sH=>A.un0 sH ( A.ari .sub .i64 a2 n21 (fun d7=>A.ari .sub .i64 n27 a2 (fun d8=>A.ari .quo .i64 V (.ofNat 8) (fun d9=>A.cmp .lss d7 d8 (fun sI=>A.join (fun sJ sK=>A.unB sJ (fun sL sM=>A.unI sM (fun sN sO=>A.unI sO (fun sP sQ=>A.un0 sQ ( U [(.i n51),(.i sN),(.b sG),(.b sL),(.i sP)] sK))))) (fun e0=>A.cond sI ( A.cmp .geq d7 d9 (fun sR=>A.call 68 [(.v J),(.i n21),(.i a2),(.i n51),(.v M)] d6 (fun sS sU=>A.un0 sS ( A.ari .add .i64 a2 (.ofNat 1) (fun sV=>e0 [(.b sR),(.i sV),(.i n27)] sU))))) ( A.cmp .geq d8 d9 (fun sW=>A.ari .add .i64 a2 (.ofNat 1) (fun sX=>A.call 68 [(.v J),(.i sX),(.i n27),(.i n51),(.v M)] d6 (fun sY sZ=>A.un0 sY ( e0 [(.b sW),(.i n21),(.i a2)] sZ)))))))))))))))))) ( A.cmp .gtr n21 (.ofNat 0) (fun s0=>A.cond s0 ( A.ari .sub .i64 n21 (.ofNat 1) (fun s1=>A.opt (idS 3 J s1) (fun s2=>A.peek (.lg cc 3 s2) O (fun s3=>A.ucI .i64 s3 (fun s4 s5=>A.ucI .i64 s5 (fun s6 s7=>A.ucI .u8 s7 (fun s8 s9=>A.uc0 s9 ( A.opt (idS 3 J n62) (fun ta=>A.peek (.lg cc 3 ta) O (fun tb=>A.ucI .i64 tb (fun tc tg=>A.ucI .i64 tg (fun th ti=>A.ucI .u8 ti (fun tj tn=>A.uc0 tn ( A.callv M [(.agg ⟨[(.int .i64 s4),(.int .i64 s6),(.int .u8 s8)]⟩),(.agg ⟨[(.int .i64 tc),(.int .i64 th),(.int .u8 tj)]⟩)] [(.leaf (.i .i64))] O (fun tq e1=>A.unI tq (fun tr tt=>A.un0 tt ( A.cmp .lss tr (.ofNat 0) (fun tu=>A.join (fun tv tw=>A.unI tv (fun b1 tz=>A.un0 tz ( A.call 87 [(.v J),(.i b1),(.i n27),(.i n62),(.v M)] tw (fun tA e2=>A.unI tA (fun a3 tB=>A.unB tB (fun tC tD=>A.un0 tD ( A.ari .sub .i64 a3 b1 (fun e3=>A.ari .sub .i64 n27 a3 (fun f0=>A.ari .quo .i64 V (.ofNat 8) (fun f1=>A.cmp .lss e3 f0 (fun tE=>A.join (fun tF tG=>A.unB tF (fun tH tI=>A.unI tI (fun tJ tK=>A.unI tK (fun tL tM=>A.un0 tM ( U [(.i n51),(.i tJ),(.b tC),(.b tH),(.i tL)] tG))))) (fun f2=>A.cond tE ( A.cmp .geq e3 f1 (fun tN=>A.call 68 [(.v J),(.i b1),(.i a3),(.i n51),(.v M)] e2 (fun tO tP=>A.un0 tO ( A.ari .add .i64 a3 (.ofNat 1) (fun tQ=>f2 [(.b tN),(.i tQ),(.i n27)] tP))))) ( A.cmp .geq f0 f1 (fun tR=>A.ari .add .i64 a3 (.ofNat 1) (fun tS=>A.call 68 [(.v J),(.i tS),(.i n27),(.i n51),(.v M)] e2 (fun tT tU=>A.un0 tT ( f2 [(.b tR),(.i b1),(.i a3)] tU))))))))))))))))) (fun tV=>A.cond (!tu) ( A.call 86 [(.v J),(.i n21),(.i n27),(.i n62),(.v M)] e1 (fun tW tX=>A.unI tW (fun tY tZ=>A.un0 tZ ( U [(.i n51),(.i tY),(.b a7),(.b a5),(.i n27)] tX)))) ( tV [(.i n21)] e1)))))))))))))))))))) ( A.call 87 [(.v J),(.i n21),(.i n27),(.i n62),(.v M)] O (fun t0 f3=>A.unI t0 (fun a4 t1=>A.unB t1 (fun t2 t3=>A.un0 t3 ( A.ari .sub .i64 a4 n21 (fun gl=>A.ari .sub .i64 n27 a4 (fun g0=>A.ari .quo .i64 V (.ofNat 8) (fun g1=>A.cmp .lss gl g0 (fun t4=>A.join (fun t5 t6=>A.unB t5 (fun t7 t8=>A.unI t8 (fun t9 uc=>A.unI uc (fun ud ue=>A.un0 ue ( U [(.i n51),(.i t9),(.b t2),(.b t7),(.i ud)] t6))))) (fun g2=>A.cond t4 ( A.cmp .geq gl g1 (fun uf=>A.call 68 [(.v J),(.i n21),(.i a4),(.i n51),(.v M)] f3 (fun ug uh=>A.un0 ug ( A.ari .add .i64 a4 (.ofNat 1) (fun ui=>g2 [(.b uf),(.i ui),(.i n27)] uh))))) ( A.cmp .geq g0 g1 (fun uj=>A.ari .add .i64 a4 (.ofNat 1) (fun uk=>A.call 68 [(.v J),(.i uk),(.i n27),(.i n51),(.v M)] f3 (fun ul um=>A.un0 ul ( g2 [(.b uj),(.i n21),(.i a4)] um))))))))))))))))))))) (fun g3=>A.cond k3 ( A.call 84 [(.v J),(.i n21),(.i n27),(.v M)] b2 (fun uo uq=>A.un0 uo ( A.ari .sub .i64 n27 (.ofNat 1) (fun ur=>A.ari .sub .i64 n55 n21 (fun ut=>A.ari .sub .i64 ur ut (fun uu=>g3 [(.i uu),(.i (.ofNat 1))] uq)))))) ( g3 [(.i n55),(.i b3)] b2)))))))))) (fun g4=>A.cond (!a5) ( A.call 82 [(.v J),(.i n21),(.i n27),(.v M)] a6 (fun uv uw=>A.un0 uv ( A.ari .sub .i64 n19 (.ofNat 1) (fun ux=>g4 [(.i ux)] uw)))) ( g4 [(.i n19)] a6))))))))))))))) [(.i n12),(.i n8),(.b true),(.b true),(.i n10)] h))))))
/-- math/bits.Len -/
noncomputable def f69(ls:List Lf)(h:HT)(K:List Lf→HT→R):R:=A.unI ls (fun n6 J=>A.un0 J ( A.call 89 [(.i n6)] h (fun M O=>A.unI M (fun n10 U=>A.un0 U ( K [(.i n10)] O)))))
/-- slices.IndexFunc[[]crimp/api.Cell,crimp/api.Cell] -/
noncomputable def f71(ls:List Lf)(h:HT)(K:List Lf→HT→R):R:=A.unV ls (fun M U=>A.unV U (fun V a0=>A.un0 a0 ( A.opt (lenS M) (fun a1=>A.loop (fun a2 a3 J=>A.unI a3 (fun n14 a4=>A.un0 a4 ( A.cmp .lss n14 a1 (fun a5=>A.cond a5 ( A.opt (idS 3 M n14) (fun a6=>A.peek (.lg cc 3 a6) J (fun a7=>A.ucI .i64 a7 (fun n19 a8=>A.ucI .i64 a8 (fun n21 a9=>A.ucI .u8 a9 (fun n23 b0=>A.uc0 b0 ( A.callv V [(.agg ⟨[(.int .i64 n19),(.int .i64 n21),(.int .u8 n23)]⟩)] [(.leaf .b)] J (fun b1 O=>A.unB b1 (fun b2 b3=>A.un0 b3 ( A.cond b2 ( K [(.i n14)] O) ( A.ari .add .i64 n14 (.ofNat 1) (fun n29=>a2 [(.i n29)] O)))))))))))) ( K [(.i (.negSucc 0))] J))))) [(.i (.ofNat 0))] h))))
noncomputable def f72(ls:List Lf)(h:HT)(K:List Lf→HT→R):R:=A.unI ls (fun n6 O=>A.unI O (fun n8 U=>A.un0 U ( A.call 91 [(.i n6)] h (fun V a0=>A.unB V (fun a1 a2=>A.un0 a2 ( A.call 91 [(.i n8)] a0 (fun a3 J=>A.unB a3 (fun M a4=>A.un0 a4 ( A.cond a1 ( A.cond M ( K [(.i (.ofNat 0))] J) ( K [(.i (.negSucc 0))] J)) ( A.cond M ( K [(.i (.ofNat 1))] J) ( A.cmp .lss n6 n8 (fun a5=>A.cond a5 ( K [(.i (.negSucc 0))] J) ( A.cmp .gtr n6 n8 (fun a6=>A.cond a6 ( K [(.i (.ofNat 1))] J) ( K [(.i (.ofNat 0))] J)))))))))))))))
/-- slices.pdqsortCmpFunc[crimp/patterns.Crease] -/
noncomputable def f73(ls:List Lf)(h:HT)(K:List Lf→HT→R):R:=A.unV ls (fun J g5=>A.unI g5 (fun n8 g6=>A.unI g6 (fun n10 g7=>A.unI g7 (fun n12 g8=>A.unV g8 (fun M g9=>A.un0 g9 ( A.loop (fun h0 h1 a6=>A.unI h1 (fun n19 h2=>A.unI h2 (fun n21 h3=>A.unB h3 (fun a7 h4=>A.unB h4 (fun a5 h5=>A.unI h5 (fun n27 h6=>A.un0 h6 ( A.join (fun h7 h8=>A.unI h7 (fun n31 h9=>A.unI h9 (fun n33 i0=>A.unB i0 (fun i1 i2=>A.unB i2 (fun i3 j0=>A.unI j0 (fun n39 j1=>A.un0 j1 ( h0 [(.i n31),(.i n33),(.b i1),(.b i3),(.i n39)] h8))))))) (fun U=>A.ari .sub .i64 n27 n21 (fun V=>A.cmp .leq V (.ofNat 12) (fun j2=>A.cond j2 ( A.call 92 [(.v J),(.i n21),(.i n27),(.v M)] a6 (fun j3 j4=>A.un0 j3 ( K [] j4))) ( A.cmp .eql n19 (.ofNat 0) (fun j5=>A.cond j5 ( A.call 93 [(.v J),(.i n21),(.i n27),(.v M)] a6 (fun j6 j7=>A.un0 j6 ( K [] j7))) ( A.join (fun j8 j9=>A.unI j8 (fun n51 kw=>A.un0 kw ( A.call 95 [(.v J),(.i n21),(.i n27),(.v M)] j9 (fun k0 b2=>A.unI k0 (fun n55 k1=>A.unI k1 (fun b3 k2=>A.un0 k2 ( A.cmp .eql b3 (.ofNat 2) (fun k3=>A.join (fun k4 O=>A.unI k4 (fun n62 k5=>A.unI k5 (fun n64 k6=>A.un0 k6 ( A.cond a5 ( A.cond a7 ( A.cmp .eql n64 (.ofNat 1) (fun k7=>A.join (fun k8 a8=>A.un0 k8 ( A.cmp .gtr n21 (.ofNat 0) (fun k9=>A.cond k9 ( A.ari .sub .i64 n21 (.ofNat 1) (fun l0=>A.opt (idS 3 J l0) (fun l1=>A.peek (.lg cc 3 l1) a8 (fun l2=>A.ucI .i64 l2 (fun n73 l3=>A.ucI .u8 l3 (fun n75 l4=>A.ucI .u8 l4 (fun n77 l5=>A.uc0 l5 ( A.opt (idS 3 J n62) (fun l6=>A.peek (.lg cc 3 l6) a8 (fun l7=>A.ucI .i64 l7 (fun l8 l9=>A.ucI .u8 l9 (fun n83 m0=>A.ucI .u8 m0 (fun n85 m1=>A.uc0 m1 ( A.callv M [(.agg ⟨[(.int .i64 n73),(.int .u8 n75),(.int .u8 n77)]⟩),(.agg ⟨[(.int .i64 l8),(.int .u8 n83),(.int .u8 n85)]⟩)] [(.leaf (.i .i64))] a8 (fun m2 b4=>A.unI m2 (fun n89 m3=>A.un0 m3 ( A.cmp .lss n89 (.ofNat 0) (fun m4=>A.join (fun m5 m6=>A.unI m5 (fun a9 m7=>A.un0 m7 ( A.call 99 [(.v J),(.i a9),(.i n27),(.i n62),(.v M)] m6 (fun m8 b5=>A.unI m8 (fun a0 m9=>A.unB m9 (fun n0 n1=>A.un0 n1 ( A.ari .sub .i64 a0 a9 (fun n102=>A.ari .sub .i64 n27 a0 (fun n103=>A.ari .quo .i64 V (.ofNat 8) (fun n104=>A.cmp .lss n102 n103 (fun n2=>A.join (fun n3 o0=>A.unB n3 (fun o1 o2=>A.unI o2 (fun n110 o3=>A.unI o3 (fun n112 o4=>A.un0 o4 ( U [(.i n51),(.i n110),(.b n0),(.b o1),(.i n112)] o0))))) (fun b6=>A.cond n2 ( A.cmp .geq n102 n104 (fun o5=>A.call 73 [(.v J),(.i a9),(.i a0),(.i n51),(.v M)] b5 (fun o6 o7=>A.un0 o6 ( A.ari .add .i64 a0 (.ofNat 1) (fun n118=>b6 [(.b o5),(.i n118),(.i n27)] o7))))) ( A.cmp .geq n103 n104 (fun o8=>A.ari .add .i64 a0 (.ofNat 1) (fun o9=>A.call 73 [(.v J),(.i o9),(.i n27),(.i n51),(.v M)] b5 (fun p0 p1=>A.un0 p0 ( b6 [(.b o8),(.i a9),(.i a0)] p1))))))))))))))))) (fun p2=>A.cond (!m4) ( A.call 98 [(.v J),(.i n21),(.i n27),(.i n62),(.v M)] b4 (fun p3 p4=>A.unI p3 (fun p5 p6=>A.un0 p6 ( U [(.i n51),(.i p5),(.b a7),(.b a5),(.i n27)] p4)))) ( p2 [(.i n21)] b4)))))))))))))))))))) ( A.call 99 [(.v J),(.i n21),(.i n27),(.i n62),(.v M)] a8 (fun p7 b7=>A.unI p7 (fun n130 p8=>A.unB p8 (fun p9 ql=>A.un0 ql ( A.ari .sub .i64 n130 n21 (fun n134=>A.ari .sub .i64 n27 n130 (fun n135=>A.ari .quo .i64 V (.ofNat 8) (fun b8=>A.cmp .lss n134 n135 (fun q0=>A.join (fun q1 q2=>A.unB q1 (fun q3 q4=>A.unI q4 (fun q5 q6=>A.unI q6 (fun q7 q8=>A.un0 q8 ( U [(.i n51),(.i q5),(.b p9),(.b q3),(.i q7)] q2))))) (fun b9=>A.cond q0 ( A.cmp .geq n134 b8 (fun q9=>A.call 73 [(.v J),(.i n21),(.i n130),(.i n51),(.v M)] b7 (fun ru rx=>A.un0 ru ( A.ari .add .i64 n130 (.ofNat 1) (fun ry=>b9 [(.b q9),(.i ry),(.i n27)] rx))))) ( A.cmp .geq n135 b8 (fun rz=>A.ari .add .i64 n130 (.ofNat 1) (fun rA=>A.call 73 [(.v J),(.i rA),(.i n27),(.i n51),(.v M)] b7 (fun rB rC=>A.un0 rB ( b9 [(.b rz),(.i n21),(.i n130)] rC)))))))))))))))))) (fun c0=>A.cond k7 ( A.call 97 [(.v J),(.i n21),(.i n27),(.v M)] O (fun rD c1=>A.unB rD (fun rE rF=>A.un0 rF ( A.cond rE ( K [] c1) ( c0 [] c1))))) ( c0 [] O)))) ( A.cmp .gtr n21 (.ofNat 0) (fun rG=>A.cond rG ( A.ari .sub .i64 n21 (.ofNat 1) (fun rH=>A.opt (idS 3 J rH) (fun rI=>A.peek (.lg cc 3 rI) O (fun rJ=>A.ucI .i64 rJ (fun rK rL=>A.ucI .u8 rL (fun rM rN=>A.ucI .u8 rN (fun rO rP=>A.uc0 rP ( A.opt (idS 3 J n62) (fun rQ=>A.peek (.lg cc 3 rQ) O (fun rR=>A.ucI .i64 rR (fun rS rT=>A.ucI .u8 rT (fun rU rV=>A.ucI .u8 rV (fun rW rX=>A.uc0 rX ( A.callv M [(.agg ⟨[(.int .i64 rK),(.int .u8 rM),(.int .u8 rO)]⟩),(.agg ⟨[(.int .i64 rS),(.int .u8 rU),(.int .u8 rW)]⟩)] [(.leaf (.i .i64))] O (fun rY d0=>A.unI rY (fun rZ r1=>A.un0 r1 ( A.cmp .lss rZ (.ofNat 0) (fun r2=>A.join (fun r3 r4=>A.unI r3 (fun b0 r5=>A.un0 r5 ( A.call 99 [(.v J),(.i b0),(.i n27),(.i n62),(.v M)] r4 (fun r6 d1=>A.unI r6 (fun a1 r7=>A.unB r7 (fun r8 r9=>A.un0 r9 ( A.ari .sub .i64 a1 b0 (fun d2=>A.ari .sub .i64 n27 a1 (fun d3=>A.ari .quo .i64 V (.ofNat 8) (fun d4=>A.cmp .lss d2 d3 (fun sa=>A.join (fun sb sc=>A.unB sb (fun sd se=>A.unI se (fun sf sh=>A.unI sh (fun si sj=>A.un0 sj ( U [(.i n51),(.i sf),(.b r8),(.b sd),(.i si)] sc))))) (fun d5=>A.cond sa ( A.cmp .geq d2 d4 (fun sn=>A.call 73 [(.v J),(.i b0),(.i a1),(.i n51),(.v M)] d1 (fun so sq=>A.un0 so ( A.ari .add .i64 a1 (.ofNat 1) (fun ss=>d5 [(.b sn),(.i ss),(.i n27)] sq))))) ( A.cmp .geq d3 d4 (fun su=>A.ari .add .i64 a1 (.ofNat 1) (fun sw=>A.call 73 [(.v J),(.i sw),(.i n27),(.i n51),(.v M)] d1 (fun sx sy=>A.un0 sx ( d5 [(.b su),(.i b0),(.i a1)] sy))))))))))))))))) (fun sz=>A.cond (!r2) ( A.call 98 [(.v J),(.i n21),(.i n27),(.i n62),(.v M)] d0 (fun sA sB=>A.unI sA (fun sC sD=>A.un0 sD ( U [(.i n51),(.i sC),(.b a7),(.b a5),(.i n27)] sB)))) ( sz [(.i n21)] d0)))))))))))))))))))) ( A.call 99 [(.v J),(.i n21),(.i n27),(.i n62),(.v M)] O (fun sE d6=>A.unI sE (fun a2 sF=>A.unB sF (fun sG sH=>A.un0 sH ( A.ari .sub .i64 a2 n21 (fun d7=>A.ari .sub .i64 n27 a2 (fun d8=>A.ari .quo .i64 V (.ofNat 8) (fun d9=>A.cmp .lss d7 d8 (fun sI=>A.join (fun sJ sK=>A.unB sJ (fun sL sM=>A.unI sM (fun sN sO=>A.unI sO (fun sP sQ=>A.un0 sQ ( U [(.i n51),(.i sN),(.b sG),(.b sL),(.i sP)] sK))))) (fun e0=>A.cond sI ( A.cmp .geq d7 d9 (fun sR=>A.call 73 [(.v J),(.i n21),(.i a2),(.i n51),(.v M)] d6 (fun sS sU=>A.un0 sS ( A.ari .add .i64 a2 (.ofNat 1) (fun sV=>e0 [(.b sR),(.i sV),(.i n27)] sU))))) ( A.cmp .geq d8 d9 (fun sW=>A.ari .add .i64 a2 (.ofNat 1) (fun sX=>A.call 73 [(.v J),(.i sX),(.i n27),(.i n51),(.v M)] d6 (fun sY sZ=>A.un0 sY ( e0 [(.b sW),(.i n21),(.i a2)] sZ)))))))))))))))))) ( A.cmp .gtr n21 (.ofNat 0) (fun s0=>A.cond s0 ( A.ari .sub .i64 n21 (.ofNat 1) (fun s1=>A.opt (idS 3 J s1) (fun s2=>A.peek (.lg cc 3 s2) O (fun s3=>A.ucI .i64 s3 (fun s4 s5=>A.ucI .u8 s5 (fun s6 s7=>A.ucI .u8 s7 (fun s8 s9=>A.uc0 s9 ( A.opt (idS 3 J n62) (fun ta=>A.peek (.lg cc 3 ta) O (fun tb=>A.ucI .i64 tb (fun tc tg=>A.ucI .u8 tg (fun th ti=>A.ucI .u8 ti (fun tj tn=>A.uc0 tn ( A.callv M [(.agg ⟨[(.int .i64 s4),(.int .u8 s6),(.int .u8 s8)]⟩),(.agg ⟨[(.int .i64 tc),(.int .u8 th),(.int .u8 tj)]⟩)] [(.leaf (.i .i64))] O (fun tq e1=>A.unI tq (fun tr tt=>A.un0 tt ( A.cmp .lss tr (.ofNat 0) (fun tu=>A.join (fun tv tw=>A.unI tv (fun b1 tz=>A.un0 tz ( A.call 99 [(.v J),(.i b1),(.i n27),(.i n62),(.v M)] tw (fun tA e2=>A.unI tA (fun a3 tB=>A.unB tB (fun tC tD=>A.un0 tD ( A.ari .sub .i64 a3 b1 (fun e3=>A.ari .sub .i64 n27 a3 (fun f0=>A.ari .quo .i64 V (.ofNat 8) (fun f1=>A.cmp .lss e3 f0 (fun tE=>A.join (fun tF tG=>A.unB tF (fun tH tI=>A.unI tI (fun tJ tK=>A.unI tK (fun tL tM=>A.un0 tM ( U [(.i n51),(.i tJ),(.b tC),(.b tH),(.i tL)] tG))))) (fun f2=>A.cond tE ( A.cmp .geq e3 f1 (fun tN=>A.call 73 [(.v J),(.i b1),(.i a3),(.i n51),(.v M)] e2 (fun tO tP=>A.un0 tO ( A.ari .add .i64 a3 (.ofNat 1) (fun tQ=>f2 [(.b tN),(.i tQ),(.i n27)] tP))))) ( A.cmp .geq f0 f1 (fun tR=>A.ari .add .i64 a3 (.ofNat 1) (fun tS=>A.call 73 [(.v J),(.i tS),(.i n27),(.i n51),(.v M)] e2 (fun tT tU=>A.un0 tT ( f2 [(.b tR),(.i b1),(.i a3)] tU))))))))))))))))) (fun tV=>A.cond (!tu) ( A.call 98 [(.v J),(.i n21),(.i n27),(.i n62),(.v M)] e1 (fun tW tX=>A.unI tW (fun tY tZ=>A.un0 tZ ( U [(.i n51),(.i tY),(.b a7),(.b a5),(.i n27)] tX)))) ( tV [(.i n21)] e1)))))))))))))))))))) ( A.call 99 [(.v J),(.i n21),(.i n27),(.i n62),(.v M)] O (fun t0 f3=>A.unI t0 (fun a4 t1=>A.unB t1 (fun t2 t3=>A.un0 t3 ( A.ari .sub .i64 a4 n21 (fun gl=>A.ari .sub .i64 n27 a4 (fun g0=>A.ari .quo .i64 V (.ofNat 8) (fun g1=>A.cmp .lss gl g0 (fun t4=>A.join (fun t5 t6=>A.unB t5 (fun t7 t8=>A.unI t8 (fun t9 uc=>A.unI uc (fun ud ue=>A.un0 ue ( U [(.i n51),(.i t9),(.b t2),(.b t7),(.i ud)] t6))))) (fun g2=>A.cond t4 ( A.cmp .geq gl g1 (fun uf=>A.call 73 [(.v J),(.i n21),(.i a4),(.i n51),(.v M)] f3 (fun ug uh=>A.un0 ug ( A.ari .add .i64 a4 (.ofNat 1) (fun ui=>g2 [(.b uf),(.i ui),(.i n27)] uh))))) ( A.cmp .geq g0 g1 (fun uj=>A.ari .add .i64 a4 (.ofNat 1) (fun uk=>A.call 73 [(.v J),(.i uk),(.i n27),(.i n51),(.v M)] f3 (fun ul um=>A.un0 ul ( g2 [(.b uj),(.i n21),(.i a4)] um))))))))))))))))))))) (fun g3=>A.cond k3 ( A.call 96 [(.v J),(.i n21),(.i n27),(.v M)] b2 (fun uo uq=>A.un0 uo ( A.ari .sub .i64 n27 (.ofNat 1) (fun ur=>A.ari .sub .i64 n55 n21 (fun ut=>A.ari .sub .i64 ur ut (fun uu=>g3 [(.i uu),(.i (.ofNat 1))] uq)))))) ( g3 [(.i n55),(.i b3)] b2)))))))))) (fun g4=>A.cond (!a5) ( A.call 94 [(.v J),(.i n21),(.i n27),(.v M)] a6 (fun uv uw=>A.un0 uv ( A.ari .sub .i64 n19 (.ofNat 1) (fun ux=>g4 [(.i ux)] uw)))) ( g4 [(.i n19)] a6))))))))))))))) [(.i n12),(.i n8),(.b true),(.b true),(.i n10)] h))))))
/-- crimp/patterns.Check -/
noncomputable def f74(ls:List Lf)(h:HT)(K:List Lf→HT→R):R:=A.unI ls (fun n6 a4=>A.unI a4 (fun n8 a5=>A.unV a5 (fun J a6=>A.un0 a6 ( A.call 100 [(.i n6),(.i n8)] h (fun a7 U=>A.unI a7 (fun n14 a8=>A.un0 a8 ( A.cmp .neq n14 (.ofNat 0) (fun a9=>A.cond a9 ( K [(.i n14)] U) ( A.call 101 [(.v J),(.v (.func (.func 102) ⟨[]⟩ ⟨[]⟩))] U (fun b0 V=>A.unB b0 (fun b1 b2=>A.un0 b2 ( A.cond b1 ( K [(.i (.ofNat 1))] V) ( A.opt (lenS J) (fun b3=>A.loop (fun b4 b5 M=>A.unI b5 (fun n25 b6=>A.un0 b6 ( A.cmp .lss n25 b3 (fun b7=>A.cond b7 ( A.opt (idS 3 J n25) (fun b8=>A.peek (.lg cc 3 b8) M (fun b9=>A.ucI .i64 b9 (fun n30 c0=>A.ucI .u8 c0 (fun n32 c1=>A.ucI .u8 c1 (fun n34 d0=>A.uc0 d0 ( A.call 104 [(.i n6),(.i n8),(.i n30),(.i n32)] M (fun d1 a0=>A.unI d1 (fun n38 d2=>A.unI d2 (fun n40 d3=>A.unI d3 (fun d4 d5=>A.un0 d5 ( A.cmp .neq d4 (.ofNat 0) (fun d6=>A.cond d6 ( K [(.i (.ofNat 7))] a0) ( A.call 105 [(.i n30),(.i n32),(.i n34)] a0 (fun d7 a1=>A.unI d7 (fun n47 d8=>A.unI d8 (fun n49 d9=>A.un0 d9 ( A.eqs [((.i n38),(.i n47)),((.i n40),(.i n49))] (fun e0=>A.cond (!e0) ( K [(.i (.ofNat 7))] a1) ( A.ari .add .i64 n25 (.ofNat 1) (fun n52=>b4 [(.i n52)] a1))))))))))))))))))))) ( A.loop (fun e1 e2 O=>A.unI e2 (fun n56 e3=>A.un0 e3 ( A.opt (lenS J) (fun f0=>A.cmp .lss n56 f0 (fun f1=>A.cond f1 ( A.ari .sub .i64 n56 (.ofNat 1) (fun n60=>A.opt (idS 3 J n60) (fun f2=>A.peek (.lg cc 3 f2) O (fun f3=>A.ucI .i64 f3 (fun n63 gl=>A.ucI .u8 gl (fun n65 g0=>A.ucI .u8 g0 (fun n67 g1=>A.uc0 g1 ( A.call 105 [(.i n63),(.i n65),(.i n67)] O (fun g2 a2=>A.unI g2 (fun n71 g3=>A.unI g3 (fun n73 g4=>A.un0 g4 ( A.opt (idS 3 J n56) (fun g5=>A.peek (.lg cc 3 g5) a2 (fun g6=>A.ucI .i64 g6 (fun n77 g7=>A.ucI .u8 g7 (fun n79 g8=>A.ucI .u8 g8 (fun g9 h0=>A.uc0 h0 ( A.call 105 [(.i n77),(.i n79),(.i g9)] a2 (fun h1 h2=>A.unI h1 (fun n85 h3=>A.unI h3 (fun n87 h4=>A.un0 h4 ( A.call 106 [(.i n71),(.i n73),(.i n85),(.i n87)] h2 (fun h5 a3=>A.unI h5 (fun n91 h6=>A.un0 h6 ( A.cmp .geq n91 (.ofNat 0) (fun h7=>A.cond h7 ( K [(.i (.ofNat 6))] a3) ( A.ari .add .i64 n56 (.ofNat 1) (fun h8=>e1 [(.i h8)] a3)))))))))))))))))))))))))))) ( K [(.i (.ofNat 0))] O)))))) [(.i (.ofNat 1))] M))))) [(.i (.ofNat 0))] V))))))))))))))
/-- crimp/moves.Check -/
noncomputable def f75(ls:List Lf)(h:HT)(K:List Lf→HT→R):R:=A.unI ls (fun n6 O=>A.unI O (fun n8 U=>A.unI U (fun n10 V=>A.un0 V ( A.conv .i64 n6 (fun n12=>A.cmp .geq n12 (.ofNat 8) (fun a0=>A.cond a0 ( K [(.i (.ofNat 1))] h) ( A.call 107 [(.i n8)] h (fun a1 M=>A.unB a1 (fun a2 a3=>A.un0 a3 ( A.cond a2 ( K [(.i (.ofNat 1))] M) ( A.call 107 [(.i n10)] M (fun a4 J=>A.unB a4 (fun a5 a6=>A.un0 a6 ( A.cond a5 ( K [(.i (.ofNat 1))] J) ( A.ari .add .i64 n8 n10 (fun n22=>A.ari .rem .i64 n22 (.ofNat 2) (fun n23=>A.cmp .neq n23 (.ofNat 0) (fun a7=>A.cond a7 ( K [(.i (.ofNat 1))] J) ( K [(.i (.ofNat 0))] J)))))))))))))))))))
/-- crimp/places.relative -/
noncomputable def f76(ls:List Lf)(h:HT)(K:List Lf→HT→R):R:=A.unI ls (fun n6 d0=>A.unI d0 (fun n8 d1=>A.unV d1 (fun d2 d3=>A.un0 d3 ( A.new (.cells [(.int .i64 n6),(.int .i64 n8),d2] 3 true) h (fun O a6=>A.peek (.lg cc 3 (.pointer (some ⟨O,0,none⟩))) a6 (fun d4=>A.ucI .i64 d4 (fun n15 d5=>A.ucI .i64 d5 (fun n17 d6=>A.ucV d6 (fun a7 d7=>A.chk a7 ( A.uc0 d7 ( A.call 108 [(.i n15),(.i n17),(.v a7)] a6 (fun d8 d9=>A.unV d8 (fun e0 e1=>A.un0 e1 ( A.new (.cells [(.map none)] 1 true) d9 (fun a2 e2=>A.heap (.st (.pointer (some ⟨a2,0,none⟩)) [e0]) e2 (fun o0 a8=>A.opt (fdP 0 (.pointer (some ⟨O,0,none⟩))) (fun a9=>A.chk a9 ( A.peek (.lg cc 2 a9) a8 (fun e3=>A.ucI .i64 e3 (fun n31 f0=>A.ucI .i64 f0 (fun n33 f1=>A.uc0 f1 ( A.call 109 [(.i n31),(.i n33)] a8 (fun f2 f3=>A.unI f2 (fun n37 gl=>A.un0 gl ( A.opt (mkOk n37 n37) (fun o1=>A.new (.cells (aR [(.int .u8 (.ofNat 0)),(.int .i64 (.ofNat 0)),(.int .i64 (.ofNat 0))] (Int.toNat n37)) 3 true) f3 (fun g0 g1=>A.new (.cells [(.slice none 0 0)] 1 true) g1 (fun M g2=>A.heap (.st (.pointer (some ⟨M,0,none⟩)) [(.slice (some ⟨g0,0,(some 13)⟩) (Int.toNat n37) ((Int.toNat n37)+1))]) g2 (fun o2 b0=>A.peek (.lg cc 1 (.pointer (some ⟨M,0,none⟩))) b0 (fun g3=>A.ucV g3 (fun b1 g4=>A.chk b1 ( A.uc0 g4 ( A.opt (lenS b1) (fun J=>A.opt (mkOk J J) (fun o3=>A.new (.cells (aR [(.bool false)] (Int.toNat J)) 1 true) b0 (fun a3 g5=>A.chk (.func (.func 110) ⟨[]⟩ ⟨[(.pointer (some ⟨O,0,none⟩)),(.pointer (some ⟨a2,0,none⟩)),(.pointer (some ⟨M,0,none⟩))]⟩) ( A.opt (idS 1 (.slice (some ⟨a3,0,(some 11)⟩) (Int.toNat J) ((Int.toNat J)+1)) (.ofNat 0)) (fun g6=>A.heap (.st g6 [(.bool true)]) g5 (fun o4 g7=>A.new (.cells [(.int .i64 (.ofNat 0))] 1 true) g7 (fun g8 g9=>A.loop (fun h0 h1 U=>A.unV h1 (fun a4 h2=>A.un0 h2 ( A.opt (lenS a4) (fun h3=>A.cmp .gtr h3 (.ofNat 0) (fun h4=>A.cond h4 ( A.opt (idS 1 a4 (.ofNat 0)) (fun h5=>A.peek (.lg cc 1 h5) U (fun h6=>A.ucI .i64 h6 (fun n67 h7=>A.uc0 h7 ( A.opt (slS 1 a4 (some (.ofNat 1)) none none) (fun b2=>A.chk b2 ( A.loop (fun h8 h9 a5=>A.unV h9 (fun V i0=>A.unI i0 (fun n75 i1=>A.un0 i1 ( A.cmp .lss n75 (.ofNat 3) (fun i2=>A.cond i2 ( A.join (fun i3 j0=>A.unV i3 (fun j1 j2=>A.un0 j2 ( A.ari .add .u8 n75 (.ofNat 1) (fun n82=>h8 [(.v j1),(.i n82)] j0)))) (fun b3=>A.opt (fdP 0 (.pointer (some ⟨O,0,none⟩))) (fun b4=>A.chk b4 ( A.peek (.lg cc 2 b4) a5 (fun j3=>A.ucI .i64 j3 (fun n86 j4=>A.ucI .i64 j4 (fun j5 j6=>A.uc0 j6 ( A.call 112 [(.i n86),(.i j5),(.i n67),(.i n75)] a5 (fun j7 b5=>A.unI j7 (fun n92 j8=>A.unI j8 (fun j9 kw=>A.un0 kw ( A.cmp .neq j9 (.ofNat 0) (fun k0=>A.cond k0 ( b3 [(.v V)] b5) ( A.callv (.func (.func 110) ⟨[]⟩ ⟨[(.pointer (some ⟨O,0,none⟩)),(.pointer (some ⟨a2,0,none⟩)),(.pointer (some ⟨M,0,none⟩))]⟩) [(.int .i64 n67),(.int .u8 n75)] [(.agg [(.i .u8),(.i .i64),(.i .i64)])] b5 (fun k1 a0=>A.unI k1 (fun b6 k2=>A.unI k2 (fun n101 k3=>A.unI k3 (fun n103 k4=>A.un0 k4 ( A.opt (idS 1 (.slice (some ⟨a3,0,(some 11)⟩) (Int.toNat J) ((Int.toNat J)+1)) n92) (fun k5=>A.peek (.lg cc 1 k5) a0 (fun k6=>A.ucB k6 (fun k7 k8=>A.uc0 k8 ( A.join (fun k9 a1=>A.unV k9 (fun l0 l1=>A.un0 l1 ( A.peek (.lg cc 1 (.pointer (some ⟨M,0,none⟩))) a1 (fun l2=>A.ucV l2 (fun b7 l3=>A.chk b7 ( A.uc0 l3 ( A.opt (idS 3 b7 n92) (fun l4=>A.peek (.lg cc 3 l4) a1 (fun l5=>A.ucI .u8 l5 (fun n118 l6=>A.ucI .i64 l6 (fun l7 l8=>A.ucI .i64 l8 (fun n122 l9=>A.uc0 l9 ( A.eqs [((.i n118),(.i b6)),((.i l7),(.i n101)),((.i n122),(.i n103))] (fun m0=>A.cond (!m0) ( K [(.v (.slice none 0 0)),(.i (.ofNat 11))] a1) ( b3 [(.v l0)] a1))))))))))))))) (fun b8=>A.cond (!k7) ( A.peek (.lg cc 1 (.pointer (some ⟨M,0,none⟩))) a0 (fun m1=>A.ucV m1 (fun b9 m2=>A.chk b9 ( A.uc0 m2 ( A.opt (idS 3 b9 n92) (fun m3=>A.heap (.st m3 [(.int .u8 b6),(.int .i64 n101),(.int .i64 n103)]) a0 (fun o5 m4=>A.opt (idS 1 (.slice (some ⟨a3,0,(some 11)⟩) (Int.toNat J) ((Int.toNat J)+1)) n92) (fun m5=>A.heap (.st m5 [(.bool true)]) m4 (fun o6 m6=>A.new (.cells [(.int .i64 n92)] 1 true) m6 (fun m7 m8=>A.heap (.ap cc 1 8 V (.slice (some ⟨m7,0,(some 11)⟩) 1 2)) m8 (fun m9 n0=>A.ucV m9 (fun c0 n1=>A.chk c0 ( A.uc0 n1 ( b8 [(.v c0)] n0)))))))))))))) ( b8 [(.v V)] a0))))))))))))))))))))))))) ( h0 [(.v V)] a5)))))) [(.v b2),(.i (.ofNat 0))] U))))))) ( A.peek (.lg cc 1 (.pointer (some ⟨M,0,none⟩))) U (fun n2=>A.ucV n2 (fun c1 n3=>A.chk c1 ( A.uc0 n3 ( K [(.v c1),(.i (.ofNat 0))] U)))))))))) [(.v (.slice (some ⟨g8,0,(some 11)⟩) 1 2))] g9))))))))))))))))))))))))))))))))))))))))
/-- crimp/sheets.Cell -/
noncomputable def f77(ls:List Lf)(h:HT)(K:List Lf→HT→R):R:=A.unI ls (fun n6 O=>A.unI O (fun n8 U=>A.unI U (fun n10 V=>A.un0 V ( A.call 100 [(.i n6),(.i n8)] h (fun a0 J=>A.unI a0 (fun n14 a1=>A.un0 a1 ( A.cmp .neq n14 (.ofNat 0) (fun a2=>A.cond a2 ( K [(.i (.ofNat 0)),(.i (.ofNat 0)),(.i (.ofNat 0)),(.i n14)] J) ( A.call 113 [(.i n6),(.i n8),(.i n10)] J (fun a3 M=>A.unB a3 (fun a4 a5=>A.un0 a5 ( A.cond (!a4) ( K [(.i (.ofNat 0)),(.i (.ofNat 0)),(.i (.ofNat 0)),(.i (.ofNat 7))] M) ( A.call 114 [(.i n6),(.i n8),(.i n10)] M (fun a6 a7=>A.unI a6 (fun n23 a8=>A.unI a8 (fun n25 a9=>A.unI a9 (fun n27 b0=>A.un0 b0 ( K [(.i n23),(.i n25),(.i n27),(.i (.ofNat 0))] a7))))))))))))))))))
/-- crimp/moves.Then -/
noncomputable def f78(ls:List Lf)(h:HT)(K:List Lf→HT→R):R:=A.unI ls (fun n6 O=>A.unI O (fun n8 U=>A.unI U (fun n10 V=>A.unI V (fun n12 a0=>A.unI a0 (fun n14 a1=>A.unI a1 (fun n16 a2=>A.un0 a2 ( A.call 75 [(.i n6),(.i n8),(.i n10)] h (fun a3 J=>A.unI a3 (fun n20 a4=>A.un0 a4 ( A.cmp .neq n20 (.ofNat 0) (fun a5=>A.cond a5 ( K [(.i (.ofNat 0)),(.i (.ofNat 0)),(.i (.ofNat 0)),(.i (.ofNat 1))] J) ( A.call 75 [(.i n12),(.i n14),(.i n16)] J (fun a6 M=>A.unI a6 (fun n25 a7=>A.un0 a7 ( A.cmp .neq n25 (.ofNat 0) (fun a8=>A.cond a8 ( K [(.i (.ofNat 0)),(.i (.ofNat 0)),(.i (.ofNat 0)),(.i (.ofNat 1))] M) ( A.opt (inB 8 n12) (fun g6=>A.opt (gJ gl2 0 [(n12,4)] 4) (fun a9=>A.ucI .i64 a9 (fun n30 b0=>A.ucI .i64 b0 (fun n32 b1=>A.ucI .i64 b1 (fun n34 b2=>A.ucI .i64 b2 (fun n36 b3=>A.uc0 b3 ( A.call 115 [(.i n30),(.i n32),(.i n34),(.i n36),(.i n8),(.i n10)] M (fun b4 b5=>A.unI b4 (fun n40 b6=>A.unI b6 (fun b7 b8=>A.un0 b8 ( A.opt (inB 8 n6) (fun g7=>A.opt (gJ gl2 0 [(n6,4)] 4) (fun b9=>A.ucI .i64 b9 (fun n46 c0=>A.ucI .i64 c0 (fun n48 c1=>A.ucI .i64 c1 (fun n50 d0=>A.ucI .i64 d0 (fun n52 d1=>A.uc0 d1 ( A.opt (inB 8 n12) (fun g8=>A.opt (gJ gl2 0 [(n12,4)] 4) (fun d2=>A.ucI .i64 d2 (fun n56 d3=>A.ucI .i64 d3 (fun d4 d5=>A.ucI .i64 d5 (fun n60 d6=>A.ucI .i64 d6 (fun n62 d7=>A.uc0 d7 ( A.call 118 [(.i n46),(.i n48),(.i n50),(.i n52),(.i n56),(.i d4),(.i n60),(.i n62)] b5 (fun d8 d9=>A.unI d8 (fun n66 e0=>A.unI e0 (fun n68 e1=>A.unI e1 (fun e2 e3=>A.unI e3 (fun n72 f0=>A.un0 f0 ( A.call 117 [(.i n66),(.i n68),(.i e2),(.i n72)] d9 (fun f1 f2=>A.unI f1 (fun n76 f3=>A.un0 f3 ( A.ari .add .i64 n40 n14 (fun n78=>A.ari .add .i64 b7 n16 (fun n79=>A.call 116 [(.i n76),(.i n78),(.i n79)] f2 (fun gl g0=>A.unI gl (fun n82 g1=>A.unI g1 (fun n84 g2=>A.unI g2 (fun n86 g3=>A.unI g3 (fun g4 g5=>A.un0 g5 ( K [(.i n82),(.i n84),(.i n86),(.i g4)] g0)))))))))))))))))))))))))))))))))))))))))))))))))))))))))))
/-- crimp/cells.Move -/
noncomputable def f79(ls:List Lf)(h:HT)(K:List Lf→HT→R):R:=A.unI ls (fun n6 U=>A.unI U (fun n8 V=>A.unI V (fun n10 a0=>A.unI a0 (fun n12 a1=>A.unI a1 (fun n14 a2=>A.unI a2 (fun n16 a3=>A.un0 a3 ( A.call 75 [(.i n6),(.i n8),(.i n10)] h (fun a4 J=>A.unI a4 (fun n20 a5=>A.un0 a5 ( A.cmp .neq n20 (.ofNat 0) (fun a6=>A.cond a6 ( K [(.i (.ofNat 0)),(.i (.ofNat 0)),(.i (.ofNat 0)),(.i (.ofNat 1))] J) ( A.call 61 [(.i n12),(.i n14),(.i n16)] J (fun a7 M=>A.unI a7 (fun n25 a8=>A.un0 a8 ( A.cmp .neq n25 (.ofNat 0) (fun a9=>A.cond a9 ( K [(.i (.ofNat 0)),(.i (.ofNat 0)),(.i (.ofNat 0)),(.i (.ofNat 1))] M) ( A.call 119 [(.i n6),(.i n8),(.i n10),(.i n12),(.i n14),(.i n16)] M (fun b0 b1=>A.unI b0 (fun n30 b2=>A.unI b2 (fun n32 b3=>A.unI b3 (fun n34 b4=>A.un0 b4 ( A.call 61 [(.i n30),(.i n32),(.i n34)] b1 (fun b5 O=>A.unI b5 (fun n38 b6=>A.un0 b6 ( A.cmp .neq n38 (.ofNat 0) (fun b7=>A.cond b7 ( K [(.i (.ofNat 0)),(.i (.ofNat 0)),(.i (.ofNat 0)),(.i (.ofNat 3))] O) ( K [(.i n30),(.i n32),(.i n34),(.i (.ofNat 0))] O)))))))))))))))))))))))))))
/-- slices.insertionSortCmpFunc[crimp/api.Cell] -/
noncomputable def f80(ls:List Lf)(h:HT)(K:List Lf→HT→R):R:=A.unV ls (fun J a0=>A.unI a0 (fun n8 a1=>A.unI a1 (fun n10 a2=>A.unV a2 (fun a3 a4=>A.un0 a4 ( A.ari .add .i64 n8 (.ofNat 1) (fun n14=>A.loop (fun a5 a6 U=>A.unI a6 (fun n18 a7=>A.un0 a7 ( A.cmp .lss n18 n10 (fun a8=>A.cond a8 ( A.join (fun a9 b0=>A.un0 a9 ( A.ari .add .i64 n18 (.ofNat 1) (fun n23=>a5 [(.i n23)] b0))) (fun V=>A.loop (fun b1 b2 M=>A.unI b2 (fun n28 b3=>A.un0 b3 ( A.cmp .gtr n28 n8 (fun b4=>A.cond b4 ( A.opt (idS 3 J n28) (fun b5=>A.peek (.lg cc 3 b5) M (fun b6=>A.ucI .i64 b6 (fun n33 b7=>A.ucI .i64 b7 (fun n35 b8=>A.ucI .u8 b8 (fun n37 b9=>A.uc0 b9 ( A.ari .sub .i64 n28 (.ofNat 1) (fun n39=>A.opt (idS 3 J n39) (fun c0=>A.peek (.lg cc 3 c0) M (fun c1=>A.ucI .i64 c1 (fun d0 d1=>A.ucI .i64 d1 (fun n44 d2=>A.ucI .u8 d2 (fun n46 d3=>A.uc0 d3 ( A.callv a3 [(.agg ⟨[(.int .i64 n33),(.int .i64 n35),(.int .u8 n37)]⟩),(.agg ⟨[(.int .i64 d0),(.int .i64 n44),(.int .u8 n46)]⟩)] [(.leaf (.i .i64))] M (fun d4 O=>A.unI d4 (fun n50 d5=>A.un0 d5 ( A.cmp .lss n50 (.ofNat 0) (fun d6=>A.cond d6 ( A.ari .sub .i64 n28 (.ofNat 1) (fun n53=>A.ari .sub .i64 n28 (.ofNat 1) (fun n54=>A.opt (idS 3 J n54) (fun d7=>A.peek (.lg cc 3 d7) O (fun d8=>A.ucI .i64 d8 (fun d9 e0=>A.ucI .i64 e0 (fun n59 e1=>A.ucI .u8 e1 (fun n61 e2=>A.uc0 e2 ( A.opt (idS 3 J n28) (fun e3=>A.peek (.lg cc 3 e3) O (fun f0=>A.ucI .i64 f0 (fun n65 f1=>A.ucI .i64 f1 (fun n67 f2=>A.ucI .u8 f2 (fun n69 f3=>A.uc0 f3 ( A.opt (idS 3 J n28) (fun gl=>A.heap (.st gl [(.int .i64 d9),(.int .i64 n59),(.int .u8 n61)]) O (fun g3 g0=>A.opt (idS 3 J n53) (fun g1=>A.heap (.st g1 [(.int .i64 n65),(.int .i64 n67),(.int .u8 n69)]) g0 (fun g4 g2=>A.ari .sub .i64 n28 (.ofNat 1) (fun n77=>b1 [(.i n77)] g2)))))))))))))))))))) ( V [] O))))))))))))))))))) ( V [] M))))) [(.i n18)] U)) ( K [] U))))) [(.i n14)] h))))))
/-- slices.breakPatternsCmpFunc[crimp/api.Cell] -/
noncomputable def f82(ls:List Lf)(h:HT)(K:List Lf→HT→R):R:=A.unV ls (fun J a2=>A.unI a2 (fun n8 a3=>A.unI a3 (fun n10 a4=>A.unV a4 (fun f3 a5=>A.un0 a5 ( A.ari .sub .i64 n10 n8 (fun n14=>A.cmp .geq n14 (.ofNat 8) (fun a6=>A.join (fun a7 a8=>A.un0 a7 ( K [] a8)) (fun O=>A.cond a6 ( A.conv .u64 n14 (fun n19=>A.new (.cells [(.int .u64 (.ofNat 0))] 1 true) h (fun U a9=>A.heap (.st (.pointer (some ⟨U,0,none⟩)) [(.int .u64 n19)]) a9 (fun gl b0=>A.call 121 [(.i n14)] b0 (fun b1 b2=>A.unI b1 (fun n26 b3=>A.un0 b3 ( A.ari .quo .i64 n14 (.ofNat 4) (fun n28=>A.ari .mul .i64 n28 (.ofNat 2) (fun n29=>A.ari .add .i64 n8 n29 (fun n30=>A.ari .sub .i64 n30 (.ofNat 1) (fun n31=>A.loop (fun b4 b5 V=>A.unI b5 (fun n35 b6=>A.un0 b6 ( A.ari .quo .i64 n14 (.ofNat 4) (fun n37=>A.ari .mul .i64 n37 (.ofNat 2) (fun n38=>A.ari .add .i64 n8 n38 (fun n39=>A.ari .add .i64 n39 (.ofNat 1) (fun n40=>A.cmp .leq n35 n40 (fun b7=>A.cond b7 ( A.call 122 [(.v (.pointer (some ⟨U,0,none⟩)))] V (fun b8 a0=>A.unI b8 (fun n44 b9=>A.un0 b9 ( A.ari .sub .u64 n26 (.ofNat 1) (fun n46=>A.ari .and .u64 n44 n46 (fun n47=>A.conv .i64 n47 (fun n48=>A.cmp .geq n48 n14 (fun c0=>A.join (fun c1 M=>A.unI c1 (fun n52 d0=>A.un0 d0 ( A.ari .add .i64 n8 n52 (fun n54=>A.ari .add .i64 n8 n52 (fun n55=>A.opt (idS 3 J n55) (fun d1=>A.peek (.lg cc 3 d1) M (fun d2=>A.ucI .i64 d2 (fun d3 d4=>A.ucI .i64 d4 (fun n60 d5=>A.ucI .u8 d5 (fun n62 d6=>A.uc0 d6 ( A.opt (idS 3 J n35) (fun d7=>A.peek (.lg cc 3 d7) M (fun d8=>A.ucI .i64 d8 (fun n66 d9=>A.ucI .i64 d9 (fun n68 e0=>A.ucI .u8 e0 (fun e1 e2=>A.uc0 e2 ( A.opt (idS 3 J n35) (fun e3=>A.heap (.st e3 [(.int .i64 d3),(.int .i64 n60),(.int .u8 n62)]) M (fun g0 f0=>A.opt (idS 3 J n54) (fun f1=>A.heap (.st f1 [(.int .i64 n66),(.int .i64 n68),(.int .u8 e1)]) f0 (fun g1 f2=>A.ari .add .i64 n35 (.ofNat 1) (fun n78=>b4 [(.i n78)] f2)))))))))))))))))))))) (fun a1=>A.cond c0 ( A.ari .sub .i64 n48 n14 (fun n80=>a1 [(.i n80)] a0)) ( a1 [(.i n48)] a0)))))))))) ( O [] V))))))))) [(.i n31)] b2))))))))))) ( O [] h)))))))))
/-- slices.choosePivotCmpFunc[crimp/api.Cell] -/
noncomputable def f83(ls:List Lf)(h:HT)(K:List Lf→HT→R):R:=A.unV ls (fun M a2=>A.unI a2 (fun n8 a3=>A.unI a3 (fun n10 a4=>A.unV a4 (fun O a5=>A.un0 a5 ( A.ari .sub .i64 n10 n8 (fun n14=>A.new (.cells [(.int .i64 (.ofNat 0))] 1 true) h (fun J V=>A.ari .quo .i64 n14 (.ofNat 4) (fun n17=>A.ari .mul .i64 n17 (.ofNat 1) (fun n18=>A.ari .add .i64 n8 n18 (fun n19=>A.ari .quo .i64 n14 (.ofNat 4) (fun n20=>A.ari .mul .i64 n20 (.ofNat 2) (fun n21=>A.ari .add .i64 n8 n21 (fun n22=>A.ari .quo .i64 n14 (.ofNat 4) (fun n23=>A.ari .mul .i64 n23 (.ofNat 3) (fun n24=>A.ari .add .i64 n8 n24 (fun n25=>A.cmp .geq n14 (.ofNat 8) (fun a6=>A.join (fun a7 U=>A.unI a7 (fun n29 a8=>A.un0 a8 ( A.peek (.lg cc 1 (.pointer (some ⟨J,0,none⟩))) U (fun a9=>A.ucI .i64 a9 (fun n32 b0=>A.uc0 b0 ( A.cmp .eql n32 (.ofNat 0) (fun b1=>A.cond b1 ( K [(.i n29),(.i (.ofNat 1))] U) ( A.cmp .eql n32 (.ofNat 12) (fun b2=>A.cond b2 ( K [(.i n29),(.i (.ofNat 2))] U) ( K [(.i n29),(.i (.ofNat 0))] U)))))))))) (fun a0=>A.cond a6 ( A.cmp .geq n14 (.ofNat 50) (fun b3=>A.join (fun b4 b5=>A.unI b4 (fun n40 b6=>A.unI b6 (fun b7 b8=>A.unI b8 (fun n44 b9=>A.un0 b9 ( A.call 124 [(.v M),(.i n40),(.i b7),(.i n44),(.v (.pointer (some ⟨J,0,none⟩))),(.v O)] b5 (fun c0 c1=>A.unI c0 (fun n48 d0=>A.un0 d0 ( a0 [(.i n48)] c1)))))))) (fun a1=>A.cond b3 ( A.call 123 [(.v M),(.i n19),(.v (.pointer (some ⟨J,0,none⟩))),(.v O)] V (fun d1 d2=>A.unI d1 (fun n53 d3=>A.un0 d3 ( A.call 123 [(.v M),(.i n22),(.v (.pointer (some ⟨J,0,none⟩))),(.v O)] d2 (fun d4 d5=>A.unI d4 (fun d6 d7=>A.un0 d7 ( A.call 123 [(.v M),(.i n25),(.v (.pointer (some ⟨J,0,none⟩))),(.v O)] d5 (fun d8 d9=>A.unI d8 (fun n61 e0=>A.un0 e0 ( a1 [(.i n53),(.i d6),(.i n61)] d9)))))))))) ( a1 [(.i n19),(.i n22),(.i n25)] V)))) ( a0 [(.i n22)] V)))))))))))))))))))
/-- slices.reverseRangeCmpFunc[crimp/api.Cell] -/
noncomputable def f84(ls:List Lf)(h:HT)(K:List Lf→HT→R):R:=A.unV ls (fun J O=>A.unI O (fun n8 U=>A.unI U (fun n10 V=>A.unV V (fun c0 a0=>A.un0 a0 ( A.ari .sub .i64 n10 (.ofNat 1) (fun n14=>A.loop (fun a1 a2 M=>A.unI a2 (fun n18 a3=>A.unI a3 (fun n20 a4=>A.un0 a4 ( A.cmp .lss n18 n20 (fun a5=>A.cond a5 ( A.opt (idS 3 J n20) (fun a6=>A.peek (.lg cc 3 a6) M (fun a7=>A.ucI .i64 a7 (fun n25 a8=>A.ucI .i64 a8 (fun n27 a9=>A.ucI .u8 a9 (fun n29 b0=>A.uc0 b0 ( A.opt (idS 3 J n18) (fun b1=>A.peek (.lg cc 3 b1) M (fun b2=>A.ucI .i64 b2 (fun n33 b3=>A.ucI .i64 b3 (fun n35 b4=>A.ucI .u8 b4 (fun n37 b5=>A.uc0 b5 ( A.opt (idS 3 J n18) (fun b6=>A.heap (.st b6 [(.int .i64 n25),(.int .i64 n27),(.int .u8 n29)]) M (fun c1 b7=>A.opt (idS 3 J n20) (fun b8=>A.heap (.st b8 [(.int .i64 n33),(.int .i64 n35),(.int .u8 n37)]) b7 (fun d0 b9=>A.ari .add .i64 n18 (.ofNat 1) (fun n45=>A.ari .sub .i64 n20 (.ofNat 1) (fun n46=>a1 [(.i n45),(.i n46)] b9))))))))))))))))))) ( K [] M)))))) [(.i n8),(.i n14)] h))))))
/-- slices.partialInsertionSortCmpFunc[crimp/api.Cell] -/
noncomputable def f85(ls:List Lf)(h:HT)(K:List Lf→HT→R):R:=A.unV ls (fun J b3=>A.unI b3 (fun n8 b4=>A.unI b4 (fun n10 b5=>A.unV b5 (fun a3 b6=>A.un0 b6 ( A.ari .add .i64 n8 (.ofNat 1) (fun n14=>A.loop (fun b7 b8 a4=>A.unI b8 (fun n18 b9=>A.unI b9 (fun n20 c0=>A.un0 c0 ( A.cmp .lss n20 (.ofNat 5) (fun c1=>A.cond c1 ( A.join (fun d0 O=>A.unI d0 (fun n25 d1=>A.un0 d1 ( A.cmp .eql n25 n10 (fun d2=>A.cond d2 ( K [(.b true)] O) ( A.ari .sub .i64 n10 n8 (fun n28=>A.cmp .lss n28 (.ofNat 50) (fun d3=>A.cond d3 ( K [(.b false)] O) ( A.ari .sub .i64 n25 (.ofNat 1) (fun n30=>A.ari .sub .i64 n25 (.ofNat 1) (fun n31=>A.opt (idS 3 J n31) (fun d4=>A.peek (.lg cc 3 d4) O (fun d5=>A.ucI .i64 d5 (fun n34 d6=>A.ucI .i64 d6 (fun n36 d7=>A.ucI .u8 d7 (fun n38 d8=>A.uc0 d8 ( A.opt (idS 3 J n25) (fun d9=>A.peek (.lg cc 3 d9) O (fun e0=>A.ucI .i64 e0 (fun e1 e2=>A.ucI .i64 e2 (fun n44 e3=>A.ucI .u8 e3 (fun n46 f0=>A.uc0 f0 ( A.opt (idS 3 J n25) (fun f1=>A.heap (.st f1 [(.int .i64 n34),(.int .i64 n36),(.int .u8 n38)]) O (fun rN f2=>A.opt (idS 3 J n30) (fun f3=>A.heap (.st f3 [(.int .i64 e1),(.int .i64 n44),(.int .u8 n46)]) f2 (fun rO a5=>A.ari .sub .i64 n25 n8 (fun n54=>A.cmp .geq n54 (.ofNat 2) (fun gl=>A.join (fun g0 a6=>A.un0 g0 ( A.ari .sub .i64 n10 n25 (fun g1=>A.cmp .geq g1 (.ofNat 2) (fun g2=>A.join (fun g3 g4=>A.un0 g3 ( A.ari .add .i64 n20 (.ofNat 1) (fun n62=>b7 [(.i n25),(.i n62)] g4))) (fun a7=>A.cond g2 ( A.ari .add .i64 n25 (.ofNat 1) (fun n64=>A.join (fun g5 g6=>A.un0 g5 ( a7 [] g6)) (fun a8=>A.loop (fun g7 g8 U=>A.unI g8 (fun n71 g9=>A.un0 g9 ( A.cmp .lss n71 n10 (fun h0=>A.cond h0 ( A.opt (idS 3 J n71) (fun h1=>A.peek (.lg cc 3 h1) U (fun h2=>A.ucI .i64 h2 (fun n76 h3=>A.ucI .i64 h3 (fun n78 h4=>A.ucI .u8 h4 (fun n80 h5=>A.uc0 h5 ( A.ari .sub .i64 n71 (.ofNat 1) (fun n82=>A.opt (idS 3 J n82) (fun h6=>A.peek (.lg cc 3 h6) U (fun h7=>A.ucI .i64 h7 (fun n85 h8=>A.ucI .i64 h8 (fun n87 h9=>A.ucI .u8 h9 (fun n89 i0=>A.uc0 i0 ( A.callv a3 [(.agg ⟨[(.int .i64 n76),(.int .i64 n78),(.int .u8 n80)]⟩),(.agg ⟨[(.int .i64 n85),(.int .i64 n87),(.int .u8 n89)]⟩)] [(.leaf (.i .i64))] U (fun i1 V=>A.unI i1 (fun i2 i3=>A.un0 i3 ( A.cmp .lss i2 (.ofNat 0) (fun j0=>A.cond (!j0) ( a8 [] V) ( A.ari .sub .i64 n71 (.ofNat 1) (fun j1=>A.ari .sub .i64 n71 (.ofNat 1) (fun j2=>A.opt (idS 3 J j2) (fun j3=>A.peek (.lg cc 3 j3) V (fun j4=>A.ucI .i64 j4 (fun n100 j5=>A.ucI .i64 j5 (fun n102 j6=>A.ucI .u8 j6 (fun n104 j7=>A.uc0 j7 ( A.opt (idS 3 J n71) (fun j8=>A.peek (.lg cc 3 j8) V (fun j9=>A.ucI .i64 j9 (fun n108 kw=>A.ucI .i64 kw (fun n110 k0=>A.ucI .u8 k0 (fun n112 k1=>A.uc0 k1 ( A.opt (idS 3 J n71) (fun k2=>A.heap (.st k2 [(.int .i64 n100),(.int .i64 n102),(.int .u8 n104)]) V (fun rP k3=>A.opt (idS 3 J j1) (fun k4=>A.heap (.st k4 [(.int .i64 n108),(.int .i64 n110),(.int .u8 n112)]) k3 (fun rQ k5=>A.ari .add .i64 n71 (.ofNat 1) (fun k6=>g7 [(.i k6)] k5)))))))))))))))))))))))))))))))))))))) ( a8 [] U))))) [(.i n64)] a6))) ( a7 [] a6)))))) (fun a9=>A.cond gl ( A.ari .sub .i64 n25 (.ofNat 1) (fun n122=>A.join (fun k7 k8=>A.un0 k7 ( a9 [] k8)) (fun b0=>A.loop (fun k9 l0 a0=>A.unI l0 (fun n129 l1=>A.un0 l1 ( A.cmp .geq n129 (.ofNat 1) (fun l2=>A.cond l2 ( A.opt (idS 3 J n129) (fun l3=>A.peek (.lg cc 3 l3) a0 (fun l4=>A.ucI .i64 l4 (fun n134 l5=>A.ucI .i64 l5 (fun l6 l7=>A.ucI .u8 l7 (fun l8 l9=>A.uc0 l9 ( A.ari .sub .i64 n129 (.ofNat 1) (fun m0=>A.opt (idS 3 J m0) (fun m1=>A.peek (.lg cc 3 m1) a0 (fun m2=>A.ucI .i64 m2 (fun m3 m4=>A.ucI .i64 m4 (fun m5 m6=>A.ucI .u8 m6 (fun m7 m8=>A.uc0 m8 ( A.callv a3 [(.agg ⟨[(.int .i64 n134),(.int .i64 l6),(.int .u8 l8)]⟩),(.agg ⟨[(.int .i64 m3),(.int .i64 m5),(.int .u8 m7)]⟩)] [(.leaf (.i .i64))] a0 (fun m9 a1=>A.unI m9 (fun n0 n1=>A.un0 n1 ( A.cmp .lss n0 (.ofNat 0) (fun n2=>A.cond (!n2) ( b0 [] a1) ( A.ari .sub .i64 n129 (.ofNat 1) (fun n3=>A.ari .sub .i64 n129 (.ofNat 1) (fun o0=>A.opt (idS 3 J o0) (fun o1=>A.peek (.lg cc 3 o1) a1 (fun o2=>A.ucI .i64 o2 (fun o3 o4=>A.ucI .i64 o4 (fun o5 o6=>A.ucI .u8 o6 (fun o7 o8=>A.uc0 o8 ( A.opt (idS 3 J n129) (fun o9=>A.peek (.lg cc 3 o9) a1 (fun p0=>A.ucI .i64 p0 (fun p1 p2=>A.ucI .i64 p2 (fun p3 p4=>A.ucI .u8 p4 (fun p5 p6=>A.uc0 p6 ( A.opt (idS 3 J n129) (fun p7=>A.heap (.st p7 [(.int .i64 o3),(.int .i64 o5),(.int .u8 o7)]) a1 (fun rR p8=>A.opt (idS 3 J n3) (fun p9=>A.heap (.st p9 [(.int .i64 p1),(.int .i64 p3),(.int .u8 p5)]) p8 (fun rS ql=>A.ari .sub .i64 n129 (.ofNat 1) (fun q0=>k9 [(.i q0)] ql)))))))))))))))))))))))))))))))))))))) ( b0 [] a0))))) [(.i n122)] a5))) ( a9 [] a5)))))))))))))))))))))))))))))) (fun b1=>A.loop (fun q1 q2 a2=>A.unI q2 (fun M q3=>A.un0 q3 ( A.cmp .lss M n10 (fun q4=>A.cond q4 ( A.opt (idS 3 J M) (fun q5=>A.peek (.lg cc 3 q5) a2 (fun q6=>A.ucI .i64 q6 (fun q7 q8=>A.ucI .i64 q8 (fun q9 ru=>A.ucI .u8 ru (fun rx ry=>A.uc0 ry ( A.ari .sub .i64 M (.ofNat 1) (fun rz=>A.opt (idS 3 J rz) (fun rA=>A.peek (.lg cc 3 rA) a2 (fun rB=>A.ucI .i64 rB (fun rC rD=>A.ucI .i64 rD (fun rE rF=>A.ucI .u8 rF (fun rG rH=>A.uc0 rH ( A.callv a3 [(.agg ⟨[(.int .i64 q7),(.int .i64 q9),(.int .u8 rx)]⟩),(.agg ⟨[(.int .i64 rC),(.int .i64 rE),(.int .u8 rG)]⟩)] [(.leaf (.i .i64))] a2 (fun rI b2=>A.unI rI (fun rJ rK=>A.un0 rK ( A.cmp .lss rJ (.ofNat 0) (fun rL=>A.cond (!rL) ( A.ari .add .i64 M (.ofNat 1) (fun rM=>q1 [(.i rM)] b2)) ( b1 [(.i M)] b2))))))))))))))))))) ( b1 [(.i M)] a2))))) [(.i n18)] a4)) ( K [(.b false)] a4)))))) [(.i n14),(.i (.ofNat 0))] h))))))
/-- slices.partitionEqualCmpFunc[crimp/api.Cell] -/
noncomputable def f86(ls:List Lf)(h:HT)(K:List Lf→HT→R):R:=A.unV ls (fun J a4=>A.unI a4 (fun n8 a5=>A.unI a5 (fun n10 a6=>A.unI a6 (fun n12 a7=>A.unV a7 (fun V a8=>A.un0 a8 ( A.opt (idS 3 J n12) (fun a9=>A.peek (.lg cc 3 a9) h (fun b0=>A.ucI .i64 b0 (fun n18 b1=>A.ucI .i64 b1 (fun n20 b2=>A.ucI .u8 b2 (fun n22 b3=>A.uc0 b3 ( A.opt (idS 3 J n8) (fun b4=>A.peek (.lg cc 3 b4) h (fun b5=>A.ucI .i64 b5 (fun n26 b6=>A.ucI .i64 b6 (fun n28 b7=>A.ucI .u8 b7 (fun n30 b8=>A.uc0 b8 ( A.opt (idS 3 J n8) (fun b9=>A.heap (.st b9 [(.int .i64 n18),(.int .i64 n20),(.int .u8 n22)]) h (fun l3 c0=>A.opt (idS 3 J n12) (fun c1=>A.heap (.st c1 [(.int .i64 n26),(.int .i64 n28),(.int .u8 n30)]) c0 (fun l4 d0=>A.ari .add .i64 n8 (.ofNat 1) (fun n38=>A.ari .sub .i64 n10 (.ofNat 1) (fun n39=>A.loop (fun d1 d2 d3=>A.unI d2 (fun n43 d4=>A.unI d4 (fun n45 d5=>A.un0 d5 ( A.join (fun d6 d7=>A.unI d6 (fun n49 d8=>A.un0 d8 ( A.join (fun d9 M=>A.unI d9 (fun n53 e0=>A.un0 e0 ( A.cmp .gtr n49 n53 (fun e1=>A.cond e1 ( K [(.i n49)] M) ( A.opt (idS 3 J n53) (fun e2=>A.peek (.lg cc 3 e2) M (fun e3=>A.ucI .i64 e3 (fun f0 f1=>A.ucI .i64 f1 (fun n60 f2=>A.ucI .u8 f2 (fun n62 f3=>A.uc0 f3 ( A.opt (idS 3 J n49) (fun gl=>A.peek (.lg cc 3 gl) M (fun g0=>A.ucI .i64 g0 (fun n66 g1=>A.ucI .i64 g1 (fun n68 g2=>A.ucI .u8 g2 (fun g3 g4=>A.uc0 g4 ( A.opt (idS 3 J n49) (fun g5=>A.heap (.st g5 [(.int .i64 f0),(.int .i64 n60),(.int .u8 n62)]) M (fun l5 g6=>A.opt (idS 3 J n53) (fun g7=>A.heap (.st g7 [(.int .i64 n66),(.int .i64 n68),(.int .u8 g3)]) g6 (fun l6 g8=>A.ari .add .i64 n49 (.ofNat 1) (fun n78=>A.ari .sub .i64 n53 (.ofNat 1) (fun n79=>d1 [(.i n78),(.i n79)] g8))))))))))))))))))))))) (fun a0=>A.loop (fun g9 h0 O=>A.unI h0 (fun n84 h1=>A.un0 h1 ( A.cmp .leq n49 n84 (fun h2=>A.cond h2 ( A.opt (idS 3 J n8) (fun h3=>A.peek (.lg cc 3 h3) O (fun h4=>A.ucI .i64 h4 (fun n89 h5=>A.ucI .i64 h5 (fun n91 h6=>A.ucI .u8 h6 (fun h7 h8=>A.uc0 h8 ( A.opt (idS 3 J n84) (fun h9=>A.peek (.lg cc 3 h9) O (fun i0=>A.ucI .i64 i0 (fun i1 i2=>A.ucI .i64 i2 (fun i3 j0=>A.ucI .u8 j0 (fun n101 j1=>A.uc0 j1 ( A.callv V [(.agg ⟨[(.int .i64 n89),(.int .i64 n91),(.int .u8 h7)]⟩),(.agg ⟨[(.int .i64 i1),(.int .i64 i3),(.int .u8 n101)]⟩)] [(.leaf (.i .i64))] O (fun j2 a1=>A.unI j2 (fun n105 j3=>A.un0 j3 ( A.cmp .lss n105 (.ofNat 0) (fun j4=>A.cond j4 ( A.ari .sub .i64 n84 (.ofNat 1) (fun n108=>g9 [(.i n108)] a1)) ( a0 [(.i n84)] a1)))))))))))))))))) ( a0 [(.i n84)] O))))) [(.i n45)] d7)))) (fun a2=>A.loop (fun j5 j6 U=>A.unI j6 (fun n113 j7=>A.un0 j7 ( A.cmp .leq n113 n45 (fun j8=>A.cond j8 ( A.opt (idS 3 J n8) (fun j9=>A.peek (.lg cc 3 j9) U (fun kw=>A.ucI .i64 kw (fun n118 k0=>A.ucI .i64 k0 (fun k1 k2=>A.ucI .u8 k2 (fun n122 k3=>A.uc0 k3 ( A.opt (idS 3 J n113) (fun k4=>A.peek (.lg cc 3 k4) U (fun k5=>A.ucI .i64 k5 (fun k6 k7=>A.ucI .i64 k7 (fun n128 k8=>A.ucI .u8 k8 (fun n130 k9=>A.uc0 k9 ( A.callv V [(.agg ⟨[(.int .i64 n118),(.int .i64 k1),(.int .u8 n122)]⟩),(.agg ⟨[(.int .i64 k6),(.int .i64 n128),(.int .u8 n130)]⟩)] [(.leaf (.i .i64))] U (fun l0 a3=>A.unI l0 (fun n134 l1=>A.un0 l1 ( A.cmp .lss n134 (.ofNat 0) (fun l2=>A.cond (!l2) ( A.ari .add .i64 n113 (.ofNat 1) (fun n137=>j5 [(.i n137)] a3)) ( a2 [(.i n113)] a3)))))))))))))))))) ( a2 [(.i n113)] U))))) [(.i n43)] d3))))) [(.i n38),(.i n39)] d0))))))))))))))))))))))))
/-- slices.partitionCmpFunc[crimp/api.Cell] -/
noncomputable def f87(ls:List Lf)(h:HT)(K:List Lf→HT→R):R:=A.unV ls (fun J b6=>A.unI b6 (fun n8 b7=>A.unI b7 (fun n10 b8=>A.unI b8 (fun n12 b9=>A.unV b9 (fun a3 c0=>A.un0 c0 ( A.opt (idS 3 J n12) (fun c1=>A.peek (.lg cc 3 c1) h (fun d0=>A.ucI .i64 d0 (fun n18 d1=>A.ucI .i64 d1 (fun n20 d2=>A.ucI .u8 d2 (fun n22 d3=>A.uc0 d3 ( A.opt (idS 3 J n8) (fun d4=>A.peek (.lg cc 3 d4) h (fun d5=>A.ucI .i64 d5 (fun n26 d6=>A.ucI .i64 d6 (fun n28 d7=>A.ucI .u8 d7 (fun n30 d8=>A.uc0 d8 ( A.opt (idS 3 J n8) (fun d9=>A.heap (.st d9 [(.int .i64 n18),(.int .i64 n20),(.int .u8 n22)]) h (fun sW e0=>A.opt (idS 3 J n12) (fun e1=>A.heap (.st e1 [(.int .i64 n26),(.int .i64 n28),(.int .u8 n30)]) e0 (fun sX e2=>A.ari .add .i64 n8 (.ofNat 1) (fun n38=>A.ari .sub .i64 n10 (.ofNat 1) (fun n39=>A.join (fun e3 f0=>A.unI e3 (fun U f1=>A.un0 f1 ( A.join (fun f2 M=>A.unI f2 (fun n46 f3=>A.un0 f3 ( A.cmp .gtr U n46 (fun gl=>A.cond gl ( A.opt (idS 3 J n8) (fun g0=>A.peek (.lg cc 3 g0) M (fun g1=>A.ucI .i64 g1 (fun n51 g2=>A.ucI .i64 g2 (fun n53 g3=>A.ucI .u8 g3 (fun n55 g4=>A.uc0 g4 ( A.opt (idS 3 J n46) (fun g5=>A.peek (.lg cc 3 g5) M (fun g6=>A.ucI .i64 g6 (fun n59 g7=>A.ucI .i64 g7 (fun n61 g8=>A.ucI .u8 g8 (fun n63 g9=>A.uc0 g9 ( A.opt (idS 3 J n46) (fun h0=>A.heap (.st h0 [(.int .i64 n51),(.int .i64 n53),(.int .u8 n55)]) M (fun sY h1=>A.opt (idS 3 J n8) (fun h2=>A.heap (.st h2 [(.int .i64 n59),(.int .i64 n61),(.int .u8 n63)]) h1 (fun sZ h3=>K [(.i n46),(.b true)] h3))))))))))))))))) ( A.opt (idS 3 J n46) (fun h4=>A.peek (.lg cc 3 h4) M (fun h5=>A.ucI .i64 h5 (fun n73 h6=>A.ucI .i64 h6 (fun n75 h7=>A.ucI .u8 h7 (fun n77 h8=>A.uc0 h8 ( A.opt (idS 3 J U) (fun h9=>A.peek (.lg cc 3 h9) M (fun i0=>A.ucI .i64 i0 (fun i1 i2=>A.ucI .i64 i2 (fun n83 i3=>A.ucI .u8 i3 (fun n85 j0=>A.uc0 j0 ( A.opt (idS 3 J U) (fun j1=>A.heap (.st j1 [(.int .i64 n73),(.int .i64 n75),(.int .u8 n77)]) M (fun s0 j2=>A.opt (idS 3 J n46) (fun j3=>A.heap (.st j3 [(.int .i64 i1),(.int .i64 n83),(.int .u8 n85)]) j2 (fun s1 j4=>A.ari .add .i64 U (.ofNat 1) (fun j5=>A.ari .sub .i64 n46 (.ofNat 1) (fun j6=>A.loop (fun j7 j8 j9=>A.unI j8 (fun kw k0=>A.unI k0 (fun n100 k1=>A.un0 k1 ( A.join (fun k2 k3=>A.unI k2 (fun n104 k4=>A.un0 k4 ( A.join (fun k5 O=>A.unI k5 (fun n108 k6=>A.un0 k6 ( A.cmp .gtr n104 n108 (fun k7=>A.cond k7 ( A.opt (idS 3 J n8) (fun k8=>A.peek (.lg cc 3 k8) O (fun k9=>A.ucI .i64 k9 (fun n113 l0=>A.ucI .i64 l0 (fun n115 l1=>A.ucI .u8 l1 (fun n117 l2=>A.uc0 l2 ( A.opt (idS 3 J n108) (fun l3=>A.peek (.lg cc 3 l3) O (fun l4=>A.ucI .i64 l4 (fun n121 l5=>A.ucI .i64 l5 (fun n123 l6=>A.ucI .u8 l6 (fun l7 l8=>A.uc0 l8 ( A.opt (idS 3 J n108) (fun l9=>A.heap (.st l9 [(.int .i64 n113),(.int .i64 n115),(.int .u8 n117)]) O (fun s2 m0=>A.opt (idS 3 J n8) (fun m1=>A.heap (.st m1 [(.int .i64 n121),(.int .i64 n123),(.int .u8 l7)]) m0 (fun s3 m2=>K [(.i n108),(.b false)] m2))))))))))))))))) ( A.opt (idS 3 J n108) (fun m3=>A.peek (.lg cc 3 m3) O (fun m4=>A.ucI .i64 m4 (fun n135 m5=>A.ucI .i64 m5 (fun n137 m6=>A.ucI .u8 m6 (fun m7 m8=>A.uc0 m8 ( A.opt (idS 3 J n104) (fun m9=>A.peek (.lg cc 3 m9) O (fun n0=>A.ucI .i64 n0 (fun n1 n2=>A.ucI .i64 n2 (fun n3 o0=>A.ucI .u8 o0 (fun o1 o2=>A.uc0 o2 ( A.opt (idS 3 J n104) (fun o3=>A.heap (.st o3 [(.int .i64 n135),(.int .i64 n137),(.int .u8 m7)]) O (fun s4 o4=>A.opt (idS 3 J n108) (fun o5=>A.heap (.st o5 [(.int .i64 n1),(.int .i64 n3),(.int .u8 o1)]) o4 (fun s5 o6=>A.ari .add .i64 n104 (.ofNat 1) (fun o7=>A.ari .sub .i64 n108 (.ofNat 1) (fun o8=>j7 [(.i o7),(.i o8)] o6))))))))))))))))))))))) (fun a8=>A.loop (fun o9 p0 a4=>A.unI p0 (fun V p1=>A.un0 p1 ( A.cmp .leq n104 V (fun p2=>A.cond p2 ( A.opt (idS 3 J V) (fun p3=>A.peek (.lg cc 3 p3) a4 (fun p4=>A.ucI .i64 p4 (fun p5 p6=>A.ucI .i64 p6 (fun p7 p8=>A.ucI .u8 p8 (fun p9 ql=>A.uc0 ql ( A.opt (idS 3 J n8) (fun q0=>A.peek (.lg cc 3 q0) a4 (fun q1=>A.ucI .i64 q1 (fun q2 q3=>A.ucI .i64 q3 (fun q4 q5=>A.ucI .u8 q5 (fun q6 q7=>A.uc0 q7 ( A.callv a3 [(.agg ⟨[(.int .i64 p5),(.int .i64 p7),(.int .u8 p9)]⟩),(.agg ⟨[(.int .i64 q2),(.int .i64 q4),(.int .u8 q6)]⟩)] [(.leaf (.i .i64))] a4 (fun q8 a9=>A.unI q8 (fun q9 ru=>A.un0 ru ( A.cmp .lss q9 (.ofNat 0) (fun rx=>A.cond (!rx) ( A.ari .sub .i64 V (.ofNat 1) (fun ry=>o9 [(.i ry)] a9)) ( a8 [(.i V)] a9)))))))))))))))))) ( a8 [(.i V)] a4))))) [(.i n100)] k3)))) (fun b0=>A.loop (fun rz rA a5=>A.unI rA (fun a0 rB=>A.un0 rB ( A.cmp .leq a0 n100 (fun rC=>A.cond rC ( A.opt (idS 3 J a0) (fun rD=>A.peek (.lg cc 3 rD) a5 (fun rE=>A.ucI .i64 rE (fun rF rG=>A.ucI .i64 rG (fun rH rI=>A.ucI .u8 rI (fun rJ rK=>A.uc0 rK ( A.opt (idS 3 J n8) (fun rL=>A.peek (.lg cc 3 rL) a5 (fun rM=>A.ucI .i64 rM (fun rN rO=>A.ucI .i64 rO (fun rP rQ=>A.ucI .u8 rQ (fun rR rS=>A.uc0 rS ( A.callv a3 [(.agg ⟨[(.int .i64 rF),(.int .i64 rH),(.int .u8 rJ)]⟩),(.agg ⟨[(.int .i64 rN),(.int .i64 rP),(.int .u8 rR)]⟩)] [(.leaf (.i .i64))] a5 (fun rT b1=>A.unI rT (fun rU rV=>A.un0 rV ( A.cmp .lss rU (.ofNat 0) (fun rW=>A.cond rW ( A.ari .add .i64 a0 (.ofNat 1) (fun rX=>rz [(.i rX)] b1)) ( b0 [(.i a0)] b1)))))))))))))))))) ( b0 [(.i a0)] a5))))) [(.i kw)] j9))))) [(.i j5),(.i j6)] j4))))))))))))))))))))))) (fun b2=>A.loop (fun rY rZ a6=>A.unI rZ (fun a1 r1=>A.un0 r1 ( A.cmp .leq U a1 (fun r2=>A.cond r2 ( A.opt (idS 3 J a1) (fun r3=>A.peek (.lg cc 3 r3) a6 (fun r4=>A.ucI .i64 r4 (fun r5 r6=>A.ucI .i64 r6 (fun r7 r8=>A.ucI .u8 r8 (fun r9 sa=>A.uc0 sa ( A.opt (idS 3 J n8) (fun sb=>A.peek (.lg cc 3 sb) a6 (fun sc=>A.ucI .i64 sc (fun sd se=>A.ucI .i64 se (fun sf sh=>A.ucI .u8 sh (fun si sj=>A.uc0 sj ( A.callv a3 [(.agg ⟨[(.int .i64 r5),(.int .i64 r7),(.int .u8 r9)]⟩),(.agg ⟨[(.int .i64 sd),(.int .i64 sf),(.int .u8 si)]⟩)] [(.leaf (.i .i64))] a6 (fun sn b3=>A.unI sn (fun so sq=>A.un0 sq ( A.cmp .lss so (.ofNat 0) (fun ss=>A.cond (!ss) ( A.ari .sub .i64 a1 (.ofNat 1) (fun su=>rY [(.i su)] b3)) ( b2 [(.i a1)] b3)))))))))))))))))) ( b2 [(.i a1)] a6))))) [(.i n39)] f0)))) (fun b4=>A.loop (fun sw sx a7=>A.unI sx (fun a2 sy=>A.un0 sy ( A.cmp .leq a2 n39 (fun sz=>A.cond sz ( A.opt (idS 3 J a2) (fun sA=>A.peek (.lg cc 3 sA) a7 (fun sB=>A.ucI .i64 sB (fun sC sD=>A.ucI .i64 sD (fun sE sF=>A.ucI .u8 sF (fun sG sH=>A.uc0 sH ( A.opt (idS 3 J n8) (fun sI=>A.peek (.lg cc 3 sI) a7 (fun sJ=>A.ucI .i64 sJ (fun sK sL=>A.ucI .i64 sL (fun sM sN=>A.ucI .u8 sN (fun sO sP=>A.uc0 sP ( A.callv a3 [(.agg ⟨[(.int .i64 sC),(.int .i64 sE),(.int .u8 sG)]⟩),(.agg ⟨[(.int .i64 sK),(.int .i64 sM),(.int .u8 sO)]⟩)] [(.leaf (.i .i64))] a7 (fun sQ b5=>A.unI sQ (fun sR sS=>A.un0 sS ( A.cmp .lss sR (.ofNat 0) (fun sU=>A.cond sU ( A.ari .add .i64 a2 (.ofNat 1) (fun sV=>sw [(.i sV)] b5)) ( b4 [(.i a2)] b5)))))))))))))))))) ( b4 [(.i a2)] a7))))) [(.i n38)] e2)))))))))))))))))))))))))
/-- math/bits.Len64 -/
noncomputable def f89(ls:List Lf)(h:HT)(K:List Lf→HT→R):R:=A.unI ls (fun n6 a0=>A.un0 a0 ( A.cmp .geq n6 (.ofNat 4294967296) (fun a1=>A.join (fun a2 J=>A.unI a2 (fun n11 a3=>A.unI a3 (fun n13 a4=>A.un0 a4 ( A.cmp .geq n11 (.ofNat 65536) (fun a5=>A.join (fun a6 M=>A.unI a6 (fun n18 a7=>A.unI a7 (fun n20 a8=>A.un0 a8 ( A.cmp .geq n18 (.ofNat 256) (fun a9=>A.join (fun b0 b1=>A.unI b0 (fun n25 b2=>A.unI b2 (fun n27 b3=>A.un0 b3 ( A.conv .u8 n25 (fun n29=>A.opt (strAt (.mk ⟨[.ofNat 0,.ofNat 1,.ofNat 2,.ofNat 2,.ofNat 3,.ofNat 3,.ofNat 3,.ofNat 3,.ofNat 4,.ofNat 4,.ofNat 4,.ofNat 4,.ofNat 4,.ofNat 4,.ofNat 4,.ofNat 4,.ofNat 5,.ofNat 5,.ofNat 5,.ofNat 5,.ofNat 5,.ofNat 5,.ofNat 5,.ofNat 5,.ofNat 5,.ofNat 5,.ofNat 5,.ofNat 5,.ofNat 5,.ofNat 5,.ofNat 5,.ofNat 5,.ofNat 6,.ofNat 6,.ofNat 6,.ofNat 6,.ofNat 6,.ofNat 6,.ofNat 6,.ofNat 6,.ofNat 6,.ofNat 6,.ofNat 6,.ofNat 6,.ofNat 6,.ofNat 6,.ofNat 6,.ofNat 6,.ofNat 6,.ofNat 6,.ofNat 6,.ofNat 6,.ofNat 6,.ofNat 6,.ofNat 6,.ofNat 6,.ofNat 6,.ofNat 6,.ofNat 6,.ofNat 6,.ofNat 6,.ofNat 6,.ofNat 6,.ofNat 6,.ofNat 7,.ofNat 7,.ofNat 7,.ofNat 7,.ofNat 7,.ofNat 7,.ofNat 7,.ofNat 7,.ofNat 7,.ofNat 7,.ofNat 7,.ofNat 7,.ofNat 7,.ofNat 7,.ofNat 7,.ofNat 7,.ofNat 7,.ofNat 7,.ofNat 7,.ofNat 7,.ofNat 7,.ofNat 7,.ofNat 7,.ofNat 7,.ofNat 7,.ofNat 7,.ofNat 7,.ofNat 7,.ofNat 7,.ofNat 7,.ofNat 7,.ofNat 7,.ofNat 7,.ofNat 7,.ofNat 7,.ofNat 7,.ofNat 7,.ofNat 7,.ofNat 7,.ofNat 7,.ofNat 7,.ofNat 7,.ofNat 7,.ofNat 7,.ofNat 7,.ofNat 7,.ofNat 7,.ofNat 7,.ofNat 7,.ofNat 7,.ofNat 7,.ofNat 7,.ofNat 7,.ofNat 7,.ofNat 7,.ofNat 7,.ofNat 7,.ofNat 7,.ofNat 7,.ofNat 7,.ofNat 7,.ofNat 7,.ofNat 7,.ofNat 7,.ofNat 8,.ofNat 8,.ofNat 8,.ofNat 8,.ofNat 8,.ofNat 8,.ofNat 8,.ofNat 8,.ofNat 8,.ofNat 8,.ofNat 8,.ofNat 8,.ofNat 8,.ofNat 8,.ofNat 8,.ofNat 8,.ofNat 8,.ofNat 8,.ofNat 8,.ofNat 8,.ofNat 8,.ofNat 8,.ofNat 8,.ofNat 8,.ofNat 8,.ofNat 8,.ofNat 8,.ofNat 8,.ofNat 8,.ofNat 8,.ofNat 8,.ofNat 8,.ofNat 8,.ofNat 8,.ofNat 8,.ofNat 8,.ofNat 8,.ofNat 8,.ofNat 8,.ofNat 8,.ofNat 8,.ofNat 8,.ofNat 8,.ofNat 8,.ofNat 8,.ofNat 8,.ofNat 8,.ofNat 8,.ofNat 8,.ofNat 8,.ofNat 8,.ofNat 8,.ofNat 8,.ofNat 8,.ofNat 8,.ofNat 8,.ofNat 8,.ofNat 8,.ofNat 8,.ofNat 8,.ofNat 8,.ofNat 8,.ofNat 8,.ofNat 8,.ofNat 8,.ofNat 8,.ofNat 8,.ofNat 8,.ofNat 8,.ofNat 8,.ofNat 8,.ofNat 8,.ofNat 8,.ofNat 8,.ofNat 8,.ofNat 8,.ofNat 8,.ofNat 8,.ofNat 8,.ofNat 8,.ofNat 8,.ofNat 8,.ofNat 8,.ofNat 8,.ofNat 8,.ofNat 8,.ofNat 8,.ofNat 8,.ofNat 8,.ofNat 8,.ofNat 8,.ofNat 8,.ofNat 8,.ofNat 8,.ofNat 8,.ofNat 8,.ofNat 8,.ofNat 8,.ofNat 8,.ofNat 8,.ofNat 8,.ofNat 8,.ofNat 8,.ofNat 8,.ofNat 8,.ofNat 8,.ofNat 8,.ofNat 8,.ofNat 8,.ofNat 8,.ofNat 8,.ofNat 8,.ofNat 8,.ofNat 8,.ofNat 8,.ofNat 8,.ofNat 8,.ofNat 8,.ofNat 8,.ofNat 8,.ofNat 8,.ofNat 8,.ofNat 8,.ofNat 8,.ofNat 8,.ofNat 8,.ofNat 8,.ofNat 8]⟩) n29) (fun b4=>A.conv .i64 b4 (fun n31=>A.ari .add .i64 n27 n31 (fun n32=>K [(.i n32)] b1)))))))) (fun O=>A.cond a9 ( A.shf .shr .u64 n18 .u64 (.ofNat 8) (fun n34=>A.ari .add .i64 n20 (.ofNat 8) (fun n35=>O [(.i n34),(.i n35)] M))) ( O [(.i n18),(.i n20)] M))))))) (fun U=>A.cond a5 ( A.shf .shr .u64 n11 .u64 (.ofNat 16) (fun n37=>A.ari .add .i64 n13 (.ofNat 16) (fun n38=>U [(.i n37),(.i n38)] J))) ( U [(.i n11),(.i n13)] J))))))) (fun V=>A.cond a1 ( A.shf .shr .u64 n6 .u64 (.ofNat 32) (fun n40=>V [(.i n40),(.i (.ofNat 32))] h)) ( V [(.i n6),(.i (.ofNat 0))] h)))))
noncomputable def f91(ls:List Lf)(h:HT)(K:List Lf→HT→R):R:=A.unI ls (fun n6 J=>A.un0 J ( A.cmp .neq n6 n6 (fun M=>K [(.b M)] h)))
/-- slices.insertionSortCmpFunc[crimp/patterns.Crease] -/
noncomputable def f92(ls:List Lf)(h:HT)(K:List Lf→HT→R):R:=A.unV ls (fun J a0=>A.unI a0 (fun n8 a1=>A.unI a1 (fun n10 a2=>A.unV a2 (fun a3 a4=>A.un0 a4 ( A.ari .add .i64 n8 (.ofNat 1) (fun n14=>A.loop (fun a5 a6 U=>A.unI a6 (fun n18 a7=>A.un0 a7 ( A.cmp .lss n18 n10 (fun a8=>A.cond a8 ( A.join (fun a9 b0=>A.un0 a9 ( A.ari .add .i64 n18 (.ofNat 1) (fun n23=>a5 [(.i n23)] b0))) (fun V=>A.loop (fun b1 b2 M=>A.unI b2 (fun n28 b3=>A.un0 b3 ( A.cmp .gtr n28 n8 (fun b4=>A.cond b4 ( A.opt (idS 3 J n28) (fun b5=>A.peek (.lg cc 3 b5) M (fun b6=>A.ucI .i64 b6 (fun n33 b7=>A.ucI .u8 b7 (fun n35 b8=>A.ucI .u8 b8 (fun n37 b9=>A.uc0 b9 ( A.ari .sub .i64 n28 (.ofNat 1) (fun n39=>A.opt (idS 3 J n39) (fun c0=>A.peek (.lg cc 3 c0) M (fun c1=>A.ucI .i64 c1 (fun d0 d1=>A.ucI .u8 d1 (fun n44 d2=>A.ucI .u8 d2 (fun n46 d3=>A.uc0 d3 ( A.callv a3 [(.agg ⟨[(.int .i64 n33),(.int .u8 n35),(.int .u8 n37)]⟩),(.agg ⟨[(.int .i64 d0),(.int .u8 n44),(.int .u8 n46)]⟩)] [(.leaf (.i .i64))] M (fun d4 O=>A.unI d4 (fun n50 d5=>A.un0 d5 ( A.cmp .lss n50 (.ofNat 0) (fun d6=>A.cond d6 ( A.ari .sub .i64 n28 (.ofNat 1) (fun n53=>A.ari .sub .i64 n28 (.ofNat 1) (fun n54=>A.opt (idS 3 J n54) (fun d7=>A.peek (.lg cc 3 d7) O (fun d8=>A.ucI .i64 d8 (fun d9 e0=>A.ucI .u8 e0 (fun n59 e1=>A.ucI .u8 e1 (fun n61 e2=>A.uc0 e2 ( A.opt (idS 3 J n28) (fun e3=>A.peek (.lg cc 3 e3) O (fun f0=>A.ucI .i64 f0 (fun n65 f1=>A.ucI .u8 f1 (fun n67 f2=>A.ucI .u8 f2 (fun n69 f3=>A.uc0 f3 ( A.opt (idS 3 J n28) (fun gl=>A.heap (.st gl [(.int .i64 d9),(.int .u8 n59),(.int .u8 n61)]) O (fun g3 g0=>A.opt (idS 3 J n53) (fun g1=>A.heap (.st g1 [(.int .i64 n65),(.int .u8 n67),(.int .u8 n69)]) g0 (fun g4 g2=>A.ari .sub .i64 n28 (.ofNat 1) (fun n77=>b1 [(.i n77)] g2)))))))))))))))))))) ( V [] O))))))))))))))))))) ( V [] M))))) [(.i n18)] U)) ( K [] U))))) [(.i n14)] h))))))
/-- crimp/sheets.Check -/
noncomputable def f100(ls:List Lf)(h:HT)(K:List Lf→HT→R):R:=A.unI ls (fun n6 J=>A.unI J (fun n8 M=>A.un0 M ( A.cmp .lss n6 (.ofNat 1) (fun O=>A.cond O ( K [(.i (.ofNat 1))] h) ( A.cmp .lss n8 (.ofNat 1) (fun U=>A.cond U ( K [(.i (.ofNat 1))] h) ( A.cmp .gtr n6 (.ofNat 256) (fun V=>A.cond V ( K [(.i (.ofNat 1))] h) ( A.cmp .gtr n8 (.ofNat 256) (fun a0=>A.cond a0 ( K [(.i (.ofNat 1))] h) ( A.ari .mul .i64 n6 n8 (fun n14=>A.cmp .gtr n14 (.ofNat 256) (fun a1=>A.cond a1 ( K [(.i (.ofNat 1))] h) ( K [(.i (.ofNat 0))] h))))))))))))))
/-- slices.ContainsFunc[[]crimp/patterns.Crease,crimp/patterns.Crease] -/
noncomputable def f101(ls:List Lf)(h:HT)(K:List Lf→HT→R):R:=A.unV ls (fun J M=>A.unV M (fun O U=>A.un0 U ( A.call 128 [(.v J),(.v O)] h (fun V a0=>A.unI V (fun n12 a1=>A.un0 a1 ( A.cmp .geq n12 (.ofNat 0) (fun a2=>K [(.b a2)] a0)))))))
/-- crimp/patterns.Check$1 -/
noncomputable def f102(ls:List Lf)(h:HT)(K:List Lf→HT→R):R:=A.unI ls (fun n6 J=>A.unI J (fun n8 M=>A.unI M (fun n10 O=>A.un0 O ( A.call 103 [(.i n10)] h (fun U V=>A.unB U (fun a0 a1=>A.un0 a1 ( K [(.b (!a0))] V)))))))
/-- crimp/patterns.isKind -/
noncomputable def f103(ls:List Lf)(h:HT)(K:List Lf→HT→R):R:=A.unI ls (fun n6 M=>A.un0 M ( A.join (fun O U=>A.unB O (fun V a0=>A.un0 a0 ( K [(.b V)] U))) (fun J=>A.cmp .geq n6 (.ofNat 1) (fun a1=>A.cond a1 ( A.cmp .leq n6 (.ofNat 3) (fun a2=>J [(.b a2)] h)) ( J [(.b false)] h)))))
/-- crimp/sheets.Name -/
noncomputable def f104(ls:List Lf)(h:HT)(K:List Lf→HT→R):R:=A.unI ls (fun n6 M=>A.unI M (fun n8 O=>A.unI O (fun n10 U=>A.unI U (fun n12 V=>A.un0 V ( A.call 112 [(.i n6),(.i n8),(.i n10),(.i n12)] h (fun a0 J=>A.unI a0 (fun n16 a1=>A.unI a1 (fun n18 a2=>A.un0 a2 ( A.cmp .neq n18 (.ofNat 0) (fun a3=>A.cond a3 ( K [(.i (.ofNat 0)),(.i (.ofNat 0)),(.i n18)] J) ( A.cmp .lss n16 n10 (fun a4=>A.sel a4 n16 n10 (fun n22=>K [(.i n22),(.i n12),(.i (.ofNat 0))] J)))))))))))))
/-- (crimp/patterns.Crease).unit -/
noncomputable def f105(ls:List Lf)(h:HT)(K:List Lf→HT→R):R:=A.unI ls (fun n6 J=>A.unI J (fun n8 M=>A.unI M (fun n10 O=>A.un0 O ( K [(.i n6),(.i n8)] h))))
/-- crimp/patterns.order -/
noncomputable def f106(ls:List Lf)(h:HT)(K:List Lf→HT→R):R:=A.unI ls (fun n6 J=>A.unI J (fun n8 M=>A.unI M (fun n10 O=>A.unI O (fun n12 U=>A.un0 U ( A.cmp .neq n6 n10 (fun V=>A.cond V ( A.ari .sub .i64 n6 n10 (fun n15=>K [(.i n15)] h)) ( A.conv .i64 n8 (fun n16=>A.conv .i64 n12 (fun n17=>A.ari .sub .i64 n16 n17 (fun n18=>K [(.i n18)] h))))))))))
/-- crimp/moves.beyond -/
noncomputable def f107(ls:List Lf)(h:HT)(K:List Lf→HT→R):R:=A.unI ls (fun n6 M=>A.un0 M ( A.join (fun O U=>A.unB O (fun V a0=>A.un0 a0 ( K [(.b V)] U))) (fun J=>A.cmp .lss n6 (.negSucc 16383) (fun a1=>A.cond a1 ( J [(.b true)] h) ( A.cmp .gtr n6 (.ofNat 16384) (fun a2=>J [(.b a2)] h))))))
/-- crimp/places.creased -/
noncomputable def f108(ls:List Lf)(h:HT)(K:List Lf→HT→R):R:=A.unI ls (fun n6 U=>A.unI U (fun n8 V=>A.unV V (fun J a0=>A.un0 a0 ( A.opt (lenS J) (fun b3=>A.new (.map [] 0) h (fun O a1=>A.opt (lenS J) (fun a2=>A.loop (fun a3 a4 M=>A.unI a4 (fun n19 a5=>A.un0 a5 ( A.cmp .lss n19 a2 (fun a6=>A.cond a6 ( A.opt (idS 3 J n19) (fun a7=>A.peek (.lg cc 3 a7) M (fun a8=>A.ucI .i64 a8 (fun n24 a9=>A.ucI .u8 a9 (fun n26 b0=>A.ucI .u8 b0 (fun n28 b1=>A.uc0 b1 ( A.heap (.fn (muG cc 168 (.map (some O)) (.agg ⟨[(.int .i64 n24),(.int .u8 n26)]⟩) (.bool true))) M (fun b4 b2=>A.ari .add .i64 n19 (.ofNat 1) (fun n32=>a3 [(.i n32)] b2))))))))) ( K [(.v (.map (some O)))] M))))) [(.i (.ofNat 0))] a1)))))))
/-- crimp/sheets.Count -/
noncomputable def f109(ls:List Lf)(h:HT)(K:List Lf→HT→R):R:=A.unI ls (fun n6 M=>A.unI M (fun n8 O=>A.un0 O ( A.call 100 [(.i n6),(.i n8)] h (fun U J=>A.unI U (fun n12 V=>A.un0 V ( A.cmp .neq n12 (.ofNat 0) (fun a0=>A.cond a0 ( K [(.i (.ofNat 0))] J) ( A.ari .mul .i64 (.ofNat 4) n6 (fun n15=>A.ari .mul .i64 n15 n8 (fun n16=>K [(.i n16)] J))))))))))
/-- crimp/places.relative$1 -/
noncomputable def f110(ls:List Lf)(h:HT)(K:List Lf→HT→R):R:=A.unI ls (fun n6 a4=>A.unI a4 (fun n8 a5=>A.unV a5 (fun O a6=>A.unV a6 (fun a7 a8=>A.unV a8 (fun U a9=>A.un0 a9 ( A.opt (fdP 0 O) (fun V=>A.chk V ( A.peek (.lg cc 2 V) h (fun b0=>A.ucI .i64 b0 (fun n18 b1=>A.ucI .i64 b1 (fun n20 b2=>A.uc0 b2 ( A.call 104 [(.i n18),(.i n20),(.i n6),(.i n8)] h (fun b3 J=>A.unI b3 (fun n24 b4=>A.unI b4 (fun n26 b5=>A.unI b5 (fun n28 b6=>A.un0 b6 ( A.peek (.lg cc 1 a7) J (fun b7=>A.ucV b7 (fun a0 b8=>A.chk a0 ( A.uc0 b8 ( A.peek (.fn (luG cc 168 false (.bool false) a0 (.agg ⟨[(.int .i64 n24),(.int .u8 n26)]⟩) false)) J (fun b9=>A.ucB b9 (fun c0 c1=>A.uc0 c1 ( A.cond (!c0) ( A.peek (.lg cc 1 U) J (fun d0=>A.ucV d0 (fun a1 d1=>A.chk a1 ( A.uc0 d1 ( A.opt (idS 3 a1 n6) (fun d2=>A.peek (.lg cc 3 d2) J (fun d3=>A.ucI .u8 d3 (fun n41 d4=>A.ucI .i64 d4 (fun n43 d5=>A.ucI .i64 d5 (fun n45 d6=>A.uc0 d6 ( K [(.i n41),(.i n43),(.i n45)] J))))))))))) ( A.opt (fdP 0 O) (fun a2=>A.chk a2 ( A.peek (.lg cc 2 a2) J (fun d7=>A.ucI .i64 d7 (fun n49 d8=>A.ucI .i64 d8 (fun n51 d9=>A.uc0 d9 ( A.call 111 [(.i n49),(.i n51),(.i n24),(.i n26)] J (fun e0 e1=>A.unI e0 (fun n55 e2=>A.unI e2 (fun e3 f0=>A.unI f0 (fun n59 f1=>A.un0 f1 ( A.call 50 [(.i n55),(.i e3)] e1 (fun f2 M=>A.unI f2 (fun n63 f3=>A.unI f3 (fun n65 gl=>A.unI gl (fun n67 g0=>A.unI g0 (fun n69 g1=>A.un0 g1 ( A.peek (.lg cc 1 U) M (fun g2=>A.ucV g2 (fun a3 g3=>A.chk a3 ( A.uc0 g3 ( A.opt (idS 3 a3 n6) (fun g4=>A.peek (.lg cc 3 g4) M (fun g5=>A.ucI .u8 g5 (fun n76 g6=>A.ucI .i64 g6 (fun n78 g7=>A.ucI .i64 g7 (fun n80 g8=>A.uc0 g8 ( A.call 78 [(.i n63),(.i n65),(.i n67),(.i n76),(.i n78),(.i n80)] M (fun g9 h0=>A.unI g9 (fun n84 h1=>A.unI h1 (fun n86 h2=>A.unI h2 (fun h3 h4=>A.unI h4 (fun h6 h5=>A.un0 h5 ( K [(.i n84),(.i n86),(.i h3)] h0))))))))))))))))))))))))))))))))))))))))))))))))))))))))))
/-- crimp/sheets.Line -/
noncomputable def f111(ls:List Lf)(h:HT)(K:List Lf→HT→R):R:=A.unI ls (fun n6 M=>A.unI M (fun n8 O=>A.unI O (fun n10 U=>A.unI U (fun n12 V=>A.un0 V ( A.call 129 [(.i n6),(.i n8),(.i n10),(.i n12)] h (fun a0 J=>A.unI a0 (fun n16 a1=>A.unI a1 (fun n18 a2=>A.unI a2 (fun n20 a3=>A.unI a3 (fun n22 a4=>A.un0 a4 ( A.cmp .neq n22 (.ofNat 0) (fun a5=>A.cond a5 ( K [(.i (.ofNat 0)),(.i (.ofNat 0)),(.i n22)] J) ( A.call 130 [(.i n16),(.i n18),(.i n20),(.i n12)] J (fun a6 a7=>A.unI a6 (fun n27 a8=>A.unI a8 (fun n29 a9=>A.unI a9 (fun n31 b0=>A.un0 b0 ( K [(.i n27),(.i n29),(.i n31)] a7))))))))))))))))))
/-- crimp/sheets.Neighbour -/
noncomputable def f112(ls:List Lf)(h:HT)(K:List Lf→HT→R):R:=A.unI ls (fun n6 O=>A.unI O (fun n8 U=>A.unI U (fun n10 V=>A.unI V (fun n12 a0=>A.un0 a0 ( A.call 77 [(.i n6),(.i n8),(.i n10)] h (fun a1 J=>A.unI a1 (fun n16 a2=>A.unI a2 (fun n18 a3=>A.unI a3 (fun n20 a4=>A.unI a4 (fun n22 a5=>A.un0 a5 ( A.cmp .neq n22 (.ofNat 0) (fun a6=>A.cond a6 ( K [(.i (.ofNat 0)),(.i n22)] J) ( A.call 131 [(.i n16),(.i n18),(.i n20),(.i n12)] J (fun a7 M=>A.unI a7 (fun n27 a8=>A.unI a8 (fun n29 a9=>A.unI a9 (fun n31 b0=>A.unI b0 (fun n33 b1=>A.un0 b1 ( A.cmp .neq n33 (.ofNat 0) (fun b2=>A.cond b2 ( K [(.i (.ofNat 0)),(.i (.ofNat 1))] M) ( A.call 132 [(.i n6),(.i n8),(.i n27),(.i n29),(.i n31)] M (fun b3 b4=>A.unI b3 (fun n38 b5=>A.unI b5 (fun n40 b6=>A.un0 b6 ( K [(.i n38),(.i n40)] b4)))))))))))))))))))))))))
/-- (crimp/sheets.Sheet).has -/
noncomputable def f113(ls:List Lf)(h:HT)(K:List Lf→HT→R):R:=A.unI ls (fun n6 M=>A.unI M (fun n8 O=>A.unI O (fun n10 U=>A.un0 U ( A.join (fun V a0=>A.unB V (fun a1 a2=>A.un0 a2 ( K [(.b a1)] a0))) (fun J=>A.cmp .geq n10 (.ofNat 0) (fun a3=>A.cond a3 ( A.ari .mul .i64 (.ofNat 4) n6 (fun n18=>A.ari .mul .i64 n18 n8 (fun n19=>A.cmp .lss n10 n19 (fun a4=>J [(.b a4)] h)))) ( J [(.b false)] h)))))))
/-- (crimp/sheets.Sheet).cell -/
noncomputable def f114(ls:List Lf)(h:HT)(K:List Lf→HT→R):R:=A.unI ls (fun n6 J=>A.unI J (fun n8 M=>A.unI M (fun n10 O=>A.un0 O ( A.ari .quo .i64 n10 (.ofNat 4) (fun n12=>A.ari .rem .i64 n12 n6 (fun n13=>A.ari .quo .i64 n10 (.ofNat 4) (fun n14=>A.ari .quo .i64 n14 n6 (fun n15=>A.ari .rem .i64 n10 (.ofNat 4) (fun n16=>A.conv .u8 n16 (fun n17=>K [(.i n13),(.i n15),(.i n17)] h))))))))))
/-- (crimp/moves.matrix).of -/
noncomputable def f115(ls:List Lf)(h:HT)(K:List Lf→HT→R):R:=A.unI ls (fun n6 J=>A.unI J (fun n8 M=>A.unI M (fun n10 O=>A.unI O (fun n12 U=>A.unI U (fun n14 V=>A.unI V (fun n16 a0=>A.un0 a0 ( A.ari .mul .i64 n6 n14 (fun n18=>A.ari .mul .i64 n8 n16 (fun n19=>A.ari .add .i64 n18 n19 (fun n20=>A.ari .mul .i64 n10 n14 (fun n21=>A.ari .mul .i64 n12 n16 (fun n22=>A.ari .add .i64 n21 n22 (fun n23=>K [(.i n20),(.i n23)] h)))))))))))))
/-- crimp/moves.limited -/
noncomputable def f116(ls:List Lf)(h:HT)(K:List Lf→HT→R):R:=A.unI ls (fun n6 M=>A.unI M (fun n8 O=>A.unI O (fun n10 U=>A.un0 U ( A.call 75 [(.i n6),(.i n8),(.i n10)] h (fun V J=>A.unI V (fun n14 a0=>A.un0 a0 ( A.cmp .neq n14 (.ofNat 0) (fun a1=>A.cond a1 ( K [(.i (.ofNat 0)),(.i (.ofNat 0)),(.i (.ofNat 0)),(.i (.ofNat 3))] J) ( K [(.i n6),(.i n8),(.i n10),(.i (.ofNat 0))] J)))))))))
/-- crimp/moves.number -/
noncomputable def f117(ls:List Lf)(h:HT)(K:List Lf→HT→R):R:=A.unI ls (fun n6 M=>A.unI M (fun n8 O=>A.unI O (fun n10 U=>A.unI U (fun n12 V=>A.un0 V ( A.loop (fun a0 a1 J=>A.unI a1 (fun n17 a2=>A.un0 a2 ( A.cmp .lss n17 (.ofNat 8) (fun a3=>A.cond a3 ( A.opt (inB 8 n17) (fun b0=>A.opt (oe [(.i (.ofNat 1)),(.i (.ofNat 0)),(.i (.ofNat 0)),(.i (.ofNat 1)),(.i (.ofNat 0)),(.i (.negSucc 0)),(.i (.ofNat 1)),(.i (.ofNat 0)),(.i (.negSucc 0)),(.i (.ofNat 0)),(.i (.ofNat 0)),(.i (.negSucc 0)),(.i (.ofNat 0)),(.i (.ofNat 1)),(.i (.negSucc 0)),(.i (.ofNat 0)),(.i (.negSucc 0)),(.i (.ofNat 0)),(.i (.ofNat 0)),(.i (.ofNat 1)),(.i (.ofNat 0)),(.i (.negSucc 0)),(.i (.negSucc 0)),(.i (.ofNat 0)),(.i (.ofNat 1)),(.i (.ofNat 0)),(.i (.ofNat 0)),(.i (.negSucc 0)),(.i (.ofNat 0)),(.i (.ofNat 1)),(.i (.ofNat 1)),(.i (.ofNat 0))] 0 [(n17,4)] 4) (fun a4=>A.unI a4 (fun n22 a5=>A.unI a5 (fun n24 a6=>A.unI a6 (fun n26 a7=>A.unI a7 (fun n28 a8=>A.un0 a8 ( A.eqs [((.i n22),(.i n6)),((.i n24),(.i n8)),((.i n26),(.i n10)),((.i n28),(.i n12))] (fun a9=>A.cond a9 ( A.conv .u8 n17 (fun n31=>K [(.i n31)] J)) ( A.ari .add .i64 n17 (.ofNat 1) (fun n32=>a0 [(.i n32)] J))))))))))) ( K [(.i (.ofNat 0))] J))))) [(.i (.ofNat 0))] h)))))
/-- (crimp/moves.matrix).then -/
noncomputable def f118(ls:List Lf)(h:HT)(K:List Lf→HT→R):R:=A.unI ls (fun n6 J=>A.unI J (fun n8 M=>A.unI M (fun n10 O=>A.unI O (fun n12 U=>A.unI U (fun n14 V=>A.unI V (fun n16 a0=>A.unI a0 (fun n18 a1=>A.unI a1 (fun n20 a2=>A.un0 a2 ( A.call 115 [(.i n14),(.i n16),(.i n18),(.i n20),(.i n6),(.i n10)] h (fun a3 a4=>A.unI a3 (fun n24 a5=>A.unI a5 (fun n26 a6=>A.un0 a6 ( A.call 115 [(.i n14),(.i n16),(.i n18),(.i n20),(.i n8),(.i n12)] a4 (fun a7 a8=>A.unI a7 (fun n30 a9=>A.unI a9 (fun n32 b0=>A.un0 b0 ( K [(.i n24),(.i n30),(.i n26),(.i n32)] a8)))))))))))))))))
/-- crimp/cells.moved -/
noncomputable def f119(ls:List Lf)(h:HT)(K:List Lf→HT→R):R:=A.unI ls (fun n6 U=>A.unI U (fun n8 V=>A.unI V (fun n10 a0=>A.unI a0 (fun n12 a1=>A.unI a1 (fun n14 a2=>A.unI a2 (fun n16 a3=>A.un0 a3 ( A.call 133 [(.i n12),(.i n14),(.i n16)] h (fun a4 a5=>A.unI a4 (fun n20 a6=>A.unI a6 (fun n22 a7=>A.un0 a7 ( A.opt (inB 4 n16) (fun h2=>A.opt (gJ gl3 0 [(n16,17)] 2) (fun a8=>A.ucI .i64 a8 (fun n26 a9=>A.ucI .i64 a9 (fun n28 b0=>A.uc0 b0 ( A.call 134 [(.i n6),(.i n8),(.i n10),(.i n20),(.i n22)] a5 (fun b1 b2=>A.unI b1 (fun n32 b3=>A.unI b3 (fun n34 b4=>A.unI b4 (fun n36 b5=>A.un0 b5 ( A.call 134 [(.i n6),(.i (.ofNat 0)),(.i (.ofNat 0)),(.i n26),(.i n28)] b2 (fun b6 b7=>A.unI b6 (fun n40 b8=>A.unI b8 (fun b9 c0=>A.unI c0 (fun n44 c1=>A.un0 c1 ( A.ari .and .i64 n32 (.ofNat 1) (fun n46=>A.ari .sub .i64 n32 n46 (fun n47=>A.ari .quo .i64 n47 (.ofNat 2) (fun n48=>A.ari .and .i64 n34 (.ofNat 1) (fun n49=>A.ari .sub .i64 n34 n49 (fun n50=>A.ari .quo .i64 n50 (.ofNat 2) (fun n51=>A.loop (fun d0 d1 J=>A.unI d1 (fun n55 d2=>A.unI d2 (fun M d3=>A.unI d3 (fun n59 d4=>A.unI d4 (fun n61 d5=>A.un0 d5 ( A.cmp .lss n55 (.ofNat 4) (fun d6=>A.cond d6 ( A.opt (inB 4 n55) (fun h3=>A.opt (oe [(.i (.ofNat 0)),(.i (.negSucc 0)),(.i (.ofNat 2)),(.i (.ofNat 0)),(.i (.ofNat 0)),(.i (.negSucc 0)),(.i (.ofNat 2)),(.i (.ofNat 0)),(.i (.ofNat 0)),(.i (.ofNat 1)),(.i (.ofNat 0)),(.i (.ofNat 0)),(.i (.ofNat 3)),(.i (.ofNat 0)),(.i (.ofNat 0)),(.i (.ofNat 2)),(.i (.ofNat 0)),(.i (.ofNat 1)),(.i (.ofNat 0)),(.i (.ofNat 1)),(.i (.ofNat 1)),(.i (.ofNat 1)),(.i (.ofNat 0)),(.i (.ofNat 3)),(.i (.ofNat 0)),(.i (.ofNat 0)),(.i (.ofNat 0)),(.i (.ofNat 0)),(.i (.ofNat 0)),(.i (.ofNat 2)),(.i (.ofNat 2)),(.i (.ofNat 2)),(.i (.ofNat 2)),(.i (.ofNat 0)),(.i (.ofNat 0)),(.i (.ofNat 1)),(.i (.ofNat 2)),(.i (.ofNat 1)),(.i (.ofNat 0)),(.i (.ofNat 1)),(.i (.ofNat 0)),(.i (.ofNat 0)),(.i (.ofNat 0)),(.i (.ofNat 3)),(.i (.ofNat 0)),(.i (.ofNat 0)),(.i (.ofNat 1)),(.i (.ofNat 2)),(.i (.ofNat 2)),(.i (.ofNat 0)),(.i (.ofNat 2)),(.i (.negSucc 0)),(.i (.ofNat 0)),(.i (.ofNat 1)),(.i (.ofNat 0)),(.i (.negSucc 0)),(.i (.ofNat 0)),(.i (.ofNat 1)),(.i (.ofNat 0)),(.i (.ofNat 0)),(.i (.ofNat 2)),(.i (.ofNat 0)),(.i (.ofNat 0)),(.i (.ofNat 0)),(.i (.ofNat 0)),(.i (.ofNat 0)),(.i (.ofNat 0)),(.i (.ofNat 2))] 0 [(n55,17)] 17) (fun d7=>A.unI d7 (fun n66 d8=>A.unI d8 (fun n68 d9=>A.unI d9 (fun h4 e0=>A.unI e0 (fun n72 e1=>A.unI e1 (fun n74 e2=>A.unI e2 (fun n76 e3=>A.unI e3 (fun n78 f0=>A.unI f0 (fun n80 f1=>A.unI f1 (fun n82 f2=>A.unI f2 (fun n84 f3=>A.unI f3 (fun n86 gl=>A.unI gl (fun h5 g0=>A.unI g0 (fun h6 g1=>A.unI g1 (fun n92 g2=>A.unI g2 (fun h7 g3=>A.unI g3 (fun h8 g4=>A.unI g4 (fun h9 g5=>A.un0 g5 ( A.eqs [((.i n66),(.i n40)),((.i n68),(.i b9))] (fun g6=>A.join (fun g7 g8=>A.unI g7 (fun n103 g9=>A.unI g9 (fun n105 h0=>A.unI h0 (fun n107 h1=>A.un0 h1 ( A.ari .add .i64 n55 (.ofNat 1) (fun n109=>d0 [(.i n109),(.i n103),(.i n105),(.i n107)] g8)))))) (fun O=>A.cond g6 ( A.conv .u8 n55 (fun n111=>O [(.i M),(.i n59),(.i n111)] J)) ( O [(.i M),(.i n59),(.i n61)] J)))))))))))))))))))))))) ( K [(.i M),(.i n59),(.i n61)] J)))))))) [(.i (.ofNat 0)),(.i n48),(.i n51),(.i (.ofNat 0))] b7))))))))))))))))))))))))))))))))
noncomputable def f121(ls:List Lf)(h:HT)(K:List Lf→HT→R):R:=A.unI ls (fun n6 J=>A.un0 J ( A.conv .u64 n6 (fun n8=>A.call 69 [(.i n8)] h (fun M O=>A.unI M (fun n11 U=>A.un0 U ( A.shf .shl .u64 (.ofNat 1) .i64 n11 (fun n13=>K [(.i n13)] O)))))))
noncomputable def f122(ls:List Lf)(h:HT)(K:List Lf→HT→R):R:=A.unV ls (fun J a9=>A.un0 a9 ( A.opt (nilP J) (fun U=>A.chk U ( A.peek (.lg cc 1 U) h (fun b0=>A.ucI .u64 b0 (fun n10 b1=>A.uc0 b1 ( A.opt (nilP J) (fun V=>A.chk V ( A.peek (.lg cc 1 V) h (fun b2=>A.ucI .u64 b2 (fun n14 b3=>A.uc0 b3 ( A.shf .shl .u64 n14 .u64 (.ofNat 13) (fun n16=>A.ari .xor .u64 n10 n16 (fun n17=>A.opt (nilP J) (fun a0=>A.chk a0 ( A.heap (.st a0 [(.int .u64 n17)]) h (fun d3 M=>A.opt (nilP J) (fun a1=>A.chk a1 ( A.peek (.lg cc 1 a1) M (fun b4=>A.ucI .u64 b4 (fun n23 b5=>A.uc0 b5 ( A.opt (nilP J) (fun a2=>A.chk a2 ( A.peek (.lg cc 1 a2) M (fun b6=>A.ucI .u64 b6 (fun n27 b7=>A.uc0 b7 ( A.shf .shr .u64 n27 .u64 (.ofNat 7) (fun n29=>A.ari .xor .u64 n23 n29 (fun n30=>A.opt (nilP J) (fun a3=>A.chk a3 ( A.heap (.st a3 [(.int .u64 n30)]) M (fun d4 O=>A.opt (nilP J) (fun a4=>A.chk a4 ( A.peek (.lg cc 1 a4) O (fun b8=>A.ucI .u64 b8 (fun n36 b9=>A.uc0 b9 ( A.opt (nilP J) (fun a5=>A.chk a5 ( A.peek (.lg cc 1 a5) O (fun c0=>A.ucI .u64 c0 (fun n40 c1=>A.uc0 c1 ( A.shf .shl .u64 n40 .u64 (.ofNat 17) (fun d0=>A.ari .xor .u64 n36 d0 (fun n43=>A.opt (nilP J) (fun a6=>A.chk a6 ( A.heap (.st a6 [(.int .u64 n43)]) O (fun d5 a7=>A.opt (nilP J) (fun a8=>A.chk a8 ( A.peek (.lg cc 1 a8) a7 (fun d1=>A.ucI .u64 d1 (fun n49 d2=>A.uc0 d2 ( K [(.i n49)] a7))))))))))))))))))))))))))))))))))))))))))))))))))))
/-- slices.medianAdjacentCmpFunc[crimp/api.Cell] -/
noncomputable def f123(ls:List Lf)(h:HT)(K:List Lf→HT→R):R:=A.unV ls (fun J M=>A.unI M (fun n8 O=>A.unV O (fun U V=>A.unV V (fun a0 a1=>A.un0 a1 ( A.ari .sub .i64 n8 (.ofNat 1) (fun n14=>A.ari .add .i64 n8 (.ofNat 1) (fun n15=>A.call 124 [(.v J),(.i n14),(.i n8),(.i n15),(.v U),(.v a0)] h (fun a2 a3=>A.unI a2 (fun n18 a4=>A.un0 a4 ( K [(.i n18)] a3))))))))))
/-- slices.medianCmpFunc[crimp/api.Cell] -/
noncomputable def f124(ls:List Lf)(h:HT)(K:List Lf→HT→R):R:=A.unV ls (fun J U=>A.unI U (fun n8 V=>A.unI V (fun n10 a0=>A.unI a0 (fun n12 a1=>A.unV a1 (fun M a2=>A.unV a2 (fun O a3=>A.un0 a3 ( A.call 135 [(.v J),(.i n8),(.i n10),(.v M),(.v O)] h (fun a4 a5=>A.unI a4 (fun n20 a6=>A.unI a6 (fun n22 a7=>A.un0 a7 ( A.call 135 [(.v J),(.i n22),(.i n12),(.v M),(.v O)] a5 (fun a8 a9=>A.unI a8 (fun n26 b0=>A.unI b0 (fun n28 b1=>A.un0 b1 ( A.call 135 [(.v J),(.i n20),(.i n26),(.v M),(.v O)] a9 (fun b2 b3=>A.unI b2 (fun n32 b4=>A.unI b4 (fun n34 b5=>A.un0 b5 ( K [(.i n34)] b3)))))))))))))))))))
/-- slices.IndexFunc[[]crimp/patterns.Crease,crimp/patterns.Crease] -/
noncomputable def f128(ls:List Lf)(h:HT)(K:List Lf→HT→R):R:=A.unV ls (fun M U=>A.unV U (fun V a0=>A.un0 a0 ( A.opt (lenS M) (fun a1=>A.loop (fun a2 a3 J=>A.unI a3 (fun n14 a4=>A.un0 a4 ( A.cmp .lss n14 a1 (fun a5=>A.cond a5 ( A.opt (idS 3 M n14) (fun a6=>A.peek (.lg cc 3 a6) J (fun a7=>A.ucI .i64 a7 (fun n19 a8=>A.ucI .u8 a8 (fun n21 a9=>A.ucI .u8 a9 (fun n23 b0=>A.uc0 b0 ( A.callv V [(.agg ⟨[(.int .i64 n19),(.int .u8 n21),(.int .u8 n23)]⟩)] [(.leaf .b)] J (fun b1 O=>A.unB b1 (fun b2 b3=>A.un0 b3 ( A.cond b2 ( K [(.i n14)] O) ( A.ari .add .i64 n14 (.ofNat 1) (fun n29=>a2 [(.i n29)] O)))))))))))) ( K [(.i (.negSucc 0))] J))))) [(.i (.ofNat 0))] h))))
/-- crimp/sheets.named -/
noncomputable def f129(ls:List Lf)(h:HT)(K:List Lf→HT→R):R:=A.unI ls (fun n6 O=>A.unI O (fun n8 U=>A.unI U (fun n10 V=>A.unI V (fun n12 a0=>A.un0 a0 ( A.call 100 [(.i n6),(.i n8)] h (fun a1 M=>A.unI a1 (fun n16 a2=>A.un0 a2 ( A.cmp .neq n16 (.ofNat 0) (fun a3=>A.cond a3 ( K [(.i (.ofNat 0)),(.i (.ofNat 0)),(.i (.ofNat 0)),(.i n16)] M) ( A.call 104 [(.i n6),(.i n8),(.i n10),(.i n12)] M (fun a4 J=>A.unI a4 (fun n21 a5=>A.unI a5 (fun n23 a6=>A.unI a6 (fun n25 a7=>A.un0 a7 ( A.cmp .neq n25 (.ofNat 0) (fun a8=>A.cond a8 ( K [(.i (.ofNat 0)),(.i (.ofNat 0)),(.i (.ofNat 0)),(.i (.ofNat 7))] J) ( A.eqs [((.i n21),(.i n10)),((.i n23),(.i n12))] (fun a9=>A.cond (!a9) ( K [(.i (.ofNat 0)),(.i (.ofNat 0)),(.i (.ofNat 0)),(.i (.ofNat 7))] J) ( A.call 114 [(.i n6),(.i n8),(.i n10)] J (fun b0 b1=>A.unI b0 (fun n31 b2=>A.unI b2 (fun n33 b3=>A.unI b3 (fun n35 b4=>A.un0 b4 ( K [(.i n31),(.i n33),(.i n35),(.i (.ofNat 0))] b1))))))))))))))))))))))))
/-- crimp/cells.Line -/
noncomputable def f130(ls:List Lf)(h:HT)(K:List Lf→HT→R):R:=A.unI ls (fun n6 a0=>A.unI a0 (fun n8 a1=>A.unI a1 (fun n10 a2=>A.unI a2 (fun n12 a3=>A.un0 a3 ( A.call 61 [(.i n6),(.i n8),(.i n10)] h (fun a4 J=>A.unI a4 (fun n16 a5=>A.un0 a5 ( A.cmp .neq n16 (.ofNat 0) (fun a6=>A.cond a6 ( K [(.i (.ofNat 0)),(.i (.ofNat 0)),(.i (.ofNat 1))] J) ( A.cmp .gtr n12 (.ofNat 2) (fun a7=>A.cond a7 ( K [(.i (.ofNat 0)),(.i (.ofNat 0)),(.i (.ofNat 1))] J) ( A.opt (inB 4 n10) (fun g4=>A.opt (gJ gl3 0 [(n10,17)] 17) (fun a8=>A.ucI .i64 a8 (fun n22 a9=>A.ucI .i64 a9 (fun n24 b0=>A.ucI .u8 b0 (fun n26 b1=>A.ucI .i64 b1 (fun n28 b2=>A.ucI .i64 b2 (fun n30 b3=>A.ucI .i64 b3 (fun n32 b4=>A.ucI .u8 b4 (fun n34 b5=>A.ucI .i64 b5 (fun n36 b6=>A.ucI .i64 b6 (fun n38 b7=>A.ucI .u8 b7 (fun n40 b8=>A.ucI .i64 b8 (fun g5 b9=>A.ucI .i64 b9 (fun n44 c0=>A.ucI .u8 c0 (fun n46 c1=>A.ucI .i64 c1 (fun n48 d0=>A.ucI .i64 d0 (fun n50 d1=>A.ucI .i64 d1 (fun n52 d2=>A.ucI .i64 d2 (fun n54 d3=>A.uc0 d3 ( A.ari .add .i64 n6 n28 (fun n56=>A.cmp .eql n12 (.ofNat 1) (fun d4=>A.join (fun d5 d6=>A.unI d5 (fun n60 d7=>A.unI d7 (fun n62 d8=>A.un0 d8 ( A.call 66 [(.i n60),(.i n62)] d6 (fun d9 M=>A.unI d9 (fun n66 e0=>A.un0 e0 ( A.cmp .neq n66 (.ofNat 0) (fun e1=>A.cond e1 ( K [(.i (.ofNat 0)),(.i (.ofNat 0)),(.i (.ofNat 3))] M) ( K [(.i n60),(.i n62),(.i (.ofNat 0))] M))))))))) (fun O=>A.cond d4 ( A.ari .add .i64 n6 n8 (fun e2=>A.ari .add .i64 e2 (.ofNat 1) (fun n71=>O [(.i (.ofNat 3)),(.i n71)] J))) ( A.cmp .eql n12 (.ofNat 2) (fun e3=>A.join (fun f0 f1=>A.unI f0 (fun n75 f2=>A.unI f2 (fun n77 f3=>A.un0 f3 ( O [(.i n75),(.i n77)] f1)))) (fun U=>A.cond e3 ( A.ari .sub .i64 n8 n6 (fun n80=>U [(.i (.ofNat 4)),(.i n80)] J)) ( A.cmp .eql n26 (.ofNat 2) (fun gl=>A.join (fun g0 g1=>A.unI g0 (fun n84 g2=>A.unI g2 (fun n86 g3=>A.un0 g3 ( U [(.i n84),(.i n86)] g1)))) (fun V=>A.cond gl ( A.ari .add .i64 n8 n28 (fun n89=>V [(.i n26),(.i n89)] J)) ( V [(.i n26),(.i n56)] J))))))))))))))))))))))))))))))))))))))))))
/-- crimp/cells.Neighbour -/
noncomputable def f131(ls:List Lf)(h:HT)(K:List Lf→HT→R):R:=A.unI ls (fun n6 O=>A.unI O (fun n8 U=>A.unI U (fun n10 V=>A.unI V (fun n12 a0=>A.un0 a0 ( A.call 61 [(.i n6),(.i n8),(.i n10)] h (fun a1 J=>A.unI a1 (fun n16 a2=>A.un0 a2 ( A.cmp .neq n16 (.ofNat 0) (fun a3=>A.cond a3 ( K [(.i (.ofNat 0)),(.i (.ofNat 0)),(.i (.ofNat 0)),(.i (.ofNat 1))] J) ( A.cmp .gtr n12 (.ofNat 2) (fun a4=>A.cond a4 ( K [(.i (.ofNat 0)),(.i (.ofNat 0)),(.i (.ofNat 0)),(.i (.ofNat 1))] J) ( A.opt (inB 4 n10) (fun b2=>A.opt (inB 3 n12) (fun b3=>A.opt (gJ gl3 4 [(n10,17),(n12,3)] 3) (fun a5=>A.ucI .i64 a5 (fun n23 a6=>A.ucI .i64 a6 (fun n25 a7=>A.ucI .u8 a7 (fun n27 a8=>A.uc0 a8 ( A.ari .add .i64 n23 n6 (fun n29=>A.ari .add .i64 n25 n8 (fun n30=>A.call 61 [(.i n29),(.i n30),(.i n27)] J (fun a9 M=>A.unI a9 (fun n33 b0=>A.un0 b0 ( A.cmp .neq n33 (.ofNat 0) (fun b1=>A.cond b1 ( K [(.i (.ofNat 0)),(.i (.ofNat 0)),(.i (.ofNat 0)),(.i (.ofNat 3))] M) ( K [(.i n29),(.i n30),(.i n27),(.i (.ofNat 0))] M))))))))))))))))))))))))))
/-- crimp/sheets.Id -/
noncomputable def f132(ls:List Lf)(h:HT)(K:List Lf→HT→R):R:=A.unI ls (fun n6 O=>A.unI O (fun n8 U=>A.unI U (fun n10 V=>A.unI V (fun n12 a0=>A.unI a0 (fun n14 a1=>A.un0 a1 ( A.call 100 [(.i n6),(.i n8)] h (fun a2 M=>A.unI a2 (fun n18 a3=>A.un0 a3 ( A.cmp .neq n18 (.ofNat 0) (fun a4=>A.cond a4 ( K [(.i (.ofNat 0)),(.i n18)] M) ( A.call 61 [(.i n10),(.i n12),(.i n14)] M (fun a5 J=>A.unI a5 (fun n23 a6=>A.un0 a6 ( A.cmp .neq n23 (.ofNat 0) (fun a7=>A.cond a7 ( K [(.i (.ofNat 0)),(.i (.ofNat 7))] J) ( A.cmp .lss n10 (.ofNat 0) (fun a8=>A.cond a8 ( K [(.i (.ofNat 0)),(.i (.ofNat 7))] J) ( A.cmp .geq n10 n6 (fun a9=>A.cond a9 ( K [(.i (.ofNat 0)),(.i (.ofNat 7))] J) ( A.cmp .lss n12 (.ofNat 0) (fun b0=>A.cond b0 ( K [(.i (.ofNat 0)),(.i (.ofNat 7))] J) ( A.cmp .geq n12 n8 (fun b1=>A.cond b1 ( K [(.i (.ofNat 0)),(.i (.ofNat 7))] J) ( A.ari .mul .i64 n12 n6 (fun n30=>A.ari .add .i64 n30 n10 (fun n31=>A.ari .mul .i64 (.ofNat 4) n31 (fun n32=>A.conv .i64 n14 (fun n33=>A.ari .add .i64 n32 n33 (fun n34=>K [(.i n34),(.i (.ofNat 0))] J)))))))))))))))))))))))))))))
/-- crimp/cells.middle -/
noncomputable def f133(ls:List Lf)(h:HT)(K:List Lf→HT→R):R:=A.unI ls (fun n6 J=>A.unI J (fun n8 M=>A.unI M (fun n10 O=>A.un0 O ( A.ari .mul .i64 (.ofNat 2) n6 (fun n12=>A.ari .add .i64 n12 (.ofNat 1) (fun n13=>A.ari .mul .i64 (.ofNat 2) n8 (fun n14=>A.ari .add .i64 n14 (.ofNat 1) (fun n15=>K [(.i n13),(.i n15)] h))))))))
/-- crimp/moves.Point -/
noncomputable def f134(ls:List Lf)(h:HT)(K:List Lf→HT→R):R:=A.unI ls (fun n6 U=>A.unI U (fun n8 V=>A.unI V (fun n10 a0=>A.unI a0 (fun n12 a1=>A.unI a1 (fun n14 a2=>A.un0 a2 ( A.call 75 [(.i n6),(.i n8),(.i n10)] h (fun a3 J=>A.unI a3 (fun n18 a4=>A.un0 a4 ( A.cmp .neq n18 (.ofNat 0) (fun a5=>A.cond a5 ( K [(.i (.ofNat 0)),(.i (.ofNat 0)),(.i (.ofNat 1))] J) ( A.call 137 [(.i n12),(.i n14)] J (fun a6 M=>A.unI a6 (fun n23 a7=>A.un0 a7 ( A.cmp .neq n23 (.ofNat 0) (fun a8=>A.cond a8 ( K [(.i (.ofNat 0)),(.i (.ofNat 0)),(.i (.ofNat 1))] M) ( A.opt (inB 8 n6) (fun d0=>A.opt (gJ gl2 0 [(n6,4)] 4) (fun a9=>A.ucI .i64 a9 (fun n28 b0=>A.ucI .i64 b0 (fun n30 b1=>A.ucI .i64 b1 (fun n32 b2=>A.ucI .i64 b2 (fun n34 b3=>A.uc0 b3 ( A.call 115 [(.i n28),(.i n30),(.i n32),(.i n34),(.i n12),(.i n14)] M (fun b4 b5=>A.unI b4 (fun n38 b6=>A.unI b6 (fun n40 b7=>A.un0 b7 ( A.ari .mul .i64 (.ofNat 2) n8 (fun b8=>A.ari .add .i64 n38 b8 (fun n43=>A.ari .mul .i64 (.ofNat 2) n10 (fun n44=>A.ari .add .i64 n40 n44 (fun n45=>A.call 137 [(.i n43),(.i n45)] b5 (fun b9 O=>A.unI b9 (fun n48 c0=>A.un0 c0 ( A.cmp .neq n48 (.ofNat 0) (fun c1=>A.cond c1 ( K [(.i (.ofNat 0)),(.i (.ofNat 0)),(.i (.ofNat 3))] O) ( K [(.i n43),(.i n45),(.i (.ofNat 0))] O))))))))))))))))))))))))))))))))))))
/-- slices.order2CmpFunc[crimp/api.Cell] -/
noncomputable def f135(ls:List Lf)(h:HT)(K:List Lf→HT→R):R:=A.unV ls (fun M a0=>A.unI a0 (fun n8 a1=>A.unI a1 (fun n10 a2=>A.unV a2 (fun O a3=>A.unV a3 (fun a4 a5=>A.un0 a5 ( A.opt (idS 3 M n10) (fun a6=>A.peek (.lg cc 3 a6) h (fun a7=>A.ucI .i64 a7 (fun n18 a8=>A.ucI .i64 a8 (fun n20 a9=>A.ucI .u8 a9 (fun n22 b0=>A.uc0 b0 ( A.opt (idS 3 M n8) (fun b1=>A.peek (.lg cc 3 b1) h (fun b2=>A.ucI .i64 b2 (fun n26 b3=>A.ucI .i64 b3 (fun n28 b4=>A.ucI .u8 b4 (fun n30 b5=>A.uc0 b5 ( A.callv a4 [(.agg ⟨[(.int .i64 n18),(.int .i64 n20),(.int .u8 n22)]⟩),(.agg ⟨[(.int .i64 n26),(.int .i64 n28),(.int .u8 n30)]⟩)] [(.leaf (.i .i64))] h (fun b6 J=>A.unI b6 (fun n34 b7=>A.un0 b7 ( A.cmp .lss n34 (.ofNat 0) (fun b8=>A.cond b8 ( A.opt (nilP O) (fun U=>A.chk U ( A.peek (.lg cc 1 U) J (fun b9=>A.ucI .i64 b9 (fun n39 c0=>A.uc0 c0 ( A.ari .add .i64 n39 (.ofNat 1) (fun n41=>A.opt (nilP O) (fun V=>A.chk V ( A.heap (.st V [(.int .i64 n41)]) J (fun d0 c1=>K [(.i n10),(.i n8)] c1)))))))))) ( K [(.i n8),(.i n10)] J)))))))))))))))))))))))
/-- crimp/lines.CheckPoint -/
noncomputable def f137(ls:List Lf)(h:HT)(K:List Lf→HT→R):R:=A.unI ls (fun n6 J=>A.unI J (fun n8 M=>A.un0 M ( A.cmp .lss n6 (.negSucc 65535) (fun O=>A.cond O ( K [(.i (.ofNat 1))] h) ( A.cmp .gtr n6 (.ofNat 65536) (fun U=>A.cond U ( K [(.i (.ofNat 1))] h) ( A.cmp .lss n8 (.negSucc 65535) (fun V=>A.cond V ( K [(.i (.ofNat 1))] h) ( A.cmp .gtr n8 (.ofNat 65536) (fun a0=>A.cond a0 ( K [(.i (.ofNat 1))] h) ( K [(.i (.ofNat 0))] h)))))))))))
end
end Go.Am

/-
 THE EXECUTOR: a run of the abstract machine that the kernel can make;numbers may be symbolic,the ways of a run are all followed.
-/
namespace Go.Am
inductive Pth where
 |e
 |o (p:Pth)
 |i (p:Pth)
inductive Tr(α:Type) where
 |leaf
 |node (v:α) (l r:Tr α)
def Pth.num:Pth→Nat
 | .e=>1
 | .o p=>2*p.num
 | .i p=>2*p.num+1
def pthF:Nat→Nat→Pth
 |0,_=>.e
 |f+1,n=>if Nat.ble n 1 then .e else if Nat.beq (n%2) 0 then .o (pthF f (n / 2))else .i (pthF f (n / 2))
def aS(n:Nat):Pth:=pthF (n+1) (n+1)
noncomputable def Pth.get{α:Type}(d:α)(p:Pth):Tr α→α:=
 Pth.rec (motive:=fun _=>Tr α→α)
  (fun t=>Tr.casesOn t d fun v _ _=>v)
  (fun _ ih t=>Tr.casesOn t d fun _ l _=>ih l)
  (fun _ ih t=>Tr.casesOn t d fun _ _ r=>ih r) p
noncomputable def Pth.setK{α:Type}(d:α)(p:Pth):Tr α→α→(Tr α→Bool)→Bool:=
 Pth.rec (motive:=fun _=>Tr α→α→(Tr α→Bool)→Bool)
  (fun t x k=>Tr.casesOn t (k (.node x .leaf .leaf)) fun _ l r=>k (.node x l r))
  (fun _ ih t x k=>Tr.casesOn t (ih .leaf x fun l=>k (.node d l .leaf)) fun v l r=>ih l x fun l=>k (.node v l r))
  (fun _ ih t x k=>Tr.casesOn t (ih .leaf x fun r=>k (.node d .leaf r)) fun v l r=>ih r x fun r=>k (.node v l r)) p
def eqI:Int→Int→Bool
 | .ofNat a,.ofNat b=>Nat.beq a b
 | .negSucc a,.negSucc b=>Nat.beq a b
 |_,_=>false
def kmax:IntKind→Nat
 | .i8=>127
 | .i16=>32767
 | .i32=>2147483647
 | .i64=>9223372036854775807
 | .u8=>255
 | .u16=>65535
 | .u32=>4294967295
 | .u64=>18446744073709551615
def fits(k:IntKind):Int→Bool
 | .ofNat n=>Nat.ble n (kmax k)
 | .negSucc n=>k.signed&&Nat.ble n (kmax k)
abbrev Lin:=List Int
def dot:List Int→List Int→Int
 |c :: l,x :: ρ=>c*x+dot l ρ
 |_,_=>0
def Lin.eval(l:Lin)(ρ:List Int):Int:=
 match l with
 | []=>0
 |c :: l=>c+dot l ρ
structure Ctx where
 iv:List (Int×Int)
 cs:List (List Int×Int×Int)
inductive Opd where
 |t (p:Pth)
 |c (v:Value)
inductive Ins where
 |mv (x:Opd)
 |pick (c a b:Opd)
 |ar (op:BinOp) (x y:Opd)
 |cmp (op:BinOp) (x y:Opd)
 |notb (x:Opd)
 |conv (k:IntKind) (x:Opd)
 |fld (x:Opd) (off:Nat)
 |flda (x:Opd) (off n:Nat)
 |ext (x:Opd) (i:Nat)
 |fad (x:Opd) (off:Nat)
 |lload (s:Nat) (p:Pth) (a:Opd)
 |lloada (s:Nat) (p:Pth) (n:Nat) (a:Opd)
 |lbox (s:Nat) (p:Pth) (x:Opd)
 |lnew (s:Nat) (p:Pth) (vs:List Value)
 |bld (z:List Value) (ps:List (Nat×Nat×Opd))
 |lstore (s:Nat) (p:Pth) (n:Nat) (a x:Opd)
 |call (f:FuncId) (args:List Opd)
 |gen
abbrev TV:=Tr Value
abbrev TL:=Tr (Option (List Value))
structure XCfg where
 C:Cfg
 kf:FuncId→List Value→List HObj→Option (Value×List HObj)
abbrev KS:=Ctx→TV→TL→List HObj→Bool
structure XS where
 call:Ctx→FuncId→List Value→List HObj→(Ctx→Value→List HObj→Bool)→Bool
 yield:Ctx→Nat→List Value→List HObj→(Ctx→Value→List HObj→Bool)→Bool
 ex:Ctx→List Nat→Nat→Code→TV→TL→List HObj→KS→(Exit→KS)→Bool
end Go.Am

/-
 THE EXECUTOR IS SOUND: trees,numbers,linear forms.
-/
namespace Go.Am
theorem qk:∀(f n:Nat),n≤f→1≤n→(pthF f n).num=n
 |0,n,h,h1=>by omega
 |f+1,n,h,h1=>by
  unfold pthF
  by_cases hn:n≤1
  ·have:n=1:=by omega
   subst this
   rfl
  ·have h2:Nat.ble n 1=false:=by
    rw[←Bool.not_eq_true,Nat.ble_eq];exact hn
   rw[h2]
   have ih:=qk f (n / 2) (by omega) (by omega)
   by_cases hm:n%2=0
   ·simp[hm,Pth.num,ih];omega
   ·simp[hm,Pth.num,ih];omega
theorem lj(n:Nat):(aS n).num=n+1:=qk _ _ (Nat.le_refl _) (by omega)
theorem gI{a b:Nat}(h:aS a=aS b):a=b:=by
 have:=congrArg Pth.num h
 rw[lj,lj]at this
 omega
def Pth.set{α:Type}(d:α):Pth→Tr α→α→Tr α
 | .e,.leaf,x=>.node x .leaf .leaf
 | .e,.node _ l r,x=>.node x l r
 | .o p,.leaf,x=>.node d (Pth.set d p .leaf x) .leaf
 | .o p,.node v l r,x=>.node v (Pth.set d p l x) r
 | .i p,.leaf,x=>.node d .leaf (Pth.set d p .leaf x)
 | .i p,.node v l r,x=>.node v l (Pth.set d p r x)
theorem Pth.setK_eq{α:Type}(d:α):∀(p:Pth) (t:Tr α) (x:α) (k:Tr α→Bool),p.setK d t x k=k (p.set d t x)
 | .e,t,x,k=>by cases t<;>rfl
 | .o p,t,x,k=>by
  cases t with
  |leaf=>exact Pth.setK_eq d p .leaf x _
  |node v l r=>exact Pth.setK_eq d p l x _
 | .i p,t,x,k=>by
  cases t with
  |leaf=>exact Pth.setK_eq d p .leaf x _
  |node v l r=>exact Pth.setK_eq d p r x _
theorem Pth.get_leaf{α:Type}(d:α)(p:Pth):p.get d .leaf=d:=by cases p<;>rfl
theorem Pth.get_set{α:Type}(d:α):∀(p:Pth) (t:Tr α) (x:α),p.get d (p.set d t x)=x
 | .e,t,x=>by cases t<;>rfl
 | .o p,t,x=>by
  cases t with
  |leaf=>exact Pth.get_set d p .leaf x
  |node v l r=>exact Pth.get_set d p l x
 | .i p,t,x=>by
  cases t with
  |leaf=>exact Pth.get_set d p .leaf x
  |node v l r=>exact Pth.get_set d p r x
theorem Pth.get_set_ne{α:Type}(d:α):∀(p q:Pth) (t:Tr α) (x:α),q≠p→q.get d (p.set d t x)=q.get d t
 | .e,q,t,x,h=>by cases q<;>cases t<;>first|rfl|exact absurd rfl h|exact Pth.get_leaf d _
 | .o p,q,t,x,h=>by
  cases q with
  |e=>cases t<;>rfl
  |o q=>
   have hq:q≠p:=fun e=>h (e▸rfl)
   cases t with
   |leaf=>exact(Pth.get_set_ne d p q .leaf x hq).trans (Pth.get_leaf d q)
   |node v l r=>exact Pth.get_set_ne d p q l x hq
  |i q=>
   cases t with
   |leaf=>exact Pth.get_leaf d q
   |node v l r=>rfl
 | .i p,q,t,x,h=>by
  cases q with
  |e=>cases t<;>rfl
  |i q=>
   have hq:q≠p:=fun e=>h (e▸rfl)
   cases t with
   |leaf=>exact(Pth.get_set_ne d p q .leaf x hq).trans (Pth.get_leaf d q)
   |node v l r=>exact Pth.get_set_ne d p q r x hq
  |o q=>
   cases t with
   |leaf=>exact Pth.get_leaf d q
   |node v l r=>rfl
def Tr.map{α:Type}(f:α→α):Tr α→Tr α
 | .leaf=>.leaf
 | .node v l r=>.node (f v) (l.map f) (r.map f)
theorem eqI_iff{a b:Int}:eqI a b=true↔a=b:=by
 cases a<;>cases b<;>simp[eqI]<;>omega
theorem fits_iff{k:IntKind}{c:Int}(h:fits k c=true):(k.signed=true→-(kmax k:Int) - 1≤c)∧(k.signed=false→0≤c)∧c≤kmax k:=by
 cases c with
 |ofNat n=>
  simp only[fits,Nat.ble_eq]at h
  refine⟨fun _=>?_,fun _=>?_,?_⟩<;>simp<;>omega
 |negSucc n=>
  simp only[fits,Bool.and_eq_true,Nat.ble_eq]at h
  refine⟨fun _=>?_,fun hs=>?_,?_⟩
  ·omega
  ·rw[h.1]at hs;cases hs
  ·omega
theorem nD{k:IntKind}{c:Int}(h:fits k c=true):k.wrap c=c:=by
 obtain⟨h1,h2,h3⟩:=fits_iff h
 cases k<;>simp only[IntKind.signed,kmax,forall_const,reduceCtorEq,false_implies]at h1 h2 h3
 ·exact Go.IntWalk.i8_in c (by omega)
 ·exact Go.IntWalk.i16_in c (by omega)
 ·exact Go.IntWalk.i32_in c (by omega)
 ·exact Go.IntWalk.i64_in c (by omega)
 ·exact Go.IntWalk.u8_in c (by omega)
 ·exact Go.IntWalk.u16_in c (by omega)
 ·exact Go.IntWalk.u32_in c (by omega)
 ·exact Go.IntWalk.u64_in c (by omega)
end Go.Am

/-
 THE EXECUTOR IS SOUND: arithmetic,plain and symbolic.
-/
namespace Go.Am
section
variable [Val] {ρ:List Int}
def kz(op:BinOp)(x y:Int):Option Bool:=
 match op with
 | .eql=>some (x==y)
 | .neq=>some (x != y)
 | .lss=>some (decide (x<y))
 | .leq=>some (decide (x≤y))
 | .gtr=>some (decide (x > y))
 | .geq=>some (decide (x ≥ y))
 |_=>none
def qB(op:BinOp)(k:IntKind)(x y n:Int):Prop:=∀(P:Program) (t:TypeId) (w:World),(binOp op t (.int k x) (.int k y)).run P w = .ok (.int k n) w
theorem bits_one{k:IntKind}(x:Int):((BitVec.ofInt k.bits x &&& BitVec.ofInt k.bits 1).toNat:Int)=x%2:=by
 have hb:k.bits=k.bits - 1+1:=by cases k<;>rfl
 generalize k.bits - 1=n at hb
 rw[hb]
 have h1:(BitVec.ofInt (n+1) 1).toNat=1:=by
  simp
 rw[BitVec.toNat_and,h1,Nat.and_one_is_mod,BitVec.toNat_ofInt]
 have hp:(0:Int)<2 ^ (n+1):=Int.pow_pos (by omega)
 have e:(2:Int) ^ (n+1)=2*2 ^ n:=by rw[Int.pow_succ];omega
 have h0:0≤x%(2 ^ (n+1):Int):=Int.emod_nonneg _ (by omega)
 have:((x%((2 ^ (n+1):Nat):Int)).toNat%2:Nat)=((x%(2 ^ (n+1):Int))%2:Int):=by
  have e2:((2 ^ (n+1):Nat):Int)=(2 ^ (n+1):Int):=by simp
  rw[e2]
  omega
 rw[this,e,Int.emod_emod_of_dvd _ ⟨2 ^ n,rfl⟩]
theorem pf{k:IntKind}{x n:Int}(hn:x%2=n):qB .and k x 1 n:=by
 intro P t w
 have hw:k.wrap n=n:=nD (by
  have h0:0≤n:=by omega
  have h1:n≤1:=by omega
  obtain⟨m,rfl⟩ : ∃m:Nat,n=m:=⟨n.toNat,by omega⟩
  show Nat.ble m (kmax k)=true
  rw[Nat.ble_eq]
  cases k<;>simp only[kmax]<;>omega)
 have hb:=bits_one (k:=k) x
 simp only[binOp,ne_eq,not_true_eq_false,if_false,Op.intBits]
 show Result.ok (Value.int k (k.wrap _)) w=_
 rw[hb,hn,hw]
end
end Go.Am

/-
 THE EXECUTOR IS SOUND: instructions that give a value.
-/
namespace Go.Am
section
variable [Val] {ρ:List Int}
structure Rep(pts:List Nat)(nt:Nat)(tm:TV)(lc:TL)(σ:St):Prop where
 len:σ.tmps.length=nt
 val:∀(i:Nat) v,σ.tmps[i]? = some v→(aS i).get undef tm=v
 llen:pts≠[]→σ.loc.length=nt
 loc:∀(i:Nat) x,σ.loc[i]? = some x→(aS i).get none lc=x
def ValStep(C:Cfg)(pts:List Nat)(σ:St)(o:Oper)(v:Value):Prop:=
 (∃e,ai C pts (oval σ.tmps) o=some e∧aE σ e=some (σ,v))∨fg C σ.tmps o v
theorem ValStep.val{C:Cfg}{pts:List Nat}{σ:St}{o:Oper}{v:Value}(h:ai C pts (oval σ.tmps) o=some (.val v)):ValStep C pts σ o v:=.inl ⟨_,h,rfl⟩
theorem jN(k:IntKind)(x:Int):k.wrap (x%(2 ^ k.bits:Int))=k.wrap x:=by
 unfold IntKind.wrap
 rw[Int.emod_emod_of_dvd _ (Int.dvd_refl _)]
theorem pe{k:IntKind}(m n:Nat):qB .and k m n (k.wrap (Nat.land m n:Nat)):=by
 intro P t w
 simp only[binOp,ne_eq,not_true_eq_false,if_false,Op.intBits]
 show Result.ok (Value.int k (k.wrap _)) w=_
 rw[←jN k (Nat.land m n:Nat)]
 congr 3
 have h2:∀x:Nat,(BitVec.ofInt k.bits (x:Int)).toNat=x%2 ^ k.bits:=fun x=>by
  rw[BitVec.toNat_ofInt]
  have:((x:Int)%((2 ^ k.bits:Nat):Int))=((x%2 ^ k.bits:Nat):Int):=by simp
  rw[this,Int.toNat_natCast]
 have h3:(BitVec.ofInt k.bits (m:Int) &&& BitVec.ofInt k.bits (n:Int)).toNat=(m &&& n)%2 ^ k.bits:=by
  rw[BitVec.toNat_and,h2,h2,Nat.and_mod_two_pow]
 rw[h3]
 simp
theorem ph{k:IntKind}(m n:Nat):qB .xor k m n (k.wrap (Nat.xor m n:Nat)):=by
 intro P t w
 simp only[binOp,ne_eq,not_true_eq_false,if_false,Op.intBits]
 show Result.ok (Value.int k (k.wrap _)) w=_
 rw[←jN k (Nat.xor m n:Nat)]
 congr 3
 have h2:∀x:Nat,(BitVec.ofInt k.bits (x:Int)).toNat=x%2 ^ k.bits:=fun x=>by
  rw[BitVec.toNat_ofInt]
  have:((x:Int)%((2 ^ k.bits:Nat):Int))=((x%2 ^ k.bits:Nat):Int):=by simp
  rw[this,Int.toNat_natCast]
 have h3:(BitVec.ofInt k.bits (m:Int) ^^^ BitVec.ofInt k.bits (n:Int)).toNat=(m ^^^ n)%2 ^ k.bits:=by
  rw[BitVec.toNat_xor,h2,h2,Nat.xor_mod_two_pow]
 rw[h3]
 simp
theorem rl{k:IntKind}(m n:Nat):qB .or k m n (k.wrap (Nat.lor m n:Nat)):=by
 intro P t w
 simp only[binOp,ne_eq,not_true_eq_false,if_false,Op.intBits]
 show Result.ok (Value.int k (k.wrap _)) w=_
 rw[←jN k (Nat.lor m n:Nat)]
 congr 3
 have h2:∀x:Nat,(BitVec.ofInt k.bits (x:Int)).toNat=x%2 ^ k.bits:=fun x=>by
  rw[BitVec.toNat_ofInt]
  have:((x:Int)%((2 ^ k.bits:Nat):Int))=((x%2 ^ k.bits:Nat):Int):=by simp
  rw[this,Int.toNat_natCast]
 have h3:(BitVec.ofInt k.bits (m:Int) ||| BitVec.ofInt k.bits (n:Int)).toNat=(m ||| n)%2 ^ k.bits:=by
  rw[BitVec.toNat_or,h2,h2,Nat.or_mod_two_pow]
 rw[h3]
 simp
end
end Go.Am

/-
 WHEN AN ALGEBRA TELLS THE TRUTH;what an environment says of a state.
-/
namespace Go.Am
section
variable {R:Type}
theorem setK_eq{α:Type}(x:α):∀(l:List α) (i:Nat) (k:List α→R),setK x l i k=k (l.set i x)
 | [],_,_=>rfl
 |_ :: _,0,_=>rfl
 |a :: l,i+1,k=>setK_eq x l i fun l=>k (a :: l)
theorem oM(n:Nat)(K:Nat→R):mf n K=K n:=by cases n<;>rfl
end
noncomputable def SL.good:SL→Prop
 | .v x=>bK x=true
 |_=>True
def S0.good(x:S0):Prop:=∀l∈x.cells,l.good
noncomputable def SV.gd:SV→Prop
 | .st x=>x.good
 | .tup xs=>(∀x∈xs,x.good)∧2≤xs.length
 | .no=>False
 |_=>True
theorem cE{x:Value}:bK x=true↔noLoc x=true∧aZ x=true∧aV x=true∧aG x=false:=by
 unfold bK
 cases noLoc x<;>cases aZ x<;>cases aV x<;>cases aG x<;>simp
theorem kJ{x:Value}(h:bK x=true):aO x=true:=by
 obtain⟨h1,_,h2,_⟩:=cE.1 h
 simp[aO,h1,h2]
theorem oP{x:Value}(h:bK x=true):x.cells = #[x]:=cH (cE.1 h).2.2.1
theorem SL.val_good{l:SL}(h:l.good):bK l.val=true:=by
 cases l with
 |v x=>exact h
 |_=>rfl
theorem S0.cells_val{x:S0}(h:x.good):x.val.cells=⟨x.cells.map SL.val⟩:=by
 cases x with
 |leaf l=>exact oP (SL.val_good (h l (by simp[S0.cells])))
 |agg cs=>rfl
theorem S0.noLoc{x:S0}(h:x.good):noLoc x.val=true:=by
 cases x with
 |leaf l=>exact(cE.1 (SL.val_good (h l (by simp[S0.cells])))).1
 |agg cs=>
  simp only[S0.val,Am.noLoc,List.all_eq_true,List.mem_map]
  rintro _ ⟨l,hl,rfl⟩
  exact(cE.1 (SL.val_good (h l hl))).2.1
theorem S0.not_tuple{x:S0}(h:x.good):aG x.val=false:=by
 cases x with
 |leaf l=>exact(cE.1 (SL.val_good (h l (by simp[S0.cells])))).2.2.2
 |agg cs=>rfl
theorem S0.cells_ok{x:S0}(h:x.good):x.val.cells.toList.all aO=true:=by
 rw[S0.cells_val h]
 simp only[List.all_eq_true,List.mem_map]
 rintro _ ⟨l,hl,rfl⟩
 exact kJ (SL.val_good (h l hl))
theorem cells_ok'{cs:List SL}(h:∀l∈cs,l.good):(cs.map SL.val).all aO=true:=by
 simp only[List.all_eq_true,List.mem_map]
 rintro _ ⟨l,hl,rfl⟩
 exact kJ (SL.val_good (h l hl))
theorem pm{v:Value}(h:scalar v=true):bK v=true:=by
 cases v<;>first|rfl|(simp[scalar]at h;done)|skip
 case pointer a=>cases a<;>first|rfl|simp[scalar]at h
 case slice a l c=>
  cases a with
  |none=>rfl
  |some a=>cases l<;>cases c<;>simp[scalar]at h
theorem mN(v:Value):(slOf v).val=v:=by cases v<;>rfl
theorem jG{v:Value}(h:scalar v=true):(slOf v).good:=by
 cases v<;>first|trivial|exact pm h
theorem mJ{v:Value}{x:S0}(h:s0Of v=some x):x.val=v∧x.good∧dD v=true:=by
 unfold s0Of at h
 split at h
 ·rename_i cs
  split at h
  ·rename_i ha
   cases h
   refine⟨?_,?_,ha⟩
   ·simp only[S0.val,List.map_map,Value.agg.injEq]
    have:(SL.val ∘ slOf)=id:=funext mN
    rw[this,List.map_id]
   ·intro l hl
    simp only[S0.cells,List.mem_map]at hl
    obtain⟨v,hv,rfl⟩:=hl
    exact jG (List.all_eq_true.1 ha v hv)
  ·cases h
 ·rename_i hne
  split at h
  ·rename_i hs
   cases h
   refine⟨mN v,?_,?_⟩
   ·intro l hl
    simp only[S0.cells,List.mem_singleton]at hl
    subst hl
    exact jG hs
   ·cases v<;>first|exact hs|exact absurd rfl (hne _)
  ·cases h
theorem ch{a b:IntKind}(h:dy a b=true):a=b:=by
 cases a<;>cases b<;>first|rfl|cases h
theorem cw(a:IntKind):dy a a=true:=by cases a<;>rfl
section
variable [Val] [Kno]
def Told(sks:List SK)(ls:List Lf)(xs:List S0):Prop:=bo xs sks=true∧bv xs=ls∧∀x∈xs,x.good
def cC(C:Cfg)(Sg:FuncId→Option Sig)(g:FuncId)(ls:List Lf)(H:List HObj)(rs:List Lf)(H':List HObj):Prop:=
 ∃sg xs ys,Sg g=some sg∧Told sg.ps ls xs∧Told sg.rs rs ys∧fY C g (ah xs) H (dF (ah ys)) H'
def CallV(C:Cfg)(v:Value)(args:List Value)(hs:List SK)(H:List HObj)(rs:List Lf)(H':List HObj):Prop:=
 ∃ys,Told hs rs ys∧((∃g first cap,v = .func (.func g) first cap∧fY C g (first.toList++args++cap.toList) H (dF (ah ys)) H')∨
  (∃l,v = .func (.yield l) #[] #[]∧gc C l args H (dF (ah ys)) H'))
noncomputable def jR(nt:Nat):List (Nat×SK)→List Value→List Value→List Value
 |(t,_) :: l,v :: vs,tm=>jR nt l vs (tm.set t v)
 |_,_,tm=>tm
noncomputable def lpOf(s:Site)(κ:Nat)(vals:List Value):ALoop:=
 { state:=.ready,pending:=none,fn:=κ,tmps:=jR s.nt s.caps vals (List.replicate s.nt poison),params:=s.params.map (·.1),assign:=s.assign.erase kV,body:=s.body.erase kV }
noncomputable def lX:Lf→Lf→Bool
 | .i a,.i b=>a==b
 | .b a,.b b=>a==b
 |_,_=>false
noncomputable def fk(l:List (Lf×Lf)):Bool:=l.all fun p=>lX p.1 p.2
def ShRun(op:BinOp)(k:IntKind)(x:Int)(k':IntKind)(y n:Int):Prop:=∀(P:Program) (t:TypeId) (w:World),(binOp op t (.int k x) (.int k' y)).run P w = .ok (.int k n) w
structure AlgOk{R HT:Type}(A:Alg R HT)(C:Cfg)(Sg:FuncId→Option Sig)(T:Nat→Site)(holds:R→Prop)(abs:HT→List HObj):Prop where
 fail:¬holds A.fail
 cond:∀b x y,holds (A.cond b x y)→(b=true∧holds x)∨(b=false∧holds y)
 ari:∀op k a b K,holds (A.ari op k a b K)→∃n,qB op k a b n∧holds (K n)
 shf:∀op k a k' b K,holds (A.shf op k a k' b K)→∃n,ShRun op k a k' b n∧holds (K n)
 cmp:∀op a b K,holds (A.cmp op a b K)→∃t,kz op a b=some t∧holds (K t)
 eqs:∀l K,holds (A.eqs l K)→holds (K (fk l))
 conv:∀k a K,holds (A.conv k a K)→holds (K (k.wrap a))
 sel:∀t a b K,holds (A.sel t a b K)→holds (K (if t then a else b))
 opt:∀ {α:Type} (o:Option α) K,holds (A.opt o K)→∃x,o=some x∧holds (K x)
 chk:∀v K,holds (A.chk v K)→bK v=true∧holds K
 unI:∀ls K,holds (A.unI ls K)→∃n r,ls = .i n :: r∧holds (K n r)
 unB:∀ls K,holds (A.unB ls K)→∃t r,ls = .b t :: r∧holds (K t r)
 unV:∀ls K,holds (A.unV ls K)→∃x r,ls = .v x :: r∧holds (K x r)
 un0:∀ls K,holds (A.un0 ls K)→ls=[]∧holds K
 ucI:∀k ls K,holds (A.ucI k ls K)→∃n r,ls = .int k n :: r∧holds (K n r)
 ucB:∀ls K,holds (A.ucB ls K)→∃t r,ls = .bool t :: r∧holds (K t r)
 ucV:∀ls K,holds (A.ucV ls K)→∃x r,ls=x :: r∧holds (K x r)
 uc0:∀ls K,holds (A.uc0 ls K)→ls=[]∧holds K
 peek:∀f h K,holds (A.peek f h K)→∃cs,f.run (fun i=>(abs h)[i]?)=some cs∧holds (K cs)
 heap:∀f h K,holds (A.heap f h K)→∃acts cs h',f.run (fun i=>(abs h)[i]?) (abs h).length=some (acts,cs)∧abs h'=eg (abs h) acts∧holds (K cs h')
 new:∀o h K,holds (A.new o h K)→∃h',abs h'=abs h++[o]∧holds (K (abs h).length h')
 call:∀g ls h K,holds (A.call g ls h K)→∃rs h',cC C Sg g ls (abs h) rs (abs h')∧holds (K rs h')
 callv:∀v args hs h K,holds (A.callv v args hs h K)→∃rs h',CallV C v args hs (abs h) rs (abs h')∧holds (K rs h')
 join:∀b m,holds (A.join b m)→holds (m b)
 loop:∀F ls h,holds (A.loop F ls h)→∃it:Nat→List Lf→HT→R,(∀ls h,¬holds (it 0 ls h))∧(∀n ls h,it (n+1) ls h=F (it n) ls h)∧∃n,holds (it n ls h)
 rfun:∀κ v vals h K,holds (A.rfun κ v vals h K)→∃g first cap r H1 lp h2,v = .func (.func g) first cap∧
  fY C g (first.toList++[.func (.yield (abs h).length) #[] #[]]++cap.toList) (abs h++[.loop (lpOf (T κ) κ vals)]) r H1∧
  ee H1 (abs h).length=some lp∧lp.state≠.busy∧abs h2=H1.set (abs h).length (.loop { lp with state:=.exhausted })∧holds (K lp.pending h2)
 pend:∀pd kn kr ks,holds (A.pend pd kn kr ks)→(pd=none∧holds kn)∨(pd=some .ret∧holds kr)∨∃id x,pd=some (.exit id)∧(id,x)∈ks∧holds x
 lp1:∀l h K,holds (A.lp1 l h K)→∃lp h',ee (abs h) l=some lp∧lp.state = .ready∧abs h'=(abs h).set l (.loop { lp with state:=.busy })∧holds (K h')
 lp2:∀l j h K,holds (A.lp2 l j h K)→∃lp h',ee (abs h) l=some lp∧abs h'=(abs h).set l (.loop { lp with state:=if j.isNone then .ready else .done,pending:=j })∧holds (K h')
def SV.ok(tmps:List Value)(i:Nat)(s:SV):Prop:=
 match s with
 | .no=>True
 |s=>tmps[i]? = some s.val∧s.gd
noncomputable def LR.ok(loc:List (Option (List Value)))(i:Nat):LR→Prop
 | .unk=>True
 | .nil=>loc[i]? = some none
 | .any n=>∃vs,loc[i]? = some (some vs)∧vs.length=n
 | .row cs=>loc[i]? = some (some (cs.map SL.val))∧∀c∈cs,c.good
structure Rp(ev:Env)(σ:St):Prop where
 len:ev.tm.length=σ.tmps.length
 val:∀(i:Nat) s,ev.tm[i]? = some s→s.ok σ.tmps i
 llen:ev.lc.length=σ.loc.length
 row:∀(i:Nat) r,ev.lc[i]? = some r→r.ok σ.loc i
theorem SV.ok_gd{tmps:List Value}{i:Nat}{s:SV}(h:s.gd)(hv:tmps[i]? = some s.val):s.ok tmps i:=by
 cases s<;>first|trivial|exact⟨hv,h⟩
theorem Rp.at{ev:Env}{σ:St}(h:Rp ev σ){t:Nat}{s:SV}(hs:ev.tm.getD t .no=s)(hn:s≠.no):σ.tmps[t]? = some s.val∧s.gd:=by
 rw[List.getD_eq_getElem?_getD]at hs
 cases he:ev.tm[t]? with
 |none=>rw[he]at hs;exact absurd hs.symm hn
 |some x=>
  rw[he]at hs
  simp only[Option.getD_some]at hs
  subst hs
  have:=h.val t x he
  cases x<;>first|exact this|exact absurd rfl hn
theorem Rp.sval{ev:Env}{σ:St}(h:Rp ev σ){x:Operand}{s:SV}(hs:sval ev x=s)(hn:s≠.no):oval σ.tmps x=s.val∧s.gd:=by
 cases x with
 |tmp t=>
  obtain⟨h1,h2⟩:=h.at (t:=t) hs hn
  exact⟨by simp[oval,List.getD_eq_getElem?_getD,h1],h2⟩
 |const v=>
  simp only[Am.sval]at hs
  cases hv:s0Of v with
  |none=>rw[hv]at hs;exact absurd hs.symm hn
  |some x=>
   rw[hv]at hs
   subst hs
   obtain⟨h1,h2,h3⟩:=mJ hv
   refine⟨?_,h2⟩
   have:flat v=true:=by cases v<;>first|exact h3|(simp[dD,scalar]at h3)
   simp[oval,this,SV.val,h1]
 |global g=>
  subst hs
  simp only[Am.sval,oval]
  cases hb:Nat.blt g gB with
  |true=>exact⟨rfl,trivial⟩
  |false=>exact absurd (by simp only[Am.sval,hb]) hn
 |func f=>
  subst hs
  refine⟨rfl,fun l hl=>?_⟩
  simp only[S0.cells,List.mem_singleton]at hl
  subst hl
  rfl
theorem Rp.sval0{ev:Env}{σ:St}(h:Rp ev σ){x:Operand}{s:S0}(hs:sval0 ev x=some s):oval σ.tmps x=s.val∧s.good:=by
 unfold Am.sval0 at hs
 split at hs
 ·rename_i y e
  cases hs
  exact h.sval e (by simp)
 ·cases hs
theorem Rp.svals{ev:Env}{σ:St}(h:Rp ev σ):∀ {l:List Operand} {xs:List S0},svals ev l=some xs→l.map (oval σ.tmps)=ah xs∧∀x∈xs,x.good
 | [],xs,hs=>by cases hs;exact⟨rfl,by simp⟩
 |o :: l,xs,hs=>by
  simp only[Am.svals]at hs
  split at hs
  ·rename_i x ys e1 e2
   cases hs
   obtain⟨h1,h2⟩:=h.sval0 e1
   obtain⟨h3,h4⟩:=h.svals e2
   refine⟨by simp[ah,h1];exact h3,fun y hy=>?_⟩
   rcases List.mem_cons.1 hy with rfl|hy
   ·exact h2
   ·exact h4 y hy
  ·cases hs
theorem Rp.put{ev:Env}{σ:St}(h:Rp ev σ)(d:Nat){s:SV}(hs:s.gd):Rp ⟨ev.tm.set d s,ev.lc⟩ (σ.put (some d) s.val):=by
 refine⟨by simp[St.put,h.len],fun i x hx=>?_,h.llen,h.row⟩
 simp only[List.getElem?_set]at hx
 split at hx
 ·rename_i hi
  subst hi
  split at hx
  ·rename_i hlt
   cases hx
   refine SV.ok_gd hs ?_
   simp only[St.put,List.getElem?_set_self']
   rw[List.getElem?_eq_getElem (by rw[←h.len];exact hlt)]
   rfl
  ·cases hx
 ·rename_i hi
  have:=h.val i x hx
  cases x<;>first|trivial|exact⟨by simp only[St.put];rw[List.getElem?_set_ne hi];exact this.1,this.2⟩
theorem Rp.heap{ev:Env}{σ:St}(h:Rp ev σ)(H:List HObj):Rp ev { σ with heap:=H }:=⟨h.len,h.val,h.llen,h.row⟩
structure Fr(ws ks rs:List Nat)(σ σ':St):Prop where
 tlen:σ'.tmps.length=σ.tmps.length
 llen:σ'.loc.length=σ.loc.length
 tm:∀(i:Nat) v,σ.tmps[i]? = some v→i∉ws→noLoc v=true→σ'.tmps[i]? = some v
 tp:∀(i s off:Nat),σ.tmps[i]? = some (.pointer (some ⟨s,off,some 0⟩))→i∉ws→s∉ks→σ'.tmps[i]? = some (.pointer (some ⟨s,off,some 0⟩))
 row:∀(s:Nat) x,σ.loc[s]? = some x→s∉rs→σ'.loc[s]? = some x
 rlen:∀(s:Nat) vs,σ.loc[s]? = some (some vs)→s∉ks→∃vs',σ'.loc[s]? = some (some vs')∧vs'.length=vs.length
theorem Fr.refl(ws ks rs:List Nat)(σ:St):Fr ws ks rs σ σ:=⟨rfl,rfl,fun _ _ h _ _=>h,fun _ _ _ h _ _=>h,fun _ _ h _=>h,fun _ vs h _=>⟨vs,h,rfl⟩⟩
theorem Fr.trans{ws ks rs:List Nat}{σ σ₁ σ':St}(h:Fr ws ks rs σ σ₁)(h':Fr ws ks rs σ₁ σ'):Fr ws ks rs σ σ':=
 ⟨h'.tlen.trans h.tlen,h'.llen.trans h.llen,fun i v a b c=>h'.tm i v (h.tm i v a b c) b c,fun i s off a b c=>h'.tp i s off (h.tp i s off a b c) b c,
  fun s x a b=>h'.row s x (h.row s x a b) b,fun s vs a b=>let ⟨v1,c1,d1⟩:=h.rlen s vs a b;let ⟨v2,c2,d2⟩:=h'.rlen s v1 c1 b;⟨v2,c2,d2.trans d1⟩⟩
theorem Fr.mono{ws ks rs ws' ks' rs':List Nat}{σ σ':St}(h:Fr ws ks rs σ σ')(h1:∀i∈ws,i∈ws')(h2:∀i∈ks,i∈ks')(h3:∀i∈rs,i∈rs'):Fr ws' ks' rs' σ σ':=
 ⟨h.tlen,h.llen,fun i v a b c=>h.tm i v a (fun hi=>b (h1 i hi)) c,fun i s off a b c=>h.tp i s off a (fun hi=>b (h1 i hi)) (fun hi=>c (h2 s hi)),
  fun s x a b=>h.row s x a (fun hi=>b (h3 s hi)),fun s vs a b=>h.rlen s vs a (fun hi=>b (h2 s hi))⟩
theorem Fr.heap{ws ks rs:List Nat}{σ σ':St}(h:Fr ws ks rs σ σ')(H:List HObj):Fr ws ks rs σ { σ' with heap:=H }:=⟨h.tlen,h.llen,h.tm,h.tp,h.row,h.rlen⟩
theorem Fr.put{σ:St}(dst:Option Tmp)(v:Value)(ks rs:List Nat):Fr dst.toList ks rs σ (σ.put dst v):=by
 cases dst with
 |none=>exact .refl _ _ _ _
 |some d=>
  refine⟨by simp[St.put],rfl,fun i x h hi _=>?_,fun i s off h hi _=>?_,fun _ _ h _=>h,fun _ vs h _=>⟨vs,h,rfl⟩⟩<;>
  ·simp only[Option.toList_some,List.mem_singleton]at hi
   simp only[St.put]
   rw[List.getElem?_set_ne (fun e=>hi e.symm)]
   exact h
end
end Go.Am

/-
 HEAPS AS TREES: what lies at a number is found,and put,in few steps;lists that are forced.
-/
namespace Go.Am
inductive HO where
 |o (x:HObj)
 |lp (κ:Nat) (st:LoopState) (pd:Option Code) (vs:List Value)
abbrev HL:=List HO
inductive CK where
 |f (g:FuncId)
 |y (κ:Nat) (vs:List Value) (l:Nat)
noncomputable def absO(T:Nat→Site):HO→HObj
 | .o x=>x
 | .lp κ st pd vs=>.loop { lpOf (T κ) κ vs with state:=st,pending:=pd }
noncomputable def absH(T:Nat→Site)(h:HL):List HObj:=h.map (absO T)
namespace Sx
inductive HOT where
 |o (x:HObj)
 |lp (κ:Nat) (st:LoopState) (pd:Option Code) (vs:List Value)
 |t (n e:Nat) (rw:Bool) (c:Tr Value)
noncomputable def nilV:Value:=.bool false
noncomputable def aY(c:Tr Value)(n:Nat):List Value:=(List.range n).map fun i=>(aS i).get nilV c
noncomputable def HOT.ho:HOT→HO
 | .o x=>.o x
 | .lp κ st pd vs=>.lp κ st pd vs
 | .t n e rw c=>.o (.cells (aY c n) e rw)
structure HTr where
 n:Nat
 t:Tr HOT
noncomputable def noO:HOT:=.o .dead
noncomputable def HTr.empty:HTr:=⟨0,.leaf⟩
noncomputable def HTr.at(h:HTr)(i:Nat):Option HOT:=match Nat.blt i h.n with
 |true=>some ((aS i).get noO h.t)
 |false=>none
noncomputable def toL(h:HTr):HL:=(List.range h.n).map fun i=>((aS i).get noO h.t).ho
theorem bQ(h:HTr):(toL h).length=h.n:=by simp[toL]
theorem fx(h:HTr)(i:Nat):(toL h)[i]? = (h.at i).map HOT.ho:=by
 unfold toL HTr.at
 rw[List.getElem?_map]
 cases e:Nat.blt i h.n with
 |true=>
  rw[Nat.blt_eq]at e
  rw[List.getElem?_range e];rfl
 |false=>
  have:h.n≤i:=by
   rcases Nat.lt_or_ge i h.n with h1|h1
   ·rw[←Nat.blt_eq,e]at h1;cases h1
   ·exact h1
  rw[List.getElem?_eq_none (by simpa using this)];rfl
noncomputable def HTr.put(h:HTr)(i:Nat)(o:HOT):HTr:=match Nat.blt i h.n with
 |true=>⟨h.n,(aS i).set noO h.t o⟩
 |false=>h
noncomputable def HTr.push(h:HTr)(o:HOT):HTr:=⟨h.n+1,(aS h.n).set noO h.t o⟩
theorem eL(h:HTr)(i:Nat)(o:HOT):toL (h.put i o)=(toL h).set i o.ho:=by
 apply List.ext_getElem?
 intro j
 unfold HTr.put
 cases e:Nat.blt i h.n with
 |true=>
  rw[Nat.blt_eq]at e
  simp only
  rw[fx]
  by_cases hj:i=j
  ·subst hj
   rw[List.getElem?_set_self (by rw[bQ];exact e)]
   unfold HTr.at
   simp only[(Nat.blt_eq▸e:Nat.blt i h.n=true)]
   rw[Pth.get_set];rfl
  ·rw[List.getElem?_set_ne hj,fx]
   unfold HTr.at
   simp only
   rw[Pth.get_set_ne _ _ _ _ _ (fun h=>hj (gI h).symm)]
 |false=>
  simp only
  have:h.n≤i:=by
   rcases Nat.lt_or_ge i h.n with h1|h1
   ·rw[←Nat.blt_eq,e]at h1;cases h1
   ·exact h1
  rw[List.set_eq_of_length_le (by rw[bQ];exact this)]
theorem dt(h:HTr)(o:HOT):toL (h.push o)=toL h++[o.ho]:=by
 apply List.ext_getElem?
 intro j
 rw[fx]
 unfold HTr.push HTr.at
 simp only
 by_cases h1:j<h.n
 ·rw[List.getElem?_append_left (by rw[bQ];exact h1),fx]
  unfold HTr.at
  have e1:Nat.blt j (h.n+1)=true:=by rw[Nat.blt_eq];omega
  have e2:Nat.blt j h.n=true:=by rw[Nat.blt_eq];omega
  simp only[e1,e2]
  rw[Pth.get_set_ne _ _ _ _ _ (fun h=>by have:=gI h;omega)]
 ·rw[List.getElem?_append_right (by rw[bQ];omega),bQ]
  by_cases h2:j=h.n
  ·subst h2
   have e1:Nat.blt h.n (h.n+1)=true:=by rw[Nat.blt_eq];omega
   simp only[e1,Nat.sub_self,List.getElem?_cons_zero]
   rw[Pth.get_set];rfl
  ·have e1:Nat.blt j (h.n+1)=false:=by rw[←Bool.not_eq_true,Nat.blt_eq];omega
   simp only[e1]
   rw[List.getElem?_eq_none (by simp;omega)];rfl
theorem aK(c:Tr Value)(n:Nat):(aY c n).length=n:=by simp[aY]
theorem cu(c:Tr Value){n i:Nat}(h:i<n):(aY c n)[i]? = some ((aS i).get nilV c):=by
 unfold aY
 rw[List.getElem?_map,List.getElem?_range h];rfl
noncomputable def insT:List Value→Nat→Tr Value→Tr Value
 | [],_,c=>c
 |v :: l,i,c=>insT l (i+1) ((aS i).set nilV c v)
theorem mm:∀(l:List Value) (i:Nat) (c:Tr Value) (j:Nat),(aS j).get nilV (insT l i c)=if i≤j∧j<i+l.length then l[j - i]?.getD nilV else(aS j).get nilV c
 | [],i,c,j=>by
  have h:¬(i≤j∧j<i+([]:List Value).length):=by intro h;have:=h.2;simp at this;omega
  rw[if_neg h];rfl
 |v :: l,i,c,j=>by
  show(aS j).get nilV (insT l (i+1) _)=_
  rw[mm l (i+1)]
  by_cases h:i+1≤j∧j<i+1+l.length
  ·rw[if_pos h,if_pos (by simp;omega)]
   have:j - i=(j - (i+1))+1:=by omega
   rw[this,List.getElem?_cons_succ]
  ·rw[if_neg h]
   by_cases h2:j=i
   ·subst h2
    rw[Pth.get_set,if_pos (by simp)];simp
   ·rw[Pth.get_set_ne _ _ _ _ _ (fun e=>h2 (gI e)),if_neg (by simp;omega)]
theorem ku{l:List Value}{i n:Nat}{c:Tr Value}(h:i+l.length≤n):aY (insT l i c) n=(aY c n).take i++l++(aY c n).drop (i+l.length):=by
 apply List.ext_getElem?
 intro j
 by_cases hj:j<n
 ·rw[cu _ hj,mm]
  by_cases h1:j<i
  ·rw[if_neg (by omega),List.append_assoc,List.getElem?_append_left (by rw[List.length_take,aK];omega),List.getElem?_take_of_lt h1,cu _ hj]
  ·have hl:((aY c n).take i).length=i:=by rw[List.length_take,aK];omega
   by_cases h2:j<i+l.length
   ·rw[if_pos ⟨by omega,h2⟩,List.append_assoc,List.getElem?_append_right (by omega),hl,List.getElem?_append_left (by omega)]
    rw[List.getElem?_eq_getElem (by omega)];rfl
   ·rw[if_neg (by omega),List.getElem?_append_right (by rw[List.length_append,hl];omega),List.length_append,hl,List.getElem?_drop,show i+l.length+(j - (i+l.length))=j by omega,cu _ hj]
 ·rw[List.getElem?_eq_none (by rw[aK];omega),List.getElem?_eq_none (by simp[aK];omega)]
theorem iN{l:List Value}{n:Nat}{c:Tr Value}:aY (insT l n c) (n+l.length)=aY c n++l:=by
 apply List.ext_getElem?
 intro j
 by_cases hj:j<n+l.length
 ·rw[cu _ hj,mm]
  by_cases h1:j<n
  ·rw[if_neg (by omega),List.getElem?_append_left (by rw[aK];exact h1),cu _ h1]
  ·rw[if_pos ⟨by omega,hj⟩,List.getElem?_append_right (by rw[aK];omega),aK,List.getElem?_eq_getElem (by omega)];rfl
 ·rw[List.getElem?_eq_none (by rw[aK];omega),List.getElem?_eq_none (by simp[aK];omega)]
theorem qG(l:List Value):aY (insT l 0 .leaf) l.length=l:=by
 have:=iN (l:=l) (n:=0) (c:=.leaf)
 simpa[aY]using this
noncomputable def re(c:Tr Value)(n:Nat):Nat→List Value:=Nat.rec (motive:=fun _=>Nat→List Value) (fun _=>[]) (fun _ ih off=>(aS off).get nilV c :: fN (Nat.succ off) ih) n
theorem fT(c:Tr Value):∀(n off m:Nat),off+n≤m→re c n off=((aY c m).drop off).take n
 |0,_,_,_=>by rw[List.take_zero];rfl
 |n+1,off,m,h=>by
  show(aS off).get nilV c :: re c n (off+1)=_
  rw[fT c n (off+1) m (by omega)]
  have h1:off<(aY c m).length:=by rw[aK];omega
  rw[List.drop_eq_getElem_cons h1,List.take_succ_cons]
  congr 1
  have:=cu c (n:=m) (i:=off) (by omega)
  rw[List.getElem?_eq_getElem h1]at this
  exact(Option.some.inj this).symm
section
variable {R:Type}
noncomputable def putR{α:Type}(d:α)(p:Pth):Tr α→α→(Tr α→R)→R:=
 Pth.rec (motive:=fun _=>Tr α→α→(Tr α→R)→R)
  (fun t x k=>Tr.casesOn t (k (.node x .leaf .leaf)) fun _ l r=>k (.node x l r))
  (fun _ ih t x k=>Tr.casesOn t (ih .leaf x fun l=>k (.node d l .leaf)) fun v l r=>ih l x fun l=>k (.node v l r))
  (fun _ ih t x k=>Tr.casesOn t (ih .leaf x fun r=>k (.node d .leaf r)) fun v l r=>ih r x fun r=>k (.node v l r)) p
theorem ft{α:Type}(d:α):∀(p:Pth) (t:Tr α) (x:α) (k:Tr α→R),putR d p t x k=k (p.set d t x)
 | .e,t,x,k=>by cases t<;>rfl
 | .o p,t,x,k=>by
  cases t with
  |leaf=>exact ft d p .leaf x _
  |node v l r=>exact ft d p l x _
 | .i p,t,x,k=>by
  cases t with
  |leaf=>exact ft d p .leaf x _
  |node v l r=>exact ft d p r x _
noncomputable def putK(h:HTr)(i:Nat)(o:HOT)(k:HTr→R):R:=match Nat.blt i h.n with
 |true=>putR noO (aS i) h.t o fun t=>k ⟨h.n,t⟩
 |false=>k h
noncomputable def eG(h:HTr)(o:HOT)(k:HTr→R):R:=putR noO (aS h.n) h.t o fun t=>fN (Nat.succ h.n) fun n=>k ⟨n,t⟩
theorem eH(h:HTr)(i:Nat)(o:HOT)(k:HTr→R):putK h i o k=k (h.put i o):=by
 unfold putK HTr.put
 split
 ·rename_i e;rw[ft]
 ·rfl
theorem dn(h:HTr)(o:HOT)(k:HTr→R):eG h o k=k (h.push o):=by
 unfold eG HTr.push
 rw[ft,ed]
noncomputable def qf{α:Type}(l:List α):(List α→R)→R:=
 List.rec (motive:=fun _=>(List α→R)→R) (fun k=>k []) (fun x _ ih k=>ih fun l=>k (x :: l)) l
theorem jy{α:Type}:∀(l:List α) (k:List α→R),qf l k=k l
 | [],_=>rfl
 |x :: l,k=>jy l fun l=>k (x :: l)
noncomputable def qg(v:Value)(k:Value→R):R:=match v with
 | .int kd n=>fI n fun n=>k (.int kd n)
 | .bool b=>Bool.rec (k (.bool false)) (k (.bool true)) b
 |v=>k v
theorem plainV_eq(v:Value)(k:Value→R):qg v k=k v:=by
 unfold qg
 split
 ·exact fJ _ _
 ·rename_i b;cases b<;>rfl
 ·rfl
noncomputable def insK(l:List Value):Nat→Tr Value→(Tr Value→R)→R:=
 List.rec (motive:=fun _=>Nat→Tr Value→(Tr Value→R)→R) (fun _ c k=>k c) (fun v _ ih i c k=>qg v fun v=>putR nilV (aS i) c v fun c=>fN (Nat.succ i) fun i=>ih i c k) l
theorem jg:∀(l:List Value) (i:Nat) (c:Tr Value) (k:Tr Value→R),insK l i c k=k (insT l i c)
 | [],_,_,_=>rfl
 |v :: l,i,c,k=>by
  show(qg v fun v=>putR nilV (aS i) c v fun c=>fN (Nat.succ i) fun i=>insK l i c k)=_
  rw[plainV_eq,ft,ed,jg l];rfl
noncomputable def jT(o:HObj)(k:HOT→R):R:=match o with
 | .cells vs e rw=>fN vs.length fun n=>insK vs 0 .leaf fun c=>k (.t n e rw c)
 | .map es c=>qf es fun es=>fN c fun c=>k (.o (.map es c))
 |o=>k (.o o)
theorem eQ{o:HObj}{k:HOT→R}:∃x:HOT,x.ho = .o o∧jT o k=k x:=by
 cases o with
 |cells vs e rw=>
  refine⟨.t vs.length e rw (insT vs 0 .leaf),by simp only[HOT.ho,qG],?_⟩
  show(fN vs.length fun n=>insK vs 0 .leaf fun c=>k (.t n e rw c))=_
  rw[ed,jg]
 |map es c=>
  refine⟨.o (.map es c),rfl,?_⟩
  show(qf es fun es=>fN c fun c=>k (.o (.map es c)))=_
  rw[jy,ed]
 |_=>exact⟨.o _,rfl,rfl⟩
noncomputable def mC(l:List Lf):(List Lf→R)→R:=
 List.rec (motive:=fun _=>(List Lf→R)→R) (fun k=>k []) (fun x _ ih k=>match x with
  | .i n=>fI n fun n=>ih fun l=>k (.i n :: l)
  | .b t=>Bool.rec (ih fun l=>k (.b false :: l)) (ih fun l=>k (.b true :: l)) t
  | .v v=>ih fun l=>k (.v v :: l)) l
theorem cT:∀(l:List Lf) (k:List Lf→R),mC l k=k l
 | [],_=>rfl
 | .i n :: l,k=>(fJ n fun n=>mC l fun l=>k (.i n :: l)).trans (cT l _)
 | .b true :: l,k=>cT l fun l=>k (.b true :: l)
 | .b false :: l,k=>cT l fun l=>k (.b false :: l)
 | .v v :: l,k=>cT l fun l=>k (.v v :: l)
end
end Sx
end Go.Am

/-
 THE ALGEBRA OF RUNS: a run that the kernel makes.
-/
namespace Go.Am
section
open Sx
abbrev RT:=Option (List Lf)
abbrev yes:RT:=some []
noncomputable def ans(b:Bool):RT:=match b with|true=>yes|false=>none
abbrev aa:=CK→List Lf→HTr→(List Lf→HTr→RT)→RT
noncomputable def Act1.onH(h:HL):Act1→HL
 | .set i o=>h.set i (.o o)
 | .push o=>h++[.o o]
noncomputable def gi(h:HL)(l:List Act1):HL:=l.foldl Act1.onH h
noncomputable def getH(T:Nat→Site)(h:HL):bm:=fun i=>match h[i]? with
 |some x=>some (absO T x)
 |none=>none
noncomputable def getT(T:Nat→Site)(h:HTr):bm:=fun i=>match h.at i with
 |some x=>some (absO T x.ho)
 |none=>none
noncomputable def qC(l:List Act1):HTr→(HTr→RT)→RT:=
 List.rec (motive:=fun _=>HTr→(HTr→RT)→RT) (fun h k=>k h) (fun a _ ih h k=>match a with
  | .set i o=>jT o fun o=>putK h i o fun h=>ih h k
  | .push o=>jT o fun o=>eG h o fun h=>ih h k) l
noncomputable def condB(b:Bool)(x y:RT):RT:=Bool.rec y x b
noncomputable def outG(k:IntKind)(c:Int)(K:Int→RT):RT:=Bool.rec (fI (k.wrap c) K) (K c) (fits k c)
noncomputable def out64(c:Int)(K:Int→RT):RT:=@Bool.rec (fun _=>RT) (fI (IntKind.wrap .i64 c) K) (K c) (@Int.rec (fun _=>Bool) (fun n=>Nat.ble n 9223372036854775807) (fun n=>Nat.ble n 9223372036854775807) c)
noncomputable def outU8(c:Int)(K:Int→RT):RT:=@Bool.rec (fun _=>RT) (fI (IntKind.wrap .u8 c) K) (K c) (@Int.rec (fun _=>Bool) (fun n=>Nat.ble n 255) (fun _=>false) c)
noncomputable def outK(k:IntKind)(c:Int)(K:Int→RT):RT:=@IntKind.rec (fun _=>RT) (outG .i8 c K) (outG .i16 c K) (outG .i32 c K) (out64 c K) (outU8 c K) (outG .u16 c K) (outG .u32 c K) (outG .u64 c K) k
noncomputable def addK(a b:Int)(K:Int→RT):RT:=
 Int.rec (fun m=>Int.rec (fun n=>fN (Nat.add m n) fun c=>K (.ofNat c)) (fun n=>Bool.rec (fN (Nat.sub n m) fun c=>K (.negSucc c)) (fN (Nat.sub m (Nat.succ n)) fun c=>K (.ofNat c)) (Nat.blt n m)) b)
  (fun m=>Int.rec (fun n=>Bool.rec (fN (Nat.sub m n) fun c=>K (.negSucc c)) (fN (Nat.sub n (Nat.succ m)) fun c=>K (.ofNat c)) (Nat.blt m n)) (fun n=>fN (Nat.succ (Nat.add m n)) fun c=>K (.negSucc c)) b) a
noncomputable def subK(a b:Int)(K:Int→RT):RT:=
 Int.rec (fun m=>Int.rec (fun n=>Bool.rec (fN (Nat.sub n (Nat.succ m)) fun c=>K (.negSucc c)) (fN (Nat.sub m n) fun c=>K (.ofNat c)) (Nat.ble n m)) (fun n=>fN (Nat.succ (Nat.add m n)) fun c=>K (.ofNat c)) b)
  (fun m=>Int.rec (fun n=>fN (Nat.add m n) fun c=>K (.negSucc c)) (fun n=>Bool.rec (fN (Nat.sub m (Nat.succ n)) fun c=>K (.negSucc c)) (fN (Nat.sub n m) fun c=>K (.ofNat c)) (Nat.ble m n)) b) a
noncomputable def mulK(a b:Int)(K:Int→RT):RT:=
 Int.rec (fun m=>Int.rec (fun n=>fN (Nat.mul m n) fun c=>K (.ofNat c)) (fun n=>Nat.rec (K (.ofNat 0)) (fun m' _=>fN (Nat.add (Nat.mul m n) m') fun c=>K (.negSucc c)) m) b)
  (fun m=>Int.rec (fun n=>Nat.rec (K (.ofNat 0)) (fun n' _=>fN (Nat.add (Nat.mul m n) n') fun c=>K (.negSucc c)) n) (fun n=>fN (Nat.mul (Nat.succ m) (Nat.succ n)) fun c=>K (.ofNat c)) b) a
noncomputable def quoK(a b:Int)(K:Int→RT):RT:=
 Int.rec (fun m=>Int.rec (fun n=>fN (Nat.div m n) fun c=>K (.ofNat c)) (fun _=>fI (Int.tdiv a b) K) b) (fun _=>fI (Int.tdiv a b) K) a
noncomputable def remK(a b:Int)(K:Int→RT):RT:=
 Int.rec (fun m=>Int.rec (fun n=>fN (Nat.mod m n) fun c=>K (.ofNat c)) (fun _=>fI (Int.tmod a b) K) b) (fun _=>fI (Int.tmod a b) K) a
noncomputable def isZ(b:Int):Bool:=Int.rec (fun n=>Nat.beq n 0) (fun _=>false) b
noncomputable def ariB(op:BinOp)(k:IntKind)(a b:Int)(K:Int→RT):RT:=
 match op with
 | .add=>addK a b fun c=>outK k c K
 | .sub=>subK a b fun c=>outK k c K
 | .mul=>mulK a b fun c=>outK k c K
 | .quo=>Bool.rec (quoK a b fun c=>outK k c K) none (isZ b)
 | .rem=>Bool.rec (remK a b K) none (isZ b)
 | .and=>match eqI b 1 with
  |true=>fI (Int.emod a 2) K
  |false=>match a,b with
   | .ofNat m,.ofNat n=>fI (.ofNat (Nat.land m n)) fun c=>outK k c K
   |_,_=>none
 | .xor=>match a,b with
  | .ofNat m,.ofNat n=>fI (.ofNat (Nat.xor m n)) fun c=>outK k c K
  |_,_=>none
 | .or=>match a,b with
  | .ofNat m,.ofNat n=>fI (.ofNat (Nat.lor m n)) fun c=>outK k c K
  |_,_=>none
 |_=>none
noncomputable def eqZK(a b:Int):Bool:=Int.rec (fun m=>Int.rec (fun n=>Nat.beq m n) (fun _=>false) b) (fun m=>Int.rec (fun _=>false) (fun n=>Nat.beq m n) b) a
noncomputable def notK(b:Bool):Bool:=Bool.rec true false b
noncomputable def cmpB(op:BinOp)(a b:Int)(K:Bool→RT):RT:=
 match op with
 | .eql=>K (eqZK a b)
 | .neq=>K (notK (eqZK a b))
 | .lss=>K (notK (leZ b a))
 | .leq=>K (leZ a b)
 | .gtr=>K (notK (leZ a b))
 | .geq=>K (leZ b a)
 |_=>none
noncomputable def eqBK(a b:Bool):Bool:=Bool.rec (notK b) b a
noncomputable def eqLf(x y:Lf):Bool:=Lf.rec (fun a=>Lf.rec (fun b=>eqZK a b) (fun _=>false) (fun _=>false) y) (fun a=>Lf.rec (fun _=>false) (fun b=>eqBK a b) (fun _=>false) y) (fun _=>false) x
noncomputable def eqsV(l:List (Lf×Lf)):Bool:=List.rec true (fun p _ ih=>Bool.rec false ih (eqLf p.1 p.2)) l
noncomputable def eqsB(l:List (Lf×Lf))(K:Bool→RT):RT:=K (eqsV l)
noncomputable def convB(k:IntKind)(a:Int)(K:Int→RT):RT:=outK k a K
noncomputable def selB(t:Bool)(a b:Int)(K:Int→RT):RT:=Bool.rec (K b) (K a) t
noncomputable def optB{α:Type}(o:Option α)(K:α→RT):RT:=Option.rec none K o
noncomputable def unIB(ls:List Lf)(K:Int→List Lf→RT):RT:=List.rec none (fun x r _=>Lf.rec (fun n=>K n r) (fun _=>none) (fun _=>none) x) ls
noncomputable def unBB(ls:List Lf)(K:Bool→List Lf→RT):RT:=List.rec none (fun x r _=>Lf.rec (fun _=>none) (fun n=>K n r) (fun _=>none) x) ls
noncomputable def unVB(ls:List Lf)(K:Value→List Lf→RT):RT:=List.rec none (fun x r _=>Lf.rec (fun _=>none) (fun _=>none) (fun n=>K n r) x) ls
noncomputable def un0B(ls:List Lf)(K:RT):RT:=List.rec K (fun _ _ _=>none) ls
noncomputable def ucIB(k:IntKind)(ls:List Value)(K:Int→List Value→RT):RT:=match ls with | .int k' n :: r=>(match dy k k' with|true=>K n r|false=>none)|_=>none
noncomputable def ucBB(ls:List Value)(K:Bool→List Value→RT):RT:=match ls with | .bool n :: r=>K n r|_=>none
noncomputable def ucVB(ls:List Value)(K:Value→List Value→RT):RT:=match ls with|n :: r=>K n r|_=>none
noncomputable def uc0B(ls:List Value)(K:RT):RT:=match ls with | []=>K|_=>none
noncomputable def spot0(s:Option Nat):Bool:=match s with
 |none=>true
 |some k=>match k with
  |0=>false
  |_=>true
noncomputable def goodF(v:Value):Bool:=match v with
 | .pointer (some a)=>spot0 a.spot
 | .slice (some a) _ _=>spot0 a.spot
 |v=>bK v
noncomputable def chkB(v:Value)(K:RT):RT:=match goodF v with|true=>K|false=>none
noncomputable def lenR{α:Type}(l:List α):Nat:=List.rec 0 (fun _ _ n=>Nat.succ n) l
noncomputable def ldB(n:Nat)(p:Value)(h:HTr)(K:List Value→RT):RT:=match p with
 | .pointer (some a)=>match a.spot with
  |none=>match h.at a.block with
   |some (.t m _ _ c)=>match Nat.ble (Nat.add a.off n) m with
    |true=>K (re c n a.off)
    |false=>none
   |_=>none
  |some _=>none
 |_=>none
noncomputable def lgB(C:Cfg)(n:Nat)(p:Value)(h:HTr)(K:List Value→RT):RT:=match p with
 | .pointer (some a)=>match a.spot with
  |none=>match h.at a.block with
   |some (.t m _ _ c)=>match Nat.ble (Nat.add a.off n) m with
    |true=>K (re c n a.off)
    |false=>none
   |_=>none
  |some k=>match Nat.beq k 1 with
   |true=>match C.G a.block with
    |some vs=>match cutL vs a.off n with
     |some cs=>K cs
     |none=>none
    |none=>none
   |false=>none
 |_=>none
noncomputable def peekB(T:Nat→Site)(f:Pk)(h:HTr)(K:List Value→RT):RT:=match f with
 | .ld n p=>ldB n p h K
 | .lg C n p=>lgB C n p h K
 | .fn f=>match f (getT T h)with|some x=>K x|none=>none
noncomputable def stB(p:Value)(new:List Value)(h:HTr)(K:List Value→HTr→RT):RT:=match p with
 | .pointer (some a)=>match a.spot with
  |none=>match h.at a.block with
   |some (.t m e true c)=>match Nat.ble (Nat.add a.off (lenR new)) m with
    |true=>insK new a.off c fun c=>putK h a.block (.t m e true c) fun h=>K [] h
    |false=>none
   |_=>none
  |some _=>none
 |_=>none
noncomputable def tagB(s:Option Nat)(esz:Nat):Bool:=match s with
 |none=>false
 |some k=>Nat.beq k (Nat.add esz 10)
noncomputable def slB(C:Cfg)(T:Nat→Site)(esz:Nat)(x:Value)(h:HTr)(K:List Value→Nat→RT):RT:=match x with
 | .slice (some a) len _=>match tagB a.spot esz with
  |true=>match h.at a.block with
   |some (.t m e _ c)=>match Nat.beq e esz,Nat.ble (Nat.add a.off (Nat.mul len esz)) m with
    |true,true=>K (re c (Nat.mul len esz) a.off) len
    |_,_=>none
   |_=>none
  |false=>match slG C esz (getT T h) x with
   |some p=>K p.1 p.2
   |none=>none
 |x=>match slG C esz (getT T h) x with
  |some p=>K p.1 p.2
  |none=>none
noncomputable def growB(c:Tr Value)(m off w esz:Nat)(new:List Value)(k:HOT→RT):RT:=match Nat.beq off 0,Nat.beq w m with
 |true,true=>insK new m c fun c=>fN (Nat.add m (lenR new)) fun m=>k (.t m esz true c)
 |_,_=>jT (.cells (re c w off++new) esz true) k
noncomputable def apB(T:Nat→Site)(C:Cfg)(esz bytes:Nat)(s x:Value)(h:HTr)(K:List Value→HTr→RT):RT:=
 slB C T esz x h fun new n=>match s with
  | .slice none 0 0=>match n with
   |0=>K [.slice none 0 0] h
   |n+1=>match cF (n+1) bytes with
    |true=>jT (.cells new esz true) fun o=>eG h o fun h'=>fN (n+1) fun n=>K [.slice (some ⟨h.n,0,tag esz⟩) n 0] h'
    |false=>none
  | .slice (some a) len cx=>match tagB a.spot esz with
   |false=>none
   |true=>match h.at a.block with
    |some (.t m e rw c)=>match Nat.beq e esz,Nat.ble (Nat.add a.off (Nat.mul len esz)) m with
     |true,true=>match cx with
      |0=>match n with
       |0=>K [.slice (some a) len 0] h
       |n+1=>match rw,cF (len+(n+1)) bytes with
        |true,true=>growB c m a.off (Nat.mul len esz) esz new fun o=>putK h a.block (.o .dead) fun h'=>eG h' o fun h''=>fN (len+(n+1)) fun l=>K [.slice (some ⟨h.n,0,tag esz⟩) l 0] h''
        |_,_=>none
      |cap+1=>match Nat.ble (len+n) cap with
       |true=>match rw,Nat.ble (Nat.add (Nat.add a.off (Nat.mul len esz)) (lenR new)) m with
        |true,true=>insK new (Nat.add a.off (Nat.mul len esz)) c fun c=>putK h a.block (.t m e true c) fun h'=>fN (len+n) fun l=>K [.slice (some a) l (cap+1)] h'
        |_,_=>none
       |false=>match cF (len+n) bytes with
        |true=>growB c m a.off (Nat.mul len esz) esz new fun o=>eG h o fun h'=>fN (len+n) fun l=>K [.slice (some ⟨h.n,0,tag esz⟩) l 0] h'
        |false=>none
     |_,_=>none
    |_=>none
  |_=>none
noncomputable def heapB(T:Nat→Site)(f:Hp)(h:HTr)(K:List Value→HTr→RT):RT:=match f with
 | .st p new=>stB p new h K
 | .ap C esz bytes s x=>apB T C esz bytes s x h K
 | .fn f=>match f (getT T h) h.n with|some p=>qf p.2 fun cs=>qC p.1 h fun h=>K cs h|none=>none
noncomputable def newB(o:HObj)(h:HTr)(K:Nat→HTr→RT):RT:=jT o fun o=>eG h o fun h'=>K h.n h'
noncomputable def toSL(k:LK)(v:Value):Option SL:=
 match k with
 | .i k=>match v with
  | .int k' n=>match dy k' k with
   |true=>some (.i k' n)
   |false=>none
  |_=>none
 | .b=>match v with
  | .bool t=>some (.b t)
  |_=>none
 | .v=>match bK v with
  |true=>some (.v v)
  |false=>none
noncomputable def toSLs:List LK→List Value→Option (List SL)
 | [],[]=>some []
 |k :: ks,v :: vs=>match toSL k v with
  |some x=>match toSLs ks vs with
   |some xs=>some (x :: xs)
   |none=>none
  |none=>none
 |_,_=>none
noncomputable def toS0(sk:SK)(v:Value):Option S0:=
 match sk with
 | .leaf k=>(toSL k v).map .leaf
 | .agg ks=>match v with
  | .agg cs=>(toSLs ks cs.toList).map .agg
  |_=>none
noncomputable def toS0s:List SK→List Value→Option (List S0)
 | [],[]=>some []
 |k :: ks,v :: vs=>match toS0 k v with
  |some x=>match toS0s ks vs with
   |some xs=>some (x :: xs)
   |none=>none
  |none=>none
 |_,_=>none
noncomputable def eqLK:LK→LK→Bool
 | .i a,.i b=>dy a b
 | .b,.b=>true
 | .v,.v=>true
 |_,_=>false
noncomputable def eqLKs:List LK→List LK→Bool
 | [],[]=>true
 |a :: l,b :: m=>eqLK a b&&eqLKs l m
 |_,_=>false
noncomputable def eqSK:SK→SK→Bool
 | .leaf a,.leaf b=>eqLK a b
 | .agg a,.agg b=>eqLKs a b
 |_,_=>false
noncomputable def eqSKs:List SK→List SK→Bool
 | [],[]=>true
 |a :: l,b :: m=>eqSK a b&&eqSKs l m
 |_,_=>false
noncomputable def nF(ls:List Lf):Bool:=List.rec true (fun l _ ih=>match l with
 | .v x=>(match goodF x with
  |true=>ih
  |false=>false)
 |_=>ih) ls
section
variable (Sg:FuncId→Option Sig) (T:Nat→Site) (call:aa)
noncomputable def callB(g:FuncId)(ls:List Lf)(h:HTr)(K:List Lf→HTr→RT):RT:=match nF ls with|true=>call (.f g) ls h K|false=>none
noncomputable def ip(g:FuncId)(hs:Option (List SK))(vals:List Value)(h:HTr)(K:List Lf→HTr→RT):RT:=
 match Sg g with
 |none=>none
 |some sg=>match (match hs with|none=>true|some hs=>eqSKs sg.rs hs)with
  |false=>none
  |true=>match toS0s sg.ps vals with
   |none=>none
   |some xs=>callB call g (bv xs) h K
noncomputable def callvB(v:Value)(args:List Value)(hs:List SK)(h:HTr)(K:List Lf→HTr→RT):RT:=
 match v with
 | .func fn first cap=>match fn with
  | .func g=>ip Sg call g (some hs) (first.toList++args++cap.toList) h K
  | .yield l=>match first.toList,cap.toList with
   | [],[]=>match h.at l with
    |some (.lp κ _ _ vs)=>match eqSKs [.leaf .b] hs with
     |false=>none
     |true=>match toS0s ((T κ).params.map (·.2)) args with
      |none=>none
      |some xs=>match nF (bv xs)with
       |true=>call (.y κ vs l) (bv xs) h K
       |false=>none
    |_=>none
   |_,_=>none
  |_=>none
 |_=>none
noncomputable def rfunB(κ:Nat)(v:Value)(vals:List Value)(h:HTr)(K:Option Code→HTr→RT):RT:=
 match v with
 | .func fn first cap=>match fn with
  | .func g=>eG h (.lp κ .ready none vals) fun h0=>ip Sg call g none (first.toList++[.func (.yield h.n) #[] #[]]++cap.toList) h0 fun _ h1=>match h1.at h.n with
   |some (.lp κ' st pd vs)=>match st with
    | .busy=>none
    |_=>putK h1 h.n (.lp κ' .exhausted pd vs) fun h2=>K pd h2
   |_=>none
  |_=>none
 |_=>none
noncomputable def pendB(pd:Option Code)(kn kr:RT)(ks:List (Nat×RT)):RT:=
 match pd with
 |none=>kn
 |some c=>match c with
  | .ret=>kr
  | .exit id=>List.rec none (fun p _ ih=>match Nat.beq p.1 id with|true=>p.2|false=>ih) ks
  |_=>none
noncomputable def lp1B(l:Nat)(h:HTr)(K:HTr→RT):RT:=
 match h.at l with
 |some (.lp κ st pd vs)=>match st with
  | .ready=>putK h l (.lp κ .busy pd vs) K
  |_=>none
 |_=>none
noncomputable def lp2B(l:Nat)(j:Option Code)(h:HTr)(K:HTr→RT):RT:=
 match h.at l with
 |some (.lp κ _ _ vs)=>match j with
  |none=>putK h l (.lp κ .ready none vs) K
  |some c=>putK h l (.lp κ .done (some c) vs) K
 |_=>none
end
noncomputable def loopB(F:(List Lf→HTr→RT)→List Lf→HTr→RT)(ls:List Lf)(h:HTr):RT:=
 Nat.rec (motive:=fun _=>List Lf→HTr→RT) (fun _ _=>none) (fun _ ih ls h=>F ih ls h) 1000000 ls h
noncomputable def joinB(b:List Lf→HTr→RT)(m:(List Lf→HTr→RT)→RT):RT:=m b
noncomputable def shfB(op:BinOp)(k:IntKind)(a:Int)(_:IntKind)(b:Int)(K:Int→RT):RT:=match leZ 0 b with
 |true=>match op with
  | .shl=>fI (k.wrap (a*2 ^ min b.toNat k.bits)) K
  | .shr=>fI (a.fdiv (2 ^ min b.toNat k.bits)) K
  |_=>none
 |false=>none
noncomputable def BA(Sg:FuncId→Option Sig)(T:Nat→Site)(call:aa):Alg RT HTr where
 fail:=none
 cond:=condB
 ari:=ariB
 shf:=shfB
 cmp:=cmpB
 eqs:=eqsB
 conv:=convB
 sel:=selB
 opt:=optB
 chk:=chkB
 unI:=unIB
 unB:=unBB
 unV:=unVB
 un0:=un0B
 ucI:=ucIB
 ucB:=ucBB
 ucV:=ucVB
 uc0:=uc0B
 peek:=peekB T
 heap:=heapB T
 new:=newB
 call:=callB call
 callv:=callvB Sg T call
 join:=joinB
 loop:=loopB
 rfun:=rfunB Sg call
 pend:=pendB
 lp1:=lp1B
 lp2:=lp2B
end
end Go.Am


/-
  PART 3 OF THE PROOF (no conditions).
-/
import Derived.Test.YtiimabnndpeioaaGreatDoorSO2
import Derived.IntWalk
set_option linter.unusedSectionVars false
set_option linter.unusedSimpArgs false
set_option linter.unusedVariables false
set_option linter.constructorNameAsVariable false
set_option linter.defProp false
noncomputable section
set_option maxRecDepth 100000
namespace Go.Am
section
variable {R HT:Type} (A:Alg R HT)
def Alg.k0(l:TB)(k:Value->R):R:=A.unV l λa l=>A.un0 l (k a)
def Alg.k1(l:TB)(k:Int->Int->Value->Int->Int->Int->Value->R):R:=A.unI l λa l=>A.unI l λb l=>A.unV l λc l=>A.unI l λd l=>A.unI l λe l=>A.unI l λf l=>A.unV l λg l=>A.un0 l (k a b c d e f g)
def Alg.k2(l:TB)(k:Value->Int->R):R:=A.unV l λa l=>A.unI l λb l=>A.un0 l (k a b)
def Alg.k3(l:TB)(k:Int->Int->R):R:=A.unI l λa l=>A.unI l λb l=>A.un0 l (k a b)
def Alg.k4(l:Tk)(k:Int->Int->Int->R):R:=A.ucI .i64 l λa l=>A.ucI .i64 l λb l=>A.ucI .u8 l λc l=>A.uc0 l (k a b c)
def Alg.k5(l:TB)(k:Int->R):R:=A.unI l λa l=>A.un0 l (k a)
def Alg.k6(l:TB)(k:Bool->R):R:=A.unB l λa l=>A.un0 l (k a)
def Alg.k7(l:TB)(k:Int->Int->Int->Int->R):R:=A.unI l λa l=>A.unI l λb l=>A.unI l λc l=>A.unI l λd l=>A.un0 l (k a b c d)
def Alg.k8(l:Tk)(k:Int->R):R:=A.ucI .i64 l λa l=>A.uc0 l (k a)
def Alg.k9(l:Tk)(k:Int->R):R:=A.ucI .u8 l λa l=>A.uc0 l (k a)
def Alg.k10(l:Tk)(k:Int->Int->Int->Int->Int->Int->R):R:=A.ucI .i64 l λa l=>A.ucI .i64 l λb l=>A.ucI .u8 l λc l=>A.ucI .i64 l λd l=>A.ucI .i64 l λe l=>A.ucI .u8 l λf l=>A.uc0 l (k a b c d e f)
def Alg.k11(l:TB)(k:Int->Int->Int->R):R:=A.unI l λa l=>A.unI l λb l=>A.unI l λc l=>A.un0 l (k a b c)
def Alg.k12(l:Tk)(k:Int->Int->Int->R):R:=A.ucI .u8 l λa l=>A.ucI .i64 l λb l=>A.ucI .i64 l λc l=>A.uc0 l (k a b c)
def Alg.k13(l:Tk)(k:Int->Int->Int->R):R:=A.ucI .i64 l λa l=>A.ucI .u8 l λb l=>A.ucI .u8 l λc l=>A.uc0 l (k a b c)
def Alg.k14(l:TB)(k:Int->Int->Int->Int->Int->Int->R):R:=A.unI l λa l=>A.unI l λb l=>A.unI l λc l=>A.unI l λd l=>A.unI l λe l=>A.unI l λf l=>A.un0 l (k a b c d e f)
def Alg.k15(l:Tk)(k:Int->Int->R):R:=A.ucI .i64 l λa l=>A.ucI .i64 l λb l=>A.uc0 l (k a b)
def Alg.k16(l:TB)(k:Int->Bool->R):R:=A.unI l λa l=>A.unB l λb l=>A.un0 l (k a b)
def Alg.k17(l:TB)(k:Value->Int->Int->Int->Value->R):R:=A.unV l λa l=>A.unI l λb l=>A.unI l λc l=>A.unI l λd l=>A.unV l λe l=>A.un0 l (k a b c d e)
def Alg.k18(l:TB)(k:Bool->Int->Int->R):R:=A.unB l λa l=>A.unI l λb l=>A.unI l λc l=>A.un0 l (k a b c)
def Alg.k19(l:TB)(k:Value->Int->Int->Value->R):R:=A.unV l λa l=>A.unI l λb l=>A.unI l λc l=>A.unV l λd l=>A.un0 l (k a b c d)
def Alg.cd(o:BinOp)(x y:Int)(p q:R):R:=A.cmp o x y λt=>A.cond t p q
def Alg.ix(e:Nat)(x:Value)(n:Int)(w:Nat)(h:HT)(k:Tk->R):R:=A.opt (Ah e x n) λp=>A.peek (.lg cc w p) h k
def Alg.fx(e:Nat)(x:Value)(n:Int)(o w:Nat)(h:HT)(k:Tk->R):R:=A.opt (Ah e x n) λp=>A.opt (Ag o p) λq=>A.chk q (A.peek (.lg cc w q) h k)
def Alg.c0(f:TK)(ls:TB)(h:HT)(k:HT->Value->R):R:=A.call f ls h λl h=>A.k0 l (k h)
def Alg.c2(f:TK)(ls:TB)(h:HT)(k:HT->Value->Int->R):R:=A.call f ls h λl h=>A.k2 l (k h)
def Alg.c3(f:TK)(ls:TB)(h:HT)(k:HT->Int->Int->R):R:=A.call f ls h λl h=>A.k3 l (k h)
def Alg.c5(f:TK)(ls:TB)(h:HT)(k:HT->Int->R):R:=A.call f ls h λl h=>A.k5 l (k h)
def Alg.c6(f:TK)(ls:TB)(h:HT)(k:HT->Bool->R):R:=A.call f ls h λl h=>A.k6 l (k h)
def Alg.c7(f:TK)(ls:TB)(h:HT)(k:HT->Int->Int->Int->Int->R):R:=A.call f ls h λl h=>A.k7 l (k h)
def Alg.c11(f:TK)(ls:TB)(h:HT)(k:HT->Int->Int->Int->R):R:=A.call f ls h λl h=>A.k11 l (k h)
def Alg.c16(f:TK)(ls:TB)(h:HT)(k:HT->Int->Bool->R):R:=A.call f ls h λl h=>A.k16 l (k h)
def Alg.ln(x:Value)(k:Int->R):R:=A.opt (DJ x) k
def Alg.pa(a b:Int)(k:Int->R):R:=A.ari .add .i64 a b k
def Alg.ps(a b:Int)(k:Int->R):R:=A.ari .sub .i64 a b k
def Alg.pm(a b:Int)(k:Int->R):R:=A.ari .mul .i64 a b k
def Alg.pq(a b:Int)(k:Int->R):R:=A.ari .quo .i64 a b k
def Alg.ci(a:Int)(k:Int->R):R:=A.conv .i64 a k
def qeq:(∀l k,A.k0 l k=A.unV l λc l=>A.un0 l (k c))/\(∀l k,A.k1 l k=A.unI l λc l=>A.unI l λd l=>A.unV l λg l=>A.unI l λi l=>A.unI l λj l=>A.unI l λm l=>A.unV l λr l=>A.un0 l (k c d g i j m r))/\(∀l k,A.k2 l k=A.unV l λc l=>A.unI l λd l=>A.un0 l (k c d))/\(∀l k,A.k3 l k=A.unI l λc l=>A.unI l λd l=>A.un0 l (k c d))/\(∀l k,A.k4 l k=A.ucI .i64 l λc l=>A.ucI .i64 l λd l=>A.ucI .u8 l λg l=>A.uc0 l (k c d g))/\(∀l k,A.k5 l k=A.unI l λc l=>A.un0 l (k c))/\(∀l k,A.k6 l k=A.unB l λc l=>A.un0 l (k c))/\(∀l k,A.k7 l k=A.unI l λc l=>A.unI l λd l=>A.unI l λg l=>A.unI l λi l=>A.un0 l (k c d g i))/\(∀l k,A.k8 l k=A.ucI .i64 l λc l=>A.uc0 l (k c))/\(∀l k,A.k9 l k=A.ucI .u8 l λc l=>A.uc0 l (k c))/\(∀l k,A.k10 l k=A.ucI .i64 l λc l=>A.ucI .i64 l λd l=>A.ucI .u8 l λg l=>A.ucI .i64 l λi l=>A.ucI .i64 l λj l=>A.ucI .u8 l λm l=>A.uc0 l (k c d g i j m))/\(∀l k,A.k11 l k=A.unI l λc l=>A.unI l λd l=>A.unI l λg l=>A.un0 l (k c d g))/\(∀l k,A.k12 l k=A.ucI .u8 l λc l=>A.ucI .i64 l λd l=>A.ucI .i64 l λg l=>A.uc0 l (k c d g))/\(∀l k,A.k13 l k=A.ucI .i64 l λc l=>A.ucI .u8 l λd l=>A.ucI .u8 l λg l=>A.uc0 l (k c d g))/\(∀l k,A.k14 l k=A.unI l λc l=>A.unI l λd l=>A.unI l λg l=>A.unI l λi l=>A.unI l λj l=>A.unI l λm l=>A.un0 l (k c d g i j m))/\(∀l k,A.k15 l k=A.ucI .i64 l λc l=>A.ucI .i64 l λd l=>A.uc0 l (k c d))/\(∀l k,A.k16 l k=A.unI l λc l=>A.unB l λd l=>A.un0 l (k c d))/\(∀l k,A.k17 l k=A.unV l λc l=>A.unI l λd l=>A.unI l λg l=>A.unI l λi l=>A.unV l λj l=>A.un0 l (k c d g i j))/\(∀l k,A.k18 l k=A.unB l λc l=>A.unI l λd l=>A.unI l λg l=>A.un0 l (k c d g))/\(∀l k,A.k19 l k=A.unV l λc l=>A.unI l λd l=>A.unI l λg l=>A.unV l λi l=>A.un0 l (k c d g i))/\(∀o x y p q,A.cd o x y p q=A.cmp o x y λt=>A.cond t p q)/\(∀e x n w h k,A.ix e x n w h k=A.opt (Ah e x n) λp=>A.peek (.lg cc w p) h k)/\(∀e x n o w h k,A.fx e x n o w h k=A.opt (Ah e x n) λp=>A.opt (Ag o p) λq=>A.chk q (A.peek (.lg cc w q) h k))/\(∀f ls h k,A.c0 f ls h k=A.call f ls h λl h=>A.k0 l (k h))/\(∀f ls h k,A.c2 f ls h k=A.call f ls h λl h=>A.k2 l (k h))/\(∀f ls h k,A.c3 f ls h k=A.call f ls h λl h=>A.k3 l (k h))/\(∀f ls h k,A.c5 f ls h k=A.call f ls h λl h=>A.k5 l (k h))/\(∀f ls h k,A.c6 f ls h k=A.call f ls h λl h=>A.k6 l (k h))/\(∀f ls h k,A.c7 f ls h k=A.call f ls h λl h=>A.k7 l (k h))/\(∀f ls h k,A.c11 f ls h k=A.call f ls h λl h=>A.k11 l (k h))/\(∀f ls h k,A.c16 f ls h k=A.call f ls h λl h=>A.k16 l (k h))/\(∀x k,A.ln x k=A.opt (DJ x) k)/\(∀a b k,A.pa a b k=A.ari .add .i64 a b k)/\(∀a b k,A.ps a b k=A.ari .sub .i64 a b k)/\(∀a b k,A.pm a b k=A.ari .mul .i64 a b k)/\(∀a b k,A.pq a b k=A.ari .quo .i64 a b k)/\(∀a k,A.ci a k=A.conv .i64 a k):=by
 refine⟨?_,?_,?_,?_,?_,?_,?_,?_,?_,?_,?_,?_,?_,?_,?_,?_,?_,?_,?_,?_,?_,?_,?_,?_,?_,?_,?_,?_,?_,?_,?_,?_,?_,?_,?_,?_,?_⟩<;>intros<;>rfl
variable(ls:TB)(h:HT)(K:TB->HT->R)
def f3:R:=A.unI ls λH I=>A.unI I λJ L=>A.unV L λM N=>A.k0 N λO=>A.call 6 [.i H,.i J,.v M,.v O] h λP Q=>A.k1 P λe f g n o p l=>A.c2 7 [.i e,.i f,.v g,.i n,.i o,.i p,.v l] Q λS c T=>A.c2 8 [.i e,.i f,.v g,.i n,.i o,.i p] S λU q j5=>A.c0 9 [.i e,.i f,.v g] U λr z=>A.cd .neq T 0 (K [.b false] r) (A.opt (I6 c) λV=>A.ln c λW=>A.cd .neq V W (K [.b false] r) (A.loop (λs X j=>A.k3 X λB a=>A.ln c λY=>A.cd .lss a Y (A.fx 9 c a 0 3 j λZ=>A.k4 Z λa0 a1 a2=>A.fx 9 c a 3 3 j λa3=>A.k4 a3 λa4 a5 a6=>A.c0 10 [.i e,.i f,.v g,.v z,.v q,.v l,.i a0,.i a1,.i a2,.i a4,.i a5,.i a6] j λt u=>A.fx 9 c a 3 3 t λa7=>A.k4 a7 λa8 a9 b0=>A.fx 9 c a 0 3 t λb1=>A.k4 b1 λb2 b3 b4=>A.c0 10 [.i e,.i f,.v g,.v z,.v q,.v l,.i a8,.i a9,.i b0,.i b2,.i b3,.i b4] t λw x=>A.ln u λb5=>A.ln x λb6=>A.pa b5 b6 λb7=>A.cd .eql b7 0 (K [.b false] w) (A.ix 9 c a 9 w λb8=>A.ucI .i64 b8 λb9 c1=>A.ucI .i64 c1 λc3 c4=>A.ucI .u8 c4 λc7 c8=>A.ucI .i64 c8 λc9 d0=>A.ucI .i64 d0 λd1 d2=>A.ucI .u8 d2 λd3 d4=>A.ucV d4 λC d5=>A.chk C (A.ucV d5 λD d6=>A.chk D (A.ucV d6 λE d7=>A.chk E (A.uc0 d7 (A.c5 11 [.i b9,.i c3,.i c7,.i c9,.i d1,.i d3,.v C,.v D,.v E,.i e,.i f,.v g,.i n,.i o,.i p,.v l,.v u,.v x] w λm d8=>A.cd .neq d8 0 (K [.b false] m) (A.ln u λd9=>A.ln x λe0=>A.pa d9 e0 λe1=>A.pa B e1 λy=>A.fx 9 c a 3 3 m λe2=>A.k4 e2 λe3 e4 e5=>A.fx 9 c a 0 3 m λe6=>A.k4 e6 λe7 e8 e9=>A.c5 12 [.i e3,.i e4,.i e5,.i e7,.i e8,.i e9] m λk f0=>A.cd .eql f0 0 (K [.b false] k) (A.cd .gtr a 0 (A.fx 9 c a 0 3 k λf1=>A.k4 f1 λf2 f3 f4=>A.ps a 1 λf5=>A.fx 9 c f5 0 3 k λf6=>A.k4 f6 λf7 f8 f9=>A.c5 12 [.i f2,.i f3,.i f4,.i f7,.i f8,.i f9] k λd g0=>A.cd .eql g0 0 (A.fx 9 c a 0 3 d λg1=>A.k4 g1 λg2 g3 g4=>A.ps a 1 λg5=>A.fx 9 c g5 0 3 d λg6=>A.k4 g6 λg7 g8 g9=>A.eqs [(.i g2,.i g7),(.i g3,.i g8),(.i g4,.i g9)] λh0=>A.cond (!h0) (K [.b false] d) (A.fx 9 c a 3 3 d λh1=>A.k4 h1 λh2 h3 h4=>A.ps a 1 λh5=>A.fx 9 c h5 3 3 d λh6=>A.k4 h6 λh7 h8 h9=>A.c5 12 [.i h2,.i h3,.i h4,.i h7,.i h8,.i h9] d λF i0=>A.cmp .eql i0 0 λi1=>A.join (λi2 i3=>A.un0 i2 (A.pa a 1 λi4=>s [.i y,.i i4] i3)) λi5=>A.cond i1 (K [.b false] F) (i5 [] F))) (A.pa a 1 λi6=>s [.i y,.i i6] d)) (A.pa a 1 λi7=>s [.i y,.i i7] k))))))))) (A.join (λi8 i9=>A.k6 i8 λj0=>K [.b j0] i9) λG=>A.ln q λj1=>A.pm 3 j1 λj2=>A.cd .eql B j2 (A.c6 13 [] j λj3 j4=>G [.b j4] j3) (G [.b false] j))) [.i 0,.i 0] r))
def f6:R:=A.unI ls λG H=>A.unI H λI J=>A.unV J λp L=>A.k0 L λq=>A.ari .rem .u8 G 3 λM=>A.ci M λN=>A.pa 1 N λO=>A.ari .rem .u8 I 3 λP=>A.ci P λQ=>A.pa 1 Q λS=>A.call 20 [.i O,.i S] h λT U=>A.k1 T λV W X Y Z a0 a1=>A.join (λa2 a3=>A.k1 a2 λa4 a5 a6 a7 a8 a9 r=>A.join (λb0 b1=>A.un0 b0 (K [.i a4,.i a5,.v a6,.i a7,.i a8,.i a9,.v r] b1)) λw=>A.loop (λb2 b3 a=>A.k5 b3 λd=>A.ln q λb4=>A.cd .lss d b4 (A.cd .lss d 6 (A.opt (Ah 3 q d) λb5=>A.opt (Ov 3 1 b5 0) λx=>A.chk x (A.peek (.lg cc 1 x) a λb6=>A.k9 b6 λb7=>A.ci b7 λb8=>A.ln r λb9=>A.ari .rem .i64 b8 b9 λc1=>A.fx 4 r c1 3 1 a λc2=>A.ucV c2 λc c3=>A.chk c (A.uc0 c3 (A.opt (Ah 3 q d) λc4=>A.opt (Ov 3 1 c4 1) λy=>A.chk y (A.peek (.lg cc 1 y) a λc5=>A.k9 c5 λc6=>A.ci c6 λc7=>A.ln c λc8=>A.ari .rem .i64 c7 c8 λz=>A.opt (Ah 3 q d) λc9=>A.opt (Ov 3 1 c9 2) λB=>A.chk B (A.peek (.lg cc 1 B) a λd0=>A.k9 d0 λd1=>A.ci d1 λd2=>A.ln c λd3=>A.ari .rem .i64 d2 d3 λC=>A.ix 1 c C 1 a λd4=>A.k8 d4 λd5=>A.ix 1 c z 1 a λd6=>A.k8 d6 λd7=>A.opt (Ah 1 c z) λd8=>A.heap (.st d8 [.int .i64 d5]) a λh7 d9=>A.opt (Ah 1 c C) λe0=>A.heap (.st e0 [.int .i64 d7]) d9 λh8 e1=>A.pa d 1 λe2=>b2 [.i e2] e1)))))) (w [] a)) (w [] a)) [.i 0] a3) λs=>A.loop (λe3 e4 t=>A.unI e4 λe e5=>A.k1 e5 λg j k l m n o=>A.ln p λe6=>A.cd .lss e e6 (A.cd .lss e 4 (A.c0 21 [.i g,.i j,.v k,.i l,.i m,.i n,.v o] t λf u=>A.ln u λe7=>A.cd .eql e7 0 (s [.i g,.i j,.v k,.i l,.i m,.i n,.v o] f) (A.opt (Ah 3 p e) λe8=>A.opt (Ov 3 1 e8 0) λD=>A.chk D (A.peek (.lg cc 1 D) f λe9=>A.k9 e9 λf0=>A.ci f0 λf1=>A.ln u λf2=>A.ari .rem .i64 f1 f2 λf3=>A.ix 2 u f3 2 f λf4=>A.ucI .u8 f4 λf5 f6=>A.k8 f6 λf7=>A.opt (Ah 3 p e) λf8=>A.opt (Ov 3 1 f8 1) λE=>A.chk E (A.peek (.lg cc 1 E) f λf9=>A.k9 f9 λg0=>A.ari .rem .u8 g0 2 λg1=>A.opt (Ah 3 p e) λg2=>A.opt (Ov 3 1 g2 2) λF=>A.chk F (A.peek (.lg cc 1 F) f λg3=>A.k9 g3 λg4=>A.ari .rem .u8 g4 2 λg5=>A.cmp .eql g5 1 λg6=>A.call 22 [.i g,.i j,.v k,.i l,.i m,.i n,.v o,.i f5,.i f7,.i g1,.b g6] f λg7 g8=>A.k1 g7 λg9 h0 h1 h2 h3 h4 h5=>A.pa e 1 λh6=>e3 [.i h6,.i g9,.i h0,.v h1,.i h2,.i h3,.i h4,.v h5] g8))))) (s [.i g,.i j,.v k,.i l,.i m,.i n,.v o] t)) (s [.i g,.i j,.v k,.i l,.i m,.i n,.v o] t)) [.i 0,.i V,.i W,.v X,.i Y,.i Z,.i a0,.v a1] U
def f7:R:=A.k1 ls λd e g n o p q=>A.c5 16 [.i d,.i e,.v g,.i n,.i o,.i p,.v q] h λy z=>A.cd .neq z 0 (K [.v (.slice none 0 0),.i z] y) (A.c5 23 [.i d,.i e] y λa5 b=>A.opt (B7 b b) λj0=>A.new (.cells (bk [.int .i64 0] (Int.toNat b)) 1 true) a5 λB a6=>A.new (.map [] 0) a6 λC a7=>A.new (.cells [.int .i64 d,.int .i64 e,g,.slice none 0 0,.slice none 0 0,.slice (some ⟨B,0,some 11⟩) (Int.toNat b) ((Int.toNat b)+1),.map (some C),.slice none 0 0] 8 true) a7 λa a8=>A.opt (Sx.sepL [(.slice (some ⟨B,0,some 11⟩) (Int.toNat b) ((Int.toNat b)+1),(0,.map (some C)))]) λj1=>A.c2 24 [.i d,.i e,.v g,.i n,.i o,.i p] a8 λa9 b0 j2=>A.opt (zN (.pointer (some ⟨a,0,none⟩))) λD=>A.chk D (A.opt (Ag 3 D) λE=>A.chk E (A.heap (.st E [b0]) a9 λj3 b1=>A.c2 25 [.i d,.i e,.v g,.i n,.i o,.i p] b1 λb2 b3 j4=>A.opt (zN (.pointer (some ⟨a,0,none⟩))) λF=>A.chk F (A.opt (Ag 4 F) λG=>A.chk G (A.heap (.st G [b3]) b2 λj5 b4=>A.ln q λb5=>A.loop (λb6 b7 j=>A.k5 b7 λr=>A.cd .lss r b5 (A.ix 4 q r 4 j λb8=>A.ucI .i64 b8 λj6 b9=>A.ucI .i64 b9 λj7 c0=>A.ucI .u8 c0 λj8 c1=>A.ucV c1 λs c3=>A.chk s (A.uc0 c3 (A.ln s λc4=>A.loop (λc6 c7 k=>A.k5 c7 λl=>A.cd .lss l c4 (A.ix 1 s l 1 k λc8=>A.k8 c8 λc9=>A.opt (zN (.pointer (some ⟨a,0,none⟩))) λH=>A.chk H (A.opt (Ag 5 H) λI=>A.chk I (A.peek (.lg cc 1 I) k λd0=>A.ucV d0 λJ d1=>A.chk J (A.uc0 d1 (A.opt (Ah 1 J c9) λd2=>A.heap (.st d2 [.int .i64 l]) k λj9 d3=>A.pa l 1 λd4=>c6 [.i d4] d3))))) (A.pa r 1 λd5=>b6 [.i d5] k)) [.i 0] j))) (A.opt (zN (.pointer (some ⟨a,0,none⟩))) λL=>A.chk L (A.opt (Ag 5 L) λM=>A.chk M (A.peek (.lg cc 1 M) j λd6=>A.ucV d6 λN d7=>A.chk N (A.uc0 d7 (A.ln N λd8=>A.loop (λd9 e0 t=>A.k5 e0 λu=>A.cd .lss u d8 (A.loop (λe1 e2 O=>A.k5 e2 λw=>A.cd .lss w 3 (A.call 26 [.v (.pointer (some ⟨a,0,none⟩)),.i u,.i w] O λe3 e4=>A.un0 e3 (A.ari .add .u8 w 1 λe5=>e1 [.i e5] e4)) (A.pa u 1 λe6=>d9 [.i e6] O)) [.i 0] t) (A.opt (zN (.pointer (some ⟨a,0,none⟩))) λP=>A.chk P (A.opt (Ag 7 P) λQ=>A.chk Q (A.peek (.lg cc 1 Q) t λe7=>A.ucV e7 λS e8=>A.chk S (A.uc0 e8 (A.call 27 [.v S,.v (.func (.func 28) ⟨[]⟩ ⟨[]⟩)] t λe9 T=>A.un0 e9 (A.opt (zN (.pointer (some ⟨a,0,none⟩))) λU=>A.chk U (A.opt (Ag 7 U) λV=>A.chk V (A.peek (.lg cc 1 V) T λf0=>A.ucV f0 λW f1=>A.chk W (A.uc0 f1 (A.ln W λc=>A.opt (B7 c c) λk2=>A.new (.cells (bk [.int .i64 0,.int .i64 0,.int .u8 0,.int .i64 0,.int .i64 0,.int .u8 0,.slice none 0 0,.slice none 0 0,.slice none 0 0] (Int.toNat c)) 9 true) T λX Y=>A.opt (zN (.pointer (some ⟨a,0,none⟩))) λZ=>A.chk Z (A.opt (Ag 7 Z) λa0=>A.chk a0 (A.peek (.lg cc 1 a0) Y λf2=>A.ucV f2 λx f3=>A.chk x (A.uc0 f3 (A.ln x λf4=>A.loop (λf5 f6 f=>A.k5 f6 λm=>A.cd .lss m f4 (A.ix 6 x m 6 f λf7=>A.k10 f7 λf8 f9 g0 g1 g2 g3=>A.opt (zN (.pointer (some ⟨a,0,none⟩))) λa1=>A.chk a1 (A.opt (Ag 6 a1) λa2=>A.chk a2 (A.peek (.lg cc 1 a2) f λg4=>A.ucV g4 λa3 g5=>A.chk a3 (A.uc0 g5 (A.peek (.fn (DL cc 92 false (.pointer none) a3 (.agg ⟨[.int .i64 f8,.int .i64 f9,.int .u8 g0,.int .i64 g1,.int .i64 g2,.int .u8 g3]⟩) false)) f λg6=>A.ucV g6 λa4 g7=>A.chk a4 (A.uc0 g7 (A.call 31 [.v (.pointer (some ⟨a,0,none⟩)),.v a4] f λg8 g9=>A.unI g8 λh0 h1=>A.unI h1 λh2 h3=>A.unI h3 λh4 h5=>A.unI h5 λh6 h7=>A.unI h7 λh8 h9=>A.unI h9 λi0 i1=>A.unV i1 λi2 i3=>A.unV i3 λi4 i5=>A.k0 i5 λi6=>A.opt (Ah 9 (.slice (some ⟨X,0,some 19⟩) (Int.toNat c) ((Int.toNat c)+1)) m) λi7=>A.heap (.st i7 [.int .i64 h0,.int .i64 h2,.int .u8 h4,.int .i64 h6,.int .i64 h8,.int .u8 i0,i2,i4,i6]) g9 λk3 i8=>A.pa m 1 λi9=>f5 [.i i9] i8))))))) (K [.v (.slice (some ⟨X,0,some 19⟩) (Int.toNat c) ((Int.toNat c)+1)),.i 0] f)) [.i 0] Y))))))))))))))) [.i 0] j)))))) [.i 0] b4)))))
def f8:R:=A.unI ls λj F=>A.unI F λk G=>A.unV G λH I=>A.k11 I λJ L M=>A.pm 4 j λN=>A.pm N k λa=>A.opt (B7 a a) λi4=>A.new (.cells (bk [.int .u8 0,.int .i64 0,.int .i64 0] (Int.toNat a)) 3 true) h λe O=>A.opt (B7 a a) λi5=>A.new (.cells (bk [.bool false] (Int.toNat a)) 1 true) O λf u=>A.cd .lss a 1 (K [.v (.slice none 0 0),.i 0] u) (A.opt (Ah 3 (.slice (some ⟨e,0,some 13⟩) (Int.toNat a) ((Int.toNat a)+1)) 0) λP=>A.heap (.st P [.int .u8 J,.int .i64 L,.int .i64 M]) u λi6 Q=>A.opt (Ah 1 (.slice (some ⟨f,0,some 11⟩) (Int.toNat a) ((Int.toNat a)+1)) 0) λS=>A.heap (.st S [.bool true]) Q λi7 T=>A.c0 9 [.i j,.i k,.v H] T λU V=>A.loop (λW X w=>A.k6 X λY=>A.cond Y (A.loop (λZ a0 x=>A.unB a0 λy a1=>A.k5 a1 λd=>A.cd .lss d a (A.join (λa2 a3=>A.k6 a2 λa4=>A.pa d 1 λa5=>Z [.b a4,.i a5] a3) λz=>A.loop (λa6 a7 n=>A.unB a7 λl a8=>A.k5 a8 λo=>A.cd .lss o 3 (A.opt (Ah 1 (.slice (some ⟨f,0,some 11⟩) (Int.toNat a) ((Int.toNat a)+1)) d) λa9=>A.peek (.lg cc 1 a9) n λb0=>A.ucB b0 λb1 b2=>A.uc0 b2 (A.cond b1 (A.join (λb3 b4=>A.k6 b3 λb5=>A.pa o 1 λb6=>a6 [.b b5,.i b6] b4) λp=>A.c5 32 [.i j,.i k,.i d,.i o] n λm c=>A.cd .lss c 0 (p [.b l] m) (A.opt (Ah 3 (.slice (some ⟨e,0,some 13⟩) (Int.toNat a) ((Int.toNat a)+1)) d) λb7=>A.peek (.lg cc 3 b7) m λb8=>A.k12 b8 λb9 c1 c2=>A.pm 3 d λc3=>A.pa c3 o λc4=>A.ix 1 V c4 1 m λc6=>A.k9 c6 λc7=>A.cmp .neq c7 0 λc8=>A.join (λc9 g=>A.k11 c9 λq r s=>A.opt (Ah 1 (.slice (some ⟨f,0,some 11⟩) (Int.toNat a) ((Int.toNat a)+1)) c) λd0=>A.peek (.lg cc 1 d0) g λd1=>A.ucB d1 λd2 d3=>A.uc0 d3 (A.cond d2 (A.opt (Ah 3 (.slice (some ⟨e,0,some 13⟩) (Int.toNat a) ((Int.toNat a)+1)) c) λd4=>A.peek (.lg cc 3 d4) g λd5=>A.k12 d5 λd6 d7 d8=>A.eqs [(.i d6,.i q),(.i d7,.i r),(.i d8,.i s)] λd9=>A.join (λe0 t=>A.un0 e0 (A.opt (Ah 1 (.slice (some ⟨f,0,some 11⟩) (Int.toNat a) ((Int.toNat a)+1)) c) λe1=>A.peek (.lg cc 1 e1) t λe2=>A.ucB e2 λe3 e4=>A.uc0 e4 (A.join (λe5 e6=>A.k6 e5 λe7=>p [.b e7] e6) λB=>A.cond (!e3) (A.opt (Ah 3 (.slice (some ⟨e,0,some 13⟩) (Int.toNat a) ((Int.toNat a)+1)) c) λe8=>A.heap (.st e8 [.int .u8 q,.int .i64 r,.int .i64 s]) t λi8 e9=>A.opt (Ah 1 (.slice (some ⟨f,0,some 11⟩) (Int.toNat a) ((Int.toNat a)+1)) c) λf0=>A.heap (.st f0 [.bool true]) e9 λi9 f1=>B [.b true] f1) (B [.b l] t)))) λf2=>A.cond (!d9) (K [.v (.slice none 0 0),.i 0] g) (f2 [] g)) (A.opt (Ah 1 (.slice (some ⟨f,0,some 11⟩) (Int.toNat a) ((Int.toNat a)+1)) c) λf3=>A.peek (.lg cc 1 f3) g λf4=>A.ucB f4 λf5 f6=>A.uc0 f6 (A.join (λf7 f8=>A.k6 f7 λf9=>p [.b f9] f8) λC=>A.cond (!f5) (A.opt (Ah 3 (.slice (some ⟨e,0,some 13⟩) (Int.toNat a) ((Int.toNat a)+1)) c) λg0=>A.heap (.st g0 [.int .u8 q,.int .i64 r,.int .i64 s]) g λj0 g1=>A.opt (Ah 1 (.slice (some ⟨f,0,some 11⟩) (Int.toNat a) ((Int.toNat a)+1)) c) λg2=>A.heap (.st g2 [.bool true]) g1 λj1 g3=>C [.b true] g3) (C [.b l] g))))) λD=>A.cond c8 (A.c11 35 [.i j,.i k,.i d] m λg4 g5 g6 g7=>A.c11 35 [.i j,.i k,.i c] g4 λg8 g9 h0 h1=>A.c11 34 [.i g5,.i g6,.i g7,.i g9,.i h0,.i h1] g8 λE h2 h3 h4=>A.opt (Ah 3 (.slice (some ⟨e,0,some 13⟩) (Int.toNat a) ((Int.toNat a)+1)) d) λh5=>A.peek (.lg cc 3 h5) E λh6=>A.k12 h6 λh7 h8 h9=>A.c11 33 [.i h2,.i h3,.i h4,.i h7,.i h8,.i h9] E λi0 i1 i2 i3=>D [.i i1,.i i2,.i i3] i0) (D [.i b9,.i c1,.i c2] m))) (z [.b l] n))) (z [.b l] n)) [.b y,.i 0] x) (W [.b y] x)) [.b false,.i 0] w) (K [.v (.slice (some ⟨e,0,some 13⟩) (Int.toNat a) ((Int.toNat a)+1)),.i 1] w)) [.b true] U)
def f9:R:=A.unI ls λc w=>A.unI w λd x=>A.k0 x λn=>A.pm 12 c λy=>A.pm y d λa=>A.opt (B7 a a) λa5=>A.new (.cells (bk [.int .u8 0] (Int.toNat a)) 1 true) h λg z=>A.loop (λB C j=>A.k5 C λk=>A.ln n λD=>A.cd .lss k D (A.ix 3 n k 3 j λE=>A.k13 E λe F o=>A.loop (λG H p=>A.k5 H λb=>A.cd .lss b 3 (A.join (λI J=>A.un0 I (A.pa b 1 λL=>G [.i L] J)) λl=>A.c5 32 [.i c,.i d,.i e,.i b] p λq m=>A.cd .lss m 0 (l [] q) (A.c5 36 [.i c,.i d,.i e,.i b] q λr M=>A.ci F λN=>A.cd .neq M N (l [] r) (A.pm 3 e λO=>A.pa O b λP=>A.opt (Ah 1 (.slice (some ⟨g,0,some 11⟩) (Int.toNat a) ((Int.toNat a)+1)) P) λQ=>A.heap (.st Q [.int .u8 o]) r λa6 S=>A.loop (λT U s=>A.k5 U λf=>A.cd .lss f 3 (A.c5 32 [.i c,.i d,.i m,.i f] s λt V=>A.cmp .eql V e λW=>A.join (λX Y=>A.un0 X (A.pa f 1 λZ=>T [.i Z] Y)) λu=>A.cond W (A.pm 3 m λa0=>A.pa a0 f λa1=>A.opt (Ah 1 (.slice (some ⟨g,0,some 11⟩) (Int.toNat a) ((Int.toNat a)+1)) a1) λa2=>A.heap (.st a2 [.int .u8 o]) t λa7 a3=>u [] a3) (u [] t)) (l [] s)) [.i 0] S))) (A.pa k 1 λa4=>B [.i a4] p)) [.i 0] j) (K [.v (.slice (some ⟨g,0,some 11⟩) (Int.toNat a) ((Int.toNat a)+1))] j)) [.i 0] z
def f10:R:=A.unI ls λg q=>A.unI q λj r=>A.unV r λc2 s=>A.unV s λt u=>A.unV u λw x=>A.unV x λy z=>A.k14 z λB C D E F G=>A.c0 37 [.v y,.i B,.i C,.i D] h λH k=>A.loop (λI J c=>A.k2 J λl d=>A.ln k λL=>A.cd .lss d L (A.ix 1 k d 1 c λM=>A.k8 M λa=>A.loop (λN O e=>A.k2 O λf b=>A.cd .lss b 3 (A.join (λP Q=>A.k0 P λS=>A.pa b 1 λT=>N [.v S,.i T] Q) λm=>A.ix 3 w a 3 e λU=>A.k12 U λV W X=>A.c11 35 [.i g,.i j,.i a] e λY Z a0 a1=>A.c11 39 [.i Z,.i a0,.i a1,.i b] Y λa2 a3 a4 a5=>A.c11 38 [.i V,.i W,.i X,.i a3,.i a4,.i a5] a2 λn a6 a7 a8=>A.eqs [(.i a6,.i E),(.i a7,.i F),(.i a8,.i G)] λa9=>A.cond (!a9) (m [.v f] n) (A.c5 32 [.i g,.i j,.i a,.i b] n λo b0=>A.pm 3 a λb1=>A.pa b1 b λb2=>A.ix 1 t b2 1 o λb3=>A.k9 b3 λb4=>A.new (.cells [.int .i64 a,.int .i64 b0,.int .u8 b4] 3 true) o λb5 b6=>A.heap (.ap cc 3 24 f (.slice (some ⟨b5,0,some 13⟩) 1 2)) b6 λb7 b8=>A.ucV b7 λp b9=>A.chk p (A.uc0 b9 (m [.v p] b8)))) (A.pa d 1 λc1=>I [.v f,.i c1] e)) [.v l,.i 0] c) (K [.v l] c)) [.v (.slice none 0 0),.i 0] H
def f11:R:=A.unI ls λu a7=>A.unI a7 λw a8=>A.unI a8 λx a9=>A.unI a9 λy b0=>A.unI b0 λz b1=>A.unI b1 λB b2=>A.unV b2 λI b3=>A.unV b3 λm b4=>A.unV b4 λg b5=>A.unI b5 λw9 b6=>A.unI b6 λx0 b7=>A.unV b7 λx1 b8=>A.unI b8 λx2 b9=>A.unI b9 λx3 c1=>A.unI c1 λx4 c2=>A.unV c2 λC c3=>A.unV c3 λc4 c6=>A.k0 c6 λc7=>A.loop (λc8 c9 n=>A.unI c9 λQ d0=>A.k7 d0 λo S T e=>A.cd .lss e 2 (A.opt (BM 2 e) λx5=>A.opt (iW [.v c4,.v c7] 0 [(e,1)] 1) λd1=>A.k0 d1 λb=>A.loop (λd2 d3 c=>A.unI d3 λp d4=>A.k7 d4 λf j d a=>A.ln b λd5=>A.cd .lss a d5 (A.fx 3 b a 1 1 c λd6=>A.k8 d6 λd7=>A.cmp .lss d7 0 λd8=>A.join (λd9 e0=>A.k7 d9 λe1 e2 e3 e4=>A.pa a 1 λe5=>d2 [.i e1,.i e2,.i e3,.i e4,.i e5] e0) λD=>A.cond d8 (A.pa p 1 λe6=>A.loop (λe7 e8 q=>A.k3 e8 λU J=>A.ln g λe9=>A.cd .lss J e9 (A.ix 1 g J 1 q λf0=>A.k8 f0 λf1=>A.fx 3 b a 0 1 q λf2=>A.k8 f2 λf3=>A.cmp .eql f1 f3 λf4=>A.join (λf5 f6=>A.k5 f5 λf7=>A.pa J 1 λf8=>e7 [.i f7,.i f8] f6) λV=>A.cond f4 (V [.i 1] q) (V [.i U] q)) (A.ps 1 U λf9=>A.pa f f9 λg0=>D [.i e6,.i g0,.i j,.i d] q)) [.i 0,.i 0] c) (A.fx 3 b a 2 1 c λg1=>A.k9 g1 λg2=>A.cd .eql g2 0 (A.cmp .eql e 0 λg3=>A.join (λg4 g5=>A.k11 g4 λg6 g7 g8=>D [.i p,.i g6,.i g7,.i g8] g5) λE=>A.cond g3 (A.ln I λg9=>A.cd .geq j g9 (A.pa f 1 λh0=>A.pa j 1 λh1=>E [.i h0,.i h1,.i d] c) (A.ix 2 I j 2 c λh2=>A.k15 h2 λh3 h4=>A.fx 3 b a 0 1 c λh5=>A.k8 h5 λh6=>A.fx 3 b a 1 1 c λh7=>A.k8 h7 λh8=>A.eqs [(.i h3,.i h6),(.i h4,.i h8)] λh9=>A.join (λi0 i1=>A.k5 i0 λi2=>A.pa j 1 λi3=>E [.i i2,.i i3,.i d] i1) λW=>A.cond (!h9) (A.pa f 1 λi4=>W [.i i4] c) (W [.i f] c))) (A.fx 3 b a 2 1 c λi5=>A.k9 i5 λi6=>A.cd .neq i6 0 (A.opt (BM 2 e) λx6=>A.opt (iW [.i u,.i w,.i x,.i y,.i z,.i B] 0 [(e,3)] 3) λi7=>A.k11 i7 λi8 i9 j0=>A.c0 37 [.v C,.i i8,.i i9,.i j0] c λX j1=>A.fx 3 b a 0 1 X λj2=>A.k8 j2 λj3=>A.c5 40 [.v j1,.i j3] X λj4 j5=>A.opt (BM 2 e) λx7=>A.opt (iW [.i u,.i w,.i x,.i y,.i z,.i B] 0 [(e,3)] 3) λj6=>A.k11 j6 λj7 j8 j9=>A.c0 37 [.v C,.i j7,.i j8,.i j9] j4 λY k1=>A.fx 3 b a 1 1 Y λk2=>A.k8 k2 λk4=>A.c5 40 [.v k1,.i k4] Y λk k6=>A.cmp .lss j5 k6 λl0=>A.join (λl1 l2=>A.k3 l1 λl3 l4=>E [.i l3,.i j,.i l4] l2) λL=>A.cond l0 (A.ln m λl5=>A.cd .geq d l5 (A.pa f 1 λl6=>A.pa d 1 λl7=>L [.i l6,.i l7] k) (A.ix 3 m d 3 k λl8=>A.k12 l8 λl9 m0 m1=>A.conv .u8 e λm2=>A.fx 3 b a 0 1 k λm3=>A.k8 m3 λm4=>A.fx 3 b a 1 1 k λm5=>A.k8 m5 λm6=>A.eqs [(.i l9,.i m2),(.i m0,.i m4),(.i m1,.i m6)] λm7=>A.join (λm8 m9=>A.k5 m8 λn0=>A.pa d 1 λn1=>L [.i n0,.i n1] m9) λZ=>A.cond (!m7) (A.pa f 1 λn2=>Z [.i n2] k) (Z [.i f] k))) (L [.i f,.i d] k)) (E [.i f,.i j,.i d] c))) (A.fx 3 b a 2 1 c λn3=>A.k9 n3 λn4=>A.cd .neq n4 0 (A.opt (BM 2 e) λx8=>A.opt (iW [.i u,.i w,.i x,.i y,.i z,.i B] 0 [(e,3)] 3) λn5=>A.k11 n5 λn6 n7 n8=>A.c0 37 [.v C,.i n6,.i n7,.i n8] c λa0 n9=>A.fx 3 b a 0 1 a0 λo0=>A.k8 o0 λo1=>A.c5 40 [.v n9,.i o1] a0 λo2 o3=>A.opt (BM 2 e) λx9=>A.opt (iW [.i u,.i w,.i x,.i y,.i z,.i B] 0 [(e,3)] 3) λo4=>A.k11 o4 λo5 o6 o7=>A.c0 37 [.v C,.i o5,.i o6,.i o7] o2 λa1 o8=>A.fx 3 b a 1 1 a1 λo9=>A.k8 o9 λp0=>A.c5 40 [.v o8,.i p0] a1 λl p1=>A.cmp .lss o3 p1 λp2=>A.join (λp3 p4=>A.k3 p3 λp5 p6=>D [.i p,.i p5,.i j,.i p6] p4) λM=>A.cond p2 (A.ln m λp7=>A.cd .geq d p7 (A.pa f 1 λp8=>A.pa d 1 λp9=>M [.i p8,.i p9] l) (A.ix 3 m d 3 l λq0=>A.k12 q0 λq1 q2 q3=>A.conv .u8 e λq4=>A.fx 3 b a 0 1 l λq5=>A.k8 q5 λq6=>A.fx 3 b a 1 1 l λq7=>A.k8 q7 λq8=>A.eqs [(.i q1,.i q4),(.i q2,.i q6),(.i q3,.i q8)] λq9=>A.join (λr0 r1=>A.k5 r0 λr2=>A.pa d 1 λr3=>M [.i r2,.i r3] r1) λa2=>A.cond (!q9) (A.pa f 1 λr4=>a2 [.i r4] l) (a2 [.i f] l))) (M [.i f,.i d] l)) (D [.i p,.i f,.i j,.i d] c)))) (A.pa e 1 λr5=>c8 [.i p,.i f,.i j,.i d,.i r5] c)) [.i Q,.i o,.i S,.i T,.i 0] n) (A.ln I λr6=>A.cd .neq S r6 (A.pa o 1 λr7=>A.loop (λr8 r9 r=>A.k3 r9 λN F=>A.ln g λs0=>A.cd .lss F s0 (A.ps F 1 λs1=>A.ix 1 g s1 1 r λs2=>A.k8 s2 λs3=>A.ix 1 g F 1 r λs4=>A.k8 s4 λs5=>A.cmp .geq s3 s5 λs6=>A.join (λs7 s8=>A.k5 s7 λs9=>A.pa F 1 λt0=>r8 [.i s9,.i t0] s8) λa3=>A.cond s6 (A.pa N 1 λt1=>a3 [.i t1] r) (a3 [.i N] r)) (K [.i N] r)) [.i r7,.i 1] n) (A.ln m λt2=>A.cd .neq T t2 (A.pa o 1 λt3=>A.loop (λt4 t5 s=>A.k3 t5 λO G=>A.ln g λt6=>A.cd .lss G t6 (A.ps G 1 λt7=>A.ix 1 g t7 1 s λt8=>A.k8 t8 λt9=>A.ix 1 g G 1 s λu0=>A.k8 u0 λu1=>A.cmp .geq t9 u1 λu2=>A.join (λu3 u4=>A.k5 u3 λu5=>A.pa G 1 λu6=>t4 [.i u5,.i u6] u4) λa4=>A.cond u2 (A.pa O 1 λu7=>a4 [.i u7] s) (a4 [.i O] s)) (K [.i O] s)) [.i t3,.i 1] n) (A.ln g λu9=>A.cmp .neq Q u9 λv0=>A.join (λv1 v2=>A.k5 v1 λv3=>A.loop (λv4 v5 t=>A.k3 v5 λP H=>A.ln g λv6=>A.cd .lss H v6 (A.ps H 1 λv7=>A.ix 1 g v7 1 t λv8=>A.k8 v8 λv9=>A.ix 1 g H 1 t λw0=>A.k8 w0 λw1=>A.cmp .geq v9 w1 λw2=>A.join (λw3 w4=>A.k5 w3 λw5=>A.pa H 1 λw6=>v4 [.i w5,.i w6] w4) λa5=>A.cond w2 (A.pa P 1 λw7=>a5 [.i w7] t) (a5 [.i P] t)) (K [.i P] t)) [.i v3,.i 1] v2) λa6=>A.cond v0 (A.pa o 1 λw8=>a6 [.i w8] n) (a6 [.i o] n))))) [.i 0,.i 0,.i 0,.i 0,.i 0] h
def Yh:R:=A.k14 ls λa b e c d f=>A.cd .gtr b d (K [.i 1] h) (A.cd .eql b d (A.cd .gtr a c (K [.i 1] h) (A.cd .eql a c (A.cmp .gtr e f λg=>A.join (λj k=>A.un0 j (K [.i 0] k)) λl=>A.cond g (K [.i 1] h) (l [] h)) (K [.i 0] h))) (K [.i 0] h))
def f13:R:=A.un0 ls (A.call 20 [.i 1,.i 1] h λy z=>A.k1 y λe f g j k l m=>A.call 17 [.i e,.i f,.v g,.i j,.i k,.i l,.v m,.i 0,.i 0,.i 0,.i 0,.i 0,.i 1] z λB C=>A.unI B λh5 D=>A.unI D λh6 E=>A.unI E λh7 F=>A.unI F λh8 G=>A.unI G λh9 H=>A.unI H λi0 I=>A.unV I λn J=>A.unV J λL M=>A.k2 M λN O=>A.call 17 [.i e,.i f,.v g,.i j,.i k,.i l,.v m,.i 0,.i (-1),.i 2,.i 0,.i 0,.i 0] C λP a=>A.unI P λi1 Q=>A.unI Q λi2 S=>A.unI S λi3 T=>A.unI T λi4 U=>A.unI U λi5 V=>A.unI V λi6 W=>A.unV W λX Y=>A.unV Y λi7 Z=>A.k2 Z λo a0=>A.cd .neq O 0 (K [.b false] a) (A.cd .neq a0 0 (K [.b false] a) (A.ln n λa1=>A.cd .neq a1 1 (K [.b false] a) (A.opt (Ah 2 n 0) λa2=>A.peek (.lg cc 2 a2) a λa3=>A.k15 a3 λa4 a5=>A.eqs [(.i a4,.i 0),(.i a5,.i 1)] λa6=>A.cond (!a6) (K [.b false] a) (A.ln L λa7=>A.ln N λa8=>A.pa a7 a8 λa9=>A.cd .neq a9 0 (K [.b false] a) (A.ln o λb0=>A.cd .neq b0 1 (K [.b false] a) (A.opt (Ah 1 o 0) λb1=>A.peek (.lg cc 1 b1) a λb2=>A.k8 b2 λb3=>A.cd .neq b3 0 (K [.b false] a) (A.ln X λb4=>A.cd .neq b4 0 (K [.b false] a) (A.call 20 [.i 2,.i 1] a λb5 b6=>A.k1 b5 λb7 b8 b9 c0 c1 c2 c3=>A.call 22 [.i b7,.i b8,.v b9,.i c0,.i c1,.i c2,.v c3,.i 1,.i 1,.i 1,.b true] b6 λc4 c6=>A.k1 c4 λp q r s t u w=>A.call 17 [.i p,.i q,.v r,.i s,.i t,.i u,.v w,.i 0,.i 0,.i 1,.i 1,.i 0,.i 3] c6 λc7 c8=>A.unI c7 λi8 c9=>A.unI c9 λi9 d0=>A.unI d0 λj0 d1=>A.unI d1 λj1 d2=>A.unI d2 λj2 d3=>A.unI d3 λj3 d4=>A.unV d4 λj4 d5=>A.unV d5 λx d6=>A.k2 d6 λj5 d7=>A.call 17 [.i p,.i q,.v r,.i s,.i t,.i u,.v w,.i (-1),.i 0,.i 1,.i 0,.i 0,.i 3] c8 λd8 c=>A.unI d8 λj6 d9=>A.unI d9 λj7 e0=>A.unI e0 λj8 e1=>A.unI e1 λj9 e2=>A.unI e2 λk0 e3=>A.unI e3 λk3 e4=>A.unV e4 λk4 e5=>A.unV e5 λk5 e6=>A.k2 e6 λd e7=>A.cd .neq d7 0 (K [.b false] c) (A.cd .neq e7 0 (K [.b false] c) (A.ln x λe8=>A.cd .neq e8 1 (K [.b false] c) (A.opt (Ah 3 x 0) λe9=>A.peek (.lg cc 3 e9) c λf0=>A.k12 f0 λf1 f2 f3=>A.eqs [(.i f1,.i 0),(.i f2,.i 1),(.i f3,.i 7)] λf4=>A.cond (!f4) (K [.b false] c) (A.ln d λf5=>A.cd .neq f5 2 (K [.b false] c) (A.opt (Ah 1 d 0) λf6=>A.peek (.lg cc 1 f6) c λf7=>A.k8 f7 λf8=>A.cd .neq f8 3 (K [.b false] c) (A.opt (Ah 1 d 1) λf9=>A.peek (.lg cc 1 f9) c λg0=>A.k8 g0 λg1=>A.cd .neq g1 5 (K [.b false] c) (A.new (.cells [.int .i64 1,.int .i64 2] 2 true) c λg2 g3=>A.new (.cells [.int .u8 0,.int .i64 0,.int .i64 3] 3 true) g3 λg4 g5=>A.new (.cells [.int .i64 0,.int .i64 1,.int .i64 3] 1 true) g5 λg6 g7=>A.new (.cells [.int .i64 2] 1 true) g7 λg8 g9=>A.new (.cells [.int .i64 0,.int .i64 0,.int .u8 0,.slice (some ⟨g6,0,some 11⟩) 3 4,.int .i64 0,.int .i64 0,.int .u8 1,.slice (some ⟨g8,0,some 11⟩) 1 2] 4 true) g9 λh0 h1=>A.c5 15 [.i 0,.i 0,.i 0,.i 0,.i 0,.i 1,.v (.slice (some ⟨g2,0,some 12⟩) 1 2),.v (.slice (some ⟨g4,0,some 13⟩) 1 2),.v (.slice none 0 0),.v (.slice (some ⟨h0,0,some 14⟩) 2 3)] h1 λh2 h3=>A.cmp .eql h3 12 λh4=>K [.b h4] h2))))))))))))))))
def f15:R:=A.unI ls λF Z=>A.unI Z λG a0=>A.unI a0 λH a1=>A.unI a1 λI a2=>A.unI a2 λJ a3=>A.unI a3 λL a4=>A.unV a4 λa5 a6=>A.unV a6 λM a7=>A.unV a7 λa8 a9=>A.k0 a9 λb0=>A.new (.cells [.int .i64 F,.int .i64 G,.int .u8 H,.int .i64 I,.int .i64 J,.int .u8 L] 3 true) h λN b1=>A.opt (DJ (.slice (some ⟨N,0,some 13⟩) 2 3)) λb2=>A.loop (λb3 b4 u=>A.unB b4 λO b5=>A.unI b5 λj b6=>A.unV b6 λp b7=>A.k0 b7 λw=>A.cd .lss j b2 (A.opt (Ah 3 (.slice (some ⟨N,0,some 13⟩) 2 3) j) λb8=>A.peek (.lg cc 3 b8) u λb9=>A.k4 b9 λc1 c2 c3=>A.c0 43 [.v b0,.i c1,.i c2,.i c3] u λc4 c7=>A.conv .u8 j λc8=>A.call 44 [.i F,.i G,.i H,.i I,.i J,.i L,.v a5,.v M,.v a8,.i c8,.v c7] c4 λc9 P=>A.unV c9 λx d0=>A.unV d0 λy d1=>A.k6 d1 λd2=>A.cond (!d2) (K [.i 1] P) (A.c6 45 [.v M,.v (.func (.func 46) ⟨[]⟩ ⟨[]⟩)] P λQ d3=>A.cond d3 (K [.i 1] Q) (A.opt (BM 2 j) λl6=>A.opt (Pu [.v p,.v w] 0 [(j,1)] [.v y]) λd4=>A.unV d4 λd5 d6=>A.k0 d6 λd7=>A.ln x λd8=>A.join (λd9 e0=>A.k6 d9 λe1=>A.pa j 1 λe2=>b3 [.b e1,.i e2,.v d5,.v d7] e0) λk=>A.loop (λe3 e4 z=>A.unB e4 λS e5=>A.k5 e5 λq=>A.cd .lss q d8 (A.ix 2 x q 2 z λe6=>A.k15 e6 λf l=>A.ln y λe7=>A.loop (λT e8 m=>A.unB e8 λB e9=>A.k5 e9 λr=>A.cd .lss r e7 (A.ix 1 y r 1 m λf0=>A.k8 f0 λU=>A.cd .gtr U f (A.cmp .lss U l λf1=>A.join (λf2 f3=>A.k6 f2 λf4=>A.pa r 1 λf5=>T [.b f4,.i f5] f3) λf6=>A.cond f1 (k [.b true] m) (f6 [.b B] m)) (A.pa r 1 λf7=>T [.b B,.i f7] m)) (A.opt (CR 2 x none (some q) none) λC=>A.chk C (A.ln C λf8=>A.loop (λe f9 a=>A.unB f9 λd g0=>A.k5 g0 λc=>A.cd .lss c f8 (A.ix 2 C c 2 a λg1=>A.k15 g1 λn g=>A.cd .lss f n (A.cd .lss n l (A.cd .lss l g (k [.b true] a) (A.cd .lss n f (A.cd .lss f g (A.cmp .lss g l λg2=>A.join (λg3 g4=>A.k6 g3 λg5=>A.pa c 1 λg6=>e [.b g5,.i g6] g4) λg7=>A.cond g2 (k [.b true] a) (g7 [.b d] a)) (A.pa c 1 λg8=>e [.b d,.i g8] a)) (A.pa c 1 λg9=>e [.b d,.i g9] a))) (A.cd .lss n f (A.cd .lss f g (A.cmp .lss g l λh0=>A.join (λh1 h2=>A.k6 h1 λh3=>A.pa c 1 λh4=>e [.b h3,.i h4] h2) λh5=>A.cond h0 (k [.b true] a) (h5 [.b d] a)) (A.pa c 1 λh6=>e [.b d,.i h6] a)) (A.pa c 1 λh7=>e [.b d,.i h7] a))) (A.cd .lss n f (A.cd .lss f g (A.cmp .lss g l λh8=>A.join (λh9 i0=>A.k6 h9 λi1=>A.pa c 1 λi2=>e [.b i1,.i i2] i0) λi3=>A.cond h8 (k [.b true] a) (i3 [.b d] a)) (A.pa c 1 λi4=>e [.b d,.i i4] a)) (A.pa c 1 λi5=>e [.b d,.i i5] a))) (A.pa q 1 λi6=>e3 [.b d,.i i6] a)) [.b B,.i 0] m))) [.b S,.i 0] z) (k [.b S] z)) [.b O,.i 0] Q))) (A.ln p λi7=>A.loop (λi8 i9 D=>A.unB i9 λV j0=>A.k5 j0 λo=>A.cd .lss o i7 (A.loop (λj1 j2 s=>A.unB j2 λW j3=>A.k5 j3 λt=>A.cd .lss t o (A.ix 1 p o 1 s λj4=>A.k8 j4 λj5=>A.ix 1 p t 1 s λj6=>A.k8 j6 λj7=>A.c5 47 [.i j5,.i j7] s λE j8=>A.ix 1 w o 1 E λj9=>A.k8 j9 λk1=>A.ix 1 w t 1 E λk2=>A.k8 k2 λk3=>A.c5 47 [.i k1,.i k3] E λX k7=>A.pm j8 k7 λk9=>A.cmp .lss k9 0 λl0=>A.join (λl1 l2=>A.k6 l1 λl3=>A.pa t 1 λl4=>j1 [.b l3,.i l4] l2) λY=>A.cond l0 (Y [.b true] X) (Y [.b W] X)) (A.pa o 1 λl5=>i8 [.b W,.i l5] s)) [.b V,.i 0] D) (A.cond V (K [.i 12] D) (K [.i 0] D))) [.b O,.i 0] u)) [.b false,.i 0,.v (.slice none 0 0),.v (.slice none 0 0)] b1
def Yl:R:=A.k1 ls λk l y z B C a=>A.c2 25 [.i k,.i l,.v y,.i z,.i B,.i C] h λD E m=>A.new (.cells [.slice none 0 0] 1 true) D λc F=>A.heap (.st (.pointer (some ⟨c,0,none⟩)) [E]) F λb5 n=>A.cd .neq m 0 (K [.i m] n) (A.c5 48 [.v a,.i k,.i l] n λo p=>A.cd .neq p 0 (K [.i p] o) (A.ln a λG=>A.loop (λH I d=>A.k5 I λe=>A.cd .lss e G (A.ix 4 a e 4 d λJ=>A.ucI .i64 J λL M=>A.ucI .i64 M λN O=>A.ucI .u8 O λP Q=>A.ucV Q λq S=>A.chk q (A.uc0 S (A.new (.cells [.int .i64 0,.int .i64 0,.int .u8 0,.slice none 0 0] 4 true) d λb T=>A.heap (.st (.pointer (some ⟨b,0,none⟩)) [.int .i64 L,.int .i64 N,.int .u8 P,q]) T λb6 r=>A.opt (Ag 3 (.pointer (some ⟨b,0,none⟩))) λs=>A.chk s (A.peek (.lg cc 1 s) r λU=>A.ucV U λt V=>A.chk t (A.uc0 V (A.chk (.func (.func 50) ⟨[]⟩ ⟨[.pointer (some ⟨c,0,none⟩),.pointer (some ⟨b,0,none⟩)]⟩) (A.c6 49 [.v t,.v (.func (.func 50) ⟨[]⟩ ⟨[.pointer (some ⟨c,0,none⟩),.pointer (some ⟨b,0,none⟩)]⟩)] r λu W=>A.cond W (K [.i 6] u) (A.pa e 1 λX=>H [.i X] u)))))))) (A.ln a λY=>A.loop (λZ a0 f=>A.k5 a0 λg=>A.cd .lss g Y (A.ix 4 a g 4 f λa1=>A.ucI .i64 a1 λa2 a3=>A.ucI .i64 a3 λa4 a5=>A.ucI .u8 a5 λa6 a7=>A.ucV a7 λa8 a9=>A.chk a8 (A.uc0 a9 (A.loop (λb0 b1 w=>A.k5 b1 λj=>A.cd .lss j 3 (A.c7 51 [.i a2,.i a4,.i a6,.i j] w λx b7 b8 b9 b2=>A.cd .neq b2 0 (K [.i 3] x) (A.ari .add .u8 j 1 λb3=>b0 [.i b3] x)) (A.pa g 1 λb4=>Z [.i b4] w)) [.i 0] f))) (K [.i 0] f)) [.i 0] d)) [.i 0] o))
def f17:R:=A.unI ls λB C=>A.unI C λD E=>A.unV E λF G=>A.unI G λH I=>A.unI I λJ L=>A.unI L λM N=>A.unV N λO P=>A.k14 P λc d e f g j=>A.c2 7 [.i B,.i D,.v F,.i H,.i J,.i M,.v O] h λn o p=>A.cd .neq p 0 (A.opt (Bt (.slice none 0 0)) λb2=>A.opt (Bt (.slice none 0 0)) λb3=>A.opt (Bt (.slice none 0 0)) λb4=>K [.i 0,.i 0,.i 0,.i 0,.i 0,.i 0,.v (.slice none 0 0),.v (.slice none 0 0),.v (.slice none 0 0),.i p] n) (A.c3 52 [.i c,.i d,.i e,.i f,.i g,.i j] n λq b5 Q=>A.cd .neq Q 0 (A.opt (Bt (.slice none 0 0)) λb6=>A.opt (Bt (.slice none 0 0)) λb7=>A.opt (Bt (.slice none 0 0)) λb8=>K [.i 0,.i 0,.i 0,.i 0,.i 0,.i 0,.v (.slice none 0 0),.v (.slice none 0 0),.v (.slice none 0 0),.i 1] q) (A.c5 30 [.i c,.i d,.i e,.i f,.i g,.i j] q λr S=>A.cd .geq S 0 (A.opt (Bt (.slice none 0 0)) λb9=>A.opt (Bt (.slice none 0 0)) λc0=>A.opt (Bt (.slice none 0 0)) λc1=>K [.i 0,.i 0,.i 0,.i 0,.i 0,.i 0,.v (.slice none 0 0),.v (.slice none 0 0),.v (.slice none 0 0),.i 1] r) (A.ln o λT=>A.loop (λs U a=>A.k5 U λb=>A.cd .lss b T (A.ix 9 o b 9 a λV=>A.ucI .i64 V λt W=>A.ucI .i64 W λu X=>A.ucI .u8 X λw Y=>A.ucI .i64 Y λx Z=>A.ucI .i64 Z λy a0=>A.ucI .u8 a0 λz a1=>A.ucV a1 λk a2=>A.chk k (A.ucV a2 λl a3=>A.chk l (A.ucV a3 λm a4=>A.chk m (A.uc0 a4 (A.eqs [(.i t,.i c),(.i u,.i d),(.i w,.i e)] λa5=>A.cond a5 (A.eqs [(.i x,.i f),(.i y,.i g),(.i z,.i j)] λa6=>A.join (λa7 a8=>A.un0 a7 (A.pa b 1 λa9=>s [.i a9] a8)) λb0=>A.cond a6 (A.opt (Bt k) λc4=>A.opt (Bt l) λc6=>A.opt (Bt m) λc7=>K [.i t,.i u,.i w,.i x,.i y,.i z,.v k,.v l,.v m,.i 0] a) (b0 [] a)) (A.pa b 1 λb1=>s [.i b1] a)))))) (A.opt (Bt (.slice none 0 0)) λc8=>A.opt (Bt (.slice none 0 0)) λc9=>A.opt (Bt (.slice none 0 0)) λd0=>K [.i 0,.i 0,.i 0,.i 0,.i 0,.i 0,.v (.slice none 0 0),.v (.slice none 0 0),.v (.slice none 0 0),.i 7] a)) [.i 0] r)))
def Vd:R:=A.k11 ls λe b c=>A.ci e λf=>A.cd .geq f 8 (K [.i 1] h) (A.c6 53 [.i b] h λd g=>A.cond g (K [.i 1] d) (A.c6 53 [.i c] d λa j=>A.cond j (K [.i 1] a) (A.pa b c λk=>A.ari .rem .i64 k 2 λl=>A.cd .neq l 0 (K [.i 1] a) (K [.i 0] a))))
def f20:R:=A.k3 ls λd e=>A.loop (λo p f=>A.unI p λa q=>A.k1 q λb c g j k l m=>A.pm 4 d λr=>A.pm r e λs=>A.cd .lss a s (A.c11 35 [.i b,.i c,.i a] f λt u w x=>A.new (.cells [.int .i64 a] 1 true) t λy z=>A.new (.cells [.int .i64 u,.int .i64 w,.int .u8 x,.slice (some ⟨y,0,some 11⟩) 1 2] 4 true) z λB C=>A.heap (.ap cc 4 48 m (.slice (some ⟨B,0,some 14⟩) 1 2)) C λD E=>A.ucV D λn F=>A.chk n (A.uc0 F (A.pa a 1 λG=>o [.i G,.i b,.i c,.v g,.i j,.i k,.i l,.v n] E))) (K [.i b,.i c,.v g,.i j,.i k,.i l,.v m] f)) [.i 0,.i d,.i e,.v (.slice none 0 0),.i 0,.i 0,.i 0,.v (.slice none 0 0)] h
def f21:R:=A.k1 ls λG H I J L M N=>A.c0 56 [.i G,.i H,.v I,.i J,.i L,.i M,.v N] h λO x=>A.loop (λy P q=>A.k2 P λa n=>A.ln x λQ=>A.cd .lss n Q (A.fx 4 x n 2 2 q λS=>A.ucI .u8 S λk T=>A.k8 T λo=>A.join (λU p=>A.k5 U λj=>A.ln a λV=>A.cd .eql j V (A.new (.cells [] 2 true) p λf W=>A.opt (CR 2 a none (some j) none) λr=>A.chk r (A.heap (.ap cc 2 16 (.slice (some ⟨f,0,some 12⟩) 0 1) r) W λX Y=>A.ucV X λl Z=>A.chk l (A.uc0 Z (A.new (.cells [.int .u8 k,.int .i64 o] 2 true) Y λc a0=>A.heap (.ap cc 2 16 l (.slice (some ⟨c,0,some 12⟩) 1 2)) a0 λa1 a2=>A.ucV a1 λs a3=>A.chk s (A.uc0 a3 (A.opt (CR 2 a (some j) none none) λz=>A.chk z (A.heap (.ap cc 2 16 s z) a2 λa4 a5=>A.ucV a4 λB a6=>A.chk B (A.uc0 a6 (A.opt (Sx.sepL [(.slice (some ⟨f,0,some 12⟩) 0 1,(1,a)),(.slice (some ⟨f,0,some 12⟩) 0 1,(0,.slice (some ⟨c,0,some 12⟩) 1 2)),(.slice (some ⟨c,0,some 12⟩) 1 2,(1,a)),(.slice (some ⟨f,0,some 12⟩) 0 1,(0,.slice (some ⟨c,0,some 12⟩) 1 2)),(l,(0,.slice (some ⟨c,0,some 12⟩) 1 2)),(.slice (some ⟨c,0,some 12⟩) 1 2,(0,.slice (some ⟨f,0,some 12⟩) 0 1)),(.slice (some ⟨c,0,some 12⟩) 1 2,(0,r)),(.slice (some ⟨f,0,some 12⟩) 0 1,(1,a)),(.slice (some ⟨f,0,some 12⟩) 0 1,(1,a)),(l,(1,a)),(.slice (some ⟨c,0,some 12⟩) 1 2,(1,a)),(l,(1,a)),(s,(1,a))]) λe3=>A.pa n 1 λa7=>y [.v B,.i a7] a5))))))))) (A.ix 2 a j 2 p λa8=>A.ucI .u8 a8 λa9 b0=>A.k8 b0 λb1=>A.eqs [(.i a9,.i k),(.i b1,.i o)] λb2=>A.join (λb3 b4=>A.k0 b3 λb5=>A.pa n 1 λb6=>y [.v b5,.i b6] b4) λC=>A.cond (!b2) (A.new (.cells [] 2 true) p λg b7=>A.opt (CR 2 a none (some j) none) λt=>A.chk t (A.heap (.ap cc 2 16 (.slice (some ⟨g,0,some 12⟩) 0 1) t) b7 λb8 b9=>A.ucV b8 λm c1=>A.chk m (A.uc0 c1 (A.new (.cells [.int .u8 k,.int .i64 o] 2 true) b9 λd c2=>A.heap (.ap cc 2 16 m (.slice (some ⟨d,0,some 12⟩) 1 2)) c2 λc3 c4=>A.ucV c3 λu c5=>A.chk u (A.uc0 c5 (A.opt (CR 2 a (some j) none none) λD=>A.chk D (A.heap (.ap cc 2 16 u D) c4 λc6 c7=>A.ucV c6 λE c8=>A.chk E (A.uc0 c8 (A.opt (Sx.sepL [(.slice (some ⟨g,0,some 12⟩) 0 1,(1,a)),(.slice (some ⟨g,0,some 12⟩) 0 1,(0,.slice (some ⟨d,0,some 12⟩) 1 2)),(.slice (some ⟨d,0,some 12⟩) 1 2,(1,a)),(.slice (some ⟨g,0,some 12⟩) 0 1,(0,.slice (some ⟨d,0,some 12⟩) 1 2)),(m,(0,.slice (some ⟨d,0,some 12⟩) 1 2)),(.slice (some ⟨d,0,some 12⟩) 1 2,(0,.slice (some ⟨g,0,some 12⟩) 0 1)),(.slice (some ⟨d,0,some 12⟩) 1 2,(0,t)),(.slice (some ⟨g,0,some 12⟩) 0 1,(1,a)),(.slice (some ⟨g,0,some 12⟩) 0 1,(1,a)),(m,(1,a)),(.slice (some ⟨d,0,some 12⟩) 1 2,(1,a)),(m,(1,a)),(u,(1,a))]) λe4=>C [.v E] c7))))))))) (C [.v a] p))) λw=>A.loop (λF c9 e=>A.k5 c9 λb=>A.ln a λd0=>A.cd .lss b d0 (A.fx 2 a b 0 1 e λd1=>A.k9 d1 λd2=>A.cd .lss d2 k (A.pa b 1 λd3=>F [.i d3] e) (A.fx 2 a b 0 1 e λd4=>A.k9 d4 λd5=>A.cd .eql d5 k (A.fx 2 a b 1 1 e λd6=>A.k8 d6 λd7=>A.cmp .lss d7 o λd8=>A.join (λd9 e0=>A.un0 d9 (A.pa b 1 λe1=>F [.i e1] e0)) λe2=>A.cond d8 (e2 [] e) (w [.i b] e)) (w [.i b] e))) (w [.i b] e)) [.i 0] q) (K [.v a] q)) [.v (.slice none 0 0),.i 0] O
def f22:R:=A.unI ls λn e6=>A.unI e6 λo e7=>A.unV e7 λx e8=>A.unI e8 λp e9=>A.unI e9 λq f0=>A.unI f0 λr f1=>A.unV f1 λy f2=>A.unI f2 λz f3=>A.unI f3 λB f4=>A.k16 f4 λf5 a6=>A.c11 57 [.i z,.i B] h λf6 a7 a8 a9=>A.new (.cells [] 3 true) f6 λf7 f8=>A.heap (.ap cc 3 16 (.slice (some ⟨f7,0,some 13⟩) 0 1) x) f8 λf9 g0=>A.ucV f9 λb0 g1=>A.chk b0 (A.uc0 g1 (A.loop (λg2 g3 C=>A.unV g3 λD g4=>A.unV g4 λd g5=>A.unI g5 λE g6=>A.k1 g6 λF G H I J L b1=>A.ln y λg7=>A.cd .lss E g7 (A.join (λg8 g9=>A.unV g8 λh0 h1=>A.unV h1 λh2 h3=>A.k1 h3 λh4 h5 h6 h7 h8 h9 i0=>A.pa E 1 λi1=>g2 [.v h0,.v h2,.i i1,.i h4,.i h5,.v h6,.i h7,.i h8,.i h9,.v i0] g9) λb2=>A.ix 4 y E 4 C λi2=>A.ucI .i64 i2 λM i3=>A.ucI .i64 i3 λN i4=>A.ucI .u8 i4 λO i5=>A.ucV i5 λl i6=>A.chk l (A.uc0 i6 (A.c5 58 [.i z,.i B,.i M,.i N,.i O] C λb3 i7=>A.cd .neq i7 f5 (A.new (.cells [] 1 true) b3 λi8 i9=>A.heap (.ap cc 1 8 (.slice (some ⟨i8,0,some 11⟩) 0 1) l) i9 λj0 j1=>A.ucV j0 λb4 j2=>A.chk b4 (A.uc0 j2 (A.new (.cells [.int .i64 M,.int .i64 N,.int .u8 O,b4] 4 true) j1 λj3 j4=>A.heap (.ap cc 4 48 D (.slice (some ⟨j3,0,some 14⟩) 1 2)) j4 λj5 j6=>A.ucV j5 λb5 j7=>A.chk b5 (A.uc0 j7 (b2 [.v b5,.v d,.i F,.i G,.v H,.i I,.i J,.i L,.v b1] j6))))) (A.ln l λj8=>A.ps j8 1 λj9=>A.loop (λk3 k7 P=>A.unV k7 λb6 l0=>A.unI l0 λs l1=>A.k1 l1 λQ S T b7 b8 b9 U=>A.cd .geq s 0 (A.ix 1 l s 1 P λl2=>A.k8 l2 λl3=>A.new (.cells [.int .i64 l3] 1 true) P λl4 l5=>A.heap (.ap cc 1 8 b6 (.slice (some ⟨l4,0,some 11⟩) 1 2)) l5 λl6 V=>A.ucV l6 λc1 l7=>A.chk c1 (A.uc0 l7 (A.ix 1 l s 1 V λl8=>A.k8 l8 λl9=>A.cmp .eql l9 0 λm0=>A.join (λm1 m2=>A.k1 m1 λm3 m4 m5 m6 m7 m8 m9=>A.ps s 1 λn0=>k3 [.v c1,.i n0,.i m3,.i m4,.v m5,.i m6,.i m7,.i m8,.v m9] m2) λc3=>A.cond m0 (A.c11 33 [.i p,.i q,.i r,.i a7,.i a8,.i a9] V λn1 n2 n3 n4=>c3 [.i Q,.i S,.v T,.i n2,.i n3,.i n4,.v U] n1) (c3 [.i Q,.i S,.v T,.i b7,.i b8,.i b9,.v U] V)))) (A.c11 38 [.i a7,.i a8,.i a9,.i M,.i N,.i O] P λn5 n6 n7 n8=>A.new (.cells [.int .i64 n6,.int .i64 n7,.int .u8 n8,b6] 4 true) n5 λn9 o0=>A.heap (.ap cc 4 48 d (.slice (some ⟨n9,0,some 14⟩) 1 2)) o0 λo1 o2=>A.ucV o1 λc4 o3=>A.chk c4 (A.uc0 o3 (b2 [.v D,.v c4,.i Q,.i S,.v T,.i b7,.i b8,.i b9,.v U] o2)))) [.v (.slice none 0 0),.i j9,.i F,.i G,.v H,.i I,.i J,.i L,.v b1] b3)))) (A.loop (λo4 o5 c6=>A.k2 o5 λa j=>A.ln d λo6=>A.cd .lss j o6 (A.join (λo7 W=>A.k6 o7 λo8=>A.join (λo9 p0=>A.k0 o9 λp1=>A.pa j 1 λp2=>o4 [.v p1,.i p2] p0) λc7=>A.cond (!o8) (A.ix 4 d j 4 W λp3=>A.ucI .i64 p3 λp4 p5=>A.ucI .i64 p5 λp6 p7=>A.ucI .u8 p7 λp8 p9=>A.ucV p9 λc8 q0=>A.chk c8 (A.uc0 q0 (A.new (.cells [.int .i64 p4,.int .i64 p6,.int .u8 p8,c8] 4 true) W λq1 q2=>A.heap (.ap cc 4 48 a (.slice (some ⟨q1,0,some 14⟩) 1 2)) q2 λq3 q4=>A.ucV q3 λc9 q5=>A.chk c9 (A.uc0 q5 (c7 [.v c9] q4))))) (c7 [.v a] W)) λd0=>A.loop (λq6 q7 c=>A.unB q7 λt q8=>A.k5 q8 λe=>A.ln a λq9=>A.cd .lss e q9 (A.cond (!t) (A.join (λr0 r1=>A.k6 r0 λr2=>A.pa e 1 λr3=>q6 [.b r2,.i r3] r1) λd1=>A.fx 4 a e 0 3 c λr4=>A.k4 r4 λr5 r6 r7=>A.fx 4 d j 0 3 c λr8=>A.k4 r8 λr9 s0 s1=>A.eqs [(.i r5,.i r9),(.i r6,.i s0),(.i r7,.i s1)] λs2=>A.cond (!s2) (d1 [.b t] c) (A.join (λs3 s4=>A.un0 s3 (d1 [.b true] s4)) λd2=>A.cond a6 (A.fx 4 a e 3 1 c λs5=>A.ucV s5 λd3 s6=>A.chk d3 (A.uc0 s6 (A.fx 4 d j 3 1 c λs7=>A.ucV s7 λd4 s8=>A.chk d4 (A.uc0 s8 (A.heap (.ap cc 1 8 d3 d4) c λs9 t0=>A.ucV s9 λd5 t1=>A.chk d5 (A.uc0 t1 (A.opt (Ah 4 a e) λt2=>A.opt (Ag 3 t2) λd6=>A.chk d6 (A.heap (.st d6 [d5]) t0 λz5 t3=>d2 [] t3)))))))) (A.new (.cells [] 1 true) c λu d7=>A.opt (Ah 4 d j) λt4=>A.opt (Ag 3 t4) λX=>A.chk X (A.peek (.lg cc 1 X) d7 λt5=>A.ucV t5 λd8 t6=>A.chk d8 (A.uc0 t6 (A.heap (.ap cc 1 8 (.slice (some ⟨u,0,some 11⟩) 0 1) d8) d7 λt7 d9=>A.ucV t7 λY t8=>A.chk Y (A.uc0 t8 (A.opt (Ah 4 a e) λt9=>A.opt (Ag 3 t9) λm=>A.chk m (A.peek (.lg cc 1 m) d9 λu0=>A.ucV u0 λe0 u1=>A.chk e0 (A.uc0 u1 (A.heap (.ap cc 1 8 Y e0) d9 λu2 u3=>A.ucV u2 λe1 u4=>A.chk e1 (A.uc0 u4 (A.opt (Ah 4 a e) λu5=>A.opt (Ag 3 u5) λe2=>A.chk e2 (A.heap (.st e2 [e1]) u3 λz6 u6=>A.opt (Sx.sepL [(.slice (some ⟨u,0,some 11⟩) 0 1,(0,X)),(.slice (some ⟨u,0,some 11⟩) 0 1,(0,m)),(.slice (some ⟨u,0,some 11⟩) 0 1,(0,m)),(Y,(0,m))]) λz7=>d2 [] u6)))))))))))))) (d0 [.b t] c)) (d0 [.b t] c)) [.b false,.i 0] c6) (A.c0 59 [.v a] c6 λu7 u9=>A.c2 8 [.i n,.i o,.v x,.i p,.i q,.i r] u7 λv0 v1 z8=>A.c0 56 [.i n,.i o,.v x,.i p,.i q,.i r,.v y] v0 λv2 k=>A.loop (λv3 v4 f=>A.unI v4 λg v5=>A.k1 v5 λZ a0 a1 a2 a3 a4 a5=>A.ln k λv6=>A.cd .lss g v6 (A.join (λv7 v8=>A.k1 v7 λv9 w0 w1 w2 w3 w4 w5=>A.pa g 1 λw6=>v3 [.i w6,.i v9,.i w0,.v w1,.i w2,.i w3,.i w4,.v w5] v8) λe3=>A.fx 4 k g 2 2 f λw7=>A.ucI .u8 w7 λw8 w9=>A.k8 w9 λx0=>A.eqs [(.i w8,.i z),(.i x0,.i B)] λx1=>A.cond (!x1) (e3 [.i Z,.i a0,.v a1,.i a2,.i a3,.i a4,.v a5] f) (A.fx 4 k g 0 1 f λx2=>A.k8 x2 λx3=>A.fx 3 v1 x3 0 1 f λx4=>A.k9 x4 λx5=>A.cmp .lss x5 4 λx6=>A.eqs [(.b x6,.b a6)] λx7=>A.join (λx8 w=>A.k5 x8 λx9=>A.fx 4 k g 0 1 w λy0=>A.k8 y0 λy1=>A.fx 4 k g 0 1 w λy2=>A.k8 y2 λy3=>A.fx 4 k g 1 1 w λy4=>A.k8 y4 λy5=>A.c5 60 [.i n,.i o,.i y3,.i y5] w λy6 y7=>A.new (.cells [.int .i64 y1,.int .u8 y7,.int .u8 x9] 3 true) y6 λy8 y9=>A.heap (.ap cc 3 16 a1 (.slice (some ⟨y8,0,some 13⟩) 1 2)) y9 λz0 z1=>A.ucV z0 λe4 z2=>A.chk e4 (A.uc0 z2 (e3 [.i Z,.i a0,.v e4,.i a2,.i a3,.i a4,.v a5] z1))) λe5=>A.cond (!x7) (e5 [.i 1] f) (e5 [.i 2] f))) (A.c0 61 [.v a1] f λz3 z4=>K [.i Z,.i a0,.v z4,.i a2,.i a3,.i a4,.v a5] z3)) [.i 0,.i F,.i G,.v H,.i I,.i J,.i L,.v u9] v2)) [.v D,.i 0] C)) [.v (.slice none 0 0),.v (.slice none 0 0),.i 0,.i n,.i o,.v b0,.i p,.i q,.i r,.v (.slice none 0 0)] g0))
def f23:R:=A.k3 ls λa b=>A.c5 62 [.i a,.i b] h λc d=>A.cd .neq d 0 (K [.i 0] c) (A.pm 4 a λe=>A.pm e b λf=>K [.i f] c)
def f24:R:=A.unI ls λa b=>A.unI b λc d=>A.unV d λe f=>A.k11 f λg j k=>A.call 63 [.i a,.i c,.v e,.i g,.i j,.i k] h λl m=>A.unV l λn o=>A.k2 o λq p=>K [.v n,.i p] m
def f25:R:=A.unI ls λa b=>A.unI b λc d=>A.unV d λe f=>A.k11 f λg j k=>A.call 63 [.i a,.i c,.v e,.i g,.i j,.i k] h λl m=>A.unV l λq n=>A.k2 n λo p=>K [.v o,.i p] m
def f26:R:=A.unV ls λd f6=>A.k3 f6 λb k=>A.opt (zN d) λo=>A.chk o (A.opt (Ag 0 o) λp=>A.chk p (A.opt (Ag 0 p) λq=>A.chk q (A.peek (.lg cc 2 q) h λf7=>A.k15 f7 λf8 f9=>A.c7 64 [.i f8,.i f9,.i b] h λg0 g1 g2 g3 u3=>A.c7 51 [.i g1,.i g2,.i g3,.i k] g0 λl g4 g5 g6 u4=>A.opt (zN d) λr=>A.chk r (A.opt (Ag 3 r) λs=>A.chk s (A.peek (.lg cc 1 s) l λg7=>A.ucV g7 λt g8=>A.chk t (A.uc0 g8 (A.ix 3 t b 3 l λg9=>A.k12 g9 λh0 h1 h2=>A.c7 65 [.i h0,.i h1,.i h2,.i g4,.i g5,.i g6] l λm h3 h4 h5 u5=>A.opt (zN d) λu=>A.chk u (A.opt (Ag 4 u) λw=>A.chk w (A.peek (.lg cc 1 w) m λh6=>A.ucV h6 λx h7=>A.chk x (A.uc0 h7 (A.ix 3 x b 3 m λh8=>A.k4 h8 λh9 i0 i1=>A.c0 66 [.v d,.i h9,.i i0,.i i1,.i h3,.i h4,.i h5] m λy c=>A.opt (zN d) λz=>A.chk z (A.opt (Ag 0 z) λB=>A.chk B (A.opt (Ag 0 B) λC=>A.chk C (A.peek (.lg cc 2 C) y λi2=>A.k15 i2 λi3 i4=>A.c3 67 [.i i3,.i i4,.i b,.i k] y λf e i5=>A.cd .neq i5 0 (A.opt (zN c) λD=>A.chk D (A.opt (Ag 8 D) λE=>A.chk E (A.peek (.lg cc 1 E) f λi6=>A.ucV i6 λF i7=>A.chk F (A.uc0 i7 (A.new (.cells [.int .i64 b] 1 true) f λi8 i9=>A.heap (.ap cc 1 8 F (.slice (some ⟨i8,0,some 11⟩) 1 2)) i9 λj0 j1=>A.ucV j0 λG j2=>A.chk G (A.uc0 j2 (A.opt (zN c) λH=>A.chk H (A.opt (Ag 8 H) λI=>A.chk I (A.heap (.st I [G]) j1 λu6 j3=>K [] j3))))))))) (A.cd .lss e b (K [] f) (A.opt (zN d) λJ=>A.chk J (A.opt (Ag 0 J) λL=>A.chk L (A.peek (.lg cc 3 L) f λj4=>A.ucI .i64 j4 λj5 j6=>A.ucI .i64 j6 λj7 j8=>A.ucV j8 λM j9=>A.chk M (A.uc0 j9 (A.c3 68 [.i j5,.i j7,.v M,.i b,.i k] f λg n u7=>A.opt (zN d) λN=>A.chk N (A.opt (Ag 4 N) λO=>A.chk O (A.peek (.lg cc 1 O) g λk0=>A.ucV k0 λP k1=>A.chk P (A.uc0 k1 (A.ix 3 P b 3 g λk2=>A.k4 k2 λk6 k7 k9=>A.opt (zN c) λQ=>A.chk Q (A.opt (Ag 3 Q) λS=>A.chk S (A.peek (.lg cc 3 S) g λl0=>A.k4 l0 λl1 l2 l3=>A.eqs [(.i k6,.i l1),(.i k7,.i l2),(.i k9,.i l3)] λl4=>A.join (λl5 a=>A.k5 l5 λj=>A.cd .eql n 0 (A.cmp .eql j 0 λl6=>A.join (λl7 l8=>A.un0 l7 (K [] l8)) λT=>A.cond l6 (A.opt (zN c) λU=>A.chk U (A.opt (Ag 6 U) λV=>A.chk V (A.peek (.lg cc 1 V) a λl9=>A.ucV l9 λW m0=>A.chk W (A.uc0 m0 (A.new (.cells [.int .i64 b,.int .i64 e] 2 true) a λm1 m2=>A.heap (.ap cc 2 16 W (.slice (some ⟨m1,0,some 12⟩) 1 2)) m2 λm3 m4=>A.ucV m3 λX m5=>A.chk X (A.uc0 m5 (A.opt (zN c) λY=>A.chk Y (A.opt (Ag 6 Y) λZ=>A.chk Z (A.heap (.st Z [X]) m4 λu9 m6=>T [] m6))))))))) (A.cmp .eql n 0 λm7=>A.join (λm8 m9=>A.un0 m8 (T [] m9)) λa0=>A.cond m7 (A.opt (zN c) λa1=>A.chk a1 (A.opt (Ag 6 a1) λa2=>A.chk a2 (A.peek (.lg cc 1 a2) a λn0=>A.ucV n0 λa3 n1=>A.chk a3 (A.uc0 n1 (A.new (.cells [.int .i64 e,.int .i64 b] 2 true) a λn2 n3=>A.heap (.ap cc 2 16 a3 (.slice (some ⟨n2,0,some 12⟩) 1 2)) n3 λn4 n5=>A.ucV n4 λa4 n6=>A.chk a4 (A.uc0 n6 (A.opt (zN c) λa5=>A.chk a5 (A.opt (Ag 6 a5) λa6=>A.chk a6 (A.heap (.st a6 [a4]) n5 λv0 n7=>a0 [] n7))))))))) (A.opt (zN d) λa7=>A.chk a7 (A.opt (Ag 5 a7) λa8=>A.chk a8 (A.peek (.lg cc 1 a8) a λn8=>A.ucV n8 λa9 n9=>A.chk a9 (A.uc0 n9 (A.ix 1 a9 b 1 a λo0=>A.k8 o0 λo1=>A.opt (zN d) λb0=>A.chk b0 (A.opt (Ag 5 b0) λb1=>A.chk b1 (A.peek (.lg cc 1 b1) a λo2=>A.ucV o2 λb2 o3=>A.chk b2 (A.uc0 o3 (A.ix 1 b2 e 1 a λo4=>A.k8 o4 λo5=>A.cmp .lss o1 o5 λo6=>A.join (λo7 o8=>A.un0 o7 (a0 [] o8)) λb3=>A.cond o6 (A.opt (zN c) λb4=>A.chk b4 (A.opt (Ag 7 b4) λb5=>A.chk b5 (A.peek (.lg cc 1 b5) a λo9=>A.ucV o9 λb6 p0=>A.chk b6 (A.uc0 p0 (A.new (.cells [.int .u8 j,.int .i64 b,.int .i64 e] 3 true) a λp1 p2=>A.heap (.ap cc 3 24 b6 (.slice (some ⟨p1,0,some 13⟩) 1 2)) p2 λp3 p4=>A.ucV p3 λb7 p5=>A.chk b7 (A.uc0 p5 (A.opt (zN c) λb8=>A.chk b8 (A.opt (Ag 7 b8) λb9=>A.chk b9 (A.heap (.st b9 [b7]) p4 λv1 p6=>b3 [] p6))))))))) (A.opt (zN c) λc1=>A.chk c1 (A.opt (Ag 7 c1) λc2=>A.chk c2 (A.peek (.lg cc 1 c2) a λp7=>A.ucV p7 λc4 p8=>A.chk c4 (A.uc0 p8 (A.new (.cells [.int .u8 j,.int .i64 e,.int .i64 b] 3 true) a λp9 q0=>A.heap (.ap cc 3 24 c4 (.slice (some ⟨p9,0,some 13⟩) 1 2)) q0 λq1 q2=>A.ucV q1 λc5 q3=>A.chk c5 (A.uc0 q3 (A.opt (zN c) λc6=>A.chk c6 (A.opt (Ag 7 c6) λc8=>A.chk c8 (A.heap (.st c8 [c5]) q2 λv2 q4=>b3 [] q4)))))))))))))))))))) (A.cmp .eql n 0 λq5=>A.join (λq6 q7=>A.un0 q6 (K [] q7)) λc9=>A.cond q5 (A.opt (zN c) λd0=>A.chk d0 (A.opt (Ag 6 d0) λd1=>A.chk d1 (A.peek (.lg cc 1 d1) a λq8=>A.ucV q8 λd2 q9=>A.chk d2 (A.uc0 q9 (A.new (.cells [.int .i64 e,.int .i64 b] 2 true) a λr0 r1=>A.heap (.ap cc 2 16 d2 (.slice (some ⟨r0,0,some 12⟩) 1 2)) r1 λr2 r3=>A.ucV r2 λd3 r4=>A.chk d3 (A.uc0 r4 (A.opt (zN c) λd4=>A.chk d4 (A.opt (Ag 6 d4) λd5=>A.chk d5 (A.heap (.st d5 [d3]) r3 λv3 r5=>c9 [] r5))))))))) (A.opt (zN d) λd6=>A.chk d6 (A.opt (Ag 5 d6) λd7=>A.chk d7 (A.peek (.lg cc 1 d7) a λr6=>A.ucV r6 λd8 r7=>A.chk d8 (A.uc0 r7 (A.ix 1 d8 b 1 a λr8=>A.k8 r8 λr9=>A.opt (zN d) λd9=>A.chk d9 (A.opt (Ag 5 d9) λe0=>A.chk e0 (A.peek (.lg cc 1 e0) a λs0=>A.ucV s0 λe1 s1=>A.chk e1 (A.uc0 s1 (A.ix 1 e1 e 1 a λs2=>A.k8 s2 λs3=>A.cmp .lss r9 s3 λs4=>A.join (λs5 s6=>A.un0 s5 (c9 [] s6)) λe2=>A.cond s4 (A.opt (zN c) λe3=>A.chk e3 (A.opt (Ag 7 e3) λe4=>A.chk e4 (A.peek (.lg cc 1 e4) a λs7=>A.ucV s7 λe5 s8=>A.chk e5 (A.uc0 s8 (A.new (.cells [.int .u8 j,.int .i64 b,.int .i64 e] 3 true) a λs9 t0=>A.heap (.ap cc 3 24 e5 (.slice (some ⟨s9,0,some 13⟩) 1 2)) t0 λt1 t2=>A.ucV t1 λe6 t3=>A.chk e6 (A.uc0 t3 (A.opt (zN c) λe7=>A.chk e7 (A.opt (Ag 7 e7) λe8=>A.chk e8 (A.heap (.st e8 [e6]) t2 λv4 t4=>e2 [] t4))))))))) (A.opt (zN c) λe9=>A.chk e9 (A.opt (Ag 7 e9) λf0=>A.chk f0 (A.peek (.lg cc 1 f0) a λt5=>A.ucV t5 λf1 t6=>A.chk f1 (A.uc0 t6 (A.new (.cells [.int .u8 j,.int .i64 e,.int .i64 b] 3 true) a λt7 t8=>A.heap (.ap cc 3 24 f1 (.slice (some ⟨t7,0,some 13⟩) 1 2)) t8 λt9 u0=>A.ucV t9 λf2 u1=>A.chk f2 (A.uc0 u1 (A.opt (zN c) λf3=>A.chk f3 (A.opt (Ag 7 f3) λf4=>A.chk f4 (A.heap (.st f4 [f2]) u0 λv5 u2=>e2 [] u2)))))))))))))))))))) λf5=>A.cond l4 (f5 [.i 1] g) (f5 [.i 0] g)))))))))))))))))))))))))))
def f27:R:=A.unV ls λa c=>A.k0 c λd=>A.ln a λb=>A.conv .u64 b λe=>A.c5 70 [.i e] h λf g=>A.call 69 [.v a,.i 0,.i b,.i g,.v d] f λj k=>A.un0 j (K [] k)
def Yp:R:=A.unI ls λa b=>A.unI b λc d=>A.unI d λe f=>A.unI f λg j=>A.unI j λk l=>A.unI l λm n=>A.k14 n λo p q r s t=>A.c5 30 [.i a,.i c,.i e,.i o,.i p,.i q] h λu w=>A.c5 30 [.i g,.i k,.i m,.i r,.i s,.i t] u λx y=>A.new (.cells [.int .i64 w,.int .i64 y] 1 true) x λz B=>A.c5 29 [.v (.slice (some ⟨z,0,some 11⟩) 2 3)] B λC D=>K [.i D] C
def f29:R:=A.k0 ls λc=>A.ln c λe=>A.loop (λf g a=>A.k5 g λb=>A.cd .lss b e (A.ix 1 c b 1 a λj=>A.k8 j λd=>A.cd .neq d 0 (K [.i d] a) (A.pa b 1 λk=>f [.i k] a)) (K [.i 0] a)) [.i 0] h
def Yq:R:=A.k14 ls λa b c d e f=>A.ci c λg=>A.ci f λj=>A.new (.cells [.int .i64 b,.int .i64 e,.int .i64 a,.int .i64 d,.int .i64 g,.int .i64 j] 2 true) h λk l=>A.c5 71 [.v (.slice (some ⟨k,0,some 12⟩) 3 4)] l λm n=>K [.i n] m
def f31:R:=A.unV ls λW X=>A.k0 X λa=>A.new (.cells [W] 1 true) h λe w=>A.opt (zN a) λx=>A.chk x (A.opt (Ag 6 x) λy=>A.chk y (A.peek (.lg cc 1 y) w λY=>A.ucV Y λz Z=>A.chk z (A.uc0 Z (A.chk (.func (.func 73) ⟨[]⟩ ⟨[.pointer (some ⟨e,0,none⟩)]⟩) (A.call 72 [.v z,.v (.func (.func 73) ⟨[]⟩ ⟨[.pointer (some ⟨e,0,none⟩)]⟩)] w λa0 B=>A.un0 a0 (A.opt (zN a) λC=>A.chk C (A.opt (Ag 7 C) λD=>A.chk D (A.peek (.lg cc 1 D) B λa1=>A.ucV a1 λE a2=>A.chk E (A.uc0 a2 (A.chk (.func (.func 75) ⟨[]⟩ ⟨[.pointer (some ⟨e,0,none⟩)]⟩) (A.call 74 [.v E,.v (.func (.func 75) ⟨[]⟩ ⟨[.pointer (some ⟨e,0,none⟩)]⟩)] B λa3 F=>A.un0 a3 (A.opt (zN a) λG=>A.chk G (A.opt (Ag 8 G) λH=>A.chk H (A.peek (.lg cc 1 H) F λa4=>A.ucV a4 λI a5=>A.chk I (A.uc0 a5 (A.call 77 [.v I] F λa6 b=>A.un0 a6 (A.opt (zN a) λJ=>A.chk J (A.opt (Ag 0 J) λc=>A.chk c (A.peek (.lg cc 3 c) b λa7=>A.k4 a7 λf g j=>A.opt (zN a) λL=>A.chk L (A.opt (Ag 3 L) λd=>A.chk d (A.peek (.lg cc 3 d) b λa8=>A.k4 a8 λk l m=>A.opt (zN a) λM=>A.chk M (A.opt (Ag 6 M) λN=>A.chk N (A.peek (.lg cc 1 N) b λa9=>A.ucV a9 λO b0=>A.chk O (A.uc0 b0 (A.c0 79 [.v O] b λp b1=>A.c0 78 [.v b1] p λq b2=>A.opt (zN a) λP=>A.chk P (A.opt (Ag 7 P) λr=>A.chk r (A.peek (.lg cc 1 r) q λb3=>A.ucV b3 λs b4=>A.chk s (A.uc0 b4 (A.c0 81 [.v s] q λt b5=>A.c0 80 [.v b5] t λQ b6=>A.opt (zN a) λS=>A.chk S (A.opt (Ag 8 S) λn=>A.chk n (A.peek (.lg cc 1 n) Q λb7=>A.ucV b7 λo b8=>A.chk o (A.uc0 b8 (A.c0 83 [.v o] Q λu b9=>A.c0 82 [.v b9] u λc1 c2=>A.peek (.lg cc 3 c) p λc3=>A.k4 c3 λc4 c5 c6=>A.opt (Sx.eqIn f c4) λf3=>A.opt (Sx.eqIn g c5) λf4=>A.opt (Sx.eqIn j c6) λf5=>A.peek (.lg cc 3 d) p λc7=>A.k4 c7 λc8 c9 d0=>A.opt (Sx.eqIn k c8) λf6=>A.opt (Sx.eqIn l c9) λf7=>A.opt (Sx.eqIn m d0) λf8=>A.peek (.lg cc 1 r) b λd1=>A.ucV d1 λT d2=>A.chk T (A.uc0 d2 (A.opt (Sx.eqVl s T) λf9=>A.peek (.lg cc 3 c) t λd3=>A.k4 d3 λd4 d5 d6=>A.opt (Sx.eqIn f d4) λg0=>A.opt (Sx.eqIn g d5) λg1=>A.opt (Sx.eqIn j d6) λg2=>A.peek (.lg cc 3 d) t λd7=>A.k4 d7 λd8 d9 e0=>A.opt (Sx.eqIn k d8) λg3=>A.opt (Sx.eqIn l d9) λg4=>A.opt (Sx.eqIn m e0) λg5=>A.peek (.lg cc 1 n) b λe1=>A.ucV e1 λU e2=>A.chk U (A.uc0 e2 (A.opt (Sx.eqVl o U) λg6=>A.peek (.lg cc 1 n) q λe3=>A.ucV e3 λV e4=>A.chk V (A.uc0 e4 (A.opt (Sx.eqVl o V) λg7=>A.peek (.lg cc 3 c) u λe5=>A.k4 e5 λe6 e7 e8=>A.opt (Sx.eqIn f e6) λg8=>A.opt (Sx.eqIn g e7) λg9=>A.opt (Sx.eqIn j e8) λh0=>A.peek (.lg cc 3 d) u λe9=>A.k4 e9 λf0 f1 f2=>A.opt (Sx.eqIn k f0) λh1=>A.opt (Sx.eqIn l f1) λh2=>A.opt (Sx.eqIn m f2) λh3=>K [.i f,.i g,.i j,.i k,.i l,.i m,.v b2,.v b6,.v c2] c1)))))))))))))))))))))))))))))))))))))))
def f32:R:=A.k7 ls λb e f g=>A.c11 35 [.i b,.i e,.i f] h λj k l m=>A.c11 39 [.i k,.i l,.i m,.i g] j λa c d n=>A.cd .lss c 0 (K [.i (-1)] a) (A.cd .lss d 0 (K [.i (-1)] a) (A.cd .geq c b (K [.i (-1)] a) (A.cd .geq d e (K [.i (-1)] a) (A.pm d b λo=>A.pa o c λp=>A.pm 4 p λq=>A.ci n λr=>A.pa q r λs=>K [.i s] a))))
def Yr:R:=A.k14 ls λb c d e f g=>A.c3 84 [.i b,.i c,.i d,.i 0,.i 0] h λp q r=>A.c3 84 [.i e,.i f,.i g,.i q,.i r] p λs t u=>A.c3 84 [.i b,.i c,.i d,.i 6,.i 0] s λv w x=>A.c3 84 [.i e,.i f,.i g,.i w,.i x] v λy z B=>A.c3 84 [.i b,.i c,.i d,.i 0,.i 6] y λC D E=>A.c3 84 [.i e,.i f,.i g,.i D,.i E] C λF G H=>A.loop (λl I m=>A.k5 I λa=>A.cd .lss a 8 (A.c5 85 [.i t,.i 6] m λJ j=>A.c5 85 [.i u,.i 6] J λL k=>A.c3 84 [.i a,.i j,.i k,.i 6,.i 0] L λn M N=>A.eqs [(.i M,.i z),(.i N,.i B)] λO=>A.cond O (A.c3 84 [.i a,.i j,.i k,.i 0,.i 6] n λo P Q=>A.eqs [(.i P,.i G),(.i Q,.i H)] λS=>A.join (λT U=>A.un0 T (A.ari .add .u8 a 1 λV=>l [.i V] U)) λW=>A.cond S (K [.i a,.i j,.i k] o) (W [] o)) (A.ari .add .u8 a 1 λX=>l [.i X] n)) (K [.i 0,.i 0,.i 0] m)) [.i 0] F
def Ys:R:=A.k14 ls λa b c d e f=>A.cd .neq a d (A.c5 86 [.i a,.i d] h λg j=>A.pm 2 j λk=>K [.i 4,.i k,.i 0] g) (A.cd .neq b e (A.c5 86 [.i b,.i e] h λl m=>A.pm 2 m λn=>K [.i 6,.i 0,.i n] l) (A.ari .add .u8 c f λo=>A.cd .eql o 1 (A.pa a b λp=>A.pa p 1 λq=>A.pa a b λr=>A.pa r 1 λs=>K [.i 5,.i q,.i s] h) (A.ari .add .u8 c f λt=>A.cd .eql t 5 (A.pa a b λu=>A.pa u 1 λv=>A.pa a b λw=>A.pa w 1 λx=>K [.i 5,.i v,.i x] h) (A.ps a b λy=>A.ps b a λz=>K [.i 7,.i y,.i z] h))))
def f35:R:=A.k11 ls λb k a=>A.pq a 4 λc=>A.ari .rem .i64 c b λd=>A.pq a 4 λe=>A.pq e b λf=>A.ari .rem .i64 a 4 λg=>A.conv .u8 g λj=>K [.i d,.i f,.i j] h
def f36:R:=A.k7 ls λe f g c=>A.cd .eql c 0 (K [.i 0] h) (A.c11 35 [.i e,.i f,.i g] h λa o p d=>A.cd .eql d 0 (A.cmp .eql c 1 λj=>A.eqs [(.b true,.b j)] λk=>A.cond k (K [.i 1] a) (K [.i 2] a)) (A.cmp .eql d 2 λl=>A.cmp .eql c 1 λm=>A.eqs [(.b l,.b m)] λn=>A.cond n (K [.i 1] a) (K [.i 2] a)))
def f37:R:=A.unV ls λc e=>A.k11 e λf g j=>A.loop (λk l a=>A.k5 l λb=>A.ln c λm=>A.cd .lss b m (A.fx 4 c b 0 3 a λn=>A.k4 n λo p q=>A.eqs [(.i o,.i f),(.i p,.i g),(.i q,.i j)] λr=>A.cond r (A.fx 4 c b 3 1 a λs=>A.ucV s λd t=>A.chk d (A.uc0 t (K [.v d] a))) (A.pa b 1 λu=>k [.i u] a)) (K [.v (.slice none 0 0)] a)) [.i 0] h
def Yt:R:=A.k14 ls λa b c d e f=>A.c3 88 [.i d,.i e,.i f] h λg j k=>A.c3 84 [.i a,.i b,.i c,.i j,.i k] g λl m n=>A.c11 87 [.i m,.i n] l λo p q r=>K [.i p,.i q,.i r] o
def f39:R:=A.k7 ls λa b c d=>A.cd .eql d 0 (A.cd .eql c 0 (A.ps b 1 λe=>K [.i a,.i e,.i 2] h) (A.cd .eql c 1 (A.pa a 1 λf=>K [.i f,.i b,.i 3] h) (A.cd .eql c 2 (A.pa b 1 λg=>K [.i a,.i g,.i 0] h) (A.ps a 1 λj=>K [.i j,.i b,.i 1] h)))) (A.cd .eql d 1 (A.ari .add .u8 c 1 λk=>A.ari .rem .u8 k 4 λl=>K [.i a,.i b,.i l] h) (A.ari .add .u8 c 3 λm=>A.ari .rem .u8 m 4 λn=>K [.i a,.i b,.i n] h))
def f40:R:=A.k2 ls λc d=>A.loop (λe f a=>A.k5 f λb=>A.ln c λg=>A.cd .lss b g (A.ix 1 c b 1 a λj=>A.k8 j λk=>A.cd .eql k d (K [.i b] a) (A.pa b 1 λl=>e [.i l] a)) (K [.i (-1)] a)) [.i 0] h
def f43:R:=A.unV ls λc e=>A.k11 e λf g j=>A.ln c λk=>A.loop (λl m a=>A.k5 m λb=>A.cd .lss b k (A.ix 4 c b 4 a λn=>A.ucI .i64 n λo p=>A.ucI .i64 p λq r=>A.ucI .u8 r λs t=>A.ucV t λd u=>A.chk d (A.uc0 u (A.eqs [(.i o,.i f),(.i q,.i g),(.i s,.i j)] λw=>A.cond w (A.c0 83 [.v d] a λx y=>A.c0 82 [.v y] x λz B=>K [.v B] z) (A.pa b 1 λC=>l [.i C] a)))) (K [.v (.slice none 0 0)] a)) [.i 0] h
def f44:R:=A.unI ls λd4 u=>A.unI u λd5 w=>A.unI w λd6 x=>A.unI x λd7 y=>A.unI y λd8 z=>A.unI z λd9 B=>A.unV B λn C=>A.unV C λo D=>A.unV D λe0 E=>A.unI E λg F=>A.k0 F λG=>A.new (.cells [G] 1 true) h λd H=>A.new (.cells [.bool false] 1 true) H λa I=>A.heap (.st (.pointer (some ⟨a,0,none⟩)) [.bool true]) I λe1 J=>A.chk (.func (.func 89) ⟨[]⟩ ⟨[.pointer (some ⟨d,0,none⟩),.pointer (some ⟨a,0,none⟩)]⟩) (A.ln n λL=>A.loop (λM N j=>A.k2 N λp k=>A.cd .lss k L (A.ix 2 n k 2 j λO=>A.k15 O λP Q=>A.opt (BM 2 g) λe2=>A.opt (iW [.i P,.i Q] 0 [(g,1)] 1) λS=>A.k5 S λT=>A.callv (.func (.func 89) ⟨[]⟩ ⟨[.pointer (some ⟨d,0,none⟩),.pointer (some ⟨a,0,none⟩)]⟩) [.int .i64 T] [.leaf (.i .i64)] j λU V=>A.k5 U λW=>A.new (.cells [.int .i64 W] 1 true) V λX Y=>A.heap (.ap cc 1 8 p (.slice (some ⟨X,0,some 11⟩) 1 2)) Y λZ a0=>A.ucV Z λq a1=>A.chk q (A.uc0 a1 (A.pa k 1 λa2=>M [.v q,.i a2] a0))) (A.ln o λa3=>A.loop (λa4 a5 c=>A.k2 a5 λl m=>A.cd .lss m a3 (A.ix 3 o m 3 c λa6=>A.k12 a6 λa7 a8 a9=>A.cmp .eql a7 g λb0=>A.join (λb1 b2=>A.k0 b1 λb3=>A.pa m 1 λb4=>a4 [.v b3,.i b4] b2) λr=>A.cond b0 (A.callv (.func (.func 89) ⟨[]⟩ ⟨[.pointer (some ⟨d,0,none⟩),.pointer (some ⟨a,0,none⟩)]⟩) [.int .i64 a8] [.leaf (.i .i64)] c λb5 b6=>A.k5 b5 λe=>A.callv (.func (.func 89) ⟨[]⟩ ⟨[.pointer (some ⟨d,0,none⟩),.pointer (some ⟨a,0,none⟩)]⟩) [.int .i64 a9] [.leaf (.i .i64)] b6 λb7 b8=>A.k5 b7 λf=>A.cmp .lss f e λb9=>A.sel b9 f e λc0=>A.cmp .lss e f λc1=>A.sel c1 f e λc2=>A.new (.cells [.int .i64 c0,.int .i64 c2] 2 true) b8 λc3 c4=>A.heap (.ap cc 2 16 l (.slice (some ⟨c3,0,some 12⟩) 1 2)) c4 λc5 c6=>A.ucV c5 λs c7=>A.chk s (A.uc0 c7 (r [.v s] c6))) (r [.v l] c)) (A.peek (.lg cc 1 (.pointer (some ⟨a,0,none⟩))) c λc8=>A.ucB c8 λc9 d0=>A.uc0 d0 (A.heap (.st (.pointer (some ⟨a,0,none⟩)) [.bool c9]) c λe3 t=>A.peek (.ld 1 (.pointer (some ⟨a,0,none⟩))) t λd1=>A.ucB d1 λd2 d3=>A.uc0 d3 (K [.v l,.v p,.b d2] t)))) [.v (.slice none 0 0),.i 0] j)) [.v (.slice none 0 0),.i 0] J)
def f45:R:=A.unV ls λa c=>A.k0 c λd=>A.c5 91 [.v a,.v d] h λe f=>A.cmp .geq f 0 λg=>K [.b g] e
def f46:R:=A.k11 ls λa d e=>A.cmp .gtr a 1 λc=>K [.b c] h
def Yu:R:=A.k3 ls λb c=>A.c6 92 [.i b] h λe f=>A.c6 92 [.i c] e λa d=>A.cond f (A.cond d (K [.i 0] a) (K [.i (-1)] a)) (A.cond d (K [.i 1] a) (A.cd .lss b c (K [.i (-1)] a) (A.cd .gtr b c (K [.i 1] a) (K [.i 0] a))))
def f48:R:=A.unV ls λd E=>A.k3 E λp q=>A.c5 62 [.i p,.i q] h λr s=>A.cd .neq s 0 (K [.i s] r) (A.c5 23 [.i p,.i q] r λF G=>A.new (.cells [.int .i64 0] 1 true) F λe H=>A.heap (.st (.pointer (some ⟨e,0,none⟩)) [.int .i64 G]) H λd7 I=>A.ln d λJ=>A.loop (λt L j=>A.k5 L λb=>A.cd .lss b J (A.ix 4 d b 4 j λM=>A.ucI .i64 M λu N=>A.ucI .i64 N λw O=>A.ucI .u8 O λx P=>A.ucV P λk Q=>A.chk k (A.uc0 Q (A.chk (.func (.func 93) ⟨[]⟩ ⟨[.pointer (some ⟨e,0,none⟩)]⟩) (A.c6 49 [.v k,.v (.func (.func 93) ⟨[]⟩ ⟨[.pointer (some ⟨e,0,none⟩)]⟩)] j λS y=>A.c5 94 [.i u,.i w,.i x] S λc T=>A.cd .neq T 0 (K [.i 1] c) (A.cd .gtr b 0 (A.ps b 1 λU=>A.fx 4 d U 0 3 c λV=>A.k4 V λW X Y=>A.c5 30 [.i W,.i X,.i Y,.i u,.i w,.i x] c λl Z=>A.cd .geq Z 0 (K [.i 1] l) (A.ln k λa0=>A.cd .eql a0 0 (K [.i 1] l) (A.join (λa1 a2=>A.un0 a1 (A.pa b 1 λa3=>t [.i a3] a2)) λa4=>A.cond y (K [.i 1] l) (a4 [] l)))) (A.ln k λa5=>A.cd .eql a5 0 (K [.i 1] c) (A.join (λa6 a7=>A.un0 a6 (A.pa b 1 λa8=>t [.i a8] a7)) λa9=>A.cond y (K [.i 1] c) (a9 [] c)))))))) (A.peek (.lg cc 1 (.pointer (some ⟨e,0,none⟩))) j λb0=>A.k8 b0 λa=>A.opt (B7 a a) λd8=>A.new (.cells (bk [.bool false] (Int.toNat a)) 1 true) j λz b1=>A.ln d λb2=>A.loop (λb3 b4 f=>A.k3 b4 λB m=>A.cd .lss m b2 (A.ix 4 d m 4 f λb5=>A.ucI .i64 b5 λd9 b6=>A.ucI .i64 b6 λe0 b7=>A.ucI .u8 b7 λe1 b8=>A.ucV b8 λn b9=>A.chk n (A.uc0 b9 (A.ln n λc0=>A.loop (λc1 c2 g=>A.k3 c2 λC o=>A.cd .lss o c0 (A.ix 1 n o 1 g λc3=>A.k8 c3 λD=>A.opt (Ah 1 (.slice (some ⟨z,0,some 11⟩) (Int.toNat a) ((Int.toNat a)+1)) D) λc4=>A.peek (.lg cc 1 c4) g λc7=>A.ucB c7 λc8 c9=>A.uc0 c9 (A.cond c8 (K [.i 8] g) (A.opt (Ah 1 (.slice (some ⟨z,0,some 11⟩) (Int.toNat a) ((Int.toNat a)+1)) D) λd0=>A.heap (.st d0 [.bool true]) g λe2 d1=>A.pa C 1 λd2=>A.pa o 1 λd3=>c1 [.i d2,.i d3] d1))) (A.pa m 1 λd4=>b3 [.i C,.i d4] g)) [.i B,.i 0] f))) (A.peek (.lg cc 1 (.pointer (some ⟨e,0,none⟩))) f λd5=>A.k8 d5 λd6=>A.cd .lss B d6 (K [.i 6] f) (K [.i 0] f))) [.i 0,.i 0] b1)) [.i 0] I)
def f49:R:=A.unV ls λa c=>A.k0 c λd=>A.c5 95 [.v a,.v d] h λe f=>A.cmp .geq f 0 λg=>K [.b g] e
def f50:R:=A.unI ls λd e=>A.unV e λf g=>A.k0 g λj=>A.peek (.lg cc 1 f) h λk=>A.ucV k λa l=>A.chk a (A.uc0 l (A.ix 3 a d 3 h λm=>A.k4 m λn o p=>A.opt (Ag 0 j) λc=>A.chk c (A.peek (.lg cc 3 c) h λq=>A.k4 q λr s t=>A.eqs [(.i n,.i r),(.i o,.i s),(.i p,.i t)] λu=>K [.b (!u)] h)))
def Ve:R:=A.k7 ls λd e a b=>A.c5 94 [.i d,.i e,.i a] h λc l=>A.cd .neq l 0 (K [.i 0,.i 0,.i 0,.i 1] c) (A.cd .gtr b 2 (K [.i 0,.i 0,.i 0,.i 1] c) (A.opt (BM 4 a) λq=>A.opt (BM 3 b) λr=>A.opt (mh SN 4 [(a,17),(b,3)] 3) λm=>A.k4 m λn o f=>A.pa n d λg=>A.pa o e λj=>A.c5 94 [.i g,.i j,.i f] c λk p=>A.cd .neq p 0 (K [.i 0,.i 0,.i 0,.i 3] k) (K [.i g,.i j,.i f,.i 0] k)))
def f52:R:=A.k14 ls λc d e f g j=>A.c5 94 [.i c,.i d,.i e] h λk o=>A.cd .neq o 0 (K [.i 0,.i 1] k) (A.c5 94 [.i f,.i g,.i j] k λl p=>A.cd .neq p 0 (K [.i 0,.i 1] l) (A.loop (λm q n=>A.k5 q λa=>A.cd .lss a 3 (A.c7 51 [.i c,.i d,.i e,.i a] n λb r s t u=>A.cd .eql u 0 (A.eqs [(.i r,.i f),(.i s,.i g),(.i t,.i j)] λv=>A.join (λw x=>A.un0 w (A.ari .add .u8 a 1 λy=>m [.i y] x)) λz=>A.cond v (K [.i a,.i 0] b) (z [] b)) (A.ari .add .u8 a 1 λB=>m [.i B] b)) (K [.i 0,.i 7] n)) [.i 0] l))
def Vf:R:=A.k5 ls λa=>A.join (λd e=>A.k6 d λf=>K [.b f] e) λc=>A.cd .lss a (-16384) (c [.b true] h) (A.cmp .gtr a 16384 λg=>c [.b g] h)
def f56:R:=A.k1 ls λb c l r s t c1=>A.c2 8 [.i b,.i c,.v l,.i r,.i s,.i t] h λu j c4=>A.c0 9 [.i b,.i c,.v l] u λw x=>A.loop (λy z m=>A.k2 z λn a=>A.ln j λB=>A.cd .lss a B (A.loop (λC D o=>A.k2 D λe f=>A.cd .lss f 3 (A.join (λE F=>A.k0 E λG=>A.pa f 1 λH=>C [.v G,.i H] F) λk=>A.c5 32 [.i b,.i c,.i a,.i f] o λd g=>A.cd .lss g a (k [.v e] d) (A.pm 3 a λI=>A.pa I f λJ=>A.ix 1 x J 1 d λL=>A.k9 L λM=>A.cd .neq M 0 (k [.v e] d) (A.ix 3 j a 3 d λN=>A.k12 N λO P Q=>A.c11 35 [.i b,.i c,.i a] d λS T U V=>A.c11 38 [.i O,.i P,.i Q,.i T,.i U,.i V] S λp W X Y=>A.ix 3 j g 3 p λZ=>A.k12 Z λa0 a1 a2=>A.c11 35 [.i b,.i c,.i g] p λa3 a4 a5 a6=>A.c11 38 [.i a0,.i a1,.i a2,.i a4,.i a5,.i a6] a3 λa7 a8 a9 b0=>A.c3 97 [.i W,.i X,.i Y,.i a8,.i a9,.i b0] a7 λb1 b2 b3=>A.new (.cells [.int .i64 a,.int .i64 g,.int .u8 b2,.int .i64 b3] 4 true) b1 λb4 b5=>A.heap (.ap cc 4 32 e (.slice (some ⟨b4,0,some 14⟩) 1 2)) b5 λb6 b7=>A.ucV b6 λq b8=>A.chk q (A.uc0 b8 (k [.v q] b7))))) (A.pa a 1 λb9=>y [.v e,.i b9] o)) [.v n,.i 0] m) (K [.v n] m)) [.v (.slice none 0 0),.i 0] w
def Yv:R:=A.k3 ls λb a=>A.cd .eql b 1 (A.pm 2 a λc=>K [.i 4,.i c,.i 0] h) (A.cd .eql b 2 (A.pm 2 a λd=>K [.i 6,.i 0,.i d] h) (A.cd .eql b 3 (K [.i 5,.i a,.i a] h) (A.ps 0 a λe=>K [.i 7,.i e,.i a] h)))
def Yw:R:=A.unI ls λd e=>A.k7 e λf g j k=>A.c3 88 [.i g,.i j,.i k] h λl a b=>A.pa a b λm=>A.ps b a λn=>A.new (.cells [.int .i64 0,.int .i64 a,.int .i64 b,.int .i64 m,.int .i64 n] 1 true) l λo c=>A.opt (Ah 1 (.slice (some ⟨o,0,some 11⟩) 5 6) d) λp=>A.peek (.lg cc 1 p) c λq=>A.k8 q λr=>A.pm 6 f λs=>A.cd .lss r s (K [.i 0] c) (K [.i 1] c)
def f59:R:=A.k0 ls λl=>A.new (.cells [] 4 true) h λm n=>A.heap (.ap cc 4 48 (.slice (some ⟨m,0,some 14⟩) 0 1) l) n λo p=>A.ucV o λa q=>A.chk a (A.uc0 q (A.loop (λr s f=>A.k5 s λe=>A.ln a λt=>A.cd .lss e t (A.join (λu w=>A.un0 u (A.pa e 1 λx=>r [.i x] w)) λg=>A.loop (λy z c=>A.k5 z λb=>A.cd .gtr b 0 (A.ps b 1 λB=>A.fx 4 a B 0 3 c λC=>A.k4 C λD E F=>A.fx 4 a b 0 3 c λG=>A.k4 G λH I J=>A.c5 98 [.i D,.i E,.i F,.i H,.i I,.i J] c λd L=>A.cd .eql L 1 (A.ps b 1 λM=>A.ix 4 a b 4 d λN=>A.ucI .i64 N λO P=>A.ucI .i64 P λQ S=>A.ucI .u8 S λT U=>A.ucV U λj V=>A.chk j (A.uc0 V (A.ps b 1 λW=>A.ix 4 a W 4 d λX=>A.ucI .i64 X λY Z=>A.ucI .i64 Z λa0 a1=>A.ucI .u8 a1 λa2 a3=>A.ucV a3 λk a4=>A.chk k (A.uc0 a4 (A.opt (Ah 4 a M) λa5=>A.heap (.st a5 [.int .i64 O,.int .i64 Q,.int .u8 T,j]) d λb0 a6=>A.opt (Ah 4 a b) λa7=>A.heap (.st a7 [.int .i64 Y,.int .i64 a0,.int .u8 a2,k]) a6 λb1 a8=>A.ps b 1 λa9=>y [.i a9] a8))))) (g [] d)) (g [] c)) [.i e] f) (K [.v a] f)) [.i 1] p))
def f60:R:=A.k7 ls λf g b c=>A.loop (λj k e=>A.k5 k λd=>A.cd .lss d 3 (A.c5 32 [.i f,.i g,.i b,.i d] e λa l=>A.cd .neq l c (A.pa d 1 λm=>j [.i m] a) (A.ari .rem .i64 b 4 λn=>A.ari .rem .i64 c 4 λo=>A.pa n o λp=>A.cd .eql p 1 (K [.i 1] a) (A.ari .rem .i64 b 4 λq=>A.ari .rem .i64 c 4 λr=>A.pa q r λs=>A.cd .eql s 5 (K [.i 1] a) (K [.i 2] a)))) (K [.i 0] e)) [.i 1] h
def Yx:R:=A.k0 ls λb=>A.loop (λk l g=>A.k5 l λd=>A.ln b λm=>A.cd .lss d m (A.join (λn o=>A.un0 n (A.pa d 1 λp=>k [.i p] o)) λe=>A.loop (λj q c=>A.k5 q λa=>A.cd .gtr a 0 (A.ps a 1 λr=>A.fx 3 b r 0 1 c λs=>A.k8 s λt=>A.fx 3 b a 0 1 c λu=>A.k8 u λw=>A.cd .gtr t w (A.ps a 1 λx=>A.ix 3 b a 3 c λy=>A.k13 y λz B C=>A.ps a 1 λD=>A.ix 3 b D 3 c λE=>A.k13 E λF G H=>A.opt (Ah 3 b x) λI=>A.heap (.st I [.int .i64 z,.int .u8 B,.int .u8 C]) c λb7 J=>A.opt (Ah 3 b a) λL=>A.heap (.st L [.int .i64 F,.int .u8 G,.int .u8 H]) J λb8 M=>A.ps a 1 λN=>j [.i N] M) (A.ps a 1 λO=>A.fx 3 b O 0 1 c λP=>A.k8 P λQ=>A.fx 3 b a 0 1 c λS=>A.k8 S λT=>A.cd .eql Q T (A.ps a 1 λU=>A.fx 3 b U 1 1 c λV=>A.k9 V λW=>A.fx 3 b a 1 1 c λX=>A.k9 X λY=>A.cmp .gtr W Y λZ=>A.join (λa0 f=>A.un0 a0 (A.ps a 1 λa1=>A.ix 3 b a 3 f λa2=>A.k13 a2 λa3 a4 a5=>A.ps a 1 λa6=>A.ix 3 b a6 3 f λa7=>A.k13 a7 λa8 a9 b0=>A.opt (Ah 3 b a1) λb1=>A.heap (.st b1 [.int .i64 a3,.int .u8 a4,.int .u8 a5]) f λb9 b2=>A.opt (Ah 3 b a) λb3=>A.heap (.st b3 [.int .i64 a8,.int .u8 a9,.int .u8 b0]) b2 λc0 b4=>A.ps a 1 λb5=>j [.i b5] b4)) λb6=>A.cond Z (b6 [] c) (e [] c)) (e [] c))) (e [] c)) [.i d] g) (K [.v b] g)) [.i 1] h
def Yy:R:=A.k3 ls λa b=>A.cd .lss a 1 (K [.i 1] h) (A.cd .lss b 1 (K [.i 1] h) (A.cd .gtr a 256 (K [.i 1] h) (A.cd .gtr b 256 (K [.i 1] h) (A.pm a b λc=>A.cd .gtr c 256 (K [.i 1] h) (K [.i 0] h)))))
def f63:R:=A.unI ls λd x=>A.unI x λe y=>A.unV y λj z=>A.k11 z λk l m=>A.c5 99 [.i d,.i e,.v j] h λn o=>A.cd .neq o 0 (K [.v (.slice none 0 0),.v (.slice none 0 0),.i o] n) (A.c5 18 [.i k,.i l,.i m] n λp B=>A.cd .neq B 0 (K [.v (.slice none 0 0),.v (.slice none 0 0),.i 1] p) (A.c2 100 [.i d,.i e,.v j] p λq c r=>A.cd .neq r 0 (K [.v (.slice none 0 0),.v (.slice none 0 0),.i r] q) (A.ln c λa=>A.opt (B7 a a) λa5=>A.new (.cells (bk [.int .i64 0,.int .i64 0,.int .u8 0] (Int.toNat a)) 3 true) q λs C=>A.ln c λD=>A.loop (λE F f=>A.k5 F λb=>A.cd .lss b D (A.ix 3 c b 3 f λG=>A.k12 G λH I J=>A.c7 64 [.i d,.i e,.i b] f λL M N O a6=>A.c7 101 [.i H,.i I,.i J,.i k,.i l,.i m] L λP Q S T t=>A.opt (Ah 3 c b) λU=>A.heap (.st U [.int .u8 Q,.int .i64 S,.int .i64 T]) P λa7 g=>A.cd .neq t 0 (K [.v (.slice none 0 0),.v (.slice none 0 0),.i t] g) (A.ix 3 c b 3 g λV=>A.k12 V λW X Y=>A.c7 65 [.i W,.i X,.i Y,.i M,.i N,.i O] g λZ a0 a1 a2 u=>A.opt (Ah 3 (.slice (some ⟨s,0,some 13⟩) (Int.toNat a) ((Int.toNat a)+1)) b) λa3=>A.heap (.st a3 [.int .i64 a0,.int .i64 a1,.int .u8 a2]) Z λa8 w=>A.cd .neq u 0 (K [.v (.slice none 0 0),.v (.slice none 0 0),.i u] w) (A.pa b 1 λa4=>E [.i a4] w))) (K [.v c,.v (.slice (some ⟨s,0,some 13⟩) (Int.toNat a) ((Int.toNat a)+1)),.i 0] f)) [.i 0] C)))
def Yz:R:=A.k11 ls λa b c=>A.c5 62 [.i a,.i b] h λd e=>A.cd .neq e 0 (K [.i 0,.i 0,.i 0,.i e] d) (A.c6 102 [.i a,.i b,.i c] d λf g=>A.cond (!g) (K [.i 0,.i 0,.i 0,.i 7] f) (A.c11 103 [.i a,.i b,.i c] f λj k l m=>K [.i k,.i l,.i m,.i 0] j))
def YA:R:=A.k14 ls λa b c d e f=>A.c5 18 [.i a,.i b,.i c] h λg o=>A.cd .neq o 0 (K [.i 0,.i 0,.i 0,.i 1] g) (A.c5 94 [.i d,.i e,.i f] g λj p=>A.cd .neq p 0 (K [.i 0,.i 0,.i 0,.i 1] j) (A.c11 104 [.i a,.i b,.i c,.i d,.i e,.i f] j λq k l m=>A.c5 94 [.i k,.i l,.i m] q λn r=>A.cd .neq r 0 (K [.i 0,.i 0,.i 0,.i 3] n) (K [.i k,.i l,.i m,.i 0] n)))
def f66:R:=A.unV ls λa S=>A.k14 S λk l m n o p=>A.c5 30 [.i k,.i l,.i m,.i n,.i o,.i p] h λt T=>A.cmp .gtr T 0 λU=>A.join (λV b=>A.k14 V λc d e f g j=>A.opt (zN a) λu=>A.chk u (A.opt (Ag 6 u) λw=>A.chk w (A.peek (.lg cc 1 w) b λW=>A.ucV W λx X=>A.chk x (A.uc0 X (A.peek (.fn (DL cc 92 false (.pointer none) x (.agg ⟨[.int .i64 c,.int .i64 d,.int .u8 e,.int .i64 f,.int .i64 g,.int .u8 j]⟩) false)) b λY=>A.ucV Y λy Z=>A.chk y (A.uc0 Z (A.opt (lS 4 y (.pointer none)) λa0=>A.join (λa1 q=>A.un0 a1 (A.opt (zN a) λz=>A.chk z (A.opt (Ag 6 z) λB=>A.chk B (A.peek (.lg cc 1 B) q λa2=>A.ucV a2 λC a3=>A.chk C (A.uc0 a3 (A.peek (.fn (DL cc 92 false (.pointer none) C (.agg ⟨[.int .i64 c,.int .i64 d,.int .u8 e,.int .i64 f,.int .i64 g,.int .u8 j]⟩) false)) q λa4=>A.ucV a4 λD a5=>A.chk D (A.uc0 a5 (K [.v D] q)))))))) λE=>A.cond a0 (A.opt (zN a) λF=>A.chk F (A.opt (Ag 6 F) λr=>A.chk r (A.peek (.lg cc 1 r) b λa6=>A.ucV a6 λG a7=>A.chk G (A.uc0 a7 (A.new (.cells [.int .i64 c,.int .i64 d,.int .u8 e,.int .i64 f,.int .i64 g,.int .u8 j,.slice none 0 0,.slice none 0 0,.slice none 0 0] 9 true) b λH a8=>A.heap (.fn (HF cc 92 G (.agg ⟨[.int .i64 c,.int .i64 d,.int .u8 e,.int .i64 f,.int .i64 g,.int .u8 j]⟩) (.pointer (some ⟨H,0,none⟩)))) a8 λb6 I=>A.opt (Sx.sepL [(.pointer (some ⟨H,0,none⟩),(0,r))]) λb7=>A.opt (zN a) λJ=>A.chk J (A.opt (Ag 7 J) λs=>A.chk s (A.peek (.lg cc 1 s) I λa9=>A.ucV a9 λL b0=>A.chk L (A.uc0 b0 (A.new (.cells [.int .i64 c,.int .i64 d,.int .u8 e,.int .i64 f,.int .i64 g,.int .u8 j] 6 true) I λM b1=>A.heap (.ap cc 6 48 L (.slice (some ⟨M,0,some 16⟩) 1 2)) b1 λb2 b3=>A.ucV b2 λN b4=>A.chk N (A.uc0 b4 (A.opt (zN a) λO=>A.chk O (A.opt (Ag 7 O) λP=>A.chk P (A.heap (.st P [N]) b3 λb8 b5=>A.opt (Sx.sepL [(.slice (some ⟨M,0,some 16⟩) 1 2,(0,s))]) λb9=>E [] b5))))))))))))) (E [] b)))))))) λQ=>A.cond U (Q [.i n,.i o,.i p,.i k,.i l,.i m] t) (Q [.i k,.i l,.i m,.i n,.i o,.i p] t)
def Vg:R:=A.k7 ls λa b f g=>A.c7 64 [.i a,.i b,.i f] h λc j k l d=>A.cd .neq d 0 (K [.i 0,.i d] c) (A.c7 51 [.i j,.i k,.i l,.i g] c λe m n o p=>A.cd .neq p 0 (K [.i 0,.i 1] e) (A.c3 105 [.i a,.i b,.i m,.i n,.i o] e λq r s=>K [.i r,.i s] q))
def f68:R:=A.unI ls λd e=>A.unI e λf g=>A.unV g λc j=>A.k3 j λk l=>A.call 106 [.i d,.i f,.v c,.i k,.i l] h λm a=>A.unI m λw n=>A.unI n λx o=>A.unI o λp q=>A.unB q λr s=>A.k5 s λb=>A.cd .neq b 0 (K [.i 0,.i b] a) (A.cond (!r) (K [.i 0,.i b] a) (A.fx 3 c p 2 1 a λt=>A.k9 t λu=>K [.i u,.i 0] a))
def f69:R:=A.k17 ls λc b8 b9 c0 e=>A.loop (λc1 c2 t=>A.unI c2 λB c4=>A.unI c4 λd c7=>A.unB c7 λu c8=>A.unB c8 λs c9=>A.k5 c9 λa=>A.join (λd0 d1=>A.unI d0 λd2 d3=>A.unI d3 λd4 d5=>A.unB d5 λd6 d7=>A.unB d7 λd8 d9=>A.k5 d9 λe0=>c1 [.i d2,.i d4,.b d6,.b d8,.i e0] d1) λk=>A.ps a d λl=>A.cd .leq l 12 (A.call 107 [.v c,.i d,.i a,.v e] t λe1 e2=>A.un0 e1 (K [] e2)) (A.cd .eql B 0 (A.call 108 [.v c,.i d,.i a,.v e] t λe3 e4=>A.un0 e3 (K [] e4)) (A.join (λe5 e6=>A.k5 e5 λf=>A.c3 110 [.v c,.i d,.i a,.v e] e6 λC D E=>A.cmp .eql E 2 λe7=>A.join (λe8 j=>A.k3 e8 λg e9=>A.cond s (A.cond u (A.cmp .eql e9 1 λf0=>A.join (λf1 w=>A.un0 f1 (A.cd .gtr d 0 (A.ps d 1 λf2=>A.ix 6 c f2 6 w λf3=>A.k10 f3 λf4 f5 f6 f7 f8 f9=>A.ix 6 c g 6 w λg0=>A.k10 g0 λg1 g2 g3 g4 g5 g6=>A.callv e [.agg ⟨[.int .i64 f4,.int .i64 f5,.int .u8 f6,.int .i64 f7,.int .i64 f8,.int .u8 f9]⟩,.agg ⟨[.int .i64 g1,.int .i64 g2,.int .u8 g3,.int .i64 g4,.int .i64 g5,.int .u8 g6]⟩] [.leaf (.i .i64)] w λg7 F=>A.k5 g7 λg8=>A.cmp .lss g8 0 λg9=>A.join (λh0 h1=>A.k5 h0 λx=>A.c16 114 [.v c,.i x,.i a,.i g,.v e] h1 λG m h2=>A.ps m x λH=>A.ps a m λI=>A.pq l 8 λJ=>A.cmp .lss H I λh3=>A.join (λh4 h5=>A.k18 h4 λh6 h7 h8=>k [.i f,.i h7,.b h2,.b h6,.i h8] h5) λL=>A.cond h3 (A.cmp .geq H J λh9=>A.call 69 [.v c,.i x,.i m,.i f,.v e] G λi0 i1=>A.un0 i0 (A.pa m 1 λi2=>L [.b h9,.i i2,.i a] i1)) (A.cmp .geq I J λi3=>A.pa m 1 λi4=>A.call 69 [.v c,.i i4,.i a,.i f,.v e] G λi5 i6=>A.un0 i5 (L [.b i3,.i x,.i m] i6))) λi7=>A.cond (!g9) (A.c5 113 [.v c,.i d,.i a,.i g,.v e] F λi8 i9=>k [.i f,.i i9,.b u,.b s,.i a] i8) (i7 [.i d] F)) (A.c16 114 [.v c,.i d,.i a,.i g,.v e] w λM n j0=>A.ps n d λN=>A.ps a n λO=>A.pq l 8 λP=>A.cmp .lss N O λj1=>A.join (λj2 j3=>A.k18 j2 λj4 j5 j6=>k [.i f,.i j5,.b j0,.b j4,.i j6] j3) λQ=>A.cond j1 (A.cmp .geq N P λj7=>A.call 69 [.v c,.i d,.i n,.i f,.v e] M λj8 j9=>A.un0 j8 (A.pa n 1 λk0=>Q [.b j7,.i k0,.i a] j9)) (A.cmp .geq O P λk1=>A.pa n 1 λk2=>A.call 69 [.v c,.i k2,.i a,.i f,.v e] M λk4 k6=>A.un0 k4 (Q [.b k1,.i d,.i n] k6))))) λS=>A.cond f0 (A.c6 112 [.v c,.i d,.i a,.v e] j λT k7=>A.cond k7 (K [] T) (S [] T)) (S [] j)) (A.cd .gtr d 0 (A.ps d 1 λk8=>A.ix 6 c k8 6 j λk9=>A.k10 k9 λl0 l1 l2 l3 l4 l5=>A.ix 6 c g 6 j λl6=>A.k10 l6 λl7 l8 l9 m0 m1 m2=>A.callv e [.agg ⟨[.int .i64 l0,.int .i64 l1,.int .u8 l2,.int .i64 l3,.int .i64 l4,.int .u8 l5]⟩,.agg ⟨[.int .i64 l7,.int .i64 l8,.int .u8 l9,.int .i64 m0,.int .i64 m1,.int .u8 m2]⟩] [.leaf (.i .i64)] j λm3 U=>A.k5 m3 λm4=>A.cmp .lss m4 0 λm5=>A.join (λm6 m7=>A.k5 m6 λy=>A.c16 114 [.v c,.i y,.i a,.i g,.v e] m7 λV o m8=>A.ps o y λW=>A.ps a o λX=>A.pq l 8 λY=>A.cmp .lss W X λm9=>A.join (λn0 n1=>A.k18 n0 λn2 n3 n4=>k [.i f,.i n3,.b m8,.b n2,.i n4] n1) λZ=>A.cond m9 (A.cmp .geq W Y λn5=>A.call 69 [.v c,.i y,.i o,.i f,.v e] V λn6 n7=>A.un0 n6 (A.pa o 1 λn8=>Z [.b n5,.i n8,.i a] n7)) (A.cmp .geq X Y λn9=>A.pa o 1 λo0=>A.call 69 [.v c,.i o0,.i a,.i f,.v e] V λo1 o2=>A.un0 o1 (Z [.b n9,.i y,.i o] o2))) λo3=>A.cond (!m5) (A.c5 113 [.v c,.i d,.i a,.i g,.v e] U λo4 o5=>k [.i f,.i o5,.b u,.b s,.i a] o4) (o3 [.i d] U)) (A.c16 114 [.v c,.i d,.i a,.i g,.v e] j λa0 p o6=>A.ps p d λa1=>A.ps a p λa2=>A.pq l 8 λa3=>A.cmp .lss a1 a2 λo7=>A.join (λo8 o9=>A.k18 o8 λp0 p1 p2=>k [.i f,.i p1,.b o6,.b p0,.i p2] o9) λa4=>A.cond o7 (A.cmp .geq a1 a3 λp3=>A.call 69 [.v c,.i d,.i p,.i f,.v e] a0 λp4 p5=>A.un0 p4 (A.pa p 1 λp6=>a4 [.b p3,.i p6,.i a] p5)) (A.cmp .geq a2 a3 λp7=>A.pa p 1 λp8=>A.call 69 [.v c,.i p8,.i a,.i f,.v e] a0 λp9 q0=>A.un0 p9 (a4 [.b p7,.i d,.i p] q0))))) (A.cd .gtr d 0 (A.ps d 1 λq1=>A.ix 6 c q1 6 j λq2=>A.k10 q2 λq3 q4 q5 q6 q7 q8=>A.ix 6 c g 6 j λq9=>A.k10 q9 λr0 r1 r2 r3 r4 r5=>A.callv e [.agg ⟨[.int .i64 q3,.int .i64 q4,.int .u8 q5,.int .i64 q6,.int .i64 q7,.int .u8 q8]⟩,.agg ⟨[.int .i64 r0,.int .i64 r1,.int .u8 r2,.int .i64 r3,.int .i64 r4,.int .u8 r5]⟩] [.leaf (.i .i64)] j λr6 a5=>A.k5 r6 λr7=>A.cmp .lss r7 0 λr8=>A.join (λr9 s0=>A.k5 r9 λz=>A.c16 114 [.v c,.i z,.i a,.i g,.v e] s0 λa6 q s1=>A.ps q z λa7=>A.ps a q λa8=>A.pq l 8 λa9=>A.cmp .lss a7 a8 λs2=>A.join (λs3 s4=>A.k18 s3 λs5 s6 s7=>k [.i f,.i s6,.b s1,.b s5,.i s7] s4) λb0=>A.cond s2 (A.cmp .geq a7 a9 λs8=>A.call 69 [.v c,.i z,.i q,.i f,.v e] a6 λs9 t0=>A.un0 s9 (A.pa q 1 λt1=>b0 [.b s8,.i t1,.i a] t0)) (A.cmp .geq a8 a9 λt2=>A.pa q 1 λt3=>A.call 69 [.v c,.i t3,.i a,.i f,.v e] a6 λt4 t5=>A.un0 t4 (b0 [.b t2,.i z,.i q] t5))) λt6=>A.cond (!r8) (A.c5 113 [.v c,.i d,.i a,.i g,.v e] a5 λt7 t8=>k [.i f,.i t8,.b u,.b s,.i a] t7) (t6 [.i d] a5)) (A.c16 114 [.v c,.i d,.i a,.i g,.v e] j λb1 r t9=>A.ps r d λb2=>A.ps a r λb3=>A.pq l 8 λb4=>A.cmp .lss b2 b3 λu0=>A.join (λu1 u2=>A.k18 u1 λu3 u4 u5=>k [.i f,.i u4,.b t9,.b u3,.i u5] u2) λb5=>A.cond u0 (A.cmp .geq b2 b4 λu6=>A.call 69 [.v c,.i d,.i r,.i f,.v e] b1 λu7 u9=>A.un0 u7 (A.pa r 1 λv0=>b5 [.b u6,.i v0,.i a] u9)) (A.cmp .geq b3 b4 λv1=>A.pa r 1 λv2=>A.call 69 [.v c,.i v2,.i a,.i f,.v e] b1 λv3 v4=>A.un0 v3 (b5 [.b v1,.i d,.i r] v4))))) λb6=>A.cond e7 (A.call 111 [.v c,.i d,.i a,.v e] C λv5 v6=>A.un0 v5 (A.ps a 1 λv7=>A.ps D d λv8=>A.ps v7 v8 λv9=>b6 [.i v9,.i 1] v6)) (b6 [.i D,.i E] C)) λb7=>A.cond (!s) (A.call 109 [.v c,.i d,.i a,.v e] t λw0 w1=>A.un0 w0 (A.ps B 1 λw2=>b7 [.i w2] w1)) (b7 [.i B] t)))) [.i c0,.i b8,.b true,.b true,.i b9] h
def f70:R:=A.k5 ls λa=>A.c5 116 [.i a] h λb c=>K [.i c] b
def f71:R:=A.k0 ls λc=>A.ln c λf=>A.loop (λg j a=>A.k5 j λb=>A.cd .lss b f (A.ix 2 c b 2 a λk=>A.k15 k λl m=>A.c5 47 [.i l,.i m] a λd e=>A.cd .neq e 0 (K [.i e] d) (A.pa b 1 λn=>g [.i n] d)) (K [.i 0] a)) [.i 0] h
def f72:R:=A.unV ls λa c=>A.k0 c λd=>A.ln a λb=>A.conv .u64 b λe=>A.c5 70 [.i e] h λf g=>A.call 117 [.v a,.i 0,.i b,.i g,.v d] f λj k=>A.un0 j (K [] k)
def f73:R:=A.unI ls λl m=>A.unI m λG n=>A.unI n λo p=>A.unI p λH q=>A.k0 q λa=>A.peek (.lg cc 1 a) h λr=>A.ucV r λb s=>A.chk b (A.uc0 s (A.opt (zN b) λc=>A.chk c (A.opt (Ag 5 c) λd=>A.chk d (A.peek (.lg cc 1 d) h λt=>A.ucV t λe u=>A.chk e (A.uc0 u (A.ix 1 e l 1 h λv=>A.k8 v λw=>A.peek (.lg cc 1 a) h λx=>A.ucV x λf y=>A.chk f (A.uc0 y (A.opt (zN f) λg=>A.chk g (A.opt (Ag 5 g) λj=>A.chk j (A.peek (.lg cc 1 j) h λz=>A.ucV z λk B=>A.chk k (A.uc0 B (A.ix 1 k o 1 h λC=>A.k8 C λD=>A.c5 47 [.i w,.i D] h λE F=>K [.i F] E))))))))))))
def f74:R:=A.unV ls λa c=>A.k0 c λd=>A.ln a λb=>A.conv .u64 b λe=>A.c5 70 [.i e] h λf g=>A.call 118 [.v a,.i 0,.i b,.i g,.v d] f λj k=>A.un0 j (K [] k)
def f75:R:=A.unI ls λm n=>A.unI n λo p=>A.unI p λT q=>A.unI q λr s=>A.unI s λt u=>A.unI u λU w=>A.k0 w λb=>A.c5 76 [.i m,.i r] h λa x=>A.peek (.lg cc 1 b) a λy=>A.ucV y λc z=>A.chk c (A.uc0 z (A.opt (zN c) λd=>A.chk d (A.opt (Ag 5 d) λe=>A.chk e (A.peek (.lg cc 1 e) a λB=>A.ucV B λf C=>A.chk f (A.uc0 C (A.ix 1 f o 1 a λD=>A.k8 D λE=>A.peek (.lg cc 1 b) a λF=>A.ucV F λg G=>A.chk g (A.uc0 G (A.opt (zN g) λj=>A.chk j (A.opt (Ag 5 j) λk=>A.chk k (A.peek (.lg cc 1 k) a λH=>A.ucV H λl I=>A.chk l (A.uc0 I (A.ix 1 l t 1 a λJ=>A.k8 J λL=>A.c5 47 [.i E,.i L] a λM N=>A.new (.cells [.int .i64 x,.int .i64 N] 1 true) M λO P=>A.c5 29 [.v (.slice (some ⟨O,0,some 11⟩) 2 3)] P λQ S=>K [.i S] Q))))))))))))
def YB:R:=A.k3 ls λb c=>A.c6 119 [.i b] h λe f=>A.c6 119 [.i c] e λa d=>A.cond f (A.cond d (K [.i 0] a) (K [.i (-1)] a)) (A.cond d (K [.i 1] a) (A.cd .lss b c (K [.i (-1)] a) (A.cd .gtr b c (K [.i 1] a) (K [.i 0] a))))
def f77:R:=A.k0 ls λa=>A.ln a λb=>A.conv .u64 b λc=>A.c5 70 [.i c] h λd e=>A.call 120 [.v a,.i 0,.i b,.i e] d λf g=>A.un0 f (K [] g)
def YC:R:=A.k0 ls λa=>A.ln a λc=>A.ln a λd=>A.opt (CR 2 a none (some c) (some d)) λb=>A.chk b (K [.v b] h)
def YD:R:=A.k0 ls λa=>A.opt (lS 1 a (.slice none 0 0)) λc=>A.cond c (K [.v (.slice none 0 0)] h) (A.new (.cells [] 2 true) h λd e=>A.heap (.ap cc 2 16 (.slice (some ⟨d,0,some 12⟩) 0 1) a) e λf g=>A.ucV f λb i=>A.chk b (A.uc0 i (K [.v b] g)))
def YE:R:=A.k0 ls λa=>A.ln a λc=>A.ln a λd=>A.opt (CR 3 a none (some c) (some d)) λb=>A.chk b (K [.v b] h)
def YF:R:=A.k0 ls λa=>A.opt (lS 1 a (.slice none 0 0)) λc=>A.cond c (K [.v (.slice none 0 0)] h) (A.new (.cells [] 3 true) h λd e=>A.heap (.ap cc 3 24 (.slice (some ⟨d,0,some 13⟩) 0 1) a) e λf g=>A.ucV f λb i=>A.chk b (A.uc0 i (K [.v b] g)))
def YG:R:=A.k0 ls λa=>A.ln a λc=>A.ln a λd=>A.opt (CR 1 a none (some c) (some d)) λb=>A.chk b (K [.v b] h)
def YH:R:=A.k0 ls λa=>A.opt (lS 1 a (.slice none 0 0)) λc=>A.cond c (K [.v (.slice none 0 0)] h) (A.new (.cells [] 1 true) h λd e=>A.heap (.ap cc 1 8 (.slice (some ⟨d,0,some 11⟩) 0 1) a) e λf g=>A.ucV f λb i=>A.chk b (A.uc0 i (K [.v b] g)))
def YI:R:=A.unI ls λa j=>A.k7 j λk l b m=>A.cmp .geq a 4 λn=>A.join (λo p=>A.k5 o λq=>A.loop (λr s c=>A.k11 s λd e f=>A.ari .rem .u8 a 4 λt=>A.ci t λu=>A.cd .lss f u (A.ps 0 e λv=>A.pa f 1 λw=>r [.i v,.i d,.i w] c) (A.pm 6 k λx=>A.pa d x λy=>A.pm 6 l λz=>A.pa e z λB=>K [.i y,.i B] c)) [.i q,.i m,.i 0] p) λg=>A.cond n (A.ps 0 b λC=>g [.i C] h) (g [.i b] h)
def YJ:R:=A.k3 ls λa b=>A.cd .lss a 0 (A.ps 0 a λc=>A.pa c b λd=>A.ps d 1 λe=>A.pq e b λf=>A.ps 0 f λg=>K [.i g] h) (A.pq a b λj=>K [.i j] h)
def YK:R:=A.k3 ls λa b=>A.cd .gtr a b (K [.i a] h) (K [.i b] h)
def YL:R:=A.k3 ls λf g=>A.c5 85 [.i f,.i 6] h λo a=>A.c5 85 [.i g,.i 6] o λc b=>A.pm 6 a λp=>A.ps f p λd=>A.pm 6 b λq=>A.ps g q λe=>A.cd .lss e d (A.pa d e λr=>A.cmp .lss r 6 λs=>A.join (λt u=>A.k11 t λv w x=>K [.i v,.i w,.i x] u) λj=>A.cond s (j [.i a,.i b,.i 0] c) (A.cmp .lss e d λy=>A.join (λz B=>A.k11 z λC D E=>j [.i C,.i D,.i E] B) λk=>A.cond y (k [.i a,.i b,.i 1] c) (A.pa d e λF=>A.cmp .gtr F 6 λG=>A.join (λH I=>A.k11 H λJ L M=>k [.i J,.i L,.i M] I) λl=>A.cond G (l [.i a,.i b,.i 2] c) (l [.i a,.i b,.i 3] c)))) (A.cmp .lss e d λN=>A.join (λO P=>A.k11 O λQ S T=>K [.i Q,.i S,.i T] P) λm=>A.cond N (m [.i a,.i b,.i 1] c) (A.pa d e λU=>A.cmp .gtr U 6 λV=>A.join (λW X=>A.k11 W λY Z a0=>m [.i Y,.i Z,.i a0] X) λn=>A.cond V (n [.i a,.i b,.i 2] c) (n [.i a,.i b,.i 3] c)))
def YM:R:=A.k11 ls λa b c=>A.call 121 [.i a,.i b,.i c] h λd e=>A.k14 d λf g j k l m=>A.pa f j λn=>A.pa n l λo=>A.pq o 3 λp=>A.pa g k λq=>A.pa q m λr=>A.pq r 3 λs=>K [.i p,.i s] e
def f89:R:=A.unI ls λf g=>A.unV g λj k=>A.k0 k λa=>A.peek (.lg cc 1 j) h λl=>A.ucV l λc m=>A.chk c (A.uc0 m (A.c5 90 [.v c,.i f] h λb d=>A.join (λn o=>A.un0 n (K [.i d] o)) λe=>A.peek (.lg cc 1 a) b λp=>A.ucB p λq r=>A.uc0 r (A.cond q (A.cmp .geq d 0 λs=>A.heap (.st a [.bool s]) b λw t=>e [] t) (A.heap (.st a [.bool false]) b λx u=>e [] u))))
def f90:R:=A.k2 ls λc d=>A.ln c λe=>A.loop (λf g a=>A.k5 g λb=>A.cd .lss b e (A.ix 1 c b 1 a λj=>A.k8 j λk=>A.cd .eql d k (K [.i b] a) (A.pa b 1 λl=>f [.i l] a)) (K [.i (-1)] a)) [.i 0] h
def f91:R:=A.unV ls λd f=>A.k0 f λg=>A.ln d λj=>A.loop (λk l c=>A.k5 l λa=>A.cd .lss a j (A.ix 3 d a 3 c λm=>A.k12 m λn o p=>A.callv g [.agg ⟨[.int .u8 n,.int .i64 o,.int .i64 p]⟩] [.leaf .b] c λq e=>A.k6 q λr=>A.cond r (K [.i a] e) (A.pa a 1 λs=>k [.i s] e)) (K [.i (-1)] c)) [.i 0] h
def YN:R:=A.k5 ls λa=>A.cmp .neq a a λc=>K [.b c] h
def f93:R:=A.unI ls λa d=>A.k0 d λe=>A.join (λf g=>A.k6 f λi=>K [.b i] g) λc=>A.cd .lss a 0 (c [.b true] h) (A.peek (.lg cc 1 e) h λj=>A.k8 j λk=>A.cmp .geq a k λl=>c [.b l] h)
def SH:R:=A.k11 ls λa b c=>A.cd .lss a (-4096) (K [.i 1] h) (A.cd .gtr a 4096 (K [.i 1] h) (A.cd .lss b (-4096) (K [.i 1] h) (A.cd .gtr b 4096 (K [.i 1] h) (A.cd .gtr c 3 (K [.i 1] h) (K [.i 0] h)))))
def f95:R:=A.unV ls λd f=>A.k0 f λg=>A.ln d λj=>A.loop (λk l c=>A.k5 l λa=>A.cd .lss a j (A.ix 1 d a 1 c λm=>A.k8 m λn=>A.callv g [.int .i64 n] [.leaf .b] c λo e=>A.k6 o λp=>A.cond p (K [.i a] e) (A.pa a 1 λq=>k [.i q] e)) (K [.i (-1)] c)) [.i 0] h
def YO:R:=A.k14 ls λe f g j k l=>A.c11 34 [.i e,.i f,.i g,.i j,.i k,.i l] h λa b c d=>A.cd .eql b 4 (A.pq c 2 λm=>K [.i 1,.i m] a) (A.cd .eql b 6 (A.pq d 2 λn=>K [.i 2,.i n] a) (A.cd .eql b 5 (K [.i 3,.i c] a) (K [.i 4,.i d] a)))
def YP:R:=A.k14 ls λa b e c d f=>A.cd .gtr b d (K [.i 1] h) (A.cd .eql b d (A.cd .gtr a c (K [.i 1] h) (A.cd .eql a c (A.cmp .gtr e f λg=>A.join (λj k=>A.un0 j (K [.i 0] k)) λl=>A.cond g (K [.i 1] h) (l [] h)) (K [.i 0] h))) (K [.i 0] h))
def f99:R:=A.unI ls λf s=>A.unI s λg t=>A.k0 t λa=>A.c5 62 [.i f,.i g] h λj k=>A.cd .neq k 0 (K [.i k] j) (A.c6 122 [.v a,.v (.func (.func 123) ⟨[]⟩ ⟨[]⟩)] j λl u=>A.cond u (K [.i 1] l) (A.ln a λw=>A.loop (λx y c=>A.k5 y λd=>A.cd .lss d w (A.ix 3 a d 3 c λz=>A.k13 z λm n B=>A.c11 125 [.i f,.i g,.i m,.i n] c λo C D E=>A.cd .neq E 0 (K [.i 7] o) (A.c3 126 [.i m,.i n,.i B] o λp F G=>A.eqs [(.i C,.i F),(.i D,.i G)] λH=>A.cond (!H) (K [.i 7] p) (A.pa d 1 λI=>x [.i I] p))) (A.loop (λJ L e=>A.k5 L λb=>A.ln a λM=>A.cd .lss b M (A.ps b 1 λN=>A.ix 3 a N 3 e λO=>A.k13 O λP Q S=>A.c3 126 [.i P,.i Q,.i S] e λq T U=>A.ix 3 a b 3 q λV=>A.k13 V λW X Y=>A.c3 126 [.i W,.i X,.i Y] q λZ a0 a1=>A.c5 127 [.i T,.i U,.i a0,.i a1] Z λr a2=>A.cd .geq a2 0 (K [.i 6] r) (A.pa b 1 λa3=>J [.i a3] r)) (K [.i 0] e)) [.i 1] c)) [.i 0] l))
def N3:R:=A.unI ls λM N=>A.unI N λO P=>A.k0 P λQ=>A.new (.cells [.int .i64 M,.int .i64 O,Q] 3 true) h λc q=>A.peek (.lg cc 3 (.pointer (some ⟨c,0,none⟩))) q λS=>A.ucI .i64 S λT U=>A.ucI .i64 U λV W=>A.ucV W λr X=>A.chk r (A.uc0 X (A.c0 128 [.i T,.i V,.v r] q λY Z=>A.new (.cells [.map none] 1 true) Y λm a0=>A.heap (.st (.pointer (some ⟨m,0,none⟩)) [Z]) a0 λg0 s=>A.opt (Ag 0 (.pointer (some ⟨c,0,none⟩))) λt=>A.chk t (A.peek (.lg cc 2 t) s λa1=>A.k15 a1 λa2 a3=>A.c5 23 [.i a2,.i a3] s λa4 d=>A.opt (B7 d d) λg1=>A.new (.cells (bk [.int .u8 0,.int .i64 0,.int .i64 0] (Int.toNat d)) 3 true) a4 λa5 a6=>A.new (.cells [.slice none 0 0] 1 true) a6 λb a7=>A.heap (.st (.pointer (some ⟨b,0,none⟩)) [.slice (some ⟨a5,0,some 13⟩) (Int.toNat d) ((Int.toNat d)+1)]) a7 λg2 u=>A.peek (.lg cc 1 (.pointer (some ⟨b,0,none⟩))) u λa8=>A.ucV a8 λw a9=>A.chk w (A.uc0 a9 (A.ln w λa=>A.opt (B7 a a) λg3=>A.new (.cells (bk [.bool false] (Int.toNat a)) 1 true) u λn b0=>A.chk (.func (.func 129) ⟨[]⟩ ⟨[.pointer (some ⟨c,0,none⟩),.pointer (some ⟨m,0,none⟩),.pointer (some ⟨b,0,none⟩)]⟩) (A.opt (Ah 1 (.slice (some ⟨n,0,some 11⟩) (Int.toNat a) ((Int.toNat a)+1)) 0) λb1=>A.heap (.st b1 [.bool true]) b0 λg4 b2=>A.new (.cells [.int .i64 0] 1 true) b2 λb3 b4=>A.loop (λb5 b6 f=>A.k0 b6 λo=>A.ln o λb7=>A.cd .gtr b7 0 (A.opt (Ah 1 o 0) λb8=>A.peek (.lg cc 1 b8) f λb9=>A.k8 b9 λx=>A.opt (CR 1 o (some 1) none none) λy=>A.chk y (A.loop (λc1 c2 p=>A.k2 c2 λg j=>A.cd .lss j 3 (A.join (λc4 c6=>A.k0 c4 λc7=>A.ari .add .u8 j 1 λc8=>c1 [.v c7,.i c8] c6) λz=>A.opt (Ag 0 (.pointer (some ⟨c,0,none⟩))) λB=>A.chk B (A.peek (.lg cc 2 B) p λc9=>A.k15 c9 λd0 d1=>A.c3 67 [.i d0,.i d1,.i x,.i j] p λC e d2=>A.cd .neq d2 0 (z [.v g] C) (A.callv (.func (.func 129) ⟨[]⟩ ⟨[.pointer (some ⟨c,0,none⟩),.pointer (some ⟨m,0,none⟩),.pointer (some ⟨b,0,none⟩)]⟩) [.int .i64 x,.int .u8 j] [.agg [.i .u8,.i .i64,.i .i64]] C λd3 k=>A.k11 d3 λD E F=>A.opt (Ah 1 (.slice (some ⟨n,0,some 11⟩) (Int.toNat a) ((Int.toNat a)+1)) e) λd4=>A.peek (.lg cc 1 d4) k λd5=>A.ucB d5 λd6 d7=>A.uc0 d7 (A.join (λd8 l=>A.k0 d8 λd9=>A.peek (.lg cc 1 (.pointer (some ⟨b,0,none⟩))) l λe0=>A.ucV e0 λG e1=>A.chk G (A.uc0 e1 (A.ix 3 G e 3 l λe2=>A.k12 e2 λe3 e4 e5=>A.eqs [(.i e3,.i D),(.i e4,.i E),(.i e5,.i F)] λe6=>A.cond (!e6) (K [.v (.slice none 0 0),.i 11] l) (z [.v d9] l)))) λH=>A.cond (!d6) (A.peek (.lg cc 1 (.pointer (some ⟨b,0,none⟩))) k λe7=>A.ucV e7 λI e8=>A.chk I (A.uc0 e8 (A.opt (Ah 3 I e) λe9=>A.heap (.st e9 [.int .u8 D,.int .i64 E,.int .i64 F]) k λg5 f0=>A.opt (Ah 1 (.slice (some ⟨n,0,some 11⟩) (Int.toNat a) ((Int.toNat a)+1)) e) λf1=>A.heap (.st f1 [.bool true]) f0 λg6 f2=>A.new (.cells [.int .i64 e] 1 true) f2 λf3 f4=>A.heap (.ap cc 1 8 g (.slice (some ⟨f3,0,some 11⟩) 1 2)) f4 λf5 f6=>A.ucV f5 λJ f7=>A.chk J (A.uc0 f7 (H [.v J] f6))))) (H [.v g] k))))) (b5 [.v g] p)) [.v y,.i 0] f)) (A.peek (.lg cc 1 (.pointer (some ⟨b,0,none⟩))) f λf8=>A.ucV f8 λL f9=>A.chk L (A.uc0 f9 (K [.v L,.i 0] f)))) [.v (.slice (some ⟨b3,0,some 11⟩) 1 2)] b4))))))
def Ha:R:=A.k14 ls λb c d a e f=>A.c5 18 [.i b,.i c,.i d] h λg k=>A.cd .neq k 0 (K [.i 0,.i 0,.i 0,.i 1] g) (A.c5 18 [.i a,.i e,.i f] g λj l=>A.cd .neq l 0 (K [.i 0,.i 0,.i 0,.i 1] j) (A.opt (BM 8 a) λa1=>A.opt (mh SO 0 [(a,4)] 4) λm=>A.ucI .i64 m λn o=>A.ucI .i64 o λp q=>A.k15 q λr s=>A.c3 132 [.i n,.i p,.i r,.i s,.i c,.i d] j λt u v=>A.opt (BM 8 b) λa2=>A.opt (mh SO 0 [(b,4)] 4) λw=>A.ucI .i64 w λx y=>A.ucI .i64 y λz B=>A.k15 B λC D=>A.opt (BM 8 a) λa3=>A.opt (mh SO 0 [(a,4)] 4) λE=>A.ucI .i64 E λF G=>A.ucI .i64 G λH I=>A.k15 I λJ L=>A.c7 135 [.i x,.i z,.i C,.i D,.i F,.i H,.i J,.i L] t λM N O P Q=>A.c5 134 [.i N,.i O,.i P,.i Q] M λS T=>A.pa u e λU=>A.pa v f λV=>A.c7 133 [.i T,.i U,.i V] S λW X Y Z a0=>K [.i X,.i Y,.i Z,.i a0] W))
def JB:R:=A.k11 ls λd e a=>A.join (λf g=>A.k6 f λi=>K [.b i] g) λc=>A.cd .geq a 0 (A.pm 4 d λj=>A.pm j e λk=>A.cmp .lss a k λl=>c [.b l] h) (c [.b false] h)
def Ye:R:=A.k11 ls λb k a=>A.pq a 4 λc=>A.ari .rem .i64 c b λd=>A.pq a 4 λe=>A.pq e b λf=>A.ari .rem .i64 a 4 λg=>A.conv .u8 g λj=>K [.i d,.i f,.i j] h
def JC:R:=A.k14 ls λf m n o p b=>A.c3 136 [.i o,.i p,.i b] h λq r s=>A.opt (BM 4 b) λa7=>A.opt (mh SN 0 [(b,17)] 2) λt=>A.k15 t λu v=>A.c11 137 [.i f,.i m,.i n,.i r,.i s] q λw g j a8=>A.c11 137 [.i f,.i 0,.i 0,.i u,.i v] w λx y z a9=>A.ari .and .i64 g 1 λB=>A.ps g B λC=>A.pq C 2 λD=>A.ari .and .i64 j 1 λE=>A.ps j E λF=>A.pq F 2 λG=>A.loop (λH I c=>A.k7 I λa d e k=>A.cd .lss a 4 (A.opt (BM 4 a) λb0=>A.opt (iW [.i 0,.i (-1),.i 2,.i 0,.i 0,.i (-1),.i 2,.i 0,.i 0,.i 1,.i 0,.i 0,.i 3,.i 0,.i 0,.i 2,.i 0,.i 1,.i 0,.i 1,.i 1,.i 1,.i 0,.i 3,.i 0,.i 0,.i 0,.i 0,.i 0,.i 2,.i 2,.i 2,.i 2,.i 0,.i 0,.i 1,.i 2,.i 1,.i 0,.i 1,.i 0,.i 0,.i 0,.i 3,.i 0,.i 0,.i 1,.i 2,.i 2,.i 0,.i 2,.i (-1),.i 0,.i 1,.i 0,.i (-1),.i 0,.i 1,.i 0,.i 0,.i 2,.i 0,.i 0,.i 0,.i 0,.i 0,.i 0,.i 2] 0 [(a,17)] 17) λJ=>A.unI J λL M=>A.unI M λN O=>A.unI O λb1 P=>A.unI P λb2 Q=>A.unI Q λb3 S=>A.unI S λb4 T=>A.unI T λb5 U=>A.unI U λb6 V=>A.unI V λb7 W=>A.unI W λb8 X=>A.unI X λb9 Y=>A.k14 Y λc0 c1 c2 c4 c5 c6=>A.eqs [(.i L,.i y),(.i N,.i z)] λZ=>A.join (λa0 a1=>A.k11 a0 λa2 a3 a4=>A.pa a 1 λa5=>H [.i a5,.i a2,.i a3,.i a4] a1) λl=>A.cond Z (A.conv .u8 a λa6=>l [.i d,.i e,.i a6] c) (l [.i d,.i e,.i k] c)) (K [.i d,.i e,.i k] c)) [.i 0,.i D,.i G,.i 0] x
def Yf:R:=A.unI ls λd k=>A.k7 k λe b c f=>A.c5 62 [.i d,.i e] h λg j=>A.cd .neq j 0 (K [.i 0,.i j] g) (A.c5 94 [.i b,.i c,.i f] g λa l=>A.cd .neq l 0 (K [.i 0,.i 7] a) (A.cd .lss b 0 (K [.i 0,.i 7] a) (A.cd .geq b d (K [.i 0,.i 7] a) (A.cd .lss c 0 (K [.i 0,.i 7] a) (A.cd .geq c e (K [.i 0,.i 7] a) (A.pm c d λm=>A.pa m b λn=>A.pm 4 n λo=>A.ci f λp=>A.pa o p λq=>K [.i q,.i 0] a))))))
def N4:R:=A.unI ls λa m=>A.unI m λc n=>A.unV n λd o=>A.k3 o λp q=>A.c5 99 [.i a,.i c,.v d] h λe f=>A.cd .neq f 0 (K [.i 0,.i 0,.i 0,.b false,.i f] e) (A.c11 125 [.i a,.i c,.i p,.i q] e λg j k l=>A.cd .neq l 0 (K [.i 0,.i 0,.i 0,.b false,.i l] g) (A.c16 138 [.v d,.i j,.i k] g λr s t=>K [.i j,.i k,.i s,.b t,.i 0] r))
def N5:R:=A.k19 ls λb f k l=>A.pa f 1 λm=>A.loop (λn o g=>A.k5 o λe=>A.cd .lss e k (A.join (λp q=>A.un0 p (A.pa e 1 λr=>n [.i r] q)) λj=>A.loop (λs t c=>A.k5 t λa=>A.cd .gtr a f (A.ix 6 b a 6 c λu=>A.k10 u λv w x y z B=>A.ps a 1 λC=>A.ix 6 b C 6 c λD=>A.k10 D λE F G H I J=>A.callv l [.agg ⟨[.int .i64 v,.int .i64 w,.int .u8 x,.int .i64 y,.int .i64 z,.int .u8 B]⟩,.agg ⟨[.int .i64 E,.int .i64 F,.int .u8 G,.int .i64 H,.int .i64 I,.int .u8 J]⟩] [.leaf (.i .i64)] c λL d=>A.k5 L λM=>A.cd .lss M 0 (A.ps a 1 λN=>A.ps a 1 λO=>A.ix 6 b O 6 d λP=>A.k10 P λQ S T U V W=>A.ix 6 b a 6 d λX=>A.k10 X λY Z a0 a1 a2 a3=>A.opt (Ah 6 b a) λa4=>A.heap (.st a4 [.int .i64 Q,.int .i64 S,.int .u8 T,.int .i64 U,.int .i64 V,.int .u8 W]) d λa9 a5=>A.opt (Ah 6 b N) λa6=>A.heap (.st a6 [.int .i64 Y,.int .i64 Z,.int .u8 a0,.int .i64 a1,.int .i64 a2,.int .u8 a3]) a5 λb0 a7=>A.ps a 1 λa8=>s [.i a8] a7) (j [] d)) (j [] c)) [.i e] g) (K [] g)) [.i m] h
def Yg:R:=A.k5 ls λa=>A.cmp .geq a 4294967296 λm=>A.join (λn d=>A.k3 n λb e=>A.cmp .geq b 65536 λo=>A.join (λp f=>A.k3 p λc g=>A.cmp .geq c 256 λq=>A.join (λr s=>A.k3 r λt u=>A.conv .u8 t λv=>A.opt (D3 (.mk ⟨[.ofNat 0,.ofNat 1,.ofNat 2,.ofNat 2,.ofNat 3,.ofNat 3,.ofNat 3,.ofNat 3,.ofNat 4,.ofNat 4,.ofNat 4,.ofNat 4,.ofNat 4,.ofNat 4,.ofNat 4,.ofNat 4,.ofNat 5,.ofNat 5,.ofNat 5,.ofNat 5,.ofNat 5,.ofNat 5,.ofNat 5,.ofNat 5,.ofNat 5,.ofNat 5,.ofNat 5,.ofNat 5,.ofNat 5,.ofNat 5,.ofNat 5,.ofNat 5,.ofNat 6,.ofNat 6,.ofNat 6,.ofNat 6,.ofNat 6,.ofNat 6,.ofNat 6,.ofNat 6,.ofNat 6,.ofNat 6,.ofNat 6,.ofNat 6,.ofNat 6,.ofNat 6,.ofNat 6,.ofNat 6,.ofNat 6,.ofNat 6,.ofNat 6,.ofNat 6,.ofNat 6,.ofNat 6,.ofNat 6,.ofNat 6,.ofNat 6,.ofNat 6,.ofNat 6,.ofNat 6,.ofNat 6,.ofNat 6,.ofNat 6,.ofNat 6,.ofNat 7,.ofNat 7,.ofNat 7,.ofNat 7,.ofNat 7,.ofNat 7,.ofNat 7,.ofNat 7,.ofNat 7,.ofNat 7,.ofNat 7,.ofNat 7,.ofNat 7,.ofNat 7,.ofNat 7,.ofNat 7,.ofNat 7,.ofNat 7,.ofNat 7,.ofNat 7,.ofNat 7,.ofNat 7,.ofNat 7,.ofNat 7,.ofNat 7,.ofNat 7,.ofNat 7,.ofNat 7,.ofNat 7,.ofNat 7,.ofNat 7,.ofNat 7,.ofNat 7,.ofNat 7,.ofNat 7,.ofNat 7,.ofNat 7,.ofNat 7,.ofNat 7,.ofNat 7,.ofNat 7,.ofNat 7,.ofNat 7,.ofNat 7,.ofNat 7,.ofNat 7,.ofNat 7,.ofNat 7,.ofNat 7,.ofNat 7,.ofNat 7,.ofNat 7,.ofNat 7,.ofNat 7,.ofNat 7,.ofNat 7,.ofNat 7,.ofNat 7,.ofNat 7,.ofNat 7,.ofNat 7,.ofNat 7,.ofNat 7,.ofNat 7,.ofNat 8,.ofNat 8,.ofNat 8,.ofNat 8,.ofNat 8,.ofNat 8,.ofNat 8,.ofNat 8,.ofNat 8,.ofNat 8,.ofNat 8,.ofNat 8,.ofNat 8,.ofNat 8,.ofNat 8,.ofNat 8,.ofNat 8,.ofNat 8,.ofNat 8,.ofNat 8,.ofNat 8,.ofNat 8,.ofNat 8,.ofNat 8,.ofNat 8,.ofNat 8,.ofNat 8,.ofNat 8,.ofNat 8,.ofNat 8,.ofNat 8,.ofNat 8,.ofNat 8,.ofNat 8,.ofNat 8,.ofNat 8,.ofNat 8,.ofNat 8,.ofNat 8,.ofNat 8,.ofNat 8,.ofNat 8,.ofNat 8,.ofNat 8,.ofNat 8,.ofNat 8,.ofNat 8,.ofNat 8,.ofNat 8,.ofNat 8,.ofNat 8,.ofNat 8,.ofNat 8,.ofNat 8,.ofNat 8,.ofNat 8,.ofNat 8,.ofNat 8,.ofNat 8,.ofNat 8,.ofNat 8,.ofNat 8,.ofNat 8,.ofNat 8,.ofNat 8,.ofNat 8,.ofNat 8,.ofNat 8,.ofNat 8,.ofNat 8,.ofNat 8,.ofNat 8,.ofNat 8,.ofNat 8,.ofNat 8,.ofNat 8,.ofNat 8,.ofNat 8,.ofNat 8,.ofNat 8,.ofNat 8,.ofNat 8,.ofNat 8,.ofNat 8,.ofNat 8,.ofNat 8,.ofNat 8,.ofNat 8,.ofNat 8,.ofNat 8,.ofNat 8,.ofNat 8,.ofNat 8,.ofNat 8,.ofNat 8,.ofNat 8,.ofNat 8,.ofNat 8,.ofNat 8,.ofNat 8,.ofNat 8,.ofNat 8,.ofNat 8,.ofNat 8,.ofNat 8,.ofNat 8,.ofNat 8,.ofNat 8,.ofNat 8,.ofNat 8,.ofNat 8,.ofNat 8,.ofNat 8,.ofNat 8,.ofNat 8,.ofNat 8,.ofNat 8,.ofNat 8,.ofNat 8,.ofNat 8,.ofNat 8,.ofNat 8,.ofNat 8,.ofNat 8,.ofNat 8,.ofNat 8,.ofNat 8,.ofNat 8]⟩) v) λw=>A.ci w λx=>A.pa u x λy=>K [.i y] s) λj=>A.cond q (A.shf .shr .u64 c .u64 8 λz=>A.pa g 8 λB=>j [.i z,.i B] f) (j [.i c,.i g] f)) λk=>A.cond o (A.shf .shr .u64 b .u64 16 λC=>A.pa e 16 λD=>k [.i C,.i D] d) (k [.i b,.i e] d)) λl=>A.cond m (A.shf .shr .u64 a .u64 32 λE=>l [.i E,.i 32] h) (l [.i a,.i 0] h)
def N6:R:=A.k17 ls λc b8 b9 c0 e=>A.loop (λc1 c2 t=>A.unI c2 λB c4=>A.unI c4 λd c7=>A.unB c7 λu c8=>A.unB c8 λs c9=>A.k5 c9 λa=>A.join (λd0 d1=>A.unI d0 λd2 d3=>A.unI d3 λd4 d5=>A.unB d5 λd6 d7=>A.unB d7 λd8 d9=>A.k5 d9 λe0=>c1 [.i d2,.i d4,.b d6,.b d8,.i e0] d1) λk=>A.ps a d λl=>A.cd .leq l 12 (A.call 144 [.v c,.i d,.i a,.v e] t λe1 e2=>A.un0 e1 (K [] e2)) (A.cd .eql B 0 (A.call 145 [.v c,.i d,.i a,.v e] t λe3 e4=>A.un0 e3 (K [] e4)) (A.join (λe5 e6=>A.k5 e5 λf=>A.c3 147 [.v c,.i d,.i a,.v e] e6 λC D E=>A.cmp .eql E 2 λe7=>A.join (λe8 j=>A.k3 e8 λg e9=>A.cond s (A.cond u (A.cmp .eql e9 1 λf0=>A.join (λf1 w=>A.un0 f1 (A.cd .gtr d 0 (A.ps d 1 λf2=>A.ix 2 c f2 2 w λf3=>A.k15 f3 λf4 f5=>A.ix 2 c g 2 w λf6=>A.k15 f6 λf7 f8=>A.callv e [.agg ⟨[.int .i64 f4,.int .i64 f5]⟩,.agg ⟨[.int .i64 f7,.int .i64 f8]⟩] [.leaf (.i .i64)] w λf9 F=>A.k5 f9 λg0=>A.cmp .lss g0 0 λg1=>A.join (λg2 g3=>A.k5 g2 λx=>A.c16 151 [.v c,.i x,.i a,.i g,.v e] g3 λG m g4=>A.ps m x λH=>A.ps a m λI=>A.pq l 8 λJ=>A.cmp .lss H I λg5=>A.join (λg6 g7=>A.k18 g6 λg8 g9 h0=>k [.i f,.i g9,.b g4,.b g8,.i h0] g7) λL=>A.cond g5 (A.cmp .geq H J λh1=>A.call 117 [.v c,.i x,.i m,.i f,.v e] G λh2 h3=>A.un0 h2 (A.pa m 1 λh4=>L [.b h1,.i h4,.i a] h3)) (A.cmp .geq I J λh5=>A.pa m 1 λh6=>A.call 117 [.v c,.i h6,.i a,.i f,.v e] G λh7 h8=>A.un0 h7 (L [.b h5,.i x,.i m] h8))) λh9=>A.cond (!g1) (A.c5 150 [.v c,.i d,.i a,.i g,.v e] F λi0 i1=>k [.i f,.i i1,.b u,.b s,.i a] i0) (h9 [.i d] F)) (A.c16 151 [.v c,.i d,.i a,.i g,.v e] w λM n i2=>A.ps n d λN=>A.ps a n λO=>A.pq l 8 λP=>A.cmp .lss N O λi3=>A.join (λi4 i5=>A.k18 i4 λi6 i7 i8=>k [.i f,.i i7,.b i2,.b i6,.i i8] i5) λQ=>A.cond i3 (A.cmp .geq N P λi9=>A.call 117 [.v c,.i d,.i n,.i f,.v e] M λj0 j1=>A.un0 j0 (A.pa n 1 λj2=>Q [.b i9,.i j2,.i a] j1)) (A.cmp .geq O P λj3=>A.pa n 1 λj4=>A.call 117 [.v c,.i j4,.i a,.i f,.v e] M λj5 j6=>A.un0 j5 (Q [.b j3,.i d,.i n] j6))))) λS=>A.cond f0 (A.c6 149 [.v c,.i d,.i a,.v e] j λT j7=>A.cond j7 (K [] T) (S [] T)) (S [] j)) (A.cd .gtr d 0 (A.ps d 1 λj8=>A.ix 2 c j8 2 j λj9=>A.k15 j9 λk0 k1=>A.ix 2 c g 2 j λk2=>A.k15 k2 λk4 k6=>A.callv e [.agg ⟨[.int .i64 k0,.int .i64 k1]⟩,.agg ⟨[.int .i64 k4,.int .i64 k6]⟩] [.leaf (.i .i64)] j λk7 U=>A.k5 k7 λk8=>A.cmp .lss k8 0 λk9=>A.join (λl0 l1=>A.k5 l0 λy=>A.c16 151 [.v c,.i y,.i a,.i g,.v e] l1 λV o l2=>A.ps o y λW=>A.ps a o λX=>A.pq l 8 λY=>A.cmp .lss W X λl3=>A.join (λl4 l5=>A.k18 l4 λl6 l7 l8=>k [.i f,.i l7,.b l2,.b l6,.i l8] l5) λZ=>A.cond l3 (A.cmp .geq W Y λl9=>A.call 117 [.v c,.i y,.i o,.i f,.v e] V λm0 m1=>A.un0 m0 (A.pa o 1 λm2=>Z [.b l9,.i m2,.i a] m1)) (A.cmp .geq X Y λm3=>A.pa o 1 λm4=>A.call 117 [.v c,.i m4,.i a,.i f,.v e] V λm5 m6=>A.un0 m5 (Z [.b m3,.i y,.i o] m6))) λm7=>A.cond (!k9) (A.c5 150 [.v c,.i d,.i a,.i g,.v e] U λm8 m9=>k [.i f,.i m9,.b u,.b s,.i a] m8) (m7 [.i d] U)) (A.c16 151 [.v c,.i d,.i a,.i g,.v e] j λa0 p n0=>A.ps p d λa1=>A.ps a p λa2=>A.pq l 8 λa3=>A.cmp .lss a1 a2 λn1=>A.join (λn2 n3=>A.k18 n2 λn4 n5 n6=>k [.i f,.i n5,.b n0,.b n4,.i n6] n3) λa4=>A.cond n1 (A.cmp .geq a1 a3 λn7=>A.call 117 [.v c,.i d,.i p,.i f,.v e] a0 λn8 n9=>A.un0 n8 (A.pa p 1 λo0=>a4 [.b n7,.i o0,.i a] n9)) (A.cmp .geq a2 a3 λo1=>A.pa p 1 λo2=>A.call 117 [.v c,.i o2,.i a,.i f,.v e] a0 λo3 o4=>A.un0 o3 (a4 [.b o1,.i d,.i p] o4))))) (A.cd .gtr d 0 (A.ps d 1 λo5=>A.ix 2 c o5 2 j λo6=>A.k15 o6 λo7 o8=>A.ix 2 c g 2 j λo9=>A.k15 o9 λp0 p1=>A.callv e [.agg ⟨[.int .i64 o7,.int .i64 o8]⟩,.agg ⟨[.int .i64 p0,.int .i64 p1]⟩] [.leaf (.i .i64)] j λp2 a5=>A.k5 p2 λp3=>A.cmp .lss p3 0 λp4=>A.join (λp5 p6=>A.k5 p5 λz=>A.c16 151 [.v c,.i z,.i a,.i g,.v e] p6 λa6 q p7=>A.ps q z λa7=>A.ps a q λa8=>A.pq l 8 λa9=>A.cmp .lss a7 a8 λp8=>A.join (λp9 q0=>A.k18 p9 λq1 q2 q3=>k [.i f,.i q2,.b p7,.b q1,.i q3] q0) λb0=>A.cond p8 (A.cmp .geq a7 a9 λq4=>A.call 117 [.v c,.i z,.i q,.i f,.v e] a6 λq5 q6=>A.un0 q5 (A.pa q 1 λq7=>b0 [.b q4,.i q7,.i a] q6)) (A.cmp .geq a8 a9 λq8=>A.pa q 1 λq9=>A.call 117 [.v c,.i q9,.i a,.i f,.v e] a6 λr0 r1=>A.un0 r0 (b0 [.b q8,.i z,.i q] r1))) λr2=>A.cond (!p4) (A.c5 150 [.v c,.i d,.i a,.i g,.v e] a5 λr3 r4=>k [.i f,.i r4,.b u,.b s,.i a] r3) (r2 [.i d] a5)) (A.c16 151 [.v c,.i d,.i a,.i g,.v e] j λb1 r r5=>A.ps r d λb2=>A.ps a r λb3=>A.pq l 8 λb4=>A.cmp .lss b2 b3 λr6=>A.join (λr7 r8=>A.k18 r7 λr9 s0 s1=>k [.i f,.i s0,.b r5,.b r9,.i s1] r8) λb5=>A.cond r6 (A.cmp .geq b2 b4 λs2=>A.call 117 [.v c,.i d,.i r,.i f,.v e] b1 λs3 s4=>A.un0 s3 (A.pa r 1 λs5=>b5 [.b s2,.i s5,.i a] s4)) (A.cmp .geq b3 b4 λs6=>A.pa r 1 λs7=>A.call 117 [.v c,.i s7,.i a,.i f,.v e] b1 λs8 s9=>A.un0 s8 (b5 [.b s6,.i d,.i r] s9))))) λb6=>A.cond e7 (A.call 148 [.v c,.i d,.i a,.v e] C λt0 t1=>A.un0 t0 (A.ps a 1 λt2=>A.ps D d λt3=>A.ps t2 t3 λt4=>b6 [.i t4,.i 1] t1)) (b6 [.i D,.i E] C)) λb7=>A.cond (!s) (A.call 146 [.v c,.i d,.i a,.v e] t λt5 t6=>A.un0 t5 (A.ps B 1 λt7=>b7 [.i t7] t6)) (b7 [.i B] t)))) [.i c0,.i b8,.b true,.b true,.i b9] h
def N7:R:=A.k17 ls λc b8 b9 c0 e=>A.loop (λc1 c2 t=>A.unI c2 λB c4=>A.unI c4 λd c7=>A.unB c7 λu c8=>A.unB c8 λs c9=>A.k5 c9 λa=>A.join (λd0 d1=>A.unI d0 λd2 d3=>A.unI d3 λd4 d5=>A.unB d5 λd6 d7=>A.unB d7 λd8 d9=>A.k5 d9 λe0=>c1 [.i d2,.i d4,.b d6,.b d8,.i e0] d1) λk=>A.ps a d λl=>A.cd .leq l 12 (A.call 152 [.v c,.i d,.i a,.v e] t λe1 e2=>A.un0 e1 (K [] e2)) (A.cd .eql B 0 (A.call 153 [.v c,.i d,.i a,.v e] t λe3 e4=>A.un0 e3 (K [] e4)) (A.join (λe5 e6=>A.k5 e5 λf=>A.c3 155 [.v c,.i d,.i a,.v e] e6 λC D E=>A.cmp .eql E 2 λe7=>A.join (λe8 j=>A.k3 e8 λg e9=>A.cond s (A.cond u (A.cmp .eql e9 1 λf0=>A.join (λf1 w=>A.un0 f1 (A.cd .gtr d 0 (A.ps d 1 λf2=>A.ix 3 c f2 3 w λf3=>A.k12 f3 λf4 f5 f6=>A.ix 3 c g 3 w λf7=>A.k12 f7 λf8 f9 g0=>A.callv e [.agg ⟨[.int .u8 f4,.int .i64 f5,.int .i64 f6]⟩,.agg ⟨[.int .u8 f8,.int .i64 f9,.int .i64 g0]⟩] [.leaf (.i .i64)] w λg1 F=>A.k5 g1 λg2=>A.cmp .lss g2 0 λg3=>A.join (λg4 g5=>A.k5 g4 λx=>A.c16 159 [.v c,.i x,.i a,.i g,.v e] g5 λG m g6=>A.ps m x λH=>A.ps a m λI=>A.pq l 8 λJ=>A.cmp .lss H I λg7=>A.join (λg8 g9=>A.k18 g8 λh0 h1 h2=>k [.i f,.i h1,.b g6,.b h0,.i h2] g9) λL=>A.cond g7 (A.cmp .geq H J λh3=>A.call 118 [.v c,.i x,.i m,.i f,.v e] G λh4 h5=>A.un0 h4 (A.pa m 1 λh6=>L [.b h3,.i h6,.i a] h5)) (A.cmp .geq I J λh7=>A.pa m 1 λh8=>A.call 118 [.v c,.i h8,.i a,.i f,.v e] G λh9 i0=>A.un0 h9 (L [.b h7,.i x,.i m] i0))) λi1=>A.cond (!g3) (A.c5 158 [.v c,.i d,.i a,.i g,.v e] F λi2 i3=>k [.i f,.i i3,.b u,.b s,.i a] i2) (i1 [.i d] F)) (A.c16 159 [.v c,.i d,.i a,.i g,.v e] w λM n i4=>A.ps n d λN=>A.ps a n λO=>A.pq l 8 λP=>A.cmp .lss N O λi5=>A.join (λi6 i7=>A.k18 i6 λi8 i9 j0=>k [.i f,.i i9,.b i4,.b i8,.i j0] i7) λQ=>A.cond i5 (A.cmp .geq N P λj1=>A.call 118 [.v c,.i d,.i n,.i f,.v e] M λj2 j3=>A.un0 j2 (A.pa n 1 λj4=>Q [.b j1,.i j4,.i a] j3)) (A.cmp .geq O P λj5=>A.pa n 1 λj6=>A.call 118 [.v c,.i j6,.i a,.i f,.v e] M λj7 j8=>A.un0 j7 (Q [.b j5,.i d,.i n] j8))))) λS=>A.cond f0 (A.c6 157 [.v c,.i d,.i a,.v e] j λT j9=>A.cond j9 (K [] T) (S [] T)) (S [] j)) (A.cd .gtr d 0 (A.ps d 1 λk0=>A.ix 3 c k0 3 j λk1=>A.k12 k1 λk2 k4 k6=>A.ix 3 c g 3 j λk7=>A.k12 k7 λk8 k9 l0=>A.callv e [.agg ⟨[.int .u8 k2,.int .i64 k4,.int .i64 k6]⟩,.agg ⟨[.int .u8 k8,.int .i64 k9,.int .i64 l0]⟩] [.leaf (.i .i64)] j λl1 U=>A.k5 l1 λl2=>A.cmp .lss l2 0 λl3=>A.join (λl4 l5=>A.k5 l4 λy=>A.c16 159 [.v c,.i y,.i a,.i g,.v e] l5 λV o l6=>A.ps o y λW=>A.ps a o λX=>A.pq l 8 λY=>A.cmp .lss W X λl7=>A.join (λl8 l9=>A.k18 l8 λm0 m1 m2=>k [.i f,.i m1,.b l6,.b m0,.i m2] l9) λZ=>A.cond l7 (A.cmp .geq W Y λm3=>A.call 118 [.v c,.i y,.i o,.i f,.v e] V λm4 m5=>A.un0 m4 (A.pa o 1 λm6=>Z [.b m3,.i m6,.i a] m5)) (A.cmp .geq X Y λm7=>A.pa o 1 λm8=>A.call 118 [.v c,.i m8,.i a,.i f,.v e] V λm9 n0=>A.un0 m9 (Z [.b m7,.i y,.i o] n0))) λn1=>A.cond (!l3) (A.c5 158 [.v c,.i d,.i a,.i g,.v e] U λn2 n3=>k [.i f,.i n3,.b u,.b s,.i a] n2) (n1 [.i d] U)) (A.c16 159 [.v c,.i d,.i a,.i g,.v e] j λa0 p n4=>A.ps p d λa1=>A.ps a p λa2=>A.pq l 8 λa3=>A.cmp .lss a1 a2 λn5=>A.join (λn6 n7=>A.k18 n6 λn8 n9 o0=>k [.i f,.i n9,.b n4,.b n8,.i o0] n7) λa4=>A.cond n5 (A.cmp .geq a1 a3 λo1=>A.call 118 [.v c,.i d,.i p,.i f,.v e] a0 λo2 o3=>A.un0 o2 (A.pa p 1 λo4=>a4 [.b o1,.i o4,.i a] o3)) (A.cmp .geq a2 a3 λo5=>A.pa p 1 λo6=>A.call 118 [.v c,.i o6,.i a,.i f,.v e] a0 λo7 o8=>A.un0 o7 (a4 [.b o5,.i d,.i p] o8))))) (A.cd .gtr d 0 (A.ps d 1 λo9=>A.ix 3 c o9 3 j λp0=>A.k12 p0 λp1 p2 p3=>A.ix 3 c g 3 j λp4=>A.k12 p4 λp5 p6 p7=>A.callv e [.agg ⟨[.int .u8 p1,.int .i64 p2,.int .i64 p3]⟩,.agg ⟨[.int .u8 p5,.int .i64 p6,.int .i64 p7]⟩] [.leaf (.i .i64)] j λp8 a5=>A.k5 p8 λp9=>A.cmp .lss p9 0 λq0=>A.join (λq1 q2=>A.k5 q1 λz=>A.c16 159 [.v c,.i z,.i a,.i g,.v e] q2 λa6 q q3=>A.ps q z λa7=>A.ps a q λa8=>A.pq l 8 λa9=>A.cmp .lss a7 a8 λq4=>A.join (λq5 q6=>A.k18 q5 λq7 q8 q9=>k [.i f,.i q8,.b q3,.b q7,.i q9] q6) λb0=>A.cond q4 (A.cmp .geq a7 a9 λr0=>A.call 118 [.v c,.i z,.i q,.i f,.v e] a6 λr1 r2=>A.un0 r1 (A.pa q 1 λr3=>b0 [.b r0,.i r3,.i a] r2)) (A.cmp .geq a8 a9 λr4=>A.pa q 1 λr5=>A.call 118 [.v c,.i r5,.i a,.i f,.v e] a6 λr6 r7=>A.un0 r6 (b0 [.b r4,.i z,.i q] r7))) λr8=>A.cond (!q0) (A.c5 158 [.v c,.i d,.i a,.i g,.v e] a5 λr9 s0=>k [.i f,.i s0,.b u,.b s,.i a] r9) (r8 [.i d] a5)) (A.c16 159 [.v c,.i d,.i a,.i g,.v e] j λb1 r s1=>A.ps r d λb2=>A.ps a r λb3=>A.pq l 8 λb4=>A.cmp .lss b2 b3 λs2=>A.join (λs3 s4=>A.k18 s3 λs5 s6 s7=>k [.i f,.i s6,.b s1,.b s5,.i s7] s4) λb5=>A.cond s2 (A.cmp .geq b2 b4 λs8=>A.call 118 [.v c,.i d,.i r,.i f,.v e] b1 λs9 t0=>A.un0 s9 (A.pa r 1 λt1=>b5 [.b s8,.i t1,.i a] t0)) (A.cmp .geq b3 b4 λt2=>A.pa r 1 λt3=>A.call 118 [.v c,.i t3,.i a,.i f,.v e] b1 λt4 t5=>A.un0 t4 (b5 [.b t2,.i d,.i r] t5))))) λb6=>A.cond e7 (A.call 156 [.v c,.i d,.i a,.v e] C λt6 t7=>A.un0 t6 (A.ps a 1 λt8=>A.ps D d λt9=>A.ps t8 t9 λu0=>b6 [.i u0,.i 1] t7)) (b6 [.i D,.i E] C)) λb7=>A.cond (!s) (A.call 154 [.v c,.i d,.i a,.v e] t λu1 u2=>A.un0 u1 (A.ps B 1 λu3=>b7 [.i u3] u2)) (b7 [.i B] t)))) [.i c0,.i b8,.b true,.b true,.i b9] h
def JD:R:=A.k5 ls λa=>A.cmp .neq a a λc=>K [.b c] h
def N8:R:=A.unV ls λc b7=>A.k11 b7 λb8 b9 c0=>A.loop (λc1 c2 s=>A.unI c2 λz c4=>A.unI c4 λd c7=>A.unB c7 λt c8=>A.unB c8 λr c9=>A.k5 c9 λa=>A.join (λd0 d1=>A.unI d0 λd2 d3=>A.unI d3 λd4 d5=>A.unB d5 λd6 d7=>A.unB d7 λd8 d9=>A.k5 d9 λe0=>c1 [.i d2,.i d4,.b d6,.b d8,.i e0] d1) λj=>A.ps a d λk=>A.cd .leq k 12 (A.call 160 [.v c,.i d,.i a] s λe1 e2=>A.un0 e1 (K [] e2)) (A.cd .eql z 0 (A.call 161 [.v c,.i d,.i a] s λe3 e4=>A.un0 e3 (K [] e4)) (A.join (λe5 e6=>A.k5 e5 λe=>A.c3 163 [.v c,.i d,.i a] e6 λB C D=>A.cmp .eql D 2 λe7=>A.join (λe8 g=>A.k3 e8 λf e9=>A.cond r (A.cond t (A.cmp .eql e9 1 λf0=>A.join (λf1 u=>A.un0 f1 (A.cd .gtr d 0 (A.ps d 1 λf2=>A.ix 1 c f2 1 u λf3=>A.k8 f3 λf4=>A.ix 1 c f 1 u λf5=>A.k8 f5 λf6=>A.c6 166 [.i f4,.i f6] u λE f7=>A.join (λf8 f9=>A.k5 f8 λw=>A.c16 168 [.v c,.i w,.i a,.i f] f9 λF l g0=>A.ps l w λG=>A.ps a l λH=>A.pq k 8 λI=>A.cmp .lss G H λg1=>A.join (λg2 g3=>A.k18 g2 λg4 g5 g6=>j [.i e,.i g5,.b g0,.b g4,.i g6] g3) λJ=>A.cond g1 (A.cmp .geq G I λg7=>A.call 120 [.v c,.i w,.i l,.i e] F λg8 g9=>A.un0 g8 (A.pa l 1 λh0=>J [.b g7,.i h0,.i a] g9)) (A.cmp .geq H I λh1=>A.pa l 1 λh2=>A.call 120 [.v c,.i h2,.i a,.i e] F λh3 h4=>A.un0 h3 (J [.b h1,.i w,.i l] h4))) λh5=>A.cond (!f7) (A.c5 167 [.v c,.i d,.i a,.i f] E λh6 h7=>j [.i e,.i h7,.b t,.b r,.i a] h6) (h5 [.i d] E)) (A.c16 168 [.v c,.i d,.i a,.i f] u λL m h8=>A.ps m d λM=>A.ps a m λN=>A.pq k 8 λO=>A.cmp .lss M N λh9=>A.join (λi0 i1=>A.k18 i0 λi2 i3 i4=>j [.i e,.i i3,.b h8,.b i2,.i i4] i1) λP=>A.cond h9 (A.cmp .geq M O λi5=>A.call 120 [.v c,.i d,.i m,.i e] L λi6 i7=>A.un0 i6 (A.pa m 1 λi8=>P [.b i5,.i i8,.i a] i7)) (A.cmp .geq N O λi9=>A.pa m 1 λj0=>A.call 120 [.v c,.i j0,.i a,.i e] L λj1 j2=>A.un0 j1 (P [.b i9,.i d,.i m] j2))))) λQ=>A.cond f0 (A.c6 165 [.v c,.i d,.i a] g λS j3=>A.cond j3 (K [] S) (Q [] S)) (Q [] g)) (A.cd .gtr d 0 (A.ps d 1 λj4=>A.ix 1 c j4 1 g λj5=>A.k8 j5 λj6=>A.ix 1 c f 1 g λj7=>A.k8 j7 λj8=>A.c6 166 [.i j6,.i j8] g λT j9=>A.join (λk0 k1=>A.k5 k0 λx=>A.c16 168 [.v c,.i x,.i a,.i f] k1 λU n k2=>A.ps n x λV=>A.ps a n λW=>A.pq k 8 λX=>A.cmp .lss V W λk4=>A.join (λk6 k7=>A.k18 k6 λk9 l0 l1=>j [.i e,.i l0,.b k2,.b k9,.i l1] k7) λY=>A.cond k4 (A.cmp .geq V X λl2=>A.call 120 [.v c,.i x,.i n,.i e] U λl3 l4=>A.un0 l3 (A.pa n 1 λl5=>Y [.b l2,.i l5,.i a] l4)) (A.cmp .geq W X λl6=>A.pa n 1 λl7=>A.call 120 [.v c,.i l7,.i a,.i e] U λl8 l9=>A.un0 l8 (Y [.b l6,.i x,.i n] l9))) λm0=>A.cond (!j9) (A.c5 167 [.v c,.i d,.i a,.i f] T λm1 m2=>j [.i e,.i m2,.b t,.b r,.i a] m1) (m0 [.i d] T)) (A.c16 168 [.v c,.i d,.i a,.i f] g λZ o m3=>A.ps o d λa0=>A.ps a o λa1=>A.pq k 8 λa2=>A.cmp .lss a0 a1 λm4=>A.join (λm5 m6=>A.k18 m5 λm7 m8 m9=>j [.i e,.i m8,.b m3,.b m7,.i m9] m6) λa3=>A.cond m4 (A.cmp .geq a0 a2 λn0=>A.call 120 [.v c,.i d,.i o,.i e] Z λn1 n2=>A.un0 n1 (A.pa o 1 λn3=>a3 [.b n0,.i n3,.i a] n2)) (A.cmp .geq a1 a2 λn4=>A.pa o 1 λn5=>A.call 120 [.v c,.i n5,.i a,.i e] Z λn6 n7=>A.un0 n6 (a3 [.b n4,.i d,.i o] n7))))) (A.cd .gtr d 0 (A.ps d 1 λn8=>A.ix 1 c n8 1 g λn9=>A.k8 n9 λo0=>A.ix 1 c f 1 g λo1=>A.k8 o1 λo2=>A.c6 166 [.i o0,.i o2] g λa4 o3=>A.join (λo4 o5=>A.k5 o4 λy=>A.c16 168 [.v c,.i y,.i a,.i f] o5 λa5 p o6=>A.ps p y λa6=>A.ps a p λa7=>A.pq k 8 λa8=>A.cmp .lss a6 a7 λo7=>A.join (λo8 o9=>A.k18 o8 λp0 p1 p2=>j [.i e,.i p1,.b o6,.b p0,.i p2] o9) λa9=>A.cond o7 (A.cmp .geq a6 a8 λp3=>A.call 120 [.v c,.i y,.i p,.i e] a5 λp4 p5=>A.un0 p4 (A.pa p 1 λp6=>a9 [.b p3,.i p6,.i a] p5)) (A.cmp .geq a7 a8 λp7=>A.pa p 1 λp8=>A.call 120 [.v c,.i p8,.i a,.i e] a5 λp9 q0=>A.un0 p9 (a9 [.b p7,.i y,.i p] q0))) λq1=>A.cond (!o3) (A.c5 167 [.v c,.i d,.i a,.i f] a4 λq2 q3=>j [.i e,.i q3,.b t,.b r,.i a] q2) (q1 [.i d] a4)) (A.c16 168 [.v c,.i d,.i a,.i f] g λb0 q q4=>A.ps q d λb1=>A.ps a q λb2=>A.pq k 8 λb3=>A.cmp .lss b1 b2 λq5=>A.join (λq6 q7=>A.k18 q6 λq8 q9 r0=>j [.i e,.i q9,.b q4,.b q8,.i r0] q7) λb4=>A.cond q5 (A.cmp .geq b1 b3 λr1=>A.call 120 [.v c,.i d,.i q,.i e] b0 λr2 r3=>A.un0 r2 (A.pa q 1 λr4=>b4 [.b r1,.i r4,.i a] r3)) (A.cmp .geq b2 b3 λr5=>A.pa q 1 λr6=>A.call 120 [.v c,.i r6,.i a,.i e] b0 λr7 r8=>A.un0 r7 (b4 [.b r5,.i d,.i q] r8))))) λb5=>A.cond e7 (A.call 164 [.v c,.i d,.i a] B λr9 s0=>A.un0 r9 (A.ps a 1 λs1=>A.ps C d λs2=>A.ps s1 s2 λs3=>b5 [.i s3,.i 1] s0)) (b5 [.i C,.i D] B)) λb6=>A.cond (!r) (A.call 162 [.v c,.i d,.i a] s λs4 s5=>A.un0 s4 (A.ps z 1 λs6=>b6 [.i s6] s5)) (b6 [.i z] s)))) [.i c0,.i b8,.b true,.b true,.i b9] h
def JE:R:=A.k11 ls λf g e=>A.pm 6 f λa=>A.pm 6 g λb=>A.pa a 3 λc=>A.pa b 3 λd=>A.cd .eql e 0 (A.pa a 6 λj=>K [.i c,.i d,.i a,.i b,.i j,.i b] h) (A.cd .eql e 1 (A.pa a 6 λk=>A.pa a 6 λl=>A.pa b 6 λm=>K [.i c,.i d,.i k,.i b,.i l,.i m] h) (A.cd .eql e 2 (A.pa a 6 λn=>A.pa b 6 λo=>A.pa b 6 λp=>K [.i c,.i d,.i n,.i o,.i a,.i p] h) (A.pa b 6 λq=>K [.i c,.i d,.i a,.i q,.i a,.i b] h)))
def N9:R:=A.unV ls λa c=>A.k0 c λd=>A.c5 169 [.v a,.v d] h λe f=>A.cmp .geq f 0 λg=>K [.b g] e
def JF:R:=A.k11 ls λe f a=>A.c6 124 [.i a] h λc d=>K [.b (!d)] c
def JG:R:=A.k5 ls λa=>A.join (λd e=>A.k6 d λf=>K [.b f] e) λc=>A.cd .geq a 1 (A.cmp .leq a 3 λg=>c [.b g] h) (c [.b false] h)
def Hb:R:=A.k7 ls λf g a b=>A.c3 67 [.i f,.i g,.i a,.i b] h λc d e=>A.cd .neq e 0 (K [.i 0,.i 0,.i e] c) (A.cmp .lss d a λj=>A.sel j d a λk=>K [.i k,.i b,.i 0] c)
def JH:R:=A.k11 ls λa b c=>K [.i a,.i b] h
def DD:R:=A.k7 ls λa c b d=>A.cd .neq a b (A.ps a b λe=>K [.i e] h) (A.ci c λf=>A.ci d λg=>A.ps f g λj=>K [.i j] h)
def Oa:R:=A.unI ls λr e=>A.unI e λs f=>A.k0 f λa=>A.ln a λt=>A.new (.map [] 0) h λd g=>A.ln a λj=>A.loop (λk l b=>A.k5 l λc=>A.cd .lss c j (A.ix 3 a c 3 b λm=>A.k13 m λn o u=>A.heap (.fn (HF cc 188 (.map (some d)) (.agg ⟨[.int .i64 n,.int .u8 o]⟩) (.bool true))) b λw p=>A.pa c 1 λq=>k [.i q] p) (K [.v (.map (some d))] b)) [.i 0] g
def Ob:R:=A.unI ls λb o=>A.unI o λp q=>A.unV q λd r=>A.unV r λs t=>A.k0 t λe=>A.opt (Ag 0 d) λf=>A.chk f (A.peek (.lg cc 2 f) h λu=>A.k15 u λv w=>A.c11 125 [.i v,.i w,.i b,.i p] h λa g j a4=>A.peek (.lg cc 1 s) a λx=>A.ucV x λk y=>A.chk k (A.uc0 y (A.peek (.fn (DL cc 188 false (.bool false) k (.agg ⟨[.int .i64 g,.int .u8 j]⟩) false)) a λz=>A.ucB z λB C=>A.uc0 C (A.cond (!B) (A.peek (.lg cc 1 e) a λD=>A.ucV D λl E=>A.chk l (A.uc0 E (A.ix 3 l b 3 a λF=>A.k12 F λG H I=>K [.i G,.i H,.i I] a))) (A.opt (Ag 0 d) λm=>A.chk m (A.peek (.lg cc 2 m) a λJ=>A.k15 J λL M=>A.c11 130 [.i L,.i M,.i g,.i j] a λN O P a5=>A.c7 131 [.i O,.i P] N λc Q S T a6=>A.peek (.lg cc 1 e) c λU=>A.ucV U λn V=>A.chk n (A.uc0 V (A.ix 3 n b 3 c λW=>A.k12 W λX Y Z=>A.c7 101 [.i Q,.i S,.i T,.i X,.i Y,.i Z] c λa0 a1 a2 a3 a7=>K [.i a1,.i a2,.i a3] a0))))))))
def Yi:R:=A.k7 ls λd e f a=>A.c7 170 [.i d,.i e,.i f,.i a] h λb g j k c=>A.cd .neq c 0 (K [.i 0,.i 0,.i c] b) (A.c11 171 [.i g,.i j,.i k,.i a] b λl m n o=>K [.i m,.i n,.i o] l)
def JI:R:=A.k3 ls λc a=>A.c5 172 [.i c,.i a] h λb d=>A.cd .neq d 0 (K [.i 0,.i 0,.i 0,.i 1] b) (A.cd .eql c 1 (A.pm 2 a λe=>K [.i 4,.i e,.i 0,.i 0] b) (A.cd .eql c 2 (A.pm 2 a λf=>K [.i 6,.i 0,.i f,.i 0] b) (A.cd .eql c 3 (K [.i 5,.i a,.i a,.i 0] b) (A.ps 0 a λg=>K [.i 7,.i g,.i a,.i 0] b))))
def JJ:R:=A.k14 ls λc d e f a b=>A.pm c a λg=>A.pm d b λj=>A.pa g j λk=>A.pm e a λl=>A.pm f b λm=>A.pa l m λn=>K [.i k,.i n] h
def Hc:R:=A.k11 ls λa b c=>A.c5 18 [.i a,.i b,.i c] h λd e=>A.cd .neq e 0 (K [.i 0,.i 0,.i 0,.i 3] d) (K [.i a,.i b,.i c,.i 0] d)
def Yj:R:=A.k7 ls λc d e f=>A.loop (λg j b=>A.k5 j λa=>A.cd .lss a 8 (A.opt (BM 8 a) λs=>A.opt (iW [.i 1,.i 0,.i 0,.i 1,.i 0,.i (-1),.i 1,.i 0,.i (-1),.i 0,.i 0,.i (-1),.i 0,.i 1,.i (-1),.i 0,.i (-1),.i 0,.i 0,.i 1,.i 0,.i (-1),.i (-1),.i 0,.i 1,.i 0,.i 0,.i (-1),.i 0,.i 1,.i 1,.i 0] 0 [(a,4)] 4) λk=>A.k7 k λl m n o=>A.eqs [(.i l,.i c),(.i m,.i d),(.i n,.i e),(.i o,.i f)] λp=>A.cond p (A.conv .u8 a λq=>K [.i q] b) (A.pa a 1 λr=>g [.i r] b)) (K [.i 0] b)) [.i 0] h
def Yk:R:=A.unI ls λe f=>A.unI f λg j=>A.k14 j λk l a b c d=>A.c3 132 [.i a,.i b,.i c,.i d,.i e,.i k] h λm n o=>A.c3 132 [.i a,.i b,.i c,.i d,.i g,.i l] m λp q r=>K [.i n,.i q,.i o,.i r] p
def JK:R:=A.k11 ls λa b g=>A.pm 2 a λc=>A.pa c 1 λd=>A.pm 2 b λe=>A.pa e 1 λf=>K [.i d,.i f] h
def JL:R:=A.unI ls λa m=>A.k7 m λb c d e=>A.c5 18 [.i a,.i b,.i c] h λf n=>A.cd .neq n 0 (K [.i 0,.i 0,.i 1] f) (A.c5 173 [.i d,.i e] f λg o=>A.cd .neq o 0 (K [.i 0,.i 0,.i 1] g) (A.opt (BM 8 a) λD=>A.opt (mh SO 0 [(a,4)] 4) λp=>A.ucI .i64 p λq r=>A.ucI .i64 r λs t=>A.k15 t λu v=>A.c3 132 [.i q,.i s,.i u,.i v,.i d,.i e] g λw x y=>A.pm 2 b λz=>A.pa x z λj=>A.pm 2 c λB=>A.pa y B λk=>A.c5 173 [.i j,.i k] w λl C=>A.cd .neq C 0 (K [.i 0,.i 0,.i 3] l) (K [.i j,.i k,.i 0] l)))
def Oc:R:=A.unV ls λa c=>A.k3 c λd e=>A.c16 174 [.v a,.i d,.i e,.v (.func (.func 175) ⟨[]⟩ ⟨[]⟩)] h λf g j=>K [.i g,.b j] f
def Od:R:=A.k19 ls λb f k l=>A.pa f 1 λm=>A.loop (λn o g=>A.k5 o λe=>A.cd .lss e k (A.join (λp q=>A.un0 p (A.pa e 1 λr=>n [.i r] q)) λj=>A.loop (λs t c=>A.k5 t λa=>A.cd .gtr a f (A.ix 2 b a 2 c λu=>A.k15 u λv w=>A.ps a 1 λx=>A.ix 2 b x 2 c λy=>A.k15 y λz B=>A.callv l [.agg ⟨[.int .i64 v,.int .i64 w]⟩,.agg ⟨[.int .i64 z,.int .i64 B]⟩] [.leaf (.i .i64)] c λC d=>A.k5 C λD=>A.cd .lss D 0 (A.ps a 1 λE=>A.ps a 1 λF=>A.ix 2 b F 2 d λG=>A.k15 G λH I=>A.ix 2 b a 2 d λJ=>A.k15 J λL M=>A.opt (Ah 2 b a) λN=>A.heap (.st N [.int .i64 H,.int .i64 I]) d λT O=>A.opt (Ah 2 b E) λP=>A.heap (.st P [.int .i64 L,.int .i64 M]) O λU Q=>A.ps a 1 λS=>s [.i S] Q) (j [] d)) (j [] c)) [.i e] g) (K [] g)) [.i m] h
def Oe:R:=A.k19 ls λb f k l=>A.pa f 1 λm=>A.loop (λn o g=>A.k5 o λe=>A.cd .lss e k (A.join (λp q=>A.un0 p (A.pa e 1 λr=>n [.i r] q)) λj=>A.loop (λs t c=>A.k5 t λa=>A.cd .gtr a f (A.ix 3 b a 3 c λu=>A.k12 u λv w x=>A.ps a 1 λy=>A.ix 3 b y 3 c λz=>A.k12 z λB C D=>A.callv l [.agg ⟨[.int .u8 v,.int .i64 w,.int .i64 x]⟩,.agg ⟨[.int .u8 B,.int .i64 C,.int .i64 D]⟩] [.leaf (.i .i64)] c λE d=>A.k5 E λF=>A.cd .lss F 0 (A.ps a 1 λG=>A.ps a 1 λH=>A.ix 3 b H 3 d λI=>A.k12 I λJ L M=>A.ix 3 b a 3 d λN=>A.k12 N λO P Q=>A.opt (Ah 3 b a) λS=>A.heap (.st S [.int .u8 J,.int .i64 L,.int .i64 M]) d λX T=>A.opt (Ah 3 b G) λU=>A.heap (.st U [.int .u8 O,.int .i64 P,.int .i64 Q]) T λY V=>A.ps a 1 λW=>s [.i W] V) (j [] d)) (j [] c)) [.i e] g) (K [] g)) [.i m] h
def Of:R:=A.unV ls λb k=>A.k3 k λf l=>A.pa f 1 λm=>A.loop (λn o g=>A.k5 o λe=>A.cd .lss e l (A.join (λp q=>A.un0 p (A.pa e 1 λr=>n [.i r] q)) λj=>A.loop (λs t c=>A.k5 t λa=>A.cd .gtr a f (A.ix 1 b a 1 c λu=>A.k8 u λv=>A.ps a 1 λw=>A.ix 1 b w 1 c λx=>A.k8 x λy=>A.c6 166 [.i v,.i y] c λd z=>A.cond z (A.ps a 1 λB=>A.ps a 1 λC=>A.ix 1 b C 1 d λD=>A.k8 D λE=>A.ix 1 b a 1 d λF=>A.k8 F λG=>A.opt (Ah 1 b a) λH=>A.heap (.st H [.int .i64 E]) d λN I=>A.opt (Ah 1 b B) λJ=>A.heap (.st J [.int .i64 G]) I λO L=>A.ps a 1 λM=>s [.i M] L) (j [] d)) (j [] c)) [.i e] g) (K [] g)) [.i m] h
def Ym:R:=A.k3 ls λa c=>A.join (λg j=>A.k6 g λk=>K [.b k] j) λd=>A.c6 92 [.i a] h λe l=>A.cond l (A.c6 92 [.i c] e λf m=>A.cond (!m) (d [.b true] f) (A.cmp .lss a c λn=>d [.b n] f)) (A.cmp .lss a c λo=>d [.b o] e)
def Og:R:=A.unV ls λd f=>A.k0 f λg=>A.ln d λj=>A.loop (λk l c=>A.k5 l λa=>A.cd .lss a j (A.ix 3 d a 3 c λm=>A.k13 m λn o p=>A.callv g [.agg ⟨[.int .i64 n,.int .u8 o,.int .u8 p]⟩] [.leaf .b] c λq e=>A.k6 q λr=>A.cond r (K [.i a] e) (A.pa a 1 λs=>k [.i s] e)) (K [.i (-1)] c)) [.i 0] h
def Yn:R:=A.k7 ls λa b c e=>A.c5 62 [.i a,.i b] h λf g=>A.cd .neq g 0 (K [.i 0,.i 0,.i 0,.i g] f) (A.c11 125 [.i a,.i b,.i c,.i e] f λd j k l=>A.cd .neq l 0 (K [.i 0,.i 0,.i 0,.i 7] d) (A.eqs [(.i j,.i c),(.i k,.i e)] λm=>A.cond (!m) (K [.i 0,.i 0,.i 0,.i 7] d) (A.c11 103 [.i a,.i b,.i c] d λn o p q=>K [.i o,.i p,.i q,.i 0] n)))
def Yo:R:=A.k7 ls λb c d e=>A.c5 94 [.i b,.i c,.i d] h λa p=>A.cd .neq p 0 (K [.i 0,.i 0,.i 1] a) (A.cd .gtr e 2 (K [.i 0,.i 0,.i 1] a) (A.opt (BM 4 d) λa2=>A.opt (mh SN 0 [(d,17)] 17) λq=>A.ucI .i64 q λa3 r=>A.ucI .i64 r λa4 s=>A.ucI .u8 s λf t=>A.ucI .i64 t λg u=>A.ucI .i64 u λa5 v=>A.ucI .i64 v λa6 w=>A.ucI .u8 w λa7 x=>A.ucI .i64 x λa8 y=>A.ucI .i64 y λa9 z=>A.ucI .u8 z λb0 B=>A.ucI .i64 B λb1 C=>A.ucI .i64 C λb2 D=>A.ucI .u8 D λb3 E=>A.ucI .i64 E λb4 F=>A.ucI .i64 F λb5 G=>A.k15 G λb6 b7=>A.pa b g λH=>A.cmp .eql e 1 λI=>A.join (λJ L=>A.k3 J λj k=>A.c5 172 [.i j,.i k] L λl M=>A.cd .neq M 0 (K [.i 0,.i 0,.i 3] l) (K [.i j,.i k,.i 0] l)) λm=>A.cond I (A.pa b c λN=>A.pa N 1 λO=>m [.i 3,.i O] a) (A.cmp .eql e 2 λP=>A.join (λQ S=>A.k3 Q λT U=>m [.i T,.i U] S) λn=>A.cond P (A.ps c b λV=>n [.i 4,.i V] a) (A.cmp .eql f 2 λW=>A.join (λX Y=>A.k3 X λZ a0=>n [.i Z,.i a0] Y) λo=>A.cond W (A.pa c g λa1=>o [.i f,.i a1] a) (o [.i f,.i H] a)))))
def JM:R:=A.k3 ls λa b=>A.cd .lss a 1 (K [.i 1] h) (A.cd .gtr a 4 (K [.i 1] h) (A.cd .lss b (-4096) (K [.i 1] h) (A.cd .gtr b 4096 (K [.i 1] h) (K [.i 0] h))))
def JN:R:=A.k3 ls λa b=>A.cd .lss a (-65536) (K [.i 1] h) (A.cd .gtr a 65536 (K [.i 1] h) (A.cd .lss b (-65536) (K [.i 1] h) (A.cd .gtr b 65536 (K [.i 1] h) (K [.i 0] h))))
def Oh:R:=A.k19 ls λd g j k=>A.ln d λl=>A.loop (λp q c=>A.k3 q λa e=>A.cd .lss a e (A.pa a e λr=>A.conv .u64 r λs=>A.shf .shr .u64 s .u64 1 λt=>A.ci t λf=>A.ix 3 d f 3 c λu=>A.k13 u λv w x=>A.callv k [.agg ⟨[.int .i64 v,.int .u8 w,.int .u8 x]⟩,.agg ⟨[.int .i64 g,.int .u8 j]⟩] [.leaf (.i .i64)] c λy m=>A.k5 y λz=>A.cmp .lss z 0 λB=>A.join (λC D=>A.k3 C λE F=>p [.i E,.i F] D) λn=>A.cond B (A.pa f 1 λG=>n [.i G,.i e] m) (n [.i a,.i f] m)) (A.join (λH I=>A.k16 H λJ L=>K [.i J,.b L] I) λo=>A.cd .lss a l (A.ix 3 d a 3 c λM=>A.k13 M λN O P=>A.callv k [.agg ⟨[.int .i64 N,.int .u8 O,.int .u8 P]⟩,.agg ⟨[.int .i64 g,.int .u8 j]⟩] [.leaf (.i .i64)] c λQ S=>A.k5 Q λT=>A.cmp .eql T 0 λU=>o [.i a,.b U] S) (o [.i a,.b false] c))) [.i 0,.i l] h
def JO:R:=A.unI ls λa b=>A.k7 b λc d e f=>A.c3 126 [.i a,.i c,.i d] h λg j k=>A.c5 127 [.i j,.i k,.i e,.i f] g λl m=>K [.i m] l
end
inductive Pth where
 |e
 |o (p:Pth)
 |i (p:Pth)
inductive Tr(α:Type) where
 |leaf
 |node (v:α) (l r:Tr α)
def Pth.num:Pth->Nat
 | .e=>1
 | .o p=>2*p.num
 | .i p=>2*p.num+1
def Lr:Nat->Nat->Pth
 |0,_=>.e
 |f+1,n=>if Nat.ble n 1 then .e else if Nat.beq (n%2) 0 then .o (Lr f (n / 2))else .i (Lr f (n / 2))
def bQ(n:Nat):Pth:=Lr (n+1) (n+1)
def Pth.get{α:Type}(d:α)(p:Pth):Tr α->α:=
 Pth.rec (motive:=λ_=>Tr α->α)
  (λt=>Tr.casesOn t d λv _ _=>v)
  (λ_ a t=>Tr.casesOn t d λ_ l _=>a l)
  (λ_ a t=>Tr.casesOn t d λ_ _ r=>a r) p
def Pth.setK{α:Type}(d:α)(p:Pth):Tr α->α->(Tr α->Bool)->Bool:=
 Pth.rec (motive:=λ_=>Tr α->α->(Tr α->Bool)->Bool)
  (λt x k=>Tr.casesOn t (k (.node x .leaf .leaf)) λ_ l r=>k (.node x l r))
  (λ_ a t x k=>Tr.casesOn t (a .leaf x λl=>k (.node d l .leaf)) λv l r=>a l x λl=>k (.node v l r))
  (λ_ a t x k=>Tr.casesOn t (a .leaf x λr=>k (.node d .leaf r)) λv l r=>a r x λr=>k (.node v l r)) p
def eqI:Int->Int->Bool
 | .ofNat a,.ofNat b=>Nat.beq a b
 | .negSucc a,.negSucc b=>Nat.beq a b
 |_,_=>false
def Ew:TF->Nat
 | .i8=>127
 | .i16=>32767
 | .i32=>2147483647
 | .i64=>9223372036854775807
 | .u8=>255
 | .u16=>65535
 | .u32=>4294967295
 | .u64=>18446744073709551615
def Hi(k:TF):Int->Bool
 | .ofNat n=>Nat.ble n (Ew k)
 | .negSucc n=>k.signed&&Nat.ble n (Ew k)
abbrev Lin:=List Int
abbrev _root_.TA:=List Int
def dot:TA->TA->Int
 |c :: l,x :: ρ=>c*x+dot l ρ
 |_,_=>0
def Lin.eval(l:Lin)(ρ:TA):Int:=
 match l with
 | []=>0
 |c :: l=>c+dot l ρ
structure Ctx where
 iv:List (Int×Int)
 cs:List (List Int×Int×Int)
inductive Opd where
 |t (p:Pth)
 |c (v:Value)
inductive Ins where
 |mv (x:Opd)
 |pick (c a b:Opd)
 |ar (op:BinOp) (x y:Opd)
 |cmp (op:BinOp) (x y:Opd)
 |notb (x:Opd)
 |conv (k:TF) (x:Opd)
 |fld (x:Opd) (off:Nat)
 |flda (x:Opd) (off n:Nat)
 |ext (x:Opd) (i:Nat)
 |fad (x:Opd) (off:Nat)
 |lload (s:Nat) (p:Pth) (a:Opd)
 |lloada (s:Nat) (p:Pth) (n:Nat) (a:Opd)
 |lbox (s:Nat) (p:Pth) (x:Opd)
 |lnew (s:Nat) (p:Pth) (vs:Tk)
 |bld (z:Tk) (ps:List (Nat×Nat×Opd))
 |lstore (s:Nat) (p:Pth) (n:Nat) (a x:Opd)
 |call (f:TK) (args:List Opd)
 |gen
abbrev TV:=Tr Value
abbrev TL:=Tr (Option (Tk))
def rd(tm:TV):Opd->Value
 | .t p=>p.get undef tm
 | .c v=>v
structure XCfg where
 C:Cfg
 kf:TK->Tk->Tp->Option (Value×List HObj)
abbrev KS:=Ctx->TV->TL->Tp->Bool
structure XS where
 call:Ctx->TK->Tk->Tp->(Ctx->Value->Tp->Bool)->Bool
 yield:Ctx->Nat->Tk->Tp->(Ctx->Value->Tp->Bool)->Bool
 ex:Ctx->Tx->Nat->Code->TV->TL->Tp->KS->(Exit->KS)->Bool
def xV:∀(f n:Nat),n<=f->1<=n->(Lr f n).num=n
 |0,n,h,h1=>by omega
 |f+1,n,h,h1=>by
  unfold Lr;by_cases d:n<=1
  ·have:n=1:=by omega
   subst this;rfl
  ·have c:Nat.ble n 1=false:=by
    rw[←Cz,De];exact d
   rw[c];have b:=xV f (n / 2) (by omega) (by omega);by_cases a:n%2=0
   ·simp[a,Pth.num,b];omega
   ·simp[a,Pth.num,b];omega
def qw(n:Nat):(bQ n).num=n+1:=xV _ _ (zY _) (by omega)
def lh{a b:Nat}(h:bQ a=bQ b):a=b:=by
 have:=congrArg Pth.num h;rw[qw,qw]at this;omega
def Pth.set{α:Type}(d:α):Pth->Tr α->α->Tr α
 | .e,.leaf,x=>.node x .leaf .leaf
 | .e,.node _ l r,x=>.node x l r
 | .o p,.leaf,x=>.node d (Pth.set d p .leaf x) .leaf
 | .o p,.node v l r,x=>.node v (Pth.set d p l x) r
 | .i p,.leaf,x=>.node d .leaf (Pth.set d p .leaf x)
 | .i p,.node v l r,x=>.node v l (Pth.set d p r x)
def Pth.setK_eq{α:Type}(d:α):∀(p:Pth) (t:Tr α) (x:α) (k:Tr α->Bool),p.setK d t x k=k (p.set d t x)
 | .e,t,x,k=>by cases t<;>rfl
 | .o p,t,x,k=>by
  cases t with
  |leaf=>exact Pth.setK_eq d p .leaf x _
  |node v l r=>exact Pth.setK_eq d p l x _
 | .i p,t,x,k=>by
  cases t with
  |leaf=>exact Pth.setK_eq d p .leaf x _
  |node v l r=>exact Pth.setK_eq d p r x _
def Pth.get_leaf{α:Type}(d:α)(p:Pth):p.get d .leaf=d:=by cases p<;>rfl
def Pth.get_set{α:Type}(d:α):∀(p:Pth) (t:Tr α) (x:α),p.get d (p.set d t x)=x
 | .e,t,x=>by cases t<;>rfl
 | .o p,t,x=>by
  cases t with
  |leaf=>exact Pth.get_set d p .leaf x
  |node v l r=>exact Pth.get_set d p l x
 | .i p,t,x=>by
  cases t with
  |leaf=>exact Pth.get_set d p .leaf x
  |node v l r=>exact Pth.get_set d p r x
def Pth.get_set_ne{α:Type}(d:α):∀(p q:Pth) (t:Tr α) (x:α),q≠p->q.get d (p.set d t x)=q.get d t
 | .e,q,t,x,h=>by cases q<;>cases t<;>first|rfl|exact absurd rfl h|exact Pth.get_leaf d _
 | .o p,q,t,x,h=>by
  cases q with
  |e=>cases t<;>rfl
  |o q=>
   have a:q≠p:=λe=>h (e▸rfl);cases t with
   |leaf=>exact(Pth.get_set_ne d p q .leaf x a).trans (Pth.get_leaf d q)
   |node v l r=>exact Pth.get_set_ne d p q l x a
  |i q=>
   cases t with
   |leaf=>exact Pth.get_leaf d q
   |node v l r=>rfl
 | .i p,q,t,x,h=>by
  cases q with
  |e=>cases t<;>rfl
  |i q=>
   have a:q≠p:=λe=>h (e▸rfl);cases t with
   |leaf=>exact(Pth.get_set_ne d p q .leaf x a).trans (Pth.get_leaf d q)
   |node v l r=>exact Pth.get_set_ne d p q r x a
  |o q=>
   cases t with
   |leaf=>exact Pth.get_leaf d q
   |node v l r=>rfl
def Tr.map{α:Type}(f:α->α):Tr α->Tr α
 | .leaf=>.leaf
 | .node v l r=>.node (f v) (l.map f) (r.map f)
def eqI_iff{a b:Int}:eqI a b=true↔a=b:=by
 cases a<;>cases b<;>simp[eqI]<;>omega
def JW{k:TF}{c:Int}(h:Hi k c=true):(k.signed=true->-(Ew k:Int) - 1<=c)/\(k.signed=false->0<=c)/\c<=Ew k:=by
 cases c with
 |ofNat n=>
  simp only[Hi,De]at h;refine⟨λ_=>?_,λ_=>?_,?_⟩<;>simp<;>omega
 |negSucc n=>
  simp only[Hi,uc,De]at h;refine⟨λ_=>?_,λa=>?_,?_⟩
  ·omega
  ·rw[h.1]at a;cases a
  ·omega
def tR{k:TF}{c:Int}(h:Hi k c=true):k.wrap c=c:=by
 obtain⟨a,b,d⟩:=JW h;cases k<;>simp only[IntKind.signed,Ew,forall_const,reduceCtorEq,false_implies]at a b d
 ·exact Go.IntWalk.i8_in c (by omega)
 ·exact Go.IntWalk.i16_in c (by omega)
 ·exact Go.IntWalk.i32_in c (by omega)
 ·exact Go.IntWalk.i64_in c (by omega)
 ·exact Go.IntWalk.u8_in c (by omega)
 ·exact Go.IntWalk.u16_in c (by omega)
 ·exact Go.IntWalk.u32_in c (by omega)
 ·exact Go.IntWalk.u64_in c (by omega)
section
variable [Val] {ρ:TA}
def pP(a:BinOp)(x y:Int):Option Bool:=
 match a with
 | .eql=>some (x==y)
 | .neq=>some (x != y)
 | .lss=>some (decide (x<y))
 | .leq=>some (decide (x<=y))
 | .gtr=>some (decide (x > y))
 | .geq=>some (decide (x ≥ y))
 |_=>none
def qO(a:BinOp)(k:TF)(x y n:Int):Prop:=∀(P:TD) (t:TJ) (w:World),(binOp a t (.int k x) (.int k y)).run P w = .ok (.int k n) w
def I4{k:TF}(x:Int):((BitVec.ofInt k.bits x &&& BitVec.ofInt k.bits 1).toNat:Int)=x%2:=by
 have a:k.bits=k.bits - 1+1:=by cases k<;>rfl
 generalize k.bits - 1=n at a;rw[a];have c:(BitVec.ofInt (n+1) 1).toNat=1:=by
  simp
 rw[BitVec.toNat_and,c,Nat.and_one_is_mod,BitVec.toNat_ofInt];have f:(0:Int)<2 ^ (n+1):=Int.pow_pos (by omega);have e:(2:Int) ^ (n+1)=2*2 ^ n:=by rw[Int.pow_succ];omega
 have d:0<=x%(2 ^ (n+1):Int):=Int.emod_nonneg _ (by omega);have:((x%((2 ^ (n+1):Nat):Int)).toNat%2:Nat)=((x%(2 ^ (n+1):Int))%2:Int):=by
  have b:((2 ^ (n+1):Nat):Int)=(2 ^ (n+1):Int):=by simp
  rw[b];omega
 rw[this,e,Int.emod_emod_of_dvd _ ⟨2 ^ n,rfl⟩]
def oR{k:TF}{x n:Int}(b:x%2=n):qO .and k x 1 n:=by
 intro P t w;have c:k.wrap n=n:=tR (by
  have d:0<=n:=by omega
  have e:n<=1:=by omega
  obtain⟨m,rfl⟩ : ∃m:Nat,n=m:=⟨n.toNat,by omega⟩;show Nat.ble m (Ew k)=true;rw[De];cases k<;>simp only[Ew]<;>omega)
 have a:=I4 (k:=k) x;simp only[binOp,ne_eq,not_true_eq_false,if_false,Op.intBits];show Result.ok (Value.int k (k.wrap _)) w=_;rw[a,b,c]
end
section
variable [Val] {ρ:TA}
structure Rep(pts:Tx)(nt:Nat)(tm:TV)(lc:TL)(σ:St):Prop where
 len:σ.tmps.length=nt
 val:∀(i:Nat) v,σ.tmps[i]?=some v->(bQ i).get undef tm=v
 llen:pts≠[]->σ.loc.length=nt
 loc:∀(i:Nat) x,σ.loc[i]?=some x->(bQ i).get none lc=x
def ValStep(C:Cfg)(pts:Tx)(σ:St)(o:Oper)(v:Value):Prop:=
 (∃e,ao C pts (ke σ.tmps) o=some e/\aX σ e=some (σ,v))∨ku C σ.tmps o v
def ValStep.val{C:Cfg}{pts:Tx}{σ:St}{o:Oper}{v:Value}(h:ao C pts (ke σ.tmps) o=some (.val v)):ValStep C pts σ o v:=.inl ⟨_,h,rfl⟩
def pt(k:TF)(x:Int):k.wrap (x%(2 ^ k.bits:Int))=k.wrap x:=by
 unfold IntKind.wrap;rw[Int.emod_emod_of_dvd _ (Int.dvd_refl _)]
def vY{k:TF}(m n:Nat):qO .and k m n (k.wrap (Nat.land m n:Nat)):=by
 intro P t w;simp only[binOp,ne_eq,not_true_eq_false,if_false,Op.intBits];show Result.ok (Value.int k (k.wrap _)) w=_;rw[←pt k (Nat.land m n:Nat)]
 congr 3
 have a:∀x:Nat,(BitVec.ofInt k.bits (x:Int)).toNat=x%2 ^ k.bits:=λx=>by
  rw[BitVec.toNat_ofInt];have:((x:Int)%((2 ^ k.bits:Nat):Int))=((x%2 ^ k.bits:Nat):Int):=by simp
  rw[this,qc5]
 have b:(BitVec.ofInt k.bits (m:Int) &&& BitVec.ofInt k.bits (n:Int)).toNat=(m &&& n)%2 ^ k.bits:=by
  rw[BitVec.toNat_and,a,a,Nat.and_mod_two_pow]
 rw[b];simp
def vZ{k:TF}(m n:Nat):qO .xor k m n (k.wrap (Nat.xor m n:Nat)):=by
 intro P t w;simp only[binOp,ne_eq,not_true_eq_false,if_false,Op.intBits];show Result.ok (Value.int k (k.wrap _)) w=_;rw[←pt k (Nat.xor m n:Nat)]
 congr 3
 have a:∀x:Nat,(BitVec.ofInt k.bits (x:Int)).toNat=x%2 ^ k.bits:=λx=>by
  rw[BitVec.toNat_ofInt];have:((x:Int)%((2 ^ k.bits:Nat):Int))=((x%2 ^ k.bits:Nat):Int):=by simp
  rw[this,qc5]
 have b:(BitVec.ofInt k.bits (m:Int) ^^^ BitVec.ofInt k.bits (n:Int)).toNat=(m ^^^ n)%2 ^ k.bits:=by
  rw[BitVec.toNat_xor,a,a,Nat.xor_mod_two_pow]
 rw[b];simp
def zy{k:TF}(m n:Nat):qO .or k m n (k.wrap (Nat.lor m n:Nat)):=by
 intro P t w;simp only[binOp,ne_eq,not_true_eq_false,if_false,Op.intBits];show Result.ok (Value.int k (k.wrap _)) w=_;rw[←pt k (Nat.lor m n:Nat)]
 congr 3
 have a:∀x:Nat,(BitVec.ofInt k.bits (x:Int)).toNat=x%2 ^ k.bits:=λx=>by
  rw[BitVec.toNat_ofInt];have:((x:Int)%((2 ^ k.bits:Nat):Int))=((x%2 ^ k.bits:Nat):Int):=by simp
  rw[this,qc5]
 have b:(BitVec.ofInt k.bits (m:Int) ||| BitVec.ofInt k.bits (n:Int)).toNat=(m ||| n)%2 ^ k.bits:=by
  rw[BitVec.toNat_or,a,a,Nat.or_mod_two_pow]
 rw[b];simp
end
section
variable {R:Type}
def setK_eq{α:Type}(x:α):∀(l:List α) (i:Nat) (k:List α->R),setK x l i k=k (l.set i x)
 | [],_,_=>rfl
 |_ :: _,0,_=>rfl
 |a :: l,i+1,k=>setK_eq x l i λl=>k (a :: l)
def vt(n:Nat)(K:Nat->R):rI n K=K n:=by cases n<;>rfl
end
def SL.good:SL->Prop
 | .v x=>aB x=true
 |_=>True
def S0.good(x:S0):Prop:=∀l∈x.cells,l.good
def SV.gd:SV->Prop
 | .st x=>x.good
 | .tup xs=>(∀x∈xs,x.good)/\2<=xs.length
 | .no=>False
 |_=>True
def fe{x:Value}:aB x=true↔noLoc x=true/\aP x=true/\aG x=true/\aw x=false:=by
 unfold aB;cases noLoc x<;>cases aP x<;>cases aG x<;>cases aw x<;>simp
def qa{x:Value}(h:aB x=true):bf x=true:=by
 obtain⟨a,_,b,_⟩:=fe.1 h;simp[bf,a,b]
def vu{x:Value}(h:aB x=true):x.cells = #[x]:=ek (fe.1 h).2.2.1
def SL.val_good{l:SL}(h:l.good):aB l.val=true:=by
 cases l with
 |v x=>exact h
 |_=>rfl
def S0.cells_val{x:S0}(h:x.good):x.val.cells=⟨x.cells.map SL.val⟩:=by
 cases x with
 |leaf l=>exact vu (SL.val_good (h l (by simp[S0.cells])))
 |agg a=>rfl
def S0.noLoc{x:S0}(h:x.good):noLoc x.val=true:=by
 cases x with
 |leaf l=>exact(fe.1 (SL.val_good (h l (by simp[S0.cells])))).1
 |agg b=>
  simp only[S0.val,Am.noLoc,qab,qaz];rintro _ ⟨l,a,rfl⟩;exact(fe.1 (SL.val_good (h l a))).2.1
def S0.not_tuple{x:S0}(h:x.good):aw x.val=false:=by
 cases x with
 |leaf l=>exact(fe.1 (SL.val_good (h l (by simp[S0.cells])))).2.2.2
 |agg a=>rfl
def S0.cells_ok{x:S0}(h:x.good):x.val.cells.toList.all bf=true:=by
 rw[S0.cells_val h];simp only[qab,qaz];rintro _ ⟨l,a,rfl⟩;exact qa (SL.val_good (h l a))
def GQ{cs:List SL}(h:∀l∈cs,l.good):(cs.map SL.val).all bf=true:=by
 simp only[qab,qaz];rintro _ ⟨l,a,rfl⟩;exact qa (SL.val_good (h l a))
def wc{v:Value}(h:scalar v=true):aB v=true:=by
 cases v<;>first|rfl|(simp[scalar]at h;done)|skip
 case pointer a=>cases a<;>first|rfl|simp[scalar]at h
 case slice a l c=>
  cases a with
  |none=>rfl
  |some a=>cases l<;>cases c<;>simp[scalar]at h
def sN(v:Value):(D2 v).val=v:=by cases v<;>rfl
def oW{v:Value}(h:scalar v=true):(D2 v).good:=by
 cases v<;>first|trivial|exact wc h
def sI{v:Value}{x:S0}(h:Dh v=some x):x.val=v/\x.good/\fF v=true:=by
 unfold Dh at h;split at h
 next f=>
  split at h
  next c=>
   cases h;refine⟨?_,?_,c⟩
   ·simp only[S0.val,D9,Value.agg.injEq];have:(SL.val ∘ D2)=id:=funext sN;rw[this,qd4]
   ·intro l a;simp only[S0.cells,qaz]at a;obtain⟨v,e,rfl⟩:=a;exact oW (qab.1 c v e)
  ·cases h
 next b=>
  split at h
  next d=>
   cases h;refine⟨sN v,?_,?_⟩
   ·intro l a;simp only[S0.cells,qav]at a;subst a;exact oW d
   ·cases v<;>first|exact d|exact absurd rfl (b _)
  ·cases h
def dE{a b:TF}(h:dF a b=true):a=b:=by
 cases a<;>cases b<;>first|rfl|cases h
def dS(a:TF):dF a a=true:=by cases a<;>rfl
section
variable [Val] [Kno]
def Told(sks:TH)(ls:TB)(xs:List S0):Prop:=cX xs sks=true/\cP xs=ls/\∀x∈xs,x.good
def aD(C:Cfg)(Sg:Tc)(g:TK)(ls:TB)(H:Tp)(a:TB)(H':Tp):Prop:=
 ∃sg xs ys,Sg g=some sg/\Told sg.ps ls xs/\Told sg.rs a ys/\pJ C g (au xs) H (gk (au ys)) H'
def sZ(C:Cfg)(v:Value)(args:Tk)(a:TH)(H:Tp)(b:TB)(H':Tp):Prop:=
 ∃ys,Told a b ys/\((∃g first cap,v = .func (.func g) first cap/\pJ C g (first.toList++args++cap.toList) H (gk (au ys)) H')∨
  (∃l,v = .func (.yield l) #[] #[]/\Mw C l args H (gk (au ys)) H'))
def QR(a:Nat):List (Nat×SK)->Tk->Tk->List Value
 |(t,_) :: l,v :: vs,tm=>QR a l vs (tm.set t v)
 |_,_,tm=>tm
def lpOf(s:Site)(κ:Nat)(a:Tk):ALoop:=
 { state:=.ready,pending:=none,fn:=κ,tmps:=QR s.nt s.caps a (List.replicate s.nt poison),params:=s.params.map (·.1),assign:=s.assign.erase xy,body:=s.body.erase xy }
def gG:Lf->Lf->Bool
 | .i a,.i b=>a==b
 | .b a,.b b=>a==b
 |_,_=>false
def cj(l:List (Lf×Lf)):Bool:=l.all λp=>gG p.1 p.2
def E0(b:BinOp)(k:TF)(x:Int)(a:TF)(y n:Int):Prop:=∀(P:TD) (t:TJ) (w:World),(binOp b t (.int k x) (.int a y)).run P w = .ok (.int k n) w
abbrev _root_.Tq:=Nat->Site
structure AlgOk{R HT:Type}(A:Alg R HT)(C:Cfg)(Sg:Tc)(T:Tq)(holds:R->Prop)(abs:HT->Tp):Prop where
 fail:¬holds A.fail
 cond:∀b x y,holds (A.cond b x y)->(b=true/\holds x)∨(b=false/\holds y)
 ari:∀op k a b K,holds (A.ari op k a b K)->∃n,qO op k a b n/\holds (K n)
 shf:∀op k a k' b K,holds (A.shf op k a k' b K)->∃n,E0 op k a k' b n/\holds (K n)
 cmp:∀op a b K,holds (A.cmp op a b K)->∃t,pP op a b=some t/\holds (K t)
 eqs:∀l K,holds (A.eqs l K)->holds (K (cj l))
 conv:∀k a K,holds (A.conv k a K)->holds (K (k.wrap a))
 sel:∀t a b K,holds (A.sel t a b K)->holds (K (if t then a else b))
 opt:∀ {α:Type} (o:Option α) K,holds (A.opt o K)->∃x,o=some x/\holds (K x)
 chk:∀v K,holds (A.chk v K)->aB v=true/\holds K
 unI:∀ls K,holds (A.unI ls K)->∃n r,ls = .i n :: r/\holds (K n r)
 unB:∀ls K,holds (A.unB ls K)->∃t r,ls = .b t :: r/\holds (K t r)
 unV:∀ls K,holds (A.unV ls K)->∃x r,ls = .v x :: r/\holds (K x r)
 un0:∀ls K,holds (A.un0 ls K)->ls=[]/\holds K
 ucI:∀k ls K,holds (A.ucI k ls K)->∃n r,ls = .int k n :: r/\holds (K n r)
 ucB:∀ls K,holds (A.ucB ls K)->∃t r,ls = .bool t :: r/\holds (K t r)
 ucV:∀ls K,holds (A.ucV ls K)->∃x r,ls=x :: r/\holds (K x r)
 uc0:∀ls K,holds (A.uc0 ls K)->ls=[]/\holds K
 peek:∀f h K,holds (A.peek f h K)->∃cs,f.run (λi=>(abs h)[i]?)=some cs/\holds (K cs)
 heap:∀f h K,holds (A.heap f h K)->∃acts cs h',f.run (λi=>(abs h)[i]?) (abs h).length=some (acts,cs)/\abs h'=gA (abs h) acts/\holds (K cs h')
 new:∀o h K,holds (A.new o h K)->∃h',abs h'=abs h++[o]/\holds (K (abs h).length h')
 call:∀g ls h K,holds (A.call g ls h K)->∃rs h',aD C Sg g ls (abs h) rs (abs h')/\holds (K rs h')
 callv:∀v args hs h K,holds (A.callv v args hs h K)->∃rs h',sZ C v args hs (abs h) rs (abs h')/\holds (K rs h')
 join:∀b m,holds (A.join b m)->holds (m b)
 loop:∀F ls h,holds (A.loop F ls h)->∃it:Nat->TB->HT->R,(∀ls h,¬holds (it 0 ls h))/\(∀n ls h,it (n+1) ls h=F (it n) ls h)/\∃n,holds (it n ls h)
def SV.ok(a:Tk)(i:Nat)(s:SV):Prop:=
 match s with
 | .no=>True
 |s=>a[i]?=some s.val/\s.gd
def LR.ok(a:List (Option (Tk)))(i:Nat):LR->Prop
 | .unk=>True
 | .nil=>a[i]?=some none
 | .any n=>∃vs,a[i]?=some (some vs)/\vs.length=n
 | .row cs=>a[i]?=some (some (cs.map SL.val))/\∀c∈cs,c.good
structure Rp(ev:Env)(σ:St):Prop where
 len:ev.tm.length=σ.tmps.length
 val:∀(i:Nat) s,ev.tm[i]?=some s->s.ok σ.tmps i
 llen:ev.lc.length=σ.loc.length
 row:∀(i:Nat) r,ev.lc[i]?=some r->r.ok σ.loc i
def SV.ok_gd{a:Tk}{i:Nat}{s:SV}(h:s.gd)(b:a[i]?=some s.val):s.ok a i:=by
 cases s<;>first|trivial|exact⟨b,h⟩
def Rp.at{b:Env}{σ:St}(h:Rp b σ){t:Nat}{s:SV}(a:b.tm.getD t .no=s)(d:s≠.no):σ.tmps[t]?=some s.val/\s.gd:=by
 rw[List.getD_eq_getElem?_getD]at a;cases c:b.tm[t]? with
 |none=>rw[c]at a;exact absurd a.symm d
 |some x=>
  rw[c]at a;simp only[HV]at a;subst a;have:=h.val t x c;cases x<;>first|exact this|exact absurd rfl d
def Rp.sval{i:Env}{σ:St}(h:Rp i σ){x:TG}{s:SV}(a:sval i x=s)(d:s≠.no):ke σ.tmps x=s.val/\s.gd:=by
 cases x with
 |tmp t=>
  obtain⟨b,c⟩:=h.at (t:=t) a d;exact⟨by simp[ke,List.getD_eq_getElem?_getD,b],c⟩
 |const v=>
  simp only[Am.sval]at a;cases e:Dh v with
  |none=>rw[e]at a;exact absurd a.symm d
  |some x=>
   rw[e]at a;subst a;obtain⟨b,c,j⟩:=sI e;refine⟨?_,c⟩;have:flat v=true:=by cases v<;>first|exact j|(simp[fF,scalar]at j)
   simp[ke,this,SV.val,b]
 |global g=>
  subst a;simp only[Am.sval,ke];cases m:Nat.blt g gB with
  |true=>exact⟨rfl,trivial⟩
  |false=>exact absurd (by simp only[Am.sval,m]) d
 |func f=>
  subst a;refine⟨rfl,λl k=>?_⟩;simp only[S0.cells,qav]at k;subst k;rfl
def Rp.sval0{b:Env}{σ:St}(h:Rp b σ){x:TG}{s:S0}(a:sval0 b x=some s):ke σ.tmps x=s.val/\s.good:=by
 unfold Am.sval0 at a;split at a
 next y e=>
  cases a;exact h.sval e (by simp)
 ·cases a
def Rp.svals{c:Env}{σ:St}(h:Rp c σ):∀ {l:List Operand} {xs:List S0},svals c l=some xs->l.map (ke σ.tmps)=au xs/\∀x∈xs,x.good
 | [],xs,a=>by cases a;exact⟨rfl,by simp⟩
 |o :: l,xs,a=>by
  simp only[Am.svals]at a;split at a
  next x ys d e=>
   cases a;obtain⟨h1,f⟩:=h.sval0 d;obtain⟨g,i⟩:=h.svals e;refine⟨by simp[au,h1];exact g,λy b=>?_⟩;rcases qar.1 b with rfl|b
   ·exact f
   ·exact i y b
  ·cases a
def Rp.put{b:Env}{σ:St}(h:Rp b σ)(d:Nat){s:SV}(f:s.gd):Rp ⟨b.tm.set d s,b.lc⟩ (σ.put (some d) s.val):=by
 refine⟨by simp[St.put,h.len],λi x a=>?_,h.llen,h.row⟩;simp only[DX]at a;split at a
 next c=>
  subst c;split at a
  next e=>
   cases a;refine SV.ok_gd f ?_;simp only[St.put,List.getElem?_set_self'];rw[A4 (by rw[←h.len];exact e)];rfl
  ·cases a
 next c=>
  have:=h.val i x a;cases x<;>first|trivial|exact⟨by simp only[St.put];rw[BL c];exact this.1,this.2⟩
def Rp.heap{a:Env}{σ:St}(h:Rp a σ)(H:Tp):Rp a { σ with heap:=H }:=⟨h.len,h.val,h.llen,h.row⟩
structure Fr(ws ks rs:Tx)(σ σ':St):Prop where
 tlen:σ'.tmps.length=σ.tmps.length
 llen:σ'.loc.length=σ.loc.length
 tm:∀(i:Nat) v,σ.tmps[i]?=some v->i∉ws->noLoc v=true->σ'.tmps[i]?=some v
 tp:∀(i s off:Nat),σ.tmps[i]?=some (.pointer (some ⟨s,off,some 0⟩))->i∉ws->s∉ks->σ'.tmps[i]?=some (.pointer (some ⟨s,off,some 0⟩))
 row:∀(s:Nat) x,σ.loc[s]?=some x->s∉rs->σ'.loc[s]?=some x
 rlen:∀(s:Nat) vs,σ.loc[s]?=some (some vs)->s∉ks->∃vs',σ'.loc[s]?=some (some vs')/\vs'.length=vs.length
theorem Fr.refl(c ks a:Tx)(σ:St):Fr c ks a σ σ:=⟨rfl,rfl,λ_ _ h _ _=>h,λ_ _ _ h _ _=>h,λ_ _ h _=>h,λ_ b h _=>⟨b,h,rfl⟩⟩
def Fr.trans{f ks e:Tx}{σ σ₁ σ':St}(h:Fr f ks e σ σ₁)(h':Fr f ks e σ₁ σ'):Fr f ks e σ σ':=
 ⟨h'.tlen.trans h.tlen,h'.llen.trans h.llen,λi v a b c=>h'.tm i v (h.tm i v a b c) b c,λi s d a b c=>h'.tp i s d (h.tp i s d a b c) b c,
  λs x a b=>h'.row s x (h.row s x a b) b,λs g a b=>let ⟨v1,c1,d1⟩:=h.rlen s g a b;let ⟨v2,c2,d2⟩:=h'.rlen s v1 c1 b;⟨v2,c2,d2.trans d1⟩⟩
def Fr.mono{m ks l g e f:Tx}{σ σ':St}(h:Fr m ks l σ σ')(h1:∀i∈m,i∈g)(k:∀i∈ks,i∈e)(n:∀i∈l,i∈f):Fr g e f σ σ':=
 ⟨h.tlen,h.llen,λi v a b c=>h.tm i v a (λd=>b (h1 i d)) c,λi s j a b c=>h.tp i s j a (λd=>b (h1 i d)) (λd=>c (k s d)),
  λs x a b=>h.row s x a (λd=>b (n s d)),λs o a b=>h.rlen s o a (λd=>b (k s d))⟩
def Fr.heap{b ks a:Tx}{σ σ':St}(h:Fr b ks a σ σ')(H:Tp):Fr b ks a σ { σ' with heap:=H }:=⟨h.tlen,h.llen,h.tm,h.tp,h.row,h.rlen⟩
def Fr.put{σ:St}(dst:Tn)(v:Value)(ks c:Tx):Fr dst.toList ks c σ (σ.put dst v):=by
 cases dst with
 |none=>exact .refl _ _ _ _
 |some d=>
  refine⟨by simp[St.put],rfl,λi x h a _=>?_,λi s b h a _=>?_,λ_ _ h _=>h,λ_ f h _=>⟨f,h,rfl⟩⟩<;>
  ·simp only[Vs,qav]at a;simp only[St.put];rw[BL (λe=>a e.symm)];exact h
end
inductive HO where
 |o (x:HObj)
 |lp (κ:Nat) (st:LoopState) (pd:Option Code) (vs:Tk)
abbrev HL:=List HO
inductive CK where
 |f (g:TK)
 |y (κ:Nat) (vs:Tk) (l:Nat)
def BR(T:Tq):HO->HObj
 | .o x=>x
 | .lp κ st a vs=>.loop { lpOf (T κ) κ vs with state:=st,pending:=a }
def ka(T:Tq)(h:HL):Tp:=h.map (BR T)
namespace Sx
inductive HOT where
 |o (x:HObj)
 |lp (κ:Nat) (st:LoopState) (pd:Option Code) (vs:Tk)
 |t (n e:Nat) (rw:Bool) (c:Tr Value)
def Cu:Value:=.bool false
def cJ(c:Tr Value)(n:Nat):Tk:=(List.range n).map λi=>(bQ i).get Cu c
def HOT.ho:HOT->HO
 | .o x=>.o x
 | .lp κ st a vs=>.lp κ st a vs
 | .t n e rw c=>.o (.cells (cJ c n) e rw)
structure HTr where
 n:Nat
 t:Tr HOT
def Vl:HOT:=.o .dead
def HTr.empty:HTr:=⟨0,.leaf⟩
def HTr.at(h:HTr)(i:Nat):Option HOT:=match Nat.blt i h.n with
 |true=>some ((bQ i).get Vl h.t)
 |false=>none
def Bg(h:HTr):HL:=(List.range h.n).map λi=>((bQ i).get Vl h.t).ho
def iE(h:HTr):(Bg h).length=h.n:=by simp[Bg]
def pn(h:HTr)(i:Nat):(Bg h)[i]?=(h.at i).map HOT.ho:=by
 unfold Bg HTr.at;rw[AU];cases e:Nat.blt i h.n with
 |true=>
  rw[BH]at e;rw[HX e];rfl
 |false=>
  have:h.n<=i:=by
   rcases Bi i h.n with a|a
   ·rw[←BH,e]at a;cases a
   ·exact a
  rw[Bd (by simpa using this)];rfl
def HTr.put(h:HTr)(i:Nat)(o:HOT):HTr:=match Nat.blt i h.n with
 |true=>⟨h.n,(bQ i).set Vl h.t o⟩
 |false=>h
def HTr.push(h:HTr)(o:HOT):HTr:=⟨h.n+1,(bQ h.n).set Vl h.t o⟩
def sS(h:HTr)(i:Nat)(o:HOT):Bg (h.put i o)=(Bg h).set i o.ho:=by
 apply Ga;intro j;unfold HTr.put;cases e:Nat.blt i h.n with
 |true=>
  rw[BH]at e;simp only;rw[pn];by_cases b:i=j
  ·subst b;rw[CQ (by rw[iE];exact e)];unfold HTr.at;simp only[(BH▸e:Nat.blt i h.n=true)];rw[Pth.get_set];rfl
  ·rw[BL b,pn];unfold HTr.at;simp only;rw[Pth.get_set_ne _ _ _ _ _ (λh=>b (lh h).symm)]
 |false=>
  simp only;have:h.n<=i:=by
   rcases Bi i h.n with a|a
   ·rw[←BH,e]at a;cases a
   ·exact a
  rw[List.set_eq_of_length_le (by rw[iE];exact this)]
def kA(h:HTr)(o:HOT):Bg (h.push o)=Bg h++[o.ho]:=by
 apply Ga;intro j;rw[pn];unfold HTr.push HTr.at;simp only;by_cases c:j<h.n
 ·rw[BE (by rw[iE];exact c),pn];unfold HTr.at;have a:Nat.blt j (h.n+1)=true:=by rw[BH];omega
  have b:Nat.blt j h.n=true:=by rw[BH];omega
  simp only[a,b];rw[Pth.get_set_ne _ _ _ _ _ (λh=>by have:=lh h;omega)]
 ·rw[Cd (by rw[iE];omega),iE];by_cases d:j=h.n
  ·subst d;have a:Nat.blt h.n (h.n+1)=true:=by rw[BH];omega
   simp only[a,F8,UH];rw[Pth.get_set];rfl
  ·have a:Nat.blt j (h.n+1)=false:=by rw[←Cz,BH];omega
   simp only[a];rw[Bd (by simp;omega)];rfl
def bp(c:Tr Value)(n:Nat):(cJ c n).length=n:=by simp[cJ]
def eO(c:Tr Value){n i:Nat}(h:i<n):(cJ c n)[i]?=some ((bQ i).get Cu c):=by
 unfold cJ;rw[AU,HX h];rfl
def CG:Tk->Nat->Tr Value->Tr Value
 | [],_,c=>c
 |v :: l,i,c=>CG l (i+1) ((bQ i).set Cu c v)
def rQ:∀(l:Tk) (i:Nat) (c:Tr Value) (j:Nat),(bQ j).get Cu (CG l i c)=if i<=j/\j<i+l.length then l[j - i]?.getD Cu else(bQ j).get Cu c
 | [],i,c,j=>by
  have h:¬(i<=j/\j<i+([]:Tk).length):=by intro h;have:=h.2;simp at this;omega
  rw[po h];rfl
 |v :: l,i,c,j=>by
  show(bQ j).get Cu (CG l (i+1) _)=_;rw[rQ l (i+1)];by_cases h:i+1<=j/\j<i+1+l.length
  ·rw[mc h,mc (by simp;omega)];have:j - i=(j - (i+1))+1:=by omega
   rw[this,Ip]
  ·rw[po h];by_cases a:j=i
   ·subst a;rw[Pth.get_set,mc (by simp)];simp
   ·rw[Pth.get_set_ne _ _ _ _ _ (λe=>a (lh e)),po (by simp;omega)]
def pN{l:Tk}{i n:Nat}{c:Tr Value}(h:i+l.length<=n):cJ (CG l i c) n=(cJ c n).take i++l++(cJ c n).drop (i+l.length):=by
 apply Ga;intro j;by_cases a:j<n
 ·rw[eO _ a,rQ];by_cases d:j<i
  ·rw[po (by omega),AN,BE (by rw[BN,bp];omega),qdK d,eO _ a]
  ·have b:((cJ c n).take i).length=i:=by rw[BN,bp];omega
   by_cases e:j<i+l.length
   ·rw[mc ⟨by omega,e⟩,AN,Cd (by omega),b,BE (by omega)];rw[A4 (by omega)];rfl
   ·rw[po (by omega),Cd (by rw[A5,b];omega),A5,b,HY,show i+l.length+(j - (i+l.length))=j by omega,eO _ a]
 ·rw[Bd (by rw[bp];omega),Bd (by simp[bp];omega)]
def nn{l:Tk}{n:Nat}{c:Tr Value}:cJ (CG l n c) (n+l.length)=cJ c n++l:=by
 apply Ga;intro j;by_cases b:j<n+l.length
 ·rw[eO _ b,rQ];by_cases a:j<n
  ·rw[po (by omega),BE (by rw[bp];exact a),eO _ a]
  ·rw[mc ⟨by omega,b⟩,Cd (by rw[bp];omega),bp,A4 (by omega)];rfl
 ·rw[Bd (by rw[bp];omega),Bd (by simp[bp];omega)]
def yB(l:Tk):cJ (CG l 0 .leaf) l.length=l:=by
 have:=nn (l:=l) (n:=0) (c:=.leaf);simpa[cJ]using this
def zn(c:Tr Value)(n:Nat):Nat->Tk:=Nat.rec (motive:=λ_=>Nat->Tk) (λ_=>[]) (λ_ b a=>(bQ a).get Cu c :: fN (Nat.succ a) b) n
def jZ(c:Tr Value):∀(n off m:Nat),off+n<=m->zn c n off=((cJ c m).drop off).take n
 |0,_,_,_=>by rw[Vq];rfl
 |n+1,off,m,h=>by
  show(bQ off).get Cu c :: zn c n (off+1)=_;rw[jZ c n (off+1) m (by omega)];have h1:off<(cJ c m).length:=by rw[bp];omega
  rw[MO h1,qcE]
  congr 1
  have:=eO c (n:=m) (i:=off) (by omega);rw[A4 h1]at this;exact(AD this).symm
section
variable {R:Type}
def Lt{α:Type}(d:α)(p:Pth):Tr α->α->(Tr α->R)->R:=
 Pth.rec (motive:=λ_=>Tr α->α->(Tr α->R)->R)
  (λt x k=>Tr.casesOn t (k (.node x .leaf .leaf)) λ_ l r=>k (.node x l r))
  (λ_ a t x k=>Tr.casesOn t (a .leaf x λl=>k (.node d l .leaf)) λv l r=>a l x λl=>k (.node v l r))
  (λ_ a t x k=>Tr.casesOn t (a .leaf x λr=>k (.node d .leaf r)) λv l r=>a r x λr=>k (.node v l r)) p
def jt{α:Type}(d:α):∀(p:Pth) (t:Tr α) (x:α) (k:Tr α->R),Lt d p t x k=k (p.set d t x)
 | .e,t,x,k=>by cases t<;>rfl
 | .o p,t,x,k=>by
  cases t with
  |leaf=>exact jt d p .leaf x _
  |node v l r=>exact jt d p l x _
 | .i p,t,x,k=>by
  cases t with
  |leaf=>exact jt d p .leaf x _
  |node v l r=>exact jt d p r x _
def DU(h:HTr)(i:Nat)(o:HOT)(k:HTr->R):R:=match Nat.blt i h.n with
 |true=>Lt Vl (bQ i) h.t o λt=>k ⟨h.n,t⟩
 |false=>k h
def mi(h:HTr)(o:HOT)(k:HTr->R):R:=Lt Vl (bQ h.n) h.t o λt=>fN (Nat.succ h.n) λn=>k ⟨n,t⟩
def sw(h:HTr)(i:Nat)(o:HOT)(k:HTr->R):DU h i o k=k (h.put i o):=by
 unfold DU HTr.put;split
 next e=>rw[jt]
 ·rfl
def jW(h:HTr)(o:HOT)(k:HTr->R):mi h o k=k (h.push o):=by
 unfold mi HTr.push;rw[jt,fJ]
def xO{α:Type}(l:List α):(List α->R)->R:=
 List.rec (motive:=λ_=>(List α->R)->R) (λk=>k []) (λx _ a k=>a λl=>k (x :: l)) l
def oI{α:Type}:∀(l:List α) (k:List α->R),xO l k=k l
 | [],_=>rfl
 |x :: l,k=>oI l λl=>k (x :: l)
def xP(v:Value)(k:Value->R):R:=match v with
 | .int a n=>fI n λn=>k (.int a n)
 | .bool b=>Bool.rec (k (.bool false)) (k (.bool true)) b
 |v=>k v
def HU(v:Value)(k:Value->R):xP v k=k v:=by
 unfold xP;split
 ·exact jD _ _
 next b=>cases b<;>rfl
 ·rfl
def Ev(l:Tk):Nat->Tr Value->(Tr Value->R)->R:=
 List.rec (motive:=λ_=>Nat->Tr Value->(Tr Value->R)->R) (λ_ c k=>k c) (λv _ a i c k=>xP v λv=>Lt Cu (bQ i) c v λc=>fN (Nat.succ i) λi=>a i c k) l
def ob:∀(l:Tk) (i:Nat) (c:Tr Value) (k:Tr Value->R),Ev l i c k=k (CG l i c)
 | [],_,_,_=>rfl
 |v :: l,i,c,k=>by
  show(xP v λv=>Lt Cu (bQ i) c v λc=>fN (Nat.succ i) λi=>Ev l i c k)=_;rw[HU,jt,fJ,ob l];rfl
def uf(o:HObj)(k:HOT->R):R:=match o with
 | .cells b e rw=>fN b.length λn=>Ev b 0 .leaf λc=>k (.t n e rw c)
 | .map a c=>xO a λa=>fN c λc=>k (.o (.map a c))
 |o=>k (.o o)
def jM{o:HObj}{k:HOT->R}:∃x:HOT,x.ho = .o o/\uf o k=k x:=by
 cases o with
 |cells b e rw=>
  refine⟨.t b.length e rw (CG b 0 .leaf),by simp only[HOT.ho,yB],?_⟩;show(fN b.length λn=>Ev b 0 .leaf λc=>k (.t n e rw c))=_;rw[fJ,ob]
 |map a c=>
  refine⟨.o (.map a c),rfl,?_⟩;show(xO a λa=>fN c λc=>k (.o (.map a c)))=_;rw[oI,fJ]
 |_=>exact⟨.o _,rfl,rfl⟩
def sq(l:TB):(TB->R)->R:=
 List.rec (motive:=λ_=>(TB->R)->R) (λk=>k []) (λx _ a k=>match x with
  | .i n=>fI n λn=>a λl=>k (.i n :: l)
  | .b t=>Bool.rec (a λl=>k (.b false :: l)) (a λl=>k (.b true :: l)) t
  | .v v=>a λl=>k (.v v :: l)) l
def eR:∀(l:TB) (k:TB->R),sq l k=k l
 | [],_=>rfl
 | .i n :: l,k=>(jD n λn=>sq l λl=>k (.i n :: l)).trans (eR l _)
 | .b true :: l,k=>eR l λl=>k (.b true :: l)
 | .b false :: l,k=>eR l λl=>k (.b false :: l)
 | .v v :: l,k=>eR l λl=>k (.v v :: l)
end
end Sx
section
open Sx
abbrev RT:=Option (TB)
abbrev yes:RT:=some []
abbrev gJ:=CK->TB->HTr->(TB->HTr->RT)->RT
def Act1.onH(h:HL):Act1->HL
 | .set i o=>h.set i (.o o)
 | .push o=>h++[.o o]
def bL(h:HL)(l:List Act1):HL:=l.foldl Act1.onH h
def wb(T:Tq)(h:HL):cL:=λi=>match h[i]? with
 |some x=>some (BR T x)
 |none=>none
def C9(T:Tq)(h:HTr):cL:=λi=>match h.at i with
 |some x=>some (BR T x.ho)
 |none=>none
def yv(l:List Act1):HTr->(HTr->RT)->RT:=
 List.rec (motive:=λ_=>HTr->(HTr->RT)->RT) (λh k=>k h) (λa _ b h k=>match a with
  | .set i o=>uf o λo=>DU h i o λh=>b h k
  | .push o=>uf o λo=>mi h o λh=>b h k) l
def Xx(b:Bool)(x y:RT):RT:=Bool.rec y x b
def DP(k:TF)(c:Int)(K:Int->RT):RT:=Bool.rec (fI (k.wrap c) K) (K c) (Hi k c)
def Rc(c:Int)(K:Int->RT):RT:=@Bool.rec (λ_=>RT) (fI (IntKind.wrap .i64 c) K) (K c) (@Int.rec (λ_=>Bool) (λn=>Nat.ble n 9223372036854775807) (λn=>Nat.ble n 9223372036854775807) c)
def Rd(c:Int)(K:Int->RT):RT:=@Bool.rec (λ_=>RT) (fI (IntKind.wrap .u8 c) K) (K c) (@Int.rec (λ_=>Bool) (λn=>Nat.ble n 255) (λ_=>false) c)
def C0(k:TF)(c:Int)(K:Int->RT):RT:=@IntKind.rec (λ_=>RT) (DP .i8 c K) (DP .i16 c K) (DP .i32 c K) (Rc c K) (Rd c K) (DP .u16 c K) (DP .u32 c K) (DP .u64 c K) k
def RQ(a b:Int)(K:Int->RT):RT:=
 Int.rec (λm=>Int.rec (λn=>fN (Nat.add m n) λc=>K (.ofNat c)) (λn=>Bool.rec (fN (Nat.sub n m) λc=>K (.negSucc c)) (fN (Nat.sub m (Nat.succ n)) λc=>K (.ofNat c)) (Nat.blt n m)) b)
  (λm=>Int.rec (λn=>Bool.rec (fN (Nat.sub m n) λc=>K (.negSucc c)) (fN (Nat.sub n (Nat.succ m)) λc=>K (.ofNat c)) (Nat.blt m n)) (λn=>fN (Nat.succ (Nat.add m n)) λc=>K (.negSucc c)) b) a
def U1(a b:Int)(K:Int->RT):RT:=
 Int.rec (λm=>Int.rec (λn=>Bool.rec (fN (Nat.sub n (Nat.succ m)) λc=>K (.negSucc c)) (fN (Nat.sub m n) λc=>K (.ofNat c)) (Nat.ble n m)) (λn=>fN (Nat.succ (Nat.add m n)) λc=>K (.ofNat c)) b)
  (λm=>Int.rec (λn=>fN (Nat.add m n) λc=>K (.negSucc c)) (λn=>Bool.rec (fN (Nat.sub m (Nat.succ n)) λc=>K (.negSucc c)) (fN (Nat.sub n m) λc=>K (.ofNat c)) (Nat.ble m n)) b) a
def T8(a b:Int)(K:Int->RT):RT:=
 Int.rec (λm=>Int.rec (λn=>fN (Nat.mul m n) λc=>K (.ofNat c)) (λn=>Nat.rec (K (.ofNat 0)) (λd _=>fN (Nat.add (Nat.mul m n) d) λc=>K (.negSucc c)) m) b)
  (λm=>Int.rec (λn=>Nat.rec (K (.ofNat 0)) (λe _=>fN (Nat.add (Nat.mul m n) e) λc=>K (.negSucc c)) n) (λn=>fN (Nat.mul (Nat.succ m) (Nat.succ n)) λc=>K (.ofNat c)) b) a
def UR(a b:Int)(K:Int->RT):RT:=
 Int.rec (λm=>Int.rec (λn=>fN (Nat.div m n) λc=>K (.ofNat c)) (λ_=>fI (Int.tdiv a b) K) b) (λ_=>fI (Int.tdiv a b) K) a
def UU(a b:Int)(K:Int->RT):RT:=
 Int.rec (λm=>Int.rec (λn=>fN (Nat.mod m n) λc=>K (.ofNat c)) (λ_=>fI (Int.tmod a b) K) b) (λ_=>fI (Int.tmod a b) K) a
def ZN(b:Int):Bool:=Int.rec (λn=>Nat.beq n 0) (λ_=>false) b
def RX(d:BinOp)(k:TF)(a b:Int)(K:Int->RT):RT:=
 match d with
 | .add=>RQ a b λc=>C0 k c K
 | .sub=>U1 a b λc=>C0 k c K
 | .mul=>T8 a b λc=>C0 k c K
 | .quo=>Bool.rec (UR a b λc=>C0 k c K) none (ZN b)
 | .rem=>Bool.rec (UU a b K) none (ZN b)
 | .and=>match eqI b 1 with
  |true=>fI (Int.emod a 2) K
  |false=>match a,b with
   | .ofNat m,.ofNat n=>fI (.ofNat (Nat.land m n)) λc=>C0 k c K
   |_,_=>none
 | .xor=>match a,b with
  | .ofNat m,.ofNat n=>fI (.ofNat (Nat.xor m n)) λc=>C0 k c K
  |_,_=>none
 | .or=>match a,b with
  | .ofNat m,.ofNat n=>fI (.ofNat (Nat.lor m n)) λc=>C0 k c K
  |_,_=>none
 |_=>none
def JA(a b:Int):Bool:=Int.rec (λm=>Int.rec (λn=>Nat.beq m n) (λ_=>false) b) (λm=>Int.rec (λ_=>false) (λn=>Nat.beq m n) b) a
def KU(b:Bool):Bool:=Bool.rec true false b
def Sn(c:BinOp)(a b:Int)(K:Bool->RT):RT:=
 match c with
 | .eql=>K (JA a b)
 | .neq=>K (KU (JA a b))
 | .lss=>K (KU (OD b a))
 | .leq=>K (OD a b)
 | .gtr=>K (KU (OD a b))
 | .geq=>K (OD b a)
 |_=>none
def eqBK(a b:Bool):Bool:=Bool.rec (KU b) b a
def Es(x y:Lf):Bool:=Lf.rec (λa=>Lf.rec (λb=>JA a b) (λ_=>false) (λ_=>false) y) (λa=>Lf.rec (λ_=>false) (λb=>eqBK a b) (λ_=>false) y) (λ_=>false) x
def SF(l:List (Lf×Lf)):Bool:=List.rec true (λp _ a=>Bool.rec false a (Es p.1 p.2)) l
def Yd(l:List (Lf×Lf))(K:Bool->RT):RT:=K (SF l)
def Xy(k:TF)(a:Int)(K:Int->RT):RT:=C0 k a K
def selB(t:Bool)(a b:Int)(K:Int->RT):RT:=Bool.rec (K b) (K a) t
def optB{α:Type}(o:Option α)(K:α->RT):RT:=Option.rec none K o
def unIB(ls:TB)(K:Int->TB->RT):RT:=List.rec none (λx r _=>Lf.rec (λn=>K n r) (λ_=>none) (λ_=>none) x) ls
def unBB(ls:TB)(K:Bool->TB->RT):RT:=List.rec none (λx r _=>Lf.rec (λ_=>none) (λn=>K n r) (λ_=>none) x) ls
def unVB(ls:TB)(K:Value->TB->RT):RT:=List.rec none (λx r _=>Lf.rec (λ_=>none) (λ_=>none) (λn=>K n r) x) ls
def un0B(ls:TB)(K:RT):RT:=List.rec K (λ_ _ _=>none) ls
def ucIB(k:TF)(ls:Tk)(K:Int->Tk->RT):RT:=match ls with | .int k' n :: r=>(match dF k k' with|true=>K n r|false=>none)|_=>none
def ucBB(ls:Tk)(K:Bool->Tk->RT):RT:=match ls with | .bool n :: r=>K n r|_=>none
def ucVB(ls:Tk)(K:Value->Tk->RT):RT:=match ls with|n :: r=>K n r|_=>none
def uc0B(ls:Tk)(K:RT):RT:=match ls with | []=>K|_=>none
def L4(s:To):Bool:=match s with
 |none=>true
 |some k=>match k with
  |0=>false
  |_=>true
def DF(v:Value):Bool:=match v with
 | .pointer (some a)=>L4 a.spot
 | .slice (some a) _ _=>L4 a.spot
 |v=>aB v
def Se(v:Value)(K:RT):RT:=match DF v with|true=>K|false=>none
def OE{α:Type}(l:List α):Nat:=List.rec 0 (λ_ _ n=>Nat.succ n) l
def ldB(n:Nat)(p:Value)(h:HTr)(K:Tk->RT):RT:=match p with
 | .pointer (some a)=>match a.spot with
  |none=>match h.at a.block with
   |some (.t m _ _ c)=>match Nat.ble (Nat.add a.off n) m with
    |true=>K (zn c n a.off)
    |false=>none
   |_=>none
  |some _=>none
 |_=>none
def lgB(C:Cfg)(n:Nat)(p:Value)(h:HTr)(K:Tk->RT):RT:=match p with
 | .pointer (some a)=>match a.spot with
  |none=>match h.at a.block with
   |some (.t m _ _ c)=>match Nat.ble (Nat.add a.off n) m with
    |true=>K (zn c n a.off)
    |false=>none
   |_=>none
  |some k=>match Nat.beq k 1 with
   |true=>match C.G a.block with
    |some d=>match GZ d a.off n with
     |some b=>K b
     |none=>none
    |none=>none
   |false=>none
 |_=>none
def Lh(T:Tq)(f:Pk)(h:HTr)(K:Tk->RT):RT:=match f with
 | .ld n p=>ldB n p h K
 | .lg C n p=>lgB C n p h K
 | .fn f=>match f (C9 T h)with|some x=>K x|none=>none
def stB(p:Value)(new:Tk)(h:HTr)(K:Tk->HTr->RT):RT:=match p with
 | .pointer (some a)=>match a.spot with
  |none=>match h.at a.block with
   |some (.t m e true c)=>match Nat.ble (Nat.add a.off (OE new)) m with
    |true=>Ev new a.off c λc=>DU h a.block (.t m e true c) λh=>K [] h
    |false=>none
   |_=>none
  |some _=>none
 |_=>none
def Mp(s:To)(esz:Nat):Bool:=match s with
 |none=>false
 |some k=>Nat.beq k (Nat.add esz 10)
def slB(C:Cfg)(T:Tq)(esz:Nat)(x:Value)(h:HTr)(K:Tk->Nat->RT):RT:=match x with
 | .slice (some a) b _=>match Mp a.spot esz with
  |true=>match h.at a.block with
   |some (.t m e _ c)=>match Nat.beq e esz,Nat.ble (Nat.add a.off (Nat.mul b esz)) m with
    |true,true=>K (zn c (Nat.mul b esz) a.off) b
    |_,_=>none
   |_=>none
  |false=>match Iy C esz (C9 T h) x with
   |some p=>K p.1 p.2
   |none=>none
 |x=>match Iy C esz (C9 T h) x with
  |some p=>K p.1 p.2
  |none=>none
def Fs(c:Tr Value)(m off w esz:Nat)(new:Tk)(k:HOT->RT):RT:=match Nat.beq off 0,Nat.beq w m with
 |true,true=>Ev new m c λc=>fN (Nat.add m (OE new)) λm=>k (.t m esz true c)
 |_,_=>uf (.cells (zn c w off++new) esz true) k
def apB(T:Tq)(C:Cfg)(esz bytes:Nat)(s x:Value)(h:HTr)(K:Tk->HTr->RT):RT:=
 slB C T esz x h λd n=>match s with
  | .slice none 0 0=>match n with
   |0=>K [.slice none 0 0] h
   |n+1=>match bh (n+1) bytes with
    |true=>uf (.cells d esz true) λo=>mi h o λf=>fN (n+1) λn=>K [.slice (some ⟨h.n,0,pu esz⟩) n 0] f
    |false=>none
  | .slice (some a) b i=>match Mp a.spot esz with
   |false=>none
   |true=>match h.at a.block with
    |some (.t m e rw c)=>match Nat.beq e esz,Nat.ble (Nat.add a.off (Nat.mul b esz)) m with
     |true,true=>match i with
      |0=>match n with
       |0=>K [.slice (some a) b 0] h
       |n+1=>match rw,bh (b+(n+1)) bytes with
        |true,true=>Fs c m a.off (Nat.mul b esz) esz d λo=>DU h a.block (.o .dead) λf=>mi f o λg=>fN (b+(n+1)) λl=>K [.slice (some ⟨h.n,0,pu esz⟩) l 0] g
        |_,_=>none
      |cap+1=>match Nat.ble (b+n) cap with
       |true=>match rw,Nat.ble (Nat.add (Nat.add a.off (Nat.mul b esz)) (OE d)) m with
        |true,true=>Ev d (Nat.add a.off (Nat.mul b esz)) c λc=>DU h a.block (.t m e true c) λf=>fN (b+n) λl=>K [.slice (some a) l (cap+1)] f
        |_,_=>none
       |false=>match bh (b+n) bytes with
        |true=>Fs c m a.off (Nat.mul b esz) esz d λo=>mi h o λf=>fN (b+n) λl=>K [.slice (some ⟨h.n,0,pu esz⟩) l 0] f
        |false=>none
     |_,_=>none
    |_=>none
  |_=>none
def Fv(T:Tq)(f:Hp)(h:HTr)(K:Tk->HTr->RT):RT:=match f with
 | .st p b=>stB p b h K
 | .ap C a bytes s x=>apB T C a bytes s x h K
 | .fn f=>match f (C9 T h) h.n with|some p=>xO p.2 λc=>yv p.1 h λh=>K c h|none=>none
def Ue(o:HObj)(h:HTr)(K:Nat->HTr->RT):RT:=uf o λo=>mi h o λa=>K h.n a
def Ik(k:LK)(v:Value):Option SL:=
 match k with
 | .i k=>match v with
  | .int a n=>match dF a k with
   |true=>some (.i a n)
   |false=>none
  |_=>none
 | .b=>match v with
  | .bool t=>some (.b t)
  |_=>none
 | .v=>match aB v with
  |true=>some (.v v)
  |false=>none
def GE:TE->Tk->Option (List SL)
 | [],[]=>some []
 |k :: ks,v :: vs=>match Ik k v with
  |some x=>match GE ks vs with
   |some xs=>some (x :: xs)
   |none=>none
  |none=>none
 |_,_=>none
def U5(c:SK)(v:Value):Option S0:=
 match c with
 | .leaf k=>(Ik k v).map .leaf
 | .agg b=>match v with
  | .agg a=>(GE b a.toList).map .agg
  |_=>none
def GC:TH->Tk->Option (List S0)
 | [],[]=>some []
 |k :: ks,v :: vs=>match U5 k v with
  |some x=>match GC ks vs with
   |some xs=>some (x :: xs)
   |none=>none
  |none=>none
 |_,_=>none
def NS:LK->LK->Bool
 | .i a,.i b=>dF a b
 | .b,.b=>true
 | .v,.v=>true
 |_,_=>false
def Fe:TE->TE->Bool
 | [],[]=>true
 |a :: l,b :: m=>NS a b&&Fe l m
 |_,_=>false
def SB:SK->SK->Bool
 | .leaf a,.leaf b=>NS a b
 | .agg a,.agg b=>Fe a b
 |_,_=>false
def Ff:TH->TH->Bool
 | [],[]=>true
 |a :: l,b :: m=>SB a b&&Ff l m
 |_,_=>false
def jI(ls:TB):Bool:=List.rec true (λl _ a=>match l with
 | .v x=>(match DF x with
  |true=>a
  |false=>false)
 |_=>a) ls
section
variable (Sg:Tc) (T:Tq) (call:gJ)
def E3(g:TK)(ls:TB)(h:HTr)(K:TB->HTr->RT):RT:=match jI ls with|true=>call (.f g) ls h K|false=>none
def rf(g:TK)(b:Option (TH))(a:Tk)(h:HTr)(K:TB->HTr->RT):RT:=
 match Sg g with
 |none=>none
 |some c=>match (match b with|none=>true|some b=>Ff c.rs b)with
  |false=>none
  |true=>match GC c.ps a with
   |none=>none
   |some d=>E3 call g (cP d) h K
def Ee(v:Value)(args:Tk)(c:TH)(h:HTr)(K:TB->HTr->RT):RT:=
 match v with
 | .func b first a=>match b with
  | .func g=>rf Sg call g (some c) (first.toList++args++a.toList) h K
  |_=>none
 |_=>none
end
def ZT(F:(TB->HTr->RT)->TB->HTr->RT)(ls:TB)(h:HTr):RT:=
 Nat.rec (motive:=λ_=>TB->HTr->RT) (λ_ _=>none) (λ_ a ls h=>F a ls h) 1000000 ls h
def ZP(b:TB->HTr->RT)(m:(TB->HTr->RT)->RT):RT:=m b
def LS(c:BinOp)(k:TF)(a:Int)(_:TF)(b:Int)(K:Int->RT):RT:=match OD 0 b with
 |true=>match c with
  | .shl=>fI (k.wrap (a*2 ^ min b.toNat k.bits)) K
  | .shr=>fI (a.fdiv (2 ^ min b.toNat k.bits)) K
  |_=>none
 |false=>none
def BA(Sg:Tc)(T:Tq)(call:gJ):Alg RT HTr where
 fail:=none
 cond:=Xx
 ari:=RX
 shf:=LS
 cmp:=Sn
 eqs:=Yd
 conv:=Xy
 sel:=selB
 opt:=optB
 chk:=Se
 unI:=unIB
 unB:=unBB
 unV:=unVB
 un0:=un0B
 ucI:=ucIB
 ucB:=ucBB
 ucV:=ucVB
 uc0:=uc0B
 peek:=Lh T
 heap:=Fv T
 new:=Ue
 call:=E3 call
 callv:=Ee Sg call
 join:=ZP
 loop:=ZT
end
namespace Sx
section
variable [Val] [Kno]
def MT(pts:Tx)(tm:Tk)(o:Oper):Tx:=(MA pts o).flatMap λx=>adr (ke tm x)
def Vh(pts:Tx)(tm:Tk)(o:Oper):Tx:=(df pts o).1.flatMap λx=>adrK (df pts o).2 (ke tm x)
def DC(pts:Tx)(tm:Tk)(o:Oper):Prop:=∀d,o.dst=some d->Bl pts o=2->∃v,tm[d]?=some v
def EZ(pts:Tx)(ops:Tl)(tm:Tk)(c:List (Nat×Nat)):Prop:=
 ∀p∈c,∃a b,ops[p.1]?=some a/\ops[p.2]?=some b/\(∀x∈MT pts tm a,x∉Vh pts tm b)/\(∀x∈MT pts tm a,x∉MT pts tm b)/\(∀x∈MT pts tm b,x∉Vh pts tm a)/\DC pts tm a/\DC pts tm b
def SameAt(ops:Tl)(k:Nat)(σ σ':St):Prop:=∃o d x,ops[k]?=some o/\o.dst=some d/\σ.tmps[d]?=some x/\σ'.tmps[d]?=some x
def opsTr(C:Cfg)(B:Below)(pts:Tx)(ops:Tl):Tx->St->List (Tp)->St->Prop
 | [],σ,a,σ'=>a=[]/\σ'=σ
 |i :: l,σ,a,σ'=>∃σ₁ hs',aj C B pts ops i σ σ₁/\a=σ₁.heap :: hs'/\opsTr C B pts ops l σ₁ hs' σ'
def AgainAt(C:Cfg)(B:Below)(pts:Tx)(ops:Tl)(σ:St)(a:List (Tp))(σ':St)(l:List (Nat×Nat)):Prop:=
 ∀p∈l,∃σ₂,aj C B pts ops p.1 { σ' with heap:=atM σ.heap a p } σ₂/\SameAt ops p.1 σ' σ₂
def DrOk(C:Cfg)(c:Dr):Prop:=∀pts ops a,c pts ops=some a->match manyOf a with
 |some l=>∀(n:Nat) (σ σ':St) (b:List (Tp)),opsTr C (sm C n).toBelow pts ops (List.range ops.size) σ b σ'->AgainAt C (sm C n).toBelow pts ops σ b σ' l->ew C (sm C n).toBelow pts ops σ σ'
 |none=>match splOf a with
 |none=>∀(n:Nat) (σ σ':St),bK C (sm C n).toBelow pts ops (List.range ops.size) σ σ'->EZ pts ops σ'.tmps a->ew C (sm C n).toBelow pts ops σ σ'
 |some p=>∀(n:Nat) (σ σ₁ σ₂ σ':St),bK C (sm C n).toBelow pts ops (List.range' 0 (ops.toList.take (p.2+1)).length) σ σ₁->aj C (sm C n).toBelow pts ops p.1 σ₁ σ₂->SameAt ops p.1 σ₁ σ₂->
   bK C (sm C n).toBelow pts ops (List.range' (p.2+1) (ops.toList.drop (p.2+1)).length) σ₁ σ'->ew C (sm C n).toBelow pts ops σ σ'
def opsTr_at{C:Cfg}{pts:Tx}{ops:Tl}:∀ {l:Tx} {σ σ':St} {c:List (Tp)},opsTr C (uB C) pts ops l σ c σ'->∃n,∀m,n<=m->opsTr C (sm C m).toBelow pts ops l σ c σ'
 | [],_,_,_,h=>⟨0,λ_ _=>h⟩
 |_ :: _,_,_,_,⟨σ₁,b,h1,e,a⟩=>by
  obtain⟨n,h1⟩:=iR h1;obtain⟨m,a⟩:=opsTr_at a;exact⟨max n m,λk d=>⟨σ₁,b,cW (kr (by omega)).call (kr (by omega)).yield h1,e,a k (by omega)⟩⟩
def again_at{C:Cfg}{pts:Tx}{ops:Tl}{σ:St}{a:List (Tp)}{σ':St}:∀ {l:List (Nat×Nat)},AgainAt C (uB C) pts ops σ a σ' l->∃n,∀m,n<=m->AgainAt C (sm C m).toBelow pts ops σ a σ' l
 | [],_=>⟨0,λ_ _ p hp=>(by cases hp)⟩
 |q :: l,h=>by
  obtain⟨σ₂,h1,b⟩:=h q (by simp);obtain⟨n,h1⟩:=iR h1;obtain⟨m,c⟩:=again_at (l:=l) λp hp=>h p (Bo _ hp);refine⟨max n m,λk d p hp=>?_⟩;rcases qar.1 hp with rfl|hp
  ·exact⟨σ₂,cW (kr (by omega)).call (kr (by omega)).yield h1,b⟩
  ·exact c k (by omega) p hp
def Fg:∀ {x y:To},SC x y=true->x=y
 |none,none,_=>rfl
 |some a,some b,h=>by rw[AE h]
 |none,some _,h=>by cases h
 |some _,none,h=>by cases h
def Fa:∀ {x y:Option Addr},Er x y=true->x=y
 |none,none,_=>rfl
 |some a,some b,h=>by
  simp only[Er]at h;split at h
  next h1 c=>
   cases a;cases b;simp only at h1 c h;rw[AE h1,AE c,Fg h]
  ·cases h
 |none,some _,h=>by cases h
 |some _,none,h=>by cases h
def NV:∀ {x y:Int},eqNt x y=true->x=y
 | .ofNat a,.ofNat b,h=>by rw[AE h]
 | .negSucc a,.negSucc b,h=>by rw[AE h]
 | .ofNat _,.negSucc _,h=>by cases h
 | .negSucc _,.ofNat _,h=>by cases h
def NR{x y:Int}{u:Unit}(h:eqIn x y=some u):x=y:=by
 unfold eqIn at h;split at h
 next e=>exact NV e
 ·cases h
def NP{x y:Bool}{u:Unit}(h:Yc x y=some u):x=y:=by
 cases x<;>cases y<;>first|rfl|cases h
def xn{x:Nat}:∀ {l:Tx},memN x l=true↔x∈l
 | []=>by simp[memN]
 |y :: l=>by
  unfold memN;cases h:Nat.beq x y with
  |true=>simp[AE h]
  |false=>
   have:x≠y:=λe=>by subst e;rw[show Nat.beq x x=true from Ea x]at h;cases h
   simp only[qar,this,false_or];exact xn
def wG:∀ {l m:Tx},disjN l m=true->∀x∈l,x∉m
 | [],_,_,_,h=>by cases h
 |y :: l,m,h,x,b=>by
  unfold disjN at h;cases a:memN y m with
  |true=>rw[a]at h;cases h
  |false=>
   rw[a]at h;rcases qar.1 b with rfl|b
   ·intro e;rw[xn.2 e]at a;cases a
   ·exact wG h x b
def Gj:∀ {l:List (Value×Nat×Value)} {u:Unit},sepL l=some u->∀p∈l,∀r∈adr p.1,r∉adrK p.2.1 p.2.2
 | [],_,_,_,h=>by cases h
 |q :: l,u,h,p,hp=>by
  unfold sepL at h;split at h
  next a=>
   rcases qar.1 hp with rfl|hp
   ·exact wG a
   ·exact Gj h p hp
  ·cases h
def NN{a:Env}{σ:St}(f:Rp a σ){x:TG}{c:Tk}(h:Yb (sval a x)=some c)(k r:Nat)(b:r∈adrK k (ke σ.tmps x)):∃u∈c,r∈adrK k u:=by
 have d:sval a x≠.no:=λe=>by rw[e]at h;cases h
 have g:=(f.sval rfl d).1;rw[g]at b;generalize sval a x=s at *;have none:adrK k s.val=[]->∃u∈c,r∈adrK k u:=λe=>by rw[e]at b;cases b
 cases s with
 |st y=>
  cases y with
  |leaf l=>
   cases l with
   |v u=>
    cases h;exact⟨u,by simp,b⟩
   |_=>exact none (by cases k with|zero=>rfl|succ k=>cases k<;>rfl)
  |agg i=>exact none (by cases k with|zero=>rfl|succ k=>cases k<;>rfl)
 |no=>exact absurd rfl d
 |_=>exact none (by cases k with|zero=>rfl|succ k=>cases k<;>rfl)
def fX{e:Env}{σ:St}(f:Rp e σ):∀ {l:List Operand} {d:Tk},ru e l=some d->∀(k r:Nat),r∈l.flatMap (λx=>adrK k (ke σ.tmps x))->∃u∈d,r∈adrK k u
 | [],_,_,_,_,h=>by cases h
 |x :: l,d,h,k,r,hr=>by
  unfold ru at h;split at h
  next a b g i=>
   cases h;rw[C2,qas]at hr;rcases hr with hr|hr
   ·obtain⟨u,h1,c⟩:=NN f g k r hr;exact⟨u,DW _ h1,c⟩
   ·obtain⟨u,h1,c⟩:=fX f i k r hr;exact⟨u,Lz _ h1,c⟩
  ·cases h
def nK{c:Env}{σ:St}(g:Rp c σ){d:Nat}:∀ {l:List Operand} {j:Tk},ru c l=some j->Operand.tmp d∈l->∃v,σ.tmps[d]?=some v
 |x :: l,j,h,f=>by
  unfold ru at h;split at h
  next a b i k=>
   rcases qar.1 f with rfl|f
   ·have m:sval c (.tmp d)≠.no:=λe=>by rw[e]at i;cases i
    exact⟨_,(g.at (s:=c.tm.getD d .no) rfl m).1⟩
   ·exact nK g k f
  ·cases h
def sV{pts:Tx}{o:Oper}{d:Nat}(a:o.dst=some d)(h:Bl pts o=2):Operand.tmp d∈MA pts o:=by
 unfold MA;rw[h,a];simp
def ns{a vs:Tk}{k:Nat}{u v:Value}(b:u∈a)(c:v∈vs):(u,k,v)∈DB a k vs:=by
 unfold DB;exact qa1.2 ⟨u,b,qaz.2 ⟨v,c,rfl⟩⟩
def H8{pts:Tx}{t:Env}{σ:St}(c:Rp t σ){a b:Oper}{l:List (Value×Nat×Value)}(h:EO pts t a b=some l)(s:∀p∈l,∀r∈adr p.1,r∉adrK p.2.1 p.2.2) :
  (∀x∈MT pts σ.tmps a,x∉Vh pts σ.tmps b)/\(∀x∈MT pts σ.tmps a,x∉MT pts σ.tmps b)/\(∀x∈MT pts σ.tmps b,x∉Vh pts σ.tmps a)/\DC pts σ.tmps a/\DC pts σ.tmps b:=by
 unfold EO at h;split at h
 next B C z A m n w y=>
  cases h;refine⟨λx e f=>?_,λx e f=>?_,λx e f=>?_,λd q o=>nK c m (sV q o),λd q o=>nK c n (sV q o)⟩
  ·obtain⟨u,g,i⟩:=fX c m 0 x e;obtain⟨v,j,k⟩:=fX c y _ x f;exact s (u,_,v) (DW _ (DW _ (ns g j))) x i k
  ·obtain⟨u,g,i⟩:=fX c m 0 x e;obtain⟨v,j,k⟩:=fX c n 0 x f;exact s (u,0,v) (DW _ (Lz _ (ns g j))) x i k
  ·obtain⟨u,g,i⟩:=fX c n 0 x e;obtain⟨v,j,k⟩:=fX c w _ x f;exact s (u,_,v) (Lz _ (ns g j)) x i k
 ·cases h
def qE{pts:Tx}{ops:Tl}{d:Env}{σ:St}(e:Rp d σ):∀ {c:List (Nat×Nat)} {l:List (Value×Nat×Value)},sJ pts ops d c=some l->(∀p∈l,∀r∈adr p.1,r∉adrK p.2.1 p.2.2)->EZ pts ops σ.tmps c
 | [],_,_,_,_,h=>by cases h
 |q :: c,l,h,f,p,hp=>by
  unfold sJ at h;split at h
  next a b r g i j=>
   obtain⟨x,k,rfl⟩:=qag.1 h;rcases qar.1 hp with rfl|hp
   ·exact⟨a,b,g,i,H8 e k λp hp=>f p (DW _ hp)⟩
   ·exact qE e j (λp hp=>f p (Lz _ hp)) p hp
  ·cases h
def eqFn_ok{x y:Value}{u:Unit}(h:NQ x y=some u):x=y:=by
 unfold NQ at h;split at h
 ·split at h
  ·split at h
   next l a b _ m c d e g e3 i j=>
    have e:=AE e;have f:∀ {a:Tj},a.toList=[]->a = #[]:=λh=>qbk.1 h;rw[e,f g,f e3,f i,f j]
   ·cases h
  ·cases h
 ·cases h
def NX{x y:Value}{u:Unit}(h:eqVl x y=some u):x=y:=by
 unfold eqVl at h;split at h
 ·split at h
  ·split at h
   next e=>rw[Fa e]
   ·cases h
  ·cases h
 ·split at h
  ·split at h
   next a b e3=>rw[Fa a,AE b,AE e3]
   ·cases h
  ·cases h
 ·split at h
  ·split at h
   next e=>rw[Fg e]
   ·cases h
  ·cases h
 ·exact eqFn_ok h
section
variable {R HT:Type} {A:Alg R HT} {C:Cfg} {Sg:Tc} {T:Tq} {holds:R->Prop} {abs:HT->Tp}
def Gg(hA:AlgOk A C Sg T holds abs){x y:SL}{K:R}(h:holds (LO A x y K)):x.val=y.val/\holds K:=by
 unfold LO at h;split at h
 ·split at h
  ·split at h
   next e=>
    obtain⟨u,a,b⟩:=hA.opt _ _ h;rw[NR a,dE e];exact⟨rfl,b⟩
   ·exact absurd h hA.fail
  ·exact absurd h hA.fail
 ·split at h
  ·obtain⟨u,a,b⟩:=hA.opt _ _ h;rw[NP a];exact⟨rfl,b⟩
  ·exact absurd h hA.fail
 ·split at h
  ·obtain⟨u,a,b⟩:=hA.opt _ _ h;rw[NX a];exact⟨rfl,b⟩
  ·exact absurd h hA.fail
 ·exact absurd h hA.fail
def xZ(hA:AlgOk A C Sg T holds abs):∀ {x y:List SL} {K:R},holds (Gh A x y K)->x.map SL.val=y.map SL.val/\holds K
 | [],[],_,h=>⟨rfl,h⟩
 |a :: l,b :: m,K,h=>by
  obtain⟨h1,c⟩:=Gg hA (show holds (LO A a b (Gh A l m K))from h);obtain⟨d,e⟩:=xZ hA c;exact⟨by rw[AL,AL,h1,d],e⟩
 | [],_ :: _,_,h=>absurd h hA.fail
 |_ :: _,[],_,h=>absurd h hA.fail
def samS_ok(hA:AlgOk A C Sg T holds abs){i a:Env}{σ σ':St}(l:Rp i σ)(j:Rp a σ'){d:Nat}{K:R}(h:holds (samS A (i.tm.getD d .no) (a.tm.getD d .no) K)):(∃x,σ.tmps[d]?=some x/\σ'.tmps[d]?=some x)/\holds K:=by
 have k:∀ {x y:S0},i.tm.getD d .no = .st x->a.tm.getD d .no = .st y->x.val=y.val->∃z,σ.tmps[d]?=some z/\σ'.tmps[d]?=some z:=λb c e=>
  ⟨_,(l.at b (by simp)).1,(show σ'.tmps[d]?=_ from(j.at c (by simp)).1.trans (by show some _=some _;rw[show SV.val (.st _)=S0.val _ from rfl,←e];rfl))⟩
 unfold samS at h;split at h
 next f=>
  split at h
  next g=>
   obtain⟨b,c⟩:=Gg hA h;exact⟨k f g b,c⟩
  ·exact absurd h hA.fail
 next f=>
  split at h
  next g=>
   obtain⟨b,c⟩:=xZ hA h;exact⟨k f g (by simp only[S0.val,b]),c⟩
  ·exact absurd h hA.fail
 ·exact absurd h hA.fail
end
def entF_ok{a:Env}{σ:St}(b:Rp a σ){d:Nat}{x:Value}(h:NM (a.tm.getD d .no)=some x):σ.tmps[d]?=some x:=by
 unfold NM at h;split at h
 next y c=>
  cases h;exact(b.at c (by simp)).1
 ·cases h
def sepK_ok{R b:Type}{A:Alg R b}{C:Cfg}{Sg:Tc}{T:Tq}{holds:R->Prop}{abs:b->Tp}(hA:AlgOk A C Sg T holds abs){pts:Tx}{ops:Tl}{e:List (Nat×Nat)}{d:KN R b}{c:Env}{σ:St}(i:Rp c σ){h:b}(a:holds (sepK A pts ops e d c h)) :
  EZ pts ops σ.tmps e/\holds (d c h):=by
 unfold sepK at a;split at a
 ·exact⟨λp k=>(by cases k),a⟩
 ·simp only at a;split at a
  next l j=>
   obtain⟨u,f,g⟩:=hA.opt _ _ a;exact⟨qE i j (Gj f),g⟩
  ·exact absurd a hA.fail
end
end Sx
section
variable [Val] [Kno] {R HT:Type} {A:Alg R HT} {X:Ctxt} {Sg:Tc} {holds:R->Prop} {abs:HT->Tp}
variable {ev:Env} {σ:St} {h:HT} {o:Oper} {K:KN R HT}
def IG(C:Cfg)(pts:Tx)(o:Oper)(σ σ':St):Prop:=
 (∃e,ao C pts (ke σ.tmps) o=some e/\lL (uB C) e o.dst σ σ')∨(∃v,ku C σ.tmps o v/\σ'=σ.put o.dst v)
def ux(pts:Tx)(o:Oper):To:=
 match o.op,o.dst with
 | .box ..,some d=>if pts.getD d 0=d+2 then some d else none
 | .alloc _,some d=>if pts.getD d 0=d+2 then some d else none
 |_,_=>none
def Aq(X:Ctxt)(holds:R->Prop)(abs:HT->Tp)(o:Oper)(σ:St)(K:KN R HT):Prop:=
 ∃σ' ev' h',IG X.C X.pts o σ σ'/\Rp ev' σ'/\abs h'=σ'.heap/\Fr o.dst.toList (ux X.pts o).toList (jq X.pts o).toList σ σ'/\holds (K ev' h')
def wg(c:Rp ev σ){dst:Tn}{s:SV}(e:s.gd)(b:holds (oo dst s ev h K)):∃a,Rp a (σ.put dst s.val)/\holds (K a h):=by
 unfold oo at b;cases dst with
 |none=>exact⟨ev,c,b⟩
 |some d=>
  simp only[setK_eq]at b;exact⟨_,c.put d e,b⟩
def dz(e:Rp ev σ)(H':Tp)(f:abs h=H'){s:SV}(i:s.gd)
  (b:IG X.C X.pts o σ (({ σ with heap:=H' }:St).put o.dst s.val)) (g:holds (oo o.dst s ev h K)):Aq X holds abs o σ K:=by
 obtain⟨a,c,d⟩:=wg (e.heap H') i g;refine⟨_,a,h,b,c,?_,?_,d⟩
 ·rw[f];cases o.dst<;>rfl
 ·have:=Fr.put (σ:=({ σ with heap:=H' }:St)) o.dst s.val (ux X.pts o).toList (jq X.pts o).toList;exact⟨this.tlen,this.llen,this.tm,this.tp,this.row,this.rlen⟩
def aC(a:Rp ev σ)(b:abs h=σ.heap){s:SV}(e:s.gd)(c:ao X.C X.pts (ke σ.tmps) o=some (.val s.val))(d:holds (oo o.dst s ev h K)) :
  Aq X holds abs o σ K:=
 dz a σ.heap b e (.inl ⟨_,c,_,rfl,rfl⟩) d
def cz(a:Rp ev σ)(b:abs h=σ.heap){s:SV}(e:s.gd)(c:ku X.C σ.tmps o s.val)(d:holds (oo o.dst s ev h K)) :
  Aq X holds abs o σ K:=
 dz a σ.heap b e (.inr ⟨_,c,rfl⟩) d
def jB(a:Rp ev σ)(b:abs h=σ.heap){s:SV}(g:s.gd){f:Tp->Ti}(c:ao X.C X.pts (ke σ.tmps) o=some (.hget f))(d:f σ.heap=some s.val)
  (e:holds (oo o.dst s ev h K)):Aq X holds abs o σ K:=
 dz a σ.heap b g (.inl ⟨_,c,(σ,s.val),by simp[aX,d],rfl⟩) e
def di(a:Rp ev σ){H':Tp}(b:abs h=H'){s:SV}(g:s.gd){f:Tp->Option (List HObj×Value)}(c:ao X.C X.pts (ke σ.tmps) o=some (.hop f))
  (d:f σ.heap=some (H',s.val)) (e:holds (oo o.dst s ev h K)):Aq X holds abs o σ K:=
 dz a H' b g (.inl ⟨_,c,({ σ with heap:=H' },s.val),by simp[aX,d],rfl⟩) e
def FS(a:Rp ev σ)(d:abs h=σ.heap){x:TG}(ho:o.op = .move x∨o.op = .assign x){y:SV}(g:sval ev x=y)(f:y≠.no)(e:holds (oo o.dst y ev h K)):Aq X holds abs o σ K:=by
 obtain⟨b,c⟩:=a.sval g f;refine aC a d c ?_ e;rcases ho with ho|ho<;>simp only[ao,ho,b]
def Pm(hA:AlgOk A X.C Sg X.T holds abs)(d:Rp ev σ)(m:abs h=σ.heap){c a b:TG}(n:o.op = .pick c a b)
  (e:holds (match sval ev c,sval ev a,sval ev b with
  | .st (.leaf (.l true)),.st y,_=>oo o.dst (.st y) ev h K
  | .st (.leaf (.l false)),_,.st y=>oo o.dst (.st y) ev h K
  | .st (.leaf (.b t)),.st y,.st z=>A.cond t (oo o.dst (.st y) ev h K) (oo o.dst (.st z) ev h K)
  |_,_,_=>A.fail)):Aq X holds abs o σ K:=by
 split at e
 next y g i=>
  obtain⟨f,_⟩:=d.sval g (by simp);obtain⟨k,j⟩:=d.sval i (by simp);refine aC d m j ?_ e;simp only[ao,n,f,SV.val,S0.val,SL.val,if_true,k]
 next y g i=>
  obtain⟨f,_⟩:=d.sval g (by simp);obtain⟨k,j⟩:=d.sval i (by simp);refine aC d m j ?_ e;simp only[ao,n,f,SV.val,S0.val,SL.val,k,Bf,if_false]
 next t y z g i e3=>
  obtain⟨f,_⟩:=d.sval g (by simp);obtain⟨k,j⟩:=d.sval i (by simp);obtain⟨r,q⟩:=d.sval e3 (by simp);rcases hA.cond _ _ _ e with⟨p,e⟩|⟨p,e⟩
  ·refine aC d m j ?_ e;simp only[ao,n,f,SV.val,S0.val,SL.val,p,if_true,k]
  ·refine aC d m q ?_ e;simp only[ao,n,f,SV.val,S0.val,SL.val,p,r,Bf,if_false]
 ·exact absurd e hA.fail
def FU(hA:AlgOk A X.C Sg X.T holds abs)(j:Rp ev σ)(O:abs h=σ.heap){t:TJ}{x:S0}(D:x.good)(p:ao X.C X.pts (ke σ.tmps) o=cG X.C X.pts o.dst t x.val)
  (g:(∃y,o.op = .box t y)∨o.op = .alloc t) (c:holds (O1 A X o.dst t x ev h K)):Aq X holds abs o σ K:=by
 unfold O1 at c;split at c
 ·exact absurd c hA.fail
 next d m=>
  have ff:=S0.cells_val D;have L:=S0.cells_ok D;have z:=S0.not_tuple D;split at c
  next b=>
   have b:X.pts.getD d 0=d+2:=by simpa using b
   split at c
   next f=>
    rw[setK_eq,setK_eq]at c;have B:ev.lc[d]?=some .nil:=by
     rw[List.getD_eq_getElem?_getD]at f;cases p:ev.lc[d]? with
     |none=>rw[p]at f;cases f
     |some r=>rw[p]at f;simp at f;rw[f]
    have u:σ.loc[d]?=some none:=j.row d _ B;have a:ao X.C X.pts (ke σ.tmps) o=some (.lnew d (x.cells.map SL.val)):=by
     rw[p,m];unfold cG;simp only[z,Bf,if_false,ff,GQ D,Bs,b,if_true]
    let σ₁:St:={ σ with loc:=σ.loc.set d (some (x.cells.map SL.val)) }
    have F:Rp ⟨ev.tm,ev.lc.set d (.row x.cells)⟩ σ₁:=by
     refine⟨j.len,j.val,by simp[σ₁,j.llen],λi r n=>?_⟩;simp only[DX]at n;split at n
     next G=>
      subst G;split at n
      next I=>
       cases n;exact⟨by simp only[σ₁];rw[CQ (by rw[←j.llen];exact I)],D⟩
      ·cases n
     next G=>
      have:=j.row i r n;have J:σ₁.loc[i]?=σ.loc[i]?:=by simp only[σ₁];rw[BL G]
      cases r<;>first|trivial|(simp only[LR.ok]at this ⊢;rw[J];exact this)
    have q:ux X.pts o=some d:=by
     rcases g with⟨y,g⟩|g<;>(simp only[ux,g,m];rw[mc b])
    have k:jq X.pts o=some d:=by
     rcases g with⟨y,g⟩|g<;>(simp only[jq,g,m];rw[mc b])
    refine⟨σ₁.put o.dst (.pointer (some ⟨d,0,some 0⟩)),_,h,.inl ⟨_,a,(σ₁,.pointer (some ⟨d,0,some 0⟩)),by simp[aX,u,σ₁],rfl⟩,?_,?_,?_,c⟩
    ·rw[m];exact F.put d (s:=.lad d 0) trivial
    ·rw[O];cases o.dst<;>rfl
    ·have S:=Fr.put (σ:=σ₁) o.dst (.pointer (some ⟨d,0,some 0⟩)) [d] [d];have Q:Fr o.dst.toList [d] [d] σ σ₁:=by
      refine⟨rfl,by simp[σ₁],λ_ _ h _ _=>h,λ_ _ _ h _ _=>h,λs y M w=>?_,λs U M w=>?_⟩
      ·simp only[qav]at w;simp only[σ₁];rw[BL (λe=>w e.symm)];exact M
      ·simp only[qav]at w;refine⟨U,?_,rfl⟩;simp only[σ₁];rw[BL (λe=>w e.symm)];exact M
     rw[q,k];exact Q.trans S
   ·exact absurd c hA.fail
  next b=>
   have b:¬X.pts.getD d 0=d+2:=λe=>by rw[e]at b;simp at b
   obtain⟨V,N,E⟩:=hA.new _ _ _ c;rw[O]at N E;have a:ao X.C X.pts (ke σ.tmps) o=some (.hop λH=>some (H++[.cells x.val.cells.toList (lu X.C.P t) true],.pointer (some ⟨H.length,0,none⟩))):=by
    rw[p,m];unfold cG;simp only[z,Bf,if_false,L,Bs,b]
   rw[←m]at E;refine di (s:=.st (.leaf (.v (.pointer (some ⟨σ.heap.length,0,none⟩))))) j N (λl f=>?_) a ?_ E
   ·simp only[S0.cells,qav]at f;subst f;rfl
   ·simp only[ff];rfl
def wx(new:Tk):∀(off k:Nat) (cs:Tk),off+k+new.length<=cs.length->
  ((new.zipIdx k).foldl (λ(c:Tj) (p:Value×Nat)=>c.setIfInBounds (off+p.2) p.1) cs.toArray).toList=cs.take (off+k)++new++cs.drop (off+k+new.length):=by
 induction new with
 |nil=>intro off k cs h;simp
 |cons a l e=>
  intro off k cs h;simp only[CT]at h;simp only[List.zipIdx_cons,Is];have b:(cs.toArray.setIfInBounds (off+k) a)=(cs.set (off+k) a).toArray:=by simp
  rw[b,e off (k+1) (cs.set (off+k) a) (by simp;omega)];rw[List.take_set,List.drop_set];have d:(cs.take (off+(k+1))).set (off+k) a=cs.take (off+k)++[a]:=by
   rw[show off+(k+1)=(off+k)+1 from by omega];rw[List.take_succ_eq_append_getElem (by omega),qdZ];simp[C1 (show off+k<=cs.length by omega)]
  rw[d];rw[mc (show off+k<off+(k+1)+l.length by omega),show off+(k+1)+l.length=off+k+(l.length+1)by omega];simp only[AN,Aw,Ap,CT]
def rD(pl:Nat->Option (Nat×Nat)):∀(c:List (Nat×S0)) (cs r:List SL),(∀p∈c,p.2.good)->rC pl cs c=some r->
  Instr.fill pl ⟨cs.map SL.val⟩ (c.map λp=>(p.1,p.2.val))=some ⟨r.map SL.val⟩
 | [],cs,r,_,a=>by cases a;rfl
 |(i,x) :: c,cs,r,hg,a=>by
  simp only[rC]at a;split at a
  next off n f=>
   split at a
   next e=>
    split at a
    next j d=>
     have e:x.cells.length=n:=by simpa using e
     have s:x.good:=hg (i,x) (by simp);have l:=S0.cells_val s;unfold iD at d;split at d
     next m=>
      cases d;have t:=rD pl c _ r (λp q=>hg p (by simp[q])) a;simp only[AL,Instr.fill,f,l];have g:(⟨x.cells.map SL.val⟩ : Array Value).size=n:=by simp[e]
      rw[po (by
       have k:(⟨cs.map SL.val⟩ : Array Value).size=cs.length:=by simp
       rw[g,k];simp;omega)]
      rw[←t]
      congr 1
      have b:=wx (x.cells.map SL.val) off 0 (cs.map SL.val) (by simp;omega);apply qbk.1;rw[←qcZ,qdq];refine Eq.trans b ?_;simp[Rx,UL]
     ·cases d
    ·cases a
   ·cases a
  ·cases a
def pU(pl:Nat->Option (Nat×Nat)):∀(f:List (Nat×S0)) (cs r:List SL),(∀c∈cs,c.good)->(∀p∈f,p.2.good)->rC pl cs f=some r->∀c∈r,c.good
 | [],cs,r,d,_,a=>by cases a;exact d
 |(i,x) :: f,cs,r,d,hg,a=>by
  simp only[rC]at a;split at a
  ·split at a
   ·split at a
    next g e=>
     refine pU pl f g r (λc b=>?_) (λp j=>hg p (by simp[j])) a;unfold iD at e;split at e
     ·cases e;simp only[qas]at b;rcases b with(b|b)|b
      ·exact d c (Iv b)
      ·exact hg (i,x) (by simp) c b
      ·exact d c (LA b)
     ·cases e
    ·cases a
   ·cases a
  ·cases a
def qN{a:List (Nat×Operand)}{xs:List S0}(b:(a.map (·.2)).map (ke σ.tmps)=au xs) :
  a.map (λp=>(p.1,ke σ.tmps p.2))=((a.map (·.1)).zip xs).map λp=>(p.1,p.2.val):=by
 induction a generalizing xs with
 |nil=>simp
 |cons p a c=>
  cases xs with
  |nil=>simp[au]at b
  |cons x xs=>
   simp only[AL,au,Df]at b;simp only[AL,List.zip_cons_cons,b.1];rw[c (xs:=xs) b.2]
def sX{is:Tx}{xs:List S0}(hg:∀x∈xs,x.good):∀p∈is.zip xs,p.2.good:=λ_ a=>hg _ (List.of_mem_zip a).2
def yr{P:TD}{t:TJ}{x:S0}(a:ww P t=some x):∃z,ey P t=some z/\x.val=z/\x.good:=by
 unfold ww at a;obtain⟨z,b,c⟩:=qay.1 a;obtain⟨d,e,_⟩:=sI c;exact⟨z,b,d,e⟩
def I5(hA:AlgOk A X.C Sg X.T holds abs)(q:Rp ev σ)(y:abs h=σ.heap){t:TJ}{d:Array (Nat×Operand)}(D:o.op = .build t d)
  (g:holds (match ww X.C.P t,mV X.C.P t,svals ev (d.toList.map (·.2))with
  |some z,some pl,some xs=>match rC pl z.cells ((d.toList.map (·.1)).zip xs)with
   |some cs=>oo o.dst (.st (.agg cs)) ev h K
   |none=>A.fail
  |_,_,_=>A.fail)):Aq X holds abs o σ K:=by
 split at g
 next z pl xs v w e3=>
  split at g
  next cs n=>
   obtain⟨G,k,l,i⟩:=yr v;obtain⟨u,j⟩:=q.svals e3;have m:=S0.cells_val i;have a:=rD pl _ _ _ (sX (is:=d.toList.map (·.1)) j) n;have b:=pU pl _ _ _ (λc B=>i c B) (sX (is:=d.toList.map (·.1)) j) n;refine aC q y (s:=.st (.agg cs)) b ?_ g;have f:(d.toList.all λp=>!aw (ke σ.tmps p.2))=true:=by
    simp only[qab,Ry];intro p E;have r:ke σ.tmps p.2∈au xs:=by
     rw[←u];exact qaz.2 ⟨p.2,qaz.2 ⟨p,E,rfl⟩,rfl⟩
    simp only[au,qaz]at r;obtain⟨x,F,e⟩:=r;rw[←e];exact S0.not_tuple (j x F)
   simp only[ao,D,f,if_true,tq,k,w];rw[qN u,←l,m,a];rfl
  ·exact absurd g hA.fail
 ·exact absurd g hA.fail
end
end Go.Am
end

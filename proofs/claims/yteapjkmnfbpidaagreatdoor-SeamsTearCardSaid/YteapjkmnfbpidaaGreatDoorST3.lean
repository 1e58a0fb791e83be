/-
  PART 3 OF THE PROOF (no conditions).
-/
import Derived.Test.YteapjkmnfbpidaaGreatDoorST2
import Derived.IntWalk
set_option linter.unusedSectionVars false
set_option linter.unusedSimpArgs false
set_option linter.unusedVariables false
set_option linter.constructorNameAsVariable false
set_option linter.defProp false
noncomputable section
set_option maxRecDepth 100000
namespace Go.Am
section
variable {R HT:Type} (A:Alg R HT)
def Alg.k0(l:TB)(k:Value->R):R:=A.unV l λa0 l=>A.un0 l (k a0)
def Alg.k1(l:TB)(k:Bool->R):R:=A.unB l λa0 l=>A.un0 l (k a0)
def Alg.k2(l:TB)(k:Int->Int->Value->Int->Int->Int->Value->R):R:=A.unI l λa0 l=>A.unI l λa1 l=>A.unV l λa2 l=>A.unI l λa3 l=>A.unI l λa4 l=>A.unI l λa5 l=>A.unV l λa6 l=>A.un0 l (k a0 a1 a2 a3 a4 a5 a6)
def Alg.k3(l:Tl)(k:Int->R):R:=A.ucI .u8 l λa0 l=>A.uc0 l (k a0)
def Alg.k4(l:TB)(k:Int->R):R:=A.unI l λa0 l=>A.un0 l (k a0)
def Alg.k5(l:Tl)(k:Int->R):R:=A.ucI .i64 l λa0 l=>A.uc0 l (k a0)
def Alg.k6(l:TB)(k:Value->Int->R):R:=A.unV l λa0 l=>A.unI l λa1 l=>A.un0 l (k a0 a1)
def Alg.k7(l:Tl)(k:Int->Int->R):R:=A.ucI .i64 l λa0 l=>A.ucI .i64 l λa1 l=>A.uc0 l (k a0 a1)
def Alg.k8(l:Tl)(k:Int->Int->Int->R):R:=A.ucI .u8 l λa0 l=>A.ucI .i64 l λa1 l=>A.ucI .i64 l λa2 l=>A.uc0 l (k a0 a1 a2)
def Alg.k9(l:TB)(k:Int->Int->R):R:=A.unI l λa0 l=>A.unI l λa1 l=>A.un0 l (k a0 a1)
def Alg.k10(l:TB)(k:Int->Int->Int->R):R:=A.unI l λa0 l=>A.unI l λa1 l=>A.unI l λa2 l=>A.un0 l (k a0 a1 a2)
def Alg.k11(l:TB)(k:Int->Int->Int->Int->R):R:=A.unI l λa0 l=>A.unI l λa1 l=>A.unI l λa2 l=>A.unI l λa3 l=>A.un0 l (k a0 a1 a2 a3)
def Alg.k12(l:Tl)(k:Int->Int->Int->R):R:=A.ucI .i64 l λa0 l=>A.ucI .u8 l λa1 l=>A.ucI .u8 l λa2 l=>A.uc0 l (k a0 a1 a2)
def Alg.k13(l:Tl)(k:Int->Int->Int->R):R:=A.ucI .i64 l λa0 l=>A.ucI .i64 l λa1 l=>A.ucI .u8 l λa2 l=>A.uc0 l (k a0 a1 a2)
def Alg.k14(l:TB)(k:Int->Int->Int->Int->Int->Int->R):R:=A.unI l λa0 l=>A.unI l λa1 l=>A.unI l λa2 l=>A.unI l λa3 l=>A.unI l λa4 l=>A.unI l λa5 l=>A.un0 l (k a0 a1 a2 a3 a4 a5)
def Alg.k15(l:TB)(k:Int->Bool->R):R:=A.unI l λa0 l=>A.unB l λa1 l=>A.un0 l (k a0 a1)
def Alg.k16(l:Tl)(k:Int->Int->Int->Int->Int->Int->R):R:=A.ucI .i64 l λa0 l=>A.ucI .i64 l λa1 l=>A.ucI .u8 l λa2 l=>A.ucI .i64 l λa3 l=>A.ucI .i64 l λa4 l=>A.ucI .u8 l λa5 l=>A.uc0 l (k a0 a1 a2 a3 a4 a5)
def Alg.k17(l:TB)(k:Value->Int->Int->Int->Value->R):R:=A.unV l λa0 l=>A.unI l λa1 l=>A.unI l λa2 l=>A.unI l λa3 l=>A.unV l λa4 l=>A.un0 l (k a0 a1 a2 a3 a4)
def Alg.k18(l:TB)(k:Bool->Int->Int->R):R:=A.unB l λa0 l=>A.unI l λa1 l=>A.unI l λa2 l=>A.un0 l (k a0 a1 a2)
def Alg.k19(l:TB)(k:Value->Int->Int->Value->R):R:=A.unV l λa0 l=>A.unI l λa1 l=>A.unI l λa2 l=>A.unV l λa3 l=>A.un0 l (k a0 a1 a2 a3)
def Alg.cd(o:BinOp)(x y:Int)(p q:R):R:=A.cmp o x y λt=>A.cond t p q
def Alg.ix(e:Nat)(x:Value)(n:Int)(w:Nat)(h:HT)(k:Tl->R):R:=A.opt (idS e x n) λp=>A.peek (.lg cc w p) h k
def Alg.fx(e:Nat)(x:Value)(n:Int)(o w:Nat)(h:HT)(k:Tl->R):R:=A.opt (idS e x n) λp=>A.opt (fdP o p) λq=>A.chk q (A.peek (.lg cc w q) h k)
def Alg.c0(f:TJ)(ls:TB)(h:HT)(k:HT->Value->R):R:=A.call f ls h λl h=>A.k0 l (k h)
def Alg.c1(f:TJ)(ls:TB)(h:HT)(k:HT->Bool->R):R:=A.call f ls h λl h=>A.k1 l (k h)
def Alg.c4(f:TJ)(ls:TB)(h:HT)(k:HT->Int->R):R:=A.call f ls h λl h=>A.k4 l (k h)
def Alg.c9(f:TJ)(ls:TB)(h:HT)(k:HT->Int->Int->R):R:=A.call f ls h λl h=>A.k9 l (k h)
def Alg.c10(f:TJ)(ls:TB)(h:HT)(k:HT->Int->Int->Int->R):R:=A.call f ls h λl h=>A.k10 l (k h)
def Alg.c11(f:TJ)(ls:TB)(h:HT)(k:HT->Int->Int->Int->Int->R):R:=A.call f ls h λl h=>A.k11 l (k h)
def Alg.c15(f:TJ)(ls:TB)(h:HT)(k:HT->Int->Bool->R):R:=A.call f ls h λl h=>A.k15 l (k h)
def Alg.ln(x:Value)(k:Int->R):R:=A.opt (lenS x) k
def Alg.pa(a b:Int)(k:Int->R):R:=A.ari .add .i64 a b k
def Alg.ps(a b:Int)(k:Int->R):R:=A.ari .sub .i64 a b k
def Alg.pm(a b:Int)(k:Int->R):R:=A.ari .mul .i64 a b k
def Alg.pq(a b:Int)(k:Int->R):R:=A.ari .quo .i64 a b k
def Alg.ci(a:Int)(k:Int->R):R:=A.conv .i64 a k
def qeq:(∀l k,A.k0 l k=A.unV l λa0 l=>A.un0 l (k a0))/\(∀l k,A.k1 l k=A.unB l λa0 l=>A.un0 l (k a0))/\(∀l k,A.k2 l k=A.unI l λa0 l=>A.unI l λa1 l=>A.unV l λa2 l=>A.unI l λa3 l=>A.unI l λa4 l=>A.unI l λa5 l=>A.unV l λa6 l=>A.un0 l (k a0 a1 a2 a3 a4 a5 a6))/\(∀l k,A.k3 l k=A.ucI .u8 l λa0 l=>A.uc0 l (k a0))/\(∀l k,A.k4 l k=A.unI l λa0 l=>A.un0 l (k a0))/\(∀l k,A.k5 l k=A.ucI .i64 l λa0 l=>A.uc0 l (k a0))/\(∀l k,A.k6 l k=A.unV l λa0 l=>A.unI l λa1 l=>A.un0 l (k a0 a1))/\(∀l k,A.k7 l k=A.ucI .i64 l λa0 l=>A.ucI .i64 l λa1 l=>A.uc0 l (k a0 a1))/\(∀l k,A.k8 l k=A.ucI .u8 l λa0 l=>A.ucI .i64 l λa1 l=>A.ucI .i64 l λa2 l=>A.uc0 l (k a0 a1 a2))/\(∀l k,A.k9 l k=A.unI l λa0 l=>A.unI l λa1 l=>A.un0 l (k a0 a1))/\(∀l k,A.k10 l k=A.unI l λa0 l=>A.unI l λa1 l=>A.unI l λa2 l=>A.un0 l (k a0 a1 a2))/\(∀l k,A.k11 l k=A.unI l λa0 l=>A.unI l λa1 l=>A.unI l λa2 l=>A.unI l λa3 l=>A.un0 l (k a0 a1 a2 a3))/\(∀l k,A.k12 l k=A.ucI .i64 l λa0 l=>A.ucI .u8 l λa1 l=>A.ucI .u8 l λa2 l=>A.uc0 l (k a0 a1 a2))/\(∀l k,A.k13 l k=A.ucI .i64 l λa0 l=>A.ucI .i64 l λa1 l=>A.ucI .u8 l λa2 l=>A.uc0 l (k a0 a1 a2))/\(∀l k,A.k14 l k=A.unI l λa0 l=>A.unI l λa1 l=>A.unI l λa2 l=>A.unI l λa3 l=>A.unI l λa4 l=>A.unI l λa5 l=>A.un0 l (k a0 a1 a2 a3 a4 a5))/\(∀l k,A.k15 l k=A.unI l λa0 l=>A.unB l λa1 l=>A.un0 l (k a0 a1))/\(∀l k,A.k16 l k=A.ucI .i64 l λa0 l=>A.ucI .i64 l λa1 l=>A.ucI .u8 l λa2 l=>A.ucI .i64 l λa3 l=>A.ucI .i64 l λa4 l=>A.ucI .u8 l λa5 l=>A.uc0 l (k a0 a1 a2 a3 a4 a5))/\(∀l k,A.k17 l k=A.unV l λa0 l=>A.unI l λa1 l=>A.unI l λa2 l=>A.unI l λa3 l=>A.unV l λa4 l=>A.un0 l (k a0 a1 a2 a3 a4))/\(∀l k,A.k18 l k=A.unB l λa0 l=>A.unI l λa1 l=>A.unI l λa2 l=>A.un0 l (k a0 a1 a2))/\(∀l k,A.k19 l k=A.unV l λa0 l=>A.unI l λa1 l=>A.unI l λa2 l=>A.unV l λa3 l=>A.un0 l (k a0 a1 a2 a3))/\(∀o x y p q,A.cd o x y p q=A.cmp o x y λt=>A.cond t p q)/\(∀e x n w h k,A.ix e x n w h k=A.opt (idS e x n) λp=>A.peek (.lg cc w p) h k)/\(∀e x n o w h k,A.fx e x n o w h k=A.opt (idS e x n) λp=>A.opt (fdP o p) λq=>A.chk q (A.peek (.lg cc w q) h k))/\(∀f ls h k,A.c0 f ls h k=A.call f ls h λl h=>A.k0 l (k h))/\(∀f ls h k,A.c1 f ls h k=A.call f ls h λl h=>A.k1 l (k h))/\(∀f ls h k,A.c4 f ls h k=A.call f ls h λl h=>A.k4 l (k h))/\(∀f ls h k,A.c9 f ls h k=A.call f ls h λl h=>A.k9 l (k h))/\(∀f ls h k,A.c10 f ls h k=A.call f ls h λl h=>A.k10 l (k h))/\(∀f ls h k,A.c11 f ls h k=A.call f ls h λl h=>A.k11 l (k h))/\(∀f ls h k,A.c15 f ls h k=A.call f ls h λl h=>A.k15 l (k h))/\(∀x k,A.ln x k=A.opt (lenS x) k)/\(∀a b k,A.pa a b k=A.ari .add .i64 a b k)/\(∀a b k,A.ps a b k=A.ari .sub .i64 a b k)/\(∀a b k,A.pm a b k=A.ari .mul .i64 a b k)/\(∀a b k,A.pq a b k=A.ari .quo .i64 a b k)/\(∀a k,A.ci a k=A.conv .i64 a k):=by
 refine⟨?_,?_,?_,?_,?_,?_,?_,?_,?_,?_,?_,?_,?_,?_,?_,?_,?_,?_,?_,?_,?_,?_,?_,?_,?_,?_,?_,?_,?_,?_,?_,?_,?_,?_,?_,?_⟩<;>intros<;>rfl
variable(ls:TB)(h:HT)(K:TB->HT->R)
def f3:R:=A.unI ls λt O=>A.unI O λu P=>A.k0 P λg=>A.ln g λQ=>A.cd .gtr Q 12 (A.c1 4 [] h λS T=>K [.b T] S) (A.ari .rem .u8 t 3 λU=>A.ci U λV=>A.pa 1 V λW=>A.ari .rem .u8 u 3 λX=>A.ci X λY=>A.pa 1 Y λZ=>A.call 5 [.i W,.i Z] h λa0 a1=>A.k2 a0 λi3 i4 i5 m n o w=>A.ari .rem .u8 t 3 λa2=>A.ci a2 λa3=>A.pa 1 a3 λx=>A.ari .rem .u8 u 3 λa4=>A.ci a4 λa5=>A.pa 1 a5 λy=>A.pm 4 x λa6=>A.pm a6 y λa7=>A.loop (λa8 a9 k=>A.unI a9 λj b0=>A.unI b0 λd b1=>A.unI b1 λe b2=>A.k0 b2 λp=>A.ln g λb3=>A.cd .lss j b3 (A.opt (idS 3 g j) λb4=>A.opt (idP 3 1 b4 0) λz=>A.chk z (A.peek (.lg cc 1 z) k λb5=>A.k3 b5 λb6=>A.ci b6 λb7=>A.ari .rem .i64 b7 a7 λl=>A.opt (idS 3 g j) λb8=>A.opt (idP 3 1 b8 1) λB=>A.chk B (A.peek (.lg cc 1 B) k λb9=>A.k3 b9 λc2=>A.ari .rem .u8 c2 3 λc3=>A.ci c3 λc5=>A.c4 6 [.i d,.i e,.i l,.i c5] k λC D=>A.cmp .gtr D l λc6=>A.join (λc7 c8=>A.unI c7 λc9 d0=>A.unI d0 λd1 d2=>A.k0 d2 λd3=>A.pa j 1 λd4=>a8 [.i d4,.i c9,.i d1,.v d3] c8) λE=>A.cond c6 (A.c4 7 [.i d,.i e,.i l,.i D] C λF d5=>A.opt (idS 3 g j) λd6=>A.opt (idP 3 1 d6 2) λG=>A.chk G (A.peek (.lg cc 1 G) F λd7=>A.k3 d7 λd8=>A.ari .rem .u8 d8 3 λd9=>A.ari .add .u8 1 d9 λe0=>A.new (.cells [.int .i64 l,.int .u8 d5,.int .u8 e0] 3 true) F λe1 e2=>A.heap (.ap cc 3 16 p (.slice (some ⟨e1,0,some 13⟩) 1 2)) e2 λe3 e4=>A.ucV e3 λH e5=>A.chk H (A.uc0 e5 (E [.i d,.i e,.v H] e4)))) (E [.i d,.i e,.v p] C)))) (A.c0 8 [.v p] k λe6 a=>A.loop (λI e7 c=>A.k4 e7 λf=>A.ln a λe8=>A.cd .lss f e8 (A.fx 3 a f 0 1 c λe9=>A.k5 e9 λf0=>A.ps f 1 λf1=>A.fx 3 a f1 0 1 c λf2=>A.k5 f2 λf3=>A.cd .eql f0 f3 (A.fx 3 a f 1 1 c λf4=>A.k3 f4 λf5=>A.ps f 1 λf6=>A.fx 3 a f6 1 1 c λf7=>A.k3 f7 λf8=>A.cmp .eql f5 f8 λf9=>A.join (λg0 g1=>A.un0 g0 (A.pa f 1 λg2=>I [.i g2] g1)) λg3=>A.cond f9 (A.c1 4 [] c λg4 g5=>K [.b g5] g4) (g3 [] c)) (A.pa f 1 λg6=>I [.i g6] c)) (A.call 9 [.i d,.i e,.v a,.i m,.i n,.i o] c λg7 J=>A.k6 g7 λi6 g8=>A.cmp .eql g8 1 λg9=>A.join (λh0 h1=>A.k4 h0 λh2=>A.join (λh3 h4=>A.k1 h3 λh5=>K [.b h5] h4) λL=>A.c4 11 [.i d,.i e,.v a,.i m,.i n,.i o,.v w] h1 λM h6=>A.cd .eql h6 h2 (A.c1 4 [] M λh7 h8=>L [.b h8] h7) (L [.b false] M)) λq=>A.cond g9 (A.c4 10 [.i d,.i e,.v a,.i m,.i n,.i o,.v w] J λr s=>A.cd .eql s 12 (q [.i 0] r) (A.cmp .eql s 13 λh9=>A.join (λi0 i1=>A.k4 i0 λi2=>q [.i i2] i1) λN=>A.cond h9 (N [.i 0] r) (N [.i s] r))) (q [.i 11] J))) [.i 1] e6)) [.i 0,.i x,.i y,.v (.slice none 0 0)] a1)
def f4:R:=A.un0 ls (A.call 5 [.i 1,.i 1] h λy z=>A.k2 y λe f g j k l m=>A.call 12 [.i e,.i f,.v g,.i j,.i k,.i l,.v m,.i 0,.i 0,.i 0,.i 0,.i 0,.i 1] z λB C=>A.unI B λh5 D=>A.unI D λh6 E=>A.unI E λh7 F=>A.unI F λh8 G=>A.unI G λh9 H=>A.unI H λi0 I=>A.unV I λn J=>A.unV J λL M=>A.k6 M λN O=>A.call 12 [.i e,.i f,.v g,.i j,.i k,.i l,.v m,.i 0,.i (-1),.i 2,.i 0,.i 0,.i 0] C λP a=>A.unI P λi1 Q=>A.unI Q λi2 S=>A.unI S λi3 T=>A.unI T λi4 U=>A.unI U λi5 V=>A.unI V λi6 W=>A.unV W λX Y=>A.unV Y λi7 Z=>A.k6 Z λo a0=>A.cd .neq O 0 (K [.b false] a) (A.cd .neq a0 0 (K [.b false] a) (A.ln n λa1=>A.cd .neq a1 1 (K [.b false] a) (A.opt (idS 2 n 0) λa2=>A.peek (.lg cc 2 a2) a λa3=>A.k7 a3 λa4 a5=>A.eqs [(.i a4,.i 0),(.i a5,.i 1)] λa6=>A.cond (!a6) (K [.b false] a) (A.ln L λa7=>A.ln N λa8=>A.pa a7 a8 λa9=>A.cd .neq a9 0 (K [.b false] a) (A.ln o λb0=>A.cd .neq b0 1 (K [.b false] a) (A.opt (idS 1 o 0) λb1=>A.peek (.lg cc 1 b1) a λb2=>A.k5 b2 λb3=>A.cd .neq b3 0 (K [.b false] a) (A.ln X λb4=>A.cd .neq b4 0 (K [.b false] a) (A.call 5 [.i 2,.i 1] a λb5 b6=>A.k2 b5 λb7 b8 b9 c0 c1 c2 c3=>A.call 13 [.i b7,.i b8,.v b9,.i c0,.i c1,.i c2,.v c3,.i 1,.i 1,.i 1,.b true] b6 λc5 c6=>A.k2 c5 λp q r s t u w=>A.call 12 [.i p,.i q,.v r,.i s,.i t,.i u,.v w,.i 0,.i 0,.i 1,.i 1,.i 0,.i 3] c6 λc7 c8=>A.unI c7 λi8 c9=>A.unI c9 λi9 d0=>A.unI d0 λj0 d1=>A.unI d1 λj1 d2=>A.unI d2 λj2 d3=>A.unI d3 λj3 d4=>A.unV d4 λj4 d5=>A.unV d5 λx d6=>A.k6 d6 λj5 d7=>A.call 12 [.i p,.i q,.v r,.i s,.i t,.i u,.v w,.i (-1),.i 0,.i 1,.i 0,.i 0,.i 3] c8 λd8 c=>A.unI d8 λj6 d9=>A.unI d9 λj7 e0=>A.unI e0 λj8 e1=>A.unI e1 λj9 e2=>A.unI e2 λk0 e3=>A.unI e3 λk1 e4=>A.unV e4 λk3 e5=>A.unV e5 λk4 e6=>A.k6 e6 λd e7=>A.cd .neq d7 0 (K [.b false] c) (A.cd .neq e7 0 (K [.b false] c) (A.ln x λe8=>A.cd .neq e8 1 (K [.b false] c) (A.opt (idS 3 x 0) λe9=>A.peek (.lg cc 3 e9) c λf0=>A.k8 f0 λf1 f2 f3=>A.eqs [(.i f1,.i 0),(.i f2,.i 1),(.i f3,.i 7)] λf4=>A.cond (!f4) (K [.b false] c) (A.ln d λf5=>A.cd .neq f5 2 (K [.b false] c) (A.opt (idS 1 d 0) λf6=>A.peek (.lg cc 1 f6) c λf7=>A.k5 f7 λf8=>A.cd .neq f8 3 (K [.b false] c) (A.opt (idS 1 d 1) λf9=>A.peek (.lg cc 1 f9) c λg0=>A.k5 g0 λg1=>A.cd .neq g1 5 (K [.b false] c) (A.new (.cells [.int .i64 1,.int .i64 2] 2 true) c λg2 g3=>A.new (.cells [.int .u8 0,.int .i64 0,.int .i64 3] 3 true) g3 λg4 g5=>A.new (.cells [.int .i64 0,.int .i64 1,.int .i64 3] 1 true) g5 λg6 g7=>A.new (.cells [.int .i64 2] 1 true) g7 λg8 g9=>A.new (.cells [.int .i64 0,.int .i64 0,.int .u8 0,.slice (some ⟨g6,0,some 11⟩) 3 4,.int .i64 0,.int .i64 0,.int .u8 1,.slice (some ⟨g8,0,some 11⟩) 1 2] 4 true) g9 λh0 h1=>A.c4 14 [.i 0,.i 0,.i 0,.i 0,.i 0,.i 1,.v (.slice (some ⟨g2,0,some 12⟩) 1 2),.v (.slice (some ⟨g4,0,some 13⟩) 1 2),.v (.slice none 0 0),.v (.slice (some ⟨h0,0,some 14⟩) 2 3)] h1 λh2 h3=>A.cmp .eql h3 12 λh4=>K [.b h4] h2))))))))))))))))
def f5:R:=A.k9 ls λd e=>A.loop (λo p f=>A.unI p λa q=>A.k2 q λb c g j k l m=>A.pm 4 d λr=>A.pm r e λs=>A.cd .lss a s (A.c10 15 [.i b,.i c,.i a] f λt u w x=>A.new (.cells [.int .i64 a] 1 true) t λy z=>A.new (.cells [.int .i64 u,.int .i64 w,.int .u8 x,.slice (some ⟨y,0,some 11⟩) 1 2] 4 true) z λB C=>A.heap (.ap cc 4 48 m (.slice (some ⟨B,0,some 14⟩) 1 2)) C λD E=>A.ucV D λn F=>A.chk n (A.uc0 F (A.pa a 1 λG=>o [.i G,.i b,.i c,.v g,.i j,.i k,.i l,.v n] E))) (K [.i b,.i c,.v g,.i j,.i k,.i l,.v m] f)) [.i 0,.i d,.i e,.v (.slice none 0 0),.i 0,.i 0,.i 0,.v (.slice none 0 0)] h
def f6:R:=A.k11 ls λb e f g=>A.c10 15 [.i b,.i e,.i f] h λj k l m=>A.c10 16 [.i k,.i l,.i m,.i g] j λa c d n=>A.cd .lss c 0 (K [.i (-1)] a) (A.cd .lss d 0 (K [.i (-1)] a) (A.cd .geq c b (K [.i (-1)] a) (A.cd .geq d e (K [.i (-1)] a) (A.pm d b λo=>A.pa o c λp=>A.pm 4 p λq=>A.ci n λr=>A.pa q r λs=>K [.i s] a))))
def f7:R:=A.k11 ls λf g b c=>A.loop (λj k e=>A.k4 k λd=>A.cd .lss d 3 (A.c4 6 [.i f,.i g,.i b,.i d] e λa l=>A.cd .neq l c (A.pa d 1 λm=>j [.i m] a) (A.ari .rem .i64 b 4 λn=>A.ari .rem .i64 c 4 λo=>A.pa n o λp=>A.cd .eql p 1 (K [.i 1] a) (A.ari .rem .i64 b 4 λq=>A.ari .rem .i64 c 4 λr=>A.pa q r λs=>A.cd .eql s 5 (K [.i 1] a) (K [.i 2] a)))) (K [.i 0] e)) [.i 1] h
def f8:R:=A.k0 ls λb=>A.loop (λk l g=>A.k4 l λd=>A.ln b λm=>A.cd .lss d m (A.join (λn o=>A.un0 n (A.pa d 1 λp=>k [.i p] o)) λe=>A.loop (λj q c=>A.k4 q λa=>A.cd .gtr a 0 (A.ps a 1 λr=>A.fx 3 b r 0 1 c λs=>A.k5 s λt=>A.fx 3 b a 0 1 c λu=>A.k5 u λw=>A.cd .gtr t w (A.ps a 1 λx=>A.ix 3 b a 3 c λy=>A.k12 y λz B C=>A.ps a 1 λD=>A.ix 3 b D 3 c λE=>A.k12 E λF G H=>A.opt (idS 3 b x) λI=>A.heap (.st I [.int .i64 z,.int .u8 B,.int .u8 C]) c λb7 J=>A.opt (idS 3 b a) λL=>A.heap (.st L [.int .i64 F,.int .u8 G,.int .u8 H]) J λb8 M=>A.ps a 1 λN=>j [.i N] M) (A.ps a 1 λO=>A.fx 3 b O 0 1 c λP=>A.k5 P λQ=>A.fx 3 b a 0 1 c λS=>A.k5 S λT=>A.cd .eql Q T (A.ps a 1 λU=>A.fx 3 b U 1 1 c λV=>A.k3 V λW=>A.fx 3 b a 1 1 c λX=>A.k3 X λY=>A.cmp .gtr W Y λZ=>A.join (λa0 f=>A.un0 a0 (A.ps a 1 λa1=>A.ix 3 b a 3 f λa2=>A.k12 a2 λa3 a4 a5=>A.ps a 1 λa6=>A.ix 3 b a6 3 f λa7=>A.k12 a7 λa8 a9 b0=>A.opt (idS 3 b a1) λb1=>A.heap (.st b1 [.int .i64 a3,.int .u8 a4,.int .u8 a5]) f λb9 b2=>A.opt (idS 3 b a) λb3=>A.heap (.st b3 [.int .i64 a8,.int .u8 a9,.int .u8 b0]) b2 λc0 b4=>A.ps a 1 λb5=>j [.i b5] b4)) λb6=>A.cond Z (b6 [] c) (e [] c)) (e [] c))) (e [] c)) [.i d] g) (K [.v b] g)) [.i 1] h
def f9:R:=A.unI ls λj F=>A.unI F λk G=>A.unV G λH I=>A.k10 I λJ L M=>A.pm 4 j λN=>A.pm N k λa=>A.opt (mkOk a a) λi4=>A.new (.cells (aD [.int .u8 0,.int .i64 0,.int .i64 0] (Int.toNat a)) 3 true) h λe O=>A.opt (mkOk a a) λi5=>A.new (.cells (aD [.bool false] (Int.toNat a)) 1 true) O λf u=>A.cd .lss a 1 (K [.v (.slice none 0 0),.i 0] u) (A.opt (idS 3 (.slice (some ⟨e,0,some 13⟩) (Int.toNat a) ((Int.toNat a)+1)) 0) λP=>A.heap (.st P [.int .u8 J,.int .i64 L,.int .i64 M]) u λi6 Q=>A.opt (idS 1 (.slice (some ⟨f,0,some 11⟩) (Int.toNat a) ((Int.toNat a)+1)) 0) λS=>A.heap (.st S [.bool true]) Q λi7 T=>A.c0 17 [.i j,.i k,.v H] T λU V=>A.loop (λW X w=>A.k1 X λY=>A.cond Y (A.loop (λZ a0 x=>A.unB a0 λy a1=>A.k4 a1 λd=>A.cd .lss d a (A.join (λa2 a3=>A.k1 a2 λa4=>A.pa d 1 λa5=>Z [.b a4,.i a5] a3) λz=>A.loop (λa6 a7 n=>A.unB a7 λl a8=>A.k4 a8 λo=>A.cd .lss o 3 (A.opt (idS 1 (.slice (some ⟨f,0,some 11⟩) (Int.toNat a) ((Int.toNat a)+1)) d) λa9=>A.peek (.lg cc 1 a9) n λb0=>A.ucB b0 λb1 b2=>A.uc0 b2 (A.cond b1 (A.join (λb3 b4=>A.k1 b3 λb5=>A.pa o 1 λb6=>a6 [.b b5,.i b6] b4) λp=>A.c4 6 [.i j,.i k,.i d,.i o] n λm c=>A.cd .lss c 0 (p [.b l] m) (A.opt (idS 3 (.slice (some ⟨e,0,some 13⟩) (Int.toNat a) ((Int.toNat a)+1)) d) λb7=>A.peek (.lg cc 3 b7) m λb8=>A.k8 b8 λb9 c1 c2=>A.pm 3 d λc3=>A.pa c3 o λc5=>A.ix 1 V c5 1 m λc6=>A.k3 c6 λc7=>A.cmp .neq c7 0 λc8=>A.join (λc9 g=>A.k10 c9 λq r s=>A.opt (idS 1 (.slice (some ⟨f,0,some 11⟩) (Int.toNat a) ((Int.toNat a)+1)) c) λd0=>A.peek (.lg cc 1 d0) g λd1=>A.ucB d1 λd2 d3=>A.uc0 d3 (A.cond d2 (A.opt (idS 3 (.slice (some ⟨e,0,some 13⟩) (Int.toNat a) ((Int.toNat a)+1)) c) λd4=>A.peek (.lg cc 3 d4) g λd5=>A.k8 d5 λd6 d7 d8=>A.eqs [(.i d6,.i q),(.i d7,.i r),(.i d8,.i s)] λd9=>A.join (λe0 t=>A.un0 e0 (A.opt (idS 1 (.slice (some ⟨f,0,some 11⟩) (Int.toNat a) ((Int.toNat a)+1)) c) λe1=>A.peek (.lg cc 1 e1) t λe2=>A.ucB e2 λe3 e4=>A.uc0 e4 (A.join (λe5 e6=>A.k1 e5 λe7=>p [.b e7] e6) λB=>A.cond (!e3) (A.opt (idS 3 (.slice (some ⟨e,0,some 13⟩) (Int.toNat a) ((Int.toNat a)+1)) c) λe8=>A.heap (.st e8 [.int .u8 q,.int .i64 r,.int .i64 s]) t λi8 e9=>A.opt (idS 1 (.slice (some ⟨f,0,some 11⟩) (Int.toNat a) ((Int.toNat a)+1)) c) λf0=>A.heap (.st f0 [.bool true]) e9 λi9 f1=>B [.b true] f1) (B [.b l] t)))) λf2=>A.cond (!d9) (K [.v (.slice none 0 0),.i 0] g) (f2 [] g)) (A.opt (idS 1 (.slice (some ⟨f,0,some 11⟩) (Int.toNat a) ((Int.toNat a)+1)) c) λf3=>A.peek (.lg cc 1 f3) g λf4=>A.ucB f4 λf5 f6=>A.uc0 f6 (A.join (λf7 f8=>A.k1 f7 λf9=>p [.b f9] f8) λC=>A.cond (!f5) (A.opt (idS 3 (.slice (some ⟨e,0,some 13⟩) (Int.toNat a) ((Int.toNat a)+1)) c) λg0=>A.heap (.st g0 [.int .u8 q,.int .i64 r,.int .i64 s]) g λj0 g1=>A.opt (idS 1 (.slice (some ⟨f,0,some 11⟩) (Int.toNat a) ((Int.toNat a)+1)) c) λg2=>A.heap (.st g2 [.bool true]) g1 λj1 g3=>C [.b true] g3) (C [.b l] g))))) λD=>A.cond c8 (A.c10 15 [.i j,.i k,.i d] m λg4 g5 g6 g7=>A.c10 15 [.i j,.i k,.i c] g4 λg8 g9 h0 h1=>A.c10 19 [.i g5,.i g6,.i g7,.i g9,.i h0,.i h1] g8 λE h2 h3 h4=>A.opt (idS 3 (.slice (some ⟨e,0,some 13⟩) (Int.toNat a) ((Int.toNat a)+1)) d) λh5=>A.peek (.lg cc 3 h5) E λh6=>A.k8 h6 λh7 h8 h9=>A.c10 18 [.i h2,.i h3,.i h4,.i h7,.i h8,.i h9] E λi0 i1 i2 i3=>D [.i i1,.i i2,.i i3] i0) (D [.i b9,.i c1,.i c2] m))) (z [.b l] n))) (z [.b l] n)) [.b y,.i 0] x) (W [.b y] x)) [.b false,.i 0] w) (K [.v (.slice (some ⟨e,0,some 13⟩) (Int.toNat a) ((Int.toNat a)+1)),.i 1] w)) [.b true] U)
def f10:R:=A.k2 ls λf g m T U V a=>A.call 9 [.i f,.i g,.v m,.i T,.i U,.i V] h λW z=>A.k6 W λj X=>A.cd .eql X 0 (K [.i 11] z) (A.ln j λY=>A.c4 20 [.v a,.i Y] z λB C=>A.cd .neq C 0 (K [.i C] B) (A.loop (λZ a0 D=>A.k4 a0 λk=>A.ln a λa1=>A.cd .lss k a1 (A.loop (λa2 a3 d=>A.k4 a3 λp=>A.fx 4 a k 3 1 d λa4=>A.ucV a4 λE a5=>A.chk E (A.uc0 a5 (A.ln E λa6=>A.cd .lss p a6 (A.fx 4 a k 3 1 d λa7=>A.ucV a7 λF a8=>A.chk F (A.uc0 a8 (A.ix 1 F p 1 d λa9=>A.k5 a9 λG=>A.ix 3 j G 3 d λb0=>A.k8 b0 λb1 b2 b3=>A.c10 15 [.i f,.i g,.i G] d λb4 b5 b6 b7=>A.c10 21 [.i b1,.i b2,.i b3,.i b5,.i b6,.i b7] b4 λq b8 b9 c1=>A.fx 4 a k 0 3 q λc2=>A.k13 c2 λc3 c5 c6=>A.eqs [(.i b8,.i c3),(.i b9,.i c5),(.i c1,.i c6)] λc7=>A.cond (!c7) (K [.i 6] q) (A.pa p 1 λc8=>a2 [.i c8] q)))) (A.pa k 1 λc9=>Z [.i c9] d)))) [.i 0] D) (A.c0 17 [.i f,.i g,.v m] D λd0 H=>A.loop (λd1 d2 r=>A.k9 d2 λI s=>A.ln a λd3=>A.cd .lss s d3 (A.fx 4 a s 0 3 r λd4=>A.k13 d4 λt u w=>A.loop (λd5 d6 J=>A.k9 d6 λL x=>A.cd .lss x 3 (A.c10 16 [.i t,.i u,.i w,.i x] J λd7 M N O=>A.c0 22 [.i f,.i g,.v m,.v H,.v j,.v a,.i t,.i u,.i w,.i M,.i N,.i O] d7 λd8 e=>A.c0 22 [.i f,.i g,.v m,.v H,.v j,.v a,.i M,.i N,.i O,.i t,.i u,.i w] d8 λd9 e0=>A.c4 23 [.v e,.v e0] d9 λP e1=>A.cd .eql e1 1 (K [.i 12] P) (A.loop (λy e2 n=>A.k9 e2 λo c=>A.ln e λe3=>A.cd .lss c e3 (A.fx 3 e c 2 1 n λe4=>A.k3 e4 λe5=>A.cd .neq e5 0 (A.c4 24 [.v e,.i c] n λl e6=>A.cd .lss e6 c (A.fx 3 e c 2 1 l λe7=>A.k3 e7 λe8=>A.fx 3 e c 0 1 l λe9=>A.k5 e9 λf0=>A.fx 3 j f0 0 1 l λf1=>A.k3 f1 λf2=>A.cmp .lss f2 4 λf3=>A.c4 25 [.i e8,.b f3] l λQ f4=>A.cmp .eql f4 0 λf5=>A.join (λf6 f7=>A.k4 f6 λf8=>A.pa c 1 λf9=>y [.i f8,.i f9] f7) λS=>A.cond f5 (S [.i 13] Q) (S [.i o] Q)) (A.pa c 1 λg0=>y [.i o,.i g0] l)) (A.pa c 1 λg1=>y [.i o,.i g1] n)) (A.pa x 1 λg2=>d5 [.i o,.i g2] n)) [.i L,.i 0] P)) (A.pa s 1 λg3=>d1 [.i L,.i g3] J)) [.i I,.i 0] r) (K [.i I] r)) [.i 0,.i 0] d0)) [.i 0] B))
def f11:R:=A.k2 ls λk l y z B C a=>A.call 26 [.i k,.i l,.v y,.i z,.i B,.i C] h λD E=>A.k6 D λF m=>A.new (.cells [.slice none 0 0] 1 true) E λc G=>A.heap (.st (.pointer (some ⟨c,0,none⟩)) [F]) G λb6 n=>A.cd .neq m 0 (K [.i m] n) (A.c4 27 [.v a,.i k,.i l] n λo p=>A.cd .neq p 0 (K [.i p] o) (A.ln a λH=>A.loop (λI J d=>A.k4 J λe=>A.cd .lss e H (A.ix 4 a e 4 d λL=>A.ucI .i64 L λM N=>A.ucI .i64 N λO P=>A.ucI .u8 P λQ S=>A.ucV S λq T=>A.chk q (A.uc0 T (A.new (.cells [.int .i64 0,.int .i64 0,.int .u8 0,.slice none 0 0] 4 true) d λb U=>A.heap (.st (.pointer (some ⟨b,0,none⟩)) [.int .i64 M,.int .i64 O,.int .u8 Q,q]) U λb7 r=>A.opt (fdP 3 (.pointer (some ⟨b,0,none⟩))) λs=>A.chk s (A.peek (.lg cc 1 s) r λV=>A.ucV V λt W=>A.chk t (A.uc0 W (A.chk (.func (.func 29) ⟨[]⟩ ⟨[.pointer (some ⟨c,0,none⟩),.pointer (some ⟨b,0,none⟩)]⟩) (A.c1 28 [.v t,.v (.func (.func 29) ⟨[]⟩ ⟨[.pointer (some ⟨c,0,none⟩),.pointer (some ⟨b,0,none⟩)]⟩)] r λu X=>A.cond X (K [.i 6] u) (A.pa e 1 λY=>I [.i Y] u)))))))) (A.ln a λZ=>A.loop (λa0 a1 f=>A.k4 a1 λg=>A.cd .lss g Z (A.ix 4 a g 4 f λa2=>A.ucI .i64 a2 λa3 a4=>A.ucI .i64 a4 λa5 a6=>A.ucI .u8 a6 λa7 a8=>A.ucV a8 λa9 b0=>A.chk a9 (A.uc0 b0 (A.loop (λb1 b2 w=>A.k4 b2 λj=>A.cd .lss j 3 (A.c11 30 [.i a3,.i a5,.i a7,.i j] w λx b8 b9 c0 b3=>A.cd .neq b3 0 (K [.i 3] x) (A.ari .add .u8 j 1 λb4=>b1 [.i b4] x)) (A.pa g 1 λb5=>a0 [.i b5] w)) [.i 0] f))) (K [.i 0] f)) [.i 0] d)) [.i 0] o))
def f12:R:=A.unI ls λB C=>A.unI C λD E=>A.unV E λF G=>A.unI G λH I=>A.unI I λJ L=>A.unI L λM N=>A.unV N λO P=>A.k14 P λc d e f g j=>A.call 31 [.i B,.i D,.v F,.i H,.i J,.i M,.v O] h λQ n=>A.k6 Q λo p=>A.cd .neq p 0 (A.opt (chk2 (.slice none 0 0)) λb3=>A.opt (chk2 (.slice none 0 0)) λb4=>A.opt (chk2 (.slice none 0 0)) λb5=>K [.i 0,.i 0,.i 0,.i 0,.i 0,.i 0,.v (.slice none 0 0),.v (.slice none 0 0),.v (.slice none 0 0),.i p] n) (A.c9 32 [.i c,.i d,.i e,.i f,.i g,.i j] n λq b6 S=>A.cd .neq S 0 (A.opt (chk2 (.slice none 0 0)) λb7=>A.opt (chk2 (.slice none 0 0)) λb8=>A.opt (chk2 (.slice none 0 0)) λb9=>K [.i 0,.i 0,.i 0,.i 0,.i 0,.i 0,.v (.slice none 0 0),.v (.slice none 0 0),.v (.slice none 0 0),.i 1] q) (A.c4 33 [.i c,.i d,.i e,.i f,.i g,.i j] q λr T=>A.cd .geq T 0 (A.opt (chk2 (.slice none 0 0)) λc0=>A.opt (chk2 (.slice none 0 0)) λc1=>A.opt (chk2 (.slice none 0 0)) λc2=>K [.i 0,.i 0,.i 0,.i 0,.i 0,.i 0,.v (.slice none 0 0),.v (.slice none 0 0),.v (.slice none 0 0),.i 1] r) (A.ln o λU=>A.loop (λs V a=>A.k4 V λb=>A.cd .lss b U (A.ix 9 o b 9 a λW=>A.ucI .i64 W λt X=>A.ucI .i64 X λu Y=>A.ucI .u8 Y λw Z=>A.ucI .i64 Z λx a0=>A.ucI .i64 a0 λy a1=>A.ucI .u8 a1 λz a2=>A.ucV a2 λk a3=>A.chk k (A.ucV a3 λl a4=>A.chk l (A.ucV a4 λm a5=>A.chk m (A.uc0 a5 (A.eqs [(.i t,.i c),(.i u,.i d),(.i w,.i e)] λa6=>A.cond a6 (A.eqs [(.i x,.i f),(.i y,.i g),(.i z,.i j)] λa7=>A.join (λa8 a9=>A.un0 a8 (A.pa b 1 λb0=>s [.i b0] a9)) λb1=>A.cond a7 (A.opt (chk2 k) λc3=>A.opt (chk2 l) λc5=>A.opt (chk2 m) λc6=>K [.i t,.i u,.i w,.i x,.i y,.i z,.v k,.v l,.v m,.i 0] a) (b1 [] a)) (A.pa b 1 λb2=>s [.i b2] a)))))) (A.opt (chk2 (.slice none 0 0)) λc7=>A.opt (chk2 (.slice none 0 0)) λc8=>A.opt (chk2 (.slice none 0 0)) λd0=>K [.i 0,.i 0,.i 0,.i 0,.i 0,.i 0,.v (.slice none 0 0),.v (.slice none 0 0),.v (.slice none 0 0),.i 7] a)) [.i 0] r)))
def f13:R:=A.unI ls λn e5=>A.unI e5 λo e6=>A.unV e6 λx e7=>A.unI e7 λp e8=>A.unI e8 λq e9=>A.unI e9 λr f0=>A.unV f0 λy f1=>A.unI f1 λz f2=>A.unI f2 λB f3=>A.k15 f3 λf4 a6=>A.c10 34 [.i z,.i B] h λf5 a7 a8 a9=>A.new (.cells [] 3 true) f5 λf6 f7=>A.heap (.ap cc 3 16 (.slice (some ⟨f6,0,some 13⟩) 0 1) x) f7 λf8 f9=>A.ucV f8 λb0 g0=>A.chk b0 (A.uc0 g0 (A.loop (λg1 g2 C=>A.unV g2 λD g3=>A.unV g3 λd g4=>A.unI g4 λE g5=>A.k2 g5 λF G H I J L b1=>A.ln y λg6=>A.cd .lss E g6 (A.join (λg7 g8=>A.unV g7 λg9 h0=>A.unV h0 λh1 h2=>A.k2 h2 λh3 h4 h5 h6 h7 h8 h9=>A.pa E 1 λi0=>g1 [.v g9,.v h1,.i i0,.i h3,.i h4,.v h5,.i h6,.i h7,.i h8,.v h9] g8) λb2=>A.ix 4 y E 4 C λi1=>A.ucI .i64 i1 λM i2=>A.ucI .i64 i2 λN i3=>A.ucI .u8 i3 λO i4=>A.ucV i4 λl i5=>A.chk l (A.uc0 i5 (A.c4 35 [.i z,.i B,.i M,.i N,.i O] C λb3 i6=>A.cd .neq i6 f4 (A.new (.cells [] 1 true) b3 λi7 i8=>A.heap (.ap cc 1 8 (.slice (some ⟨i7,0,some 11⟩) 0 1) l) i8 λi9 j0=>A.ucV i9 λb4 j1=>A.chk b4 (A.uc0 j1 (A.new (.cells [.int .i64 M,.int .i64 N,.int .u8 O,b4] 4 true) j0 λj2 j3=>A.heap (.ap cc 4 48 D (.slice (some ⟨j2,0,some 14⟩) 1 2)) j3 λj4 j5=>A.ucV j4 λb5 j6=>A.chk b5 (A.uc0 j6 (b2 [.v b5,.v d,.i F,.i G,.v H,.i I,.i J,.i L,.v b1] j5))))) (A.ln l λj7=>A.ps j7 1 λj8=>A.loop (λj9 k7 P=>A.unV k7 λb6 k8=>A.unI k8 λs k9=>A.k2 k9 λQ S T b7 b8 b9 U=>A.cd .geq s 0 (A.ix 1 l s 1 P λl0=>A.k5 l0 λl1=>A.new (.cells [.int .i64 l1] 1 true) P λl2 l3=>A.heap (.ap cc 1 8 b6 (.slice (some ⟨l2,0,some 11⟩) 1 2)) l3 λl4 V=>A.ucV l4 λc1 l5=>A.chk c1 (A.uc0 l5 (A.ix 1 l s 1 V λl6=>A.k5 l6 λl7=>A.cmp .eql l7 0 λl8=>A.join (λl9 m0=>A.k2 l9 λm1 m2 m3 m4 m5 m6 m7=>A.ps s 1 λm8=>j9 [.v c1,.i m8,.i m1,.i m2,.v m3,.i m4,.i m5,.i m6,.v m7] m0) λc2=>A.cond l8 (A.c10 18 [.i p,.i q,.i r,.i a7,.i a8,.i a9] V λm9 n0 n1 n2=>c2 [.i Q,.i S,.v T,.i n0,.i n1,.i n2,.v U] m9) (c2 [.i Q,.i S,.v T,.i b7,.i b8,.i b9,.v U] V)))) (A.c10 21 [.i a7,.i a8,.i a9,.i M,.i N,.i O] P λn3 n4 n5 n6=>A.new (.cells [.int .i64 n4,.int .i64 n5,.int .u8 n6,b6] 4 true) n3 λn7 n8=>A.heap (.ap cc 4 48 d (.slice (some ⟨n7,0,some 14⟩) 1 2)) n8 λn9 o0=>A.ucV n9 λc3 o1=>A.chk c3 (A.uc0 o1 (b2 [.v D,.v c3,.i Q,.i S,.v T,.i b7,.i b8,.i b9,.v U] o0)))) [.v (.slice none 0 0),.i j8,.i F,.i G,.v H,.i I,.i J,.i L,.v b1] b3)))) (A.loop (λo2 o3 c5=>A.k6 o3 λa j=>A.ln d λo4=>A.cd .lss j o4 (A.join (λo5 W=>A.k1 o5 λo6=>A.join (λo7 o8=>A.k0 o7 λo9=>A.pa j 1 λp0=>o2 [.v o9,.i p0] o8) λc6=>A.cond (!o6) (A.ix 4 d j 4 W λp1=>A.ucI .i64 p1 λp2 p3=>A.ucI .i64 p3 λp4 p5=>A.ucI .u8 p5 λp6 p7=>A.ucV p7 λc7 p8=>A.chk c7 (A.uc0 p8 (A.new (.cells [.int .i64 p2,.int .i64 p4,.int .u8 p6,c7] 4 true) W λp9 q0=>A.heap (.ap cc 4 48 a (.slice (some ⟨p9,0,some 14⟩) 1 2)) q0 λq1 q2=>A.ucV q1 λc8 q3=>A.chk c8 (A.uc0 q3 (c6 [.v c8] q2))))) (c6 [.v a] W)) λc9=>A.loop (λq4 q5 c=>A.unB q5 λt q6=>A.k4 q6 λe=>A.ln a λq7=>A.cd .lss e q7 (A.cond (!t) (A.join (λq8 q9=>A.k1 q8 λr0=>A.pa e 1 λr1=>q4 [.b r0,.i r1] q9) λd0=>A.fx 4 a e 0 3 c λr2=>A.k13 r2 λr3 r4 r5=>A.fx 4 d j 0 3 c λr6=>A.k13 r6 λr7 r8 r9=>A.eqs [(.i r3,.i r7),(.i r4,.i r8),(.i r5,.i r9)] λs0=>A.cond (!s0) (d0 [.b t] c) (A.join (λs1 s2=>A.un0 s1 (d0 [.b true] s2)) λd1=>A.cond a6 (A.fx 4 a e 3 1 c λs3=>A.ucV s3 λd2 s4=>A.chk d2 (A.uc0 s4 (A.fx 4 d j 3 1 c λs5=>A.ucV s5 λd3 s6=>A.chk d3 (A.uc0 s6 (A.heap (.ap cc 1 8 d2 d3) c λs7 s8=>A.ucV s7 λd4 s9=>A.chk d4 (A.uc0 s9 (A.opt (idS 4 a e) λt0=>A.opt (fdP 3 t0) λd5=>A.chk d5 (A.heap (.st d5 [d4]) s8 λz4 t1=>d1 [] t1)))))))) (A.new (.cells [] 1 true) c λu d6=>A.opt (idS 4 d j) λt2=>A.opt (fdP 3 t2) λX=>A.chk X (A.peek (.lg cc 1 X) d6 λt3=>A.ucV t3 λd7 t4=>A.chk d7 (A.uc0 t4 (A.heap (.ap cc 1 8 (.slice (some ⟨u,0,some 11⟩) 0 1) d7) d6 λt5 d8=>A.ucV t5 λY t6=>A.chk Y (A.uc0 t6 (A.opt (idS 4 a e) λt7=>A.opt (fdP 3 t7) λm=>A.chk m (A.peek (.lg cc 1 m) d8 λt8=>A.ucV t8 λd9 t9=>A.chk d9 (A.uc0 t9 (A.heap (.ap cc 1 8 Y d9) d8 λu0 u1=>A.ucV u0 λe0 u2=>A.chk e0 (A.uc0 u2 (A.opt (idS 4 a e) λu3=>A.opt (fdP 3 u3) λe1=>A.chk e1 (A.heap (.st e1 [e0]) u1 λz5 u4=>A.opt (Sx.sepL [(.slice (some ⟨u,0,some 11⟩) 0 1,(0,X)),(.slice (some ⟨u,0,some 11⟩) 0 1,(0,m)),(.slice (some ⟨u,0,some 11⟩) 0 1,(0,m)),(Y,(0,m))]) λz6=>d1 [] u4)))))))))))))) (c9 [.b t] c)) (c9 [.b t] c)) [.b false,.i 0] c5) (A.c0 36 [.v a] c5 λu5 u6=>A.call 9 [.i n,.i o,.v x,.i p,.i q,.i r] u5 λu7 u9=>A.k6 u7 λv0 z7=>A.c0 37 [.i n,.i o,.v x,.i p,.i q,.i r,.v y] u9 λv1 k=>A.loop (λv2 v3 f=>A.unI v3 λg v4=>A.k2 v4 λZ a0 a1 a2 a3 a4 a5=>A.ln k λv5=>A.cd .lss g v5 (A.join (λv6 v7=>A.k2 v6 λv8 v9 w0 w1 w2 w3 w4=>A.pa g 1 λw5=>v2 [.i w5,.i v8,.i v9,.v w0,.i w1,.i w2,.i w3,.v w4] v7) λe2=>A.fx 4 k g 2 2 f λw6=>A.ucI .u8 w6 λw7 w8=>A.k5 w8 λw9=>A.eqs [(.i w7,.i z),(.i w9,.i B)] λx0=>A.cond (!x0) (e2 [.i Z,.i a0,.v a1,.i a2,.i a3,.i a4,.v a5] f) (A.fx 4 k g 0 1 f λx1=>A.k5 x1 λx2=>A.fx 3 v0 x2 0 1 f λx3=>A.k3 x3 λx4=>A.cmp .lss x4 4 λx5=>A.eqs [(.b x5,.b a6)] λx6=>A.join (λx7 w=>A.k4 x7 λx8=>A.fx 4 k g 0 1 w λx9=>A.k5 x9 λy0=>A.fx 4 k g 0 1 w λy1=>A.k5 y1 λy2=>A.fx 4 k g 1 1 w λy3=>A.k5 y3 λy4=>A.c4 7 [.i n,.i o,.i y2,.i y4] w λy5 y6=>A.new (.cells [.int .i64 y0,.int .u8 y6,.int .u8 x8] 3 true) y5 λy7 y8=>A.heap (.ap cc 3 16 a1 (.slice (some ⟨y7,0,some 13⟩) 1 2)) y8 λy9 z0=>A.ucV y9 λe3 z1=>A.chk e3 (A.uc0 z1 (e2 [.i Z,.i a0,.v e3,.i a2,.i a3,.i a4,.v a5] z0))) λe4=>A.cond (!x6) (e4 [.i 1] f) (e4 [.i 2] f))) (A.c0 8 [.v a1] f λz2 z3=>K [.i Z,.i a0,.v z3,.i a2,.i a3,.i a4,.v a5] z2)) [.i 0,.i F,.i G,.v H,.i I,.i J,.i L,.v u6] v1)) [.v D,.i 0] C)) [.v (.slice none 0 0),.v (.slice none 0 0),.i 0,.i n,.i o,.v b0,.i p,.i q,.i r,.v (.slice none 0 0)] f9))
def f14:R:=A.unI ls λF Z=>A.unI Z λG a0=>A.unI a0 λH a1=>A.unI a1 λI a2=>A.unI a2 λJ a3=>A.unI a3 λL a4=>A.unV a4 λa5 a6=>A.unV a6 λM a7=>A.unV a7 λa8 a9=>A.k0 a9 λb0=>A.new (.cells [.int .i64 F,.int .i64 G,.int .u8 H,.int .i64 I,.int .i64 J,.int .u8 L] 3 true) h λN b1=>A.opt (lenS (.slice (some ⟨N,0,some 13⟩) 2 3)) λb2=>A.loop (λb3 b4 u=>A.unB b4 λO b5=>A.unI b5 λj b6=>A.unV b6 λp b7=>A.k0 b7 λw=>A.cd .lss j b2 (A.opt (idS 3 (.slice (some ⟨N,0,some 13⟩) 2 3) j) λb8=>A.peek (.lg cc 3 b8) u λb9=>A.k13 b9 λc2 c3 c5=>A.c0 38 [.v b0,.i c2,.i c3,.i c5] u λc6 c7=>A.conv .u8 j λc8=>A.call 39 [.i F,.i G,.i H,.i I,.i J,.i L,.v a5,.v M,.v a8,.i c8,.v c7] c6 λc9 P=>A.unV c9 λx d0=>A.unV d0 λy d1=>A.k1 d1 λd2=>A.cond (!d2) (K [.i 1] P) (A.c1 40 [.v M,.v (.func (.func 41) ⟨[]⟩ ⟨[]⟩)] P λQ d3=>A.cond d3 (K [.i 1] Q) (A.opt (inB 2 j) λl6=>A.opt (putL [.v p,.v w] 0 [(j,1)] [.v y]) λd4=>A.unV d4 λd5 d6=>A.k0 d6 λd7=>A.ln x λd8=>A.join (λd9 e0=>A.k1 d9 λe1=>A.pa j 1 λe2=>b3 [.b e1,.i e2,.v d5,.v d7] e0) λk=>A.loop (λe3 e4 z=>A.unB e4 λS e5=>A.k4 e5 λq=>A.cd .lss q d8 (A.ix 2 x q 2 z λe6=>A.k7 e6 λf l=>A.ln y λe7=>A.loop (λT e8 m=>A.unB e8 λB e9=>A.k4 e9 λr=>A.cd .lss r e7 (A.ix 1 y r 1 m λf0=>A.k5 f0 λU=>A.cd .gtr U f (A.cmp .lss U l λf1=>A.join (λf2 f3=>A.k1 f2 λf4=>A.pa r 1 λf5=>T [.b f4,.i f5] f3) λf6=>A.cond f1 (k [.b true] m) (f6 [.b B] m)) (A.pa r 1 λf7=>T [.b B,.i f7] m)) (A.opt (slS 2 x none (some q) none) λC=>A.chk C (A.ln C λf8=>A.loop (λe f9 a=>A.unB f9 λd g0=>A.k4 g0 λc=>A.cd .lss c f8 (A.ix 2 C c 2 a λg1=>A.k7 g1 λn g=>A.cd .lss f n (A.cd .lss n l (A.cd .lss l g (k [.b true] a) (A.cd .lss n f (A.cd .lss f g (A.cmp .lss g l λg2=>A.join (λg3 g4=>A.k1 g3 λg5=>A.pa c 1 λg6=>e [.b g5,.i g6] g4) λg7=>A.cond g2 (k [.b true] a) (g7 [.b d] a)) (A.pa c 1 λg8=>e [.b d,.i g8] a)) (A.pa c 1 λg9=>e [.b d,.i g9] a))) (A.cd .lss n f (A.cd .lss f g (A.cmp .lss g l λh0=>A.join (λh1 h2=>A.k1 h1 λh3=>A.pa c 1 λh4=>e [.b h3,.i h4] h2) λh5=>A.cond h0 (k [.b true] a) (h5 [.b d] a)) (A.pa c 1 λh6=>e [.b d,.i h6] a)) (A.pa c 1 λh7=>e [.b d,.i h7] a))) (A.cd .lss n f (A.cd .lss f g (A.cmp .lss g l λh8=>A.join (λh9 i0=>A.k1 h9 λi1=>A.pa c 1 λi2=>e [.b i1,.i i2] i0) λi3=>A.cond h8 (k [.b true] a) (i3 [.b d] a)) (A.pa c 1 λi4=>e [.b d,.i i4] a)) (A.pa c 1 λi5=>e [.b d,.i i5] a))) (A.pa q 1 λi6=>e3 [.b d,.i i6] a)) [.b B,.i 0] m))) [.b S,.i 0] z) (k [.b S] z)) [.b O,.i 0] Q))) (A.ln p λi7=>A.loop (λi8 i9 D=>A.unB i9 λV j0=>A.k4 j0 λo=>A.cd .lss o i7 (A.loop (λj1 j2 s=>A.unB j2 λW j3=>A.k4 j3 λt=>A.cd .lss t o (A.ix 1 p o 1 s λj4=>A.k5 j4 λj5=>A.ix 1 p t 1 s λj6=>A.k5 j6 λj7=>A.c4 42 [.i j5,.i j7] s λE j8=>A.ix 1 w o 1 E λj9=>A.k5 j9 λk2=>A.ix 1 w t 1 E λk3=>A.k5 k3 λk6=>A.c4 42 [.i k2,.i k6] E λX k8=>A.pm j8 k8 λk9=>A.cmp .lss k9 0 λl0=>A.join (λl1 l2=>A.k1 l1 λl3=>A.pa t 1 λl4=>j1 [.b l3,.i l4] l2) λY=>A.cond l0 (Y [.b true] X) (Y [.b W] X)) (A.pa o 1 λl5=>i8 [.b W,.i l5] s)) [.b V,.i 0] D) (A.cond V (K [.i 12] D) (K [.i 0] D))) [.b O,.i 0] u)) [.b false,.i 0,.v (.slice none 0 0),.v (.slice none 0 0)] b1
def f15:R:=A.k10 ls λb k a=>A.pq a 4 λc=>A.ari .rem .i64 c b λd=>A.pq a 4 λe=>A.pq e b λf=>A.ari .rem .i64 a 4 λg=>A.conv .u8 g λj=>K [.i d,.i f,.i j] h
def f16:R:=A.k11 ls λa b c d=>A.cd .eql d 0 (A.cd .eql c 0 (A.ps b 1 λe=>K [.i a,.i e,.i 2] h) (A.cd .eql c 1 (A.pa a 1 λf=>K [.i f,.i b,.i 3] h) (A.cd .eql c 2 (A.pa b 1 λg=>K [.i a,.i g,.i 0] h) (A.ps a 1 λj=>K [.i j,.i b,.i 1] h)))) (A.cd .eql d 1 (A.ari .add .u8 c 1 λk=>A.ari .rem .u8 k 4 λl=>K [.i a,.i b,.i l] h) (A.ari .add .u8 c 3 λm=>A.ari .rem .u8 m 4 λn=>K [.i a,.i b,.i n] h))
def f17:R:=A.unI ls λc w=>A.unI w λd x=>A.k0 x λn=>A.pm 12 c λy=>A.pm y d λa=>A.opt (mkOk a a) λa5=>A.new (.cells (aD [.int .u8 0] (Int.toNat a)) 1 true) h λg z=>A.loop (λB C j=>A.k4 C λk=>A.ln n λD=>A.cd .lss k D (A.ix 3 n k 3 j λE=>A.k12 E λe F o=>A.loop (λG H p=>A.k4 H λb=>A.cd .lss b 3 (A.join (λI J=>A.un0 I (A.pa b 1 λL=>G [.i L] J)) λl=>A.c4 6 [.i c,.i d,.i e,.i b] p λq m=>A.cd .lss m 0 (l [] q) (A.c4 43 [.i c,.i d,.i e,.i b] q λr M=>A.ci F λN=>A.cd .neq M N (l [] r) (A.pm 3 e λO=>A.pa O b λP=>A.opt (idS 1 (.slice (some ⟨g,0,some 11⟩) (Int.toNat a) ((Int.toNat a)+1)) P) λQ=>A.heap (.st Q [.int .u8 o]) r λa6 S=>A.loop (λT U s=>A.k4 U λf=>A.cd .lss f 3 (A.c4 6 [.i c,.i d,.i m,.i f] s λt V=>A.cmp .eql V e λW=>A.join (λX Y=>A.un0 X (A.pa f 1 λZ=>T [.i Z] Y)) λu=>A.cond W (A.pm 3 m λa0=>A.pa a0 f λa1=>A.opt (idS 1 (.slice (some ⟨g,0,some 11⟩) (Int.toNat a) ((Int.toNat a)+1)) a1) λa2=>A.heap (.st a2 [.int .u8 o]) t λa7 a3=>u [] a3) (u [] t)) (l [] s)) [.i 0] S))) (A.pa k 1 λa4=>B [.i a4] p)) [.i 0] j) (K [.v (.slice (some ⟨g,0,some 11⟩) (Int.toNat a) ((Int.toNat a)+1))] j)) [.i 0] z
def f18:R:=A.k14 ls λb c d e f g=>A.c9 44 [.i b,.i c,.i d,.i 0,.i 0] h λp q r=>A.c9 44 [.i e,.i f,.i g,.i q,.i r] p λs t u=>A.c9 44 [.i b,.i c,.i d,.i 6,.i 0] s λv w x=>A.c9 44 [.i e,.i f,.i g,.i w,.i x] v λy z B=>A.c9 44 [.i b,.i c,.i d,.i 0,.i 6] y λC D E=>A.c9 44 [.i e,.i f,.i g,.i D,.i E] C λF G H=>A.loop (λl I m=>A.k4 I λa=>A.cd .lss a 8 (A.c4 45 [.i t,.i 6] m λJ j=>A.c4 45 [.i u,.i 6] J λL k=>A.c9 44 [.i a,.i j,.i k,.i 6,.i 0] L λn M N=>A.eqs [(.i M,.i z),(.i N,.i B)] λO=>A.cond O (A.c9 44 [.i a,.i j,.i k,.i 0,.i 6] n λo P Q=>A.eqs [(.i P,.i G),(.i Q,.i H)] λS=>A.join (λT U=>A.un0 T (A.ari .add .u8 a 1 λV=>l [.i V] U)) λW=>A.cond S (K [.i a,.i j,.i k] o) (W [] o)) (A.ari .add .u8 a 1 λX=>l [.i X] n)) (K [.i 0,.i 0,.i 0] m)) [.i 0] F
def f19:R:=A.k14 ls λa b c d e f=>A.cd .neq a d (A.c4 46 [.i a,.i d] h λg j=>A.pm 2 j λk=>K [.i 4,.i k,.i 0] g) (A.cd .neq b e (A.c4 46 [.i b,.i e] h λl m=>A.pm 2 m λn=>K [.i 6,.i 0,.i n] l) (A.ari .add .u8 c f λo=>A.cd .eql o 1 (A.pa a b λp=>A.pa p 1 λq=>A.pa a b λr=>A.pa r 1 λs=>K [.i 5,.i q,.i s] h) (A.ari .add .u8 c f λt=>A.cd .eql t 5 (A.pa a b λu=>A.pa u 1 λv=>A.pa a b λw=>A.pa w 1 λx=>K [.i 5,.i v,.i x] h) (A.ps a b λy=>A.ps b a λz=>K [.i 7,.i y,.i z] h))))
def f20:R:=A.k6 ls λa b=>A.opt (mkOk b b) λf7=>A.new (.cells (aD [.int .i64 0] (Int.toNat b)) 1 true) h λn L=>A.loop (λt M c=>A.k4 M λd=>A.ln a λN=>A.cd .lss d N (A.fx 4 a d 0 3 c λO=>A.k13 O λo p u=>A.cd .lss o (-4096) (K [.i 1] c) (A.cd .gtr o 4096 (K [.i 1] c) (A.cd .lss p (-4096) (K [.i 1] c) (A.cd .gtr p 4096 (K [.i 1] c) (A.cd .gtr u 3 (K [.i 1] c) (A.cd .gtr d 0 (A.ps d 1 λP=>A.fx 4 a P 0 3 c λQ=>A.k13 Q λS T U=>A.c4 47 [.i S,.i T,.i U,.i o,.i p,.i u] c λl V=>A.cd .eql V 0 (K [.i 1] l) (A.fx 4 a d 3 1 l λW=>A.ucV W λv X=>A.chk v (A.uc0 X (A.ln v λY=>A.cmp .eql Y 0 λZ=>A.join (λa0 a1=>A.un0 a0 (A.loop (λa2 a3 e=>A.k4 a3 λq=>A.fx 4 a d 3 1 e λa4=>A.ucV a4 λw a5=>A.chk w (A.uc0 a5 (A.ln w λa6=>A.cd .lss q a6 (A.fx 4 a d 3 1 e λa7=>A.ucV a7 λx a8=>A.chk x (A.uc0 a8 (A.ix 1 x q 1 e λa9=>A.k5 a9 λy=>A.cd .lss y 0 (K [.i 1] e) (A.cd .geq y b (K [.i 1] e) (A.pa q 1 λb0=>a2 [.i b0] e))))) (A.pa d 1 λb1=>t [.i b1] e)))) [.i 0] a1)) λb2=>A.cond Z (K [.i 1] l) (b2 [] l))))) (A.fx 4 a d 3 1 c λb3=>A.ucV b3 λz b4=>A.chk z (A.uc0 b4 (A.ln z λb5=>A.cmp .eql b5 0 λb6=>A.join (λb7 b8=>A.un0 b7 (A.loop (λb9 c0 f=>A.k4 c0 λr=>A.fx 4 a d 3 1 f λc1=>A.ucV c1 λB c2=>A.chk B (A.uc0 c2 (A.ln B λc3=>A.cd .lss r c3 (A.fx 4 a d 3 1 f λc5=>A.ucV c5 λC c6=>A.chk C (A.uc0 c6 (A.ix 1 C r 1 f λc7=>A.k5 c7 λD=>A.cd .lss D 0 (K [.i 1] f) (A.cd .geq D b (K [.i 1] f) (A.pa r 1 λc8=>b9 [.i c8] f))))) (A.pa d 1 λc9=>t [.i c9] f)))) [.i 0] b8)) λd0=>A.cond b6 (K [.i 1] c) (d0 [] c)))))))))) (A.loop (λd1 d2 s=>A.k9 d2 λE j=>A.ln a λd3=>A.cd .lss j d3 (A.loop (λd4 d5 g=>A.k9 d5 λF m=>A.fx 4 a j 3 1 g λd6=>A.ucV d6 λG d7=>A.chk G (A.uc0 d7 (A.ln G λd8=>A.cd .lss m d8 (A.fx 4 a j 3 1 g λd9=>A.ucV d9 λH e0=>A.chk H (A.uc0 e0 (A.ix 1 H m 1 g λe1=>A.k5 e1 λI=>A.opt (idS 1 (.slice (some ⟨n,0,some 11⟩) (Int.toNat b) ((Int.toNat b)+1)) I) λe2=>A.peek (.lg cc 1 e2) g λe3=>A.k5 e3 λe4=>A.pa e4 1 λe5=>A.opt (idS 1 (.slice (some ⟨n,0,some 11⟩) (Int.toNat b) ((Int.toNat b)+1)) I) λe6=>A.heap (.st e6 [.int .i64 e5]) g λf8 k=>A.fx 4 a j 3 1 k λe7=>A.ucV e7 λJ e8=>A.chk J (A.uc0 e8 (A.ix 1 J m 1 k λe9=>A.k5 e9 λf0=>A.opt (idS 1 (.slice (some ⟨n,0,some 11⟩) (Int.toNat b) ((Int.toNat b)+1)) f0) λf1=>A.peek (.lg cc 1 f1) k λf2=>A.k5 f2 λf3=>A.cd .gtr f3 1 (K [.i 8] k) (A.pa F 1 λf4=>A.pa m 1 λf5=>d4 [.i f4,.i f5] k)))))) (A.pa j 1 λf6=>d1 [.i F,.i f6] g)))) [.i E,.i 0] s) (A.cd .lss E b (K [.i 6] s) (K [.i 0] s))) [.i 0,.i 0] c)) [.i 0] L
def f21:R:=A.k14 ls λa b c d e f=>A.c9 49 [.i d,.i e,.i f] h λg j k=>A.c9 44 [.i a,.i b,.i c,.i j,.i k] g λl m n=>A.c10 48 [.i m,.i n] l λo p q r=>K [.i p,.i q,.i r] o
def f22:R:=A.unI ls λg q=>A.unI q λj r=>A.unV r λc2 s=>A.unV s λt u=>A.unV u λw x=>A.unV x λy z=>A.k14 z λB C D E F G=>A.c0 50 [.v y,.i B,.i C,.i D] h λH k=>A.loop (λI J c=>A.k6 J λl d=>A.ln k λL=>A.cd .lss d L (A.ix 1 k d 1 c λM=>A.k5 M λa=>A.loop (λN O e=>A.k6 O λf b=>A.cd .lss b 3 (A.join (λP Q=>A.k0 P λS=>A.pa b 1 λT=>N [.v S,.i T] Q) λm=>A.ix 3 w a 3 e λU=>A.k8 U λV W X=>A.c10 15 [.i g,.i j,.i a] e λY Z a0 a1=>A.c10 16 [.i Z,.i a0,.i a1,.i b] Y λa2 a3 a4 a5=>A.c10 21 [.i V,.i W,.i X,.i a3,.i a4,.i a5] a2 λn a6 a7 a8=>A.eqs [(.i a6,.i E),(.i a7,.i F),(.i a8,.i G)] λa9=>A.cond (!a9) (m [.v f] n) (A.c4 6 [.i g,.i j,.i a,.i b] n λo b0=>A.pm 3 a λb1=>A.pa b1 b λb2=>A.ix 1 t b2 1 o λb3=>A.k3 b3 λb4=>A.new (.cells [.int .i64 a,.int .i64 b0,.int .u8 b4] 3 true) o λb5 b6=>A.heap (.ap cc 3 24 f (.slice (some ⟨b5,0,some 13⟩) 1 2)) b6 λb7 b8=>A.ucV b7 λp b9=>A.chk p (A.uc0 b9 (m [.v p] b8)))) (A.pa d 1 λc1=>I [.v f,.i c1] e)) [.v l,.i 0] c) (K [.v l] c)) [.v (.slice none 0 0),.i 0] H
def f23:R:=A.unV ls λb E=>A.k0 E λn=>A.loop (λF G s=>A.k4 G λl=>A.cd .lss l 2 (A.opt (inB 2 l) λe1=>A.opt (mR [.v b,.v n] 0 [(l,1)] 1) λH=>A.k0 H λc=>A.loop (λI J m=>A.k4 J λf=>A.ln c λL=>A.cd .lss f L (A.join (λM N=>A.un0 M (A.pa f 1 λO=>I [.i O] N)) λt=>A.fx 3 c f 2 1 m λP=>A.k3 P λQ=>A.cd .eql Q 0 (t [] m) (A.c4 24 [.v c,.i f] m λS o=>A.pa f 1 λT=>A.loop (λu U e=>A.k4 U λd=>A.cd .lss d o (A.fx 3 c d 1 1 e λV=>A.k5 V λW=>A.cd .geq W 0 (A.fx 3 c d 2 1 e λX=>A.k3 X λY=>A.cmp .eql Y 0 λZ=>A.join (λa0 p=>A.un0 a0 (A.fx 3 c d 2 1 p λa1=>A.k3 a1 λa2=>A.cmp .neq a2 0 λa3=>A.join (λa4 a5=>A.un0 a4 (A.pa d 1 λa6=>u [.i a6] a5)) λw=>A.cond a3 (A.c4 24 [.v c,.i d] p λq x=>A.cd .lss x f (K [.i 1] q) (A.cd .gtr x o (K [.i 1] q) (w [] q))) (w [] p))) λa7=>A.cond Z (K [.i 1] e) (a7 [] e)) (A.fx 3 c d 2 1 e λa8=>A.k3 a8 λa9=>A.cmp .neq a9 0 λb0=>A.join (λb1 b2=>A.un0 b1 (A.pa d 1 λb3=>u [.i b3] b2)) λy=>A.cond b0 (A.c4 24 [.v c,.i d] e λr z=>A.cd .lss z f (K [.i 1] r) (A.cd .gtr z o (K [.i 1] r) (y [] r))) (y [] e))) (t [] e)) [.i T] S)) (A.pa l 1 λb4=>F [.i b4] m)) [.i 0] s) (A.loop (λb5 b6 B=>A.k4 b6 λg=>A.ln b λb7=>A.cd .lss g b7 (A.pa g 1 λb8=>A.loop (λb9 c0 a=>A.k4 c0 λj=>A.ln b λc1=>A.cd .lss j c1 (A.join (λc2 c3=>A.un0 c2 (A.pa j 1 λc5=>b9 [.i c5] c3)) λk=>A.fx 3 b g 2 1 a λc6=>A.k3 c6 λc7=>A.cd .neq c7 0 (k [] a) (A.fx 3 b j 2 1 a λc8=>A.k3 c8 λc9=>A.cd .neq c9 0 (k [] a) (A.fx 3 b g 1 1 a λd0=>A.k5 d0 λd1=>A.cd .lss d1 0 (k [] a) (A.fx 3 b j 1 1 a λd2=>A.k5 d2 λd3=>A.cd .lss d3 0 (k [] a) (A.fx 3 b g 1 1 a λd4=>A.k5 d4 λd5=>A.c4 51 [.v n,.i d5] a λC d6=>A.fx 3 b j 1 1 C λd7=>A.k5 d7 λd8=>A.c4 51 [.v n,.i d8] C λD d9=>A.cd .gtr d6 d9 (K [.i 1] D) (k [] D)))))) (A.pa g 1 λe0=>b5 [.i e0] a)) [.i b8] B) (K [.i 0] B)) [.i 0] s)) [.i 0] h
def f24:R:=A.k6 ls λa b=>A.fx 3 a b 1 1 h λc=>A.k5 c λd=>A.c4 51 [.v a,.i d] h λe f=>K [.i f] e
def f25:R:=A.k15 ls λa c=>A.cd .eql a 3 (K [.i 1] h) (A.cmp .eql a 2 λd=>A.eqs [(.b d,.b (!c))] λe=>A.cond e (K [.i 1] h) (K [.i 0] h))
def f26:R:=A.unI ls λa b=>A.unI b λc d=>A.unV d λe f=>A.k10 f λg j k=>A.call 52 [.i a,.i c,.v e,.i g,.i j,.i k] h λl m=>A.unV l λq n=>A.k6 n λo p=>K [.v o,.i p] m
def f27:R:=A.unV ls λd E=>A.k9 E λp q=>A.c4 53 [.i p,.i q] h λr s=>A.cd .neq s 0 (K [.i s] r) (A.c4 54 [.i p,.i q] r λF G=>A.new (.cells [.int .i64 0] 1 true) F λe H=>A.heap (.st (.pointer (some ⟨e,0,none⟩)) [.int .i64 G]) H λd7 I=>A.ln d λJ=>A.loop (λt L j=>A.k4 L λb=>A.cd .lss b J (A.ix 4 d b 4 j λM=>A.ucI .i64 M λu N=>A.ucI .i64 N λw O=>A.ucI .u8 O λx P=>A.ucV P λk Q=>A.chk k (A.uc0 Q (A.chk (.func (.func 55) ⟨[]⟩ ⟨[.pointer (some ⟨e,0,none⟩)]⟩) (A.c1 28 [.v k,.v (.func (.func 55) ⟨[]⟩ ⟨[.pointer (some ⟨e,0,none⟩)]⟩)] j λS y=>A.c4 56 [.i u,.i w,.i x] S λc T=>A.cd .neq T 0 (K [.i 1] c) (A.cd .gtr b 0 (A.ps b 1 λU=>A.fx 4 d U 0 3 c λV=>A.k13 V λW X Y=>A.c4 33 [.i W,.i X,.i Y,.i u,.i w,.i x] c λl Z=>A.cd .geq Z 0 (K [.i 1] l) (A.ln k λa0=>A.cd .eql a0 0 (K [.i 1] l) (A.join (λa1 a2=>A.un0 a1 (A.pa b 1 λa3=>t [.i a3] a2)) λa4=>A.cond y (K [.i 1] l) (a4 [] l)))) (A.ln k λa5=>A.cd .eql a5 0 (K [.i 1] c) (A.join (λa6 a7=>A.un0 a6 (A.pa b 1 λa8=>t [.i a8] a7)) λa9=>A.cond y (K [.i 1] c) (a9 [] c)))))))) (A.peek (.lg cc 1 (.pointer (some ⟨e,0,none⟩))) j λb0=>A.k5 b0 λa=>A.opt (mkOk a a) λd8=>A.new (.cells (aD [.bool false] (Int.toNat a)) 1 true) j λz b1=>A.ln d λb2=>A.loop (λb3 b4 f=>A.k9 b4 λB m=>A.cd .lss m b2 (A.ix 4 d m 4 f λb5=>A.ucI .i64 b5 λd9 b6=>A.ucI .i64 b6 λe0 b7=>A.ucI .u8 b7 λe1 b8=>A.ucV b8 λn b9=>A.chk n (A.uc0 b9 (A.ln n λc0=>A.loop (λc2 c3 g=>A.k9 c3 λC o=>A.cd .lss o c0 (A.ix 1 n o 1 g λc5=>A.k5 c5 λD=>A.opt (idS 1 (.slice (some ⟨z,0,some 11⟩) (Int.toNat a) ((Int.toNat a)+1)) D) λc6=>A.peek (.lg cc 1 c6) g λc7=>A.ucB c7 λc8 c9=>A.uc0 c9 (A.cond c8 (K [.i 8] g) (A.opt (idS 1 (.slice (some ⟨z,0,some 11⟩) (Int.toNat a) ((Int.toNat a)+1)) D) λd0=>A.heap (.st d0 [.bool true]) g λe2 d1=>A.pa C 1 λd2=>A.pa o 1 λd3=>c2 [.i d2,.i d3] d1))) (A.pa m 1 λd4=>b3 [.i C,.i d4] g)) [.i B,.i 0] f))) (A.peek (.lg cc 1 (.pointer (some ⟨e,0,none⟩))) f λd5=>A.k5 d5 λd6=>A.cd .lss B d6 (K [.i 6] f) (K [.i 0] f))) [.i 0,.i 0] b1)) [.i 0] I)
def f28:R:=A.unV ls λa c=>A.k0 c λd=>A.c4 57 [.v a,.v d] h λe f=>A.cmp .geq f 0 λg=>K [.b g] e
def f29:R:=A.unI ls λd e=>A.unV e λf g=>A.k0 g λj=>A.peek (.lg cc 1 f) h λk=>A.ucV k λa l=>A.chk a (A.uc0 l (A.ix 3 a d 3 h λm=>A.k13 m λn o p=>A.opt (fdP 0 j) λc=>A.chk c (A.peek (.lg cc 3 c) h λq=>A.k13 q λr s t=>A.eqs [(.i n,.i r),(.i o,.i s),(.i p,.i t)] λu=>K [.b (!u)] h)))
def f30:R:=A.k11 ls λd e a b=>A.c4 56 [.i d,.i e,.i a] h λc l=>A.cd .neq l 0 (K [.i 0,.i 0,.i 0,.i 1] c) (A.cd .gtr b 2 (K [.i 0,.i 0,.i 0,.i 1] c) (A.opt (inB 4 a) λq=>A.opt (inB 3 b) λr=>A.opt (mf gl0 4 [(a,17),(b,3)] 3) λm=>A.k13 m λn o f=>A.pa n d λg=>A.pa o e λj=>A.c4 56 [.i g,.i j,.i f] c λk p=>A.cd .neq p 0 (K [.i 0,.i 0,.i 0,.i 3] k) (K [.i g,.i j,.i f,.i 0] k)))
def f31:R:=A.k2 ls λd e g n o p q=>A.c4 11 [.i d,.i e,.v g,.i n,.i o,.i p,.v q] h λy z=>A.cd .neq z 0 (K [.v (.slice none 0 0),.i z] y) (A.c4 54 [.i d,.i e] y λa5 b=>A.opt (mkOk b b) λj1=>A.new (.cells (aD [.int .i64 0] (Int.toNat b)) 1 true) a5 λB a6=>A.new (.map [] 0) a6 λC a7=>A.new (.cells [.int .i64 d,.int .i64 e,g,.slice none 0 0,.slice none 0 0,.slice (some ⟨B,0,some 11⟩) (Int.toNat b) ((Int.toNat b)+1),.map (some C),.slice none 0 0] 8 true) a7 λa a8=>A.opt (Sx.sepL [(.slice (some ⟨B,0,some 11⟩) (Int.toNat b) ((Int.toNat b)+1),(0,.map (some C)))]) λj2=>A.call 58 [.i d,.i e,.v g,.i n,.i o,.i p] a8 λa9 b0=>A.k6 a9 λb1 j3=>A.opt (nilP (.pointer (some ⟨a,0,none⟩))) λD=>A.chk D (A.opt (fdP 3 D) λE=>A.chk E (A.heap (.st E [b1]) b0 λj4 b2=>A.call 26 [.i d,.i e,.v g,.i n,.i o,.i p] b2 λb3 b4=>A.k6 b3 λb5 j5=>A.opt (nilP (.pointer (some ⟨a,0,none⟩))) λF=>A.chk F (A.opt (fdP 4 F) λG=>A.chk G (A.heap (.st G [b5]) b4 λj6 b6=>A.ln q λb7=>A.loop (λb8 b9 j=>A.k4 b9 λr=>A.cd .lss r b7 (A.ix 4 q r 4 j λc0=>A.ucI .i64 c0 λj7 c1=>A.ucI .i64 c1 λj8 c2=>A.ucI .u8 c2 λj9 c3=>A.ucV c3 λs c5=>A.chk s (A.uc0 c5 (A.ln s λc6=>A.loop (λc7 c8 k=>A.k4 c8 λl=>A.cd .lss l c6 (A.ix 1 s l 1 k λc9=>A.k5 c9 λd0=>A.opt (nilP (.pointer (some ⟨a,0,none⟩))) λH=>A.chk H (A.opt (fdP 5 H) λI=>A.chk I (A.peek (.lg cc 1 I) k λd1=>A.ucV d1 λJ d2=>A.chk J (A.uc0 d2 (A.opt (idS 1 J d0) λd3=>A.heap (.st d3 [.int .i64 l]) k λk1 d4=>A.pa l 1 λd5=>c7 [.i d5] d4))))) (A.pa r 1 λd6=>b8 [.i d6] k)) [.i 0] j))) (A.opt (nilP (.pointer (some ⟨a,0,none⟩))) λL=>A.chk L (A.opt (fdP 5 L) λM=>A.chk M (A.peek (.lg cc 1 M) j λd7=>A.ucV d7 λN d8=>A.chk N (A.uc0 d8 (A.ln N λd9=>A.loop (λe0 e1 t=>A.k4 e1 λu=>A.cd .lss u d9 (A.loop (λe2 e3 O=>A.k4 e3 λw=>A.cd .lss w 3 (A.call 59 [.v (.pointer (some ⟨a,0,none⟩)),.i u,.i w] O λe4 e5=>A.un0 e4 (A.ari .add .u8 w 1 λe6=>e2 [.i e6] e5)) (A.pa u 1 λe7=>e0 [.i e7] O)) [.i 0] t) (A.opt (nilP (.pointer (some ⟨a,0,none⟩))) λP=>A.chk P (A.opt (fdP 7 P) λQ=>A.chk Q (A.peek (.lg cc 1 Q) t λe8=>A.ucV e8 λS e9=>A.chk S (A.uc0 e9 (A.call 60 [.v S,.v (.func (.func 61) ⟨[]⟩ ⟨[]⟩)] t λf0 T=>A.un0 f0 (A.opt (nilP (.pointer (some ⟨a,0,none⟩))) λU=>A.chk U (A.opt (fdP 7 U) λV=>A.chk V (A.peek (.lg cc 1 V) T λf1=>A.ucV f1 λW f2=>A.chk W (A.uc0 f2 (A.ln W λc=>A.opt (mkOk c c) λk3=>A.new (.cells (aD [.int .i64 0,.int .i64 0,.int .u8 0,.int .i64 0,.int .i64 0,.int .u8 0,.slice none 0 0,.slice none 0 0,.slice none 0 0] (Int.toNat c)) 9 true) T λX Y=>A.opt (nilP (.pointer (some ⟨a,0,none⟩))) λZ=>A.chk Z (A.opt (fdP 7 Z) λa0=>A.chk a0 (A.peek (.lg cc 1 a0) Y λf3=>A.ucV f3 λx f4=>A.chk x (A.uc0 f4 (A.ln x λf5=>A.loop (λf6 f7 f=>A.k4 f7 λm=>A.cd .lss m f5 (A.ix 6 x m 6 f λf8=>A.k16 f8 λf9 g0 g1 g2 g3 g4=>A.opt (nilP (.pointer (some ⟨a,0,none⟩))) λa1=>A.chk a1 (A.opt (fdP 6 a1) λa2=>A.chk a2 (A.peek (.lg cc 1 a2) f λg5=>A.ucV g5 λa3 g6=>A.chk a3 (A.uc0 g6 (A.peek (.fn (luG cc 143 false (.pointer none) a3 (.agg ⟨[.int .i64 f9,.int .i64 g0,.int .u8 g1,.int .i64 g2,.int .i64 g3,.int .u8 g4]⟩) false)) f λg7=>A.ucV g7 λa4 g8=>A.chk a4 (A.uc0 g8 (A.call 63 [.v (.pointer (some ⟨a,0,none⟩)),.v a4] f λg9 h0=>A.unI g9 λh1 h2=>A.unI h2 λh3 h4=>A.unI h4 λh5 h6=>A.unI h6 λh7 h8=>A.unI h8 λh9 i0=>A.unI i0 λi1 i2=>A.unV i2 λi3 i4=>A.unV i4 λi5 i6=>A.k0 i6 λi7=>A.opt (idS 9 (.slice (some ⟨X,0,some 19⟩) (Int.toNat c) ((Int.toNat c)+1)) m) λi8=>A.heap (.st i8 [.int .i64 h1,.int .i64 h3,.int .u8 h5,.int .i64 h7,.int .i64 h9,.int .u8 i1,i3,i5,i7]) h0 λk7 i9=>A.pa m 1 λj0=>f6 [.i j0] i9))))))) (K [.v (.slice (some ⟨X,0,some 19⟩) (Int.toNat c) ((Int.toNat c)+1)),.i 0] f)) [.i 0] Y))))))))))))))) [.i 0] j)))))) [.i 0] b6)))))
def f32:R:=A.k14 ls λc d e f g j=>A.c4 56 [.i c,.i d,.i e] h λk o=>A.cd .neq o 0 (K [.i 0,.i 1] k) (A.c4 56 [.i f,.i g,.i j] k λl p=>A.cd .neq p 0 (K [.i 0,.i 1] l) (A.loop (λm q n=>A.k4 q λa=>A.cd .lss a 3 (A.c11 30 [.i c,.i d,.i e,.i a] n λb r s t u=>A.cd .eql u 0 (A.eqs [(.i r,.i f),(.i s,.i g),(.i t,.i j)] λv=>A.join (λw x=>A.un0 w (A.ari .add .u8 a 1 λy=>m [.i y] x)) λz=>A.cond v (K [.i a,.i 0] b) (z [] b)) (A.ari .add .u8 a 1 λB=>m [.i B] b)) (K [.i 0,.i 7] n)) [.i 0] l))
def f33:R:=A.k14 ls λa b c d e f=>A.ci c λg=>A.ci f λj=>A.new (.cells [.int .i64 b,.int .i64 e,.int .i64 a,.int .i64 d,.int .i64 g,.int .i64 j] 2 true) h λk l=>A.c4 64 [.v (.slice (some ⟨k,0,some 12⟩) 3 4)] l λm n=>K [.i n] m
def f34:R:=A.k9 ls λb a=>A.cd .eql b 1 (A.pm 2 a λc=>K [.i 4,.i c,.i 0] h) (A.cd .eql b 2 (A.pm 2 a λd=>K [.i 6,.i 0,.i d] h) (A.cd .eql b 3 (K [.i 5,.i a,.i a] h) (A.ps 0 a λe=>K [.i 7,.i e,.i a] h)))
def f35:R:=A.unI ls λd e=>A.k11 e λf g j k=>A.c9 49 [.i g,.i j,.i k] h λl a b=>A.pa a b λm=>A.ps b a λn=>A.new (.cells [.int .i64 0,.int .i64 a,.int .i64 b,.int .i64 m,.int .i64 n] 1 true) l λo c=>A.opt (idS 1 (.slice (some ⟨o,0,some 11⟩) 5 6) d) λp=>A.peek (.lg cc 1 p) c λq=>A.k5 q λr=>A.pm 6 f λs=>A.cd .lss r s (K [.i 0] c) (K [.i 1] c)
def f36:R:=A.k0 ls λl=>A.new (.cells [] 4 true) h λm n=>A.heap (.ap cc 4 48 (.slice (some ⟨m,0,some 14⟩) 0 1) l) n λo p=>A.ucV o λa q=>A.chk a (A.uc0 q (A.loop (λr s f=>A.k4 s λe=>A.ln a λt=>A.cd .lss e t (A.join (λu w=>A.un0 u (A.pa e 1 λx=>r [.i x] w)) λg=>A.loop (λy z c=>A.k4 z λb=>A.cd .gtr b 0 (A.ps b 1 λB=>A.fx 4 a B 0 3 c λC=>A.k13 C λD E F=>A.fx 4 a b 0 3 c λG=>A.k13 G λH I J=>A.c4 65 [.i D,.i E,.i F,.i H,.i I,.i J] c λd L=>A.cd .eql L 1 (A.ps b 1 λM=>A.ix 4 a b 4 d λN=>A.ucI .i64 N λO P=>A.ucI .i64 P λQ S=>A.ucI .u8 S λT U=>A.ucV U λj V=>A.chk j (A.uc0 V (A.ps b 1 λW=>A.ix 4 a W 4 d λX=>A.ucI .i64 X λY Z=>A.ucI .i64 Z λa0 a1=>A.ucI .u8 a1 λa2 a3=>A.ucV a3 λk a4=>A.chk k (A.uc0 a4 (A.opt (idS 4 a M) λa5=>A.heap (.st a5 [.int .i64 O,.int .i64 Q,.int .u8 T,j]) d λb0 a6=>A.opt (idS 4 a b) λa7=>A.heap (.st a7 [.int .i64 Y,.int .i64 a0,.int .u8 a2,k]) a6 λb1 a8=>A.ps b 1 λa9=>y [.i a9] a8))))) (g [] d)) (g [] c)) [.i e] f) (K [.v a] f)) [.i 1] p))
def f37:R:=A.k2 ls λb c l r s t c2=>A.call 9 [.i b,.i c,.v l,.i r,.i s,.i t] h λu w=>A.k6 u λj c3=>A.c0 17 [.i b,.i c,.v l] w λx y=>A.loop (λz B m=>A.k6 B λn a=>A.ln j λC=>A.cd .lss a C (A.loop (λD E o=>A.k6 E λe f=>A.cd .lss f 3 (A.join (λF G=>A.k0 F λH=>A.pa f 1 λI=>D [.v H,.i I] G) λk=>A.c4 6 [.i b,.i c,.i a,.i f] o λd g=>A.cd .lss g a (k [.v e] d) (A.pm 3 a λJ=>A.pa J f λL=>A.ix 1 y L 1 d λM=>A.k3 M λN=>A.cd .neq N 0 (k [.v e] d) (A.ix 3 j a 3 d λO=>A.k8 O λP Q S=>A.c10 15 [.i b,.i c,.i a] d λT U V W=>A.c10 21 [.i P,.i Q,.i S,.i U,.i V,.i W] T λp X Y Z=>A.ix 3 j g 3 p λa0=>A.k8 a0 λa1 a2 a3=>A.c10 15 [.i b,.i c,.i g] p λa4 a5 a6 a7=>A.c10 21 [.i a1,.i a2,.i a3,.i a5,.i a6,.i a7] a4 λa8 a9 b0 b1=>A.c9 66 [.i X,.i Y,.i Z,.i a9,.i b0,.i b1] a8 λb2 b3 b4=>A.new (.cells [.int .i64 a,.int .i64 g,.int .u8 b3,.int .i64 b4] 4 true) b2 λb5 b6=>A.heap (.ap cc 4 32 e (.slice (some ⟨b5,0,some 14⟩) 1 2)) b6 λb7 b8=>A.ucV b7 λq b9=>A.chk q (A.uc0 b9 (k [.v q] b8))))) (A.pa a 1 λc1=>z [.v e,.i c1] o)) [.v n,.i 0] m) (K [.v n] m)) [.v (.slice none 0 0),.i 0] x
def f38:R:=A.unV ls λc e=>A.k10 e λf g j=>A.ln c λk=>A.loop (λl m a=>A.k4 m λb=>A.cd .lss b k (A.ix 4 c b 4 a λn=>A.ucI .i64 n λo p=>A.ucI .i64 p λq r=>A.ucI .u8 r λs t=>A.ucV t λd u=>A.chk d (A.uc0 u (A.eqs [(.i o,.i f),(.i q,.i g),(.i s,.i j)] λw=>A.cond w (A.c0 68 [.v d] a λx y=>A.c0 67 [.v y] x λz B=>K [.v B] z) (A.pa b 1 λC=>l [.i C] a)))) (K [.v (.slice none 0 0)] a)) [.i 0] h
def f39:R:=A.unI ls λd4 u=>A.unI u λd5 w=>A.unI w λd6 x=>A.unI x λd7 y=>A.unI y λd8 z=>A.unI z λd9 B=>A.unV B λn C=>A.unV C λo D=>A.unV D λe0 E=>A.unI E λg F=>A.k0 F λG=>A.new (.cells [G] 1 true) h λd H=>A.new (.cells [.bool false] 1 true) H λa I=>A.heap (.st (.pointer (some ⟨a,0,none⟩)) [.bool true]) I λe1 J=>A.chk (.func (.func 69) ⟨[]⟩ ⟨[.pointer (some ⟨d,0,none⟩),.pointer (some ⟨a,0,none⟩)]⟩) (A.ln n λL=>A.loop (λM N j=>A.k6 N λp k=>A.cd .lss k L (A.ix 2 n k 2 j λO=>A.k7 O λP Q=>A.opt (inB 2 g) λe2=>A.opt (mR [.i P,.i Q] 0 [(g,1)] 1) λS=>A.k4 S λT=>A.callv (.func (.func 69) ⟨[]⟩ ⟨[.pointer (some ⟨d,0,none⟩),.pointer (some ⟨a,0,none⟩)]⟩) [.int .i64 T] [.leaf (.i .i64)] j λU V=>A.k4 U λW=>A.new (.cells [.int .i64 W] 1 true) V λX Y=>A.heap (.ap cc 1 8 p (.slice (some ⟨X,0,some 11⟩) 1 2)) Y λZ a0=>A.ucV Z λq a1=>A.chk q (A.uc0 a1 (A.pa k 1 λa2=>M [.v q,.i a2] a0))) (A.ln o λa3=>A.loop (λa4 a5 c=>A.k6 a5 λl m=>A.cd .lss m a3 (A.ix 3 o m 3 c λa6=>A.k8 a6 λa7 a8 a9=>A.cmp .eql a7 g λb0=>A.join (λb1 b2=>A.k0 b1 λb3=>A.pa m 1 λb4=>a4 [.v b3,.i b4] b2) λr=>A.cond b0 (A.callv (.func (.func 69) ⟨[]⟩ ⟨[.pointer (some ⟨d,0,none⟩),.pointer (some ⟨a,0,none⟩)]⟩) [.int .i64 a8] [.leaf (.i .i64)] c λb5 b6=>A.k4 b5 λe=>A.callv (.func (.func 69) ⟨[]⟩ ⟨[.pointer (some ⟨d,0,none⟩),.pointer (some ⟨a,0,none⟩)]⟩) [.int .i64 a9] [.leaf (.i .i64)] b6 λb7 b8=>A.k4 b7 λf=>A.cmp .lss f e λb9=>A.sel b9 f e λc0=>A.cmp .lss e f λc1=>A.sel c1 f e λc2=>A.new (.cells [.int .i64 c0,.int .i64 c2] 2 true) b8 λc3 c4=>A.heap (.ap cc 2 16 l (.slice (some ⟨c3,0,some 12⟩) 1 2)) c4 λc5 c6=>A.ucV c5 λs c7=>A.chk s (A.uc0 c7 (r [.v s] c6))) (r [.v l] c)) (A.peek (.lg cc 1 (.pointer (some ⟨a,0,none⟩))) c λc8=>A.ucB c8 λc9 d0=>A.uc0 d0 (A.heap (.st (.pointer (some ⟨a,0,none⟩)) [.bool c9]) c λe3 t=>A.peek (.ld 1 (.pointer (some ⟨a,0,none⟩))) t λd1=>A.ucB d1 λd2 d3=>A.uc0 d3 (K [.v l,.v p,.b d2] t)))) [.v (.slice none 0 0),.i 0] j)) [.v (.slice none 0 0),.i 0] J)
def f40:R:=A.unV ls λa c=>A.k0 c λd=>A.c4 71 [.v a,.v d] h λe f=>A.cmp .geq f 0 λg=>K [.b g] e
def f41:R:=A.k10 ls λa d e=>A.cmp .gtr a 1 λc=>K [.b c] h
def f42:R:=A.k9 ls λb c=>A.c1 72 [.i b] h λe f=>A.c1 72 [.i c] e λa d=>A.cond f (A.cond d (K [.i 0] a) (K [.i (-1)] a)) (A.cond d (K [.i 1] a) (A.cd .lss b c (K [.i (-1)] a) (A.cd .gtr b c (K [.i 1] a) (K [.i 0] a))))
def f43:R:=A.k11 ls λe f g c=>A.cd .eql c 0 (K [.i 0] h) (A.c10 15 [.i e,.i f,.i g] h λa o p d=>A.cd .eql d 0 (A.cmp .eql c 1 λj=>A.eqs [(.b true,.b j)] λk=>A.cond k (K [.i 1] a) (K [.i 2] a)) (A.cmp .eql d 2 λl=>A.cmp .eql c 1 λm=>A.eqs [(.b l,.b m)] λn=>A.cond n (K [.i 1] a) (K [.i 2] a)))
def f44:R:=A.unI ls λa j=>A.k11 j λk l b m=>A.cmp .geq a 4 λn=>A.join (λo p=>A.k4 o λq=>A.loop (λr s c=>A.k10 s λd e f=>A.ari .rem .u8 a 4 λt=>A.ci t λu=>A.cd .lss f u (A.ps 0 e λv=>A.pa f 1 λw=>r [.i v,.i d,.i w] c) (A.pm 6 k λx=>A.pa d x λy=>A.pm 6 l λz=>A.pa e z λB=>K [.i y,.i B] c)) [.i q,.i m,.i 0] p) λg=>A.cond n (A.ps 0 b λC=>g [.i C] h) (g [.i b] h)
def f45:R:=A.k9 ls λa b=>A.cd .lss a 0 (A.ps 0 a λc=>A.pa c b λd=>A.ps d 1 λe=>A.pq e b λf=>A.ps 0 f λg=>K [.i g] h) (A.pq a b λj=>K [.i j] h)
def f46:R:=A.k9 ls λa b=>A.cd .gtr a b (K [.i a] h) (K [.i b] h)
def f47:R:=A.k14 ls λa b e c d f=>A.cd .lss b d (K [.i 1] h) (A.cd .eql b d (A.cd .lss a c (K [.i 1] h) (A.cd .eql a c (A.cmp .lss e f λg=>A.join (λj k=>A.un0 j (K [.i 0] k)) λl=>A.cond g (K [.i 1] h) (l [] h)) (K [.i 0] h))) (K [.i 0] h))
def f48:R:=A.k9 ls λf g=>A.c4 45 [.i f,.i 6] h λo a=>A.c4 45 [.i g,.i 6] o λc b=>A.pm 6 a λp=>A.ps f p λd=>A.pm 6 b λq=>A.ps g q λe=>A.cd .lss e d (A.pa d e λr=>A.cmp .lss r 6 λs=>A.join (λt u=>A.k10 t λv w x=>K [.i v,.i w,.i x] u) λj=>A.cond s (j [.i a,.i b,.i 0] c) (A.cmp .lss e d λy=>A.join (λz B=>A.k10 z λC D E=>j [.i C,.i D,.i E] B) λk=>A.cond y (k [.i a,.i b,.i 1] c) (A.pa d e λF=>A.cmp .gtr F 6 λG=>A.join (λH I=>A.k10 H λJ L M=>k [.i J,.i L,.i M] I) λl=>A.cond G (l [.i a,.i b,.i 2] c) (l [.i a,.i b,.i 3] c)))) (A.cmp .lss e d λN=>A.join (λO P=>A.k10 O λQ S T=>K [.i Q,.i S,.i T] P) λm=>A.cond N (m [.i a,.i b,.i 1] c) (A.pa d e λU=>A.cmp .gtr U 6 λV=>A.join (λW X=>A.k10 W λY Z a0=>m [.i Y,.i Z,.i a0] X) λn=>A.cond V (n [.i a,.i b,.i 2] c) (n [.i a,.i b,.i 3] c)))
def f49:R:=A.k10 ls λa b c=>A.call 73 [.i a,.i b,.i c] h λd e=>A.k14 d λf g j k l m=>A.pa f j λn=>A.pa n l λo=>A.pq o 3 λp=>A.pa g k λq=>A.pa q m λr=>A.pq r 3 λs=>K [.i p,.i s] e
def f50:R:=A.unV ls λc e=>A.k10 e λf g j=>A.loop (λk l a=>A.k4 l λb=>A.ln c λm=>A.cd .lss b m (A.fx 4 c b 0 3 a λn=>A.k13 n λo p q=>A.eqs [(.i o,.i f),(.i p,.i g),(.i q,.i j)] λr=>A.cond r (A.fx 4 c b 3 1 a λs=>A.ucV s λd t=>A.chk d (A.uc0 t (K [.v d] a))) (A.pa b 1 λu=>k [.i u] a)) (K [.v (.slice none 0 0)] a)) [.i 0] h
def f51:R:=A.k6 ls λc d=>A.loop (λe f a=>A.k4 f λb=>A.ln c λg=>A.cd .lss b g (A.fx 3 c b 0 1 a λj=>A.k5 j λk=>A.cd .eql k d (K [.i b] a) (A.pa b 1 λl=>e [.i l] a)) (K [.i (-1)] a)) [.i 0] h
def f52:R:=A.unI ls λd x=>A.unI x λe y=>A.unV y λj z=>A.k10 z λk l m=>A.c4 74 [.i d,.i e,.v j] h λn o=>A.cd .neq o 0 (K [.v (.slice none 0 0),.v (.slice none 0 0),.i o] n) (A.c4 75 [.i k,.i l,.i m] n λp B=>A.cd .neq B 0 (K [.v (.slice none 0 0),.v (.slice none 0 0),.i 1] p) (A.call 76 [.i d,.i e,.v j] p λC q=>A.k6 C λc r=>A.cd .neq r 0 (K [.v (.slice none 0 0),.v (.slice none 0 0),.i r] q) (A.ln c λa=>A.opt (mkOk a a) λa6=>A.new (.cells (aD [.int .i64 0,.int .i64 0,.int .u8 0] (Int.toNat a)) 3 true) q λs D=>A.ln c λE=>A.loop (λF G f=>A.k4 G λb=>A.cd .lss b E (A.ix 3 c b 3 f λH=>A.k8 H λI J L=>A.c11 77 [.i d,.i e,.i b] f λM N O P a7=>A.c11 78 [.i I,.i J,.i L,.i k,.i l,.i m] M λQ S T U t=>A.opt (idS 3 c b) λV=>A.heap (.st V [.int .u8 S,.int .i64 T,.int .i64 U]) Q λa8 g=>A.cd .neq t 0 (K [.v (.slice none 0 0),.v (.slice none 0 0),.i t] g) (A.ix 3 c b 3 g λW=>A.k8 W λX Y Z=>A.c11 79 [.i X,.i Y,.i Z,.i N,.i O,.i P] g λa0 a1 a2 a3 u=>A.opt (idS 3 (.slice (some ⟨s,0,some 13⟩) (Int.toNat a) ((Int.toNat a)+1)) b) λa4=>A.heap (.st a4 [.int .i64 a1,.int .i64 a2,.int .u8 a3]) a0 λa9 w=>A.cd .neq u 0 (K [.v (.slice none 0 0),.v (.slice none 0 0),.i u] w) (A.pa b 1 λa5=>F [.i a5] w))) (K [.v c,.v (.slice (some ⟨s,0,some 13⟩) (Int.toNat a) ((Int.toNat a)+1)),.i 0] f)) [.i 0] D)))
def f53:R:=A.k9 ls λa b=>A.cd .lss a 1 (K [.i 1] h) (A.cd .lss b 1 (K [.i 1] h) (A.cd .gtr a 256 (K [.i 1] h) (A.cd .gtr b 256 (K [.i 1] h) (A.pm a b λc=>A.cd .gtr c 256 (K [.i 1] h) (K [.i 0] h)))))
def f54:R:=A.k9 ls λa b=>A.c4 53 [.i a,.i b] h λc d=>A.cd .neq d 0 (K [.i 0] c) (A.pm 4 a λe=>A.pm e b λf=>K [.i f] c)
def f55:R:=A.unI ls λa d=>A.k0 d λe=>A.join (λf g=>A.k1 f λi=>K [.b i] g) λc=>A.cd .lss a 0 (c [.b true] h) (A.peek (.lg cc 1 e) h λj=>A.k5 j λk=>A.cmp .geq a k λl=>c [.b l] h)
def f56:R:=A.k10 ls λa b c=>A.cd .lss a (-4096) (K [.i 1] h) (A.cd .gtr a 4096 (K [.i 1] h) (A.cd .lss b (-4096) (K [.i 1] h) (A.cd .gtr b 4096 (K [.i 1] h) (A.cd .gtr c 3 (K [.i 1] h) (K [.i 0] h)))))
def f57:R:=A.unV ls λd f=>A.k0 f λg=>A.ln d λj=>A.loop (λk l c=>A.k4 l λa=>A.cd .lss a j (A.ix 1 d a 1 c λm=>A.k5 m λn=>A.callv g [.int .i64 n] [.leaf .b] c λo e=>A.k1 o λp=>A.cond p (K [.i a] e) (A.pa a 1 λq=>k [.i q] e)) (K [.i (-1)] c)) [.i 0] h
def f58:R:=A.unI ls λa b=>A.unI b λc d=>A.unV d λe f=>A.k10 f λg j k=>A.call 52 [.i a,.i c,.v e,.i g,.i j,.i k] h λl m=>A.unV l λn o=>A.k6 o λq p=>K [.v n,.i p] m
def f59:R:=A.unV ls λd f5=>A.k9 f5 λb k=>A.opt (nilP d) λo=>A.chk o (A.opt (fdP 0 o) λp=>A.chk p (A.opt (fdP 0 p) λq=>A.chk q (A.peek (.lg cc 2 q) h λf6=>A.k7 f6 λf7 f8=>A.c11 77 [.i f7,.i f8,.i b] h λf9 g0 g1 g2 u3=>A.c11 30 [.i g0,.i g1,.i g2,.i k] f9 λl g3 g4 g5 u4=>A.opt (nilP d) λr=>A.chk r (A.opt (fdP 3 r) λs=>A.chk s (A.peek (.lg cc 1 s) l λg6=>A.ucV g6 λt g7=>A.chk t (A.uc0 g7 (A.ix 3 t b 3 l λg8=>A.k8 g8 λg9 h0 h1=>A.c11 79 [.i g9,.i h0,.i h1,.i g3,.i g4,.i g5] l λm h2 h3 h4 u5=>A.opt (nilP d) λu=>A.chk u (A.opt (fdP 4 u) λw=>A.chk w (A.peek (.lg cc 1 w) m λh5=>A.ucV h5 λx h6=>A.chk x (A.uc0 h6 (A.ix 3 x b 3 m λh7=>A.k13 h7 λh8 h9 i0=>A.c0 80 [.v d,.i h8,.i h9,.i i0,.i h2,.i h3,.i h4] m λy c=>A.opt (nilP d) λz=>A.chk z (A.opt (fdP 0 z) λB=>A.chk B (A.opt (fdP 0 B) λC=>A.chk C (A.peek (.lg cc 2 C) y λi1=>A.k7 i1 λi2 i3=>A.c9 81 [.i i2,.i i3,.i b,.i k] y λf e i4=>A.cd .neq i4 0 (A.opt (nilP c) λD=>A.chk D (A.opt (fdP 8 D) λE=>A.chk E (A.peek (.lg cc 1 E) f λi5=>A.ucV i5 λF i6=>A.chk F (A.uc0 i6 (A.new (.cells [.int .i64 b] 1 true) f λi7 i8=>A.heap (.ap cc 1 8 F (.slice (some ⟨i7,0,some 11⟩) 1 2)) i8 λi9 j0=>A.ucV i9 λG j1=>A.chk G (A.uc0 j1 (A.opt (nilP c) λH=>A.chk H (A.opt (fdP 8 H) λI=>A.chk I (A.heap (.st I [G]) j0 λu6 j2=>K [] j2))))))))) (A.cd .lss e b (K [] f) (A.opt (nilP d) λJ=>A.chk J (A.opt (fdP 0 J) λL=>A.chk L (A.peek (.lg cc 3 L) f λj3=>A.ucI .i64 j3 λj4 j5=>A.ucI .i64 j5 λj6 j7=>A.ucV j7 λM j8=>A.chk M (A.uc0 j8 (A.c9 82 [.i j4,.i j6,.v M,.i b,.i k] f λg n u7=>A.opt (nilP d) λN=>A.chk N (A.opt (fdP 4 N) λO=>A.chk O (A.peek (.lg cc 1 O) g λj9=>A.ucV j9 λP k0=>A.chk P (A.uc0 k0 (A.ix 3 P b 3 g λk1=>A.k13 k1 λk2 k3 k6=>A.opt (nilP c) λQ=>A.chk Q (A.opt (fdP 3 Q) λS=>A.chk S (A.peek (.lg cc 3 S) g λl0=>A.k13 l0 λl1 l2 l3=>A.eqs [(.i k2,.i l1),(.i k3,.i l2),(.i k6,.i l3)] λl4=>A.join (λl5 a=>A.k4 l5 λj=>A.cd .eql n 0 (A.cmp .eql j 0 λl6=>A.join (λl7 l8=>A.un0 l7 (K [] l8)) λT=>A.cond l6 (A.opt (nilP c) λU=>A.chk U (A.opt (fdP 6 U) λV=>A.chk V (A.peek (.lg cc 1 V) a λl9=>A.ucV l9 λW m0=>A.chk W (A.uc0 m0 (A.new (.cells [.int .i64 b,.int .i64 e] 2 true) a λm1 m2=>A.heap (.ap cc 2 16 W (.slice (some ⟨m1,0,some 12⟩) 1 2)) m2 λm3 m4=>A.ucV m3 λX m5=>A.chk X (A.uc0 m5 (A.opt (nilP c) λY=>A.chk Y (A.opt (fdP 6 Y) λZ=>A.chk Z (A.heap (.st Z [X]) m4 λu9 m6=>T [] m6))))))))) (A.cmp .eql n 0 λm7=>A.join (λm8 m9=>A.un0 m8 (T [] m9)) λa0=>A.cond m7 (A.opt (nilP c) λa1=>A.chk a1 (A.opt (fdP 6 a1) λa2=>A.chk a2 (A.peek (.lg cc 1 a2) a λn0=>A.ucV n0 λa3 n1=>A.chk a3 (A.uc0 n1 (A.new (.cells [.int .i64 e,.int .i64 b] 2 true) a λn2 n3=>A.heap (.ap cc 2 16 a3 (.slice (some ⟨n2,0,some 12⟩) 1 2)) n3 λn4 n5=>A.ucV n4 λa4 n6=>A.chk a4 (A.uc0 n6 (A.opt (nilP c) λa5=>A.chk a5 (A.opt (fdP 6 a5) λa6=>A.chk a6 (A.heap (.st a6 [a4]) n5 λv0 n7=>a0 [] n7))))))))) (A.opt (nilP d) λa7=>A.chk a7 (A.opt (fdP 5 a7) λa8=>A.chk a8 (A.peek (.lg cc 1 a8) a λn8=>A.ucV n8 λa9 n9=>A.chk a9 (A.uc0 n9 (A.ix 1 a9 b 1 a λo0=>A.k5 o0 λo1=>A.opt (nilP d) λb0=>A.chk b0 (A.opt (fdP 5 b0) λb1=>A.chk b1 (A.peek (.lg cc 1 b1) a λo2=>A.ucV o2 λb2 o3=>A.chk b2 (A.uc0 o3 (A.ix 1 b2 e 1 a λo4=>A.k5 o4 λo5=>A.cmp .lss o1 o5 λo6=>A.join (λo7 o8=>A.un0 o7 (a0 [] o8)) λb3=>A.cond o6 (A.opt (nilP c) λb4=>A.chk b4 (A.opt (fdP 7 b4) λb5=>A.chk b5 (A.peek (.lg cc 1 b5) a λo9=>A.ucV o9 λb6 p0=>A.chk b6 (A.uc0 p0 (A.new (.cells [.int .u8 j,.int .i64 b,.int .i64 e] 3 true) a λp1 p2=>A.heap (.ap cc 3 24 b6 (.slice (some ⟨p1,0,some 13⟩) 1 2)) p2 λp3 p4=>A.ucV p3 λb7 p5=>A.chk b7 (A.uc0 p5 (A.opt (nilP c) λb8=>A.chk b8 (A.opt (fdP 7 b8) λb9=>A.chk b9 (A.heap (.st b9 [b7]) p4 λv1 p6=>b3 [] p6))))))))) (A.opt (nilP c) λc1=>A.chk c1 (A.opt (fdP 7 c1) λc2=>A.chk c2 (A.peek (.lg cc 1 c2) a λp7=>A.ucV p7 λc3 p8=>A.chk c3 (A.uc0 p8 (A.new (.cells [.int .u8 j,.int .i64 e,.int .i64 b] 3 true) a λp9 q0=>A.heap (.ap cc 3 24 c3 (.slice (some ⟨p9,0,some 13⟩) 1 2)) q0 λq1 q2=>A.ucV q1 λc4 q3=>A.chk c4 (A.uc0 q3 (A.opt (nilP c) λc5=>A.chk c5 (A.opt (fdP 7 c5) λc6=>A.chk c6 (A.heap (.st c6 [c4]) q2 λv2 q4=>b3 [] q4)))))))))))))))))))) (A.cmp .eql n 0 λq5=>A.join (λq6 q7=>A.un0 q6 (K [] q7)) λc7=>A.cond q5 (A.opt (nilP c) λc8=>A.chk c8 (A.opt (fdP 6 c8) λd0=>A.chk d0 (A.peek (.lg cc 1 d0) a λq8=>A.ucV q8 λd1 q9=>A.chk d1 (A.uc0 q9 (A.new (.cells [.int .i64 e,.int .i64 b] 2 true) a λr0 r1=>A.heap (.ap cc 2 16 d1 (.slice (some ⟨r0,0,some 12⟩) 1 2)) r1 λr2 r3=>A.ucV r2 λd2 r4=>A.chk d2 (A.uc0 r4 (A.opt (nilP c) λd3=>A.chk d3 (A.opt (fdP 6 d3) λd4=>A.chk d4 (A.heap (.st d4 [d2]) r3 λv3 r5=>c7 [] r5))))))))) (A.opt (nilP d) λd5=>A.chk d5 (A.opt (fdP 5 d5) λd6=>A.chk d6 (A.peek (.lg cc 1 d6) a λr6=>A.ucV r6 λd7 r7=>A.chk d7 (A.uc0 r7 (A.ix 1 d7 b 1 a λr8=>A.k5 r8 λr9=>A.opt (nilP d) λd8=>A.chk d8 (A.opt (fdP 5 d8) λd9=>A.chk d9 (A.peek (.lg cc 1 d9) a λs0=>A.ucV s0 λe0 s1=>A.chk e0 (A.uc0 s1 (A.ix 1 e0 e 1 a λs2=>A.k5 s2 λs3=>A.cmp .lss r9 s3 λs4=>A.join (λs5 s6=>A.un0 s5 (c7 [] s6)) λe1=>A.cond s4 (A.opt (nilP c) λe2=>A.chk e2 (A.opt (fdP 7 e2) λe3=>A.chk e3 (A.peek (.lg cc 1 e3) a λs7=>A.ucV s7 λe4 s8=>A.chk e4 (A.uc0 s8 (A.new (.cells [.int .u8 j,.int .i64 b,.int .i64 e] 3 true) a λs9 t0=>A.heap (.ap cc 3 24 e4 (.slice (some ⟨s9,0,some 13⟩) 1 2)) t0 λt1 t2=>A.ucV t1 λe5 t3=>A.chk e5 (A.uc0 t3 (A.opt (nilP c) λe6=>A.chk e6 (A.opt (fdP 7 e6) λe7=>A.chk e7 (A.heap (.st e7 [e5]) t2 λv4 t4=>e1 [] t4))))))))) (A.opt (nilP c) λe8=>A.chk e8 (A.opt (fdP 7 e8) λe9=>A.chk e9 (A.peek (.lg cc 1 e9) a λt5=>A.ucV t5 λf0 t6=>A.chk f0 (A.uc0 t6 (A.new (.cells [.int .u8 j,.int .i64 e,.int .i64 b] 3 true) a λt7 t8=>A.heap (.ap cc 3 24 f0 (.slice (some ⟨t7,0,some 13⟩) 1 2)) t8 λt9 u0=>A.ucV t9 λf1 u1=>A.chk f1 (A.uc0 u1 (A.opt (nilP c) λf2=>A.chk f2 (A.opt (fdP 7 f2) λf3=>A.chk f3 (A.heap (.st f3 [f1]) u0 λv5 u2=>e1 [] u2)))))))))))))))))))) λf4=>A.cond l4 (f4 [.i 1] g) (f4 [.i 0] g)))))))))))))))))))))))))))
def f60:R:=A.unV ls λa c=>A.k0 c λd=>A.ln a λb=>A.conv .u64 b λe=>A.c4 84 [.i e] h λf g=>A.call 83 [.v a,.i 0,.i b,.i g,.v d] f λj k=>A.un0 j (K [] k)
def f61:R:=A.unI ls λa b=>A.unI b λc d=>A.unI d λe f=>A.unI f λg j=>A.unI j λk l=>A.unI l λm n=>A.k14 n λo p q r s t=>A.c4 33 [.i a,.i c,.i e,.i o,.i p,.i q] h λu w=>A.c4 33 [.i g,.i k,.i m,.i r,.i s,.i t] u λx y=>A.new (.cells [.int .i64 w,.int .i64 y] 1 true) x λz B=>A.c4 62 [.v (.slice (some ⟨z,0,some 11⟩) 2 3)] B λC D=>K [.i D] C
def f62:R:=A.k0 ls λc=>A.ln c λe=>A.loop (λf g a=>A.k4 g λb=>A.cd .lss b e (A.ix 1 c b 1 a λj=>A.k5 j λd=>A.cd .neq d 0 (K [.i d] a) (A.pa b 1 λk=>f [.i k] a)) (K [.i 0] a)) [.i 0] h
def f63:R:=A.unV ls λW X=>A.k0 X λa=>A.new (.cells [W] 1 true) h λe w=>A.opt (nilP a) λx=>A.chk x (A.opt (fdP 6 x) λy=>A.chk y (A.peek (.lg cc 1 y) w λY=>A.ucV Y λz Z=>A.chk z (A.uc0 Z (A.chk (.func (.func 86) ⟨[]⟩ ⟨[.pointer (some ⟨e,0,none⟩)]⟩) (A.call 85 [.v z,.v (.func (.func 86) ⟨[]⟩ ⟨[.pointer (some ⟨e,0,none⟩)]⟩)] w λa0 B=>A.un0 a0 (A.opt (nilP a) λC=>A.chk C (A.opt (fdP 7 C) λD=>A.chk D (A.peek (.lg cc 1 D) B λa1=>A.ucV a1 λE a2=>A.chk E (A.uc0 a2 (A.chk (.func (.func 88) ⟨[]⟩ ⟨[.pointer (some ⟨e,0,none⟩)]⟩) (A.call 87 [.v E,.v (.func (.func 88) ⟨[]⟩ ⟨[.pointer (some ⟨e,0,none⟩)]⟩)] B λa3 F=>A.un0 a3 (A.opt (nilP a) λG=>A.chk G (A.opt (fdP 8 G) λH=>A.chk H (A.peek (.lg cc 1 H) F λa4=>A.ucV a4 λI a5=>A.chk I (A.uc0 a5 (A.call 90 [.v I] F λa6 b=>A.un0 a6 (A.opt (nilP a) λJ=>A.chk J (A.opt (fdP 0 J) λc=>A.chk c (A.peek (.lg cc 3 c) b λa7=>A.k13 a7 λf g j=>A.opt (nilP a) λL=>A.chk L (A.opt (fdP 3 L) λd=>A.chk d (A.peek (.lg cc 3 d) b λa8=>A.k13 a8 λk l m=>A.opt (nilP a) λM=>A.chk M (A.opt (fdP 6 M) λN=>A.chk N (A.peek (.lg cc 1 N) b λa9=>A.ucV a9 λO b0=>A.chk O (A.uc0 b0 (A.c0 92 [.v O] b λp b1=>A.c0 91 [.v b1] p λq b2=>A.opt (nilP a) λP=>A.chk P (A.opt (fdP 7 P) λr=>A.chk r (A.peek (.lg cc 1 r) q λb3=>A.ucV b3 λs b4=>A.chk s (A.uc0 b4 (A.c0 94 [.v s] q λt b5=>A.c0 93 [.v b5] t λQ b6=>A.opt (nilP a) λS=>A.chk S (A.opt (fdP 8 S) λn=>A.chk n (A.peek (.lg cc 1 n) Q λb7=>A.ucV b7 λo b8=>A.chk o (A.uc0 b8 (A.c0 68 [.v o] Q λu b9=>A.c0 67 [.v b9] u λc1 c2=>A.peek (.lg cc 3 c) p λc3=>A.k13 c3 λc4 c5 c6=>A.opt (Sx.eqIn f c4) λf3=>A.opt (Sx.eqIn g c5) λf4=>A.opt (Sx.eqIn j c6) λf5=>A.peek (.lg cc 3 d) p λc7=>A.k13 c7 λc8 c9 d0=>A.opt (Sx.eqIn k c8) λf6=>A.opt (Sx.eqIn l c9) λf7=>A.opt (Sx.eqIn m d0) λf8=>A.peek (.lg cc 1 r) b λd1=>A.ucV d1 λT d2=>A.chk T (A.uc0 d2 (A.opt (Sx.eqVl s T) λf9=>A.peek (.lg cc 3 c) t λd3=>A.k13 d3 λd4 d5 d6=>A.opt (Sx.eqIn f d4) λg0=>A.opt (Sx.eqIn g d5) λg1=>A.opt (Sx.eqIn j d6) λg2=>A.peek (.lg cc 3 d) t λd7=>A.k13 d7 λd8 d9 e0=>A.opt (Sx.eqIn k d8) λg3=>A.opt (Sx.eqIn l d9) λg4=>A.opt (Sx.eqIn m e0) λg5=>A.peek (.lg cc 1 n) b λe1=>A.ucV e1 λU e2=>A.chk U (A.uc0 e2 (A.opt (Sx.eqVl o U) λg6=>A.peek (.lg cc 1 n) q λe3=>A.ucV e3 λV e4=>A.chk V (A.uc0 e4 (A.opt (Sx.eqVl o V) λg7=>A.peek (.lg cc 3 c) u λe5=>A.k13 e5 λe6 e7 e8=>A.opt (Sx.eqIn f e6) λg8=>A.opt (Sx.eqIn g e7) λg9=>A.opt (Sx.eqIn j e8) λh0=>A.peek (.lg cc 3 d) u λe9=>A.k13 e9 λf0 f1 f2=>A.opt (Sx.eqIn k f0) λh1=>A.opt (Sx.eqIn l f1) λh2=>A.opt (Sx.eqIn m f2) λh3=>K [.i f,.i g,.i j,.i k,.i l,.i m,.v b2,.v b6,.v c2] c1)))))))))))))))))))))))))))))))))))))))
def f64:R:=A.k0 ls λc=>A.ln c λf=>A.loop (λg j a=>A.k4 j λb=>A.cd .lss b f (A.ix 2 c b 2 a λk=>A.k7 k λl m=>A.c4 42 [.i l,.i m] a λd e=>A.cd .neq e 0 (K [.i e] d) (A.pa b 1 λn=>g [.i n] d)) (K [.i 0] a)) [.i 0] h
def f65:R:=A.k14 ls λa b e c d f=>A.cd .gtr b d (K [.i 1] h) (A.cd .eql b d (A.cd .gtr a c (K [.i 1] h) (A.cd .eql a c (A.cmp .gtr e f λg=>A.join (λj k=>A.un0 j (K [.i 0] k)) λl=>A.cond g (K [.i 1] h) (l [] h)) (K [.i 0] h))) (K [.i 0] h))
def f66:R:=A.k14 ls λe f g j k l=>A.c10 19 [.i e,.i f,.i g,.i j,.i k,.i l] h λa b c d=>A.cd .eql b 4 (A.pq c 2 λm=>K [.i 1,.i m] a) (A.cd .eql b 6 (A.pq d 2 λn=>K [.i 2,.i n] a) (A.cd .eql b 5 (K [.i 3,.i c] a) (K [.i 4,.i d] a)))
def f67:R:=A.k0 ls λa=>A.ln a λc=>A.ln a λd=>A.opt (slS 1 a none (some c) (some d)) λb=>A.chk b (K [.v b] h)
def f68:R:=A.k0 ls λa=>A.opt (jR 1 a (.slice none 0 0)) λc=>A.cond c (K [.v (.slice none 0 0)] h) (A.new (.cells [] 1 true) h λd e=>A.heap (.ap cc 1 8 (.slice (some ⟨d,0,some 11⟩) 0 1) a) e λf g=>A.ucV f λb i=>A.chk b (A.uc0 i (K [.v b] g)))
def f69:R:=A.unI ls λf g=>A.unV g λj k=>A.k0 k λa=>A.peek (.lg cc 1 j) h λl=>A.ucV l λc m=>A.chk c (A.uc0 m (A.c4 70 [.v c,.i f] h λb d=>A.join (λn o=>A.un0 n (K [.i d] o)) λe=>A.peek (.lg cc 1 a) b λp=>A.ucB p λq r=>A.uc0 r (A.cond q (A.cmp .geq d 0 λs=>A.heap (.st a [.bool s]) b λw t=>e [] t) (A.heap (.st a [.bool false]) b λx u=>e [] u))))
def f70:R:=A.k6 ls λc d=>A.ln c λe=>A.loop (λf g a=>A.k4 g λb=>A.cd .lss b e (A.ix 1 c b 1 a λj=>A.k5 j λk=>A.cd .eql d k (K [.i b] a) (A.pa b 1 λl=>f [.i l] a)) (K [.i (-1)] a)) [.i 0] h
def f71:R:=A.unV ls λd f=>A.k0 f λg=>A.ln d λj=>A.loop (λk l c=>A.k4 l λa=>A.cd .lss a j (A.ix 3 d a 3 c λm=>A.k8 m λn o p=>A.callv g [.agg ⟨[.int .u8 n,.int .i64 o,.int .i64 p]⟩] [.leaf .b] c λq e=>A.k1 q λr=>A.cond r (K [.i a] e) (A.pa a 1 λs=>k [.i s] e)) (K [.i (-1)] c)) [.i 0] h
def f72:R:=A.k4 ls λa=>A.cmp .neq a a λc=>K [.b c] h
def f73:R:=A.k10 ls λf g e=>A.pm 6 f λa=>A.pm 6 g λb=>A.pa a 3 λc=>A.pa b 3 λd=>A.cd .eql e 0 (A.pa a 6 λj=>K [.i c,.i d,.i a,.i b,.i j,.i b] h) (A.cd .eql e 1 (A.pa a 6 λk=>A.pa a 6 λl=>A.pa b 6 λm=>K [.i c,.i d,.i k,.i b,.i l,.i m] h) (A.cd .eql e 2 (A.pa a 6 λn=>A.pa b 6 λo=>A.pa b 6 λp=>K [.i c,.i d,.i n,.i o,.i a,.i p] h) (A.pa b 6 λq=>K [.i c,.i d,.i a,.i q,.i a,.i b] h)))
def f74:R:=A.unI ls λf s=>A.unI s λg t=>A.k0 t λa=>A.c4 53 [.i f,.i g] h λj k=>A.cd .neq k 0 (K [.i k] j) (A.c1 95 [.v a,.v (.func (.func 96) ⟨[]⟩ ⟨[]⟩)] j λl u=>A.cond u (K [.i 1] l) (A.ln a λw=>A.loop (λx y c=>A.k4 y λd=>A.cd .lss d w (A.ix 3 a d 3 c λz=>A.k12 z λm n B=>A.c10 98 [.i f,.i g,.i m,.i n] c λo C D E=>A.cd .neq E 0 (K [.i 7] o) (A.c9 99 [.i m,.i n,.i B] o λp F G=>A.eqs [(.i C,.i F),(.i D,.i G)] λH=>A.cond (!H) (K [.i 7] p) (A.pa d 1 λI=>x [.i I] p))) (A.loop (λJ L e=>A.k4 L λb=>A.ln a λM=>A.cd .lss b M (A.ps b 1 λN=>A.ix 3 a N 3 e λO=>A.k12 O λP Q S=>A.c9 99 [.i P,.i Q,.i S] e λq T U=>A.ix 3 a b 3 q λV=>A.k12 V λW X Y=>A.c9 99 [.i W,.i X,.i Y] q λZ a0 a1=>A.c4 100 [.i T,.i U,.i a0,.i a1] Z λr a2=>A.cd .geq a2 0 (K [.i 6] r) (A.pa b 1 λa3=>J [.i a3] r)) (K [.i 0] e)) [.i 1] c)) [.i 0] l))
def f75:R:=A.k10 ls λe b c=>A.ci e λf=>A.cd .geq f 8 (K [.i 1] h) (A.c1 101 [.i b] h λd g=>A.cond g (K [.i 1] d) (A.c1 101 [.i c] d λa j=>A.cond j (K [.i 1] a) (A.pa b c λk=>A.ari .rem .i64 k 2 λl=>A.cd .neq l 0 (K [.i 1] a) (K [.i 0] a))))
def f76:R:=A.unI ls λM N=>A.unI N λO P=>A.k0 P λQ=>A.new (.cells [.int .i64 M,.int .i64 O,Q] 3 true) h λc q=>A.peek (.lg cc 3 (.pointer (some ⟨c,0,none⟩))) q λS=>A.ucI .i64 S λT U=>A.ucI .i64 U λV W=>A.ucV W λr X=>A.chk r (A.uc0 X (A.c0 102 [.i T,.i V,.v r] q λY Z=>A.new (.cells [.map none] 1 true) Y λm a0=>A.heap (.st (.pointer (some ⟨m,0,none⟩)) [Z]) a0 λg0 s=>A.opt (fdP 0 (.pointer (some ⟨c,0,none⟩))) λt=>A.chk t (A.peek (.lg cc 2 t) s λa1=>A.k7 a1 λa2 a3=>A.c4 54 [.i a2,.i a3] s λa4 d=>A.opt (mkOk d d) λg1=>A.new (.cells (aD [.int .u8 0,.int .i64 0,.int .i64 0] (Int.toNat d)) 3 true) a4 λa5 a6=>A.new (.cells [.slice none 0 0] 1 true) a6 λb a7=>A.heap (.st (.pointer (some ⟨b,0,none⟩)) [.slice (some ⟨a5,0,some 13⟩) (Int.toNat d) ((Int.toNat d)+1)]) a7 λg2 u=>A.peek (.lg cc 1 (.pointer (some ⟨b,0,none⟩))) u λa8=>A.ucV a8 λw a9=>A.chk w (A.uc0 a9 (A.ln w λa=>A.opt (mkOk a a) λg3=>A.new (.cells (aD [.bool false] (Int.toNat a)) 1 true) u λn b0=>A.chk (.func (.func 103) ⟨[]⟩ ⟨[.pointer (some ⟨c,0,none⟩),.pointer (some ⟨m,0,none⟩),.pointer (some ⟨b,0,none⟩)]⟩) (A.opt (idS 1 (.slice (some ⟨n,0,some 11⟩) (Int.toNat a) ((Int.toNat a)+1)) 0) λb1=>A.heap (.st b1 [.bool true]) b0 λg4 b2=>A.new (.cells [.int .i64 0] 1 true) b2 λb3 b4=>A.loop (λb5 b6 f=>A.k0 b6 λo=>A.ln o λb7=>A.cd .gtr b7 0 (A.opt (idS 1 o 0) λb8=>A.peek (.lg cc 1 b8) f λb9=>A.k5 b9 λx=>A.opt (slS 1 o (some 1) none none) λy=>A.chk y (A.loop (λc1 c2 p=>A.k6 c2 λg j=>A.cd .lss j 3 (A.join (λc3 c5=>A.k0 c3 λc6=>A.ari .add .u8 j 1 λc7=>c1 [.v c6,.i c7] c5) λz=>A.opt (fdP 0 (.pointer (some ⟨c,0,none⟩))) λB=>A.chk B (A.peek (.lg cc 2 B) p λc8=>A.k7 c8 λd0 d1=>A.c9 81 [.i d0,.i d1,.i x,.i j] p λC e d2=>A.cd .neq d2 0 (z [.v g] C) (A.callv (.func (.func 103) ⟨[]⟩ ⟨[.pointer (some ⟨c,0,none⟩),.pointer (some ⟨m,0,none⟩),.pointer (some ⟨b,0,none⟩)]⟩) [.int .i64 x,.int .u8 j] [.agg [.i .u8,.i .i64,.i .i64]] C λd3 k=>A.k10 d3 λD E F=>A.opt (idS 1 (.slice (some ⟨n,0,some 11⟩) (Int.toNat a) ((Int.toNat a)+1)) e) λd4=>A.peek (.lg cc 1 d4) k λd5=>A.ucB d5 λd6 d7=>A.uc0 d7 (A.join (λd8 l=>A.k0 d8 λd9=>A.peek (.lg cc 1 (.pointer (some ⟨b,0,none⟩))) l λe0=>A.ucV e0 λG e1=>A.chk G (A.uc0 e1 (A.ix 3 G e 3 l λe2=>A.k8 e2 λe3 e4 e5=>A.eqs [(.i e3,.i D),(.i e4,.i E),(.i e5,.i F)] λe6=>A.cond (!e6) (K [.v (.slice none 0 0),.i 11] l) (z [.v d9] l)))) λH=>A.cond (!d6) (A.peek (.lg cc 1 (.pointer (some ⟨b,0,none⟩))) k λe7=>A.ucV e7 λI e8=>A.chk I (A.uc0 e8 (A.opt (idS 3 I e) λe9=>A.heap (.st e9 [.int .u8 D,.int .i64 E,.int .i64 F]) k λg5 f0=>A.opt (idS 1 (.slice (some ⟨n,0,some 11⟩) (Int.toNat a) ((Int.toNat a)+1)) e) λf1=>A.heap (.st f1 [.bool true]) f0 λg6 f2=>A.new (.cells [.int .i64 e] 1 true) f2 λf3 f4=>A.heap (.ap cc 1 8 g (.slice (some ⟨f3,0,some 11⟩) 1 2)) f4 λf5 f6=>A.ucV f5 λJ f7=>A.chk J (A.uc0 f7 (H [.v J] f6))))) (H [.v g] k))))) (b5 [.v g] p)) [.v y,.i 0] f)) (A.peek (.lg cc 1 (.pointer (some ⟨b,0,none⟩))) f λf8=>A.ucV f8 λL f9=>A.chk L (A.uc0 f9 (K [.v L,.i 0] f)))) [.v (.slice (some ⟨b3,0,some 11⟩) 1 2)] b4))))))
def f77:R:=A.k10 ls λa b c=>A.c4 53 [.i a,.i b] h λd e=>A.cd .neq e 0 (K [.i 0,.i 0,.i 0,.i e] d) (A.c1 106 [.i a,.i b,.i c] d λf g=>A.cond (!g) (K [.i 0,.i 0,.i 0,.i 7] f) (A.c10 107 [.i a,.i b,.i c] f λj k l m=>K [.i k,.i l,.i m,.i 0] j))
def f78:R:=A.k14 ls λb c d a e f=>A.c4 75 [.i b,.i c,.i d] h λg k=>A.cd .neq k 0 (K [.i 0,.i 0,.i 0,.i 1] g) (A.c4 75 [.i a,.i e,.i f] g λj l=>A.cd .neq l 0 (K [.i 0,.i 0,.i 0,.i 1] j) (A.opt (inB 8 a) λa1=>A.opt (mf gl1 0 [(a,4)] 4) λm=>A.ucI .i64 m λn o=>A.ucI .i64 o λp q=>A.k7 q λr s=>A.c9 108 [.i n,.i p,.i r,.i s,.i c,.i d] j λt u v=>A.opt (inB 8 b) λa2=>A.opt (mf gl1 0 [(b,4)] 4) λw=>A.ucI .i64 w λx y=>A.ucI .i64 y λz B=>A.k7 B λC D=>A.opt (inB 8 a) λa3=>A.opt (mf gl1 0 [(a,4)] 4) λE=>A.ucI .i64 E λF G=>A.ucI .i64 G λH I=>A.k7 I λJ L=>A.c11 111 [.i x,.i z,.i C,.i D,.i F,.i H,.i J,.i L] t λM N O P Q=>A.c4 110 [.i N,.i O,.i P,.i Q] M λS T=>A.pa u e λU=>A.pa v f λV=>A.c11 109 [.i T,.i U,.i V] S λW X Y Z a0=>K [.i X,.i Y,.i Z,.i a0] W))
def f79:R:=A.k14 ls λa b c d e f=>A.c4 75 [.i a,.i b,.i c] h λg o=>A.cd .neq o 0 (K [.i 0,.i 0,.i 0,.i 1] g) (A.c4 56 [.i d,.i e,.i f] g λj p=>A.cd .neq p 0 (K [.i 0,.i 0,.i 0,.i 1] j) (A.c10 112 [.i a,.i b,.i c,.i d,.i e,.i f] j λq k l m=>A.c4 56 [.i k,.i l,.i m] q λn r=>A.cd .neq r 0 (K [.i 0,.i 0,.i 0,.i 3] n) (K [.i k,.i l,.i m,.i 0] n)))
def f80:R:=A.unV ls λa S=>A.k14 S λk l m n o p=>A.c4 33 [.i k,.i l,.i m,.i n,.i o,.i p] h λt T=>A.cmp .gtr T 0 λU=>A.join (λV b=>A.k14 V λc d e f g j=>A.opt (nilP a) λu=>A.chk u (A.opt (fdP 6 u) λw=>A.chk w (A.peek (.lg cc 1 w) b λW=>A.ucV W λx X=>A.chk x (A.uc0 X (A.peek (.fn (luG cc 143 false (.pointer none) x (.agg ⟨[.int .i64 c,.int .i64 d,.int .u8 e,.int .i64 f,.int .i64 g,.int .u8 j]⟩) false)) b λY=>A.ucV Y λy Z=>A.chk y (A.uc0 Z (A.opt (jR 4 y (.pointer none)) λa0=>A.join (λa1 q=>A.un0 a1 (A.opt (nilP a) λz=>A.chk z (A.opt (fdP 6 z) λB=>A.chk B (A.peek (.lg cc 1 B) q λa2=>A.ucV a2 λC a3=>A.chk C (A.uc0 a3 (A.peek (.fn (luG cc 143 false (.pointer none) C (.agg ⟨[.int .i64 c,.int .i64 d,.int .u8 e,.int .i64 f,.int .i64 g,.int .u8 j]⟩) false)) q λa4=>A.ucV a4 λD a5=>A.chk D (A.uc0 a5 (K [.v D] q)))))))) λE=>A.cond a0 (A.opt (nilP a) λF=>A.chk F (A.opt (fdP 6 F) λr=>A.chk r (A.peek (.lg cc 1 r) b λa6=>A.ucV a6 λG a7=>A.chk G (A.uc0 a7 (A.new (.cells [.int .i64 c,.int .i64 d,.int .u8 e,.int .i64 f,.int .i64 g,.int .u8 j,.slice none 0 0,.slice none 0 0,.slice none 0 0] 9 true) b λH a8=>A.heap (.fn (muG cc 143 G (.agg ⟨[.int .i64 c,.int .i64 d,.int .u8 e,.int .i64 f,.int .i64 g,.int .u8 j]⟩) (.pointer (some ⟨H,0,none⟩)))) a8 λb6 I=>A.opt (Sx.sepL [(.pointer (some ⟨H,0,none⟩),(0,r))]) λb7=>A.opt (nilP a) λJ=>A.chk J (A.opt (fdP 7 J) λs=>A.chk s (A.peek (.lg cc 1 s) I λa9=>A.ucV a9 λL b0=>A.chk L (A.uc0 b0 (A.new (.cells [.int .i64 c,.int .i64 d,.int .u8 e,.int .i64 f,.int .i64 g,.int .u8 j] 6 true) I λM b1=>A.heap (.ap cc 6 48 L (.slice (some ⟨M,0,some 16⟩) 1 2)) b1 λb2 b3=>A.ucV b2 λN b4=>A.chk N (A.uc0 b4 (A.opt (nilP a) λO=>A.chk O (A.opt (fdP 7 O) λP=>A.chk P (A.heap (.st P [N]) b3 λb8 b5=>A.opt (Sx.sepL [(.slice (some ⟨M,0,some 16⟩) 1 2,(0,s))]) λb9=>E [] b5))))))))))))) (E [] b)))))))) λQ=>A.cond U (Q [.i n,.i o,.i p,.i k,.i l,.i m] t) (Q [.i k,.i l,.i m,.i n,.i o,.i p] t)
def f81:R:=A.k11 ls λa b f g=>A.c11 77 [.i a,.i b,.i f] h λc j k l d=>A.cd .neq d 0 (K [.i 0,.i d] c) (A.c11 30 [.i j,.i k,.i l,.i g] c λe m n o p=>A.cd .neq p 0 (K [.i 0,.i 1] e) (A.c9 113 [.i a,.i b,.i m,.i n,.i o] e λq r s=>K [.i r,.i s] q))
def f82:R:=A.unI ls λd e=>A.unI e λf g=>A.unV g λc j=>A.k9 j λk l=>A.call 114 [.i d,.i f,.v c,.i k,.i l] h λm a=>A.unI m λw n=>A.unI n λx o=>A.unI o λp q=>A.unB q λr s=>A.k4 s λb=>A.cd .neq b 0 (K [.i 0,.i b] a) (A.cond (!r) (K [.i 0,.i b] a) (A.fx 3 c p 2 1 a λt=>A.k3 t λu=>K [.i u,.i 0] a))
def f83:R:=A.k17 ls λc b8 b9 c0 e=>A.loop (λc2 c3 t=>A.unI c3 λB c5=>A.unI c5 λd c6=>A.unB c6 λu c7=>A.unB c7 λs c8=>A.k4 c8 λa=>A.join (λd0 d1=>A.unI d0 λd2 d3=>A.unI d3 λd4 d5=>A.unB d5 λd6 d7=>A.unB d7 λd8 d9=>A.k4 d9 λe0=>c2 [.i d2,.i d4,.b d6,.b d8,.i e0] d1) λk=>A.ps a d λl=>A.cd .leq l 12 (A.call 115 [.v c,.i d,.i a,.v e] t λe1 e2=>A.un0 e1 (K [] e2)) (A.cd .eql B 0 (A.call 116 [.v c,.i d,.i a,.v e] t λe3 e4=>A.un0 e3 (K [] e4)) (A.join (λe5 e6=>A.k4 e5 λf=>A.c9 118 [.v c,.i d,.i a,.v e] e6 λC D E=>A.cmp .eql E 2 λe7=>A.join (λe8 j=>A.k9 e8 λg e9=>A.cond s (A.cond u (A.cmp .eql e9 1 λf0=>A.join (λf1 w=>A.un0 f1 (A.cd .gtr d 0 (A.ps d 1 λf2=>A.ix 6 c f2 6 w λf3=>A.k16 f3 λf4 f5 f6 f7 f8 f9=>A.ix 6 c g 6 w λg0=>A.k16 g0 λg1 g2 g3 g4 g5 g6=>A.callv e [.agg ⟨[.int .i64 f4,.int .i64 f5,.int .u8 f6,.int .i64 f7,.int .i64 f8,.int .u8 f9]⟩,.agg ⟨[.int .i64 g1,.int .i64 g2,.int .u8 g3,.int .i64 g4,.int .i64 g5,.int .u8 g6]⟩] [.leaf (.i .i64)] w λg7 F=>A.k4 g7 λg8=>A.cmp .lss g8 0 λg9=>A.join (λh0 h1=>A.k4 h0 λx=>A.c15 122 [.v c,.i x,.i a,.i g,.v e] h1 λG m h2=>A.ps m x λH=>A.ps a m λI=>A.pq l 8 λJ=>A.cmp .lss H I λh3=>A.join (λh4 h5=>A.k18 h4 λh6 h7 h8=>k [.i f,.i h7,.b h2,.b h6,.i h8] h5) λL=>A.cond h3 (A.cmp .geq H J λh9=>A.call 83 [.v c,.i x,.i m,.i f,.v e] G λi0 i1=>A.un0 i0 (A.pa m 1 λi2=>L [.b h9,.i i2,.i a] i1)) (A.cmp .geq I J λi3=>A.pa m 1 λi4=>A.call 83 [.v c,.i i4,.i a,.i f,.v e] G λi5 i6=>A.un0 i5 (L [.b i3,.i x,.i m] i6))) λi7=>A.cond (!g9) (A.c4 121 [.v c,.i d,.i a,.i g,.v e] F λi8 i9=>k [.i f,.i i9,.b u,.b s,.i a] i8) (i7 [.i d] F)) (A.c15 122 [.v c,.i d,.i a,.i g,.v e] w λM n j0=>A.ps n d λN=>A.ps a n λO=>A.pq l 8 λP=>A.cmp .lss N O λj1=>A.join (λj2 j3=>A.k18 j2 λj4 j5 j6=>k [.i f,.i j5,.b j0,.b j4,.i j6] j3) λQ=>A.cond j1 (A.cmp .geq N P λj7=>A.call 83 [.v c,.i d,.i n,.i f,.v e] M λj8 j9=>A.un0 j8 (A.pa n 1 λk0=>Q [.b j7,.i k0,.i a] j9)) (A.cmp .geq O P λk1=>A.pa n 1 λk2=>A.call 83 [.v c,.i k2,.i a,.i f,.v e] M λk3 k5=>A.un0 k3 (Q [.b k1,.i d,.i n] k5))))) λS=>A.cond f0 (A.c1 120 [.v c,.i d,.i a,.v e] j λT k6=>A.cond k6 (K [] T) (S [] T)) (S [] j)) (A.cd .gtr d 0 (A.ps d 1 λk7=>A.ix 6 c k7 6 j λk8=>A.k16 k8 λl0 l1 l2 l3 l4 l5=>A.ix 6 c g 6 j λl6=>A.k16 l6 λl7 l8 l9 m0 m1 m2=>A.callv e [.agg ⟨[.int .i64 l0,.int .i64 l1,.int .u8 l2,.int .i64 l3,.int .i64 l4,.int .u8 l5]⟩,.agg ⟨[.int .i64 l7,.int .i64 l8,.int .u8 l9,.int .i64 m0,.int .i64 m1,.int .u8 m2]⟩] [.leaf (.i .i64)] j λm3 U=>A.k4 m3 λm4=>A.cmp .lss m4 0 λm5=>A.join (λm6 m7=>A.k4 m6 λy=>A.c15 122 [.v c,.i y,.i a,.i g,.v e] m7 λV o m8=>A.ps o y λW=>A.ps a o λX=>A.pq l 8 λY=>A.cmp .lss W X λm9=>A.join (λn0 n1=>A.k18 n0 λn2 n3 n4=>k [.i f,.i n3,.b m8,.b n2,.i n4] n1) λZ=>A.cond m9 (A.cmp .geq W Y λn5=>A.call 83 [.v c,.i y,.i o,.i f,.v e] V λn6 n7=>A.un0 n6 (A.pa o 1 λn8=>Z [.b n5,.i n8,.i a] n7)) (A.cmp .geq X Y λn9=>A.pa o 1 λo0=>A.call 83 [.v c,.i o0,.i a,.i f,.v e] V λo1 o2=>A.un0 o1 (Z [.b n9,.i y,.i o] o2))) λo3=>A.cond (!m5) (A.c4 121 [.v c,.i d,.i a,.i g,.v e] U λo4 o5=>k [.i f,.i o5,.b u,.b s,.i a] o4) (o3 [.i d] U)) (A.c15 122 [.v c,.i d,.i a,.i g,.v e] j λa0 p o6=>A.ps p d λa1=>A.ps a p λa2=>A.pq l 8 λa3=>A.cmp .lss a1 a2 λo7=>A.join (λo8 o9=>A.k18 o8 λp0 p1 p2=>k [.i f,.i p1,.b o6,.b p0,.i p2] o9) λa4=>A.cond o7 (A.cmp .geq a1 a3 λp3=>A.call 83 [.v c,.i d,.i p,.i f,.v e] a0 λp4 p5=>A.un0 p4 (A.pa p 1 λp6=>a4 [.b p3,.i p6,.i a] p5)) (A.cmp .geq a2 a3 λp7=>A.pa p 1 λp8=>A.call 83 [.v c,.i p8,.i a,.i f,.v e] a0 λp9 q0=>A.un0 p9 (a4 [.b p7,.i d,.i p] q0))))) (A.cd .gtr d 0 (A.ps d 1 λq1=>A.ix 6 c q1 6 j λq2=>A.k16 q2 λq3 q4 q5 q6 q7 q8=>A.ix 6 c g 6 j λq9=>A.k16 q9 λr0 r1 r2 r3 r4 r5=>A.callv e [.agg ⟨[.int .i64 q3,.int .i64 q4,.int .u8 q5,.int .i64 q6,.int .i64 q7,.int .u8 q8]⟩,.agg ⟨[.int .i64 r0,.int .i64 r1,.int .u8 r2,.int .i64 r3,.int .i64 r4,.int .u8 r5]⟩] [.leaf (.i .i64)] j λr6 a5=>A.k4 r6 λr7=>A.cmp .lss r7 0 λr8=>A.join (λr9 s0=>A.k4 r9 λz=>A.c15 122 [.v c,.i z,.i a,.i g,.v e] s0 λa6 q s1=>A.ps q z λa7=>A.ps a q λa8=>A.pq l 8 λa9=>A.cmp .lss a7 a8 λs2=>A.join (λs3 s4=>A.k18 s3 λs5 s6 s7=>k [.i f,.i s6,.b s1,.b s5,.i s7] s4) λb0=>A.cond s2 (A.cmp .geq a7 a9 λs8=>A.call 83 [.v c,.i z,.i q,.i f,.v e] a6 λs9 t0=>A.un0 s9 (A.pa q 1 λt1=>b0 [.b s8,.i t1,.i a] t0)) (A.cmp .geq a8 a9 λt2=>A.pa q 1 λt3=>A.call 83 [.v c,.i t3,.i a,.i f,.v e] a6 λt4 t5=>A.un0 t4 (b0 [.b t2,.i z,.i q] t5))) λt6=>A.cond (!r8) (A.c4 121 [.v c,.i d,.i a,.i g,.v e] a5 λt7 t8=>k [.i f,.i t8,.b u,.b s,.i a] t7) (t6 [.i d] a5)) (A.c15 122 [.v c,.i d,.i a,.i g,.v e] j λb1 r t9=>A.ps r d λb2=>A.ps a r λb3=>A.pq l 8 λb4=>A.cmp .lss b2 b3 λu0=>A.join (λu1 u2=>A.k18 u1 λu3 u4 u5=>k [.i f,.i u4,.b t9,.b u3,.i u5] u2) λb5=>A.cond u0 (A.cmp .geq b2 b4 λu6=>A.call 83 [.v c,.i d,.i r,.i f,.v e] b1 λu7 u9=>A.un0 u7 (A.pa r 1 λv0=>b5 [.b u6,.i v0,.i a] u9)) (A.cmp .geq b3 b4 λv1=>A.pa r 1 λv2=>A.call 83 [.v c,.i v2,.i a,.i f,.v e] b1 λv3 v4=>A.un0 v3 (b5 [.b v1,.i d,.i r] v4))))) λb6=>A.cond e7 (A.call 119 [.v c,.i d,.i a,.v e] C λv5 v6=>A.un0 v5 (A.ps a 1 λv7=>A.ps D d λv8=>A.ps v7 v8 λv9=>b6 [.i v9,.i 1] v6)) (b6 [.i D,.i E] C)) λb7=>A.cond (!s) (A.call 117 [.v c,.i d,.i a,.v e] t λw0 w1=>A.un0 w0 (A.ps B 1 λw2=>b7 [.i w2] w1)) (b7 [.i B] t)))) [.i c0,.i b8,.b true,.b true,.i b9] h
def f84:R:=A.k4 ls λa=>A.c4 124 [.i a] h λb c=>K [.i c] b
def f85:R:=A.unV ls λa c=>A.k0 c λd=>A.ln a λb=>A.conv .u64 b λe=>A.c4 84 [.i e] h λf g=>A.call 125 [.v a,.i 0,.i b,.i g,.v d] f λj k=>A.un0 j (K [] k)
def f86:R:=A.unI ls λl m=>A.unI m λG n=>A.unI n λo p=>A.unI p λH q=>A.k0 q λa=>A.peek (.lg cc 1 a) h λr=>A.ucV r λb s=>A.chk b (A.uc0 s (A.opt (nilP b) λc=>A.chk c (A.opt (fdP 5 c) λd=>A.chk d (A.peek (.lg cc 1 d) h λt=>A.ucV t λe u=>A.chk e (A.uc0 u (A.ix 1 e l 1 h λv=>A.k5 v λw=>A.peek (.lg cc 1 a) h λx=>A.ucV x λf y=>A.chk f (A.uc0 y (A.opt (nilP f) λg=>A.chk g (A.opt (fdP 5 g) λj=>A.chk j (A.peek (.lg cc 1 j) h λz=>A.ucV z λk B=>A.chk k (A.uc0 B (A.ix 1 k o 1 h λC=>A.k5 C λD=>A.c4 42 [.i w,.i D] h λE F=>K [.i F] E))))))))))))
def f87:R:=A.unV ls λa c=>A.k0 c λd=>A.ln a λb=>A.conv .u64 b λe=>A.c4 84 [.i e] h λf g=>A.call 126 [.v a,.i 0,.i b,.i g,.v d] f λj k=>A.un0 j (K [] k)
def f88:R:=A.unI ls λm n=>A.unI n λo p=>A.unI p λT q=>A.unI q λr s=>A.unI s λt u=>A.unI u λU w=>A.k0 w λb=>A.c4 89 [.i m,.i r] h λa x=>A.peek (.lg cc 1 b) a λy=>A.ucV y λc z=>A.chk c (A.uc0 z (A.opt (nilP c) λd=>A.chk d (A.opt (fdP 5 d) λe=>A.chk e (A.peek (.lg cc 1 e) a λB=>A.ucV B λf C=>A.chk f (A.uc0 C (A.ix 1 f o 1 a λD=>A.k5 D λE=>A.peek (.lg cc 1 b) a λF=>A.ucV F λg G=>A.chk g (A.uc0 G (A.opt (nilP g) λj=>A.chk j (A.opt (fdP 5 j) λk=>A.chk k (A.peek (.lg cc 1 k) a λH=>A.ucV H λl I=>A.chk l (A.uc0 I (A.ix 1 l t 1 a λJ=>A.k5 J λL=>A.c4 42 [.i E,.i L] a λM N=>A.new (.cells [.int .i64 x,.int .i64 N] 1 true) M λO P=>A.c4 62 [.v (.slice (some ⟨O,0,some 11⟩) 2 3)] P λQ S=>K [.i S] Q))))))))))))
def f89:R:=A.k9 ls λb c=>A.c1 127 [.i b] h λe f=>A.c1 127 [.i c] e λa d=>A.cond f (A.cond d (K [.i 0] a) (K [.i (-1)] a)) (A.cond d (K [.i 1] a) (A.cd .lss b c (K [.i (-1)] a) (A.cd .gtr b c (K [.i 1] a) (K [.i 0] a))))
def f90:R:=A.k0 ls λa=>A.ln a λb=>A.conv .u64 b λc=>A.c4 84 [.i c] h λd e=>A.call 128 [.v a,.i 0,.i b,.i e] d λf g=>A.un0 f (K [] g)
def f91:R:=A.k0 ls λa=>A.ln a λc=>A.ln a λd=>A.opt (slS 2 a none (some c) (some d)) λb=>A.chk b (K [.v b] h)
def f92:R:=A.k0 ls λa=>A.opt (jR 1 a (.slice none 0 0)) λc=>A.cond c (K [.v (.slice none 0 0)] h) (A.new (.cells [] 2 true) h λd e=>A.heap (.ap cc 2 16 (.slice (some ⟨d,0,some 12⟩) 0 1) a) e λf g=>A.ucV f λb i=>A.chk b (A.uc0 i (K [.v b] g)))
def f93:R:=A.k0 ls λa=>A.ln a λc=>A.ln a λd=>A.opt (slS 3 a none (some c) (some d)) λb=>A.chk b (K [.v b] h)
def f94:R:=A.k0 ls λa=>A.opt (jR 1 a (.slice none 0 0)) λc=>A.cond c (K [.v (.slice none 0 0)] h) (A.new (.cells [] 3 true) h λd e=>A.heap (.ap cc 3 24 (.slice (some ⟨d,0,some 13⟩) 0 1) a) e λf g=>A.ucV f λb i=>A.chk b (A.uc0 i (K [.v b] g)))
def f95:R:=A.unV ls λa c=>A.k0 c λd=>A.c4 129 [.v a,.v d] h λe f=>A.cmp .geq f 0 λg=>K [.b g] e
def f96:R:=A.k10 ls λe f a=>A.c1 97 [.i a] h λc d=>K [.b (!d)] c
def f97:R:=A.k4 ls λa=>A.join (λd e=>A.k1 d λf=>K [.b f] e) λc=>A.cd .geq a 1 (A.cmp .leq a 3 λg=>c [.b g] h) (c [.b false] h)
def f98:R:=A.k11 ls λf g a b=>A.c9 81 [.i f,.i g,.i a,.i b] h λc d e=>A.cd .neq e 0 (K [.i 0,.i 0,.i e] c) (A.cmp .lss d a λj=>A.sel j d a λk=>K [.i k,.i b,.i 0] c)
def f99:R:=A.k10 ls λa b c=>K [.i a,.i b] h
def f100:R:=A.k11 ls λa c b d=>A.cd .neq a b (A.ps a b λe=>K [.i e] h) (A.ci c λf=>A.ci d λg=>A.ps f g λj=>K [.i j] h)
def f101:R:=A.k4 ls λa=>A.join (λd e=>A.k1 d λf=>K [.b f] e) λc=>A.cd .lss a (-16384) (c [.b true] h) (A.cmp .gtr a 16384 λg=>c [.b g] h)
def f102:R:=A.unI ls λr e=>A.unI e λs f=>A.k0 f λa=>A.ln a λt=>A.new (.map [] 0) h λd g=>A.ln a λj=>A.loop (λk l b=>A.k4 l λc=>A.cd .lss c j (A.ix 3 a c 3 b λm=>A.k12 m λn o u=>A.heap (.fn (muG cc 183 (.map (some d)) (.agg ⟨[.int .i64 n,.int .u8 o]⟩) (.bool true))) b λw p=>A.pa c 1 λq=>k [.i q] p) (K [.v (.map (some d))] b)) [.i 0] g
def f103:R:=A.unI ls λb o=>A.unI o λp q=>A.unV q λd r=>A.unV r λs t=>A.k0 t λe=>A.opt (fdP 0 d) λf=>A.chk f (A.peek (.lg cc 2 f) h λu=>A.k7 u λv w=>A.c10 98 [.i v,.i w,.i b,.i p] h λa g j a4=>A.peek (.lg cc 1 s) a λx=>A.ucV x λk y=>A.chk k (A.uc0 y (A.peek (.fn (luG cc 183 false (.bool false) k (.agg ⟨[.int .i64 g,.int .u8 j]⟩) false)) a λz=>A.ucB z λB C=>A.uc0 C (A.cond (!B) (A.peek (.lg cc 1 e) a λD=>A.ucV D λl E=>A.chk l (A.uc0 E (A.ix 3 l b 3 a λF=>A.k8 F λG H I=>K [.i G,.i H,.i I] a))) (A.opt (fdP 0 d) λm=>A.chk m (A.peek (.lg cc 2 m) a λJ=>A.k7 J λL M=>A.c10 104 [.i L,.i M,.i g,.i j] a λN O P a5=>A.c11 105 [.i O,.i P] N λc Q S T a6=>A.peek (.lg cc 1 e) c λU=>A.ucV U λn V=>A.chk n (A.uc0 V (A.ix 3 n b 3 c λW=>A.k8 W λX Y Z=>A.c11 78 [.i Q,.i S,.i T,.i X,.i Y,.i Z] c λa0 a1 a2 a3 a7=>K [.i a1,.i a2,.i a3] a0))))))))
def f104:R:=A.k11 ls λd e f a=>A.c11 130 [.i d,.i e,.i f,.i a] h λb g j k c=>A.cd .neq c 0 (K [.i 0,.i 0,.i c] b) (A.c10 131 [.i g,.i j,.i k,.i a] b λl m n o=>K [.i m,.i n,.i o] l)
def f105:R:=A.k9 ls λc a=>A.c4 132 [.i c,.i a] h λb d=>A.cd .neq d 0 (K [.i 0,.i 0,.i 0,.i 1] b) (A.cd .eql c 1 (A.pm 2 a λe=>K [.i 4,.i e,.i 0,.i 0] b) (A.cd .eql c 2 (A.pm 2 a λf=>K [.i 6,.i 0,.i f,.i 0] b) (A.cd .eql c 3 (K [.i 5,.i a,.i a,.i 0] b) (A.ps 0 a λg=>K [.i 7,.i g,.i a,.i 0] b))))
def f106:R:=A.k10 ls λd e a=>A.join (λf g=>A.k1 f λi=>K [.b i] g) λc=>A.cd .geq a 0 (A.pm 4 d λj=>A.pm j e λk=>A.cmp .lss a k λl=>c [.b l] h) (c [.b false] h)
def f107:R:=A.k10 ls λb k a=>A.pq a 4 λc=>A.ari .rem .i64 c b λd=>A.pq a 4 λe=>A.pq e b λf=>A.ari .rem .i64 a 4 λg=>A.conv .u8 g λj=>K [.i d,.i f,.i j] h
def f108:R:=A.k14 ls λc d e f a b=>A.pm c a λg=>A.pm d b λj=>A.pa g j λk=>A.pm e a λl=>A.pm f b λm=>A.pa l m λn=>K [.i k,.i n] h
def f109:R:=A.k10 ls λa b c=>A.c4 75 [.i a,.i b,.i c] h λd e=>A.cd .neq e 0 (K [.i 0,.i 0,.i 0,.i 3] d) (K [.i a,.i b,.i c,.i 0] d)
def f110:R:=A.k11 ls λc d e f=>A.loop (λg j b=>A.k4 j λa=>A.cd .lss a 8 (A.opt (inB 8 a) λs=>A.opt (mR [.i 1,.i 0,.i 0,.i 1,.i 0,.i (-1),.i 1,.i 0,.i (-1),.i 0,.i 0,.i (-1),.i 0,.i 1,.i (-1),.i 0,.i (-1),.i 0,.i 0,.i 1,.i 0,.i (-1),.i (-1),.i 0,.i 1,.i 0,.i 0,.i (-1),.i 0,.i 1,.i 1,.i 0] 0 [(a,4)] 4) λk=>A.k11 k λl m n o=>A.eqs [(.i l,.i c),(.i m,.i d),(.i n,.i e),(.i o,.i f)] λp=>A.cond p (A.conv .u8 a λq=>K [.i q] b) (A.pa a 1 λr=>g [.i r] b)) (K [.i 0] b)) [.i 0] h
def f111:R:=A.unI ls λe f=>A.unI f λg j=>A.k14 j λk l a b c d=>A.c9 108 [.i a,.i b,.i c,.i d,.i e,.i k] h λm n o=>A.c9 108 [.i a,.i b,.i c,.i d,.i g,.i l] m λp q r=>K [.i n,.i q,.i o,.i r] p
def f112:R:=A.k14 ls λf m n o p b=>A.c9 133 [.i o,.i p,.i b] h λq r s=>A.opt (inB 4 b) λa7=>A.opt (mf gl0 0 [(b,17)] 2) λt=>A.k7 t λu v=>A.c10 134 [.i f,.i m,.i n,.i r,.i s] q λw g j a8=>A.c10 134 [.i f,.i 0,.i 0,.i u,.i v] w λx y z a9=>A.ari .and .i64 g 1 λB=>A.ps g B λC=>A.pq C 2 λD=>A.ari .and .i64 j 1 λE=>A.ps j E λF=>A.pq F 2 λG=>A.loop (λH I c=>A.k11 I λa d e k=>A.cd .lss a 4 (A.opt (inB 4 a) λb0=>A.opt (mR [.i 0,.i (-1),.i 2,.i 0,.i 0,.i (-1),.i 2,.i 0,.i 0,.i 1,.i 0,.i 0,.i 3,.i 0,.i 0,.i 2,.i 0,.i 1,.i 0,.i 1,.i 1,.i 1,.i 0,.i 3,.i 0,.i 0,.i 0,.i 0,.i 0,.i 2,.i 2,.i 2,.i 2,.i 0,.i 0,.i 1,.i 2,.i 1,.i 0,.i 1,.i 0,.i 0,.i 0,.i 3,.i 0,.i 0,.i 1,.i 2,.i 2,.i 0,.i 2,.i (-1),.i 0,.i 1,.i 0,.i (-1),.i 0,.i 1,.i 0,.i 0,.i 2,.i 0,.i 0,.i 0,.i 0,.i 0,.i 0,.i 2] 0 [(a,17)] 17) λJ=>A.unI J λL M=>A.unI M λN O=>A.unI O λb1 P=>A.unI P λb2 Q=>A.unI Q λb3 S=>A.unI S λb4 T=>A.unI T λb5 U=>A.unI U λb6 V=>A.unI V λb7 W=>A.unI W λb8 X=>A.unI X λb9 Y=>A.k14 Y λc0 c1 c2 c3 c4 c5=>A.eqs [(.i L,.i y),(.i N,.i z)] λZ=>A.join (λa0 a1=>A.k10 a0 λa2 a3 a4=>A.pa a 1 λa5=>H [.i a5,.i a2,.i a3,.i a4] a1) λl=>A.cond Z (A.conv .u8 a λa6=>l [.i d,.i e,.i a6] c) (l [.i d,.i e,.i k] c)) (K [.i d,.i e,.i k] c)) [.i 0,.i D,.i G,.i 0] x
def f113:R:=A.unI ls λd k=>A.k11 k λe b c f=>A.c4 53 [.i d,.i e] h λg j=>A.cd .neq j 0 (K [.i 0,.i j] g) (A.c4 56 [.i b,.i c,.i f] g λa l=>A.cd .neq l 0 (K [.i 0,.i 7] a) (A.cd .lss b 0 (K [.i 0,.i 7] a) (A.cd .geq b d (K [.i 0,.i 7] a) (A.cd .lss c 0 (K [.i 0,.i 7] a) (A.cd .geq c e (K [.i 0,.i 7] a) (A.pm c d λm=>A.pa m b λn=>A.pm 4 n λo=>A.ci f λp=>A.pa o p λq=>K [.i q,.i 0] a))))))
def f114:R:=A.unI ls λa m=>A.unI m λc n=>A.unV n λd o=>A.k9 o λp q=>A.c4 74 [.i a,.i c,.v d] h λe f=>A.cd .neq f 0 (K [.i 0,.i 0,.i 0,.b false,.i f] e) (A.c10 98 [.i a,.i c,.i p,.i q] e λg j k l=>A.cd .neq l 0 (K [.i 0,.i 0,.i 0,.b false,.i l] g) (A.c15 135 [.v d,.i j,.i k] g λr s t=>K [.i j,.i k,.i s,.b t,.i 0] r))
def f115:R:=A.k19 ls λb f k l=>A.pa f 1 λm=>A.loop (λn o g=>A.k4 o λe=>A.cd .lss e k (A.join (λp q=>A.un0 p (A.pa e 1 λr=>n [.i r] q)) λj=>A.loop (λs t c=>A.k4 t λa=>A.cd .gtr a f (A.ix 6 b a 6 c λu=>A.k16 u λv w x y z B=>A.ps a 1 λC=>A.ix 6 b C 6 c λD=>A.k16 D λE F G H I J=>A.callv l [.agg ⟨[.int .i64 v,.int .i64 w,.int .u8 x,.int .i64 y,.int .i64 z,.int .u8 B]⟩,.agg ⟨[.int .i64 E,.int .i64 F,.int .u8 G,.int .i64 H,.int .i64 I,.int .u8 J]⟩] [.leaf (.i .i64)] c λL d=>A.k4 L λM=>A.cd .lss M 0 (A.ps a 1 λN=>A.ps a 1 λO=>A.ix 6 b O 6 d λP=>A.k16 P λQ S T U V W=>A.ix 6 b a 6 d λX=>A.k16 X λY Z a0 a1 a2 a3=>A.opt (idS 6 b a) λa4=>A.heap (.st a4 [.int .i64 Q,.int .i64 S,.int .u8 T,.int .i64 U,.int .i64 V,.int .u8 W]) d λa9 a5=>A.opt (idS 6 b N) λa6=>A.heap (.st a6 [.int .i64 Y,.int .i64 Z,.int .u8 a0,.int .i64 a1,.int .i64 a2,.int .u8 a3]) a5 λb0 a7=>A.ps a 1 λa8=>s [.i a8] a7) (j [] d)) (j [] c)) [.i e] g) (K [] g)) [.i m] h
def f124:R:=A.k4 ls λa=>A.cmp .geq a 4294967296 λm=>A.join (λn d=>A.k9 n λb e=>A.cmp .geq b 65536 λo=>A.join (λp f=>A.k9 p λc g=>A.cmp .geq c 256 λq=>A.join (λr s=>A.k9 r λt u=>A.conv .u8 t λv=>A.opt (strAt (.mk ⟨[.ofNat 0,.ofNat 1,.ofNat 2,.ofNat 2,.ofNat 3,.ofNat 3,.ofNat 3,.ofNat 3,.ofNat 4,.ofNat 4,.ofNat 4,.ofNat 4,.ofNat 4,.ofNat 4,.ofNat 4,.ofNat 4,.ofNat 5,.ofNat 5,.ofNat 5,.ofNat 5,.ofNat 5,.ofNat 5,.ofNat 5,.ofNat 5,.ofNat 5,.ofNat 5,.ofNat 5,.ofNat 5,.ofNat 5,.ofNat 5,.ofNat 5,.ofNat 5,.ofNat 6,.ofNat 6,.ofNat 6,.ofNat 6,.ofNat 6,.ofNat 6,.ofNat 6,.ofNat 6,.ofNat 6,.ofNat 6,.ofNat 6,.ofNat 6,.ofNat 6,.ofNat 6,.ofNat 6,.ofNat 6,.ofNat 6,.ofNat 6,.ofNat 6,.ofNat 6,.ofNat 6,.ofNat 6,.ofNat 6,.ofNat 6,.ofNat 6,.ofNat 6,.ofNat 6,.ofNat 6,.ofNat 6,.ofNat 6,.ofNat 6,.ofNat 6,.ofNat 7,.ofNat 7,.ofNat 7,.ofNat 7,.ofNat 7,.ofNat 7,.ofNat 7,.ofNat 7,.ofNat 7,.ofNat 7,.ofNat 7,.ofNat 7,.ofNat 7,.ofNat 7,.ofNat 7,.ofNat 7,.ofNat 7,.ofNat 7,.ofNat 7,.ofNat 7,.ofNat 7,.ofNat 7,.ofNat 7,.ofNat 7,.ofNat 7,.ofNat 7,.ofNat 7,.ofNat 7,.ofNat 7,.ofNat 7,.ofNat 7,.ofNat 7,.ofNat 7,.ofNat 7,.ofNat 7,.ofNat 7,.ofNat 7,.ofNat 7,.ofNat 7,.ofNat 7,.ofNat 7,.ofNat 7,.ofNat 7,.ofNat 7,.ofNat 7,.ofNat 7,.ofNat 7,.ofNat 7,.ofNat 7,.ofNat 7,.ofNat 7,.ofNat 7,.ofNat 7,.ofNat 7,.ofNat 7,.ofNat 7,.ofNat 7,.ofNat 7,.ofNat 7,.ofNat 7,.ofNat 7,.ofNat 7,.ofNat 7,.ofNat 7,.ofNat 8,.ofNat 8,.ofNat 8,.ofNat 8,.ofNat 8,.ofNat 8,.ofNat 8,.ofNat 8,.ofNat 8,.ofNat 8,.ofNat 8,.ofNat 8,.ofNat 8,.ofNat 8,.ofNat 8,.ofNat 8,.ofNat 8,.ofNat 8,.ofNat 8,.ofNat 8,.ofNat 8,.ofNat 8,.ofNat 8,.ofNat 8,.ofNat 8,.ofNat 8,.ofNat 8,.ofNat 8,.ofNat 8,.ofNat 8,.ofNat 8,.ofNat 8,.ofNat 8,.ofNat 8,.ofNat 8,.ofNat 8,.ofNat 8,.ofNat 8,.ofNat 8,.ofNat 8,.ofNat 8,.ofNat 8,.ofNat 8,.ofNat 8,.ofNat 8,.ofNat 8,.ofNat 8,.ofNat 8,.ofNat 8,.ofNat 8,.ofNat 8,.ofNat 8,.ofNat 8,.ofNat 8,.ofNat 8,.ofNat 8,.ofNat 8,.ofNat 8,.ofNat 8,.ofNat 8,.ofNat 8,.ofNat 8,.ofNat 8,.ofNat 8,.ofNat 8,.ofNat 8,.ofNat 8,.ofNat 8,.ofNat 8,.ofNat 8,.ofNat 8,.ofNat 8,.ofNat 8,.ofNat 8,.ofNat 8,.ofNat 8,.ofNat 8,.ofNat 8,.ofNat 8,.ofNat 8,.ofNat 8,.ofNat 8,.ofNat 8,.ofNat 8,.ofNat 8,.ofNat 8,.ofNat 8,.ofNat 8,.ofNat 8,.ofNat 8,.ofNat 8,.ofNat 8,.ofNat 8,.ofNat 8,.ofNat 8,.ofNat 8,.ofNat 8,.ofNat 8,.ofNat 8,.ofNat 8,.ofNat 8,.ofNat 8,.ofNat 8,.ofNat 8,.ofNat 8,.ofNat 8,.ofNat 8,.ofNat 8,.ofNat 8,.ofNat 8,.ofNat 8,.ofNat 8,.ofNat 8,.ofNat 8,.ofNat 8,.ofNat 8,.ofNat 8,.ofNat 8,.ofNat 8,.ofNat 8,.ofNat 8,.ofNat 8,.ofNat 8,.ofNat 8,.ofNat 8,.ofNat 8,.ofNat 8,.ofNat 8]⟩) v) λw=>A.ci w λx=>A.pa u x λy=>K [.i y] s) λj=>A.cond q (A.shf .shr .u64 c .u64 8 λz=>A.pa g 8 λB=>j [.i z,.i B] f) (j [.i c,.i g] f)) λk=>A.cond o (A.shf .shr .u64 b .u64 16 λC=>A.pa e 16 λD=>k [.i C,.i D] d) (k [.i b,.i e] d)) λl=>A.cond m (A.shf .shr .u64 a .u64 32 λE=>l [.i E,.i 32] h) (l [.i a,.i 0] h)
def f125:R:=A.k17 ls λc b8 b9 c0 e=>A.loop (λc2 c3 t=>A.unI c3 λB c5=>A.unI c5 λd c6=>A.unB c6 λu c7=>A.unB c7 λs c8=>A.k4 c8 λa=>A.join (λd0 d1=>A.unI d0 λd2 d3=>A.unI d3 λd4 d5=>A.unB d5 λd6 d7=>A.unB d7 λd8 d9=>A.k4 d9 λe0=>c2 [.i d2,.i d4,.b d6,.b d8,.i e0] d1) λk=>A.ps a d λl=>A.cd .leq l 12 (A.call 141 [.v c,.i d,.i a,.v e] t λe1 e2=>A.un0 e1 (K [] e2)) (A.cd .eql B 0 (A.call 142 [.v c,.i d,.i a,.v e] t λe3 e4=>A.un0 e3 (K [] e4)) (A.join (λe5 e6=>A.k4 e5 λf=>A.c9 144 [.v c,.i d,.i a,.v e] e6 λC D E=>A.cmp .eql E 2 λe7=>A.join (λe8 j=>A.k9 e8 λg e9=>A.cond s (A.cond u (A.cmp .eql e9 1 λf0=>A.join (λf1 w=>A.un0 f1 (A.cd .gtr d 0 (A.ps d 1 λf2=>A.ix 2 c f2 2 w λf3=>A.k7 f3 λf4 f5=>A.ix 2 c g 2 w λf6=>A.k7 f6 λf7 f8=>A.callv e [.agg ⟨[.int .i64 f4,.int .i64 f5]⟩,.agg ⟨[.int .i64 f7,.int .i64 f8]⟩] [.leaf (.i .i64)] w λf9 F=>A.k4 f9 λg0=>A.cmp .lss g0 0 λg1=>A.join (λg2 g3=>A.k4 g2 λx=>A.c15 148 [.v c,.i x,.i a,.i g,.v e] g3 λG m g4=>A.ps m x λH=>A.ps a m λI=>A.pq l 8 λJ=>A.cmp .lss H I λg5=>A.join (λg6 g7=>A.k18 g6 λg8 g9 h0=>k [.i f,.i g9,.b g4,.b g8,.i h0] g7) λL=>A.cond g5 (A.cmp .geq H J λh1=>A.call 125 [.v c,.i x,.i m,.i f,.v e] G λh2 h3=>A.un0 h2 (A.pa m 1 λh4=>L [.b h1,.i h4,.i a] h3)) (A.cmp .geq I J λh5=>A.pa m 1 λh6=>A.call 125 [.v c,.i h6,.i a,.i f,.v e] G λh7 h8=>A.un0 h7 (L [.b h5,.i x,.i m] h8))) λh9=>A.cond (!g1) (A.c4 147 [.v c,.i d,.i a,.i g,.v e] F λi0 i1=>k [.i f,.i i1,.b u,.b s,.i a] i0) (h9 [.i d] F)) (A.c15 148 [.v c,.i d,.i a,.i g,.v e] w λM n i2=>A.ps n d λN=>A.ps a n λO=>A.pq l 8 λP=>A.cmp .lss N O λi3=>A.join (λi4 i5=>A.k18 i4 λi6 i7 i8=>k [.i f,.i i7,.b i2,.b i6,.i i8] i5) λQ=>A.cond i3 (A.cmp .geq N P λi9=>A.call 125 [.v c,.i d,.i n,.i f,.v e] M λj0 j1=>A.un0 j0 (A.pa n 1 λj2=>Q [.b i9,.i j2,.i a] j1)) (A.cmp .geq O P λj3=>A.pa n 1 λj4=>A.call 125 [.v c,.i j4,.i a,.i f,.v e] M λj5 j6=>A.un0 j5 (Q [.b j3,.i d,.i n] j6))))) λS=>A.cond f0 (A.c1 146 [.v c,.i d,.i a,.v e] j λT j7=>A.cond j7 (K [] T) (S [] T)) (S [] j)) (A.cd .gtr d 0 (A.ps d 1 λj8=>A.ix 2 c j8 2 j λj9=>A.k7 j9 λk0 k1=>A.ix 2 c g 2 j λk2=>A.k7 k2 λk3 k5=>A.callv e [.agg ⟨[.int .i64 k0,.int .i64 k1]⟩,.agg ⟨[.int .i64 k3,.int .i64 k5]⟩] [.leaf (.i .i64)] j λk6 U=>A.k4 k6 λk8=>A.cmp .lss k8 0 λl0=>A.join (λl1 l2=>A.k4 l1 λy=>A.c15 148 [.v c,.i y,.i a,.i g,.v e] l2 λV o l3=>A.ps o y λW=>A.ps a o λX=>A.pq l 8 λY=>A.cmp .lss W X λl4=>A.join (λl5 l6=>A.k18 l5 λl7 l8 l9=>k [.i f,.i l8,.b l3,.b l7,.i l9] l6) λZ=>A.cond l4 (A.cmp .geq W Y λm0=>A.call 125 [.v c,.i y,.i o,.i f,.v e] V λm1 m2=>A.un0 m1 (A.pa o 1 λm3=>Z [.b m0,.i m3,.i a] m2)) (A.cmp .geq X Y λm4=>A.pa o 1 λm5=>A.call 125 [.v c,.i m5,.i a,.i f,.v e] V λm6 m7=>A.un0 m6 (Z [.b m4,.i y,.i o] m7))) λm8=>A.cond (!l0) (A.c4 147 [.v c,.i d,.i a,.i g,.v e] U λm9 n0=>k [.i f,.i n0,.b u,.b s,.i a] m9) (m8 [.i d] U)) (A.c15 148 [.v c,.i d,.i a,.i g,.v e] j λa0 p n1=>A.ps p d λa1=>A.ps a p λa2=>A.pq l 8 λa3=>A.cmp .lss a1 a2 λn2=>A.join (λn3 n4=>A.k18 n3 λn5 n6 n7=>k [.i f,.i n6,.b n1,.b n5,.i n7] n4) λa4=>A.cond n2 (A.cmp .geq a1 a3 λn8=>A.call 125 [.v c,.i d,.i p,.i f,.v e] a0 λn9 o0=>A.un0 n9 (A.pa p 1 λo1=>a4 [.b n8,.i o1,.i a] o0)) (A.cmp .geq a2 a3 λo2=>A.pa p 1 λo3=>A.call 125 [.v c,.i o3,.i a,.i f,.v e] a0 λo4 o5=>A.un0 o4 (a4 [.b o2,.i d,.i p] o5))))) (A.cd .gtr d 0 (A.ps d 1 λo6=>A.ix 2 c o6 2 j λo7=>A.k7 o7 λo8 o9=>A.ix 2 c g 2 j λp0=>A.k7 p0 λp1 p2=>A.callv e [.agg ⟨[.int .i64 o8,.int .i64 o9]⟩,.agg ⟨[.int .i64 p1,.int .i64 p2]⟩] [.leaf (.i .i64)] j λp3 a5=>A.k4 p3 λp4=>A.cmp .lss p4 0 λp5=>A.join (λp6 p7=>A.k4 p6 λz=>A.c15 148 [.v c,.i z,.i a,.i g,.v e] p7 λa6 q p8=>A.ps q z λa7=>A.ps a q λa8=>A.pq l 8 λa9=>A.cmp .lss a7 a8 λp9=>A.join (λq0 q1=>A.k18 q0 λq2 q3 q4=>k [.i f,.i q3,.b p8,.b q2,.i q4] q1) λb0=>A.cond p9 (A.cmp .geq a7 a9 λq5=>A.call 125 [.v c,.i z,.i q,.i f,.v e] a6 λq6 q7=>A.un0 q6 (A.pa q 1 λq8=>b0 [.b q5,.i q8,.i a] q7)) (A.cmp .geq a8 a9 λq9=>A.pa q 1 λr0=>A.call 125 [.v c,.i r0,.i a,.i f,.v e] a6 λr1 r2=>A.un0 r1 (b0 [.b q9,.i z,.i q] r2))) λr3=>A.cond (!p5) (A.c4 147 [.v c,.i d,.i a,.i g,.v e] a5 λr4 r5=>k [.i f,.i r5,.b u,.b s,.i a] r4) (r3 [.i d] a5)) (A.c15 148 [.v c,.i d,.i a,.i g,.v e] j λb1 r r6=>A.ps r d λb2=>A.ps a r λb3=>A.pq l 8 λb4=>A.cmp .lss b2 b3 λr7=>A.join (λr8 r9=>A.k18 r8 λs0 s1 s2=>k [.i f,.i s1,.b r6,.b s0,.i s2] r9) λb5=>A.cond r7 (A.cmp .geq b2 b4 λs3=>A.call 125 [.v c,.i d,.i r,.i f,.v e] b1 λs4 s5=>A.un0 s4 (A.pa r 1 λs6=>b5 [.b s3,.i s6,.i a] s5)) (A.cmp .geq b3 b4 λs7=>A.pa r 1 λs8=>A.call 125 [.v c,.i s8,.i a,.i f,.v e] b1 λs9 t0=>A.un0 s9 (b5 [.b s7,.i d,.i r] t0))))) λb6=>A.cond e7 (A.call 145 [.v c,.i d,.i a,.v e] C λt1 t2=>A.un0 t1 (A.ps a 1 λt3=>A.ps D d λt4=>A.ps t3 t4 λt5=>b6 [.i t5,.i 1] t2)) (b6 [.i D,.i E] C)) λb7=>A.cond (!s) (A.call 143 [.v c,.i d,.i a,.v e] t λt6 t7=>A.un0 t6 (A.ps B 1 λt8=>b7 [.i t8] t7)) (b7 [.i B] t)))) [.i c0,.i b8,.b true,.b true,.i b9] h
def f126:R:=A.k17 ls λc b8 b9 c0 e=>A.loop (λc2 c3 t=>A.unI c3 λB c5=>A.unI c5 λd c6=>A.unB c6 λu c7=>A.unB c7 λs c8=>A.k4 c8 λa=>A.join (λd0 d1=>A.unI d0 λd2 d3=>A.unI d3 λd4 d5=>A.unB d5 λd6 d7=>A.unB d7 λd8 d9=>A.k4 d9 λe0=>c2 [.i d2,.i d4,.b d6,.b d8,.i e0] d1) λk=>A.ps a d λl=>A.cd .leq l 12 (A.call 149 [.v c,.i d,.i a,.v e] t λe1 e2=>A.un0 e1 (K [] e2)) (A.cd .eql B 0 (A.call 150 [.v c,.i d,.i a,.v e] t λe3 e4=>A.un0 e3 (K [] e4)) (A.join (λe5 e6=>A.k4 e5 λf=>A.c9 152 [.v c,.i d,.i a,.v e] e6 λC D E=>A.cmp .eql E 2 λe7=>A.join (λe8 j=>A.k9 e8 λg e9=>A.cond s (A.cond u (A.cmp .eql e9 1 λf0=>A.join (λf1 w=>A.un0 f1 (A.cd .gtr d 0 (A.ps d 1 λf2=>A.ix 3 c f2 3 w λf3=>A.k8 f3 λf4 f5 f6=>A.ix 3 c g 3 w λf7=>A.k8 f7 λf8 f9 g0=>A.callv e [.agg ⟨[.int .u8 f4,.int .i64 f5,.int .i64 f6]⟩,.agg ⟨[.int .u8 f8,.int .i64 f9,.int .i64 g0]⟩] [.leaf (.i .i64)] w λg1 F=>A.k4 g1 λg2=>A.cmp .lss g2 0 λg3=>A.join (λg4 g5=>A.k4 g4 λx=>A.c15 156 [.v c,.i x,.i a,.i g,.v e] g5 λG m g6=>A.ps m x λH=>A.ps a m λI=>A.pq l 8 λJ=>A.cmp .lss H I λg7=>A.join (λg8 g9=>A.k18 g8 λh0 h1 h2=>k [.i f,.i h1,.b g6,.b h0,.i h2] g9) λL=>A.cond g7 (A.cmp .geq H J λh3=>A.call 126 [.v c,.i x,.i m,.i f,.v e] G λh4 h5=>A.un0 h4 (A.pa m 1 λh6=>L [.b h3,.i h6,.i a] h5)) (A.cmp .geq I J λh7=>A.pa m 1 λh8=>A.call 126 [.v c,.i h8,.i a,.i f,.v e] G λh9 i0=>A.un0 h9 (L [.b h7,.i x,.i m] i0))) λi1=>A.cond (!g3) (A.c4 155 [.v c,.i d,.i a,.i g,.v e] F λi2 i3=>k [.i f,.i i3,.b u,.b s,.i a] i2) (i1 [.i d] F)) (A.c15 156 [.v c,.i d,.i a,.i g,.v e] w λM n i4=>A.ps n d λN=>A.ps a n λO=>A.pq l 8 λP=>A.cmp .lss N O λi5=>A.join (λi6 i7=>A.k18 i6 λi8 i9 j0=>k [.i f,.i i9,.b i4,.b i8,.i j0] i7) λQ=>A.cond i5 (A.cmp .geq N P λj1=>A.call 126 [.v c,.i d,.i n,.i f,.v e] M λj2 j3=>A.un0 j2 (A.pa n 1 λj4=>Q [.b j1,.i j4,.i a] j3)) (A.cmp .geq O P λj5=>A.pa n 1 λj6=>A.call 126 [.v c,.i j6,.i a,.i f,.v e] M λj7 j8=>A.un0 j7 (Q [.b j5,.i d,.i n] j8))))) λS=>A.cond f0 (A.c1 154 [.v c,.i d,.i a,.v e] j λT j9=>A.cond j9 (K [] T) (S [] T)) (S [] j)) (A.cd .gtr d 0 (A.ps d 1 λk0=>A.ix 3 c k0 3 j λk1=>A.k8 k1 λk2 k3 k5=>A.ix 3 c g 3 j λk6=>A.k8 k6 λk7 l0 l1=>A.callv e [.agg ⟨[.int .u8 k2,.int .i64 k3,.int .i64 k5]⟩,.agg ⟨[.int .u8 k7,.int .i64 l0,.int .i64 l1]⟩] [.leaf (.i .i64)] j λl2 U=>A.k4 l2 λl3=>A.cmp .lss l3 0 λl4=>A.join (λl5 l6=>A.k4 l5 λy=>A.c15 156 [.v c,.i y,.i a,.i g,.v e] l6 λV o l7=>A.ps o y λW=>A.ps a o λX=>A.pq l 8 λY=>A.cmp .lss W X λl8=>A.join (λl9 m0=>A.k18 l9 λm1 m2 m3=>k [.i f,.i m2,.b l7,.b m1,.i m3] m0) λZ=>A.cond l8 (A.cmp .geq W Y λm4=>A.call 126 [.v c,.i y,.i o,.i f,.v e] V λm5 m6=>A.un0 m5 (A.pa o 1 λm7=>Z [.b m4,.i m7,.i a] m6)) (A.cmp .geq X Y λm8=>A.pa o 1 λm9=>A.call 126 [.v c,.i m9,.i a,.i f,.v e] V λn0 n1=>A.un0 n0 (Z [.b m8,.i y,.i o] n1))) λn2=>A.cond (!l4) (A.c4 155 [.v c,.i d,.i a,.i g,.v e] U λn3 n4=>k [.i f,.i n4,.b u,.b s,.i a] n3) (n2 [.i d] U)) (A.c15 156 [.v c,.i d,.i a,.i g,.v e] j λa0 p n5=>A.ps p d λa1=>A.ps a p λa2=>A.pq l 8 λa3=>A.cmp .lss a1 a2 λn6=>A.join (λn7 n8=>A.k18 n7 λn9 o0 o1=>k [.i f,.i o0,.b n5,.b n9,.i o1] n8) λa4=>A.cond n6 (A.cmp .geq a1 a3 λo2=>A.call 126 [.v c,.i d,.i p,.i f,.v e] a0 λo3 o4=>A.un0 o3 (A.pa p 1 λo5=>a4 [.b o2,.i o5,.i a] o4)) (A.cmp .geq a2 a3 λo6=>A.pa p 1 λo7=>A.call 126 [.v c,.i o7,.i a,.i f,.v e] a0 λo8 o9=>A.un0 o8 (a4 [.b o6,.i d,.i p] o9))))) (A.cd .gtr d 0 (A.ps d 1 λp0=>A.ix 3 c p0 3 j λp1=>A.k8 p1 λp2 p3 p4=>A.ix 3 c g 3 j λp5=>A.k8 p5 λp6 p7 p8=>A.callv e [.agg ⟨[.int .u8 p2,.int .i64 p3,.int .i64 p4]⟩,.agg ⟨[.int .u8 p6,.int .i64 p7,.int .i64 p8]⟩] [.leaf (.i .i64)] j λp9 a5=>A.k4 p9 λq0=>A.cmp .lss q0 0 λq1=>A.join (λq2 q3=>A.k4 q2 λz=>A.c15 156 [.v c,.i z,.i a,.i g,.v e] q3 λa6 q q4=>A.ps q z λa7=>A.ps a q λa8=>A.pq l 8 λa9=>A.cmp .lss a7 a8 λq5=>A.join (λq6 q7=>A.k18 q6 λq8 q9 r0=>k [.i f,.i q9,.b q4,.b q8,.i r0] q7) λb0=>A.cond q5 (A.cmp .geq a7 a9 λr1=>A.call 126 [.v c,.i z,.i q,.i f,.v e] a6 λr2 r3=>A.un0 r2 (A.pa q 1 λr4=>b0 [.b r1,.i r4,.i a] r3)) (A.cmp .geq a8 a9 λr5=>A.pa q 1 λr6=>A.call 126 [.v c,.i r6,.i a,.i f,.v e] a6 λr7 r8=>A.un0 r7 (b0 [.b r5,.i z,.i q] r8))) λr9=>A.cond (!q1) (A.c4 155 [.v c,.i d,.i a,.i g,.v e] a5 λs0 s1=>k [.i f,.i s1,.b u,.b s,.i a] s0) (r9 [.i d] a5)) (A.c15 156 [.v c,.i d,.i a,.i g,.v e] j λb1 r s2=>A.ps r d λb2=>A.ps a r λb3=>A.pq l 8 λb4=>A.cmp .lss b2 b3 λs3=>A.join (λs4 s5=>A.k18 s4 λs6 s7 s8=>k [.i f,.i s7,.b s2,.b s6,.i s8] s5) λb5=>A.cond s3 (A.cmp .geq b2 b4 λs9=>A.call 126 [.v c,.i d,.i r,.i f,.v e] b1 λt0 t1=>A.un0 t0 (A.pa r 1 λt2=>b5 [.b s9,.i t2,.i a] t1)) (A.cmp .geq b3 b4 λt3=>A.pa r 1 λt4=>A.call 126 [.v c,.i t4,.i a,.i f,.v e] b1 λt5 t6=>A.un0 t5 (b5 [.b t3,.i d,.i r] t6))))) λb6=>A.cond e7 (A.call 153 [.v c,.i d,.i a,.v e] C λt7 t8=>A.un0 t7 (A.ps a 1 λt9=>A.ps D d λu0=>A.ps t9 u0 λu1=>b6 [.i u1,.i 1] t8)) (b6 [.i D,.i E] C)) λb7=>A.cond (!s) (A.call 151 [.v c,.i d,.i a,.v e] t λu2 u3=>A.un0 u2 (A.ps B 1 λu4=>b7 [.i u4] u3)) (b7 [.i B] t)))) [.i c0,.i b8,.b true,.b true,.i b9] h
def f127:R:=A.k4 ls λa=>A.cmp .neq a a λc=>K [.b c] h
def f128:R:=A.unV ls λc b7=>A.k10 b7 λb8 b9 c0=>A.loop (λc2 c3 s=>A.unI c3 λz c5=>A.unI c5 λd c6=>A.unB c6 λt c7=>A.unB c7 λr c8=>A.k4 c8 λa=>A.join (λd0 d1=>A.unI d0 λd2 d3=>A.unI d3 λd4 d5=>A.unB d5 λd6 d7=>A.unB d7 λd8 d9=>A.k4 d9 λe0=>c2 [.i d2,.i d4,.b d6,.b d8,.i e0] d1) λj=>A.ps a d λk=>A.cd .leq k 12 (A.call 157 [.v c,.i d,.i a] s λe1 e2=>A.un0 e1 (K [] e2)) (A.cd .eql z 0 (A.call 158 [.v c,.i d,.i a] s λe3 e4=>A.un0 e3 (K [] e4)) (A.join (λe5 e6=>A.k4 e5 λe=>A.c9 160 [.v c,.i d,.i a] e6 λB C D=>A.cmp .eql D 2 λe7=>A.join (λe8 g=>A.k9 e8 λf e9=>A.cond r (A.cond t (A.cmp .eql e9 1 λf0=>A.join (λf1 u=>A.un0 f1 (A.cd .gtr d 0 (A.ps d 1 λf2=>A.ix 1 c f2 1 u λf3=>A.k5 f3 λf4=>A.ix 1 c f 1 u λf5=>A.k5 f5 λf6=>A.c1 163 [.i f4,.i f6] u λE f7=>A.join (λf8 f9=>A.k4 f8 λw=>A.c15 165 [.v c,.i w,.i a,.i f] f9 λF l g0=>A.ps l w λG=>A.ps a l λH=>A.pq k 8 λI=>A.cmp .lss G H λg1=>A.join (λg2 g3=>A.k18 g2 λg4 g5 g6=>j [.i e,.i g5,.b g0,.b g4,.i g6] g3) λJ=>A.cond g1 (A.cmp .geq G I λg7=>A.call 128 [.v c,.i w,.i l,.i e] F λg8 g9=>A.un0 g8 (A.pa l 1 λh0=>J [.b g7,.i h0,.i a] g9)) (A.cmp .geq H I λh1=>A.pa l 1 λh2=>A.call 128 [.v c,.i h2,.i a,.i e] F λh3 h4=>A.un0 h3 (J [.b h1,.i w,.i l] h4))) λh5=>A.cond (!f7) (A.c4 164 [.v c,.i d,.i a,.i f] E λh6 h7=>j [.i e,.i h7,.b t,.b r,.i a] h6) (h5 [.i d] E)) (A.c15 165 [.v c,.i d,.i a,.i f] u λL m h8=>A.ps m d λM=>A.ps a m λN=>A.pq k 8 λO=>A.cmp .lss M N λh9=>A.join (λi0 i1=>A.k18 i0 λi2 i3 i4=>j [.i e,.i i3,.b h8,.b i2,.i i4] i1) λP=>A.cond h9 (A.cmp .geq M O λi5=>A.call 128 [.v c,.i d,.i m,.i e] L λi6 i7=>A.un0 i6 (A.pa m 1 λi8=>P [.b i5,.i i8,.i a] i7)) (A.cmp .geq N O λi9=>A.pa m 1 λj0=>A.call 128 [.v c,.i j0,.i a,.i e] L λj1 j2=>A.un0 j1 (P [.b i9,.i d,.i m] j2))))) λQ=>A.cond f0 (A.c1 162 [.v c,.i d,.i a] g λS j3=>A.cond j3 (K [] S) (Q [] S)) (Q [] g)) (A.cd .gtr d 0 (A.ps d 1 λj4=>A.ix 1 c j4 1 g λj5=>A.k5 j5 λj6=>A.ix 1 c f 1 g λj7=>A.k5 j7 λj8=>A.c1 163 [.i j6,.i j8] g λT j9=>A.join (λk0 k1=>A.k4 k0 λx=>A.c15 165 [.v c,.i x,.i a,.i f] k1 λU n k2=>A.ps n x λV=>A.ps a n λW=>A.pq k 8 λX=>A.cmp .lss V W λk3=>A.join (λk6 k7=>A.k18 k6 λk8 l0 l1=>j [.i e,.i l0,.b k2,.b k8,.i l1] k7) λY=>A.cond k3 (A.cmp .geq V X λl2=>A.call 128 [.v c,.i x,.i n,.i e] U λl3 l4=>A.un0 l3 (A.pa n 1 λl5=>Y [.b l2,.i l5,.i a] l4)) (A.cmp .geq W X λl6=>A.pa n 1 λl7=>A.call 128 [.v c,.i l7,.i a,.i e] U λl8 l9=>A.un0 l8 (Y [.b l6,.i x,.i n] l9))) λm0=>A.cond (!j9) (A.c4 164 [.v c,.i d,.i a,.i f] T λm1 m2=>j [.i e,.i m2,.b t,.b r,.i a] m1) (m0 [.i d] T)) (A.c15 165 [.v c,.i d,.i a,.i f] g λZ o m3=>A.ps o d λa0=>A.ps a o λa1=>A.pq k 8 λa2=>A.cmp .lss a0 a1 λm4=>A.join (λm5 m6=>A.k18 m5 λm7 m8 m9=>j [.i e,.i m8,.b m3,.b m7,.i m9] m6) λa3=>A.cond m4 (A.cmp .geq a0 a2 λn0=>A.call 128 [.v c,.i d,.i o,.i e] Z λn1 n2=>A.un0 n1 (A.pa o 1 λn3=>a3 [.b n0,.i n3,.i a] n2)) (A.cmp .geq a1 a2 λn4=>A.pa o 1 λn5=>A.call 128 [.v c,.i n5,.i a,.i e] Z λn6 n7=>A.un0 n6 (a3 [.b n4,.i d,.i o] n7))))) (A.cd .gtr d 0 (A.ps d 1 λn8=>A.ix 1 c n8 1 g λn9=>A.k5 n9 λo0=>A.ix 1 c f 1 g λo1=>A.k5 o1 λo2=>A.c1 163 [.i o0,.i o2] g λa4 o3=>A.join (λo4 o5=>A.k4 o4 λy=>A.c15 165 [.v c,.i y,.i a,.i f] o5 λa5 p o6=>A.ps p y λa6=>A.ps a p λa7=>A.pq k 8 λa8=>A.cmp .lss a6 a7 λo7=>A.join (λo8 o9=>A.k18 o8 λp0 p1 p2=>j [.i e,.i p1,.b o6,.b p0,.i p2] o9) λa9=>A.cond o7 (A.cmp .geq a6 a8 λp3=>A.call 128 [.v c,.i y,.i p,.i e] a5 λp4 p5=>A.un0 p4 (A.pa p 1 λp6=>a9 [.b p3,.i p6,.i a] p5)) (A.cmp .geq a7 a8 λp7=>A.pa p 1 λp8=>A.call 128 [.v c,.i p8,.i a,.i e] a5 λp9 q0=>A.un0 p9 (a9 [.b p7,.i y,.i p] q0))) λq1=>A.cond (!o3) (A.c4 164 [.v c,.i d,.i a,.i f] a4 λq2 q3=>j [.i e,.i q3,.b t,.b r,.i a] q2) (q1 [.i d] a4)) (A.c15 165 [.v c,.i d,.i a,.i f] g λb0 q q4=>A.ps q d λb1=>A.ps a q λb2=>A.pq k 8 λb3=>A.cmp .lss b1 b2 λq5=>A.join (λq6 q7=>A.k18 q6 λq8 q9 r0=>j [.i e,.i q9,.b q4,.b q8,.i r0] q7) λb4=>A.cond q5 (A.cmp .geq b1 b3 λr1=>A.call 128 [.v c,.i d,.i q,.i e] b0 λr2 r3=>A.un0 r2 (A.pa q 1 λr4=>b4 [.b r1,.i r4,.i a] r3)) (A.cmp .geq b2 b3 λr5=>A.pa q 1 λr6=>A.call 128 [.v c,.i r6,.i a,.i e] b0 λr7 r8=>A.un0 r7 (b4 [.b r5,.i d,.i q] r8))))) λb5=>A.cond e7 (A.call 161 [.v c,.i d,.i a] B λr9 s0=>A.un0 r9 (A.ps a 1 λs1=>A.ps C d λs2=>A.ps s1 s2 λs3=>b5 [.i s3,.i 1] s0)) (b5 [.i C,.i D] B)) λb6=>A.cond (!r) (A.call 159 [.v c,.i d,.i a] s λs4 s5=>A.un0 s4 (A.ps z 1 λs6=>b6 [.i s6] s5)) (b6 [.i z] s)))) [.i c0,.i b8,.b true,.b true,.i b9] h
def f129:R:=A.unV ls λd f=>A.k0 f λg=>A.ln d λj=>A.loop (λk l c=>A.k4 l λa=>A.cd .lss a j (A.ix 3 d a 3 c λm=>A.k12 m λn o p=>A.callv g [.agg ⟨[.int .i64 n,.int .u8 o,.int .u8 p]⟩] [.leaf .b] c λq e=>A.k1 q λr=>A.cond r (K [.i a] e) (A.pa a 1 λs=>k [.i s] e)) (K [.i (-1)] c)) [.i 0] h
def f130:R:=A.k11 ls λa b c e=>A.c4 53 [.i a,.i b] h λf g=>A.cd .neq g 0 (K [.i 0,.i 0,.i 0,.i g] f) (A.c10 98 [.i a,.i b,.i c,.i e] f λd j k l=>A.cd .neq l 0 (K [.i 0,.i 0,.i 0,.i 7] d) (A.eqs [(.i j,.i c),(.i k,.i e)] λm=>A.cond (!m) (K [.i 0,.i 0,.i 0,.i 7] d) (A.c10 107 [.i a,.i b,.i c] d λn o p q=>K [.i o,.i p,.i q,.i 0] n)))
def f131:R:=A.k11 ls λb c d e=>A.c4 56 [.i b,.i c,.i d] h λa p=>A.cd .neq p 0 (K [.i 0,.i 0,.i 1] a) (A.cd .gtr e 2 (K [.i 0,.i 0,.i 1] a) (A.opt (inB 4 d) λa2=>A.opt (mf gl0 0 [(d,17)] 17) λq=>A.ucI .i64 q λa3 r=>A.ucI .i64 r λa4 s=>A.ucI .u8 s λf t=>A.ucI .i64 t λg u=>A.ucI .i64 u λa5 v=>A.ucI .i64 v λa6 w=>A.ucI .u8 w λa7 x=>A.ucI .i64 x λa8 y=>A.ucI .i64 y λa9 z=>A.ucI .u8 z λb0 B=>A.ucI .i64 B λb1 C=>A.ucI .i64 C λb2 D=>A.ucI .u8 D λb3 E=>A.ucI .i64 E λb4 F=>A.ucI .i64 F λb5 G=>A.k7 G λb6 b7=>A.pa b g λH=>A.cmp .eql e 1 λI=>A.join (λJ L=>A.k9 J λj k=>A.c4 132 [.i j,.i k] L λl M=>A.cd .neq M 0 (K [.i 0,.i 0,.i 3] l) (K [.i j,.i k,.i 0] l)) λm=>A.cond I (A.pa b c λN=>A.pa N 1 λO=>m [.i 3,.i O] a) (A.cmp .eql e 2 λP=>A.join (λQ S=>A.k9 Q λT U=>m [.i T,.i U] S) λn=>A.cond P (A.ps c b λV=>n [.i 4,.i V] a) (A.cmp .eql f 2 λW=>A.join (λX Y=>A.k9 X λZ a0=>n [.i Z,.i a0] Y) λo=>A.cond W (A.pa c g λa1=>o [.i f,.i a1] a) (o [.i f,.i H] a)))))
def f132:R:=A.k9 ls λa b=>A.cd .lss a 1 (K [.i 1] h) (A.cd .gtr a 4 (K [.i 1] h) (A.cd .lss b (-4096) (K [.i 1] h) (A.cd .gtr b 4096 (K [.i 1] h) (K [.i 0] h))))
def f133:R:=A.k10 ls λa b g=>A.pm 2 a λc=>A.pa c 1 λd=>A.pm 2 b λe=>A.pa e 1 λf=>K [.i d,.i f] h
def f134:R:=A.unI ls λa m=>A.k11 m λb c d e=>A.c4 75 [.i a,.i b,.i c] h λf n=>A.cd .neq n 0 (K [.i 0,.i 0,.i 1] f) (A.c4 166 [.i d,.i e] f λg o=>A.cd .neq o 0 (K [.i 0,.i 0,.i 1] g) (A.opt (inB 8 a) λD=>A.opt (mf gl1 0 [(a,4)] 4) λp=>A.ucI .i64 p λq r=>A.ucI .i64 r λs t=>A.k7 t λu v=>A.c9 108 [.i q,.i s,.i u,.i v,.i d,.i e] g λw x y=>A.pm 2 b λz=>A.pa x z λj=>A.pm 2 c λB=>A.pa y B λk=>A.c4 166 [.i j,.i k] w λl C=>A.cd .neq C 0 (K [.i 0,.i 0,.i 3] l) (K [.i j,.i k,.i 0] l)))
def f135:R:=A.unV ls λa c=>A.k9 c λd e=>A.c15 167 [.v a,.i d,.i e,.v (.func (.func 168) ⟨[]⟩ ⟨[]⟩)] h λf g j=>K [.i g,.b j] f
def f141:R:=A.k19 ls λb f k l=>A.pa f 1 λm=>A.loop (λn o g=>A.k4 o λe=>A.cd .lss e k (A.join (λp q=>A.un0 p (A.pa e 1 λr=>n [.i r] q)) λj=>A.loop (λs t c=>A.k4 t λa=>A.cd .gtr a f (A.ix 2 b a 2 c λu=>A.k7 u λv w=>A.ps a 1 λx=>A.ix 2 b x 2 c λy=>A.k7 y λz B=>A.callv l [.agg ⟨[.int .i64 v,.int .i64 w]⟩,.agg ⟨[.int .i64 z,.int .i64 B]⟩] [.leaf (.i .i64)] c λC d=>A.k4 C λD=>A.cd .lss D 0 (A.ps a 1 λE=>A.ps a 1 λF=>A.ix 2 b F 2 d λG=>A.k7 G λH I=>A.ix 2 b a 2 d λJ=>A.k7 J λL M=>A.opt (idS 2 b a) λN=>A.heap (.st N [.int .i64 H,.int .i64 I]) d λT O=>A.opt (idS 2 b E) λP=>A.heap (.st P [.int .i64 L,.int .i64 M]) O λU Q=>A.ps a 1 λS=>s [.i S] Q) (j [] d)) (j [] c)) [.i e] g) (K [] g)) [.i m] h
def f149:R:=A.k19 ls λb f k l=>A.pa f 1 λm=>A.loop (λn o g=>A.k4 o λe=>A.cd .lss e k (A.join (λp q=>A.un0 p (A.pa e 1 λr=>n [.i r] q)) λj=>A.loop (λs t c=>A.k4 t λa=>A.cd .gtr a f (A.ix 3 b a 3 c λu=>A.k8 u λv w x=>A.ps a 1 λy=>A.ix 3 b y 3 c λz=>A.k8 z λB C D=>A.callv l [.agg ⟨[.int .u8 v,.int .i64 w,.int .i64 x]⟩,.agg ⟨[.int .u8 B,.int .i64 C,.int .i64 D]⟩] [.leaf (.i .i64)] c λE d=>A.k4 E λF=>A.cd .lss F 0 (A.ps a 1 λG=>A.ps a 1 λH=>A.ix 3 b H 3 d λI=>A.k8 I λJ L M=>A.ix 3 b a 3 d λN=>A.k8 N λO P Q=>A.opt (idS 3 b a) λS=>A.heap (.st S [.int .u8 J,.int .i64 L,.int .i64 M]) d λX T=>A.opt (idS 3 b G) λU=>A.heap (.st U [.int .u8 O,.int .i64 P,.int .i64 Q]) T λY V=>A.ps a 1 λW=>s [.i W] V) (j [] d)) (j [] c)) [.i e] g) (K [] g)) [.i m] h
def f157:R:=A.unV ls λb k=>A.k9 k λf l=>A.pa f 1 λm=>A.loop (λn o g=>A.k4 o λe=>A.cd .lss e l (A.join (λp q=>A.un0 p (A.pa e 1 λr=>n [.i r] q)) λj=>A.loop (λs t c=>A.k4 t λa=>A.cd .gtr a f (A.ix 1 b a 1 c λu=>A.k5 u λv=>A.ps a 1 λw=>A.ix 1 b w 1 c λx=>A.k5 x λy=>A.c1 163 [.i v,.i y] c λd z=>A.cond z (A.ps a 1 λB=>A.ps a 1 λC=>A.ix 1 b C 1 d λD=>A.k5 D λE=>A.ix 1 b a 1 d λF=>A.k5 F λG=>A.opt (idS 1 b a) λH=>A.heap (.st H [.int .i64 E]) d λN I=>A.opt (idS 1 b B) λJ=>A.heap (.st J [.int .i64 G]) I λO L=>A.ps a 1 λM=>s [.i M] L) (j [] d)) (j [] c)) [.i e] g) (K [] g)) [.i m] h
def f158:R:=A.unV ls λb j=>A.k9 j λa k=>A.ps k a λe=>A.ps e 1 λl=>A.pq l 2 λm=>A.loop (λn o g=>A.k4 o λf=>A.cd .geq f 0 (A.call 176 [.v b,.i f,.i e,.i a] g λp q=>A.un0 p (A.ps f 1 λr=>n [.i r] q)) (A.ps e 1 λs=>A.loop (λt u d=>A.k4 u λc=>A.cd .geq c 0 (A.pa a c λw=>A.pa a c λx=>A.ix 1 b x 1 d λy=>A.k5 y λz=>A.ix 1 b a 1 d λB=>A.k5 B λC=>A.opt (idS 1 b a) λD=>A.heap (.st D [.int .i64 z]) d λL E=>A.opt (idS 1 b w) λF=>A.heap (.st F [.int .i64 C]) E λM G=>A.call 176 [.v b,.i 0,.i c,.i a] G λH I=>A.un0 H (A.ps c 1 λJ=>t [.i J] I)) (K [] d)) [.i s] g)) [.i m] h
def f159:R:=A.unV ls λc o=>A.k9 o λb p=>A.ps p b λa=>A.cmp .geq a 8 λq=>A.join (λr s=>A.un0 r (K [] s)) λg=>A.cond q (A.conv .u64 a λt=>A.new (.cells [.int .u64 0] 1 true) h λj u=>A.heap (.st (.pointer (some ⟨j,0,none⟩)) [.int .u64 t]) u λa3 w=>A.c4 137 [.i a] w λx y=>A.pq a 4 λz=>A.pm z 2 λB=>A.pa b B λC=>A.ps C 1 λD=>A.loop (λE F k=>A.k4 F λd=>A.pq a 4 λG=>A.pm G 2 λH=>A.pa b H λI=>A.pa I 1 λJ=>A.cd .leq d J (A.c4 138 [.v (.pointer (some ⟨j,0,none⟩))] k λl L=>A.ari .sub .u64 y 1 λM=>A.ari .and .u64 L M λN=>A.ci N λe=>A.cmp .geq e a λO=>A.join (λP f=>A.k4 P λm=>A.pa b m λQ=>A.pa b m λS=>A.ix 1 c S 1 f λT=>A.k5 T λU=>A.ix 1 c d 1 f λV=>A.k5 V λW=>A.opt (idS 1 c d) λX=>A.heap (.st X [.int .i64 U]) f λa4 Y=>A.opt (idS 1 c Q) λZ=>A.heap (.st Z [.int .i64 W]) Y λa5 a0=>A.pa d 1 λa1=>E [.i a1] a0) λn=>A.cond O (A.ps e a λa2=>n [.i a2] l) (n [.i e] l)) (g [] k)) [.i D] x) (g [] h)
def f160:R:=A.unV ls λc p=>A.k9 p λd q=>A.ps q d λa=>A.new (.cells [.int .i64 0] 1 true) h λb f=>A.pq a 4 λr=>A.pm r 1 λs=>A.pa d s λk=>A.pq a 4 λt=>A.pm t 2 λu=>A.pa d u λg=>A.pq a 4 λw=>A.pm w 3 λx=>A.pa d x λl=>A.cmp .geq a 8 λy=>A.join (λz e=>A.k4 z λj=>A.peek (.lg cc 1 (.pointer (some ⟨b,0,none⟩))) e λB=>A.k5 B λm=>A.cd .eql m 0 (K [.i j,.i 1] e) (A.cd .eql m 12 (K [.i j,.i 2] e) (K [.i j,.i 0] e))) λn=>A.cond y (A.cmp .geq a 50 λC=>A.join (λD E=>A.k10 D λF G H=>A.c4 178 [.v c,.i F,.i G,.i H,.v (.pointer (some ⟨b,0,none⟩))] E λI J=>n [.i J] I) λo=>A.cond C (A.c4 177 [.v c,.i k,.v (.pointer (some ⟨b,0,none⟩))] f λL M=>A.c4 177 [.v c,.i g,.v (.pointer (some ⟨b,0,none⟩))] L λN O=>A.c4 177 [.v c,.i l,.v (.pointer (some ⟨b,0,none⟩))] N λP Q=>o [.i M,.i O,.i Q] P) (o [.i k,.i g,.i l] f)) (n [.i g] f)
def f161:R:=A.unV ls λa e=>A.k9 e λf g=>A.ps g 1 λj=>A.loop (λk l b=>A.k9 l λc d=>A.cd .lss c d (A.ix 1 a d 1 b λm=>A.k5 m λn=>A.ix 1 a c 1 b λo=>A.k5 o λp=>A.opt (idS 1 a c) λq=>A.heap (.st q [.int .i64 n]) b λw r=>A.opt (idS 1 a d) λs=>A.heap (.st s [.int .i64 p]) r λx t=>A.pa c 1 λu=>A.ps d 1 λv=>k [.i u,.i v] t) (K [] b)) [.i f,.i j] h
def f162:R:=A.unV ls λa B=>A.k9 B λp g=>A.pa p 1 λC=>A.loop (λD E q=>A.k9 E λF r=>A.cd .lss r 5 (A.join (λG j=>A.k4 G λc=>A.cd .eql c g (K [.b true] j) (A.ps g p λH=>A.cd .lss H 50 (K [.b false] j) (A.ps c 1 λI=>A.ps c 1 λJ=>A.ix 1 a J 1 j λL=>A.k5 L λM=>A.ix 1 a c 1 j λN=>A.k5 N λO=>A.opt (idS 1 a c) λP=>A.heap (.st P [.int .i64 M]) j λf5 Q=>A.opt (idS 1 a I) λS=>A.heap (.st S [.int .i64 O]) Q λf6 s=>A.ps c p λT=>A.cmp .geq T 2 λU=>A.join (λV t=>A.un0 V (A.ps g c λW=>A.cmp .geq W 2 λX=>A.join (λY Z=>A.un0 Y (A.pa r 1 λa0=>D [.i c,.i a0] Z)) λu=>A.cond X (A.pa c 1 λa1=>A.join (λa2 a3=>A.un0 a2 (u [] a3)) λv=>A.loop (λa4 a5 k=>A.k4 a5 λd=>A.cd .lss d g (A.ix 1 a d 1 k λa6=>A.k5 a6 λa7=>A.ps d 1 λa8=>A.ix 1 a a8 1 k λa9=>A.k5 a9 λb0=>A.c1 163 [.i a7,.i b0] k λl b1=>A.cond (!b1) (v [] l) (A.ps d 1 λb2=>A.ps d 1 λb3=>A.ix 1 a b3 1 l λb4=>A.k5 b4 λb5=>A.ix 1 a d 1 l λb6=>A.k5 b6 λb7=>A.opt (idS 1 a d) λb8=>A.heap (.st b8 [.int .i64 b5]) l λf7 b9=>A.opt (idS 1 a b2) λc0=>A.heap (.st c0 [.int .i64 b7]) b9 λf8 c2=>A.pa d 1 λc3=>a4 [.i c3] c2)) (v [] k)) [.i a1] t) (u [] t))) λw=>A.cond U (A.ps c 1 λc4=>A.join (λc5 c6=>A.un0 c5 (w [] c6)) λx=>A.loop (λc7 c8 m=>A.k4 c8 λe=>A.cd .geq e 1 (A.ix 1 a e 1 m λc9=>A.k5 c9 λd0=>A.ps e 1 λd1=>A.ix 1 a d1 1 m λd2=>A.k5 d2 λd3=>A.c1 163 [.i d0,.i d3] m λn d4=>A.cond (!d4) (x [] n) (A.ps e 1 λd5=>A.ps e 1 λd6=>A.ix 1 a d6 1 n λd7=>A.k5 d7 λd8=>A.ix 1 a e 1 n λd9=>A.k5 d9 λe0=>A.opt (idS 1 a e) λe1=>A.heap (.st e1 [.int .i64 d8]) n λf9 e2=>A.opt (idS 1 a d5) λe3=>A.heap (.st e3 [.int .i64 e0]) e2 λg0 e4=>A.ps e 1 λe5=>c7 [.i e5] e4)) (x [] m)) [.i c4] s) (w [] s)))) λy=>A.loop (λe6 e7 o=>A.k4 e7 λf=>A.cd .lss f g (A.ix 1 a f 1 o λe8=>A.k5 e8 λe9=>A.ps f 1 λf0=>A.ix 1 a f0 1 o λf1=>A.k5 f1 λf2=>A.c1 163 [.i e9,.i f2] o λz f3=>A.cond (!f3) (A.pa f 1 λf4=>e6 [.i f4] z) (y [.i f] z)) (y [.i f] o)) [.i F] q) (K [.b false] q)) [.i C,.i 0] h
def f163:R:=A.k9 ls λa c=>A.join (λg j=>A.k1 g λk=>K [.b k] j) λd=>A.c1 72 [.i a] h λe l=>A.cond l (A.c1 72 [.i c] e λf m=>A.cond (!m) (d [.b true] f) (A.cmp .lss a c λn=>d [.b n] f)) (A.cmp .lss a c λo=>d [.b o] e)
def f164:R:=A.unV ls λa r=>A.k10 r λc s l=>A.ix 1 a l 1 h λt=>A.k5 t λu=>A.ix 1 a c 1 h λv=>A.k5 v λw=>A.opt (idS 1 a c) λx=>A.heap (.st x [.int .i64 u]) h λb3 y=>A.opt (idS 1 a l) λz=>A.heap (.st z [.int .i64 w]) y λb4 B=>A.pa c 1 λC=>A.ps s 1 λD=>A.loop (λE F G=>A.k9 F λH m=>A.join (λI J=>A.k4 I λb=>A.join (λL f=>A.k4 L λg=>A.cd .gtr b g (K [.i b] f) (A.ix 1 a g 1 f λM=>A.k5 M λN=>A.ix 1 a b 1 f λO=>A.k5 O λP=>A.opt (idS 1 a b) λQ=>A.heap (.st Q [.int .i64 N]) f λb5 S=>A.opt (idS 1 a g) λT=>A.heap (.st T [.int .i64 P]) S λb6 U=>A.pa b 1 λV=>A.ps g 1 λW=>E [.i V,.i W] U)) λn=>A.loop (λX Y j=>A.k4 Y λd=>A.cd .leq b d (A.ix 1 a c 1 j λZ=>A.k5 Z λa0=>A.ix 1 a d 1 j λa1=>A.k5 a1 λa2=>A.c1 163 [.i a0,.i a2] j λo a3=>A.cond a3 (A.ps d 1 λa4=>X [.i a4] o) (n [.i d] o)) (n [.i d] j)) [.i m] J) λp=>A.loop (λa5 a6 k=>A.k4 a6 λe=>A.cd .leq e m (A.ix 1 a c 1 k λa7=>A.k5 a7 λa8=>A.ix 1 a e 1 k λa9=>A.k5 a9 λb0=>A.c1 163 [.i a8,.i b0] k λq b1=>A.cond (!b1) (A.pa e 1 λb2=>a5 [.i b2] q) (p [.i e] q)) (p [.i e] k)) [.i H] G) [.i C,.i D] B
def f165:R:=A.unV ls λa F=>A.k10 F λc G t=>A.ix 1 a t 1 h λH=>A.k5 H λI=>A.ix 1 a c 1 h λJ=>A.k5 J λL=>A.opt (idS 1 a c) λM=>A.heap (.st M [.int .i64 I]) h λh1 N=>A.opt (idS 1 a t) λO=>A.heap (.st O [.int .i64 L]) N λh2 P=>A.pa c 1 λQ=>A.ps G 1 λu=>A.join (λS T=>A.k4 S λj=>A.join (λU f=>A.k4 U λd=>A.cd .gtr j d (A.ix 1 a c 1 f λV=>A.k5 V λW=>A.ix 1 a d 1 f λX=>A.k5 X λY=>A.opt (idS 1 a d) λZ=>A.heap (.st Z [.int .i64 W]) f λh3 a0=>A.opt (idS 1 a c) λa1=>A.heap (.st a1 [.int .i64 Y]) a0 λh4 a2=>K [.i d,.b true] a2) (A.ix 1 a d 1 f λa3=>A.k5 a3 λa4=>A.ix 1 a j 1 f λa5=>A.k5 a5 λa6=>A.opt (idS 1 a j) λa7=>A.heap (.st a7 [.int .i64 a4]) f λh5 a8=>A.opt (idS 1 a d) λa9=>A.heap (.st a9 [.int .i64 a6]) a8 λh6 b0=>A.pa j 1 λb1=>A.ps d 1 λb2=>A.loop (λb3 b4 b5=>A.k9 b4 λb6 v=>A.join (λb7 b8=>A.k4 b7 λk=>A.join (λb9 g=>A.k4 b9 λe=>A.cd .gtr k e (A.ix 1 a c 1 g λc0=>A.k5 c0 λc2=>A.ix 1 a e 1 g λc3=>A.k5 c3 λc4=>A.opt (idS 1 a e) λc5=>A.heap (.st c5 [.int .i64 c2]) g λh7 c6=>A.opt (idS 1 a c) λc7=>A.heap (.st c7 [.int .i64 c4]) c6 λh8 c8=>K [.i e,.b false] c8) (A.ix 1 a e 1 g λc9=>A.k5 c9 λd0=>A.ix 1 a k 1 g λd1=>A.k5 d1 λd2=>A.opt (idS 1 a k) λd3=>A.heap (.st d3 [.int .i64 d0]) g λh9 d4=>A.opt (idS 1 a e) λd5=>A.heap (.st d5 [.int .i64 d2]) d4 λi0 d6=>A.pa k 1 λd7=>A.ps e 1 λd8=>b3 [.i d7,.i d8] d6)) λw=>A.loop (λd9 e0 p=>A.k4 e0 λl=>A.cd .leq k l (A.ix 1 a l 1 p λe1=>A.k5 e1 λe2=>A.ix 1 a c 1 p λe3=>A.k5 e3 λe4=>A.c1 163 [.i e2,.i e4] p λx e5=>A.cond (!e5) (A.ps l 1 λe6=>d9 [.i e6] x) (w [.i l] x)) (w [.i l] p)) [.i v] b8) λy=>A.loop (λe7 e8 q=>A.k4 e8 λm=>A.cd .leq m v (A.ix 1 a m 1 q λe9=>A.k5 e9 λf0=>A.ix 1 a c 1 q λf1=>A.k5 f1 λf2=>A.c1 163 [.i f0,.i f2] q λz f3=>A.cond f3 (A.pa m 1 λf4=>e7 [.i f4] z) (y [.i m] z)) (y [.i m] q)) [.i b6] b5) [.i b1,.i b2] b0)) λB=>A.loop (λf5 f6 r=>A.k4 f6 λn=>A.cd .leq j n (A.ix 1 a n 1 r λf7=>A.k5 f7 λf8=>A.ix 1 a c 1 r λf9=>A.k5 f9 λg0=>A.c1 163 [.i f8,.i g0] r λC g1=>A.cond (!g1) (A.ps n 1 λg2=>f5 [.i g2] C) (B [.i n] C)) (B [.i n] r)) [.i u] T) λD=>A.loop (λg3 g4 s=>A.k4 g4 λo=>A.cd .leq o u (A.ix 1 a o 1 s λg5=>A.k5 g5 λg6=>A.ix 1 a c 1 s λg7=>A.k5 g7 λg8=>A.c1 163 [.i g6,.i g8] s λE g9=>A.cond g9 (A.pa o 1 λh0=>g3 [.i h0] E) (D [.i o] E)) (D [.i o] s)) [.i Q] P
def f166:R:=A.k9 ls λa b=>A.cd .lss a (-65536) (K [.i 1] h) (A.cd .gtr a 65536 (K [.i 1] h) (A.cd .lss b (-65536) (K [.i 1] h) (A.cd .gtr b 65536 (K [.i 1] h) (K [.i 0] h))))
def f167:R:=A.k19 ls λd g j k=>A.ln d λl=>A.loop (λp q c=>A.k9 q λa e=>A.cd .lss a e (A.pa a e λr=>A.conv .u64 r λs=>A.shf .shr .u64 s .u64 1 λt=>A.ci t λf=>A.ix 3 d f 3 c λu=>A.k12 u λv w x=>A.callv k [.agg ⟨[.int .i64 v,.int .u8 w,.int .u8 x]⟩,.agg ⟨[.int .i64 g,.int .u8 j]⟩] [.leaf (.i .i64)] c λy m=>A.k4 y λz=>A.cmp .lss z 0 λB=>A.join (λC D=>A.k9 C λE F=>p [.i E,.i F] D) λn=>A.cond B (A.pa f 1 λG=>n [.i G,.i e] m) (n [.i a,.i f] m)) (A.join (λH I=>A.k15 H λJ L=>K [.i J,.b L] I) λo=>A.cd .lss a l (A.ix 3 d a 3 c λM=>A.k12 M λN O P=>A.callv k [.agg ⟨[.int .i64 N,.int .u8 O,.int .u8 P]⟩,.agg ⟨[.int .i64 g,.int .u8 j]⟩] [.leaf (.i .i64)] c λQ S=>A.k4 Q λT=>A.cmp .eql T 0 λU=>o [.i a,.b U] S) (o [.i a,.b false] c))) [.i 0,.i l] h
def f168:R:=A.unI ls λa b=>A.k11 b λc d e f=>A.c9 99 [.i a,.i c,.i d] h λg j k=>A.c4 100 [.i j,.i k,.i e,.i f] g λl m=>K [.i m] l
def f176:R:=A.unV ls λa p=>A.k10 p λq l b=>A.loop (λm r d=>A.k4 r λe=>A.pm 2 e λs=>A.pa s 1 λc=>A.cd .geq c l (K [] d) (A.pa c 1 λt=>A.cd .lss t l (A.pa b c λu=>A.ix 1 a u 1 d λv=>A.k5 v λw=>A.pa b c λx=>A.pa x 1 λy=>A.ix 1 a y 1 d λz=>A.k5 z λB=>A.c1 163 [.i w,.i B] d λn C=>A.join (λD k=>A.k4 D λf=>A.pa b e λE=>A.ix 1 a E 1 k λF=>A.k5 F λG=>A.pa b f λH=>A.ix 1 a H 1 k λI=>A.k5 I λJ=>A.c1 163 [.i G,.i J] k λg L=>A.cond (!L) (K [] g) (A.pa b e λM=>A.pa b f λN=>A.pa b f λO=>A.ix 1 a O 1 g λP=>A.k5 P λQ=>A.pa b e λS=>A.ix 1 a S 1 g λT=>A.k5 T λU=>A.opt (idS 1 a M) λV=>A.heap (.st V [.int .i64 Q]) g λb9 W=>A.opt (idS 1 a N) λX=>A.heap (.st X [.int .i64 U]) W λc0 Y=>m [.i f] Y)) λo=>A.cond C (A.pa c 1 λZ=>o [.i Z] n) (o [.i c] n)) (A.pa b e λa0=>A.ix 1 a a0 1 d λa1=>A.k5 a1 λa2=>A.pa b c λa3=>A.ix 1 a a3 1 d λa4=>A.k5 a4 λa5=>A.c1 163 [.i a2,.i a5] d λj a6=>A.cond (!a6) (K [] j) (A.pa b e λa7=>A.pa b c λa8=>A.pa b c λa9=>A.ix 1 a a9 1 j λb0=>A.k5 b0 λb1=>A.pa b e λb2=>A.ix 1 a b2 1 j λb3=>A.k5 b3 λb4=>A.opt (idS 1 a a7) λb5=>A.heap (.st b5 [.int .i64 b1]) j λc2 b6=>A.opt (idS 1 a a8) λb7=>A.heap (.st b7 [.int .i64 b4]) b6 λc3 b8=>m [.i c] b8)))) [.i q] h
def f177:R:=A.unV ls λb c=>A.unI c λa d=>A.k0 d λe=>A.ps a 1 λf=>A.pa a 1 λg=>A.c4 178 [.v b,.i f,.i a,.i g,.v e] h λj k=>K [.i k] j
def f178:R:=A.k17 ls λa c d e b=>A.c9 181 [.v a,.i c,.i d,.v b] h λf g j=>A.c9 181 [.v a,.i j,.i e,.v b] f λk l o=>A.c9 181 [.v a,.i g,.i l,.v b] k λm p n=>K [.i n] m
def f181:R:=A.k19 ls λd a b e=>A.ix 1 d b 1 h λj=>A.k5 j λk=>A.ix 1 d a 1 h λl=>A.k5 l λm=>A.c1 163 [.i k,.i m] h λc n=>A.cond n (A.opt (nilP e) λf=>A.chk f (A.peek (.lg cc 1 f) c λo=>A.k5 o λp=>A.pa p 1 λq=>A.opt (nilP e) λg=>A.chk g (A.heap (.st g [.int .i64 q]) c λs r=>K [.i b,.i a] r))) (K [.i a,.i b] c)
end
inductive Pth where
 |e
 |o (p:Pth)
 |i (p:Pth)
inductive Tr(α:Type) where
 |leaf
 |node (v:α) (l r:Tr α)
def Pth.num:Pth->Nat
 | .e=>1
 | .o p=>2*p.num
 | .i p=>2*p.num+1
def pthF:Nat->Nat->Pth
 |0,_=>.e
 |f+1,n=>if Nat.ble n 1 then .e else if Nat.beq (n%2) 0 then .o (pthF f (n / 2))else .i (pthF f (n / 2))
def bq(n:Nat):Pth:=pthF (n+1) (n+1)
def Pth.get{α:Type}(d:α)(p:Pth):Tr α->α:=
 Pth.rec (motive:=λ_=>Tr α->α)
  (λt=>Tr.casesOn t d λv _ _=>v)
  (λ_ ih t=>Tr.casesOn t d λ_ l _=>ih l)
  (λ_ ih t=>Tr.casesOn t d λ_ _ r=>ih r) p
def Pth.setK{α:Type}(d:α)(p:Pth):Tr α->α->(Tr α->Bool)->Bool:=
 Pth.rec (motive:=λ_=>Tr α->α->(Tr α->Bool)->Bool)
  (λt x k=>Tr.casesOn t (k (.node x .leaf .leaf)) λ_ l r=>k (.node x l r))
  (λ_ ih t x k=>Tr.casesOn t (ih .leaf x λl=>k (.node d l .leaf)) λv l r=>ih l x λl=>k (.node v l r))
  (λ_ ih t x k=>Tr.casesOn t (ih .leaf x λr=>k (.node d .leaf r)) λv l r=>ih r x λr=>k (.node v l r)) p
def eqI:Int->Int->Bool
 | .ofNat a,.ofNat b=>Nat.beq a b
 | .negSucc a,.negSucc b=>Nat.beq a b
 |_,_=>false
def kmax:TF->Nat
 | .i8=>127
 | .i16=>32767
 | .i32=>2147483647
 | .i64=>9223372036854775807
 | .u8=>255
 | .u16=>65535
 | .u32=>4294967295
 | .u64=>18446744073709551615
def fits(k:TF):Int->Bool
 | .ofNat n=>Nat.ble n (kmax k)
 | .negSucc n=>k.signed&&Nat.ble n (kmax k)
abbrev Lin:=List Int
def dot:List Int->List Int->Int
 |c :: l,x :: ρ=>c*x+dot l ρ
 |_,_=>0
def Lin.eval(l:Lin)(ρ:List Int):Int:=
 match l with
 | []=>0
 |c :: l=>c+dot l ρ
structure Ctx where
 iv:List (Int×Int)
 cs:List (List Int×Int×Int)
inductive Opd where
 |t (p:Pth)
 |c (v:Value)
inductive Ins where
 |mv (x:Opd)
 |pick (c a b:Opd)
 |ar (op:BinOp) (x y:Opd)
 |cmp (op:BinOp) (x y:Opd)
 |notb (x:Opd)
 |conv (k:TF) (x:Opd)
 |fld (x:Opd) (off:Nat)
 |flda (x:Opd) (off n:Nat)
 |ext (x:Opd) (i:Nat)
 |fad (x:Opd) (off:Nat)
 |lload (s:Nat) (p:Pth) (a:Opd)
 |lloada (s:Nat) (p:Pth) (n:Nat) (a:Opd)
 |lbox (s:Nat) (p:Pth) (x:Opd)
 |lnew (s:Nat) (p:Pth) (vs:Tl)
 |bld (z:Tl) (ps:List (Nat×Nat×Opd))
 |lstore (s:Nat) (p:Pth) (n:Nat) (a x:Opd)
 |call (f:TJ) (args:List Opd)
 |gen
abbrev TV:=Tr Value
abbrev TL:=Tr (Option (Tl))
def rd(tm:TV):Opd->Value
 | .t p=>p.get undef tm
 | .c v=>v
structure XCfg where
 C:Cfg
 kf:TJ->Tl->Ts->Option (Value×List HObj)
abbrev KS:=Ctx->TV->TL->Ts->Bool
structure XS where
 call:Ctx->TJ->Tl->Ts->(Ctx->Value->Ts->Bool)->Bool
 yield:Ctx->Nat->Tl->Ts->(Ctx->Value->Ts->Bool)->Bool
 ex:Ctx->Tz->Nat->Code->TV->TL->Ts->KS->(Exit->KS)->Bool
def uw:∀(f n:Nat),n<=f->1<=n->(pthF f n).num=n
 |0,n,h,h1=>by omega
 |f+1,n,h,h1=>by
  unfold pthF
  by_cases hn:n<=1
  ·have:n=1:=by omega
   subst this
   rfl
  ·have h2:Nat.ble n 1=false:=by
    rw[←qaS,qbx];exact hn
   rw[h2]
   have ih:=uw f (n / 2) (by omega) (by omega)
   by_cases hm:n%2=0
   ·simp[hm,Pth.num,ih];omega
   ·simp[hm,Pth.num,ih];omega
def nT(n:Nat):(bq n).num=n+1:=uw _ _ (qam _) (by omega)
def jq{a b:Nat}(h:bq a=bq b):a=b:=by
 have:=congrArg Pth.num h
 rw[nT,nT]at this
 omega
def Pth.set{α:Type}(d:α):Pth->Tr α->α->Tr α
 | .e,.leaf,x=>.node x .leaf .leaf
 | .e,.node _ l r,x=>.node x l r
 | .o p,.leaf,x=>.node d (Pth.set d p .leaf x) .leaf
 | .o p,.node v l r,x=>.node v (Pth.set d p l x) r
 | .i p,.leaf,x=>.node d .leaf (Pth.set d p .leaf x)
 | .i p,.node v l r,x=>.node v l (Pth.set d p r x)
def Pth.setK_eq{α:Type}(d:α):∀(p:Pth) (t:Tr α) (x:α) (k:Tr α->Bool),p.setK d t x k=k (p.set d t x)
 | .e,t,x,k=>by cases t<;>rfl
 | .o p,t,x,k=>by
  cases t with
  |leaf=>exact Pth.setK_eq d p .leaf x _
  |node v l r=>exact Pth.setK_eq d p l x _
 | .i p,t,x,k=>by
  cases t with
  |leaf=>exact Pth.setK_eq d p .leaf x _
  |node v l r=>exact Pth.setK_eq d p r x _
def Pth.get_leaf{α:Type}(d:α)(p:Pth):p.get d .leaf=d:=by cases p<;>rfl
def Pth.get_set{α:Type}(d:α):∀(p:Pth) (t:Tr α) (x:α),p.get d (p.set d t x)=x
 | .e,t,x=>by cases t<;>rfl
 | .o p,t,x=>by
  cases t with
  |leaf=>exact Pth.get_set d p .leaf x
  |node v l r=>exact Pth.get_set d p l x
 | .i p,t,x=>by
  cases t with
  |leaf=>exact Pth.get_set d p .leaf x
  |node v l r=>exact Pth.get_set d p r x
def Pth.get_set_ne{α:Type}(d:α):∀(p q:Pth) (t:Tr α) (x:α),q≠p->q.get d (p.set d t x)=q.get d t
 | .e,q,t,x,h=>by cases q<;>cases t<;>first|rfl|exact absurd rfl h|exact Pth.get_leaf d _
 | .o p,q,t,x,h=>by
  cases q with
  |e=>cases t<;>rfl
  |o q=>
   have hq:q≠p:=λe=>h (e▸rfl)
   cases t with
   |leaf=>exact(Pth.get_set_ne d p q .leaf x hq).trans (Pth.get_leaf d q)
   |node v l r=>exact Pth.get_set_ne d p q l x hq
  |i q=>
   cases t with
   |leaf=>exact Pth.get_leaf d q
   |node v l r=>rfl
 | .i p,q,t,x,h=>by
  cases q with
  |e=>cases t<;>rfl
  |i q=>
   have hq:q≠p:=λe=>h (e▸rfl)
   cases t with
   |leaf=>exact(Pth.get_set_ne d p q .leaf x hq).trans (Pth.get_leaf d q)
   |node v l r=>exact Pth.get_set_ne d p q r x hq
  |o q=>
   cases t with
   |leaf=>exact Pth.get_leaf d q
   |node v l r=>rfl
def Tr.map{α:Type}(f:α->α):Tr α->Tr α
 | .leaf=>.leaf
 | .node v l r=>.node (f v) (l.map f) (r.map f)
def eqI_iff{a b:Int}:eqI a b=true↔a=b:=by
 cases a<;>cases b<;>simp[eqI]<;>omega
def fits_iff{k:TF}{c:Int}(h:fits k c=true):(k.signed=true->-(kmax k:Int) - 1<=c)/\(k.signed=false->0<=c)/\c<=kmax k:=by
 cases c with
 |ofNat n=>
  simp only[fits,qbx]at h
  refine⟨λ_=>?_,λ_=>?_,?_⟩<;>simp<;>omega
 |negSucc n=>
  simp only[fits,qaa,qbx]at h
  refine⟨λ_=>?_,λhs=>?_,?_⟩
  ·omega
  ·rw[h.1]at hs;cases hs
  ·omega
def qH{k:TF}{c:Int}(h:fits k c=true):k.wrap c=c:=by
 obtain⟨h1,h2,h3⟩:=fits_iff h
 cases k<;>simp only[IntKind.signed,kmax,forall_const,reduceCtorEq,false_implies]at h1 h2 h3
 ·exact Go.IntWalk.i8_in c (by omega)
 ·exact Go.IntWalk.i16_in c (by omega)
 ·exact Go.IntWalk.i32_in c (by omega)
 ·exact Go.IntWalk.i64_in c (by omega)
 ·exact Go.IntWalk.u8_in c (by omega)
 ·exact Go.IntWalk.u16_in c (by omega)
 ·exact Go.IntWalk.u32_in c (by omega)
 ·exact Go.IntWalk.u64_in c (by omega)
section
variable [Val] {ρ:List Int}
def nh(op:BinOp)(x y:Int):Option Bool:=
 match op with
 | .eql=>some (x==y)
 | .neq=>some (x != y)
 | .lss=>some (decide (x<y))
 | .leq=>some (decide (x<=y))
 | .gtr=>some (decide (x > y))
 | .geq=>some (decide (x ≥ y))
 |_=>none
def ou(op:BinOp)(k:TF)(x y n:Int):Prop:=∀(P:TC) (t:TI) (w:World),(binOp op t (.int k x) (.int k y)).run P w = .ok (.int k n) w
def bits_one{k:TF}(x:Int):((BitVec.ofInt k.bits x &&& BitVec.ofInt k.bits 1).toNat:Int)=x%2:=by
 have hb:k.bits=k.bits - 1+1:=by cases k<;>rfl
 generalize k.bits - 1=n at hb
 rw[hb]
 have h1:(BitVec.ofInt (n+1) 1).toNat=1:=by
  simp
 rw[BitVec.toNat_and,h1,Nat.and_one_is_mod,BitVec.toNat_ofInt]
 have hp:(0:Int)<2 ^ (n+1):=Int.pow_pos (by omega)
 have e:(2:Int) ^ (n+1)=2*2 ^ n:=by rw[Int.pow_succ];omega
 have h0:0<=x%(2 ^ (n+1):Int):=Int.emod_nonneg _ (by omega)
 have:((x%((2 ^ (n+1):Nat):Int)).toNat%2:Nat)=((x%(2 ^ (n+1):Int))%2:Int):=by
  have e2:((2 ^ (n+1):Nat):Int)=(2 ^ (n+1):Int):=by simp
  rw[e2]
  omega
 rw[this,e,Int.emod_emod_of_dvd _ ⟨2 ^ n,rfl⟩]
def mn{k:TF}{x n:Int}(hn:x%2=n):ou .and k x 1 n:=by
 intro P t w
 have hw:k.wrap n=n:=qH (by
  have h0:0<=n:=by omega
  have h1:n<=1:=by omega
  obtain⟨m,rfl⟩ : ∃m:Nat,n=m:=⟨n.toNat,by omega⟩
  show Nat.ble m (kmax k)=true
  rw[qbx]
  cases k<;>simp only[kmax]<;>omega)
 have hb:=bits_one (k:=k) x
 simp only[binOp,ne_eq,not_true_eq_false,if_false,Op.intBits]
 show Result.ok (Value.int k (k.wrap _)) w=_
 rw[hb,hn,hw]
end
section
variable [Val] {ρ:List Int}
structure Rep(pts:Tz)(nt:Nat)(tm:TV)(lc:TL)(σ:St):Prop where
 len:σ.tmps.length=nt
 val:∀(i:Nat) v,σ.tmps[i]?=some v->(bq i).get undef tm=v
 llen:pts≠[]->σ.loc.length=nt
 loc:∀(i:Nat) x,σ.loc[i]?=some x->(bq i).get none lc=x
def ValStep(C:Cfg)(pts:Tz)(σ:St)(o:Oper)(v:Value):Prop:=
 (∃e,ak C pts (oval σ.tmps) o=some e/\aA σ e=some (σ,v))∨gK C σ.tmps o v
def ValStep.val{C:Cfg}{pts:Tz}{σ:St}{o:Oper}{v:Value}(h:ak C pts (oval σ.tmps) o=some (.val v)):ValStep C pts σ o v:=.inl ⟨_,h,rfl⟩
def mI(k:TF)(x:Int):k.wrap (x%(2 ^ k.bits:Int))=k.wrap x:=by
 unfold IntKind.wrap
 rw[Int.emod_emod_of_dvd _ (Int.dvd_refl _)]
def sN{k:TF}(m n:Nat):ou .and k m n (k.wrap (Nat.land m n:Nat)):=by
 intro P t w
 simp only[binOp,ne_eq,not_true_eq_false,if_false,Op.intBits]
 show Result.ok (Value.int k (k.wrap _)) w=_
 rw[←mI k (Nat.land m n:Nat)]
 congr 3
 have h2:∀x:Nat,(BitVec.ofInt k.bits (x:Int)).toNat=x%2 ^ k.bits:=λx=>by
  rw[BitVec.toNat_ofInt]
  have:((x:Int)%((2 ^ k.bits:Nat):Int))=((x%2 ^ k.bits:Nat):Int):=by simp
  rw[this,qcw]
 have h3:(BitVec.ofInt k.bits (m:Int) &&& BitVec.ofInt k.bits (n:Int)).toNat=(m &&& n)%2 ^ k.bits:=by
  rw[BitVec.toNat_and,h2,h2,Nat.and_mod_two_pow]
 rw[h3]
 simp
def sQ{k:TF}(m n:Nat):ou .xor k m n (k.wrap (Nat.xor m n:Nat)):=by
 intro P t w
 simp only[binOp,ne_eq,not_true_eq_false,if_false,Op.intBits]
 show Result.ok (Value.int k (k.wrap _)) w=_
 rw[←mI k (Nat.xor m n:Nat)]
 congr 3
 have h2:∀x:Nat,(BitVec.ofInt k.bits (x:Int)).toNat=x%2 ^ k.bits:=λx=>by
  rw[BitVec.toNat_ofInt]
  have:((x:Int)%((2 ^ k.bits:Nat):Int))=((x%2 ^ k.bits:Nat):Int):=by simp
  rw[this,qcw]
 have h3:(BitVec.ofInt k.bits (m:Int) ^^^ BitVec.ofInt k.bits (n:Int)).toNat=(m ^^^ n)%2 ^ k.bits:=by
  rw[BitVec.toNat_xor,h2,h2,Nat.xor_mod_two_pow]
 rw[h3]
 simp
def vO{k:TF}(m n:Nat):ou .or k m n (k.wrap (Nat.lor m n:Nat)):=by
 intro P t w
 simp only[binOp,ne_eq,not_true_eq_false,if_false,Op.intBits]
 show Result.ok (Value.int k (k.wrap _)) w=_
 rw[←mI k (Nat.lor m n:Nat)]
 congr 3
 have h2:∀x:Nat,(BitVec.ofInt k.bits (x:Int)).toNat=x%2 ^ k.bits:=λx=>by
  rw[BitVec.toNat_ofInt]
  have:((x:Int)%((2 ^ k.bits:Nat):Int))=((x%2 ^ k.bits:Nat):Int):=by simp
  rw[this,qcw]
 have h3:(BitVec.ofInt k.bits (m:Int) ||| BitVec.ofInt k.bits (n:Int)).toNat=(m ||| n)%2 ^ k.bits:=by
  rw[BitVec.toNat_or,h2,h2,Nat.or_mod_two_pow]
 rw[h3]
 simp
end
section
variable {R:Type}
def setK_eq{α:Type}(x:α):∀(l:List α) (i:Nat) (k:List α->R),setK x l i k=k (l.set i x)
 | [],_,_=>rfl
 |_ :: _,0,_=>rfl
 |a :: l,i+1,k=>setK_eq x l i λl=>k (a :: l)
def sf(n:Nat)(K:Nat->R):oZ n K=K n:=by cases n<;>rfl
end
def SL.good:SL->Prop
 | .v x=>aY x=true
 |_=>True
def S0.good(x:S0):Prop:=∀l∈x.cells,l.good
def SV.gd:SV->Prop
 | .st x=>x.good
 | .tup xs=>(∀x∈xs,x.good)/\2<=xs.length
 | .no=>False
 |_=>True
def dt{x:Value}:aY x=true↔noLoc x=true/\bg x=true/\aZ x=true/\aB x=false:=by
 unfold aY
 cases noLoc x<;>cases bg x<;>cases aZ x<;>cases aB x<;>simp
def ns{x:Value}(h:aY x=true):aI x=true:=by
 obtain⟨h1,_,h2,_⟩:=dt.1 h
 simp[aI,h1,h2]
def sj{x:Value}(h:aY x=true):x.cells = #[x]:=dy (dt.1 h).2.2.1
def SL.val_good{l:SL}(h:l.good):aY l.val=true:=by
 cases l with
 |v x=>exact h
 |_=>rfl
def S0.cells_val{x:S0}(h:x.good):x.val.cells=⟨x.cells.map SL.val⟩:=by
 cases x with
 |leaf l=>exact sj (SL.val_good (h l (by simp[S0.cells])))
 |agg cs=>rfl
def S0.noLoc{x:S0}(h:x.good):noLoc x.val=true:=by
 cases x with
 |leaf l=>exact(dt.1 (SL.val_good (h l (by simp[S0.cells])))).1
 |agg cs=>
  simp only[S0.val,Am.noLoc,qab,qaN]
  rintro _ ⟨l,hl,rfl⟩
  exact(dt.1 (SL.val_good (h l hl))).2.1
def S0.not_tuple{x:S0}(h:x.good):aB x.val=false:=by
 cases x with
 |leaf l=>exact(dt.1 (SL.val_good (h l (by simp[S0.cells])))).2.2.2
 |agg cs=>rfl
def S0.cells_ok{x:S0}(h:x.good):x.val.cells.toList.all aI=true:=by
 rw[S0.cells_val h]
 simp only[qab,qaN]
 rintro _ ⟨l,hl,rfl⟩
 exact ns (SL.val_good (h l hl))
def cells_ok'{cs:List SL}(h:∀l∈cs,l.good):(cs.map SL.val).all aI=true:=by
 simp only[qab,qaN]
 rintro _ ⟨l,hl,rfl⟩
 exact ns (SL.val_good (h l hl))
def sR{v:Value}(h:scalar v=true):aY v=true:=by
 cases v<;>first|rfl|(simp[scalar]at h;done)|skip
 case pointer a=>cases a<;>first|rfl|simp[scalar]at h
 case slice a l c=>
  cases a with
  |none=>rfl
  |some a=>cases l<;>cases c<;>simp[scalar]at h
def pS(v:Value):(slOf v).val=v:=by cases v<;>rfl
def mr{v:Value}(h:scalar v=true):(slOf v).good:=by
 cases v<;>first|trivial|exact sR h
def pN{v:Value}{x:S0}(h:s0Of v=some x):x.val=v/\x.good/\en v=true:=by
 unfold s0Of at h
 split at h
 next cs=>
  split at h
  next ha=>
   cases h
   refine⟨?_,?_,ha⟩
   ·simp only[S0.val,qdg,Value.agg.injEq]
    have:(SL.val ∘ slOf)=id:=funext pS
    rw[this,List.map_id]
   ·intro l hl
    simp only[S0.cells,qaN]at hl
    obtain⟨v,hv,rfl⟩:=hl
    exact mr (qab.1 ha v hv)
  ·cases h
 next hne=>
  split at h
  next hs=>
   cases h
   refine⟨pS v,?_,?_⟩
   ·intro l hl
    simp only[S0.cells,qay]at hl
    subst hl
    exact mr hs
   ·cases v<;>first|exact hs|exact absurd rfl (hne _)
  ·cases h
def cT{a b:TF}(h:dz a b=true):a=b:=by
 cases a<;>cases b<;>first|rfl|cases h
def dd(a:TF):dz a a=true:=by cases a<;>rfl
section
variable [Val] [Kno]
def Told(sks:TG)(ls:TB)(xs:List S0):Prop:=bO xs sks=true/\ca xs=ls/\∀x∈xs,x.good
def aW(C:Cfg)(Sg:Tc)(g:TJ)(ls:TB)(H:Ts)(rs:TB)(H':Ts):Prop:=
 ∃sg xs ys,Sg g=some sg/\Told sg.ps ls xs/\Told sg.rs rs ys/\gD C g (ai xs) H (eM (ai ys)) H'
def qe(C:Cfg)(v:Value)(args:Tl)(hs:TG)(H:Ts)(rs:TB)(H':Ts):Prop:=
 ∃ys,Told hs rs ys/\((∃g first cap,v = .func (.func g) first cap/\gD C g (first.toList++args++cap.toList) H (eM (ai ys)) H')∨
  (∃l,v = .func (.yield l) #[] #[]/\iQ C l args H (eM (ai ys)) H'))
def mL(nt:Nat):List (Nat×SK)->Tl->Tl->List Value
 |(t,_) :: l,v :: vs,tm=>mL nt l vs (tm.set t v)
 |_,_,tm=>tm
def lpOf(s:Site)(κ:Nat)(vals:Tl):ALoop:=
 { state:=.ready,pending:=none,fn:=κ,tmps:=mL s.nt s.caps vals (List.replicate s.nt poison),params:=s.params.map (·.1),assign:=s.assign.erase nL,body:=s.body.erase nL }
def fK:Lf->Lf->Bool
 | .i a,.i b=>a==b
 | .b a,.b b=>a==b
 |_,_=>false
def bP(l:List (Lf×Lf)):Bool:=l.all λp=>fK p.1 p.2
def ShRun(op:BinOp)(k:TF)(x:Int)(k':TF)(y n:Int):Prop:=∀(P:TC) (t:TI) (w:World),(binOp op t (.int k x) (.int k' y)).run P w = .ok (.int k n) w
abbrev _root_.Tt:=Nat->Site
structure AlgOk{R HT:Type}(A:Alg R HT)(C:Cfg)(Sg:Tc)(T:Tt)(holds:R->Prop)(abs:HT->Ts):Prop where
 fail:¬holds A.fail
 cond:∀b x y,holds (A.cond b x y)->(b=true/\holds x)∨(b=false/\holds y)
 ari:∀op k a b K,holds (A.ari op k a b K)->∃n,ou op k a b n/\holds (K n)
 shf:∀op k a k' b K,holds (A.shf op k a k' b K)->∃n,ShRun op k a k' b n/\holds (K n)
 cmp:∀op a b K,holds (A.cmp op a b K)->∃t,nh op a b=some t/\holds (K t)
 eqs:∀l K,holds (A.eqs l K)->holds (K (bP l))
 conv:∀k a K,holds (A.conv k a K)->holds (K (k.wrap a))
 sel:∀t a b K,holds (A.sel t a b K)->holds (K (if t then a else b))
 opt:∀ {α:Type} (o:Option α) K,holds (A.opt o K)->∃x,o=some x/\holds (K x)
 chk:∀v K,holds (A.chk v K)->aY v=true/\holds K
 unI:∀ls K,holds (A.unI ls K)->∃n r,ls = .i n :: r/\holds (K n r)
 unB:∀ls K,holds (A.unB ls K)->∃t r,ls = .b t :: r/\holds (K t r)
 unV:∀ls K,holds (A.unV ls K)->∃x r,ls = .v x :: r/\holds (K x r)
 un0:∀ls K,holds (A.un0 ls K)->ls=[]/\holds K
 ucI:∀k ls K,holds (A.ucI k ls K)->∃n r,ls = .int k n :: r/\holds (K n r)
 ucB:∀ls K,holds (A.ucB ls K)->∃t r,ls = .bool t :: r/\holds (K t r)
 ucV:∀ls K,holds (A.ucV ls K)->∃x r,ls=x :: r/\holds (K x r)
 uc0:∀ls K,holds (A.uc0 ls K)->ls=[]/\holds K
 peek:∀f h K,holds (A.peek f h K)->∃cs,f.run (λi=>(abs h)[i]?)=some cs/\holds (K cs)
 heap:∀f h K,holds (A.heap f h K)->∃acts cs h',f.run (λi=>(abs h)[i]?) (abs h).length=some (acts,cs)/\abs h'=fk (abs h) acts/\holds (K cs h')
 new:∀o h K,holds (A.new o h K)->∃h',abs h'=abs h++[o]/\holds (K (abs h).length h')
 call:∀g ls h K,holds (A.call g ls h K)->∃rs h',aW C Sg g ls (abs h) rs (abs h')/\holds (K rs h')
 callv:∀v args hs h K,holds (A.callv v args hs h K)->∃rs h',qe C v args hs (abs h) rs (abs h')/\holds (K rs h')
 join:∀b m,holds (A.join b m)->holds (m b)
 loop:∀F ls h,holds (A.loop F ls h)->∃it:Nat->TB->HT->R,(∀ls h,¬holds (it 0 ls h))/\(∀n ls h,it (n+1) ls h=F (it n) ls h)/\∃n,holds (it n ls h)
 rfun:∀κ v vals h K,holds (A.rfun κ v vals h K)->∃g first cap r H1 lp h2,v = .func (.func g) first cap/\
  gD C g (first.toList++[.func (.yield (abs h).length) #[] #[]]++cap.toList) (abs h++[.loop (lpOf (T κ) κ vals)]) r H1/\
  dG H1 (abs h).length=some lp/\lp.state≠.busy/\abs h2=H1.set (abs h).length (.loop { lp with state:=.exhausted })/\holds (K lp.pending h2)
 pend:∀pd kn kr ks,holds (A.pend pd kn kr ks)->(pd=none/\holds kn)∨(pd=some .ret/\holds kr)∨∃id x,pd=some (.exit id)/\(id,x)∈ks/\holds x
 lp1:∀l h K,holds (A.lp1 l h K)->∃lp h',dG (abs h) l=some lp/\lp.state = .ready/\abs h'=(abs h).set l (.loop { lp with state:=.busy })/\holds (K h')
 lp2:∀l j h K,holds (A.lp2 l j h K)->∃lp h',dG (abs h) l=some lp/\abs h'=(abs h).set l (.loop { lp with state:=if j.isNone then .ready else .done,pending:=j })/\holds (K h')
def SV.ok(tmps:Tl)(i:Nat)(s:SV):Prop:=
 match s with
 | .no=>True
 |s=>tmps[i]?=some s.val/\s.gd
def LR.ok(loc:List (Option (Tl)))(i:Nat):LR->Prop
 | .unk=>True
 | .nil=>loc[i]?=some none
 | .any n=>∃vs,loc[i]?=some (some vs)/\vs.length=n
 | .row cs=>loc[i]?=some (some (cs.map SL.val))/\∀c∈cs,c.good
structure Rp(ev:Env)(σ:St):Prop where
 len:ev.tm.length=σ.tmps.length
 val:∀(i:Nat) s,ev.tm[i]?=some s->s.ok σ.tmps i
 llen:ev.lc.length=σ.loc.length
 row:∀(i:Nat) r,ev.lc[i]?=some r->r.ok σ.loc i
def SV.ok_gd{tmps:Tl}{i:Nat}{s:SV}(h:s.gd)(hv:tmps[i]?=some s.val):s.ok tmps i:=by
 cases s<;>first|trivial|exact⟨hv,h⟩
def Rp.at{ev:Env}{σ:St}(h:Rp ev σ){t:Nat}{s:SV}(hs:ev.tm.getD t .no=s)(hn:s≠.no):σ.tmps[t]?=some s.val/\s.gd:=by
 rw[List.getD_eq_getElem?_getD]at hs
 cases he:ev.tm[t]? with
 |none=>rw[he]at hs;exact absurd hs.symm hn
 |some x=>
  rw[he]at hs
  simp only[qbg]at hs
  subst hs
  have:=h.val t x he
  cases x<;>first|exact this|exact absurd rfl hn
def Rp.sval{ev:Env}{σ:St}(h:Rp ev σ){x:TD}{s:SV}(hs:sval ev x=s)(hn:s≠.no):oval σ.tmps x=s.val/\s.gd:=by
 cases x with
 |tmp t=>
  obtain⟨h1,h2⟩:=h.at (t:=t) hs hn
  exact⟨by simp[oval,List.getD_eq_getElem?_getD,h1],h2⟩
 |const v=>
  simp only[Am.sval]at hs
  cases hv:s0Of v with
  |none=>rw[hv]at hs;exact absurd hs.symm hn
  |some x=>
   rw[hv]at hs
   subst hs
   obtain⟨h1,h2,h3⟩:=pN hv
   refine⟨?_,h2⟩
   have:flat v=true:=by cases v<;>first|exact h3|(simp[en,scalar]at h3)
   simp[oval,this,SV.val,h1]
 |global g=>
  subst hs
  simp only[Am.sval,oval]
  cases hb:Nat.blt g gB with
  |true=>exact⟨rfl,trivial⟩
  |false=>exact absurd (by simp only[Am.sval,hb]) hn
 |func f=>
  subst hs
  refine⟨rfl,λl hl=>?_⟩
  simp only[S0.cells,qay]at hl
  subst hl
  rfl
def Rp.sval0{ev:Env}{σ:St}(h:Rp ev σ){x:TD}{s:S0}(hs:sval0 ev x=some s):oval σ.tmps x=s.val/\s.good:=by
 unfold Am.sval0 at hs
 split at hs
 next y e=>
  cases hs
  exact h.sval e (by simp)
 ·cases hs
def Rp.svals{ev:Env}{σ:St}(h:Rp ev σ):∀ {l:List Operand} {xs:List S0},svals ev l=some xs->l.map (oval σ.tmps)=ai xs/\∀x∈xs,x.good
 | [],xs,hs=>by cases hs;exact⟨rfl,by simp⟩
 |o :: l,xs,hs=>by
  simp only[Am.svals]at hs
  split at hs
  next x ys e1 e2=>
   cases hs
   obtain⟨h1,h2⟩:=h.sval0 e1
   obtain⟨h3,h4⟩:=h.svals e2
   refine⟨by simp[ai,h1];exact h3,λy hy=>?_⟩
   rcases qap.1 hy with rfl|hy
   ·exact h2
   ·exact h4 y hy
  ·cases hs
def Rp.put{ev:Env}{σ:St}(h:Rp ev σ)(d:Nat){s:SV}(hs:s.gd):Rp ⟨ev.tm.set d s,ev.lc⟩ (σ.put (some d) s.val):=by
 refine⟨by simp[St.put,h.len],λi x hx=>?_,h.llen,h.row⟩
 simp only[qaD]at hx
 split at hx
 next hi=>
  subst hi
  split at hx
  next hlt=>
   cases hx
   refine SV.ok_gd hs ?_
   simp only[St.put,List.getElem?_set_self']
   rw[qas (by rw[←h.len];exact hlt)]
   rfl
  ·cases hx
 next hi=>
  have:=h.val i x hx
  cases x<;>first|trivial|exact⟨by simp only[St.put];rw[qav hi];exact this.1,this.2⟩
def Rp.heap{ev:Env}{σ:St}(h:Rp ev σ)(H:Ts):Rp ev { σ with heap:=H }:=⟨h.len,h.val,h.llen,h.row⟩
structure Fr(ws ks rs:Tz)(σ σ':St):Prop where
 tlen:σ'.tmps.length=σ.tmps.length
 llen:σ'.loc.length=σ.loc.length
 tm:∀(i:Nat) v,σ.tmps[i]?=some v->i∉ws->noLoc v=true->σ'.tmps[i]?=some v
 tp:∀(i s off:Nat),σ.tmps[i]?=some (.pointer (some ⟨s,off,some 0⟩))->i∉ws->s∉ks->σ'.tmps[i]?=some (.pointer (some ⟨s,off,some 0⟩))
 row:∀(s:Nat) x,σ.loc[s]?=some x->s∉rs->σ'.loc[s]?=some x
 rlen:∀(s:Nat) vs,σ.loc[s]?=some (some vs)->s∉ks->∃vs',σ'.loc[s]?=some (some vs')/\vs'.length=vs.length
def Fr.refl(ws ks rs:Tz)(σ:St):Fr ws ks rs σ σ:=⟨rfl,rfl,λ_ _ h _ _=>h,λ_ _ _ h _ _=>h,λ_ _ h _=>h,λ_ vs h _=>⟨vs,h,rfl⟩⟩
def Fr.trans{ws ks rs:Tz}{σ σ₁ σ':St}(h:Fr ws ks rs σ σ₁)(h':Fr ws ks rs σ₁ σ'):Fr ws ks rs σ σ':=
 ⟨h'.tlen.trans h.tlen,h'.llen.trans h.llen,λi v a b c=>h'.tm i v (h.tm i v a b c) b c,λi s off a b c=>h'.tp i s off (h.tp i s off a b c) b c,
  λs x a b=>h'.row s x (h.row s x a b) b,λs vs a b=>let ⟨v1,c1,d1⟩:=h.rlen s vs a b;let ⟨v2,c2,d2⟩:=h'.rlen s v1 c1 b;⟨v2,c2,d2.trans d1⟩⟩
def Fr.mono{ws ks rs ws' ks' rs':Tz}{σ σ':St}(h:Fr ws ks rs σ σ')(h1:∀i∈ws,i∈ws')(h2:∀i∈ks,i∈ks')(h3:∀i∈rs,i∈rs'):Fr ws' ks' rs' σ σ':=
 ⟨h.tlen,h.llen,λi v a b c=>h.tm i v a (λhi=>b (h1 i hi)) c,λi s off a b c=>h.tp i s off a (λhi=>b (h1 i hi)) (λhi=>c (h2 s hi)),
  λs x a b=>h.row s x a (λhi=>b (h3 s hi)),λs vs a b=>h.rlen s vs a (λhi=>b (h2 s hi))⟩
def Fr.heap{ws ks rs:Tz}{σ σ':St}(h:Fr ws ks rs σ σ')(H:Ts):Fr ws ks rs σ { σ' with heap:=H }:=⟨h.tlen,h.llen,h.tm,h.tp,h.row,h.rlen⟩
def Fr.put{σ:St}(dst:Tn)(v:Value)(ks rs:Tz):Fr dst.toList ks rs σ (σ.put dst v):=by
 cases dst with
 |none=>exact .refl _ _ _ _
 |some d=>
  refine⟨by simp[St.put],rfl,λi x h hi _=>?_,λi s off h hi _=>?_,λ_ _ h _=>h,λ_ vs h _=>⟨vs,h,rfl⟩⟩<;>
  ·simp only[Option.toList_some,qay]at hi
   simp only[St.put]
   rw[qav (λe=>hi e.symm)]
   exact h
end
inductive HO where
 |o (x:HObj)
 |lp (κ:Nat) (st:LoopState) (pd:Tk) (vs:Tl)
abbrev HL:=List HO
inductive CK where
 |f (g:TJ)
 |y (κ:Nat) (vs:Tl) (l:Nat)
def absO(T:Tt):HO->HObj
 | .o x=>x
 | .lp κ st pd vs=>.loop { lpOf (T κ) κ vs with state:=st,pending:=pd }
def absH(T:Tt)(h:HL):Ts:=h.map (absO T)
namespace Sx
inductive HOT where
 |o (x:HObj)
 |lp (κ:Nat) (st:LoopState) (pd:Tk) (vs:Tl)
 |t (n e:Nat) (rw:Bool) (c:Tr Value)
def nilV:Value:=.bool false
def bT(c:Tr Value)(n:Nat):Tl:=(List.range n).map λi=>(bq i).get nilV c
def HOT.ho:HOT->HO
 | .o x=>.o x
 | .lp κ st pd vs=>.lp κ st pd vs
 | .t n e rw c=>.o (.cells (bT c n) e rw)
structure HTr where
 n:Nat
 t:Tr HOT
def noO:HOT:=.o .dead
def HTr.empty:HTr:=⟨0,.leaf⟩
def HTr.at(h:HTr)(i:Nat):Option HOT:=match Nat.blt i h.n with
 |true=>some ((bq i).get noO h.t)
 |false=>none
def toL(h:HTr):HL:=(List.range h.n).map λi=>((bq i).get noO h.t).ho
def fi(h:HTr):(toL h).length=h.n:=by simp[toL]
def jD(h:HTr)(i:Nat):(toL h)[i]?=(h.at i).map HOT.ho:=by
 unfold toL HTr.at
 rw[qaA]
 cases e:Nat.blt i h.n with
 |true=>
  rw[qaU]at e
  rw[qba e];rfl
 |false=>
  have:h.n<=i:=by
   rcases qaC i h.n with h1|h1
   ·rw[←qaU,e]at h1;cases h1
   ·exact h1
  rw[qae (by simpa using this)];rfl
def HTr.put(h:HTr)(i:Nat)(o:HOT):HTr:=match Nat.blt i h.n with
 |true=>⟨h.n,(bq i).set noO h.t o⟩
 |false=>h
def HTr.push(h:HTr)(o:HOT):HTr:=⟨h.n+1,(bq h.n).set noO h.t o⟩
def fX(h:HTr)(i:Nat)(o:HOT):toL (h.put i o)=(toL h).set i o.ho:=by
 apply qaT
 intro j
 unfold HTr.put
 cases e:Nat.blt i h.n with
 |true=>
  rw[qaU]at e
  simp only
  rw[jD]
  by_cases hj:i=j
  ·subst hj
   rw[qaE (by rw[fi];exact e)]
   unfold HTr.at
   simp only[(qaU▸e:Nat.blt i h.n=true)]
   rw[Pth.get_set];rfl
  ·rw[qav hj,jD]
   unfold HTr.at
   simp only
   rw[Pth.get_set_ne _ _ _ _ _ (λh=>hj (jq h).symm)]
 |false=>
  simp only
  have:h.n<=i:=by
   rcases qaC i h.n with h1|h1
   ·rw[←qaU,e]at h1;cases h1
   ·exact h1
  rw[List.set_eq_of_length_le (by rw[fi];exact this)]
def gu(h:HTr)(o:HOT):toL (h.push o)=toL h++[o.ho]:=by
 apply qaT
 intro j
 rw[jD]
 unfold HTr.push HTr.at
 simp only
 by_cases h1:j<h.n
 ·rw[qaf (by rw[fi];exact h1),jD]
  unfold HTr.at
  have e1:Nat.blt j (h.n+1)=true:=by rw[qaU];omega
  have e2:Nat.blt j h.n=true:=by rw[qaU];omega
  simp only[e1,e2]
  rw[Pth.get_set_ne _ _ _ _ _ (λh=>by have:=jq h;omega)]
 ·rw[qak (by rw[fi];omega),fi]
  by_cases h2:j=h.n
  ·subst h2
   have e1:Nat.blt h.n (h.n+1)=true:=by rw[qaU];omega
   simp only[e1,qbv,qa7]
   rw[Pth.get_set];rfl
  ·have e1:Nat.blt j (h.n+1)=false:=by rw[←qaS,qaU];omega
   simp only[e1]
   rw[qae (by simp;omega)];rfl
def aS(c:Tr Value)(n:Nat):(bT c n).length=n:=by simp[bT]
def dO(c:Tr Value){n i:Nat}(h:i<n):(bT c n)[i]?=some ((bq i).get nilV c):=by
 unfold bT
 rw[qaA,qba h];rfl
def insT:Tl->Nat->Tr Value->Tr Value
 | [],_,c=>c
 |v :: l,i,c=>insT l (i+1) ((bq i).set nilV c v)
def pg:∀(l:Tl) (i:Nat) (c:Tr Value) (j:Nat),(bq j).get nilV (insT l i c)=if i<=j/\j<i+l.length then l[j - i]?.getD nilV else(bq j).get nilV c
 | [],i,c,j=>by
  have h:¬(i<=j/\j<i+([]:Tl).length):=by intro h;have:=h.2;simp at this;omega
  rw[qdr h];rfl
 |v :: l,i,c,j=>by
  show(bq j).get nilV (insT l (i+1) _)=_
  rw[pg l (i+1)]
  by_cases h:i+1<=j/\j<i+1+l.length
  ·rw[qdq h,qdq (by simp;omega)]
   have:j - i=(j - (i+1))+1:=by omega
   rw[this,qa6]
  ·rw[qdr h]
   by_cases h2:j=i
   ·subst h2
    rw[Pth.get_set,qdq (by simp)];simp
   ·rw[Pth.get_set_ne _ _ _ _ _ (λe=>h2 (jq e)),qdr (by simp;omega)]
def ne{l:Tl}{i n:Nat}{c:Tr Value}(h:i+l.length<=n):bT (insT l i c) n=(bT c n).take i++l++(bT c n).drop (i+l.length):=by
 apply qaT
 intro j
 by_cases hj:j<n
 ·rw[dO _ hj,pg]
  by_cases h1:j<i
  ·rw[qdr (by omega),qaB,qaf (by rw[qa0,aS];omega),List.getElem?_take_of_lt h1,dO _ hj]
  ·have hl:((bT c n).take i).length=i:=by rw[qa0,aS];omega
   by_cases h2:j<i+l.length
   ·rw[qdq ⟨by omega,h2⟩,qaB,qak (by omega),hl,qaf (by omega)]
    rw[qas (by omega)];rfl
   ·rw[qdr (by omega),qak (by rw[qaG,hl];omega),qaG,hl,qa8,show i+l.length+(j - (i+l.length))=j by omega,dO _ hj]
 ·rw[qae (by rw[aS];omega),qae (by simp[aS];omega)]
def ll{l:Tl}{n:Nat}{c:Tr Value}:bT (insT l n c) (n+l.length)=bT c n++l:=by
 apply qaT
 intro j
 by_cases hj:j<n+l.length
 ·rw[dO _ hj,pg]
  by_cases h1:j<n
  ·rw[qdr (by omega),qaf (by rw[aS];exact h1),dO _ h1]
  ·rw[qdq ⟨by omega,hj⟩,qak (by rw[aS];omega),aS,qas (by omega)];rfl
 ·rw[qae (by rw[aS];omega),qae (by simp[aS];omega)]
def uY(l:Tl):bT (insT l 0 .leaf) l.length=l:=by
 have:=ll (l:=l) (n:=0) (c:=.leaf)
 simpa[bT]using this
def vG(c:Tr Value)(n:Nat):Nat->Tl:=Nat.rec (motive:=λ_=>Nat->Tl) (λ_=>[]) (λ_ ih off=>(bq off).get nilV c :: fN (Nat.succ off) ih) n
def iI(c:Tr Value):∀(n off m:Nat),off+n<=m->vG c n off=((bT c m).drop off).take n
 |0,_,_,_=>by rw[qcz];rfl
 |n+1,off,m,h=>by
  show(bq off).get nilV c :: vG c n (off+1)=_
  rw[iI c n (off+1) m (by omega)]
  have h1:off<(bT c m).length:=by rw[aS];omega
  rw[qbn h1,qb7]
  congr 1
  have:=dO c (n:=m) (i:=off) (by omega)
  rw[qas h1]at this
  exact(qan this).symm
section
variable {R:Type}
def putR{α:Type}(d:α)(p:Pth):Tr α->α->(Tr α->R)->R:=
 Pth.rec (motive:=λ_=>Tr α->α->(Tr α->R)->R)
  (λt x k=>Tr.casesOn t (k (.node x .leaf .leaf)) λ_ l r=>k (.node x l r))
  (λ_ ih t x k=>Tr.casesOn t (ih .leaf x λl=>k (.node d l .leaf)) λv l r=>ih l x λl=>k (.node v l r))
  (λ_ ih t x k=>Tr.casesOn t (ih .leaf x λr=>k (.node d .leaf r)) λv l r=>ih r x λr=>k (.node v l r)) p
def gX{α:Type}(d:α):∀(p:Pth) (t:Tr α) (x:α) (k:Tr α->R),putR d p t x k=k (p.set d t x)
 | .e,t,x,k=>by cases t<;>rfl
 | .o p,t,x,k=>by
  cases t with
  |leaf=>exact gX d p .leaf x _
  |node v l r=>exact gX d p l x _
 | .i p,t,x,k=>by
  cases t with
  |leaf=>exact gX d p .leaf x _
  |node v l r=>exact gX d p r x _
def putK(h:HTr)(i:Nat)(o:HOT)(k:HTr->R):R:=match Nat.blt i h.n with
 |true=>putR noO (bq i) h.t o λt=>k ⟨h.n,t⟩
 |false=>k h
def jt(h:HTr)(o:HOT)(k:HTr->R):R:=putR noO (bq h.n) h.t o λt=>fN (Nat.succ h.n) λn=>k ⟨n,t⟩
def fT(h:HTr)(i:Nat)(o:HOT)(k:HTr->R):putK h i o k=k (h.put i o):=by
 unfold putK HTr.put
 split
 next e=>rw[gX]
 ·rfl
def gj(h:HTr)(o:HOT)(k:HTr->R):jt h o k=k (h.push o):=by
 unfold jt HTr.push
 rw[gX,fq]
def uo{α:Type}(l:List α):(List α->R)->R:=
 List.rec (motive:=λ_=>(List α->R)->R) (λk=>k []) (λx _ ih k=>ih λl=>k (x :: l)) l
def mg{α:Type}:∀(l:List α) (k:List α->R),uo l k=k l
 | [],_=>rfl
 |x :: l,k=>mg l λl=>k (x :: l)
def uq(v:Value)(k:Value->R):R:=match v with
 | .int kd n=>fI n λn=>k (.int kd n)
 | .bool b=>Bool.rec (k (.bool false)) (k (.bool true)) b
 |v=>k v
def plainV_eq(v:Value)(k:Value->R):uq v k=k v:=by
 unfold uq
 split
 ·exact ja _ _
 next b=>cases b<;>rfl
 ·rfl
def insK(l:Tl):Nat->Tr Value->(Tr Value->R)->R:=
 List.rec (motive:=λ_=>Nat->Tr Value->(Tr Value->R)->R) (λ_ c k=>k c) (λv _ ih i c k=>uq v λv=>putR nilV (bq i) c v λc=>fN (Nat.succ i) λi=>ih i c k) l
def lO:∀(l:Tl) (i:Nat) (c:Tr Value) (k:Tr Value->R),insK l i c k=k (insT l i c)
 | [],_,_,_=>rfl
 |v :: l,i,c,k=>by
  show(uq v λv=>putR nilV (bq i) c v λc=>fN (Nat.succ i) λi=>insK l i c k)=_
  rw[plainV_eq,gX,fq,lO l];rfl
def qU(o:HObj)(k:HOT->R):R:=match o with
 | .cells vs e rw=>fN vs.length λn=>insK vs 0 .leaf λc=>k (.t n e rw c)
 | .map es c=>uo es λes=>fN c λc=>k (.o (.map es c))
 |o=>k (.o o)
def iz{o:HObj}{k:HOT->R}:∃x:HOT,x.ho = .o o/\qU o k=k x:=by
 cases o with
 |cells vs e rw=>
  refine⟨.t vs.length e rw (insT vs 0 .leaf),by simp only[HOT.ho,uY],?_⟩
  show(fN vs.length λn=>insK vs 0 .leaf λc=>k (.t n e rw c))=_
  rw[fq,lO]
 |map es c=>
  refine⟨.o (.map es c),rfl,?_⟩
  show(uo es λes=>fN c λc=>k (.o (.map es c)))=_
  rw[mg,fq]
 |_=>exact⟨.o _,rfl,rfl⟩
def pG(l:TB):(TB->R)->R:=
 List.rec (motive:=λ_=>(TB->R)->R) (λk=>k []) (λx _ ih k=>match x with
  | .i n=>fI n λn=>ih λl=>k (.i n :: l)
  | .b t=>Bool.rec (ih λl=>k (.b false :: l)) (ih λl=>k (.b true :: l)) t
  | .v v=>ih λl=>k (.v v :: l)) l
def dQ:∀(l:TB) (k:TB->R),pG l k=k l
 | [],_=>rfl
 | .i n :: l,k=>(ja n λn=>pG l λl=>k (.i n :: l)).trans (dQ l _)
 | .b true :: l,k=>dQ l λl=>k (.b true :: l)
 | .b false :: l,k=>dQ l λl=>k (.b false :: l)
 | .v v :: l,k=>dQ l λl=>k (.v v :: l)
end
end Sx
section
open Sx
abbrev RT:=Option (TB)
abbrev yes:RT:=some []
abbrev ac:=CK->TB->HTr->(TB->HTr->RT)->RT
def Act1.onH(h:HL):Act1->HL
 | .set i o=>h.set i (.o o)
 | .push o=>h++[.o o]
def cm(h:HL)(l:List Act1):HL:=l.foldl Act1.onH h
def getH(T:Tt)(h:HL):bR:=λi=>match h[i]? with
 |some x=>some (absO T x)
 |none=>none
def getT(T:Tt)(h:HTr):bR:=λi=>match h.at i with
 |some x=>some (absO T x.ho)
 |none=>none
def uT(l:List Act1):HTr->(HTr->RT)->RT:=
 List.rec (motive:=λ_=>HTr->(HTr->RT)->RT) (λh k=>k h) (λa _ ih h k=>match a with
  | .set i o=>qU o λo=>putK h i o λh=>ih h k
  | .push o=>qU o λo=>jt h o λh=>ih h k) l
def condB(b:Bool)(x y:RT):RT:=Bool.rec y x b
def outG(k:TF)(c:Int)(K:Int->RT):RT:=Bool.rec (fI (k.wrap c) K) (K c) (fits k c)
def out64(c:Int)(K:Int->RT):RT:=@Bool.rec (λ_=>RT) (fI (IntKind.wrap .i64 c) K) (K c) (@Int.rec (λ_=>Bool) (λn=>Nat.ble n 9223372036854775807) (λn=>Nat.ble n 9223372036854775807) c)
def outU8(c:Int)(K:Int->RT):RT:=@Bool.rec (λ_=>RT) (fI (IntKind.wrap .u8 c) K) (K c) (@Int.rec (λ_=>Bool) (λn=>Nat.ble n 255) (λ_=>false) c)
def outK(k:TF)(c:Int)(K:Int->RT):RT:=@IntKind.rec (λ_=>RT) (outG .i8 c K) (outG .i16 c K) (outG .i32 c K) (out64 c K) (outU8 c K) (outG .u16 c K) (outG .u32 c K) (outG .u64 c K) k
def addK(a b:Int)(K:Int->RT):RT:=
 Int.rec (λm=>Int.rec (λn=>fN (Nat.add m n) λc=>K (.ofNat c)) (λn=>Bool.rec (fN (Nat.sub n m) λc=>K (.negSucc c)) (fN (Nat.sub m (Nat.succ n)) λc=>K (.ofNat c)) (Nat.blt n m)) b)
  (λm=>Int.rec (λn=>Bool.rec (fN (Nat.sub m n) λc=>K (.negSucc c)) (fN (Nat.sub n (Nat.succ m)) λc=>K (.ofNat c)) (Nat.blt m n)) (λn=>fN (Nat.succ (Nat.add m n)) λc=>K (.negSucc c)) b) a
def subK(a b:Int)(K:Int->RT):RT:=
 Int.rec (λm=>Int.rec (λn=>Bool.rec (fN (Nat.sub n (Nat.succ m)) λc=>K (.negSucc c)) (fN (Nat.sub m n) λc=>K (.ofNat c)) (Nat.ble n m)) (λn=>fN (Nat.succ (Nat.add m n)) λc=>K (.ofNat c)) b)
  (λm=>Int.rec (λn=>fN (Nat.add m n) λc=>K (.negSucc c)) (λn=>Bool.rec (fN (Nat.sub m (Nat.succ n)) λc=>K (.negSucc c)) (fN (Nat.sub n m) λc=>K (.ofNat c)) (Nat.ble m n)) b) a
def mulK(a b:Int)(K:Int->RT):RT:=
 Int.rec (λm=>Int.rec (λn=>fN (Nat.mul m n) λc=>K (.ofNat c)) (λn=>Nat.rec (K (.ofNat 0)) (λm' _=>fN (Nat.add (Nat.mul m n) m') λc=>K (.negSucc c)) m) b)
  (λm=>Int.rec (λn=>Nat.rec (K (.ofNat 0)) (λn' _=>fN (Nat.add (Nat.mul m n) n') λc=>K (.negSucc c)) n) (λn=>fN (Nat.mul (Nat.succ m) (Nat.succ n)) λc=>K (.ofNat c)) b) a
def quoK(a b:Int)(K:Int->RT):RT:=
 Int.rec (λm=>Int.rec (λn=>fN (Nat.div m n) λc=>K (.ofNat c)) (λ_=>fI (Int.tdiv a b) K) b) (λ_=>fI (Int.tdiv a b) K) a
def remK(a b:Int)(K:Int->RT):RT:=
 Int.rec (λm=>Int.rec (λn=>fN (Nat.mod m n) λc=>K (.ofNat c)) (λ_=>fI (Int.tmod a b) K) b) (λ_=>fI (Int.tmod a b) K) a
def isZ(b:Int):Bool:=Int.rec (λn=>Nat.beq n 0) (λ_=>false) b
def ariB(op:BinOp)(k:TF)(a b:Int)(K:Int->RT):RT:=
 match op with
 | .add=>addK a b λc=>outK k c K
 | .sub=>subK a b λc=>outK k c K
 | .mul=>mulK a b λc=>outK k c K
 | .quo=>Bool.rec (quoK a b λc=>outK k c K) none (isZ b)
 | .rem=>Bool.rec (remK a b K) none (isZ b)
 | .and=>match eqI b 1 with
  |true=>fI (Int.emod a 2) K
  |false=>match a,b with
   | .ofNat m,.ofNat n=>fI (.ofNat (Nat.land m n)) λc=>outK k c K
   |_,_=>none
 | .xor=>match a,b with
  | .ofNat m,.ofNat n=>fI (.ofNat (Nat.xor m n)) λc=>outK k c K
  |_,_=>none
 | .or=>match a,b with
  | .ofNat m,.ofNat n=>fI (.ofNat (Nat.lor m n)) λc=>outK k c K
  |_,_=>none
 |_=>none
def eqZK(a b:Int):Bool:=Int.rec (λm=>Int.rec (λn=>Nat.beq m n) (λ_=>false) b) (λm=>Int.rec (λ_=>false) (λn=>Nat.beq m n) b) a
def notK(b:Bool):Bool:=Bool.rec true false b
def cmpB(op:BinOp)(a b:Int)(K:Bool->RT):RT:=
 match op with
 | .eql=>K (eqZK a b)
 | .neq=>K (notK (eqZK a b))
 | .lss=>K (notK (leZ b a))
 | .leq=>K (leZ a b)
 | .gtr=>K (notK (leZ a b))
 | .geq=>K (leZ b a)
 |_=>none
def eqBK(a b:Bool):Bool:=Bool.rec (notK b) b a
def eqLf(x y:Lf):Bool:=Lf.rec (λa=>Lf.rec (λb=>eqZK a b) (λ_=>false) (λ_=>false) y) (λa=>Lf.rec (λ_=>false) (λb=>eqBK a b) (λ_=>false) y) (λ_=>false) x
def eqsV(l:List (Lf×Lf)):Bool:=List.rec true (λp _ ih=>Bool.rec false ih (eqLf p.1 p.2)) l
def eqsB(l:List (Lf×Lf))(K:Bool->RT):RT:=K (eqsV l)
def convB(k:TF)(a:Int)(K:Int->RT):RT:=outK k a K
def selB(t:Bool)(a b:Int)(K:Int->RT):RT:=Bool.rec (K b) (K a) t
def optB{α:Type}(o:Option α)(K:α->RT):RT:=Option.rec none K o
def unIB(ls:TB)(K:Int->TB->RT):RT:=List.rec none (λx r _=>Lf.rec (λn=>K n r) (λ_=>none) (λ_=>none) x) ls
def unBB(ls:TB)(K:Bool->TB->RT):RT:=List.rec none (λx r _=>Lf.rec (λ_=>none) (λn=>K n r) (λ_=>none) x) ls
def unVB(ls:TB)(K:Value->TB->RT):RT:=List.rec none (λx r _=>Lf.rec (λ_=>none) (λ_=>none) (λn=>K n r) x) ls
def un0B(ls:TB)(K:RT):RT:=List.rec K (λ_ _ _=>none) ls
def ucIB(k:TF)(ls:Tl)(K:Int->Tl->RT):RT:=match ls with | .int k' n :: r=>(match dz k k' with|true=>K n r|false=>none)|_=>none
def ucBB(ls:Tl)(K:Bool->Tl->RT):RT:=match ls with | .bool n :: r=>K n r|_=>none
def ucVB(ls:Tl)(K:Value->Tl->RT):RT:=match ls with|n :: r=>K n r|_=>none
def uc0B(ls:Tl)(K:RT):RT:=match ls with | []=>K|_=>none
def spot0(s:Tp):Bool:=match s with
 |none=>true
 |some k=>match k with
  |0=>false
  |_=>true
def goodF(v:Value):Bool:=match v with
 | .pointer (some a)=>spot0 a.spot
 | .slice (some a) _ _=>spot0 a.spot
 |v=>aY v
def chkB(v:Value)(K:RT):RT:=match goodF v with|true=>K|false=>none
def lenR{α:Type}(l:List α):Nat:=List.rec 0 (λ_ _ n=>Nat.succ n) l
def ldB(n:Nat)(p:Value)(h:HTr)(K:Tl->RT):RT:=match p with
 | .pointer (some a)=>match a.spot with
  |none=>match h.at a.block with
   |some (.t m _ _ c)=>match Nat.ble (Nat.add a.off n) m with
    |true=>K (vG c n a.off)
    |false=>none
   |_=>none
  |some _=>none
 |_=>none
def lgB(C:Cfg)(n:Nat)(p:Value)(h:HTr)(K:Tl->RT):RT:=match p with
 | .pointer (some a)=>match a.spot with
  |none=>match h.at a.block with
   |some (.t m _ _ c)=>match Nat.ble (Nat.add a.off n) m with
    |true=>K (vG c n a.off)
    |false=>none
   |_=>none
  |some k=>match Nat.beq k 1 with
   |true=>match C.G a.block with
    |some vs=>match cutL vs a.off n with
     |some cs=>K cs
     |none=>none
    |none=>none
   |false=>none
 |_=>none
def peekB(T:Tt)(f:Pk)(h:HTr)(K:Tl->RT):RT:=match f with
 | .ld n p=>ldB n p h K
 | .lg C n p=>lgB C n p h K
 | .fn f=>match f (getT T h)with|some x=>K x|none=>none
def stB(p:Value)(new:Tl)(h:HTr)(K:Tl->HTr->RT):RT:=match p with
 | .pointer (some a)=>match a.spot with
  |none=>match h.at a.block with
   |some (.t m e true c)=>match Nat.ble (Nat.add a.off (lenR new)) m with
    |true=>insK new a.off c λc=>putK h a.block (.t m e true c) λh=>K [] h
    |false=>none
   |_=>none
  |some _=>none
 |_=>none
def tagB(s:Tp)(esz:Nat):Bool:=match s with
 |none=>false
 |some k=>Nat.beq k (Nat.add esz 10)
def slB(C:Cfg)(T:Tt)(esz:Nat)(x:Value)(h:HTr)(K:Tl->Nat->RT):RT:=match x with
 | .slice (some a) len _=>match tagB a.spot esz with
  |true=>match h.at a.block with
   |some (.t m e _ c)=>match Nat.beq e esz,Nat.ble (Nat.add a.off (Nat.mul len esz)) m with
    |true,true=>K (vG c (Nat.mul len esz) a.off) len
    |_,_=>none
   |_=>none
  |false=>match slG C esz (getT T h) x with
   |some p=>K p.1 p.2
   |none=>none
 |x=>match slG C esz (getT T h) x with
  |some p=>K p.1 p.2
  |none=>none
def growB(c:Tr Value)(m off w esz:Nat)(new:Tl)(k:HOT->RT):RT:=match Nat.beq off 0,Nat.beq w m with
 |true,true=>insK new m c λc=>fN (Nat.add m (lenR new)) λm=>k (.t m esz true c)
 |_,_=>qU (.cells (vG c w off++new) esz true) k
def apB(T:Tt)(C:Cfg)(esz bytes:Nat)(s x:Value)(h:HTr)(K:Tl->HTr->RT):RT:=
 slB C T esz x h λnew n=>match s with
  | .slice none 0 0=>match n with
   |0=>K [.slice none 0 0] h
   |n+1=>match ch (n+1) bytes with
    |true=>qU (.cells new esz true) λo=>jt h o λh'=>fN (n+1) λn=>K [.slice (some ⟨h.n,0,tag esz⟩) n 0] h'
    |false=>none
  | .slice (some a) len cx=>match tagB a.spot esz with
   |false=>none
   |true=>match h.at a.block with
    |some (.t m e rw c)=>match Nat.beq e esz,Nat.ble (Nat.add a.off (Nat.mul len esz)) m with
     |true,true=>match cx with
      |0=>match n with
       |0=>K [.slice (some a) len 0] h
       |n+1=>match rw,ch (len+(n+1)) bytes with
        |true,true=>growB c m a.off (Nat.mul len esz) esz new λo=>putK h a.block (.o .dead) λh'=>jt h' o λh''=>fN (len+(n+1)) λl=>K [.slice (some ⟨h.n,0,tag esz⟩) l 0] h''
        |_,_=>none
      |cap+1=>match Nat.ble (len+n) cap with
       |true=>match rw,Nat.ble (Nat.add (Nat.add a.off (Nat.mul len esz)) (lenR new)) m with
        |true,true=>insK new (Nat.add a.off (Nat.mul len esz)) c λc=>putK h a.block (.t m e true c) λh'=>fN (len+n) λl=>K [.slice (some a) l (cap+1)] h'
        |_,_=>none
       |false=>match ch (len+n) bytes with
        |true=>growB c m a.off (Nat.mul len esz) esz new λo=>jt h o λh'=>fN (len+n) λl=>K [.slice (some ⟨h.n,0,tag esz⟩) l 0] h'
        |false=>none
     |_,_=>none
    |_=>none
  |_=>none
def heapB(T:Tt)(f:Hp)(h:HTr)(K:Tl->HTr->RT):RT:=match f with
 | .st p new=>stB p new h K
 | .ap C esz bytes s x=>apB T C esz bytes s x h K
 | .fn f=>match f (getT T h) h.n with|some p=>uo p.2 λcs=>uT p.1 h λh=>K cs h|none=>none
def newB(o:HObj)(h:HTr)(K:Nat->HTr->RT):RT:=qU o λo=>jt h o λh'=>K h.n h'
def toSL(k:LK)(v:Value):Option SL:=
 match k with
 | .i k=>match v with
  | .int k' n=>match dz k' k with
   |true=>some (.i k' n)
   |false=>none
  |_=>none
 | .b=>match v with
  | .bool t=>some (.b t)
  |_=>none
 | .v=>match aY v with
  |true=>some (.v v)
  |false=>none
def toSLs:TE->Tl->Option (List SL)
 | [],[]=>some []
 |k :: ks,v :: vs=>match toSL k v with
  |some x=>match toSLs ks vs with
   |some xs=>some (x :: xs)
   |none=>none
  |none=>none
 |_,_=>none
def toS0(sk:SK)(v:Value):Option S0:=
 match sk with
 | .leaf k=>(toSL k v).map .leaf
 | .agg ks=>match v with
  | .agg cs=>(toSLs ks cs.toList).map .agg
  |_=>none
def toS0s:TG->Tl->Option (List S0)
 | [],[]=>some []
 |k :: ks,v :: vs=>match toS0 k v with
  |some x=>match toS0s ks vs with
   |some xs=>some (x :: xs)
   |none=>none
  |none=>none
 |_,_=>none
def eqLK:LK->LK->Bool
 | .i a,.i b=>dz a b
 | .b,.b=>true
 | .v,.v=>true
 |_,_=>false
def eqLKs:TE->TE->Bool
 | [],[]=>true
 |a :: l,b :: m=>eqLK a b&&eqLKs l m
 |_,_=>false
def eqSK:SK->SK->Bool
 | .leaf a,.leaf b=>eqLK a b
 | .agg a,.agg b=>eqLKs a b
 |_,_=>false
def eqSKs:TG->TG->Bool
 | [],[]=>true
 |a :: l,b :: m=>eqSK a b&&eqSKs l m
 |_,_=>false
def gG(ls:TB):Bool:=List.rec true (λl _ ih=>match l with
 | .v x=>(match goodF x with
  |true=>ih
  |false=>false)
 |_=>ih) ls
section
variable (Sg:Tc) (T:Tt) (call:ac)
def callB(g:TJ)(ls:TB)(h:HTr)(K:TB->HTr->RT):RT:=match gG ls with|true=>call (.f g) ls h K|false=>none
def kB(g:TJ)(hs:Option (TG))(vals:Tl)(h:HTr)(K:TB->HTr->RT):RT:=
 match Sg g with
 |none=>none
 |some sg=>match (match hs with|none=>true|some hs=>eqSKs sg.rs hs)with
  |false=>none
  |true=>match toS0s sg.ps vals with
   |none=>none
   |some xs=>callB call g (ca xs) h K
def callvB(v:Value)(args:Tl)(hs:TG)(h:HTr)(K:TB->HTr->RT):RT:=
 match v with
 | .func fn first cap=>match fn with
  | .func g=>kB Sg call g (some hs) (first.toList++args++cap.toList) h K
  | .yield l=>match first.toList,cap.toList with
   | [],[]=>match h.at l with
    |some (.lp κ _ _ vs)=>match eqSKs [.leaf .b] hs with
     |false=>none
     |true=>match toS0s ((T κ).params.map (·.2)) args with
      |none=>none
      |some xs=>match gG (ca xs)with
       |true=>call (.y κ vs l) (ca xs) h K
       |false=>none
    |_=>none
   |_,_=>none
  |_=>none
 |_=>none
def rfunB(κ:Nat)(v:Value)(vals:Tl)(h:HTr)(K:Tk->HTr->RT):RT:=
 match v with
 | .func fn first cap=>match fn with
  | .func g=>jt h (.lp κ .ready none vals) λh0=>kB Sg call g none (first.toList++[.func (.yield h.n) #[] #[]]++cap.toList) h0 λ_ h1=>match h1.at h.n with
   |some (.lp κ' st pd vs)=>match st with
    | .busy=>none
    |_=>putK h1 h.n (.lp κ' .exhausted pd vs) λh2=>K pd h2
   |_=>none
  |_=>none
 |_=>none
def pendB(pd:Tk)(kn kr:RT)(ks:List (Nat×RT)):RT:=
 match pd with
 |none=>kn
 |some c=>match c with
  | .ret=>kr
  | .exit id=>List.rec none (λp _ ih=>match Nat.beq p.1 id with|true=>p.2|false=>ih) ks
  |_=>none
def lp1B(l:Nat)(h:HTr)(K:HTr->RT):RT:=
 match h.at l with
 |some (.lp κ st pd vs)=>match st with
  | .ready=>putK h l (.lp κ .busy pd vs) K
  |_=>none
 |_=>none
def lp2B(l:Nat)(j:Tk)(h:HTr)(K:HTr->RT):RT:=
 match h.at l with
 |some (.lp κ _ _ vs)=>match j with
  |none=>putK h l (.lp κ .ready none vs) K
  |some c=>putK h l (.lp κ .done (some c) vs) K
 |_=>none
end
def loopB(F:(TB->HTr->RT)->TB->HTr->RT)(ls:TB)(h:HTr):RT:=
 Nat.rec (motive:=λ_=>TB->HTr->RT) (λ_ _=>none) (λ_ ih ls h=>F ih ls h) 1000000 ls h
def joinB(b:TB->HTr->RT)(m:(TB->HTr->RT)->RT):RT:=m b
def shfB(op:BinOp)(k:TF)(a:Int)(_:TF)(b:Int)(K:Int->RT):RT:=match leZ 0 b with
 |true=>match op with
  | .shl=>fI (k.wrap (a*2 ^ min b.toNat k.bits)) K
  | .shr=>fI (a.fdiv (2 ^ min b.toNat k.bits)) K
  |_=>none
 |false=>none
def BA(Sg:Tc)(T:Tt)(call:ac):Alg RT HTr where
 fail:=none
 cond:=condB
 ari:=ariB
 shf:=shfB
 cmp:=cmpB
 eqs:=eqsB
 conv:=convB
 sel:=selB
 opt:=optB
 chk:=chkB
 unI:=unIB
 unB:=unBB
 unV:=unVB
 un0:=un0B
 ucI:=ucIB
 ucB:=ucBB
 ucV:=ucVB
 uc0:=uc0B
 peek:=peekB T
 heap:=heapB T
 new:=newB
 call:=callB call
 callv:=callvB Sg T call
 join:=joinB
 loop:=loopB
 rfun:=rfunB Sg call
 pend:=pendB
 lp1:=lp1B
 lp2:=lp2B
end
namespace Sx
section
variable [Val] [Kno]
def wAt(pts:Tz)(tm:Tl)(o:Oper):Tz:=(wOps pts o).flatMap λx=>adr (oval tm x)
def fAt(pts:Tz)(tm:Tl)(o:Oper):Tz:=(cA pts o).1.flatMap λx=>adrK (cA pts o).2 (oval tm x)
def dstIn(pts:Tz)(tm:Tl)(o:Oper):Prop:=∀d,o.dst=some d->hCls pts o=2->∃v,tm[d]?=some v
def SepAt(pts:Tz)(ops:Tm)(tm:Tl)(ps:List (Nat×Nat)):Prop:=
 ∀p∈ps,∃a b,ops[p.1]?=some a/\ops[p.2]?=some b/\(∀x∈wAt pts tm a,x∉fAt pts tm b)/\(∀x∈wAt pts tm a,x∉wAt pts tm b)/\(∀x∈wAt pts tm b,x∉fAt pts tm a)/\dstIn pts tm a/\dstIn pts tm b
def SameAt(ops:Tm)(k:Nat)(σ σ':St):Prop:=∃o d x,ops[k]?=some o/\o.dst=some d/\σ.tmps[d]?=some x/\σ'.tmps[d]?=some x
def opsTr(C:Cfg)(B:Below)(pts:Tz)(ops:Tm):Tz->St->List (Ts)->St->Prop
 | [],σ,hs,σ'=>hs=[]/\σ'=σ
 |i :: l,σ,hs,σ'=>∃σ₁ hs',ae C B pts ops i σ σ₁/\hs=σ₁.heap :: hs'/\opsTr C B pts ops l σ₁ hs' σ'
def AgainAt(C:Cfg)(B:Below)(pts:Tz)(ops:Tm)(σ:St)(hs:List (Ts))(σ':St)(l:List (Nat×Nat)):Prop:=
 ∀p∈l,∃σ₂,ae C B pts ops p.1 { σ' with heap:=atM σ.heap hs p } σ₂/\SameAt ops p.1 σ' σ₂
def DrOk(C:Cfg)(dr:Dr):Prop:=∀pts ops ps,dr pts ops=some ps->match manyOf ps with
 |some l=>∀(n:Nat) (σ σ':St) (hs:List (Ts)),opsTr C (sm C n).toBelow pts ops (List.range ops.size) σ hs σ'->AgainAt C (sm C n).toBelow pts ops σ hs σ' l->dm C (sm C n).toBelow pts ops σ σ'
 |none=>match splOf ps with
 |none=>∀(n:Nat) (σ σ':St),aT C (sm C n).toBelow pts ops (List.range ops.size) σ σ'->SepAt pts ops σ'.tmps ps->dm C (sm C n).toBelow pts ops σ σ'
 |some p=>∀(n:Nat) (σ σ₁ σ₂ σ':St),aT C (sm C n).toBelow pts ops (List.range' 0 (ops.toList.take (p.2+1)).length) σ σ₁->ae C (sm C n).toBelow pts ops p.1 σ₁ σ₂->SameAt ops p.1 σ₁ σ₂->
   aT C (sm C n).toBelow pts ops (List.range' (p.2+1) (ops.toList.drop (p.2+1)).length) σ₁ σ'->dm C (sm C n).toBelow pts ops σ σ'
def opsTr_at{C:Cfg}{pts:Tz}{ops:Tm}:∀ {l:Tz} {σ σ':St} {hs:List (Ts)},opsTr C (uB C) pts ops l σ hs σ'->∃n,∀m,n<=m->opsTr C (sm C m).toBelow pts ops l σ hs σ'
 | [],_,_,_,h=>⟨0,λ_ _=>h⟩
 |_ :: _,_,_,_,⟨σ₁,hs',h1,e,h2⟩=>by
  obtain⟨n,h1⟩:=gr h1
  obtain⟨m,h2⟩:=opsTr_at h2
  exact⟨max n m,λk hk=>⟨σ₁,hs',cp (gA (by omega)).call (gA (by omega)).yield h1,e,h2 k (by omega)⟩⟩
def again_at{C:Cfg}{pts:Tz}{ops:Tm}{σ:St}{hs:List (Ts)}{σ':St}:∀ {l:List (Nat×Nat)},AgainAt C (uB C) pts ops σ hs σ' l->∃n,∀m,n<=m->AgainAt C (sm C m).toBelow pts ops σ hs σ' l
 | [],_=>⟨0,λ_ _ p hp=>(by cases hp)⟩
 |q :: l,h=>by
  obtain⟨σ₂,h1,h2⟩:=h q (by simp)
  obtain⟨n,h1⟩:=gr h1
  obtain⟨m,h3⟩:=again_at (l:=l) λp hp=>h p (qao _ hp)
  refine⟨max n m,λk hk p hp=>?_⟩
  rcases qap.1 hp with rfl|hp
  ·exact⟨σ₂,cp (gA (by omega)).call (gA (by omega)).yield h1,h2⟩
  ·exact h3 k (by omega) p hp
def eqSp_ok:∀ {x y:Tp},eqSp x y=true->x=y
 |none,none,_=>rfl
 |some a,some b,h=>by rw[qac h]
 |none,some _,h=>by cases h
 |some _,none,h=>by cases h
def eqAd_ok:∀ {x y:Option Addr},eqAd x y=true->x=y
 |none,none,_=>rfl
 |some a,some b,h=>by
  simp only[eqAd]at h
  split at h
  next h1 h2=>
   cases a;cases b
   simp only at h1 h2 h
   rw[qac h1,qac h2,eqSp_ok h]
  ·cases h
 |none,some _,h=>by cases h
 |some _,none,h=>by cases h
def eqNt_ok:∀ {x y:Int},eqNt x y=true->x=y
 | .ofNat a,.ofNat b,h=>by rw[qac h]
 | .negSucc a,.negSucc b,h=>by rw[qac h]
 | .ofNat _,.negSucc _,h=>by cases h
 | .negSucc _,.ofNat _,h=>by cases h
def eqIn_ok{x y:Int}{u:Unit}(h:eqIn x y=some u):x=y:=by
 unfold eqIn at h
 split at h
 next e=>exact eqNt_ok e
 ·cases h
def eqBo_ok{x y:Bool}{u:Unit}(h:eqBo x y=some u):x=y:=by
 cases x<;>cases y<;>first|rfl|cases h
def tY{x:Nat}:∀ {l:Tz},memN x l=true↔x∈l
 | []=>by simp[memN]
 |y :: l=>by
  unfold memN
  cases h:Nat.beq x y with
  |true=>simp[qac h]
  |false=>
   have:x≠y:=λe=>by subst e;rw[show Nat.beq x x=true from qbN x]at h;cases h
   simp only[qap,this,false_or]
   exact tY
def tA:∀ {l m:Tz},disjN l m=true->∀x∈l,x∉m
 | [],_,_,_,h=>by cases h
 |y :: l,m,h,x,hx=>by
  unfold disjN at h
  cases hm:memN y m with
  |true=>rw[hm]at h;cases h
  |false=>
   rw[hm]at h
   rcases qap.1 hx with rfl|hx
   ·intro e;rw[tY.2 e]at hm;cases hm
   ·exact tA h x hx
def sepL_ok:∀ {l:List (Value×Nat×Value)} {u:Unit},sepL l=some u->∀p∈l,∀r∈adr p.1,r∉adrK p.2.1 p.2.2
 | [],_,_,_,h=>by cases h
 |q :: l,u,h,p,hp=>by
  unfold sepL at h
  split at h
  next hd=>
   rcases qap.1 hp with rfl|hp
   ·exact tA hd
   ·exact sepL_ok h p hp
  ·cases h
def entV_ok{ev:Env}{σ:St}(hR:Rp ev σ){x:TD}{us:Tl}(h:entV (sval ev x)=some us)(k r:Nat)(hr:r∈adrK k (oval σ.tmps x)):∃u∈us,r∈adrK k u:=by
 have hn:sval ev x≠.no:=λe=>by rw[e]at h;cases h
 have hv:=(hR.sval rfl hn).1
 rw[hv]at hr
 generalize sval ev x=s at *
 have none:adrK k s.val=[]->∃u∈us,r∈adrK k u:=λe=>by rw[e]at hr;cases hr
 cases s with
 |st y=>
  cases y with
  |leaf l=>
   cases l with
   |v u=>
    cases h
    exact⟨u,by simp,hr⟩
   |_=>exact none (by cases k with|zero=>rfl|succ k=>cases k<;>rfl)
  |agg cs=>exact none (by cases k with|zero=>rfl|succ k=>cases k<;>rfl)
 |no=>exact absurd rfl hn
 |_=>exact none (by cases k with|zero=>rfl|succ k=>cases k<;>rfl)
def eT{ev:Env}{σ:St}(hR:Rp ev σ):∀ {l:List Operand} {us:Tl},oO ev l=some us->∀(k r:Nat),r∈l.flatMap (λx=>adrK k (oval σ.tmps x))->∃u∈us,r∈adrK k u
 | [],_,_,_,_,h=>by cases h
 |x :: l,us,h,k,r,hr=>by
  unfold oO at h
  split at h
  next a b ha hb=>
   cases h
   rw[qbC,qaH]at hr
   rcases hr with hr|hr
   ·obtain⟨u,h1,h2⟩:=entV_ok hR ha k r hr
    exact⟨u,qaO _ h1,h2⟩
   ·obtain⟨u,h1,h2⟩:=eT hR hb k r hr
    exact⟨u,qa4 _ h1,h2⟩
  ·cases h
def lB{ev:Env}{σ:St}(hR:Rp ev σ){d:Nat}:∀ {l:List Operand} {us:Tl},oO ev l=some us->Operand.tmp d∈l->∃v,σ.tmps[d]?=some v
 |x :: l,us,h,hm=>by
  unfold oO at h
  split at h
  next a b ha hb=>
   rcases qap.1 hm with rfl|hm
   ·have hn:sval ev (.tmp d)≠.no:=λe=>by rw[e]at ha;cases ha
    exact⟨_,(hR.at (s:=ev.tm.getD d .no) rfl hn).1⟩
   ·exact lB hR hb hm
  ·cases h
def pY{pts:Tz}{o:Oper}{d:Nat}(hd:o.dst=some d)(h:hCls pts o=2):Operand.tmp d∈wOps pts o:=by
 unfold wOps
 rw[h,hd]
 simp
def lu{us vs:Tl}{k:Nat}{u v:Value}(hu:u∈us)(hv:v∈vs):(u,k,v)∈cross us k vs:=by
 unfold cross
 exact qcb.2 ⟨u,hu,qaN.2 ⟨v,hv,rfl⟩⟩
def sepOne_ok{pts:Tz}{ev:Env}{σ:St}(hR:Rp ev σ){a b:Oper}{l:List (Value×Nat×Value)}(h:sepOne pts ev a b=some l)(hs:∀p∈l,∀r∈adr p.1,r∉adrK p.2.1 p.2.2) :
  (∀x∈wAt pts σ.tmps a,x∉fAt pts σ.tmps b)/\(∀x∈wAt pts σ.tmps a,x∉wAt pts σ.tmps b)/\(∀x∈wAt pts σ.tmps b,x∉fAt pts σ.tmps a)/\dstIn pts σ.tmps a/\dstIn pts σ.tmps b:=by
 unfold sepOne at h
 split at h
 next wa wb fa fb h1 h2 h3 h4=>
  cases h
  refine⟨λx hx hy=>?_,λx hx hy=>?_,λx hx hy=>?_,λd hd hc=>lB hR h1 (pY hd hc),λd hd hc=>lB hR h2 (pY hd hc)⟩
  ·obtain⟨u,u1,u2⟩:=eT hR h1 0 x hx
   obtain⟨v,v1,v2⟩:=eT hR h4 _ x hy
   exact hs (u,_,v) (qaO _ (qaO _ (lu u1 v1))) x u2 v2
  ·obtain⟨u,u1,u2⟩:=eT hR h1 0 x hx
   obtain⟨v,v1,v2⟩:=eT hR h2 0 x hy
   exact hs (u,0,v) (qaO _ (qa4 _ (lu u1 v1))) x u2 v2
  ·obtain⟨u,u1,u2⟩:=eT hR h2 0 x hx
   obtain⟨v,v1,v2⟩:=eT hR h3 _ x hy
   exact hs (u,_,v) (qa4 _ (lu u1 v1)) x u2 v2
 ·cases h
def od{pts:Tz}{ops:Tm}{ev:Env}{σ:St}(hR:Rp ev σ):∀ {ps:List (Nat×Nat)} {l:List (Value×Nat×Value)},pQ pts ops ev ps=some l->(∀p∈l,∀r∈adr p.1,r∉adrK p.2.1 p.2.2)->SepAt pts ops σ.tmps ps
 | [],_,_,_,_,h=>by cases h
 |q :: ps,l,h,hs,p,hp=>by
  unfold pQ at h
  split at h
  next a b r ha hb hr=>
   obtain⟨x,hx,rfl⟩:=qad.1 h
   rcases qap.1 hp with rfl|hp
   ·exact⟨a,b,ha,hb,sepOne_ok hR hx λp hp=>hs p (qaO _ hp)⟩
   ·exact od hR hr (λp hp=>hs p (qa4 _ hp)) p hp
  ·cases h
def eqFn_ok{x y:Value}{u:Unit}(h:eqFn x y=some u):x=y:=by
 unfold eqFn at h
 split at h
 ·split at h
  ·split at h
   next l a b _ m c d e1 e2 e3 e4 e5=>
    have e1:=qac e1
    have f:∀ {a:Tj},a.toList=[]->a = #[]:=λh=>qaZ.1 h
    rw[e1,f e2,f e3,f e4,f e5]
   ·cases h
  ·cases h
 ·cases h
def eqVl_ok{x y:Value}{u:Unit}(h:eqVl x y=some u):x=y:=by
 unfold eqVl at h
 split at h
 ·split at h
  ·split at h
   next e=>rw[eqAd_ok e]
   ·cases h
  ·cases h
 ·split at h
  ·split at h
   next e1 e2 e3=>rw[eqAd_ok e1,qac e2,qac e3]
   ·cases h
  ·cases h
 ·split at h
  ·split at h
   next e=>rw[eqSp_ok e]
   ·cases h
  ·cases h
 ·exact eqFn_ok h
section
variable {R HT:Type} {A:Alg R HT} {C:Cfg} {Sg:Tc} {T:Tt} {holds:R->Prop} {abs:HT->Ts}
def samL_ok(hA:AlgOk A C Sg T holds abs){x y:SL}{K:R}(h:holds (samL A x y K)):x.val=y.val/\holds K:=by
 unfold samL at h
 split at h
 ·split at h
  ·split at h
   next e=>
    obtain⟨u,h1,h2⟩:=hA.opt _ _ h
    rw[eqIn_ok h1,cT e]
    exact⟨rfl,h2⟩
   ·exact absurd h hA.fail
  ·exact absurd h hA.fail
 ·split at h
  ·obtain⟨u,h1,h2⟩:=hA.opt _ _ h
   rw[eqBo_ok h1]
   exact⟨rfl,h2⟩
  ·exact absurd h hA.fail
 ·split at h
  ·obtain⟨u,h1,h2⟩:=hA.opt _ _ h
   rw[eqVl_ok h1]
   exact⟨rfl,h2⟩
  ·exact absurd h hA.fail
 ·exact absurd h hA.fail
def uC(hA:AlgOk A C Sg T holds abs):∀ {x y:List SL} {K:R},holds (samLs A x y K)->x.map SL.val=y.map SL.val/\holds K
 | [],[],_,h=>⟨rfl,h⟩
 |a :: l,b :: m,K,h=>by
  obtain⟨h1,h2⟩:=samL_ok hA (show holds (samL A a b (samLs A l m K))from h)
  obtain⟨h3,h4⟩:=uC hA h2
  exact⟨by rw[qat,qat,h1,h3],h4⟩
 | [],_ :: _,_,h=>absurd h hA.fail
 |_ :: _,[],_,h=>absurd h hA.fail
def samS_ok(hA:AlgOk A C Sg T holds abs){ev ev':Env}{σ σ':St}(hR:Rp ev σ)(hR':Rp ev' σ'){d:Nat}{K:R}(h:holds (samS A (ev.tm.getD d .no) (ev'.tm.getD d .no) K)):(∃x,σ.tmps[d]?=some x/\σ'.tmps[d]?=some x)/\holds K:=by
 have go:∀ {x y:S0},ev.tm.getD d .no = .st x->ev'.tm.getD d .no = .st y->x.val=y.val->∃z,σ.tmps[d]?=some z/\σ'.tmps[d]?=some z:=λh1 h2 e=>
  ⟨_,(hR.at h1 (by simp)).1,(show σ'.tmps[d]?=_ from(hR'.at h2 (by simp)).1.trans (by show some _=some _;rw[show SV.val (.st _)=S0.val _ from rfl,←e];rfl))⟩
 unfold samS at h
 split at h
 next e1=>
  split at h
  next e2=>
   obtain⟨h1,h2⟩:=samL_ok hA h
   exact⟨go e1 e2 h1,h2⟩
  ·exact absurd h hA.fail
 next e1=>
  split at h
  next e2=>
   obtain⟨h1,h2⟩:=uC hA h
   exact⟨go e1 e2 (by simp only[S0.val,h1]),h2⟩
  ·exact absurd h hA.fail
 ·exact absurd h hA.fail
end
def entF_ok{ev:Env}{σ:St}(hR:Rp ev σ){d:Nat}{x:Value}(h:entF (ev.tm.getD d .no)=some x):σ.tmps[d]?=some x:=by
 unfold entF at h
 split at h
 next y hy=>
  cases h
  exact(hR.at hy (by simp)).1
 ·cases h
def sepK_ok{R HT:Type}{A:Alg R HT}{C:Cfg}{Sg:Tc}{T:Tt}{holds:R->Prop}{abs:HT->Ts}(hA:AlgOk A C Sg T holds abs){pts:Tz}{ops:Tm}{ps:List (Nat×Nat)}{kn:KN R HT}{ev:Env}{σ:St}(hR:Rp ev σ){h:HT}(hk:holds (sepK A pts ops ps kn ev h)) :
  SepAt pts ops σ.tmps ps/\holds (kn ev h):=by
 unfold sepK at hk
 split at hk
 ·exact⟨λp hp=>(by cases hp),hk⟩
 ·simp only at hk
  split at hk
  next l hl=>
   obtain⟨u,h1,h2⟩:=hA.opt _ _ hk
   exact⟨od hR hl (sepL_ok h1),h2⟩
  ·exact absurd hk hA.fail
end
end Sx
end Go.Am
end

/-
  PART 3 OF THE PROOF (no conditions).
-/
import Derived.Test.YtagdngknkloibaaGreatDoorPA2
import Derived.IntWalk
set_option linter.unusedSectionVars false
set_option linter.unusedSimpArgs false
set_option linter.unusedVariables false
set_option linter.constructorNameAsVariable false
set_option linter.defProp false
noncomputable section
set_option maxRecDepth 100000
namespace Go.Am
section
variable {R HT:Type} (A:Alg R HT)
def Alg.k0(l:List Lf)(k:Int->Int->Value->Int->Int->Int->R):R:=A.unI l λa0 l=>A.unI l λa1 l=>A.unV l λa2 l=>A.unI l λa3 l=>A.unI l λa4 l=>A.unI l λa5 l=>A.un0 l (k a0 a1 a2 a3 a4 a5)
def Alg.k1(l:List Lf)(k:Int->Int->Value->R):R:=A.unI l λa0 l=>A.unI l λa1 l=>A.unV l λa2 l=>A.un0 l (k a0 a1 a2)
def Alg.k2(l:List Lf)(k:Bool->R):R:=A.unB l λa0 l=>A.un0 l (k a0)
def Alg.k3(l:List Lf)(k:Value->Int->R):R:=A.unV l λa0 l=>A.unI l λa1 l=>A.un0 l (k a0 a1)
def Alg.k4(l:List Lf)(k:Int->R):R:=A.unI l λa0 l=>A.un0 l (k a0)
def Alg.k5(l:List Lf)(k:Int->Int->Int->R):R:=A.unI l λa0 l=>A.unI l λa1 l=>A.unI l λa2 l=>A.un0 l (k a0 a1 a2)
def Alg.k6(l:List Lf)(k:Value->R):R:=A.unV l λa0 l=>A.un0 l (k a0)
def Alg.k7(l:List Value)(k:Int->R):R:=A.ucI .i64 l λa0 l=>A.uc0 l (k a0)
def Alg.k8(l:List Value)(k:Int->R):R:=A.ucI .u8 l λa0 l=>A.uc0 l (k a0)
def Alg.k9(l:List Value)(k:Int->Int->Int->R):R:=A.ucI .i64 l λa0 l=>A.ucI .i64 l λa1 l=>A.ucI .u8 l λa2 l=>A.uc0 l (k a0 a1 a2)
def Alg.k10(l:List Lf)(k:Int->Int->R):R:=A.unI l λa0 l=>A.unI l λa1 l=>A.un0 l (k a0 a1)
def Alg.k11(l:List Value)(k:Int->Int->Int->R):R:=A.ucI .u8 l λa0 l=>A.ucI .i64 l λa1 l=>A.ucI .i64 l λa2 l=>A.uc0 l (k a0 a1 a2)
def Alg.k12(l:List Value)(k:Int->Int->R):R:=A.ucI .i64 l λa0 l=>A.ucI .i64 l λa1 l=>A.uc0 l (k a0 a1)
def Alg.k13(l:List Lf)(k:Int->Int->Int->Int->Int->R):R:=A.unI l λa0 l=>A.unI l λa1 l=>A.unI l λa2 l=>A.unI l λa3 l=>A.unI l λa4 l=>A.un0 l (k a0 a1 a2 a3 a4)
def Alg.k14(l:List Lf)(k:Int->Int->Int->Int->R):R:=A.unI l λa0 l=>A.unI l λa1 l=>A.unI l λa2 l=>A.unI l λa3 l=>A.un0 l (k a0 a1 a2 a3)
def Alg.k15(l:List Lf)(k:Int->Int->Int->Int->Int->Int->R):R:=A.unI l λa0 l=>A.unI l λa1 l=>A.unI l λa2 l=>A.unI l λa3 l=>A.unI l λa4 l=>A.unI l λa5 l=>A.un0 l (k a0 a1 a2 a3 a4 a5)
def Alg.k16(l:List Value)(k:Int->Int->R):R:=A.ucI .i64 l λa0 l=>A.ucI .u8 l λa1 l=>A.uc0 l (k a0 a1)
def Alg.k17(l:List Value)(k:Int->Int->Int->R):R:=A.ucI .i64 l λa0 l=>A.ucI .u8 l λa1 l=>A.ucI .u8 l λa2 l=>A.uc0 l (k a0 a1 a2)
def Alg.k18(l:List Lf)(k:Value->Int->Int->Value->R):R:=A.unV l λa0 l=>A.unI l λa1 l=>A.unI l λa2 l=>A.unV l λa3 l=>A.un0 l (k a0 a1 a2 a3)
def Alg.cd(o:BinOp)(x y:Int)(p q:R):R:=A.cmp o x y λt=>A.cond t p q
def Alg.ix(e:Nat)(x:Value)(n:Int)(w:Nat)(h:HT)(k:List Value->R):R:=A.opt (idS e x n) λp=>A.peek (.lg cc w p) h k
def Alg.fx(e:Nat)(x:Value)(n:Int)(o w:Nat)(h:HT)(k:List Value->R):R:=A.opt (idS e x n) λp=>A.opt (fdP o p) λq=>A.chk q (A.peek (.lg cc w q) h k)
def qeq:(∀l k,A.k0 l k=A.unI l λa0 l=>A.unI l λa1 l=>A.unV l λa2 l=>A.unI l λa3 l=>A.unI l λa4 l=>A.unI l λa5 l=>A.un0 l (k a0 a1 a2 a3 a4 a5))/\(∀l k,A.k1 l k=A.unI l λa0 l=>A.unI l λa1 l=>A.unV l λa2 l=>A.un0 l (k a0 a1 a2))/\(∀l k,A.k2 l k=A.unB l λa0 l=>A.un0 l (k a0))/\(∀l k,A.k3 l k=A.unV l λa0 l=>A.unI l λa1 l=>A.un0 l (k a0 a1))/\(∀l k,A.k4 l k=A.unI l λa0 l=>A.un0 l (k a0))/\(∀l k,A.k5 l k=A.unI l λa0 l=>A.unI l λa1 l=>A.unI l λa2 l=>A.un0 l (k a0 a1 a2))/\(∀l k,A.k6 l k=A.unV l λa0 l=>A.un0 l (k a0))/\(∀l k,A.k7 l k=A.ucI .i64 l λa0 l=>A.uc0 l (k a0))/\(∀l k,A.k8 l k=A.ucI .u8 l λa0 l=>A.uc0 l (k a0))/\(∀l k,A.k9 l k=A.ucI .i64 l λa0 l=>A.ucI .i64 l λa1 l=>A.ucI .u8 l λa2 l=>A.uc0 l (k a0 a1 a2))/\(∀l k,A.k10 l k=A.unI l λa0 l=>A.unI l λa1 l=>A.un0 l (k a0 a1))/\(∀l k,A.k11 l k=A.ucI .u8 l λa0 l=>A.ucI .i64 l λa1 l=>A.ucI .i64 l λa2 l=>A.uc0 l (k a0 a1 a2))/\(∀l k,A.k12 l k=A.ucI .i64 l λa0 l=>A.ucI .i64 l λa1 l=>A.uc0 l (k a0 a1))/\(∀l k,A.k13 l k=A.unI l λa0 l=>A.unI l λa1 l=>A.unI l λa2 l=>A.unI l λa3 l=>A.unI l λa4 l=>A.un0 l (k a0 a1 a2 a3 a4))/\(∀l k,A.k14 l k=A.unI l λa0 l=>A.unI l λa1 l=>A.unI l λa2 l=>A.unI l λa3 l=>A.un0 l (k a0 a1 a2 a3))/\(∀l k,A.k15 l k=A.unI l λa0 l=>A.unI l λa1 l=>A.unI l λa2 l=>A.unI l λa3 l=>A.unI l λa4 l=>A.unI l λa5 l=>A.un0 l (k a0 a1 a2 a3 a4 a5))/\(∀l k,A.k16 l k=A.ucI .i64 l λa0 l=>A.ucI .u8 l λa1 l=>A.uc0 l (k a0 a1))/\(∀l k,A.k17 l k=A.ucI .i64 l λa0 l=>A.ucI .u8 l λa1 l=>A.ucI .u8 l λa2 l=>A.uc0 l (k a0 a1 a2))/\(∀l k,A.k18 l k=A.unV l λa0 l=>A.unI l λa1 l=>A.unI l λa2 l=>A.unV l λa3 l=>A.un0 l (k a0 a1 a2 a3))/\(∀o x y p q,A.cd o x y p q=A.cmp o x y λt=>A.cond t p q)/\(∀e x n w h k,A.ix e x n w h k=A.opt (idS e x n) λp=>A.peek (.lg cc w p) h k)/\(∀e x n o w h k,A.fx e x n o w h k=A.opt (idS e x n) λp=>A.opt (fdP o p) λq=>A.chk q (A.peek (.lg cc w q) h k)):=by
 refine⟨?_,?_,?_,?_,?_,?_,?_,?_,?_,?_,?_,?_,?_,?_,?_,?_,?_,?_,?_,?_,?_,?_⟩<;>intros<;>rfl
variable(ls:List Lf)(h:HT)(K:List Lf->HT->R)
def f3:R:=A.k0 ls λj k l m n o=>A.call 6 [.i j,.i k,.v l] h λp q=>A.k1 p λa c d=>A.call 7 [.i a,.i c,.v d,.i m,.i n,.i o] q λr g=>A.k2 r λs=>A.cond (!s) (K [.b false] g) (A.call 8 [.i a,.i c,.v d,.i 0,.i 0,.i 0] g λt u=>A.k3 t λN w=>A.call 9 [.i a,.i c,.v d] u λx e=>A.unI x λO y=>A.unI y λP z=>A.unB z λB C=>A.k4 C λD=>A.join (λE F=>A.k2 E λG=>K [.b G] F) λf=>A.cd .eql D 0 (A.cmp .eql w 0 λH=>A.eqs [(.b B,.b H)] λI=>A.cond I (A.call 10 [] e λJ L=>A.k2 J λM=>f [.b M] L) (f [.b false] e)) (f [.b false] e))
def f6:R:=A.k1 ls λk l e=>A.ari .rem .u8 k 4 λm=>A.conv .i64 m λn=>A.ari .add .i64 1 n λf=>A.ari .rem .u8 l 4 λo=>A.conv .i64 o λp=>A.ari .add .i64 1 p λg=>A.ari .mul .i64 6 f λq=>A.ari .mul .i64 q g λa=>A.opt (mkOk a a) λM=>A.new (.cells (aM [.int .u8 0] (Int.toNat a)) 1 true) h λd r=>A.join (λs t=>A.un0 s (A.call 25 [.i f,.i g,.v (.slice (some ⟨d,0,some 11⟩) (Int.toNat a) ((Int.toNat a)+1))] t λu w=>A.k1 u λx y z=>K [.i x,.i y,.v z] w)) λj=>A.loop (λB C c=>A.k4 C λb=>A.opt (lenS (.slice (some ⟨d,0,some 11⟩) (Int.toNat a) ((Int.toNat a)+1))) λD=>A.cd .lss b D (A.opt (lenS e) λE=>A.cd .lss b E (A.ix 1 e b 1 c λF=>A.k8 F λG=>A.ari .rem .u8 G 4 λH=>A.opt (idS 1 (.slice (some ⟨d,0,some 11⟩) (Int.toNat a) ((Int.toNat a)+1)) b) λI=>A.heap (.st I [.int .u8 H]) c λN J=>A.ari .add .i64 b 1 λL=>B [.i L] J) (j [] c)) (j [] c)) [.i 0] r
def f7:R:=A.k0 ls λe f g l m n=>A.call 26 [.i e,.i f,.v g,.i l,.i m,.i n] h λD E=>A.k3 D λd o=>A.call 21 [.i e,.i f,.v g,.i l,.i m,.i n] E λF G=>A.k3 F λp H=>A.call 13 [.i e,.i f,.v g,.i l,.i m,.i n] G λI J=>A.k3 I λq L=>A.call 14 [.i e,.i f,.v g,.i l,.i m,.i n] J λM N=>A.k3 M λr O=>A.call 22 [.i e,.i f,.v g,.i l,.i m,.i n] N λP Q=>A.k3 P λx S=>A.call 23 [.i e,.i f,.v g,.i l,.i m,.i n] Q λT j=>A.k10 T λy U=>A.cd .neq H o (K [.b false] j) (A.cd .neq L o (K [.b false] j) (A.cd .neq O o (K [.b false] j) (A.cd .neq S o (K [.b false] j) (A.cd .neq U o (K [.b false] j) (A.cd .neq o 0 (A.opt (lenS p) λV=>A.opt (lenS q) λW=>A.ari .add .i64 V W λX=>A.opt (lenS r) λY=>A.ari .add .i64 X Y λZ=>A.opt (lenS x) λa0=>A.ari .add .i64 Z a0 λa1=>A.ari .add .i64 a1 y λa2=>A.cmp .eql a2 0 λa3=>K [.b a3] j) (A.call 27 [.i e,.i f,.v g,.v d] j λa4 k=>A.k6 a4 λs=>A.opt (lenS p) λa5=>A.opt (lenS d) λa6=>A.cd .neq a5 a6 (K [.b false] k) (A.opt (lenS q) λa7=>A.opt (lenS d) λa8=>A.cd .neq a7 a8 (K [.b false] k) (A.opt (lenS r) λa9=>A.opt (lenS d) λb0=>A.cd .neq a9 b0 (K [.b false] k) (A.opt (capS p) λb1=>A.opt (lenS p) λb2=>A.cd .neq b1 b2 (K [.b false] k) (A.opt (capS q) λb3=>A.opt (lenS q) λb4=>A.cd .neq b3 b4 (K [.b false] k) (A.opt (capS r) λb5=>A.opt (lenS r) λb6=>A.cd .neq b5 b6 (K [.b false] k) (A.call 29 [.v s] k λb7 b8=>A.k6 b7 λb9=>A.call 28 [.v x,.v b9] b8 λc0 z=>A.k2 c0 λc1=>A.cond (!c1) (K [.b false] z) (A.loop (λc2 c3 B=>A.k10 c3 λu c=>A.opt (lenS d) λc4=>A.cd .lss c c4 (A.loop (λc5 c6 a=>A.k10 c6 λt w=>A.opt (lenS d) λc7=>A.cd .lss w c7 (A.ix 3 s w 3 a λc8=>A.k9 c8 λc9 d0 d1=>A.ix 3 s c 3 a λd2=>A.k9 d2 λd3 d4 d5=>A.eqs [(.i c9,.i d3),(.i d0,.i d4),(.i d1,.i d5)] λd6=>A.join (λd7 d8=>A.k4 d7 λd9=>A.ari .add .i64 w 1 λe0=>c5 [.i d9,.i e0] d8) λC=>A.cond d6 (A.ari .add .i64 t 1 λe1=>C [.i e1] a) (C [.i t] a)) (A.cmp .lss u t λe2=>A.sel e2 t u λe3=>A.ix 3 p c 3 a λe4=>A.k11 e4 λe5 e6 e7=>A.ix 3 d c 3 a λe8=>A.k11 e8 λe9 f0 f1=>A.eqs [(.i e5,.i e9),(.i e6,.i f0),(.i e7,.i f1)] λf2=>A.cond (!f2) (K [.b false] a) (A.ix 3 q c 3 a λf3=>A.k9 f3 λf4 f5 f6=>A.ix 3 s c 3 a λf7=>A.k9 f7 λf8 f9 g0=>A.eqs [(.i f4,.i f8),(.i f5,.i f9),(.i f6,.i g0)] λg1=>A.cond (!g1) (K [.b false] a) (A.ix 1 r c 1 a λg2=>A.ucB g2 λg3 g4=>A.uc0 g4 (A.fx 3 d c 0 1 a λg5=>A.k8 g5 λg6=>A.cmp .lss g6 4 λg7=>A.eqs [(.b g3,.b g7)] λg8=>A.cond (!g8) (K [.b false] a) (A.ari .add .i64 c 1 λg9=>c2 [.i e3,.i g9] a)))))) [.i 0,.i 0] B) (A.cmp .eql y u λh0=>K [.b h0] B)) [.i 0,.i 0] z)))))))))))))
def f8:R:=A.k0 ls λn o G H I J=>A.call 15 [.i n,.i o] h λL M=>A.k6 L λd=>A.call 16 [.i n,.i o,.v G] M λN O=>A.k6 N λx=>A.call 30 [.i n,.i o] O λP Q=>A.k6 P λp=>A.loop (λS T q=>A.k3 T λu r=>A.opt (lenS d) λU=>A.cd .lss r U (A.fx 2 d r 0 1 q λV=>A.k7 V λW=>A.fx 2 d r 1 1 q λX=>A.k8 X λY=>A.conv .i64 Y λZ=>A.call 17 [.i n,.i o,.i W,.i Z] q λa0 a1=>A.k4 a0 λa2=>A.new (.cells [.int .i64 a2] 1 true) a1 λa3 a4=>A.heap (.ap cc 1 8 u (.slice (some ⟨a3,0,some 11⟩) 1 2)) a4 λa5 a6=>A.ucV a5 λy a7=>A.chk y (A.uc0 a7 (A.ari .add .i64 r 1 λa8=>S [.v y,.i a8] a6))) (A.opt (lenS p) λa=>A.opt (mkOk a a) λj6=>A.new (.cells (aM [.int .u8 0,.int .i64 0,.int .i64 0] (Int.toNat a)) 3 true) q λj a9=>A.opt (lenS p) λc=>A.opt (mkOk c c) λj7=>A.new (.cells (aM [.int .i64 0] (Int.toNat c)) 1 true) a9 λl b0=>A.opt (idS 3 (.slice (some ⟨j,0,some 13⟩) (Int.toNat a) ((Int.toNat a)+1)) 0) λb1=>A.heap (.st b1 [.int .u8 H,.int .i64 I,.int .i64 J]) b0 λj8 b2=>A.opt (idS 1 (.slice (some ⟨l,0,some 11⟩) (Int.toNat c) ((Int.toNat c)+1)) 0) λb3=>A.heap (.st b3 [.int .i64 1]) b2 λj9 b4=>A.loop (λb5 b6 z=>A.k2 b6 λb7=>A.cond b7 (A.loop (λb8 b9 e=>A.unB b9 λB c0=>A.k4 c0 λk=>A.opt (lenS d) λc1=>A.cd .lss k c1 (A.join (λc2 c3=>A.k2 c2 λc4=>A.ari .add .i64 k 1 λc5=>b8 [.b c4,.i c5] c3) λC=>A.fx 2 d k 0 1 e λc6=>A.k7 c6 λw=>A.ix 1 u k 1 e λc7=>A.k7 c7 λs=>A.opt (idS 1 (.slice (some ⟨l,0,some 11⟩) (Int.toNat c) ((Int.toNat c)+1)) w) λc8=>A.peek (.lg cc 1 c8) e λc9=>A.k7 c9 λd0=>A.opt (idS 1 (.slice (some ⟨l,0,some 11⟩) (Int.toNat c) ((Int.toNat c)+1)) s) λd1=>A.peek (.lg cc 1 d1) e λd2=>A.k7 d2 λd3=>A.cd .eql d0 d3 (C [.b B] e) (A.opt (idS 1 (.slice (some ⟨l,0,some 11⟩) (Int.toNat c) ((Int.toNat c)+1)) s) λd4=>A.peek (.lg cc 1 d4) e λd5=>A.k7 d5 λd6=>A.cmp .eql d6 1 λd7=>A.join (λd8 m=>A.k10 d8 λD E=>A.ix 3 p D 3 m λd9=>A.k9 d9 λe0 e1 e2=>A.fx 2 d k 1 1 m λe3=>A.k8 e3 λe4=>A.conv .i64 e4 λe5=>A.ix 1 x k 1 m λe6=>A.k8 e6 λe7=>A.opt (idS 3 (.slice (some ⟨j,0,some 13⟩) (Int.toNat a) ((Int.toNat a)+1)) D) λe8=>A.peek (.lg cc 3 e8) m λe9=>A.k11 e9 λf0 f1 f2=>A.call 31 [.i e0,.i e1,.i e2,.i e5,.i e7,.i f0,.i f1,.i f2] m λf3 f4=>A.k5 f3 λf5 f6 f7=>A.opt (idS 3 (.slice (some ⟨j,0,some 13⟩) (Int.toNat a) ((Int.toNat a)+1)) E) λf8=>A.heap (.st f8 [.int .u8 f5,.int .i64 f6,.int .i64 f7]) f4 λk1 f9=>A.opt (idS 1 (.slice (some ⟨l,0,some 11⟩) (Int.toNat c) ((Int.toNat c)+1)) E) λg0=>A.heap (.st g0 [.int .i64 1]) f9 λl0 g1=>C [.b true] g1) λF=>A.cond d7 (F [.i s,.i w] e) (F [.i w,.i s] e))) (b5 [.b B] e)) [.b false,.i 0] z) (A.loop (λg2 g3 f=>A.k4 g3 λg=>A.opt (lenS d) λg4=>A.cd .lss g g4 (A.fx 2 d g 0 1 f λg5=>A.k7 g5 λg6=>A.ix 3 p g6 3 f λg7=>A.k9 g7 λg8 g9 h0=>A.fx 2 d g 1 1 f λh1=>A.k8 h1 λh2=>A.conv .i64 h2 λh3=>A.ix 1 x g 1 f λh4=>A.k8 h4 λh5=>A.fx 2 d g 0 1 f λh6=>A.k7 h6 λh7=>A.opt (idS 3 (.slice (some ⟨j,0,some 13⟩) (Int.toNat a) ((Int.toNat a)+1)) h7) λh8=>A.peek (.lg cc 3 h8) f λh9=>A.k11 h9 λi0 i1 i2=>A.call 31 [.i g8,.i g9,.i h0,.i h3,.i h5,.i i0,.i i1,.i i2] f λi3 t=>A.k5 i3 λi4 i5 i6=>A.ix 1 u g 1 t λi7=>A.k7 i7 λi8=>A.opt (idS 3 (.slice (some ⟨j,0,some 13⟩) (Int.toNat a) ((Int.toNat a)+1)) i8) λi9=>A.peek (.lg cc 3 i9) t λj0=>A.k11 j0 λj1 j2 j3=>A.eqs [(.i i4,.i j1),(.i i5,.i j2),(.i i6,.i j3)] λj4=>A.cond (!j4) (K [.v (.slice none 0 0),.i 0] t) (A.ari .add .i64 g 1 λj5=>g2 [.i j5] t)) (K [.v (.slice (some ⟨j,0,some 13⟩) (Int.toNat a) ((Int.toNat a)+1)),.i 1] f)) [.i 0] z)) [.b true] b4)) [.v (.slice none 0 0),.i 0] Q
def f9:R:=A.k1 ls λm n o=>A.new (.cells [.int .i64 m,.int .i64 n,o] 3 true) h λa e=>A.peek (.lg cc 3 (.pointer (some ⟨a,0,none⟩))) e λp=>A.ucI .i64 p λq r=>A.ucI .i64 r λs t=>A.ucV t λf u=>A.chk f (A.uc0 u (A.call 32 [.i q,.i s,.v f] e λw c=>A.k4 w λg=>A.cd .neq g 0 (K [.i 0,.i 0,.b false,.i g] c) (A.opt (fdP 0 (.pointer (some ⟨a,0,none⟩))) λj=>A.chk j (A.peek (.lg cc 2 j) c λx=>A.k12 x λy z=>A.call 33 [.i y,.i z] c λB C=>A.k3 B λk H=>A.chk (.func (.func 35) ⟨[]⟩ ⟨[.pointer (some ⟨a,0,none⟩)]⟩) (A.call 34 [.v k,.v (.func (.func 35) ⟨[]⟩ ⟨[.pointer (some ⟨a,0,none⟩)]⟩)] C λD d=>A.k4 D λl=>A.cd .geq l 0 (A.ix 2 k l 2 d λE=>A.k12 E λF G=>K [.i F,.i G,.b true,.i 0] d) (K [.i 0,.i 0,.b false,.i 0] d))))))
def f10:R:=A.un0 ls (A.call 37 [.i 1,.i 1,.i 0,.i 2] h λy z=>A.k13 y λB C D E F=>A.new (.cells [.int .u8 B,.int .u8 C,.int .i64 D,.int .i64 E,.int .i64 F] 5 true) z λG H=>A.call 36 [.i 2,.i 1,.v (.slice (some ⟨G,0,some 15⟩) 1 2)] H λI J=>A.k1 I λL M N=>A.call 38 [] J λO P=>A.k5 O λQ S T=>A.call 21 [.i L,.i M,.v N,.i Q,.i S,.i T] P λU V=>A.k3 U λo W=>A.call 37 [.i 1,.i 1,.i 0,.i 4] V λX Y=>A.k13 X λZ a0 a1 a2 a3=>A.call 37 [.i 2,.i 1,.i 0,.i 4] Y λa4 a5=>A.k13 a4 λa6 a7 a8 a9 b0=>A.new (.cells [.int .u8 Z,.int .u8 a0,.int .i64 a1,.int .i64 a2,.int .i64 a3,.int .u8 a6,.int .u8 a7,.int .i64 a8,.int .i64 a9,.int .i64 b0] 5 true) a5 λb1 b2=>A.call 36 [.i 2,.i 2,.v (.slice (some ⟨b1,0,some 15⟩) 2 3)] b2 λb3 b4=>A.k1 b3 λb5 b6 b7=>A.call 38 [] b4 λb8 b9=>A.k5 b8 λc0 c1 c2=>A.call 21 [.i b5,.i b6,.v b7,.i c0,.i c1,.i c2] b9 λc3 e=>A.k3 c3 λm c4=>A.cd .neq W 0 (K [.b false] e) (A.cd .neq c4 0 (K [.b false] e) (A.opt (lenS o) λc5=>A.cd .neq c5 8 (K [.b false] e) (A.opt (lenS m) λc6=>A.cd .neq c6 16 (K [.b false] e) (A.loop (λp c7 n=>A.k4 c7 λc=>A.cd .lss c 16 (A.opt (idS 3 m c) λg=>A.peek (.lg cc 3 g) n λc8=>A.k11 c8 λc9 d0 d1=>A.new (.cells [.int .u8 0,.int .i64 0,.int .i64 0,.int .u8 4,.int .i64 2,.int .i64 0,.int .u8 6,.int .i64 0,.int .i64 2,.int .u8 2,.int .i64 2,.int .i64 2] 3 true) n λj d=>A.ari .quo .i64 c 4 λd2=>A.opt (idS 3 (.slice (some ⟨j,0,some 13⟩) 4 5) d2) λd3=>A.peek (.lg cc 3 d3) d λd4=>A.k11 d4 λd5 d6 d7=>A.eqs [(.i c9,.i d5),(.i d0,.i d6),(.i d1,.i d7)] λd8=>A.cond (!d8) (A.opt (Sx.sepL [(.slice (some ⟨j,0,some 13⟩) 4 5,(0,g))]) λw2=>K [.b false] d) (A.cd .lss c 8 (A.ix 3 o c 3 d λd9=>A.k11 d9 λe0 e1 e2=>A.ix 3 m c 3 d λe3=>A.k11 e3 λe4 e5 e6=>A.eqs [(.i e0,.i e4),(.i e1,.i e5),(.i e2,.i e6)] λe7=>A.opt (Sx.sepL [(.slice (some ⟨j,0,some 13⟩) 4 5,(0,g))]) λw3=>A.join (λe8 e9=>A.un0 e8 (A.ari .add .i64 c 1 λf0=>p [.i f0] e9)) λf1=>A.cond (!e7) (K [.b false] d) (f1 [] d)) (A.opt (Sx.sepL [(.slice (some ⟨j,0,some 13⟩) 4 5,(0,g))]) λw4=>A.ari .add .i64 c 1 λf2=>p [.i f2] d))) (A.call 37 [.i 1,.i 1,.i 0,.i 4] n λf3 f4=>A.k13 f3 λf5 f6 f7 f8 f9=>A.call 37 [.i 2,.i 1,.i 0,.i 4] f4 λg0 g1=>A.k13 g0 λg2 g3 g4 g5 g6=>A.new (.cells [.int .u8 f5,.int .u8 f6,.int .i64 f7,.int .i64 f8,.int .i64 f9,.int .u8 g2,.int .u8 g3,.int .i64 g4,.int .i64 g5,.int .i64 g6] 5 true) g1 λg7 g8=>A.call 36 [.i 2,.i 2,.v (.slice (some ⟨g7,0,some 15⟩) 2 3)] g8 λg9 h0=>A.k1 g9 λh1 h2 h3=>A.call 38 [] h0 λh4 h5=>A.k5 h4 λh6 h7 h8=>A.call 23 [.i h1,.i h2,.v h3,.i h6,.i h7,.i h8] h5 λh9 i0=>A.k10 h9 λi1 i2=>A.call 37 [.i 1,.i 1,.i 0,.i 4] i0 λi3 i4=>A.k13 i3 λi5 i6 i7 i8 i9=>A.call 37 [.i 2,.i 1,.i 0,.i 2] i4 λj0 j1=>A.k13 j0 λj2 j3 j4 j5 j6=>A.new (.cells [.int .u8 i5,.int .u8 i6,.int .i64 i7,.int .i64 i8,.int .i64 i9,.int .u8 j2,.int .u8 j3,.int .i64 j4,.int .i64 j5,.int .i64 j6] 5 true) j1 λj7 j8=>A.call 36 [.i 2,.i 2,.v (.slice (some ⟨j7,0,some 15⟩) 2 3)] j8 λj9 k0=>A.k1 j9 λq r s=>A.call 38 [] k0 λk6 k7=>A.k5 k6 λk9 l0 l1=>A.call 21 [.i q,.i r,.v s,.i k9,.i l0,.i l1] k7 λl2 l3=>A.k3 l2 λw5 l4=>A.call 9 [.i q,.i r,.v s] l3 λl5 l6=>A.unI l5 λl7 l8=>A.unI l8 λl9 m0=>A.unB m0 λm1 m2=>A.k4 m2 λm3=>A.call 37 [.i 3,.i 1,.i 0,.i 2] l6 λm4 m5=>A.k13 m4 λm6 m7 m8 m9 n0=>A.new (.cells [.int .u8 m6,.int .u8 m7,.int .i64 m8,.int .i64 m9,.int .i64 n0] 5 true) m5 λn1 n2=>A.call 36 [.i 1,.i 1,.v (.slice (some ⟨n1,0,some 15⟩) 1 2)] n2 λn3 n4=>A.k1 n3 λn5 n6 n7=>A.call 38 [] n4 λn8 n9=>A.k5 n8 λo0 o1 o2=>A.call 13 [.i n5,.i n6,.v n7,.i o0,.i o1,.i o2] n9 λo3 a=>A.k3 o3 λf o4=>A.cd .neq i1 4 (K [.b false] a) (A.cd .neq i2 0 (K [.b false] a) (A.cd .neq l4 11 (K [.b false] a) (A.eqs [(.i l7,.i 2),(.i l9,.i 2)] λo5=>A.cond (!o5) (K [.b false] a) (A.cond (!m1) (K [.b false] a) (A.cd .neq m3 0 (K [.b false] a) (A.cd .neq o4 0 (K [.b false] a) (A.opt (lenS f) λo6=>A.cd .neq o6 4 (K [.b false] a) (A.opt (idS 3 f 0) λo7=>A.opt (fdP 2 o7) λt=>A.chk t (A.peek (.lg cc 1 t) a λo8=>A.k8 o8 λo9=>A.cd .neq o9 0 (K [.b false] a) (A.opt (idS 3 f 1) λp0=>A.opt (fdP 2 p0) λu=>A.chk u (A.peek (.lg cc 1 u) a λp1=>A.k8 p1 λp2=>A.cd .neq p2 0 (K [.b false] a) (A.opt (idS 3 f 2) λp3=>A.opt (fdP 2 p3) λw=>A.chk w (A.peek (.lg cc 1 w) a λp4=>A.k8 p4 λp5=>A.cd .neq p5 3 (K [.b false] a) (A.opt (idS 3 f 3) λp6=>A.opt (fdP 2 p6) λx=>A.chk x (A.peek (.lg cc 1 x) a λp7=>A.k8 p7 λp8=>A.cd .neq p8 3 (K [.b false] a) (A.call 37 [.i 1,.i 1,.i 0,.i 4] a λp9 q0=>A.k13 p9 λq1 q2 q3 q4 q5=>A.call 37 [.i 3,.i 2,.i 2,.i 4] q0 λq6 q7=>A.k13 q6 λq8 q9 r0 r1 r2=>A.call 37 [.i 4,.i 0,.i 0,.i 2] q7 λr3 r4=>A.k13 r3 λr5 r6 r7 r8 r9=>A.new (.cells [.int .u8 q1,.int .u8 q2,.int .i64 q3,.int .i64 q4,.int .i64 q5,.int .u8 q8,.int .u8 q9,.int .i64 r0,.int .i64 r1,.int .i64 r2,.int .u8 r5,.int .u8 r6,.int .i64 r7,.int .i64 r8,.int .i64 r9] 5 true) r4 λs0 s1=>A.call 36 [.i 2,.i 2,.v (.slice (some ⟨s0,0,some 15⟩) 3 4)] s1 λs2 s3=>A.k1 s2 λs4 s5 s6=>A.call 24 [.i s4,.i s5,.v s6,.i 2,.i 2] s3 λs7 s8=>A.unB s7 λs9 t0=>A.k4 t0 λt1=>A.call 37 [.i 3,.i 2,.i 0,.i 4] s8 λt2 t3=>A.k13 t2 λt4 t5 t6 t7 t8=>A.call 37 [.i 4,.i 0,.i 0,.i 4] t3 λt9 u0=>A.k13 t9 λu1 u2 u3 u4 u5=>A.new (.cells [.int .u8 t4,.int .u8 t5,.int .i64 t6,.int .i64 t7,.int .i64 t8,.int .u8 u1,.int .u8 u2,.int .i64 u3,.int .i64 u4,.int .i64 u5] 5 true) u0 λu6 u7=>A.call 36 [.i 2,.i 2,.v (.slice (some ⟨u6,0,some 15⟩) 2 3)] u7 λu9 v0=>A.k1 u9 λv1 v2 v3=>A.call 24 [.i v1,.i v2,.v v3,.i 2,.i 2] v0 λv4 k=>A.unB v4 λv5 v6=>A.k4 v6 λv7=>A.join (λv8 v9=>A.k2 v8 λw0=>K [.b w0] v9) λl=>A.cond s9 (A.cd .eql t1 0 (A.cond v5 (A.cmp .eql v7 0 λw1=>l [.b w1] k) (l [.b false] k)) (l [.b false] k)) (l [.b false] k))))))))))))))))))) [.i 0] e)))))
def f13:R:=A.k0 ls λa b c d e f=>A.call 42 [.i a,.i b,.v c,.i d,.i e,.i f] h λg j=>A.unV g λn k=>A.k3 k λl m=>K [.v l,.i m] j
def f14:R:=A.k0 ls λj k l m n o=>A.call 42 [.i j,.i k,.v l,.i m,.i n,.i o] h λp e=>A.unV p λc q=>A.k3 q λH f=>A.cd .neq f 0 (K [.v (.slice none 0 0),.i f] e) (A.opt (lenS c) λa=>A.opt (mkOk a a) λI=>A.new (.cells (aM [.bool false] (Int.toNat a)) 1 true) e λg r=>A.opt (lenS c) λs=>A.loop (λt u d=>A.k4 u λb=>A.cd .lss b s (A.ix 3 c b 3 d λw=>A.k11 w λx y z=>A.call 43 [.i x,.i y,.i z] d λB C=>A.k2 B λD=>A.opt (idS 1 (.slice (some ⟨g,0,some 11⟩) (Int.toNat a) ((Int.toNat a)+1)) b) λE=>A.heap (.st E [.bool (!D)]) C λJ F=>A.ari .add .i64 b 1 λG=>t [.i G] F) (K [.v (.slice (some ⟨g,0,some 11⟩) (Int.toNat a) ((Int.toNat a)+1)),.i 0] d)) [.i 0] r)
def f15:R:=A.k10 ls λd e=>A.loop (λn o f=>A.k3 o λg a=>A.ari .mul .i64 4 d λp=>A.ari .mul .i64 p e λq=>A.cd .lss a q (A.loop (λr s j=>A.k3 s λc b=>A.cd .lss b 3 (A.call 17 [.i d,.i e,.i a,.i b] j λt k=>A.k4 t λu=>A.cmp .gtr u a λw=>A.join (λx y=>A.k6 x λz=>A.ari .add .i64 b 1 λB=>r [.v z,.i B] y) λl=>A.cond w (A.conv .u8 b λC=>A.new (.cells [.int .i64 a,.int .u8 C] 2 true) k λD E=>A.heap (.ap cc 2 16 c (.slice (some ⟨D,0,some 12⟩) 1 2)) E λF G=>A.ucV F λm H=>A.chk m (A.uc0 H (l [.v m] G))) (l [.v c] k)) (A.ari .add .i64 a 1 λI=>n [.v c,.i I] j)) [.v g,.i 0] f) (K [.v g] f)) [.v (.slice none 0 0),.i 0] h
def f16:R:=A.k1 ls λm n e=>A.call 15 [.i m,.i n] h λo p=>A.k6 o λf=>A.opt (lenS f) λb=>A.opt (mkOk b b) λS=>A.new (.cells (aM [.int .u8 0] (Int.toNat b)) 1 true) p λg q=>A.loop (λr s j=>A.k4 s λd=>A.opt (lenS f) λt=>A.cd .lss d t (A.loop (λk u a=>A.k4 u λc=>A.opt (lenS e) λw=>A.cd .lss c w (A.fx 3 e c 0 1 a λx=>A.k7 x λy=>A.fx 2 f d 0 1 a λz=>A.k7 z λB=>A.cd .eql y B (A.fx 3 e c 1 1 a λC=>A.k8 C λD=>A.fx 2 f d 1 1 a λE=>A.k8 E λF=>A.cmp .eql D F λG=>A.join (λH I=>A.un0 H (A.ari .add .i64 c 1 λJ=>k [.i J] I)) λl=>A.cond G (A.fx 3 e c 2 1 a λL=>A.k8 L λM=>A.opt (idS 1 (.slice (some ⟨g,0,some 11⟩) (Int.toNat b) ((Int.toNat b)+1)) d) λN=>A.heap (.st N [.int .u8 M]) a λT O=>l [] O) (l [] a)) (A.ari .add .i64 c 1 λP=>k [.i P] a)) (A.ari .add .i64 d 1 λQ=>r [.i Q] a)) [.i 0] j) (K [.v (.slice (some ⟨g,0,some 11⟩) (Int.toNat b) ((Int.toNat b)+1))] j)) [.i 0] q
def f17:R:=A.k14 ls λa c b d=>A.ari .quo .i64 b 4 λe=>A.ari .rem .i64 e a λf=>A.ari .mul .i64 4 a λg=>A.ari .quo .i64 b g λj=>A.ari .rem .i64 b 4 λk=>A.conv .u8 k λl=>A.call 18 [.i f,.i j,.i l,.i d] h λm n=>A.k5 m λo p q=>A.call 44 [.i a,.i c,.i o,.i p,.i q] n λr s=>A.k4 r λt=>K [.i t] s
def f18:R:=A.k14 ls λj k l n=>A.call 45 [.i j,.i k,.i l,.i n] h λo p=>A.k10 o λq r=>A.call 46 [.i j,.i k,.i l] p λs t=>A.k15 s λu v w x y z=>A.loop (λB C m=>A.unI C λa D=>A.k15 D λb c d e f g=>A.cd .lss a 3 (A.opt (inB 3 a) λa0=>A.opt (dO [.i b,.i c,.i d,.i e,.i f,.i g] 0 [(a,2)] 2) λE=>A.k10 E λF G=>A.call 47 [.i q,.i r,.i F,.i G] m λH I=>A.k10 H λJ L=>A.opt (inB 3 a) λa1=>A.opt (putL [.i b,.i c,.i d,.i e,.i f,.i g] 0 [(a,2)] [.i J,.i L]) λM=>A.k15 M λN O P Q S T=>A.ari .add .i64 a 1 λU=>B [.i U,.i N,.i O,.i P,.i Q,.i S,.i T] I) (A.call 48 [.i b,.i c,.i d,.i e,.i f,.i g] m λV W=>A.k5 V λX Y Z=>K [.i X,.i Y,.i Z] W)) [.i 0,.i u,.i v,.i w,.i x,.i y,.i z] t
def f21:R:=A.k0 ls λa b c d e f=>A.call 42 [.i a,.i b,.v c,.i d,.i e,.i f] h λg j=>A.unV g λk l=>A.k3 l λn m=>K [.v k,.i m] j
def f22:R:=A.k0 ls λc d e f g j=>A.call 13 [.i c,.i d,.v e,.i f,.i g,.i j] h λk a=>A.k3 k λl b=>A.cd .neq b 0 (K [.v (.slice none 0 0),.i b] a) (A.call 49 [.v l] a λm n=>A.k3 m λo p=>K [.v o,.i p] n)
def f23:R:=A.k0 ls λo p q r s t=>A.call 13 [.i o,.i p,.v q,.i r,.i s,.i t] h λu j=>A.k3 u λk l=>A.cd .neq l 0 (K [.i 0,.i l] j) (A.new (.map [] 0) j λa w=>A.opt (lenS k) λx=>A.loop (λy z b=>A.k10 z λc d=>A.cd .lss d x (A.ix 3 k d 3 b λB=>A.k9 B λe f g=>A.peek (.fn (luG cc 66 false (.int .i64 0) (.map (some a)) (.agg ⟨[.int .i64 e,.int .i64 f,.int .u8 g]⟩) false)) b λC=>A.k7 C λD=>A.ari .add .i64 D 1 λE=>A.heap (.fn (meG cc 66 false (.int .i64 0) (.map (some a)) (.agg ⟨[.int .i64 e,.int .i64 f,.int .u8 g]⟩))) b λF G=>A.k12 F λN H=>A.heap (.fn (esG (.map (some a)) H (.int .i64 E))) G λO m=>A.peek (.fn (luG cc 66 false (.int .i64 0) (.map (some a)) (.agg ⟨[.int .i64 e,.int .i64 f,.int .u8 g]⟩) false)) m λI=>A.k7 I λn=>A.cmp .lss c n λJ=>A.sel J n c λL=>A.ari .add .i64 d 1 λM=>y [.i L,.i M] m) (K [.i c,.i 0] b)) [.i 0,.i 0] w)
def f24:R:=A.unI ls λn o=>A.unI o λp q=>A.unV q λr s=>A.k10 s λe f=>A.call 50 [.i n,.i p,.v r,.i e,.i f] h λt g=>A.k3 t λj k=>A.cd .neq k 0 (K [.b false,.i k] g) (A.new (.cells [.int .u8 0,.int .i64 0,.int .i64 0] 3 true) g λc u=>A.chk (.func (.func 51) ⟨[.pointer (some ⟨c,0,none⟩)]⟩ ⟨[]⟩) (A.opt (lenS j) λw=>A.loop (λx y a=>A.k4 y λd=>A.cd .lss d w (A.ix 2 j d 2 a λz=>A.k16 z λB X=>A.ari .rem .i64 B 4 λl=>A.opt (inB 4 l) λY=>A.opt (dO [.i 2,.i 4,.i 1,.i 3] 0 [(l,1)] 1) λC=>A.k4 C λD=>A.call 52 [.i D,.i e,.i f] a λE F=>A.k5 E λG H Z=>A.callv (.func (.func 51) ⟨[.pointer (some ⟨c,0,none⟩)]⟩ ⟨[]⟩) [.agg ⟨[.int .u8 G,.int .i64 H]⟩] [] F λI J=>A.un0 I (A.ari .add .i64 d 1 λL=>x [.i L] J)) (A.opt (fdP 0 (.pointer (some ⟨c,0,none⟩))) λm=>A.chk m (A.peek (.lg cc 3 m) a λM=>A.k11 M λN O P=>A.call 38 [] a λQ S=>A.k5 Q λT U V=>A.eqs [(.i N,.i T),(.i O,.i U),(.i P,.i V)] λW=>K [.b W,.i 0] S))) [.i 0] u))
def f25:R:=A.k1 ls λj k f=>A.call 15 [.i j,.i k] h λo p=>A.k6 o λg=>A.join (λq r=>A.k1 q λs t u=>K [.i s,.i t,.v u] r) λl=>A.loop (λw x a=>A.unI x λb y=>A.k1 y λc d e=>A.opt (lenS g) λz=>A.cd .lss b z (A.opt (lenS f) λB=>A.cd .lss b B (A.ix 1 f b 1 a λC=>A.k8 C λD=>A.cmp .neq D 0 λE=>A.join (λF G=>A.k1 F λH I J=>A.ari .add .i64 b 1 λL=>w [.i L,.i H,.i I,.v J] G) λm=>A.cond E (A.fx 2 g b 0 1 a λM=>A.k7 M λN=>A.fx 2 g b 1 1 a λO=>A.k8 O λP=>A.ix 1 f b 1 a λQ=>A.k8 Q λS=>A.new (.cells [.int .i64 N,.int .u8 P,.int .u8 S] 3 true) a λT U=>A.heap (.ap cc 3 16 e (.slice (some ⟨T,0,some 13⟩) 1 2)) U λV W=>A.ucV V λn X=>A.chk n (A.uc0 X (m [.i c,.i d,.v n] W))) (m [.i c,.i d,.v e] a)) (l [.i c,.i d,.v e] a)) (l [.i c,.i d,.v e] a)) [.i 0,.i j,.i k,.v (.slice none 0 0)] p
def f26:R:=A.k0 ls λe f g j k l=>A.call 53 [.i j,.i k,.i l] h λp m=>A.k4 p λq=>A.cd .eql q 0 (K [.v (.slice none 0 0),.i 1] m) (A.call 8 [.i e,.i f,.v g,.i j,.i k,.i l] m λr n=>A.k3 r λa s=>A.cd .eql s 0 (K [.v (.slice none 0 0),.i 11] n) (A.call 27 [.i e,.i f,.v g,.v a] n λt u=>A.k6 t λw=>A.loop (λx y c=>A.k4 y λb=>A.opt (lenS a) λz=>A.cd .lss b z (A.ix 3 a b 3 c λB=>A.k11 B λC D E=>A.call 53 [.i C,.i D,.i E] c λF d=>A.k4 F λG=>A.cd .eql G 0 (K [.v (.slice none 0 0),.i 3] d) (A.ix 3 w b 3 d λH=>A.k9 H λI J L=>A.call 54 [.i I,.i J,.i L] d λM o=>A.k4 M λN=>A.cd .eql N 0 (K [.v (.slice none 0 0),.i 3] o) (A.ari .add .i64 b 1 λO=>x [.i O] o))) (K [.v a,.i 0] c)) [.i 0] u))
def f27:R:=A.unI ls λf g=>A.unI g λj k=>A.unV k λO l=>A.k6 l λm=>A.call 30 [.i f,.i j] h λn o=>A.k6 n λc=>A.loop (λp q a=>A.k3 q λd b=>A.opt (lenS c) λr=>A.cd .lss b r (A.ix 3 m b 3 a λs=>A.k11 s λt u w=>A.ix 3 c b 3 a λx=>A.k9 x λy z B=>A.call 55 [.i t,.i u,.i w,.i y,.i z,.i B] a λC D=>A.k5 C λE F G=>A.new (.cells [.int .i64 E,.int .i64 F,.int .u8 G] 3 true) D λH I=>A.heap (.ap cc 3 24 d (.slice (some ⟨H,0,some 13⟩) 1 2)) I λJ L=>A.ucV J λe M=>A.chk e (A.uc0 M (A.ari .add .i64 b 1 λN=>p [.v e,.i N] L))) (K [.v d] a)) [.v (.slice none 0 0),.i 0] o
def f28:R:=A.unV ls λa c=>A.k6 c λd=>A.call 56 [.v a,.v d] h λe f=>A.k2 e λg=>K [.b g] f
def f29:R:=A.k6 ls λc=>A.loop (λe f a=>A.k3 f λd b=>A.opt (lenS c) λg=>A.cd .lss b g (A.ix 3 c b 3 a λj=>A.k9 j λk l m=>A.call 57 [.v d,.i k,.i l,.i m] a λn o=>A.k6 n λp=>A.ari .add .i64 b 1 λq=>e [.v p,.i q] o) (K [.v d] a)) [.v (.slice none 0 0),.i 0] h
def f30:R:=A.k10 ls λm n=>A.loop (λo p d=>A.k3 p λe a=>A.cd .lss a n (A.loop (λq r f=>A.k3 r λg b=>A.cd .lss b m (A.loop (λs t j=>A.k3 t λk c=>A.cd .lss c 4 (A.new (.cells [.int .i64 b,.int .i64 a,.int .u8 c] 3 true) j λu w=>A.heap (.ap cc 3 24 k (.slice (some ⟨u,0,some 13⟩) 1 2)) w λx y=>A.ucV x λl z=>A.chk l (A.uc0 z (A.ari .add .u8 c 1 λB=>s [.v l,.i B] y))) (A.ari .add .i64 b 1 λC=>q [.v k,.i C] j)) [.v g,.i 0] f) (A.ari .add .i64 a 1 λD=>o [.v g,.i D] f)) [.v e,.i 0] d) (K [.v e] d)) [.v (.slice none 0 0),.i 0] h
def f31:R:=A.unI ls λd e=>A.unI e λf g=>A.k15 g λj k l a b c=>A.cd .eql l 0 (K [.i a,.i b,.i c] h) (A.call 45 [.i d,.i f,.i j,.i k] h λm n=>A.k10 m λo p=>A.call 59 [.i o,.i p] n λq r=>A.k5 q λs t u=>A.call 58 [.i s,.i t,.i u,.i a,.i b,.i c] r λv w=>A.k5 v λx y z=>K [.i x,.i y,.i z] w)
def f32:R:=A.k1 ls λf g a=>A.call 60 [.i f,.i g] h λs j=>A.k4 s λk=>A.cd .neq k 0 (K [.i k] j) (A.call 61 [.v a,.v (.func (.func 62) ⟨[]⟩ ⟨[]⟩)] j λt l=>A.k2 t λu=>A.cond u (K [.i 1] l) (A.opt (lenS a) λw=>A.loop (λx y c=>A.k4 y λd=>A.cd .lss d w (A.ix 3 a d 3 c λz=>A.k17 z λm n B=>A.call 64 [.i f,.i g,.i m,.i n] c λC o=>A.k5 C λD E F=>A.cd .neq F 0 (K [.i 7] o) (A.call 65 [.i m,.i n,.i B] o λG p=>A.k10 G λH I=>A.eqs [(.i D,.i H),(.i E,.i I)] λJ=>A.cond (!J) (K [.i 7] p) (A.ari .add .i64 d 1 λL=>x [.i L] p))) (A.loop (λM N e=>A.k4 N λb=>A.opt (lenS a) λO=>A.cd .lss b O (A.ari .sub .i64 b 1 λP=>A.ix 3 a P 3 e λQ=>A.k17 Q λS T U=>A.call 65 [.i S,.i T,.i U] e λV q=>A.k10 V λW X=>A.ix 3 a b 3 q λY=>A.k17 Y λZ a0 a1=>A.call 65 [.i Z,.i a0,.i a1] q λa2 a3=>A.k10 a2 λa4 a5=>A.call 66 [.i W,.i X,.i a4,.i a5] a3 λa6 r=>A.k4 a6 λa7=>A.cd .geq a7 0 (K [.i 6] r) (A.ari .add .i64 b 1 λa8=>M [.i a8] r)) (K [.i 0] e)) [.i 1] c)) [.i 0] l))
def f33:R:=A.k10 ls λa b=>A.call 67 [.i a,.i b] h λc d=>A.k3 c λe f=>K [.v e,.i f] d
def f34:R:=A.unV ls λd f=>A.k6 f λg=>A.opt (lenS d) λj=>A.loop (λk l c=>A.k4 l λa=>A.cd .lss a j (A.ix 2 d a 2 c λm=>A.k12 m λn o=>A.callv g [.agg ⟨[.int .i64 n,.int .i64 o]⟩] [.leaf .b] c λp e=>A.k2 p λq=>A.cond q (K [.i a] e) (A.ari .add .i64 a 1 λr=>k [.i r] e)) (K [.i (-1)] c)) [.i 0] h
def f35:R:=A.k1 ls λc d e=>A.peek (.lg cc 3 e) h λf=>A.ucI .i64 f λg j=>A.ucI .i64 j λk l=>A.ucV l λa m=>A.chk a (A.uc0 m (A.call 24 [.i g,.i k,.v a,.i c,.i d] h λn o=>A.unB n λp q=>A.k4 q λr=>K [.b (!p)] o))
def f36:R:=A.k1 ls λa b c=>A.call 68 [.i a,.i b,.v c] h λd e=>A.unI d λf g=>A.unI g λj k=>A.unV k λl m=>A.k10 m λn o=>K [.i f,.i j,.v l] e
def f37:R:=A.k14 ls λa b c d=>K [.i 1,.i a,.i b,.i c,.i d] h
def f38:R:=A.un0 ls (K [.i 0,.i 0,.i 0] h)
def f42:R:=A.k0 ls λd e j k l m=>A.call 32 [.i d,.i e,.v j] h λx n=>A.k4 x λo=>A.cd .neq o 0 (K [.v (.slice none 0 0),.v (.slice none 0 0),.i o] n) (A.call 70 [.i k,.i l,.i m] n λy p=>A.k4 y λz=>A.cd .neq z 0 (K [.v (.slice none 0 0),.v (.slice none 0 0),.i 1] p) (A.call 71 [.i d,.i e,.v j] p λB q=>A.k3 B λc r=>A.cd .neq r 0 (K [.v (.slice none 0 0),.v (.slice none 0 0),.i r] q) (A.opt (lenS c) λa=>A.opt (mkOk a a) λa8=>A.new (.cells (aM [.int .i64 0,.int .i64 0,.int .u8 0] (Int.toNat a)) 3 true) q λs C=>A.opt (lenS c) λD=>A.loop (λE F f=>A.k4 F λb=>A.cd .lss b D (A.ix 3 c b 3 f λG=>A.k11 G λH I J=>A.call 72 [.i d,.i e,.i b] f λL M=>A.k14 L λN O P a9=>A.call 73 [.i H,.i I,.i J,.i k,.i l,.i m] M λQ S=>A.k14 Q λT U V t=>A.opt (idS 3 c b) λW=>A.heap (.st W [.int .u8 T,.int .i64 U,.int .i64 V]) S λb0 g=>A.cd .neq t 0 (K [.v (.slice none 0 0),.v (.slice none 0 0),.i t] g) (A.ix 3 c b 3 g λX=>A.k11 X λY Z a0=>A.call 74 [.i Y,.i Z,.i a0,.i N,.i O,.i P] g λa1 a2=>A.k14 a1 λa3 a4 a5 u=>A.opt (idS 3 (.slice (some ⟨s,0,some 13⟩) (Int.toNat a) ((Int.toNat a)+1)) b) λa6=>A.heap (.st a6 [.int .i64 a3,.int .i64 a4,.int .u8 a5]) a2 λb1 w=>A.cd .neq u 0 (K [.v (.slice none 0 0),.v (.slice none 0 0),.i u] w) (A.ari .add .i64 b 1 λa7=>E [.i a7] w))) (K [.v c,.v (.slice (some ⟨s,0,some 13⟩) (Int.toNat a) ((Int.toNat a)+1)),.i 0] f)) [.i 0] C)))
def f43:R:=A.k5 ls λa e f=>A.join (λg j=>A.k2 g λk=>K [.b k] j) λc=>A.call 70 [.i a,.i e,.i f] h λl d=>A.k4 l λm=>A.cd .eql m 0 (A.cmp .geq a 4 λn=>c [.b n] d) (c [.b false] d)
def f44:R:=A.k13 ls λc e a b d=>A.cd .lss a 0 (K [.i (-1)] h) (A.cd .lss b 0 (K [.i (-1)] h) (A.cd .geq a c (K [.i (-1)] h) (A.cd .geq b e (K [.i (-1)] h) (A.cd .gtr d 3 (K [.i (-1)] h) (A.ari .mul .i64 4 c λf=>A.ari .mul .i64 f b λg=>A.ari .mul .i64 4 a λj=>A.ari .add .i64 g j λk=>A.conv .i64 d λl=>A.ari .add .i64 k l λm=>K [.i m] h)))))
def f45:R:=A.k14 ls λv w x d=>A.call 46 [.i v,.i w,.i x] h λy z=>A.k15 y λe f g j k l=>A.ari .add .i64 d 1 λB=>A.ari .rem .i64 B 3 λm=>A.opt (inB 3 m) λa2=>A.opt (dO [.i e,.i f,.i g,.i j,.i k,.i l] 0 [(m,2)] 2) λC=>A.k10 C λn o=>A.ari .add .i64 d 2 λD=>A.ari .rem .i64 D 3 λp=>A.opt (inB 3 p) λa3=>A.opt (dO [.i e,.i f,.i g,.i j,.i k,.i l] 0 [(p,2)] 2) λE=>A.k10 E λF G=>A.loop (λH I q=>A.k5 I λa r s=>A.cd .leq a 4 (A.call 75 [.i a] q λJ t=>A.k10 J λb c=>A.ari .mul .i64 b n λL=>A.ari .mul .i64 c o λM=>A.ari .add .i64 L M λN=>A.ari .mul .i64 b F λO=>A.ari .mul .i64 c G λP=>A.ari .add .i64 O P λQ=>A.cmp .eql N Q λS=>A.join (λT U=>A.k10 T λV W=>A.ari .add .u8 a 1 λX=>H [.i X,.i V,.i W] U) λu=>A.cond S (A.ari .mul .i64 b n λY=>A.ari .mul .i64 c o λZ=>A.ari .add .i64 Y Z λa0=>A.ari .quo .i64 a0 2 λa1=>u [.i a,.i a1] t) (u [.i r,.i s] t)) (K [.i r,.i s] q)) [.i 1,.i 0,.i 0] z
def f46:R:=A.k5 ls λo p d=>A.ari .mul .i64 2 o λa=>A.ari .mul .i64 2 p λb=>A.ari .add .i64 a 2 λe=>A.ari .add .i64 a 2 λf=>A.ari .add .i64 b 2 λg=>A.ari .add .i64 b 2 λj=>A.conv .i64 d λc=>A.conv .i64 d λq=>A.ari .add .i64 q 1 λr=>A.ari .rem .i64 r 4 λk=>A.ari .rem .i64 c 2 λs=>A.cmp .eql s 1 λt=>A.join (λu v=>A.k10 u λl m=>A.ari .add .i64 a 1 λw=>A.ari .add .i64 b 1 λx=>A.opt (inB 4 l) λF=>A.opt (dO [.i a,.i b,.i e,.i b,.i f,.i g,.i a,.i j] 0 [(l,2)] 2) λy=>A.k10 y λz B=>A.opt (inB 4 m) λG=>A.opt (dO [.i a,.i b,.i e,.i b,.i f,.i g,.i a,.i j] 0 [(m,2)] 2) λC=>A.k10 C λD E=>K [.i w,.i x,.i z,.i B,.i D,.i E] v) λn=>A.cond t (n [.i k,.i c] h) (n [.i c,.i k] h)
def f47:R:=A.k14 ls λc g d e=>A.call 75 [.i c] h λj k=>A.k10 j λa b=>A.call 76 [.i c,.i g,.i d,.i e] k λl m=>A.k4 l λn=>A.ari .mul .i64 2 n λo=>A.ari .mul .i64 a a λp=>A.ari .mul .i64 b b λq=>A.ari .add .i64 p q λr=>A.ari .quo .i64 o r λf=>A.ari .mul .i64 f a λs=>A.ari .sub .i64 d s λt=>A.ari .mul .i64 f b λu=>A.ari .sub .i64 e u λv=>K [.i t,.i v] m
def f48:R:=A.k15 ls λj k l m n o=>A.loop (λE F d=>A.k4 F λc=>A.cd .lss c 3 (A.join (λG H=>A.un0 G (A.ari .add .i64 c 1 λI=>E [.i I] H)) λp=>A.opt (inB 3 c) λb2=>A.opt (dO [.i j,.i k,.i l,.i m,.i n,.i o] 0 [(c,2)] 2) λJ=>A.k10 J λy z=>A.ari .add .i64 c 1 λL=>A.ari .rem .i64 L 3 λB=>A.opt (inB 3 B) λb3=>A.opt (dO [.i j,.i k,.i l,.i m,.i n,.i o] 0 [(B,2)] 2) λM=>A.k10 M λq r=>A.ari .add .i64 c 2 λN=>A.ari .rem .i64 N 3 λC=>A.opt (inB 3 C) λb4=>A.opt (dO [.i j,.i k,.i l,.i m,.i n,.i o] 0 [(C,2)] 2) λO=>A.k10 O λs t=>A.ari .rem .i64 y 2 λP=>A.cd .eql P 0 (p [] d) (A.ari .rem .i64 z 2 λQ=>A.cd .eql Q 0 (p [] d) (A.loop (λe S D=>A.k4 S λa=>A.cd .lss a 4 (A.ari .sub .i64 y 1 λT=>A.ari .quo .i64 T 2 λf=>A.ari .sub .i64 z 1 λU=>A.ari .quo .i64 U 2 λg=>A.call 46 [.i f,.i g,.i a] D λV b=>A.k15 V λb5 b6 u v w x=>A.eqs [(.i u,.i q),(.i v,.i r)] λW=>A.cond W (A.eqs [(.i w,.i s),(.i x,.i t)] λX=>A.cond X (K [.i f,.i g,.i a] b) (A.eqs [(.i u,.i s),(.i v,.i t)] λY=>A.cond Y (A.eqs [(.i w,.i q),(.i x,.i r)] λZ=>A.join (λa0 a1=>A.un0 a0 (A.ari .add .u8 a 1 λa2=>e [.i a2] a1)) λa3=>A.cond Z (K [.i f,.i g,.i a] b) (a3 [] b)) (A.ari .add .u8 a 1 λa4=>e [.i a4] b))) (A.eqs [(.i u,.i s),(.i v,.i t)] λa5=>A.cond a5 (A.eqs [(.i w,.i q),(.i x,.i r)] λa6=>A.join (λa7 a8=>A.un0 a7 (A.ari .add .u8 a 1 λa9=>e [.i a9] a8)) λb0=>A.cond a6 (K [.i f,.i g,.i a] b) (b0 [] b)) (A.ari .add .u8 a 1 λb1=>e [.i b1] b))) (p [] D)) [.i 0] d))) (K [.i 0,.i 0,.i 4] d)) [.i 0] h
def f49:R:=A.k6 ls λa=>A.call 77 [.v a] h λf b=>A.k2 f λg=>A.cond g (K [.v (.slice none 0 0),.i 1] b) (A.call 78 [.v a] b λj k=>A.k6 j λc=>A.call 79 [.v c,.v (.func (.func 80) ⟨[]⟩ ⟨[]⟩)] k λl m=>A.un0 l (A.call 81 [.v c] m λn d=>A.k6 n λe=>A.opt (lenS e) λo=>A.cd .gtr o 1024 (K [.v (.slice none 0 0),.i 3] d) (A.call 82 [.v e] d λp q=>A.k6 p λr=>K [.v r,.i 0] q)))
def f50:R:=A.unI ls λt u=>A.unI u λw x=>A.unV x λy z=>A.k10 z λe f=>A.new (.cells [.int .i64 t,.int .i64 w,y] 3 true) h λa g=>A.peek (.lg cc 3 (.pointer (some ⟨a,0,none⟩))) g λB=>A.ucI .i64 B λC D=>A.ucI .i64 D λE F=>A.ucV F λj G=>A.chk j (A.uc0 G (A.call 32 [.i C,.i E,.v j] g λH b=>A.k4 H λk=>A.cd .neq k 0 (K [.v (.slice none 0 0),.i k] b) (A.opt (fdP 0 (.pointer (some ⟨a,0,none⟩))) λl=>A.chk l (A.peek (.lg cc 2 l) b λI=>A.k12 I λJ L=>A.call 83 [.i J,.i L,.i e,.i f] b λM m=>A.k4 M λn=>A.cd .neq n 0 (K [.v (.slice none 0 0),.i n] m) (A.new (.cells [.slice none 0 0] 1 true) m λc o=>A.opt (fdP 0 (.pointer (some ⟨a,0,none⟩))) λp=>A.chk p (A.peek (.lg cc 2 p) o λN=>A.k12 N λO P=>A.call 84 [.i O,.i P,.i e,.i f] o λQ S=>A.k6 Q λT=>A.rfun 800 T [.pointer (some ⟨a,0,none⟩),.pointer (some ⟨c,0,none⟩)] S λU d=>A.pend U (A.peek (.lg cc 1 (.pointer (some ⟨c,0,none⟩))) d λV=>A.ucV V λq W=>A.chk q (A.uc0 W (A.call 86 [.v q,.v (.func (.func 87) ⟨[]⟩ ⟨[]⟩)] d λX r=>A.un0 X (A.peek (.lg cc 1 (.pointer (some ⟨c,0,none⟩))) r λY=>A.ucV Y λs Z=>A.chk s (A.uc0 Z (A.call 88 [.v s] r λa0 a1=>A.k6 a0 λa2=>K [.v a2,.i 0] a1)))))) (K [.v (.slice none 0 0),.i 0] d) []))))))
def f51:R:=A.unV ls λa g=>A.k10 g λj k=>A.call 89 [.i j,.i k] h λl b=>A.k14 l λm n o z=>A.opt (nilP a) λc=>A.chk c (A.opt (fdP 0 c) λd=>A.chk d (A.peek (.lg cc 3 d) b λp=>A.k11 p λq r s=>A.call 73 [.i q,.i r,.i s,.i m,.i n,.i o] b λt u=>A.k14 t λv w x B=>A.opt (nilP a) λe=>A.chk e (A.opt (fdP 0 e) λf=>A.chk f (A.heap (.st f [.int .u8 v,.int .i64 w,.int .i64 x]) u λC y=>K [] y))))
def f52:R:=A.k5 ls λa b c=>A.cd .lss a 1 (K [.i 0,.i 0,.i 1] h) (A.cd .gtr a 4 (K [.i 0,.i 0,.i 1] h) (A.call 90 [.i b,.i c] h λk d=>A.k4 k λl=>A.cd .neq l 0 (K [.i 0,.i 0,.i 1] d) (A.call 91 [.i a,.i b,.i c] d λm e=>A.k4 m λf=>A.ari .quo .i64 f 2 λg=>A.ari .rem .i64 f 2 λn=>A.cd .neq n 0 (K [.i 0,.i 0,.i 7] e) (A.call 92 [.i a,.i g] e λo j=>A.k4 o λp=>A.cd .neq p 0 (K [.i 0,.i 0,.i 3] j) (K [.i a,.i g,.i 0] j)))))
def f53:R:=A.k5 ls λc a b=>A.cd .gtr c 7 (K [.i 0] h) (A.cd .lss a (-16384) (K [.i 0] h) (A.cd .gtr a 16384 (K [.i 0] h) (A.cd .lss b (-16384) (K [.i 0] h) (A.cd .gtr b 16384 (K [.i 0] h) (A.ari .sub .i64 a b λd=>A.ari .rem .i64 d 2 λe=>A.cd .neq e 0 (K [.i 0] h) (K [.i 1] h))))))
def f54:R:=A.k5 ls λa b c=>A.cd .lss a (-4096) (K [.i 0] h) (A.cd .gtr a 4096 (K [.i 0] h) (A.cd .lss b (-4096) (K [.i 0] h) (A.cd .gtr b 4096 (K [.i 0] h) (A.cd .gtr c 3 (K [.i 0] h) (K [.i 1] h)))))
def f55:R:=A.k15 ls λk l m n o p=>A.call 46 [.i n,.i o,.i p] h λq r=>A.k15 q λs t u v w x=>A.loop (λy z j=>A.unI z λa B=>A.k15 B λb c d e f g=>A.cd .lss a 3 (A.opt (inB 3 a) λY=>A.opt (dO [.i b,.i c,.i d,.i e,.i f,.i g] 0 [(a,2)] 2) λC=>A.k10 C λD E=>A.call 93 [.i k,.i l,.i m,.i D,.i E] j λF G=>A.k10 F λH I=>A.opt (inB 3 a) λZ=>A.opt (putL [.i b,.i c,.i d,.i e,.i f,.i g] 0 [(a,2)] [.i H,.i I]) λJ=>A.k15 J λL M N O P Q=>A.ari .add .i64 a 1 λS=>y [.i S,.i L,.i M,.i N,.i O,.i P,.i Q] G) (A.call 48 [.i b,.i c,.i d,.i e,.i f,.i g] j λT U=>A.k5 T λV W X=>K [.i V,.i W,.i X] U)) [.i 0,.i s,.i t,.i u,.i v,.i w,.i x] r
def f56:R:=A.unV ls λd f=>A.k6 f λe=>A.opt (lenS d) λg=>A.opt (lenS e) λj=>A.cd .neq g j (K [.b false] h) (A.opt (lenS d) λk=>A.loop (λl m a=>A.k4 m λc=>A.cd .lss c k (A.ix 3 d c 3 a λn=>A.k9 n λo p q=>A.ix 3 e c 3 a λr=>A.k9 r λs t u=>A.eqs [(.i o,.i s),(.i p,.i t),(.i q,.i u)] λv=>A.cond (!v) (K [.b false] a) (A.ari .add .i64 c 1 λw=>l [.i w] a)) (K [.b true] a)) [.i 0] h)
def f57:R:=A.unV ls λa u=>A.k5 u λe f g=>A.call 94 [.v a,.i e,.i f,.i g] h λw k=>A.k4 w λx=>A.cd .eql x 1 (K [.v a] k) (A.loop (λl y b=>A.unV y λd z=>A.k10 z λj c=>A.opt (lenS a) λB=>A.cd .lss c B (A.cd .eql j 0 (A.ix 3 a c 3 b λC=>A.k9 C λD E F=>A.call 95 [.i e,.i f,.i g,.i D,.i E,.i F] b λG m=>A.k4 G λH=>A.cmp .eql H 1 λI=>A.join (λJ n=>A.k3 J λL M=>A.ix 3 a c 3 n λN=>A.k9 N λO P Q=>A.new (.cells [.int .i64 O,.int .i64 P,.int .u8 Q] 3 true) n λS T=>A.heap (.ap cc 3 24 L (.slice (some ⟨S,0,some 13⟩) 1 2)) T λU V=>A.ucV U λo W=>A.chk o (A.uc0 W (A.ari .add .i64 c 1 λX=>l [.v o,.i M,.i X] V))) λp=>A.cond I (A.new (.cells [.int .i64 e,.int .i64 f,.int .u8 g] 3 true) m λY Z=>A.heap (.ap cc 3 24 d (.slice (some ⟨Y,0,some 13⟩) 1 2)) Z λa0 a1=>A.ucV a0 λq a2=>A.chk q (A.uc0 a2 (p [.v q,.i 1] a1))) (p [.v d,.i j] m)) (A.ix 3 a c 3 b λa3=>A.k9 a3 λa4 a5 a6=>A.new (.cells [.int .i64 a4,.int .i64 a5,.int .u8 a6] 3 true) b λa7 a8=>A.heap (.ap cc 3 24 d (.slice (some ⟨a7,0,some 13⟩) 1 2)) a8 λa9 b0=>A.ucV a9 λr b1=>A.chk r (A.uc0 b1 (A.ari .add .i64 c 1 λb2=>l [.v r,.i j,.i b2] b0)))) (A.cmp .eql j 0 λb3=>A.join (λb4 b5=>A.k6 b4 λb6=>K [.v b6] b5) λs=>A.cond b3 (A.new (.cells [.int .i64 e,.int .i64 f,.int .u8 g] 3 true) b λb7 b8=>A.heap (.ap cc 3 24 d (.slice (some ⟨b7,0,some 13⟩) 1 2)) b8 λb9 c0=>A.ucV b9 λt c1=>A.chk t (A.uc0 c1 (s [.v t] c0))) (s [.v d] b))) [.v (.slice none 0 0),.i 0,.i 0] k)
def f58:R:=A.k15 ls λa b c d e f=>A.call 93 [.i a,.i b,.i c,.i 0,.i 0] h λg j=>A.k10 g λk l=>A.call 93 [.i d,.i e,.i f,.i k,.i l] j λm n=>A.k10 m λo p=>A.call 93 [.i a,.i b,.i c,.i 2,.i 0] n λq r=>A.k10 q λs t=>A.call 93 [.i d,.i e,.i f,.i s,.i t] r λu v=>A.k10 u λw x=>A.call 93 [.i a,.i b,.i c,.i 0,.i 2] v λy z=>A.k10 y λB C=>A.call 93 [.i d,.i e,.i f,.i B,.i C] z λD E=>A.k10 D λF G=>A.call 96 [.i o,.i p,.i w,.i x,.i F,.i G] E λH I=>A.k5 H λJ L M=>K [.i J,.i L,.i M] I
def f59:R:=A.k10 ls λa b=>A.call 47 [.i a,.i b,.i 0,.i 0] h λc d=>A.k10 c λe f=>A.call 47 [.i a,.i b,.i 2,.i 0] d λg j=>A.k10 g λk l=>A.call 47 [.i a,.i b,.i 0,.i 2] j λm n=>A.k10 m λo p=>A.call 96 [.i e,.i f,.i k,.i l,.i o,.i p] n λq r=>A.k5 q λs t u=>K [.i s,.i t,.i u] r
def f60:R:=A.k10 ls λa b=>A.cd .lss a 1 (K [.i 1] h) (A.cd .lss b 1 (K [.i 1] h) (A.cd .gtr a 256 (K [.i 1] h) (A.cd .gtr b 256 (K [.i 1] h) (A.ari .mul .i64 a b λc=>A.cd .gtr c 256 (K [.i 1] h) (K [.i 0] h)))))
def f61:R:=A.unV ls λa c=>A.k6 c λd=>A.call 97 [.v a,.v d] h λe f=>A.k4 e λg=>A.cmp .geq g 0 λi=>K [.b i] f
def f62:R:=A.k5 ls λf g a=>A.call 63 [.i a] h λc d=>A.k2 c λe=>K [.b (!e)] d
def f63:R:=A.k4 ls λa=>A.join (λd e=>A.k2 d λf=>K [.b f] e) λc=>A.cd .geq a 1 (A.cmp .leq a 3 λg=>c [.b g] h) (c [.b false] h)
def f64:R:=A.k14 ls λf g a b=>A.call 98 [.i f,.i g,.i a,.i b] h λj c=>A.k10 j λd e=>A.cd .neq e 0 (K [.i 0,.i 0,.i e] c) (A.cmp .lss d a λk=>A.sel k d a λl=>K [.i l,.i b,.i 0] c)
def f65:R:=A.k5 ls λa b c=>K [.i a,.i b] h
def f66:R:=A.k14 ls λa c b d=>A.cd .neq a b (A.ari .sub .i64 a b λe=>K [.i e] h) (A.conv .i64 c λf=>A.conv .i64 d λg=>A.ari .sub .i64 f g λj=>K [.i j] h)
def f67:R:=A.k10 ls λe f=>A.call 60 [.i e,.i f] h λo g=>A.k4 o λj=>A.cd .neq j 0 (K [.v (.slice none 0 0),.i j] g) (A.loop (λp q k=>A.k3 q λl a=>A.ari .mul .i64 2 f λr=>A.cd .lss a r (A.loop (λs t c=>A.k3 t λd b=>A.ari .mul .i64 2 e λu=>A.cd .lss b u (A.ari .rem .i64 b 2 λw=>A.ari .rem .i64 a 2 λx=>A.cmp .eql w x λy=>A.join (λz B=>A.k6 z λC=>A.ari .add .i64 b 1 λD=>s [.v C,.i D] B) λm=>A.cond y (A.new (.cells [.int .i64 b,.int .i64 a] 2 true) c λE F=>A.heap (.ap cc 2 16 d (.slice (some ⟨E,0,some 12⟩) 1 2)) F λG H=>A.ucV G λn I=>A.chk n (A.uc0 I (m [.v n] H))) (m [.v d] c)) (A.ari .add .i64 a 1 λJ=>p [.v d,.i J] c)) [.v l,.i 1] k) (A.call 99 [.v l] k λL M=>A.k6 L λN=>K [.v N,.i 0] M)) [.v (.slice none 0 0),.i 1] g)
def f68:R:=A.k1 ls λc d m=>A.call 60 [.i c,.i d] h λx n=>A.k4 x λo=>A.cd .neq o 0 (A.opt (chk2 (.slice none 0 0)) λa9=>K [.i 0,.i 0,.v (.slice none 0 0),.i 0,.i o] n) (A.call 100 [.i c,.i d] n λy z=>A.k6 y λB=>A.new (.map [] 0) z λp C=>A.opt (lenS m) λD=>A.loop (λE F e=>A.k3 F λf a=>A.cd .lss a D (A.ix 5 m a 5 e λG=>A.ucI .u8 G λg H=>A.ucI .u8 H λI J=>A.ucI .i64 J λL M=>A.k12 M λN O=>A.call 101 [.v B,.i g,.i I,.i L,.i N,.i O] e λP q=>A.k3 P λr s=>A.cd .neq s 0 (A.opt (chk2 (.slice none 0 0)) λb0=>K [.i 0,.i 0,.v (.slice none 0 0),.i a,.i s] q) (A.opt (lenS r) λQ=>A.loop (λS T b=>A.k3 T λt j=>A.cd .lss j Q (A.ix 2 r j 2 b λU=>A.k16 U λk l=>A.peek (.fn (luG cc 62 false (.int .u8 0) (.map (some p)) (.agg ⟨[.int .i64 k,.int .u8 l]⟩) false)) b λV=>A.k8 V λW=>A.cd .neq W 0 (A.opt (chk2 (.slice none 0 0)) λb1=>K [.i 0,.i 0,.v (.slice none 0 0),.i a,.i 8] b) (A.heap (.fn (muG cc 62 (.map (some p)) (.agg ⟨[.int .i64 k,.int .u8 l]⟩) (.int .u8 g))) b λb2 X=>A.new (.cells [.int .i64 k,.int .u8 l,.int .u8 g] 3 true) X λY Z=>A.heap (.ap cc 3 16 t (.slice (some ⟨Y,0,some 13⟩) 1 2)) Z λa0 a1=>A.ucV a0 λu a2=>A.chk u (A.uc0 a2 (A.ari .add .i64 j 1 λa3=>S [.v u,.i a3] a1)))) (A.ari .add .i64 a 1 λa4=>E [.v t,.i a4] b)) [.v f,.i 0] q)) (A.call 102 [.v f,.v (.func (.func 103) ⟨[]⟩ ⟨[]⟩)] e λa5 a6=>A.un0 a5 (A.call 105 [.v f] a6 λa7 a8=>A.k6 a7 λw=>A.opt (chk2 w) λb3=>K [.i c,.i d,.v w,.i 0,.i 0] a8))) [.v (.slice none 0 0),.i 0] C)
def f70:R:=A.k5 ls λe b c=>A.conv .i64 e λf=>A.cd .geq f 8 (K [.i 1] h) (A.call 106 [.i b] h λg d=>A.k2 g λj=>A.cond j (K [.i 1] d) (A.call 106 [.i c] d λk a=>A.k2 k λl=>A.cond l (K [.i 1] a) (A.ari .add .i64 b c λm=>A.ari .rem .i64 m 2 λn=>A.cd .neq n 0 (K [.i 1] a) (K [.i 0] a))))
def f71:R:=A.k1 ls λM N O=>A.new (.cells [.int .i64 M,.int .i64 N,O] 3 true) h λc q=>A.peek (.lg cc 3 (.pointer (some ⟨c,0,none⟩))) q λP=>A.ucI .i64 P λQ S=>A.ucI .i64 S λT U=>A.ucV U λr V=>A.chk r (A.uc0 V (A.call 107 [.i Q,.i T,.v r] q λW X=>A.k6 W λY=>A.new (.cells [.map none] 1 true) X λm Z=>A.heap (.st (.pointer (some ⟨m,0,none⟩)) [Y]) Z λf8 s=>A.opt (fdP 0 (.pointer (some ⟨c,0,none⟩))) λt=>A.chk t (A.peek (.lg cc 2 t) s λa0=>A.k12 a0 λa1 a2=>A.call 108 [.i a1,.i a2] s λa3 a4=>A.k4 a3 λd=>A.opt (mkOk d d) λf9=>A.new (.cells (aM [.int .u8 0,.int .i64 0,.int .i64 0] (Int.toNat d)) 3 true) a4 λa5 a6=>A.new (.cells [.slice none 0 0] 1 true) a6 λb a7=>A.heap (.st (.pointer (some ⟨b,0,none⟩)) [.slice (some ⟨a5,0,some 13⟩) (Int.toNat d) ((Int.toNat d)+1)]) a7 λg0 u=>A.peek (.lg cc 1 (.pointer (some ⟨b,0,none⟩))) u λa8=>A.ucV a8 λw a9=>A.chk w (A.uc0 a9 (A.opt (lenS w) λa=>A.opt (mkOk a a) λg1=>A.new (.cells (aM [.bool false] (Int.toNat a)) 1 true) u λn b0=>A.chk (.func (.func 109) ⟨[]⟩ ⟨[.pointer (some ⟨c,0,none⟩),.pointer (some ⟨m,0,none⟩),.pointer (some ⟨b,0,none⟩)]⟩) (A.opt (idS 1 (.slice (some ⟨n,0,some 11⟩) (Int.toNat a) ((Int.toNat a)+1)) 0) λb1=>A.heap (.st b1 [.bool true]) b0 λg2 b2=>A.new (.cells [.int .i64 0] 1 true) b2 λb3 b4=>A.loop (λb5 b6 f=>A.k6 b6 λo=>A.opt (lenS o) λb7=>A.cd .gtr b7 0 (A.opt (idS 1 o 0) λb8=>A.peek (.lg cc 1 b8) f λb9=>A.k7 b9 λx=>A.opt (slS 1 o (some 1) none none) λy=>A.chk y (A.loop (λc0 c1 p=>A.k3 c1 λg j=>A.cd .lss j 3 (A.join (λc2 c3=>A.k6 c2 λc4=>A.ari .add .u8 j 1 λc5=>c0 [.v c4,.i c5] c3) λz=>A.opt (fdP 0 (.pointer (some ⟨c,0,none⟩))) λB=>A.chk B (A.peek (.lg cc 2 B) p λc6=>A.k12 c6 λc7 c8=>A.call 98 [.i c7,.i c8,.i x,.i j] p λc9 C=>A.k10 c9 λe d0=>A.cd .neq d0 0 (z [.v g] C) (A.callv (.func (.func 109) ⟨[]⟩ ⟨[.pointer (some ⟨c,0,none⟩),.pointer (some ⟨m,0,none⟩),.pointer (some ⟨b,0,none⟩)]⟩) [.int .i64 x,.int .u8 j] [.agg [.i .u8,.i .i64,.i .i64]] C λd1 k=>A.k5 d1 λD E F=>A.opt (idS 1 (.slice (some ⟨n,0,some 11⟩) (Int.toNat a) ((Int.toNat a)+1)) e) λd2=>A.peek (.lg cc 1 d2) k λd3=>A.ucB d3 λd4 d5=>A.uc0 d5 (A.join (λd6 l=>A.k6 d6 λd7=>A.peek (.lg cc 1 (.pointer (some ⟨b,0,none⟩))) l λd8=>A.ucV d8 λG d9=>A.chk G (A.uc0 d9 (A.ix 3 G e 3 l λe0=>A.k11 e0 λe1 e2 e3=>A.eqs [(.i e1,.i D),(.i e2,.i E),(.i e3,.i F)] λe4=>A.cond (!e4) (K [.v (.slice none 0 0),.i 11] l) (z [.v d7] l)))) λH=>A.cond (!d4) (A.peek (.lg cc 1 (.pointer (some ⟨b,0,none⟩))) k λe5=>A.ucV e5 λI e6=>A.chk I (A.uc0 e6 (A.opt (idS 3 I e) λe7=>A.heap (.st e7 [.int .u8 D,.int .i64 E,.int .i64 F]) k λg3 e8=>A.opt (idS 1 (.slice (some ⟨n,0,some 11⟩) (Int.toNat a) ((Int.toNat a)+1)) e) λe9=>A.heap (.st e9 [.bool true]) e8 λg4 f0=>A.new (.cells [.int .i64 e] 1 true) f0 λf1 f2=>A.heap (.ap cc 1 8 g (.slice (some ⟨f1,0,some 11⟩) 1 2)) f2 λf3 f4=>A.ucV f3 λJ f5=>A.chk J (A.uc0 f5 (H [.v J] f4))))) (H [.v g] k))))) (b5 [.v g] p)) [.v y,.i 0] f)) (A.peek (.lg cc 1 (.pointer (some ⟨b,0,none⟩))) f λf6=>A.ucV f6 λL f7=>A.chk L (A.uc0 f7 (K [.v L,.i 0] f)))) [.v (.slice (some ⟨b3,0,some 11⟩) 1 2)] b4))))))
def f72:R:=A.k5 ls λa b c=>A.call 60 [.i a,.i b] h λg d=>A.k4 g λe=>A.cd .neq e 0 (K [.i 0,.i 0,.i 0,.i e] d) (A.call 111 [.i a,.i b,.i c] d λj f=>A.k2 j λk=>A.cond (!k) (K [.i 0,.i 0,.i 0,.i 7] f) (A.call 112 [.i a,.i b,.i c] f λl m=>A.k5 l λn o p=>K [.i n,.i o,.i p,.i 0] m))
def f73:R:=A.k15 ls λb c d a e f=>A.call 70 [.i b,.i c,.i d] h λk g=>A.k4 k λl=>A.cd .neq l 0 (K [.i 0,.i 0,.i 0,.i 1] g) (A.call 70 [.i a,.i e,.i f] g λm j=>A.k4 m λn=>A.cd .neq n 0 (K [.i 0,.i 0,.i 0,.i 1] j) (A.opt (inB 8 a) λa7=>A.opt (lR gl0 0 [(a,4)] 4) λo=>A.ucI .i64 o λp q=>A.ucI .i64 q λr s=>A.k12 s λt u=>A.call 113 [.i p,.i r,.i t,.i u,.i c,.i d] j λv w=>A.k10 v λx y=>A.opt (inB 8 b) λa8=>A.opt (lR gl0 0 [(b,4)] 4) λz=>A.ucI .i64 z λB C=>A.ucI .i64 C λD E=>A.k12 E λF G=>A.opt (inB 8 a) λa9=>A.opt (lR gl0 0 [(a,4)] 4) λH=>A.ucI .i64 H λI J=>A.ucI .i64 J λL M=>A.k12 M λN O=>A.call 116 [.i B,.i D,.i F,.i G,.i I,.i L,.i N,.i O] w λP Q=>A.k14 P λS T U V=>A.call 115 [.i S,.i T,.i U,.i V] Q λW X=>A.k4 W λY=>A.ari .add .i64 x e λZ=>A.ari .add .i64 y f λa0=>A.call 114 [.i Y,.i Z,.i a0] X λa1 a2=>A.k14 a1 λa3 a4 a5 a6=>K [.i a3,.i a4,.i a5,.i a6] a2))
def f74:R:=A.k15 ls λa b c d e f=>A.call 70 [.i a,.i b,.i c] h λo g=>A.k4 o λp=>A.cd .neq p 0 (K [.i 0,.i 0,.i 0,.i 1] g) (A.call 117 [.i d,.i e,.i f] g λq j=>A.k4 q λr=>A.cd .neq r 0 (K [.i 0,.i 0,.i 0,.i 1] j) (A.call 118 [.i a,.i b,.i c,.i d,.i e,.i f] j λs t=>A.k5 s λk l m=>A.call 117 [.i k,.i l,.i m] t λu n=>A.k4 u λv=>A.cd .neq v 0 (K [.i 0,.i 0,.i 0,.i 3] n) (K [.i k,.i l,.i m,.i 0] n)))
def f75:R:=A.k4 ls λa=>A.cd .eql a 1 (K [.i 1,.i 0] h) (A.cd .eql a 2 (K [.i 0,.i 1] h) (A.cd .eql a 3 (K [.i 1,.i 1] h) (K [.i (-1),.i 1] h)))
def f76:R:=A.k14 ls λa b c d=>A.call 75 [.i a] h λe f=>A.k10 e λg j=>A.ari .mul .i64 g c λk=>A.ari .mul .i64 j d λl=>A.ari .add .i64 k l λm=>A.ari .mul .i64 2 b λn=>A.ari .sub .i64 m n λo=>K [.i o] f
def f77:R:=A.k6 ls λa=>A.call 119 [.v a,.v (.func (.func 120) ⟨[]⟩ ⟨[]⟩)] h λc d=>A.k2 c λe=>K [.b e] d
def f78:R:=A.k6 ls λa=>A.opt (tT 1 a (.slice none 0 0)) λc=>A.cond c (K [.v (.slice none 0 0)] h) (A.new (.cells [] 3 true) h λd e=>A.heap (.ap cc 3 24 (.slice (some ⟨d,0,some 13⟩) 0 1) a) e λf g=>A.ucV f λb i=>A.chk b (A.uc0 i (K [.v b] g)))
def f80:R:=A.k15 ls λa b c d e f=>A.conv .i64 c λg=>A.conv .i64 f λj=>A.new (.cells [.int .i64 b,.int .i64 e,.int .i64 a,.int .i64 d,.int .i64 g,.int .i64 j] 2 true) h λk l=>A.call 123 [.v (.slice (some ⟨k,0,some 12⟩) 3 4)] l λm n=>A.k4 m λo=>K [.i o] n
def f81:R:=A.k6 ls λa=>A.opt (lenS a) λm=>A.cd .lss m 2 (K [.v a] h) (A.loop (λn o d=>A.k4 o λb=>A.opt (lenS a) λp=>A.cd .lss b p (A.ix 3 a b 3 d λq=>A.k9 q λr s t=>A.ari .sub .i64 b 1 λu=>A.ix 3 a u 3 d λw=>A.k9 w λx y z=>A.eqs [(.i r,.i x),(.i s,.i y),(.i t,.i z)] λB=>A.cond B (A.opt (slS 3 a (some b) none none) λe=>A.chk e (A.loop (λC D c=>A.k10 D λf g=>A.opt (lenS e) λE=>A.cd .lss g E (A.ix 3 e g 3 c λF=>A.k9 F λG H I=>A.ari .sub .i64 g 1 λJ=>A.ix 3 e J 3 c λL=>A.k9 L λM N O=>A.eqs [(.i G,.i M),(.i H,.i N),(.i I,.i O)] λP=>A.join (λQ S=>A.k4 Q λT=>A.ari .add .i64 g 1 λU=>C [.i T,.i U] S) λj=>A.cond (!P) (A.ix 3 e g 3 c λV=>A.k9 V λW X Y=>A.opt (idS 3 a f) λZ=>A.heap (.st Z [.int .i64 W,.int .i64 X,.int .u8 Y]) c λa4 a0=>A.ari .add .i64 f 1 λa1=>j [.i a1] a0) (j [.i f] c)) (A.opt (slS 3 a (some f) none none) λk=>A.chk k (A.heap (.fn (clG 3 [.int .i64 0,.int .i64 0,.int .u8 0] k)) c λa5 a2=>A.opt (slS 3 a none (some f) none) λl=>A.chk l (K [.v l] a2)))) [.i b,.i 1] d)) (A.ari .add .i64 b 1 λa3=>n [.i a3] d)) (K [.v a] d)) [.i 1] h)
def f82:R:=A.k6 ls λa=>A.opt (lenS a) λc=>A.opt (lenS a) λd=>A.opt (slS 3 a none (some c) (some d)) λb=>A.chk b (K [.v b] h)
def f83:R:=A.k14 ls λd e b c=>A.call 60 [.i d,.i e] h λg a=>A.k4 g λf=>A.cd .neq f 0 (K [.i f] a) (A.cd .leq b 0 (K [.i 7] a) (A.cd .leq c 0 (K [.i 7] a) (A.ari .mul .i64 2 d λj=>A.cd .geq b j (K [.i 7] a) (A.ari .mul .i64 2 e λk=>A.cd .geq c k (K [.i 7] a) (A.ari .rem .i64 b 2 λl=>A.ari .rem .i64 c 2 λm=>A.cd .neq l m (K [.i 7] a) (K [.i 0] a))))))
def f84:R:=A.k14 ls λc d e f=>A.new (.cells [.int .i64 c,.int .i64 d] 2 true) h λa g=>A.new (.cells [.int .i64 e,.int .i64 f] 2 true) g λb i=>A.chk (.func (.func 124) ⟨[]⟩ ⟨[.pointer (some ⟨b,0,none⟩),.pointer (some ⟨a,0,none⟩)]⟩) (K [.v (.func (.func 124) ⟨[]⟩ ⟨[.pointer (some ⟨b,0,none⟩),.pointer (some ⟨a,0,none⟩)]⟩)] i)
def f85:R:=A.unI ls λd e=>A.unI e λf g=>A.unV g λc j=>A.k10 j λk l=>A.call 130 [.i d,.i f,.v c,.i k,.i l] h λm a=>A.unI m λw n=>A.unI n λx o=>A.unI o λp q=>A.unB q λr s=>A.k4 s λb=>A.cd .neq b 0 (K [.i 0,.i b] a) (A.cond (!r) (K [.i 0,.i b] a) (A.fx 3 c p 2 1 a λt=>A.k8 t λu=>K [.i u,.i 0] a))
def f86:R:=A.unV ls λa c=>A.k6 c λd=>A.opt (lenS a) λb=>A.conv .u64 b λe=>A.call 122 [.i e] h λf g=>A.k4 f λj=>A.call 131 [.v a,.i 0,.i b,.i j,.v d] g λk l=>A.un0 k (K [] l)
def f87:R:=A.k14 ls λa d b e=>A.ari .sub .i64 a b λc=>K [.i c] h
def f88:R:=A.k6 ls λa=>A.opt (lenS a) λc=>A.opt (lenS a) λd=>A.opt (slS 2 a none (some c) (some d)) λb=>A.chk b (K [.v b] h)
def f89:R:=A.k10 ls λc a=>A.call 92 [.i c,.i a] h λd b=>A.k4 d λe=>A.cd .neq e 0 (K [.i 0,.i 0,.i 0,.i 1] b) (A.cd .eql c 1 (A.ari .mul .i64 2 a λf=>K [.i 4,.i f,.i 0,.i 0] b) (A.cd .eql c 2 (A.ari .mul .i64 2 a λg=>K [.i 6,.i 0,.i g,.i 0] b) (A.cd .eql c 3 (K [.i 5,.i a,.i a,.i 0] b) (A.ari .sub .i64 0 a λj=>K [.i 7,.i j,.i a,.i 0] b))))
def f90:R:=A.k10 ls λa b=>A.cd .lss a (-65536) (K [.i 1] h) (A.cd .gtr a 65536 (K [.i 1] h) (A.cd .lss b (-65536) (K [.i 1] h) (A.cd .gtr b 65536 (K [.i 1] h) (K [.i 0] h))))
def f91:R:=A.k5 ls λa b c=>A.cd .eql a 1 (K [.i b] h) (A.cd .eql a 2 (K [.i c] h) (A.cd .eql a 3 (A.ari .add .i64 b c λd=>K [.i d] h) (A.ari .sub .i64 c b λe=>K [.i e] h)))
def f92:R:=A.k10 ls λa b=>A.cd .lss a 1 (K [.i 1] h) (A.cd .gtr a 4 (K [.i 1] h) (A.cd .lss b (-4096) (K [.i 1] h) (A.cd .gtr b 4096 (K [.i 1] h) (K [.i 0] h))))
def f93:R:=A.k13 ls λc s t a b=>A.cmp .eql c 1 λu=>A.join (λv d=>A.k10 v λw x=>A.cmp .eql c 2 λy=>A.join (λz e=>A.k10 z λB C=>A.cmp .eql c 3 λD=>A.join (λE f=>A.k10 E λF G=>A.cmp .eql c 4 λH=>A.join (λI g=>A.k10 I λJ L=>A.cmp .eql c 5 λM=>A.join (λN j=>A.k10 N λO P=>A.cmp .eql c 6 λQ=>A.join (λS k=>A.k10 S λT U=>A.cmp .eql c 7 λV=>A.join (λW X=>A.k10 W λY Z=>A.ari .mul .i64 2 s λa0=>A.ari .add .i64 Y a0 λa1=>A.ari .mul .i64 2 t λa2=>A.ari .add .i64 Z a2 λa3=>K [.i a1,.i a3] X) λl=>A.cond V (l [.i b,.i a] k) (l [.i T,.i U] k)) λm=>A.cond Q (A.ari .sub .i64 0 b λa4=>m [.i a,.i a4] j) (m [.i O,.i P] j)) λn=>A.cond M (A.ari .sub .i64 0 b λa5=>A.ari .sub .i64 0 a λa6=>n [.i a5,.i a6] g) (n [.i J,.i L] g)) λo=>A.cond H (A.ari .sub .i64 0 a λa7=>o [.i a7,.i b] f) (o [.i F,.i G] f)) λp=>A.cond D (A.ari .sub .i64 0 a λa8=>p [.i b,.i a8] e) (p [.i B,.i C] e)) λq=>A.cond y (A.ari .sub .i64 0 a λa9=>A.ari .sub .i64 0 b λb0=>q [.i a9,.i b0] d) (q [.i w,.i x] d)) λr=>A.cond u (A.ari .sub .i64 0 b λb1=>r [.i b1,.i a] h) (r [.i a,.i b] h)
def f94:R:=A.unV ls λc d=>A.k5 d λe f g=>A.loop (λj k a=>A.k4 k λb=>A.opt (lenS c) λl=>A.cd .lss b l (A.ix 3 c b 3 a λm=>A.k9 m λn o p=>A.eqs [(.i n,.i e),(.i o,.i f),(.i p,.i g)] λq=>A.cond q (K [.i 1] a) (A.ari .add .i64 b 1 λr=>j [.i r] a)) (K [.i 0] a)) [.i 0] h
def f95:R:=A.k15 ls λa b e c d f=>A.cd .lss b d (K [.i 1] h) (A.cd .eql b d (A.cd .lss a c (K [.i 1] h) (A.cd .eql a c (A.cmp .lss e f λg=>A.join (λj k=>A.un0 j (K [.i 0] k)) λl=>A.cond g (K [.i 1] h) (l [] h)) (K [.i 0] h))) (K [.i 0] h))
def f96:R:=A.k15 ls λe f m n o p=>A.loop (λd q g=>A.k4 q λa=>A.cd .lss a 8 (A.ari .quo .i64 e 2 λb=>A.ari .quo .i64 f 2 λc=>A.call 93 [.i a,.i b,.i c,.i 2,.i 0] g λr j=>A.k10 r λs t=>A.eqs [(.i s,.i m),(.i t,.i n)] λu=>A.cond u (A.call 93 [.i a,.i b,.i c,.i 0,.i 2] j λv k=>A.k10 v λw x=>A.eqs [(.i w,.i o),(.i x,.i p)] λy=>A.cond y (A.call 93 [.i a,.i b,.i c,.i 0,.i 0] k λz l=>A.k10 z λB C=>A.eqs [(.i B,.i e),(.i C,.i f)] λD=>A.join (λE F=>A.un0 E (A.ari .add .u8 a 1 λG=>d [.i G] F)) λH=>A.cond D (K [.i a,.i b,.i c] l) (H [] l)) (A.ari .add .u8 a 1 λI=>d [.i I] k)) (A.ari .add .u8 a 1 λJ=>d [.i J] j)) (K [.i 8,.i 0,.i 0] g)) [.i 0] h
def f97:R:=A.unV ls λd f=>A.k6 f λg=>A.opt (lenS d) λj=>A.loop (λk l c=>A.k4 l λa=>A.cd .lss a j (A.ix 3 d a 3 c λm=>A.k17 m λn o p=>A.callv g [.agg ⟨[.int .i64 n,.int .u8 o,.int .u8 p]⟩] [.leaf .b] c λq e=>A.k2 q λr=>A.cond r (K [.i a] e) (A.ari .add .i64 a 1 λs=>k [.i s] e)) (K [.i (-1)] c)) [.i 0] h
def f98:R:=A.k14 ls λa b f g=>A.call 72 [.i a,.i b,.i f] h λj c=>A.k14 j λk l m d=>A.cd .neq d 0 (K [.i 0,.i d] c) (A.call 129 [.i k,.i l,.i m,.i g] c λn e=>A.k14 n λo p q r=>A.cd .neq r 0 (K [.i 0,.i 1] e) (A.call 125 [.i a,.i b,.i o,.i p,.i q] e λs t=>A.k10 s λu v=>K [.i u,.i v] t))
def f99:R:=A.k6 ls λa=>A.opt (lenS a) λc=>A.opt (lenS a) λd=>A.opt (slS 2 a none (some c) (some d)) λb=>A.chk b (K [.v b] h)
def f100:R:=A.k10 ls λd e=>A.call 132 [.i d,.i e] h λk l=>A.k3 k λa B=>A.opt (lenS a) λC=>A.new (.map [] 0) l λf m=>A.opt (lenS a) λn=>A.loop (λo p b=>A.k4 p λc=>A.cd .lss c n (A.ix 2 a c 2 b λq=>A.k16 q λg j=>A.call 133 [.i d,.i e,.i g,.i j] b λr s=>A.k14 r λt u w x=>A.heap (.fn (muG cc 220 (.map (some f)) (.agg ⟨[.int .u8 t,.int .i64 u,.int .i64 w]⟩) (.agg ⟨[.int .i64 g,.int .u8 j,.int .i64 x]⟩))) s λD y=>A.ari .add .i64 c 1 λz=>o [.i z] y) (K [.v (.map (some f))] b)) [.i 0] m
def f101:R:=A.unV ls λm n=>A.k13 n λo c d e b=>A.call 134 [.i o,.i c,.i d,.i e,.i b] h λp f=>A.k2 p λq=>A.cond (!q) (K [.v (.slice none 0 0),.i 1] f) (A.loop (λr s a=>A.k3 s λg j=>A.cd .neq j b (A.peek (.fn (luG cc 220 true (.agg ⟨[.int .i64 0,.int .u8 0,.int .i64 0]⟩) m (.agg ⟨[.int .u8 c,.int .i64 d,.int .i64 j]⟩) true)) a λt=>A.ucI .i64 t λu w=>A.ucI .u8 w λx y=>A.ucI .i64 y λk z=>A.ucB z λB C=>A.uc0 C (A.cond (!B) (K [.v (.slice none 0 0),.i 7] a) (A.cd .gtr k b (K [.v (.slice none 0 0),.i 7] a) (A.new (.cells [.int .i64 u,.int .u8 x] 2 true) a λD E=>A.heap (.ap cc 2 16 g (.slice (some ⟨D,0,some 12⟩) 1 2)) E λF G=>A.ucV F λl H=>A.chk l (A.uc0 H (r [.v l,.i k] G)))))) (A.call 135 [.v g] a λI J=>A.k6 I λL=>K [.v L,.i 0] J)) [.v (.slice none 0 0),.i e] f)
def f102:R:=A.unV ls λa c=>A.k6 c λd=>A.opt (lenS a) λb=>A.conv .u64 b λe=>A.call 122 [.i e] h λf g=>A.k4 f λj=>A.call 136 [.v a,.i 0,.i b,.i j,.v d] g λk l=>A.un0 k (K [] l)
def f103:R:=A.k15 ls λa b n c d o=>A.conv .i64 b λe=>A.conv .i64 d λf=>A.new (.cells [.int .i64 a,.int .i64 c,.int .i64 e,.int .i64 f] 2 true) h λg j=>A.call 104 [.v (.slice (some ⟨g,0,some 12⟩) 2 3)] j λk l=>A.k4 k λm=>K [.i m] l
def f104:R:=A.k6 ls λc=>A.opt (lenS c) λf=>A.loop (λg j a=>A.k4 j λb=>A.cd .lss b f (A.ix 2 c b 2 a λk=>A.k12 k λl m=>A.call 137 [.i l,.i m] a λn d=>A.k4 n λe=>A.cd .neq e 0 (K [.i e] d) (A.ari .add .i64 b 1 λo=>g [.i o] d)) (K [.i 0] a)) [.i 0] h
def f105:R:=A.k6 ls λa=>A.opt (lenS a) λc=>A.opt (lenS a) λd=>A.opt (slS 3 a none (some c) (some d)) λb=>A.chk b (K [.v b] h)
def f106:R:=A.k4 ls λa=>A.join (λd e=>A.k2 d λf=>K [.b f] e) λc=>A.cd .lss a (-16384) (c [.b true] h) (A.cmp .gtr a 16384 λg=>c [.b g] h)
def f107:R:=A.k1 ls λp q a=>A.opt (lenS a) λr=>A.new (.map [] 0) h λd e=>A.opt (lenS a) λf=>A.loop (λg j b=>A.k4 j λc=>A.cd .lss c f (A.ix 3 a c 3 b λk=>A.k17 k λl m s=>A.heap (.fn (muG cc 62 (.map (some d)) (.agg ⟨[.int .i64 l,.int .u8 m]⟩) (.bool true))) b λt n=>A.ari .add .i64 c 1 λo=>g [.i o] n) (K [.v (.map (some d))] b)) [.i 0] e
def f108:R:=A.k10 ls λa b=>A.call 60 [.i a,.i b] h λd c=>A.k4 d λe=>A.cd .neq e 0 (K [.i 0] c) (A.ari .mul .i64 4 a λf=>A.ari .mul .i64 f b λg=>K [.i g] c)
def f109:R:=A.unI ls λb o=>A.unI o λp q=>A.unV q λd r=>A.unV r λs t=>A.k6 t λe=>A.opt (fdP 0 d) λf=>A.chk f (A.peek (.lg cc 2 f) h λu=>A.k12 u λv w=>A.call 64 [.i v,.i w,.i b,.i p] h λx a=>A.k5 x λg j a8=>A.peek (.lg cc 1 s) a λy=>A.ucV y λk z=>A.chk k (A.uc0 z (A.peek (.fn (luG cc 62 false (.bool false) k (.agg ⟨[.int .i64 g,.int .u8 j]⟩) false)) a λB=>A.ucB B λC D=>A.uc0 D (A.cond (!C) (A.peek (.lg cc 1 e) a λE=>A.ucV E λl F=>A.chk l (A.uc0 F (A.ix 3 l b 3 a λG=>A.k11 G λH I J=>K [.i H,.i I,.i J] a))) (A.opt (fdP 0 d) λm=>A.chk m (A.peek (.lg cc 2 m) a λL=>A.k12 L λM N=>A.call 110 [.i M,.i N,.i g,.i j] a λO P=>A.k5 O λQ S a9=>A.call 89 [.i Q,.i S] P λT c=>A.k14 T λU V W b0=>A.peek (.lg cc 1 e) c λX=>A.ucV X λn Y=>A.chk n (A.uc0 Y (A.ix 3 n b 3 c λZ=>A.k11 Z λa0 a1 a2=>A.call 73 [.i U,.i V,.i W,.i a0,.i a1,.i a2] c λa3 a4=>A.k14 a3 λa5 a6 a7 b1=>K [.i a5,.i a6,.i a7] a4))))))))
def f110:R:=A.k14 ls λd e f a=>A.call 138 [.i d,.i e,.i f,.i a] h λg b=>A.k14 g λj k l c=>A.cd .neq c 0 (K [.i 0,.i 0,.i c] b) (A.call 139 [.i j,.i k,.i l,.i a] b λm n=>A.k5 m λo p q=>K [.i o,.i p,.i q] n)
def f111:R:=A.k5 ls λd e a=>A.join (λf g=>A.k2 f λi=>K [.b i] g) λc=>A.cd .geq a 0 (A.ari .mul .i64 4 d λj=>A.ari .mul .i64 j e λk=>A.cmp .lss a k λl=>c [.b l] h) (c [.b false] h)
def f112:R:=A.k5 ls λb k a=>A.ari .quo .i64 a 4 λc=>A.ari .rem .i64 c b λd=>A.ari .quo .i64 a 4 λe=>A.ari .quo .i64 e b λf=>A.ari .rem .i64 a 4 λg=>A.conv .u8 g λj=>K [.i d,.i f,.i j] h
def f113:R:=A.k15 ls λc d e f a b=>A.ari .mul .i64 c a λg=>A.ari .mul .i64 d b λj=>A.ari .add .i64 g j λk=>A.ari .mul .i64 e a λl=>A.ari .mul .i64 f b λm=>A.ari .add .i64 l m λn=>K [.i k,.i n] h
def f114:R:=A.k5 ls λa b c=>A.call 70 [.i a,.i b,.i c] h λe d=>A.k4 e λf=>A.cd .neq f 0 (K [.i 0,.i 0,.i 0,.i 3] d) (K [.i a,.i b,.i c,.i 0] d)
def f115:R:=A.k14 ls λc d e f=>A.loop (λg j b=>A.k4 j λa=>A.cd .lss a 8 (A.opt (inB 8 a) λs=>A.opt (dO [.i 1,.i 0,.i 0,.i 1,.i 0,.i (-1),.i 1,.i 0,.i (-1),.i 0,.i 0,.i (-1),.i 0,.i 1,.i (-1),.i 0,.i (-1),.i 0,.i 0,.i 1,.i 0,.i (-1),.i (-1),.i 0,.i 1,.i 0,.i 0,.i (-1),.i 0,.i 1,.i 1,.i 0] 0 [(a,4)] 4) λk=>A.k14 k λl m n o=>A.eqs [(.i l,.i c),(.i m,.i d),(.i n,.i e),(.i o,.i f)] λp=>A.cond p (A.conv .u8 a λq=>K [.i q] b) (A.ari .add .i64 a 1 λr=>g [.i r] b)) (K [.i 0] b)) [.i 0] h
def f116:R:=A.unI ls λe f=>A.unI f λg j=>A.k15 j λk l a b c d=>A.call 113 [.i a,.i b,.i c,.i d,.i e,.i k] h λm n=>A.k10 m λo p=>A.call 113 [.i a,.i b,.i c,.i d,.i g,.i l] n λq r=>A.k10 q λs t=>K [.i o,.i s,.i p,.i t] r
def f117:R:=A.k5 ls λa b c=>A.cd .lss a (-4096) (K [.i 1] h) (A.cd .gtr a 4096 (K [.i 1] h) (A.cd .lss b (-4096) (K [.i 1] h) (A.cd .gtr b 4096 (K [.i 1] h) (A.cd .gtr c 3 (K [.i 1] h) (K [.i 0] h)))))
def f118:R:=A.k15 ls λf m n o p b=>A.call 140 [.i o,.i p,.i b] h λq r=>A.k10 q λs t=>A.opt (inB 4 b) λb0=>A.opt (lR gl1 0 [(b,17)] 2) λu=>A.k12 u λv w=>A.call 141 [.i f,.i m,.i n,.i s,.i t] r λx y=>A.k5 x λg j b1=>A.call 141 [.i f,.i 0,.i 0,.i v,.i w] y λz B=>A.k5 z λC D b2=>A.ari .and .i64 g 1 λE=>A.ari .sub .i64 g E λF=>A.ari .quo .i64 F 2 λG=>A.ari .and .i64 j 1 λH=>A.ari .sub .i64 j H λI=>A.ari .quo .i64 I 2 λJ=>A.loop (λL M c=>A.k14 M λa d e k=>A.cd .lss a 4 (A.opt (inB 4 a) λb3=>A.opt (dO [.i 0,.i (-1),.i 2,.i 0,.i 0,.i (-1),.i 2,.i 0,.i 0,.i 1,.i 0,.i 0,.i 3,.i 0,.i 0,.i 2,.i 0,.i 1,.i 0,.i 1,.i 1,.i 1,.i 0,.i 3,.i 0,.i 0,.i 0,.i 0,.i 0,.i 2,.i 2,.i 2,.i 2,.i 0,.i 0,.i 1,.i 2,.i 1,.i 0,.i 1,.i 0,.i 0,.i 0,.i 3,.i 0,.i 0,.i 1,.i 2,.i 2,.i 0,.i 2,.i (-1),.i 0,.i 1,.i 0,.i (-1),.i 0,.i 1,.i 0,.i 0,.i 2,.i 0,.i 0,.i 0,.i 0,.i 0,.i 0,.i 2] 0 [(a,17)] 17) λN=>A.unI N λO P=>A.unI P λQ S=>A.unI S λb4 T=>A.unI T λb5 U=>A.unI U λb6 V=>A.unI V λb7 W=>A.unI W λb8 X=>A.unI X λb9 Y=>A.unI Y λc0 Z=>A.unI Z λc1 a0=>A.unI a0 λc2 a1=>A.k15 a1 λc3 c4 c5 c6 c7 c8=>A.eqs [(.i O,.i C),(.i Q,.i D)] λa2=>A.join (λa3 a4=>A.k5 a3 λa5 a6 a7=>A.ari .add .i64 a 1 λa8=>L [.i a8,.i a5,.i a6,.i a7] a4) λl=>A.cond a2 (A.conv .u8 a λa9=>l [.i d,.i e,.i a9] c) (l [.i d,.i e,.i k] c)) (K [.i d,.i e,.i k] c)) [.i 0,.i G,.i J,.i 0] B
def f119:R:=A.unV ls λa c=>A.k6 c λd=>A.call 142 [.v a,.v d] h λe f=>A.k4 e λg=>A.cmp .geq g 0 λi=>K [.b i] f
def f120:R:=A.k5 ls λa c d=>A.call 117 [.i a,.i c,.i d] h λe f=>A.k4 e λg=>A.cmp .neq g 0 λj=>K [.b j] f
def f122:R:=A.k4 ls λa=>A.call 152 [.i a] h λb c=>A.k4 b λd=>K [.i d] c
def f123:R:=A.k6 ls λc=>A.opt (lenS c) λf=>A.loop (λg j a=>A.k4 j λb=>A.cd .lss b f (A.ix 2 c b 2 a λk=>A.k12 k λl m=>A.call 137 [.i l,.i m] a λn d=>A.k4 n λe=>A.cd .neq e 0 (K [.i e] d) (A.ari .add .i64 b 1 λo=>g [.i o] d)) (K [.i 0] a)) [.i 0] h
def f124:R:=A.unV ls λt Y=>A.unV Y λc Z=>A.k6 Z λj=>A.opt (fdP 0 c) λu=>A.chk u (A.peek (.lg cc 1 u) h λa0=>A.k7 a0 λa1=>A.ari .quo .i64 a1 2 λv=>A.opt (fdP 1 c) λw=>A.chk w (A.peek (.lg cc 1 w) h λa2=>A.k7 a2 λa3=>A.ari .quo .i64 a3 2 λx=>A.opt (fdP 0 c) λy=>A.chk y (A.peek (.lg cc 1 y) h λa4=>A.k7 a4 λa5=>A.ari .rem .i64 a5 2 λa6=>A.cmp .neq a6 0 λa7=>A.join (λa8 a9=>A.k5 a8 λm n o=>A.loop (λz b0 B=>A.k14 b0 λb1 C D E=>A.peek (.lg cc 2 j) B λb2=>A.k12 b2 λb3 b4=>A.call 125 [.i b3,.i b4,.i C,.i D,.i E] B λb5 b6=>A.k10 b5 λl h2=>A.loop (λb7 b8 p=>A.k13 b8 λk a d e f=>A.cd .lss a 3 (A.join (λb9 c0=>A.k14 b9 λc1 c2 c3 c4=>A.ari .add .u8 a 1 λc5=>b7 [.i c1,.i c5,.i c2,.i c3,.i c4] c0) λq=>A.peek (.lg cc 2 c) p λc6=>A.k12 c6 λc7 c8=>A.call 126 [.i d,.i e,.i f,.i a,.i c7,.i c8] p λc9 g=>A.k2 c9 λd0=>A.cond (!d0) (q [.i k,.i d,.i e,.i f] g) (A.cd .eql a k (q [.i k,.i d,.i e,.i f] g) (A.cd .eql k 3 (A.peek (.lg cc 2 c) g λd1=>A.k12 d1 λd2 d3=>A.call 127 [.i d,.i e,.i f,.i a,.i d2,.i d3] g λd4 F=>A.k2 d4 λd5=>A.join (λd6 G=>A.un0 d6 (A.peek (.lg cc 2 j) G λd7=>A.k12 d7 λd8 d9=>A.call 64 [.i d8,.i d9,.i l,.i a] G λe0 r=>A.k5 e0 λH I h3=>A.peek (.lg cc 2 j) r λe1=>A.k12 e1 λe2 e3=>A.peek (.lg cc 2 c) r λe4=>A.k12 e4 λe5 e6=>A.call 128 [.i e2,.i e3,.i H,.i I,.i e5,.i e6] r λe7 e8=>A.k4 e7 λe9=>A.callv t [.int .i64 l,.agg ⟨[.int .i64 e9,.int .i64 H,.int .u8 I]⟩] [.leaf .b] e8 λf0 J=>A.k2 f0 λf1=>A.cond (!f1) (K [] J) (A.call 129 [.i d,.i e,.i f,.i a] J λf2 L=>A.k14 f2 λM N O h4=>A.eqs [(.i M,.i m),(.i N,.i n),(.i O,.i o)] λf3=>A.cond f3 (K [] L) (z [.i a,.i M,.i N,.i O] L)))) λf4=>A.cond (!d5) (q [.i k,.i d,.i e,.i f] F) (f4 [] F)) (A.peek (.lg cc 2 j) g λf5=>A.k12 f5 λf6 f7=>A.call 64 [.i f6,.i f7,.i l,.i a] g λf8 s=>A.k5 f8 λP Q h5=>A.peek (.lg cc 2 j) s λf9=>A.k12 f9 λg0 g1=>A.peek (.lg cc 2 c) s λg2=>A.k12 g2 λg3 g4=>A.call 128 [.i g0,.i g1,.i P,.i Q,.i g3,.i g4] s λg5 g6=>A.k4 g5 λg7=>A.callv t [.int .i64 l,.agg ⟨[.int .i64 g7,.int .i64 P,.int .u8 Q]⟩] [.leaf .b] g6 λg8 S=>A.k2 g8 λg9=>A.cond (!g9) (K [] S) (A.call 129 [.i d,.i e,.i f,.i a] S λh0 T=>A.k14 h0 λU V W h6=>A.eqs [(.i U,.i m),(.i V,.i n),(.i W,.i o)] λh1=>A.cond h1 (K [] T) (z [.i a,.i U,.i V,.i W] T)))))) (K [] p)) [.i b1,.i 0,.i C,.i D,.i E] b6) [.i 3,.i m,.i n,.i o] a9) λX=>A.cond a7 (X [.i v,.i x,.i 2] h) (X [.i v,.i x,.i 0] h))))
def f125:R:=A.k13 ls λd e b c f=>A.call 60 [.i d,.i e] h λk g=>A.k4 k λj=>A.cd .neq j 0 (K [.i 0,.i j] g) (A.call 117 [.i b,.i c,.i f] g λl a=>A.k4 l λm=>A.cd .neq m 0 (K [.i 0,.i 7] a) (A.cd .lss b 0 (K [.i 0,.i 7] a) (A.cd .geq b d (K [.i 0,.i 7] a) (A.cd .lss c 0 (K [.i 0,.i 7] a) (A.cd .geq c e (K [.i 0,.i 7] a) (A.ari .mul .i64 c d λn=>A.ari .add .i64 n b λo=>A.ari .mul .i64 4 o λp=>A.conv .i64 f λq=>A.ari .add .i64 p q λr=>K [.i r,.i 0] a))))))
def f126:R:=A.k15 ls λc d e a f g=>A.call 153 [.i c,.i d,.i e] h λj k=>A.unI j λl m=>A.k15 m λn o p q r w=>A.opt (inB 3 a) λx=>A.opt (dO [.i l,.i n,.i o,.i p,.i q,.i r] 0 [(a,2)] 2) λs=>A.k10 s λt u=>A.eqs [(.i t,.i f),(.i u,.i g)] λv=>K [.b (!v)] k
def f127:R:=A.k15 ls λg i j a c k=>A.ari .rem .i64 c 2 λd=>A.cd .neq d 0 (A.cmp .eql a 1 λe=>K [.b e] h) (A.cmp .eql a 2 λf=>K [.b f] h)
def f128:R:=A.k15 ls λj k l m a b=>A.call 154 [.i j,.i k,.i l,.i m] h λn c=>A.k13 n λd e o p I=>A.eqs [(.i d,.i a),(.i e,.i b)] λq=>A.join (λr s=>A.k10 r λt u=>A.ari .sub .i64 t a λw=>A.call 155 [.i w] s λx y=>A.k4 x λz=>A.ari .sub .i64 u b λB=>A.call 155 [.i B] y λC D=>A.k4 C λE=>A.opt (cF cc 260 ⟨2,0,some 1⟩ none none none []) λf=>A.chk f (A.call 156 [.v f,.i z,.i E] D λF G=>A.k4 F λH=>K [.i H] G)) λg=>A.cond q (g [.i o,.i p] c) (g [.i d,.i e] c)
def f129:R:=A.k14 ls λd e a b=>A.call 117 [.i d,.i e,.i a] h λl c=>A.k4 l λm=>A.cd .neq m 0 (K [.i 0,.i 0,.i 0,.i 1] c) (A.cd .gtr b 2 (K [.i 0,.i 0,.i 0,.i 1] c) (A.opt (inB 4 a) λs=>A.opt (inB 3 b) λt=>A.opt (lR gl1 4 [(a,17),(b,3)] 3) λn=>A.k9 n λo p f=>A.ari .add .i64 o d λg=>A.ari .add .i64 p e λj=>A.call 117 [.i g,.i j,.i f] c λq k=>A.k4 q λr=>A.cd .neq r 0 (K [.i 0,.i 0,.i 0,.i 3] k) (K [.i g,.i j,.i f,.i 0] k)))
def f130:R:=A.unI ls λa m=>A.unI m λc n=>A.unV n λd o=>A.k10 o λp q=>A.call 32 [.i a,.i c,.v d] h λr e=>A.k4 r λf=>A.cd .neq f 0 (K [.i 0,.i 0,.i 0,.b false,.i f] e) (A.call 64 [.i a,.i c,.i p,.i q] e λs g=>A.k5 s λj k l=>A.cd .neq l 0 (K [.i 0,.i 0,.i 0,.b false,.i l] g) (A.call 157 [.v d,.i j,.i k] g λt u=>A.unI t λw x=>A.k2 x λy=>K [.i j,.i k,.i w,.b y,.i 0] u))
def f131:R:=A.unV ls λc b8=>A.unI b8 λb9 c0=>A.k1 c0 λc1 c2 e=>A.loop (λc3 c4 t=>A.unI c4 λB c5=>A.unI c5 λd c6=>A.unB c6 λu c7=>A.unB c7 λs c8=>A.k4 c8 λa=>A.join (λc9 d0=>A.unI c9 λd1 d2=>A.unI d2 λd3 d4=>A.unB d4 λd5 d6=>A.unB d6 λd7 d8=>A.k4 d8 λd9=>c3 [.i d1,.i d3,.b d5,.b d7,.i d9] d0) λk=>A.ari .sub .i64 a d λl=>A.cd .leq l 12 (A.call 158 [.v c,.i d,.i a,.v e] t λe0 e1=>A.un0 e0 (K [] e1)) (A.cd .eql B 0 (A.call 159 [.v c,.i d,.i a,.v e] t λe2 e3=>A.un0 e2 (K [] e3)) (A.join (λe4 e5=>A.k4 e4 λf=>A.call 161 [.v c,.i d,.i a,.v e] e5 λe6 C=>A.k10 e6 λD E=>A.cmp .eql E 2 λe7=>A.join (λe8 j=>A.k10 e8 λg e9=>A.cond s (A.cond u (A.cmp .eql e9 1 λf0=>A.join (λf1 w=>A.un0 f1 (A.cd .gtr d 0 (A.ari .sub .i64 d 1 λf2=>A.ix 2 c f2 2 w λf3=>A.k16 f3 λf4 f5=>A.ix 2 c g 2 w λf6=>A.k16 f6 λf7 f8=>A.callv e [.agg ⟨[.int .i64 f4,.int .u8 f5]⟩,.agg ⟨[.int .i64 f7,.int .u8 f8]⟩] [.leaf (.i .i64)] w λf9 F=>A.k4 f9 λg0=>A.cmp .lss g0 0 λg1=>A.join (λg2 g3=>A.k4 g2 λx=>A.call 165 [.v c,.i x,.i a,.i g,.v e] g3 λg4 G=>A.unI g4 λm g5=>A.k2 g5 λg6=>A.ari .sub .i64 m x λH=>A.ari .sub .i64 a m λI=>A.ari .quo .i64 l 8 λJ=>A.cmp .lss H I λg7=>A.join (λg8 g9=>A.unB g8 λh0 h1=>A.k10 h1 λh2 h3=>k [.i f,.i h2,.b g6,.b h0,.i h3] g9) λL=>A.cond g7 (A.cmp .geq H J λh4=>A.call 131 [.v c,.i x,.i m,.i f,.v e] G λh5 h6=>A.un0 h5 (A.ari .add .i64 m 1 λh7=>L [.b h4,.i h7,.i a] h6)) (A.cmp .geq I J λh8=>A.ari .add .i64 m 1 λh9=>A.call 131 [.v c,.i h9,.i a,.i f,.v e] G λi0 i1=>A.un0 i0 (L [.b h8,.i x,.i m] i1))) λi2=>A.cond (!g1) (A.call 164 [.v c,.i d,.i a,.i g,.v e] F λi3 i4=>A.k4 i3 λi5=>k [.i f,.i i5,.b u,.b s,.i a] i4) (i2 [.i d] F)) (A.call 165 [.v c,.i d,.i a,.i g,.v e] w λi6 M=>A.unI i6 λn i7=>A.k2 i7 λi8=>A.ari .sub .i64 n d λN=>A.ari .sub .i64 a n λO=>A.ari .quo .i64 l 8 λP=>A.cmp .lss N O λi9=>A.join (λj0 j1=>A.unB j0 λj2 j3=>A.k10 j3 λj4 j5=>k [.i f,.i j4,.b i8,.b j2,.i j5] j1) λQ=>A.cond i9 (A.cmp .geq N P λj6=>A.call 131 [.v c,.i d,.i n,.i f,.v e] M λj7 j8=>A.un0 j7 (A.ari .add .i64 n 1 λj9=>Q [.b j6,.i j9,.i a] j8)) (A.cmp .geq O P λk0=>A.ari .add .i64 n 1 λk3=>A.call 131 [.v c,.i k3,.i a,.i f,.v e] M λk5 k6=>A.un0 k5 (Q [.b k0,.i d,.i n] k6))))) λS=>A.cond f0 (A.call 163 [.v c,.i d,.i a,.v e] j λk7 T=>A.k2 k7 λk8=>A.cond k8 (K [] T) (S [] T)) (S [] j)) (A.cd .gtr d 0 (A.ari .sub .i64 d 1 λk9=>A.ix 2 c k9 2 j λl0=>A.k16 l0 λl1 l2=>A.ix 2 c g 2 j λl3=>A.k16 l3 λl4 l5=>A.callv e [.agg ⟨[.int .i64 l1,.int .u8 l2]⟩,.agg ⟨[.int .i64 l4,.int .u8 l5]⟩] [.leaf (.i .i64)] j λl6 U=>A.k4 l6 λl7=>A.cmp .lss l7 0 λl8=>A.join (λl9 m0=>A.k4 l9 λy=>A.call 165 [.v c,.i y,.i a,.i g,.v e] m0 λm1 V=>A.unI m1 λo m2=>A.k2 m2 λm3=>A.ari .sub .i64 o y λW=>A.ari .sub .i64 a o λX=>A.ari .quo .i64 l 8 λY=>A.cmp .lss W X λm4=>A.join (λm5 m6=>A.unB m5 λm7 m8=>A.k10 m8 λm9 n0=>k [.i f,.i m9,.b m3,.b m7,.i n0] m6) λZ=>A.cond m4 (A.cmp .geq W Y λn1=>A.call 131 [.v c,.i y,.i o,.i f,.v e] V λn2 n3=>A.un0 n2 (A.ari .add .i64 o 1 λn4=>Z [.b n1,.i n4,.i a] n3)) (A.cmp .geq X Y λn5=>A.ari .add .i64 o 1 λn6=>A.call 131 [.v c,.i n6,.i a,.i f,.v e] V λn7 n8=>A.un0 n7 (Z [.b n5,.i y,.i o] n8))) λn9=>A.cond (!l8) (A.call 164 [.v c,.i d,.i a,.i g,.v e] U λo0 o1=>A.k4 o0 λo2=>k [.i f,.i o2,.b u,.b s,.i a] o1) (n9 [.i d] U)) (A.call 165 [.v c,.i d,.i a,.i g,.v e] j λo3 a0=>A.unI o3 λp o4=>A.k2 o4 λo5=>A.ari .sub .i64 p d λa1=>A.ari .sub .i64 a p λa2=>A.ari .quo .i64 l 8 λa3=>A.cmp .lss a1 a2 λo6=>A.join (λo7 o8=>A.unB o7 λo9 p0=>A.k10 p0 λp1 p2=>k [.i f,.i p1,.b o5,.b o9,.i p2] o8) λa4=>A.cond o6 (A.cmp .geq a1 a3 λp3=>A.call 131 [.v c,.i d,.i p,.i f,.v e] a0 λp4 p5=>A.un0 p4 (A.ari .add .i64 p 1 λp6=>a4 [.b p3,.i p6,.i a] p5)) (A.cmp .geq a2 a3 λp7=>A.ari .add .i64 p 1 λp8=>A.call 131 [.v c,.i p8,.i a,.i f,.v e] a0 λp9 q0=>A.un0 p9 (a4 [.b p7,.i d,.i p] q0))))) (A.cd .gtr d 0 (A.ari .sub .i64 d 1 λq1=>A.ix 2 c q1 2 j λq2=>A.k16 q2 λq3 q4=>A.ix 2 c g 2 j λq5=>A.k16 q5 λq6 q7=>A.callv e [.agg ⟨[.int .i64 q3,.int .u8 q4]⟩,.agg ⟨[.int .i64 q6,.int .u8 q7]⟩] [.leaf (.i .i64)] j λq8 a5=>A.k4 q8 λq9=>A.cmp .lss q9 0 λr0=>A.join (λr1 r2=>A.k4 r1 λz=>A.call 165 [.v c,.i z,.i a,.i g,.v e] r2 λr3 a6=>A.unI r3 λq r4=>A.k2 r4 λr5=>A.ari .sub .i64 q z λa7=>A.ari .sub .i64 a q λa8=>A.ari .quo .i64 l 8 λa9=>A.cmp .lss a7 a8 λr6=>A.join (λr7 r8=>A.unB r7 λr9 s0=>A.k10 s0 λs1 s2=>k [.i f,.i s1,.b r5,.b r9,.i s2] r8) λb0=>A.cond r6 (A.cmp .geq a7 a9 λs3=>A.call 131 [.v c,.i z,.i q,.i f,.v e] a6 λs4 s5=>A.un0 s4 (A.ari .add .i64 q 1 λs6=>b0 [.b s3,.i s6,.i a] s5)) (A.cmp .geq a8 a9 λs7=>A.ari .add .i64 q 1 λs8=>A.call 131 [.v c,.i s8,.i a,.i f,.v e] a6 λs9 t0=>A.un0 s9 (b0 [.b s7,.i z,.i q] t0))) λt1=>A.cond (!r0) (A.call 164 [.v c,.i d,.i a,.i g,.v e] a5 λt2 t3=>A.k4 t2 λt4=>k [.i f,.i t4,.b u,.b s,.i a] t3) (t1 [.i d] a5)) (A.call 165 [.v c,.i d,.i a,.i g,.v e] j λt5 b1=>A.unI t5 λr t6=>A.k2 t6 λt7=>A.ari .sub .i64 r d λb2=>A.ari .sub .i64 a r λb3=>A.ari .quo .i64 l 8 λb4=>A.cmp .lss b2 b3 λt8=>A.join (λt9 u0=>A.unB t9 λu1 u2=>A.k10 u2 λu3 u4=>k [.i f,.i u3,.b t7,.b u1,.i u4] u0) λb5=>A.cond t8 (A.cmp .geq b2 b4 λu5=>A.call 131 [.v c,.i d,.i r,.i f,.v e] b1 λu6 u7=>A.un0 u6 (A.ari .add .i64 r 1 λu9=>b5 [.b u5,.i u9,.i a] u7)) (A.cmp .geq b3 b4 λv0=>A.ari .add .i64 r 1 λv1=>A.call 131 [.v c,.i v1,.i a,.i f,.v e] b1 λv2 v3=>A.un0 v2 (b5 [.b v0,.i d,.i r] v3))))) λb6=>A.cond e7 (A.call 162 [.v c,.i d,.i a,.v e] C λv4 v5=>A.un0 v4 (A.ari .sub .i64 a 1 λv6=>A.ari .sub .i64 D d λv7=>A.ari .sub .i64 v6 v7 λv8=>b6 [.i v8,.i 1] v5)) (b6 [.i D,.i E] C)) λb7=>A.cond (!s) (A.call 160 [.v c,.i d,.i a,.v e] t λv9 w0=>A.un0 v9 (A.ari .sub .i64 B 1 λw1=>b7 [.i w1] w0)) (b7 [.i B] t)))) [.i c2,.i b9,.b true,.b true,.i c1] h
def f132:R:=A.k10 ls λb c=>A.call 60 [.i b,.i c] h λj d=>A.k4 j λe=>A.cd .neq e 0 (K [.v (.slice none 0 0),.i e] d) (A.new (.cells [.slice none 0 0] 1 true) d λf k=>A.call 166 [.i b,.i c] k λl m=>A.k6 l λn=>A.rfun 2112 n [.pointer (some ⟨f,0,none⟩)] m λo a=>A.pend o (A.peek (.lg cc 1 (.pointer (some ⟨f,0,none⟩))) a λp=>A.ucV p λg q=>A.chk g (A.uc0 q (A.call 135 [.v g] a λr s=>A.k6 r λt=>K [.v t,.i 0] s))) (K [.v (.slice none 0 0),.i 0] a) [])
def f133:R:=A.k14 ls λb c d e=>A.call 110 [.i b,.i c,.i d,.i e] h λf g=>A.k5 f λa j w=>A.call 154 [.i b,.i c,.i d,.i e] g λk l=>A.k13 k λm n o p x=>A.call 167 [.i a,.i m,.i n] l λq r=>A.k4 q λs=>A.call 167 [.i a,.i o,.i p] r λt u=>A.k4 t λv=>K [.i a,.i j,.i s,.i v] u
def f134:R:=A.k13 ls λc e f g j=>A.join (λk l=>A.k2 k λm=>K [.b m] l) λa=>A.cd .geq c 1 (A.cd .leq c 3 (A.call 92 [.i e,.i f] h λn d=>A.k4 n λo=>A.cd .eql o 0 (A.cmp .lss g j λp=>a [.b p] d) (a [.b false] d)) (a [.b false] h)) (a [.b false] h)
def f135:R:=A.k6 ls λa=>A.opt (lenS a) λc=>A.opt (lenS a) λd=>A.opt (slS 2 a none (some c) (some d)) λb=>A.chk b (K [.v b] h)
def f136:R:=A.unV ls λc b8=>A.unI b8 λb9 c0=>A.k1 c0 λc1 c2 e=>A.loop (λc3 c4 t=>A.unI c4 λB c5=>A.unI c5 λd c6=>A.unB c6 λu c7=>A.unB c7 λs c8=>A.k4 c8 λa=>A.join (λc9 d0=>A.unI c9 λd1 d2=>A.unI d2 λd3 d4=>A.unB d4 λd5 d6=>A.unB d6 λd7 d8=>A.k4 d8 λd9=>c3 [.i d1,.i d3,.b d5,.b d7,.i d9] d0) λk=>A.ari .sub .i64 a d λl=>A.cd .leq l 12 (A.call 168 [.v c,.i d,.i a,.v e] t λe0 e1=>A.un0 e0 (K [] e1)) (A.cd .eql B 0 (A.call 169 [.v c,.i d,.i a,.v e] t λe2 e3=>A.un0 e2 (K [] e3)) (A.join (λe4 e5=>A.k4 e4 λf=>A.call 171 [.v c,.i d,.i a,.v e] e5 λe6 C=>A.k10 e6 λD E=>A.cmp .eql E 2 λe7=>A.join (λe8 j=>A.k10 e8 λg e9=>A.cond s (A.cond u (A.cmp .eql e9 1 λf0=>A.join (λf1 w=>A.un0 f1 (A.cd .gtr d 0 (A.ari .sub .i64 d 1 λf2=>A.ix 3 c f2 3 w λf3=>A.k17 f3 λf4 f5 f6=>A.ix 3 c g 3 w λf7=>A.k17 f7 λf8 f9 g0=>A.callv e [.agg ⟨[.int .i64 f4,.int .u8 f5,.int .u8 f6]⟩,.agg ⟨[.int .i64 f8,.int .u8 f9,.int .u8 g0]⟩] [.leaf (.i .i64)] w λg1 F=>A.k4 g1 λg2=>A.cmp .lss g2 0 λg3=>A.join (λg4 g5=>A.k4 g4 λx=>A.call 175 [.v c,.i x,.i a,.i g,.v e] g5 λg6 G=>A.unI g6 λm g7=>A.k2 g7 λg8=>A.ari .sub .i64 m x λH=>A.ari .sub .i64 a m λI=>A.ari .quo .i64 l 8 λJ=>A.cmp .lss H I λg9=>A.join (λh0 h1=>A.unB h0 λh2 h3=>A.k10 h3 λh4 h5=>k [.i f,.i h4,.b g8,.b h2,.i h5] h1) λL=>A.cond g9 (A.cmp .geq H J λh6=>A.call 136 [.v c,.i x,.i m,.i f,.v e] G λh7 h8=>A.un0 h7 (A.ari .add .i64 m 1 λh9=>L [.b h6,.i h9,.i a] h8)) (A.cmp .geq I J λi0=>A.ari .add .i64 m 1 λi1=>A.call 136 [.v c,.i i1,.i a,.i f,.v e] G λi2 i3=>A.un0 i2 (L [.b i0,.i x,.i m] i3))) λi4=>A.cond (!g3) (A.call 174 [.v c,.i d,.i a,.i g,.v e] F λi5 i6=>A.k4 i5 λi7=>k [.i f,.i i7,.b u,.b s,.i a] i6) (i4 [.i d] F)) (A.call 175 [.v c,.i d,.i a,.i g,.v e] w λi8 M=>A.unI i8 λn i9=>A.k2 i9 λj0=>A.ari .sub .i64 n d λN=>A.ari .sub .i64 a n λO=>A.ari .quo .i64 l 8 λP=>A.cmp .lss N O λj1=>A.join (λj2 j3=>A.unB j2 λj4 j5=>A.k10 j5 λj6 j7=>k [.i f,.i j6,.b j0,.b j4,.i j7] j3) λQ=>A.cond j1 (A.cmp .geq N P λj8=>A.call 136 [.v c,.i d,.i n,.i f,.v e] M λj9 k0=>A.un0 j9 (A.ari .add .i64 n 1 λk3=>Q [.b j8,.i k3,.i a] k0)) (A.cmp .geq O P λk5=>A.ari .add .i64 n 1 λk6=>A.call 136 [.v c,.i k6,.i a,.i f,.v e] M λk7 k8=>A.un0 k7 (Q [.b k5,.i d,.i n] k8))))) λS=>A.cond f0 (A.call 173 [.v c,.i d,.i a,.v e] j λk9 T=>A.k2 k9 λl0=>A.cond l0 (K [] T) (S [] T)) (S [] j)) (A.cd .gtr d 0 (A.ari .sub .i64 d 1 λl1=>A.ix 3 c l1 3 j λl2=>A.k17 l2 λl3 l4 l5=>A.ix 3 c g 3 j λl6=>A.k17 l6 λl7 l8 l9=>A.callv e [.agg ⟨[.int .i64 l3,.int .u8 l4,.int .u8 l5]⟩,.agg ⟨[.int .i64 l7,.int .u8 l8,.int .u8 l9]⟩] [.leaf (.i .i64)] j λm0 U=>A.k4 m0 λm1=>A.cmp .lss m1 0 λm2=>A.join (λm3 m4=>A.k4 m3 λy=>A.call 175 [.v c,.i y,.i a,.i g,.v e] m4 λm5 V=>A.unI m5 λo m6=>A.k2 m6 λm7=>A.ari .sub .i64 o y λW=>A.ari .sub .i64 a o λX=>A.ari .quo .i64 l 8 λY=>A.cmp .lss W X λm8=>A.join (λm9 n0=>A.unB m9 λn1 n2=>A.k10 n2 λn3 n4=>k [.i f,.i n3,.b m7,.b n1,.i n4] n0) λZ=>A.cond m8 (A.cmp .geq W Y λn5=>A.call 136 [.v c,.i y,.i o,.i f,.v e] V λn6 n7=>A.un0 n6 (A.ari .add .i64 o 1 λn8=>Z [.b n5,.i n8,.i a] n7)) (A.cmp .geq X Y λn9=>A.ari .add .i64 o 1 λo0=>A.call 136 [.v c,.i o0,.i a,.i f,.v e] V λo1 o2=>A.un0 o1 (Z [.b n9,.i y,.i o] o2))) λo3=>A.cond (!m2) (A.call 174 [.v c,.i d,.i a,.i g,.v e] U λo4 o5=>A.k4 o4 λo6=>k [.i f,.i o6,.b u,.b s,.i a] o5) (o3 [.i d] U)) (A.call 175 [.v c,.i d,.i a,.i g,.v e] j λo7 a0=>A.unI o7 λp o8=>A.k2 o8 λo9=>A.ari .sub .i64 p d λa1=>A.ari .sub .i64 a p λa2=>A.ari .quo .i64 l 8 λa3=>A.cmp .lss a1 a2 λp0=>A.join (λp1 p2=>A.unB p1 λp3 p4=>A.k10 p4 λp5 p6=>k [.i f,.i p5,.b o9,.b p3,.i p6] p2) λa4=>A.cond p0 (A.cmp .geq a1 a3 λp7=>A.call 136 [.v c,.i d,.i p,.i f,.v e] a0 λp8 p9=>A.un0 p8 (A.ari .add .i64 p 1 λq0=>a4 [.b p7,.i q0,.i a] p9)) (A.cmp .geq a2 a3 λq1=>A.ari .add .i64 p 1 λq2=>A.call 136 [.v c,.i q2,.i a,.i f,.v e] a0 λq3 q4=>A.un0 q3 (a4 [.b q1,.i d,.i p] q4))))) (A.cd .gtr d 0 (A.ari .sub .i64 d 1 λq5=>A.ix 3 c q5 3 j λq6=>A.k17 q6 λq7 q8 q9=>A.ix 3 c g 3 j λr0=>A.k17 r0 λr1 r2 r3=>A.callv e [.agg ⟨[.int .i64 q7,.int .u8 q8,.int .u8 q9]⟩,.agg ⟨[.int .i64 r1,.int .u8 r2,.int .u8 r3]⟩] [.leaf (.i .i64)] j λr4 a5=>A.k4 r4 λr5=>A.cmp .lss r5 0 λr6=>A.join (λr7 r8=>A.k4 r7 λz=>A.call 175 [.v c,.i z,.i a,.i g,.v e] r8 λr9 a6=>A.unI r9 λq s0=>A.k2 s0 λs1=>A.ari .sub .i64 q z λa7=>A.ari .sub .i64 a q λa8=>A.ari .quo .i64 l 8 λa9=>A.cmp .lss a7 a8 λs2=>A.join (λs3 s4=>A.unB s3 λs5 s6=>A.k10 s6 λs7 s8=>k [.i f,.i s7,.b s1,.b s5,.i s8] s4) λb0=>A.cond s2 (A.cmp .geq a7 a9 λs9=>A.call 136 [.v c,.i z,.i q,.i f,.v e] a6 λt0 t1=>A.un0 t0 (A.ari .add .i64 q 1 λt2=>b0 [.b s9,.i t2,.i a] t1)) (A.cmp .geq a8 a9 λt3=>A.ari .add .i64 q 1 λt4=>A.call 136 [.v c,.i t4,.i a,.i f,.v e] a6 λt5 t6=>A.un0 t5 (b0 [.b t3,.i z,.i q] t6))) λt7=>A.cond (!r6) (A.call 174 [.v c,.i d,.i a,.i g,.v e] a5 λt8 t9=>A.k4 t8 λu0=>k [.i f,.i u0,.b u,.b s,.i a] t9) (t7 [.i d] a5)) (A.call 175 [.v c,.i d,.i a,.i g,.v e] j λu1 b1=>A.unI u1 λr u2=>A.k2 u2 λu3=>A.ari .sub .i64 r d λb2=>A.ari .sub .i64 a r λb3=>A.ari .quo .i64 l 8 λb4=>A.cmp .lss b2 b3 λu4=>A.join (λu5 u6=>A.unB u5 λu7 u9=>A.k10 u9 λv0 v1=>k [.i f,.i v0,.b u3,.b u7,.i v1] u6) λb5=>A.cond u4 (A.cmp .geq b2 b4 λv2=>A.call 136 [.v c,.i d,.i r,.i f,.v e] b1 λv3 v4=>A.un0 v3 (A.ari .add .i64 r 1 λv5=>b5 [.b v2,.i v5,.i a] v4)) (A.cmp .geq b3 b4 λv6=>A.ari .add .i64 r 1 λv7=>A.call 136 [.v c,.i v7,.i a,.i f,.v e] b1 λv8 v9=>A.un0 v8 (b5 [.b v6,.i d,.i r] v9))))) λb6=>A.cond e7 (A.call 172 [.v c,.i d,.i a,.v e] C λw0 w1=>A.un0 w0 (A.ari .sub .i64 a 1 λw2=>A.ari .sub .i64 D d λw3=>A.ari .sub .i64 w2 w3 λw4=>b6 [.i w4,.i 1] w1)) (b6 [.i D,.i E] C)) λb7=>A.cond (!s) (A.call 170 [.v c,.i d,.i a,.v e] t λw5 w6=>A.un0 w5 (A.ari .sub .i64 B 1 λw7=>b7 [.i w7] w6)) (b7 [.i B] t)))) [.i c2,.i b9,.b true,.b true,.i c1] h
def f137:R:=A.k10 ls λb c=>A.call 176 [.i b] h λe f=>A.k2 e λg=>A.call 176 [.i c] f λj a=>A.k2 j λd=>A.cond g (A.cond d (K [.i 0] a) (K [.i (-1)] a)) (A.cond d (K [.i 1] a) (A.cd .lss b c (K [.i (-1)] a) (A.cd .gtr b c (K [.i 1] a) (K [.i 0] a))))
def f138:R:=A.k14 ls λa b c e=>A.call 60 [.i a,.i b] h λj f=>A.k4 j λg=>A.cd .neq g 0 (K [.i 0,.i 0,.i 0,.i g] f) (A.call 64 [.i a,.i b,.i c,.i e] f λk d=>A.k5 k λl m n=>A.cd .neq n 0 (K [.i 0,.i 0,.i 0,.i 7] d) (A.eqs [(.i l,.i c),(.i m,.i e)] λo=>A.cond (!o) (K [.i 0,.i 0,.i 0,.i 7] d) (A.call 112 [.i a,.i b,.i c] d λp q=>A.k5 p λr s t=>K [.i r,.i s,.i t,.i 0] q)))
def f139:R:=A.k14 ls λb c d e=>A.call 117 [.i b,.i c,.i d] h λp a=>A.k4 p λq=>A.cd .neq q 0 (K [.i 0,.i 0,.i 1] a) (A.cd .gtr e 2 (K [.i 0,.i 0,.i 1] a) (A.opt (inB 4 d) λa4=>A.opt (lR gl1 0 [(d,17)] 17) λr=>A.ucI .i64 r λa5 s=>A.ucI .i64 s λa6 t=>A.ucI .u8 t λf u=>A.ucI .i64 u λg v=>A.ucI .i64 v λa7 w=>A.ucI .i64 w λa8 x=>A.ucI .u8 x λa9 y=>A.ucI .i64 y λb0 z=>A.ucI .i64 z λb1 B=>A.ucI .u8 B λb2 C=>A.ucI .i64 C λb3 D=>A.ucI .i64 D λb4 E=>A.ucI .u8 E λb5 F=>A.ucI .i64 F λb6 G=>A.ucI .i64 G λb7 H=>A.k12 H λb8 b9=>A.ari .add .i64 b g λI=>A.cmp .eql e 1 λJ=>A.join (λL M=>A.k10 L λj k=>A.call 92 [.i j,.i k] M λN l=>A.k4 N λO=>A.cd .neq O 0 (K [.i 0,.i 0,.i 3] l) (K [.i j,.i k,.i 0] l)) λm=>A.cond J (A.ari .add .i64 b c λP=>A.ari .add .i64 P 1 λQ=>m [.i 3,.i Q] a) (A.cmp .eql e 2 λS=>A.join (λT U=>A.k10 T λV W=>m [.i V,.i W] U) λn=>A.cond S (A.ari .sub .i64 c b λX=>n [.i 4,.i X] a) (A.cmp .eql f 2 λY=>A.join (λZ a0=>A.k10 Z λa1 a2=>n [.i a1,.i a2] a0) λo=>A.cond Y (A.ari .add .i64 c g λa3=>o [.i f,.i a3] a) (o [.i f,.i I] a)))))
def f140:R:=A.k5 ls λa b g=>A.ari .mul .i64 2 a λc=>A.ari .add .i64 c 1 λd=>A.ari .mul .i64 2 b λe=>A.ari .add .i64 e 1 λf=>K [.i d,.i f] h
def f141:R:=A.k13 ls λa b c d e=>A.call 70 [.i a,.i b,.i c] h λm f=>A.k4 m λn=>A.cd .neq n 0 (K [.i 0,.i 0,.i 1] f) (A.call 90 [.i d,.i e] f λo g=>A.k4 o λp=>A.cd .neq p 0 (K [.i 0,.i 0,.i 1] g) (A.opt (inB 8 a) λG=>A.opt (lR gl0 0 [(a,4)] 4) λq=>A.ucI .i64 q λr s=>A.ucI .i64 s λt u=>A.k12 u λv w=>A.call 113 [.i r,.i t,.i v,.i w,.i d,.i e] g λx y=>A.k10 x λz B=>A.ari .mul .i64 2 b λC=>A.ari .add .i64 z C λj=>A.ari .mul .i64 2 c λD=>A.ari .add .i64 B D λk=>A.call 90 [.i j,.i k] y λE l=>A.k4 E λF=>A.cd .neq F 0 (K [.i 0,.i 0,.i 3] l) (K [.i j,.i k,.i 0] l)))
def f142:R:=A.unV ls λd f=>A.k6 f λg=>A.opt (lenS d) λj=>A.loop (λk l c=>A.k4 l λa=>A.cd .lss a j (A.ix 3 d a 3 c λm=>A.k9 m λn o p=>A.callv g [.agg ⟨[.int .i64 n,.int .i64 o,.int .u8 p]⟩] [.leaf .b] c λq e=>A.k2 q λr=>A.cond r (K [.i a] e) (A.ari .add .i64 a 1 λs=>k [.i s] e)) (K [.i (-1)] c)) [.i 0] h
def f152:R:=A.k4 ls λa=>A.cmp .geq a 4294967296 λm=>A.join (λn d=>A.k10 n λb e=>A.cmp .geq b 65536 λo=>A.join (λp f=>A.k10 p λc g=>A.cmp .geq c 256 λq=>A.join (λr s=>A.k10 r λt u=>A.conv .u8 t λv=>A.opt (strAt (.mk ⟨[.ofNat 0,.ofNat 1,.ofNat 2,.ofNat 2,.ofNat 3,.ofNat 3,.ofNat 3,.ofNat 3,.ofNat 4,.ofNat 4,.ofNat 4,.ofNat 4,.ofNat 4,.ofNat 4,.ofNat 4,.ofNat 4,.ofNat 5,.ofNat 5,.ofNat 5,.ofNat 5,.ofNat 5,.ofNat 5,.ofNat 5,.ofNat 5,.ofNat 5,.ofNat 5,.ofNat 5,.ofNat 5,.ofNat 5,.ofNat 5,.ofNat 5,.ofNat 5,.ofNat 6,.ofNat 6,.ofNat 6,.ofNat 6,.ofNat 6,.ofNat 6,.ofNat 6,.ofNat 6,.ofNat 6,.ofNat 6,.ofNat 6,.ofNat 6,.ofNat 6,.ofNat 6,.ofNat 6,.ofNat 6,.ofNat 6,.ofNat 6,.ofNat 6,.ofNat 6,.ofNat 6,.ofNat 6,.ofNat 6,.ofNat 6,.ofNat 6,.ofNat 6,.ofNat 6,.ofNat 6,.ofNat 6,.ofNat 6,.ofNat 6,.ofNat 6,.ofNat 7,.ofNat 7,.ofNat 7,.ofNat 7,.ofNat 7,.ofNat 7,.ofNat 7,.ofNat 7,.ofNat 7,.ofNat 7,.ofNat 7,.ofNat 7,.ofNat 7,.ofNat 7,.ofNat 7,.ofNat 7,.ofNat 7,.ofNat 7,.ofNat 7,.ofNat 7,.ofNat 7,.ofNat 7,.ofNat 7,.ofNat 7,.ofNat 7,.ofNat 7,.ofNat 7,.ofNat 7,.ofNat 7,.ofNat 7,.ofNat 7,.ofNat 7,.ofNat 7,.ofNat 7,.ofNat 7,.ofNat 7,.ofNat 7,.ofNat 7,.ofNat 7,.ofNat 7,.ofNat 7,.ofNat 7,.ofNat 7,.ofNat 7,.ofNat 7,.ofNat 7,.ofNat 7,.ofNat 7,.ofNat 7,.ofNat 7,.ofNat 7,.ofNat 7,.ofNat 7,.ofNat 7,.ofNat 7,.ofNat 7,.ofNat 7,.ofNat 7,.ofNat 7,.ofNat 7,.ofNat 7,.ofNat 7,.ofNat 7,.ofNat 7,.ofNat 8,.ofNat 8,.ofNat 8,.ofNat 8,.ofNat 8,.ofNat 8,.ofNat 8,.ofNat 8,.ofNat 8,.ofNat 8,.ofNat 8,.ofNat 8,.ofNat 8,.ofNat 8,.ofNat 8,.ofNat 8,.ofNat 8,.ofNat 8,.ofNat 8,.ofNat 8,.ofNat 8,.ofNat 8,.ofNat 8,.ofNat 8,.ofNat 8,.ofNat 8,.ofNat 8,.ofNat 8,.ofNat 8,.ofNat 8,.ofNat 8,.ofNat 8,.ofNat 8,.ofNat 8,.ofNat 8,.ofNat 8,.ofNat 8,.ofNat 8,.ofNat 8,.ofNat 8,.ofNat 8,.ofNat 8,.ofNat 8,.ofNat 8,.ofNat 8,.ofNat 8,.ofNat 8,.ofNat 8,.ofNat 8,.ofNat 8,.ofNat 8,.ofNat 8,.ofNat 8,.ofNat 8,.ofNat 8,.ofNat 8,.ofNat 8,.ofNat 8,.ofNat 8,.ofNat 8,.ofNat 8,.ofNat 8,.ofNat 8,.ofNat 8,.ofNat 8,.ofNat 8,.ofNat 8,.ofNat 8,.ofNat 8,.ofNat 8,.ofNat 8,.ofNat 8,.ofNat 8,.ofNat 8,.ofNat 8,.ofNat 8,.ofNat 8,.ofNat 8,.ofNat 8,.ofNat 8,.ofNat 8,.ofNat 8,.ofNat 8,.ofNat 8,.ofNat 8,.ofNat 8,.ofNat 8,.ofNat 8,.ofNat 8,.ofNat 8,.ofNat 8,.ofNat 8,.ofNat 8,.ofNat 8,.ofNat 8,.ofNat 8,.ofNat 8,.ofNat 8,.ofNat 8,.ofNat 8,.ofNat 8,.ofNat 8,.ofNat 8,.ofNat 8,.ofNat 8,.ofNat 8,.ofNat 8,.ofNat 8,.ofNat 8,.ofNat 8,.ofNat 8,.ofNat 8,.ofNat 8,.ofNat 8,.ofNat 8,.ofNat 8,.ofNat 8,.ofNat 8,.ofNat 8,.ofNat 8,.ofNat 8,.ofNat 8,.ofNat 8,.ofNat 8,.ofNat 8,.ofNat 8,.ofNat 8,.ofNat 8]⟩) v) λw=>A.conv .i64 w λx=>A.ari .add .i64 u x λy=>K [.i y] s) λj=>A.cond q (A.shf .shr .u64 c .u64 8 λz=>A.ari .add .i64 g 8 λB=>j [.i z,.i B] f) (j [.i c,.i g] f)) λk=>A.cond o (A.shf .shr .u64 b .u64 16 λC=>A.ari .add .i64 e 16 λD=>k [.i C,.i D] d) (k [.i b,.i e] d)) λl=>A.cond m (A.shf .shr .u64 a .u64 32 λE=>l [.i E,.i 32] h) (l [.i a,.i 0] h)
def f153:R:=A.k5 ls λk l b=>A.call 117 [.i k,.i l,.i b] h λu m=>A.k4 u λv=>A.cd .neq v 0 (K [.i 0,.i 0,.i 0,.i 0,.i 0,.i 0,.i 1] m) (A.opt (inB 4 b) λb3=>A.opt (lR gl1 0 [(b,17)] 17) λw=>A.ucI .i64 w λb4 x=>A.ucI .i64 x λb5 y=>A.ucI .u8 y λb6 z=>A.ucI .i64 z λb7 B=>A.ucI .i64 B λb8 C=>A.ucI .i64 C λb9 D=>A.ucI .u8 D λc0 E=>A.ucI .i64 E λc1 F=>A.ucI .i64 F λc2 G=>A.ucI .u8 G λc3 H=>A.ucI .i64 H λc4 I=>A.ucI .i64 I λc5 J=>A.ucI .u8 J λc6 L=>A.ucI .i64 L λM N=>A.ucI .i64 N λO P=>A.k12 P λQ S=>A.loop (λT U n=>A.unI U λa V=>A.k15 V λc d e f g j=>A.cd .lss a 3 (A.opt (inB 3 a) λc7=>A.opt (dO [.i c,.i d,.i e,.i f,.i g,.i j] 0 [(a,2)] 1) λW=>A.k4 W λX=>A.ari .mul .i64 2 k λY=>A.ari .add .i64 X Y λZ=>A.opt (inB 3 a) λc8=>A.opt (putL [.i c,.i d,.i e,.i f,.i g,.i j] 0 [(a,2)] [.i Z]) λa0=>A.k15 a0 λo p q r s t=>A.opt (inB 3 a) λc9=>A.opt (dO [.i o,.i p,.i q,.i r,.i s,.i t] 1 [(a,2)] 1) λa1=>A.k4 a1 λa2=>A.ari .mul .i64 2 l λa3=>A.ari .add .i64 a2 a3 λa4=>A.opt (inB 3 a) λd0=>A.opt (putL [.i o,.i p,.i q,.i r,.i s,.i t] 1 [(a,2)] [.i a4]) λa5=>A.k15 a5 λa6 a7 a8 a9 b0 b1=>A.ari .add .i64 a 1 λb2=>T [.i b2,.i a6,.i a7,.i a8,.i a9,.i b0,.i b1] n) (K [.i c,.i d,.i e,.i f,.i g,.i j,.i 0] n)) [.i 0,.i 1,.i 1,.i M,.i O,.i Q,.i S] m)
def f154:R:=A.k14 ls λt u v f=>A.call 138 [.i t,.i u,.i v,.i f] h λw g=>A.k14 w λx y z j=>A.cd .neq j 0 (K [.i 0,.i 0,.i 0,.i 0,.i j] g) (A.call 153 [.i x,.i y,.i z] g λB e=>A.unI B λk C=>A.k15 C λl m n o p P=>A.ari .add .u8 f 1 λD=>A.ari .rem .u8 D 3 λq=>A.opt (inB 3 q) λQ=>A.opt (dO [.i k,.i l,.i m,.i n,.i o,.i p] 0 [(q,2)] 2) λE=>A.k10 E λa c=>A.ari .add .u8 f 2 λF=>A.ari .rem .u8 F 3 λr=>A.opt (inB 3 r) λS=>A.opt (dO [.i k,.i l,.i m,.i n,.i o,.i p] 0 [(r,2)] 2) λG=>A.k10 G λb d=>A.cd .lss b a (K [.i b,.i d,.i a,.i c,.i 0] e) (A.cd .eql b a (A.cmp .lss d c λH=>A.join (λI J=>A.k14 I λL M N O=>K [.i L,.i M,.i N,.i O,.i 0] J) λs=>A.cond H (s [.i b,.i d,.i a,.i c] e) (s [.i a,.i c,.i b,.i d] e)) (K [.i a,.i c,.i b,.i d,.i 0] e)))
def f155:R:=A.k4 ls λa=>A.cmp .lss a (-1) λc=>A.sel c (-1) a λb=>A.cmp .lss 1 b λd=>A.sel d 1 b λe=>K [.i e] h
def f156:R:=A.unV ls λc d=>A.k10 d λe f=>A.opt (lenS c) λg=>A.loop (λj k a=>A.k4 k λb=>A.cd .lss b g (A.ix 2 c b 2 a λl=>A.k12 l λm n=>A.eqs [(.i e,.i m),(.i f,.i n)] λo=>A.cond o (K [.i b] a) (A.ari .add .i64 b 1 λp=>j [.i p] a)) (K [.i (-1)] a)) [.i 0] h
def f157:R:=A.unV ls λa c=>A.k10 c λd e=>A.call 182 [.v a,.i d,.i e,.v (.func (.func 183) ⟨[]⟩ ⟨[]⟩)] h λf g=>A.unI f λj k=>A.k2 k λl=>K [.i j,.b l] g
def f158:R:=A.k18 ls λb f k l=>A.ari .add .i64 f 1 λm=>A.loop (λn o g=>A.k4 o λe=>A.cd .lss e k (A.join (λp q=>A.un0 p (A.ari .add .i64 e 1 λr=>n [.i r] q)) λj=>A.loop (λs t c=>A.k4 t λa=>A.cd .gtr a f (A.ix 2 b a 2 c λu=>A.k16 u λv w=>A.ari .sub .i64 a 1 λx=>A.ix 2 b x 2 c λy=>A.k16 y λz B=>A.callv l [.agg ⟨[.int .i64 v,.int .u8 w]⟩,.agg ⟨[.int .i64 z,.int .u8 B]⟩] [.leaf (.i .i64)] c λC d=>A.k4 C λD=>A.cd .lss D 0 (A.ari .sub .i64 a 1 λE=>A.ari .sub .i64 a 1 λF=>A.ix 2 b F 2 d λG=>A.k16 G λH I=>A.ix 2 b a 2 d λJ=>A.k16 J λL M=>A.opt (idS 2 b a) λN=>A.heap (.st N [.int .i64 H,.int .u8 I]) d λT O=>A.opt (idS 2 b E) λP=>A.heap (.st P [.int .i64 L,.int .u8 M]) O λU Q=>A.ari .sub .i64 a 1 λS=>s [.i S] Q) (j [] d)) (j [] c)) [.i e] g) (K [] g)) [.i m] h
def f166:R:=A.k10 ls λb c=>A.new (.cells [.int .i64 b,.int .i64 c] 2 true) h λa d=>A.chk (.func (.func 187) ⟨[]⟩ ⟨[.pointer (some ⟨a,0,none⟩)]⟩) (K [.v (.func (.func 187) ⟨[]⟩ ⟨[.pointer (some ⟨a,0,none⟩)]⟩)] d)
def f167:R:=A.k5 ls λa b c=>A.cd .eql a 1 (K [.i c] h) (K [.i b] h)
def f168:R:=A.k18 ls λb f k l=>A.ari .add .i64 f 1 λm=>A.loop (λn o g=>A.k4 o λe=>A.cd .lss e k (A.join (λp q=>A.un0 p (A.ari .add .i64 e 1 λr=>n [.i r] q)) λj=>A.loop (λs t c=>A.k4 t λa=>A.cd .gtr a f (A.ix 3 b a 3 c λu=>A.k17 u λv w x=>A.ari .sub .i64 a 1 λy=>A.ix 3 b y 3 c λz=>A.k17 z λB C D=>A.callv l [.agg ⟨[.int .i64 v,.int .u8 w,.int .u8 x]⟩,.agg ⟨[.int .i64 B,.int .u8 C,.int .u8 D]⟩] [.leaf (.i .i64)] c λE d=>A.k4 E λF=>A.cd .lss F 0 (A.ari .sub .i64 a 1 λG=>A.ari .sub .i64 a 1 λH=>A.ix 3 b H 3 d λI=>A.k17 I λJ L M=>A.ix 3 b a 3 d λN=>A.k17 N λO P Q=>A.opt (idS 3 b a) λS=>A.heap (.st S [.int .i64 J,.int .u8 L,.int .u8 M]) d λX T=>A.opt (idS 3 b G) λU=>A.heap (.st U [.int .i64 O,.int .u8 P,.int .u8 Q]) T λY V=>A.ari .sub .i64 a 1 λW=>s [.i W] V) (j [] d)) (j [] c)) [.i e] g) (K [] g)) [.i m] h
def f176:R:=A.k4 ls λa=>A.cmp .neq a a λc=>K [.b c] h
def f182:R:=A.k18 ls λd g j k=>A.opt (lenS d) λl=>A.loop (λp q c=>A.k10 q λa e=>A.cd .lss a e (A.ari .add .i64 a e λr=>A.conv .u64 r λs=>A.shf .shr .u64 s .u64 1 λt=>A.conv .i64 t λf=>A.ix 3 d f 3 c λu=>A.k17 u λv w x=>A.callv k [.agg ⟨[.int .i64 v,.int .u8 w,.int .u8 x]⟩,.agg ⟨[.int .i64 g,.int .u8 j]⟩] [.leaf (.i .i64)] c λy m=>A.k4 y λz=>A.cmp .lss z 0 λB=>A.join (λC D=>A.k10 C λE F=>p [.i E,.i F] D) λn=>A.cond B (A.ari .add .i64 f 1 λG=>n [.i G,.i e] m) (n [.i a,.i f] m)) (A.join (λH I=>A.unI H λJ L=>A.k2 L λM=>K [.i J,.b M] I) λo=>A.cd .lss a l (A.ix 3 d a 3 c λN=>A.k17 N λO P Q=>A.callv k [.agg ⟨[.int .i64 O,.int .u8 P,.int .u8 Q]⟩,.agg ⟨[.int .i64 g,.int .u8 j]⟩] [.leaf (.i .i64)] c λS T=>A.k4 S λU=>A.cmp .eql U 0 λV=>o [.i a,.b V] T) (o [.i a,.b false] c))) [.i 0,.i l] h
def f183:R:=A.k13 ls λa b c d e=>A.call 65 [.i a,.i b,.i c] h λf g=>A.k10 f λj k=>A.call 66 [.i j,.i k,.i d,.i e] g λl m=>A.k4 l λn=>K [.i n] m
def f187:R:=A.unV ls λl m=>A.k6 m λg=>A.peek (.lg cc 2 g) h λn=>A.k12 n λo p=>A.call 108 [.i o,.i p] h λq r=>A.k4 q λs=>A.loop (λt u j=>A.k4 u λc=>A.cd .lss c s (A.loop (λd v e=>A.k4 v λa=>A.cd .lss a 3 (A.peek (.lg cc 2 g) e λw=>A.k12 w λx y=>A.call 98 [.i x,.i y,.i c,.i a] e λz f=>A.k10 z λB C=>A.cd .eql C 0 (A.cd .gtr B c (A.callv l [.agg ⟨[.int .i64 c,.int .u8 a]⟩] [.leaf .b] f λD k=>A.k2 D λE=>A.join (λF G=>A.un0 F (A.ari .add .u8 a 1 λH=>d [.i H] G)) λI=>A.cond (!E) (K [] k) (I [] k)) (A.ari .add .u8 a 1 λJ=>d [.i J] f)) (A.ari .add .u8 a 1 λL=>d [.i L] f)) (A.ari .add .i64 c 1 λM=>t [.i M] e)) [.i 0] j) (K [] j)) [.i 0] r
end
inductive Pth where
 |e
 |o (p:Pth)
 |i (p:Pth)
inductive Tr(α:Type) where
 |leaf
 |node (v:α) (l r:Tr α)
def Pth.num:Pth->Nat
 | .e=>1
 | .o p=>2*p.num
 | .i p=>2*p.num+1
def pthF:Nat->Nat->Pth
 |0,_=>.e
 |f+1,n=>if Nat.ble n 1 then .e else if Nat.beq (n%2) 0 then .o (pthF f (n / 2))else .i (pthF f (n / 2))
def bq(n:Nat):Pth:=pthF (n+1) (n+1)
def Pth.get{α:Type}(d:α)(p:Pth):Tr α->α:=
 Pth.rec (motive:=λ_=>Tr α->α)
  (λt=>Tr.casesOn t d λv _ _=>v)
  (λ_ ih t=>Tr.casesOn t d λ_ l _=>ih l)
  (λ_ ih t=>Tr.casesOn t d λ_ _ r=>ih r) p
def Pth.setK{α:Type}(d:α)(p:Pth):Tr α->α->(Tr α->Bool)->Bool:=
 Pth.rec (motive:=λ_=>Tr α->α->(Tr α->Bool)->Bool)
  (λt x k=>Tr.casesOn t (k (.node x .leaf .leaf)) λ_ l r=>k (.node x l r))
  (λ_ ih t x k=>Tr.casesOn t (ih .leaf x λl=>k (.node d l .leaf)) λv l r=>ih l x λl=>k (.node v l r))
  (λ_ ih t x k=>Tr.casesOn t (ih .leaf x λr=>k (.node d .leaf r)) λv l r=>ih r x λr=>k (.node v l r)) p
def eqI:Int->Int->Bool
 | .ofNat a,.ofNat b=>Nat.beq a b
 | .negSucc a,.negSucc b=>Nat.beq a b
 |_,_=>false
def kmax:IntKind->Nat
 | .i8=>127
 | .i16=>32767
 | .i32=>2147483647
 | .i64=>9223372036854775807
 | .u8=>255
 | .u16=>65535
 | .u32=>4294967295
 | .u64=>18446744073709551615
def fits(k:IntKind):Int->Bool
 | .ofNat n=>Nat.ble n (kmax k)
 | .negSucc n=>k.signed&&Nat.ble n (kmax k)
abbrev Lin:=List Int
def dot:List Int->List Int->Int
 |c :: l,x :: ρ=>c*x+dot l ρ
 |_,_=>0
def Lin.eval(l:Lin)(ρ:List Int):Int:=
 match l with
 | []=>0
 |c :: l=>c+dot l ρ
structure Ctx where
 iv:List (Int×Int)
 cs:List (List Int×Int×Int)
inductive Opd where
 |t (p:Pth)
 |c (v:Value)
inductive Ins where
 |mv (x:Opd)
 |pick (c a b:Opd)
 |ar (op:BinOp) (x y:Opd)
 |cmp (op:BinOp) (x y:Opd)
 |notb (x:Opd)
 |conv (k:IntKind) (x:Opd)
 |fld (x:Opd) (off:Nat)
 |flda (x:Opd) (off n:Nat)
 |ext (x:Opd) (i:Nat)
 |fad (x:Opd) (off:Nat)
 |lload (s:Nat) (p:Pth) (a:Opd)
 |lloada (s:Nat) (p:Pth) (n:Nat) (a:Opd)
 |lbox (s:Nat) (p:Pth) (x:Opd)
 |lnew (s:Nat) (p:Pth) (vs:List Value)
 |bld (z:List Value) (ps:List (Nat×Nat×Opd))
 |lstore (s:Nat) (p:Pth) (n:Nat) (a x:Opd)
 |call (f:FuncId) (args:List Opd)
 |gen
abbrev TV:=Tr Value
abbrev TL:=Tr (Option (List Value))
def rd(tm:TV):Opd->Value
 | .t p=>p.get undef tm
 | .c v=>v
structure XCfg where
 C:Cfg
 kf:FuncId->List Value->List HObj->Option (Value×List HObj)
abbrev KS:=Ctx->TV->TL->List HObj->Bool
structure XS where
 call:Ctx->FuncId->List Value->List HObj->(Ctx->Value->List HObj->Bool)->Bool
 yield:Ctx->Nat->List Value->List HObj->(Ctx->Value->List HObj->Bool)->Bool
 ex:Ctx->List Nat->Nat->Code->TV->TL->List HObj->KS->(Exit->KS)->Bool
def xq:∀(f n:Nat),n<=f->1<=n->(pthF f n).num=n
 |0,n,h,h1=>by omega
 |f+1,n,h,h1=>by
  unfold pthF
  by_cases hn:n<=1
  ·have:n=1:=by omega
   subst this
   rfl
  ·have h2:Nat.ble n 1=false:=by
    rw[←qaU,qbb];exact hn
   rw[h2]
   have ih:=xq f (n / 2) (by omega) (by omega)
   by_cases hm:n%2=0
   ·simp[hm,Pth.num,ih];omega
   ·simp[hm,Pth.num,ih];omega
def qa(n:Nat):(bq n).num=n+1:=xq _ _ (qan _) (by omega)
def kL{a b:Nat}(h:bq a=bq b):a=b:=by
 have:=congrArg Pth.num h
 rw[qa,qa]at this
 omega
def Pth.set{α:Type}(d:α):Pth->Tr α->α->Tr α
 | .e,.leaf,x=>.node x .leaf .leaf
 | .e,.node _ l r,x=>.node x l r
 | .o p,.leaf,x=>.node d (Pth.set d p .leaf x) .leaf
 | .o p,.node v l r,x=>.node v (Pth.set d p l x) r
 | .i p,.leaf,x=>.node d .leaf (Pth.set d p .leaf x)
 | .i p,.node v l r,x=>.node v l (Pth.set d p r x)
def Pth.setK_eq{α:Type}(d:α):∀(p:Pth) (t:Tr α) (x:α) (k:Tr α->Bool),p.setK d t x k=k (p.set d t x)
 | .e,t,x,k=>by cases t<;>rfl
 | .o p,t,x,k=>by
  cases t with
  |leaf=>exact Pth.setK_eq d p .leaf x _
  |node v l r=>exact Pth.setK_eq d p l x _
 | .i p,t,x,k=>by
  cases t with
  |leaf=>exact Pth.setK_eq d p .leaf x _
  |node v l r=>exact Pth.setK_eq d p r x _
def Pth.get_leaf{α:Type}(d:α)(p:Pth):p.get d .leaf=d:=by cases p<;>rfl
def Pth.get_set{α:Type}(d:α):∀(p:Pth) (t:Tr α) (x:α),p.get d (p.set d t x)=x
 | .e,t,x=>by cases t<;>rfl
 | .o p,t,x=>by
  cases t with
  |leaf=>exact Pth.get_set d p .leaf x
  |node v l r=>exact Pth.get_set d p l x
 | .i p,t,x=>by
  cases t with
  |leaf=>exact Pth.get_set d p .leaf x
  |node v l r=>exact Pth.get_set d p r x
def Pth.get_set_ne{α:Type}(d:α):∀(p q:Pth) (t:Tr α) (x:α),q≠p->q.get d (p.set d t x)=q.get d t
 | .e,q,t,x,h=>by cases q<;>cases t<;>first|rfl|exact absurd rfl h|exact Pth.get_leaf d _
 | .o p,q,t,x,h=>by
  cases q with
  |e=>cases t<;>rfl
  |o q=>
   have hq:q≠p:=λe=>h (e▸rfl)
   cases t with
   |leaf=>exact(Pth.get_set_ne d p q .leaf x hq).trans (Pth.get_leaf d q)
   |node v l r=>exact Pth.get_set_ne d p q l x hq
  |i q=>
   cases t with
   |leaf=>exact Pth.get_leaf d q
   |node v l r=>rfl
 | .i p,q,t,x,h=>by
  cases q with
  |e=>cases t<;>rfl
  |i q=>
   have hq:q≠p:=λe=>h (e▸rfl)
   cases t with
   |leaf=>exact(Pth.get_set_ne d p q .leaf x hq).trans (Pth.get_leaf d q)
   |node v l r=>exact Pth.get_set_ne d p q r x hq
  |o q=>
   cases t with
   |leaf=>exact Pth.get_leaf d q
   |node v l r=>rfl
def Tr.map{α:Type}(f:α->α):Tr α->Tr α
 | .leaf=>.leaf
 | .node v l r=>.node (f v) (l.map f) (r.map f)
def eqI_iff{a b:Int}:eqI a b=true↔a=b:=by
 cases a<;>cases b<;>simp[eqI]<;>omega
def fits_iff{k:IntKind}{c:Int}(h:fits k c=true):(k.signed=true->-(kmax k:Int) - 1<=c)/\(k.signed=false->0<=c)/\c<=kmax k:=by
 cases c with
 |ofNat n=>
  simp only[fits,qbb]at h
  refine⟨λ_=>?_,λ_=>?_,?_⟩<;>simp<;>omega
 |negSucc n=>
  simp only[fits,qaa,qbb]at h
  refine⟨λ_=>?_,λhs=>?_,?_⟩
  ·omega
  ·rw[h.1]at hs;cases hs
  ·omega
def tj{k:IntKind}{c:Int}(h:fits k c=true):k.wrap c=c:=by
 obtain⟨h1,h2,h3⟩:=fits_iff h
 cases k<;>simp only[IntKind.signed,kmax,forall_const,reduceCtorEq,false_implies]at h1 h2 h3
 ·exact Go.IntWalk.i8_in c (by omega)
 ·exact Go.IntWalk.i16_in c (by omega)
 ·exact Go.IntWalk.i32_in c (by omega)
 ·exact Go.IntWalk.i64_in c (by omega)
 ·exact Go.IntWalk.u8_in c (by omega)
 ·exact Go.IntWalk.u16_in c (by omega)
 ·exact Go.IntWalk.u32_in c (by omega)
 ·exact Go.IntWalk.u64_in c (by omega)
section
variable [Val] {ρ:List Int}
def pq(op:BinOp)(x y:Int):Option Bool:=
 match op with
 | .eql=>some (x==y)
 | .neq=>some (x != y)
 | .lss=>some (decide (x<y))
 | .leq=>some (decide (x<=y))
 | .gtr=>some (decide (x > y))
 | .geq=>some (decide (x ≥ y))
 |_=>none
def qt(op:BinOp)(k:IntKind)(x y n:Int):Prop:=∀(P:Program) (t:TypeId) (w:World),(binOp op t (.int k x) (.int k y)).run P w = .ok (.int k n) w
def bits_one{k:IntKind}(x:Int):((BitVec.ofInt k.bits x &&& BitVec.ofInt k.bits 1).toNat:Int)=x%2:=by
 have hb:k.bits=k.bits - 1+1:=by cases k<;>rfl
 generalize k.bits - 1=n at hb
 rw[hb]
 have h1:(BitVec.ofInt (n+1) 1).toNat=1:=by
  simp
 rw[BitVec.toNat_and,h1,Nat.and_one_is_mod,BitVec.toNat_ofInt]
 have hp:(0:Int)<2 ^ (n+1):=Int.pow_pos (by omega)
 have e:(2:Int) ^ (n+1)=2*2 ^ n:=by rw[Int.pow_succ];omega
 have h0:0<=x%(2 ^ (n+1):Int):=Int.emod_nonneg _ (by omega)
 have:((x%((2 ^ (n+1):Nat):Int)).toNat%2:Nat)=((x%(2 ^ (n+1):Int))%2:Int):=by
  have e2:((2 ^ (n+1):Nat):Int)=(2 ^ (n+1):Int):=by simp
  rw[e2]
  omega
 rw[this,e,Int.emod_emod_of_dvd _ ⟨2 ^ n,rfl⟩]
def oy{k:IntKind}{x n:Int}(hn:x%2=n):qt .and k x 1 n:=by
 intro P t w
 have hw:k.wrap n=n:=tj (by
  have h0:0<=n:=by omega
  have h1:n<=1:=by omega
  obtain⟨m,rfl⟩ : ∃m:Nat,n=m:=⟨n.toNat,by omega⟩
  show Nat.ble m (kmax k)=true
  rw[qbb]
  cases k<;>simp only[kmax]<;>omega)
 have hb:=bits_one (k:=k) x
 simp only[binOp,ne_eq,not_true_eq_false,if_false,Op.intBits]
 show Result.ok (Value.int k (k.wrap _)) w=_
 rw[hb,hn,hw]
end
section
variable [Val] {ρ:List Int}
structure Rep(pts:List Nat)(nt:Nat)(tm:TV)(lc:TL)(σ:St):Prop where
 len:σ.tmps.length=nt
 val:∀(i:Nat) v,σ.tmps[i]?=some v->(bq i).get undef tm=v
 llen:pts≠[]->σ.loc.length=nt
 loc:∀(i:Nat) x,σ.loc[i]?=some x->(bq i).get none lc=x
def ValStep(C:Cfg)(pts:List Nat)(σ:St)(o:Oper)(v:Value):Prop:=
 (∃e,aq C pts (oval σ.tmps) o=some e/\aO σ e=some (σ,v))∨iK C σ.tmps o v
def ValStep.val{C:Cfg}{pts:List Nat}{σ:St}{o:Oper}{v:Value}(h:aq C pts (oval σ.tmps) o=some (.val v)):ValStep C pts σ o v:=.inl ⟨_,h,rfl⟩
def oL(k:IntKind)(x:Int):k.wrap (x%(2 ^ k.bits:Int))=k.wrap x:=by
 unfold IntKind.wrap
 rw[Int.emod_emod_of_dvd _ (Int.dvd_refl _)]
def vE{k:IntKind}(m n:Nat):qt .and k m n (k.wrap (Nat.land m n:Nat)):=by
 intro P t w
 simp only[binOp,ne_eq,not_true_eq_false,if_false,Op.intBits]
 show Result.ok (Value.int k (k.wrap _)) w=_
 rw[←oL k (Nat.land m n:Nat)]
 congr 3
 have h2:∀x:Nat,(BitVec.ofInt k.bits (x:Int)).toNat=x%2 ^ k.bits:=λx=>by
  rw[BitVec.toNat_ofInt]
  have:((x:Int)%((2 ^ k.bits:Nat):Int))=((x%2 ^ k.bits:Nat):Int):=by simp
  rw[this,qcO]
 have h3:(BitVec.ofInt k.bits (m:Int) &&& BitVec.ofInt k.bits (n:Int)).toNat=(m &&& n)%2 ^ k.bits:=by
  rw[BitVec.toNat_and,h2,h2,Nat.and_mod_two_pow]
 rw[h3]
 simp
def vH{k:IntKind}(m n:Nat):qt .xor k m n (k.wrap (Nat.xor m n:Nat)):=by
 intro P t w
 simp only[binOp,ne_eq,not_true_eq_false,if_false,Op.intBits]
 show Result.ok (Value.int k (k.wrap _)) w=_
 rw[←oL k (Nat.xor m n:Nat)]
 congr 3
 have h2:∀x:Nat,(BitVec.ofInt k.bits (x:Int)).toNat=x%2 ^ k.bits:=λx=>by
  rw[BitVec.toNat_ofInt]
  have:((x:Int)%((2 ^ k.bits:Nat):Int))=((x%2 ^ k.bits:Nat):Int):=by simp
  rw[this,qcO]
 have h3:(BitVec.ofInt k.bits (m:Int) ^^^ BitVec.ofInt k.bits (n:Int)).toNat=(m ^^^ n)%2 ^ k.bits:=by
  rw[BitVec.toNat_xor,h2,h2,Nat.xor_mod_two_pow]
 rw[h3]
 simp
def yQ{k:IntKind}(m n:Nat):qt .or k m n (k.wrap (Nat.lor m n:Nat)):=by
 intro P t w
 simp only[binOp,ne_eq,not_true_eq_false,if_false,Op.intBits]
 show Result.ok (Value.int k (k.wrap _)) w=_
 rw[←oL k (Nat.lor m n:Nat)]
 congr 3
 have h2:∀x:Nat,(BitVec.ofInt k.bits (x:Int)).toNat=x%2 ^ k.bits:=λx=>by
  rw[BitVec.toNat_ofInt]
  have:((x:Int)%((2 ^ k.bits:Nat):Int))=((x%2 ^ k.bits:Nat):Int):=by simp
  rw[this,qcO]
 have h3:(BitVec.ofInt k.bits (m:Int) ||| BitVec.ofInt k.bits (n:Int)).toNat=(m ||| n)%2 ^ k.bits:=by
  rw[BitVec.toNat_or,h2,h2,Nat.or_mod_two_pow]
 rw[h3]
 simp
end
section
variable {R:Type}
def setK_eq{α:Type}(x:α):∀(l:List α) (i:Nat) (k:List α->R),setK x l i k=k (l.set i x)
 | [],_,_=>rfl
 |_ :: _,0,_=>rfl
 |a :: l,i+1,k=>setK_eq x l i λl=>k (a :: l)
def ve(n:Nat)(K:Nat->R):ri n K=K n:=by cases n<;>rfl
end
def SL.good:SL->Prop
 | .v x=>aP x=true
 |_=>True
def S0.good(x:S0):Prop:=∀l∈x.cells,l.good
def SV.gd:SV->Prop
 | .st x=>x.good
 | .tup xs=>(∀x∈xs,x.good)/\2<=xs.length
 | .no=>False
 |_=>True
def dV{x:Value}:aP x=true↔noLoc x=true/\bo x=true/\bc x=true/\aI x=false:=by
 unfold aP
 cases noLoc x<;>cases bo x<;>cases bc x<;>cases aI x<;>simp
def pE{x:Value}(h:aP x=true):aV x=true:=by
 obtain⟨h1,_,h2,_⟩:=dV.1 h
 simp[aV,h1,h2]
def vf{x:Value}(h:aP x=true):x.cells = #[x]:=ea (dV.1 h).2.2.1
def SL.val_good{l:SL}(h:l.good):aP l.val=true:=by
 cases l with
 |v x=>exact h
 |_=>rfl
def S0.cells_val{x:S0}(h:x.good):x.val.cells=⟨x.cells.map SL.val⟩:=by
 cases x with
 |leaf l=>exact vf (SL.val_good (h l (by simp[S0.cells])))
 |agg cs=>rfl
def S0.noLoc{x:S0}(h:x.good):noLoc x.val=true:=by
 cases x with
 |leaf l=>exact(dV.1 (SL.val_good (h l (by simp[S0.cells])))).1
 |agg cs=>
  simp only[S0.val,Am.noLoc,qab,qaM]
  rintro _ ⟨l,hl,rfl⟩
  exact(dV.1 (SL.val_good (h l hl))).2.1
def S0.not_tuple{x:S0}(h:x.good):aI x.val=false:=by
 cases x with
 |leaf l=>exact(dV.1 (SL.val_good (h l (by simp[S0.cells])))).2.2.2
 |agg cs=>rfl
def S0.cells_ok{x:S0}(h:x.good):x.val.cells.toList.all aV=true:=by
 rw[S0.cells_val h]
 simp only[qab,qaM]
 rintro _ ⟨l,hl,rfl⟩
 exact pE (SL.val_good (h l hl))
def cells_ok'{cs:List SL}(h:∀l∈cs,l.good):(cs.map SL.val).all aV=true:=by
 simp only[qab,qaM]
 rintro _ ⟨l,hl,rfl⟩
 exact pE (SL.val_good (h l hl))
def vI{v:Value}(h:scalar v=true):aP v=true:=by
 cases v<;>first|rfl|(simp[scalar]at h;done)|skip
 case pointer a=>cases a<;>first|rfl|simp[scalar]at h
 case slice a l c=>
  cases a with
  |none=>rfl
  |some a=>cases l<;>cases c<;>simp[scalar]at h
def rY(v:Value):(slOf v).val=v:=by cases v<;>rfl
def oD{v:Value}(h:scalar v=true):(slOf v).good:=by
 cases v<;>first|trivial|exact vI h
def rU{v:Value}{x:S0}(h:s0Of v=some x):x.val=v/\x.good/\fc v=true:=by
 unfold s0Of at h
 split at h
 next cs=>
  split at h
  next ha=>
   cases h
   refine⟨?_,?_,ha⟩
   ·simp only[S0.val,qdh,Value.agg.injEq]
    have:(SL.val ∘ slOf)=id:=funext rY
    rw[this,List.map_id]
   ·intro l hl
    simp only[S0.cells,qaM]at hl
    obtain⟨v,hv,rfl⟩:=hl
    exact oD (qab.1 ha v hv)
  ·cases h
 next hne=>
  split at h
  next hs=>
   cases h
   refine⟨rY v,?_,?_⟩
   ·intro l hl
    simp only[S0.cells,qau]at hl
    subst hl
    exact oD hs
   ·cases v<;>first|exact hs|exact absurd rfl (hne _)
  ·cases h
def dw{a b:IntKind}(h:dy a b=true):a=b:=by
 cases a<;>cases b<;>first|rfl|cases h
def dL(a:IntKind):dy a a=true:=by cases a<;>rfl
section
variable [Val] [Kno]
def Told(sks:List SK)(ls:List Lf)(xs:List S0):Prop:=bJ xs sks=true/\bK xs=ls/\∀x∈xs,x.good
def aw(C:Cfg)(Sg:FuncId->Option Sig)(g:FuncId)(ls:List Lf)(H:List HObj)(rs:List Lf)(H':List HObj):Prop:=
 ∃sg xs ys,Sg g=some sg/\Told sg.ps ls xs/\Told sg.rs rs ys/\iD C g (ah xs) H (eV (ah ys)) H'
def ss(C:Cfg)(v:Value)(args:List Value)(hs:List SK)(H:List HObj)(rs:List Lf)(H':List HObj):Prop:=
 ∃ys,Told hs rs ys/\((∃g first cap,v = .func (.func g) first cap/\iD C g (first.toList++args++cap.toList) H (eV (ah ys)) H')∨
  (∃l,v = .func (.yield l) #[] #[]/\fF C l args H (eV (ah ys)) H'))
def oP(nt:Nat):List (Nat×SK)->List Value->List Value->List Value
 |(t,_) :: l,v :: vs,tm=>oP nt l vs (tm.set t v)
 |_,_,tm=>tm
def lpOf(s:Site)(κ:Nat)(vals:List Value):ALoop:=
 { state:=.ready,pending:=none,fn:=κ,tmps:=oP s.nt s.caps vals (List.replicate s.nt poison),params:=s.params.map (·.1),assign:=s.assign.erase pS,body:=s.body.erase pS }
def gp:Lf->Lf->Bool
 | .i a,.i b=>a==b
 | .b a,.b b=>a==b
 |_,_=>false
def cb(l:List (Lf×Lf)):Bool:=l.all λp=>gp p.1 p.2
def ShRun(op:BinOp)(k:IntKind)(x:Int)(k':IntKind)(y n:Int):Prop:=∀(P:Program) (t:TypeId) (w:World),(binOp op t (.int k x) (.int k' y)).run P w = .ok (.int k n) w
structure AlgOk{R HT:Type}(A:Alg R HT)(C:Cfg)(Sg:FuncId->Option Sig)(T:Nat->Site)(holds:R->Prop)(abs:HT->List HObj):Prop where
 fail:¬holds A.fail
 cond:∀b x y,holds (A.cond b x y)->(b=true/\holds x)∨(b=false/\holds y)
 ari:∀op k a b K,holds (A.ari op k a b K)->∃n,qt op k a b n/\holds (K n)
 shf:∀op k a k' b K,holds (A.shf op k a k' b K)->∃n,ShRun op k a k' b n/\holds (K n)
 cmp:∀op a b K,holds (A.cmp op a b K)->∃t,pq op a b=some t/\holds (K t)
 eqs:∀l K,holds (A.eqs l K)->holds (K (cb l))
 conv:∀k a K,holds (A.conv k a K)->holds (K (k.wrap a))
 sel:∀t a b K,holds (A.sel t a b K)->holds (K (if t then a else b))
 opt:∀ {α:Type} (o:Option α) K,holds (A.opt o K)->∃x,o=some x/\holds (K x)
 chk:∀v K,holds (A.chk v K)->aP v=true/\holds K
 unI:∀ls K,holds (A.unI ls K)->∃n r,ls = .i n :: r/\holds (K n r)
 unB:∀ls K,holds (A.unB ls K)->∃t r,ls = .b t :: r/\holds (K t r)
 unV:∀ls K,holds (A.unV ls K)->∃x r,ls = .v x :: r/\holds (K x r)
 un0:∀ls K,holds (A.un0 ls K)->ls=[]/\holds K
 ucI:∀k ls K,holds (A.ucI k ls K)->∃n r,ls = .int k n :: r/\holds (K n r)
 ucB:∀ls K,holds (A.ucB ls K)->∃t r,ls = .bool t :: r/\holds (K t r)
 ucV:∀ls K,holds (A.ucV ls K)->∃x r,ls=x :: r/\holds (K x r)
 uc0:∀ls K,holds (A.uc0 ls K)->ls=[]/\holds K
 peek:∀f h K,holds (A.peek f h K)->∃cs,f.run (λi=>(abs h)[i]?)=some cs/\holds (K cs)
 heap:∀f h K,holds (A.heap f h K)->∃acts cs h',f.run (λi=>(abs h)[i]?) (abs h).length=some (acts,cs)/\abs h'=gh (abs h) acts/\holds (K cs h')
 new:∀o h K,holds (A.new o h K)->∃h',abs h'=abs h++[o]/\holds (K (abs h).length h')
 call:∀g ls h K,holds (A.call g ls h K)->∃rs h',aw C Sg g ls (abs h) rs (abs h')/\holds (K rs h')
 callv:∀v args hs h K,holds (A.callv v args hs h K)->∃rs h',ss C v args hs (abs h) rs (abs h')/\holds (K rs h')
 join:∀b m,holds (A.join b m)->holds (m b)
 loop:∀F ls h,holds (A.loop F ls h)->∃it:Nat->List Lf->HT->R,(∀ls h,¬holds (it 0 ls h))/\(∀n ls h,it (n+1) ls h=F (it n) ls h)/\∃n,holds (it n ls h)
 rfun:∀κ v vals h K,holds (A.rfun κ v vals h K)->∃g first cap r H1 lp h2,v = .func (.func g) first cap/\
  iD C g (first.toList++[.func (.yield (abs h).length) #[] #[]]++cap.toList) (abs h++[.loop (lpOf (T κ) κ vals)]) r H1/\
  dW H1 (abs h).length=some lp/\lp.state≠.busy/\abs h2=H1.set (abs h).length (.loop { lp with state:=.exhausted })/\holds (K lp.pending h2)
 pend:∀pd kn kr ks,holds (A.pend pd kn kr ks)->(pd=none/\holds kn)∨(pd=some .ret/\holds kr)∨∃id x,pd=some (.exit id)/\(id,x)∈ks/\holds x
 lp1:∀l h K,holds (A.lp1 l h K)->∃lp h',dW (abs h) l=some lp/\lp.state = .ready/\abs h'=(abs h).set l (.loop { lp with state:=.busy })/\holds (K h')
 lp2:∀l j h K,holds (A.lp2 l j h K)->∃lp h',dW (abs h) l=some lp/\abs h'=(abs h).set l (.loop { lp with state:=if j.isNone then .ready else .done,pending:=j })/\holds (K h')
def SV.ok(tmps:List Value)(i:Nat)(s:SV):Prop:=
 match s with
 | .no=>True
 |s=>tmps[i]?=some s.val/\s.gd
def LR.ok(loc:List (Option (List Value)))(i:Nat):LR->Prop
 | .unk=>True
 | .nil=>loc[i]?=some none
 | .any n=>∃vs,loc[i]?=some (some vs)/\vs.length=n
 | .row cs=>loc[i]?=some (some (cs.map SL.val))/\∀c∈cs,c.good
structure Rp(ev:Env)(σ:St):Prop where
 len:ev.tm.length=σ.tmps.length
 val:∀(i:Nat) s,ev.tm[i]?=some s->s.ok σ.tmps i
 llen:ev.lc.length=σ.loc.length
 row:∀(i:Nat) r,ev.lc[i]?=some r->r.ok σ.loc i
def SV.ok_gd{tmps:List Value}{i:Nat}{s:SV}(h:s.gd)(hv:tmps[i]?=some s.val):s.ok tmps i:=by
 cases s<;>first|trivial|exact⟨hv,h⟩
def Rp.at{ev:Env}{σ:St}(h:Rp ev σ){t:Nat}{s:SV}(hs:ev.tm.getD t .no=s)(hn:s≠.no):σ.tmps[t]?=some s.val/\s.gd:=by
 rw[List.getD_eq_getElem?_getD]at hs
 cases he:ev.tm[t]? with
 |none=>rw[he]at hs;exact absurd hs.symm hn
 |some x=>
  rw[he]at hs
  simp only[qbs]at hs
  subst hs
  have:=h.val t x he
  cases x<;>first|exact this|exact absurd rfl hn
def Rp.sval{ev:Env}{σ:St}(h:Rp ev σ){x:Operand}{s:SV}(hs:sval ev x=s)(hn:s≠.no):oval σ.tmps x=s.val/\s.gd:=by
 cases x with
 |tmp t=>
  obtain⟨h1,h2⟩:=h.at (t:=t) hs hn
  exact⟨by simp[oval,List.getD_eq_getElem?_getD,h1],h2⟩
 |const v=>
  simp only[Am.sval]at hs
  cases hv:s0Of v with
  |none=>rw[hv]at hs;exact absurd hs.symm hn
  |some x=>
   rw[hv]at hs
   subst hs
   obtain⟨h1,h2,h3⟩:=rU hv
   refine⟨?_,h2⟩
   have:flat v=true:=by cases v<;>first|exact h3|(simp[fc,scalar]at h3)
   simp[oval,this,SV.val,h1]
 |global g=>
  subst hs
  simp only[Am.sval,oval]
  cases hb:Nat.blt g gB with
  |true=>exact⟨rfl,trivial⟩
  |false=>exact absurd (by simp only[Am.sval,hb]) hn
 |func f=>
  subst hs
  refine⟨rfl,λl hl=>?_⟩
  simp only[S0.cells,qau]at hl
  subst hl
  rfl
def Rp.sval0{ev:Env}{σ:St}(h:Rp ev σ){x:Operand}{s:S0}(hs:sval0 ev x=some s):oval σ.tmps x=s.val/\s.good:=by
 unfold Am.sval0 at hs
 split at hs
 next y e=>
  cases hs
  exact h.sval e (by simp)
 ·cases hs
def Rp.svals{ev:Env}{σ:St}(h:Rp ev σ):∀ {l:List Operand} {xs:List S0},svals ev l=some xs->l.map (oval σ.tmps)=ah xs/\∀x∈xs,x.good
 | [],xs,hs=>by cases hs;exact⟨rfl,by simp⟩
 |o :: l,xs,hs=>by
  simp only[Am.svals]at hs
  split at hs
  next x ys e1 e2=>
   cases hs
   obtain⟨h1,h2⟩:=h.sval0 e1
   obtain⟨h3,h4⟩:=h.svals e2
   refine⟨by simp[ah,h1];exact h3,λy hy=>?_⟩
   rcases qak.1 hy with rfl|hy
   ·exact h2
   ·exact h4 y hy
  ·cases hs
def Rp.put{ev:Env}{σ:St}(h:Rp ev σ)(d:Nat){s:SV}(hs:s.gd):Rp ⟨ev.tm.set d s,ev.lc⟩ (σ.put (some d) s.val):=by
 refine⟨by simp[St.put,h.len],λi x hx=>?_,h.llen,h.row⟩
 simp only[qaV]at hx
 split at hx
 next hi=>
  subst hi
  split at hx
  next hlt=>
   cases hx
   refine SV.ok_gd hs ?_
   simp only[St.put,List.getElem?_set_self']
   rw[qar (by rw[←h.len];exact hlt)]
   rfl
  ·cases hx
 next hi=>
  have:=h.val i x hx
  cases x<;>first|trivial|exact⟨by simp only[St.put];rw[qai hi];exact this.1,this.2⟩
def Rp.heap{ev:Env}{σ:St}(h:Rp ev σ)(H:List HObj):Rp ev { σ with heap:=H }:=⟨h.len,h.val,h.llen,h.row⟩
structure Fr(ws ks rs:List Nat)(σ σ':St):Prop where
 tlen:σ'.tmps.length=σ.tmps.length
 llen:σ'.loc.length=σ.loc.length
 tm:∀(i:Nat) v,σ.tmps[i]?=some v->i∉ws->noLoc v=true->σ'.tmps[i]?=some v
 tp:∀(i s off:Nat),σ.tmps[i]?=some (.pointer (some ⟨s,off,some 0⟩))->i∉ws->s∉ks->σ'.tmps[i]?=some (.pointer (some ⟨s,off,some 0⟩))
 row:∀(s:Nat) x,σ.loc[s]?=some x->s∉rs->σ'.loc[s]?=some x
 rlen:∀(s:Nat) vs,σ.loc[s]?=some (some vs)->s∉ks->∃vs',σ'.loc[s]?=some (some vs')/\vs'.length=vs.length
def Fr.refl(ws ks rs:List Nat)(σ:St):Fr ws ks rs σ σ:=⟨rfl,rfl,λ_ _ h _ _=>h,λ_ _ _ h _ _=>h,λ_ _ h _=>h,λ_ vs h _=>⟨vs,h,rfl⟩⟩
def Fr.trans{ws ks rs:List Nat}{σ σ₁ σ':St}(h:Fr ws ks rs σ σ₁)(h':Fr ws ks rs σ₁ σ'):Fr ws ks rs σ σ':=
 ⟨h'.tlen.trans h.tlen,h'.llen.trans h.llen,λi v a b c=>h'.tm i v (h.tm i v a b c) b c,λi s off a b c=>h'.tp i s off (h.tp i s off a b c) b c,
  λs x a b=>h'.row s x (h.row s x a b) b,λs vs a b=>let ⟨v1,c1,d1⟩:=h.rlen s vs a b;let ⟨v2,c2,d2⟩:=h'.rlen s v1 c1 b;⟨v2,c2,d2.trans d1⟩⟩
def Fr.mono{ws ks rs ws' ks' rs':List Nat}{σ σ':St}(h:Fr ws ks rs σ σ')(h1:∀i∈ws,i∈ws')(h2:∀i∈ks,i∈ks')(h3:∀i∈rs,i∈rs'):Fr ws' ks' rs' σ σ':=
 ⟨h.tlen,h.llen,λi v a b c=>h.tm i v a (λhi=>b (h1 i hi)) c,λi s off a b c=>h.tp i s off a (λhi=>b (h1 i hi)) (λhi=>c (h2 s hi)),
  λs x a b=>h.row s x a (λhi=>b (h3 s hi)),λs vs a b=>h.rlen s vs a (λhi=>b (h2 s hi))⟩
def Fr.heap{ws ks rs:List Nat}{σ σ':St}(h:Fr ws ks rs σ σ')(H:List HObj):Fr ws ks rs σ { σ' with heap:=H }:=⟨h.tlen,h.llen,h.tm,h.tp,h.row,h.rlen⟩
def Fr.put{σ:St}(dst:Option Tmp)(v:Value)(ks rs:List Nat):Fr dst.toList ks rs σ (σ.put dst v):=by
 cases dst with
 |none=>exact .refl _ _ _ _
 |some d=>
  refine⟨by simp[St.put],rfl,λi x h hi _=>?_,λi s off h hi _=>?_,λ_ _ h _=>h,λ_ vs h _=>⟨vs,h,rfl⟩⟩<;>
  ·simp only[Option.toList_some,qau]at hi
   simp only[St.put]
   rw[qai (λe=>hi e.symm)]
   exact h
end
inductive HO where
 |o (x:HObj)
 |lp (κ:Nat) (st:LoopState) (pd:Option Code) (vs:List Value)
abbrev HL:=List HO
inductive CK where
 |f (g:FuncId)
 |y (κ:Nat) (vs:List Value) (l:Nat)
def absO(T:Nat->Site):HO->HObj
 | .o x=>x
 | .lp κ st pd vs=>.loop { lpOf (T κ) κ vs with state:=st,pending:=pd }
def absH(T:Nat->Site)(h:HL):List HObj:=h.map (absO T)
namespace Sx
inductive HOT where
 |o (x:HObj)
 |lp (κ:Nat) (st:LoopState) (pd:Option Code) (vs:List Value)
 |t (n e:Nat) (rw:Bool) (c:Tr Value)
def nilV:Value:=.bool false
def bH(c:Tr Value)(n:Nat):List Value:=(List.range n).map λi=>(bq i).get nilV c
def HOT.ho:HOT->HO
 | .o x=>.o x
 | .lp κ st pd vs=>.lp κ st pd vs
 | .t n e rw c=>.o (.cells (bH c n) e rw)
structure HTr where
 n:Nat
 t:Tr HOT
def noO:HOT:=.o .dead
def HTr.empty:HTr:=⟨0,.leaf⟩
def HTr.at(h:HTr)(i:Nat):Option HOT:=match Nat.blt i h.n with
 |true=>some ((bq i).get noO h.t)
 |false=>none
def toL(h:HTr):HL:=(List.range h.n).map λi=>((bq i).get noO h.t).ho
def dE(h:HTr):(toL h).length=h.n:=by simp[toL]
def jc(h:HTr)(i:Nat):(toL h)[i]?=(h.at i).map HOT.ho:=by
 unfold toL HTr.at
 rw[qat]
 cases e:Nat.blt i h.n with
 |true=>
  rw[qaK]at e
  rw[qbX e];rfl
 |false=>
  have:h.n<=i:=by
   rcases qaB i h.n with h1|h1
   ·rw[←qaK,e]at h1;cases h1
   ·exact h1
  rw[qah (by simpa using this)];rfl
def HTr.put(h:HTr)(i:Nat)(o:HOT):HTr:=match Nat.blt i h.n with
 |true=>⟨h.n,(bq i).set noO h.t o⟩
 |false=>h
def HTr.push(h:HTr)(o:HOT):HTr:=⟨h.n+1,(bq h.n).set noO h.t o⟩
def gZ(h:HTr)(i:Nat)(o:HOT):toL (h.put i o)=(toL h).set i o.ho:=by
 apply qaR
 intro j
 unfold HTr.put
 cases e:Nat.blt i h.n with
 |true=>
  rw[qaK]at e
  simp only
  rw[jc]
  by_cases hj:i=j
  ·subst hj
   rw[qaD (by rw[dE];exact e)]
   unfold HTr.at
   simp only[(qaK▸e:Nat.blt i h.n=true)]
   rw[Pth.get_set];rfl
  ·rw[qai hj,jc]
   unfold HTr.at
   simp only
   rw[Pth.get_set_ne _ _ _ _ _ (λh=>hj (kL h).symm)]
 |false=>
  simp only
  have:h.n<=i:=by
   rcases qaB i h.n with h1|h1
   ·rw[←qaK,e]at h1;cases h1
   ·exact h1
  rw[List.set_eq_of_length_le (by rw[dE];exact this)]
def gf(h:HTr)(o:HOT):toL (h.push o)=toL h++[o.ho]:=by
 apply qaR
 intro j
 rw[jc]
 unfold HTr.push HTr.at
 simp only
 by_cases h1:j<h.n
 ·rw[qaf (by rw[dE];exact h1),jc]
  unfold HTr.at
  have e1:Nat.blt j (h.n+1)=true:=by rw[qaK];omega
  have e2:Nat.blt j h.n=true:=by rw[qaK];omega
  simp only[e1,e2]
  rw[Pth.get_set_ne _ _ _ _ _ (λh=>by have:=kL h;omega)]
 ·rw[qam (by rw[dE];omega),dE]
  by_cases h2:j=h.n
  ·subst h2
   have e1:Nat.blt h.n (h.n+1)=true:=by rw[qaK];omega
   simp only[e1,qbF,qbj]
   rw[Pth.get_set];rfl
  ·have e1:Nat.blt j (h.n+1)=false:=by rw[←qaU,qaK];omega
   simp only[e1]
   rw[qah (by simp;omega)];rfl
def aX(c:Tr Value)(n:Nat):(bH c n).length=n:=by simp[bH]
def dJ(c:Tr Value){n i:Nat}(h:i<n):(bH c n)[i]?=some ((bq i).get nilV c):=by
 unfold bH
 rw[qat,qbX h];rfl
def insT:List Value->Nat->Tr Value->Tr Value
 | [],_,c=>c
 |v :: l,i,c=>insT l (i+1) ((bq i).set nilV c v)
def rn:∀(l:List Value) (i:Nat) (c:Tr Value) (j:Nat),(bq j).get nilV (insT l i c)=if i<=j/\j<i+l.length then l[j - i]?.getD nilV else(bq j).get nilV c
 | [],i,c,j=>by
  have h:¬(i<=j/\j<i+([]:List Value).length):=by intro h;have:=h.2;simp at this;omega
  rw[if_neg h];rfl
 |v :: l,i,c,j=>by
  show(bq j).get nilV (insT l (i+1) _)=_
  rw[rn l (i+1)]
  by_cases h:i+1<=j/\j<i+1+l.length
  ·rw[if_pos h,if_pos (by simp;omega)]
   have:j - i=(j - (i+1))+1:=by omega
   rw[this,qbT]
  ·rw[if_neg h]
   by_cases h2:j=i
   ·subst h2
    rw[Pth.get_set,if_pos (by simp)];simp
   ·rw[Pth.get_set_ne _ _ _ _ _ (λe=>h2 (kL e)),if_neg (by simp;omega)]
def ph{l:List Value}{i n:Nat}{c:Tr Value}(h:i+l.length<=n):bH (insT l i c) n=(bH c n).take i++l++(bH c n).drop (i+l.length):=by
 apply qaR
 intro j
 by_cases hj:j<n
 ·rw[dJ _ hj,rn]
  by_cases h1:j<i
  ·rw[if_neg (by omega),qaN,qaf (by rw[qaJ,aX];omega),List.getElem?_take_of_lt h1,dJ _ hj]
  ·have hl:((bH c n).take i).length=i:=by rw[qaJ,aX];omega
   by_cases h2:j<i+l.length
   ·rw[if_pos ⟨by omega,h2⟩,qaN,qam (by omega),hl,qaf (by omega)]
    rw[qar (by omega)];rfl
   ·rw[if_neg (by omega),qam (by rw[qay,hl];omega),qay,hl,qa0,show i+l.length+(j - (i+l.length))=j by omega,dJ _ hj]
 ·rw[qah (by rw[aX];omega),qah (by simp[aX];omega)]
def mX{l:List Value}{n:Nat}{c:Tr Value}:bH (insT l n c) (n+l.length)=bH c n++l:=by
 apply qaR
 intro j
 by_cases hj:j<n+l.length
 ·rw[dJ _ hj,rn]
  by_cases h1:j<n
  ·rw[if_neg (by omega),qaf (by rw[aX];exact h1),dJ _ h1]
  ·rw[if_pos ⟨by omega,hj⟩,qam (by rw[aX];omega),aX,qar (by omega)];rfl
 ·rw[qah (by rw[aX];omega),qah (by simp[aX];omega)]
def yd(l:List Value):bH (insT l 0 .leaf) l.length=l:=by
 have:=mX (l:=l) (n:=0) (c:=.leaf)
 simpa[bH]using this
def yI(c:Tr Value)(n:Nat):Nat->List Value:=Nat.rec (motive:=λ_=>Nat->List Value) (λ_=>[]) (λ_ ih off=>(bq off).get nilV c :: fN (Nat.succ off) ih) n
def jG(c:Tr Value):∀(n off m:Nat),off+n<=m->yI c n off=((bH c m).drop off).take n
 |0,_,_,_=>by rw[qcf];rfl
 |n+1,off,m,h=>by
  show(bq off).get nilV c :: yI c n (off+1)=_
  rw[jG c n (off+1) m (by omega)]
  have h1:off<(bH c m).length:=by rw[aX];omega
  rw[qbm h1,qby]
  congr 1
  have:=dJ c (n:=m) (i:=off) (by omega)
  rw[qar h1]at this
  exact(qap this).symm
section
variable {R:Type}
def putR{α:Type}(d:α)(p:Pth):Tr α->α->(Tr α->R)->R:=
 Pth.rec (motive:=λ_=>Tr α->α->(Tr α->R)->R)
  (λt x k=>Tr.casesOn t (k (.node x .leaf .leaf)) λ_ l r=>k (.node x l r))
  (λ_ ih t x k=>Tr.casesOn t (ih .leaf x λl=>k (.node d l .leaf)) λv l r=>ih l x λl=>k (.node v l r))
  (λ_ ih t x k=>Tr.casesOn t (ih .leaf x λr=>k (.node d .leaf r)) λv l r=>ih r x λr=>k (.node v l r)) p
def iZ{α:Type}(d:α):∀(p:Pth) (t:Tr α) (x:α) (k:Tr α->R),putR d p t x k=k (p.set d t x)
 | .e,t,x,k=>by cases t<;>rfl
 | .o p,t,x,k=>by
  cases t with
  |leaf=>exact iZ d p .leaf x _
  |node v l r=>exact iZ d p l x _
 | .i p,t,x,k=>by
  cases t with
  |leaf=>exact iZ d p .leaf x _
  |node v l r=>exact iZ d p r x _
def putK(h:HTr)(i:Nat)(o:HOT)(k:HTr->R):R:=match Nat.blt i h.n with
 |true=>putR noO (bq i) h.t o λt=>k ⟨h.n,t⟩
 |false=>k h
def jE(h:HTr)(o:HOT)(k:HTr->R):R:=putR noO (bq h.n) h.t o λt=>fN (Nat.succ h.n) λn=>k ⟨n,t⟩
def gR(h:HTr)(i:Nat)(o:HOT)(k:HTr->R):putK h i o k=k (h.put i o):=by
 unfold putK HTr.put
 split
 next e=>rw[iZ]
 ·rfl
def fX(h:HTr)(o:HOT)(k:HTr->R):jE h o k=k (h.push o):=by
 unfold jE HTr.push
 rw[iZ,ee]
def xk{α:Type}(l:List α):(List α->R)->R:=
 List.rec (motive:=λ_=>(List α->R)->R) (λk=>k []) (λx _ ih k=>ih λl=>k (x :: l)) l
def oh{α:Type}:∀(l:List α) (k:List α->R),xk l k=k l
 | [],_=>rfl
 |x :: l,k=>oh l λl=>k (x :: l)
def xl(v:Value)(k:Value->R):R:=match v with
 | .int kd n=>fI n λn=>k (.int kd n)
 | .bool b=>Bool.rec (k (.bool false)) (k (.bool true)) b
 |v=>k v
def plainV_eq(v:Value)(k:Value->R):xl v k=k v:=by
 unfold xl
 split
 ·exact iQ _ _
 next b=>cases b<;>rfl
 ·rfl
def insK(l:List Value):Nat->Tr Value->(Tr Value->R)->R:=
 List.rec (motive:=λ_=>Nat->Tr Value->(Tr Value->R)->R) (λ_ c k=>k c) (λv _ ih i c k=>xl v λv=>putR nilV (bq i) c v λc=>fN (Nat.succ i) λi=>ih i c k) l
def nG:∀(l:List Value) (i:Nat) (c:Tr Value) (k:Tr Value->R),insK l i c k=k (insT l i c)
 | [],_,_,_=>rfl
 |v :: l,i,c,k=>by
  show(xl v λv=>putR nilV (bq i) c v λc=>fN (Nat.succ i) λi=>insK l i c k)=_
  rw[plainV_eq,iZ,ee,nG l];rfl
def tF(o:HObj)(k:HOT->R):R:=match o with
 | .cells vs e rw=>fN vs.length λn=>insK vs 0 .leaf λc=>k (.t n e rw c)
 | .map es c=>xk es λes=>fN c λc=>k (.o (.map es c))
 |o=>k (.o o)
def jv{o:HObj}{k:HOT->R}:∃x:HOT,x.ho = .o o/\tF o k=k x:=by
 cases o with
 |cells vs e rw=>
  refine⟨.t vs.length e rw (insT vs 0 .leaf),by simp only[HOT.ho,yd],?_⟩
  show(fN vs.length λn=>insK vs 0 .leaf λc=>k (.t n e rw c))=_
  rw[ee,nG]
 |map es c=>
  refine⟨.o (.map es c),rfl,?_⟩
  show(xk es λes=>fN c λc=>k (.o (.map es c)))=_
  rw[oh,ee]
 |_=>exact⟨.o _,rfl,rfl⟩
def rK(l:List Lf):(List Lf->R)->R:=
 List.rec (motive:=λ_=>(List Lf->R)->R) (λk=>k []) (λx _ ih k=>match x with
  | .i n=>fI n λn=>ih λl=>k (.i n :: l)
  | .b t=>Bool.rec (ih λl=>k (.b false :: l)) (ih λl=>k (.b true :: l)) t
  | .v v=>ih λl=>k (.v v :: l)) l
def eG:∀(l:List Lf) (k:List Lf->R),rK l k=k l
 | [],_=>rfl
 | .i n :: l,k=>(iQ n λn=>rK l λl=>k (.i n :: l)).trans (eG l _)
 | .b true :: l,k=>eG l λl=>k (.b true :: l)
 | .b false :: l,k=>eG l λl=>k (.b false :: l)
 | .v v :: l,k=>eG l λl=>k (.v v :: l)
end
end Sx
section
open Sx
abbrev RT:=Option (List Lf)
abbrev yes:RT:=some []
def ans(b:Bool):RT:=match b with|true=>yes|false=>none
abbrev ae:=CK->List Lf->HTr->(List Lf->HTr->RT)->RT
def Act1.onH(h:HL):Act1->HL
 | .set i o=>h.set i (.o o)
 | .push o=>h++[.o o]
def bI(h:HL)(l:List Act1):HL:=l.foldl Act1.onH h
def getH(T:Nat->Site)(h:HL):cr:=λi=>match h[i]? with
 |some x=>some (absO T x)
 |none=>none
def getT(T:Nat->Site)(h:HTr):cr:=λi=>match h.at i with
 |some x=>some (absO T x.ho)
 |none=>none
def xX(l:List Act1):HTr->(HTr->RT)->RT:=
 List.rec (motive:=λ_=>HTr->(HTr->RT)->RT) (λh k=>k h) (λa _ ih h k=>match a with
  | .set i o=>tF o λo=>putK h i o λh=>ih h k
  | .push o=>tF o λo=>jE h o λh=>ih h k) l
def condB(b:Bool)(x y:RT):RT:=Bool.rec y x b
def outG(k:IntKind)(c:Int)(K:Int->RT):RT:=Bool.rec (fI (k.wrap c) K) (K c) (fits k c)
def out64(c:Int)(K:Int->RT):RT:=@Bool.rec (λ_=>RT) (fI (IntKind.wrap .i64 c) K) (K c) (@Int.rec (λ_=>Bool) (λn=>Nat.ble n 9223372036854775807) (λn=>Nat.ble n 9223372036854775807) c)
def outU8(c:Int)(K:Int->RT):RT:=@Bool.rec (λ_=>RT) (fI (IntKind.wrap .u8 c) K) (K c) (@Int.rec (λ_=>Bool) (λn=>Nat.ble n 255) (λ_=>false) c)
def outK(k:IntKind)(c:Int)(K:Int->RT):RT:=@IntKind.rec (λ_=>RT) (outG .i8 c K) (outG .i16 c K) (outG .i32 c K) (out64 c K) (outU8 c K) (outG .u16 c K) (outG .u32 c K) (outG .u64 c K) k
def addK(a b:Int)(K:Int->RT):RT:=
 Int.rec (λm=>Int.rec (λn=>fN (Nat.add m n) λc=>K (.ofNat c)) (λn=>Bool.rec (fN (Nat.sub n m) λc=>K (.negSucc c)) (fN (Nat.sub m (Nat.succ n)) λc=>K (.ofNat c)) (Nat.blt n m)) b)
  (λm=>Int.rec (λn=>Bool.rec (fN (Nat.sub m n) λc=>K (.negSucc c)) (fN (Nat.sub n (Nat.succ m)) λc=>K (.ofNat c)) (Nat.blt m n)) (λn=>fN (Nat.succ (Nat.add m n)) λc=>K (.negSucc c)) b) a
def subK(a b:Int)(K:Int->RT):RT:=
 Int.rec (λm=>Int.rec (λn=>Bool.rec (fN (Nat.sub n (Nat.succ m)) λc=>K (.negSucc c)) (fN (Nat.sub m n) λc=>K (.ofNat c)) (Nat.ble n m)) (λn=>fN (Nat.succ (Nat.add m n)) λc=>K (.ofNat c)) b)
  (λm=>Int.rec (λn=>fN (Nat.add m n) λc=>K (.negSucc c)) (λn=>Bool.rec (fN (Nat.sub m (Nat.succ n)) λc=>K (.negSucc c)) (fN (Nat.sub n m) λc=>K (.ofNat c)) (Nat.ble m n)) b) a
def mulK(a b:Int)(K:Int->RT):RT:=
 Int.rec (λm=>Int.rec (λn=>fN (Nat.mul m n) λc=>K (.ofNat c)) (λn=>Nat.rec (K (.ofNat 0)) (λm' _=>fN (Nat.add (Nat.mul m n) m') λc=>K (.negSucc c)) m) b)
  (λm=>Int.rec (λn=>Nat.rec (K (.ofNat 0)) (λn' _=>fN (Nat.add (Nat.mul m n) n') λc=>K (.negSucc c)) n) (λn=>fN (Nat.mul (Nat.succ m) (Nat.succ n)) λc=>K (.ofNat c)) b) a
def quoK(a b:Int)(K:Int->RT):RT:=
 Int.rec (λm=>Int.rec (λn=>fN (Nat.div m n) λc=>K (.ofNat c)) (λ_=>fI (Int.tdiv a b) K) b) (λ_=>fI (Int.tdiv a b) K) a
def remK(a b:Int)(K:Int->RT):RT:=
 Int.rec (λm=>Int.rec (λn=>fN (Nat.mod m n) λc=>K (.ofNat c)) (λ_=>fI (Int.tmod a b) K) b) (λ_=>fI (Int.tmod a b) K) a
def isZ(b:Int):Bool:=Int.rec (λn=>Nat.beq n 0) (λ_=>false) b
def ariB(op:BinOp)(k:IntKind)(a b:Int)(K:Int->RT):RT:=
 match op with
 | .add=>addK a b λc=>outK k c K
 | .sub=>subK a b λc=>outK k c K
 | .mul=>mulK a b λc=>outK k c K
 | .quo=>Bool.rec (quoK a b λc=>outK k c K) none (isZ b)
 | .rem=>Bool.rec (remK a b K) none (isZ b)
 | .and=>match eqI b 1 with
  |true=>fI (Int.emod a 2) K
  |false=>match a,b with
   | .ofNat m,.ofNat n=>fI (.ofNat (Nat.land m n)) λc=>outK k c K
   |_,_=>none
 | .xor=>match a,b with
  | .ofNat m,.ofNat n=>fI (.ofNat (Nat.xor m n)) λc=>outK k c K
  |_,_=>none
 | .or=>match a,b with
  | .ofNat m,.ofNat n=>fI (.ofNat (Nat.lor m n)) λc=>outK k c K
  |_,_=>none
 |_=>none
def eqZK(a b:Int):Bool:=Int.rec (λm=>Int.rec (λn=>Nat.beq m n) (λ_=>false) b) (λm=>Int.rec (λ_=>false) (λn=>Nat.beq m n) b) a
def notK(b:Bool):Bool:=Bool.rec true false b
def cmpB(op:BinOp)(a b:Int)(K:Bool->RT):RT:=
 match op with
 | .eql=>K (eqZK a b)
 | .neq=>K (notK (eqZK a b))
 | .lss=>K (notK (leZ b a))
 | .leq=>K (leZ a b)
 | .gtr=>K (notK (leZ a b))
 | .geq=>K (leZ b a)
 |_=>none
def eqBK(a b:Bool):Bool:=Bool.rec (notK b) b a
def eqLf(x y:Lf):Bool:=Lf.rec (λa=>Lf.rec (λb=>eqZK a b) (λ_=>false) (λ_=>false) y) (λa=>Lf.rec (λ_=>false) (λb=>eqBK a b) (λ_=>false) y) (λ_=>false) x
def eqsV(l:List (Lf×Lf)):Bool:=List.rec true (λp _ ih=>Bool.rec false ih (eqLf p.1 p.2)) l
def eqsB(l:List (Lf×Lf))(K:Bool->RT):RT:=K (eqsV l)
def convB(k:IntKind)(a:Int)(K:Int->RT):RT:=outK k a K
def selB(t:Bool)(a b:Int)(K:Int->RT):RT:=Bool.rec (K b) (K a) t
def optB{α:Type}(o:Option α)(K:α->RT):RT:=Option.rec none K o
def unIB(ls:List Lf)(K:Int->List Lf->RT):RT:=List.rec none (λx r _=>Lf.rec (λn=>K n r) (λ_=>none) (λ_=>none) x) ls
def unBB(ls:List Lf)(K:Bool->List Lf->RT):RT:=List.rec none (λx r _=>Lf.rec (λ_=>none) (λn=>K n r) (λ_=>none) x) ls
def unVB(ls:List Lf)(K:Value->List Lf->RT):RT:=List.rec none (λx r _=>Lf.rec (λ_=>none) (λ_=>none) (λn=>K n r) x) ls
def un0B(ls:List Lf)(K:RT):RT:=List.rec K (λ_ _ _=>none) ls
def ucIB(k:IntKind)(ls:List Value)(K:Int->List Value->RT):RT:=match ls with | .int k' n :: r=>(match dy k k' with|true=>K n r|false=>none)|_=>none
def ucBB(ls:List Value)(K:Bool->List Value->RT):RT:=match ls with | .bool n :: r=>K n r|_=>none
def ucVB(ls:List Value)(K:Value->List Value->RT):RT:=match ls with|n :: r=>K n r|_=>none
def uc0B(ls:List Value)(K:RT):RT:=match ls with | []=>K|_=>none
def spot0(s:Option Nat):Bool:=match s with
 |none=>true
 |some k=>match k with
  |0=>false
  |_=>true
def goodF(v:Value):Bool:=match v with
 | .pointer (some a)=>spot0 a.spot
 | .slice (some a) _ _=>spot0 a.spot
 |v=>aP v
def chkB(v:Value)(K:RT):RT:=match goodF v with|true=>K|false=>none
def lenR{α:Type}(l:List α):Nat:=List.rec 0 (λ_ _ n=>Nat.succ n) l
def ldB(n:Nat)(p:Value)(h:HTr)(K:List Value->RT):RT:=match p with
 | .pointer (some a)=>match a.spot with
  |none=>match h.at a.block with
   |some (.t m _ _ c)=>match Nat.ble (Nat.add a.off n) m with
    |true=>K (yI c n a.off)
    |false=>none
   |_=>none
  |some _=>none
 |_=>none
def lgB(C:Cfg)(n:Nat)(p:Value)(h:HTr)(K:List Value->RT):RT:=match p with
 | .pointer (some a)=>match a.spot with
  |none=>match h.at a.block with
   |some (.t m _ _ c)=>match Nat.ble (Nat.add a.off n) m with
    |true=>K (yI c n a.off)
    |false=>none
   |_=>none
  |some k=>match Nat.beq k 1 with
   |true=>match C.G a.block with
    |some vs=>match cutL vs a.off n with
     |some cs=>K cs
     |none=>none
    |none=>none
   |false=>none
 |_=>none
def peekB(T:Nat->Site)(f:Pk)(h:HTr)(K:List Value->RT):RT:=match f with
 | .ld n p=>ldB n p h K
 | .lg C n p=>lgB C n p h K
 | .fn f=>match f (getT T h)with|some x=>K x|none=>none
def stB(p:Value)(new:List Value)(h:HTr)(K:List Value->HTr->RT):RT:=match p with
 | .pointer (some a)=>match a.spot with
  |none=>match h.at a.block with
   |some (.t m e true c)=>match Nat.ble (Nat.add a.off (lenR new)) m with
    |true=>insK new a.off c λc=>putK h a.block (.t m e true c) λh=>K [] h
    |false=>none
   |_=>none
  |some _=>none
 |_=>none
def tagB(s:Option Nat)(esz:Nat):Bool:=match s with
 |none=>false
 |some k=>Nat.beq k (Nat.add esz 10)
def slB(C:Cfg)(T:Nat->Site)(esz:Nat)(x:Value)(h:HTr)(K:List Value->Nat->RT):RT:=match x with
 | .slice (some a) len _=>match tagB a.spot esz with
  |true=>match h.at a.block with
   |some (.t m e _ c)=>match Nat.beq e esz,Nat.ble (Nat.add a.off (Nat.mul len esz)) m with
    |true,true=>K (yI c (Nat.mul len esz) a.off) len
    |_,_=>none
   |_=>none
  |false=>match slG C esz (getT T h) x with
   |some p=>K p.1 p.2
   |none=>none
 |x=>match slG C esz (getT T h) x with
  |some p=>K p.1 p.2
  |none=>none
def growB(c:Tr Value)(m off w esz:Nat)(new:List Value)(k:HOT->RT):RT:=match Nat.beq off 0,Nat.beq w m with
 |true,true=>insK new m c λc=>fN (Nat.add m (lenR new)) λm=>k (.t m esz true c)
 |_,_=>tF (.cells (yI c w off++new) esz true) k
def apB(T:Nat->Site)(C:Cfg)(esz bytes:Nat)(s x:Value)(h:HTr)(K:List Value->HTr->RT):RT:=
 slB C T esz x h λnew n=>match s with
  | .slice none 0 0=>match n with
   |0=>K [.slice none 0 0] h
   |n+1=>match bU (n+1) bytes with
    |true=>tF (.cells new esz true) λo=>jE h o λh'=>fN (n+1) λn=>K [.slice (some ⟨h.n,0,tag esz⟩) n 0] h'
    |false=>none
  | .slice (some a) len cx=>match tagB a.spot esz with
   |false=>none
   |true=>match h.at a.block with
    |some (.t m e rw c)=>match Nat.beq e esz,Nat.ble (Nat.add a.off (Nat.mul len esz)) m with
     |true,true=>match cx with
      |0=>match n with
       |0=>K [.slice (some a) len 0] h
       |n+1=>match rw,bU (len+(n+1)) bytes with
        |true,true=>growB c m a.off (Nat.mul len esz) esz new λo=>putK h a.block (.o .dead) λh'=>jE h' o λh''=>fN (len+(n+1)) λl=>K [.slice (some ⟨h.n,0,tag esz⟩) l 0] h''
        |_,_=>none
      |cap+1=>match Nat.ble (len+n) cap with
       |true=>match rw,Nat.ble (Nat.add (Nat.add a.off (Nat.mul len esz)) (lenR new)) m with
        |true,true=>insK new (Nat.add a.off (Nat.mul len esz)) c λc=>putK h a.block (.t m e true c) λh'=>fN (len+n) λl=>K [.slice (some a) l (cap+1)] h'
        |_,_=>none
       |false=>match bU (len+n) bytes with
        |true=>growB c m a.off (Nat.mul len esz) esz new λo=>jE h o λh'=>fN (len+n) λl=>K [.slice (some ⟨h.n,0,tag esz⟩) l 0] h'
        |false=>none
     |_,_=>none
    |_=>none
  |_=>none
def heapB(T:Nat->Site)(f:Hp)(h:HTr)(K:List Value->HTr->RT):RT:=match f with
 | .st p new=>stB p new h K
 | .ap C esz bytes s x=>apB T C esz bytes s x h K
 | .fn f=>match f (getT T h) h.n with|some p=>xk p.2 λcs=>xX p.1 h λh=>K cs h|none=>none
def newB(o:HObj)(h:HTr)(K:Nat->HTr->RT):RT:=tF o λo=>jE h o λh'=>K h.n h'
def toSL(k:LK)(v:Value):Option SL:=
 match k with
 | .i k=>match v with
  | .int k' n=>match dy k' k with
   |true=>some (.i k' n)
   |false=>none
  |_=>none
 | .b=>match v with
  | .bool t=>some (.b t)
  |_=>none
 | .v=>match aP v with
  |true=>some (.v v)
  |false=>none
def toSLs:List LK->List Value->Option (List SL)
 | [],[]=>some []
 |k :: ks,v :: vs=>match toSL k v with
  |some x=>match toSLs ks vs with
   |some xs=>some (x :: xs)
   |none=>none
  |none=>none
 |_,_=>none
def toS0(sk:SK)(v:Value):Option S0:=
 match sk with
 | .leaf k=>(toSL k v).map .leaf
 | .agg ks=>match v with
  | .agg cs=>(toSLs ks cs.toList).map .agg
  |_=>none
def toS0s:List SK->List Value->Option (List S0)
 | [],[]=>some []
 |k :: ks,v :: vs=>match toS0 k v with
  |some x=>match toS0s ks vs with
   |some xs=>some (x :: xs)
   |none=>none
  |none=>none
 |_,_=>none
def eqLK:LK->LK->Bool
 | .i a,.i b=>dy a b
 | .b,.b=>true
 | .v,.v=>true
 |_,_=>false
def eqLKs:List LK->List LK->Bool
 | [],[]=>true
 |a :: l,b :: m=>eqLK a b&&eqLKs l m
 |_,_=>false
def eqSK:SK->SK->Bool
 | .leaf a,.leaf b=>eqLK a b
 | .agg a,.agg b=>eqLKs a b
 |_,_=>false
def eqSKs:List SK->List SK->Bool
 | [],[]=>true
 |a :: l,b :: m=>eqSK a b&&eqSKs l m
 |_,_=>false
def gj(ls:List Lf):Bool:=List.rec true (λl _ ih=>match l with
 | .v x=>(match goodF x with
  |true=>ih
  |false=>false)
 |_=>ih) ls
section
variable (Sg:FuncId->Option Sig) (T:Nat->Site) (call:ae)
def yb(g:FuncId)(ls:List Lf)(h:HTr)(K:List Lf->HTr->RT):RT:=match gj ls with|true=>call (.f g) ls h K|false=>none
def md(g:FuncId)(hs:Option (List SK))(vals:List Value)(h:HTr)(K:List Lf->HTr->RT):RT:=
 match Sg g with
 |none=>none
 |some sg=>match (match hs with|none=>true|some hs=>eqSKs sg.rs hs)with
  |false=>none
  |true=>match toS0s sg.ps vals with
   |none=>none
   |some xs=>yb call g (bK xs) h K
def callvB(v:Value)(args:List Value)(hs:List SK)(h:HTr)(K:List Lf->HTr->RT):RT:=
 match v with
 | .func fn first cap=>match fn with
  | .func g=>md Sg call g (some hs) (first.toList++args++cap.toList) h K
  | .yield l=>match first.toList,cap.toList with
   | [],[]=>match h.at l with
    |some (.lp κ _ _ vs)=>match eqSKs [.leaf .b] hs with
     |false=>none
     |true=>match toS0s ((T κ).params.map (·.2)) args with
      |none=>none
      |some xs=>match gj (bK xs)with
       |true=>call (.y κ vs l) (bK xs) h K
       |false=>none
    |_=>none
   |_,_=>none
  |_=>none
 |_=>none
def rfunB(κ:Nat)(v:Value)(vals:List Value)(h:HTr)(K:Option Code->HTr->RT):RT:=
 match v with
 | .func fn first cap=>match fn with
  | .func g=>jE h (.lp κ .ready none vals) λh0=>md Sg call g none (first.toList++[.func (.yield h.n) #[] #[]]++cap.toList) h0 λ_ h1=>match h1.at h.n with
   |some (.lp κ' st pd vs)=>match st with
    | .busy=>none
    |_=>putK h1 h.n (.lp κ' .exhausted pd vs) λh2=>K pd h2
   |_=>none
  |_=>none
 |_=>none
def pendB(pd:Option Code)(kn kr:RT)(ks:List (Nat×RT)):RT:=
 match pd with
 |none=>kn
 |some c=>match c with
  | .ret=>kr
  | .exit id=>List.rec none (λp _ ih=>match Nat.beq p.1 id with|true=>p.2|false=>ih) ks
  |_=>none
def lp1B(l:Nat)(h:HTr)(K:HTr->RT):RT:=
 match h.at l with
 |some (.lp κ st pd vs)=>match st with
  | .ready=>putK h l (.lp κ .busy pd vs) K
  |_=>none
 |_=>none
def lp2B(l:Nat)(j:Option Code)(h:HTr)(K:HTr->RT):RT:=
 match h.at l with
 |some (.lp κ _ _ vs)=>match j with
  |none=>putK h l (.lp κ .ready none vs) K
  |some c=>putK h l (.lp κ .done (some c) vs) K
 |_=>none
end
def loopB(F:(List Lf->HTr->RT)->List Lf->HTr->RT)(ls:List Lf)(h:HTr):RT:=
 Nat.rec (motive:=λ_=>List Lf->HTr->RT) (λ_ _=>none) (λ_ ih ls h=>F ih ls h) 1000000 ls h
def joinB(b:List Lf->HTr->RT)(m:(List Lf->HTr->RT)->RT):RT:=m b
def shfB(op:BinOp)(k:IntKind)(a:Int)(_:IntKind)(b:Int)(K:Int->RT):RT:=match leZ 0 b with
 |true=>match op with
  | .shl=>fI (k.wrap (a*2 ^ min b.toNat k.bits)) K
  | .shr=>fI (a.fdiv (2 ^ min b.toNat k.bits)) K
  |_=>none
 |false=>none
def BA(Sg:FuncId->Option Sig)(T:Nat->Site)(call:ae):Alg RT HTr where
 fail:=none
 cond:=condB
 ari:=ariB
 shf:=shfB
 cmp:=cmpB
 eqs:=eqsB
 conv:=convB
 sel:=selB
 opt:=optB
 chk:=chkB
 unI:=unIB
 unB:=unBB
 unV:=unVB
 un0:=un0B
 ucI:=ucIB
 ucB:=ucBB
 ucV:=ucVB
 uc0:=uc0B
 peek:=peekB T
 heap:=heapB T
 new:=newB
 call:=yb call
 callv:=callvB Sg T call
 join:=joinB
 loop:=loopB
 rfun:=rfunB Sg call
 pend:=pendB
 lp1:=lp1B
 lp2:=lp2B
end
namespace Sx
section
variable [Val] [Kno]
def wAt(pts:List Nat)(tm:List Value)(o:Oper):List Nat:=(wOps pts o).flatMap λx=>adr (oval tm x)
def fAt(pts:List Nat)(tm:List Value)(o:Oper):List Nat:=(cY pts o).1.flatMap λx=>adrK (cY pts o).2 (oval tm x)
def dstIn(pts:List Nat)(tm:List Value)(o:Oper):Prop:=∀d,o.dst=some d->hCls pts o=2->∃v,tm[d]?=some v
def SepAt(pts:List Nat)(ops:Array Oper)(tm:List Value)(ps:List (Nat×Nat)):Prop:=
 ∀p∈ps,∃a b,ops[p.1]?=some a/\ops[p.2]?=some b/\(∀x∈wAt pts tm a,x∉fAt pts tm b)/\(∀x∈wAt pts tm a,x∉wAt pts tm b)/\(∀x∈wAt pts tm b,x∉fAt pts tm a)/\dstIn pts tm a/\dstIn pts tm b
def SameAt(ops:Array Oper)(k:Nat)(σ σ':St):Prop:=∃o d x,ops[k]?=some o/\o.dst=some d/\σ.tmps[d]?=some x/\σ'.tmps[d]?=some x
def DrOk(C:Cfg)(dr:Dr):Prop:=∀pts ops ps,dr pts ops=some ps->match splOf ps with
 |none=>∀(n:Nat) (σ σ':St),bk C (sm C n).toBelow pts ops (List.range ops.size) σ σ'->SepAt pts ops σ'.tmps ps->ff C (sm C n).toBelow pts ops σ σ'
 |some p=>∀(n:Nat) (σ σ₁ σ₂ σ':St),bk C (sm C n).toBelow pts ops (List.range' 0 (ops.toList.take (p.2+1)).length) σ σ₁->al C (sm C n).toBelow pts ops p.1 σ₁ σ₂->SameAt ops p.1 σ₁ σ₂->
   bk C (sm C n).toBelow pts ops (List.range' (p.2+1) (ops.toList.drop (p.2+1)).length) σ₁ σ'->ff C (sm C n).toBelow pts ops σ σ'
def wR{x:Nat}:∀ {l:List Nat},memN x l=true↔x∈l
 | []=>by simp[memN]
 |y :: l=>by
  unfold memN
  cases h:Nat.beq x y with
  |true=>simp[qac h]
  |false=>
   have:x≠y:=λe=>by subst e;rw[show Nat.beq x x=true from qbE x]at h;cases h
   simp only[qak,this,false_or]
   exact wR
def wl:∀ {l m:List Nat},disjN l m=true->∀x∈l,x∉m
 | [],_,_,_,h=>by cases h
 |y :: l,m,h,x,hx=>by
  unfold disjN at h
  cases hm:memN y m with
  |true=>rw[hm]at h;cases h
  |false=>
   rw[hm]at h
   rcases qak.1 hx with rfl|hx
   ·intro e;rw[wR.2 e]at hm;cases hm
   ·exact wl h x hx
def sepL_ok:∀ {l:List (Value×Nat×Value)} {u:Unit},sepL l=some u->∀p∈l,∀r∈adr p.1,r∉adrK p.2.1 p.2.2
 | [],_,_,_,h=>by cases h
 |q :: l,u,h,p,hp=>by
  unfold sepL at h
  split at h
  next hd=>
   rcases qak.1 hp with rfl|hp
   ·exact wl hd
   ·exact sepL_ok h p hp
  ·cases h
def entV_ok{ev:Env}{σ:St}(hR:Rp ev σ){x:Operand}{us:List Value}(h:entV (sval ev x)=some us)(k r:Nat)(hr:r∈adrK k (oval σ.tmps x)):∃u∈us,r∈adrK k u:=by
 have hn:sval ev x≠.no:=λe=>by rw[e]at h;cases h
 have hv:=(hR.sval rfl hn).1
 rw[hv]at hr
 generalize sval ev x=s at *
 have none:adrK k s.val=[]->∃u∈us,r∈adrK k u:=λe=>by rw[e]at hr;cases hr
 cases s with
 |st y=>
  cases y with
  |leaf l=>
   cases l with
   |v u=>
    cases h
    exact⟨u,by simp,hr⟩
   |_=>exact none (by cases k with|zero=>rfl|succ k=>cases k<;>rfl)
  |agg cs=>exact none (by cases k with|zero=>rfl|succ k=>cases k<;>rfl)
 |no=>exact absurd rfl hn
 |_=>exact none (by cases k with|zero=>rfl|succ k=>cases k<;>rfl)
def fQ{ev:Env}{σ:St}(hR:Rp ev σ):∀ {l:List Operand} {us:List Value},qQ ev l=some us->∀(k r:Nat),r∈l.flatMap (λx=>adrK k (oval σ.tmps x))->∃u∈us,r∈adrK k u
 | [],_,_,_,_,h=>by cases h
 |x :: l,us,h,k,r,hr=>by
  unfold qQ at h
  split at h
  next a b ha hb=>
   cases h
   rw[qbC,qaH]at hr
   rcases hr with hr|hr
   ·obtain⟨u,h1,h2⟩:=entV_ok hR ha k r hr
    exact⟨u,qaS _ h1,h2⟩
   ·obtain⟨u,h1,h2⟩:=fQ hR hb k r hr
    exact⟨u,qa8 _ h1,h2⟩
  ·cases h
def nm{ev:Env}{σ:St}(hR:Rp ev σ){d:Nat}:∀ {l:List Operand} {us:List Value},qQ ev l=some us->Operand.tmp d∈l->∃v,σ.tmps[d]?=some v
 |x :: l,us,h,hm=>by
  unfold qQ at h
  split at h
  next a b ha hb=>
   rcases qak.1 hm with rfl|hm
   ·have hn:sval ev (.tmp d)≠.no:=λe=>by rw[e]at ha;cases ha
    exact⟨_,(hR.at (s:=ev.tm.getD d .no) rfl hn).1⟩
   ·exact nm hR hb hm
  ·cases h
def sf{pts:List Nat}{o:Oper}{d:Nat}(hd:o.dst=some d)(h:hCls pts o=2):Operand.tmp d∈wOps pts o:=by
 unfold wOps
 rw[h,hd]
 simp
def ng{us vs:List Value}{k:Nat}{u v:Value}(hu:u∈us)(hv:v∈vs):(u,k,v)∈cross us k vs:=by
 unfold cross
 exact qbd.2 ⟨u,hu,qaM.2 ⟨v,hv,rfl⟩⟩
def sepOne_ok{pts:List Nat}{ev:Env}{σ:St}(hR:Rp ev σ){a b:Oper}{l:List (Value×Nat×Value)}(h:sepOne pts ev a b=some l)(hs:∀p∈l,∀r∈adr p.1,r∉adrK p.2.1 p.2.2) :
  (∀x∈wAt pts σ.tmps a,x∉fAt pts σ.tmps b)/\(∀x∈wAt pts σ.tmps a,x∉wAt pts σ.tmps b)/\(∀x∈wAt pts σ.tmps b,x∉fAt pts σ.tmps a)/\dstIn pts σ.tmps a/\dstIn pts σ.tmps b:=by
 unfold sepOne at h
 split at h
 next wa wb fa fb h1 h2 h3 h4=>
  cases h
  refine⟨λx hx hy=>?_,λx hx hy=>?_,λx hx hy=>?_,λd hd hc=>nm hR h1 (sf hd hc),λd hd hc=>nm hR h2 (sf hd hc)⟩
  ·obtain⟨u,u1,u2⟩:=fQ hR h1 0 x hx
   obtain⟨v,v1,v2⟩:=fQ hR h4 _ x hy
   exact hs (u,_,v) (qaS _ (qaS _ (ng u1 v1))) x u2 v2
  ·obtain⟨u,u1,u2⟩:=fQ hR h1 0 x hx
   obtain⟨v,v1,v2⟩:=fQ hR h2 0 x hy
   exact hs (u,0,v) (qaS _ (qa8 _ (ng u1 v1))) x u2 v2
  ·obtain⟨u,u1,u2⟩:=fQ hR h2 0 x hx
   obtain⟨v,v1,v2⟩:=fQ hR h3 _ x hy
   exact hs (u,_,v) (qa8 _ (ng u1 v1)) x u2 v2
 ·cases h
def qj{pts:List Nat}{ops:Array Oper}{ev:Env}{σ:St}(hR:Rp ev σ):∀ {ps:List (Nat×Nat)} {l:List (Value×Nat×Value)},rW pts ops ev ps=some l->(∀p∈l,∀r∈adr p.1,r∉adrK p.2.1 p.2.2)->SepAt pts ops σ.tmps ps
 | [],_,_,_,_,h=>by cases h
 |q :: ps,l,h,hs,p,hp=>by
  unfold rW at h
  split at h
  next a b r ha hb hr=>
   obtain⟨x,hx,rfl⟩:=qae.1 h
   rcases qak.1 hp with rfl|hp
   ·exact⟨a,b,ha,hb,sepOne_ok hR hx λp hp=>hs p (qaS _ hp)⟩
   ·exact qj hR hr (λp hp=>hs p (qa8 _ hp)) p hp
  ·cases h
def eqFn_ok{x y:Value}{u:Unit}(h:eqFn x y=some u):x=y:=by
 unfold eqFn at h
 split at h
 ·split at h
  ·split at h
   next l a b _ m c d e1 e2 e3 e4 e5=>
    have e1:=qac e1
    have f:∀ {a:Array Value},a.toList=[]->a = #[]:=λh=>qa7.1 h
    rw[e1,f e2,f e3,f e4,f e5]
   ·cases h
  ·cases h
 ·cases h
def entF_ok{ev:Env}{σ:St}(hR:Rp ev σ){d:Nat}{x:Value}(h:entF (ev.tm.getD d .no)=some x):σ.tmps[d]?=some x:=by
 unfold entF at h
 split at h
 next y hy=>
  cases h
  exact(hR.at hy (by simp)).1
 ·cases h
def sepK_ok{R HT:Type}{A:Alg R HT}{C:Cfg}{Sg:FuncId->Option Sig}{T:Nat->Site}{holds:R->Prop}{abs:HT->List HObj}(hA:AlgOk A C Sg T holds abs){pts:List Nat}{ops:Array Oper}{ps:List (Nat×Nat)}{kn:KN R HT}{ev:Env}{σ:St}(hR:Rp ev σ){h:HT}(hk:holds (sepK A pts ops ps kn ev h)) :
  SepAt pts ops σ.tmps ps/\holds (kn ev h):=by
 unfold sepK at hk
 split at hk
 ·exact⟨λp hp=>(by cases hp),hk⟩
 ·simp only at hk
  split at hk
  next l hl=>
   obtain⟨u,h1,h2⟩:=hA.opt _ _ hk
   exact⟨qj hR hl (sepL_ok h1),h2⟩
  ·exact absurd hk hA.fail
end
end Sx
section
variable [Val] [Kno] {R HT:Type} {A:Alg R HT} {X:Ctxt} {Sg:FuncId->Option Sig} {holds:R->Prop} {abs:HT->List HObj}
variable {ev:Env} {σ:St} {h:HT} {o:Oper} {K:KN R HT}
def StepO(C:Cfg)(pts:List Nat)(o:Oper)(σ σ':St):Prop:=
 (∃e,aq C pts (oval σ.tmps) o=some e/\jq (uB C) e o.dst σ σ')∨(∃v,iK C σ.tmps o v/\σ'=σ.put o.dst v)
def tV(pts:List Nat)(o:Oper):Option Nat:=
 match o.op,o.dst with
 | .box ..,some d=>if pts.getD d 0=d+2 then some d else none
 | .alloc _,some d=>if pts.getD d 0=d+2 then some d else none
 |_,_=>none
def Done(X:Ctxt)(holds:R->Prop)(abs:HT->List HObj)(o:Oper)(σ:St)(K:KN R HT):Prop:=
 ∃σ' ev' h',StepO X.C X.pts o σ σ'/\Rp ev' σ'/\abs h'=σ'.heap/\Fr o.dst.toList (tV X.pts o).toList (iY X.pts o).toList σ σ'/\holds (K ev' h')
def vJ(hR:Rp ev σ){dst:Option Tmp}{s:SV}(hs:s.gd)(hk:holds (setD dst s ev h K)):∃ev',Rp ev' (σ.put dst s.val)/\holds (K ev' h):=by
 unfold setD at hk
 cases dst with
 |none=>exact⟨ev,hR,hk⟩
 |some d=>
  simp only[setK_eq]at hk
  exact⟨_,hR.put d hs,hk⟩
def dv(hR:Rp ev σ)(H':List HObj)(ha:abs h=H'){s:SV}(hs:s.gd)
  (hst:StepO X.C X.pts o σ (({ σ with heap:=H' }:St).put o.dst s.val)) (hk:holds (setD o.dst s ev h K)):Done X holds abs o σ K:=by
 obtain⟨ev',h1,h2⟩:=vJ (hR.heap H') hs hk
 refine⟨_,ev',h,hst,h1,?_,?_,h2⟩
 ·rw[ha];cases o.dst<;>rfl
 ·have:=Fr.put (σ:=({ σ with heap:=H' }:St)) o.dst s.val (tV X.pts o).toList (iY X.pts o).toList
  exact⟨this.tlen,this.llen,this.tm,this.tp,this.row,this.rlen⟩
def aB(hR:Rp ev σ)(ha:abs h=σ.heap){s:SV}(hs:s.gd)(he:aq X.C X.pts (oval σ.tmps) o=some (.val s.val))(hk:holds (setD o.dst s ev h K)) :
  Done X holds abs o σ K:=
 dv hR σ.heap ha hs (.inl ⟨_,he,_,rfl,rfl⟩) hk
def cg(hR:Rp ev σ)(ha:abs h=σ.heap){s:SV}(hs:s.gd)(he:iK X.C σ.tmps o s.val)(hk:holds (setD o.dst s ev h K)) :
  Done X holds abs o σ K:=
 dv hR σ.heap ha hs (.inr ⟨_,he,rfl⟩) hk
def gF(hR:Rp ev σ)(ha:abs h=σ.heap){s:SV}(hs:s.gd){f:List HObj->Option Value}(he:aq X.C X.pts (oval σ.tmps) o=some (.hget f))(hf:f σ.heap=some s.val)
  (hk:holds (setD o.dst s ev h K)):Done X holds abs o σ K:=
 dv hR σ.heap ha hs (.inl ⟨_,he,(σ,s.val),by simp[aO,hf],rfl⟩) hk
def da(hR:Rp ev σ){H':List HObj}(ha:abs h=H'){s:SV}(hs:s.gd){f:List HObj->Option (List HObj×Value)}(he:aq X.C X.pts (oval σ.tmps) o=some (.hop f))
  (hf:f σ.heap=some (H',s.val)) (hk:holds (setD o.dst s ev h K)):Done X holds abs o σ K:=
 dv hR H' ha hs (.inl ⟨_,he,({ σ with heap:=H' },s.val),by simp[aO,hf],rfl⟩) hk
def move_ok(hR:Rp ev σ)(ha:abs h=σ.heap){x:Operand}(ho:o.op = .move x∨o.op = .assign x){y:SV}(hy:sval ev x=y)(hn:y≠.no)(hk:holds (setD o.dst y ev h K)):Done X holds abs o σ K:=by
 obtain⟨h1,h2⟩:=hR.sval hy hn
 refine aB hR ha h2 ?_ hk
 rcases ho with ho|ho<;>simp only[aq,ho,h1]
def pick_ok(hA:AlgOk A X.C Sg X.T holds abs)(hR:Rp ev σ)(ha:abs h=σ.heap){c a b:Operand}(ho:o.op = .pick c a b)
  (hk:holds (match sval ev c,sval ev a,sval ev b with
  | .st (.leaf (.l true)),.st y,_=>setD o.dst (.st y) ev h K
  | .st (.leaf (.l false)),_,.st y=>setD o.dst (.st y) ev h K
  | .st (.leaf (.b t)),.st y,.st z=>A.cond t (setD o.dst (.st y) ev h K) (setD o.dst (.st z) ev h K)
  |_,_,_=>A.fail)):Done X holds abs o σ K:=by
 split at hk
 next y e1 e2=>
  obtain⟨h1,_⟩:=hR.sval e1 (by simp)
  obtain⟨h2,g2⟩:=hR.sval e2 (by simp)
  refine aB hR ha g2 ?_ hk
  simp only[aq,ho,h1,SV.val,S0.val,SL.val,if_true,h2]
 next y e1 e2=>
  obtain⟨h1,_⟩:=hR.sval e1 (by simp)
  obtain⟨h2,g2⟩:=hR.sval e2 (by simp)
  refine aB hR ha g2 ?_ hk
  simp only[aq,ho,h1,SV.val,S0.val,SL.val,h2,qal,if_false]
 next t y z e1 e2 e3=>
  obtain⟨h1,_⟩:=hR.sval e1 (by simp)
  obtain⟨h2,g2⟩:=hR.sval e2 (by simp)
  obtain⟨h3,g3⟩:=hR.sval e3 (by simp)
  rcases hA.cond _ _ _ hk with⟨ht,hk⟩|⟨ht,hk⟩
  ·refine aB hR ha g2 ?_ hk
   simp only[aq,ho,h1,SV.val,S0.val,SL.val,ht,if_true,h2]
  ·refine aB hR ha g3 ?_ hk
   simp only[aq,ho,h1,SV.val,S0.val,SL.val,ht,h3,qal,if_false]
 ·exact absurd hk hA.fail
def newV_ok(hA:AlgOk A X.C Sg X.T holds abs)(hR:Rp ev σ)(ha:abs h=σ.heap){t:TypeId}{x:S0}(hx:x.good)(he:aq X.C X.pts (oval σ.tmps) o=cp X.C X.pts o.dst t x.val)
  (hb:(∃y,o.op = .box t y)∨o.op = .alloc t) (hk:holds (newV A X o.dst t x ev h K)):Done X holds abs o σ K:=by
 unfold newV at hk
 split at hk
 ·exact absurd hk hA.fail
 next d hd=>
  have eP:=S0.cells_val hx
  have hok:=S0.cells_ok hx
  have hnt:=S0.not_tuple hx
  split at hk
  next hp=>
   have hp:X.pts.getD d 0=d+2:=by simpa using hp
   split at hk
   next hl=>
    rw[setK_eq,setK_eq]at hk
    have hrow:ev.lc[d]?=some .nil:=by
     rw[List.getD_eq_getElem?_getD]at hl
     cases he:ev.lc[d]? with
     |none=>rw[he]at hl;cases hl
     |some r=>rw[he]at hl;simp at hl;rw[hl]
    have hloc:σ.loc[d]?=some none:=hR.row d _ hrow
    have heff:aq X.C X.pts (oval σ.tmps) o=some (.lnew d (x.cells.map SL.val)):=by
     rw[he,hd]
     unfold cp
     simp only[hnt,qal,if_false,eP,cells_ok' hx,qaF,hp,if_true]
    let σ₁:St:={ σ with loc:=σ.loc.set d (some (x.cells.map SL.val)) }
    have hR1:Rp ⟨ev.tm,ev.lc.set d (.row x.cells)⟩ σ₁:=by
     refine⟨hR.len,hR.val,by simp[σ₁,hR.llen],λi r hr=>?_⟩
     simp only[qaV]at hr
     split at hr
     next hi=>
      subst hi
      split at hr
      next hlt=>
       cases hr
       exact⟨by simp only[σ₁];rw[qaD (by rw[←hR.llen];exact hlt)],hx⟩
      ·cases hr
     next hi=>
      have:=hR.row i r hr
      have hne:σ₁.loc[i]?=σ.loc[i]?:=by simp only[σ₁];rw[qai hi]
      cases r<;>first|trivial|(simp only[LR.ok]at this ⊢;rw[hne];exact this)
    have hkey:tV X.pts o=some d:=by
     rcases hb with⟨y,hb⟩|hb<;>(simp only[tV,hb,hd];rw[if_pos hp])
    have hrow':iY X.pts o=some d:=by
     rcases hb with⟨y,hb⟩|hb<;>(simp only[iY,hb,hd];rw[if_pos hp])
    refine⟨σ₁.put o.dst (.pointer (some ⟨d,0,some 0⟩)),_,h,.inl ⟨_,heff,(σ₁,.pointer (some ⟨d,0,some 0⟩)),by simp[aO,hloc,σ₁],rfl⟩,?_,?_,?_,hk⟩
    ·rw[hd];exact hR1.put d (s:=.lad d 0) trivial
    ·rw[ha];cases o.dst<;>rfl
    ·have hf:=Fr.put (σ:=σ₁) o.dst (.pointer (some ⟨d,0,some 0⟩)) [d] [d]
     have h0:Fr o.dst.toList [d] [d] σ σ₁:=by
      refine⟨rfl,by simp[σ₁],λ_ _ h _ _=>h,λ_ _ _ h _ _=>h,λs y hs hn=>?_,λs vs hs hn=>?_⟩
      ·simp only[qau]at hn
       simp only[σ₁]
       rw[qai (λe=>hn e.symm)];exact hs
      ·simp only[qau]at hn
       refine⟨vs,?_,rfl⟩
       simp only[σ₁]
       rw[qai (λe=>hn e.symm)];exact hs
     rw[hkey,hrow']
     exact h0.trans hf
   ·exact absurd hk hA.fail
  next hp=>
   have hp:¬X.pts.getD d 0=d+2:=λe=>by rw[e]at hp;simp at hp
   obtain⟨h',e1,e2⟩:=hA.new _ _ _ hk
   rw[ha]at e1 e2
   have heff:aq X.C X.pts (oval σ.tmps) o=some (.hop λH=>some (H++[.cells x.val.cells.toList (kU X.C.P t) true],.pointer (some ⟨H.length,0,none⟩))):=by
    rw[he,hd]
    unfold cp
    simp only[hnt,qal,if_false,hok,qaF,hp]
   rw[←hd]at e2
   refine da (s:=.st (.leaf (.v (.pointer (some ⟨σ.heap.length,0,none⟩))))) hR e1 (λl hl=>?_) heff ?_ e2
   ·simp only[S0.cells,qau]at hl
    subst hl;rfl
   ·simp only[eP];rfl
def vY(new:List Value):∀(off k:Nat) (cs:List Value),off+k+new.length<=cs.length->
  ((new.zipIdx k).foldl (λ(acc:Array Value) (p:Value×Nat)=>acc.setIfInBounds (off+p.2) p.1) cs.toArray).toList=cs.take (off+k)++new++cs.drop (off+k+new.length):=by
 induction new with
 |nil=>intro off k cs h;simp
 |cons a l ih=>
  intro off k cs h
  simp only[qaC]at h
  simp only[List.zipIdx_cons,qcq]
  have hset:(cs.toArray.setIfInBounds (off+k) a)=(cs.set (off+k) a).toArray:=by simp
  rw[hset,ih off (k+1) (cs.set (off+k) a) (by simp;omega)]
  rw[List.take_set,List.drop_set]
  have h1:(cs.take (off+(k+1))).set (off+k) a=cs.take (off+k)++[a]:=by
   rw[show off+(k+1)=(off+k)+1 from by omega]
   rw[List.take_succ_eq_append_getElem (by omega),List.set_append]
   simp[qb0 (show off+k<=cs.length by omega)]
  rw[h1]
  rw[if_pos (show off+k<off+(k+1)+l.length by omega),show off+(k+1)+l.length=off+k+(l.length+1)by omega]
  simp only[qaN,qaI,qaG,qaC]
def rf(pl:Nat->Option (Nat×Nat)):∀(ps:List (Nat×S0)) (cs r:List SL),(∀p∈ps,p.2.good)->re pl cs ps=some r->
  Instr.fill pl ⟨cs.map SL.val⟩ (ps.map λp=>(p.1,p.2.val))=some ⟨r.map SL.val⟩
 | [],cs,r,_,hf=>by cases hf;rfl
 |(i,x) :: ps,cs,r,hg,hf=>by
  simp only[re]at hf
  split at hf
  next off n hpl=>
   split at hf
   next hn=>
    split at hf
    next cs1 hs=>
     have hn:x.cells.length=n:=by simpa using hn
     have hx:x.good:=hg (i,x) (by simp)
     have hc:=S0.cells_val hx
     unfold gW at hs
     split at hs
     next hle=>
      cases hs
      have ih:=rf pl ps _ r (λp hp=>hg p (by simp[hp])) hf
      simp only[qav,Instr.fill,hpl,hc]
      have hsz:(⟨x.cells.map SL.val⟩ : Array Value).size=n:=by simp[hn]
      rw[if_neg (by
       have h2:(⟨cs.map SL.val⟩ : Array Value).size=cs.length:=by simp
       rw[hsz,h2];simp;omega)]
      rw[←ih]
      congr 1
      have hfold:=vY (x.cells.map SL.val) off 0 (cs.map SL.val) (by simp;omega)
      apply qa7.1
      rw[←qco,qda]
      refine Eq.trans hfold ?_
      simp[qcm,qcu]
     ·cases hs
    ·cases hf
   ·cases hf
  ·cases hf
def py(pl:Nat->Option (Nat×Nat)):∀(ps:List (Nat×S0)) (cs r:List SL),(∀c∈cs,c.good)->(∀p∈ps,p.2.good)->re pl cs ps=some r->∀c∈r,c.good
 | [],cs,r,hc,_,hf=>by cases hf;exact hc
 |(i,x) :: ps,cs,r,hc,hg,hf=>by
  simp only[re]at hf
  split at hf
  ·split at hf
   ·split at hf
    next cs1 hs=>
     refine py pl ps cs1 r (λc hm=>?_) (λp hp=>hg p (by simp[hp])) hf
     unfold gW at hs
     split at hs
     ·cases hs
      simp only[qaH]at hm
      rcases hm with(hm|hm)|hm
      ·exact hc c (qbp hm)
      ·exact hg (i,x) (by simp) c hm
      ·exact hc c (qbD hm)
     ·cases hs
    ·cases hf
   ·cases hf
  ·cases hf
def qr{ps:List (Nat×Operand)}{xs:List S0}(hv:(ps.map (·.2)).map (oval σ.tmps)=ah xs) :
  ps.map (λp=>(p.1,oval σ.tmps p.2))=((ps.map (·.1)).zip xs).map λp=>(p.1,p.2.val):=by
 induction ps generalizing xs with
 |nil=>simp
 |cons p ps ih=>
  cases xs with
  |nil=>simp[ah]at hv
  |cons x xs=>
   simp only[qav,ah,qa2]at hv
   simp only[qav,qcp,hv.1]
   rw[ih (xs:=xs) hv.2]
def so{is:List Nat}{xs:List S0}(hg:∀x∈xs,x.good):∀p∈is.zip xs,p.2.good:=λ_ hp=>hg _ (List.of_mem_zip hp).2
def sj{P:Program}{t:TypeId}{x:S0}(hz:vX P t=some x):∃z,dG P t=some z/\x.val=z/\x.good:=by
 unfold vX at hz
 obtain⟨z,h1,h2⟩:=qas.1 hz
 obtain⟨h3,h4,_⟩:=rU h2
 exact⟨z,h1,h3,h4⟩
def build_ok(hA:AlgOk A X.C Sg X.T holds abs)(hR:Rp ev σ)(ha:abs h=σ.heap){t:TypeId}{ps:Array (Nat×Operand)}(ho:o.op = .build t ps)
  (hk:holds (match vX X.C.P t,mI X.C.P t,svals ev (ps.toList.map (·.2))with
  |some z,some pl,some xs=>match re pl z.cells ((ps.toList.map (·.1)).zip xs)with
   |some cs=>setD o.dst (.st (.agg cs)) ev h K
   |none=>A.fail
  |_,_,_=>A.fail)):Done X holds abs o σ K:=by
 split at hk
 next z pl xs e1 e2 e3=>
  split at hk
  next cs e4=>
   obtain⟨zv,hz1,hz2,hz3⟩:=sj e1
   obtain⟨hv,hg⟩:=hR.svals e3
   have hzc:=S0.cells_val hz3
   have hfill:=rf pl _ _ _ (so (is:=ps.toList.map (·.1)) hg) e4
   have hgood:=py pl _ _ _ (λc hc=>hz3 c hc) (so (is:=ps.toList.map (·.1)) hg) e4
   refine aB hR ha (s:=.st (.agg cs)) hgood ?_ hk
   have hall:(ps.toList.all λp=>!aI (oval σ.tmps p.2))=true:=by
    simp only[qab,qbQ]
    intro p hp
    have hm:oval σ.tmps p.2∈ah xs:=by
     rw[←hv]
     exact qaM.2 ⟨p.2,qaM.2 ⟨p,hp,rfl⟩,rfl⟩
    simp only[ah,qaM]at hm
    obtain⟨x,hx,e⟩:=hm
    rw[←e]
    exact S0.not_tuple (hg x hx)
   simp only[aq,ho,hall,if_true,sF,hz1,e2]
   rw[qr hv,←hz2,hzc,hfill]
   rfl
  ·exact absurd hk hA.fail
 ·exact absurd hk hA.fail
end
def SL.lf_val{a b:SL}{k:LK}(ha:a.is k=true)(hb:b.is k=true)(he:a.lf=b.lf):a.val=b.val/\(a.good->b.good):=by
 cases a<;>cases b<;>cases k<;>simp only[SL.lf,Lf.i.injEq,Lf.b.injEq,Lf.v.injEq,reduceCtorEq,SL.is,qal]at he ha hb ⊢<;>try (subst he;exact⟨rfl,id⟩)
 subst he
 exact⟨by simp only[SL.val];rw[dw ha,dw hb],id⟩
def bC:∀ {cs:List SL} {ks:List LK},aQ cs ks=true->cs.length=ks.length
 | [],[],_=>rfl
 |c :: cs,k :: ks,h=>by
  simp only[aQ,qaa]at h
  simp[bC h.2]
 | [],_ :: _,h=>by cases h
 |_ :: _,[],h=>by cases h
def gu:∀ {a b:List SL} {ks:List LK},aQ a ks=true->aQ b ks=true->a.map SL.lf=b.map SL.lf->a.map SL.val=b.map SL.val/\((∀c∈a,c.good)->∀c∈b,c.good)
 | [],[],[],_,_,_=>⟨rfl,λ_ _ h=>by cases h⟩
 |a :: as0,b :: bs,k :: ks,ha,hb,he=>by
  simp only[aQ,qaa]at ha hb
  simp only[qav,qa2]at he
  obtain⟨h1,h2⟩:=SL.lf_val ha.1 hb.1 he.1
  obtain⟨h3,h4⟩:=gu ha.2 hb.2 he.2
  refine⟨by simp[h1,h3],λhg c hc=>?_⟩
  rcases qak.1 hc with rfl|hc
  ·exact h2 (hg a (by simp))
  ·exact h4 (λc hc=>hg c (by simp[hc])) c hc
 | [],_ :: _,[],_,hb,_=>by cases hb
 | [],_,_ :: _,ha,_,_=>by cases ha
 |_ :: _,_,[],ha,_,_=>by cases ha
 |_ :: _,[],_ :: _,_,hb,_=>by cases hb
def S0.is_val{a b:S0}{sk:SK}(ha:a.is sk=true)(hb:b.is sk=true)(he:a.cells.map SL.lf=b.cells.map SL.lf):a.val=b.val/\(a.good->b.good):=by
 cases sk with
 |leaf k=>
  cases a with
  |agg _=>cases ha
  |leaf a=>
   cases b with
   |agg _=>cases hb
   |leaf b=>
    simp only[S0.cells,qav,qbk,qa2,and_true]at he
    obtain⟨h1,h2⟩:=SL.lf_val ha hb he
    refine⟨h1,λhg l hl=>?_⟩
    simp only[S0.cells,qau]at hl
    subst hl
    exact h2 (hg a (by simp[S0.cells]))
 |agg ks=>
  cases a with
  |leaf _=>cases ha
  |agg a=>
   cases b with
   |leaf _=>cases hb
   |agg b=>
    obtain⟨h1,h2⟩:=gu ha hb he
    exact⟨by simp only[S0.val,h1],h2⟩
def S0.is_len{a:S0}{sk:SK}(ha:a.is sk=true):∃n,a.cells.length=n/\∀b:S0,b.is sk=true->b.cells.length=n:=by
 refine⟨_,rfl,λb hb=>?_⟩
 cases sk with
 |leaf k=>
  cases a with
  |agg _=>cases ha
  |leaf a=>cases b with
   |agg _=>cases hb
   |leaf b=>rfl
 |agg ks=>
  cases a with
  |leaf _=>cases ha
  |agg a=>cases b with
   |leaf _=>cases hb
   |agg b=>exact(bC hb).trans (bC ha).symm
def cG:∀ {a b:List S0} {sks:List SK},bJ a sks=true->bJ b sks=true->bK a=bK b->ah a=ah b/\((∀c∈a,c.good)->∀c∈b,c.good)
 | [],[],[],_,_,_=>⟨rfl,λ_ _ h=>by cases h⟩
 |a :: as0,b :: bs,k :: ks,ha,hb,he=>by
  simp only[bJ,qaa]at ha hb
  obtain⟨n,hn1,hn2⟩:=S0.is_len ha.1
  have hn2:=hn2 b hb.1
  simp only[bK]at he
  obtain⟨he1,he2⟩:=qdA he (by simp[hn1,hn2])
  obtain⟨h1,h2⟩:=S0.is_val ha.1 hb.1 he1
  obtain⟨h3,h4⟩:=cG ha.2 hb.2 he2
  refine⟨by simp only[ah,qav,h1]at h3 ⊢;rw[h3],λhg c hc=>?_⟩
  rcases qak.1 hc with rfl|hc
  ·exact h2 (hg a (by simp))
  ·exact h4 (λc hc=>hg c (by simp[hc])) c hc
 | [],_ :: _,[],_,hb,_=>by cases hb
 | [],_,_ :: _,ha,_,_=>by cases ha
 |_ :: _,_,[],ha,_,_=>by cases ha
 |_ :: _,[],_ :: _,_,hb,_=>by cases hb
section
variable [Val] [Kno] {R HT:Type} {A:Alg R HT} {X:Ctxt} {Sg:FuncId->Option Sig} {holds:R->Prop} {abs:HT->List HObj}
variable {ev:Env} {σ:St} {h:HT} {o:Oper} {K:KN R HT}
def qo{C:Cfg}{T:Nat->Site}(hA:AlgOk A C Sg T holds abs):∀ {ks:List LK} {ls:List Lf} {K:List SL->List Lf->R},holds (unL A ks ls K)->
  ∃cs r,ls=cs.map SL.lf++r/\aQ cs ks=true/\holds (K cs r)
 | [],ls,K,hk=>⟨[],ls,rfl,rfl,hk⟩
 | .i k :: ks,ls,K,hk=>by
  obtain⟨n,r,rfl,hk1⟩:=hA.unI _ _ hk
  obtain⟨cs,r',rfl,h2,h3⟩:=qo hA (ks:=ks) hk1
  exact⟨.i k n :: cs,r',rfl,by simp[aQ,SL.is,dL,h2],h3⟩
 | .b :: ks,ls,K,hk=>by
  obtain⟨n,r,rfl,hk1⟩:=hA.unB _ _ hk
  obtain⟨cs,r',rfl,h2,h3⟩:=qo hA (ks:=ks) hk1
  exact⟨.b n :: cs,r',rfl,by simp[aQ,SL.is,h2],h3⟩
 | .v :: ks,ls,K,hk=>by
  obtain⟨n,r,rfl,hk1⟩:=hA.unV _ _ hk
  obtain⟨cs,r',rfl,h2,h3⟩:=qo hA (ks:=ks) hk1
  exact⟨.v n :: cs,r',rfl,by simp[aQ,SL.is,h2],h3⟩
def unS_ok{C:Cfg}{T:Nat->Site}(hA:AlgOk A C Sg T holds abs){sk:SK}{ls:List Lf}{K:S0->List Lf->R}(hk:holds (unS A sk ls K)) :
  ∃x r,ls=x.cells.map SL.lf++r/\x.is sk=true/\holds (K x r):=by
 cases sk with
 |leaf k=>
  cases k with
  |i k=>
   obtain⟨n,r,rfl,hk1⟩:=hA.unI _ _ hk
   exact⟨.leaf (.i k n),r,rfl,by simp[S0.is,SL.is,dL],hk1⟩
  |b=>
   obtain⟨n,r,rfl,hk1⟩:=hA.unB _ _ hk
   exact⟨.leaf (.b n),r,rfl,rfl,hk1⟩
  |v=>
   obtain⟨n,r,rfl,hk1⟩:=hA.unV _ _ hk
   exact⟨.leaf (.v n),r,rfl,rfl,hk1⟩
 |agg ks=>
  obtain⟨cs,r,h1,h2,h3⟩:=qo hA hk
  exact⟨.agg cs,r,h1,h2,h3⟩
def oK{C:Cfg}{T:Nat->Site}(hA:AlgOk A C Sg T holds abs):∀ {sks:List SK} {ls:List Lf} {K:List S0->List Lf->R},holds (unSs A sks ls K)->
  ∃xs r,ls=bK xs++r/\bJ xs sks=true/\holds (K xs r)
 | [],ls,K,hk=>⟨[],ls,rfl,rfl,hk⟩
 |sk :: sks,ls,K,hk=>by
  have hk0:holds (unS A sk ls λx r=>unSs A sks r λxs r=>K (x :: xs) r):=hk
  obtain⟨x,r,rfl,h1,hk1⟩:=unS_ok hA hk0
  obtain⟨xs,r',rfl,h2,h3⟩:=oK hA (sks:=sks) hk1
  exact⟨x :: xs,r',by simp[bK],by simp[bJ,h1,h2],h3⟩
def xU{C:Cfg}{T:Nat->Site}(hA:AlgOk A C Sg T holds abs):∀ {ks:List LK} {ls:List Value} {K:List SL->List Value->R},holds (ucL A ks ls K)->
  ∃cs r,ls=cs.map SL.val++r/\aQ cs ks=true/\(∀c∈cs,c.good)/\holds (K cs r)
 | [],ls,K,hk=>⟨[],ls,rfl,rfl,by simp,hk⟩
 | .i k :: ks,ls,K,hk=>by
  obtain⟨n,r,rfl,hk1⟩:=hA.ucI _ _ _ hk
  obtain⟨cs,r',rfl,h2,h3,h4⟩:=xU hA (ks:=ks) hk1
  exact⟨.i k n :: cs,r',rfl,by simp[aQ,SL.is,dL,h2],qbo.2 ⟨trivial,h3⟩,h4⟩
 | .b :: ks,ls,K,hk=>by
  obtain⟨n,r,rfl,hk1⟩:=hA.ucB _ _ hk
  obtain⟨cs,r',rfl,h2,h3,h4⟩:=xU hA (ks:=ks) hk1
  exact⟨.b n :: cs,r',rfl,by simp[aQ,SL.is,h2],qbo.2 ⟨trivial,h3⟩,h4⟩
 | .v :: ks,ls,K,hk=>by
  obtain⟨n,r,rfl,hk1⟩:=hA.ucV _ _ hk
  obtain⟨hg,hk2⟩:=hA.chk _ _ hk1
  obtain⟨cs,r',rfl,h2,h3,h4⟩:=xU hA (ks:=ks) hk2
  exact⟨.v n :: cs,r',rfl,by simp[aQ,SL.is,h2],qbo.2 ⟨hg,h3⟩,h4⟩
def oJ{C:Cfg}{T:Nat->Site}(hA:AlgOk A C Sg T holds abs){sk:SK}{ls:List Value}{K:S0->List Value->R}(hk:holds (ucS A sk ls K)) :
  ∃x r,ls=x.cells.map SL.val++r/\x.is sk=true/\x.good/\holds (K x r):=by
 cases sk with
 |leaf k=>
  cases k with
  |i k=>
   obtain⟨n,r,rfl,hk1⟩:=hA.ucI _ _ _ hk
   exact⟨.leaf (.i k n),r,rfl,by simp[S0.is,SL.is,dL],λl hl=>by simp only[S0.cells,qau]at hl;subst hl;trivial,hk1⟩
  |b=>
   obtain⟨n,r,rfl,hk1⟩:=hA.ucB _ _ hk
   exact⟨.leaf (.b n),r,rfl,rfl,λl hl=>by simp only[S0.cells,qau]at hl;subst hl;trivial,hk1⟩
  |v=>
   obtain⟨n,r,rfl,hk1⟩:=hA.ucV _ _ hk
   obtain⟨hg,hk2⟩:=hA.chk _ _ hk1
   exact⟨.leaf (.v n),r,rfl,rfl,λl hl=>by simp only[S0.cells,qau]at hl;subst hl;exact hg,hk2⟩
 |agg ks=>
  obtain⟨cs,r,h1,h2,h3,h4⟩:=xU hA hk
  exact⟨.agg cs,r,h1,h2,h3,h4⟩
def ucSs_ok{C:Cfg}{T:Nat->Site}(hA:AlgOk A C Sg T holds abs):∀ {sks:List SK} {ls:List Value} {K:List S0->List Value->R},holds (ucSs A sks ls K)->
  ∃xs r,ls=me xs++r/\bJ xs sks=true/\(∀x∈xs,x.good)/\holds (K xs r)
 | [],ls,K,hk=>⟨[],ls,rfl,rfl,by simp,hk⟩
 |sk :: sks,ls,K,hk=>by
  have hk0:holds (ucS A sk ls λx r=>ucSs A sks r λxs r=>K (x :: xs) r):=hk
  obtain⟨x,r,rfl,h1,hg,hk1⟩:=oJ hA hk0
  obtain⟨xs,r',rfl,h2,h3,h4⟩:=ucSs_ok hA (sks:=sks) hk1
  refine⟨x :: xs,r',by simp[me],by simp[bJ,h1,h2],λc hc=>?_,h4⟩
  rcases qak.1 hc with rfl|hc
  ·exact hg
  ·exact h3 c hc
def mkV(agg:Bool)(cs:List Value)(v:Value):Prop:=(agg=true/\v = .agg ⟨cs⟩)∨(agg=false/\cs=[v])
def pO{x:S0}{sk:SK}(hx:x.is sk=true){v:Value}(hv:mkV (jb sk) (x.cells.map SL.val) v):x.val=v:=by
 cases sk with
 |leaf k=>
  cases x with
  |agg _=>cases hx
  |leaf l=>
   rcases hv with⟨h,_⟩|⟨_,h⟩
   ·cases h
   ·simp only[S0.cells,qav,qbk,qa2,and_true]at h
    exact h
 |agg ks=>
  cases x with
  |leaf _=>cases hx
  |agg cs=>
   rcases hv with⟨_,h⟩|⟨h,_⟩
   ·exact h.symm
   ·cases h
def eqB_eq{a b:Bool}(h:eqB a b=true):a=b:=by cases a<;>cases b<;>first|rfl|cases h
def nM{agg:Bool}{cs:List SL}{x:S0}(hx:mkS0 agg cs=some x):x.cells=cs/\mkV agg (cs.map SL.val) x.val:=by
 unfold mkS0 at hx
 split at hx
 ·cases hx;exact⟨rfl,.inl ⟨rfl,rfl⟩⟩
 ·cases hx;exact⟨rfl,.inr ⟨rfl,rfl⟩⟩
 ·cases hx
def cP{P:Program}{t:TypeId}{agg:Bool}(hag:aggT P t=some agg){vs cs:List Value}{off:Nat}(hc:cut vs off (if agg then P.cellsOf t else 1)=some cs) :
  ∃v,dh P t vs off=some v/\mkV agg cs v:=by
 unfold aggT at hag
 unfold dh
 split at hag
 next fs e=>
  cases hag
  rw[e]
  simp only[if_true]at hc
  exact⟨.agg ⟨cs⟩,by simp[hc],.inl ⟨rfl,rfl⟩⟩
 next fs e=>
  cases hag
  rw[e]
  simp only[if_true]at hc
  exact⟨.agg ⟨cs⟩,by simp[hc],.inl ⟨rfl,rfl⟩⟩
 next d h1 h2 e=>
  cases hag
  rw[e]
  simp only[qal,if_false]at hc
  unfold cut at hc
  split at hc
  next hle=>
   cases hc
   have hlt:off<vs.length:=by omega
   have hcs:(vs.drop off).take 1=[vs[off]]:=by
    rw[qbm hlt];rfl
   refine⟨vs[off],?_,.inr ⟨rfl,hcs⟩⟩
   simp[hlt]
  ·cases hc
 ·cases hag
def kW(hA:AlgOk A X.C Sg X.T holds abs){dst:Option Tmp}{sk:SK}{cs:List Value}{v:Value}(hv:mkV (jb sk) cs v)(hk:holds (setC A dst sk cs ev h K)) :
  ∃x:S0,x.val=v/\x.good/\holds (setD dst (.st x) ev h K):=by
 obtain⟨x,r,h1,h2,h3,hk1⟩:=oJ hA hk
 obtain⟨hr,hk2⟩:=hA.uc0 _ _ hk1
 rw[hr,qaX]at h1
 subst h1
 exact⟨x,pO h2 hv,h3,hk2⟩
def nk{cs ds:List SL}{off n:Nat}(hc:cutS cs off n=some ds):cut (cs.map SL.val) off n=some (ds.map SL.val)/\(∀d∈ds,d∈cs):=by
 unfold cutS at hc
 unfold cut
 split at hc
 next hle=>
  cases hc
  rw[if_pos (by simpa using hle)]
  exact⟨by simp[qcu,qcm],λd hd=>qbD (qbp hd)⟩
 ·cases hc
def jH(hR:Rp ev σ){s:Nat}{cs:List SL}(hr:rQ ev s=some cs):σ.loc[s]?=some (some (cs.map SL.val))/\(∀c∈cs,c.good)/\ev.lc[s]?=some (.row cs):=by
 unfold rQ at hr
 split at hr
 next ds e=>
  cases hr
  rw[List.getD_eq_getElem?_getD]at e
  cases he:ev.lc[s]? with
  |none=>rw[he]at e;cases e
  |some r=>
   rw[he]at e
   simp only[qbs]at e
   subst e
   have:=hR.row s _ he
   exact⟨this.1,this.2,rfl⟩
 ·cases hr
def xi{cs:List SL}{base:Nat}{ix:List (Int×Nat)}{n:Nat}{ls:List Lf}(hp:dO (cs.map SL.lf) base ix n=some ls) :
  ∃ds,cutS cs (offX base ix) n=some ds/\ls=ds.map SL.lf:=by
 rw[pickL_eq]at hp
 split at hp
 next hle=>
  cases hp
  refine⟨_,by unfold cutS;rw[if_pos (by simpa using hle)],by simp[qcu,qcm]⟩
 ·cases hp
def offX_le:∀(ix:List (Int×Nat)) (base:Nat),base<=offX base ix
 | [],base=>qan _
 |p :: l,base=>qbw (qdr _ _) (offX_le l _)
def lX{cs ds:List SL}{ks:List LK}:∀ {ix:List (Int×Nat)} {base:Nat},sA cs ks base ix=true->cutS cs (offX base ix) ks.length=some ds->aQ ds ks=true
 | [],base,h1,h2=>by
  simp only[sA,offX]at h1 h2
  rw[h2]at h1
  exact h1
 |p :: l,base,h1,h2=>by
  simp only[sA,qaa,qab,qbQ,offX]at h1 h2
  obtain⟨h0,h1⟩:=h1
  refine lX (ix:=l) (h1 p.1.toNat ?_) h2
  have hp:p.2≠0:=λe=>by rw[e]at h0;cases h0
  have hle:offX (base+p.1.toNat*p.2) l<=cs.length:=by
   unfold cutS at h2
   split at h2
   ·omega
   ·cases h2
  have:=offX_le l (base+p.1.toNat*p.2)
  have h3:p.1.toNat<=p.1.toNat*p.2:=Nat.le_mul_of_pos_right _ (Nat.pos_of_ne_zero hp)
  simp only[qad]
  omega
def is_skKs{x:S0}{sk:SK}(hx:x.is sk=true):aQ x.cells (skKs sk)=true:=by
 cases sk with
 |leaf k=>
  cases x with
  |agg _=>cases hx
  |leaf l=>simp[S0.cells,skKs,aQ];exact hx
 |agg ks=>
  cases x with
  |leaf _=>cases hx
  |agg cs=>exact hx
def setL_ok(hA:AlgOk A X.C Sg X.T holds abs){dst:Option Tmp}{sk:SK}{ds:List SL}{v:Value}(hd:aQ ds (skKs sk)=true)(hg:∀c∈ds,c.good)(hv:mkV (jb sk) (ds.map SL.val) v)
  (hk:holds (setL A dst sk (ds.map SL.lf) ev h K)):∃x:S0,x.val=v/\x.good/\holds (setD dst (.st x) ev h K):=by
 obtain⟨x,r,e1,e2,hk1⟩:=unS_ok hA hk
 obtain⟨hr0,hk2⟩:=hA.un0 _ _ hk1
 rw[hr0,qaX]at e1
 obtain⟨h1,h2⟩:=gu hd (is_skKs e2) e1
 rw[h1]at hv
 exact⟨x,pO e2 hv,h2 hg,hk2⟩
def is_lk(c:SL):c.is c.lk=true:=by cases c<;>first|rfl|exact dL _
def lY:∀cs:List SL,aQ cs (cs.map SL.lk)=true
 | []=>rfl
 |c :: cs=>by simp[aQ,is_lk,lY cs]
def gt:∀ {a b:List SL} {ka kb:List LK},aQ a ka=true->aQ b kb=true->aQ (a++b) (ka++kb)=true
 | [],b,[],kb,_,h=>h
 |a :: as0,b,k :: ka,kb,h1,h2=>by
  simp only[aQ,qaa,qaI]at h1 ⊢
  exact⟨h1.1,gt h1.2 h2⟩
 | [],_,_ :: _,_,h,_=>by cases h
 |_ :: _,_,[],_,h,_=>by cases h
end
section
variable [Val] [Kno] {R HT:Type} {A:Alg R HT} {X:Ctxt} {Sg:FuncId->Option Sig} {holds:R->Prop} {abs:HT->List HObj}
variable {ev:Env} {σ:St} {h:HT} {o:Oper} {K:KN R HT}
def sI(H:List HObj)(id:Nat):gz (λi=>H[i]?) id=eP H id:=rfl
def ldP_ok{n:Nat}{p:Value}{g:cr}{cs:List Value}(h:ldP n p g=some cs):∃id off vs,p = .pointer (some ⟨id,off,none⟩)/\gz g id=some vs/\cut vs off n=some cs:=by
 unfold ldP at h
 split at h
 next a=>
  split at h
  next hs=>
   obtain⟨vs,h1,h2⟩:=qas.1 h
   obtain⟨b,f,sp⟩:=a
   simp only at hs
   subst hs
   exact⟨b,f,vs,rfl,h1,h2⟩
  ·cases h
 ·cases h
def lgP_ok{C:Cfg}{n:Nat}{p:Value}{g:cr}{cs:List Value}(h:lgP C n p g=some cs):(∃id off vs,p = .pointer (some ⟨id,off,none⟩)/\gz g id=some vs/\cut vs off n=some cs)∨∃id off vs,p = .pointer (some ⟨id,off,some 1⟩)/\C.G id=some vs/\cut vs off n=some cs:=by
 unfold lgP at h
 split at h
 next a=>
  split at h
  next hs=>
   obtain⟨vs,h1,h2⟩:=qas.1 h
   obtain⟨b,f,sp⟩:=a
   simp only at hs
   subst hs
   exact .inl ⟨b,f,vs,rfl,h1,h2⟩
  next k hs=>
   split at h
   next hb=>
    obtain⟨vs,h1,h2⟩:=qas.1 h
    obtain⟨b,f,sp⟩:=a
    simp only at hs
    subst hs
    rw[qac hb]
    exact .inr ⟨b,f,vs,rfl,h1,h2⟩
   ·cases h
 ·cases h
def load_ok(hA:AlgOk A X.C Sg X.T holds abs)(hR:Rp ev σ)(ha:abs h=σ.heap){t:TypeId}{a:Operand}{sk:SK}{agg:Bool}(ho:o.op = .load t a)(hag:aggT X.C.P t=some agg)
  (hsk:agg=jb sk) (hk:holds (loadE A X o.dst sk agg (if agg then X.C.P.cellsOf t else 1) a ev h K)):Done X holds abs o σ K:=by
 have heff:aq X.C X.pts (oval σ.tmps) o=dM X.C X.pts t a (oval σ.tmps a):=by simp only[aq,ho]
 unfold loadE at hk
 split at hk
 next p hkey he=>
  obtain⟨h1,_⟩:=hR.sval he (by simp)
  obtain⟨cs,h2,hk1⟩:=hA.peek _ _ _ hk
  simp only[Pk.run]at h2
  rw[ha]at h2
  rcases lgP_ok h2 with⟨id,off,vs,rfl,h3,h4⟩|⟨id,off,vs,rfl,h3,h4⟩
  ·rw[sI]at h3
   obtain⟨v,h5,h6⟩:=cP hag h4
   rw[hsk]at h6
   obtain⟨x,rfl,h7,hk2⟩:=kW hA h6 hk1
   refine gF hR ha (s:=.st x) h7 (f:=λH=>(eP H id).bind λvs=>dh X.C.P t vs off) ?_ ?_ hk2
   ·rw[heff,dM,hkey,h1];rfl
   ·simp only[h3,qaj,h5];rfl
  ·obtain⟨v,h5,h6⟩:=cP hag h4
   rw[hsk]at h6
   obtain⟨x,rfl,h7,hk2⟩:=kW hA h6 hk1
   refine gF hR ha (s:=.st x) h7 (f:=λ_=>(X.C.G id).bind λvs=>dh X.C.P t vs off) ?_ ?_ hk2
   ·rw[heff,dM,hkey,h1];rfl
   ·simp only[h3,qaj,h5];rfl
 next g off hkey he=>
  obtain⟨h1,_⟩:=hR.sval he (by simp)
  split at hk
  next vs hg=>
   split at hk
   next cs hc=>
    obtain⟨v,h5,h6⟩:=cP hag hc
    have hval:aq X.C X.pts (oval σ.tmps) o=some (.val v):=by
     rw[heff,dM,hkey,h1]
     simp only[SV.val,fR,if_true,qaj,hg,h5,qaz]
    split at hk
    next x hsc hm=>
     obtain⟨hm1,hm2⟩:=nM hm
     have hcs:(cs.map slOf).map SL.val=cs:=by
      rw[qdh]
      have:(SL.val ∘ slOf)=id:=funext rY
      rw[this,List.map_id]
     rw[hcs]at hm2
     have hv:x.val=v:=by
      rcases hm2 with⟨a1,a2⟩|⟨a1,a2⟩<;>rcases h6 with⟨b1,b2⟩|⟨b1,b2⟩
      ·rw[a2,b2]
      ·rw[a1]at b1;cases b1
      ·rw[a1]at b1;cases b1
      ·rw[a2]at b2;simpa using b2
     subst hv
     refine aB hR ha (s:=.st x) (λl hl=>?_) hval hk
     rw[hm1]at hl
     obtain⟨c,hc1,rfl⟩:=qaM.1 hl
     exact oD (qab.1 hsc c hc1)
    ·rw[hsk]at h6
     obtain⟨x,rfl,h7,hk⟩:=kW hA h6 hk
     exact aB hR ha (s:=.st x) h7 hval hk
   ·exact absurd hk hA.fail
  ·exact absurd hk hA.fail
 next g base ix hkey he=>
  obtain⟨h1,_⟩:=hR.sval he (by simp)
  split at hk
  next vs hg=>
   obtain⟨cs,hc,hk⟩:=hA.opt _ _ hk
   obtain⟨v,h5,h6⟩:=cP hag (vs:=vs) (off:=offX base ix) ((pickV_eq _ _ _ _).symm.trans hc)
   have hval:aq X.C X.pts (oval σ.tmps) o=some (.val v):=by
    rw[heff,dM,hkey,h1]
    simp only[SV.val,fR,if_true,qaj,hg,h5,qaz]
   rw[hsk]at h6
   obtain⟨x,rfl,h7,hk⟩:=kW hA h6 hk
   exact aB hR ha (s:=.st x) h7 hval hk
  ·exact absurd hk hA.fail
 next p hkey he=>
  obtain⟨h1,_⟩:=hR.sval he (by simp)
  obtain⟨cs,hc,hk1⟩:=hA.opt _ _ hk
  unfold ldGv at hc
  split at hc
  next ad=>
   split at hc
   next hsp=>
    obtain⟨vs,hg,hc⟩:=qas.1 hc
    obtain⟨v,h5,h6⟩:=cP hag hc
    have hval:aq X.C X.pts (oval σ.tmps) o=some (.val v):=by
     rw[heff,dM,hkey,h1]
     simp only[SV.val,S0.val,SL.val,fR,hsp,if_true,qaj,hg,h5,qaz]
    rw[hsk]at h6
    obtain⟨x,rfl,h7,hk2⟩:=kW hA h6 hk1
    exact aB hR ha (s:=.st x) h7 hval hk2
   ·cases hc
  ·cases hc
 next s s' off hkey he=>
  obtain⟨h1,_⟩:=hR.sval he (by simp)
  split at hk
  next x hs hx=>
   have hs:s=s':=by simpa using hs
   subst hs
   obtain⟨cs,hr,hx⟩:=qas.1 hx
   obtain⟨ds,hd,hx⟩:=qas.1 hx
   obtain⟨r1,r2,_⟩:=jH hR hr
   obtain⟨c1,c2⟩:=nk hd
   obtain⟨v,h5,h6⟩:=cP hag c1
   obtain⟨hm1,hm2⟩:=nM hx
   have hv:x.val=v:=by
    rcases hm2 with⟨a1,a2⟩|⟨a1,a2⟩<;>rcases h6 with⟨b1,b2⟩|⟨b1,b2⟩
    ·rw[a2,b2]
    ·rw[a1]at b1;cases b1
    ·rw[a1]at b1;cases b1
    ·rw[a2]at b2;simpa using b2
   subst hv
   refine dv hR σ.heap ha (s:=.st x) (λl hl=>?_) (.inl ⟨.lget s λvs=>dh X.C.P t vs off,?_,(σ,x.val),?_,rfl⟩) hk
   ·rw[hm1]at hl;exact r2 l (c2 l hl)
   ·rw[heff,dM,hkey,h1]
    simp[SV.val,iH]
   ·simp[aO,r1,h5]
  ·exact absurd hk hA.fail
 next s s' base ix hkey he=>
  obtain⟨h1,_⟩:=hR.sval he (by simp)
  split at hk
  next cs hs hr=>
   have hs:s=s':=by simpa using hs
   subst hs
   split at hk
   next hat=>
    simp only[qaa]at hat
    obtain⟨hat,hn⟩:=hat
    have hn:=qac hn
    obtain⟨ls,hp,hk1⟩:=hA.opt _ _ hk
    obtain⟨ds,hd,rfl⟩:=xi hp
    obtain⟨r1,r2,_⟩:=jH hR hr
    obtain⟨c1,c2⟩:=nk hd
    obtain⟨v,h5,h6⟩:=cP hag c1
    rw[hsk]at h6
    rw[hn]at hd
    obtain⟨x,rfl,h7,hk2⟩:=setL_ok hA (lX hat hd) (λc hc=>r2 c (c2 c hc)) h6 hk1
    refine dv hR σ.heap ha (s:=.st x) h7 (.inl ⟨.lget s λvs=>dh X.C.P t vs (offX base ix),?_,(σ,x.val),?_,rfl⟩) hk2
    ·rw[heff,dM,hkey,h1]
     simp[SV.val,iH]
    ·simp[aO,r1,h5]
   ·exact absurd hk hA.fail
  ·exact absurd hk hA.fail
 ·exact absurd hk hA.fail
def qk{cs r new:List SL}{off:Nat}(hs:gW cs off new=some r):splice (cs.map SL.val) off (new.map SL.val)=some (r.map SL.val)/\r.length=cs.length/\((∀c∈cs,c.good)->(∀c∈new,c.good)->∀c∈r,c.good):=by
 unfold gW at hs
 unfold splice
 split at hs
 next hle=>
  cases hs
  rw[if_pos (by simpa using hle)]
  refine⟨by simp[qcm,qcu],by simp;omega,λh1 h2 c hc=>?_⟩
  simp only[qaH]at hc
  rcases hc with(hc|hc)|hc
  ·exact h1 c (qbp hc)
  ·exact h2 c hc
  ·exact h1 c (qbD hc)
 ·cases hs
def vW{P:Program}{t:TypeId}{x:S0}(hx:x.good)(hlen:x.cells.length=P.cellsOf t)(hi:(P.info? t).isSome=true)(vs:List Value)(off:Nat) :
  eE P t x.val vs off=splice vs off (x.cells.map SL.val):=by
 unfold eE
 have h1:=S0.cells_val hx
 rw[if_pos ⟨by rw[h1];simpa using hlen,hi⟩,if_pos (S0.cells_ok hx),h1]
def qO(hR:Rp ev σ)(ha:abs h=σ.heap){s:Nat}{cs:List SL}{f:List Value->Option (List Value)}{vs:List Value}(he:aq X.C X.pts (oval σ.tmps) o=some (.lset s f))(hloc:σ.loc[s]?=some (some vs))
  (hf:f vs=some (cs.map SL.val)) (hlen:(cs.map SL.val).length=vs.length) (hg:∀c∈cs,c.good) (hrow:iY X.pts o=some s)
  (hk:holds (setD o.dst .un ⟨ev.tm,ev.lc.set s (.row cs)⟩ h K)):Done X holds abs o σ K:=by
 let σ₁:St:={ σ with loc:=σ.loc.set s (some (cs.map SL.val)) }
 have hlt:s<σ.loc.length:=(qaQ.1 hloc).1
 have hR1:Rp ⟨ev.tm,ev.lc.set s (.row cs)⟩ σ₁:=by
  refine⟨hR.len,hR.val,by simp[σ₁,hR.llen],λi r hr=>?_⟩
  simp only[qaV]at hr
  split at hr
  next hi=>
   subst hi
   split at hr
   ·cases hr
    exact⟨by simp only[σ₁];rw[qaD hlt],hg⟩
   ·cases hr
  next hi=>
   have:=hR.row i r hr
   have hne:σ₁.loc[i]?=σ.loc[i]?:=by simp only[σ₁];rw[qai hi]
   cases r<;>first|trivial|(simp only[LR.ok]at this ⊢;rw[hne];exact this)
 obtain⟨ev',h1,h2⟩:=vJ (dst:=o.dst) hR1 (s:=.un) trivial hk
 refine⟨σ₁.put o.dst undef,ev',h,.inl ⟨_,he,(σ₁,undef),by simp[aO,hloc,hf,σ₁],rfl⟩,h1,?_,?_,h2⟩
 ·rw[ha];cases o.dst<;>rfl
 ·have hf:=Fr.put (σ:=σ₁) o.dst undef (tV X.pts o).toList (iY X.pts o).toList
  have h0:Fr o.dst.toList (tV X.pts o).toList (iY X.pts o).toList σ σ₁:=by
   refine⟨rfl,by simp[σ₁],λ_ _ h _ _=>h,λ_ _ _ h _ _=>h,λi y hs hn=>?_,λi ws hs hn=>?_⟩
   ·rw[hrow]at hn
    simp only[Option.toList_some,qau]at hn
    simp only[σ₁]
    rw[qai (λe=>hn e.symm)];exact hs
   ·by_cases hi:i=s
    ·subst hi
     rw[hloc]at hs
     cases hs
     exact⟨_,by simp only[σ₁];rw[qaD hlt],hlen⟩
    ·exact⟨ws,by simp only[σ₁];rw[qai (λe=>hi e.symm)];exact hs,rfl⟩
  exact h0.trans hf
def stP_ok{p:Value}{new:List Value}{g:cr}{n:Nat}{acts:List Act1}{cs:List Value}(h:stP p new g n=some (acts,cs)) :
  ∃id off vs vs' e,p = .pointer (some ⟨id,off,none⟩)/\g id=some (.cells vs e true)/\splice vs off new=some vs'/\acts=[.set id (.cells vs' e true)]:=by
 unfold stP at h
 split at h
 next a=>
  split at h
  next hs=>
   split at h
   next vs e hg=>
    obtain⟨vs',h1,h2⟩:=qae.1 h
    obtain⟨b,f,sp⟩:=a
    simp only at hs
    subst hs
    cases h2
    exact⟨b,f,vs,vs',e,rfl,hg,h1,rfl⟩
   ·cases h
  ·cases h
 ·cases h
def store_ok(hA:AlgOk A X.C Sg X.T holds abs)(hR:Rp ev σ)(ha:abs h=σ.heap){t:TypeId}{a y:Operand}{x:S0}(ho:o.op = .store t a y)(hy:sval ev y = .st x)
  (hk:holds (storeE A X o.dst t a x ev h K)):Done X holds abs o σ K:=by
 obtain⟨hy1,hx⟩:=hR.sval hy (by simp)
 have hx:x.good:=hx
 have heff:aq X.C X.pts (oval σ.tmps) o=eC X.C X.pts t a (oval σ.tmps a) x.val:=by simp only[aq,ho,hy1];rfl
 have hnt:=S0.not_tuple hx
 unfold storeE at hk
 split at hk
 ·exact absurd hk hA.fail
 next hc=>
  simp only[qaa]at hc
  obtain⟨hlen,hi⟩:=hc
  have hlen:=qac hlen
  have hw:=vW (P:=X.C.P) (t:=t) hx hlen hi
  split at hk
  next p hkey he=>
   obtain⟨h1,_⟩:=hR.sval he (by simp)
   obtain⟨acts,cs,h',h2,h3,hk1⟩:=hA.heap _ _ _ hk
   simp only[Hp.run]at h2
   rw[ha]at h2 h3
   obtain⟨id,off,vs,vs',e,rfl,g1,g2,rfl⟩:=stP_ok h2
   refine da (s:=.un) hR (H':=σ.heap.set id (.cells vs' e true)) h3 trivial (f:=iT X.C t id off x.val) ?_ ?_ hk1
   ·rw[heff,eC,hnt,hkey,h1];rfl
   ·simp only[iT,g1,hw,g2,qaz];rfl
  next s s' off hkey he=>
   obtain⟨h1,_⟩:=hR.sval he (by simp)
   have hrow:iY X.pts o=some s:=by simp only[iY,ho,hkey]
   split at hk
   next cs hs hst=>
    have hs:s=s':=by simpa using hs
    subst hs
    rw[setK_eq]at hk
    have heff2:aq X.C X.pts (oval σ.tmps) o=some (.lset s λvs=>eE X.C.P t x.val vs off):=by
     rw[heff,eC,hnt,hkey,h1]
     simp[SV.val,iH]
    have hrow0:ev.lc[s]?=some (ev.lc.getD s .unk)∨ev.lc.getD s .unk = .unk:=by
     rw[List.getD_eq_getElem?_getD]
     cases ev.lc[s]?<;>simp
    unfold storeR at hst
    split at hst
    next cs0 hl=>
     obtain⟨q1,q2,q3⟩:=qk hst
     have hlc:ev.lc[s]?=some (.row cs0):=by rcases hrow0 with h|h<;>rw[hl]at h<;>first|exact h|cases h
     have hr:=hR.row s _ hlc
     exact qO hR ha heff2 hr.1 (by rw[hw];exact q1) (by simp[q2]) (q3 hr.2 hx) hrow hk
    next n hl=>
     split at hst
     next hz=>
      cases hst
      simp only[qaa]at hz
      have hz1:=qac hz.1
      have hz2:=qac hz.2
      have hlc:ev.lc[s]?=some (.any n):=by rcases hrow0 with h|h<;>rw[hl]at h<;>first|exact h|cases h
      obtain⟨vs,hv1,hv2⟩:=hR.row s _ hlc
      refine qO hR ha heff2 hv1 ?_ (by rw[hv2,hz2];simp) hx hrow hk
      rw[hw,hz1,splice,if_pos (by simp;omega)]
      simp[show vs.length<=x.cells.length by omega]
     ·cases hst
    ·cases hst
   ·exact absurd hk hA.fail
  next s s' base ix hkey he=>
   obtain⟨h1,_⟩:=hR.sval he (by simp)
   have hrow:iY X.pts o=some s:=by simp only[iY,ho,hkey]
   split at hk
   next cs hs hr=>
    have hs:s=s':=by simpa using hs
    subst hs
    split at hk
    ·exact absurd hk hA.fail
    next hat=>
     obtain⟨ls,hp,hk1⟩:=hA.opt _ _ hk
     obtain⟨cs',r,e1,e2,hk2⟩:=qo hA hk1
     obtain⟨hr0,hk3⟩:=hA.un0 _ _ hk2
     rw[hr0,qaX]at e1
     rw[setK_eq]at hk3
     obtain⟨r1,r2,_⟩:=jH hR hr
     have heff2:aq X.C X.pts (oval σ.tmps) o=some (.lset s λvs=>eE X.C.P t x.val vs (offX base ix)):=by
      rw[heff,eC,hnt,hkey,h1]
      simp[SV.val,iH]
     rw[putL_eq]at hp
     split at hp
     next hle=>
      simp only[qa3]at hle
      let off:=offX base ix
      have hmid:cutS cs off x.cells.length=some ((cs.drop off).take x.cells.length):=by unfold cutS;rw[if_pos hle]
      have hk0:aQ ((cs.drop off).take x.cells.length) (x.cells.map SL.lk)=true:=lX hat (by rw[qa3];exact hmid)
      let new:=cs.take off++x.cells++cs.drop (off+x.cells.length)
      have hsp:gW cs off x.cells=some new:=by unfold gW;rw[if_pos hle]
      obtain⟨q1,q2,q3⟩:=qk hsp
      have hkinds:aQ new (cs.map SL.lk)=true:=by
       have hsplit:cs=cs.take off++(cs.drop off).take x.cells.length++cs.drop (off+x.cells.length):=by
        rw[qaN,←qbY,qbt,qbt]
       have hlk:∀ {a b:List SL},aQ a (b.map SL.lk)=true->a.map SL.lk=b.map SL.lk:=by
        intro a b hab
        induction a generalizing b with
        |nil=>cases b with
         |nil=>rfl
         |cons _ _=>cases hab
        |cons a as0 ih=>cases b with
         |nil=>cases hab
         |cons b bs=>
          simp only[qav,aQ,qaa]at hab
          simp only[qav,ih hab.2]
          have:a.lk=b.lk:=by
           have h0:=hab.1
           cases a<;>cases b<;>first|rfl|(simp[SL.is,SL.lk]at h0;done)|(simp only[SL.is,SL.lk]at h0 ⊢;rw[dw h0])
          rw[this]
       have hm:cs.map SL.lk=(cs.take off).map SL.lk++x.cells.map SL.lk++(cs.drop (off+x.cells.length)).map SL.lk:=by
        conv=>lhs;rw[hsplit]
        simp only[qbJ]
        rw[hlk hk0]
       rw[hm]
       exact gt (gt (lY _) (lY _)) (lY _)
      have hlf:new.map SL.lf=cs'.map SL.lf:=by
       rw[←e1]
       cases hp
       simp[new,off,qcm,qcu]
      obtain⟨v1,v2⟩:=gu hkinds e2 hlf
      refine qO hR ha heff2 r1 (by rw[hw,←v1];exact q1) (by rw[←v1];simp[q2]) (v2 (q3 r2 hx)) hrow hk3
     ·cases hp
   ·exact absurd hk hA.fail
  ·exact absurd hk hA.fail
end
end Go.Am
end

/-
  PART 3 OF THE PROOF (no conditions).
-/
import Derived.Test.YtijjginiohlgoaaGreatDoorCT2
import Derived.IntWalk
set_option linter.unusedSectionVars false
set_option linter.unusedSimpArgs false
set_option linter.unusedVariables false
set_option linter.constructorNameAsVariable false
set_option linter.defProp false
noncomputable section
set_option maxRecDepth 100000
namespace Go.Am
section
variable {R HT:Type} (A:Alg R HT)
def Alg.k0(l:List Lf)(k:Value->R):R:=A.unV l λJ l=>A.un0 l (k J)
def Alg.k1(l:List Lf)(k:Int->Int->Int->Int->R):R:=A.unI l λJ l=>A.unI l λM l=>A.unI l λO l=>A.unI l λU l=>A.un0 l (k J M O U)
def Alg.k2(l:List Lf)(k:Bool->R):R:=A.unB l λJ l=>A.un0 l (k J)
def Alg.k3(l:List Value)(k:Int->R):R:=A.ucI .i64 l λJ l=>A.uc0 l (k J)
def Alg.k4(l:List Lf)(k:Value->Int->R):R:=A.unV l λJ l=>A.unI l λM l=>A.un0 l (k J M)
def Alg.k5(l:List Lf)(k:Int->R):R:=A.unI l λJ l=>A.un0 l (k J)
def Alg.k6(l:List Value)(k:Int->Int->Int->R):R:=A.ucI .i64 l λJ l=>A.ucI .i64 l λM l=>A.ucI .u8 l λO l=>A.uc0 l (k J M O)
def Alg.k7(l:List Lf)(k:Int->Int->Int->R):R:=A.unI l λJ l=>A.unI l λM l=>A.unI l λO l=>A.un0 l (k J M O)
def Alg.k8(l:List Lf)(k:Int->Int->R):R:=A.unI l λJ l=>A.unI l λM l=>A.un0 l (k J M)
def Alg.k9(l:List Value)(k:Int->Int->Int->R):R:=A.ucI .i64 l λJ l=>A.ucI .u8 l λM l=>A.ucI .u8 l λO l=>A.uc0 l (k J M O)
def Alg.k10(l:List Lf)(k:Value->Int->Int->Value->R):R:=A.unV l λJ l=>A.unI l λM l=>A.unI l λO l=>A.unV l λU l=>A.un0 l (k J M O U)
def Alg.cd(o:BinOp)(x y:Int)(p q:R):R:=A.cmp o x y λt=>A.cond t p q
def Alg.ix(e:Nat)(x:Value)(n:Int)(w:Nat)(h:HT)(k:List Value->R):R:=A.opt (idS e x n) λp=>A.peek (.lg cc w p) h k
def Alg.fx(e:Nat)(x:Value)(n:Int)(o w:Nat)(h:HT)(k:List Value->R):R:=A.opt (idS e x n) λp=>A.opt (fdP o p) λq=>A.chk q (A.peek (.lg cc w q) h k)
def qeq:(∀l k,A.k0 l k=A.unV l λa0 l=>A.un0 l (k a0))/\(∀l k,A.k1 l k=A.unI l λa0 l=>A.unI l λa1 l=>A.unI l λa2 l=>A.unI l λa3 l=>A.un0 l (k a0 a1 a2 a3))/\(∀l k,A.k2 l k=A.unB l λa0 l=>A.un0 l (k a0))/\(∀l k,A.k3 l k=A.ucI .i64 l λa0 l=>A.uc0 l (k a0))/\(∀l k,A.k4 l k=A.unV l λa0 l=>A.unI l λa1 l=>A.un0 l (k a0 a1))/\(∀l k,A.k5 l k=A.unI l λa0 l=>A.un0 l (k a0))/\(∀l k,A.k6 l k=A.ucI .i64 l λa0 l=>A.ucI .i64 l λa1 l=>A.ucI .u8 l λa2 l=>A.uc0 l (k a0 a1 a2))/\(∀l k,A.k7 l k=A.unI l λa0 l=>A.unI l λa1 l=>A.unI l λa2 l=>A.un0 l (k a0 a1 a2))/\(∀l k,A.k8 l k=A.unI l λa0 l=>A.unI l λa1 l=>A.un0 l (k a0 a1))/\(∀l k,A.k9 l k=A.ucI .i64 l λa0 l=>A.ucI .u8 l λa1 l=>A.ucI .u8 l λa2 l=>A.uc0 l (k a0 a1 a2))/\(∀l k,A.k10 l k=A.unV l λa0 l=>A.unI l λa1 l=>A.unI l λa2 l=>A.unV l λa3 l=>A.un0 l (k a0 a1 a2 a3))/\(∀o x y p q,A.cd o x y p q=A.cmp o x y λt=>A.cond t p q)/\(∀e x n w h k,A.ix e x n w h k=A.opt (idS e x n) λp=>A.peek (.lg cc w p) h k)/\(∀e x n o w h k,A.fx e x n o w h k=A.opt (idS e x n) λp=>A.opt (fdP o p) λq=>A.chk q (A.peek (.lg cc w q) h k)):=by
 refine⟨?_,?_,?_,?_,?_,?_,?_,?_,?_,?_,?_,?_,?_,?_⟩<;>intros<;>rfl
variable(ls:List Lf)(h:HT)(K:List Lf->HT->R)
def f3:R:=A.unI ls λp q=>A.unI q λr s=>A.k0 s λt=>A.call 5 [.i p,.i r,.v t] h λu w=>A.k0 u λx=>A.call 4 [.v x] w λy z=>A.k0 y λe=>A.call 6 [.v e] z λB C=>A.unV B λD E=>A.k1 E λF G H I=>A.new (.cells [e,.slice none 0 0,.slice none 0 0,.int .i64 0,.int .i64 0] 5 true) C λa J=>A.call 7 [.v (.pointer (some ⟨a,0,none⟩)),.i F,.i G,.i H] J λL f=>A.un0 L (A.join (λM N=>A.k2 M λO=>K [.b O] N) λc=>A.cd .eql I 0 (A.call 8 [.v D] f λP d=>A.k0 P λQ=>A.opt (nilP (.pointer (some ⟨a,0,none⟩))) λg=>A.chk g (A.opt (fdP 2 g) λj=>A.chk j (A.peek (.lg cc 1 j) d λS=>A.ucV S λk T=>A.chk k (A.uc0 T (A.opt (nilP (.pointer (some ⟨a,0,none⟩))) λl=>A.chk l (A.opt (fdP 4 l) λm=>A.chk m (A.peek (.lg cc 1 m) d λU=>A.k3 U λV=>A.opt (slS 1 k none (some V) none) λn=>A.chk n (A.call 8 [.v n] d λW o=>A.k0 W λX=>A.opt (qL Q X) λY=>A.cond Y (A.call 9 [] o λZ a0=>A.k2 Z λa1=>c [.b a1] a0) (c [.b false] o))))))))) (c [.b false] f))
def f4:R:=A.k0 ls λg=>A.loop (λq r l=>A.k4 r λa c=>A.opt (lenS g) λs=>A.cd .lss c s (A.loop (λt u d=>A.k4 u λm j=>A.cd .lss j 4 (A.fx 3 g c 0 1 d λw=>A.k3 w λx=>A.fx 3 g c 1 1 d λy=>A.k3 y λz=>A.new (.cells [.int .i64 x,.int .i64 z,.int .u8 j] 3 true) d λB C=>A.heap (.ap cc 3 24 m (.slice (some ⟨B,0,some 13⟩) 1 2)) C λD E=>A.ucV D λn F=>A.chk n (A.uc0 F (A.ari .add .u8 j 1 λG=>t [.v n,.i G] E))) (A.ari .add .i64 c 1 λH=>q [.v m,.i H] d)) [.v a,.i 0] l) (A.loop (λI J o=>A.k5 J λk=>A.opt (lenS a) λL=>A.cd .lss k L (A.join (λM N=>A.un0 M (A.ari .add .i64 k 1 λO=>I [.i O] N)) λp=>A.loop (λP Q e=>A.k5 Q λb=>A.cd .gtr b 0 (A.ix 3 a b 3 e λS=>A.k6 S λT U V=>A.ari .sub .i64 b 1 λW=>A.ix 3 a W 3 e λX=>A.k6 X λY Z a0=>A.call 10 [.i T,.i U,.i V,.i Y,.i Z,.i a0] e λa1 f=>A.k2 a1 λa2=>A.cond a2 (A.ari .sub .i64 b 1 λa3=>A.ari .sub .i64 b 1 λa4=>A.ix 3 a a4 3 f λa5=>A.k6 a5 λa6 a7 a8=>A.ix 3 a b 3 f λa9=>A.k6 a9 λb0 b1 b2=>A.opt (idS 3 a b) λb3=>A.heap (.st b3 [.int .i64 a6,.int .i64 a7,.int .u8 a8]) f λb8 b4=>A.opt (idS 3 a a3) λb5=>A.heap (.st b5 [.int .i64 b0,.int .i64 b1,.int .u8 b2]) b4 λb9 b6=>A.ari .sub .i64 b 1 λb7=>P [.i b7] b6) (p [] f)) (p [] e)) [.i k] o) (K [.v a] o)) [.i 1] l)) [.v (.slice none 0 0),.i 0] h
def f5:R:=A.unI ls λx y=>A.unI y λz B=>A.k0 B λg=>A.ari .rem .u8 x 7 λC=>A.conv .i64 C λD=>A.ari .sub .i64 D 3 λE=>A.ari .rem .u8 z 7 λF=>A.conv .i64 F λG=>A.ari .sub .i64 G 3 λH=>A.new (.cells [.int .i64 E,.int .i64 H,.int .u8 0] 3 true) h λI J=>A.join (λL M=>A.k0 L λN=>K [.v N] M) λj=>A.loop (λO P a=>A.k4 P λb c=>A.opt (lenS g) λQ=>A.cd .lss c Q (A.opt (lenS b) λS=>A.cd .lss S 12 (A.cd .lss c 40 (A.opt (idS 2 g c) λT=>A.opt (idP 2 1 T 0) λl=>A.chk l (A.peek (.lg cc 1 l) a λU=>A.ucI .u8 U λV W=>A.uc0 W (A.conv .i64 V λX=>A.opt (lenS b) λY=>A.ari .rem .i64 X Y λZ=>A.ix 3 b Z 3 a λa0=>A.k6 a0 λd e f=>A.opt (idS 2 g c) λa1=>A.opt (idP 2 1 a1 1) λm=>A.chk m (A.peek (.lg cc 1 m) a λa2=>A.ucI .u8 a2 λa3 a4=>A.uc0 a4 (A.ari .rem .u8 a3 4 λk=>A.cmp .eql k 0 λa5=>A.join (λa6 a7=>A.k7 a6 λn o p=>A.call 11 [.v b,.i n,.i o,.i p] a7 λa8 q=>A.k2 a8 λa9=>A.join (λb0 b1=>A.k0 b0 λb2=>A.ari .add .i64 c 1 λb3=>O [.v b2,.i b3] b1) λr=>A.cond (!a9) (A.new (.cells [.int .i64 n,.int .i64 o,.int .u8 p] 3 true) q λb4 b5=>A.heap (.ap cc 3 24 b (.slice (some ⟨b4,0,some 13⟩) 1 2)) b5 λb6 b7=>A.ucV b6 λs b8=>A.chk s (A.uc0 b8 (r [.v s] b7))) (r [.v b] q)) λt=>A.cond a5 (A.ari .add .i64 d 1 λb9=>t [.i b9,.i e,.i f] a) (A.cmp .eql k 1 λc0=>A.join (λc1 c2=>A.k7 c1 λc3 c4 c5=>t [.i c3,.i c4,.i c5] c2) λu=>A.cond c0 (A.ari .add .i64 e 1 λc6=>u [.i d,.i c6,.i f] a) (A.cmp .eql k 2 λc7=>A.join (λc8 c9=>A.k7 c8 λd0 d1 d2=>u [.i d0,.i d1,.i d2] c9) λw=>A.cond c7 (A.ari .sub .i64 d 1 λd3=>w [.i d3,.i e,.i f] a) (A.ari .sub .i64 e 1 λd4=>w [.i d,.i d4,.i f] a)))))))) (j [.v b] a)) (j [.v b] a)) (j [.v b] a)) [.v (.slice (some ⟨I,0,some 13⟩) 1 2),.i 0] J
def f6:R:=A.k0 ls λb=>A.new (.cells [.slice none 0 0] 1 true) h λa H=>A.call 12 [.v b] H λI l=>A.k5 I λm=>A.cd .neq m 0 (A.heap (.st (.pointer (some ⟨a,0,none⟩)) [.slice none 0 0]) l λb9 n=>A.peek (.ld 1 (.pointer (some ⟨a,0,none⟩))) n λJ=>A.ucV J λo L=>A.chk o (A.uc0 L (K [.v o,.i 0,.i 0,.i 0,.i m] n))) (A.call 13 [.v b] l λM N=>A.k0 M λO=>A.new (.cells [.map none] 1 true) N λe P=>A.heap (.st (.pointer (some ⟨e,0,none⟩)) [O]) P λc0 f=>A.opt (idS 3 b 0) λQ=>A.opt (fdP 0 Q) λp=>A.chk p (A.peek (.lg cc 1 p) f λS=>A.k3 S λq=>A.opt (idS 3 b 0) λT=>A.opt (fdP 1 T) λr=>A.chk r (A.peek (.lg cc 1 r) f λU=>A.k3 U λs=>A.new (.cells [.int .i64 0] 1 true) f λg V=>A.heap (.st (.pointer (some ⟨g,0,none⟩)) [.int .i64 0]) V λc1 W=>A.new (.cells [.int .i64 0] 1 true) W λc X=>A.heap (.st (.pointer (some ⟨c,0,none⟩)) [.int .i64 0]) X λc2 Y=>A.new (.cells [.nilFunc] 1 true) Y λd Z=>A.chk (.func (.func 14) ⟨[]⟩ ⟨[.pointer (some ⟨e,0,none⟩),.pointer (some ⟨a,0,none⟩),.pointer (some ⟨c,0,none⟩),.pointer (some ⟨g,0,none⟩),.pointer (some ⟨d,0,none⟩)]⟩) (A.heap (.st (.pointer (some ⟨d,0,none⟩)) [.func (.func 14) ⟨[]⟩ ⟨[.pointer (some ⟨e,0,none⟩),.pointer (some ⟨a,0,none⟩),.pointer (some ⟨c,0,none⟩),.pointer (some ⟨g,0,none⟩),.pointer (some ⟨d,0,none⟩)]⟩]) Z λc3 t=>A.peek (.lg cc 1 (.pointer (some ⟨d,0,none⟩))) t λa0=>A.ucV a0 λu a1=>A.chk u (A.uc0 a1 (A.callv u [.agg ⟨[.int .i64 q,.int .i64 s,.int .u8 0]⟩] [] t λa2 j=>A.un0 a2 (A.peek (.lg cc 1 (.pointer (some ⟨a,0,none⟩))) j λa3=>A.ucV a3 λw a4=>A.chk w (A.uc0 a4 (A.peek (.lg cc 1 (.pointer (some ⟨c,0,none⟩))) j λa5=>A.k3 a5 λa6=>A.opt (slS 1 w none (some a6) none) λx=>A.chk x (A.call 16 [.v x] j λa7 a8=>A.k0 a7 λa9=>A.heap (.st (.pointer (some ⟨a,0,none⟩)) [a9]) a8 λc4 y=>A.peek (.lg cc 1 (.pointer (some ⟨a,0,none⟩))) y λb0=>A.ucV b0 λz b1=>A.chk z (A.uc0 b1 (A.call 17 [.v z] y λb2 k=>A.k5 b2 λB=>A.cd .neq B 0 (A.heap (.st (.pointer (some ⟨a,0,none⟩)) [.slice none 0 0]) k λc5 C=>A.peek (.ld 1 (.pointer (some ⟨a,0,none⟩))) C λb3=>A.ucV b3 λD b4=>A.chk D (A.uc0 b4 (K [.v D,.i 0,.i 0,.i 0,.i B] C))) (A.peek (.lg cc 1 (.pointer (some ⟨a,0,none⟩))) k λb5=>A.ucV b5 λE b6=>A.chk E (A.uc0 b6 (A.heap (.st (.pointer (some ⟨a,0,none⟩)) [E]) k λc6 F=>A.peek (.ld 1 (.pointer (some ⟨a,0,none⟩))) F λb7=>A.ucV b7 λG b8=>A.chk G (A.uc0 b8 (K [.v G,.i q,.i s,.i 0,.i 0] F)))))))))))))))))
def f7:R:=A.unV ls λa P=>A.k7 P λl m Q=>A.opt (nilP a) λn=>A.chk n (A.opt (fdP 1 n) λc=>A.chk c (A.peek (.lg cc 1 c) h λS=>A.ucV S λo T=>A.chk o (A.uc0 T (A.new (.cells [.int .i64 l,.int .i64 m,.int .u8 Q] 3 true) h λp U=>A.heap (.ap cc 3 24 o (.slice (some ⟨p,0,some 13⟩) 1 2)) U λV W=>A.ucV V λq X=>A.chk q (A.uc0 X (A.opt (nilP a) λr=>A.chk r (A.opt (fdP 1 r) λs=>A.chk s (A.heap (.st s [q]) W λc7 t=>A.opt (Sx.sepL [(.slice (some ⟨p,0,some 13⟩) 1 2,(0,c))]) λc8=>A.opt (nilP a) λu=>A.chk u (A.opt (fdP 2 u) λw=>A.chk w (A.peek (.lg cc 1 w) t λY=>A.ucV Y λx Z=>A.chk x (A.uc0 Z (A.opt (lenS x) λa0=>A.opt (nilP a) λy=>A.chk y (A.opt (fdP 4 y) λz=>A.chk z (A.heap (.st z [.int .i64 a0]) t λc9 a1=>A.loop (λB a2 C=>A.k5 a2 λb=>A.cd .lss b 4 (A.new (.cells [.int .i64 1,.int .i64 0,.int .i64 (-1),.int .i64 0] 1 true) C λd D=>A.opt (idS 1 (.slice (some ⟨d,0,some 11⟩) 4 5) b) λE=>A.peek (.lg cc 1 E) D λa3=>A.k3 a3 λa4=>A.ari .add .i64 l a4 λe=>A.new (.cells [.int .i64 0,.int .i64 1,.int .i64 0,.int .i64 (-1)] 1 true) D λf g=>A.opt (idS 1 (.slice (some ⟨f,0,some 11⟩) 4 5) b) λF=>A.peek (.lg cc 1 F) g λa5=>A.k3 a5 λa6=>A.ari .add .i64 m a6 λj=>A.opt (Sx.sepL [(.slice (some ⟨d,0,some 11⟩) 4 5,(0,.slice (some ⟨f,0,some 11⟩) 4 5)),(.slice (some ⟨f,0,some 11⟩) 4 5,(0,E)),(.slice (some ⟨d,0,some 11⟩) 4 5,(0,F))]) λd0=>A.opt (nilP a) λG=>A.chk G (A.opt (fdP 0 G) λH=>A.chk H (A.peek (.lg cc 1 H) g λa7=>A.ucV a7 λI a8=>A.chk I (A.uc0 a8 (A.call 11 [.v I,.i e,.i j,.i 0] g λa9 k=>A.k2 a9 λb0=>A.cond b0 (A.opt (nilP a) λJ=>A.chk J (A.opt (fdP 1 J) λL=>A.chk L (A.peek (.lg cc 1 L) k λb1=>A.ucV b1 λM b2=>A.chk M (A.uc0 b2 (A.call 11 [.v M,.i e,.i j,.i 0] k λb3 N=>A.k2 b3 λb4=>A.join (λb5 b6=>A.un0 b5 (A.ari .add .i64 b 1 λb7=>B [.i b7] b6)) λO=>A.cond (!b4) (A.call 18 [.v a,.i b] N λb8 b9=>A.un0 b8 (A.call 7 [.v a,.i e,.i j,.i 0] b9 λc0 c1=>A.un0 c0 (A.ari .add .i64 b 2 λc2=>A.ari .rem .i64 c2 4 λc3=>A.call 18 [.v a,.i c3] c1 λc4 c5=>A.un0 c4 (O [] c5)))) (O [] N)))))) (A.ari .add .i64 b 1 λc6=>B [.i c6] k)))))) (K [] C)) [.i 0] a1))))))))))))))
def f8:R:=A.k0 ls λa=>A.call 19 [.v a] h λb c=>A.k0 b λd=>K [.v d] c
def f9:R:=A.un0 ls (A.new (.cells [.int .i64 0,.int .i64 0,.int .u8 0] 3 true) h λp q=>A.new (.cells [.int .i64 0,.int .i64 0,.int .u8 0,.int .i64 1,.int .i64 0,.int .u8 0] 3 true) q λr s=>A.new (.cells [.int .i64 0,.int .i64 0,.int .u8 0,.int .i64 0,.int .i64 1,.int .u8 0] 3 true) s λt u=>A.new (.cells [.int .i64 0,.int .i64 0,.int .u8 0,.int .i64 1,.int .i64 0,.int .u8 0,.int .i64 2,.int .i64 0,.int .u8 0] 3 true) u λw x=>A.new (.cells [.int .i64 0,.int .i64 0,.int .u8 0,.int .i64 1,.int .i64 0,.int .u8 0,.int .i64 0,.int .i64 1,.int .u8 0] 3 true) x λy z=>A.new (.cells [.slice (some ⟨p,0,some 13⟩) 1 2,.slice (some ⟨r,0,some 13⟩) 2 3,.slice (some ⟨t,0,some 13⟩) 2 3,.slice (some ⟨w,0,some 13⟩) 3 4,.slice (some ⟨y,0,some 13⟩) 3 4] 1 true) z λj B=>A.new (.cells [.string (.mk ⟨[]⟩),.string (.mk ⟨[.ofNat 102]⟩),.string (.mk ⟨[.ofNat 98,.ofNat 114,.ofNat 102]⟩),.string (.mk ⟨[.ofNat 102,.ofNat 102]⟩),.string (.mk ⟨[.ofNat 102,.ofNat 98,.ofNat 102,.ofNat 98,.ofNat 108,.ofNat 102]⟩)] 1 true) B λC D=>A.new (.cells [.int .i64 1,.int .i64 2,.int .i64 3,.int .i64 3,.int .i64 6] 1 true) D λE F=>A.new (.cells [.int .i64 1,.int .i64 2,.int .i64 3,.int .i64 3,.int .i64 5] 1 true) F λG H=>A.loop (λI J e=>A.k5 J λc=>A.opt (lenS (.slice (some ⟨j,0,some 11⟩) 5 6)) λL=>A.cd .lss c L (A.opt (idS 1 (.slice (some ⟨j,0,some 11⟩) 5 6) c) λM=>A.peek (.lg cc 1 M) e λN=>A.ucV N λk O=>A.chk k (A.uc0 O (A.call 4 [.v k] e λP Q=>A.k0 P λf=>A.call 6 [.v f] Q λS T=>A.unV S λg U=>A.k1 U λl m n V=>A.call 20 [.v g] T λW X=>A.k8 W λY Z=>A.call 21 [.v f] X λa0 a1=>A.k8 a0 λa2 a3=>A.call 22 [.v f,.v g,.i l,.i m,.i n] a1 λa4 d=>A.unB a4 λa5 a6=>A.k5 a6 λa7=>A.cd .neq V 0 (K [.b false] d) (A.cd .neq Z 0 (K [.b false] d) (A.cd .neq a3 0 (K [.b false] d) (A.cd .neq a7 0 (K [.b false] d) (A.cond (!a5) (K [.b false] d) (A.call 8 [.v g] d λa8 a=>A.k0 a8 λa9=>A.opt (idS 1 (.slice (some ⟨C,0,some 11⟩) 5 6) c) λb0=>A.peek (.lg cc 1 b0) a λb1=>A.ucV b1 λo b2=>A.chk o (A.uc0 b2 (A.opt (qL a9 o) λb3=>A.cond (!b3) (K [.b false] a) (A.opt (idS 1 (.slice (some ⟨E,0,some 11⟩) 5 6) c) λb4=>A.peek (.lg cc 1 b4) a λb5=>A.k3 b5 λb6=>A.cd .neq Y b6 (K [.b false] a) (A.opt (idS 1 (.slice (some ⟨G,0,some 11⟩) 5 6) c) λb7=>A.peek (.lg cc 1 b7) a λb8=>A.k3 b8 λb9=>A.cd .neq a2 b9 (K [.b false] a) (A.eqs [(.i l,.i 0),(.i m,.i 0),(.i n,.i 0)] λc0=>A.cond (!c0) (K [.b false] a) (A.ari .add .i64 c 1 λc1=>I [.i c1] a)))))))))))))) (K [.b true] e)) [.i 0] H)
def f10:R:=A.unI ls λa f=>A.unI f λc g=>A.k1 g λi d e j=>A.cd .neq c e (A.cmp .lss c e λk=>K [.b k] h) (A.cd .neq a d (A.cmp .lss a d λl=>K [.b l] h) (A.cmp .lss i j λm=>K [.b m] h))
def f11:R:=A.unV ls λd e=>A.k7 e λf g j=>A.loop (λk l a=>A.k5 l λc=>A.opt (lenS d) λm=>A.cd .lss c m (A.ix 3 d c 3 a λn=>A.k6 n λo p q=>A.eqs [(.i o,.i f),(.i p,.i g),(.i q,.i j)] λr=>A.cond r (K [.b true] a) (A.ari .add .i64 c 1 λs=>k [.i s] a)) (K [.b false] a)) [.i 0] h
def f12:R:=A.k0 ls λa=>A.call 23 [.v a] h λr j=>A.k5 r λk=>A.cd .neq k 0 (K [.i k] j) (A.opt (lenS a) λs=>A.cd .eql s 0 (K [.i 7] j) (A.call 13 [.v a] j λt u=>A.k0 t λw=>A.new (.cells [.map none] 1 true) u λc x=>A.heap (.st (.pointer (some ⟨c,0,none⟩)) [w]) x λa3 d=>A.peek (.lg cc 1 (.pointer (some ⟨c,0,none⟩))) d λy=>A.ucV y λl z=>A.chk l (A.uc0 z (A.peek (.fn (lenM l)) d λB=>A.k3 B λC=>A.ari .mul .i64 4 C λD=>A.opt (lenS a) λE=>A.cd .neq D E (K [.i 1] d) (A.new (.map [] 0) d λF G=>A.new (.cells [.map none] 1 true) G λe H=>A.heap (.st (.pointer (some ⟨e,0,none⟩)) [.map (some F)]) H λa4 I=>A.new (.cells [.nilFunc] 1 true) I λf J=>A.chk (.func (.func 24) ⟨[]⟩ ⟨[.pointer (some ⟨c,0,none⟩),.pointer (some ⟨e,0,none⟩),.pointer (some ⟨f,0,none⟩)]⟩) (A.heap (.st (.pointer (some ⟨f,0,none⟩)) [.func (.func 24) ⟨[]⟩ ⟨[.pointer (some ⟨c,0,none⟩),.pointer (some ⟨e,0,none⟩),.pointer (some ⟨f,0,none⟩)]⟩]) J λa5 g=>A.peek (.lg cc 1 (.pointer (some ⟨f,0,none⟩))) g λL=>A.ucV L λm M=>A.chk m (A.uc0 M (A.opt (idS 3 a 0) λN=>A.opt (fdP 0 N) λn=>A.chk n (A.peek (.lg cc 1 n) g λO=>A.k3 O λP=>A.opt (idS 3 a 0) λQ=>A.opt (fdP 1 Q) λo=>A.chk o (A.peek (.lg cc 1 o) g λS=>A.k3 S λT=>A.callv m [.agg ⟨[.int .i64 P,.int .i64 T,.int .u8 0]⟩] [] g λU b=>A.un0 U (A.peek (.lg cc 1 (.pointer (some ⟨e,0,none⟩))) b λV=>A.ucV V λp W=>A.chk p (A.uc0 W (A.peek (.fn (lenM p)) b λX=>A.k3 X λY=>A.peek (.lg cc 1 (.pointer (some ⟨c,0,none⟩))) b λZ=>A.ucV Z λq a0=>A.chk q (A.uc0 a0 (A.peek (.fn (lenM q)) b λa1=>A.k3 a1 λa2=>A.cd .neq Y a2 (K [.i 14] b) (K [.i 0] b))))))))))))))))
def f13:R:=A.k0 ls λc=>A.new (.map [] 0) h λd e=>A.opt (lenS c) λf=>A.loop (λg j a=>A.k5 j λb=>A.cd .lss b f (A.ix 3 c b 3 a λk=>A.k6 k λl m p=>A.heap (.fn (muG cc 30 (.map (some d)) (.agg ⟨[.int .i64 l,.int .i64 m,.int .u8 0]⟩) (.bool true))) a λq n=>A.ari .add .i64 b 1 λo=>g [.i o] n) (K [.v (.map (some d))] a)) [.i 0] e
def f14:R:=A.unI ls λf G=>A.unI G λg H=>A.unI H λj I=>A.unV I λk J=>A.unV J λc L=>A.unV L λM N=>A.unV N λd O=>A.k0 O λP=>A.peek (.lg cc 1 k) h λQ=>A.ucV Q λl S=>A.chk l (A.uc0 S (A.heap (.fn (deG cc 30 l (.agg ⟨[.int .i64 f,.int .i64 g,.int .u8 j]⟩))) h λd7 m=>A.peek (.lg cc 1 c) m λT=>A.ucV T λn U=>A.chk n (A.uc0 U (A.opt (lenS n) λV=>A.heap (.st M [.int .i64 V]) m λd8 W=>A.loop (λX Y o=>A.k5 Y λa=>A.cd .lss a 4 (A.join (λZ a0=>A.un0 Z (A.ari .add .i64 a 1 λa1=>X [.i a1] a0)) λp=>A.call 15 [.i f,.i g,.i j,.i a] o λa2 b=>A.k7 a2 λq r s=>A.peek (.lg cc 1 k) b λa3=>A.ucV a3 λt a4=>A.chk t (A.uc0 a4 (A.peek (.fn (luG cc 30 false (.bool false) t (.agg ⟨[.int .i64 q,.int .i64 r,.int .u8 s]⟩) false)) b λa5=>A.ucB a5 λa6 a7=>A.uc0 a7 (A.cond (!a6) (p [] b) (A.peek (.lg cc 1 c) b λa8=>A.ucV a8 λu a9=>A.chk u (A.uc0 a9 (A.peek (.lg cc 1 d) b λb0=>A.k3 b0 λb1=>A.ari .sub .i64 a b1 λb2=>A.ari .add .i64 b2 4 λb3=>A.ari .rem .i64 b3 4 λv=>A.opt (inB 4 v) λd9=>A.opt (hP gl0 0 [(v,1)] 1) λb4=>A.ucV b4 λw b5=>A.chk w (A.uc0 b5 (A.heap (.ap cc 1 1 u w) b λb6 b7=>A.ucV b6 λx b8=>A.chk x (A.uc0 b8 (A.heap (.st c [x]) b7 λe0 b9=>A.heap (.st d [.int .i64 a]) b9 λe1 y=>A.peek (.lg cc 1 P) y λc0=>A.ucV c0 λz c1=>A.chk z (A.uc0 c1 (A.callv z [.agg ⟨[.int .i64 q,.int .i64 r,.int .u8 s]⟩] [] y λc2 e=>A.un0 c2 (A.ari .add .i64 a 2 λc3=>A.ari .rem .i64 c3 4 λB=>A.peek (.lg cc 1 c) e λc4=>A.ucV c4 λC c5=>A.chk C (A.uc0 c5 (A.peek (.lg cc 1 d) e λc6=>A.k3 c6 λc7=>A.ari .sub .i64 B c7 λc8=>A.ari .add .i64 c8 4 λc9=>A.ari .rem .i64 c9 4 λD=>A.opt (inB 4 D) λe2=>A.opt (hP gl0 0 [(D,1)] 1) λd0=>A.ucV d0 λE d1=>A.chk E (A.uc0 d1 (A.heap (.ap cc 1 1 C E) e λd2 d3=>A.ucV d2 λF d4=>A.chk F (A.uc0 d4 (A.heap (.st c [F]) d3 λe3 d5=>A.heap (.st d [.int .i64 B]) d5 λe4 d6=>p [] d6)))))))))))))))))))) (K [] o)) [.i 0] W))))
def f15:R:=A.k1 ls λb c l a=>A.opt (inB 4 a) λm=>A.opt (hP gl1 0 [(a,2)] 1) λd=>A.k3 d λe=>A.ari .add .i64 b e λf=>A.opt (inB 4 a) λn=>A.opt (hP gl1 1 [(a,2)] 1) λg=>A.k3 g λj=>A.ari .add .i64 c j λk=>K [.i f,.i k,.i 0] h
def f16:R:=A.k0 ls λa=>A.opt (lenS a) λc=>A.opt (lenS a) λd=>A.opt (slS 1 a none (some c) (some d)) λb=>A.chk b (K [.v b] h)
def f17:R:=A.k0 ls λc=>A.call 25 [.v c,.v (.func (.func 26) ⟨[]⟩ ⟨[]⟩)] h λr j=>A.k2 r λs=>A.cond s (K [.i 1] j) (A.opt (lenS c) λt=>A.loop (λg u d=>A.k8 u λa b=>A.cd .lss b t (A.ix 1 c b 1 d λw=>A.ucI .u8 w λe x=>A.uc0 x (A.call 27 [.i e] d λy f=>A.k2 y λz=>A.cond z (A.cd .gtr b 0 (A.ari .sub .i64 b 1 λB=>A.ix 1 c B 1 f λC=>A.ucI .u8 C λD E=>A.uc0 E (A.call 27 [.i D] f λF k=>A.k2 F λG=>A.join (λH I=>A.un0 H (A.call 27 [.i e] I λJ l=>A.k2 J λL=>A.join (λM N=>A.k5 M λO=>A.ari .add .i64 b 1 λP=>g [.i O,.i P] N) λm=>A.cond (!L) (A.ari .add .i64 a 1 λQ=>m [.i Q] l) (m [.i a] l))) λS=>A.cond G (K [.i 6] k) (S [] k))) (A.call 27 [.i e] f λT n=>A.k2 T λU=>A.join (λV W=>A.k5 V λX=>A.ari .add .i64 b 1 λY=>g [.i X,.i Y] W) λo=>A.cond (!U) (A.ari .add .i64 a 1 λZ=>o [.i Z] n) (o [.i a] n))) (A.call 27 [.i e] f λa0 p=>A.k2 a0 λa1=>A.join (λa2 a3=>A.k5 a2 λa4=>A.ari .add .i64 b 1 λa5=>g [.i a4,.i a5] a3) λq=>A.cond (!a1) (A.ari .add .i64 a 1 λa6=>q [.i a6] p) (q [.i a] p)))) (A.cd .gtr a 256 (K [.i 3] d) (K [.i 0] d))) [.i 1,.i 0] j)
def f18:R:=A.k4 ls λa b=>A.opt (nilP a) λc=>A.chk c (A.opt (fdP 3 c) λd=>A.chk d (A.peek (.lg cc 1 d) h λO=>A.k3 O λP=>A.cmp .eql b P λQ=>A.join (λS T=>A.un0 S (A.opt (nilP a) λe=>A.chk e (A.opt (fdP 3 e) λf=>A.chk f (A.heap (.st f [.int .i64 b]) T λe1 U=>K [] U)))) λg=>A.cond Q (A.opt (nilP a) λi=>A.chk i (A.opt (fdP 2 i) λj=>A.chk j (A.peek (.lg cc 1 j) h λV=>A.ucV V λk W=>A.chk k (A.uc0 W (A.new (.cells [.int .u8 1] 1 true) h λX Y=>A.heap (.ap cc 1 1 k (.slice (some ⟨X,0,some 11⟩) 1 2)) Y λZ a0=>A.ucV Z λl a1=>A.chk l (A.uc0 a1 (A.opt (nilP a) λm=>A.chk m (A.opt (fdP 2 m) λn=>A.chk n (A.heap (.st n [l]) a0 λe2 a2=>g [] a2))))))))) (A.opt (nilP a) λo=>A.chk o (A.opt (fdP 3 o) λp=>A.chk p (A.peek (.lg cc 1 p) h λa3=>A.k3 a3 λa4=>A.ari .add .i64 a4 1 λa5=>A.ari .rem .i64 a5 4 λa6=>A.cmp .eql b a6 λa7=>A.join (λa8 a9=>A.un0 a8 (g [] a9)) λq=>A.cond a7 (A.opt (nilP a) λr=>A.chk r (A.opt (fdP 2 r) λs=>A.chk s (A.peek (.lg cc 1 s) h λb0=>A.ucV b0 λt b1=>A.chk t (A.uc0 b1 (A.new (.cells [.int .u8 2,.int .u8 4,.int .u8 1] 1 true) h λb2 b3=>A.heap (.ap cc 1 1 t (.slice (some ⟨b2,0,some 11⟩) 3 4)) b3 λb4 b5=>A.ucV b4 λu b6=>A.chk u (A.uc0 b6 (A.opt (nilP a) λv=>A.chk v (A.opt (fdP 2 v) λw=>A.chk w (A.heap (.st w [u]) b5 λe3 b7=>q [] b7))))))))) (A.opt (nilP a) λx=>A.chk x (A.opt (fdP 3 x) λy=>A.chk y (A.peek (.lg cc 1 y) h λb8=>A.k3 b8 λb9=>A.ari .add .i64 b9 2 λc0=>A.ari .rem .i64 c0 4 λc1=>A.cmp .eql b c1 λc2=>A.join (λc3 c4=>A.un0 c3 (q [] c4)) λz=>A.cond c2 (A.opt (nilP a) λB=>A.chk B (A.opt (fdP 2 B) λC=>A.chk C (A.peek (.lg cc 1 C) h λc5=>A.ucV c5 λD c6=>A.chk D (A.uc0 c6 (A.new (.cells [.int .u8 2,.int .u8 1] 1 true) h λc7 c8=>A.heap (.ap cc 1 1 D (.slice (some ⟨c7,0,some 11⟩) 2 3)) c8 λc9 d0=>A.ucV c9 λE d1=>A.chk E (A.uc0 d1 (A.opt (nilP a) λF=>A.chk F (A.opt (fdP 2 F) λG=>A.chk G (A.heap (.st G [E]) d0 λe4 d2=>z [] d2))))))))) (A.opt (nilP a) λH=>A.chk H (A.opt (fdP 2 H) λI=>A.chk I (A.peek (.lg cc 1 I) h λd3=>A.ucV d3 λJ d4=>A.chk J (A.uc0 d4 (A.new (.cells [.int .u8 2,.int .u8 3,.int .u8 1] 1 true) h λd5 d6=>A.heap (.ap cc 1 1 J (.slice (some ⟨d5,0,some 11⟩) 3 4)) d6 λd7 d8=>A.ucV d7 λL d9=>A.chk L (A.uc0 d9 (A.opt (nilP a) λM=>A.chk M (A.opt (fdP 2 M) λN=>A.chk N (A.heap (.st N [L]) d8 λe5 e0=>z [] e0)))))))))))))))))
def f20:R:=A.k0 ls λa=>A.call 17 [.v a] h λk e=>A.k5 k λf=>A.cd .neq f 0 (K [.i 0,.i f] e) (A.opt (lenS a) λl=>A.loop (λm n b=>A.k8 n λc d=>A.cd .lss d l (A.ix 1 a d 1 b λo=>A.ucI .u8 o λp q=>A.uc0 q (A.call 27 [.i p] b λr g=>A.k2 r λs=>A.join (λt u=>A.k5 t λw=>A.ari .add .i64 d 1 λx=>m [.i w,.i x] u) λj=>A.cond (!s) (A.ari .add .i64 c 1 λy=>j [.i y] g) (j [.i c] g))) (K [.i c,.i 0] b)) [.i 1,.i 0] e)
def f21:R:=A.k0 ls λa=>A.call 30 [.v a] h λb2 p=>A.k8 b2 λb3 Q=>A.cd .neq Q 0 (K [.i 0,.i Q] p) (A.cd .gtr b3 3 (K [.i 0,.i 3] p) (A.new (.map [] 0) p λS b4=>A.opt (lenS a) λb5=>A.loop (λb6 b7 e=>A.k4 b7 λq r=>A.cd .lss r b5 (A.ix 3 a r 3 e λb8=>A.k6 b8 λb9 c0 T=>A.cmp .eql T 0 λc1=>A.join (λc2 c3=>A.k0 c2 λc4=>A.ari .add .i64 r 1 λc5=>b6 [.v c4,.i c5] c3) λU=>A.cond c1 (A.new (.cells [.int .i64 b9,.int .i64 c0,.int .u8 T,.int .i64 0,.bool false,.bool false,.bool false,.bool false,.bool false,.bool false,.bool false,.bool false,.bool false,.bool false,.bool false,.bool false] 16 true) e λc6 c7=>A.heap (.ap cc 16 48 q (.slice (some ⟨c6,0,some 26⟩) 1 2)) c7 λc8 c9=>A.ucV c8 λV d0=>A.chk V (A.uc0 d0 (U [.v V] c9))) (U [.v q] e)) (A.loop (λd1 d2 d3=>A.k4 d2 λW X=>A.opt (lenS W) λd4=>A.loop (λd5 d6 s=>A.k4 d6 λY t=>A.cd .lss t d4 (A.ix 16 W t 16 s λd7=>A.ucI .i64 d7 λu d8=>A.ucI .i64 d8 λw d9=>A.ucI .u8 d9 λZ e0=>A.ucI .i64 e0 λf e1=>A.ucB e1 λe2 e3=>A.ucB e3 λe4 e5=>A.ucB e5 λe6 e7=>A.ucB e7 λe8 e9=>A.ucB e9 λf0 f1=>A.ucB f1 λf2 f3=>A.ucB f3 λf4 f5=>A.ucB f5 λf6 f7=>A.ucB f7 λf8 f9=>A.ucB f9 λg0 g1=>A.ucB g1 λg2 g3=>A.ucB g3 λg4 g5=>A.uc0 g5 (A.loop (λg6 g7 a0=>A.k4 g7 λa1 g=>A.cd .lss g 3 (A.new (.cells [.bool false,.bool false,.bool false,.bool false,.bool false,.bool false,.bool false,.bool false,.bool false,.bool false,.bool false,.bool false] 1 true) a0 λc g8=>A.heap (.st (.pointer (some ⟨c,0,none⟩)) [.bool e2,.bool e4,.bool e6,.bool e8,.bool f0,.bool f2,.bool f4,.bool f6,.bool f8,.bool g0,.bool g2,.bool g4]) g8 λu6 g9=>A.new (.cells [.int .i64 0,.int .i64 1,.int .i64 2,.int .i64 3] 1 true) g9 λh0 x=>A.cmp .eql g 1 λh1=>A.join (λh2 h3=>A.k4 h2 λa2 y=>A.opt (lenS a2) λh4=>A.loop (λh5 h6 j=>A.k5 h6 λz=>A.cd .lss z h4 (A.ix 1 a2 z 1 j λh7=>A.k3 h7 λh8=>A.ari .add .i64 f h8 λh9=>A.ari .add .i64 h9 1 λi0=>A.ari .rem .i64 i0 4 λi1=>A.conv .u8 i1 λi2=>A.call 31 [.v a,.i u,.i w,.i i2] j λi3 i4=>A.k5 i3 λi5=>A.opt (idP 12 1 (.pointer (some ⟨c,0,none⟩)) i5) λa3=>A.chk a3 (A.heap (.st a3 [.bool true]) i4 λu7 i6=>A.ari .add .i64 z 1 λi7=>h5 [.i i7] i6)) (A.opt (lenS a) λi8=>A.peek (.fn (slAG 12 1 (.pointer (some ⟨c,0,none⟩)) none (some i8) none)) j λi9=>A.ucV i9 λa4 j0=>A.chk a4 (A.uc0 j0 (A.call 32 [.v a4,.b false] j λj1 a5=>A.k2 j1 λj2=>A.cond (!j2) (K [.i X,.i 0] a5) (A.call 15 [.i u,.i w,.i Z,.i y] a5 λj3 B=>A.k7 j3 λj4 j5 j6=>A.peek (.lg cc 12 (.pointer (some ⟨c,0,none⟩))) B λj7=>A.ucB j7 λj8 j9=>A.ucB j9 λk1 k9=>A.ucB k9 λl0 l1=>A.ucB l1 λl2 l3=>A.ucB l3 λl4 l5=>A.ucB l5 λl6 l7=>A.ucB l7 λl8 l9=>A.ucB l9 λm0 m1=>A.ucB m1 λm2 m3=>A.ucB m3 λm4 m5=>A.ucB m5 λm6 m7=>A.ucB m7 λm8 m9=>A.uc0 m9 (A.ari .add .i64 y 2 λn0=>A.ari .rem .i64 n0 4 λn1=>A.peek (.lg cc 12 (.pointer (some ⟨c,0,none⟩))) B λn2=>A.ucB n2 λn3 n4=>A.ucB n4 λn5 n6=>A.ucB n6 λn7 n8=>A.ucB n8 λn9 o0=>A.ucB o0 λo1 o2=>A.ucB o2 λo3 o4=>A.ucB o4 λo5 o6=>A.ucB o6 λo7 o8=>A.ucB o8 λo9 p0=>A.ucB p0 λp1 p2=>A.ucB p2 λp3 p4=>A.ucB p4 λp5 p6=>A.uc0 p6 (A.loop (λa6 p7 a7=>A.k4 p7 λk d=>A.cd .lss d 2 (A.opt (inB 2 d) λu9=>A.opt (qw [.i j4,.i j5,.i j6,.i y,.b j8,.b k1,.b l0,.b l2,.b l4,.b l6,.b l8,.b m0,.b m2,.b m4,.b m6,.b m8,.i u,.i w,.i Z,.i n1,.b n3,.b n5,.b n7,.b n9,.b o1,.b o3,.b o5,.b o7,.b o9,.b p1,.b p3,.b p5] 0 [(d,16)] 16) λp8=>A.unI p8 λl p9=>A.unI p9 λm q0=>A.unI q0 λn q1=>A.unI q1 λC q2=>A.unB q2 λD q3=>A.unB q3 λE q4=>A.unB q4 λF q5=>A.unB q5 λG q6=>A.unB q6 λH q7=>A.unB q7 λI q8=>A.unB q8 λJ q9=>A.unB q9 λL r0=>A.unB r0 λM r1=>A.unB r1 λN r2=>A.unB r2 λO r3=>A.k2 r3 λP=>A.call 33 [.v a,.i l,.i m,.i n] a7 λr4 o=>A.k2 r4 λr5=>A.cond r5 (A.peek (.fn (luG cc 77 false (.bool false) (.map (some S)) (.agg ⟨[.int .i64 l,.int .i64 m,.int .u8 n,.int .i64 C,.bool D,.bool E,.bool F,.bool G,.bool H,.bool I,.bool J,.bool L,.bool M,.bool N,.bool O,.bool P]⟩) false)) o λr6=>A.ucB r6 λr7 r8=>A.uc0 r8 (A.join (λr9 s0=>A.k0 r9 λs1=>A.ari .add .i64 d 1 λs2=>a6 [.v s1,.i s2] s0) λa8=>A.cond (!r7) (A.heap (.fn (muG cc 77 (.map (some S)) (.agg ⟨[.int .i64 l,.int .i64 m,.int .u8 n,.int .i64 C,.bool D,.bool E,.bool F,.bool G,.bool H,.bool I,.bool J,.bool L,.bool M,.bool N,.bool O,.bool P]⟩) (.bool true))) o λv0 s3=>A.new (.cells [.int .i64 l,.int .i64 m,.int .u8 n,.int .i64 C,.bool D,.bool E,.bool F,.bool G,.bool H,.bool I,.bool J,.bool L,.bool M,.bool N,.bool O,.bool P] 16 true) s3 λs4 s5=>A.heap (.ap cc 16 48 k (.slice (some ⟨s4,0,some 26⟩) 1 2)) s5 λs6 s7=>A.ucV s6 λa9 s8=>A.chk a9 (A.uc0 s8 (a8 [.v a9] s7))) (a8 [.v k] o))) (A.ari .add .i64 d 1 λs9=>a6 [.v k,.i s9] o)) (A.ari .add .i64 g 1 λt0=>g6 [.v k,.i t0] a7)) [.v a1,.i 0] B))))))) [.i 0] h3) λb0=>A.cond h1 (A.new (.cells [.int .i64 1,.int .i64 2] 1 true) x λt1 t2=>A.ari .add .i64 f 1 λt3=>A.ari .rem .i64 t3 4 λt4=>b0 [.v (.slice (some ⟨t1,0,some 11⟩) 2 3),.i t4] t2) (A.cmp .eql g 2 λt5=>A.join (λt6 t7=>A.k4 t6 λt8 t9=>b0 [.v t8,.i t9] t7) λb1=>A.cond t5 (A.new (.cells [.int .i64 2,.int .i64 3] 1 true) x λu0 u1=>A.ari .add .i64 f 3 λu2=>A.ari .rem .i64 u2 4 λu3=>b1 [.v (.slice (some ⟨u0,0,some 11⟩) 2 3),.i u3] u1) (b1 [.v (.slice (some ⟨h0,0,some 11⟩) 4 5),.i f] x))) (A.ari .add .i64 t 1 λu4=>d5 [.v a1,.i u4] a0)) [.v Y,.i 0] s)) (A.ari .add .i64 X 1 λu5=>d1 [.v Y,.i u5] s)) [.v (.slice none 0 0),.i 0] d3) [.v q,.i 1] e)) [.v (.slice none 0 0),.i 0] b4))
def f22:R:=A.unV ls λd s=>A.unV s λt u=>A.k7 u λg j k=>A.call 12 [.v d] h λw l=>A.k5 w λm=>A.cd .neq m 0 (K [.b false,.i m] l) (A.call 34 [.v t] l λx e=>A.k4 x λa n=>A.cd .neq n 0 (K [.b false,.i n] e) (A.cd .neq k 0 (K [.b false,.i 1] e) (A.call 33 [.v d,.i g,.i j,.i k] e λy o=>A.k2 y λz=>A.cond (!z) (K [.b false,.i 1] o) (A.opt (lenS a) λB=>A.loop (λC D f=>A.k5 D λc=>A.cd .lss c B (A.fx 3 a c 0 1 f λE=>A.k3 E λF=>A.ari .add .i64 F g λG=>A.opt (idS 3 a c) λH=>A.opt (fdP 0 H) λp=>A.chk p (A.heap (.st p [.int .i64 G]) f λT q=>A.fx 3 a c 1 1 q λI=>A.k3 I λJ=>A.ari .add .i64 J j λL=>A.opt (idS 3 a c) λM=>A.opt (fdP 1 M) λr=>A.chk r (A.heap (.st r [.int .i64 L]) q λU N=>A.ari .add .i64 c 1 λO=>C [.i O] N))) (A.call 35 [.v a,.v d] f λP Q=>A.k2 P λS=>K [.b S,.i 0] Q)) [.i 0] o))))
def f23:R:=A.k0 ls λa=>A.opt (lenS a) λf=>A.cd .gtr f 1024 (K [.i 3] h) (A.call 36 [.v a] h λg d=>A.k2 g λj=>A.cond j (K [.i 1] d) (A.loop (λk l b=>A.k5 l λc=>A.opt (lenS a) λm=>A.cd .lss c m (A.ari .sub .i64 c 1 λn=>A.ix 3 a n 3 b λo=>A.k6 o λp q r=>A.ix 3 a c 3 b λs=>A.k6 s λt u w=>A.call 37 [.i p,.i q,.i r,.i t,.i u,.i w] b λx e=>A.k5 x λy=>A.cd .geq y 0 (K [.i 6] e) (A.ari .add .i64 c 1 λz=>k [.i z] e)) (K [.i 0] b)) [.i 1] d))
def f24:R:=A.unI ls λa m=>A.unI m λb n=>A.unI n λc o=>A.unV o λp q=>A.unV q λf r=>A.k0 r λs=>A.peek (.lg cc 1 p) h λt=>A.ucV t λg u=>A.chk g (A.uc0 u (A.peek (.fn (luG cc 30 false (.bool false) g (.agg ⟨[.int .i64 a,.int .i64 b,.int .u8 c]⟩) false)) h λv=>A.ucB v λw x=>A.uc0 x (A.cond (!w) (K [] h) (A.peek (.lg cc 1 f) h λy=>A.ucV y λj z=>A.chk j (A.uc0 z (A.peek (.fn (luG cc 30 false (.bool false) j (.agg ⟨[.int .i64 a,.int .i64 b,.int .u8 c]⟩) false)) h λB=>A.ucB B λC D=>A.uc0 D (A.cond C (K [] h) (A.peek (.lg cc 1 f) h λE=>A.ucV E λk F=>A.chk k (A.uc0 F (A.heap (.fn (muG cc 30 k (.agg ⟨[.int .i64 a,.int .i64 b,.int .u8 c]⟩) (.bool true))) h λV G=>A.loop (λH I d=>A.k5 I λe=>A.cd .lss e 4 (A.peek (.lg cc 1 s) d λJ=>A.ucV J λl L=>A.chk l (A.uc0 L (A.call 15 [.i a,.i b,.i c,.i e] d λM N=>A.k7 M λO P Q=>A.callv l [.agg ⟨[.int .i64 O,.int .i64 P,.int .u8 Q]⟩] [] N λS T=>A.un0 S (A.ari .add .i64 e 1 λU=>H [.i U] T)))) (K [] d)) [.i 0] G))))))))))
def f25:R:=A.unV ls λa c=>A.k0 c λd=>A.call 38 [.v a,.v d] h λe f=>A.k5 e λg=>A.cmp .geq g 0 λi=>K [.b i] f
def f26:R:=A.k5 ls λa=>A.join (λd e=>A.k2 d λf=>K [.b f] e) λc=>A.cd .lss a 1 (c [.b true] h) (A.cmp .gtr a 4 λg=>c [.b g] h)
def f27:R:=A.k5 ls λa=>A.join (λd e=>A.k2 d λf=>K [.b f] e) λc=>A.cd .eql a 3 (c [.b true] h) (A.cmp .eql a 4 λg=>c [.b g] h)
def f30:R:=A.k0 ls λa=>A.call 12 [.v a] h λd b=>A.k5 d λc=>A.cd .neq c 0 (K [.i 0,.i c] b) (A.opt (lenS a) λe=>A.ari .quo .i64 e 4 λf=>K [.i f,.i 0] b)
def f31:R:=A.unV ls λc d=>A.k7 d λe f g=>A.opt (lenS c) λj=>A.loop (λk l a=>A.k5 l λb=>A.cd .lss b j (A.ix 3 c b 3 a λm=>A.k6 m λn o p=>A.eqs [(.i e,.i n),(.i f,.i o),(.i g,.i p)] λq=>A.cond q (K [.i b] a) (A.ari .add .i64 b 1 λr=>k [.i r] a)) (K [.i (-1)] a)) [.i 0] h
def f32:R:=A.unV ls λa c=>A.k2 c λd=>A.call 40 [.v a,.b d] h λe f=>A.k5 e λg=>A.cmp .geq g 0 λi=>K [.b i] f
def f33:R:=A.unV ls λa c=>A.k7 c λd e f=>A.call 41 [.v a,.i d,.i e,.i f] h λg j=>A.k2 g λk=>K [.b k] j
def f34:R:=A.k0 ls λo=>A.call 42 [.v o] h λp g=>A.k4 p λj k=>A.cd .neq k 0 (K [.v (.slice none 0 0),.i k] g) (A.new (.map [] 0) g λl q=>A.opt (lenS j) λr=>A.loop (λs t a=>A.k4 t λb c=>A.cd .lss c r (A.ix 3 j c 3 a λu=>A.k6 u λd e f=>A.peek (.fn (luG cc 30 false (.bool false) (.map (some l)) (.agg ⟨[.int .i64 d,.int .i64 e,.int .u8 f]⟩) false)) a λw=>A.ucB w λx y=>A.uc0 y (A.join (λz B=>A.k0 z λC=>A.ari .add .i64 c 1 λD=>s [.v C,.i D] B) λm=>A.cond (!x) (A.heap (.fn (muG cc 30 (.map (some l)) (.agg ⟨[.int .i64 d,.int .i64 e,.int .u8 f]⟩) (.bool true))) a λP E=>A.new (.cells [.int .i64 d,.int .i64 e,.int .u8 f] 3 true) E λF G=>A.heap (.ap cc 3 24 b (.slice (some ⟨F,0,some 13⟩) 1 2)) G λH I=>A.ucV H λn J=>A.chk n (A.uc0 J (m [.v n] I))) (m [.v b] a))) (A.call 43 [.v b] a λL M=>A.k4 L λN O=>K [.v N,.i O] M)) [.v (.slice none 0 0),.i 0] q)
def f35:R:=A.unV ls λa c=>A.k0 c λd=>A.call 44 [.v a,.v d] h λe f=>A.k2 e λg=>K [.b g] f
def f36:R:=A.k0 ls λa=>A.call 45 [.v a,.v (.func (.func 46) ⟨[]⟩ ⟨[]⟩)] h λc d=>A.k2 c λe=>K [.b e] d
def f37:R:=A.unI ls λa b=>A.unI b λc d=>A.k1 d λe f g j=>A.conv .i64 e λk=>A.conv .i64 j λl=>A.new (.cells [.int .i64 c,.int .i64 g,.int .i64 a,.int .i64 f,.int .i64 k,.int .i64 l] 2 true) h λm n=>A.call 48 [.v (.slice (some ⟨m,0,some 12⟩) 3 4)] n λo p=>A.k5 o λq=>K [.i q] p
def f38:R:=A.unV ls λd f=>A.k0 f λg=>A.opt (lenS d) λj=>A.loop (λk l c=>A.k5 l λa=>A.cd .lss a j (A.ix 1 d a 1 c λm=>A.ucI .u8 m λn o=>A.uc0 o (A.callv g [.int .u8 n] [.leaf .b] c λp e=>A.k2 p λq=>A.cond q (K [.i a] e) (A.ari .add .i64 a 1 λr=>k [.i r] e))) (K [.i (-1)] c)) [.i 0] h
def f40:R:=A.unV ls λd e=>A.k2 e λf=>A.opt (lenS d) λg=>A.loop (λj k a=>A.k5 k λc=>A.cd .lss c g (A.ix 1 d c 1 a λl=>A.ucB l λm n=>A.uc0 n (A.eqs [(.b f,.b m)] λo=>A.cond o (K [.i c] a) (A.ari .add .i64 c 1 λp=>j [.i p] a))) (K [.i (-1)] a)) [.i 0] h
def f41:R:=A.unV ls λa c=>A.k7 c λd e f=>A.call 31 [.v a,.i d,.i e,.i f] h λg j=>A.k5 g λk=>A.cmp .geq k 0 λl=>K [.b l] j
def f42:R:=A.k0 ls λb=>A.call 50 [.v b] h λn c=>A.unI n λd o=>A.unI o λe p=>A.k4 p λf g=>A.cd .neq g 0 (K [.v (.slice none 0 0),.i g] c) (A.call 51 [] c λq a=>A.k7 q λj k l=>A.opt (lenS b) λr=>A.cd .gtr r 0 (A.opt (idS 1 b 0) λs=>A.peek (.lg cc 1 s) a λt=>A.ucI .u8 t λu w=>A.uc0 w (A.cmp .eql u 3 λx=>A.join (λy z=>A.k7 y λB C D=>A.call 53 [.i d,.i e,.v f,.i B,.i C,.i D] z λE F=>A.k4 E λG H=>K [.v G,.i H] F) λm=>A.cond x (A.call 52 [.i 4,.i 0] a λI J=>A.k1 I λL M N T=>m [.i L,.i M,.i N] J) (m [.i j,.i k,.i l] a))) (A.call 53 [.i d,.i e,.v f,.i j,.i k,.i l] a λO P=>A.k4 O λQ S=>K [.v Q,.i S] P))
def f43:R:=A.k0 ls λa=>A.call 36 [.v a] h λf b=>A.k2 f λg=>A.cond g (K [.v (.slice none 0 0),.i 1] b) (A.call 54 [.v a] b λj k=>A.k0 j λc=>A.call 55 [.v c,.v (.func (.func 37) ⟨[]⟩ ⟨[]⟩)] k λl m=>A.un0 l (A.call 56 [.v c] m λn d=>A.k0 n λe=>A.opt (lenS e) λo=>A.cd .gtr o 1024 (K [.v (.slice none 0 0),.i 3] d) (A.call 57 [.v e] d λp q=>A.k0 p λr=>K [.v r,.i 0] q)))
def f44:R:=A.unV ls λd f=>A.k0 f λe=>A.opt (lenS d) λg=>A.opt (lenS e) λj=>A.cd .neq g j (K [.b false] h) (A.opt (lenS d) λk=>A.loop (λl m a=>A.k5 m λc=>A.cd .lss c k (A.ix 3 d c 3 a λn=>A.k6 n λo p q=>A.ix 3 e c 3 a λr=>A.k6 r λs t u=>A.eqs [(.i o,.i s),(.i p,.i t),(.i q,.i u)] λv=>A.cond (!v) (K [.b false] a) (A.ari .add .i64 c 1 λw=>l [.i w] a)) (K [.b true] a)) [.i 0] h)
def f45:R:=A.unV ls λa c=>A.k0 c λd=>A.call 58 [.v a,.v d] h λe f=>A.k5 e λg=>A.cmp .geq g 0 λi=>K [.b i] f
def f46:R:=A.k7 ls λa c d=>A.call 47 [.i a,.i c,.i d] h λe f=>A.k5 e λg=>A.cmp .neq g 0 λj=>K [.b j] f
def f47:R:=A.k7 ls λa b c=>A.cd .lss a (-4096) (K [.i 1] h) (A.cd .gtr a 4096 (K [.i 1] h) (A.cd .lss b (-4096) (K [.i 1] h) (A.cd .gtr b 4096 (K [.i 1] h) (A.cd .gtr c 3 (K [.i 1] h) (K [.i 0] h)))))
def f48:R:=A.k0 ls λc=>A.opt (lenS c) λf=>A.loop (λg j a=>A.k5 j λb=>A.cd .lss b f (A.ix 2 c b 2 a λk=>A.ucI .i64 k λl m=>A.k3 m λn=>A.call 59 [.i l,.i n] a λo d=>A.k5 o λe=>A.cd .neq e 0 (K [.i e] d) (A.ari .add .i64 b 1 λp=>g [.i p] d)) (K [.i 0] a)) [.i 0] h
def f50:R:=A.k0 ls λl=>A.call 20 [.v l] h λz o=>A.k8 z λB p=>A.cd .neq p 0 (A.opt (chk2 (.slice none 0 0)) λe9=>K [.i 0,.i 0,.v (.slice none 0 0),.i p] o) (A.opt (lenS l) λC=>A.loop (λD E g=>A.unI E λa F=>A.unB F λj G=>A.unI G λm H=>A.unI H λd I=>A.unI I λe J=>A.k0 J λc=>A.cd .lss m C (A.join (λL M=>A.unI L λN O=>A.unB O λP Q=>A.unI Q λS T=>A.unI T λU V=>A.k0 V λW=>A.ari .add .i64 m 1 λX=>D [.i N,.b P,.i X,.i S,.i U,.v W] M) λq=>A.ix 1 l m 1 g λY=>A.ucI .u8 Y λn Z=>A.uc0 Z (A.join (λa0 k=>A.k5 a0 λf=>A.cd .eql n 1 (A.ari .add .i64 a 1 λa1=>q [.i a1,.b j,.i d,.i e,.v c] k) (A.cmp .eql n 2 λa2=>A.join (λa3 a4=>A.unI a3 λa5 a6=>A.unI a6 λa7 a8=>A.unI a8 λa9 b0=>A.k0 b0 λb1=>q [.i a5,.b (!j),.i a7,.i a9,.v b1] a4) λr=>A.cond a2 (A.ari .mul .i64 4 a λb2=>A.ari .add .i64 b2 1 λb3=>A.new (.cells [.int .i64 b3,.int .u8 0,.int .u8 f] 3 true) k λb4 b5=>A.heap (.ap cc 3 16 c (.slice (some ⟨b4,0,some 13⟩) 1 2)) b5 λb6 b7=>A.ucV b6 λs b8=>A.chk s (A.uc0 b8 (A.ari .add .i64 a 1 λb9=>r [.i b9,.i d,.i e,.v s] b7))) (A.cmp .eql n 3 λc0=>A.eqs [(.b c0,.b j)] λc1=>A.join (λc2 c3=>A.unI c2 λc4 c5=>A.unI c5 λc6 c7=>A.k0 c7 λc8=>r [.i a,.i c4,.i c6,.v c8] c3) λt=>A.cond c1 (A.ari .mul .i64 4 a λc9=>A.ari .mul .i64 4 a λd0=>A.ari .add .i64 d0 1 λd1=>A.new (.cells [.int .i64 c9,.int .u8 2,.int .u8 f,.int .i64 d1,.int .u8 2,.int .u8 f] 3 true) k λd2 d3=>A.heap (.ap cc 3 16 c (.slice (some ⟨d2,0,some 13⟩) 2 3)) d3 λd4 d5=>A.ucV d4 λu d6=>A.chk u (A.uc0 d6 (t [.i d,.i e,.v u] d5))) (A.ari .mul .i64 4 a λd7=>A.ari .mul .i64 4 a λd8=>A.ari .add .i64 d8 2 λd9=>A.new (.cells [.int .i64 d7,.int .u8 1,.int .u8 f,.int .i64 d9,.int .u8 1,.int .u8 f] 3 true) k λe0 e1=>A.heap (.ap cc 3 16 c (.slice (some ⟨e0,0,some 13⟩) 2 3)) e1 λe2 e3=>A.ucV e2 λw e4=>A.chk w (A.uc0 e4 (t [.i d,.i e,.v w] e3)))))) λx=>A.cond j (x [.i 2] g) (x [.i 1] g))) (A.call 60 [.v c,.v (.func (.func 61) ⟨[]⟩ ⟨[]⟩)] g λe5 e6=>A.un0 e5 (A.call 62 [.v c] e6 λe7 e8=>A.k0 e7 λy=>A.opt (chk2 y) λf0=>K [.i d,.i e,.v y,.i 0] e8))) [.i 0,.b true,.i 0,.i B,.i 1,.v (.slice none 0 0)] o)
def f51:R:=A.un0 ls (K [.i 0,.i 0,.i 0] h)
def f52:R:=A.k8 ls λc a=>A.call 63 [.i c,.i a] h λd b=>A.k5 d λe=>A.cd .neq e 0 (K [.i 0,.i 0,.i 0,.i 1] b) (A.cd .eql c 1 (A.ari .mul .i64 2 a λf=>K [.i 4,.i f,.i 0,.i 0] b) (A.cd .eql c 2 (A.ari .mul .i64 2 a λg=>K [.i 6,.i 0,.i g,.i 0] b) (A.cd .eql c 3 (K [.i 5,.i a,.i a,.i 0] b) (A.ari .sub .i64 0 a λj=>K [.i 7,.i j,.i a,.i 0] b))))
def f53:R:=A.unI ls λa b=>A.unI b λc d=>A.unV d λe f=>A.k7 f λg j k=>A.call 64 [.i a,.i c,.v e,.i g,.i j,.i k] h λl m=>A.unV l λq n=>A.k4 n λo p=>K [.v o,.i p] m
def f54:R:=A.k0 ls λa=>A.opt (qp 1 a (.slice none 0 0)) λc=>A.cond c (K [.v (.slice none 0 0)] h) (A.new (.cells [] 3 true) h λd e=>A.heap (.ap cc 3 24 (.slice (some ⟨d,0,some 13⟩) 0 1) a) e λf g=>A.ucV f λb i=>A.chk b (A.uc0 i (K [.v b] g)))
def f55:R:=A.unV ls λa c=>A.k0 c λd=>A.opt (lenS a) λb=>A.conv .u64 b λe=>A.call 66 [.i e] h λf g=>A.k5 f λj=>A.call 65 [.v a,.i 0,.i b,.i j,.v d] g λk l=>A.un0 k (K [] l)
def f56:R:=A.k0 ls λa=>A.opt (lenS a) λm=>A.cd .lss m 2 (K [.v a] h) (A.loop (λn o d=>A.k5 o λb=>A.opt (lenS a) λp=>A.cd .lss b p (A.ix 3 a b 3 d λq=>A.k6 q λr s t=>A.ari .sub .i64 b 1 λu=>A.ix 3 a u 3 d λw=>A.k6 w λx y z=>A.eqs [(.i r,.i x),(.i s,.i y),(.i t,.i z)] λB=>A.cond B (A.opt (slS 3 a (some b) none none) λe=>A.chk e (A.loop (λC D c=>A.k8 D λf g=>A.opt (lenS e) λE=>A.cd .lss g E (A.ix 3 e g 3 c λF=>A.k6 F λG H I=>A.ari .sub .i64 g 1 λJ=>A.ix 3 e J 3 c λL=>A.k6 L λM N O=>A.eqs [(.i G,.i M),(.i H,.i N),(.i I,.i O)] λP=>A.join (λQ S=>A.k5 Q λT=>A.ari .add .i64 g 1 λU=>C [.i T,.i U] S) λj=>A.cond (!P) (A.ix 3 e g 3 c λV=>A.k6 V λW X Y=>A.opt (idS 3 a f) λZ=>A.heap (.st Z [.int .i64 W,.int .i64 X,.int .u8 Y]) c λa4 a0=>A.ari .add .i64 f 1 λa1=>j [.i a1] a0) (j [.i f] c)) (A.opt (slS 3 a (some f) none none) λk=>A.chk k (A.heap (.fn (clG 3 [.int .i64 0,.int .i64 0,.int .u8 0] k)) c λa5 a2=>A.opt (slS 3 a none (some f) none) λl=>A.chk l (K [.v l] a2)))) [.i b,.i 1] d)) (A.ari .add .i64 b 1 λa3=>n [.i a3] d)) (K [.v a] d)) [.i 1] h)
def f57:R:=A.k0 ls λa=>A.opt (lenS a) λc=>A.opt (lenS a) λd=>A.opt (slS 3 a none (some c) (some d)) λb=>A.chk b (K [.v b] h)
def f58:R:=A.unV ls λd f=>A.k0 f λg=>A.opt (lenS d) λj=>A.loop (λk l c=>A.k5 l λa=>A.cd .lss a j (A.ix 3 d a 3 c λm=>A.k6 m λn o p=>A.callv g [.agg ⟨[.int .i64 n,.int .i64 o,.int .u8 p]⟩] [.leaf .b] c λq e=>A.k2 q λr=>A.cond r (K [.i a] e) (A.ari .add .i64 a 1 λs=>k [.i s] e)) (K [.i (-1)] c)) [.i 0] h
def f59:R:=A.k8 ls λb c=>A.call 67 [.i b] h λe f=>A.k2 e λg=>A.call 67 [.i c] f λj a=>A.k2 j λd=>A.cond g (A.cond d (K [.i 0] a) (K [.i (-1)] a)) (A.cond d (K [.i 1] a) (A.cd .lss b c (K [.i (-1)] a) (A.cd .gtr b c (K [.i 1] a) (K [.i 0] a))))
def f60:R:=A.unV ls λa c=>A.k0 c λd=>A.opt (lenS a) λb=>A.conv .u64 b λe=>A.call 66 [.i e] h λf g=>A.k5 f λj=>A.call 68 [.v a,.i 0,.i b,.i j,.v d] g λk l=>A.un0 k (K [] l)
def f61:R:=A.unI ls λa b=>A.unI b λc d=>A.k1 d λo e f p=>A.ari .sub .i64 a e λg=>A.ari .mul .i64 4 g λj=>A.conv .i64 c λk=>A.ari .add .i64 j k λl=>A.conv .i64 f λm=>A.ari .sub .i64 l m λn=>K [.i n] h
def f62:R:=A.k0 ls λa=>A.opt (lenS a) λc=>A.opt (lenS a) λd=>A.opt (slS 3 a none (some c) (some d)) λb=>A.chk b (K [.v b] h)
def f63:R:=A.k8 ls λa b=>A.cd .lss a 1 (K [.i 1] h) (A.cd .gtr a 4 (K [.i 1] h) (A.cd .lss b (-4096) (K [.i 1] h) (A.cd .gtr b 4096 (K [.i 1] h) (K [.i 0] h))))
def f64:R:=A.unI ls λd x=>A.unI x λe y=>A.unV y λj z=>A.k7 z λk l m=>A.call 69 [.i d,.i e,.v j] h λB n=>A.k5 B λo=>A.cd .neq o 0 (K [.v (.slice none 0 0),.v (.slice none 0 0),.i o] n) (A.call 70 [.i k,.i l,.i m] n λC p=>A.k5 C λD=>A.cd .neq D 0 (K [.v (.slice none 0 0),.v (.slice none 0 0),.i 1] p) (A.call 71 [.i d,.i e,.v j] p λE q=>A.k4 E λc r=>A.cd .neq r 0 (K [.v (.slice none 0 0),.v (.slice none 0 0),.i r] q) (A.opt (lenS c) λa=>A.opt (mkOk a a) λb5=>A.new (.cells (aZ [.int .i64 0,.int .i64 0,.int .u8 0] (Int.toNat a)) 3 true) q λs F=>A.opt (lenS c) λG=>A.loop (λH I f=>A.k5 I λb=>A.cd .lss b G (A.ix 3 c b 3 f λJ=>A.ucI .u8 J λL M=>A.ucI .i64 M λN O=>A.k3 O λP=>A.call 72 [.i d,.i e,.i b] f λQ S=>A.k1 Q λT U V b6=>A.call 73 [.i L,.i N,.i P,.i k,.i l,.i m] S λW X=>A.k1 W λY Z a0 t=>A.opt (idS 3 c b) λa1=>A.heap (.st a1 [.int .u8 Y,.int .i64 Z,.int .i64 a0]) X λb7 g=>A.cd .neq t 0 (K [.v (.slice none 0 0),.v (.slice none 0 0),.i t] g) (A.ix 3 c b 3 g λa2=>A.ucI .u8 a2 λa3 a4=>A.ucI .i64 a4 λa5 a6=>A.k3 a6 λa7=>A.call 74 [.i a3,.i a5,.i a7,.i T,.i U,.i V] g λa8 a9=>A.k1 a8 λb0 b1 b2 u=>A.opt (idS 3 (.slice (some ⟨s,0,some 13⟩) (Int.toNat a) ((Int.toNat a)+1)) b) λb3=>A.heap (.st b3 [.int .i64 b0,.int .i64 b1,.int .u8 b2]) a9 λb8 w=>A.cd .neq u 0 (K [.v (.slice none 0 0),.v (.slice none 0 0),.i u] w) (A.ari .add .i64 b 1 λb4=>H [.i b4] w))) (K [.v c,.v (.slice (some ⟨s,0,some 13⟩) (Int.toNat a) ((Int.toNat a)+1)),.i 0] f)) [.i 0] F)))
def f65:R:=A.unV ls λc b8=>A.unI b8 λb9 c0=>A.unI c0 λc1 c2=>A.unI c2 λc3 c4=>A.k0 c4 λe=>A.loop (λc5 c6 t=>A.unI c6 λB c7=>A.unI c7 λd c8=>A.unB c8 λu c9=>A.unB c9 λs d0=>A.k5 d0 λa=>A.join (λd1 d2=>A.unI d1 λd3 d4=>A.unI d4 λd5 d6=>A.unB d6 λd7 d8=>A.unB d8 λd9 e0=>A.k5 e0 λe1=>c5 [.i d3,.i d5,.b d7,.b d9,.i e1] d2) λk=>A.ari .sub .i64 a d λl=>A.cd .leq l 12 (A.call 75 [.v c,.i d,.i a,.v e] t λe2 e3=>A.un0 e2 (K [] e3)) (A.cd .eql B 0 (A.call 76 [.v c,.i d,.i a,.v e] t λe4 e5=>A.un0 e4 (K [] e5)) (A.join (λe6 e7=>A.k5 e6 λf=>A.call 78 [.v c,.i d,.i a,.v e] e7 λe8 C=>A.k8 e8 λD E=>A.cmp .eql E 2 λe9=>A.join (λf0 j=>A.k8 f0 λg f1=>A.cond s (A.cond u (A.cmp .eql f1 1 λf2=>A.join (λf3 w=>A.un0 f3 (A.cd .gtr d 0 (A.ari .sub .i64 d 1 λf4=>A.ix 3 c f4 3 w λf5=>A.k6 f5 λf6 f7 f8=>A.ix 3 c g 3 w λf9=>A.k6 f9 λg0 g1 g2=>A.callv e [.agg ⟨[.int .i64 f6,.int .i64 f7,.int .u8 f8]⟩,.agg ⟨[.int .i64 g0,.int .i64 g1,.int .u8 g2]⟩] [.leaf (.i .i64)] w λg3 F=>A.k5 g3 λg4=>A.cmp .lss g4 0 λg5=>A.join (λg6 g7=>A.k5 g6 λx=>A.call 82 [.v c,.i x,.i a,.i g,.v e] g7 λg8 G=>A.unI g8 λm g9=>A.k2 g9 λh0=>A.ari .sub .i64 m x λH=>A.ari .sub .i64 a m λI=>A.ari .quo .i64 l 8 λJ=>A.cmp .lss H I λh1=>A.join (λh2 h3=>A.unB h2 λh4 h5=>A.k8 h5 λh6 h7=>k [.i f,.i h6,.b h0,.b h4,.i h7] h3) λL=>A.cond h1 (A.cmp .geq H J λh8=>A.call 65 [.v c,.i x,.i m,.i f,.v e] G λh9 i0=>A.un0 h9 (A.ari .add .i64 m 1 λi1=>L [.b h8,.i i1,.i a] i0)) (A.cmp .geq I J λi2=>A.ari .add .i64 m 1 λi3=>A.call 65 [.v c,.i i3,.i a,.i f,.v e] G λi4 i5=>A.un0 i4 (L [.b i2,.i x,.i m] i5))) λi6=>A.cond (!g5) (A.call 81 [.v c,.i d,.i a,.i g,.v e] F λi7 i8=>A.k5 i7 λi9=>k [.i f,.i i9,.b u,.b s,.i a] i8) (i6 [.i d] F)) (A.call 82 [.v c,.i d,.i a,.i g,.v e] w λj0 M=>A.unI j0 λn j1=>A.k2 j1 λj2=>A.ari .sub .i64 n d λN=>A.ari .sub .i64 a n λO=>A.ari .quo .i64 l 8 λP=>A.cmp .lss N O λj3=>A.join (λj4 j5=>A.unB j4 λj6 j7=>A.k8 j7 λj8 j9=>k [.i f,.i j8,.b j2,.b j6,.i j9] j5) λQ=>A.cond j3 (A.cmp .geq N P λk1=>A.call 65 [.v c,.i d,.i n,.i f,.v e] M λk3 k4=>A.un0 k3 (A.ari .add .i64 n 1 λk7=>Q [.b k1,.i k7,.i a] k4)) (A.cmp .geq O P λk9=>A.ari .add .i64 n 1 λl0=>A.call 65 [.v c,.i l0,.i a,.i f,.v e] M λl1 l2=>A.un0 l1 (Q [.b k9,.i d,.i n] l2))))) λS=>A.cond f2 (A.call 80 [.v c,.i d,.i a,.v e] j λl3 T=>A.k2 l3 λl4=>A.cond l4 (K [] T) (S [] T)) (S [] j)) (A.cd .gtr d 0 (A.ari .sub .i64 d 1 λl5=>A.ix 3 c l5 3 j λl6=>A.k6 l6 λl7 l8 l9=>A.ix 3 c g 3 j λm0=>A.k6 m0 λm1 m2 m3=>A.callv e [.agg ⟨[.int .i64 l7,.int .i64 l8,.int .u8 l9]⟩,.agg ⟨[.int .i64 m1,.int .i64 m2,.int .u8 m3]⟩] [.leaf (.i .i64)] j λm4 U=>A.k5 m4 λm5=>A.cmp .lss m5 0 λm6=>A.join (λm7 m8=>A.k5 m7 λy=>A.call 82 [.v c,.i y,.i a,.i g,.v e] m8 λm9 V=>A.unI m9 λo n0=>A.k2 n0 λn1=>A.ari .sub .i64 o y λW=>A.ari .sub .i64 a o λX=>A.ari .quo .i64 l 8 λY=>A.cmp .lss W X λn2=>A.join (λn3 n4=>A.unB n3 λn5 n6=>A.k8 n6 λn7 n8=>k [.i f,.i n7,.b n1,.b n5,.i n8] n4) λZ=>A.cond n2 (A.cmp .geq W Y λn9=>A.call 65 [.v c,.i y,.i o,.i f,.v e] V λo0 o1=>A.un0 o0 (A.ari .add .i64 o 1 λo2=>Z [.b n9,.i o2,.i a] o1)) (A.cmp .geq X Y λo3=>A.ari .add .i64 o 1 λo4=>A.call 65 [.v c,.i o4,.i a,.i f,.v e] V λo5 o6=>A.un0 o5 (Z [.b o3,.i y,.i o] o6))) λo7=>A.cond (!m6) (A.call 81 [.v c,.i d,.i a,.i g,.v e] U λo8 o9=>A.k5 o8 λp0=>k [.i f,.i p0,.b u,.b s,.i a] o9) (o7 [.i d] U)) (A.call 82 [.v c,.i d,.i a,.i g,.v e] j λp1 a0=>A.unI p1 λp p2=>A.k2 p2 λp3=>A.ari .sub .i64 p d λa1=>A.ari .sub .i64 a p λa2=>A.ari .quo .i64 l 8 λa3=>A.cmp .lss a1 a2 λp4=>A.join (λp5 p6=>A.unB p5 λp7 p8=>A.k8 p8 λp9 q0=>k [.i f,.i p9,.b p3,.b p7,.i q0] p6) λa4=>A.cond p4 (A.cmp .geq a1 a3 λq1=>A.call 65 [.v c,.i d,.i p,.i f,.v e] a0 λq2 q3=>A.un0 q2 (A.ari .add .i64 p 1 λq4=>a4 [.b q1,.i q4,.i a] q3)) (A.cmp .geq a2 a3 λq5=>A.ari .add .i64 p 1 λq6=>A.call 65 [.v c,.i q6,.i a,.i f,.v e] a0 λq7 q8=>A.un0 q7 (a4 [.b q5,.i d,.i p] q8))))) (A.cd .gtr d 0 (A.ari .sub .i64 d 1 λq9=>A.ix 3 c q9 3 j λr0=>A.k6 r0 λr1 r2 r3=>A.ix 3 c g 3 j λr4=>A.k6 r4 λr5 r6 r7=>A.callv e [.agg ⟨[.int .i64 r1,.int .i64 r2,.int .u8 r3]⟩,.agg ⟨[.int .i64 r5,.int .i64 r6,.int .u8 r7]⟩] [.leaf (.i .i64)] j λr8 a5=>A.k5 r8 λr9=>A.cmp .lss r9 0 λs0=>A.join (λs1 s2=>A.k5 s1 λz=>A.call 82 [.v c,.i z,.i a,.i g,.v e] s2 λs3 a6=>A.unI s3 λq s4=>A.k2 s4 λs5=>A.ari .sub .i64 q z λa7=>A.ari .sub .i64 a q λa8=>A.ari .quo .i64 l 8 λa9=>A.cmp .lss a7 a8 λs6=>A.join (λs7 s8=>A.unB s7 λs9 t0=>A.k8 t0 λt1 t2=>k [.i f,.i t1,.b s5,.b s9,.i t2] s8) λb0=>A.cond s6 (A.cmp .geq a7 a9 λt3=>A.call 65 [.v c,.i z,.i q,.i f,.v e] a6 λt4 t5=>A.un0 t4 (A.ari .add .i64 q 1 λt6=>b0 [.b t3,.i t6,.i a] t5)) (A.cmp .geq a8 a9 λt7=>A.ari .add .i64 q 1 λt8=>A.call 65 [.v c,.i t8,.i a,.i f,.v e] a6 λt9 u0=>A.un0 t9 (b0 [.b t7,.i z,.i q] u0))) λu1=>A.cond (!s0) (A.call 81 [.v c,.i d,.i a,.i g,.v e] a5 λu2 u3=>A.k5 u2 λu4=>k [.i f,.i u4,.b u,.b s,.i a] u3) (u1 [.i d] a5)) (A.call 82 [.v c,.i d,.i a,.i g,.v e] j λu5 b1=>A.unI u5 λr u6=>A.k2 u6 λu7=>A.ari .sub .i64 r d λb2=>A.ari .sub .i64 a r λb3=>A.ari .quo .i64 l 8 λb4=>A.cmp .lss b2 b3 λu9=>A.join (λv0 v1=>A.unB v0 λv2 v3=>A.k8 v3 λv4 v5=>k [.i f,.i v4,.b u7,.b v2,.i v5] v1) λb5=>A.cond u9 (A.cmp .geq b2 b4 λv6=>A.call 65 [.v c,.i d,.i r,.i f,.v e] b1 λv7 v8=>A.un0 v7 (A.ari .add .i64 r 1 λv9=>b5 [.b v6,.i v9,.i a] v8)) (A.cmp .geq b3 b4 λw0=>A.ari .add .i64 r 1 λw1=>A.call 65 [.v c,.i w1,.i a,.i f,.v e] b1 λw2 w3=>A.un0 w2 (b5 [.b w0,.i d,.i r] w3))))) λb6=>A.cond e9 (A.call 79 [.v c,.i d,.i a,.v e] C λw4 w5=>A.un0 w4 (A.ari .sub .i64 a 1 λw6=>A.ari .sub .i64 D d λw7=>A.ari .sub .i64 w6 w7 λw8=>b6 [.i w8,.i 1] w5)) (b6 [.i D,.i E] C)) λb7=>A.cond (!s) (A.call 77 [.v c,.i d,.i a,.v e] t λw9 x0=>A.un0 w9 (A.ari .sub .i64 B 1 λx1=>b7 [.i x1] x0)) (b7 [.i B] t)))) [.i c3,.i b9,.b true,.b true,.i c1] h
def f66:R:=A.k5 ls λa=>A.call 84 [.i a] h λb c=>A.k5 b λd=>K [.i d] c
def f67:R:=A.k5 ls λa=>A.cmp .neq a a λc=>K [.b c] h
def f68:R:=A.unV ls λc b8=>A.unI b8 λb9 c0=>A.unI c0 λc1 c2=>A.unI c2 λc3 c4=>A.k0 c4 λe=>A.loop (λc5 c6 t=>A.unI c6 λB c7=>A.unI c7 λd c8=>A.unB c8 λu c9=>A.unB c9 λs d0=>A.k5 d0 λa=>A.join (λd1 d2=>A.unI d1 λd3 d4=>A.unI d4 λd5 d6=>A.unB d6 λd7 d8=>A.unB d8 λd9 e0=>A.k5 e0 λe1=>c5 [.i d3,.i d5,.b d7,.b d9,.i e1] d2) λk=>A.ari .sub .i64 a d λl=>A.cd .leq l 12 (A.call 85 [.v c,.i d,.i a,.v e] t λe2 e3=>A.un0 e2 (K [] e3)) (A.cd .eql B 0 (A.call 86 [.v c,.i d,.i a,.v e] t λe4 e5=>A.un0 e4 (K [] e5)) (A.join (λe6 e7=>A.k5 e6 λf=>A.call 88 [.v c,.i d,.i a,.v e] e7 λe8 C=>A.k8 e8 λD E=>A.cmp .eql E 2 λe9=>A.join (λf0 j=>A.k8 f0 λg f1=>A.cond s (A.cond u (A.cmp .eql f1 1 λf2=>A.join (λf3 w=>A.un0 f3 (A.cd .gtr d 0 (A.ari .sub .i64 d 1 λf4=>A.ix 3 c f4 3 w λf5=>A.k9 f5 λf6 f7 f8=>A.ix 3 c g 3 w λf9=>A.k9 f9 λg0 g1 g2=>A.callv e [.agg ⟨[.int .i64 f6,.int .u8 f7,.int .u8 f8]⟩,.agg ⟨[.int .i64 g0,.int .u8 g1,.int .u8 g2]⟩] [.leaf (.i .i64)] w λg3 F=>A.k5 g3 λg4=>A.cmp .lss g4 0 λg5=>A.join (λg6 g7=>A.k5 g6 λx=>A.call 92 [.v c,.i x,.i a,.i g,.v e] g7 λg8 G=>A.unI g8 λm g9=>A.k2 g9 λh0=>A.ari .sub .i64 m x λH=>A.ari .sub .i64 a m λI=>A.ari .quo .i64 l 8 λJ=>A.cmp .lss H I λh1=>A.join (λh2 h3=>A.unB h2 λh4 h5=>A.k8 h5 λh6 h7=>k [.i f,.i h6,.b h0,.b h4,.i h7] h3) λL=>A.cond h1 (A.cmp .geq H J λh8=>A.call 68 [.v c,.i x,.i m,.i f,.v e] G λh9 i0=>A.un0 h9 (A.ari .add .i64 m 1 λi1=>L [.b h8,.i i1,.i a] i0)) (A.cmp .geq I J λi2=>A.ari .add .i64 m 1 λi3=>A.call 68 [.v c,.i i3,.i a,.i f,.v e] G λi4 i5=>A.un0 i4 (L [.b i2,.i x,.i m] i5))) λi6=>A.cond (!g5) (A.call 91 [.v c,.i d,.i a,.i g,.v e] F λi7 i8=>A.k5 i7 λi9=>k [.i f,.i i9,.b u,.b s,.i a] i8) (i6 [.i d] F)) (A.call 92 [.v c,.i d,.i a,.i g,.v e] w λj0 M=>A.unI j0 λn j1=>A.k2 j1 λj2=>A.ari .sub .i64 n d λN=>A.ari .sub .i64 a n λO=>A.ari .quo .i64 l 8 λP=>A.cmp .lss N O λj3=>A.join (λj4 j5=>A.unB j4 λj6 j7=>A.k8 j7 λj8 j9=>k [.i f,.i j8,.b j2,.b j6,.i j9] j5) λQ=>A.cond j3 (A.cmp .geq N P λk1=>A.call 68 [.v c,.i d,.i n,.i f,.v e] M λk3 k4=>A.un0 k3 (A.ari .add .i64 n 1 λk6=>Q [.b k1,.i k6,.i a] k4)) (A.cmp .geq O P λk7=>A.ari .add .i64 n 1 λl0=>A.call 68 [.v c,.i l0,.i a,.i f,.v e] M λl1 l2=>A.un0 l1 (Q [.b k7,.i d,.i n] l2))))) λS=>A.cond f2 (A.call 90 [.v c,.i d,.i a,.v e] j λl3 T=>A.k2 l3 λl4=>A.cond l4 (K [] T) (S [] T)) (S [] j)) (A.cd .gtr d 0 (A.ari .sub .i64 d 1 λl5=>A.ix 3 c l5 3 j λl6=>A.k9 l6 λl7 l8 l9=>A.ix 3 c g 3 j λm0=>A.k9 m0 λm1 m2 m3=>A.callv e [.agg ⟨[.int .i64 l7,.int .u8 l8,.int .u8 l9]⟩,.agg ⟨[.int .i64 m1,.int .u8 m2,.int .u8 m3]⟩] [.leaf (.i .i64)] j λm4 U=>A.k5 m4 λm5=>A.cmp .lss m5 0 λm6=>A.join (λm7 m8=>A.k5 m7 λy=>A.call 92 [.v c,.i y,.i a,.i g,.v e] m8 λm9 V=>A.unI m9 λo n0=>A.k2 n0 λn1=>A.ari .sub .i64 o y λW=>A.ari .sub .i64 a o λX=>A.ari .quo .i64 l 8 λY=>A.cmp .lss W X λn2=>A.join (λn3 n4=>A.unB n3 λn5 n6=>A.k8 n6 λn7 n8=>k [.i f,.i n7,.b n1,.b n5,.i n8] n4) λZ=>A.cond n2 (A.cmp .geq W Y λn9=>A.call 68 [.v c,.i y,.i o,.i f,.v e] V λo0 o1=>A.un0 o0 (A.ari .add .i64 o 1 λo2=>Z [.b n9,.i o2,.i a] o1)) (A.cmp .geq X Y λo3=>A.ari .add .i64 o 1 λo4=>A.call 68 [.v c,.i o4,.i a,.i f,.v e] V λo5 o6=>A.un0 o5 (Z [.b o3,.i y,.i o] o6))) λo7=>A.cond (!m6) (A.call 91 [.v c,.i d,.i a,.i g,.v e] U λo8 o9=>A.k5 o8 λp0=>k [.i f,.i p0,.b u,.b s,.i a] o9) (o7 [.i d] U)) (A.call 92 [.v c,.i d,.i a,.i g,.v e] j λp1 a0=>A.unI p1 λp p2=>A.k2 p2 λp3=>A.ari .sub .i64 p d λa1=>A.ari .sub .i64 a p λa2=>A.ari .quo .i64 l 8 λa3=>A.cmp .lss a1 a2 λp4=>A.join (λp5 p6=>A.unB p5 λp7 p8=>A.k8 p8 λp9 q0=>k [.i f,.i p9,.b p3,.b p7,.i q0] p6) λa4=>A.cond p4 (A.cmp .geq a1 a3 λq1=>A.call 68 [.v c,.i d,.i p,.i f,.v e] a0 λq2 q3=>A.un0 q2 (A.ari .add .i64 p 1 λq4=>a4 [.b q1,.i q4,.i a] q3)) (A.cmp .geq a2 a3 λq5=>A.ari .add .i64 p 1 λq6=>A.call 68 [.v c,.i q6,.i a,.i f,.v e] a0 λq7 q8=>A.un0 q7 (a4 [.b q5,.i d,.i p] q8))))) (A.cd .gtr d 0 (A.ari .sub .i64 d 1 λq9=>A.ix 3 c q9 3 j λr0=>A.k9 r0 λr1 r2 r3=>A.ix 3 c g 3 j λr4=>A.k9 r4 λr5 r6 r7=>A.callv e [.agg ⟨[.int .i64 r1,.int .u8 r2,.int .u8 r3]⟩,.agg ⟨[.int .i64 r5,.int .u8 r6,.int .u8 r7]⟩] [.leaf (.i .i64)] j λr8 a5=>A.k5 r8 λr9=>A.cmp .lss r9 0 λs0=>A.join (λs1 s2=>A.k5 s1 λz=>A.call 92 [.v c,.i z,.i a,.i g,.v e] s2 λs3 a6=>A.unI s3 λq s4=>A.k2 s4 λs5=>A.ari .sub .i64 q z λa7=>A.ari .sub .i64 a q λa8=>A.ari .quo .i64 l 8 λa9=>A.cmp .lss a7 a8 λs6=>A.join (λs7 s8=>A.unB s7 λs9 t0=>A.k8 t0 λt1 t2=>k [.i f,.i t1,.b s5,.b s9,.i t2] s8) λb0=>A.cond s6 (A.cmp .geq a7 a9 λt3=>A.call 68 [.v c,.i z,.i q,.i f,.v e] a6 λt4 t5=>A.un0 t4 (A.ari .add .i64 q 1 λt6=>b0 [.b t3,.i t6,.i a] t5)) (A.cmp .geq a8 a9 λt7=>A.ari .add .i64 q 1 λt8=>A.call 68 [.v c,.i t8,.i a,.i f,.v e] a6 λt9 u0=>A.un0 t9 (b0 [.b t7,.i z,.i q] u0))) λu1=>A.cond (!s0) (A.call 91 [.v c,.i d,.i a,.i g,.v e] a5 λu2 u3=>A.k5 u2 λu4=>k [.i f,.i u4,.b u,.b s,.i a] u3) (u1 [.i d] a5)) (A.call 92 [.v c,.i d,.i a,.i g,.v e] j λu5 b1=>A.unI u5 λr u6=>A.k2 u6 λu7=>A.ari .sub .i64 r d λb2=>A.ari .sub .i64 a r λb3=>A.ari .quo .i64 l 8 λb4=>A.cmp .lss b2 b3 λu9=>A.join (λv0 v1=>A.unB v0 λv2 v3=>A.k8 v3 λv4 v5=>k [.i f,.i v4,.b u7,.b v2,.i v5] v1) λb5=>A.cond u9 (A.cmp .geq b2 b4 λv6=>A.call 68 [.v c,.i d,.i r,.i f,.v e] b1 λv7 v8=>A.un0 v7 (A.ari .add .i64 r 1 λv9=>b5 [.b v6,.i v9,.i a] v8)) (A.cmp .geq b3 b4 λw0=>A.ari .add .i64 r 1 λw1=>A.call 68 [.v c,.i w1,.i a,.i f,.v e] b1 λw2 w3=>A.un0 w2 (b5 [.b w0,.i d,.i r] w3))))) λb6=>A.cond e9 (A.call 89 [.v c,.i d,.i a,.v e] C λw4 w5=>A.un0 w4 (A.ari .sub .i64 a 1 λw6=>A.ari .sub .i64 D d λw7=>A.ari .sub .i64 w6 w7 λw8=>b6 [.i w8,.i 1] w5)) (b6 [.i D,.i E] C)) λb7=>A.cond (!s) (A.call 87 [.v c,.i d,.i a,.v e] t λw9 x0=>A.un0 w9 (A.ari .sub .i64 B 1 λx1=>b7 [.i x1] x0)) (b7 [.i B] t)))) [.i c3,.i b9,.b true,.b true,.i c1] h
def f69:R:=A.unI ls λf s=>A.unI s λg t=>A.k0 t λa=>A.call 93 [.i f,.i g] h λu j=>A.k5 u λk=>A.cd .neq k 0 (K [.i k] j) (A.call 94 [.v a,.v (.func (.func 95) ⟨[]⟩ ⟨[]⟩)] j λw l=>A.k2 w λx=>A.cond x (K [.i 1] l) (A.opt (lenS a) λy=>A.loop (λz B c=>A.k5 B λd=>A.cd .lss d y (A.ix 3 a d 3 c λC=>A.k9 C λm n D=>A.call 97 [.i f,.i g,.i m,.i n] c λE o=>A.k7 E λF G H=>A.cd .neq H 0 (K [.i 7] o) (A.call 98 [.i m,.i n,.i D] o λI p=>A.k8 I λJ L=>A.eqs [(.i F,.i J),(.i G,.i L)] λM=>A.cond (!M) (K [.i 7] p) (A.ari .add .i64 d 1 λN=>z [.i N] p))) (A.loop (λO P e=>A.k5 P λb=>A.opt (lenS a) λQ=>A.cd .lss b Q (A.ari .sub .i64 b 1 λS=>A.ix 3 a S 3 e λT=>A.k9 T λU V W=>A.call 98 [.i U,.i V,.i W] e λX q=>A.k8 X λY Z=>A.ix 3 a b 3 q λa0=>A.k9 a0 λa1 a2 a3=>A.call 98 [.i a1,.i a2,.i a3] q λa4 a5=>A.k8 a4 λa6 a7=>A.call 99 [.i Y,.i Z,.i a6,.i a7] a5 λa8 r=>A.k5 a8 λa9=>A.cd .geq a9 0 (K [.i 6] r) (A.ari .add .i64 b 1 λb0=>O [.i b0] r)) (K [.i 0] e)) [.i 1] c)) [.i 0] l))
def f70:R:=A.k7 ls λe b c=>A.conv .i64 e λf=>A.cd .geq f 8 (K [.i 1] h) (A.call 100 [.i b] h λg d=>A.k2 g λj=>A.cond j (K [.i 1] d) (A.call 100 [.i c] d λk a=>A.k2 k λl=>A.cond l (K [.i 1] a) (A.ari .add .i64 b c λm=>A.ari .rem .i64 m 2 λn=>A.cd .neq n 0 (K [.i 1] a) (K [.i 0] a))))
def f71:R:=A.unI ls λM N=>A.unI N λO P=>A.k0 P λQ=>A.new (.cells [.int .i64 M,.int .i64 O,Q] 3 true) h λc q=>A.peek (.lg cc 3 (.pointer (some ⟨c,0,none⟩))) q λS=>A.ucI .i64 S λT U=>A.ucI .i64 U λV W=>A.ucV W λr X=>A.chk r (A.uc0 X (A.call 101 [.i T,.i V,.v r] q λY Z=>A.k0 Y λa0=>A.new (.cells [.map none] 1 true) Z λm a1=>A.heap (.st (.pointer (some ⟨m,0,none⟩)) [a0]) a1 λg4 s=>A.opt (fdP 0 (.pointer (some ⟨c,0,none⟩))) λt=>A.chk t (A.peek (.lg cc 2 t) s λa2=>A.ucI .i64 a2 λa3 a4=>A.k3 a4 λa5=>A.call 102 [.i a3,.i a5] s λa6 a7=>A.k5 a6 λd=>A.opt (mkOk d d) λg5=>A.new (.cells (aZ [.int .u8 0,.int .i64 0,.int .i64 0] (Int.toNat d)) 3 true) a7 λa8 a9=>A.new (.cells [.slice none 0 0] 1 true) a9 λb b0=>A.heap (.st (.pointer (some ⟨b,0,none⟩)) [.slice (some ⟨a8,0,some 13⟩) (Int.toNat d) ((Int.toNat d)+1)]) b0 λg6 u=>A.peek (.lg cc 1 (.pointer (some ⟨b,0,none⟩))) u λb1=>A.ucV b1 λw b2=>A.chk w (A.uc0 b2 (A.opt (lenS w) λa=>A.opt (mkOk a a) λg7=>A.new (.cells (aZ [.bool false] (Int.toNat a)) 1 true) u λn b3=>A.chk (.func (.func 103) ⟨[]⟩ ⟨[.pointer (some ⟨c,0,none⟩),.pointer (some ⟨m,0,none⟩),.pointer (some ⟨b,0,none⟩)]⟩) (A.opt (idS 1 (.slice (some ⟨n,0,some 11⟩) (Int.toNat a) ((Int.toNat a)+1)) 0) λb4=>A.heap (.st b4 [.bool true]) b3 λg8 b5=>A.new (.cells [.int .i64 0] 1 true) b5 λb6 b7=>A.loop (λb8 b9 f=>A.k0 b9 λo=>A.opt (lenS o) λc0=>A.cd .gtr c0 0 (A.opt (idS 1 o 0) λc1=>A.peek (.lg cc 1 c1) f λc2=>A.k3 c2 λx=>A.opt (slS 1 o (some 1) none none) λy=>A.chk y (A.loop (λc3 c4 p=>A.k4 c4 λg j=>A.cd .lss j 3 (A.join (λc5 c6=>A.k0 c5 λc7=>A.ari .add .u8 j 1 λc8=>c3 [.v c7,.i c8] c6) λz=>A.opt (fdP 0 (.pointer (some ⟨c,0,none⟩))) λB=>A.chk B (A.peek (.lg cc 2 B) p λc9=>A.ucI .i64 c9 λd0 d1=>A.k3 d1 λd2=>A.call 105 [.i d0,.i d2,.i x,.i j] p λd3 C=>A.k8 d3 λe d4=>A.cd .neq d4 0 (z [.v g] C) (A.callv (.func (.func 103) ⟨[]⟩ ⟨[.pointer (some ⟨c,0,none⟩),.pointer (some ⟨m,0,none⟩),.pointer (some ⟨b,0,none⟩)]⟩) [.int .i64 x,.int .u8 j] [.agg [.i .u8,.i .i64,.i .i64]] C λd5 k=>A.k7 d5 λD E F=>A.opt (idS 1 (.slice (some ⟨n,0,some 11⟩) (Int.toNat a) ((Int.toNat a)+1)) e) λd6=>A.peek (.lg cc 1 d6) k λd7=>A.ucB d7 λd8 d9=>A.uc0 d9 (A.join (λe0 l=>A.k0 e0 λe1=>A.peek (.lg cc 1 (.pointer (some ⟨b,0,none⟩))) l λe2=>A.ucV e2 λG e3=>A.chk G (A.uc0 e3 (A.ix 3 G e 3 l λe4=>A.ucI .u8 e4 λe5 e6=>A.ucI .i64 e6 λe7 e8=>A.k3 e8 λe9=>A.eqs [(.i e5,.i D),(.i e7,.i E),(.i e9,.i F)] λf0=>A.cond (!f0) (K [.v (.slice none 0 0),.i 11] l) (z [.v e1] l)))) λH=>A.cond (!d8) (A.peek (.lg cc 1 (.pointer (some ⟨b,0,none⟩))) k λf1=>A.ucV f1 λI f2=>A.chk I (A.uc0 f2 (A.opt (idS 3 I e) λf3=>A.heap (.st f3 [.int .u8 D,.int .i64 E,.int .i64 F]) k λg9 f4=>A.opt (idS 1 (.slice (some ⟨n,0,some 11⟩) (Int.toNat a) ((Int.toNat a)+1)) e) λf5=>A.heap (.st f5 [.bool true]) f4 λh0 f6=>A.new (.cells [.int .i64 e] 1 true) f6 λf7 f8=>A.heap (.ap cc 1 8 g (.slice (some ⟨f7,0,some 11⟩) 1 2)) f8 λf9 g0=>A.ucV f9 λJ g1=>A.chk J (A.uc0 g1 (H [.v J] g0))))) (H [.v g] k))))) (b8 [.v g] p)) [.v y,.i 0] f)) (A.peek (.lg cc 1 (.pointer (some ⟨b,0,none⟩))) f λg2=>A.ucV g2 λL g3=>A.chk L (A.uc0 g3 (K [.v L,.i 0] f)))) [.v (.slice (some ⟨b6,0,some 11⟩) 1 2)] b7))))))
def f72:R:=A.k7 ls λa b c=>A.call 93 [.i a,.i b] h λg d=>A.k5 g λe=>A.cd .neq e 0 (K [.i 0,.i 0,.i 0,.i e] d) (A.call 106 [.i a,.i b,.i c] d λj f=>A.k2 j λk=>A.cond (!k) (K [.i 0,.i 0,.i 0,.i 7] f) (A.call 107 [.i a,.i b,.i c] f λl m=>A.k7 l λn o p=>K [.i n,.i o,.i p,.i 0] m))
def f73:R:=A.unI ls λb k=>A.unI k λc l=>A.k1 l λd a e f=>A.call 70 [.i b,.i c,.i d] h λm g=>A.k5 m λn=>A.cd .neq n 0 (K [.i 0,.i 0,.i 0,.i 1] g) (A.call 70 [.i a,.i e,.i f] g λo j=>A.k5 o λp=>A.cd .neq p 0 (K [.i 0,.i 0,.i 0,.i 1] j) (A.opt (inB 8 a) λb2=>A.opt (hP gl2 0 [(a,4)] 4) λq=>A.ucI .i64 q λr s=>A.ucI .i64 s λt u=>A.ucI .i64 u λv w=>A.k3 w λx=>A.call 108 [.i r,.i t,.i v,.i x,.i c,.i d] j λy z=>A.k8 y λB C=>A.opt (inB 8 b) λb3=>A.opt (hP gl2 0 [(b,4)] 4) λD=>A.ucI .i64 D λE F=>A.ucI .i64 F λG H=>A.ucI .i64 H λI J=>A.k3 J λL=>A.opt (inB 8 a) λb4=>A.opt (hP gl2 0 [(a,4)] 4) λM=>A.ucI .i64 M λN O=>A.ucI .i64 O λP Q=>A.ucI .i64 Q λS T=>A.k3 T λU=>A.call 111 [.i E,.i G,.i I,.i L,.i N,.i P,.i S,.i U] z λV W=>A.k1 V λX Y Z a0=>A.call 110 [.i X,.i Y,.i Z,.i a0] W λa1 a2=>A.k5 a1 λa3=>A.ari .add .i64 B e λa4=>A.ari .add .i64 C f λa5=>A.call 109 [.i a3,.i a4,.i a5] a2 λa6 a7=>A.k1 a6 λa8 a9 b0 b1=>K [.i a8,.i a9,.i b0,.i b1] a7))
def f74:R:=A.unI ls λa o=>A.unI o λb p=>A.k1 p λc d e f=>A.call 70 [.i a,.i b,.i c] h λq g=>A.k5 q λr=>A.cd .neq r 0 (K [.i 0,.i 0,.i 0,.i 1] g) (A.call 47 [.i d,.i e,.i f] g λs j=>A.k5 s λt=>A.cd .neq t 0 (K [.i 0,.i 0,.i 0,.i 1] j) (A.call 112 [.i a,.i b,.i c,.i d,.i e,.i f] j λu v=>A.k7 u λk l m=>A.call 47 [.i k,.i l,.i m] v λw n=>A.k5 w λx=>A.cd .neq x 0 (K [.i 0,.i 0,.i 0,.i 3] n) (K [.i k,.i l,.i m,.i 0] n)))
def f75:R:=A.k10 ls λb f k l=>A.ari .add .i64 f 1 λm=>A.loop (λn o g=>A.k5 o λe=>A.cd .lss e k (A.join (λp q=>A.un0 p (A.ari .add .i64 e 1 λr=>n [.i r] q)) λj=>A.loop (λs t c=>A.k5 t λa=>A.cd .gtr a f (A.ix 3 b a 3 c λu=>A.k6 u λv w x=>A.ari .sub .i64 a 1 λy=>A.ix 3 b y 3 c λz=>A.k6 z λB C D=>A.callv l [.agg ⟨[.int .i64 v,.int .i64 w,.int .u8 x]⟩,.agg ⟨[.int .i64 B,.int .i64 C,.int .u8 D]⟩] [.leaf (.i .i64)] c λE d=>A.k5 E λF=>A.cd .lss F 0 (A.ari .sub .i64 a 1 λG=>A.ari .sub .i64 a 1 λH=>A.ix 3 b H 3 d λI=>A.k6 I λJ L M=>A.ix 3 b a 3 d λN=>A.k6 N λO P Q=>A.opt (idS 3 b a) λS=>A.heap (.st S [.int .i64 J,.int .i64 L,.int .u8 M]) d λX T=>A.opt (idS 3 b G) λU=>A.heap (.st U [.int .i64 O,.int .i64 P,.int .u8 Q]) T λY V=>A.ari .sub .i64 a 1 λW=>s [.i W] V) (j [] d)) (j [] c)) [.i e] g) (K [] g)) [.i m] h
def f77:R:=A.k10 ls λc b o a8=>A.ari .sub .i64 o b λa=>A.cmp .geq a 8 λp=>A.join (λq r=>A.un0 q (K [] r)) λg=>A.cond p (A.conv .u64 a λs=>A.new (.cells [.int .u64 0] 1 true) h λj t=>A.heap (.st (.pointer (some ⟨j,0,none⟩)) [.int .u64 s]) t λa9 u=>A.call 114 [.i a] u λw x=>A.k5 w λy=>A.ari .quo .i64 a 4 λz=>A.ari .mul .i64 z 2 λB=>A.ari .add .i64 b B λC=>A.ari .sub .i64 C 1 λD=>A.loop (λE F k=>A.k5 F λd=>A.ari .quo .i64 a 4 λG=>A.ari .mul .i64 G 2 λH=>A.ari .add .i64 b H λI=>A.ari .add .i64 I 1 λJ=>A.cd .leq d J (A.call 115 [.v (.pointer (some ⟨j,0,none⟩))] k λL l=>A.k5 L λM=>A.ari .sub .u64 y 1 λN=>A.ari .and .u64 M N λO=>A.conv .i64 O λe=>A.cmp .geq e a λP=>A.join (λQ f=>A.k5 Q λm=>A.ari .add .i64 b m λS=>A.ari .add .i64 b m λT=>A.ix 3 c T 3 f λU=>A.k6 U λV W X=>A.ix 3 c d 3 f λY=>A.k6 Y λZ a0 a1=>A.opt (idS 3 c d) λa2=>A.heap (.st a2 [.int .i64 V,.int .i64 W,.int .u8 X]) f λb0 a3=>A.opt (idS 3 c S) λa4=>A.heap (.st a4 [.int .i64 Z,.int .i64 a0,.int .u8 a1]) a3 λb1 a5=>A.ari .add .i64 d 1 λa6=>E [.i a6] a5) λn=>A.cond P (A.ari .sub .i64 e a λa7=>n [.i a7] l) (n [.i e] l)) (g [] k)) [.i D] x) (g [] h)
def f78:R:=A.k10 ls λc d q e=>A.ari .sub .i64 q d λa=>A.new (.cells [.int .i64 0] 1 true) h λb g=>A.ari .quo .i64 a 4 λr=>A.ari .mul .i64 r 1 λs=>A.ari .add .i64 d s λl=>A.ari .quo .i64 a 4 λt=>A.ari .mul .i64 t 2 λu=>A.ari .add .i64 d u λj=>A.ari .quo .i64 a 4 λw=>A.ari .mul .i64 w 3 λx=>A.ari .add .i64 d x λm=>A.cmp .geq a 8 λy=>A.join (λz f=>A.k5 z λk=>A.peek (.lg cc 1 (.pointer (some ⟨b,0,none⟩))) f λB=>A.k3 B λn=>A.cd .eql n 0 (K [.i k,.i 1] f) (A.cd .eql n 12 (K [.i k,.i 2] f) (K [.i k,.i 0] f))) λo=>A.cond y (A.cmp .geq a 50 λC=>A.join (λD E=>A.k7 D λF G H=>A.call 117 [.v c,.i F,.i G,.i H,.v (.pointer (some ⟨b,0,none⟩)),.v e] E λI J=>A.k5 I λL=>o [.i L] J) λp=>A.cond C (A.call 116 [.v c,.i l,.v (.pointer (some ⟨b,0,none⟩)),.v e] g λM N=>A.k5 M λO=>A.call 116 [.v c,.i j,.v (.pointer (some ⟨b,0,none⟩)),.v e] N λP Q=>A.k5 P λS=>A.call 116 [.v c,.i m,.v (.pointer (some ⟨b,0,none⟩)),.v e] Q λT U=>A.k5 T λV=>p [.i O,.i S,.i V] U) (p [.i l,.i j,.i m] g)) (o [.i j] g)
def f79:R:=A.k10 ls λa e f z=>A.ari .sub .i64 f 1 λg=>A.loop (λj k b=>A.k8 k λc d=>A.cd .lss c d (A.ix 3 a d 3 b λl=>A.k6 l λm n o=>A.ix 3 a c 3 b λp=>A.k6 p λq r s=>A.opt (idS 3 a c) λt=>A.heap (.st t [.int .i64 m,.int .i64 n,.int .u8 o]) b λB u=>A.opt (idS 3 a d) λv=>A.heap (.st v [.int .i64 q,.int .i64 r,.int .u8 s]) u λC w=>A.ari .add .i64 c 1 λx=>A.ari .sub .i64 d 1 λy=>j [.i x,.i y] w) (K [] b)) [.i e,.i g] h
def f80:R:=A.k10 ls λa p g q=>A.ari .add .i64 p 1 λC=>A.loop (λD E r=>A.k8 E λF s=>A.cd .lss s 5 (A.join (λG j=>A.k5 G λc=>A.cd .eql c g (K [.b true] j) (A.ari .sub .i64 g p λH=>A.cd .lss H 50 (K [.b false] j) (A.ari .sub .i64 c 1 λI=>A.ari .sub .i64 c 1 λJ=>A.ix 3 a J 3 j λL=>A.k6 L λM N O=>A.ix 3 a c 3 j λP=>A.k6 P λQ S T=>A.opt (idS 3 a c) λU=>A.heap (.st U [.int .i64 M,.int .i64 N,.int .u8 O]) j λi4 V=>A.opt (idS 3 a I) λW=>A.heap (.st W [.int .i64 Q,.int .i64 S,.int .u8 T]) V λi5 t=>A.ari .sub .i64 c p λX=>A.cmp .geq X 2 λY=>A.join (λZ u=>A.un0 Z (A.ari .sub .i64 g c λa0=>A.cmp .geq a0 2 λa1=>A.join (λa2 a3=>A.un0 a2 (A.ari .add .i64 s 1 λa4=>D [.i c,.i a4] a3)) λv=>A.cond a1 (A.ari .add .i64 c 1 λa5=>A.join (λa6 a7=>A.un0 a6 (v [] a7)) λw=>A.loop (λa8 a9 k=>A.k5 a9 λd=>A.cd .lss d g (A.ix 3 a d 3 k λb0=>A.k6 b0 λb1 b2 b3=>A.ari .sub .i64 d 1 λb4=>A.ix 3 a b4 3 k λb5=>A.k6 b5 λb6 b7 b8=>A.callv q [.agg ⟨[.int .i64 b1,.int .i64 b2,.int .u8 b3]⟩,.agg ⟨[.int .i64 b6,.int .i64 b7,.int .u8 b8]⟩] [.leaf (.i .i64)] k λb9 l=>A.k5 b9 λc0=>A.cmp .lss c0 0 λc1=>A.cond (!c1) (w [] l) (A.ari .sub .i64 d 1 λc2=>A.ari .sub .i64 d 1 λc3=>A.ix 3 a c3 3 l λc4=>A.k6 c4 λc5 c6 c7=>A.ix 3 a d 3 l λc8=>A.k6 c8 λc9 d0 d1=>A.opt (idS 3 a d) λd2=>A.heap (.st d2 [.int .i64 c5,.int .i64 c6,.int .u8 c7]) l λi6 d3=>A.opt (idS 3 a c2) λd4=>A.heap (.st d4 [.int .i64 c9,.int .i64 d0,.int .u8 d1]) d3 λi7 d5=>A.ari .add .i64 d 1 λd6=>a8 [.i d6] d5)) (w [] k)) [.i a5] u) (v [] u))) λx=>A.cond Y (A.ari .sub .i64 c 1 λd7=>A.join (λd8 d9=>A.un0 d8 (x [] d9)) λy=>A.loop (λe0 e1 m=>A.k5 e1 λe=>A.cd .geq e 1 (A.ix 3 a e 3 m λe2=>A.k6 e2 λe3 e4 e5=>A.ari .sub .i64 e 1 λe6=>A.ix 3 a e6 3 m λe7=>A.k6 e7 λe8 e9 f0=>A.callv q [.agg ⟨[.int .i64 e3,.int .i64 e4,.int .u8 e5]⟩,.agg ⟨[.int .i64 e8,.int .i64 e9,.int .u8 f0]⟩] [.leaf (.i .i64)] m λf1 n=>A.k5 f1 λf2=>A.cmp .lss f2 0 λf3=>A.cond (!f3) (y [] n) (A.ari .sub .i64 e 1 λf4=>A.ari .sub .i64 e 1 λf5=>A.ix 3 a f5 3 n λf6=>A.k6 f6 λf7 f8 f9=>A.ix 3 a e 3 n λg0=>A.k6 g0 λg1 g2 g3=>A.opt (idS 3 a e) λg4=>A.heap (.st g4 [.int .i64 f7,.int .i64 f8,.int .u8 f9]) n λi8 g5=>A.opt (idS 3 a f4) λg6=>A.heap (.st g6 [.int .i64 g1,.int .i64 g2,.int .u8 g3]) g5 λi9 g7=>A.ari .sub .i64 e 1 λg8=>e0 [.i g8] g7)) (y [] m)) [.i d7] t) (x [] t)))) λz=>A.loop (λg9 h0 o=>A.k5 h0 λf=>A.cd .lss f g (A.ix 3 a f 3 o λh1=>A.k6 h1 λh2 h3 h4=>A.ari .sub .i64 f 1 λh5=>A.ix 3 a h5 3 o λh6=>A.k6 h6 λh7 h8 h9=>A.callv q [.agg ⟨[.int .i64 h2,.int .i64 h3,.int .u8 h4]⟩,.agg ⟨[.int .i64 h7,.int .i64 h8,.int .u8 h9]⟩] [.leaf (.i .i64)] o λi0 B=>A.k5 i0 λi1=>A.cmp .lss i1 0 λi2=>A.cond (!i2) (A.ari .add .i64 f 1 λi3=>g9 [.i i3] B) (z [.i f] B)) (z [.i f] o)) [.i F] r) (K [.b false] r)) [.i C,.i 0] h
def f81:R:=A.unV ls λa s=>A.unI s λc t=>A.unI t λu v=>A.unI v λl w=>A.k0 w λm=>A.ix 3 a l 3 h λx=>A.k6 x λy z B=>A.ix 3 a c 3 h λC=>A.k6 C λD E F=>A.opt (idS 3 a c) λG=>A.heap (.st G [.int .i64 y,.int .i64 z,.int .u8 B]) h λd6 H=>A.opt (idS 3 a l) λI=>A.heap (.st I [.int .i64 D,.int .i64 E,.int .u8 F]) H λd7 J=>A.ari .add .i64 c 1 λL=>A.ari .sub .i64 u 1 λM=>A.loop (λN O P=>A.k8 O λQ n=>A.join (λS T=>A.k5 S λb=>A.join (λU f=>A.k5 U λg=>A.cd .gtr b g (K [.i b] f) (A.ix 3 a g 3 f λV=>A.k6 V λW X Y=>A.ix 3 a b 3 f λZ=>A.k6 Z λa0 a1 a2=>A.opt (idS 3 a b) λa3=>A.heap (.st a3 [.int .i64 W,.int .i64 X,.int .u8 Y]) f λd8 a4=>A.opt (idS 3 a g) λa5=>A.heap (.st a5 [.int .i64 a0,.int .i64 a1,.int .u8 a2]) a4 λd9 a6=>A.ari .add .i64 b 1 λa7=>A.ari .sub .i64 g 1 λa8=>N [.i a7,.i a8] a6)) λo=>A.loop (λa9 b0 j=>A.k5 b0 λd=>A.cd .leq b d (A.ix 3 a c 3 j λb1=>A.k6 b1 λb2 b3 b4=>A.ix 3 a d 3 j λb5=>A.k6 b5 λb6 b7 b8=>A.callv m [.agg ⟨[.int .i64 b2,.int .i64 b3,.int .u8 b4]⟩,.agg ⟨[.int .i64 b6,.int .i64 b7,.int .u8 b8]⟩] [.leaf (.i .i64)] j λb9 p=>A.k5 b9 λc0=>A.cd .lss c0 0 (A.ari .sub .i64 d 1 λc1=>a9 [.i c1] p) (o [.i d] p)) (o [.i d] j)) [.i n] T) λq=>A.loop (λc2 c3 k=>A.k5 c3 λe=>A.cd .leq e n (A.ix 3 a c 3 k λc4=>A.k6 c4 λc5 c6 c7=>A.ix 3 a e 3 k λc8=>A.k6 c8 λc9 d0 d1=>A.callv m [.agg ⟨[.int .i64 c5,.int .i64 c6,.int .u8 c7]⟩,.agg ⟨[.int .i64 c9,.int .i64 d0,.int .u8 d1]⟩] [.leaf (.i .i64)] k λd2 r=>A.k5 d2 λd3=>A.cmp .lss d3 0 λd4=>A.cond (!d4) (A.ari .add .i64 e 1 λd5=>c2 [.i d5] r) (q [.i e] r)) (q [.i e] k)) [.i Q] P) [.i L,.i M] J
def f82:R:=A.unV ls λa G=>A.unI G λc H=>A.unI H λI J=>A.unI J λu L=>A.k0 L λp=>A.ix 3 a u 3 h λM=>A.k6 M λN O P=>A.ix 3 a c 3 h λQ=>A.k6 Q λS T U=>A.opt (idS 3 a c) λV=>A.heap (.st V [.int .i64 N,.int .i64 O,.int .u8 P]) h λm0 W=>A.opt (idS 3 a u) λX=>A.heap (.st X [.int .i64 S,.int .i64 T,.int .u8 U]) W λm1 Y=>A.ari .add .i64 c 1 λZ=>A.ari .sub .i64 I 1 λv=>A.join (λa0 a1=>A.k5 a0 λj=>A.join (λa2 f=>A.k5 a2 λd=>A.cd .gtr j d (A.ix 3 a c 3 f λa3=>A.k6 a3 λa4 a5 a6=>A.ix 3 a d 3 f λa7=>A.k6 a7 λa8 a9 b0=>A.opt (idS 3 a d) λb1=>A.heap (.st b1 [.int .i64 a4,.int .i64 a5,.int .u8 a6]) f λm2 b2=>A.opt (idS 3 a c) λb3=>A.heap (.st b3 [.int .i64 a8,.int .i64 a9,.int .u8 b0]) b2 λm3 b4=>K [.i d,.b true] b4) (A.ix 3 a d 3 f λb5=>A.k6 b5 λb6 b7 b8=>A.ix 3 a j 3 f λb9=>A.k6 b9 λc0 c1 c2=>A.opt (idS 3 a j) λc3=>A.heap (.st c3 [.int .i64 b6,.int .i64 b7,.int .u8 b8]) f λm4 c4=>A.opt (idS 3 a d) λc5=>A.heap (.st c5 [.int .i64 c0,.int .i64 c1,.int .u8 c2]) c4 λm5 c6=>A.ari .add .i64 j 1 λc7=>A.ari .sub .i64 d 1 λc8=>A.loop (λc9 d0 d1=>A.k8 d0 λd2 w=>A.join (λd3 d4=>A.k5 d3 λk=>A.join (λd5 g=>A.k5 d5 λe=>A.cd .gtr k e (A.ix 3 a c 3 g λd6=>A.k6 d6 λd7 d8 d9=>A.ix 3 a e 3 g λe0=>A.k6 e0 λe1 e2 e3=>A.opt (idS 3 a e) λe4=>A.heap (.st e4 [.int .i64 d7,.int .i64 d8,.int .u8 d9]) g λm6 e5=>A.opt (idS 3 a c) λe6=>A.heap (.st e6 [.int .i64 e1,.int .i64 e2,.int .u8 e3]) e5 λm7 e7=>K [.i e,.b false] e7) (A.ix 3 a e 3 g λe8=>A.k6 e8 λe9 f0 f1=>A.ix 3 a k 3 g λf2=>A.k6 f2 λf3 f4 f5=>A.opt (idS 3 a k) λf6=>A.heap (.st f6 [.int .i64 e9,.int .i64 f0,.int .u8 f1]) g λm8 f7=>A.opt (idS 3 a e) λf8=>A.heap (.st f8 [.int .i64 f3,.int .i64 f4,.int .u8 f5]) f7 λm9 f9=>A.ari .add .i64 k 1 λg0=>A.ari .sub .i64 e 1 λg1=>c9 [.i g0,.i g1] f9)) λx=>A.loop (λg2 g3 q=>A.k5 g3 λl=>A.cd .leq k l (A.ix 3 a l 3 q λg4=>A.k6 g4 λg5 g6 g7=>A.ix 3 a c 3 q λg8=>A.k6 g8 λg9 h0 h1=>A.callv p [.agg ⟨[.int .i64 g5,.int .i64 g6,.int .u8 g7]⟩,.agg ⟨[.int .i64 g9,.int .i64 h0,.int .u8 h1]⟩] [.leaf (.i .i64)] q λh2 y=>A.k5 h2 λh3=>A.cmp .lss h3 0 λh4=>A.cond (!h4) (A.ari .sub .i64 l 1 λh5=>g2 [.i h5] y) (x [.i l] y)) (x [.i l] q)) [.i w] d4) λz=>A.loop (λh6 h7 r=>A.k5 h7 λm=>A.cd .leq m w (A.ix 3 a m 3 r λh8=>A.k6 h8 λh9 i0 i1=>A.ix 3 a c 3 r λi2=>A.k6 i2 λi3 i4 i5=>A.callv p [.agg ⟨[.int .i64 h9,.int .i64 i0,.int .u8 i1]⟩,.agg ⟨[.int .i64 i3,.int .i64 i4,.int .u8 i5]⟩] [.leaf (.i .i64)] r λi6 B=>A.k5 i6 λi7=>A.cd .lss i7 0 (A.ari .add .i64 m 1 λi8=>h6 [.i i8] B) (z [.i m] B)) (z [.i m] r)) [.i d2] d1) [.i c7,.i c8] c6)) λC=>A.loop (λi9 j0 s=>A.k5 j0 λn=>A.cd .leq j n (A.ix 3 a n 3 s λj1=>A.k6 j1 λj2 j3 j4=>A.ix 3 a c 3 s λj5=>A.k6 j5 λj6 j7 j8=>A.callv p [.agg ⟨[.int .i64 j2,.int .i64 j3,.int .u8 j4]⟩,.agg ⟨[.int .i64 j6,.int .i64 j7,.int .u8 j8]⟩] [.leaf (.i .i64)] s λj9 D=>A.k5 j9 λk1=>A.cmp .lss k1 0 λk2=>A.cond (!k2) (A.ari .sub .i64 n 1 λk3=>i9 [.i k3] D) (C [.i n] D)) (C [.i n] s)) [.i v] a1) λE=>A.loop (λk4 k7 t=>A.k5 k7 λo=>A.cd .leq o v (A.ix 3 a o 3 t λk9=>A.k6 k9 λl0 l1 l2=>A.ix 3 a c 3 t λl3=>A.k6 l3 λl4 l5 l6=>A.callv p [.agg ⟨[.int .i64 l0,.int .i64 l1,.int .u8 l2]⟩,.agg ⟨[.int .i64 l4,.int .i64 l5,.int .u8 l6]⟩] [.leaf (.i .i64)] t λl7 F=>A.k5 l7 λl8=>A.cd .lss l8 0 (A.ari .add .i64 o 1 λl9=>k4 [.i l9] F) (E [.i o] F)) (E [.i o] t)) [.i Z] Y
def f84:R:=A.k5 ls λa=>A.cmp .geq a 4294967296 λm=>A.join (λn d=>A.k8 n λb e=>A.cmp .geq b 65536 λo=>A.join (λp f=>A.k8 p λc g=>A.cmp .geq c 256 λq=>A.join (λr s=>A.k8 r λt u=>A.conv .u8 t λv=>A.opt (strAt (.mk ⟨[.ofNat 0,.ofNat 1,.ofNat 2,.ofNat 2,.ofNat 3,.ofNat 3,.ofNat 3,.ofNat 3,.ofNat 4,.ofNat 4,.ofNat 4,.ofNat 4,.ofNat 4,.ofNat 4,.ofNat 4,.ofNat 4,.ofNat 5,.ofNat 5,.ofNat 5,.ofNat 5,.ofNat 5,.ofNat 5,.ofNat 5,.ofNat 5,.ofNat 5,.ofNat 5,.ofNat 5,.ofNat 5,.ofNat 5,.ofNat 5,.ofNat 5,.ofNat 5,.ofNat 6,.ofNat 6,.ofNat 6,.ofNat 6,.ofNat 6,.ofNat 6,.ofNat 6,.ofNat 6,.ofNat 6,.ofNat 6,.ofNat 6,.ofNat 6,.ofNat 6,.ofNat 6,.ofNat 6,.ofNat 6,.ofNat 6,.ofNat 6,.ofNat 6,.ofNat 6,.ofNat 6,.ofNat 6,.ofNat 6,.ofNat 6,.ofNat 6,.ofNat 6,.ofNat 6,.ofNat 6,.ofNat 6,.ofNat 6,.ofNat 6,.ofNat 6,.ofNat 7,.ofNat 7,.ofNat 7,.ofNat 7,.ofNat 7,.ofNat 7,.ofNat 7,.ofNat 7,.ofNat 7,.ofNat 7,.ofNat 7,.ofNat 7,.ofNat 7,.ofNat 7,.ofNat 7,.ofNat 7,.ofNat 7,.ofNat 7,.ofNat 7,.ofNat 7,.ofNat 7,.ofNat 7,.ofNat 7,.ofNat 7,.ofNat 7,.ofNat 7,.ofNat 7,.ofNat 7,.ofNat 7,.ofNat 7,.ofNat 7,.ofNat 7,.ofNat 7,.ofNat 7,.ofNat 7,.ofNat 7,.ofNat 7,.ofNat 7,.ofNat 7,.ofNat 7,.ofNat 7,.ofNat 7,.ofNat 7,.ofNat 7,.ofNat 7,.ofNat 7,.ofNat 7,.ofNat 7,.ofNat 7,.ofNat 7,.ofNat 7,.ofNat 7,.ofNat 7,.ofNat 7,.ofNat 7,.ofNat 7,.ofNat 7,.ofNat 7,.ofNat 7,.ofNat 7,.ofNat 7,.ofNat 7,.ofNat 7,.ofNat 7,.ofNat 8,.ofNat 8,.ofNat 8,.ofNat 8,.ofNat 8,.ofNat 8,.ofNat 8,.ofNat 8,.ofNat 8,.ofNat 8,.ofNat 8,.ofNat 8,.ofNat 8,.ofNat 8,.ofNat 8,.ofNat 8,.ofNat 8,.ofNat 8,.ofNat 8,.ofNat 8,.ofNat 8,.ofNat 8,.ofNat 8,.ofNat 8,.ofNat 8,.ofNat 8,.ofNat 8,.ofNat 8,.ofNat 8,.ofNat 8,.ofNat 8,.ofNat 8,.ofNat 8,.ofNat 8,.ofNat 8,.ofNat 8,.ofNat 8,.ofNat 8,.ofNat 8,.ofNat 8,.ofNat 8,.ofNat 8,.ofNat 8,.ofNat 8,.ofNat 8,.ofNat 8,.ofNat 8,.ofNat 8,.ofNat 8,.ofNat 8,.ofNat 8,.ofNat 8,.ofNat 8,.ofNat 8,.ofNat 8,.ofNat 8,.ofNat 8,.ofNat 8,.ofNat 8,.ofNat 8,.ofNat 8,.ofNat 8,.ofNat 8,.ofNat 8,.ofNat 8,.ofNat 8,.ofNat 8,.ofNat 8,.ofNat 8,.ofNat 8,.ofNat 8,.ofNat 8,.ofNat 8,.ofNat 8,.ofNat 8,.ofNat 8,.ofNat 8,.ofNat 8,.ofNat 8,.ofNat 8,.ofNat 8,.ofNat 8,.ofNat 8,.ofNat 8,.ofNat 8,.ofNat 8,.ofNat 8,.ofNat 8,.ofNat 8,.ofNat 8,.ofNat 8,.ofNat 8,.ofNat 8,.ofNat 8,.ofNat 8,.ofNat 8,.ofNat 8,.ofNat 8,.ofNat 8,.ofNat 8,.ofNat 8,.ofNat 8,.ofNat 8,.ofNat 8,.ofNat 8,.ofNat 8,.ofNat 8,.ofNat 8,.ofNat 8,.ofNat 8,.ofNat 8,.ofNat 8,.ofNat 8,.ofNat 8,.ofNat 8,.ofNat 8,.ofNat 8,.ofNat 8,.ofNat 8,.ofNat 8,.ofNat 8,.ofNat 8,.ofNat 8,.ofNat 8,.ofNat 8,.ofNat 8,.ofNat 8,.ofNat 8]⟩) v) λw=>A.conv .i64 w λx=>A.ari .add .i64 u x λy=>K [.i y] s) λj=>A.cond q (A.shf .shr .u64 c .u64 8 λz=>A.ari .add .i64 g 8 λB=>j [.i z,.i B] f) (j [.i c,.i g] f)) λk=>A.cond o (A.shf .shr .u64 b .u64 16 λC=>A.ari .add .i64 e 16 λD=>k [.i C,.i D] d) (k [.i b,.i e] d)) λl=>A.cond m (A.shf .shr .u64 a .u64 32 λE=>l [.i E,.i 32] h) (l [.i a,.i 0] h)
def f85:R:=A.k10 ls λb f k l=>A.ari .add .i64 f 1 λm=>A.loop (λn o g=>A.k5 o λe=>A.cd .lss e k (A.join (λp q=>A.un0 p (A.ari .add .i64 e 1 λr=>n [.i r] q)) λj=>A.loop (λs t c=>A.k5 t λa=>A.cd .gtr a f (A.ix 3 b a 3 c λu=>A.k9 u λv w x=>A.ari .sub .i64 a 1 λy=>A.ix 3 b y 3 c λz=>A.k9 z λB C D=>A.callv l [.agg ⟨[.int .i64 v,.int .u8 w,.int .u8 x]⟩,.agg ⟨[.int .i64 B,.int .u8 C,.int .u8 D]⟩] [.leaf (.i .i64)] c λE d=>A.k5 E λF=>A.cd .lss F 0 (A.ari .sub .i64 a 1 λG=>A.ari .sub .i64 a 1 λH=>A.ix 3 b H 3 d λI=>A.k9 I λJ L M=>A.ix 3 b a 3 d λN=>A.k9 N λO P Q=>A.opt (idS 3 b a) λS=>A.heap (.st S [.int .i64 J,.int .u8 L,.int .u8 M]) d λX T=>A.opt (idS 3 b G) λU=>A.heap (.st U [.int .i64 O,.int .u8 P,.int .u8 Q]) T λY V=>A.ari .sub .i64 a 1 λW=>s [.i W] V) (j [] d)) (j [] c)) [.i e] g) (K [] g)) [.i m] h
def f87:R:=A.k10 ls λc b o a8=>A.ari .sub .i64 o b λa=>A.cmp .geq a 8 λp=>A.join (λq r=>A.un0 q (K [] r)) λg=>A.cond p (A.conv .u64 a λs=>A.new (.cells [.int .u64 0] 1 true) h λj t=>A.heap (.st (.pointer (some ⟨j,0,none⟩)) [.int .u64 s]) t λa9 u=>A.call 114 [.i a] u λw x=>A.k5 w λy=>A.ari .quo .i64 a 4 λz=>A.ari .mul .i64 z 2 λB=>A.ari .add .i64 b B λC=>A.ari .sub .i64 C 1 λD=>A.loop (λE F k=>A.k5 F λd=>A.ari .quo .i64 a 4 λG=>A.ari .mul .i64 G 2 λH=>A.ari .add .i64 b H λI=>A.ari .add .i64 I 1 λJ=>A.cd .leq d J (A.call 115 [.v (.pointer (some ⟨j,0,none⟩))] k λL l=>A.k5 L λM=>A.ari .sub .u64 y 1 λN=>A.ari .and .u64 M N λO=>A.conv .i64 O λe=>A.cmp .geq e a λP=>A.join (λQ f=>A.k5 Q λm=>A.ari .add .i64 b m λS=>A.ari .add .i64 b m λT=>A.ix 3 c T 3 f λU=>A.k9 U λV W X=>A.ix 3 c d 3 f λY=>A.k9 Y λZ a0 a1=>A.opt (idS 3 c d) λa2=>A.heap (.st a2 [.int .i64 V,.int .u8 W,.int .u8 X]) f λb0 a3=>A.opt (idS 3 c S) λa4=>A.heap (.st a4 [.int .i64 Z,.int .u8 a0,.int .u8 a1]) a3 λb1 a5=>A.ari .add .i64 d 1 λa6=>E [.i a6] a5) λn=>A.cond P (A.ari .sub .i64 e a λa7=>n [.i a7] l) (n [.i e] l)) (g [] k)) [.i D] x) (g [] h)
def f88:R:=A.k10 ls λc d q e=>A.ari .sub .i64 q d λa=>A.new (.cells [.int .i64 0] 1 true) h λb g=>A.ari .quo .i64 a 4 λr=>A.ari .mul .i64 r 1 λs=>A.ari .add .i64 d s λl=>A.ari .quo .i64 a 4 λt=>A.ari .mul .i64 t 2 λu=>A.ari .add .i64 d u λj=>A.ari .quo .i64 a 4 λw=>A.ari .mul .i64 w 3 λx=>A.ari .add .i64 d x λm=>A.cmp .geq a 8 λy=>A.join (λz f=>A.k5 z λk=>A.peek (.lg cc 1 (.pointer (some ⟨b,0,none⟩))) f λB=>A.k3 B λn=>A.cd .eql n 0 (K [.i k,.i 1] f) (A.cd .eql n 12 (K [.i k,.i 2] f) (K [.i k,.i 0] f))) λo=>A.cond y (A.cmp .geq a 50 λC=>A.join (λD E=>A.k7 D λF G H=>A.call 120 [.v c,.i F,.i G,.i H,.v (.pointer (some ⟨b,0,none⟩)),.v e] E λI J=>A.k5 I λL=>o [.i L] J) λp=>A.cond C (A.call 119 [.v c,.i l,.v (.pointer (some ⟨b,0,none⟩)),.v e] g λM N=>A.k5 M λO=>A.call 119 [.v c,.i j,.v (.pointer (some ⟨b,0,none⟩)),.v e] N λP Q=>A.k5 P λS=>A.call 119 [.v c,.i m,.v (.pointer (some ⟨b,0,none⟩)),.v e] Q λT U=>A.k5 T λV=>p [.i O,.i S,.i V] U) (p [.i l,.i j,.i m] g)) (o [.i j] g)
def f89:R:=A.k10 ls λa e f z=>A.ari .sub .i64 f 1 λg=>A.loop (λj k b=>A.k8 k λc d=>A.cd .lss c d (A.ix 3 a d 3 b λl=>A.k9 l λm n o=>A.ix 3 a c 3 b λp=>A.k9 p λq r s=>A.opt (idS 3 a c) λt=>A.heap (.st t [.int .i64 m,.int .u8 n,.int .u8 o]) b λB u=>A.opt (idS 3 a d) λv=>A.heap (.st v [.int .i64 q,.int .u8 r,.int .u8 s]) u λC w=>A.ari .add .i64 c 1 λx=>A.ari .sub .i64 d 1 λy=>j [.i x,.i y] w) (K [] b)) [.i e,.i g] h
def f90:R:=A.k10 ls λa p g q=>A.ari .add .i64 p 1 λC=>A.loop (λD E r=>A.k8 E λF s=>A.cd .lss s 5 (A.join (λG j=>A.k5 G λc=>A.cd .eql c g (K [.b true] j) (A.ari .sub .i64 g p λH=>A.cd .lss H 50 (K [.b false] j) (A.ari .sub .i64 c 1 λI=>A.ari .sub .i64 c 1 λJ=>A.ix 3 a J 3 j λL=>A.k9 L λM N O=>A.ix 3 a c 3 j λP=>A.k9 P λQ S T=>A.opt (idS 3 a c) λU=>A.heap (.st U [.int .i64 M,.int .u8 N,.int .u8 O]) j λi4 V=>A.opt (idS 3 a I) λW=>A.heap (.st W [.int .i64 Q,.int .u8 S,.int .u8 T]) V λi5 t=>A.ari .sub .i64 c p λX=>A.cmp .geq X 2 λY=>A.join (λZ u=>A.un0 Z (A.ari .sub .i64 g c λa0=>A.cmp .geq a0 2 λa1=>A.join (λa2 a3=>A.un0 a2 (A.ari .add .i64 s 1 λa4=>D [.i c,.i a4] a3)) λv=>A.cond a1 (A.ari .add .i64 c 1 λa5=>A.join (λa6 a7=>A.un0 a6 (v [] a7)) λw=>A.loop (λa8 a9 k=>A.k5 a9 λd=>A.cd .lss d g (A.ix 3 a d 3 k λb0=>A.k9 b0 λb1 b2 b3=>A.ari .sub .i64 d 1 λb4=>A.ix 3 a b4 3 k λb5=>A.k9 b5 λb6 b7 b8=>A.callv q [.agg ⟨[.int .i64 b1,.int .u8 b2,.int .u8 b3]⟩,.agg ⟨[.int .i64 b6,.int .u8 b7,.int .u8 b8]⟩] [.leaf (.i .i64)] k λb9 l=>A.k5 b9 λc0=>A.cmp .lss c0 0 λc1=>A.cond (!c1) (w [] l) (A.ari .sub .i64 d 1 λc2=>A.ari .sub .i64 d 1 λc3=>A.ix 3 a c3 3 l λc4=>A.k9 c4 λc5 c6 c7=>A.ix 3 a d 3 l λc8=>A.k9 c8 λc9 d0 d1=>A.opt (idS 3 a d) λd2=>A.heap (.st d2 [.int .i64 c5,.int .u8 c6,.int .u8 c7]) l λi6 d3=>A.opt (idS 3 a c2) λd4=>A.heap (.st d4 [.int .i64 c9,.int .u8 d0,.int .u8 d1]) d3 λi7 d5=>A.ari .add .i64 d 1 λd6=>a8 [.i d6] d5)) (w [] k)) [.i a5] u) (v [] u))) λx=>A.cond Y (A.ari .sub .i64 c 1 λd7=>A.join (λd8 d9=>A.un0 d8 (x [] d9)) λy=>A.loop (λe0 e1 m=>A.k5 e1 λe=>A.cd .geq e 1 (A.ix 3 a e 3 m λe2=>A.k9 e2 λe3 e4 e5=>A.ari .sub .i64 e 1 λe6=>A.ix 3 a e6 3 m λe7=>A.k9 e7 λe8 e9 f0=>A.callv q [.agg ⟨[.int .i64 e3,.int .u8 e4,.int .u8 e5]⟩,.agg ⟨[.int .i64 e8,.int .u8 e9,.int .u8 f0]⟩] [.leaf (.i .i64)] m λf1 n=>A.k5 f1 λf2=>A.cmp .lss f2 0 λf3=>A.cond (!f3) (y [] n) (A.ari .sub .i64 e 1 λf4=>A.ari .sub .i64 e 1 λf5=>A.ix 3 a f5 3 n λf6=>A.k9 f6 λf7 f8 f9=>A.ix 3 a e 3 n λg0=>A.k9 g0 λg1 g2 g3=>A.opt (idS 3 a e) λg4=>A.heap (.st g4 [.int .i64 f7,.int .u8 f8,.int .u8 f9]) n λi8 g5=>A.opt (idS 3 a f4) λg6=>A.heap (.st g6 [.int .i64 g1,.int .u8 g2,.int .u8 g3]) g5 λi9 g7=>A.ari .sub .i64 e 1 λg8=>e0 [.i g8] g7)) (y [] m)) [.i d7] t) (x [] t)))) λz=>A.loop (λg9 h0 o=>A.k5 h0 λf=>A.cd .lss f g (A.ix 3 a f 3 o λh1=>A.k9 h1 λh2 h3 h4=>A.ari .sub .i64 f 1 λh5=>A.ix 3 a h5 3 o λh6=>A.k9 h6 λh7 h8 h9=>A.callv q [.agg ⟨[.int .i64 h2,.int .u8 h3,.int .u8 h4]⟩,.agg ⟨[.int .i64 h7,.int .u8 h8,.int .u8 h9]⟩] [.leaf (.i .i64)] o λi0 B=>A.k5 i0 λi1=>A.cmp .lss i1 0 λi2=>A.cond (!i2) (A.ari .add .i64 f 1 λi3=>g9 [.i i3] B) (z [.i f] B)) (z [.i f] o)) [.i F] r) (K [.b false] r)) [.i C,.i 0] h
def f91:R:=A.unV ls λa s=>A.unI s λc t=>A.unI t λu v=>A.unI v λl w=>A.k0 w λm=>A.ix 3 a l 3 h λx=>A.k9 x λy z B=>A.ix 3 a c 3 h λC=>A.k9 C λD E F=>A.opt (idS 3 a c) λG=>A.heap (.st G [.int .i64 y,.int .u8 z,.int .u8 B]) h λd6 H=>A.opt (idS 3 a l) λI=>A.heap (.st I [.int .i64 D,.int .u8 E,.int .u8 F]) H λd7 J=>A.ari .add .i64 c 1 λL=>A.ari .sub .i64 u 1 λM=>A.loop (λN O P=>A.k8 O λQ n=>A.join (λS T=>A.k5 S λb=>A.join (λU f=>A.k5 U λg=>A.cd .gtr b g (K [.i b] f) (A.ix 3 a g 3 f λV=>A.k9 V λW X Y=>A.ix 3 a b 3 f λZ=>A.k9 Z λa0 a1 a2=>A.opt (idS 3 a b) λa3=>A.heap (.st a3 [.int .i64 W,.int .u8 X,.int .u8 Y]) f λd8 a4=>A.opt (idS 3 a g) λa5=>A.heap (.st a5 [.int .i64 a0,.int .u8 a1,.int .u8 a2]) a4 λd9 a6=>A.ari .add .i64 b 1 λa7=>A.ari .sub .i64 g 1 λa8=>N [.i a7,.i a8] a6)) λo=>A.loop (λa9 b0 j=>A.k5 b0 λd=>A.cd .leq b d (A.ix 3 a c 3 j λb1=>A.k9 b1 λb2 b3 b4=>A.ix 3 a d 3 j λb5=>A.k9 b5 λb6 b7 b8=>A.callv m [.agg ⟨[.int .i64 b2,.int .u8 b3,.int .u8 b4]⟩,.agg ⟨[.int .i64 b6,.int .u8 b7,.int .u8 b8]⟩] [.leaf (.i .i64)] j λb9 p=>A.k5 b9 λc0=>A.cd .lss c0 0 (A.ari .sub .i64 d 1 λc1=>a9 [.i c1] p) (o [.i d] p)) (o [.i d] j)) [.i n] T) λq=>A.loop (λc2 c3 k=>A.k5 c3 λe=>A.cd .leq e n (A.ix 3 a c 3 k λc4=>A.k9 c4 λc5 c6 c7=>A.ix 3 a e 3 k λc8=>A.k9 c8 λc9 d0 d1=>A.callv m [.agg ⟨[.int .i64 c5,.int .u8 c6,.int .u8 c7]⟩,.agg ⟨[.int .i64 c9,.int .u8 d0,.int .u8 d1]⟩] [.leaf (.i .i64)] k λd2 r=>A.k5 d2 λd3=>A.cmp .lss d3 0 λd4=>A.cond (!d4) (A.ari .add .i64 e 1 λd5=>c2 [.i d5] r) (q [.i e] r)) (q [.i e] k)) [.i Q] P) [.i L,.i M] J
def f92:R:=A.unV ls λa G=>A.unI G λc H=>A.unI H λI J=>A.unI J λu L=>A.k0 L λp=>A.ix 3 a u 3 h λM=>A.k9 M λN O P=>A.ix 3 a c 3 h λQ=>A.k9 Q λS T U=>A.opt (idS 3 a c) λV=>A.heap (.st V [.int .i64 N,.int .u8 O,.int .u8 P]) h λm0 W=>A.opt (idS 3 a u) λX=>A.heap (.st X [.int .i64 S,.int .u8 T,.int .u8 U]) W λm1 Y=>A.ari .add .i64 c 1 λZ=>A.ari .sub .i64 I 1 λv=>A.join (λa0 a1=>A.k5 a0 λj=>A.join (λa2 f=>A.k5 a2 λd=>A.cd .gtr j d (A.ix 3 a c 3 f λa3=>A.k9 a3 λa4 a5 a6=>A.ix 3 a d 3 f λa7=>A.k9 a7 λa8 a9 b0=>A.opt (idS 3 a d) λb1=>A.heap (.st b1 [.int .i64 a4,.int .u8 a5,.int .u8 a6]) f λm2 b2=>A.opt (idS 3 a c) λb3=>A.heap (.st b3 [.int .i64 a8,.int .u8 a9,.int .u8 b0]) b2 λm3 b4=>K [.i d,.b true] b4) (A.ix 3 a d 3 f λb5=>A.k9 b5 λb6 b7 b8=>A.ix 3 a j 3 f λb9=>A.k9 b9 λc0 c1 c2=>A.opt (idS 3 a j) λc3=>A.heap (.st c3 [.int .i64 b6,.int .u8 b7,.int .u8 b8]) f λm4 c4=>A.opt (idS 3 a d) λc5=>A.heap (.st c5 [.int .i64 c0,.int .u8 c1,.int .u8 c2]) c4 λm5 c6=>A.ari .add .i64 j 1 λc7=>A.ari .sub .i64 d 1 λc8=>A.loop (λc9 d0 d1=>A.k8 d0 λd2 w=>A.join (λd3 d4=>A.k5 d3 λk=>A.join (λd5 g=>A.k5 d5 λe=>A.cd .gtr k e (A.ix 3 a c 3 g λd6=>A.k9 d6 λd7 d8 d9=>A.ix 3 a e 3 g λe0=>A.k9 e0 λe1 e2 e3=>A.opt (idS 3 a e) λe4=>A.heap (.st e4 [.int .i64 d7,.int .u8 d8,.int .u8 d9]) g λm6 e5=>A.opt (idS 3 a c) λe6=>A.heap (.st e6 [.int .i64 e1,.int .u8 e2,.int .u8 e3]) e5 λm7 e7=>K [.i e,.b false] e7) (A.ix 3 a e 3 g λe8=>A.k9 e8 λe9 f0 f1=>A.ix 3 a k 3 g λf2=>A.k9 f2 λf3 f4 f5=>A.opt (idS 3 a k) λf6=>A.heap (.st f6 [.int .i64 e9,.int .u8 f0,.int .u8 f1]) g λm8 f7=>A.opt (idS 3 a e) λf8=>A.heap (.st f8 [.int .i64 f3,.int .u8 f4,.int .u8 f5]) f7 λm9 f9=>A.ari .add .i64 k 1 λg0=>A.ari .sub .i64 e 1 λg1=>c9 [.i g0,.i g1] f9)) λx=>A.loop (λg2 g3 q=>A.k5 g3 λl=>A.cd .leq k l (A.ix 3 a l 3 q λg4=>A.k9 g4 λg5 g6 g7=>A.ix 3 a c 3 q λg8=>A.k9 g8 λg9 h0 h1=>A.callv p [.agg ⟨[.int .i64 g5,.int .u8 g6,.int .u8 g7]⟩,.agg ⟨[.int .i64 g9,.int .u8 h0,.int .u8 h1]⟩] [.leaf (.i .i64)] q λh2 y=>A.k5 h2 λh3=>A.cmp .lss h3 0 λh4=>A.cond (!h4) (A.ari .sub .i64 l 1 λh5=>g2 [.i h5] y) (x [.i l] y)) (x [.i l] q)) [.i w] d4) λz=>A.loop (λh6 h7 r=>A.k5 h7 λm=>A.cd .leq m w (A.ix 3 a m 3 r λh8=>A.k9 h8 λh9 i0 i1=>A.ix 3 a c 3 r λi2=>A.k9 i2 λi3 i4 i5=>A.callv p [.agg ⟨[.int .i64 h9,.int .u8 i0,.int .u8 i1]⟩,.agg ⟨[.int .i64 i3,.int .u8 i4,.int .u8 i5]⟩] [.leaf (.i .i64)] r λi6 B=>A.k5 i6 λi7=>A.cd .lss i7 0 (A.ari .add .i64 m 1 λi8=>h6 [.i i8] B) (z [.i m] B)) (z [.i m] r)) [.i d2] d1) [.i c7,.i c8] c6)) λC=>A.loop (λi9 j0 s=>A.k5 j0 λn=>A.cd .leq j n (A.ix 3 a n 3 s λj1=>A.k9 j1 λj2 j3 j4=>A.ix 3 a c 3 s λj5=>A.k9 j5 λj6 j7 j8=>A.callv p [.agg ⟨[.int .i64 j2,.int .u8 j3,.int .u8 j4]⟩,.agg ⟨[.int .i64 j6,.int .u8 j7,.int .u8 j8]⟩] [.leaf (.i .i64)] s λj9 D=>A.k5 j9 λk1=>A.cmp .lss k1 0 λk2=>A.cond (!k2) (A.ari .sub .i64 n 1 λk3=>i9 [.i k3] D) (C [.i n] D)) (C [.i n] s)) [.i v] a1) λE=>A.loop (λk4 k6 t=>A.k5 k6 λo=>A.cd .leq o v (A.ix 3 a o 3 t λk7=>A.k9 k7 λl0 l1 l2=>A.ix 3 a c 3 t λl3=>A.k9 l3 λl4 l5 l6=>A.callv p [.agg ⟨[.int .i64 l0,.int .u8 l1,.int .u8 l2]⟩,.agg ⟨[.int .i64 l4,.int .u8 l5,.int .u8 l6]⟩] [.leaf (.i .i64)] t λl7 F=>A.k5 l7 λl8=>A.cd .lss l8 0 (A.ari .add .i64 o 1 λl9=>k4 [.i l9] F) (E [.i o] F)) (E [.i o] t)) [.i Z] Y
def f93:R:=A.k8 ls λa b=>A.cd .lss a 1 (K [.i 1] h) (A.cd .lss b 1 (K [.i 1] h) (A.cd .gtr a 256 (K [.i 1] h) (A.cd .gtr b 256 (K [.i 1] h) (A.ari .mul .i64 a b λc=>A.cd .gtr c 256 (K [.i 1] h) (K [.i 0] h)))))
def f94:R:=A.unV ls λa c=>A.k0 c λd=>A.call 121 [.v a,.v d] h λe f=>A.k5 e λg=>A.cmp .geq g 0 λi=>K [.b i] f
def f95:R:=A.k7 ls λf g a=>A.call 96 [.i a] h λc d=>A.k2 c λe=>K [.b (!e)] d
def f96:R:=A.k5 ls λa=>A.join (λd e=>A.k2 d λf=>K [.b f] e) λc=>A.cd .geq a 1 (A.cmp .leq a 3 λg=>c [.b g] h) (c [.b false] h)
def f97:R:=A.k1 ls λf g a b=>A.call 105 [.i f,.i g,.i a,.i b] h λj c=>A.k8 j λd e=>A.cd .neq e 0 (K [.i 0,.i 0,.i e] c) (A.cmp .lss d a λk=>A.sel k d a λl=>K [.i l,.i b,.i 0] c)
def f98:R:=A.k7 ls λa b c=>K [.i a,.i b] h
def f99:R:=A.k1 ls λa c b d=>A.cd .neq a b (A.ari .sub .i64 a b λe=>K [.i e] h) (A.conv .i64 c λf=>A.conv .i64 d λg=>A.ari .sub .i64 f g λj=>K [.i j] h)
def f100:R:=A.k5 ls λa=>A.join (λd e=>A.k2 d λf=>K [.b f] e) λc=>A.cd .lss a (-16384) (c [.b true] h) (A.cmp .gtr a 16384 λg=>c [.b g] h)
def f101:R:=A.unI ls λr e=>A.unI e λs f=>A.k0 f λa=>A.opt (lenS a) λt=>A.new (.map [] 0) h λd g=>A.opt (lenS a) λj=>A.loop (λk l b=>A.k5 l λc=>A.cd .lss c j (A.ix 3 a c 3 b λm=>A.k9 m λn o u=>A.heap (.fn (muG cc 162 (.map (some d)) (.agg ⟨[.int .i64 n,.int .u8 o]⟩) (.bool true))) b λw p=>A.ari .add .i64 c 1 λq=>k [.i q] p) (K [.v (.map (some d))] b)) [.i 0] g
def f102:R:=A.k8 ls λa b=>A.call 93 [.i a,.i b] h λd c=>A.k5 d λe=>A.cd .neq e 0 (K [.i 0] c) (A.ari .mul .i64 4 a λf=>A.ari .mul .i64 f b λg=>K [.i g] c)
def f103:R:=A.unI ls λb o=>A.unI o λp q=>A.unV q λd r=>A.unV r λs t=>A.k0 t λe=>A.opt (fdP 0 d) λf=>A.chk f (A.peek (.lg cc 2 f) h λu=>A.ucI .i64 u λv w=>A.k3 w λx=>A.call 97 [.i v,.i x,.i b,.i p] h λy a=>A.k7 y λg j b4=>A.peek (.lg cc 1 s) a λz=>A.ucV z λk B=>A.chk k (A.uc0 B (A.peek (.fn (luG cc 162 false (.bool false) k (.agg ⟨[.int .i64 g,.int .u8 j]⟩) false)) a λC=>A.ucB C λD E=>A.uc0 E (A.cond (!D) (A.peek (.lg cc 1 e) a λF=>A.ucV F λl G=>A.chk l (A.uc0 G (A.ix 3 l b 3 a λH=>A.ucI .u8 H λI J=>A.ucI .i64 J λL M=>A.k3 M λN=>K [.i I,.i L,.i N] a))) (A.opt (fdP 0 d) λm=>A.chk m (A.peek (.lg cc 2 m) a λO=>A.ucI .i64 O λP Q=>A.k3 Q λS=>A.call 104 [.i P,.i S,.i g,.i j] a λT U=>A.k7 T λV W b5=>A.call 52 [.i V,.i W] U λX c=>A.k1 X λY Z a0 b6=>A.peek (.lg cc 1 e) c λa1=>A.ucV a1 λn a2=>A.chk n (A.uc0 a2 (A.ix 3 n b 3 c λa3=>A.ucI .u8 a3 λa4 a5=>A.ucI .i64 a5 λa6 a7=>A.k3 a7 λa8=>A.call 73 [.i Y,.i Z,.i a0,.i a4,.i a6,.i a8] c λa9 b0=>A.k1 a9 λb1 b2 b3 b7=>K [.i b1,.i b2,.i b3] b0))))))))
def f104:R:=A.k1 ls λd e f a=>A.call 122 [.i d,.i e,.i f,.i a] h λg b=>A.k1 g λj k l c=>A.cd .neq c 0 (K [.i 0,.i 0,.i c] b) (A.call 123 [.i j,.i k,.i l,.i a] b λm n=>A.k7 m λo p q=>K [.i o,.i p,.i q] n)
def f105:R:=A.k1 ls λa b f g=>A.call 72 [.i a,.i b,.i f] h λj c=>A.k1 j λk l m d=>A.cd .neq d 0 (K [.i 0,.i d] c) (A.call 124 [.i k,.i l,.i m,.i g] c λn e=>A.k1 n λo p q r=>A.cd .neq r 0 (K [.i 0,.i 1] e) (A.call 125 [.i a,.i b,.i o,.i p,.i q] e λs t=>A.k8 s λu v=>K [.i u,.i v] t))
def f106:R:=A.k7 ls λd e a=>A.join (λf g=>A.k2 f λi=>K [.b i] g) λc=>A.cd .geq a 0 (A.ari .mul .i64 4 d λj=>A.ari .mul .i64 j e λk=>A.cmp .lss a k λl=>c [.b l] h) (c [.b false] h)
def f107:R:=A.k7 ls λb k a=>A.ari .quo .i64 a 4 λc=>A.ari .rem .i64 c b λd=>A.ari .quo .i64 a 4 λe=>A.ari .quo .i64 e b λf=>A.ari .rem .i64 a 4 λg=>A.conv .u8 g λj=>K [.i d,.i f,.i j] h
def f108:R:=A.unI ls λc d=>A.unI d λe f=>A.k1 f λg j a b=>A.ari .mul .i64 c a λk=>A.ari .mul .i64 e b λl=>A.ari .add .i64 k l λm=>A.ari .mul .i64 g a λn=>A.ari .mul .i64 j b λo=>A.ari .add .i64 n o λp=>K [.i m,.i p] h
def f109:R:=A.k7 ls λa b c=>A.call 70 [.i a,.i b,.i c] h λe d=>A.k5 e λf=>A.cd .neq f 0 (K [.i 0,.i 0,.i 0,.i 3] d) (K [.i a,.i b,.i c,.i 0] d)
def f110:R:=A.k1 ls λc d e f=>A.loop (λg j b=>A.k5 j λa=>A.cd .lss a 8 (A.opt (inB 8 a) λs=>A.opt (qw [.i 1,.i 0,.i 0,.i 1,.i 0,.i (-1),.i 1,.i 0,.i (-1),.i 0,.i 0,.i (-1),.i 0,.i 1,.i (-1),.i 0,.i (-1),.i 0,.i 0,.i 1,.i 0,.i (-1),.i (-1),.i 0,.i 1,.i 0,.i 0,.i (-1),.i 0,.i 1,.i 1,.i 0] 0 [(a,4)] 4) λk=>A.k1 k λl m n o=>A.eqs [(.i l,.i c),(.i m,.i d),(.i n,.i e),(.i o,.i f)] λp=>A.cond p (A.conv .u8 a λq=>K [.i q] b) (A.ari .add .i64 a 1 λr=>g [.i r] b)) (K [.i 0] b)) [.i 0] h
def f111:R:=A.unI ls λe f=>A.unI f λg j=>A.unI j λk l=>A.unI l λm n=>A.k1 n λa b c d=>A.call 108 [.i a,.i b,.i c,.i d,.i e,.i k] h λo p=>A.k8 o λq r=>A.call 108 [.i a,.i b,.i c,.i d,.i g,.i m] p λs t=>A.k8 s λu v=>K [.i q,.i u,.i r,.i v] t
def f112:R:=A.unI ls λf m=>A.unI m λn o=>A.k1 o λp q r b=>A.call 126 [.i q,.i r,.i b] h λs t=>A.k8 s λu v=>A.opt (inB 4 b) λb5=>A.opt (hP gl3 0 [(b,17)] 2) λw=>A.ucI .i64 w λx y=>A.k3 y λz=>A.call 127 [.i f,.i n,.i p,.i u,.i v] t λB C=>A.k7 B λg j b6=>A.call 127 [.i f,.i 0,.i 0,.i x,.i z] C λD E=>A.k7 D λF G b7=>A.ari .and .i64 g 1 λH=>A.ari .sub .i64 g H λI=>A.ari .quo .i64 I 2 λJ=>A.ari .and .i64 j 1 λL=>A.ari .sub .i64 j L λM=>A.ari .quo .i64 M 2 λN=>A.loop (λO P c=>A.k1 P λa d e k=>A.cd .lss a 4 (A.opt (inB 4 a) λb8=>A.opt (qw [.i 0,.i (-1),.i 2,.i 0,.i 0,.i (-1),.i 2,.i 0,.i 0,.i 1,.i 0,.i 0,.i 3,.i 0,.i 0,.i 2,.i 0,.i 1,.i 0,.i 1,.i 1,.i 1,.i 0,.i 3,.i 0,.i 0,.i 0,.i 0,.i 0,.i 2,.i 2,.i 2,.i 2,.i 0,.i 0,.i 1,.i 2,.i 1,.i 0,.i 1,.i 0,.i 0,.i 0,.i 3,.i 0,.i 0,.i 1,.i 2,.i 2,.i 0,.i 2,.i (-1),.i 0,.i 1,.i 0,.i (-1),.i 0,.i 1,.i 0,.i 0,.i 2,.i 0,.i 0,.i 0,.i 0,.i 0,.i 0,.i 2] 0 [(a,17)] 17) λQ=>A.unI Q λS T=>A.unI T λU V=>A.unI V λb9 W=>A.unI W λc0 X=>A.unI X λc1 Y=>A.unI Y λc2 Z=>A.unI Z λc3 a0=>A.unI a0 λc4 a1=>A.unI a1 λc5 a2=>A.unI a2 λc6 a3=>A.unI a3 λc7 a4=>A.unI a4 λc8 a5=>A.unI a5 λc9 a6=>A.k1 a6 λd0 d1 d2 d3=>A.eqs [(.i S,.i F),(.i U,.i G)] λa7=>A.join (λa8 a9=>A.k7 a8 λb0 b1 b2=>A.ari .add .i64 a 1 λb3=>O [.i b3,.i b0,.i b1,.i b2] a9) λl=>A.cond a7 (A.conv .u8 a λb4=>l [.i d,.i e,.i b4] c) (l [.i d,.i e,.i k] c)) (K [.i d,.i e,.i k] c)) [.i 0,.i J,.i N,.i 0] E
def f114:R:=A.k5 ls λa=>A.conv .u64 a λb=>A.call 66 [.i b] h λc d=>A.k5 c λe=>A.shf .shl .u64 1 .i64 e λf=>K [.i f] d
def f115:R:=A.k0 ls λa=>A.opt (nilP a) λd=>A.chk d (A.peek (.lg cc 1 d) h λq=>A.ucI .u64 q λr s=>A.uc0 s (A.opt (nilP a) λe=>A.chk e (A.peek (.lg cc 1 e) h λt=>A.ucI .u64 t λu v=>A.uc0 v (A.shf .shl .u64 u .u64 13 λw=>A.ari .xor .u64 r w λx=>A.opt (nilP a) λf=>A.chk f (A.heap (.st f [.int .u64 x]) h λU b=>A.opt (nilP a) λg=>A.chk g (A.peek (.lg cc 1 g) b λy=>A.ucI .u64 y λz B=>A.uc0 B (A.opt (nilP a) λj=>A.chk j (A.peek (.lg cc 1 j) b λC=>A.ucI .u64 C λD E=>A.uc0 E (A.shf .shr .u64 D .u64 7 λF=>A.ari .xor .u64 z F λG=>A.opt (nilP a) λk=>A.chk k (A.heap (.st k [.int .u64 G]) b λV c=>A.opt (nilP a) λl=>A.chk l (A.peek (.lg cc 1 l) c λH=>A.ucI .u64 H λI J=>A.uc0 J (A.opt (nilP a) λm=>A.chk m (A.peek (.lg cc 1 m) c λL=>A.ucI .u64 L λM N=>A.uc0 N (A.shf .shl .u64 M .u64 17 λO=>A.ari .xor .u64 I O λP=>A.opt (nilP a) λn=>A.chk n (A.heap (.st n [.int .u64 P]) c λW o=>A.opt (nilP a) λp=>A.chk p (A.peek (.lg cc 1 p) o λQ=>A.ucI .u64 Q λS T=>A.uc0 T (K [.i S] o)))))))))))))))))
def f116:R:=A.unV ls λb c=>A.unI c λa d=>A.unV d λe f=>A.k0 f λg=>A.ari .sub .i64 a 1 λj=>A.ari .add .i64 a 1 λk=>A.call 117 [.v b,.i j,.i a,.i k,.v e,.v g] h λl m=>A.k5 l λn=>K [.i n] m
def f117:R:=A.unV ls λa d=>A.unI d λe f=>A.unI f λg j=>A.unI j λk l=>A.unV l λb m=>A.k0 m λc=>A.call 128 [.v a,.i e,.i g,.v b,.v c] h λn o=>A.k8 n λp q=>A.call 128 [.v a,.i q,.i k,.v b,.v c] o λr s=>A.k8 r λt y=>A.call 128 [.v a,.i p,.i t,.v b,.v c] s λu w=>A.k8 u λz x=>K [.i x] w
def f119:R:=A.unV ls λb c=>A.unI c λa d=>A.unV d λe f=>A.k0 f λg=>A.ari .sub .i64 a 1 λj=>A.ari .add .i64 a 1 λk=>A.call 120 [.v b,.i j,.i a,.i k,.v e,.v g] h λl m=>A.k5 l λn=>K [.i n] m
def f120:R:=A.unV ls λa d=>A.unI d λe f=>A.unI f λg j=>A.unI j λk l=>A.unV l λb m=>A.k0 m λc=>A.call 129 [.v a,.i e,.i g,.v b,.v c] h λn o=>A.k8 n λp q=>A.call 129 [.v a,.i q,.i k,.v b,.v c] o λr s=>A.k8 r λt y=>A.call 129 [.v a,.i p,.i t,.v b,.v c] s λu w=>A.k8 u λz x=>K [.i x] w
def f121:R:=A.unV ls λd f=>A.k0 f λg=>A.opt (lenS d) λj=>A.loop (λk l c=>A.k5 l λa=>A.cd .lss a j (A.ix 3 d a 3 c λm=>A.k9 m λn o p=>A.callv g [.agg ⟨[.int .i64 n,.int .u8 o,.int .u8 p]⟩] [.leaf .b] c λq e=>A.k2 q λr=>A.cond r (K [.i a] e) (A.ari .add .i64 a 1 λs=>k [.i s] e)) (K [.i (-1)] c)) [.i 0] h
def f122:R:=A.k1 ls λa b c e=>A.call 93 [.i a,.i b] h λj f=>A.k5 j λg=>A.cd .neq g 0 (K [.i 0,.i 0,.i 0,.i g] f) (A.call 97 [.i a,.i b,.i c,.i e] f λk d=>A.k7 k λl m n=>A.cd .neq n 0 (K [.i 0,.i 0,.i 0,.i 7] d) (A.eqs [(.i l,.i c),(.i m,.i e)] λo=>A.cond (!o) (K [.i 0,.i 0,.i 0,.i 7] d) (A.call 107 [.i a,.i b,.i c] d λp q=>A.k7 p λr s t=>K [.i r,.i s,.i t,.i 0] q)))
def f123:R:=A.k1 ls λb c d e=>A.call 47 [.i b,.i c,.i d] h λp a=>A.k5 p λq=>A.cd .neq q 0 (K [.i 0,.i 0,.i 1] a) (A.cd .gtr e 2 (K [.i 0,.i 0,.i 1] a) (A.opt (inB 4 d) λa5=>A.opt (hP gl3 0 [(d,17)] 17) λr=>A.ucI .i64 r λa6 s=>A.ucI .i64 s λa7 t=>A.ucI .u8 t λf u=>A.ucI .i64 u λg v=>A.ucI .i64 v λa8 w=>A.ucI .i64 w λa9 x=>A.ucI .u8 x λb0 y=>A.ucI .i64 y λb1 z=>A.ucI .i64 z λb2 B=>A.ucI .u8 B λb3 C=>A.ucI .i64 C λb4 D=>A.ucI .i64 D λb5 E=>A.ucI .u8 E λb6 F=>A.ucI .i64 F λb7 G=>A.ucI .i64 G λb8 H=>A.ucI .i64 H λb9 I=>A.k3 I λc0=>A.ari .add .i64 b g λJ=>A.cmp .eql e 1 λL=>A.join (λM N=>A.k8 M λj k=>A.call 63 [.i j,.i k] N λO l=>A.k5 O λP=>A.cd .neq P 0 (K [.i 0,.i 0,.i 3] l) (K [.i j,.i k,.i 0] l)) λm=>A.cond L (A.ari .add .i64 b c λQ=>A.ari .add .i64 Q 1 λS=>m [.i 3,.i S] a) (A.cmp .eql e 2 λT=>A.join (λU V=>A.k8 U λW X=>m [.i W,.i X] V) λn=>A.cond T (A.ari .sub .i64 c b λY=>n [.i 4,.i Y] a) (A.cmp .eql f 2 λZ=>A.join (λa0 a1=>A.k8 a0 λa2 a3=>n [.i a2,.i a3] a1) λo=>A.cond Z (A.ari .add .i64 c g λa4=>o [.i f,.i a4] a) (o [.i f,.i J] a)))))
def f124:R:=A.k1 ls λd e a b=>A.call 47 [.i d,.i e,.i a] h λl c=>A.k5 l λm=>A.cd .neq m 0 (K [.i 0,.i 0,.i 0,.i 1] c) (A.cd .gtr b 2 (K [.i 0,.i 0,.i 0,.i 1] c) (A.opt (inB 4 a) λs=>A.opt (inB 3 b) λt=>A.opt (hP gl3 4 [(a,17),(b,3)] 3) λn=>A.k6 n λo p f=>A.ari .add .i64 o d λg=>A.ari .add .i64 p e λj=>A.call 47 [.i g,.i j,.i f] c λq k=>A.k5 q λr=>A.cd .neq r 0 (K [.i 0,.i 0,.i 0,.i 3] k) (K [.i g,.i j,.i f,.i 0] k)))
def f125:R:=A.unI ls λd k=>A.k1 k λe b c f=>A.call 93 [.i d,.i e] h λl g=>A.k5 l λj=>A.cd .neq j 0 (K [.i 0,.i j] g) (A.call 47 [.i b,.i c,.i f] g λm a=>A.k5 m λn=>A.cd .neq n 0 (K [.i 0,.i 7] a) (A.cd .lss b 0 (K [.i 0,.i 7] a) (A.cd .geq b d (K [.i 0,.i 7] a) (A.cd .lss c 0 (K [.i 0,.i 7] a) (A.cd .geq c e (K [.i 0,.i 7] a) (A.ari .mul .i64 c d λo=>A.ari .add .i64 o b λp=>A.ari .mul .i64 4 p λq=>A.conv .i64 f λr=>A.ari .add .i64 q r λs=>K [.i s,.i 0] a))))))
def f126:R:=A.k7 ls λa b g=>A.ari .mul .i64 2 a λc=>A.ari .add .i64 c 1 λd=>A.ari .mul .i64 2 b λe=>A.ari .add .i64 e 1 λf=>K [.i d,.i f] h
def f127:R:=A.unI ls λa m=>A.k1 m λb c d e=>A.call 70 [.i a,.i b,.i c] h λn f=>A.k5 n λo=>A.cd .neq o 0 (K [.i 0,.i 0,.i 1] f) (A.call 130 [.i d,.i e] f λp g=>A.k5 p λq=>A.cd .neq q 0 (K [.i 0,.i 0,.i 1] g) (A.opt (inB 8 a) λI=>A.opt (hP gl2 0 [(a,4)] 4) λr=>A.ucI .i64 r λs t=>A.ucI .i64 t λu v=>A.ucI .i64 v λw x=>A.k3 x λy=>A.call 108 [.i s,.i u,.i w,.i y,.i d,.i e] g λz B=>A.k8 z λC D=>A.ari .mul .i64 2 b λE=>A.ari .add .i64 C E λj=>A.ari .mul .i64 2 c λF=>A.ari .add .i64 D F λk=>A.call 130 [.i j,.i k] B λG l=>A.k5 G λH=>A.cd .neq H 0 (K [.i 0,.i 0,.i 3] l) (K [.i j,.i k,.i 0] l)))
def f128:R:=A.unV ls λd j=>A.unI j λa k=>A.unI k λb l=>A.unV l λe m=>A.k0 m λn=>A.ix 3 d b 3 h λo=>A.k6 o λp q r=>A.ix 3 d a 3 h λs=>A.k6 s λt u v=>A.callv n [.agg ⟨[.int .i64 p,.int .i64 q,.int .u8 r]⟩,.agg ⟨[.int .i64 t,.int .i64 u,.int .u8 v]⟩] [.leaf (.i .i64)] h λw c=>A.k5 w λx=>A.cd .lss x 0 (A.opt (nilP e) λf=>A.chk f (A.peek (.lg cc 1 f) c λy=>A.k3 y λz=>A.ari .add .i64 z 1 λB=>A.opt (nilP e) λg=>A.chk g (A.heap (.st g [.int .i64 B]) c λD C=>K [.i b,.i a] C))) (K [.i a,.i b] c)
def f129:R:=A.unV ls λd j=>A.unI j λa k=>A.unI k λb l=>A.unV l λe m=>A.k0 m λn=>A.ix 3 d b 3 h λo=>A.k9 o λp q r=>A.ix 3 d a 3 h λs=>A.k9 s λt u v=>A.callv n [.agg ⟨[.int .i64 p,.int .u8 q,.int .u8 r]⟩,.agg ⟨[.int .i64 t,.int .u8 u,.int .u8 v]⟩] [.leaf (.i .i64)] h λw c=>A.k5 w λx=>A.cd .lss x 0 (A.opt (nilP e) λf=>A.chk f (A.peek (.lg cc 1 f) c λy=>A.k3 y λz=>A.ari .add .i64 z 1 λB=>A.opt (nilP e) λg=>A.chk g (A.heap (.st g [.int .i64 B]) c λD C=>K [.i b,.i a] C))) (K [.i a,.i b] c)
def f130:R:=A.k8 ls λa b=>A.cd .lss a (-65536) (K [.i 1] h) (A.cd .gtr a 65536 (K [.i 1] h) (A.cd .lss b (-65536) (K [.i 1] h) (A.cd .gtr b 65536 (K [.i 1] h) (K [.i 0] h))))
end
inductive Pth where
 |e
 |o (p:Pth)
 |i (p:Pth)
inductive Tr(α:Type) where
 |leaf
 |node (v:α) (l r:Tr α)
def Pth.num:Pth->Nat
 | .e=>1
 | .o p=>2*p.num
 | .i p=>2*p.num+1
def pthF:Nat->Nat->Pth
 |0,_=>.e
 |f+1,n=>if Nat.ble n 1 then .e else if Nat.beq (n%2) 0 then .o (pthF f (n / 2))else .i (pthF f (n / 2))
def ba(n:Nat):Pth:=pthF (n+1) (n+1)
def Pth.get{α:Type}(d:α)(p:Pth):Tr α->α:=
 Pth.rec (motive:=λ_=>Tr α->α)
  (λt=>Tr.casesOn t d λv _ _=>v)
  (λ_ ih t=>Tr.casesOn t d λ_ l _=>ih l)
  (λ_ ih t=>Tr.casesOn t d λ_ _ r=>ih r) p
def Pth.setK{α:Type}(d:α)(p:Pth):Tr α->α->(Tr α->Bool)->Bool:=
 Pth.rec (motive:=λ_=>Tr α->α->(Tr α->Bool)->Bool)
  (λt x k=>Tr.casesOn t (k (.node x .leaf .leaf)) λ_ l r=>k (.node x l r))
  (λ_ ih t x k=>Tr.casesOn t (ih .leaf x λl=>k (.node d l .leaf)) λv l r=>ih l x λl=>k (.node v l r))
  (λ_ ih t x k=>Tr.casesOn t (ih .leaf x λr=>k (.node d .leaf r)) λv l r=>ih r x λr=>k (.node v l r)) p
def eqI:Int->Int->Bool
 | .ofNat a,.ofNat b=>Nat.beq a b
 | .negSucc a,.negSucc b=>Nat.beq a b
 |_,_=>false
def kmax:IntKind->Nat
 | .i8=>127
 | .i16=>32767
 | .i32=>2147483647
 | .i64=>9223372036854775807
 | .u8=>255
 | .u16=>65535
 | .u32=>4294967295
 | .u64=>18446744073709551615
def fits(k:IntKind):Int->Bool
 | .ofNat n=>Nat.ble n (kmax k)
 | .negSucc n=>k.signed&&Nat.ble n (kmax k)
abbrev Lin:=List Int
def dot:List Int->List Int->Int
 |c :: l,x :: ρ=>c*x+dot l ρ
 |_,_=>0
def Lin.eval(l:Lin)(ρ:List Int):Int:=
 match l with
 | []=>0
 |c :: l=>c+dot l ρ
structure Ctx where
 iv:List (Int×Int)
 cs:List (List Int×Int×Int)
inductive Opd where
 |t (p:Pth)
 |c (v:Value)
inductive Ins where
 |mv (x:Opd)
 |pick (c a b:Opd)
 |ar (op:BinOp) (x y:Opd)
 |cmp (op:BinOp) (x y:Opd)
 |notb (x:Opd)
 |conv (k:IntKind) (x:Opd)
 |fld (x:Opd) (off:Nat)
 |flda (x:Opd) (off n:Nat)
 |ext (x:Opd) (i:Nat)
 |fad (x:Opd) (off:Nat)
 |lload (s:Nat) (p:Pth) (a:Opd)
 |lloada (s:Nat) (p:Pth) (n:Nat) (a:Opd)
 |lbox (s:Nat) (p:Pth) (x:Opd)
 |lnew (s:Nat) (p:Pth) (vs:List Value)
 |bld (z:List Value) (ps:List (Nat×Nat×Opd))
 |lstore (s:Nat) (p:Pth) (n:Nat) (a x:Opd)
 |call (f:FuncId) (args:List Opd)
 |gen
abbrev TV:=Tr Value
abbrev TL:=Tr (Option (List Value))
def rd(tm:TV):Opd->Value
 | .t p=>p.get undef tm
 | .c v=>v
structure XCfg where
 C:Cfg
 kf:FuncId->List Value->List HObj->Option (Value×List HObj)
abbrev KS:=Ctx->TV->TL->List HObj->Bool
structure XS where
 call:Ctx->FuncId->List Value->List HObj->(Ctx->Value->List HObj->Bool)->Bool
 yield:Ctx->Nat->List Value->List HObj->(Ctx->Value->List HObj->Bool)->Bool
 ex:Ctx->List Nat->Nat->Code->TV->TL->List HObj->KS->(Exit->KS)->Bool
def sO:∀(f n:Nat),n<=f->1<=n->(pthF f n).num=n
 |0,n,h,h1=>by omega
 |f+1,n,h,h1=>by
  unfold pthF
  by_cases hn:n<=1
  ·have:n=1:=by omega
   subst this
   rfl
  ·have h2:Nat.ble n 1=false:=by
    rw[←qa2,qbw];exact hn
   rw[h2]
   have ih:=sO f (n / 2) (by omega) (by omega)
   by_cases hm:n%2=0
   ·simp[hm,Pth.num,ih];omega
   ·simp[hm,Pth.num,ih];omega
def mY(n:Nat):(ba n).num=n+1:=sO _ _ (qai _) (by omega)
def iU{a b:Nat}(h:ba a=ba b):a=b:=by
 have:=congrArg Pth.num h
 rw[mY,mY]at this
 omega
def Pth.set{α:Type}(d:α):Pth->Tr α->α->Tr α
 | .e,.leaf,x=>.node x .leaf .leaf
 | .e,.node _ l r,x=>.node x l r
 | .o p,.leaf,x=>.node d (Pth.set d p .leaf x) .leaf
 | .o p,.node v l r,x=>.node v (Pth.set d p l x) r
 | .i p,.leaf,x=>.node d .leaf (Pth.set d p .leaf x)
 | .i p,.node v l r,x=>.node v l (Pth.set d p r x)
def Pth.setK_eq{α:Type}(d:α):∀(p:Pth) (t:Tr α) (x:α) (k:Tr α->Bool),p.setK d t x k=k (p.set d t x)
 | .e,t,x,k=>by cases t<;>rfl
 | .o p,t,x,k=>by
  cases t with
  |leaf=>exact Pth.setK_eq d p .leaf x _
  |node v l r=>exact Pth.setK_eq d p l x _
 | .i p,t,x,k=>by
  cases t with
  |leaf=>exact Pth.setK_eq d p .leaf x _
  |node v l r=>exact Pth.setK_eq d p r x _
def Pth.get_leaf{α:Type}(d:α)(p:Pth):p.get d .leaf=d:=by cases p<;>rfl
def Pth.get_set{α:Type}(d:α):∀(p:Pth) (t:Tr α) (x:α),p.get d (p.set d t x)=x
 | .e,t,x=>by cases t<;>rfl
 | .o p,t,x=>by
  cases t with
  |leaf=>exact Pth.get_set d p .leaf x
  |node v l r=>exact Pth.get_set d p l x
 | .i p,t,x=>by
  cases t with
  |leaf=>exact Pth.get_set d p .leaf x
  |node v l r=>exact Pth.get_set d p r x
def Pth.get_set_ne{α:Type}(d:α):∀(p q:Pth) (t:Tr α) (x:α),q≠p->q.get d (p.set d t x)=q.get d t
 | .e,q,t,x,h=>by cases q<;>cases t<;>first|rfl|exact absurd rfl h|exact Pth.get_leaf d _
 | .o p,q,t,x,h=>by
  cases q with
  |e=>cases t<;>rfl
  |o q=>
   have hq:q≠p:=λe=>h (e▸rfl)
   cases t with
   |leaf=>exact(Pth.get_set_ne d p q .leaf x hq).trans (Pth.get_leaf d q)
   |node v l r=>exact Pth.get_set_ne d p q l x hq
  |i q=>
   cases t with
   |leaf=>exact Pth.get_leaf d q
   |node v l r=>rfl
 | .i p,q,t,x,h=>by
  cases q with
  |e=>cases t<;>rfl
  |i q=>
   have hq:q≠p:=λe=>h (e▸rfl)
   cases t with
   |leaf=>exact(Pth.get_set_ne d p q .leaf x hq).trans (Pth.get_leaf d q)
   |node v l r=>exact Pth.get_set_ne d p q r x hq
  |o q=>
   cases t with
   |leaf=>exact Pth.get_leaf d q
   |node v l r=>rfl
def Tr.map{α:Type}(f:α->α):Tr α->Tr α
 | .leaf=>.leaf
 | .node v l r=>.node (f v) (l.map f) (r.map f)
def eqI_iff{a b:Int}:eqI a b=true↔a=b:=by
 cases a<;>cases b<;>simp[eqI]<;>omega
def fits_iff{k:IntKind}{c:Int}(h:fits k c=true):(k.signed=true->-(kmax k:Int) - 1<=c)/\(k.signed=false->0<=c)/\c<=kmax k:=by
 cases c with
 |ofNat n=>
  simp only[fits,qbw]at h
  refine⟨λ_=>?_,λ_=>?_,?_⟩<;>simp<;>omega
 |negSucc n=>
  simp only[fits,qaa,qbw]at h
  refine⟨λ_=>?_,λhs=>?_,?_⟩
  ·omega
  ·rw[h.1]at hs;cases hs
  ·omega
def pS{k:IntKind}{c:Int}(h:fits k c=true):k.wrap c=c:=by
 obtain⟨h1,h2,h3⟩:=fits_iff h
 cases k<;>simp only[IntKind.signed,kmax,forall_const,reduceCtorEq,false_implies]at h1 h2 h3
 ·exact Go.IntWalk.i8_in c (by omega)
 ·exact Go.IntWalk.i16_in c (by omega)
 ·exact Go.IntWalk.i32_in c (by omega)
 ·exact Go.IntWalk.i64_in c (by omega)
 ·exact Go.IntWalk.u8_in c (by omega)
 ·exact Go.IntWalk.u16_in c (by omega)
 ·exact Go.IntWalk.u32_in c (by omega)
 ·exact Go.IntWalk.u64_in c (by omega)
section
variable [Val] {ρ:List Int}
def mo(op:BinOp)(x y:Int):Option Bool:=
 match op with
 | .eql=>some (x==y)
 | .neq=>some (x != y)
 | .lss=>some (decide (x<y))
 | .leq=>some (decide (x<=y))
 | .gtr=>some (decide (x > y))
 | .geq=>some (decide (x ≥ y))
 |_=>none
def ny(op:BinOp)(k:IntKind)(x y n:Int):Prop:=∀(P:Program) (t:TypeId) (w:World),(binOp op t (.int k x) (.int k y)).run P w = .ok (.int k n) w
def bits_one{k:IntKind}(x:Int):((BitVec.ofInt k.bits x &&& BitVec.ofInt k.bits 1).toNat:Int)=x%2:=by
 have hb:k.bits=k.bits - 1+1:=by cases k<;>rfl
 generalize k.bits - 1=n at hb
 rw[hb]
 have h1:(BitVec.ofInt (n+1) 1).toNat=1:=by
  simp
 rw[BitVec.toNat_and,h1,Nat.and_one_is_mod,BitVec.toNat_ofInt]
 have hp:(0:Int)<2 ^ (n+1):=Int.pow_pos (by omega)
 have e:(2:Int) ^ (n+1)=2*2 ^ n:=by rw[Int.pow_succ];omega
 have h0:0<=x%(2 ^ (n+1):Int):=Int.emod_nonneg _ (by omega)
 have:((x%((2 ^ (n+1):Nat):Int)).toNat%2:Nat)=((x%(2 ^ (n+1):Int))%2:Int):=by
  have e2:((2 ^ (n+1):Nat):Int)=(2 ^ (n+1):Int):=by simp
  rw[e2]
  omega
 rw[this,e,Int.emod_emod_of_dvd _ ⟨2 ^ n,rfl⟩]
def lC{k:IntKind}{x n:Int}(hn:x%2=n):ny .and k x 1 n:=by
 intro P t w
 have hw:k.wrap n=n:=pS (by
  have h0:0<=n:=by omega
  have h1:n<=1:=by omega
  obtain⟨m,rfl⟩ : ∃m:Nat,n=m:=⟨n.toNat,by omega⟩
  show Nat.ble m (kmax k)=true
  rw[qbw]
  cases k<;>simp only[kmax]<;>omega)
 have hb:=bits_one (k:=k) x
 simp only[binOp,ne_eq,not_true_eq_false,if_false,Op.intBits]
 show Result.ok (Value.int k (k.wrap _)) w=_
 rw[hb,hn,hw]
end
section
variable [Val] {ρ:List Int}
structure Rep(pts:List Nat)(nt:Nat)(tm:TV)(lc:TL)(σ:St):Prop where
 len:σ.tmps.length=nt
 val:∀(i:Nat) v,σ.tmps[i]?=some v->(ba i).get undef tm=v
 llen:pts≠[]->σ.loc.length=nt
 loc:∀(i:Nat) x,σ.loc[i]?=some x->(ba i).get none lc=x
def ValStep(C:Cfg)(pts:List Nat)(σ:St)(o:Oper)(v:Value):Prop:=
 (∃e,ah C pts (oval σ.tmps) o=some e/\aD σ e=some (σ,v))∨gi C σ.tmps o v
def ValStep.val{C:Cfg}{pts:List Nat}{σ:St}{o:Oper}{v:Value}(h:ah C pts (oval σ.tmps) o=some (.val v)):ValStep C pts σ o v:=.inl ⟨_,h,rfl⟩
def lR(k:IntKind)(x:Int):k.wrap (x%(2 ^ k.bits:Int))=k.wrap x:=by
 unfold IntKind.wrap
 rw[Int.emod_emod_of_dvd _ (Int.dvd_refl _)]
def rC{k:IntKind}(m n:Nat):ny .and k m n (k.wrap (Nat.land m n:Nat)):=by
 intro P t w
 simp only[binOp,ne_eq,not_true_eq_false,if_false,Op.intBits]
 show Result.ok (Value.int k (k.wrap _)) w=_
 rw[←lR k (Nat.land m n:Nat)]
 congr 3
 have h2:∀x:Nat,(BitVec.ofInt k.bits (x:Int)).toNat=x%2 ^ k.bits:=λx=>by
  rw[BitVec.toNat_ofInt]
  have:((x:Int)%((2 ^ k.bits:Nat):Int))=((x%2 ^ k.bits:Nat):Int):=by simp
  rw[this,qcP]
 have h3:(BitVec.ofInt k.bits (m:Int) &&& BitVec.ofInt k.bits (n:Int)).toNat=(m &&& n)%2 ^ k.bits:=by
  rw[BitVec.toNat_and,h2,h2,Nat.and_mod_two_pow]
 rw[h3]
 simp
def rF{k:IntKind}(m n:Nat):ny .xor k m n (k.wrap (Nat.xor m n:Nat)):=by
 intro P t w
 simp only[binOp,ne_eq,not_true_eq_false,if_false,Op.intBits]
 show Result.ok (Value.int k (k.wrap _)) w=_
 rw[←lR k (Nat.xor m n:Nat)]
 congr 3
 have h2:∀x:Nat,(BitVec.ofInt k.bits (x:Int)).toNat=x%2 ^ k.bits:=λx=>by
  rw[BitVec.toNat_ofInt]
  have:((x:Int)%((2 ^ k.bits:Nat):Int))=((x%2 ^ k.bits:Nat):Int):=by simp
  rw[this,qcP]
 have h3:(BitVec.ofInt k.bits (m:Int) ^^^ BitVec.ofInt k.bits (n:Int)).toNat=(m ^^^ n)%2 ^ k.bits:=by
  rw[BitVec.toNat_xor,h2,h2,Nat.xor_mod_two_pow]
 rw[h3]
 simp
def uh{k:IntKind}(m n:Nat):ny .or k m n (k.wrap (Nat.lor m n:Nat)):=by
 intro P t w
 simp only[binOp,ne_eq,not_true_eq_false,if_false,Op.intBits]
 show Result.ok (Value.int k (k.wrap _)) w=_
 rw[←lR k (Nat.lor m n:Nat)]
 congr 3
 have h2:∀x:Nat,(BitVec.ofInt k.bits (x:Int)).toNat=x%2 ^ k.bits:=λx=>by
  rw[BitVec.toNat_ofInt]
  have:((x:Int)%((2 ^ k.bits:Nat):Int))=((x%2 ^ k.bits:Nat):Int):=by simp
  rw[this,qcP]
 have h3:(BitVec.ofInt k.bits (m:Int) ||| BitVec.ofInt k.bits (n:Int)).toNat=(m ||| n)%2 ^ k.bits:=by
  rw[BitVec.toNat_or,h2,h2,Nat.or_mod_two_pow]
 rw[h3]
 simp
end
section
variable {R:Type}
def setK_eq{α:Type}(x:α):∀(l:List α) (i:Nat) (k:List α->R),setK x l i k=k (l.set i x)
 | [],_,_=>rfl
 |_ :: _,0,_=>rfl
 |a :: l,i+1,k=>setK_eq x l i λl=>k (a :: l)
def ri(n:Nat)(K:Nat->R):ob n K=K n:=by cases n<;>rfl
end
def SL.good:SL->Prop
 | .v x=>aV x=true
 |_=>True
def S0.good(x:S0):Prop:=∀l∈x.cells,l.good
def SV.gd:SV->Prop
 | .st x=>x.good
 | .tup xs=>(∀x∈xs,x.good)/\2<=xs.length
 | .no=>False
 |_=>True
def de{x:Value}:aV x=true↔noLoc x=true/\aW x=true/\aU x=true/\aB x=false:=by
 unfold aV
 cases noLoc x<;>cases aW x<;>cases aU x<;>cases aB x<;>simp
def mD{x:Value}(h:aV x=true):aF x=true:=by
 obtain⟨h1,_,h2,_⟩:=de.1 h
 simp[aF,h1,h2]
def rl{x:Value}(h:aV x=true):x.cells = #[x]:=dh (de.1 h).2.2.1
def SL.val_good{l:SL}(h:l.good):aV l.val=true:=by
 cases l with
 |v x=>exact h
 |_=>rfl
def S0.cells_val{x:S0}(h:x.good):x.val.cells=⟨x.cells.map SL.val⟩:=by
 cases x with
 |leaf l=>exact rl (SL.val_good (h l (by simp[S0.cells])))
 |agg cs=>rfl
def S0.noLoc{x:S0}(h:x.good):noLoc x.val=true:=by
 cases x with
 |leaf l=>exact(de.1 (SL.val_good (h l (by simp[S0.cells])))).1
 |agg cs=>
  simp only[S0.val,Am.noLoc,qad,qaK]
  rintro _ ⟨l,hl,rfl⟩
  exact(de.1 (SL.val_good (h l hl))).2.1
def S0.not_tuple{x:S0}(h:x.good):aB x.val=false:=by
 cases x with
 |leaf l=>exact(de.1 (SL.val_good (h l (by simp[S0.cells])))).2.2.2
 |agg cs=>rfl
def S0.cells_ok{x:S0}(h:x.good):x.val.cells.toList.all aF=true:=by
 rw[S0.cells_val h]
 simp only[qad,qaK]
 rintro _ ⟨l,hl,rfl⟩
 exact mD (SL.val_good (h l hl))
def cells_ok'{cs:List SL}(h:∀l∈cs,l.good):(cs.map SL.val).all aF=true:=by
 simp only[qad,qaK]
 rintro _ ⟨l,hl,rfl⟩
 exact mD (SL.val_good (h l hl))
def rG{v:Value}(h:scalar v=true):aV v=true:=by
 cases v<;>first|rfl|(simp[scalar]at h;done)|skip
 case pointer a=>cases a<;>first|rfl|simp[scalar]at h
 case slice a l c=>
  cases a with
  |none=>rfl
  |some a=>cases l<;>cases c<;>simp[scalar]at h
def oR(v:Value):(slOf v).val=v:=by cases v<;>rfl
def lG{v:Value}(h:scalar v=true):(slOf v).good:=by
 cases v<;>first|trivial|exact rG h
def oN{v:Value}{x:S0}(h:s0Of v=some x):x.val=v/\x.good/\dR v=true:=by
 unfold s0Of at h
 split at h
 next cs=>
  split at h
  next ha=>
   cases h
   refine⟨?_,?_,ha⟩
   ·simp only[S0.val,qcJ,Value.agg.injEq]
    have:(SL.val ∘ slOf)=id:=funext oR
    rw[this,List.map_id]
   ·intro l hl
    simp only[S0.cells,qaK]at hl
    obtain⟨v,hv,rfl⟩:=hl
    exact lG (qad.1 ha v hv)
  ·cases h
 next hne=>
  split at h
  next hs=>
   cases h
   refine⟨oR v,?_,?_⟩
   ·intro l hl
    simp only[S0.cells,qao]at hl
    subst hl
    exact lG hs
   ·cases v<;>first|exact hs|exact absurd rfl (hne _)
  ·cases h
def cO{a b:IntKind}(h:di a b=true):a=b:=by
 cases a<;>cases b<;>first|rfl|cases h
def cV(a:IntKind):di a a=true:=by cases a<;>rfl
section
variable [Val] [Kno]
def Told(sks:List SK)(ls:List Lf)(xs:List S0):Prop:=bA xs sks=true/\bC xs=ls/\∀x∈xs,x.good
def aR(C:Cfg)(Sg:FuncId->Option Sig)(g:FuncId)(ls:List Lf)(H:List HObj)(rs:List Lf)(H':List HObj):Prop:=
 ∃sg xs ys,Sg g=some sg/\Told sg.ps ls xs/\Told sg.rs rs ys/\fZ C g (ae xs) H (eB (ae ys)) H'
def qO(C:Cfg)(v:Value)(args:List Value)(hs:List SK)(H:List HObj)(rs:List Lf)(H':List HObj):Prop:=
 ∃ys,Told hs rs ys/\((∃g first cap,v = .func (.func g) first cap/\fZ C g (first.toList++args++cap.toList) H (eB (ae ys)) H')∨
  (∃l,v = .func (.yield l) #[] #[]/\im C l args H (eB (ae ys)) H'))
def lV(nt:Nat):List (Nat×SK)->List Value->List Value->List Value
 |(t,_) :: l,v :: vs,tm=>lV nt l vs (tm.set t v)
 |_,_,tm=>tm
def lpOf(s:Site)(κ:Nat)(vals:List Value):ALoop:=
 { state:=.ready,pending:=none,fn:=κ,tmps:=lV s.nt s.caps vals (List.replicate s.nt poison),params:=s.params.map (·.1),assign:=s.assign.erase mP,body:=s.body.erase mP }
def gp:Lf->Lf->Bool
 | .i a,.i b=>a==b
 | .b a,.b b=>a==b
 |_,_=>false
def ce(l:List (Lf×Lf)):Bool:=l.all λp=>gp p.1 p.2
def ShRun(op:BinOp)(k:IntKind)(x:Int)(k':IntKind)(y n:Int):Prop:=∀(P:Program) (t:TypeId) (w:World),(binOp op t (.int k x) (.int k' y)).run P w = .ok (.int k n) w
structure AlgOk{R HT:Type}(A:Alg R HT)(C:Cfg)(Sg:FuncId->Option Sig)(T:Nat->Site)(holds:R->Prop)(abs:HT->List HObj):Prop where
 fail:¬holds A.fail
 cond:∀b x y,holds (A.cond b x y)->(b=true/\holds x)∨(b=false/\holds y)
 ari:∀op k a b K,holds (A.ari op k a b K)->∃n,ny op k a b n/\holds (K n)
 shf:∀op k a k' b K,holds (A.shf op k a k' b K)->∃n,ShRun op k a k' b n/\holds (K n)
 cmp:∀op a b K,holds (A.cmp op a b K)->∃t,mo op a b=some t/\holds (K t)
 eqs:∀l K,holds (A.eqs l K)->holds (K (ce l))
 conv:∀k a K,holds (A.conv k a K)->holds (K (k.wrap a))
 sel:∀t a b K,holds (A.sel t a b K)->holds (K (if t then a else b))
 opt:∀ {α:Type} (o:Option α) K,holds (A.opt o K)->∃x,o=some x/\holds (K x)
 chk:∀v K,holds (A.chk v K)->aV v=true/\holds K
 unI:∀ls K,holds (A.unI ls K)->∃n r,ls = .i n :: r/\holds (K n r)
 unB:∀ls K,holds (A.unB ls K)->∃t r,ls = .b t :: r/\holds (K t r)
 unV:∀ls K,holds (A.unV ls K)->∃x r,ls = .v x :: r/\holds (K x r)
 un0:∀ls K,holds (A.un0 ls K)->ls=[]/\holds K
 ucI:∀k ls K,holds (A.ucI k ls K)->∃n r,ls = .int k n :: r/\holds (K n r)
 ucB:∀ls K,holds (A.ucB ls K)->∃t r,ls = .bool t :: r/\holds (K t r)
 ucV:∀ls K,holds (A.ucV ls K)->∃x r,ls=x :: r/\holds (K x r)
 uc0:∀ls K,holds (A.uc0 ls K)->ls=[]/\holds K
 peek:∀f h K,holds (A.peek f h K)->∃cs,f.run (λi=>(abs h)[i]?)=some cs/\holds (K cs)
 heap:∀f h K,holds (A.heap f h K)->∃acts cs h',f.run (λi=>(abs h)[i]?) (abs h).length=some (acts,cs)/\abs h'=eW (abs h) acts/\holds (K cs h')
 new:∀o h K,holds (A.new o h K)->∃h',abs h'=abs h++[o]/\holds (K (abs h).length h')
 call:∀g ls h K,holds (A.call g ls h K)->∃rs h',aR C Sg g ls (abs h) rs (abs h')/\holds (K rs h')
 callv:∀v args hs h K,holds (A.callv v args hs h K)->∃rs h',qO C v args hs (abs h) rs (abs h')/\holds (K rs h')
 join:∀b m,holds (A.join b m)->holds (m b)
 loop:∀F ls h,holds (A.loop F ls h)->∃it:Nat->List Lf->HT->R,(∀ls h,¬holds (it 0 ls h))/\(∀n ls h,it (n+1) ls h=F (it n) ls h)/\∃n,holds (it n ls h)
 rfun:∀κ v vals h K,holds (A.rfun κ v vals h K)->∃g first cap r H1 lp h2,v = .func (.func g) first cap/\
  fZ C g (first.toList++[.func (.yield (abs h).length) #[] #[]]++cap.toList) (abs h++[.loop (lpOf (T κ) κ vals)]) r H1/\
  dq H1 (abs h).length=some lp/\lp.state≠.busy/\abs h2=H1.set (abs h).length (.loop { lp with state:=.exhausted })/\holds (K lp.pending h2)
 pend:∀pd kn kr ks,holds (A.pend pd kn kr ks)->(pd=none/\holds kn)∨(pd=some .ret/\holds kr)∨∃id x,pd=some (.exit id)/\(id,x)∈ks/\holds x
 lp1:∀l h K,holds (A.lp1 l h K)->∃lp h',dq (abs h) l=some lp/\lp.state = .ready/\abs h'=(abs h).set l (.loop { lp with state:=.busy })/\holds (K h')
 lp2:∀l j h K,holds (A.lp2 l j h K)->∃lp h',dq (abs h) l=some lp/\abs h'=(abs h).set l (.loop { lp with state:=if j.isNone then .ready else .done,pending:=j })/\holds (K h')
def SV.ok(tmps:List Value)(i:Nat)(s:SV):Prop:=
 match s with
 | .no=>True
 |s=>tmps[i]?=some s.val/\s.gd
def LR.ok(loc:List (Option (List Value)))(i:Nat):LR->Prop
 | .unk=>True
 | .nil=>loc[i]?=some none
 | .any n=>∃vs,loc[i]?=some (some vs)/\vs.length=n
 | .row cs=>loc[i]?=some (some (cs.map SL.val))/\∀c∈cs,c.good
structure Rp(ev:Env)(σ:St):Prop where
 len:ev.tm.length=σ.tmps.length
 val:∀(i:Nat) s,ev.tm[i]?=some s->s.ok σ.tmps i
 llen:ev.lc.length=σ.loc.length
 row:∀(i:Nat) r,ev.lc[i]?=some r->r.ok σ.loc i
def SV.ok_gd{tmps:List Value}{i:Nat}{s:SV}(h:s.gd)(hv:tmps[i]?=some s.val):s.ok tmps i:=by
 cases s<;>first|trivial|exact⟨hv,h⟩
def Rp.at{ev:Env}{σ:St}(h:Rp ev σ){t:Nat}{s:SV}(hs:ev.tm.getD t .no=s)(hn:s≠.no):σ.tmps[t]?=some s.val/\s.gd:=by
 rw[List.getD_eq_getElem?_getD]at hs
 cases he:ev.tm[t]? with
 |none=>rw[he]at hs;exact absurd hs.symm hn
 |some x=>
  rw[he]at hs
  simp only[qbj]at hs
  subst hs
  have:=h.val t x he
  cases x<;>first|exact this|exact absurd rfl hn
def Rp.sval{ev:Env}{σ:St}(h:Rp ev σ){x:Operand}{s:SV}(hs:sval ev x=s)(hn:s≠.no):oval σ.tmps x=s.val/\s.gd:=by
 cases x with
 |tmp t=>
  obtain⟨h1,h2⟩:=h.at (t:=t) hs hn
  exact⟨by simp[oval,List.getD_eq_getElem?_getD,h1],h2⟩
 |const v=>
  simp only[Am.sval]at hs
  cases hv:s0Of v with
  |none=>rw[hv]at hs;exact absurd hs.symm hn
  |some x=>
   rw[hv]at hs
   subst hs
   obtain⟨h1,h2,h3⟩:=oN hv
   refine⟨?_,h2⟩
   have:flat v=true:=by cases v<;>first|exact h3|(simp[dR,scalar]at h3)
   simp[oval,this,SV.val,h1]
 |global g=>
  subst hs
  simp only[Am.sval,oval]
  cases hb:Nat.blt g gB with
  |true=>exact⟨rfl,trivial⟩
  |false=>exact absurd (by simp only[Am.sval,hb]) hn
 |func f=>
  subst hs
  refine⟨rfl,λl hl=>?_⟩
  simp only[S0.cells,qao]at hl
  subst hl
  rfl
def Rp.sval0{ev:Env}{σ:St}(h:Rp ev σ){x:Operand}{s:S0}(hs:sval0 ev x=some s):oval σ.tmps x=s.val/\s.good:=by
 unfold Am.sval0 at hs
 split at hs
 next y e=>
  cases hs
  exact h.sval e (by simp)
 ·cases hs
def Rp.svals{ev:Env}{σ:St}(h:Rp ev σ):∀ {l:List Operand} {xs:List S0},svals ev l=some xs->l.map (oval σ.tmps)=ae xs/\∀x∈xs,x.good
 | [],xs,hs=>by cases hs;exact⟨rfl,by simp⟩
 |o :: l,xs,hs=>by
  simp only[Am.svals]at hs
  split at hs
  next x ys e1 e2=>
   cases hs
   obtain⟨h1,h2⟩:=h.sval0 e1
   obtain⟨h3,h4⟩:=h.svals e2
   refine⟨by simp[ae,h1];exact h3,λy hy=>?_⟩
   rcases qaq.1 hy with rfl|hy
   ·exact h2
   ·exact h4 y hy
  ·cases hs
def Rp.put{ev:Env}{σ:St}(h:Rp ev σ)(d:Nat){s:SV}(hs:s.gd):Rp ⟨ev.tm.set d s,ev.lc⟩ (σ.put (some d) s.val):=by
 refine⟨by simp[St.put,h.len],λi x hx=>?_,h.llen,h.row⟩
 simp only[qaN]at hx
 split at hx
 next hi=>
  subst hi
  split at hx
  next hlt=>
   cases hx
   refine SV.ok_gd hs ?_
   simp only[St.put,List.getElem?_set_self']
   rw[qas (by rw[←h.len];exact hlt)]
   rfl
  ·cases hx
 next hi=>
  have:=h.val i x hx
  cases x<;>first|trivial|exact⟨by simp only[St.put];rw[qaB hi];exact this.1,this.2⟩
def Rp.heap{ev:Env}{σ:St}(h:Rp ev σ)(H:List HObj):Rp ev { σ with heap:=H }:=⟨h.len,h.val,h.llen,h.row⟩
structure Fr(ws ks rs:List Nat)(σ σ':St):Prop where
 tlen:σ'.tmps.length=σ.tmps.length
 llen:σ'.loc.length=σ.loc.length
 tm:∀(i:Nat) v,σ.tmps[i]?=some v->i∉ws->noLoc v=true->σ'.tmps[i]?=some v
 tp:∀(i s off:Nat),σ.tmps[i]?=some (.pointer (some ⟨s,off,some 0⟩))->i∉ws->s∉ks->σ'.tmps[i]?=some (.pointer (some ⟨s,off,some 0⟩))
 row:∀(s:Nat) x,σ.loc[s]?=some x->s∉rs->σ'.loc[s]?=some x
 rlen:∀(s:Nat) vs,σ.loc[s]?=some (some vs)->s∉ks->∃vs',σ'.loc[s]?=some (some vs')/\vs'.length=vs.length
def Fr.refl(ws ks rs:List Nat)(σ:St):Fr ws ks rs σ σ:=⟨rfl,rfl,λ_ _ h _ _=>h,λ_ _ _ h _ _=>h,λ_ _ h _=>h,λ_ vs h _=>⟨vs,h,rfl⟩⟩
def Fr.trans{ws ks rs:List Nat}{σ σ₁ σ':St}(h:Fr ws ks rs σ σ₁)(h':Fr ws ks rs σ₁ σ'):Fr ws ks rs σ σ':=
 ⟨h'.tlen.trans h.tlen,h'.llen.trans h.llen,λi v a b c=>h'.tm i v (h.tm i v a b c) b c,λi s off a b c=>h'.tp i s off (h.tp i s off a b c) b c,
  λs x a b=>h'.row s x (h.row s x a b) b,λs vs a b=>let ⟨v1,c1,d1⟩:=h.rlen s vs a b;let ⟨v2,c2,d2⟩:=h'.rlen s v1 c1 b;⟨v2,c2,d2.trans d1⟩⟩
def Fr.mono{ws ks rs ws' ks' rs':List Nat}{σ σ':St}(h:Fr ws ks rs σ σ')(h1:∀i∈ws,i∈ws')(h2:∀i∈ks,i∈ks')(h3:∀i∈rs,i∈rs'):Fr ws' ks' rs' σ σ':=
 ⟨h.tlen,h.llen,λi v a b c=>h.tm i v a (λhi=>b (h1 i hi)) c,λi s off a b c=>h.tp i s off a (λhi=>b (h1 i hi)) (λhi=>c (h2 s hi)),
  λs x a b=>h.row s x a (λhi=>b (h3 s hi)),λs vs a b=>h.rlen s vs a (λhi=>b (h2 s hi))⟩
def Fr.heap{ws ks rs:List Nat}{σ σ':St}(h:Fr ws ks rs σ σ')(H:List HObj):Fr ws ks rs σ { σ' with heap:=H }:=⟨h.tlen,h.llen,h.tm,h.tp,h.row,h.rlen⟩
def Fr.put{σ:St}(dst:Option Tmp)(v:Value)(ks rs:List Nat):Fr dst.toList ks rs σ (σ.put dst v):=by
 cases dst with
 |none=>exact .refl _ _ _ _
 |some d=>
  refine⟨by simp[St.put],rfl,λi x h hi _=>?_,λi s off h hi _=>?_,λ_ _ h _=>h,λ_ vs h _=>⟨vs,h,rfl⟩⟩<;>
  ·simp only[Option.toList_some,qao]at hi
   simp only[St.put]
   rw[qaB (λe=>hi e.symm)]
   exact h
end
inductive HO where
 |o (x:HObj)
 |lp (κ:Nat) (st:LoopState) (pd:Option Code) (vs:List Value)
abbrev HL:=List HO
inductive CK where
 |f (g:FuncId)
 |y (κ:Nat) (vs:List Value) (l:Nat)
def absO(T:Nat->Site):HO->HObj
 | .o x=>x
 | .lp κ st pd vs=>.loop { lpOf (T κ) κ vs with state:=st,pending:=pd }
def absH(T:Nat->Site)(h:HL):List HObj:=h.map (absO T)
namespace Sx
inductive HOT where
 |o (x:HObj)
 |lp (κ:Nat) (st:LoopState) (pd:Option Code) (vs:List Value)
 |t (n e:Nat) (rw:Bool) (c:Tr Value)
def nilV:Value:=.bool false
def bn(c:Tr Value)(n:Nat):List Value:=(List.range n).map λi=>(ba i).get nilV c
def HOT.ho:HOT->HO
 | .o x=>.o x
 | .lp κ st pd vs=>.lp κ st pd vs
 | .t n e rw c=>.o (.cells (bn c n) e rw)
structure HTr where
 n:Nat
 t:Tr HOT
def noO:HOT:=.o .dead
def HTr.empty:HTr:=⟨0,.leaf⟩
def HTr.at(h:HTr)(i:Nat):Option HOT:=match Nat.blt i h.n with
 |true=>some ((ba i).get noO h.t)
 |false=>none
def toL(h:HTr):HL:=(List.range h.n).map λi=>((ba i).get noO h.t).ho
def cr(h:HTr):(toL h).length=h.n:=by simp[toL]
def gJ(h:HTr)(i:Nat):(toL h)[i]?=(h.at i).map HOT.ho:=by
 unfold toL HTr.at
 rw[qaw]
 cases e:Nat.blt i h.n with
 |true=>
  rw[qaW]at e
  rw[qcD e];rfl
 |false=>
  have:h.n<=i:=by
   rcases qaE i h.n with h1|h1
   ·rw[←qaW,e]at h1;cases h1
   ·exact h1
  rw[qag (by simpa using this)];rfl
def HTr.put(h:HTr)(i:Nat)(o:HOT):HTr:=match Nat.blt i h.n with
 |true=>⟨h.n,(ba i).set noO h.t o⟩
 |false=>h
def HTr.push(h:HTr)(o:HOT):HTr:=⟨h.n+1,(ba h.n).set noO h.t o⟩
def fK(h:HTr)(i:Nat)(o:HOT):toL (h.put i o)=(toL h).set i o.ho:=by
 apply qaR
 intro j
 unfold HTr.put
 cases e:Nat.blt i h.n with
 |true=>
  rw[qaW]at e
  simp only
  rw[gJ]
  by_cases hj:i=j
  ·subst hj
   rw[qaO (by rw[cr];exact e)]
   unfold HTr.at
   simp only[(qaW▸e:Nat.blt i h.n=true)]
   rw[Pth.get_set];rfl
  ·rw[qaB hj,gJ]
   unfold HTr.at
   simp only
   rw[Pth.get_set_ne _ _ _ _ _ (λh=>hj (iU h).symm)]
 |false=>
  simp only
  have:h.n<=i:=by
   rcases qaE i h.n with h1|h1
   ·rw[←qaW,e]at h1;cases h1
   ·exact h1
  rw[List.set_eq_of_length_le (by rw[cr];exact this)]
def ee(h:HTr)(o:HOT):toL (h.push o)=toL h++[o.ho]:=by
 apply qaR
 intro j
 rw[gJ]
 unfold HTr.push HTr.at
 simp only
 by_cases h1:j<h.n
 ·rw[qah (by rw[cr];exact h1),gJ]
  unfold HTr.at
  have e1:Nat.blt j (h.n+1)=true:=by rw[qaW];omega
  have e2:Nat.blt j h.n=true:=by rw[qaW];omega
  simp only[e1,e2]
  rw[Pth.get_set_ne _ _ _ _ _ (λh=>by have:=iU h;omega)]
 ·rw[qam (by rw[cr];omega),cr]
  by_cases h2:j=h.n
  ·subst h2
   have e1:Nat.blt h.n (h.n+1)=true:=by rw[qaW];omega
   simp only[e1,qbx,qa1]
   rw[Pth.get_set];rfl
  ·have e1:Nat.blt j (h.n+1)=false:=by rw[←qa2,qaW];omega
   simp only[e1]
   rw[qag (by simp;omega)];rfl
def aK(c:Tr Value)(n:Nat):(bn c n).length=n:=by simp[bn]
def cT(c:Tr Value){n i:Nat}(h:i<n):(bn c n)[i]?=some ((ba i).get nilV c):=by
 unfold bn
 rw[qaw,qcD h];rfl
def insT:List Value->Nat->Tr Value->Tr Value
 | [],_,c=>c
 |v :: l,i,c=>insT l (i+1) ((ba i).set nilV c v)
def oh:∀(l:List Value) (i:Nat) (c:Tr Value) (j:Nat),(ba j).get nilV (insT l i c)=if i<=j/\j<i+l.length then l[j - i]?.getD nilV else(ba j).get nilV c
 | [],i,c,j=>by
  have h:¬(i<=j/\j<i+([]:List Value).length):=by intro h;have:=h.2;simp at this;omega
  rw[if_neg h];rfl
 |v :: l,i,c,j=>by
  show(ba j).get nilV (insT l (i+1) _)=_
  rw[oh l (i+1)]
  by_cases h:i+1<=j/\j<i+1+l.length
  ·rw[if_pos h,if_pos (by simp;omega)]
   have:j - i=(j - (i+1))+1:=by omega
   rw[this,qbX]
  ·rw[if_neg h]
   by_cases h2:j=i
   ·subst h2
    rw[Pth.get_set,if_pos (by simp)];simp
   ·rw[Pth.get_set_ne _ _ _ _ _ (λe=>h2 (iU e)),if_neg (by simp;omega)]
def mm{l:List Value}{i n:Nat}{c:Tr Value}(h:i+l.length<=n):bn (insT l i c) n=(bn c n).take i++l++(bn c n).drop (i+l.length):=by
 apply qaR
 intro j
 by_cases hj:j<n
 ·rw[cT _ hj,oh]
  by_cases h1:j<i
  ·rw[if_neg (by omega),qaH,qah (by rw[qa3,aK];omega),List.getElem?_take_of_lt h1,cT _ hj]
  ·have hl:((bn c n).take i).length=i:=by rw[qa3,aK];omega
   by_cases h2:j<i+l.length
   ·rw[if_pos ⟨by omega,h2⟩,qaH,qam (by omega),hl,qah (by omega)]
    rw[qas (by omega)];rfl
   ·rw[if_neg (by omega),qam (by rw[qaI,hl];omega),qaI,hl,qaX,show i+l.length+(j - (i+l.length))=j by omega,cT _ hj]
 ·rw[qag (by rw[aK];omega),qag (by simp[aK];omega)]
def kq{l:List Value}{n:Nat}{c:Tr Value}:bn (insT l n c) (n+l.length)=bn c n++l:=by
 apply qaR
 intro j
 by_cases hj:j<n+l.length
 ·rw[cT _ hj,oh]
  by_cases h1:j<n
  ·rw[if_neg (by omega),qah (by rw[aK];exact h1),cT _ h1]
  ·rw[if_pos ⟨by omega,hj⟩,qam (by rw[aK];omega),aK,qas (by omega)];rfl
 ·rw[qag (by rw[aK];omega),qag (by simp[aK];omega)]
def tB(l:List Value):bn (insT l 0 .leaf) l.length=l:=by
 have:=kq (l:=l) (n:=0) (c:=.leaf)
 simpa[bn]using this
def tX(c:Tr Value)(n:Nat):Nat->List Value:=Nat.rec (motive:=λ_=>Nat->List Value) (λ_=>[]) (λ_ ih off=>(ba off).get nilV c :: fN (Nat.succ off) ih) n
def ie(c:Tr Value):∀(n off m:Nat),off+n<=m->tX c n off=((bn c m).drop off).take n
 |0,_,_,_=>by rw[qaL];rfl
 |n+1,off,m,h=>by
  show(ba off).get nilV c :: tX c n (off+1)=_
  rw[ie c n (off+1) m (by omega)]
  have h1:off<(bn c m).length:=by rw[aK];omega
  rw[qbk h1,qax]
  congr 1
  have:=cT c (n:=m) (i:=off) (by omega)
  rw[qas h1]at this
  exact(qaj this).symm
section
variable {R:Type}
def putR{α:Type}(d:α)(p:Pth):Tr α->α->(Tr α->R)->R:=
 Pth.rec (motive:=λ_=>Tr α->α->(Tr α->R)->R)
  (λt x k=>Tr.casesOn t (k (.node x .leaf .leaf)) λ_ l r=>k (.node x l r))
  (λ_ ih t x k=>Tr.casesOn t (ih .leaf x λl=>k (.node d l .leaf)) λv l r=>ih l x λl=>k (.node v l r))
  (λ_ ih t x k=>Tr.casesOn t (ih .leaf x λr=>k (.node d .leaf r)) λv l r=>ih r x λr=>k (.node v l r)) p
def gD{α:Type}(d:α):∀(p:Pth) (t:Tr α) (x:α) (k:Tr α->R),putR d p t x k=k (p.set d t x)
 | .e,t,x,k=>by cases t<;>rfl
 | .o p,t,x,k=>by
  cases t with
  |leaf=>exact gD d p .leaf x _
  |node v l r=>exact gD d p l x _
 | .i p,t,x,k=>by
  cases t with
  |leaf=>exact gD d p .leaf x _
  |node v l r=>exact gD d p r x _
def putK(h:HTr)(i:Nat)(o:HOT)(k:HTr->R):R:=match Nat.blt i h.n with
 |true=>putR noO (ba i) h.t o λt=>k ⟨h.n,t⟩
 |false=>k h
def fE(h:HTr)(o:HOT)(k:HTr->R):R:=putR noO (ba h.n) h.t o λt=>fN (Nat.succ h.n) λn=>k ⟨n,t⟩
def fF(h:HTr)(i:Nat)(o:HOT)(k:HTr->R):putK h i o k=k (h.put i o):=by
 unfold putK HTr.put
 split
 next e=>rw[gD]
 ·rfl
def dZ(h:HTr)(o:HOT)(k:HTr->R):fE h o k=k (h.push o):=by
 unfold fE HTr.push
 rw[gD,dn]
def sJ{α:Type}(l:List α):(List α->R)->R:=
 List.rec (motive:=λ_=>(List α->R)->R) (λk=>k []) (λx _ ih k=>ih λl=>k (x :: l)) l
def lu{α:Type}:∀(l:List α) (k:List α->R),sJ l k=k l
 | [],_=>rfl
 |x :: l,k=>lu l λl=>k (x :: l)
def sK(v:Value)(k:Value->R):R:=match v with
 | .int kd n=>fI n λn=>k (.int kd n)
 | .bool b=>Bool.rec (k (.bool false)) (k (.bool true)) b
 |v=>k v
def plainV_eq(v:Value)(k:Value->R):sK v k=k v:=by
 unfold sK
 split
 ·exact gS _ _
 next b=>cases b<;>rfl
 ·rfl
def insK(l:List Value):Nat->Tr Value->(Tr Value->R)->R:=
 List.rec (motive:=λ_=>Nat->Tr Value->(Tr Value->R)->R) (λ_ c k=>k c) (λv _ ih i c k=>sK v λv=>putR nilV (ba i) c v λc=>fN (Nat.succ i) λi=>ih i c k) l
def kQ:∀(l:List Value) (i:Nat) (c:Tr Value) (k:Tr Value->R),insK l i c k=k (insT l i c)
 | [],_,_,_=>rfl
 |v :: l,i,c,k=>by
  show(sK v λv=>putR nilV (ba i) c v λc=>fN (Nat.succ i) λi=>insK l i c k)=_
  rw[plainV_eq,gD,dn,kQ l];rfl
def ma(o:HObj)(k:HOT->R):R:=match o with
 | .cells vs e rw=>fN vs.length λn=>insK vs 0 .leaf λc=>k (.t n e rw c)
 | .map es c=>sJ es λes=>fN c λc=>k (.o (.map es c))
 |o=>k (.o o)
def fS{o:HObj}{k:HOT->R}:∃x:HOT,x.ho = .o o/\ma o k=k x:=by
 cases o with
 |cells vs e rw=>
  refine⟨.t vs.length e rw (insT vs 0 .leaf),by simp only[HOT.ho,tB],?_⟩
  show(fN vs.length λn=>insK vs 0 .leaf λc=>k (.t n e rw c))=_
  rw[dn,kQ]
 |map es c=>
  refine⟨.o (.map es c),rfl,?_⟩
  show(sJ es λes=>fN c λc=>k (.o (.map es c)))=_
  rw[lu,dn]
 |_=>exact⟨.o _,rfl,rfl⟩
def oE(l:List Lf):(List Lf->R)->R:=
 List.rec (motive:=λ_=>(List Lf->R)->R) (λk=>k []) (λx _ ih k=>match x with
  | .i n=>fI n λn=>ih λl=>k (.i n :: l)
  | .b t=>Bool.rec (ih λl=>k (.b false :: l)) (ih λl=>k (.b true :: l)) t
  | .v v=>ih λl=>k (.v v :: l)) l
def dB:∀(l:List Lf) (k:List Lf->R),oE l k=k l
 | [],_=>rfl
 | .i n :: l,k=>(gS n λn=>oE l λl=>k (.i n :: l)).trans (dB l _)
 | .b true :: l,k=>dB l λl=>k (.b true :: l)
 | .b false :: l,k=>dB l λl=>k (.b false :: l)
 | .v v :: l,k=>dB l λl=>k (.v v :: l)
end
end Sx
section
open Sx
abbrev RT:=Option (List Lf)
abbrev yes:RT:=some []
def ans(b:Bool):RT:=match b with|true=>yes|false=>none
abbrev ac:=CK->List Lf->HTr->(List Lf->HTr->RT)->RT
def Act1.onH(h:HL):Act1->HL
 | .set i o=>h.set i (.o o)
 | .push o=>h++[.o o]
def bZ(h:HL)(l:List Act1):HL:=l.foldl Act1.onH h
def getH(T:Nat->Site)(h:HL):bp:=λi=>match h[i]? with
 |some x=>some (absO T x)
 |none=>none
def getT(T:Nat->Site)(h:HTr):bp:=λi=>match h.at i with
 |some x=>some (absO T x.ho)
 |none=>none
def tu(l:List Act1):HTr->(HTr->RT)->RT:=
 List.rec (motive:=λ_=>HTr->(HTr->RT)->RT) (λh k=>k h) (λa _ ih h k=>match a with
  | .set i o=>ma o λo=>putK h i o λh=>ih h k
  | .push o=>ma o λo=>fE h o λh=>ih h k) l
def condB(b:Bool)(x y:RT):RT:=Bool.rec y x b
def outG(k:IntKind)(c:Int)(K:Int->RT):RT:=Bool.rec (fI (k.wrap c) K) (K c) (fits k c)
def out64(c:Int)(K:Int->RT):RT:=@Bool.rec (λ_=>RT) (fI (IntKind.wrap .i64 c) K) (K c) (@Int.rec (λ_=>Bool) (λn=>Nat.ble n 9223372036854775807) (λn=>Nat.ble n 9223372036854775807) c)
def outU8(c:Int)(K:Int->RT):RT:=@Bool.rec (λ_=>RT) (fI (IntKind.wrap .u8 c) K) (K c) (@Int.rec (λ_=>Bool) (λn=>Nat.ble n 255) (λ_=>false) c)
def outK(k:IntKind)(c:Int)(K:Int->RT):RT:=@IntKind.rec (λ_=>RT) (outG .i8 c K) (outG .i16 c K) (outG .i32 c K) (out64 c K) (outU8 c K) (outG .u16 c K) (outG .u32 c K) (outG .u64 c K) k
def addK(a b:Int)(K:Int->RT):RT:=
 Int.rec (λm=>Int.rec (λn=>fN (Nat.add m n) λc=>K (.ofNat c)) (λn=>Bool.rec (fN (Nat.sub n m) λc=>K (.negSucc c)) (fN (Nat.sub m (Nat.succ n)) λc=>K (.ofNat c)) (Nat.blt n m)) b)
  (λm=>Int.rec (λn=>Bool.rec (fN (Nat.sub m n) λc=>K (.negSucc c)) (fN (Nat.sub n (Nat.succ m)) λc=>K (.ofNat c)) (Nat.blt m n)) (λn=>fN (Nat.succ (Nat.add m n)) λc=>K (.negSucc c)) b) a
def subK(a b:Int)(K:Int->RT):RT:=
 Int.rec (λm=>Int.rec (λn=>Bool.rec (fN (Nat.sub n (Nat.succ m)) λc=>K (.negSucc c)) (fN (Nat.sub m n) λc=>K (.ofNat c)) (Nat.ble n m)) (λn=>fN (Nat.succ (Nat.add m n)) λc=>K (.ofNat c)) b)
  (λm=>Int.rec (λn=>fN (Nat.add m n) λc=>K (.negSucc c)) (λn=>Bool.rec (fN (Nat.sub m (Nat.succ n)) λc=>K (.negSucc c)) (fN (Nat.sub n m) λc=>K (.ofNat c)) (Nat.ble m n)) b) a
def mulK(a b:Int)(K:Int->RT):RT:=
 Int.rec (λm=>Int.rec (λn=>fN (Nat.mul m n) λc=>K (.ofNat c)) (λn=>Nat.rec (K (.ofNat 0)) (λm' _=>fN (Nat.add (Nat.mul m n) m') λc=>K (.negSucc c)) m) b)
  (λm=>Int.rec (λn=>Nat.rec (K (.ofNat 0)) (λn' _=>fN (Nat.add (Nat.mul m n) n') λc=>K (.negSucc c)) n) (λn=>fN (Nat.mul (Nat.succ m) (Nat.succ n)) λc=>K (.ofNat c)) b) a
def quoK(a b:Int)(K:Int->RT):RT:=
 Int.rec (λm=>Int.rec (λn=>fN (Nat.div m n) λc=>K (.ofNat c)) (λ_=>fI (Int.tdiv a b) K) b) (λ_=>fI (Int.tdiv a b) K) a
def remK(a b:Int)(K:Int->RT):RT:=
 Int.rec (λm=>Int.rec (λn=>fN (Nat.mod m n) λc=>K (.ofNat c)) (λ_=>fI (Int.tmod a b) K) b) (λ_=>fI (Int.tmod a b) K) a
def isZ(b:Int):Bool:=Int.rec (λn=>Nat.beq n 0) (λ_=>false) b
def ariB(op:BinOp)(k:IntKind)(a b:Int)(K:Int->RT):RT:=
 match op with
 | .add=>addK a b λc=>outK k c K
 | .sub=>subK a b λc=>outK k c K
 | .mul=>mulK a b λc=>outK k c K
 | .quo=>Bool.rec (quoK a b λc=>outK k c K) none (isZ b)
 | .rem=>Bool.rec (remK a b K) none (isZ b)
 | .and=>match eqI b 1 with
  |true=>fI (Int.emod a 2) K
  |false=>match a,b with
   | .ofNat m,.ofNat n=>fI (.ofNat (Nat.land m n)) λc=>outK k c K
   |_,_=>none
 | .xor=>match a,b with
  | .ofNat m,.ofNat n=>fI (.ofNat (Nat.xor m n)) λc=>outK k c K
  |_,_=>none
 | .or=>match a,b with
  | .ofNat m,.ofNat n=>fI (.ofNat (Nat.lor m n)) λc=>outK k c K
  |_,_=>none
 |_=>none
def eqZK(a b:Int):Bool:=Int.rec (λm=>Int.rec (λn=>Nat.beq m n) (λ_=>false) b) (λm=>Int.rec (λ_=>false) (λn=>Nat.beq m n) b) a
def notK(b:Bool):Bool:=Bool.rec true false b
def cmpB(op:BinOp)(a b:Int)(K:Bool->RT):RT:=
 match op with
 | .eql=>K (eqZK a b)
 | .neq=>K (notK (eqZK a b))
 | .lss=>K (notK (leZ b a))
 | .leq=>K (leZ a b)
 | .gtr=>K (notK (leZ a b))
 | .geq=>K (leZ b a)
 |_=>none
def eqBK(a b:Bool):Bool:=Bool.rec (notK b) b a
def eqLf(x y:Lf):Bool:=Lf.rec (λa=>Lf.rec (λb=>eqZK a b) (λ_=>false) (λ_=>false) y) (λa=>Lf.rec (λ_=>false) (λb=>eqBK a b) (λ_=>false) y) (λ_=>false) x
def eqsV(l:List (Lf×Lf)):Bool:=List.rec true (λp _ ih=>Bool.rec false ih (eqLf p.1 p.2)) l
def eqsB(l:List (Lf×Lf))(K:Bool->RT):RT:=K (eqsV l)
def convB(k:IntKind)(a:Int)(K:Int->RT):RT:=outK k a K
def selB(t:Bool)(a b:Int)(K:Int->RT):RT:=Bool.rec (K b) (K a) t
def optB{α:Type}(o:Option α)(K:α->RT):RT:=Option.rec none K o
def unIB(ls:List Lf)(K:Int->List Lf->RT):RT:=List.rec none (λx r _=>Lf.rec (λn=>K n r) (λ_=>none) (λ_=>none) x) ls
def unBB(ls:List Lf)(K:Bool->List Lf->RT):RT:=List.rec none (λx r _=>Lf.rec (λ_=>none) (λn=>K n r) (λ_=>none) x) ls
def unVB(ls:List Lf)(K:Value->List Lf->RT):RT:=List.rec none (λx r _=>Lf.rec (λ_=>none) (λ_=>none) (λn=>K n r) x) ls
def un0B(ls:List Lf)(K:RT):RT:=List.rec K (λ_ _ _=>none) ls
def ucIB(k:IntKind)(ls:List Value)(K:Int->List Value->RT):RT:=match ls with | .int k' n :: r=>(match di k k' with|true=>K n r|false=>none)|_=>none
def ucBB(ls:List Value)(K:Bool->List Value->RT):RT:=match ls with | .bool n :: r=>K n r|_=>none
def ucVB(ls:List Value)(K:Value->List Value->RT):RT:=match ls with|n :: r=>K n r|_=>none
def uc0B(ls:List Value)(K:RT):RT:=match ls with | []=>K|_=>none
def spot0(s:Option Nat):Bool:=match s with
 |none=>true
 |some k=>match k with
  |0=>false
  |_=>true
def goodF(v:Value):Bool:=match v with
 | .pointer (some a)=>spot0 a.spot
 | .slice (some a) _ _=>spot0 a.spot
 |v=>aV v
def chkB(v:Value)(K:RT):RT:=match goodF v with|true=>K|false=>none
def lenR{α:Type}(l:List α):Nat:=List.rec 0 (λ_ _ n=>Nat.succ n) l
def ldB(n:Nat)(p:Value)(h:HTr)(K:List Value->RT):RT:=match p with
 | .pointer (some a)=>match a.spot with
  |none=>match h.at a.block with
   |some (.t m _ _ c)=>match Nat.ble (Nat.add a.off n) m with
    |true=>K (tX c n a.off)
    |false=>none
   |_=>none
  |some _=>none
 |_=>none
def lgB(C:Cfg)(n:Nat)(p:Value)(h:HTr)(K:List Value->RT):RT:=match p with
 | .pointer (some a)=>match a.spot with
  |none=>match h.at a.block with
   |some (.t m _ _ c)=>match Nat.ble (Nat.add a.off n) m with
    |true=>K (tX c n a.off)
    |false=>none
   |_=>none
  |some k=>match Nat.beq k 1 with
   |true=>match C.G a.block with
    |some vs=>match cutL vs a.off n with
     |some cs=>K cs
     |none=>none
    |none=>none
   |false=>none
 |_=>none
def peekB(T:Nat->Site)(f:Pk)(h:HTr)(K:List Value->RT):RT:=match f with
 | .ld n p=>ldB n p h K
 | .lg C n p=>lgB C n p h K
 | .fn f=>match f (getT T h)with|some x=>K x|none=>none
def stB(p:Value)(new:List Value)(h:HTr)(K:List Value->HTr->RT):RT:=match p with
 | .pointer (some a)=>match a.spot with
  |none=>match h.at a.block with
   |some (.t m e true c)=>match Nat.ble (Nat.add a.off (lenR new)) m with
    |true=>insK new a.off c λc=>putK h a.block (.t m e true c) λh=>K [] h
    |false=>none
   |_=>none
  |some _=>none
 |_=>none
def tagB(s:Option Nat)(esz:Nat):Bool:=match s with
 |none=>false
 |some k=>Nat.beq k (Nat.add esz 10)
def slB(C:Cfg)(T:Nat->Site)(esz:Nat)(x:Value)(h:HTr)(K:List Value->Nat->RT):RT:=match x with
 | .slice (some a) len _=>match tagB a.spot esz with
  |true=>match h.at a.block with
   |some (.t m e _ c)=>match Nat.beq e esz,Nat.ble (Nat.add a.off (Nat.mul len esz)) m with
    |true,true=>K (tX c (Nat.mul len esz) a.off) len
    |_,_=>none
   |_=>none
  |false=>match slG C esz (getT T h) x with
   |some p=>K p.1 p.2
   |none=>none
 |x=>match slG C esz (getT T h) x with
  |some p=>K p.1 p.2
  |none=>none
def growB(c:Tr Value)(m off w esz:Nat)(new:List Value)(k:HOT->RT):RT:=match Nat.beq off 0,Nat.beq w m with
 |true,true=>insK new m c λc=>fN (Nat.add m (lenR new)) λm=>k (.t m esz true c)
 |_,_=>ma (.cells (tX c w off++new) esz true) k
def apB(T:Nat->Site)(C:Cfg)(esz bytes:Nat)(s x:Value)(h:HTr)(K:List Value->HTr->RT):RT:=
 slB C T esz x h λnew n=>match s with
  | .slice none 0 0=>match n with
   |0=>K [.slice none 0 0] h
   |n+1=>match cb (n+1) bytes with
    |true=>ma (.cells new esz true) λo=>fE h o λh'=>fN (n+1) λn=>K [.slice (some ⟨h.n,0,tag esz⟩) n 0] h'
    |false=>none
  | .slice (some a) len cx=>match tagB a.spot esz with
   |false=>none
   |true=>match h.at a.block with
    |some (.t m e rw c)=>match Nat.beq e esz,Nat.ble (Nat.add a.off (Nat.mul len esz)) m with
     |true,true=>match cx with
      |0=>match n with
       |0=>K [.slice (some a) len 0] h
       |n+1=>match rw,cb (len+(n+1)) bytes with
        |true,true=>growB c m a.off (Nat.mul len esz) esz new λo=>putK h a.block (.o .dead) λh'=>fE h' o λh''=>fN (len+(n+1)) λl=>K [.slice (some ⟨h.n,0,tag esz⟩) l 0] h''
        |_,_=>none
      |cap+1=>match Nat.ble (len+n) cap with
       |true=>match rw,Nat.ble (Nat.add (Nat.add a.off (Nat.mul len esz)) (lenR new)) m with
        |true,true=>insK new (Nat.add a.off (Nat.mul len esz)) c λc=>putK h a.block (.t m e true c) λh'=>fN (len+n) λl=>K [.slice (some a) l (cap+1)] h'
        |_,_=>none
       |false=>match cb (len+n) bytes with
        |true=>growB c m a.off (Nat.mul len esz) esz new λo=>fE h o λh'=>fN (len+n) λl=>K [.slice (some ⟨h.n,0,tag esz⟩) l 0] h'
        |false=>none
     |_,_=>none
    |_=>none
  |_=>none
def heapB(T:Nat->Site)(f:Hp)(h:HTr)(K:List Value->HTr->RT):RT:=match f with
 | .st p new=>stB p new h K
 | .ap C esz bytes s x=>apB T C esz bytes s x h K
 | .fn f=>match f (getT T h) h.n with|some p=>sJ p.2 λcs=>tu p.1 h λh=>K cs h|none=>none
def newB(o:HObj)(h:HTr)(K:Nat->HTr->RT):RT:=ma o λo=>fE h o λh'=>K h.n h'
def toSL(k:LK)(v:Value):Option SL:=
 match k with
 | .i k=>match v with
  | .int k' n=>match di k' k with
   |true=>some (.i k' n)
   |false=>none
  |_=>none
 | .b=>match v with
  | .bool t=>some (.b t)
  |_=>none
 | .v=>match aV v with
  |true=>some (.v v)
  |false=>none
def toSLs:List LK->List Value->Option (List SL)
 | [],[]=>some []
 |k :: ks,v :: vs=>match toSL k v with
  |some x=>match toSLs ks vs with
   |some xs=>some (x :: xs)
   |none=>none
  |none=>none
 |_,_=>none
def toS0(sk:SK)(v:Value):Option S0:=
 match sk with
 | .leaf k=>(toSL k v).map .leaf
 | .agg ks=>match v with
  | .agg cs=>(toSLs ks cs.toList).map .agg
  |_=>none
def toS0s:List SK->List Value->Option (List S0)
 | [],[]=>some []
 |k :: ks,v :: vs=>match toS0 k v with
  |some x=>match toS0s ks vs with
   |some xs=>some (x :: xs)
   |none=>none
  |none=>none
 |_,_=>none
def eqLK:LK->LK->Bool
 | .i a,.i b=>di a b
 | .b,.b=>true
 | .v,.v=>true
 |_,_=>false
def eqLKs:List LK->List LK->Bool
 | [],[]=>true
 |a :: l,b :: m=>eqLK a b&&eqLKs l m
 |_,_=>false
def eqSK:SK->SK->Bool
 | .leaf a,.leaf b=>eqLK a b
 | .agg a,.agg b=>eqLKs a b
 |_,_=>false
def eqSKs:List SK->List SK->Bool
 | [],[]=>true
 |a :: l,b :: m=>eqSK a b&&eqSKs l m
 |_,_=>false
def jm(ls:List Lf):Bool:=List.rec true (λl _ ih=>match l with
 | .v x=>(match goodF x with
  |true=>ih
  |false=>false)
 |_=>ih) ls
section
variable (Sg:FuncId->Option Sig) (T:Nat->Site) (call:ac)
def callB(g:FuncId)(ls:List Lf)(h:HTr)(K:List Lf->HTr->RT):RT:=match jm ls with|true=>call (.f g) ls h K|false=>none
def jI(g:FuncId)(hs:Option (List SK))(vals:List Value)(h:HTr)(K:List Lf->HTr->RT):RT:=
 match Sg g with
 |none=>none
 |some sg=>match (match hs with|none=>true|some hs=>eqSKs sg.rs hs)with
  |false=>none
  |true=>match toS0s sg.ps vals with
   |none=>none
   |some xs=>callB call g (bC xs) h K
def callvB(v:Value)(args:List Value)(hs:List SK)(h:HTr)(K:List Lf->HTr->RT):RT:=
 match v with
 | .func fn first cap=>match fn with
  | .func g=>jI Sg call g (some hs) (first.toList++args++cap.toList) h K
  | .yield l=>match first.toList,cap.toList with
   | [],[]=>match h.at l with
    |some (.lp κ _ _ vs)=>match eqSKs [.leaf .b] hs with
     |false=>none
     |true=>match toS0s ((T κ).params.map (·.2)) args with
      |none=>none
      |some xs=>match jm (bC xs)with
       |true=>call (.y κ vs l) (bC xs) h K
       |false=>none
    |_=>none
   |_,_=>none
  |_=>none
 |_=>none
def rfunB(κ:Nat)(v:Value)(vals:List Value)(h:HTr)(K:Option Code->HTr->RT):RT:=
 match v with
 | .func fn first cap=>match fn with
  | .func g=>fE h (.lp κ .ready none vals) λh0=>jI Sg call g none (first.toList++[.func (.yield h.n) #[] #[]]++cap.toList) h0 λ_ h1=>match h1.at h.n with
   |some (.lp κ' st pd vs)=>match st with
    | .busy=>none
    |_=>putK h1 h.n (.lp κ' .exhausted pd vs) λh2=>K pd h2
   |_=>none
  |_=>none
 |_=>none
def pendB(pd:Option Code)(kn kr:RT)(ks:List (Nat×RT)):RT:=
 match pd with
 |none=>kn
 |some c=>match c with
  | .ret=>kr
  | .exit id=>List.rec none (λp _ ih=>match Nat.beq p.1 id with|true=>p.2|false=>ih) ks
  |_=>none
def lp1B(l:Nat)(h:HTr)(K:HTr->RT):RT:=
 match h.at l with
 |some (.lp κ st pd vs)=>match st with
  | .ready=>putK h l (.lp κ .busy pd vs) K
  |_=>none
 |_=>none
def lp2B(l:Nat)(j:Option Code)(h:HTr)(K:HTr->RT):RT:=
 match h.at l with
 |some (.lp κ _ _ vs)=>match j with
  |none=>putK h l (.lp κ .ready none vs) K
  |some c=>putK h l (.lp κ .done (some c) vs) K
 |_=>none
end
def loopB(F:(List Lf->HTr->RT)->List Lf->HTr->RT)(ls:List Lf)(h:HTr):RT:=
 Nat.rec (motive:=λ_=>List Lf->HTr->RT) (λ_ _=>none) (λ_ ih ls h=>F ih ls h) 1000000 ls h
def joinB(b:List Lf->HTr->RT)(m:(List Lf->HTr->RT)->RT):RT:=m b
def shfB(op:BinOp)(k:IntKind)(a:Int)(_:IntKind)(b:Int)(K:Int->RT):RT:=match leZ 0 b with
 |true=>match op with
  | .shl=>fI (k.wrap (a*2 ^ min b.toNat k.bits)) K
  | .shr=>fI (a.fdiv (2 ^ min b.toNat k.bits)) K
  |_=>none
 |false=>none
def BA(Sg:FuncId->Option Sig)(T:Nat->Site)(call:ac):Alg RT HTr where
 fail:=none
 cond:=condB
 ari:=ariB
 shf:=shfB
 cmp:=cmpB
 eqs:=eqsB
 conv:=convB
 sel:=selB
 opt:=optB
 chk:=chkB
 unI:=unIB
 unB:=unBB
 unV:=unVB
 un0:=un0B
 ucI:=ucIB
 ucB:=ucBB
 ucV:=ucVB
 uc0:=uc0B
 peek:=peekB T
 heap:=heapB T
 new:=newB
 call:=callB call
 callv:=callvB Sg T call
 join:=joinB
 loop:=loopB
 rfun:=rfunB Sg call
 pend:=pendB
 lp1:=lp1B
 lp2:=lp2B
end
namespace Sx
section
variable [Val] [Kno]
def wAt(pts:List Nat)(tm:List Value)(o:Oper):List Nat:=(wOps pts o).flatMap λx=>adr (oval tm x)
def fAt(pts:List Nat)(tm:List Value)(o:Oper):List Nat:=(cu pts o).1.flatMap λx=>adrK (cu pts o).2 (oval tm x)
def dstIn(pts:List Nat)(tm:List Value)(o:Oper):Prop:=∀d,o.dst=some d->hCls pts o=2->∃v,tm[d]?=some v
def SepAt(pts:List Nat)(ops:Array Oper)(tm:List Value)(ps:List (Nat×Nat)):Prop:=
 ∀p∈ps,∃a b,ops[p.1]?=some a/\ops[p.2]?=some b/\(∀x∈wAt pts tm a,x∉fAt pts tm b)/\(∀x∈wAt pts tm a,x∉wAt pts tm b)/\(∀x∈wAt pts tm b,x∉fAt pts tm a)/\dstIn pts tm a/\dstIn pts tm b
def SameAt(ops:Array Oper)(k:Nat)(σ σ':St):Prop:=∃o d x,ops[k]?=some o/\o.dst=some d/\σ.tmps[d]?=some x/\σ'.tmps[d]?=some x
def DrOk(C:Cfg)(dr:Dr):Prop:=∀pts ops ps,dr pts ops=some ps->match splOf ps with
 |none=>∀(n:Nat) (σ σ':St),aP C (sm C n).toBelow pts ops (List.range ops.size) σ σ'->SepAt pts ops σ'.tmps ps->dU C (sm C n).toBelow pts ops σ σ'
 |some p=>∀(n:Nat) (σ σ₁ σ₂ σ':St),aP C (sm C n).toBelow pts ops (List.range' 0 (ops.toList.take (p.2+1)).length) σ σ₁->af C (sm C n).toBelow pts ops p.1 σ₁ σ₂->SameAt ops p.1 σ₁ σ₂->
   aP C (sm C n).toBelow pts ops (List.range' (p.2+1) (ops.toList.drop (p.2+1)).length) σ₁ σ'->dU C (sm C n).toBelow pts ops σ σ'
def sz{x:Nat}:∀ {l:List Nat},memN x l=true↔x∈l
 | []=>by simp[memN]
 |y :: l=>by
  unfold memN
  cases h:Nat.beq x y with
  |true=>simp[qab h]
  |false=>
   have:x≠y:=λe=>by subst e;rw[show Nat.beq x x=true from qb5 x]at h;cases h
   simp only[qaq,this,false_or]
   exact sz
def rX:∀ {l m:List Nat},lX l m=true->∀x∈l,x∉m
 | [],_,_,_,h=>by cases h
 |y :: l,m,h,x,hx=>by
  unfold lX at h
  cases hm:memN y m with
  |true=>rw[hm]at h;cases h
  |false=>
   rw[hm]at h
   rcases qaq.1 hx with rfl|hx
   ·intro e;rw[sz.2 e]at hm;cases hm
   ·exact rX h x hx
def sepL_ok:∀ {l:List (Value×Nat×Value)} {u:Unit},sepL l=some u->∀p∈l,∀r∈adr p.1,r∉adrK p.2.1 p.2.2
 | [],_,_,_,h=>by cases h
 |q :: l,u,h,p,hp=>by
  unfold sepL at h
  split at h
  next hd=>
   rcases qaq.1 hp with rfl|hp
   ·exact rX hd
   ·exact sepL_ok h p hp
  ·cases h
def entV_ok{ev:Env}{σ:St}(hR:Rp ev σ){x:Operand}{us:List Value}(h:entV (sval ev x)=some us)(k r:Nat)(hr:r∈adrK k (oval σ.tmps x)):∃u∈us,r∈adrK k u:=by
 have hn:sval ev x≠.no:=λe=>by rw[e]at h;cases h
 have hv:=(hR.sval rfl hn).1
 rw[hv]at hr
 generalize sval ev x=s at *
 have none:adrK k s.val=[]->∃u∈us,r∈adrK k u:=λe=>by rw[e]at hr;cases hr
 cases s with
 |st y=>
  cases y with
  |leaf l=>
   cases l with
   |v u=>
    cases h
    exact⟨u,by simp,hr⟩
   |_=>exact none (by cases k with|zero=>rfl|succ k=>cases k<;>rfl)
  |agg cs=>exact none (by cases k with|zero=>rfl|succ k=>cases k<;>rfl)
 |no=>exact absurd rfl hn
 |_=>exact none (by cases k with|zero=>rfl|succ k=>cases k<;>rfl)
def eJ{ev:Env}{σ:St}(hR:Rp ev σ):∀ {l:List Operand} {us:List Value},nQ ev l=some us->∀(k r:Nat),r∈l.flatMap (λx=>adrK k (oval σ.tmps x))->∃u∈us,r∈adrK k u
 | [],_,_,_,_,h=>by cases h
 |x :: l,us,h,k,r,hr=>by
  unfold nQ at h
  split at h
  next a b ha hb=>
   cases h
   rw[qbp,qaA]at hr
   rcases hr with hr|hr
   ·obtain⟨u,h1,h2⟩:=entV_ok hR ha k r hr
    exact⟨u,qay _ h1,h2⟩
   ·obtain⟨u,h1,h2⟩:=eJ hR hb k r hr
    exact⟨u,qaC _ h1,h2⟩
  ·cases h
def kC{ev:Env}{σ:St}(hR:Rp ev σ){d:Nat}:∀ {l:List Operand} {us:List Value},nQ ev l=some us->Operand.tmp d∈l->∃v,σ.tmps[d]?=some v
 |x :: l,us,h,hm=>by
  unfold nQ at h
  split at h
  next a b ha hb=>
   rcases qaq.1 hm with rfl|hm
   ·have hn:sval ev (.tmp d)≠.no:=λe=>by rw[e]at ha;cases ha
    exact⟨_,(hR.at (s:=ev.tm.getD d .no) rfl hn).1⟩
   ·exact kC hR hb hm
  ·cases h
def oW{pts:List Nat}{o:Oper}{d:Nat}(hd:o.dst=some d)(h:hCls pts o=2):Operand.tmp d∈wOps pts o:=by
 unfold wOps
 rw[h,hd]
 simp
def ky{us vs:List Value}{k:Nat}{u v:Value}(hu:u∈us)(hv:v∈vs):(u,k,v)∈cross us k vs:=by
 unfold cross
 exact qbP.2 ⟨u,hu,qaK.2 ⟨v,hv,rfl⟩⟩
def sepOne_ok{pts:List Nat}{ev:Env}{σ:St}(hR:Rp ev σ){a b:Oper}{l:List (Value×Nat×Value)}(h:sepOne pts ev a b=some l)(hs:∀p∈l,∀r∈adr p.1,r∉adrK p.2.1 p.2.2) :
  (∀x∈wAt pts σ.tmps a,x∉fAt pts σ.tmps b)/\(∀x∈wAt pts σ.tmps a,x∉wAt pts σ.tmps b)/\(∀x∈wAt pts σ.tmps b,x∉fAt pts σ.tmps a)/\dstIn pts σ.tmps a/\dstIn pts σ.tmps b:=by
 unfold sepOne at h
 split at h
 next wa wb fa fb h1 h2 h3 h4=>
  cases h
  refine⟨λx hx hy=>?_,λx hx hy=>?_,λx hx hy=>?_,λd hd hc=>kC hR h1 (oW hd hc),λd hd hc=>kC hR h2 (oW hd hc)⟩
  ·obtain⟨u,u1,u2⟩:=eJ hR h1 0 x hx
   obtain⟨v,v1,v2⟩:=eJ hR h4 _ x hy
   exact hs (u,_,v) (qay _ (qay _ (ky u1 v1))) x u2 v2
  ·obtain⟨u,u1,u2⟩:=eJ hR h1 0 x hx
   obtain⟨v,v1,v2⟩:=eJ hR h2 0 x hy
   exact hs (u,0,v) (qay _ (qaC _ (ky u1 v1))) x u2 v2
  ·obtain⟨u,u1,u2⟩:=eJ hR h2 0 x hx
   obtain⟨v,v1,v2⟩:=eJ hR h3 _ x hy
   exact hs (u,_,v) (qaC _ (ky u1 v1)) x u2 v2
 ·cases h
def nj{pts:List Nat}{ops:Array Oper}{ev:Env}{σ:St}(hR:Rp ev σ):∀ {ps:List (Nat×Nat)} {l:List (Value×Nat×Value)},oP pts ops ev ps=some l->(∀p∈l,∀r∈adr p.1,r∉adrK p.2.1 p.2.2)->SepAt pts ops σ.tmps ps
 | [],_,_,_,_,h=>by cases h
 |q :: ps,l,h,hs,p,hp=>by
  unfold oP at h
  split at h
  next a b r ha hb hr=>
   obtain⟨x,hx,rfl⟩:=qac.1 h
   rcases qaq.1 hp with rfl|hp
   ·exact⟨a,b,ha,hb,sepOne_ok hR hx λp hp=>hs p (qay _ hp)⟩
   ·exact nj hR hr (λp hp=>hs p (qaC _ hp)) p hp
  ·cases h
def eqFn_ok{x y:Value}{u:Unit}(h:eqFn x y=some u):x=y:=by
 unfold eqFn at h
 split at h
 ·split at h
  ·split at h
   next l a b _ m c d e1 e2 e3 e4 e5=>
    have e1:=qab e1
    have f:∀ {a:Array Value},a.toList=[]->a = #[]:=λh=>qaS.1 h
    rw[e1,f e2,f e3,f e4,f e5]
   ·cases h
  ·cases h
 ·cases h
def entF_ok{ev:Env}{σ:St}(hR:Rp ev σ){d:Nat}{x:Value}(h:entF (ev.tm.getD d .no)=some x):σ.tmps[d]?=some x:=by
 unfold entF at h
 split at h
 next y hy=>
  cases h
  exact(hR.at hy (by simp)).1
 ·cases h
def sepK_ok{R HT:Type}{A:Alg R HT}{C:Cfg}{Sg:FuncId->Option Sig}{T:Nat->Site}{holds:R->Prop}{abs:HT->List HObj}(hA:AlgOk A C Sg T holds abs){pts:List Nat}{ops:Array Oper}{ps:List (Nat×Nat)}{kn:KN R HT}{ev:Env}{σ:St}(hR:Rp ev σ){h:HT}(hk:holds (sepK A pts ops ps kn ev h)) :
  SepAt pts ops σ.tmps ps/\holds (kn ev h):=by
 unfold sepK at hk
 split at hk
 ·exact⟨λp hp=>(by cases hp),hk⟩
 ·simp only at hk
  split at hk
  next l hl=>
   obtain⟨u,h1,h2⟩:=hA.opt _ _ hk
   exact⟨nj hR hl (sepL_ok h1),h2⟩
  ·exact absurd hk hA.fail
end
end Sx
section
variable [Val] [Kno] {R HT:Type} {A:Alg R HT} {X:Ctxt} {Sg:FuncId->Option Sig} {holds:R->Prop} {abs:HT->List HObj}
variable {ev:Env} {σ:St} {h:HT} {o:Oper} {K:KN R HT}
def StepO(C:Cfg)(pts:List Nat)(o:Oper)(σ σ':St):Prop:=
 (∃e,ah C pts (oval σ.tmps) o=some e/\gQ (uB C) e o.dst σ σ')∨(∃v,gi C σ.tmps o v/\σ'=σ.put o.dst v)
def qu(pts:List Nat)(o:Oper):Option Nat:=
 match o.op,o.dst with
 | .box ..,some d=>if pts.getD d 0=d+2 then some d else none
 | .alloc _,some d=>if pts.getD d 0=d+2 then some d else none
 |_,_=>none
def Done(X:Ctxt)(holds:R->Prop)(abs:HT->List HObj)(o:Oper)(σ:St)(K:KN R HT):Prop:=
 ∃σ' ev' h',StepO X.C X.pts o σ σ'/\Rp ev' σ'/\abs h'=σ'.heap/\Fr o.dst.toList (qu X.pts o).toList (gA X.pts o).toList σ σ'/\holds (K ev' h')
def rH(hR:Rp ev σ){dst:Option Tmp}{s:SV}(hs:s.gd)(hk:holds (setD dst s ev h K)):∃ev',Rp ev' (σ.put dst s.val)/\holds (K ev' h):=by
 unfold setD at hk
 cases dst with
 |none=>exact⟨ev,hR,hk⟩
 |some d=>
  simp only[setK_eq]at hk
  exact⟨_,hR.put d hs,hk⟩
def cM(hR:Rp ev σ)(H':List HObj)(ha:abs h=H'){s:SV}(hs:s.gd)
  (hst:StepO X.C X.pts o σ (({ σ with heap:=H' }:St).put o.dst s.val)) (hk:holds (setD o.dst s ev h K)):Done X holds abs o σ K:=by
 obtain⟨ev',h1,h2⟩:=rH (hR.heap H') hs hk
 refine⟨_,ev',h,hst,h1,?_,?_,h2⟩
 ·rw[ha];cases o.dst<;>rfl
 ·have:=Fr.put (σ:=({ σ with heap:=H' }:St)) o.dst s.val (qu X.pts o).toList (gA X.pts o).toList
  exact⟨this.tlen,this.llen,this.tm,this.tp,this.row,this.rlen⟩
def au(hR:Rp ev σ)(ha:abs h=σ.heap){s:SV}(hs:s.gd)(he:ah X.C X.pts (oval σ.tmps) o=some (.val s.val))(hk:holds (setD o.dst s ev h K)) :
  Done X holds abs o σ K:=
 cM hR σ.heap ha hs (.inl ⟨_,he,_,rfl,rfl⟩) hk
def bF(hR:Rp ev σ)(ha:abs h=σ.heap){s:SV}(hs:s.gd)(he:gi X.C σ.tmps o s.val)(hk:holds (setD o.dst s ev h K)) :
  Done X holds abs o σ K:=
 cM hR σ.heap ha hs (.inr ⟨_,he,rfl⟩) hk
def fo(hR:Rp ev σ)(ha:abs h=σ.heap){s:SV}(hs:s.gd){f:List HObj->Option Value}(he:ah X.C X.pts (oval σ.tmps) o=some (.hget f))(hf:f σ.heap=some s.val)
  (hk:holds (setD o.dst s ev h K)):Done X holds abs o σ K:=
 cM hR σ.heap ha hs (.inl ⟨_,he,(σ,s.val),by simp[aD,hf],rfl⟩) hk
def cw(hR:Rp ev σ){H':List HObj}(ha:abs h=H'){s:SV}(hs:s.gd){f:List HObj->Option (List HObj×Value)}(he:ah X.C X.pts (oval σ.tmps) o=some (.hop f))
  (hf:f σ.heap=some (H',s.val)) (hk:holds (setD o.dst s ev h K)):Done X holds abs o σ K:=
 cM hR H' ha hs (.inl ⟨_,he,({ σ with heap:=H' },s.val),by simp[aD,hf],rfl⟩) hk
def move_ok(hR:Rp ev σ)(ha:abs h=σ.heap){x:Operand}(ho:o.op = .move x∨o.op = .assign x){y:SV}(hy:sval ev x=y)(hn:y≠.no)(hk:holds (setD o.dst y ev h K)):Done X holds abs o σ K:=by
 obtain⟨h1,h2⟩:=hR.sval hy hn
 refine au hR ha h2 ?_ hk
 rcases ho with ho|ho<;>simp only[ah,ho,h1]
def pick_ok(hA:AlgOk A X.C Sg X.T holds abs)(hR:Rp ev σ)(ha:abs h=σ.heap){c a b:Operand}(ho:o.op = .pick c a b)
  (hk:holds (match sval ev c,sval ev a,sval ev b with
  | .st (.leaf (.l true)),.st y,_=>setD o.dst (.st y) ev h K
  | .st (.leaf (.l false)),_,.st y=>setD o.dst (.st y) ev h K
  | .st (.leaf (.b t)),.st y,.st z=>A.cond t (setD o.dst (.st y) ev h K) (setD o.dst (.st z) ev h K)
  |_,_,_=>A.fail)):Done X holds abs o σ K:=by
 split at hk
 next y e1 e2=>
  obtain⟨h1,_⟩:=hR.sval e1 (by simp)
  obtain⟨h2,g2⟩:=hR.sval e2 (by simp)
  refine au hR ha g2 ?_ hk
  simp only[ah,ho,h1,SV.val,S0.val,SL.val,if_true,h2]
 next y e1 e2=>
  obtain⟨h1,_⟩:=hR.sval e1 (by simp)
  obtain⟨h2,g2⟩:=hR.sval e2 (by simp)
  refine au hR ha g2 ?_ hk
  simp only[ah,ho,h1,SV.val,S0.val,SL.val,h2,qan,if_false]
 next t y z e1 e2 e3=>
  obtain⟨h1,_⟩:=hR.sval e1 (by simp)
  obtain⟨h2,g2⟩:=hR.sval e2 (by simp)
  obtain⟨h3,g3⟩:=hR.sval e3 (by simp)
  rcases hA.cond _ _ _ hk with⟨ht,hk⟩|⟨ht,hk⟩
  ·refine au hR ha g2 ?_ hk
   simp only[ah,ho,h1,SV.val,S0.val,SL.val,ht,if_true,h2]
  ·refine au hR ha g3 ?_ hk
   simp only[ah,ho,h1,SV.val,S0.val,SL.val,ht,h3,qan,if_false]
 ·exact absurd hk hA.fail
def newV_ok(hA:AlgOk A X.C Sg X.T holds abs)(hR:Rp ev σ)(ha:abs h=σ.heap){t:TypeId}{x:S0}(hx:x.good)(he:ah X.C X.pts (oval σ.tmps) o=bM X.C X.pts o.dst t x.val)
  (hb:(∃y,o.op = .box t y)∨o.op = .alloc t) (hk:holds (newV A X o.dst t x ev h K)):Done X holds abs o σ K:=by
 unfold newV at hk
 split at hk
 ·exact absurd hk hA.fail
 next d hd=>
  have cN:=S0.cells_val hx
  have hok:=S0.cells_ok hx
  have hnt:=S0.not_tuple hx
  split at hk
  next hp=>
   have hp:X.pts.getD d 0=d+2:=by simpa using hp
   split at hk
   next hl=>
    rw[setK_eq,setK_eq]at hk
    have hrow:ev.lc[d]?=some .nil:=by
     rw[List.getD_eq_getElem?_getD]at hl
     cases he:ev.lc[d]? with
     |none=>rw[he]at hl;cases hl
     |some r=>rw[he]at hl;simp at hl;rw[hl]
    have hloc:σ.loc[d]?=some none:=hR.row d _ hrow
    have heff:ah X.C X.pts (oval σ.tmps) o=some (.lnew d (x.cells.map SL.val)):=by
     rw[he,hd]
     unfold bM
     simp only[hnt,qan,if_false,cN,cells_ok' hx,qa7,hp,if_true]
    let σ₁:St:={ σ with loc:=σ.loc.set d (some (x.cells.map SL.val)) }
    have hR1:Rp ⟨ev.tm,ev.lc.set d (.row x.cells)⟩ σ₁:=by
     refine⟨hR.len,hR.val,by simp[σ₁,hR.llen],λi r hr=>?_⟩
     simp only[qaN]at hr
     split at hr
     next hi=>
      subst hi
      split at hr
      next hlt=>
       cases hr
       exact⟨by simp only[σ₁];rw[qaO (by rw[←hR.llen];exact hlt)],hx⟩
      ·cases hr
     next hi=>
      have:=hR.row i r hr
      have hne:σ₁.loc[i]?=σ.loc[i]?:=by simp only[σ₁];rw[qaB hi]
      cases r<;>first|trivial|(simp only[LR.ok]at this ⊢;rw[hne];exact this)
    have hkey:qu X.pts o=some d:=by
     rcases hb with⟨y,hb⟩|hb<;>(simp only[qu,hb,hd];rw[if_pos hp])
    have hrow':gA X.pts o=some d:=by
     rcases hb with⟨y,hb⟩|hb<;>(simp only[gA,hb,hd];rw[if_pos hp])
    refine⟨σ₁.put o.dst (.pointer (some ⟨d,0,some 0⟩)),_,h,.inl ⟨_,heff,(σ₁,.pointer (some ⟨d,0,some 0⟩)),by simp[aD,hloc,σ₁],rfl⟩,?_,?_,?_,hk⟩
    ·rw[hd];exact hR1.put d (s:=.lad d 0) trivial
    ·rw[ha];cases o.dst<;>rfl
    ·have hf:=Fr.put (σ:=σ₁) o.dst (.pointer (some ⟨d,0,some 0⟩)) [d] [d]
     have h0:Fr o.dst.toList [d] [d] σ σ₁:=by
      refine⟨rfl,by simp[σ₁],λ_ _ h _ _=>h,λ_ _ _ h _ _=>h,λs y hs hn=>?_,λs vs hs hn=>?_⟩
      ·simp only[qao]at hn
       simp only[σ₁]
       rw[qaB (λe=>hn e.symm)];exact hs
      ·simp only[qao]at hn
       refine⟨vs,?_,rfl⟩
       simp only[σ₁]
       rw[qaB (λe=>hn e.symm)];exact hs
     rw[hkey,hrow']
     exact h0.trans hf
   ·exact absurd hk hA.fail
  next hp=>
   have hp:¬X.pts.getD d 0=d+2:=λe=>by rw[e]at hp;simp at hp
   obtain⟨h',e1,e2⟩:=hA.new _ _ _ hk
   rw[ha]at e1 e2
   have heff:ah X.C X.pts (oval σ.tmps) o=some (.hop λH=>some (H++[.cells x.val.cells.toList (ja X.C.P t) true],.pointer (some ⟨H.length,0,none⟩))):=by
    rw[he,hd]
    unfold bM
    simp only[hnt,qan,if_false,hok,qa7,hp]
   rw[←hd]at e2
   refine cw (s:=.st (.leaf (.v (.pointer (some ⟨σ.heap.length,0,none⟩))))) hR e1 (λl hl=>?_) heff ?_ e2
   ·simp only[S0.cells,qao]at hl
    subst hl;rfl
   ·simp only[cN];rfl
def rQ(new:List Value):∀(off k:Nat) (cs:List Value),off+k+new.length<=cs.length->
  ((new.zipIdx k).foldl (λ(acc:Array Value) (p:Value×Nat)=>acc.setIfInBounds (off+p.2) p.1) cs.toArray).toList=cs.take (off+k)++new++cs.drop (off+k+new.length):=by
 induction new with
 |nil=>intro off k cs h;simp
 |cons a l ih=>
  intro off k cs h
  simp only[qbg]at h
  simp only[List.zipIdx_cons,qb4]
  have hset:(cs.toArray.setIfInBounds (off+k) a)=(cs.set (off+k) a).toArray:=by simp
  rw[hset,ih off (k+1) (cs.set (off+k) a) (by simp;omega)]
  rw[List.take_set,List.drop_set]
  have h1:(cs.take (off+(k+1))).set (off+k) a=cs.take (off+k)++[a]:=by
   rw[show off+(k+1)=(off+k)+1 from by omega]
   rw[List.take_succ_eq_append_getElem (by omega),List.set_append]
   simp[qb7 (show off+k<=cs.length by omega)]
  rw[h1]
  rw[if_pos (show off+k<off+(k+1)+l.length by omega),show off+(k+1)+l.length=off+k+(l.length+1)by omega]
  simp only[qaH,qbN,qbD,qbg]
def nZ(pl:Nat->Option (Nat×Nat)):∀(ps:List (Nat×S0)) (cs r:List SL),(∀p∈ps,p.2.good)->nY pl cs ps=some r->
  Instr.fill pl ⟨cs.map SL.val⟩ (ps.map λp=>(p.1,p.2.val))=some ⟨r.map SL.val⟩
 | [],cs,r,_,hf=>by cases hf;rfl
 |(i,x) :: ps,cs,r,hg,hf=>by
  simp only[nY]at hf
  split at hf
  next off n hpl=>
   split at hf
   next hn=>
    split at hf
    next cs1 hs=>
     have hn:x.cells.length=n:=by simpa using hn
     have hx:x.good:=hg (i,x) (by simp)
     have hc:=S0.cells_val hx
     unfold fJ at hs
     split at hs
     next hle=>
      cases hs
      have ih:=nZ pl ps _ r (λp hp=>hg p (by simp[hp])) hf
      simp only[qat,Instr.fill,hpl,hc]
      have hsz:(⟨x.cells.map SL.val⟩ : Array Value).size=n:=by simp[hn]
      rw[if_neg (by
       have h2:(⟨cs.map SL.val⟩ : Array Value).size=cs.length:=by simp
       rw[hsz,h2];simp;omega)]
      rw[←ih]
      congr 1
      have hfold:=rQ (x.cells.map SL.val) off 0 (cs.map SL.val) (by simp;omega)
      apply qaS.1
      rw[←qb3,qcB]
      refine Eq.trans hfold ?_
      simp[qb9,qb8]
     ·cases hs
    ·cases hf
   ·cases hf
  ·cases hf
def mz(pl:Nat->Option (Nat×Nat)):∀(ps:List (Nat×S0)) (cs r:List SL),(∀c∈cs,c.good)->(∀p∈ps,p.2.good)->nY pl cs ps=some r->∀c∈r,c.good
 | [],cs,r,hc,_,hf=>by cases hf;exact hc
 |(i,x) :: ps,cs,r,hc,hg,hf=>by
  simp only[nY]at hf
  split at hf
  ·split at hf
   ·split at hf
    next cs1 hs=>
     refine mz pl ps cs1 r (λc hm=>?_) (λp hp=>hg p (by simp[hp])) hf
     unfold fJ at hs
     split at hs
     ·cases hs
      simp only[qaA]at hm
      rcases hm with(hm|hm)|hm
      ·exact hc c (qaV hm)
      ·exact hg (i,x) (by simp) c hm
      ·exact hc c (qbr hm)
     ·cases hs
    ·cases hf
   ·cases hf
  ·cases hf
def nu{ps:List (Nat×Operand)}{xs:List S0}(hv:(ps.map (·.2)).map (oval σ.tmps)=ae xs) :
  ps.map (λp=>(p.1,oval σ.tmps p.2))=((ps.map (·.1)).zip xs).map λp=>(p.1,p.2.val):=by
 induction ps generalizing xs with
 |nil=>simp
 |cons p ps ih=>
  cases xs with
  |nil=>simp[ae]at hv
  |cons x xs=>
   simp only[qat,ae,qa5]at hv
   simp only[qat,qcj,hv.1]
   rw[ih (xs:=xs) hv.2]
def pc{is:List Nat}{xs:List S0}(hg:∀x∈xs,x.good):∀p∈is.zip xs,p.2.good:=λ_ hp=>hg _ (List.of_mem_zip hp).2
def oY{P:Program}{t:TypeId}{x:S0}(hz:rP P t=some x):∃z,cR P t=some z/\x.val=z/\x.good:=by
 unfold rP at hz
 obtain⟨z,h1,h2⟩:=qak.1 hz
 obtain⟨h3,h4,_⟩:=oN h2
 exact⟨z,h1,h3,h4⟩
def build_ok(hA:AlgOk A X.C Sg X.T holds abs)(hR:Rp ev σ)(ha:abs h=σ.heap){t:TypeId}{ps:Array (Nat×Operand)}(ho:o.op = .build t ps)
  (hk:holds (match rP X.C.P t,jW X.C.P t,svals ev (ps.toList.map (·.2))with
  |some z,some pl,some xs=>match nY pl z.cells ((ps.toList.map (·.1)).zip xs)with
   |some cs=>setD o.dst (.st (.agg cs)) ev h K
   |none=>A.fail
  |_,_,_=>A.fail)):Done X holds abs o σ K:=by
 split at hk
 next z pl xs e1 e2 e3=>
  split at hk
  next cs e4=>
   obtain⟨zv,hz1,hz2,hz3⟩:=oY e1
   obtain⟨hv,hg⟩:=hR.svals e3
   have hzc:=S0.cells_val hz3
   have hfill:=nZ pl _ _ _ (pc (is:=ps.toList.map (·.1)) hg) e4
   have hgood:=mz pl _ _ _ (λc hc=>hz3 c hc) (pc (is:=ps.toList.map (·.1)) hg) e4
   refine au hR ha (s:=.st (.agg cs)) hgood ?_ hk
   have hall:(ps.toList.all λp=>!aB (oval σ.tmps p.2))=true:=by
    simp only[qad,qbF]
    intro p hp
    have hm:oval σ.tmps p.2∈ae xs:=by
     rw[←hv]
     exact qaK.2 ⟨p.2,qaK.2 ⟨p,hp,rfl⟩,rfl⟩
    simp only[ae,qaK]at hm
    obtain⟨x,hx,e⟩:=hm
    rw[←e]
    exact S0.not_tuple (hg x hx)
   simp only[ah,ho,hall,if_true,px,hz1,e2]
   rw[nu hv,←hz2,hzc,hfill]
   rfl
  ·exact absurd hk hA.fail
 ·exact absurd hk hA.fail
end
def SL.lf_val{a b:SL}{k:LK}(ha:a.is k=true)(hb:b.is k=true)(he:a.lf=b.lf):a.val=b.val/\(a.good->b.good):=by
 cases a<;>cases b<;>cases k<;>simp only[SL.lf,Lf.i.injEq,Lf.b.injEq,Lf.v.injEq,reduceCtorEq,SL.is,qan]at he ha hb ⊢<;>try (subst he;exact⟨rfl,id⟩)
 subst he
 exact⟨by simp only[SL.val];rw[cO ha,cO hb],id⟩
def bi:∀ {cs:List SL} {ks:List LK},aE cs ks=true->cs.length=ks.length
 | [],[],_=>rfl
 |c :: cs,k :: ks,h=>by
  simp only[aE,qaa]at h
  simp[bi h.2]
 | [],_ :: _,h=>by cases h
 |_ :: _,[],h=>by cases h
def ff:∀ {a b:List SL} {ks:List LK},aE a ks=true->aE b ks=true->a.map SL.lf=b.map SL.lf->a.map SL.val=b.map SL.val/\((∀c∈a,c.good)->∀c∈b,c.good)
 | [],[],[],_,_,_=>⟨rfl,λ_ _ h=>by cases h⟩
 |a :: as0,b :: bs,k :: ks,ha,hb,he=>by
  simp only[aE,qaa]at ha hb
  simp only[qat,qa5]at he
  obtain⟨h1,h2⟩:=SL.lf_val ha.1 hb.1 he.1
  obtain⟨h3,h4⟩:=ff ha.2 hb.2 he.2
  refine⟨by simp[h1,h3],λhg c hc=>?_⟩
  rcases qaq.1 hc with rfl|hc
  ·exact h2 (hg a (by simp))
  ·exact h4 (λc hc=>hg c (by simp[hc])) c hc
 | [],_ :: _,[],_,hb,_=>by cases hb
 | [],_,_ :: _,ha,_,_=>by cases ha
 |_ :: _,_,[],ha,_,_=>by cases ha
 |_ :: _,[],_ :: _,_,hb,_=>by cases hb
def S0.is_val{a b:S0}{sk:SK}(ha:a.is sk=true)(hb:b.is sk=true)(he:a.cells.map SL.lf=b.cells.map SL.lf):a.val=b.val/\(a.good->b.good):=by
 cases sk with
 |leaf k=>
  cases a with
  |agg _=>cases ha
  |leaf a=>
   cases b with
   |agg _=>cases hb
   |leaf b=>
    simp only[S0.cells,qat,qbd,qa5,and_true]at he
    obtain⟨h1,h2⟩:=SL.lf_val ha hb he
    refine⟨h1,λhg l hl=>?_⟩
    simp only[S0.cells,qao]at hl
    subst hl
    exact h2 (hg a (by simp[S0.cells]))
 |agg ks=>
  cases a with
  |leaf _=>cases ha
  |agg a=>
   cases b with
   |leaf _=>cases hb
   |agg b=>
    obtain⟨h1,h2⟩:=ff ha hb he
    exact⟨by simp only[S0.val,h1],h2⟩
def S0.is_len{a:S0}{sk:SK}(ha:a.is sk=true):∃n,a.cells.length=n/\∀b:S0,b.is sk=true->b.cells.length=n:=by
 refine⟨_,rfl,λb hb=>?_⟩
 cases sk with
 |leaf k=>
  cases a with
  |agg _=>cases ha
  |leaf a=>cases b with
   |agg _=>cases hb
   |leaf b=>rfl
 |agg ks=>
  cases a with
  |leaf _=>cases ha
  |agg a=>cases b with
   |leaf _=>cases hb
   |agg b=>exact(bi hb).trans (bi ha).symm
def bq:∀ {a b:List S0} {sks:List SK},bA a sks=true->bA b sks=true->bC a=bC b->ae a=ae b/\((∀c∈a,c.good)->∀c∈b,c.good)
 | [],[],[],_,_,_=>⟨rfl,λ_ _ h=>by cases h⟩
 |a :: as0,b :: bs,k :: ks,ha,hb,he=>by
  simp only[bA,qaa]at ha hb
  obtain⟨n,hn1,hn2⟩:=S0.is_len ha.1
  have hn2:=hn2 b hb.1
  simp only[bC]at he
  obtain⟨he1,he2⟩:=qcZ he (by simp[hn1,hn2])
  obtain⟨h1,h2⟩:=S0.is_val ha.1 hb.1 he1
  obtain⟨h3,h4⟩:=bq ha.2 hb.2 he2
  refine⟨by simp only[ae,qat,h1]at h3 ⊢;rw[h3],λhg c hc=>?_⟩
  rcases qaq.1 hc with rfl|hc
  ·exact h2 (hg a (by simp))
  ·exact h4 (λc hc=>hg c (by simp[hc])) c hc
 | [],_ :: _,[],_,hb,_=>by cases hb
 | [],_,_ :: _,ha,_,_=>by cases ha
 |_ :: _,_,[],ha,_,_=>by cases ha
 |_ :: _,[],_ :: _,_,hb,_=>by cases hb
section
variable [Val] [Kno] {R HT:Type} {A:Alg R HT} {X:Ctxt} {Sg:FuncId->Option Sig} {holds:R->Prop} {abs:HT->List HObj}
variable {ev:Env} {σ:St} {h:HT} {o:Oper} {K:KN R HT}
def nq{C:Cfg}{T:Nat->Site}(hA:AlgOk A C Sg T holds abs):∀ {ks:List LK} {ls:List Lf} {K:List SL->List Lf->R},holds (unL A ks ls K)->
  ∃cs r,ls=cs.map SL.lf++r/\aE cs ks=true/\holds (K cs r)
 | [],ls,K,hk=>⟨[],ls,rfl,rfl,hk⟩
 | .i k :: ks,ls,K,hk=>by
  obtain⟨n,r,rfl,hk1⟩:=hA.unI _ _ hk
  obtain⟨cs,r',rfl,h2,h3⟩:=nq hA (ks:=ks) hk1
  exact⟨.i k n :: cs,r',rfl,by simp[aE,SL.is,cV,h2],h3⟩
 | .b :: ks,ls,K,hk=>by
  obtain⟨n,r,rfl,hk1⟩:=hA.unB _ _ hk
  obtain⟨cs,r',rfl,h2,h3⟩:=nq hA (ks:=ks) hk1
  exact⟨.b n :: cs,r',rfl,by simp[aE,SL.is,h2],h3⟩
 | .v :: ks,ls,K,hk=>by
  obtain⟨n,r,rfl,hk1⟩:=hA.unV _ _ hk
  obtain⟨cs,r',rfl,h2,h3⟩:=nq hA (ks:=ks) hk1
  exact⟨.v n :: cs,r',rfl,by simp[aE,SL.is,h2],h3⟩
def unS_ok{C:Cfg}{T:Nat->Site}(hA:AlgOk A C Sg T holds abs){sk:SK}{ls:List Lf}{K:S0->List Lf->R}(hk:holds (unS A sk ls K)) :
  ∃x r,ls=x.cells.map SL.lf++r/\x.is sk=true/\holds (K x r):=by
 cases sk with
 |leaf k=>
  cases k with
  |i k=>
   obtain⟨n,r,rfl,hk1⟩:=hA.unI _ _ hk
   exact⟨.leaf (.i k n),r,rfl,by simp[S0.is,SL.is,cV],hk1⟩
  |b=>
   obtain⟨n,r,rfl,hk1⟩:=hA.unB _ _ hk
   exact⟨.leaf (.b n),r,rfl,rfl,hk1⟩
  |v=>
   obtain⟨n,r,rfl,hk1⟩:=hA.unV _ _ hk
   exact⟨.leaf (.v n),r,rfl,rfl,hk1⟩
 |agg ks=>
  obtain⟨cs,r,h1,h2,h3⟩:=nq hA hk
  exact⟨.agg cs,r,h1,h2,h3⟩
def lQ{C:Cfg}{T:Nat->Site}(hA:AlgOk A C Sg T holds abs):∀ {sks:List SK} {ls:List Lf} {K:List S0->List Lf->R},holds (unSs A sks ls K)->
  ∃xs r,ls=bC xs++r/\bA xs sks=true/\holds (K xs r)
 | [],ls,K,hk=>⟨[],ls,rfl,rfl,hk⟩
 |sk :: sks,ls,K,hk=>by
  have hk0:holds (unS A sk ls λx r=>unSs A sks r λxs r=>K (x :: xs) r):=hk
  obtain⟨x,r,rfl,h1,hk1⟩:=unS_ok hA hk0
  obtain⟨xs,r',rfl,h2,h3⟩:=lQ hA (sks:=sks) hk1
  exact⟨x :: xs,r',by simp[bC],by simp[bA,h1,h2],h3⟩
def ti{C:Cfg}{T:Nat->Site}(hA:AlgOk A C Sg T holds abs):∀ {ks:List LK} {ls:List Value} {K:List SL->List Value->R},holds (ucL A ks ls K)->
  ∃cs r,ls=cs.map SL.val++r/\aE cs ks=true/\(∀c∈cs,c.good)/\holds (K cs r)
 | [],ls,K,hk=>⟨[],ls,rfl,rfl,by simp,hk⟩
 | .i k :: ks,ls,K,hk=>by
  obtain⟨n,r,rfl,hk1⟩:=hA.ucI _ _ _ hk
  obtain⟨cs,r',rfl,h2,h3,h4⟩:=ti hA (ks:=ks) hk1
  exact⟨.i k n :: cs,r',rfl,by simp[aE,SL.is,cV,h2],qbe.2 ⟨trivial,h3⟩,h4⟩
 | .b :: ks,ls,K,hk=>by
  obtain⟨n,r,rfl,hk1⟩:=hA.ucB _ _ hk
  obtain⟨cs,r',rfl,h2,h3,h4⟩:=ti hA (ks:=ks) hk1
  exact⟨.b n :: cs,r',rfl,by simp[aE,SL.is,h2],qbe.2 ⟨trivial,h3⟩,h4⟩
 | .v :: ks,ls,K,hk=>by
  obtain⟨n,r,rfl,hk1⟩:=hA.ucV _ _ hk
  obtain⟨hg,hk2⟩:=hA.chk _ _ hk1
  obtain⟨cs,r',rfl,h2,h3,h4⟩:=ti hA (ks:=ks) hk2
  exact⟨.v n :: cs,r',rfl,by simp[aE,SL.is,h2],qbe.2 ⟨hg,h3⟩,h4⟩
def lP{C:Cfg}{T:Nat->Site}(hA:AlgOk A C Sg T holds abs){sk:SK}{ls:List Value}{K:S0->List Value->R}(hk:holds (ucS A sk ls K)) :
  ∃x r,ls=x.cells.map SL.val++r/\x.is sk=true/\x.good/\holds (K x r):=by
 cases sk with
 |leaf k=>
  cases k with
  |i k=>
   obtain⟨n,r,rfl,hk1⟩:=hA.ucI _ _ _ hk
   exact⟨.leaf (.i k n),r,rfl,by simp[S0.is,SL.is,cV],λl hl=>by simp only[S0.cells,qao]at hl;subst hl;trivial,hk1⟩
  |b=>
   obtain⟨n,r,rfl,hk1⟩:=hA.ucB _ _ hk
   exact⟨.leaf (.b n),r,rfl,rfl,λl hl=>by simp only[S0.cells,qao]at hl;subst hl;trivial,hk1⟩
  |v=>
   obtain⟨n,r,rfl,hk1⟩:=hA.ucV _ _ hk
   obtain⟨hg,hk2⟩:=hA.chk _ _ hk1
   exact⟨.leaf (.v n),r,rfl,rfl,λl hl=>by simp only[S0.cells,qao]at hl;subst hl;exact hg,hk2⟩
 |agg ks=>
  obtain⟨cs,r,h1,h2,h3,h4⟩:=ti hA hk
  exact⟨.agg cs,r,h1,h2,h3,h4⟩
def ucSs_ok{C:Cfg}{T:Nat->Site}(hA:AlgOk A C Sg T holds abs):∀ {sks:List SK} {ls:List Value} {K:List S0->List Value->R},holds (ucSs A sks ls K)->
  ∃xs r,ls=jJ xs++r/\bA xs sks=true/\(∀x∈xs,x.good)/\holds (K xs r)
 | [],ls,K,hk=>⟨[],ls,rfl,rfl,by simp,hk⟩
 |sk :: sks,ls,K,hk=>by
  have hk0:holds (ucS A sk ls λx r=>ucSs A sks r λxs r=>K (x :: xs) r):=hk
  obtain⟨x,r,rfl,h1,hg,hk1⟩:=lP hA hk0
  obtain⟨xs,r',rfl,h2,h3,h4⟩:=ucSs_ok hA (sks:=sks) hk1
  refine⟨x :: xs,r',by simp[jJ],by simp[bA,h1,h2],λc hc=>?_,h4⟩
  rcases qaq.1 hc with rfl|hc
  ·exact hg
  ·exact h3 c hc
def mkV(agg:Bool)(cs:List Value)(v:Value):Prop:=(agg=true/\v = .agg ⟨cs⟩)∨(agg=false/\cs=[v])
def mL{x:S0}{sk:SK}(hx:x.is sk=true){v:Value}(hv:mkV (gG sk) (x.cells.map SL.val) v):x.val=v:=by
 cases sk with
 |leaf k=>
  cases x with
  |agg _=>cases hx
  |leaf l=>
   rcases hv with⟨h,_⟩|⟨_,h⟩
   ·cases h
   ·simp only[S0.cells,qat,qbd,qa5,and_true]at h
    exact h
 |agg ks=>
  cases x with
  |leaf _=>cases hx
  |agg cs=>
   rcases hv with⟨_,h⟩|⟨h,_⟩
   ·exact h.symm
   ·cases h
def eqB_eq{a b:Bool}(h:eqB a b=true):a=b:=by cases a<;>cases b<;>first|rfl|cases h
def kW{agg:Bool}{cs:List SL}{x:S0}(hx:mkS0 agg cs=some x):x.cells=cs/\mkV agg (cs.map SL.val) x.val:=by
 unfold mkS0 at hx
 split at hx
 ·cases hx;exact⟨rfl,.inl ⟨rfl,rfl⟩⟩
 ·cases hx;exact⟨rfl,.inr ⟨rfl,rfl⟩⟩
 ·cases hx
def cj{P:Program}{t:TypeId}{agg:Bool}(hag:aggT P t=some agg){vs cs:List Value}{off:Nat}(hc:cut vs off (if agg then P.cellsOf t else 1)=some cs) :
  ∃v,cE P t vs off=some v/\mkV agg cs v:=by
 unfold aggT at hag
 unfold cE
 split at hag
 next fs e=>
  cases hag
  rw[e]
  simp only[if_true]at hc
  exact⟨.agg ⟨cs⟩,by simp[hc],.inl ⟨rfl,rfl⟩⟩
 next fs e=>
  cases hag
  rw[e]
  simp only[if_true]at hc
  exact⟨.agg ⟨cs⟩,by simp[hc],.inl ⟨rfl,rfl⟩⟩
 next d h1 h2 e=>
  cases hag
  rw[e]
  simp only[qan,if_false]at hc
  unfold cut at hc
  split at hc
  next hle=>
   cases hc
   have hlt:off<vs.length:=by omega
   have hcs:(vs.drop off).take 1=[vs[off]]:=by
    rw[qbk hlt];rfl
   refine⟨vs[off],?_,.inr ⟨rfl,hcs⟩⟩
   simp[hlt]
  ·cases hc
 ·cases hag
def jc(hA:AlgOk A X.C Sg X.T holds abs){dst:Option Tmp}{sk:SK}{cs:List Value}{v:Value}(hv:mkV (gG sk) cs v)(hk:holds (setC A dst sk cs ev h K)) :
  ∃x:S0,x.val=v/\x.good/\holds (setD dst (.st x) ev h K):=by
 obtain⟨x,r,h1,h2,h3,hk1⟩:=lP hA hk
 obtain⟨hr,hk2⟩:=hA.uc0 _ _ hk1
 rw[hr,qa4]at h1
 subst h1
 exact⟨x,mL h2 hv,h3,hk2⟩
def kA{cs ds:List SL}{off n:Nat}(hc:cutS cs off n=some ds):cut (cs.map SL.val) off n=some (ds.map SL.val)/\(∀d∈ds,d∈cs):=by
 unfold cutS at hc
 unfold cut
 split at hc
 next hle=>
  cases hc
  rw[if_pos (by simpa using hle)]
  exact⟨by simp[qb8,qb9],λd hd=>qbr (qaV hd)⟩
 ·cases hc
def ig(hR:Rp ev σ){s:Nat}{cs:List SL}(hr:oL ev s=some cs):σ.loc[s]?=some (some (cs.map SL.val))/\(∀c∈cs,c.good)/\ev.lc[s]?=some (.row cs):=by
 unfold oL at hr
 split at hr
 next ds e=>
  cases hr
  rw[List.getD_eq_getElem?_getD]at e
  cases he:ev.lc[s]? with
  |none=>rw[he]at e;cases e
  |some r=>
   rw[he]at e
   simp only[qbj]at e
   subst e
   have:=hR.row s _ he
   exact⟨this.1,this.2,rfl⟩
 ·cases hr
def sI{cs:List SL}{base:Nat}{ix:List (Int×Nat)}{n:Nat}{ls:List Lf}(hp:qw (cs.map SL.lf) base ix n=some ls) :
  ∃ds,cutS cs (offX base ix) n=some ds/\ls=ds.map SL.lf:=by
 rw[pickL_eq]at hp
 split at hp
 next hle=>
  cases hp
  refine⟨_,by unfold cutS;rw[if_pos (by simpa using hle)],by simp[qb8,qb9]⟩
 ·cases hp
def offX_le:∀(ix:List (Int×Nat)) (base:Nat),base<=offX base ix
 | [],base=>qai _
 |p :: l,base=>qbH (Nat.le_add_right _ _) (offX_le l _)
def jE{cs ds:List SL}{ks:List LK}:∀ {ix:List (Int×Nat)} {base:Nat},pg cs ks base ix=true->cutS cs (offX base ix) ks.length=some ds->aE ds ks=true
 | [],base,h1,h2=>by
  simp only[pg,offX]at h1 h2
  rw[h2]at h1
  exact h1
 |p :: l,base,h1,h2=>by
  simp only[pg,qaa,qad,qbF,offX]at h1 h2
  obtain⟨h0,h1⟩:=h1
  refine jE (ix:=l) (h1 p.1.toNat ?_) h2
  have hp:p.2≠0:=λe=>by rw[e]at h0;cases h0
  have hle:offX (base+p.1.toNat*p.2) l<=cs.length:=by
   unfold cutS at h2
   split at h2
   ·omega
   ·cases h2
  have:=offX_le l (base+p.1.toNat*p.2)
  have h3:p.1.toNat<=p.1.toNat*p.2:=Nat.le_mul_of_pos_right _ (Nat.pos_of_ne_zero hp)
  simp only[qaM]
  omega
def is_skKs{x:S0}{sk:SK}(hx:x.is sk=true):aE x.cells (skKs sk)=true:=by
 cases sk with
 |leaf k=>
  cases x with
  |agg _=>cases hx
  |leaf l=>simp[S0.cells,skKs,aE];exact hx
 |agg ks=>
  cases x with
  |leaf _=>cases hx
  |agg cs=>exact hx
def setL_ok(hA:AlgOk A X.C Sg X.T holds abs){dst:Option Tmp}{sk:SK}{ds:List SL}{v:Value}(hd:aE ds (skKs sk)=true)(hg:∀c∈ds,c.good)(hv:mkV (gG sk) (ds.map SL.val) v)
  (hk:holds (setL A dst sk (ds.map SL.lf) ev h K)):∃x:S0,x.val=v/\x.good/\holds (setD dst (.st x) ev h K):=by
 obtain⟨x,r,e1,e2,hk1⟩:=unS_ok hA hk
 obtain⟨hr0,hk2⟩:=hA.un0 _ _ hk1
 rw[hr0,qa4]at e1
 obtain⟨h1,h2⟩:=ff hd (is_skKs e2) e1
 rw[h1]at hv
 exact⟨x,mL e2 hv,h2 hg,hk2⟩
def is_lk(c:SL):c.is c.lk=true:=by cases c<;>first|rfl|exact cV _
def jF:∀cs:List SL,aE cs (cs.map SL.lk)=true
 | []=>rfl
 |c :: cs=>by simp[aE,is_lk,jF cs]
def fe:∀ {a b:List SL} {ka kb:List LK},aE a ka=true->aE b kb=true->aE (a++b) (ka++kb)=true
 | [],b,[],kb,_,h=>h
 |a :: as0,b,k :: ka,kb,h1,h2=>by
  simp only[aE,qaa,qbN]at h1 ⊢
  exact⟨h1.1,fe h1.2 h2⟩
 | [],_,_ :: _,_,h,_=>by cases h
 |_ :: _,_,[],_,h,_=>by cases h
end
section
variable [Val] [Kno] {R HT:Type} {A:Alg R HT} {X:Ctxt} {Sg:FuncId->Option Sig} {holds:R->Prop} {abs:HT->List HObj}
variable {ev:Env} {σ:St} {h:HT} {o:Oper} {K:KN R HT}
def pz(H:List HObj)(id:Nat):fj (λi=>H[i]?) id=cN H id:=rfl
def ldP_ok{n:Nat}{p:Value}{g:bp}{cs:List Value}(h:ldP n p g=some cs):∃id off vs,p = .pointer (some ⟨id,off,none⟩)/\fj g id=some vs/\cut vs off n=some cs:=by
 unfold ldP at h
 split at h
 next a=>
  split at h
  next hs=>
   obtain⟨vs,h1,h2⟩:=qak.1 h
   obtain⟨b,f,sp⟩:=a
   simp only at hs
   subst hs
   exact⟨b,f,vs,rfl,h1,h2⟩
  ·cases h
 ·cases h
def lgP_ok{C:Cfg}{n:Nat}{p:Value}{g:bp}{cs:List Value}(h:lgP C n p g=some cs):(∃id off vs,p = .pointer (some ⟨id,off,none⟩)/\fj g id=some vs/\cut vs off n=some cs)∨∃id off vs,p = .pointer (some ⟨id,off,some 1⟩)/\C.G id=some vs/\cut vs off n=some cs:=by
 unfold lgP at h
 split at h
 next a=>
  split at h
  next hs=>
   obtain⟨vs,h1,h2⟩:=qak.1 h
   obtain⟨b,f,sp⟩:=a
   simp only at hs
   subst hs
   exact .inl ⟨b,f,vs,rfl,h1,h2⟩
  next k hs=>
   split at h
   next hb=>
    obtain⟨vs,h1,h2⟩:=qak.1 h
    obtain⟨b,f,sp⟩:=a
    simp only at hs
    subst hs
    rw[qab hb]
    exact .inr ⟨b,f,vs,rfl,h1,h2⟩
   ·cases h
 ·cases h
def load_ok(hA:AlgOk A X.C Sg X.T holds abs)(hR:Rp ev σ)(ha:abs h=σ.heap){t:TypeId}{a:Operand}{sk:SK}{agg:Bool}(ho:o.op = .load t a)(hag:aggT X.C.P t=some agg)
  (hsk:agg=gG sk) (hk:holds (loadE A X o.dst sk agg (if agg then X.C.P.cellsOf t else 1) a ev h K)):Done X holds abs o σ K:=by
 have heff:ah X.C X.pts (oval σ.tmps) o=cW X.C X.pts t a (oval σ.tmps a):=by simp only[ah,ho]
 unfold loadE at hk
 split at hk
 next p hkey he=>
  obtain⟨h1,_⟩:=hR.sval he (by simp)
  obtain⟨cs,h2,hk1⟩:=hA.peek _ _ _ hk
  simp only[Pk.run]at h2
  rw[ha]at h2
  rcases lgP_ok h2 with⟨id,off,vs,rfl,h3,h4⟩|⟨id,off,vs,rfl,h3,h4⟩
  ·rw[pz]at h3
   obtain⟨v,h5,h6⟩:=cj hag h4
   rw[hsk]at h6
   obtain⟨x,rfl,h7,hk2⟩:=jc hA h6 hk1
   refine fo hR ha (s:=.st x) h7 (f:=λH=>(cN H id).bind λvs=>cE X.C.P t vs off) ?_ ?_ hk2
   ·rw[heff,cW,hkey,h1];rfl
   ·simp only[h3,qae,h5];rfl
  ·obtain⟨v,h5,h6⟩:=cj hag h4
   rw[hsk]at h6
   obtain⟨x,rfl,h7,hk2⟩:=jc hA h6 hk1
   refine fo hR ha (s:=.st x) h7 (f:=λ_=>(X.C.G id).bind λvs=>cE X.C.P t vs off) ?_ ?_ hk2
   ·rw[heff,cW,hkey,h1];rfl
   ·simp only[h3,qae,h5];rfl
 next g off hkey he=>
  obtain⟨h1,_⟩:=hR.sval he (by simp)
  split at hk
  next vs hg=>
   split at hk
   next cs hc=>
    obtain⟨v,h5,h6⟩:=cj hag hc
    have hval:ah X.C X.pts (oval σ.tmps) o=some (.val v):=by
     rw[heff,cW,hkey,h1]
     simp only[SV.val,eL,if_true,qae,hg,h5,qau]
    split at hk
    next x hsc hm=>
     obtain⟨hm1,hm2⟩:=kW hm
     have hcs:(cs.map slOf).map SL.val=cs:=by
      rw[qcJ]
      have:(SL.val ∘ slOf)=id:=funext oR
      rw[this,List.map_id]
     rw[hcs]at hm2
     have hv:x.val=v:=by
      rcases hm2 with⟨a1,a2⟩|⟨a1,a2⟩<;>rcases h6 with⟨b1,b2⟩|⟨b1,b2⟩
      ·rw[a2,b2]
      ·rw[a1]at b1;cases b1
      ·rw[a1]at b1;cases b1
      ·rw[a2]at b2;simpa using b2
     subst hv
     refine au hR ha (s:=.st x) (λl hl=>?_) hval hk
     rw[hm1]at hl
     obtain⟨c,hc1,rfl⟩:=qaK.1 hl
     exact lG (qad.1 hsc c hc1)
    ·rw[hsk]at h6
     obtain⟨x,rfl,h7,hk⟩:=jc hA h6 hk
     exact au hR ha (s:=.st x) h7 hval hk
   ·exact absurd hk hA.fail
  ·exact absurd hk hA.fail
 next g base ix hkey he=>
  obtain⟨h1,_⟩:=hR.sval he (by simp)
  split at hk
  next vs hg=>
   obtain⟨cs,hc,hk⟩:=hA.opt _ _ hk
   obtain⟨v,h5,h6⟩:=cj hag (vs:=vs) (off:=offX base ix) ((pickV_eq _ _ _ _).symm.trans hc)
   have hval:ah X.C X.pts (oval σ.tmps) o=some (.val v):=by
    rw[heff,cW,hkey,h1]
    simp only[SV.val,eL,if_true,qae,hg,h5,qau]
   rw[hsk]at h6
   obtain⟨x,rfl,h7,hk⟩:=jc hA h6 hk
   exact au hR ha (s:=.st x) h7 hval hk
  ·exact absurd hk hA.fail
 next p hkey he=>
  obtain⟨h1,_⟩:=hR.sval he (by simp)
  obtain⟨cs,hc,hk1⟩:=hA.opt _ _ hk
  unfold ldGv at hc
  split at hc
  next ad=>
   split at hc
   next hsp=>
    obtain⟨vs,hg,hc⟩:=qak.1 hc
    obtain⟨v,h5,h6⟩:=cj hag hc
    have hval:ah X.C X.pts (oval σ.tmps) o=some (.val v):=by
     rw[heff,cW,hkey,h1]
     simp only[SV.val,S0.val,SL.val,eL,hsp,if_true,qae,hg,h5,qau]
    rw[hsk]at h6
    obtain⟨x,rfl,h7,hk2⟩:=jc hA h6 hk1
    exact au hR ha (s:=.st x) h7 hval hk2
   ·cases hc
  ·cases hc
 next s s' off hkey he=>
  obtain⟨h1,_⟩:=hR.sval he (by simp)
  split at hk
  next x hs hx=>
   have hs:s=s':=by simpa using hs
   subst hs
   obtain⟨cs,hr,hx⟩:=qak.1 hx
   obtain⟨ds,hd,hx⟩:=qak.1 hx
   obtain⟨r1,r2,_⟩:=ig hR hr
   obtain⟨c1,c2⟩:=kA hd
   obtain⟨v,h5,h6⟩:=cj hag c1
   obtain⟨hm1,hm2⟩:=kW hx
   have hv:x.val=v:=by
    rcases hm2 with⟨a1,a2⟩|⟨a1,a2⟩<;>rcases h6 with⟨b1,b2⟩|⟨b1,b2⟩
    ·rw[a2,b2]
    ·rw[a1]at b1;cases b1
    ·rw[a1]at b1;cases b1
    ·rw[a2]at b2;simpa using b2
   subst hv
   refine cM hR σ.heap ha (s:=.st x) (λl hl=>?_) (.inl ⟨.lget s λvs=>cE X.C.P t vs off,?_,(σ,x.val),?_,rfl⟩) hk
   ·rw[hm1]at hl;exact r2 l (c2 l hl)
   ·rw[heff,cW,hkey,h1]
    simp[SV.val,gf]
   ·simp[aD,r1,h5]
  ·exact absurd hk hA.fail
 next s s' base ix hkey he=>
  obtain⟨h1,_⟩:=hR.sval he (by simp)
  split at hk
  next cs hs hr=>
   have hs:s=s':=by simpa using hs
   subst hs
   split at hk
   next hat=>
    simp only[qaa]at hat
    obtain⟨hat,hn⟩:=hat
    have hn:=qab hn
    obtain⟨ls,hp,hk1⟩:=hA.opt _ _ hk
    obtain⟨ds,hd,rfl⟩:=sI hp
    obtain⟨r1,r2,_⟩:=ig hR hr
    obtain⟨c1,c2⟩:=kA hd
    obtain⟨v,h5,h6⟩:=cj hag c1
    rw[hsk]at h6
    rw[hn]at hd
    obtain⟨x,rfl,h7,hk2⟩:=setL_ok hA (jE hat hd) (λc hc=>r2 c (c2 c hc)) h6 hk1
    refine cM hR σ.heap ha (s:=.st x) h7 (.inl ⟨.lget s λvs=>cE X.C.P t vs (offX base ix),?_,(σ,x.val),?_,rfl⟩) hk2
    ·rw[heff,cW,hkey,h1]
     simp[SV.val,gf]
    ·simp[aD,r1,h5]
   ·exact absurd hk hA.fail
  ·exact absurd hk hA.fail
 ·exact absurd hk hA.fail
def nk{cs r new:List SL}{off:Nat}(hs:fJ cs off new=some r):splice (cs.map SL.val) off (new.map SL.val)=some (r.map SL.val)/\r.length=cs.length/\((∀c∈cs,c.good)->(∀c∈new,c.good)->∀c∈r,c.good):=by
 unfold fJ at hs
 unfold splice
 split at hs
 next hle=>
  cases hs
  rw[if_pos (by simpa using hle)]
  refine⟨by simp[qb9,qb8],by simp;omega,λh1 h2 c hc=>?_⟩
  simp only[qaA]at hc
  rcases hc with(hc|hc)|hc
  ·exact h1 c (qaV hc)
  ·exact h2 c hc
  ·exact h1 c (qbr hc)
 ·cases hs
def rO{P:Program}{t:TypeId}{x:S0}(hx:x.good)(hlen:x.cells.length=P.cellsOf t)(hi:(P.info? t).isSome=true)(vs:List Value)(off:Nat) :
  dz P t x.val vs off=splice vs off (x.cells.map SL.val):=by
 unfold dz
 have h1:=S0.cells_val hx
 rw[if_pos ⟨by rw[h1];simpa using hlen,hi⟩,if_pos (S0.cells_ok hx),h1]
def nO(hR:Rp ev σ)(ha:abs h=σ.heap){s:Nat}{cs:List SL}{f:List Value->Option (List Value)}{vs:List Value}(he:ah X.C X.pts (oval σ.tmps) o=some (.lset s f))(hloc:σ.loc[s]?=some (some vs))
  (hf:f vs=some (cs.map SL.val)) (hlen:(cs.map SL.val).length=vs.length) (hg:∀c∈cs,c.good) (hrow:gA X.pts o=some s)
  (hk:holds (setD o.dst .un ⟨ev.tm,ev.lc.set s (.row cs)⟩ h K)):Done X holds abs o σ K:=by
 let σ₁:St:={ σ with loc:=σ.loc.set s (some (cs.map SL.val)) }
 have hlt:s<σ.loc.length:=(qaF.1 hloc).1
 have hR1:Rp ⟨ev.tm,ev.lc.set s (.row cs)⟩ σ₁:=by
  refine⟨hR.len,hR.val,by simp[σ₁,hR.llen],λi r hr=>?_⟩
  simp only[qaN]at hr
  split at hr
  next hi=>
   subst hi
   split at hr
   ·cases hr
    exact⟨by simp only[σ₁];rw[qaO hlt],hg⟩
   ·cases hr
  next hi=>
   have:=hR.row i r hr
   have hne:σ₁.loc[i]?=σ.loc[i]?:=by simp only[σ₁];rw[qaB hi]
   cases r<;>first|trivial|(simp only[LR.ok]at this ⊢;rw[hne];exact this)
 obtain⟨ev',h1,h2⟩:=rH (dst:=o.dst) hR1 (s:=.un) trivial hk
 refine⟨σ₁.put o.dst undef,ev',h,.inl ⟨_,he,(σ₁,undef),by simp[aD,hloc,hf,σ₁],rfl⟩,h1,?_,?_,h2⟩
 ·rw[ha];cases o.dst<;>rfl
 ·have hf:=Fr.put (σ:=σ₁) o.dst undef (qu X.pts o).toList (gA X.pts o).toList
  have h0:Fr o.dst.toList (qu X.pts o).toList (gA X.pts o).toList σ σ₁:=by
   refine⟨rfl,by simp[σ₁],λ_ _ h _ _=>h,λ_ _ _ h _ _=>h,λi y hs hn=>?_,λi ws hs hn=>?_⟩
   ·rw[hrow]at hn
    simp only[Option.toList_some,qao]at hn
    simp only[σ₁]
    rw[qaB (λe=>hn e.symm)];exact hs
   ·by_cases hi:i=s
    ·subst hi
     rw[hloc]at hs
     cases hs
     exact⟨_,by simp only[σ₁];rw[qaO hlt],hlen⟩
    ·exact⟨ws,by simp only[σ₁];rw[qaB (λe=>hi e.symm)];exact hs,rfl⟩
  exact h0.trans hf
def stP_ok{p:Value}{new:List Value}{g:bp}{n:Nat}{acts:List Act1}{cs:List Value}(h:stP p new g n=some (acts,cs)) :
  ∃id off vs vs' e,p = .pointer (some ⟨id,off,none⟩)/\g id=some (.cells vs e true)/\splice vs off new=some vs'/\acts=[.set id (.cells vs' e true)]:=by
 unfold stP at h
 split at h
 next a=>
  split at h
  next hs=>
   split at h
   next vs e hg=>
    obtain⟨vs',h1,h2⟩:=qac.1 h
    obtain⟨b,f,sp⟩:=a
    simp only at hs
    subst hs
    cases h2
    exact⟨b,f,vs,vs',e,rfl,hg,h1,rfl⟩
   ·cases h
  ·cases h
 ·cases h
def store_ok(hA:AlgOk A X.C Sg X.T holds abs)(hR:Rp ev σ)(ha:abs h=σ.heap){t:TypeId}{a y:Operand}{x:S0}(ho:o.op = .store t a y)(hy:sval ev y = .st x)
  (hk:holds (storeE A X o.dst t a x ev h K)):Done X holds abs o σ K:=by
 obtain⟨hy1,hx⟩:=hR.sval hy (by simp)
 have hx:x.good:=hx
 have heff:ah X.C X.pts (oval σ.tmps) o=dx X.C X.pts t a (oval σ.tmps a) x.val:=by simp only[ah,ho,hy1];rfl
 have hnt:=S0.not_tuple hx
 unfold storeE at hk
 split at hk
 ·exact absurd hk hA.fail
 next hc=>
  simp only[qaa]at hc
  obtain⟨hlen,hi⟩:=hc
  have hlen:=qab hlen
  have hw:=rO (P:=X.C.P) (t:=t) hx hlen hi
  split at hk
  next p hkey he=>
   obtain⟨h1,_⟩:=hR.sval he (by simp)
   obtain⟨acts,cs,h',h2,h3,hk1⟩:=hA.heap _ _ _ hk
   simp only[Hp.run]at h2
   rw[ha]at h2 h3
   obtain⟨id,off,vs,vs',e,rfl,g1,g2,rfl⟩:=stP_ok h2
   refine cw (s:=.un) hR (H':=σ.heap.set id (.cells vs' e true)) h3 trivial (f:=gw X.C t id off x.val) ?_ ?_ hk1
   ·rw[heff,dx,hnt,hkey,h1];rfl
   ·simp only[gw,g1,hw,g2,qau];rfl
  next s s' off hkey he=>
   obtain⟨h1,_⟩:=hR.sval he (by simp)
   have hrow:gA X.pts o=some s:=by simp only[gA,ho,hkey]
   split at hk
   next cs hs hst=>
    have hs:s=s':=by simpa using hs
    subst hs
    rw[setK_eq]at hk
    have heff2:ah X.C X.pts (oval σ.tmps) o=some (.lset s λvs=>dz X.C.P t x.val vs off):=by
     rw[heff,dx,hnt,hkey,h1]
     simp[SV.val,gf]
    have hrow0:ev.lc[s]?=some (ev.lc.getD s .unk)∨ev.lc.getD s .unk = .unk:=by
     rw[List.getD_eq_getElem?_getD]
     cases ev.lc[s]?<;>simp
    unfold storeR at hst
    split at hst
    next cs0 hl=>
     obtain⟨q1,q2,q3⟩:=nk hst
     have hlc:ev.lc[s]?=some (.row cs0):=by rcases hrow0 with h|h<;>rw[hl]at h<;>first|exact h|cases h
     have hr:=hR.row s _ hlc
     exact nO hR ha heff2 hr.1 (by rw[hw];exact q1) (by simp[q2]) (q3 hr.2 hx) hrow hk
    next n hl=>
     split at hst
     next hz=>
      cases hst
      simp only[qaa]at hz
      have hz1:=qab hz.1
      have hz2:=qab hz.2
      have hlc:ev.lc[s]?=some (.any n):=by rcases hrow0 with h|h<;>rw[hl]at h<;>first|exact h|cases h
      obtain⟨vs,hv1,hv2⟩:=hR.row s _ hlc
      refine nO hR ha heff2 hv1 ?_ (by rw[hv2,hz2];simp) hx hrow hk
      rw[hw,hz1,splice,if_pos (by simp;omega)]
      simp[show vs.length<=x.cells.length by omega]
     ·cases hst
    ·cases hst
   ·exact absurd hk hA.fail
  next s s' base ix hkey he=>
   obtain⟨h1,_⟩:=hR.sval he (by simp)
   have hrow:gA X.pts o=some s:=by simp only[gA,ho,hkey]
   split at hk
   next cs hs hr=>
    have hs:s=s':=by simpa using hs
    subst hs
    split at hk
    ·exact absurd hk hA.fail
    next hat=>
     obtain⟨ls,hp,hk1⟩:=hA.opt _ _ hk
     obtain⟨cs',r,e1,e2,hk2⟩:=nq hA hk1
     obtain⟨hr0,hk3⟩:=hA.un0 _ _ hk2
     rw[hr0,qa4]at e1
     rw[setK_eq]at hk3
     obtain⟨r1,r2,_⟩:=ig hR hr
     have heff2:ah X.C X.pts (oval σ.tmps) o=some (.lset s λvs=>dz X.C.P t x.val vs (offX base ix)):=by
      rw[heff,dx,hnt,hkey,h1]
      simp[SV.val,gf]
     rw[putL_eq]at hp
     split at hp
     next hle=>
      simp only[qaQ]at hle
      let off:=offX base ix
      have hmid:cutS cs off x.cells.length=some ((cs.drop off).take x.cells.length):=by unfold cutS;rw[if_pos hle]
      have hk0:aE ((cs.drop off).take x.cells.length) (x.cells.map SL.lk)=true:=jE hat (by rw[qaQ];exact hmid)
      let new:=cs.take off++x.cells++cs.drop (off+x.cells.length)
      have hsp:fJ cs off x.cells=some new:=by unfold fJ;rw[if_pos hle]
      obtain⟨q1,q2,q3⟩:=nk hsp
      have hkinds:aE new (cs.map SL.lk)=true:=by
       have hsplit:cs=cs.take off++(cs.drop off).take x.cells.length++cs.drop (off+x.cells.length):=by
        rw[qaH,←qby,qbG,qbG]
       have hlk:∀ {a b:List SL},aE a (b.map SL.lk)=true->a.map SL.lk=b.map SL.lk:=by
        intro a b hab
        induction a generalizing b with
        |nil=>cases b with
         |nil=>rfl
         |cons _ _=>cases hab
        |cons a as0 ih=>cases b with
         |nil=>cases hab
         |cons b bs=>
          simp only[qat,aE,qaa]at hab
          simp only[qat,ih hab.2]
          have:a.lk=b.lk:=by
           have h0:=hab.1
           cases a<;>cases b<;>first|rfl|(simp[SL.is,SL.lk]at h0;done)|(simp only[SL.is,SL.lk]at h0 ⊢;rw[cO h0])
          rw[this]
       have hm:cs.map SL.lk=(cs.take off).map SL.lk++x.cells.map SL.lk++(cs.drop (off+x.cells.length)).map SL.lk:=by
        conv=>lhs;rw[hsplit]
        simp only[qbC]
        rw[hlk hk0]
       rw[hm]
       exact fe (fe (jF _) (jF _)) (jF _)
      have hlf:new.map SL.lf=cs'.map SL.lf:=by
       rw[←e1]
       cases hp
       simp[new,off,qb9,qb8]
      obtain⟨v1,v2⟩:=ff hkinds e2 hlf
      refine nO hR ha heff2 r1 (by rw[hw,←v1];exact q1) (by rw[←v1];simp[q2]) (v2 (q3 r2 hx)) hrow hk3
     ·cases hp
   ·exact absurd hk hA.fail
  ·exact absurd hk hA.fail
end
end Go.Am
end

/-
  PART 3 OF THE PROOF (no conditions).
-/
import Derived.Test.YtoeibflkihlloaaGreatDoorCW2
import Derived.IntWalk
set_option linter.unusedSectionVars false
set_option linter.unusedSimpArgs false
set_option linter.unusedVariables false
set_option linter.constructorNameAsVariable false
set_option linter.defProp false
noncomputable section
set_option maxRecDepth 100000
namespace Go.Am
section
variable {R HT:Type} (A:Alg R HT)
def Alg.k0(l:TD)(k:Value->R):R:=A.unV l λO l=>A.un0 l (k O)
def Alg.k1(l:TD)(k:Int->Int->Int->Int->R):R:=A.unI l λO l=>A.unI l λa0 l=>A.unI l λa1 l=>A.unI l λa2 l=>A.un0 l (k O a0 a1 a2)
def Alg.k2(l:TD)(k:Int->R):R:=A.unI l λO l=>A.un0 l (k O)
def Alg.k3(l:TD)(k:Int->Int->R):R:=A.unI l λO l=>A.unI l λa0 l=>A.un0 l (k O a0)
def Alg.k4(l:Tl)(k:Int->Int->Int->R):R:=A.ucI .i64 l λO l=>A.ucI .i64 l λa0 l=>A.ucI .u8 l λa1 l=>A.uc0 l (k O a0 a1)
def Alg.k5(l:TD)(k:Bool->R):R:=A.unB l λO l=>A.un0 l (k O)
def Alg.k6(l:TD)(k:Int->Int->Int->R):R:=A.unI l λO l=>A.unI l λa0 l=>A.unI l λa1 l=>A.un0 l (k O a0 a1)
def Alg.k7(l:TD)(k:Value->Int->R):R:=A.unV l λO l=>A.unI l λa0 l=>A.un0 l (k O a0)
def Alg.k8(l:Tl)(k:Int->R):R:=A.ucI .u8 l λO l=>A.uc0 l (k O)
def Alg.k9(l:Tl)(k:Int->R):R:=A.ucI .i64 l λO l=>A.uc0 l (k O)
def Alg.k10(l:TD)(k:Value->Int->Int->Int->Value->R):R:=A.unV l λO l=>A.unI l λa0 l=>A.unI l λa1 l=>A.unI l λa2 l=>A.unV l λa3 l=>A.un0 l (k O a0 a1 a2 a3)
def Alg.k11(l:Tl)(k:Int->Int->Int->R):R:=A.ucI .i64 l λO l=>A.ucI .u8 l λa0 l=>A.ucI .u8 l λa1 l=>A.uc0 l (k O a0 a1)
def Alg.k12(l:TD)(k:Value->Int->Int->Value->R):R:=A.unV l λO l=>A.unI l λa0 l=>A.unI l λa1 l=>A.unV l λa2 l=>A.un0 l (k O a0 a1 a2)
def Alg.cd(o:BinOp)(x y:Int)(p q:R):R:=A.cmp o x y λt=>A.cond t p q
def Alg.ix(e:Nat)(x:Value)(n:Int)(w:Nat)(h:HT)(k:Tl->R):R:=A.opt (idS e x n) λp=>A.peek (.lg cc w p) h k
def Alg.fx(e:Nat)(x:Value)(n:Int)(o w:Nat)(h:HT)(k:Tl->R):R:=A.opt (idS e x n) λp=>A.opt (fdP o p) λq=>A.chk q (A.peek (.lg cc w q) h k)
def Alg.c0(f:TM)(ls:TD)(h:HT)(k:HT->Value->R):R:=A.call f ls h λl h=>A.k0 l (k h)
def Alg.c2(f:TM)(ls:TD)(h:HT)(k:HT->Int->R):R:=A.call f ls h λl h=>A.k2 l (k h)
def Alg.c3(f:TM)(ls:TD)(h:HT)(k:HT->Int->Int->R):R:=A.call f ls h λl h=>A.k3 l (k h)
def Alg.c5(f:TM)(ls:TD)(h:HT)(k:HT->Bool->R):R:=A.call f ls h λl h=>A.k5 l (k h)
def Alg.c6(f:TM)(ls:TD)(h:HT)(k:HT->Int->Int->Int->R):R:=A.call f ls h λl h=>A.k6 l (k h)
def Alg.ln(x:Value)(k:Int->R):R:=A.opt (lenS x) k
def Alg.pa(a b:Int)(k:Int->R):R:=A.ari .add .i64 a b k
def Alg.ps(a b:Int)(k:Int->R):R:=A.ari .sub .i64 a b k
def Alg.pm(a b:Int)(k:Int->R):R:=A.ari .mul .i64 a b k
def Alg.pr(a b:Int)(k:Int->R):R:=A.ari .rem .i64 a b k
def Alg.pq(a b:Int)(k:Int->R):R:=A.ari .quo .i64 a b k
def Alg.ci(a:Int)(k:Int->R):R:=A.conv .i64 a k
def qeq:(∀l k,A.k0 l k=A.unV l λa0 l=>A.un0 l (k a0))/\(∀l k,A.k1 l k=A.unI l λa0 l=>A.unI l λa1 l=>A.unI l λa2 l=>A.unI l λa3 l=>A.un0 l (k a0 a1 a2 a3))/\(∀l k,A.k2 l k=A.unI l λa0 l=>A.un0 l (k a0))/\(∀l k,A.k3 l k=A.unI l λa0 l=>A.unI l λa1 l=>A.un0 l (k a0 a1))/\(∀l k,A.k4 l k=A.ucI .i64 l λa0 l=>A.ucI .i64 l λa1 l=>A.ucI .u8 l λa2 l=>A.uc0 l (k a0 a1 a2))/\(∀l k,A.k5 l k=A.unB l λa0 l=>A.un0 l (k a0))/\(∀l k,A.k6 l k=A.unI l λa0 l=>A.unI l λa1 l=>A.unI l λa2 l=>A.un0 l (k a0 a1 a2))/\(∀l k,A.k7 l k=A.unV l λa0 l=>A.unI l λa1 l=>A.un0 l (k a0 a1))/\(∀l k,A.k8 l k=A.ucI .u8 l λa0 l=>A.uc0 l (k a0))/\(∀l k,A.k9 l k=A.ucI .i64 l λa0 l=>A.uc0 l (k a0))/\(∀l k,A.k10 l k=A.unV l λa0 l=>A.unI l λa1 l=>A.unI l λa2 l=>A.unI l λa3 l=>A.unV l λa4 l=>A.un0 l (k a0 a1 a2 a3 a4))/\(∀l k,A.k11 l k=A.ucI .i64 l λa0 l=>A.ucI .u8 l λa1 l=>A.ucI .u8 l λa2 l=>A.uc0 l (k a0 a1 a2))/\(∀l k,A.k12 l k=A.unV l λa0 l=>A.unI l λa1 l=>A.unI l λa2 l=>A.unV l λa3 l=>A.un0 l (k a0 a1 a2 a3))/\(∀o x y p q,A.cd o x y p q=A.cmp o x y λt=>A.cond t p q)/\(∀e x n w h k,A.ix e x n w h k=A.opt (idS e x n) λp=>A.peek (.lg cc w p) h k)/\(∀e x n o w h k,A.fx e x n o w h k=A.opt (idS e x n) λp=>A.opt (fdP o p) λq=>A.chk q (A.peek (.lg cc w q) h k))/\(∀f ls h k,A.c0 f ls h k=A.call f ls h λl h=>A.k0 l (k h))/\(∀f ls h k,A.c2 f ls h k=A.call f ls h λl h=>A.k2 l (k h))/\(∀f ls h k,A.c3 f ls h k=A.call f ls h λl h=>A.k3 l (k h))/\(∀f ls h k,A.c5 f ls h k=A.call f ls h λl h=>A.k5 l (k h))/\(∀f ls h k,A.c6 f ls h k=A.call f ls h λl h=>A.k6 l (k h))/\(∀x k,A.ln x k=A.opt (lenS x) k)/\(∀a b k,A.pa a b k=A.ari .add .i64 a b k)/\(∀a b k,A.ps a b k=A.ari .sub .i64 a b k)/\(∀a b k,A.pm a b k=A.ari .mul .i64 a b k)/\(∀a b k,A.pr a b k=A.ari .rem .i64 a b k)/\(∀a b k,A.pq a b k=A.ari .quo .i64 a b k)/\(∀a k,A.ci a k=A.conv .i64 a k):=by
 refine⟨?_,?_,?_,?_,?_,?_,?_,?_,?_,?_,?_,?_,?_,?_,?_,?_,?_,?_,?_,?_,?_,?_,?_,?_,?_,?_,?_,?_⟩<;>intros<;>rfl
variable(ls:TD)(h:HT)(K:TD->HT->R)
def f3:R:=A.unI ls λn o=>A.unI o λp q=>A.k0 q λr=>A.c0 5 [.i n,.i p,.v r] h λs l=>A.c0 6 [.v l] s λt c=>A.call 7 [.v c] t λu w=>A.unV u λd x=>A.k1 x λe f g y=>A.call 8 [.v c,.v d,.i e,.i f,.i g] w λz B=>A.unB z λC D=>A.k2 D λE=>A.c3 9 [.v d] B λF G H=>A.c3 10 [.v c] F λa m I=>A.cd .neq y 0 (K [.b false] a) (A.cd .neq E 0 (K [.b false] a) (A.cd .neq H 0 (K [.b false] a) (A.cd .neq I 0 (K [.b false] a) (A.cond (!C) (K [.b false] a) (A.opt (capS d) λJ=>A.ln d λL=>A.cd .neq J L (K [.b false] a) (A.ln l λM=>A.cd .neq m M (K [.b false] a) (A.pm 4 m λN=>A.ps N 3 λO=>A.cd .gtr G O (K [.b false] a) (A.opt (idS 3 c 0) λP=>A.peek (.lg cc 3 P) a λQ=>A.k4 Q λS T U=>A.eqs [(.i e,.i S),(.i f,.i T),(.i g,.i U)] λV=>A.cond (!V) (K [.b false] a) (A.call 11 [.v d,.i e,.i f,.i g,.v c] a λW j=>A.unV W λX Y=>A.k5 Y λZ=>A.join (λa0 a1=>A.k5 a0 λa2=>K [.b a2] a1) λk=>A.cond Z (A.ln X λa3=>A.ln c λa4=>A.cd .eql a3 a4 (A.c5 12 [] j λa5 a6=>k [.b a6] a5) (k [.b false] j)) (k [.b false] j))))))))))
def f5:R:=A.unI ls λx y=>A.unI y λz B=>A.k0 B λg=>A.ari .rem .u8 x 7 λC=>A.ci C λD=>A.ps D 3 λE=>A.ari .rem .u8 z 7 λF=>A.ci F λG=>A.ps G 3 λH=>A.new (.cells [.int .i64 E,.int .i64 H,.int .u8 0] 3 true) h λI J=>A.join (λL M=>A.k0 L λN=>K [.v N] M) λj=>A.loop (λO P a=>A.k7 P λb c=>A.ln g λQ=>A.cd .lss c Q (A.ln b λS=>A.cd .lss S 12 (A.cd .lss c 40 (A.opt (idS 2 g c) λT=>A.opt (idP 2 1 T 0) λl=>A.chk l (A.peek (.lg cc 1 l) a λU=>A.k8 U λV=>A.ci V λW=>A.ln b λX=>A.pr W X λY=>A.ix 3 b Y 3 a λZ=>A.k4 Z λd e f=>A.opt (idS 2 g c) λa0=>A.opt (idP 2 1 a0 1) λm=>A.chk m (A.peek (.lg cc 1 m) a λa1=>A.k8 a1 λa2=>A.ari .rem .u8 a2 4 λk=>A.cmp .eql k 0 λa3=>A.join (λa4 a5=>A.k6 a4 λn o p=>A.c5 18 [.v b,.i n,.i o,.i p] a5 λq a6=>A.join (λa7 a8=>A.k0 a7 λa9=>A.pa c 1 λb0=>O [.v a9,.i b0] a8) λr=>A.cond (!a6) (A.new (.cells [.int .i64 n,.int .i64 o,.int .u8 p] 3 true) q λb1 b2=>A.heap (.ap cc 3 24 b (.slice (some ⟨b1,0,some 13⟩) 1 2)) b2 λb3 b4=>A.ucV b3 λs b5=>A.chk s (A.uc0 b5 (r [.v s] b4))) (r [.v b] q)) λt=>A.cond a3 (A.pa d 1 λb6=>t [.i b6,.i e,.i f] a) (A.cmp .eql k 1 λb7=>A.join (λb8 b9=>A.k6 b8 λc0 c1 c2=>t [.i c0,.i c1,.i c2] b9) λu=>A.cond b7 (A.pa e 1 λc3=>u [.i d,.i c3,.i f] a) (A.cmp .eql k 2 λc4=>A.join (λc6 c7=>A.k6 c6 λc8 c9 d0=>u [.i c8,.i c9,.i d0] c7) λw=>A.cond c4 (A.ps d 1 λd1=>w [.i d1,.i e,.i f] a) (A.ps e 1 λd2=>w [.i d,.i d2,.i f] a)))))) (j [.v b] a)) (j [.v b] a)) (j [.v b] a)) [.v (.slice (some ⟨I,0,some 13⟩) 1 2),.i 0] J
def f6:R:=A.k0 ls λg=>A.loop (λq r l=>A.k7 r λa c=>A.ln g λs=>A.cd .lss c s (A.loop (λt u d=>A.k7 u λm j=>A.cd .lss j 4 (A.fx 3 g c 0 1 d λw=>A.k9 w λx=>A.fx 3 g c 1 1 d λy=>A.k9 y λz=>A.new (.cells [.int .i64 x,.int .i64 z,.int .u8 j] 3 true) d λB C=>A.heap (.ap cc 3 24 m (.slice (some ⟨B,0,some 13⟩) 1 2)) C λD E=>A.ucV D λn F=>A.chk n (A.uc0 F (A.ari .add .u8 j 1 λG=>t [.v n,.i G] E))) (A.pa c 1 λH=>q [.v m,.i H] d)) [.v a,.i 0] l) (A.loop (λI J o=>A.k2 J λk=>A.ln a λL=>A.cd .lss k L (A.join (λM N=>A.un0 M (A.pa k 1 λO=>I [.i O] N)) λp=>A.loop (λP Q e=>A.k2 Q λb=>A.cd .gtr b 0 (A.ix 3 a b 3 e λS=>A.k4 S λT U V=>A.ps b 1 λW=>A.ix 3 a W 3 e λX=>A.k4 X λY Z a0=>A.c5 19 [.i T,.i U,.i V,.i Y,.i Z,.i a0] e λf a1=>A.cond a1 (A.ps b 1 λa2=>A.ps b 1 λa3=>A.ix 3 a a3 3 f λa4=>A.k4 a4 λa5 a6 a7=>A.ix 3 a b 3 f λa8=>A.k4 a8 λa9 b0 b1=>A.opt (idS 3 a b) λb2=>A.heap (.st b2 [.int .i64 a5,.int .i64 a6,.int .u8 a7]) f λb7 b3=>A.opt (idS 3 a a2) λb4=>A.heap (.st b4 [.int .i64 a9,.int .i64 b0,.int .u8 b1]) b3 λb8 b5=>A.ps b 1 λb6=>P [.i b6] b5) (p [] f)) (p [] e)) [.i k] o) (K [.v a] o)) [.i 1] l)) [.v (.slice none 0 0),.i 0] h
def f7:R:=A.k0 ls λb=>A.new (.cells [.slice none 0 0] 1 true) h λa H=>A.c2 16 [.v b] H λl m=>A.cd .neq m 0 (A.heap (.st (.pointer (some ⟨a,0,none⟩)) [.slice none 0 0]) l λb5 n=>A.peek (.ld 1 (.pointer (some ⟨a,0,none⟩))) n λI=>A.ucV I λo J=>A.chk o (A.uc0 J (K [.v o,.i 0,.i 0,.i 0,.i m] n))) (A.c0 20 [.v b] l λL M=>A.new (.cells [.map none] 1 true) L λe N=>A.heap (.st (.pointer (some ⟨e,0,none⟩)) [M]) N λb6 f=>A.opt (idS 3 b 0) λO=>A.opt (fdP 0 O) λp=>A.chk p (A.peek (.lg cc 1 p) f λP=>A.k9 P λq=>A.opt (idS 3 b 0) λQ=>A.opt (fdP 1 Q) λr=>A.chk r (A.peek (.lg cc 1 r) f λS=>A.k9 S λs=>A.new (.cells [.int .i64 0] 1 true) f λg T=>A.heap (.st (.pointer (some ⟨g,0,none⟩)) [.int .i64 0]) T λb7 U=>A.new (.cells [.int .i64 0] 1 true) U λc V=>A.heap (.st (.pointer (some ⟨c,0,none⟩)) [.int .i64 0]) V λb8 W=>A.new (.cells [.nilFunc] 1 true) W λd X=>A.chk (.func (.func 21) ⟨[]⟩ ⟨[.pointer (some ⟨e,0,none⟩),.pointer (some ⟨a,0,none⟩),.pointer (some ⟨c,0,none⟩),.pointer (some ⟨g,0,none⟩),.pointer (some ⟨d,0,none⟩)]⟩) (A.heap (.st (.pointer (some ⟨d,0,none⟩)) [.func (.func 21) ⟨[]⟩ ⟨[.pointer (some ⟨e,0,none⟩),.pointer (some ⟨a,0,none⟩),.pointer (some ⟨c,0,none⟩),.pointer (some ⟨g,0,none⟩),.pointer (some ⟨d,0,none⟩)]⟩]) X λb9 t=>A.peek (.lg cc 1 (.pointer (some ⟨d,0,none⟩))) t λY=>A.ucV Y λu Z=>A.chk u (A.uc0 Z (A.callv u [.agg ⟨[.int .i64 q,.int .i64 s,.int .u8 0]⟩] [] t λa0 j=>A.un0 a0 (A.peek (.lg cc 1 (.pointer (some ⟨a,0,none⟩))) j λa1=>A.ucV a1 λw a2=>A.chk w (A.uc0 a2 (A.peek (.lg cc 1 (.pointer (some ⟨c,0,none⟩))) j λa3=>A.k9 a3 λa4=>A.opt (slS 1 w none (some a4) none) λx=>A.chk x (A.c0 23 [.v x] j λa5 a6=>A.heap (.st (.pointer (some ⟨a,0,none⟩)) [a6]) a5 λc1 y=>A.peek (.lg cc 1 (.pointer (some ⟨a,0,none⟩))) y λa7=>A.ucV a7 λz a8=>A.chk z (A.uc0 a8 (A.c2 17 [.v z] y λk B=>A.cd .neq B 0 (A.heap (.st (.pointer (some ⟨a,0,none⟩)) [.slice none 0 0]) k λc3 C=>A.peek (.ld 1 (.pointer (some ⟨a,0,none⟩))) C λa9=>A.ucV a9 λD b0=>A.chk D (A.uc0 b0 (K [.v D,.i 0,.i 0,.i 0,.i B] C))) (A.peek (.lg cc 1 (.pointer (some ⟨a,0,none⟩))) k λb1=>A.ucV b1 λE b2=>A.chk E (A.uc0 b2 (A.heap (.st (.pointer (some ⟨a,0,none⟩)) [E]) k λc4 F=>A.peek (.ld 1 (.pointer (some ⟨a,0,none⟩))) F λb3=>A.ucV b3 λG b4=>A.chk G (A.uc0 b4 (K [.v G,.i q,.i s,.i 0,.i 0] F)))))))))))))))))
def f8:R:=A.unV ls λd s=>A.unV s λt u=>A.k6 u λg j k=>A.c2 16 [.v d] h λl m=>A.cd .neq m 0 (K [.b false,.i m] l) (A.call 24 [.v t] l λw e=>A.k7 w λa n=>A.cd .neq n 0 (K [.b false,.i n] e) (A.cd .neq k 0 (K [.b false,.i 1] e) (A.c5 25 [.v d,.i g,.i j,.i k] e λo x=>A.cond (!x) (K [.b false,.i 1] o) (A.ln a λy=>A.loop (λz B f=>A.k2 B λc=>A.cd .lss c y (A.fx 3 a c 0 1 f λC=>A.k9 C λD=>A.pa D g λE=>A.opt (idS 3 a c) λF=>A.opt (fdP 0 F) λp=>A.chk p (A.heap (.st p [.int .i64 E]) f λP q=>A.fx 3 a c 1 1 q λG=>A.k9 G λH=>A.pa H j λI=>A.opt (idS 3 a c) λJ=>A.opt (fdP 1 J) λr=>A.chk r (A.heap (.st r [.int .i64 I]) q λQ L=>A.pa c 1 λM=>z [.i M] L))) (A.c5 26 [.v a,.v d] f λN O=>K [.b O,.i 0] N)) [.i 0] o))))
def f9:R:=A.k0 ls λa=>A.c2 17 [.v a] h λe f=>A.cd .neq f 0 (K [.i 0,.i f] e) (A.ln a λk=>A.loop (λl m b=>A.k3 m λc d=>A.cd .lss d k (A.ix 1 a d 1 b λn=>A.k8 n λo=>A.c5 27 [.i o] b λg p=>A.join (λq r=>A.k2 q λs=>A.pa d 1 λt=>l [.i s,.i t] r) λj=>A.cond (!p) (A.pa c 1 λu=>j [.i u] g) (j [.i c] g)) (K [.i c,.i 0] b)) [.i 1,.i 0] e)
def f10:R:=A.k0 ls λa=>A.c2 16 [.v a] h λb c=>A.cd .neq c 0 (K [.i 0,.i c] b) (A.ln a λd=>A.pq d 4 λe=>K [.i e,.i 0] b)
def f11:R:=A.k10 ls λf i1 i2 U7 j=>A.join (λi3 i4=>A.k0 i3 λi5=>K [.v i5,.b true] i4) λq=>A.loop (λs i6 t=>A.unV i6 λg i7=>A.k1 i7 λc d a e=>A.ln f λi8=>A.cd .leq e i8 (A.cd .eql e 0 (A.new (.cells [.int .i64 0,.int .i64 1,.int .i64 2,.int .i64 3] 1 true) t λB o=>A.ln f λi9=>A.cd .lss e i9 (A.ix 1 f e 1 o λj0=>A.k8 j0 λj1=>A.cmp .eql j1 3 λj2=>A.join (λj3 C=>A.k0 j3 λJ=>A.ln f λj4=>A.cd .lss e j4 (A.ix 1 f e 1 C λj5=>A.k8 j5 λj6=>A.cmp .eql j6 4 λj7=>A.join (λj8 j9=>A.k0 j8 λb2=>A.loop (λk3 k4 k=>A.k7 k4 λu L=>A.ln b2 λk5=>A.cd .lss L k5 (A.ix 1 b2 L 1 k λl0=>A.k9 l0 λl1=>A.pa a l1 λl2=>A.pa l2 1 λl3=>A.pr l3 4 λl4=>A.conv .u8 l4 λM=>A.c5 18 [.v j,.i c,.i d,.i M] k λb3 l5=>A.cond (!l5) (K [.v (.slice none 0 0),.b false] b3) (A.c5 18 [.v u,.i c,.i d,.i M] b3 λb4 l6=>A.join (λl7 l8=>A.k0 l7 λl9=>A.pa L 1 λm0=>k3 [.v l9,.i m0] l8) λb5=>A.cond (!l6) (A.new (.cells [.int .i64 c,.int .i64 d,.int .u8 M] 3 true) b4 λm1 m2=>A.heap (.ap cc 3 24 u (.slice (some ⟨m1,0,some 13⟩) 1 2)) m2 λm3 m4=>A.ucV m3 λb6 m5=>A.chk b6 (A.uc0 m5 (b5 [.v b6] m4))) (b5 [.v u] b4))) (A.ln f λm6=>A.cd .eql e m6 (q [.v u] k) (A.ix 1 f e 1 k λm7=>A.k8 m7 λN=>A.cmp .eql N 1 λm8=>A.join (λm9 n0=>A.k6 m9 λn1 n2 n3=>A.pa e 1 λn4=>s [.v u,.i n1,.i n2,.i n3,.i n4] n0) λb7=>A.cond m8 (A.new (.cells [.int .i64 1,.int .i64 0,.int .i64 (-1),.int .i64 0] 1 true) k λn5 b8=>A.opt (idS 1 (.slice (some ⟨n5,0,some 11⟩) 4 5) a) λn6=>A.peek (.lg cc 1 n6) b8 λn7=>A.k9 n7 λn8=>A.pa c n8 λn9=>A.new (.cells [.int .i64 0,.int .i64 1,.int .i64 0,.int .i64 (-1)] 1 true) b8 λo0 b9=>A.opt (idS 1 (.slice (some ⟨o0,0,some 11⟩) 4 5) a) λo1=>A.peek (.lg cc 1 o1) b9 λo2=>A.k9 o2 λo3=>A.pa d o3 λo4=>b7 [.i n9,.i o4,.i a] b9) (A.cmp .eql N 2 λo5=>A.join (λo6 o7=>A.k2 o6 λo8=>b7 [.i c,.i d,.i o8] o7) λc0=>A.cond o5 (A.pa a 2 λo9=>A.pr o9 4 λp0=>c0 [.i p0] k) (A.cmp .eql N 3 λp1=>A.join (λp2 p3=>A.k2 p2 λp4=>c0 [.i p4] p3) λc1=>A.cond p1 (A.pa a 1 λp5=>A.pr p5 4 λp6=>c1 [.i p6] k) (A.pa a 3 λp7=>A.pr p7 4 λp8=>c1 [.i p8] k)))))) [.v g,.i 0] j9) λc2=>A.cond j7 (A.new (.cells [.int .i64 2,.int .i64 3] 1 true) C λp9 q0=>c2 [.v (.slice (some ⟨p9,0,some 11⟩) 2 3)] q0) (c2 [.v J] C)) (A.loop (λq1 q2 l=>A.k7 q2 λw O=>A.ln J λq3=>A.cd .lss O q3 (A.ix 1 J O 1 l λq4=>A.k9 q4 λq5=>A.pa a q5 λq6=>A.pa q6 1 λq7=>A.pr q7 4 λq8=>A.conv .u8 q8 λP=>A.c5 18 [.v j,.i c,.i d,.i P] l λc3 q9=>A.cond (!q9) (K [.v (.slice none 0 0),.b false] c3) (A.c5 18 [.v w,.i c,.i d,.i P] c3 λc4 r0=>A.join (λr1 r2=>A.k0 r1 λr3=>A.pa O 1 λr4=>q1 [.v r3,.i r4] r2) λc6=>A.cond (!r0) (A.new (.cells [.int .i64 c,.int .i64 d,.int .u8 P] 3 true) c4 λr5 r6=>A.heap (.ap cc 3 24 w (.slice (some ⟨r5,0,some 13⟩) 1 2)) r6 λr7 r8=>A.ucV r7 λc7 r9=>A.chk c7 (A.uc0 r9 (c6 [.v c7] r8))) (c6 [.v w] c4))) (A.ln f λs0=>A.cd .eql e s0 (q [.v w] l) (A.ix 1 f e 1 l λs1=>A.k8 s1 λQ=>A.cmp .eql Q 1 λs2=>A.join (λs3 s4=>A.k6 s3 λs5 s6 s7=>A.pa e 1 λs8=>s [.v w,.i s5,.i s6,.i s7,.i s8] s4) λc8=>A.cond s2 (A.new (.cells [.int .i64 1,.int .i64 0,.int .i64 (-1),.int .i64 0] 1 true) l λs9 c9=>A.opt (idS 1 (.slice (some ⟨s9,0,some 11⟩) 4 5) a) λt0=>A.peek (.lg cc 1 t0) c9 λt1=>A.k9 t1 λt2=>A.pa c t2 λt3=>A.new (.cells [.int .i64 0,.int .i64 1,.int .i64 0,.int .i64 (-1)] 1 true) c9 λt4 d0=>A.opt (idS 1 (.slice (some ⟨t4,0,some 11⟩) 4 5) a) λt5=>A.peek (.lg cc 1 t5) d0 λt6=>A.k9 t6 λt7=>A.pa d t7 λt8=>c8 [.i t3,.i t8,.i a] d0) (A.cmp .eql Q 2 λt9=>A.join (λu0 u1=>A.k2 u0 λu2=>c8 [.i c,.i d,.i u2] u1) λd1=>A.cond t9 (A.pa a 2 λu3=>A.pr u3 4 λu4=>d1 [.i u4] l) (A.cmp .eql Q 3 λu5=>A.join (λu6 u7=>A.k2 u6 λu9=>d1 [.i u9] u7) λd2=>A.cond u5 (A.pa a 1 λv0=>A.pr v0 4 λv1=>d2 [.i v1] l) (A.pa a 3 λv2=>A.pr v2 4 λv3=>d2 [.i v3] l)))))) [.v g,.i 0] C)) λd3=>A.cond j2 (A.new (.cells [.int .i64 1,.int .i64 2] 1 true) o λv4 v5=>d3 [.v (.slice (some ⟨v4,0,some 11⟩) 2 3)] v5) (d3 [.v (.slice (some ⟨B,0,some 11⟩) 4 5)] o)) (A.ln f λv6=>A.cd .lss e v6 (A.ix 1 f e 1 o λv7=>A.k8 v7 λv8=>A.cmp .eql v8 4 λv9=>A.join (λw0 w1=>A.k0 w0 λd4=>A.loop (λw2 w3 m=>A.k7 w3 λx S=>A.ln d4 λw4=>A.cd .lss S w4 (A.ix 1 d4 S 1 m λw5=>A.k9 w5 λw6=>A.pa a w6 λw7=>A.pa w7 1 λw8=>A.pr w8 4 λw9=>A.conv .u8 w9 λT=>A.c5 18 [.v j,.i c,.i d,.i T] m λd5 x0=>A.cond (!x0) (K [.v (.slice none 0 0),.b false] d5) (A.c5 18 [.v x,.i c,.i d,.i T] d5 λd6 x1=>A.join (λx2 x3=>A.k0 x2 λx4=>A.pa S 1 λx5=>w2 [.v x4,.i x5] x3) λd7=>A.cond (!x1) (A.new (.cells [.int .i64 c,.int .i64 d,.int .u8 T] 3 true) d6 λx6 x7=>A.heap (.ap cc 3 24 x (.slice (some ⟨x6,0,some 13⟩) 1 2)) x7 λx8 x9=>A.ucV x8 λd8 y0=>A.chk d8 (A.uc0 y0 (d7 [.v d8] x9))) (d7 [.v x] d6))) (A.ln f λy1=>A.cd .eql e y1 (q [.v x] m) (A.ix 1 f e 1 m λy2=>A.k8 y2 λU=>A.cmp .eql U 1 λy3=>A.join (λy4 y5=>A.k6 y4 λy6 y7 y8=>A.pa e 1 λy9=>s [.v x,.i y6,.i y7,.i y8,.i y9] y5) λd9=>A.cond y3 (A.new (.cells [.int .i64 1,.int .i64 0,.int .i64 (-1),.int .i64 0] 1 true) m λz0 e0=>A.opt (idS 1 (.slice (some ⟨z0,0,some 11⟩) 4 5) a) λz1=>A.peek (.lg cc 1 z1) e0 λz2=>A.k9 z2 λz3=>A.pa c z3 λz4=>A.new (.cells [.int .i64 0,.int .i64 1,.int .i64 0,.int .i64 (-1)] 1 true) e0 λz5 e1=>A.opt (idS 1 (.slice (some ⟨z5,0,some 11⟩) 4 5) a) λz6=>A.peek (.lg cc 1 z6) e1 λz7=>A.k9 z7 λz8=>A.pa d z8 λz9=>d9 [.i z4,.i z9,.i a] e1) (A.cmp .eql U 2 λA0=>A.join (λA1 A2=>A.k2 A1 λA3=>d9 [.i c,.i d,.i A3] A2) λe2=>A.cond A0 (A.pa a 2 λA4=>A.pr A4 4 λA5=>e2 [.i A5] m) (A.cmp .eql U 3 λA6=>A.join (λA7 A8=>A.k2 A7 λA9=>e2 [.i A9] A8) λe3=>A.cond A6 (A.pa a 1 λB0=>A.pr B0 4 λB1=>e3 [.i B1] m) (A.pa a 3 λB2=>A.pr B2 4 λB3=>e3 [.i B3] m)))))) [.v g,.i 0] w1) λe4=>A.cond v9 (A.new (.cells [.int .i64 2,.int .i64 3] 1 true) o λB4 B5=>e4 [.v (.slice (some ⟨B4,0,some 11⟩) 2 3)] B5) (e4 [.v (.slice (some ⟨B,0,some 11⟩) 4 5)] o)) (A.loop (λB6 B7 n=>A.k7 B7 λy V=>A.opt (lenS (.slice (some ⟨B,0,some 11⟩) 4 5)) λB8=>A.cd .lss V B8 (A.opt (idS 1 (.slice (some ⟨B,0,some 11⟩) 4 5) V) λB9=>A.peek (.lg cc 1 B9) n λC0=>A.k9 C0 λC1=>A.pa a C1 λC2=>A.pa C2 1 λC3=>A.pr C3 4 λC4=>A.conv .u8 C4 λW=>A.c5 18 [.v j,.i c,.i d,.i W] n λe5 C5=>A.cond (!C5) (K [.v (.slice none 0 0),.b false] e5) (A.c5 18 [.v y,.i c,.i d,.i W] e5 λe6 C6=>A.join (λC7 C8=>A.k0 C7 λC9=>A.pa V 1 λD0=>B6 [.v C9,.i D0] C8) λe7=>A.cond (!C6) (A.new (.cells [.int .i64 c,.int .i64 d,.int .u8 W] 3 true) e6 λD1 D2=>A.heap (.ap cc 3 24 y (.slice (some ⟨D1,0,some 13⟩) 1 2)) D2 λD3 D4=>A.ucV D3 λe8 D5=>A.chk e8 (A.uc0 D5 (e7 [.v e8] D4))) (e7 [.v y] e6))) (A.ln f λD6=>A.cd .eql e D6 (q [.v y] n) (A.ix 1 f e 1 n λD7=>A.k8 D7 λX=>A.cmp .eql X 1 λD8=>A.join (λD9 E0=>A.k6 D9 λE1 E2 E3=>A.pa e 1 λE4=>s [.v y,.i E1,.i E2,.i E3,.i E4] E0) λe9=>A.cond D8 (A.new (.cells [.int .i64 1,.int .i64 0,.int .i64 (-1),.int .i64 0] 1 true) n λE5 f0=>A.opt (idS 1 (.slice (some ⟨E5,0,some 11⟩) 4 5) a) λE6=>A.peek (.lg cc 1 E6) f0 λE7=>A.k9 E7 λE8=>A.pa c E8 λE9=>A.new (.cells [.int .i64 0,.int .i64 1,.int .i64 0,.int .i64 (-1)] 1 true) f0 λF0 f1=>A.opt (idS 1 (.slice (some ⟨F0,0,some 11⟩) 4 5) a) λF1=>A.peek (.lg cc 1 F1) f1 λF2=>A.k9 F2 λF3=>A.pa d F3 λF4=>e9 [.i E9,.i F4,.i a] f1) (A.cmp .eql X 2 λF5=>A.join (λF6 F7=>A.k2 F6 λF8=>e9 [.i c,.i d,.i F8] F7) λf2=>A.cond F5 (A.pa a 2 λF9=>A.pr F9 4 λG0=>f2 [.i G0] n) (A.cmp .eql X 3 λG1=>A.join (λG2 G3=>A.k2 G2 λG4=>f2 [.i G4] G3) λf3=>A.cond G1 (A.pa a 1 λG5=>A.pr G5 4 λG6=>f3 [.i G6] n) (A.pa a 3 λG7=>A.pr G7 4 λG8=>f3 [.i G8] n)))))) [.v g,.i 0] o))) (A.ps e 1 λG9=>A.ix 1 f G9 1 t λH0=>A.k8 H0 λH1=>A.cmp .lss H1 3 λH2=>A.join (λH3 r=>A.k0 H3 λf4=>A.ln f λH4=>A.cd .eql e H4 (q [.v f4] r) (A.ix 1 f e 1 r λH5=>A.k8 H5 λY=>A.cmp .eql Y 1 λH6=>A.join (λH7 H8=>A.k6 H7 λH9 I0 I1=>A.pa e 1 λI2=>s [.v f4,.i H9,.i I0,.i I1,.i I2] H8) λf5=>A.cond H6 (A.new (.cells [.int .i64 1,.int .i64 0,.int .i64 (-1),.int .i64 0] 1 true) r λI3 f6=>A.opt (idS 1 (.slice (some ⟨I3,0,some 11⟩) 4 5) a) λI4=>A.peek (.lg cc 1 I4) f6 λI5=>A.k9 I5 λI6=>A.pa c I6 λI7=>A.new (.cells [.int .i64 0,.int .i64 1,.int .i64 0,.int .i64 (-1)] 1 true) f6 λI8 f7=>A.opt (idS 1 (.slice (some ⟨I8,0,some 11⟩) 4 5) a) λI9=>A.peek (.lg cc 1 I9) f7 λJ0=>A.k9 J0 λJ1=>A.pa d J1 λJ2=>f5 [.i I7,.i J2,.i a] f7) (A.cmp .eql Y 2 λJ3=>A.join (λJ4 J5=>A.k2 J4 λJ6=>f5 [.i c,.i d,.i J6] J5) λf8=>A.cond J3 (A.pa a 2 λJ7=>A.pr J7 4 λJ8=>f8 [.i J8] r) (A.cmp .eql Y 3 λJ9=>A.join (λK0 K1=>A.k2 K0 λK2=>f8 [.i K2] K1) λf9=>A.cond J9 (A.pa a 1 λK3=>A.pr K3 4 λK4=>f9 [.i K4] r) (A.pa a 3 λK5=>A.pr K5 4 λK6=>f9 [.i K6] r))))) λz=>A.cond H2 (A.new (.cells [.int .i64 0,.int .i64 1,.int .i64 2,.int .i64 3] 1 true) t λD p=>A.ln f λK7=>A.cd .lss e K7 (A.ix 1 f e 1 p λK8=>A.k8 K8 λK9=>A.cmp .eql K9 3 λL0=>A.join (λL1 E=>A.k0 L1 λZ=>A.ln f λL2=>A.cd .lss e L2 (A.ix 1 f e 1 E λL3=>A.k8 L3 λL4=>A.cmp .eql L4 4 λL5=>A.join (λL6 L7=>A.k0 L6 λg0=>A.loop (λL8 L9 a0=>A.k7 L9 λF a1=>A.ln g0 λM0=>A.cd .lss a1 M0 (A.ix 1 g0 a1 1 a0 λM1=>A.k9 M1 λM2=>A.pa a M2 λM3=>A.pa M3 1 λM4=>A.pr M4 4 λM5=>A.conv .u8 M5 λa2=>A.c5 18 [.v j,.i c,.i d,.i a2] a0 λg1 M6=>A.cond (!M6) (K [.v (.slice none 0 0),.b false] g1) (A.c5 18 [.v F,.i c,.i d,.i a2] g1 λg2 M7=>A.join (λM8 M9=>A.k0 M8 λN0=>A.pa a1 1 λN1=>L8 [.v N0,.i N1] M9) λg3=>A.cond (!M7) (A.new (.cells [.int .i64 c,.int .i64 d,.int .u8 a2] 3 true) g2 λN2 N3=>A.heap (.ap cc 3 24 F (.slice (some ⟨N2,0,some 13⟩) 1 2)) N3 λN4 N5=>A.ucV N4 λg4 N6=>A.chk g4 (A.uc0 N6 (g3 [.v g4] N5))) (g3 [.v F] g2))) (z [.v F] a0)) [.v g,.i 0] L7) λg5=>A.cond L5 (A.new (.cells [.int .i64 2,.int .i64 3] 1 true) E λN7 N8=>g5 [.v (.slice (some ⟨N7,0,some 11⟩) 2 3)] N8) (g5 [.v Z] E)) (A.loop (λN9 O0 a3=>A.k7 O0 λG a4=>A.ln Z λO1=>A.cd .lss a4 O1 (A.ix 1 Z a4 1 a3 λO2=>A.k9 O2 λO3=>A.pa a O3 λO4=>A.pa O4 1 λO5=>A.pr O5 4 λO6=>A.conv .u8 O6 λa5=>A.c5 18 [.v j,.i c,.i d,.i a5] a3 λg6 O7=>A.cond (!O7) (K [.v (.slice none 0 0),.b false] g6) (A.c5 18 [.v G,.i c,.i d,.i a5] g6 λg7 O8=>A.join (λO9 P0=>A.k0 O9 λP1=>A.pa a4 1 λP2=>N9 [.v P1,.i P2] P0) λg8=>A.cond (!O8) (A.new (.cells [.int .i64 c,.int .i64 d,.int .u8 a5] 3 true) g7 λP3 P4=>A.heap (.ap cc 3 24 G (.slice (some ⟨P3,0,some 13⟩) 1 2)) P4 λP5 P6=>A.ucV P5 λg9 P7=>A.chk g9 (A.uc0 P7 (g8 [.v g9] P6))) (g8 [.v G] g7))) (z [.v G] a3)) [.v g,.i 0] E)) λh0=>A.cond L0 (A.new (.cells [.int .i64 1,.int .i64 2] 1 true) p λP8 P9=>h0 [.v (.slice (some ⟨P8,0,some 11⟩) 2 3)] P9) (h0 [.v (.slice (some ⟨D,0,some 11⟩) 4 5)] p)) (A.ln f λQ0=>A.cd .lss e Q0 (A.ix 1 f e 1 p λQ1=>A.k8 Q1 λQ2=>A.cmp .eql Q2 4 λQ3=>A.join (λQ4 Q5=>A.k0 Q4 λh1=>A.loop (λQ6 Q7 a6=>A.k7 Q7 λH a7=>A.ln h1 λQ8=>A.cd .lss a7 Q8 (A.ix 1 h1 a7 1 a6 λQ9=>A.k9 Q9 λR0=>A.pa a R0 λR1=>A.pa R1 1 λR2=>A.pr R2 4 λR3=>A.conv .u8 R3 λa8=>A.c5 18 [.v j,.i c,.i d,.i a8] a6 λh2 R4=>A.cond (!R4) (K [.v (.slice none 0 0),.b false] h2) (A.c5 18 [.v H,.i c,.i d,.i a8] h2 λh3 R5=>A.join (λR6 R7=>A.k0 R6 λR8=>A.pa a7 1 λR9=>Q6 [.v R8,.i R9] R7) λh4=>A.cond (!R5) (A.new (.cells [.int .i64 c,.int .i64 d,.int .u8 a8] 3 true) h3 λS0 S1=>A.heap (.ap cc 3 24 H (.slice (some ⟨S0,0,some 13⟩) 1 2)) S1 λS2 S3=>A.ucV S2 λh5 S4=>A.chk h5 (A.uc0 S4 (h4 [.v h5] S3))) (h4 [.v H] h3))) (z [.v H] a6)) [.v g,.i 0] Q5) λh6=>A.cond Q3 (A.new (.cells [.int .i64 2,.int .i64 3] 1 true) p λS5 S6=>h6 [.v (.slice (some ⟨S5,0,some 11⟩) 2 3)] S6) (h6 [.v (.slice (some ⟨D,0,some 11⟩) 4 5)] p)) (A.loop (λS7 S8 a9=>A.k7 S8 λI b0=>A.opt (lenS (.slice (some ⟨D,0,some 11⟩) 4 5)) λS9=>A.cd .lss b0 S9 (A.opt (idS 1 (.slice (some ⟨D,0,some 11⟩) 4 5) b0) λT0=>A.peek (.lg cc 1 T0) a9 λT1=>A.k9 T1 λT2=>A.pa a T2 λT3=>A.pa T3 1 λT4=>A.pr T4 4 λT5=>A.conv .u8 T5 λb1=>A.c5 18 [.v j,.i c,.i d,.i b1] a9 λh7 T6=>A.cond (!T6) (K [.v (.slice none 0 0),.b false] h7) (A.c5 18 [.v I,.i c,.i d,.i b1] h7 λh8 T7=>A.join (λT8 T9=>A.k0 T8 λU0=>A.pa b0 1 λU1=>S7 [.v U0,.i U1] T9) λh9=>A.cond (!T7) (A.new (.cells [.int .i64 c,.int .i64 d,.int .u8 b1] 3 true) h8 λU2 U3=>A.heap (.ap cc 3 24 I (.slice (some ⟨U2,0,some 13⟩) 1 2)) U3 λU4 U5=>A.ucV U4 λi0 U6=>A.chk i0 (A.uc0 U6 (h9 [.v i0] U5))) (h9 [.v I] h8))) (z [.v I] a9)) [.v g,.i 0] p))) (z [.v g] t))) (q [.v g] t)) [.v (.slice none 0 0),.i i1,.i i2,.i 0,.i 0] h
def f12:R:=A.un0 ls (A.new (.cells [.int .i64 0,.int .i64 0,.int .u8 0] 3 true) h λp q=>A.new (.cells [.int .i64 0,.int .i64 0,.int .u8 0,.int .i64 1,.int .i64 0,.int .u8 0] 3 true) q λr s=>A.new (.cells [.int .i64 0,.int .i64 0,.int .u8 0,.int .i64 0,.int .i64 1,.int .u8 0] 3 true) s λt u=>A.new (.cells [.int .i64 0,.int .i64 0,.int .u8 0,.int .i64 1,.int .i64 0,.int .u8 0,.int .i64 2,.int .i64 0,.int .u8 0] 3 true) u λw x=>A.new (.cells [.int .i64 0,.int .i64 0,.int .u8 0,.int .i64 1,.int .i64 0,.int .u8 0,.int .i64 0,.int .i64 1,.int .u8 0] 3 true) x λy z=>A.new (.cells [.slice (some ⟨p,0,some 13⟩) 1 2,.slice (some ⟨r,0,some 13⟩) 2 3,.slice (some ⟨t,0,some 13⟩) 2 3,.slice (some ⟨w,0,some 13⟩) 3 4,.slice (some ⟨y,0,some 13⟩) 3 4] 1 true) z λj B=>A.new (.cells [.string (.mk ⟨[]⟩),.string (.mk ⟨[.ofNat 102]⟩),.string (.mk ⟨[.ofNat 98,.ofNat 114,.ofNat 102]⟩),.string (.mk ⟨[.ofNat 102,.ofNat 102]⟩),.string (.mk ⟨[.ofNat 102,.ofNat 98,.ofNat 102,.ofNat 98,.ofNat 108,.ofNat 102]⟩)] 1 true) B λC D=>A.new (.cells [.int .i64 1,.int .i64 2,.int .i64 3,.int .i64 3,.int .i64 6] 1 true) D λE F=>A.new (.cells [.int .i64 1,.int .i64 2,.int .i64 3,.int .i64 3,.int .i64 5] 1 true) F λG H=>A.loop (λI J e=>A.k2 J λc=>A.opt (lenS (.slice (some ⟨j,0,some 11⟩) 5 6)) λL=>A.cd .lss c L (A.opt (idS 1 (.slice (some ⟨j,0,some 11⟩) 5 6) c) λM=>A.peek (.lg cc 1 M) e λN=>A.ucV N λk O=>A.chk k (A.uc0 O (A.c0 6 [.v k] e λP f=>A.call 7 [.v f] P λQ S=>A.unV Q λg T=>A.k1 T λl m n U=>A.c3 9 [.v g] S λV W X=>A.c3 15 [.v f] V λY Z a0=>A.call 8 [.v f,.v g,.i l,.i m,.i n] Y λa1 d=>A.unB a1 λa2 a3=>A.k2 a3 λa4=>A.cd .neq U 0 (K [.b false] d) (A.cd .neq X 0 (K [.b false] d) (A.cd .neq a0 0 (K [.b false] d) (A.cd .neq a4 0 (K [.b false] d) (A.cond (!a2) (K [.b false] d) (A.c0 28 [.v g] d λa a5=>A.opt (idS 1 (.slice (some ⟨C,0,some 11⟩) 5 6) c) λa6=>A.peek (.lg cc 1 a6) a λa7=>A.ucV a7 λo a8=>A.chk o (A.uc0 a8 (A.opt (strEq a5 o) λa9=>A.cond (!a9) (K [.b false] a) (A.opt (idS 1 (.slice (some ⟨E,0,some 11⟩) 5 6) c) λb0=>A.peek (.lg cc 1 b0) a λb1=>A.k9 b1 λb2=>A.cd .neq W b2 (K [.b false] a) (A.opt (idS 1 (.slice (some ⟨G,0,some 11⟩) 5 6) c) λb3=>A.peek (.lg cc 1 b3) a λb4=>A.k9 b4 λb5=>A.cd .neq Z b5 (K [.b false] a) (A.eqs [(.i l,.i 0),(.i m,.i 0),(.i n,.i 0)] λb6=>A.cond (!b6) (K [.b false] a) (A.pa c 1 λb7=>I [.i b7] a)))))))))))))) (K [.b true] e)) [.i 0] H)
def f13:R:=A.k0 ls λa=>A.ln a λf=>A.cd .gtr f 1024 (K [.i 3] h) (A.c5 29 [.v a] h λd g=>A.cond g (K [.i 1] d) (A.loop (λj k b=>A.k2 k λc=>A.ln a λl=>A.cd .lss c l (A.ps c 1 λm=>A.ix 3 a m 3 b λn=>A.k4 n λo p q=>A.ix 3 a c 3 b λr=>A.k4 r λs t u=>A.c2 30 [.i o,.i p,.i q,.i s,.i t,.i u] b λe w=>A.cd .geq w 0 (K [.i 6] e) (A.pa c 1 λx=>j [.i x] e)) (K [.i 0] b)) [.i 1] d))
def f15:R:=A.k0 ls λa=>A.c3 10 [.v a] h λp b2 Q=>A.cd .neq Q 0 (K [.i 0,.i Q] p) (A.cd .gtr b2 3 (K [.i 0,.i 3] p) (A.new (.map [] 0) p λS b3=>A.ln a λb4=>A.loop (λb5 b6 e=>A.k7 b6 λq r=>A.cd .lss r b4 (A.ix 3 a r 3 e λb7=>A.k4 b7 λb8 b9 T=>A.cmp .eql T 0 λc0=>A.join (λc1 c4=>A.k0 c1 λc7=>A.pa r 1 λc8=>b5 [.v c7,.i c8] c4) λU=>A.cond c0 (A.new (.cells [.int .i64 b8,.int .i64 b9,.int .u8 T,.int .i64 0,.bool false,.bool false,.bool false,.bool false,.bool false,.bool false,.bool false,.bool false,.bool false,.bool false,.bool false,.bool false] 16 true) e λc9 d0=>A.heap (.ap cc 16 48 q (.slice (some ⟨c9,0,some 26⟩) 1 2)) d0 λd1 d2=>A.ucV d1 λV d3=>A.chk V (A.uc0 d3 (U [.v V] d2))) (U [.v q] e)) (A.loop (λd4 d5 d6=>A.k7 d5 λW X=>A.ln W λd7=>A.loop (λd8 d9 s=>A.k7 d9 λY t=>A.cd .lss t d7 (A.ix 16 W t 16 s λe0=>A.ucI .i64 e0 λu e1=>A.ucI .i64 e1 λw e2=>A.ucI .u8 e2 λZ e3=>A.ucI .i64 e3 λf e4=>A.ucB e4 λe5 e6=>A.ucB e6 λe7 e8=>A.ucB e8 λe9 f0=>A.ucB f0 λf1 f2=>A.ucB f2 λf3 f4=>A.ucB f4 λf5 f6=>A.ucB f6 λf7 f8=>A.ucB f8 λf9 g0=>A.ucB g0 λg1 g2=>A.ucB g2 λg3 g4=>A.ucB g4 λg5 g6=>A.ucB g6 λg7 g8=>A.uc0 g8 (A.loop (λg9 h0 a0=>A.k7 h0 λa1 g=>A.cd .lss g 3 (A.new (.cells [.bool false,.bool false,.bool false,.bool false,.bool false,.bool false,.bool false,.bool false,.bool false,.bool false,.bool false,.bool false] 1 true) a0 λc h1=>A.heap (.st (.pointer (some ⟨c,0,none⟩)) [.bool e5,.bool e7,.bool e9,.bool f1,.bool f3,.bool f5,.bool f7,.bool f9,.bool g1,.bool g3,.bool g5,.bool g7]) h1 λu3 h2=>A.new (.cells [.int .i64 0,.int .i64 1,.int .i64 2,.int .i64 3] 1 true) h2 λh3 x=>A.cmp .eql g 1 λh4=>A.join (λh5 h6=>A.k7 h5 λa2 y=>A.ln a2 λh7=>A.loop (λh8 h9 j=>A.k2 h9 λz=>A.cd .lss z h7 (A.ix 1 a2 z 1 j λi0=>A.k9 i0 λi1=>A.pa f i1 λi2=>A.pa i2 1 λi3=>A.pr i3 4 λi4=>A.conv .u8 i4 λi5=>A.c2 31 [.v a,.i u,.i w,.i i5] j λi6 i7=>A.opt (idP 12 1 (.pointer (some ⟨c,0,none⟩)) i7) λa3=>A.chk a3 (A.heap (.st a3 [.bool true]) i6 λu4 i8=>A.pa z 1 λi9=>h8 [.i i9] i8)) (A.ln a λj0=>A.peek (.fn (slAG 12 1 (.pointer (some ⟨c,0,none⟩)) none (some j0) none)) j λj1=>A.ucV j1 λa4 j2=>A.chk a4 (A.uc0 j2 (A.c5 32 [.v a4,.b false] j λa5 j3=>A.cond (!j3) (K [.i X,.i 0] a5) (A.c6 22 [.i u,.i w,.i Z,.i y] a5 λB j4 j5 j6=>A.peek (.lg cc 12 (.pointer (some ⟨c,0,none⟩))) B λj7=>A.ucB j7 λj8 j9=>A.ucB j9 λk1 k3=>A.ucB k3 λk6 k8=>A.ucB k8 λl0 l1=>A.ucB l1 λl2 l3=>A.ucB l3 λl4 l5=>A.ucB l5 λl6 l7=>A.ucB l7 λl8 l9=>A.ucB l9 λm0 m1=>A.ucB m1 λm2 m3=>A.ucB m3 λm4 m5=>A.ucB m5 λm6 m7=>A.uc0 m7 (A.pa y 2 λm8=>A.pr m8 4 λm9=>A.peek (.lg cc 12 (.pointer (some ⟨c,0,none⟩))) B λn0=>A.ucB n0 λn1 n2=>A.ucB n2 λn3 n4=>A.ucB n4 λn5 n6=>A.ucB n6 λn7 n8=>A.ucB n8 λn9 o0=>A.ucB o0 λo1 o2=>A.ucB o2 λo3 o4=>A.ucB o4 λo5 o6=>A.ucB o6 λo7 o8=>A.ucB o8 λo9 p0=>A.ucB p0 λp1 p2=>A.ucB p2 λp3 p4=>A.uc0 p4 (A.loop (λa6 p5 a7=>A.k7 p5 λk d=>A.cd .lss d 2 (A.opt (inB 2 d) λu5=>A.opt (rj [.i j4,.i j5,.i j6,.i y,.b j8,.b k1,.b k6,.b l0,.b l2,.b l4,.b l6,.b l8,.b m0,.b m2,.b m4,.b m6,.i u,.i w,.i Z,.i m9,.b n1,.b n3,.b n5,.b n7,.b n9,.b o1,.b o3,.b o5,.b o7,.b o9,.b p1,.b p3] 0 [(d,16)] 16) λp6=>A.unI p6 λl p7=>A.unI p7 λm p8=>A.unI p8 λn p9=>A.unI p9 λC q0=>A.unB q0 λD q1=>A.unB q1 λE q2=>A.unB q2 λF q3=>A.unB q3 λG q4=>A.unB q4 λH q5=>A.unB q5 λI q6=>A.unB q6 λJ q7=>A.unB q7 λL q8=>A.unB q8 λM q9=>A.unB q9 λN r0=>A.unB r0 λO r1=>A.k5 r1 λP=>A.c5 25 [.v a,.i l,.i m,.i n] a7 λo r2=>A.cond r2 (A.peek (.fn (luG cc 73 false (.bool false) (.map (some S)) (.agg ⟨[.int .i64 l,.int .i64 m,.int .u8 n,.int .i64 C,.bool D,.bool E,.bool F,.bool G,.bool H,.bool I,.bool J,.bool L,.bool M,.bool N,.bool O,.bool P]⟩) false)) o λr3=>A.ucB r3 λr4 r5=>A.uc0 r5 (A.join (λr6 r7=>A.k0 r6 λr8=>A.pa d 1 λr9=>a6 [.v r8,.i r9] r7) λa8=>A.cond (!r4) (A.heap (.fn (muG cc 73 (.map (some S)) (.agg ⟨[.int .i64 l,.int .i64 m,.int .u8 n,.int .i64 C,.bool D,.bool E,.bool F,.bool G,.bool H,.bool I,.bool J,.bool L,.bool M,.bool N,.bool O,.bool P]⟩) (.bool true))) o λu6 s0=>A.new (.cells [.int .i64 l,.int .i64 m,.int .u8 n,.int .i64 C,.bool D,.bool E,.bool F,.bool G,.bool H,.bool I,.bool J,.bool L,.bool M,.bool N,.bool O,.bool P] 16 true) s0 λs1 s2=>A.heap (.ap cc 16 48 k (.slice (some ⟨s1,0,some 26⟩) 1 2)) s2 λs3 s4=>A.ucV s3 λa9 s5=>A.chk a9 (A.uc0 s5 (a8 [.v a9] s4))) (a8 [.v k] o))) (A.pa d 1 λs6=>a6 [.v k,.i s6] o)) (A.pa g 1 λs7=>g9 [.v k,.i s7] a7)) [.v a1,.i 0] B))))))) [.i 0] h6) λb0=>A.cond h4 (A.new (.cells [.int .i64 1,.int .i64 2] 1 true) x λs8 s9=>A.pa f 1 λt0=>A.pr t0 4 λt1=>b0 [.v (.slice (some ⟨s8,0,some 11⟩) 2 3),.i t1] s9) (A.cmp .eql g 2 λt2=>A.join (λt3 t4=>A.k7 t3 λt5 t6=>b0 [.v t5,.i t6] t4) λb1=>A.cond t2 (A.new (.cells [.int .i64 2,.int .i64 3] 1 true) x λt7 t8=>A.pa f 3 λt9=>A.pr t9 4 λu0=>b1 [.v (.slice (some ⟨t7,0,some 11⟩) 2 3),.i u0] t8) (b1 [.v (.slice (some ⟨h3,0,some 11⟩) 4 5),.i f] x))) (A.pa t 1 λu1=>d8 [.v a1,.i u1] a0)) [.v Y,.i 0] s)) (A.pa X 1 λu2=>d4 [.v Y,.i u2] s)) [.v (.slice none 0 0),.i 0] d6) [.v q,.i 1] e)) [.v (.slice none 0 0),.i 0] b3))
def f16:R:=A.k0 ls λa=>A.c2 13 [.v a] h λj k=>A.cd .neq k 0 (K [.i k] j) (A.ln a λr=>A.cd .eql r 0 (K [.i 7] j) (A.c0 20 [.v a] j λs t=>A.new (.cells [.map none] 1 true) s λc u=>A.heap (.st (.pointer (some ⟨c,0,none⟩)) [t]) u λa1 d=>A.peek (.lg cc 1 (.pointer (some ⟨c,0,none⟩))) d λw=>A.ucV w λl x=>A.chk l (A.uc0 x (A.peek (.fn (lenM l)) d λy=>A.k9 y λz=>A.pm 4 z λB=>A.ln a λC=>A.cd .neq B C (K [.i 1] d) (A.new (.map [] 0) d λD E=>A.new (.cells [.map none] 1 true) E λe F=>A.heap (.st (.pointer (some ⟨e,0,none⟩)) [.map (some D)]) F λa2 G=>A.new (.cells [.nilFunc] 1 true) G λf H=>A.chk (.func (.func 33) ⟨[]⟩ ⟨[.pointer (some ⟨c,0,none⟩),.pointer (some ⟨e,0,none⟩),.pointer (some ⟨f,0,none⟩)]⟩) (A.heap (.st (.pointer (some ⟨f,0,none⟩)) [.func (.func 33) ⟨[]⟩ ⟨[.pointer (some ⟨c,0,none⟩),.pointer (some ⟨e,0,none⟩),.pointer (some ⟨f,0,none⟩)]⟩]) H λa3 g=>A.peek (.lg cc 1 (.pointer (some ⟨f,0,none⟩))) g λI=>A.ucV I λm J=>A.chk m (A.uc0 J (A.opt (idS 3 a 0) λL=>A.opt (fdP 0 L) λn=>A.chk n (A.peek (.lg cc 1 n) g λM=>A.k9 M λN=>A.opt (idS 3 a 0) λO=>A.opt (fdP 1 O) λo=>A.chk o (A.peek (.lg cc 1 o) g λP=>A.k9 P λQ=>A.callv m [.agg ⟨[.int .i64 N,.int .i64 Q,.int .u8 0]⟩] [] g λS b=>A.un0 S (A.peek (.lg cc 1 (.pointer (some ⟨e,0,none⟩))) b λT=>A.ucV T λp U=>A.chk p (A.uc0 U (A.peek (.fn (lenM p)) b λV=>A.k9 V λW=>A.peek (.lg cc 1 (.pointer (some ⟨c,0,none⟩))) b λX=>A.ucV X λq Y=>A.chk q (A.uc0 Y (A.peek (.fn (lenM q)) b λZ=>A.k9 Z λa0=>A.cd .neq W a0 (K [.i 14] b) (K [.i 0] b))))))))))))))))
def f17:R:=A.k0 ls λc=>A.c5 34 [.v c,.v (.func (.func 35) ⟨[]⟩ ⟨[]⟩)] h λj r=>A.cond r (K [.i 1] j) (A.ln c λs=>A.loop (λg t d=>A.k3 t λa b=>A.cd .lss b s (A.ix 1 c b 1 d λu=>A.k8 u λe=>A.c5 27 [.i e] d λf w=>A.cond w (A.cd .gtr b 0 (A.ps b 1 λx=>A.ix 1 c x 1 f λy=>A.k8 y λz=>A.c5 27 [.i z] f λk B=>A.join (λC D=>A.un0 C (A.c5 27 [.i e] D λl E=>A.join (λF G=>A.k2 F λH=>A.pa b 1 λI=>g [.i H,.i I] G) λm=>A.cond (!E) (A.pa a 1 λJ=>m [.i J] l) (m [.i a] l))) λL=>A.cond B (K [.i 6] k) (L [] k)) (A.c5 27 [.i e] f λn M=>A.join (λN O=>A.k2 N λP=>A.pa b 1 λQ=>g [.i P,.i Q] O) λo=>A.cond (!M) (A.pa a 1 λS=>o [.i S] n) (o [.i a] n))) (A.c5 27 [.i e] f λp T=>A.join (λU V=>A.k2 U λW=>A.pa b 1 λX=>g [.i W,.i X] V) λq=>A.cond (!T) (A.pa a 1 λY=>q [.i Y] p) (q [.i a] p))) (A.cd .gtr a 256 (K [.i 3] d) (K [.i 0] d))) [.i 1,.i 0] j)
def f18:R:=A.unV ls λd e=>A.k6 e λf g j=>A.loop (λk l a=>A.k2 l λc=>A.ln d λm=>A.cd .lss c m (A.ix 3 d c 3 a λn=>A.k4 n λo p q=>A.eqs [(.i o,.i f),(.i p,.i g),(.i q,.i j)] λr=>A.cond r (K [.b true] a) (A.pa c 1 λs=>k [.i s] a)) (K [.b false] a)) [.i 0] h
def f19:R:=A.unI ls λa f=>A.unI f λc g=>A.k1 g λi d e j=>A.cd .neq c e (A.cmp .lss c e λk=>K [.b k] h) (A.cd .neq a d (A.cmp .lss a d λl=>K [.b l] h) (A.cmp .lss i j λm=>K [.b m] h))
def f20:R:=A.k0 ls λc=>A.new (.map [] 0) h λd e=>A.ln c λf=>A.loop (λg j a=>A.k2 j λb=>A.cd .lss b f (A.ix 3 c b 3 a λk=>A.k4 k λl m p=>A.heap (.fn (muG cc 30 (.map (some d)) (.agg ⟨[.int .i64 l,.int .i64 m,.int .u8 0]⟩) (.bool true))) a λq n=>A.pa b 1 λo=>g [.i o] n) (K [.v (.map (some d))] a)) [.i 0] e
def f21:R:=A.unI ls λf G=>A.unI G λg H=>A.unI H λj I=>A.unV I λk J=>A.unV J λc L=>A.unV L λM N=>A.unV N λd O=>A.k0 O λP=>A.peek (.lg cc 1 k) h λQ=>A.ucV Q λl S=>A.chk l (A.uc0 S (A.heap (.fn (deG cc 30 l (.agg ⟨[.int .i64 f,.int .i64 g,.int .u8 j]⟩))) h λd7 m=>A.peek (.lg cc 1 c) m λT=>A.ucV T λn U=>A.chk n (A.uc0 U (A.ln n λV=>A.heap (.st M [.int .i64 V]) m λd8 W=>A.loop (λX Y o=>A.k2 Y λa=>A.cd .lss a 4 (A.join (λZ a0=>A.un0 Z (A.pa a 1 λa1=>X [.i a1] a0)) λp=>A.c6 22 [.i f,.i g,.i j,.i a] o λb q r s=>A.peek (.lg cc 1 k) b λa2=>A.ucV a2 λt a3=>A.chk t (A.uc0 a3 (A.peek (.fn (luG cc 30 false (.bool false) t (.agg ⟨[.int .i64 q,.int .i64 r,.int .u8 s]⟩) false)) b λa4=>A.ucB a4 λa5 a6=>A.uc0 a6 (A.cond (!a5) (p [] b) (A.peek (.lg cc 1 c) b λa7=>A.ucV a7 λu a8=>A.chk u (A.uc0 a8 (A.peek (.lg cc 1 d) b λa9=>A.k9 a9 λb0=>A.ps a b0 λb1=>A.pa b1 4 λb2=>A.pr b2 4 λv=>A.opt (inB 4 v) λd9=>A.opt (cX gl0 0 [(v,1)] 1) λb3=>A.ucV b3 λw b4=>A.chk w (A.uc0 b4 (A.heap (.ap cc 1 1 u w) b λb5 b6=>A.ucV b5 λx b7=>A.chk x (A.uc0 b7 (A.heap (.st c [x]) b6 λe0 b8=>A.heap (.st d [.int .i64 a]) b8 λe1 y=>A.peek (.lg cc 1 P) y λb9=>A.ucV b9 λz c0=>A.chk z (A.uc0 c0 (A.callv z [.agg ⟨[.int .i64 q,.int .i64 r,.int .u8 s]⟩] [] y λc1 e=>A.un0 c1 (A.pa a 2 λc2=>A.pr c2 4 λB=>A.peek (.lg cc 1 c) e λc3=>A.ucV c3 λC c4=>A.chk C (A.uc0 c4 (A.peek (.lg cc 1 d) e λc5=>A.k9 c5 λc7=>A.ps B c7 λc8=>A.pa c8 4 λc9=>A.pr c9 4 λD=>A.opt (inB 4 D) λe2=>A.opt (cX gl0 0 [(D,1)] 1) λd0=>A.ucV d0 λE d1=>A.chk E (A.uc0 d1 (A.heap (.ap cc 1 1 C E) e λd2 d3=>A.ucV d2 λF d4=>A.chk F (A.uc0 d4 (A.heap (.st c [F]) d3 λe3 d5=>A.heap (.st d [.int .i64 B]) d5 λe4 d6=>p [] d6)))))))))))))))))))) (K [] o)) [.i 0] W))))
def f22:R:=A.k1 ls λb c l a=>A.opt (inB 4 a) λm=>A.opt (cX gl1 0 [(a,2)] 1) λd=>A.k9 d λe=>A.pa b e λf=>A.opt (inB 4 a) λn=>A.opt (cX gl1 1 [(a,2)] 1) λg=>A.k9 g λj=>A.pa c j λk=>K [.i f,.i k,.i 0] h
def f23:R:=A.k0 ls λa=>A.ln a λc=>A.ln a λd=>A.opt (slS 1 a none (some c) (some d)) λb=>A.chk b (K [.v b] h)
def f24:R:=A.k0 ls λo=>A.call 36 [.v o] h λp g=>A.k7 p λj k=>A.cd .neq k 0 (K [.v (.slice none 0 0),.i k] g) (A.new (.map [] 0) g λl q=>A.ln j λr=>A.loop (λs t a=>A.k7 t λb c=>A.cd .lss c r (A.ix 3 j c 3 a λu=>A.k4 u λd e f=>A.peek (.fn (luG cc 30 false (.bool false) (.map (some l)) (.agg ⟨[.int .i64 d,.int .i64 e,.int .u8 f]⟩) false)) a λw=>A.ucB w λx y=>A.uc0 y (A.join (λz B=>A.k0 z λC=>A.pa c 1 λD=>s [.v C,.i D] B) λm=>A.cond (!x) (A.heap (.fn (muG cc 30 (.map (some l)) (.agg ⟨[.int .i64 d,.int .i64 e,.int .u8 f]⟩) (.bool true))) a λP E=>A.new (.cells [.int .i64 d,.int .i64 e,.int .u8 f] 3 true) E λF G=>A.heap (.ap cc 3 24 b (.slice (some ⟨F,0,some 13⟩) 1 2)) G λH I=>A.ucV H λn J=>A.chk n (A.uc0 J (m [.v n] I))) (m [.v b] a))) (A.call 37 [.v b] a λL M=>A.k7 L λN O=>K [.v N,.i O] M)) [.v (.slice none 0 0),.i 0] q)
def f25:R:=A.unV ls λa c=>A.k6 c λd e f=>A.c5 38 [.v a,.i d,.i e,.i f] h λg j=>K [.b j] g
def f26:R:=A.unV ls λa c=>A.k0 c λd=>A.c5 39 [.v a,.v d] h λe f=>K [.b f] e
def f27:R:=A.k2 ls λa=>A.join (λd e=>A.k5 d λf=>K [.b f] e) λc=>A.cd .eql a 3 (c [.b true] h) (A.cmp .eql a 4 λg=>c [.b g] h)
def f28:R:=A.k0 ls λa=>A.c0 40 [.v a] h λb c=>K [.v c] b
def f29:R:=A.k0 ls λa=>A.c5 41 [.v a,.v (.func (.func 42) ⟨[]⟩ ⟨[]⟩)] h λc d=>K [.b d] c
def f30:R:=A.unI ls λa b=>A.unI b λc d=>A.k1 d λe f g j=>A.ci e λk=>A.ci j λl=>A.new (.cells [.int .i64 c,.int .i64 g,.int .i64 a,.int .i64 f,.int .i64 k,.int .i64 l] 2 true) h λm n=>A.c2 44 [.v (.slice (some ⟨m,0,some 12⟩) 3 4)] n λo p=>K [.i p] o
def f31:R:=A.unV ls λc d=>A.k6 d λe f g=>A.ln c λj=>A.loop (λk l a=>A.k2 l λb=>A.cd .lss b j (A.ix 3 c b 3 a λm=>A.k4 m λn o p=>A.eqs [(.i e,.i n),(.i f,.i o),(.i g,.i p)] λq=>A.cond q (K [.i b] a) (A.pa b 1 λr=>k [.i r] a)) (K [.i (-1)] a)) [.i 0] h
def f32:R:=A.unV ls λa c=>A.k5 c λd=>A.c2 45 [.v a,.b d] h λe f=>A.cmp .geq f 0 λg=>K [.b g] e
def f33:R:=A.unI ls λa m=>A.unI m λb n=>A.unI n λc o=>A.unV o λp q=>A.unV q λf r=>A.k0 r λs=>A.peek (.lg cc 1 p) h λt=>A.ucV t λg u=>A.chk g (A.uc0 u (A.peek (.fn (luG cc 30 false (.bool false) g (.agg ⟨[.int .i64 a,.int .i64 b,.int .u8 c]⟩) false)) h λv=>A.ucB v λw x=>A.uc0 x (A.cond (!w) (K [] h) (A.peek (.lg cc 1 f) h λy=>A.ucV y λj z=>A.chk j (A.uc0 z (A.peek (.fn (luG cc 30 false (.bool false) j (.agg ⟨[.int .i64 a,.int .i64 b,.int .u8 c]⟩) false)) h λB=>A.ucB B λC D=>A.uc0 D (A.cond C (K [] h) (A.peek (.lg cc 1 f) h λE=>A.ucV E λk F=>A.chk k (A.uc0 F (A.heap (.fn (muG cc 30 k (.agg ⟨[.int .i64 a,.int .i64 b,.int .u8 c]⟩) (.bool true))) h λU G=>A.loop (λH I d=>A.k2 I λe=>A.cd .lss e 4 (A.peek (.lg cc 1 s) d λJ=>A.ucV J λl L=>A.chk l (A.uc0 L (A.c6 22 [.i a,.i b,.i c,.i e] d λM N O P=>A.callv l [.agg ⟨[.int .i64 N,.int .i64 O,.int .u8 P]⟩] [] M λQ S=>A.un0 Q (A.pa e 1 λT=>H [.i T] S)))) (K [] d)) [.i 0] G))))))))))
def f34:R:=A.unV ls λa c=>A.k0 c λd=>A.c2 46 [.v a,.v d] h λe f=>A.cmp .geq f 0 λg=>K [.b g] e
def f35:R:=A.k2 ls λa=>A.join (λd e=>A.k5 d λf=>K [.b f] e) λc=>A.cd .lss a 1 (c [.b true] h) (A.cmp .gtr a 4 λg=>c [.b g] h)
def f36:R:=A.k0 ls λb=>A.call 47 [.v b] h λn c=>A.unI n λd o=>A.unI o λe p=>A.k7 p λf g=>A.cd .neq g 0 (K [.v (.slice none 0 0),.i g] c) (A.c6 48 [] c λa j k l=>A.ln b λq=>A.cd .gtr q 0 (A.opt (idS 1 b 0) λr=>A.peek (.lg cc 1 r) a λs=>A.k8 s λt=>A.cmp .eql t 3 λu=>A.join (λw x=>A.k6 w λy z B=>A.call 50 [.i d,.i e,.v f,.i y,.i z,.i B] x λC D=>A.k7 C λE F=>K [.v E,.i F] D) λm=>A.cond u (A.call 49 [.i 4,.i 0] a λG H=>A.k1 G λI J L Q=>m [.i I,.i J,.i L] H) (m [.i j,.i k,.i l] a)) (A.call 50 [.i d,.i e,.v f,.i j,.i k,.i l] a λM N=>A.k7 M λO P=>K [.v O,.i P] N))
def f37:R:=A.k0 ls λa=>A.c5 29 [.v a] h λb f=>A.cond f (K [.v (.slice none 0 0),.i 1] b) (A.c0 51 [.v a] b λg c=>A.call 52 [.v c,.v (.func (.func 30) ⟨[]⟩ ⟨[]⟩)] g λj k=>A.un0 j (A.c0 53 [.v c] k λd e=>A.ln e λl=>A.cd .gtr l 1024 (K [.v (.slice none 0 0),.i 3] d) (A.c0 54 [.v e] d λm n=>K [.v n,.i 0] m)))
def f38:R:=A.unV ls λa c=>A.k6 c λd e f=>A.c2 31 [.v a,.i d,.i e,.i f] h λg j=>A.cmp .geq j 0 λk=>K [.b k] g
def f39:R:=A.unV ls λd f=>A.k0 f λe=>A.ln d λg=>A.ln e λj=>A.cd .neq g j (K [.b false] h) (A.ln d λk=>A.loop (λl m a=>A.k2 m λc=>A.cd .lss c k (A.ix 3 d c 3 a λn=>A.k4 n λo p q=>A.ix 3 e c 3 a λr=>A.k4 r λs t u=>A.eqs [(.i o,.i s),(.i p,.i t),(.i q,.i u)] λv=>A.cond (!v) (K [.b false] a) (A.pa c 1 λw=>l [.i w] a)) (K [.b true] a)) [.i 0] h)
def f41:R:=A.unV ls λa c=>A.k0 c λd=>A.c2 57 [.v a,.v d] h λe f=>A.cmp .geq f 0 λg=>K [.b g] e
def f42:R:=A.k6 ls λa c d=>A.c2 43 [.i a,.i c,.i d] h λe f=>A.cmp .neq f 0 λg=>K [.b g] e
def f43:R:=A.k6 ls λa b c=>A.cd .lss a (-4096) (K [.i 1] h) (A.cd .gtr a 4096 (K [.i 1] h) (A.cd .lss b (-4096) (K [.i 1] h) (A.cd .gtr b 4096 (K [.i 1] h) (A.cd .gtr c 3 (K [.i 1] h) (K [.i 0] h)))))
def f44:R:=A.k0 ls λc=>A.ln c λf=>A.loop (λg j a=>A.k2 j λb=>A.cd .lss b f (A.ix 2 c b 2 a λk=>A.ucI .i64 k λl m=>A.k9 m λn=>A.c2 58 [.i l,.i n] a λd e=>A.cd .neq e 0 (K [.i e] d) (A.pa b 1 λo=>g [.i o] d)) (K [.i 0] a)) [.i 0] h
def f45:R:=A.unV ls λd e=>A.k5 e λf=>A.ln d λg=>A.loop (λj k a=>A.k2 k λc=>A.cd .lss c g (A.ix 1 d c 1 a λl=>A.ucB l λm n=>A.uc0 n (A.eqs [(.b f,.b m)] λo=>A.cond o (K [.i c] a) (A.pa c 1 λp=>j [.i p] a))) (K [.i (-1)] a)) [.i 0] h
def f46:R:=A.unV ls λd f=>A.k0 f λg=>A.ln d λj=>A.loop (λk l c=>A.k2 l λa=>A.cd .lss a j (A.ix 1 d a 1 c λm=>A.k8 m λn=>A.callv g [.int .u8 n] [.leaf .b] c λo e=>A.k5 o λp=>A.cond p (K [.i a] e) (A.pa a 1 λq=>k [.i q] e)) (K [.i (-1)] c)) [.i 0] h
def f47:R:=A.k0 ls λl=>A.c3 9 [.v l] h λo z p=>A.cd .neq p 0 (A.opt (chk2 (.slice none 0 0)) λe8=>K [.i 0,.i 0,.v (.slice none 0 0),.i p] o) (A.ln l λB=>A.loop (λC D g=>A.unI D λa E=>A.unB E λj F=>A.unI F λm G=>A.unI G λd H=>A.unI H λe I=>A.k0 I λc=>A.cd .lss m B (A.join (λJ L=>A.unI J λM N=>A.unB N λO P=>A.unI P λQ S=>A.unI S λT U=>A.k0 U λV=>A.pa m 1 λW=>C [.i M,.b O,.i W,.i Q,.i T,.v V] L) λq=>A.ix 1 l m 1 g λX=>A.k8 X λn=>A.join (λY k=>A.k2 Y λf=>A.cd .eql n 1 (A.pa a 1 λZ=>q [.i Z,.b j,.i d,.i e,.v c] k) (A.cmp .eql n 2 λa0=>A.join (λa1 a2=>A.unI a1 λa3 a4=>A.unI a4 λa5 a6=>A.unI a6 λa7 a8=>A.k0 a8 λa9=>q [.i a3,.b (!j),.i a5,.i a7,.v a9] a2) λr=>A.cond a0 (A.pm 4 a λb0=>A.pa b0 1 λb1=>A.new (.cells [.int .i64 b1,.int .u8 0,.int .u8 f] 3 true) k λb2 b3=>A.heap (.ap cc 3 16 c (.slice (some ⟨b2,0,some 13⟩) 1 2)) b3 λb4 b5=>A.ucV b4 λs b6=>A.chk s (A.uc0 b6 (A.pa a 1 λb7=>r [.i b7,.i d,.i e,.v s] b5))) (A.cmp .eql n 3 λb8=>A.eqs [(.b b8,.b j)] λb9=>A.join (λc1 c2=>A.unI c1 λc4 c5=>A.unI c5 λc6 c7=>A.k0 c7 λc8=>r [.i a,.i c4,.i c6,.v c8] c2) λt=>A.cond b9 (A.pm 4 a λc9=>A.pm 4 a λd0=>A.pa d0 1 λd1=>A.new (.cells [.int .i64 c9,.int .u8 2,.int .u8 f,.int .i64 d1,.int .u8 2,.int .u8 f] 3 true) k λd2 d3=>A.heap (.ap cc 3 16 c (.slice (some ⟨d2,0,some 13⟩) 2 3)) d3 λd4 d5=>A.ucV d4 λu d6=>A.chk u (A.uc0 d6 (t [.i d,.i e,.v u] d5))) (A.pm 4 a λd7=>A.pm 4 a λd8=>A.pa d8 2 λd9=>A.new (.cells [.int .i64 d7,.int .u8 1,.int .u8 f,.int .i64 d9,.int .u8 1,.int .u8 f] 3 true) k λe0 e1=>A.heap (.ap cc 3 16 c (.slice (some ⟨e0,0,some 13⟩) 2 3)) e1 λe2 e3=>A.ucV e2 λw e4=>A.chk w (A.uc0 e4 (t [.i d,.i e,.v w] e3)))))) λx=>A.cond j (x [.i 2] g) (x [.i 1] g)) (A.call 59 [.v c,.v (.func (.func 60) ⟨[]⟩ ⟨[]⟩)] g λe5 e6=>A.un0 e5 (A.c0 61 [.v c] e6 λe7 y=>A.opt (chk2 y) λe9=>K [.i d,.i e,.v y,.i 0] e7))) [.i 0,.b true,.i 0,.i z,.i 1,.v (.slice none 0 0)] o)
def f48:R:=A.un0 ls (K [.i 0,.i 0,.i 0] h)
def f49:R:=A.k3 ls λc a=>A.c2 62 [.i c,.i a] h λb d=>A.cd .neq d 0 (K [.i 0,.i 0,.i 0,.i 1] b) (A.cd .eql c 1 (A.pm 2 a λe=>K [.i 4,.i e,.i 0,.i 0] b) (A.cd .eql c 2 (A.pm 2 a λf=>K [.i 6,.i 0,.i f,.i 0] b) (A.cd .eql c 3 (K [.i 5,.i a,.i a,.i 0] b) (A.ps 0 a λg=>K [.i 7,.i g,.i a,.i 0] b))))
def f50:R:=A.unI ls λa b=>A.unI b λc d=>A.unV d λe f=>A.k6 f λg j k=>A.call 63 [.i a,.i c,.v e,.i g,.i j,.i k] h λl m=>A.unV l λq n=>A.k7 n λo p=>K [.v o,.i p] m
def f51:R:=A.k0 ls λa=>A.opt (ti 1 a (.slice none 0 0)) λc=>A.cond c (K [.v (.slice none 0 0)] h) (A.new (.cells [] 3 true) h λd e=>A.heap (.ap cc 3 24 (.slice (some ⟨d,0,some 13⟩) 0 1) a) e λf g=>A.ucV f λb i=>A.chk b (A.uc0 i (K [.v b] g)))
def f52:R:=A.unV ls λa c=>A.k0 c λd=>A.ln a λb=>A.conv .u64 b λe=>A.c2 65 [.i e] h λf g=>A.call 64 [.v a,.i 0,.i b,.i g,.v d] f λj k=>A.un0 j (K [] k)
def f53:R:=A.k0 ls λa=>A.ln a λm=>A.cd .lss m 2 (K [.v a] h) (A.loop (λn o d=>A.k2 o λb=>A.ln a λp=>A.cd .lss b p (A.ix 3 a b 3 d λq=>A.k4 q λr s t=>A.ps b 1 λu=>A.ix 3 a u 3 d λw=>A.k4 w λx y z=>A.eqs [(.i r,.i x),(.i s,.i y),(.i t,.i z)] λB=>A.cond B (A.opt (slS 3 a (some b) none none) λe=>A.chk e (A.loop (λC D c=>A.k3 D λf g=>A.ln e λE=>A.cd .lss g E (A.ix 3 e g 3 c λF=>A.k4 F λG H I=>A.ps g 1 λJ=>A.ix 3 e J 3 c λL=>A.k4 L λM N O=>A.eqs [(.i G,.i M),(.i H,.i N),(.i I,.i O)] λP=>A.join (λQ S=>A.k2 Q λT=>A.pa g 1 λU=>C [.i T,.i U] S) λj=>A.cond (!P) (A.ix 3 e g 3 c λV=>A.k4 V λW X Y=>A.opt (idS 3 a f) λZ=>A.heap (.st Z [.int .i64 W,.int .i64 X,.int .u8 Y]) c λa4 a0=>A.pa f 1 λa1=>j [.i a1] a0) (j [.i f] c)) (A.opt (slS 3 a (some f) none none) λk=>A.chk k (A.heap (.fn (clG 3 [.int .i64 0,.int .i64 0,.int .u8 0] k)) c λa5 a2=>A.opt (slS 3 a none (some f) none) λl=>A.chk l (K [.v l] a2)))) [.i b,.i 1] d)) (A.pa b 1 λa3=>n [.i a3] d)) (K [.v a] d)) [.i 1] h)
def f54:R:=A.k0 ls λa=>A.ln a λc=>A.ln a λd=>A.opt (slS 3 a none (some c) (some d)) λb=>A.chk b (K [.v b] h)
def f57:R:=A.unV ls λd f=>A.k0 f λg=>A.ln d λj=>A.loop (λk l c=>A.k2 l λa=>A.cd .lss a j (A.ix 3 d a 3 c λm=>A.k4 m λn o p=>A.callv g [.agg ⟨[.int .i64 n,.int .i64 o,.int .u8 p]⟩] [.leaf .b] c λq e=>A.k5 q λr=>A.cond r (K [.i a] e) (A.pa a 1 λs=>k [.i s] e)) (K [.i (-1)] c)) [.i 0] h
def f58:R:=A.k3 ls λb c=>A.c5 67 [.i b] h λe f=>A.c5 67 [.i c] e λa d=>A.cond f (A.cond d (K [.i 0] a) (K [.i (-1)] a)) (A.cond d (K [.i 1] a) (A.cd .lss b c (K [.i (-1)] a) (A.cd .gtr b c (K [.i 1] a) (K [.i 0] a))))
def f59:R:=A.unV ls λa c=>A.k0 c λd=>A.ln a λb=>A.conv .u64 b λe=>A.c2 65 [.i e] h λf g=>A.call 68 [.v a,.i 0,.i b,.i g,.v d] f λj k=>A.un0 j (K [] k)
def f60:R:=A.unI ls λa b=>A.unI b λc d=>A.k1 d λo e f p=>A.ps a e λg=>A.pm 4 g λj=>A.ci c λk=>A.pa j k λl=>A.ci f λm=>A.ps l m λn=>K [.i n] h
def f61:R:=A.k0 ls λa=>A.ln a λc=>A.ln a λd=>A.opt (slS 3 a none (some c) (some d)) λb=>A.chk b (K [.v b] h)
def f62:R:=A.k3 ls λa b=>A.cd .lss a 1 (K [.i 1] h) (A.cd .gtr a 4 (K [.i 1] h) (A.cd .lss b (-4096) (K [.i 1] h) (A.cd .gtr b 4096 (K [.i 1] h) (K [.i 0] h))))
def f63:R:=A.unI ls λd x=>A.unI x λe y=>A.unV y λj z=>A.k6 z λk l m=>A.c2 69 [.i d,.i e,.v j] h λn o=>A.cd .neq o 0 (K [.v (.slice none 0 0),.v (.slice none 0 0),.i o] n) (A.c2 70 [.i k,.i l,.i m] n λp B=>A.cd .neq B 0 (K [.v (.slice none 0 0),.v (.slice none 0 0),.i 1] p) (A.call 71 [.i d,.i e,.v j] p λC q=>A.k7 C λc r=>A.cd .neq r 0 (K [.v (.slice none 0 0),.v (.slice none 0 0),.i r] q) (A.ln c λa=>A.opt (mkOk a a) λb3=>A.new (.cells (bm [.int .i64 0,.int .i64 0,.int .u8 0] (Int.toNat a)) 3 true) q λs D=>A.ln c λE=>A.loop (λF G f=>A.k2 G λb=>A.cd .lss b E (A.ix 3 c b 3 f λH=>A.ucI .u8 H λI J=>A.ucI .i64 J λL M=>A.k9 M λN=>A.call 72 [.i d,.i e,.i b] f λO P=>A.k1 O λQ S T b4=>A.call 73 [.i I,.i L,.i N,.i k,.i l,.i m] P λU V=>A.k1 U λW X Y t=>A.opt (idS 3 c b) λZ=>A.heap (.st Z [.int .u8 W,.int .i64 X,.int .i64 Y]) V λb5 g=>A.cd .neq t 0 (K [.v (.slice none 0 0),.v (.slice none 0 0),.i t] g) (A.ix 3 c b 3 g λa0=>A.ucI .u8 a0 λa1 a2=>A.ucI .i64 a2 λa3 a4=>A.k9 a4 λa5=>A.call 74 [.i a1,.i a3,.i a5,.i Q,.i S,.i T] g λa6 a7=>A.k1 a6 λa8 a9 b0 u=>A.opt (idS 3 (.slice (some ⟨s,0,some 13⟩) (Int.toNat a) ((Int.toNat a)+1)) b) λb1=>A.heap (.st b1 [.int .i64 a8,.int .i64 a9,.int .u8 b0]) a7 λb6 w=>A.cd .neq u 0 (K [.v (.slice none 0 0),.v (.slice none 0 0),.i u] w) (A.pa b 1 λb2=>F [.i b2] w))) (K [.v c,.v (.slice (some ⟨s,0,some 13⟩) (Int.toNat a) ((Int.toNat a)+1)),.i 0] f)) [.i 0] D)))
def f64:R:=A.k10 ls λc b8 b9 c0 e=>A.loop (λc1 c4 t=>A.unI c4 λB c6=>A.unI c6 λd c7=>A.unB c7 λu c8=>A.unB c8 λs c9=>A.k2 c9 λa=>A.join (λd0 d1=>A.unI d0 λd2 d3=>A.unI d3 λd4 d5=>A.unB d5 λd6 d7=>A.unB d7 λd8 d9=>A.k2 d9 λe0=>c1 [.i d2,.i d4,.b d6,.b d8,.i e0] d1) λk=>A.ps a d λl=>A.cd .leq l 12 (A.call 75 [.v c,.i d,.i a,.v e] t λe1 e2=>A.un0 e1 (K [] e2)) (A.cd .eql B 0 (A.call 76 [.v c,.i d,.i a,.v e] t λe3 e4=>A.un0 e3 (K [] e4)) (A.join (λe5 e6=>A.k2 e5 λf=>A.c3 78 [.v c,.i d,.i a,.v e] e6 λC D E=>A.cmp .eql E 2 λe7=>A.join (λe8 j=>A.k3 e8 λg e9=>A.cond s (A.cond u (A.cmp .eql e9 1 λf0=>A.join (λf1 w=>A.un0 f1 (A.cd .gtr d 0 (A.ps d 1 λf2=>A.ix 3 c f2 3 w λf3=>A.k4 f3 λf4 f5 f6=>A.ix 3 c g 3 w λf7=>A.k4 f7 λf8 f9 g0=>A.callv e [.agg ⟨[.int .i64 f4,.int .i64 f5,.int .u8 f6]⟩,.agg ⟨[.int .i64 f8,.int .i64 f9,.int .u8 g0]⟩] [.leaf (.i .i64)] w λg1 F=>A.k2 g1 λg2=>A.cmp .lss g2 0 λg3=>A.join (λg4 g5=>A.k2 g4 λx=>A.call 82 [.v c,.i x,.i a,.i g,.v e] g5 λg6 G=>A.unI g6 λm g7=>A.k5 g7 λg8=>A.ps m x λH=>A.ps a m λI=>A.pq l 8 λJ=>A.cmp .lss H I λg9=>A.join (λh0 h1=>A.unB h0 λh2 h3=>A.k3 h3 λh4 h5=>k [.i f,.i h4,.b g8,.b h2,.i h5] h1) λL=>A.cond g9 (A.cmp .geq H J λh6=>A.call 64 [.v c,.i x,.i m,.i f,.v e] G λh7 h8=>A.un0 h7 (A.pa m 1 λh9=>L [.b h6,.i h9,.i a] h8)) (A.cmp .geq I J λi0=>A.pa m 1 λi1=>A.call 64 [.v c,.i i1,.i a,.i f,.v e] G λi2 i3=>A.un0 i2 (L [.b i0,.i x,.i m] i3))) λi4=>A.cond (!g3) (A.c2 81 [.v c,.i d,.i a,.i g,.v e] F λi5 i6=>k [.i f,.i i6,.b u,.b s,.i a] i5) (i4 [.i d] F)) (A.call 82 [.v c,.i d,.i a,.i g,.v e] w λi7 M=>A.unI i7 λn i8=>A.k5 i8 λi9=>A.ps n d λN=>A.ps a n λO=>A.pq l 8 λP=>A.cmp .lss N O λj0=>A.join (λj1 j2=>A.unB j1 λj3 j4=>A.k3 j4 λj5 j6=>k [.i f,.i j5,.b i9,.b j3,.i j6] j2) λQ=>A.cond j0 (A.cmp .geq N P λj7=>A.call 64 [.v c,.i d,.i n,.i f,.v e] M λj8 j9=>A.un0 j8 (A.pa n 1 λk0=>Q [.b j7,.i k0,.i a] j9)) (A.cmp .geq O P λk1=>A.pa n 1 λk6=>A.call 64 [.v c,.i k6,.i a,.i f,.v e] M λk7 k8=>A.un0 k7 (Q [.b k1,.i d,.i n] k8))))) λS=>A.cond f0 (A.c5 80 [.v c,.i d,.i a,.v e] j λT k9=>A.cond k9 (K [] T) (S [] T)) (S [] j)) (A.cd .gtr d 0 (A.ps d 1 λl0=>A.ix 3 c l0 3 j λl1=>A.k4 l1 λl2 l3 l4=>A.ix 3 c g 3 j λl5=>A.k4 l5 λl6 l7 l8=>A.callv e [.agg ⟨[.int .i64 l2,.int .i64 l3,.int .u8 l4]⟩,.agg ⟨[.int .i64 l6,.int .i64 l7,.int .u8 l8]⟩] [.leaf (.i .i64)] j λl9 U=>A.k2 l9 λm0=>A.cmp .lss m0 0 λm1=>A.join (λm2 m3=>A.k2 m2 λy=>A.call 82 [.v c,.i y,.i a,.i g,.v e] m3 λm4 V=>A.unI m4 λo m5=>A.k5 m5 λm6=>A.ps o y λW=>A.ps a o λX=>A.pq l 8 λY=>A.cmp .lss W X λm7=>A.join (λm8 m9=>A.unB m8 λn0 n1=>A.k3 n1 λn2 n3=>k [.i f,.i n2,.b m6,.b n0,.i n3] m9) λZ=>A.cond m7 (A.cmp .geq W Y λn4=>A.call 64 [.v c,.i y,.i o,.i f,.v e] V λn5 n6=>A.un0 n5 (A.pa o 1 λn7=>Z [.b n4,.i n7,.i a] n6)) (A.cmp .geq X Y λn8=>A.pa o 1 λn9=>A.call 64 [.v c,.i n9,.i a,.i f,.v e] V λo0 o1=>A.un0 o0 (Z [.b n8,.i y,.i o] o1))) λo2=>A.cond (!m1) (A.c2 81 [.v c,.i d,.i a,.i g,.v e] U λo3 o4=>k [.i f,.i o4,.b u,.b s,.i a] o3) (o2 [.i d] U)) (A.call 82 [.v c,.i d,.i a,.i g,.v e] j λo5 a0=>A.unI o5 λp o6=>A.k5 o6 λo7=>A.ps p d λa1=>A.ps a p λa2=>A.pq l 8 λa3=>A.cmp .lss a1 a2 λo8=>A.join (λo9 p0=>A.unB o9 λp1 p2=>A.k3 p2 λp3 p4=>k [.i f,.i p3,.b o7,.b p1,.i p4] p0) λa4=>A.cond o8 (A.cmp .geq a1 a3 λp5=>A.call 64 [.v c,.i d,.i p,.i f,.v e] a0 λp6 p7=>A.un0 p6 (A.pa p 1 λp8=>a4 [.b p5,.i p8,.i a] p7)) (A.cmp .geq a2 a3 λp9=>A.pa p 1 λq0=>A.call 64 [.v c,.i q0,.i a,.i f,.v e] a0 λq1 q2=>A.un0 q1 (a4 [.b p9,.i d,.i p] q2))))) (A.cd .gtr d 0 (A.ps d 1 λq3=>A.ix 3 c q3 3 j λq4=>A.k4 q4 λq5 q6 q7=>A.ix 3 c g 3 j λq8=>A.k4 q8 λq9 r0 r1=>A.callv e [.agg ⟨[.int .i64 q5,.int .i64 q6,.int .u8 q7]⟩,.agg ⟨[.int .i64 q9,.int .i64 r0,.int .u8 r1]⟩] [.leaf (.i .i64)] j λr2 a5=>A.k2 r2 λr3=>A.cmp .lss r3 0 λr4=>A.join (λr5 r6=>A.k2 r5 λz=>A.call 82 [.v c,.i z,.i a,.i g,.v e] r6 λr7 a6=>A.unI r7 λq r8=>A.k5 r8 λr9=>A.ps q z λa7=>A.ps a q λa8=>A.pq l 8 λa9=>A.cmp .lss a7 a8 λs0=>A.join (λs1 s2=>A.unB s1 λs3 s4=>A.k3 s4 λs5 s6=>k [.i f,.i s5,.b r9,.b s3,.i s6] s2) λb0=>A.cond s0 (A.cmp .geq a7 a9 λs7=>A.call 64 [.v c,.i z,.i q,.i f,.v e] a6 λs8 s9=>A.un0 s8 (A.pa q 1 λt0=>b0 [.b s7,.i t0,.i a] s9)) (A.cmp .geq a8 a9 λt1=>A.pa q 1 λt2=>A.call 64 [.v c,.i t2,.i a,.i f,.v e] a6 λt3 t4=>A.un0 t3 (b0 [.b t1,.i z,.i q] t4))) λt5=>A.cond (!r4) (A.c2 81 [.v c,.i d,.i a,.i g,.v e] a5 λt6 t7=>k [.i f,.i t7,.b u,.b s,.i a] t6) (t5 [.i d] a5)) (A.call 82 [.v c,.i d,.i a,.i g,.v e] j λt8 b1=>A.unI t8 λr t9=>A.k5 t9 λu0=>A.ps r d λb2=>A.ps a r λb3=>A.pq l 8 λb4=>A.cmp .lss b2 b3 λu1=>A.join (λu2 u3=>A.unB u2 λu4 u5=>A.k3 u5 λu6 u7=>k [.i f,.i u6,.b u0,.b u4,.i u7] u3) λb5=>A.cond u1 (A.cmp .geq b2 b4 λu9=>A.call 64 [.v c,.i d,.i r,.i f,.v e] b1 λv0 v1=>A.un0 v0 (A.pa r 1 λv2=>b5 [.b u9,.i v2,.i a] v1)) (A.cmp .geq b3 b4 λv3=>A.pa r 1 λv4=>A.call 64 [.v c,.i v4,.i a,.i f,.v e] b1 λv5 v6=>A.un0 v5 (b5 [.b v3,.i d,.i r] v6))))) λb6=>A.cond e7 (A.call 79 [.v c,.i d,.i a,.v e] C λv7 v8=>A.un0 v7 (A.ps a 1 λv9=>A.ps D d λw0=>A.ps v9 w0 λw1=>b6 [.i w1,.i 1] v8)) (b6 [.i D,.i E] C)) λb7=>A.cond (!s) (A.call 77 [.v c,.i d,.i a,.v e] t λw2 w3=>A.un0 w2 (A.ps B 1 λw4=>b7 [.i w4] w3)) (b7 [.i B] t)))) [.i c0,.i b8,.b true,.b true,.i b9] h
def f65:R:=A.k2 ls λa=>A.c2 84 [.i a] h λb c=>K [.i c] b
def f67:R:=A.k2 ls λa=>A.cmp .neq a a λc=>K [.b c] h
def f68:R:=A.k10 ls λc b8 b9 c0 e=>A.loop (λc1 c4 t=>A.unI c4 λB c6=>A.unI c6 λd c7=>A.unB c7 λu c8=>A.unB c8 λs c9=>A.k2 c9 λa=>A.join (λd0 d1=>A.unI d0 λd2 d3=>A.unI d3 λd4 d5=>A.unB d5 λd6 d7=>A.unB d7 λd8 d9=>A.k2 d9 λe0=>c1 [.i d2,.i d4,.b d6,.b d8,.i e0] d1) λk=>A.ps a d λl=>A.cd .leq l 12 (A.call 86 [.v c,.i d,.i a,.v e] t λe1 e2=>A.un0 e1 (K [] e2)) (A.cd .eql B 0 (A.call 87 [.v c,.i d,.i a,.v e] t λe3 e4=>A.un0 e3 (K [] e4)) (A.join (λe5 e6=>A.k2 e5 λf=>A.c3 89 [.v c,.i d,.i a,.v e] e6 λC D E=>A.cmp .eql E 2 λe7=>A.join (λe8 j=>A.k3 e8 λg e9=>A.cond s (A.cond u (A.cmp .eql e9 1 λf0=>A.join (λf1 w=>A.un0 f1 (A.cd .gtr d 0 (A.ps d 1 λf2=>A.ix 3 c f2 3 w λf3=>A.k11 f3 λf4 f5 f6=>A.ix 3 c g 3 w λf7=>A.k11 f7 λf8 f9 g0=>A.callv e [.agg ⟨[.int .i64 f4,.int .u8 f5,.int .u8 f6]⟩,.agg ⟨[.int .i64 f8,.int .u8 f9,.int .u8 g0]⟩] [.leaf (.i .i64)] w λg1 F=>A.k2 g1 λg2=>A.cmp .lss g2 0 λg3=>A.join (λg4 g5=>A.k2 g4 λx=>A.call 93 [.v c,.i x,.i a,.i g,.v e] g5 λg6 G=>A.unI g6 λm g7=>A.k5 g7 λg8=>A.ps m x λH=>A.ps a m λI=>A.pq l 8 λJ=>A.cmp .lss H I λg9=>A.join (λh0 h1=>A.unB h0 λh2 h3=>A.k3 h3 λh4 h5=>k [.i f,.i h4,.b g8,.b h2,.i h5] h1) λL=>A.cond g9 (A.cmp .geq H J λh6=>A.call 68 [.v c,.i x,.i m,.i f,.v e] G λh7 h8=>A.un0 h7 (A.pa m 1 λh9=>L [.b h6,.i h9,.i a] h8)) (A.cmp .geq I J λi0=>A.pa m 1 λi1=>A.call 68 [.v c,.i i1,.i a,.i f,.v e] G λi2 i3=>A.un0 i2 (L [.b i0,.i x,.i m] i3))) λi4=>A.cond (!g3) (A.c2 92 [.v c,.i d,.i a,.i g,.v e] F λi5 i6=>k [.i f,.i i6,.b u,.b s,.i a] i5) (i4 [.i d] F)) (A.call 93 [.v c,.i d,.i a,.i g,.v e] w λi7 M=>A.unI i7 λn i8=>A.k5 i8 λi9=>A.ps n d λN=>A.ps a n λO=>A.pq l 8 λP=>A.cmp .lss N O λj0=>A.join (λj1 j2=>A.unB j1 λj3 j4=>A.k3 j4 λj5 j6=>k [.i f,.i j5,.b i9,.b j3,.i j6] j2) λQ=>A.cond j0 (A.cmp .geq N P λj7=>A.call 68 [.v c,.i d,.i n,.i f,.v e] M λj8 j9=>A.un0 j8 (A.pa n 1 λk0=>Q [.b j7,.i k0,.i a] j9)) (A.cmp .geq O P λk1=>A.pa n 1 λk4=>A.call 68 [.v c,.i k4,.i a,.i f,.v e] M λk6 k7=>A.un0 k6 (Q [.b k1,.i d,.i n] k7))))) λS=>A.cond f0 (A.c5 91 [.v c,.i d,.i a,.v e] j λT k8=>A.cond k8 (K [] T) (S [] T)) (S [] j)) (A.cd .gtr d 0 (A.ps d 1 λk9=>A.ix 3 c k9 3 j λl0=>A.k11 l0 λl1 l2 l3=>A.ix 3 c g 3 j λl4=>A.k11 l4 λl5 l6 l7=>A.callv e [.agg ⟨[.int .i64 l1,.int .u8 l2,.int .u8 l3]⟩,.agg ⟨[.int .i64 l5,.int .u8 l6,.int .u8 l7]⟩] [.leaf (.i .i64)] j λl8 U=>A.k2 l8 λl9=>A.cmp .lss l9 0 λm0=>A.join (λm1 m2=>A.k2 m1 λy=>A.call 93 [.v c,.i y,.i a,.i g,.v e] m2 λm3 V=>A.unI m3 λo m4=>A.k5 m4 λm5=>A.ps o y λW=>A.ps a o λX=>A.pq l 8 λY=>A.cmp .lss W X λm6=>A.join (λm7 m8=>A.unB m7 λm9 n0=>A.k3 n0 λn1 n2=>k [.i f,.i n1,.b m5,.b m9,.i n2] m8) λZ=>A.cond m6 (A.cmp .geq W Y λn3=>A.call 68 [.v c,.i y,.i o,.i f,.v e] V λn4 n5=>A.un0 n4 (A.pa o 1 λn6=>Z [.b n3,.i n6,.i a] n5)) (A.cmp .geq X Y λn7=>A.pa o 1 λn8=>A.call 68 [.v c,.i n8,.i a,.i f,.v e] V λn9 o0=>A.un0 n9 (Z [.b n7,.i y,.i o] o0))) λo1=>A.cond (!m0) (A.c2 92 [.v c,.i d,.i a,.i g,.v e] U λo2 o3=>k [.i f,.i o3,.b u,.b s,.i a] o2) (o1 [.i d] U)) (A.call 93 [.v c,.i d,.i a,.i g,.v e] j λo4 a0=>A.unI o4 λp o5=>A.k5 o5 λo6=>A.ps p d λa1=>A.ps a p λa2=>A.pq l 8 λa3=>A.cmp .lss a1 a2 λo7=>A.join (λo8 o9=>A.unB o8 λp0 p1=>A.k3 p1 λp2 p3=>k [.i f,.i p2,.b o6,.b p0,.i p3] o9) λa4=>A.cond o7 (A.cmp .geq a1 a3 λp4=>A.call 68 [.v c,.i d,.i p,.i f,.v e] a0 λp5 p6=>A.un0 p5 (A.pa p 1 λp7=>a4 [.b p4,.i p7,.i a] p6)) (A.cmp .geq a2 a3 λp8=>A.pa p 1 λp9=>A.call 68 [.v c,.i p9,.i a,.i f,.v e] a0 λq0 q1=>A.un0 q0 (a4 [.b p8,.i d,.i p] q1))))) (A.cd .gtr d 0 (A.ps d 1 λq2=>A.ix 3 c q2 3 j λq3=>A.k11 q3 λq4 q5 q6=>A.ix 3 c g 3 j λq7=>A.k11 q7 λq8 q9 r0=>A.callv e [.agg ⟨[.int .i64 q4,.int .u8 q5,.int .u8 q6]⟩,.agg ⟨[.int .i64 q8,.int .u8 q9,.int .u8 r0]⟩] [.leaf (.i .i64)] j λr1 a5=>A.k2 r1 λr2=>A.cmp .lss r2 0 λr3=>A.join (λr4 r5=>A.k2 r4 λz=>A.call 93 [.v c,.i z,.i a,.i g,.v e] r5 λr6 a6=>A.unI r6 λq r7=>A.k5 r7 λr8=>A.ps q z λa7=>A.ps a q λa8=>A.pq l 8 λa9=>A.cmp .lss a7 a8 λr9=>A.join (λs0 s1=>A.unB s0 λs2 s3=>A.k3 s3 λs4 s5=>k [.i f,.i s4,.b r8,.b s2,.i s5] s1) λb0=>A.cond r9 (A.cmp .geq a7 a9 λs6=>A.call 68 [.v c,.i z,.i q,.i f,.v e] a6 λs7 s8=>A.un0 s7 (A.pa q 1 λs9=>b0 [.b s6,.i s9,.i a] s8)) (A.cmp .geq a8 a9 λt0=>A.pa q 1 λt1=>A.call 68 [.v c,.i t1,.i a,.i f,.v e] a6 λt2 t3=>A.un0 t2 (b0 [.b t0,.i z,.i q] t3))) λt4=>A.cond (!r3) (A.c2 92 [.v c,.i d,.i a,.i g,.v e] a5 λt5 t6=>k [.i f,.i t6,.b u,.b s,.i a] t5) (t4 [.i d] a5)) (A.call 93 [.v c,.i d,.i a,.i g,.v e] j λt7 b1=>A.unI t7 λr t8=>A.k5 t8 λt9=>A.ps r d λb2=>A.ps a r λb3=>A.pq l 8 λb4=>A.cmp .lss b2 b3 λu0=>A.join (λu1 u2=>A.unB u1 λu3 u4=>A.k3 u4 λu5 u6=>k [.i f,.i u5,.b t9,.b u3,.i u6] u2) λb5=>A.cond u0 (A.cmp .geq b2 b4 λu7=>A.call 68 [.v c,.i d,.i r,.i f,.v e] b1 λu9 v0=>A.un0 u9 (A.pa r 1 λv1=>b5 [.b u7,.i v1,.i a] v0)) (A.cmp .geq b3 b4 λv2=>A.pa r 1 λv3=>A.call 68 [.v c,.i v3,.i a,.i f,.v e] b1 λv4 v5=>A.un0 v4 (b5 [.b v2,.i d,.i r] v5))))) λb6=>A.cond e7 (A.call 90 [.v c,.i d,.i a,.v e] C λv6 v7=>A.un0 v6 (A.ps a 1 λv8=>A.ps D d λv9=>A.ps v8 v9 λw0=>b6 [.i w0,.i 1] v7)) (b6 [.i D,.i E] C)) λb7=>A.cond (!s) (A.call 88 [.v c,.i d,.i a,.v e] t λw1 w2=>A.un0 w1 (A.ps B 1 λw3=>b7 [.i w3] w2)) (b7 [.i B] t)))) [.i c0,.i b8,.b true,.b true,.i b9] h
def f69:R:=A.unI ls λf s=>A.unI s λg t=>A.k0 t λa=>A.c2 94 [.i f,.i g] h λj k=>A.cd .neq k 0 (K [.i k] j) (A.c5 95 [.v a,.v (.func (.func 96) ⟨[]⟩ ⟨[]⟩)] j λl u=>A.cond u (K [.i 1] l) (A.ln a λw=>A.loop (λx y c=>A.k2 y λd=>A.cd .lss d w (A.ix 3 a d 3 c λz=>A.k11 z λm n B=>A.c6 98 [.i f,.i g,.i m,.i n] c λo C D E=>A.cd .neq E 0 (K [.i 7] o) (A.c3 99 [.i m,.i n,.i B] o λp F G=>A.eqs [(.i C,.i F),(.i D,.i G)] λH=>A.cond (!H) (K [.i 7] p) (A.pa d 1 λI=>x [.i I] p))) (A.loop (λJ L e=>A.k2 L λb=>A.ln a λM=>A.cd .lss b M (A.ps b 1 λN=>A.ix 3 a N 3 e λO=>A.k11 O λP Q S=>A.c3 99 [.i P,.i Q,.i S] e λq T U=>A.ix 3 a b 3 q λV=>A.k11 V λW X Y=>A.c3 99 [.i W,.i X,.i Y] q λZ a0 a1=>A.c2 100 [.i T,.i U,.i a0,.i a1] Z λr a2=>A.cd .geq a2 0 (K [.i 6] r) (A.pa b 1 λa3=>J [.i a3] r)) (K [.i 0] e)) [.i 1] c)) [.i 0] l))
def f70:R:=A.k6 ls λe b c=>A.ci e λf=>A.cd .geq f 8 (K [.i 1] h) (A.c5 101 [.i b] h λd g=>A.cond g (K [.i 1] d) (A.c5 101 [.i c] d λa j=>A.cond j (K [.i 1] a) (A.pa b c λk=>A.pr k 2 λl=>A.cd .neq l 0 (K [.i 1] a) (K [.i 0] a))))
def f71:R:=A.unI ls λM N=>A.unI N λO P=>A.k0 P λQ=>A.new (.cells [.int .i64 M,.int .i64 O,Q] 3 true) h λc q=>A.peek (.lg cc 3 (.pointer (some ⟨c,0,none⟩))) q λS=>A.ucI .i64 S λT U=>A.ucI .i64 U λV W=>A.ucV W λr X=>A.chk r (A.uc0 X (A.c0 102 [.i T,.i V,.v r] q λY Z=>A.new (.cells [.map none] 1 true) Y λm a0=>A.heap (.st (.pointer (some ⟨m,0,none⟩)) [Z]) a0 λg4 s=>A.opt (fdP 0 (.pointer (some ⟨c,0,none⟩))) λt=>A.chk t (A.peek (.lg cc 2 t) s λa1=>A.ucI .i64 a1 λa2 a3=>A.k9 a3 λa4=>A.c2 103 [.i a2,.i a4] s λa5 d=>A.opt (mkOk d d) λg5=>A.new (.cells (bm [.int .u8 0,.int .i64 0,.int .i64 0] (Int.toNat d)) 3 true) a5 λa6 a7=>A.new (.cells [.slice none 0 0] 1 true) a7 λb a8=>A.heap (.st (.pointer (some ⟨b,0,none⟩)) [.slice (some ⟨a6,0,some 13⟩) (Int.toNat d) ((Int.toNat d)+1)]) a8 λg6 u=>A.peek (.lg cc 1 (.pointer (some ⟨b,0,none⟩))) u λa9=>A.ucV a9 λw b0=>A.chk w (A.uc0 b0 (A.ln w λa=>A.opt (mkOk a a) λg7=>A.new (.cells (bm [.bool false] (Int.toNat a)) 1 true) u λn b1=>A.chk (.func (.func 104) ⟨[]⟩ ⟨[.pointer (some ⟨c,0,none⟩),.pointer (some ⟨m,0,none⟩),.pointer (some ⟨b,0,none⟩)]⟩) (A.opt (idS 1 (.slice (some ⟨n,0,some 11⟩) (Int.toNat a) ((Int.toNat a)+1)) 0) λb2=>A.heap (.st b2 [.bool true]) b1 λg8 b3=>A.new (.cells [.int .i64 0] 1 true) b3 λb4 b5=>A.loop (λb6 b7 f=>A.k0 b7 λo=>A.ln o λb8=>A.cd .gtr b8 0 (A.opt (idS 1 o 0) λb9=>A.peek (.lg cc 1 b9) f λc1=>A.k9 c1 λx=>A.opt (slS 1 o (some 1) none none) λy=>A.chk y (A.loop (λc4 c5 p=>A.k7 c5 λg j=>A.cd .lss j 3 (A.join (λc6 c7=>A.k0 c6 λc8=>A.ari .add .u8 j 1 λc9=>c4 [.v c8,.i c9] c7) λz=>A.opt (fdP 0 (.pointer (some ⟨c,0,none⟩))) λB=>A.chk B (A.peek (.lg cc 2 B) p λd0=>A.ucI .i64 d0 λd1 d2=>A.k9 d2 λd3=>A.c3 106 [.i d1,.i d3,.i x,.i j] p λC e d4=>A.cd .neq d4 0 (z [.v g] C) (A.callv (.func (.func 104) ⟨[]⟩ ⟨[.pointer (some ⟨c,0,none⟩),.pointer (some ⟨m,0,none⟩),.pointer (some ⟨b,0,none⟩)]⟩) [.int .i64 x,.int .u8 j] [.agg [.i .u8,.i .i64,.i .i64]] C λd5 k=>A.k6 d5 λD E F=>A.opt (idS 1 (.slice (some ⟨n,0,some 11⟩) (Int.toNat a) ((Int.toNat a)+1)) e) λd6=>A.peek (.lg cc 1 d6) k λd7=>A.ucB d7 λd8 d9=>A.uc0 d9 (A.join (λe0 l=>A.k0 e0 λe1=>A.peek (.lg cc 1 (.pointer (some ⟨b,0,none⟩))) l λe2=>A.ucV e2 λG e3=>A.chk G (A.uc0 e3 (A.ix 3 G e 3 l λe4=>A.ucI .u8 e4 λe5 e6=>A.ucI .i64 e6 λe7 e8=>A.k9 e8 λe9=>A.eqs [(.i e5,.i D),(.i e7,.i E),(.i e9,.i F)] λf0=>A.cond (!f0) (K [.v (.slice none 0 0),.i 11] l) (z [.v e1] l)))) λH=>A.cond (!d8) (A.peek (.lg cc 1 (.pointer (some ⟨b,0,none⟩))) k λf1=>A.ucV f1 λI f2=>A.chk I (A.uc0 f2 (A.opt (idS 3 I e) λf3=>A.heap (.st f3 [.int .u8 D,.int .i64 E,.int .i64 F]) k λg9 f4=>A.opt (idS 1 (.slice (some ⟨n,0,some 11⟩) (Int.toNat a) ((Int.toNat a)+1)) e) λf5=>A.heap (.st f5 [.bool true]) f4 λh0 f6=>A.new (.cells [.int .i64 e] 1 true) f6 λf7 f8=>A.heap (.ap cc 1 8 g (.slice (some ⟨f7,0,some 11⟩) 1 2)) f8 λf9 g0=>A.ucV f9 λJ g1=>A.chk J (A.uc0 g1 (H [.v J] g0))))) (H [.v g] k))))) (b6 [.v g] p)) [.v y,.i 0] f)) (A.peek (.lg cc 1 (.pointer (some ⟨b,0,none⟩))) f λg2=>A.ucV g2 λL g3=>A.chk L (A.uc0 g3 (K [.v L,.i 0] f)))) [.v (.slice (some ⟨b4,0,some 11⟩) 1 2)] b5))))))
def f72:R:=A.k6 ls λa b c=>A.c2 94 [.i a,.i b] h λd e=>A.cd .neq e 0 (K [.i 0,.i 0,.i 0,.i e] d) (A.c5 107 [.i a,.i b,.i c] d λf g=>A.cond (!g) (K [.i 0,.i 0,.i 0,.i 7] f) (A.c6 108 [.i a,.i b,.i c] f λj k l m=>K [.i k,.i l,.i m,.i 0] j))
def f73:R:=A.unI ls λb k=>A.unI k λc l=>A.k1 l λd a e f=>A.c2 70 [.i b,.i c,.i d] h λg m=>A.cd .neq m 0 (K [.i 0,.i 0,.i 0,.i 1] g) (A.c2 70 [.i a,.i e,.i f] g λj n=>A.cd .neq n 0 (K [.i 0,.i 0,.i 0,.i 1] j) (A.opt (inB 8 a) λa8=>A.opt (cX gl2 0 [(a,4)] 4) λo=>A.ucI .i64 o λp q=>A.ucI .i64 q λr s=>A.ucI .i64 s λt u=>A.k9 u λv=>A.c3 109 [.i p,.i r,.i t,.i v,.i c,.i d] j λw x y=>A.opt (inB 8 b) λa9=>A.opt (cX gl2 0 [(b,4)] 4) λz=>A.ucI .i64 z λB C=>A.ucI .i64 C λD E=>A.ucI .i64 E λF G=>A.k9 G λH=>A.opt (inB 8 a) λb0=>A.opt (cX gl2 0 [(a,4)] 4) λI=>A.ucI .i64 I λJ L=>A.ucI .i64 L λM N=>A.ucI .i64 N λO P=>A.k9 P λQ=>A.call 112 [.i B,.i D,.i F,.i H,.i J,.i M,.i O,.i Q] w λS T=>A.k1 S λU V W X=>A.c2 111 [.i U,.i V,.i W,.i X] T λY Z=>A.pa x e λa0=>A.pa y f λa1=>A.call 110 [.i Z,.i a0,.i a1] Y λa2 a3=>A.k1 a2 λa4 a5 a6 a7=>K [.i a4,.i a5,.i a6,.i a7] a3))
def f74:R:=A.unI ls λa o=>A.unI o λb p=>A.k1 p λc d e f=>A.c2 70 [.i a,.i b,.i c] h λg q=>A.cd .neq q 0 (K [.i 0,.i 0,.i 0,.i 1] g) (A.c2 43 [.i d,.i e,.i f] g λj r=>A.cd .neq r 0 (K [.i 0,.i 0,.i 0,.i 1] j) (A.c6 113 [.i a,.i b,.i c,.i d,.i e,.i f] j λs k l m=>A.c2 43 [.i k,.i l,.i m] s λn t=>A.cd .neq t 0 (K [.i 0,.i 0,.i 0,.i 3] n) (K [.i k,.i l,.i m,.i 0] n)))
def f75:R:=A.k12 ls λb f k l=>A.pa f 1 λm=>A.loop (λn o g=>A.k2 o λe=>A.cd .lss e k (A.join (λp q=>A.un0 p (A.pa e 1 λr=>n [.i r] q)) λj=>A.loop (λs t c=>A.k2 t λa=>A.cd .gtr a f (A.ix 3 b a 3 c λu=>A.k4 u λv w x=>A.ps a 1 λy=>A.ix 3 b y 3 c λz=>A.k4 z λB C D=>A.callv l [.agg ⟨[.int .i64 v,.int .i64 w,.int .u8 x]⟩,.agg ⟨[.int .i64 B,.int .i64 C,.int .u8 D]⟩] [.leaf (.i .i64)] c λE d=>A.k2 E λF=>A.cd .lss F 0 (A.ps a 1 λG=>A.ps a 1 λH=>A.ix 3 b H 3 d λI=>A.k4 I λJ L M=>A.ix 3 b a 3 d λN=>A.k4 N λO P Q=>A.opt (idS 3 b a) λS=>A.heap (.st S [.int .i64 J,.int .i64 L,.int .u8 M]) d λX T=>A.opt (idS 3 b G) λU=>A.heap (.st U [.int .i64 O,.int .i64 P,.int .u8 Q]) T λY V=>A.ps a 1 λW=>s [.i W] V) (j [] d)) (j [] c)) [.i e] g) (K [] g)) [.i m] h
def f77:R:=A.k12 ls λc b o a6=>A.ps o b λa=>A.cmp .geq a 8 λp=>A.join (λq r=>A.un0 q (K [] r)) λg=>A.cond p (A.conv .u64 a λs=>A.new (.cells [.int .u64 0] 1 true) h λj t=>A.heap (.st (.pointer (some ⟨j,0,none⟩)) [.int .u64 s]) t λa7 u=>A.c2 115 [.i a] u λw x=>A.pq a 4 λy=>A.pm y 2 λz=>A.pa b z λB=>A.ps B 1 λC=>A.loop (λD E k=>A.k2 E λd=>A.pq a 4 λF=>A.pm F 2 λG=>A.pa b G λH=>A.pa H 1 λI=>A.cd .leq d I (A.c2 116 [.v (.pointer (some ⟨j,0,none⟩))] k λl J=>A.ari .sub .u64 x 1 λL=>A.ari .and .u64 J L λM=>A.ci M λe=>A.cmp .geq e a λN=>A.join (λO f=>A.k2 O λm=>A.pa b m λP=>A.pa b m λQ=>A.ix 3 c Q 3 f λS=>A.k4 S λT U V=>A.ix 3 c d 3 f λW=>A.k4 W λX Y Z=>A.opt (idS 3 c d) λa0=>A.heap (.st a0 [.int .i64 T,.int .i64 U,.int .u8 V]) f λa8 a1=>A.opt (idS 3 c P) λa2=>A.heap (.st a2 [.int .i64 X,.int .i64 Y,.int .u8 Z]) a1 λa9 a3=>A.pa d 1 λa4=>D [.i a4] a3) λn=>A.cond N (A.ps e a λa5=>n [.i a5] l) (n [.i e] l)) (g [] k)) [.i C] w) (g [] h)
def f78:R:=A.k12 ls λc d q e=>A.ps q d λa=>A.new (.cells [.int .i64 0] 1 true) h λb g=>A.pq a 4 λr=>A.pm r 1 λs=>A.pa d s λl=>A.pq a 4 λt=>A.pm t 2 λu=>A.pa d u λj=>A.pq a 4 λw=>A.pm w 3 λx=>A.pa d x λm=>A.cmp .geq a 8 λy=>A.join (λz f=>A.k2 z λk=>A.peek (.lg cc 1 (.pointer (some ⟨b,0,none⟩))) f λB=>A.k9 B λn=>A.cd .eql n 0 (K [.i k,.i 1] f) (A.cd .eql n 12 (K [.i k,.i 2] f) (K [.i k,.i 0] f))) λo=>A.cond y (A.cmp .geq a 50 λC=>A.join (λD E=>A.k6 D λF G H=>A.c2 118 [.v c,.i F,.i G,.i H,.v (.pointer (some ⟨b,0,none⟩)),.v e] E λI J=>o [.i J] I) λp=>A.cond C (A.c2 117 [.v c,.i l,.v (.pointer (some ⟨b,0,none⟩)),.v e] g λL M=>A.c2 117 [.v c,.i j,.v (.pointer (some ⟨b,0,none⟩)),.v e] L λN O=>A.c2 117 [.v c,.i m,.v (.pointer (some ⟨b,0,none⟩)),.v e] N λP Q=>p [.i M,.i O,.i Q] P) (p [.i l,.i j,.i m] g)) (o [.i j] g)
def f79:R:=A.k12 ls λa e f z=>A.ps f 1 λg=>A.loop (λj k b=>A.k3 k λc d=>A.cd .lss c d (A.ix 3 a d 3 b λl=>A.k4 l λm n o=>A.ix 3 a c 3 b λp=>A.k4 p λq r s=>A.opt (idS 3 a c) λt=>A.heap (.st t [.int .i64 m,.int .i64 n,.int .u8 o]) b λB u=>A.opt (idS 3 a d) λv=>A.heap (.st v [.int .i64 q,.int .i64 r,.int .u8 s]) u λC w=>A.pa c 1 λx=>A.ps d 1 λy=>j [.i x,.i y] w) (K [] b)) [.i e,.i g] h
def f80:R:=A.k12 ls λa p g q=>A.pa p 1 λC=>A.loop (λD E r=>A.k3 E λF s=>A.cd .lss s 5 (A.join (λG j=>A.k2 G λc=>A.cd .eql c g (K [.b true] j) (A.ps g p λH=>A.cd .lss H 50 (K [.b false] j) (A.ps c 1 λI=>A.ps c 1 λJ=>A.ix 3 a J 3 j λL=>A.k4 L λM N O=>A.ix 3 a c 3 j λP=>A.k4 P λQ S T=>A.opt (idS 3 a c) λU=>A.heap (.st U [.int .i64 M,.int .i64 N,.int .u8 O]) j λi4 V=>A.opt (idS 3 a I) λW=>A.heap (.st W [.int .i64 Q,.int .i64 S,.int .u8 T]) V λi5 t=>A.ps c p λX=>A.cmp .geq X 2 λY=>A.join (λZ u=>A.un0 Z (A.ps g c λa0=>A.cmp .geq a0 2 λa1=>A.join (λa2 a3=>A.un0 a2 (A.pa s 1 λa4=>D [.i c,.i a4] a3)) λv=>A.cond a1 (A.pa c 1 λa5=>A.join (λa6 a7=>A.un0 a6 (v [] a7)) λw=>A.loop (λa8 a9 k=>A.k2 a9 λd=>A.cd .lss d g (A.ix 3 a d 3 k λb0=>A.k4 b0 λb1 b2 b3=>A.ps d 1 λb4=>A.ix 3 a b4 3 k λb5=>A.k4 b5 λb6 b7 b8=>A.callv q [.agg ⟨[.int .i64 b1,.int .i64 b2,.int .u8 b3]⟩,.agg ⟨[.int .i64 b6,.int .i64 b7,.int .u8 b8]⟩] [.leaf (.i .i64)] k λb9 l=>A.k2 b9 λc0=>A.cmp .lss c0 0 λc1=>A.cond (!c1) (w [] l) (A.ps d 1 λc2=>A.ps d 1 λc3=>A.ix 3 a c3 3 l λc4=>A.k4 c4 λc5 c6 c7=>A.ix 3 a d 3 l λc8=>A.k4 c8 λc9 d0 d1=>A.opt (idS 3 a d) λd2=>A.heap (.st d2 [.int .i64 c5,.int .i64 c6,.int .u8 c7]) l λi6 d3=>A.opt (idS 3 a c2) λd4=>A.heap (.st d4 [.int .i64 c9,.int .i64 d0,.int .u8 d1]) d3 λi7 d5=>A.pa d 1 λd6=>a8 [.i d6] d5)) (w [] k)) [.i a5] u) (v [] u))) λx=>A.cond Y (A.ps c 1 λd7=>A.join (λd8 d9=>A.un0 d8 (x [] d9)) λy=>A.loop (λe0 e1 m=>A.k2 e1 λe=>A.cd .geq e 1 (A.ix 3 a e 3 m λe2=>A.k4 e2 λe3 e4 e5=>A.ps e 1 λe6=>A.ix 3 a e6 3 m λe7=>A.k4 e7 λe8 e9 f0=>A.callv q [.agg ⟨[.int .i64 e3,.int .i64 e4,.int .u8 e5]⟩,.agg ⟨[.int .i64 e8,.int .i64 e9,.int .u8 f0]⟩] [.leaf (.i .i64)] m λf1 n=>A.k2 f1 λf2=>A.cmp .lss f2 0 λf3=>A.cond (!f3) (y [] n) (A.ps e 1 λf4=>A.ps e 1 λf5=>A.ix 3 a f5 3 n λf6=>A.k4 f6 λf7 f8 f9=>A.ix 3 a e 3 n λg0=>A.k4 g0 λg1 g2 g3=>A.opt (idS 3 a e) λg4=>A.heap (.st g4 [.int .i64 f7,.int .i64 f8,.int .u8 f9]) n λi8 g5=>A.opt (idS 3 a f4) λg6=>A.heap (.st g6 [.int .i64 g1,.int .i64 g2,.int .u8 g3]) g5 λi9 g7=>A.ps e 1 λg8=>e0 [.i g8] g7)) (y [] m)) [.i d7] t) (x [] t)))) λz=>A.loop (λg9 h0 o=>A.k2 h0 λf=>A.cd .lss f g (A.ix 3 a f 3 o λh1=>A.k4 h1 λh2 h3 h4=>A.ps f 1 λh5=>A.ix 3 a h5 3 o λh6=>A.k4 h6 λh7 h8 h9=>A.callv q [.agg ⟨[.int .i64 h2,.int .i64 h3,.int .u8 h4]⟩,.agg ⟨[.int .i64 h7,.int .i64 h8,.int .u8 h9]⟩] [.leaf (.i .i64)] o λi0 B=>A.k2 i0 λi1=>A.cmp .lss i1 0 λi2=>A.cond (!i2) (A.pa f 1 λi3=>g9 [.i i3] B) (z [.i f] B)) (z [.i f] o)) [.i F] r) (K [.b false] r)) [.i C,.i 0] h
def f81:R:=A.k10 ls λa c s l m=>A.ix 3 a l 3 h λt=>A.k4 t λu v w=>A.ix 3 a c 3 h λx=>A.k4 x λy z B=>A.opt (idS 3 a c) λC=>A.heap (.st C [.int .i64 u,.int .i64 v,.int .u8 w]) h λd2 D=>A.opt (idS 3 a l) λE=>A.heap (.st E [.int .i64 y,.int .i64 z,.int .u8 B]) D λd3 F=>A.pa c 1 λG=>A.ps s 1 λH=>A.loop (λI J L=>A.k3 J λM n=>A.join (λN O=>A.k2 N λb=>A.join (λP f=>A.k2 P λg=>A.cd .gtr b g (K [.i b] f) (A.ix 3 a g 3 f λQ=>A.k4 Q λS T U=>A.ix 3 a b 3 f λV=>A.k4 V λW X Y=>A.opt (idS 3 a b) λZ=>A.heap (.st Z [.int .i64 S,.int .i64 T,.int .u8 U]) f λd4 a0=>A.opt (idS 3 a g) λa1=>A.heap (.st a1 [.int .i64 W,.int .i64 X,.int .u8 Y]) a0 λd5 a2=>A.pa b 1 λa3=>A.ps g 1 λa4=>I [.i a3,.i a4] a2)) λo=>A.loop (λa5 a6 j=>A.k2 a6 λd=>A.cd .leq b d (A.ix 3 a c 3 j λa7=>A.k4 a7 λa8 a9 b0=>A.ix 3 a d 3 j λb1=>A.k4 b1 λb2 b3 b4=>A.callv m [.agg ⟨[.int .i64 a8,.int .i64 a9,.int .u8 b0]⟩,.agg ⟨[.int .i64 b2,.int .i64 b3,.int .u8 b4]⟩] [.leaf (.i .i64)] j λb5 p=>A.k2 b5 λb6=>A.cd .lss b6 0 (A.ps d 1 λb7=>a5 [.i b7] p) (o [.i d] p)) (o [.i d] j)) [.i n] O) λq=>A.loop (λb8 b9 k=>A.k2 b9 λe=>A.cd .leq e n (A.ix 3 a c 3 k λc0=>A.k4 c0 λc1 c2 c3=>A.ix 3 a e 3 k λc4=>A.k4 c4 λc5 c6 c7=>A.callv m [.agg ⟨[.int .i64 c1,.int .i64 c2,.int .u8 c3]⟩,.agg ⟨[.int .i64 c5,.int .i64 c6,.int .u8 c7]⟩] [.leaf (.i .i64)] k λc8 r=>A.k2 c8 λc9=>A.cmp .lss c9 0 λd0=>A.cond (!d0) (A.pa e 1 λd1=>b8 [.i d1] r) (q [.i e] r)) (q [.i e] k)) [.i M] L) [.i G,.i H] F
def f82:R:=A.k10 ls λa c G u p=>A.ix 3 a u 3 h λH=>A.k4 H λI J L=>A.ix 3 a c 3 h λM=>A.k4 M λN O P=>A.opt (idS 3 a c) λQ=>A.heap (.st Q [.int .i64 I,.int .i64 J,.int .u8 L]) h λl5 S=>A.opt (idS 3 a u) λT=>A.heap (.st T [.int .i64 N,.int .i64 O,.int .u8 P]) S λl6 U=>A.pa c 1 λV=>A.ps G 1 λv=>A.join (λW X=>A.k2 W λj=>A.join (λY f=>A.k2 Y λd=>A.cd .gtr j d (A.ix 3 a c 3 f λZ=>A.k4 Z λa0 a1 a2=>A.ix 3 a d 3 f λa3=>A.k4 a3 λa4 a5 a6=>A.opt (idS 3 a d) λa7=>A.heap (.st a7 [.int .i64 a0,.int .i64 a1,.int .u8 a2]) f λl7 a8=>A.opt (idS 3 a c) λa9=>A.heap (.st a9 [.int .i64 a4,.int .i64 a5,.int .u8 a6]) a8 λl8 b0=>K [.i d,.b true] b0) (A.ix 3 a d 3 f λb1=>A.k4 b1 λb2 b3 b4=>A.ix 3 a j 3 f λb5=>A.k4 b5 λb6 b7 b8=>A.opt (idS 3 a j) λb9=>A.heap (.st b9 [.int .i64 b2,.int .i64 b3,.int .u8 b4]) f λl9 c0=>A.opt (idS 3 a d) λc1=>A.heap (.st c1 [.int .i64 b6,.int .i64 b7,.int .u8 b8]) c0 λm0 c2=>A.pa j 1 λc3=>A.ps d 1 λc4=>A.loop (λc5 c6 c7=>A.k3 c6 λc8 w=>A.join (λc9 d0=>A.k2 c9 λk=>A.join (λd1 g=>A.k2 d1 λe=>A.cd .gtr k e (A.ix 3 a c 3 g λd2=>A.k4 d2 λd3 d4 d5=>A.ix 3 a e 3 g λd6=>A.k4 d6 λd7 d8 d9=>A.opt (idS 3 a e) λe0=>A.heap (.st e0 [.int .i64 d3,.int .i64 d4,.int .u8 d5]) g λm1 e1=>A.opt (idS 3 a c) λe2=>A.heap (.st e2 [.int .i64 d7,.int .i64 d8,.int .u8 d9]) e1 λm2 e3=>K [.i e,.b false] e3) (A.ix 3 a e 3 g λe4=>A.k4 e4 λe5 e6 e7=>A.ix 3 a k 3 g λe8=>A.k4 e8 λe9 f0 f1=>A.opt (idS 3 a k) λf2=>A.heap (.st f2 [.int .i64 e5,.int .i64 e6,.int .u8 e7]) g λm3 f3=>A.opt (idS 3 a e) λf4=>A.heap (.st f4 [.int .i64 e9,.int .i64 f0,.int .u8 f1]) f3 λm4 f5=>A.pa k 1 λf6=>A.ps e 1 λf7=>c5 [.i f6,.i f7] f5)) λx=>A.loop (λf8 f9 q=>A.k2 f9 λl=>A.cd .leq k l (A.ix 3 a l 3 q λg0=>A.k4 g0 λg1 g2 g3=>A.ix 3 a c 3 q λg4=>A.k4 g4 λg5 g6 g7=>A.callv p [.agg ⟨[.int .i64 g1,.int .i64 g2,.int .u8 g3]⟩,.agg ⟨[.int .i64 g5,.int .i64 g6,.int .u8 g7]⟩] [.leaf (.i .i64)] q λg8 y=>A.k2 g8 λg9=>A.cmp .lss g9 0 λh0=>A.cond (!h0) (A.ps l 1 λh1=>f8 [.i h1] y) (x [.i l] y)) (x [.i l] q)) [.i w] d0) λz=>A.loop (λh2 h3 r=>A.k2 h3 λm=>A.cd .leq m w (A.ix 3 a m 3 r λh4=>A.k4 h4 λh5 h6 h7=>A.ix 3 a c 3 r λh8=>A.k4 h8 λh9 i0 i1=>A.callv p [.agg ⟨[.int .i64 h5,.int .i64 h6,.int .u8 h7]⟩,.agg ⟨[.int .i64 h9,.int .i64 i0,.int .u8 i1]⟩] [.leaf (.i .i64)] r λi2 B=>A.k2 i2 λi3=>A.cd .lss i3 0 (A.pa m 1 λi4=>h2 [.i i4] B) (z [.i m] B)) (z [.i m] r)) [.i c8] c7) [.i c3,.i c4] c2)) λC=>A.loop (λi5 i6 s=>A.k2 i6 λn=>A.cd .leq j n (A.ix 3 a n 3 s λi7=>A.k4 i7 λi8 i9 j0=>A.ix 3 a c 3 s λj1=>A.k4 j1 λj2 j3 j4=>A.callv p [.agg ⟨[.int .i64 i8,.int .i64 i9,.int .u8 j0]⟩,.agg ⟨[.int .i64 j2,.int .i64 j3,.int .u8 j4]⟩] [.leaf (.i .i64)] s λj5 D=>A.k2 j5 λj6=>A.cmp .lss j6 0 λj7=>A.cond (!j7) (A.ps n 1 λj8=>i5 [.i j8] D) (C [.i n] D)) (C [.i n] s)) [.i v] X) λE=>A.loop (λj9 k0 t=>A.k2 k0 λo=>A.cd .leq o v (A.ix 3 a o 3 t λk1=>A.k4 k1 λk5 k6 k7=>A.ix 3 a c 3 t λk8=>A.k4 k8 λk9 l0 l1=>A.callv p [.agg ⟨[.int .i64 k5,.int .i64 k6,.int .u8 k7]⟩,.agg ⟨[.int .i64 k9,.int .i64 l0,.int .u8 l1]⟩] [.leaf (.i .i64)] t λl2 F=>A.k2 l2 λl3=>A.cd .lss l3 0 (A.pa o 1 λl4=>j9 [.i l4] F) (E [.i o] F)) (E [.i o] t)) [.i V] U
def f84:R:=A.k2 ls λa=>A.cmp .geq a 4294967296 λm=>A.join (λn d=>A.k3 n λb e=>A.cmp .geq b 65536 λo=>A.join (λp f=>A.k3 p λc g=>A.cmp .geq c 256 λq=>A.join (λr s=>A.k3 r λt u=>A.conv .u8 t λv=>A.opt (strAt (.mk ⟨[.ofNat 0,.ofNat 1,.ofNat 2,.ofNat 2,.ofNat 3,.ofNat 3,.ofNat 3,.ofNat 3,.ofNat 4,.ofNat 4,.ofNat 4,.ofNat 4,.ofNat 4,.ofNat 4,.ofNat 4,.ofNat 4,.ofNat 5,.ofNat 5,.ofNat 5,.ofNat 5,.ofNat 5,.ofNat 5,.ofNat 5,.ofNat 5,.ofNat 5,.ofNat 5,.ofNat 5,.ofNat 5,.ofNat 5,.ofNat 5,.ofNat 5,.ofNat 5,.ofNat 6,.ofNat 6,.ofNat 6,.ofNat 6,.ofNat 6,.ofNat 6,.ofNat 6,.ofNat 6,.ofNat 6,.ofNat 6,.ofNat 6,.ofNat 6,.ofNat 6,.ofNat 6,.ofNat 6,.ofNat 6,.ofNat 6,.ofNat 6,.ofNat 6,.ofNat 6,.ofNat 6,.ofNat 6,.ofNat 6,.ofNat 6,.ofNat 6,.ofNat 6,.ofNat 6,.ofNat 6,.ofNat 6,.ofNat 6,.ofNat 6,.ofNat 6,.ofNat 7,.ofNat 7,.ofNat 7,.ofNat 7,.ofNat 7,.ofNat 7,.ofNat 7,.ofNat 7,.ofNat 7,.ofNat 7,.ofNat 7,.ofNat 7,.ofNat 7,.ofNat 7,.ofNat 7,.ofNat 7,.ofNat 7,.ofNat 7,.ofNat 7,.ofNat 7,.ofNat 7,.ofNat 7,.ofNat 7,.ofNat 7,.ofNat 7,.ofNat 7,.ofNat 7,.ofNat 7,.ofNat 7,.ofNat 7,.ofNat 7,.ofNat 7,.ofNat 7,.ofNat 7,.ofNat 7,.ofNat 7,.ofNat 7,.ofNat 7,.ofNat 7,.ofNat 7,.ofNat 7,.ofNat 7,.ofNat 7,.ofNat 7,.ofNat 7,.ofNat 7,.ofNat 7,.ofNat 7,.ofNat 7,.ofNat 7,.ofNat 7,.ofNat 7,.ofNat 7,.ofNat 7,.ofNat 7,.ofNat 7,.ofNat 7,.ofNat 7,.ofNat 7,.ofNat 7,.ofNat 7,.ofNat 7,.ofNat 7,.ofNat 7,.ofNat 8,.ofNat 8,.ofNat 8,.ofNat 8,.ofNat 8,.ofNat 8,.ofNat 8,.ofNat 8,.ofNat 8,.ofNat 8,.ofNat 8,.ofNat 8,.ofNat 8,.ofNat 8,.ofNat 8,.ofNat 8,.ofNat 8,.ofNat 8,.ofNat 8,.ofNat 8,.ofNat 8,.ofNat 8,.ofNat 8,.ofNat 8,.ofNat 8,.ofNat 8,.ofNat 8,.ofNat 8,.ofNat 8,.ofNat 8,.ofNat 8,.ofNat 8,.ofNat 8,.ofNat 8,.ofNat 8,.ofNat 8,.ofNat 8,.ofNat 8,.ofNat 8,.ofNat 8,.ofNat 8,.ofNat 8,.ofNat 8,.ofNat 8,.ofNat 8,.ofNat 8,.ofNat 8,.ofNat 8,.ofNat 8,.ofNat 8,.ofNat 8,.ofNat 8,.ofNat 8,.ofNat 8,.ofNat 8,.ofNat 8,.ofNat 8,.ofNat 8,.ofNat 8,.ofNat 8,.ofNat 8,.ofNat 8,.ofNat 8,.ofNat 8,.ofNat 8,.ofNat 8,.ofNat 8,.ofNat 8,.ofNat 8,.ofNat 8,.ofNat 8,.ofNat 8,.ofNat 8,.ofNat 8,.ofNat 8,.ofNat 8,.ofNat 8,.ofNat 8,.ofNat 8,.ofNat 8,.ofNat 8,.ofNat 8,.ofNat 8,.ofNat 8,.ofNat 8,.ofNat 8,.ofNat 8,.ofNat 8,.ofNat 8,.ofNat 8,.ofNat 8,.ofNat 8,.ofNat 8,.ofNat 8,.ofNat 8,.ofNat 8,.ofNat 8,.ofNat 8,.ofNat 8,.ofNat 8,.ofNat 8,.ofNat 8,.ofNat 8,.ofNat 8,.ofNat 8,.ofNat 8,.ofNat 8,.ofNat 8,.ofNat 8,.ofNat 8,.ofNat 8,.ofNat 8,.ofNat 8,.ofNat 8,.ofNat 8,.ofNat 8,.ofNat 8,.ofNat 8,.ofNat 8,.ofNat 8,.ofNat 8,.ofNat 8,.ofNat 8,.ofNat 8,.ofNat 8,.ofNat 8,.ofNat 8,.ofNat 8]⟩) v) λw=>A.ci w λx=>A.pa u x λy=>K [.i y] s) λj=>A.cond q (A.shf .shr .u64 c .u64 8 λz=>A.pa g 8 λB=>j [.i z,.i B] f) (j [.i c,.i g] f)) λk=>A.cond o (A.shf .shr .u64 b .u64 16 λC=>A.pa e 16 λD=>k [.i C,.i D] d) (k [.i b,.i e] d)) λl=>A.cond m (A.shf .shr .u64 a .u64 32 λE=>l [.i E,.i 32] h) (l [.i a,.i 0] h)
def f86:R:=A.k12 ls λb f k l=>A.pa f 1 λm=>A.loop (λn o g=>A.k2 o λe=>A.cd .lss e k (A.join (λp q=>A.un0 p (A.pa e 1 λr=>n [.i r] q)) λj=>A.loop (λs t c=>A.k2 t λa=>A.cd .gtr a f (A.ix 3 b a 3 c λu=>A.k11 u λv w x=>A.ps a 1 λy=>A.ix 3 b y 3 c λz=>A.k11 z λB C D=>A.callv l [.agg ⟨[.int .i64 v,.int .u8 w,.int .u8 x]⟩,.agg ⟨[.int .i64 B,.int .u8 C,.int .u8 D]⟩] [.leaf (.i .i64)] c λE d=>A.k2 E λF=>A.cd .lss F 0 (A.ps a 1 λG=>A.ps a 1 λH=>A.ix 3 b H 3 d λI=>A.k11 I λJ L M=>A.ix 3 b a 3 d λN=>A.k11 N λO P Q=>A.opt (idS 3 b a) λS=>A.heap (.st S [.int .i64 J,.int .u8 L,.int .u8 M]) d λX T=>A.opt (idS 3 b G) λU=>A.heap (.st U [.int .i64 O,.int .u8 P,.int .u8 Q]) T λY V=>A.ps a 1 λW=>s [.i W] V) (j [] d)) (j [] c)) [.i e] g) (K [] g)) [.i m] h
def f88:R:=A.k12 ls λc b o a6=>A.ps o b λa=>A.cmp .geq a 8 λp=>A.join (λq r=>A.un0 q (K [] r)) λg=>A.cond p (A.conv .u64 a λs=>A.new (.cells [.int .u64 0] 1 true) h λj t=>A.heap (.st (.pointer (some ⟨j,0,none⟩)) [.int .u64 s]) t λa7 u=>A.c2 115 [.i a] u λw x=>A.pq a 4 λy=>A.pm y 2 λz=>A.pa b z λB=>A.ps B 1 λC=>A.loop (λD E k=>A.k2 E λd=>A.pq a 4 λF=>A.pm F 2 λG=>A.pa b G λH=>A.pa H 1 λI=>A.cd .leq d I (A.c2 116 [.v (.pointer (some ⟨j,0,none⟩))] k λl J=>A.ari .sub .u64 x 1 λL=>A.ari .and .u64 J L λM=>A.ci M λe=>A.cmp .geq e a λN=>A.join (λO f=>A.k2 O λm=>A.pa b m λP=>A.pa b m λQ=>A.ix 3 c Q 3 f λS=>A.k11 S λT U V=>A.ix 3 c d 3 f λW=>A.k11 W λX Y Z=>A.opt (idS 3 c d) λa0=>A.heap (.st a0 [.int .i64 T,.int .u8 U,.int .u8 V]) f λa8 a1=>A.opt (idS 3 c P) λa2=>A.heap (.st a2 [.int .i64 X,.int .u8 Y,.int .u8 Z]) a1 λa9 a3=>A.pa d 1 λa4=>D [.i a4] a3) λn=>A.cond N (A.ps e a λa5=>n [.i a5] l) (n [.i e] l)) (g [] k)) [.i C] w) (g [] h)
def f89:R:=A.k12 ls λc d q e=>A.ps q d λa=>A.new (.cells [.int .i64 0] 1 true) h λb g=>A.pq a 4 λr=>A.pm r 1 λs=>A.pa d s λl=>A.pq a 4 λt=>A.pm t 2 λu=>A.pa d u λj=>A.pq a 4 λw=>A.pm w 3 λx=>A.pa d x λm=>A.cmp .geq a 8 λy=>A.join (λz f=>A.k2 z λk=>A.peek (.lg cc 1 (.pointer (some ⟨b,0,none⟩))) f λB=>A.k9 B λn=>A.cd .eql n 0 (K [.i k,.i 1] f) (A.cd .eql n 12 (K [.i k,.i 2] f) (K [.i k,.i 0] f))) λo=>A.cond y (A.cmp .geq a 50 λC=>A.join (λD E=>A.k6 D λF G H=>A.c2 121 [.v c,.i F,.i G,.i H,.v (.pointer (some ⟨b,0,none⟩)),.v e] E λI J=>o [.i J] I) λp=>A.cond C (A.c2 120 [.v c,.i l,.v (.pointer (some ⟨b,0,none⟩)),.v e] g λL M=>A.c2 120 [.v c,.i j,.v (.pointer (some ⟨b,0,none⟩)),.v e] L λN O=>A.c2 120 [.v c,.i m,.v (.pointer (some ⟨b,0,none⟩)),.v e] N λP Q=>p [.i M,.i O,.i Q] P) (p [.i l,.i j,.i m] g)) (o [.i j] g)
def f90:R:=A.k12 ls λa e f z=>A.ps f 1 λg=>A.loop (λj k b=>A.k3 k λc d=>A.cd .lss c d (A.ix 3 a d 3 b λl=>A.k11 l λm n o=>A.ix 3 a c 3 b λp=>A.k11 p λq r s=>A.opt (idS 3 a c) λt=>A.heap (.st t [.int .i64 m,.int .u8 n,.int .u8 o]) b λB u=>A.opt (idS 3 a d) λv=>A.heap (.st v [.int .i64 q,.int .u8 r,.int .u8 s]) u λC w=>A.pa c 1 λx=>A.ps d 1 λy=>j [.i x,.i y] w) (K [] b)) [.i e,.i g] h
def f91:R:=A.k12 ls λa p g q=>A.pa p 1 λC=>A.loop (λD E r=>A.k3 E λF s=>A.cd .lss s 5 (A.join (λG j=>A.k2 G λc=>A.cd .eql c g (K [.b true] j) (A.ps g p λH=>A.cd .lss H 50 (K [.b false] j) (A.ps c 1 λI=>A.ps c 1 λJ=>A.ix 3 a J 3 j λL=>A.k11 L λM N O=>A.ix 3 a c 3 j λP=>A.k11 P λQ S T=>A.opt (idS 3 a c) λU=>A.heap (.st U [.int .i64 M,.int .u8 N,.int .u8 O]) j λi4 V=>A.opt (idS 3 a I) λW=>A.heap (.st W [.int .i64 Q,.int .u8 S,.int .u8 T]) V λi5 t=>A.ps c p λX=>A.cmp .geq X 2 λY=>A.join (λZ u=>A.un0 Z (A.ps g c λa0=>A.cmp .geq a0 2 λa1=>A.join (λa2 a3=>A.un0 a2 (A.pa s 1 λa4=>D [.i c,.i a4] a3)) λv=>A.cond a1 (A.pa c 1 λa5=>A.join (λa6 a7=>A.un0 a6 (v [] a7)) λw=>A.loop (λa8 a9 k=>A.k2 a9 λd=>A.cd .lss d g (A.ix 3 a d 3 k λb0=>A.k11 b0 λb1 b2 b3=>A.ps d 1 λb4=>A.ix 3 a b4 3 k λb5=>A.k11 b5 λb6 b7 b8=>A.callv q [.agg ⟨[.int .i64 b1,.int .u8 b2,.int .u8 b3]⟩,.agg ⟨[.int .i64 b6,.int .u8 b7,.int .u8 b8]⟩] [.leaf (.i .i64)] k λb9 l=>A.k2 b9 λc0=>A.cmp .lss c0 0 λc1=>A.cond (!c1) (w [] l) (A.ps d 1 λc2=>A.ps d 1 λc3=>A.ix 3 a c3 3 l λc4=>A.k11 c4 λc5 c6 c7=>A.ix 3 a d 3 l λc8=>A.k11 c8 λc9 d0 d1=>A.opt (idS 3 a d) λd2=>A.heap (.st d2 [.int .i64 c5,.int .u8 c6,.int .u8 c7]) l λi6 d3=>A.opt (idS 3 a c2) λd4=>A.heap (.st d4 [.int .i64 c9,.int .u8 d0,.int .u8 d1]) d3 λi7 d5=>A.pa d 1 λd6=>a8 [.i d6] d5)) (w [] k)) [.i a5] u) (v [] u))) λx=>A.cond Y (A.ps c 1 λd7=>A.join (λd8 d9=>A.un0 d8 (x [] d9)) λy=>A.loop (λe0 e1 m=>A.k2 e1 λe=>A.cd .geq e 1 (A.ix 3 a e 3 m λe2=>A.k11 e2 λe3 e4 e5=>A.ps e 1 λe6=>A.ix 3 a e6 3 m λe7=>A.k11 e7 λe8 e9 f0=>A.callv q [.agg ⟨[.int .i64 e3,.int .u8 e4,.int .u8 e5]⟩,.agg ⟨[.int .i64 e8,.int .u8 e9,.int .u8 f0]⟩] [.leaf (.i .i64)] m λf1 n=>A.k2 f1 λf2=>A.cmp .lss f2 0 λf3=>A.cond (!f3) (y [] n) (A.ps e 1 λf4=>A.ps e 1 λf5=>A.ix 3 a f5 3 n λf6=>A.k11 f6 λf7 f8 f9=>A.ix 3 a e 3 n λg0=>A.k11 g0 λg1 g2 g3=>A.opt (idS 3 a e) λg4=>A.heap (.st g4 [.int .i64 f7,.int .u8 f8,.int .u8 f9]) n λi8 g5=>A.opt (idS 3 a f4) λg6=>A.heap (.st g6 [.int .i64 g1,.int .u8 g2,.int .u8 g3]) g5 λi9 g7=>A.ps e 1 λg8=>e0 [.i g8] g7)) (y [] m)) [.i d7] t) (x [] t)))) λz=>A.loop (λg9 h0 o=>A.k2 h0 λf=>A.cd .lss f g (A.ix 3 a f 3 o λh1=>A.k11 h1 λh2 h3 h4=>A.ps f 1 λh5=>A.ix 3 a h5 3 o λh6=>A.k11 h6 λh7 h8 h9=>A.callv q [.agg ⟨[.int .i64 h2,.int .u8 h3,.int .u8 h4]⟩,.agg ⟨[.int .i64 h7,.int .u8 h8,.int .u8 h9]⟩] [.leaf (.i .i64)] o λi0 B=>A.k2 i0 λi1=>A.cmp .lss i1 0 λi2=>A.cond (!i2) (A.pa f 1 λi3=>g9 [.i i3] B) (z [.i f] B)) (z [.i f] o)) [.i F] r) (K [.b false] r)) [.i C,.i 0] h
def f92:R:=A.k10 ls λa c s l m=>A.ix 3 a l 3 h λt=>A.k11 t λu v w=>A.ix 3 a c 3 h λx=>A.k11 x λy z B=>A.opt (idS 3 a c) λC=>A.heap (.st C [.int .i64 u,.int .u8 v,.int .u8 w]) h λd2 D=>A.opt (idS 3 a l) λE=>A.heap (.st E [.int .i64 y,.int .u8 z,.int .u8 B]) D λd3 F=>A.pa c 1 λG=>A.ps s 1 λH=>A.loop (λI J L=>A.k3 J λM n=>A.join (λN O=>A.k2 N λb=>A.join (λP f=>A.k2 P λg=>A.cd .gtr b g (K [.i b] f) (A.ix 3 a g 3 f λQ=>A.k11 Q λS T U=>A.ix 3 a b 3 f λV=>A.k11 V λW X Y=>A.opt (idS 3 a b) λZ=>A.heap (.st Z [.int .i64 S,.int .u8 T,.int .u8 U]) f λd4 a0=>A.opt (idS 3 a g) λa1=>A.heap (.st a1 [.int .i64 W,.int .u8 X,.int .u8 Y]) a0 λd5 a2=>A.pa b 1 λa3=>A.ps g 1 λa4=>I [.i a3,.i a4] a2)) λo=>A.loop (λa5 a6 j=>A.k2 a6 λd=>A.cd .leq b d (A.ix 3 a c 3 j λa7=>A.k11 a7 λa8 a9 b0=>A.ix 3 a d 3 j λb1=>A.k11 b1 λb2 b3 b4=>A.callv m [.agg ⟨[.int .i64 a8,.int .u8 a9,.int .u8 b0]⟩,.agg ⟨[.int .i64 b2,.int .u8 b3,.int .u8 b4]⟩] [.leaf (.i .i64)] j λb5 p=>A.k2 b5 λb6=>A.cd .lss b6 0 (A.ps d 1 λb7=>a5 [.i b7] p) (o [.i d] p)) (o [.i d] j)) [.i n] O) λq=>A.loop (λb8 b9 k=>A.k2 b9 λe=>A.cd .leq e n (A.ix 3 a c 3 k λc0=>A.k11 c0 λc1 c2 c3=>A.ix 3 a e 3 k λc4=>A.k11 c4 λc5 c6 c7=>A.callv m [.agg ⟨[.int .i64 c1,.int .u8 c2,.int .u8 c3]⟩,.agg ⟨[.int .i64 c5,.int .u8 c6,.int .u8 c7]⟩] [.leaf (.i .i64)] k λc8 r=>A.k2 c8 λc9=>A.cmp .lss c9 0 λd0=>A.cond (!d0) (A.pa e 1 λd1=>b8 [.i d1] r) (q [.i e] r)) (q [.i e] k)) [.i M] L) [.i G,.i H] F
def f93:R:=A.k10 ls λa c G u p=>A.ix 3 a u 3 h λH=>A.k11 H λI J L=>A.ix 3 a c 3 h λM=>A.k11 M λN O P=>A.opt (idS 3 a c) λQ=>A.heap (.st Q [.int .i64 I,.int .u8 J,.int .u8 L]) h λl4 S=>A.opt (idS 3 a u) λT=>A.heap (.st T [.int .i64 N,.int .u8 O,.int .u8 P]) S λl5 U=>A.pa c 1 λV=>A.ps G 1 λv=>A.join (λW X=>A.k2 W λj=>A.join (λY f=>A.k2 Y λd=>A.cd .gtr j d (A.ix 3 a c 3 f λZ=>A.k11 Z λa0 a1 a2=>A.ix 3 a d 3 f λa3=>A.k11 a3 λa4 a5 a6=>A.opt (idS 3 a d) λa7=>A.heap (.st a7 [.int .i64 a0,.int .u8 a1,.int .u8 a2]) f λl6 a8=>A.opt (idS 3 a c) λa9=>A.heap (.st a9 [.int .i64 a4,.int .u8 a5,.int .u8 a6]) a8 λl7 b0=>K [.i d,.b true] b0) (A.ix 3 a d 3 f λb1=>A.k11 b1 λb2 b3 b4=>A.ix 3 a j 3 f λb5=>A.k11 b5 λb6 b7 b8=>A.opt (idS 3 a j) λb9=>A.heap (.st b9 [.int .i64 b2,.int .u8 b3,.int .u8 b4]) f λl8 c0=>A.opt (idS 3 a d) λc1=>A.heap (.st c1 [.int .i64 b6,.int .u8 b7,.int .u8 b8]) c0 λl9 c2=>A.pa j 1 λc3=>A.ps d 1 λc4=>A.loop (λc5 c6 c7=>A.k3 c6 λc8 w=>A.join (λc9 d0=>A.k2 c9 λk=>A.join (λd1 g=>A.k2 d1 λe=>A.cd .gtr k e (A.ix 3 a c 3 g λd2=>A.k11 d2 λd3 d4 d5=>A.ix 3 a e 3 g λd6=>A.k11 d6 λd7 d8 d9=>A.opt (idS 3 a e) λe0=>A.heap (.st e0 [.int .i64 d3,.int .u8 d4,.int .u8 d5]) g λm0 e1=>A.opt (idS 3 a c) λe2=>A.heap (.st e2 [.int .i64 d7,.int .u8 d8,.int .u8 d9]) e1 λm1 e3=>K [.i e,.b false] e3) (A.ix 3 a e 3 g λe4=>A.k11 e4 λe5 e6 e7=>A.ix 3 a k 3 g λe8=>A.k11 e8 λe9 f0 f1=>A.opt (idS 3 a k) λf2=>A.heap (.st f2 [.int .i64 e5,.int .u8 e6,.int .u8 e7]) g λm2 f3=>A.opt (idS 3 a e) λf4=>A.heap (.st f4 [.int .i64 e9,.int .u8 f0,.int .u8 f1]) f3 λm3 f5=>A.pa k 1 λf6=>A.ps e 1 λf7=>c5 [.i f6,.i f7] f5)) λx=>A.loop (λf8 f9 q=>A.k2 f9 λl=>A.cd .leq k l (A.ix 3 a l 3 q λg0=>A.k11 g0 λg1 g2 g3=>A.ix 3 a c 3 q λg4=>A.k11 g4 λg5 g6 g7=>A.callv p [.agg ⟨[.int .i64 g1,.int .u8 g2,.int .u8 g3]⟩,.agg ⟨[.int .i64 g5,.int .u8 g6,.int .u8 g7]⟩] [.leaf (.i .i64)] q λg8 y=>A.k2 g8 λg9=>A.cmp .lss g9 0 λh0=>A.cond (!h0) (A.ps l 1 λh1=>f8 [.i h1] y) (x [.i l] y)) (x [.i l] q)) [.i w] d0) λz=>A.loop (λh2 h3 r=>A.k2 h3 λm=>A.cd .leq m w (A.ix 3 a m 3 r λh4=>A.k11 h4 λh5 h6 h7=>A.ix 3 a c 3 r λh8=>A.k11 h8 λh9 i0 i1=>A.callv p [.agg ⟨[.int .i64 h5,.int .u8 h6,.int .u8 h7]⟩,.agg ⟨[.int .i64 h9,.int .u8 i0,.int .u8 i1]⟩] [.leaf (.i .i64)] r λi2 B=>A.k2 i2 λi3=>A.cd .lss i3 0 (A.pa m 1 λi4=>h2 [.i i4] B) (z [.i m] B)) (z [.i m] r)) [.i c8] c7) [.i c3,.i c4] c2)) λC=>A.loop (λi5 i6 s=>A.k2 i6 λn=>A.cd .leq j n (A.ix 3 a n 3 s λi7=>A.k11 i7 λi8 i9 j0=>A.ix 3 a c 3 s λj1=>A.k11 j1 λj2 j3 j4=>A.callv p [.agg ⟨[.int .i64 i8,.int .u8 i9,.int .u8 j0]⟩,.agg ⟨[.int .i64 j2,.int .u8 j3,.int .u8 j4]⟩] [.leaf (.i .i64)] s λj5 D=>A.k2 j5 λj6=>A.cmp .lss j6 0 λj7=>A.cond (!j7) (A.ps n 1 λj8=>i5 [.i j8] D) (C [.i n] D)) (C [.i n] s)) [.i v] X) λE=>A.loop (λj9 k0 t=>A.k2 k0 λo=>A.cd .leq o v (A.ix 3 a o 3 t λk1=>A.k11 k1 λk4 k5 k6=>A.ix 3 a c 3 t λk7=>A.k11 k7 λk8 k9 l0=>A.callv p [.agg ⟨[.int .i64 k4,.int .u8 k5,.int .u8 k6]⟩,.agg ⟨[.int .i64 k8,.int .u8 k9,.int .u8 l0]⟩] [.leaf (.i .i64)] t λl1 F=>A.k2 l1 λl2=>A.cd .lss l2 0 (A.pa o 1 λl3=>j9 [.i l3] F) (E [.i o] F)) (E [.i o] t)) [.i V] U
def f94:R:=A.k3 ls λa b=>A.cd .lss a 1 (K [.i 1] h) (A.cd .lss b 1 (K [.i 1] h) (A.cd .gtr a 256 (K [.i 1] h) (A.cd .gtr b 256 (K [.i 1] h) (A.pm a b λc=>A.cd .gtr c 256 (K [.i 1] h) (K [.i 0] h)))))
def f95:R:=A.unV ls λa c=>A.k0 c λd=>A.c2 122 [.v a,.v d] h λe f=>A.cmp .geq f 0 λg=>K [.b g] e
def f96:R:=A.k6 ls λe f a=>A.c5 97 [.i a] h λc d=>K [.b (!d)] c
def f97:R:=A.k2 ls λa=>A.join (λd e=>A.k5 d λf=>K [.b f] e) λc=>A.cd .geq a 1 (A.cmp .leq a 3 λg=>c [.b g] h) (c [.b false] h)
def f98:R:=A.k1 ls λf g a b=>A.c3 106 [.i f,.i g,.i a,.i b] h λc d e=>A.cd .neq e 0 (K [.i 0,.i 0,.i e] c) (A.cmp .lss d a λj=>A.sel j d a λk=>K [.i k,.i b,.i 0] c)
def f99:R:=A.k6 ls λa b c=>K [.i a,.i b] h
def f100:R:=A.k1 ls λa c b d=>A.cd .neq a b (A.ps a b λe=>K [.i e] h) (A.ci c λf=>A.ci d λg=>A.ps f g λj=>K [.i j] h)
def f101:R:=A.k2 ls λa=>A.join (λd e=>A.k5 d λf=>K [.b f] e) λc=>A.cd .lss a (-16384) (c [.b true] h) (A.cmp .gtr a 16384 λg=>c [.b g] h)
def f102:R:=A.unI ls λr e=>A.unI e λs f=>A.k0 f λa=>A.ln a λt=>A.new (.map [] 0) h λd g=>A.ln a λj=>A.loop (λk l b=>A.k2 l λc=>A.cd .lss c j (A.ix 3 a c 3 b λm=>A.k11 m λn o u=>A.heap (.fn (muG cc 163 (.map (some d)) (.agg ⟨[.int .i64 n,.int .u8 o]⟩) (.bool true))) b λw p=>A.pa c 1 λq=>k [.i q] p) (K [.v (.map (some d))] b)) [.i 0] g
def f103:R:=A.k3 ls λa b=>A.c2 94 [.i a,.i b] h λc d=>A.cd .neq d 0 (K [.i 0] c) (A.pm 4 a λe=>A.pm e b λf=>K [.i f] c)
def f104:R:=A.unI ls λb o=>A.unI o λp q=>A.unV q λd r=>A.unV r λs t=>A.k0 t λe=>A.opt (fdP 0 d) λf=>A.chk f (A.peek (.lg cc 2 f) h λu=>A.ucI .i64 u λv w=>A.k9 w λx=>A.c6 98 [.i v,.i x,.i b,.i p] h λa g j b2=>A.peek (.lg cc 1 s) a λy=>A.ucV y λk z=>A.chk k (A.uc0 z (A.peek (.fn (luG cc 163 false (.bool false) k (.agg ⟨[.int .i64 g,.int .u8 j]⟩) false)) a λB=>A.ucB B λC D=>A.uc0 D (A.cond (!C) (A.peek (.lg cc 1 e) a λE=>A.ucV E λl F=>A.chk l (A.uc0 F (A.ix 3 l b 3 a λG=>A.ucI .u8 G λH I=>A.ucI .i64 I λJ L=>A.k9 L λM=>K [.i H,.i J,.i M] a))) (A.opt (fdP 0 d) λm=>A.chk m (A.peek (.lg cc 2 m) a λN=>A.ucI .i64 N λO P=>A.k9 P λQ=>A.c6 105 [.i O,.i Q,.i g,.i j] a λS T U b3=>A.call 49 [.i T,.i U] S λV c=>A.k1 V λW X Y b4=>A.peek (.lg cc 1 e) c λZ=>A.ucV Z λn a0=>A.chk n (A.uc0 a0 (A.ix 3 n b 3 c λa1=>A.ucI .u8 a1 λa2 a3=>A.ucI .i64 a3 λa4 a5=>A.k9 a5 λa6=>A.call 73 [.i W,.i X,.i Y,.i a2,.i a4,.i a6] c λa7 a8=>A.k1 a7 λa9 b0 b1 b5=>K [.i a9,.i b0,.i b1] a8))))))))
def f105:R:=A.k1 ls λd e f a=>A.call 123 [.i d,.i e,.i f,.i a] h λg b=>A.k1 g λj k l c=>A.cd .neq c 0 (K [.i 0,.i 0,.i c] b) (A.c6 124 [.i j,.i k,.i l,.i a] b λm n o p=>K [.i n,.i o,.i p] m)
def f106:R:=A.k1 ls λa b f g=>A.call 72 [.i a,.i b,.i f] h λj c=>A.k1 j λk l m d=>A.cd .neq d 0 (K [.i 0,.i d] c) (A.call 125 [.i k,.i l,.i m,.i g] c λn e=>A.k1 n λo p q r=>A.cd .neq r 0 (K [.i 0,.i 1] e) (A.c3 126 [.i a,.i b,.i o,.i p,.i q] e λs t u=>K [.i t,.i u] s))
def f107:R:=A.k6 ls λd e a=>A.join (λf g=>A.k5 f λi=>K [.b i] g) λc=>A.cd .geq a 0 (A.pm 4 d λj=>A.pm j e λk=>A.cmp .lss a k λl=>c [.b l] h) (c [.b false] h)
def f108:R:=A.k6 ls λb k a=>A.pq a 4 λc=>A.pr c b λd=>A.pq a 4 λe=>A.pq e b λf=>A.pr a 4 λg=>A.conv .u8 g λj=>K [.i d,.i f,.i j] h
def f109:R:=A.unI ls λc d=>A.unI d λe f=>A.k1 f λg j a b=>A.pm c a λk=>A.pm e b λl=>A.pa k l λm=>A.pm g a λn=>A.pm j b λo=>A.pa n o λp=>K [.i m,.i p] h
def f110:R:=A.k6 ls λa b c=>A.c2 70 [.i a,.i b,.i c] h λd e=>A.cd .neq e 0 (K [.i 0,.i 0,.i 0,.i 3] d) (K [.i a,.i b,.i c,.i 0] d)
def f111:R:=A.k1 ls λc d e f=>A.loop (λg j b=>A.k2 j λa=>A.cd .lss a 8 (A.opt (inB 8 a) λs=>A.opt (rj [.i 1,.i 0,.i 0,.i 1,.i 0,.i (-1),.i 1,.i 0,.i (-1),.i 0,.i 0,.i (-1),.i 0,.i 1,.i (-1),.i 0,.i (-1),.i 0,.i 0,.i 1,.i 0,.i (-1),.i (-1),.i 0,.i 1,.i 0,.i 0,.i (-1),.i 0,.i 1,.i 1,.i 0] 0 [(a,4)] 4) λk=>A.k1 k λl m n o=>A.eqs [(.i l,.i c),(.i m,.i d),(.i n,.i e),(.i o,.i f)] λp=>A.cond p (A.conv .u8 a λq=>K [.i q] b) (A.pa a 1 λr=>g [.i r] b)) (K [.i 0] b)) [.i 0] h
def f112:R:=A.unI ls λe f=>A.unI f λg j=>A.unI j λk l=>A.unI l λm n=>A.k1 n λa b c d=>A.c3 109 [.i a,.i b,.i c,.i d,.i e,.i k] h λo p q=>A.c3 109 [.i a,.i b,.i c,.i d,.i g,.i m] o λr s t=>K [.i p,.i s,.i q,.i t] r
def f113:R:=A.unI ls λf m=>A.unI m λn o=>A.k1 o λp q r b=>A.c3 127 [.i q,.i r,.i b] h λs t u=>A.opt (inB 4 b) λb2=>A.opt (cX gl3 0 [(b,17)] 2) λv=>A.ucI .i64 v λw x=>A.k9 x λy=>A.c6 128 [.i f,.i n,.i p,.i t,.i u] s λz g j b3=>A.c6 128 [.i f,.i 0,.i 0,.i w,.i y] z λB C D b4=>A.ari .and .i64 g 1 λE=>A.ps g E λF=>A.pq F 2 λG=>A.ari .and .i64 j 1 λH=>A.ps j H λI=>A.pq I 2 λJ=>A.loop (λL M c=>A.k1 M λa d e k=>A.cd .lss a 4 (A.opt (inB 4 a) λb5=>A.opt (rj [.i 0,.i (-1),.i 2,.i 0,.i 0,.i (-1),.i 2,.i 0,.i 0,.i 1,.i 0,.i 0,.i 3,.i 0,.i 0,.i 2,.i 0,.i 1,.i 0,.i 1,.i 1,.i 1,.i 0,.i 3,.i 0,.i 0,.i 0,.i 0,.i 0,.i 2,.i 2,.i 2,.i 2,.i 0,.i 0,.i 1,.i 2,.i 1,.i 0,.i 1,.i 0,.i 0,.i 0,.i 3,.i 0,.i 0,.i 1,.i 2,.i 2,.i 0,.i 2,.i (-1),.i 0,.i 1,.i 0,.i (-1),.i 0,.i 1,.i 0,.i 0,.i 2,.i 0,.i 0,.i 0,.i 0,.i 0,.i 0,.i 2] 0 [(a,17)] 17) λN=>A.unI N λO P=>A.unI P λQ S=>A.unI S λb6 T=>A.unI T λb7 U=>A.unI U λb8 V=>A.unI V λb9 W=>A.unI W λc0 X=>A.unI X λc1 Y=>A.unI Y λc2 Z=>A.unI Z λc4 a0=>A.unI a0 λc5 a1=>A.unI a1 λc7 a2=>A.unI a2 λc8 a3=>A.k1 a3 λc9 d0 d1 d2=>A.eqs [(.i O,.i C),(.i Q,.i D)] λa4=>A.join (λa5 a6=>A.k6 a5 λa7 a8 a9=>A.pa a 1 λb0=>L [.i b0,.i a7,.i a8,.i a9] a6) λl=>A.cond a4 (A.conv .u8 a λb1=>l [.i d,.i e,.i b1] c) (l [.i d,.i e,.i k] c)) (K [.i d,.i e,.i k] c)) [.i 0,.i G,.i J,.i 0] B
def f115:R:=A.k2 ls λa=>A.conv .u64 a λb=>A.c2 65 [.i b] h λc d=>A.shf .shl .u64 1 .i64 d λe=>K [.i e] c
def f116:R:=A.k0 ls λa=>A.opt (nilP a) λd=>A.chk d (A.peek (.lg cc 1 d) h λq=>A.ucI .u64 q λr s=>A.uc0 s (A.opt (nilP a) λe=>A.chk e (A.peek (.lg cc 1 e) h λt=>A.ucI .u64 t λu v=>A.uc0 v (A.shf .shl .u64 u .u64 13 λw=>A.ari .xor .u64 r w λx=>A.opt (nilP a) λf=>A.chk f (A.heap (.st f [.int .u64 x]) h λU b=>A.opt (nilP a) λg=>A.chk g (A.peek (.lg cc 1 g) b λy=>A.ucI .u64 y λz B=>A.uc0 B (A.opt (nilP a) λj=>A.chk j (A.peek (.lg cc 1 j) b λC=>A.ucI .u64 C λD E=>A.uc0 E (A.shf .shr .u64 D .u64 7 λF=>A.ari .xor .u64 z F λG=>A.opt (nilP a) λk=>A.chk k (A.heap (.st k [.int .u64 G]) b λV c=>A.opt (nilP a) λl=>A.chk l (A.peek (.lg cc 1 l) c λH=>A.ucI .u64 H λI J=>A.uc0 J (A.opt (nilP a) λm=>A.chk m (A.peek (.lg cc 1 m) c λL=>A.ucI .u64 L λM N=>A.uc0 N (A.shf .shl .u64 M .u64 17 λO=>A.ari .xor .u64 I O λP=>A.opt (nilP a) λn=>A.chk n (A.heap (.st n [.int .u64 P]) c λW o=>A.opt (nilP a) λp=>A.chk p (A.peek (.lg cc 1 p) o λQ=>A.ucI .u64 Q λS T=>A.uc0 T (K [.i S] o)))))))))))))))))
def f117:R:=A.unV ls λb c=>A.unI c λa d=>A.unV d λe f=>A.k0 f λg=>A.ps a 1 λj=>A.pa a 1 λk=>A.c2 118 [.v b,.i j,.i a,.i k,.v e,.v g] h λl m=>K [.i m] l
def f118:R:=A.unV ls λa d=>A.unI d λe f=>A.unI f λg j=>A.unI j λk l=>A.unV l λb m=>A.k0 m λc=>A.c3 129 [.v a,.i e,.i g,.v b,.v c] h λn o p=>A.c3 129 [.v a,.i p,.i k,.v b,.v c] n λq r u=>A.c3 129 [.v a,.i o,.i r,.v b,.v c] q λs w t=>K [.i t] s
def f120:R:=A.unV ls λb c=>A.unI c λa d=>A.unV d λe f=>A.k0 f λg=>A.ps a 1 λj=>A.pa a 1 λk=>A.c2 121 [.v b,.i j,.i a,.i k,.v e,.v g] h λl m=>K [.i m] l
def f121:R:=A.unV ls λa d=>A.unI d λe f=>A.unI f λg j=>A.unI j λk l=>A.unV l λb m=>A.k0 m λc=>A.c3 130 [.v a,.i e,.i g,.v b,.v c] h λn o p=>A.c3 130 [.v a,.i p,.i k,.v b,.v c] n λq r u=>A.c3 130 [.v a,.i o,.i r,.v b,.v c] q λs w t=>K [.i t] s
def f122:R:=A.unV ls λd f=>A.k0 f λg=>A.ln d λj=>A.loop (λk l c=>A.k2 l λa=>A.cd .lss a j (A.ix 3 d a 3 c λm=>A.k11 m λn o p=>A.callv g [.agg ⟨[.int .i64 n,.int .u8 o,.int .u8 p]⟩] [.leaf .b] c λq e=>A.k5 q λr=>A.cond r (K [.i a] e) (A.pa a 1 λs=>k [.i s] e)) (K [.i (-1)] c)) [.i 0] h
def f123:R:=A.k1 ls λa b c e=>A.c2 94 [.i a,.i b] h λf g=>A.cd .neq g 0 (K [.i 0,.i 0,.i 0,.i g] f) (A.c6 98 [.i a,.i b,.i c,.i e] f λd j k l=>A.cd .neq l 0 (K [.i 0,.i 0,.i 0,.i 7] d) (A.eqs [(.i j,.i c),(.i k,.i e)] λm=>A.cond (!m) (K [.i 0,.i 0,.i 0,.i 7] d) (A.c6 108 [.i a,.i b,.i c] d λn o p q=>K [.i o,.i p,.i q,.i 0] n)))
def f124:R:=A.k1 ls λb c d e=>A.c2 43 [.i b,.i c,.i d] h λa p=>A.cd .neq p 0 (K [.i 0,.i 0,.i 1] a) (A.cd .gtr e 2 (K [.i 0,.i 0,.i 1] a) (A.opt (inB 4 d) λa3=>A.opt (cX gl3 0 [(d,17)] 17) λq=>A.ucI .i64 q λa4 r=>A.ucI .i64 r λa5 s=>A.ucI .u8 s λf t=>A.ucI .i64 t λg u=>A.ucI .i64 u λa6 v=>A.ucI .i64 v λa7 w=>A.ucI .u8 w λa8 x=>A.ucI .i64 x λa9 y=>A.ucI .i64 y λb0 z=>A.ucI .u8 z λb1 B=>A.ucI .i64 B λb2 C=>A.ucI .i64 C λb3 D=>A.ucI .u8 D λb4 E=>A.ucI .i64 E λb5 F=>A.ucI .i64 F λb6 G=>A.ucI .i64 G λb7 H=>A.k9 H λb8=>A.pa b g λI=>A.cmp .eql e 1 λJ=>A.join (λL M=>A.k3 L λj k=>A.c2 62 [.i j,.i k] M λl N=>A.cd .neq N 0 (K [.i 0,.i 0,.i 3] l) (K [.i j,.i k,.i 0] l)) λm=>A.cond J (A.pa b c λO=>A.pa O 1 λP=>m [.i 3,.i P] a) (A.cmp .eql e 2 λQ=>A.join (λS T=>A.k3 S λU V=>m [.i U,.i V] T) λn=>A.cond Q (A.ps c b λW=>n [.i 4,.i W] a) (A.cmp .eql f 2 λX=>A.join (λY Z=>A.k3 Y λa0 a1=>n [.i a0,.i a1] Z) λo=>A.cond X (A.pa c g λa2=>o [.i f,.i a2] a) (o [.i f,.i I] a)))))
def f125:R:=A.k1 ls λd e a b=>A.c2 43 [.i d,.i e,.i a] h λc l=>A.cd .neq l 0 (K [.i 0,.i 0,.i 0,.i 1] c) (A.cd .gtr b 2 (K [.i 0,.i 0,.i 0,.i 1] c) (A.opt (inB 4 a) λq=>A.opt (inB 3 b) λr=>A.opt (cX gl3 4 [(a,17),(b,3)] 3) λm=>A.k4 m λn o f=>A.pa n d λg=>A.pa o e λj=>A.c2 43 [.i g,.i j,.i f] c λk p=>A.cd .neq p 0 (K [.i 0,.i 0,.i 0,.i 3] k) (K [.i g,.i j,.i f,.i 0] k)))
def f126:R:=A.unI ls λd k=>A.k1 k λe b c f=>A.c2 94 [.i d,.i e] h λg j=>A.cd .neq j 0 (K [.i 0,.i j] g) (A.c2 43 [.i b,.i c,.i f] g λa l=>A.cd .neq l 0 (K [.i 0,.i 7] a) (A.cd .lss b 0 (K [.i 0,.i 7] a) (A.cd .geq b d (K [.i 0,.i 7] a) (A.cd .lss c 0 (K [.i 0,.i 7] a) (A.cd .geq c e (K [.i 0,.i 7] a) (A.pm c d λm=>A.pa m b λn=>A.pm 4 n λo=>A.ci f λp=>A.pa o p λq=>K [.i q,.i 0] a))))))
def f127:R:=A.k6 ls λa b g=>A.pm 2 a λc=>A.pa c 1 λd=>A.pm 2 b λe=>A.pa e 1 λf=>K [.i d,.i f] h
def f128:R:=A.unI ls λa m=>A.k1 m λb c d e=>A.c2 70 [.i a,.i b,.i c] h λf n=>A.cd .neq n 0 (K [.i 0,.i 0,.i 1] f) (A.c2 131 [.i d,.i e] f λg o=>A.cd .neq o 0 (K [.i 0,.i 0,.i 1] g) (A.opt (inB 8 a) λE=>A.opt (cX gl2 0 [(a,4)] 4) λp=>A.ucI .i64 p λq r=>A.ucI .i64 r λs t=>A.ucI .i64 t λu v=>A.k9 v λw=>A.c3 109 [.i q,.i s,.i u,.i w,.i d,.i e] g λx y z=>A.pm 2 b λB=>A.pa y B λj=>A.pm 2 c λC=>A.pa z C λk=>A.c2 131 [.i j,.i k] x λl D=>A.cd .neq D 0 (K [.i 0,.i 0,.i 3] l) (K [.i j,.i k,.i 0] l)))
def f129:R:=A.unV ls λd j=>A.unI j λa k=>A.unI k λb l=>A.unV l λe m=>A.k0 m λn=>A.ix 3 d b 3 h λo=>A.k4 o λp q r=>A.ix 3 d a 3 h λs=>A.k4 s λt u v=>A.callv n [.agg ⟨[.int .i64 p,.int .i64 q,.int .u8 r]⟩,.agg ⟨[.int .i64 t,.int .i64 u,.int .u8 v]⟩] [.leaf (.i .i64)] h λw c=>A.k2 w λx=>A.cd .lss x 0 (A.opt (nilP e) λf=>A.chk f (A.peek (.lg cc 1 f) c λy=>A.k9 y λz=>A.pa z 1 λB=>A.opt (nilP e) λg=>A.chk g (A.heap (.st g [.int .i64 B]) c λD C=>K [.i b,.i a] C))) (K [.i a,.i b] c)
def f130:R:=A.unV ls λd j=>A.unI j λa k=>A.unI k λb l=>A.unV l λe m=>A.k0 m λn=>A.ix 3 d b 3 h λo=>A.k11 o λp q r=>A.ix 3 d a 3 h λs=>A.k11 s λt u v=>A.callv n [.agg ⟨[.int .i64 p,.int .u8 q,.int .u8 r]⟩,.agg ⟨[.int .i64 t,.int .u8 u,.int .u8 v]⟩] [.leaf (.i .i64)] h λw c=>A.k2 w λx=>A.cd .lss x 0 (A.opt (nilP e) λf=>A.chk f (A.peek (.lg cc 1 f) c λy=>A.k9 y λz=>A.pa z 1 λB=>A.opt (nilP e) λg=>A.chk g (A.heap (.st g [.int .i64 B]) c λD C=>K [.i b,.i a] C))) (K [.i a,.i b] c)
def f131:R:=A.k3 ls λa b=>A.cd .lss a (-65536) (K [.i 1] h) (A.cd .gtr a 65536 (K [.i 1] h) (A.cd .lss b (-65536) (K [.i 1] h) (A.cd .gtr b 65536 (K [.i 1] h) (K [.i 0] h))))
end
inductive Pth where
 |e
 |o (p:Pth)
 |i (p:Pth)
inductive Tr(α:Type) where
 |leaf
 |node (v:α) (l r:Tr α)
def Pth.num:Pth->Nat
 | .e=>1
 | .o p=>2*p.num
 | .i p=>2*p.num+1
def pthF:Nat->Nat->Pth
 |0,_=>.e
 |f+1,n=>if Nat.ble n 1 then .e else if Nat.beq (n%2) 0 then .o (pthF f (n / 2))else .i (pthF f (n / 2))
def bC(n:Nat):Pth:=pthF (n+1) (n+1)
def Pth.get{α:Type}(d:α)(p:Pth):Tr α->α:=
 Pth.rec (motive:=λ_=>Tr α->α)
  (λt=>Tr.casesOn t d λv _ _=>v)
  (λ_ ih t=>Tr.casesOn t d λ_ l _=>ih l)
  (λ_ ih t=>Tr.casesOn t d λ_ _ r=>ih r) p
def Pth.setK{α:Type}(d:α)(p:Pth):Tr α->α->(Tr α->Bool)->Bool:=
 Pth.rec (motive:=λ_=>Tr α->α->(Tr α->Bool)->Bool)
  (λt x k=>Tr.casesOn t (k (.node x .leaf .leaf)) λ_ l r=>k (.node x l r))
  (λ_ ih t x k=>Tr.casesOn t (ih .leaf x λl=>k (.node d l .leaf)) λv l r=>ih l x λl=>k (.node v l r))
  (λ_ ih t x k=>Tr.casesOn t (ih .leaf x λr=>k (.node d .leaf r)) λv l r=>ih r x λr=>k (.node v l r)) p
def eqI:Int->Int->Bool
 | .ofNat a,.ofNat b=>Nat.beq a b
 | .negSucc a,.negSucc b=>Nat.beq a b
 |_,_=>false
def kmax:TH->Nat
 | .i8=>127
 | .i16=>32767
 | .i32=>2147483647
 | .i64=>9223372036854775807
 | .u8=>255
 | .u16=>65535
 | .u32=>4294967295
 | .u64=>18446744073709551615
def fits(k:TH):Int->Bool
 | .ofNat n=>Nat.ble n (kmax k)
 | .negSucc n=>k.signed&&Nat.ble n (kmax k)
abbrev Lin:=List Int
def dot:List Int->List Int->Int
 |c :: l,x :: ρ=>c*x+dot l ρ
 |_,_=>0
def Lin.eval(l:Lin)(ρ:List Int):Int:=
 match l with
 | []=>0
 |c :: l=>c+dot l ρ
structure Ctx where
 iv:List (Int×Int)
 cs:List (List Int×Int×Int)
inductive Opd where
 |t (p:Pth)
 |c (v:Value)
inductive Ins where
 |mv (x:Opd)
 |pick (c a b:Opd)
 |ar (op:BinOp) (x y:Opd)
 |cmp (op:BinOp) (x y:Opd)
 |notb (x:Opd)
 |conv (k:TH) (x:Opd)
 |fld (x:Opd) (off:Nat)
 |flda (x:Opd) (off n:Nat)
 |ext (x:Opd) (i:Nat)
 |fad (x:Opd) (off:Nat)
 |lload (s:Nat) (p:Pth) (a:Opd)
 |lloada (s:Nat) (p:Pth) (n:Nat) (a:Opd)
 |lbox (s:Nat) (p:Pth) (x:Opd)
 |lnew (s:Nat) (p:Pth) (vs:Tl)
 |bld (z:Tl) (ps:List (Nat×Nat×Opd))
 |lstore (s:Nat) (p:Pth) (n:Nat) (a x:Opd)
 |call (f:TM) (args:List Opd)
 |gen
abbrev TV:=Tr Value
abbrev TL:=Tr (Option (Tl))
def rd(tm:TV):Opd->Value
 | .t p=>p.get undef tm
 | .c v=>v
structure XCfg where
 C:Cfg
 kf:TM->Tl->Ts->Option (Value×List HObj)
abbrev KS:=Ctx->TV->TL->Ts->Bool
structure XS where
 call:Ctx->TM->Tl->Ts->(Ctx->Value->Ts->Bool)->Bool
 yield:Ctx->Nat->Tl->Ts->(Ctx->Value->Ts->Bool)->Bool
 ex:Ctx->TA->Nat->Code->TV->TL->Ts->KS->(Exit->KS)->Bool
def wc:∀(f n:Nat),n<=f->1<=n->(pthF f n).num=n
 |0,n,h,h1=>by omega
 |f+1,n,h,h1=>by
  unfold pthF
  by_cases hn:n<=1
  ·have:n=1:=by omega
   subst this
   rfl
  ·have h2:Nat.ble n 1=false:=by
    rw[←qbp,qbR];exact hn
   rw[h2]
   have ih:=wc f (n / 2) (by omega) (by omega)
   by_cases hm:n%2=0
   ·simp[hm,Pth.num,ih];omega
   ·simp[hm,Pth.num,ih];omega
def pz(n:Nat):(bC n).num=n+1:=wc _ _ (qaf _) (by omega)
def kC{a b:Nat}(h:bC a=bC b):a=b:=by
 have:=congrArg Pth.num h
 rw[pz,pz]at this
 omega
def Pth.set{α:Type}(d:α):Pth->Tr α->α->Tr α
 | .e,.leaf,x=>.node x .leaf .leaf
 | .e,.node _ l r,x=>.node x l r
 | .o p,.leaf,x=>.node d (Pth.set d p .leaf x) .leaf
 | .o p,.node v l r,x=>.node v (Pth.set d p l x) r
 | .i p,.leaf,x=>.node d .leaf (Pth.set d p .leaf x)
 | .i p,.node v l r,x=>.node v l (Pth.set d p r x)
def Pth.setK_eq{α:Type}(d:α):∀(p:Pth) (t:Tr α) (x:α) (k:Tr α->Bool),p.setK d t x k=k (p.set d t x)
 | .e,t,x,k=>by cases t<;>rfl
 | .o p,t,x,k=>by
  cases t with
  |leaf=>exact Pth.setK_eq d p .leaf x _
  |node v l r=>exact Pth.setK_eq d p l x _
 | .i p,t,x,k=>by
  cases t with
  |leaf=>exact Pth.setK_eq d p .leaf x _
  |node v l r=>exact Pth.setK_eq d p r x _
def Pth.get_leaf{α:Type}(d:α)(p:Pth):p.get d .leaf=d:=by cases p<;>rfl
def Pth.get_set{α:Type}(d:α):∀(p:Pth) (t:Tr α) (x:α),p.get d (p.set d t x)=x
 | .e,t,x=>by cases t<;>rfl
 | .o p,t,x=>by
  cases t with
  |leaf=>exact Pth.get_set d p .leaf x
  |node v l r=>exact Pth.get_set d p l x
 | .i p,t,x=>by
  cases t with
  |leaf=>exact Pth.get_set d p .leaf x
  |node v l r=>exact Pth.get_set d p r x
def Pth.get_set_ne{α:Type}(d:α):∀(p q:Pth) (t:Tr α) (x:α),q≠p->q.get d (p.set d t x)=q.get d t
 | .e,q,t,x,h=>by cases q<;>cases t<;>first|rfl|exact absurd rfl h|exact Pth.get_leaf d _
 | .o p,q,t,x,h=>by
  cases q with
  |e=>cases t<;>rfl
  |o q=>
   have hq:q≠p:=λe=>h (e▸rfl)
   cases t with
   |leaf=>exact(Pth.get_set_ne d p q .leaf x hq).trans (Pth.get_leaf d q)
   |node v l r=>exact Pth.get_set_ne d p q l x hq
  |i q=>
   cases t with
   |leaf=>exact Pth.get_leaf d q
   |node v l r=>rfl
 | .i p,q,t,x,h=>by
  cases q with
  |e=>cases t<;>rfl
  |i q=>
   have hq:q≠p:=λe=>h (e▸rfl)
   cases t with
   |leaf=>exact(Pth.get_set_ne d p q .leaf x hq).trans (Pth.get_leaf d q)
   |node v l r=>exact Pth.get_set_ne d p q r x hq
  |o q=>
   cases t with
   |leaf=>exact Pth.get_leaf d q
   |node v l r=>rfl
def Tr.map{α:Type}(f:α->α):Tr α->Tr α
 | .leaf=>.leaf
 | .node v l r=>.node (f v) (l.map f) (r.map f)
def eqI_iff{a b:Int}:eqI a b=true↔a=b:=by
 cases a<;>cases b<;>simp[eqI]<;>omega
def fits_iff{k:TH}{c:Int}(h:fits k c=true):(k.signed=true->-(kmax k:Int) - 1<=c)/\(k.signed=false->0<=c)/\c<=kmax k:=by
 cases c with
 |ofNat n=>
  simp only[fits,qbR]at h
  refine⟨λ_=>?_,λ_=>?_,?_⟩<;>simp<;>omega
 |negSucc n=>
  simp only[fits,qaa,qbR]at h
  refine⟨λ_=>?_,λhs=>?_,?_⟩
  ·omega
  ·rw[h.1]at hs;cases hs
  ·omega
def sG{k:TH}{c:Int}(h:fits k c=true):k.wrap c=c:=by
 obtain⟨h1,h2,h3⟩:=fits_iff h
 cases k<;>simp only[IntKind.signed,kmax,forall_const,reduceCtorEq,false_implies]at h1 h2 h3
 ·exact Go.IntWalk.i8_in c (by omega)
 ·exact Go.IntWalk.i16_in c (by omega)
 ·exact Go.IntWalk.i32_in c (by omega)
 ·exact Go.IntWalk.i64_in c (by omega)
 ·exact Go.IntWalk.u8_in c (by omega)
 ·exact Go.IntWalk.u16_in c (by omega)
 ·exact Go.IntWalk.u32_in c (by omega)
 ·exact Go.IntWalk.u64_in c (by omega)
section
variable [Val] {ρ:List Int}
def oC(op:BinOp)(x y:Int):Option Bool:=
 match op with
 | .eql=>some (x==y)
 | .neq=>some (x != y)
 | .lss=>some (decide (x<y))
 | .leq=>some (decide (x<=y))
 | .gtr=>some (decide (x > y))
 | .geq=>some (decide (x ≥ y))
 |_=>none
def pR(op:BinOp)(k:TH)(x y n:Int):Prop:=∀(P:TE) (t:TK) (w:World),(binOp op t (.int k x) (.int k y)).run P w = .ok (.int k n) w
def bits_one{k:TH}(x:Int):((BitVec.ofInt k.bits x &&& BitVec.ofInt k.bits 1).toNat:Int)=x%2:=by
 have hb:k.bits=k.bits - 1+1:=by cases k<;>rfl
 generalize k.bits - 1=n at hb
 rw[hb]
 have h1:(BitVec.ofInt (n+1) 1).toNat=1:=by
  simp
 rw[BitVec.toNat_and,h1,Nat.and_one_is_mod,BitVec.toNat_ofInt]
 have hp:(0:Int)<2 ^ (n+1):=Int.pow_pos (by omega)
 have e:(2:Int) ^ (n+1)=2*2 ^ n:=by rw[Int.pow_succ];omega
 have h0:0<=x%(2 ^ (n+1):Int):=Int.emod_nonneg _ (by omega)
 have:((x%((2 ^ (n+1):Nat):Int)).toNat%2:Nat)=((x%(2 ^ (n+1):Int))%2:Int):=by
  have e2:((2 ^ (n+1):Nat):Int)=(2 ^ (n+1):Int):=by simp
  rw[e2]
  omega
 rw[this,e,Int.emod_emod_of_dvd _ ⟨2 ^ n,rfl⟩]
def nE{k:TH}{x n:Int}(hn:x%2=n):pR .and k x 1 n:=by
 intro P t w
 have hw:k.wrap n=n:=sG (by
  have h0:0<=n:=by omega
  have h1:n<=1:=by omega
  obtain⟨m,rfl⟩ : ∃m:Nat,n=m:=⟨n.toNat,by omega⟩
  show Nat.ble m (kmax k)=true
  rw[qbR]
  cases k<;>simp only[kmax]<;>omega)
 have hb:=bits_one (k:=k) x
 simp only[binOp,ne_eq,not_true_eq_false,if_false,Op.intBits]
 show Result.ok (Value.int k (k.wrap _)) w=_
 rw[hb,hn,hw]
end
section
variable [Val] {ρ:List Int}
structure Rep(pts:TA)(nt:Nat)(tm:TV)(lc:TL)(σ:St):Prop where
 len:σ.tmps.length=nt
 val:∀(i:Nat) v,σ.tmps[i]?=some v->(bC i).get undef tm=v
 llen:pts≠[]->σ.loc.length=nt
 loc:∀(i:Nat) x,σ.loc[i]?=some x->(bC i).get none lc=x
def ValStep(C:Cfg)(pts:TA)(σ:St)(o:Oper)(v:Value):Prop:=
 (∃e,aj C pts (oval σ.tmps) o=some e/\aQ σ e=some (σ,v))∨iB C σ.tmps o v
def ValStep.val{C:Cfg}{pts:TA}{σ:St}{o:Oper}{v:Value}(h:aj C pts (oval σ.tmps) o=some (.val v)):ValStep C pts σ o v:=.inl ⟨_,h,rfl⟩
def nT(k:TH)(x:Int):k.wrap (x%(2 ^ k.bits:Int))=k.wrap x:=by
 unfold IntKind.wrap
 rw[Int.emod_emod_of_dvd _ (Int.dvd_refl _)]
def uG{k:TH}(m n:Nat):pR .and k m n (k.wrap (Nat.land m n:Nat)):=by
 intro P t w
 simp only[binOp,ne_eq,not_true_eq_false,if_false,Op.intBits]
 show Result.ok (Value.int k (k.wrap _)) w=_
 rw[←nT k (Nat.land m n:Nat)]
 congr 3
 have h2:∀x:Nat,(BitVec.ofInt k.bits (x:Int)).toNat=x%2 ^ k.bits:=λx=>by
  rw[BitVec.toNat_ofInt]
  have:((x:Int)%((2 ^ k.bits:Nat):Int))=((x%2 ^ k.bits:Nat):Int):=by simp
  rw[this,qdc]
 have h3:(BitVec.ofInt k.bits (m:Int) &&& BitVec.ofInt k.bits (n:Int)).toNat=(m &&& n)%2 ^ k.bits:=by
  rw[BitVec.toNat_and,h2,h2,Nat.and_mod_two_pow]
 rw[h3]
 simp
def uJ{k:TH}(m n:Nat):pR .xor k m n (k.wrap (Nat.xor m n:Nat)):=by
 intro P t w
 simp only[binOp,ne_eq,not_true_eq_false,if_false,Op.intBits]
 show Result.ok (Value.int k (k.wrap _)) w=_
 rw[←nT k (Nat.xor m n:Nat)]
 congr 3
 have h2:∀x:Nat,(BitVec.ofInt k.bits (x:Int)).toNat=x%2 ^ k.bits:=λx=>by
  rw[BitVec.toNat_ofInt]
  have:((x:Int)%((2 ^ k.bits:Nat):Int))=((x%2 ^ k.bits:Nat):Int):=by simp
  rw[this,qdc]
 have h3:(BitVec.ofInt k.bits (m:Int) ^^^ BitVec.ofInt k.bits (n:Int)).toNat=(m ^^^ n)%2 ^ k.bits:=by
  rw[BitVec.toNat_xor,h2,h2,Nat.xor_mod_two_pow]
 rw[h3]
 simp
def xC{k:TH}(m n:Nat):pR .or k m n (k.wrap (Nat.lor m n:Nat)):=by
 intro P t w
 simp only[binOp,ne_eq,not_true_eq_false,if_false,Op.intBits]
 show Result.ok (Value.int k (k.wrap _)) w=_
 rw[←nT k (Nat.lor m n:Nat)]
 congr 3
 have h2:∀x:Nat,(BitVec.ofInt k.bits (x:Int)).toNat=x%2 ^ k.bits:=λx=>by
  rw[BitVec.toNat_ofInt]
  have:((x:Int)%((2 ^ k.bits:Nat):Int))=((x%2 ^ k.bits:Nat):Int):=by simp
  rw[this,qdc]
 have h3:(BitVec.ofInt k.bits (m:Int) ||| BitVec.ofInt k.bits (n:Int)).toNat=(m ||| n)%2 ^ k.bits:=by
  rw[BitVec.toNat_or,h2,h2,Nat.or_mod_two_pow]
 rw[h3]
 simp
end
section
variable {R:Type}
def setK_eq{α:Type}(x:α):∀(l:List α) (i:Nat) (k:List α->R),setK x l i k=k (l.set i x)
 | [],_,_=>rfl
 |_ :: _,0,_=>rfl
 |a :: l,i+1,k=>setK_eq x l i λl=>k (a :: l)
def uk(n:Nat)(K:Nat->R):qF n K=K n:=by cases n<;>rfl
end
def SL.good:SL->Prop
 | .v x=>aW x=true
 |_=>True
def S0.good(x:S0):Prop:=∀l∈x.cells,l.good
def SV.gd:SV->Prop
 | .st x=>x.good
 | .tup xs=>(∀x∈xs,x.good)/\2<=xs.length
 | .no=>False
 |_=>True
def dP{x:Value}:aW x=true↔noLoc x=true/\bj x=true/\aS x=true/\aJ x=false:=by
 unfold aW
 cases noLoc x<;>cases bj x<;>cases aS x<;>cases aJ x<;>simp
def oM{x:Value}(h:aW x=true):aX x=true:=by
 obtain⟨h1,_,h2,_⟩:=dP.1 h
 simp[aX,h1,h2]
def uo{x:Value}(h:aW x=true):x.cells = #[x]:=dS (dP.1 h).2.2.1
def SL.val_good{l:SL}(h:l.good):aW l.val=true:=by
 cases l with
 |v x=>exact h
 |_=>rfl
def S0.cells_val{x:S0}(h:x.good):x.val.cells=⟨x.cells.map SL.val⟩:=by
 cases x with
 |leaf l=>exact uo (SL.val_good (h l (by simp[S0.cells])))
 |agg cs=>rfl
def S0.noLoc{x:S0}(h:x.good):noLoc x.val=true:=by
 cases x with
 |leaf l=>exact(dP.1 (SL.val_good (h l (by simp[S0.cells])))).1
 |agg cs=>
  simp only[S0.val,Am.noLoc,qag,qaM]
  rintro _ ⟨l,hl,rfl⟩
  exact(dP.1 (SL.val_good (h l hl))).2.1
def S0.not_tuple{x:S0}(h:x.good):aJ x.val=false:=by
 cases x with
 |leaf l=>exact(dP.1 (SL.val_good (h l (by simp[S0.cells])))).2.2.2
 |agg cs=>rfl
def S0.cells_ok{x:S0}(h:x.good):x.val.cells.toList.all aX=true:=by
 rw[S0.cells_val h]
 simp only[qag,qaM]
 rintro _ ⟨l,hl,rfl⟩
 exact oM (SL.val_good (h l hl))
def cells_ok'{cs:List SL}(h:∀l∈cs,l.good):(cs.map SL.val).all aX=true:=by
 simp only[qag,qaM]
 rintro _ ⟨l,hl,rfl⟩
 exact oM (SL.val_good (h l hl))
def uK{v:Value}(h:scalar v=true):aW v=true:=by
 cases v<;>first|rfl|(simp[scalar]at h;done)|skip
 case pointer a=>cases a<;>first|rfl|simp[scalar]at h
 case slice a l c=>
  cases a with
  |none=>rfl
  |some a=>cases l<;>cases c<;>simp[scalar]at h
def rD(v:Value):(slOf v).val=v:=by cases v<;>rfl
def nJ{v:Value}(h:scalar v=true):(slOf v).good:=by
 cases v<;>first|trivial|exact uK h
def rz{v:Value}{x:S0}(h:s0Of v=some x):x.val=v/\x.good/\eM v=true:=by
 unfold s0Of at h
 split at h
 next cs=>
  split at h
  next ha=>
   cases h
   refine⟨?_,?_,ha⟩
   ·simp only[S0.val,qcC,Value.agg.injEq]
    have:(SL.val ∘ slOf)=id:=funext rD
    rw[this,List.map_id]
   ·intro l hl
    simp only[S0.cells,qaM]at hl
    obtain⟨v,hv,rfl⟩:=hl
    exact nJ (qag.1 ha v hv)
  ·cases h
 next hne=>
  split at h
  next hs=>
   cases h
   refine⟨rD v,?_,?_⟩
   ·intro l hl
    simp only[S0.cells,qap]at hl
    subst hl
    exact nJ hs
   ·cases v<;>first|exact hs|exact absurd rfl (hne _)
  ·cases h
def dw{a b:TH}(h:dy a b=true):a=b:=by
 cases a<;>cases b<;>first|rfl|cases h
def dF(a:TH):dy a a=true:=by cases a<;>rfl
section
variable [Val] [Kno]
def Told(sks:TI)(ls:TD)(xs:List S0):Prop:=ca xs sks=true/\cg xs=ls/\∀x∈xs,x.good
def aK(C:Cfg)(Sg:Tc)(g:TM)(ls:TD)(H:Ts)(rs:TD)(H':Ts):Prop:=
 ∃sg xs ys,Sg g=some sg/\Told sg.ps ls xs/\Told sg.rs rs ys/\ip C g (ah xs) H (fq (ah ys)) H'
def tR(C:Cfg)(v:Value)(args:Tl)(hs:TI)(H:Ts)(rs:TD)(H':Ts):Prop:=
 ∃ys,Told hs rs ys/\((∃g first cap,v = .func (.func g) first cap/\ip C g (first.toList++args++cap.toList) H (fq (ah ys)) H')∨
  (∃l,v = .func (.yield l) #[] #[]/\jH C l args H (fq (ah ys)) H'))
def nX(nt:Nat):List (Nat×SK)->Tl->Tl->List Value
 |(t,_) :: l,v :: vs,tm=>nX nt l vs (tm.set t v)
 |_,_,tm=>tm
def lpOf(s:Site)(κ:Nat)(vals:Tl):ALoop:=
 { state:=.ready,pending:=none,fn:=κ,tmps:=nX s.nt s.caps vals (List.replicate s.nt poison),params:=s.params.map (·.1),assign:=s.assign.erase oZ,body:=s.body.erase oZ }
def gA:Lf->Lf->Bool
 | .i a,.i b=>a==b
 | .b a,.b b=>a==b
 |_,_=>false
def cp(l:List (Lf×Lf)):Bool:=l.all λp=>gA p.1 p.2
def ShRun(op:BinOp)(k:TH)(x:Int)(k':TH)(y n:Int):Prop:=∀(P:TE) (t:TK) (w:World),(binOp op t (.int k x) (.int k' y)).run P w = .ok (.int k n) w
abbrev _root_.Tt:=Nat->Site
structure AlgOk{R HT:Type}(A:Alg R HT)(C:Cfg)(Sg:Tc)(T:Tt)(holds:R->Prop)(abs:HT->Ts):Prop where
 fail:¬holds A.fail
 cond:∀b x y,holds (A.cond b x y)->(b=true/\holds x)∨(b=false/\holds y)
 ari:∀op k a b K,holds (A.ari op k a b K)->∃n,pR op k a b n/\holds (K n)
 shf:∀op k a k' b K,holds (A.shf op k a k' b K)->∃n,ShRun op k a k' b n/\holds (K n)
 cmp:∀op a b K,holds (A.cmp op a b K)->∃t,oC op a b=some t/\holds (K t)
 eqs:∀l K,holds (A.eqs l K)->holds (K (cp l))
 conv:∀k a K,holds (A.conv k a K)->holds (K (k.wrap a))
 sel:∀t a b K,holds (A.sel t a b K)->holds (K (if t then a else b))
 opt:∀ {α:Type} (o:Option α) K,holds (A.opt o K)->∃x,o=some x/\holds (K x)
 chk:∀v K,holds (A.chk v K)->aW v=true/\holds K
 unI:∀ls K,holds (A.unI ls K)->∃n r,ls = .i n :: r/\holds (K n r)
 unB:∀ls K,holds (A.unB ls K)->∃t r,ls = .b t :: r/\holds (K t r)
 unV:∀ls K,holds (A.unV ls K)->∃x r,ls = .v x :: r/\holds (K x r)
 un0:∀ls K,holds (A.un0 ls K)->ls=[]/\holds K
 ucI:∀k ls K,holds (A.ucI k ls K)->∃n r,ls = .int k n :: r/\holds (K n r)
 ucB:∀ls K,holds (A.ucB ls K)->∃t r,ls = .bool t :: r/\holds (K t r)
 ucV:∀ls K,holds (A.ucV ls K)->∃x r,ls=x :: r/\holds (K x r)
 uc0:∀ls K,holds (A.uc0 ls K)->ls=[]/\holds K
 peek:∀f h K,holds (A.peek f h K)->∃cs,f.run (λi=>(abs h)[i]?)=some cs/\holds (K cs)
 heap:∀f h K,holds (A.heap f h K)->∃acts cs h',f.run (λi=>(abs h)[i]?) (abs h).length=some (acts,cs)/\abs h'=fY (abs h) acts/\holds (K cs h')
 new:∀o h K,holds (A.new o h K)->∃h',abs h'=abs h++[o]/\holds (K (abs h).length h')
 call:∀g ls h K,holds (A.call g ls h K)->∃rs h',aK C Sg g ls (abs h) rs (abs h')/\holds (K rs h')
 callv:∀v args hs h K,holds (A.callv v args hs h K)->∃rs h',tR C v args hs (abs h) rs (abs h')/\holds (K rs h')
 join:∀b m,holds (A.join b m)->holds (m b)
 loop:∀F ls h,holds (A.loop F ls h)->∃it:Nat->TD->HT->R,(∀ls h,¬holds (it 0 ls h))/\(∀n ls h,it (n+1) ls h=F (it n) ls h)/\∃n,holds (it n ls h)
 rfun:∀κ v vals h K,holds (A.rfun κ v vals h K)->∃g first cap r H1 lp h2,v = .func (.func g) first cap/\
  ip C g (first.toList++[.func (.yield (abs h).length) #[] #[]]++cap.toList) (abs h++[.loop (lpOf (T κ) κ vals)]) r H1/\
  ed H1 (abs h).length=some lp/\lp.state≠.busy/\abs h2=H1.set (abs h).length (.loop { lp with state:=.exhausted })/\holds (K lp.pending h2)
 pend:∀pd kn kr ks,holds (A.pend pd kn kr ks)->(pd=none/\holds kn)∨(pd=some .ret/\holds kr)∨∃id x,pd=some (.exit id)/\(id,x)∈ks/\holds x
 lp1:∀l h K,holds (A.lp1 l h K)->∃lp h',ed (abs h) l=some lp/\lp.state = .ready/\abs h'=(abs h).set l (.loop { lp with state:=.busy })/\holds (K h')
 lp2:∀l j h K,holds (A.lp2 l j h K)->∃lp h',ed (abs h) l=some lp/\abs h'=(abs h).set l (.loop { lp with state:=if j.isNone then .ready else .done,pending:=j })/\holds (K h')
def SV.ok(tmps:Tl)(i:Nat)(s:SV):Prop:=
 match s with
 | .no=>True
 |s=>tmps[i]?=some s.val/\s.gd
def LR.ok(loc:List (Option (Tl)))(i:Nat):LR->Prop
 | .unk=>True
 | .nil=>loc[i]?=some none
 | .any n=>∃vs,loc[i]?=some (some vs)/\vs.length=n
 | .row cs=>loc[i]?=some (some (cs.map SL.val))/\∀c∈cs,c.good
structure Rp(ev:Env)(σ:St):Prop where
 len:ev.tm.length=σ.tmps.length
 val:∀(i:Nat) s,ev.tm[i]?=some s->s.ok σ.tmps i
 llen:ev.lc.length=σ.loc.length
 row:∀(i:Nat) r,ev.lc[i]?=some r->r.ok σ.loc i
def SV.ok_gd{tmps:Tl}{i:Nat}{s:SV}(h:s.gd)(hv:tmps[i]?=some s.val):s.ok tmps i:=by
 cases s<;>first|trivial|exact⟨hv,h⟩
def Rp.at{ev:Env}{σ:St}(h:Rp ev σ){t:Nat}{s:SV}(hs:ev.tm.getD t .no=s)(hn:s≠.no):σ.tmps[t]?=some s.val/\s.gd:=by
 rw[List.getD_eq_getElem?_getD]at hs
 cases he:ev.tm[t]? with
 |none=>rw[he]at hs;exact absurd hs.symm hn
 |some x=>
  rw[he]at hs
  simp only[qa9]at hs
  subst hs
  have:=h.val t x he
  cases x<;>first|exact this|exact absurd rfl hn
def Rp.sval{ev:Env}{σ:St}(h:Rp ev σ){x:TF}{s:SV}(hs:sval ev x=s)(hn:s≠.no):oval σ.tmps x=s.val/\s.gd:=by
 cases x with
 |tmp t=>
  obtain⟨h1,h2⟩:=h.at (t:=t) hs hn
  exact⟨by simp[oval,List.getD_eq_getElem?_getD,h1],h2⟩
 |const v=>
  simp only[Am.sval]at hs
  cases hv:s0Of v with
  |none=>rw[hv]at hs;exact absurd hs.symm hn
  |some x=>
   rw[hv]at hs
   subst hs
   obtain⟨h1,h2,h3⟩:=rz hv
   refine⟨?_,h2⟩
   have:flat v=true:=by cases v<;>first|exact h3|(simp[eM,scalar]at h3)
   simp[oval,this,SV.val,h1]
 |global g=>
  subst hs
  simp only[Am.sval,oval]
  cases hb:Nat.blt g gB with
  |true=>exact⟨rfl,trivial⟩
  |false=>exact absurd (by simp only[Am.sval,hb]) hn
 |func f=>
  subst hs
  refine⟨rfl,λl hl=>?_⟩
  simp only[S0.cells,qap]at hl
  subst hl
  rfl
def Rp.sval0{ev:Env}{σ:St}(h:Rp ev σ){x:TF}{s:S0}(hs:sval0 ev x=some s):oval σ.tmps x=s.val/\s.good:=by
 unfold Am.sval0 at hs
 split at hs
 next y e=>
  cases hs
  exact h.sval e (by simp)
 ·cases hs
def Rp.svals{ev:Env}{σ:St}(h:Rp ev σ):∀ {l:List Operand} {xs:List S0},svals ev l=some xs->l.map (oval σ.tmps)=ah xs/\∀x∈xs,x.good
 | [],xs,hs=>by cases hs;exact⟨rfl,by simp⟩
 |o :: l,xs,hs=>by
  simp only[Am.svals]at hs
  split at hs
  next x ys e1 e2=>
   cases hs
   obtain⟨h1,h2⟩:=h.sval0 e1
   obtain⟨h3,h4⟩:=h.svals e2
   refine⟨by simp[ah,h1];exact h3,λy hy=>?_⟩
   rcases qal.1 hy with rfl|hy
   ·exact h2
   ·exact h4 y hy
  ·cases hs
def Rp.put{ev:Env}{σ:St}(h:Rp ev σ)(d:Nat){s:SV}(hs:s.gd):Rp ⟨ev.tm.set d s,ev.lc⟩ (σ.put (some d) s.val):=by
 refine⟨by simp[St.put,h.len],λi x hx=>?_,h.llen,h.row⟩
 simp only[qa0]at hx
 split at hx
 next hi=>
  subst hi
  split at hx
  next hlt=>
   cases hx
   refine SV.ok_gd hs ?_
   simp only[St.put,List.getElem?_set_self']
   rw[qai (by rw[←h.len];exact hlt)]
   rfl
  ·cases hx
 next hi=>
  have:=h.val i x hx
  cases x<;>first|trivial|exact⟨by simp only[St.put];rw[qaA hi];exact this.1,this.2⟩
def Rp.heap{ev:Env}{σ:St}(h:Rp ev σ)(H:Ts):Rp ev { σ with heap:=H }:=⟨h.len,h.val,h.llen,h.row⟩
structure Fr(ws ks rs:TA)(σ σ':St):Prop where
 tlen:σ'.tmps.length=σ.tmps.length
 llen:σ'.loc.length=σ.loc.length
 tm:∀(i:Nat) v,σ.tmps[i]?=some v->i∉ws->noLoc v=true->σ'.tmps[i]?=some v
 tp:∀(i s off:Nat),σ.tmps[i]?=some (.pointer (some ⟨s,off,some 0⟩))->i∉ws->s∉ks->σ'.tmps[i]?=some (.pointer (some ⟨s,off,some 0⟩))
 row:∀(s:Nat) x,σ.loc[s]?=some x->s∉rs->σ'.loc[s]?=some x
 rlen:∀(s:Nat) vs,σ.loc[s]?=some (some vs)->s∉ks->∃vs',σ'.loc[s]?=some (some vs')/\vs'.length=vs.length
def Fr.refl(ws ks rs:TA)(σ:St):Fr ws ks rs σ σ:=⟨rfl,rfl,λ_ _ h _ _=>h,λ_ _ _ h _ _=>h,λ_ _ h _=>h,λ_ vs h _=>⟨vs,h,rfl⟩⟩
def Fr.trans{ws ks rs:TA}{σ σ₁ σ':St}(h:Fr ws ks rs σ σ₁)(h':Fr ws ks rs σ₁ σ'):Fr ws ks rs σ σ':=
 ⟨h'.tlen.trans h.tlen,h'.llen.trans h.llen,λi v a b c=>h'.tm i v (h.tm i v a b c) b c,λi s off a b c=>h'.tp i s off (h.tp i s off a b c) b c,
  λs x a b=>h'.row s x (h.row s x a b) b,λs vs a b=>let ⟨v1,c1,d1⟩:=h.rlen s vs a b;let ⟨v2,c2,d2⟩:=h'.rlen s v1 c1 b;⟨v2,c2,d2.trans d1⟩⟩
def Fr.mono{ws ks rs ws' ks' rs':TA}{σ σ':St}(h:Fr ws ks rs σ σ')(h1:∀i∈ws,i∈ws')(h2:∀i∈ks,i∈ks')(h3:∀i∈rs,i∈rs'):Fr ws' ks' rs' σ σ':=
 ⟨h.tlen,h.llen,λi v a b c=>h.tm i v a (λhi=>b (h1 i hi)) c,λi s off a b c=>h.tp i s off a (λhi=>b (h1 i hi)) (λhi=>c (h2 s hi)),
  λs x a b=>h.row s x a (λhi=>b (h3 s hi)),λs vs a b=>h.rlen s vs a (λhi=>b (h2 s hi))⟩
def Fr.heap{ws ks rs:TA}{σ σ':St}(h:Fr ws ks rs σ σ')(H:Ts):Fr ws ks rs σ { σ' with heap:=H }:=⟨h.tlen,h.llen,h.tm,h.tp,h.row,h.rlen⟩
def Fr.put{σ:St}(dst:Tn)(v:Value)(ks rs:TA):Fr dst.toList ks rs σ (σ.put dst v):=by
 cases dst with
 |none=>exact .refl _ _ _ _
 |some d=>
  refine⟨by simp[St.put],rfl,λi x h hi _=>?_,λi s off h hi _=>?_,λ_ _ h _=>h,λ_ vs h _=>⟨vs,h,rfl⟩⟩<;>
  ·simp only[qcL,qap]at hi
   simp only[St.put]
   rw[qaA (λe=>hi e.symm)]
   exact h
end
inductive HO where
 |o (x:HObj)
 |lp (κ:Nat) (st:LoopState) (pd:Tk) (vs:Tl)
abbrev HL:=List HO
inductive CK where
 |f (g:TM)
 |y (κ:Nat) (vs:Tl) (l:Nat)
def absO(T:Tt):HO->HObj
 | .o x=>x
 | .lp κ st pd vs=>.loop { lpOf (T κ) κ vs with state:=st,pending:=pd }
def absH(T:Tt)(h:HL):Ts:=h.map (absO T)
namespace Sx
inductive HOT where
 |o (x:HObj)
 |lp (κ:Nat) (st:LoopState) (pd:Tk) (vs:Tl)
 |t (n e:Nat) (rw:Bool) (c:Tr Value)
def nilV:Value:=.bool false
def bT(c:Tr Value)(n:Nat):Tl:=(List.range n).map λi=>(bC i).get nilV c
def HOT.ho:HOT->HO
 | .o x=>.o x
 | .lp κ st pd vs=>.lp κ st pd vs
 | .t n e rw c=>.o (.cells (bT c n) e rw)
structure HTr where
 n:Nat
 t:Tr HOT
def noO:HOT:=.o .dead
def HTr.empty:HTr:=⟨0,.leaf⟩
def HTr.at(h:HTr)(i:Nat):Option HOT:=match Nat.blt i h.n with
 |true=>some ((bC i).get noO h.t)
 |false=>none
def toL(h:HTr):HL:=(List.range h.n).map λi=>((bC i).get noO h.t).ho
def cU(h:HTr):(toL h).length=h.n:=by simp[toL]
def iW(h:HTr)(i:Nat):(toL h)[i]?=(h.at i).map HOT.ho:=by
 unfold toL HTr.at
 rw[qax]
 cases e:Nat.blt i h.n with
 |true=>
  rw[qbc]at e
  rw[qci e];rfl
 |false=>
  have:h.n<=i:=by
   rcases qaO i h.n with h1|h1
   ·rw[←qbc,e]at h1;cases h1
   ·exact h1
  rw[qaj (by simpa using this)];rfl
def HTr.put(h:HTr)(i:Nat)(o:HOT):HTr:=match Nat.blt i h.n with
 |true=>⟨h.n,(bC i).set noO h.t o⟩
 |false=>h
def HTr.push(h:HTr)(o:HOT):HTr:=⟨h.n+1,(bC h.n).set noO h.t o⟩
def gT(h:HTr)(i:Nat)(o:HOT):toL (h.put i o)=(toL h).set i o.ho:=by
 apply qaZ
 intro j
 unfold HTr.put
 cases e:Nat.blt i h.n with
 |true=>
  rw[qbc]at e
  simp only
  rw[iW]
  by_cases hj:i=j
  ·subst hj
   rw[qaJ (by rw[cU];exact e)]
   unfold HTr.at
   simp only[(qbc▸e:Nat.blt i h.n=true)]
   rw[Pth.get_set];rfl
  ·rw[qaA hj,iW]
   unfold HTr.at
   simp only
   rw[Pth.get_set_ne _ _ _ _ _ (λh=>hj (kC h).symm)]
 |false=>
  simp only
  have:h.n<=i:=by
   rcases qaO i h.n with h1|h1
   ·rw[←qbc,e]at h1;cases h1
   ·exact h1
  rw[List.set_eq_of_length_le (by rw[cU];exact this)]
def eZ(h:HTr)(o:HOT):toL (h.push o)=toL h++[o.ho]:=by
 apply qaZ
 intro j
 rw[iW]
 unfold HTr.push HTr.at
 simp only
 by_cases h1:j<h.n
 ·rw[qah (by rw[cU];exact h1),iW]
  unfold HTr.at
  have e1:Nat.blt j (h.n+1)=true:=by rw[qbc];omega
  have e2:Nat.blt j h.n=true:=by rw[qbc];omega
  simp only[e1,e2]
  rw[Pth.get_set_ne _ _ _ _ _ (λh=>by have:=kC h;omega)]
 ·rw[qaq (by rw[cU];omega),cU]
  by_cases h2:j=h.n
  ·subst h2
   have e1:Nat.blt h.n (h.n+1)=true:=by rw[qbc];omega
   simp only[e1,qbC,qaR]
   rw[Pth.get_set];rfl
  ·have e1:Nat.blt j (h.n+1)=false:=by rw[←qbp,qbc];omega
   simp only[e1]
   rw[qaj (by simp;omega)];rfl
def bf(c:Tr Value)(n:Nat):(bT c n).length=n:=by simp[bT]
def dD(c:Tr Value){n i:Nat}(h:i<n):(bT c n)[i]?=some ((bC i).get nilV c):=by
 unfold bT
 rw[qax,qci h];rfl
def insT:Tl->Nat->Tr Value->Tr Value
 | [],_,c=>c
 |v :: l,i,c=>insT l (i+1) ((bC i).set nilV c v)
def qM:∀(l:Tl) (i:Nat) (c:Tr Value) (j:Nat),(bC j).get nilV (insT l i c)=if i<=j/\j<i+l.length then l[j - i]?.getD nilV else(bC j).get nilV c
 | [],i,c,j=>by
  have h:¬(i<=j/\j<i+([]:Tl).length):=by intro h;have:=h.2;simp at this;omega
  rw[qdz h];rfl
 |v :: l,i,c,j=>by
  show(bC j).get nilV (insT l (i+1) _)=_
  rw[qM l (i+1)]
  by_cases h:i+1<=j/\j<i+1+l.length
  ·rw[qdy h,qdy (by simp;omega)]
   have:j - i=(j - (i+1))+1:=by omega
   rw[this,qbf]
  ·rw[qdz h]
   by_cases h2:j=i
   ·subst h2
    rw[Pth.get_set,qdy (by simp)];simp
   ·rw[Pth.get_set_ne _ _ _ _ _ (λe=>h2 (kC e)),qdz (by simp;omega)]
def oA{l:Tl}{i n:Nat}{c:Tr Value}(h:i+l.length<=n):bT (insT l i c) n=(bT c n).take i++l++(bT c n).drop (i+l.length):=by
 apply qaZ
 intro j
 by_cases hj:j<n
 ·rw[dD _ hj,qM]
  by_cases h1:j<i
  ·rw[qdz (by omega),qaP,qah (by rw[qaI,bf];omega),List.getElem?_take_of_lt h1,dD _ hj]
  ·have hl:((bT c n).take i).length=i:=by rw[qaI,bf];omega
   by_cases h2:j<i+l.length
   ·rw[qdy ⟨by omega,h2⟩,qaP,qaq (by omega),hl,qah (by omega)]
    rw[qai (by omega)];rfl
   ·rw[qdz (by omega),qaq (by rw[qaC,hl];omega),qaC,hl,qaU,show i+l.length+(j - (i+l.length))=j by omega,dD _ hj]
 ·rw[qaj (by rw[bf];omega),qaj (by simp[bf];omega)]
def mn{l:Tl}{n:Nat}{c:Tr Value}:bT (insT l n c) (n+l.length)=bT c n++l:=by
 apply qaZ
 intro j
 by_cases hj:j<n+l.length
 ·rw[dD _ hj,qM]
  by_cases h1:j<n
  ·rw[qdz (by omega),qah (by rw[bf];exact h1),dD _ h1]
  ·rw[qdy ⟨by omega,hj⟩,qaq (by rw[bf];omega),bf,qai (by omega)];rfl
 ·rw[qaj (by rw[bf];omega),qaj (by simp[bf];omega)]
def wR(l:Tl):bT (insT l 0 .leaf) l.length=l:=by
 have:=mn (l:=l) (n:=0) (c:=.leaf)
 simpa[bT]using this
def xt(c:Tr Value)(n:Nat):Nat->Tl:=Nat.rec (motive:=λ_=>Nat->Tl) (λ_=>[]) (λ_ ih off=>(bC off).get nilV c :: fN (Nat.succ off) ih) n
def jv(c:Tr Value):∀(n off m:Nat),off+n<=m->xt c n off=((bT c m).drop off).take n
 |0,_,_,_=>by rw[qbB];rfl
 |n+1,off,m,h=>by
  show(bC off).get nilV c :: xt c n (off+1)=_
  rw[jv c n (off+1) m (by omega)]
  have h1:off<(bT c m).length:=by rw[bf];omega
  rw[qaY h1,qa7]
  congr 1
  have:=dD c (n:=m) (i:=off) (by omega)
  rw[qai h1]at this
  exact(qae this).symm
section
variable {R:Type}
def putR{α:Type}(d:α)(p:Pth):Tr α->α->(Tr α->R)->R:=
 Pth.rec (motive:=λ_=>Tr α->α->(Tr α->R)->R)
  (λt x k=>Tr.casesOn t (k (.node x .leaf .leaf)) λ_ l r=>k (.node x l r))
  (λ_ ih t x k=>Tr.casesOn t (ih .leaf x λl=>k (.node d l .leaf)) λv l r=>ih l x λl=>k (.node v l r))
  (λ_ ih t x k=>Tr.casesOn t (ih .leaf x λr=>k (.node d .leaf r)) λv l r=>ih r x λr=>k (.node v l r)) p
def iQ{α:Type}(d:α):∀(p:Pth) (t:Tr α) (x:α) (k:Tr α->R),putR d p t x k=k (p.set d t x)
 | .e,t,x,k=>by cases t<;>rfl
 | .o p,t,x,k=>by
  cases t with
  |leaf=>exact iQ d p .leaf x _
  |node v l r=>exact iQ d p l x _
 | .i p,t,x,k=>by
  cases t with
  |leaf=>exact iQ d p .leaf x _
  |node v l r=>exact iQ d p r x _
def putK(h:HTr)(i:Nat)(o:HOT)(k:HTr->R):R:=match Nat.blt i h.n with
 |true=>putR noO (bC i) h.t o λt=>k ⟨h.n,t⟩
 |false=>k h
def gN(h:HTr)(o:HOT)(k:HTr->R):R:=putR noO (bC h.n) h.t o λt=>fN (Nat.succ h.n) λn=>k ⟨n,t⟩
def gO(h:HTr)(i:Nat)(o:HOT)(k:HTr->R):putK h i o k=k (h.put i o):=by
 unfold putK HTr.put
 split
 next e=>rw[iQ]
 ·rfl
def eX(h:HTr)(o:HOT)(k:HTr->R):gN h o k=k (h.push o):=by
 unfold gN HTr.push
 rw[iQ,dq]
def vW{α:Type}(l:List α):(List α->R)->R:=
 List.rec (motive:=λ_=>(List α->R)->R) (λk=>k []) (λx _ ih k=>ih λl=>k (x :: l)) l
def ns{α:Type}:∀(l:List α) (k:List α->R),vW l k=k l
 | [],_=>rfl
 |x :: l,k=>ns l λl=>k (x :: l)
def vX(v:Value)(k:Value->R):R:=match v with
 | .int kd n=>fI n λn=>k (.int kd n)
 | .bool b=>Bool.rec (k (.bool false)) (k (.bool true)) b
 |v=>k v
def plainV_eq(v:Value)(k:Value->R):vX v k=k v:=by
 unfold vX
 split
 ·exact jf _ _
 next b=>cases b<;>rfl
 ·rfl
def insK(l:Tl):Nat->Tr Value->(Tr Value->R)->R:=
 List.rec (motive:=λ_=>Nat->Tr Value->(Tr Value->R)->R) (λ_ c k=>k c) (λv _ ih i c k=>vX v λv=>putR nilV (bC i) c v λc=>fN (Nat.succ i) λi=>ih i c k) l
def mU:∀(l:Tl) (i:Nat) (c:Tr Value) (k:Tr Value->R),insK l i c k=k (insT l i c)
 | [],_,_,_=>rfl
 |v :: l,i,c,k=>by
  show(vX v λv=>putR nilV (bC i) c v λc=>fN (Nat.succ i) λi=>insK l i c k)=_
  rw[plainV_eq,iQ,dq,mU l];rfl
def od(o:HObj)(k:HOT->R):R:=match o with
 | .cells vs e rw=>fN vs.length λn=>insK vs 0 .leaf λc=>k (.t n e rw c)
 | .map es c=>vW es λes=>fN c λc=>k (.o (.map es c))
 |o=>k (.o o)
def gY{o:HObj}{k:HOT->R}:∃x:HOT,x.ho = .o o/\od o k=k x:=by
 cases o with
 |cells vs e rw=>
  refine⟨.t vs.length e rw (insT vs 0 .leaf),by simp only[HOT.ho,wR],?_⟩
  show(fN vs.length λn=>insK vs 0 .leaf λc=>k (.t n e rw c))=_
  rw[dq,mU]
 |map es c=>
  refine⟨.o (.map es c),rfl,?_⟩
  show(vW es λes=>fN c λc=>k (.o (.map es c)))=_
  rw[ns,dq]
 |_=>exact⟨.o _,rfl,rfl⟩
def rk(l:TD):(TD->R)->R:=
 List.rec (motive:=λ_=>(TD->R)->R) (λk=>k []) (λx _ ih k=>match x with
  | .i n=>fI n λn=>ih λl=>k (.i n :: l)
  | .b t=>Bool.rec (ih λl=>k (.b false :: l)) (ih λl=>k (.b true :: l)) t
  | .v v=>ih λl=>k (.v v :: l)) l
def ew:∀(l:TD) (k:TD->R),rk l k=k l
 | [],_=>rfl
 | .i n :: l,k=>(jf n λn=>rk l λl=>k (.i n :: l)).trans (ew l _)
 | .b true :: l,k=>ew l λl=>k (.b true :: l)
 | .b false :: l,k=>ew l λl=>k (.b false :: l)
 | .v v :: l,k=>ew l λl=>k (.v v :: l)
end
end Sx
section
open Sx
abbrev RT:=Option (TD)
abbrev yes:RT:=some []
def ans(b:Bool):RT:=match b with|true=>yes|false=>none
abbrev ac:=CK->TD->HTr->(TD->HTr->RT)->RT
def Act1.onH(h:HL):Act1->HL
 | .set i o=>h.set i (.o o)
 | .push o=>h++[.o o]
def cB(h:HL)(l:List Act1):HL:=l.foldl Act1.onH h
def getH(T:Tt)(h:HL):bV:=λi=>match h[i]? with
 |some x=>some (absO T x)
 |none=>none
def getT(T:Tt)(h:HTr):bV:=λi=>match h.at i with
 |some x=>some (absO T x.ho)
 |none=>none
def wM(l:List Act1):HTr->(HTr->RT)->RT:=
 List.rec (motive:=λ_=>HTr->(HTr->RT)->RT) (λh k=>k h) (λa _ ih h k=>match a with
  | .set i o=>od o λo=>putK h i o λh=>ih h k
  | .push o=>od o λo=>gN h o λh=>ih h k) l
def condB(b:Bool)(x y:RT):RT:=Bool.rec y x b
def outG(k:TH)(c:Int)(K:Int->RT):RT:=Bool.rec (fI (k.wrap c) K) (K c) (fits k c)
def out64(c:Int)(K:Int->RT):RT:=@Bool.rec (λ_=>RT) (fI (IntKind.wrap .i64 c) K) (K c) (@Int.rec (λ_=>Bool) (λn=>Nat.ble n 9223372036854775807) (λn=>Nat.ble n 9223372036854775807) c)
def outU8(c:Int)(K:Int->RT):RT:=@Bool.rec (λ_=>RT) (fI (IntKind.wrap .u8 c) K) (K c) (@Int.rec (λ_=>Bool) (λn=>Nat.ble n 255) (λ_=>false) c)
def outK(k:TH)(c:Int)(K:Int->RT):RT:=@IntKind.rec (λ_=>RT) (outG .i8 c K) (outG .i16 c K) (outG .i32 c K) (out64 c K) (outU8 c K) (outG .u16 c K) (outG .u32 c K) (outG .u64 c K) k
def addK(a b:Int)(K:Int->RT):RT:=
 Int.rec (λm=>Int.rec (λn=>fN (Nat.add m n) λc=>K (.ofNat c)) (λn=>Bool.rec (fN (Nat.sub n m) λc=>K (.negSucc c)) (fN (Nat.sub m (Nat.succ n)) λc=>K (.ofNat c)) (Nat.blt n m)) b)
  (λm=>Int.rec (λn=>Bool.rec (fN (Nat.sub m n) λc=>K (.negSucc c)) (fN (Nat.sub n (Nat.succ m)) λc=>K (.ofNat c)) (Nat.blt m n)) (λn=>fN (Nat.succ (Nat.add m n)) λc=>K (.negSucc c)) b) a
def subK(a b:Int)(K:Int->RT):RT:=
 Int.rec (λm=>Int.rec (λn=>Bool.rec (fN (Nat.sub n (Nat.succ m)) λc=>K (.negSucc c)) (fN (Nat.sub m n) λc=>K (.ofNat c)) (Nat.ble n m)) (λn=>fN (Nat.succ (Nat.add m n)) λc=>K (.ofNat c)) b)
  (λm=>Int.rec (λn=>fN (Nat.add m n) λc=>K (.negSucc c)) (λn=>Bool.rec (fN (Nat.sub m (Nat.succ n)) λc=>K (.negSucc c)) (fN (Nat.sub n m) λc=>K (.ofNat c)) (Nat.ble m n)) b) a
def mulK(a b:Int)(K:Int->RT):RT:=
 Int.rec (λm=>Int.rec (λn=>fN (Nat.mul m n) λc=>K (.ofNat c)) (λn=>Nat.rec (K (.ofNat 0)) (λm' _=>fN (Nat.add (Nat.mul m n) m') λc=>K (.negSucc c)) m) b)
  (λm=>Int.rec (λn=>Nat.rec (K (.ofNat 0)) (λn' _=>fN (Nat.add (Nat.mul m n) n') λc=>K (.negSucc c)) n) (λn=>fN (Nat.mul (Nat.succ m) (Nat.succ n)) λc=>K (.ofNat c)) b) a
def quoK(a b:Int)(K:Int->RT):RT:=
 Int.rec (λm=>Int.rec (λn=>fN (Nat.div m n) λc=>K (.ofNat c)) (λ_=>fI (Int.tdiv a b) K) b) (λ_=>fI (Int.tdiv a b) K) a
def remK(a b:Int)(K:Int->RT):RT:=
 Int.rec (λm=>Int.rec (λn=>fN (Nat.mod m n) λc=>K (.ofNat c)) (λ_=>fI (Int.tmod a b) K) b) (λ_=>fI (Int.tmod a b) K) a
def isZ(b:Int):Bool:=Int.rec (λn=>Nat.beq n 0) (λ_=>false) b
def ariB(op:BinOp)(k:TH)(a b:Int)(K:Int->RT):RT:=
 match op with
 | .add=>addK a b λc=>outK k c K
 | .sub=>subK a b λc=>outK k c K
 | .mul=>mulK a b λc=>outK k c K
 | .quo=>Bool.rec (quoK a b λc=>outK k c K) none (isZ b)
 | .rem=>Bool.rec (remK a b K) none (isZ b)
 | .and=>match eqI b 1 with
  |true=>fI (Int.emod a 2) K
  |false=>match a,b with
   | .ofNat m,.ofNat n=>fI (.ofNat (Nat.land m n)) λc=>outK k c K
   |_,_=>none
 | .xor=>match a,b with
  | .ofNat m,.ofNat n=>fI (.ofNat (Nat.xor m n)) λc=>outK k c K
  |_,_=>none
 | .or=>match a,b with
  | .ofNat m,.ofNat n=>fI (.ofNat (Nat.lor m n)) λc=>outK k c K
  |_,_=>none
 |_=>none
def eqZK(a b:Int):Bool:=Int.rec (λm=>Int.rec (λn=>Nat.beq m n) (λ_=>false) b) (λm=>Int.rec (λ_=>false) (λn=>Nat.beq m n) b) a
def notK(b:Bool):Bool:=Bool.rec true false b
def cmpB(op:BinOp)(a b:Int)(K:Bool->RT):RT:=
 match op with
 | .eql=>K (eqZK a b)
 | .neq=>K (notK (eqZK a b))
 | .lss=>K (notK (leZ b a))
 | .leq=>K (leZ a b)
 | .gtr=>K (notK (leZ a b))
 | .geq=>K (leZ b a)
 |_=>none
def eqBK(a b:Bool):Bool:=Bool.rec (notK b) b a
def eqLf(x y:Lf):Bool:=Lf.rec (λa=>Lf.rec (λb=>eqZK a b) (λ_=>false) (λ_=>false) y) (λa=>Lf.rec (λ_=>false) (λb=>eqBK a b) (λ_=>false) y) (λ_=>false) x
def eqsV(l:List (Lf×Lf)):Bool:=List.rec true (λp _ ih=>Bool.rec false ih (eqLf p.1 p.2)) l
def eqsB(l:List (Lf×Lf))(K:Bool->RT):RT:=K (eqsV l)
def convB(k:TH)(a:Int)(K:Int->RT):RT:=outK k a K
def selB(t:Bool)(a b:Int)(K:Int->RT):RT:=Bool.rec (K b) (K a) t
def optB{α:Type}(o:Option α)(K:α->RT):RT:=Option.rec none K o
def unIB(ls:TD)(K:Int->TD->RT):RT:=List.rec none (λx r _=>Lf.rec (λn=>K n r) (λ_=>none) (λ_=>none) x) ls
def unBB(ls:TD)(K:Bool->TD->RT):RT:=List.rec none (λx r _=>Lf.rec (λ_=>none) (λn=>K n r) (λ_=>none) x) ls
def unVB(ls:TD)(K:Value->TD->RT):RT:=List.rec none (λx r _=>Lf.rec (λ_=>none) (λ_=>none) (λn=>K n r) x) ls
def un0B(ls:TD)(K:RT):RT:=List.rec K (λ_ _ _=>none) ls
def ucIB(k:TH)(ls:Tl)(K:Int->Tl->RT):RT:=match ls with | .int k' n :: r=>(match dy k k' with|true=>K n r|false=>none)|_=>none
def ucBB(ls:Tl)(K:Bool->Tl->RT):RT:=match ls with | .bool n :: r=>K n r|_=>none
def ucVB(ls:Tl)(K:Value->Tl->RT):RT:=match ls with|n :: r=>K n r|_=>none
def uc0B(ls:Tl)(K:RT):RT:=match ls with | []=>K|_=>none
def spot0(s:Tp):Bool:=match s with
 |none=>true
 |some k=>match k with
  |0=>false
  |_=>true
def goodF(v:Value):Bool:=match v with
 | .pointer (some a)=>spot0 a.spot
 | .slice (some a) _ _=>spot0 a.spot
 |v=>aW v
def chkB(v:Value)(K:RT):RT:=match goodF v with|true=>K|false=>none
def lenR{α:Type}(l:List α):Nat:=List.rec 0 (λ_ _ n=>Nat.succ n) l
def ldB(n:Nat)(p:Value)(h:HTr)(K:Tl->RT):RT:=match p with
 | .pointer (some a)=>match a.spot with
  |none=>match h.at a.block with
   |some (.t m _ _ c)=>match Nat.ble (Nat.add a.off n) m with
    |true=>K (xt c n a.off)
    |false=>none
   |_=>none
  |some _=>none
 |_=>none
def lgB(C:Cfg)(n:Nat)(p:Value)(h:HTr)(K:Tl->RT):RT:=match p with
 | .pointer (some a)=>match a.spot with
  |none=>match h.at a.block with
   |some (.t m _ _ c)=>match Nat.ble (Nat.add a.off n) m with
    |true=>K (xt c n a.off)
    |false=>none
   |_=>none
  |some k=>match Nat.beq k 1 with
   |true=>match C.G a.block with
    |some vs=>match cutL vs a.off n with
     |some cs=>K cs
     |none=>none
    |none=>none
   |false=>none
 |_=>none
def peekB(T:Tt)(f:Pk)(h:HTr)(K:Tl->RT):RT:=match f with
 | .ld n p=>ldB n p h K
 | .lg C n p=>lgB C n p h K
 | .fn f=>match f (getT T h)with|some x=>K x|none=>none
def stB(p:Value)(new:Tl)(h:HTr)(K:Tl->HTr->RT):RT:=match p with
 | .pointer (some a)=>match a.spot with
  |none=>match h.at a.block with
   |some (.t m e true c)=>match Nat.ble (Nat.add a.off (lenR new)) m with
    |true=>insK new a.off c λc=>putK h a.block (.t m e true c) λh=>K [] h
    |false=>none
   |_=>none
  |some _=>none
 |_=>none
def tagB(s:Tp)(esz:Nat):Bool:=match s with
 |none=>false
 |some k=>Nat.beq k (Nat.add esz 10)
def slB(C:Cfg)(T:Tt)(esz:Nat)(x:Value)(h:HTr)(K:Tl->Nat->RT):RT:=match x with
 | .slice (some a) len _=>match tagB a.spot esz with
  |true=>match h.at a.block with
   |some (.t m e _ c)=>match Nat.beq e esz,Nat.ble (Nat.add a.off (Nat.mul len esz)) m with
    |true,true=>K (xt c (Nat.mul len esz) a.off) len
    |_,_=>none
   |_=>none
  |false=>match slG C esz (getT T h) x with
   |some p=>K p.1 p.2
   |none=>none
 |x=>match slG C esz (getT T h) x with
  |some p=>K p.1 p.2
  |none=>none
def growB(c:Tr Value)(m off w esz:Nat)(new:Tl)(k:HOT->RT):RT:=match Nat.beq off 0,Nat.beq w m with
 |true,true=>insK new m c λc=>fN (Nat.add m (lenR new)) λm=>k (.t m esz true c)
 |_,_=>od (.cells (xt c w off++new) esz true) k
def apB(T:Tt)(C:Cfg)(esz bytes:Nat)(s x:Value)(h:HTr)(K:Tl->HTr->RT):RT:=
 slB C T esz x h λnew n=>match s with
  | .slice none 0 0=>match n with
   |0=>K [.slice none 0 0] h
   |n+1=>match bO (n+1) bytes with
    |true=>od (.cells new esz true) λo=>gN h o λh'=>fN (n+1) λn=>K [.slice (some ⟨h.n,0,tag esz⟩) n 0] h'
    |false=>none
  | .slice (some a) len cx=>match tagB a.spot esz with
   |false=>none
   |true=>match h.at a.block with
    |some (.t m e rw c)=>match Nat.beq e esz,Nat.ble (Nat.add a.off (Nat.mul len esz)) m with
     |true,true=>match cx with
      |0=>match n with
       |0=>K [.slice (some a) len 0] h
       |n+1=>match rw,bO (len+(n+1)) bytes with
        |true,true=>growB c m a.off (Nat.mul len esz) esz new λo=>putK h a.block (.o .dead) λh'=>gN h' o λh''=>fN (len+(n+1)) λl=>K [.slice (some ⟨h.n,0,tag esz⟩) l 0] h''
        |_,_=>none
      |cap+1=>match Nat.ble (len+n) cap with
       |true=>match rw,Nat.ble (Nat.add (Nat.add a.off (Nat.mul len esz)) (lenR new)) m with
        |true,true=>insK new (Nat.add a.off (Nat.mul len esz)) c λc=>putK h a.block (.t m e true c) λh'=>fN (len+n) λl=>K [.slice (some a) l (cap+1)] h'
        |_,_=>none
       |false=>match bO (len+n) bytes with
        |true=>growB c m a.off (Nat.mul len esz) esz new λo=>gN h o λh'=>fN (len+n) λl=>K [.slice (some ⟨h.n,0,tag esz⟩) l 0] h'
        |false=>none
     |_,_=>none
    |_=>none
  |_=>none
def heapB(T:Tt)(f:Hp)(h:HTr)(K:Tl->HTr->RT):RT:=match f with
 | .st p new=>stB p new h K
 | .ap C esz bytes s x=>apB T C esz bytes s x h K
 | .fn f=>match f (getT T h) h.n with|some p=>vW p.2 λcs=>wM p.1 h λh=>K cs h|none=>none
def newB(o:HObj)(h:HTr)(K:Nat->HTr->RT):RT:=od o λo=>gN h o λh'=>K h.n h'
def toSL(k:LK)(v:Value):Option SL:=
 match k with
 | .i k=>match v with
  | .int k' n=>match dy k' k with
   |true=>some (.i k' n)
   |false=>none
  |_=>none
 | .b=>match v with
  | .bool t=>some (.b t)
  |_=>none
 | .v=>match aW v with
  |true=>some (.v v)
  |false=>none
def toSLs:TG->Tl->Option (List SL)
 | [],[]=>some []
 |k :: ks,v :: vs=>match toSL k v with
  |some x=>match toSLs ks vs with
   |some xs=>some (x :: xs)
   |none=>none
  |none=>none
 |_,_=>none
def toS0(sk:SK)(v:Value):Option S0:=
 match sk with
 | .leaf k=>(toSL k v).map .leaf
 | .agg ks=>match v with
  | .agg cs=>(toSLs ks cs.toList).map .agg
  |_=>none
def toS0s:TI->Tl->Option (List S0)
 | [],[]=>some []
 |k :: ks,v :: vs=>match toS0 k v with
  |some x=>match toS0s ks vs with
   |some xs=>some (x :: xs)
   |none=>none
  |none=>none
 |_,_=>none
def eqLK:LK->LK->Bool
 | .i a,.i b=>dy a b
 | .b,.b=>true
 | .v,.v=>true
 |_,_=>false
def eqLKs:TG->TG->Bool
 | [],[]=>true
 |a :: l,b :: m=>eqLK a b&&eqLKs l m
 |_,_=>false
def eqSK:SK->SK->Bool
 | .leaf a,.leaf b=>eqLK a b
 | .agg a,.agg b=>eqLKs a b
 |_,_=>false
def eqSKs:TI->TI->Bool
 | [],[]=>true
 |a :: l,b :: m=>eqSK a b&&eqSKs l m
 |_,_=>false
def gI(ls:TD):Bool:=List.rec true (λl _ ih=>match l with
 | .v x=>(match goodF x with
  |true=>ih
  |false=>false)
 |_=>ih) ls
section
variable (Sg:Tc) (T:Tt) (call:ac)
def callB(g:TM)(ls:TD)(h:HTr)(K:TD->HTr->RT):RT:=match gI ls with|true=>call (.f g) ls h K|false=>none
def lI(g:TM)(hs:Option (TI))(vals:Tl)(h:HTr)(K:TD->HTr->RT):RT:=
 match Sg g with
 |none=>none
 |some sg=>match (match hs with|none=>true|some hs=>eqSKs sg.rs hs)with
  |false=>none
  |true=>match toS0s sg.ps vals with
   |none=>none
   |some xs=>callB call g (cg xs) h K
def callvB(v:Value)(args:Tl)(hs:TI)(h:HTr)(K:TD->HTr->RT):RT:=
 match v with
 | .func fn first cap=>match fn with
  | .func g=>lI Sg call g (some hs) (first.toList++args++cap.toList) h K
  | .yield l=>match first.toList,cap.toList with
   | [],[]=>match h.at l with
    |some (.lp κ _ _ vs)=>match eqSKs [.leaf .b] hs with
     |false=>none
     |true=>match toS0s ((T κ).params.map (·.2)) args with
      |none=>none
      |some xs=>match gI (cg xs)with
       |true=>call (.y κ vs l) (cg xs) h K
       |false=>none
    |_=>none
   |_,_=>none
  |_=>none
 |_=>none
def rfunB(κ:Nat)(v:Value)(vals:Tl)(h:HTr)(K:Tk->HTr->RT):RT:=
 match v with
 | .func fn first cap=>match fn with
  | .func g=>gN h (.lp κ .ready none vals) λh0=>lI Sg call g none (first.toList++[.func (.yield h.n) #[] #[]]++cap.toList) h0 λ_ h1=>match h1.at h.n with
   |some (.lp κ' st pd vs)=>match st with
    | .busy=>none
    |_=>putK h1 h.n (.lp κ' .exhausted pd vs) λh2=>K pd h2
   |_=>none
  |_=>none
 |_=>none
def pendB(pd:Tk)(kn kr:RT)(ks:List (Nat×RT)):RT:=
 match pd with
 |none=>kn
 |some c=>match c with
  | .ret=>kr
  | .exit id=>List.rec none (λp _ ih=>match Nat.beq p.1 id with|true=>p.2|false=>ih) ks
  |_=>none
def lp1B(l:Nat)(h:HTr)(K:HTr->RT):RT:=
 match h.at l with
 |some (.lp κ st pd vs)=>match st with
  | .ready=>putK h l (.lp κ .busy pd vs) K
  |_=>none
 |_=>none
def lp2B(l:Nat)(j:Tk)(h:HTr)(K:HTr->RT):RT:=
 match h.at l with
 |some (.lp κ _ _ vs)=>match j with
  |none=>putK h l (.lp κ .ready none vs) K
  |some c=>putK h l (.lp κ .done (some c) vs) K
 |_=>none
end
def loopB(F:(TD->HTr->RT)->TD->HTr->RT)(ls:TD)(h:HTr):RT:=
 Nat.rec (motive:=λ_=>TD->HTr->RT) (λ_ _=>none) (λ_ ih ls h=>F ih ls h) 1000000 ls h
def joinB(b:TD->HTr->RT)(m:(TD->HTr->RT)->RT):RT:=m b
def shfB(op:BinOp)(k:TH)(a:Int)(_:TH)(b:Int)(K:Int->RT):RT:=match leZ 0 b with
 |true=>match op with
  | .shl=>fI (k.wrap (a*2 ^ min b.toNat k.bits)) K
  | .shr=>fI (a.fdiv (2 ^ min b.toNat k.bits)) K
  |_=>none
 |false=>none
def BA(Sg:Tc)(T:Tt)(call:ac):Alg RT HTr where
 fail:=none
 cond:=condB
 ari:=ariB
 shf:=shfB
 cmp:=cmpB
 eqs:=eqsB
 conv:=convB
 sel:=selB
 opt:=optB
 chk:=chkB
 unI:=unIB
 unB:=unBB
 unV:=unVB
 un0:=un0B
 ucI:=ucIB
 ucB:=ucBB
 ucV:=ucVB
 uc0:=uc0B
 peek:=peekB T
 heap:=heapB T
 new:=newB
 call:=callB call
 callv:=callvB Sg T call
 join:=joinB
 loop:=loopB
 rfun:=rfunB Sg call
 pend:=pendB
 lp1:=lp1B
 lp2:=lp2B
end
namespace Sx
section
variable [Val] [Kno]
def wAt(pts:TA)(tm:Tl)(o:Oper):TA:=(wOps pts o).flatMap λx=>adr (oval tm x)
def fAt(pts:TA)(tm:Tl)(o:Oper):TA:=(cV pts o).1.flatMap λx=>adrK (cV pts o).2 (oval tm x)
def dstIn(pts:TA)(tm:Tl)(o:Oper):Prop:=∀d,o.dst=some d->hCls pts o=2->∃v,tm[d]?=some v
def SepAt(pts:TA)(ops:Tm)(tm:Tl)(ps:List (Nat×Nat)):Prop:=
 ∀p∈ps,∃a b,ops[p.1]?=some a/\ops[p.2]?=some b/\(∀x∈wAt pts tm a,x∉fAt pts tm b)/\(∀x∈wAt pts tm a,x∉wAt pts tm b)/\(∀x∈wAt pts tm b,x∉fAt pts tm a)/\dstIn pts tm a/\dstIn pts tm b
def SameAt(ops:Tm)(k:Nat)(σ σ':St):Prop:=∃o d x,ops[k]?=some o/\o.dst=some d/\σ.tmps[d]?=some x/\σ'.tmps[d]?=some x
def DrOk(C:Cfg)(dr:Dr):Prop:=∀pts ops ps,dr pts ops=some ps->match splOf ps with
 |none=>∀(n:Nat) (σ σ':St),bn C (sm C n).toBelow pts ops (List.range ops.size) σ σ'->SepAt pts ops σ'.tmps ps->eQ C (sm C n).toBelow pts ops σ σ'
 |some p=>∀(n:Nat) (σ σ₁ σ₂ σ':St),bn C (sm C n).toBelow pts ops (List.range' 0 (ops.toList.take (p.2+1)).length) σ σ₁->ai C (sm C n).toBelow pts ops p.1 σ₁ σ₂->SameAt ops p.1 σ₁ σ₂->
   bn C (sm C n).toBelow pts ops (List.range' (p.2+1) (ops.toList.drop (p.2+1)).length) σ₁ σ'->eQ C (sm C n).toBelow pts ops σ σ'
def vH{x:Nat}:∀ {l:TA},memN x l=true↔x∈l
 | []=>by simp[memN]
 |y :: l=>by
  unfold memN
  cases h:Nat.beq x y with
  |true=>simp[qad h]
  |false=>
   have:x≠y:=λe=>by subst e;rw[show Nat.beq x x=true from qcu x]at h;cases h
   simp only[qal,this,false_or]
   exact vH
def vh:∀ {l m:TA},disjN l m=true->∀x∈l,x∉m
 | [],_,_,_,h=>by cases h
 |y :: l,m,h,x,hx=>by
  unfold disjN at h
  cases hm:memN y m with
  |true=>rw[hm]at h;cases h
  |false=>
   rw[hm]at h
   rcases qal.1 hx with rfl|hx
   ·intro e;rw[vH.2 e]at hm;cases hm
   ·exact vh h x hx
def sepL_ok:∀ {l:List (Value×Nat×Value)} {u:Unit},sepL l=some u->∀p∈l,∀r∈adr p.1,r∉adrK p.2.1 p.2.2
 | [],_,_,_,h=>by cases h
 |q :: l,u,h,p,hp=>by
  unfold sepL at h
  split at h
  next hd=>
   rcases qal.1 hp with rfl|hp
   ·exact vh hd
   ·exact sepL_ok h p hp
  ·cases h
def entV_ok{ev:Env}{σ:St}(hR:Rp ev σ){x:TF}{us:Tl}(h:entV (sval ev x)=some us)(k r:Nat)(hr:r∈adrK k (oval σ.tmps x)):∃u∈us,r∈adrK k u:=by
 have hn:sval ev x≠.no:=λe=>by rw[e]at h;cases h
 have hv:=(hR.sval rfl hn).1
 rw[hv]at hr
 generalize sval ev x=s at *
 have none:adrK k s.val=[]->∃u∈us,r∈adrK k u:=λe=>by rw[e]at hr;cases hr
 cases s with
 |st y=>
  cases y with
  |leaf l=>
   cases l with
   |v u=>
    cases h
    exact⟨u,by simp,hr⟩
   |_=>exact none (by cases k with|zero=>rfl|succ k=>cases k<;>rfl)
  |agg cs=>exact none (by cases k with|zero=>rfl|succ k=>cases k<;>rfl)
 |no=>exact absurd rfl hn
 |_=>exact none (by cases k with|zero=>rfl|succ k=>cases k<;>rfl)
def fJ{ev:Env}{σ:St}(hR:Rp ev σ):∀ {l:List Operand} {us:Tl},qr ev l=some us->∀(k r:Nat),r∈l.flatMap (λx=>adrK k (oval σ.tmps x))->∃u∈us,r∈adrK k u
 | [],_,_,_,_,h=>by cases h
 |x :: l,us,h,k,r,hr=>by
  unfold qr at h
  split at h
  next a b ha hb=>
   cases h
   rw[qbI,qao]at hr
   rcases hr with hr|hr
   ·obtain⟨u,h1,h2⟩:=entV_ok hR ha k r hr
    exact⟨u,qaH _ h1,h2⟩
   ·obtain⟨u,h1,h2⟩:=fJ hR hb k r hr
    exact⟨u,qaK _ h1,h2⟩
  ·cases h
def mG{ev:Env}{σ:St}(hR:Rp ev σ){d:Nat}:∀ {l:List Operand} {us:Tl},qr ev l=some us->Operand.tmp d∈l->∃v,σ.tmps[d]?=some v
 |x :: l,us,h,hm=>by
  unfold qr at h
  split at h
  next a b ha hb=>
   rcases qal.1 hm with rfl|hm
   ·have hn:sval ev (.tmp d)≠.no:=λe=>by rw[e]at ha;cases ha
    exact⟨_,(hR.at (s:=ev.tm.getD d .no) rfl hn).1⟩
   ·exact mG hR hb hm
  ·cases h
def rJ{pts:TA}{o:Oper}{d:Nat}(hd:o.dst=some d)(h:hCls pts o=2):Operand.tmp d∈wOps pts o:=by
 unfold wOps
 rw[h,hd]
 simp
def mt{us vs:Tl}{k:Nat}{u v:Value}(hu:u∈us)(hv:v∈vs):(u,k,v)∈cross us k vs:=by
 unfold cross
 exact qbH.2 ⟨u,hu,qaM.2 ⟨v,hv,rfl⟩⟩
def sepOne_ok{pts:TA}{ev:Env}{σ:St}(hR:Rp ev σ){a b:Oper}{l:List (Value×Nat×Value)}(h:sepOne pts ev a b=some l)(hs:∀p∈l,∀r∈adr p.1,r∉adrK p.2.1 p.2.2) :
  (∀x∈wAt pts σ.tmps a,x∉fAt pts σ.tmps b)/\(∀x∈wAt pts σ.tmps a,x∉wAt pts σ.tmps b)/\(∀x∈wAt pts σ.tmps b,x∉fAt pts σ.tmps a)/\dstIn pts σ.tmps a/\dstIn pts σ.tmps b:=by
 unfold sepOne at h
 split at h
 next wa wb fa fb h1 h2 h3 h4=>
  cases h
  refine⟨λx hx hy=>?_,λx hx hy=>?_,λx hx hy=>?_,λd hd hc=>mG hR h1 (rJ hd hc),λd hd hc=>mG hR h2 (rJ hd hc)⟩
  ·obtain⟨u,u1,u2⟩:=fJ hR h1 0 x hx
   obtain⟨v,v1,v2⟩:=fJ hR h4 _ x hy
   exact hs (u,_,v) (qaH _ (qaH _ (mt u1 v1))) x u2 v2
  ·obtain⟨u,u1,u2⟩:=fJ hR h1 0 x hx
   obtain⟨v,v1,v2⟩:=fJ hR h2 0 x hy
   exact hs (u,0,v) (qaH _ (qaK _ (mt u1 v1))) x u2 v2
  ·obtain⟨u,u1,u2⟩:=fJ hR h2 0 x hx
   obtain⟨v,v1,v2⟩:=fJ hR h3 _ x hy
   exact hs (u,_,v) (qaK _ (mt u1 v1)) x u2 v2
 ·cases h
def pH{pts:TA}{ops:Tm}{ev:Env}{σ:St}(hR:Rp ev σ):∀ {ps:List (Nat×Nat)} {l:List (Value×Nat×Value)},rB pts ops ev ps=some l->(∀p∈l,∀r∈adr p.1,r∉adrK p.2.1 p.2.2)->SepAt pts ops σ.tmps ps
 | [],_,_,_,_,h=>by cases h
 |q :: ps,l,h,hs,p,hp=>by
  unfold rB at h
  split at h
  next a b r ha hb hr=>
   obtain⟨x,hx,rfl⟩:=qac.1 h
   rcases qal.1 hp with rfl|hp
   ·exact⟨a,b,ha,hb,sepOne_ok hR hx λp hp=>hs p (qaH _ hp)⟩
   ·exact pH hR hr (λp hp=>hs p (qaK _ hp)) p hp
  ·cases h
def eqFn_ok{x y:Value}{u:Unit}(h:eqFn x y=some u):x=y:=by
 unfold eqFn at h
 split at h
 ·split at h
  ·split at h
   next l a b _ m c d e1 e2 e3 e4 e5=>
    have e1:=qad e1
    have f:∀ {a:Tj},a.toList=[]->a = #[]:=λh=>qa6.1 h
    rw[e1,f e2,f e3,f e4,f e5]
   ·cases h
  ·cases h
 ·cases h
def entF_ok{ev:Env}{σ:St}(hR:Rp ev σ){d:Nat}{x:Value}(h:entF (ev.tm.getD d .no)=some x):σ.tmps[d]?=some x:=by
 unfold entF at h
 split at h
 next y hy=>
  cases h
  exact(hR.at hy (by simp)).1
 ·cases h
def sepK_ok{R HT:Type}{A:Alg R HT}{C:Cfg}{Sg:Tc}{T:Tt}{holds:R->Prop}{abs:HT->Ts}(hA:AlgOk A C Sg T holds abs){pts:TA}{ops:Tm}{ps:List (Nat×Nat)}{kn:KN R HT}{ev:Env}{σ:St}(hR:Rp ev σ){h:HT}(hk:holds (sepK A pts ops ps kn ev h)) :
  SepAt pts ops σ.tmps ps/\holds (kn ev h):=by
 unfold sepK at hk
 split at hk
 ·exact⟨λp hp=>(by cases hp),hk⟩
 ·simp only at hk
  split at hk
  next l hl=>
   obtain⟨u,h1,h2⟩:=hA.opt _ _ hk
   exact⟨pH hR hl (sepL_ok h1),h2⟩
  ·exact absurd hk hA.fail
end
end Sx
section
variable [Val] [Kno] {R HT:Type} {A:Alg R HT} {X:Ctxt} {Sg:Tc} {holds:R->Prop} {abs:HT->Ts}
variable {ev:Env} {σ:St} {h:HT} {o:Oper} {K:KN R HT}
def StepO(C:Cfg)(pts:TA)(o:Oper)(σ σ':St):Prop:=
 (∃e,aj C pts (oval σ.tmps) o=some e/\jd (uB C) e o.dst σ σ')∨(∃v,iB C σ.tmps o v/\σ'=σ.put o.dst v)
def tq(pts:TA)(o:Oper):Tp:=
 match o.op,o.dst with
 | .box ..,some d=>if pts.getD d 0=d+2 then some d else none
 | .alloc _,some d=>if pts.getD d 0=d+2 then some d else none
 |_,_=>none
def Done(X:Ctxt)(holds:R->Prop)(abs:HT->Ts)(o:Oper)(σ:St)(K:KN R HT):Prop:=
 ∃σ' ev' h',StepO X.C X.pts o σ σ'/\Rp ev' σ'/\abs h'=σ'.heap/\Fr o.dst.toList (tq X.pts o).toList (iP X.pts o).toList σ σ'/\holds (K ev' h')
def uL(hR:Rp ev σ){dst:Tn}{s:SV}(hs:s.gd)(hk:holds (setD dst s ev h K)):∃ev',Rp ev' (σ.put dst s.val)/\holds (K ev' h):=by
 unfold setD at hk
 cases dst with
 |none=>exact⟨ev,hR,hk⟩
 |some d=>
  simp only[setK_eq]at hk
  exact⟨_,hR.put d hs,hk⟩
def du(hR:Rp ev σ)(H':Ts)(ha:abs h=H'){s:SV}(hs:s.gd)
  (hst:StepO X.C X.pts o σ (({ σ with heap:=H' }:St).put o.dst s.val)) (hk:holds (setD o.dst s ev h K)):Done X holds abs o σ K:=by
 obtain⟨ev',h1,h2⟩:=uL (hR.heap H') hs hk
 refine⟨_,ev',h,hst,h1,?_,?_,h2⟩
 ·rw[ha];cases o.dst<;>rfl
 ·have:=Fr.put (σ:=({ σ with heap:=H' }:St)) o.dst s.val (tq X.pts o).toList (iP X.pts o).toList
  exact⟨this.tlen,this.llen,this.tm,this.tp,this.row,this.rlen⟩
def aB(hR:Rp ev σ)(ha:abs h=σ.heap){s:SV}(hs:s.gd)(he:aj X.C X.pts (oval σ.tmps) o=some (.val s.val))(hk:holds (setD o.dst s ev h K)) :
  Done X holds abs o σ K:=
 du hR σ.heap ha hs (.inl ⟨_,he,_,rfl,rfl⟩) hk
def cm(hR:Rp ev σ)(ha:abs h=σ.heap){s:SV}(hs:s.gd)(he:iB X.C σ.tmps o s.val)(hk:holds (setD o.dst s ev h K)) :
  Done X holds abs o σ K:=
 du hR σ.heap ha hs (.inr ⟨_,he,rfl⟩) hk
def gy(hR:Rp ev σ)(ha:abs h=σ.heap){s:SV}(hs:s.gd){f:Ts->Ti}(he:aj X.C X.pts (oval σ.tmps) o=some (.hget f))(hf:f σ.heap=some s.val)
  (hk:holds (setD o.dst s ev h K)):Done X holds abs o σ K:=
 du hR σ.heap ha hs (.inl ⟨_,he,(σ,s.val),by simp[aQ,hf],rfl⟩) hk
def cY(hR:Rp ev σ){H':Ts}(ha:abs h=H'){s:SV}(hs:s.gd){f:Ts->Option (List HObj×Value)}(he:aj X.C X.pts (oval σ.tmps) o=some (.hop f))
  (hf:f σ.heap=some (H',s.val)) (hk:holds (setD o.dst s ev h K)):Done X holds abs o σ K:=
 du hR H' ha hs (.inl ⟨_,he,({ σ with heap:=H' },s.val),by simp[aQ,hf],rfl⟩) hk
def move_ok(hR:Rp ev σ)(ha:abs h=σ.heap){x:TF}(ho:o.op = .move x∨o.op = .assign x){y:SV}(hy:sval ev x=y)(hn:y≠.no)(hk:holds (setD o.dst y ev h K)):Done X holds abs o σ K:=by
 obtain⟨h1,h2⟩:=hR.sval hy hn
 refine aB hR ha h2 ?_ hk
 rcases ho with ho|ho<;>simp only[aj,ho,h1]
def pick_ok(hA:AlgOk A X.C Sg X.T holds abs)(hR:Rp ev σ)(ha:abs h=σ.heap){c a b:TF}(ho:o.op = .pick c a b)
  (hk:holds (match sval ev c,sval ev a,sval ev b with
  | .st (.leaf (.l true)),.st y,_=>setD o.dst (.st y) ev h K
  | .st (.leaf (.l false)),_,.st y=>setD o.dst (.st y) ev h K
  | .st (.leaf (.b t)),.st y,.st z=>A.cond t (setD o.dst (.st y) ev h K) (setD o.dst (.st z) ev h K)
  |_,_,_=>A.fail)):Done X holds abs o σ K:=by
 split at hk
 next y e1 e2=>
  obtain⟨h1,_⟩:=hR.sval e1 (by simp)
  obtain⟨h2,g2⟩:=hR.sval e2 (by simp)
  refine aB hR ha g2 ?_ hk
  simp only[aj,ho,h1,SV.val,S0.val,SL.val,if_true,h2]
 next y e1 e2=>
  obtain⟨h1,_⟩:=hR.sval e1 (by simp)
  obtain⟨h2,g2⟩:=hR.sval e2 (by simp)
  refine aB hR ha g2 ?_ hk
  simp only[aj,ho,h1,SV.val,S0.val,SL.val,h2,qam,if_false]
 next t y z e1 e2 e3=>
  obtain⟨h1,_⟩:=hR.sval e1 (by simp)
  obtain⟨h2,g2⟩:=hR.sval e2 (by simp)
  obtain⟨h3,g3⟩:=hR.sval e3 (by simp)
  rcases hA.cond _ _ _ hk with⟨ht,hk⟩|⟨ht,hk⟩
  ·refine aB hR ha g2 ?_ hk
   simp only[aj,ho,h1,SV.val,S0.val,SL.val,ht,if_true,h2]
  ·refine aB hR ha g3 ?_ hk
   simp only[aj,ho,h1,SV.val,S0.val,SL.val,ht,h3,qam,if_false]
 ·exact absurd hk hA.fail
def newV_ok(hA:AlgOk A X.C Sg X.T holds abs)(hR:Rp ev σ)(ha:abs h=σ.heap){t:TK}{x:S0}(hx:x.good)(he:aj X.C X.pts (oval σ.tmps) o=cw X.C X.pts o.dst t x.val)
  (hb:(∃y,o.op = .box t y)∨o.op = .alloc t) (hk:holds (newV A X o.dst t x ev h K)):Done X holds abs o σ K:=by
 unfold newV at hk
 split at hk
 ·exact absurd hk hA.fail
 next d hd=>
  have dv:=S0.cells_val hx
  have hok:=S0.cells_ok hx
  have hnt:=S0.not_tuple hx
  split at hk
  next hp=>
   have hp:X.pts.getD d 0=d+2:=by simpa using hp
   split at hk
   next hl=>
    rw[setK_eq,setK_eq]at hk
    have hrow:ev.lc[d]?=some .nil:=by
     rw[List.getD_eq_getElem?_getD]at hl
     cases he:ev.lc[d]? with
     |none=>rw[he]at hl;cases hl
     |some r=>rw[he]at hl;simp at hl;rw[hl]
    have hloc:σ.loc[d]?=some none:=hR.row d _ hrow
    have heff:aj X.C X.pts (oval σ.tmps) o=some (.lnew d (x.cells.map SL.val)):=by
     rw[he,hd]
     unfold cw
     simp only[hnt,qam,if_false,dv,cells_ok' hx,qaE,hp,if_true]
    let σ₁:St:={ σ with loc:=σ.loc.set d (some (x.cells.map SL.val)) }
    have hR1:Rp ⟨ev.tm,ev.lc.set d (.row x.cells)⟩ σ₁:=by
     refine⟨hR.len,hR.val,by simp[σ₁,hR.llen],λi r hr=>?_⟩
     simp only[qa0]at hr
     split at hr
     next hi=>
      subst hi
      split at hr
      next hlt=>
       cases hr
       exact⟨by simp only[σ₁];rw[qaJ (by rw[←hR.llen];exact hlt)],hx⟩
      ·cases hr
     next hi=>
      have:=hR.row i r hr
      have hne:σ₁.loc[i]?=σ.loc[i]?:=by simp only[σ₁];rw[qaA hi]
      cases r<;>first|trivial|(simp only[LR.ok]at this ⊢;rw[hne];exact this)
    have hkey:tq X.pts o=some d:=by
     rcases hb with⟨y,hb⟩|hb<;>(simp only[tq,hb,hd];rw[qdy hp])
    have hrow':iP X.pts o=some d:=by
     rcases hb with⟨y,hb⟩|hb<;>(simp only[iP,hb,hd];rw[qdy hp])
    refine⟨σ₁.put o.dst (.pointer (some ⟨d,0,some 0⟩)),_,h,.inl ⟨_,heff,(σ₁,.pointer (some ⟨d,0,some 0⟩)),by simp[aQ,hloc,σ₁],rfl⟩,?_,?_,?_,hk⟩
    ·rw[hd];exact hR1.put d (s:=.lad d 0) trivial
    ·rw[ha];cases o.dst<;>rfl
    ·have hf:=Fr.put (σ:=σ₁) o.dst (.pointer (some ⟨d,0,some 0⟩)) [d] [d]
     have h0:Fr o.dst.toList [d] [d] σ σ₁:=by
      refine⟨rfl,by simp[σ₁],λ_ _ h _ _=>h,λ_ _ _ h _ _=>h,λs y hs hn=>?_,λs vs hs hn=>?_⟩
      ·simp only[qap]at hn
       simp only[σ₁]
       rw[qaA (λe=>hn e.symm)];exact hs
      ·simp only[qap]at hn
       refine⟨vs,?_,rfl⟩
       simp only[σ₁]
       rw[qaA (λe=>hn e.symm)];exact hs
     rw[hkey,hrow']
     exact h0.trans hf
   ·exact absurd hk hA.fail
  next hp=>
   have hp:¬X.pts.getD d 0=d+2:=λe=>by rw[e]at hp;simp at hp
   obtain⟨h',e1,e2⟩:=hA.new _ _ _ hk
   rw[ha]at e1 e2
   have heff:aj X.C X.pts (oval σ.tmps) o=some (.hop λH=>some (H++[.cells x.val.cells.toList (kJ X.C.P t) true],.pointer (some ⟨H.length,0,none⟩))):=by
    rw[he,hd]
    unfold cw
    simp only[hnt,qam,if_false,hok,qaE,hp]
   rw[←hd]at e2
   refine cY (s:=.st (.leaf (.v (.pointer (some ⟨σ.heap.length,0,none⟩))))) hR e1 (λl hl=>?_) heff ?_ e2
   ·simp only[S0.cells,qap]at hl
    subst hl;rfl
   ·simp only[dv];rfl
def uX(new:Tl):∀(off k:Nat) (cs:Tl),off+k+new.length<=cs.length->
  ((new.zipIdx k).foldl (λ(acc:Tj) (p:Value×Nat)=>acc.setIfInBounds (off+p.2) p.1) cs.toArray).toList=cs.take (off+k)++new++cs.drop (off+k+new.length):=by
 induction new with
 |nil=>intro off k cs h;simp
 |cons a l ih=>
  intro off k cs h
  simp only[qaG]at h
  simp only[List.zipIdx_cons,qct]
  have hset:(cs.toArray.setIfInBounds (off+k) a)=(cs.set (off+k) a).toArray:=by simp
  rw[hset,ih off (k+1) (cs.set (off+k) a) (by simp;omega)]
  rw[List.take_set,List.drop_set]
  have h1:(cs.take (off+(k+1))).set (off+k) a=cs.take (off+k)++[a]:=by
   rw[show off+(k+1)=(off+k)+1 from by omega]
   rw[List.take_succ_eq_append_getElem (by omega),List.set_append]
   simp[qa8 (show off+k<=cs.length by omega)]
  rw[h1]
  rw[qdy (show off+k<off+(k+1)+l.length by omega),show off+(k+1)+l.length=off+k+(l.length+1)by omega]
  simp only[qaP,qa2,qaS,qaG]
def qD(pl:Nat->Option (Nat×Nat)):∀(ps:List (Nat×S0)) (cs r:List SL),(∀p∈ps,p.2.good)->qC pl cs ps=some r->
  Instr.fill pl ⟨cs.map SL.val⟩ (ps.map λp=>(p.1,p.2.val))=some ⟨r.map SL.val⟩
 | [],cs,r,_,hf=>by cases hf;rfl
 |(i,x) :: ps,cs,r,hg,hf=>by
  simp only[qC]at hf
  split at hf
  next off n hpl=>
   split at hf
   next hn=>
    split at hf
    next cs1 hs=>
     have hn:x.cells.length=n:=by simpa using hn
     have hx:x.good:=hg (i,x) (by simp)
     have hc:=S0.cells_val hx
     unfold gS at hs
     split at hs
     next hle=>
      cases hs
      have ih:=qD pl ps _ r (λp hp=>hg p (by simp[hp])) hf
      simp only[qau,Instr.fill,hpl,hc]
      have hsz:(⟨x.cells.map SL.val⟩ : Array Value).size=n:=by simp[hn]
      rw[qdz (by
       have h2:(⟨cs.map SL.val⟩ : Array Value).size=cs.length:=by simp
       rw[hsz,h2];simp;omega)]
      rw[←ih]
      congr 1
      have hfold:=uX (x.cells.map SL.val) off 0 (cs.map SL.val) (by simp;omega)
      apply qa6.1
      rw[←qcr,qc2]
      refine Eq.trans hfold ?_
      simp[qcj,qcx]
     ·cases hs
    ·cases hf
   ·cases hf
  ·cases hf
def oJ(pl:Nat->Option (Nat×Nat)):∀(ps:List (Nat×S0)) (cs r:List SL),(∀c∈cs,c.good)->(∀p∈ps,p.2.good)->qC pl cs ps=some r->∀c∈r,c.good
 | [],cs,r,hc,_,hf=>by cases hf;exact hc
 |(i,x) :: ps,cs,r,hc,hg,hf=>by
  simp only[qC]at hf
  split at hf
  ·split at hf
   ·split at hf
    next cs1 hs=>
     refine oJ pl ps cs1 r (λc hm=>?_) (λp hp=>hg p (by simp[hp])) hf
     unfold gS at hs
     split at hs
     ·cases hs
      simp only[qao]at hm
      rcases hm with(hm|hm)|hm
      ·exact hc c (qbd hm)
      ·exact hg (i,x) (by simp) c hm
      ·exact hc c (qbO hm)
     ·cases hs
    ·cases hf
   ·cases hf
  ·cases hf
def pQ{ps:List (Nat×Operand)}{xs:List S0}(hv:(ps.map (·.2)).map (oval σ.tmps)=ah xs) :
  ps.map (λp=>(p.1,oval σ.tmps p.2))=((ps.map (·.1)).zip xs).map λp=>(p.1,p.2.val):=by
 induction ps generalizing xs with
 |nil=>simp
 |cons p ps ih=>
  cases xs with
  |nil=>simp[ah]at hv
  |cons x xs=>
   simp only[qau,ah,qay]at hv
   simp only[qau,qcH,hv.1]
   rw[ih (xs:=xs) hv.2]
def rP{is:TA}{xs:List S0}(hg:∀x∈xs,x.good):∀p∈is.zip xs,p.2.good:=λ_ hp=>hg _ (List.of_mem_zip hp).2
def rM{P:TE}{t:TK}{x:S0}(hz:uW P t=some x):∃z,dB P t=some z/\x.val=z/\x.good:=by
 unfold uW at hz
 obtain⟨z,h1,h2⟩:=qar.1 hz
 obtain⟨h3,h4,_⟩:=rz h2
 exact⟨z,h1,h3,h4⟩
def build_ok(hA:AlgOk A X.C Sg X.T holds abs)(hR:Rp ev σ)(ha:abs h=σ.heap){t:TK}{ps:Array (Nat×Operand)}(ho:o.op = .build t ps)
  (hk:holds (match uW X.C.P t,mb X.C.P t,svals ev (ps.toList.map (·.2))with
  |some z,some pl,some xs=>match qC pl z.cells ((ps.toList.map (·.1)).zip xs)with
   |some cs=>setD o.dst (.st (.agg cs)) ev h K
   |none=>A.fail
  |_,_,_=>A.fail)):Done X holds abs o σ K:=by
 split at hk
 next z pl xs e1 e2 e3=>
  split at hk
  next cs e4=>
   obtain⟨zv,hz1,hz2,hz3⟩:=rM e1
   obtain⟨hv,hg⟩:=hR.svals e3
   have hzc:=S0.cells_val hz3
   have hfill:=qD pl _ _ _ (rP (is:=ps.toList.map (·.1)) hg) e4
   have hgood:=oJ pl _ _ _ (λc hc=>hz3 c hc) (rP (is:=ps.toList.map (·.1)) hg) e4
   refine aB hR ha (s:=.st (.agg cs)) hgood ?_ hk
   have hall:(ps.toList.all λp=>!aJ (oval σ.tmps p.2))=true:=by
    simp only[qag,qbY]
    intro p hp
    have hm:oval σ.tmps p.2∈ah xs:=by
     rw[←hv]
     exact qaM.2 ⟨p.2,qaM.2 ⟨p,hp,rfl⟩,rfl⟩
    simp only[ah,qaM]at hm
    obtain⟨x,hx,e⟩:=hm
    rw[←e]
    exact S0.not_tuple (hg x hx)
   simp only[aj,ho,hall,if_true,rZ,hz1,e2]
   rw[pQ hv,←hz2,hzc,hfill]
   rfl
  ·exact absurd hk hA.fail
 ·exact absurd hk hA.fail
end
def SL.lf_val{a b:SL}{k:LK}(ha:a.is k=true)(hb:b.is k=true)(he:a.lf=b.lf):a.val=b.val/\(a.good->b.good):=by
 cases a<;>cases b<;>cases k<;>simp only[SL.lf,Lf.i.injEq,Lf.b.injEq,Lf.v.injEq,reduceCtorEq,SL.is,qam]at he ha hb ⊢<;>try (subst he;exact⟨rfl,id⟩)
 subst he
 exact⟨by simp only[SL.val];rw[dw ha,dw hb],id⟩
def bJ:∀ {cs:List SL} {ks:TG},aT cs ks=true->cs.length=ks.length
 | [],[],_=>rfl
 |c :: cs,k :: ks,h=>by
  simp only[aT,qaa]at h
  simp[bJ h.2]
 | [],_ :: _,h=>by cases h
 |_ :: _,[],h=>by cases h
def gi:∀ {a b:List SL} {ks:TG},aT a ks=true->aT b ks=true->a.map SL.lf=b.map SL.lf->a.map SL.val=b.map SL.val/\((∀c∈a,c.good)->∀c∈b,c.good)
 | [],[],[],_,_,_=>⟨rfl,λ_ _ h=>by cases h⟩
 |a :: as0,b :: bs,k :: ks,ha,hb,he=>by
  simp only[aT,qaa]at ha hb
  simp only[qau,qay]at he
  obtain⟨h1,h2⟩:=SL.lf_val ha.1 hb.1 he.1
  obtain⟨h3,h4⟩:=gi ha.2 hb.2 he.2
  refine⟨by simp[h1,h3],λhg c hc=>?_⟩
  rcases qal.1 hc with rfl|hc
  ·exact h2 (hg a (by simp))
  ·exact h4 (λc hc=>hg c (by simp[hc])) c hc
 | [],_ :: _,[],_,hb,_=>by cases hb
 | [],_,_ :: _,ha,_,_=>by cases ha
 |_ :: _,_,[],ha,_,_=>by cases ha
 |_ :: _,[],_ :: _,_,hb,_=>by cases hb
def S0.is_val{a b:S0}{sk:SK}(ha:a.is sk=true)(hb:b.is sk=true)(he:a.cells.map SL.lf=b.cells.map SL.lf):a.val=b.val/\(a.good->b.good):=by
 cases sk with
 |leaf k=>
  cases a with
  |agg _=>cases ha
  |leaf a=>
   cases b with
   |agg _=>cases hb
   |leaf b=>
    simp only[S0.cells,qau,qbs,qay,and_true]at he
    obtain⟨h1,h2⟩:=SL.lf_val ha hb he
    refine⟨h1,λhg l hl=>?_⟩
    simp only[S0.cells,qap]at hl
    subst hl
    exact h2 (hg a (by simp[S0.cells]))
 |agg ks=>
  cases a with
  |leaf _=>cases ha
  |agg a=>
   cases b with
   |leaf _=>cases hb
   |agg b=>
    obtain⟨h1,h2⟩:=gi ha hb he
    exact⟨by simp only[S0.val,h1],h2⟩
def S0.is_len{a:S0}{sk:SK}(ha:a.is sk=true):∃n,a.cells.length=n/\∀b:S0,b.is sk=true->b.cells.length=n:=by
 refine⟨_,rfl,λb hb=>?_⟩
 cases sk with
 |leaf k=>
  cases a with
  |agg _=>cases ha
  |leaf a=>cases b with
   |agg _=>cases hb
   |leaf b=>rfl
 |agg ks=>
  cases a with
  |leaf _=>cases ha
  |agg a=>cases b with
   |leaf _=>cases hb
   |agg b=>exact(bJ hb).trans (bJ ha).symm
def cH:∀ {a b:List S0} {sks:TI},ca a sks=true->ca b sks=true->cg a=cg b->ah a=ah b/\((∀c∈a,c.good)->∀c∈b,c.good)
 | [],[],[],_,_,_=>⟨rfl,λ_ _ h=>by cases h⟩
 |a :: as0,b :: bs,k :: ks,ha,hb,he=>by
  simp only[ca,qaa]at ha hb
  obtain⟨n,hn1,hn2⟩:=S0.is_len ha.1
  have hn2:=hn2 b hb.1
  simp only[cg]at he
  obtain⟨he1,he2⟩:=qdq he (by simp[hn1,hn2])
  obtain⟨h1,h2⟩:=S0.is_val ha.1 hb.1 he1
  obtain⟨h3,h4⟩:=cH ha.2 hb.2 he2
  refine⟨by simp only[ah,qau,h1]at h3 ⊢;rw[h3],λhg c hc=>?_⟩
  rcases qal.1 hc with rfl|hc
  ·exact h2 (hg a (by simp))
  ·exact h4 (λc hc=>hg c (by simp[hc])) c hc
 | [],_ :: _,[],_,hb,_=>by cases hb
 | [],_,_ :: _,ha,_,_=>by cases ha
 |_ :: _,_,[],ha,_,_=>by cases ha
 |_ :: _,[],_ :: _,_,hb,_=>by cases hb
section
variable [Val] [Kno] {R HT:Type} {A:Alg R HT} {X:Ctxt} {Sg:Tc} {holds:R->Prop} {abs:HT->Ts}
variable {ev:Env} {σ:St} {h:HT} {o:Oper} {K:KN R HT}
def pO{C:Cfg}{T:Tt}(hA:AlgOk A C Sg T holds abs):∀ {ks:TG} {ls:TD} {K:List SL->TD->R},holds (unL A ks ls K)->
  ∃cs r,ls=cs.map SL.lf++r/\aT cs ks=true/\holds (K cs r)
 | [],ls,K,hk=>⟨[],ls,rfl,rfl,hk⟩
 | .i k :: ks,ls,K,hk=>by
  obtain⟨n,r,rfl,hk1⟩:=hA.unI _ _ hk
  obtain⟨cs,r',rfl,h2,h3⟩:=pO hA (ks:=ks) hk1
  exact⟨.i k n :: cs,r',rfl,by simp[aT,SL.is,dF,h2],h3⟩
 | .b :: ks,ls,K,hk=>by
  obtain⟨n,r,rfl,hk1⟩:=hA.unB _ _ hk
  obtain⟨cs,r',rfl,h2,h3⟩:=pO hA (ks:=ks) hk1
  exact⟨.b n :: cs,r',rfl,by simp[aT,SL.is,h2],h3⟩
 | .v :: ks,ls,K,hk=>by
  obtain⟨n,r,rfl,hk1⟩:=hA.unV _ _ hk
  obtain⟨cs,r',rfl,h2,h3⟩:=pO hA (ks:=ks) hk1
  exact⟨.v n :: cs,r',rfl,by simp[aT,SL.is,h2],h3⟩
def unS_ok{C:Cfg}{T:Tt}(hA:AlgOk A C Sg T holds abs){sk:SK}{ls:TD}{K:S0->TD->R}(hk:holds (unS A sk ls K)) :
  ∃x r,ls=x.cells.map SL.lf++r/\x.is sk=true/\holds (K x r):=by
 cases sk with
 |leaf k=>
  cases k with
  |i k=>
   obtain⟨n,r,rfl,hk1⟩:=hA.unI _ _ hk
   exact⟨.leaf (.i k n),r,rfl,by simp[S0.is,SL.is,dF],hk1⟩
  |b=>
   obtain⟨n,r,rfl,hk1⟩:=hA.unB _ _ hk
   exact⟨.leaf (.b n),r,rfl,rfl,hk1⟩
  |v=>
   obtain⟨n,r,rfl,hk1⟩:=hA.unV _ _ hk
   exact⟨.leaf (.v n),r,rfl,rfl,hk1⟩
 |agg ks=>
  obtain⟨cs,r,h1,h2,h3⟩:=pO hA hk
  exact⟨.agg cs,r,h1,h2,h3⟩
def nR{C:Cfg}{T:Tt}(hA:AlgOk A C Sg T holds abs):∀ {sks:TI} {ls:TD} {K:List S0->TD->R},holds (unSs A sks ls K)->
  ∃xs r,ls=cg xs++r/\ca xs sks=true/\holds (K xs r)
 | [],ls,K,hk=>⟨[],ls,rfl,rfl,hk⟩
 |sk :: sks,ls,K,hk=>by
  have hk0:holds (unS A sk ls λx r=>unSs A sks r λxs r=>K (x :: xs) r):=hk
  obtain⟨x,r,rfl,h1,hk1⟩:=unS_ok hA hk0
  obtain⟨xs,r',rfl,h2,h3⟩:=nR hA (sks:=sks) hk1
  exact⟨x :: xs,r',by simp[cg],by simp[ca,h1,h2],h3⟩
def wE{C:Cfg}{T:Tt}(hA:AlgOk A C Sg T holds abs):∀ {ks:TG} {ls:Tl} {K:List SL->Tl->R},holds (ucL A ks ls K)->
  ∃cs r,ls=cs.map SL.val++r/\aT cs ks=true/\(∀c∈cs,c.good)/\holds (K cs r)
 | [],ls,K,hk=>⟨[],ls,rfl,rfl,by simp,hk⟩
 | .i k :: ks,ls,K,hk=>by
  obtain⟨n,r,rfl,hk1⟩:=hA.ucI _ _ _ hk
  obtain⟨cs,r',rfl,h2,h3,h4⟩:=wE hA (ks:=ks) hk1
  exact⟨.i k n :: cs,r',rfl,by simp[aT,SL.is,dF,h2],qbv.2 ⟨trivial,h3⟩,h4⟩
 | .b :: ks,ls,K,hk=>by
  obtain⟨n,r,rfl,hk1⟩:=hA.ucB _ _ hk
  obtain⟨cs,r',rfl,h2,h3,h4⟩:=wE hA (ks:=ks) hk1
  exact⟨.b n :: cs,r',rfl,by simp[aT,SL.is,h2],qbv.2 ⟨trivial,h3⟩,h4⟩
 | .v :: ks,ls,K,hk=>by
  obtain⟨n,r,rfl,hk1⟩:=hA.ucV _ _ hk
  obtain⟨hg,hk2⟩:=hA.chk _ _ hk1
  obtain⟨cs,r',rfl,h2,h3,h4⟩:=wE hA (ks:=ks) hk2
  exact⟨.v n :: cs,r',rfl,by simp[aT,SL.is,h2],qbv.2 ⟨hg,h3⟩,h4⟩
def nQ{C:Cfg}{T:Tt}(hA:AlgOk A C Sg T holds abs){sk:SK}{ls:Tl}{K:S0->Tl->R}(hk:holds (ucS A sk ls K)) :
  ∃x r,ls=x.cells.map SL.val++r/\x.is sk=true/\x.good/\holds (K x r):=by
 cases sk with
 |leaf k=>
  cases k with
  |i k=>
   obtain⟨n,r,rfl,hk1⟩:=hA.ucI _ _ _ hk
   exact⟨.leaf (.i k n),r,rfl,by simp[S0.is,SL.is,dF],λl hl=>by simp only[S0.cells,qap]at hl;subst hl;trivial,hk1⟩
  |b=>
   obtain⟨n,r,rfl,hk1⟩:=hA.ucB _ _ hk
   exact⟨.leaf (.b n),r,rfl,rfl,λl hl=>by simp only[S0.cells,qap]at hl;subst hl;trivial,hk1⟩
  |v=>
   obtain⟨n,r,rfl,hk1⟩:=hA.ucV _ _ hk
   obtain⟨hg,hk2⟩:=hA.chk _ _ hk1
   exact⟨.leaf (.v n),r,rfl,rfl,λl hl=>by simp only[S0.cells,qap]at hl;subst hl;exact hg,hk2⟩
 |agg ks=>
  obtain⟨cs,r,h1,h2,h3,h4⟩:=wE hA hk
  exact⟨.agg cs,r,h1,h2,h3,h4⟩
def ucSs_ok{C:Cfg}{T:Tt}(hA:AlgOk A C Sg T holds abs):∀ {sks:TI} {ls:Tl} {K:List S0->Tl->R},holds (ucSs A sks ls K)->
  ∃xs r,ls=lK xs++r/\ca xs sks=true/\(∀x∈xs,x.good)/\holds (K xs r)
 | [],ls,K,hk=>⟨[],ls,rfl,rfl,by simp,hk⟩
 |sk :: sks,ls,K,hk=>by
  have hk0:holds (ucS A sk ls λx r=>ucSs A sks r λxs r=>K (x :: xs) r):=hk
  obtain⟨x,r,rfl,h1,hg,hk1⟩:=nQ hA hk0
  obtain⟨xs,r',rfl,h2,h3,h4⟩:=ucSs_ok hA (sks:=sks) hk1
  refine⟨x :: xs,r',by simp[lK],by simp[ca,h1,h2],λc hc=>?_,h4⟩
  rcases qal.1 hc with rfl|hc
  ·exact hg
  ·exact h3 c hc
def mkV(agg:Bool)(cs:Tl)(v:Value):Prop:=(agg=true/\v = .agg ⟨cs⟩)∨(agg=false/\cs=[v])
def oV{x:S0}{sk:SK}(hx:x.is sk=true){v:Value}(hv:mkV (iU sk) (x.cells.map SL.val) v):x.val=v:=by
 cases sk with
 |leaf k=>
  cases x with
  |agg _=>cases hx
  |leaf l=>
   rcases hv with⟨h,_⟩|⟨_,h⟩
   ·cases h
   ·simp only[S0.cells,qau,qbs,qay,and_true]at h
    exact h
 |agg ks=>
  cases x with
  |leaf _=>cases hx
  |agg cs=>
   rcases hv with⟨_,h⟩|⟨h,_⟩
   ·exact h.symm
   ·cases h
def eqB_eq{a b:Bool}(h:eqB a b=true):a=b:=by cases a<;>cases b<;>first|rfl|cases h
def nc{agg:Bool}{cs:List SL}{x:S0}(hx:mkS0 agg cs=some x):x.cells=cs/\mkV agg (cs.map SL.val) x.val:=by
 unfold mkS0 at hx
 split at hx
 ·cases hx;exact⟨rfl,.inl ⟨rfl,rfl⟩⟩
 ·cases hx;exact⟨rfl,.inr ⟨rfl,rfl⟩⟩
 ·cases hx
def cQ{P:TE}{t:TK}{agg:Bool}(hag:aggT P t=some agg){vs cs:Tl}{off:Nat}(hc:cut vs off (if agg then P.cellsOf t else 1)=some cs) :
  ∃v,dh P t vs off=some v/\mkV agg cs v:=by
 unfold aggT at hag
 unfold dh
 split at hag
 next fs e=>
  cases hag
  rw[e]
  simp only[if_true]at hc
  exact⟨.agg ⟨cs⟩,by simp[hc],.inl ⟨rfl,rfl⟩⟩
 next fs e=>
  cases hag
  rw[e]
  simp only[if_true]at hc
  exact⟨.agg ⟨cs⟩,by simp[hc],.inl ⟨rfl,rfl⟩⟩
 next d h1 h2 e=>
  cases hag
  rw[e]
  simp only[qam,if_false]at hc
  unfold cut at hc
  split at hc
  next hle=>
   cases hc
   have hlt:off<vs.length:=by omega
   have hcs:(vs.drop off).take 1=[vs[off]]:=by
    rw[qaY hlt];rfl
   refine⟨vs[off],?_,.inr ⟨rfl,hcs⟩⟩
   simp[hlt]
  ·cases hc
 ·cases hag
def kL(hA:AlgOk A X.C Sg X.T holds abs){dst:Tn}{sk:SK}{cs:Tl}{v:Value}(hv:mkV (iU sk) cs v)(hk:holds (setC A dst sk cs ev h K)) :
  ∃x:S0,x.val=v/\x.good/\holds (setD dst (.st x) ev h K):=by
 obtain⟨x,r,h1,h2,h3,hk1⟩:=nQ hA hk
 obtain⟨hr,hk2⟩:=hA.uc0 _ _ hk1
 rw[hr,qa4]at h1
 subst h1
 exact⟨x,oV h2 hv,h3,hk2⟩
def mz{cs ds:List SL}{off n:Nat}(hc:cutS cs off n=some ds):cut (cs.map SL.val) off n=some (ds.map SL.val)/\(∀d∈ds,d∈cs):=by
 unfold cutS at hc
 unfold cut
 split at hc
 next hle=>
  cases hc
  rw[qdy (by simpa using hle)]
  exact⟨by simp[qcx,qcj],λd hd=>qbO (qbd hd)⟩
 ·cases hc
def jA(hR:Rp ev σ){s:Nat}{cs:List SL}(hr:rx ev s=some cs):σ.loc[s]?=some (some (cs.map SL.val))/\(∀c∈cs,c.good)/\ev.lc[s]?=some (.row cs):=by
 unfold rx at hr
 split at hr
 next ds e=>
  cases hr
  rw[List.getD_eq_getElem?_getD]at e
  cases he:ev.lc[s]? with
  |none=>rw[he]at e;cases e
  |some r=>
   rw[he]at e
   simp only[qa9]at e
   subst e
   have:=hR.row s _ he
   exact⟨this.1,this.2,rfl⟩
 ·cases hr
def vV{cs:List SL}{base:Nat}{ix:List (Int×Nat)}{n:Nat}{ls:TD}(hp:rj (cs.map SL.lf) base ix n=some ls) :
  ∃ds,cutS cs (offX base ix) n=some ds/\ls=ds.map SL.lf:=by
 rw[pickL_eq]at hp
 split at hp
 next hle=>
  cases hp
  refine⟨_,by unfold cutS;rw[qdy (by simpa using hle)],by simp[qcx,qcj]⟩
 ·cases hp
def offX_le:∀(ix:List (Int×Nat)) (base:Nat),base<=offX base ix
 | [],base=>qaf _
 |p :: l,base=>qbj (Nat.le_add_right _ _) (offX_le l _)
def lD{cs ds:List SL}{ks:TG}:∀ {ix:List (Int×Nat)} {base:Nat},rT cs ks base ix=true->cutS cs (offX base ix) ks.length=some ds->aT ds ks=true
 | [],base,h1,h2=>by
  simp only[rT,offX]at h1 h2
  rw[h2]at h1
  exact h1
 |p :: l,base,h1,h2=>by
  simp only[rT,qaa,qag,qbY,offX]at h1 h2
  obtain⟨h0,h1⟩:=h1
  refine lD (ix:=l) (h1 p.1.toNat ?_) h2
  have hp:p.2≠0:=λe=>by rw[e]at h0;cases h0
  have hle:offX (base+p.1.toNat*p.2) l<=cs.length:=by
   unfold cutS at h2
   split at h2
   ·omega
   ·cases h2
  have:=offX_le l (base+p.1.toNat*p.2)
  have h3:p.1.toNat<=p.1.toNat*p.2:=Nat.le_mul_of_pos_right _ (Nat.pos_of_ne_zero hp)
  simp only[qaD]
  omega
def is_skKs{x:S0}{sk:SK}(hx:x.is sk=true):aT x.cells (skKs sk)=true:=by
 cases sk with
 |leaf k=>
  cases x with
  |agg _=>cases hx
  |leaf l=>simp[S0.cells,skKs,aT];exact hx
 |agg ks=>
  cases x with
  |leaf _=>cases hx
  |agg cs=>exact hx
def setL_ok(hA:AlgOk A X.C Sg X.T holds abs){dst:Tn}{sk:SK}{ds:List SL}{v:Value}(hd:aT ds (skKs sk)=true)(hg:∀c∈ds,c.good)(hv:mkV (iU sk) (ds.map SL.val) v)
  (hk:holds (setL A dst sk (ds.map SL.lf) ev h K)):∃x:S0,x.val=v/\x.good/\holds (setD dst (.st x) ev h K):=by
 obtain⟨x,r,e1,e2,hk1⟩:=unS_ok hA hk
 obtain⟨hr0,hk2⟩:=hA.un0 _ _ hk1
 rw[hr0,qa4]at e1
 obtain⟨h1,h2⟩:=gi hd (is_skKs e2) e1
 rw[h1]at hv
 exact⟨x,oV e2 hv,h2 hg,hk2⟩
def is_lk(c:SL):c.is c.lk=true:=by cases c<;>first|rfl|exact dF _
def lE:∀cs:List SL,aT cs (cs.map SL.lk)=true
 | []=>rfl
 |c :: cs=>by simp[aT,is_lk,lE cs]
def gh:∀ {a b:List SL} {ka kb:TG},aT a ka=true->aT b kb=true->aT (a++b) (ka++kb)=true
 | [],b,[],kb,_,h=>h
 |a :: as0,b,k :: ka,kb,h1,h2=>by
  simp only[aT,qaa,qa2]at h1 ⊢
  exact⟨h1.1,gh h1.2 h2⟩
 | [],_,_ :: _,_,h,_=>by cases h
 |_ :: _,_,[],_,h,_=>by cases h
end
section
variable [Val] [Kno] {R HT:Type} {A:Alg R HT} {X:Ctxt} {Sg:Tc} {holds:R->Prop} {abs:HT->Ts}
variable {ev:Env} {σ:St} {h:HT} {o:Oper} {K:KN R HT}
def sc(H:Ts)(id:Nat):gp (λi=>H[i]?) id=dv H id:=rfl
def ldP_ok{n:Nat}{p:Value}{g:bV}{cs:Tl}(h:ldP n p g=some cs):∃id off vs,p = .pointer (some ⟨id,off,none⟩)/\gp g id=some vs/\cut vs off n=some cs:=by
 unfold ldP at h
 split at h
 next a=>
  split at h
  next hs=>
   obtain⟨vs,h1,h2⟩:=qar.1 h
   obtain⟨b,f,sp⟩:=a
   simp only at hs
   subst hs
   exact⟨b,f,vs,rfl,h1,h2⟩
  ·cases h
 ·cases h
def lgP_ok{C:Cfg}{n:Nat}{p:Value}{g:bV}{cs:Tl}(h:lgP C n p g=some cs):(∃id off vs,p = .pointer (some ⟨id,off,none⟩)/\gp g id=some vs/\cut vs off n=some cs)∨∃id off vs,p = .pointer (some ⟨id,off,some 1⟩)/\C.G id=some vs/\cut vs off n=some cs:=by
 unfold lgP at h
 split at h
 next a=>
  split at h
  next hs=>
   obtain⟨vs,h1,h2⟩:=qar.1 h
   obtain⟨b,f,sp⟩:=a
   simp only at hs
   subst hs
   exact .inl ⟨b,f,vs,rfl,h1,h2⟩
  next k hs=>
   split at h
   next hb=>
    obtain⟨vs,h1,h2⟩:=qar.1 h
    obtain⟨b,f,sp⟩:=a
    simp only at hs
    subst hs
    rw[qad hb]
    exact .inr ⟨b,f,vs,rfl,h1,h2⟩
   ·cases h
 ·cases h
def load_ok(hA:AlgOk A X.C Sg X.T holds abs)(hR:Rp ev σ)(ha:abs h=σ.heap){t:TK}{a:TF}{sk:SK}{agg:Bool}(ho:o.op = .load t a)(hag:aggT X.C.P t=some agg)
  (hsk:agg=iU sk) (hk:holds (loadE A X o.dst sk agg (if agg then X.C.P.cellsOf t else 1) a ev h K)):Done X holds abs o σ K:=by
 have heff:aj X.C X.pts (oval σ.tmps) o=dG X.C X.pts t a (oval σ.tmps a):=by simp only[aj,ho]
 unfold loadE at hk
 split at hk
 next p hkey he=>
  obtain⟨h1,_⟩:=hR.sval he (by simp)
  obtain⟨cs,h2,hk1⟩:=hA.peek _ _ _ hk
  simp only[Pk.run]at h2
  rw[ha]at h2
  rcases lgP_ok h2 with⟨id,off,vs,rfl,h3,h4⟩|⟨id,off,vs,rfl,h3,h4⟩
  ·rw[sc]at h3
   obtain⟨v,h5,h6⟩:=cQ hag h4
   rw[hsk]at h6
   obtain⟨x,rfl,h7,hk2⟩:=kL hA h6 hk1
   refine gy hR ha (s:=.st x) h7 (f:=λH=>(dv H id).bind λvs=>dh X.C.P t vs off) ?_ ?_ hk2
   ·rw[heff,dG,hkey,h1];rfl
   ·simp only[h3,qak,h5];rfl
  ·obtain⟨v,h5,h6⟩:=cQ hag h4
   rw[hsk]at h6
   obtain⟨x,rfl,h7,hk2⟩:=kL hA h6 hk1
   refine gy hR ha (s:=.st x) h7 (f:=λ_=>(X.C.G id).bind λvs=>dh X.C.P t vs off) ?_ ?_ hk2
   ·rw[heff,dG,hkey,h1];rfl
   ·simp only[h3,qak,h5];rfl
 next g off hkey he=>
  obtain⟨h1,_⟩:=hR.sval he (by simp)
  split at hk
  next vs hg=>
   split at hk
   next cs hc=>
    obtain⟨v,h5,h6⟩:=cQ hag hc
    have hval:aj X.C X.pts (oval σ.tmps) o=some (.val v):=by
     rw[heff,dG,hkey,h1]
     simp only[SV.val,fL,if_true,qak,hg,h5,qaz]
    split at hk
    next x hsc hm=>
     obtain⟨hm1,hm2⟩:=nc hm
     have hcs:(cs.map slOf).map SL.val=cs:=by
      rw[qcC]
      have:(SL.val ∘ slOf)=id:=funext rD
      rw[this,List.map_id]
     rw[hcs]at hm2
     have hv:x.val=v:=by
      rcases hm2 with⟨a1,a2⟩|⟨a1,a2⟩<;>rcases h6 with⟨b1,b2⟩|⟨b1,b2⟩
      ·rw[a2,b2]
      ·rw[a1]at b1;cases b1
      ·rw[a1]at b1;cases b1
      ·rw[a2]at b2;simpa using b2
     subst hv
     refine aB hR ha (s:=.st x) (λl hl=>?_) hval hk
     rw[hm1]at hl
     obtain⟨c,hc1,rfl⟩:=qaM.1 hl
     exact nJ (qag.1 hsc c hc1)
    ·rw[hsk]at h6
     obtain⟨x,rfl,h7,hk⟩:=kL hA h6 hk
     exact aB hR ha (s:=.st x) h7 hval hk
   ·exact absurd hk hA.fail
  ·exact absurd hk hA.fail
 next g base ix hkey he=>
  obtain⟨h1,_⟩:=hR.sval he (by simp)
  split at hk
  next vs hg=>
   obtain⟨cs,hc,hk⟩:=hA.opt _ _ hk
   obtain⟨v,h5,h6⟩:=cQ hag (vs:=vs) (off:=offX base ix) ((pickV_eq _ _ _ _).symm.trans hc)
   have hval:aj X.C X.pts (oval σ.tmps) o=some (.val v):=by
    rw[heff,dG,hkey,h1]
    simp only[SV.val,fL,if_true,qak,hg,h5,qaz]
   rw[hsk]at h6
   obtain⟨x,rfl,h7,hk⟩:=kL hA h6 hk
   exact aB hR ha (s:=.st x) h7 hval hk
  ·exact absurd hk hA.fail
 next p hkey he=>
  obtain⟨h1,_⟩:=hR.sval he (by simp)
  obtain⟨cs,hc,hk1⟩:=hA.opt _ _ hk
  unfold ldGv at hc
  split at hc
  next ad=>
   split at hc
   next hsp=>
    obtain⟨vs,hg,hc⟩:=qar.1 hc
    obtain⟨v,h5,h6⟩:=cQ hag hc
    have hval:aj X.C X.pts (oval σ.tmps) o=some (.val v):=by
     rw[heff,dG,hkey,h1]
     simp only[SV.val,S0.val,SL.val,fL,hsp,if_true,qak,hg,h5,qaz]
    rw[hsk]at h6
    obtain⟨x,rfl,h7,hk2⟩:=kL hA h6 hk1
    exact aB hR ha (s:=.st x) h7 hval hk2
   ·cases hc
  ·cases hc
 next s s' off hkey he=>
  obtain⟨h1,_⟩:=hR.sval he (by simp)
  split at hk
  next x hs hx=>
   have hs:s=s':=by simpa using hs
   subst hs
   obtain⟨cs,hr,hx⟩:=qar.1 hx
   obtain⟨ds,hd,hx⟩:=qar.1 hx
   obtain⟨r1,r2,_⟩:=jA hR hr
   obtain⟨c1,c2⟩:=mz hd
   obtain⟨v,h5,h6⟩:=cQ hag c1
   obtain⟨hm1,hm2⟩:=nc hx
   have hv:x.val=v:=by
    rcases hm2 with⟨a1,a2⟩|⟨a1,a2⟩<;>rcases h6 with⟨b1,b2⟩|⟨b1,b2⟩
    ·rw[a2,b2]
    ·rw[a1]at b1;cases b1
    ·rw[a1]at b1;cases b1
    ·rw[a2]at b2;simpa using b2
   subst hv
   refine du hR σ.heap ha (s:=.st x) (λl hl=>?_) (.inl ⟨.lget s λvs=>dh X.C.P t vs off,?_,(σ,x.val),?_,rfl⟩) hk
   ·rw[hm1]at hl;exact r2 l (c2 l hl)
   ·rw[heff,dG,hkey,h1]
    simp[SV.val,iw]
   ·simp[aQ,r1,h5]
  ·exact absurd hk hA.fail
 next s s' base ix hkey he=>
  obtain⟨h1,_⟩:=hR.sval he (by simp)
  split at hk
  next cs hs hr=>
   have hs:s=s':=by simpa using hs
   subst hs
   split at hk
   next hat=>
    simp only[qaa]at hat
    obtain⟨hat,hn⟩:=hat
    have hn:=qad hn
    obtain⟨ls,hp,hk1⟩:=hA.opt _ _ hk
    obtain⟨ds,hd,rfl⟩:=vV hp
    obtain⟨r1,r2,_⟩:=jA hR hr
    obtain⟨c1,c2⟩:=mz hd
    obtain⟨v,h5,h6⟩:=cQ hag c1
    rw[hsk]at h6
    rw[hn]at hd
    obtain⟨x,rfl,h7,hk2⟩:=setL_ok hA (lD hat hd) (λc hc=>r2 c (c2 c hc)) h6 hk1
    refine du hR σ.heap ha (s:=.st x) h7 (.inl ⟨.lget s λvs=>dh X.C.P t vs (offX base ix),?_,(σ,x.val),?_,rfl⟩) hk2
    ·rw[heff,dG,hkey,h1]
     simp[SV.val,iw]
    ·simp[aQ,r1,h5]
   ·exact absurd hk hA.fail
  ·exact absurd hk hA.fail
 ·exact absurd hk hA.fail
def pJ{cs r new:List SL}{off:Nat}(hs:gS cs off new=some r):splice (cs.map SL.val) off (new.map SL.val)=some (r.map SL.val)/\r.length=cs.length/\((∀c∈cs,c.good)->(∀c∈new,c.good)->∀c∈r,c.good):=by
 unfold gS at hs
 unfold splice
 split at hs
 next hle=>
  cases hs
  rw[qdy (by simpa using hle)]
  refine⟨by simp[qcj,qcx],by simp;omega,λh1 h2 c hc=>?_⟩
  simp only[qao]at hc
  rcases hc with(hc|hc)|hc
  ·exact h1 c (qbd hc)
  ·exact h2 c hc
  ·exact h1 c (qbO hc)
 ·cases hs
def uU{P:TE}{t:TK}{x:S0}(hx:x.good)(hlen:x.cells.length=P.cellsOf t)(hi:(P.info? t).isSome=true)(vs:Tl)(off:Nat) :
  ep P t x.val vs off=splice vs off (x.cells.map SL.val):=by
 unfold ep
 have h1:=S0.cells_val hx
 rw[qdy ⟨by rw[h1];simpa using hlen,hi⟩,qdy (S0.cells_ok hx),h1]
def qn(hR:Rp ev σ)(ha:abs h=σ.heap){s:Nat}{cs:List SL}{f:Tl->Option (Tl)}{vs:Tl}(he:aj X.C X.pts (oval σ.tmps) o=some (.lset s f))(hloc:σ.loc[s]?=some (some vs))
  (hf:f vs=some (cs.map SL.val)) (hlen:(cs.map SL.val).length=vs.length) (hg:∀c∈cs,c.good) (hrow:iP X.pts o=some s)
  (hk:holds (setD o.dst .un ⟨ev.tm,ev.lc.set s (.row cs)⟩ h K)):Done X holds abs o σ K:=by
 let σ₁:St:={ σ with loc:=σ.loc.set s (some (cs.map SL.val)) }
 have hlt:s<σ.loc.length:=(qaN.1 hloc).1
 have hR1:Rp ⟨ev.tm,ev.lc.set s (.row cs)⟩ σ₁:=by
  refine⟨hR.len,hR.val,by simp[σ₁,hR.llen],λi r hr=>?_⟩
  simp only[qa0]at hr
  split at hr
  next hi=>
   subst hi
   split at hr
   ·cases hr
    exact⟨by simp only[σ₁];rw[qaJ hlt],hg⟩
   ·cases hr
  next hi=>
   have:=hR.row i r hr
   have hne:σ₁.loc[i]?=σ.loc[i]?:=by simp only[σ₁];rw[qaA hi]
   cases r<;>first|trivial|(simp only[LR.ok]at this ⊢;rw[hne];exact this)
 obtain⟨ev',h1,h2⟩:=uL (dst:=o.dst) hR1 (s:=.un) trivial hk
 refine⟨σ₁.put o.dst undef,ev',h,.inl ⟨_,he,(σ₁,undef),by simp[aQ,hloc,hf,σ₁],rfl⟩,h1,?_,?_,h2⟩
 ·rw[ha];cases o.dst<;>rfl
 ·have hf:=Fr.put (σ:=σ₁) o.dst undef (tq X.pts o).toList (iP X.pts o).toList
  have h0:Fr o.dst.toList (tq X.pts o).toList (iP X.pts o).toList σ σ₁:=by
   refine⟨rfl,by simp[σ₁],λ_ _ h _ _=>h,λ_ _ _ h _ _=>h,λi y hs hn=>?_,λi ws hs hn=>?_⟩
   ·rw[hrow]at hn
    simp only[qcL,qap]at hn
    simp only[σ₁]
    rw[qaA (λe=>hn e.symm)];exact hs
   ·by_cases hi:i=s
    ·subst hi
     rw[hloc]at hs
     cases hs
     exact⟨_,by simp only[σ₁];rw[qaJ hlt],hlen⟩
    ·exact⟨ws,by simp only[σ₁];rw[qaA (λe=>hi e.symm)];exact hs,rfl⟩
  exact h0.trans hf
def stP_ok{p:Value}{new:Tl}{g:bV}{n:Nat}{acts:List Act1}{cs:Tl}(h:stP p new g n=some (acts,cs)) :
  ∃id off vs vs' e,p = .pointer (some ⟨id,off,none⟩)/\g id=some (.cells vs e true)/\splice vs off new=some vs'/\acts=[.set id (.cells vs' e true)]:=by
 unfold stP at h
 split at h
 next a=>
  split at h
  next hs=>
   split at h
   next vs e hg=>
    obtain⟨vs',h1,h2⟩:=qac.1 h
    obtain⟨b,f,sp⟩:=a
    simp only at hs
    subst hs
    cases h2
    exact⟨b,f,vs,vs',e,rfl,hg,h1,rfl⟩
   ·cases h
  ·cases h
 ·cases h
def store_ok(hA:AlgOk A X.C Sg X.T holds abs)(hR:Rp ev σ)(ha:abs h=σ.heap){t:TK}{a y:TF}{x:S0}(ho:o.op = .store t a y)(hy:sval ev y = .st x)
  (hk:holds (storeE A X o.dst t a x ev h K)):Done X holds abs o σ K:=by
 obtain⟨hy1,hx⟩:=hR.sval hy (by simp)
 have hx:x.good:=hx
 have heff:aj X.C X.pts (oval σ.tmps) o=em X.C X.pts t a (oval σ.tmps a) x.val:=by simp only[aj,ho,hy1];rfl
 have hnt:=S0.not_tuple hx
 unfold storeE at hk
 split at hk
 ·exact absurd hk hA.fail
 next hc=>
  simp only[qaa]at hc
  obtain⟨hlen,hi⟩:=hc
  have hlen:=qad hlen
  have hw:=uU (P:=X.C.P) (t:=t) hx hlen hi
  split at hk
  next p hkey he=>
   obtain⟨h1,_⟩:=hR.sval he (by simp)
   obtain⟨acts,cs,h',h2,h3,hk1⟩:=hA.heap _ _ _ hk
   simp only[Hp.run]at h2
   rw[ha]at h2 h3
   obtain⟨id,off,vs,vs',e,rfl,g1,g2,rfl⟩:=stP_ok h2
   refine cY (s:=.un) hR (H':=σ.heap.set id (.cells vs' e true)) h3 trivial (f:=iL X.C t id off x.val) ?_ ?_ hk1
   ·rw[heff,em,hnt,hkey,h1];rfl
   ·simp only[iL,g1,hw,g2,qaz];rfl
  next s s' off hkey he=>
   obtain⟨h1,_⟩:=hR.sval he (by simp)
   have hrow:iP X.pts o=some s:=by simp only[iP,ho,hkey]
   split at hk
   next cs hs hst=>
    have hs:s=s':=by simpa using hs
    subst hs
    rw[setK_eq]at hk
    have heff2:aj X.C X.pts (oval σ.tmps) o=some (.lset s λvs=>ep X.C.P t x.val vs off):=by
     rw[heff,em,hnt,hkey,h1]
     simp[SV.val,iw]
    have hrow0:ev.lc[s]?=some (ev.lc.getD s .unk)∨ev.lc.getD s .unk = .unk:=by
     rw[List.getD_eq_getElem?_getD]
     cases ev.lc[s]?<;>simp
    unfold storeR at hst
    split at hst
    next cs0 hl=>
     obtain⟨q1,q2,q3⟩:=pJ hst
     have hlc:ev.lc[s]?=some (.row cs0):=by rcases hrow0 with h|h<;>rw[hl]at h<;>first|exact h|cases h
     have hr:=hR.row s _ hlc
     exact qn hR ha heff2 hr.1 (by rw[hw];exact q1) (by simp[q2]) (q3 hr.2 hx) hrow hk
    next n hl=>
     split at hst
     next hz=>
      cases hst
      simp only[qaa]at hz
      have hz1:=qad hz.1
      have hz2:=qad hz.2
      have hlc:ev.lc[s]?=some (.any n):=by rcases hrow0 with h|h<;>rw[hl]at h<;>first|exact h|cases h
      obtain⟨vs,hv1,hv2⟩:=hR.row s _ hlc
      refine qn hR ha heff2 hv1 ?_ (by rw[hv2,hz2];simp) hx hrow hk
      rw[hw,hz1,splice,qdy (by simp;omega)]
      simp[show vs.length<=x.cells.length by omega]
     ·cases hst
    ·cases hst
   ·exact absurd hk hA.fail
  next s s' base ix hkey he=>
   obtain⟨h1,_⟩:=hR.sval he (by simp)
   have hrow:iP X.pts o=some s:=by simp only[iP,ho,hkey]
   split at hk
   next cs hs hr=>
    have hs:s=s':=by simpa using hs
    subst hs
    split at hk
    ·exact absurd hk hA.fail
    next hat=>
     obtain⟨ls,hp,hk1⟩:=hA.opt _ _ hk
     obtain⟨cs',r,e1,e2,hk2⟩:=pO hA hk1
     obtain⟨hr0,hk3⟩:=hA.un0 _ _ hk2
     rw[hr0,qa4]at e1
     rw[setK_eq]at hk3
     obtain⟨r1,r2,_⟩:=jA hR hr
     have heff2:aj X.C X.pts (oval σ.tmps) o=some (.lset s λvs=>ep X.C.P t x.val vs (offX base ix)):=by
      rw[heff,em,hnt,hkey,h1]
      simp[SV.val,iw]
     rw[putL_eq]at hp
     split at hp
     next hle=>
      simp only[qaF]at hle
      let off:=offX base ix
      have hmid:cutS cs off x.cells.length=some ((cs.drop off).take x.cells.length):=by unfold cutS;rw[qdy hle]
      have hk0:aT ((cs.drop off).take x.cells.length) (x.cells.map SL.lk)=true:=lD hat (by rw[qaF];exact hmid)
      let new:=cs.take off++x.cells++cs.drop (off+x.cells.length)
      have hsp:gS cs off x.cells=some new:=by unfold gS;rw[qdy hle]
      obtain⟨q1,q2,q3⟩:=pJ hsp
      have hkinds:aT new (cs.map SL.lk)=true:=by
       have hsplit:cs=cs.take off++(cs.drop off).take x.cells.length++cs.drop (off+x.cells.length):=by
        rw[qaP,←qbS,qbt,qbt]
       have hlk:∀ {a b:List SL},aT a (b.map SL.lk)=true->a.map SL.lk=b.map SL.lk:=by
        intro a b hab
        induction a generalizing b with
        |nil=>cases b with
         |nil=>rfl
         |cons _ _=>cases hab
        |cons a as0 ih=>cases b with
         |nil=>cases hab
         |cons b bs=>
          simp only[qau,aT,qaa]at hab
          simp only[qau,ih hab.2]
          have:a.lk=b.lk:=by
           have h0:=hab.1
           cases a<;>cases b<;>first|rfl|(simp[SL.is,SL.lk]at h0;done)|(simp only[SL.is,SL.lk]at h0 ⊢;rw[dw h0])
          rw[this]
       have hm:cs.map SL.lk=(cs.take off).map SL.lk++x.cells.map SL.lk++(cs.drop (off+x.cells.length)).map SL.lk:=by
        conv=>lhs;rw[hsplit]
        simp only[qbL]
        rw[hlk hk0]
       rw[hm]
       exact gh (gh (lE _) (lE _)) (lE _)
      have hlf:new.map SL.lf=cs'.map SL.lf:=by
       rw[←e1]
       cases hp
       simp[new,off,qcj,qcx]
      obtain⟨v1,v2⟩:=gi hkinds e2 hlf
      refine qn hR ha heff2 r1 (by rw[hw,←v1];exact q1) (by rw[←v1];simp[q2]) (v2 (q3 r2 hx)) hrow hk3
     ·cases hp
   ·exact absurd hk hA.fail
  ·exact absurd hk hA.fail
end
end Go.Am
end

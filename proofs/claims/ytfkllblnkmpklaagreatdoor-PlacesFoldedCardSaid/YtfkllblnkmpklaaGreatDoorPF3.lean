/-
  PART 3 OF THE PROOF (no conditions).
-/
import Derived.Test.YtfkllblnkmpklaaGreatDoorPF2
import Derived.IntWalk
set_option linter.unusedSectionVars false
set_option linter.unusedSimpArgs false
set_option linter.unusedVariables false
set_option linter.constructorNameAsVariable false
set_option linter.defProp false
noncomputable section
set_option maxRecDepth 100000
namespace Go.Am
section
variable {R HT:Type} (A:Alg R HT)
def Alg.k0(l:TE)(k:Int->Int->Int->R):R:=A.unI l λa0 l=>A.unI l λa1 l=>A.unI l λa2 l=>A.un0 l (k a0 a1 a2)
def Alg.k1(l:TE)(k:Int->Int->Value->R):R:=A.unI l λa0 l=>A.unI l λa1 l=>A.unV l λa2 l=>A.un0 l (k a0 a1 a2)
def Alg.k2(l:TE)(k:Int->R):R:=A.unI l λa0 l=>A.un0 l (k a0)
def Alg.k3(l:TE)(k:Value->Int->R):R:=A.unV l λa0 l=>A.unI l λa1 l=>A.un0 l (k a0 a1)
def Alg.k4(l:TE)(k:Bool->R):R:=A.unB l λa0 l=>A.un0 l (k a0)
def Alg.k5(l:TE)(k:Value->R):R:=A.unV l λa0 l=>A.un0 l (k a0)
def Alg.k6(l:Tl)(k:Int->R):R:=A.ucI .i64 l λa0 l=>A.uc0 l (k a0)
def Alg.k7(l:Tl)(k:Int->R):R:=A.ucI .u8 l λa0 l=>A.uc0 l (k a0)
def Alg.k8(l:Tl)(k:Int->Int->Int->R):R:=A.ucI .i64 l λa0 l=>A.ucI .i64 l λa1 l=>A.ucI .u8 l λa2 l=>A.uc0 l (k a0 a1 a2)
def Alg.k9(l:TE)(k:Int->Int->R):R:=A.unI l λa0 l=>A.unI l λa1 l=>A.un0 l (k a0 a1)
def Alg.k10(l:Tl)(k:Int->Int->R):R:=A.ucI .i64 l λa0 l=>A.ucI .i64 l λa1 l=>A.uc0 l (k a0 a1)
def Alg.k11(l:TE)(k:Int->Int->Value->Int->Int->Int->R):R:=A.unI l λa0 l=>A.unI l λa1 l=>A.unV l λa2 l=>A.unI l λa3 l=>A.unI l λa4 l=>A.unI l λa5 l=>A.un0 l (k a0 a1 a2 a3 a4 a5)
def Alg.k12(l:Tl)(k:Int->Int->Int->R):R:=A.ucI .u8 l λa0 l=>A.ucI .i64 l λa1 l=>A.ucI .i64 l λa2 l=>A.uc0 l (k a0 a1 a2)
def Alg.k13(l:TE)(k:Int->Int->Int->Int->R):R:=A.unI l λa0 l=>A.unI l λa1 l=>A.unI l λa2 l=>A.unI l λa3 l=>A.un0 l (k a0 a1 a2 a3)
def Alg.k14(l:TE)(k:Int->Int->Int->Int->Int->Int->R):R:=A.unI l λa0 l=>A.unI l λa1 l=>A.unI l λa2 l=>A.unI l λa3 l=>A.unI l λa4 l=>A.unI l λa5 l=>A.un0 l (k a0 a1 a2 a3 a4 a5)
def Alg.k15(l:TE)(k:Int->Int->Int->Int->Int->R):R:=A.unI l λa0 l=>A.unI l λa1 l=>A.unI l λa2 l=>A.unI l λa3 l=>A.unI l λa4 l=>A.un0 l (k a0 a1 a2 a3 a4)
def Alg.k16(l:Tl)(k:Int->Int->Int->R):R:=A.ucI .i64 l λa0 l=>A.ucI .u8 l λa1 l=>A.ucI .u8 l λa2 l=>A.uc0 l (k a0 a1 a2)
def Alg.k17(l:Tl)(k:Int->Int->R):R:=A.ucI .i64 l λa0 l=>A.ucI .u8 l λa1 l=>A.uc0 l (k a0 a1)
def Alg.k18(l:TE)(k:Value->Int->Int->Value->R):R:=A.unV l λa0 l=>A.unI l λa1 l=>A.unI l λa2 l=>A.unV l λa3 l=>A.un0 l (k a0 a1 a2 a3)
def Alg.cd(o:BinOp)(x y:Int)(p q:R):R:=A.cmp o x y λt=>A.cond t p q
def Alg.ix(e:Nat)(x:Value)(n:Int)(w:Nat)(h:HT)(k:Tl->R):R:=A.opt (idS e x n) λp=>A.peek (.lg cc w p) h k
def Alg.fx(e:Nat)(x:Value)(n:Int)(o w:Nat)(h:HT)(k:Tl->R):R:=A.opt (idS e x n) λp=>A.opt (fdP o p) λq=>A.chk q (A.peek (.lg cc w q) h k)
def Alg.c0(f:TQ)(ls:TE)(h:HT)(k:HT->Int->Int->Int->R):R:=A.call f ls h λl h=>A.k0 l (k h)
def Alg.c2(f:TQ)(ls:TE)(h:HT)(k:HT->Int->R):R:=A.call f ls h λl h=>A.k2 l (k h)
def Alg.c3(f:TQ)(ls:TE)(h:HT)(k:HT->Value->Int->R):R:=A.call f ls h λl h=>A.k3 l (k h)
def Alg.c4(f:TQ)(ls:TE)(h:HT)(k:HT->Bool->R):R:=A.call f ls h λl h=>A.k4 l (k h)
def Alg.c5(f:TQ)(ls:TE)(h:HT)(k:HT->Value->R):R:=A.call f ls h λl h=>A.k5 l (k h)
def Alg.c9(f:TQ)(ls:TE)(h:HT)(k:HT->Int->Int->R):R:=A.call f ls h λl h=>A.k9 l (k h)
def Alg.c13(f:TQ)(ls:TE)(h:HT)(k:HT->Int->Int->Int->Int->R):R:=A.call f ls h λl h=>A.k13 l (k h)
def Alg.c15(f:TQ)(ls:TE)(h:HT)(k:HT->Int->Int->Int->Int->Int->R):R:=A.call f ls h λl h=>A.k15 l (k h)
def Alg.ln(x:Value)(k:Int->R):R:=A.opt (lenS x) k
def Alg.pa(a b:Int)(k:Int->R):R:=A.ari .add .i64 a b k
def Alg.ps(a b:Int)(k:Int->R):R:=A.ari .sub .i64 a b k
def Alg.pm(a b:Int)(k:Int->R):R:=A.ari .mul .i64 a b k
def Alg.pr(a b:Int)(k:Int->R):R:=A.ari .rem .i64 a b k
def Alg.pq(a b:Int)(k:Int->R):R:=A.ari .quo .i64 a b k
def Alg.ci(a:Int)(k:Int->R):R:=A.conv .i64 a k
def qeq:(∀l k,A.k0 l k=A.unI l λa0 l=>A.unI l λa1 l=>A.unI l λa2 l=>A.un0 l (k a0 a1 a2))/\(∀l k,A.k1 l k=A.unI l λa0 l=>A.unI l λa1 l=>A.unV l λa2 l=>A.un0 l (k a0 a1 a2))/\(∀l k,A.k2 l k=A.unI l λa0 l=>A.un0 l (k a0))/\(∀l k,A.k3 l k=A.unV l λa0 l=>A.unI l λa1 l=>A.un0 l (k a0 a1))/\(∀l k,A.k4 l k=A.unB l λa0 l=>A.un0 l (k a0))/\(∀l k,A.k5 l k=A.unV l λa0 l=>A.un0 l (k a0))/\(∀l k,A.k6 l k=A.ucI .i64 l λa0 l=>A.uc0 l (k a0))/\(∀l k,A.k7 l k=A.ucI .u8 l λa0 l=>A.uc0 l (k a0))/\(∀l k,A.k8 l k=A.ucI .i64 l λa0 l=>A.ucI .i64 l λa1 l=>A.ucI .u8 l λa2 l=>A.uc0 l (k a0 a1 a2))/\(∀l k,A.k9 l k=A.unI l λa0 l=>A.unI l λa1 l=>A.un0 l (k a0 a1))/\(∀l k,A.k10 l k=A.ucI .i64 l λa0 l=>A.ucI .i64 l λa1 l=>A.uc0 l (k a0 a1))/\(∀l k,A.k11 l k=A.unI l λa0 l=>A.unI l λa1 l=>A.unV l λa2 l=>A.unI l λa3 l=>A.unI l λa4 l=>A.unI l λa5 l=>A.un0 l (k a0 a1 a2 a3 a4 a5))/\(∀l k,A.k12 l k=A.ucI .u8 l λa0 l=>A.ucI .i64 l λa1 l=>A.ucI .i64 l λa2 l=>A.uc0 l (k a0 a1 a2))/\(∀l k,A.k13 l k=A.unI l λa0 l=>A.unI l λa1 l=>A.unI l λa2 l=>A.unI l λa3 l=>A.un0 l (k a0 a1 a2 a3))/\(∀l k,A.k14 l k=A.unI l λa0 l=>A.unI l λa1 l=>A.unI l λa2 l=>A.unI l λa3 l=>A.unI l λa4 l=>A.unI l λa5 l=>A.un0 l (k a0 a1 a2 a3 a4 a5))/\(∀l k,A.k15 l k=A.unI l λa0 l=>A.unI l λa1 l=>A.unI l λa2 l=>A.unI l λa3 l=>A.unI l λa4 l=>A.un0 l (k a0 a1 a2 a3 a4))/\(∀l k,A.k16 l k=A.ucI .i64 l λa0 l=>A.ucI .u8 l λa1 l=>A.ucI .u8 l λa2 l=>A.uc0 l (k a0 a1 a2))/\(∀l k,A.k17 l k=A.ucI .i64 l λa0 l=>A.ucI .u8 l λa1 l=>A.uc0 l (k a0 a1))/\(∀l k,A.k18 l k=A.unV l λa0 l=>A.unI l λa1 l=>A.unI l λa2 l=>A.unV l λa3 l=>A.un0 l (k a0 a1 a2 a3))/\(∀o x y p q,A.cd o x y p q=A.cmp o x y λt=>A.cond t p q)/\(∀e x n w h k,A.ix e x n w h k=A.opt (idS e x n) λp=>A.peek (.lg cc w p) h k)/\(∀e x n o w h k,A.fx e x n o w h k=A.opt (idS e x n) λp=>A.opt (fdP o p) λq=>A.chk q (A.peek (.lg cc w q) h k))/\(∀f ls h k,A.c0 f ls h k=A.call f ls h λl h=>A.k0 l (k h))/\(∀f ls h k,A.c2 f ls h k=A.call f ls h λl h=>A.k2 l (k h))/\(∀f ls h k,A.c3 f ls h k=A.call f ls h λl h=>A.k3 l (k h))/\(∀f ls h k,A.c4 f ls h k=A.call f ls h λl h=>A.k4 l (k h))/\(∀f ls h k,A.c5 f ls h k=A.call f ls h λl h=>A.k5 l (k h))/\(∀f ls h k,A.c9 f ls h k=A.call f ls h λl h=>A.k9 l (k h))/\(∀f ls h k,A.c13 f ls h k=A.call f ls h λl h=>A.k13 l (k h))/\(∀f ls h k,A.c15 f ls h k=A.call f ls h λl h=>A.k15 l (k h))/\(∀x k,A.ln x k=A.opt (lenS x) k)/\(∀a b k,A.pa a b k=A.ari .add .i64 a b k)/\(∀a b k,A.ps a b k=A.ari .sub .i64 a b k)/\(∀a b k,A.pm a b k=A.ari .mul .i64 a b k)/\(∀a b k,A.pr a b k=A.ari .rem .i64 a b k)/\(∀a b k,A.pq a b k=A.ari .quo .i64 a b k)/\(∀a k,A.ci a k=A.conv .i64 a k):=by
 refine⟨?_,?_,?_,?_,?_,?_,?_,?_,?_,?_,?_,?_,?_,?_,?_,?_,?_,?_,?_,?_,?_,?_,?_,?_,?_,?_,?_,?_,?_,?_,?_,?_,?_,?_,?_,?_,?_⟩<;>intros<;>rfl
variable(ls:TE)(h:HT)(K:TE->HT->R)
def f3:R:=A.unI ls λC D=>A.unI D λE F=>A.unV F λG H=>A.unV H λI J=>A.k0 J λL M N=>A.call 4 [.i C,.i E,.v G,.v I] h λO P=>A.k1 O λc d g=>A.c0 5 [.i L,.i M,.i N] P λQ p q r=>A.call 6 [.i c,.i d,.v g] Q λS T=>A.unI S λh0 U=>A.unI U λh1 V=>A.unB V λW X=>A.k2 X λY=>A.c3 7 [.i c,.i d,.v g,.i p,.i q,.i r] T λZ j a0=>A.c3 8 [.i c,.i d,.v g,.i p,.i q,.i r] Z λe k a1=>A.pm 4 c λa2=>A.pm a2 d λx=>A.cd .neq Y 0 (K [.b false] e) (A.cd .neq a0 0 (K [.b false] e) (A.cd .neq a1 0 (K [.b false] e) (A.cond W (K [.b false] e) (A.ln j λa3=>A.cd .neq a3 x (K [.b false] e) (A.ln k λa4=>A.cd .neq a4 x (K [.b false] e) (A.c4 9 [.i c,.i d,.v g,.i p,.i q,.i r] e λy a5=>A.cond (!a5) (K [.b false] y) (A.c5 10 [.i c,.i d] y λa6 s=>A.c5 11 [.i c,.i d,.v g] a6 λa7 a8=>A.loop (λa9 b0 n=>A.k2 b0 λl=>A.ln s λb1=>A.cd .lss l b1 (A.join (λb2 b3=>A.un0 b2 (A.pa l 1 λb4=>a9 [.i b4] b3)) λz=>A.fx 2 s l 0 1 n λb5=>A.k6 b5 λm=>A.fx 2 s l 1 1 n λb6=>A.k7 b6 λb7=>A.ci b7 λb8=>A.c2 12 [.i c,.i d,.i m,.i b8] n λa o=>A.ix 1 a8 l 1 a λb9=>A.k7 b9 λc1=>A.cd .neq c1 0 (A.ix 3 j m 3 a λc6=>A.k8 c6 λc7 c8 c9=>A.ix 3 j o 3 a λd0=>A.k8 d0 λd1 d2 d3=>A.eqs [(.i c7,.i d1),(.i c8,.i d2),(.i c9,.i d3)] λd4=>A.cond (!d4) (K [.b false] a) (A.ix 1 k m 1 a λd5=>A.ucB d5 λd6 d7=>A.uc0 d7 (A.ix 1 k o 1 a λd8=>A.ucB d8 λd9 e0=>A.uc0 e0 (A.eqs [(.b d6,.b d9)] λe1=>A.cond e1 (K [.b false] a) (z [] a))))) (A.loop (λe2 e3 f=>A.k9 e3 λt u=>A.cd .lss u 3 (A.ix 3 j m 3 f λe4=>A.k8 e4 λe5 e6 e7=>A.c0 13 [.i e5,.i e6,.i e7,.i u] f λw e8 e9 f0=>A.ix 3 j o 3 w λf1=>A.k8 f1 λf2 f3 f4=>A.eqs [(.i e8,.i f2),(.i e9,.i f3),(.i f0,.i f4)] λf5=>A.join (λf6 f7=>A.k2 f6 λf8=>A.pa u 1 λf9=>e2 [.i f8,.i f9] f7) λB=>A.cond f5 (A.pa t 1 λg0=>B [.i g0] w) (B [.i t] w)) (A.cd .neq t 1 (K [.b false] f) (A.ix 1 k m 1 f λg1=>A.ucB g1 λg2 g3=>A.uc0 g3 (A.ix 1 k o 1 f λg4=>A.ucB g4 λg5 g6=>A.uc0 g6 (A.eqs [(.b g2,.b g5)] λg7=>A.cond (!g7) (K [.b false] f) (z [] f)))))) [.i 0,.i 0] a)) (A.c4 14 [] n λg8 g9=>K [.b g9] g8)) [.i 0] a7)))))))
def f4:R:=A.unI ls λt u=>A.unI u λw x=>A.unV x λb y=>A.k5 y λn=>A.ari .rem .u8 t 4 λz=>A.ci z λB=>A.pa 1 B λf=>A.ari .rem .u8 w 4 λC=>A.ci C λD=>A.pa 1 D λg=>A.call 15 [.i f,.i g] h λE F=>A.unV E λG H=>A.k5 H λI=>A.join (λJ L=>A.k5 J λM=>A.call 18 [.i f,.i g,.v M] L λN O=>A.k1 N λP Q d=>A.join (λS T=>A.un0 S (K [.i P,.i Q,.v d] T)) λo=>A.loop (λU V e=>A.k2 V λj=>A.ln n λW=>A.cd .lss j W (A.ln d λX=>A.cd .gtr X 0 (A.ix 1 n j 1 e λY=>A.k7 Y λZ=>A.ci Z λa0=>A.ln d λa1=>A.pr a0 a1 λa2=>A.opt (idS 3 d a2) λa3=>A.opt (fdP 2 a3) λp=>A.chk p (A.heap (.st p [.int .u8 3]) e λd6 a4=>A.pa j 1 λa5=>U [.i a5] a4)) (o [] e)) (o [] e)) [.i 0] O) λq=>A.loop (λa6 a7 c=>A.unV a7 λa8 a9=>A.k3 a9 λk a=>A.ln b λb0=>A.cd .lss a b0 (A.cd .lss a 6 (A.fx 4 b a 2 1 c λb1=>A.ucB b1 λb2 b3=>A.uc0 b3 (A.join (λb4 l=>A.k2 b4 λb5=>A.fx 4 b a 3 1 l λb6=>A.ucB b6 λb7 b8=>A.uc0 b8 (A.join (λb9 m=>A.k2 b9 λc0=>A.fx 4 b a 0 1 m λc1=>A.k7 c1 λc2=>A.fx 4 b a 1 1 m λc3=>A.ucI .i8 c3 λc4 c5=>A.uc0 c5 (A.c9 17 [.i c2,.i c4] m λc6 c7 c8=>A.call 16 [.i f,.i g,.v a8,.v k,.i c7,.i c8,.i b5,.i c0] c6 λd0 d1=>A.unV d0 λd2 d3=>A.k5 d3 λd4=>A.pa a 1 λd5=>a6 [.v d2,.v d4,.i d5] d1)) λr=>A.cond b7 (r [.i 1] l) (r [.i 0] l))) λs=>A.cond b2 (s [.i 1] c) (s [.i 0] c))) (q [.v k] c)) (q [.v k] c)) [.v G,.v I,.i 0] F
def f5:R:=A.k0 ls λe f g=>A.ari .rem .u8 e 8 λc=>A.ci f λa=>A.ci g λb=>A.pa a b λj=>A.pr j 2 λk=>A.cmp .neq k 0 λl=>A.join (λm n=>A.k0 m λo p q=>K [.i o,.i p,.i q] n) λd=>A.cond l (A.pa b 1 λr=>d [.i c,.i a,.i r] h) (d [.i c,.i a,.i b] h)
def f6:R:=A.k1 ls λm n o=>A.new (.cells [.int .i64 m,.int .i64 n,o] 3 true) h λa e=>A.peek (.lg cc 3 (.pointer (some ⟨a,0,none⟩))) e λp=>A.ucI .i64 p λq r=>A.ucI .i64 r λs t=>A.ucV t λf u=>A.chk f (A.uc0 u (A.c2 19 [.i q,.i s,.v f] e λc g=>A.cd .neq g 0 (K [.i 0,.i 0,.b false,.i g] c) (A.opt (fdP 0 (.pointer (some ⟨a,0,none⟩))) λj=>A.chk j (A.peek (.lg cc 2 j) c λw=>A.k10 w λx y=>A.c3 20 [.i x,.i y] c λz k E=>A.chk (.func (.func 22) ⟨[]⟩ ⟨[.pointer (some ⟨a,0,none⟩)]⟩) (A.c2 21 [.v k,.v (.func (.func 22) ⟨[]⟩ ⟨[.pointer (some ⟨a,0,none⟩)]⟩)] z λd l=>A.cd .geq l 0 (A.ix 2 k l 2 d λB=>A.k10 B λC D=>K [.i C,.i D,.b true,.i 0] d) (K [.i 0,.i 0,.b false,.i 0] d))))))
def f7:R:=A.k11 ls λa b c d e f=>A.call 24 [.i a,.i b,.v c,.i d,.i e,.i f] h λg j=>A.unV g λn k=>A.k3 k λl m=>K [.v l,.i m] j
def f8:R:=A.k11 ls λj k l m n o=>A.call 24 [.i j,.i k,.v l,.i m,.i n,.i o] h λp e=>A.unV p λc q=>A.k3 q λG f=>A.cd .neq f 0 (K [.v (.slice none 0 0),.i f] e) (A.ln c λa=>A.opt (mkOk a a) λH=>A.new (.cells (aV [.bool false] (Int.toNat a)) 1 true) e λg r=>A.ln c λs=>A.loop (λt u d=>A.k2 u λb=>A.cd .lss b s (A.ix 3 c b 3 d λw=>A.k12 w λx y z=>A.c4 25 [.i x,.i y,.i z] d λB C=>A.opt (idS 1 (.slice (some ⟨g,0,some 11⟩) (Int.toNat a) ((Int.toNat a)+1)) b) λD=>A.heap (.st D [.bool (!C)]) B λI E=>A.pa b 1 λF=>t [.i F] E) (K [.v (.slice (some ⟨g,0,some 11⟩) (Int.toNat a) ((Int.toNat a)+1)),.i 0] d)) [.i 0] r)
def f9:R:=A.k11 ls λe f g l m n=>A.c3 26 [.i e,.i f,.v g,.i l,.i m,.i n] h λD d o=>A.c3 27 [.i e,.i f,.v g,.i l,.i m,.i n] D λE p F=>A.c3 7 [.i e,.i f,.v g,.i l,.i m,.i n] E λG q H=>A.c3 8 [.i e,.i f,.v g,.i l,.i m,.i n] G λI r J=>A.c3 28 [.i e,.i f,.v g,.i l,.i m,.i n] I λL x M=>A.c9 29 [.i e,.i f,.v g,.i l,.i m,.i n] L λj y N=>A.cd .neq F o (K [.b false] j) (A.cd .neq H o (K [.b false] j) (A.cd .neq J o (K [.b false] j) (A.cd .neq M o (K [.b false] j) (A.cd .neq N o (K [.b false] j) (A.cd .neq o 0 (A.ln p λO=>A.ln q λP=>A.pa O P λQ=>A.ln r λS=>A.pa Q S λT=>A.ln x λU=>A.pa T U λV=>A.pa V y λW=>A.cmp .eql W 0 λX=>K [.b X] j) (A.c5 30 [.i e,.i f,.v g,.v d] j λk s=>A.ln p λY=>A.ln d λZ=>A.cd .neq Y Z (K [.b false] k) (A.ln q λa0=>A.ln d λa1=>A.cd .neq a0 a1 (K [.b false] k) (A.ln r λa2=>A.ln d λa3=>A.cd .neq a2 a3 (K [.b false] k) (A.opt (capS p) λa4=>A.ln p λa5=>A.cd .neq a4 a5 (K [.b false] k) (A.opt (capS q) λa6=>A.ln q λa7=>A.cd .neq a6 a7 (K [.b false] k) (A.opt (capS r) λa8=>A.ln r λa9=>A.cd .neq a8 a9 (K [.b false] k) (A.c5 32 [.v s] k λb0 b1=>A.c4 31 [.v x,.v b1] b0 λz b2=>A.cond (!b2) (K [.b false] z) (A.loop (λb3 b4 B=>A.k9 b4 λu c=>A.ln d λb5=>A.cd .lss c b5 (A.loop (λb6 b7 a=>A.k9 b7 λt w=>A.ln d λb8=>A.cd .lss w b8 (A.ix 3 s w 3 a λb9=>A.k8 b9 λc0 c1 c2=>A.ix 3 s c 3 a λc6=>A.k8 c6 λc7 c8 d0=>A.eqs [(.i c0,.i c7),(.i c1,.i c8),(.i c2,.i d0)] λd1=>A.join (λd2 d3=>A.k2 d2 λd4=>A.pa w 1 λd5=>b6 [.i d4,.i d5] d3) λC=>A.cond d1 (A.pa t 1 λd6=>C [.i d6] a) (C [.i t] a)) (A.cmp .lss u t λd7=>A.sel d7 t u λd8=>A.ix 3 p c 3 a λd9=>A.k12 d9 λe0 e1 e2=>A.ix 3 d c 3 a λe3=>A.k12 e3 λe4 e5 e6=>A.eqs [(.i e0,.i e4),(.i e1,.i e5),(.i e2,.i e6)] λe7=>A.cond (!e7) (K [.b false] a) (A.ix 3 q c 3 a λe8=>A.k8 e8 λe9 f0 f1=>A.ix 3 s c 3 a λf2=>A.k8 f2 λf3 f4 f5=>A.eqs [(.i e9,.i f3),(.i f0,.i f4),(.i f1,.i f5)] λf6=>A.cond (!f6) (K [.b false] a) (A.ix 1 r c 1 a λf7=>A.ucB f7 λf8 f9=>A.uc0 f9 (A.fx 3 d c 0 1 a λg0=>A.k7 g0 λg1=>A.cmp .lss g1 4 λg2=>A.eqs [(.b f8,.b g2)] λg3=>A.cond (!g3) (K [.b false] a) (A.pa c 1 λg4=>b3 [.i d8,.i g4] a)))))) [.i 0,.i 0] B) (A.cmp .eql y u λg5=>K [.b g5] B)) [.i 0,.i 0] z)))))))))))))
def f10:R:=A.k9 ls λd e=>A.loop (λn o f=>A.k3 o λg a=>A.pm 4 d λp=>A.pm p e λq=>A.cd .lss a q (A.loop (λr s j=>A.k3 s λc b=>A.cd .lss b 3 (A.c2 12 [.i d,.i e,.i a,.i b] j λk t=>A.cmp .gtr t a λu=>A.join (λw x=>A.k5 w λy=>A.pa b 1 λz=>r [.v y,.i z] x) λl=>A.cond u (A.conv .u8 b λB=>A.new (.cells [.int .i64 a,.int .u8 B] 2 true) k λC D=>A.heap (.ap cc 2 16 c (.slice (some ⟨C,0,some 12⟩) 1 2)) D λE F=>A.ucV E λm G=>A.chk m (A.uc0 G (l [.v m] F))) (l [.v c] k)) (A.pa a 1 λH=>n [.v c,.i H] j)) [.v g,.i 0] f) (K [.v g] f)) [.v (.slice none 0 0),.i 0] h
def f11:R:=A.k1 ls λm n e=>A.c5 10 [.i m,.i n] h λo f=>A.ln f λb=>A.opt (mkOk b b) λQ=>A.new (.cells (aV [.int .u8 0] (Int.toNat b)) 1 true) o λg p=>A.loop (λq r j=>A.k2 r λd=>A.ln f λs=>A.cd .lss d s (A.loop (λk t a=>A.k2 t λc=>A.ln e λu=>A.cd .lss c u (A.fx 3 e c 0 1 a λw=>A.k6 w λx=>A.fx 2 f d 0 1 a λy=>A.k6 y λz=>A.cd .eql x z (A.fx 3 e c 1 1 a λB=>A.k7 B λC=>A.fx 2 f d 1 1 a λD=>A.k7 D λE=>A.cmp .eql C E λF=>A.join (λG H=>A.un0 G (A.pa c 1 λI=>k [.i I] H)) λl=>A.cond F (A.fx 3 e c 2 1 a λJ=>A.k7 J λL=>A.opt (idS 1 (.slice (some ⟨g,0,some 11⟩) (Int.toNat b) ((Int.toNat b)+1)) d) λM=>A.heap (.st M [.int .u8 L]) a λS N=>l [] N) (l [] a)) (A.pa c 1 λO=>k [.i O] a)) (A.pa d 1 λP=>q [.i P] a)) [.i 0] j) (K [.v (.slice (some ⟨g,0,some 11⟩) (Int.toNat b) ((Int.toNat b)+1))] j)) [.i 0] p
def f12:R:=A.k13 ls λa c b d=>A.pq b 4 λe=>A.pr e a λf=>A.pm 4 a λg=>A.pq b g λj=>A.pr b 4 λk=>A.conv .u8 k λl=>A.c0 13 [.i f,.i j,.i l,.i d] h λm n o p=>A.c2 33 [.i a,.i c,.i n,.i o,.i p] m λq r=>K [.i r] q
def f13:R:=A.k13 ls λj k l n=>A.c9 34 [.i j,.i k,.i l,.i n] h λo p q=>A.call 35 [.i j,.i k,.i l] o λr s=>A.k14 r λt u v w x y=>A.loop (λz B m=>A.unI B λa C=>A.k14 C λb c d e f g=>A.cd .lss a 3 (A.opt (inB 3 a) λX=>A.opt (eu [.i b,.i c,.i d,.i e,.i f,.i g] 0 [(a,2)] 2) λD=>A.k9 D λE F=>A.c9 36 [.i p,.i q,.i E,.i F] m λG H I=>A.opt (inB 3 a) λY=>A.opt (putL [.i b,.i c,.i d,.i e,.i f,.i g] 0 [(a,2)] [.i H,.i I]) λJ=>A.k14 J λL M N O P Q=>A.pa a 1 λS=>z [.i S,.i L,.i M,.i N,.i O,.i P,.i Q] G) (A.c0 37 [.i b,.i c,.i d,.i e,.i f,.i g] m λT U V W=>K [.i U,.i V,.i W] T)) [.i 0,.i t,.i u,.i v,.i w,.i x,.i y] s
def f14:R:=A.un0 ls (A.c15 39 [.i 1,.i 1,.i 0,.i 2] h λy z B C D E=>A.new (.cells [.int .u8 z,.int .u8 B,.int .i64 C,.int .i64 D,.int .i64 E] 5 true) y λF G=>A.call 38 [.i 2,.i 1,.v (.slice (some ⟨F,0,some 15⟩) 1 2)] G λH I=>A.k1 H λJ L M=>A.c0 40 [] I λN O P Q=>A.c3 27 [.i J,.i L,.v M,.i O,.i P,.i Q] N λS o T=>A.c15 39 [.i 1,.i 1,.i 0,.i 4] S λU V W X Y Z=>A.c15 39 [.i 2,.i 1,.i 0,.i 4] U λa0 a1 a2 a3 a4 a5=>A.new (.cells [.int .u8 V,.int .u8 W,.int .i64 X,.int .i64 Y,.int .i64 Z,.int .u8 a1,.int .u8 a2,.int .i64 a3,.int .i64 a4,.int .i64 a5] 5 true) a0 λa6 a7=>A.call 38 [.i 2,.i 2,.v (.slice (some ⟨a6,0,some 15⟩) 2 3)] a7 λa8 a9=>A.k1 a8 λb0 b1 b2=>A.c0 40 [] a9 λb3 b4 b5 b6=>A.c3 27 [.i b0,.i b1,.v b2,.i b4,.i b5,.i b6] b3 λe m b7=>A.cd .neq T 0 (K [.b false] e) (A.cd .neq b7 0 (K [.b false] e) (A.ln o λb8=>A.cd .neq b8 8 (K [.b false] e) (A.ln m λb9=>A.cd .neq b9 16 (K [.b false] e) (A.loop (λp c1 n=>A.k2 c1 λc=>A.cd .lss c 16 (A.opt (idS 3 m c) λg=>A.peek (.lg cc 3 g) n λc2=>A.k12 c2 λc4 c5 c6=>A.new (.cells [.int .u8 0,.int .i64 0,.int .i64 0,.int .u8 4,.int .i64 2,.int .i64 0,.int .u8 6,.int .i64 0,.int .i64 2,.int .u8 2,.int .i64 2,.int .i64 2] 3 true) n λj d=>A.pq c 4 λc7=>A.opt (idS 3 (.slice (some ⟨j,0,some 13⟩) 4 5) c7) λc8=>A.peek (.lg cc 3 c8) d λd0=>A.k12 d0 λd1 d2 d3=>A.eqs [(.i c4,.i d1),(.i c5,.i d2),(.i c6,.i d3)] λd4=>A.cond (!d4) (A.opt (Sx.sepL [(.slice (some ⟨j,0,some 13⟩) 4 5,(0,g))]) λt9=>K [.b false] d) (A.cd .lss c 8 (A.ix 3 o c 3 d λd5=>A.k12 d5 λd6 d7 d8=>A.ix 3 m c 3 d λd9=>A.k12 d9 λe0 e1 e2=>A.eqs [(.i d6,.i e0),(.i d7,.i e1),(.i d8,.i e2)] λe3=>A.opt (Sx.sepL [(.slice (some ⟨j,0,some 13⟩) 4 5,(0,g))]) λu0=>A.join (λe4 e5=>A.un0 e4 (A.pa c 1 λe6=>p [.i e6] e5)) λe7=>A.cond (!e3) (K [.b false] d) (e7 [] d)) (A.opt (Sx.sepL [(.slice (some ⟨j,0,some 13⟩) 4 5,(0,g))]) λu1=>A.pa c 1 λe8=>p [.i e8] d))) (A.c15 39 [.i 1,.i 1,.i 0,.i 4] n λe9 f0 f1 f2 f3 f4=>A.c15 39 [.i 2,.i 1,.i 0,.i 4] e9 λf5 f6 f7 f8 f9 g0=>A.new (.cells [.int .u8 f0,.int .u8 f1,.int .i64 f2,.int .i64 f3,.int .i64 f4,.int .u8 f6,.int .u8 f7,.int .i64 f8,.int .i64 f9,.int .i64 g0] 5 true) f5 λg1 g2=>A.call 38 [.i 2,.i 2,.v (.slice (some ⟨g1,0,some 15⟩) 2 3)] g2 λg3 g4=>A.k1 g3 λg5 g6 g7=>A.c0 40 [] g4 λg8 g9 h0 h1=>A.c9 29 [.i g5,.i g6,.v g7,.i g9,.i h0,.i h1] g8 λh2 h3 h4=>A.c15 39 [.i 1,.i 1,.i 0,.i 4] h2 λh5 h6 h7 h8 h9 i0=>A.c15 39 [.i 2,.i 1,.i 0,.i 2] h5 λi1 i2 i3 i4 i5 i6=>A.new (.cells [.int .u8 h6,.int .u8 h7,.int .i64 h8,.int .i64 h9,.int .i64 i0,.int .u8 i2,.int .u8 i3,.int .i64 i4,.int .i64 i5,.int .i64 i6] 5 true) i1 λi7 i8=>A.call 38 [.i 2,.i 2,.v (.slice (some ⟨i7,0,some 15⟩) 2 3)] i8 λi9 j0=>A.k1 i9 λq r s=>A.c0 40 [] j0 λj1 j2 j3 j4=>A.c3 27 [.i q,.i r,.v s,.i j2,.i j3,.i j4] j1 λj5 u2 j6=>A.call 6 [.i q,.i r,.v s] j5 λj7 j8=>A.unI j7 λj9 k0=>A.unI k0 λk3 k5=>A.unB k5 λk6 k8=>A.k2 k8 λk9=>A.c15 39 [.i 3,.i 1,.i 0,.i 2] j8 λl0 l1 l2 l3 l4 l5=>A.new (.cells [.int .u8 l1,.int .u8 l2,.int .i64 l3,.int .i64 l4,.int .i64 l5] 5 true) l0 λl6 l7=>A.call 38 [.i 1,.i 1,.v (.slice (some ⟨l6,0,some 15⟩) 1 2)] l7 λl8 l9=>A.k1 l8 λm0 m1 m2=>A.c0 40 [] l9 λm3 m4 m5 m6=>A.c3 7 [.i m0,.i m1,.v m2,.i m4,.i m5,.i m6] m3 λa f m7=>A.cd .neq h3 4 (K [.b false] a) (A.cd .neq h4 0 (K [.b false] a) (A.cd .neq j6 11 (K [.b false] a) (A.eqs [(.i j9,.i 2),(.i k3,.i 2)] λm8=>A.cond (!m8) (K [.b false] a) (A.cond (!k6) (K [.b false] a) (A.cd .neq k9 0 (K [.b false] a) (A.cd .neq m7 0 (K [.b false] a) (A.ln f λm9=>A.cd .neq m9 4 (K [.b false] a) (A.opt (idS 3 f 0) λn0=>A.opt (fdP 2 n0) λt=>A.chk t (A.peek (.lg cc 1 t) a λn1=>A.k7 n1 λn2=>A.cd .neq n2 0 (K [.b false] a) (A.opt (idS 3 f 1) λn3=>A.opt (fdP 2 n3) λu=>A.chk u (A.peek (.lg cc 1 u) a λn4=>A.k7 n4 λn5=>A.cd .neq n5 0 (K [.b false] a) (A.opt (idS 3 f 2) λn6=>A.opt (fdP 2 n6) λw=>A.chk w (A.peek (.lg cc 1 w) a λn7=>A.k7 n7 λn8=>A.cd .neq n8 3 (K [.b false] a) (A.opt (idS 3 f 3) λn9=>A.opt (fdP 2 n9) λx=>A.chk x (A.peek (.lg cc 1 x) a λo0=>A.k7 o0 λo1=>A.cd .neq o1 3 (K [.b false] a) (A.c15 39 [.i 1,.i 1,.i 0,.i 4] a λo2 o3 o4 o5 o6 o7=>A.c15 39 [.i 3,.i 2,.i 2,.i 4] o2 λo8 o9 p0 p1 p2 p3=>A.c15 39 [.i 4,.i 0,.i 0,.i 2] o8 λp4 p5 p6 p7 p8 p9=>A.new (.cells [.int .u8 o3,.int .u8 o4,.int .i64 o5,.int .i64 o6,.int .i64 o7,.int .u8 o9,.int .u8 p0,.int .i64 p1,.int .i64 p2,.int .i64 p3,.int .u8 p5,.int .u8 p6,.int .i64 p7,.int .i64 p8,.int .i64 p9] 5 true) p4 λq0 q1=>A.call 38 [.i 2,.i 2,.v (.slice (some ⟨q0,0,some 15⟩) 3 4)] q1 λq2 q3=>A.k1 q2 λq4 q5 q6=>A.call 23 [.i q4,.i q5,.v q6,.i 2,.i 2] q3 λq7 q8=>A.unB q7 λq9 r0=>A.k2 r0 λr1=>A.c15 39 [.i 3,.i 2,.i 0,.i 4] q8 λr2 r3 r4 r5 r6 r7=>A.c15 39 [.i 4,.i 0,.i 0,.i 4] r2 λr8 r9 s0 s1 s2 s3=>A.new (.cells [.int .u8 r3,.int .u8 r4,.int .i64 r5,.int .i64 r6,.int .i64 r7,.int .u8 r9,.int .u8 s0,.int .i64 s1,.int .i64 s2,.int .i64 s3] 5 true) r8 λs4 s5=>A.call 38 [.i 2,.i 2,.v (.slice (some ⟨s4,0,some 15⟩) 2 3)] s5 λs6 s7=>A.k1 s6 λs8 s9 t0=>A.call 23 [.i s8,.i s9,.v t0,.i 2,.i 2] s7 λt1 k=>A.unB t1 λt2 t3=>A.k2 t3 λt4=>A.join (λt5 t6=>A.k4 t5 λt7=>K [.b t7] t6) λl=>A.cond q9 (A.cd .eql r1 0 (A.cond t2 (A.cmp .eql t4 0 λt8=>l [.b t8] k) (l [.b false] k)) (l [.b false] k)) (l [.b false] k))))))))))))))))))) [.i 0] e)))))
def f16:R:=A.unI ls λl D=>A.unI D λm E=>A.unV E λf F=>A.unV F λr G=>A.k13 G λs t H I=>A.c5 41 [.i l,.i m] h λJ u=>A.c5 10 [.i l,.i m] J λL n=>A.new (.cells [] 3 true) L λM N=>A.heap (.ap cc 3 24 (.slice (some ⟨M,0,some 13⟩) 0 1) f) N λO P=>A.ucV O λb Q=>A.chk b (A.uc0 Q (A.loop (λS T g=>A.k2 T λd=>A.ln u λU=>A.cd .lss d U (A.ix 3 f d 3 g λV=>A.k12 V λW X Y=>A.ix 3 u d 3 g λZ=>A.k8 Z λa0 a1 a2=>A.c0 43 [.i W,.i X,.i Y,.i a0,.i a1,.i a2] g λa3 a4 a5 a6=>A.c2 42 [.i s,.i t,.i a4,.i a5,.i a6] a3 λo a7=>A.cmp .eql a7 H λa8=>A.join (λa9 b0=>A.un0 a9 (A.pa d 1 λb1=>S [.i b1] b0)) λw=>A.cond a8 (A.ix 3 f d 3 o λb2=>A.k12 b2 λb3 b4 b5=>A.c0 45 [.i s,.i t] o λb6 b7 b8 b9=>A.c0 44 [.i b3,.i b4,.i b5,.i b7,.i b8,.i b9] b6 λc1 c3 c4 c6=>A.opt (idS 3 b d) λc7=>A.heap (.st c7 [.int .u8 c3,.int .i64 c4,.int .i64 c6]) c1 λh8 c8=>w [] c8) (w [] o)) (A.new (.cells [] 1 true) g λc9 d0=>A.heap (.ap cc 1 1 (.slice (some ⟨c9,0,some 11⟩) 0 1) r) d0 λd1 d2=>A.ucV d1 λj d3=>A.chk j (A.uc0 d3 (A.loop (λd4 d5 k=>A.k2 d5 λc=>A.ln n λd6=>A.cd .lss c d6 (A.join (λd7 d8=>A.un0 d7 (A.pa c 1 λd9=>d4 [.i d9] d8)) λp=>A.fx 2 n c 0 1 k λe0=>A.k6 e0 λe=>A.fx 2 n c 1 1 k λe1=>A.k7 e1 λe2=>A.ci e2 λe3=>A.c2 12 [.i l,.i m,.i e,.i e3] k λa x=>A.ix 1 r c 1 a λe4=>A.k7 e4 λe5=>A.cd .neq e5 0 (p [] a) (A.ix 3 b e 3 a λe6=>A.k12 e6 λe7 e8 e9=>A.ix 3 b x 3 a λf0=>A.k12 f0 λf1 f2 f3=>A.eqs [(.i e7,.i f1),(.i e8,.i f2),(.i e9,.i f3)] λf4=>A.cond f4 (p [] a) (A.ix 3 b e 3 a λf5=>A.k12 f5 λf6 f7 f8=>A.ix 3 f e 3 a λf9=>A.k12 f9 λg0 g1 g2=>A.eqs [(.i f6,.i g0),(.i f7,.i g1),(.i f8,.i g2)] λg3=>A.join (λg4 q=>A.k2 g4 λg5=>A.fx 3 b g5 0 1 q λg6=>A.k7 g6 λg7=>A.cmp .gtr g7 3 λg8=>A.join (λg9 h0=>A.k2 g9 λh1=>A.opt (idS 1 j c) λh2=>A.heap (.st h2 [.int .u8 1]) h0 λh9 y=>A.cmp .eql h1 I λh3=>A.join (λh4 h5=>A.un0 h4 (p [] h5)) λz=>A.cond h3 (A.opt (idS 1 j c) λh6=>A.heap (.st h6 [.int .u8 2]) y λi0 h7=>z [] h7) (z [] y)) λB=>A.cond g8 (B [.i 0] q) (B [.i 1] q)) λC=>A.cond (!g3) (C [.i x] a) (C [.i e] a)))) (K [.v b,.v j] k)) [.i 0] d2)))) [.i 0] P))
def f17:R:=A.k9 ls λa b=>A.ari .rem .u8 a 4 λc=>A.ari .add .u8 1 c λd=>A.ari .rem .i8 b 9 λe=>A.ci e λf=>K [.i d,.i f] h
def f18:R:=A.k1 ls λj k f=>A.c5 10 [.i j,.i k] h λo g=>A.join (λp q=>A.k1 p λr s t=>K [.i r,.i s,.v t] q) λl=>A.loop (λu w a=>A.unI w λb x=>A.k1 x λc d e=>A.ln g λy=>A.cd .lss b y (A.ln f λz=>A.cd .lss b z (A.ix 1 f b 1 a λB=>A.k7 B λC=>A.cmp .neq C 0 λD=>A.join (λE F=>A.k1 E λG H I=>A.pa b 1 λJ=>u [.i J,.i G,.i H,.v I] F) λm=>A.cond D (A.fx 2 g b 0 1 a λL=>A.k6 L λM=>A.fx 2 g b 1 1 a λN=>A.k7 N λO=>A.ix 1 f b 1 a λP=>A.k7 P λQ=>A.new (.cells [.int .i64 M,.int .u8 O,.int .u8 Q] 3 true) a λS T=>A.heap (.ap cc 3 16 e (.slice (some ⟨S,0,some 13⟩) 1 2)) T λU V=>A.ucV U λn W=>A.chk n (A.uc0 W (m [.i c,.i d,.v n] V))) (m [.i c,.i d,.v e] a)) (l [.i c,.i d,.v e] a)) (l [.i c,.i d,.v e] a)) [.i 0,.i j,.i k,.v (.slice none 0 0)] o
def f19:R:=A.k1 ls λf g a=>A.c2 46 [.i f,.i g] h λj k=>A.cd .neq k 0 (K [.i k] j) (A.c4 47 [.v a,.v (.func (.func 48) ⟨[]⟩ ⟨[]⟩)] j λl s=>A.cond s (K [.i 1] l) (A.ln a λt=>A.loop (λu w c=>A.k2 w λd=>A.cd .lss d t (A.ix 3 a d 3 c λx=>A.k16 x λm n y=>A.c0 50 [.i f,.i g,.i m,.i n] c λo z B C=>A.cd .neq C 0 (K [.i 7] o) (A.c9 51 [.i m,.i n,.i y] o λp D E=>A.eqs [(.i z,.i D),(.i B,.i E)] λF=>A.cond (!F) (K [.i 7] p) (A.pa d 1 λG=>u [.i G] p))) (A.loop (λH I e=>A.k2 I λb=>A.ln a λJ=>A.cd .lss b J (A.ps b 1 λL=>A.ix 3 a L 3 e λM=>A.k16 M λN O P=>A.c9 51 [.i N,.i O,.i P] e λq Q S=>A.ix 3 a b 3 q λT=>A.k16 T λU V W=>A.c9 51 [.i U,.i V,.i W] q λX Y Z=>A.c2 52 [.i Q,.i S,.i Y,.i Z] X λr a0=>A.cd .geq a0 0 (K [.i 6] r) (A.pa b 1 λa1=>H [.i a1] r)) (K [.i 0] e)) [.i 1] c)) [.i 0] l))
def f20:R:=A.k9 ls λa b=>A.c3 53 [.i a,.i b] h λc d e=>K [.v d,.i e] c
def f21:R:=A.unV ls λd f=>A.k5 f λg=>A.ln d λj=>A.loop (λk l c=>A.k2 l λa=>A.cd .lss a j (A.ix 2 d a 2 c λm=>A.k10 m λn o=>A.callv g [.agg ⟨[.int .i64 n,.int .i64 o]⟩] [.leaf .b] c λp e=>A.k4 p λq=>A.cond q (K [.i a] e) (A.pa a 1 λr=>k [.i r] e)) (K [.i (-1)] c)) [.i 0] h
def f22:R:=A.k1 ls λc d e=>A.peek (.lg cc 3 e) h λf=>A.ucI .i64 f λg j=>A.ucI .i64 j λk l=>A.ucV l λa m=>A.chk a (A.uc0 m (A.call 23 [.i g,.i k,.v a,.i c,.i d] h λn o=>A.unB n λp q=>A.k2 q λr=>K [.b (!p)] o))
def f23:R:=A.unI ls λn o=>A.unI o λp q=>A.unV q λr s=>A.k9 s λe f=>A.c3 54 [.i n,.i p,.v r,.i e,.i f] h λg j k=>A.cd .neq k 0 (K [.b false,.i k] g) (A.new (.cells [.int .u8 0,.int .i64 0,.int .i64 0] 3 true) g λc t=>A.chk (.func (.func 55) ⟨[.pointer (some ⟨c,0,none⟩)]⟩ ⟨[]⟩) (A.ln j λu=>A.loop (λw x a=>A.k2 x λd=>A.cd .lss d u (A.ix 2 j d 2 a λy=>A.k17 y λz U=>A.pr z 4 λl=>A.opt (inB 4 l) λV=>A.opt (eu [.i 2,.i 4,.i 1,.i 3] 0 [(l,1)] 1) λB=>A.k2 B λC=>A.c0 56 [.i C,.i e,.i f] a λD E F W=>A.callv (.func (.func 55) ⟨[.pointer (some ⟨c,0,none⟩)]⟩ ⟨[]⟩) [.agg ⟨[.int .u8 E,.int .i64 F]⟩] [] D λG H=>A.un0 G (A.pa d 1 λI=>w [.i I] H)) (A.opt (fdP 0 (.pointer (some ⟨c,0,none⟩))) λm=>A.chk m (A.peek (.lg cc 3 m) a λJ=>A.k12 J λL M N=>A.c0 40 [] a λO P Q S=>A.eqs [(.i L,.i P),(.i M,.i Q),(.i N,.i S)] λT=>K [.b T,.i 0] O))) [.i 0] t))
def f24:R:=A.k11 ls λd e j k l m=>A.c2 19 [.i d,.i e,.v j] h λn o=>A.cd .neq o 0 (K [.v (.slice none 0 0),.v (.slice none 0 0),.i o] n) (A.c2 57 [.i k,.i l,.i m] n λp x=>A.cd .neq x 0 (K [.v (.slice none 0 0),.v (.slice none 0 0),.i 1] p) (A.c3 58 [.i d,.i e,.v j] p λq c r=>A.cd .neq r 0 (K [.v (.slice none 0 0),.v (.slice none 0 0),.i r] q) (A.ln c λa=>A.opt (mkOk a a) λa2=>A.new (.cells (aV [.int .i64 0,.int .i64 0,.int .u8 0] (Int.toNat a)) 3 true) q λs y=>A.ln c λz=>A.loop (λB C f=>A.k2 C λb=>A.cd .lss b z (A.ix 3 c b 3 f λD=>A.k12 D λE F G=>A.c13 59 [.i d,.i e,.i b] f λH I J L a3=>A.c13 60 [.i E,.i F,.i G,.i k,.i l,.i m] H λM N O P t=>A.opt (idS 3 c b) λQ=>A.heap (.st Q [.int .u8 N,.int .i64 O,.int .i64 P]) M λa4 g=>A.cd .neq t 0 (K [.v (.slice none 0 0),.v (.slice none 0 0),.i t] g) (A.ix 3 c b 3 g λS=>A.k12 S λT U V=>A.c13 61 [.i T,.i U,.i V,.i I,.i J,.i L] g λW X Y Z u=>A.opt (idS 3 (.slice (some ⟨s,0,some 13⟩) (Int.toNat a) ((Int.toNat a)+1)) b) λa0=>A.heap (.st a0 [.int .i64 X,.int .i64 Y,.int .u8 Z]) W λa5 w=>A.cd .neq u 0 (K [.v (.slice none 0 0),.v (.slice none 0 0),.i u] w) (A.pa b 1 λa1=>B [.i a1] w))) (K [.v c,.v (.slice (some ⟨s,0,some 13⟩) (Int.toNat a) ((Int.toNat a)+1)),.i 0] f)) [.i 0] y)))
def f25:R:=A.k0 ls λa e f=>A.join (λg j=>A.k4 g λk=>K [.b k] j) λc=>A.c2 57 [.i a,.i e,.i f] h λd l=>A.cd .eql l 0 (A.cmp .geq a 4 λm=>c [.b m] d) (c [.b false] d)
def f26:R:=A.k11 ls λe f g j k l=>A.c2 62 [.i j,.i k,.i l] h λm p=>A.cd .eql p 0 (K [.v (.slice none 0 0),.i 1] m) (A.c3 63 [.i e,.i f,.v g,.i j,.i k,.i l] m λn a q=>A.cd .eql q 0 (K [.v (.slice none 0 0),.i 11] n) (A.c5 30 [.i e,.i f,.v g,.v a] n λr s=>A.loop (λt u c=>A.k2 u λb=>A.ln a λw=>A.cd .lss b w (A.ix 3 a b 3 c λx=>A.k12 x λy z B=>A.c2 62 [.i y,.i z,.i B] c λd C=>A.cd .eql C 0 (K [.v (.slice none 0 0),.i 3] d) (A.ix 3 s b 3 d λD=>A.k8 D λE F G=>A.c2 64 [.i E,.i F,.i G] d λo H=>A.cd .eql H 0 (K [.v (.slice none 0 0),.i 3] o) (A.pa b 1 λI=>t [.i I] o))) (K [.v a,.i 0] c)) [.i 0] r))
def f27:R:=A.k11 ls λa b c d e f=>A.call 24 [.i a,.i b,.v c,.i d,.i e,.i f] h λg j=>A.unV g λk l=>A.k3 l λn m=>K [.v k,.i m] j
def f28:R:=A.k11 ls λc d e f g j=>A.c3 7 [.i c,.i d,.v e,.i f,.i g,.i j] h λa k b=>A.cd .neq b 0 (K [.v (.slice none 0 0),.i b] a) (A.c3 65 [.v k] a λl m n=>K [.v m,.i n] l)
def f29:R:=A.k11 ls λo p q r s t=>A.c3 7 [.i o,.i p,.v q,.i r,.i s,.i t] h λj k l=>A.cd .neq l 0 (K [.i 0,.i l] j) (A.new (.map [] 0) j λa u=>A.ln k λw=>A.loop (λx y b=>A.k9 y λc d=>A.cd .lss d w (A.ix 3 k d 3 b λz=>A.k8 z λe f g=>A.peek (.fn (luG cc 59 false (.int .i64 0) (.map (some a)) (.agg ⟨[.int .i64 e,.int .i64 f,.int .u8 g]⟩) false)) b λB=>A.k6 B λC=>A.pa C 1 λD=>A.heap (.fn (meG cc 59 false (.int .i64 0) (.map (some a)) (.agg ⟨[.int .i64 e,.int .i64 f,.int .u8 g]⟩))) b λE F=>A.k10 E λM G=>A.heap (.fn (esG (.map (some a)) G (.int .i64 D))) F λN m=>A.peek (.fn (luG cc 59 false (.int .i64 0) (.map (some a)) (.agg ⟨[.int .i64 e,.int .i64 f,.int .u8 g]⟩) false)) m λH=>A.k6 H λn=>A.cmp .lss c n λI=>A.sel I n c λJ=>A.pa d 1 λL=>x [.i J,.i L] m) (K [.i c,.i 0] b)) [.i 0,.i 0] u)
def f30:R:=A.unI ls λf g=>A.unI g λj k=>A.unV k λM l=>A.k5 l λm=>A.c5 41 [.i f,.i j] h λn c=>A.loop (λo p a=>A.k3 p λd b=>A.ln c λq=>A.cd .lss b q (A.ix 3 m b 3 a λr=>A.k12 r λs t u=>A.ix 3 c b 3 a λw=>A.k8 w λx y z=>A.c0 43 [.i s,.i t,.i u,.i x,.i y,.i z] a λB C D E=>A.new (.cells [.int .i64 C,.int .i64 D,.int .u8 E] 3 true) B λF G=>A.heap (.ap cc 3 24 d (.slice (some ⟨F,0,some 13⟩) 1 2)) G λH I=>A.ucV H λe J=>A.chk e (A.uc0 J (A.pa b 1 λL=>o [.v e,.i L] I))) (K [.v d] a)) [.v (.slice none 0 0),.i 0] n
def f31:R:=A.unV ls λa c=>A.k5 c λd=>A.c4 66 [.v a,.v d] h λe f=>K [.b f] e
def f32:R:=A.k5 ls λc=>A.loop (λe f a=>A.k3 f λd b=>A.ln c λg=>A.cd .lss b g (A.ix 3 c b 3 a λj=>A.k8 j λk l m=>A.c5 67 [.v d,.i k,.i l,.i m] a λn o=>A.pa b 1 λp=>e [.v o,.i p] n) (K [.v d] a)) [.v (.slice none 0 0),.i 0] h
def f33:R:=A.k15 ls λc e a b d=>A.cd .lss a 0 (K [.i (-1)] h) (A.cd .lss b 0 (K [.i (-1)] h) (A.cd .geq a c (K [.i (-1)] h) (A.cd .geq b e (K [.i (-1)] h) (A.cd .gtr d 3 (K [.i (-1)] h) (A.pm 4 c λf=>A.pm f b λg=>A.pm 4 a λj=>A.pa g j λk=>A.ci d λl=>A.pa k l λm=>K [.i m] h)))))
def f34:R:=A.k13 ls λv w x d=>A.call 35 [.i v,.i w,.i x] h λy z=>A.k14 y λe f g j k l=>A.pa d 1 λB=>A.pr B 3 λm=>A.opt (inB 3 m) λa1=>A.opt (eu [.i e,.i f,.i g,.i j,.i k,.i l] 0 [(m,2)] 2) λC=>A.k9 C λn o=>A.pa d 2 λD=>A.pr D 3 λp=>A.opt (inB 3 p) λa2=>A.opt (eu [.i e,.i f,.i g,.i j,.i k,.i l] 0 [(p,2)] 2) λE=>A.k9 E λF G=>A.loop (λH I q=>A.k0 I λa r s=>A.cd .leq a 4 (A.c9 68 [.i a] q λt b c=>A.pm b n λJ=>A.pm c o λL=>A.pa J L λM=>A.pm b F λN=>A.pm c G λO=>A.pa N O λP=>A.cmp .eql M P λQ=>A.join (λS T=>A.k9 S λU V=>A.ari .add .u8 a 1 λW=>H [.i W,.i U,.i V] T) λu=>A.cond Q (A.pm b n λX=>A.pm c o λY=>A.pa X Y λZ=>A.pq Z 2 λa0=>u [.i a,.i a0] t) (u [.i r,.i s] t)) (K [.i r,.i s] q)) [.i 1,.i 0,.i 0] z
def f35:R:=A.k0 ls λo p d=>A.pm 2 o λa=>A.pm 2 p λb=>A.pa a 2 λe=>A.pa a 2 λf=>A.pa b 2 λg=>A.pa b 2 λj=>A.ci d λc=>A.ci d λq=>A.pa q 1 λr=>A.pr r 4 λk=>A.pr c 2 λs=>A.cmp .eql s 1 λt=>A.join (λu v=>A.k9 u λl m=>A.pa a 1 λw=>A.pa b 1 λx=>A.opt (inB 4 l) λF=>A.opt (eu [.i a,.i b,.i e,.i b,.i f,.i g,.i a,.i j] 0 [(l,2)] 2) λy=>A.k9 y λz B=>A.opt (inB 4 m) λG=>A.opt (eu [.i a,.i b,.i e,.i b,.i f,.i g,.i a,.i j] 0 [(m,2)] 2) λC=>A.k9 C λD E=>K [.i w,.i x,.i z,.i B,.i D,.i E] v) λn=>A.cond t (n [.i k,.i c] h) (n [.i c,.i k] h)
def f36:R:=A.k13 ls λc g d e=>A.c9 68 [.i c] h λj a b=>A.c2 69 [.i c,.i g,.i d,.i e] j λk l=>A.pm 2 l λm=>A.pm a a λn=>A.pm b b λo=>A.pa n o λp=>A.pq m p λf=>A.pm f a λq=>A.ps d q λr=>A.pm f b λs=>A.ps e s λt=>K [.i r,.i t] k
def f37:R:=A.k14 ls λj k l m n o=>A.loop (λE F d=>A.k2 F λc=>A.cd .lss c 3 (A.join (λG H=>A.un0 G (A.pa c 1 λI=>E [.i I] H)) λp=>A.opt (inB 3 c) λb2=>A.opt (eu [.i j,.i k,.i l,.i m,.i n,.i o] 0 [(c,2)] 2) λJ=>A.k9 J λy z=>A.pa c 1 λL=>A.pr L 3 λB=>A.opt (inB 3 B) λb3=>A.opt (eu [.i j,.i k,.i l,.i m,.i n,.i o] 0 [(B,2)] 2) λM=>A.k9 M λq r=>A.pa c 2 λN=>A.pr N 3 λC=>A.opt (inB 3 C) λb4=>A.opt (eu [.i j,.i k,.i l,.i m,.i n,.i o] 0 [(C,2)] 2) λO=>A.k9 O λs t=>A.pr y 2 λP=>A.cd .eql P 0 (p [] d) (A.pr z 2 λQ=>A.cd .eql Q 0 (p [] d) (A.loop (λe S D=>A.k2 S λa=>A.cd .lss a 4 (A.ps y 1 λT=>A.pq T 2 λf=>A.ps z 1 λU=>A.pq U 2 λg=>A.call 35 [.i f,.i g,.i a] D λV b=>A.k14 V λb5 b6 u v w x=>A.eqs [(.i u,.i q),(.i v,.i r)] λW=>A.cond W (A.eqs [(.i w,.i s),(.i x,.i t)] λX=>A.cond X (K [.i f,.i g,.i a] b) (A.eqs [(.i u,.i s),(.i v,.i t)] λY=>A.cond Y (A.eqs [(.i w,.i q),(.i x,.i r)] λZ=>A.join (λa0 a1=>A.un0 a0 (A.ari .add .u8 a 1 λa2=>e [.i a2] a1)) λa3=>A.cond Z (K [.i f,.i g,.i a] b) (a3 [] b)) (A.ari .add .u8 a 1 λa4=>e [.i a4] b))) (A.eqs [(.i u,.i s),(.i v,.i t)] λa5=>A.cond a5 (A.eqs [(.i w,.i q),(.i x,.i r)] λa6=>A.join (λa7 a8=>A.un0 a7 (A.ari .add .u8 a 1 λa9=>e [.i a9] a8)) λb0=>A.cond a6 (K [.i f,.i g,.i a] b) (b0 [] b)) (A.ari .add .u8 a 1 λb1=>e [.i b1] b))) (p [] D)) [.i 0] d))) (K [.i 0,.i 0,.i 4] d)) [.i 0] h
def f38:R:=A.k1 ls λa b c=>A.call 70 [.i a,.i b,.v c] h λd e=>A.unI d λf g=>A.unI g λj k=>A.unV k λl m=>A.k9 m λn o=>K [.i f,.i j,.v l] e
def f39:R:=A.k13 ls λa b c d=>K [.i 1,.i a,.i b,.i c,.i d] h
def f40:R:=A.un0 ls (K [.i 0,.i 0,.i 0] h)
def f41:R:=A.k9 ls λm n=>A.loop (λo p d=>A.k3 p λe a=>A.cd .lss a n (A.loop (λq r f=>A.k3 r λg b=>A.cd .lss b m (A.loop (λs t j=>A.k3 t λk c=>A.cd .lss c 4 (A.new (.cells [.int .i64 b,.int .i64 a,.int .u8 c] 3 true) j λu w=>A.heap (.ap cc 3 24 k (.slice (some ⟨u,0,some 13⟩) 1 2)) w λx y=>A.ucV x λl z=>A.chk l (A.uc0 z (A.ari .add .u8 c 1 λB=>s [.v l,.i B] y))) (A.pa b 1 λC=>q [.v k,.i C] j)) [.v g,.i 0] f) (A.pa a 1 λD=>o [.v g,.i D] f)) [.v e,.i 0] d) (K [.v e] d)) [.v (.slice none 0 0),.i 0] h
def f42:R:=A.k15 ls λa b d e f=>A.call 35 [.i d,.i e,.i f] h λg j=>A.k14 g λk l m n o p=>A.c2 69 [.i a,.i b,.i k,.i l] j λq r=>A.c2 69 [.i a,.i b,.i m,.i n] q λs t=>A.pa r t λu=>A.c2 69 [.i a,.i b,.i o,.i p] s λc v=>A.pa u v λw=>A.cd .gtr w 0 (K [.i 1] c) (K [.i 0] c)
def f43:R:=A.k14 ls λk l m n o p=>A.call 35 [.i n,.i o,.i p] h λq r=>A.k14 q λs t u v w x=>A.loop (λy z j=>A.unI z λa B=>A.k14 B λb c d e f g=>A.cd .lss a 3 (A.opt (inB 3 a) λW=>A.opt (eu [.i b,.i c,.i d,.i e,.i f,.i g] 0 [(a,2)] 2) λC=>A.k9 C λD E=>A.c9 71 [.i k,.i l,.i m,.i D,.i E] j λF G H=>A.opt (inB 3 a) λX=>A.opt (putL [.i b,.i c,.i d,.i e,.i f,.i g] 0 [(a,2)] [.i G,.i H]) λI=>A.k14 I λJ L M N O P=>A.pa a 1 λQ=>y [.i Q,.i J,.i L,.i M,.i N,.i O,.i P] F) (A.c0 37 [.i b,.i c,.i d,.i e,.i f,.i g] j λS T U V=>K [.i T,.i U,.i V] S)) [.i 0,.i s,.i t,.i u,.i v,.i w,.i x] r
def f44:R:=A.k14 ls λa b c d e f=>A.c9 71 [.i a,.i b,.i c,.i 0,.i 0] h λg j k=>A.c9 71 [.i d,.i e,.i f,.i j,.i k] g λl m n=>A.c9 71 [.i a,.i b,.i c,.i 2,.i 0] l λo p q=>A.c9 71 [.i d,.i e,.i f,.i p,.i q] o λr s t=>A.c9 71 [.i a,.i b,.i c,.i 0,.i 2] r λu v w=>A.c9 71 [.i d,.i e,.i f,.i v,.i w] u λx y z=>A.c0 72 [.i m,.i n,.i s,.i t,.i y,.i z] x λB C D E=>K [.i C,.i D,.i E] B
def f45:R:=A.k9 ls λa b=>A.c9 36 [.i a,.i b,.i 0,.i 0] h λc d e=>A.c9 36 [.i a,.i b,.i 2,.i 0] c λf g j=>A.c9 36 [.i a,.i b,.i 0,.i 2] f λk l m=>A.c0 72 [.i d,.i e,.i g,.i j,.i l,.i m] k λn o p q=>K [.i o,.i p,.i q] n
def f46:R:=A.k9 ls λa b=>A.cd .lss a 1 (K [.i 1] h) (A.cd .lss b 1 (K [.i 1] h) (A.cd .gtr a 256 (K [.i 1] h) (A.cd .gtr b 256 (K [.i 1] h) (A.pm a b λc=>A.cd .gtr c 256 (K [.i 1] h) (K [.i 0] h)))))
def f47:R:=A.unV ls λa c=>A.k5 c λd=>A.c2 73 [.v a,.v d] h λe f=>A.cmp .geq f 0 λg=>K [.b g] e
def f48:R:=A.k0 ls λe f a=>A.c4 49 [.i a] h λc d=>K [.b (!d)] c
def f49:R:=A.k2 ls λa=>A.join (λd e=>A.k4 d λf=>K [.b f] e) λc=>A.cd .geq a 1 (A.cmp .leq a 3 λg=>c [.b g] h) (c [.b false] h)
def f50:R:=A.k13 ls λf g a b=>A.c9 74 [.i f,.i g,.i a,.i b] h λc d e=>A.cd .neq e 0 (K [.i 0,.i 0,.i e] c) (A.cmp .lss d a λj=>A.sel j d a λk=>K [.i k,.i b,.i 0] c)
def f51:R:=A.k0 ls λa b c=>K [.i a,.i b] h
def f52:R:=A.k13 ls λa c b d=>A.cd .neq a b (A.ps a b λe=>K [.i e] h) (A.ci c λf=>A.ci d λg=>A.ps f g λj=>K [.i j] h)
def f53:R:=A.k9 ls λe f=>A.c2 46 [.i e,.i f] h λg j=>A.cd .neq j 0 (K [.v (.slice none 0 0),.i j] g) (A.loop (λo p k=>A.k3 p λl a=>A.pm 2 f λq=>A.cd .lss a q (A.loop (λr s c=>A.k3 s λd b=>A.pm 2 e λt=>A.cd .lss b t (A.pr b 2 λu=>A.pr a 2 λw=>A.cmp .eql u w λx=>A.join (λy z=>A.k5 y λB=>A.pa b 1 λC=>r [.v B,.i C] z) λm=>A.cond x (A.new (.cells [.int .i64 b,.int .i64 a] 2 true) c λD E=>A.heap (.ap cc 2 16 d (.slice (some ⟨D,0,some 12⟩) 1 2)) E λF G=>A.ucV F λn H=>A.chk n (A.uc0 H (m [.v n] G))) (m [.v d] c)) (A.pa a 1 λI=>o [.v d,.i I] c)) [.v l,.i 1] k) (A.c5 75 [.v l] k λJ L=>K [.v L,.i 0] J)) [.v (.slice none 0 0),.i 1] g)
def f54:R:=A.unI ls λt u=>A.unI u λw x=>A.unV x λy z=>A.k9 z λe f=>A.new (.cells [.int .i64 t,.int .i64 w,y] 3 true) h λa g=>A.peek (.lg cc 3 (.pointer (some ⟨a,0,none⟩))) g λB=>A.ucI .i64 B λC D=>A.ucI .i64 D λE F=>A.ucV F λj G=>A.chk j (A.uc0 G (A.c2 19 [.i C,.i E,.v j] g λb k=>A.cd .neq k 0 (K [.v (.slice none 0 0),.i k] b) (A.opt (fdP 0 (.pointer (some ⟨a,0,none⟩))) λl=>A.chk l (A.peek (.lg cc 2 l) b λH=>A.k10 H λI J=>A.c2 76 [.i I,.i J,.i e,.i f] b λm n=>A.cd .neq n 0 (K [.v (.slice none 0 0),.i n] m) (A.new (.cells [.slice none 0 0] 1 true) m λc o=>A.opt (fdP 0 (.pointer (some ⟨a,0,none⟩))) λp=>A.chk p (A.peek (.lg cc 2 p) o λL=>A.k10 L λM N=>A.c5 77 [.i M,.i N,.i e,.i f] o λO P=>A.rfun 864 P [.pointer (some ⟨a,0,none⟩),.pointer (some ⟨c,0,none⟩)] O λQ d=>A.pend Q (A.peek (.lg cc 1 (.pointer (some ⟨c,0,none⟩))) d λS=>A.ucV S λq T=>A.chk q (A.uc0 T (A.call 79 [.v q,.v (.func (.func 80) ⟨[]⟩ ⟨[]⟩)] d λU r=>A.un0 U (A.peek (.lg cc 1 (.pointer (some ⟨c,0,none⟩))) r λV=>A.ucV V λs W=>A.chk s (A.uc0 W (A.c5 81 [.v s] r λX Y=>K [.v Y,.i 0] X)))))) (K [.v (.slice none 0 0),.i 0] d) []))))))
def f55:R:=A.unV ls λa g=>A.k9 g λj k=>A.c13 82 [.i j,.i k] h λb l m n x=>A.opt (nilP a) λc=>A.chk c (A.opt (fdP 0 c) λd=>A.chk d (A.peek (.lg cc 3 d) b λo=>A.k12 o λp q r=>A.c13 60 [.i p,.i q,.i r,.i l,.i m,.i n] b λs t u v y=>A.opt (nilP a) λe=>A.chk e (A.opt (fdP 0 e) λf=>A.chk f (A.heap (.st f [.int .u8 t,.int .i64 u,.int .i64 v]) s λz w=>K [] w))))
def f56:R:=A.k0 ls λa b c=>A.cd .lss a 1 (K [.i 0,.i 0,.i 1] h) (A.cd .gtr a 4 (K [.i 0,.i 0,.i 1] h) (A.c2 83 [.i b,.i c] h λd k=>A.cd .neq k 0 (K [.i 0,.i 0,.i 1] d) (A.c2 84 [.i a,.i b,.i c] d λe f=>A.pq f 2 λg=>A.pr f 2 λl=>A.cd .neq l 0 (K [.i 0,.i 0,.i 7] e) (A.c2 85 [.i a,.i g] e λj m=>A.cd .neq m 0 (K [.i 0,.i 0,.i 3] j) (K [.i a,.i g,.i 0] j)))))
def f57:R:=A.k0 ls λe b c=>A.ci e λf=>A.cd .geq f 8 (K [.i 1] h) (A.c4 86 [.i b] h λd g=>A.cond g (K [.i 1] d) (A.c4 86 [.i c] d λa j=>A.cond j (K [.i 1] a) (A.pa b c λk=>A.pr k 2 λl=>A.cd .neq l 0 (K [.i 1] a) (K [.i 0] a))))
def f58:R:=A.k1 ls λM N O=>A.new (.cells [.int .i64 M,.int .i64 N,O] 3 true) h λc q=>A.peek (.lg cc 3 (.pointer (some ⟨c,0,none⟩))) q λP=>A.ucI .i64 P λQ S=>A.ucI .i64 S λT U=>A.ucV U λr V=>A.chk r (A.uc0 V (A.c5 87 [.i Q,.i T,.v r] q λW X=>A.new (.cells [.map none] 1 true) W λm Y=>A.heap (.st (.pointer (some ⟨m,0,none⟩)) [X]) Y λf8 s=>A.opt (fdP 0 (.pointer (some ⟨c,0,none⟩))) λt=>A.chk t (A.peek (.lg cc 2 t) s λZ=>A.k10 Z λa0 a1=>A.c2 88 [.i a0,.i a1] s λa2 d=>A.opt (mkOk d d) λf9=>A.new (.cells (aV [.int .u8 0,.int .i64 0,.int .i64 0] (Int.toNat d)) 3 true) a2 λa3 a4=>A.new (.cells [.slice none 0 0] 1 true) a4 λb a5=>A.heap (.st (.pointer (some ⟨b,0,none⟩)) [.slice (some ⟨a3,0,some 13⟩) (Int.toNat d) ((Int.toNat d)+1)]) a5 λg0 u=>A.peek (.lg cc 1 (.pointer (some ⟨b,0,none⟩))) u λa6=>A.ucV a6 λw a7=>A.chk w (A.uc0 a7 (A.ln w λa=>A.opt (mkOk a a) λg1=>A.new (.cells (aV [.bool false] (Int.toNat a)) 1 true) u λn a8=>A.chk (.func (.func 89) ⟨[]⟩ ⟨[.pointer (some ⟨c,0,none⟩),.pointer (some ⟨m,0,none⟩),.pointer (some ⟨b,0,none⟩)]⟩) (A.opt (idS 1 (.slice (some ⟨n,0,some 11⟩) (Int.toNat a) ((Int.toNat a)+1)) 0) λa9=>A.heap (.st a9 [.bool true]) a8 λg2 b0=>A.new (.cells [.int .i64 0] 1 true) b0 λb1 b2=>A.loop (λb3 b4 f=>A.k5 b4 λo=>A.ln o λb5=>A.cd .gtr b5 0 (A.opt (idS 1 o 0) λb6=>A.peek (.lg cc 1 b6) f λb7=>A.k6 b7 λx=>A.opt (slS 1 o (some 1) none none) λy=>A.chk y (A.loop (λb8 b9 p=>A.k3 b9 λg j=>A.cd .lss j 3 (A.join (λc0 c1=>A.k5 c0 λc3=>A.ari .add .u8 j 1 λc4=>b8 [.v c3,.i c4] c1) λz=>A.opt (fdP 0 (.pointer (some ⟨c,0,none⟩))) λB=>A.chk B (A.peek (.lg cc 2 B) p λc6=>A.k10 c6 λc7 c8=>A.c9 74 [.i c7,.i c8,.i x,.i j] p λC e d0=>A.cd .neq d0 0 (z [.v g] C) (A.callv (.func (.func 89) ⟨[]⟩ ⟨[.pointer (some ⟨c,0,none⟩),.pointer (some ⟨m,0,none⟩),.pointer (some ⟨b,0,none⟩)]⟩) [.int .i64 x,.int .u8 j] [.agg [.i .u8,.i .i64,.i .i64]] C λd1 k=>A.k0 d1 λD E F=>A.opt (idS 1 (.slice (some ⟨n,0,some 11⟩) (Int.toNat a) ((Int.toNat a)+1)) e) λd2=>A.peek (.lg cc 1 d2) k λd3=>A.ucB d3 λd4 d5=>A.uc0 d5 (A.join (λd6 l=>A.k5 d6 λd7=>A.peek (.lg cc 1 (.pointer (some ⟨b,0,none⟩))) l λd8=>A.ucV d8 λG d9=>A.chk G (A.uc0 d9 (A.ix 3 G e 3 l λe0=>A.k12 e0 λe1 e2 e3=>A.eqs [(.i e1,.i D),(.i e2,.i E),(.i e3,.i F)] λe4=>A.cond (!e4) (K [.v (.slice none 0 0),.i 11] l) (z [.v d7] l)))) λH=>A.cond (!d4) (A.peek (.lg cc 1 (.pointer (some ⟨b,0,none⟩))) k λe5=>A.ucV e5 λI e6=>A.chk I (A.uc0 e6 (A.opt (idS 3 I e) λe7=>A.heap (.st e7 [.int .u8 D,.int .i64 E,.int .i64 F]) k λg3 e8=>A.opt (idS 1 (.slice (some ⟨n,0,some 11⟩) (Int.toNat a) ((Int.toNat a)+1)) e) λe9=>A.heap (.st e9 [.bool true]) e8 λg4 f0=>A.new (.cells [.int .i64 e] 1 true) f0 λf1 f2=>A.heap (.ap cc 1 8 g (.slice (some ⟨f1,0,some 11⟩) 1 2)) f2 λf3 f4=>A.ucV f3 λJ f5=>A.chk J (A.uc0 f5 (H [.v J] f4))))) (H [.v g] k))))) (b3 [.v g] p)) [.v y,.i 0] f)) (A.peek (.lg cc 1 (.pointer (some ⟨b,0,none⟩))) f λf6=>A.ucV f6 λL f7=>A.chk L (A.uc0 f7 (K [.v L,.i 0] f)))) [.v (.slice (some ⟨b1,0,some 11⟩) 1 2)] b2))))))
def f59:R:=A.k0 ls λa b c=>A.c2 46 [.i a,.i b] h λd e=>A.cd .neq e 0 (K [.i 0,.i 0,.i 0,.i e] d) (A.c4 91 [.i a,.i b,.i c] d λf g=>A.cond (!g) (K [.i 0,.i 0,.i 0,.i 7] f) (A.c0 92 [.i a,.i b,.i c] f λj k l m=>K [.i k,.i l,.i m,.i 0] j))
def f60:R:=A.k14 ls λb c d a e f=>A.c2 57 [.i b,.i c,.i d] h λg k=>A.cd .neq k 0 (K [.i 0,.i 0,.i 0,.i 1] g) (A.c2 57 [.i a,.i e,.i f] g λj l=>A.cd .neq l 0 (K [.i 0,.i 0,.i 0,.i 1] j) (A.opt (inB 8 a) λa1=>A.opt (mE gl0 0 [(a,4)] 4) λm=>A.ucI .i64 m λn o=>A.ucI .i64 o λp q=>A.k10 q λr s=>A.c9 93 [.i n,.i p,.i r,.i s,.i c,.i d] j λt u v=>A.opt (inB 8 b) λa2=>A.opt (mE gl0 0 [(b,4)] 4) λw=>A.ucI .i64 w λx y=>A.ucI .i64 y λz B=>A.k10 B λC D=>A.opt (inB 8 a) λa3=>A.opt (mE gl0 0 [(a,4)] 4) λE=>A.ucI .i64 E λF G=>A.ucI .i64 G λH I=>A.k10 I λJ L=>A.c13 96 [.i x,.i z,.i C,.i D,.i F,.i H,.i J,.i L] t λM N O P Q=>A.c2 95 [.i N,.i O,.i P,.i Q] M λS T=>A.pa u e λU=>A.pa v f λV=>A.c13 94 [.i T,.i U,.i V] S λW X Y Z a0=>K [.i X,.i Y,.i Z,.i a0] W))
def f61:R:=A.k14 ls λa b c d e f=>A.c2 57 [.i a,.i b,.i c] h λg o=>A.cd .neq o 0 (K [.i 0,.i 0,.i 0,.i 1] g) (A.c2 97 [.i d,.i e,.i f] g λj p=>A.cd .neq p 0 (K [.i 0,.i 0,.i 0,.i 1] j) (A.c0 98 [.i a,.i b,.i c,.i d,.i e,.i f] j λq k l m=>A.c2 97 [.i k,.i l,.i m] q λn r=>A.cd .neq r 0 (K [.i 0,.i 0,.i 0,.i 3] n) (K [.i k,.i l,.i m,.i 0] n)))
def f62:R:=A.k0 ls λc a b=>A.cd .gtr c 7 (K [.i 0] h) (A.cd .lss a (-16384) (K [.i 0] h) (A.cd .gtr a 16384 (K [.i 0] h) (A.cd .lss b (-16384) (K [.i 0] h) (A.cd .gtr b 16384 (K [.i 0] h) (A.ps a b λd=>A.pr d 2 λe=>A.cd .neq e 0 (K [.i 0] h) (K [.i 1] h))))))
def f63:R:=A.k11 ls λn o G H I J=>A.c5 10 [.i n,.i o] h λL d=>A.c5 11 [.i n,.i o,.v G] L λM x=>A.c5 41 [.i n,.i o] M λN p=>A.loop (λO P q=>A.k3 P λu r=>A.ln d λQ=>A.cd .lss r Q (A.fx 2 d r 0 1 q λS=>A.k6 S λT=>A.fx 2 d r 1 1 q λU=>A.k7 U λV=>A.ci V λW=>A.c2 12 [.i n,.i o,.i T,.i W] q λX Y=>A.new (.cells [.int .i64 Y] 1 true) X λZ a0=>A.heap (.ap cc 1 8 u (.slice (some ⟨Z,0,some 11⟩) 1 2)) a0 λa1 a2=>A.ucV a1 λy a3=>A.chk y (A.uc0 a3 (A.pa r 1 λa4=>O [.v y,.i a4] a2))) (A.ln p λa=>A.opt (mkOk a a) λj3=>A.new (.cells (aV [.int .u8 0,.int .i64 0,.int .i64 0] (Int.toNat a)) 3 true) q λj a5=>A.ln p λc=>A.opt (mkOk c c) λj4=>A.new (.cells (aV [.int .i64 0] (Int.toNat c)) 1 true) a5 λl a6=>A.opt (idS 3 (.slice (some ⟨j,0,some 13⟩) (Int.toNat a) ((Int.toNat a)+1)) 0) λa7=>A.heap (.st a7 [.int .u8 H,.int .i64 I,.int .i64 J]) a6 λj5 a8=>A.opt (idS 1 (.slice (some ⟨l,0,some 11⟩) (Int.toNat c) ((Int.toNat c)+1)) 0) λa9=>A.heap (.st a9 [.int .i64 1]) a8 λj6 b0=>A.loop (λb1 b2 z=>A.k4 b2 λb3=>A.cond b3 (A.loop (λb4 b5 e=>A.unB b5 λB b6=>A.k2 b6 λk=>A.ln d λb7=>A.cd .lss k b7 (A.join (λb8 b9=>A.k4 b8 λc1=>A.pa k 1 λc3=>b4 [.b c1,.i c3] b9) λC=>A.fx 2 d k 0 1 e λc4=>A.k6 c4 λw=>A.ix 1 u k 1 e λc6=>A.k6 c6 λs=>A.opt (idS 1 (.slice (some ⟨l,0,some 11⟩) (Int.toNat c) ((Int.toNat c)+1)) w) λc7=>A.peek (.lg cc 1 c7) e λc8=>A.k6 c8 λc9=>A.opt (idS 1 (.slice (some ⟨l,0,some 11⟩) (Int.toNat c) ((Int.toNat c)+1)) s) λd0=>A.peek (.lg cc 1 d0) e λd1=>A.k6 d1 λd2=>A.cd .eql c9 d2 (C [.b B] e) (A.opt (idS 1 (.slice (some ⟨l,0,some 11⟩) (Int.toNat c) ((Int.toNat c)+1)) s) λd3=>A.peek (.lg cc 1 d3) e λd4=>A.k6 d4 λd5=>A.cmp .eql d5 1 λd6=>A.join (λd7 m=>A.k9 d7 λD E=>A.ix 3 p D 3 m λd8=>A.k8 d8 λd9 e0 e1=>A.fx 2 d k 1 1 m λe2=>A.k7 e2 λe3=>A.ci e3 λe4=>A.ix 1 x k 1 m λe5=>A.k7 e5 λe6=>A.opt (idS 3 (.slice (some ⟨j,0,some 13⟩) (Int.toNat a) ((Int.toNat a)+1)) D) λe7=>A.peek (.lg cc 3 e7) m λe8=>A.k12 e8 λe9 f0 f1=>A.c0 99 [.i d9,.i e0,.i e1,.i e4,.i e6,.i e9,.i f0,.i f1] m λf2 f3 f4 f5=>A.opt (idS 3 (.slice (some ⟨j,0,some 13⟩) (Int.toNat a) ((Int.toNat a)+1)) E) λf6=>A.heap (.st f6 [.int .u8 f3,.int .i64 f4,.int .i64 f5]) f2 λj7 f7=>A.opt (idS 1 (.slice (some ⟨l,0,some 11⟩) (Int.toNat c) ((Int.toNat c)+1)) E) λf8=>A.heap (.st f8 [.int .i64 1]) f7 λj8 f9=>C [.b true] f9) λF=>A.cond d6 (F [.i s,.i w] e) (F [.i w,.i s] e))) (b1 [.b B] e)) [.b false,.i 0] z) (A.loop (λg0 g1 f=>A.k2 g1 λg=>A.ln d λg2=>A.cd .lss g g2 (A.fx 2 d g 0 1 f λg3=>A.k6 g3 λg4=>A.ix 3 p g4 3 f λg5=>A.k8 g5 λg6 g7 g8=>A.fx 2 d g 1 1 f λg9=>A.k7 g9 λh0=>A.ci h0 λh1=>A.ix 1 x g 1 f λh2=>A.k7 h2 λh3=>A.fx 2 d g 0 1 f λh4=>A.k6 h4 λh5=>A.opt (idS 3 (.slice (some ⟨j,0,some 13⟩) (Int.toNat a) ((Int.toNat a)+1)) h5) λh6=>A.peek (.lg cc 3 h6) f λh7=>A.k12 h7 λh8 h9 i0=>A.c0 99 [.i g6,.i g7,.i g8,.i h1,.i h3,.i h8,.i h9,.i i0] f λt i1 i2 i3=>A.ix 1 u g 1 t λi4=>A.k6 i4 λi5=>A.opt (idS 3 (.slice (some ⟨j,0,some 13⟩) (Int.toNat a) ((Int.toNat a)+1)) i5) λi6=>A.peek (.lg cc 3 i6) t λi7=>A.k12 i7 λi8 i9 j0=>A.eqs [(.i i1,.i i8),(.i i2,.i i9),(.i i3,.i j0)] λj1=>A.cond (!j1) (K [.v (.slice none 0 0),.i 0] t) (A.pa g 1 λj2=>g0 [.i j2] t)) (K [.v (.slice (some ⟨j,0,some 13⟩) (Int.toNat a) ((Int.toNat a)+1)),.i 1] f)) [.i 0] z)) [.b true] b0)) [.v (.slice none 0 0),.i 0] N
def f64:R:=A.k0 ls λa b c=>A.cd .lss a (-4096) (K [.i 0] h) (A.cd .gtr a 4096 (K [.i 0] h) (A.cd .lss b (-4096) (K [.i 0] h) (A.cd .gtr b 4096 (K [.i 0] h) (A.cd .gtr c 3 (K [.i 0] h) (K [.i 1] h)))))
def f65:R:=A.k5 ls λa=>A.c4 100 [.v a] h λb f=>A.cond f (K [.v (.slice none 0 0),.i 1] b) (A.c5 101 [.v a] b λg c=>A.call 102 [.v c,.v (.func (.func 103) ⟨[]⟩ ⟨[]⟩)] g λj k=>A.un0 j (A.c5 104 [.v c] k λd e=>A.ln e λl=>A.cd .gtr l 1024 (K [.v (.slice none 0 0),.i 3] d) (A.c5 105 [.v e] d λm n=>K [.v n,.i 0] m)))
def f66:R:=A.unV ls λd f=>A.k5 f λe=>A.ln d λg=>A.ln e λj=>A.cd .neq g j (K [.b false] h) (A.ln d λk=>A.loop (λl m a=>A.k2 m λc=>A.cd .lss c k (A.ix 3 d c 3 a λn=>A.k8 n λo p q=>A.ix 3 e c 3 a λr=>A.k8 r λs t u=>A.eqs [(.i o,.i s),(.i p,.i t),(.i q,.i u)] λv=>A.cond (!v) (K [.b false] a) (A.pa c 1 λw=>l [.i w] a)) (K [.b true] a)) [.i 0] h)
def f67:R:=A.unV ls λa u=>A.k0 u λe f g=>A.c2 106 [.v a,.i e,.i f,.i g] h λk w=>A.cd .eql w 1 (K [.v a] k) (A.loop (λl x b=>A.unV x λd y=>A.k9 y λj c=>A.ln a λz=>A.cd .lss c z (A.cd .eql j 0 (A.ix 3 a c 3 b λB=>A.k8 B λC D E=>A.c2 107 [.i e,.i f,.i g,.i C,.i D,.i E] b λm F=>A.cmp .eql F 1 λG=>A.join (λH n=>A.k3 H λI J=>A.ix 3 a c 3 n λL=>A.k8 L λM N O=>A.new (.cells [.int .i64 M,.int .i64 N,.int .u8 O] 3 true) n λP Q=>A.heap (.ap cc 3 24 I (.slice (some ⟨P,0,some 13⟩) 1 2)) Q λS T=>A.ucV S λo U=>A.chk o (A.uc0 U (A.pa c 1 λV=>l [.v o,.i J,.i V] T))) λp=>A.cond G (A.new (.cells [.int .i64 e,.int .i64 f,.int .u8 g] 3 true) m λW X=>A.heap (.ap cc 3 24 d (.slice (some ⟨W,0,some 13⟩) 1 2)) X λY Z=>A.ucV Y λq a0=>A.chk q (A.uc0 a0 (p [.v q,.i 1] Z))) (p [.v d,.i j] m)) (A.ix 3 a c 3 b λa1=>A.k8 a1 λa2 a3 a4=>A.new (.cells [.int .i64 a2,.int .i64 a3,.int .u8 a4] 3 true) b λa5 a6=>A.heap (.ap cc 3 24 d (.slice (some ⟨a5,0,some 13⟩) 1 2)) a6 λa7 a8=>A.ucV a7 λr a9=>A.chk r (A.uc0 a9 (A.pa c 1 λb0=>l [.v r,.i j,.i b0] a8)))) (A.cmp .eql j 0 λb1=>A.join (λb2 b3=>A.k5 b2 λb4=>K [.v b4] b3) λs=>A.cond b1 (A.new (.cells [.int .i64 e,.int .i64 f,.int .u8 g] 3 true) b λb5 b6=>A.heap (.ap cc 3 24 d (.slice (some ⟨b5,0,some 13⟩) 1 2)) b6 λb7 b8=>A.ucV b7 λt b9=>A.chk t (A.uc0 b9 (s [.v t] b8))) (s [.v d] b))) [.v (.slice none 0 0),.i 0,.i 0] k)
def f68:R:=A.k2 ls λa=>A.cd .eql a 1 (K [.i 1,.i 0] h) (A.cd .eql a 2 (K [.i 0,.i 1] h) (A.cd .eql a 3 (K [.i 1,.i 1] h) (K [.i (-1),.i 1] h)))
def f69:R:=A.k13 ls λa b c d=>A.c9 68 [.i a] h λe f g=>A.pm f c λj=>A.pm g d λk=>A.pa j k λl=>A.pm 2 b λm=>A.ps l m λn=>K [.i n] e
def f70:R:=A.k1 ls λc d m=>A.c2 46 [.i c,.i d] h λn o=>A.cd .neq o 0 (A.opt (chk2 (.slice none 0 0)) λa5=>K [.i 0,.i 0,.v (.slice none 0 0),.i 0,.i o] n) (A.c5 108 [.i c,.i d] n λx y=>A.new (.map [] 0) x λp z=>A.ln m λB=>A.loop (λC D e=>A.k3 D λf a=>A.cd .lss a B (A.ix 5 m a 5 e λE=>A.ucI .u8 E λg F=>A.ucI .u8 F λG H=>A.ucI .i64 H λI J=>A.k10 J λL M=>A.c3 109 [.v y,.i g,.i G,.i I,.i L,.i M] e λq r s=>A.cd .neq s 0 (A.opt (chk2 (.slice none 0 0)) λa6=>K [.i 0,.i 0,.v (.slice none 0 0),.i a,.i s] q) (A.ln r λN=>A.loop (λO P b=>A.k3 P λt j=>A.cd .lss j N (A.ix 2 r j 2 b λQ=>A.k17 Q λk l=>A.peek (.fn (luG cc 55 false (.int .u8 0) (.map (some p)) (.agg ⟨[.int .i64 k,.int .u8 l]⟩) false)) b λS=>A.k7 S λT=>A.cd .neq T 0 (A.opt (chk2 (.slice none 0 0)) λa7=>K [.i 0,.i 0,.v (.slice none 0 0),.i a,.i 8] b) (A.heap (.fn (muG cc 55 (.map (some p)) (.agg ⟨[.int .i64 k,.int .u8 l]⟩) (.int .u8 g))) b λa8 U=>A.new (.cells [.int .i64 k,.int .u8 l,.int .u8 g] 3 true) U λV W=>A.heap (.ap cc 3 16 t (.slice (some ⟨V,0,some 13⟩) 1 2)) W λX Y=>A.ucV X λu Z=>A.chk u (A.uc0 Z (A.pa j 1 λa0=>O [.v u,.i a0] Y)))) (A.pa a 1 λa1=>C [.v t,.i a1] b)) [.v f,.i 0] q)) (A.call 110 [.v f,.v (.func (.func 111) ⟨[]⟩ ⟨[]⟩)] e λa2 a3=>A.un0 a2 (A.c5 113 [.v f] a3 λa4 w=>A.opt (chk2 w) λa9=>K [.i c,.i d,.v w,.i 0,.i 0] a4))) [.v (.slice none 0 0),.i 0] z)
def f71:R:=A.k15 ls λc s t a b=>A.cmp .eql c 1 λu=>A.join (λv d=>A.k9 v λw x=>A.cmp .eql c 2 λy=>A.join (λz e=>A.k9 z λB C=>A.cmp .eql c 3 λD=>A.join (λE f=>A.k9 E λF G=>A.cmp .eql c 4 λH=>A.join (λI g=>A.k9 I λJ L=>A.cmp .eql c 5 λM=>A.join (λN j=>A.k9 N λO P=>A.cmp .eql c 6 λQ=>A.join (λS k=>A.k9 S λT U=>A.cmp .eql c 7 λV=>A.join (λW X=>A.k9 W λY Z=>A.pm 2 s λa0=>A.pa Y a0 λa1=>A.pm 2 t λa2=>A.pa Z a2 λa3=>K [.i a1,.i a3] X) λl=>A.cond V (l [.i b,.i a] k) (l [.i T,.i U] k)) λm=>A.cond Q (A.ps 0 b λa4=>m [.i a,.i a4] j) (m [.i O,.i P] j)) λn=>A.cond M (A.ps 0 b λa5=>A.ps 0 a λa6=>n [.i a5,.i a6] g) (n [.i J,.i L] g)) λo=>A.cond H (A.ps 0 a λa7=>o [.i a7,.i b] f) (o [.i F,.i G] f)) λp=>A.cond D (A.ps 0 a λa8=>p [.i b,.i a8] e) (p [.i B,.i C] e)) λq=>A.cond y (A.ps 0 a λa9=>A.ps 0 b λb0=>q [.i a9,.i b0] d) (q [.i w,.i x] d)) λr=>A.cond u (A.ps 0 b λb1=>r [.i b1,.i a] h) (r [.i a,.i b] h)
def f72:R:=A.k14 ls λe f m n o p=>A.loop (λd q g=>A.k2 q λa=>A.cd .lss a 8 (A.pq e 2 λb=>A.pq f 2 λc=>A.c9 71 [.i a,.i b,.i c,.i 2,.i 0] g λj r s=>A.eqs [(.i r,.i m),(.i s,.i n)] λt=>A.cond t (A.c9 71 [.i a,.i b,.i c,.i 0,.i 2] j λk u v=>A.eqs [(.i u,.i o),(.i v,.i p)] λw=>A.cond w (A.c9 71 [.i a,.i b,.i c,.i 0,.i 0] k λl x y=>A.eqs [(.i x,.i e),(.i y,.i f)] λz=>A.join (λB C=>A.un0 B (A.ari .add .u8 a 1 λD=>d [.i D] C)) λE=>A.cond z (K [.i a,.i b,.i c] l) (E [] l)) (A.ari .add .u8 a 1 λF=>d [.i F] k)) (A.ari .add .u8 a 1 λG=>d [.i G] j)) (K [.i 8,.i 0,.i 0] g)) [.i 0] h
def f73:R:=A.unV ls λd f=>A.k5 f λg=>A.ln d λj=>A.loop (λk l c=>A.k2 l λa=>A.cd .lss a j (A.ix 3 d a 3 c λm=>A.k16 m λn o p=>A.callv g [.agg ⟨[.int .i64 n,.int .u8 o,.int .u8 p]⟩] [.leaf .b] c λq e=>A.k4 q λr=>A.cond r (K [.i a] e) (A.pa a 1 λs=>k [.i s] e)) (K [.i (-1)] c)) [.i 0] h
def f74:R:=A.k13 ls λa b f g=>A.c13 59 [.i a,.i b,.i f] h λc j k l d=>A.cd .neq d 0 (K [.i 0,.i d] c) (A.c13 114 [.i j,.i k,.i l,.i g] c λe m n o p=>A.cd .neq p 0 (K [.i 0,.i 1] e) (A.c9 115 [.i a,.i b,.i m,.i n,.i o] e λq r s=>K [.i r,.i s] q))
def f75:R:=A.k5 ls λa=>A.ln a λc=>A.ln a λd=>A.opt (slS 2 a none (some c) (some d)) λb=>A.chk b (K [.v b] h)
def f76:R:=A.k13 ls λd e b c=>A.c2 46 [.i d,.i e] h λa f=>A.cd .neq f 0 (K [.i f] a) (A.cd .leq b 0 (K [.i 7] a) (A.cd .leq c 0 (K [.i 7] a) (A.pm 2 d λg=>A.cd .geq b g (K [.i 7] a) (A.pm 2 e λj=>A.cd .geq c j (K [.i 7] a) (A.pr b 2 λk=>A.pr c 2 λl=>A.cd .neq k l (K [.i 7] a) (K [.i 0] a))))))
def f77:R:=A.k13 ls λc d e f=>A.new (.cells [.int .i64 c,.int .i64 d] 2 true) h λa g=>A.new (.cells [.int .i64 e,.int .i64 f] 2 true) g λb i=>A.chk (.func (.func 116) ⟨[]⟩ ⟨[.pointer (some ⟨b,0,none⟩),.pointer (some ⟨a,0,none⟩)]⟩) (K [.v (.func (.func 116) ⟨[]⟩ ⟨[.pointer (some ⟨b,0,none⟩),.pointer (some ⟨a,0,none⟩)]⟩)] i)
def f78:R:=A.unI ls λd e=>A.unI e λf g=>A.unV g λc j=>A.k9 j λk l=>A.call 120 [.i d,.i f,.v c,.i k,.i l] h λm a=>A.unI m λw n=>A.unI n λx o=>A.unI o λp q=>A.unB q λr s=>A.k2 s λb=>A.cd .neq b 0 (K [.i 0,.i b] a) (A.cond (!r) (K [.i 0,.i b] a) (A.fx 3 c p 2 1 a λt=>A.k7 t λu=>K [.i u,.i 0] a))
def f79:R:=A.unV ls λa c=>A.k5 c λd=>A.ln a λb=>A.conv .u64 b λe=>A.c2 122 [.i e] h λf g=>A.call 121 [.v a,.i 0,.i b,.i g,.v d] f λj k=>A.un0 j (K [] k)
def f80:R:=A.k13 ls λa d b e=>A.ps a b λc=>K [.i c] h
def f81:R:=A.k5 ls λa=>A.ln a λc=>A.ln a λd=>A.opt (slS 2 a none (some c) (some d)) λb=>A.chk b (K [.v b] h)
def f82:R:=A.k9 ls λc a=>A.c2 85 [.i c,.i a] h λb d=>A.cd .neq d 0 (K [.i 0,.i 0,.i 0,.i 1] b) (A.cd .eql c 1 (A.pm 2 a λe=>K [.i 4,.i e,.i 0,.i 0] b) (A.cd .eql c 2 (A.pm 2 a λf=>K [.i 6,.i 0,.i f,.i 0] b) (A.cd .eql c 3 (K [.i 5,.i a,.i a,.i 0] b) (A.ps 0 a λg=>K [.i 7,.i g,.i a,.i 0] b))))
def f83:R:=A.k9 ls λa b=>A.cd .lss a (-65536) (K [.i 1] h) (A.cd .gtr a 65536 (K [.i 1] h) (A.cd .lss b (-65536) (K [.i 1] h) (A.cd .gtr b 65536 (K [.i 1] h) (K [.i 0] h))))
def f84:R:=A.k0 ls λa b c=>A.cd .eql a 1 (K [.i b] h) (A.cd .eql a 2 (K [.i c] h) (A.cd .eql a 3 (A.pa b c λd=>K [.i d] h) (A.ps c b λe=>K [.i e] h)))
def f85:R:=A.k9 ls λa b=>A.cd .lss a 1 (K [.i 1] h) (A.cd .gtr a 4 (K [.i 1] h) (A.cd .lss b (-4096) (K [.i 1] h) (A.cd .gtr b 4096 (K [.i 1] h) (K [.i 0] h))))
def f86:R:=A.k2 ls λa=>A.join (λd e=>A.k4 d λf=>K [.b f] e) λc=>A.cd .lss a (-16384) (c [.b true] h) (A.cmp .gtr a 16384 λg=>c [.b g] h)
def f87:R:=A.k1 ls λp q a=>A.ln a λr=>A.new (.map [] 0) h λd e=>A.ln a λf=>A.loop (λg j b=>A.k2 j λc=>A.cd .lss c f (A.ix 3 a c 3 b λk=>A.k16 k λl m s=>A.heap (.fn (muG cc 55 (.map (some d)) (.agg ⟨[.int .i64 l,.int .u8 m]⟩) (.bool true))) b λt n=>A.pa c 1 λo=>g [.i o] n) (K [.v (.map (some d))] b)) [.i 0] e
def f88:R:=A.k9 ls λa b=>A.c2 46 [.i a,.i b] h λc d=>A.cd .neq d 0 (K [.i 0] c) (A.pm 4 a λe=>A.pm e b λf=>K [.i f] c)
def f89:R:=A.unI ls λb o=>A.unI o λp q=>A.unV q λd r=>A.unV r λs t=>A.k5 t λe=>A.opt (fdP 0 d) λf=>A.chk f (A.peek (.lg cc 2 f) h λu=>A.k10 u λv w=>A.c0 50 [.i v,.i w,.i b,.i p] h λa g j a4=>A.peek (.lg cc 1 s) a λx=>A.ucV x λk y=>A.chk k (A.uc0 y (A.peek (.fn (luG cc 55 false (.bool false) k (.agg ⟨[.int .i64 g,.int .u8 j]⟩) false)) a λz=>A.ucB z λB C=>A.uc0 C (A.cond (!B) (A.peek (.lg cc 1 e) a λD=>A.ucV D λl E=>A.chk l (A.uc0 E (A.ix 3 l b 3 a λF=>A.k12 F λG H I=>K [.i G,.i H,.i I] a))) (A.opt (fdP 0 d) λm=>A.chk m (A.peek (.lg cc 2 m) a λJ=>A.k10 J λL M=>A.c0 90 [.i L,.i M,.i g,.i j] a λN O P a5=>A.c13 82 [.i O,.i P] N λc Q S T a6=>A.peek (.lg cc 1 e) c λU=>A.ucV U λn V=>A.chk n (A.uc0 V (A.ix 3 n b 3 c λW=>A.k12 W λX Y Z=>A.c13 60 [.i Q,.i S,.i T,.i X,.i Y,.i Z] c λa0 a1 a2 a3 a7=>K [.i a1,.i a2,.i a3] a0))))))))
def f90:R:=A.k13 ls λd e f a=>A.c13 123 [.i d,.i e,.i f,.i a] h λb g j k c=>A.cd .neq c 0 (K [.i 0,.i 0,.i c] b) (A.c0 124 [.i g,.i j,.i k,.i a] b λl m n o=>K [.i m,.i n,.i o] l)
def f91:R:=A.k0 ls λd e a=>A.join (λf g=>A.k4 f λi=>K [.b i] g) λc=>A.cd .geq a 0 (A.pm 4 d λj=>A.pm j e λk=>A.cmp .lss a k λl=>c [.b l] h) (c [.b false] h)
def f92:R:=A.k0 ls λb k a=>A.pq a 4 λc=>A.pr c b λd=>A.pq a 4 λe=>A.pq e b λf=>A.pr a 4 λg=>A.conv .u8 g λj=>K [.i d,.i f,.i j] h
def f93:R:=A.k14 ls λc d e f a b=>A.pm c a λg=>A.pm d b λj=>A.pa g j λk=>A.pm e a λl=>A.pm f b λm=>A.pa l m λn=>K [.i k,.i n] h
def f94:R:=A.k0 ls λa b c=>A.c2 57 [.i a,.i b,.i c] h λd e=>A.cd .neq e 0 (K [.i 0,.i 0,.i 0,.i 3] d) (K [.i a,.i b,.i c,.i 0] d)
def f95:R:=A.k13 ls λc d e f=>A.loop (λg j b=>A.k2 j λa=>A.cd .lss a 8 (A.opt (inB 8 a) λs=>A.opt (eu [.i 1,.i 0,.i 0,.i 1,.i 0,.i (-1),.i 1,.i 0,.i (-1),.i 0,.i 0,.i (-1),.i 0,.i 1,.i (-1),.i 0,.i (-1),.i 0,.i 0,.i 1,.i 0,.i (-1),.i (-1),.i 0,.i 1,.i 0,.i 0,.i (-1),.i 0,.i 1,.i 1,.i 0] 0 [(a,4)] 4) λk=>A.k13 k λl m n o=>A.eqs [(.i l,.i c),(.i m,.i d),(.i n,.i e),(.i o,.i f)] λp=>A.cond p (A.conv .u8 a λq=>K [.i q] b) (A.pa a 1 λr=>g [.i r] b)) (K [.i 0] b)) [.i 0] h
def f96:R:=A.unI ls λe f=>A.unI f λg j=>A.k14 j λk l a b c d=>A.c9 93 [.i a,.i b,.i c,.i d,.i e,.i k] h λm n o=>A.c9 93 [.i a,.i b,.i c,.i d,.i g,.i l] m λp q r=>K [.i n,.i q,.i o,.i r] p
def f97:R:=A.k0 ls λa b c=>A.cd .lss a (-4096) (K [.i 1] h) (A.cd .gtr a 4096 (K [.i 1] h) (A.cd .lss b (-4096) (K [.i 1] h) (A.cd .gtr b 4096 (K [.i 1] h) (A.cd .gtr c 3 (K [.i 1] h) (K [.i 0] h)))))
def f98:R:=A.k14 ls λf m n o p b=>A.c9 125 [.i o,.i p,.i b] h λq r s=>A.opt (inB 4 b) λa7=>A.opt (mE gl1 0 [(b,17)] 2) λt=>A.k10 t λu v=>A.c0 126 [.i f,.i m,.i n,.i r,.i s] q λw g j a8=>A.c0 126 [.i f,.i 0,.i 0,.i u,.i v] w λx y z a9=>A.ari .and .i64 g 1 λB=>A.ps g B λC=>A.pq C 2 λD=>A.ari .and .i64 j 1 λE=>A.ps j E λF=>A.pq F 2 λG=>A.loop (λH I c=>A.k13 I λa d e k=>A.cd .lss a 4 (A.opt (inB 4 a) λb0=>A.opt (eu [.i 0,.i (-1),.i 2,.i 0,.i 0,.i (-1),.i 2,.i 0,.i 0,.i 1,.i 0,.i 0,.i 3,.i 0,.i 0,.i 2,.i 0,.i 1,.i 0,.i 1,.i 1,.i 1,.i 0,.i 3,.i 0,.i 0,.i 0,.i 0,.i 0,.i 2,.i 2,.i 2,.i 2,.i 0,.i 0,.i 1,.i 2,.i 1,.i 0,.i 1,.i 0,.i 0,.i 0,.i 3,.i 0,.i 0,.i 1,.i 2,.i 2,.i 0,.i 2,.i (-1),.i 0,.i 1,.i 0,.i (-1),.i 0,.i 1,.i 0,.i 0,.i 2,.i 0,.i 0,.i 0,.i 0,.i 0,.i 0,.i 2] 0 [(a,17)] 17) λJ=>A.unI J λL M=>A.unI M λN O=>A.unI O λb1 P=>A.unI P λb2 Q=>A.unI Q λb3 S=>A.unI S λb4 T=>A.unI T λb5 U=>A.unI U λb6 V=>A.unI V λb7 W=>A.unI W λb8 X=>A.unI X λb9 Y=>A.k14 Y λc1 c2 c3 c4 c5 c6=>A.eqs [(.i L,.i y),(.i N,.i z)] λZ=>A.join (λa0 a1=>A.k0 a0 λa2 a3 a4=>A.pa a 1 λa5=>H [.i a5,.i a2,.i a3,.i a4] a1) λl=>A.cond Z (A.conv .u8 a λa6=>l [.i d,.i e,.i a6] c) (l [.i d,.i e,.i k] c)) (K [.i d,.i e,.i k] c)) [.i 0,.i D,.i G,.i 0] x
def f99:R:=A.unI ls λd e=>A.unI e λf g=>A.k14 g λj k l a b c=>A.cd .eql l 0 (K [.i a,.i b,.i c] h) (A.c9 34 [.i d,.i f,.i j,.i k] h λm n o=>A.c0 45 [.i n,.i o] m λp q r s=>A.c0 44 [.i q,.i r,.i s,.i a,.i b,.i c] p λt u v w=>K [.i u,.i v,.i w] t)
def f100:R:=A.k5 ls λa=>A.c4 127 [.v a,.v (.func (.func 128) ⟨[]⟩ ⟨[]⟩)] h λc d=>K [.b d] c
def f101:R:=A.k5 ls λa=>A.opt (uz 1 a (.slice none 0 0)) λc=>A.cond c (K [.v (.slice none 0 0)] h) (A.new (.cells [] 3 true) h λd e=>A.heap (.ap cc 3 24 (.slice (some ⟨d,0,some 13⟩) 0 1) a) e λf g=>A.ucV f λb i=>A.chk b (A.uc0 i (K [.v b] g)))
def f103:R:=A.k14 ls λa b c d e f=>A.ci c λg=>A.ci f λj=>A.new (.cells [.int .i64 b,.int .i64 e,.int .i64 a,.int .i64 d,.int .i64 g,.int .i64 j] 2 true) h λk l=>A.c2 130 [.v (.slice (some ⟨k,0,some 12⟩) 3 4)] l λm n=>K [.i n] m
def f104:R:=A.k5 ls λa=>A.ln a λm=>A.cd .lss m 2 (K [.v a] h) (A.loop (λn o d=>A.k2 o λb=>A.ln a λp=>A.cd .lss b p (A.ix 3 a b 3 d λq=>A.k8 q λr s t=>A.ps b 1 λu=>A.ix 3 a u 3 d λw=>A.k8 w λx y z=>A.eqs [(.i r,.i x),(.i s,.i y),(.i t,.i z)] λB=>A.cond B (A.opt (slS 3 a (some b) none none) λe=>A.chk e (A.loop (λC D c=>A.k9 D λf g=>A.ln e λE=>A.cd .lss g E (A.ix 3 e g 3 c λF=>A.k8 F λG H I=>A.ps g 1 λJ=>A.ix 3 e J 3 c λL=>A.k8 L λM N O=>A.eqs [(.i G,.i M),(.i H,.i N),(.i I,.i O)] λP=>A.join (λQ S=>A.k2 Q λT=>A.pa g 1 λU=>C [.i T,.i U] S) λj=>A.cond (!P) (A.ix 3 e g 3 c λV=>A.k8 V λW X Y=>A.opt (idS 3 a f) λZ=>A.heap (.st Z [.int .i64 W,.int .i64 X,.int .u8 Y]) c λa4 a0=>A.pa f 1 λa1=>j [.i a1] a0) (j [.i f] c)) (A.opt (slS 3 a (some f) none none) λk=>A.chk k (A.heap (.fn (clG 3 [.int .i64 0,.int .i64 0,.int .u8 0] k)) c λa5 a2=>A.opt (slS 3 a none (some f) none) λl=>A.chk l (K [.v l] a2)))) [.i b,.i 1] d)) (A.pa b 1 λa3=>n [.i a3] d)) (K [.v a] d)) [.i 1] h)
def f105:R:=A.k5 ls λa=>A.ln a λc=>A.ln a λd=>A.opt (slS 3 a none (some c) (some d)) λb=>A.chk b (K [.v b] h)
def f106:R:=A.unV ls λc d=>A.k0 d λe f g=>A.loop (λj k a=>A.k2 k λb=>A.ln c λl=>A.cd .lss b l (A.ix 3 c b 3 a λm=>A.k8 m λn o p=>A.eqs [(.i n,.i e),(.i o,.i f),(.i p,.i g)] λq=>A.cond q (K [.i 1] a) (A.pa b 1 λr=>j [.i r] a)) (K [.i 0] a)) [.i 0] h
def f107:R:=A.k14 ls λa b e c d f=>A.cd .lss b d (K [.i 1] h) (A.cd .eql b d (A.cd .lss a c (K [.i 1] h) (A.cd .eql a c (A.cmp .lss e f λg=>A.join (λj k=>A.un0 j (K [.i 0] k)) λl=>A.cond g (K [.i 1] h) (l [] h)) (K [.i 0] h))) (K [.i 0] h))
def f108:R:=A.k9 ls λd e=>A.c3 131 [.i d,.i e] h λk a y=>A.ln a λz=>A.new (.map [] 0) k λf l=>A.ln a λm=>A.loop (λn o b=>A.k2 o λc=>A.cd .lss c m (A.ix 2 a c 2 b λp=>A.k17 p λg j=>A.c13 132 [.i d,.i e,.i g,.i j] b λq r s t u=>A.heap (.fn (muG cc 225 (.map (some f)) (.agg ⟨[.int .u8 r,.int .i64 s,.int .i64 t]⟩) (.agg ⟨[.int .i64 g,.int .u8 j,.int .i64 u]⟩))) q λB w=>A.pa c 1 λx=>n [.i x] w) (K [.v (.map (some f))] b)) [.i 0] l
def f109:R:=A.unV ls λm n=>A.k15 n λo c d e b=>A.c4 133 [.i o,.i c,.i d,.i e,.i b] h λf p=>A.cond (!p) (K [.v (.slice none 0 0),.i 1] f) (A.loop (λq r a=>A.k3 r λg j=>A.cd .neq j b (A.peek (.fn (luG cc 225 true (.agg ⟨[.int .i64 0,.int .u8 0,.int .i64 0]⟩) m (.agg ⟨[.int .u8 c,.int .i64 d,.int .i64 j]⟩) true)) a λs=>A.ucI .i64 s λt u=>A.ucI .u8 u λw x=>A.ucI .i64 x λk y=>A.ucB y λz B=>A.uc0 B (A.cond (!z) (K [.v (.slice none 0 0),.i 7] a) (A.cd .gtr k b (K [.v (.slice none 0 0),.i 7] a) (A.new (.cells [.int .i64 t,.int .u8 w] 2 true) a λC D=>A.heap (.ap cc 2 16 g (.slice (some ⟨C,0,some 12⟩) 1 2)) D λE F=>A.ucV E λl G=>A.chk l (A.uc0 G (q [.v l,.i k] F)))))) (A.c5 134 [.v g] a λH I=>K [.v I,.i 0] H)) [.v (.slice none 0 0),.i e] f)
def f110:R:=A.unV ls λa c=>A.k5 c λd=>A.ln a λb=>A.conv .u64 b λe=>A.c2 122 [.i e] h λf g=>A.call 135 [.v a,.i 0,.i b,.i g,.v d] f λj k=>A.un0 j (K [] k)
def f111:R:=A.k14 ls λa b m c d n=>A.ci b λe=>A.ci d λf=>A.new (.cells [.int .i64 a,.int .i64 c,.int .i64 e,.int .i64 f] 2 true) h λg j=>A.c2 112 [.v (.slice (some ⟨g,0,some 12⟩) 2 3)] j λk l=>K [.i l] k
def f112:R:=A.k5 ls λc=>A.ln c λf=>A.loop (λg j a=>A.k2 j λb=>A.cd .lss b f (A.ix 2 c b 2 a λk=>A.k10 k λl m=>A.c2 136 [.i l,.i m] a λd e=>A.cd .neq e 0 (K [.i e] d) (A.pa b 1 λn=>g [.i n] d)) (K [.i 0] a)) [.i 0] h
def f113:R:=A.k5 ls λa=>A.ln a λc=>A.ln a λd=>A.opt (slS 3 a none (some c) (some d)) λb=>A.chk b (K [.v b] h)
def f114:R:=A.k13 ls λd e a b=>A.c2 97 [.i d,.i e,.i a] h λc l=>A.cd .neq l 0 (K [.i 0,.i 0,.i 0,.i 1] c) (A.cd .gtr b 2 (K [.i 0,.i 0,.i 0,.i 1] c) (A.opt (inB 4 a) λq=>A.opt (inB 3 b) λr=>A.opt (mE gl1 4 [(a,17),(b,3)] 3) λm=>A.k8 m λn o f=>A.pa n d λg=>A.pa o e λj=>A.c2 97 [.i g,.i j,.i f] c λk p=>A.cd .neq p 0 (K [.i 0,.i 0,.i 0,.i 3] k) (K [.i g,.i j,.i f,.i 0] k)))
def f115:R:=A.k15 ls λd e b c f=>A.c2 46 [.i d,.i e] h λg j=>A.cd .neq j 0 (K [.i 0,.i j] g) (A.c2 97 [.i b,.i c,.i f] g λa k=>A.cd .neq k 0 (K [.i 0,.i 7] a) (A.cd .lss b 0 (K [.i 0,.i 7] a) (A.cd .geq b d (K [.i 0,.i 7] a) (A.cd .lss c 0 (K [.i 0,.i 7] a) (A.cd .geq c e (K [.i 0,.i 7] a) (A.pm c d λl=>A.pa l b λm=>A.pm 4 m λn=>A.ci f λo=>A.pa n o λp=>K [.i p,.i 0] a))))))
def f116:R:=A.unV ls λt Y=>A.unV Y λc Z=>A.k5 Z λj=>A.opt (fdP 0 c) λu=>A.chk u (A.peek (.lg cc 1 u) h λa0=>A.k6 a0 λa1=>A.pq a1 2 λv=>A.opt (fdP 1 c) λw=>A.chk w (A.peek (.lg cc 1 w) h λa2=>A.k6 a2 λa3=>A.pq a3 2 λx=>A.opt (fdP 0 c) λy=>A.chk y (A.peek (.lg cc 1 y) h λa4=>A.k6 a4 λa5=>A.pr a5 2 λa6=>A.cmp .neq a6 0 λa7=>A.join (λa8 a9=>A.k0 a8 λm n o=>A.loop (λz b0 B=>A.k13 b0 λb1 C D E=>A.peek (.lg cc 2 j) B λb2=>A.k10 b2 λb3 b4=>A.c9 115 [.i b3,.i b4,.i C,.i D,.i E] B λb5 l g7=>A.loop (λb6 b7 p=>A.k15 b7 λk a d e f=>A.cd .lss a 3 (A.join (λb8 b9=>A.k13 b8 λc1 c3 c5 c6=>A.ari .add .u8 a 1 λc7=>b6 [.i c1,.i c7,.i c3,.i c5,.i c6] b9) λq=>A.peek (.lg cc 2 c) p λc8=>A.k10 c8 λd0 d1=>A.c4 117 [.i d,.i e,.i f,.i a,.i d0,.i d1] p λg d2=>A.cond (!d2) (q [.i k,.i d,.i e,.i f] g) (A.cd .eql a k (q [.i k,.i d,.i e,.i f] g) (A.cd .eql k 3 (A.peek (.lg cc 2 c) g λd3=>A.k10 d3 λd4 d5=>A.c4 118 [.i d,.i e,.i f,.i a,.i d4,.i d5] g λF d6=>A.join (λd7 G=>A.un0 d7 (A.peek (.lg cc 2 j) G λd8=>A.k10 d8 λd9 e0=>A.c0 50 [.i d9,.i e0,.i l,.i a] G λr H I g8=>A.peek (.lg cc 2 j) r λe1=>A.k10 e1 λe2 e3=>A.peek (.lg cc 2 c) r λe4=>A.k10 e4 λe5 e6=>A.c2 119 [.i e2,.i e3,.i H,.i I,.i e5,.i e6] r λe7 e8=>A.callv t [.int .i64 l,.agg ⟨[.int .i64 e8,.int .i64 H,.int .u8 I]⟩] [.leaf .b] e7 λe9 J=>A.k4 e9 λf0=>A.cond (!f0) (K [] J) (A.c13 114 [.i d,.i e,.i f,.i a] J λL M N O g9=>A.eqs [(.i M,.i m),(.i N,.i n),(.i O,.i o)] λf1=>A.cond f1 (K [] L) (z [.i a,.i M,.i N,.i O] L)))) λf2=>A.cond (!d6) (q [.i k,.i d,.i e,.i f] F) (f2 [] F)) (A.peek (.lg cc 2 j) g λf3=>A.k10 f3 λf4 f5=>A.c0 50 [.i f4,.i f5,.i l,.i a] g λs P Q h0=>A.peek (.lg cc 2 j) s λf6=>A.k10 f6 λf7 f8=>A.peek (.lg cc 2 c) s λf9=>A.k10 f9 λg0 g1=>A.c2 119 [.i f7,.i f8,.i P,.i Q,.i g0,.i g1] s λg2 g3=>A.callv t [.int .i64 l,.agg ⟨[.int .i64 g3,.int .i64 P,.int .u8 Q]⟩] [.leaf .b] g2 λg4 S=>A.k4 g4 λg5=>A.cond (!g5) (K [] S) (A.c13 114 [.i d,.i e,.i f,.i a] S λT U V W h1=>A.eqs [(.i U,.i m),(.i V,.i n),(.i W,.i o)] λg6=>A.cond g6 (K [] T) (z [.i a,.i U,.i V,.i W] T)))))) (K [] p)) [.i b1,.i 0,.i C,.i D,.i E] b5) [.i 3,.i m,.i n,.i o] a9) λX=>A.cond a7 (X [.i v,.i x,.i 2] h) (X [.i v,.i x,.i 0] h))))
def f117:R:=A.k14 ls λc d e a f g=>A.call 137 [.i c,.i d,.i e] h λj k=>A.unI j λl m=>A.k14 m λn o p q r w=>A.opt (inB 3 a) λx=>A.opt (eu [.i l,.i n,.i o,.i p,.i q,.i r] 0 [(a,2)] 2) λs=>A.k9 s λt u=>A.eqs [(.i t,.i f),(.i u,.i g)] λv=>K [.b (!v)] k
def f118:R:=A.k14 ls λg i j a c k=>A.pr c 2 λd=>A.cd .neq d 0 (A.cmp .eql a 1 λe=>K [.b e] h) (A.cmp .eql a 2 λf=>K [.b f] h)
def f119:R:=A.k14 ls λj k l m a b=>A.c15 138 [.i j,.i k,.i l,.i m] h λc d e n o E=>A.eqs [(.i d,.i a),(.i e,.i b)] λp=>A.join (λq r=>A.k9 q λs t=>A.ps s a λu=>A.c2 139 [.i u] r λw x=>A.ps t b λy=>A.c2 139 [.i y] w λz B=>A.opt (cK cc 243 ⟨2,0,some 1⟩ none none none []) λf=>A.chk f (A.c2 140 [.v f,.i x,.i B] z λC D=>K [.i D] C)) λg=>A.cond p (g [.i n,.i o] c) (g [.i d,.i e] c)
def f120:R:=A.unI ls λa m=>A.unI m λc n=>A.unV n λd o=>A.k9 o λp q=>A.c2 19 [.i a,.i c,.v d] h λe f=>A.cd .neq f 0 (K [.i 0,.i 0,.i 0,.b false,.i f] e) (A.c0 50 [.i a,.i c,.i p,.i q] e λg j k l=>A.cd .neq l 0 (K [.i 0,.i 0,.i 0,.b false,.i l] g) (A.call 141 [.v d,.i j,.i k] g λr s=>A.unI r λt u=>A.k4 u λw=>K [.i j,.i k,.i t,.b w,.i 0] s))
def f121:R:=A.unV ls λc b8=>A.unI b8 λb9 c0=>A.k1 c0 λc1 c3 e=>A.loop (λc5 c6 t=>A.unI c6 λB c7=>A.unI c7 λd c8=>A.unB c8 λu d0=>A.unB d0 λs d1=>A.k2 d1 λa=>A.join (λd2 d3=>A.unI d2 λd4 d5=>A.unI d5 λd6 d7=>A.unB d7 λd8 d9=>A.unB d9 λe0 e1=>A.k2 e1 λe2=>c5 [.i d4,.i d6,.b d8,.b e0,.i e2] d3) λk=>A.ps a d λl=>A.cd .leq l 12 (A.call 142 [.v c,.i d,.i a,.v e] t λe3 e4=>A.un0 e3 (K [] e4)) (A.cd .eql B 0 (A.call 143 [.v c,.i d,.i a,.v e] t λe5 e6=>A.un0 e5 (K [] e6)) (A.join (λe7 e8=>A.k2 e7 λf=>A.c9 145 [.v c,.i d,.i a,.v e] e8 λC D E=>A.cmp .eql E 2 λe9=>A.join (λf0 j=>A.k9 f0 λg f1=>A.cond s (A.cond u (A.cmp .eql f1 1 λf2=>A.join (λf3 w=>A.un0 f3 (A.cd .gtr d 0 (A.ps d 1 λf4=>A.ix 2 c f4 2 w λf5=>A.k17 f5 λf6 f7=>A.ix 2 c g 2 w λf8=>A.k17 f8 λf9 g0=>A.callv e [.agg ⟨[.int .i64 f6,.int .u8 f7]⟩,.agg ⟨[.int .i64 f9,.int .u8 g0]⟩] [.leaf (.i .i64)] w λg1 F=>A.k2 g1 λg2=>A.cmp .lss g2 0 λg3=>A.join (λg4 g5=>A.k2 g4 λx=>A.call 149 [.v c,.i x,.i a,.i g,.v e] g5 λg6 G=>A.unI g6 λm g7=>A.k4 g7 λg8=>A.ps m x λH=>A.ps a m λI=>A.pq l 8 λJ=>A.cmp .lss H I λg9=>A.join (λh0 h1=>A.unB h0 λh2 h3=>A.k9 h3 λh4 h5=>k [.i f,.i h4,.b g8,.b h2,.i h5] h1) λL=>A.cond g9 (A.cmp .geq H J λh6=>A.call 121 [.v c,.i x,.i m,.i f,.v e] G λh7 h8=>A.un0 h7 (A.pa m 1 λh9=>L [.b h6,.i h9,.i a] h8)) (A.cmp .geq I J λi0=>A.pa m 1 λi1=>A.call 121 [.v c,.i i1,.i a,.i f,.v e] G λi2 i3=>A.un0 i2 (L [.b i0,.i x,.i m] i3))) λi4=>A.cond (!g3) (A.c2 148 [.v c,.i d,.i a,.i g,.v e] F λi5 i6=>k [.i f,.i i6,.b u,.b s,.i a] i5) (i4 [.i d] F)) (A.call 149 [.v c,.i d,.i a,.i g,.v e] w λi7 M=>A.unI i7 λn i8=>A.k4 i8 λi9=>A.ps n d λN=>A.ps a n λO=>A.pq l 8 λP=>A.cmp .lss N O λj0=>A.join (λj1 j2=>A.unB j1 λj3 j4=>A.k9 j4 λj5 j6=>k [.i f,.i j5,.b i9,.b j3,.i j6] j2) λQ=>A.cond j0 (A.cmp .geq N P λj7=>A.call 121 [.v c,.i d,.i n,.i f,.v e] M λj8 j9=>A.un0 j8 (A.pa n 1 λk0=>Q [.b j7,.i k0,.i a] j9)) (A.cmp .geq O P λk3=>A.pa n 1 λk5=>A.call 121 [.v c,.i k5,.i a,.i f,.v e] M λk6 k7=>A.un0 k6 (Q [.b k3,.i d,.i n] k7))))) λS=>A.cond f2 (A.c4 147 [.v c,.i d,.i a,.v e] j λT k8=>A.cond k8 (K [] T) (S [] T)) (S [] j)) (A.cd .gtr d 0 (A.ps d 1 λl0=>A.ix 2 c l0 2 j λl1=>A.k17 l1 λl2 l3=>A.ix 2 c g 2 j λl4=>A.k17 l4 λl5 l6=>A.callv e [.agg ⟨[.int .i64 l2,.int .u8 l3]⟩,.agg ⟨[.int .i64 l5,.int .u8 l6]⟩] [.leaf (.i .i64)] j λl7 U=>A.k2 l7 λl8=>A.cmp .lss l8 0 λl9=>A.join (λm0 m1=>A.k2 m0 λy=>A.call 149 [.v c,.i y,.i a,.i g,.v e] m1 λm2 V=>A.unI m2 λo m3=>A.k4 m3 λm4=>A.ps o y λW=>A.ps a o λX=>A.pq l 8 λY=>A.cmp .lss W X λm5=>A.join (λm6 m7=>A.unB m6 λm8 m9=>A.k9 m9 λn0 n1=>k [.i f,.i n0,.b m4,.b m8,.i n1] m7) λZ=>A.cond m5 (A.cmp .geq W Y λn2=>A.call 121 [.v c,.i y,.i o,.i f,.v e] V λn3 n4=>A.un0 n3 (A.pa o 1 λn5=>Z [.b n2,.i n5,.i a] n4)) (A.cmp .geq X Y λn6=>A.pa o 1 λn7=>A.call 121 [.v c,.i n7,.i a,.i f,.v e] V λn8 n9=>A.un0 n8 (Z [.b n6,.i y,.i o] n9))) λo0=>A.cond (!l9) (A.c2 148 [.v c,.i d,.i a,.i g,.v e] U λo1 o2=>k [.i f,.i o2,.b u,.b s,.i a] o1) (o0 [.i d] U)) (A.call 149 [.v c,.i d,.i a,.i g,.v e] j λo3 a0=>A.unI o3 λp o4=>A.k4 o4 λo5=>A.ps p d λa1=>A.ps a p λa2=>A.pq l 8 λa3=>A.cmp .lss a1 a2 λo6=>A.join (λo7 o8=>A.unB o7 λo9 p0=>A.k9 p0 λp1 p2=>k [.i f,.i p1,.b o5,.b o9,.i p2] o8) λa4=>A.cond o6 (A.cmp .geq a1 a3 λp3=>A.call 121 [.v c,.i d,.i p,.i f,.v e] a0 λp4 p5=>A.un0 p4 (A.pa p 1 λp6=>a4 [.b p3,.i p6,.i a] p5)) (A.cmp .geq a2 a3 λp7=>A.pa p 1 λp8=>A.call 121 [.v c,.i p8,.i a,.i f,.v e] a0 λp9 q0=>A.un0 p9 (a4 [.b p7,.i d,.i p] q0))))) (A.cd .gtr d 0 (A.ps d 1 λq1=>A.ix 2 c q1 2 j λq2=>A.k17 q2 λq3 q4=>A.ix 2 c g 2 j λq5=>A.k17 q5 λq6 q7=>A.callv e [.agg ⟨[.int .i64 q3,.int .u8 q4]⟩,.agg ⟨[.int .i64 q6,.int .u8 q7]⟩] [.leaf (.i .i64)] j λq8 a5=>A.k2 q8 λq9=>A.cmp .lss q9 0 λr0=>A.join (λr1 r2=>A.k2 r1 λz=>A.call 149 [.v c,.i z,.i a,.i g,.v e] r2 λr3 a6=>A.unI r3 λq r4=>A.k4 r4 λr5=>A.ps q z λa7=>A.ps a q λa8=>A.pq l 8 λa9=>A.cmp .lss a7 a8 λr6=>A.join (λr7 r8=>A.unB r7 λr9 s0=>A.k9 s0 λs1 s2=>k [.i f,.i s1,.b r5,.b r9,.i s2] r8) λb0=>A.cond r6 (A.cmp .geq a7 a9 λs3=>A.call 121 [.v c,.i z,.i q,.i f,.v e] a6 λs4 s5=>A.un0 s4 (A.pa q 1 λs6=>b0 [.b s3,.i s6,.i a] s5)) (A.cmp .geq a8 a9 λs7=>A.pa q 1 λs8=>A.call 121 [.v c,.i s8,.i a,.i f,.v e] a6 λs9 t0=>A.un0 s9 (b0 [.b s7,.i z,.i q] t0))) λt1=>A.cond (!r0) (A.c2 148 [.v c,.i d,.i a,.i g,.v e] a5 λt2 t3=>k [.i f,.i t3,.b u,.b s,.i a] t2) (t1 [.i d] a5)) (A.call 149 [.v c,.i d,.i a,.i g,.v e] j λt4 b1=>A.unI t4 λr t5=>A.k4 t5 λt6=>A.ps r d λb2=>A.ps a r λb3=>A.pq l 8 λb4=>A.cmp .lss b2 b3 λt7=>A.join (λt8 t9=>A.unB t8 λu0 u1=>A.k9 u1 λu2 u3=>k [.i f,.i u2,.b t6,.b u0,.i u3] t9) λb5=>A.cond t7 (A.cmp .geq b2 b4 λu4=>A.call 121 [.v c,.i d,.i r,.i f,.v e] b1 λu5 u6=>A.un0 u5 (A.pa r 1 λu7=>b5 [.b u4,.i u7,.i a] u6)) (A.cmp .geq b3 b4 λu9=>A.pa r 1 λv0=>A.call 121 [.v c,.i v0,.i a,.i f,.v e] b1 λv1 v2=>A.un0 v1 (b5 [.b u9,.i d,.i r] v2))))) λb6=>A.cond e9 (A.call 146 [.v c,.i d,.i a,.v e] C λv3 v4=>A.un0 v3 (A.ps a 1 λv5=>A.ps D d λv6=>A.ps v5 v6 λv7=>b6 [.i v7,.i 1] v4)) (b6 [.i D,.i E] C)) λb7=>A.cond (!s) (A.call 144 [.v c,.i d,.i a,.v e] t λv8 v9=>A.un0 v8 (A.ps B 1 λw0=>b7 [.i w0] v9)) (b7 [.i B] t)))) [.i c3,.i b9,.b true,.b true,.i c1] h
def f122:R:=A.k2 ls λa=>A.c2 151 [.i a] h λb c=>K [.i c] b
def f123:R:=A.k13 ls λa b c e=>A.c2 46 [.i a,.i b] h λf g=>A.cd .neq g 0 (K [.i 0,.i 0,.i 0,.i g] f) (A.c0 50 [.i a,.i b,.i c,.i e] f λd j k l=>A.cd .neq l 0 (K [.i 0,.i 0,.i 0,.i 7] d) (A.eqs [(.i j,.i c),(.i k,.i e)] λm=>A.cond (!m) (K [.i 0,.i 0,.i 0,.i 7] d) (A.c0 92 [.i a,.i b,.i c] d λn o p q=>K [.i o,.i p,.i q,.i 0] n)))
def f124:R:=A.k13 ls λb c d e=>A.c2 97 [.i b,.i c,.i d] h λa p=>A.cd .neq p 0 (K [.i 0,.i 0,.i 1] a) (A.cd .gtr e 2 (K [.i 0,.i 0,.i 1] a) (A.opt (inB 4 d) λa2=>A.opt (mE gl1 0 [(d,17)] 17) λq=>A.ucI .i64 q λa3 r=>A.ucI .i64 r λa4 s=>A.ucI .u8 s λf t=>A.ucI .i64 t λg u=>A.ucI .i64 u λa5 v=>A.ucI .i64 v λa6 w=>A.ucI .u8 w λa7 x=>A.ucI .i64 x λa8 y=>A.ucI .i64 y λa9 z=>A.ucI .u8 z λb0 B=>A.ucI .i64 B λb1 C=>A.ucI .i64 C λb2 D=>A.ucI .u8 D λb3 E=>A.ucI .i64 E λb4 F=>A.ucI .i64 F λb5 G=>A.k10 G λb6 b7=>A.pa b g λH=>A.cmp .eql e 1 λI=>A.join (λJ L=>A.k9 J λj k=>A.c2 85 [.i j,.i k] L λl M=>A.cd .neq M 0 (K [.i 0,.i 0,.i 3] l) (K [.i j,.i k,.i 0] l)) λm=>A.cond I (A.pa b c λN=>A.pa N 1 λO=>m [.i 3,.i O] a) (A.cmp .eql e 2 λP=>A.join (λQ S=>A.k9 Q λT U=>m [.i T,.i U] S) λn=>A.cond P (A.ps c b λV=>n [.i 4,.i V] a) (A.cmp .eql f 2 λW=>A.join (λX Y=>A.k9 X λZ a0=>n [.i Z,.i a0] Y) λo=>A.cond W (A.pa c g λa1=>o [.i f,.i a1] a) (o [.i f,.i H] a)))))
def f125:R:=A.k0 ls λa b g=>A.pm 2 a λc=>A.pa c 1 λd=>A.pm 2 b λe=>A.pa e 1 λf=>K [.i d,.i f] h
def f126:R:=A.k15 ls λa b c d e=>A.c2 57 [.i a,.i b,.i c] h λf m=>A.cd .neq m 0 (K [.i 0,.i 0,.i 1] f) (A.c2 83 [.i d,.i e] f λg n=>A.cd .neq n 0 (K [.i 0,.i 0,.i 1] g) (A.opt (inB 8 a) λC=>A.opt (mE gl0 0 [(a,4)] 4) λo=>A.ucI .i64 o λp q=>A.ucI .i64 q λr s=>A.k10 s λt u=>A.c9 93 [.i p,.i r,.i t,.i u,.i d,.i e] g λv w x=>A.pm 2 b λy=>A.pa w y λj=>A.pm 2 c λz=>A.pa x z λk=>A.c2 83 [.i j,.i k] v λl B=>A.cd .neq B 0 (K [.i 0,.i 0,.i 3] l) (K [.i j,.i k,.i 0] l)))
def f127:R:=A.unV ls λa c=>A.k5 c λd=>A.c2 152 [.v a,.v d] h λe f=>A.cmp .geq f 0 λg=>K [.b g] e
def f128:R:=A.k0 ls λa c d=>A.c2 97 [.i a,.i c,.i d] h λe f=>A.cmp .neq f 0 λg=>K [.b g] e
def f130:R:=A.k5 ls λc=>A.ln c λf=>A.loop (λg j a=>A.k2 j λb=>A.cd .lss b f (A.ix 2 c b 2 a λk=>A.k10 k λl m=>A.c2 136 [.i l,.i m] a λd e=>A.cd .neq e 0 (K [.i e] d) (A.pa b 1 λn=>g [.i n] d)) (K [.i 0] a)) [.i 0] h
def f131:R:=A.k9 ls λb c=>A.c2 46 [.i b,.i c] h λd e=>A.cd .neq e 0 (K [.v (.slice none 0 0),.i e] d) (A.new (.cells [.slice none 0 0] 1 true) d λf j=>A.c5 161 [.i b,.i c] j λk l=>A.rfun 2096 l [.pointer (some ⟨f,0,none⟩)] k λm a=>A.pend m (A.peek (.lg cc 1 (.pointer (some ⟨f,0,none⟩))) a λn=>A.ucV n λg o=>A.chk g (A.uc0 o (A.c5 134 [.v g] a λp q=>K [.v q,.i 0] p))) (K [.v (.slice none 0 0),.i 0] a) [])
def f132:R:=A.k13 ls λb c d e=>A.c0 90 [.i b,.i c,.i d,.i e] h λf a g s=>A.c15 138 [.i b,.i c,.i d,.i e] f λj k l m n t=>A.c2 162 [.i a,.i k,.i l] j λo p=>A.c2 162 [.i a,.i m,.i n] o λq r=>K [.i a,.i g,.i p,.i r] q
def f133:R:=A.k15 ls λc e f g j=>A.join (λk l=>A.k4 k λm=>K [.b m] l) λa=>A.cd .geq c 1 (A.cd .leq c 3 (A.c2 85 [.i e,.i f] h λd n=>A.cd .eql n 0 (A.cmp .lss g j λo=>a [.b o] d) (a [.b false] d)) (a [.b false] h)) (a [.b false] h)
def f134:R:=A.k5 ls λa=>A.ln a λc=>A.ln a λd=>A.opt (slS 2 a none (some c) (some d)) λb=>A.chk b (K [.v b] h)
def f135:R:=A.unV ls λc b8=>A.unI b8 λb9 c0=>A.k1 c0 λc1 c3 e=>A.loop (λc5 c6 t=>A.unI c6 λB c7=>A.unI c7 λd c8=>A.unB c8 λu d0=>A.unB d0 λs d1=>A.k2 d1 λa=>A.join (λd2 d3=>A.unI d2 λd4 d5=>A.unI d5 λd6 d7=>A.unB d7 λd8 d9=>A.unB d9 λe0 e1=>A.k2 e1 λe2=>c5 [.i d4,.i d6,.b d8,.b e0,.i e2] d3) λk=>A.ps a d λl=>A.cd .leq l 12 (A.call 163 [.v c,.i d,.i a,.v e] t λe3 e4=>A.un0 e3 (K [] e4)) (A.cd .eql B 0 (A.call 164 [.v c,.i d,.i a,.v e] t λe5 e6=>A.un0 e5 (K [] e6)) (A.join (λe7 e8=>A.k2 e7 λf=>A.c9 166 [.v c,.i d,.i a,.v e] e8 λC D E=>A.cmp .eql E 2 λe9=>A.join (λf0 j=>A.k9 f0 λg f1=>A.cond s (A.cond u (A.cmp .eql f1 1 λf2=>A.join (λf3 w=>A.un0 f3 (A.cd .gtr d 0 (A.ps d 1 λf4=>A.ix 3 c f4 3 w λf5=>A.k16 f5 λf6 f7 f8=>A.ix 3 c g 3 w λf9=>A.k16 f9 λg0 g1 g2=>A.callv e [.agg ⟨[.int .i64 f6,.int .u8 f7,.int .u8 f8]⟩,.agg ⟨[.int .i64 g0,.int .u8 g1,.int .u8 g2]⟩] [.leaf (.i .i64)] w λg3 F=>A.k2 g3 λg4=>A.cmp .lss g4 0 λg5=>A.join (λg6 g7=>A.k2 g6 λx=>A.call 170 [.v c,.i x,.i a,.i g,.v e] g7 λg8 G=>A.unI g8 λm g9=>A.k4 g9 λh0=>A.ps m x λH=>A.ps a m λI=>A.pq l 8 λJ=>A.cmp .lss H I λh1=>A.join (λh2 h3=>A.unB h2 λh4 h5=>A.k9 h5 λh6 h7=>k [.i f,.i h6,.b h0,.b h4,.i h7] h3) λL=>A.cond h1 (A.cmp .geq H J λh8=>A.call 135 [.v c,.i x,.i m,.i f,.v e] G λh9 i0=>A.un0 h9 (A.pa m 1 λi1=>L [.b h8,.i i1,.i a] i0)) (A.cmp .geq I J λi2=>A.pa m 1 λi3=>A.call 135 [.v c,.i i3,.i a,.i f,.v e] G λi4 i5=>A.un0 i4 (L [.b i2,.i x,.i m] i5))) λi6=>A.cond (!g5) (A.c2 169 [.v c,.i d,.i a,.i g,.v e] F λi7 i8=>k [.i f,.i i8,.b u,.b s,.i a] i7) (i6 [.i d] F)) (A.call 170 [.v c,.i d,.i a,.i g,.v e] w λi9 M=>A.unI i9 λn j0=>A.k4 j0 λj1=>A.ps n d λN=>A.ps a n λO=>A.pq l 8 λP=>A.cmp .lss N O λj2=>A.join (λj3 j4=>A.unB j3 λj5 j6=>A.k9 j6 λj7 j8=>k [.i f,.i j7,.b j1,.b j5,.i j8] j4) λQ=>A.cond j2 (A.cmp .geq N P λj9=>A.call 135 [.v c,.i d,.i n,.i f,.v e] M λk0 k3=>A.un0 k0 (A.pa n 1 λk5=>Q [.b j9,.i k5,.i a] k3)) (A.cmp .geq O P λk6=>A.pa n 1 λk7=>A.call 135 [.v c,.i k7,.i a,.i f,.v e] M λk8 l0=>A.un0 k8 (Q [.b k6,.i d,.i n] l0))))) λS=>A.cond f2 (A.c4 168 [.v c,.i d,.i a,.v e] j λT l1=>A.cond l1 (K [] T) (S [] T)) (S [] j)) (A.cd .gtr d 0 (A.ps d 1 λl2=>A.ix 3 c l2 3 j λl3=>A.k16 l3 λl4 l5 l6=>A.ix 3 c g 3 j λl7=>A.k16 l7 λl8 l9 m0=>A.callv e [.agg ⟨[.int .i64 l4,.int .u8 l5,.int .u8 l6]⟩,.agg ⟨[.int .i64 l8,.int .u8 l9,.int .u8 m0]⟩] [.leaf (.i .i64)] j λm1 U=>A.k2 m1 λm2=>A.cmp .lss m2 0 λm3=>A.join (λm4 m5=>A.k2 m4 λy=>A.call 170 [.v c,.i y,.i a,.i g,.v e] m5 λm6 V=>A.unI m6 λo m7=>A.k4 m7 λm8=>A.ps o y λW=>A.ps a o λX=>A.pq l 8 λY=>A.cmp .lss W X λm9=>A.join (λn0 n1=>A.unB n0 λn2 n3=>A.k9 n3 λn4 n5=>k [.i f,.i n4,.b m8,.b n2,.i n5] n1) λZ=>A.cond m9 (A.cmp .geq W Y λn6=>A.call 135 [.v c,.i y,.i o,.i f,.v e] V λn7 n8=>A.un0 n7 (A.pa o 1 λn9=>Z [.b n6,.i n9,.i a] n8)) (A.cmp .geq X Y λo0=>A.pa o 1 λo1=>A.call 135 [.v c,.i o1,.i a,.i f,.v e] V λo2 o3=>A.un0 o2 (Z [.b o0,.i y,.i o] o3))) λo4=>A.cond (!m3) (A.c2 169 [.v c,.i d,.i a,.i g,.v e] U λo5 o6=>k [.i f,.i o6,.b u,.b s,.i a] o5) (o4 [.i d] U)) (A.call 170 [.v c,.i d,.i a,.i g,.v e] j λo7 a0=>A.unI o7 λp o8=>A.k4 o8 λo9=>A.ps p d λa1=>A.ps a p λa2=>A.pq l 8 λa3=>A.cmp .lss a1 a2 λp0=>A.join (λp1 p2=>A.unB p1 λp3 p4=>A.k9 p4 λp5 p6=>k [.i f,.i p5,.b o9,.b p3,.i p6] p2) λa4=>A.cond p0 (A.cmp .geq a1 a3 λp7=>A.call 135 [.v c,.i d,.i p,.i f,.v e] a0 λp8 p9=>A.un0 p8 (A.pa p 1 λq0=>a4 [.b p7,.i q0,.i a] p9)) (A.cmp .geq a2 a3 λq1=>A.pa p 1 λq2=>A.call 135 [.v c,.i q2,.i a,.i f,.v e] a0 λq3 q4=>A.un0 q3 (a4 [.b q1,.i d,.i p] q4))))) (A.cd .gtr d 0 (A.ps d 1 λq5=>A.ix 3 c q5 3 j λq6=>A.k16 q6 λq7 q8 q9=>A.ix 3 c g 3 j λr0=>A.k16 r0 λr1 r2 r3=>A.callv e [.agg ⟨[.int .i64 q7,.int .u8 q8,.int .u8 q9]⟩,.agg ⟨[.int .i64 r1,.int .u8 r2,.int .u8 r3]⟩] [.leaf (.i .i64)] j λr4 a5=>A.k2 r4 λr5=>A.cmp .lss r5 0 λr6=>A.join (λr7 r8=>A.k2 r7 λz=>A.call 170 [.v c,.i z,.i a,.i g,.v e] r8 λr9 a6=>A.unI r9 λq s0=>A.k4 s0 λs1=>A.ps q z λa7=>A.ps a q λa8=>A.pq l 8 λa9=>A.cmp .lss a7 a8 λs2=>A.join (λs3 s4=>A.unB s3 λs5 s6=>A.k9 s6 λs7 s8=>k [.i f,.i s7,.b s1,.b s5,.i s8] s4) λb0=>A.cond s2 (A.cmp .geq a7 a9 λs9=>A.call 135 [.v c,.i z,.i q,.i f,.v e] a6 λt0 t1=>A.un0 t0 (A.pa q 1 λt2=>b0 [.b s9,.i t2,.i a] t1)) (A.cmp .geq a8 a9 λt3=>A.pa q 1 λt4=>A.call 135 [.v c,.i t4,.i a,.i f,.v e] a6 λt5 t6=>A.un0 t5 (b0 [.b t3,.i z,.i q] t6))) λt7=>A.cond (!r6) (A.c2 169 [.v c,.i d,.i a,.i g,.v e] a5 λt8 t9=>k [.i f,.i t9,.b u,.b s,.i a] t8) (t7 [.i d] a5)) (A.call 170 [.v c,.i d,.i a,.i g,.v e] j λu0 b1=>A.unI u0 λr u1=>A.k4 u1 λu2=>A.ps r d λb2=>A.ps a r λb3=>A.pq l 8 λb4=>A.cmp .lss b2 b3 λu3=>A.join (λu4 u5=>A.unB u4 λu6 u7=>A.k9 u7 λu9 v0=>k [.i f,.i u9,.b u2,.b u6,.i v0] u5) λb5=>A.cond u3 (A.cmp .geq b2 b4 λv1=>A.call 135 [.v c,.i d,.i r,.i f,.v e] b1 λv2 v3=>A.un0 v2 (A.pa r 1 λv4=>b5 [.b v1,.i v4,.i a] v3)) (A.cmp .geq b3 b4 λv5=>A.pa r 1 λv6=>A.call 135 [.v c,.i v6,.i a,.i f,.v e] b1 λv7 v8=>A.un0 v7 (b5 [.b v5,.i d,.i r] v8))))) λb6=>A.cond e9 (A.call 167 [.v c,.i d,.i a,.v e] C λv9 w0=>A.un0 v9 (A.ps a 1 λw1=>A.ps D d λw2=>A.ps w1 w2 λw3=>b6 [.i w3,.i 1] w0)) (b6 [.i D,.i E] C)) λb7=>A.cond (!s) (A.call 165 [.v c,.i d,.i a,.v e] t λw4 w5=>A.un0 w4 (A.ps B 1 λw6=>b7 [.i w6] w5)) (b7 [.i B] t)))) [.i c3,.i b9,.b true,.b true,.i c1] h
def f136:R:=A.k9 ls λb c=>A.c4 171 [.i b] h λe f=>A.c4 171 [.i c] e λa d=>A.cond f (A.cond d (K [.i 0] a) (K [.i (-1)] a)) (A.cond d (K [.i 1] a) (A.cd .lss b c (K [.i (-1)] a) (A.cd .gtr b c (K [.i 1] a) (K [.i 0] a))))
def f137:R:=A.k0 ls λk l b=>A.c2 97 [.i k,.i l,.i b] h λm u=>A.cd .neq u 0 (K [.i 0,.i 0,.i 0,.i 0,.i 0,.i 0,.i 1] m) (A.opt (inB 4 b) λb2=>A.opt (mE gl1 0 [(b,17)] 17) λv=>A.ucI .i64 v λb3 w=>A.ucI .i64 w λb4 x=>A.ucI .u8 x λb5 y=>A.ucI .i64 y λb6 z=>A.ucI .i64 z λb7 B=>A.ucI .i64 B λb8 C=>A.ucI .u8 C λb9 D=>A.ucI .i64 D λc0 E=>A.ucI .i64 E λc1 F=>A.ucI .u8 F λc3 G=>A.ucI .i64 G λc4 H=>A.ucI .i64 H λc5 I=>A.ucI .u8 I λc6 J=>A.ucI .i64 J λL M=>A.ucI .i64 M λN O=>A.k10 O λP Q=>A.loop (λS T n=>A.unI T λa U=>A.k14 U λc d e f g j=>A.cd .lss a 3 (A.opt (inB 3 a) λc7=>A.opt (eu [.i c,.i d,.i e,.i f,.i g,.i j] 0 [(a,2)] 1) λV=>A.k2 V λW=>A.pm 2 k λX=>A.pa W X λY=>A.opt (inB 3 a) λc8=>A.opt (putL [.i c,.i d,.i e,.i f,.i g,.i j] 0 [(a,2)] [.i Y]) λZ=>A.k14 Z λo p q r s t=>A.opt (inB 3 a) λc9=>A.opt (eu [.i o,.i p,.i q,.i r,.i s,.i t] 1 [(a,2)] 1) λa0=>A.k2 a0 λa1=>A.pm 2 l λa2=>A.pa a1 a2 λa3=>A.opt (inB 3 a) λd0=>A.opt (putL [.i o,.i p,.i q,.i r,.i s,.i t] 1 [(a,2)] [.i a3]) λa4=>A.k14 a4 λa5 a6 a7 a8 a9 b0=>A.pa a 1 λb1=>S [.i b1,.i a5,.i a6,.i a7,.i a8,.i a9,.i b0] n) (K [.i c,.i d,.i e,.i f,.i g,.i j,.i 0] n)) [.i 0,.i 1,.i 1,.i L,.i N,.i P,.i Q] m)
def f138:R:=A.k13 ls λt u v f=>A.c13 123 [.i t,.i u,.i v,.i f] h λg w x y j=>A.cd .neq j 0 (K [.i 0,.i 0,.i 0,.i 0,.i j] g) (A.call 137 [.i w,.i x,.i y] g λz e=>A.unI z λk B=>A.k14 B λl m n o p O=>A.ari .add .u8 f 1 λC=>A.ari .rem .u8 C 3 λq=>A.opt (inB 3 q) λP=>A.opt (eu [.i k,.i l,.i m,.i n,.i o,.i p] 0 [(q,2)] 2) λD=>A.k9 D λa c=>A.ari .add .u8 f 2 λE=>A.ari .rem .u8 E 3 λr=>A.opt (inB 3 r) λQ=>A.opt (eu [.i k,.i l,.i m,.i n,.i o,.i p] 0 [(r,2)] 2) λF=>A.k9 F λb d=>A.cd .lss b a (K [.i b,.i d,.i a,.i c,.i 0] e) (A.cd .eql b a (A.cmp .lss d c λG=>A.join (λH I=>A.k13 H λJ L M N=>K [.i J,.i L,.i M,.i N,.i 0] I) λs=>A.cond G (s [.i b,.i d,.i a,.i c] e) (s [.i a,.i c,.i b,.i d] e)) (K [.i a,.i c,.i b,.i d,.i 0] e)))
def f139:R:=A.k2 ls λa=>A.cmp .lss a (-1) λc=>A.sel c (-1) a λb=>A.cmp .lss 1 b λd=>A.sel d 1 b λe=>K [.i e] h
def f140:R:=A.unV ls λc d=>A.k9 d λe f=>A.ln c λg=>A.loop (λj k a=>A.k2 k λb=>A.cd .lss b g (A.ix 2 c b 2 a λl=>A.k10 l λm n=>A.eqs [(.i e,.i m),(.i f,.i n)] λo=>A.cond o (K [.i b] a) (A.pa b 1 λp=>j [.i p] a)) (K [.i (-1)] a)) [.i 0] h
def f141:R:=A.unV ls λa c=>A.k9 c λd e=>A.call 172 [.v a,.i d,.i e,.v (.func (.func 173) ⟨[]⟩ ⟨[]⟩)] h λf g=>A.unI f λj k=>A.k4 k λl=>K [.i j,.b l] g
def f142:R:=A.k18 ls λb f k l=>A.pa f 1 λm=>A.loop (λn o g=>A.k2 o λe=>A.cd .lss e k (A.join (λp q=>A.un0 p (A.pa e 1 λr=>n [.i r] q)) λj=>A.loop (λs t c=>A.k2 t λa=>A.cd .gtr a f (A.ix 2 b a 2 c λu=>A.k17 u λv w=>A.ps a 1 λx=>A.ix 2 b x 2 c λy=>A.k17 y λz B=>A.callv l [.agg ⟨[.int .i64 v,.int .u8 w]⟩,.agg ⟨[.int .i64 z,.int .u8 B]⟩] [.leaf (.i .i64)] c λC d=>A.k2 C λD=>A.cd .lss D 0 (A.ps a 1 λE=>A.ps a 1 λF=>A.ix 2 b F 2 d λG=>A.k17 G λH I=>A.ix 2 b a 2 d λJ=>A.k17 J λL M=>A.opt (idS 2 b a) λN=>A.heap (.st N [.int .i64 H,.int .u8 I]) d λT O=>A.opt (idS 2 b E) λP=>A.heap (.st P [.int .i64 L,.int .u8 M]) O λU Q=>A.ps a 1 λS=>s [.i S] Q) (j [] d)) (j [] c)) [.i e] g) (K [] g)) [.i m] h
def f151:R:=A.k2 ls λa=>A.cmp .geq a 4294967296 λm=>A.join (λn d=>A.k9 n λb e=>A.cmp .geq b 65536 λo=>A.join (λp f=>A.k9 p λc g=>A.cmp .geq c 256 λq=>A.join (λr s=>A.k9 r λt u=>A.conv .u8 t λv=>A.opt (strAt (.mk ⟨[.ofNat 0,.ofNat 1,.ofNat 2,.ofNat 2,.ofNat 3,.ofNat 3,.ofNat 3,.ofNat 3,.ofNat 4,.ofNat 4,.ofNat 4,.ofNat 4,.ofNat 4,.ofNat 4,.ofNat 4,.ofNat 4,.ofNat 5,.ofNat 5,.ofNat 5,.ofNat 5,.ofNat 5,.ofNat 5,.ofNat 5,.ofNat 5,.ofNat 5,.ofNat 5,.ofNat 5,.ofNat 5,.ofNat 5,.ofNat 5,.ofNat 5,.ofNat 5,.ofNat 6,.ofNat 6,.ofNat 6,.ofNat 6,.ofNat 6,.ofNat 6,.ofNat 6,.ofNat 6,.ofNat 6,.ofNat 6,.ofNat 6,.ofNat 6,.ofNat 6,.ofNat 6,.ofNat 6,.ofNat 6,.ofNat 6,.ofNat 6,.ofNat 6,.ofNat 6,.ofNat 6,.ofNat 6,.ofNat 6,.ofNat 6,.ofNat 6,.ofNat 6,.ofNat 6,.ofNat 6,.ofNat 6,.ofNat 6,.ofNat 6,.ofNat 6,.ofNat 7,.ofNat 7,.ofNat 7,.ofNat 7,.ofNat 7,.ofNat 7,.ofNat 7,.ofNat 7,.ofNat 7,.ofNat 7,.ofNat 7,.ofNat 7,.ofNat 7,.ofNat 7,.ofNat 7,.ofNat 7,.ofNat 7,.ofNat 7,.ofNat 7,.ofNat 7,.ofNat 7,.ofNat 7,.ofNat 7,.ofNat 7,.ofNat 7,.ofNat 7,.ofNat 7,.ofNat 7,.ofNat 7,.ofNat 7,.ofNat 7,.ofNat 7,.ofNat 7,.ofNat 7,.ofNat 7,.ofNat 7,.ofNat 7,.ofNat 7,.ofNat 7,.ofNat 7,.ofNat 7,.ofNat 7,.ofNat 7,.ofNat 7,.ofNat 7,.ofNat 7,.ofNat 7,.ofNat 7,.ofNat 7,.ofNat 7,.ofNat 7,.ofNat 7,.ofNat 7,.ofNat 7,.ofNat 7,.ofNat 7,.ofNat 7,.ofNat 7,.ofNat 7,.ofNat 7,.ofNat 7,.ofNat 7,.ofNat 7,.ofNat 7,.ofNat 8,.ofNat 8,.ofNat 8,.ofNat 8,.ofNat 8,.ofNat 8,.ofNat 8,.ofNat 8,.ofNat 8,.ofNat 8,.ofNat 8,.ofNat 8,.ofNat 8,.ofNat 8,.ofNat 8,.ofNat 8,.ofNat 8,.ofNat 8,.ofNat 8,.ofNat 8,.ofNat 8,.ofNat 8,.ofNat 8,.ofNat 8,.ofNat 8,.ofNat 8,.ofNat 8,.ofNat 8,.ofNat 8,.ofNat 8,.ofNat 8,.ofNat 8,.ofNat 8,.ofNat 8,.ofNat 8,.ofNat 8,.ofNat 8,.ofNat 8,.ofNat 8,.ofNat 8,.ofNat 8,.ofNat 8,.ofNat 8,.ofNat 8,.ofNat 8,.ofNat 8,.ofNat 8,.ofNat 8,.ofNat 8,.ofNat 8,.ofNat 8,.ofNat 8,.ofNat 8,.ofNat 8,.ofNat 8,.ofNat 8,.ofNat 8,.ofNat 8,.ofNat 8,.ofNat 8,.ofNat 8,.ofNat 8,.ofNat 8,.ofNat 8,.ofNat 8,.ofNat 8,.ofNat 8,.ofNat 8,.ofNat 8,.ofNat 8,.ofNat 8,.ofNat 8,.ofNat 8,.ofNat 8,.ofNat 8,.ofNat 8,.ofNat 8,.ofNat 8,.ofNat 8,.ofNat 8,.ofNat 8,.ofNat 8,.ofNat 8,.ofNat 8,.ofNat 8,.ofNat 8,.ofNat 8,.ofNat 8,.ofNat 8,.ofNat 8,.ofNat 8,.ofNat 8,.ofNat 8,.ofNat 8,.ofNat 8,.ofNat 8,.ofNat 8,.ofNat 8,.ofNat 8,.ofNat 8,.ofNat 8,.ofNat 8,.ofNat 8,.ofNat 8,.ofNat 8,.ofNat 8,.ofNat 8,.ofNat 8,.ofNat 8,.ofNat 8,.ofNat 8,.ofNat 8,.ofNat 8,.ofNat 8,.ofNat 8,.ofNat 8,.ofNat 8,.ofNat 8,.ofNat 8,.ofNat 8,.ofNat 8,.ofNat 8,.ofNat 8,.ofNat 8,.ofNat 8,.ofNat 8,.ofNat 8,.ofNat 8]⟩) v) λw=>A.ci w λx=>A.pa u x λy=>K [.i y] s) λj=>A.cond q (A.shf .shr .u64 c .u64 8 λz=>A.pa g 8 λB=>j [.i z,.i B] f) (j [.i c,.i g] f)) λk=>A.cond o (A.shf .shr .u64 b .u64 16 λC=>A.pa e 16 λD=>k [.i C,.i D] d) (k [.i b,.i e] d)) λl=>A.cond m (A.shf .shr .u64 a .u64 32 λE=>l [.i E,.i 32] h) (l [.i a,.i 0] h)
def f152:R:=A.unV ls λd f=>A.k5 f λg=>A.ln d λj=>A.loop (λk l c=>A.k2 l λa=>A.cd .lss a j (A.ix 3 d a 3 c λm=>A.k8 m λn o p=>A.callv g [.agg ⟨[.int .i64 n,.int .i64 o,.int .u8 p]⟩] [.leaf .b] c λq e=>A.k4 q λr=>A.cond r (K [.i a] e) (A.pa a 1 λs=>k [.i s] e)) (K [.i (-1)] c)) [.i 0] h
def f161:R:=A.k9 ls λb c=>A.new (.cells [.int .i64 b,.int .i64 c] 2 true) h λa d=>A.chk (.func (.func 182) ⟨[]⟩ ⟨[.pointer (some ⟨a,0,none⟩)]⟩) (K [.v (.func (.func 182) ⟨[]⟩ ⟨[.pointer (some ⟨a,0,none⟩)]⟩)] d)
def f162:R:=A.k0 ls λa b c=>A.cd .eql a 1 (K [.i c] h) (K [.i b] h)
def f163:R:=A.k18 ls λb f k l=>A.pa f 1 λm=>A.loop (λn o g=>A.k2 o λe=>A.cd .lss e k (A.join (λp q=>A.un0 p (A.pa e 1 λr=>n [.i r] q)) λj=>A.loop (λs t c=>A.k2 t λa=>A.cd .gtr a f (A.ix 3 b a 3 c λu=>A.k16 u λv w x=>A.ps a 1 λy=>A.ix 3 b y 3 c λz=>A.k16 z λB C D=>A.callv l [.agg ⟨[.int .i64 v,.int .u8 w,.int .u8 x]⟩,.agg ⟨[.int .i64 B,.int .u8 C,.int .u8 D]⟩] [.leaf (.i .i64)] c λE d=>A.k2 E λF=>A.cd .lss F 0 (A.ps a 1 λG=>A.ps a 1 λH=>A.ix 3 b H 3 d λI=>A.k16 I λJ L M=>A.ix 3 b a 3 d λN=>A.k16 N λO P Q=>A.opt (idS 3 b a) λS=>A.heap (.st S [.int .i64 J,.int .u8 L,.int .u8 M]) d λX T=>A.opt (idS 3 b G) λU=>A.heap (.st U [.int .i64 O,.int .u8 P,.int .u8 Q]) T λY V=>A.ps a 1 λW=>s [.i W] V) (j [] d)) (j [] c)) [.i e] g) (K [] g)) [.i m] h
def f171:R:=A.k2 ls λa=>A.cmp .neq a a λc=>K [.b c] h
def f172:R:=A.k18 ls λd g j k=>A.ln d λl=>A.loop (λp q c=>A.k9 q λa e=>A.cd .lss a e (A.pa a e λr=>A.conv .u64 r λs=>A.shf .shr .u64 s .u64 1 λt=>A.ci t λf=>A.ix 3 d f 3 c λu=>A.k16 u λv w x=>A.callv k [.agg ⟨[.int .i64 v,.int .u8 w,.int .u8 x]⟩,.agg ⟨[.int .i64 g,.int .u8 j]⟩] [.leaf (.i .i64)] c λy m=>A.k2 y λz=>A.cmp .lss z 0 λB=>A.join (λC D=>A.k9 C λE F=>p [.i E,.i F] D) λn=>A.cond B (A.pa f 1 λG=>n [.i G,.i e] m) (n [.i a,.i f] m)) (A.join (λH I=>A.unI H λJ L=>A.k4 L λM=>K [.i J,.b M] I) λo=>A.cd .lss a l (A.ix 3 d a 3 c λN=>A.k16 N λO P Q=>A.callv k [.agg ⟨[.int .i64 O,.int .u8 P,.int .u8 Q]⟩,.agg ⟨[.int .i64 g,.int .u8 j]⟩] [.leaf (.i .i64)] c λS T=>A.k2 S λU=>A.cmp .eql U 0 λV=>o [.i a,.b V] T) (o [.i a,.b false] c))) [.i 0,.i l] h
def f173:R:=A.k15 ls λa b c d e=>A.c9 51 [.i a,.i b,.i c] h λf g j=>A.c2 52 [.i g,.i j,.i d,.i e] f λk l=>K [.i l] k
def f182:R:=A.unV ls λl m=>A.k5 m λg=>A.peek (.lg cc 2 g) h λn=>A.k10 n λo p=>A.c2 88 [.i o,.i p] h λq r=>A.loop (λs t j=>A.k2 t λc=>A.cd .lss c r (A.loop (λd u e=>A.k2 u λa=>A.cd .lss a 3 (A.peek (.lg cc 2 g) e λv=>A.k10 v λw x=>A.c9 74 [.i w,.i x,.i c,.i a] e λf y z=>A.cd .eql z 0 (A.cd .gtr y c (A.callv l [.agg ⟨[.int .i64 c,.int .u8 a]⟩] [.leaf .b] f λB k=>A.k4 B λC=>A.join (λD E=>A.un0 D (A.ari .add .u8 a 1 λF=>d [.i F] E)) λG=>A.cond (!C) (K [] k) (G [] k)) (A.ari .add .u8 a 1 λH=>d [.i H] f)) (A.ari .add .u8 a 1 λI=>d [.i I] f)) (A.pa c 1 λJ=>s [.i J] e)) [.i 0] j) (K [] j)) [.i 0] q
end
inductive Pth where
 |e
 |o (p:Pth)
 |i (p:Pth)
inductive Tr(α:Type) where
 |leaf
 |node (v:α) (l r:Tr α)
def Pth.num:Pth->Nat
 | .e=>1
 | .o p=>2*p.num
 | .i p=>2*p.num+1
def pthF:Nat->Nat->Pth
 |0,_=>.e
 |f+1,n=>if Nat.ble n 1 then .e else if Nat.beq (n%2) 0 then .o (pthF f (n / 2))else .i (pthF f (n / 2))
def bE(n:Nat):Pth:=pthF (n+1) (n+1)
def Pth.get{α:Type}(d:α)(p:Pth):Tr α->α:=
 Pth.rec (motive:=λ_=>Tr α->α)
  (λt=>Tr.casesOn t d λv _ _=>v)
  (λ_ ih t=>Tr.casesOn t d λ_ l _=>ih l)
  (λ_ ih t=>Tr.casesOn t d λ_ _ r=>ih r) p
def Pth.setK{α:Type}(d:α)(p:Pth):Tr α->α->(Tr α->Bool)->Bool:=
 Pth.rec (motive:=λ_=>Tr α->α->(Tr α->Bool)->Bool)
  (λt x k=>Tr.casesOn t (k (.node x .leaf .leaf)) λ_ l r=>k (.node x l r))
  (λ_ ih t x k=>Tr.casesOn t (ih .leaf x λl=>k (.node d l .leaf)) λv l r=>ih l x λl=>k (.node v l r))
  (λ_ ih t x k=>Tr.casesOn t (ih .leaf x λr=>k (.node d .leaf r)) λv l r=>ih r x λr=>k (.node v l r)) p
def eqI:Int->Int->Bool
 | .ofNat a,.ofNat b=>Nat.beq a b
 | .negSucc a,.negSucc b=>Nat.beq a b
 |_,_=>false
def kmax:TH->Nat
 | .i8=>127
 | .i16=>32767
 | .i32=>2147483647
 | .i64=>9223372036854775807
 | .u8=>255
 | .u16=>65535
 | .u32=>4294967295
 | .u64=>18446744073709551615
def fits(k:TH):Int->Bool
 | .ofNat n=>Nat.ble n (kmax k)
 | .negSucc n=>k.signed&&Nat.ble n (kmax k)
abbrev Lin:=List Int
abbrev _root_.TC:=List Int
def dot:TC->TC->Int
 |c :: l,x :: ρ=>c*x+dot l ρ
 |_,_=>0
def Lin.eval(l:Lin)(ρ:TC):Int:=
 match l with
 | []=>0
 |c :: l=>c+dot l ρ
structure Ctx where
 iv:List (Int×Int)
 cs:List (List Int×Int×Int)
inductive Opd where
 |t (p:Pth)
 |c (v:Value)
inductive Ins where
 |mv (x:Opd)
 |pick (c a b:Opd)
 |ar (op:BinOp) (x y:Opd)
 |cmp (op:BinOp) (x y:Opd)
 |notb (x:Opd)
 |conv (k:TH) (x:Opd)
 |fld (x:Opd) (off:Nat)
 |flda (x:Opd) (off n:Nat)
 |ext (x:Opd) (i:Nat)
 |fad (x:Opd) (off:Nat)
 |lload (s:Nat) (p:Pth) (a:Opd)
 |lloada (s:Nat) (p:Pth) (n:Nat) (a:Opd)
 |lbox (s:Nat) (p:Pth) (x:Opd)
 |lnew (s:Nat) (p:Pth) (vs:Tl)
 |bld (z:Tl) (ps:List (Nat×Nat×Opd))
 |lstore (s:Nat) (p:Pth) (n:Nat) (a x:Opd)
 |call (f:TQ) (args:List Opd)
 |gen
abbrev TV:=Tr Value
abbrev TL:=Tr (Option (Tl))
def rd(tm:TV):Opd->Value
 | .t p=>p.get undef tm
 | .c v=>v
structure XCfg where
 C:Cfg
 kf:TQ->Tl->Ts->Option (Value×List HObj)
abbrev KS:=Ctx->TV->TL->Ts->Bool
structure XS where
 call:Ctx->TQ->Tl->Ts->(Ctx->Value->Ts->Bool)->Bool
 yield:Ctx->Nat->Tl->Ts->(Ctx->Value->Ts->Bool)->Bool
 ex:Ctx->Tz->Nat->Code->TV->TL->Ts->KS->(Exit->KS)->Bool
def xV:∀(f n:Nat),n<=f->1<=n->(pthF f n).num=n
 |0,n,h,h1=>by omega
 |f+1,n,h,h1=>by
  unfold pthF
  by_cases hn:n<=1
  ·have:n=1:=by omega
   subst this
   rfl
  ·have h2:Nat.ble n 1=false:=by
    rw[←qaT,qbb];exact hn
   rw[h2]
   have ih:=xV f (n / 2) (by omega) (by omega)
   by_cases hm:n%2=0
   ·simp[hm,Pth.num,ih];omega
   ·simp[hm,Pth.num,ih];omega
def qD(n:Nat):(bE n).num=n+1:=xV _ _ (qao _) (by omega)
def lG{a b:Nat}(h:bE a=bE b):a=b:=by
 have:=congrArg Pth.num h
 rw[qD,qD]at this
 omega
def Pth.set{α:Type}(d:α):Pth->Tr α->α->Tr α
 | .e,.leaf,x=>.node x .leaf .leaf
 | .e,.node _ l r,x=>.node x l r
 | .o p,.leaf,x=>.node d (Pth.set d p .leaf x) .leaf
 | .o p,.node v l r,x=>.node v (Pth.set d p l x) r
 | .i p,.leaf,x=>.node d .leaf (Pth.set d p .leaf x)
 | .i p,.node v l r,x=>.node v l (Pth.set d p r x)
def Pth.setK_eq{α:Type}(d:α):∀(p:Pth) (t:Tr α) (x:α) (k:Tr α->Bool),p.setK d t x k=k (p.set d t x)
 | .e,t,x,k=>by cases t<;>rfl
 | .o p,t,x,k=>by
  cases t with
  |leaf=>exact Pth.setK_eq d p .leaf x _
  |node v l r=>exact Pth.setK_eq d p l x _
 | .i p,t,x,k=>by
  cases t with
  |leaf=>exact Pth.setK_eq d p .leaf x _
  |node v l r=>exact Pth.setK_eq d p r x _
def Pth.get_leaf{α:Type}(d:α)(p:Pth):p.get d .leaf=d:=by cases p<;>rfl
def Pth.get_set{α:Type}(d:α):∀(p:Pth) (t:Tr α) (x:α),p.get d (p.set d t x)=x
 | .e,t,x=>by cases t<;>rfl
 | .o p,t,x=>by
  cases t with
  |leaf=>exact Pth.get_set d p .leaf x
  |node v l r=>exact Pth.get_set d p l x
 | .i p,t,x=>by
  cases t with
  |leaf=>exact Pth.get_set d p .leaf x
  |node v l r=>exact Pth.get_set d p r x
def Pth.get_set_ne{α:Type}(d:α):∀(p q:Pth) (t:Tr α) (x:α),q≠p->q.get d (p.set d t x)=q.get d t
 | .e,q,t,x,h=>by cases q<;>cases t<;>first|rfl|exact absurd rfl h|exact Pth.get_leaf d _
 | .o p,q,t,x,h=>by
  cases q with
  |e=>cases t<;>rfl
  |o q=>
   have hq:q≠p:=λe=>h (e▸rfl)
   cases t with
   |leaf=>exact(Pth.get_set_ne d p q .leaf x hq).trans (Pth.get_leaf d q)
   |node v l r=>exact Pth.get_set_ne d p q l x hq
  |i q=>
   cases t with
   |leaf=>exact Pth.get_leaf d q
   |node v l r=>rfl
 | .i p,q,t,x,h=>by
  cases q with
  |e=>cases t<;>rfl
  |i q=>
   have hq:q≠p:=λe=>h (e▸rfl)
   cases t with
   |leaf=>exact(Pth.get_set_ne d p q .leaf x hq).trans (Pth.get_leaf d q)
   |node v l r=>exact Pth.get_set_ne d p q r x hq
  |o q=>
   cases t with
   |leaf=>exact Pth.get_leaf d q
   |node v l r=>rfl
def Tr.map{α:Type}(f:α->α):Tr α->Tr α
 | .leaf=>.leaf
 | .node v l r=>.node (f v) (l.map f) (r.map f)
def eqI_iff{a b:Int}:eqI a b=true↔a=b:=by
 cases a<;>cases b<;>simp[eqI]<;>omega
def fits_iff{k:TH}{c:Int}(h:fits k c=true):(k.signed=true->-(kmax k:Int) - 1<=c)/\(k.signed=false->0<=c)/\c<=kmax k:=by
 cases c with
 |ofNat n=>
  simp only[fits,qbb]at h
  refine⟨λ_=>?_,λ_=>?_,?_⟩<;>simp<;>omega
 |negSucc n=>
  simp only[fits,qaa,qbb]at h
  refine⟨λ_=>?_,λhs=>?_,?_⟩
  ·omega
  ·rw[h.1]at hs;cases hs
  ·omega
def tV{k:TH}{c:Int}(h:fits k c=true):k.wrap c=c:=by
 obtain⟨h1,h2,h3⟩:=fits_iff h
 cases k<;>simp only[IntKind.signed,kmax,forall_const,reduceCtorEq,false_implies]at h1 h2 h3
 ·exact Go.IntWalk.i8_in c (by omega)
 ·exact Go.IntWalk.i16_in c (by omega)
 ·exact Go.IntWalk.i32_in c (by omega)
 ·exact Go.IntWalk.i64_in c (by omega)
 ·exact Go.IntWalk.u8_in c (by omega)
 ·exact Go.IntWalk.u16_in c (by omega)
 ·exact Go.IntWalk.u32_in c (by omega)
 ·exact Go.IntWalk.u64_in c (by omega)
section
variable [Val] {ρ:TC}
def pX(op:BinOp)(x y:Int):Option Bool:=
 match op with
 | .eql=>some (x==y)
 | .neq=>some (x != y)
 | .lss=>some (decide (x<y))
 | .leq=>some (decide (x<=y))
 | .gtr=>some (decide (x > y))
 | .geq=>some (decide (x ≥ y))
 |_=>none
def qV(op:BinOp)(k:TH)(x y n:Int):Prop:=∀(P:TG) (t:TP) (w:World),(binOp op t (.int k x) (.int k y)).run P w = .ok (.int k n) w
def bits_one{k:TH}(x:Int):((BitVec.ofInt k.bits x &&& BitVec.ofInt k.bits 1).toNat:Int)=x%2:=by
 have hb:k.bits=k.bits - 1+1:=by cases k<;>rfl
 generalize k.bits - 1=n at hb
 rw[hb]
 have h1:(BitVec.ofInt (n+1) 1).toNat=1:=by
  simp
 rw[BitVec.toNat_and,h1,Nat.and_one_is_mod,BitVec.toNat_ofInt]
 have hp:(0:Int)<2 ^ (n+1):=Int.pow_pos (by omega)
 have e:(2:Int) ^ (n+1)=2*2 ^ n:=by rw[Int.pow_succ];omega
 have h0:0<=x%(2 ^ (n+1):Int):=qdJ _ (by omega)
 have:((x%((2 ^ (n+1):Nat):Int)).toNat%2:Nat)=((x%(2 ^ (n+1):Int))%2:Int):=by
  have e2:((2 ^ (n+1):Nat):Int)=(2 ^ (n+1):Int):=by simp
  rw[e2]
  omega
 rw[this,e,Int.emod_emod_of_dvd _ ⟨2 ^ n,rfl⟩]
def pc{k:TH}{x n:Int}(hn:x%2=n):qV .and k x 1 n:=by
 intro P t w
 have hw:k.wrap n=n:=tV (by
  have h0:0<=n:=by omega
  have h1:n<=1:=by omega
  obtain⟨m,rfl⟩ : ∃m:Nat,n=m:=⟨n.toNat,by omega⟩
  show Nat.ble m (kmax k)=true
  rw[qbb]
  cases k<;>simp only[kmax]<;>omega)
 have hb:=bits_one (k:=k) x
 simp only[binOp,ne_eq,not_true_eq_false,if_false,Op.intBits]
 show Result.ok (Value.int k (k.wrap _)) w=_
 rw[hb,hn,hw]
end
section
variable [Val] {ρ:TC}
structure Rep(pts:Tz)(nt:Nat)(tm:TV)(lc:TL)(σ:St):Prop where
 len:σ.tmps.length=nt
 val:∀(i:Nat) v,σ.tmps[i]?=some v->(bE i).get undef tm=v
 llen:pts≠[]->σ.loc.length=nt
 loc:∀(i:Nat) x,σ.loc[i]?=some x->(bE i).get none lc=x
def ValStep(C:Cfg)(pts:Tz)(σ:St)(o:Oper)(v:Value):Prop:=
 (∃e,am C pts (oval σ.tmps) o=some e/\aR σ e=some (σ,v))∨jo C σ.tmps o v
def ValStep.val{C:Cfg}{pts:Tz}{σ:St}{o:Oper}{v:Value}(h:am C pts (oval σ.tmps) o=some (.val v)):ValStep C pts σ o v:=.inl ⟨_,h,rfl⟩
def pD(k:TH)(x:Int):k.wrap (x%(2 ^ k.bits:Int))=k.wrap x:=by
 unfold IntKind.wrap
 rw[Int.emod_emod_of_dvd _ (Int.dvd_refl _)]
def wh{k:TH}(m n:Nat):qV .and k m n (k.wrap (Nat.land m n:Nat)):=by
 intro P t w
 simp only[binOp,ne_eq,not_true_eq_false,if_false,Op.intBits]
 show Result.ok (Value.int k (k.wrap _)) w=_
 rw[←pD k (Nat.land m n:Nat)]
 congr 3
 have h2:∀x:Nat,(BitVec.ofInt k.bits (x:Int)).toNat=x%2 ^ k.bits:=λx=>by
  rw[BitVec.toNat_ofInt]
  have:((x:Int)%((2 ^ k.bits:Nat):Int))=((x%2 ^ k.bits:Nat):Int):=by simp
  rw[this,qcZ]
 have h3:(BitVec.ofInt k.bits (m:Int) &&& BitVec.ofInt k.bits (n:Int)).toNat=(m &&& n)%2 ^ k.bits:=by
  rw[BitVec.toNat_and,h2,h2,Nat.and_mod_two_pow]
 rw[h3]
 simp
def wk{k:TH}(m n:Nat):qV .xor k m n (k.wrap (Nat.xor m n:Nat)):=by
 intro P t w
 simp only[binOp,ne_eq,not_true_eq_false,if_false,Op.intBits]
 show Result.ok (Value.int k (k.wrap _)) w=_
 rw[←pD k (Nat.xor m n:Nat)]
 congr 3
 have h2:∀x:Nat,(BitVec.ofInt k.bits (x:Int)).toNat=x%2 ^ k.bits:=λx=>by
  rw[BitVec.toNat_ofInt]
  have:((x:Int)%((2 ^ k.bits:Nat):Int))=((x%2 ^ k.bits:Nat):Int):=by simp
  rw[this,qcZ]
 have h3:(BitVec.ofInt k.bits (m:Int) ^^^ BitVec.ofInt k.bits (n:Int)).toNat=(m ^^^ n)%2 ^ k.bits:=by
  rw[BitVec.toNat_xor,h2,h2,Nat.xor_mod_two_pow]
 rw[h3]
 simp
def zo{k:TH}(m n:Nat):qV .or k m n (k.wrap (Nat.lor m n:Nat)):=by
 intro P t w
 simp only[binOp,ne_eq,not_true_eq_false,if_false,Op.intBits]
 show Result.ok (Value.int k (k.wrap _)) w=_
 rw[←pD k (Nat.lor m n:Nat)]
 congr 3
 have h2:∀x:Nat,(BitVec.ofInt k.bits (x:Int)).toNat=x%2 ^ k.bits:=λx=>by
  rw[BitVec.toNat_ofInt]
  have:((x:Int)%((2 ^ k.bits:Nat):Int))=((x%2 ^ k.bits:Nat):Int):=by simp
  rw[this,qcZ]
 have h3:(BitVec.ofInt k.bits (m:Int) ||| BitVec.ofInt k.bits (n:Int)).toNat=(m ||| n)%2 ^ k.bits:=by
  rw[BitVec.toNat_or,h2,h2,Nat.or_mod_two_pow]
 rw[h3]
 simp
end
section
variable {R:Type}
def setK_eq{α:Type}(x:α):∀(l:List α) (i:Nat) (k:List α->R),setK x l i k=k (l.set i x)
 | [],_,_=>rfl
 |_ :: _,0,_=>rfl
 |a :: l,i+1,k=>setK_eq x l i λl=>k (a :: l)
def vI(n:Nat)(K:Nat->R):rP n K=K n:=by cases n<;>rfl
end
def SL.good:SL->Prop
 | .v x=>aT x=true
 |_=>True
def S0.good(x:S0):Prop:=∀l∈x.cells,l.good
def SV.gd:SV->Prop
 | .st x=>x.good
 | .tup xs=>(∀x∈xs,x.good)/\2<=xs.length
 | .no=>False
 |_=>True
def dZ{x:Value}:aT x=true↔noLoc x=true/\bn x=true/\aY x=true/\aJ x=false:=by
 unfold aT
 cases noLoc x<;>cases bn x<;>cases aY x<;>cases aJ x<;>simp
def qf{x:Value}(h:aT x=true):be x=true:=by
 obtain⟨h1,_,h2,_⟩:=dZ.1 h
 simp[be,h1,h2]
def vJ{x:Value}(h:aT x=true):x.cells = #[x]:=en (dZ.1 h).2.2.1
def SL.val_good{l:SL}(h:l.good):aT l.val=true:=by
 cases l with
 |v x=>exact h
 |_=>rfl
def S0.cells_val{x:S0}(h:x.good):x.val.cells=⟨x.cells.map SL.val⟩:=by
 cases x with
 |leaf l=>exact vJ (SL.val_good (h l (by simp[S0.cells])))
 |agg cs=>rfl
def S0.noLoc{x:S0}(h:x.good):noLoc x.val=true:=by
 cases x with
 |leaf l=>exact(dZ.1 (SL.val_good (h l (by simp[S0.cells])))).1
 |agg cs=>
  simp only[S0.val,Am.noLoc,qab,qaK]
  rintro _ ⟨l,hl,rfl⟩
  exact(dZ.1 (SL.val_good (h l hl))).2.1
def S0.not_tuple{x:S0}(h:x.good):aJ x.val=false:=by
 cases x with
 |leaf l=>exact(dZ.1 (SL.val_good (h l (by simp[S0.cells])))).2.2.2
 |agg cs=>rfl
def S0.cells_ok{x:S0}(h:x.good):x.val.cells.toList.all be=true:=by
 rw[S0.cells_val h]
 simp only[qab,qaK]
 rintro _ ⟨l,hl,rfl⟩
 exact qf (SL.val_good (h l hl))
def cells_ok'{cs:List SL}(h:∀l∈cs,l.good):(cs.map SL.val).all be=true:=by
 simp only[qab,qaK]
 rintro _ ⟨l,hl,rfl⟩
 exact qf (SL.val_good (h l hl))
def wl{v:Value}(h:scalar v=true):aT v=true:=by
 cases v<;>first|rfl|(simp[scalar]at h;done)|skip
 case pointer a=>cases a<;>first|rfl|simp[scalar]at h
 case slice a l c=>
  cases a with
  |none=>rfl
  |some a=>cases l<;>cases c<;>simp[scalar]at h
def sN(v:Value):(slOf v).val=v:=by cases v<;>rfl
def pg{v:Value}(h:scalar v=true):(slOf v).good:=by
 cases v<;>first|trivial|exact wl h
def sJ{v:Value}{x:S0}(h:s0Of v=some x):x.val=v/\x.good/\fF v=true:=by
 unfold s0Of at h
 split at h
 next cs=>
  split at h
  next ha=>
   cases h
   refine⟨?_,?_,ha⟩
   ·simp only[S0.val,qds,Value.agg.injEq]
    have:(SL.val ∘ slOf)=id:=funext sN
    rw[this,List.map_id]
   ·intro l hl
    simp only[S0.cells,qaK]at hl
    obtain⟨v,hv,rfl⟩:=hl
    exact pg (qab.1 ha v hv)
  ·cases h
 next hne=>
  split at h
  next hs=>
   cases h
   refine⟨sN v,?_,?_⟩
   ·intro l hl
    simp only[S0.cells,qaw]at hl
    subst hl
    exact pg hs
   ·cases v<;>first|exact hs|exact absurd rfl (hne _)
  ·cases h
def dd{a b:TH}(h:dC a b=true):a=b:=by
 cases a<;>cases b<;>first|rfl|cases h
def dM(a:TH):dC a a=true:=by cases a<;>rfl
section
variable [Val] [Kno]
def Told(sks:TK)(ls:TE)(xs:List S0):Prop:=bQ xs sks=true/\bT xs=ls/\∀x∈xs,x.good
def aw(C:Cfg)(Sg:Tc)(g:TQ)(ls:TE)(H:Ts)(rs:TE)(H':Ts):Prop:=
 ∃sg xs ys,Sg g=some sg/\Told sg.ps ls xs/\Told sg.rs rs ys/\iO C g (ah xs) H (eH (ah ys)) H'
def th(C:Cfg)(v:Value)(args:Tl)(hs:TK)(H:Ts)(rs:TE)(H':Ts):Prop:=
 ∃ys,Told hs rs ys/\((∃g first cap,v = .func (.func g) first cap/\iO C g (first.toList++args++cap.toList) H (eH (ah ys)) H')∨
  (∃l,v = .func (.yield l) #[] #[]/\fZ C l args H (eH (ah ys)) H'))
def pI(nt:Nat):List (Nat×SK)->Tl->Tl->List Value
 |(t,_) :: l,v :: vs,tm=>pI nt l vs (tm.set t v)
 |_,_,tm=>tm
def lpOf(s:Site)(κ:Nat)(vals:Tl):ALoop:=
 { state:=.ready,pending:=none,fn:=κ,tmps:=pI s.nt s.caps vals (List.replicate s.nt poison),params:=s.params.map (·.1),assign:=s.assign.erase qu,body:=s.body.erase qu }
def gY:Lf->Lf->Bool
 | .i a,.i b=>a==b
 | .b a,.b b=>a==b
 |_,_=>false
def ch(l:List (Lf×Lf)):Bool:=l.all λp=>gY p.1 p.2
def ShRun(op:BinOp)(k:TH)(x:Int)(k':TH)(y n:Int):Prop:=∀(P:TG) (t:TP) (w:World),(binOp op t (.int k x) (.int k' y)).run P w = .ok (.int k n) w
abbrev _root_.Tt:=Nat->Site
structure AlgOk{R HT:Type}(A:Alg R HT)(C:Cfg)(Sg:Tc)(T:Tt)(holds:R->Prop)(abs:HT->Ts):Prop where
 fail:¬holds A.fail
 cond:∀b x y,holds (A.cond b x y)->(b=true/\holds x)∨(b=false/\holds y)
 ari:∀op k a b K,holds (A.ari op k a b K)->∃n,qV op k a b n/\holds (K n)
 shf:∀op k a k' b K,holds (A.shf op k a k' b K)->∃n,ShRun op k a k' b n/\holds (K n)
 cmp:∀op a b K,holds (A.cmp op a b K)->∃t,pX op a b=some t/\holds (K t)
 eqs:∀l K,holds (A.eqs l K)->holds (K (ch l))
 conv:∀k a K,holds (A.conv k a K)->holds (K (k.wrap a))
 sel:∀t a b K,holds (A.sel t a b K)->holds (K (if t then a else b))
 opt:∀ {α:Type} (o:Option α) K,holds (A.opt o K)->∃x,o=some x/\holds (K x)
 chk:∀v K,holds (A.chk v K)->aT v=true/\holds K
 unI:∀ls K,holds (A.unI ls K)->∃n r,ls = .i n :: r/\holds (K n r)
 unB:∀ls K,holds (A.unB ls K)->∃t r,ls = .b t :: r/\holds (K t r)
 unV:∀ls K,holds (A.unV ls K)->∃x r,ls = .v x :: r/\holds (K x r)
 un0:∀ls K,holds (A.un0 ls K)->ls=[]/\holds K
 ucI:∀k ls K,holds (A.ucI k ls K)->∃n r,ls = .int k n :: r/\holds (K n r)
 ucB:∀ls K,holds (A.ucB ls K)->∃t r,ls = .bool t :: r/\holds (K t r)
 ucV:∀ls K,holds (A.ucV ls K)->∃x r,ls=x :: r/\holds (K x r)
 uc0:∀ls K,holds (A.uc0 ls K)->ls=[]/\holds K
 peek:∀f h K,holds (A.peek f h K)->∃cs,f.run (λi=>(abs h)[i]?)=some cs/\holds (K cs)
 heap:∀f h K,holds (A.heap f h K)->∃acts cs h',f.run (λi=>(abs h)[i]?) (abs h).length=some (acts,cs)/\abs h'=gP (abs h) acts/\holds (K cs h')
 new:∀o h K,holds (A.new o h K)->∃h',abs h'=abs h++[o]/\holds (K (abs h).length h')
 call:∀g ls h K,holds (A.call g ls h K)->∃rs h',aw C Sg g ls (abs h) rs (abs h')/\holds (K rs h')
 callv:∀v args hs h K,holds (A.callv v args hs h K)->∃rs h',th C v args hs (abs h) rs (abs h')/\holds (K rs h')
 join:∀b m,holds (A.join b m)->holds (m b)
 loop:∀F ls h,holds (A.loop F ls h)->∃it:Nat->TE->HT->R,(∀ls h,¬holds (it 0 ls h))/\(∀n ls h,it (n+1) ls h=F (it n) ls h)/\∃n,holds (it n ls h)
 rfun:∀κ v vals h K,holds (A.rfun κ v vals h K)->∃g first cap r H1 lp h2,v = .func (.func g) first cap/\
  iO C g (first.toList++[.func (.yield (abs h).length) #[] #[]]++cap.toList) (abs h++[.loop (lpOf (T κ) κ vals)]) r H1/\
  ea H1 (abs h).length=some lp/\lp.state≠.busy/\abs h2=H1.set (abs h).length (.loop { lp with state:=.exhausted })/\holds (K lp.pending h2)
 pend:∀pd kn kr ks,holds (A.pend pd kn kr ks)->(pd=none/\holds kn)∨(pd=some .ret/\holds kr)∨∃id x,pd=some (.exit id)/\(id,x)∈ks/\holds x
 lp1:∀l h K,holds (A.lp1 l h K)->∃lp h',ea (abs h) l=some lp/\lp.state = .ready/\abs h'=(abs h).set l (.loop { lp with state:=.busy })/\holds (K h')
 lp2:∀l j h K,holds (A.lp2 l j h K)->∃lp h',ea (abs h) l=some lp/\abs h'=(abs h).set l (.loop { lp with state:=if j.isNone then .ready else .done,pending:=j })/\holds (K h')
def SV.ok(tmps:Tl)(i:Nat)(s:SV):Prop:=
 match s with
 | .no=>True
 |s=>tmps[i]?=some s.val/\s.gd
def LR.ok(loc:List (Option (Tl)))(i:Nat):LR->Prop
 | .unk=>True
 | .nil=>loc[i]?=some none
 | .any n=>∃vs,loc[i]?=some (some vs)/\vs.length=n
 | .row cs=>loc[i]?=some (some (cs.map SL.val))/\∀c∈cs,c.good
structure Rp(ev:Env)(σ:St):Prop where
 len:ev.tm.length=σ.tmps.length
 val:∀(i:Nat) s,ev.tm[i]?=some s->s.ok σ.tmps i
 llen:ev.lc.length=σ.loc.length
 row:∀(i:Nat) r,ev.lc[i]?=some r->r.ok σ.loc i
def SV.ok_gd{tmps:Tl}{i:Nat}{s:SV}(h:s.gd)(hv:tmps[i]?=some s.val):s.ok tmps i:=by
 cases s<;>first|trivial|exact⟨hv,h⟩
def Rp.at{ev:Env}{σ:St}(h:Rp ev σ){t:Nat}{s:SV}(hs:ev.tm.getD t .no=s)(hn:s≠.no):σ.tmps[t]?=some s.val/\s.gd:=by
 rw[List.getD_eq_getElem?_getD]at hs
 cases he:ev.tm[t]? with
 |none=>rw[he]at hs;exact absurd hs.symm hn
 |some x=>
  rw[he]at hs
  simp only[qbh]at hs
  subst hs
  have:=h.val t x he
  cases x<;>first|exact this|exact absurd rfl hn
def Rp.sval{ev:Env}{σ:St}(h:Rp ev σ){x:TJ}{s:SV}(hs:sval ev x=s)(hn:s≠.no):oval σ.tmps x=s.val/\s.gd:=by
 cases x with
 |tmp t=>
  obtain⟨h1,h2⟩:=h.at (t:=t) hs hn
  exact⟨by simp[oval,List.getD_eq_getElem?_getD,h1],h2⟩
 |const v=>
  simp only[Am.sval]at hs
  cases hv:s0Of v with
  |none=>rw[hv]at hs;exact absurd hs.symm hn
  |some x=>
   rw[hv]at hs
   subst hs
   obtain⟨h1,h2,h3⟩:=sJ hv
   refine⟨?_,h2⟩
   have:flat v=true:=by cases v<;>first|exact h3|(simp[fF,scalar]at h3)
   simp[oval,this,SV.val,h1]
 |global g=>
  subst hs
  simp only[Am.sval,oval]
  cases hb:Nat.blt g gB with
  |true=>exact⟨rfl,trivial⟩
  |false=>exact absurd (by simp only[Am.sval,hb]) hn
 |func f=>
  subst hs
  refine⟨rfl,λl hl=>?_⟩
  simp only[S0.cells,qaw]at hl
  subst hl
  rfl
def Rp.sval0{ev:Env}{σ:St}(h:Rp ev σ){x:TJ}{s:S0}(hs:sval0 ev x=some s):oval σ.tmps x=s.val/\s.good:=by
 unfold Am.sval0 at hs
 split at hs
 next y e=>
  cases hs
  exact h.sval e (by simp)
 ·cases hs
def Rp.svals{ev:Env}{σ:St}(h:Rp ev σ):∀ {l:List Operand} {xs:List S0},svals ev l=some xs->l.map (oval σ.tmps)=ah xs/\∀x∈xs,x.good
 | [],xs,hs=>by cases hs;exact⟨rfl,by simp⟩
 |o :: l,xs,hs=>by
  simp only[Am.svals]at hs
  split at hs
  next x ys e1 e2=>
   cases hs
   obtain⟨h1,h2⟩:=h.sval0 e1
   obtain⟨h3,h4⟩:=h.svals e2
   refine⟨by simp[ah,h1];exact h3,λy hy=>?_⟩
   rcases qak.1 hy with rfl|hy
   ·exact h2
   ·exact h4 y hy
  ·cases hs
def Rp.put{ev:Env}{σ:St}(h:Rp ev σ)(d:Nat){s:SV}(hs:s.gd):Rp ⟨ev.tm.set d s,ev.lc⟩ (σ.put (some d) s.val):=by
 refine⟨by simp[St.put,h.len],λi x hx=>?_,h.llen,h.row⟩
 simp only[qa1]at hx
 split at hx
 next hi=>
  subst hi
  split at hx
  next hlt=>
   cases hx
   refine SV.ok_gd hs ?_
   simp only[St.put,List.getElem?_set_self']
   rw[qau (by rw[←h.len];exact hlt)]
   rfl
  ·cases hx
 next hi=>
  have:=h.val i x hx
  cases x<;>first|trivial|exact⟨by simp only[St.put];rw[qai hi];exact this.1,this.2⟩
def Rp.heap{ev:Env}{σ:St}(h:Rp ev σ)(H:Ts):Rp ev { σ with heap:=H }:=⟨h.len,h.val,h.llen,h.row⟩
structure Fr(ws ks rs:Tz)(σ σ':St):Prop where
 tlen:σ'.tmps.length=σ.tmps.length
 llen:σ'.loc.length=σ.loc.length
 tm:∀(i:Nat) v,σ.tmps[i]?=some v->i∉ws->noLoc v=true->σ'.tmps[i]?=some v
 tp:∀(i s off:Nat),σ.tmps[i]?=some (.pointer (some ⟨s,off,some 0⟩))->i∉ws->s∉ks->σ'.tmps[i]?=some (.pointer (some ⟨s,off,some 0⟩))
 row:∀(s:Nat) x,σ.loc[s]?=some x->s∉rs->σ'.loc[s]?=some x
 rlen:∀(s:Nat) vs,σ.loc[s]?=some (some vs)->s∉ks->∃vs',σ'.loc[s]?=some (some vs')/\vs'.length=vs.length
def Fr.refl(ws ks rs:Tz)(σ:St):Fr ws ks rs σ σ:=⟨rfl,rfl,λ_ _ h _ _=>h,λ_ _ _ h _ _=>h,λ_ _ h _=>h,λ_ vs h _=>⟨vs,h,rfl⟩⟩
def Fr.trans{ws ks rs:Tz}{σ σ₁ σ':St}(h:Fr ws ks rs σ σ₁)(h':Fr ws ks rs σ₁ σ'):Fr ws ks rs σ σ':=
 ⟨h'.tlen.trans h.tlen,h'.llen.trans h.llen,λi v a b c=>h'.tm i v (h.tm i v a b c) b c,λi s off a b c=>h'.tp i s off (h.tp i s off a b c) b c,
  λs x a b=>h'.row s x (h.row s x a b) b,λs vs a b=>let ⟨v1,c1,d1⟩:=h.rlen s vs a b;let ⟨v2,c2,d2⟩:=h'.rlen s v1 c1 b;⟨v2,c2,d2.trans d1⟩⟩
def Fr.mono{ws ks rs ws' ks' rs':Tz}{σ σ':St}(h:Fr ws ks rs σ σ')(h1:∀i∈ws,i∈ws')(h2:∀i∈ks,i∈ks')(h3:∀i∈rs,i∈rs'):Fr ws' ks' rs' σ σ':=
 ⟨h.tlen,h.llen,λi v a b c=>h.tm i v a (λhi=>b (h1 i hi)) c,λi s off a b c=>h.tp i s off a (λhi=>b (h1 i hi)) (λhi=>c (h2 s hi)),
  λs x a b=>h.row s x a (λhi=>b (h3 s hi)),λs vs a b=>h.rlen s vs a (λhi=>b (h2 s hi))⟩
def Fr.heap{ws ks rs:Tz}{σ σ':St}(h:Fr ws ks rs σ σ')(H:Ts):Fr ws ks rs σ { σ' with heap:=H }:=⟨h.tlen,h.llen,h.tm,h.tp,h.row,h.rlen⟩
def Fr.put{σ:St}(dst:To)(v:Value)(ks rs:Tz):Fr dst.toList ks rs σ (σ.put dst v):=by
 cases dst with
 |none=>exact .refl _ _ _ _
 |some d=>
  refine⟨by simp[St.put],rfl,λi x h hi _=>?_,λi s off h hi _=>?_,λ_ _ h _=>h,λ_ vs h _=>⟨vs,h,rfl⟩⟩<;>
  ·simp only[Option.toList_some,qaw]at hi
   simp only[St.put]
   rw[qai (λe=>hi e.symm)]
   exact h
end
inductive HO where
 |o (x:HObj)
 |lp (κ:Nat) (st:LoopState) (pd:Tk) (vs:Tl)
abbrev HL:=List HO
inductive CK where
 |f (g:TQ)
 |y (κ:Nat) (vs:Tl) (l:Nat)
def absO(T:Tt):HO->HObj
 | .o x=>x
 | .lp κ st pd vs=>.loop { lpOf (T κ) κ vs with state:=st,pending:=pd }
def absH(T:Tt)(h:HL):Ts:=h.map (absO T)
namespace Sx
inductive HOT where
 |o (x:HObj)
 |lp (κ:Nat) (st:LoopState) (pd:Tk) (vs:Tl)
 |t (n e:Nat) (rw:Bool) (c:Tr Value)
def nilV:Value:=.bool false
def bR(c:Tr Value)(n:Nat):Tl:=(List.range n).map λi=>(bE i).get nilV c
def HOT.ho:HOT->HO
 | .o x=>.o x
 | .lp κ st pd vs=>.lp κ st pd vs
 | .t n e rw c=>.o (.cells (bR c n) e rw)
structure HTr where
 n:Nat
 t:Tr HOT
def noO:HOT:=.o .dead
def HTr.empty:HTr:=⟨0,.leaf⟩
def HTr.at(h:HTr)(i:Nat):Option HOT:=match Nat.blt i h.n with
 |true=>some ((bE i).get noO h.t)
 |false=>none
def toL(h:HTr):HL:=(List.range h.n).map λi=>((bE i).get noO h.t).ho
def dv(h:HTr):(toL h).length=h.n:=by simp[toL]
def jK(h:HTr)(i:Nat):(toL h)[i]?=(h.at i).map HOT.ho:=by
 unfold toL HTr.at
 rw[qan]
 cases e:Nat.blt i h.n with
 |true=>
  rw[qaO]at e
  rw[qbe e];rfl
 |false=>
  have:h.n<=i:=by
   rcases qaB i h.n with h1|h1
   ·rw[←qaO,e]at h1;cases h1
   ·exact h1
  rw[qah (by simpa using this)];rfl
def HTr.put(h:HTr)(i:Nat)(o:HOT):HTr:=match Nat.blt i h.n with
 |true=>⟨h.n,(bE i).set noO h.t o⟩
 |false=>h
def HTr.push(h:HTr)(o:HOT):HTr:=⟨h.n+1,(bE h.n).set noO h.t o⟩
def iN(h:HTr)(i:Nat)(o:HOT):toL (h.put i o)=(toL h).set i o.ho:=by
 apply qaR
 intro j
 unfold HTr.put
 cases e:Nat.blt i h.n with
 |true=>
  rw[qaO]at e
  simp only
  rw[jK]
  by_cases hj:i=j
  ·subst hj
   rw[qaA (by rw[dv];exact e)]
   unfold HTr.at
   simp only[(qaO▸e:Nat.blt i h.n=true)]
   rw[Pth.get_set];rfl
  ·rw[qai hj,jK]
   unfold HTr.at
   simp only
   rw[Pth.get_set_ne _ _ _ _ _ (λh=>hj (lG h).symm)]
 |false=>
  simp only
  have:h.n<=i:=by
   rcases qaB i h.n with h1|h1
   ·rw[←qaO,e]at h1;cases h1
   ·exact h1
  rw[List.set_eq_of_length_le (by rw[dv];exact this)]
def gN(h:HTr)(o:HOT):toL (h.push o)=toL h++[o.ho]:=by
 apply qaR
 intro j
 rw[jK]
 unfold HTr.push HTr.at
 simp only
 by_cases h1:j<h.n
 ·rw[qag (by rw[dv];exact h1),jK]
  unfold HTr.at
  have e1:Nat.blt j (h.n+1)=true:=by rw[qaO];omega
  have e2:Nat.blt j h.n=true:=by rw[qaO];omega
  simp only[e1,e2]
  rw[Pth.get_set_ne _ _ _ _ _ (λh=>by have:=lG h;omega)]
 ·rw[qal (by rw[dv];omega),dv]
  by_cases h2:j=h.n
  ·subst h2
   have e1:Nat.blt h.n (h.n+1)=true:=by rw[qaO];omega
   simp only[e1,qbB,qbo]
   rw[Pth.get_set];rfl
  ·have e1:Nat.blt j (h.n+1)=false:=by rw[←qaT,qaO];omega
   simp only[e1]
   rw[qah (by simp;omega)];rfl
def bg(c:Tr Value)(n:Nat):(bR c n).length=n:=by simp[bR]
def dK(c:Tr Value){n i:Nat}(h:i<n):(bR c n)[i]?=some ((bE i).get nilV c):=by
 unfold bR
 rw[qan,qbe h];rfl
def insT:Tl->Nat->Tr Value->Tr Value
 | [],_,c=>c
 |v :: l,i,c=>insT l (i+1) ((bE i).set nilV c v)
def rU:∀(l:Tl) (i:Nat) (c:Tr Value) (j:Nat),(bE j).get nilV (insT l i c)=if i<=j/\j<i+l.length then l[j - i]?.getD nilV else(bE j).get nilV c
 | [],i,c,j=>by
  have h:¬(i<=j/\j<i+([]:Tl).length):=by intro h;have:=h.2;simp at this;omega
  rw[qd8 h];rfl
 |v :: l,i,c,j=>by
  show(bE j).get nilV (insT l (i+1) _)=_
  rw[rU l (i+1)]
  by_cases h:i+1<=j/\j<i+1+l.length
  ·rw[qd7 h,qd7 (by simp;omega)]
   have:j - i=(j - (i+1))+1:=by omega
   rw[this,qbV]
  ·rw[qd8 h]
   by_cases h2:j=i
   ·subst h2
    rw[Pth.get_set,qd7 (by simp)];simp
   ·rw[Pth.get_set_ne _ _ _ _ _ (λe=>h2 (lG e)),qd8 (by simp;omega)]
def pV{l:Tl}{i n:Nat}{c:Tr Value}(h:i+l.length<=n):bR (insT l i c) n=(bR c n).take i++l++(bR c n).drop (i+l.length):=by
 apply qaR
 intro j
 by_cases hj:j<n
 ·rw[dK _ hj,rU]
  by_cases h1:j<i
  ·rw[qd8 (by omega),qaH,qag (by rw[qaL,bg];omega),List.getElem?_take_of_lt h1,dK _ hj]
  ·have hl:((bR c n).take i).length=i:=by rw[qaL,bg];omega
   by_cases h2:j<i+l.length
   ·rw[qd7 ⟨by omega,h2⟩,qaH,qal (by omega),hl,qag (by omega)]
    rw[qau (by omega)];rfl
   ·rw[qd8 (by omega),qal (by rw[qaC,hl];omega),qaC,hl,qa5,show i+l.length+(j - (i+l.length))=j by omega,dK _ hj]
 ·rw[qah (by rw[bg];omega),qah (by simp[bg];omega)]
def nL{l:Tl}{n:Nat}{c:Tr Value}:bR (insT l n c) (n+l.length)=bR c n++l:=by
 apply qaR
 intro j
 by_cases hj:j<n+l.length
 ·rw[dK _ hj,rU]
  by_cases h1:j<n
  ·rw[qd8 (by omega),qag (by rw[bg];exact h1),dK _ h1]
  ·rw[qd7 ⟨by omega,hj⟩,qal (by rw[bg];omega),bg,qau (by omega)];rfl
 ·rw[qah (by rw[bg];omega),qah (by simp[bg];omega)]
def yE(l:Tl):bR (insT l 0 .leaf) l.length=l:=by
 have:=nL (l:=l) (n:=0) (c:=.leaf)
 simpa[bR]using this
def zg(c:Tr Value)(n:Nat):Nat->Tl:=Nat.rec (motive:=λ_=>Nat->Tl) (λ_=>[]) (λ_ ih off=>(bE off).get nilV c :: fN (Nat.succ off) ih) n
def kB(c:Tr Value):∀(n off m:Nat),off+n<=m->zg c n off=((bR c m).drop off).take n
 |0,_,_,_=>by rw[qcu];rfl
 |n+1,off,m,h=>by
  show(bE off).get nilV c :: zg c n (off+1)=_
  rw[kB c n (off+1) m (by omega)]
  have h1:off<(bR c m).length:=by rw[bg];omega
  rw[qbq h1,qb3]
  congr 1
  have:=dK c (n:=m) (i:=off) (by omega)
  rw[qau h1]at this
  exact(qap this).symm
section
variable {R:Type}
def putR{α:Type}(d:α)(p:Pth):Tr α->α->(Tr α->R)->R:=
 Pth.rec (motive:=λ_=>Tr α->α->(Tr α->R)->R)
  (λt x k=>Tr.casesOn t (k (.node x .leaf .leaf)) λ_ l r=>k (.node x l r))
  (λ_ ih t x k=>Tr.casesOn t (ih .leaf x λl=>k (.node d l .leaf)) λv l r=>ih l x λl=>k (.node v l r))
  (λ_ ih t x k=>Tr.casesOn t (ih .leaf x λr=>k (.node d .leaf r)) λv l r=>ih r x λr=>k (.node v l r)) p
def jH{α:Type}(d:α):∀(p:Pth) (t:Tr α) (x:α) (k:Tr α->R),putR d p t x k=k (p.set d t x)
 | .e,t,x,k=>by cases t<;>rfl
 | .o p,t,x,k=>by
  cases t with
  |leaf=>exact jH d p .leaf x _
  |node v l r=>exact jH d p l x _
 | .i p,t,x,k=>by
  cases t with
  |leaf=>exact jH d p .leaf x _
  |node v l r=>exact jH d p r x _
def putK(h:HTr)(i:Nat)(o:HOT)(k:HTr->R):R:=match Nat.blt i h.n with
 |true=>putR noO (bE i) h.t o λt=>k ⟨h.n,t⟩
 |false=>k h
def kz(h:HTr)(o:HOT)(k:HTr->R):R:=putR noO (bE h.n) h.t o λt=>fN (Nat.succ h.n) λn=>k ⟨n,t⟩
def iG(h:HTr)(i:Nat)(o:HOT)(k:HTr->R):putK h i o k=k (h.put i o):=by
 unfold putK HTr.put
 split
 next e=>rw[jH]
 ·rfl
def gG(h:HTr)(o:HOT)(k:HTr->R):kz h o k=k (h.push o):=by
 unfold kz HTr.push
 rw[jH,eo]
def xP{α:Type}(l:List α):(List α->R)->R:=
 List.rec (motive:=λ_=>(List α->R)->R) (λk=>k []) (λx _ ih k=>ih λl=>k (x :: l)) l
def oT{α:Type}:∀(l:List α) (k:List α->R),xP l k=k l
 | [],_=>rfl
 |x :: l,k=>oT l λl=>k (x :: l)
def xQ(v:Value)(k:Value->R):R:=match v with
 | .int kd n=>fI n λn=>k (.int kd n)
 | .bool b=>Bool.rec (k (.bool false)) (k (.bool true)) b
 |v=>k v
def plainV_eq(v:Value)(k:Value->R):xQ v k=k v:=by
 unfold xQ
 split
 ·exact jv _ _
 next b=>cases b<;>rfl
 ·rfl
def insK(l:Tl):Nat->Tr Value->(Tr Value->R)->R:=
 List.rec (motive:=λ_=>Nat->Tr Value->(Tr Value->R)->R) (λ_ c k=>k c) (λv _ ih i c k=>xQ v λv=>putR nilV (bE i) c v λc=>fN (Nat.succ i) λi=>ih i c k) l
def oh:∀(l:Tl) (i:Nat) (c:Tr Value) (k:Tr Value->R),insK l i c k=k (insT l i c)
 | [],_,_,_=>rfl
 |v :: l,i,c,k=>by
  show(xQ v λv=>putR nilV (bE i) c v λc=>fN (Nat.succ i) λi=>insK l i c k)=_
  rw[plainV_eq,jH,eo,oh l];rfl
def ui(o:HObj)(k:HOT->R):R:=match o with
 | .cells vs e rw=>fN vs.length λn=>insK vs 0 .leaf λc=>k (.t n e rw c)
 | .map es c=>xP es λes=>fN c λc=>k (.o (.map es c))
 |o=>k (.o o)
def kg{o:HObj}{k:HOT->R}:∃x:HOT,x.ho = .o o/\ui o k=k x:=by
 cases o with
 |cells vs e rw=>
  refine⟨.t vs.length e rw (insT vs 0 .leaf),by simp only[HOT.ho,yE],?_⟩
  show(fN vs.length λn=>insK vs 0 .leaf λc=>k (.t n e rw c))=_
  rw[eo,oh]
 |map es c=>
  refine⟨.o (.map es c),rfl,?_⟩
  show(xP es λes=>fN c λc=>k (.o (.map es c)))=_
  rw[oT,eo]
 |_=>exact⟨.o _,rfl,rfl⟩
def sC(l:TE):(TE->R)->R:=
 List.rec (motive:=λ_=>(TE->R)->R) (λk=>k []) (λx _ ih k=>match x with
  | .i n=>fI n λn=>ih λl=>k (.i n :: l)
  | .b t=>Bool.rec (ih λl=>k (.b false :: l)) (ih λl=>k (.b true :: l)) t
  | .v v=>ih λl=>k (.v v :: l)) l
def eR:∀(l:TE) (k:TE->R),sC l k=k l
 | [],_=>rfl
 | .i n :: l,k=>(jv n λn=>sC l λl=>k (.i n :: l)).trans (eR l _)
 | .b true :: l,k=>eR l λl=>k (.b true :: l)
 | .b false :: l,k=>eR l λl=>k (.b false :: l)
 | .v v :: l,k=>eR l λl=>k (.v v :: l)
end
end Sx
section
open Sx
abbrev RT:=Option (TE)
abbrev yes:RT:=some []
def ans(b:Bool):RT:=match b with|true=>yes|false=>none
abbrev ae:=CK->TE->HTr->(TE->HTr->RT)->RT
def Act1.onH(h:HL):Act1->HL
 | .set i o=>h.set i (.o o)
 | .push o=>h++[.o o]
def bS(h:HL)(l:List Act1):HL:=l.foldl Act1.onH h
def getH(T:Tt)(h:HL):cF:=λi=>match h[i]? with
 |some x=>some (absO T x)
 |none=>none
def getT(T:Tt)(h:HTr):cF:=λi=>match h.at i with
 |some x=>some (absO T x.ho)
 |none=>none
def yx(l:List Act1):HTr->(HTr->RT)->RT:=
 List.rec (motive:=λ_=>HTr->(HTr->RT)->RT) (λh k=>k h) (λa _ ih h k=>match a with
  | .set i o=>ui o λo=>putK h i o λh=>ih h k
  | .push o=>ui o λo=>kz h o λh=>ih h k) l
def condB(b:Bool)(x y:RT):RT:=Bool.rec y x b
def outG(k:TH)(c:Int)(K:Int->RT):RT:=Bool.rec (fI (k.wrap c) K) (K c) (fits k c)
def out64(c:Int)(K:Int->RT):RT:=@Bool.rec (λ_=>RT) (fI (IntKind.wrap .i64 c) K) (K c) (@Int.rec (λ_=>Bool) (λn=>Nat.ble n 9223372036854775807) (λn=>Nat.ble n 9223372036854775807) c)
def outU8(c:Int)(K:Int->RT):RT:=@Bool.rec (λ_=>RT) (fI (IntKind.wrap .u8 c) K) (K c) (@Int.rec (λ_=>Bool) (λn=>Nat.ble n 255) (λ_=>false) c)
def outK(k:TH)(c:Int)(K:Int->RT):RT:=@IntKind.rec (λ_=>RT) (outG .i8 c K) (outG .i16 c K) (outG .i32 c K) (out64 c K) (outU8 c K) (outG .u16 c K) (outG .u32 c K) (outG .u64 c K) k
def addK(a b:Int)(K:Int->RT):RT:=
 Int.rec (λm=>Int.rec (λn=>fN (Nat.add m n) λc=>K (.ofNat c)) (λn=>Bool.rec (fN (Nat.sub n m) λc=>K (.negSucc c)) (fN (Nat.sub m (Nat.succ n)) λc=>K (.ofNat c)) (Nat.blt n m)) b)
  (λm=>Int.rec (λn=>Bool.rec (fN (Nat.sub m n) λc=>K (.negSucc c)) (fN (Nat.sub n (Nat.succ m)) λc=>K (.ofNat c)) (Nat.blt m n)) (λn=>fN (Nat.succ (Nat.add m n)) λc=>K (.negSucc c)) b) a
def subK(a b:Int)(K:Int->RT):RT:=
 Int.rec (λm=>Int.rec (λn=>Bool.rec (fN (Nat.sub n (Nat.succ m)) λc=>K (.negSucc c)) (fN (Nat.sub m n) λc=>K (.ofNat c)) (Nat.ble n m)) (λn=>fN (Nat.succ (Nat.add m n)) λc=>K (.ofNat c)) b)
  (λm=>Int.rec (λn=>fN (Nat.add m n) λc=>K (.negSucc c)) (λn=>Bool.rec (fN (Nat.sub m (Nat.succ n)) λc=>K (.negSucc c)) (fN (Nat.sub n m) λc=>K (.ofNat c)) (Nat.ble m n)) b) a
def mulK(a b:Int)(K:Int->RT):RT:=
 Int.rec (λm=>Int.rec (λn=>fN (Nat.mul m n) λc=>K (.ofNat c)) (λn=>Nat.rec (K (.ofNat 0)) (λm' _=>fN (Nat.add (Nat.mul m n) m') λc=>K (.negSucc c)) m) b)
  (λm=>Int.rec (λn=>Nat.rec (K (.ofNat 0)) (λn' _=>fN (Nat.add (Nat.mul m n) n') λc=>K (.negSucc c)) n) (λn=>fN (Nat.mul (Nat.succ m) (Nat.succ n)) λc=>K (.ofNat c)) b) a
def quoK(a b:Int)(K:Int->RT):RT:=
 Int.rec (λm=>Int.rec (λn=>fN (Nat.div m n) λc=>K (.ofNat c)) (λ_=>fI (Int.tdiv a b) K) b) (λ_=>fI (Int.tdiv a b) K) a
def remK(a b:Int)(K:Int->RT):RT:=
 Int.rec (λm=>Int.rec (λn=>fN (Nat.mod m n) λc=>K (.ofNat c)) (λ_=>fI (Int.tmod a b) K) b) (λ_=>fI (Int.tmod a b) K) a
def isZ(b:Int):Bool:=Int.rec (λn=>Nat.beq n 0) (λ_=>false) b
def ariB(op:BinOp)(k:TH)(a b:Int)(K:Int->RT):RT:=
 match op with
 | .add=>addK a b λc=>outK k c K
 | .sub=>subK a b λc=>outK k c K
 | .mul=>mulK a b λc=>outK k c K
 | .quo=>Bool.rec (quoK a b λc=>outK k c K) none (isZ b)
 | .rem=>Bool.rec (remK a b K) none (isZ b)
 | .and=>match eqI b 1 with
  |true=>fI (Int.emod a 2) K
  |false=>match a,b with
   | .ofNat m,.ofNat n=>fI (.ofNat (Nat.land m n)) λc=>outK k c K
   |_,_=>none
 | .xor=>match a,b with
  | .ofNat m,.ofNat n=>fI (.ofNat (Nat.xor m n)) λc=>outK k c K
  |_,_=>none
 | .or=>match a,b with
  | .ofNat m,.ofNat n=>fI (.ofNat (Nat.lor m n)) λc=>outK k c K
  |_,_=>none
 |_=>none
def eqZK(a b:Int):Bool:=Int.rec (λm=>Int.rec (λn=>Nat.beq m n) (λ_=>false) b) (λm=>Int.rec (λ_=>false) (λn=>Nat.beq m n) b) a
def notK(b:Bool):Bool:=Bool.rec true false b
def cmpB(op:BinOp)(a b:Int)(K:Bool->RT):RT:=
 match op with
 | .eql=>K (eqZK a b)
 | .neq=>K (notK (eqZK a b))
 | .lss=>K (notK (leZ b a))
 | .leq=>K (leZ a b)
 | .gtr=>K (notK (leZ a b))
 | .geq=>K (leZ b a)
 |_=>none
def eqBK(a b:Bool):Bool:=Bool.rec (notK b) b a
def eqLf(x y:Lf):Bool:=Lf.rec (λa=>Lf.rec (λb=>eqZK a b) (λ_=>false) (λ_=>false) y) (λa=>Lf.rec (λ_=>false) (λb=>eqBK a b) (λ_=>false) y) (λ_=>false) x
def eqsV(l:List (Lf×Lf)):Bool:=List.rec true (λp _ ih=>Bool.rec false ih (eqLf p.1 p.2)) l
def eqsB(l:List (Lf×Lf))(K:Bool->RT):RT:=K (eqsV l)
def convB(k:TH)(a:Int)(K:Int->RT):RT:=outK k a K
def selB(t:Bool)(a b:Int)(K:Int->RT):RT:=Bool.rec (K b) (K a) t
def optB{α:Type}(o:Option α)(K:α->RT):RT:=Option.rec none K o
def unIB(ls:TE)(K:Int->TE->RT):RT:=List.rec none (λx r _=>Lf.rec (λn=>K n r) (λ_=>none) (λ_=>none) x) ls
def unBB(ls:TE)(K:Bool->TE->RT):RT:=List.rec none (λx r _=>Lf.rec (λ_=>none) (λn=>K n r) (λ_=>none) x) ls
def unVB(ls:TE)(K:Value->TE->RT):RT:=List.rec none (λx r _=>Lf.rec (λ_=>none) (λ_=>none) (λn=>K n r) x) ls
def un0B(ls:TE)(K:RT):RT:=List.rec K (λ_ _ _=>none) ls
def ucIB(k:TH)(ls:Tl)(K:Int->Tl->RT):RT:=match ls with | .int k' n :: r=>(match dC k k' with|true=>K n r|false=>none)|_=>none
def ucBB(ls:Tl)(K:Bool->Tl->RT):RT:=match ls with | .bool n :: r=>K n r|_=>none
def ucVB(ls:Tl)(K:Value->Tl->RT):RT:=match ls with|n :: r=>K n r|_=>none
def uc0B(ls:Tl)(K:RT):RT:=match ls with | []=>K|_=>none
def spot0(s:Tp):Bool:=match s with
 |none=>true
 |some k=>match k with
  |0=>false
  |_=>true
def goodF(v:Value):Bool:=match v with
 | .pointer (some a)=>spot0 a.spot
 | .slice (some a) _ _=>spot0 a.spot
 |v=>aT v
def chkB(v:Value)(K:RT):RT:=match goodF v with|true=>K|false=>none
def lenR{α:Type}(l:List α):Nat:=List.rec 0 (λ_ _ n=>Nat.succ n) l
def ldB(n:Nat)(p:Value)(h:HTr)(K:Tl->RT):RT:=match p with
 | .pointer (some a)=>match a.spot with
  |none=>match h.at a.block with
   |some (.t m _ _ c)=>match Nat.ble (Nat.add a.off n) m with
    |true=>K (zg c n a.off)
    |false=>none
   |_=>none
  |some _=>none
 |_=>none
def lgB(C:Cfg)(n:Nat)(p:Value)(h:HTr)(K:Tl->RT):RT:=match p with
 | .pointer (some a)=>match a.spot with
  |none=>match h.at a.block with
   |some (.t m _ _ c)=>match Nat.ble (Nat.add a.off n) m with
    |true=>K (zg c n a.off)
    |false=>none
   |_=>none
  |some k=>match Nat.beq k 1 with
   |true=>match C.G a.block with
    |some vs=>match cutL vs a.off n with
     |some cs=>K cs
     |none=>none
    |none=>none
   |false=>none
 |_=>none
def peekB(T:Tt)(f:Pk)(h:HTr)(K:Tl->RT):RT:=match f with
 | .ld n p=>ldB n p h K
 | .lg C n p=>lgB C n p h K
 | .fn f=>match f (getT T h)with|some x=>K x|none=>none
def stB(p:Value)(new:Tl)(h:HTr)(K:Tl->HTr->RT):RT:=match p with
 | .pointer (some a)=>match a.spot with
  |none=>match h.at a.block with
   |some (.t m e true c)=>match Nat.ble (Nat.add a.off (lenR new)) m with
    |true=>insK new a.off c λc=>putK h a.block (.t m e true c) λh=>K [] h
    |false=>none
   |_=>none
  |some _=>none
 |_=>none
def tagB(s:Tp)(esz:Nat):Bool:=match s with
 |none=>false
 |some k=>Nat.beq k (Nat.add esz 10)
def slB(C:Cfg)(T:Tt)(esz:Nat)(x:Value)(h:HTr)(K:Tl->Nat->RT):RT:=match x with
 | .slice (some a) len _=>match tagB a.spot esz with
  |true=>match h.at a.block with
   |some (.t m e _ c)=>match Nat.beq e esz,Nat.ble (Nat.add a.off (Nat.mul len esz)) m with
    |true,true=>K (zg c (Nat.mul len esz) a.off) len
    |_,_=>none
   |_=>none
  |false=>match slG C esz (getT T h) x with
   |some p=>K p.1 p.2
   |none=>none
 |x=>match slG C esz (getT T h) x with
  |some p=>K p.1 p.2
  |none=>none
def growB(c:Tr Value)(m off w esz:Nat)(new:Tl)(k:HOT->RT):RT:=match Nat.beq off 0,Nat.beq w m with
 |true,true=>insK new m c λc=>fN (Nat.add m (lenR new)) λm=>k (.t m esz true c)
 |_,_=>ui (.cells (zg c w off++new) esz true) k
def apB(T:Tt)(C:Cfg)(esz bytes:Nat)(s x:Value)(h:HTr)(K:Tl->HTr->RT):RT:=
 slB C T esz x h λnew n=>match s with
  | .slice none 0 0=>match n with
   |0=>K [.slice none 0 0] h
   |n+1=>match ca (n+1) bytes with
    |true=>ui (.cells new esz true) λo=>kz h o λh'=>fN (n+1) λn=>K [.slice (some ⟨h.n,0,tag esz⟩) n 0] h'
    |false=>none
  | .slice (some a) len cx=>match tagB a.spot esz with
   |false=>none
   |true=>match h.at a.block with
    |some (.t m e rw c)=>match Nat.beq e esz,Nat.ble (Nat.add a.off (Nat.mul len esz)) m with
     |true,true=>match cx with
      |0=>match n with
       |0=>K [.slice (some a) len 0] h
       |n+1=>match rw,ca (len+(n+1)) bytes with
        |true,true=>growB c m a.off (Nat.mul len esz) esz new λo=>putK h a.block (.o .dead) λh'=>kz h' o λh''=>fN (len+(n+1)) λl=>K [.slice (some ⟨h.n,0,tag esz⟩) l 0] h''
        |_,_=>none
      |cap+1=>match Nat.ble (len+n) cap with
       |true=>match rw,Nat.ble (Nat.add (Nat.add a.off (Nat.mul len esz)) (lenR new)) m with
        |true,true=>insK new (Nat.add a.off (Nat.mul len esz)) c λc=>putK h a.block (.t m e true c) λh'=>fN (len+n) λl=>K [.slice (some a) l (cap+1)] h'
        |_,_=>none
       |false=>match ca (len+n) bytes with
        |true=>growB c m a.off (Nat.mul len esz) esz new λo=>kz h o λh'=>fN (len+n) λl=>K [.slice (some ⟨h.n,0,tag esz⟩) l 0] h'
        |false=>none
     |_,_=>none
    |_=>none
  |_=>none
def heapB(T:Tt)(f:Hp)(h:HTr)(K:Tl->HTr->RT):RT:=match f with
 | .st p new=>stB p new h K
 | .ap C esz bytes s x=>apB T C esz bytes s x h K
 | .fn f=>match f (getT T h) h.n with|some p=>xP p.2 λcs=>yx p.1 h λh=>K cs h|none=>none
def newB(o:HObj)(h:HTr)(K:Nat->HTr->RT):RT:=ui o λo=>kz h o λh'=>K h.n h'
def toSL(k:LK)(v:Value):Option SL:=
 match k with
 | .i k=>match v with
  | .int k' n=>match dC k' k with
   |true=>some (.i k' n)
   |false=>none
  |_=>none
 | .b=>match v with
  | .bool t=>some (.b t)
  |_=>none
 | .v=>match aT v with
  |true=>some (.v v)
  |false=>none
def toSLs:TI->Tl->Option (List SL)
 | [],[]=>some []
 |k :: ks,v :: vs=>match toSL k v with
  |some x=>match toSLs ks vs with
   |some xs=>some (x :: xs)
   |none=>none
  |none=>none
 |_,_=>none
def toS0(sk:SK)(v:Value):Option S0:=
 match sk with
 | .leaf k=>(toSL k v).map .leaf
 | .agg ks=>match v with
  | .agg cs=>(toSLs ks cs.toList).map .agg
  |_=>none
def toS0s:TK->Tl->Option (List S0)
 | [],[]=>some []
 |k :: ks,v :: vs=>match toS0 k v with
  |some x=>match toS0s ks vs with
   |some xs=>some (x :: xs)
   |none=>none
  |none=>none
 |_,_=>none
def eqLK:LK->LK->Bool
 | .i a,.i b=>dC a b
 | .b,.b=>true
 | .v,.v=>true
 |_,_=>false
def eqLKs:TI->TI->Bool
 | [],[]=>true
 |a :: l,b :: m=>eqLK a b&&eqLKs l m
 |_,_=>false
def eqSK:SK->SK->Bool
 | .leaf a,.leaf b=>eqLK a b
 | .agg a,.agg b=>eqLKs a b
 |_,_=>false
def eqSKs:TK->TK->Bool
 | [],[]=>true
 |a :: l,b :: m=>eqSK a b&&eqSKs l m
 |_,_=>false
def gR(ls:TE):Bool:=List.rec true (λl _ ih=>match l with
 | .v x=>(match goodF x with
  |true=>ih
  |false=>false)
 |_=>ih) ls
section
variable (Sg:Tc) (T:Tt) (call:ae)
def yC(g:TQ)(ls:TE)(h:HTr)(K:TE->HTr->RT):RT:=match gR ls with|true=>call (.f g) ls h K|false=>none
def mQ(g:TQ)(hs:Option (TK))(vals:Tl)(h:HTr)(K:TE->HTr->RT):RT:=
 match Sg g with
 |none=>none
 |some sg=>match (match hs with|none=>true|some hs=>eqSKs sg.rs hs)with
  |false=>none
  |true=>match toS0s sg.ps vals with
   |none=>none
   |some xs=>yC call g (bT xs) h K
def callvB(v:Value)(args:Tl)(hs:TK)(h:HTr)(K:TE->HTr->RT):RT:=
 match v with
 | .func fn first cap=>match fn with
  | .func g=>mQ Sg call g (some hs) (first.toList++args++cap.toList) h K
  | .yield l=>match first.toList,cap.toList with
   | [],[]=>match h.at l with
    |some (.lp κ _ _ vs)=>match eqSKs [.leaf .b] hs with
     |false=>none
     |true=>match toS0s ((T κ).params.map (·.2)) args with
      |none=>none
      |some xs=>match gR (bT xs)with
       |true=>call (.y κ vs l) (bT xs) h K
       |false=>none
    |_=>none
   |_,_=>none
  |_=>none
 |_=>none
def rfunB(κ:Nat)(v:Value)(vals:Tl)(h:HTr)(K:Tk->HTr->RT):RT:=
 match v with
 | .func fn first cap=>match fn with
  | .func g=>kz h (.lp κ .ready none vals) λh0=>mQ Sg call g none (first.toList++[.func (.yield h.n) #[] #[]]++cap.toList) h0 λ_ h1=>match h1.at h.n with
   |some (.lp κ' st pd vs)=>match st with
    | .busy=>none
    |_=>putK h1 h.n (.lp κ' .exhausted pd vs) λh2=>K pd h2
   |_=>none
  |_=>none
 |_=>none
def pendB(pd:Tk)(kn kr:RT)(ks:List (Nat×RT)):RT:=
 match pd with
 |none=>kn
 |some c=>match c with
  | .ret=>kr
  | .exit id=>List.rec none (λp _ ih=>match Nat.beq p.1 id with|true=>p.2|false=>ih) ks
  |_=>none
def lp1B(l:Nat)(h:HTr)(K:HTr->RT):RT:=
 match h.at l with
 |some (.lp κ st pd vs)=>match st with
  | .ready=>putK h l (.lp κ .busy pd vs) K
  |_=>none
 |_=>none
def lp2B(l:Nat)(j:Tk)(h:HTr)(K:HTr->RT):RT:=
 match h.at l with
 |some (.lp κ _ _ vs)=>match j with
  |none=>putK h l (.lp κ .ready none vs) K
  |some c=>putK h l (.lp κ .done (some c) vs) K
 |_=>none
end
def loopB(F:(TE->HTr->RT)->TE->HTr->RT)(ls:TE)(h:HTr):RT:=
 Nat.rec (motive:=λ_=>TE->HTr->RT) (λ_ _=>none) (λ_ ih ls h=>F ih ls h) 1000000 ls h
def joinB(b:TE->HTr->RT)(m:(TE->HTr->RT)->RT):RT:=m b
def shfB(op:BinOp)(k:TH)(a:Int)(_:TH)(b:Int)(K:Int->RT):RT:=match leZ 0 b with
 |true=>match op with
  | .shl=>fI (k.wrap (a*2 ^ min b.toNat k.bits)) K
  | .shr=>fI (a.fdiv (2 ^ min b.toNat k.bits)) K
  |_=>none
 |false=>none
def BA(Sg:Tc)(T:Tt)(call:ae):Alg RT HTr where
 fail:=none
 cond:=condB
 ari:=ariB
 shf:=shfB
 cmp:=cmpB
 eqs:=eqsB
 conv:=convB
 sel:=selB
 opt:=optB
 chk:=chkB
 unI:=unIB
 unB:=unBB
 unV:=unVB
 un0:=un0B
 ucI:=ucIB
 ucB:=ucBB
 ucV:=ucVB
 uc0:=uc0B
 peek:=peekB T
 heap:=heapB T
 new:=newB
 call:=yC call
 callv:=callvB Sg T call
 join:=joinB
 loop:=loopB
 rfun:=rfunB Sg call
 pend:=pendB
 lp1:=lp1B
 lp2:=lp2B
end
namespace Sx
section
variable [Val] [Kno]
def wAt(pts:Tz)(tm:Tl)(o:Oper):Tz:=(wOps pts o).flatMap λx=>adr (oval tm x)
def fAt(pts:Tz)(tm:Tl)(o:Oper):Tz:=(dg pts o).1.flatMap λx=>adrK (dg pts o).2 (oval tm x)
def dstIn(pts:Tz)(tm:Tl)(o:Oper):Prop:=∀d,o.dst=some d->hCls pts o=2->∃v,tm[d]?=some v
def SepAt(pts:Tz)(ops:Tm)(tm:Tl)(ps:List (Nat×Nat)):Prop:=
 ∀p∈ps,∃a b,ops[p.1]?=some a/\ops[p.2]?=some b/\(∀x∈wAt pts tm a,x∉fAt pts tm b)/\(∀x∈wAt pts tm a,x∉wAt pts tm b)/\(∀x∈wAt pts tm b,x∉fAt pts tm a)/\dstIn pts tm a/\dstIn pts tm b
def SameAt(ops:Tm)(k:Nat)(σ σ':St):Prop:=∃o d x,ops[k]?=some o/\o.dst=some d/\σ.tmps[d]?=some x/\σ'.tmps[d]?=some x
def DrOk(C:Cfg)(dr:Dr):Prop:=∀pts ops ps,dr pts ops=some ps->match splOf ps with
 |none=>∀(n:Nat) (σ σ':St),bo C (sm C n).toBelow pts ops (List.range ops.size) σ σ'->SepAt pts ops σ'.tmps ps->eW C (sm C n).toBelow pts ops σ σ'
 |some p=>∀(n:Nat) (σ σ₁ σ₂ σ':St),bo C (sm C n).toBelow pts ops (List.range' 0 (ops.toList.take (p.2+1)).length) σ σ₁->aj C (sm C n).toBelow pts ops p.1 σ₁ σ₂->SameAt ops p.1 σ₁ σ₂->
   bo C (sm C n).toBelow pts ops (List.range' (p.2+1) (ops.toList.drop (p.2+1)).length) σ₁ σ'->eW C (sm C n).toBelow pts ops σ σ'
def xA{x:Nat}:∀ {l:Tz},memN x l=true↔x∈l
 | []=>by simp[memN]
 |y :: l=>by
  unfold memN
  cases h:Nat.beq x y with
  |true=>simp[qac h]
  |false=>
   have:x≠y:=λe=>by subst e;rw[show Nat.beq x x=true from qbR x]at h;cases h
   simp only[qak,this,false_or]
   exact xA
def wP:∀ {l m:Tz},disjN l m=true->∀x∈l,x∉m
 | [],_,_,_,h=>by cases h
 |y :: l,m,h,x,hx=>by
  unfold disjN at h
  cases hm:memN y m with
  |true=>rw[hm]at h;cases h
  |false=>
   rw[hm]at h
   rcases qak.1 hx with rfl|hx
   ·intro e;rw[xA.2 e]at hm;cases hm
   ·exact wP h x hx
def sepL_ok:∀ {l:List (Value×Nat×Value)} {u:Unit},sepL l=some u->∀p∈l,∀r∈adr p.1,r∉adrK p.2.1 p.2.2
 | [],_,_,_,h=>by cases h
 |q :: l,u,h,p,hp=>by
  unfold sepL at h
  split at h
  next hd=>
   rcases qak.1 hp with rfl|hp
   ·exact wP hd
   ·exact sepL_ok h p hp
  ·cases h
def entV_ok{ev:Env}{σ:St}(hR:Rp ev σ){x:TJ}{us:Tl}(h:entV (sval ev x)=some us)(k r:Nat)(hr:r∈adrK k (oval σ.tmps x)):∃u∈us,r∈adrK k u:=by
 have hn:sval ev x≠.no:=λe=>by rw[e]at h;cases h
 have hv:=(hR.sval rfl hn).1
 rw[hv]at hr
 generalize sval ev x=s at *
 have none:adrK k s.val=[]->∃u∈us,r∈adrK k u:=λe=>by rw[e]at hr;cases hr
 cases s with
 |st y=>
  cases y with
  |leaf l=>
   cases l with
   |v u=>
    cases h
    exact⟨u,by simp,hr⟩
   |_=>exact none (by cases k with|zero=>rfl|succ k=>cases k<;>rfl)
  |agg cs=>exact none (by cases k with|zero=>rfl|succ k=>cases k<;>rfl)
 |no=>exact absurd rfl hn
 |_=>exact none (by cases k with|zero=>rfl|succ k=>cases k<;>rfl)
def gt{ev:Env}{σ:St}(hR:Rp ev σ):∀ {l:List Operand} {us:Tl},rB ev l=some us->∀(k r:Nat),r∈l.flatMap (λx=>adrK k (oval σ.tmps x))->∃u∈us,r∈adrK k u
 | [],_,_,_,_,h=>by cases h
 |x :: l,us,h,k,r,hr=>by
  unfold rB at h
  split at h
  next a b ha hb=>
   cases h
   rw[qby,qaJ]at hr
   rcases hr with hr|hr
   ·obtain⟨u,h1,h2⟩:=entV_ok hR ha k r hr
    exact⟨u,qaX _ h1,h2⟩
   ·obtain⟨u,h1,h2⟩:=gt hR hb k r hr
    exact⟨u,qbd _ h1,h2⟩
  ·cases h
def nU{ev:Env}{σ:St}(hR:Rp ev σ){d:Nat}:∀ {l:List Operand} {us:Tl},rB ev l=some us->Operand.tmp d∈l->∃v,σ.tmps[d]?=some v
 |x :: l,us,h,hm=>by
  unfold rB at h
  split at h
  next a b ha hb=>
   rcases qak.1 hm with rfl|hm
   ·have hn:sval ev (.tmp d)≠.no:=λe=>by rw[e]at ha;cases ha
    exact⟨_,(hR.at (s:=ev.tm.getD d .no) rfl hn).1⟩
   ·exact nU hR hb hm
  ·cases h
def sX{pts:Tz}{o:Oper}{d:Nat}(hd:o.dst=some d)(h:hCls pts o=2):Operand.tmp d∈wOps pts o:=by
 unfold wOps
 rw[h,hd]
 simp
def nP{us vs:Tl}{k:Nat}{u v:Value}(hu:u∈us)(hv:v∈vs):(u,k,v)∈cross us k vs:=by
 unfold cross
 exact qbn.2 ⟨u,hu,qaK.2 ⟨v,hv,rfl⟩⟩
def sepOne_ok{pts:Tz}{ev:Env}{σ:St}(hR:Rp ev σ){a b:Oper}{l:List (Value×Nat×Value)}(h:sepOne pts ev a b=some l)(hs:∀p∈l,∀r∈adr p.1,r∉adrK p.2.1 p.2.2) :
  (∀x∈wAt pts σ.tmps a,x∉fAt pts σ.tmps b)/\(∀x∈wAt pts σ.tmps a,x∉wAt pts σ.tmps b)/\(∀x∈wAt pts σ.tmps b,x∉fAt pts σ.tmps a)/\dstIn pts σ.tmps a/\dstIn pts σ.tmps b:=by
 unfold sepOne at h
 split at h
 next wa wb fa fb h1 h2 h3 h4=>
  cases h
  refine⟨λx hx hy=>?_,λx hx hy=>?_,λx hx hy=>?_,λd hd hc=>nU hR h1 (sX hd hc),λd hd hc=>nU hR h2 (sX hd hc)⟩
  ·obtain⟨u,u1,u2⟩:=gt hR h1 0 x hx
   obtain⟨v,v1,v2⟩:=gt hR h4 _ x hy
   exact hs (u,_,v) (qaX _ (qaX _ (nP u1 v1))) x u2 v2
  ·obtain⟨u,u1,u2⟩:=gt hR h1 0 x hx
   obtain⟨v,v1,v2⟩:=gt hR h2 0 x hy
   exact hs (u,0,v) (qaX _ (qbd _ (nP u1 v1))) x u2 v2
  ·obtain⟨u,u1,u2⟩:=gt hR h2 0 x hx
   obtain⟨v,v1,v2⟩:=gt hR h3 _ x hy
   exact hs (u,_,v) (qbd _ (nP u1 v1)) x u2 v2
 ·cases h
def qM{pts:Tz}{ops:Tm}{ev:Env}{σ:St}(hR:Rp ev σ):∀ {ps:List (Nat×Nat)} {l:List (Value×Nat×Value)},sL pts ops ev ps=some l->(∀p∈l,∀r∈adr p.1,r∉adrK p.2.1 p.2.2)->SepAt pts ops σ.tmps ps
 | [],_,_,_,_,h=>by cases h
 |q :: ps,l,h,hs,p,hp=>by
  unfold sL at h
  split at h
  next a b r ha hb hr=>
   obtain⟨x,hx,rfl⟩:=qaf.1 h
   rcases qak.1 hp with rfl|hp
   ·exact⟨a,b,ha,hb,sepOne_ok hR hx λp hp=>hs p (qaX _ hp)⟩
   ·exact qM hR hr (λp hp=>hs p (qbd _ hp)) p hp
  ·cases h
def eqFn_ok{x y:Value}{u:Unit}(h:eqFn x y=some u):x=y:=by
 unfold eqFn at h
 split at h
 ·split at h
  ·split at h
   next l a b _ m c d e1 e2 e3 e4 e5=>
    have e1:=qac e1
    have f:∀ {a:Tj},a.toList=[]->a = #[]:=λh=>qbc.1 h
    rw[e1,f e2,f e3,f e4,f e5]
   ·cases h
  ·cases h
 ·cases h
def entF_ok{ev:Env}{σ:St}(hR:Rp ev σ){d:Nat}{x:Value}(h:entF (ev.tm.getD d .no)=some x):σ.tmps[d]?=some x:=by
 unfold entF at h
 split at h
 next y hy=>
  cases h
  exact(hR.at hy (by simp)).1
 ·cases h
def sepK_ok{R HT:Type}{A:Alg R HT}{C:Cfg}{Sg:Tc}{T:Tt}{holds:R->Prop}{abs:HT->Ts}(hA:AlgOk A C Sg T holds abs){pts:Tz}{ops:Tm}{ps:List (Nat×Nat)}{kn:KN R HT}{ev:Env}{σ:St}(hR:Rp ev σ){h:HT}(hk:holds (sepK A pts ops ps kn ev h)) :
  SepAt pts ops σ.tmps ps/\holds (kn ev h):=by
 unfold sepK at hk
 split at hk
 ·exact⟨λp hp=>(by cases hp),hk⟩
 ·simp only at hk
  split at hk
  next l hl=>
   obtain⟨u,h1,h2⟩:=hA.opt _ _ hk
   exact⟨qM hR hl (sepL_ok h1),h2⟩
  ·exact absurd hk hA.fail
end
end Sx
section
variable [Val] [Kno] {R HT:Type} {A:Alg R HT} {X:Ctxt} {Sg:Tc} {holds:R->Prop} {abs:HT->Ts}
variable {ev:Env} {σ:St} {h:HT} {o:Oper} {K:KN R HT}
def StepO(C:Cfg)(pts:Tz)(o:Oper)(σ σ':St):Prop:=
 (∃e,am C pts (oval σ.tmps) o=some e/\jV (uB C) e o.dst σ σ')∨(∃v,jo C σ.tmps o v/\σ'=σ.put o.dst v)
def uC(pts:Tz)(o:Oper):Tp:=
 match o.op,o.dst with
 | .box ..,some d=>if pts.getD d 0=d+2 then some d else none
 | .alloc _,some d=>if pts.getD d 0=d+2 then some d else none
 |_,_=>none
def Done(X:Ctxt)(holds:R->Prop)(abs:HT->Ts)(o:Oper)(σ:St)(K:KN R HT):Prop:=
 ∃σ' ev' h',StepO X.C X.pts o σ σ'/\Rp ev' σ'/\abs h'=σ'.heap/\Fr o.dst.toList (uC X.pts o).toList (jF X.pts o).toList σ σ'/\holds (K ev' h')
def wm(hR:Rp ev σ){dst:To}{s:SV}(hs:s.gd)(hk:holds (setD dst s ev h K)):∃ev',Rp ev' (σ.put dst s.val)/\holds (K ev' h):=by
 unfold setD at hk
 cases dst with
 |none=>exact⟨ev,hR,hk⟩
 |some d=>
  simp only[setK_eq]at hk
  exact⟨_,hR.put d hs,hk⟩
def dB(hR:Rp ev σ)(H':Ts)(ha:abs h=H'){s:SV}(hs:s.gd)
  (hst:StepO X.C X.pts o σ (({ σ with heap:=H' }:St).put o.dst s.val)) (hk:holds (setD o.dst s ev h K)):Done X holds abs o σ K:=by
 obtain⟨ev',h1,h2⟩:=wm (hR.heap H') hs hk
 refine⟨_,ev',h,hst,h1,?_,?_,h2⟩
 ·rw[ha];cases o.dst<;>rfl
 ·have:=Fr.put (σ:=({ σ with heap:=H' }:St)) o.dst s.val (uC X.pts o).toList (jF X.pts o).toList
  exact⟨this.tlen,this.llen,this.tm,this.tp,this.row,this.rlen⟩
def aF(hR:Rp ev σ)(ha:abs h=σ.heap){s:SV}(hs:s.gd)(he:am X.C X.pts (oval σ.tmps) o=some (.val s.val))(hk:holds (setD o.dst s ev h K)) :
  Done X holds abs o σ K:=
 dB hR σ.heap ha hs (.inl ⟨_,he,_,rfl,rfl⟩) hk
def cj(hR:Rp ev σ)(ha:abs h=σ.heap){s:SV}(hs:s.gd)(he:jo X.C σ.tmps o s.val)(hk:holds (setD o.dst s ev h K)) :
  Done X holds abs o σ K:=
 dB hR σ.heap ha hs (.inr ⟨_,he,rfl⟩) hk
def ip(hR:Rp ev σ)(ha:abs h=σ.heap){s:SV}(hs:s.gd){f:Ts->Ti}(he:am X.C X.pts (oval σ.tmps) o=some (.hget f))(hf:f σ.heap=some s.val)
  (hk:holds (setD o.dst s ev h K)):Done X holds abs o σ K:=
 dB hR σ.heap ha hs (.inl ⟨_,he,(σ,s.val),by simp[aR,hf],rfl⟩) hk
def dh(hR:Rp ev σ){H':Ts}(ha:abs h=H'){s:SV}(hs:s.gd){f:Ts->Option (List HObj×Value)}(he:am X.C X.pts (oval σ.tmps) o=some (.hop f))
  (hf:f σ.heap=some (H',s.val)) (hk:holds (setD o.dst s ev h K)):Done X holds abs o σ K:=
 dB hR H' ha hs (.inl ⟨_,he,({ σ with heap:=H' },s.val),by simp[aR,hf],rfl⟩) hk
def move_ok(hR:Rp ev σ)(ha:abs h=σ.heap){x:TJ}(ho:o.op = .move x∨o.op = .assign x){y:SV}(hy:sval ev x=y)(hn:y≠.no)(hk:holds (setD o.dst y ev h K)):Done X holds abs o σ K:=by
 obtain⟨h1,h2⟩:=hR.sval hy hn
 refine aF hR ha h2 ?_ hk
 rcases ho with ho|ho<;>simp only[am,ho,h1]
def pick_ok(hA:AlgOk A X.C Sg X.T holds abs)(hR:Rp ev σ)(ha:abs h=σ.heap){c a b:TJ}(ho:o.op = .pick c a b)
  (hk:holds (match sval ev c,sval ev a,sval ev b with
  | .st (.leaf (.l true)),.st y,_=>setD o.dst (.st y) ev h K
  | .st (.leaf (.l false)),_,.st y=>setD o.dst (.st y) ev h K
  | .st (.leaf (.b t)),.st y,.st z=>A.cond t (setD o.dst (.st y) ev h K) (setD o.dst (.st z) ev h K)
  |_,_,_=>A.fail)):Done X holds abs o σ K:=by
 split at hk
 next y e1 e2=>
  obtain⟨h1,_⟩:=hR.sval e1 (by simp)
  obtain⟨h2,g2⟩:=hR.sval e2 (by simp)
  refine aF hR ha g2 ?_ hk
  simp only[am,ho,h1,SV.val,S0.val,SL.val,if_true,h2]
 next y e1 e2=>
  obtain⟨h1,_⟩:=hR.sval e1 (by simp)
  obtain⟨h2,g2⟩:=hR.sval e2 (by simp)
  refine aF hR ha g2 ?_ hk
  simp only[am,ho,h1,SV.val,S0.val,SL.val,h2,qaq,if_false]
 next t y z e1 e2 e3=>
  obtain⟨h1,_⟩:=hR.sval e1 (by simp)
  obtain⟨h2,g2⟩:=hR.sval e2 (by simp)
  obtain⟨h3,g3⟩:=hR.sval e3 (by simp)
  rcases hA.cond _ _ _ hk with⟨ht,hk⟩|⟨ht,hk⟩
  ·refine aF hR ha g2 ?_ hk
   simp only[am,ho,h1,SV.val,S0.val,SL.val,ht,if_true,h2]
  ·refine aF hR ha g3 ?_ hk
   simp only[am,ho,h1,SV.val,S0.val,SL.val,ht,h3,qaq,if_false]
 ·exact absurd hk hA.fail
def newV_ok(hA:AlgOk A X.C Sg X.T holds abs)(hR:Rp ev σ)(ha:abs h=σ.heap){t:TP}{x:S0}(hx:x.good)(he:am X.C X.pts (oval σ.tmps) o=cD X.C X.pts o.dst t x.val)
  (hb:(∃y,o.op = .box t y)∨o.op = .alloc t) (hk:holds (newV A X o.dst t x ev h K)):Done X holds abs o σ K:=by
 unfold newV at hk
 split at hk
 ·exact absurd hk hA.fail
 next d hd=>
  have fj:=S0.cells_val hx
  have hok:=S0.cells_ok hx
  have hnt:=S0.not_tuple hx
  split at hk
  next hp=>
   have hp:X.pts.getD d 0=d+2:=by simpa using hp
   split at hk
   next hl=>
    rw[setK_eq,setK_eq]at hk
    have hrow:ev.lc[d]?=some .nil:=by
     rw[List.getD_eq_getElem?_getD]at hl
     cases he:ev.lc[d]? with
     |none=>rw[he]at hl;cases hl
     |some r=>rw[he]at hl;simp at hl;rw[hl]
    have hloc:σ.loc[d]?=some none:=hR.row d _ hrow
    have heff:am X.C X.pts (oval σ.tmps) o=some (.lnew d (x.cells.map SL.val)):=by
     rw[he,hd]
     unfold cD
     simp only[hnt,qaq,if_false,fj,cells_ok' hx,qaF,hp,if_true]
    let σ₁:St:={ σ with loc:=σ.loc.set d (some (x.cells.map SL.val)) }
    have hR1:Rp ⟨ev.tm,ev.lc.set d (.row x.cells)⟩ σ₁:=by
     refine⟨hR.len,hR.val,by simp[σ₁,hR.llen],λi r hr=>?_⟩
     simp only[qa1]at hr
     split at hr
     next hi=>
      subst hi
      split at hr
      next hlt=>
       cases hr
       exact⟨by simp only[σ₁];rw[qaA (by rw[←hR.llen];exact hlt)],hx⟩
      ·cases hr
     next hi=>
      have:=hR.row i r hr
      have hne:σ₁.loc[i]?=σ.loc[i]?:=by simp only[σ₁];rw[qai hi]
      cases r<;>first|trivial|(simp only[LR.ok]at this ⊢;rw[hne];exact this)
    have hkey:uC X.pts o=some d:=by
     rcases hb with⟨y,hb⟩|hb<;>(simp only[uC,hb,hd];rw[qd7 hp])
    have hrow':jF X.pts o=some d:=by
     rcases hb with⟨y,hb⟩|hb<;>(simp only[jF,hb,hd];rw[qd7 hp])
    refine⟨σ₁.put o.dst (.pointer (some ⟨d,0,some 0⟩)),_,h,.inl ⟨_,heff,(σ₁,.pointer (some ⟨d,0,some 0⟩)),by simp[aR,hloc,σ₁],rfl⟩,?_,?_,?_,hk⟩
    ·rw[hd];exact hR1.put d (s:=.lad d 0) trivial
    ·rw[ha];cases o.dst<;>rfl
    ·have hf:=Fr.put (σ:=σ₁) o.dst (.pointer (some ⟨d,0,some 0⟩)) [d] [d]
     have h0:Fr o.dst.toList [d] [d] σ σ₁:=by
      refine⟨rfl,by simp[σ₁],λ_ _ h _ _=>h,λ_ _ _ h _ _=>h,λs y hs hn=>?_,λs vs hs hn=>?_⟩
      ·simp only[qaw]at hn
       simp only[σ₁]
       rw[qai (λe=>hn e.symm)];exact hs
      ·simp only[qaw]at hn
       refine⟨vs,?_,rfl⟩
       simp only[σ₁]
       rw[qai (λe=>hn e.symm)];exact hs
     rw[hkey,hrow']
     exact h0.trans hf
   ·exact absurd hk hA.fail
  next hp=>
   have hp:¬X.pts.getD d 0=d+2:=λe=>by rw[e]at hp;simp at hp
   obtain⟨h',e1,e2⟩:=hA.new _ _ _ hk
   rw[ha]at e1 e2
   have heff:am X.C X.pts (oval σ.tmps) o=some (.hop λH=>some (H++[.cells x.val.cells.toList (lO X.C.P t) true],.pointer (some ⟨H.length,0,none⟩))):=by
    rw[he,hd]
    unfold cD
    simp only[hnt,qaq,if_false,hok,qaF,hp]
   rw[←hd]at e2
   refine dh (s:=.st (.leaf (.v (.pointer (some ⟨σ.heap.length,0,none⟩))))) hR e1 (λl hl=>?_) heff ?_ e2
   ·simp only[S0.cells,qaw]at hl
    subst hl;rfl
   ·simp only[fj];rfl
def wC(new:Tl):∀(off k:Nat) (cs:Tl),off+k+new.length<=cs.length->
  ((new.zipIdx k).foldl (λ(acc:Tj) (p:Value×Nat)=>acc.setIfInBounds (off+p.2) p.1) cs.toArray).toList=cs.take (off+k)++new++cs.drop (off+k+new.length):=by
 induction new with
 |nil=>intro off k cs h;simp
 |cons a l ih=>
  intro off k cs h
  simp only[qaE]at h
  simp only[List.zipIdx_cons,qcz]
  have hset:(cs.toArray.setIfInBounds (off+k) a)=(cs.set (off+k) a).toArray:=by simp
  rw[hset,ih off (k+1) (cs.set (off+k) a) (by simp;omega)]
  rw[List.take_set,List.drop_set]
  have h1:(cs.take (off+(k+1))).set (off+k) a=cs.take (off+k)++[a]:=by
   rw[show off+(k+1)=(off+k)+1 from by omega]
   rw[List.take_succ_eq_append_getElem (by omega),List.set_append]
   simp[qbW (show off+k<=cs.length by omega)]
  rw[h1]
  rw[qd7 (show off+k<off+(k+1)+l.length by omega),show off+(k+1)+l.length=off+k+(l.length+1)by omega]
  simp only[qaH,qaI,qaG,qaE]
def rM(pl:Nat->Option (Nat×Nat)):∀(ps:List (Nat×S0)) (cs r:List SL),(∀p∈ps,p.2.good)->rL pl cs ps=some r->
  Instr.fill pl ⟨cs.map SL.val⟩ (ps.map λp=>(p.1,p.2.val))=some ⟨r.map SL.val⟩
 | [],cs,r,_,hf=>by cases hf;rfl
 |(i,x) :: ps,cs,r,hg,hf=>by
  simp only[rL]at hf
  split at hf
  next off n hpl=>
   split at hf
   next hn=>
    split at hf
    next cs1 hs=>
     have hn:x.cells.length=n:=by simpa using hn
     have hx:x.good:=hg (i,x) (by simp)
     have hc:=S0.cells_val hx
     unfold iM at hs
     split at hs
     next hle=>
      cases hs
      have ih:=rM pl ps _ r (λp hp=>hg p (by simp[hp])) hf
      simp only[qav,Instr.fill,hpl,hc]
      have hsz:(⟨x.cells.map SL.val⟩ : Array Value).size=n:=by simp[hn]
      rw[qd8 (by
       have h2:(⟨cs.map SL.val⟩ : Array Value).size=cs.length:=by simp
       rw[hsz,h2];simp;omega)]
      rw[←ih]
      congr 1
      have hfold:=wC (x.cells.map SL.val) off 0 (cs.map SL.val) (by simp;omega)
      apply qbc.1
      rw[←qcv,qdk]
      refine Eq.trans hfold ?_
      simp[qcr,qcD]
     ·cases hs
    ·cases hf
   ·cases hf
  ·cases hf
def qc(pl:Nat->Option (Nat×Nat)):∀(ps:List (Nat×S0)) (cs r:List SL),(∀c∈cs,c.good)->(∀p∈ps,p.2.good)->rL pl cs ps=some r->∀c∈r,c.good
 | [],cs,r,hc,_,hf=>by cases hf;exact hc
 |(i,x) :: ps,cs,r,hc,hg,hf=>by
  simp only[rL]at hf
  split at hf
  ·split at hf
   ·split at hf
    next cs1 hs=>
     refine qc pl ps cs1 r (λc hm=>?_) (λp hp=>hg p (by simp[hp])) hf
     unfold iM at hs
     split at hs
     ·cases hs
      simp only[qaJ]at hm
      rcases hm with(hm|hm)|hm
      ·exact hc c (qbv hm)
      ·exact hg (i,x) (by simp) c hm
      ·exact hc c (qbL hm)
     ·cases hs
    ·cases hf
   ·cases hf
  ·cases hf
def qU{ps:List (Nat×Operand)}{xs:List S0}(hv:(ps.map (·.2)).map (oval σ.tmps)=ah xs) :
  ps.map (λp=>(p.1,oval σ.tmps p.2))=((ps.map (·.1)).zip xs).map λp=>(p.1,p.2.val):=by
 induction ps generalizing xs with
 |nil=>simp
 |cons p ps ih=>
  cases xs with
  |nil=>simp[ah]at hv
  |cons x xs=>
   simp only[qav,ah,qaV]at hv
   simp only[qav,qcw,hv.1]
   rw[ih (xs:=xs) hv.2]
def tb{is:Tz}{xs:List S0}(hg:∀x∈xs,x.good):∀p∈is.zip xs,p.2.good:=λ_ hp=>hg _ (List.of_mem_zip hp).2
def sZ{P:TG}{t:TP}{x:S0}(hz:wB P t=some x):∃z,dI P t=some z/\x.val=z/\x.good:=by
 unfold wB at hz
 obtain⟨z,h1,h2⟩:=qat.1 hz
 obtain⟨h3,h4,_⟩:=sJ h2
 exact⟨z,h1,h3,h4⟩
def build_ok(hA:AlgOk A X.C Sg X.T holds abs)(hR:Rp ev σ)(ha:abs h=σ.heap){t:TP}{ps:Array (Nat×Operand)}(ho:o.op = .build t ps)
  (hk:holds (match wB X.C.P t,nu X.C.P t,svals ev (ps.toList.map (·.2))with
  |some z,some pl,some xs=>match rL pl z.cells ((ps.toList.map (·.1)).zip xs)with
   |some cs=>setD o.dst (.st (.agg cs)) ev h K
   |none=>A.fail
  |_,_,_=>A.fail)):Done X holds abs o σ K:=by
 split at hk
 next z pl xs e1 e2 e3=>
  split at hk
  next cs e4=>
   obtain⟨zv,hz1,hz2,hz3⟩:=sZ e1
   obtain⟨hv,hg⟩:=hR.svals e3
   have hzc:=S0.cells_val hz3
   have hfill:=rM pl _ _ _ (tb (is:=ps.toList.map (·.1)) hg) e4
   have hgood:=qc pl _ _ _ (λc hc=>hz3 c hc) (tb (is:=ps.toList.map (·.1)) hg) e4
   refine aF hR ha (s:=.st (.agg cs)) hgood ?_ hk
   have hall:(ps.toList.all λp=>!aJ (oval σ.tmps p.2))=true:=by
    simp only[qab,qbJ]
    intro p hp
    have hm:oval σ.tmps p.2∈ah xs:=by
     rw[←hv]
     exact qaK.2 ⟨p.2,qaK.2 ⟨p,hp,rfl⟩,rfl⟩
    simp only[ah,qaK]at hm
    obtain⟨x,hx,e⟩:=hm
    rw[←e]
    exact S0.not_tuple (hg x hx)
   simp only[am,ho,hall,if_true,tw,hz1,e2]
   rw[qU hv,←hz2,hzc,hfill]
   rfl
  ·exact absurd hk hA.fail
 ·exact absurd hk hA.fail
end
def SL.lf_val{a b:SL}{k:LK}(ha:a.is k=true)(hb:b.is k=true)(he:a.lf=b.lf):a.val=b.val/\(a.good->b.good):=by
 cases a<;>cases b<;>cases k<;>simp only[SL.lf,Lf.i.injEq,Lf.b.injEq,Lf.v.injEq,reduceCtorEq,SL.is,qaq]at he ha hb ⊢<;>try (subst he;exact⟨rfl,id⟩)
 subst he
 exact⟨by simp only[SL.val];rw[dd ha,dd hb],id⟩
def bN:∀ {cs:List SL} {ks:TI},aW cs ks=true->cs.length=ks.length
 | [],[],_=>rfl
 |c :: cs,k :: ks,h=>by
  simp only[aW,qaa]at h
  simp[bN h.2]
 | [],_ :: _,h=>by cases h
 |_ :: _,[],h=>by cases h
def ie:∀ {a b:List SL} {ks:TI},aW a ks=true->aW b ks=true->a.map SL.lf=b.map SL.lf->a.map SL.val=b.map SL.val/\((∀c∈a,c.good)->∀c∈b,c.good)
 | [],[],[],_,_,_=>⟨rfl,λ_ _ h=>by cases h⟩
 |a :: as0,b :: bs,k :: ks,ha,hb,he=>by
  simp only[aW,qaa]at ha hb
  simp only[qav,qaV]at he
  obtain⟨h1,h2⟩:=SL.lf_val ha.1 hb.1 he.1
  obtain⟨h3,h4⟩:=ie ha.2 hb.2 he.2
  refine⟨by simp[h1,h3],λhg c hc=>?_⟩
  rcases qak.1 hc with rfl|hc
  ·exact h2 (hg a (by simp))
  ·exact h4 (λc hc=>hg c (by simp[hc])) c hc
 | [],_ :: _,[],_,hb,_=>by cases hb
 | [],_,_ :: _,ha,_,_=>by cases ha
 |_ :: _,_,[],ha,_,_=>by cases ha
 |_ :: _,[],_ :: _,_,hb,_=>by cases hb
def S0.is_val{a b:S0}{sk:SK}(ha:a.is sk=true)(hb:b.is sk=true)(he:a.cells.map SL.lf=b.cells.map SL.lf):a.val=b.val/\(a.good->b.good):=by
 cases sk with
 |leaf k=>
  cases a with
  |agg _=>cases ha
  |leaf a=>
   cases b with
   |agg _=>cases hb
   |leaf b=>
    simp only[S0.cells,qav,qbl,qaV,and_true]at he
    obtain⟨h1,h2⟩:=SL.lf_val ha hb he
    refine⟨h1,λhg l hl=>?_⟩
    simp only[S0.cells,qaw]at hl
    subst hl
    exact h2 (hg a (by simp[S0.cells]))
 |agg ks=>
  cases a with
  |leaf _=>cases ha
  |agg a=>
   cases b with
   |leaf _=>cases hb
   |agg b=>
    obtain⟨h1,h2⟩:=ie ha hb he
    exact⟨by simp only[S0.val,h1],h2⟩
def S0.is_len{a:S0}{sk:SK}(ha:a.is sk=true):∃n,a.cells.length=n/\∀b:S0,b.is sk=true->b.cells.length=n:=by
 refine⟨_,rfl,λb hb=>?_⟩
 cases sk with
 |leaf k=>
  cases a with
  |agg _=>cases ha
  |leaf a=>cases b with
   |agg _=>cases hb
   |leaf b=>rfl
 |agg ks=>
  cases a with
  |leaf _=>cases ha
  |agg a=>cases b with
   |leaf _=>cases hb
   |agg b=>exact(bN hb).trans (bN ha).symm
def cM:∀ {a b:List S0} {sks:TK},bQ a sks=true->bQ b sks=true->bT a=bT b->ah a=ah b/\((∀c∈a,c.good)->∀c∈b,c.good)
 | [],[],[],_,_,_=>⟨rfl,λ_ _ h=>by cases h⟩
 |a :: as0,b :: bs,k :: ks,ha,hb,he=>by
  simp only[bQ,qaa]at ha hb
  obtain⟨n,hn1,hn2⟩:=S0.is_len ha.1
  have hn2:=hn2 b hb.1
  simp only[bT]at he
  obtain⟨he1,he2⟩:=qdR he (by simp[hn1,hn2])
  obtain⟨h1,h2⟩:=S0.is_val ha.1 hb.1 he1
  obtain⟨h3,h4⟩:=cM ha.2 hb.2 he2
  refine⟨by simp only[ah,qav,h1]at h3 ⊢;rw[h3],λhg c hc=>?_⟩
  rcases qak.1 hc with rfl|hc
  ·exact h2 (hg a (by simp))
  ·exact h4 (λc hc=>hg c (by simp[hc])) c hc
 | [],_ :: _,[],_,hb,_=>by cases hb
 | [],_,_ :: _,ha,_,_=>by cases ha
 |_ :: _,_,[],ha,_,_=>by cases ha
 |_ :: _,[],_ :: _,_,hb,_=>by cases hb
section
variable [Val] [Kno] {R HT:Type} {A:Alg R HT} {X:Ctxt} {Sg:Tc} {holds:R->Prop} {abs:HT->Ts}
variable {ev:Env} {σ:St} {h:HT} {o:Oper} {K:KN R HT}
def qR{C:Cfg}{T:Tt}(hA:AlgOk A C Sg T holds abs):∀ {ks:TI} {ls:TE} {K:List SL->TE->R},holds (unL A ks ls K)->
  ∃cs r,ls=cs.map SL.lf++r/\aW cs ks=true/\holds (K cs r)
 | [],ls,K,hk=>⟨[],ls,rfl,rfl,hk⟩
 | .i k :: ks,ls,K,hk=>by
  obtain⟨n,r,rfl,hk1⟩:=hA.unI _ _ hk
  obtain⟨cs,r',rfl,h2,h3⟩:=qR hA (ks:=ks) hk1
  exact⟨.i k n :: cs,r',rfl,by simp[aW,SL.is,dM,h2],h3⟩
 | .b :: ks,ls,K,hk=>by
  obtain⟨n,r,rfl,hk1⟩:=hA.unB _ _ hk
  obtain⟨cs,r',rfl,h2,h3⟩:=qR hA (ks:=ks) hk1
  exact⟨.b n :: cs,r',rfl,by simp[aW,SL.is,h2],h3⟩
 | .v :: ks,ls,K,hk=>by
  obtain⟨n,r,rfl,hk1⟩:=hA.unV _ _ hk
  obtain⟨cs,r',rfl,h2,h3⟩:=qR hA (ks:=ks) hk1
  exact⟨.v n :: cs,r',rfl,by simp[aW,SL.is,h2],h3⟩
def unS_ok{C:Cfg}{T:Tt}(hA:AlgOk A C Sg T holds abs){sk:SK}{ls:TE}{K:S0->TE->R}(hk:holds (unS A sk ls K)) :
  ∃x r,ls=x.cells.map SL.lf++r/\x.is sk=true/\holds (K x r):=by
 cases sk with
 |leaf k=>
  cases k with
  |i k=>
   obtain⟨n,r,rfl,hk1⟩:=hA.unI _ _ hk
   exact⟨.leaf (.i k n),r,rfl,by simp[S0.is,SL.is,dM],hk1⟩
  |b=>
   obtain⟨n,r,rfl,hk1⟩:=hA.unB _ _ hk
   exact⟨.leaf (.b n),r,rfl,rfl,hk1⟩
  |v=>
   obtain⟨n,r,rfl,hk1⟩:=hA.unV _ _ hk
   exact⟨.leaf (.v n),r,rfl,rfl,hk1⟩
 |agg ks=>
  obtain⟨cs,r,h1,h2,h3⟩:=qR hA hk
  exact⟨.agg cs,r,h1,h2,h3⟩
def px{C:Cfg}{T:Tt}(hA:AlgOk A C Sg T holds abs):∀ {sks:TK} {ls:TE} {K:List S0->TE->R},holds (unSs A sks ls K)->
  ∃xs r,ls=bT xs++r/\bQ xs sks=true/\holds (K xs r)
 | [],ls,K,hk=>⟨[],ls,rfl,rfl,hk⟩
 |sk :: sks,ls,K,hk=>by
  have hk0:holds (unS A sk ls λx r=>unSs A sks r λxs r=>K (x :: xs) r):=hk
  obtain⟨x,r,rfl,h1,hk1⟩:=unS_ok hA hk0
  obtain⟨xs,r',rfl,h2,h3⟩:=px hA (sks:=sks) hk1
  exact⟨x :: xs,r',by simp[bT],by simp[bQ,h1,h2],h3⟩
def yu{C:Cfg}{T:Tt}(hA:AlgOk A C Sg T holds abs):∀ {ks:TI} {ls:Tl} {K:List SL->Tl->R},holds (ucL A ks ls K)->
  ∃cs r,ls=cs.map SL.val++r/\aW cs ks=true/\(∀c∈cs,c.good)/\holds (K cs r)
 | [],ls,K,hk=>⟨[],ls,rfl,rfl,by simp,hk⟩
 | .i k :: ks,ls,K,hk=>by
  obtain⟨n,r,rfl,hk1⟩:=hA.ucI _ _ _ hk
  obtain⟨cs,r',rfl,h2,h3,h4⟩:=yu hA (ks:=ks) hk1
  exact⟨.i k n :: cs,r',rfl,by simp[aW,SL.is,dM,h2],qbu.2 ⟨trivial,h3⟩,h4⟩
 | .b :: ks,ls,K,hk=>by
  obtain⟨n,r,rfl,hk1⟩:=hA.ucB _ _ hk
  obtain⟨cs,r',rfl,h2,h3,h4⟩:=yu hA (ks:=ks) hk1
  exact⟨.b n :: cs,r',rfl,by simp[aW,SL.is,h2],qbu.2 ⟨trivial,h3⟩,h4⟩
 | .v :: ks,ls,K,hk=>by
  obtain⟨n,r,rfl,hk1⟩:=hA.ucV _ _ hk
  obtain⟨hg,hk2⟩:=hA.chk _ _ hk1
  obtain⟨cs,r',rfl,h2,h3,h4⟩:=yu hA (ks:=ks) hk2
  exact⟨.v n :: cs,r',rfl,by simp[aW,SL.is,h2],qbu.2 ⟨hg,h3⟩,h4⟩
def pw{C:Cfg}{T:Tt}(hA:AlgOk A C Sg T holds abs){sk:SK}{ls:Tl}{K:S0->Tl->R}(hk:holds (ucS A sk ls K)) :
  ∃x r,ls=x.cells.map SL.val++r/\x.is sk=true/\x.good/\holds (K x r):=by
 cases sk with
 |leaf k=>
  cases k with
  |i k=>
   obtain⟨n,r,rfl,hk1⟩:=hA.ucI _ _ _ hk
   exact⟨.leaf (.i k n),r,rfl,by simp[S0.is,SL.is,dM],λl hl=>by simp only[S0.cells,qaw]at hl;subst hl;trivial,hk1⟩
  |b=>
   obtain⟨n,r,rfl,hk1⟩:=hA.ucB _ _ hk
   exact⟨.leaf (.b n),r,rfl,rfl,λl hl=>by simp only[S0.cells,qaw]at hl;subst hl;trivial,hk1⟩
  |v=>
   obtain⟨n,r,rfl,hk1⟩:=hA.ucV _ _ hk
   obtain⟨hg,hk2⟩:=hA.chk _ _ hk1
   exact⟨.leaf (.v n),r,rfl,rfl,λl hl=>by simp only[S0.cells,qaw]at hl;subst hl;exact hg,hk2⟩
 |agg ks=>
  obtain⟨cs,r,h1,h2,h3,h4⟩:=yu hA hk
  exact⟨.agg cs,r,h1,h2,h3,h4⟩
def ucSs_ok{C:Cfg}{T:Tt}(hA:AlgOk A C Sg T holds abs):∀ {sks:TK} {ls:Tl} {K:List S0->Tl->R},holds (ucSs A sks ls K)->
  ∃xs r,ls=mR xs++r/\bQ xs sks=true/\(∀x∈xs,x.good)/\holds (K xs r)
 | [],ls,K,hk=>⟨[],ls,rfl,rfl,by simp,hk⟩
 |sk :: sks,ls,K,hk=>by
  have hk0:holds (ucS A sk ls λx r=>ucSs A sks r λxs r=>K (x :: xs) r):=hk
  obtain⟨x,r,rfl,h1,hg,hk1⟩:=pw hA hk0
  obtain⟨xs,r',rfl,h2,h3,h4⟩:=ucSs_ok hA (sks:=sks) hk1
  refine⟨x :: xs,r',by simp[mR],by simp[bQ,h1,h2],λc hc=>?_,h4⟩
  rcases qak.1 hc with rfl|hc
  ·exact hg
  ·exact h3 c hc
def mkV(agg:Bool)(cs:Tl)(v:Value):Prop:=(agg=true/\v = .agg ⟨cs⟩)∨(agg=false/\cs=[v])
def qo{x:S0}{sk:SK}(hx:x.is sk=true){v:Value}(hv:mkV (jJ sk) (x.cells.map SL.val) v):x.val=v:=by
 cases sk with
 |leaf k=>
  cases x with
  |agg _=>cases hx
  |leaf l=>
   rcases hv with⟨h,_⟩|⟨_,h⟩
   ·cases h
   ·simp only[S0.cells,qav,qbl,qaV,and_true]at h
    exact h
 |agg ks=>
  cases x with
  |leaf _=>cases hx
  |agg cs=>
   rcases hv with⟨_,h⟩|⟨h,_⟩
   ·exact h.symm
   ·cases h
def eqB_eq{a b:Bool}(h:eqB a b=true):a=b:=by cases a<;>cases b<;>first|rfl|cases h
def oA{agg:Bool}{cs:List SL}{x:S0}(hx:mkS0 agg cs=some x):x.cells=cs/\mkV agg (cs.map SL.val) x.val:=by
 unfold mkS0 at hx
 split at hx
 ·cases hx;exact⟨rfl,.inl ⟨rfl,rfl⟩⟩
 ·cases hx;exact⟨rfl,.inr ⟨rfl,rfl⟩⟩
 ·cases hx
def cZ{P:TG}{t:TP}{agg:Bool}(hag:aggT P t=some agg){vs cs:Tl}{off:Nat}(hc:cut vs off (if agg then P.cellsOf t else 1)=some cs) :
  ∃v,dt P t vs off=some v/\mkV agg cs v:=by
 unfold aggT at hag
 unfold dt
 split at hag
 next fs e=>
  cases hag
  rw[e]
  simp only[if_true]at hc
  exact⟨.agg ⟨cs⟩,by simp[hc],.inl ⟨rfl,rfl⟩⟩
 next fs e=>
  cases hag
  rw[e]
  simp only[if_true]at hc
  exact⟨.agg ⟨cs⟩,by simp[hc],.inl ⟨rfl,rfl⟩⟩
 next d h1 h2 e=>
  cases hag
  rw[e]
  simp only[qaq,if_false]at hc
  unfold cut at hc
  split at hc
  next hle=>
   cases hc
   have hlt:off<vs.length:=by omega
   have hcs:(vs.drop off).take 1=[vs[off]]:=by
    rw[qbq hlt];rfl
   refine⟨vs[off],?_,.inr ⟨rfl,hcs⟩⟩
   simp[hlt]
  ·cases hc
 ·cases hag
def lQ(hA:AlgOk A X.C Sg X.T holds abs){dst:To}{sk:SK}{cs:Tl}{v:Value}(hv:mkV (jJ sk) cs v)(hk:holds (setC A dst sk cs ev h K)) :
  ∃x:S0,x.val=v/\x.good/\holds (setD dst (.st x) ev h K):=by
 obtain⟨x,r,h1,h2,h3,hk1⟩:=pw hA hk
 obtain⟨hr,hk2⟩:=hA.uc0 _ _ hk1
 rw[hr,qaU]at h1
 subst h1
 exact⟨x,qo h2 hv,h3,hk2⟩
def nR{cs ds:List SL}{off n:Nat}(hc:cutS cs off n=some ds):cut (cs.map SL.val) off n=some (ds.map SL.val)/\(∀d∈ds,d∈cs):=by
 unfold cutS at hc
 unfold cut
 split at hc
 next hle=>
  cases hc
  rw[qd7 (by simpa using hle)]
  exact⟨by simp[qcD,qcr],λd hd=>qbL (qbv hd)⟩
 ·cases hc
def kC(hR:Rp ev σ){s:Nat}{cs:List SL}(hr:sG ev s=some cs):σ.loc[s]?=some (some (cs.map SL.val))/\(∀c∈cs,c.good)/\ev.lc[s]?=some (.row cs):=by
 unfold sG at hr
 split at hr
 next ds e=>
  cases hr
  rw[List.getD_eq_getElem?_getD]at e
  cases he:ev.lc[s]? with
  |none=>rw[he]at e;cases e
  |some r=>
   rw[he]at e
   simp only[qbh]at e
   subst e
   have:=hR.row s _ he
   exact⟨this.1,this.2,rfl⟩
 ·cases hr
def xN{cs:List SL}{base:Nat}{ix:List (Int×Nat)}{n:Nat}{ls:TE}(hp:eu (cs.map SL.lf) base ix n=some ls) :
  ∃ds,cutS cs (offX base ix) n=some ds/\ls=ds.map SL.lf:=by
 rw[pickL_eq]at hp
 split at hp
 next hle=>
  cases hp
  refine⟨_,by unfold cutS;rw[qd7 (by simpa using hle)],by simp[qcD,qcr]⟩
 ·cases hp
def offX_le:∀(ix:List (Int×Nat)) (base:Nat),base<=offX base ix
 | [],base=>qao _
 |p :: l,base=>qbt (qdH _ _) (offX_le l _)
def mL{cs ds:List SL}{ks:TI}:∀ {ix:List (Int×Nat)} {base:Nat},tj cs ks base ix=true->cutS cs (offX base ix) ks.length=some ds->aW ds ks=true
 | [],base,h1,h2=>by
  simp only[tj,offX]at h1 h2
  rw[h2]at h1
  exact h1
 |p :: l,base,h1,h2=>by
  simp only[tj,qaa,qab,qbJ,offX]at h1 h2
  obtain⟨h0,h1⟩:=h1
  refine mL (ix:=l) (h1 p.1.toNat ?_) h2
  have hp:p.2≠0:=λe=>by rw[e]at h0;cases h0
  have hle:offX (base+p.1.toNat*p.2) l<=cs.length:=by
   unfold cutS at h2
   split at h2
   ·omega
   ·cases h2
  have:=offX_le l (base+p.1.toNat*p.2)
  have h3:p.1.toNat<=p.1.toNat*p.2:=Nat.le_mul_of_pos_right _ (Nat.pos_of_ne_zero hp)
  simp only[qae]
  omega
def is_skKs{x:S0}{sk:SK}(hx:x.is sk=true):aW x.cells (skKs sk)=true:=by
 cases sk with
 |leaf k=>
  cases x with
  |agg _=>cases hx
  |leaf l=>simp[S0.cells,skKs,aW];exact hx
 |agg ks=>
  cases x with
  |leaf _=>cases hx
  |agg cs=>exact hx
def setL_ok(hA:AlgOk A X.C Sg X.T holds abs){dst:To}{sk:SK}{ds:List SL}{v:Value}(hd:aW ds (skKs sk)=true)(hg:∀c∈ds,c.good)(hv:mkV (jJ sk) (ds.map SL.val) v)
  (hk:holds (setL A dst sk (ds.map SL.lf) ev h K)):∃x:S0,x.val=v/\x.good/\holds (setD dst (.st x) ev h K):=by
 obtain⟨x,r,e1,e2,hk1⟩:=unS_ok hA hk
 obtain⟨hr0,hk2⟩:=hA.un0 _ _ hk1
 rw[hr0,qaU]at e1
 obtain⟨h1,h2⟩:=ie hd (is_skKs e2) e1
 rw[h1]at hv
 exact⟨x,qo e2 hv,h2 hg,hk2⟩
def is_lk(c:SL):c.is c.lk=true:=by cases c<;>first|rfl|exact dM _
def mM:∀cs:List SL,aW cs (cs.map SL.lk)=true
 | []=>rfl
 |c :: cs=>by simp[aW,is_lk,mM cs]
def ic:∀ {a b:List SL} {ka kb:TI},aW a ka=true->aW b kb=true->aW (a++b) (ka++kb)=true
 | [],b,[],kb,_,h=>h
 |a :: as0,b,k :: ka,kb,h1,h2=>by
  simp only[aW,qaa,qaI]at h1 ⊢
  exact⟨h1.1,ic h1.2 h2⟩
 | [],_,_ :: _,_,h,_=>by cases h
 |_ :: _,_,[],_,h,_=>by cases h
end
section
variable [Val] [Kno] {R HT:Type} {A:Alg R HT} {X:Ctxt} {Sg:Tc} {holds:R->Prop} {abs:HT->Ts}
variable {ev:Env} {σ:St} {h:HT} {o:Oper} {K:KN R HT}
def tB(H:Ts)(id:Nat):ij (λi=>H[i]?) id=fj H id:=rfl
def ldP_ok{n:Nat}{p:Value}{g:cF}{cs:Tl}(h:ldP n p g=some cs):∃id off vs,p = .pointer (some ⟨id,off,none⟩)/\ij g id=some vs/\cut vs off n=some cs:=by
 unfold ldP at h
 split at h
 next a=>
  split at h
  next hs=>
   obtain⟨vs,h1,h2⟩:=qat.1 h
   obtain⟨b,f,sp⟩:=a
   simp only at hs
   subst hs
   exact⟨b,f,vs,rfl,h1,h2⟩
  ·cases h
 ·cases h
def lgP_ok{C:Cfg}{n:Nat}{p:Value}{g:cF}{cs:Tl}(h:lgP C n p g=some cs):(∃id off vs,p = .pointer (some ⟨id,off,none⟩)/\ij g id=some vs/\cut vs off n=some cs)∨∃id off vs,p = .pointer (some ⟨id,off,some 1⟩)/\C.G id=some vs/\cut vs off n=some cs:=by
 unfold lgP at h
 split at h
 next a=>
  split at h
  next hs=>
   obtain⟨vs,h1,h2⟩:=qat.1 h
   obtain⟨b,f,sp⟩:=a
   simp only at hs
   subst hs
   exact .inl ⟨b,f,vs,rfl,h1,h2⟩
  next k hs=>
   split at h
   next hb=>
    obtain⟨vs,h1,h2⟩:=qat.1 h
    obtain⟨b,f,sp⟩:=a
    simp only at hs
    subst hs
    rw[qac hb]
    exact .inr ⟨b,f,vs,rfl,h1,h2⟩
   ·cases h
 ·cases h
def load_ok(hA:AlgOk A X.C Sg X.T holds abs)(hR:Rp ev σ)(ha:abs h=σ.heap){t:TP}{a:TJ}{sk:SK}{agg:Bool}(ho:o.op = .load t a)(hag:aggT X.C.P t=some agg)
  (hsk:agg=jJ sk) (hk:holds (loadE A X o.dst sk agg (if agg then X.C.P.cellsOf t else 1) a ev h K)):Done X holds abs o σ K:=by
 have heff:am X.C X.pts (oval σ.tmps) o=dN X.C X.pts t a (oval σ.tmps a):=by simp only[am,ho]
 unfold loadE at hk
 split at hk
 next p hkey he=>
  obtain⟨h1,_⟩:=hR.sval he (by simp)
  obtain⟨cs,h2,hk1⟩:=hA.peek _ _ _ hk
  simp only[Pk.run]at h2
  rw[ha]at h2
  rcases lgP_ok h2 with⟨id,off,vs,rfl,h3,h4⟩|⟨id,off,vs,rfl,h3,h4⟩
  ·rw[tB]at h3
   obtain⟨v,h5,h6⟩:=cZ hag h4
   rw[hsk]at h6
   obtain⟨x,rfl,h7,hk2⟩:=lQ hA h6 hk1
   refine ip hR ha (s:=.st x) h7 (f:=λH=>(fj H id).bind λvs=>dt X.C.P t vs off) ?_ ?_ hk2
   ·rw[heff,dN,hkey,h1];rfl
   ·simp only[h3,qam,h5];rfl
  ·obtain⟨v,h5,h6⟩:=cZ hag h4
   rw[hsk]at h6
   obtain⟨x,rfl,h7,hk2⟩:=lQ hA h6 hk1
   refine ip hR ha (s:=.st x) h7 (f:=λ_=>(X.C.G id).bind λvs=>dt X.C.P t vs off) ?_ ?_ hk2
   ·rw[heff,dN,hkey,h1];rfl
   ·simp only[h3,qam,h5];rfl
 next g off hkey he=>
  obtain⟨h1,_⟩:=hR.sval he (by simp)
  split at hk
  next vs hg=>
   split at hk
   next cs hc=>
    obtain⟨v,h5,h6⟩:=cZ hag hc
    have hval:am X.C X.pts (oval σ.tmps) o=some (.val v):=by
     rw[heff,dN,hkey,h1]
     simp only[SV.val,gw,if_true,qam,hg,h5,qax]
    split at hk
    next x hsc hm=>
     obtain⟨hm1,hm2⟩:=oA hm
     have hcs:(cs.map slOf).map SL.val=cs:=by
      rw[qds]
      have:(SL.val ∘ slOf)=id:=funext sN
      rw[this,List.map_id]
     rw[hcs]at hm2
     have hv:x.val=v:=by
      rcases hm2 with⟨a1,a2⟩|⟨a1,a2⟩<;>rcases h6 with⟨b1,b2⟩|⟨b1,b2⟩
      ·rw[a2,b2]
      ·rw[a1]at b1;cases b1
      ·rw[a1]at b1;cases b1
      ·rw[a2]at b2;simpa using b2
     subst hv
     refine aF hR ha (s:=.st x) (λl hl=>?_) hval hk
     rw[hm1]at hl
     obtain⟨c,hc1,rfl⟩:=qaK.1 hl
     exact pg (qab.1 hsc c hc1)
    ·rw[hsk]at h6
     obtain⟨x,rfl,h7,hk⟩:=lQ hA h6 hk
     exact aF hR ha (s:=.st x) h7 hval hk
   ·exact absurd hk hA.fail
  ·exact absurd hk hA.fail
 next g base ix hkey he=>
  obtain⟨h1,_⟩:=hR.sval he (by simp)
  split at hk
  next vs hg=>
   obtain⟨cs,hc,hk⟩:=hA.opt _ _ hk
   obtain⟨v,h5,h6⟩:=cZ hag (vs:=vs) (off:=offX base ix) ((pickV_eq _ _ _ _).symm.trans hc)
   have hval:am X.C X.pts (oval σ.tmps) o=some (.val v):=by
    rw[heff,dN,hkey,h1]
    simp only[SV.val,gw,if_true,qam,hg,h5,qax]
   rw[hsk]at h6
   obtain⟨x,rfl,h7,hk⟩:=lQ hA h6 hk
   exact aF hR ha (s:=.st x) h7 hval hk
  ·exact absurd hk hA.fail
 next p hkey he=>
  obtain⟨h1,_⟩:=hR.sval he (by simp)
  obtain⟨cs,hc,hk1⟩:=hA.opt _ _ hk
  unfold ldGv at hc
  split at hc
  next ad=>
   split at hc
   next hsp=>
    obtain⟨vs,hg,hc⟩:=qat.1 hc
    obtain⟨v,h5,h6⟩:=cZ hag hc
    have hval:am X.C X.pts (oval σ.tmps) o=some (.val v):=by
     rw[heff,dN,hkey,h1]
     simp only[SV.val,S0.val,SL.val,gw,hsp,if_true,qam,hg,h5,qax]
    rw[hsk]at h6
    obtain⟨x,rfl,h7,hk2⟩:=lQ hA h6 hk1
    exact aF hR ha (s:=.st x) h7 hval hk2
   ·cases hc
  ·cases hc
 next s s' off hkey he=>
  obtain⟨h1,_⟩:=hR.sval he (by simp)
  split at hk
  next x hs hx=>
   have hs:s=s':=by simpa using hs
   subst hs
   obtain⟨cs,hr,hx⟩:=qat.1 hx
   obtain⟨ds,hd,hx⟩:=qat.1 hx
   obtain⟨r1,r2,_⟩:=kC hR hr
   obtain⟨c1,c2⟩:=nR hd
   obtain⟨v,h5,h6⟩:=cZ hag c1
   obtain⟨hm1,hm2⟩:=oA hx
   have hv:x.val=v:=by
    rcases hm2 with⟨a1,a2⟩|⟨a1,a2⟩<;>rcases h6 with⟨b1,b2⟩|⟨b1,b2⟩
    ·rw[a2,b2]
    ·rw[a1]at b1;cases b1
    ·rw[a1]at b1;cases b1
    ·rw[a2]at b2;simpa using b2
   subst hv
   refine dB hR σ.heap ha (s:=.st x) (λl hl=>?_) (.inl ⟨.lget s λvs=>dt X.C.P t vs off,?_,(σ,x.val),?_,rfl⟩) hk
   ·rw[hm1]at hl;exact r2 l (c2 l hl)
   ·rw[heff,dN,hkey,h1]
    simp[SV.val,ji]
   ·simp[aR,r1,h5]
  ·exact absurd hk hA.fail
 next s s' base ix hkey he=>
  obtain⟨h1,_⟩:=hR.sval he (by simp)
  split at hk
  next cs hs hr=>
   have hs:s=s':=by simpa using hs
   subst hs
   split at hk
   next hat=>
    simp only[qaa]at hat
    obtain⟨hat,hn⟩:=hat
    have hn:=qac hn
    obtain⟨ls,hp,hk1⟩:=hA.opt _ _ hk
    obtain⟨ds,hd,rfl⟩:=xN hp
    obtain⟨r1,r2,_⟩:=kC hR hr
    obtain⟨c1,c2⟩:=nR hd
    obtain⟨v,h5,h6⟩:=cZ hag c1
    rw[hsk]at h6
    rw[hn]at hd
    obtain⟨x,rfl,h7,hk2⟩:=setL_ok hA (mL hat hd) (λc hc=>r2 c (c2 c hc)) h6 hk1
    refine dB hR σ.heap ha (s:=.st x) h7 (.inl ⟨.lget s λvs=>dt X.C.P t vs (offX base ix),?_,(σ,x.val),?_,rfl⟩) hk2
    ·rw[heff,dN,hkey,h1]
     simp[SV.val,ji]
    ·simp[aR,r1,h5]
   ·exact absurd hk hA.fail
  ·exact absurd hk hA.fail
 ·exact absurd hk hA.fail
def qN{cs r new:List SL}{off:Nat}(hs:iM cs off new=some r):splice (cs.map SL.val) off (new.map SL.val)=some (r.map SL.val)/\r.length=cs.length/\((∀c∈cs,c.good)->(∀c∈new,c.good)->∀c∈r,c.good):=by
 unfold iM at hs
 unfold splice
 split at hs
 next hle=>
  cases hs
  rw[qd7 (by simpa using hle)]
  refine⟨by simp[qcr,qcD],by simp;omega,λh1 h2 c hc=>?_⟩
  simp only[qaJ]at hc
  rcases hc with(hc|hc)|hc
  ·exact h1 c (qbv hc)
  ·exact h2 c hc
  ·exact h1 c (qbL hc)
 ·cases hs
def wA{P:TG}{t:TP}{x:S0}(hx:x.good)(hlen:x.cells.length=P.cellsOf t)(hi:(P.info? t).isSome=true)(vs:Tl)(off:Nat) :
  eP P t x.val vs off=splice vs off (x.cells.map SL.val):=by
 unfold eP
 have h1:=S0.cells_val hx
 rw[qd7 ⟨by rw[h1];simpa using hlen,hi⟩,qd7 (S0.cells_ok hx),h1]
def rz(hR:Rp ev σ)(ha:abs h=σ.heap){s:Nat}{cs:List SL}{f:Tl->Option (Tl)}{vs:Tl}(he:am X.C X.pts (oval σ.tmps) o=some (.lset s f))(hloc:σ.loc[s]?=some (some vs))
  (hf:f vs=some (cs.map SL.val)) (hlen:(cs.map SL.val).length=vs.length) (hg:∀c∈cs,c.good) (hrow:jF X.pts o=some s)
  (hk:holds (setD o.dst .un ⟨ev.tm,ev.lc.set s (.row cs)⟩ h K)):Done X holds abs o σ K:=by
 let σ₁:St:={ σ with loc:=σ.loc.set s (some (cs.map SL.val)) }
 have hlt:s<σ.loc.length:=(qaQ.1 hloc).1
 have hR1:Rp ⟨ev.tm,ev.lc.set s (.row cs)⟩ σ₁:=by
  refine⟨hR.len,hR.val,by simp[σ₁,hR.llen],λi r hr=>?_⟩
  simp only[qa1]at hr
  split at hr
  next hi=>
   subst hi
   split at hr
   ·cases hr
    exact⟨by simp only[σ₁];rw[qaA hlt],hg⟩
   ·cases hr
  next hi=>
   have:=hR.row i r hr
   have hne:σ₁.loc[i]?=σ.loc[i]?:=by simp only[σ₁];rw[qai hi]
   cases r<;>first|trivial|(simp only[LR.ok]at this ⊢;rw[hne];exact this)
 obtain⟨ev',h1,h2⟩:=wm (dst:=o.dst) hR1 (s:=.un) trivial hk
 refine⟨σ₁.put o.dst undef,ev',h,.inl ⟨_,he,(σ₁,undef),by simp[aR,hloc,hf,σ₁],rfl⟩,h1,?_,?_,h2⟩
 ·rw[ha];cases o.dst<;>rfl
 ·have hf:=Fr.put (σ:=σ₁) o.dst undef (uC X.pts o).toList (jF X.pts o).toList
  have h0:Fr o.dst.toList (uC X.pts o).toList (jF X.pts o).toList σ σ₁:=by
   refine⟨rfl,by simp[σ₁],λ_ _ h _ _=>h,λ_ _ _ h _ _=>h,λi y hs hn=>?_,λi ws hs hn=>?_⟩
   ·rw[hrow]at hn
    simp only[Option.toList_some,qaw]at hn
    simp only[σ₁]
    rw[qai (λe=>hn e.symm)];exact hs
   ·by_cases hi:i=s
    ·subst hi
     rw[hloc]at hs
     cases hs
     exact⟨_,by simp only[σ₁];rw[qaA hlt],hlen⟩
    ·exact⟨ws,by simp only[σ₁];rw[qai (λe=>hi e.symm)];exact hs,rfl⟩
  exact h0.trans hf
def stP_ok{p:Value}{new:Tl}{g:cF}{n:Nat}{acts:List Act1}{cs:Tl}(h:stP p new g n=some (acts,cs)) :
  ∃id off vs vs' e,p = .pointer (some ⟨id,off,none⟩)/\g id=some (.cells vs e true)/\splice vs off new=some vs'/\acts=[.set id (.cells vs' e true)]:=by
 unfold stP at h
 split at h
 next a=>
  split at h
  next hs=>
   split at h
   next vs e hg=>
    obtain⟨vs',h1,h2⟩:=qaf.1 h
    obtain⟨b,f,sp⟩:=a
    simp only at hs
    subst hs
    cases h2
    exact⟨b,f,vs,vs',e,rfl,hg,h1,rfl⟩
   ·cases h
  ·cases h
 ·cases h
def store_ok(hA:AlgOk A X.C Sg X.T holds abs)(hR:Rp ev σ)(ha:abs h=σ.heap){t:TP}{a y:TJ}{x:S0}(ho:o.op = .store t a y)(hy:sval ev y = .st x)
  (hk:holds (storeE A X o.dst t a x ev h K)):Done X holds abs o σ K:=by
 obtain⟨hy1,hx⟩:=hR.sval hy (by simp)
 have hx:x.good:=hx
 have heff:am X.C X.pts (oval σ.tmps) o=eN X.C X.pts t a (oval σ.tmps a) x.val:=by simp only[am,ho,hy1];rfl
 have hnt:=S0.not_tuple hx
 unfold storeE at hk
 split at hk
 ·exact absurd hk hA.fail
 next hc=>
  simp only[qaa]at hc
  obtain⟨hlen,hi⟩:=hc
  have hlen:=qac hlen
  have hw:=wA (P:=X.C.P) (t:=t) hx hlen hi
  split at hk
  next p hkey he=>
   obtain⟨h1,_⟩:=hR.sval he (by simp)
   obtain⟨acts,cs,h',h2,h3,hk1⟩:=hA.heap _ _ _ hk
   simp only[Hp.run]at h2
   rw[ha]at h2 h3
   obtain⟨id,off,vs,vs',e,rfl,g1,g2,rfl⟩:=stP_ok h2
   refine dh (s:=.un) hR (H':=σ.heap.set id (.cells vs' e true)) h3 trivial (f:=jB X.C t id off x.val) ?_ ?_ hk1
   ·rw[heff,eN,hnt,hkey,h1];rfl
   ·simp only[jB,g1,hw,g2,qax];rfl
  next s s' off hkey he=>
   obtain⟨h1,_⟩:=hR.sval he (by simp)
   have hrow:jF X.pts o=some s:=by simp only[jF,ho,hkey]
   split at hk
   next cs hs hst=>
    have hs:s=s':=by simpa using hs
    subst hs
    rw[setK_eq]at hk
    have heff2:am X.C X.pts (oval σ.tmps) o=some (.lset s λvs=>eP X.C.P t x.val vs off):=by
     rw[heff,eN,hnt,hkey,h1]
     simp[SV.val,ji]
    have hrow0:ev.lc[s]?=some (ev.lc.getD s .unk)∨ev.lc.getD s .unk = .unk:=by
     rw[List.getD_eq_getElem?_getD]
     cases ev.lc[s]?<;>simp
    unfold storeR at hst
    split at hst
    next cs0 hl=>
     obtain⟨q1,q2,q3⟩:=qN hst
     have hlc:ev.lc[s]?=some (.row cs0):=by rcases hrow0 with h|h<;>rw[hl]at h<;>first|exact h|cases h
     have hr:=hR.row s _ hlc
     exact rz hR ha heff2 hr.1 (by rw[hw];exact q1) (by simp[q2]) (q3 hr.2 hx) hrow hk
    next n hl=>
     split at hst
     next hz=>
      cases hst
      simp only[qaa]at hz
      have hz1:=qac hz.1
      have hz2:=qac hz.2
      have hlc:ev.lc[s]?=some (.any n):=by rcases hrow0 with h|h<;>rw[hl]at h<;>first|exact h|cases h
      obtain⟨vs,hv1,hv2⟩:=hR.row s _ hlc
      refine rz hR ha heff2 hv1 ?_ (by rw[hv2,hz2];simp) hx hrow hk
      rw[hw,hz1,splice,qd7 (by simp;omega)]
      simp[show vs.length<=x.cells.length by omega]
     ·cases hst
    ·cases hst
   ·exact absurd hk hA.fail
  next s s' base ix hkey he=>
   obtain⟨h1,_⟩:=hR.sval he (by simp)
   have hrow:jF X.pts o=some s:=by simp only[jF,ho,hkey]
   split at hk
   next cs hs hr=>
    have hs:s=s':=by simpa using hs
    subst hs
    split at hk
    ·exact absurd hk hA.fail
    next hat=>
     obtain⟨ls,hp,hk1⟩:=hA.opt _ _ hk
     obtain⟨cs',r,e1,e2,hk2⟩:=qR hA hk1
     obtain⟨hr0,hk3⟩:=hA.un0 _ _ hk2
     rw[hr0,qaU]at e1
     rw[setK_eq]at hk3
     obtain⟨r1,r2,_⟩:=kC hR hr
     have heff2:am X.C X.pts (oval σ.tmps) o=some (.lset s λvs=>eP X.C.P t x.val vs (offX base ix)):=by
      rw[heff,eN,hnt,hkey,h1]
      simp[SV.val,ji]
     rw[putL_eq]at hp
     split at hp
     next hle=>
      simp only[qa2]at hle
      let off:=offX base ix
      have hmid:cutS cs off x.cells.length=some ((cs.drop off).take x.cells.length):=by unfold cutS;rw[qd7 hle]
      have hk0:aW ((cs.drop off).take x.cells.length) (x.cells.map SL.lk)=true:=mL hat (by rw[qa2];exact hmid)
      let new:=cs.take off++x.cells++cs.drop (off+x.cells.length)
      have hsp:iM cs off x.cells=some new:=by unfold iM;rw[qd7 hle]
      obtain⟨q1,q2,q3⟩:=qN hsp
      have hkinds:aW new (cs.map SL.lk)=true:=by
       have hsplit:cs=cs.take off++(cs.drop off).take x.cells.length++cs.drop (off+x.cells.length):=by
        rw[qaH,←qb4,qbG,qbG]
       have hlk:∀ {a b:List SL},aW a (b.map SL.lk)=true->a.map SL.lk=b.map SL.lk:=by
        intro a b hab
        induction a generalizing b with
        |nil=>cases b with
         |nil=>rfl
         |cons _ _=>cases hab
        |cons a as0 ih=>cases b with
         |nil=>cases hab
         |cons b bs=>
          simp only[qav,aW,qaa]at hab
          simp only[qav,ih hab.2]
          have:a.lk=b.lk:=by
           have h0:=hab.1
           cases a<;>cases b<;>first|rfl|(simp[SL.is,SL.lk]at h0;done)|(simp only[SL.is,SL.lk]at h0 ⊢;rw[dd h0])
          rw[this]
       have hm:cs.map SL.lk=(cs.take off).map SL.lk++x.cells.map SL.lk++(cs.drop (off+x.cells.length)).map SL.lk:=by
        conv=>lhs;rw[hsplit]
        simp only[qbN]
        rw[hlk hk0]
       rw[hm]
       exact ic (ic (mM _) (mM _)) (mM _)
      have hlf:new.map SL.lf=cs'.map SL.lf:=by
       rw[←e1]
       cases hp
       simp[new,off,qcr,qcD]
      obtain⟨v1,v2⟩:=ie hkinds e2 hlf
      refine rz hR ha heff2 r1 (by rw[hw,←v1];exact q1) (by rw[←v1];simp[q2]) (v2 (q3 r2 hx)) hrow hk3
     ·cases hp
   ·exact absurd hk hA.fail
  ·exact absurd hk hA.fail
end
end Go.Am
end

import Derived.Test.YtohimaenikegoaaGreatDoorOE2
import Derived.IntWalk
set_option linter.all false
noncomputable section
set_option maxRecDepth 100000
open List(range)
namespace Go.Am
section
variable {R HT:Type} (A:B_ R HT)
def B_.k0(l:TG)(k:Value->R):R:=A.Ci l λa l=>A.w_ l (k a)
def B_.k1(l:TG)(k:Int->Int->Value->R):R:=A.pu l λa l=>A.pu l λb l=>A.Ci l λc l=>A.w_ l (k a b c)
def B_.k2(l:TG)(k:Value->Int->R):R:=A.Ci l λa l=>A.pu l λb l=>A.w_ l (k a b)
def B_.k3(l:TG)(k:Bool->R):R:=A.D9 l λa l=>A.w_ l (k a)
def B_.k4(l:TG)(k:Int->Int->Int->R):R:=A.pu l λa l=>A.pu l λb l=>A.pu l λc l=>A.w_ l (k a b c)
def B_.k5(l:TG)(k:Int->Int->R):R:=A.pu l λa l=>A.pu l λb l=>A.w_ l (k a b)
def B_.k6(l:TG)(k:Int->R):R:=A.pu l λa l=>A.w_ l (k a)
def B_.k7(l:TG)(k:Int->Int->Value->Int->Int->Int->Value->R):R:=A.pu l λa l=>A.pu l λb l=>A.Ci l λc l=>A.pu l λd l=>A.pu l λe l=>A.pu l λf l=>A.Ci l λg l=>A.w_ l (k a b c d e f g)
def B_.k8(l:Tn)(k:Int->R):R:=A.td .u8 l λa l=>A.v9 l (k a)
def B_.k9(l:Tn)(k:Int->Int->Int->R):R:=A.td .u8 l λa l=>A.td .i64 l λb l=>A.td .i64 l λc l=>A.v9 l (k a b c)
def B_.FM(l:Tn)(k:Int->Int->Int->R):R:=A.td .i64 l λa l=>A.td .i64 l λb l=>A.td .u8 l λc l=>A.v9 l (k a b c)
def B_.DE(l:Tn)(k:Int->R):R:=A.td .i64 l λa l=>A.v9 l (k a)
def B_.FN(l:TG)(k:Int->Int->Int->Int->R):R:=A.pu l λa l=>A.pu l λb l=>A.pu l λc l=>A.pu l λd l=>A.w_ l (k a b c d)
def B_.MP(l:Tn)(k:Int->Int->Int->R):R:=A.td .i64 l λa l=>A.td .u8 l λb l=>A.td .u8 l λc l=>A.v9 l (k a b c)
def B_.k14(l:TG)(k:Value->Int->Int->Value->R):R:=A.Ci l λa l=>A.pu l λb l=>A.pu l λc l=>A.Ci l λd l=>A.w_ l (k a b c d)
def B_.I_(l:TG)(k:Int->Int->Int->Int->Int->Int->R):R:=A.pu l λa l=>A.pu l λb l=>A.pu l λc l=>A.pu l λd l=>A.pu l λe l=>A.pu l λf l=>A.w_ l (k a b c d e f)
def B_.NL(l:TG)(k:Int->Bool->R):R:=A.pu l λa l=>A.D9 l λb l=>A.w_ l (k a b)
def B_.Hb(l:Tn)(k:Int->Int->R):R:=A.td .i64 l λa l=>A.td .i64 l λb l=>A.v9 l (k a b)
def B_.cd(o:BinOp)(x y:Int)(p q:R):R:=A.cmp o x y λt=>A.cond t p q
def B_.ix(e:Nat)(x:Value)(n:Int)(w:Nat)(h:HT)(k:Tn->R):R:=A.j_ (BL e x n) λp=>A.my (.lg cc w p) h k
def B_.fx(e:Nat)(x:Value)(n:Int)(o w:Nat)(h:HT)(k:Tn->R):R:=A.j_ (BL e x n) λp=>A.j_ (Dm o p) λq=>A.nC q (A.my (.lg cc w q) h k)
def B_.c0(f:TQ)(ls:TG)(h:HT)(k:HT->Value->R):R:=A.call f ls h λl h=>A.k0 l (k h)
def B_.c2(f:TQ)(ls:TG)(h:HT)(k:HT->Value->Int->R):R:=A.call f ls h λl h=>A.k2 l (k h)
def B_.c3(f:TQ)(ls:TG)(h:HT)(k:HT->Bool->R):R:=A.call f ls h λl h=>A.k3 l (k h)
def B_.c4(f:TQ)(ls:TG)(h:HT)(k:HT->Int->Int->Int->R):R:=A.call f ls h λl h=>A.k4 l (k h)
def B_.c5(f:TQ)(ls:TG)(h:HT)(k:HT->Int->Int->R):R:=A.call f ls h λl h=>A.k5 l (k h)
def B_.c6(f:TQ)(ls:TG)(h:HT)(k:HT->Int->R):R:=A.call f ls h λl h=>A.k6 l (k h)
def B_.J3(f:TQ)(ls:TG)(h:HT)(k:HT->Int->Int->Int->Int->R):R:=A.call f ls h λl h=>A.FN l (k h)
def B_.F4(f:TQ)(ls:TG)(h:HT)(k:HT->Int->Bool->R):R:=A.call f ls h λl h=>A.NL l (k h)
def B_.ln(x:Value)(k:Int->R):R:=A.j_ (GF x) k
def B_.pa(a b:Int)(k:Int->R):R:=A.z_ .add .i64 a b k
def B_.ps(a b:Int)(k:Int->R):R:=A.z_ .sub .i64 a b k
def B_.pm(a b:Int)(k:Int->R):R:=A.z_ .mul .i64 a b k
def B_.pr(a b:Int)(k:Int->R):R:=A.z_ .rem .i64 a b k
def B_.pq(a b:Int)(k:Int->R):R:=A.z_ .quo .i64 a b k
def B_.ci(a:Int)(k:Int->R):R:=A.conv .i64 a k
def B_.fp(n:Nat)(p:Value)(k:Value->R):R:=A.j_ (C5 p) λa=>A.nC a (A.j_ (Dm n a) λb=>A.nC b (k b))
def B_.lv(x:Value)(h:HT)(k:Value->R):R:=A.my (.lg cc 1 x) h λl=>A.BM l λa l=>A.nC a (A.v9 l (k a))
def B_.av(e b:Nat)(x y:Value)(h:HT)(k:Value->HT->R):R:=A.heap (.ap cc e b x y) h λl h=>A.BM l λa l=>A.nC a (A.v9 l (k a h))
def qeq:(∀l k,A.k0 l k=A.Ci l λc l=>A.w_ l (k c))/\(∀l k,A.k1 l k=A.pu l λc l=>A.pu l λa1 l=>A.Ci l λa2 l=>A.w_ l (k c a1 a2))/\(∀l k,A.k2 l k=A.Ci l λc l=>A.pu l λa1 l=>A.w_ l (k c a1))/\(∀l k,A.k3 l k=A.D9 l λc l=>A.w_ l (k c))/\(∀l k,A.k4 l k=A.pu l λc l=>A.pu l λa1 l=>A.pu l λa2 l=>A.w_ l (k c a1 a2))/\(∀l k,A.k5 l k=A.pu l λc l=>A.pu l λa1 l=>A.w_ l (k c a1))/\(∀l k,A.k6 l k=A.pu l λc l=>A.w_ l (k c))/\(∀l k,A.k7 l k=A.pu l λc l=>A.pu l λa1 l=>A.Ci l λa2 l=>A.pu l λd l=>A.pu l λg l=>A.pu l λi l=>A.Ci l λj l=>A.w_ l (k c a1 a2 d g i j))/\(∀l k,A.k8 l k=A.td .u8 l λc l=>A.v9 l (k c))/\(∀l k,A.k9 l k=A.td .u8 l λc l=>A.td .i64 l λa1 l=>A.td .i64 l λa2 l=>A.v9 l (k c a1 a2))/\(∀l k,A.FM l k=A.td .i64 l λc l=>A.td .i64 l λa1 l=>A.td .u8 l λa2 l=>A.v9 l (k c a1 a2))/\(∀l k,A.DE l k=A.td .i64 l λc l=>A.v9 l (k c))/\(∀l k,A.FN l k=A.pu l λc l=>A.pu l λa1 l=>A.pu l λa2 l=>A.pu l λd l=>A.w_ l (k c a1 a2 d))/\(∀l k,A.MP l k=A.td .i64 l λc l=>A.td .u8 l λa1 l=>A.td .u8 l λa2 l=>A.v9 l (k c a1 a2))/\(∀l k,A.k14 l k=A.Ci l λc l=>A.pu l λa1 l=>A.pu l λa2 l=>A.Ci l λd l=>A.w_ l (k c a1 a2 d))/\(∀l k,A.I_ l k=A.pu l λc l=>A.pu l λa1 l=>A.pu l λa2 l=>A.pu l λd l=>A.pu l λg l=>A.pu l λi l=>A.w_ l (k c a1 a2 d g i))/\(∀l k,A.NL l k=A.pu l λc l=>A.D9 l λa1 l=>A.w_ l (k c a1))/\(∀l k,A.Hb l k=A.td .i64 l λc l=>A.td .i64 l λa1 l=>A.v9 l (k c a1))/\(∀o x y p q,A.cd o x y p q=A.cmp o x y λt=>A.cond t p q)/\(∀e x n w h k,A.ix e x n w h k=A.j_ (BL e x n) λp=>A.my (.lg cc w p) h k)/\(∀e x n o w h k,A.fx e x n o w h k=A.j_ (BL e x n) λp=>A.j_ (Dm o p) λq=>A.nC q (A.my (.lg cc w q) h k))/\(∀f ls h k,A.c0 f ls h k=A.call f ls h λl h=>A.k0 l (k h))/\(∀f ls h k,A.c2 f ls h k=A.call f ls h λl h=>A.k2 l (k h))/\(∀f ls h k,A.c3 f ls h k=A.call f ls h λl h=>A.k3 l (k h))/\(∀f ls h k,A.c4 f ls h k=A.call f ls h λl h=>A.k4 l (k h))/\(∀f ls h k,A.c5 f ls h k=A.call f ls h λl h=>A.k5 l (k h))/\(∀f ls h k,A.c6 f ls h k=A.call f ls h λl h=>A.k6 l (k h))/\(∀f ls h k,A.J3 f ls h k=A.call f ls h λl h=>A.FN l (k h))/\(∀f ls h k,A.F4 f ls h k=A.call f ls h λl h=>A.NL l (k h))/\(∀x k,A.ln x k=A.j_ (GF x) k)/\(∀a b k,A.pa a b k=A.z_ .add .i64 a b k)/\(∀a b k,A.ps a b k=A.z_ .sub .i64 a b k)/\(∀a b k,A.pm a b k=A.z_ .mul .i64 a b k)/\(∀a b k,A.pr a b k=A.z_ .rem .i64 a b k)/\(∀a b k,A.pq a b k=A.z_ .quo .i64 a b k)/\(∀a k,A.ci a k=A.conv .i64 a k)/\(∀n p k,A.fp n p k=A.j_ (C5 p) λa=>A.nC a (A.j_ (Dm n a) λb=>A.nC b (k b)))/\(∀x h k,A.lv x h k=A.my (.lg cc 1 x) h λl=>A.BM l λa l=>A.nC a (A.v9 l (k a)))/\(∀e b x y h k,A.av e b x y h k=A.heap (.ap cc e b x y) h λl h=>A.BM l λa l=>A.nC a (A.v9 l (k a h))):=by
 refine⟨?_,?_,?_,?_,?_,?_,?_,?_,?_,?_,?_,?_,?_,?_,?_,?_,?_,?_,?_,?_,?_,?_,?_,?_,?_,?_,?_,?_,?_,?_,?_,?_,?_,?_,?_,?_,?_,?_,?_⟩<;>intros<;>rfl
variable(ls:TG)(h:HT)(K:TG->HT->R)
def f3:R:=A.pu ls λa b=>A.pu b λb c=>A.Ci c λc d=>A.k0 d λd=>A.call 8 [.i a,.i b,.v c,.v d] h λa b=>A.k1 a λa c d=>A.c2 9 [.i a,.i c,.v d,.i 1000] b λb e f=>A.cd .eql f 0 (A.c3 10 [] b λa b=>K [.b b] a) (A.c4 12 [] b λb f g i=>A.c2 11 [.i a,.i c,.v d,.i f,.i g,.i i,.i 1000] b λb f g=>A.c4 12 [] b λb i j k=>A.c5 13 [.i a,.i c,.v d,.i i,.i j,.i k,.i 1000] b λb i j=>A.c4 12 [] b λb k l m=>A.call 14 [.i a,.i c,.v d,.i k,.i l,.i m] b λa b=>A.pu a λa c=>A.pu c λc d=>A.Ci d λd k=>A.pu k λk l=>A.pu l λl m=>A.pu m λm n=>A.k2 n λn o=>A.cd .neq g 0 (K [.b false] b) (A.cd .neq j 0 (K [.b false] b) (A.ln e λg=>A.cd .neq i g (K [.b false] b) (A.ln f λg=>A.ln e λi=>A.cd .neq g i (K [.b false] b) (A.j_ (OA f) λg=>A.ln f λi=>A.cd .neq g i (K [.b false] b) (A.loop (λb g i=>A.k6 g λg=>A.ln f λj=>A.cd .lss g j (A.ix 7 f g 7 i λa=>A.td .i64 a λa c=>A.td .i64 c λc d=>A.BM d λd f=>A.nC d (A.td .u8 f λf j=>A.td .i64 j λj k=>A.td .i64 k λk l=>A.BM l λl m=>A.nC l (A.v9 m (A.ix 7 e g 7 i λe=>A.td .i64 e λe m=>A.td .i64 m λm n=>A.BM n λn o=>A.nC n (A.td .u8 o λo p=>A.td .i64 p λp q=>A.td .i64 q λq r=>A.BM r λr s=>A.nC r (A.v9 s (A.c6 15 [.i a,.i c,.v d,.i f,.i j,.i k,.v l,.i e,.i m,.v n,.i o,.i p,.i q,.v r] i λa c=>A.cd .neq c 0 (K [.b false] a) (A.pa g 1 λc=>b [.i c] a)))))))) (A.ln e λb=>A.cd .eql b 0 (A.join (λa b=>A.k3 a λa=>K [.b a] b) λa=>A.cd .eql o 15 (A.ln n λb=>A.cd .eql b 0 (A.c3 10 [] i λb c=>a [.b c] b) (a [.b false] i)) (a [.b false] i)) (A.join (λa b=>A.k3 a λa=>K [.b a] b) λb=>A.cd .eql o 0 (A.j_ (BL 7 e 0) λe=>A.my (.lg cc 7 e) i λe=>A.td .i64 e λe f=>A.td .i64 f λf g=>A.BM g λg j=>A.nC g (A.td .u8 j λj o=>A.td .i64 o λo p=>A.td .i64 p λp q=>A.BM q λq r=>A.nC q (A.v9 r (A.c6 15 [.i a,.i c,.v d,.i k,.i l,.i m,.v n,.i e,.i f,.v g,.i j,.i o,.i p,.v q] i λa c=>A.cd .eql c 0 (A.c3 10 [] a λa c=>b [.b c] a) (b [.b false] a))))) (b [.b false] i)))) [.i 0] b))))))
def f4:R:=A.pu ls λa b=>A.pu b λb c=>A.Ci c λc d=>A.k0 d λd=>A.call 8 [.i a,.i b,.v c,.v d] h λa b=>A.k1 a λa c d=>A.ln d λe=>A.cmp .lss 5 e λf=>A.Gq f 5 e λe=>A.loop (λb f g=>A.k6 f λf=>A.cd .lss f e (A.j_ (BL 3 d f) λa=>A.j_ (Dm 2 a) λa=>A.nC a (A.heap (.st a [.int .u8 3]) g λ_ a=>A.pa f 1 λc=>b [.i c] a)) (A.c4 12 [] g λb f g i=>A.c5 13 [.i a,.i c,.v d,.i f,.i g,.i i,.i 300] b λb f g=>A.cd .neq g 0 (K [.b false] b) (A.join (λa b=>A.k6 a λa=>A.cd .eql f 300 (A.join (λa b=>A.k3 a λa=>K [.b a] b) λc=>A.cd .geq a 300 (A.c3 10 [] b λa b=>c [.b b] a) (c [.b false] b)) (A.join (λa b=>A.k3 a λa=>K [.b a] b) λc=>A.cd .eql a f (A.c3 10 [] b λa b=>c [.b b] a) (c [.b false] b))) λf=>A.loop (λb g i=>A.k5 g λg j=>A.conv .u64 e λk=>A.FK .shl .i64 1 .u64 k λk=>A.cd .lss j k (A.cd .leq g 300 (A.new (.cells [] 3 true) i λf i=>A.av 3 16 (.slice (some ⟨f,0,some 13⟩) 0 1) d i λd f=>A.loop (λf i k=>A.k6 i λi=>A.cd .lss i e (A.conv .u64 i λa=>A.FK .shr .i64 j .u64 a λa=>A.z_ .and .i64 a 1 λa=>A.conv .u8 a λa=>A.z_ .add .u8 1 a λa=>A.j_ (BL 3 d i) λb=>A.j_ (Dm 2 b) λb=>A.nC b (A.heap (.st b [.int .u8 a]) k λ_ a=>A.pa i 1 λb=>f [.i b] a)) (A.c4 12 [] k λe f i k=>A.c5 13 [.i a,.i c,.v d,.i f,.i i,.i k,.i 300] e λa c d=>A.cd .neq d 0 (K [.b false] a) (A.pa g c λc=>A.pa j 1 λd=>b [.i c,.i d] a))) [.i 0] f) (f [.i g] i)) (f [.i g] i)) [.i 0,.i 0] b))) [.i 0] b
def f5:R:=A.pu ls λa b=>A.pu b λb c=>A.Ci c λc d=>A.Ci d λd e=>A.k5 e λe f=>A.call 8 [.i a,.i b,.v c,.v d] h λa b=>A.k1 a λa c d=>A.z_ .rem .u8 e 4 λe=>A.cmp .eql e 0 λg=>A.join (λa b=>A.pu a λa c=>A.k1 c λc d e=>A.c4 12 [] b λb g i j=>A.call 14 [.i c,.i d,.v e,.i g,.i i,.i j] b λb g=>A.pu b λ_ b=>A.pu b λ_ b=>A.Ci b λ_ b=>A.pu b λ_ b=>A.pu b λ_ b=>A.pu b λ_ b=>A.k2 b λ_ b=>A.c4 12 [] g λg i j k=>A.c5 13 [.i c,.i d,.v e,.i i,.i j,.i k,.i f] g λg _ i=>A.c4 12 [] g λg j k l=>A.c2 11 [.i c,.i d,.v e,.i j,.i k,.i l,.i f] g λc d e=>A.cd .neq a 0 (A.join (λa b=>A.k3 a λa=>K [.b a] b) λf=>A.cd .eql b a (A.cd .eql i a (A.cd .eql e a (A.ln d λa=>A.cd .eql a 0 (A.c3 10 [] c λa b=>f [.b b] a) (f [.b false] c)) (f [.b false] c)) (f [.b false] c)) (f [.b false] c)) (A.cd .lss f 1 (A.join (λa b=>A.k3 a λa=>K [.b a] b) λa=>A.cd .eql i 1 (A.cd .eql e 1 (A.cd .eql b 0 (A.c3 10 [] c λb c=>a [.b c] b) (A.cd .eql b 15 (A.c3 10 [] c λb c=>a [.b c] b) (a [.b false] c))) (a [.b false] c)) (a [.b false] c)) (A.cd .gtr f 1000 (A.join (λa b=>A.k3 a λa=>K [.b a] b) λa=>A.cd .eql i 1 (A.cd .eql e 1 (A.cd .eql b 0 (A.c3 10 [] c λb c=>a [.b c] b) (A.cd .eql b 15 (A.c3 10 [] c λb c=>a [.b c] b) (a [.b false] c))) (a [.b false] c)) (a [.b false] c)) (A.join (λa b=>A.k3 a λa=>K [.b a] b) λa=>A.cd .eql i 0 (A.cd .eql e 0 (A.cmp .eql b 0 λb=>A.ln d λe=>A.cmp .gtr e 0 λe=>A.eqs [(.b b,.b e)] λb=>A.cond b (A.ln d λb=>A.cd .leq b f (A.c3 10 [] c λb c=>a [.b c] b) (a [.b false] c)) (a [.b false] c)) (a [.b false] c)) (a [.b false] c))))) λf=>A.cond g (A.c6 16 [.i 0,.i c,.v d] b λa b=>f [.i b,.i 0,.i c,.v d] a) (A.cmp .eql e 1 λg=>A.join (λa b=>A.pu a λa c=>A.k1 c λc d e=>f [.i a,.i c,.i d,.v e] b) λf=>A.cond g (A.new (.cells [.int .i64 0,.int .u8 1,.int .u8 2] 3 true) b λb d=>f [.i 11,.i a,.i c,.v (.slice (some ⟨b,0,some 13⟩) 1 2)] d) (A.cmp .eql e 2 λe=>A.join (λa b=>A.pu a λa c=>A.k1 c λc d e=>f [.i a,.i c,.i d,.v e] b) λf=>A.cond e (f [.i 3,.i 17,.i 1,.v (.slice none 0 0)] b) (f [.i 0,.i a,.i c,.v d] b)))
def f8:R:=A.pu ls λa b=>A.pu b λb c=>A.Ci c λc d=>A.k0 d λd=>A.z_ .rem .u8 a 3 λa=>A.z_ .rem .u8 b 3 λb=>A.ln c λe=>A.cmp .gtr e 4 λe=>A.join (λa b=>A.k1 a λa c e=>A.call 18 [.i a,.i c,.v e] b λa b=>A.k7 a λa c e _ _ _ _=>A.join (λb d=>A.w_ b (K [.i a,.i c,.v e] d)) λa=>A.loop (λb c f=>A.k6 c λc=>A.ln d λg=>A.cd .lss c g (A.ln e λg=>A.cd .lss c g (A.ix 1 d c 1 f λa=>A.k8 a λa=>A.z_ .rem .u8 a 8 λa=>A.cd .gtr a 0 (A.cmp .lss a 4 λd=>A.join (λa d=>A.w_ a (A.pa c 1 λa=>b [.i a] d)) λb=>A.cond d (A.j_ (BL 3 e c) λc=>A.j_ (Dm 2 c) λc=>A.nC c (A.heap (.st c [.int .u8 a]) f λ_ a=>b [] a)) (b [] f)) (A.pa c 1 λa=>b [.i a] f)) (a [] f)) (a [] f)) [.i 0] b) λd=>A.cond e (A.j_ (Ex 3 c none (some 4) none) λc=>A.nC c (d [.i a,.i b,.v c] h)) (d [.i a,.i b,.v c] h)
def f10:R:=A.w_ ls (A.new (.cells [] 1 true) h λa b=>A.new (.cells [.int .u8 2] 1 true) b λb c=>A.new (.cells [.int .u8 3] 1 true) c λc d=>A.new (.cells [.int .u8 2,.int .u8 2] 1 true) d λd e=>A.new (.cells [.int .u8 2,.int .u8 1] 1 true) e λe f=>A.new (.cells [.int .u8 3,.int .u8 3] 1 true) f λf g=>A.new (.cells [.slice (some ⟨a,0,some 11⟩) 0 1,.slice (some ⟨b,0,some 11⟩) 1 2,.slice (some ⟨c,0,some 11⟩) 1 2,.slice (some ⟨d,0,some 11⟩) 2 3,.slice (some ⟨e,0,some 11⟩) 2 3,.slice (some ⟨f,0,some 11⟩) 2 3] 1 true) g λa b=>A.new (.cells [.int .i64 1,.int .i64 1,.int .i64 2,.int .i64 2,.int .i64 1,.int .i64 6] 1 true) b λb c=>A.loop (λc d e=>A.k6 d λd=>A.j_ (GF (.slice (some ⟨a,0,some 11⟩) 6 7)) λf=>A.cd .lss d f (A.j_ (BL 1 (.slice (some ⟨a,0,some 11⟩) 6 7) d) λa=>A.lv a e λa=>A.call 28 [.v a] e λa e=>A.k1 a λa f g=>A.c4 12 [] e λe i j k=>A.c5 13 [.i a,.i f,.v g,.i i,.i j,.i k,.i 100] e λa e f=>A.j_ (BL 1 (.slice (some ⟨b,0,some 11⟩) 6 7) d) λb=>A.my (.lg cc 1 b) a λb=>A.DE b λb=>A.cd .neq e b (K [.b false] a) (A.cd .neq f 0 (K [.b false] a) (A.pa d 1 λb=>c [.i b] a))) (A.j_ (BL 1 (.slice (some ⟨a,0,some 11⟩) 6 7) 2) λa=>A.lv a e λa=>A.call 28 [.v a] e λa b=>A.k1 a λa c d=>A.c4 12 [] b λb e f g=>A.call 14 [.i a,.i c,.v d,.i e,.i f,.i g] b λa b=>A.pu a λ_ a=>A.pu a λ_ a=>A.Ci a λ_ a=>A.pu a λ_ a=>A.pu a λ_ a=>A.pu a λ_ a=>A.k2 a λa c=>A.join (λa b=>A.k3 a λa=>K [.b a] b) λd=>A.cd .eql c 0 (A.ln a λc=>A.cd .eql c 4 (A.j_ (BL 4 a 0) λc=>A.j_ (Dm 3 c) λc=>A.nC c (A.lv c b λc=>A.ln c λc=>A.cd .eql c 2 (A.j_ (BL 4 a 0) λc=>A.j_ (Dm 3 c) λc=>A.nC c (A.lv c b λc=>A.j_ (BL 1 c 0) λc=>A.my (.lg cc 1 c) b λc=>A.DE c λc=>A.cd .eql c 0 (A.j_ (BL 4 a 0) λa=>A.j_ (Dm 3 a) λa=>A.nC a (A.lv a b λa=>A.j_ (BL 1 a 1) λa=>A.my (.lg cc 1 a) b λa=>A.DE a λa=>A.cmp .eql a 4 λa=>d [.b a] b)) (d [.b false] b))) (d [.b false] b))) (d [.b false] b)) (d [.b false] b))) [.i 0] c)
def f11:R:=A.pu ls λa b=>A.pu b λb c=>A.Ci c λc d=>A.FN d λd e f g=>A.new (.cells [.int .i64 g] 1 true) h λg i=>A.c2 29 [.i a,.i b,.v c,.i d,.i e,.i f] i λa b c=>A.cd .neq c 0 (K [.v (.slice none 0 0),.i c] a) (A.my (.lg cc 1 (.pointer (some ⟨g,0,none⟩))) a λc=>A.DE c λc=>A.cd .lss c 1 (K [.v (.slice none 0 0),.i 1] a) (A.my (.lg cc 1 (.pointer (some ⟨g,0,none⟩))) a λc=>A.DE c λc=>A.cd .gtr c 1000 (K [.v (.slice none 0 0),.i 1] a) (A.new (.cells [.slice none 0 0] 1 true) a λa c=>A.c0 30 [.v b] c λb c=>A.join (λb c=>A.w_ b (A.lv (.pointer (some ⟨a,0,none⟩)) c λa=>A.c0 31 [.v a] c λa b=>K [.v b,.i 0] a)) λd=>A.Ei 176 c [.pointer (some ⟨g,0,none⟩),.pointer (some ⟨a,0,none⟩)] b λa b=>A.DZ a (d [] b) (K [.v (.slice none 0 0),.i 0] b) ((0,d [] b) :: []))))
def f12:R:=A.w_ ls (K [.i 0,.i 0,.i 0] h)
def f13:R:=A.pu ls λa b=>A.pu b λb c=>A.Ci c λc d=>A.FN d λd e f g=>A.c2 11 [.i a,.i b,.v c,.i d,.i e,.i f,.i g] h λa b c=>A.ln b λb=>K [.i b,.i c] a
def f14:R:=A.pu ls λa b=>A.pu b λb c=>A.Ci c λc d=>A.k4 d λd e f=>A.new (.cells [.int .i64 0,.int .i64 0,.slice none 0 0,.int .u8 0,.int .i64 0,.int .i64 0,.slice none 0 0] 7 true) h λg i=>A.new (.cells [.int .i64 0] 1 true) i λi j=>A.c2 29 [.i a,.i b,.v c,.i d,.i e,.i f] j λa b c=>A.cd .neq c 0 (A.heap (.st (.pointer (some ⟨g,0,none⟩)) [.int .i64 0,.int .i64 0,.slice none 0 0,.int .u8 0,.int .i64 0,.int .i64 0,.slice none 0 0]) a λ_ a=>A.heap (.st (.pointer (some ⟨i,0,none⟩)) [.int .i64 c]) a λ_ a=>A.my (.ld 7 (.pointer (some ⟨g,0,none⟩))) a λb=>A.td .i64 b λb c=>A.td .i64 c λc d=>A.BM d λd e=>A.nC d (A.td .u8 e λe f=>A.td .i64 f λf g=>A.td .i64 g λg j=>A.BM j λj k=>A.nC j (A.v9 k (A.j_ (Fy d) λ_=>A.j_ (Fy j) λ_=>A.my (.ld 1 (.pointer (some ⟨i,0,none⟩))) a λi=>A.DE i λi=>K [.i b,.i c,.v d,.i e,.i f,.i g,.v j,.i i] a)))) (A.c0 30 [.v b] a λa b=>A.Ei 224 b [.pointer (some ⟨g,0,none⟩),.pointer (some ⟨i,0,none⟩)] a λa b=>A.DZ a (A.heap (.st (.pointer (some ⟨g,0,none⟩)) [.int .i64 0,.int .i64 0,.slice none 0 0,.int .u8 0,.int .i64 0,.int .i64 0,.slice none 0 0]) b λ_ a=>A.heap (.st (.pointer (some ⟨i,0,none⟩)) [.int .i64 15]) a λ_ a=>A.my (.ld 7 (.pointer (some ⟨g,0,none⟩))) a λb=>A.td .i64 b λb c=>A.td .i64 c λc d=>A.BM d λd e=>A.nC d (A.td .u8 e λe f=>A.td .i64 f λf g=>A.td .i64 g λg j=>A.BM j λj k=>A.nC j (A.v9 k (A.j_ (Fy d) λ_=>A.j_ (Fy j) λ_=>A.my (.ld 1 (.pointer (some ⟨i,0,none⟩))) a λi=>A.DE i λi=>K [.i b,.i c,.v d,.i e,.i f,.i g,.v j,.i i] a)))) (A.my (.ld 7 (.pointer (some ⟨g,0,none⟩))) b λa=>A.td .i64 a λa c=>A.td .i64 c λc d=>A.BM d λd e=>A.nC d (A.td .u8 e λe f=>A.td .i64 f λf g=>A.td .i64 g λg j=>A.BM j λj k=>A.nC j (A.v9 k (A.j_ (Fy d) λ_=>A.j_ (Fy j) λ_=>A.my (.ld 1 (.pointer (some ⟨i,0,none⟩))) b λi=>A.DE i λi=>K [.i a,.i c,.v d,.i e,.i f,.i g,.v j,.i i] b)))) [])
def f16:R:=A.k1 ls λa b c=>A.c6 32 [.i a,.i b] h λd e=>A.cd .neq e 0 (K [.i e] d) (A.c3 33 [.v c,.v (.func (.func 34) ⟨[]⟩ ⟨[]⟩)] d λd e=>A.cond e (K [.i 1] d) (A.ln c λe=>A.loop (λd f g=>A.k6 f λf=>A.cd .lss f e (A.ix 3 c f 3 g λc=>A.MP c λc e i=>A.c4 36 [.i a,.i b,.i c,.i e] g λa b g j=>A.cd .neq j 0 (K [.i 7] a) (A.c5 37 [.i c,.i e,.i i] a λa c e=>A.eqs [(.i b,.i c),(.i g,.i e)] λb=>A.cond (!b) (K [.i 7] a) (A.pa f 1 λb=>d [.i b] a))) (A.loop (λa b d=>A.k6 b λb=>A.ln c λe=>A.cd .lss b e (A.ps b 1 λe=>A.ix 3 c e 3 d λe=>A.MP e λe f g=>A.c5 37 [.i e,.i f,.i g] d λd e f=>A.ix 3 c b 3 d λc=>A.MP c λc g i=>A.c5 37 [.i c,.i g,.i i] d λc d g=>A.c6 38 [.i e,.i f,.i d,.i g] c λc d=>A.cd .geq d 0 (K [.i 6] c) (A.pa b 1 λb=>a [.i b] c)) (K [.i 0] d)) [.i 1] g)) [.i 0] d))
def f18:R:=A.k1 ls λa b c=>A.z_ .rem .u8 a 4 λa=>A.ci a λa=>A.pa 1 a λa=>A.z_ .rem .u8 b 4 λb=>A.ci b λb=>A.pa 1 b λb=>A.call 44 [.i a,.i b] h λa b=>A.k7 a λa d e f g i j=>A.join (λa b=>A.k7 a λa c d e f g i=>K [.i a,.i c,.v d,.i e,.i f,.i g,.v i] b) λk=>A.loop (λa b d=>A.pu b λb e=>A.k7 e λe f g i j l m=>A.ln c λn=>A.cd .lss b n (A.cd .lss b 5 (A.c0 45 [.i e,.i f,.v g,.i i,.i j,.i l,.v m] d λd n=>A.ln n λo=>A.cd .eql o 0 (k [.i e,.i f,.v g,.i i,.i j,.i l,.v m] d) (A.j_ (BL 3 c b) λk=>A.j_ (Py 3 1 k 0) λk=>A.nC k (A.my (.lg cc 1 k) d λk=>A.k8 k λk=>A.ci k λk=>A.ln n λo=>A.pr k o λk=>A.ix 2 n k 2 d λk=>A.td .u8 k λk n=>A.DE n λn=>A.j_ (BL 3 c b) λo=>A.j_ (Py 3 1 o 1) λo=>A.nC o (A.my (.lg cc 1 o) d λo=>A.k8 o λo=>A.z_ .rem .u8 o 2 λo=>A.j_ (BL 3 c b) λc=>A.j_ (Py 3 1 c 2) λc=>A.nC c (A.my (.lg cc 1 c) d λc=>A.k8 c λc=>A.z_ .rem .u8 c 2 λc=>A.cmp .eql c 1 λc=>A.call 46 [.i e,.i f,.v g,.i i,.i j,.i l,.v m,.i k,.i n,.i o,.b c] d λc d=>A.k7 c λc e f g i j k=>A.pa b 1 λb=>a [.i b,.i c,.i e,.v f,.i g,.i i,.i j,.v k] d))))) (k [.i e,.i f,.v g,.i i,.i j,.i l,.v m] d)) (k [.i e,.i f,.v g,.i i,.i j,.i l,.v m] d)) [.i 0,.i a,.i d,.v e,.i f,.i g,.i i,.v j] b
def f23:R:=A.pu ls λa b=>A.pu b λb c=>A.Ci c λc d=>A.k4 d λd e f=>A.pm 4 a λg=>A.pm g b λg=>A.j_ (DX g g) λ_=>A.new (.cells (aL [.int .u8 0,.int .i64 0,.int .i64 0] (Int.toNat g)) 3 true) h λi j=>A.j_ (DX g g) λ_=>A.new (.cells (aL [.bool false] (Int.toNat g)) 1 true) j λj k=>A.cd .lss g 1 (K [.v (.slice none 0 0),.i 0] k) (A.j_ (BL 3 (.slice (some ⟨i,0,some 13⟩) (Int.toNat g) ((Int.toNat g)+1)) 0) λl=>A.heap (.st l [.int .u8 d,.int .i64 e,.int .i64 f]) k λ_ d=>A.j_ (BL 1 (.slice (some ⟨j,0,some 11⟩) (Int.toNat g) ((Int.toNat g)+1)) 0) λe=>A.heap (.st e [.bool true]) d λ_ d=>A.c0 48 [.i a,.i b,.v c] d λc d=>A.loop (λc e f=>A.k3 e λe=>A.cond e (A.loop (λe f k=>A.D9 f λf l=>A.k6 l λl=>A.cd .lss l g (A.join (λa b=>A.k3 a λa=>A.pa l 1 λc=>e [.b a,.i c] b) λc=>A.loop (λe f k=>A.D9 f λf m=>A.k6 m λm=>A.cd .lss m 3 (A.j_ (BL 1 (.slice (some ⟨j,0,some 11⟩) (Int.toNat g) ((Int.toNat g)+1)) l) λn=>A.my (.lg cc 1 n) k λn=>A.D1 n λn o=>A.v9 o (A.cond n (A.join (λa b=>A.k3 a λa=>A.pa m 1 λc=>e [.b a,.i c] b) λc=>A.c6 61 [.i a,.i b,.i l,.i m] k λe k=>A.cd .lss k 0 (c [.b f] e) (A.j_ (BL 3 (.slice (some ⟨i,0,some 13⟩) (Int.toNat g) ((Int.toNat g)+1)) l) λn=>A.my (.lg cc 3 n) e λn=>A.k9 n λn o p=>A.pm 3 l λq=>A.pa q m λm=>A.ix 1 d m 1 e λd=>A.k8 d λd=>A.cmp .neq d 0 λd=>A.join (λa b=>A.k4 a λa d e=>A.j_ (BL 1 (.slice (some ⟨j,0,some 11⟩) (Int.toNat g) ((Int.toNat g)+1)) k) λl=>A.my (.lg cc 1 l) b λl=>A.D1 l λl m=>A.v9 m (A.cond l (A.j_ (BL 3 (.slice (some ⟨i,0,some 13⟩) (Int.toNat g) ((Int.toNat g)+1)) k) λl=>A.my (.lg cc 3 l) b λl=>A.k9 l λl m n=>A.eqs [(.i l,.i a),(.i m,.i d),(.i n,.i e)] λl=>A.join (λb l=>A.w_ b (A.j_ (BL 1 (.slice (some ⟨j,0,some 11⟩) (Int.toNat g) ((Int.toNat g)+1)) k) λb=>A.my (.lg cc 1 b) l λb=>A.D1 b λb m=>A.v9 m (A.join (λa b=>A.k3 a λa=>c [.b a] b) λc=>A.cond (!b) (A.j_ (BL 3 (.slice (some ⟨i,0,some 13⟩) (Int.toNat g) ((Int.toNat g)+1)) k) λb=>A.heap (.st b [.int .u8 a,.int .i64 d,.int .i64 e]) l λ_ a=>A.j_ (BL 1 (.slice (some ⟨j,0,some 11⟩) (Int.toNat g) ((Int.toNat g)+1)) k) λb=>A.heap (.st b [.bool true]) a λ_ a=>c [.b true] a) (c [.b f] l)))) λa=>A.cond (!l) (K [.v (.slice none 0 0),.i 0] b) (a [] b)) (A.j_ (BL 1 (.slice (some ⟨j,0,some 11⟩) (Int.toNat g) ((Int.toNat g)+1)) k) λl=>A.my (.lg cc 1 l) b λl=>A.D1 l λl m=>A.v9 m (A.join (λa b=>A.k3 a λa=>c [.b a] b) λc=>A.cond (!l) (A.j_ (BL 3 (.slice (some ⟨i,0,some 13⟩) (Int.toNat g) ((Int.toNat g)+1)) k) λf=>A.heap (.st f [.int .u8 a,.int .i64 d,.int .i64 e]) b λ_ a=>A.j_ (BL 1 (.slice (some ⟨j,0,some 11⟩) (Int.toNat g) ((Int.toNat g)+1)) k) λb=>A.heap (.st b [.bool true]) a λ_ a=>c [.b true] a) (c [.b f] b))))) λc=>A.cond d (A.c4 25 [.i a,.i b,.i l] e λd e f j=>A.c4 25 [.i a,.i b,.i k] d λa b d k=>A.c4 63 [.i e,.i f,.i j,.i b,.i d,.i k] a λa b d e=>A.j_ (BL 3 (.slice (some ⟨i,0,some 13⟩) (Int.toNat g) ((Int.toNat g)+1)) l) λf=>A.my (.lg cc 3 f) a λf=>A.k9 f λf g i=>A.c4 62 [.i b,.i d,.i e,.i f,.i g,.i i] a λa b d e=>c [.i b,.i d,.i e] a) (c [.i n,.i o,.i p] e))) (c [.b f] k))) (c [.b f] k)) [.b f,.i 0] k) (c [.b f] k)) [.b false,.i 0] f) (K [.v (.slice (some ⟨i,0,some 13⟩) (Int.toNat g) ((Int.toNat g)+1)),.i 1] f)) [.b true] c)
def f24:R:=A.I_ ls λa b c d e f=>A.c5 66 [.i d,.i e,.i f] h λd e f=>A.c5 65 [.i a,.i b,.i c,.i e,.i f] d λa b c=>A.c4 64 [.i b,.i c] a λa b c d=>K [.i b,.i c,.i d] a
def f25:R:=A.k4 ls λa _ b=>A.pq b 4 λc=>A.pr c a λc=>A.pq b 4 λd=>A.pq d a λa=>A.pr b 4 λb=>A.conv .u8 b λb=>K [.i c,.i a,.i b] h
def f26:R:=A.k0 ls λa=>A.new (.cells [] 4 true) h λb c=>A.av 4 48 (.slice (some ⟨b,0,some 14⟩) 0 1) a c λa b=>A.loop (λb c d=>A.k6 c λc=>A.ln a λe=>A.cd .lss c e (A.join (λa d=>A.w_ a (A.pa c 1 λa=>b [.i a] d)) λb=>A.loop (λc d e=>A.k6 d λd=>A.cd .gtr d 0 (A.ps d 1 λf=>A.fx 4 a f 0 3 e λf=>A.FM f λf g i=>A.fx 4 a d 0 3 e λj=>A.FM j λj k l=>A.c6 67 [.i f,.i g,.i i,.i j,.i k,.i l] e λe f=>A.cd .eql f 1 (A.ps d 1 λb=>A.ix 4 a d 4 e λf=>A.td .i64 f λf g=>A.td .i64 g λg i=>A.td .u8 i λi j=>A.BM j λj k=>A.nC j (A.v9 k (A.ps d 1 λk=>A.ix 4 a k 4 e λk=>A.td .i64 k λk l=>A.td .i64 l λl m=>A.td .u8 m λm n=>A.BM n λn o=>A.nC n (A.v9 o (A.j_ (BL 4 a b) λb=>A.heap (.st b [.int .i64 f,.int .i64 g,.int .u8 i,j]) e λ_ b=>A.j_ (BL 4 a d) λa=>A.heap (.st a [.int .i64 k,.int .i64 l,.int .u8 m,n]) b λ_ a=>A.ps d 1 λb=>c [.i b] a))))) (b [] e)) (b [] e)) [.i c] d) (K [.v a] d)) [.i 1] b
def f28:R:=A.k0 ls λa=>A.ln a λb=>A.pa b 1 λb=>A.loop (λb c d=>A.pu c λc e=>A.k1 e λe f g=>A.ln a λi=>A.cd .lss c i (A.pm 4 c λi=>A.pa i 1 λi=>A.ix 1 a c 1 d λa=>A.k8 a λa=>A.new (.cells [.int .i64 i,.int .u8 0,.int .u8 a] 3 true) d λa d=>A.av 3 16 g (.slice (some ⟨a,0,some 13⟩) 1 2) d λa d=>A.pa c 1 λc=>b [.i c,.i e,.i f,.v a] d) (K [.i e,.i f,.v g] d)) [.i 0,.i b,.i 1,.v (.slice none 0 0)] h
def f29:R:=A.pu ls λa b=>A.pu b λb c=>A.Ci c λc d=>A.k4 d λd e f=>A.c2 68 [.i a,.i b,.v c,.i d,.i e,.i f] h λg i j=>A.cd .neq j 0 (K [.v (.pointer none),.i j] g) (A.pm a b λj=>A.cd .gtr j 9 (K [.v (.pointer none),.i 3] g) (A.ln i λj=>A.j_ (DX j j) λ_=>A.new (.cells (aL [.bool false] (Int.toNat j)) 1 true) g λg k=>A.new (.map [] 0) k λk l=>A.new (.cells [.int .i64 a,.int .i64 b,c,.int .u8 d,.int .i64 e,.int .i64 f,.slice none 0 0,.slice none 0 0,.slice none 0 0,.slice (some ⟨g,0,some 11⟩) (Int.toNat j) ((Int.toNat j)+1),.map (some k),.slice none 0 0,.slice none 0 0,.slice none 0 0,.bool false] 15 true) l λa b=>A.j_ (Sx.Dp [(.map (some k),(2,i)),(.slice (some ⟨g,0,some 11⟩) (Int.toNat j) ((Int.toNat j)+1),(0,.map (some k)))]) λ_=>A.new (.map [] 0) b λb c=>A.ln i λd=>A.loop (λc e f=>A.k6 e λe=>A.cd .lss e d (A.ix 3 i e 3 f λd=>A.FM d λd g i=>A.my (.fn (Fb cc 71 false (.int .i64 0) (.map (some b)) (.agg ⟨[.int .i64 d,.int .i64 g,.int .u8 i]⟩) true)) f λj=>A.td .i64 j λ_ j=>A.D1 j λj k=>A.v9 k (A.join (λa b=>A.w_ a (A.pa e 1 λa=>c [.i a] b)) λc=>A.cond (!j) (A.heap (.fn (FO cc 71 (.map (some b)) (.agg ⟨[.int .i64 d,.int .i64 g,.int .u8 i]⟩) (.int .i64 0))) f λ_ b=>A.fp 6 (.pointer (some ⟨a,0,none⟩)) λe=>A.lv e b λf=>A.new (.cells [.int .i64 d,.int .i64 g,.int .u8 i] 3 true) b λb d=>A.av 3 24 f (.slice (some ⟨b,0,some 13⟩) 1 2) d λd f=>A.fp 6 (.pointer (some ⟨a,0,none⟩)) λa=>A.heap (.st a [d]) f λ_ a=>A.j_ (Sx.Dp [(.slice (some ⟨b,0,some 13⟩) 1 2,(0,e))]) λ_=>c [] a) (c [] f))) (A.fp 6 (.pointer (some ⟨a,0,none⟩)) λc=>A.lv c f λc=>A.call 69 [.v c,.v (.func (.func 58) ⟨[]⟩ ⟨[]⟩)] f λc d=>A.w_ c (A.fp 6 (.pointer (some ⟨a,0,none⟩)) λc=>A.lv c d λc=>A.ln c λe=>A.loop (λd f g=>A.k6 f λf=>A.cd .lss f e (A.ix 3 c f 3 g λa=>A.FM a λa c e=>A.heap (.fn (FO cc 71 (.map (some b)) (.agg ⟨[.int .i64 a,.int .i64 c,.int .u8 e]⟩) (.int .i64 f))) g λ_ a=>A.pa f 1 λb=>d [.i b] a) (A.fp 6 (.pointer (some ⟨a,0,none⟩)) λc=>A.lv c g λd=>A.ln d λe=>A.j_ (DX e e) λ_=>A.new (.cells (aL [.slice none 0 0] (Int.toNat e)) 1 true) g λf g=>A.fp 6 (.pointer (some ⟨a,0,none⟩)) λj=>A.lv j g λk=>A.ln k λl=>A.j_ (DX l l) λ_=>A.new (.cells (aL [.slice none 0 0] (Int.toNat l)) 1 true) g λg m=>A.fp 7 (.pointer (some ⟨a,0,none⟩)) λn=>A.heap (.st n [.slice (some ⟨f,0,some 11⟩) (Int.toNat e) ((Int.toNat e)+1)]) m λ_ m=>A.fp 8 (.pointer (some ⟨a,0,none⟩)) λo=>A.heap (.st o [.slice (some ⟨g,0,some 11⟩) (Int.toNat l) ((Int.toNat l)+1)]) m λ_ m=>A.j_ (Sx.Dp [(.slice (some ⟨f,0,some 11⟩) (Int.toNat e) ((Int.toNat e)+1),(0,j)),(.slice (some ⟨f,0,some 11⟩) (Int.toNat e) ((Int.toNat e)+1),(2,k)),(.slice (some ⟨g,0,some 11⟩) (Int.toNat l) ((Int.toNat l)+1),(0,c)),(.slice (some ⟨g,0,some 11⟩) (Int.toNat l) ((Int.toNat l)+1),(2,d)),(.slice (some ⟨f,0,some 11⟩) (Int.toNat e) ((Int.toNat e)+1),(0,.slice (some ⟨g,0,some 11⟩) (Int.toNat l) ((Int.toNat l)+1))),(n,(2,k)),(.slice (some ⟨g,0,some 11⟩) (Int.toNat l) ((Int.toNat l)+1),(0,n)),(.slice (some ⟨g,0,some 11⟩) (Int.toNat l) ((Int.toNat l)+1),(0,n))]) λ_=>A.ln i λc=>A.loop (λd e f=>A.k6 e λe=>A.cd .lss e c (A.ix 3 i e 3 f λc=>A.FM c λc g i=>A.fp 7 (.pointer (some ⟨a,0,none⟩)) λj=>A.lv j f λk=>A.my (.fn (Fb cc 71 false (.int .i64 0) (.map (some b)) (.agg ⟨[.int .i64 c,.int .i64 g,.int .u8 i]⟩) false)) f λl=>A.DE l λl=>A.fp 7 (.pointer (some ⟨a,0,none⟩)) λa=>A.lv a f λm=>A.my (.fn (Fb cc 71 false (.int .i64 0) (.map (some b)) (.agg ⟨[.int .i64 c,.int .i64 g,.int .u8 i]⟩) false)) f λc=>A.DE c λc=>A.j_ (BL 1 m c) λc=>A.lv c f λg=>A.new (.cells [.int .i64 e] 1 true) f λf i=>A.av 1 8 g (.slice (some ⟨f,0,some 11⟩) 1 2) i λi m=>A.j_ (BL 1 k l) λk=>A.heap (.st k [i]) m λ_ k=>A.j_ (Sx.Dp [(.slice (some ⟨f,0,some 11⟩) 1 2,(0,j)),(.slice (some ⟨f,0,some 11⟩) 1 2,(0,.map (some b))),(.slice (some ⟨f,0,some 11⟩) 1 2,(0,a)),(.slice (some ⟨f,0,some 11⟩) 1 2,(0,.map (some b))),(.slice (some ⟨f,0,some 11⟩) 1 2,(0,c)),(g,(0,j)),(i,(0,j)),(g,(0,.map (some b))),(i,(0,.map (some b)))]) λ_=>A.pa e 1 λa=>d [.i a] k) (A.fp 7 (.pointer (some ⟨a,0,none⟩)) λb=>A.lv b f λb=>A.ln b λc=>A.loop (λd e f=>A.k6 e λe=>A.cd .lss e c (A.ix 1 b e 1 f λb=>A.BM b λb c=>A.nC b (A.v9 c (A.ln b λc=>A.loop (λf g i=>A.k6 g λg=>A.cd .lss g c (A.ix 1 b g 1 i λc=>A.DE c λc=>A.j_ (Ex 1 b none (some g) none) λb=>A.nC b (A.ln b λd=>A.loop (λe i j=>A.k6 i λi=>A.cd .lss i d (A.ix 1 b i 1 j λb=>A.DE b λb=>A.fp 10 (.pointer (some ⟨a,0,none⟩)) λd=>A.lv d j λd=>A.fp 11 (.pointer (some ⟨a,0,none⟩)) λf=>A.lv f j λf=>A.ln f λf=>A.heap (.fn (FO cc 153 d (.agg ⟨[.int .i64 b,.int .i64 c]⟩) (.int .i64 f))) j λ_ b=>A.fp 11 (.pointer (some ⟨a,0,none⟩)) λc=>A.lv c b λd=>A.fp 11 (.pointer (some ⟨a,0,none⟩)) λf=>A.lv f b λf=>A.ln f λf=>A.new (.cells [.int .i64 f,.bool false] 2 true) b λb f=>A.av 2 16 d (.slice (some ⟨b,0,some 12⟩) 1 2) f λd f=>A.fp 11 (.pointer (some ⟨a,0,none⟩)) λa=>A.heap (.st a [d]) f λ_ a=>A.j_ (Sx.Dp [(.slice (some ⟨b,0,some 12⟩) 1 2,(0,c))]) λ_=>A.pa i 1 λb=>e [.i b] a) (A.pa g 1 λa=>f [.i a] j)) [.i 0] i)) (A.pa e 1 λa=>d [.i a] i)) [.i 0] f))) (A.fp 11 (.pointer (some ⟨a,0,none⟩)) λb=>A.lv b f λb=>A.ln b λb=>A.j_ (DX b b) λ_=>A.new (.cells (aL [.int .i64 0] (Int.toNat b)) 1 true) f λc d=>A.fp 12 (.pointer (some ⟨a,0,none⟩)) λe=>A.heap (.st e [.slice (some ⟨c,0,some 11⟩) (Int.toNat b) ((Int.toNat b)+1)]) d λ_ b=>A.c2 70 [.v (.pointer (some ⟨a,0,none⟩)),.v i] b λb c d=>A.ln c λe=>A.loop (λb f g=>A.k6 f λf=>A.cd .lss f e (A.ix 1 c f 1 g λc=>A.BM c λc d=>A.nC c (A.v9 d (A.call 71 [.v (.pointer (some ⟨a,0,none⟩)),.v c] g λa c=>A.w_ a (A.pa f 1 λa=>b [.i a] c)))) (K [.v (.pointer (some ⟨a,0,none⟩)),.i d] g)) [.i 0] b)) [.i 0] f)) [.i 0] m)) [.i 0] d))) [.i 0] c))
def f30:R:=A.k0 ls λa=>A.new (.cells [a] 1 true) h λa b=>A.nC (.func (.func 72) ⟨[]⟩ ⟨[.pointer (some ⟨a,0,none⟩)]⟩) (K [.v (.func (.func 72) ⟨[]⟩ ⟨[.pointer (some ⟨a,0,none⟩)]⟩)] b)
def f31:R:=A.k0 ls λa=>A.ln a λb=>A.ln a λc=>A.j_ (Ex 7 a none (some b) (some c)) λa=>A.nC a (K [.v a] h)
def f32:R:=A.k5 ls λa b=>A.cd .lss a 1 (K [.i 1] h) (A.cd .lss b 1 (K [.i 1] h) (A.cd .gtr a 256 (K [.i 1] h) (A.cd .gtr b 256 (K [.i 1] h) (A.pm a b λa=>A.cd .gtr a 256 (K [.i 1] h) (K [.i 0] h)))))
def f33:R:=A.Ci ls λa b=>A.k0 b λb=>A.c6 77 [.v a,.v b] h λa b=>A.cmp .geq b 0 λb=>K [.b b] a
def f34:R:=A.k4 ls λ_ _ a=>A.c3 35 [.i a] h λa b=>K [.b (!b)] a
def f35:R:=A.k6 ls λa=>A.join (λa b=>A.k3 a λa=>K [.b a] b) λb=>A.cd .geq a 1 (A.cmp .leq a 3 λa=>b [.b a] h) (b [.b false] h)
def f36:R:=A.FN ls λa b c d=>A.c5 78 [.i a,.i b,.i c,.i d] h λa b e=>A.cd .neq e 0 (K [.i 0,.i 0,.i e] a) (A.cmp .lss b c λe=>A.Gq e b c λb=>K [.i b,.i d,.i 0] a)
def f37:R:=A.k4 ls λa b _=>K [.i a,.i b] h
def Yt:R:=A.FN ls λa b c d=>A.cd .neq a c (A.ps a c λa=>K [.i a] h) (A.ci b λa=>A.ci d λb=>A.ps a b λa=>K [.i a] h)
def f40:R:=A.k4 ls λa b c=>A.c6 32 [.i a,.i b] h λd e=>A.cd .neq e 0 (K [.i 0,.i 0,.i 0,.i e] d) (A.c3 79 [.i a,.i b,.i c] d λd e=>A.cond (!e) (K [.i 0,.i 0,.i 0,.i 7] d) (A.c4 80 [.i a,.i b,.i c] d λa b c d=>K [.i b,.i c,.i d,.i 0] a))
def f41:R:=A.pu ls λa b=>A.FN b λb c d e=>A.c6 32 [.i a,.i b] h λf g=>A.cd .neq g 0 (K [.i 0,.i g] f) (A.c6 81 [.i c,.i d,.i e] f λf g=>A.cd .neq g 0 (K [.i 0,.i 7] f) (A.cd .lss c 0 (K [.i 0,.i 7] f) (A.cd .geq c a (K [.i 0,.i 7] f) (A.cd .lss d 0 (K [.i 0,.i 7] f) (A.cd .geq d b (K [.i 0,.i 7] f) (A.pm d a λa=>A.pa a c λa=>A.pm 4 a λa=>A.ci e λb=>A.pa a b λa=>K [.i a,.i 0] f))))))
def f44:R:=A.k5 ls λa b=>A.loop (λc d e=>A.pu d λd f=>A.k7 f λf g i j k l m=>A.pm 4 a λa=>A.pm a b λa=>A.cd .lss d a (A.c4 25 [.i f,.i g,.i d] e λa b e n=>A.new (.cells [.int .i64 d] 1 true) a λa o=>A.new (.cells [.int .i64 b,.int .i64 e,.int .u8 n,.slice (some ⟨a,0,some 11⟩) 1 2] 4 true) o λa b=>A.av 4 48 m (.slice (some ⟨a,0,some 14⟩) 1 2) b λa b=>A.pa d 1 λd=>c [.i d,.i f,.i g,.v i,.i j,.i k,.i l,.v a] b) (K [.i f,.i g,.v i,.i j,.i k,.i l,.v m] e)) [.i 0,.i a,.i b,.v (.slice none 0 0),.i 0,.i 0,.i 0,.v (.slice none 0 0)] h
def f45:R:=A.k7 ls λa b c d e f g=>A.c0 84 [.i a,.i b,.v c,.i d,.i e,.i f,.v g] h λa b=>A.loop (λa c d=>A.k2 c λc e=>A.ln b λf=>A.cd .lss e f (A.fx 4 b e 2 2 d λb=>A.td .u8 b λb f=>A.DE f λf=>A.join (λd g=>A.k6 d λd=>A.ln c λi=>A.cd .eql d i (A.new (.cells [] 2 true) g λg i=>A.j_ (Ex 2 c none (some d) none) λj=>A.nC j (A.av 2 16 (.slice (some ⟨g,0,some 12⟩) 0 1) j i λi k=>A.new (.cells [.int .u8 b,.int .i64 f] 2 true) k λb f=>A.av 2 16 i (.slice (some ⟨b,0,some 12⟩) 1 2) f λf k=>A.j_ (Ex 2 c (some d) none none) λd=>A.nC d (A.av 2 16 f d k λd k=>A.j_ (Sx.Dp [(.slice (some ⟨g,0,some 12⟩) 0 1,(1,c)),(.slice (some ⟨g,0,some 12⟩) 0 1,(0,.slice (some ⟨b,0,some 12⟩) 1 2)),(.slice (some ⟨b,0,some 12⟩) 1 2,(1,c)),(.slice (some ⟨g,0,some 12⟩) 0 1,(0,.slice (some ⟨b,0,some 12⟩) 1 2)),(i,(0,.slice (some ⟨b,0,some 12⟩) 1 2)),(.slice (some ⟨b,0,some 12⟩) 1 2,(0,.slice (some ⟨g,0,some 12⟩) 0 1)),(.slice (some ⟨b,0,some 12⟩) 1 2,(0,j)),(.slice (some ⟨g,0,some 12⟩) 0 1,(1,c)),(.slice (some ⟨g,0,some 12⟩) 0 1,(1,c)),(i,(1,c)),(.slice (some ⟨b,0,some 12⟩) 1 2,(1,c)),(i,(1,c)),(f,(1,c))]) λ_=>A.pa e 1 λb=>a [.v d,.i b] k))) (A.ix 2 c d 2 g λi=>A.td .u8 i λi j=>A.DE j λj=>A.eqs [(.i i,.i b),(.i j,.i f)] λi=>A.join (λb c=>A.k0 b λb=>A.pa e 1 λd=>a [.v b,.i d] c) λa=>A.cond (!i) (A.new (.cells [] 2 true) g λe g=>A.j_ (Ex 2 c none (some d) none) λi=>A.nC i (A.av 2 16 (.slice (some ⟨e,0,some 12⟩) 0 1) i g λg j=>A.new (.cells [.int .u8 b,.int .i64 f] 2 true) j λb f=>A.av 2 16 g (.slice (some ⟨b,0,some 12⟩) 1 2) f λf j=>A.j_ (Ex 2 c (some d) none none) λd=>A.nC d (A.av 2 16 f d j λd j=>A.j_ (Sx.Dp [(.slice (some ⟨e,0,some 12⟩) 0 1,(1,c)),(.slice (some ⟨e,0,some 12⟩) 0 1,(0,.slice (some ⟨b,0,some 12⟩) 1 2)),(.slice (some ⟨b,0,some 12⟩) 1 2,(1,c)),(.slice (some ⟨e,0,some 12⟩) 0 1,(0,.slice (some ⟨b,0,some 12⟩) 1 2)),(g,(0,.slice (some ⟨b,0,some 12⟩) 1 2)),(.slice (some ⟨b,0,some 12⟩) 1 2,(0,.slice (some ⟨e,0,some 12⟩) 0 1)),(.slice (some ⟨b,0,some 12⟩) 1 2,(0,i)),(.slice (some ⟨e,0,some 12⟩) 0 1,(1,c)),(.slice (some ⟨e,0,some 12⟩) 0 1,(1,c)),(g,(1,c)),(.slice (some ⟨b,0,some 12⟩) 1 2,(1,c)),(g,(1,c)),(f,(1,c))]) λ_=>a [.v d] j))) (a [.v c] g))) λa=>A.loop (λd e g=>A.k6 e λe=>A.ln c λi=>A.cd .lss e i (A.fx 2 c e 0 1 g λi=>A.k8 i λi=>A.cd .lss i b (A.pa e 1 λa=>d [.i a] g) (A.fx 2 c e 0 1 g λi=>A.k8 i λi=>A.cd .eql i b (A.fx 2 c e 1 1 g λb=>A.DE b λb=>A.cmp .lss b f λb=>A.join (λa b=>A.w_ a (A.pa e 1 λa=>d [.i a] b)) λc=>A.cond b (c [] g) (a [.i e] g)) (a [.i e] g))) (a [.i e] g)) [.i 0] d) (K [.v c] d)) [.v (.slice none 0 0),.i 0] a
def f46:R:=A.pu ls λa b=>A.pu b λb c=>A.Ci c λc d=>A.pu d λd e=>A.pu e λe f=>A.pu f λf g=>A.Ci g λg i=>A.pu i λi j=>A.pu j λj k=>A.NL k λk l=>A.c4 85 [.i i,.i j] h λm n o p=>A.new (.cells [] 3 true) m λm q=>A.av 3 16 (.slice (some ⟨m,0,some 13⟩) 0 1) c q λm q=>A.loop (λm q r=>A.Ci q λq s=>A.Ci s λs t=>A.pu t λt u=>A.k7 u λu v w x y z B=>A.ln g λC=>A.cd .lss t C (A.join (λa b=>A.Ci a λa c=>A.Ci c λc d=>A.k7 d λd e f g i j k=>A.pa t 1 λl=>m [.v a,.v c,.i l,.i d,.i e,.v f,.i g,.i i,.i j,.v k] b) λa=>A.ix 4 g t 4 r λb=>A.td .i64 b λb c=>A.td .i64 c λc g=>A.td .u8 g λg l=>A.BM l λl m=>A.nC l (A.v9 m (A.c6 86 [.i i,.i j,.i b,.i c,.i g] r λi j=>A.cd .neq j k (A.new (.cells [] 1 true) i λd e=>A.av 1 8 (.slice (some ⟨d,0,some 11⟩) 0 1) l e λd e=>A.new (.cells [.int .i64 b,.int .i64 c,.int .u8 g,d] 4 true) e λb c=>A.av 4 48 q (.slice (some ⟨b,0,some 14⟩) 1 2) c λb c=>a [.v b,.v s,.i u,.i v,.v w,.i x,.i y,.i z,.v B] c) (A.ln l λj=>A.ps j 1 λj=>A.loop (λi j k=>A.Ci j λj m=>A.pu m λm r=>A.k7 r λr t u v w x y=>A.cd .geq m 0 (A.ix 1 l m 1 k λa=>A.DE a λa=>A.new (.cells [.int .i64 a] 1 true) k λa b=>A.av 1 8 j (.slice (some ⟨a,0,some 11⟩) 1 2) b λa b=>A.ix 1 l m 1 b λc=>A.DE c λc=>A.cmp .eql c 0 λc=>A.join (λb c=>A.k7 b λb d e f g j k=>A.ps m 1 λl=>i [.v a,.i l,.i b,.i d,.v e,.i f,.i g,.i j,.v k] c) λa=>A.cond c (A.c4 62 [.i d,.i e,.i f,.i n,.i o,.i p] b λb c d e=>a [.i r,.i t,.v u,.i c,.i d,.i e,.v y] b) (a [.i r,.i t,.v u,.i v,.i w,.i x,.v y] b)) (A.c4 24 [.i n,.i o,.i p,.i b,.i c,.i g] k λb c d e=>A.new (.cells [.int .i64 c,.int .i64 d,.int .u8 e,j] 4 true) b λb c=>A.av 4 48 s (.slice (some ⟨b,0,some 14⟩) 1 2) c λb c=>a [.v q,.v b,.i r,.i t,.v u,.i v,.i w,.i x,.v y] c)) [.v (.slice none 0 0),.i j,.i u,.i v,.v w,.i x,.i y,.i z,.v B] i)))) (A.loop (λk m n=>A.k2 m λm o=>A.ln s λp=>A.cd .lss o p (A.join (λa b=>A.k3 a λa=>A.join (λa b=>A.k0 a λa=>A.pa o 1 λc=>k [.v a,.i c] b) λc=>A.cond (!a) (A.ix 4 s o 4 b λa=>A.td .i64 a λa d=>A.td .i64 d λd e=>A.td .u8 e λe f=>A.BM f λf g=>A.nC f (A.v9 g (A.new (.cells [.int .i64 a,.int .i64 d,.int .u8 e,f] 4 true) b λa b=>A.av 4 48 m (.slice (some ⟨a,0,some 14⟩) 1 2) b λa b=>c [.v a] b))) (c [.v m] b)) λa=>A.loop (λb c d=>A.D9 c λc e=>A.k6 e λe=>A.ln m λf=>A.cd .lss e f (A.cond (!c) (A.join (λa c=>A.k3 a λa=>A.pa e 1 λd=>b [.b a,.i d] c) λa=>A.fx 4 m e 0 3 d λb=>A.FM b λb f g=>A.fx 4 s o 0 3 d λi=>A.FM i λi j k=>A.eqs [(.i b,.i i),(.i f,.i j),(.i g,.i k)] λb=>A.cond (!b) (a [.b c] d) (A.join (λb c=>A.w_ b (a [.b true] c)) λa=>A.cond l (A.fx 4 m e 3 1 d λb=>A.BM b λb c=>A.nC b (A.v9 c (A.fx 4 s o 3 1 d λc=>A.BM c λc f=>A.nC c (A.v9 f (A.av 1 8 b c d λb c=>A.j_ (BL 4 m e) λd=>A.j_ (Dm 3 d) λd=>A.nC d (A.heap (.st d [b]) c λ_ b=>a [] b)))))) (A.new (.cells [] 1 true) d λb c=>A.j_ (BL 4 s o) λd=>A.j_ (Dm 3 d) λd=>A.nC d (A.lv d c λf=>A.av 1 8 (.slice (some ⟨b,0,some 11⟩) 0 1) f c λc f=>A.j_ (BL 4 m e) λg=>A.j_ (Dm 3 g) λg=>A.nC g (A.lv g f λi=>A.av 1 8 c i f λf i=>A.j_ (BL 4 m e) λe=>A.j_ (Dm 3 e) λe=>A.nC e (A.heap (.st e [f]) i λ_ e=>A.j_ (Sx.Dp [(.slice (some ⟨b,0,some 11⟩) 0 1,(0,d)),(.slice (some ⟨b,0,some 11⟩) 0 1,(0,g)),(.slice (some ⟨b,0,some 11⟩) 0 1,(0,g)),(c,(0,g))]) λ_=>a [] e)))))) (a [.b c] d)) (a [.b c] d)) [.b false,.i 0] n) (A.c0 26 [.v m] n λk m=>A.c2 23 [.i a,.i b,.v c,.i d,.i e,.i f] k λk n _=>A.c0 84 [.i a,.i b,.v c,.i d,.i e,.i f,.v g] k λc d=>A.loop (λc e f=>A.pu e λe g=>A.k7 g λg k m o p q r=>A.ln d λs=>A.cd .lss e s (A.join (λa b=>A.k7 a λa d f g i j k=>A.pa e 1 λe=>c [.i e,.i a,.i d,.v f,.i g,.i i,.i j,.v k] b) λc=>A.fx 4 d e 2 2 f λs=>A.td .u8 s λs t=>A.DE t λt=>A.eqs [(.i s,.i i),(.i t,.i j)] λi=>A.cond (!i) (c [.i g,.i k,.v m,.i o,.i p,.i q,.v r] f) (A.fx 4 d e 0 1 f λi=>A.DE i λi=>A.fx 3 n i 0 1 f λi=>A.k8 i λi=>A.cmp .lss i 4 λi=>A.eqs [(.b i,.b l)] λi=>A.join (λf i=>A.k6 f λf=>A.fx 4 d e 0 1 i λj=>A.DE j λj=>A.fx 4 d e 0 1 i λl=>A.DE l λl=>A.fx 4 d e 1 1 i λd=>A.DE d λd=>A.c6 87 [.i a,.i b,.i l,.i d] i λa b=>A.new (.cells [.int .i64 j,.int .u8 b,.int .u8 f] 3 true) a λa b=>A.av 3 16 m (.slice (some ⟨a,0,some 13⟩) 1 2) b λa b=>c [.i g,.i k,.v a,.i o,.i p,.i q,.v r] b) λa=>A.cond (!i) (a [.i 1] f) (a [.i 2] f))) (A.c0 88 [.v m] f λa b=>K [.i g,.i k,.v b,.i o,.i p,.i q,.v r] a)) [.i 0,.i u,.i v,.v w,.i x,.i y,.i z,.v m] c)) [.v q,.i 0] r)) [.v (.slice none 0 0),.v (.slice none 0 0),.i 0,.i a,.i b,.v m,.i d,.i e,.i f,.v (.slice none 0 0)] q
def f48:R:=A.k1 ls λa b c=>A.pm 12 a λd=>A.pm d b λd=>A.j_ (DX d d) λ_=>A.new (.cells (aL [.int .u8 0] (Int.toNat d)) 1 true) h λe f=>A.loop (λf g i=>A.k6 g λg=>A.ln c λj=>A.cd .lss g j (A.ix 3 c g 3 i λc=>A.MP c λc j k=>A.loop (λi l m=>A.k6 l λl=>A.cd .lss l 3 (A.join (λa b=>A.w_ a (A.pa l 1 λa=>i [.i a] b)) λf=>A.c6 61 [.i a,.i b,.i c,.i l] m λg i=>A.cd .lss i 0 (f [] g) (A.c6 90 [.i a,.i b,.i c,.i l] g λg m=>A.ci j λj=>A.cd .neq m j (f [] g) (A.pm 3 c λj=>A.pa j l λj=>A.j_ (BL 1 (.slice (some ⟨e,0,some 11⟩) (Int.toNat d) ((Int.toNat d)+1)) j) λj=>A.heap (.st j [.int .u8 k]) g λ_ g=>A.loop (λg j l=>A.k6 j λj=>A.cd .lss j 3 (A.c6 61 [.i a,.i b,.i i,.i j] l λa b=>A.cmp .eql b c λb=>A.join (λa b=>A.w_ a (A.pa j 1 λa=>g [.i a] b)) λc=>A.cond b (A.pm 3 i λb=>A.pa b j λb=>A.j_ (BL 1 (.slice (some ⟨e,0,some 11⟩) (Int.toNat d) ((Int.toNat d)+1)) b) λb=>A.heap (.st b [.int .u8 k]) a λ_ a=>c [] a) (c [] a)) (f [] l)) [.i 0] g))) (A.pa g 1 λa=>f [.i a] m)) [.i 0] i) (K [.v (.slice (some ⟨e,0,some 11⟩) (Int.toNat d) ((Int.toNat d)+1))] i)) [.i 0] f
def f49:R:=A.FN ls λa b c d=>A.cd .eql d 0 (A.cd .eql c 0 (A.ps b 1 λb=>K [.i a,.i b,.i 2] h) (A.cd .eql c 1 (A.pa a 1 λa=>K [.i a,.i b,.i 3] h) (A.cd .eql c 2 (A.pa b 1 λb=>K [.i a,.i b,.i 0] h) (A.ps a 1 λa=>K [.i a,.i b,.i 1] h)))) (A.cd .eql d 1 (A.z_ .add .u8 c 1 λc=>A.z_ .rem .u8 c 4 λc=>K [.i a,.i b,.i c] h) (A.z_ .add .u8 c 3 λc=>A.z_ .rem .u8 c 4 λc=>K [.i a,.i b,.i c] h))
def f58:R:=A.I_ ls λa b c d e f=>A.ci c λc=>A.ci f λf=>A.new (.cells [.int .i64 b,.int .i64 e,.int .i64 a,.int .i64 d,.int .i64 c,.int .i64 f] 2 true) h λa b=>A.c6 93 [.v (.slice (some ⟨a,0,some 12⟩) 3 4)] b λa b=>K [.i b] a
def f61:R:=A.FN ls λa b c d=>A.c4 25 [.i a,.i b,.i c] h λc e f g=>A.c4 49 [.i e,.i f,.i g,.i d] c λc d e f=>A.cd .lss d 0 (K [.i (-1)] c) (A.cd .lss e 0 (K [.i (-1)] c) (A.cd .geq d a (K [.i (-1)] c) (A.cd .geq e b (K [.i (-1)] c) (A.pm e a λa=>A.pa a d λa=>A.pm 4 a λa=>A.ci f λb=>A.pa a b λa=>K [.i a] c))))
def f62:R:=A.I_ ls λa b c d e f=>A.c5 65 [.i a,.i b,.i c,.i 0,.i 0] h λg i j=>A.c5 65 [.i d,.i e,.i f,.i i,.i j] g λg i j=>A.c5 65 [.i a,.i b,.i c,.i 6,.i 0] g λg k l=>A.c5 65 [.i d,.i e,.i f,.i k,.i l] g λg k l=>A.c5 65 [.i a,.i b,.i c,.i 0,.i 6] g λa b c=>A.c5 65 [.i d,.i e,.i f,.i b,.i c] a λa b c=>A.loop (λa d e=>A.k6 d λd=>A.cd .lss d 8 (A.c6 98 [.i i,.i 6] e λe f=>A.c6 98 [.i j,.i 6] e λe g=>A.c5 65 [.i d,.i f,.i g,.i 6,.i 0] e λe i j=>A.eqs [(.i i,.i k),(.i j,.i l)] λi=>A.cond i (A.c5 65 [.i d,.i f,.i g,.i 0,.i 6] e λe i j=>A.eqs [(.i i,.i b),(.i j,.i c)] λb=>A.join (λb c=>A.w_ b (A.z_ .add .u8 d 1 λb=>a [.i b] c)) λa=>A.cond b (K [.i d,.i f,.i g] e) (a [] e)) (A.z_ .add .u8 d 1 λb=>a [.i b] e)) (K [.i 0,.i 0,.i 0] e)) [.i 0] a
def f63:R:=A.I_ ls λa b c d e f=>A.cd .neq a d (A.c6 99 [.i a,.i d] h λa b=>A.pm 2 b λb=>K [.i 4,.i b,.i 0] a) (A.cd .neq b e (A.c6 99 [.i b,.i e] h λa b=>A.pm 2 b λb=>K [.i 6,.i 0,.i b] a) (A.z_ .add .u8 c f λd=>A.cd .eql d 1 (A.pa a b λc=>A.pa c 1 λc=>A.pa a b λa=>A.pa a 1 λa=>K [.i 5,.i c,.i a] h) (A.z_ .add .u8 c f λc=>A.cd .eql c 5 (A.pa a b λc=>A.pa c 1 λc=>A.pa a b λa=>A.pa a 1 λa=>K [.i 5,.i c,.i a] h) (A.ps a b λc=>A.ps b a λa=>K [.i 7,.i c,.i a] h))))
def f64:R:=A.k5 ls λa b=>A.c6 98 [.i a,.i 6] h λc d=>A.c6 98 [.i b,.i 6] c λc e=>A.pm 6 d λf=>A.ps a f λa=>A.pm 6 e λf=>A.ps b f λb=>A.cd .lss b a (A.pa a b λf=>A.cmp .lss f 6 λf=>A.join (λa b=>A.k4 a λa c d=>K [.i a,.i c,.i d] b) λg=>A.cond f (g [.i d,.i e,.i 0] c) (A.cmp .lss b a λf=>A.join (λa b=>A.k4 a λa c d=>g [.i a,.i c,.i d] b) λg=>A.cond f (g [.i d,.i e,.i 1] c) (A.pa a b λa=>A.cmp .gtr a 6 λa=>A.join (λa b=>A.k4 a λa c d=>g [.i a,.i c,.i d] b) λb=>A.cond a (b [.i d,.i e,.i 2] c) (b [.i d,.i e,.i 3] c)))) (A.cmp .lss b a λf=>A.join (λa b=>A.k4 a λa c d=>K [.i a,.i c,.i d] b) λg=>A.cond f (g [.i d,.i e,.i 1] c) (A.pa a b λa=>A.cmp .gtr a 6 λa=>A.join (λa b=>A.k4 a λa c d=>g [.i a,.i c,.i d] b) λb=>A.cond a (b [.i d,.i e,.i 2] c) (b [.i d,.i e,.i 3] c)))
def f65:R:=A.pu ls λa b=>A.FN b λb c d e=>A.cmp .geq a 4 λf=>A.join (λd f=>A.k6 d λd=>A.loop (λd e f=>A.k4 e λe g i=>A.z_ .rem .u8 a 4 λa=>A.ci a λa=>A.cd .lss i a (A.ps 0 g λa=>A.pa i 1 λb=>d [.i a,.i e,.i b] f) (A.pm 6 b λa=>A.pa e a λa=>A.pm 6 c λb=>A.pa g b λb=>K [.i a,.i b] f)) [.i d,.i e,.i 0] f) λa=>A.cond f (A.ps 0 d λb=>a [.i b] h) (a [.i d] h)
def f66:R:=A.k4 ls λa b c=>A.call 100 [.i a,.i b,.i c] h λa b=>A.I_ a λa c d e f g=>A.pa a d λa=>A.pa a f λa=>A.pq a 3 λa=>A.pa c e λc=>A.pa c g λc=>A.pq c 3 λc=>K [.i a,.i c] b
def f67:R:=A.I_ ls λa b c d e f=>A.cd .gtr b e (K [.i 1] h) (A.cd .eql b e (A.cd .gtr a d (K [.i 1] h) (A.cd .eql a d (A.cmp .gtr c f λa=>A.join (λa b=>A.w_ a (K [.i 0] b)) λb=>A.cond a (K [.i 1] h) (b [] h)) (K [.i 0] h))) (K [.i 0] h))
def f68:R:=A.pu ls λa b=>A.pu b λb c=>A.Ci c λc d=>A.k4 d λd e f=>A.call 101 [.i a,.i b,.v c,.i d,.i e,.i f] h λa b=>A.Ci a λ_ a=>A.k2 a λa c=>K [.v a,.i c] b
def f69:R:=A.Ci ls λa b=>A.k0 b λb=>A.ln a λc=>A.conv .u64 c λd=>A.c6 83 [.i d] h λd e=>A.call 102 [.v a,.i 0,.i c,.i e,.v b] d λa b=>A.w_ a (K [] b)
def f70:R:=A.Ci ls λa b=>A.k0 b λb=>A.new (.map [] 0) h λc d=>A.fp 0 a λe=>A.my (.lg cc 3 e) d λe=>A.td .i64 e λe f=>A.td .i64 f λf g=>A.BM g λg i=>A.nC g (A.v9 i (A.fp 3 a λi=>A.my (.lg cc 3 i) d λi=>A.k9 i λi j k=>A.c2 103 [.i e,.i f,.v g,.i i,.i j,.i k] d λd e _=>A.ln b λf=>A.loop (λd g i=>A.k2 g λg j=>A.cd .lss j f (A.fp 0 a λf=>A.j_ (Dm 0 f) λf=>A.nC f (A.my (.lg cc 2 f) i λf=>A.Hb f λf k=>A.J3 40 [.i f,.i k,.i j] i λf i k l _=>A.loop (λf g m=>A.k2 g λg n=>A.cd .lss n 3 (A.join (λa b=>A.k0 a λa=>A.z_ .add .u8 n 1 λc=>f [.v a,.i c] b) λd=>A.J3 104 [.i i,.i k,.i l,.i n] m λf i k l _=>A.ix 3 b j 3 f λb=>A.FM b λb m o=>A.ix 3 e j 3 f λp=>A.k9 p λp q r=>A.J3 105 [.i p,.i q,.i r,.i i,.i k,.i l] f λf i k l p=>A.cd .neq p 0 (K [.v (.slice none 0 0),.i 3] f) (A.c6 58 [.i b,.i m,.i o,.i i,.i k,.i l] f λf p=>A.cmp .gtr p 0 λp=>A.join (λb f=>A.pu b λb i=>A.I_ i λi k l m o p=>A.my (.fn (Fb cc 198 false (.pointer none) (.map (some c)) (.agg ⟨[.int .i64 i,.int .i64 k,.int .u8 l,.int .i64 m,.int .i64 o,.int .u8 p]⟩) false)) f λq=>A.BM q λq r=>A.nC q (A.v9 r (A.j_ (lr 4 q (.pointer none)) λr=>A.join (λc f=>A.Ci c λc g=>A.k0 g λg=>A.fp 0 a λi=>A.j_ (Dm 0 i) λi=>A.nC i (A.my (.lg cc 2 i) f λi=>A.Hb i λi k=>A.c5 78 [.i i,.i k,.i j,.i n] f λf i k=>A.cd .neq k 0 (d [.v g] f) (A.cd .lss i j (d [.v g] f) (A.fp 0 a λk=>A.my (.lg cc 3 k) f λk=>A.td .i64 k λk l=>A.td .i64 l λl m=>A.BM m λm o=>A.nC m (A.v9 o (A.c5 106 [.i k,.i l,.v m,.i j,.i n] f λf k _=>A.cd .eql k 0 (A.cmp .eql b 0 λl=>A.join (λa b=>A.w_ a (d [.v g] b)) λd=>A.cond l (A.fp 0 c λa=>A.lv a f λa=>A.new (.cells [.int .i64 j,.int .i64 i] 2 true) f λb e=>A.av 2 16 a (.slice (some ⟨b,0,some 12⟩) 1 2) e λa b=>A.fp 0 c λc=>A.heap (.st c [a]) b λ_ a=>d [] a) (A.cmp .eql k 0 λg=>A.join (λa b=>A.w_ a (d [] b)) λd=>A.cond g (A.fp 0 c λa=>A.lv a f λa=>A.new (.cells [.int .i64 i,.int .i64 j] 2 true) f λb e=>A.av 2 16 a (.slice (some ⟨b,0,some 12⟩) 1 2) e λa b=>A.fp 0 c λc=>A.heap (.st c [a]) b λ_ a=>d [] a) (A.fp 1 c λg=>A.j_ (Py 2 1 g b) λg=>A.nC g (A.lv g f λl=>A.new (.cells [.int .i64 j,.int .i64 i] 2 true) f λf m=>A.av 2 16 l (.slice (some ⟨f,0,some 12⟩) 1 2) m λl m=>A.fp 1 c λc=>A.j_ (Py 2 1 c b) λb=>A.nC b (A.heap (.st b [l]) m λ_ b=>A.j_ (Sx.Dp [(.slice (some ⟨f,0,some 12⟩) 1 2,(0,g))]) λ_=>A.ix 3 e j 3 b λc=>A.k9 c λc e f=>A.c3 108 [.i c,.i e,.i f] b λb c=>A.call 107 [.v a,.i k,.i j,.i i,.b (!c)] b λa b=>A.w_ a (d [] b)))))) (A.cmp .eql k 0 λl=>A.join (λa b=>A.w_ a (d [.v g] b)) λd=>A.cond l (A.fp 0 c λa=>A.lv a f λa=>A.new (.cells [.int .i64 i,.int .i64 j] 2 true) f λb e=>A.av 2 16 a (.slice (some ⟨b,0,some 12⟩) 1 2) e λa b=>A.fp 0 c λc=>A.heap (.st c [a]) b λ_ a=>d [] a) (A.fp 1 c λg=>A.j_ (Py 2 1 g b) λg=>A.nC g (A.lv g f λl=>A.new (.cells [.int .i64 j,.int .i64 i] 2 true) f λf m=>A.av 2 16 l (.slice (some ⟨f,0,some 12⟩) 1 2) m λl m=>A.fp 1 c λc=>A.j_ (Py 2 1 c b) λb=>A.nC b (A.heap (.st b [l]) m λ_ b=>A.j_ (Sx.Dp [(.slice (some ⟨f,0,some 12⟩) 1 2,(0,g))]) λ_=>A.ix 3 e j 3 b λc=>A.k9 c λc e f=>A.c3 108 [.i c,.i e,.i f] b λb c=>A.call 107 [.v a,.i k,.i j,.i i,.b (!c)] b λa b=>A.w_ a (d [] b))))))))))) λa=>A.cond r (A.new (.cells [.slice none 0 0,.slice none 0 0,.slice none 0 0] 3 true) f λb d=>A.heap (.fn (FO cc 198 (.map (some c)) (.agg ⟨[.int .i64 i,.int .i64 k,.int .u8 l,.int .i64 m,.int .i64 o,.int .u8 p]⟩) (.pointer (some ⟨b,0,none⟩)))) d λ_ c=>A.new (.cells [.pointer (some ⟨b,0,none⟩)] 1 true) c λc d=>A.av 1 8 g (.slice (some ⟨c,0,some 11⟩) 1 2) d λc d=>a [.v (.pointer (some ⟨b,0,none⟩)),.v c] d) (a [.v q,.v g] f)))) λa=>A.cond p (a [.i 1,.i i,.i k,.i l,.i b,.i m,.i o] f) (a [.i 0,.i b,.i m,.i o,.i i,.i k,.i l] f))) (A.pa j 1 λa=>d [.v g,.i a] m)) [.v g,.i 0] f)) (K [.v g,.i 0] i)) [.v (.slice none 0 0),.i 0] d))
def f71:R:=A.Ci ls λa b=>A.k0 b λb=>A.fp 0 b λc=>A.lv c h λc=>A.ln c λd=>A.loop (λe f g=>A.k6 f λf=>A.cd .lss f d (A.ix 2 c f 2 g λc=>A.Hb c λc d=>A.fp 0 b λi=>A.lv i g λi=>A.j_ (Ex 2 i none (some f) none) λi=>A.nC i (A.ln i λj=>A.loop (λg k l=>A.k6 k λk=>A.cd .lss k j (A.ix 2 i k 2 l λb=>A.Hb b λb e=>A.F4 110 [.v a,.i c,.i b] l λb c f=>A.F4 110 [.v a,.i d,.i e] b λb d e=>A.call 109 [.v a,.i c,.b f,.i d,.b e] b λa b=>A.w_ a (A.pa k 1 λa=>g [.i a] b)) (A.fp 1 b λb=>A.my (.lg cc 2 b) l λb=>A.BM b λb g=>A.nC b (A.BM g λg i=>A.nC g (A.v9 i (A.loop (λi j k=>A.k6 j λj=>A.cd .lss j 2 (A.j_ (E0 2 j) λ_=>A.j_ (ko [.v b,.v g] 0 [(j,1)] 1) λb=>A.k0 b λb=>A.ln b λe=>A.loop (λf g k=>A.k6 g λg=>A.cd .lss g e (A.ix 2 b g 2 k λb=>A.Hb b λb e=>A.j_ (E0 2 j) λ_=>A.j_ (ko [.i c,.i d] 0 [(j,1)] 1) λi=>A.k6 i λi=>A.F4 110 [.v a,.i i,.i b] k λb i k=>A.j_ (E0 2 j) λ_=>A.j_ (ko [.i c,.i d] 0 [(j,1)] 1) λc=>A.k6 c λc=>A.F4 110 [.v a,.i c,.i e] b λb c d=>A.call 109 [.v a,.i i,.b k,.i c,.b d] b λa b=>A.w_ a (A.pa g 1 λa=>f [.i a] b)) (A.pa j 1 λa=>i [.i a] k)) [.i 0] k) (A.pa f 1 λa=>e [.i a] k)) [.i 0] l))))) [.i 0] g)) (A.fp 1 b λb=>A.my (.lg cc 2 b) g λb=>A.BM b λb c=>A.nC b (A.BM c λc d=>A.nC c (A.v9 d (A.loop (λd e f=>A.k6 e λe=>A.cd .lss e 2 (A.j_ (E0 2 e) λ_=>A.j_ (ko [.v b,.v c] 0 [(e,1)] 1) λb=>A.k0 b λb=>A.ln b λc=>A.loop (λf g i=>A.k6 g λg=>A.cd .lss g c (A.ix 2 b g 2 i λc=>A.Hb c λc d=>A.j_ (Ex 2 b none (some g) none) λb=>A.nC b (A.ln b λe=>A.loop (λi j k=>A.k6 j λj=>A.cd .lss j e (A.ix 2 b j 2 k λb=>A.Hb b λb e=>A.fp 13 a λf=>A.lv f k λg=>A.F4 110 [.v a,.i c,.i b] k λk l m=>A.F4 110 [.v a,.i d,.i b] k λb k n=>A.F4 110 [.v a,.i c,.i e] b λb c o=>A.F4 110 [.v a,.i d,.i e] b λb d e=>A.new (.cells [.int .i64 l,.bool m,.int .i64 k,.bool n,.int .i64 c,.bool o,.int .i64 d,.bool e] 8 true) b λb c=>A.av 8 64 g (.slice (some ⟨b,0,some 18⟩) 1 2) c λb d=>A.fp 13 a λa=>A.heap (.st a [b]) d λ_ a=>A.lv f c λb=>A.j_ (Sx.Pa g b) λ_=>A.pa j 1 λb=>i [.i b] a) (A.pa g 1 λa=>f [.i a] k)) [.i 0] i)) (A.pa e 1 λa=>d [.i a] i)) [.i 0] f) (K [] f)) [.i 0] g))))) [.i 0] h
def f72:R:=A.Ci ls λa b=>A.k0 b λb=>A.new (.cells [a] 1 true) h λa c=>A.new (.cells [.nilFunc] 1 true) c λc d=>A.nC (.func (.func 73) ⟨[]⟩ ⟨[b,.pointer (some ⟨a,0,none⟩),.pointer (some ⟨c,0,none⟩)]⟩) (A.heap (.st (.pointer (some ⟨c,0,none⟩)) [.func (.func 73) ⟨[]⟩ ⟨[b,.pointer (some ⟨a,0,none⟩),.pointer (some ⟨c,0,none⟩)]⟩]) d λ_ a=>A.lv b a λb=>A.fp 14 b λb=>A.my (.lg cc 1 b) a λb=>A.D1 b λb d=>A.v9 d (A.join (λa b=>A.w_ a (K [] b)) λd=>A.cond (!b) (A.lv (.pointer (some ⟨c,0,none⟩)) a λb=>A.BO b [.int .i64 0] [.leaf .b] a λa b=>A.k3 a λ_=>d [] b) (d [] a)))
def f73:R:=A.pu ls λa b=>A.Ci b λb c=>A.Ci c λc d=>A.k0 d λd=>A.lv b h λe=>A.fp 6 e λe=>A.lv e h λe=>A.ln e λe=>A.cd .eql a e (A.lv c h λa=>A.lv b h λb=>A.call 74 [.v b] h λb d=>A.k7 b λb e f g i j k=>A.lv c d λc=>A.j_ (Sx.I3 a c) λ_=>A.BO a [.agg ⟨[.int .i64 b,.int .i64 e,f,.int .u8 g,.int .i64 i,.int .i64 j,k]⟩] [.leaf .b] d λa b=>A.k3 a λa=>K [.b a] b) (A.lv b h λc=>A.fp 8 c λc=>A.lv c h λc=>A.ix 1 c a 1 h λc=>A.BM c λc e=>A.nC c (A.v9 e (A.ln c λc=>A.lv b h λe=>A.fp 7 e λe=>A.lv e h λe=>A.ix 1 e a 1 h λe=>A.BM e λe f=>A.nC e (A.v9 f (A.ln e λe=>A.cd .eql c e (A.lv d h λb=>A.pa a 1 λa=>A.BO b [.int .i64 a] [.leaf .b] h λa b=>A.k3 a λa=>K [.b a] b) (A.lv b h λc=>A.fp 7 c λc=>A.lv c h λc=>A.ix 1 c a 1 h λc=>A.BM c λc e=>A.nC c (A.v9 e (A.ln c λe=>A.loop (λf g i=>A.k6 g λg=>A.cd .lss g e (A.join (λa b=>A.w_ a (A.pa g 1 λa=>f [.i a] b)) λe=>A.ix 1 c g 1 i λc=>A.DE c λc=>A.lv b i λf=>A.fp 9 f λf=>A.lv f i λf=>A.ix 1 f c 1 i λf=>A.D1 f λf g=>A.v9 g (A.cond f (e [] i) (A.new (.cells [.slice none 0 0] 1 true) i λf g=>A.join (λc d=>A.k3 c λc=>A.lv b d λb=>A.lv (.pointer (some ⟨f,0,none⟩)) d λf=>A.call 76 [.v b,.i a,.v f] d λa b=>A.w_ a (A.cond (!c) (K [.b false] b) (e [] b))) λe=>A.lv b g λb=>A.c3 75 [.v b,.i a,.i c,.v (.pointer (some ⟨f,0,none⟩))] g λb c=>A.cond (!c) (e [.b true] b) (A.lv d b λc=>A.BO c [.int .i64 a] [.leaf .b] b λa b=>A.k3 a λa=>e [.b a] b)))) (K [.b true] i)) [.i 0] h))))))))
def f74:R:=A.k0 ls λa=>A.fp 0 a λb=>A.my (.lg cc 3 b) h λb=>A.td .i64 b λb c=>A.td .i64 c λc d=>A.BM d λd e=>A.nC d (A.v9 e (A.c0 112 [.v d] h λd e=>A.c0 111 [.v e] d λd e=>A.fp 3 a λf=>A.my (.lg cc 3 f) d λg=>A.k9 g λg i j=>A.fp 6 a λk=>A.lv k d λk=>A.ln k λk=>A.j_ (DX k k) λ_=>A.new (.cells (aL [.int .i64 0,.int .i64 0,.int .u8 0,.slice none 0 0] (Int.toNat k)) 4 true) d λd l=>A.j_ (Sx.Dp [(.slice (some ⟨d,0,some 14⟩) (Int.toNat k) ((Int.toNat k)+1),(0,f))]) λ_=>A.fp 6 a λf=>A.lv f l λf=>A.ln f λm=>A.loop (λl n o=>A.k6 n λn=>A.cd .lss n m (A.ix 3 f n 3 o λb=>A.FM b λb c e=>A.fp 8 a λa=>A.lv a o λa=>A.ix 1 a n 1 o λa=>A.BM a λa f=>A.nC a (A.v9 f (A.c0 114 [.v a] o λa f=>A.c0 113 [.v f] a λa f=>A.j_ (BL 4 (.slice (some ⟨d,0,some 14⟩) (Int.toNat k) ((Int.toNat k)+1)) n) λd=>A.heap (.st d [.int .i64 b,.int .i64 c,.int .u8 e,f]) a λ_ a=>A.pa n 1 λb=>l [.i b] a))) (K [.i b,.i c,.v e,.i g,.i i,.i j,.v (.slice (some ⟨d,0,some 14⟩) (Int.toNat k) ((Int.toNat k)+1))] o)) [.i 0] l))
def f75:R:=A.k14 ls λa b c d=>A.fp 9 a λe=>A.lv e h λe=>A.j_ (BL 1 e c) λe=>A.heap (.st e [.bool true]) h λ_ e=>A.fp 8 a λf=>A.lv f e λg=>A.fp 8 a λi=>A.lv i e λj=>A.j_ (BL 1 j b) λj=>A.lv j e λk=>A.new (.cells [.int .i64 c] 1 true) e λe l=>A.av 1 8 k (.slice (some ⟨e,0,some 11⟩) 1 2) l λl m=>A.j_ (BL 1 g b) λg=>A.heap (.st g [l]) m λ_ g=>A.j_ (Sx.Dp [(.slice (some ⟨e,0,some 11⟩) 1 2,(0,f)),(.slice (some ⟨e,0,some 11⟩) 1 2,(0,i)),(.slice (some ⟨e,0,some 11⟩) 1 2,(0,j)),(k,(0,f)),(l,(0,f))]) λ_=>A.fp 7 a λe=>A.lv e g λe=>A.ix 1 e b 1 g λb=>A.BM b λb e=>A.nC b (A.v9 e (A.ln b λe=>A.loop (λf g i=>A.k6 g λg=>A.cd .lss g e (A.ix 1 b g 1 i λb=>A.DE b λb=>A.fp 9 a λe=>A.lv e i λe=>A.ix 1 e b 1 i λe=>A.D1 e λe j=>A.v9 j (A.cond (!e) (A.F4 110 [.v a,.i c,.i b] i λb c e=>A.c3 115 [.v a,.i c,.b e,.v d] b λa b=>A.join (λa b=>A.w_ a (A.pa g 1 λa=>f [.i a] b)) λc=>A.cond (!b) (K [.b false] a) (c [] a)) (A.pa g 1 λa=>f [.i a] i))) (A.c3 116 [.v a] i λa b=>K [.b b] a)) [.i 0] g))
def f76:R:=A.Ci ls λa b=>A.pu b λb c=>A.k0 c λc=>A.fp 8 a λd=>A.lv d h λd=>A.ix 1 d b 1 h λd=>A.BM d λd e=>A.nC d (A.v9 e (A.ln d λd=>A.ps d 1 λd=>A.fp 9 a λe=>A.lv e h λe=>A.fp 8 a λf=>A.lv f h λf=>A.ix 1 f b 1 h λf=>A.BM f λf g=>A.nC f (A.v9 g (A.ix 1 f d 1 h λf=>A.DE f λf=>A.j_ (BL 1 e f) λe=>A.heap (.st e [.bool false]) h λ_ e=>A.fp 8 a λf=>A.lv f e λf=>A.fp 8 a λg=>A.lv g e λg=>A.ix 1 g b 1 e λg=>A.BM g λg i=>A.nC g (A.v9 i (A.j_ (Ex 1 g none (some d) none) λd=>A.nC d (A.j_ (BL 1 f b) λb=>A.heap (.st b [d]) e λ_ b=>A.ln c λd=>A.loop (λb e f=>A.k6 e λe=>A.cd .lss e d (A.ix 1 c e 1 f λc=>A.DE c λc=>A.fp 12 a λa=>A.lv a f λa=>A.j_ (BL 1 a c) λa=>A.heap (.st a [.int .i64 0]) f λ_ a=>A.pa e 1 λc=>b [.i c] a) (K [] f)) [.i 0] b)))))))
def f77:R:=A.Ci ls λa b=>A.k0 b λb=>A.ln a λc=>A.loop (λd e f=>A.k6 e λe=>A.cd .lss e c (A.ix 3 a e 3 f λa=>A.MP a λa c g=>A.BO b [.agg ⟨[.int .i64 a,.int .u8 c,.int .u8 g]⟩] [.leaf .b] f λa b=>A.k3 a λa=>A.cond a (K [.i e] b) (A.pa e 1 λa=>d [.i a] b)) (K [.i (-1)] f)) [.i 0] h
def f78:R:=A.FN ls λa b c d=>A.J3 40 [.i a,.i b,.i c] h λc e f g i=>A.cd .neq i 0 (K [.i 0,.i i] c) (A.J3 104 [.i e,.i f,.i g,.i d] c λc d e f g=>A.cd .neq g 0 (K [.i 0,.i 1] c) (A.c5 41 [.i a,.i b,.i d,.i e,.i f] c λa b c=>K [.i b,.i c] a))
def f79:R:=A.k4 ls λa b c=>A.join (λa b=>A.k3 a λa=>K [.b a] b) λd=>A.cd .geq c 0 (A.pm 4 a λa=>A.pm a b λa=>A.cmp .lss c a λa=>d [.b a] h) (d [.b false] h)
def f80:R:=A.k4 ls λa _ b=>A.pq b 4 λc=>A.pr c a λc=>A.pq b 4 λd=>A.pq d a λa=>A.pr b 4 λb=>A.conv .u8 b λb=>K [.i c,.i a,.i b] h
def f81:R:=A.k4 ls λa b c=>A.cd .lss a (-4096) (K [.i 1] h) (A.cd .gtr a 4096 (K [.i 1] h) (A.cd .lss b (-4096) (K [.i 1] h) (A.cd .gtr b 4096 (K [.i 1] h) (A.cd .gtr c 3 (K [.i 1] h) (K [.i 0] h)))))
def f83:R:=A.k6 ls λa=>A.c6 126 [.i a] h λa b=>K [.i b] a
def f84:R:=A.k7 ls λa b c d e f _=>A.c2 23 [.i a,.i b,.v c,.i d,.i e,.i f] h λd e _=>A.c0 48 [.i a,.i b,.v c] d λc d=>A.loop (λc f g=>A.k2 f λf i=>A.ln e λj=>A.cd .lss i j (A.loop (λf g j=>A.k2 g λg k=>A.cd .lss k 3 (A.join (λa b=>A.k0 a λa=>A.pa k 1 λc=>f [.v a,.i c] b) λc=>A.c6 61 [.i a,.i b,.i i,.i k] j λf j=>A.cd .lss j i (c [.v g] f) (A.pm 3 i λl=>A.pa l k λk=>A.ix 1 d k 1 f λd=>A.k8 d λd=>A.cd .neq d 0 (c [.v g] f) (A.ix 3 e i 3 f λd=>A.k9 d λd k l=>A.c4 25 [.i a,.i b,.i i] f λf m n o=>A.c4 24 [.i d,.i k,.i l,.i m,.i n,.i o] f λd f k l=>A.ix 3 e j 3 d λe=>A.k9 e λe m n=>A.c4 25 [.i a,.i b,.i j] d λa b d o=>A.c4 24 [.i e,.i m,.i n,.i b,.i d,.i o] a λa b d e=>A.c5 127 [.i f,.i k,.i l,.i b,.i d,.i e] a λa b d=>A.new (.cells [.int .i64 i,.int .i64 j,.int .u8 b,.int .i64 d] 4 true) a λa b=>A.av 4 32 g (.slice (some ⟨a,0,some 14⟩) 1 2) b λa b=>c [.v a] b))) (A.pa i 1 λa=>c [.v g,.i a] j)) [.v f,.i 0] g) (K [.v f] g)) [.v (.slice none 0 0),.i 0] c
def f85:R:=A.k5 ls λa b=>A.cd .eql a 1 (A.pm 2 b λa=>K [.i 4,.i a,.i 0] h) (A.cd .eql a 2 (A.pm 2 b λa=>K [.i 6,.i 0,.i a] h) (A.cd .eql a 3 (K [.i 5,.i b,.i b] h) (A.ps 0 b λa=>K [.i 7,.i a,.i b] h)))
def f86:R:=A.pu ls λa b=>A.FN b λb c d e=>A.c5 66 [.i c,.i d,.i e] h λc d e=>A.pa d e λf=>A.ps e d λg=>A.new (.cells [.int .i64 0,.int .i64 d,.int .i64 e,.int .i64 f,.int .i64 g] 1 true) c λc d=>A.j_ (BL 1 (.slice (some ⟨c,0,some 11⟩) 5 6) a) λa=>A.my (.lg cc 1 a) d λa=>A.DE a λa=>A.pm 6 b λb=>A.cd .lss a b (K [.i 0] d) (K [.i 1] d)
def f87:R:=A.FN ls λa b c d=>A.loop (λe f g=>A.k6 f λf=>A.cd .lss f 3 (A.c6 61 [.i a,.i b,.i c,.i f] g λa b=>A.cd .neq b d (A.pa f 1 λb=>e [.i b] a) (A.pr c 4 λb=>A.pr d 4 λe=>A.pa b e λb=>A.cd .eql b 1 (K [.i 1] a) (A.pr c 4 λb=>A.pr d 4 λc=>A.pa b c λb=>A.cd .eql b 5 (K [.i 1] a) (K [.i 2] a)))) (K [.i 0] g)) [.i 1] h
def f88:R:=A.k0 ls λa=>A.loop (λb c d=>A.k6 c λc=>A.ln a λe=>A.cd .lss c e (A.join (λa d=>A.w_ a (A.pa c 1 λa=>b [.i a] d)) λb=>A.loop (λc d e=>A.k6 d λd=>A.cd .gtr d 0 (A.ps d 1 λf=>A.fx 3 a f 0 1 e λf=>A.DE f λf=>A.fx 3 a d 0 1 e λg=>A.DE g λg=>A.cd .gtr f g (A.ps d 1 λb=>A.ix 3 a d 3 e λf=>A.MP f λf g i=>A.ps d 1 λj=>A.ix 3 a j 3 e λj=>A.MP j λj k l=>A.j_ (BL 3 a b) λb=>A.heap (.st b [.int .i64 f,.int .u8 g,.int .u8 i]) e λ_ b=>A.j_ (BL 3 a d) λa=>A.heap (.st a [.int .i64 j,.int .u8 k,.int .u8 l]) b λ_ a=>A.ps d 1 λb=>c [.i b] a) (A.ps d 1 λf=>A.fx 3 a f 0 1 e λf=>A.DE f λf=>A.fx 3 a d 0 1 e λg=>A.DE g λg=>A.cd .eql f g (A.ps d 1 λf=>A.fx 3 a f 1 1 e λf=>A.k8 f λf=>A.fx 3 a d 1 1 e λg=>A.k8 g λg=>A.cmp .gtr f g λf=>A.join (λb e=>A.w_ b (A.ps d 1 λb=>A.ix 3 a d 3 e λf=>A.MP f λf g i=>A.ps d 1 λj=>A.ix 3 a j 3 e λj=>A.MP j λj k l=>A.j_ (BL 3 a b) λb=>A.heap (.st b [.int .i64 f,.int .u8 g,.int .u8 i]) e λ_ b=>A.j_ (BL 3 a d) λa=>A.heap (.st a [.int .i64 j,.int .u8 k,.int .u8 l]) b λ_ a=>A.ps d 1 λb=>c [.i b] a)) λa=>A.cond f (a [] e) (b [] e)) (b [] e))) (b [] e)) [.i c] d) (K [.v a] d)) [.i 1] h
def f90:R:=A.FN ls λa b c d=>A.cd .eql d 0 (K [.i 0] h) (A.c4 25 [.i a,.i b,.i c] h λa _ _ b=>A.cd .eql b 0 (A.cmp .eql d 1 λb=>A.eqs [(.b true,.b b)] λb=>A.cond b (K [.i 1] a) (K [.i 2] a)) (A.cmp .eql b 2 λb=>A.cmp .eql d 1 λc=>A.eqs [(.b b,.b c)] λb=>A.cond b (K [.i 1] a) (K [.i 2] a)))
def f93:R:=A.k0 ls λa=>A.ln a λb=>A.loop (λc d e=>A.k6 d λd=>A.cd .lss d b (A.ix 2 a d 2 e λa=>A.Hb a λa b=>A.c6 94 [.i a,.i b] e λa b=>A.cd .neq b 0 (K [.i b] a) (A.pa d 1 λb=>c [.i b] a)) (K [.i 0] e)) [.i 0] h
def f94:R:=A.k5 ls λa b=>A.c3 128 [.i a] h λc d=>A.c3 128 [.i b] c λc e=>A.cond d (A.cond e (K [.i 0] c) (K [.i (-1)] c)) (A.cond e (K [.i 1] c) (A.cd .lss a b (K [.i (-1)] c) (A.cd .gtr a b (K [.i 1] c) (K [.i 0] c))))
def f98:R:=A.k5 ls λa b=>A.cd .lss a 0 (A.ps 0 a λa=>A.pa a b λa=>A.ps a 1 λa=>A.pq a b λa=>A.ps 0 a λa=>K [.i a] h) (A.pq a b λa=>K [.i a] h)
def f99:R:=A.k5 ls λa b=>A.cd .gtr a b (K [.i a] h) (K [.i b] h)
def Sp:R:=A.k4 ls λa b c=>A.pm 6 a λa=>A.pm 6 b λb=>A.pa a 3 λd=>A.pa b 3 λe=>A.cd .eql c 0 (A.pa a 6 λc=>K [.i d,.i e,.i a,.i b,.i c,.i b] h) (A.cd .eql c 1 (A.pa a 6 λc=>A.pa a 6 λa=>A.pa b 6 λf=>K [.i d,.i e,.i c,.i b,.i a,.i f] h) (A.cd .eql c 2 (A.pa a 6 λc=>A.pa b 6 λf=>A.pa b 6 λb=>K [.i d,.i e,.i c,.i f,.i a,.i b] h) (A.pa b 6 λc=>K [.i d,.i e,.i a,.i c,.i a,.i b] h)))
def Sq:R:=A.pu ls λa b=>A.pu b λb c=>A.Ci c λc d=>A.k4 d λd e f=>A.c6 16 [.i a,.i b,.v c] h λg i=>A.cd .neq i 0 (K [.v (.slice none 0 0),.v (.slice none 0 0),.i i] g) (A.c6 129 [.i d,.i e,.i f] g λg i=>A.cd .neq i 0 (K [.v (.slice none 0 0),.v (.slice none 0 0),.i 1] g) (A.c2 130 [.i a,.i b,.v c] g λc g i=>A.cd .neq i 0 (K [.v (.slice none 0 0),.v (.slice none 0 0),.i i] c) (A.ln g λi=>A.j_ (DX i i) λ_=>A.new (.cells (aL [.int .i64 0,.int .i64 0,.int .u8 0] (Int.toNat i)) 3 true) c λc j=>A.ln g λk=>A.loop (λj l m=>A.k6 l λl=>A.cd .lss l k (A.ix 3 g l 3 m λk=>A.k9 k λk n o=>A.J3 40 [.i a,.i b,.i l] m λa b m p _=>A.J3 131 [.i k,.i n,.i o,.i d,.i e,.i f] a λa d e f k=>A.j_ (BL 3 g l) λn=>A.heap (.st n [.int .u8 d,.int .i64 e,.int .i64 f]) a λ_ a=>A.cd .neq k 0 (K [.v (.slice none 0 0),.v (.slice none 0 0),.i k] a) (A.ix 3 g l 3 a λd=>A.k9 d λd e f=>A.J3 105 [.i d,.i e,.i f,.i b,.i m,.i p] a λa b d e f=>A.j_ (BL 3 (.slice (some ⟨c,0,some 13⟩) (Int.toNat i) ((Int.toNat i)+1)) l) λc=>A.heap (.st c [.int .i64 b,.int .i64 d,.int .u8 e]) a λ_ a=>A.cd .neq f 0 (K [.v (.slice none 0 0),.v (.slice none 0 0),.i f] a) (A.pa l 1 λb=>j [.i b] a))) (K [.v g,.v (.slice (some ⟨c,0,some 13⟩) (Int.toNat i) ((Int.toNat i)+1)),.i 0] m)) [.i 0] j)))
def f102:R:=A.Ci ls λa b=>A.pu b λb c=>A.k1 c λc d e=>A.loop (λb c d=>A.pu c λc f=>A.pu f λf g=>A.D9 g λg i=>A.D9 i λi j=>A.k6 j λj=>A.join (λa c=>A.pu a λa d=>A.pu d λd e=>A.D9 e λe f=>A.D9 f λf g=>A.k6 g λg=>b [.i a,.i d,.b e,.b f,.i g] c) λb=>A.ps j f λk=>A.cd .leq k 12 (A.call 132 [.v a,.i f,.i j,.v e] d λa b=>A.w_ a (K [] b)) (A.cd .eql c 0 (A.call 133 [.v a,.i f,.i j,.v e] d λa b=>A.w_ a (K [] b)) (A.join (λc d=>A.k6 c λc=>A.c5 135 [.v a,.i f,.i j,.v e] d λd l m=>A.cmp .eql m 2 λn=>A.join (λd l=>A.k5 d λd m=>A.cond i (A.cond g (A.cmp .eql m 1 λm=>A.join (λl m=>A.w_ l (A.cd .gtr f 0 (A.ps f 1 λl=>A.ix 3 a l 3 m λl=>A.FM l λl n o=>A.ix 3 a d 3 m λp=>A.FM p λp q r=>A.BO e [.agg ⟨[.int .i64 l,.int .i64 n,.int .u8 o]⟩,.agg ⟨[.int .i64 p,.int .i64 q,.int .u8 r]⟩] [.leaf (.i .i64)] m λl m=>A.k6 l λl=>A.cmp .lss l 0 λl=>A.join (λf g=>A.k6 f λf=>A.F4 139 [.v a,.i f,.i j,.i d,.v e] g λd g i=>A.ps g f λl=>A.ps j g λm=>A.pq k 8 λk=>A.cmp .lss l m λn=>A.join (λa d=>A.D9 a λa e=>A.k5 e λe f=>b [.i c,.i e,.b i,.b a,.i f] d) λb=>A.cond n (A.cmp .geq l k λi=>A.call 102 [.v a,.i f,.i g,.i c,.v e] d λa c=>A.w_ a (A.pa g 1 λa=>b [.b i,.i a,.i j] c)) (A.cmp .geq m k λi=>A.pa g 1 λk=>A.call 102 [.v a,.i k,.i j,.i c,.v e] d λa c=>A.w_ a (b [.b i,.i f,.i g] c))) λk=>A.cond (!l) (A.c6 138 [.v a,.i f,.i j,.i d,.v e] m λa d=>b [.i c,.i d,.b g,.b i,.i j] a) (k [.i f] m)) (A.F4 139 [.v a,.i f,.i j,.i d,.v e] m λd g i=>A.ps g f λl=>A.ps j g λm=>A.pq k 8 λk=>A.cmp .lss l m λn=>A.join (λa d=>A.D9 a λa e=>A.k5 e λe f=>b [.i c,.i e,.b i,.b a,.i f] d) λb=>A.cond n (A.cmp .geq l k λi=>A.call 102 [.v a,.i f,.i g,.i c,.v e] d λa c=>A.w_ a (A.pa g 1 λa=>b [.b i,.i a,.i j] c)) (A.cmp .geq m k λi=>A.pa g 1 λk=>A.call 102 [.v a,.i k,.i j,.i c,.v e] d λa c=>A.w_ a (b [.b i,.i f,.i g] c))))) λb=>A.cond m (A.c3 137 [.v a,.i f,.i j,.v e] l λa c=>A.cond c (K [] a) (b [] a)) (b [] l)) (A.cd .gtr f 0 (A.ps f 1 λm=>A.ix 3 a m 3 l λm=>A.FM m λm n o=>A.ix 3 a d 3 l λp=>A.FM p λp q r=>A.BO e [.agg ⟨[.int .i64 m,.int .i64 n,.int .u8 o]⟩,.agg ⟨[.int .i64 p,.int .i64 q,.int .u8 r]⟩] [.leaf (.i .i64)] l λl m=>A.k6 l λl=>A.cmp .lss l 0 λl=>A.join (λf g=>A.k6 f λf=>A.F4 139 [.v a,.i f,.i j,.i d,.v e] g λd g i=>A.ps g f λl=>A.ps j g λm=>A.pq k 8 λk=>A.cmp .lss l m λn=>A.join (λa d=>A.D9 a λa e=>A.k5 e λe f=>b [.i c,.i e,.b i,.b a,.i f] d) λb=>A.cond n (A.cmp .geq l k λi=>A.call 102 [.v a,.i f,.i g,.i c,.v e] d λa c=>A.w_ a (A.pa g 1 λa=>b [.b i,.i a,.i j] c)) (A.cmp .geq m k λi=>A.pa g 1 λk=>A.call 102 [.v a,.i k,.i j,.i c,.v e] d λa c=>A.w_ a (b [.b i,.i f,.i g] c))) λk=>A.cond (!l) (A.c6 138 [.v a,.i f,.i j,.i d,.v e] m λa d=>b [.i c,.i d,.b g,.b i,.i j] a) (k [.i f] m)) (A.F4 139 [.v a,.i f,.i j,.i d,.v e] l λd g i=>A.ps g f λl=>A.ps j g λm=>A.pq k 8 λk=>A.cmp .lss l m λn=>A.join (λa d=>A.D9 a λa e=>A.k5 e λe f=>b [.i c,.i e,.b i,.b a,.i f] d) λb=>A.cond n (A.cmp .geq l k λi=>A.call 102 [.v a,.i f,.i g,.i c,.v e] d λa c=>A.w_ a (A.pa g 1 λa=>b [.b i,.i a,.i j] c)) (A.cmp .geq m k λi=>A.pa g 1 λk=>A.call 102 [.v a,.i k,.i j,.i c,.v e] d λa c=>A.w_ a (b [.b i,.i f,.i g] c))))) (A.cd .gtr f 0 (A.ps f 1 λm=>A.ix 3 a m 3 l λm=>A.FM m λm n o=>A.ix 3 a d 3 l λp=>A.FM p λp q r=>A.BO e [.agg ⟨[.int .i64 m,.int .i64 n,.int .u8 o]⟩,.agg ⟨[.int .i64 p,.int .i64 q,.int .u8 r]⟩] [.leaf (.i .i64)] l λl m=>A.k6 l λl=>A.cmp .lss l 0 λl=>A.join (λf g=>A.k6 f λf=>A.F4 139 [.v a,.i f,.i j,.i d,.v e] g λd g i=>A.ps g f λl=>A.ps j g λm=>A.pq k 8 λk=>A.cmp .lss l m λn=>A.join (λa d=>A.D9 a λa e=>A.k5 e λe f=>b [.i c,.i e,.b i,.b a,.i f] d) λb=>A.cond n (A.cmp .geq l k λi=>A.call 102 [.v a,.i f,.i g,.i c,.v e] d λa c=>A.w_ a (A.pa g 1 λa=>b [.b i,.i a,.i j] c)) (A.cmp .geq m k λi=>A.pa g 1 λk=>A.call 102 [.v a,.i k,.i j,.i c,.v e] d λa c=>A.w_ a (b [.b i,.i f,.i g] c))) λk=>A.cond (!l) (A.c6 138 [.v a,.i f,.i j,.i d,.v e] m λa d=>b [.i c,.i d,.b g,.b i,.i j] a) (k [.i f] m)) (A.F4 139 [.v a,.i f,.i j,.i d,.v e] l λd g i=>A.ps g f λl=>A.ps j g λm=>A.pq k 8 λk=>A.cmp .lss l m λn=>A.join (λa d=>A.D9 a λa e=>A.k5 e λe f=>b [.i c,.i e,.b i,.b a,.i f] d) λb=>A.cond n (A.cmp .geq l k λi=>A.call 102 [.v a,.i f,.i g,.i c,.v e] d λa c=>A.w_ a (A.pa g 1 λa=>b [.b i,.i a,.i j] c)) (A.cmp .geq m k λi=>A.pa g 1 λk=>A.call 102 [.v a,.i k,.i j,.i c,.v e] d λa c=>A.w_ a (b [.b i,.i f,.i g] c))))) λb=>A.cond n (A.call 136 [.v a,.i f,.i j,.v e] d λa c=>A.w_ a (A.ps j 1 λa=>A.ps l f λd=>A.ps a d λa=>b [.i a,.i 1] c)) (b [.i l,.i m] d)) λb=>A.cond (!i) (A.call 134 [.v a,.i f,.i j,.v e] d λa d=>A.w_ a (A.ps c 1 λa=>b [.i a] d)) (b [.i c] d)))) [.i d,.i b,.b true,.b true,.i c] h
def Va:R:=A.pu ls λa b=>A.pu b λb c=>A.Ci c λc d=>A.k4 d λd e f=>A.call 101 [.i a,.i b,.v c,.i d,.i e,.i f] h λa b=>A.Ci a λa c=>A.k2 c λ_ c=>K [.v a,.i c] b
def Sr:R:=A.FN ls λa b c d=>A.c6 81 [.i a,.i b,.i c] h λe f=>A.cd .neq f 0 (K [.i 0,.i 0,.i 0,.i 1] e) (A.cd .gtr d 2 (K [.i 0,.i 0,.i 0,.i 1] e) (A.j_ (E0 4 c) λ_=>A.j_ (E0 3 d) λ_=>A.j_ (qc w7 4 [(c,17),(d,3)] 3) λc=>A.FM c λc d f=>A.pa c a λa=>A.pa d b λb=>A.c6 81 [.i a,.i b,.i f] e λc d=>A.cd .neq d 0 (K [.i 0,.i 0,.i 0,.i 3] c) (K [.i a,.i b,.i f,.i 0] c)))
def Ss:R:=A.I_ ls λa b c d e f=>A.c6 129 [.i a,.i b,.i c] h λg i=>A.cd .neq i 0 (K [.i 0,.i 0,.i 0,.i 1] g) (A.c6 81 [.i d,.i e,.i f] g λg i=>A.cd .neq i 0 (K [.i 0,.i 0,.i 0,.i 1] g) (A.c4 140 [.i a,.i b,.i c,.i d,.i e,.i f] g λa b c d=>A.c6 81 [.i b,.i c,.i d] a λa e=>A.cd .neq e 0 (K [.i 0,.i 0,.i 0,.i 3] a) (K [.i b,.i c,.i d,.i 0] a)))
def Vb:R:=A.pu ls λa b=>A.pu b λb c=>A.Ci c λc d=>A.k5 d λd e=>A.call 141 [.i a,.i b,.v c,.i d,.i e] h λa b=>A.pu a λ_ a=>A.pu a λ_ a=>A.pu a λa d=>A.D9 d λd e=>A.k6 e λe=>A.cd .neq e 0 (K [.i 0,.i e] b) (A.cond (!d) (K [.i 0,.i e] b) (A.fx 3 c a 2 1 b λa=>A.k8 a λa=>K [.i a,.i 0] b))
def Vc:R:=A.Ci ls λa b=>A.pu b λb c=>A.pu c λc d=>A.NL d λd e=>A.cd .eql b 3 (K [] h) (A.F4 110 [.v a,.i c,.i d] h λc d f=>A.cmp .eql b 2 λb=>A.eqs [(.b b,.b e)] λb=>A.join (λb c=>A.NL b λb d=>A.join (λa b=>A.w_ a (K [] b)) λe=>A.fp 14 a λf=>A.my (.lg cc 1 f) c λf=>A.D1 f λf g=>A.v9 g (A.cond f (A.fp 14 a λa=>A.heap (.st a [.bool true]) c λ_ a=>e [] a) (A.c3 115 [.v a,.i b,.b d,.v (.pointer none)] c λb c=>A.fp 14 a λa=>A.heap (.st a [.bool (!c)]) b λ_ a=>e [] a))) λa=>A.cond (!b) (a [.i d,.b (!f)] c) (a [.i d,.b f] c))
def Su:R:=A.k4 ls λa b c=>A.join (λa b=>A.k3 a λa=>K [.b a] b) λd=>A.c6 129 [.i a,.i b,.i c] h λb c=>A.cd .eql c 0 (A.cmp .geq a 4 λa=>d [.b a] b) (d [.b false] b)
def Vd:R:=A.Ci ls λa b=>A.pu b λb c=>A.D9 c λc d=>A.NL d λd e=>A.F4 142 [.v a,.i b,.b c] h λb c f=>A.F4 142 [.v a,.i d,.b e] b λb d e=>A.cmp .eql c d λg=>A.join (λa b=>A.w_ a (K [] b)) λi=>A.cond g (A.join (λa b=>A.w_ a (i [] b)) λc=>A.fp 14 a λd=>A.my (.lg cc 1 d) b λd=>A.D1 d λd g=>A.v9 g (A.cond d (A.fp 14 a λa=>A.heap (.st a [.bool true]) b λ_ a=>c [] a) (A.eqs [(.b f,.b e)] λd=>A.fp 14 a λa=>A.heap (.st a [.bool (!d)]) b λ_ a=>c [] a))) (A.c6 143 [.v a,.i c,.b f] b λb g=>A.cd .neq g 0 (A.c6 143 [.v a,.i d,.b e] b λb g=>A.cmp .neq g 0 λg=>A.join (λa b=>A.w_ a (i [] b)) λi=>A.cond g (A.join (λb g=>A.w_ b (A.fp 11 a λa=>A.lv a g λa=>A.eqs [(.b f,.b e)] λb=>A.j_ (BL 2 a c) λa=>A.heap (.st a [.int .i64 d,.bool (!b)]) g λ_ a=>i [] a)) λg=>A.fp 14 a λi=>A.my (.lg cc 1 i) b λi=>A.D1 i λi j=>A.v9 j (A.cond i (A.fp 14 a λa=>A.heap (.st a [.bool true]) b λ_ a=>g [] a) (A.c6 143 [.v a,.i c,.b f] b λb c=>A.c6 143 [.v a,.i d,.b e] b λb d=>A.cmp .neq c d λc=>A.fp 14 a λa=>A.heap (.st a [.bool c]) b λ_ a=>g [] a))) (A.c6 143 [.v a,.i c,.b f] b λb g=>A.cmp .neq g 0 λg=>A.join (λa b=>A.w_ a (i [] b)) λi=>A.cond g (A.fp 11 a λa=>A.lv a b λa=>A.eqs [(.b f,.b e)] λe=>A.j_ (BL 2 a d) λa=>A.heap (.st a [.int .i64 c,.bool (!e)]) b λ_ a=>i [] a) (A.fp 11 a λa=>A.lv a b λa=>A.eqs [(.b f,.b e)] λe=>A.j_ (BL 2 a c) λa=>A.heap (.st a [.int .i64 d,.bool (!e)]) b λ_ a=>i [] a))) (A.c6 143 [.v a,.i c,.b f] b λb g=>A.cmp .neq g 0 λg=>A.join (λa b=>A.w_ a (i [] b)) λi=>A.cond g (A.fp 11 a λa=>A.lv a b λa=>A.eqs [(.b f,.b e)] λe=>A.j_ (BL 2 a d) λa=>A.heap (.st a [.int .i64 c,.bool (!e)]) b λ_ a=>i [] a) (A.fp 11 a λa=>A.lv a b λa=>A.eqs [(.b f,.b e)] λe=>A.j_ (BL 2 a c) λa=>A.heap (.st a [.int .i64 d,.bool (!e)]) b λ_ a=>i [] a)))
def Ve:R:=A.Ci ls λa b=>A.k5 b λb c=>A.cd .lss b c (A.fp 10 a λa=>A.lv a h λa=>A.my (.fn (Fb cc 153 false (.int .i64 0) a (.agg ⟨[.int .i64 b,.int .i64 c]⟩) false)) h λa=>A.DE a λa=>K [.i a,.b false] h) (A.fp 10 a λa=>A.lv a h λa=>A.my (.fn (Fb cc 153 false (.int .i64 0) a (.agg ⟨[.int .i64 c,.int .i64 b]⟩) false)) h λa=>A.DE a λa=>K [.i a,.b true] h)
def Sv:R:=A.k0 ls λa=>A.ln a λb=>A.ln a λc=>A.j_ (Ex 3 a none (some b) (some c)) λa=>A.nC a (K [.v a] h)
def Sw:R:=A.k0 ls λa=>A.j_ (lr 1 a (.slice none 0 0)) λb=>A.cond b (K [.v (.slice none 0 0)] h) (A.new (.cells [] 3 true) h λb c=>A.av 3 16 (.slice (some ⟨b,0,some 13⟩) 0 1) a c λa b=>K [.v a] b)
def Sy:R:=A.k0 ls λa=>A.ln a λb=>A.ln a λc=>A.j_ (Ex 1 a none (some b) (some c)) λa=>A.nC a (K [.v a] h)
def Sz:R:=A.k0 ls λa=>A.j_ (lr 1 a (.slice none 0 0)) λb=>A.cond b (K [.v (.slice none 0 0)] h) (A.new (.cells [] 1 true) h λb c=>A.av 1 8 (.slice (some ⟨b,0,some 11⟩) 0 1) a c λa b=>K [.v a] b)
def SA:R:=A.Ci ls λa b=>A.pu b λb c=>A.D9 c λc d=>A.k0 d λd=>A.F4 142 [.v a,.i b,.b c] h λb c e=>A.join (λb e=>A.k6 b λb=>A.fp 12 a λf=>A.lv f e λf=>A.ix 1 f c 1 e λf=>A.DE f λf=>A.cmp .eql f 0 λf=>A.join (λd e=>A.w_ d (A.fp 12 a λa=>A.lv a e λa=>A.ix 1 a c 1 e λa=>A.DE a λa=>A.cmp .eql a b λa=>K [.b a] e)) λg=>A.cond f (A.fp 12 a λa=>A.lv a e λa=>A.j_ (BL 1 a c) λa=>A.heap (.st a [.int .i64 b]) e λ_ a=>A.j_ (lr 4 d (.pointer none)) λb=>A.join (λa b=>A.w_ a (g [] b)) λe=>A.cond (!b) (A.j_ (C5 d) λb=>A.nC b (A.lv b a λf=>A.new (.cells [.int .i64 c] 1 true) a λa c=>A.av 1 8 f (.slice (some ⟨a,0,some 11⟩) 1 2) c λc f=>A.j_ (C5 d) λd=>A.nC d (A.heap (.st d [c]) f λ_ c=>A.j_ (Sx.Dp [(.slice (some ⟨a,0,some 11⟩) 1 2,(0,b))]) λ_=>e [] c))) (e [] a)) (g [] e)) λa=>A.cond e (a [.i (-1)] b) (a [.i 1] b)
def Vf:R:=A.k0 ls λa=>A.fp 13 a λb=>A.lv b h λb=>A.ln b λc=>A.loop (λd e f=>A.k6 e λe=>A.cd .lss e c (A.ix 8 b e 8 f λb=>A.td .i64 b λb c=>A.D1 c λc g=>A.td .i64 g λg i=>A.D1 i λi j=>A.td .i64 j λj k=>A.D1 k λk l=>A.td .i64 l λl m=>A.D1 m λm n=>A.v9 n (A.loop (λf n o=>A.k5 n λn p=>A.cd .lss p 4 (A.j_ (E0 4 p) λ_=>A.j_ (ko [.i b,.b c,.i g,.b i,.i j,.b k,.i l,.b m] 0 [(p,2)] 2) λb=>A.NL b λb c=>A.c6 143 [.v a,.i b,.b c] o λa b=>A.pm n b λb=>A.pa p 1 λc=>f [.i b,.i c] a) (A.cd .lss n 0 (K [.b false] o) (A.pa e 1 λa=>d [.i a] o))) [.i 1,.i 0] f)) (K [.b true] f)) [.i 0] h
def f126:R:=A.k6 ls λa=>A.cmp .geq a 4294967296 λb=>A.join (λa b=>A.k5 a λa c=>A.cmp .geq a 65536 λd=>A.join (λa b=>A.k5 a λa c=>A.cmp .geq a 256 λd=>A.join (λa b=>A.k5 a λa c=>A.conv .u8 a λa=>A.j_ (Is (.mk ⟨[.ofNat 0,.ofNat 1,.ofNat 2,.ofNat 2,.ofNat 3,.ofNat 3,.ofNat 3,.ofNat 3,.ofNat 4,.ofNat 4,.ofNat 4,.ofNat 4,.ofNat 4,.ofNat 4,.ofNat 4,.ofNat 4,.ofNat 5,.ofNat 5,.ofNat 5,.ofNat 5,.ofNat 5,.ofNat 5,.ofNat 5,.ofNat 5,.ofNat 5,.ofNat 5,.ofNat 5,.ofNat 5,.ofNat 5,.ofNat 5,.ofNat 5,.ofNat 5,.ofNat 6,.ofNat 6,.ofNat 6,.ofNat 6,.ofNat 6,.ofNat 6,.ofNat 6,.ofNat 6,.ofNat 6,.ofNat 6,.ofNat 6,.ofNat 6,.ofNat 6,.ofNat 6,.ofNat 6,.ofNat 6,.ofNat 6,.ofNat 6,.ofNat 6,.ofNat 6,.ofNat 6,.ofNat 6,.ofNat 6,.ofNat 6,.ofNat 6,.ofNat 6,.ofNat 6,.ofNat 6,.ofNat 6,.ofNat 6,.ofNat 6,.ofNat 6,.ofNat 7,.ofNat 7,.ofNat 7,.ofNat 7,.ofNat 7,.ofNat 7,.ofNat 7,.ofNat 7,.ofNat 7,.ofNat 7,.ofNat 7,.ofNat 7,.ofNat 7,.ofNat 7,.ofNat 7,.ofNat 7,.ofNat 7,.ofNat 7,.ofNat 7,.ofNat 7,.ofNat 7,.ofNat 7,.ofNat 7,.ofNat 7,.ofNat 7,.ofNat 7,.ofNat 7,.ofNat 7,.ofNat 7,.ofNat 7,.ofNat 7,.ofNat 7,.ofNat 7,.ofNat 7,.ofNat 7,.ofNat 7,.ofNat 7,.ofNat 7,.ofNat 7,.ofNat 7,.ofNat 7,.ofNat 7,.ofNat 7,.ofNat 7,.ofNat 7,.ofNat 7,.ofNat 7,.ofNat 7,.ofNat 7,.ofNat 7,.ofNat 7,.ofNat 7,.ofNat 7,.ofNat 7,.ofNat 7,.ofNat 7,.ofNat 7,.ofNat 7,.ofNat 7,.ofNat 7,.ofNat 7,.ofNat 7,.ofNat 7,.ofNat 7,.ofNat 8,.ofNat 8,.ofNat 8,.ofNat 8,.ofNat 8,.ofNat 8,.ofNat 8,.ofNat 8,.ofNat 8,.ofNat 8,.ofNat 8,.ofNat 8,.ofNat 8,.ofNat 8,.ofNat 8,.ofNat 8,.ofNat 8,.ofNat 8,.ofNat 8,.ofNat 8,.ofNat 8,.ofNat 8,.ofNat 8,.ofNat 8,.ofNat 8,.ofNat 8,.ofNat 8,.ofNat 8,.ofNat 8,.ofNat 8,.ofNat 8,.ofNat 8,.ofNat 8,.ofNat 8,.ofNat 8,.ofNat 8,.ofNat 8,.ofNat 8,.ofNat 8,.ofNat 8,.ofNat 8,.ofNat 8,.ofNat 8,.ofNat 8,.ofNat 8,.ofNat 8,.ofNat 8,.ofNat 8,.ofNat 8,.ofNat 8,.ofNat 8,.ofNat 8,.ofNat 8,.ofNat 8,.ofNat 8,.ofNat 8,.ofNat 8,.ofNat 8,.ofNat 8,.ofNat 8,.ofNat 8,.ofNat 8,.ofNat 8,.ofNat 8,.ofNat 8,.ofNat 8,.ofNat 8,.ofNat 8,.ofNat 8,.ofNat 8,.ofNat 8,.ofNat 8,.ofNat 8,.ofNat 8,.ofNat 8,.ofNat 8,.ofNat 8,.ofNat 8,.ofNat 8,.ofNat 8,.ofNat 8,.ofNat 8,.ofNat 8,.ofNat 8,.ofNat 8,.ofNat 8,.ofNat 8,.ofNat 8,.ofNat 8,.ofNat 8,.ofNat 8,.ofNat 8,.ofNat 8,.ofNat 8,.ofNat 8,.ofNat 8,.ofNat 8,.ofNat 8,.ofNat 8,.ofNat 8,.ofNat 8,.ofNat 8,.ofNat 8,.ofNat 8,.ofNat 8,.ofNat 8,.ofNat 8,.ofNat 8,.ofNat 8,.ofNat 8,.ofNat 8,.ofNat 8,.ofNat 8,.ofNat 8,.ofNat 8,.ofNat 8,.ofNat 8,.ofNat 8,.ofNat 8,.ofNat 8,.ofNat 8,.ofNat 8,.ofNat 8,.ofNat 8,.ofNat 8,.ofNat 8,.ofNat 8,.ofNat 8]⟩) a) λa=>A.ci a λa=>A.pa c a λa=>K [.i a] b) λe=>A.cond d (A.FK .shr .u64 a .u64 8 λa=>A.pa c 8 λc=>e [.i a,.i c] b) (e [.i a,.i c] b)) λe=>A.cond d (A.FK .shr .u64 a .u64 16 λa=>A.pa c 16 λc=>e [.i a,.i c] b) (e [.i a,.i c] b)) λc=>A.cond b (A.FK .shr .u64 a .u64 32 λa=>c [.i a,.i 32] h) (c [.i a,.i 0] h)
def SB:R:=A.I_ ls λa b c d e f=>A.c4 63 [.i a,.i b,.i c,.i d,.i e,.i f] h λa b c d=>A.cd .eql b 4 (A.pq c 2 λb=>K [.i 1,.i b] a) (A.cd .eql b 6 (A.pq d 2 λb=>K [.i 2,.i b] a) (A.cd .eql b 5 (K [.i 3,.i c] a) (K [.i 4,.i d] a)))
def SC:R:=A.k6 ls λa=>A.cmp .neq a a λa=>K [.b a] h
def GT:R:=A.k4 ls λa b c=>A.ci a λa=>A.cd .geq a 8 (K [.i 1] h) (A.c3 149 [.i b] h λa d=>A.cond d (K [.i 1] a) (A.c3 149 [.i c] a λa d=>A.cond d (K [.i 1] a) (A.pa b c λb=>A.pr b 2 λb=>A.cd .neq b 0 (K [.i 1] a) (K [.i 0] a))))
def Vg:R:=A.k1 ls λa b c=>A.new (.cells [.int .i64 a,.int .i64 b,c] 3 true) h λa b=>A.my (.lg cc 3 (.pointer (some ⟨a,0,none⟩))) b λc=>A.td .i64 c λc d=>A.td .i64 d λd e=>A.BM e λe f=>A.nC e (A.v9 f (A.c0 150 [.i c,.i d,.v e] b λb c=>A.new (.cells [.map none] 1 true) b λb d=>A.heap (.st (.pointer (some ⟨b,0,none⟩)) [c]) d λ_ c=>A.j_ (Dm 0 (.pointer (some ⟨a,0,none⟩))) λd=>A.nC d (A.my (.lg cc 2 d) c λd=>A.Hb d λd e=>A.c6 151 [.i d,.i e] c λc d=>A.j_ (DX d d) λ_=>A.new (.cells (aL [.int .u8 0,.int .i64 0,.int .i64 0] (Int.toNat d)) 3 true) c λc e=>A.new (.cells [.slice none 0 0] 1 true) e λe f=>A.heap (.st (.pointer (some ⟨e,0,none⟩)) [.slice (some ⟨c,0,some 13⟩) (Int.toNat d) ((Int.toNat d)+1)]) f λ_ c=>A.lv (.pointer (some ⟨e,0,none⟩)) c λd=>A.ln d λd=>A.j_ (DX d d) λ_=>A.new (.cells (aL [.bool false] (Int.toNat d)) 1 true) c λc f=>A.nC (.func (.func 152) ⟨[]⟩ ⟨[.pointer (some ⟨a,0,none⟩),.pointer (some ⟨b,0,none⟩),.pointer (some ⟨e,0,none⟩)]⟩) (A.j_ (BL 1 (.slice (some ⟨c,0,some 11⟩) (Int.toNat d) ((Int.toNat d)+1)) 0) λg=>A.heap (.st g [.bool true]) f λ_ f=>A.new (.cells [.int .i64 0] 1 true) f λf g=>A.loop (λf g i=>A.k0 g λg=>A.ln g λj=>A.cd .gtr j 0 (A.j_ (BL 1 g 0) λj=>A.my (.lg cc 1 j) i λj=>A.DE j λj=>A.j_ (Ex 1 g (some 1) none none) λg=>A.nC g (A.loop (λg i k=>A.k2 i λi l=>A.cd .lss l 3 (A.join (λa b=>A.k0 a λa=>A.z_ .add .u8 l 1 λc=>g [.v a,.i c] b) λf=>A.j_ (Dm 0 (.pointer (some ⟨a,0,none⟩))) λg=>A.nC g (A.my (.lg cc 2 g) k λg=>A.Hb g λg m=>A.c5 78 [.i g,.i m,.i j,.i l] k λg k m=>A.cd .neq m 0 (f [.v i] g) (A.BO (.func (.func 152) ⟨[]⟩ ⟨[.pointer (some ⟨a,0,none⟩),.pointer (some ⟨b,0,none⟩),.pointer (some ⟨e,0,none⟩)]⟩) [.int .i64 j,.int .u8 l] [.agg [.i .u8,.i .i64,.i .i64]] g λa b=>A.k4 a λa g j=>A.j_ (BL 1 (.slice (some ⟨c,0,some 11⟩) (Int.toNat d) ((Int.toNat d)+1)) k) λl=>A.my (.lg cc 1 l) b λl=>A.D1 l λl m=>A.v9 m (A.join (λb c=>A.k0 b λb=>A.lv (.pointer (some ⟨e,0,none⟩)) c λd=>A.ix 3 d k 3 c λd=>A.k9 d λd e i=>A.eqs [(.i d,.i a),(.i e,.i g),(.i i,.i j)] λa=>A.cond (!a) (K [.v (.slice none 0 0),.i 11] c) (f [.v b] c)) λf=>A.cond (!l) (A.lv (.pointer (some ⟨e,0,none⟩)) b λe=>A.j_ (BL 3 e k) λe=>A.heap (.st e [.int .u8 a,.int .i64 g,.int .i64 j]) b λ_ a=>A.j_ (BL 1 (.slice (some ⟨c,0,some 11⟩) (Int.toNat d) ((Int.toNat d)+1)) k) λb=>A.heap (.st b [.bool true]) a λ_ a=>A.new (.cells [.int .i64 k] 1 true) a λa b=>A.av 1 8 i (.slice (some ⟨a,0,some 11⟩) 1 2) b λa b=>f [.v a] b) (f [.v i] b))))) (f [.v i] k)) [.v g,.i 0] i)) (A.lv (.pointer (some ⟨e,0,none⟩)) i λa=>K [.v a,.i 0] i)) [.v (.slice (some ⟨f,0,some 11⟩) 1 2)] g))))
def Se:R:=A.I_ ls λa b c d e f=>A.c6 129 [.i a,.i b,.i c] h λg i=>A.cd .neq i 0 (K [.i 0,.i 0,.i 0,.i 1] g) (A.c6 129 [.i d,.i e,.i f] g λg i=>A.cd .neq i 0 (K [.i 0,.i 0,.i 0,.i 1] g) (A.j_ (E0 8 d) λ_=>A.j_ (qc BP 0 [(d,4)] 4) λi=>A.td .i64 i λi j=>A.td .i64 j λj k=>A.Hb k λk l=>A.c5 155 [.i i,.i j,.i k,.i l,.i b,.i c] g λb c g=>A.j_ (E0 8 a) λ_=>A.j_ (qc BP 0 [(a,4)] 4) λa=>A.td .i64 a λa i=>A.td .i64 i λi j=>A.Hb j λj k=>A.j_ (E0 8 d) λ_=>A.j_ (qc BP 0 [(d,4)] 4) λd=>A.td .i64 d λd l=>A.td .i64 l λl m=>A.Hb m λm n=>A.J3 158 [.i a,.i i,.i j,.i k,.i d,.i l,.i m,.i n] b λa b d i j=>A.c6 157 [.i b,.i d,.i i,.i j] a λa b=>A.pa c e λc=>A.pa g f λd=>A.J3 156 [.i b,.i c,.i d] a λa b c d e=>K [.i b,.i c,.i d,.i e] a))
def f132:R:=A.k14 ls λa b c d=>A.pa b 1 λe=>A.loop (λe f g=>A.k6 f λf=>A.cd .lss f c (A.join (λa b=>A.w_ a (A.pa f 1 λa=>e [.i a] b)) λc=>A.loop (λe f g=>A.k6 f λf=>A.cd .gtr f b (A.ix 3 a f 3 g λb=>A.FM b λb i j=>A.ps f 1 λk=>A.ix 3 a k 3 g λk=>A.FM k λk l m=>A.BO d [.agg ⟨[.int .i64 b,.int .i64 i,.int .u8 j]⟩,.agg ⟨[.int .i64 k,.int .i64 l,.int .u8 m]⟩] [.leaf (.i .i64)] g λb d=>A.k6 b λb=>A.cd .lss b 0 (A.ps f 1 λb=>A.ps f 1 λc=>A.ix 3 a c 3 d λc=>A.FM c λc g i=>A.ix 3 a f 3 d λj=>A.FM j λj k l=>A.j_ (BL 3 a f) λm=>A.heap (.st m [.int .i64 c,.int .i64 g,.int .u8 i]) d λ_ c=>A.j_ (BL 3 a b) λa=>A.heap (.st a [.int .i64 j,.int .i64 k,.int .u8 l]) c λ_ a=>A.ps f 1 λb=>e [.i b] a) (c [] d)) (c [] g)) [.i f] g) (K [] g)) [.i e] h
def SD:R:=A.I_ ls λa b c d e f=>A.c5 162 [.i d,.i e,.i f] h λd e g=>A.j_ (E0 4 f) λ_=>A.j_ (qc w7 0 [(f,17)] 2) λf=>A.Hb f λf i=>A.c4 163 [.i a,.i b,.i c,.i e,.i g] d λb c d _=>A.c4 163 [.i a,.i 0,.i 0,.i f,.i i] b λa b e _=>A.z_ .and .i64 c 1 λf=>A.ps c f λc=>A.pq c 2 λc=>A.z_ .and .i64 d 1 λf=>A.ps d f λd=>A.pq d 2 λd=>A.loop (λa c d=>A.FN c λc f g i=>A.cd .lss c 4 (A.j_ (E0 4 c) λ_=>A.j_ (ko [.i 0,.i (-1),.i 2,.i 0,.i 0,.i (-1),.i 2,.i 0,.i 0,.i 1,.i 0,.i 0,.i 3,.i 0,.i 0,.i 2,.i 0,.i 1,.i 0,.i 1,.i 1,.i 1,.i 0,.i 3,.i 0,.i 0,.i 0,.i 0,.i 0,.i 2,.i 2,.i 2,.i 2,.i 0,.i 0,.i 1,.i 2,.i 1,.i 0,.i 1,.i 0,.i 0,.i 0,.i 3,.i 0,.i 0,.i 1,.i 2,.i 2,.i 0,.i 2,.i (-1),.i 0,.i 1,.i 0,.i (-1),.i 0,.i 1,.i 0,.i 0,.i 2,.i 0,.i 0,.i 0,.i 0,.i 0,.i 0,.i 2] 0 [(c,17)] 17) λj=>A.pu j λj k=>A.pu k λk l=>A.pu l λ_ l=>A.pu l λ_ l=>A.pu l λ_ l=>A.pu l λ_ l=>A.pu l λ_ l=>A.pu l λ_ l=>A.pu l λ_ l=>A.pu l λ_ l=>A.pu l λ_ l=>A.I_ l λ_ _ _ _ _ _=>A.eqs [(.i j,.i b),(.i k,.i e)] λb=>A.join (λb d=>A.k4 b λb e f=>A.pa c 1 λc=>a [.i c,.i b,.i e,.i f] d) λa=>A.cond b (A.conv .u8 c λb=>a [.i f,.i g,.i b] d) (a [.i f,.i g,.i i] d)) (K [.i f,.i g,.i i] d)) [.i 0,.i c,.i d,.i 0] a
def Vh:R:=A.pu ls λa b=>A.pu b λb c=>A.Ci c λc d=>A.k5 d λd e=>A.c6 16 [.i a,.i b,.v c] h λf g=>A.cd .neq g 0 (K [.i 0,.i 0,.i 0,.b false,.i g] f) (A.c4 36 [.i a,.i b,.i d,.i e] f λa b d e=>A.cd .neq e 0 (K [.i 0,.i 0,.i 0,.b false,.i e] a) (A.F4 164 [.v c,.i b,.i d] a λa c e=>K [.i b,.i d,.i c,.b e,.i 0] a))
def Vi:R:=A.Ci ls λa b=>A.NL b λb c=>A.loop (λb c d=>A.NL c λc e=>A.fp 11 a λf=>A.lv f d λf=>A.fx 2 f c 0 1 d λf=>A.DE f λf=>A.cd .neq f c (A.fp 11 a λa=>A.lv a d λa=>A.ix 2 a c 2 d λa=>A.td .i64 a λa c=>A.D1 c λc f=>A.v9 f (A.eqs [(.b e,.b c)] λc=>b [.i a,.b (!c)] d)) (K [.i c,.b e] d)) [.i b,.b c] h
def Vj:R:=A.Ci ls λa b=>A.NL b λb c=>A.F4 142 [.v a,.i b,.b c] h λb c d=>A.cond d (A.fp 12 a λa=>A.lv a b λa=>A.ix 1 a c 1 b λa=>A.DE a λa=>A.ps 0 a λa=>K [.i a] b) (A.fp 12 a λa=>A.lv a b λa=>A.ix 1 a c 1 b λa=>A.DE a λa=>K [.i a] b)
def Sf:R:=A.k6 ls λa=>A.join (λa b=>A.k3 a λa=>K [.b a] b) λb=>A.cd .lss a (-16384) (b [.b true] h) (A.cmp .gtr a 16384 λa=>b [.b a] h)
def Vk:R:=A.k1 ls λ_ _ a=>A.ln a λ_=>A.new (.map [] 0) h λb c=>A.ln a λd=>A.loop (λc e f=>A.k6 e λe=>A.cd .lss e d (A.ix 3 a e 3 f λa=>A.MP a λa d _=>A.heap (.fn (FO cc 94 (.map (some b)) (.agg ⟨[.int .i64 a,.int .u8 d]⟩) (.bool true))) f λ_ a=>A.pa e 1 λb=>c [.i b] a) (K [.v (.map (some b))] f)) [.i 0] c
def f151:R:=A.k5 ls λa b=>A.c6 32 [.i a,.i b] h λc d=>A.cd .neq d 0 (K [.i 0] c) (A.pm 4 a λa=>A.pm a b λa=>K [.i a] c)
def Vl:R:=A.pu ls λa b=>A.pu b λb c=>A.Ci c λc d=>A.Ci d λd e=>A.k0 e λe=>A.j_ (Dm 0 c) λf=>A.nC f (A.my (.lg cc 2 f) h λf=>A.Hb f λf g=>A.c4 36 [.i f,.i g,.i a,.i b] h λb f g _=>A.lv d b λd=>A.my (.fn (Fb cc 94 false (.bool false) d (.agg ⟨[.int .i64 f,.int .u8 g]⟩) false)) b λd=>A.D1 d λd i=>A.v9 i (A.cond (!d) (A.lv e b λc=>A.ix 3 c a 3 b λa=>A.k9 a λa c d=>K [.i a,.i c,.i d] b) (A.j_ (Dm 0 c) λc=>A.nC c (A.my (.lg cc 2 c) b λc=>A.Hb c λc d=>A.c4 153 [.i c,.i d,.i f,.i g] b λb c d _=>A.J3 154 [.i c,.i d] b λb c d f _=>A.lv e b λe=>A.ix 3 e a 3 b λa=>A.k9 a λa e g=>A.J3 131 [.i c,.i d,.i f,.i a,.i e,.i g] b λa b c d _=>K [.i b,.i c,.i d] a))))
def f153:R:=A.FN ls λa b c d=>A.J3 166 [.i a,.i b,.i c,.i d] h λa b c e f=>A.cd .neq f 0 (K [.i 0,.i 0,.i f] a) (A.c4 167 [.i b,.i c,.i e,.i d] a λa b c d=>K [.i b,.i c,.i d] a)
def SE:R:=A.k5 ls λa b=>A.c6 168 [.i a,.i b] h λc d=>A.cd .neq d 0 (K [.i 0,.i 0,.i 0,.i 1] c) (A.cd .eql a 1 (A.pm 2 b λa=>K [.i 4,.i a,.i 0,.i 0] c) (A.cd .eql a 2 (A.pm 2 b λa=>K [.i 6,.i 0,.i a,.i 0] c) (A.cd .eql a 3 (K [.i 5,.i b,.i b,.i 0] c) (A.ps 0 b λa=>K [.i 7,.i a,.i b,.i 0] c))))
def SF:R:=A.I_ ls λa b c d e f=>A.pm a e λa=>A.pm b f λb=>A.pa a b λa=>A.pm c e λb=>A.pm d f λc=>A.pa b c λb=>K [.i a,.i b] h
def Si:R:=A.k4 ls λa b c=>A.c6 129 [.i a,.i b,.i c] h λd e=>A.cd .neq e 0 (K [.i 0,.i 0,.i 0,.i 3] d) (K [.i a,.i b,.i c,.i 0] d)
def f157:R:=A.FN ls λa b c d=>A.loop (λe f g=>A.k6 f λf=>A.cd .lss f 8 (A.j_ (E0 8 f) λ_=>A.j_ (ko [.i 1,.i 0,.i 0,.i 1,.i 0,.i (-1),.i 1,.i 0,.i (-1),.i 0,.i 0,.i (-1),.i 0,.i 1,.i (-1),.i 0,.i (-1),.i 0,.i 0,.i 1,.i 0,.i (-1),.i (-1),.i 0,.i 1,.i 0,.i 0,.i (-1),.i 0,.i 1,.i 1,.i 0] 0 [(f,4)] 4) λi=>A.FN i λi j k l=>A.eqs [(.i i,.i a),(.i j,.i b),(.i k,.i c),(.i l,.i d)] λa=>A.cond a (A.conv .u8 f λa=>K [.i a] g) (A.pa f 1 λa=>e [.i a] g)) (K [.i 0] g)) [.i 0] h
def f158:R:=A.pu ls λa b=>A.pu b λb c=>A.I_ c λc d e f g i=>A.c5 155 [.i e,.i f,.i g,.i i,.i a,.i c] h λa c j=>A.c5 155 [.i e,.i f,.i g,.i i,.i b,.i d] a λa b d=>K [.i c,.i b,.i j,.i d] a
def SG:R:=A.k4 ls λa b _=>A.pm 2 a λa=>A.pa a 1 λa=>A.pm 2 b λb=>A.pa b 1 λb=>K [.i a,.i b] h
def SH:R:=A.pu ls λa b=>A.FN b λb c d e=>A.c6 129 [.i a,.i b,.i c] h λf g=>A.cd .neq g 0 (K [.i 0,.i 0,.i 1] f) (A.c6 170 [.i d,.i e] f λf g=>A.cd .neq g 0 (K [.i 0,.i 0,.i 1] f) (A.j_ (E0 8 a) λ_=>A.j_ (qc BP 0 [(a,4)] 4) λa=>A.td .i64 a λa g=>A.td .i64 g λg i=>A.Hb i λi j=>A.c5 155 [.i a,.i g,.i i,.i j,.i d,.i e] f λa d e=>A.pm 2 b λb=>A.pa d b λb=>A.pm 2 c λc=>A.pa e c λc=>A.c6 170 [.i b,.i c] a λa d=>A.cd .neq d 0 (K [.i 0,.i 0,.i 3] a) (K [.i b,.i c,.i 0] a)))
def Vm:R:=A.Ci ls λa b=>A.k5 b λb c=>A.F4 171 [.v a,.i b,.i c,.v (.func (.func 172) ⟨[]⟩ ⟨[]⟩)] h λa b c=>K [.i b,.b c] a
def f166:R:=A.FN ls λa b c d=>A.c6 32 [.i a,.i b] h λe f=>A.cd .neq f 0 (K [.i 0,.i 0,.i 0,.i f] e) (A.c4 36 [.i a,.i b,.i c,.i d] e λe f g i=>A.cd .neq i 0 (K [.i 0,.i 0,.i 0,.i 7] e) (A.eqs [(.i f,.i c),(.i g,.i d)] λd=>A.cond (!d) (K [.i 0,.i 0,.i 0,.i 7] e) (A.c4 80 [.i a,.i b,.i c] e λa b c d=>K [.i b,.i c,.i d,.i 0] a)))
def f167:R:=A.FN ls λa b c d=>A.c6 81 [.i a,.i b,.i c] h λe f=>A.cd .neq f 0 (K [.i 0,.i 0,.i 1] e) (A.cd .gtr d 2 (K [.i 0,.i 0,.i 1] e) (A.j_ (E0 4 c) λ_=>A.j_ (qc w7 0 [(c,17)] 17) λc=>A.td .i64 c λ_ c=>A.td .i64 c λ_ c=>A.td .u8 c λc f=>A.td .i64 f λf g=>A.td .i64 g λ_ g=>A.td .i64 g λ_ g=>A.td .u8 g λ_ g=>A.td .i64 g λ_ g=>A.td .i64 g λ_ g=>A.td .u8 g λ_ g=>A.td .i64 g λ_ g=>A.td .i64 g λ_ g=>A.td .u8 g λ_ g=>A.td .i64 g λ_ g=>A.td .i64 g λ_ g=>A.Hb g λ_ _=>A.pa a f λg=>A.cmp .eql d 1 λi=>A.join (λa b=>A.k5 a λa c=>A.c6 168 [.i a,.i c] b λb d=>A.cd .neq d 0 (K [.i 0,.i 0,.i 3] b) (K [.i a,.i c,.i 0] b)) λj=>A.cond i (A.pa a b λa=>A.pa a 1 λa=>j [.i 3,.i a] e) (A.cmp .eql d 2 λd=>A.join (λa b=>A.k5 a λa c=>j [.i a,.i c] b) λi=>A.cond d (A.ps b a λa=>i [.i 4,.i a] e) (A.cmp .eql c 2 λa=>A.join (λa b=>A.k5 a λa c=>i [.i a,.i c] b) λd=>A.cond a (A.pa b f λa=>d [.i c,.i a] e) (d [.i c,.i g] e)))))
def SI:R:=A.k5 ls λa b=>A.cd .lss a 1 (K [.i 1] h) (A.cd .gtr a 4 (K [.i 1] h) (A.cd .lss b (-4096) (K [.i 1] h) (A.cd .gtr b 4096 (K [.i 1] h) (K [.i 0] h))))
def SJ:R:=A.k5 ls λa b=>A.cd .lss a (-65536) (K [.i 1] h) (A.cd .gtr a 65536 (K [.i 1] h) (A.cd .lss b (-65536) (K [.i 1] h) (A.cd .gtr b 65536 (K [.i 1] h) (K [.i 0] h))))
def Vn:R:=A.k14 ls λa b c d=>A.ln a λe=>A.loop (λf g i=>A.k5 g λg j=>A.cd .lss g j (A.pa g j λe=>A.conv .u64 e λe=>A.FK .shr .u64 e .u64 1 λe=>A.ci e λe=>A.ix 3 a e 3 i λa=>A.MP a λa k l=>A.BO d [.agg ⟨[.int .i64 a,.int .u8 k,.int .u8 l]⟩,.agg ⟨[.int .i64 b,.int .u8 c]⟩] [.leaf (.i .i64)] i λa b=>A.k6 a λa=>A.cmp .lss a 0 λa=>A.join (λa b=>A.k5 a λa c=>f [.i a,.i c] b) λc=>A.cond a (A.pa e 1 λa=>c [.i a,.i j] b) (c [.i g,.i e] b)) (A.join (λa b=>A.NL a λa c=>K [.i a,.b c] b) λf=>A.cd .lss g e (A.ix 3 a g 3 i λa=>A.MP a λa e j=>A.BO d [.agg ⟨[.int .i64 a,.int .u8 e,.int .u8 j]⟩,.agg ⟨[.int .i64 b,.int .u8 c]⟩] [.leaf (.i .i64)] i λa b=>A.k6 a λa=>A.cmp .eql a 0 λa=>f [.i g,.b a] b) (f [.i g,.b false] i))) [.i 0,.i e] h
def SM:R:=A.pu ls λa b=>A.FN b λb c d e=>A.c5 37 [.i a,.i b,.i c] h λa b c=>A.c6 38 [.i b,.i c,.i d,.i e] a λa b=>K [.i b] a
end
inductive Dz where
 |e
 |o (p:Dz)
 |i (p:Dz)
inductive Tr(i7:Type) where
 |leaf
 |node (v:i7) (l r:Tr i7)
def Dz.num:Dz->Nat
 | .e=>1
 | .o p=>2*p.num
 | .i p=>2*p.num+1
def Q0:Nat->Nat->Dz
 |0,_=>.e
 |f+1,n=>if Nat.ble n 1 then .e else if Nat.beq (n%2) 0 then .o (Q0 f (n / 2))else .i (Q0 f (n / 2))
def cE(n:Nat):Dz:=Q0 (n+1) (n+1)
def Dz.get{i7:Type}(d:i7)(p:Dz):Tr i7->i7:=
 Dz.rec (motive:=λ_=>Tr i7->i7)
  (λt=>Tr.casesOn t d λv _ _=>v)
  (λ_ a t=>Tr.casesOn t d λ_ l _=>a l)
  (λ_ a t=>Tr.casesOn t d λ_ _ r=>a r) p
def b6:Int->Int->Bool
 | .ofNat a,.ofNat b=>Nat.beq a b
 | .negSucc a,.negSucc b=>Nat.beq a b
 |_,_=>false
def I':TL->Nat
 | .i8=>127
 | .i16=>32767
 | .i32=>2147483647
 | .i64=>9223372036854775807
 | .u8=>255
 | .u16=>65535
 | .u32=>4294967295
 | .u64=>18446744073709551615
def Sj(k:TL):Int->Bool
 | .ofNat n=>Nat.ble n (I' k)
 | .negSucc n=>k.signed&&Nat.ble n (I' k)
def Aa:∀(f n:Nat),n<=f->1<=n->(Q0 f n).num=n
 |0,n,h,h1=>a_
 |f+1,n,h,h1=>by
  unfold Q0;by_cases d:n<=1
  .have:n=1:=a_;subst this;rfl
  .have c:Nat.ble n 1=false:=by
    rw[←Gj,HB];exact d
   rw[c];have b:=Aa f (n / 2) a_ a_;by_cases a:n%2=0
   .simp[a,Dz.num,b];omega
   .simp[a,Dz.num,b];omega
def rP(n:Nat):(cE n).num=n+1:=Aa _ _ (A9 _) a_
def mz{a b:Nat}(h:cE a=cE b):a=b:=by
 have:=congrArg Dz.num h;rw[rP,rP]at this;omega
def Dz.set{i7:Type}(d:i7):Dz->Tr i7->i7->Tr i7
 | .e,.leaf,x=>.node x .leaf .leaf
 | .e,.node _ l r,x=>.node x l r
 | .o p,.leaf,x=>.node d (Dz.set d p .leaf x) .leaf
 | .o p,.node v l r,x=>.node v (Dz.set d p l x) r
 | .i p,.leaf,x=>.node d .leaf (Dz.set d p .leaf x)
 | .i p,.node v l r,x=>.node v l (Dz.set d p r x)
def Dz.Ep{i7:Type}(d:i7)(p:Dz):p.get d .leaf=d:=by cases p<;>rfl
def Dz.Cs{i7:Type}(d:i7):∀(p:Dz) (t:Tr i7) (x:i7),p.get d (p.set d t x)=x
 | .e,t,x=>by cases t<;>rfl
 | .o p,t,x=>by
  cases t with
  |leaf=>exact Dz.Cs d p .leaf x
  |node v l r=>exact Dz.Cs d p l x
 | .i p,t,x=>by
  cases t with
  |leaf=>exact Dz.Cs d p .leaf x
  |node v l r=>exact Dz.Cs d p r x
def Dz.C3{i7:Type}(d:i7):∀(p q:Dz) (t:Tr i7) (x:i7),q≠p->q.get d (p.set d t x)=q.get d t
 | .e,q,t,x,h=>by cases q<;>cases t<;>first|rfl|exact absurd rfl h|exact Dz.Ep d _
 | .o p,q,t,x,h=>by
  cases q with
  |e=>cases t<;>rfl
  |o q=>
   have a:q≠p:=λe=>h (e▸rfl);cases t with
   |leaf=>exact(Dz.C3 d p q .leaf x a).trans (Dz.Ep d q)
   |node v l r=>exact Dz.C3 d p q l x a
  |i q=>
   cases t with
   |leaf=>exact Dz.Ep d q
   |node v l r=>rfl
 | .i p,q,t,x,h=>by
  cases q with
  |e=>cases t<;>rfl
  |i q=>
   have a:q≠p:=λe=>h (e▸rfl);cases t with
   |leaf=>exact(Dz.C3 d p q .leaf x a).trans (Dz.Ep d q)
   |node v l r=>exact Dz.C3 d p q r x a
  |o q=>
   cases t with
   |leaf=>exact Dz.Ep d q
   |node v l r=>rfl
def Kd{a b:Int}:b6 a b=true↔a=b:=by
 cases a<;>cases b<;>simp[b6]<;>omega
def Ph{k:TL}{c:Int}(h:Sj k c=true):(k.signed=true->-(I' k:Int) - 1<=c)/\(k.signed=false->0<=c)/\c<=I' k:=by
 cases c with
 |ofNat n=>
  simp only[Sj,HB]at h;refine⟨λ_=>?_,λ_=>?_,?_⟩<;>simp<;>omega
 |negSucc n=>
  simp only[Sj,vd,HB]at h;refine⟨λ_=>?_,λa=>?_,?_⟩
  .omega
  .rw[h.1]at a;cases a
  .omega
def ve{k:TL}{c:Int}(h:Sj k c=true):k.wrap c=c:=by
 obtain⟨a,b,d⟩:=Ph h;cases k<;>simp only[IntKind.signed,I',forall_const,reduceCtorEq,false_implies]at a b d
 .exact Go.IntWalk.i8_in c a_
 .exact Go.IntWalk.i16_in c a_
 .exact Go.IntWalk.i32_in c a_
 .exact Go.IntWalk.i64_in c a_
 .exact Go.IntWalk.u8_in c a_
 .exact Go.IntWalk.u16_in c a_
 .exact Go.IntWalk.u32_in c a_
 .exact Go.IntWalk.u64_in c a_
section
abbrev _root_.TE:=List Int
variable [Co] {j7:TE}
def qS(a:BinOp)(x y:Int):Option Bool:=
 match a with
 | .eql=>some (x==y)
 | .neq=>some (x != y)
 | .lss=>some (decide (x<y))
 | .leq=>some (decide (x<=y))
 | .gtr=>some (decide (x > y))
 | .geq=>some (decide (x ≥ y))
 |_=>none
def sn(a:BinOp)(k:TL)(x y n:Int):Prop:=∀(P:TI) (t:TP) (w:TS),(binOp a t (.int k x) (.int k y)).run P w = .ok (.int k n) w
def Ov{k:TL}(x:Int):((BitVec.ofInt k.bits x &&& BitVec.ofInt k.bits 1).toNat:Int)=x%2:=by
 have a:k.bits=k.bits - 1+1:=by cases k<;>rfl
 generalize k.bits - 1=n at a;rw[a];have b:(BitVec.ofInt (n+1) 1).toNat=1:=by
  simp
 rw[BitVec.toNat_and,b,Nat.and_one_is_mod,BitVec.toNat_ofInt];have d:(0:Int)<2 ^ (n+1):=Int.pow_pos a_;have e:(2:Int) ^ (n+1)=2*2 ^ n:=a_;have c:0<=x%(2 ^ (n+1):Int):=Int.emod_nonneg _ a_;have:((x%((2 ^ (n+1):Nat):Int)).toNat%2:Nat)=((x%(2 ^ (n+1):Int))%2:Int):=by
  grind
 simp_all
def qi{k:TL}{x n:Int}(d:x%2=n):sn .and k x 1 n:=by
 intro P t w;have e:k.wrap n=n:=ve (by
  have a:0<=n:=a_;have b:n<=1:=a_;obtain⟨m,rfl⟩ : ∃m:Nat,n=m:=⟨n.toNat,a_⟩;show Nat.ble m (I' k)=true;rw[HB];cases k<;>simp only[I']<;>omega)
 have c:=Ov (k:=k) x;simp only[binOp,ne_eq,not_true_eq_false,if_false,Op.intBits]
 simp_all
end
section
variable [Co] {j7:TE}
def qv(k:TL)(x:Int):k.wrap (x%(2 ^ k.bits:Int))=k.wrap x:=by
 unfold IntKind.wrap
 simp_all
def xX{k:TL}(m n:Nat):sn .and k m n (k.wrap (Nat.land m n:Nat)):=by
 intro P t w;simp only[binOp,ne_eq,not_true_eq_false,if_false,Op.intBits];show Result.ok (Value.int k (k.wrap _)) w=_;rw[←qv k (Nat.land m n:Nat)]
 congr 3
 have b:∀x:Nat,(BitVec.ofInt k.bits (x:Int)).toNat=x%2 ^ k.bits:=λx=>by
  simp_all
 have a:(BitVec.ofInt k.bits (m:Int) &&& BitVec.ofInt k.bits (n:Int)).toNat=(m &&& n)%2 ^ k.bits:=by
  grind
 rw[a];simp
def ya{k:TL}(m n:Nat):sn .xor k m n (k.wrap (Nat.xor m n:Nat)):=by
 intro P t w;simp only[binOp,ne_eq,not_true_eq_false,if_false,Op.intBits];show Result.ok (Value.int k (k.wrap _)) w=_;rw[←qv k (Nat.xor m n:Nat)]
 congr 3
 have b:∀x:Nat,(BitVec.ofInt k.bits (x:Int)).toNat=x%2 ^ k.bits:=λx=>by
  simp_all
 have a:(BitVec.ofInt k.bits (m:Int) ^^^ BitVec.ofInt k.bits (n:Int)).toNat=(m ^^^ n)%2 ^ k.bits:=by
  grind
 rw[a];simp
def By{k:TL}(m n:Nat):sn .or k m n (k.wrap (Nat.lor m n:Nat)):=by
 intro P t w;simp only[binOp,ne_eq,not_true_eq_false,if_false,Op.intBits];show Result.ok (Value.int k (k.wrap _)) w=_;rw[←qv k (Nat.lor m n:Nat)]
 congr 3
 have b:∀x:Nat,(BitVec.ofInt k.bits (x:Int)).toNat=x%2 ^ k.bits:=λx=>by
  simp_all
 have a:(BitVec.ofInt k.bits (m:Int) ||| BitVec.ofInt k.bits (n:Int)).toNat=(m ||| n)%2 ^ k.bits:=by
  grind
 rw[a];simp
end
section
variable {R:Type}
def eS{i7:Type}(x:i7):∀(l:List i7) (i:Nat) (k:List i7->R),E9 x l i k=k (l.set i x)
 | [],_,_=>rfl
 |_ :: _,0,_=>rfl
 |a :: l,i+1,k=>eS x l i λl=>k (a :: l)
def wS(n:Nat)(K:Nat->R):tb n K=K n:=by cases n<;>rfl
end
def SL.i_:SL->Prop
 | .v x=>aF x=true
 |_=>True
def S0.i_(x:S0):Prop:=∀l∈x.cells,l.i_
def SV.gd:SV->Prop
 | .st x=>x.i_
 | .JK xs=>(∀x∈xs,x.i_)/\2<=xs.length
 | .no=>False
 |_=>True
def eH{x:TR}:aF x=true↔n_ x=true/\aS x=true/\aO x=true/\aH x=false:=by
 unfold aF
 grind
def AU{x:TR}(h:aF x=true):bh x=true:=by
 obtain⟨a,_,b,_⟩:=eH.1 h;simp[bh,a,b]
def wT{x:TR}(h:aF x=true):x.cells = #[x]:=eQ (eH.1 h).2.2.1
def SL.D2{l:SL}(h:l.i_):aF l.val=true:=by
 cases l with
 |v x=>exact h
 |_=>rfl
def S0.Dg{x:S0}(h:x.i_):x.val.cells=⟨x.cells.map SL.val⟩:=by
 cases x with
 |leaf l=>exact wT (SL.D2 (h l (by simp[S0.cells])))
 |agg a=>rfl
def S0.n_{x:S0}(h:x.i_):n_ x.val=true:=by
 cases x with
 |leaf l=>exact(eH.1 (SL.D2 (h l (by simp[S0.cells])))).1
 |agg b=>
  simp only[S0.val,Am.n_,A_,CS];rintro _ ⟨l,a,rfl⟩;exact(eH.1 (SL.D2 (h l a))).2.1
def S0.DY{x:S0}(h:x.i_):aH x.val=false:=by
 cases x with
 |leaf l=>exact(eH.1 (SL.D2 (h l (by simp[S0.cells])))).2.2.2
 |agg a=>rfl
def S0.F5{x:S0}(h:x.i_):x.val.cells.toList.all bh=true:=by
 rw[S0.Dg h];simp only[A_,CS];rintro _ ⟨l,a,rfl⟩;exact AU (SL.D2 (h l a))
def yb{v:TR}(h:scalar v=true):aF v=true:=by
 cases v<;>first|rfl|(simp[scalar]at h;done)|skip
 case pointer a=>cases a<;>first|rfl|simp[scalar]at h
 case slice a l c=>
  cases a with
  |none=>rfl
  |some a=>cases l<;>cases c<;>simp[scalar]at h
def ug(v:TR):(Iq v).val=v:=by cases v<;>rfl
def qm{v:TR}(h:scalar v=true):(Iq v).i_:=by
 cases v<;>first|trivial|exact yb h
def tW{v:TR}{x:S0}(h:Hm v=some x):x.val=v/\x.i_/\gl v=true:=by
 unfold Hm at h;split at h
 next f=>
  split at h
  next b=>
   cases h;refine⟨?_,?_,b⟩
   .simp only[S0.val,Q8,Value.agg.injEq];have:(SL.val ∘ Iq)=id:=funext ug;rw[this,eA]
   .intro l a;simp only[S0.cells,CS]at a;obtain⟨v,e,rfl⟩:=a;exact qm (A_.1 b v e)
  .cases h
 next d=>
  split at h
  next c=>
   cases h;refine⟨ug v,?_,?_⟩
   .intro l a;simp only[S0.cells,Fc]at a;subst a;exact qm c
   .cases v<;>first|exact c|simp_all
  .cases h
def dK{a b:TL}(h:cY a b=true):a=b:=by
 cases a<;>cases b<;>first|rfl|cases h
def fq(a:TL):cY a a=true:=by cases a<;>rfl
section
variable [Co] [C7]
def Told(sks:TN)(ls:TG)(xs:List S0):Prop:=bW xs sks=true/\bX xs=ls/\∀x∈xs,x.i_
def aA(C:m')(Sg:Td)(g:TQ)(ls:TG)(H:Tu)(a:TG)(H':Tu):Prop:=
 ∃sg xs ys,Sg g=some sg/\Told sg.ps ls xs/\Told sg.rs a ys/\jF C g (aj xs) H (fQ (aj ys)) H'
def wu(C:m')(v:Value)(args:Tn)(a:TN)(H:Tu)(b:TG)(H':Tu):Prop:=
 ∃ys,Told a b ys/\((∃g first cap,v = .func (.func g) first cap/\jF C g (first.toList++args++cap.toList) H (fQ (aj ys)) H')∨
  (∃l,v = .func (.yield l) #[] #[]/\ip C l args H (fQ (aj ys)) H'))
def qA(a:Nat):List (Nat×SK)->Tn->Tn->List Value
 |(t,_) :: l,v :: vs,tm=>qA a l vs (tm.set t v)
 |_,_,tm=>tm
def Er(s:Site)(b:Nat)(a:Tn):Fp:=
 { state:=.ready,pending:=none,fn:=b,tmps:=qA s.nt s.caps a (List.replicate s.nt w9),params:=s.params.map (·.1),assign:=s.assign.erase rG,body:=s.body.erase rG }
def ir:Lf->Lf->Bool
 | .i a,.i b=>a==b
 | .b a,.b b=>a==b
 |_,_=>false
def cj(l:List (Lf×Lf)):Bool:=l.all λp=>ir p.1 p.2
def JU(b:BinOp)(k:TL)(x:Int)(a:TL)(y n:Int):Prop:=∀(P:TI) (t:TP) (w:TS),(binOp b t (.int k x) (.int a y)).run P w = .ok (.int k n) w
abbrev _root_.Tv:=Nat->Site
structure qs{R HT:Type}(A:B_ R HT)(C:m')(Sg:Td)(T:Tv)(holds:R->Prop)(abs:HT->Tu):Prop where
 fail:¬holds A.fail
 cond:∀b x y,holds (A.cond b x y)->(b=true/\holds x)∨(b=false/\holds y)
 z_:∀op k a b K,holds (A.z_ op k a b K)->∃n,sn op k a b n/\holds (K n)
 FK:∀op k a k' b K,holds (A.FK op k a k' b K)->∃n,JU op k a k' b n/\holds (K n)
 cmp:∀op a b K,holds (A.cmp op a b K)->∃t,qS op a b=some t/\holds (K t)
 eqs:∀l K,holds (A.eqs l K)->holds (K (cj l))
 conv:∀k a K,holds (A.conv k a K)->holds (K (k.wrap a))
 Gq:∀t a b K,holds (A.Gq t a b K)->holds (K (if t then a else b))
 j_:∀ {i7:Type} (o:Option i7) K,holds (A.j_ o K)->∃x,o=some x/\holds (K x)
 nC:∀v K,holds (A.nC v K)->aF v=true/\holds K
 pu:∀ls K,holds (A.pu ls K)->∃n r,ls = .i n :: r/\holds (K n r)
 D9:∀ls K,holds (A.D9 ls K)->∃t r,ls = .b t :: r/\holds (K t r)
 Ci:∀ls K,holds (A.Ci ls K)->∃x r,ls = .v x :: r/\holds (K x r)
 w_:∀ls K,holds (A.w_ ls K)->ls=[]/\holds K
 td:∀k ls K,holds (A.td k ls K)->∃n r,ls = .int k n :: r/\holds (K n r)
 D1:∀ls K,holds (A.D1 ls K)->∃t r,ls = .bool t :: r/\holds (K t r)
 BM:∀ls K,holds (A.BM ls K)->∃x r,ls=x :: r/\holds (K x r)
 v9:∀ls K,holds (A.v9 ls K)->ls=[]/\holds K
 my:∀f h K,holds (A.my f h K)->∃cs,f.run (λi=>(abs h)[i]?)=some cs/\holds (K cs)
 heap:∀f h K,holds (A.heap f h K)->∃acts cs h',f.run (λi=>(abs h)[i]?) (abs h).length=some (acts,cs)/\abs h'=ii (abs h) acts/\holds (K cs h')
 new:∀o h K,holds (A.new o h K)->∃h',abs h'=abs h++[o]/\holds (K (abs h).length h')
 call:∀g ls h K,holds (A.call g ls h K)->∃rs h',aA C Sg g ls (abs h) rs (abs h')/\holds (K rs h')
 BO:∀v args hs h K,holds (A.BO v args hs h K)->∃rs h',wu C v args hs (abs h) rs (abs h')/\holds (K rs h')
 join:∀b m,holds (A.join b m)->holds (m b)
 loop:∀F ls h,holds (A.loop F ls h)->∃it:Nat->TG->HT->R,(∀ls h,¬holds (it 0 ls h))/\(∀n ls h,it (n+1) ls h=F (it n) ls h)/\∃n,holds (it n ls h)
 Ei:∀j8 v D3 h K,holds (A.Ei j8 v D3 h K)->∃g first cap r H1 lp h2,v = .func (.func g) first cap/\
  jF C g (first.toList++[.func (.yield (abs h).length) #[] #[]]++cap.toList) (abs h++[.loop (Er (T j8) j8 D3)]) r H1/\
  eI H1 (abs h).length=some lp/\lp.state≠.busy/\abs h2=H1.set (abs h).length (.loop { lp with state:=.exhausted })/\holds (K lp.pending h2)
 DZ:∀pd kn kr ks,holds (A.DZ pd kn kr ks)->(pd=none/\holds kn)∨(pd=some .ret/\holds kr)∨∃id x,pd=some (.exit id)/\(id,x)∈ks/\holds x
 H7:∀l h K,holds (A.H7 l h K)->∃lp h',eI (abs h) l=some lp/\lp.state = .ready/\abs h'=(abs h).set l (.loop { lp with state:=.busy })/\holds (K h')
 Gt:∀l j h K,holds (A.Gt l j h K)->∃lp h',eI (abs h) l=some lp/\abs h'=(abs h).set l (.loop { lp with state:=if j.isNone then .ready else .done,pending:=j })/\holds (K h')
def SV.ok(a:Tn)(i:Nat)(s:SV):Prop:=
 match s with
 | .no=>True
 |s=>a[i]?=some s.val/\s.gd
def LR.ok(a:List (Option (Tn)))(i:Nat):LR->Prop
 | .Ix=>True
 | .nil=>a[i]?=some none
 | .any n=>∃vs,a[i]?=some (some vs)/\vs.length=n
 | .row cs=>a[i]?=some (some (cs.map SL.val))/\∀c∈cs,c.i_
structure Rp(ev:Env)(g9:St):Prop where
 len:ev.tm.length=g9.tmps.length
 val:∀(i:Nat) s,ev.tm[i]?=some s->s.ok g9.tmps i
 Ee:ev.lc.length=g9.loc.length
 row:∀(i:Nat) r,ev.lc[i]?=some r->r.ok g9.loc i
def SV.ok_gd{a:Tn}{i:Nat}{s:SV}(h:s.gd)(b:a[i]?=some s.val):s.ok a i:=by
 cases s<;>first|trivial|exact⟨b,h⟩
def Rp.at{b:Env}{g9:St}(h:Rp b g9){t:Nat}{s:SV}(a:b.tm.getD t .no=s)(d:s≠.no):g9.tmps[t]?=some s.val/\s.gd:=by
 rw[List.getD_eq_getElem?_getD]at a;cases c:b.tm[t]? with
 |none=>simp_all
 |some x=>
  rw[c]at a;simp only[S8]at a;subst a;have:=h.val t x c;cases x<;>first|exact this|exact absurd rfl d
def Rp.l_{d:Env}{g9:St}(h:Rp d g9){x:TK}{s:SV}(a:l_ d x=s)(j:s≠.no):jw g9.tmps x=s.val/\s.gd:=by
 cases x with
 |tmp t=>
  obtain⟨b,c⟩:=h.at (t:=t) a j;exact⟨by simp[jw,List.getD_eq_getElem?_getD,b],c⟩
 |const v=>
  simp only[Am.l_]at a;cases k:Hm v with
  |none=>simp_all
  |some x=>
   rw[k]at a;subst a;obtain⟨b,c,e⟩:=tW k;refine⟨?_,c⟩;have:flat v=true:=by cases v<;>first|exact e|(simp[gl,scalar]at e)
   simp[jw,this,SV.val,b]
 |global g=>
  subst a;simp only[Am.l_,jw];cases m:Nat.blt g gB with
  |true=>exact⟨rfl,trivial⟩
  |false=>exact absurd (by simp only[Am.l_,m]) j
 |func f=>
  subst a;refine⟨rfl,λl i=>?_⟩;simp only[S0.cells,Fc]at i;subst i;rfl
def Rp.Cg{b:Env}{g9:St}(h:Rp b g9){x:TK}{s:S0}(a:Cg b x=some s):jw g9.tmps x=s.val/\s.i_:=by
 unfold Am.Cg at a;split at a
 next y e=>
  cases a;exact h.l_ e c_
 .cases a
def Rp.CO{b:Env}{g9:St}(h:Rp b g9):∀ {l:List Operand} {xs:List S0},CO b l=some xs->l.map (jw g9.tmps)=aj xs/\∀x∈xs,x.i_
 | [],xs,a=>by cases a;exact⟨rfl,c_⟩
 |o :: l,xs,a=>by
  simp only[Am.CO]at a;split at a
  next x ys c d=>
   cases a;obtain⟨h1,f⟩:=h.Cg c;obtain⟨e,g⟩:=h.CO d;refine⟨by simp[aj,h1];exact e,λy i=>?_⟩
   grind
  .cases a
def Rp.put{b:Env}{g9:St}(h:Rp b g9)(d:Nat){s:SV}(f:s.gd):Rp ⟨b.tm.set d s,b.lc⟩ (g9.put (some d) s.val):=by
 refine⟨by simp[St.put,h.len],λi x a=>?_,h.Ee,h.row⟩;simp only[GS]at a;split at a
 next c=>
  subst c;split at a
  next e=>
   cases a;refine SV.ok_gd f ?_;simp only[St.put,List.getElem?_set_self'];rw[Gn (by rw[←h.len];exact e)];rfl
  .cases a
 next c=>
  have:=h.val i x a;cases x<;>first|trivial|exact⟨by simp only[St.put];rw[Hj c];exact this.1,this.2⟩
def Rp.heap{a:Env}{g9:St}(h:Rp a g9)(H:Tu):Rp a { g9 with heap:=H }:=⟨h.len,h.val,h.Ee,h.row⟩
structure Fr(ws ks rs:TC)(g9 i6:St):Prop where
 Iu:i6.tmps.length=g9.tmps.length
 Ee:i6.loc.length=g9.loc.length
 tm:∀(i:Nat) v,g9.tmps[i]?=some v->i∉ws->n_ v=true->i6.tmps[i]?=some v
 tp:∀(i s off:Nat),g9.tmps[i]?=some (.pointer (some ⟨s,off,some 0⟩))->i∉ws->s∉ks->i6.tmps[i]?=some (.pointer (some ⟨s,off,some 0⟩))
 row:∀(s:Nat) x,g9.loc[s]?=some x->s∉rs->i6.loc[s]?=some x
 Ni:∀(s:Nat) vs,g9.loc[s]?=some (some vs)->s∉ks->∃vs',i6.loc[s]?=some (some vs')/\vs'.length=vs.length
theorem Fr.refl(c ks a:TC)(g9:St):Fr c ks a g9 g9:=⟨rfl,rfl,λ_ _ h _ _=>h,λ_ _ _ h _ _=>h,λ_ _ h _=>h,λ_ b h _=>⟨b,h,rfl⟩⟩
def Fr.trans{f ks e:TC}{g9 j6 g:St}(h:Fr f ks e g9 j6)(h':Fr f ks e j6 g):Fr f ks e g9 g:=
 ⟨h'.Iu.trans h.Iu,h'.Ee.trans h.Ee,λi v a b c=>h'.tm i v (h.tm i v a b c) b c,λi s d a b c=>h'.tp i s d (h.tp i s d a b c) b c,
  λs x a b=>h'.row s x (h.row s x a b) b,λs j a b=>let ⟨v1,c1,d1⟩:=h.Ni s j a b;let ⟨v2,c2,d2⟩:=h'.Ni s v1 c1 b;⟨v2,c2,d2.trans d1⟩⟩
def Fr.mono{n ks m g e f:TC}{g9 l:St}(h:Fr n ks m g9 l)(h1:∀i∈n,i∈g)(k:∀i∈ks,i∈e)(o:∀i∈m,i∈f):Fr g e f g9 l:=
 ⟨h.Iu,h.Ee,λi v a b c=>h.tm i v a (λd=>b (h1 i d)) c,λi s j a b c=>h.tp i s j a (λd=>b (h1 i d)) (λd=>c (k s d)),
  λs x a b=>h.row s x a (λd=>b (o s d)),λs p a b=>h.Ni s p a (λd=>b (k s d))⟩
def Fr.heap{c ks b:TC}{g9 a:St}(h:Fr c ks b g9 a)(H:Tu):Fr c ks b g9 { a with heap:=H }:=⟨h.Iu,h.Ee,h.tm,h.tp,h.row,h.Ni⟩
def Fr.put{g9:St}(dst:Tq)(v:TR)(ks c:TC):Fr dst.toList ks c g9 (g9.put dst v):=by
 cases dst with
 |none=>exact .refl _ _ _ _
 |some d=>
  refine⟨by simp[St.put],rfl,λi x h a _=>?_,λi s b h a _=>?_,λ_ _ h _=>h,λ_ e h _=>⟨e,h,rfl⟩⟩<;>
  .simp only[Option.toList_some,Fc]at a;simp only[St.put]
   grind
end
inductive HO where
 |o (x:p_)
 |lp (j8:Nat) (st:LoopState) (pd:Tm) (vs:Tn)
abbrev HL:=List HO
inductive CK where
 |f (g:TQ)
 |y (j8:Nat) (vs:Tn) (l:Nat)
def EA(T:Tv):HO->p_
 | .o x=>x
 | .lp a st b vs=>.loop { Er (T a) a vs with state:=st,pending:=b }
def g_(T:Tv)(h:HL):Tu:=h.map (EA T)
namespace Sx
inductive Ff where
 |o (x:p_)
 |lp (j8:Nat) (st:LoopState) (pd:Tm) (vs:Tn)
 |t (n e:Nat) (rw:Bool) (c:Tr Value)
def Gd:Value:=.bool false
def cM(c:Tr Value)(n:Nat):Tn:=(range n).map λi=>(cE i).get Gd c
def Ff.ho:Ff->HO
 | .o x=>.o x
 | .lp a st b vs=>.lp a st b vs
 | .t n e rw c=>.o (.cells (cM c n) e rw)
structure x_ where
 n:Nat
 t:Tr Ff
def v3:Ff:=.o .dead
def x_.empty:x_:=⟨0,.leaf⟩
def x_.at(h:x_)(i:Nat):Option Ff:=match Nat.blt i h.n with
 |true=>some ((cE i).get v3 h.t)
 |false=>none
def CU(h:x_):HL:=(range h.n).map λi=>((cE i).get v3 h.t).ho
def gn(h:x_):(CU h).length=h.n:=by simp[CU]
def mP(h:x_)(i:Nat):(CU h)[i]?=(h.at i).map Ff.ho:=by
 unfold CU x_.at;rw[Ew];cases e:Nat.blt i h.n with
 |true=>
  simp_all
 |false=>
  have:h.n<=i:=by
   rcases Gi i h.n with a|a
   .rw[←Gp,e]at a;cases a
   .exact a
  simp_all
def x_.put(h:x_)(i:Nat)(o:Ff):x_:=match Nat.blt i h.n with
 |true=>⟨h.n,(cE i).set v3 h.t o⟩
 |false=>h
def x_.push(h:x_)(o:Ff):x_:=⟨h.n+1,(cE h.n).set v3 h.t o⟩
def je(h:x_)(i:Nat)(o:Ff):CU (h.put i o)=(CU h).set i o.ho:=by
 apply HA;intro j;unfold x_.put;cases e:Nat.blt i h.n with
 |true=>
  rw[Gp]at e;simp only;rw[mP];by_cases b:i=j
  .subst b;rw[GR (by rw[gn];exact e)];unfold x_.at;simp only[(Gp▸e:Nat.blt i h.n=true)];rw[Dz.Cs];rfl
  .rw[Hj b,mP];unfold x_.at;simp only;rw[Dz.C3 _ _ _ _ _ (λh=>b (mz h).symm)]
 |false=>
  simp only;have:h.n<=i:=by
   rcases Gi i h.n with a|a
   .rw[←Gp,e]at a;cases a
   .exact a
  rw[List.set_eq_of_length_le (by rw[gn];exact this)]
def jy(h:x_)(o:Ff):CU (h.push o)=CU h++[o.ho]:=by
 apply HA;intro j;rw[mP];unfold x_.push x_.at;simp only;by_cases c:j<h.n
 .rw[Fe (by rw[gn];exact c),mP];unfold x_.at;have a:Nat.blt j (h.n+1)=true:=by rw[Gp];omega
  have b:Nat.blt j h.n=true:=by rw[Gp];omega
  simp only[a,b];rw[Dz.C3 _ _ _ _ _ (λh=>by have:=mz h;omega)]
 .rw[GV (by rw[gn];omega),gn];by_cases d:j=h.n
  .subst d;have a:Nat.blt h.n (h.n+1)=true:=by rw[Gp];omega
   simp only[a,WH,hz];rw[Dz.Cs];rfl
  .have a:Nat.blt j (h.n+1)=false:=by rw[←Gj,Gp];omega
   grind
def bq(c:Tr Value)(n:Nat):(cM c n).length=n:=by simp[cM]
def fk(c:Tr Value){n i:Nat}(h:i<n):(cM c n)[i]?=some ((cE i).get Gd c):=by
 unfold cM
 simp_all
def F_:Tn->Nat->Tr Value->Tr Value
 | [],_,c=>c
 |v :: l,i,c=>F_ l (i+1) ((cE i).set Gd c v)
def tu:∀(l:Tn) (i:Nat) (c:Tr Value) (j:Nat),(cE j).get Gd (F_ l i c)=if i<=j/\j<i+l.length then l[j - i]?.getD Gd else(cE j).get Gd c
 | [],i,c,j=>by
  have h:¬(i<=j/\j<i+([]:Tn).length):=kb;rw[te h];rfl
 |v :: l,i,c,j=>by
  show(cE j).get Gd (F_ l (i+1) _)=_;rw[tu l (i+1)];by_cases h:i+1<=j/\j<i+1+l.length
  .grind
  .rw[te h];by_cases a:j=i
   .subst a;rw[Dz.Cs,rv c_];simp
   .rw[Dz.C3 _ _ _ _ _ (λe=>a (mz e)),te ua]
def qQ{l:Tn}{i n:Nat}{c:Tr Value}(h:i+l.length<=n):cM (F_ l i c) n=(cM c n).take i++l++(cM c n).drop (i+l.length):=by
 apply HA;intro j;by_cases a:j<n
 .rw[fk _ a,tu];by_cases b:j<i
  .rw[te a_,EF,Fe (by rw[C1,bq];omega),List.getElem?_take_of_lt b,fk _ a]
  .have d:((cM c n).take i).length=i:=by rw[C1,bq];omega
   by_cases e:j<i+l.length
   .grind
   .rw[te a_,GV kb,Gv,d,M2,show i+l.length+(j - (i+l.length))=j by omega,fk _ a]
 .rw[Gu (by rw[bq];omega),Gu (by simp[bq];omega)]
def oU{l:Tn}{n:Nat}{c:Tr Value}:cM (F_ l n c) (n+l.length)=cM c n++l:=by
 apply HA;intro j;by_cases b:j<n+l.length
 .rw[fk _ b,tu];by_cases a:j<n
  .rw[te a_,Fe (by rw[bq];exact a),fk _ a]
  .rw[rv ⟨a_,b⟩,GV (by rw[bq];omega),bq,Gn a_];rfl
 .rw[Gu (by rw[bq];omega),Gu (by simp[bq];omega)]
def AJ(l:Tn):cM (F_ l 0 .leaf) l.length=l:=by
 have:=oU (l:=l) (n:=0) (c:=.leaf);simpa[cM]using this
def Bo(c:Tr Value)(n:Nat):Nat->Tn:=Nat.rec (motive:=λ_=>Nat->Tn) (λ_=>[]) (λ_ b a=>(cE a).get Gd c :: fN (Nat.succ a) b) n
def lI(c:Tr Value):∀(n off m:Nat),off+n<=m->Bo c n off=((cM c m).drop off).take n
 |0,_,_,_=>by rw[o2];rfl
 |n+1,off,m,h=>by
  show(cE off).get Gd c :: Bo c n (off+1)=_;rw[lI c n (off+1) m a_];have h1:off<(cM c m).length:=by rw[bq];omega
  rw[SZ h1,p']
  congr 1
  have:=fk c (n:=m) (i:=off) a_
  simp_all
section
variable {R:Type}
def Q3{i7:Type}(d:i7)(p:Dz):Tr i7->i7->(Tr i7->R)->R:=
 Dz.rec (motive:=λ_=>Tr i7->i7->(Tr i7->R)->R)
  (λt x k=>Tr.casesOn t (k (.node x .leaf .leaf)) λ_ l r=>k (.node x l r))
  (λ_ a t x k=>Tr.casesOn t (a .leaf x λl=>k (.node d l .leaf)) λv l r=>a l x λl=>k (.node v l r))
  (λ_ a t x k=>Tr.casesOn t (a .leaf x λr=>k (.node d .leaf r)) λv l r=>a r x λr=>k (.node v l r)) p
def ku{i7:Type}(d:i7):∀(p:Dz) (t:Tr i7) (x:i7) (k:Tr i7->R),Q3 d p t x k=k (p.set d t x)
 | .e,t,x,k=>by cases t<;>rfl
 | .o p,t,x,k=>by
  cases t with
  |leaf=>exact ku d p .leaf x _
  |node v l r=>exact ku d p l x _
 | .i p,t,x,k=>by
  cases t with
  |leaf=>exact ku d p .leaf x _
  |node v l r=>exact ku d p r x _
def EN(h:x_)(i:Nat)(o:Ff)(k:x_->R):R:=match Nat.blt i h.n with
 |true=>Q3 v3 (cE i) h.t o λt=>k ⟨h.n,t⟩
 |false=>k h
def nL(h:x_)(o:Ff)(k:x_->R):R:=Q3 v3 (cE h.n) h.t o λt=>fN (Nat.succ h.n) λn=>k ⟨n,t⟩
def iY(h:x_)(i:Nat)(o:Ff)(k:x_->R):EN h i o k=k (h.put i o):=by
 unfold EN x_.put;split
 next e=>rw[ku]
 .rfl
def jo(h:x_)(o:Ff)(k:x_->R):nL h o k=k (h.push o):=by
 unfold nL x_.push;rw[ku,ew]
def zU{i7:Type}(l:List i7):(List i7->R)->R:=
 List.rec (motive:=λ_=>(List i7->R)->R) (λk=>k []) (λx _ a k=>a λl=>k (x :: l)) l
def qd{i7:Type}:∀(l:List i7) (k:List i7->R),zU l k=k l
 | [],_=>rfl
 |x :: l,k=>qd l λl=>k (x :: l)
def zV(v:Value)(k:Value->R):R:=match v with
 | .int a n=>fI n λn=>k (.int a n)
 | .bool b=>Bool.rec (k (.bool false)) (k (.bool true)) b
 |v=>k v
def Na(v:TR)(k:TR->R):zV v k=k v:=by
 unfold zV;split
 .exact kR _ _
 next b=>cases b<;>rfl
 .rfl
def I8(l:Tn):Nat->Tr Value->(Tr Value->R)->R:=
 List.rec (motive:=λ_=>Nat->Tr Value->(Tr Value->R)->R) (λ_ c k=>k c) (λv _ a i c k=>zV v λv=>Q3 Gd (cE i) c v λc=>fN (Nat.succ i) λi=>a i c k) l
def pN:∀(l:Tn) (i:Nat) (c:Tr Value) (k:Tr Value->R),I8 l i c k=k (F_ l i c)
 | [],_,_,_=>rfl
 |v :: l,i,c,k=>by
  show(zV v λv=>Q3 Gd (cE i) c v λc=>fN (Nat.succ i) λi=>I8 l i c k)=_;rw[Na,ku,ew,pN l];rfl
def vy(o:p_)(k:Ff->R):R:=match o with
 | .cells b e rw=>fN b.length λn=>I8 b 0 .leaf λc=>k (.t n e rw c)
 | .map a c=>zU a λa=>fN c λc=>k (.o (.map a c))
 |o=>k (.o o)
def kY{o:p_}{k:Ff->R}:∃x:Ff,x.ho = .o o/\vy o k=k x:=by
 cases o with
 |cells b e rw=>
  refine⟨.t b.length e rw (F_ b 0 .leaf),by simp only[Ff.ho,AJ],?_⟩;show(fN b.length λn=>I8 b 0 .leaf λc=>k (.t n e rw c))=_;rw[ew,pN]
 |map a c=>
  refine⟨.o (.map a c),rfl,?_⟩;show(zU a λa=>fN c λc=>k (.o (.map a c)))=_;rw[qd,ew]
 |_=>exact⟨.o _,rfl,rfl⟩
def tM(l:TG):(TG->R)->R:=
 List.rec (motive:=λ_=>(TG->R)->R) (λk=>k []) (λx _ a k=>match x with
  | .i n=>fI n λn=>a λl=>k (.i n :: l)
  | .b t=>Bool.rec (a λl=>k (.b false :: l)) (a λl=>k (.b true :: l)) t
  | .v v=>a λl=>k (.v v :: l)) l
def fw:∀(l:TG) (k:TG->R),tM l k=k l
 | [],_=>rfl
 | .i n :: l,k=>(kR n λn=>tM l λl=>k (.i n :: l)).trans (fw l _)
 | .b true :: l,k=>fw l λl=>k (.b true :: l)
 | .b false :: l,k=>fw l λl=>k (.b false :: l)
 | .v v :: l,k=>fw l λl=>k (.v v :: l)
end
end Sx
section
open Sx
abbrev RT:=Option (TG)
abbrev r9:RT:=some []
def ax(b:Bool):RT:=match b with|true=>r9|false=>none
abbrev fW:=CK->TG->x_->(TG->x_->RT)->RT
def Cw.onH(h:HL):Cw->HL
 | .set i o=>h.set i (.o o)
 | .push o=>h++[.o o]
def bG(h:HL)(l:List Cw):HL:=l.foldl Cw.onH h
def tf(T:Tv)(h:HL):cQ:=λi=>match h[i]? with
 |some x=>some (EA T x)
 |none=>none
def G_(T:Tv)(h:x_):cQ:=λi=>match h.at i with
 |some x=>some (EA T x.ho)
 |none=>none
def AD(l:List Cw):x_->(x_->RT)->RT:=
 List.rec (motive:=λ_=>x_->(x_->RT)->RT) (λh k=>k h) (λa _ b h k=>match a with
  | .set i o=>vy o λo=>EN h i o λh=>b h k
  | .push o=>vy o λo=>nL h o λh=>b h k) l
def u4(b:Bool)(x y:RT):RT:=Bool.rec y x b
def Ib(k:TL)(c:Int)(K:Int->RT):RT:=Bool.rec (fI (k.wrap c) K) (K c) (Sj k c)
def YF(c:Int)(K:Int->RT):RT:=@Bool.rec (λ_=>RT) (fI (IntKind.wrap .i64 c) K) (K c) (@Int.rec (λ_=>Bool) (λn=>Nat.ble n 9223372036854775807) (λn=>Nat.ble n 9223372036854775807) c)
def YH(c:Int)(K:Int->RT):RT:=@Bool.rec (λ_=>RT) (fI (IntKind.wrap .u8 c) K) (K c) (@Int.rec (λ_=>Bool) (λn=>Nat.ble n 255) (λ_=>false) c)
def GJ(k:TL)(c:Int)(K:Int->RT):RT:=@IntKind.rec (λ_=>RT) (Ib .i8 c K) (Ib .i16 c K) (Ib .i32 c K) (YF c K) (YH c K) (Ib .u16 c K) (Ib .u32 c K) (Ib .u64 c K) k
def Zn(a b:Int)(K:Int->RT):RT:=
 Int.rec (λm=>Int.rec (λn=>fN (Nat.add m n) λc=>K (.ofNat c)) (λn=>Bool.rec (fN (Nat.sub n m) λc=>K (.negSucc c)) (fN (Nat.sub m (Nat.succ n)) λc=>K (.ofNat c)) (Nat.blt n m)) b)
  (λm=>Int.rec (λn=>Bool.rec (fN (Nat.sub m n) λc=>K (.negSucc c)) (fN (Nat.sub n (Nat.succ m)) λc=>K (.ofNat c)) (Nat.blt m n)) (λn=>fN (Nat.succ (Nat.add m n)) λc=>K (.negSucc c)) b) a
def U'(a b:Int)(K:Int->RT):RT:=
 Int.rec (λm=>Int.rec (λn=>Bool.rec (fN (Nat.sub n (Nat.succ m)) λc=>K (.negSucc c)) (fN (Nat.sub m n) λc=>K (.ofNat c)) (Nat.ble n m)) (λn=>fN (Nat.succ (Nat.add m n)) λc=>K (.ofNat c)) b)
  (λm=>Int.rec (λn=>fN (Nat.add m n) λc=>K (.negSucc c)) (λn=>Bool.rec (fN (Nat.sub m (Nat.succ n)) λc=>K (.negSucc c)) (fN (Nat.sub n m) λc=>K (.ofNat c)) (Nat.ble m n)) b) a
def y5(a b:Int)(K:Int->RT):RT:=
 Int.rec (λm=>Int.rec (λn=>fN (Nat.mul m n) λc=>K (.ofNat c)) (λn=>Nat.rec (K (.ofNat 0)) (λd _=>fN (Nat.add (Nat.mul m n) d) λc=>K (.negSucc c)) m) b)
  (λm=>Int.rec (λn=>Nat.rec (K (.ofNat 0)) (λe _=>fN (Nat.add (Nat.mul m n) e) λc=>K (.negSucc c)) n) (λn=>fN (Nat.mul (Nat.succ m) (Nat.succ n)) λc=>K (.ofNat c)) b) a
def W3(a b:Int)(K:Int->RT):RT:=
 Int.rec (λm=>Int.rec (λn=>fN (Nat.div m n) λc=>K (.ofNat c)) (λ_=>fI (Int.tdiv a b) K) b) (λ_=>fI (Int.tdiv a b) K) a
def t1(a b:Int)(K:Int->RT):RT:=
 Int.rec (λm=>Int.rec (λn=>fN (Nat.mod m n) λc=>K (.ofNat c)) (λ_=>fI (Int.tmod a b) K) b) (λ_=>fI (Int.tmod a b) K) a
def dT(b:Int):Bool:=Int.rec (λn=>Nat.beq n 0) (λ_=>false) b
def Zu(d:BinOp)(k:TL)(a b:Int)(K:Int->RT):RT:=
 match d with
 | .add=>Zn a b λc=>GJ k c K
 | .sub=>U' a b λc=>GJ k c K
 | .mul=>y5 a b λc=>GJ k c K
 | .quo=>Bool.rec (W3 a b λc=>GJ k c K) none (dT b)
 | .rem=>Bool.rec (t1 a b K) none (dT b)
 | .and=>match b6 b 1 with
  |true=>fI (Int.emod a 2) K
  |false=>match a,b with
   | .ofNat m,.ofNat n=>fI (.ofNat (Nat.land m n)) λc=>GJ k c K
   |_,_=>none
 | .xor=>match a,b with
  | .ofNat m,.ofNat n=>fI (.ofNat (Nat.xor m n)) λc=>GJ k c K
  |_,_=>none
 | .or=>match a,b with
  | .ofNat m,.ofNat n=>fI (.ofNat (Nat.lor m n)) λc=>GJ k c K
  |_,_=>none
 |_=>none
def Pb(a b:Int):Bool:=Int.rec (λm=>Int.rec (λn=>Nat.beq m n) (λ_=>false) b) (λm=>Int.rec (λ_=>false) (λn=>Nat.beq m n) b) a
def Qr(b:Bool):Bool:=Bool.rec true false b
def ZQ(c:BinOp)(a b:Int)(K:Bool->RT):RT:=
 match c with
 | .eql=>K (Pb a b)
 | .neq=>K (Qr (Pb a b))
 | .lss=>K (Qr (VH b a))
 | .leq=>K (VH a b)
 | .gtr=>K (Qr (VH a b))
 | .geq=>K (VH b a)
 |_=>none
def eqBK(a b:Bool):Bool:=Bool.rec (Qr b) b a
def I4(x y:Lf):Bool:=Lf.rec (λa=>Lf.rec (λb=>Pb a b) (λ_=>false) (λ_=>false) y) (λa=>Lf.rec (λ_=>false) (λb=>eqBK a b) (λ_=>false) y) (λ_=>false) x
def Z9(l:List (Lf×Lf)):Bool:=List.rec true (λp _ a=>Bool.rec false a (I4 p.1 p.2)) l
def p4(l:List (Lf×Lf))(K:Bool->RT):RT:=K (Z9 l)
def q5(k:TL)(a:Int)(K:Int->RT):RT:=GJ k a K
def selB(t:Bool)(a b:Int)(K:Int->RT):RT:=Bool.rec (K b) (K a) t
def optB{i7:Type}(o:Option i7)(K:i7->RT):RT:=Option.rec none K o
def unIB(ls:TG)(K:Int->TG->RT):RT:=List.rec none (λx r _=>Lf.rec (λn=>K n r) (λ_=>none) (λ_=>none) x) ls
def unBB(ls:TG)(K:Bool->TG->RT):RT:=List.rec none (λx r _=>Lf.rec (λ_=>none) (λn=>K n r) (λ_=>none) x) ls
def unVB(ls:TG)(K:Value->TG->RT):RT:=List.rec none (λx r _=>Lf.rec (λ_=>none) (λ_=>none) (λn=>K n r) x) ls
def un0B(ls:TG)(K:RT):RT:=List.rec K (λ_ _ _=>none) ls
def ucIB(k:TL)(ls:Tn)(K:Int->Tn->RT):RT:=match ls with | .int k' n :: r=>(match cY k k' with|true=>K n r|false=>none)|_=>none
def ucBB(ls:Tn)(K:Bool->Tn->RT):RT:=match ls with | .bool n :: r=>K n r|_=>none
def ucVB(ls:Tn)(K:Value->Tn->RT):RT:=match ls with|n :: r=>K n r|_=>none
def uc0B(ls:Tn)(K:RT):RT:=match ls with | []=>K|_=>none
def RH(s:Ts):Bool:=match s with
 |none=>true
 |some k=>match k with
  |0=>false
  |_=>true
def H3(v:Value):Bool:=match v with
 | .pointer (some a)=>RH a.spot
 | .slice (some a) _ _=>RH a.spot
 |v=>aF v
def ZM(v:Value)(K:RT):RT:=match H3 v with|true=>K|false=>none
def VI{i7:Type}(l:List i7):Nat:=List.rec 0 (λ_ _ n=>Nat.succ n) l
def ldB(n:Nat)(p:Value)(h:x_)(K:Tn->RT):RT:=match p with
 | .pointer (some a)=>match a.spot with
  |none=>match h.at a.block with
   |some (.t m _ _ c)=>match Nat.ble (Nat.add a.off n) m with
    |true=>K (Bo c n a.off)
    |false=>none
   |_=>none
  |some _=>none
 |_=>none
def lgB(C:m')(n:Nat)(p:Value)(h:x_)(K:Tn->RT):RT:=match p with
 | .pointer (some a)=>match a.spot with
  |none=>match h.at a.block with
   |some (.t m _ _ c)=>match Nat.ble (Nat.add a.off n) m with
    |true=>K (Bo c n a.off)
    |false=>none
   |_=>none
  |some k=>match Nat.beq k 1 with
   |true=>match C.G a.block with
    |some d=>match Mu d a.off n with
     |some b=>K b
     |none=>none
    |none=>none
   |false=>none
 |_=>none
def QO(T:Tv)(f:Pk)(h:x_)(K:Tn->RT):RT:=match f with
 | .ld n p=>ldB n p h K
 | .lg C n p=>lgB C n p h K
 | .fn f=>match f (G_ T h)with|some x=>K x|none=>none
def stB(p:Value)(new:Tn)(h:x_)(K:Tn->x_->RT):RT:=match p with
 | .pointer (some a)=>match a.spot with
  |none=>match h.at a.block with
   |some (.t m e true c)=>match Nat.ble (Nat.add a.off (VI new)) m with
    |true=>I8 new a.off c λc=>EN h a.block (.t m e true c) λh=>K [] h
    |false=>none
   |_=>none
  |some _=>none
 |_=>none
def Xh(s:Ts)(r_:Nat):Bool:=match s with
 |none=>false
 |some k=>Nat.beq k (Nat.add r_ 10)
def slB(C:m')(T:Tv)(r_:Nat)(x:Value)(h:x_)(K:Tn->Nat->RT):RT:=match x with
 | .slice (some a) b _=>match Xh a.spot r_ with
  |true=>match h.at a.block with
   |some (.t m e _ c)=>match Nat.beq e r_,Nat.ble (Nat.add a.off (Nat.mul b r_)) m with
    |true,true=>K (Bo c (Nat.mul b r_) a.off) b
    |_,_=>none
   |_=>none
  |false=>match NP C r_ (G_ T h) x with
   |some p=>K p.1 p.2
   |none=>none
 |x=>match NP C r_ (G_ T h) x with
  |some p=>K p.1 p.2
  |none=>none
def Ky(c:Tr Value)(m off w r_:Nat)(new:Tn)(k:Ff->RT):RT:=match Nat.beq off 0,Nat.beq w m with
 |true,true=>I8 new m c λc=>fN (Nat.add m (VI new)) λm=>k (.t m r_ true c)
 |_,_=>vy (.cells (Bo c w off++new) r_ true) k
def apB(T:Tv)(C:m')(r_ bytes:Nat)(s x:Value)(h:x_)(K:Tn->x_->RT):RT:=
 slB C T r_ x h λd n=>match s with
  | .slice none 0 0=>match n with
   |0=>K [.slice none 0 0] h
   |n+1=>match bc (n+1) bytes with
    |true=>vy (.cells d r_ true) λo=>nL h o λf=>fN (n+1) λn=>K [.slice (some ⟨h.n,0,le r_⟩) n 0] f
    |false=>none
  | .slice (some a) b i=>match Xh a.spot r_ with
   |false=>none
   |true=>match h.at a.block with
    |some (.t m e rw c)=>match Nat.beq e r_,Nat.ble (Nat.add a.off (Nat.mul b r_)) m with
     |true,true=>match i with
      |0=>match n with
       |0=>K [.slice (some a) b 0] h
       |n+1=>match rw,bc (b+(n+1)) bytes with
        |true,true=>Ky c m a.off (Nat.mul b r_) r_ d λo=>EN h a.block (.o .dead) λf=>nL f o λg=>fN (b+(n+1)) λl=>K [.slice (some ⟨h.n,0,le r_⟩) l 0] g
        |_,_=>none
      |cap+1=>match Nat.ble (b+n) cap with
       |true=>match rw,Nat.ble (Nat.add (Nat.add a.off (Nat.mul b r_)) (VI d)) m with
        |true,true=>I8 d (Nat.add a.off (Nat.mul b r_)) c λc=>EN h a.block (.t m e true c) λf=>fN (b+n) λl=>K [.slice (some a) l (cap+1)] f
        |_,_=>none
       |false=>match bc (b+n) bytes with
        |true=>Ky c m a.off (Nat.mul b r_) r_ d λo=>nL h o λf=>fN (b+n) λl=>K [.slice (some ⟨h.n,0,le r_⟩) l 0] f
        |false=>none
     |_,_=>none
    |_=>none
  |_=>none
def KA(T:Tv)(f:Hp)(h:x_)(K:Tn->x_->RT):RT:=match f with
 | .st p b=>stB p b h K
 | .ap C a bytes s x=>apB T C a bytes s x h K
 | .fn f=>match f (G_ T h) h.n with|some p=>zU p.2 λc=>AD p.1 h λh=>K c h|none=>none
def lD(o:p_)(h:x_)(K:Nat->x_->RT):RT:=vy o λo=>nL h o λa=>K h.n a
def NA(k:LK)(v:Value):Option SL:=
 match k with
 | .i k=>match v with
  | .int a n=>match cY a k with
   |true=>some (.i a n)
   |false=>none
  |_=>none
 | .b=>match v with
  | .bool t=>some (.b t)
  |_=>none
 | .v=>match aF v with
  |true=>some (.v v)
  |false=>none
def L0:TJ->Tn->Option (List SL)
 | [],[]=>some []
 |k :: ks,v :: vs=>match NA k v with
  |some x=>match L0 ks vs with
   |some xs=>some (x :: xs)
   |none=>none
  |none=>none
 |_,_=>none
def zl(c:SK)(v:Value):Option S0:=
 match c with
 | .leaf k=>(NA k v).map .leaf
 | .agg b=>match v with
  | .agg a=>(L0 b a.toList).map .agg
  |_=>none
def Iv:TN->Tn->Option (List S0)
 | [],[]=>some []
 |k :: ks,v :: vs=>match zl k v with
  |some x=>match Iv ks vs with
   |some xs=>some (x :: xs)
   |none=>none
  |none=>none
 |_,_=>none
def UY:LK->LK->Bool
 | .i a,.i b=>cY a b
 | .b,.b=>true
 | .v,.v=>true
 |_,_=>false
def Kf:TJ->TJ->Bool
 | [],[]=>true
 |a :: l,b :: m=>UY a b&&Kf l m
 |_,_=>false
def Z4:SK->SK->Bool
 | .leaf a,.leaf b=>UY a b
 | .agg a,.agg b=>Kf a b
 |_,_=>false
def HW:TN->TN->Bool
 | [],[]=>true
 |a :: l,b :: m=>Z4 a b&&HW l m
 |_,_=>false
def iQ(ls:TG):Bool:=List.rec true (λl _ a=>match l with
 | .v x=>(match H3 x with
  |true=>a
  |false=>false)
 |_=>a) ls
section
variable (Sg:Td) (T:Tv) (call:fW)
def J4(g:TQ)(ls:TG)(h:x_)(K:TG->x_->RT):RT:=match iQ ls with|true=>call (.f g) ls h K|false=>none
def nU(g:TQ)(b:Option (TN))(a:Tn)(h:x_)(K:TG->x_->RT):RT:=
 match Sg g with
 |none=>none
 |some c=>match (match b with|none=>true|some b=>HW c.rs b)with
  |false=>none
  |true=>match Iv c.ps a with
   |none=>none
   |some d=>J4 call g (bX d) h K
def IK(v:Value)(args:Tn)(c:TN)(h:x_)(K:TG->x_->RT):RT:=
 match v with
 | .func f first a=>match f with
  | .func g=>nU Sg call g (some c) (first.toList++args++a.toList) h K
  | .yield l=>match first.toList,a.toList with
   | [],[]=>match h.at l with
    |some (.lp d _ _ i)=>match HW [.leaf .b] c with
     |false=>none
     |true=>match Iv ((T d).params.map (·.2)) args with
      |none=>none
      |some e=>match iQ (bX e)with
       |true=>call (.y d i l) (bX e) h K
       |false=>none
    |_=>none
   |_,_=>none
  |_=>none
 |_=>none
def Rh(j:Nat)(v:Value)(a:Tn)(h:x_)(K:Tm->x_->RT):RT:=
 match v with
 | .func e first b=>match e with
  | .func g=>nL h (.lp j .ready none a) λf=>nU Sg call g none (first.toList++[.func (.yield h.n) #[] #[]]++b.toList) f λ_ c=>match c.at h.n with
   |some (.lp m k d l)=>match k with
    | .busy=>none
    |_=>EN c h.n (.lp m .exhausted d l) λi=>K d i
   |_=>none
  |_=>none
 |_=>none
def n'(e:Tm)(b d:RT)(ks:List (Nat×RT)):RT:=
 match e with
 |none=>b
 |some c=>match c with
  | .ret=>d
  | .exit id=>List.rec none (λp _ a=>match Nat.beq p.1 id with|true=>p.2|false=>a) ks
  |_=>none
def jm(l:Nat)(h:x_)(K:x_->RT):RT:=
 match h.at l with
 |some (.lp a c b d)=>match c with
  | .ready=>EN h l (.lp a .busy b d) K
  |_=>none
 |_=>none
def l0(l:Nat)(j:Tm)(h:x_)(K:x_->RT):RT:=
 match h.at l with
 |some (.lp a _ _ b)=>match j with
  |none=>EN h l (.lp a .ready none b) K
  |some c=>EN h l (.lp a .done (some c) b) K
 |_=>none
end
def A0(F:(TG->x_->RT)->TG->x_->RT)(ls:TG)(h:x_):RT:=
 Nat.rec (motive:=λ_=>TG->x_->RT) (λ_ _=>none) (λ_ a ls h=>F a ls h) 1000000 ls h
def d8(b:TG->x_->RT)(m:(TG->x_->RT)->RT):RT:=m b
def Ry(c:BinOp)(k:TL)(a:Int)(_:TL)(b:Int)(K:Int->RT):RT:=match VH 0 b with
 |true=>match c with
  | .shl=>fI (k.wrap (a*2 ^ min b.toNat k.bits)) K
  | .shr=>fI (a.fdiv (2 ^ min b.toNat k.bits)) K
  |_=>none
 |false=>none
def BA(Sg:Td)(T:Tv)(call:fW):B_ RT x_ where
 fail:=none
 cond:=u4
 z_:=Zu
 FK:=Ry
 cmp:=ZQ
 eqs:=p4
 conv:=q5
 Gq:=selB
 j_:=optB
 nC:=ZM
 pu:=unIB
 D9:=unBB
 Ci:=unVB
 w_:=un0B
 td:=ucIB
 D1:=ucBB
 BM:=ucVB
 v9:=uc0B
 my:=QO T
 heap:=KA T
 new:=lD
 call:=J4 call
 BO:=IK Sg T call
 join:=d8
 loop:=A0
 Ei:=Rh Sg call
 DZ:=n'
 H7:=jm
 Gt:=l0
end
namespace Sx
section
variable [Co] [C7]
def TT(b_:TC)(tm:Tn)(o:Oper):TC:=(Sb b_ o).flatMap λx=>Df (jw tm x)
def w6(b_:TC)(tm:Tn)(o:Oper):TC:=(dg b_ o).1.flatMap λx=>BN (dg b_ o).2 (jw tm x)
def HS(b_:TC)(tm:Tn)(o:Oper):Prop:=∀d,o.dst=some d->DW b_ o=2->∃v,tm[d]?=some v
def JT(b_:TC)(ops:To)(tm:Tn)(c:List (Nat×Nat)):Prop:=
 ∀p∈c,∃a b,ops[p.1]?=some a/\ops[p.2]?=some b/\(∀x∈TT b_ tm a,x∉w6 b_ tm b)/\(∀x∈TT b_ tm a,x∉TT b_ tm b)/\(∀x∈TT b_ tm b,x∉w6 b_ tm a)/\HS b_ tm a/\HS b_ tm b
def G5(ops:To)(k:Nat)(g9 a:St):Prop:=∃o d x,ops[k]?=some o/\o.dst=some d/\g9.tmps[d]?=some x/\a.tmps[d]?=some x
def Fu(C:m')(B:Below)(b_:TC)(ops:To):TC->St->List (Tu)->St->Prop
 | [],g9,b,c=>b=[]/\c=g9
 |i :: l,g9,b,c=>∃j6 a,ao C B b_ ops i g9 j6/\b=j6.heap :: a/\Fu C B b_ ops l j6 a c
def ES(C:m')(B:Below)(b_:TC)(ops:To)(g9:St)(c:List (Tu))(a:St)(l:List (Nat×Nat)):Prop:=
 ∀p∈l,∃b,ao C B b_ ops p.1 { a with heap:=atM g9.heap c p } b/\G5 ops p.1 a b
def NS(C:m')(e:Dr):Prop:=∀b_ ops b,e b_ ops=some b->match Fm b with
 |some l=>∀(n:Nat) (g9 a:St) (c:List (Tu)),Fu C (sm C n).toBelow b_ ops (range ops.size) g9 c a->ES C (sm C n).toBelow b_ ops g9 c a l->eo C (sm C n).toBelow b_ ops g9 a
 |none=>match Gr b with
 |none=>∀(n:Nat) (g9 a:St),br C (sm C n).toBelow b_ ops (range ops.size) g9 a->JT b_ ops a.tmps b->eo C (sm C n).toBelow b_ ops g9 a
 |some p=>∀(n:Nat) (g9 j6 d a:St),br C (sm C n).toBelow b_ ops (List.range' 0 (ops.toList.take (p.2+1)).length) g9 j6->ao C (sm C n).toBelow b_ ops p.1 j6 d->G5 ops p.1 j6 d->
   br C (sm C n).toBelow b_ ops (List.range' (p.2+1) (ops.toList.drop (p.2+1)).length) j6 a->eo C (sm C n).toBelow b_ ops g9 a
def Ia{C:m'}{b_:TC}{ops:To}:∀ {l:TC} {g9 d:St} {c:List (Tu)},Fu C (uB C) b_ ops l g9 c d->∃n,∀m,n<=m->Fu C (sm C m).toBelow b_ ops l g9 c d
 | [],_,_,_,h=>⟨0,λ_ _=>h⟩
 |_ :: _,_,_,_,⟨j6,b,h1,e,a⟩=>by
  obtain⟨n,h1⟩:=jv h1;obtain⟨m,a⟩:=Ia a;exact⟨max n m,λk f=>⟨j6,b,da (jE a_).call (jE a_).yield h1,e,a k a_⟩⟩
def again_at{C:m'}{b_:TC}{ops:To}{g9:St}{a:List (Tu)}{b:St}:∀ {l:List (Nat×Nat)},ES C (uB C) b_ ops g9 a b l->∃n,∀m,n<=m->ES C (sm C m).toBelow b_ ops g9 a b l
 | [],_=>⟨0,λ_ _ p hp=>(by cases hp)⟩
 |q :: l,h=>by
  obtain⟨e,h1,c⟩:=h q c_;obtain⟨n,h1⟩:=jv h1;obtain⟨m,d⟩:=again_at (l:=l) λp hp=>h p (E7 _ hp);refine⟨max n m,λk f p hp=>?_⟩;rcases DB.1 hp with rfl|hp
  .exact⟨e,da (jE a_).call (jE a_).yield h1,c⟩
  .exact d k a_ p hp
def Kg:∀ {x y:Ts},Z5 x y=true->x=y
 |none,none,_=>rfl
 |some a,some b,h=>by rw[Dx h]
 |none,some _,h=>by cases h
 |some _,none,h=>by cases h
def Ka:∀ {x y:Option Addr},I2 x y=true->x=y
 |none,none,_=>rfl
 |some a,some b,h=>by
  simp only[I2]at h;split at h
  next h1 c=>
   cases a;cases b;simp only at h1 c h;rw[Dx h1,Dx c,Kg h]
  .cases h
 |none,some _,h=>by cases h
 |some _,none,h=>by cases h
def U1:∀ {x y:Int},y3 x y=true->x=y
 | .ofNat a,.ofNat b,h=>by rw[Dx h]
 | .negSucc a,.negSucc b,h=>by rw[Dx h]
 | .ofNat _,.negSucc _,h=>by cases h
 | .negSucc _,.ofNat _,h=>by cases h
def UX{x y:Int}{u:Unit}(h:Z2 x y=some u):x=y:=by
 unfold Z2 at h;split at h
 next e=>exact U1 e
 .cases h
def UW{x y:Bool}{u:Unit}(h:y2 x y=some u):x=y:=by
 cases x<;>cases y<;>first|rfl|cases h
def zq{x:Nat}:∀ {l:TC},Hf x l=true↔x∈l
 | []=>by simp[Hf]
 |y :: l=>by
  unfold Hf;cases h:Nat.beq x y with
  |true=>simp_all
  |false=>
   have:x≠y:=λe=>kb;simp only[DB,this,false_or];exact zq
def yI:∀ {l m:TC},Cr l m=true->∀x∈l,x∉m
 | [],_,_,_,h=>by cases h
 |y :: l,m,h,x,b=>by
  unfold Cr at h;cases a:Hf y m with
  |true=>rw[a]at h;cases h
  |false=>
   rw[a]at h;rcases DB.1 b with rfl|b
   .intro e;rw[zq.2 e]at a;cases a
   .exact yI h x b
def Lw:∀ {l:List (Value×Nat×Value)} {u:Unit},Dp l=some u->∀p∈l,∀r∈Df p.1,r∉BN p.2.1 p.2.2
 | [],_,_,_,h=>by cases h
 |q :: l,u,h,p,hp=>by
  unfold Dp at h;split at h
  next a=>
   rcases DB.1 hp with rfl|hp
   .exact yI a
   .exact Lw h p hp
  .cases h
def UU{a:Env}{g9:St}(d:Rp a g9){x:TK}{us:Tn}(h:v5 (l_ a x)=some us)(k r:Nat)(b:r∈BN k (jw g9.tmps x)):∃u∈us,r∈BN k u:=by
 have c:l_ a x≠.no:=λe=>by rw[e]at h;cases h
 have f:=(d.l_ rfl c).1;rw[f]at b;generalize l_ a x=s at *;have none:BN k s.val=[]->∃u∈us,r∈BN k u:=λe=>by rw[e]at b;cases b
 cases s with
 |st y=>
  cases y with
  |leaf l=>
   cases l with
   |v u=>
    cases h;exact⟨u,c_,b⟩
   |_=>exact none (by cases k with|zero=>rfl|succ k=>cases k<;>rfl)
  |agg g=>exact none (by cases k with|zero=>rfl|succ k=>cases k<;>rfl)
 |no=>exact absurd rfl c
 |_=>exact none (by cases k with|zero=>rfl|succ k=>cases k<;>rfl)
def gP{c:Env}{g9:St}(d:Rp c g9):∀ {l:List Operand} {us:Tn},sO c l=some us->∀(k r:Nat),r∈l.flatMap (λx=>BN k (jw g9.tmps x))->∃u∈us,r∈BN k u
 | [],_,_,_,_,h=>by cases h
 |x :: l,us,h,k,r,hr=>by
  unfold sO at h;split at h
  next a b f g=>
   cases h;rw[S6,Ek]at hr;rcases hr with hr|hr
   .obtain⟨u,h1,e⟩:=UU d f k r hr
    grind
   .obtain⟨u,h1,e⟩:=gP d g k r hr
    grind
  .cases h
def pv{c:Env}{g9:St}(g:Rp c g9){d:Nat}:∀ {l:List Operand} {us:Tn},sO c l=some us->Operand.tmp d∈l->∃v,g9.tmps[d]?=some v
 |x :: l,us,h,f=>by
  unfold sO at h;split at h
  next a b i j=>
   rcases DB.1 f with rfl|f
   .have k:l_ c (.tmp d)≠.no:=λe=>by rw[e]at i;cases i
    exact⟨_,(g.at (s:=c.tm.getD d .no) rfl k).1⟩
   .exact pv g j f
  .cases h
def uq{b_:TC}{o:Oper}{d:Nat}(a:o.dst=some d)(h:DW b_ o=2):Operand.tmp d∈Sb b_ o:=by
 unfold Sb;rw[h,a];simp
def oW{us vs:Tn}{k:Nat}{u v:TR}(a:u∈us)(b:v∈vs):(u,k,v)∈HQ us k vs:=by
 unfold HQ
 simp_all
def Nm{b_:TC}{t:Env}{g9:St}(c:Rp t g9){a b:Oper}{l:List (Value×Nat×Value)}(h:Jy b_ t a b=some l)(s:∀p∈l,∀r∈Df p.1,r∉BN p.2.1 p.2.2) :
  (∀x∈TT b_ g9.tmps a,x∉w6 b_ g9.tmps b)/\(∀x∈TT b_ g9.tmps a,x∉TT b_ g9.tmps b)/\(∀x∈TT b_ g9.tmps b,x∉w6 b_ g9.tmps a)/\HS b_ g9.tmps a/\HS b_ g9.tmps b:=by
 unfold Jy at h;split at h
 next B C z A m n w y=>
  cases h;refine⟨λx e f=>?_,λx e f=>?_,λx e f=>?_,λd q o=>pv c m (uq q o),λd q o=>pv c n (uq q o)⟩
  .obtain⟨u,g,i⟩:=gP c m 0 x e;obtain⟨v,j,k⟩:=gP c y _ x f;exact s (u,_,v) (Jq _ (Jq _ (oW g j))) x i k
  .obtain⟨u,g,i⟩:=gP c m 0 x e;obtain⟨v,j,k⟩:=gP c n 0 x f;exact s (u,0,v) (Jq _ (S5 _ (oW g j))) x i k
  .obtain⟨u,g,i⟩:=gP c n 0 x e;obtain⟨v,j,k⟩:=gP c w _ x f;exact s (u,_,v) (S5 _ (oW g j)) x i k
 .cases h
def rW{b_:TC}{ops:To}{d:Env}{g9:St}(e:Rp d g9):∀ {c:List (Nat×Nat)} {l:List (Value×Nat×Value)},tZ b_ ops d c=some l->(∀p∈l,∀r∈Df p.1,r∉BN p.2.1 p.2.2)->JT b_ ops g9.tmps c
 | [],_,_,_,_,h=>by cases h
 |q :: c,l,h,f,p,hp=>by
  unfold tZ at h;split at h
  next a b r g i j=>
   obtain⟨x,k,rfl⟩:=DC.1 h;rcases DB.1 hp with rfl|hp
   .exact⟨a,b,g,i,Nm e k λp hp=>f p (Jq _ hp)⟩
   .exact rW e j (λp hp=>f p (S5 _ hp)) p hp
  .cases h
def Kc{x y:TR}{u:Unit}(h:I3 x y=some u):x=y:=by
 unfold I3 at h;split at h
 .split at h
  .split at h
   .simp_all
   .cases h
  .cases h
 .cases h
def U4{x y:TR}{u:Unit}(h:Pa x y=some u):x=y:=by
 unfold Pa at h;split at h
 .split at h
  .split at h
   next e=>rw[Ka e]
   .cases h
  .cases h
 .split at h
  .split at h
   next a b e3=>rw[Ka a,Dx b,Dx e3]
   .cases h
  .cases h
 .split at h
  .split at h
   next e=>rw[Kg e]
   .cases h
  .cases h
 .exact Kc h
section
variable {R HT:Type} {A:B_ R HT} {C:m'} {Sg:Td} {T:Tv} {holds:R->Prop} {abs:HT->Tu}
def Ls(hA:qs A C Sg T holds abs){x y:SL}{K:R}(h:holds (Rn A x y K)):x.val=y.val/\holds K:=by
 unfold Rn at h;split at h
 .split at h
  .split at h
   next e=>
    obtain⟨u,a,b⟩:=hA.j_ _ _ h;rw[UX a,dK e];exact⟨rfl,b⟩
   .exact absurd h hA.fail
  .exact absurd h hA.fail
 .split at h
  .obtain⟨u,a,b⟩:=hA.j_ _ _ h;rw[UW a];exact⟨rfl,b⟩
  .exact absurd h hA.fail
 .split at h
  .obtain⟨u,a,b⟩:=hA.j_ _ _ h;rw[U4 a];exact⟨rfl,b⟩
  .exact absurd h hA.fail
 .exact absurd h hA.fail
def Ag(hA:qs A C Sg T holds abs):∀ {x y:List SL} {K:R},holds (Lt A x y K)->x.map SL.val=y.map SL.val/\holds K
 | [],[],_,h=>⟨rfl,h⟩
 |a :: l,b :: m,K,h=>by
  obtain⟨h1,c⟩:=Ls hA (show holds (Rn A a b (Lt A l m K))from h);obtain⟨d,e⟩:=Ag hA c
  simp_all
 | [],_ :: _,_,h=>absurd h hA.fail
 |_ :: _,[],_,h=>absurd h hA.fail
def samS_ok(hA:qs A C Sg T holds abs){j a:Env}{g9 f:St}(m:Rp j g9)(k:Rp a f){d:Nat}{K:R}(h:holds (samS A (j.tm.getD d .no) (a.tm.getD d .no) K)):(∃x,g9.tmps[d]?=some x/\f.tmps[d]?=some x)/\holds K:=by
 have l:∀ {x y:S0},j.tm.getD d .no = .st x->a.tm.getD d .no = .st y->x.val=y.val->∃z,g9.tmps[d]?=some z/\f.tmps[d]?=some z:=λb c e=>
  ⟨_,(m.at b c_).1,(show f.tmps[d]?=_ from(k.at c c_).1.trans (by show some _=some _;rw[show SV.val (.st _)=S0.val _ from rfl,←e];rfl))⟩
 unfold samS at h;split at h
 next g=>
  split at h
  next i=>
   obtain⟨b,c⟩:=Ls hA h;exact⟨l g i b,c⟩
  .exact absurd h hA.fail
 next g=>
  split at h
  next i=>
   obtain⟨b,c⟩:=Ag hA h;exact⟨l g i (by simp only[S0.val,b]),c⟩
  .exact absurd h hA.fail
 .exact absurd h hA.fail
end
def J'{a:Env}{g9:St}(b:Rp a g9){d:Nat}{x:TR}(h:UT (a.tm.getD d .no)=some x):g9.tmps[d]?=some x:=by
 unfold UT at h;split at h
 next y c=>
  cases h;exact(b.at c c_).1
 .cases h
def sepK_ok{R b:Type}{A:B_ R b}{C:m'}{Sg:Td}{T:Tv}{holds:R->Prop}{abs:b->Tu}(hA:qs A C Sg T holds abs){b_:TC}{ops:To}{e:List (Nat×Nat)}{d:KN R b}{c:Env}{g9:St}(i:Rp c g9){h:b}(a:holds (sepK A b_ ops e d c h)) :
  JT b_ ops g9.tmps e/\holds (d c h):=by
 unfold sepK at a;split at a
 .exact⟨λp k=>(by cases k),a⟩
 .simp only at a;split at a
  next l j=>
   obtain⟨u,f,g⟩:=hA.j_ _ _ a;exact⟨rW i j (Lw f),g⟩
  .exact absurd a hA.fail
end
end Sx
section
variable [Co] [C7] {R HT:Type} {A:B_ R HT} {X:CB} {Sg:Td} {holds:R->Prop} {abs:HT->Tu}
variable {ev:Env} {g9:St} {h:HT} {o:Oper} {K:KN R HT}
def N5(C:m')(b_:TC)(o:Oper)(g9 a:St):Prop:=
 (∃e,au C b_ (jw g9.tmps) o=some e/\mY (uB C) e o.dst g9 a)∨(∃v,nB C g9.tmps o v/\a=g9.put o.dst v)
def vP(b_:TC)(o:Oper):Ts:=
 match o.op,o.dst with
 | .box ..,some d=>if b_.getD d 0=d+2 then some d else none
 | .alloc _,some d=>if b_.getD d 0=d+2 then some d else none
 |_,_=>none
def CF(X:CB)(holds:R->Prop)(abs:HT->Tu)(o:Oper)(g9:St)(K:KN R HT):Prop:=
 ∃b a h',N5 X.C X.b_ o g9 b/\Rp a b/\abs h'=b.heap/\Fr o.dst.toList (vP X.b_ o).toList (jZ X.b_ o).toList g9 b/\holds (K a h')
def yc(c:Rp ev g9){dst:Tq}{s:SV}(e:s.gd)(b:holds (m_ dst s ev h K)):∃a,Rp a (g9.put dst s.val)/\holds (K a h):=by
 unfold m_ at b;cases dst with
 |none=>exact⟨ev,c,b⟩
 |some d=>
  simp only[eS]at b;exact⟨_,c.put d e,b⟩
def dI(e:Rp ev g9)(H':Tu)(f:abs h=H'){s:SV}(i:s.gd)
  (b:N5 X.C X.b_ o g9 (({ g9 with heap:=H' }:St).put o.dst s.val)) (g:holds (m_ o.dst s ev h K)):CF X holds abs o g9 K:=by
 obtain⟨a,c,d⟩:=yc (e.heap H') i g;refine⟨_,a,h,b,c,?_,?_,d⟩
 .rw[f];cases o.dst<;>rfl
 .have:=Fr.put (g9:=({ g9 with heap:=H' }:St)) o.dst s.val (vP X.b_ o).toList (jZ X.b_ o).toList;exact⟨this.Iu,this.Ee,this.tm,this.tp,this.row,this.Ni⟩
def aG(a:Rp ev g9)(b:abs h=g9.heap){s:SV}(e:s.gd)(c:au X.C X.b_ (jw g9.tmps) o=some (.val s.val))(d:holds (m_ o.dst s ev h K)) :
  CF X holds abs o g9 K:=
 dI a g9.heap b e (.inl ⟨_,c,_,rfl,rfl⟩) d
def cF(a:Rp ev g9)(b:abs h=g9.heap){s:SV}(e:s.gd)(c:nB X.C g9.tmps o s.val)(d:holds (m_ o.dst s ev h K)) :
  CF X holds abs o g9 K:=
 dI a g9.heap b e (.inr ⟨_,c,rfl⟩) d
def kP(a:Rp ev g9)(b:abs h=g9.heap){s:SV}(g:s.gd){f:Tu->Tk}(c:au X.C X.b_ (jw g9.tmps) o=some (.EZ f))(d:f g9.heap=some s.val)
  (e:holds (m_ o.dst s ev h K)):CF X holds abs o g9 K:=
 dI a g9.heap b g (.inl ⟨_,c,(g9,s.val),by simp[aW,d],rfl⟩) e
def di(a:Rp ev g9){H':Tu}(b:abs h=H'){s:SV}(g:s.gd){f:Tu->Option (List p_×Value)}(c:au X.C X.b_ (jw g9.tmps) o=some (.F9 f))
  (d:f g9.heap=some (H',s.val)) (e:holds (m_ o.dst s ev h K)):CF X holds abs o g9 K:=
 dI a H' b g (.inl ⟨_,c,({ g9 with heap:=H' },s.val),by simp[aW,d],rfl⟩) e
def KW(a:Rp ev g9)(d:abs h=g9.heap){x:TK}(ho:o.op = .move x∨o.op = .assign x){y:SV}(g:l_ ev x=y)(f:y≠.no)(e:holds (m_ o.dst y ev h K)):CF X holds abs o g9 K:=by
 obtain⟨b,c⟩:=a.l_ g f;refine aG a d c ?_ e;rcases ho with ho|ho<;>simp only[au,ho,b]
def Wv(hA:qs A X.C Sg X.T holds abs)(d:Rp ev g9)(m:abs h=g9.heap){c a b:TK}(n:o.op = .pick c a b)
  (e:holds (match l_ ev c,l_ ev a,l_ ev b with
  | .st (.leaf (.l true)),.st y,_=>m_ o.dst (.st y) ev h K
  | .st (.leaf (.l false)),_,.st y=>m_ o.dst (.st y) ev h K
  | .st (.leaf (.b t)),.st y,.st z=>A.cond t (m_ o.dst (.st y) ev h K) (m_ o.dst (.st z) ev h K)
  |_,_,_=>A.fail)):CF X holds abs o g9 K:=by
 split at e
 next y g i=>
  obtain⟨f,_⟩:=d.l_ g c_;obtain⟨k,j⟩:=d.l_ i c_;refine aG d m j ?_ e;simp only[au,n,f,SV.val,S0.val,SL.val,if_true,k]
 next y g i=>
  obtain⟨f,_⟩:=d.l_ g c_;obtain⟨k,j⟩:=d.l_ i c_;refine aG d m j ?_ e;simp only[au,n,f,SV.val,S0.val,SL.val,k,D7,if_false]
 next t y z g i e3=>
  obtain⟨f,_⟩:=d.l_ g c_;obtain⟨k,j⟩:=d.l_ i c_;obtain⟨r,q⟩:=d.l_ e3 c_;rcases hA.cond _ _ _ e with⟨p,e⟩|⟨p,e⟩
  .refine aG d m j ?_ e;simp only[au,n,f,SV.val,S0.val,SL.val,p,if_true,k]
  .refine aG d m q ?_ e;simp only[au,n,f,SV.val,S0.val,SL.val,p,r,D7,if_false]
 .exact absurd e hA.fail
def KZ(hA:qs A X.C Sg X.T holds abs)(g:Rp ev g9)(F:abs h=g9.heap){t:TP}{x:S0}(u:x.i_)(G:au X.C X.b_ (jw g9.tmps) o=cJ X.C X.b_ o.dst t x.val)
  (hb:(∃y,o.op = .box t y)∨o.op = .alloc t) (b:holds (V7 A X o.dst t x ev h K)):CF X holds abs o g9 K:=by
 unfold V7 at b;split at b
 .exact absurd b hA.fail
 next d j=>
  have ge:=S0.Dg u;have Q:=S0.F5 u;have O:=S0.DY u;split at b
  next k=>
   have k:X.b_.getD d 0=d+2:=by simpa using k
   split at b
   next B=>
    rw[eS,eS]at b;have q:ev.lc[d]?=some .nil:=by
     grind
    have p:g9.loc[d]?=some none:=g.row d _ q;have a:au X.C X.b_ (jw g9.tmps) o=some (.FC d (x.cells.map SL.val)):=by
     rw[G,j];unfold cJ
     simp_all
    let c:St:={ g9 with loc:=g9.loc.set d (some (x.cells.map SL.val)) }
    have z:Rp ⟨ev.tm,ev.lc.set d (.row x.cells)⟩ c:=by
     refine⟨g.len,g.val,by simp[c,g.Ee],λi r m=>?_⟩;simp only[GS]at m;split at m
     next I=>
      subst I;split at m
      next M=>
       cases m;exact⟨jn,u⟩
      .cases m
     next I=>
      have:=g.row i r m;have D:c.loc[i]?=g9.loc[i]?:=jn;cases r<;>first|trivial|(simp only[LR.ok]at this ⊢;rw[D];exact this)
    have n:vP X.b_ o=some d:=by
     rcases hb with⟨y,hb⟩|hb<;>(simp only[vP,hb,j];rw[rv k])
    have f:jZ X.b_ o=some d:=by
     rcases hb with⟨y,hb⟩|hb<;>(simp only[jZ,hb,j];rw[rv k])
    refine⟨c.put o.dst (.pointer (some ⟨d,0,some 0⟩)),_,h,.inl ⟨_,a,(c,.pointer (some ⟨d,0,some 0⟩)),by simp[aW,p,c],rfl⟩,?_,?_,?_,b⟩
    .rw[j];exact z.put d (s:=.GD d 0) trivial
    .rw[F];cases o.dst<;>rfl
    .have L:=Fr.put (g9:=c) o.dst (.pointer (some ⟨d,0,some 0⟩)) [d] [d];have J:Fr o.dst.toList [d] [d] g9 c:=by
      refine⟨rfl,by simp[c],λ_ _ h _ _=>h,λ_ _ _ h _ _=>h,λs y S N=>?_,λs V S N=>?_⟩
      .grind
      grind
     rw[n,f];exact J.trans L
   .exact absurd b hA.fail
  next k=>
   have k:¬X.b_.getD d 0=d+2:=λe=>kb;obtain⟨U,E,w⟩:=hA.new _ _ _ b;rw[F]at E w;have a:au X.C X.b_ (jw g9.tmps) o=some (.F9 λH=>some (H++[.cells x.val.cells.toList (mK X.C.P t) true],.pointer (some ⟨H.length,0,none⟩))):=by
    rw[G,j];unfold cJ
    simp_all
   rw[←j]at w;refine di (s:=.st (.leaf (.v (.pointer (some ⟨g9.heap.length,0,none⟩))))) g E (λl B=>?_) a ?_ w
   .simp only[S0.cells,Fc]at B;subst B;rfl
   .simp only[ge];rfl
def yv(new:Tn):∀(off k:Nat) (cs:Tn),off+k+new.length<=cs.length->
  ((new.zipIdx k).foldl (λ(c:Tl) (p:Value×Nat)=>c.setIfInBounds (off+p.2) p.1) cs.toArray).toList=cs.take (off+k)++new++cs.drop (off+k+new.length):=by
 induction new with
 |nil=>intro off k cs h;simp
 |cons a l d=>
  intro off k cs h;simp only[YV]at h;simp only[List.zipIdx_cons,WJ];have b:(cs.toArray.setIfInBounds (off+k) a)=(cs.set (off+k) a).toArray:=c_;rw[b,d off (k+1) (cs.set (off+k) a) ua];rw[List.take_set,List.drop_set];have e:(cs.take (off+(k+1))).set (off+k) a=cs.take (off+k)++[a]:=by
   rw[show off+(k+1)=(off+k)+1 from by omega];rw[List.take_succ_eq_append_getElem a_,qdo];simp[zP (show off+k<=cs.length by omega)]
  grind
def sX(pl:Nat->Option (Nat×Nat)):∀(b:List (Nat×S0)) (cs r:List SL),(∀p∈b,p.2.i_)->sW pl cs b=some r->
  Instr.fill pl ⟨cs.map SL.val⟩ (b.map λp=>(p.1,p.2.val))=some ⟨r.map SL.val⟩
 | [],cs,r,_,a=>by cases a;rfl
 |(i,x) :: b,cs,r,g,a=>by
  simp only[sW]at a;split at a
  next off n f=>
   split at a
   next e=>
    split at a
    next j c=>
     have e:x.cells.length=n:=by simpa using e
     have s:x.i_:=g (i,x) c_;have k:=S0.Dg s;unfold jd at c;split at c
     next l=>
      cases c;have t:=sX pl b _ r (λp m=>g p (by simp[m])) a;simp only[DD,Instr.fill,f,k];have q:(⟨x.cells.map SL.val⟩ : Array Value).size=n:=by simp[e]
      rw[te (by
       simp_all)]
      rw[←t]
      congr 1
      have d:=yv (x.cells.map SL.val) off 0 (cs.map SL.val) ua;apply v6.1
      simp_all
     .cases c
    .cases a
   .cases a
  .cases a
def qY(pl:Nat->Option (Nat×Nat)):∀(e:List (Nat×S0)) (cs r:List SL),(∀c∈cs,c.i_)->(∀p∈e,p.2.i_)->sW pl cs e=some r->∀c∈r,c.i_
 | [],cs,r,g,_,a=>by cases a;exact g
 |(i,x) :: e,cs,r,g,j,a=>by
  simp only[sW]at a;split at a
  .split at a
   .split at a
    next f d=>
     refine qY pl e f r (λc b=>?_) (λp k=>j p (by simp[k])) a;unfold jd at d;split at d
     .cases d;simp only[Ek]at b;rcases b with(b|b)|b
      .grind
      .exact j (i,x) c_ c b
      grind
     .cases d
    .cases a
   .cases a
  .cases a
def sj{a:List (Nat×Operand)}{xs:List S0}(b:(a.map (·.2)).map (jw g9.tmps)=aj xs) :
  a.map (λp=>(p.1,jw g9.tmps p.2))=((a.map (·.1)).zip xs).map λp=>(p.1,p.2.val):=by
 induction a generalizing xs with
 |nil=>simp
 |cons p a c=>
  cases xs with
  |nil=>simp[aj]at b
  |cons x xs=>
   simp only[DD,aj,Hz]at b;simp only[DD,qcZ,b.1];rw[c (xs:=xs) b.2]
def ut{is:TC}{xs:List S0}(a:∀x∈xs,x.i_):∀p∈is.zip xs,p.2.i_:=λ_ b=>a _ (List.of_mem_zip b).2
def AA{P:TI}{t:TP}{x:S0}(a:yu P t=some x):∃z,eU P t=some z/\x.val=z/\x.i_:=by
 unfold yu at a;obtain⟨z,c,b⟩:=EE.1 a;obtain⟨d,e,_⟩:=tW b
 simp_all
def Ox(hA:qs A X.C Sg X.T holds abs)(n:Rp ev g9)(v:abs h=g9.heap){t:TP}{d:Array (Nat×Operand)}(y:o.op = .build t d)
  (g:holds (match yu X.C.P t,oD X.C.P t,CO ev (d.toList.map (·.2))with
  |some z,some pl,some xs=>match sW pl z.cells ((d.toList.map (·.1)).zip xs)with
   |some cs=>m_ o.dst (.st (.agg cs)) ev h K
   |none=>A.fail
  |_,_,_=>A.fail)):CF X holds abs o g9 K:=by
 split at g
 next z pl xs r u e3=>
  split at g
  next cs e4=>
   obtain⟨F,k,l,i⟩:=AA r;obtain⟨B,j⟩:=n.CO e3;have m:=S0.Dg i;have a:=sX pl _ _ _ (ut (is:=d.toList.map (·.1)) j) e4;have b:=qY pl _ _ _ (λc w=>i c w) (ut (is:=d.toList.map (·.1)) j) e4;refine aG n v (s:=.st (.agg cs)) b ?_ g;have f:(d.toList.all λp=>!aH (jw g9.tmps p.2))=true:=by
    simp only[A_,gE];intro p E;have q:jw g9.tmps p.2∈aj xs:=by
     grind
    simp only[aj,CS]at q;obtain⟨x,D,e⟩:=q;rw[←e];exact S0.DY (j x D)
   simp only[au,y,f,if_true,uz,k,u];rw[sj B,←l,m,a];rfl
  .exact absurd g hA.fail
 .exact absurd g hA.fail
end
def SL.P2{a b:SL}{k:LK}(d:a.is k=true)(e:b.is k=true)(c:a.lf=b.lf):a.val=b.val/\(a.i_->b.i_):=by
 cases a<;>cases b<;>cases k<;>simp only[SL.lf,Lf.i.injEq,Lf.b.injEq,Lf.v.injEq,reduceCtorEq,SL.is,D7]at c d e ⊢<;>try (subst c;exact⟨rfl,id⟩)
 subst c;exact⟨by simp only[SL.val];rw[dK d,dK e],id⟩
def bQ:∀ {cs:List SL} {ks:TJ},aT cs ks=true->cs.length=ks.length
 | [],[],_=>rfl
 |c :: cs,k :: ks,h=>by
  simp only[aT,vd]at h;simp[bQ h.2]
 | [],_ :: _,h=>by cases h
 |_ :: _,[],h=>by cases h
def iy:∀ {a b:List SL} {ks:TJ},aT a ks=true->aT b ks=true->a.map SL.lf=b.map SL.lf->a.map SL.val=b.map SL.val/\((∀c∈a,c.i_)->∀c∈b,c.i_)
 | [],[],[],_,_,_=>⟨rfl,λ_ _ h=>by cases h⟩
 |a :: g,b :: i,k :: ks,d,e,f=>by
  simp only[aT,vd]at d e;simp only[DD,Hz]at f;obtain⟨h1,j⟩:=SL.P2 d.1 e.1 f.1;obtain⟨l,m⟩:=iy d.2 e.2 f.2
  simp_all
 | [],_ :: _,[],_,e,_=>by cases e
 | [],_,_ :: _,d,_,_=>by cases d
 |_ :: _,_,[],d,_,_=>by cases d
 |_ :: _,[],_ :: _,_,e,_=>by cases e
def S0.PT{a b:S0}{h:SK}(c:a.is h=true)(d:b.is h=true)(g:a.cells.map SL.lf=b.cells.map SL.lf):a.val=b.val/\(a.i_->b.i_):=by
 cases h with
 |leaf k=>
  cases a with
  |agg _=>cases c
  |leaf a=>
   cases b with
   |agg _=>cases d
   |leaf b=>
    simp only[S0.cells,DD,Il,Hz,and_true]at g;obtain⟨e,f⟩:=SL.P2 c d g;refine⟨e,λj l i=>?_⟩;simp only[S0.cells,Fc]at i;subst i;exact f (j a (by simp[S0.cells]))
 |agg m=>
  cases a with
  |leaf _=>cases c
  |agg a=>
   cases b with
   |leaf _=>cases d
   |agg b=>
    obtain⟨e,f⟩:=iy c d g;exact⟨by simp only[S0.val,e],f⟩
def S0.PQ{a:S0}{e:SK}(c:a.is e=true):∃n,a.cells.length=n/\∀b:S0,b.is e=true->b.cells.length=n:=by
 refine⟨_,rfl,λb d=>?_⟩;cases e with
 |leaf k=>
  cases a with
  |agg _=>cases c
  |leaf a=>cases b with
   |agg _=>cases d
   |leaf b=>rfl
 |agg f=>
  cases a with
  |leaf _=>cases c
  |agg a=>cases b with
   |leaf _=>cases d
   |agg b=>exact(bQ d).trans (bQ c).symm
def cW:∀ {a b:List S0} {sks:TN},bW a sks=true->bW b sks=true->bX a=bX b->aj a=aj b/\((∀c∈a,c.i_)->∀c∈b,c.i_)
 | [],[],[],_,_,_=>⟨rfl,λ_ _ h=>by cases h⟩
 |a :: o,b :: q,k :: ks,d,e,m=>by
  simp only[bW,vd]at d e;obtain⟨n,j,f⟩:=S0.PQ d.1;have f:=f b e.1;simp only[bX]at m;obtain⟨g,i⟩:=qdm m (by simp[j,f]);obtain⟨p,r⟩:=S0.PT d.1 e.1 g;obtain⟨l,s⟩:=cW d.2 e.2 i;refine⟨by simp only[aj,DD,p]at l ⊢;rw[l],λu c t=>?_⟩
  grind
 | [],_ :: _,[],_,e,_=>by cases e
 | [],_,_ :: _,d,_,_=>by cases d
 |_ :: _,_,[],d,_,_=>by cases d
 |_ :: _,[],_ :: _,_,e,_=>by cases e
section
variable [Co] [C7] {R HT:Type} {A:B_ R HT} {X:CB} {Sg:Td} {holds:R->Prop} {abs:HT->Tu}
variable {ev:Env} {g9:St} {h:HT} {o:Oper} {K:KN R HT}
def si{C:m'}{T:Tv}(hA:qs A C Sg T holds abs):∀ {ks:TJ} {ls:TG} {K:List SL->TG->R},holds (NQ A ks ls K)->
  ∃cs r,ls=cs.map SL.lf++r/\aT cs ks=true/\holds (K cs r)
 | [],ls,K,c=>⟨[],ls,rfl,rfl,c⟩
 | .i k :: ks,ls,K,c=>by
  obtain⟨n,r,rfl,a⟩:=hA.pu _ _ c;obtain⟨cs,f,rfl,d,e⟩:=si hA (ks:=ks) a;exact⟨.i k n :: cs,f,rfl,by simp[aT,SL.is,fq,d],e⟩
 | .b :: ks,ls,K,c=>by
  obtain⟨n,r,rfl,a⟩:=hA.D9 _ _ c;obtain⟨cs,f,rfl,d,e⟩:=si hA (ks:=ks) a;exact⟨.b n :: cs,f,rfl,by simp[aT,SL.is,d],e⟩
 | .v :: ks,ls,K,c=>by
  obtain⟨n,r,rfl,a⟩:=hA.Ci _ _ c;obtain⟨cs,f,rfl,d,e⟩:=si hA (ks:=ks) a;exact⟨.v n :: cs,f,rfl,by simp[aT,SL.is,d],e⟩
def JM{C:m'}{T:Tv}(hA:qs A C Sg T holds abs){d:SK}{ls:TG}{K:S0->TG->R}(c:holds (hv A d ls K)) :
  ∃x r,ls=x.cells.map SL.lf++r/\x.is d=true/\holds (K x r):=by
 cases d with
 |leaf k=>
  cases k with
  |i k=>
   obtain⟨n,r,rfl,a⟩:=hA.pu _ _ c;exact⟨.leaf (.i k n),r,rfl,by simp[S0.is,SL.is,fq],a⟩
  |b=>
   obtain⟨n,r,rfl,a⟩:=hA.D9 _ _ c;exact⟨.leaf (.b n),r,rfl,rfl,a⟩
  |v=>
   obtain⟨n,r,rfl,a⟩:=hA.Ci _ _ c;exact⟨.leaf (.v n),r,rfl,rfl,a⟩
 |agg l=>
  obtain⟨e,r,f,g,j⟩:=si hA c;exact⟨.agg e,r,f,g,j⟩
def qu{C:m'}{T:Tv}(hA:qs A C Sg T holds abs):∀ {sks:TN} {ls:TG} {K:List S0->TG->R},holds (Iw A sks ls K)->
  ∃xs r,ls=bX xs++r/\bW xs sks=true/\holds (K xs r)
 | [],ls,K,a=>⟨[],ls,rfl,rfl,a⟩
 |i :: sks,ls,K,a=>by
  have b:holds (hv A i ls λx r=>Iw A sks r λxs r=>K (x :: xs) r):=a;obtain⟨x,r,rfl,d,c⟩:=JM hA b;obtain⟨xs,g,rfl,e,f⟩:=qu hA (sks:=sks) c;exact⟨x :: xs,g,by simp[bX],by simp[bW,d,e],f⟩
def Ax{C:m'}{T:Tv}(hA:qs A C Sg T holds abs):∀ {ks:TJ} {ls:Tn} {K:List SL->Tn->R},holds (ucL A ks ls K)->
  ∃cs r,ls=cs.map SL.val++r/\aT cs ks=true/\(∀c∈cs,c.i_)/\holds (K cs r)
 | [],ls,K,d=>⟨[],ls,rfl,rfl,c_,d⟩
 | .i k :: ks,ls,K,d=>by
  obtain⟨n,r,rfl,a⟩:=hA.td _ _ _ d;obtain⟨cs,j,rfl,e,f,g⟩:=Ax hA (ks:=ks) a;exact⟨.i k n :: cs,j,rfl,by simp[aT,SL.is,fq,e],Hx.2 ⟨trivial,f⟩,g⟩
 | .b :: ks,ls,K,d=>by
  obtain⟨n,r,rfl,a⟩:=hA.D1 _ _ d;obtain⟨cs,j,rfl,e,f,g⟩:=Ax hA (ks:=ks) a;exact⟨.b n :: cs,j,rfl,by simp[aT,SL.is,e],Hx.2 ⟨trivial,f⟩,g⟩
 | .v :: ks,ls,K,d=>by
  obtain⟨n,r,rfl,a⟩:=hA.BM _ _ d;obtain⟨m,l⟩:=hA.nC _ _ a;obtain⟨cs,j,rfl,e,f,g⟩:=Ax hA (ks:=ks) l;exact⟨.v n :: cs,j,rfl,by simp[aT,SL.is,e],Hx.2 ⟨m,f⟩,g⟩
def sf{C:m'}{T:Tv}(hA:qs A C Sg T holds abs){f:SK}{ls:Tn}{K:S0->Tn->R}(d:holds (JL A f ls K)) :
  ∃x r,ls=x.cells.map SL.val++r/\x.is f=true/\x.i_/\holds (K x r):=by
 cases f with
 |leaf k=>
  cases k with
  |i k=>
   obtain⟨n,r,rfl,a⟩:=hA.td _ _ _ d;exact⟨.leaf (.i k n),r,rfl,by simp[S0.is,SL.is,fq],λl c=>by simp only[S0.cells,Fc]at c;subst c;trivial,a⟩
  |b=>
   obtain⟨n,r,rfl,a⟩:=hA.D1 _ _ d;exact⟨.leaf (.b n),r,rfl,rfl,λl c=>by simp only[S0.cells,Fc]at c;subst c;trivial,a⟩
  |v=>
   obtain⟨n,r,rfl,a⟩:=hA.BM _ _ d;obtain⟨s,e⟩:=hA.nC _ _ a;exact⟨.leaf (.v n),r,rfl,rfl,λl c=>by simp only[S0.cells,Fc]at c;subst c;exact s,e⟩
 |agg t=>
  obtain⟨g,r,j,m,p,q⟩:=Ax hA d;exact⟨.agg g,r,j,m,p,q⟩
def L1{C:m'}{T:Tv}(hA:qs A C Sg T holds abs):∀ {sks:TN} {ls:Tn} {K:List S0->Tn->R},holds (xk A sks ls K)->
  ∃xs r,ls=nV xs++r/\bW xs sks=true/\(∀x∈xs,x.i_)/\holds (K xs r)
 | [],ls,K,a=>⟨[],ls,rfl,rfl,c_,a⟩
 |j :: sks,ls,K,a=>by
  have b:holds (JL A j ls λx r=>xk A sks r λxs r=>K (x :: xs) r):=a;obtain⟨x,r,rfl,e,m,d⟩:=sf hA b;obtain⟨xs,i,rfl,f,k,g⟩:=L1 hA (sks:=sks) d;refine⟨x :: xs,i,by simp[nV],by simp[bW,e,f],λc l=>?_,g⟩
  grind
def VZ(a:Bool)(cs:Tn)(v:Value):Prop:=(a=true/\v = .agg ⟨cs⟩)∨(a=false/\cs=[v])
def rB{x:S0}{a:SK}(c:x.is a=true){v:TR}(b:VZ (ky a) (x.cells.map SL.val) v):x.val=v:=by
 cases a with
 |leaf k=>
  cases x with
  |agg _=>cases c
  |leaf l=>
   rcases b with⟨h,_⟩|⟨_,h⟩
   .cases h
   .simp only[S0.cells,DD,Il,Hz,and_true]at h;exact h
 |agg e=>
  cases x with
  |leaf _=>cases c
  |agg d=>
   rcases b with⟨_,h⟩|⟨h,_⟩
   .exact h.symm
   .cases h
def O9{a b:Bool}(h:O8 a b=true):a=b:=by cases a<;>cases b<;>first|rfl|cases h
def pS{a:Bool}{cs:List SL}{x:S0}(b:GH a cs=some x):x.cells=cs/\VZ a (cs.map SL.val) x.val:=by
 unfold GH at b;split at b
 .cases b;exact⟨rfl,.inl ⟨rfl,rfl⟩⟩
 .cases b;exact⟨rfl,.inr ⟨rfl,rfl⟩⟩
 .cases b
def dc{P:TI}{t:TP}{c:Bool}(a:A2 P t=some c){vs cs:Tn}{off:Nat}(b:cut vs off (if c then P.cellsOf t else 1)=some cs) :
  ∃v,dx P t vs off=some v/\VZ c cs v:=by
 unfold A2 at a;unfold dx;split at a
 next i e=>
  cases a;rw[e];simp only[if_true]at b;exact⟨.agg ⟨cs⟩,by simp[b],.inl ⟨rfl,rfl⟩⟩
 next i e=>
  cases a;rw[e];simp only[if_true]at b;exact⟨.agg ⟨cs⟩,by simp[b],.inl ⟨rfl,rfl⟩⟩
 next d k l e=>
  cases a;rw[e];simp only[D7,if_false]at b;unfold cut at b;split at b
  next j=>
   cases b;have f:off<vs.length:=a_;have g:(vs.drop off).take 1=[vs[off]]:=by
    rw[SZ f];rfl
   refine⟨vs[off],?_,.inr ⟨rfl,g⟩⟩;simp[f]
  .cases b
 .cases a
def mM(hA:qs A X.C Sg X.T holds abs){dst:Tq}{d:SK}{cs:Tn}{v:TR}(j:VZ (ky d) cs v)(g:holds (Hn A dst d cs ev h K)) :
  ∃x:S0,x.val=v/\x.i_/\holds (m_ dst (.st x) ev h K):=by
 obtain⟨x,r,c,e,f,a⟩:=sf hA g;obtain⟨i,b⟩:=hA.v9 _ _ a;rw[i,GU]at c;subst c;exact⟨x,rB e j,f,b⟩
def oY{cs ds:List SL}{off n:Nat}(a:DU cs off n=some ds):cut (cs.map SL.val) off n=some (ds.map SL.val)/\(∀d∈ds,d∈cs):=by
 unfold DU at a;unfold cut;split at a
 next b=>
  cases a;rw[rv (by simpa using b)];exact⟨kb,λd c=>gy (NO c)⟩
 .cases a
def lJ(d:Rp ev g9){s:Nat}{cs:List SL}(a:tT ev s=some cs):g9.loc[s]?=some (some (cs.map SL.val))/\(∀c∈cs,c.i_)/\ev.lc[s]?=some (.row cs):=by
 unfold tT at a;split at a
 next f e=>
  cases a;rw[List.getD_eq_getElem?_getD]at e;cases b:ev.lc[s]? with
  |none=>rw[b]at e;cases e
  |some r=>
   rw[b]at e;simp only[S8]at e;subst e;have:=d.row s _ b;exact⟨this.1,this.2,rfl⟩
 .cases a
def zT{cs:List SL}{a:Nat}{ix:List (Int×Nat)}{n:Nat}{ls:TG}(b:ko (cs.map SL.lf) a ix n=some ls) :
  ∃ds,DU cs (C8 a ix) n=some ds/\ls=ds.map SL.lf:=by
 rw[QR]at b;split at b
 next c=>
  cases b;refine⟨_,by unfold DU;rw[rv (by simpa using c)],kb⟩
 .cases b
def K0:∀(ix:List (Int×Nat)) (a:Nat),a<=C8 a ix
 | [],a=>A9 _
 |p :: l,a=>NN (Nat.le_add_right _ _) (K0 l _)
def nO{cs ds:List SL}{ks:TJ}:∀ {ix:List (Int×Nat)} {a:Nat},ux cs ks a ix=true->DU cs (C8 a ix) ks.length=some ds->aT ds ks=true
 | [],a,h1,b=>by
  simp only[ux,C8]at h1 b
  simp_all
 |p :: l,a,h1,b=>by
  simp only[ux,vd,A_,gE,C8]at h1 b;obtain⟨h0,h1⟩:=h1;refine nO (ix:=l) (h1 p.1.toNat ?_) b;have d:p.2≠0:=λe=>by rw[e]at h0;cases h0
  have c:C8 (a+p.1.toNat*p.2) l<=cs.length:=by
   unfold DU at b
   grind
  have:=K0 l (a+p.1.toNat*p.2);have f:p.1.toNat<=p.1.toNat*p.2:=Nat.le_mul_of_pos_right _ (Nat.pos_of_ne_zero d)
  grind
def VE{x:S0}{b:SK}(a:x.is b=true):aT x.cells (Hq b)=true:=by
 cases b with
 |leaf k=>
  cases x with
  |agg _=>cases a
  |leaf l=>simp[S0.cells,Hq,aT];exact a
 |agg d=>
  cases x with
  |leaf _=>cases a
  |agg c=>exact a
def Lx(hA:qs A X.C Sg X.T holds abs){dst:Tq}{e:SK}{ds:List SL}{v:TR}(l:aT ds (Hq e)=true)(m:∀c∈ds,c.i_)(i:VZ (ky e) (ds.map SL.val) v)
  (n:holds (Ip A dst e (ds.map SL.lf) ev h K)):∃x:S0,x.val=v/\x.i_/\holds (m_ dst (.st x) ev h K):=by
 obtain⟨x,r,f,g,a⟩:=JM hA n;obtain⟨d,b⟩:=hA.w_ _ _ a;rw[d,GU]at f;obtain⟨j,k⟩:=iy l (VE g) f;rw[j]at i;exact⟨x,rB g i,k m,b⟩
def ei(c:SL):c.is c.lk=true:=by cases c<;>first|rfl|exact fq _
def nP:∀cs:List SL,aT cs (cs.map SL.lk)=true
 | []=>rfl
 |c :: cs=>by simp[aT,ei,nP cs]
def iw:∀ {a b:List SL} {d c:TJ},aT a d=true->aT b c=true->aT (a++b) (d++c)=true
 | [],b,[],c,_,h=>h
 |a :: e,b,k :: d,c,h1,f=>by
  simp only[aT,vd,DI]at h1 ⊢;exact⟨h1.1,iw h1.2 f⟩
 | [],_,_ :: _,_,h,_=>by cases h
 |_ :: _,_,[],_,h,_=>by cases h
end
section
variable [Co] [C7] {R HT:Type} {A:B_ R HT} {X:CB} {Sg:Td} {holds:R->Prop} {abs:HT->Tu}
variable {ev:Env} {g9:St} {h:HT} {o:Oper} {K:KN R HT}
def uC(H:Tu)(id:Nat):iD (λi=>H[i]?) id=ge H id:=rfl
def T2{n:Nat}{p:TR}{g:cQ}{cs:Tn}(h:eP n p g=some cs):∃id off vs,p = .pointer (some ⟨id,off,none⟩)/\iD g id=some vs/\cut vs off n=some cs:=by
 unfold eP at h;split at h
 next a=>
  split at h
  next e=>
   obtain⟨vs,c,d⟩:=EE.1 h;obtain⟨b,f,i⟩:=a
   grind
  .cases h
 .cases h
def j5{C:m'}{n:Nat}{p:TR}{g:cQ}{cs:Tn}(h:fs C n p g=some cs):(∃id off vs,p = .pointer (some ⟨id,off,none⟩)/\iD g id=some vs/\cut vs off n=some cs)∨∃id off vs,p = .pointer (some ⟨id,off,some 1⟩)/\C.G id=some vs/\cut vs off n=some cs:=by
 unfold fs at h;split at h
 next a=>
  split at h
  next c=>
   obtain⟨vs,d,e⟩:=EE.1 h;obtain⟨b,f,j⟩:=a
   grind
  next k c=>
   split at h
   next i=>
    obtain⟨vs,d,e⟩:=EE.1 h;obtain⟨b,f,j⟩:=a;simp only at c;subst c;rw[Dx i]
    grind
   .cases h
 .cases h
def VL(hA:qs A X.C Sg X.T holds abs)(k:Rp ev g9)(I:abs h=g9.heap){t:TP}{a:TK}{sk:SK}{F:Bool}(ho:o.op = .load t a)(m:A2 X.C.P t=some F)
  (w:F=ky sk) (d:holds (P7 A X o.dst sk F (if F then X.C.P.cellsOf t else 1) a ev h K)):CF X holds abs o g9 K:=by
 have e:au X.C X.b_ (jw g9.tmps) o=dX X.C X.b_ t a (jw g9.tmps a):=by simp only[au,ho]
 unfold P7 at d;split at d
 next p b E=>
  obtain⟨y,_⟩:=k.l_ E c_;obtain⟨N,h2,u⟩:=hA.my _ _ _ d;simp only[Pk.run]at h2;rw[I]at h2;rcases j5 h2 with⟨id,off,vs,rfl,Z,h4⟩|⟨id,off,vs,rfl,Z,h4⟩
  .rw[uC]at Z;obtain⟨v,r,i⟩:=dc m h4;rw[w]at i;obtain⟨x,rfl,D,n⟩:=mM hA i u;refine kP k I (s:=.st x) D (f:=λH=>(ge H id).bind λvs=>dx X.C.P t vs off) ?_ ?_ n
   .rw[e,dX,b,y];rfl
   .simp only[Z,Ds,r];rfl
  .obtain⟨v,r,i⟩:=dc m h4;rw[w]at i;obtain⟨x,rfl,D,n⟩:=mM hA i u;refine kP k I (s:=.st x) D (f:=λ_=>(X.C.G id).bind λvs=>dx X.C.P t vs off) ?_ ?_ n
   .rw[e,dX,b,y];rfl
   .simp only[Z,Ds,r];rfl
 next g off b E=>
  obtain⟨y,_⟩:=k.l_ E c_;split at d
  next vs V=>
   split at d
   next N q=>
    obtain⟨v,r,i⟩:=dc m q;have j:au X.C X.b_ (jw g9.tmps) o=some (.val v):=by
     rw[e,dX,b,y];simp only[SV.val,gR,if_true,Ds,V,r,EO]
    split at d
    next x an hm=>
     obtain⟨W,L⟩:=pS hm;have al:(N.map Iq).map SL.val=N:=by
      rw[Q8];have:(SL.val ∘ Iq)=id:=funext ug;rw[this,eA]
     rw[al]at L;have hv:x.val=v:=by
      rcases L with⟨M,Q⟩|⟨M,Q⟩<;>rcases i with⟨z,S⟩|⟨z,S⟩
      .rw[Q,S]
      .rw[M]at z;cases z
      .rw[M]at z;cases z
      simp_all
     subst hv;refine aG k I (s:=.st x) (λl hl=>?_) j d;rw[W]at hl;obtain⟨c,ag,rfl⟩:=CS.1 hl;exact qm (A_.1 an c ag)
    .rw[w]at i;obtain⟨x,rfl,D,d⟩:=mM hA i d;exact aG k I (s:=.st x) D j d
   .exact absurd d hA.fail
  .exact absurd d hA.fail
 next g B ix b E=>
  obtain⟨y,_⟩:=k.l_ E c_;split at d
  next vs V=>
   obtain⟨N,q,d⟩:=hA.j_ _ _ d;obtain⟨v,r,i⟩:=dc m (vs:=vs) (off:=C8 B ix) ((QS _ _ _ _).symm.trans q);have j:au X.C X.b_ (jw g9.tmps) o=some (.val v):=by
    rw[e,dX,b,y];simp only[SV.val,gR,if_true,Ds,V,r,EO]
   rw[w]at i;obtain⟨x,rfl,D,d⟩:=mM hA i d;exact aG k I (s:=.st x) D j d
  .exact absurd d hA.fail
 next p b E=>
  obtain⟨y,_⟩:=k.l_ E c_;obtain⟨N,q,u⟩:=hA.j_ _ _ d;unfold eX at q;split at q
  next ad=>
   split at q
   next ap=>
    obtain⟨vs,V,q⟩:=EE.1 q;obtain⟨v,r,i⟩:=dc m q;have j:au X.C X.b_ (jw g9.tmps) o=some (.val v):=by
     rw[e,dX,b,y];simp only[SV.val,S0.val,SL.val,gR,ap,if_true,Ds,V,r,EO]
    rw[w]at i;obtain⟨x,rfl,D,n⟩:=mM hA i u;exact aG k I (s:=.st x) D j n
   .cases q
  .cases q
 next s s' off b E=>
  obtain⟨y,_⟩:=k.l_ E c_;split at d
  next x O Y=>
   have O:s=s':=by simpa using O
   subst O;obtain⟨N,hr,Y⟩:=EE.1 Y;obtain⟨ds,U,Y⟩:=EE.1 Y;obtain⟨r1,r2,_⟩:=lJ k hr;obtain⟨c1,c2⟩:=oY U;obtain⟨v,r,i⟩:=dc m c1;obtain⟨W,L⟩:=pS Y;have hv:x.val=v:=by
    rcases L with⟨M,Q⟩|⟨M,Q⟩<;>rcases i with⟨z,S⟩|⟨z,S⟩
    .rw[Q,S]
    .rw[M]at z;cases z
    .rw[M]at z;cases z
    simp_all
   subst hv;refine dI k g9.heap I (s:=.st x) (λl hl=>?_) (.inl ⟨.Hc s λvs=>dx X.C.P t vs off,?_,(g9,x.val),?_,rfl⟩) d
   .simp_all
   .rw[e,dX,b,y];simp[SV.val,jI]
   .simp[aW,r1,r]
  .exact absurd d hA.fail
 next s s' B ix b E=>
  obtain⟨y,_⟩:=k.l_ E c_;split at d
  next N O hr=>
   have O:s=s':=by simpa using O
   subst O;split at d
   next J=>
    simp only[vd]at J;obtain⟨J,hn⟩:=J;have hn:=Dx hn;obtain⟨ls,hp,u⟩:=hA.j_ _ _ d;obtain⟨ds,U,rfl⟩:=zT hp;obtain⟨r1,r2,_⟩:=lJ k hr;obtain⟨c1,c2⟩:=oY U;obtain⟨v,r,i⟩:=dc m c1;rw[w]at i;rw[hn]at U;obtain⟨x,rfl,D,n⟩:=Lx hA (nO J U) (λc q=>r2 c (c2 c q)) i u;refine dI k g9.heap I (s:=.st x) D (.inl ⟨.Hc s λvs=>dx X.C.P t vs (C8 B ix),?_,(g9,x.val),?_,rfl⟩) n
    .rw[e,dX,b,y];simp[SV.val,jI]
    .simp[aW,r1,r]
   .exact absurd d hA.fail
  .exact absurd d hA.fail
 .exact absurd d hA.fail
def rZ{cs r new:List SL}{off:Nat}(a:jd cs off new=some r):s_ (cs.map SL.val) off (new.map SL.val)=some (r.map SL.val)/\r.length=cs.length/\((∀c∈cs,c.i_)->(∀c∈new,c.i_)->∀c∈r,c.i_):=by
 unfold jd at a;unfold s_;split at a
 next b=>
  cases a;rw[rv (by simpa using b)];refine⟨kb,ua,λd e c f=>?_⟩
  grind
 .cases a
def yq{P:TI}{t:TP}{x:S0}(b:x.i_)(a:x.cells.length=P.cellsOf t)(d:(P.info? t).isSome=true)(vs:Tn)(off:Nat) :
  fi P t x.val vs off=s_ vs off (x.cells.map SL.val):=by
 unfold fi;have c:=S0.Dg b;rw[rv ⟨kb,d⟩,rv (S0.F5 b),c]
def sJ(e:Rp ev g9)(v:abs h=g9.heap){s:Nat}{cs:List SL}{f:Tn->Option (Tn)}{vs:Tn}(w:au X.C X.b_ (jw g9.tmps) o=some (.FD s f))(b:g9.loc[s]?=some (some vs))
  (k:f vs=some (cs.map SL.val)) (n:(cs.map SL.val).length=vs.length) (x:∀c∈cs,c.i_) (p:jZ X.b_ o=some s)
  (z:holds (m_ o.dst .un ⟨ev.tm,ev.lc.set s (.row cs)⟩ h K)):CF X holds abs o g9 K:=by
 let a:St:={ g9 with loc:=g9.loc.set s (some (cs.map SL.val)) }
 have B:s<g9.loc.length:=(s4.1 b).1;have j:Rp ⟨ev.tm,ev.lc.set s (.row cs)⟩ a:=by
  refine⟨e.len,e.val,by simp[a,e.Ee],λi r d=>?_⟩;simp only[GS]at d;split at d
  next m=>
   subst m;split at d
   .cases d;exact⟨jn,x⟩
   .cases d
  next m=>
   have:=e.row i r d;have l:a.loc[i]?=g9.loc[i]?:=jn;cases r<;>first|trivial|(simp only[LR.ok]at this ⊢;rw[l];exact this)
 obtain⟨g,t,u⟩:=yc (dst:=o.dst) j (s:=.un) trivial z;refine⟨a.put o.dst undef,g,h,.inl ⟨_,w,(a,undef),by simp[aW,b,k,a],rfl⟩,t,?_,?_,u⟩
 .rw[v];cases o.dst<;>rfl
 .have k:=Fr.put (g9:=a) o.dst undef (vP X.b_ o).toList (jZ X.b_ o).toList;have q:Fr o.dst.toList (vP X.b_ o).toList (jZ X.b_ o).toList g9 a:=by
   refine⟨rfl,by simp[a],λ_ _ h _ _=>h,λ_ _ _ h _ _=>h,λi y E D=>?_,λi F E D=>?_⟩
   .grind
   grind
  exact q.trans k
def n8{p:TR}{new:Tn}{g:cQ}{n:Nat}{c:List Cw}{cs:Tn}(h:JH p new g n=some (c,cs)) :
  ∃id off vs d e,p = .pointer (some ⟨id,off,none⟩)/\g id=some (.cells vs e true)/\s_ vs off new=some d/\c=[.set id (.cells d e true)]:=by
 unfold JH at h;split at h
 next a=>
  split at h
  next l=>
   split at h
   next vs e k=>
    obtain⟨d,i,j⟩:=DC.1 h;obtain⟨b,f,m⟩:=a
    grind
   .cases h
  .cases h
 .cases h
def RU(hA:qs A X.C Sg X.T holds abs)(m:Rp ev g9)(O:abs h=g9.heap){t:TP}{a y:TK}{x:S0}(ho:o.op = .store t a y)(hy:l_ ev y = .st x)
  (j:holds (JI A X o.dst t a x ev h K)):CF X holds abs o g9 K:=by
 obtain⟨aE,I⟩:=m.l_ hy c_;have I:x.i_:=I;have u:au X.C X.b_ (jw g9.tmps) o=fg X.C X.b_ t a (jw g9.tmps a) x.val:=by simp only[au,ho,aE];rfl
 have G:=S0.DY I;unfold JI at j;split at j
 .exact absurd j hA.fail
 next hc=>
  simp only[vd]at hc;obtain⟨v,hi⟩:=hc;have v:=Dx v;have hw:=yq (P:=X.C.P) (t:=t) I v hi;split at j
  next p d L=>
   obtain⟨J,_⟩:=m.l_ L c_;obtain⟨a3,i,h',Z,h3,D⟩:=hA.heap _ _ _ j;simp only[Hp.run]at Z;rw[O]at Z h3;obtain⟨id,c,N,a2,e,rfl,g1,g2,rfl⟩:=n8 Z;refine di (s:=.un) m (H':=g9.heap.set id (.cells a2 e true)) h3 trivial (f:=jU X.C t id c x.val) ?_ ?_ D
   .rw[u,fg,G,d,J];rfl
   .simp only[jU,g1,hw,g2,EO];rfl
  next s s' c d L=>
   obtain⟨J,_⟩:=m.l_ L c_;have l:jZ X.b_ o=some s:=by simp only[jZ,ho,d]
   split at j
   next i H k=>
    have H:s=s':=by simpa using H
    subst H;rw[eS]at j;have g:au X.C X.b_ (jw g9.tmps) o=some (.FD s λN=>fi X.C.P t x.val N c):=by
     rw[u,fg,G,d,J];simp[SV.val,jI]
    have ap:ev.lc[s]?=some (ev.lc.getD s .Ix)∨ev.lc.getD s .Ix = .Ix:=by
     grind
    unfold RR at k;split at k
    next W hl=>
     obtain⟨q1,q2,q3⟩:=rZ k;have E:ev.lc[s]?=some (.row W):=kb;have S:=m.row s _ E;exact sJ m O g S.1 (by rw[hw];exact q1) (by simp[q2]) (q3 S.2 I) l j
    next n hl=>
     split at k
     next hz=>
      cases k;simp only[vd]at hz;have a0:=Dx hz.1;have a1:=Dx hz.2;have E:ev.lc[s]?=some (.any n):=kb;obtain⟨N,ax,ay⟩:=m.row s _ E;refine sJ m O g ax ?_ (by rw[ay,a1];simp) I l j;rw[hw,a0,s_,rv ua]
      simp_all
     .cases k
    .cases k
   .exact absurd j hA.fail
  next s s' B ix d L=>
   obtain⟨J,_⟩:=m.l_ L c_;have l:jZ X.b_ o=some s:=by simp only[jZ,ho,d]
   split at j
   next i H S=>
    have H:s=s':=by simpa using H
    subst H;split at j
    .exact absurd j hA.fail
    next ad=>
     obtain⟨ls,Q,D⟩:=hA.j_ _ _ j;obtain⟨V,r,e1,e2,ag⟩:=si hA D;obtain⟨an,M⟩:=hA.w_ _ _ ag;rw[an,GU]at e1;rw[eS]at M;obtain⟨r1,r2,_⟩:=lJ m S;have g:au X.C X.b_ (jw g9.tmps) o=some (.FD s λN=>fi X.C.P t x.val N (C8 B ix)):=by
      rw[u,fg,G,d,J];simp[SV.val,jI]
     rw[WE]at Q;split at Q
     next F=>
      simp only[FV]at F
      let c:=C8 B ix
      have a4:DU i c x.cells.length=some ((i.drop c).take x.cells.length):=by unfold DU;rw[rv F]
      have a6:aT ((i.drop c).take x.cells.length) (x.cells.map SL.lk)=true:=nO ad jn
      let z:=i.take c++x.cells++i.drop (c+x.cells.length)
      have av:jd i c x.cells=some z:=by unfold jd;rw[rv F]
      obtain⟨q1,q2,q3⟩:=rZ av;have w:aT z (i.map SL.lk)=true:=by
       have U:i=i.take c++(i.drop c).take x.cells.length++i.drop (c+x.cells.length):=by
        rw[EF,←n5,WM,WM]
       have a7:∀ {a b:List SL},aT a (b.map SL.lk)=true->a.map SL.lk=b.map SL.lk:=by
        intro a b q
        induction a generalizing b with
        |nil=>cases b with
         |nil=>rfl
         |cons _ _=>cases q
        |cons a a5 ih=>cases b with
         |nil=>cases q
         |cons b bs=>
          simp only[DD,aT,vd]at q;simp only[DD,ih q.2];have:a.lk=b.lk:=by
           have Y:=q.1;cases a<;>cases b<;>first|rfl|(simp[SL.is,SL.lk]at Y;done)|(simp only[SL.is,SL.lk]at Y ⊢;rw[dK Y])
          rw[this]
       have hm:i.map SL.lk=(i.take c).map SL.lk++x.cells.map SL.lk++(i.drop (c+x.cells.length)).map SL.lk:=by
        grind
       rw[hm];exact iw (iw (nP _) (nP _)) (nP _)
      have al:z.map SL.lf=V.map SL.lf:=by
       rw[←e1];cases Q;simp[z,c,List.map_take,List.map_drop]
      obtain⟨v1,v2⟩:=iy w e2 al;refine sJ m O g r1 jn (by rw[←v1];simp[q2]) (v2 (q3 r2 I)) l M
     .cases Q
   .exact absurd j hA.fail
  .exact absurd j hA.fail
end
end Go.Am
end

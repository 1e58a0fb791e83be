import Derived.Test.YtekebdoegplamaaGreatDoorOF2
import Derived.IntWalk
set_option linter.all false
noncomputable section
set_option maxRecDepth 100000
open Option renaming some->O,none->Q
open Bool renaming true->J,false->U
open List renaming length->W,range->EW
open Go.Value renaming int->EO,slice->DW,pointer->EQ,agg->EU
open Go.IntKind renaming i64->DQ,u8->DU
open Go renaming Value->FO,Oper->FQ,Operand->GJ,BinOp->GO
open Go.Am.wa renaming cells->EJ
namespace Go.Am
section
variable {R HT:Type} (A:Eh R HT)
def Eh.k0(l:TG)(k:FO->R):R:=A.D3 l λa l=>A.C3 l (k a)
def Eh.k1(l:TG)(k:Int->Int->FO->Int->Int->Int->FO->R):R:=A.qs l λa l=>A.qs l λb l=>A.D3 l λc l=>A.qs l λd l=>A.qs l λe l=>A.qs l λf l=>A.D3 l λg l=>A.C3 l (k a b c d e f g)
def Eh.k2(l:TG)(k:Bool->R):R:=A.GM l λa l=>A.C3 l (k a)
def Eh.k3(l:TG)(k:FO->Int->R):R:=A.D3 l λa l=>A.qs l λb l=>A.C3 l (k a b)
def Eh.k4(l:TG)(k:Int->R):R:=A.qs l λa l=>A.C3 l (k a)
def Eh.k5(l:Tn)(k:Int->R):R:=A.ua DU l λa l=>A.wb l (k a)
def Eh.k6(l:Tn)(k:Int->R):R:=A.ua DQ l λa l=>A.wb l (k a)
def Eh.k7(l:TG)(k:Int->Int->Int->R):R:=A.qs l λa l=>A.qs l λb l=>A.qs l λc l=>A.C3 l (k a b c)
def Eh.k8(l:TG)(k:Int->Int->R):R:=A.qs l λa l=>A.qs l λb l=>A.C3 l (k a b)
def Eh.k9(l:Tn)(k:Int->Int->Int->R):R:=A.ua DU l λa l=>A.ua DQ l λb l=>A.ua DQ l λc l=>A.wb l (k a b c)
def Eh.IA(l:Tn)(k:Int->Int->Int->R):R:=A.ua DQ l λa l=>A.ua DQ l λb l=>A.ua DU l λc l=>A.wb l (k a b c)
def Eh.Ib(l:TG)(k:Int->Int->Int->Int->R):R:=A.qs l λa l=>A.qs l λb l=>A.qs l λc l=>A.qs l λd l=>A.C3 l (k a b c d)
def Eh.Vj(l:TG)(k:Int->Bool->R):R:=A.qs l λa l=>A.GM l λb l=>A.C3 l (k a b)
def Eh.LN(l:TG)(k:Int->Int->Int->Int->Int->Int->R):R:=A.qs l λa l=>A.qs l λb l=>A.qs l λc l=>A.qs l λd l=>A.qs l λe l=>A.qs l λf l=>A.C3 l (k a b c d e f)
def Eh.M8(l:Tn)(k:Int->Int->Int->R):R:=A.ua DQ l λa l=>A.ua DU l λb l=>A.ua DU l λc l=>A.wb l (k a b c)
def Eh.KM(l:Tn)(k:Int->Int->R):R:=A.ua DQ l λa l=>A.ua DQ l λb l=>A.wb l (k a b)
def Eh.cd(o:GO)(x y:Int)(p q:R):R:=A.cmp o x y λt=>A.cond t p q
def Eh.ix(e:Nat)(x:FO)(n:Int)(w:Nat)(h:HT)(k:Tn->R):R:=A.km (D8 e x n) λp=>A.oo (.lg cc w p) h k
def Eh.fx(e:Nat)(x:FO)(n:Int)(o w:Nat)(h:HT)(k:Tn->R):R:=A.km (D8 e x n) λp=>A.km (Fq o p) λq=>A.qa q (A.oo (.lg cc w q) h k)
def Eh.c0(f:TT)(ls:TG)(h:HT)(k:HT->FO->R):R:=A.call f ls h λl h=>A.k0 l (k h)
def Eh.c2(f:TT)(ls:TG)(h:HT)(k:HT->Bool->R):R:=A.call f ls h λl h=>A.k2 l (k h)
def Eh.c4(f:TT)(ls:TG)(h:HT)(k:HT->Int->R):R:=A.call f ls h λl h=>A.k4 l (k h)
def Eh.c7(f:TT)(ls:TG)(h:HT)(k:HT->Int->Int->Int->R):R:=A.call f ls h λl h=>A.k7 l (k h)
def Eh.c8(f:TT)(ls:TG)(h:HT)(k:HT->Int->Int->R):R:=A.call f ls h λl h=>A.k8 l (k h)
def Eh.MK(f:TT)(ls:TG)(h:HT)(k:HT->Int->Int->Int->Int->R):R:=A.call f ls h λl h=>A.Ib l (k h)
def Eh.Lv(f:TT)(ls:TG)(h:HT)(k:HT->Int->Bool->R):R:=A.call f ls h λl h=>A.Vj l (k h)
def Eh.ln(x:FO)(k:Int->R):R:=A.km (KP x) k
def Eh.pa(a b:Int)(k:Int->R):R:=A.C5 .add DQ a b k
def Eh.ps(a b:Int)(k:Int->R):R:=A.C5 .sub DQ a b k
def Eh.pm(a b:Int)(k:Int->R):R:=A.C5 .mul DQ a b k
def Eh.pq(a b:Int)(k:Int->R):R:=A.C5 .quo DQ a b k
def Eh.ci(a:Int)(k:Int->R):R:=A.conv DQ a k
def Eh.fp(n:Nat)(p:FO)(k:FO->R):R:=A.km (EZ p) λa=>A.qa a (A.km (Fq n a) λb=>A.qa b (k b))
def Eh.lv(x:FO)(h:HT)(k:FO->R):R:=A.oo (.lg cc 1 x) h λl=>A.C7 l λa l=>A.qa a (A.wb l (k a))
def Eh.av(e b:Nat)(x y:FO)(h:HT)(k:FO->HT->R):R:=A.heap (.ap cc e b x y) h λl h=>A.C7 l λa l=>A.qa a (A.wb l (k a h))
def qeq:(∀l k,A.k0 l k=A.D3 l λc l=>A.C3 l (k c))/\(∀l k,A.k1 l k=A.qs l λc l=>A.qs l λa1 l=>A.D3 l λa2 l=>A.qs l λd l=>A.qs l λg l=>A.qs l λi l=>A.D3 l λj l=>A.C3 l (k c a1 a2 d g i j))/\(∀l k,A.k2 l k=A.GM l λc l=>A.C3 l (k c))/\(∀l k,A.k3 l k=A.D3 l λc l=>A.qs l λa1 l=>A.C3 l (k c a1))/\(∀l k,A.k4 l k=A.qs l λc l=>A.C3 l (k c))/\(∀l k,A.k5 l k=A.ua DU l λc l=>A.wb l (k c))/\(∀l k,A.k6 l k=A.ua DQ l λc l=>A.wb l (k c))/\(∀l k,A.k7 l k=A.qs l λc l=>A.qs l λa1 l=>A.qs l λa2 l=>A.C3 l (k c a1 a2))/\(∀l k,A.k8 l k=A.qs l λc l=>A.qs l λa1 l=>A.C3 l (k c a1))/\(∀l k,A.k9 l k=A.ua DU l λc l=>A.ua DQ l λa1 l=>A.ua DQ l λa2 l=>A.wb l (k c a1 a2))/\(∀l k,A.IA l k=A.ua DQ l λc l=>A.ua DQ l λa1 l=>A.ua DU l λa2 l=>A.wb l (k c a1 a2))/\(∀l k,A.Ib l k=A.qs l λc l=>A.qs l λa1 l=>A.qs l λa2 l=>A.qs l λd l=>A.C3 l (k c a1 a2 d))/\(∀l k,A.Vj l k=A.qs l λc l=>A.GM l λa1 l=>A.C3 l (k c a1))/\(∀l k,A.LN l k=A.qs l λc l=>A.qs l λa1 l=>A.qs l λa2 l=>A.qs l λd l=>A.qs l λg l=>A.qs l λi l=>A.C3 l (k c a1 a2 d g i))/\(∀l k,A.M8 l k=A.ua DQ l λc l=>A.ua DU l λa1 l=>A.ua DU l λa2 l=>A.wb l (k c a1 a2))/\(∀l k,A.KM l k=A.ua DQ l λc l=>A.ua DQ l λa1 l=>A.wb l (k c a1))/\(∀o x y p q,A.cd o x y p q=A.cmp o x y λt=>A.cond t p q)/\(∀e x n w h k,A.ix e x n w h k=A.km (D8 e x n) λp=>A.oo (.lg cc w p) h k)/\(∀e x n o w h k,A.fx e x n o w h k=A.km (D8 e x n) λp=>A.km (Fq o p) λq=>A.qa q (A.oo (.lg cc w q) h k))/\(∀f ls h k,A.c0 f ls h k=A.call f ls h λl h=>A.k0 l (k h))/\(∀f ls h k,A.c2 f ls h k=A.call f ls h λl h=>A.k2 l (k h))/\(∀f ls h k,A.c4 f ls h k=A.call f ls h λl h=>A.k4 l (k h))/\(∀f ls h k,A.c7 f ls h k=A.call f ls h λl h=>A.k7 l (k h))/\(∀f ls h k,A.c8 f ls h k=A.call f ls h λl h=>A.k8 l (k h))/\(∀f ls h k,A.MK f ls h k=A.call f ls h λl h=>A.Ib l (k h))/\(∀f ls h k,A.Lv f ls h k=A.call f ls h λl h=>A.Vj l (k h))/\(∀x k,A.ln x k=A.km (KP x) k)/\(∀a b k,A.pa a b k=A.C5 .add DQ a b k)/\(∀a b k,A.ps a b k=A.C5 .sub DQ a b k)/\(∀a b k,A.pm a b k=A.C5 .mul DQ a b k)/\(∀a b k,A.pq a b k=A.C5 .quo DQ a b k)/\(∀a k,A.ci a k=A.conv DQ a k)/\(∀n p k,A.fp n p k=A.km (EZ p) λa=>A.qa a (A.km (Fq n a) λb=>A.qa b (k b)))/\(∀x h k,A.lv x h k=A.oo (.lg cc 1 x) h λl=>A.C7 l λa l=>A.qa a (A.wb l (k a)))/\(∀e b x y h k,A.av e b x y h k=A.heap (.ap cc e b x y) h λl h=>A.C7 l λa l=>A.qa a (A.wb l (k a h))):=by
 refine⟨?_,?_,?_,?_,?_,?_,?_,?_,?_,?_,?_,?_,?_,?_,?_,?_,?_,?_,?_,?_,?_,?_,?_,?_,?_,?_,?_,?_,?_,?_,?_,?_,?_,?_,?_⟩<;>intros<;>rfl
variable(ls:TG)(h:HT)(K:TG->HT->R)
def f3:R:=A.qs ls λa b=>A.qs b λb c=>A.k0 c λc=>A.C5 .rem DU a 3 λa=>A.C5 .rem DU b 3 λb=>A.call 4 [.i a,.i b,.v c] h λa b=>A.k1 a λa d e f g i j=>A.ln c λc=>A.cd .gtr c 4 (A.c2 5 [] b λa b=>K [.b b] a) (A.call 6 [.i a,.i d,.v e,.i f,.i g,.i i] b λb c=>A.qs b λb k=>A.qs k λk l=>A.D3 l λl m=>A.qs m λm n=>A.qs n λn o=>A.qs o λo p=>A.k3 p λp q=>A.cd .neq q 0 (K [.b U] c) (A.c4 7 [.i b,.i k,.v l,.i m,.i n,.i o,.v p] c λc q=>A.cd .neq q 0 (K [.b U] c) (A.eqs [(.i m,.i f),(.i n,.i g),(.i o,.i i)] λq=>A.cond (!q) (K [.b U] c) (A.c2 8 [.i b,.i k,.v l,.i a,.i d,.v e] c λc q=>A.cond (!q) (K [.b U] c) (A.c4 9 [.i b,.i k,.v l,.i m,.i n,.i o,.v p,.i a,.i d,.v e,.i f,.i g,.i i,.v j] c λb c=>A.cd .gtr c 0 (K [.b U] b) (A.call 10 [.i a,.i d,.v e,.i f,.i g,.i i,.i 50] b λb c=>A.k3 b λb k=>A.cd .neq k 0 (K [.b U] c) (A.ln b λk=>A.cd .eql k 0 (K [.b U] c) (A.ln b λk=>A.cmp .eql k 50 λk=>A.loop (λc k l=>A.GM k λk m=>A.k4 m λm=>A.ln b λn=>A.cd .lss m n (A.join (λa d=>A.k2 a λa=>A.cd .gtr m 0 (A.ps m 1 λe=>A.ix 7 b e 7 d λe=>A.ua DQ e λe f=>A.ua DQ f λf g=>A.C7 g λg i=>A.qa g (A.ua DU i λi j=>A.ua DQ j λj k=>A.ua DQ k λk l=>A.C7 l λl n=>A.qa l (A.wb n (A.ix 7 b m 7 d λb=>A.ua DQ b λb n=>A.ua DQ n λn o=>A.C7 o λo p=>A.qa o (A.ua DU p λp q=>A.ua DQ q λq r=>A.ua DQ r λr s=>A.C7 s λs t=>A.qa s (A.wb t (A.c4 9 [.i e,.i f,.v g,.i i,.i j,.i k,.v l,.i b,.i n,.v o,.i p,.i q,.i r,.v s] d λb d=>A.cmp .geq d 0 λd=>A.join (λb d=>A.C3 b (A.pa m 1 λb=>c [.b a,.i b] d)) λa=>A.cond d (K [.b U] b) (a [] b)))))))) (A.pa m 1 λb=>c [.b a,.i b] d)) λc=>A.cond k (c [.b J] l) (A.ix 7 b m 7 l λb=>A.ua DQ b λb k=>A.ua DQ k λk m=>A.C7 m λm n=>A.qa m (A.ua DU n λn o=>A.ua DQ o λo p=>A.ua DQ p λp q=>A.C7 q λq r=>A.qa q (A.wb r (A.c2 11 [.i b,.i k,.v m,.i n,.i o,.i p,.v q,.i a,.i d,.v e,.i f,.i g,.i i,.v j] l λa b=>c [.b b] a))))) (A.join (λa b=>A.k2 a λa=>K [.b a] b) λa=>A.cond k (A.c2 5 [] l λb c=>a [.b c] b) (a [.b U] l))) [.b k,.i 0] c))))))))
def f4:R:=A.qs ls λa b=>A.qs b λb c=>A.k0 c λc=>A.C5 .rem DU a 4 λa=>A.ci a λa=>A.pa 1 a λa=>A.C5 .rem DU b 4 λb=>A.ci b λb=>A.pa 1 b λb=>A.call 12 [.i a,.i b] h λa b=>A.k1 a λa d e f g i j=>A.join (λa b=>A.k1 a λa c d e f g i=>K [.i a,.i c,.v d,.i e,.i f,.i g,.v i] b) λk=>A.loop (λa b d=>A.qs b λb e=>A.k1 e λe f g i j l m=>A.ln c λn=>A.cd .lss b n (A.cd .lss b 5 (A.c0 13 [.i e,.i f,.v g,.i i,.i j,.i l,.v m] d λd n=>A.ln n λo=>A.cd .eql o 0 (k [.i e,.i f,.v g,.i i,.i j,.i l,.v m] d) (A.km (D8 3 c b) λk=>A.km (Y9 3 1 k 0) λk=>A.qa k (A.oo (.lg cc 1 k) d λk=>A.k5 k λk=>A.ci k λk=>A.ln n λo=>A.C5 .rem DQ k o λk=>A.ix 2 n k 2 d λk=>A.ua DU k λk n=>A.k6 n λn=>A.km (D8 3 c b) λo=>A.km (Y9 3 1 o 1) λo=>A.qa o (A.oo (.lg cc 1 o) d λo=>A.k5 o λo=>A.C5 .rem DU o 2 λo=>A.km (D8 3 c b) λc=>A.km (Y9 3 1 c 2) λc=>A.qa c (A.oo (.lg cc 1 c) d λc=>A.k5 c λc=>A.C5 .rem DU c 2 λc=>A.cmp .eql c 1 λc=>A.call 14 [.i e,.i f,.v g,.i i,.i j,.i l,.v m,.i k,.i n,.i o,.b c] d λc d=>A.k1 c λc e f g i j k=>A.pa b 1 λb=>a [.i b,.i c,.i e,.v f,.i g,.i i,.i j,.v k] d))))) (k [.i e,.i f,.v g,.i i,.i j,.i l,.v m] d)) (k [.i e,.i f,.v g,.i i,.i j,.i l,.v m] d)) [.i 0,.i a,.i d,.v e,.i f,.i g,.i i,.v j] b
def f5:R:=A.C3 ls (A.new (EJ [] 1 J) h λa b=>A.new (EJ [EO DU 2] 1 J) b λb c=>A.new (EJ [EO DU 3] 1 J) c λc d=>A.new (EJ [EO DU 2,EO DU 2] 1 J) d λd e=>A.new (EJ [EO DU 2,EO DU 1] 1 J) e λe f=>A.new (EJ [EO DU 3,EO DU 3] 1 J) f λf g=>A.new (EJ [DW (O ⟨a,0,O 11⟩) 0 1,DW (O ⟨b,0,O 11⟩) 1 2,DW (O ⟨c,0,O 11⟩) 1 2,DW (O ⟨d,0,O 11⟩) 2 3,DW (O ⟨e,0,O 11⟩) 2 3,DW (O ⟨f,0,O 11⟩) 2 3] 1 J) g λa b=>A.new (EJ [EO DQ 1,EO DQ 1,EO DQ 2,EO DQ 2,EO DQ 1,EO DQ 6] 1 J) b λb c=>A.loop (λc d e=>A.k4 d λd=>A.km (KP (DW (O ⟨a,0,O 11⟩) 6 7)) λf=>A.cd .lss d f (A.km (D8 1 (DW (O ⟨a,0,O 11⟩) 6 7) d) λa=>A.lv a e λa=>A.call 16 [.v a] e λa e=>A.qs a λa f=>A.qs f λf g=>A.k0 g λg=>A.c7 17 [] e λe i j k=>A.c8 15 [.i a,.i f,.v g,.i i,.i j,.i k,.i 100] e λa e f=>A.km (D8 1 (DW (O ⟨b,0,O 11⟩) 6 7) d) λb=>A.oo (.lg cc 1 b) a λb=>A.k6 b λb=>A.cd .neq e b (K [.b U] a) (A.cd .neq f 0 (K [.b U] a) (A.pa d 1 λb=>c [.i b] a))) (A.km (D8 1 (DW (O ⟨a,0,O 11⟩) 6 7) 2) λa=>A.lv a e λa=>A.call 16 [.v a] e λa b=>A.qs a λa c=>A.qs c λc d=>A.k0 d λd=>A.c7 17 [] b λb e f g=>A.call 6 [.i a,.i c,.v d,.i e,.i f,.i g] b λa b=>A.qs a λ_ a=>A.qs a λ_ a=>A.D3 a λ_ a=>A.qs a λ_ a=>A.qs a λ_ a=>A.qs a λ_ a=>A.k3 a λa c=>A.join (λa b=>A.k2 a λa=>K [.b a] b) λd=>A.cd .eql c 0 (A.ln a λc=>A.cd .eql c 4 (A.km (D8 4 a 0) λc=>A.km (Fq 3 c) λc=>A.qa c (A.lv c b λc=>A.ln c λc=>A.cd .eql c 2 (A.km (D8 4 a 0) λc=>A.km (Fq 3 c) λc=>A.qa c (A.lv c b λc=>A.km (D8 1 c 0) λc=>A.oo (.lg cc 1 c) b λc=>A.k6 c λc=>A.cd .eql c 0 (A.km (D8 4 a 0) λa=>A.km (Fq 3 a) λa=>A.qa a (A.lv a b λa=>A.km (D8 1 a 1) λa=>A.oo (.lg cc 1 a) b λa=>A.k6 a λa=>A.cmp .eql a 4 λa=>d [.b a] b)) (d [.b U] b))) (d [.b U] b))) (d [.b U] b)) (d [.b U] b))) [.i 0] c)
def f6:R:=A.qs ls λa b=>A.qs b λb c=>A.D3 c λc d=>A.k7 d λd e f=>A.new (EJ [EO DQ 0,EO DQ 0,DW Q 0 0,EO DU 0,EO DQ 0,EO DQ 0,DW Q 0 0] 7 J) h λg i=>A.new (EJ [EO DQ 0] 1 J) i λi j=>A.call 18 [.i a,.i b,.v c,.i d,.i e,.i f] j λa b=>A.k3 a λa c=>A.cd .neq c 0 (A.heap (.st (EQ (O ⟨g,0,Q⟩)) [EO DQ 0,EO DQ 0,DW Q 0 0,EO DU 0,EO DQ 0,EO DQ 0,DW Q 0 0]) b λ_ a=>A.heap (.st (EQ (O ⟨i,0,Q⟩)) [EO DQ c]) a λ_ a=>A.oo (.ld 7 (EQ (O ⟨g,0,Q⟩))) a λb=>A.ua DQ b λb c=>A.ua DQ c λc d=>A.C7 d λd e=>A.qa d (A.ua DU e λe f=>A.ua DQ f λf g=>A.ua DQ g λg j=>A.C7 j λj k=>A.qa j (A.wb k (A.km (H0 d) λ_=>A.km (H0 j) λ_=>A.oo (.ld 1 (EQ (O ⟨i,0,Q⟩))) a λi=>A.k6 i λi=>K [.i b,.i c,.v d,.i e,.i f,.i g,.v j,.i i] a)))) (A.c0 19 [.v a] b λa b=>A.Gr 96 b [EQ (O ⟨g,0,Q⟩),EQ (O ⟨i,0,Q⟩)] a λa b=>A.F4 a (A.heap (.st (EQ (O ⟨g,0,Q⟩)) [EO DQ 0,EO DQ 0,DW Q 0 0,EO DU 0,EO DQ 0,EO DQ 0,DW Q 0 0]) b λ_ a=>A.heap (.st (EQ (O ⟨i,0,Q⟩)) [EO DQ 15]) a λ_ a=>A.oo (.ld 7 (EQ (O ⟨g,0,Q⟩))) a λb=>A.ua DQ b λb c=>A.ua DQ c λc d=>A.C7 d λd e=>A.qa d (A.ua DU e λe f=>A.ua DQ f λf g=>A.ua DQ g λg j=>A.C7 j λj k=>A.qa j (A.wb k (A.km (H0 d) λ_=>A.km (H0 j) λ_=>A.oo (.ld 1 (EQ (O ⟨i,0,Q⟩))) a λi=>A.k6 i λi=>K [.i b,.i c,.v d,.i e,.i f,.i g,.v j,.i i] a)))) (A.oo (.ld 7 (EQ (O ⟨g,0,Q⟩))) b λa=>A.ua DQ a λa c=>A.ua DQ c λc d=>A.C7 d λd e=>A.qa d (A.ua DU e λe f=>A.ua DQ f λf g=>A.ua DQ g λg j=>A.C7 j λj k=>A.qa j (A.wb k (A.km (H0 d) λ_=>A.km (H0 j) λ_=>A.oo (.ld 1 (EQ (O ⟨i,0,Q⟩))) b λi=>A.k6 i λi=>K [.i a,.i c,.v d,.i e,.i f,.i g,.v j,.i i] b)))) [])
def f7:R:=A.k1 ls λa b c d e f g=>A.call 20 [.i a,.i b,.v c,.i d,.i e,.i f] h λd e=>A.k3 d λd f=>A.cd .eql f 0 (K [.i 11] e) (A.ln d λf=>A.c4 21 [.v g,.i f] e λe f=>A.cd .neq f 0 (K [.i f] e) (A.loop (λe f i=>A.k4 f λf=>A.ln g λj=>A.cd .lss f j (A.loop (λc i j=>A.k4 i λi=>A.fx 4 g f 3 1 j λk=>A.C7 k λk l=>A.qa k (A.wb l (A.ln k λk=>A.cd .lss i k (A.fx 4 g f 3 1 j λe=>A.C7 e λe k=>A.qa e (A.wb k (A.ix 1 e i 1 j λe=>A.k6 e λe=>A.ix 3 d e 3 j λd=>A.k9 d λd k l=>A.c7 23 [.i a,.i b,.i e] j λa b e j=>A.c7 22 [.i d,.i k,.i l,.i b,.i e,.i j] a λa b d e=>A.fx 4 g f 0 3 a λf=>A.IA f λf g j=>A.eqs [(.i b,.i f),(.i d,.i g),(.i e,.i j)] λb=>A.cond (!b) (K [.i 6] a) (A.pa i 1 λb=>c [.i b] a)))) (A.pa f 1 λa=>e [.i a] j)))) [.i 0] i) (A.c0 24 [.i a,.i b,.v c] i λe f=>A.loop (λe i j=>A.k8 i λi k=>A.ln g λl=>A.cd .lss k l (A.fx 4 g k 0 3 j λl=>A.IA l λl m n=>A.loop (λi j o=>A.k8 j λj p=>A.cd .lss p 3 (A.c7 25 [.i l,.i m,.i n,.i p] o λe k o q=>A.c0 26 [.i a,.i b,.v c,.v f,.v d,.v g,.i l,.i m,.i n,.i k,.i o,.i q] e λe r=>A.c0 26 [.i a,.i b,.v c,.v f,.v d,.v g,.i k,.i o,.i q,.i l,.i m,.i n] e λa b=>A.c4 27 [.v r,.v b] a λa b=>A.cd .eql b 1 (K [.i 12] a) (A.loop (λa b c=>A.k8 b λb e=>A.ln r λf=>A.cd .lss e f (A.fx 3 r e 2 1 c λf=>A.k5 f λf=>A.cd .neq f 0 (A.c4 28 [.v r,.i e] c λc f=>A.cd .lss f e (A.fx 3 r e 2 1 c λf=>A.k5 f λf=>A.fx 3 r e 0 1 c λg=>A.k6 g λg=>A.fx 3 d g 0 1 c λd=>A.k5 d λd=>A.cmp .lss d 4 λd=>A.c4 29 [.i f,.b d] c λc d=>A.cmp .eql d 0 λd=>A.join (λb c=>A.k4 b λb=>A.pa e 1 λd=>a [.i b,.i d] c) λa=>A.cond d (a [.i 13] c) (a [.i b] c)) (A.pa e 1 λd=>a [.i b,.i d] c)) (A.pa e 1 λd=>a [.i b,.i d] c)) (A.pa p 1 λa=>i [.i b,.i a] c)) [.i j,.i 0] a)) (A.pa k 1 λa=>e [.i j,.i a] o)) [.i i,.i 0] j) (K [.i i] j)) [.i 0,.i 0] e)) [.i 0] e))
def f8:R:=A.qs ls λa b=>A.qs b λb c=>A.D3 c λc d=>A.qs d λd e=>A.qs e λe f=>A.k0 f λf=>A.join (λa b=>A.k2 a λa=>K [.b a] b) λg=>A.eqs [(.i a,.i d),(.i b,.i e)] λa=>A.cond a (A.c2 30 [.v c,.v f] h λa b=>g [.b b] a) (g [.b U] h)
def f9:R:=A.qs ls λ_ a=>A.qs a λ_ a=>A.D3 a λ_ a=>A.qs a λ_ a=>A.qs a λ_ a=>A.qs a λ_ a=>A.D3 a λa b=>A.k1 b λ_ _ _ _ _ _ b=>A.c4 31 [.v a,.v b,.v (.func (.func 32) ⟨[]⟩ ⟨[]⟩)] h λa b=>K [.i b] a
def f10:R:=A.qs ls λa b=>A.qs b λb c=>A.D3 c λc d=>A.Ib d λd e f g=>A.new (EJ [EO DQ g] 1 J) h λg i=>A.call 18 [.i a,.i b,.v c,.i d,.i e,.i f] i λa b=>A.k3 a λa c=>A.cd .neq c 0 (K [.v (DW Q 0 0),.i c] b) (A.oo (.lg cc 1 (EQ (O ⟨g,0,Q⟩))) b λc=>A.k6 c λc=>A.cd .lss c 1 (K [.v (DW Q 0 0),.i 1] b) (A.oo (.lg cc 1 (EQ (O ⟨g,0,Q⟩))) b λc=>A.k6 c λc=>A.cd .gtr c 1000 (K [.v (DW Q 0 0),.i 1] b) (A.new (EJ [DW Q 0 0] 1 J) b λb c=>A.c0 19 [.v a] c λa c=>A.join (λa c=>A.C3 a (A.lv (EQ (O ⟨b,0,Q⟩)) c λa=>A.c0 36 [.v a] c λa b=>K [.v b,.i 0] a)) λd=>A.Gr 160 c [EQ (O ⟨g,0,Q⟩),EQ (O ⟨b,0,Q⟩)] a λa b=>A.F4 a (d [] b) (K [.v (DW Q 0 0),.i 0] b) ((0,d [] b)::[]))))
def f11:R:=A.qs ls λa b=>A.qs b λb c=>A.D3 c λc d=>A.qs d λd e=>A.qs e λe f=>A.qs f λf g=>A.D3 g λg i=>A.k1 i λi j k l m n o=>A.join (λa b=>A.k2 a λa=>K [.b a] b) λp=>A.c2 8 [.i a,.i b,.v c,.i i,.i j,.v k] h λa b=>A.cond b (A.eqs [(.i d,.i l),(.i e,.i m),(.i f,.i n)] λb=>A.cond b (A.c2 37 [.v g,.v o] a λa b=>p [.b b] a) (p [.b U] a)) (p [.b U] a)
def f12:R:=A.k8 ls λa b=>A.loop (λc d e=>A.qs d λd f=>A.k1 f λf g i j k l m=>A.pm 4 a λa=>A.pm a b λa=>A.cd .lss d a (A.c7 23 [.i f,.i g,.i d] e λa b e n=>A.new (EJ [EO DQ d] 1 J) a λa o=>A.new (EJ [EO DQ b,EO DQ e,EO DU n,DW (O ⟨a,0,O 11⟩) 1 2] 4 J) o λa b=>A.av 4 48 m (DW (O ⟨a,0,O 14⟩) 1 2) b λa b=>A.pa d 1 λd=>c [.i d,.i f,.i g,.v i,.i j,.i k,.i l,.v a] b) (K [.i f,.i g,.v i,.i j,.i k,.i l,.v m] e)) [.i 0,.i a,.i b,.v (DW Q 0 0),.i 0,.i 0,.i 0,.v (DW Q 0 0)] h
def f13:R:=A.k1 ls λa b c d e f g=>A.c0 38 [.i a,.i b,.v c,.i d,.i e,.i f,.v g] h λa b=>A.loop (λa c d=>A.k3 c λc e=>A.ln b λf=>A.cd .lss e f (A.fx 4 b e 2 2 d λb=>A.ua DU b λb f=>A.k6 f λf=>A.join (λd g=>A.k4 d λd=>A.ln c λi=>A.cd .eql d i (A.new (EJ [] 2 J) g λg i=>A.km (GV 2 c Q (O d) Q) λj=>A.qa j (A.av 2 16 (DW (O ⟨g,0,O 12⟩) 0 1) j i λi k=>A.new (EJ [EO DU b,EO DQ f] 2 J) k λb f=>A.av 2 16 i (DW (O ⟨b,0,O 12⟩) 1 2) f λf k=>A.km (GV 2 c (O d) Q Q) λd=>A.qa d (A.av 2 16 f d k λd k=>A.km (Sx.Fh [(DW (O ⟨g,0,O 12⟩) 0 1,(1,c)),(DW (O ⟨g,0,O 12⟩) 0 1,(0,DW (O ⟨b,0,O 12⟩) 1 2)),(DW (O ⟨b,0,O 12⟩) 1 2,(1,c)),(DW (O ⟨g,0,O 12⟩) 0 1,(0,DW (O ⟨b,0,O 12⟩) 1 2)),(i,(0,DW (O ⟨b,0,O 12⟩) 1 2)),(DW (O ⟨b,0,O 12⟩) 1 2,(0,DW (O ⟨g,0,O 12⟩) 0 1)),(DW (O ⟨b,0,O 12⟩) 1 2,(0,j)),(DW (O ⟨g,0,O 12⟩) 0 1,(1,c)),(DW (O ⟨g,0,O 12⟩) 0 1,(1,c)),(i,(1,c)),(DW (O ⟨b,0,O 12⟩) 1 2,(1,c)),(i,(1,c)),(f,(1,c))]) λ_=>A.pa e 1 λb=>a [.v d,.i b] k))) (A.ix 2 c d 2 g λi=>A.ua DU i λi j=>A.k6 j λj=>A.eqs [(.i i,.i b),(.i j,.i f)] λi=>A.join (λb c=>A.k0 b λb=>A.pa e 1 λd=>a [.v b,.i d] c) λa=>A.cond (!i) (A.new (EJ [] 2 J) g λe g=>A.km (GV 2 c Q (O d) Q) λi=>A.qa i (A.av 2 16 (DW (O ⟨e,0,O 12⟩) 0 1) i g λg j=>A.new (EJ [EO DU b,EO DQ f] 2 J) j λb f=>A.av 2 16 g (DW (O ⟨b,0,O 12⟩) 1 2) f λf j=>A.km (GV 2 c (O d) Q Q) λd=>A.qa d (A.av 2 16 f d j λd j=>A.km (Sx.Fh [(DW (O ⟨e,0,O 12⟩) 0 1,(1,c)),(DW (O ⟨e,0,O 12⟩) 0 1,(0,DW (O ⟨b,0,O 12⟩) 1 2)),(DW (O ⟨b,0,O 12⟩) 1 2,(1,c)),(DW (O ⟨e,0,O 12⟩) 0 1,(0,DW (O ⟨b,0,O 12⟩) 1 2)),(g,(0,DW (O ⟨b,0,O 12⟩) 1 2)),(DW (O ⟨b,0,O 12⟩) 1 2,(0,DW (O ⟨e,0,O 12⟩) 0 1)),(DW (O ⟨b,0,O 12⟩) 1 2,(0,i)),(DW (O ⟨e,0,O 12⟩) 0 1,(1,c)),(DW (O ⟨e,0,O 12⟩) 0 1,(1,c)),(g,(1,c)),(DW (O ⟨b,0,O 12⟩) 1 2,(1,c)),(g,(1,c)),(f,(1,c))]) λ_=>a [.v d] j))) (a [.v c] g))) λa=>A.loop (λd e g=>A.k4 e λe=>A.ln c λi=>A.cd .lss e i (A.fx 2 c e 0 1 g λi=>A.k5 i λi=>A.cd .lss i b (A.pa e 1 λa=>d [.i a] g) (A.fx 2 c e 0 1 g λi=>A.k5 i λi=>A.cd .eql i b (A.fx 2 c e 1 1 g λb=>A.k6 b λb=>A.cmp .lss b f λb=>A.join (λa b=>A.C3 a (A.pa e 1 λa=>d [.i a] b)) λc=>A.cond b (c [] g) (a [.i e] g)) (a [.i e] g))) (a [.i e] g)) [.i 0] d) (K [.v c] d)) [.v (DW Q 0 0),.i 0] a
def f14:R:=A.qs ls λa b=>A.qs b λb c=>A.D3 c λc d=>A.qs d λd e=>A.qs e λe f=>A.qs f λf g=>A.D3 g λg i=>A.qs i λi j=>A.qs j λj k=>A.Vj k λk l=>A.c7 39 [.i i,.i j] h λm n o p=>A.new (EJ [] 3 J) m λm q=>A.av 3 16 (DW (O ⟨m,0,O 13⟩) 0 1) c q λm q=>A.loop (λm q r=>A.D3 q λq s=>A.D3 s λs t=>A.qs t λt u=>A.k1 u λu v w x y z B=>A.ln g λC=>A.cd .lss t C (A.join (λa b=>A.D3 a λa c=>A.D3 c λc d=>A.k1 d λd e f g i j k=>A.pa t 1 λl=>m [.v a,.v c,.i l,.i d,.i e,.v f,.i g,.i i,.i j,.v k] b) λa=>A.ix 4 g t 4 r λb=>A.ua DQ b λb c=>A.ua DQ c λc g=>A.ua DU g λg l=>A.C7 l λl m=>A.qa l (A.wb m (A.c4 40 [.i i,.i j,.i b,.i c,.i g] r λi j=>A.cd .neq j k (A.new (EJ [] 1 J) i λd e=>A.av 1 8 (DW (O ⟨d,0,O 11⟩) 0 1) l e λd e=>A.new (EJ [EO DQ b,EO DQ c,EO DU g,d] 4 J) e λb c=>A.av 4 48 q (DW (O ⟨b,0,O 14⟩) 1 2) c λb c=>a [.v b,.v s,.i u,.i v,.v w,.i x,.i y,.i z,.v B] c) (A.ln l λj=>A.ps j 1 λj=>A.loop (λi j k=>A.D3 j λj m=>A.qs m λm r=>A.k1 r λr t u v w x y=>A.cd .geq m 0 (A.ix 1 l m 1 k λa=>A.k6 a λa=>A.new (EJ [EO DQ a] 1 J) k λa b=>A.av 1 8 j (DW (O ⟨a,0,O 11⟩) 1 2) b λa b=>A.ix 1 l m 1 b λc=>A.k6 c λc=>A.cmp .eql c 0 λc=>A.join (λb c=>A.k1 b λb d e f g j k=>A.ps m 1 λl=>i [.v a,.i l,.i b,.i d,.v e,.i f,.i g,.i j,.v k] c) λa=>A.cond c (A.c7 41 [.i d,.i e,.i f,.i n,.i o,.i p] b λb c d e=>a [.i r,.i t,.v u,.i c,.i d,.i e,.v y] b) (a [.i r,.i t,.v u,.i v,.i w,.i x,.v y] b)) (A.c7 22 [.i n,.i o,.i p,.i b,.i c,.i g] k λb c d e=>A.new (EJ [EO DQ c,EO DQ d,EO DU e,j] 4 J) b λb c=>A.av 4 48 s (DW (O ⟨b,0,O 14⟩) 1 2) c λb c=>a [.v q,.v b,.i r,.i t,.v u,.i v,.i w,.i x,.v y] c)) [.v (DW Q 0 0),.i j,.i u,.i v,.v w,.i x,.i y,.i z,.v B] i)))) (A.loop (λk m n=>A.k3 m λm o=>A.ln s λp=>A.cd .lss o p (A.join (λa b=>A.k2 a λa=>A.join (λa b=>A.k0 a λa=>A.pa o 1 λc=>k [.v a,.i c] b) λc=>A.cond (!a) (A.ix 4 s o 4 b λa=>A.ua DQ a λa d=>A.ua DQ d λd e=>A.ua DU e λe f=>A.C7 f λf g=>A.qa f (A.wb g (A.new (EJ [EO DQ a,EO DQ d,EO DU e,f] 4 J) b λa b=>A.av 4 48 m (DW (O ⟨a,0,O 14⟩) 1 2) b λa b=>c [.v a] b))) (c [.v m] b)) λa=>A.loop (λb c d=>A.GM c λc e=>A.k4 e λe=>A.ln m λf=>A.cd .lss e f (A.cond (!c) (A.join (λa c=>A.k2 a λa=>A.pa e 1 λd=>b [.b a,.i d] c) λa=>A.fx 4 m e 0 3 d λb=>A.IA b λb f g=>A.fx 4 s o 0 3 d λi=>A.IA i λi j k=>A.eqs [(.i b,.i i),(.i f,.i j),(.i g,.i k)] λb=>A.cond (!b) (a [.b c] d) (A.join (λb c=>A.C3 b (a [.b J] c)) λa=>A.cond l (A.fx 4 m e 3 1 d λb=>A.C7 b λb c=>A.qa b (A.wb c (A.fx 4 s o 3 1 d λc=>A.C7 c λc f=>A.qa c (A.wb f (A.av 1 8 b c d λb c=>A.km (D8 4 m e) λd=>A.km (Fq 3 d) λd=>A.qa d (A.heap (.st d [b]) c λ_ b=>a [] b)))))) (A.new (EJ [] 1 J) d λb c=>A.km (D8 4 s o) λd=>A.km (Fq 3 d) λd=>A.qa d (A.lv d c λf=>A.av 1 8 (DW (O ⟨b,0,O 11⟩) 0 1) f c λc f=>A.km (D8 4 m e) λg=>A.km (Fq 3 g) λg=>A.qa g (A.lv g f λi=>A.av 1 8 c i f λf i=>A.km (D8 4 m e) λe=>A.km (Fq 3 e) λe=>A.qa e (A.heap (.st e [f]) i λ_ e=>A.km (Sx.Fh [(DW (O ⟨b,0,O 11⟩) 0 1,(0,d)),(DW (O ⟨b,0,O 11⟩) 0 1,(0,g)),(DW (O ⟨b,0,O 11⟩) 0 1,(0,g)),(c,(0,g))]) λ_=>a [] e)))))) (a [.b c] d)) (a [.b c] d)) [.b U,.i 0] n) (A.c0 42 [.v m] n λk m=>A.call 20 [.i a,.i b,.v c,.i d,.i e,.i f] k λk n=>A.k3 k λk _=>A.c0 38 [.i a,.i b,.v c,.i d,.i e,.i f,.v g] n λc d=>A.loop (λc e f=>A.qs e λe g=>A.k1 g λg m n o p q r=>A.ln d λs=>A.cd .lss e s (A.join (λa b=>A.k1 a λa d f g i j k=>A.pa e 1 λe=>c [.i e,.i a,.i d,.v f,.i g,.i i,.i j,.v k] b) λc=>A.fx 4 d e 2 2 f λs=>A.ua DU s λs t=>A.k6 t λt=>A.eqs [(.i s,.i i),(.i t,.i j)] λi=>A.cond (!i) (c [.i g,.i m,.v n,.i o,.i p,.i q,.v r] f) (A.fx 4 d e 0 1 f λi=>A.k6 i λi=>A.fx 3 k i 0 1 f λi=>A.k5 i λi=>A.cmp .lss i 4 λi=>A.eqs [(.b i,.b l)] λi=>A.join (λf i=>A.k4 f λf=>A.fx 4 d e 0 1 i λj=>A.k6 j λj=>A.fx 4 d e 0 1 i λk=>A.k6 k λk=>A.fx 4 d e 1 1 i λd=>A.k6 d λd=>A.c4 43 [.i a,.i b,.i k,.i d] i λa b=>A.new (EJ [EO DQ j,EO DU b,EO DU f] 3 J) a λa b=>A.av 3 16 n (DW (O ⟨a,0,O 13⟩) 1 2) b λa b=>c [.i g,.i m,.v a,.i o,.i p,.i q,.v r] b) λa=>A.cond (!i) (a [.i 1] f) (a [.i 2] f))) (A.c0 44 [.v n] f λa b=>K [.i g,.i m,.v b,.i o,.i p,.i q,.v r] a)) [.i 0,.i u,.i v,.v w,.i x,.i y,.i z,.v m] c)) [.v q,.i 0] r)) [.v (DW Q 0 0),.v (DW Q 0 0),.i 0,.i a,.i b,.v m,.i d,.i e,.i f,.v (DW Q 0 0)] q
def f15:R:=A.qs ls λa b=>A.qs b λb c=>A.D3 c λc d=>A.Ib d λd e f g=>A.call 10 [.i a,.i b,.v c,.i d,.i e,.i f,.i g] h λa b=>A.k3 a λa c=>A.ln a λa=>K [.i a,.i c] b
def f16:R:=A.k0 ls λa=>A.ln a λb=>A.pa b 1 λb=>A.loop (λb c d=>A.qs c λc e=>A.qs e λe f=>A.qs f λf g=>A.k0 g λg=>A.ln a λi=>A.cd .lss c i (A.pm 4 c λi=>A.pa i 1 λi=>A.ix 1 a c 1 d λa=>A.k5 a λa=>A.new (EJ [EO DQ i,EO DU 0,EO DU a] 3 J) d λa d=>A.av 3 16 g (DW (O ⟨a,0,O 13⟩) 1 2) d λa d=>A.pa c 1 λc=>b [.i c,.i e,.i f,.v a] d) (K [.i e,.i f,.v g] d)) [.i 0,.i b,.i 1,.v (DW Q 0 0)] h
def f17:R:=A.C3 ls (K [.i 0,.i 0,.i 0] h)
def f18:R:=A.qs ls λa b=>A.qs b λb c=>A.D3 c λc d=>A.k7 d λd e f=>A.call 45 [.i a,.i b,.v c,.i d,.i e,.i f] h λg i=>A.k3 g λg j=>A.cd .neq j 0 (K [.v (EQ Q),.i j] i) (A.pm a b λj=>A.cd .gtr j 9 (K [.v (EQ Q),.i 3] i) (A.ln g λj=>A.km (FV j j) λ_=>A.new (EJ (aQ [.bool U] (Int.toNat j)) 1 J) i λi k=>A.new (.map [] 0) k λk l=>A.new (EJ [EO DQ a,EO DQ b,c,EO DU d,EO DQ e,EO DQ f,DW Q 0 0,DW Q 0 0,DW Q 0 0,DW (O ⟨i,0,O 11⟩) (Int.toNat j) ((Int.toNat j)+1),.map (O k),DW Q 0 0,DW Q 0 0,DW Q 0 0,.bool U] 15 J) l λa b=>A.km (Sx.Fh [(.map (O k),(2,g)),(DW (O ⟨i,0,O 11⟩) (Int.toNat j) ((Int.toNat j)+1),(0,.map (O k)))]) λ_=>A.new (.map [] 0) b λb c=>A.ln g λd=>A.loop (λc e f=>A.k4 e λe=>A.cd .lss e d (A.ix 3 g e 3 f λd=>A.IA d λd g i=>A.oo (.fn (Hv cc 67 U (EO DQ 0) (.map (O b)) (EU ⟨[EO DQ d,EO DQ g,EO DU i]⟩) J)) f λj=>A.ua DQ j λ_ j=>A.F5 j λj k=>A.wb k (A.join (λa b=>A.C3 a (A.pa e 1 λa=>c [.i a] b)) λc=>A.cond (!j) (A.heap (.fn (Ic cc 67 (.map (O b)) (EU ⟨[EO DQ d,EO DQ g,EO DU i]⟩) (EO DQ 0))) f λ_ b=>A.fp 6 (EQ (O ⟨a,0,Q⟩)) λe=>A.lv e b λf=>A.new (EJ [EO DQ d,EO DQ g,EO DU i] 3 J) b λb d=>A.av 3 24 f (DW (O ⟨b,0,O 13⟩) 1 2) d λd f=>A.fp 6 (EQ (O ⟨a,0,Q⟩)) λa=>A.heap (.st a [d]) f λ_ a=>A.km (Sx.Fh [(DW (O ⟨b,0,O 13⟩) 1 2,(0,e))]) λ_=>c [] a) (c [] f))) (A.fp 6 (EQ (O ⟨a,0,Q⟩)) λc=>A.lv c f λc=>A.call 46 [.v c,.v (.func (.func 34) ⟨[]⟩ ⟨[]⟩)] f λc d=>A.C3 c (A.fp 6 (EQ (O ⟨a,0,Q⟩)) λc=>A.lv c d λc=>A.ln c λe=>A.loop (λd f i=>A.k4 f λf=>A.cd .lss f e (A.ix 3 c f 3 i λa=>A.IA a λa c e=>A.heap (.fn (Ic cc 67 (.map (O b)) (EU ⟨[EO DQ a,EO DQ c,EO DU e]⟩) (EO DQ f))) i λ_ a=>A.pa f 1 λb=>d [.i b] a) (A.fp 6 (EQ (O ⟨a,0,Q⟩)) λc=>A.lv c i λd=>A.ln d λe=>A.km (FV e e) λ_=>A.new (EJ (aQ [DW Q 0 0] (Int.toNat e)) 1 J) i λf i=>A.fp 6 (EQ (O ⟨a,0,Q⟩)) λj=>A.lv j i λk=>A.ln k λl=>A.km (FV l l) λ_=>A.new (EJ (aQ [DW Q 0 0] (Int.toNat l)) 1 J) i λi m=>A.fp 7 (EQ (O ⟨a,0,Q⟩)) λn=>A.heap (.st n [DW (O ⟨f,0,O 11⟩) (Int.toNat e) ((Int.toNat e)+1)]) m λ_ m=>A.fp 8 (EQ (O ⟨a,0,Q⟩)) λo=>A.heap (.st o [DW (O ⟨i,0,O 11⟩) (Int.toNat l) ((Int.toNat l)+1)]) m λ_ m=>A.km (Sx.Fh [(DW (O ⟨f,0,O 11⟩) (Int.toNat e) ((Int.toNat e)+1),(0,j)),(DW (O ⟨f,0,O 11⟩) (Int.toNat e) ((Int.toNat e)+1),(2,k)),(DW (O ⟨i,0,O 11⟩) (Int.toNat l) ((Int.toNat l)+1),(0,c)),(DW (O ⟨i,0,O 11⟩) (Int.toNat l) ((Int.toNat l)+1),(2,d)),(DW (O ⟨f,0,O 11⟩) (Int.toNat e) ((Int.toNat e)+1),(0,DW (O ⟨i,0,O 11⟩) (Int.toNat l) ((Int.toNat l)+1))),(n,(2,k)),(DW (O ⟨i,0,O 11⟩) (Int.toNat l) ((Int.toNat l)+1),(0,n)),(DW (O ⟨i,0,O 11⟩) (Int.toNat l) ((Int.toNat l)+1),(0,n))]) λ_=>A.ln g λc=>A.loop (λd e f=>A.k4 e λe=>A.cd .lss e c (A.ix 3 g e 3 f λc=>A.IA c λc g i=>A.fp 7 (EQ (O ⟨a,0,Q⟩)) λj=>A.lv j f λk=>A.oo (.fn (Hv cc 67 U (EO DQ 0) (.map (O b)) (EU ⟨[EO DQ c,EO DQ g,EO DU i]⟩) U)) f λl=>A.k6 l λl=>A.fp 7 (EQ (O ⟨a,0,Q⟩)) λa=>A.lv a f λm=>A.oo (.fn (Hv cc 67 U (EO DQ 0) (.map (O b)) (EU ⟨[EO DQ c,EO DQ g,EO DU i]⟩) U)) f λc=>A.k6 c λc=>A.km (D8 1 m c) λc=>A.lv c f λg=>A.new (EJ [EO DQ e] 1 J) f λf i=>A.av 1 8 g (DW (O ⟨f,0,O 11⟩) 1 2) i λi m=>A.km (D8 1 k l) λk=>A.heap (.st k [i]) m λ_ k=>A.km (Sx.Fh [(DW (O ⟨f,0,O 11⟩) 1 2,(0,j)),(DW (O ⟨f,0,O 11⟩) 1 2,(0,.map (O b))),(DW (O ⟨f,0,O 11⟩) 1 2,(0,a)),(DW (O ⟨f,0,O 11⟩) 1 2,(0,.map (O b))),(DW (O ⟨f,0,O 11⟩) 1 2,(0,c)),(g,(0,j)),(i,(0,j)),(g,(0,.map (O b))),(i,(0,.map (O b)))]) λ_=>A.pa e 1 λa=>d [.i a] k) (A.fp 7 (EQ (O ⟨a,0,Q⟩)) λb=>A.lv b f λb=>A.ln b λc=>A.loop (λd e f=>A.k4 e λe=>A.cd .lss e c (A.ix 1 b e 1 f λb=>A.C7 b λb c=>A.qa b (A.wb c (A.ln b λc=>A.loop (λf g i=>A.k4 g λg=>A.cd .lss g c (A.ix 1 b g 1 i λc=>A.k6 c λc=>A.km (GV 1 b Q (O g) Q) λb=>A.qa b (A.ln b λd=>A.loop (λe i j=>A.k4 i λi=>A.cd .lss i d (A.ix 1 b i 1 j λb=>A.k6 b λb=>A.fp 10 (EQ (O ⟨a,0,Q⟩)) λd=>A.lv d j λd=>A.fp 11 (EQ (O ⟨a,0,Q⟩)) λf=>A.lv f j λf=>A.ln f λf=>A.heap (.fn (Ic cc 124 d (EU ⟨[EO DQ b,EO DQ c]⟩) (EO DQ f))) j λ_ b=>A.fp 11 (EQ (O ⟨a,0,Q⟩)) λc=>A.lv c b λd=>A.fp 11 (EQ (O ⟨a,0,Q⟩)) λf=>A.lv f b λf=>A.ln f λf=>A.new (EJ [EO DQ f,.bool U] 2 J) b λb f=>A.av 2 16 d (DW (O ⟨b,0,O 12⟩) 1 2) f λd f=>A.fp 11 (EQ (O ⟨a,0,Q⟩)) λa=>A.heap (.st a [d]) f λ_ a=>A.km (Sx.Fh [(DW (O ⟨b,0,O 12⟩) 1 2,(0,c))]) λ_=>A.pa i 1 λb=>e [.i b] a) (A.pa g 1 λa=>f [.i a] j)) [.i 0] i)) (A.pa e 1 λa=>d [.i a] i)) [.i 0] f))) (A.fp 11 (EQ (O ⟨a,0,Q⟩)) λb=>A.lv b f λb=>A.ln b λb=>A.km (FV b b) λ_=>A.new (EJ (aQ [EO DQ 0] (Int.toNat b)) 1 J) f λc d=>A.fp 12 (EQ (O ⟨a,0,Q⟩)) λe=>A.heap (.st e [DW (O ⟨c,0,O 11⟩) (Int.toNat b) ((Int.toNat b)+1)]) d λ_ b=>A.call 47 [.v (EQ (O ⟨a,0,Q⟩)),.v g] b λb c=>A.k3 b λb d=>A.ln b λe=>A.loop (λc f g=>A.k4 f λf=>A.cd .lss f e (A.ix 1 b f 1 g λb=>A.C7 b λb d=>A.qa b (A.wb d (A.call 48 [.v (EQ (O ⟨a,0,Q⟩)),.v b] g λa b=>A.C3 a (A.pa f 1 λa=>c [.i a] b)))) (K [.v (EQ (O ⟨a,0,Q⟩)),.i d] g)) [.i 0] c)) [.i 0] f)) [.i 0] m)) [.i 0] d))) [.i 0] c))
def f19:R:=A.k0 ls λa=>A.new (EJ [a] 1 J) h λa b=>A.qa (.func (.func 49) ⟨[]⟩ ⟨[EQ (O ⟨a,0,Q⟩)]⟩) (K [.v (.func (.func 49) ⟨[]⟩ ⟨[EQ (O ⟨a,0,Q⟩)]⟩)] b)
def f20:R:=A.qs ls λa b=>A.qs b λb c=>A.D3 c λc d=>A.k7 d λd e f=>A.pm 4 a λg=>A.pm g b λg=>A.km (FV g g) λ_=>A.new (EJ (aQ [EO DU 0,EO DQ 0,EO DQ 0] (Int.toNat g)) 3 J) h λi j=>A.km (FV g g) λ_=>A.new (EJ (aQ [.bool U] (Int.toNat g)) 1 J) j λj k=>A.cd .lss g 1 (K [.v (DW Q 0 0),.i 0] k) (A.km (D8 3 (DW (O ⟨i,0,O 13⟩) (Int.toNat g) ((Int.toNat g)+1)) 0) λl=>A.heap (.st l [EO DU d,EO DQ e,EO DQ f]) k λ_ d=>A.km (D8 1 (DW (O ⟨j,0,O 11⟩) (Int.toNat g) ((Int.toNat g)+1)) 0) λe=>A.heap (.st e [.bool J]) d λ_ d=>A.c0 24 [.i a,.i b,.v c] d λc d=>A.loop (λc e f=>A.k2 e λe=>A.cond e (A.loop (λe f k=>A.GM f λf l=>A.k4 l λl=>A.cd .lss l g (A.join (λa b=>A.k2 a λa=>A.pa l 1 λc=>e [.b a,.i c] b) λc=>A.loop (λe f k=>A.GM f λf m=>A.k4 m λm=>A.cd .lss m 3 (A.km (D8 1 (DW (O ⟨j,0,O 11⟩) (Int.toNat g) ((Int.toNat g)+1)) l) λn=>A.oo (.lg cc 1 n) k λn=>A.F5 n λn o=>A.wb o (A.cond n (A.join (λa b=>A.k2 a λa=>A.pa m 1 λc=>e [.b a,.i c] b) λc=>A.c4 54 [.i a,.i b,.i l,.i m] k λe k=>A.cd .lss k 0 (c [.b f] e) (A.km (D8 3 (DW (O ⟨i,0,O 13⟩) (Int.toNat g) ((Int.toNat g)+1)) l) λn=>A.oo (.lg cc 3 n) e λn=>A.k9 n λn o p=>A.pm 3 l λq=>A.pa q m λm=>A.ix 1 d m 1 e λd=>A.k5 d λd=>A.cmp .neq d 0 λd=>A.join (λa b=>A.k7 a λa d e=>A.km (D8 1 (DW (O ⟨j,0,O 11⟩) (Int.toNat g) ((Int.toNat g)+1)) k) λl=>A.oo (.lg cc 1 l) b λl=>A.F5 l λl m=>A.wb m (A.cond l (A.km (D8 3 (DW (O ⟨i,0,O 13⟩) (Int.toNat g) ((Int.toNat g)+1)) k) λl=>A.oo (.lg cc 3 l) b λl=>A.k9 l λl m n=>A.eqs [(.i l,.i a),(.i m,.i d),(.i n,.i e)] λl=>A.join (λb l=>A.C3 b (A.km (D8 1 (DW (O ⟨j,0,O 11⟩) (Int.toNat g) ((Int.toNat g)+1)) k) λb=>A.oo (.lg cc 1 b) l λb=>A.F5 b λb m=>A.wb m (A.join (λa b=>A.k2 a λa=>c [.b a] b) λc=>A.cond (!b) (A.km (D8 3 (DW (O ⟨i,0,O 13⟩) (Int.toNat g) ((Int.toNat g)+1)) k) λb=>A.heap (.st b [EO DU a,EO DQ d,EO DQ e]) l λ_ a=>A.km (D8 1 (DW (O ⟨j,0,O 11⟩) (Int.toNat g) ((Int.toNat g)+1)) k) λb=>A.heap (.st b [.bool J]) a λ_ a=>c [.b J] a) (c [.b f] l)))) λa=>A.cond (!l) (K [.v (DW Q 0 0),.i 0] b) (a [] b)) (A.km (D8 1 (DW (O ⟨j,0,O 11⟩) (Int.toNat g) ((Int.toNat g)+1)) k) λl=>A.oo (.lg cc 1 l) b λl=>A.F5 l λl m=>A.wb m (A.join (λa b=>A.k2 a λa=>c [.b a] b) λc=>A.cond (!l) (A.km (D8 3 (DW (O ⟨i,0,O 13⟩) (Int.toNat g) ((Int.toNat g)+1)) k) λf=>A.heap (.st f [EO DU a,EO DQ d,EO DQ e]) b λ_ a=>A.km (D8 1 (DW (O ⟨j,0,O 11⟩) (Int.toNat g) ((Int.toNat g)+1)) k) λb=>A.heap (.st b [.bool J]) a λ_ a=>c [.b J] a) (c [.b f] b))))) λc=>A.cond d (A.c7 23 [.i a,.i b,.i l] e λd e f j=>A.c7 23 [.i a,.i b,.i k] d λa b d k=>A.c7 55 [.i e,.i f,.i j,.i b,.i d,.i k] a λa b d e=>A.km (D8 3 (DW (O ⟨i,0,O 13⟩) (Int.toNat g) ((Int.toNat g)+1)) l) λf=>A.oo (.lg cc 3 f) a λf=>A.k9 f λf g i=>A.c7 41 [.i b,.i d,.i e,.i f,.i g,.i i] a λa b d e=>c [.i b,.i d,.i e] a) (c [.i n,.i o,.i p] e))) (c [.b f] k))) (c [.b f] k)) [.b f,.i 0] k) (c [.b f] k)) [.b U,.i 0] f) (K [.v (DW (O ⟨i,0,O 13⟩) (Int.toNat g) ((Int.toNat g)+1)),.i 1] f)) [.b J] c)
def f21:R:=A.k3 ls λa b=>A.km (FV b b) λ_=>A.new (EJ (aQ [EO DQ 0] (Int.toNat b)) 1 J) h λc d=>A.loop (λd e f=>A.k4 e λe=>A.ln a λg=>A.cd .lss e g (A.fx 4 a e 0 3 f λc=>A.IA c λc g i=>A.cd .lss c (-4096) (K [.i 1] f) (A.cd .gtr c 4096 (K [.i 1] f) (A.cd .lss g (-4096) (K [.i 1] f) (A.cd .gtr g 4096 (K [.i 1] f) (A.cd .gtr i 3 (K [.i 1] f) (A.cd .gtr e 0 (A.ps e 1 λj=>A.fx 4 a j 0 3 f λj=>A.IA j λj k l=>A.c4 56 [.i j,.i k,.i l,.i c,.i g,.i i] f λc f=>A.cd .eql f 0 (K [.i 1] c) (A.fx 4 a e 3 1 c λf=>A.C7 f λf g=>A.qa f (A.wb g (A.ln f λf=>A.cmp .eql f 0 λf=>A.join (λc f=>A.C3 c (A.loop (λc f g=>A.k4 f λf=>A.fx 4 a e 3 1 g λi=>A.C7 i λi j=>A.qa i (A.wb j (A.ln i λi=>A.cd .lss f i (A.fx 4 a e 3 1 g λa=>A.C7 a λa d=>A.qa a (A.wb d (A.ix 1 a f 1 g λa=>A.k6 a λa=>A.cd .lss a 0 (K [.i 1] g) (A.cd .geq a b (K [.i 1] g) (A.pa f 1 λa=>c [.i a] g))))) (A.pa e 1 λa=>d [.i a] g)))) [.i 0] f)) λa=>A.cond f (K [.i 1] c) (a [] c))))) (A.fx 4 a e 3 1 f λc=>A.C7 c λc g=>A.qa c (A.wb g (A.ln c λc=>A.cmp .eql c 0 λc=>A.join (λc f=>A.C3 c (A.loop (λc f g=>A.k4 f λf=>A.fx 4 a e 3 1 g λi=>A.C7 i λi j=>A.qa i (A.wb j (A.ln i λi=>A.cd .lss f i (A.fx 4 a e 3 1 g λa=>A.C7 a λa d=>A.qa a (A.wb d (A.ix 1 a f 1 g λa=>A.k6 a λa=>A.cd .lss a 0 (K [.i 1] g) (A.cd .geq a b (K [.i 1] g) (A.pa f 1 λa=>c [.i a] g))))) (A.pa e 1 λa=>d [.i a] g)))) [.i 0] f)) λa=>A.cond c (K [.i 1] f) (a [] f)))))))))) (A.loop (λd e f=>A.k8 e λe g=>A.ln a λi=>A.cd .lss g i (A.loop (λe f i=>A.k8 f λf j=>A.fx 4 a g 3 1 i λk=>A.C7 k λk l=>A.qa k (A.wb l (A.ln k λk=>A.cd .lss j k (A.fx 4 a g 3 1 i λd=>A.C7 d λd k=>A.qa d (A.wb k (A.ix 1 d j 1 i λd=>A.k6 d λd=>A.km (D8 1 (DW (O ⟨c,0,O 11⟩) (Int.toNat b) ((Int.toNat b)+1)) d) λk=>A.oo (.lg cc 1 k) i λk=>A.k6 k λk=>A.pa k 1 λk=>A.km (D8 1 (DW (O ⟨c,0,O 11⟩) (Int.toNat b) ((Int.toNat b)+1)) d) λd=>A.heap (.st d [EO DQ k]) i λ_ d=>A.fx 4 a g 3 1 d λa=>A.C7 a λa g=>A.qa a (A.wb g (A.ix 1 a j 1 d λa=>A.k6 a λa=>A.km (D8 1 (DW (O ⟨c,0,O 11⟩) (Int.toNat b) ((Int.toNat b)+1)) a) λa=>A.oo (.lg cc 1 a) d λa=>A.k6 a λa=>A.cd .gtr a 1 (K [.i 8] d) (A.pa f 1 λa=>A.pa j 1 λb=>e [.i a,.i b] d)))))) (A.pa g 1 λa=>d [.i f,.i a] i)))) [.i e,.i 0] f) (A.cd .lss e b (K [.i 6] f) (K [.i 0] f))) [.i 0,.i 0] f)) [.i 0] d
def f22:R:=A.LN ls λa b c d e f=>A.c8 59 [.i d,.i e,.i f] h λd e f=>A.c8 58 [.i a,.i b,.i c,.i e,.i f] d λa b c=>A.c7 57 [.i b,.i c] a λa b c d=>K [.i b,.i c,.i d] a
def f23:R:=A.k7 ls λa _ b=>A.pq b 4 λc=>A.C5 .rem DQ c a λc=>A.pq b 4 λd=>A.pq d a λa=>A.C5 .rem DQ b 4 λb=>A.conv DU b λb=>K [.i c,.i a,.i b] h
def f24:R:=A.qs ls λa b=>A.qs b λb c=>A.k0 c λc=>A.pm 12 a λd=>A.pm d b λd=>A.km (FV d d) λ_=>A.new (EJ (aQ [EO DU 0] (Int.toNat d)) 1 J) h λe f=>A.loop (λf g i=>A.k4 g λg=>A.ln c λj=>A.cd .lss g j (A.ix 3 c g 3 i λc=>A.M8 c λc j k=>A.loop (λi l m=>A.k4 l λl=>A.cd .lss l 3 (A.join (λa b=>A.C3 a (A.pa l 1 λa=>i [.i a] b)) λf=>A.c4 54 [.i a,.i b,.i c,.i l] m λg i=>A.cd .lss i 0 (f [] g) (A.c4 60 [.i a,.i b,.i c,.i l] g λg m=>A.ci j λj=>A.cd .neq m j (f [] g) (A.pm 3 c λj=>A.pa j l λj=>A.km (D8 1 (DW (O ⟨e,0,O 11⟩) (Int.toNat d) ((Int.toNat d)+1)) j) λj=>A.heap (.st j [EO DU k]) g λ_ g=>A.loop (λg j l=>A.k4 j λj=>A.cd .lss j 3 (A.c4 54 [.i a,.i b,.i i,.i j] l λa b=>A.cmp .eql b c λb=>A.join (λa b=>A.C3 a (A.pa j 1 λa=>g [.i a] b)) λc=>A.cond b (A.pm 3 i λb=>A.pa b j λb=>A.km (D8 1 (DW (O ⟨e,0,O 11⟩) (Int.toNat d) ((Int.toNat d)+1)) b) λb=>A.heap (.st b [EO DU k]) a λ_ a=>c [] a) (c [] a)) (f [] l)) [.i 0] g))) (A.pa g 1 λa=>f [.i a] m)) [.i 0] i) (K [.v (DW (O ⟨e,0,O 11⟩) (Int.toNat d) ((Int.toNat d)+1))] i)) [.i 0] f
def f25:R:=A.Ib ls λa b c d=>A.cd .eql d 0 (A.cd .eql c 0 (A.ps b 1 λb=>K [.i a,.i b,.i 2] h) (A.cd .eql c 1 (A.pa a 1 λa=>K [.i a,.i b,.i 3] h) (A.cd .eql c 2 (A.pa b 1 λb=>K [.i a,.i b,.i 0] h) (A.ps a 1 λa=>K [.i a,.i b,.i 1] h)))) (A.cd .eql d 1 (A.C5 .add DU c 1 λc=>A.C5 .rem DU c 4 λc=>K [.i a,.i b,.i c] h) (A.C5 .add DU c 3 λc=>A.C5 .rem DU c 4 λc=>K [.i a,.i b,.i c] h))
def f26:R:=A.qs ls λa b=>A.qs b λb c=>A.D3 c λ_ c=>A.D3 c λc d=>A.D3 d λd e=>A.D3 e λe f=>A.LN f λf g i j k l=>A.c0 61 [.v e,.i f,.i g,.i i] h λe f=>A.loop (λe g i=>A.k3 g λg m=>A.ln f λn=>A.cd .lss m n (A.ix 1 f m 1 i λf=>A.k6 f λf=>A.loop (λg i n=>A.k3 i λi o=>A.cd .lss o 3 (A.join (λa b=>A.k0 a λa=>A.pa o 1 λc=>g [.v a,.i c] b) λe=>A.ix 3 d f 3 n λd=>A.k9 d λd g m=>A.c7 23 [.i a,.i b,.i f] n λn p q r=>A.c7 25 [.i p,.i q,.i r,.i o] n λn p q r=>A.c7 22 [.i d,.i g,.i m,.i p,.i q,.i r] n λd g m n=>A.eqs [(.i g,.i j),(.i m,.i k),(.i n,.i l)] λg=>A.cond (!g) (e [.v i] d) (A.c4 54 [.i a,.i b,.i f,.i o] d λa b=>A.pm 3 f λd=>A.pa d o λd=>A.ix 1 c d 1 a λc=>A.k5 c λc=>A.new (EJ [EO DQ f,EO DQ b,EO DU c] 3 J) a λa b=>A.av 3 24 i (DW (O ⟨a,0,O 13⟩) 1 2) b λa b=>e [.v a] b)) (A.pa m 1 λa=>e [.v i,.i a] n)) [.v g,.i 0] i) (K [.v g] i)) [.v (DW Q 0 0),.i 0] e
def f27:R:=A.D3 ls λa b=>A.k0 b λb=>A.loop (λc d e=>A.k4 d λd=>A.cd .lss d 2 (A.km (G4 2 d) λ_=>A.km (jz [.v a,.v b] 0 [(d,1)] 1) λa=>A.k0 a λa=>A.loop (λb e f=>A.k4 e λe=>A.ln a λg=>A.cd .lss e g (A.join (λa c=>A.C3 a (A.pa e 1 λa=>b [.i a] c)) λb=>A.fx 3 a e 2 1 f λc=>A.k5 c λc=>A.cd .eql c 0 (b [] f) (A.c4 28 [.v a,.i e] f λc d=>A.pa e 1 λf=>A.loop (λc f g=>A.k4 f λf=>A.cd .lss f d (A.fx 3 a f 1 1 g λb=>A.k6 b λb=>A.cd .geq b 0 (A.fx 3 a f 2 1 g λb=>A.k5 b λb=>A.cmp .eql b 0 λb=>A.join (λb g=>A.C3 b (A.fx 3 a f 2 1 g λb=>A.k5 b λb=>A.cmp .neq b 0 λb=>A.join (λa b=>A.C3 a (A.pa f 1 λa=>c [.i a] b)) λc=>A.cond b (A.c4 28 [.v a,.i f] g λa b=>A.cd .lss b e (K [.i 1] a) (A.cd .gtr b d (K [.i 1] a) (c [] a))) (c [] g))) λa=>A.cond b (K [.i 1] g) (a [] g)) (A.fx 3 a f 2 1 g λb=>A.k5 b λb=>A.cmp .neq b 0 λb=>A.join (λa b=>A.C3 a (A.pa f 1 λa=>c [.i a] b)) λc=>A.cond b (A.c4 28 [.v a,.i f] g λa b=>A.cd .lss b e (K [.i 1] a) (A.cd .gtr b d (K [.i 1] a) (c [] a))) (c [] g))) (b [] g)) [.i f] c)) (A.pa d 1 λa=>c [.i a] f)) [.i 0] e) (A.loop (λc d e=>A.k4 d λd=>A.ln a λf=>A.cd .lss d f (A.pa d 1 λf=>A.loop (λe f g=>A.k4 f λf=>A.ln a λi=>A.cd .lss f i (A.join (λa b=>A.C3 a (A.pa f 1 λa=>e [.i a] b)) λc=>A.fx 3 a d 2 1 g λe=>A.k5 e λe=>A.cd .neq e 0 (c [] g) (A.fx 3 a f 2 1 g λe=>A.k5 e λe=>A.cd .neq e 0 (c [] g) (A.fx 3 a d 1 1 g λe=>A.k6 e λe=>A.cd .lss e 0 (c [] g) (A.fx 3 a f 1 1 g λe=>A.k6 e λe=>A.cd .lss e 0 (c [] g) (A.fx 3 a d 1 1 g λd=>A.k6 d λd=>A.c4 62 [.v b,.i d] g λd e=>A.fx 3 a f 1 1 d λa=>A.k6 a λa=>A.c4 62 [.v b,.i a] d λa b=>A.cd .gtr e b (K [.i 1] a) (c [] a)))))) (A.pa d 1 λa=>c [.i a] g)) [.i f] e) (K [.i 0] e)) [.i 0] e)) [.i 0] h
def f28:R:=A.k3 ls λa b=>A.fx 3 a b 1 1 h λb=>A.k6 b λb=>A.c4 62 [.v a,.i b] h λa b=>K [.i b] a
def f29:R:=A.Vj ls λa b=>A.cd .eql a 3 (K [.i 1] h) (A.cmp .eql a 2 λa=>A.eqs [(.b a,.b (!b))] λa=>A.cond a (K [.i 1] h) (K [.i 0] h))
def f30:R:=A.D3 ls λa b=>A.k0 b λb=>A.ln a λc=>A.ln b λd=>A.cd .neq c d (K [.b U] h) (A.ln a λc=>A.loop (λd e f=>A.k4 e λe=>A.cd .lss e c (A.ix 3 a e 3 f λa=>A.M8 a λa c g=>A.ix 3 b e 3 f λb=>A.M8 b λb i j=>A.eqs [(.i a,.i b),(.i c,.i i),(.i g,.i j)] λa=>A.cond (!a) (K [.b U] f) (A.pa e 1 λa=>d [.i a] f)) (K [.b J] f)) [.i 0] h)
def f31:R:=A.D3 ls λa b=>A.D3 b λb c=>A.k0 c λc=>A.ln a λd=>A.loop (λe f g=>A.k4 f λf=>A.cd .lss f d (A.ix 4 a f 4 g λa=>A.ua DQ a λa d=>A.ua DQ d λd i=>A.ua DU i λi j=>A.C7 j λj k=>A.qa j (A.wb k (A.ln b λk=>A.cd .geq f k (K [.i 1] g) (A.ix 4 b f 4 g λb=>A.ua DQ b λb k=>A.ua DQ k λk l=>A.ua DU l λl m=>A.C7 m λm n=>A.qa m (A.wb n (A.D' c [EU ⟨[EO DQ a,EO DQ d,EO DU i,j]⟩,EU ⟨[EO DQ b,EO DQ k,EO DU l,m]⟩] [.leaf (.i DQ)] g λa b=>A.k4 a λa=>A.cd .neq a 0 (K [.i a] b) (A.pa f 1 λa=>e [.i a] b))))))) (A.ln a λa=>A.ln b λb=>A.cd .lss a b (K [.i (-1)] g) (K [.i 0] g))) [.i 0] h
def f32:R:=A.qs ls λa b=>A.k1 b λb c d e f g i=>A.c4 34 [.i a,.i b,.i c,.i e,.i f,.i g] h λa b=>A.c4 35 [.v d,.v i] a λa c=>A.new (EJ [EO DQ b,EO DQ c] 1 J) a λa b=>A.c4 33 [.v (DW (O ⟨a,0,O 11⟩) 2 3)] b λa b=>K [.i b] a
def f33:R:=A.k0 ls λa=>A.ln a λb=>A.loop (λc d e=>A.k4 d λd=>A.cd .lss d b (A.ix 1 a d 1 e λa=>A.k6 a λa=>A.cd .neq a 0 (K [.i a] e) (A.pa d 1 λa=>c [.i a] e)) (K [.i 0] e)) [.i 0] h
def f34:R:=A.LN ls λa b c d e f=>A.ci c λc=>A.ci f λf=>A.new (EJ [EO DQ b,EO DQ e,EO DQ a,EO DQ d,EO DQ c,EO DQ f] 2 J) h λa b=>A.c4 63 [.v (DW (O ⟨a,0,O 12⟩) 3 4)] b λa b=>K [.i b] a
def f35:R:=A.D3 ls λa b=>A.k0 b λb=>A.ln a λc=>A.loop (λd e f=>A.k4 e λe=>A.cd .lss e c (A.ix 1 a e 1 f λa=>A.k6 a λa=>A.ln b λc=>A.cd .geq e c (K [.i 1] f) (A.ix 1 b e 1 f λb=>A.k6 b λb=>A.c4 64 [.i a,.i b] f λa b=>A.cd .neq b 0 (K [.i b] a) (A.pa e 1 λb=>d [.i b] a))) (A.ln a λa=>A.ln b λb=>A.cd .lss a b (K [.i (-1)] f) (K [.i 0] f))) [.i 0] h
def f36:R:=A.k0 ls λa=>A.ln a λb=>A.ln a λc=>A.km (GV 7 a Q (O b) (O c)) λa=>A.qa a (K [.v a] h)
def f37:R:=A.D3 ls λa b=>A.k0 b λb=>A.c2 65 [.v a,.v b,.v (.func (.func 66) ⟨[]⟩ ⟨[]⟩)] h λa b=>K [.b b] a
def f38:R:=A.k1 ls λa b c d e f _=>A.call 20 [.i a,.i b,.v c,.i d,.i e,.i f] h λd e=>A.k3 d λd _=>A.c0 24 [.i a,.i b,.v c] e λc e=>A.loop (λc f g=>A.k3 f λf i=>A.ln d λj=>A.cd .lss i j (A.loop (λf g j=>A.k3 g λg k=>A.cd .lss k 3 (A.join (λa b=>A.k0 a λa=>A.pa k 1 λc=>f [.v a,.i c] b) λc=>A.c4 54 [.i a,.i b,.i i,.i k] j λf j=>A.cd .lss j i (c [.v g] f) (A.pm 3 i λl=>A.pa l k λk=>A.ix 1 e k 1 f λe=>A.k5 e λe=>A.cd .neq e 0 (c [.v g] f) (A.ix 3 d i 3 f λe=>A.k9 e λe k l=>A.c7 23 [.i a,.i b,.i i] f λf m n o=>A.c7 22 [.i e,.i k,.i l,.i m,.i n,.i o] f λe f k l=>A.ix 3 d j 3 e λd=>A.k9 d λd m n=>A.c7 23 [.i a,.i b,.i j] e λa b e o=>A.c7 22 [.i d,.i m,.i n,.i b,.i e,.i o] a λa b d e=>A.c8 68 [.i f,.i k,.i l,.i b,.i d,.i e] a λa b d=>A.new (EJ [EO DQ i,EO DQ j,EO DU b,EO DQ d] 4 J) a λa b=>A.av 4 32 g (DW (O ⟨a,0,O 14⟩) 1 2) b λa b=>c [.v a] b))) (A.pa i 1 λa=>c [.v g,.i a] j)) [.v f,.i 0] g) (K [.v f] g)) [.v (DW Q 0 0),.i 0] c
def f39:R:=A.k8 ls λa b=>A.cd .eql a 1 (A.pm 2 b λa=>K [.i 4,.i a,.i 0] h) (A.cd .eql a 2 (A.pm 2 b λa=>K [.i 6,.i 0,.i a] h) (A.cd .eql a 3 (K [.i 5,.i b,.i b] h) (A.ps 0 b λa=>K [.i 7,.i a,.i b] h)))
def f40:R:=A.qs ls λa b=>A.Ib b λb c d e=>A.c8 59 [.i c,.i d,.i e] h λc d e=>A.pa d e λf=>A.ps e d λg=>A.new (EJ [EO DQ 0,EO DQ d,EO DQ e,EO DQ f,EO DQ g] 1 J) c λc d=>A.km (D8 1 (DW (O ⟨c,0,O 11⟩) 5 6) a) λa=>A.oo (.lg cc 1 a) d λa=>A.k6 a λa=>A.pm 6 b λb=>A.cd .lss a b (K [.i 0] d) (K [.i 1] d)
def f41:R:=A.LN ls λa b c d e f=>A.c8 58 [.i a,.i b,.i c,.i 0,.i 0] h λg i j=>A.c8 58 [.i d,.i e,.i f,.i i,.i j] g λg i j=>A.c8 58 [.i a,.i b,.i c,.i 6,.i 0] g λg k l=>A.c8 58 [.i d,.i e,.i f,.i k,.i l] g λg k l=>A.c8 58 [.i a,.i b,.i c,.i 0,.i 6] g λa b c=>A.c8 58 [.i d,.i e,.i f,.i b,.i c] a λa b c=>A.loop (λa d e=>A.k4 d λd=>A.cd .lss d 8 (A.c4 69 [.i i,.i 6] e λe f=>A.c4 69 [.i j,.i 6] e λe g=>A.c8 58 [.i d,.i f,.i g,.i 6,.i 0] e λe i j=>A.eqs [(.i i,.i k),(.i j,.i l)] λi=>A.cond i (A.c8 58 [.i d,.i f,.i g,.i 0,.i 6] e λe i j=>A.eqs [(.i i,.i b),(.i j,.i c)] λb=>A.join (λb c=>A.C3 b (A.C5 .add DU d 1 λb=>a [.i b] c)) λa=>A.cond b (K [.i d,.i f,.i g] e) (a [] e)) (A.C5 .add DU d 1 λb=>a [.i b] e)) (K [.i 0,.i 0,.i 0] e)) [.i 0] a
def f42:R:=A.k0 ls λa=>A.new (EJ [] 4 J) h λb c=>A.av 4 48 (DW (O ⟨b,0,O 14⟩) 0 1) a c λa b=>A.loop (λb c d=>A.k4 c λc=>A.ln a λe=>A.cd .lss c e (A.join (λa d=>A.C3 a (A.pa c 1 λa=>b [.i a] d)) λb=>A.loop (λc d e=>A.k4 d λd=>A.cd .gtr d 0 (A.ps d 1 λf=>A.fx 4 a f 0 3 e λf=>A.IA f λf g i=>A.fx 4 a d 0 3 e λj=>A.IA j λj k l=>A.c4 70 [.i f,.i g,.i i,.i j,.i k,.i l] e λe f=>A.cd .eql f 1 (A.ps d 1 λb=>A.ix 4 a d 4 e λf=>A.ua DQ f λf g=>A.ua DQ g λg i=>A.ua DU i λi j=>A.C7 j λj k=>A.qa j (A.wb k (A.ps d 1 λk=>A.ix 4 a k 4 e λk=>A.ua DQ k λk l=>A.ua DQ l λl m=>A.ua DU m λm n=>A.C7 n λn o=>A.qa n (A.wb o (A.km (D8 4 a b) λb=>A.heap (.st b [EO DQ f,EO DQ g,EO DU i,j]) e λ_ b=>A.km (D8 4 a d) λa=>A.heap (.st a [EO DQ k,EO DQ l,EO DU m,n]) b λ_ a=>A.ps d 1 λb=>c [.i b] a))))) (b [] e)) (b [] e)) [.i c] d) (K [.v a] d)) [.i 1] b
def f43:R:=A.Ib ls λa b c d=>A.loop (λe f g=>A.k4 f λf=>A.cd .lss f 3 (A.c4 54 [.i a,.i b,.i c,.i f] g λa b=>A.cd .neq b d (A.pa f 1 λb=>e [.i b] a) (A.C5 .rem DQ c 4 λb=>A.C5 .rem DQ d 4 λe=>A.pa b e λb=>A.cd .eql b 1 (K [.i 1] a) (A.C5 .rem DQ c 4 λb=>A.C5 .rem DQ d 4 λc=>A.pa b c λb=>A.cd .eql b 5 (K [.i 1] a) (K [.i 2] a)))) (K [.i 0] g)) [.i 1] h
def f44:R:=A.k0 ls λa=>A.loop (λb c d=>A.k4 c λc=>A.ln a λe=>A.cd .lss c e (A.join (λa d=>A.C3 a (A.pa c 1 λa=>b [.i a] d)) λb=>A.loop (λc d e=>A.k4 d λd=>A.cd .gtr d 0 (A.ps d 1 λf=>A.fx 3 a f 0 1 e λf=>A.k6 f λf=>A.fx 3 a d 0 1 e λg=>A.k6 g λg=>A.cd .gtr f g (A.ps d 1 λb=>A.ix 3 a d 3 e λf=>A.M8 f λf g i=>A.ps d 1 λj=>A.ix 3 a j 3 e λj=>A.M8 j λj k l=>A.km (D8 3 a b) λb=>A.heap (.st b [EO DQ f,EO DU g,EO DU i]) e λ_ b=>A.km (D8 3 a d) λa=>A.heap (.st a [EO DQ j,EO DU k,EO DU l]) b λ_ a=>A.ps d 1 λb=>c [.i b] a) (A.ps d 1 λf=>A.fx 3 a f 0 1 e λf=>A.k6 f λf=>A.fx 3 a d 0 1 e λg=>A.k6 g λg=>A.cd .eql f g (A.ps d 1 λf=>A.fx 3 a f 1 1 e λf=>A.k5 f λf=>A.fx 3 a d 1 1 e λg=>A.k5 g λg=>A.cmp .gtr f g λf=>A.join (λb e=>A.C3 b (A.ps d 1 λb=>A.ix 3 a d 3 e λf=>A.M8 f λf g i=>A.ps d 1 λj=>A.ix 3 a j 3 e λj=>A.M8 j λj k l=>A.km (D8 3 a b) λb=>A.heap (.st b [EO DQ f,EO DU g,EO DU i]) e λ_ b=>A.km (D8 3 a d) λa=>A.heap (.st a [EO DQ j,EO DU k,EO DU l]) b λ_ a=>A.ps d 1 λb=>c [.i b] a)) λa=>A.cond f (a [] e) (b [] e)) (b [] e))) (b [] e)) [.i c] d) (K [.v a] d)) [.i 1] h
def f45:R:=A.qs ls λa b=>A.qs b λb c=>A.D3 c λc d=>A.k7 d λd e f=>A.call 71 [.i a,.i b,.v c,.i d,.i e,.i f] h λa b=>A.D3 a λ_ a=>A.k3 a λa c=>K [.v a,.i c] b
def f46:R:=A.D3 ls λa b=>A.k0 b λb=>A.ln a λc=>A.conv .u64 c λd=>A.c4 73 [.i d] h λd e=>A.call 72 [.v a,.i 0,.i c,.i e,.v b] d λa b=>A.C3 a (K [] b)
def f47:R:=A.D3 ls λa b=>A.k0 b λb=>A.new (.map [] 0) h λc d=>A.fp 0 a λe=>A.oo (.lg cc 3 e) d λe=>A.ua DQ e λe f=>A.ua DQ f λf g=>A.C7 g λg i=>A.qa g (A.wb i (A.fp 3 a λi=>A.oo (.lg cc 3 i) d λi=>A.k9 i λi j k=>A.call 74 [.i e,.i f,.v g,.i i,.i j,.i k] d λd e=>A.k3 d λd _=>A.ln b λf=>A.loop (λe g i=>A.k3 g λg j=>A.cd .lss j f (A.fp 0 a λf=>A.km (Fq 0 f) λf=>A.qa f (A.oo (.lg cc 2 f) i λf=>A.KM f λf k=>A.MK 75 [.i f,.i k,.i j] i λf i k l _=>A.loop (λf g m=>A.k3 g λg n=>A.cd .lss n 3 (A.join (λa b=>A.k0 a λa=>A.C5 .add DU n 1 λc=>f [.v a,.i c] b) λe=>A.MK 76 [.i i,.i k,.i l,.i n] m λf i k l _=>A.ix 3 b j 3 f λb=>A.IA b λb m o=>A.ix 3 d j 3 f λp=>A.k9 p λp q r=>A.MK 77 [.i p,.i q,.i r,.i i,.i k,.i l] f λf i k l p=>A.cd .neq p 0 (K [.v (DW Q 0 0),.i 3] f) (A.c4 34 [.i b,.i m,.i o,.i i,.i k,.i l] f λf p=>A.cmp .gtr p 0 λp=>A.join (λb f=>A.qs b λb i=>A.LN i λi k l m o p=>A.oo (.fn (Hv cc 164 U (EQ Q) (.map (O c)) (EU ⟨[EO DQ i,EO DQ k,EO DU l,EO DQ m,EO DQ o,EO DU p]⟩) U)) f λq=>A.C7 q λq r=>A.qa q (A.wb r (A.km (mn 4 q (EQ Q)) λr=>A.join (λc f=>A.D3 c λc g=>A.k0 g λg=>A.fp 0 a λi=>A.km (Fq 0 i) λi=>A.qa i (A.oo (.lg cc 2 i) f λi=>A.KM i λi k=>A.c8 78 [.i i,.i k,.i j,.i n] f λf i k=>A.cd .neq k 0 (e [.v g] f) (A.cd .lss i j (e [.v g] f) (A.fp 0 a λk=>A.oo (.lg cc 3 k) f λk=>A.ua DQ k λk l=>A.ua DQ l λl m=>A.C7 m λm o=>A.qa m (A.wb o (A.c8 79 [.i k,.i l,.v m,.i j,.i n] f λf k _=>A.cd .eql k 0 (A.cmp .eql b 0 λl=>A.join (λa b=>A.C3 a (e [.v g] b)) λe=>A.cond l (A.fp 0 c λa=>A.lv a f λa=>A.new (EJ [EO DQ j,EO DQ i] 2 J) f λb d=>A.av 2 16 a (DW (O ⟨b,0,O 12⟩) 1 2) d λa b=>A.fp 0 c λc=>A.heap (.st c [a]) b λ_ a=>e [] a) (A.cmp .eql k 0 λg=>A.join (λa b=>A.C3 a (e [] b)) λe=>A.cond g (A.fp 0 c λa=>A.lv a f λa=>A.new (EJ [EO DQ i,EO DQ j] 2 J) f λb d=>A.av 2 16 a (DW (O ⟨b,0,O 12⟩) 1 2) d λa b=>A.fp 0 c λc=>A.heap (.st c [a]) b λ_ a=>e [] a) (A.fp 1 c λg=>A.km (Y9 2 1 g b) λg=>A.qa g (A.lv g f λl=>A.new (EJ [EO DQ j,EO DQ i] 2 J) f λf m=>A.av 2 16 l (DW (O ⟨f,0,O 12⟩) 1 2) m λl m=>A.fp 1 c λc=>A.km (Y9 2 1 c b) λb=>A.qa b (A.heap (.st b [l]) m λ_ b=>A.km (Sx.Fh [(DW (O ⟨f,0,O 12⟩) 1 2,(0,g))]) λ_=>A.ix 3 d j 3 b λc=>A.k9 c λc d f=>A.c2 81 [.i c,.i d,.i f] b λb c=>A.call 80 [.v a,.i k,.i j,.i i,.b (!c)] b λa b=>A.C3 a (e [] b)))))) (A.cmp .eql k 0 λl=>A.join (λa b=>A.C3 a (e [.v g] b)) λe=>A.cond l (A.fp 0 c λa=>A.lv a f λa=>A.new (EJ [EO DQ i,EO DQ j] 2 J) f λb d=>A.av 2 16 a (DW (O ⟨b,0,O 12⟩) 1 2) d λa b=>A.fp 0 c λc=>A.heap (.st c [a]) b λ_ a=>e [] a) (A.fp 1 c λg=>A.km (Y9 2 1 g b) λg=>A.qa g (A.lv g f λl=>A.new (EJ [EO DQ j,EO DQ i] 2 J) f λf m=>A.av 2 16 l (DW (O ⟨f,0,O 12⟩) 1 2) m λl m=>A.fp 1 c λc=>A.km (Y9 2 1 c b) λb=>A.qa b (A.heap (.st b [l]) m λ_ b=>A.km (Sx.Fh [(DW (O ⟨f,0,O 12⟩) 1 2,(0,g))]) λ_=>A.ix 3 d j 3 b λc=>A.k9 c λc d f=>A.c2 81 [.i c,.i d,.i f] b λb c=>A.call 80 [.v a,.i k,.i j,.i i,.b (!c)] b λa b=>A.C3 a (e [] b))))))))))) λa=>A.cond r (A.new (EJ [DW Q 0 0,DW Q 0 0,DW Q 0 0] 3 J) f λb d=>A.heap (.fn (Ic cc 164 (.map (O c)) (EU ⟨[EO DQ i,EO DQ k,EO DU l,EO DQ m,EO DQ o,EO DU p]⟩) (EQ (O ⟨b,0,Q⟩)))) d λ_ c=>A.new (EJ [EQ (O ⟨b,0,Q⟩)] 1 J) c λc d=>A.av 1 8 g (DW (O ⟨c,0,O 11⟩) 1 2) d λc d=>a [.v (EQ (O ⟨b,0,Q⟩)),.v c] d) (a [.v q,.v g] f)))) λa=>A.cond p (a [.i 1,.i i,.i k,.i l,.i b,.i m,.i o] f) (a [.i 0,.i b,.i m,.i o,.i i,.i k,.i l] f))) (A.pa j 1 λa=>e [.v g,.i a] m)) [.v g,.i 0] f)) (K [.v g,.i 0] i)) [.v (DW Q 0 0),.i 0] e))
def f48:R:=A.D3 ls λa b=>A.k0 b λb=>A.fp 0 b λc=>A.lv c h λc=>A.ln c λd=>A.loop (λe f g=>A.k4 f λf=>A.cd .lss f d (A.ix 2 c f 2 g λc=>A.KM c λc d=>A.fp 0 b λi=>A.lv i g λi=>A.km (GV 2 i Q (O f) Q) λi=>A.qa i (A.ln i λj=>A.loop (λg k l=>A.k4 k λk=>A.cd .lss k j (A.ix 2 i k 2 l λb=>A.KM b λb e=>A.Lv 83 [.v a,.i c,.i b] l λb c f=>A.Lv 83 [.v a,.i d,.i e] b λb d e=>A.call 82 [.v a,.i c,.b f,.i d,.b e] b λa b=>A.C3 a (A.pa k 1 λa=>g [.i a] b)) (A.fp 1 b λb=>A.oo (.lg cc 2 b) l λb=>A.C7 b λb g=>A.qa b (A.C7 g λg i=>A.qa g (A.wb i (A.loop (λi j k=>A.k4 j λj=>A.cd .lss j 2 (A.km (G4 2 j) λ_=>A.km (jz [.v b,.v g] 0 [(j,1)] 1) λb=>A.k0 b λb=>A.ln b λe=>A.loop (λf g k=>A.k4 g λg=>A.cd .lss g e (A.ix 2 b g 2 k λb=>A.KM b λb e=>A.km (G4 2 j) λ_=>A.km (jz [.i c,.i d] 0 [(j,1)] 1) λi=>A.k4 i λi=>A.Lv 83 [.v a,.i i,.i b] k λb i k=>A.km (G4 2 j) λ_=>A.km (jz [.i c,.i d] 0 [(j,1)] 1) λc=>A.k4 c λc=>A.Lv 83 [.v a,.i c,.i e] b λb c d=>A.call 82 [.v a,.i i,.b k,.i c,.b d] b λa b=>A.C3 a (A.pa g 1 λa=>f [.i a] b)) (A.pa j 1 λa=>i [.i a] k)) [.i 0] k) (A.pa f 1 λa=>e [.i a] k)) [.i 0] l))))) [.i 0] g)) (A.fp 1 b λb=>A.oo (.lg cc 2 b) g λb=>A.C7 b λb c=>A.qa b (A.C7 c λc d=>A.qa c (A.wb d (A.loop (λd e f=>A.k4 e λe=>A.cd .lss e 2 (A.km (G4 2 e) λ_=>A.km (jz [.v b,.v c] 0 [(e,1)] 1) λb=>A.k0 b λb=>A.ln b λc=>A.loop (λf g i=>A.k4 g λg=>A.cd .lss g c (A.ix 2 b g 2 i λc=>A.KM c λc d=>A.km (GV 2 b Q (O g) Q) λb=>A.qa b (A.ln b λe=>A.loop (λi j k=>A.k4 j λj=>A.cd .lss j e (A.ix 2 b j 2 k λb=>A.KM b λb e=>A.fp 13 a λf=>A.lv f k λg=>A.Lv 83 [.v a,.i c,.i b] k λk l m=>A.Lv 83 [.v a,.i d,.i b] k λb k n=>A.Lv 83 [.v a,.i c,.i e] b λb c o=>A.Lv 83 [.v a,.i d,.i e] b λb d e=>A.new (EJ [EO DQ l,.bool m,EO DQ k,.bool n,EO DQ c,.bool o,EO DQ d,.bool e] 8 J) b λb c=>A.av 8 64 g (DW (O ⟨b,0,O 18⟩) 1 2) c λb d=>A.fp 13 a λa=>A.heap (.st a [b]) d λ_ a=>A.lv f c λb=>A.km (Sx.YK g b) λ_=>A.pa j 1 λb=>i [.i b] a) (A.pa g 1 λa=>f [.i a] k)) [.i 0] i)) (A.pa e 1 λa=>d [.i a] i)) [.i 0] f) (K [] f)) [.i 0] g))))) [.i 0] h
def f49:R:=A.D3 ls λa b=>A.k0 b λb=>A.new (EJ [a] 1 J) h λa c=>A.new (EJ [.nilFunc] 1 J) c λc d=>A.qa (.func (.func 50) ⟨[]⟩ ⟨[b,EQ (O ⟨a,0,Q⟩),EQ (O ⟨c,0,Q⟩)]⟩) (A.heap (.st (EQ (O ⟨c,0,Q⟩)) [.func (.func 50) ⟨[]⟩ ⟨[b,EQ (O ⟨a,0,Q⟩),EQ (O ⟨c,0,Q⟩)]⟩]) d λ_ a=>A.lv b a λb=>A.fp 14 b λb=>A.oo (.lg cc 1 b) a λb=>A.F5 b λb d=>A.wb d (A.join (λa b=>A.C3 a (K [] b)) λd=>A.cond (!b) (A.lv (EQ (O ⟨c,0,Q⟩)) a λb=>A.D' b [EO DQ 0] [.leaf .b] a λa b=>A.k2 a λ_=>d [] b) (d [] a)))
def f50:R:=A.qs ls λa b=>A.D3 b λb c=>A.D3 c λc d=>A.k0 d λd=>A.lv b h λe=>A.fp 6 e λe=>A.lv e h λe=>A.ln e λe=>A.cd .eql a e (A.lv c h λa=>A.lv b h λb=>A.call 51 [.v b] h λb d=>A.k1 b λb e f g i j k=>A.lv c d λc=>A.km (Sx.M3 a c) λ_=>A.D' a [EU ⟨[EO DQ b,EO DQ e,f,EO DU g,EO DQ i,EO DQ j,k]⟩] [.leaf .b] d λa b=>A.k2 a λa=>K [.b a] b) (A.lv b h λc=>A.fp 8 c λc=>A.lv c h λc=>A.ix 1 c a 1 h λc=>A.C7 c λc e=>A.qa c (A.wb e (A.ln c λc=>A.lv b h λe=>A.fp 7 e λe=>A.lv e h λe=>A.ix 1 e a 1 h λe=>A.C7 e λe f=>A.qa e (A.wb f (A.ln e λe=>A.cd .eql c e (A.lv d h λb=>A.pa a 1 λa=>A.D' b [EO DQ a] [.leaf .b] h λa b=>A.k2 a λa=>K [.b a] b) (A.lv b h λc=>A.fp 7 c λc=>A.lv c h λc=>A.ix 1 c a 1 h λc=>A.C7 c λc e=>A.qa c (A.wb e (A.ln c λe=>A.loop (λf g i=>A.k4 g λg=>A.cd .lss g e (A.join (λa b=>A.C3 a (A.pa g 1 λa=>f [.i a] b)) λe=>A.ix 1 c g 1 i λc=>A.k6 c λc=>A.lv b i λf=>A.fp 9 f λf=>A.lv f i λf=>A.ix 1 f c 1 i λf=>A.F5 f λf g=>A.wb g (A.cond f (e [] i) (A.new (EJ [DW Q 0 0] 1 J) i λf g=>A.join (λc d=>A.k2 c λc=>A.lv b d λb=>A.lv (EQ (O ⟨f,0,Q⟩)) d λf=>A.call 53 [.v b,.i a,.v f] d λa b=>A.C3 a (A.cond (!c) (K [.b U] b) (e [] b))) λe=>A.lv b g λb=>A.c2 52 [.v b,.i a,.i c,.v (EQ (O ⟨f,0,Q⟩))] g λb c=>A.cond (!c) (e [.b J] b) (A.lv d b λc=>A.D' c [EO DQ a] [.leaf .b] b λa b=>A.k2 a λa=>e [.b a] b)))) (K [.b J] i)) [.i 0] h))))))))
def f51:R:=A.k0 ls λa=>A.fp 0 a λb=>A.oo (.lg cc 3 b) h λb=>A.ua DQ b λb c=>A.ua DQ c λc d=>A.C7 d λd e=>A.qa d (A.wb e (A.c0 85 [.v d] h λd e=>A.c0 84 [.v e] d λd e=>A.fp 3 a λf=>A.oo (.lg cc 3 f) d λg=>A.k9 g λg i j=>A.fp 6 a λk=>A.lv k d λk=>A.ln k λk=>A.km (FV k k) λ_=>A.new (EJ (aQ [EO DQ 0,EO DQ 0,EO DU 0,DW Q 0 0] (Int.toNat k)) 4 J) d λd l=>A.km (Sx.Fh [(DW (O ⟨d,0,O 14⟩) (Int.toNat k) ((Int.toNat k)+1),(0,f))]) λ_=>A.fp 6 a λf=>A.lv f l λf=>A.ln f λm=>A.loop (λl n o=>A.k4 n λn=>A.cd .lss n m (A.ix 3 f n 3 o λb=>A.IA b λb c e=>A.fp 8 a λa=>A.lv a o λa=>A.ix 1 a n 1 o λa=>A.C7 a λa f=>A.qa a (A.wb f (A.c0 87 [.v a] o λa f=>A.c0 86 [.v f] a λa f=>A.km (D8 4 (DW (O ⟨d,0,O 14⟩) (Int.toNat k) ((Int.toNat k)+1)) n) λd=>A.heap (.st d [EO DQ b,EO DQ c,EO DU e,f]) a λ_ a=>A.pa n 1 λb=>l [.i b] a))) (K [.i b,.i c,.v e,.i g,.i i,.i j,.v (DW (O ⟨d,0,O 14⟩) (Int.toNat k) ((Int.toNat k)+1))] o)) [.i 0] l))
def f52:R:=A.D3 ls λa b=>A.qs b λb c=>A.qs c λc d=>A.k0 d λd=>A.fp 9 a λe=>A.lv e h λe=>A.km (D8 1 e c) λe=>A.heap (.st e [.bool J]) h λ_ e=>A.fp 8 a λf=>A.lv f e λg=>A.fp 8 a λi=>A.lv i e λj=>A.km (D8 1 j b) λj=>A.lv j e λk=>A.new (EJ [EO DQ c] 1 J) e λe l=>A.av 1 8 k (DW (O ⟨e,0,O 11⟩) 1 2) l λl m=>A.km (D8 1 g b) λg=>A.heap (.st g [l]) m λ_ g=>A.km (Sx.Fh [(DW (O ⟨e,0,O 11⟩) 1 2,(0,f)),(DW (O ⟨e,0,O 11⟩) 1 2,(0,i)),(DW (O ⟨e,0,O 11⟩) 1 2,(0,j)),(k,(0,f)),(l,(0,f))]) λ_=>A.fp 7 a λe=>A.lv e g λe=>A.ix 1 e b 1 g λb=>A.C7 b λb e=>A.qa b (A.wb e (A.ln b λe=>A.loop (λf g i=>A.k4 g λg=>A.cd .lss g e (A.ix 1 b g 1 i λb=>A.k6 b λb=>A.fp 9 a λe=>A.lv e i λe=>A.ix 1 e b 1 i λe=>A.F5 e λe j=>A.wb j (A.cond (!e) (A.Lv 83 [.v a,.i c,.i b] i λb c e=>A.c2 88 [.v a,.i c,.b e,.v d] b λa b=>A.join (λa b=>A.C3 a (A.pa g 1 λa=>f [.i a] b)) λc=>A.cond (!b) (K [.b U] a) (c [] a)) (A.pa g 1 λa=>f [.i a] i))) (A.c2 89 [.v a] i λa b=>K [.b b] a)) [.i 0] g))
def f53:R:=A.D3 ls λa b=>A.qs b λb c=>A.k0 c λc=>A.fp 8 a λd=>A.lv d h λd=>A.ix 1 d b 1 h λd=>A.C7 d λd e=>A.qa d (A.wb e (A.ln d λd=>A.ps d 1 λd=>A.fp 9 a λe=>A.lv e h λe=>A.fp 8 a λf=>A.lv f h λf=>A.ix 1 f b 1 h λf=>A.C7 f λf g=>A.qa f (A.wb g (A.ix 1 f d 1 h λf=>A.k6 f λf=>A.km (D8 1 e f) λe=>A.heap (.st e [.bool U]) h λ_ e=>A.fp 8 a λf=>A.lv f e λf=>A.fp 8 a λg=>A.lv g e λg=>A.ix 1 g b 1 e λg=>A.C7 g λg i=>A.qa g (A.wb i (A.km (GV 1 g Q (O d) Q) λd=>A.qa d (A.km (D8 1 f b) λb=>A.heap (.st b [d]) e λ_ b=>A.ln c λd=>A.loop (λb e f=>A.k4 e λe=>A.cd .lss e d (A.ix 1 c e 1 f λc=>A.k6 c λc=>A.fp 12 a λa=>A.lv a f λa=>A.km (D8 1 a c) λa=>A.heap (.st a [EO DQ 0]) f λ_ a=>A.pa e 1 λc=>b [.i c] a) (K [] f)) [.i 0] b)))))))
def f54:R:=A.Ib ls λa b c d=>A.c7 23 [.i a,.i b,.i c] h λc e f g=>A.c7 25 [.i e,.i f,.i g,.i d] c λc d e f=>A.cd .lss d 0 (K [.i (-1)] c) (A.cd .lss e 0 (K [.i (-1)] c) (A.cd .geq d a (K [.i (-1)] c) (A.cd .geq e b (K [.i (-1)] c) (A.pm e a λa=>A.pa a d λa=>A.pm 4 a λa=>A.ci f λb=>A.pa a b λa=>K [.i a] c))))
def f55:R:=A.LN ls λa b c d e f=>A.cd .neq a d (A.c4 90 [.i a,.i d] h λa b=>A.pm 2 b λb=>K [.i 4,.i b,.i 0] a) (A.cd .neq b e (A.c4 90 [.i b,.i e] h λa b=>A.pm 2 b λb=>K [.i 6,.i 0,.i b] a) (A.C5 .add DU c f λd=>A.cd .eql d 1 (A.pa a b λc=>A.pa c 1 λc=>A.pa a b λa=>A.pa a 1 λa=>K [.i 5,.i c,.i a] h) (A.C5 .add DU c f λc=>A.cd .eql c 5 (A.pa a b λc=>A.pa c 1 λc=>A.pa a b λa=>A.pa a 1 λa=>K [.i 5,.i c,.i a] h) (A.ps a b λc=>A.ps b a λa=>K [.i 7,.i c,.i a] h))))
def f56:R:=A.LN ls λa b c d e f=>A.cd .lss b e (K [.i 1] h) (A.cd .eql b e (A.cd .lss a d (K [.i 1] h) (A.cd .eql a d (A.cmp .lss c f λa=>A.join (λa b=>A.C3 a (K [.i 0] b)) λb=>A.cond a (K [.i 1] h) (b [] h)) (K [.i 0] h))) (K [.i 0] h))
def f57:R:=A.k8 ls λa b=>A.c4 69 [.i a,.i 6] h λc d=>A.c4 69 [.i b,.i 6] c λc e=>A.pm 6 d λf=>A.ps a f λa=>A.pm 6 e λf=>A.ps b f λb=>A.cd .lss b a (A.pa a b λf=>A.cmp .lss f 6 λf=>A.join (λa b=>A.k7 a λa c d=>K [.i a,.i c,.i d] b) λg=>A.cond f (g [.i d,.i e,.i 0] c) (A.cmp .lss b a λf=>A.join (λa b=>A.k7 a λa c d=>g [.i a,.i c,.i d] b) λg=>A.cond f (g [.i d,.i e,.i 1] c) (A.pa a b λa=>A.cmp .gtr a 6 λa=>A.join (λa b=>A.k7 a λa c d=>g [.i a,.i c,.i d] b) λb=>A.cond a (b [.i d,.i e,.i 2] c) (b [.i d,.i e,.i 3] c)))) (A.cmp .lss b a λf=>A.join (λa b=>A.k7 a λa c d=>K [.i a,.i c,.i d] b) λg=>A.cond f (g [.i d,.i e,.i 1] c) (A.pa a b λa=>A.cmp .gtr a 6 λa=>A.join (λa b=>A.k7 a λa c d=>g [.i a,.i c,.i d] b) λb=>A.cond a (b [.i d,.i e,.i 2] c) (b [.i d,.i e,.i 3] c)))
def f58:R:=A.qs ls λa b=>A.Ib b λb c d e=>A.cmp .geq a 4 λf=>A.join (λd f=>A.k4 d λd=>A.loop (λd e f=>A.k7 e λe g i=>A.C5 .rem DU a 4 λa=>A.ci a λa=>A.cd .lss i a (A.ps 0 g λa=>A.pa i 1 λb=>d [.i a,.i e,.i b] f) (A.pm 6 b λa=>A.pa e a λa=>A.pm 6 c λb=>A.pa g b λb=>K [.i a,.i b] f)) [.i d,.i e,.i 0] f) λa=>A.cond f (A.ps 0 d λb=>a [.i b] h) (a [.i d] h)
def f59:R:=A.k7 ls λa b c=>A.call 91 [.i a,.i b,.i c] h λa b=>A.LN a λa c d e f g=>A.pa a d λa=>A.pa a f λa=>A.pq a 3 λa=>A.pa c e λc=>A.pa c g λc=>A.pq c 3 λc=>K [.i a,.i c] b
def f60:R:=A.Ib ls λa b c d=>A.cd .eql d 0 (K [.i 0] h) (A.c7 23 [.i a,.i b,.i c] h λa _ _ b=>A.cd .eql b 0 (A.cmp .eql d 1 λb=>A.eqs [(.b J,.b b)] λb=>A.cond b (K [.i 1] a) (K [.i 2] a)) (A.cmp .eql b 2 λb=>A.cmp .eql d 1 λc=>A.eqs [(.b b,.b c)] λb=>A.cond b (K [.i 1] a) (K [.i 2] a)))
def f61:R:=A.D3 ls λa b=>A.k7 b λb c d=>A.loop (λe f g=>A.k4 f λf=>A.ln a λi=>A.cd .lss f i (A.fx 4 a f 0 3 g λi=>A.IA i λi j k=>A.eqs [(.i i,.i b),(.i j,.i c),(.i k,.i d)] λb=>A.cond b (A.fx 4 a f 3 1 g λa=>A.C7 a λa b=>A.qa a (A.wb b (K [.v a] g))) (A.pa f 1 λa=>e [.i a] g)) (K [.v (DW Q 0 0)] g)) [.i 0] h
def f62:R:=A.k3 ls λa b=>A.loop (λc d e=>A.k4 d λd=>A.ln a λf=>A.cd .lss d f (A.fx 3 a d 0 1 e λa=>A.k6 a λa=>A.cd .eql a b (K [.i d] e) (A.pa d 1 λa=>c [.i a] e)) (K [.i (-1)] e)) [.i 0] h
def f63:R:=A.k0 ls λa=>A.ln a λb=>A.loop (λc d e=>A.k4 d λd=>A.cd .lss d b (A.ix 2 a d 2 e λa=>A.KM a λa b=>A.c4 64 [.i a,.i b] e λa b=>A.cd .neq b 0 (K [.i b] a) (A.pa d 1 λb=>c [.i b] a)) (K [.i 0] e)) [.i 0] h
def f64:R:=A.k8 ls λa b=>A.c2 92 [.i a] h λc d=>A.c2 92 [.i b] c λc e=>A.cond d (A.cond e (K [.i 0] c) (K [.i (-1)] c)) (A.cond e (K [.i 1] c) (A.cd .lss a b (K [.i (-1)] c) (A.cd .gtr a b (K [.i 1] c) (K [.i 0] c))))
def f65:R:=A.D3 ls λa b=>A.D3 b λb c=>A.k0 c λc=>A.ln a λd=>A.ln b λe=>A.cd .neq d e (K [.b U] h) (A.ln a λd=>A.loop (λe f g=>A.k4 f λf=>A.cd .lss f d (A.ix 4 a f 4 g λa=>A.ua DQ a λa d=>A.ua DQ d λd i=>A.ua DU i λi j=>A.C7 j λj k=>A.qa j (A.wb k (A.ix 4 b f 4 g λb=>A.ua DQ b λb k=>A.ua DQ k λk l=>A.ua DU l λl m=>A.C7 m λm n=>A.qa m (A.wb n (A.D' c [EU ⟨[EO DQ a,EO DQ d,EO DU i,j]⟩,EU ⟨[EO DQ b,EO DQ k,EO DU l,m]⟩] [.leaf .b] g λa b=>A.k2 a λa=>A.cond (!a) (K [.b U] b) (A.pa f 1 λa=>e [.i a] b)))))) (K [.b J] g)) [.i 0] h)
def f66:R:=A.qs ls λa b=>A.k1 b λb c d e f g i=>A.join (λa b=>A.k2 a λa=>K [.b a] b) λj=>A.eqs [(.i a,.i e),(.i b,.i f),(.i c,.i g)] λa=>A.cond a (A.c2 67 [.v d,.v i] h λa b=>j [.b b] a) (j [.b U] h)
def f67:R:=A.D3 ls λa b=>A.k0 b λb=>A.ln a λc=>A.ln b λd=>A.cd .neq c d (K [.b U] h) (A.ln a λc=>A.loop (λd e f=>A.k4 e λe=>A.cd .lss e c (A.ix 1 a e 1 f λa=>A.k6 a λa=>A.ix 1 b e 1 f λb=>A.k6 b λb=>A.cd .neq a b (K [.b U] f) (A.pa e 1 λa=>d [.i a] f)) (K [.b J] f)) [.i 0] h)
def f68:R:=A.LN ls λa b c d e f=>A.c7 55 [.i a,.i b,.i c,.i d,.i e,.i f] h λa b c d=>A.cd .eql b 4 (A.pq c 2 λb=>K [.i 1,.i b] a) (A.cd .eql b 6 (A.pq d 2 λb=>K [.i 2,.i b] a) (A.cd .eql b 5 (K [.i 3,.i c] a) (K [.i 4,.i d] a)))
def f69:R:=A.k8 ls λa b=>A.cd .lss a 0 (A.ps 0 a λa=>A.pa a b λa=>A.ps a 1 λa=>A.pq a b λa=>A.ps 0 a λa=>K [.i a] h) (A.pq a b λa=>K [.i a] h)
def f70:R:=A.LN ls λa b c d e f=>A.cd .gtr b e (K [.i 1] h) (A.cd .eql b e (A.cd .gtr a d (K [.i 1] h) (A.cd .eql a d (A.cmp .gtr c f λa=>A.join (λa b=>A.C3 a (K [.i 0] b)) λb=>A.cond a (K [.i 1] h) (b [] h)) (K [.i 0] h))) (K [.i 0] h))
def f71:R:=A.qs ls λa b=>A.qs b λb c=>A.D3 c λc d=>A.k7 d λd e f=>A.c4 93 [.i a,.i b,.v c] h λg i=>A.cd .neq i 0 (K [.v (DW Q 0 0),.v (DW Q 0 0),.i i] g) (A.c4 94 [.i d,.i e,.i f] g λg i=>A.cd .neq i 0 (K [.v (DW Q 0 0),.v (DW Q 0 0),.i 1] g) (A.call 95 [.i a,.i b,.v c] g λc g=>A.k3 c λc i=>A.cd .neq i 0 (K [.v (DW Q 0 0),.v (DW Q 0 0),.i i] g) (A.ln c λi=>A.km (FV i i) λ_=>A.new (EJ (aQ [EO DQ 0,EO DQ 0,EO DU 0] (Int.toNat i)) 3 J) g λg j=>A.ln c λk=>A.loop (λj l m=>A.k4 l λl=>A.cd .lss l k (A.ix 3 c l 3 m λk=>A.k9 k λk n o=>A.MK 75 [.i a,.i b,.i l] m λa b m p _=>A.MK 96 [.i k,.i n,.i o,.i d,.i e,.i f] a λa d e f k=>A.km (D8 3 c l) λn=>A.heap (.st n [EO DU d,EO DQ e,EO DQ f]) a λ_ a=>A.cd .neq k 0 (K [.v (DW Q 0 0),.v (DW Q 0 0),.i k] a) (A.ix 3 c l 3 a λc=>A.k9 c λc d e=>A.MK 77 [.i c,.i d,.i e,.i b,.i m,.i p] a λa b c d e=>A.km (D8 3 (DW (O ⟨g,0,O 13⟩) (Int.toNat i) ((Int.toNat i)+1)) l) λf=>A.heap (.st f [EO DQ b,EO DQ c,EO DU d]) a λ_ a=>A.cd .neq e 0 (K [.v (DW Q 0 0),.v (DW Q 0 0),.i e] a) (A.pa l 1 λb=>j [.i b] a))) (K [.v c,.v (DW (O ⟨g,0,O 13⟩) (Int.toNat i) ((Int.toNat i)+1)),.i 0] m)) [.i 0] j)))
def f72:R:=A.D3 ls λa b=>A.qs b λb c=>A.qs c λc d=>A.qs d λd e=>A.D3 e λe f=>A.C3 f (A.loop (λb c d=>A.qs c λc f=>A.qs f λf g=>A.GM g λ_ g=>A.GM g λ_ g=>A.qs g λg i=>A.C3 i (A.join (λa c=>A.qs a λa d=>A.qs d λd e=>A.GM e λe f=>A.GM f λf g=>A.qs g λg i=>A.C3 i (b [.i a,.i d,.b e,.b f,.i g] c)) λ_=>A.C5 .sub DQ g f λb=>A.cmp .leq b 12 λb=>A.cond b (A.call 97 [.v a,.i f,.i g,.v e] d λa b=>A.C3 a (K [] b)) (A.join (λa _=>A.C3 a (A.fail)) λa=>A.cmp .eql c 0 λ_=>a [] d))) [.i d,.i b,.b J,.b J,.i c] h)
def f73:R:=A.k4 ls λa=>A.c4 106 [.i a] h λa b=>K [.i b] a
def f74:R:=A.qs ls λa b=>A.qs b λb c=>A.D3 c λc d=>A.k7 d λd e f=>A.call 71 [.i a,.i b,.v c,.i d,.i e,.i f] h λa b=>A.D3 a λa c=>A.k3 c λ_ c=>K [.v a,.i c] b
def f75:R:=A.k7 ls λa b c=>A.c4 107 [.i a,.i b] h λd e=>A.cd .neq e 0 (K [.i 0,.i 0,.i 0,.i e] d) (A.c2 108 [.i a,.i b,.i c] d λd e=>A.cond (!e) (K [.i 0,.i 0,.i 0,.i 7] d) (A.c7 109 [.i a,.i b,.i c] d λa b c d=>K [.i b,.i c,.i d,.i 0] a))
def f76:R:=A.Ib ls λa b c d=>A.c4 110 [.i a,.i b,.i c] h λe f=>A.cd .neq f 0 (K [.i 0,.i 0,.i 0,.i 1] e) (A.cd .gtr d 2 (K [.i 0,.i 0,.i 0,.i 1] e) (A.km (G4 4 c) λ_=>A.km (G4 3 d) λ_=>A.km (rp gl0 4 [(c,17),(d,3)] 3) λc=>A.IA c λc d f=>A.pa c a λa=>A.pa d b λb=>A.c4 110 [.i a,.i b,.i f] e λc d=>A.cd .neq d 0 (K [.i 0,.i 0,.i 0,.i 3] c) (K [.i a,.i b,.i f,.i 0] c)))
def f77:R:=A.LN ls λa b c d e f=>A.c4 94 [.i a,.i b,.i c] h λg i=>A.cd .neq i 0 (K [.i 0,.i 0,.i 0,.i 1] g) (A.c4 110 [.i d,.i e,.i f] g λg i=>A.cd .neq i 0 (K [.i 0,.i 0,.i 0,.i 1] g) (A.c7 111 [.i a,.i b,.i c,.i d,.i e,.i f] g λa b c d=>A.c4 110 [.i b,.i c,.i d] a λa e=>A.cd .neq e 0 (K [.i 0,.i 0,.i 0,.i 3] a) (K [.i b,.i c,.i d,.i 0] a)))
def f78:R:=A.Ib ls λa b c d=>A.MK 75 [.i a,.i b,.i c] h λc e f g i=>A.cd .neq i 0 (K [.i 0,.i i] c) (A.MK 76 [.i e,.i f,.i g,.i d] c λc d e f g=>A.cd .neq g 0 (K [.i 0,.i 1] c) (A.c8 112 [.i a,.i b,.i d,.i e,.i f] c λa b c=>K [.i b,.i c] a))
def f79:R:=A.qs ls λa b=>A.qs b λb c=>A.D3 c λc d=>A.k8 d λd e=>A.call 113 [.i a,.i b,.v c,.i d,.i e] h λa b=>A.qs a λ_ a=>A.qs a λ_ a=>A.qs a λa d=>A.GM d λd e=>A.k4 e λe=>A.cd .neq e 0 (K [.i 0,.i e] b) (A.cond (!d) (K [.i 0,.i e] b) (A.fx 3 c a 2 1 b λa=>A.k5 a λa=>K [.i a,.i 0] b))
def f80:R:=A.D3 ls λa b=>A.qs b λb c=>A.qs c λc d=>A.Vj d λd e=>A.cd .eql b 3 (K [] h) (A.Lv 83 [.v a,.i c,.i d] h λc d f=>A.cmp .eql b 2 λb=>A.eqs [(.b b,.b e)] λb=>A.join (λb c=>A.Vj b λb d=>A.join (λa b=>A.C3 a (K [] b)) λe=>A.fp 14 a λf=>A.oo (.lg cc 1 f) c λf=>A.F5 f λf g=>A.wb g (A.cond f (A.fp 14 a λa=>A.heap (.st a [.bool J]) c λ_ a=>e [] a) (A.c2 88 [.v a,.i b,.b d,.v (EQ Q)] c λb c=>A.fp 14 a λa=>A.heap (.st a [.bool (!c)]) b λ_ a=>e [] a))) λa=>A.cond (!b) (a [.i d,.b (!f)] c) (a [.i d,.b f] c))
def f81:R:=A.k7 ls λa b c=>A.join (λa b=>A.k2 a λa=>K [.b a] b) λd=>A.c4 94 [.i a,.i b,.i c] h λb c=>A.cd .eql c 0 (A.cmp .geq a 4 λa=>d [.b a] b) (d [.b U] b)
def f82:R:=A.D3 ls λa b=>A.qs b λb c=>A.GM c λc d=>A.Vj d λd e=>A.Lv 114 [.v a,.i b,.b c] h λb c f=>A.Lv 114 [.v a,.i d,.b e] b λb d e=>A.cmp .eql c d λg=>A.join (λa b=>A.C3 a (K [] b)) λi=>A.cond g (A.join (λa b=>A.C3 a (i [] b)) λc=>A.fp 14 a λd=>A.oo (.lg cc 1 d) b λd=>A.F5 d λd g=>A.wb g (A.cond d (A.fp 14 a λa=>A.heap (.st a [.bool J]) b λ_ a=>c [] a) (A.eqs [(.b f,.b e)] λd=>A.fp 14 a λa=>A.heap (.st a [.bool (!d)]) b λ_ a=>c [] a))) (A.c4 115 [.v a,.i c,.b f] b λb g=>A.cd .neq g 0 (A.c4 115 [.v a,.i d,.b e] b λb g=>A.cmp .neq g 0 λg=>A.join (λa b=>A.C3 a (i [] b)) λi=>A.cond g (A.join (λb g=>A.C3 b (A.fp 11 a λa=>A.lv a g λa=>A.eqs [(.b f,.b e)] λb=>A.km (D8 2 a c) λa=>A.heap (.st a [EO DQ d,.bool (!b)]) g λ_ a=>i [] a)) λg=>A.fp 14 a λi=>A.oo (.lg cc 1 i) b λi=>A.F5 i λi j=>A.wb j (A.cond i (A.fp 14 a λa=>A.heap (.st a [.bool J]) b λ_ a=>g [] a) (A.c4 115 [.v a,.i c,.b f] b λb c=>A.c4 115 [.v a,.i d,.b e] b λb d=>A.cmp .neq c d λc=>A.fp 14 a λa=>A.heap (.st a [.bool c]) b λ_ a=>g [] a))) (A.c4 115 [.v a,.i c,.b f] b λb g=>A.cmp .neq g 0 λg=>A.join (λa b=>A.C3 a (i [] b)) λi=>A.cond g (A.fp 11 a λa=>A.lv a b λa=>A.eqs [(.b f,.b e)] λe=>A.km (D8 2 a d) λa=>A.heap (.st a [EO DQ c,.bool (!e)]) b λ_ a=>i [] a) (A.fp 11 a λa=>A.lv a b λa=>A.eqs [(.b f,.b e)] λe=>A.km (D8 2 a c) λa=>A.heap (.st a [EO DQ d,.bool (!e)]) b λ_ a=>i [] a))) (A.c4 115 [.v a,.i c,.b f] b λb g=>A.cmp .neq g 0 λg=>A.join (λa b=>A.C3 a (i [] b)) λi=>A.cond g (A.fp 11 a λa=>A.lv a b λa=>A.eqs [(.b f,.b e)] λe=>A.km (D8 2 a d) λa=>A.heap (.st a [EO DQ c,.bool (!e)]) b λ_ a=>i [] a) (A.fp 11 a λa=>A.lv a b λa=>A.eqs [(.b f,.b e)] λe=>A.km (D8 2 a c) λa=>A.heap (.st a [EO DQ d,.bool (!e)]) b λ_ a=>i [] a)))
def f83:R:=A.D3 ls λa b=>A.k8 b λb c=>A.cd .lss b c (A.fp 10 a λa=>A.lv a h λa=>A.oo (.fn (Hv cc 124 U (EO DQ 0) a (EU ⟨[EO DQ b,EO DQ c]⟩) U)) h λa=>A.k6 a λa=>K [.i a,.b U] h) (A.fp 10 a λa=>A.lv a h λa=>A.oo (.fn (Hv cc 124 U (EO DQ 0) a (EU ⟨[EO DQ c,EO DQ b]⟩) U)) h λa=>A.k6 a λa=>K [.i a,.b J] h)
def f84:R:=A.k0 ls λa=>A.ln a λb=>A.ln a λc=>A.km (GV 3 a Q (O b) (O c)) λa=>A.qa a (K [.v a] h)
def f85:R:=A.k0 ls λa=>A.km (mn 1 a (DW Q 0 0)) λb=>A.cond b (K [.v (DW Q 0 0)] h) (A.new (EJ [] 3 J) h λb c=>A.av 3 16 (DW (O ⟨b,0,O 13⟩) 0 1) a c λa b=>K [.v a] b)
def f86:R:=A.k0 ls λa=>A.ln a λb=>A.ln a λc=>A.km (GV 1 a Q (O b) (O c)) λa=>A.qa a (K [.v a] h)
def f87:R:=A.k0 ls λa=>A.km (mn 1 a (DW Q 0 0)) λb=>A.cond b (K [.v (DW Q 0 0)] h) (A.new (EJ [] 1 J) h λb c=>A.av 1 8 (DW (O ⟨b,0,O 11⟩) 0 1) a c λa b=>K [.v a] b)
def f88:R:=A.D3 ls λa b=>A.qs b λb c=>A.GM c λc d=>A.k0 d λd=>A.Lv 114 [.v a,.i b,.b c] h λb c e=>A.join (λb e=>A.k4 b λb=>A.fp 12 a λf=>A.lv f e λf=>A.ix 1 f c 1 e λf=>A.k6 f λf=>A.cmp .eql f 0 λf=>A.join (λd e=>A.C3 d (A.fp 12 a λa=>A.lv a e λa=>A.ix 1 a c 1 e λa=>A.k6 a λa=>A.cmp .eql a b λa=>K [.b a] e)) λg=>A.cond f (A.fp 12 a λa=>A.lv a e λa=>A.km (D8 1 a c) λa=>A.heap (.st a [EO DQ b]) e λ_ a=>A.km (mn 4 d (EQ Q)) λb=>A.join (λa b=>A.C3 a (g [] b)) λe=>A.cond (!b) (A.km (EZ d) λb=>A.qa b (A.lv b a λf=>A.new (EJ [EO DQ c] 1 J) a λa c=>A.av 1 8 f (DW (O ⟨a,0,O 11⟩) 1 2) c λc f=>A.km (EZ d) λd=>A.qa d (A.heap (.st d [c]) f λ_ c=>A.km (Sx.Fh [(DW (O ⟨a,0,O 11⟩) 1 2,(0,b))]) λ_=>e [] c))) (e [] a)) (g [] e)) λa=>A.cond e (a [.i (-1)] b) (a [.i 1] b)
def f89:R:=A.k0 ls λa=>A.fp 13 a λb=>A.lv b h λb=>A.ln b λc=>A.loop (λd e f=>A.k4 e λe=>A.cd .lss e c (A.ix 8 b e 8 f λb=>A.ua DQ b λb c=>A.F5 c λc g=>A.ua DQ g λg i=>A.F5 i λi j=>A.ua DQ j λj k=>A.F5 k λk l=>A.ua DQ l λl m=>A.F5 m λm n=>A.wb n (A.loop (λf n o=>A.k8 n λn p=>A.cd .lss p 4 (A.km (G4 4 p) λ_=>A.km (jz [.i b,.b c,.i g,.b i,.i j,.b k,.i l,.b m] 0 [(p,2)] 2) λb=>A.Vj b λb c=>A.c4 115 [.v a,.i b,.b c] o λa b=>A.pm n b λb=>A.pa p 1 λc=>f [.i b,.i c] a) (A.cd .lss n 0 (K [.b U] o) (A.pa e 1 λa=>d [.i a] o))) [.i 1,.i 0] f)) (K [.b J] f)) [.i 0] h
def f90:R:=A.k8 ls λa b=>A.cd .gtr a b (K [.i a] h) (K [.i b] h)
def f91:R:=A.k7 ls λa b c=>A.pm 6 a λa=>A.pm 6 b λb=>A.pa a 3 λd=>A.pa b 3 λe=>A.cd .eql c 0 (A.pa a 6 λc=>K [.i d,.i e,.i a,.i b,.i c,.i b] h) (A.cd .eql c 1 (A.pa a 6 λc=>A.pa a 6 λa=>A.pa b 6 λf=>K [.i d,.i e,.i c,.i b,.i a,.i f] h) (A.cd .eql c 2 (A.pa a 6 λc=>A.pa b 6 λf=>A.pa b 6 λb=>K [.i d,.i e,.i c,.i f,.i a,.i b] h) (A.pa b 6 λc=>K [.i d,.i e,.i a,.i c,.i a,.i b] h)))
def f92:R:=A.k4 ls λa=>A.cmp .neq a a λa=>K [.b a] h
def f93:R:=A.qs ls λa b=>A.qs b λb c=>A.k0 c λc=>A.c4 107 [.i a,.i b] h λd e=>A.cd .neq e 0 (K [.i e] d) (A.c2 116 [.v c,.v (.func (.func 117) ⟨[]⟩ ⟨[]⟩)] d λd e=>A.cond e (K [.i 1] d) (A.ln c λe=>A.loop (λd f g=>A.k4 f λf=>A.cd .lss f e (A.ix 3 c f 3 g λc=>A.M8 c λc e i=>A.c7 119 [.i a,.i b,.i c,.i e] g λa b g j=>A.cd .neq j 0 (K [.i 7] a) (A.c8 120 [.i c,.i e,.i i] a λa c e=>A.eqs [(.i b,.i c),(.i g,.i e)] λb=>A.cond (!b) (K [.i 7] a) (A.pa f 1 λb=>d [.i b] a))) (A.loop (λa b d=>A.k4 b λb=>A.ln c λe=>A.cd .lss b e (A.ps b 1 λe=>A.ix 3 c e 3 d λe=>A.M8 e λe f g=>A.c8 120 [.i e,.i f,.i g] d λd e f=>A.ix 3 c b 3 d λc=>A.M8 c λc g i=>A.c8 120 [.i c,.i g,.i i] d λc d g=>A.c4 121 [.i e,.i f,.i d,.i g] c λc d=>A.cd .geq d 0 (K [.i 6] c) (A.pa b 1 λb=>a [.i b] c)) (K [.i 0] d)) [.i 1] g)) [.i 0] d))
def f94:R:=A.k7 ls λa b c=>A.ci a λa=>A.cd .geq a 8 (K [.i 1] h) (A.c2 122 [.i b] h λa d=>A.cond d (K [.i 1] a) (A.c2 122 [.i c] a λa d=>A.cond d (K [.i 1] a) (A.pa b c λb=>A.C5 .rem DQ b 2 λb=>A.cd .neq b 0 (K [.i 1] a) (K [.i 0] a))))
def f95:R:=A.qs ls λa b=>A.qs b λb c=>A.k0 c λc=>A.new (EJ [EO DQ a,EO DQ b,c] 3 J) h λa b=>A.oo (.lg cc 3 (EQ (O ⟨a,0,Q⟩))) b λc=>A.ua DQ c λc d=>A.ua DQ d λd e=>A.C7 e λe f=>A.qa e (A.wb f (A.c0 123 [.i c,.i d,.v e] b λb c=>A.new (EJ [.map Q] 1 J) b λb d=>A.heap (.st (EQ (O ⟨b,0,Q⟩)) [c]) d λ_ c=>A.km (Fq 0 (EQ (O ⟨a,0,Q⟩))) λd=>A.qa d (A.oo (.lg cc 2 d) c λd=>A.KM d λd e=>A.c4 124 [.i d,.i e] c λc d=>A.km (FV d d) λ_=>A.new (EJ (aQ [EO DU 0,EO DQ 0,EO DQ 0] (Int.toNat d)) 3 J) c λc e=>A.new (EJ [DW Q 0 0] 1 J) e λe f=>A.heap (.st (EQ (O ⟨e,0,Q⟩)) [DW (O ⟨c,0,O 13⟩) (Int.toNat d) ((Int.toNat d)+1)]) f λ_ c=>A.lv (EQ (O ⟨e,0,Q⟩)) c λd=>A.ln d λd=>A.km (FV d d) λ_=>A.new (EJ (aQ [.bool U] (Int.toNat d)) 1 J) c λc f=>A.qa (.func (.func 125) ⟨[]⟩ ⟨[EQ (O ⟨a,0,Q⟩),EQ (O ⟨b,0,Q⟩),EQ (O ⟨e,0,Q⟩)]⟩) (A.km (D8 1 (DW (O ⟨c,0,O 11⟩) (Int.toNat d) ((Int.toNat d)+1)) 0) λg=>A.heap (.st g [.bool J]) f λ_ f=>A.new (EJ [EO DQ 0] 1 J) f λf g=>A.loop (λf g i=>A.k0 g λg=>A.ln g λj=>A.cd .gtr j 0 (A.km (D8 1 g 0) λj=>A.oo (.lg cc 1 j) i λj=>A.k6 j λj=>A.km (GV 1 g (O 1) Q Q) λg=>A.qa g (A.loop (λg i k=>A.k3 i λi l=>A.cd .lss l 3 (A.join (λa b=>A.k0 a λa=>A.C5 .add DU l 1 λc=>g [.v a,.i c] b) λf=>A.km (Fq 0 (EQ (O ⟨a,0,Q⟩))) λg=>A.qa g (A.oo (.lg cc 2 g) k λg=>A.KM g λg m=>A.c8 78 [.i g,.i m,.i j,.i l] k λg k m=>A.cd .neq m 0 (f [.v i] g) (A.D' (.func (.func 125) ⟨[]⟩ ⟨[EQ (O ⟨a,0,Q⟩),EQ (O ⟨b,0,Q⟩),EQ (O ⟨e,0,Q⟩)]⟩) [EO DQ j,EO DU l] [.agg [.i DU,.i DQ,.i DQ]] g λa b=>A.k7 a λa g j=>A.km (D8 1 (DW (O ⟨c,0,O 11⟩) (Int.toNat d) ((Int.toNat d)+1)) k) λl=>A.oo (.lg cc 1 l) b λl=>A.F5 l λl m=>A.wb m (A.join (λb c=>A.k0 b λb=>A.lv (EQ (O ⟨e,0,Q⟩)) c λd=>A.ix 3 d k 3 c λd=>A.k9 d λd e i=>A.eqs [(.i d,.i a),(.i e,.i g),(.i i,.i j)] λa=>A.cond (!a) (K [.v (DW Q 0 0),.i 11] c) (f [.v b] c)) λf=>A.cond (!l) (A.lv (EQ (O ⟨e,0,Q⟩)) b λe=>A.km (D8 3 e k) λe=>A.heap (.st e [EO DU a,EO DQ g,EO DQ j]) b λ_ a=>A.km (D8 1 (DW (O ⟨c,0,O 11⟩) (Int.toNat d) ((Int.toNat d)+1)) k) λb=>A.heap (.st b [.bool J]) a λ_ a=>A.new (EJ [EO DQ k] 1 J) a λa b=>A.av 1 8 i (DW (O ⟨a,0,O 11⟩) 1 2) b λa b=>f [.v a] b) (f [.v i] b))))) (f [.v i] k)) [.v g,.i 0] i)) (A.lv (EQ (O ⟨e,0,Q⟩)) i λa=>K [.v a,.i 0] i)) [.v (DW (O ⟨f,0,O 11⟩) 1 2)] g))))
def f96:R:=A.LN ls λa b c d e f=>A.c4 94 [.i a,.i b,.i c] h λg i=>A.cd .neq i 0 (K [.i 0,.i 0,.i 0,.i 1] g) (A.c4 94 [.i d,.i e,.i f] g λg i=>A.cd .neq i 0 (K [.i 0,.i 0,.i 0,.i 1] g) (A.km (G4 8 d) λ_=>A.km (rp gl1 0 [(d,4)] 4) λi=>A.ua DQ i λi j=>A.ua DQ j λj k=>A.KM k λk l=>A.c8 128 [.i i,.i j,.i k,.i l,.i b,.i c] g λb c g=>A.km (G4 8 a) λ_=>A.km (rp gl1 0 [(a,4)] 4) λa=>A.ua DQ a λa i=>A.ua DQ i λi j=>A.KM j λj k=>A.km (G4 8 d) λ_=>A.km (rp gl1 0 [(d,4)] 4) λd=>A.ua DQ d λd l=>A.ua DQ l λl m=>A.KM m λm n=>A.MK 131 [.i a,.i i,.i j,.i k,.i d,.i l,.i m,.i n] b λa b d i j=>A.c4 130 [.i b,.i d,.i i,.i j] a λa b=>A.pa c e λc=>A.pa g f λd=>A.MK 129 [.i b,.i c,.i d] a λa b c d e=>K [.i b,.i c,.i d,.i e] a))
def f97:R:=A.D3 ls λa b=>A.qs b λb c=>A.qs c λc d=>A.k0 d λd=>A.pa b 1 λe=>A.loop (λe f g=>A.k4 f λf=>A.cd .lss f c (A.join (λa b=>A.C3 a (A.pa f 1 λa=>e [.i a] b)) λc=>A.loop (λe f g=>A.k4 f λf=>A.cd .gtr f b (A.ix 3 a f 3 g λb=>A.IA b λb i j=>A.ps f 1 λk=>A.ix 3 a k 3 g λk=>A.IA k λk l m=>A.D' d [EU ⟨[EO DQ b,EO DQ i,EO DU j]⟩,EU ⟨[EO DQ k,EO DQ l,EO DU m]⟩] [.leaf (.i DQ)] g λb d=>A.k4 b λb=>A.cd .lss b 0 (A.ps f 1 λb=>A.ps f 1 λc=>A.ix 3 a c 3 d λc=>A.IA c λc g i=>A.ix 3 a f 3 d λj=>A.IA j λj k l=>A.km (D8 3 a f) λm=>A.heap (.st m [EO DQ c,EO DQ g,EO DU i]) d λ_ c=>A.km (D8 3 a b) λa=>A.heap (.st a [EO DQ j,EO DQ k,EO DU l]) c λ_ a=>A.ps f 1 λb=>e [.i b] a) (c [] d)) (c [] g)) [.i f] g) (K [] g)) [.i e] h
def f106:R:=A.k4 ls λa=>A.cmp .geq a 4294967296 λb=>A.join (λa b=>A.k8 a λa c=>A.cmp .geq a 65536 λd=>A.join (λa b=>A.k8 a λa c=>A.cmp .geq a 256 λd=>A.join (λa b=>A.k8 a λa c=>A.conv DU a λa=>A.km (Mg (.mk ⟨[(0,1),(1,1),(2,2),(3,4),(4,8),(5,16),(6,32),(7,64),(8,128)].flatMap λx=>List.replicate x.2 (.ofNat x.1)⟩) a) λa=>A.ci a λa=>A.pa c a λa=>K [.i a] b) λe=>A.cond d (A.IX .shr .u64 a .u64 8 λa=>A.pa c 8 λc=>e [.i a,.i c] b) (e [.i a,.i c] b)) λe=>A.cond d (A.IX .shr .u64 a .u64 16 λa=>A.pa c 16 λc=>e [.i a,.i c] b) (e [.i a,.i c] b)) λc=>A.cond b (A.IX .shr .u64 a .u64 32 λa=>c [.i a,.i 32] h) (c [.i a,.i 0] h)
def f107:R:=A.k8 ls λa b=>A.cd .lss a 1 (K [.i 1] h) (A.cd .lss b 1 (K [.i 1] h) (A.cd .gtr a 256 (K [.i 1] h) (A.cd .gtr b 256 (K [.i 1] h) (A.pm a b λa=>A.cd .gtr a 256 (K [.i 1] h) (K [.i 0] h)))))
def f108:R:=A.k7 ls λa b c=>A.join (λa b=>A.k2 a λa=>K [.b a] b) λd=>A.cd .geq c 0 (A.pm 4 a λa=>A.pm a b λa=>A.cmp .lss c a λa=>d [.b a] h) (d [.b U] h)
def f109:R:=A.k7 ls λa _ b=>A.pq b 4 λc=>A.C5 .rem DQ c a λc=>A.pq b 4 λd=>A.pq d a λa=>A.C5 .rem DQ b 4 λb=>A.conv DU b λb=>K [.i c,.i a,.i b] h
def f110:R:=A.k7 ls λa b c=>A.cd .lss a (-4096) (K [.i 1] h) (A.cd .gtr a 4096 (K [.i 1] h) (A.cd .lss b (-4096) (K [.i 1] h) (A.cd .gtr b 4096 (K [.i 1] h) (A.cd .gtr c 3 (K [.i 1] h) (K [.i 0] h)))))
def f111:R:=A.LN ls λa b c d e f=>A.c8 137 [.i d,.i e,.i f] h λd e g=>A.km (G4 4 f) λ_=>A.km (rp gl0 0 [(f,17)] 2) λf=>A.KM f λf i=>A.c7 138 [.i a,.i b,.i c,.i e,.i g] d λb c d _=>A.c7 138 [.i a,.i 0,.i 0,.i f,.i i] b λa b e _=>A.C5 .and DQ c 1 λf=>A.ps c f λc=>A.pq c 2 λc=>A.C5 .and DQ d 1 λf=>A.ps d f λd=>A.pq d 2 λd=>A.loop (λa c d=>A.Ib c λc f g i=>A.cd .lss c 4 (A.km (G4 4 c) λ_=>A.km (jz [.i 0,.i (-1),.i 2,.i 0,.i 0,.i (-1),.i 2,.i 0,.i 0,.i 1,.i 0,.i 0,.i 3,.i 0,.i 0,.i 2,.i 0,.i 1,.i 0,.i 1,.i 1,.i 1,.i 0,.i 3,.i 0,.i 0,.i 0,.i 0,.i 0,.i 2,.i 2,.i 2,.i 2,.i 0,.i 0,.i 1,.i 2,.i 1,.i 0,.i 1,.i 0,.i 0,.i 0,.i 3,.i 0,.i 0,.i 1,.i 2,.i 2,.i 0,.i 2,.i (-1),.i 0,.i 1,.i 0,.i (-1),.i 0,.i 1,.i 0,.i 0,.i 2,.i 0,.i 0,.i 0,.i 0,.i 0,.i 0,.i 2] 0 [(c,17)] 17) λj=>A.qs j λj k=>A.qs k λk l=>A.qs l λ_ l=>A.qs l λ_ l=>A.qs l λ_ l=>A.qs l λ_ l=>A.qs l λ_ l=>A.qs l λ_ l=>A.qs l λ_ l=>A.qs l λ_ l=>A.qs l λ_ l=>A.LN l λ_ _ _ _ _ _=>A.eqs [(.i j,.i b),(.i k,.i e)] λb=>A.join (λb d=>A.k7 b λb e f=>A.pa c 1 λc=>a [.i c,.i b,.i e,.i f] d) λa=>A.cond b (A.conv DU c λb=>a [.i f,.i g,.i b] d) (a [.i f,.i g,.i i] d)) (K [.i f,.i g,.i i] d)) [.i 0,.i c,.i d,.i 0] a
def f112:R:=A.qs ls λa b=>A.Ib b λb c d e=>A.c4 107 [.i a,.i b] h λf g=>A.cd .neq g 0 (K [.i 0,.i g] f) (A.c4 110 [.i c,.i d,.i e] f λf g=>A.cd .neq g 0 (K [.i 0,.i 7] f) (A.cd .lss c 0 (K [.i 0,.i 7] f) (A.cd .geq c a (K [.i 0,.i 7] f) (A.cd .lss d 0 (K [.i 0,.i 7] f) (A.cd .geq d b (K [.i 0,.i 7] f) (A.pm d a λa=>A.pa a c λa=>A.pm 4 a λa=>A.ci e λb=>A.pa a b λa=>K [.i a,.i 0] f))))))
def f113:R:=A.qs ls λa b=>A.qs b λb c=>A.D3 c λc d=>A.k8 d λd e=>A.c4 93 [.i a,.i b,.v c] h λf g=>A.cd .neq g 0 (K [.i 0,.i 0,.i 0,.b U,.i g] f) (A.c7 119 [.i a,.i b,.i d,.i e] f λa b d e=>A.cd .neq e 0 (K [.i 0,.i 0,.i 0,.b U,.i e] a) (A.Lv 139 [.v c,.i b,.i d] a λa c e=>K [.i b,.i d,.i c,.b e,.i 0] a))
def f114:R:=A.D3 ls λa b=>A.Vj b λb c=>A.loop (λb c d=>A.Vj c λc e=>A.fp 11 a λf=>A.lv f d λf=>A.fx 2 f c 0 1 d λf=>A.k6 f λf=>A.cd .neq f c (A.fp 11 a λa=>A.lv a d λa=>A.ix 2 a c 2 d λa=>A.ua DQ a λa c=>A.F5 c λc f=>A.wb f (A.eqs [(.b e,.b c)] λc=>b [.i a,.b (!c)] d)) (K [.i c,.b e] d)) [.i b,.b c] h
def f115:R:=A.D3 ls λa b=>A.Vj b λb c=>A.Lv 114 [.v a,.i b,.b c] h λb c d=>A.cond d (A.fp 12 a λa=>A.lv a b λa=>A.ix 1 a c 1 b λa=>A.k6 a λa=>A.ps 0 a λa=>K [.i a] b) (A.fp 12 a λa=>A.lv a b λa=>A.ix 1 a c 1 b λa=>A.k6 a λa=>K [.i a] b)
def f116:R:=A.D3 ls λa b=>A.k0 b λb=>A.c4 140 [.v a,.v b] h λa b=>A.cmp .geq b 0 λb=>K [.b b] a
def f117:R:=A.k7 ls λ_ _ a=>A.c2 118 [.i a] h λa b=>K [.b (!b)] a
def f118:R:=A.k4 ls λa=>A.join (λa b=>A.k2 a λa=>K [.b a] b) λb=>A.cd .geq a 1 (A.cmp .leq a 3 λa=>b [.b a] h) (b [.b U] h)
def f119:R:=A.Ib ls λa b c d=>A.c8 78 [.i a,.i b,.i c,.i d] h λa b e=>A.cd .neq e 0 (K [.i 0,.i 0,.i e] a) (A.cmp .lss b c λe=>A.I4 e b c λb=>K [.i b,.i d,.i 0] a)
def f120:R:=A.k7 ls λa b _=>K [.i a,.i b] h
def f121:R:=A.Ib ls λa b c d=>A.cd .neq a c (A.ps a c λa=>K [.i a] h) (A.ci b λa=>A.ci d λb=>A.ps a b λa=>K [.i a] h)
def f122:R:=A.k4 ls λa=>A.join (λa b=>A.k2 a λa=>K [.b a] b) λb=>A.cd .lss a (-16384) (b [.b J] h) (A.cmp .gtr a 16384 λa=>b [.b a] h)
def f123:R:=A.qs ls λ_ a=>A.qs a λ_ a=>A.k0 a λa=>A.ln a λ_=>A.new (.map [] 0) h λb c=>A.ln a λd=>A.loop (λc e f=>A.k4 e λe=>A.cd .lss e d (A.ix 3 a e 3 f λa=>A.M8 a λa d _=>A.heap (.fn (Ic cc 207 (.map (O b)) (EU ⟨[EO DQ a,EO DU d]⟩) (.bool J))) f λ_ a=>A.pa e 1 λb=>c [.i b] a) (K [.v (.map (O b))] f)) [.i 0] c
def f124:R:=A.k8 ls λa b=>A.c4 107 [.i a,.i b] h λc d=>A.cd .neq d 0 (K [.i 0] c) (A.pm 4 a λa=>A.pm a b λa=>K [.i a] c)
def f125:R:=A.qs ls λa b=>A.qs b λb c=>A.D3 c λc d=>A.D3 d λd e=>A.k0 e λe=>A.km (Fq 0 c) λf=>A.qa f (A.oo (.lg cc 2 f) h λf=>A.KM f λf g=>A.c7 119 [.i f,.i g,.i a,.i b] h λb f g _=>A.lv d b λd=>A.oo (.fn (Hv cc 207 U (.bool U) d (EU ⟨[EO DQ f,EO DU g]⟩) U)) b λd=>A.F5 d λd i=>A.wb i (A.cond (!d) (A.lv e b λc=>A.ix 3 c a 3 b λa=>A.k9 a λa c d=>K [.i a,.i c,.i d] b) (A.km (Fq 0 c) λc=>A.qa c (A.oo (.lg cc 2 c) b λc=>A.KM c λc d=>A.c7 126 [.i c,.i d,.i f,.i g] b λb c d _=>A.MK 127 [.i c,.i d] b λb c d f _=>A.lv e b λe=>A.ix 3 e a 3 b λa=>A.k9 a λa e g=>A.MK 96 [.i c,.i d,.i f,.i a,.i e,.i g] b λa b c d _=>K [.i b,.i c,.i d] a))))
def f126:R:=A.Ib ls λa b c d=>A.MK 141 [.i a,.i b,.i c,.i d] h λa b c e f=>A.cd .neq f 0 (K [.i 0,.i 0,.i f] a) (A.c7 142 [.i b,.i c,.i e,.i d] a λa b c d=>K [.i b,.i c,.i d] a)
def f127:R:=A.k8 ls λa b=>A.c4 143 [.i a,.i b] h λc d=>A.cd .neq d 0 (K [.i 0,.i 0,.i 0,.i 1] c) (A.cd .eql a 1 (A.pm 2 b λa=>K [.i 4,.i a,.i 0,.i 0] c) (A.cd .eql a 2 (A.pm 2 b λa=>K [.i 6,.i 0,.i a,.i 0] c) (A.cd .eql a 3 (K [.i 5,.i b,.i b,.i 0] c) (A.ps 0 b λa=>K [.i 7,.i a,.i b,.i 0] c))))
def f128:R:=A.LN ls λa b c d e f=>A.pm a e λa=>A.pm b f λb=>A.pa a b λa=>A.pm c e λb=>A.pm d f λc=>A.pa b c λb=>K [.i a,.i b] h
def f129:R:=A.k7 ls λa b c=>A.c4 94 [.i a,.i b,.i c] h λd e=>A.cd .neq e 0 (K [.i 0,.i 0,.i 0,.i 3] d) (K [.i a,.i b,.i c,.i 0] d)
def f130:R:=A.Ib ls λa b c d=>A.loop (λe f g=>A.k4 f λf=>A.cd .lss f 8 (A.km (G4 8 f) λ_=>A.km (jz [.i 1,.i 0,.i 0,.i 1,.i 0,.i (-1),.i 1,.i 0,.i (-1),.i 0,.i 0,.i (-1),.i 0,.i 1,.i (-1),.i 0,.i (-1),.i 0,.i 0,.i 1,.i 0,.i (-1),.i (-1),.i 0,.i 1,.i 0,.i 0,.i (-1),.i 0,.i 1,.i 1,.i 0] 0 [(f,4)] 4) λi=>A.Ib i λi j k l=>A.eqs [(.i i,.i a),(.i j,.i b),(.i k,.i c),(.i l,.i d)] λa=>A.cond a (A.conv DU f λa=>K [.i a] g) (A.pa f 1 λa=>e [.i a] g)) (K [.i 0] g)) [.i 0] h
def f131:R:=A.qs ls λa b=>A.qs b λb c=>A.LN c λc d e f g i=>A.c8 128 [.i e,.i f,.i g,.i i,.i a,.i c] h λa c j=>A.c8 128 [.i e,.i f,.i g,.i i,.i b,.i d] a λa b d=>K [.i c,.i b,.i j,.i d] a
def f137:R:=A.k7 ls λa b _=>A.pm 2 a λa=>A.pa a 1 λa=>A.pm 2 b λb=>A.pa b 1 λb=>K [.i a,.i b] h
def f138:R:=A.qs ls λa b=>A.Ib b λb c d e=>A.c4 94 [.i a,.i b,.i c] h λf g=>A.cd .neq g 0 (K [.i 0,.i 0,.i 1] f) (A.c4 145 [.i d,.i e] f λf g=>A.cd .neq g 0 (K [.i 0,.i 0,.i 1] f) (A.km (G4 8 a) λ_=>A.km (rp gl1 0 [(a,4)] 4) λa=>A.ua DQ a λa g=>A.ua DQ g λg i=>A.KM i λi j=>A.c8 128 [.i a,.i g,.i i,.i j,.i d,.i e] f λa d e=>A.pm 2 b λb=>A.pa d b λb=>A.pm 2 c λc=>A.pa e c λc=>A.c4 145 [.i b,.i c] a λa d=>A.cd .neq d 0 (K [.i 0,.i 0,.i 3] a) (K [.i b,.i c,.i 0] a)))
def f139:R:=A.D3 ls λa b=>A.k8 b λb c=>A.Lv 146 [.v a,.i b,.i c,.v (.func (.func 147) ⟨[]⟩ ⟨[]⟩)] h λa b c=>K [.i b,.b c] a
def f140:R:=A.D3 ls λa b=>A.k0 b λb=>A.ln a λc=>A.loop (λd e f=>A.k4 e λe=>A.cd .lss e c (A.ix 3 a e 3 f λa=>A.M8 a λa c g=>A.D' b [EU ⟨[EO DQ a,EO DU c,EO DU g]⟩] [.leaf .b] f λa b=>A.k2 a λa=>A.cond a (K [.i e] b) (A.pa e 1 λa=>d [.i a] b)) (K [.i (-1)] f)) [.i 0] h
def f141:R:=A.Ib ls λa b c d=>A.c4 107 [.i a,.i b] h λe f=>A.cd .neq f 0 (K [.i 0,.i 0,.i 0,.i f] e) (A.c7 119 [.i a,.i b,.i c,.i d] e λe f g i=>A.cd .neq i 0 (K [.i 0,.i 0,.i 0,.i 7] e) (A.eqs [(.i f,.i c),(.i g,.i d)] λd=>A.cond (!d) (K [.i 0,.i 0,.i 0,.i 7] e) (A.c7 109 [.i a,.i b,.i c] e λa b c d=>K [.i b,.i c,.i d,.i 0] a)))
def f142:R:=A.Ib ls λa b c d=>A.c4 110 [.i a,.i b,.i c] h λe f=>A.cd .neq f 0 (K [.i 0,.i 0,.i 1] e) (A.cd .gtr d 2 (K [.i 0,.i 0,.i 1] e) (A.km (G4 4 c) λ_=>A.km (rp gl0 0 [(c,17)] 17) λc=>A.ua DQ c λ_ c=>A.ua DQ c λ_ c=>A.ua DU c λc f=>A.ua DQ f λf g=>A.ua DQ g λ_ g=>A.ua DQ g λ_ g=>A.ua DU g λ_ g=>A.ua DQ g λ_ g=>A.ua DQ g λ_ g=>A.ua DU g λ_ g=>A.ua DQ g λ_ g=>A.ua DQ g λ_ g=>A.ua DU g λ_ g=>A.ua DQ g λ_ g=>A.ua DQ g λ_ g=>A.KM g λ_ _=>A.pa a f λg=>A.cmp .eql d 1 λi=>A.join (λa b=>A.k8 a λa c=>A.c4 143 [.i a,.i c] b λb d=>A.cd .neq d 0 (K [.i 0,.i 0,.i 3] b) (K [.i a,.i c,.i 0] b)) λj=>A.cond i (A.pa a b λa=>A.pa a 1 λa=>j [.i 3,.i a] e) (A.cmp .eql d 2 λd=>A.join (λa b=>A.k8 a λa c=>j [.i a,.i c] b) λi=>A.cond d (A.ps b a λa=>i [.i 4,.i a] e) (A.cmp .eql c 2 λa=>A.join (λa b=>A.k8 a λa c=>i [.i a,.i c] b) λd=>A.cond a (A.pa b f λa=>d [.i c,.i a] e) (d [.i c,.i g] e)))))
def f143:R:=A.k8 ls λa b=>A.cd .lss a 1 (K [.i 1] h) (A.cd .gtr a 4 (K [.i 1] h) (A.cd .lss b (-4096) (K [.i 1] h) (A.cd .gtr b 4096 (K [.i 1] h) (K [.i 0] h))))
def f145:R:=A.k8 ls λa b=>A.cd .lss a (-65536) (K [.i 1] h) (A.cd .gtr a 65536 (K [.i 1] h) (A.cd .lss b (-65536) (K [.i 1] h) (A.cd .gtr b 65536 (K [.i 1] h) (K [.i 0] h))))
def f146:R:=A.D3 ls λa b=>A.qs b λb c=>A.qs c λc d=>A.k0 d λd=>A.ln a λe=>A.loop (λf g i=>A.k8 g λg j=>A.cd .lss g j (A.pa g j λe=>A.conv .u64 e λe=>A.IX .shr .u64 e .u64 1 λe=>A.ci e λe=>A.ix 3 a e 3 i λa=>A.M8 a λa k l=>A.D' d [EU ⟨[EO DQ a,EO DU k,EO DU l]⟩,EU ⟨[EO DQ b,EO DU c]⟩] [.leaf (.i DQ)] i λa b=>A.k4 a λa=>A.cmp .lss a 0 λa=>A.join (λa b=>A.k8 a λa c=>f [.i a,.i c] b) λc=>A.cond a (A.pa e 1 λa=>c [.i a,.i j] b) (c [.i g,.i e] b)) (A.join (λa b=>A.Vj a λa c=>K [.i a,.b c] b) λf=>A.cd .lss g e (A.ix 3 a g 3 i λa=>A.M8 a λa e j=>A.D' d [EU ⟨[EO DQ a,EO DU e,EO DU j]⟩,EU ⟨[EO DQ b,EO DU c]⟩] [.leaf (.i DQ)] i λa b=>A.k4 a λa=>A.cmp .eql a 0 λa=>f [.i g,.b a] b) (f [.i g,.b U] i))) [.i 0,.i e] h
def f147:R:=A.qs ls λa b=>A.Ib b λb c d e=>A.c8 120 [.i a,.i b,.i c] h λa b c=>A.c4 121 [.i b,.i c,.i d,.i e] a λa b=>K [.i b] a
end
inductive Fw where
 |e
 |o (p:Fw)
 |i (p:Fw)
inductive Tr(j7:Type) where
 |leaf
 |node (v:j7) (l r:Tr j7)
def Fw.num:Fw->Nat
 | .e=>1
 | .o p=>2*p.num
 | .i p=>2*p.num+1
def r7:Nat->Nat->Fw
 |0,_=>.e
 |f+1,n=>if Nat.ble n 1 then .e else if Nat.beq (n%2) 0 then .o (r7 f (n / 2))else .i (r7 f (n / 2))
def cG(n:Nat):Fw:=r7 (n+1) (n+1)
def Fw.get{j7:Type}(d:j7)(p:Fw):Tr j7->j7:=
 Fw.rec (motive:=λ_=>Tr j7->j7)
  (λt=>Tr.casesOn t d λv _ _=>v)
  (λ_ a t=>Tr.casesOn t d λ_ l _=>a l)
  (λ_ a t=>Tr.casesOn t d λ_ _ r=>a r) p
def eqI:Int->Int->Bool
 | .ofNat a,.ofNat b=>Nat.beq a b
 | .negSucc a,.negSucc b=>Nat.beq a b
 |_,_=>U
def M9:TN->Nat
 | .i8=>127
 | .i16=>32767
 | .i32=>2147483647
 | DQ=>9223372036854775807
 | DU=>255
 | .u16=>65535
 | .u32=>4294967295
 | .u64=>18446744073709551615
def Hx(k:TN):Int->Bool
 | .ofNat n=>Nat.ble n (M9 k)
 | .negSucc n=>k.signed&&Nat.ble n (M9 k)
def BM:∀(f n:Nat),n<=f->1<=n->(r7 f n).num=n
 |0,n,h,h1=>a_
 |f+1,n,h,h1=>by
  unfold r7;by_cases d:n<=1
  .have:n=1:=a_;subst this;rfl
  .have c:Nat.ble n 1=U:=by rw[←Ii,Lj];exact d
   rw[c];have b:=BM f (n / 2) a_ a_;by_cases a:n%2=0
   .simp[a,Fw.num,b];omega
   .simp[a,Fw.num,b];omega
def ti(n:Nat):(cG n).num=n+1:=BM _ _ (B7 _) a_
def nN{a b:Nat}(h:cG a=cG b):a=b:=by have:=congrArg Fw.num h;rw[ti,ti]at this;omega
def Fw.set{j7:Type}(d:j7):Fw->Tr j7->j7->Tr j7
 | .e,.leaf,x=>.node x .leaf .leaf
 | .e,.node _ l r,x=>.node x l r
 | .o p,.leaf,x=>.node d (Fw.set d p .leaf x) .leaf
 | .o p,.node v l r,x=>.node v (Fw.set d p l x) r
 | .i p,.leaf,x=>.node d .leaf (Fw.set d p .leaf x)
 | .i p,.node v l r,x=>.node v l (Fw.set d p r x)
def Fw.GB{j7:Type}(d:j7)(p:Fw):p.get d .leaf=d:=by cases p<;>rfl
def Fw.Ep{j7:Type}(d:j7):∀(p:Fw) (t:Tr j7) (x:j7),p.get d (p.set d t x)=x
 | .e,t,x=>by cases t<;>rfl
 | .o p,t,x=>by
  cases t with
  |leaf=>exact Fw.Ep d p .leaf x
  |node v l r=>exact Fw.Ep d p l x
 | .i p,t,x=>by
  cases t with
  |leaf=>exact Fw.Ep d p .leaf x
  |node v l r=>exact Fw.Ep d p r x
def Fw.EY{j7:Type}(d:j7):∀(p q:Fw) (t:Tr j7) (x:j7),q≠p->q.get d (p.set d t x)=q.get d t
 | .e,q,t,x,h=>by cases q<;>cases t<;>first|rfl|exact absurd rfl h|exact Fw.GB d _
 | .o p,q,t,x,h=>by
  cases q with
  |e=>cases t<;>rfl
  |o q=>
   have a:q≠p:=λe=>h (e▸rfl);cases t with
   |leaf=>exact(Fw.EY d p q .leaf x a).trans (Fw.GB d q)
   |node v l r=>exact Fw.EY d p q l x a
  |i q=>
   cases t with
   |leaf=>exact Fw.GB d q
   |node v l r=>rfl
 | .i p,q,t,x,h=>by
  cases q with
  |e=>cases t<;>rfl
  |i q=>
   have a:q≠p:=λe=>h (e▸rfl);cases t with
   |leaf=>exact(Fw.EY d p q .leaf x a).trans (Fw.GB d q)
   |node v l r=>exact Fw.EY d p q r x a
  |o q=>
   cases t with
   |leaf=>exact Fw.GB d q
   |node v l r=>rfl
def Pf{a b:Int}:eqI a b=J↔a=b:=by cases a<;>cases b<;>simp[eqI]<;>omega
def YV{k:TN}{c:Int}(h:Hx k c=J):(k.signed=J->-(M9 k:Int)-1<=c)/\(k.signed=U->0<=c)/\c<=M9 k:=by
 cases c with
 |ofNat n=>simp only[Hx,Lj]at h;refine⟨λ_=>?_,λ_=>?_,?_⟩<;>simp<;>omega
 |negSucc n=>
  simp only[Hx,y_,Lj]at h;refine⟨λ_=>?_,λa=>?_,?_⟩
  .omega
  .rw[h.1]at a;cases a
  .omega
def wA{k:TN}{c:Int}(h:Hx k c=J):k.wrap c=c:=by
 let⟨a,b,d⟩:=YV h;cases k<;>simp only[IntKind.signed,M9,forall_const,reduceCtorEq,false_implies]at a b d
 .exact Go.IntWalk.i8_in c a_
 .exact Go.IntWalk.i16_in c a_
 .exact Go.IntWalk.i32_in c a_
 .exact Go.IntWalk.i64_in c a_
 .exact Go.IntWalk.u8_in c a_
 .exact Go.IntWalk.u16_in c a_
 .exact Go.IntWalk.u32_in c a_
 .exact Go.IntWalk.u64_in c a_
section
abbrev _root_.TE:=List Int
variable [El] {m7:TE}
def sq(a:GO)(x y:Int):Option Bool:=
 match a with
 | .eql=>O (x==y)
 | .neq=>O (x != y)
 | .lss=>O (decide (x<y))
 | .leq=>O (decide (x<=y))
 | .gtr=>O (decide (x > y))
 | .geq=>O (decide (x ≥ y))
 |_=>Q
def tI(a:GO)(k:TN)(x y n:Int):Prop:=∀(P:TI) (t:TS) (w:TX),(binOp a t (.int k x) (.int k y)).run P w = .ok (.int k n) w
def X9{k:TN}(x:Int):((BitVec.ofInt k.bits x &&& BitVec.ofInt k.bits 1).toNat:Int)=x%2:=by
 have a:k.bits=k.bits-1+1:=by cases k<;>rfl
 generalize k.bits-1=n at a;rw[a];have b:(BitVec.ofInt (n+1) 1).toNat=1:=by simp
 rw[BitVec.toNat_and,b,Nat.and_one_is_mod,BitVec.toNat_ofInt];have d:(0:Int)<2 ^ (n+1):=Int.pow_pos a_;have e:(2:Int) ^ (n+1)=2*2 ^ n:=a_;have c:0<=x%(2 ^ (n+1):Int):=Int.emod_nonneg _ a_;have:((x%((2 ^ (n+1):Nat):Int)).toNat%2:Nat)=((x%(2 ^ (n+1):Int))%2:Int):=by grind
 simp_all
def rz{k:TN}{x n:Int}(d:x%2=n):tI .and k x 1 n:=by
 intro P t w;have e:k.wrap n=n:=wA (by have a:0<=n:=a_;have b:n<=1:=a_;obtain⟨m,rfl⟩ : ∃m:Nat,n=m:=⟨n.toNat,a_⟩;show Nat.ble m (M9 k)=J;rw[Lj];cases k<;>simp only[M9]<;>omega)
 have c:=X9 (k:=k) x;simp only[binOp,ne_eq,not_true_eq_false,if_false,Op.intBits]
 simp_all
end
section
variable [El] {m7:TE}
def rJ(k:TN)(x:Int):k.wrap (x%(2 ^ k.bits:Int))=k.wrap x:=by
 unfold IntKind.wrap
 simp_all
def zy{k:TN}(m n:Nat):tI .and k m n (k.wrap (Nat.land m n:Nat)):=by
 intro P t w;simp only[binOp,ne_eq,not_true_eq_false,if_false,Op.intBits];show Result.ok (Value.int k (k.wrap _)) w=_;rw[←rJ k (Nat.land m n:Nat)]
 congr 3
 have b:∀x:Nat,(BitVec.ofInt k.bits (x:Int)).toNat=x%2 ^ k.bits:=λx=>by simp_all
 have a:(BitVec.ofInt k.bits (m:Int) &&& BitVec.ofInt k.bits (n:Int)).toNat=(m &&& n)%2 ^ k.bits:=by grind
 rw[a];simp
def zC{k:TN}(m n:Nat):tI .xor k m n (k.wrap (Nat.xor m n:Nat)):=by
 intro P t w;simp only[binOp,ne_eq,not_true_eq_false,if_false,Op.intBits];show Result.ok (Value.int k (k.wrap _)) w=_;rw[←rJ k (Nat.xor m n:Nat)]
 congr 3
 have b:∀x:Nat,(BitVec.ofInt k.bits (x:Int)).toNat=x%2 ^ k.bits:=λx=>by simp_all
 have a:(BitVec.ofInt k.bits (m:Int) ^^^ BitVec.ofInt k.bits (n:Int)).toNat=(m ^^^ n)%2 ^ k.bits:=by grind
 rw[a];simp
def Dl{k:TN}(m n:Nat):tI .or k m n (k.wrap (Nat.lor m n:Nat)):=by
 intro P t w;simp only[binOp,ne_eq,not_true_eq_false,if_false,Op.intBits];show Result.ok (Value.int k (k.wrap _)) w=_;rw[←rJ k (Nat.lor m n:Nat)]
 congr 3
 have b:∀x:Nat,(BitVec.ofInt k.bits (x:Int)).toNat=x%2 ^ k.bits:=λx=>by simp_all
 have a:(BitVec.ofInt k.bits (m:Int) ||| BitVec.ofInt k.bits (n:Int)).toNat=(m ||| n)%2 ^ k.bits:=by grind
 rw[a];simp
end
section
variable {R:Type}
def fk{j7:Type}(x:j7):∀(l:List j7) (i:Nat) (k:List j7->R),Ht x l i k=k (l.set i x)
 | [],_,_=>rfl
 |_::_,0,_=>rfl
 |a::l,i+1,k=>fk x l i λl=>k (a::l)
def yH(n:Nat)(K:Nat->R):uz n K=K n:=by cases n<;>rfl
end
def SL.g_:SL->Prop
 | .v x=>aH x=J
 |_=>True
def S0.g_(x:S0):Prop:=∀l∈x.cells,l.g_
def SV.gd:SV->Prop
 | .st x=>x.g_
 | .NE xs=>(∀x∈xs,x.g_)/\2<=W xs
 | .no=>False
 |_=>True
def fc{x:TV}:aH x=J↔q8 x=J/\aW x=J/\aR x=J/\aL x=U:=by
 unfold aH
 grind
def CI{x:TV}(h:aH x=J):bj x=J:=by let⟨a,_,b,_⟩:=fc.1 h;simp[bj,a,b]
def yI{x:TV}(h:aH x=J):x.cells = #[x]:=fh (fc.1 h).2.2.1
def SL.F6{l:SL}(h:l.g_):aH l.val=J:=by
 cases l with
 |v x=>exact h
 |_=>rfl
def S0.Fa{x:S0}(h:x.g_):x.val.cells=⟨x.cells.map SL.val⟩:=by
 cases x with
 |leaf l=>exact yI (SL.F6 (h l (by simp[S0.cells])))
 |agg a=>rfl
def S0.q8{x:S0}(h:x.g_):q8 x.val=J:=by
 cases x with
 |leaf l=>exact(fc.1 (SL.F6 (h l (by simp[S0.cells])))).1
 |agg b=>simp only[S0.val,Am.q8,D7,Ed];rintro _ ⟨l,a,rfl⟩;exact(fc.1 (SL.F6 (h l a))).2.1
def S0.F3{x:S0}(h:x.g_):aL x.val=U:=by
 cases x with
 |leaf l=>exact(fc.1 (SL.F6 (h l (by simp[S0.cells])))).2.2.2
 |agg a=>rfl
def S0.Ir{x:S0}(h:x.g_):x.val.cells.toList.all bj=J:=by rw[S0.Fa h];simp only[D7,Ed];rintro _ ⟨l,a,rfl⟩;exact CI (SL.F6 (h l a))
def zD{v:TV}(h:scalar v=J):aH v=J:=by
 cases v<;>first|rfl|(simp[scalar]at h;done)|skip
 case pointer a=>cases a<;>first|rfl|simp[scalar]at h
 case slice a l c=>
  cases a with
  |none=>rfl
  |some a=>cases l<;>cases c<;>simp[scalar]at h
def vE(v:TV):(Me v).val=v:=by cases v<;>rfl
def rC{v:TV}(h:scalar v=J):(Me v).g_:=by cases v<;>first|trivial|exact zD h
def vx{v:TV}{x:S0}(h:K9 v=O x):x.val=v/\x.g_/\gI v=J:=by
 unfold K9 at h;split at h
 next f=>
  split at h
  next b=>
   cases h;refine⟨?_,?_,b⟩
   .simp only[S0.val,y5,Value.agg.injEq];have:(SL.val ∘ Me)=id:=funext vE;rw[this,qdM]
   .intro l a;simp only[S0.cells,Ed]at a;obtain⟨v,e,rfl⟩:=a;exact rC (D7.1 b v e)
  .cases h
 next d=>
  split at h
  next c=>
   cases h;refine⟨vE v,?_,?_⟩
   .intro l a;simp only[S0.cells,HN]at a;subst a;exact rC c
   .cases v<;>first|exact c|simp_all
  .cases h
def dS{a b:TN}(h:dc a b=J):a=b:=by cases a<;>cases b<;>first|rfl|cases h
def fJ(a:TN):dc a a=J:=by cases a<;>rfl
section
variable [El] [E_]
def Told(sks:TP)(ls:TG)(xs:List S0):Prop:=cJ xs sks=J/\cT xs=ls/\∀x∈xs,x.g_
def aD(C:p_)(Sg:Td)(g:TT)(ls:TG)(H:Tu)(a:TG)(H':Tu):Prop:=
 ∃sg xs ys,Sg g=O sg/\Told sg.ps ls xs/\Told sg.rs a ys/\kw C g (ao xs) H (gL (ao ys)) H'
def yb(C:p_)(v:FO)(args:Tn)(a:TP)(H:Tu)(b:TG)(H':Tu):Prop:=
 ∃ys,Told a b ys/\((∃g first cap,v = .func (.func g) first cap/\kw C g (first.toList++args++cap.toList) H (gL (ao ys)) H')∨
  (∃l,v = .func (.yield l) #[] #[]/\iO C l args H (gL (ao ys)) H'))
def rQ(a:Nat):List (Nat×SK)->Tn->Tn->List FO
 |(t,_)::l,v::vs,tm=>rQ a l vs (tm.set t v)
 |_,_,tm=>tm
def GD(s:Site)(b:Nat)(a:Tn):HI:=
 { state:=.ready,pending:=Q,fn:=b,tmps:=rQ s.nt s.caps a (List.replicate s.nt A_),params:=s.params.map (·.1),assign:=s.assign.erase sY,body:=s.body.erase sY }
def iP:Lf->Lf->Bool
 | .i a,.i b=>a==b
 | .b a,.b b=>a==b
 |_,_=>U
def cz(l:List (Lf×Lf)):Bool:=l.all λp=>iP p.1 p.2
def NS(b:GO)(k:TN)(x:Int)(a:TN)(y n:Int):Prop:=∀(P:TI) (t:TS) (w:TX),(binOp b t (.int k x) (.int a y)).run P w = .ok (.int k n) w
abbrev _root_.Tv:=Nat->Site
structure te{R HT:Type}(A:Eh R HT)(C:p_)(Sg:Td)(T:Tv)(holds:R->Prop)(abs:HT->Tu):Prop where
 fail:¬holds A.fail
 cond:∀b x y,holds (A.cond b x y)->(b=true/\holds x)∨(b=false/\holds y)
 C5:∀op k a b K,holds (A.C5 op k a b K)->∃n,tI op k a b n/\holds (K n)
 IX:∀op k a k' b K,holds (A.IX op k a k' b K)->∃n,NS op k a k' b n/\holds (K n)
 cmp:∀op a b K,holds (A.cmp op a b K)->∃t,sq op a b=some t/\holds (K t)
 eqs:∀l K,holds (A.eqs l K)->holds (K (cz l))
 conv:∀k a K,holds (A.conv k a K)->holds (K (k.wrap a))
 I4:∀t a b K,holds (A.I4 t a b K)->holds (K (if t then a else b))
 km:∀ {j7:Type} (o:Option j7) K,holds (A.km o K)->∃x,o=some x/\holds (K x)
 qa:∀v K,holds (A.qa v K)->aH v=true/\holds K
 qs:∀ls K,holds (A.qs ls K)->∃n r,ls = .i n::r/\holds (K n r)
 GM:∀ls K,holds (A.GM ls K)->∃t r,ls = .b t::r/\holds (K t r)
 D3:∀ls K,holds (A.D3 ls K)->∃x r,ls = .v x::r/\holds (K x r)
 C3:∀ls K,holds (A.C3 ls K)->ls=[]/\holds K
 ua:∀k ls K,holds (A.ua k ls K)->∃n r,ls = .int k n::r/\holds (K n r)
 F5:∀ls K,holds (A.F5 ls K)->∃t r,ls = .bool t::r/\holds (K t r)
 C7:∀ls K,holds (A.C7 ls K)->∃x r,ls=x::r/\holds (K x r)
 wb:∀ls K,holds (A.wb ls K)->ls=[]/\holds K
 oo:∀f h K,holds (A.oo f h K)->∃cs,f.run (λi=>(abs h)[i]?)=some cs/\holds (K cs)
 heap:∀f h K,holds (A.heap f h K)->∃acts cs h',f.run (λi=>(abs h)[i]?) (abs h).length=some (acts,cs)/\abs h'=iK (abs h) acts/\holds (K cs h')
 new:∀o h K,holds (A.new o h K)->∃h',abs h'=abs h++[o]/\holds (K (abs h).length h')
 call:∀g ls h K,holds (A.call g ls h K)->∃rs h',aD C Sg g ls (abs h) rs (abs h')/\holds (K rs h')
 D':∀v args hs h K,holds (A.D' v args hs h K)->∃rs h',yb C v args hs (abs h) rs (abs h')/\holds (K rs h')
 join:∀b m,holds (A.join b m)->holds (m b)
 loop:∀F ls h,holds (A.loop F ls h)->∃it:Nat->TG->HT->R,(∀ls h,¬holds (it 0 ls h))/\(∀n ls h,it (n+1) ls h=F (it n) ls h)/\∃n,holds (it n ls h)
 Gr:∀m8 v F7 h K,holds (A.Gr m8 v F7 h K)->∃g first cap r H1 lp h2,v = .func (.func g) first cap/\
  kw C g (first.toList++[.func (.yield (abs h).length) #[] #[]]++cap.toList) (abs h++[.loop (GD (T m8) m8 F7)]) r H1/\
  fe H1 (abs h).length=some lp/\lp.state≠.busy/\abs h2=H1.set (abs h).length (.loop { lp with state:=.exhausted })/\holds (K lp.pending h2)
 F4:∀pd kn kr ks,holds (A.F4 pd kn kr ks)->(pd=none/\holds kn)∨(pd=some .ret/\holds kr)∨∃id x,pd=some (.exit id)/\(id,x)∈ks/\holds x
 LX:∀l h K,holds (A.LX l h K)->∃lp h',fe (abs h) l=some lp/\lp.state = .ready/\abs h'=(abs h).set l (.loop { lp with state:=.busy })/\holds (K h')
 I1:∀l j h K,holds (A.I1 l j h K)->∃lp h',fe (abs h) l=some lp/\abs h'=(abs h).set l (.loop { lp with state:=if j.isNone then .ready else .done,pending:=j })/\holds (K h')
def SV.ok(a:Tn)(i:Nat)(s:SV):Prop:=
 match s with
 | .no=>True
 |s=>a[i]?=O s.val/\s.gd
def LR.ok(a:List (Option (Tn)))(i:Nat):LR->Prop
 | .Mm=>True
 | .nil=>a[i]?=O Q
 | .any n=>∃vs,a[i]?=O (O vs)/\vs.length=n
 | .row cs=>a[i]?=O (O (cs.map SL.val))/\∀c∈cs,c.g_
structure Rp(ev:Env)(g9:St):Prop where
 len:ev.tm.length=g9.tmps.length
 val:∀(i:Nat) s,ev.tm[i]?=some s->s.ok g9.tmps i
 Gk:ev.lc.length=g9.loc.length
 row:∀(i:Nat) r,ev.lc[i]?=some r->r.ok g9.loc i
def SV.ok_gd{a:Tn}{i:Nat}{s:SV}(h:s.gd)(b:a[i]?=O s.val):s.ok a i:=by cases s<;>first|trivial|exact⟨b,h⟩
def Rp.at{b:Env}{g9:St}(h:Rp b g9){t:Nat}{s:SV}(a:b.tm.getD t .no=s)(d:s≠.no):g9.tmps[t]?=O s.val/\s.gd:=by
 rw[List.getD_eq_getElem?_getD]at a;cases c:b.tm[t]? with
 |none=>simp_all
 |some x=>rw[c]at a;simp only[jn]at a;subst a;have:=h.val t x c;cases x<;>first|exact this|exact absurd rfl d
def Rp.n_{d:Env}{g9:St}(h:Rp d g9){x:TM}{s:SV}(a:n_ d x=s)(j:s≠.no):ka g9.tmps x=s.val/\s.gd:=by
 cases x with
 |tmp t=>let⟨b,c⟩:=h.at (t:=t) a j;exact⟨by simp[ka,List.getD_eq_getElem?_getD,b],c⟩
 |const v=>
  simp only[Am.n_]at a;cases k:K9 v with
  |none=>simp_all
  |some x=>
   rw[k]at a;subst a;let⟨b,c,e⟩:=vx k;refine⟨?_,c⟩;have:flat v=J:=by cases v<;>first|exact e|(simp[gI,scalar]at e)
   simp[ka,this,SV.val,b]
 |global g=>
  subst a;simp only[Am.n_,ka];cases m:Nat.blt g gB with
  |true=>exact⟨rfl,trivial⟩
  |false=>exact absurd (by simp only[Am.n_,m]) j
 |func f=>subst a;refine⟨rfl,λl i=>?_⟩;simp only[S0.cells,HN]at i;subst i;rfl
def Rp.Ea{b:Env}{g9:St}(h:Rp b g9){x:TM}{s:S0}(a:Ea b x=O s):ka g9.tmps x=s.val/\s.g_:=by
 unfold Am.Ea at a;split at a
 next y e=>cases a;exact h.n_ e d_
 .cases a
def Rp.EM{b:Env}{g9:St}(h:Rp b g9):∀ {l:List GJ} {xs:List S0},EM b l=O xs->l.map (ka g9.tmps)=ao xs/\∀x∈xs,x.g_
 | [],xs,a=>by cases a;exact⟨rfl,d_⟩
 |o::l,xs,a=>by
  simp only[Am.EM]at a;split at a
  next x ys c d=>
   cases a;let⟨h1,f⟩:=h.Ea c;let⟨e,g⟩:=h.EM d;refine⟨by simp[ao,h1];exact e,λy i=>?_⟩
   grind
  .cases a
def Rp.put{b:Env}{g9:St}(h:Rp b g9)(d:Nat){s:SV}(f:s.gd):Rp ⟨b.tm.set d s,b.lc⟩ (g9.put (O d) s.val):=by
 refine⟨by simp[St.put,h.len],λi x a=>?_,h.Gk,h.row⟩;simp only[Kk]at a;split at a
 next c=>
  subst c;split at a
  next e=>cases a;apply SV.ok_gd f;simp only[St.put,List.getElem?_set_self'];rw[Gn (by rw[←h.len];exact e)];rfl
  .cases a
 next c=>have:=h.val i x a;cases x<;>first|trivial|exact⟨by simp only[St.put];rw[K7 c];exact this.1,this.2⟩
def Rp.heap{a:Env}{g9:St}(h:Rp a g9)(H:Tu):Rp a { g9 with heap:=H }:=⟨h.len,h.val,h.Gk,h.row⟩
structure Fr(ws ks rs:TC)(g9 j6:St):Prop where
 Mi:j6.tmps.length=g9.tmps.length
 Gk:j6.loc.length=g9.loc.length
 tm:∀(i:Nat) v,g9.tmps[i]?=some v->i∉ws->q8 v=true->j6.tmps[i]?=some v
 tp:∀(i s off:Nat),g9.tmps[i]?=some (.pointer (some ⟨s,off,some 0⟩))->i∉ws->s∉ks->j6.tmps[i]?=some (.pointer (some ⟨s,off,some 0⟩))
 row:∀(s:Nat) x,g9.loc[s]?=some x->s∉rs->j6.loc[s]?=some x
 VT:∀(s:Nat) vs,g9.loc[s]?=some (some vs)->s∉ks->∃vs',j6.loc[s]?=some (some vs')/\vs'.length=vs.length
theorem Fr.refl(c ks a:TC)(g9:St):Fr c ks a g9 g9:=⟨rfl,rfl,λ_ _ h _ _=>h,λ_ _ _ h _ _=>h,λ_ _ h _=>h,λ_ b h _=>⟨b,h,rfl⟩⟩
def Fr.trans{f ks e:TC}{g9 j9 g:St}(h:Fr f ks e g9 j9)(h':Fr f ks e j9 g):Fr f ks e g9 g:=
 ⟨h'.Mi.trans h.Mi,h'.Gk.trans h.Gk,λi v a b c=>h'.tm i v (h.tm i v a b c) b c,λi s d a b c=>h'.tp i s d (h.tp i s d a b c) b c,
  λs x a b=>h'.row s x (h.row s x a b) b,λs j a b=>let ⟨v1,c1,d1⟩:=h.VT s j a b;let ⟨v2,c2,d2⟩:=h'.VT s v1 c1 b;⟨v2,c2,d2.trans d1⟩⟩
def Fr.mono{n ks m g e f:TC}{g9 l:St}(h:Fr n ks m g9 l)(h1:∀i∈n,i∈g)(k:∀i∈ks,i∈e)(o:∀i∈m,i∈f):Fr g e f g9 l:=
 ⟨h.Mi,h.Gk,λi v a b c=>h.tm i v a (λd=>b (h1 i d)) c,λi s j a b c=>h.tp i s j a (λd=>b (h1 i d)) (λd=>c (k s d)),
  λs x a b=>h.row s x a (λd=>b (o s d)),λs p a b=>h.VT s p a (λd=>b (k s d))⟩
def Fr.heap{c ks b:TC}{g9 a:St}(h:Fr c ks b g9 a)(H:Tu):Fr c ks b g9 { a with heap:=H }:=⟨h.Mi,h.Gk,h.tm,h.tp,h.row,h.VT⟩
def Fr.put{g9:St}(dst:Tq)(v:TV)(ks c:TC):Fr dst.toList ks c g9 (g9.put dst v):=by
 cases dst with
 |none=>exact .refl _ _ _ _
 |some d=>
  refine⟨by simp[St.put],rfl,λi x h a _=>?_,λi s b h a _=>?_,λ_ _ h _=>h,λ_ e h _=>⟨e,h,rfl⟩⟩<;>
  .simp only[Option.toList_some,HN]at a;simp only[St.put]
   grind
end
inductive HO where
 |o (x:wa)
 |lp (m8:Nat) (st:LoopState) (pd:Tm) (vs:Tn)
abbrev HL:=List HO
inductive CK where
 |f (g:TT)
 |y (m8:Nat) (vs:Tn) (l:Nat)
def G0(T:Tv):HO->wa
 | .o x=>x
 | .lp a st b vs=>.loop { GD (T a) a vs with state:=st,pending:=b }
def h_(T:Tv)(h:HL):Tu:=h.map (G0 T)
namespace Sx
inductive Hw where
 |o (x:wa)
 |lp (m8:Nat) (st:LoopState) (pd:Tm) (vs:Tn)
 |t (n e:Nat) (rw:Bool) (c:Tr Value)
def IE:FO:=.bool U
def cQ(c:Tr FO)(n:Nat):Tn:=(EW n).map λi=>(cG i).get IE c
def Hw.ho:Hw->HO
 | .o x=>.o x
 | .lp a st b vs=>.lp a st b vs
 | .t n e rw c=>.o (EJ (cQ c n) e rw)
structure C8 where
 n:Nat
 t:Tr Hw
def noO:Hw:=.o .dead
def C8.empty:C8:=⟨0,.leaf⟩
def C8.at(h:C8)(i:Nat):Option Hw:=match Nat.blt i h.n with
 |J=>O ((cG i).get noO h.t)
 |U=>Q
def EV(h:C8):HL:=(EW h.n).map λi=>((cG i).get noO h.t).ho
def iI(h:C8):W (EV h)=h.n:=by simp[EV]
def ob(h:C8)(i:Nat):(EV h)[i]?=(h.at i).map Hw.ho:=by
 unfold EV C8.at;rw[GL];cases e:Nat.blt i h.n with
 |true=>simp_all
 |false=>
  have:h.n<=i:=by
   rcases I3 i h.n with a|a
   .rw[←IV,e]at a;cases a
   .exact a
  simp_all
def C8.put(h:C8)(i:Nat)(o:Hw):C8:=match Nat.blt i h.n with
 |J=>⟨h.n,(cG i).set noO h.t o⟩
 |U=>h
def C8.push(h:C8)(o:Hw):C8:=⟨h.n+1,(cG h.n).set noO h.t o⟩
def jF(h:C8)(i:Nat)(o:Hw):EV (h.put i o)=(EV h).set i o.ho:=by
 apply Kj;intro j;unfold C8.put;cases e:Nat.blt i h.n with
 |true=>
  rw[IV]at e;simp only;rw[ob];by_cases b:i=j
  .subst b;rw[Kw (by rw[iI];exact e)];unfold C8.at;simp only[(IV▸e:Nat.blt i h.n=J)];rw[Fw.Ep];rfl
  .rw[K7 b,ob];unfold C8.at;simp only;rw[Fw.EY _ _ _ _ _ (λh=>b (nN h).symm)]
 |false=>
  simp only;have:h.n<=i:=by
   rcases I3 i h.n with a|a
   .rw[←IV,e]at a;cases a
   .exact a
  rw[List.set_eq_of_length_le (by rw[iI];exact this)]
def jV(h:C8)(o:Hw):EV (h.push o)=EV h++[o.ho]:=by
 apply Kj;intro j;rw[ob];unfold C8.push C8.at;simp only;by_cases c:j<h.n
 .rw[Kh (by rw[iI];exact c),ob];unfold C8.at;have a:Nat.blt j (h.n+1)=J:=by rw[IV];omega
  have b:Nat.blt j h.n=J:=by rw[IV];omega
  simp only[a,b];rw[Fw.EY _ _ _ _ _ (λh=>by have:=nN h;omega)]
 .rw[K0 (by rw[iI];omega),iI];by_cases d:j=h.n
  .subst d;have a:Nat.blt h.n (h.n+1)=J:=by rw[IV];omega
   simp only[a,v2,qci];rw[Fw.Ep];rfl
  .have a:Nat.blt j (h.n+1)=U:=by rw[←Ii,IV];omega
   grind
def bv(c:Tr FO)(n:Nat):W (cQ c n)=n:=by simp[cQ]
def fG(c:Tr FO){n i:Nat}(h:i<n):(cQ c n)[i]?=O ((cG i).get IE c):=by
 unfold cQ
 simp_all
def Iz:Tn->Nat->Tr FO->Tr FO
 | [],_,c=>c
 |v::l,i,c=>Iz l (i+1) ((cG i).set IE c v)
def uJ:∀(l:Tn) (i:Nat) (c:Tr FO) (j:Nat),(cG j).get IE (Iz l i c)=if i<=j/\j<i+W l then l[j-i]?.getD IE else(cG j).get IE c
 | [],i,c,j=>by have h:¬(i<=j/\j<i+W ([]:Tn)):=k_;rw[ts h];rfl
 |v::l,i,c,j=>by
  show(cG j).get IE (Iz l (i+1) _)=_;rw[uJ l (i+1)];by_cases h:i+1<=j/\j<i+1+W l
  .grind
  .rw[ts h];by_cases a:j=i
   .subst a;rw[Fw.Ep,rv d_];simp
   .rw[Fw.EY _ _ _ _ _ (λe=>a (nN e)),ts z_]
def sj{l:Tn}{i n:Nat}{c:Tr FO}(h:i+W l<=n):cQ (Iz l i c) n=(cQ c n).take i++l++(cQ c n).drop (i+W l):=by
 apply Kj;intro j;by_cases a:j<n
 .rw[fG _ a,uJ];by_cases b:j<i
  .rw[ts a_,Gu,Kh (by rw[qb6,bv];omega),List.getElem?_take_of_lt b,fG _ a]
  .have d:W ((cQ c n).take i)=i:=by rw[qb6,bv];omega
   by_cases e:j<i+W l
   .grind
   .rw[ts a_,K0 k_,IL,d,qb9,show i+W l+(j-(i+W l))=j by omega,fG _ a]
 .rw[Ig (by rw[bv];omega),Ig (by simp[bv];omega)]
def qm{l:Tn}{n:Nat}{c:Tr FO}:cQ (Iz l n c) (n+W l)=cQ c n++l:=by
 apply Kj;intro j;by_cases b:j<n+W l
 .rw[fG _ b,uJ];by_cases a:j<n
  .rw[ts a_,Kh (by rw[bv];exact a),fG _ a]
  .rw[rv ⟨a_,b⟩,K0 (by rw[bv];omega),bv,Gn a_];rfl
 .rw[Ig (by rw[bv];omega),Ig (by simp[bv];omega)]
def Cw(l:Tn):cQ (Iz l 0 .leaf) (W l)=l:=by have:=qm (l:=l) (n:=0) (c:=.leaf);simpa[cQ]using this
def Dc(c:Tr FO)(n:Nat):Nat->Tn:=Nat.rec (motive:=λ_=>Nat->Tn) (λ_=>[]) (λ_ b a=>(cG a).get IE c::fN (Nat.succ a) b) n
def mG(c:Tr FO):∀(n off m:Nat),off+n<=m->Dc c n off=((cQ c m).drop off).take n
 |0,_,_,_=>by rw[qdm];rfl
 |n+1,off,m,h=>by
  show(cG off).get IE c::Dc c n (off+1)=_;rw[mG c n (off+1) m a_];have h1:off<W (cQ c m):=by rw[bv];omega
  rw[RK h1,qcl]
  congr 1
  have:=fG c (n:=m) (i:=off) a_
  simp_all
section
variable {R:Type}
def z6{j7:Type}(d:j7)(p:Fw):Tr j7->j7->(Tr j7->R)->R:=
 Fw.rec (motive:=λ_=>Tr j7->j7->(Tr j7->R)->R)
  (λt x k=>Tr.casesOn t (k (.node x .leaf .leaf)) λ_ l r=>k (.node x l r))
  (λ_ a t x k=>Tr.casesOn t (a .leaf x λl=>k (.node d l .leaf)) λv l r=>a l x λl=>k (.node v l r))
  (λ_ a t x k=>Tr.casesOn t (a .leaf x λr=>k (.node d .leaf r)) λv l r=>a r x λr=>k (.node v l r)) p
def lu{j7:Type}(d:j7):∀(p:Fw) (t:Tr j7) (x:j7) (k:Tr j7->R),z6 d p t x k=k (p.set d t x)
 | .e,t,x,k=>by cases t<;>rfl
 | .o p,t,x,k=>by
  cases t with
  |leaf=>exact lu d p .leaf x _
  |node v l r=>exact lu d p l x _
 | .i p,t,x,k=>by
  cases t with
  |leaf=>exact lu d p .leaf x _
  |node v l r=>exact lu d p r x _
def G8(h:C8)(i:Nat)(o:Hw)(k:C8->R):R:=match Nat.blt i h.n with
 |J=>z6 noO (cG i) h.t o λt=>k ⟨h.n,t⟩
 |U=>k h
def oY(h:C8)(o:Hw)(k:C8->R):R:=z6 noO (cG h.n) h.t o λt=>fN (Nat.succ h.n) λn=>k ⟨n,t⟩
def jA(h:C8)(i:Nat)(o:Hw)(k:C8->R):G8 h i o k=k (h.put i o):=by
 unfold G8 C8.put;split
 next e=>rw[lu]
 .rfl
def jN(h:C8)(o:Hw)(k:C8->R):oY h o k=k (h.push o):=by unfold oY C8.push;rw[lu,eW]
def BG{j7:Type}(l:List j7):(List j7->R)->R:=
 List.rec (motive:=λ_=>(List j7->R)->R) (λk=>k []) (λx _ a k=>a λl=>k (x::l)) l
def rq{j7:Type}:∀(l:List j7) (k:List j7->R),BG l k=k l
 | [],_=>rfl
 |x::l,k=>rq l λl=>k (x::l)
def BH(v:FO)(k:FO->R):R:=match v with
 | .int a n=>fI n λn=>k (.int a n)
 | .bool b=>Bool.rec (k (.bool U)) (k (.bool J)) b
 |v=>k v
def VI(v:TV)(k:TV->R):BH v k=k v:=by
 unfold BH;split
 .exact lS _ _
 next b=>cases b<;>rfl
 .rfl
def M6(l:Tn):Nat->Tr FO->(Tr FO->R)->R:=
 List.rec (motive:=λ_=>Nat->Tr FO->(Tr FO->R)->R) (λ_ c k=>k c) (λv _ a i c k=>BH v λv=>z6 IE (cG i) c v λc=>fN (Nat.succ i) λi=>a i c k) l
def qP:∀(l:Tn) (i:Nat) (c:Tr FO) (k:Tr FO->R),M6 l i c k=k (Iz l i c)
 | [],_,_,_=>rfl
 |v::l,i,c,k=>by show(BH v λv=>z6 IE (cG i) c v λc=>fN (Nat.succ i) λi=>M6 l i c k)=_;rw[VI,lu,eW,qP l];rfl
def wT(o:wa)(k:Hw->R):R:=match o with
 | .cells b e rw=>fN (W b) λn=>M6 b 0 .leaf λc=>k (.t n e rw c)
 | .map a c=>BG a λa=>fN c λc=>k (.o (.map a c))
 |o=>k (.o o)
def md{o:wa}{k:Hw->R}:∃x:Hw,x.ho = .o o/\wT o k=k x:=by
 cases o with
 |cells b e rw=>refine⟨.t (W b) e rw (Iz b 0 .leaf),by simp only[Hw.ho,Cw],?_⟩;show(fN (W b) λn=>M6 b 0 .leaf λc=>k (.t n e rw c))=_;rw[eW,qP]
 |map a c=>refine⟨.o (.map a c),rfl,?_⟩;show(BG a λa=>fN c λc=>k (.o (.map a c)))=_;rw[rq,eW]
 |_=>exact⟨.o _,rfl,rfl⟩
def vh(l:TG):(TG->R)->R:=
 List.rec (motive:=λ_=>(TG->R)->R) (λk=>k []) (λx _ a k=>match x with
  | .i n=>fI n λn=>a λl=>k (.i n::l)
  | .b t=>Bool.rec (a λl=>k (.b U::l)) (a λl=>k (.b J::l)) t
  | .v v=>a λl=>k (.v v::l)) l
def fL:∀(l:TG) (k:TG->R),vh l k=k l
 | [],_=>rfl
 | .i n::l,k=>(lS n λn=>vh l λl=>k (.i n::l)).trans (fL l _)
 | .b J::l,k=>fL l λl=>k (.b J::l)
 | .b U::l,k=>fL l λl=>k (.b U::l)
 | .v v::l,k=>fL l λl=>k (.v v::l)
end
end Sx
section
open Sx
abbrev RT:=Option (TG)
abbrev yes:RT:=O []
abbrev gk:=CK->TG->C8->(TG->C8->RT)->RT
def Er.onH(h:HL):Er->HL
 | .set i o=>h.set i (.o o)
 | .push o=>h++[.o o]
def bJ(h:HL)(l:List Er):HL:=l.foldl Er.onH h
def w_(T:Tv)(h:HL):cU:=λi=>match h[i]? with
 |O x=>O (G0 T x)
 |Q=>Q
def KK(T:Tv)(h:C8):cU:=λi=>match h.at i with
 |O x=>O (G0 T x.ho)
 |Q=>Q
def Co(l:List Er):C8->(C8->RT)->RT:=
 List.rec (motive:=λ_=>C8->(C8->RT)->RT) (λh k=>k h) (λa _ b h k=>match a with
  | .set i o=>wT o λo=>G8 h i o λh=>b h k
  | .push o=>wT o λo=>oY h o λh=>b h k) l
def condB(b:Bool)(x y:RT):RT:=Bool.rec y x b
def L4(k:TN)(c:Int)(K:Int->RT):RT:=Bool.rec (fI (k.wrap c) K) (K c) (Hx k c)
def hq(c:Int)(K:Int->RT):RT:=@Bool.rec (λ_=>RT) (fI (IntKind.wrap DQ c) K) (K c) (@Int.rec (λ_=>Bool) (λn=>Nat.ble n 9223372036854775807) (λn=>Nat.ble n 9223372036854775807) c)
def g3(c:Int)(K:Int->RT):RT:=@Bool.rec (λ_=>RT) (fI (IntKind.wrap DU c) K) (K c) (@Int.rec (λ_=>Bool) (λn=>Nat.ble n 255) (λ_=>U) c)
def Kg(k:TN)(c:Int)(K:Int->RT):RT:=@IntKind.rec (λ_=>RT) (L4 .i8 c K) (L4 .i16 c K) (L4 .i32 c K) (hq c K) (g3 c K) (L4 .u16 c K) (L4 .u32 c K) (L4 .u64 c K) k
def addK(a b:Int)(K:Int->RT):RT:=
 Int.rec (λm=>Int.rec (λn=>fN (Nat.add m n) λc=>K (.ofNat c)) (λn=>Bool.rec (fN (Nat.sub n m) λc=>K (.negSucc c)) (fN (Nat.sub m (Nat.succ n)) λc=>K (.ofNat c)) (Nat.blt n m)) b)
  (λm=>Int.rec (λn=>Bool.rec (fN (Nat.sub m n) λc=>K (.negSucc c)) (fN (Nat.sub n (Nat.succ m)) λc=>K (.ofNat c)) (Nat.blt m n)) (λn=>fN (Nat.succ (Nat.add m n)) λc=>K (.negSucc c)) b) a
def subK(a b:Int)(K:Int->RT):RT:=
 Int.rec (λm=>Int.rec (λn=>Bool.rec (fN (Nat.sub n (Nat.succ m)) λc=>K (.negSucc c)) (fN (Nat.sub m n) λc=>K (.ofNat c)) (Nat.ble n m)) (λn=>fN (Nat.succ (Nat.add m n)) λc=>K (.ofNat c)) b)
  (λm=>Int.rec (λn=>fN (Nat.add m n) λc=>K (.negSucc c)) (λn=>Bool.rec (fN (Nat.sub m (Nat.succ n)) λc=>K (.negSucc c)) (fN (Nat.sub n m) λc=>K (.ofNat c)) (Nat.ble m n)) b) a
def mulK(a b:Int)(K:Int->RT):RT:=
 Int.rec (λm=>Int.rec (λn=>fN (Nat.mul m n) λc=>K (.ofNat c)) (λn=>Nat.rec (K (.ofNat 0)) (λd _=>fN (Nat.add (Nat.mul m n) d) λc=>K (.negSucc c)) m) b)
  (λm=>Int.rec (λn=>Nat.rec (K (.ofNat 0)) (λe _=>fN (Nat.add (Nat.mul m n) e) λc=>K (.negSucc c)) n) (λn=>fN (Nat.mul (Nat.succ m) (Nat.succ n)) λc=>K (.ofNat c)) b) a
def quoK(a b:Int)(K:Int->RT):RT:=
 Int.rec (λm=>Int.rec (λn=>fN (Nat.div m n) λc=>K (.ofNat c)) (λ_=>fI (Int.tdiv a b) K) b) (λ_=>fI (Int.tdiv a b) K) a
def remK(a b:Int)(K:Int->RT):RT:=
 Int.rec (λm=>Int.rec (λn=>fN (Nat.mod m n) λc=>K (.ofNat c)) (λ_=>fI (Int.tmod a b) K) b) (λ_=>fI (Int.tmod a b) K) a
def isZ(b:Int):Bool:=Int.rec (λn=>Nat.beq n 0) (λ_=>U) b
def ariB(d:GO)(k:TN)(a b:Int)(K:Int->RT):RT:=
 match d with
 | .add=>addK a b λc=>Kg k c K
 | .sub=>subK a b λc=>Kg k c K
 | .mul=>mulK a b λc=>Kg k c K
 | .quo=>Bool.rec (quoK a b λc=>Kg k c K) Q (isZ b)
 | .rem=>Bool.rec (remK a b K) Q (isZ b)
 | .and=>match eqI b 1 with
  |J=>fI (Int.emod a 2) K
  |U=>match a,b with
   | .ofNat m,.ofNat n=>fI (.ofNat (Nat.land m n)) λc=>Kg k c K
   |_,_=>Q
 | .xor=>match a,b with
  | .ofNat m,.ofNat n=>fI (.ofNat (Nat.xor m n)) λc=>Kg k c K
  |_,_=>Q
 | .or=>match a,b with
  | .ofNat m,.ofNat n=>fI (.ofNat (Nat.lor m n)) λc=>Kg k c K
  |_,_=>Q
 |_=>Q
def YL(a b:Int):Bool:=Int.rec (λm=>Int.rec (λn=>Nat.beq m n) (λ_=>U) b) (λm=>Int.rec (λ_=>U) (λn=>Nat.beq m n) b) a
def Z7(b:Bool):Bool:=Bool.rec J U b
def cmpB(c:GO)(a b:Int)(K:Bool->RT):RT:=
 match c with
 | .eql=>K (YL a b)
 | .neq=>K (Z7 (YL a b))
 | .lss=>K (Z7 (y3 b a))
 | .leq=>K (y3 a b)
 | .gtr=>K (Z7 (y3 a b))
 | .geq=>K (y3 b a)
 |_=>Q
def eqBK(a b:Bool):Bool:=Bool.rec (Z7 b) b a
def M4(x y:Lf):Bool:=Lf.rec (λa=>Lf.rec (λb=>YL a b) (λ_=>U) (λ_=>U) y) (λa=>Lf.rec (λ_=>U) (λb=>eqBK a b) (λ_=>U) y) (λ_=>U) x
def eqsV(l:List (Lf×Lf)):Bool:=List.rec J (λp _ a=>Bool.rec U a (M4 p.1 p.2)) l
def eqsB(l:List (Lf×Lf))(K:Bool->RT):RT:=K (eqsV l)
def convB(k:TN)(a:Int)(K:Int->RT):RT:=Kg k a K
def selB(t:Bool)(a b:Int)(K:Int->RT):RT:=Bool.rec (K b) (K a) t
def optB{j7:Type}(o:Option j7)(K:j7->RT):RT:=Option.rec Q K o
def unIB(ls:TG)(K:Int->TG->RT):RT:=List.rec Q (λx r _=>Lf.rec (λn=>K n r) (λ_=>Q) (λ_=>Q) x) ls
def unBB(ls:TG)(K:Bool->TG->RT):RT:=List.rec Q (λx r _=>Lf.rec (λ_=>Q) (λn=>K n r) (λ_=>Q) x) ls
def unVB(ls:TG)(K:FO->TG->RT):RT:=List.rec Q (λx r _=>Lf.rec (λ_=>Q) (λ_=>Q) (λn=>K n r) x) ls
def un0B(ls:TG)(K:RT):RT:=List.rec K (λ_ _ _=>Q) ls
def ucIB(k:TN)(ls:Tn)(K:Int->Tn->RT):RT:=match ls with | .int k' n::r=>(match dc k k' with|J=>K n r|U=>Q)|_=>Q
def ucBB(ls:Tn)(K:Bool->Tn->RT):RT:=match ls with | .bool n::r=>K n r|_=>Q
def ucVB(ls:Tn)(K:FO->Tn->RT):RT:=match ls with|n::r=>K n r|_=>Q
def uc0B(ls:Tn)(K:RT):RT:=match ls with | []=>K|_=>Q
def gy(s:Ts):Bool:=match s with
 |Q=>J
 |O k=>match k with
  |0=>U
  |_=>J
def LL(v:FO):Bool:=match v with
 | EQ (O a)=>gy a.spot
 | DW (O a) _ _=>gy a.spot
 |v=>aH v
def chkB(v:FO)(K:RT):RT:=match LL v with|J=>K|U=>Q
def r0{j7:Type}(l:List j7):Nat:=List.rec 0 (λ_ _ n=>Nat.succ n) l
def ldB(n:Nat)(p:FO)(h:C8)(K:Tn->RT):RT:=match p with
 | EQ (O a)=>match a.spot with
  |Q=>match h.at a.block with
   |O (.t m _ _ c)=>match Nat.ble (Nat.add a.off n) m with
    |J=>K (Dc c n a.off)
    |U=>Q
   |_=>Q
  |O _=>Q
 |_=>Q
def lgB(C:p_)(n:Nat)(p:FO)(h:C8)(K:Tn->RT):RT:=match p with
 | EQ (O a)=>match a.spot with
  |Q=>match h.at a.block with
   |O (.t m _ _ c)=>match Nat.ble (Nat.add a.off n) m with
    |J=>K (Dc c n a.off)
    |U=>Q
   |_=>Q
  |O k=>match Nat.beq k 1 with
   |J=>match C.G a.block with
    |O d=>match S_ d a.off n with
     |O b=>K b
     |Q=>Q
    |Q=>Q
   |U=>Q
 |_=>Q
def d'(T:Tv)(f:Pk)(h:C8)(K:Tn->RT):RT:=match f with
 | .ld n p=>ldB n p h K
 | .lg C n p=>lgB C n p h K
 | .fn f=>match f (KK T h)with|O x=>K x|Q=>Q
def stB(p:FO)(new:Tn)(h:C8)(K:Tn->C8->RT):RT:=match p with
 | EQ (O a)=>match a.spot with
  |Q=>match h.at a.block with
   |O (.t m e J c)=>match Nat.ble (Nat.add a.off (r0 new)) m with
    |J=>M6 new a.off c λc=>G8 h a.block (.t m e J c) λh=>K [] h
    |U=>Q
   |_=>Q
  |O _=>Q
 |_=>Q
def ck(s:Ts)(vd:Nat):Bool:=match s with
 |Q=>U
 |O k=>Nat.beq k (Nat.add vd 10)
def slB(C:p_)(T:Tv)(vd:Nat)(x:FO)(h:C8)(K:Tn->Nat->RT):RT:=match x with
 | DW (O a) b _=>match ck a.spot vd with
  |J=>match h.at a.block with
   |O (.t m e _ c)=>match Nat.beq e vd,Nat.ble (Nat.add a.off (Nat.mul b vd)) m with
    |J,J=>K (Dc c (Nat.mul b vd) a.off) b
    |_,_=>Q
   |_=>Q
  |U=>match Xm C vd (KK T h) x with
   |O p=>K p.1 p.2
   |Q=>Q
 |x=>match Xm C vd (KK T h) x with
  |O p=>K p.1 p.2
  |Q=>Q
def PD(c:Tr FO)(m off w vd:Nat)(new:Tn)(k:Hw->RT):RT:=match Nat.beq off 0,Nat.beq w m with
 |J,J=>M6 new m c λc=>fN (Nat.add m (r0 new)) λm=>k (.t m vd J c)
 |_,_=>wT (EJ (Dc c w off++new) vd J) k
def apB(T:Tv)(C:p_)(vd bytes:Nat)(s x:FO)(h:C8)(K:Tn->C8->RT):RT:=
 slB C T vd x h λd n=>match s with
  | DW Q 0 0=>match n with
   |0=>K [DW Q 0 0] h
   |n+1=>match aY (n+1) bytes with
    |J=>wT (.cells d vd J) λo=>oY h o λf=>fN (n+1) λn=>K [DW (O ⟨h.n,0,le vd⟩) n 0] f
    |U=>Q
  | DW (O a) b i=>match ck a.spot vd with
   |U=>Q
   |J=>match h.at a.block with
    |O (.t m e rw c)=>match Nat.beq e vd,Nat.ble (Nat.add a.off (Nat.mul b vd)) m with
     |J,J=>match i with
      |0=>match n with
       |0=>K [DW (O a) b 0] h
       |n+1=>match rw,aY (b+(n+1)) bytes with
        |J,J=>PD c m a.off (Nat.mul b vd) vd d λo=>G8 h a.block (.o .dead) λf=>oY f o λg=>fN (b+(n+1)) λl=>K [DW (O ⟨h.n,0,le vd⟩) l 0] g
        |_,_=>Q
      |cap+1=>match Nat.ble (b+n) cap with
       |J=>match rw,Nat.ble (Nat.add (Nat.add a.off (Nat.mul b vd)) (r0 d)) m with
        |J,J=>M6 d (Nat.add a.off (Nat.mul b vd)) c λc=>G8 h a.block (.t m e J c) λf=>fN (b+n) λl=>K [DW (O a) l (cap+1)] f
        |_,_=>Q
       |U=>match aY (b+n) bytes with
        |J=>PD c m a.off (Nat.mul b vd) vd d λo=>oY h o λf=>fN (b+n) λl=>K [DW (O ⟨h.n,0,le vd⟩) l 0] f
        |U=>Q
     |_,_=>Q
    |_=>Q
  |_=>Q
def PF(T:Tv)(f:Hp)(h:C8)(K:Tn->C8->RT):RT:=match f with
 | .st p b=>stB p b h K
 | .ap C a bytes s x=>apB T C a bytes s x h K
 | .fn f=>match f (KK T h) h.n with|O p=>BG p.2 λc=>Co p.1 h λh=>K c h|Q=>Q
def newB(o:wa)(h:C8)(K:Nat->C8->RT):RT:=wT o λo=>oY h o λa=>K h.n a
def Xb(k:LK)(v:FO):Option SL:=
 match k with
 | .i k=>match v with
  | .int a n=>match dc a k with
   |J=>O (.i a n)
   |U=>Q
  |_=>Q
 | .b=>match v with
  | .bool t=>O (.b t)
  |_=>Q
 | .v=>match aH v with
  |J=>O (.v v)
  |U=>Q
def Sq:TK->Tn->Option (List SL)
 | [],[]=>O []
 |k::ks,v::vs=>match Xb k v with
  |O x=>match Sq ks vs with
   |O xs=>O (x::xs)
   |Q=>Q
  |Q=>Q
 |_,_=>Q
def toS0(c:SK)(v:FO):Option S0:=
 match c with
 | .leaf k=>(Xb k v).map .leaf
 | .agg b=>match v with
  | .agg a=>(Sq b a.toList).map .agg
  |_=>Q
def Mj:TP->Tn->Option (List S0)
 | [],[]=>O []
 |k::ks,v::vs=>match toS0 k v with
  |O x=>match Mj ks vs with
   |O xs=>O (x::xs)
   |Q=>Q
  |Q=>Q
 |_,_=>Q
def y4:LK->LK->Bool
 | .i a,.i b=>dc a b
 | .b,.b=>J
 | .v,.v=>J
 |_,_=>U
def Ph:TK->TK->Bool
 | [],[]=>J
 |a::l,b::m=>y4 a b&&Ph l m
 |_,_=>U
def eqSK:SK->SK->Bool
 | .leaf a,.leaf b=>y4 a b
 | .agg a,.agg b=>Ph a b
 |_,_=>U
def LD:TP->TP->Bool
 | [],[]=>J
 |a::l,b::m=>eqSK a b&&LD l m
 |_,_=>U
def kF(ls:TG):Bool:=List.rec J (λl _ a=>match l with
 | .v x=>(match LL x with
  |J=>a
  |U=>U)
 |_=>a) ls
section
variable (Sg:Td) (T:Tv) (call:gk)
def N8(g:TT)(ls:TG)(h:C8)(K:TG->C8->RT):RT:=match kF ls with|J=>call (.f g) ls h K|U=>Q
def px(g:TT)(b:Option (TP))(a:Tn)(h:C8)(K:TG->C8->RT):RT:=
 match Sg g with
 |Q=>Q
 |O c=>match (match b with|Q=>J|O b=>LD c.rs b)with
  |U=>Q
  |J=>match Mj c.ps a with
   |Q=>Q
   |O d=>N8 call g (cT d) h K
def ML(v:FO)(args:Tn)(c:TP)(h:C8)(K:TG->C8->RT):RT:=
 match v with
 | .func f first a=>match f with
  | .func g=>px Sg call g (O c) (first.toList++args++a.toList) h K
  | .yield l=>match first.toList,a.toList with
   | [],[]=>match h.at l with
    |O (.lp d _ _ i)=>match LD [.leaf .b] c with
     |U=>Q
     |J=>match Mj ((T d).params.map (·.2)) args with
      |Q=>Q
      |O e=>match kF (cT e)with
       |J=>call (.y d i l) (cT e) h K
       |U=>Q
    |_=>Q
   |_,_=>Q
  |_=>Q
 |_=>Q
def mH(k:Nat)(v:FO)(a:Tn)(h:C8)(K:Tm->C8->RT):RT:=
 match v with
 | .func f first b=>match f with
  | .func g=>oY h (.lp k .ready Q a) λi=>px Sg call g Q (first.toList++[.func (.yield h.n) #[] #[]]++b.toList) i λ_ c=>match c.at h.n with
   |O (.lp e l d m)=>match l with
    | .busy=>Q
    |_=>G8 c h.n (.lp e .exhausted d m) λj=>K d j
   |_=>Q
  |_=>Q
 |_=>Q
def pendB(e:Tm)(b d:RT)(ks:List (Nat×RT)):RT:=
 match e with
 |Q=>b
 |O c=>match c with
  | .ret=>d
  | .exit id=>List.rec Q (λp _ a=>match Nat.beq p.1 id with|J=>p.2|U=>a) ks
  |_=>Q
def lp1B(l:Nat)(h:C8)(K:C8->RT):RT:=
 match h.at l with
 |O (.lp a c b d)=>match c with
  | .ready=>G8 h l (.lp a .busy b d) K
  |_=>Q
 |_=>Q
def lp2B(l:Nat)(j:Tm)(h:C8)(K:C8->RT):RT:=
 match h.at l with
 |O (.lp a _ _ b)=>match j with
  |Q=>G8 h l (.lp a .ready Q b) K
  |O c=>G8 h l (.lp a .done (O c) b) K
 |_=>Q
end
def loopB(F:(TG->C8->RT)->TG->C8->RT)(ls:TG)(h:C8):RT:=
 Nat.rec (motive:=λ_=>TG->C8->RT) (λ_ _=>Q) (λ_ a ls h=>F a ls h) 1000000 ls h
def joinB(b:TG->C8->RT)(m:(TG->C8->RT)->RT):RT:=m b
def rm(c:GO)(k:TN)(a:Int)(_:TN)(b:Int)(K:Int->RT):RT:=match y3 0 b with
 |J=>match c with
  | .shl=>fI (k.wrap (a*2 ^ min b.toNat k.bits)) K
  | .shr=>fI (a.fdiv (2 ^ min b.toNat k.bits)) K
  |_=>Q
 |U=>Q
def BA(Sg:Td)(T:Tv)(call:gk):Eh RT C8 where
 fail:=Q
 cond:=condB
 C5:=ariB
 IX:=rm
 cmp:=cmpB
 eqs:=eqsB
 conv:=convB
 I4:=selB
 km:=optB
 qa:=chkB
 qs:=unIB
 GM:=unBB
 D3:=unVB
 C3:=un0B
 ua:=ucIB
 F5:=ucBB
 C7:=ucVB
 wb:=uc0B
 oo:=d' T
 heap:=PF T
 new:=newB
 call:=N8 call
 D':=ML Sg T call
 join:=joinB
 loop:=loopB
 Gr:=mH Sg call
 F4:=pendB
 LX:=lp1B
 I1:=lp2B
end
namespace Sx
section
variable [El] [E_]
def A5(b_:TC)(tm:Tn)(o:FQ):TC:=(K1 b_ o).flatMap λx=>E' (ka tm x)
def fAt(b_:TC)(tm:Tn)(o:FQ):TC:=(dz b_ o).1.flatMap λx=>D9 (dz b_ o).2 (ka tm x)
def LB(b_:TC)(tm:Tn)(o:FQ):Prop:=∀d,o.dst=O d->F2 b_ o=2->∃v,tm[d]?=O v
def NR(b_:TC)(ops:To)(tm:Tn)(c:List (Nat×Nat)):Prop:=
 ∀p∈c,∃a b,ops[p.1]?=O a/\ops[p.2]?=O b/\(∀x∈A5 b_ tm a,x∉fAt b_ tm b)/\(∀x∈A5 b_ tm a,x∉A5 b_ tm b)/\(∀x∈A5 b_ tm b,x∉fAt b_ tm a)/\LB b_ tm a/\LB b_ tm b
def KD(ops:To)(k:Nat)(g9 a:St):Prop:=∃o d x,ops[k]?=O o/\o.dst=O d/\g9.tmps[d]?=O x/\a.tmps[d]?=O x
def HM(C:p_)(B:Below)(b_:TC)(ops:To):TC->St->List (Tu)->St->Prop
 | [],g9,b,c=>b=[]/\c=g9
 |i::l,g9,b,c=>∃j9 a,ar C B b_ ops i g9 j9/\b=j9.heap::a/\HM C B b_ ops l j9 a c
def He(C:p_)(B:Below)(b_:TC)(ops:To)(g9:St)(c:List (Tu))(a:St)(l:List (Nat×Nat)):Prop:=
 ∀p∈l,∃b,ar C B b_ ops p.1 { a with heap:=atM g9.heap c p } b/\KD ops p.1 a b
def Xq(C:p_)(e:Dr):Prop:=∀b_ ops b,e b_ ops=O b->match HG b with
 |O l=>∀(n:Nat) (g9 a:St) (c:List (Tu)),HM C (sm C n).toBelow b_ ops (EW ops.size) g9 c a->He C (sm C n).toBelow b_ ops g9 c a l->eS C (sm C n).toBelow b_ ops g9 a
 |Q=>match IY b with
 |Q=>∀(n:Nat) (g9 a:St),bw C (sm C n).toBelow b_ ops (EW ops.size) g9 a->NR b_ ops a.tmps b->eS C (sm C n).toBelow b_ ops g9 a
 |O p=>∀(n:Nat) (g9 j9 d a:St),bw C (sm C n).toBelow b_ ops (List.range' 0 (W (ops.toList.take (p.2+1)))) g9 j9->ar C (sm C n).toBelow b_ ops p.1 j9 d->KD ops p.1 j9 d->
   bw C (sm C n).toBelow b_ ops (List.range' (p.2+1) (W (ops.toList.drop (p.2+1)))) j9 a->eS C (sm C n).toBelow b_ ops g9 a
def L3{C:p_}{b_:TC}{ops:To}:∀ {l:TC} {g9 d:St} {c:List (Tu)},HM C (uB C) b_ ops l g9 c d->∃n,∀m,n<=m->HM C (sm C m).toBelow b_ ops l g9 c d
 | [],_,_,_,h=>⟨0,λ_ _=>h⟩
 |_::_,_,_,_,⟨j9,b,h1,e,a⟩=>by let⟨n,h1⟩:=jT h1;let⟨m,a⟩:=L3 a;exact⟨max n m,λk f=>⟨j9,b,dg (kq a_).call (kq a_).yield h1,e,a k a_⟩⟩
def again_at{C:p_}{b_:TC}{ops:To}{g9:St}{a:List (Tu)}{b:St}:∀ {l:List (Nat×Nat)},He C (uB C) b_ ops g9 a b l->∃n,∀m,n<=m->He C (sm C m).toBelow b_ ops g9 a b l
 | [],_=>⟨0,λ_ _ p hp=>(by cases hp)⟩
 |q::l,h=>by
  let⟨e,h1,c⟩:=h q d_;let⟨n,h1⟩:=jT h1;let⟨m,d⟩:=again_at (l:=l) λp hp=>h p (G_ _ hp);refine⟨max n m,λk f p hp=>?_⟩;rcases Fy.1 hp with rfl|hp
  .exact⟨e,dg (kq a_).call (kq a_).yield h1,c⟩
  .exact d k a_ p hp
def Pj:∀ {x y:Ts},eqSp x y=J->x=y
 |none,Q,_=>rfl
 |some a,O b,h=>by rw[Fs h]
 |none,O _,h=>by cases h
 |some _,Q,h=>by cases h
def Pc:∀ {x y:Option Addr},M1 x y=J->x=y
 |none,Q,_=>rfl
 |some a,O b,h=>by
  simp only[M1]at h;split at h
  next h1 c=>cases a;cases b;simp only at h1 c h;rw[Fs h1,Fs c,Pj h]
  .cases h
 |none,O _,h=>by cases h
 |some _,Q,h=>by cases h
def r6:∀ {x y:Int},eqNt x y=J->x=y
 | .ofNat a,.ofNat b,h=>by rw[Fs h]
 | .negSucc a,.negSucc b,h=>by rw[Fs h]
 | .ofNat _,.negSucc _,h=>by cases h
 | .negSucc _,.ofNat _,h=>by cases h
def v5{x y:Int}{u:Unit}(h:eqIn x y=O u):x=y:=by
 unfold eqIn at h;split at h
 next e=>exact r6 e
 .cases h
def t'{x y:Bool}{u:Unit}(h:eqBo x y=O u):x=y:=by cases x<;>cases y<;>first|rfl|cases h
def Bc{x:Nat}:∀ {l:TC},KV x l=J↔x∈l
 | []=>by simp[KV]
 |y::l=>by
  unfold KV;cases h:Nat.beq x y with
  |true=>simp_all
  |false=>have:x≠y:=λe=>k_;simp only[Fy,this,false_or];exact Bc
def Ap:∀ {l m:TC},Eo l m=J->∀x∈l,x∉m
 | [],_,_,_,h=>by cases h
 |y::l,m,h,x,b=>by
  unfold Eo at h;cases a:KV y m with
  |true=>rw[a]at h;cases h
  |false=>
   rw[a]at h;rcases Fy.1 b with rfl|b
   .intro e;rw[Bc.2 e]at a;cases a
   .exact Ap h x b
def R1:∀ {l:List (FO×Nat×FO)} {u:Unit},Fh l=O u->∀p∈l,∀r∈E' p.1,r∉D9 p.2.1 p.2.2
 | [],_,_,_,h=>by cases h
 |q::l,u,h,p,hp=>by
  unfold Fh at h;split at h
  next a=>
   rcases Fy.1 hp with rfl|hp
   .exact Ap a
   .exact R1 h p hp
  .cases h
def ga{a:Env}{g9:St}(d:Rp a g9){x:TM}{us:Tn}(h:entV (n_ a x)=O us)(k r:Nat)(b:r∈D9 k (ka g9.tmps x)):∃u∈us,r∈D9 k u:=by
 have c:n_ a x≠.no:=λe=>by rw[e]at h;cases h
 have f:=(d.n_ rfl c).1;rw[f]at b;generalize n_ a x=s at *;have Q:D9 k s.val=[]->∃u∈us,r∈D9 k u:=λe=>by rw[e]at b;cases b
 cases s with
 |st y=>
  cases y with
  |leaf l=>
   cases l with
   |v u=>cases h;exact⟨u,d_,b⟩
   |_=>exact Q (by cases k with|zero=>rfl|succ k=>cases k<;>rfl)
  |agg g=>exact Q (by cases k with|zero=>rfl|succ k=>cases k<;>rfl)
 |no=>exact absurd rfl c
 |_=>exact Q (by cases k with|zero=>rfl|succ k=>cases k<;>rfl)
def ik{c:Env}{g9:St}(d:Rp c g9):∀ {l:List GJ} {us:Tn},ue c l=O us->∀(k r:Nat),r∈l.flatMap (λx=>D9 k (ka g9.tmps x))->∃u∈us,r∈D9 k u
 | [],_,_,_,_,h=>by cases h
 |x::l,us,h,k,r,hr=>by
  unfold ue at h;split at h
  next a b f g=>
   cases h;rw[kD,F_]at hr;rcases hr with hr|hr
   .obtain⟨u,h1,e⟩:=ga d f k r hr
    grind
   .obtain⟨u,h1,e⟩:=ik d g k r hr
    grind
  .cases h
def qz{c:Env}{g9:St}(g:Rp c g9){d:Nat}:∀ {l:List GJ} {us:Tn},ue c l=O us->Operand.tmp d∈l->∃v,g9.tmps[d]?=O v
 |x::l,us,h,f=>by
  unfold ue at h;split at h
  next a b i j=>
   rcases Fy.1 f with rfl|f
   .have k:n_ c (.tmp d)≠.no:=λe=>by rw[e]at i;cases i
    exact⟨_,(g.at (s:=c.tm.getD d .no) rfl k).1⟩
   .exact qz g j f
  .cases h
def vL{b_:TC}{o:FQ}{d:Nat}(a:o.dst=O d)(h:F2 b_ o=2):Operand.tmp d∈K1 b_ o:=by unfold K1;rw[h,a];simp
def qp{us vs:Tn}{k:Nat}{u v:TV}(a:u∈us)(b:v∈vs):(u,k,v)∈Lz us k vs:=by
 unfold Lz
 simp_all
def VZ{b_:TC}{t:Env}{g9:St}(c:Rp t g9){a b:FQ}{l:List (FO×Nat×FO)}(h:Nw b_ t a b=O l)(s:∀p∈l,∀r∈E' p.1,r∉D9 p.2.1 p.2.2) :
  (∀x∈A5 b_ g9.tmps a,x∉fAt b_ g9.tmps b)/\(∀x∈A5 b_ g9.tmps a,x∉A5 b_ g9.tmps b)/\(∀x∈A5 b_ g9.tmps b,x∉fAt b_ g9.tmps a)/\LB b_ g9.tmps a/\LB b_ g9.tmps b:=by
 unfold Nw at h;split at h
 next B C z A m n w y=>
  cases h;refine⟨λx e f=>?_,λx e f=>?_,λx e f=>?_,λd q o=>qz c m (vL q o),λd q o=>qz c n (vL q o)⟩
  .obtain⟨u,g,i⟩:=ik c m 0 x e;let⟨v,j,k⟩:=ik c y _ x f;exact s (u,_,v) (Nn _ (Nn _ (qp g j))) x i k
  .obtain⟨u,g,i⟩:=ik c m 0 x e;let⟨v,j,k⟩:=ik c n 0 x f;exact s (u,0,v) (Nn _ (t7 _ (qp g j))) x i k
  .obtain⟨u,g,i⟩:=ik c n 0 x e;let⟨v,j,k⟩:=ik c w _ x f;exact s (u,_,v) (t7 _ (qp g j)) x i k
 .cases h
def tv{b_:TC}{ops:To}{d:Env}{g9:St}(e:Rp d g9):∀ {c:List (Nat×Nat)} {l:List (FO×Nat×FO)},vA b_ ops d c=O l->(∀p∈l,∀r∈E' p.1,r∉D9 p.2.1 p.2.2)->NR b_ ops g9.tmps c
 | [],_,_,_,_,h=>by cases h
 |q::c,l,h,f,p,hp=>by
  unfold vA at h;split at h
  next a b r g i j=>
   obtain⟨x,k,rfl⟩:=FD.1 h;rcases Fy.1 hp with rfl|hp
   .exact⟨a,b,g,i,VZ e k λp hp=>f p (Nn _ hp)⟩
   .exact tv e j (λp hp=>f p (t7 _ hp)) p hp
  .cases h
def Pe{x y:TV}{u:Unit}(h:M3 x y=O u):x=y:=by
 unfold M3 at h;split at h
 .split at h
  .split at h
   .simp_all
   .cases h
  .cases h
 .cases h
def s5{x y:TV}{u:Unit}(h:YK x y=O u):x=y:=by
 unfold YK at h;split at h
 .split at h
  .split at h
   next e=>rw[Pc e]
   .cases h
  .cases h
 .split at h
  .split at h
   next a b e3=>rw[Pc a,Fs b,Fs e3]
   .cases h
  .cases h
 .split at h
  .split at h
   next e=>rw[Pj e]
   .cases h
  .cases h
 .exact Pe h
section
variable {R HT:Type} {A:Eh R HT} {C:p_} {Sg:Td} {T:Tv} {holds:R->Prop} {abs:HT->Tu}
def RY(hA:te A C Sg T holds abs){x y:SL}{K:R}(h:holds (oH A x y K)):x.val=y.val/\holds K:=by
 unfold oH at h;split at h
 .split at h
  .split at h
   next e=>let⟨u,a,b⟩:=hA.km _ _ h;rw[v5 a,dS e];exact⟨rfl,b⟩
   .exact absurd h hA.fail
  .exact absurd h hA.fail
 .split at h
  .obtain⟨u,a,b⟩:=hA.km _ _ h;rw[t' a];exact⟨rfl,b⟩
  .exact absurd h hA.fail
 .split at h
  .obtain⟨u,a,b⟩:=hA.km _ _ h;rw[s5 a];exact⟨rfl,b⟩
  .exact absurd h hA.fail
 .exact absurd h hA.fail
def BR(hA:te A C Sg T holds abs):∀ {x y:List SL} {K:R},holds (RZ A x y K)->x.map SL.val=y.map SL.val/\holds K
 | [],[],_,h=>⟨rfl,h⟩
 |a::l,b::m,K,h=>by
  let⟨h1,c⟩:=RY hA (show holds (oH A a b (RZ A l m K))from h);let⟨d,e⟩:=BR hA c
  simp_all
 | [],_::_,_,h=>absurd h hA.fail
 |_::_,[],_,h=>absurd h hA.fail
def samS_ok(hA:te A C Sg T holds abs){j a:Env}{g9 f:St}(m:Rp j g9)(k:Rp a f){d:Nat}{K:R}(h:holds (samS A (j.tm.getD d .no) (a.tm.getD d .no) K)):(∃x,g9.tmps[d]?=O x/\f.tmps[d]?=O x)/\holds K:=by
 have l:∀ {x y:S0},j.tm.getD d .no = .st x->a.tm.getD d .no = .st y->x.val=y.val->∃z,g9.tmps[d]?=O z/\f.tmps[d]?=O z:=λb c e=>
  ⟨_,(m.at b d_).1,(show f.tmps[d]?=_ from(k.at c d_).1.trans (by show O _=O _;rw[show SV.val (.st _)=S0.val _ from rfl,←e];rfl))⟩
 unfold samS at h;split at h
 next g=>
  split at h
  next i=>let⟨b,c⟩:=RY hA h;exact⟨l g i b,c⟩
  .exact absurd h hA.fail
 next g=>
  split at h
  next i=>let⟨b,c⟩:=BR hA h;exact⟨l g i (by simp only[S0.val,b]),c⟩
  .exact absurd h hA.fail
 .exact absurd h hA.fail
end
def Pb{a:Env}{g9:St}(b:Rp a g9){d:Nat}{x:TV}(h:fs (a.tm.getD d .no)=O x):g9.tmps[d]?=O x:=by
 unfold fs at h;split at h
 next y c=>cases h;exact(b.at c d_).1
 .cases h
def sepK_ok{R b:Type}{A:Eh R b}{C:p_}{Sg:Td}{T:Tv}{holds:R->Prop}{abs:b->Tu}(hA:te A C Sg T holds abs){b_:TC}{ops:To}{e:List (Nat×Nat)}{d:KN R b}{c:Env}{g9:St}(i:Rp c g9){h:b}(a:holds (sepK A b_ ops e d c h)) :
  NR b_ ops g9.tmps e/\holds (d c h):=by
 unfold sepK at a;split at a
 .exact⟨λp k=>(by cases k),a⟩
 .simp only at a;split at a
  next l j=>let⟨u,f,g⟩:=hA.km _ _ a;exact⟨tv i j (R1 f),g⟩
  .exact absurd a hA.fail
end
end Sx
section
variable [El] [E_] {R HT:Type} {A:Eh R HT} {X:Ex} {Sg:Td} {holds:R->Prop} {abs:HT->Tu}
variable {ev:Env} {g9:St} {h:HT} {o:FQ} {K:KN R HT}
def XD(C:p_)(b_:TC)(o:FQ)(g9 a:St):Prop:=
 (∃e,aA C b_ (ka g9.tmps) o=O e/\oz (uB C) e o.dst g9 a)∨(∃v,oP C g9.tmps o v/\a=g9.put o.dst v)
def xA(b_:TC)(o:FQ):Ts:=
 match o.op,o.dst with
 | .box ..,O d=>if b_.getD d 0=d+2 then O d else Q
 | .alloc _,O d=>if b_.getD d 0=d+2 then O d else Q
 |_,_=>Q
def ED(X:Ex)(holds:R->Prop)(abs:HT->Tu)(o:FQ)(g9:St)(K:KN R HT):Prop:=
 ∃b a h',XD X.C X.b_ o g9 b/\Rp a b/\abs h'=b.heap/\Fr o.dst.toList (xA X.b_ o).toList (lj X.b_ o).toList g9 b/\holds (K a h')
def zG(c:Rp ev g9){dst:Tq}{s:SV}(e:s.gd)(b:holds (pu dst s ev h K)):∃a,Rp a (g9.put dst s.val)/\holds (K a h):=by
 unfold pu at b;cases dst with
 |none=>exact⟨ev,c,b⟩
 |some d=>simp only[fk]at b;exact⟨_,c.put d e,b⟩
def dP(e:Rp ev g9)(H':Tu)(f:abs h=H'){s:SV}(i:s.gd)
  (b:XD X.C X.b_ o g9 (({ g9 with heap:=H' }:St).put o.dst s.val)) (g:holds (pu o.dst s ev h K)):ED X holds abs o g9 K:=by
 let⟨a,c,d⟩:=zG (e.heap H') i g;refine⟨_,a,h,b,c,?_,?_,d⟩
 .rw[f];cases o.dst<;>rfl
 .have:=Fr.put (g9:=({ g9 with heap:=H' }:St)) o.dst s.val (xA X.b_ o).toList (lj X.b_ o).toList;exact⟨this.Mi,this.Gk,this.tm,this.tp,this.row,this.VT⟩
def aK(a:Rp ev g9)(b:abs h=g9.heap){s:SV}(e:s.gd)(c:aA X.C X.b_ (ka g9.tmps) o=O (.val s.val))(d:holds (pu o.dst s ev h K)) :
  ED X holds abs o g9 K:=
 dP a g9.heap b e (.inl ⟨_,c,_,rfl,rfl⟩) d
def cH(a:Rp ev g9)(b:abs h=g9.heap){s:SV}(e:s.gd)(c:oP X.C g9.tmps o s.val)(d:holds (pu o.dst s ev h K)) :
  ED X holds abs o g9 K:=
 dP a g9.heap b e (.inr ⟨_,c,rfl⟩) d
def lP(a:Rp ev g9)(b:abs h=g9.heap){s:SV}(g:s.gd){f:Tu->Tk}(c:aA X.C X.b_ (ka g9.tmps) o=O (.Hj f))(d:f g9.heap=O s.val)
  (e:holds (pu o.dst s ev h K)):ED X holds abs o g9 K:=
 dP a g9.heap b g (.inl ⟨_,c,(g9,s.val),by simp[aZ,d],rfl⟩) e
def dE(a:Rp ev g9){H':Tu}(b:abs h=H'){s:SV}(g:s.gd){f:Tu->Option (List wa×FO)}(c:aA X.C X.b_ (ka g9.tmps) o=O (.Iy f))
  (d:f g9.heap=O (H',s.val)) (e:holds (pu o.dst s ev h K)):ED X holds abs o g9 K:=
 dP a H' b g (.inl ⟨_,c,({ g9 with heap:=H' },s.val),by simp[aZ,d],rfl⟩) e
def Rg(a:Rp ev g9)(d:abs h=g9.heap){x:TM}(ho:o.op = .move x∨o.op = .assign x){y:SV}(g:n_ ev x=y)(f:y≠.no)(e:holds (pu o.dst y ev h K)):ED X holds abs o g9 K:=by let⟨b,c⟩:=a.n_ g f;refine aK a d c ?_ e;rcases ho with ho|ho<;>simp only[aA,ho,b]
def x1(hA:te A X.C Sg X.T holds abs)(d:Rp ev g9)(m:abs h=g9.heap){c a b:TM}(n:o.op = .pick c a b)
  (e:holds (match n_ ev c,n_ ev a,n_ ev b with
  | .st (.leaf (.l J)),.st y,_=>pu o.dst (.st y) ev h K
  | .st (.leaf (.l U)),_,.st y=>pu o.dst (.st y) ev h K
  | .st (.leaf (.b t)),.st y,.st z=>A.cond t (pu o.dst (.st y) ev h K) (pu o.dst (.st z) ev h K)
  |_,_,_=>A.fail)):ED X holds abs o g9 K:=by
 split at e
 next y g i=>let⟨f,_⟩:=d.n_ g d_;let⟨k,j⟩:=d.n_ i d_;refine aK d m j ?_ e;simp only[aA,n,f,SV.val,S0.val,SL.val,if_true,k]
 next y g i=>let⟨f,_⟩:=d.n_ g d_;let⟨k,j⟩:=d.n_ i d_;refine aK d m j ?_ e;simp only[aA,n,f,SV.val,S0.val,SL.val,k,FG,if_false]
 next t y z g i e3=>
  let⟨f,_⟩:=d.n_ g d_;let⟨k,j⟩:=d.n_ i d_;let⟨r,q⟩:=d.n_ e3 d_;rcases hA.cond _ _ _ e with⟨p,e⟩|⟨p,e⟩
  .refine aK d m j ?_ e;simp only[aA,n,f,SV.val,S0.val,SL.val,p,if_true,k]
  .refine aK d m q ?_ e;simp only[aA,n,f,SV.val,S0.val,SL.val,p,r,FG,if_false]
 .exact absurd e hA.fail
def Rj(hA:te A X.C Sg X.T holds abs)(g:Rp ev g9)(F:abs h=g9.heap){t:TS}{x:S0}(u:x.g_)(G:aA X.C X.b_ (ka g9.tmps) o=cM X.C X.b_ o.dst t x.val)
  (hb:(∃y,o.op = .box t y)∨o.op = .alloc t) (b:holds (eM A X o.dst t x ev h K)):ED X holds abs o g9 K:=by
 unfold eM at b;split at b
 .exact absurd b hA.fail
 next d j=>
  have gw:=S0.Fa u;have Y:=S0.Ir u;have V:=S0.F3 u;split at b
  next k=>
   have k:X.b_.getD d 0=d+2:=by simpa using k
   split at b
   next B=>
    rw[fk,fk]at b;have q:ev.lc[d]?=O .nil:=by grind
    have p:g9.loc[d]?=O Q:=g.row d _ q;have a:aA X.C X.b_ (ka g9.tmps) o=O (.H6 d (x.cells.map SL.val)):=by
     rw[G,j];unfold cM
     simp_all
    let c:St:={ g9 with loc:=g9.loc.set d (O (x.cells.map SL.val)) }
    have z:Rp ⟨ev.tm,ev.lc.set d (.row x.cells)⟩ c:=by
     refine⟨g.len,g.val,by simp[c,g.Gk],λi r m=>?_⟩;simp only[Kk]at m;split at m
     next I=>
      subst I;split at m
      next N=>cases m;exact⟨jw,u⟩
      .cases m
     next I=>have:=g.row i r m;have D:c.loc[i]?=g9.loc[i]?:=jw;cases r<;>first|trivial|(simp only[LR.ok]at this ⊢;rw[D];exact this)
    have n:xA X.b_ o=O d:=by rcases hb with⟨y,hb⟩|hb<;>(simp only[xA,hb,j];rw[rv k])
    have f:lj X.b_ o=O d:=by rcases hb with⟨y,hb⟩|hb<;>(simp only[lj,hb,j];rw[rv k])
    refine⟨c.put o.dst (EQ (O ⟨d,0,O 0⟩)),_,h,.inl ⟨_,a,(c,EQ (O ⟨d,0,O 0⟩)),by simp[aZ,p,c],rfl⟩,?_,?_,?_,b⟩
    .rw[j];exact z.put d (s:=.Kb d 0) trivial
    .rw[F];cases o.dst<;>rfl
    .have M:=Fr.put (g9:=c) o.dst (EQ (O ⟨d,0,O 0⟩)) [d] [d];have L:Fr o.dst.toList [d] [d] g9 c:=by
      refine⟨rfl,by simp[c],λ_ _ h _ _=>h,λ_ _ _ h _ _=>h,λs y Z S=>?_,λs vs Z S=>?_⟩
      .grind
      grind
     rw[n,f];exact L.trans M
   .exact absurd b hA.fail
  next k=>
   have k:¬X.b_.getD d 0=d+2:=λe=>k_;let⟨h',E,w⟩:=hA.new _ _ _ b;rw[F]at E w;have a:aA X.C X.b_ (ka g9.tmps) o=O (.Iy λH=>O (H++[.cells x.val.cells.toList (nV X.C.P t) J],EQ (O ⟨W H,0,Q⟩))):=by
    rw[G,j];unfold cM
    simp_all
   rw[←j]at w;refine dE (s:=.st (.leaf (.v (EQ (O ⟨W g9.heap,0,Q⟩))))) g E (λl B=>?_) a ?_ w
   .simp only[S0.cells,HN]at B;subst B;rfl
   .simp only[gw];rfl
def Aa(new:Tn):∀(off k:Nat) (cs:Tn),off+k+W new<=W cs->
  ((new.zipIdx k).foldl (λ(c:Tl) (p:FO×Nat)=>c.setIfInBounds (off+p.2) p.1) cs.toArray).toList=cs.take (off+k)++new++cs.drop (off+k+W new):=by
 induction new with
 |nil=>intro off k cs h;simp
 |cons a l d=>
  intro off k cs h;simp only[j1]at h;simp only[List.zipIdx_cons,y6];have b:(cs.toArray.setIfInBounds (off+k) a)=(cs.set (off+k) a).toArray:=d_;rw[b,d off (k+1) (cs.set (off+k) a) z_];rw[List.take_set,List.drop_set];have e:(cs.take (off+(k+1))).set (off+k) a=cs.take (off+k)++[a]:=by rw[show off+(k+1)=(off+k)+1 from by omega];rw[List.take_succ_eq_append_getElem a_,qdI];simp[Xk (show off+k<=W cs by omega)]
  grind
def uq(pl:Nat->Option (Nat×Nat)):∀(b:List (Nat×S0)) (cs r:List SL),(∀p∈b,p.2.g_)->uo pl cs b=O r->
  Instr.fill pl ⟨cs.map SL.val⟩ (b.map λp=>(p.1,p.2.val))=O ⟨r.map SL.val⟩
 | [],cs,r,_,a=>by cases a;rfl
 |(i,x)::b,cs,r,g,a=>by
  simp only[uo]at a;split at a
  next off n f=>
   split at a
   next e=>
    split at a
    next j c=>
     have e:W x.cells=n:=by simpa using e
     have s:x.g_:=g (i,x) d_;have k:=S0.Fa s;unfold jE at c;split at c
     next l=>
      cases c;have t:=uq pl b _ r (λp m=>g p (by simp[m])) a;simp only[Fx,Instr.fill,f,k];have q:(⟨x.cells.map SL.val⟩ : Array FO).size=n:=by simp[e]
      rw[ts (by simp_all)]
      rw[←t]
      congr 1
      have d:=Aa (x.cells.map SL.val) off 0 (cs.map SL.val) z_;apply e1.1
      simp_all
     .cases c
    .cases a
   .cases a
  .cases a
def sz(pl:Nat->Option (Nat×Nat)):∀(e:List (Nat×S0)) (cs r:List SL),(∀c∈cs,c.g_)->(∀p∈e,p.2.g_)->uo pl cs e=O r->∀c∈r,c.g_
 | [],cs,r,g,_,a=>by cases a;exact g
 |(i,x)::e,cs,r,g,j,a=>by
  simp only[uo]at a;split at a
  .split at a
   .split at a
    next f d=>
     refine sz pl e f r (λc b=>?_) (λp k=>j p (by simp[k])) a;unfold jE at d;split at d
     .cases d;simp only[F_]at b;rcases b with(b|b)|b
      .grind
      .exact j (i,x) d_ c b
      grind
     .cases d
    .cases a
   .cases a
  .cases a
def tH{a:List (Nat×GJ)}{xs:List S0}(b:(a.map (·.2)).map (ka g9.tmps)=ao xs) :
  a.map (λp=>(p.1,ka g9.tmps p.2))=((a.map (·.1)).zip xs).map λp=>(p.1,p.2.val):=by
 induction a generalizing xs with
 |nil=>simp
 |cons p a c=>
  cases xs with
  |nil=>simp[ao]at b
  |cons x xs=>simp only[Fx,ao,Li]at b;simp only[Fx,qdg,b.1];rw[c (xs:=xs) b.2]
def vN{is:TC}{xs:List S0}(a:∀x∈xs,x.g_):∀p∈is.zip xs,p.2.g_:=λ_ b=>a _ (List.of_mem_zip b).2
def Ck{P:TI}{t:TS}{x:S0}(a:zZ P t=O x):∃z,fq P t=O z/\x.val=z/\x.g_:=by
 unfold zZ at a;let⟨z,c,b⟩:=GY.1 a;let⟨d,e,_⟩:=vx b
 simp_all
def X'(hA:te A X.C Sg X.T holds abs)(n:Rp ev g9)(v:abs h=g9.heap){t:TS}{d:Array (Nat×GJ)}(y:o.op = .build t d)
  (g:holds (match zZ X.C.P t,pW X.C.P t,EM ev (d.toList.map (·.2))with
  |some z,O pl,O xs=>match uo pl z.cells ((d.toList.map (·.1)).zip xs)with
   |some cs=>pu o.dst (.st (.agg cs)) ev h K
   |none=>A.fail
  |_,_,_=>A.fail)):ED X holds abs o g9 K:=by
 split at g
 next z pl xs r u e3=>
  split at g
  next cs e4=>
   let⟨F,k,l,i⟩:=Ck r;let⟨B,j⟩:=n.EM e3;have m:=S0.Fa i;have a:=uq pl _ _ _ (vN (is:=d.toList.map (·.1)) j) e4;have b:=sz pl _ _ _ (λc w=>i c w) (vN (is:=d.toList.map (·.1)) j) e4;refine aK n v (s:=.st (.agg cs)) b ?_ g;have f:(d.toList.all λp=>!aL (ka g9.tmps p.2))=J:=by
    simp only[D7,qb4];intro p E;have q:ka g9.tmps p.2∈ao xs:=by grind
    simp only[ao,Ed]at q;let⟨x,D,e⟩:=q;rw[←e];exact S0.F3 (j x D)
   simp only[aA,y,f,if_true,vV,k,u];rw[tH B,←l,m,a];rfl
  .exact absurd g hA.fail
 .exact absurd g hA.fail
end
def SL.ZA{a b:SL}{k:LK}(d:a.is k=J)(e:b.is k=J)(c:a.lf=b.lf):a.val=b.val/\(a.g_->b.g_):=by
 cases a<;>cases b<;>cases k<;>simp only[SL.lf,Lf.i.injEq,Lf.b.injEq,Lf.v.injEq,reduceCtorEq,SL.is,FG]at c d e ⊢<;>try (subst c;exact⟨rfl,id⟩)
 subst c;exact⟨by simp only[SL.val];rw[dS d,dS e],id⟩
def bU:∀ {cs:List SL} {ks:TK},bf cs ks=J->W cs=W ks
 | [],[],_=>rfl
 |c::cs,k::ks,h=>by simp only[bf,y_]at h;simp[bU h.2]
 | [],_::_,h=>by cases h
 |_::_,[],h=>by cases h
def iT:∀ {a b:List SL} {ks:TK},bf a ks=J->bf b ks=J->a.map SL.lf=b.map SL.lf->a.map SL.val=b.map SL.val/\((∀c∈a,c.g_)->∀c∈b,c.g_)
 | [],[],[],_,_,_=>⟨rfl,λ_ _ h=>by cases h⟩
 |a::g,b::i,k::ks,d,e,f=>by
  simp only[bf,y_]at d e;simp only[Fx,Li]at f;let⟨h1,j⟩:=SL.ZA d.1 e.1 f.1;let⟨l,m⟩:=iT d.2 e.2 f.2
  simp_all
 | [],_::_,[],_,e,_=>by cases e
 | [],_,_::_,d,_,_=>by cases d
 |_::_,_,[],d,_,_=>by cases d
 |_::_,[],_::_,_,e,_=>by cases e
def S0.Zj{a b:S0}{h:SK}(c:a.is h=J)(d:b.is h=J)(g:a.cells.map SL.lf=b.cells.map SL.lf):a.val=b.val/\(a.g_->b.g_):=by
 cases h with
 |leaf k=>
  cases a with
  |agg _=>cases c
  |leaf a=>
   cases b with
   |agg _=>cases d
   |leaf b=>simp only[S0.cells,Fx,L9,Li,and_true]at g;let⟨e,f⟩:=SL.ZA c d g;refine⟨e,λj l i=>?_⟩;simp only[S0.cells,HN]at i;subst i;exact f (j a (by simp[S0.cells]))
 |agg m=>
  cases a with
  |leaf _=>cases c
  |agg a=>
   cases b with
   |leaf _=>cases d
   |agg b=>let⟨e,f⟩:=iT c d g;exact⟨by simp only[S0.val,e],f⟩
def S0.Zi{a:S0}{e:SK}(c:a.is e=J):∃n,W a.cells=n/\∀b:S0,b.is e=J->W b.cells=n:=by
 refine⟨_,rfl,λb d=>?_⟩;cases e with
 |leaf k=>
  cases a with
  |agg _=>cases c
  |leaf a=>cases b with
   |agg _=>cases d
   |leaf b=>rfl
 |agg f=>
  cases a with
  |leaf _=>cases c
  |agg a=>cases b with
   |leaf _=>cases d
   |agg b=>exact(bU d).trans (bU c).symm
def db:∀ {a b:List S0} {sks:TP},cJ a sks=J->cJ b sks=J->cT a=cT b->ao a=ao b/\((∀c∈a,c.g_)->∀c∈b,c.g_)
 | [],[],[],_,_,_=>⟨rfl,λ_ _ h=>by cases h⟩
 |a::o,b::q,k::ks,d,e,m=>by
  simp only[cJ,y_]at d e;let⟨n,j,f⟩:=S0.Zi d.1;have f:=f b e.1;simp only[cT]at m;let⟨g,i⟩:=qdD m (by simp[j,f]);let⟨p,r⟩:=S0.Zj d.1 e.1 g;let⟨l,s⟩:=db d.2 e.2 i;refine⟨by simp only[ao,Fx,p]at l ⊢;rw[l],λu c t=>?_⟩
  grind
 | [],_::_,[],_,e,_=>by cases e
 | [],_,_::_,d,_,_=>by cases d
 |_::_,_,[],d,_,_=>by cases d
 |_::_,[],_::_,_,e,_=>by cases e
section
variable [El] [E_] {R HT:Type} {A:Eh R HT} {X:Ex} {Sg:Td} {holds:R->Prop} {abs:HT->Tu}
variable {ev:Env} {g9:St} {h:HT} {o:FQ} {K:KN R HT}
def tG{C:p_}{T:Tv}(hA:te A C Sg T holds abs):∀ {ks:TK} {ls:TG} {K:List SL->TG->R},holds (Xn A ks ls K)->
  ∃cs r,ls=cs.map SL.lf++r/\bf cs ks=J/\holds (K cs r)
 | [],ls,K,c=>⟨[],ls,rfl,rfl,c⟩
 | .i k::ks,ls,K,c=>by obtain⟨n,r,rfl,a⟩:=hA.qs _ _ c;obtain⟨cs,f,rfl,d,e⟩:=tG hA (ks:=ks) a;exact⟨.i k n::cs,f,rfl,by simp[bf,SL.is,fJ,d],e⟩
 | .b::ks,ls,K,c=>by obtain⟨n,r,rfl,a⟩:=hA.GM _ _ c;obtain⟨cs,f,rfl,d,e⟩:=tG hA (ks:=ks) a;exact⟨.b n::cs,f,rfl,by simp[bf,SL.is,d],e⟩
 | .v::ks,ls,K,c=>by obtain⟨n,r,rfl,a⟩:=hA.D3 _ _ c;obtain⟨cs,f,rfl,d,e⟩:=tG hA (ks:=ks) a;exact⟨.v n::cs,f,rfl,by simp[bf,SL.is,d],e⟩
def NI{C:p_}{T:Tv}(hA:te A C Sg T holds abs){d:SK}{ls:TG}{K:S0->TG->R}(c:holds (unS A d ls K)) :
  ∃x r,ls=x.cells.map SL.lf++r/\x.is d=J/\holds (K x r):=by
 cases d with
 |leaf k=>
  cases k with
  |i k=>obtain⟨n,r,rfl,a⟩:=hA.qs _ _ c;exact⟨.leaf (.i k n),r,rfl,by simp[S0.is,SL.is,fJ],a⟩
  |b=>obtain⟨n,r,rfl,a⟩:=hA.GM _ _ c;exact⟨.leaf (.b n),r,rfl,rfl,a⟩
  |v=>obtain⟨n,r,rfl,a⟩:=hA.D3 _ _ c;exact⟨.leaf (.v n),r,rfl,rfl,a⟩
 |agg l=>let⟨e,r,f,g,j⟩:=tG hA c;exact⟨.agg e,r,f,g,j⟩
def rI{C:p_}{T:Tv}(hA:te A C Sg T holds abs):∀ {sks:TP} {ls:TG} {K:List S0->TG->R},holds (Ml A sks ls K)->
  ∃xs r,ls=cT xs++r/\cJ xs sks=J/\holds (K xs r)
 | [],ls,K,a=>⟨[],ls,rfl,rfl,a⟩
 |i::sks,ls,K,a=>by have b:holds (unS A i ls λx r=>Ml A sks r λxs r=>K (x::xs) r):=a;obtain⟨x,r,rfl,d,c⟩:=NI hA b;obtain⟨xs,g,rfl,e,f⟩:=rI hA (sks:=sks) c;exact⟨x::xs,g,by simp[cT],by simp[cJ,d,e],f⟩
def Ch{C:p_}{T:Tv}(hA:te A C Sg T holds abs):∀ {ks:TK} {ls:Tn} {K:List SL->Tn->R},holds (ucL A ks ls K)->
  ∃cs r,ls=cs.map SL.val++r/\bf cs ks=J/\(∀c∈cs,c.g_)/\holds (K cs r)
 | [],ls,K,d=>⟨[],ls,rfl,rfl,d_,d⟩
 | .i k::ks,ls,K,d=>by obtain⟨n,r,rfl,a⟩:=hA.ua _ _ _ d;obtain⟨cs,j,rfl,e,f,g⟩:=Ch hA (ks:=ks) a;exact⟨.i k n::cs,j,rfl,by simp[bf,SL.is,fJ,e],w9.2 ⟨trivial,f⟩,g⟩
 | .b::ks,ls,K,d=>by obtain⟨n,r,rfl,a⟩:=hA.F5 _ _ d;obtain⟨cs,j,rfl,e,f,g⟩:=Ch hA (ks:=ks) a;exact⟨.b n::cs,j,rfl,by simp[bf,SL.is,e],w9.2 ⟨trivial,f⟩,g⟩
 | .v::ks,ls,K,d=>by obtain⟨n,r,rfl,a⟩:=hA.C7 _ _ d;let⟨m,l⟩:=hA.qa _ _ a;obtain⟨cs,j,rfl,e,f,g⟩:=Ch hA (ks:=ks) l;exact⟨.v n::cs,j,rfl,by simp[bf,SL.is,e],w9.2 ⟨m,f⟩,g⟩
def tF{C:p_}{T:Tv}(hA:te A C Sg T holds abs){f:SK}{ls:Tn}{K:S0->Tn->R}(d:holds (NH A f ls K)) :
  ∃x r,ls=x.cells.map SL.val++r/\x.is f=J/\x.g_/\holds (K x r):=by
 cases f with
 |leaf k=>
  cases k with
  |i k=>obtain⟨n,r,rfl,a⟩:=hA.ua _ _ _ d;exact⟨.leaf (.i k n),r,rfl,by simp[S0.is,SL.is,fJ],λl c=>by simp only[S0.cells,HN]at c;subst c;trivial,a⟩
  |b=>obtain⟨n,r,rfl,a⟩:=hA.F5 _ _ d;exact⟨.leaf (.b n),r,rfl,rfl,λl c=>by simp only[S0.cells,HN]at c;subst c;trivial,a⟩
  |v=>obtain⟨n,r,rfl,a⟩:=hA.C7 _ _ d;let⟨s,e⟩:=hA.qa _ _ a;exact⟨.leaf (.v n),r,rfl,rfl,λl c=>by simp only[S0.cells,HN]at c;subst c;exact s,e⟩
 |agg t=>let⟨g,r,j,m,p,q⟩:=Ch hA d;exact⟨.agg g,r,j,m,p,q⟩
def Sr{C:p_}{T:Tv}(hA:te A C Sg T holds abs):∀ {sks:TP} {ls:Tn} {K:List S0->Tn->R},holds (ucSs A sks ls K)->
  ∃xs r,ls=py xs++r/\cJ xs sks=J/\(∀x∈xs,x.g_)/\holds (K xs r)
 | [],ls,K,a=>⟨[],ls,rfl,rfl,d_,a⟩
 |j::sks,ls,K,a=>by
  have b:holds (NH A j ls λx r=>ucSs A sks r λxs r=>K (x::xs) r):=a;obtain⟨x,r,rfl,e,m,d⟩:=tF hA b;obtain⟨xs,i,rfl,f,k,g⟩:=Sr hA (sks:=sks) d;refine⟨x::xs,i,by simp[py],by simp[cJ,e,f],λc l=>?_,g⟩
  grind
def eC(a:Bool)(cs:Tn)(v:FO):Prop:=(a=J/\v=EU ⟨cs⟩)∨(a=U/\cs=[v])
def sS{x:S0}{a:SK}(c:x.is a=J){v:TV}(b:eC (lz a) (x.cells.map SL.val) v):x.val=v:=by
 cases a with
 |leaf k=>
  cases x with
  |agg _=>cases c
  |leaf l=>
   rcases b with⟨h,_⟩|⟨_,h⟩
   .cases h
   .simp only[S0.cells,Fx,L9,Li,and_true]at h;exact h
 |agg e=>
  cases x with
  |leaf _=>cases c
  |agg d=>
   rcases b with⟨_,h⟩|⟨h,_⟩
   .exact h.symm
   .cases h
def YF{a b:Bool}(h:YE a b=J):a=b:=by cases a<;>cases b<;>first|rfl|cases h
def qX{a:Bool}{cs:List SL}{x:S0}(b:Kd a cs=O x):x.cells=cs/\eC a (cs.map SL.val) x.val:=by
 unfold Kd at b;split at b
 .cases b;exact⟨rfl,.inl ⟨rfl,rfl⟩⟩
 .cases b;exact⟨rfl,.inr ⟨rfl,rfl⟩⟩
 .cases b
def dp{P:TI}{t:TS}{c:Bool}(a:DV P t=O c){vs cs:Tn}{off:Nat}(b:cut vs off (if c then P.cellsOf t else 1)=O cs) :
  ∃v,dL P t vs off=O v/\eC c cs v:=by
 unfold DV at a;unfold dL;split at a
 next i e=>cases a;rw[e];simp only[if_true]at b;exact⟨EU ⟨cs⟩,by simp[b],.inl ⟨rfl,rfl⟩⟩
 next i e=>cases a;rw[e];simp only[if_true]at b;exact⟨EU ⟨cs⟩,by simp[b],.inl ⟨rfl,rfl⟩⟩
 next d k l e=>
  cases a;rw[e];simp only[FG,if_false]at b;unfold cut at b;split at b
  next j=>
   cases b;have f:off<W vs:=a_;have g:(vs.drop off).take 1=[vs[off]]:=by rw[RK f];rfl
   refine⟨vs[off],?_,.inr ⟨rfl,g⟩⟩;simp[f]
  .cases b
 .cases a
def nX(hA:te A X.C Sg X.T holds abs){dst:Tq}{d:SK}{cs:Tn}{v:TV}(j:eC (lz d) cs v)(g:holds (K_ A dst d cs ev h K)) :
  ∃x:S0,x.val=v/\x.g_/\holds (pu dst (.st x) ev h K):=by
 let⟨x,r,c,e,f,a⟩:=tF hA g;let⟨i,b⟩:=hA.wb _ _ a;rw[i,Kv]at c;subst c;exact⟨x,sS e j,f,b⟩
def qt{cs ds:List SL}{off n:Nat}(a:F0 cs off n=O ds):cut (cs.map SL.val) off n=O (ds.map SL.val)/\(∀d∈ds,d∈cs):=by
 unfold F0 at a;unfold cut;split at a
 next b=>cases a;rw[rv (by simpa using b)];exact⟨k_,λd c=>qbN (Xj c)⟩
 .cases a
def mI(d:Rp ev g9){s:Nat}{cs:List SL}(a:vu ev s=O cs):g9.loc[s]?=O (O (cs.map SL.val))/\(∀c∈cs,c.g_)/\ev.lc[s]?=O (.row cs):=by
 unfold vu at a;split at a
 next f e=>
  cases a;rw[List.getD_eq_getElem?_getD]at e;cases b:ev.lc[s]? with
  |none=>rw[b]at e;cases e
  |some r=>rw[b]at e;simp only[jn]at e;subst e;have:=d.row s _ b;exact⟨this.1,this.2,rfl⟩
 .cases a
def BF{cs:List SL}{a:Nat}{ix:List (Int×Nat)}{n:Nat}{ls:TG}(b:jz (cs.map SL.lf) a ix n=O ls) :
  ∃ds,F0 cs (E1 a ix) n=O ds/\ls=ds.map SL.lf:=by
 rw[kx]at b;split at b
 next c=>cases b;refine⟨_,by unfold F0;rw[rv (by simpa using c)],k_⟩
 .cases b
def Rk:∀(ix:List (Int×Nat)) (a:Nat),a<=E1 a ix
 | [],a=>B7 _
 |p::l,a=>VP (Nat.le_add_right _ _) (Rk l _)
def pf{cs ds:List SL}{ks:TK}:∀ {ix:List (Int×Nat)} {a:Nat},vT cs ks a ix=J->F0 cs (E1 a ix) (W ks)=O ds->bf ds ks=J
 | [],a,h1,b=>by
  simp only[vT,E1]at h1 b
  simp_all
 |p::l,a,h1,b=>by
  simp only[vT,y_,D7,qb4,E1]at h1 b;let⟨h0,h1⟩:=h1;refine pf (ix:=l) (h1 p.1.toNat ?_) b;have d:p.2≠0:=λe=>by rw[e]at h0;cases h0
  have c:E1 (a+p.1.toNat*p.2) l<=W cs:=by
   unfold F0 at b
   grind
  have:=Rk l (a+p.1.toNat*p.2);have f:p.1.toNat<=p.1.toNat*p.2:=Nat.le_mul_of_pos_right _ (Nat.pos_of_ne_zero d)
  grind
def dT{x:S0}{b:SK}(a:x.is b=J):bf x.cells (La b)=J:=by
 cases b with
 |leaf k=>
  cases x with
  |agg _=>cases a
  |leaf l=>simp[S0.cells,La,bf];exact a
 |agg d=>
  cases x with
  |leaf _=>cases a
  |agg c=>exact a
def R2(hA:te A X.C Sg X.T holds abs){dst:Tq}{e:SK}{ds:List SL}{v:TV}(l:bf ds (La e)=J)(m:∀c∈ds,c.g_)(i:eC (lz e) (ds.map SL.val) v)
  (n:holds (Md A dst e (ds.map SL.lf) ev h K)):∃x:S0,x.val=v/\x.g_/\holds (pu dst (.st x) ev h K):=by
 let⟨x,r,f,g,a⟩:=NI hA n;let⟨d,b⟩:=hA.C3 _ _ a;rw[d,Kv]at f;let⟨j,k⟩:=iT l (dT g) f;rw[j]at i;exact⟨x,sS g i,k m,b⟩
def is_lk(c:SL):c.is c.lk=J:=by cases c<;>first|rfl|exact fJ _
def pg:∀cs:List SL,bf cs (cs.map SL.lk)=J
 | []=>rfl
 |c::cs=>by simp[bf,is_lk,pg cs]
def iS:∀ {a b:List SL} {d c:TK},bf a d=J->bf b c=J->bf (a++b) (d++c)=J
 | [],b,[],c,_,h=>h
 |a::e,b,k::d,c,h1,f=>by simp only[bf,y_,Fe]at h1 ⊢;exact⟨h1.1,iS h1.2 f⟩
 | [],_,_::_,_,h,_=>by cases h
 |_::_,_,[],_,h,_=>by cases h
end
section
variable [El] [E_] {R HT:Type} {A:Eh R HT} {X:Ex} {Sg:Td} {holds:R->Prop} {abs:HT->Tu}
variable {ev:Env} {g9:St} {h:HT} {o:FQ} {K:KN R HT}
def vX(H:Tu)(id:Nat):iZ (λi=>H[i]?) id=gw H id:=rfl
def ldP_ok{n:Nat}{p:TV}{g:cU}{cs:Tn}(h:ldP n p g=O cs):∃id off vs,p=EQ (O ⟨id,off,Q⟩)/\iZ g id=O vs/\cut vs off n=O cs:=by
 unfold ldP at h;split at h
 next a=>
  split at h
  next e=>
   let⟨vs,c,d⟩:=GY.1 h;let⟨b,f,i⟩:=a
   grind
  .cases h
 .cases h
def lgP_ok{C:p_}{n:Nat}{p:TV}{g:cU}{cs:Tn}(h:lgP C n p g=O cs):(∃id off vs,p=EQ (O ⟨id,off,Q⟩)/\iZ g id=O vs/\cut vs off n=O cs)∨∃id off vs,p=EQ (O ⟨id,off,O 1⟩)/\C.G id=O vs/\cut vs off n=O cs:=by
 unfold lgP at h;split at h
 next a=>
  split at h
  next c=>
   let⟨vs,d,e⟩:=GY.1 h;let⟨b,f,j⟩:=a
   grind
  next k c=>
   split at h
   next i=>
    let⟨vs,d,e⟩:=GY.1 h;let⟨b,f,j⟩:=a;simp only at c;subst c;rw[Fs i]
    grind
   .cases h
 .cases h
def t2(hA:te A X.C Sg X.T holds abs)(k:Rp ev g9)(I:abs h=g9.heap){t:TS}{a:TM}{sk:SK}{F:Bool}(ho:o.op = .load t a)(m:DV X.C.P t=O F)
  (w:F=lz sk) (d:holds (ZG A X o.dst sk F (if F then X.C.P.cellsOf t else 1) a ev h K)):ED X holds abs o g9 K:=by
 have e:aA X.C X.b_ (ka g9.tmps) o=ey X.C X.b_ t a (ka g9.tmps a):=by simp only[aA,ho]
 unfold ZG at d;split at d
 next p b E=>
  let⟨y,_⟩:=k.n_ E d_;let⟨S,h2,u⟩:=hA.oo _ _ _ d;simp only[Pk.run]at h2;rw[I]at h2;rcases lgP_ok h2 with⟨id,off,vs,rfl,h3,h4⟩|⟨id,off,vs,rfl,h3,h4⟩
  .rw[vX]at h3;let⟨v,r,i⟩:=dp m h4;rw[w]at i;obtain⟨x,rfl,D,n⟩:=nX hA i u;refine lP k I (s:=.st x) D (f:=λH=>(gw H id).bind λvs=>dL X.C.P t vs off) ?_ ?_ n
   .rw[e,ey,b,y];rfl
   .simp only[h3,Fj,r];rfl
  .obtain⟨v,r,i⟩:=dp m h4;rw[w]at i;obtain⟨x,rfl,D,n⟩:=nX hA i u;refine lP k I (s:=.st x) D (f:=λ_=>(X.C.G id).bind λvs=>dL X.C.P t vs off) ?_ ?_ n
   .rw[e,ey,b,y];rfl
   .simp only[h3,Fj,r];rfl
 next g off b E=>
  let⟨y,_⟩:=k.n_ E d_;split at d
  next vs hg=>
   split at d
   next S q=>
    let⟨v,r,i⟩:=dp m q;have j:aA X.C X.b_ (ka g9.tmps) o=O (.val v):=by rw[e,ey,b,y];simp only[SV.val,ip,if_true,Fj,hg,r,G9]
    split at d
    next x ap hm=>
     let⟨ag,M⟩:=qX hm;have an:(S.map Me).map SL.val=S:=by rw[y5];have:(SL.val ∘ Me)=id:=funext vE;rw[this,qdM]
     rw[an]at M;have hv:x.val=v:=by
      rcases M with⟨N,Y⟩|⟨N,Y⟩<;>rcases i with⟨z,Z⟩|⟨z,Z⟩
      .rw[Y,Z]
      .rw[N]at z;cases z
      .rw[N]at z;cases z
      simp_all
     subst hv;refine aK k I (s:=.st x) (λl hl=>?_) j d;rw[ag]at hl;obtain⟨c,al,rfl⟩:=Ed.1 hl;exact rC (D7.1 ap c al)
    .rw[w]at i;obtain⟨x,rfl,D,d⟩:=nX hA i d;exact aK k I (s:=.st x) D j d
   .exact absurd d hA.fail
  .exact absurd d hA.fail
 next g B ix b E=>
  let⟨y,_⟩:=k.n_ E d_;split at d
  next vs hg=>
   let⟨S,q,d⟩:=hA.km _ _ d;let⟨v,r,i⟩:=dp m (vs:=vs) (off:=E1 B ix) ((T2 _ _ _ _).symm.trans q);have j:aA X.C X.b_ (ka g9.tmps) o=O (.val v):=by rw[e,ey,b,y];simp only[SV.val,ip,if_true,Fj,hg,r,G9]
   rw[w]at i;obtain⟨x,rfl,D,d⟩:=nX hA i d;exact aK k I (s:=.st x) D j d
  .exact absurd d hA.fail
 next p b E=>
  let⟨y,_⟩:=k.n_ E d_;let⟨S,q,u⟩:=hA.km _ _ d;unfold ldGv at q;split at q
  next ad=>
   split at q
   next av=>
    let⟨vs,hg,q⟩:=GY.1 q;let⟨v,r,i⟩:=dp m q;have j:aA X.C X.b_ (ka g9.tmps) o=O (.val v):=by rw[e,ey,b,y];simp only[SV.val,S0.val,SL.val,ip,av,if_true,Fj,hg,r,G9]
    rw[w]at i;obtain⟨x,rfl,D,n⟩:=nX hA i u;exact aK k I (s:=.st x) D j n
   .cases q
  .cases q
 next s s' off b E=>
  let⟨y,_⟩:=k.n_ E d_;split at d
  next x V hx=>
   have V:s=s':=by simpa using V
   subst V;let⟨S,hr,hx⟩:=GY.1 hx;let⟨ds,hd,hx⟩:=GY.1 hx;let⟨r1,r2,_⟩:=mI k hr;let⟨c1,c2⟩:=qt hd;let⟨v,r,i⟩:=dp m c1;let⟨ag,M⟩:=qX hx;have hv:x.val=v:=by
    rcases M with⟨N,Y⟩|⟨N,Y⟩<;>rcases i with⟨z,Z⟩|⟨z,Z⟩
    .rw[Y,Z]
    .rw[N]at z;cases z
    .rw[N]at z;cases z
    simp_all
   subst hv;refine dP k g9.heap I (s:=.st x) (λl hl=>?_) (.inl ⟨.KR s λvs=>dL X.C.P t vs off,?_,(g9,x.val),?_,rfl⟩) d
   .simp_all
   .rw[e,ey,b,y];simp[SV.val,kI]
   .simp[aZ,r1,r]
  .exact absurd d hA.fail
 next s s' B ix b E=>
  let⟨y,_⟩:=k.n_ E d_;split at d
  next S V hr=>
   have V:s=s':=by simpa using V
   subst V;split at d
   next L=>
    simp only[y_]at L;let⟨L,hn⟩:=L;have hn:=Fs hn;let⟨ls,hp,u⟩:=hA.km _ _ d;obtain⟨ds,hd,rfl⟩:=BF hp;let⟨r1,r2,_⟩:=mI k hr;let⟨c1,c2⟩:=qt hd;let⟨v,r,i⟩:=dp m c1;rw[w]at i;rw[hn]at hd;obtain⟨x,rfl,D,n⟩:=R2 hA (pf L hd) (λc q=>r2 c (c2 c q)) i u;refine dP k g9.heap I (s:=.st x) D (.inl ⟨.KR s λvs=>dL X.C.P t vs (E1 B ix),?_,(g9,x.val),?_,rfl⟩) n
    .rw[e,ey,b,y];simp[SV.val,kI]
    .simp[aZ,r1,r]
   .exact absurd d hA.fail
  .exact absurd d hA.fail
 .exact absurd d hA.fail
def tB{cs r new:List SL}{off:Nat}(a:jE cs off new=O r):v_ (cs.map SL.val) off (new.map SL.val)=O (r.map SL.val)/\r.length=W cs/\((∀c∈cs,c.g_)->(∀c∈new,c.g_)->∀c∈r,c.g_):=by
 unfold jE at a;unfold v_;split at a
 next b=>
  cases a;rw[rv (by simpa using b)];refine⟨k_,z_,λd e c f=>?_⟩
  grind
 .cases a
def zX{P:TI}{t:TS}{x:S0}(b:x.g_)(a:W x.cells=P.cellsOf t)(d:(P.info? t).isSome=J)(vs:Tn)(off:Nat) :
  fE P t x.val vs off=v_ vs off (x.cells.map SL.val):=by
 unfold fE;have c:=S0.Fa b;rw[rv ⟨k_,d⟩,rv (S0.Ir b),c]
def tX(e:Rp ev g9)(v:abs h=g9.heap){s:Nat}{cs:List SL}{f:Tn->Option (Tn)}{vs:Tn}(w:aA X.C X.b_ (ka g9.tmps) o=O (.H7 s f))(b:g9.loc[s]?=O (O vs))
  (k:f vs=O (cs.map SL.val)) (n:W (cs.map SL.val)=W vs) (x:∀c∈cs,c.g_) (p:lj X.b_ o=O s)
  (z:holds (pu o.dst .un ⟨ev.tm,ev.lc.set s (.row cs)⟩ h K)):ED X holds abs o g9 K:=by
 let a:St:={ g9 with loc:=g9.loc.set s (O (cs.map SL.val)) }
 have B:s<W g9.loc:=(qbS.1 b).1;have j:Rp ⟨ev.tm,ev.lc.set s (.row cs)⟩ a:=by
  refine⟨e.len,e.val,by simp[a,e.Gk],λi r d=>?_⟩;simp only[Kk]at d;split at d
  next m=>
   subst m;split at d
   .cases d;exact⟨jw,x⟩
   .cases d
  next m=>have:=e.row i r d;have l:a.loc[i]?=g9.loc[i]?:=jw;cases r<;>first|trivial|(simp only[LR.ok]at this ⊢;rw[l];exact this)
 let⟨g,t,u⟩:=zG (dst:=o.dst) j (s:=.un) trivial z;refine⟨a.put o.dst undef,g,h,.inl ⟨_,w,(a,undef),by simp[aZ,b,k,a],rfl⟩,t,?_,?_,u⟩
 .rw[v];cases o.dst<;>rfl
 .have k:=Fr.put (g9:=a) o.dst undef (xA X.b_ o).toList (lj X.b_ o).toList;have q:Fr o.dst.toList (xA X.b_ o).toList (lj X.b_ o).toList g9 a:=by
   refine⟨rfl,by simp[a],λ_ _ h _ _=>h,λ_ _ _ h _ _=>h,λi y E D=>?_,λi F E D=>?_⟩
   .grind
   grind
  exact q.trans k
def stP_ok{p:TV}{new:Tn}{g:cU}{n:Nat}{c:List Er}{cs:Tn}(h:NC p new g n=O (c,cs)) :
  ∃id off vs d e,p=EQ (O ⟨id,off,Q⟩)/\g id=O (.cells vs e J)/\v_ vs off new=O d/\c=[.set id (.cells d e J)]:=by
 unfold NC at h;split at h
 next a=>
  split at h
  next l=>
   split at h
   next vs e k=>
    let⟨d,i,j⟩:=FD.1 h;let⟨b,f,m⟩:=a
    grind
   .cases h
  .cases h
 .cases h
def t5(hA:te A X.C Sg X.T holds abs)(m:Rp ev g9)(V:abs h=g9.heap){t:TS}{a y:TM}{x:S0}(ho:o.op = .store t a y)(hy:n_ ev y = .st x)
  (j:holds (ND A X o.dst t a x ev h K)):ED X holds abs o g9 K:=by
 let⟨a2,I⟩:=m.n_ hy d_;have I:x.g_:=I;have u:aA X.C X.b_ (ka g9.tmps) o=fC X.C X.b_ t a (ka g9.tmps a) x.val:=by simp only[aA,ho,a2];rfl
 have G:=S0.F3 I;unfold ND at j;split at j
 .exact absurd j hA.fail
 next hc=>
  simp only[y_]at hc;let⟨v,hi⟩:=hc;have v:=Fs v;have hw:=zX (P:=X.C.P) (t:=t) I v hi;split at j
  next p d M=>
   let⟨L,_⟩:=m.n_ M d_;let⟨a6,i,h',h2,h3,D⟩:=hA.heap _ _ _ j;simp only[Hp.run]at h2;rw[V]at h2 h3;obtain⟨id,c,S,a5,e,rfl,g1,g2,rfl⟩:=stP_ok h2;refine dE (s:=.un) m (H':=g9.heap.set id (.cells a5 e J)) h3 trivial (f:=kY X.C t id c x.val) ?_ ?_ D
   .rw[u,fC,G,d,L];rfl
   .simp only[kY,g1,hw,g2,G9];rfl
  next s s' c d M=>
   let⟨L,_⟩:=m.n_ M d_;have l:lj X.b_ o=O s:=by simp only[lj,ho,d]
   split at j
   next i H k=>
    have H:s=s':=by simpa using H
    subst H;rw[fk]at j;have g:aA X.C X.b_ (ka g9.tmps) o=O (.H7 s λS=>fE X.C.P t x.val S c):=by rw[u,fC,G,d,L];simp[SV.val,kI]
    have ay:ev.lc[s]?=O (ev.lc.getD s .Mm)∨ev.lc.getD s .Mm = .Mm:=by grind
    unfold t4 at k;split at k
    next al hl=>let⟨q1,q2,q3⟩:=tB k;have E:ev.lc[s]?=O (.row al):=k_;have Z:=m.row s _ E;exact tX m V g Z.1 (by rw[hw];exact q1) (by simp[q2]) (q3 Z.2 I) l j
    next n hl=>
     split at k
     next hz=>
      cases k;simp only[y_]at hz;have a3:=Fs hz.1;have a4:=Fs hz.2;have E:ev.lc[s]?=O (.any n):=k_;let⟨S,a0,a1⟩:=m.row s _ E;refine tX m V g a0 ?_ (by rw[a1,a4];simp) I l j;rw[hw,a3,v_,rv z_]
      simp_all
     .cases k
    .cases k
   .exact absurd j hA.fail
  next s s' B ix d M=>
   let⟨L,_⟩:=m.n_ M d_;have l:lj X.b_ o=O s:=by simp only[lj,ho,d]
   split at j
   next i H Z=>
    have H:s=s':=by simpa using H
    subst H;split at j
    .exact absurd j hA.fail
    next an=>
     let⟨ls,Y,D⟩:=hA.km _ _ j;let⟨ag,r,e1,e2,ap⟩:=tG hA D;let⟨ax,N⟩:=hA.C3 _ _ ap;rw[ax,Kv]at e1;rw[fk]at N;let⟨r1,r2,_⟩:=mI m Z;have g:aA X.C X.b_ (ka g9.tmps) o=O (.H7 s λS=>fE X.C.P t x.val S (E1 B ix)):=by rw[u,fC,G,d,L];simp[SV.val,kI]
     rw[m3]at Y;split at Y
     next F=>
      simp only[IR]at F
      let c:=E1 B ix
      have a7:F0 i c (W x.cells)=O ((i.drop c).take (W x.cells)):=by unfold F0;rw[rv F]
      have a9:bf ((i.drop c).take (W x.cells)) (x.cells.map SL.lk)=J:=pf an jw
      let z:=i.take c++x.cells++i.drop (c+W x.cells)
      have aE:jE i c x.cells=O z:=by unfold jE;rw[rv F]
      let⟨q1,q2,q3⟩:=tB aE;have w:bf z (i.map SL.lk)=J:=by
       have ad:i=i.take c++(i.drop c).take (W x.cells)++i.drop (c+W x.cells):=by rw[Gu,←qco,Xi,Xi]
       have bb:∀ {a b:List SL},bf a (b.map SL.lk)=J->a.map SL.lk=b.map SL.lk:=by
        intro a b q
        induction a generalizing b with
        |nil=>cases b with
         |nil=>rfl
         |cons _ _=>cases q
        |cons a a8 ih=>cases b with
         |nil=>cases q
         |cons b bs=>
          simp only[Fx,bf,y_]at q;simp only[Fx,ih q.2];have:a.lk=b.lk:=by have h0:=q.1;cases a<;>cases b<;>first|rfl|(simp[SL.is,SL.lk]at h0;done)|(simp only[SL.is,SL.lk]at h0 ⊢;rw[dS h0])
          rw[this]
       have hm:i.map SL.lk=(i.take c).map SL.lk++x.cells.map SL.lk++(i.drop (c+W x.cells)).map SL.lk:=by grind
       rw[hm];exact iS (iS (pg _) (pg _)) (pg _)
      have av:z.map SL.lf=ag.map SL.lf:=by rw[←e1];cases Y;simp[z,c,List.map_take,List.map_drop]
      let⟨v1,v2⟩:=iT w e2 av;refine tX m V g r1 jw (by rw[←v1];simp[q2]) (v2 (q3 r2 I)) l N
     .cases Y
   .exact absurd j hA.fail
  .exact absurd j hA.fail
end
end Go.Am
end

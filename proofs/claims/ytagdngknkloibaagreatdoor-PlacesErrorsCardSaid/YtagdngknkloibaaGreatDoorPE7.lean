/-
  PART 7 OF THE PROOF (no conditions).
-/
import Derived.Test.YtagdngknkloibaaGreatDoorPE6
import Derived.SevenTiedAt
import Derived.Shelf.SlSortCmp.WholeK
import Derived.Test.YtagdngknkloibaaGreatDoorCards
import Derived.Test.YtagdngknkloibaaGreatDoorTie
set_option linter.unusedSectionVars false
set_option linter.unusedSimpArgs false
set_option linter.unusedVariables false
set_option linter.constructorNameAsVariable false
set_option linter.defProp false
noncomputable section
set_option maxRecDepth 100000
set_option maxHeartbeats 16000000
namespace Go.Am
open Sx Go.Proofs
theorem across1:Cc 75 [.i 1] [.i 1,.i 0]:=by
  refine q75 rfl ?_;unfold f75;simp only[qxh]
  simp(disch:=omega)only[↓qXX]
theorem across2:Cc 75 [.i 2] [.i 0,.i 1]:=by
  refine q75 rfl ?_;unfold f75;simp only[qxh]
  simp(disch:=omega)only[↓qXX]
theorem across3:Cc 75 [.i 3] [.i 1,.i 1]:=by
  refine q75 rfl ?_;unfold f75;simp only[qxh]
  simp(disch:=omega)only[↓qXX]
theorem across4:Cc 75 [.i 4] [.i (-1),.i 1]:=by
  refine q75 rfl ?_;unfold f75;simp only[qxh]
  simp(disch:=omega)only[↓qXX]
theorem farA:(∀ {c x y:Int},-1000000<=c/\c<=1000000/\-1000000<=x/\x<=1000000/\-1000000<=y/\y<=1000000->Cc 76 [.i 1,.i c,.i x,.i y] [.i (x - 2*c)])/\(∀ {c x y:Int},-1000000<=c/\c<=1000000/\-1000000<=x/\x<=1000000/\-1000000<=y/\y<=1000000->Cc 76 [.i 2,.i c,.i x,.i y] [.i (y - 2*c)])/\(∀ {c x y:Int},-1000000<=c/\c<=1000000/\-1000000<=x/\x<=1000000/\-1000000<=y/\y<=1000000->Cc 76 [.i 3,.i c,.i x,.i y] [.i (x+y - 2*c)])/\(∀ {c x y:Int},-1000000<=c/\c<=1000000/\-1000000<=x/\x<=1000000/\-1000000<=y/\y<=1000000->Cc 76 [.i 4,.i c,.i x,.i y] [.i (y - x - 2*c)]):=by
  refine⟨?_,?_,?_,?_⟩
  all_goals
    intro c x y h
    refine q76 rfl ?_;unfold f76;simp only[qxh]
    repeat (first|simp(disch:=omega)only[↓qXX]|refine ae across1 ?_|refine ae across2 ?_|refine ae across3 ?_|refine ae across4 ?_)
    (try simp only[qaX,Lf.i.injEq,and_true,true_and]);(try omega)
theorem reflA:(∀ {c x y:Int},-1000000<=c/\c<=1000000/\-1000000<=x/\x<=1000000/\-1000000<=y/\y<=1000000->Cc 47 [.i 1,.i c,.i x,.i y] [.i (4*c - x),.i y])/\(∀ {c x y:Int},-1000000<=c/\c<=1000000/\-1000000<=x/\x<=1000000/\-1000000<=y/\y<=1000000->Cc 47 [.i 2,.i c,.i x,.i y] [.i x,.i (4*c - y)])/\(∀ {c x y:Int},-1000000<=c/\c<=1000000/\-1000000<=x/\x<=1000000/\-1000000<=y/\y<=1000000->Cc 47 [.i 3,.i c,.i x,.i y] [.i (2*c - y),.i (2*c - x)])/\(∀ {c x y:Int},-1000000<=c/\c<=1000000/\-1000000<=x/\x<=1000000/\-1000000<=y/\y<=1000000->Cc 47 [.i 4,.i c,.i x,.i y] [.i (y - 2*c),.i (x+2*c)]):=by
  refine⟨?_,?_,?_,?_⟩
  all_goals
    intro c x y h
    refine q47 rfl ?_;unfold f47;simp only[qxh]
    repeat (first|simp(disch:=omega)only[↓qXX]|refine p_ari_2 (by simp only[Int.reduceToNat,Int.reduceAdd,Int.reduceMul,Int.reduceMod,Int.reduceSub,Int.reduceNeg,Int.reduceDiv,Nat.reduceAdd,Nat.reduceMul,Nat.reduceLeDiff,qaF,qbf,↓reduceIte,qbH,qbb,qbv,qca,qaD,qaC,qaH,qcF,qbz,qb9,qcH];exact rfl) ?_|refine ae across1 ?_|refine ae (farA.1 (by omega)) ?_|refine ae across2 ?_|refine ae (farA.2.1 (by omega)) ?_|refine ae across3 ?_|refine ae (farA.2.2.1 (by omega)) ?_|refine ae across4 ?_|refine ae (farA.2.2.2 (by omega)) ?_)
    (try simp only[qaX,Lf.i.injEq,and_true,true_and]);(try omega)
theorem kB:(∀ {x y:Int},-1000000<=x/\x<=1000000/\-1000000<=y/\y<=1000000->Cc 46 [.i x,.i y,.i 0] [.i (2*x+1),.i (2*y+1),.i (2*x),.i (2*y),.i (2*x+2),.i (2*y)])/\(∀ {x y:Int},-1000000<=x/\x<=1000000/\-1000000<=y/\y<=1000000->Cc 46 [.i x,.i y,.i 1] [.i (2*x+1),.i (2*y+1),.i (2*x+2),.i (2*y+2),.i (2*x+2),.i (2*y)])/\(∀ {x y:Int},-1000000<=x/\x<=1000000/\-1000000<=y/\y<=1000000->Cc 46 [.i x,.i y,.i 2] [.i (2*x+1),.i (2*y+1),.i (2*x+2),.i (2*y+2),.i (2*x),.i (2*y+2)])/\(∀ {x y:Int},-1000000<=x/\x<=1000000/\-1000000<=y/\y<=1000000->Cc 46 [.i x,.i y,.i 3] [.i (2*x+1),.i (2*y+1),.i (2*x),.i (2*y),.i (2*x),.i (2*y+2)]):=by
  refine⟨?_,?_,?_,?_⟩
  all_goals
    intro x y h
    refine q46 rfl ?_;unfold f46;simp only[qxh]
    repeat (first|simp(disch:=omega)only[↓qXX]|refine aq (by simp only[dF,putL,offX,Int.reduceToNat,Int.reduceAdd,Int.reduceMul,Int.reduceMod,Int.reduceSub,Int.reduceNeg,Int.reduceDiv,Nat.reduceAdd,Nat.reduceMul,Nat.reduceLeDiff,qaF,qbf,↓reduceIte,qbH,qbb,qbv,qca,qaD,qaC,qaH,qcF,qbz,qb9,qcH];exact rfl) ?_)
    (try simp only[qaX,Lf.i.injEq,and_true,true_and]);(try omega)
theorem sQ:(∀ {m n p q c d:Int},m%2=1/\n%2=1/\-1000000<=m/\m<=1000000/\-1000000<=n/\n<=1000000/\p=m - 1/\q=n - 1/\c=m+1/\d=n - 1->Cc 48 [.i m,.i n,.i p,.i q,.i c,.i d] [.i ((m - 1) / 2),.i ((n - 1) / 2),.i 0])/\(∀ {m n p q c d:Int},m%2=1/\n%2=1/\-1000000<=m/\m<=1000000/\-1000000<=n/\n<=1000000/\p=m+1/\q=n - 1/\c=m - 1/\d=n - 1->Cc 48 [.i m,.i n,.i p,.i q,.i c,.i d] [.i ((m - 1) / 2),.i ((n - 1) / 2),.i 0])/\(∀ {m n p q c d:Int},m%2=1/\n%2=1/\-1000000<=m/\m<=1000000/\-1000000<=n/\n<=1000000/\p=m+1/\q=n+1/\c=m+1/\d=n - 1->Cc 48 [.i m,.i n,.i p,.i q,.i c,.i d] [.i ((m - 1) / 2),.i ((n - 1) / 2),.i 1])/\(∀ {m n p q c d:Int},m%2=1/\n%2=1/\-1000000<=m/\m<=1000000/\-1000000<=n/\n<=1000000/\p=m+1/\q=n - 1/\c=m+1/\d=n+1->Cc 48 [.i m,.i n,.i p,.i q,.i c,.i d] [.i ((m - 1) / 2),.i ((n - 1) / 2),.i 1])/\(∀ {m n p q c d:Int},m%2=1/\n%2=1/\-1000000<=m/\m<=1000000/\-1000000<=n/\n<=1000000/\p=m+1/\q=n+1/\c=m - 1/\d=n+1->Cc 48 [.i m,.i n,.i p,.i q,.i c,.i d] [.i ((m - 1) / 2),.i ((n - 1) / 2),.i 2])/\(∀ {m n p q c d:Int},m%2=1/\n%2=1/\-1000000<=m/\m<=1000000/\-1000000<=n/\n<=1000000/\p=m - 1/\q=n+1/\c=m+1/\d=n+1->Cc 48 [.i m,.i n,.i p,.i q,.i c,.i d] [.i ((m - 1) / 2),.i ((n - 1) / 2),.i 2])/\(∀ {m n p q c d:Int},m%2=1/\n%2=1/\-1000000<=m/\m<=1000000/\-1000000<=n/\n<=1000000/\p=m - 1/\q=n - 1/\c=m - 1/\d=n+1->Cc 48 [.i m,.i n,.i p,.i q,.i c,.i d] [.i ((m - 1) / 2),.i ((n - 1) / 2),.i 3])/\(∀ {m n p q c d:Int},m%2=1/\n%2=1/\-1000000<=m/\m<=1000000/\-1000000<=n/\n<=1000000/\p=m - 1/\q=n+1/\c=m - 1/\d=n - 1->Cc 48 [.i m,.i n,.i p,.i q,.i c,.i d] [.i ((m - 1) / 2),.i ((n - 1) / 2),.i 3]):=by
  refine⟨?_,?_,?_,?_,?_,?_,?_,?_⟩
  all_goals
    intro m n p q c d h
    refine q48 rfl ?_;unfold f48;simp only[qxh]
    rcases qcK 0 m with hm|hm<;>rcases qcK 0 n with hn|hn
    all_goals
      (repeat (first|simp(disch:=omega)only[↓qXX]|refine aq (by simp only[dF,putL,offX,Int.reduceToNat,Int.reduceAdd,Int.reduceMul,Int.reduceMod,Int.reduceSub,Int.reduceNeg,Int.reduceDiv,Nat.reduceAdd,Nat.reduceMul,Nat.reduceLeDiff,qaF,qbf,↓reduceIte,qbH,qbb,qbv,qca,qaD,qaC,qaH,qcF,qbz,qb9,qcH];exact rfl) ?_|refine p_loop 5 ?_|refine ae (kB.1 (by omega)) ?_|refine ae (kB.2.1 (by omega)) ?_|refine ae (kB.2.2.1 (by omega)) ?_|refine ae (kB.2.2.2 (by omega)) ?_);(try simp only[qaX,Lf.i.injEq,and_true,true_and]);(try omega))
theorem gp:(∀ {m n x y:Int},-1000000<=m/\m<=1000000/\-1000000<=n/\n<=1000000/\-1000000<=x/\x<=1000000/\-1000000<=y/\y<=1000000->Cc 93 [.i 0,.i m,.i n,.i x,.i y] [.i (x+2*m),.i (y+2*n)])/\(∀ {m n x y:Int},-1000000<=m/\m<=1000000/\-1000000<=n/\n<=1000000/\-1000000<=x/\x<=1000000/\-1000000<=y/\y<=1000000->Cc 93 [.i 1,.i m,.i n,.i x,.i y] [.i (-(y)+2*m),.i (x+2*n)])/\(∀ {m n x y:Int},-1000000<=m/\m<=1000000/\-1000000<=n/\n<=1000000/\-1000000<=x/\x<=1000000/\-1000000<=y/\y<=1000000->Cc 93 [.i 2,.i m,.i n,.i x,.i y] [.i (-(x)+2*m),.i (-(y)+2*n)])/\(∀ {m n x y:Int},-1000000<=m/\m<=1000000/\-1000000<=n/\n<=1000000/\-1000000<=x/\x<=1000000/\-1000000<=y/\y<=1000000->Cc 93 [.i 3,.i m,.i n,.i x,.i y] [.i (y+2*m),.i (-(x)+2*n)])/\(∀ {m n x y:Int},-1000000<=m/\m<=1000000/\-1000000<=n/\n<=1000000/\-1000000<=x/\x<=1000000/\-1000000<=y/\y<=1000000->Cc 93 [.i 4,.i m,.i n,.i x,.i y] [.i (-(x)+2*m),.i (y+2*n)])/\(∀ {m n x y:Int},-1000000<=m/\m<=1000000/\-1000000<=n/\n<=1000000/\-1000000<=x/\x<=1000000/\-1000000<=y/\y<=1000000->Cc 93 [.i 5,.i m,.i n,.i x,.i y] [.i (-(y)+2*m),.i (-(x)+2*n)])/\(∀ {m n x y:Int},-1000000<=m/\m<=1000000/\-1000000<=n/\n<=1000000/\-1000000<=x/\x<=1000000/\-1000000<=y/\y<=1000000->Cc 93 [.i 6,.i m,.i n,.i x,.i y] [.i (x+2*m),.i (-(y)+2*n)])/\(∀ {m n x y:Int},-1000000<=m/\m<=1000000/\-1000000<=n/\n<=1000000/\-1000000<=x/\x<=1000000/\-1000000<=y/\y<=1000000->Cc 93 [.i 7,.i m,.i n,.i x,.i y] [.i (y+2*m),.i (x+2*n)]):=by
  refine⟨?_,?_,?_,?_,?_,?_,?_,?_⟩
  all_goals
    intro m n x y h
    refine q93 rfl ?_;unfold f93;simp only[qxh]
    repeat (first|simp(disch:=omega)only[↓qXX])
    (try simp only[qaX,Lf.i.injEq,and_true,true_and]);(try omega)
theorem eqs2{a b c d:Int}{t:Bool}{K:Bool->Prop}(h:t=(decide (a=c)&&decide (b=d))):P1.eqs [(.i a,.i c),(.i b,.i d)] (@hid _ ⟨K⟩)=K t:=by
  show K (ca _)=K t
  have e:ca [(.i a,.i c),(.i b,.i d)]=t:=by
    rw[h,qbD]
    simp[ca,fY]
  rw[e]
theorem dK{f:FuncId}{ls rs rs':List Lf}(h:Cc f ls rs)(e:rs=rs'):Cc f ls rs':=e▸h
theorem cG{m:Mv}(ht:m.1<8){x y:Int}(h:-100000<=m.2.1/\m.2.1<=100000/\-100000<=m.2.2/\m.2.2<=100000/\-100000<=x/\x<=100000/\-100000<=y/\y<=100000):Cc 93 (mvl m++[.i x,.i y]) [.i (ptM m x y).1,.i (ptM m x y).2]:=by
  obtain⟨t,mx,my⟩:=m
  simp only at ht h
  rcases t8 ht with rfl|rfl|rfl|rfl|rfl|rfl|rfl|rfl
  · exact dK (gp.1 (m:=mx) (n:=my) (x:=x) (y:=y) (by omega)) (by simp[ptM,mA,mB,mC,mD];try omega)
  · exact dK (gp.2.1 (m:=mx) (n:=my) (x:=x) (y:=y) (by omega)) (by simp[ptM,mA,mB,mC,mD];try omega)
  · exact dK (gp.2.2.1 (m:=mx) (n:=my) (x:=x) (y:=y) (by omega)) (by simp[ptM,mA,mB,mC,mD];try omega)
  · exact dK (gp.2.2.2.1 (m:=mx) (n:=my) (x:=x) (y:=y) (by omega)) (by simp[ptM,mA,mB,mC,mD];try omega)
  · exact dK (gp.2.2.2.2.1 (m:=mx) (n:=my) (x:=x) (y:=y) (by omega)) (by simp[ptM,mA,mB,mC,mD];try omega)
  · exact dK (gp.2.2.2.2.2.1 (m:=mx) (n:=my) (x:=x) (y:=y) (by omega)) (by simp[ptM,mA,mB,mC,mD];try omega)
  · exact dK (gp.2.2.2.2.2.2.1 (m:=mx) (n:=my) (x:=x) (y:=y) (by omega)) (by simp[ptM,mA,mB,mC,mD];try omega)
  · exact dK (gp.2.2.2.2.2.2.2 (m:=mx) (n:=my) (x:=x) (y:=y) (by omega)) (by simp[ptM,mA,mB,mC,mD];try omega)
theorem mat_ne:((List.range 8).all λs=>(List.range 8).all λt=>Nat.beq s t || !(decide (mA s=mA t)&&decide (mC s=mC t)&&(decide (mB s=mB t)&&decide (mD s=mD t))))=true:=by decide +kernel
theorem rtold_c{m:Mv}(hm:okM 40000 m):Cc 96 [.i (ptM m 0 0).1,.i (ptM m 0 0).2,.i (ptM m 2 0).1,.i (ptM m 2 0).2,.i (ptM m 0 2).1,.i (ptM m 0 2).2] (mvl m):=by
  obtain⟨t,mx,my⟩:=m
  have ht:t<8:=hm.1
  have hm':=hm.2
  simp only at hm'
  have e1:(ptM (t,mx,my) 0 0).1=2*mx:=by simp[ptM]
  have e2:(ptM (t,mx,my) 0 0).2=2*my:=by simp[ptM]
  refine q96 rfl ?_;unfold f96;simp only[qxh]
  simp(disch:=omega)only[↓qXX]
  refine cm 8 (λj (_:Unit)=>[.i (Int.ofNat j)]) (λ_ _=>[]) (λj _=>j<=t) (j0:=0) (s0:=()) rfl rfl (by omega) (qaV _) ?_
  rintro j _ hj8 hjt self hself
  simp(disch:=omega)only[↓qXX]
  rw[p_lss_t (by show((j:Nat):Int)<8;omega)]
  simp(disch:=omega)only[↓qXX]
  rw[e1,e2]
  try simp(disch:=omega)only[↓qXX]
  rw[show 2*mx / 2=mx by omega,show 2*my / 2=my by omega]
  have hadd:∀K:Int->Prop,P1.ari .add .u8 (Int.ofNat j) 1 (@hid _ ⟨K⟩)=K (Int.ofNat j+1):=λK=>p_add8 (by show(0:Int)<=(j:Int)+1;omega) (by show(j:Int)+1<=255;omega)
  refine ae (cG (m:=(j,mx,my)) (by show j<8;omega) (x:=2) (y:=0) (by simp only;omega)) ?_
  simp(disch:=omega)only[↓qXX]
  have n1:∀s:Nat,((ptM (s,mx,my) 2 0).1=2*mA s+2*mx)/\((ptM (s,mx,my) 2 0).2=2*mC s+2*my)/\((ptM (s,mx,my) 0 2).1=2*mB s+2*mx)/\((ptM (s,mx,my) 0 2).2=2*mD s+2*my):=λs=>by
    simp[ptM];omega
  have nj:=n1 j
  have nt:=n1 t
  rw[eqs2 rfl]
  by_cases hjt2:j=t
  · subst hjt2
    rw[decide_eq_true rfl,decide_eq_true rfl]
    simp(disch:=omega)only[↓qXX,qdc]
    refine ae (cG (m:=(j,mx,my)) (by show j<8;omega) (x:=0) (y:=2) (by simp only;omega)) ?_
    simp(disch:=omega)only[↓qXX]
    try rw[eqs2 rfl,decide_eq_true rfl,decide_eq_true rfl]
    try simp(disch:=omega)only[↓qXX,qdc]
    refine ae (cG (m:=(j,mx,my)) (by show j<8;omega) (x:=0) (y:=0) (by simp only;omega)) ?_
    simp(disch:=omega)only[↓qXX]
    try rw[e1,e2]
    try rw[eqs2 rfl,decide_eq_true rfl,decide_eq_true rfl]
    try simp(disch:=omega)only[↓qXX,qdc]
  · have hne:=qab.1 (qab.1 mat_ne j (qai.2 (by omega))) t (qai.2 ht)
    have hb:Nat.beq j t=false:=by
      cases h:Nat.beq j t with
      |true=>exact absurd (qac h) hjt2
      |false=>rfl
    rw[hb]at hne
    by_cases h1:mA j=mA t/\mC j=mC t
    · rw[decide_eq_true (by omega),decide_eq_true (by omega)]
      simp(disch:=omega)only[↓qXX,qdc]
      refine ae (cG (m:=(j,mx,my)) (by show j<8;omega) (x:=0) (y:=2) (by simp only;omega)) ?_
      simp(disch:=omega)only[↓qXX]
      rw[eqs2 rfl]
      have h2:¬(mB j=mB t/\mD j=mD t):=λh2=>by
        simp[h1.1,h1.2,h2.1,h2.2]at hne
      have h3:(decide ((ptM (j,mx,my) 0 2).1=(ptM (t,mx,my) 0 2).1)&&decide ((ptM (j,mx,my) 0 2).2=(ptM (t,mx,my) 0 2).2))=false:=by
        rw[qcB]
        intro h
        simp only[qaa,decide_eq_true_eq]at h
        exact h2 (by omega)
      rw[h3]
      simp(disch:=omega)only[↓qXX]
      rw[hadd]
      exact hself () (by omega) (by omega)
    · have h3:(decide ((ptM (j,mx,my) 2 0).1=(ptM (t,mx,my) 2 0).1)&&decide ((ptM (j,mx,my) 2 0).2=(ptM (t,mx,my) 2 0).2))=false:=by
        rw[qcB]
        intro h
        simp only[qaa,decide_eq_true_eq]at h
        exact h1 (by omega)
      rw[h3]
      simp(disch:=omega)only[↓qXX]
      rw[hadd]
      exact hself () (by omega) (by omega)
theorem tT{a b:Mv}(ha:a.1<8)(hb:b.1<8)(x y:Int):ptM b (ptM a x y).1 (ptM a x y).2=ptM (aY a b) x y:=by
  obtain⟨at',ax,ay⟩:=a
  obtain⟨bt,bx,by'⟩:=b
  simp only at ha hb
  unfold ptM aY
  rcases t8 ha with rfl|rfl|rfl|rfl|rfl|rfl|rfl|rfl<;>rcases t8 hb with rfl|rfl|rfl|rfl|rfl|rfl|rfl|rfl<;>
    (refine qdd ?_ ?_<;>simp[mulT,mA,mB,mC,mD]<;>omega)
theorem pt_rng{m:Mv}{n:Int}(hm:okM n m){x y k:Int}(h:-k<=x/\x<=k/\-k<=y/\y<=k):-(2*n+k)<=(ptM m x y).1/\(ptM m x y).1<=2*n+k/\-(2*n+k)<=(ptM m x y).2/\(ptM m x y).2<=2*n+k:=by
  have h1:=tC hm.1 h
  have h2:=hm.2
  unfold ptM
  simp only
  omega
theorem rthen_c{a b:Mv}{n k:Int}(ha:okM n a)(hb:okM k b)(hn:0<=n/\0<=k/\n+k<=40000):Cc 58 (mvl a++mvl b) (mvl (aY a b)):=by
  have h0:=cp (dg ha hb) hn.2.2
  have ht:=rtold_c h0
  rw[←tT ha.1 hb.1,←tT ha.1 hb.1,←tT ha.1 hb.1]at ht
  have r0:=pt_rng ha (x:=0) (y:=0) (k:=2) (by omega)
  have r1:=pt_rng ha (x:=2) (y:=0) (k:=2) (by omega)
  have r2:=pt_rng ha (x:=0) (y:=2) (k:=2) (by omega)
  have a2:=ha.2
  have b2:=hb.2
  refine q58 rfl ?_;unfold f58;simp only[qxh]
  simp only[mvl,qaD,qaC]
  simp(disch:=omega)only[↓qXX]
  refine ae (cG ha.1 (x:=0) (y:=0) (by omega)) ?_
  simp(disch:=omega)only[↓qXX]
  refine ae (cG hb.1 (by omega)) ?_
  simp(disch:=omega)only[↓qXX]
  refine ae (cG ha.1 (x:=2) (y:=0) (by omega)) ?_
  simp(disch:=omega)only[↓qXX]
  refine ae (cG hb.1 (by omega)) ?_
  simp(disch:=omega)only[↓qXX]
  refine ae (cG ha.1 (x:=0) (y:=2) (by omega)) ?_
  simp(disch:=omega)only[↓qXX]
  refine ae (cG hb.1 (by omega)) ?_
  simp(disch:=omega)only[↓qXX]
  refine ae ht ?_
  simp only[mvl]
  simp(disch:=omega)only[↓qXX]
theorem tV{l:Ln}(hl:1<=l.1/\l.1<=4)(hc:-100<=l.2/\l.2<=100){x y:Int}(h:-100<=x/\x<=100/\-100<=y/\y<=100):Cc 47 [.i (Int.ofNat l.1),.i l.2,.i x,.i y] [.i (ptM (ofM l) x y).1,.i (ptM (ofM l) x y).2]:=by
  obtain⟨k,c⟩:=l
  simp only at hl hc
  obtain rfl|rfl|rfl|rfl:k=1∨k=2∨k=3∨k=4:=by omega
  · exact dK (reflA.1 (c:=c) (x:=x) (y:=y) (by omega)) (by simp[ptM,ofM,mA,mB,mC,mD];try omega)
  · exact dK (reflA.2.1 (c:=c) (x:=x) (y:=y) (by omega)) (by simp[ptM,ofM,mA,mB,mC,mD];try omega)
  · exact dK (reflA.2.2.1 (c:=c) (x:=x) (y:=y) (by omega)) (by simp[ptM,ofM,mA,mB,mC,mD];try omega)
  · exact dK (reflA.2.2.2 (c:=c) (x:=x) (y:=y) (by omega)) (by simp[ptM,ofM,mA,mB,mC,mD];try omega)
theorem rof_c{l:Ln}(hl:1<=l.1/\l.1<=4)(hc:-100<=l.2/\l.2<=100):Cc 59 [.i (Int.ofNat l.1),.i l.2] (mvl (ofM l)):=by
  have ht:=rtold_c (cp (vp hc) (by omega))
  refine q59 rfl ?_;unfold f59;simp only[qxh]
  simp(disch:=omega)only[↓qXX]
  refine ae (tV hl hc (x:=0) (y:=0) (by omega)) ?_
  simp(disch:=omega)only[↓qXX]
  refine ae (tV hl hc (x:=2) (y:=0) (by omega)) ?_
  simp(disch:=omega)only[↓qXX]
  refine ae (tV hl hc (x:=0) (y:=2) (by omega)) ?_
  simp(disch:=omega)only[↓qXX]
  refine ae ht ?_
  simp only[mvl]
  simp(disch:=omega)only[↓qXX]
def o1x(q:Nat):Int:=[0,2,2,0].getD q 0
def o2x(q:Nat):Int:=[2,2,0,0].getD q 0
def o2y(q:Nat):Int:=[0,0,2,2].getD q 0
theorem q4{q:Nat}(h:q<4):q=0∨q=1∨q=2∨q=3:=by omega
theorem rcorn_c{c:Cl}(h:-100000<=c.1/\c.1<=100000/\-100000<=c.2.1/\c.2.1<=100000/\c.2.2<4):Cc 46 (cll c) [.i (2*c.1+1),.i (2*c.2.1+1),.i (2*c.1+o1x c.2.2),.i (2*c.2.1+o1x c.2.2),.i (2*c.1+o2x c.2.2),.i (2*c.2.1+o2y c.2.2)]:=by
  obtain⟨x,y,q⟩:=c
  simp only at h
  rcases q4 h.2.2.2.2 with rfl|rfl|rfl|rfl
  · exact dK (kB.1 (x:=x) (y:=y) (by omega)) (by simp[o1x,o2x,o2y])
  · exact dK (kB.2.1 (x:=x) (y:=y) (by omega)) (by simp[o1x,o2x,o2y])
  · exact dK (kB.2.2.1 (x:=x) (y:=y) (by omega)) (by simp[o1x,o2x,o2y])
  · exact dK (kB.2.2.2 (x:=x) (y:=y) (by omega)) (by simp[o1x,o2x,o2y])
theorem rwith_c{c:Cl}(h:-50000<=c.1/\c.1<=50000/\-50000<=c.2.1/\c.2.1<=50000/\c.2.2<4){X Y a b d e:Int}(hX:X=2*c.1+1)(hY:Y=2*c.2.1+1)
    (hc:(a=2*c.1+o1x c.2.2/\b=2*c.2.1+o1x c.2.2/\d=2*c.1+o2x c.2.2/\e=2*c.2.1+o2y c.2.2)∨(d=2*c.1+o1x c.2.2/\e=2*c.2.1+o1x c.2.2/\a=2*c.1+o2x c.2.2/\b=2*c.2.1+o2y c.2.2)) :
    Cc 48 [.i X,.i Y,.i a,.i b,.i d,.i e] (cll c):=by
  obtain⟨x,y,q⟩:=c
  simp only at h hX hY
  have ex:(X - 1) / 2=x:=by omega
  have ey:(Y - 1) / 2=y:=by omega
  rcases q4 h.2.2.2.2 with rfl|rfl|rfl|rfl
  all_goals
    simp[o1x,o2x,o2y]at hc
    rcases hc with hc|hc
  · exact dK (sQ.1 (m:=X) (n:=Y) (p:=a) (q:=b) (c:=d) (d:=e) (by omega)) (by rw[ex,ey];rfl)
  · exact dK (sQ.2.1 (m:=X) (n:=Y) (p:=a) (q:=b) (c:=d) (d:=e) (by omega)) (by rw[ex,ey];rfl)
  · exact dK (sQ.2.2.1 (m:=X) (n:=Y) (p:=a) (q:=b) (c:=d) (d:=e) (by omega)) (by rw[ex,ey];rfl)
  · exact dK (sQ.2.2.2.1 (m:=X) (n:=Y) (p:=a) (q:=b) (c:=d) (d:=e) (by omega)) (by rw[ex,ey];rfl)
  · exact dK (sQ.2.2.2.2.1 (m:=X) (n:=Y) (p:=a) (q:=b) (c:=d) (d:=e) (by omega)) (by rw[ex,ey];rfl)
  · exact dK (sQ.2.2.2.2.2.1 (m:=X) (n:=Y) (p:=a) (q:=b) (c:=d) (d:=e) (by omega)) (by rw[ex,ey];rfl)
  · exact dK (sQ.2.2.2.2.2.2.1 (m:=X) (n:=Y) (p:=a) (q:=b) (c:=d) (d:=e) (by omega)) (by rw[ex,ey];rfl)
  · exact dK (sQ.2.2.2.2.2.2.2 (m:=X) (n:=Y) (p:=a) (q:=b) (c:=d) (d:=e) (by omega)) (by rw[ex,ey];rfl)
theorem corn_move{m:Mv}(hm:m.1<8){c:Cl}(hq:c.2.2<4) :
    (ptM m (2*c.1+1) (2*c.2.1+1)).1=2*(bF m c).1+1/\(ptM m (2*c.1+1) (2*c.2.1+1)).2=2*(bF m c).2.1+1/\
    (((ptM m (2*c.1+o1x c.2.2) (2*c.2.1+o1x c.2.2)).1=2*(bF m c).1+o1x (bF m c).2.2/\(ptM m (2*c.1+o1x c.2.2) (2*c.2.1+o1x c.2.2)).2=2*(bF m c).2.1+o1x (bF m c).2.2/\(ptM m (2*c.1+o2x c.2.2) (2*c.2.1+o2y c.2.2)).1=2*(bF m c).1+o2x (bF m c).2.2/\(ptM m (2*c.1+o2x c.2.2) (2*c.2.1+o2y c.2.2)).2=2*(bF m c).2.1+o2y (bF m c).2.2)∨
     ((ptM m (2*c.1+o2x c.2.2) (2*c.2.1+o2y c.2.2)).1=2*(bF m c).1+o1x (bF m c).2.2/\(ptM m (2*c.1+o2x c.2.2) (2*c.2.1+o2y c.2.2)).2=2*(bF m c).2.1+o1x (bF m c).2.2/\(ptM m (2*c.1+o1x c.2.2) (2*c.2.1+o1x c.2.2)).1=2*(bF m c).1+o2x (bF m c).2.2/\(ptM m (2*c.1+o1x c.2.2) (2*c.2.1+o1x c.2.2)).2=2*(bF m c).2.1+o2y (bF m c).2.2)):=by
  obtain⟨t,mx,my⟩:=m
  obtain⟨x,y,q⟩:=c
  simp only at hm hq
  rcases t8 hm with rfl|rfl|rfl|rfl|rfl|rfl|rfl|rfl<;>rcases q4 hq with rfl|rfl|rfl|rfl<;>
    (simp[ptM,bF,qT,mA,mB,mC,mD,o1x,o2x,o2y];omega)
theorem rmove_c{m:Mv}(hm:okM 40000 m){c:Cl}(h:-100<=c.1/\c.1<=100/\-100<=c.2.1/\c.2.1<=100/\c.2.2<4):Cc 55 (mvl m++cll c) (cll (bF m c)):=by
  obtain⟨k1,k2,k3⟩:=corn_move hm.1 (c:=c) h.2.2.2.2
  have hr:=iN hm (k:=100) ⟨h.1,h.2.1,h.2.2.1,h.2.2.2.1⟩
  have hm2:=hm.2
  have p1:0<=o1x c.2.2/\o1x c.2.2<=2/\0<=o2x c.2.2/\o2x c.2.2<=2/\0<=o2y c.2.2/\o2y c.2.2<=2:=by
    rcases q4 h.2.2.2.2 with hq|hq|hq|hq<;>rw[hq]<;>decide
  refine q55 rfl ?_;unfold f55;simp only[qxh]
  simp only[mvl,qaD,qaC]
  simp(disch:=omega)only[↓qXX]
  refine ae (rcorn_c (c:=c) ⟨by omega,by omega,by omega,by omega,h.2.2.2.2⟩) ?_
  simp(disch:=omega)only[↓qXX]
  have w0:=cG hm.1 (x:=2*c.1+1) (y:=2*c.2.1+1) (by omega)
  have w1:=cG hm.1 (x:=2*c.1+o1x c.2.2) (y:=2*c.2.1+o1x c.2.2) (by omega)
  have w2:=cG hm.1 (x:=2*c.1+o2x c.2.2) (y:=2*c.2.1+o2y c.2.2) (by omega)
  have w3:=rwith_c (c:=bF m c) ⟨by omega,by omega,by omega,by omega,hr.2.2.2.2⟩ k1 k2 k3
  repeat (first|simp(disch:=omega)only[↓qXX]|refine aq (by simp only[dF,putL,offX,Int.reduceToNat,Int.reduceAdd,Int.reduceMul,Int.reduceMod,Int.reduceSub,Int.reduceNeg,Int.reduceDiv,Nat.reduceAdd,Nat.reduceMul,Nat.reduceLeDiff,qaF,qbf,↓reduceIte,qbH,qbb,qbv,qca,qaD,qaC,qaH,qcF,qbz,qb9,qcH];exact rfl) ?_|refine p_loop 4 ?_|refine ae w0 ?_|refine ae w1 ?_|refine ae w2 ?_|refine ae w3 ?_)
  try rfl
set_option maxHeartbeats 4000000
def rngC(c:Crs):Prop:=0<=c.1/\c.1<=1000/\0<=c.2.1/\c.2.1<=255/\0<=c.2.2/\c.2.2<=255
structure Pat(w v:Nat)(l:List Crs):Prop where
 sheet:1<=w/\w<=5/\1<=v/\v<=5
 rng:∀c∈l,rngC c
 len:l.length<=1000
 ok:chkC (.ofNat w) (.ofNat v) l=0
theorem encU_len(u:Nat×Nat):(encU u).length=2:=rfl
def enc8(n:Int):List Value:=[.int .u8 n]
theorem uP(n:Int):(enc8 n).length=1:=rfl
theorem uv{a b:Nat}(h1:1<=a)(h2:a<=5)(h3:1<=b)(h4:b<=5)(h:HL):∃s G,aB cc ab 15 [.i (.ofNat a),.i (.ofNat b)] (absH aa h) [.v s] (absH aa (h++G))/\LsH (h++G) s 2 encU (aF a b):=by
 have ht:=(jS (kF a b h1 h2 h3 h4)).2.2.1
 unfold qM at ht
 split at ht
 ·rename_i e
  obtain⟨s,G,c1,c2⟩:=made (g:=15) (rest:=[]) rfl (by kernel_rfl) rfl rfl e h
  exact⟨s,G,c1,λu _=>encU_len u,c2⟩
 ·cases ht
set_option maxHeartbeats 8000000
def lN(w v:Nat):List Cl:=(List.range (4*w*v)).map (clN w)
def qL(w v:Nat):Bool:=match runF 60 (.f 30) [.i (.ofNat w),.i (.ofNat v)] .empty (λrs h=>match rs with
   | .v x :: r=>ans (eqLs r []&&isSl h x 3 (lN w v).length ((lN w v).flatMap az))
   |_=>none)with
 |some []=>true
 |_=>false
def tabRn(w v:Nat):Bool:=(aF w v).all λu=>match nbr w v u.1 u.2 with
 |some n=>sO 17 [.i (.ofNat w),.i (.ofNat v),.i (.ofNat u.1),.i (.ofNat u.2)] [.i (.ofNat n)]
 |none=>false
def tab78(w v:Nat):Bool:=qL w v&&(tabRn w v&&Nat.beq (aF w v).length (6*w*v - w - v))
theorem all78:∀w v:Nat,1<=w->w<=5->1<=v->v<=5->tab78 w v=true:=by
 have key:((List.range 5).all λw=>(List.range 5).all λv=>tab78 (w+1) (v+1))=true:=by kernel_rfl
 intro w v h1 h2 h3 h4
 have h5:=qab.1 key (w - 1) (qai.2 (by omega))
 have h6:=qab.1 h5 (v - 1) (qai.2 (by omega))
 rw[show w - 1+1=w by omega,show v - 1+1=v by omega]at h6
 exact h6
theorem sh_N4{w v:Nat}(h:Sh w v):4<=4*w*v/\4*w*v<=100:=by
 obtain⟨h1,h2,h3,h4⟩:=h
 have a1:4*w*v<=4*w*5:=Nat.mul_le_mul_left _ h4
 have a2:4*w*1<=4*w*v:=Nat.mul_le_mul_left _ h3
 omega
section
variable {w v:Nat}
theorem vW(h:Sh w v):qL w v=true/\tabRn w v=true/\(aF w v).length=6*w*v - w - v:=by
 have:=all78 w v h.1 h.2.1 h.2.2.1 h.2.2.2
 unfold tab78 at this
 simp only[qaa]at this
 exact⟨this.1,this.2.1,qac this.2.2⟩
theorem unit_ok{c e:Nat}(h:(c,e)∈aF w v):c<4*w*v/\e<3/\∃n,nbr w v c e=some n/\c<n:=by
 unfold aF at h
 obtain⟨c',hc,h2⟩:=qbw.1 h
 obtain⟨e',he,h3⟩:=qbg.1 h2
 split at h3
 ·rename_i n hn
  split at h3
  ·rename_i hlt
   simp only[qau,qb8]at h3
   obtain⟨rfl,rfl⟩:=h3
   exact⟨qai.1 hc,qai.1 he,n,hn,hlt⟩
  ·cases h3
 ·cases h3
theorem cells_c(hs:Sh w v)(h:HL):∃s G,aB cc ab 30 [.i (.ofNat w),.i (.ofNat v)] (absH aa h) [.v s] (absH aa (h++G))/\LsH (h++G) s 3 az (lN w v):=by
 have ht:=(vW hs).1
 unfold qL at ht
 split at ht
 ·rename_i e
  obtain⟨s,G,c1,c2⟩:=made (g:=30) (rest:=[]) rfl (by kernel_rfl) rfl rfl e h
  exact⟨s,G,c1,λu _=>bw u,c2⟩
 ·cases ht
theorem rnb_c(hs:Sh w v){c e n:Nat}(hu:(c,e)∈aF w v)(hn:nbr w v c e=some n):Cc 17 [.i (.ofNat w),.i (.ofNat v),.i (.ofNat c),.i (.ofNat e)] [.i (.ofNat n)]:=by
 have:=qab.1 (vW hs).2.1 (c,e) hu
 simp only[hn]at this
 exact iq this rfl (by kernel_rfl) rfl
theorem jh{j:Nat}(h:j<4*w*v):(lN w v)[j]? = some (clN w j):=by
 unfold lN
 rw[qas,qb5 h];rfl
theorem ji:(lN w v).length=4*w*v:=by simp[lN]
theorem clN_rng(hs:Sh w v){j:Nat}(h:j<4*w*v):-100<=(clN w j).1/\(clN w j).1<=100/\-100<=(clN w j).2.1/\(clN w j).2.1<=100/\(clN w j).2.2<4:=by
 have hN:=sh_N4 hs
 have d1:j / 4%w<=j / 4:=qdD _ _
 have d2:j / 4 / w<=j / 4:=qcY _ _
 refine⟨?_,?_,?_,?_,qb2 _ (by omega)⟩
 ·exact qdt (show(-100:Int)<=0 by decide) (qa7 _)
 ·exact qds.2 (show j / 4%w<=100 by omega)
 ·exact qdt (show(-100:Int)<=0 by decide) (qa7 _)
 ·exact qds.2 (show j / 4 / w<=100 by omega)
end
theorem p_eql_d{a b:Int}{K:Bool->Prop}(h1:a=b->K true)(h2:a≠b->K false):P1.cmp .eql a b (@hid _ ⟨K⟩):=by
 by_cases h:a=b
 ·rw[p_eql_t h];exact h1 h
 ·rw[p_eql_f h];exact h2 h
def KindP(w v:Nat)(l:List Crs)(ks:List Int)(j:Nat):Prop:=∀u k,(aF w v)[j]? = some u->ks[j]? = some k->(0<=k/\k<=3)/\(k≠0↔isCr l u.1 u.2=true)
def KindZ(l:List Crs)(u:Nat×Nat)(z:Nat)(k:Int):Prop:=(0<=k/\k<=3)/\(k≠0↔∃c∈l.take z,c.1 = .ofNat u.1/\c.2.1 = .ofNat u.2)
theorem kindZ_end{l:List Crs}{u:Nat×Nat}{k:Int}(h:KindZ l u l.length k):(0<=k/\k<=3)/\(k≠0↔isCr l u.1 u.2=true):=by
 refine⟨h.1,h.2.trans ?_⟩
 rw[qbr]
 unfold isCr
 rw[decide_eq_true_eq,qaL]
 constructor
 ·rintro⟨c,h1,h2,h3⟩
  exact⟨c,h1,by unfold dE;rw[h2,h3]⟩
 ·rintro⟨c,h1,h2⟩
  unfold dE at h2
  simp only[qb8]at h2
  exact⟨c,h1,h2.1,h2.2⟩
theorem kinds_c{w v:Nat}(hs:Sh w v){l:List Crs}(hkd:∀c∈l,1<=c.2.2/\c.2.2<=3)(hll:l.length<=1000){H:HL}{x:Value}(hl:LsH H x 3 encC l) :
  ∃ks id h',aB cc ab 16 [.i (.ofNat w),.i (.ofNat v),.v x] (absH aa H) [.v (.slice (some ⟨id,0,tag 1⟩) (aF w v).length ((aF w v).length+1))] (absH aa h')/\Pre H h'/\H.length<=id/\h'[id]? = some (.o (.cells (ks.flatMap enc8) 1 true))/\ks.length=(aF w v).length/\∀j,KindP w v l ks j:=by
 obtain⟨su,G1,cu1,hU⟩:=uv hs.1 hs.2.1 hs.2.2.1 hs.2.2.2 H
 have hul:=(jS (kF w v hs.1 hs.2.1 hs.2.2.1 hs.2.2.2)).2.2.2.2
 obtain⟨rs,h',hc,ks,id,rfl,h1,h2,h3,h4,h5⟩:=x16 (ls:=[.i (.ofNat w),.i (.ofNat v),.v x]) (K:=λrs h'=>∃ks id,rs=[.v (.slice (some ⟨id,0,tag 1⟩) (aF w v).length ((aF w v).length+1))]/\Pre H h'/\H.length<=id/\h'[id]? = some (.o (.cells (ks.flatMap enc8) 1 true))/\ks.length=(aF w v).length/\∀j,KindP w v l ks j) (H:=H) (glsI (glsI (glsV hl.good gls0))) (by
  unfold f16;simp only[qxh]
  simp(disch:=omega)only[↓qXX]
  refine aj cu1 ?_
  simp(disch:=omega)only[↓qXX]
  refine bY hU ?_
  refine aq (fq (by omega)) ?_
  simp(disch:=omega)only[↓qXX]
  have hpH:Pre H (H++G1):=⟨_,rfl⟩
  have hl:=hl.pre hpH
  generalize H++G1=Hm at *
  clear cu1
  generalize hN:(aF w v).length=N at *
  rw[show(Int.ofNat N).toNat=N from rfl]
  have z0:HO.o (.cells (aJ [.int .u8 0] N) 1 true)=HO.o (.cells ((List.replicate N (0:Int)).flatMap enc8) 1 true):=by
   rw[←da (enc:=enc8) (z:=(0:Int)) (n:=N)]
   rfl
  rw[z0]
  have s1:(Hm++[HO.o (.cells ((List.replicate N (0:Int)).flatMap enc8) 1 true)])[Hm.length]? = some (.o (.cells ((List.replicate N (0:Int)).flatMap enc8) 1 true)):=bj
  have s2:Pre Hm (Hm++[HO.o (.cells ((List.replicate N (0:Int)).flatMap enc8) 1 true)]):=⟨_,rfl⟩
  generalize Hm++[HO.o (.cells ((List.replicate N (0:Int)).flatMap enc8) 1 true)]=h1 at *
  refine cm (σ:=HL) N (λj _=>[.i (Int.ofNat j)]) (λ_ s=>s) (λj s=>Pre Hm s/\∃ks:List Int,s[Hm.length]? = some (.o (.cells (ks.flatMap enc8) 1 true))/\ks.length=N/\(∀i,j<=i->i<N->ks[i]? = some 0)/\∀i,i<j->KindP w v l ks i) (j0:=0) (s0:=h1) rfl rfl (qaV _) ⟨s2,List.replicate N 0,s1,by simp,λi _ hi=>by rw[qaP,if_pos hi],λi hi=>absurd hi (qbC _)⟩ ?_
  clear s1 s2
  rintro j s hj ⟨s2,ks,s1,k1,k2,k3⟩ self hself
  simp(disch:=omega)only[↓qXX]
  refine bY (hU.pre s2) ?_
  rw[hN]
  by_cases hlt:j<N
  ·rw[be hlt]
   simp(disch:=omega)only[↓qXX]
   obtain⟨u,hu⟩:=bg (l:=aF w v) (i:=j) (by omega)
   refine cm (σ:=HL) l.length (λz _=>[.i (Int.ofNat z)]) (λ_ s=>s) (λz s=>Pre Hm s/\∃(ks:List Int) (k:Int),s[Hm.length]? = some (.o (.cells (ks.flatMap enc8) 1 true))/\ks.length=N/\(∀i,j+1<=i->i<N->ks[i]? = some 0)/\(∀i,i<j->KindP w v l ks i)/\ks[j]? = some k/\KindZ l u z k) (j0:=0) (s0:=s) rfl rfl (qaV _) ⟨s2,ks,0,s1,k1,λi hi=>k2 i (by omega),k3,k2 j (qal _) hlt,⟨⟨Int.le_refl 0,by decide⟩,⟨λh=>absurd rfl h,λ⟨c,hc,_⟩=>by simp at hc⟩⟩⟩ ?_
   clear s1 s2 k1 k2 k3
   rintro z t hz ⟨s2,ks,k,s1,k1,k2,k3,k4,k5⟩ self2 hself2
   simp(disch:=omega)only[↓qXX]
   refine bY (hl.pre s2) ?_
   by_cases hlz:z<l.length
   ·rw[be hlz]
    simp(disch:=omega)only[↓qXX]
    obtain⟨c,hc⟩:=bg hlz
    have hkd:=hkd c (qag hc)
    have tk:l.take (z+1)=l.take z++[c]:=by rw[qbc,hc];rfl
    have hno:¬(c.1 = .ofNat u.1/\c.2.1 = .ofNat u.2)->KindZ l u (z+1) k:=λhne=>by
     refine⟨k5.1,k5.2.trans ?_⟩
     rw[tk]
     constructor
     ·rintro⟨c',h1,h2⟩
      exact⟨c',qaN _ h1,h2⟩
     ·rintro⟨c',h1,h2⟩
      rcases qaG.1 h1 with h1|h1
      ·exact⟨c',h1,h2⟩
      ·rw[qay]at h1
       subst h1
       exact absurd h2 hne
    refine gn (o:=0) (k:=1) (cs:=[.int .i64 c.1]) (hl.pre s2) rfl hc rfl (by omega) ?_
    simp(disch:=omega)only[↓qXX]
    refine gn (o:=0) (k:=1) (cs:=[.int .i64 (.ofNat u.1)]) (hU.pre s2) rfl hu rfl (by omega) ?_
    simp(disch:=omega)only[↓qXX]
    refine p_eql_d (λe1=>?_) (λe1=>?_)
    ·simp(disch:=omega)only[↓qXX]
     refine gn (o:=1) (k:=1) (cs:=[.int .u8 c.2.1]) (hl.pre s2) rfl hc rfl (by omega) ?_
     simp(disch:=omega)only[↓qXX]
     refine gn (o:=1) (k:=1) (cs:=[.int .u8 (.ofNat u.2)]) (hU.pre s2) rfl hu rfl (by omega) ?_
     simp(disch:=omega)only[↓qXX]
     refine p_eql_d (λe2=>?_) (λe2=>?_)
     ·simp(disch:=omega)only[↓qXX]
      refine gn (o:=2) (k:=1) (cs:=[.int .u8 c.2.2]) (hl.pre s2) rfl hc rfl (by omega) ?_
      simp(disch:=omega)only[↓qXX]
      refine fK (enc:=enc8) (l:=ks) (i:=j) (a:=c.2.2) uP s1 rfl (by omega) k1 rfl ?_
      simp(disch:=omega)only[↓qXX]
      rw[co (by omega)]
      refine hself2 _ hlz ⟨dw s2 (qal _),ks.set j c.2.2,c.2.2,cQ (bk s1),by rw[qc0];exact k1,λi hi hiN=>by rw[qat (by omega)];exact k2 i hi hiN,λi hi u' k' hu' hk'=>?_,by rw[qaE (by omega)],⟨⟨by omega,hkd.2⟩,⟨λ_=>⟨c,by rw[tk];exact qa2 _ qaB,e1,e2⟩,λ_=>by omega⟩⟩⟩
      rw[qat (by omega)]at hk'
      exact k3 i hi u' k' hu' hk'
     ·simp(disch:=omega)only[↓qXX]
      rw[co (by omega)]
      exact hself2 _ hlz ⟨s2,ks,k,s1,k1,k2,k3,k4,hno λq=>e2 q.2⟩
    ·simp(disch:=omega)only[↓qXX]
     rw[co (by omega)]
     exact hself2 _ hlz ⟨s2,ks,k,s1,k1,k2,k3,k4,hno λq=>e1 q.1⟩
   ·obtain rfl:z=l.length:=by omega
    rw[bc (qal _)]
    simp(disch:=omega)only[↓qXX]
    rw[co (by omega)]
    refine hself _ hlt ⟨s2,ks,s1,k1,k2,λi hi=>?_⟩
    rcases qaw i j with h|h
    ·exact k3 i h
    ·obtain rfl:i=j:=by omega
     intro u' k' hu' hk'
     rw[hu]at hu'
     cases hu'
     rw[k4]at hk'
     cases hk'
     exact kindZ_end k5
  ·obtain rfl:j=N:=by omega
   rw[bc (qal _)]
   simp(disch:=omega)only[↓qXX]
   refine⟨ks,Hm.length,rfl,hpH.trans s2,hpH.len,s1,k1,λi u' k' hu' hk'=>?_⟩
   exact k3 i (by have:=bk hk';omega) u' k' hu' hk')
 exact⟨ks,id,h',hc,h1,h2,h3,h4,h5⟩
set_option maxHeartbeats 16000000
def Ful{α:Type}(h:HL)(x:Value)(e:Nat)(enc:α->List Value)(l:List α):Prop:=∃id,x = .slice (some ⟨id,0,tag e⟩) l.length (l.length+1)/\h[id]? = some (.o (.cells (l.flatMap enc) e true))
theorem Ful.ls{α:Type}{h:HL}{x:Value}{e:Nat}{enc:α->List Value}{l:List α}(henc:∀a,(enc a).length=e)(hf:Ful h x e enc l):LsH h x e enc l:=by
 obtain⟨id,rfl,h1⟩:=hf
 exact gj henc h1 rfl
theorem Ful.pre{α:Type}{h h':HL}{x:Value}{e:Nat}{enc:α->List Value}{l:List α}(hf:Ful h x e enc l)(hp:Pre h h'):Ful h' x e enc l:=by
 obtain⟨id,rfl,h1⟩:=hf
 exact⟨id,rfl,hp.get h1⟩
theorem Ful.cap{α:Type}{h:HL}{x:Value}{e:Nat}{enc:α->List Value}{l:List α}(hf:Ful h x e enc l):capS x=some (Int.ofNat l.length):=by
 obtain⟨id,rfl,h1⟩:=hf
 exact cap_full
abbrev cN:Value:=.slice none 0 0
def allV(w:Nat)(G:Nat->Mv)(r:Mv)(n:Nat):Prop:=∀c,c<n->vMv (aY (G c) r)=true/\vCl (bF (aY (G c) r) (clN w c))=true
theorem allV.succ{w:Nat}{G:Nat->Mv}{r:Mv}{n:Nat}(h:allV w G r n)(h1:vMv (aY (G n) r)=true)(h2:vCl (bF (aY (G n) r) (clN w n))=true):allV w G r (n+1):=λc hc=>by
 by_cases e:c=n
 ·subst e;exact⟨h1,h2⟩
 ·exact h c (by omega)
structure ConsO(w v:Nat)(l:List Crs)(G:Nat->Mv):Prop where
 g:jf w v l G
 z:G 0=idM
 ok:∀c,c<4*w*v->okM 2000 (G c)
theorem GoodA.consO{w v:Nat}(hs:Sh w v){l:List Crs}{A:List Mv}(h:GoodA w v l A):ConsO w v l (λc=>A.getD c idM):=by
 have hN:=sh_N hs
 have hg:∀c,c<4*w*v->A[c]? = some (A.getD c idM):=λc hc=>by
  obtain⟨a,ha⟩:=bg (l:=A) (i:=c) (by rw[h.len];exact hc)
  rw[List.getD_eq_getElem?_getD,ha];rfl
 refine⟨λc e n hc he hn=>?_,?_,λc hc=>h.ok _ (qag (hg c hc))⟩
 ·have h1:=h.cons c e n _ hc he hn (hg c hc)
  rw[hg n (mz hs hc he hn).1]at h1
  exact qan h1
 ·have h1:=h.a0
  rw[hg 0 (by omega)]at h1
  exact qan h1
theorem pE{w v:Nat}(hs:Sh w v){j:Nat}(hj:j<4*w*v):-1000<=(clN w j).1/\(clN w j).1<=1000/\-1000<=(clN w j).2.1/\(clN w j).2.1<=1000/\(clN w j).2.2<4:=by
 have hN:=sh_N hs
 have d1:j / 4%w<=j / 4:=qdD _ _
 have d2:j / 4 / w<=j / 4:=qcY _ _
 refine⟨?_,?_,?_,?_,qb2 _ (by omega)⟩
 ·exact qdt (show(-1000:Int)<=0 by decide) (qa7 _)
 ·exact qds.2 (show j / 4%w<=1000 by omega)
 ·exact qdt (show(-1000:Int)<=0 by decide) (qa7 _)
 ·exact qds.2 (show j / 4 / w<=1000 by omega)
def BothR(w v:Nat)(l:List Crs)(r:Mv)(rs:List Lf)(h':HL):Prop:=
 (rs=[.v cN,.v cN,.i 11]/\¬ ∃G,jf w v l G/\G 0=idM)∨
 ∃G,ConsO w v l G/\((rs=[.v cN,.v cN,.i 3]/\¬allV w G r (4*w*v))∨
  (∃lx ix,rs=[.v lx,.v ix,.i 0]/\allV w G r (4*w*v)/\Ful h' lx 3 encM (plL w v G r)/\Ful h' ix 3 az (imL w v G r)))
theorem both_c{w v:Nat}(hs:Sh w v){l:List Crs}(hk:(l.map dE).Nodup)(hl0:l.length<=1000){H:HL}{x:Value}(hl:LsH H x 3 encC l)(hck:aB cc ab 32 [.i (.ofNat w),.i (.ofNat v),.v x] (absH aa H) [.i 0] (absH aa H))
  {r:Mv} (hr:okM 16384 r) :
  ∃rs h',aB cc ab 42 ([.i (.ofNat w),.i (.ofNat v),.v x]++mvl r) (absH aa H) rs (absH aa h')/\Pre H h'/\BothR w v l r rs h':=by
 have hN:=sh_N hs
 obtain⟨rs1,h1,c1,hpre1,hrel⟩:=wU hs hk hl0 hl
 have key:=x42 (ls:=[.i (.ofNat w),.i (.ofNat v),.v x,.i (Int.ofNat r.1),.i r.2.1,.i r.2.2]) (K:=λrs h'=>Pre H h'/\BothR w v l r rs h') (H:=H) (glsI (glsI (glsV hl.good (glsI (glsI (glsI gls0)))))) (by
  unfold f42;simp only[qxh]
  simp(disch:=omega)only[↓qXX]
  refine aj hck ?_
  simp(disch:=omega)only[↓qXX]
  refine ae (ql hr (by omega)) ?_
  simp(disch:=omega)only[↓qXX]
  refine aj c1 ?_
  rcases hrel with⟨A,id,rfl,hid,hol,hA⟩|⟨rfl,hno⟩
  case inr=>
   simp(disch:=omega)only[↓qXX]
   exact⟨hpre1,.inl ⟨by trivial,hno⟩⟩
  simp(disch:=omega)only[↓qXX]
  have hG:=hA.consO hs
  generalize hGd:(λc=>A.getD c idM)=G at hG
  have hAG:=hA.eq hs hG.g hG.z
  have hP:(plL w v G r).length=A.length:=by rw[hA.len];simp[plL]
  have hI:(imL w v G r).length=4*w*v:=by simp[imL]
  have hidl:=bk hol
  refine aq (x:=Int.ofNat (4*w*v)) rfl ?_
  refine aq (fq (by omega)) ?_
  simp(disch:=omega)only[↓qXX]
  rw[show(Int.ofNat (4*w*v)).toNat=4*w*v from rfl]
  have z0:HO.o (.cells (aJ [.int .i64 0,.int .i64 0,.int .u8 0] (4*w*v)) 3 true)=HO.o (.cells ((List.replicate (4*w*v) ((0,0,0):Cl)).flatMap az) 3 true):=by
   rw[←da (enc:=az) (z:=((0,0,0):Cl)) (n:=4*w*v)]
   rfl
  rw[z0]
  refine aq (x:=Int.ofNat (4*w*v)) rfl ?_
  have hZ:(imL w v G r).length=(List.replicate (4*w*v) ((0,0,0):Cl)).length:=by rw[hI];simp
  have s1:(h1++[HO.o (.cells ((List.replicate (4*w*v) ((0,0,0):Cl)).flatMap az) 3 true)])[id]? = some (.o (.cells (A.flatMap encM) 3 true)):=Pre.get ⟨_,rfl⟩ hol
  have s2:(h1++[HO.o (.cells ((List.replicate (4*w*v) ((0,0,0):Cl)).flatMap az) 3 true)])[h1.length]? = some (HO.o (.cells ((List.replicate (4*w*v) ((0,0,0):Cl)).flatMap az) 3 true)):=bj
  have s3:Pre H (h1++[HO.o (.cells ((List.replicate (4*w*v) ((0,0,0):Cl)).flatMap az) 3 true)]):=hpre1.app _
  have hix:h1.length≠id:=by omega
  have hHi:H.length<=h1.length:=hpre1.len
  generalize List.replicate (4*w*v) ((0,0,0):Cl)=Z at *
  generalize h1++[HO.o (.cells (Z.flatMap az) 3 true)]=h2 at *
  generalize h1.length=iX at *
  refine cm (σ:=HL) (4*w*v) (λj _=>[.i (Int.ofNat j)]) (λ_ s=>s) (λj s=>Pre H s/\s[id]? = some (.o (.cells (((plL w v G r).take j++A.drop j).flatMap encM) 3 true))/\s[iX]? = some (.o (.cells (((imL w v G r).take j++Z.drop j).flatMap az) 3 true))/\allV w G r j) (j0:=0) (s0:=h2) rfl rfl (qaV _) ⟨s3,by simpa using s1,by simpa using s2,λc hc=>by omega⟩ ?_
  clear s1 s2 s3
  rintro j h hj ⟨s3,s1,s2,hall⟩ self hself
  simp(disch:=omega)only[↓qXX]
  by_cases hlt:j<4*w*v
  ·rw[be hlt]
   simp(disch:=omega)only[↓qXX]
   have ha:=hAG j hlt
   have hLj:=mQ (G:=G) (r:=r) hlt
   have hIj:=mi (G:=G) (r:=r) hlt
   have lenP:=tI (j:=j) hP (by rw[hP,hA.len];omega)
   have lenI:=tI (j:=j) hZ (by rw[hI];omega)
   refine bh (gj bD s1 (by rw[lenP,hA.len])) rfl (mid_get ha hP) ?_
   unfold encM
   simp(disch:=omega)only[↓qXX]
   refine ae (cellIn (kF w v hs.1 hs.2.1 hs.2.2.1 hs.2.2.2) hlt) ?_
   unfold cellN
   simp(disch:=omega)only[↓qXX]
   have okG:okM 2000 (G j):=hA.ok _ (qag ha)
   have okT:=dg okG hr
   refine ae (then_w okG hr) ?_
   cases hvm:vMv (aY (G j) r)with
   |false=>
    simp only[qaj,if_false]
    simp(disch:=omega)only[↓qXX]
    refine fK (enc:=encM) (l:=(plL w v G r).take j++A.drop j) (i:=j) (a:=idM) bD s1 rfl (by rw[lenP,hA.len];exact hlt) (by rw[lenP,hA.len]) rfl ?_
    simp(disch:=omega)only[↓qXX]
    exact⟨dw s3 hid,.inr ⟨G,hG,.inl ⟨by trivial,λq=>by rw[(q j hlt).1]at hvm;cases hvm⟩⟩⟩
   |true=>
   simp only[if_true]
   have hvm2:vMv (aY (G j) r)=true:=hvm
   have okT2:=vMv_ok okT hvm2
   have hcell:=pE hs hlt
   have hv2:=hvm2
   generalize hm:aY (G j) r=m at *
   simp only[mvl,qaD,qaC]
   simp(disch:=omega)only[↓qXX]
   refine fK (enc:=encM) (l:=(plL w v G r).take j++A.drop j) (i:=j) (a:=m) bD s1 rfl (by rw[lenP,hA.len];exact hlt) (by rw[lenP,hA.len]) rfl ?_
   rw[take_set hLj hP]
   have s1':(putE h id 3 encM ((plL w v G r).take (j+1)++A.drop (j+1)))[id]? = some (.o (.cells (((plL w v G r).take (j+1)++A.drop (j+1)).flatMap encM) 3 true)):=cQ (bk s1)
   have s2':(putE h id 3 encM ((plL w v G r).take (j+1)++A.drop (j+1)))[iX]? = some (.o (.cells (((imL w v G r).take j++Z.drop j).flatMap az) 3 true)):=by rw[cJ hix];exact s2
   have s3':Pre H (putE h id 3 encM ((plL w v G r).take (j+1)++A.drop (j+1))):=dw s3 hid
   generalize putE h id 3 encM ((plL w v G r).take (j+1)++A.drop (j+1))=h3 at *
   simp(disch:=omega)only[↓qXX]
   have lenP1:=tI (j:=j+1) hP (by rw[hP,hA.len];omega)
   refine bh (a:=m) (gj bD s1' (by rw[lenP1,hA.len])) rfl ?_ ?_
   ·rw[qae (by rw[qaI,hP,hA.len];omega),qa1,if_pos (by omega)]
    exact hLj
   unfold encM
   simp(disch:=omega)only[↓qXX]
   refine ae (move_w (c:=clN w j) okT2 hcell) ?_
   cases hvc:vCl (bF m (clN w j))with
   |false=>
    simp only[qaj,if_false]
    simp(disch:=omega)only[↓qXX]
    refine fK (enc:=az) (l:=(imL w v G r).take j++Z.drop j) (i:=j) (a:=((0,0,0):Cl)) bw s2' rfl (by rw[lenI,←hZ,hI];exact hlt) (by rw[lenI,←hZ,hI]) rfl ?_
    simp(disch:=omega)only[↓qXX]
    exact⟨dw s3' hHi,.inr ⟨G,hG,.inl ⟨by trivial,λq=>by
     have:=(q j hlt).2
     rw[hm,hvc]at this
     cases this⟩⟩⟩
   |true=>
   simp only[if_true]
   generalize hci:bF m (clN w j)=ci at *
   simp only[cll,qaD,qaC]
   simp(disch:=omega)only[↓qXX]
   refine fK (enc:=az) (l:=(imL w v G r).take j++Z.drop j) (i:=j) (a:=ci) bw s2' rfl (by rw[lenI,←hZ,hI];exact hlt) (by rw[lenI,←hZ,hI]) rfl ?_
   rw[take_set hIj hZ]
   simp(disch:=omega)only[↓qXX]
   rw[co (by omega)]
   refine hself _ hlt ⟨dw s3' hHi,by rw[cJ (qbZ hix)];exact s1',cQ (bk s2'),hall.succ (by rw[hm];exact hv2) (by rw[hm,hci];exact hvc)⟩
  ·obtain rfl:j=4*w*v:=by omega
   rw[bc (qal _)]
   simp(disch:=omega)only[↓qXX]
   rw[qaJ (by rw[hP,hA.len];exact qal _),qbB (by rw[hA.len];exact qal _),qa0]at s1
   rw[qaJ (by rw[hI];exact qal _),qbB (by rw[←hZ,hI];exact qal _),qa0]at s2
   have e1:(plL w v G r).length=4*w*v:=by rw[hP,hA.len]
   refine⟨s3,.inr ⟨G,hG,.inr ⟨_,_,rfl,hall,⟨id,?_,s1⟩,⟨iX,?_,s2⟩⟩⟩⟩
   ·rw[e1]
   ·rw[hI];rfl)
 obtain⟨rs,h',h2,h3,h4⟩:=key
 exact⟨rs,h',h2,h3,h4⟩
set_option maxHeartbeats 8000000
def tabRl:Bool:=(List.range 5).all λx=>(List.range 5).all λy=>(List.range 4).all λq=>(List.range 3).all λe=>
 sO 45 [.i (.ofNat x),.i (.ofNat y),.i (.ofNat q),.i (.ofNat e)] [.i (.ofNat (lnC3 (Int.ofNat x,Int.ofNat y,q) e).1),.i (lnC3 (Int.ofNat x,Int.ofNat y,q) e).2]
theorem rl_all:tabRl=true:=by kernel_rfl
theorem rline_c{w v c e:Nat}(hs:Sh w v)(hc:c<4*w*v)(he:e<3):Cc 45 [.i (clN w c).1,.i (clN w c).2.1,.i (.ofNat (clN w c).2.2),.i (.ofNat e)] [.i (.ofNat (lnC3 (clN w c) e).1),.i (lnC3 (clN w c) e).2]:=by
 have h1:c / 4%w<5:=qcw (qb2 _ hs.1) hs.2.1
 have h2:c / 4 / w<5:=by
  have:c / 4<w*v:=by
   rw[Nat.div_lt_iff_lt_mul (by omega)]
   rw[qdA]at hc;omega
  have h3:c / 4 / w<v:=Nat.div_lt_of_lt_mul this
  have:=hs.2.2.2
  omega
 have h3:c%4<4:=qb2 _ (by omega)
 have:=qab.1 (qab.1 (qab.1 (qab.1 rl_all (c / 4%w) (qai.2 h1)) (c / 4 / w) (qai.2 h2)) (c%4) (qai.2 h3)) e (qai.2 he)
 exact iq this rfl (by kernel_rfl) rfl
def acK(c:Cl)(e:Nat)(k:Int)(g:Mv):Mv:=if k=0 then g else aY (ofM (lnC3 c e)) g
theorem sy{w v c e:Nat}(hs:Sh w v)(hc:c<4*w*v)(he:e<3){k:Int}{g:Mv}(hg:okM 19000 g) :
  Cc 31 [.i (clN w c).1,.i (clN w c).2.1,.i (.ofNat (clN w c).2.2),.i (.ofNat e),.i k,.i (.ofNat g.1),.i g.2.1,.i g.2.2] (mvl (acK (clN w c) e k g)):=by
 have hl:=ln_ok hs hc he
 refine q31 rfl ?_;unfold f31;simp only[qxh]
 simp(disch:=omega)only[↓qXX]
 unfold acK
 by_cases hk:k=0
 ·rw[p_eql_t hk,if_pos hk]
  simp(disch:=omega)only[↓qXX]
 ·rw[p_eql_f hk,if_neg hk]
  simp(disch:=omega)only[↓qXX]
  refine ae (rline_c hs hc he) ?_
  simp(disch:=omega)only[↓qXX]
  refine ae (rof_c (l:=lnC3 (clN w c) e) ⟨hl.1,hl.2.1⟩ (by omega)) ?_
  simp only[mvl,qaD,qaC]
  simp(disch:=omega)only[↓qXX]
  refine ae (rthen_c (a:=ofM (lnC3 (clN w c) e)) (b:=g) (vp (n:=10) ⟨hl.2.2.1,hl.2.2.2⟩) hg (by omega)) ?_
  simp only[mvl,qaD,qaC]
  simp(disch:=omega)only[↓qXX]
theorem then_inj{a b r:Mv}(ha:a.1<8)(hb:b.1<8)(hr:r.1<8)(h:aY a r=aY b r):a=b:=by
 have h1:aY (aY a r) (invM r)=aY (aY b r) (invM r):=by rw[h]
 have hi:(invM r).1<8:=by
  obtain⟨t,x,y⟩:=r
  have hr:t<8:=hr
  show invT t<8
  rcases t8 hr with rfl|rfl|rfl|rfl|rfl|rfl|rfl|rfl<;>decide
 rw[fD ha hr hi,fD hb hr hi,inv_id hr,vY ha,vY hb]at h1
 exact h1
theorem uC{c:Cl}{e:Nat}{k:Int}{g r:Mv}(hg:g.1<8)(hr:r.1<8):acK c e k (aY g r)=aY (acK c e k g) r:=by
 unfold acK
 split
 ·rfl
 ·rw[fD (ofM_lt _) hg hr]
theorem acK_acM{w v:Nat}(hs:Sh w v){l:List Crs}{c e n:Nat}(hc:c<4*w*v)(he:e<3)(hn:nbr w v c e=some n){k:Int}(hk:k≠0↔isCr l (min c n) e=true){g:Mv}:acK (clN w c) e k g=acM w l g c n e:=by
 obtain⟨_,h2⟩:=tJ hs hc he hn
 unfold acK acM
 by_cases h:k=0
 ·rw[if_pos h,if_neg (λq=>hk.2 q h)]
 ·rw[if_neg h,if_pos (hk.1 h),h2]
theorem acM_lt{w:Nat}{l:List Crs}{g:Mv}{c n e:Nat}(hg:g.1<8):(acM w l g c n e).1<8:=by
 unfold acM
 split
 ·exact qn
 ·exact hg
set_option maxHeartbeats 16000000
def encK(t:Bool):List Value:=[.int .i64 (if t then 1 else 0)]
theorem pK(t:Bool):(encK t).length=1:=rfl
def bhL(w v:Nat):List Nat:=(aF w v).map λu=>(nbr w v u.1 u.2).getD 0
theorem sW{w v j c e n:Nat}(hu:(aF w v)[j]? = some (c,e))(hn:nbr w v c e=some n):(bhL w v)[j]? = some n:=by
 unfold bhL
 rw[qas,hu]
 simp[hn]
structure RP(w v:Nat)(l:List Crs)(r:Mv)(O:List Mv)(B:List Bool)(g:Nat->Mv):Prop where
 lo:O.length=4*w*v
 lb:B.length=4*w*v
 b0:B[0]? = some true
 g0:g 0=idM
 kn:∀c,B[c]? = some true->O[c]? = some (aY (g c) r)/\okM (20*(cntT B:Int)) (g c)/\∀G,jf w v l G->G 0=idM->g c=G c
section
variable {w v:Nat} {l:List Crs} {r:Mv} {O:List Mv} {B:List Bool} {g:Nat->Mv}
theorem RP.step(hs:Sh w v)(h:RP w v l r O B g){a b e:Nat}(ha:a<4*w*v)(he:e<3)(hn:nbr w v a e=some b)(hba:B[a]? = some true)(hbb:B[b]? = some false) :
  RP w v l r (O.set b (aY (acM w l (g a) a b e) r)) (B.set b true) (λc=>if c=b then acM w l (g a) a b e else g c):=by
 have hb:=(mz hs ha he hn).1
 have hne:0≠b:=by rintro rfl;rw[h.b0]at hbb;cases hbb
 have hc:=fk hbb
 refine⟨by simp[h.lo],by simp[h.lb],by rw[qat (qbZ hne)];exact h.b0,by rw[if_neg hne];exact h.g0,λc hcb=>?_⟩
 by_cases e1:c=b
 ·subst e1
  obtain⟨k1,k2,k3⟩:=h.kn a hba
  rw[if_pos rfl]
  refine⟨by rw[qaE (by rw[h.lo];exact hb)],?_,λG hG h0=>?_⟩
  ·have:=acM_ok hs (l:=l) ha he hn k2 (by omega)
   exact cp this (by rw[hc];simp;omega)
  ·rw[k3 G hG h0]
   exact(hG a e c ha he hn).symm
 ·rw[if_neg e1,qat (qbZ e1)]
  rw[qat (qbZ e1)]at hcb
  obtain⟨k1,k2,k3⟩:=h.kn c hcb
  exact⟨k1,cp k2 (by rw[hc];simp;omega),k3⟩
theorem RP.cnt(h:RP w v l r O B g):cntT B<=4*w*v:=by have:=jl B;rw[h.lb]at this;exact this
theorem RP.all(hs:Sh w v)(h:RP w v l r O B g)(hq:∀(j c e n:Nat),(aF w v)[j]? = some (c,e)->nbr w v c e=some n->B[c]? = B[n]?):∀c,c<4*w*v->B[c]? = some true:=by
 refine qo hs (P:=λc=>B[c]? = some true) h.b0 λc e n hc he hn hb=>?_
 obtain⟨g1,g2,_,_,g5⟩:=mz hs hc he hn
 rcases qaw c n with hlt|hge
 ·obtain⟨j,hj⟩:=qaQ (oq hc he hn hlt)
  rw[←hq j c e n hj hn];exact hb
 ·obtain⟨j,hj⟩:=qaQ (oq g1 he g2 (by omega))
  rw[hq j n e c hj g2];exact hb
theorem pG(hs:Sh w v){l:List Crs}{g:Nat->Mv}(hg:∀c,c<4*w*v->(g c).1<8)(h:∀(j c e n:Nat),(aF w v)[j]? = some (c,e)->nbr w v c e=some n->g n=acM w l (g c) c n e):jf w v l g:=by
 intro c e n hc he hn
 obtain⟨g1,g2,g3,_,g5⟩:=mz hs hc he hn
 rcases qaw c n with hlt|hge
 ·obtain⟨j,hj⟩:=qaQ (oq hc he hn hlt)
  exact h j c e n hj hn
 ·obtain⟨j,hj⟩:=qaQ (oq g1 he g2 (by omega))
  have h1:=h j n e c hj g2
  rw[h1]
  unfold acM
  rw[Nat.min_comm n c]
  split
  ·rw[←fD (ofM_lt _) (ofM_lt _) (hg n g1),ofM_twice,vb (hg n g1)]
  ·rfl
end
structure RB(H h:HL)(io ib:Nat)(O:List Mv)(B:List Bool):Prop where
 pre:Pre H h
 o:h[io]? = some (.o (.cells (O.flatMap encM) 3 true))
 b:h[ib]? = some (.o (.cells (B.flatMap encK) 1 true))
 ne:io≠ib
 ho:H.length<=io
 hb:H.length<=ib
theorem RB.putO{H h:HL}{io ib:Nat}{O O':List Mv}{B:List Bool}(hr:RB H h io ib O B):RB H (putE h io 3 encM O') io ib O' B:=
 ⟨dw hr.pre hr.ho,cQ (bk hr.o),by rw[cJ (qbZ hr.ne)];exact hr.b,hr.ne,hr.ho,hr.hb⟩
theorem RB.putB{H h:HL}{io ib:Nat}{O:List Mv}{B B':List Bool}(hr:RB H h io ib O B):RB H (putE h ib 1 encK B') io ib O B':=
 ⟨dw hr.pre hr.hb,by rw[cJ hr.ne];exact hr.o,cQ (bk hr.b),hr.ne,hr.ho,hr.hb⟩
theorem cvN{e:Nat}(h:e<=1000000){K:Int->Prop}:P1.conv .i64 (Int.ofNat e) (@hid _ ⟨K⟩)=K (Int.ofNat e):=p_conv (by simp only[qaO];omega) (by simp only[qaO];omega)
theorem vt{b:List Lf->HL->Prop}{m:(List Lf->HL->Prop)->Prop}(P:List Lf->HL->Prop)(h1:∀l h,P l h->b l h)(h2:∀j:List Lf->HL->Prop,(∀l h,P l h->j l h)->m j):P1.join (@hid _ ⟨b⟩) (@hid _ ⟨m⟩):=h2 _ h1
theorem p_eqlK{t:Bool}{K:Bool->Prop}:P1.cmp .eql (if t=true then 1 else 0) 1 (@hid _ ⟨K⟩)=K t:=by
 cases t with
 |true=>exact p_eql_t (by simp)
 |false=>exact p_eql_f (by simp)
def RefR(w v:Nat)(l:List Crs)(r:Mv)(rs:List Lf)(h':HL):Prop:=
 (rs=[.v cN,.i 0]/\¬ ∃G,jf w v l G/\G 0=idM)∨∃G,ConsO w v l G/\∃ox,rs=[.v ox,.i 1]/\Ful h' ox 3 encM (plL w v G r)
theorem rplaces_c{w v:Nat}(hs:Sh w v){l:List Crs}(hkd:∀c∈l,1<=c.2.2/\c.2.2<=3)(hll:l.length<=1000){H:HL}{x:Value}(hl:LsH H x 3 encC l){r:Mv}(hr:okM 16384 r) :
  ∃rs h',aB cc ab 8 ([.i (.ofNat w),.i (.ofNat v),.v x]++mvl r) (absH aa H) rs (absH aa h')/\Pre H h'/\RefR w v l r rs h':=by
 have hN:=sh_N hs
 have hul:=(jS (kF w v hs.1 hs.2.1 hs.2.2.1 hs.2.2.2)).2.2.2.2
 obtain⟨ux,G1,cu,hU⟩:=uv hs.1 hs.2.1 hs.2.2.1 hs.2.2.2 H
 obtain⟨ks,kid,h2,ck,kp,_,kk,kl,kP⟩:=kinds_c hs hkd hll (hl.pre (h':=H++G1) ⟨_,rfl⟩)
 obtain⟨sx,G3,cs,hC⟩:=cells_c hs h2
 have key:=x8 (ls:=[.i (.ofNat w),.i (.ofNat v),.v x,.i (Int.ofNat r.1),.i r.2.1,.i r.2.2]) (K:=λrs h'=>Pre H h'/\RefR w v l r rs h') (H:=H) (glsI (glsI (glsV hl.good (glsI (glsI (glsI gls0)))))) (by
  unfold f8;simp only[qxh]
  simp(disch:=omega)only[↓qXX]
  refine aj cu ?_
  simp(disch:=omega)only[↓qXX]
  refine aj ck ?_
  simp(disch:=omega)only[↓qXX]
  refine aj cs ?_
  simp(disch:=omega)only[↓qXX]
  have pH:Pre H (h2++G3):=(Pre.trans ⟨G1,rfl⟩ kp).app G3
  have hU:=hU.pre (kp.app G3)
  have hK:=(gj (cx:=(aF w v).length+1) uP kk kl.symm).pre (h':=h2++G3) ⟨_,rfl⟩
  generalize hkx:Value.slice (some ⟨kid,0,tag 1⟩) (aF w v).length ((aF w v).length+1)=kx at *
  generalize h2++G3=h3 at *
  clear cu ck cs kp kk
  have hunit:∀ {j c e:Nat},(aF w v)[j]? = some (c,e)->c<4*w*v/\e<3/\∃n,nbr w v c e=some n/\c<n:=λhj=>unit_ok (qag hj)
  refine cm (σ:=Value×HL) (aF w v).length (λj s=>[.v s.1,.i (Int.ofNat j)]) (λ_ s=>s.2) (λj s=>Pre h3 s.2/\MkL h3.length s.2 s.1 1 encN ((bhL w v).take j)/\aP s.1=true) (j0:=0) (s0:=(.slice none 0 0,h3)) rfl rfl (qaV _) ⟨Pre.refl _,MkL.nil _ _ _ _,rfl⟩ ?_
  rintro j ⟨sv,h4⟩ hj ⟨hp4,hm4,hg4⟩ self hself
  simp only at hp4 hm4 hg4 hself ⊢
  simp(disch:=omega)only[↓qXX]
  refine bY (hU.pre hp4) ?_
  by_cases hlt:j<(aF w v).length
  ·rw[be hlt]
   simp(disch:=omega)only[↓qXX]
   obtain⟨⟨c,e⟩,hu⟩:=bg hlt
   obtain⟨hc,he,n,hn,hcn⟩:=hunit hu
   refine gn (o:=0) (k:=1) (cs:=[.int .i64 (.ofNat c)]) (hU.pre hp4) rfl hu rfl (by omega) ?_
   simp(disch:=omega)only[↓qXX]
   refine gn (o:=1) (k:=1) (cs:=[.int .u8 (.ofNat e)]) (hU.pre hp4) rfl hu rfl (by omega) ?_
   simp(disch:=omega)only[↓qXX]
   rw[cvN (by omega)]
   refine ae (rnb_c hs (qag hu) hn) ?_
   simp(disch:=omega)only[↓qXX]
   have hbl:((bhL w v).take j).length=j:=by
    rw[qaI,show(bhL w v).length=(aF w v).length by simp[bhL]];omega
   refine mM (h0:=h3) (a:=n) hp4 hm4 rfl rfl rfl rfl (by
    unfold bZ
    rw[qaa,qbd,qbd,hbl]
    omega) λv' h' hp' hm' hg' _ _=>?_
   simp(disch:=omega)only[↓qXX]
   refine bf hg' ?_
   simp(disch:=omega)only[↓qXX]
   rw[co (by omega)]
   refine hself (v',h') hlt ⟨hp',?_,hg'⟩
   have:(bhL w v).take (j+1)=(bhL w v).take j++[n]:=by rw[qbc,sW hu hn];rfl
   rw[this]
   exact hm'
  rw[bc (by omega)]
  simp(disch:=omega)only[↓qXX]
  obtain rfl:j=(aF w v).length:=by omega
  rw[qaJ (by simp[bhL])]at hm4
  have hBh:=hm4.ls
  have hU:=hU.pre hp4
  have hK:=hK.pre hp4
  have hC:=hC.pre hp4
  have pH:=pH.trans hp4
  clear hm4 hp4 hj
  refine bY hC ?_
  rw[ji]
  refine aq (fq (by omega)) ?_
  simp(disch:=omega)only[↓qXX]
  rw[show(Int.ofNat (4*w*v)).toNat=4*w*v from rfl]
  refine aq hC.len ?_
  rw[ji]
  refine aq (fq (by omega)) ?_
  simp(disch:=omega)only[↓qXX]
  rw[show(Int.ofNat (4*w*v)).toNat=4*w*v from rfl]
  have z0:HO.o (.cells (aJ [.int .u8 0,.int .i64 0,.int .i64 0] (4*w*v)) 3 true)=HO.o (.cells ((List.replicate (4*w*v) idM).flatMap encM) 3 true):=by
   rw[←da (enc:=encM) (z:=idM) (n:=4*w*v)]
   rfl
  have z1:HO.o (.cells (aJ [.int .i64 0] (4*w*v)) 1 true)=HO.o (.cells ((List.replicate (4*w*v) false).flatMap encK) 1 true):=by
   rw[←da (enc:=encK) (z:=false) (n:=4*w*v)]
   rfl
  rw[z0,z1]
  have r0:RB H (h4++[HO.o (.cells ((List.replicate (4*w*v) idM).flatMap encM) 3 true)]++[HO.o (.cells ((List.replicate (4*w*v) false).flatMap encK) 1 true)]) h4.length (h4++[HO.o (.cells ((List.replicate (4*w*v) idM).flatMap encM) 3 true)]).length (List.replicate (4*w*v) idM) (List.replicate (4*w*v) false):=
   ⟨(pH.app _).app _,Pre.get ⟨_,rfl⟩ bj,bj,by simp,pH.len,by have:=pH.len;simp;omega⟩
  have p45:Pre h4 (h4++[HO.o (.cells ((List.replicate (4*w*v) idM).flatMap encM) 3 true)]++[HO.o (.cells ((List.replicate (4*w*v) false).flatMap encK) 1 true)]):=⟨_,qaM ..⟩
  have hio:h4.length<=h4.length:=qal _
  have hib:h4.length<=(h4++[HO.o (.cells ((List.replicate (4*w*v) idM).flatMap encM) 3 true)]).length:=by simp
  generalize h4++[HO.o (.cells ((List.replicate (4*w*v) idM).flatMap encM) 3 true)]++[HO.o (.cells ((List.replicate (4*w*v) false).flatMap encK) 1 true)]=h5 at *
  generalize (h4++[HO.o (.cells ((List.replicate (4*w*v) idM).flatMap encM) 3 true)]).length=ib at *
  generalize hiod:h4.length=io at *
  have hUk:=hU.pre p45
  have hN4:0<4*w*v:=hN.1
  have old:∀ {h:HL} {O:List Mv} {B:List Bool},RB H h io ib O B->Pre h4 h->True:=λ_ _=>trivial
  refine fK (enc:=encM) (l:=List.replicate (4*w*v) idM) (i:=0) (a:=r) bD r0.o rfl (by simpa using hN4) (by simp) rfl ?_
  have r1:=r0.putO (O':=(List.replicate (4*w*v) idM).set 0 r)
  have p46:Pre h4 (putE h5 io 3 encM ((List.replicate (4*w*v) idM).set 0 r)):=dw p45 (by omega)
  generalize putE h5 io 3 encM ((List.replicate (4*w*v) idM).set 0 r)=h6 at *
  try simp(disch:=omega)only[↓qXX]
  refine fK (enc:=encK) (l:=List.replicate (4*w*v) false) (i:=0) (a:=true) pK r1.b rfl (by simpa using hN4) (by simp) rfl ?_
  have r2:=r1.putB (B':=(List.replicate (4*w*v) false).set 0 true)
  have p47:Pre h4 (putE h6 ib 1 encK ((List.replicate (4*w*v) false).set 0 true)):=dw p46 (by omega)
  generalize putE h6 ib 1 encK ((List.replicate (4*w*v) false).set 0 true)=h7 at *
  try simp(disch:=omega)only[↓qXX]
  have q0:RP w v l r ((List.replicate (4*w*v) idM).set 0 r) ((List.replicate (4*w*v) false).set 0 true) (λ_=>idM):=by
   refine⟨by simp,by simp,by rw[qaE (by simpa using hN4)],rfl,λc hc=>?_⟩
   by_cases e1:c=0
   ·subst e1
    refine⟨by rw[qaE (by simpa using hN4),vb hr.1],okM_id (by omega),λG _ h0=>h0.symm⟩
   ·rw[qat (qbZ e1),qaP]at hc
    split at hc<;>cases hc
  generalize (List.replicate (4*w*v) idM).set 0 r=O0 at *
  generalize (List.replicate (4*w*v) false).set 0 true=B0 at *
  generalize (λ_:Nat=>idM)=g0 at q0
  clear r0 r1 p45 p46 hUk old z0 z1
  refine jB (m:=2*(4*w*v - cntT B0)+1) (λm ls h'=>∃(t:Bool) (O:List Mv) (B:List Bool) (g:Nat->Mv),ls=[.b t]/\RB H h' io ib O B/\Pre h4 h'/\RP w v l r O B g/\m=2*(4*w*v - cntT B)+(if t then 1 else 0)/\(t=false->∀(j c e n:Nat),(aF w v)[j]? = some (c,e)->nbr w v c e=some n->B[c]? = B[n]?)) ⟨true,O0,B0,g0,rfl,r2,p47,q0,rfl,λq=>by cases q⟩ ?_
  clear r2 p47 q0
  rintro m ls h' ⟨t,O,B,g,rfl,hr2,hp2,hq,rfl,hdone⟩ self2 hself2
  refine hidL ?_
  simp(disch:=omega)only[↓qXX]
  cases t with
  |true=>
   simp(disch:=omega)only[↓qXX]
   refine cm (σ:=HL×Bool×List Mv×List Bool×(Nat->Mv)) (aF w v).length (λj s=>[.b s.2.1,.i (Int.ofNat j)]) (λ_ s=>s.1) (λj s=>RB H s.1 io ib s.2.2.1 s.2.2.2.1/\Pre h4 s.1/\RP w v l r s.2.2.1 s.2.2.2.1 s.2.2.2.2/\cntT B<=cntT s.2.2.2.1/\(s.2.1=true->cntT B<cntT s.2.2.2.1)/\(s.2.1=false->∀(j' c e n:Nat),j'<j->(aF w v)[j']? = some (c,e)->nbr w v c e=some n->s.2.2.2.1[c]? = s.2.2.2.1[n]?)) (j0:=0) (s0:=(h',false,O,B,g)) rfl rfl (qaV _) ⟨hr2,hp2,hq,qal _,λq=>by simp at q,λ_ j' c e n q=>by omega⟩ ?_
   rintro j ⟨h8,t8,O8,B8,g8⟩ hj ⟨hr8,hp8,hq8,hc8,ht8,hf8⟩ self3 hself3
   simp only at hr8 hp8 hq8 hc8 ht8 hf8 hself3 ⊢
   simp(disch:=omega)only[↓qXX]
   refine bY (hU.pre hp8) ?_
   by_cases hlt:j<(aF w v).length
   case neg=>
    rw[bc (by omega)]
    simp(disch:=omega)only[↓qXX]
    obtain rfl:j=(aF w v).length:=by omega
    have hcn:=hq8.cnt
    refine hself2 (2*(4*w*v - cntT B8)+(if t8 then 1 else 0)) _ _ ?_ ⟨t8,O8,B8,g8,rfl,hr8,hp8,hq8,rfl,λq j' c e n hu hn=>hf8 q j' c e n (bk hu) hu hn⟩
    cases t8 with
    |true=>have:=ht8 rfl;simp;omega
    |false=>simp;omega
   rw[be hlt,p_cond_t]
   obtain⟨⟨c,e⟩,hu⟩:=bg hlt
   obtain⟨hc,he,n,hn,hcn⟩:=hunit hu
   obtain⟨hnN,hnc,hlnn,_,_⟩:=mz hs hc he hn
   have next:∀(h9:HL) (t9:Bool) (O9:List Mv) (B9:List Bool) (g9:Nat->Mv),RB H h9 io ib O9 B9->Pre h4 h9->RP w v l r O9 B9 g9->cntT B<=cntT B9->(t9=true->cntT B<cntT B9)->(t9=false->∀(j' c e n:Nat),j'<j+1->(aF w v)[j']? = some (c,e)->nbr w v c e=some n->B9[c]? = B9[n]?)->self3 [.b t9,.i (Int.ofNat j+1)] h9:=λh9 t9 O9 B9 g9 a1 a2 a3 a4 a5 a6=>hself3 (h9,t9,O9,B9,g9) hlt ⟨a1,a2,a3,a4,a5,a6⟩
   refine vt (λl' h'=>∃(t9:Bool) (O9:List Mv) (B9:List Bool) (g9:Nat->Mv),l'=[.b t9]/\RB H h' io ib O9 B9/\Pre h4 h'/\RP w v l r O9 B9 g9/\cntT B<=cntT B9/\(t9=true->cntT B<cntT B9)/\(t9=false->∀(j' c e n:Nat),j'<j+1->(aF w v)[j']? = some (c,e)->nbr w v c e=some n->B9[c]? = B9[n]?)) ?_ ?_
   ·rintro _ _ ⟨t9,O9,B9,g9,rfl,a1,a2,a3,a4,a5,a6⟩
    simp(disch:=omega)only[↓qXX]
    rw[co (by omega)]
    exact next _ t9 O9 B9 g9 a1 a2 a3 a4 a5 a6
   intro jj hjj
   have lsO:=gj (cx:=4*w*v+1) (n:=4*w*v) bD hr8.o hq8.lo.symm
   have lsB:=gj (cx:=4*w*v+1) (n:=4*w*v) pK hr8.b hq8.lb.symm
   refine gn (o:=0) (k:=1) (cs:=[.int .i64 (.ofNat c)]) (hU.pre hp8) rfl hu rfl (by omega) ?_
   simp(disch:=omega)only[↓qXX]
   refine bh (hBh.pre hp8) rfl (sW hu hn) ?_
   unfold encN
   simp(disch:=omega)only[↓qXX]
   obtain⟨s,hsB⟩:=bg (l:=B8) (i:=c) (by rw[hq8.lb];exact hc)
   obtain⟨t,htB⟩:=bg (l:=B8) (i:=n) (by rw[hq8.lb];exact hnN)
   refine bh lsB rfl hsB ?_
   unfold encK
   simp(disch:=omega)only[↓qXX]
   refine bh lsB rfl htB ?_
   unfold encK
   simp(disch:=omega)only[↓qXX]
   by_cases hst:s=t
   ·subst hst
    rw[p_eql_t rfl]
    simp(disch:=omega)only[↓qXX]
    refine hjj _ _ ⟨t8,O8,B8,g8,rfl,hr8,hp8,hq8,hc8,ht8,λq j' c' e' n' hj' hu' hn'=>?_⟩
    by_cases ej:j'=j
    ·subst ej
     rw[hu]at hu'
     cases hu'
     rw[hn]at hn'
     cases hn'
     rw[hsB,htB]
    ·exact hf8 q j' c' e' n' (by omega) hu' hn'
   rw[p_eql_f (by cases s<;>cases t<;>simp at hst ⊢)]
   simp(disch:=omega)only[↓qXX]
   refine bh lsB rfl htB ?_
   unfold encK
   simp(disch:=omega)only[↓qXX]
   rw[p_eqlK]
   refine vt (λl' h'=>∃a b:Nat,l'=[.i (Int.ofNat a),.i (Int.ofNat b)]/\h8=h'/\a<4*w*v/\b<4*w*v/\B8[a]? = some true/\B8[b]? = some false/\nbr w v a e=some b/\min a b=c) ?_ ?_
   ·rintro _ _ ⟨a,b,rfl,rfl,ha,hb,hBa,hBb,hab,hmin⟩
    simp(disch:=omega)only[↓qXX]
    refine bh (hC.pre hp8) rfl (jh ha) ?_
    unfold az
    simp(disch:=omega)only[↓qXX]
    refine gn (o:=1) (k:=1) (cs:=[.int .u8 (.ofNat e)]) (hU.pre hp8) rfl hu rfl (by omega) ?_
    simp(disch:=omega)only[↓qXX]
    rw[cvN (by omega)]
    obtain⟨kj,hkj⟩:=bg (l:=ks) (i:=j) (by rw[kl];exact hlt)
    refine bh (hK.pre hp8) rfl hkj ?_
    unfold enc8
    simp(disch:=omega)only[↓qXX]
    obtain⟨k1,k2,k3⟩:=hq8.kn a hBa
    refine bh lsO rfl k1 ?_
    unfold encM
    simp(disch:=omega)only[↓qXX]
    have hcnt:=hq8.cnt
    have okT:=dg k2 hr
    refine ae (sy hs ha he (k:=kj) (g:=aY (g8 a) r) (cp okT (by omega))) ?_
    have hkK:=(kP j (c,e) kj hu hkj).2
    rw[uC k2.1 hr.1,acK_acM hs ha he hab (by rw[hmin];exact hkK)]
    have hst8:=hq8.step hs ha he hab hBa hBb
    generalize hm:aY (acM w l (g8 a) a b e) r=m at *
    simp only[mvl]
    simp(disch:=omega)only[↓qXX]
    refine fK (enc:=encM) (l:=O8) (i:=b) (a:=m) bD hr8.o rfl (by rw[hq8.lo];exact hb) hq8.lo rfl ?_
    have hr9:=hr8.putO (O':=O8.set b m)
    have hp9:Pre h4 (putE h8 io 3 encM (O8.set b m)):=dw hp8 (by omega)
    generalize putE h8 io 3 encM (O8.set b m)=h9 at *
    try simp(disch:=omega)only[↓qXX]
    refine fK (enc:=encK) (l:=B8) (i:=b) (a:=true) pK hr9.b rfl (by rw[hq8.lb];exact hb) hq8.lb rfl ?_
    have hr10:=hr9.putB (B':=B8.set b true)
    have hp10:Pre h4 (putE h9 ib 1 encK (B8.set b true)):=dw hp9 (by omega)
    try simp(disch:=omega)only[↓qXX]
    have hcs:=fk hBb
    exact hjj _ _ ⟨true,_,_,_,rfl,hr10,hp10,hst8,by omega,λ_=>by omega,λq=>by cases q⟩
   ·intro j4 hj4
    cases t with
    |true=>
     obtain rfl:s=false:=by cases s<;>simp at hst ⊢
     simp(disch:=omega)only[↓qXX]
     exact hj4 _ _ ⟨n,c,rfl,rfl,hnN,hc,htB,hsB,hnc,by omega⟩
    |false=>
     obtain rfl:s=true:=by cases s<;>simp at hst ⊢
     simp(disch:=omega)only[↓qXX]
     exact hj4 _ _ ⟨c,n,rfl,rfl,hc,hnN,hsB,htB,hn,by omega⟩
  |false=>
   simp(disch:=omega)only[↓qXX]
   have hall:=hq.all hs (hdone rfl)
   have lsO:=gj (cx:=4*w*v+1) (n:=4*w*v) bD hr2.o hq.lo.symm
   have hcnt:=hq.cnt
   have hgl:∀c,c<4*w*v->okM 2000 (g c):=λc hc=>cp (hq.kn c (hall c hc)).2.1 (by omega)
   refine eu (aF w v).length (λj=>∀(j' c e n:Nat),j'<j->(aF w v)[j']? = some (c,e)->nbr w v c e=some n->g n=acM w l (g c) c n e) rfl (qaV _) (λj' c e n q=>absurd q (qbC _)) ?_
   intro j hj hok self3 hself3
   simp(disch:=omega)only[↓qXX]
   refine bY (hU.pre hp2) ?_
   by_cases hlt:j<(aF w v).length
   ·rw[be hlt]
    simp(disch:=omega)only[↓qXX]
    obtain⟨⟨c,e⟩,hu⟩:=bg hlt
    obtain⟨hc,he,n,hn,hcn⟩:=hunit hu
    obtain⟨hnN,hnc,hlnn,_,_⟩:=mz hs hc he hn
    refine gn (o:=0) (k:=1) (cs:=[.int .i64 (.ofNat c)]) (hU.pre hp2) rfl hu rfl (by omega) ?_
    simp(disch:=omega)only[↓qXX]
    refine bh (hC.pre hp2) rfl (jh hc) ?_
    unfold az
    simp(disch:=omega)only[↓qXX]
    refine gn (o:=1) (k:=1) (cs:=[.int .u8 (.ofNat e)]) (hU.pre hp2) rfl hu rfl (by omega) ?_
    simp(disch:=omega)only[↓qXX]
    rw[cvN (by omega)]
    obtain⟨kj,hkj⟩:=bg (l:=ks) (i:=j) (by rw[kl];exact hlt)
    refine bh (hK.pre hp2) rfl hkj ?_
    unfold enc8
    simp(disch:=omega)only[↓qXX]
    refine gn (o:=0) (k:=1) (cs:=[.int .i64 (.ofNat c)]) (hU.pre hp2) rfl hu rfl (by omega) ?_
    simp(disch:=omega)only[↓qXX]
    obtain⟨k1,k2,k3⟩:=hq.kn c (hall c hc)
    obtain⟨m1,m2,m3⟩:=hq.kn n (hall n hnN)
    refine bh lsO rfl k1 ?_
    unfold encM
    simp(disch:=omega)only[↓qXX]
    have okT:=dg k2 hr
    refine ae (sy hs hc he (k:=kj) (g:=aY (g c) r) (cp okT (by omega))) ?_
    have hkK:=(kP j (c,e) kj hu hkj).2
    rw[uC k2.1 hr.1,acK_acM hs hc he hn (by rw[qb6 (by omega)];exact hkK)]
    have hinj:aY (acM w l (g c) c n e) r=aY (g n) r↔g n=acM w l (g c) c n e:=⟨λq=>(then_inj (acM_lt k2.1) m2.1 hr.1 q).symm,λq=>by rw[q]⟩
    generalize aY (acM w l (g c) c n e) r=m at *
    simp only[mvl]
    simp(disch:=omega)only[↓qXX]
    refine bh (hBh.pre hp2) rfl (sW hu hn) ?_
    unfold encN
    simp(disch:=omega)only[↓qXX]
    refine bh lsO rfl m1 ?_
    unfold encM
    simp(disch:=omega)only[↓qXX]
    rw[eqsM]
    by_cases hmm:m=aY (g n) r
    ·rw[decide_eq_true hmm]
     simp(disch:=omega)only[↓qXX,qaR]
     rw[co (by omega)]
     refine hself3 hlt λj' c' e' n' hj' hu' hn'=>?_
     by_cases ej:j'=j
     ·subst ej
      rw[hu]at hu'
      cases hu'
      rw[hn]at hn'
      cases hn'
      exact hinj.1 hmm
     ·exact hok j' c' e' n' (by omega) hu' hn'
    ·rw[decide_eq_false hmm]
     simp(disch:=omega)only[↓qXX,qbE]
     refine⟨hr2.pre,.inl ⟨by trivial,?_⟩⟩
     rintro⟨G,hG,h0⟩
     refine hmm (hinj.2 ?_)
     rw[k3 G hG h0,m3 G hG h0]
     exact hG c e n hc he hn
   ·rw[bc (by omega)]
    simp(disch:=omega)only[↓qXX]
    obtain rfl:j=(aF w v).length:=by omega
    have hG:jf w v l g:=pG hs (λc hc=>(hgl c hc).1) λj' c e n hu hn=>hok j' c e n (bk hu) hu hn
    have hO:O=plL w v g r:=by
     apply qaU
     intro c
     by_cases hc:c<4*w*v
     ·rw[mQ hc];exact(hq.kn c (hall c hc)).1
     ·rw[qaf (by rw[hq.lo];omega),qaf (by simp[plL];omega)]
    have hpl:(plL w v g r).length=4*w*v:=by simp[plL]
    exact⟨hr2.pre,.inr ⟨g,⟨hG,hq.g0,hgl⟩,_,rfl,io,by rw[hpl];rfl,by rw[←hO];exact hr2.o⟩⟩)
 obtain⟨rs,h',h3,h4,h5⟩:=key
 exact⟨rs,h',h3,h4,h5⟩
theorem vM{t x y:Int}:Cc 53 [.i t,.i x,.i y] [.i (if vMI t x y then 1 else 0)]:=by
 refine q53 rfl ?_;unfold f53;simp only[qxh]
 simp(disch:=omega)only[↓qXX]
 by_cases h1:7<t
 ·rw[p_gtr_t h1,if_neg (by unfold vMI;rw[decide_eq_true_eq];omega)]
  simp(disch:=omega)only[↓qXX]
 rw[p_gtr_f (by omega)]
 simp(disch:=omega)only[↓qXX]
 by_cases h2:x < -16384
 ·rw[p_lss_t h2,if_neg (by unfold vMI;rw[decide_eq_true_eq];omega)]
  simp(disch:=omega)only[↓qXX]
 rw[p_lss_f (by omega)]
 simp(disch:=omega)only[↓qXX]
 by_cases h3:16384<x
 ·rw[p_gtr_t h3,if_neg (by unfold vMI;rw[decide_eq_true_eq];omega)]
  simp(disch:=omega)only[↓qXX]
 rw[p_gtr_f (by omega)]
 simp(disch:=omega)only[↓qXX]
 by_cases h4:y < -16384
 ·rw[p_lss_t h4,if_neg (by unfold vMI;rw[decide_eq_true_eq];omega)]
  simp(disch:=omega)only[↓qXX]
 rw[p_lss_f (by omega)]
 simp(disch:=omega)only[↓qXX]
 by_cases h5:16384<y
 ·rw[p_gtr_t h5,if_neg (by unfold vMI;rw[decide_eq_true_eq];omega)]
  simp(disch:=omega)only[↓qXX]
 rw[p_gtr_f (by omega)]
 simp(disch:=omega)only[↓qXX]
 rcases qcK 0 (x - y)with hs|hs
 ·rw[p_rem_nn hs (by omega)]
  by_cases h6:(x - y)%2=0
  ·rw[p_neq_f h6,if_pos (by unfold vMI;rw[decide_eq_true_eq];omega)]
   simp(disch:=omega)only[↓qXX]
  ·rw[p_neq_t h6,if_neg (by unfold vMI;rw[decide_eq_true_eq];omega)]
   simp(disch:=omega)only[↓qXX]
 ·rw[p_rem_np hs (by omega)]
  by_cases h6:-(-(x - y)%2)=0
  ·rw[p_neq_f h6,if_pos (by unfold vMI;rw[decide_eq_true_eq];omega)]
   simp(disch:=omega)only[↓qXX]
  ·rw[p_neq_t h6,if_neg (by unfold vMI;rw[decide_eq_true_eq];omega)]
   simp(disch:=omega)only[↓qXX]
theorem sG{m:Mv}{n:Int}(h:okM n m):Cc 53 (mvl m) [.i (if vMv m then 1 else 0)]:=by
 have e:vMI (Int.ofNat m.1) m.2.1 m.2.2=vMv m:=by
  have h1:=h.1
  have h2:=h.2.2.2.2.2
  unfold vMI vMv
  rw[decide_eq_decide]
  show((m.1:Int)<8/\_)↔_
  omega
 rw[←e]
 exact vM
theorem rvalidc_c{c:Cl}(hq:c.2.2<4):Cc 54 (cll c) [.i (if vCl c then 1 else 0)]:=by
 have hq3:(Int.ofNat c.2.2)<=3:=by show(c.2.2:Int)<=3;omega
 refine q54 rfl ?_;unfold f54;simp only[qxh]
 simp only[cll]
 simp(disch:=omega)only[↓qXX]
 by_cases h2:c.1 < -4096
 ·rw[p_lss_t h2,if_neg (by unfold vCl;rw[decide_eq_true_eq];omega)]
  simp(disch:=omega)only[↓qXX]
 rw[p_lss_f (by omega)]
 simp(disch:=omega)only[↓qXX]
 by_cases h3:4096<c.1
 ·rw[p_gtr_t h3,if_neg (by unfold vCl;rw[decide_eq_true_eq];omega)]
  simp(disch:=omega)only[↓qXX]
 rw[p_gtr_f (by omega)]
 simp(disch:=omega)only[↓qXX]
 by_cases h4:c.2.1 < -4096
 ·rw[p_lss_t h4,if_neg (by unfold vCl;rw[decide_eq_true_eq];omega)]
  simp(disch:=omega)only[↓qXX]
 rw[p_lss_f (by omega)]
 simp(disch:=omega)only[↓qXX]
 by_cases h5:4096<c.2.1
 ·rw[p_gtr_t h5,if_neg (by unfold vCl;rw[decide_eq_true_eq];omega)]
  simp(disch:=omega)only[↓qXX]
 rw[p_gtr_f (by omega),if_pos (by unfold vCl;rw[decide_eq_true_eq];omega)]
 simp(disch:=omega)only[↓qXX]
theorem sB{w v:Nat}(hs:Sh w v){H:HL}{x lx:Value}(hx:aP x=true){G:Nat->Mv}{r:Mv}(hG:∀c,c<4*w*v->okM 2000 (G c))(hr:okM 16384 r)(hL:LsH H lx 3 encM (plL w v G r)) :
  ∃ix K,aB cc ab 27 [.i (.ofNat w),.i (.ofNat v),.v x,.v lx] (absH aa H) [.v ix] (absH aa (H++K))/\LsH (H++K) ix 3 az (imL w v G r):=by
 have hN:=sh_N hs
 obtain⟨sx,G3,cs,hC⟩:=cells_c hs H
 have hil:(imL w v G r).length=4*w*v:=by simp[imL]
 obtain⟨rs,h',hc,ix,rfl,⟨K,rfl⟩,h2⟩:=x27 (ls:=[.i (.ofNat w),.i (.ofNat v),.v x,.v lx]) (K:=λrs h'=>∃ix,rs=[.v ix]/\Pre H h'/\LsH h' ix 3 az (imL w v G r)) (H:=H) (glsI (glsI (glsV hx (glsV hL.good gls0)))) (by
  unfold f27;simp only[qxh]
  simp(disch:=omega)only[↓qXX]
  refine aj cs ?_
  simp(disch:=omega)only[↓qXX]
  have hL:=hL.pre (h':=H++G3) ⟨_,rfl⟩
  have pH:Pre H (H++G3):=⟨_,rfl⟩
  generalize H++G3=h1 at *
  refine cm (σ:=Value×HL) (4*w*v) (λj s=>[.v s.1,.i (Int.ofNat j)]) (λ_ s=>s.2) (λj s=>Pre h1 s.2/\MkL h1.length s.2 s.1 3 az ((imL w v G r).take j)/\aP s.1=true) (j0:=0) (s0:=(.slice none 0 0,h1)) rfl rfl (qaV _) ⟨Pre.refl _,MkL.nil _ _ _ _,rfl⟩ ?_
  rintro j ⟨sv,sh⟩ hj ⟨hp,hm,hg⟩ self hself
  simp only at hp hm hg hself ⊢
  simp(disch:=omega)only[↓qXX]
  refine aq hC.len ?_
  rw[ji]
  by_cases hlt:j<4*w*v
  ·rw[be hlt]
   simp(disch:=omega)only[↓qXX]
   refine bh (hL.pre hp) rfl (mQ hlt) ?_
   unfold encM
   simp(disch:=omega)only[↓qXX]
   refine bh (hC.pre hp) rfl (jh hlt) ?_
   unfold az
   simp(disch:=omega)only[↓qXX]
   have hcr:=clN_rng hs hlt
   refine ae (rmove_c (m:=aY (G j) r) (c:=clN w j) (cp (dg (hG j hlt) hr) (by omega)) hcr) ?_
   have hij:=mi (G:=G) (r:=r) hlt
   generalize bF (aY (G j) r) (clN w j)=ci at *
   simp only[cll]
   simp(disch:=omega)only[↓qXX]
   refine mM (h0:=h1) (a:=ci) hp hm rfl rfl rfl rfl (by
    unfold bZ
    rw[qaa,qbd,qbd,qaI]
    omega) λv' h' hp' hm' hg' _ _=>?_
   simp(disch:=omega)only[↓qXX]
   refine bf hg' ?_
   simp(disch:=omega)only[↓qXX]
   rw[co (by omega)]
   refine hself (v',h') hlt ⟨hp',?_,hg'⟩
   have:(imL w v G r).take (j+1)=(imL w v G r).take j++[ci]:=by rw[qbc,hij];rfl
   rw[this]
   exact hm'
  ·rw[bc (by omega)]
   simp(disch:=omega)only[↓qXX]
   rw[qaJ (by omega)]at hm
   exact⟨sv,by trivial,pH.trans hp,hm.ls⟩)
 exact⟨ix,K,hc,h2⟩
def ToldR(w v:Nat)(l:List Crs)(r:Mv)(rs:List Lf)(h':HL):Prop:=
 (rs=[.v cN,.i 11]/\¬ ∃G,jf w v l G/\G 0=idM)∨
 ∃G,ConsO w v l G/\((rs=[.v cN,.i 3]/\¬allV w G r (4*w*v))∨(∃ox,rs=[.v ox,.i 0]/\allV w G r (4*w*v)/\Ful h' ox 3 encM (plL w v G r)))
theorem wg{w v:Nat}(hs:Sh w v){l:List Crs}(hkd:∀c∈l,1<=c.2.2/\c.2.2<=3)(hll:l.length<=1000){H:HL}{x:Value}(hl:LsH H x 3 encC l){r:Mv}(hr:okM 16384 r) :
  ∃rs h',aB cc ab 26 ([.i (.ofNat w),.i (.ofNat v),.v x]++mvl r) (absH aa H) rs (absH aa h')/\Pre H h'/\ToldR w v l r rs h':=by
 have hN:=sh_N hs
 have hvm:vMv r=true:=by
  unfold vMv
  rw[decide_eq_true_eq]
  exact⟨hr.2.1,hr.2.2.1,hr.2.2.2.1,hr.2.2.2.2.1⟩
 obtain⟨rs1,h1,c1,p1,hR⟩:=rplaces_c hs hkd hll hl hr
 have key:=x26 (ls:=[.i (.ofNat w),.i (.ofNat v),.v x,.i (Int.ofNat r.1),.i r.2.1,.i r.2.2]) (K:=λrs h'=>Pre H h'/\ToldR w v l r rs h') (H:=H) (glsI (glsI (glsV hl.good (glsI (glsI (glsI gls0)))))) (by
  unfold f26;simp only[qxh]
  simp(disch:=omega)only[↓qXX]
  refine ae (sG hr) ?_
  rw[if_pos hvm]
  simp(disch:=omega)only[↓qXX]
  refine aj c1 ?_
  rcases hR with⟨rfl,hno⟩|⟨G,hG,ox,rfl,hf⟩
  ·simp(disch:=omega)only[↓qXX]
   exact⟨p1,.inl ⟨by trivial,hno⟩⟩
  simp(disch:=omega)only[↓qXX]
  have hL:=hf.ls bD
  obtain⟨ix,K,ci,hI⟩:=sB hs hl.good hG.ok hr hL
  refine aj ci ?_
  simp(disch:=omega)only[↓qXX]
  have hL:=hL.pre (h':=h1++K) ⟨_,rfl⟩
  have hf:=hf.pre (h':=h1++K) ⟨_,rfl⟩
  have p1:=p1.app K
  generalize h1++K=h2 at *
  have hpl:(plL w v G r).length=4*w*v:=by simp[plL]
  refine eu (4*w*v) (λj=>allV w G r j) rfl (qaV _) (λc q=>absurd q (qbC _)) ?_
  intro j hj hok self hself
  simp(disch:=omega)only[↓qXX]
  refine aq hL.len ?_
  rw[hpl]
  by_cases hlt:j<4*w*v
  ·rw[be hlt]
   simp(disch:=omega)only[↓qXX]
   refine bh hL rfl (mQ hlt) ?_
   unfold encM
   simp(disch:=omega)only[↓qXX]
   have okT:=dg (hG.ok j hlt) hr
   refine ae (sG okT) ?_
   cases hv1:vMv (aY (G j) r)with
   |false=>
    simp only[qaj,if_false]
    simp(disch:=omega)only[↓qXX]
    exact⟨p1,.inr ⟨G,hG,.inl ⟨by trivial,λq=>by rw[(q j hlt).1]at hv1;cases hv1⟩⟩⟩
   |true=>
   simp only[if_true]
   simp(disch:=omega)only[↓qXX]
   refine bh hI rfl (mi hlt) ?_
   unfold az
   simp(disch:=omega)only[↓qXX]
   have hq4:=(iN okT (c:=clN w j) (k:=1000) (by have:=pE hs hlt;omega)).2.2.2.2
   refine ae (rvalidc_c (c:=bF (aY (G j) r) (clN w j)) hq4) ?_
   cases hv2:vCl (bF (aY (G j) r) (clN w j))with
   |false=>
    simp only[qaj,if_false]
    simp(disch:=omega)only[↓qXX]
    exact⟨p1,.inr ⟨G,hG,.inl ⟨by trivial,λq=>by rw[(q j hlt).2]at hv2;cases hv2⟩⟩⟩
   |true=>
   simp only[if_true]
   simp(disch:=omega)only[↓qXX]
   rw[co (by omega)]
   exact hself hlt (hok.succ hv1 hv2)
  ·rw[bc (by omega)]
   simp(disch:=omega)only[↓qXX]
   obtain rfl:j=4*w*v:=by omega
   exact⟨p1,.inr ⟨G,hG,.inr ⟨_,rfl,hok,hf⟩⟩⟩)
 obtain⟨rs,h',h3,h4,h5⟩:=key
 exact⟨rs,h',h3,h4,h5⟩
theorem told_arg{w v t a b:Int}{H:HL}{x:Value}(hx:aP x=true)(hv:vMI t a b=false) :
  aB cc ab 26 [.i w,.i v,.v x,.i t,.i a,.i b] (absH aa H) [.v cN,.i 1] (absH aa H):=by
 obtain⟨rs,h',hc,rfl,rfl⟩:=x26 (ls:=[.i w,.i v,.v x,.i t,.i a,.i b]) (K:=λrs h'=>rs=[.v cN,.i 1]/\h'=H) (H:=H) (glsI (glsI (glsV hx (glsI (glsI (glsI gls0)))))) (by
  unfold f26;simp only[qxh]
  simp(disch:=omega)only[↓qXX]
  refine ae vM ?_
  rw[if_neg (by rw[hv];simp)]
  simp(disch:=omega)only[↓qXX]
  exact⟨by trivial,by trivial⟩)
 exact hc
structure BothC(ls:List Lf)(H:HL)(lx ix:Value)(e:Int)(h1:HL):Prop where
 c:aB cc ab 42 ls (absH aa H) [.v lx,.v ix,.i e] (absH aa h1)
 p:Pre H h1
 g1:aP lx=true
 g2:aP ix=true
section
variable {w v t a b e:Int} {x lx ix:Value} {H h1:HL} (hx:aP x=true) (hb:BothC [.i w,.i v,.v x,.i t,.i a,.i b] H lx ix e h1)
include hx hb
theorem lD:aB cc ab 21 [.i w,.i v,.v x,.i t,.i a,.i b] (absH aa H) [.v lx,.i e] (absH aa h1):=by
 obtain⟨rs,h',hc,rfl,rfl⟩:=x21 (ls:=[.i w,.i v,.v x,.i t,.i a,.i b]) (K:=λrs h'=>rs=[.v lx,.i e]/\h'=h1) (H:=H) (glsI (glsI (glsV hx (glsI (glsI (glsI gls0)))))) (by
  unfold f21;simp only[qxh]
  simp(disch:=omega)only[↓qXX]
  refine aj hb.c ?_
  simp(disch:=omega)only[↓qXX]
  exact⟨by trivial,by trivial⟩)
 exact hc
theorem eN:aB cc ab 13 [.i w,.i v,.v x,.i t,.i a,.i b] (absH aa H) [.v ix,.i e] (absH aa h1):=by
 obtain⟨rs,h',hc,rfl,rfl⟩:=x13 (ls:=[.i w,.i v,.v x,.i t,.i a,.i b]) (K:=λrs h'=>rs=[.v ix,.i e]/\h'=h1) (H:=H) (glsI (glsI (glsV hx (glsI (glsI (glsI gls0)))))) (by
  unfold f13;simp only[qxh]
  simp(disch:=omega)only[↓qXX]
  refine aj hb.c ?_
  simp(disch:=omega)only[↓qXX]
  exact⟨by trivial,by trivial⟩)
 exact hc
theorem up_e(he:e≠0):aB cc ab 14 [.i w,.i v,.v x,.i t,.i a,.i b] (absH aa H) [.v cN,.i e] (absH aa h1):=by
 obtain⟨rs,h',hc,rfl,rfl⟩:=x14 (ls:=[.i w,.i v,.v x,.i t,.i a,.i b]) (K:=λrs h'=>rs=[.v cN,.i e]/\h'=h1) (H:=H) (glsI (glsI (glsV hx (glsI (glsI (glsI gls0)))))) (by
  unfold f14;simp only[qxh]
  simp(disch:=omega)only[↓qXX]
  refine aj hb.c ?_
  simp(disch:=omega)only[↓qXX]
  exact⟨by trivial,by trivial⟩)
 exact hc
theorem sil_e(he:e≠0):aB cc ab 22 [.i w,.i v,.v x,.i t,.i a,.i b] (absH aa H) [.v cN,.i e] (absH aa h1):=by
 have hi:=eN hx hb
 obtain⟨rs,h',hc,rfl,rfl⟩:=x22 (ls:=[.i w,.i v,.v x,.i t,.i a,.i b]) (K:=λrs h'=>rs=[.v cN,.i e]/\h'=h1) (H:=H) (glsI (glsI (glsV hx (glsI (glsI (glsI gls0)))))) (by
  unfold f22;simp only[qxh]
  simp(disch:=omega)only[↓qXX]
  refine aj hi ?_
  simp(disch:=omega)only[↓qXX]
  exact⟨by trivial,by trivial⟩)
 exact hc
theorem dep_e(he:e≠0):aB cc ab 23 [.i w,.i v,.v x,.i t,.i a,.i b] (absH aa H) [.i 0,.i e] (absH aa h1):=by
 have hi:=eN hx hb
 obtain⟨rs,h',hc,rfl,rfl⟩:=x23 (ls:=[.i w,.i v,.v x,.i t,.i a,.i b]) (K:=λrs h'=>rs=[.i 0,.i e]/\h'=h1) (H:=H) (glsI (glsI (glsV hx (glsI (glsI (glsI gls0)))))) (by
  unfold f23;simp only[qxh]
  simp(disch:=omega)only[↓qXX]
  refine aj hi ?_
  simp(disch:=omega)only[↓qXX]
  exact⟨by trivial,by trivial⟩)
 exact hc
end
theorem flips_c{m:Mv}(hm:okM 16384 m):Cc 43 (mvl m) [.b (!decide (m.1<4))]:=by
 refine q43 rfl ?_;unfold f43;simp only[qxh]
 simp(disch:=omega)only[↓qXX]
 refine ae (ql hm (by omega)) ?_
 simp(disch:=omega)only[↓qXX]
 by_cases h:m.1<4
 ·rw[p_geq_f (show Int.ofNat m.1<4 by show(m.1:Int)<4;omega),decide_eq_true h]
  simp(disch:=omega)only[↓qXX]
  rfl
 ·rw[p_geq_t (show(4:Int)<=Int.ofNat m.1 by show 4<=(m.1:Int);omega),decide_eq_false h]
  simp(disch:=omega)only[↓qXX]
  rfl
def upB(m:Mv):Bool:=decide (m.1<4)
theorem up_c{w v t a b:Int}{x lx ix:Value}{H h1:HL}(hx:aP x=true)(hb:BothC [.i w,.i v,.v x,.i t,.i a,.i b] H lx ix 0 h1){A:List Mv}(hA:Ful h1 lx 3 encM A)(hok:∀m∈A,okM 16384 m)(hn:A.length<=1000) :
  ∃ux G,aB cc ab 14 [.i w,.i v,.v x,.i t,.i a,.i b] (absH aa H) [.v ux,.i 0] (absH aa (h1++G))/\Ful (h1++G) ux 1 encT (A.map upB):=by
 obtain⟨rs,h',hc,ux,G,rfl,rfl,hu⟩:=x14 (ls:=[.i w,.i v,.v x,.i t,.i a,.i b]) (K:=λrs h'=>∃ux G,rs=[.v ux,.i 0]/\h'=h1++G/\Ful (h1++G) ux 1 encT (A.map upB)) (H:=H) (glsI (glsI (glsV hx (glsI (glsI (glsI gls0)))))) (by
  unfold f14;simp only[qxh]
  simp(disch:=omega)only[↓qXX]
  refine aj hb.c ?_
  simp(disch:=omega)only[↓qXX]
  have hL:=hA.ls bD
  refine bY hL ?_
  refine aq (fq (by omega)) ?_
  simp(disch:=omega)only[↓qXX]
  rw[show(Int.ofNat A.length).toNat=A.length from rfl]
  refine bY hL ?_
  have z0:h1++[HO.o (.cells (aJ [.bool false] A.length) 1 true)]=newE h1 1 encT (kJ false (A.map upB) 0):=by
   rw[fillZ_0,qaW]
   exact new_zeros (enc:=encT) (z:=false) rfl
  rw[z0]
  refine cm (σ:=Unit) A.length (λj _=>[.i (Int.ofNat j)]) (λj _=>newE h1 1 encT (kJ false (A.map upB) j)) (λ_ _=>True) (j0:=0) (s0:=()) rfl rfl (qaV _) trivial ?_
  rintro j _ hj _ self hself
  simp(disch:=omega)only[↓qXX]
  by_cases hlt:j<A.length
  ·rw[be hlt]
   simp(disch:=omega)only[↓qXX]
   obtain⟨m,hm⟩:=bg hlt
   refine bh (hL.pre (newE_pre _ _ _ _)) rfl hm ?_
   unfold encM
   simp(disch:=omega)only[↓qXX]
   refine ae (flips_c (hok m (qag hm))) ?_
   simp(disch:=omega)only[↓qXX]
   have hml:(A.map upB)[j]? = some (upB m):=by rw[qas,hm];rfl
   refine r_setN gA (a:=upB m) rfl (by rw[rB (by rw[qaW];exact hj),qaW];exact hlt) (by rw[rB (by rw[qaW];exact hj),qaW]) (by unfold encT upB;simp) ?_
   rw[fillZ_set hml]
   try simp(disch:=omega)only[↓qXX]
   rw[co (by omega)]
   exact hself () hlt trivial
  ·obtain rfl:j=A.length:=by omega
   rw[bc (qal _)]
   simp(disch:=omega)only[↓qXX]
   have e1:kJ false (A.map upB) A.length=A.map upB:=by
    have:=fillZ_all (z:=false) (A:=A.map upB)
    rwa [qaW]at this
   rw[e1]
   refine⟨_,_,rfl,rfl,h1.length,?_,?_⟩
   ·rw[qaW];rfl
   ·simp)
 exact⟨ux,G,hc,hu⟩
end Go.Am
set_option maxRecDepth 100000
namespace Go.Am
namespace Sx
section
variable [Val] [Kno] {C:Cfg} {T:Nat->Site}
abbrev K3:=Int×Int×Nat
def cc3(k:K3):List Value:=[.int .i64 k.1,.int .i64 k.2.1,.int .u8 (Int.ofNat k.2.2)]
def kv3(k:K3):Value:=.agg ⟨cc3 k⟩
abbrev kk3:List LK:=[.i .i64,.i .i64,.i .u8]
theorem difK_3(a b:K3):difK kk3 (cc3 a) (cc3 b)=some (decide (a=b)):=by
 have e1:de .i64 .i64=true:=rfl
 have e2:de .u8 .u8=true:=rfl
 obtain⟨a1,a2,a3⟩:=a
 obtain⟨b1,b2,b3⟩:=b
 simp only[cc3,difK,e1,e2,pP,qb8]
 have e3:decide (Int.ofNat a3=Int.ofNat b3)=decide (a3=b3):=decide_eq_decide.2 ⟨λh=>qdw h,λh=>by rw[h]⟩
 rw[e3]
 by_cases h1:a1=b1<;>by_cases h2:a2=b2<;>by_cases h3:a3=b3<;>simp[h1,h2,h3]
theorem find3(k:K3):∀ {es:List MapEntry} {ks:List K3} (i:Nat),es.map (·.key)=ks.map kv3->gK kk3 (cc3 k) es i=some ((ks.idxOf? k).map (i + ·))
 | [],[],i,_=>rfl
 | [],_ :: _,i,h=>by simp at h
 |_ :: _,[],i,h=>by simp at h
 |e :: es,q :: ks,i,h=>by
  simp only[qar,qaX]at h
  have ih:=find3 k (i+1) h.2
  have hq:gK kk3 (cc3 k) (e :: es) i=if k=q then some (some i)else gK kk3 (cc3 k) es (i+1):=by
   simp only[gK,h.1,kv3]
   rw[difK_3]
   by_cases hk:k=q<;>simp[hk]
  rw[hq,qcN]
  by_cases hk:k=q
  ·subst hk
   simp
  ·rw[if_neg hk,ih,if_neg (by simp;exact λe=>hk e.symm),qdv]
   congr 2
   funext j
   simp only[Function.comp];omega
variable {kt:TypeId} (h1:aggT C.P kt=some true) (h2:flatK C.P 10000 kt=some kk3)
include h1 h2
theorem keyF_3(k:K3):keyF C.P kt (kv3 k)=true:=by
 have e1:de .i64 .i64=true:=rfl
 have e2:de .u8 .u8=true:=rfl
 unfold keyF kv3 cc3
 simp only[h1,h2,gY,e1,e2,pP]
 simp
theorem findF_3(k:K3){es:List MapEntry}{r:Option Nat}(hr:gK kk3 (cc3 k) es 0=some r):nC C.P kt (kv3 k) es=some r:=by
 unfold nC kv3
 simp only[h1,h2,lm,hr]
def ent3(ps:List (K3×Nat)):List MapEntry:=ps.mapIdx λi p=>{ key:=kv3 p.1,val:=.int .i64 (Int.ofNat p.2),born:=i }
def cnt3(ps:List (K3×Nat))(k:K3):Nat:=match (ps.map (·.1)).idxOf? k with
 |some j=>(ps[j]?.map (·.2)).getD 0
 |none=>0
def cD(k:K3)(ps:List (K3×Nat)):List (K3×Nat):=match (ps.map (·.1)).idxOf? k with
 |some _=>ps
 |none=>ps++[(k,0)]
omit h1 h2 in
theorem uR(ps:List (K3×Nat)):(ent3 ps).map (·.key)=(ps.map (·.1)).map kv3:=by
 unfold ent3
 apply qaU
 intro i
 simp only[qas,qbO,qdv]
 rfl
omit h1 h2 in
theorem ent3_len(ps:List (K3×Nat)):(ent3 ps).length=ps.length:=by simp[ent3]
omit h1 h2 in
theorem rJ{ps:List (K3×Nat)}{k:K3}{j:Nat}(h:(ps.map (·.1)).idxOf? k=some j):∃n,ps[j]? = some (k,n):=by
 obtain⟨hj,h3,_⟩:=qdb.1 h
 have hj':j<ps.length:=by simpa using hj
 refine⟨ps[j].2,?_⟩
 rw[qax hj']
 congr 1
 refine qdd ?_ rfl
 simpa using h3
omit h1 h2 in
theorem qk{h:HL}{id c:Nat}{es:List MapEntry}(hm:h[id]? = some (.o (.map es c))):mapG (getH T h) id=some (es,c):=by
 unfold mapG
 rw[cw hm]
theorem lu3{h:HL}{id c:Nat}{ps:List (K3×Nat)}(hm:h[id]? = some (.o (.map (ent3 ps) c)))(k:K3) :
  luG C kt false (.int .i64 0) (.map (some id)) (kv3 k) false (getH T h)=some [.int .i64 (Int.ofNat (cnt3 ps k))]:=by
 unfold luG
 rw[keyF_3 h1 h2]
 simp only[qaR,qaj,if_false]
 rw[qk hm]
 simp only
 rw[findF_3 h1 h2 k (find3 k 0 (uR ps))]
 unfold cnt3
 cases hi:(ps.map (·.1)).idxOf? k with
 |none=>simp[ei]
 |some j=>
  obtain⟨n,hn⟩:=rJ hi
  simp only[qav,qaH]
  have hv:dM (ent3 ps) j=some (.int .i64 (Int.ofNat n)):=by
   unfold dM ent3
   rw[qbO,hn]
   rfl
  rw[hv,hn]
  simp[ei]
theorem me3{h:HL}{id n:Nat}{ps:List (K3×Nat)}(hm:h[id]? = some (.o (.map (ent3 ps) ps.length)))(k:K3) :
  ∃j m,(cD k ps)[j]? = some (k,m)/\((cD k ps).map (·.1)).idxOf? k=some j/\meG C kt false (.int .i64 0) (.map (some id)) (kv3 k) (getH T h) n=some ([.set id (.map (ent3 (cD k ps)) (cD k ps).length)],[.int .i64 (Int.ofNat m),.int .i64 (Int.ofNat j)]):=by
 unfold meG
 simp only
 rw[keyF_3 h1 h2]
 simp only[qaR,qaj,if_false]
 rw[qk hm]
 simp only
 rw[findF_3 h1 h2 k (find3 k 0 (uR ps))]
 unfold cD
 cases hi:(ps.map (·.1)).idxOf? k with
 |none=>
  refine⟨ps.length,0,by simp,?_,?_⟩
  ·rw[qdb]
   have hn:k∉ps.map (·.1):=List.idxOf?_eq_none_iff.1 hi
   refine⟨by simp,by simp,λj hj=>?_⟩
   have hj':j<ps.length:=hj
   simp only[qbM,qar,qbe]
   rw[List.getElem_append_left (by simpa using hj')]
   intro e
   exact hn (e▸qcP _)
  ·simp[ei,ent3,List.mapIdx_append]
 |some j=>
  obtain⟨m,hm'⟩:=rJ hi
  refine⟨j,m,hm',hi,?_⟩
  simp only[qav,qaH]
  have he:(ent3 ps)[j]? = some { key:=kv3 k,val:=.int .i64 (Int.ofNat m),born:=j }:=by
   unfold ent3
   rw[qbO,hm']
   rfl
  rw[he]
  have hs:Instr.sameBits 10000 (kv3 k) (kv3 k)=true:=by
   simp[kv3,cc3,Instr.sameBits]
  simp only[hs,if_true,ei]
  have hmod:(ent3 ps).modify j (λe=>{ e with key:=kv3 k })=ent3 ps:=by
   apply qaU
   intro i
   rw[qcR]
   split
   ·rename_i hij
    subst hij
    rw[he];rfl
   ·simp
  rw[hmod]
  rfl
end
section
variable [Val] [Kno] {T:Nat->Site}
theorem es3{h:HL}{id n:Nat}{ps:List (K3×Nat)}(hm:h[id]? = some (.o (.map (ent3 ps) ps.length))){j:Nat}{k:K3}{m m':Nat}(hj:ps[j]? = some (k,m)) :
  esG (.map (some id)) (Int.ofNat j) (.int .i64 (Int.ofNat m')) (getH T h) n=some ([.set id (.map (ent3 (ps.set j (k,m'))) (ps.set j (k,m')).length)],[]):=by
 unfold esG
 simp only
 rw[qk hm]
 simp only
 have hjl:j<ps.length:=by
  rcases qaw j ps.length with h|h
  ·exact h
  ·rw[qaf h]at hj;cases hj
 have hf:(ent3 ps).findIdx? (λe=>(e.born:Int)==Int.ofNat j)=some j:=by
  rw[List.findIdx?_eq_some_iff_getElem]
  refine⟨by rw[ent3_len];exact hjl,by simp[ent3],λi hi=>?_⟩
  simp[ent3]
  omega
 rw[hf]
 simp only[qc0]
 congr 5
 apply qaU
 intro i
 unfold ent3
 rw[qcR,qbO,qbO]
 by_cases hij:j=i
 ·subst hij
  rw[qaE hjl,hj]
  simp
 ·rw[qat hij]
  simp[hij]
theorem idx_app{k q:K3}(h:q≠k):∀l:List K3,(l++[k]).idxOf? q=l.idxOf? q
 | []=>by
  rw[qaC,qcN,if_neg (by simp;exact qbZ h)]
  rfl
 |a :: l=>by rw[qaD,qcN,qcN,idx_app h l]
theorem bump3{ps:List (K3×Nat)}{k:K3}{j n:Nat}(hi:((cD k ps).map (·.1)).idxOf? k=some j)(q:K3):cnt3 ((cD k ps).set j (k,n)) q=if q=k then n else cnt3 ps q:=by
 obtain⟨m,hj⟩:=rJ hi
 have hjl:=bk hj
 have hk:((cD k ps).set j (k,n)).map (·.1)=(cD k ps).map (·.1):=by
  rw[List.map_set]
  refine ng ?_
  rw[qas,hj];rfl
 unfold cnt3
 rw[hk]
 by_cases hq:q=k
 ·subst hq
  rw[hi,if_pos rfl]
  simp only
  rw[qaE hjl];rfl
 ·rw[if_neg hq]
  have e1:((cD k ps).map (·.1)).idxOf? q=(ps.map (·.1)).idxOf? q:=by
   unfold cD
   split
   ·rfl
   ·rw[qbM]
    exact idx_app hq _
  rw[e1]
  cases hi2:(ps.map (·.1)).idxOf? q with
  |none=>rfl
  |some i=>
   obtain⟨m2,h2⟩:=rJ hi2
   simp only
   have hij:j≠i:=by
    rintro rfl
    rw[←e1]at hi2
    obtain⟨m3,h3⟩:=rJ hi2
    rw[hj]at h3
    cases h3
    exact hq rfl
   rw[qat hij]
   unfold cD
   split
   ·rfl
   ·rw[qae (bk h2)]
end
end Sx
end Go.Am
set_option maxRecDepth 100000
set_option maxHeartbeats 8000000
namespace Go.Am
open Sx Go.Proofs
def MaxC(L:List Cl)(m:Nat):Prop:=(∀k,L.count k<=m)/\(m=0∨∃k∈L,L.count k=m)
theorem MaxC.nil:MaxC [] 0:=⟨λk=>by simp,.inl rfl⟩
theorem MaxC.eq{L:List Cl}{m n:Nat}(h:MaxC L m)(h':MaxC L n):m=n:=by
 have key:∀ {a b:Nat},MaxC L a->MaxC L b->a<=b:=λ{a b} ha hb=>by
  rcases ha.2 with e|⟨k,_,hk⟩
  ·omega
  ·have:=hb.1 k;omega
 have:=key h h';have:=key h' h;omega
theorem MaxC.snoc{L:List Cl}{m:Nat}(h:MaxC L m)(c:Cl):MaxC (L++[c]) (max m (L.count c+1)):=by
 have hc:∀k,(L++[c]).count k=if k=c then L.count c+1 else L.count k:=λk=>by
  rw[qc9,qcT]
  by_cases e:k=c
  ·subst e;simp
  ·rw[if_neg e,if_neg (by simpa using qbZ e)];omega
 refine⟨λk=>?_,.inr ?_⟩
 ·rw[hc]
  have:=h.1 k
  split<;>omega
 ·by_cases hm:m<=L.count c+1
  ·exact⟨c,by simp,by rw[hc,if_pos rfl];omega⟩
  ·rcases h.2 with e|⟨k,hk,hkm⟩
   ·omega
   ·have hne:k≠c:=λe=>by subst e;omega
    exact⟨k,by simp[hk],by rw[hc,if_neg hne];omega⟩
theorem dep_c{w v t a b:Int}{x lx ix:Value}{H h1:HL}(hx:aP x=true)(hb:BothC [.i w,.i v,.v x,.i t,.i a,.i b] H lx ix 0 h1){I:List Cl}(hI:Ful h1 ix 3 az I)(hn:I.length<=1000) :
  ∃m G,MaxC I m/\aB cc ab 23 [.i w,.i v,.v x,.i t,.i a,.i b] (absH aa H) [.i (.ofNat m),.i 0] (absH aa (h1++G)):=by
 have hi:=eN hx hb
 obtain⟨rs,h',hc,m,G,rfl,rfl,hm⟩:=x23 (ls:=[.i w,.i v,.v x,.i t,.i a,.i b]) (K:=λrs h'=>∃(m:Nat) (G:HL),rs=[.i (.ofNat m),.i 0]/\h'=h1++G/\MaxC I m) (H:=H) (glsI (glsI (glsV hx (glsI (glsI (glsI gls0)))))) (by
  unfold f23;simp only[qxh]
  simp(disch:=omega)only[↓qXX]
  refine aj hi ?_
  simp(disch:=omega)only[↓qXX]
  have hL:=hI.ls bw
  refine bY hL ?_
  refine cm (σ:=Nat×List (K3×Nat)) I.length (λj s=>[.i (Int.ofNat s.1),.i (Int.ofNat j)]) (λ_ s=>h1++[HO.o (.map (ent3 s.2) s.2.length)]) (λj s=>MaxC (I.take j) s.1/\∀k,cnt3 s.2 k=(I.take j).count k) (j0:=0) (s0:=(0,[])) rfl rfl (qaV _) ⟨by simpa using MaxC.nil,λk=>by simp[cnt3]⟩ ?_
  rintro j ⟨m,ps⟩ hj ⟨hm,hps⟩ self hself
  simp only at hm hps hself ⊢
  simp(disch:=omega)only[↓qXX]
  by_cases hlt:j<I.length
  ·rw[be hlt]
   simp(disch:=omega)only[↓qXX]
   obtain⟨c,hc⟩:=bg hlt
   refine bh (hL.pre ⟨_,rfl⟩) rfl hc ?_
   unfold az
   simp(disch:=omega)only[↓qXX]
   have ht:I.take (j+1)=I.take j++[c]:=by rw[qbc,hc];rfl
   refine fv (lu3 (C:=cc) (T:=aa) (by kernel_rfl) (by kernel_rfl) bj c) ?_
   simp(disch:=omega)only[↓qXX]
   have hb1:(I.take j).count c<=1000:=qbP List.count_le_length (by rw[qaI];omega)
   rw[hps c,co (by omega)]
   obtain⟨i,m0,g1,g2,g3⟩:=me3 (C:=cc) (T:=aa) (by kernel_rfl) (by kernel_rfl) (n:=(h1++[HO.o (.map (ent3 ps) ps.length)]).length) bj c
   refine dA g3 ?_
   have e1:bR (h1++[HO.o (.map (ent3 ps) ps.length)]) [.set h1.length (.map (ent3 (cD c ps)) (cD c ps).length)]=h1++[HO.o (.map (ent3 (cD c ps)) (cD c ps).length)]:=lE
   rw[e1]
   simp(disch:=omega)only[↓qXX]
   have g4:=es3 (T:=aa) (h:=h1++[HO.o (.map (ent3 (cD c ps)) (cD c ps).length)]) (id:=h1.length) (n:=(h1++[HO.o (.map (ent3 (cD c ps)) (cD c ps).length)]).length) bj g1 (m':=(I.take j).count c+1)
   refine dA g4 ?_
   have hb3:=bump3 (n:=(I.take j).count c+1) g2
   generalize hps':(cD c ps).set i (c,(I.take j).count c+1)=ps' at *
   have e2:bR (h1++[HO.o (.map (ent3 (cD c ps)) (cD c ps).length)]) [.set h1.length (.map (ent3 ps') ps'.length)]=h1++[HO.o (.map (ent3 ps') ps'.length)]:=lE
   rw[e2]
   refine fv (lu3 (C:=cc) (T:=aa) (by kernel_rfl) (by kernel_rfl) bj c) ?_
   simp(disch:=omega)only[↓qXX]
   have hcc:cnt3 ps' c=(I.take j).count c+1:=by rw[hb3,if_pos rfl]
   rw[hcc]
   have fin:self [.i (Int.ofNat (max m ((I.take j).count c+1))),.i (Int.ofNat j+1)] (h1++[HO.o (.map (ent3 ps') ps'.length)]):=hself (max m ((I.take j).count c+1),ps') hlt ⟨by rw[ht];exact hm.snoc c,λk=>by
    rw[ht,qc9,qcT,hb3,hps]
    by_cases e:k=c
    ·subst e;simp
    ·rw[if_neg e,if_neg (by simpa using qbZ e)];rfl⟩
   by_cases hlm:m<(I.take j).count c+1
   ·rw[be hlm]
    simp(disch:=omega)only[↓qXX]
    rw[co (by omega)]
    rw[Nat.max_eq_right (by omega)]at fin
    exact fin
   ·rw[bc (by omega)]
    simp(disch:=omega)only[↓qXX]
    rw[co (by omega)]
    rw[Nat.max_eq_left (by omega)]at fin
    exact fin
  ·obtain rfl:j=I.length:=by omega
   rw[bc (qal _)]
   simp(disch:=omega)only[↓qXX]
   rw[qbr]at hm
   exact⟨m,_,rfl,rfl,hm⟩)
 exact⟨m,G,hm,hc⟩
end Go.Am
set_option maxRecDepth 100000
namespace Go.Am
open Sx Go.Proofs Go.Shelf Go.Lib Go.Sort
section
variable [Val]
theorem wr_below [Glo]{C:Cfg}{base:Nat}{mu:HMap}{H:List HObj}{w w':World}(h:WR C base mu H w)(hb:Go.RowKit.Below w.heap.size w w')(hd:w.drawn<=w'.drawn):WR C base mu H w'/\Evo H mu w H mu w':=by
 refine⟨⟨λid o h1 h2=>?_,h.inj,h.own,h.ro,h.dom,λg vs hg=>?_⟩,⟨qal _,λ_ _=>rfl,hb.size,λb hb' _=>hb.block b hb',λb h=>.inr h,hb.os,hb.tape,hb.output,hd⟩⟩
 ·obtain⟨p,h3,h4⟩:=h.obj id o h1 h2
  exact⟨p,h3,by rw[hb.block _ (ie h2 h4)];exact h4⟩
 ·obtain⟨h1,h2,c,e,fr,h3,h4⟩:=h.glob g vs hg
  exact⟨h1,h2,c,e,fr,by rw[hb.block _ (qaA.1 h3).1];exact h3,h4⟩
theorem xi{W w':World}(h1:w'.os=W.os)(h2:w'.tape=W.tape)(h3:w'.output=W.output)(h4:W.drawn<=w'.drawn)(h5:W.heap.size<=w'.heap.size)(h6:∀b,b<W.heap.size->w'.heap[b]? = W.heap[b]?):∃q os',w'=grow (W.drewN q) os':=by
 refine⟨w'.drawn - W.drawn,w'.heap.extract W.heap.size w'.heap.size,?_⟩
 have e:w'.heap=W.heap++w'.heap.extract W.heap.size w'.heap.size:=by
  apply qcz
  intro i
  rw[Array.getElem?_append]
  split
  ·rename_i hi;exact h6 i hi
  ·rename_i hi
   rw[Array.getElem?_extract]
   split
   ·congr 1;omega
   ·rw[qa5 (by omega)]
 obtain⟨hp,tp,dr,os,out⟩:=w'
 simp only at h1 h2 h3 h4 e
 subst h1 h2 h3
 unfold grow World.drewN
 simp only
 rw[←e,show W.drawn+(dr - W.drawn)=dr by omega]
theorem uW{α:Type} [Inhabited α]{enc:α->List Value}{e:Nat}(hk:∀x,(enc x).length=e){l:List α}{t:Nat}(ht:t<l.length*e):(l.flatMap enc)[t]? = some (Go.Sort.flatK enc e l.toArray)[t]!:=by
 rw[Go.Sort.get_flatK enc e l.toArray t (by simpa using ht)]
 have he:0<e:=by
  rcases qb7 e with h|h
  ·subst h;simp at ht
  ·exact h
 have hq:t / e<l.length:=Nat.div_lt_of_lt_mul (by rw[Nat.mul_comm];exact ht)
 have h1:=js (e:=e) (enc:=enc) (l:=l) (λa _=>hk a) (i:=t / e) (a:=l[t / e]) (qax hq)
 have hr:=qb2 t he
 have e1:t=t / e*e+t%e:=by rw[Nat.mul_comm];exact(Nat.div_add_mod t e).symm
 have h2:((l.flatMap enc).drop (t / e*e))[t%e]? = (enc l[t / e])[t%e]?:=by
  rw[←h1,qa1,if_pos hr]
 rw[qaZ,←e1]at h2
 rw[h2]
 have h3:(l.toArray)[t / e]! = l[t / e]:=by simp[hq]
 rw[h3,qax (by rw[hk];exact hr),List.getElem!_eq_getElem?_getD,qax (by rw[hk];exact hr)]
 rfl
theorem holds_of{α:Type} [Inhabited α]{enc:α->List Value}{e:Nat}(hk:∀x,(enc x).length=e)(hs:∀x,∀v∈enc x,Am.scalar v=true) [Glo]{mu:HMap}{p:Pl}{w:World}{l:List α}(hr:objR mu p w.heap[p.b]? (.cells (l.flatMap enc) e true)):HoldsK enc e w p.b p.o l.toArray:=by
 obtain⟨_,_,_,c,t,fr,h4,h5,h6,h7⟩:=hr
 obtain rfl:=h6 rfl
 intro j hj
 rw[Go.Sort.size_flatK]at hj
 have h1:=uW (enc:=enc) hk (l:=l) (t:=j) (by simpa using hj)
 obtain⟨v',h8,h9⟩:=h7 j _ h1
 have hsc:Am.scalar (Go.Sort.flatK enc e l.toArray)[j]! = true:=by
  have hm:=qag h1
  obtain⟨a,_,ha⟩:=qbw.1 hm
  exact hs a _ ha
 have:=bp hsc h9
 subst this
 exact⟨by simp[World.cell?,h4,h8],by simp[World.frozen?,h4]⟩
theorem xe{C:Cfg}{base:Nat}{mu:HMap}{H:List HObj}{w:World} [Glo](hW:WR C base mu H w){α:Type} [Inhabited α]{enc:α->List Value}{e:Nat}(hk:∀x,(enc x).length=e)(hs:∀x,∀v∈enc x,Am.scalar v=true){id:Nat}{p:Pl}{l l':List α}
  (hid:H[id]? = some (.cells (l.flatMap enc) e true)) (hp:mu id=some p) (hl:l'.length=l.length) (n:Nat) (os:Array Obj) :
  WR C base mu (H.set id (.cells (l'.flatMap enc) e true)) (sortWorldK enc e w p.b p.o n l'.toArray os)/\Evo H mu w (H.set id (.cells (l'.flatMap enc) e true)) mu (sortWorldK enc e w p.b p.o n l'.toArray os):=by
 obtain⟨p',hp',hr⟩:=hW.obj id _ hid rfl
 rw[hp]at hp'
 cases hp'
 obtain⟨h1,h2,h3,c,t,fr,h4,h5,h6,h7⟩:=hr
 have hll:(l'.flatMap enc).length=l'.length*e:=aL λa _=>hk a
 have hl0:(l.flatMap enc).length=l.length*e:=aL λa _=>hk a
 have hset:=hW.set (w':=Go.Sort.putRowK enc e (Go.Sort.ahead w n) p.b p.o l'.toArray) (x:=.cells (Go.Sort.putCells (λv:Value=>v) p.o (Go.Sort.flatK enc e l'.toArray) c) t fr) hid rfl hp (by
   apply qcz
   intro i
   show(w.heap.modify p.b _)[i]? = _
   rw[qcJ,qba]
   split
   ·rename_i hi
    subst hi
    rw[h4,if_pos (qaA.1 h4).1]
    rfl
   ·rfl) rfl rfl rfl (.cells (l'.flatMap enc) e true) (λ_=>rfl) ⟨h1,by rw[hll,hl,←hl0];exact h2,by
    rw[qab]
    intro v hv
    obtain⟨a,_,ha⟩:=qbw.1 hv
    exact dU (hs a v ha),_,t,fr,rfl,by simp[Go.Sort.putCells,h5],h6,λi v hv=>by
    have hi:i<l'.length*e:=by rw[←hll];exact(qaK.1 hv).1
    have hF:=uW (enc:=enc) hk (l:=l') hi
    rw[hv]at hF
    obtain⟨u,hu⟩ : ∃u,c[p.o+i]? = some u:=⟨c[p.o+i]'(by rw[h5];rw[hl0]at h2;rw[hl]at hi;omega),qbh _⟩
    refine⟨v,?_,?_⟩
    ·simp only[Go.Sort.putCells,Array.getElem?_mapIdx,hu,qav]
     rw[if_pos ⟨by omega,by rw[Go.Sort.size_flatK];simpa using hi⟩,show p.o+i - p.o=i by omega,←qan hF]
    ·obtain⟨a,_,ha⟩:=qbw.1 (qag hv)
     exact .scalar (hs a v ha)⟩ (qdh _ _)
 obtain⟨a1,a2⟩:=hset
 obtain⟨b1,b2⟩:=wr_below (w':=sortWorldK enc e w p.b p.o n l'.toArray os) a1 ⟨rfl,rfl,rfl,by unfold sortWorldK grow;simp,λk hk=>by
  unfold sortWorldK grow
  simp only
  rw[qco hk]⟩ (qal _)
 exact⟨b1,a2.trans b2⟩
theorem cmp_lays{C:Cfg}(hG:∀g vs,C.G g=some vs->vs.all gfl=true){α:Type} [Inhabited α]{enc:α->List Value}{e:Nat}{cf:α->α->Int}{g:FuncId}(hs:∀x,∀v∈enc x,Am.scalar v=true)
  (hc:∀x y,cK C g [.agg ⟨enc x⟩,.agg ⟨enc y⟩] [] (.int .i64 (cf x y)) []) [glo:Glo] {base:Nat} {mu:HMap} {H:List HObj} {w:World} (hW:WR C base mu H w) {blk:Nat} (hblk:base<=blk) (off n:Nat):CmpLays C.P g #[] enc e cf blk off n w:=by
 intro m os dk _ x y cs
 have hsame:∀b t,b<base->w.heap[b]? = some t->(sortWorldK enc e w blk off m dk os).heap[b]? = some t:=λb t hb' ht=>by
  unfold sortWorldK grow
  simp only
  rw[qco (by rw[show(Go.Sort.putRowK enc e (Go.Sort.ahead w m) blk off dk).heap.size=w.heap.size from Go.Sort.size_putRow _ _ _ _ _];exact(qaA.1 ht).1)]
  show(w.heap.modify blk _)[b]? = _
  rw[qcJ,if_neg (by omega)]
  exact ht
 generalize sortWorldK enc e w blk off m dk os=W at *
 have hW0:WR C W.heap.size (λ_=>none) [] W:=
  ⟨λid o h=>by simp at h,λi j oi oj pi pj h=>by simp at h,λi o p h=>by simp at h,λi o p h=>by simp at h,λ_ _=>rfl,λg vs hg=>by
   obtain⟨h1,h2,c,t,fr,h3,h4⟩:=hW.glob g vs hg
   have h5:=hsame _ _ h1 h3
   exact⟨(qaA.1 h5).1,h2,c,t,fr,h5,gD (hG g vs hg) h4⟩⟩
 have hag:∀x:α,VR noL (λ_=>none) (.agg ⟨enc x⟩) (.agg ⟨enc x⟩):=λx=>.agg rfl λi u v hu hv=>by
  rw[hu]at hv
  cases hv
  exact .scalar (hs x u (qag (by simpa using hu)))
 obtain⟨v,mu',w',a1,a2,a3,a4,fr,b1,b2,b3⟩:=hc x y glo W.heap.size (λ_=>none) W #[.agg (enc x).toArray,.agg (enc y).toArray] (qal _) (VRs.cons (hag x) (VRs.cons (hag y) .nil)) hW0 cs
 rw[show(#[Value.agg (enc x).toArray,Value.agg (enc y).toArray] ++ #[]) = #[Value.agg (enc x).toArray,Value.agg (enc y).toArray]by simp]
 exact⟨.returned v,w',fr,⟨by rw[bp rfl a1],xi a3.os a3.tape a3.output a3.dr a3.size λb hb=>a3.keep b hb no_own⟩,b1,b2,b3⟩
def srt{α:Type} [Inhabited α](cf:α->α->Int)(l:List α):List α:=(pdq (ltOf cf) l.toArray 0 l.length (Lib.bitLen l.length) true true).toList
theorem sN{α:Type} [Inhabited α]{cf:α->α->Int}(hO:SWO (ltOf cf))(l:List α):PermIn 0 l.length l.toArray (srt cf l).toArray/\SortedIn (ltOf cf) 0 l.length (srt cf l).toArray:=by
 have h:=pdq_sorts (ltOf cf) hO l.toArray 0 l.length (Lib.bitLen l.length) true true (qaV _) (by simp) (Or.inl rfl)
 unfold srt
 simpa using h
theorem srt_perm{α:Type} [Inhabited α]{cf:α->α->Int}(hO:SWO (ltOf cf))(l:List α):(srt cf l).Perm l:=by
 have h:=(sN hO l).1.2.2
 have hl:(srt cf l).length=l.length:=by
  have:=(sN hO l).1.1
  simpa using this
 simpa[List.extract_eq_take_drop,hl,qaJ]using h
theorem srt_pair{α:Type} [Inhabited α]{cf:α->α->Int}(hO:SWO (ltOf cf))(l:List α):(srt cf l).Pairwise λx y=>ltOf cf y x=false:=by
 have hl:(srt cf l).length=l.length:=by
  have:=(sN hO l).1.1
  simpa using this
 rw[qc8]
 intro i j hi hj hij
 have h:=(sN hO l).2 i j (qaV _) hij (by omega)
 simpa[hi,hj]using h
theorem uk{C:Cfg}(hG:∀g vs,C.G g=some vs->vs.all gfl=true){ρ:Ren}(L:SlLaysF0.n6 C.P ρ){α:Type} [Inhabited α]{enc:α->List Value}{e:Nat}(aE:∀w,(isAgg (ρ.t 24)).run C.P w = .ok true w)(zE:∀w,(Go.sizeOf (ρ.t 24)).run C.P w = .ok e w)
  (hk:∀x,(enc x).length=e) (hs:∀x,∀v∈enc x,Am.scalar v=true) {cf:α->α->Int} (hO:SWO (ltOf cf)) {g:FuncId} (eg:∀args w,(callFunc g args).run C.P w = .ok (.enter g args) w)
  (hc:∀x y,cK C g [.agg ⟨enc x⟩,.agg ⟨enc y⟩] [] (.int .i64 (cf x y)) []) {H:List HObj} {id n cx:Nat} {l:List α} (hid:H[id]? = some (.cells (l.flatMap enc) e true)) (hn:n=l.length) (h0:0<n) (hl:n<4611686018427387904) :
  cK C (ρ.f 6) [.slice (some ⟨id,0,tag e⟩) n cx,.func (.func g) ⟨[]⟩ ⟨[]⟩] H (.tuple #[]) (H.set id (.cells ((srt cf l).flatMap enc) e true)):=by
 subst hn
 intro glo base mu w args' hb hargs hW cs
 obtain⟨v1,vs1,h1,h2,h3⟩:=hargs.uncons
 obtain⟨v2,vs2,rfl,h5,h6⟩:=h3.uncons
 obtain rfl:=h6.unnil
 have hargs':args' = #[v1,v2]:=qa3.1 h1
 subst hargs'
 obtain⟨p,cap,hp,rfl⟩ : ∃p cap,mu id=some p/\v1 = .slice (some ⟨p.b,p.o,none⟩) l.length cap:=by
  clear hid hl
  generalize l.length=N at *
  cases h2 with
  |scalar h=>simp[Am.scalar]at h
  |hslice h hr hl' hx=>exact⟨_,_,h,rfl⟩
  |hslice0 hx=>omega
 obtain⟨a',b',rfl,ha,hb'⟩ : ∃a' b',v2 = .func (.func g) a' b'/\a'.size=0/\b'.size=0:=by
  cases h5 with
  |scalar h=>simp[Am.scalar]at h
  |func hf ha hb _ _=>exact⟨_,_,rfl,ha.symm,hb.symm⟩
 obtain rfl:=qcG ha
 obtain rfl:=qcG hb'
 obtain⟨p',hp',hr⟩:=hW.obj id _ hid rfl
 rw[hp]at hp'
 cases hp'
 have hcon:=AnyQ.slices_SortFunc_eq L e aE zE enc hk (λx v hv=>by
  have:=hs x v hv
  unfold Am.scalar at this
  split at this<;>first|rfl|cases this) cf hO g #[] p.b p.o cap l.toArray w eg (cmp_lays hG hs hc hW (hW.own id _ p hid rfl hp) p.o l.toArray.size) (holds_of hk hs hr) (ie rfl hr) (by simpa using hl)
 obtain⟨e',w',fr,⟨rfl,n,os,rfl⟩,b1,b2,b3⟩:=hcon cs
 have hlen:(srt cf l).length=l.length:=by
  have:=(sN hO l).1.1
  simpa using this
 obtain⟨c1,c2⟩:=xe (l':=srt cf l) hW hk hs hid hp hlen n os
 have e2:(pdq (ltOf cf) l.toArray 0 l.toArray.size (Lib.bitLen l.toArray.size) true true)=(srt cf l).toArray:=by simp[srt]
 rw[e2]at b1 b3
 exact⟨.tuple #[],mu,_,.tuple (by simp) rfl (λi x y h=>by simp at h),c1,c2,L.f6.enters rfl _ _,fr,b1,b2,b3⟩
end
def renS:Ren:=⟨fun|6=>79|15=>122|14=>121|28=>151|29=>152|20=>143|21=>144|22=>145|23=>146|24=>147|25=>148|26=>149|27=>150|46=>177|47=>178|48=>179|49=>180|50=>181|57=>191|n=>n,
 fun|22=>51|24=>66|25=>158|39=>209|53=>250|55=>252|46=>243|45=>242|50=>247|66=>275|70=>279|76=>288|77=>152|n=>n,λn=>n⟩
def nmOf(P:Program)(f:FuncId):String:=match P.funcs[f]? with
 |some g=>g.name
 |none => ""
theorem bears_of {P:Program} {f:FuncId} {B:Func} (h1:(nmOf P f == "runtime.NumGoroutine")=false) (h2:P.funcs[f]? = some { B with name:=nmOf P f }):Bears P f B:=⟨_,h1,h2⟩
theorem layS:SlLaysF0.n6 Tryz.prog renS:=by
 constructor
 all_goals first
  |kernel_rfl
  |exact bears_of (by kernel_rfl) (by kernel_rfl)
  |exact λ_=>by kernel_rfl
end Go.Am
namespace Go.Am
namespace Sx
open Go.ChangeShapes Go.WideShapes Go.ChangeAt Go.WideMaps Go.WideElems Go.RowKit
def FitC:List LK->List Value->Prop
 | [],[]=>True
 | .i k :: ks,v :: vs=>(∃n,v = .int k n/\(Lit.int k n).wf=true)/\FitC ks vs
 | .b :: ks,v :: vs=>(∃t,v = .bool t)/\FitC ks vs
 |_,_=>False
def FitL:List LK->List Lf->Prop
 | [],[]=>True
 | .i k :: ks,.i n :: ls=>(Lit.int k n).wf=true/\FitL ks ls
 | .b :: ks,.b _ :: ls=>FitL ks ls
 |_,_=>False
theorem FitC.len:∀ {ks:List LK} {vs:List Value},FitC ks vs->vs.length=ks.length
 | [],[],_=>rfl
 | .i k :: ks,v :: vs,h=>by simp[FitC.len h.2]
 | .b :: ks,v :: vs,h=>by simp[FitC.len h.2]
 | .v :: _,_,h=>by cases h
 | [],_ :: _,h=>by cases h
 | .i _ :: _,[],h=>by cases h
 | .b :: _,[],h=>by cases h
theorem FitC.app:∀ {ks ks':List LK} {vs vs':List Value},FitC ks vs->FitC ks' vs'->FitC (ks++ks') (vs++vs')
 | [],_,[],_,_,h=>h
 | .i k :: ks,_,v :: vs,_,h,h'=>⟨h.1,FitC.app h.2 h'⟩
 | .b :: ks,_,v :: vs,_,h,h'=>⟨h.1,FitC.app h.2 h'⟩
 | .v :: _,_,_,_,h,_=>by cases h
 | [],_,_ :: _,_,h,_=>by cases h
 | .i _ :: _,_,[],_,h,_=>by cases h
 | .b :: _,_,[],_,h,_=>by cases h
theorem FitL.app:∀ {ks ks':List LK} {vs vs':List Lf},FitL ks vs->FitL ks' vs'->FitL (ks++ks') (vs++vs')
 | [],_,[],_,_,h=>h
 | .i k :: ks,_,.i v :: vs,_,h,h'=>⟨h.1,FitL.app h.2 h'⟩
 | .b :: ks,_,.b v :: vs,_,h,h'=>FitL.app (ks:=ks) h h'
 | .v :: _,_,_,_,h,_=>by cases h
 | [],_,_ :: _,_,h,_=>by cases h
 | .i _ :: _,_,[],_,h,_=>by cases h
 | .b :: _,_,[],_,h,_=>by cases h
 | .i _ :: _,_,.b _ :: _,_,h,_=>by cases h
 | .i _ :: _,_,.v _ :: _,_,h,_=>by cases h
 | .b :: _,_,.i _ :: _,_,h,_=>by cases h
 | .b :: _,_,.v _ :: _,_,h,_=>by cases h
theorem FitC.sl:∀ {ks:List LK} {vs:List Value},FitC ks vs->∃xs:List SL,xs.map SL.val=vs/\aK xs ks=true/\(∀x∈xs,x.good)/\FitL ks (xs.map SL.lf)
 | [],[],_=>⟨[],rfl,rfl,λ_ h=>(by cases h),trivial⟩
 | .i k :: ks,v :: vs,h=>by
  obtain⟨⟨n,rfl,hw⟩,h2⟩:=h
  obtain⟨xs,a,b,c,d⟩:=FitC.sl h2
  exact⟨.i k n :: xs,by simp[a,SL.val],by simp[aK,b,SL.is,dt],λx hx=>by
   rcases qam.1 hx with rfl|hx
   ·trivial
   ·exact c x hx,hw,d⟩
 | .b :: ks,v :: vs,h=>by
  obtain⟨⟨n,rfl⟩,h2⟩:=h
  obtain⟨xs,a,b,c,d⟩:=FitC.sl h2
  exact⟨.b n :: xs,by simp[a,SL.val],by simp[aK,b,SL.is],λx hx=>by
   rcases qam.1 hx with rfl|hx
   ·trivial
   ·exact c x hx,d⟩
 | .v :: _,_,h=>by cases h
 | [],_ :: _,h=>by cases h
 | .i _ :: _,[],h=>by cases h
 | .b :: _,[],h=>by cases h
def flatF(F:TypeId->Option (List LK)):List Field->Nat->Option (List LK)
 | [],_=>some []
 |f :: fs,off=>match Nat.beq f.offset off,F f.type with
  |true,some ks=>(flatF F fs (off+ks.length)).map (ks ++ ·)
  |_,_=>none
def flatT(P:Program):Nat->TypeId->Option (List LK)
 |0,_=>none
 |d+1,t=>match P.underlying t with
  |some (.int k)=>some [.i k]
  |some .bool=>some [.b]
  |some (.struct fs)=>match flatF (flatT P d) fs.toList 0 with
   |some ks=>match Nat.beq ks.length (P.cellsOf t)with
    |true=>some ks
    |false=>none
   |none=>none
  |_=>none
section
variable {H:Type} {enc:TypeId×Value->H} {P:Program}
theorem iY{α:Type}(l:List α)(c:Nat):l.take (l.take c).length=l.take c:=by
 rw[qaI]
 rcases Nat.le_total c l.length with h|h
 ·rw[qb6 h]
 ·rw[qdf h,qaJ h,qaJ (qal _)]
theorem uV{F:TypeId->Option (List LK)}{w:World}{base:Nat}{sp:Nat->Bool}{held:Bool}{fuel:Nat}
  (hF:∀t ks,F t=some ks->∀cs (x:DataW H×List MemPlace),DataW.trod enc P w base sp held fuel t cs=some x->x.2=[]/\FitC ks cs/\∀w' b' s' h',DataW.trod enc P w' b' s' h' fuel t cs=some x) (cs:List Value) :
  ∀(fs:List Field) (off:Nat) (ks:List LK) (xs:List (DataW H×List MemPlace)),flatF F fs off=some ks->fs.mapM (λf=>DataW.trod enc P w base sp held fuel f.type ((cs.drop f.offset).take (P.cellsOf f.type)))=some xs->
   xs.flatMap (·.2)=[]/\FitC ks ((cs.drop off).take ks.length)/\∀w' b' s' h',fs.mapM (λf=>DataW.trod enc P w' b' s' h' fuel f.type ((cs.drop f.offset).take (P.cellsOf f.type)))=some xs
 | [],off,ks,xs,h1,h2=>by
  simp only[flatF,qau]at h1
  subst h1
  simp only[qdx,qdq,qau]at h2
  subst h2
  refine⟨rfl,by simp[FitC],λ_ _ _ _=>by simp⟩
 |f :: fs,off,ks,xs,h1,h2=>by
  simp only[flatF]at h1
  split at h1
  ·rename_i k1 e1 e2
   obtain⟨k2,e3,rfl⟩:=qad.1 h1
   have e1:=qac e1
   rw[qb1]at h2
   obtain⟨x,h3,h2⟩:=qap.1 h2
   obtain⟨ys,h4,h2⟩:=qap.1 h2
   cases h2
   obtain⟨a1,a2,a3⟩:=hF _ _ e2 _ _ h3
   obtain⟨b1,b2,b3⟩:=uV hF cs fs _ k2 ys e3 h4
   refine⟨by simp[a1,b1],?_,λw' b' s' h'=>?_⟩
   ·rw[qaz,qdy]
    refine FitC.app ?_ (by rw[qbS];exact b2)
    have hl:=FitC.len a2
    rw[e1]at a2 hl
    rw[←hl,iY]
    exact a2
   ·rw[qb1,a3 w' b' s' h',b3 w' b' s' h']
    rfl
  ·cases h1
theorem pW:∀(d:Nat) (t:TypeId) (ks:List LK),flatT P d t=some ks->∀(w:World) (base:Nat) (sp:Nat->Bool) (held:Bool) (fuel:Nat) (cs:List Value) (x:DataW H×List MemPlace),DataW.trod enc P w base sp held fuel t cs=some x->
  x.2=[]/\FitC ks cs/\∀w' b' s' h',DataW.trod enc P w' b' s' h' fuel t cs=some x
 |0,_,_,h=>by cases h
 |d+1,t,ks,h=>by
  intro w base sp held fuel cs x hx
  simp only[flatT]at h
  split at h
  ·rename_i k e
   cases h
   obtain⟨n,rfl,rfl,hw⟩:=DataW.trod_int e hx
   refine⟨rfl,⟨⟨n,rfl,hw⟩,trivial⟩,λw' b' s' h'=>?_⟩
   cases fuel with
   |zero=>simp[DataW.trod]at hx
   |succ m=>simp[DataW.trod,e,hw]
  ·rename_i e
   cases h
   obtain⟨n,rfl,rfl⟩:=DataW.trod_bool e hx
   refine⟨rfl,⟨⟨n,rfl⟩,trivial⟩,λw' b' s' h'=>?_⟩
   cases fuel with
   |zero=>simp[DataW.trod]at hx
   |succ m=>simp[DataW.trod,e]
  ·rename_i fs e
   split at h
   ·rename_i k2 e2
    split at h
    ·rename_i e3
     cases h
     have e3:=qac e3
     cases fuel with
     |zero=>simp[DataW.trod]at hx
     |succ m=>
      simp only[DataW.trod,e]at hx
      split at hx
      ·rename_i hl
       obtain⟨xs,h5,rfl⟩:=qad.1 hx
       obtain⟨a1,a2,a3⟩:=uV (λt ks h cs x hx=>pW d t ks h w base sp held m cs x hx) cs fs.toList 0 ks xs e2 h5
       rw[qbb,qaJ (by omega)]at a2
       refine⟨a1,a2,λw' b' s' h'=>?_⟩
       simp only[DataW.trod,e,hl,if_true]
       rw[a3 w' b' s' h']
       rfl
      ·cases hx
    ·cases h
   ·cases h
  ·cases h
end
section
variable [Val]
end
end Sx
end Go.Am
namespace Go.Am
namespace Sx
theorem FitL.i{k:IntKind}{ks:List LK}{ls:List Lf}(h:FitL (.i k :: ks) ls):∃n r,ls = .i n :: r/\(Lit.int k n).wf=true/\FitL ks r:=by
 match ls,h with
 | .i n :: r,h=>exact⟨n,r,rfl,h.1,h.2⟩
theorem FitL.b{ks:List LK}{ls:List Lf}(h:FitL (.b :: ks) ls):∃n r,ls = .b n :: r/\FitL ks r:=by
 match ls,h with
 | .b n :: r,h=>exact⟨n,r,rfl,h⟩
theorem FitL.nil{ls:List Lf}(h:FitL [] ls):ls=[]:=by
 match ls,h with
 | [],_=>rfl
theorem wf_i64{n:Int}(h:(Lit.int .i64 n).wf=true):-9223372036854775808<=n/\n<=9223372036854775807:=by
 simp only[Lit.wf,qaa,decide_eq_true_eq]at h
 exact h
theorem wf_u8{n:Int}(h:(Lit.int .u8 n).wf=true):0<=n/\n<=255:=by
 simp only[Lit.wf,qaa,decide_eq_true_eq]at h
 exact h
theorem nm{H:Type}{enc:TypeId×Value->H}{P:Program}{w:World}{base:Nat}{sp:Nat->Bool}{held:Bool}:∀ {ts:List TypeId} {vs:List Value} {ds:List (DataW H)} {ps:List MemPlace},DataW.TrodAll enc P w base sp held ts vs ds ps->ds.length=ts.length
 | [],[],[],_,_=>rfl
 |_ :: _,_ :: _,_ :: _,_,h=>by
  obtain⟨p,q,_,h2,_⟩:=h
  simp[nm h2]
 | [],_ :: _,_,_,h=>by cases h
 | [],[],_ :: _,_,h=>by cases h
 |_ :: _,[],_,_,h=>by cases h
 |_ :: _,_ :: _,[],_,h=>by cases h
end Sx
namespace Sx
open Go.ChangeShapes Go.WideShapes Go.ChangeAt Go.WideMaps Go.WideElems Go.RowKit
inductive CK2 where
 |i (k:IntKind)
 |b
 |s (ks:List LK)
def CK2.lk:CK2->LK
 | .i k=>.i k
 | .b=>.b
 | .s _=>.v
def SlFit(w:World)(ks:List LK)(v:Value):Prop:=
 v = .slice none 0 0∨∃(a:Addr) (len cap:Nat) (c:Array Value) (t:TypeId) (fr:Nat×Nat) (cells:List Value),v = .slice (some a) len cap/\a.spot=none/\len<=cap/\cap<=maxLen/\
  w.heap[a.block]? = some (.cells c t fr)/\(cap=0∨a.off+cap*ks.length<=c.size)/\cells.length=len*ks.length/\(∀(i:Nat) v,cells[i]? = some v->c[a.off+i]? = some v)/\
  ∀i,i<len->FitC ks ((cells.drop (i*ks.length)).take ks.length)
def CellFit(w:World):CK2->Value->Prop
 | .i k,v=>∃n,v = .int k n/\(Lit.int k n).wf=true
 | .b,v=>∃t,v = .bool t
 | .s ks,v=>SlFit w ks v
def dB(w:World):List CK2->List Value->Prop
 | [],[]=>True
 |k :: ks,v :: vs=>CellFit w k v/\dB w ks vs
 |_,_=>False
def ba(h:HL):List CK2->List Lf->Prop
 | [],[]=>True
 | .i k :: ks,.i n :: ls=>(Lit.int k n).wf=true/\ba h ks ls
 | .b :: ks,.b _ :: ls=>ba h ks ls
 | .s es :: ks,.v x :: ls=>(∃n cells,SlC h x es.length n cells/\n<=maxLen/\∀i,i<n->FitC es ((cells.drop (i*es.length)).take es.length))/\ba h ks ls
 |_,_=>False
theorem dB.len{w:World}:∀ {ks:List CK2} {vs:List Value},dB w ks vs->vs.length=ks.length
 | [],[],_=>rfl
 |_ :: _,_ :: _,h=>by simp[dB.len h.2]
 | [],_ :: _,h=>by cases h
 |_ :: _,[],h=>by cases h
theorem dB.app{w:World}:∀ {ks ks':List CK2} {vs vs':List Value},dB w ks vs->dB w ks' vs'->dB w (ks++ks') (vs++vs')
 | [],_,[],_,_,h=>h
 |_ :: _,_,_ :: _,_,h,h'=>⟨h.1,dB.app h.2 h'⟩
 | [],_,_ :: _,_,h,_=>by cases h
 |_ :: _,_,[],_,h,_=>by cases h
theorem ba.app{h:HL}:∀ {ks ks':List CK2} {vs vs':List Lf},ba h ks vs->ba h ks' vs'->ba h (ks++ks') (vs++vs')
 | [],_,[],_,_,h=>h
 | .i _ :: ks,_,.i _ :: _,_,h,h'=>⟨h.1,ba.app (ks:=ks) h.2 h'⟩
 | .b :: ks,_,.b _ :: _,_,h,h'=>ba.app (ks:=ks) h h'
 | .s _ :: ks,_,.v _ :: _,_,h,h'=>⟨h.1,ba.app (ks:=ks) h.2 h'⟩
 | [],_,_ :: _,_,h,_=>by cases h
 | .i _ :: _,_,[],_,h,_=>by cases h
 | .b :: _,_,[],_,h,_=>by cases h
 | .s _ :: _,_,[],_,h,_=>by cases h
 | .i _ :: _,_,.b _ :: _,_,h,_=>by cases h
 | .i _ :: _,_,.v _ :: _,_,h,_=>by cases h
 | .b :: _,_,.i _ :: _,_,h,_=>by cases h
 | .b :: _,_,.v _ :: _,_,h,_=>by cases h
 | .s _ :: _,_,.i _ :: _,_,h,_=>by cases h
 | .s _ :: _,_,.b _ :: _,_,h,_=>by cases h
def ckF(F:TypeId->Option (List CK2)):List Field->Nat->Option (List CK2)
 | [],_=>some []
 |f :: fs,off=>match Nat.beq f.offset off,F f.type with
  |true,some ks=>(ckF F fs (off+ks.length)).map (ks ++ ·)
  |_,_=>none
def kby:LK->Nat
 | .i .i64=>8
 |_=>0
def kbs:List LK->Nat
 | []=>0
 |k :: ks=>kby k+kbs ks
def ckT(P:Program):Nat->TypeId->Option (List CK2)
 |0,_=>none
 |d+1,t=>match P.underlying t with
  |some (.int k)=>some [.i k]
  |some .bool=>some [.b]
  |some (.slice e)=>match flatT P 20 e with
   |some ks=>match Nat.beq (P.cellsOf e) ks.length&&Nat.blt 0 ks.length&&Nat.ble (kbs ks) (P.bytesOf e)with
    |true=>some [.s ks]
    |false=>none
   |none=>none
  |some (.struct fs)=>match ckF (ckT P d) fs.toList 0 with
   |some ks=>match Nat.beq ks.length (P.cellsOf t)with
    |true=>some ks
    |false=>none
   |none=>none
  |_=>none
section
variable {H:Type} {enc:TypeId×Value->H} {P:Program}
def Lies(w:World)(v:Value):Prop:=∀a len cap,v = .slice (some a) len cap->a.spot=none/\∃c t fr,w.heap[a.block]? = some (.cells c t fr)
theorem ic{α β:Type}{f g:α->Option β}:∀ {l:List α},(∀x∈l,f x=g x)->l.mapM f=l.mapM g
 | [],_=>rfl
 |a :: l,h=>by
  rw[qb1,qb1,h a qaB,ic λx hx=>h x (qao _ hx)]
theorem bq{a:Addr}(h:a.spot=none)(i:Nat):a.add i=⟨a.block,a.off+i,none⟩:=by
 obtain⟨b,o,s⟩:=a
 cases h
 unfold Addr.add
 simp
theorem slice_ok{w:World}{t e:TypeId}{ks:List LK}(ht:P.underlying t=some (.slice e))(he:flatT P 20 e=some ks)(hc:P.cellsOf e=ks.length)(h0:0<ks.length){base:Nat}(hbase:base=0){held:Bool}{fuel:Nat}{cs:List Value}{x:DataW H×List MemPlace}
  (hx:DataW.trod enc P w base (λ_=>true) held fuel t cs=some x) (hl:∀v∈cs,Lies w v) :
  ∃v,cs=[v]/\SlFit w ks v/\∀(w':World) (s':Nat->Bool),(∀b,b<w.heap.size->w'.heap[b]? = w.heap[b]?)->(∀b,b<w.heap.size->s' b=true)->DataW.trod enc P w' base s' held fuel t cs=some x:=by
 subst hbase
 have hx0:=hx
 rcases DataW.trod_slice ht hx with⟨rfl,rfl⟩|⟨a,len,cap,elems,rest,n,rfl,rfl,rfl,hb,hlc,hm,hlen,hel,hsp,_⟩
 ·refine⟨_,rfl,.inl rfl,λw' s' _ _=>?_⟩
  cases fuel with
  |zero=>simp[DataW.trod]at hx
  |succ m=>simp[DataW.trod,ht]
 ·obtain⟨hs,c,t',fr,hblk⟩:=hl _ qaB a len cap rfl
  obtain⟨hrl,hr⟩:=hsp rfl
  rw[hc]at hel hr
  have hlt:a.block<w.heap.size:=by
   rcases qaw a.block w.heap.size with h|h
   ·exact h
   ·rw[qa5 h]at hblk;cases hblk
  have each:∀i,i<cap->∃ci y,w.cells? 0 (a.add (i*ks.length)) ks.length=some ci/\DataW.trod enc P w 0 (λ_=>true) held n e ci=some y/\(elems++rest)[i]? = some y:=by
   intro i hi
   by_cases h1:i<len
   ·have h2:=hel i h1
    have h3:elems[i]? = some elems[i]:=qax (by omega)
    rw[h3]at h2
    obtain⟨ci,h4,h5⟩:=qap.1 h2
    exact⟨ci,_,h4,h5,by rw[qae (by omega)];exact h3⟩
   ·have h2:=hr (i - len) (by omega)
    rw[show len+(i - len)=i by omega]at h2
    have h3:rest[i - len]? = some (rest[i - len]'(by omega)):=qax (by omega)
    rw[h3]at h2
    obtain⟨ci,h4,h5⟩:=qap.1 h2
    exact⟨ci,_,h4,h5,by rw[qak (by omega),hlen];exact h3⟩
  have rd:∀i,i<cap->∀j,j<ks.length->∀ci,w.cells? 0 (a.add (i*ks.length)) ks.length=some ci->c[a.off+i*ks.length+j]? = ci[j]?:=by
   intro i hi j hj ci hci
   have h1:=(World.cells?_some hci).2.2 j hj
   rw[bq hs,bq rfl]at h1
   rw[←h1]
   unfold World.cell?
   simp[hblk]
  have hsz:cap=0∨a.off+cap*ks.length<=c.size:=by
   by_cases hcap:cap=0
   ·exact .inl hcap
   ·right
    obtain⟨ci,y,h1,_,_⟩:=each (cap - 1) (by omega)
    have h2:=rd (cap - 1) (by omega) (ks.length - 1) (by omega) ci h1
    have hcl:=(World.cells?_some h1).2.1
    rw[qax (by omega)]at h2
    have h3:=(qaA.1 h2).1
    have h4:cap*ks.length=(cap - 1)*ks.length+ks.length:=by
     rw[←Nat.succ_mul];congr 1;omega
    omega
  have hsz2:a.off+len*ks.length<=c.size∨len=0:=by
   rcases hsz with h|h
   ·right;omega
   ·left
    have:=qbl ks.length hlc
    omega
  refine⟨_,rfl,.inr ⟨a,len,cap,c,t',fr,(c.toList.drop a.off).take (len*ks.length),rfl,hs,hlc,hm,hblk,hsz,?_,?_,?_⟩,?_⟩
  ·rw[qaI,qbF]
   have hcz:c.toList.length=c.size:=qcr
   rcases hsz2 with h|h
   ·omega
   ·subst h;omega
  ·intro i v hv
   rw[qa1]at hv
   split at hv
   ·rw[qaZ]at hv
    simpa using hv
   ·cases hv
  ·intro i hi
   obtain⟨ci,y,h1,h2,_⟩:=each i (by omega)
   obtain⟨_,h3,_⟩:=pW 20 e ks he w 0 _ held n ci y h2
   have hcl:=(World.cells?_some h1).2.1
   have:(((c.toList.drop a.off).take (len*ks.length)).drop (i*ks.length)).take ks.length=ci:=by
    apply qaU
    intro j
    by_cases hj:j<ks.length
    ·have hle:i*ks.length+ks.length<=len*ks.length:=by
      have:=qbl ks.length (show i+1<=len by omega)
      rw[qbt,qck]at this;exact this
     rw[qa1,if_pos hj,qaZ,qa1,if_pos (by omega),qaZ,←rd i (by omega) j hj ci h1]
     rw[qcI,qbq]
    ·rw[qaf (by rw[qaI];omega),qaf (by omega)]
   rw[this];exact h3
  ·intro w' s' hw hs'
   have hcell:∀i,i<cap->w'.cells? 0 (a.add (i*ks.length)) ks.length=w.cells? 0 (a.add (i*ks.length)) ks.length:=by
    intro i hi
    unfold World.cells?
    have:∀j,w'.cell? ((a.add (i*ks.length)).add j)=w.cell? ((a.add (i*ks.length)).add j):=by
     intro j
     rw[bq hs,bq rfl]
     unfold World.cell?
     rw[hw _ hlt]
    simp only[this]
   have el:∀i,i<cap->(w'.cells? 0 (a.add (i*P.cellsOf e)) (P.cellsOf e)).bind (DataW.trod enc P w' 0 s' held n e)=(elems++rest)[i]?:=by
    intro i hi
    rw[hc,hcell i hi]
    obtain⟨ci,y,h1,h2,h3⟩:=each i hi
    rw[h1,h3,qah]
    exact(pW 20 e ks he w 0 _ held n ci y h2).2.2 w' 0 s' held
   have el0:∀i,i<cap->(w.cells? 0 (a.add (i*P.cellsOf e)) (P.cellsOf e)).bind (DataW.trod enc P w 0 (λ_=>true) held n e)=(elems++rest)[i]?:=by
    intro i hi
    rw[hc]
    obtain⟨ci,y,h1,h2,h3⟩:=each i hi
    rw[h1,h3,qah]
    exact h2
   unfold DataW.trod at hx0 ⊢
   simp only[ht]at hx0 ⊢
   rw[if_pos ⟨qaV _,hlc,hm⟩]at hx0 ⊢
   rw[ic (λi hi=>(el i (by have:=qai.1 hi;omega)).trans (el0 i (by have:=qai.1 hi;omega)).symm)]
   rw[ic (l:=List.range (cap - len)) (λj hj=>(el (len+j) (by have:=qai.1 hj;omega)).trans (el0 (len+j) (by have:=qai.1 hj;omega)).symm)]
   rw[hs' _ hlt]
   exact hx0
theorem ckF_ok{F:TypeId->Option (List CK2)}{w:World}{held:Bool}{fuel:Nat}(cs:List Value)(hl:∀v∈cs,Lies w v)
  (hF:∀t ks,F t=some ks->∀cs (x:DataW H×List MemPlace),(∀v∈cs,Lies w v)->DataW.trod enc P w 0 (λ_=>true) held fuel t cs=some x->dB w ks cs/\∀(w':World) (s':Nat->Bool),(∀b,b<w.heap.size->w'.heap[b]? = w.heap[b]?)->(∀b,b<w.heap.size->s' b=true)->DataW.trod enc P w' 0 s' held fuel t cs=some x) :
  ∀(fs:List Field) (off:Nat) (ks:List CK2) (xs:List (DataW H×List MemPlace)),ckF F fs off=some ks->fs.mapM (λf=>DataW.trod enc P w 0 (λ_=>true) held fuel f.type ((cs.drop f.offset).take (P.cellsOf f.type)))=some xs->
   dB w ks ((cs.drop off).take ks.length)/\∀(w':World) (s':Nat->Bool),(∀b,b<w.heap.size->w'.heap[b]? = w.heap[b]?)->(∀b,b<w.heap.size->s' b=true)->fs.mapM (λf=>DataW.trod enc P w' 0 s' held fuel f.type ((cs.drop f.offset).take (P.cellsOf f.type)))=some xs
 | [],off,ks,xs,h1,h2=>by
  simp only[ckF,qau]at h1
  subst h1
  simp only[qdx,qdq,qau]at h2
  subst h2
  refine⟨by simp[dB],λ_ _ _ _=>by simp⟩
 |f :: fs,off,ks,xs,h1,h2=>by
  simp only[ckF]at h1
  split at h1
  ·rename_i k1 e1 e2
   obtain⟨k2,e3,rfl⟩:=qad.1 h1
   have e1:=qac e1
   rw[qb1]at h2
   obtain⟨x,h3,h2⟩:=qap.1 h2
   obtain⟨ys,h4,h2⟩:=qap.1 h2
   cases h2
   obtain⟨a2,a3⟩:=hF _ _ e2 _ _ (λv hv=>hl v (qby (qbs hv))) h3
   obtain⟨b2,b3⟩:=ckF_ok cs hl hF fs _ k2 ys e3 h4
   refine⟨?_,λw' s' hw hs'=>?_⟩
   ·rw[qaz,qdy]
    refine dB.app ?_ (by rw[qbS];exact b2)
    have hl:=dB.len a2
    rw[e1]at a2 hl
    rw[←hl,iY]
    exact a2
   ·rw[qb1,a3 w' s' hw hs',b3 w' s' hw hs']
    rfl
  ·cases h1
theorem ckT_ok:∀(d:Nat) (t:TypeId) (ks:List CK2),ckT P d t=some ks->∀(w:World) (held:Bool) (fuel:Nat) (cs:List Value) (x:DataW H×List MemPlace),(∀v∈cs,Lies w v)->DataW.trod enc P w 0 (λ_=>true) held fuel t cs=some x->
  dB w ks cs/\∀(w':World) (s':Nat->Bool),(∀b,b<w.heap.size->w'.heap[b]? = w.heap[b]?)->(∀b,b<w.heap.size->s' b=true)->DataW.trod enc P w' 0 s' held fuel t cs=some x
 |0,_,_,h=>by cases h
 |d+1,t,ks,h=>by
  intro w held fuel cs x hl hx
  simp only[ckT]at h
  split at h
  ·rename_i k e
   cases h
   obtain⟨n,rfl,rfl,hw⟩:=DataW.trod_int e hx
   refine⟨⟨⟨n,rfl,hw⟩,trivial⟩,λw' s' _ _=>?_⟩
   cases fuel with
   |zero=>simp[DataW.trod]at hx
   |succ m=>simp[DataW.trod,e,hw]
  ·rename_i e
   cases h
   obtain⟨n,rfl,rfl⟩:=DataW.trod_bool e hx
   refine⟨⟨⟨n,rfl⟩,trivial⟩,λw' s' _ _=>?_⟩
   cases fuel with
   |zero=>simp[DataW.trod]at hx
   |succ m=>simp[DataW.trod,e]
  ·rename_i e e0
   split at h
   ·rename_i k2 e2
    split at h
    ·rename_i e3
     cases h
     simp only[qaa,qaT]at e3
     obtain⟨v,rfl,a2,a3⟩:=slice_ok e0 e2 (qac e3.1.1) e3.1.2 rfl hx hl
     exact⟨⟨a2,trivial⟩,a3⟩
    ·cases h
   ·cases h
  ·rename_i fs e
   split at h
   ·rename_i k2 e2
    split at h
    ·rename_i e3
     cases h
     have e3:=qac e3
     cases fuel with
     |zero=>simp[DataW.trod]at hx
     |succ m=>
      simp only[DataW.trod,e]at hx
      split at hx
      ·rename_i hlen
       obtain⟨xs,h5,rfl⟩:=qad.1 hx
       obtain⟨a2,a3⟩:=ckF_ok cs hl (λt ks h cs x hl hx=>ckT_ok d t ks h w held m cs x hl hx) fs.toList 0 ks xs e2 h5
       rw[qbb,qaJ (by omega)]at a2
       refine⟨a2,λw' s' hw hs'=>?_⟩
       simp only[DataW.trod,e,hlen,if_true]
       rw[a3 w' s' hw hs']
       rfl
      ·cases hx
    ·cases h
   ·cases h
  ·cases h
abbrev Blk2:=HObj×Option Pl
def qU(w:World)(b:Blk2):Prop:=b.1 = .dead∨∃vs e p c t fr,b.1 = .cells vs e false/\b.2=some p/\p.esz=e/\vs.all flat=true/\vs.all aQ=true/\vs.length<=p.room/\w.heap[p.b]? = some (.cells c t fr)/\c.size=p.o+p.room/\∀(i:Nat) v,vs[i]? = some v->c[p.o+i]? = some v
theorem ma:∀ {ks:List LK} {vs:List Value},FitC ks vs->vs.all flat=true/\vs.all aQ=true
 | [],[],_=>⟨rfl,rfl⟩
 | .i k :: ks,v :: vs,h=>by
  obtain⟨⟨n,rfl,_⟩,h2⟩:=h
  obtain⟨a,b⟩:=ma h2
  exact⟨by simp[a,flat,eG,scalar],by simp[b];rfl⟩
 | .b :: ks,v :: vs,h=>by
  obtain⟨⟨n,rfl⟩,h2⟩:=h
  obtain⟨a,b⟩:=ma h2
  exact⟨by simp[a,flat,eG,scalar],by simp[b];rfl⟩
 | .v :: _,_,h=>by cases h
 | [],_ :: _,h=>by cases h
 | .i _ :: _,[],h=>by cases h
 | .b :: _,[],h=>by cases h
theorem tb{ks:List LK}(hk:0<ks.length){cells:List Value}{n:Nat}(hl:cells.length=n*ks.length)(h:∀i,i<n->FitC ks ((cells.drop (i*ks.length)).take ks.length)):cells.all flat=true/\cells.all aQ=true:=by
 have main:∀j,j<cells.length->∃v,cells[j]? = some v/\flat v=true/\aQ v=true:=by
  intro j hj
  have h1:j / ks.length<n:=by
   rw[Nat.div_lt_iff_lt_mul hk];omega
  obtain⟨a,b⟩:=ma (h _ h1)
  have hm:=qb2 j hk
  have hd:=Nat.div_add_mod j ks.length
  have hmem:((cells.drop (j / ks.length*ks.length)).take ks.length)[j%ks.length]? = some cells[j]:=by
   rw[qa1,if_pos hm,qaZ]
   rw[show j / ks.length*ks.length+j%ks.length=j by rw[Nat.mul_comm];exact hd]
   exact qax hj
  exact⟨_,qax hj,qab.1 a _ (qag hmem),qab.1 b _ (qag hmem)⟩
 constructor<;>
 ·rw[qab]
  intro v hv
  obtain⟨j,hj⟩:=qaQ hv
  have hlt:j<cells.length:=by
   rcases qaw j cells.length with h|h
   ·exact h
   ·rw[qaf h]at hj;cases hj
  obtain⟨v',h1,h2,h3⟩:=main j hlt
  rw[hj]at h1
  cases h1
  first|exact h2|exact h3
section
variable [Val] [Glo]
theorem cell_abs{w:World}{ck:CK2}{v:Value}(hp:∀ks,ck = .s ks->0<ks.length)(h:CellFit w ck v)(n0:Nat):∃(x:SL) (bl:List Blk2),(∀b∈bl,qU w b)/\x.is ck.lk=true/\x.good/\
  (∀mu:HMap,(∀(i:Nat) b,bl[i]? = some b->mu (n0+i)=b.2)->VR noL mu x.val v)/\∀hp:HL,(∀(i:Nat) b,bl[i]? = some b->hp[n0+i]? = some (.o b.1))->ba hp [ck] [x.lf]:=by
 cases ck with
 |i k=>
  obtain⟨n,rfl,hw⟩:=h
  exact⟨.i k n,[],by simp,by simp[SL.is,CK2.lk,dt],trivial,λmu _=>.scalar rfl,λhp _=>⟨hw,trivial⟩⟩
 |b=>
  obtain⟨t,rfl⟩:=h
  exact⟨.b t,[],by simp,rfl,trivial,λmu _=>.scalar rfl,λhp _=>trivial⟩
 |s ks=>
  have hk:=hp ks rfl
  rcases h with rfl|⟨a,len,cap,c,t,fr,cells,rfl,hs,hlc,hm,hblk,hsz,hcl,hget,hfit⟩
  ·refine⟨.v (.slice none 0 0),[],by simp,rfl,rfl,λmu _=>.scalar rfl,λhp _=>⟨⟨0,[],⟨by simp,.inl ⟨rfl,rfl⟩⟩,qaV _,λi hi=>by omega⟩,trivial⟩⟩
  ·obtain⟨hf1,hf2⟩:=tb hk hcl hfit
   have gd:aP (.slice (some ⟨n0,0,tag ks.length⟩) len 0)=true:=by simp[aP,noLoc,bb,bP,bo,aU,aD,tag]
   have ha:a=⟨a.block,a.off,none⟩:=by cases a;cases hs;rfl
   have fit:∀hp:HL,hp[n0]? = some (.o (.cells cells ks.length false))->ba hp [.s ks] [.v (.slice (some ⟨n0,0,tag ks.length⟩) len 0)]:=λhp h1=>
    ⟨⟨len,cells,⟨hcl,.inr ⟨n0,0,0,cells,false,rfl,h1,cut_all hcl⟩⟩,by omega,hfit⟩,trivial⟩
   by_cases hcap:cap=0
   ·subst hcap
    obtain rfl:len=0:=by omega
    have hce:cells=[]:=List.eq_nil_of_length_eq_zero (by omega)
    subst hce
    refine⟨.v (.slice (some ⟨n0,0,tag ks.length⟩) 0 0),[(.cells [] ks.length false,some ⟨a.block,c.size,0,ks.length⟩)],λb hb=>?_,rfl,gd,λmu _=>.hslice0 (qaV _),λhp h1=>fit hp (h1 0 _ rfl)⟩
    simp only[qay]at hb
    subst hb
    exact .inr ⟨[],ks.length,_,c,t,fr,rfl,rfl,rfl,rfl,rfl,qaV _,hblk,by simp,λi v hv=>by simp at hv⟩
   ·have hsz:a.off+cap*ks.length<=c.size:=hsz.resolve_left hcap
    have hle:=qbl ks.length hlc
    refine⟨.v (.slice (some ⟨n0,0,tag ks.length⟩) len 0),[(.cells cells ks.length false,some ⟨a.block,a.off,c.size - a.off,ks.length⟩)],λb hb=>?_,rfl,gd,λmu h1=>?_,λhp h1=>fit hp (h1 0 _ rfl)⟩
    ·simp only[qay]at hb
     subst hb
     exact .inr ⟨cells,ks.length,_,c,t,fr,rfl,rfl,rfl,hf1,hf2,by show cells.length<=c.size - a.off;omega,hblk,by show c.size=a.off+(c.size - a.off);omega,hget⟩
    ·have h2:=h1 0 _ rfl
     rw[ha]
     have:=VR.hslice (la:=noL) (mu:=mu) (id:=n0) (off:=0) (len:=len) (cap:=cap) (cx:=0) h2 (by show 0+cap*ks.length<=c.size - a.off;omega) hlc (.inl rfl)
     exact this
theorem ri{w:World}:∀ {cks:List CK2} {vs:List Value},(∀ks,CK2.s ks∈cks->0<ks.length)->dB w cks vs->∀n0,∃(xs:List SL) (bl:List Blk2),(∀b∈bl,qU w b)/\aK xs (cks.map CK2.lk)=true/\(∀x∈xs,x.good)/\xs.length=vs.length/\
  (∀mu:HMap,(∀(i:Nat) b,bl[i]? = some b->mu (n0+i)=b.2)->VRs noL mu (xs.map SL.val) vs)/\∀hp:HL,(∀(i:Nat) b,bl[i]? = some b->hp[n0+i]? = some (.o b.1))->ba hp cks (xs.map SL.lf)
 | [],[],_,_,n0=>⟨[],[],by simp,rfl,by simp,rfl,λmu _=>⟨rfl,λi x y h=>by simp at h⟩,λhp _=>trivial⟩
 |ck :: cks,v :: vs,hp,h,n0=>by
  obtain⟨x,bl,a1,a2,a3,a4,a5⟩:=cell_abs (λks e=>hp ks (by rw[e];exact qaB)) h.1 n0
  obtain⟨xs,bl',b1,b2,b3,b4,b5,b6⟩:=ri (λks e=>hp ks (qao _ e)) h.2 (n0+bl.length)
  have g1:∀ {α:Type} {f:Nat->α} {g:Blk2->α},(∀(i:Nat) b,(bl++bl')[i]? = some b->f (n0+i)=g b)->(∀(i:Nat) b,bl[i]? = some b->f (n0+i)=g b)/\∀(i:Nat) b,bl'[i]? = some b->f (n0+bl.length+i)=g b:=by
   intro α f g h
   refine⟨λi b hb=>h i b ?_,λi b hb=>?_⟩
   ·rw[qae (by
     rcases qaw i bl.length with h|h
     ·exact h
     ·rw[qaf h]at hb;cases hb)];exact hb
   ·rw[qbq]
    refine h _ b ?_
    rw[qak (by omega),qbY];exact hb
  refine⟨x :: xs,bl++bl',λb hb=>?_,by simp[aK,a2,b2],λy hy=>?_,by simp[b4],λmu hmu=>?_,λhp hh=>?_⟩
  ·rcases qaG.1 hb with h|h
   ·exact a1 b h
   ·exact b1 b h
  ·rcases qam.1 hy with rfl|hy
   ·exact a3
   ·exact b3 y hy
  ·obtain⟨h1,h2⟩:=g1 (f:=mu) (g:=λb=>b.2) hmu
   have c1:=a4 mu h1
   obtain⟨c2,c3⟩:=b5 mu h2
   refine⟨by simpa using c2,λi p q hi hj=>?_⟩
   cases i with
   |zero=>
    simp only[qar,qa6,qau]at hi hj
    subst hi hj;exact c1
   |succ i=>exact c3 i p q (by simpa using hi) (by simpa using hj)
  ·obtain⟨h1,h2⟩:=g1 (f:=λi=>hp[i]?) (g:=λb=>some (HO.o b.1)) hh
   exact ba.app (a5 hp h1) (b6 hp h2)
 | [],_ :: _,_,h,_=>by cases h
 |_ :: _,[],_,h,_=>by cases h
end
end
end Sx
namespace Sx
open Go.ChangeShapes Go.WideShapes Go.ChangeAt Go.WideMaps Go.WideElems Go.RowKit
section
variable {H:Type} {enc:TypeId×Value->H} {P:Program}
theorem mo{w:World}{r:Reach}{b0:Nat}{u:TypeId}{v:Value}(h:Cell.okWide P w r b0 u v):Lies w v:=by
 rintro a len cap rfl
 have h1:∃e,w.has P r b0 a e cap:=by
  unfold Cell.okWide at h
  split at h<;>first|(rename_i e1 e2;cases e2;done)|(rename_i e1;cases e1;done)|skip
  all_goals
   unfold Cell.ok at h
   split at h<;>first|(cases h;done)|(rename_i e1 e2;cases e2;done)|skip
   all_goals first|(rename_i heq;injection heq with q1 q2 q3;subst q2 q3;cases q1;exact⟨_,h.2.2⟩)|skip
 obtain⟨e,_,h2,row,cells,h3,_⟩:=h1
 refine⟨h2,?_⟩
 unfold World.shape? at h3
 split at h3
 ·rename_i c el fr e1
  exact⟨c,el,fr,e1⟩
 ·cases h3
theorem lies_val{w:World}{r:Reach}{b0:Nat}{t:TypeId}{v:Value}(h:Value.okWide P w r b0 t v):∀x∈v.cells.toList,Lies w x:=by
 intro x hx
 unfold Value.okWide at h
 split at h
 ·obtain⟨cs,rfl,_,ts,_,_,h2⟩:=h
  obtain⟨i,hi⟩:=qaQ hx
  obtain⟨u,_,h3⟩:=h2 i x (by simpa[Value.cells]using hi)
  exact mo h3
 ·obtain⟨cs,rfl,_,ts,_,_,h2⟩:=h
  obtain⟨i,hi⟩:=qaQ hx
  obtain⟨u,_,h3⟩:=h2 i x (by simpa[Value.cells]using hi)
  exact mo h3
 ·have:x=v∨∃cs,v = .agg cs:=by
   cases v<;>first|(right;exact⟨_,rfl⟩)|(left;simpa[Value.cells]using hx)
  rcases this with rfl|⟨cs,rfl⟩
  ·exact mo h
  ·exfalso
   unfold Cell.okWide at h
   split at h<;>first|(rename_i e1 e2;cases e2;done)|(rename_i e1;cases e1;done)|skip
   all_goals
    unfold Cell.ok at h
    split at h<;>first|(cases h;done)|(rename_i e1 e2;cases e2;done)|skip
def skC(P:Program)(t:TypeId)(cks:List CK2):Option SK:=
 match P.underlying t,cks with
 |some (.struct _),cks=>some (.agg (cks.map CK2.lk))
 |some (.int _),[k]=>some (.leaf k.lk)
 |some .bool,[k]=>some (.leaf k.lk)
 |some (.slice _),[k]=>some (.leaf k.lk)
 |_,_=>none
def posK(cks:List CK2):Bool:=cks.all λk=>match k with
 | .s ks=>Nat.blt 0 ks.length
 |_=>true
theorem posK_ok{cks:List CK2}(h:posK cks=true):∀ks,CK2.s ks∈cks->0<ks.length:=by
 intro ks hk
 have:=qab.1 h _ hk
 simpa[qaT]using this
section
variable [Val] [Glo]
structure Abs(W:World)(n0:Nat)(bl:List Blk2):Prop where
 ok:∀b∈bl,qU W b
abbrev MuAt(mu:HMap)(n0:Nat)(bl:List Blk2):Prop:=∀(i:Nat) b,bl[i]? = some b->mu (n0+i)=b.2
abbrev HpAt(hp:HL)(n0:Nat)(bl:List Blk2):Prop:=∀(i:Nat) b,bl[i]? = some b->hp[n0+i]? = some (.o b.1)
abbrev Stays(W W':World):Prop:=∀b,b<W.heap.size->W'.heap[b]? = W.heap[b]?
theorem open_arg2{W:World}{r:Reach}{b0:Nat}{held:Bool}{t:TypeId}{cks:List CK2}{sk:SK}{v:Value}{d:DataW H}{ps:List MemPlace}(h:ckT P 20 t=some cks)(hsk:skC P t cks=some sk)(hpos:posK cks=true)(hval:Value.okWide P W r b0 t v)(hd:DataW.Trod enc P W 0 (λ_=>true) held t v d ps)(n0:Nat) :
  ∃(x:S0) (bl:List Blk2),(∀b∈bl,qU W b)/\x.is sk=true/\x.good/\(∀mu:HMap,MuAt mu n0 bl->VR noL mu x.val v)/\(∀hp:HL,HpAt hp n0 bl->ba hp cks (x.cells.map SL.lf))/\
   ∀(W':World) (s':Nat->Bool),Stays W W'->(∀b,b<W.heap.size->s' b=true)->DataW.Trod enc P W' 0 s' held t v d ps:=by
 obtain⟨fuel,hf⟩:=hd
 obtain⟨a1,a2⟩:=ckT_ok 20 t cks h W held fuel _ _ (lies_val hval) hf
 obtain⟨xs,bl,b1,b2,b3,b4,b5,b6⟩:=ri (posK_ok hpos) a1 n0
 have close:∀(W':World) (s':Nat->Bool),Stays W W'->(∀b,b<W.heap.size->s' b=true)->DataW.Trod enc P W' 0 s' held t v d ps:=λW' s' h1 h2=>⟨fuel,a2 W' s' h1 h2⟩
 have leaf:(∀fs,P.underlying t≠some (.struct fs))->(∀n e,P.underlying t≠some (.array n e))->∀k,cks=[k]->sk = .leaf k.lk->∃(x:S0) (bl:List Blk2),(∀b∈bl,qU W b)/\x.is sk=true/\x.good/\(∀mu:HMap,MuAt mu n0 bl->VR noL mu x.val v)/\(∀hp:HL,HpAt hp n0 bl->ba hp cks (x.cells.map SL.lf))/\
   ∀(W':World) (s':Nat->Bool),Stays W W'->(∀b,b<W.heap.size->s' b=true)->DataW.Trod enc P W' 0 s' held t v d ps:=by
  rintro hs1 hs2 k rfl rfl
  have hv:v.cells.toList=[v]:=by
   have h1:=dB.len a1
   cases v with
   |agg cs=>
    exfalso
    unfold Value.okWide at hval
    split at hval
    ·rename_i e;exact hs1 _ e
    ·rename_i e;exact hs2 _ _ e
    ·unfold Cell.okWide at hval
     split at hval<;>first|(rename_i e1 e2;cases e2;done)|(rename_i e1;cases e1;done)|skip
     all_goals
      unfold Cell.ok at hval
      split at hval<;>first|(cases hval;done)|(rename_i e1 e2;cases e2;done)|skip
   |_=>simp[Value.cells]
  rw[hv]at a1 b4 b5
  obtain⟨x,rfl⟩ : ∃x,xs=[x]:=List.length_eq_one_iff.1 b4
  refine⟨.leaf x,bl,b1,?_,λl hl=>?_,λmu hmu=>?_,λhp hh=>b6 hp hh,close⟩
  ·show x.is k.lk=true
   simpa[aK]using b2
  ·simp only[S0.cells,qay]at hl
   subst hl;exact b3 _ qaB
  ·exact(b5 mu hmu).2 0 _ _ rfl rfl
 unfold skC at hsk
 split at hsk
 ·rename_i fs e
  cases hsk
  obtain⟨cs,rfl,_⟩:=okWide_struct e hval
  refine⟨.agg xs,bl,b1,b2,b3,λmu hmu=>?_,λhp hh=>b6 hp hh,close⟩
  obtain⟨c1,c2⟩:=b5 mu hmu
  refine .agg (by simpa[Value.cells]using c1) λi x y hx hy=>c2 i x y (by simpa using hx) (by simpa[Value.cells]using hy)
 ·rename_i k e;cases hsk;exact leaf (λ_ h=>by rw[e]at h;cases h) (λ_ _ h=>by rw[e]at h;cases h) _ rfl rfl
 ·rename_i e;cases hsk;exact leaf (λ_ h=>by rw[e]at h;cases h) (λ_ _ h=>by rw[e]at h;cases h) _ rfl rfl
 ·rename_i e' e;cases hsk;exact leaf (λ_ h=>by rw[e]at h;cases h) (λ_ _ h=>by rw[e]at h;cases h) _ rfl rfl
 ·cases hsk
def argK(P:Program):List TypeId->Option (List (List CK2)×List SK)
 | []=>some ([],[])
 |t :: ts=>match ckT P 20 t,argK P ts with
  |some cks,some (l,sks)=>match skC P t cks,posK cks with
   |some sk,true=>some (cks :: l,sk :: sks)
   |_,_=>none
  |_,_=>none
theorem at_app{α:Type}{bl bl':List Blk2}{f:Nat->α}{g:Blk2->α}{n0:Nat}(h:∀(i:Nat) b,(bl++bl')[i]? = some b->f (n0+i)=g b):(∀(i:Nat) b,bl[i]? = some b->f (n0+i)=g b)/\∀(i:Nat) b,bl'[i]? = some b->f (n0+bl.length+i)=g b:=by
 refine⟨λi b hb=>h i b ?_,λi b hb=>?_⟩
 ·rw[qae (by
   rcases qaw i bl.length with h|h
   ·exact h
   ·rw[qaf h]at hb;cases hb)];exact hb
 ·rw[qbq]
  refine h _ b ?_
  rw[qak (by omega),qbY];exact hb
theorem oC{W:World}{r:Reach}{b0:Nat}{held:Bool}:∀(ts:List TypeId) (l:List (List CK2)) (sks:List SK) (vs:List Value) (ds:List (DataW H)) (ps:List MemPlace) (n0:Nat),argK P ts=some (l,sks)->
  (∀(j:Nat) t v,ts[j]? = some t->vs[j]? = some v->Value.okWide P W r b0 t v)->DataW.TrodAll enc P W 0 (λ_=>true) held ts vs ds ps->
  ∃(xs:List S0) (bl:List Blk2),(∀b∈bl,qU W b)/\bJ xs sks=true/\(∀x∈xs,x.good)/\(∀mu:HMap,MuAt mu n0 bl->VRs noL mu (af xs) vs)/\(∀hp:HL,HpAt hp n0 bl->ba hp l.flatten (bL xs))/\
   ∀(W':World) (s':Nat->Bool),Stays W W'->(∀b,b<W.heap.size->s' b=true)->DataW.TrodAll enc P W' 0 s' held ts vs ds ps
 | [],l,sks,[],[],ps,n0,h,_,ht=>by
  cases h
  exact⟨[],[],by simp,rfl,by simp,λmu _=>⟨rfl,λi x y h=>by simp[af]at h⟩,λhp _=>trivial,λ_ _ _ _=>ht⟩
 |t :: ts,l,sks,v :: vs,d :: ds,ps,n0,h,hv,ht=>by
  simp only[argK]at h
  split at h
  ·rename_i cks l' sks' e1 e2
   split at h
   ·rename_i sk e3 e4
    cases h
    obtain⟨p,q,h1,h2,rfl⟩:=ht
    obtain⟨x,bl,a1,a2,a3,a4,a5,a6⟩:=open_arg2 e1 e3 e4 (hv 0 t v rfl rfl) h1 n0
    obtain⟨xs,bl',b1,b2,b3,b4,b5,b6⟩:=oC ts l' sks' vs ds q (n0+bl.length) e2 (λj t v h1 h2=>hv (j+1) t v h1 h2) h2
    refine⟨x :: xs,bl++bl',λb hb=>?_,by simp[bJ,a2,b2],λy hy=>?_,λmu hmu=>?_,λhp hh=>?_,λW' s' h1 h2=>⟨p,q,a6 W' s' h1 h2,b6 W' s' h1 h2,rfl⟩⟩
    ·rcases qaG.1 hb with h|h
     ·exact a1 b h
     ·exact b1 b h
    ·rcases qam.1 hy with rfl|hy
     ·exact a3
     ·exact b3 y hy
    ·obtain⟨h1,h2⟩:=at_app (f:=mu) (g:=λb=>b.2) hmu
     have c1:=a4 mu h1
     obtain⟨c2,c3⟩:=b4 mu h2
     refine⟨by simpa[af]using c2,λi p q hi hj=>?_⟩
     cases i with
     |zero=>
      simp only[af,qar,qa6,qau]at hi hj
      subst hi hj;exact c1
     |succ i=>exact c3 i p q (by simpa[af]using hi) (by simpa using hj)
    ·obtain⟨h1,h2⟩:=at_app (f:=λi=>hp[i]?) (g:=λb=>some (HO.o b.1)) hh
     rw[qce]
     exact ba.app (a5 hp h1) (b5 hp h2)
   ·cases h
  ·cases h
 | [],_,_,_ :: _,_,_,_,_,_,ht=>by cases ht
 | [],_,_,[],_ :: _,_,_,_,_,ht=>by cases ht
 |_ :: _,_,_,[],_,_,_,_,_,ht=>by cases ht
 |_ :: _,_,_,_ :: _,[],_,_,_,_,ht=>by cases ht
theorem sY{C:Cfg}{f:FuncId}{args:List Value}{r:Value}{H':List HObj}{bl:List Blk2}{W:World}(hbl:∀b∈bl,qU W b)(h:cK C f args (bl.map (·.1)) r H'){args':Array Value}(hargs:∀mu:HMap,MuAt mu 0 bl->VRs noL mu args args'.toList)(hr:flat r=true)
  (hG:∀g vs,C.G g=some vs->gBlk g<W.heap.size/\vs.all aQ=true/\∃c e fr,W.heap[gBlk g]? = some (.cells c e fr)/\bO (λ_=>none) vs c (gOff g)) (hf:∀g vs,C.G g=some vs->vs.all gfl=true) :
  Calls C.P f args' W λe W'=>e = .returned r/\W'.os=W.os/\W'.output=W.output/\W'.tape=W.tape/\∀b,b<W.heap.size->W'.heap[b]? = W.heap[b]?:=by
 let mu:HMap:=λid=>(bl[id]?).bind (·.2)
 have hmu:MuAt mu 0 bl:=λi b hb=>by simp only[mu,qaH,hb,qah]
 have hob:∀(id:Nat) o,(bl.map (·.1))[id]? = some o->∃b,bl[id]? = some b/\o=b.1/\qU W b:=by
  intro id o ho
  rw[qas]at ho
  obtain⟨b,h1,rfl⟩:=qad.1 ho
  exact⟨b,h1,rfl,hbl b (qag h1)⟩
 have hun:∀(id:Nat) o,(bl.map (·.1))[id]? = some o->o.owned=false:=by
  intro id o ho
  obtain⟨b,_,rfl,h3⟩:=hob id o ho
  rcases h3 with h3|⟨vs,e,p,c,t,fr,h3,_⟩<;>rw[h3]<;>rfl
 have hno:∀b,¬Own mu (bl.map (·.1)) b:=by
  rintro b ⟨id,o,p,h1,h2,_⟩
  rw[hun id o h1]at h2;cases h2
 have hW0:WR C W.heap.size mu (bl.map (·.1)) W:=by
  refine⟨λid o h1 h2=>?_,λi j oi oj pi pj h1 h2 h3=>?_,λi o p h1 h2=>?_,λi o p h1 h2 _ h4=>?_,λid h1=>?_,λg vs hg=>?_⟩
  ·obtain⟨b,q1,rfl,q3⟩:=hob id o h1
   rcases q3 with q3|⟨vs,e,p,c,t,fr,q3,q4,q5,q6,q7,q8,q9,q10,q11⟩
   ·rw[q3]at h2;cases h2
   ·refine⟨p,by simp only[mu,q1,qah,q4],?_⟩
    rw[q3]
    refine⟨q5,q8,q7,c,t,fr,q9,q10,λh=>by(cases h),λi v hv=>⟨v,q11 i v hv,.of_flat (qab.1 q6 v (qag hv))⟩⟩
  ·rw[hun i oi h1]at h3;cases h3
  ·rw[hun i o h1]at h2;cases h2
  ·obtain⟨b,q1,rfl,q3⟩:=hob i o h1
   rcases q3 with q3|⟨vs,e,p',c,t,fr,q3,q4,q5,q6,q7,q8,q9,q10,q11⟩
   ·rw[q3]at h2;cases h2
   ·simp only[mu,q1,qah,q4,qau]at h4
    subst h4
    rcases qaw p'.b W.heap.size with h|h
    ·exact h
    ·rw[qa5 h]at q9;cases q9
  ·simp only[mu]
   rw[qaf (by simpa using h1)];rfl
  ·obtain⟨h1,h2,c,e,fr,h4,h5⟩:=hG g vs hg
   exact⟨h1,h2,c,e,fr,h4,gD (hf g vs hg) h5⟩
 intro cs
 obtain⟨v,mu',w',a1,a2,a3,_,a5⟩:=h _ W.heap.size mu W args' (qal _) (hargs mu hmu) hW0 cs
 rw[cA hr a1]at a5
 obtain⟨fr,b1,b2,b3⟩:=a5
 exact⟨.returned r,w',fr,⟨rfl,a3.os,a3.output,a3.tape,λb hb=>a3.keep b hb (hno b)⟩,b1,b2,b3⟩
theorem post_sl{P:Program}{f:Func}{s:ChangeSpec}{apart fresh handsOn:Bool}{W W':World}{args:Array Value}{v:Value}{ds gs:List (DataW H)}{before pa:List MemPlace}
  (hW:DataW.Whole enc P f.params.toList s.vars apart W args.toList ds gs before)
  (hres:∀(b:Nat) (sp:Nat->Bool) (hd:Bool),DataW.TrodAll enc P W' b sp hd f.resultTypes.toList (v.resultList f.resultTypes.size) (s.fn H (ds++gs)).results [])
  (hargs:DataW.TrodAll enc P W' 0 (λb=>decide (b<W.heap.size)) true f.params.toList args.toList (s.fn H (ds++gs)).args pa)
  (hvars:∀sp:Nat->Bool,DataW.TrodVars enc P W' sp s.vars (s.fn H (ds++gs)).vars [])
  (h1:W'.os=W.os) (h2:W'.output=W.output) (h3:∀b,b<W.heap.size->W'.heap[b]? = W.heap[b]?) :
  s.post enc P f apart fresh handsOn false W args v W':=
 ⟨ds,gs,before,[],pa,[],hW,hres _ _ _,hargs,hvars _,kept_of h1 h2 h3 _,λh=>by cases h⟩
end
end
section
variable [Val]
theorem jW{C:Cfg}{N:FuncId->Option Nat}{Sg:FuncId->Option Sig}(hm:C.P.follows .mixedOrders=true){g:FuncId}{sg:Sig}(hs:Sg g=some sg){ls rs:List Lf}{H H':List HObj}(hc:let _:Kno:=KnoC C N;aB C Sg g ls H rs H'){xs ys:List S0}(h1:bJ xs sg.ps=true)(h2:bL xs=ls)(h3:bJ ys sg.rs=true)(h4:bL ys=rs) :
  cK C g (af xs) H (eI (af ys)) H':=by
 let _:Kno:=KnoC C N
 obtain⟨sg',xs',ys',c1,c2,c3,c4⟩:=hc
 rw[hs]at c1
 cases c1
 obtain⟨w1,_⟩:=cL c2.1 h1 (c2.2.1.trans h2.symm)
 obtain⟨w2,_⟩:=cL c3.1 h3 (c3.2.1.trans h4.symm)
 rw[w1,w2]at c4
 exact iZ hm c4
end
end Sx
end Go.Am
set_option maxRecDepth 100000
set_option maxHeartbeats 8000000
namespace Go.Am
open Sx Go.Proofs
def cmpI(a b:Int):Int:=if a<b then -1 else if b<a then 1 else 0
def orI:List Int->Int
 | []=>0
 |a :: l=>if a=0 then orI l else a
theorem cmpI_0{a b:Int}:cmpI a b=0↔a=b:=by
 unfold cmpI
 split
 ·constructor
  ·intro h;omega
  ·intro h;omega
 ·split
  ·constructor
   ·intro h;omega
   ·intro h;omega
  ·constructor
   ·intro _;omega
   ·intro _;rfl
def encQ(p:Int×Int):List Value:=[.int .i64 p.1,.int .i64 p.2]
theorem encQ_len(p:Int×Int):(encQ p).length=2:=rfl
theorem nan_c(a:Int):Cc 176 [.i a] [.b false]:=by
 refine q176 rfl ?_;unfold f176;simp only[qxh]
 simp(disch:=omega)only[↓qXX]
theorem cmp_c(a b:Int):Cc 137 [.i a,.i b] [.i (cmpI a b)]:=by
 refine q137 rfl ?_;unfold f137;simp only[qxh]
 simp(disch:=omega)only[↓qXX]
 refine ae (nan_c a) ?_
 simp(disch:=omega)only[↓qXX]
 refine ae (nan_c b) ?_
 simp(disch:=omega)only[↓qXX]
 unfold cmpI
 by_cases h1:a<b
 ·simp(disch:=omega)only[↓qXX]
  simp[h1]
 ·by_cases h2:b<a
  ·simp(disch:=omega)only[↓qXX]
   simp[h1,h2]
  ·simp(disch:=omega)only[↓qXX]
   simp[h1,h2]
theorem orI_drop{l:List Int}{j:Nat}{a:Int}(ha:l[j]? = some a):orI (l.drop j)=if a=0 then orI (l.drop (j+1))else a:=by
 rw[qbi (bk ha)]
 have h1:l[j]'(bk ha)=a:=by rw[qax (bk ha)]at ha;exact qan ha
 rw[h1]
 rfl
theorem ord_c{h:HL}{x:Value}{l:List (Int×Int)}(hl:LsH h x 2 encQ l)(hb:l.length<=1000) :
  aB cc ab 123 [.v x] (absH aa h) [.i (orI (l.map λp=>cmpI p.1 p.2))] (absH aa h):=by
 obtain⟨rs,h',h1,rfl,rfl⟩:=x123 (K:=λrs h'=>rs=[.i (orI (l.map λp=>cmpI p.1 p.2))]/\h'=h) (H:=h) (glsV hl.good gls0) (by
  unfold f123;simp only[qxh]
  simp(disch:=omega)only[↓qXX]
  refine bY hl ?_
  refine eu l.length (λj=>orI (l.map λp=>cmpI p.1 p.2)=orI ((l.map λp=>cmpI p.1 p.2).drop j)) (j0:=0) rfl (qaV _) rfl ?_
  intro j hj he self hself
  simp(disch:=omega)only[↓qXX]
  by_cases hlt:j<l.length
  ·rw[be hlt]
   simp(disch:=omega)only[↓qXX]
   obtain⟨p,hp⟩:=bg hlt
   refine bh hl rfl hp ?_
   unfold encQ
   simp(disch:=omega)only[↓qXX]
   refine ae (cmp_c p.1 p.2) ?_
   simp(disch:=omega)only[↓qXX]
   rw[orI_drop (a:=cmpI p.1 p.2) (by rw[qas,hp];rfl)]at he
   by_cases h0:cmpI p.1 p.2=0
   ·rw[p_neq_f h0]
    simp(disch:=omega)only[↓qXX]
    rw[co (by omega)]
    rw[if_pos h0]at he
    exact hself hlt he
   ·rw[p_neq_t h0]
    simp(disch:=omega)only[↓qXX]
    rw[if_neg h0]at he
    exact⟨by rw[he],by trivial⟩
  ·obtain rfl:j=l.length:=by omega
   rw[bc (qal _)]
   simp(disch:=omega)only[↓qXX]
   refine⟨?_,by trivial⟩
   rw[he,qbB (by rw[qaW];exact qal _)]
   rfl)
 exact h1
theorem cell_c{x y q x' y' q':Int}(hq:0<=q/\q<=255)(hq':0<=q'/\q'<=255):Cc 80 [.i x,.i y,.i q,.i x',.i y',.i q'] [.i (orI [cmpI y y',cmpI x x',cmpI q q'])]:=by
 refine q80 rfl ?_;unfold f80;simp only[qxh]
 simp(disch:=omega)only[↓qXX]
 refine aj (h':=[]++[HO.o (.cells [.int .i64 y,.int .i64 y',.int .i64 x,.int .i64 x',.int .i64 q,.int .i64 q'] 2 true)]) (ord_c (l:=[(y,y'),(x,x'),(q,q')]) ?_ (by simp)) ?_
 ·exact newE_ls (h:=[]) (e:=2) (enc:=encQ) (l:=[(y,y'),(x,x'),(q,q')]) encQ_len (by rfl)
 ·simp(disch:=omega)only[↓qXX]
  rfl
def cmpC(a b:Cl):Int:=orI [cmpI a.2.1 b.2.1,cmpI a.1 b.1,cmpI (Int.ofNat a.2.2) (Int.ofNat b.2.2)]
def ltL(a b:Cl):Prop:=a.2.1<b.2.1∨(a.2.1=b.2.1/\(a.1<b.1∨(a.1=b.1/\a.2.2<b.2.2)))
instance (a b : Cl) : Decidable (ltL a b) := by unfold ltL; exact inferInstance
theorem cmpC_lt(a b:Cl):cmpC a b<0↔ltL a b:=by
 unfold cmpC ltL
 simp only[orI]
 have h1:=@cmpI_0 a.2.1 b.2.1
 have h2:=@cmpI_0 a.1 b.1
 have e1:cmpI a.2.1 b.2.1<0↔a.2.1<b.2.1:=by unfold cmpI;split<;>(try split)<;>omega
 have e2:cmpI a.1 b.1<0↔a.1<b.1:=by unfold cmpI;split<;>(try split)<;>omega
 have e3:cmpI (Int.ofNat a.2.2) (Int.ofNat b.2.2)<0↔a.2.2<b.2.2:=by
  have:(Int.ofNat a.2.2<Int.ofNat b.2.2)↔a.2.2<b.2.2:=Int.ofNat_lt
  unfold cmpI
  split<;>(try split)<;>omega
 have e4:=@cmpI_0 (Int.ofNat a.2.2) (Int.ofNat b.2.2)
 split
 ·rename_i g1
  split
  ·rename_i g2
   split
   ·rename_i g3
    have:=e4.1 g3
    have:a.2.2=b.2.2:=qdw this
    omega
   ·omega
  ·omega
 ·omega
theorem tF{a b:Cl}:ltL a b∨a=b∨ltL b a:=by
 obtain⟨a1,a2,a3⟩:=a
 obtain⟨b1,b2,b3⟩:=b
 simp only[ltL,qb8]
 omega
theorem qi{a:Cl}:¬ltL a a:=by unfold ltL;omega
theorem ltL_tr{a b c:Cl}(h:ltL a b)(k:ltL b c):ltL a c:=by unfold ltL at *;omega
abbrev C4:=Int×Int×Fin 4
def clF(a:C4):Cl:=(a.1,a.2.1,a.2.2.val)
def enc4(a:C4):List Value:=az (clF a)
def cf4(a b:C4):Int:=cmpC (clF a) (clF b)
theorem lt4(a b:C4):Go.Proofs.ltOf cf4 a b=decide (ltL (clF a) (clF b)):=by
 unfold Go.Proofs.ltOf cf4
 rw[decide_eq_decide]
 exact cmpC_lt _ _
theorem swo4:Go.Sort.SWO (Go.Proofs.ltOf cf4) where
 irrefl x:=by rw[lt4,decide_eq_false];exact qi
 trans x y z h1 h2:=by
  rw[lt4,decide_eq_true_eq]at *
  exact ltL_tr h1 h2
 ntrans x y z h1 h2:=by
  rw[lt4,decide_eq_false_iff_not]at *
  intro h
  unfold ltL at *
  omega
theorem cmp4(a b:C4):cK cc 80 [.agg ⟨enc4 a⟩,.agg ⟨enc4 b⟩] [] (.int .i64 (cf4 a b)) []:=by
 have ha:=a.2.2.isLt
 have hb:=b.2.2.isLt
 have hc:=cell_c (x:=a.1) (y:=a.2.1) (q:=Int.ofNat a.2.2.val) (x':=b.1) (y':=b.2.1) (q':=Int.ofNat b.2.2.val) (by simp only[qaO];omega) (by simp only[qaO];omega) []
 exact jW (N:=neuN) mixed (Sg:=ab) (sg:=⟨[.agg [.i .i64,.i .i64,.i .u8],.agg [.i .i64,.i .i64,.i .u8]],[li]⟩) rfl hc (xs:=[.agg [.i .i64 a.1,.i .i64 a.2.1,.i .u8 (Int.ofNat a.2.2.val)],.agg [.i .i64 b.1,.i .i64 b.2.1,.i .u8 (Int.ofNat b.2.2.val)]]) rfl rfl (ys:=[.leaf (.i .i64 (cf4 a b))]) rfl rfl
abbrev cloC:Value:=.func (.func 80) ⟨[]⟩ ⟨[]⟩
theorem sort_c{H:HL}{id cx:Nat}{J:List C4}(hid:H[id]? = some (.o (.cells ((J.map clF).flatMap az) 3 true)))(h0:0<J.length)(hl:J.length<=100000) :
  ∃D:List C4,D.Perm J/\(D.Pairwise λx y=>¬ltL (clF y) (clF x))/\aB cc ab 79 [.v (.slice (some ⟨id,0,tag 3⟩) J.length cx),.v cloC] (absH aa H) [] (absH aa (putE H id 3 az (D.map clF))):=by
 have e1:∀L:List C4,(L.map clF).flatMap az=L.flatMap enc4:=λL=>by rw[List.flatMap_map];rfl
 refine⟨srt cf4 J,srt_perm swo4 J,?_,?_⟩
 ·refine(srt_pair swo4 J).imp λ{x y} h=>?_
  rw[lt4,decide_eq_false_iff_not]at h
  exact h
 ·have hid2:(absH aa H)[id]? = some (.cells (J.flatMap enc4) 3 true):=by
   rw[←e1]
   unfold absH
   rw[qas,hid]
   rfl
  have hok:=uk (C:=cc) jx layS (enc:=enc4) (e:=3) (λw=>by kernel_rfl) (λw=>by kernel_rfl) (λ_=>rfl) (λx v hv=>by
   simp only[enc4,az,qam,qbW,or_false]at hv
   rcases hv with rfl|rfl|rfl<;>rfl) swo4 (g:=80) (λargs w=>by kernel_rfl) cmp4 (cx:=cx) hid2 rfl h0 (by omega)
  have hset:(absH aa H).set id (.cells ((srt cf4 J).flatMap enc4) 3 true)=absH aa (putE H id 3 az ((srt cf4 J).map clF)):=by
   unfold putE
   rw[e1,absH_setO]
   rfl
  rw[hset]at hok
  exact⟨⟨[lv,lv],[]⟩,[.leaf (.v (.slice (some ⟨id,0,tag 3⟩) J.length cx)),.leaf (.v cloC)],[],rfl,⟨rfl,rfl,λy hy=>by
   simp only[qam,qbW,or_false]at hy
   rcases hy with rfl|rfl
   ·exact ao (show aP (.slice (some ⟨id,0,tag 3⟩) J.length cx)=true by simp[aP,noLoc,bb,bP,bo,aU,aD,tag])
   ·exact ao rfl⟩,⟨rfl,rfl,λy hy=>by cases hy⟩,⟨0,.inr ⟨.inl (by kernel_rfl),hok⟩⟩⟩
abbrev cloW:Value:=.func (.func 120) ⟨[]⟩ ⟨[]⟩
def okCl(c:Cl):Prop:=vCl c=true/\c.2.2<4
theorem wrong1_c{c:Cl}(h:okCl c):Cc 120 (cll c) [.b false]:=by
 refine q120 rfl ?_;unfold f120;simp only[qxh]
 simp only[cll]
 simp(disch:=omega)only[↓qXX]
 refine ae (uH (c:=c) h.2) ?_
 rw[if_pos h.1]
 simp(disch:=omega)only[↓qXX]
theorem indexW_c{h:HL}{x:Value}{l:List Cl}(hl:LsH h x 3 az l)(hok:∀c∈l,okCl c)(hn:l.length<=100000):aB cc ab 142 [.v x,.v cloW] (absH aa h) [.i (-1)] (absH aa h):=by
 obtain⟨rs,h',h1,rfl,rfl⟩:=x142 (K:=λrs h'=>rs=[.i (-1)]/\h'=h) (H:=h) (glsV hl.good (glsV rfl gls0)) (by
  unfold f142;simp only[qxh]
  simp(disch:=omega)only[↓qXX]
  refine bY hl ?_
  refine eu l.length (λ_=>True) rfl (qaV _) trivial ?_
  intro j hj _ self hself
  simp(disch:=omega)only[↓qXX]
  by_cases hlt:j<l.length
  ·rw[be hlt]
   simp(disch:=omega)only[↓qXX]
   obtain⟨c,hc⟩:=bg hlt
   refine bh hl rfl hc ?_
   unfold az
   simp(disch:=omega)only[↓qXX]
   refine tQ (uG (wrong1_c (hok c (qag hc)) _) rfl [.agg [.i .i64 c.1,.i .i64 c.2.1,.i .u8 (Int.ofNat c.2.2)]] rfl rfl) ?_
   simp(disch:=omega)only[↓qXX]
   rw[co (by omega)]
   exact hself hlt trivial
  ·rw[bc (by omega)]
   simp(disch:=omega)only[↓qXX]
   exact⟨by trivial,by trivial⟩)
 exact h1
theorem wrong_c{h:HL}{x:Value}{l:List Cl}(hl:LsH h x 3 az l)(hok:∀c∈l,okCl c)(hn:l.length<=100000):aB cc ab 77 [.v x] (absH aa h) [.b false] (absH aa h):=by
 have h1:=indexW_c hl hok hn
 obtain⟨rs,h',h3,rfl,e3⟩:=x119 (ls:=[.v x,.v cloW]) (K:=λrs h'=>rs=[.b false]/\h'=h) (H:=h) (glsV hl.good (glsV rfl gls0)) (by
  unfold f119;simp only[qxh]
  simp(disch:=omega)only[↓qXX]
  refine aj h1 ?_
  simp(disch:=omega)only[↓qXX]
  exact⟨by trivial,by trivial⟩)
 rw[e3]at h3
 obtain⟨rs,h',h4,rfl,rfl⟩:=x77 (K:=λrs h'=>rs=[.b false]/\h'=h) (H:=h) (glsV hl.good gls0) (by
  unfold f77;simp only[qxh]
  simp(disch:=omega)only[↓qXX]
  refine aj h3 ?_
  simp(disch:=omega)only[↓qXX]
  exact⟨by trivial,by trivial⟩)
 exact h4
theorem r_apE{α:Type}{e kb:Nat}{enc:α->List Value}{h:HL}{x:Value}{new:List α}{m:Nat}{K:List Value->HL->Prop}(hg:h[m]? = some (.o (.cells [] e true)))(hx:LsH h x e enc new)(hn:0<new.length)(hb:new.length*kb<=140737488355328)(hb':new.length<=140737488355328)
  (hk:K [.slice (some ⟨h.length,0,tag e⟩) new.length 0] (h++[.o (.cells (new.flatMap enc) e true)])) :
  P1.heap (.ap cc e kb (.slice (some ⟨m,0,tag e⟩) 0 1) x) h (@hid _ ⟨K⟩):=by
 have hsz:bZ (0+new.length) kb=true:=by
  rw[qaH]
  unfold bZ
  rw[qbT hb',qbT hb];rfl
 have hcut:cut ([]:List Value) 0 (0*e)=some []:=Sx.cut_all (by simp)
 have hrun:apG cc e kb (.slice (some ⟨m,0,tag e⟩) 0 1) x (getH aa h) h.length=some ([.push (.cells ([]++new.flatMap enc) e true)],[.slice (some ⟨h.length,0,tag e⟩) (0+new.length) 0]):=by
  unfold apG
  rw[vQ hx.2]
  simp only[ne_eq,not_true_eq_false,if_false]
  rw[cw hg]
  simp only[ne_eq,not_true_eq_false,if_false]
  rw[hcut]
  simp only
  rw[if_neg (by omega),if_pos hsz]
 refine dA (show(Hp.ap cc e kb (.slice (some ⟨m,0,tag e⟩) 0 1) x).run _ _=_ from hrun) ?_
 rw[qaH]
 exact hk
abbrev sl3(id n cx:Nat):Value:=.slice (some ⟨id,0,tag 3⟩) n cx
theorem clone_c{h:HL}{x:Value}{l:List Cl}(hf:Ful h x 3 az l)(h0:0<l.length)(hn:l.length<=100000):aB cc ab 78 [.v x] (absH aa h) [.v (sl3 (h.length+1) l.length 0)] (absH aa (h++[.o (.cells [] 3 true),.o (.cells (l.flatMap az) 3 true)])):=by
 have hl:=hf.ls bw
 obtain⟨rs,h',h1,rfl,rfl⟩:=x78 (K:=λrs h'=>rs=[.v (sl3 (h.length+1) l.length 0)]/\h'=h++[.o (.cells [] 3 true),.o (.cells (l.flatMap az) 3 true)]) (H:=h) (glsV hl.good gls0) (by
  unfold f78;simp only[qxh]
  simp(disch:=omega)only[↓qXX]
  obtain⟨id,rfl,hg⟩:=hf
  refine aq (x:=false) rfl ?_
  simp(disch:=omega)only[↓qXX]
  refine r_apE (kb:=24) (h:=h++[.o (.cells [] 3 true)]) (m:=h.length) bj (hl.pre ⟨_,rfl⟩) h0 (by omega) (by omega) ?_
  simp(disch:=omega)only[↓qXX]
  refine bf (by simp[aP,noLoc,bb,bP,bo,aU,aD,tag]) ?_
  refine⟨by simp,by simp⟩)
 exact h1
def cmN(L:List Cl):Nat->List Cl
 |0=>[]
 |n+1=>match L[n]? with
  |none=>cmN L n
  |some c=>if 0<n/\L[n - 1]? = some c then cmN L n else cmN L n++[c]
theorem cmN_len{L:List Cl}:∀n,(cmN L n).length<=n
 |0=>qal _
 |n+1=>by
  have:=cmN_len (L:=L) n
  unfold cmN
  split
  ·omega
  ·split
   ·omega
   ·rw[qaz];simp only[qaF,qbf];omega
theorem ls_off{α:Type}{e:Nat}{enc:α->List Value}(henc:∀a,(enc a).length=e){h:HL}{id cx o n:Nat}{L:List α}(hg:h[id]? = some (.o (.cells (L.flatMap enc) e true)))(ho:o<=L.length)(hn:n=L.length - o):LsH h (.slice (some ⟨id,o*e,tag e⟩) n cx) e enc (L.drop o):=by
 have hd:(L.drop o).length=n:=by rw[qbF];omega
 refine⟨λa _=>henc a,aL λa _=>henc a,.inr ⟨id,o*e,cx,_,true,by rw[hd],hg,?_⟩⟩
 have e1:L.flatMap enc=(L.take o).flatMap enc++(L.drop o).flatMap enc:=by rw[←qch,qbJ]
 have e2:((L.take o).flatMap enc).length=o*e:=by rw[aL λa _=>henc a,qaI,qb6 ho]
 have e3:((L.drop o).flatMap enc).length=(L.drop o).length*e:=aL λa _=>henc a
 rw[Sx.cut_some]
 refine⟨by rw[e1,qaz,e2,e3];exact qal _,?_⟩
 rw[e1,←e2,List.drop_left',←e3,qbr]
 rfl
abbrev zC:Cl:=(0,0,0)
theorem ls_pre{α:Type}{e:Nat}{enc:α->List Value}(henc:∀a,(enc a).length=e){h:HL}{id cx k:Nat}{L:List α}(hg:h[id]? = some (.o (.cells (L.flatMap enc) e true)))(hk:k<=L.length):LsH h (.slice (some ⟨id,0,tag e⟩) k cx) e enc (L.take k):=by
 have hd:(L.take k).length=k:=by rw[qaI];omega
 refine⟨λa _=>henc a,aL λa _=>henc a,.inr ⟨id,0,cx,_,true,by rw[hd],hg,?_⟩⟩
 have e1:L.flatMap enc=(L.take k).flatMap enc++(L.drop k).flatMap enc:=by rw[←qch,qbJ]
 have e3:((L.take k).flatMap enc).length=(L.take k).length*e:=aL λa _=>henc a
 rw[Sx.cut_some]
 refine⟨by rw[e1,qaz,e3];omega,?_⟩
 rw[qbb,e1,←e3,qdm]
 rfl
theorem vR{id n cx o k:Nat}{x:Int}(hx:x=Int.ofNat k)(hk:k<=n):slS 3 (.slice (some ⟨id,o,tag 3⟩) n cx) (some x) none none=some (.slice (some ⟨id,o+k*3,tag 3⟩) (n - k) (cx - k)):=by
 subst hx
 unfold slS
 simp only
 rw[if_neg (by simp),if_pos (by simp[cC];omega)]
 simp[dO,bz]
theorem slS_upto{id n cx o k:Nat}{x:Int}(hx:x=Int.ofNat k)(hk:k<=n):slS 3 (.slice (some ⟨id,o,tag 3⟩) n cx) none (some x) none=some (.slice (some ⟨id,o,tag 3⟩) k cx):=by
 subst hx
 unfold slS
 simp only
 rw[if_neg (by simp),if_pos (by simp[cC];omega)]
 simp[dO,bz]
theorem wC{id o n cx:Nat}:aP (.slice (some ⟨id,o,tag 3⟩) n cx)=true:=by simp[aP,noLoc,bb,bP,bo,aU,aD,tag]
theorem clear_r{h:HL}{id k n c:Nat}{L:List Cl}{K:List Value->HL->Prop}(hlt:id<h.length)(hn:n=L.length - k)(hk:k<=L.length)(hK:K [] (putE h id 3 az (L.take k++List.replicate n zC))) :
  P1.heap (.fn (clG 3 [.int .i64 0,.int .i64 0,.int .u8 0] (.slice (some ⟨id,k*3,tag 3⟩) n c))) (putE h id 3 az L) (@hid _ ⟨K⟩):=by
 have hz:aJ [.int .i64 0,.int .i64 0,.int .u8 0] n=(List.replicate n zC).flatMap az:=by
  rw[←da (enc:=az) (z:=zC) (n:=n)]
  rfl
 have e1:L.flatMap az=(L.take k).flatMap az++(L.drop k).flatMap az:=by rw[←qch,qbJ]
 have e2:((L.take k).flatMap az).length=k*3:=by rw[aL λa _=>bw a,qaI,qb6 hk]
 have e3:((L.drop k).flatMap az).length=n*3:=by rw[aL λa _=>bw a,qbF,hn]
 have e4:((List.replicate n zC).flatMap az).length=n*3:=by rw[aL λa _=>bw a,qcm]
 have hs:splice (L.flatMap az) (k*3) (aJ [.int .i64 0,.int .i64 0,.int .u8 0] n)=some ((L.take k++List.replicate n zC).flatMap az):=by
  unfold splice
  rw[hz,e4,e1,qaz,e2,e3,if_pos (qal _),qdm e2,qbB (by rw[qaz,e2,e3];exact qal _),qa0,qch]
 have hrun:(Hp.fn (clG 3 [.int .i64 0,.int .i64 0,.int .u8 0] (.slice (some ⟨id,k*3,tag 3⟩) n c))).run (getH aa (putE h id 3 az L)) (putE h id 3 az L).length=some ([.set id (.cells ((L.take k++List.replicate n zC).flatMap az) 3 true)],[]):=by
  show clG 3 [.int .i64 0,.int .i64 0,.int .u8 0] (.slice (some ⟨id,k*3,tag 3⟩) n c) (getH aa (putE h id 3 az L)) (putE h id 3 az L).length=_
  unfold clG
  simp only[ne_eq,not_true_eq_false,if_false]
  rw[cw (cQ hlt)]
  simp only[ne_eq,not_true_eq_false,if_false]
  rw[hs]
  rfl
 refine dA hrun ?_
 have:bR (putE h id 3 az L) [.set id (.cells ((L.take k++List.replicate n zC).flatMap az) 3 true)]=putE h id 3 az (L.take k++List.replicate n zC):=vH
 rw[this]
 exact hK
theorem eqsC{a b:Cl}{K:Bool->Prop}:P1.eqs [(.i a.1,.i b.1),(.i a.2.1,.i b.2.1),(.i (Int.ofNat a.2.2),.i (Int.ofNat b.2.2))] (@hid _ ⟨K⟩)=K (decide (a=b)):=by
 show K (ca _)=_
 have e:ca [(.i a.1,.i b.1),(.i a.2.1,.i b.2.1),(.i (Int.ofNat a.2.2),.i (Int.ofNat b.2.2))]=decide (a=b):=by
  rw[qbD]
  simp[ca,fY,qc4]
  intro _ _
  omega
 rw[e]
theorem lh{L:List Cl}{n:Nat}{c:Cl}(hc:L[n]? = some c):cmN L (n+1)=if 0<n/\L[n - 1]? = some c then cmN L n else cmN L n++[c]:=by
 rw[cmN,hc]
theorem compact_c{h:HL}{id:Nat}{L:List Cl}(hg:h[id]? = some (.o (.cells (L.flatMap az) 3 true)))(hn:L.length<=100000) :
  ∃cx L',aB cc ab 81 [.v (sl3 id L.length 0)] (absH aa h) [.v (sl3 id (cmN L L.length).length cx)] (absH aa (putE h id 3 az L'))/\L'.length=L.length/\L'.take (cmN L L.length).length=cmN L L.length:=by
 have hlt:=bk hg
 have hself0:putE h id 3 az L=h:=by
  unfold putE
  exact ng hg
 obtain⟨rs,h',h1,cx,L',rfl,rfl,e1,e2⟩:=x81 (ls:=[.v (sl3 id L.length 0)]) (K:=λrs h'=>∃cx L',rs=[.v (sl3 id (cmN L L.length).length cx)]/\h'=putE h id 3 az L'/\L'.length=L.length/\L'.take (cmN L L.length).length=cmN L L.length) (H:=h) (glsV wC gls0) (by
  unfold f81;simp only[qxh]
  simp(disch:=omega)only[↓qXX]
  have hl:=gj bw (cx:=0) hg rfl
  have full:∀k,(k=L.length/\cmN L k=L.take k)->∃cx L',[Lf.v (sl3 id L.length 0)]=[.v (sl3 id (cmN L L.length).length cx)]/\h=putE h id 3 az L'/\L'.length=L.length/\L'.take (cmN L L.length).length=cmN L L.length:=λk ⟨hk,hkk⟩=>by
   subst hk
   rw[qbr]at hkk
   refine⟨0,L,by rw[hkk],hself0.symm,rfl,by rw[hkk,qbr]⟩
  refine bY hl ?_
  by_cases h2:L.length<2
  ·rw[p_lss_t (show Int.ofNat L.length<2 by show(L.length:Int)<2;omega)]
   simp(disch:=omega)only[↓qXX]
   refine full _ ⟨rfl,?_⟩
   rw[qbr]
   rcases L with _|⟨a,_|⟨b,L⟩⟩
   ·rfl
   ·rfl
   ·simp at h2;omega
  ·rw[p_lss_f (show 2<=Int.ofNat L.length by show 2<=(L.length:Int);omega)]
   simp(disch:=omega)only[↓qXX]
   refine eu L.length (λi=>1<=i/\cmN L i=L.take i) (j0:=1) rfl (by omega) ⟨qal _,by
    rcases L with _|⟨a,L⟩
    ·simp at h2
    ·simp[cmN]⟩ ?_
   rintro i hi ⟨hi1,hcm⟩ self hself
   simp(disch:=omega)only[↓qXX]
   refine bY hl ?_
   by_cases hlti:i<L.length
   ·rw[be hlti]
    simp(disch:=omega)only[↓qXX]
    obtain⟨a,ha⟩:=bg hlti
    obtain⟨b,hb⟩:=bg (l:=L) (i:=i - 1) (by omega)
    refine bh hl rfl ha ?_
    unfold az
    simp(disch:=omega)only[↓qXX]
    rw[n_sub (by omega) (by omega)]
    refine bh hl rfl hb ?_
    unfold az
    simp(disch:=omega)only[↓qXX]
    rw[eqsC]
    by_cases hab:a=b
    case neg=>
     rw[decide_eq_false hab]
     simp(disch:=omega)only[↓qXX]
     rw[co (by omega)]
     refine hself hlti ⟨by omega,?_⟩
     rw[lh ha,if_neg (by rw[hb];intro q;exact hab (qan q.2).symm),hcm,qbc,ha]
     rfl
    rw[decide_eq_true hab]
    simp(disch:=omega)only[↓qXX]
    rw[vR rfl (by omega)]
    refine aq rfl (bf wC ?_)
    rw[qaH]
    have c0:cmN L (i+1)=L.take i:=by rw[lh ha,if_pos ⟨by omega,by rw[hb,hab]⟩,hcm]
    refine cm (σ:=Nat×List Cl) (L.length - i) (λz s=>[.i (Int.ofNat s.1),.i (Int.ofNat z)]) (λ_ s=>putE h id 3 az s.2) (λz s=>1<=z/\s.2.length=L.length/\s.1+1<=i+z/\s.1=(cmN L (i+z)).length/\s.2.take s.1=cmN L (i+z)/\∀j,i+z<=j+1->s.2[j]? = L[j]?) (j0:=1) (s0:=(i,L)) rfl hself0.symm (by omega) ⟨qal _,rfl,qal _,by rw[c0,qaI];simp only;omega,by rw[c0],λ_ _=>rfl⟩ ?_
    clear self hself
    rintro z ⟨k,L2⟩ hz ⟨hz1,hl2,hk1,hk2,hk3,hk4⟩ self hself
    simp only at hl2 hk1 hk2 hk3 hk4 hself ⊢
    have hg2:(putE h id 3 az L2)[id]? = some (.o (.cells (L2.flatMap az) 3 true)):=cQ hlt
    have hls:=ls_off bw (cx:=0 - i) (n:=L.length - i) hg2 (o:=i) (by omega) (by omega)
    simp(disch:=omega)only[↓qXX]
    have hll:=hls.len
    rw[qbF,hl2]at hll
    refine aq hll ?_
    by_cases hltz:z<L.length - i
    ·rw[be hltz]
     simp(disch:=omega)only[↓qXX]
     obtain⟨c,hc⟩:=bg (l:=L) (i:=i+z) (by omega)
     obtain⟨d,hd⟩:=bg (l:=L) (i:=i+z - 1) (by omega)
     refine bh hls (i:=z) (a:=c) rfl (by rw[qaZ,hk4 _ (by omega)];exact hc) ?_
     unfold az
     simp(disch:=omega)only[↓qXX]
     rw[n_sub (by omega) (by omega)]
     refine bh hls (i:=z - 1) (a:=d) rfl (by rw[qaZ,show i+(z - 1)=i+z - 1 by omega,hk4 _ (by omega)];exact hd) ?_
     unfold az
     simp(disch:=omega)only[↓qXX]
     rw[eqsC]
     have hst:=lh hc
     by_cases hcd:c=d
     ·rw[decide_eq_true hcd]
      simp(disch:=omega)only[↓qXX,qaR]
      rw[co (by omega)]
      have e5:cmN L (i+(z+1))=cmN L (i+z):=by rw[←qbq,hst,if_pos ⟨by omega,by rw[hd,hcd]⟩]
      exact hself (k,L2) hltz ⟨by omega,hl2,by simp only;omega,by rw[e5];exact hk2,by rw[e5];exact hk3,λj hj=>hk4 j (by omega)⟩
     ·rw[decide_eq_false hcd]
      simp(disch:=omega)only[↓qXX,qbE]
      refine bh hls (i:=z) (a:=c) rfl (by rw[qaZ,hk4 _ (by omega)];exact hc) ?_
      unfold az
      simp(disch:=omega)only[↓qXX]
      refine r_set bw (a:=c) (l:=L2) (len:=L.length) (cx:=0) hlt rfl (show k<L2.length by omega) hl2 rfl ?_
      try simp(disch:=omega)only[↓qXX]
      rw[co (by omega)]
      simp(disch:=omega)only[↓qXX]
      rw[co (by omega)]
      have e5:cmN L (i+(z+1))=cmN L (i+z)++[c]:=by rw[←qbq,hst,if_neg (by rw[hd];intro q;exact hcd (qan q.2).symm)]
      refine hself (k+1,L2.set k c) hltz ⟨by omega,by simp only[qc0];exact hl2,by simp only;omega,by rw[e5,qaz];simp only[qaF,qbf];omega,?_,λj hj=>?_⟩
      ·rw[e5,qbc,qaE (by omega),←hk3]
       congr 1
       apply qaU
       intro q
       rw[qa1,qa1]
       split
       ·rw[qat (by omega)]
       ·rfl
      ·simp only
       rw[qat (by omega)]
       exact hk4 j (by omega)
    ·rw[bc (by omega)]
     simp(disch:=omega)only[↓qXX]
     obtain rfl:z=L.length - i:=by omega
     have e6:i+(L.length - i)=L.length:=by omega
     rw[e6]at hk2 hk3 hk1
     rw[vR rfl (by omega)]
     refine aq rfl (bf wC ?_)
     rw[qaH]
     refine clear_r (L:=L2) (n:=L.length - k) hlt (by rw[hl2]) (by omega) ?_
     try simp(disch:=omega)only[↓qXX]
     rw[slS_upto rfl (by omega)]
     refine aq rfl (bf wC ?_)
     refine⟨_,_,by rw[←hk2],rfl,by rw[qaz,qaI,qcm];omega,?_⟩
     rw[←hk2,qdm (by rw[qaI];omega)]
     exact hk3
   ·rw[bc (by omega)]
    simp(disch:=omega)only[↓qXX]
    exact full _ ⟨by omega,hcm⟩)
 exact⟨cx,L',h1,e1,e2⟩
def ph(I D:List Cl):Prop:=D.Pairwise ltL/\∀c,c∈D↔c∈I
theorem ph.eq{I:List Cl}:∀ {D E:List Cl},(D.Pairwise ltL)->(E.Pairwise ltL)->(∀c,c∈D↔c∈E)->D=E
 | [],[],_,_,_=>rfl
 | [],b :: E,_,_,h=>by have:=(h b).2 qaB;cases this
 |a :: D,[],_,_,h=>by have:=(h a).1 qaB;cases this
 |a :: D,b :: E,h1,h2,h=>by
  rw[qbu]at h1 h2
  have hab:a=b:=by
   rcases qam.1 ((h a).1 qaB)with e|e
   ·exact e
   ·rcases qam.1 ((h b).2 qaB)with e'|e'
    ·exact e'.symm
    ·exact absurd (ltL_tr (h1.1 b e') (h2.1 a e)) qi
  subst hab
  congr 1
  refine ph.eq (I:=I) h1.2 h2.2 λc=>?_
  constructor
  ·intro hc
   rcases qam.1 ((h c).1 (qao _ hc))with e|e
   ·subst e;exact absurd (h1.1 _ hc) qi
   ·exact e
  ·intro hc
   rcases qam.1 ((h c).2 (qao _ hc))with e|e
   ·subst e;exact absurd (h2.1 _ hc) qi
   ·exact e
theorem cmN_set{S:List Cl}(hS:S.Pairwise λx y=>¬ltL y x):∀n,n<=S.length->(cmN S n).Pairwise ltL/\∀c,c∈cmN S n↔c∈S.take n
 |0,_=>⟨List.Pairwise.nil,λc=>by simp[cmN]⟩
 |n+1,hn=>by
  obtain⟨i1,i2⟩:=cmN_set hS n (by omega)
  obtain⟨c,hc⟩:=bg (l:=S) (i:=n) (by omega)
  have hlt:∀(i j:Nat) x y,i<j->S[i]? = some x->S[j]? = some y->¬ltL y x:=λi j x y hij hx hy=>by
   obtain⟨h1,rfl⟩:=qaK.1 hx
   obtain⟨h2,rfl⟩:=qaK.1 hy
   exact qc8.1 hS i j h1 h2 hij
  have ht:S.take (n+1)=S.take n++[c]:=by rw[qbc,hc];rfl
  rw[lh hc,ht]
  split
  ·rename_i h
   refine⟨i1,λx=>?_⟩
   rw[i2,qaG,qay]
   refine⟨.inl,λq=>q.elim id λe=>?_⟩
   subst e
   have hm:(S.take n)[n - 1]? = some x:=by rw[qa1,if_pos (by omega)];exact h.2
   exact qag hm
  ·rename_i h
   refine⟨?_,λx=>by rw[qaG,qaG,i2]⟩
   rw[List.pairwise_append]
   refine⟨i1,qcx _ _,λx hx y hy=>?_⟩
   rw[qay]at hy
   subst hy
   rw[i2]at hx
   obtain⟨i,hi⟩:=qaQ hx
   rw[qa1]at hi
   split at hi
   case isFalse=>cases hi
   rename_i hin
   have h3:=hlt i n x y hin hi hc
   rcases tF (a:=x) (b:=y)with q|q|q
   ·exact q
   ·exfalso
    subst q
    obtain⟨d,hd⟩:=bg (l:=S) (i:=n - 1) (by omega)
    have h4:=hlt (n - 1) n d x (by omega) hd hc
    by_cases hi2:i=n - 1
    ·subst hi2
     exact h ⟨by omega,hi⟩
    ·have h5:=hlt i (n - 1) x d (by omega) hi hd
     rcases tF (a:=x) (b:=d)with q|q|q
     ·exact h4 q
     ·exact h ⟨by omega,by rw[hd,q]⟩
     ·exact h5 q
   ·exact absurd q h3
theorem ex_c4:∀ {I:List Cl},(∀c∈I,c.2.2<4)->∃J:List C4,J.map clF=I
 | [],_=>⟨[],rfl⟩
 |c :: I,h=>by
  obtain⟨J,hJ⟩:=ex_c4 (I:=I) λd hd=>h d (qao _ hd)
  exact⟨(c.1,c.2.1,⟨c.2.2,h c qaB⟩) :: J,by rw[qar,hJ];rfl⟩
theorem clip_c(H:HL){id n cx:Nat}:aB cc ab 82 [.v (sl3 id n cx)] (absH aa H) [.v (sl3 id n (n+1))] (absH aa H):=by
 obtain⟨rs,h',h1,e1,e2⟩:=x82 (ls:=[.v (sl3 id n cx)]) (K:=λrs h'=>rs=[.v (sl3 id n (n+1))]/\h'=H) (H:=H) (glsV wC gls0) (by
  unfold f82;simp only[qxh]
  simp(disch:=omega)only[↓qXX]
  refine aq (x:=Int.ofNat n) rfl ?_
  refine aq (x:=Int.ofNat n) rfl ?_
  have e:slS 3 (sl3 id n cx) none (some (Int.ofNat n)) (some (Int.ofNat n))=some (sl3 id n (n+1)):=by
   unfold slS sl3
   simp only
   rw[if_neg (by simp),if_pos (by simp[cC])]
   simp[dO,bz]
  refine aq e ?_
  refine bf wC ?_
  exact⟨by trivial,by trivial⟩)
 rw[e1,e2]at h1
 exact h1
theorem sof_c{h:HL}{x:Value}{I:List Cl}(hf:Ful h x 3 az I)(hok:∀c∈I,okCl c)(h0:0<I.length)(hn:I.length<=1000) :
  ∃dx G D,aB cc ab 49 [.v x] (absH aa h) [.v dx,.i 0] (absH aa (h++G))/\LsH (h++G) dx 3 az D/\ph I D/\D.length<=I.length:=by
 have hl:=hf.ls bw
 have hw:=wrong_c hl hok (by omega)
 have hcl:=clone_c hf h0 (by omega)
 obtain⟨J,rfl⟩:=ex_c4 (I:=I) λc hc=>(hok c hc).2
 rw[qaW]at hcl h0 hn
 have hid:(h++[HO.o (.cells [] 3 true),HO.o (.cells ((J.map clF).flatMap az) 3 true)])[h.length+1]? = some (HO.o (.cells ((J.map clF).flatMap az) 3 true)):=by
  rw[qak (by omega),show h.length+1 - h.length=1 by omega];rfl
 obtain⟨D,d1,d2,d3⟩:=sort_c (cx:=0) hid h0 (by omega)
 have hid2:(putE (h++[HO.o (.cells [] 3 true),HO.o (.cells ((J.map clF).flatMap az) 3 true)]) (h.length+1) 3 az (D.map clF))[h.length+1]? = some (HO.o (.cells ((D.map clF).flatMap az) 3 true)):=cQ (bk hid)
 have hDl:(D.map clF).length=J.length:=by rw[qaW,d1.length_eq]
 obtain⟨cx,L',k1,k2,k3⟩:=compact_c hid2 (by rw[hDl];omega)
 rw[hDl]at k1 k2 k3
 have hS:(D.map clF).Pairwise λx y=>¬ltL y x:=List.pairwise_map.2 d2
 obtain⟨s1,s2⟩:=cmN_set hS J.length (by rw[hDl];exact qal _)
 have hcl2:=cmN_len (L:=D.map clF) J.length
 have hfin:∀G,putE (putE (h++[HO.o (.cells [] 3 true),HO.o (.cells ((J.map clF).flatMap az) 3 true)]) (h.length+1) 3 az (D.map clF)) (h.length+1) 3 az L'=h++G↔G=[HO.o (.cells [] 3 true),HO.o (.cells (L'.flatMap az) 3 true)]:=λG=>by
  unfold putE
  rw[List.set_set,qbU _ _ (by omega),show h.length+1 - h.length=1 by omega,List.append_right_inj]
  exact eq_comm
 have hfin2:=(hfin _).2 rfl
 generalize hkd:cmN (D.map clF) J.length=C at *
 have hgf:(h++[HO.o (.cells [] 3 true),HO.o (.cells (L'.flatMap az) 3 true)])[h.length+1]? = some (HO.o (.cells (L'.flatMap az) 3 true)):=by
  rw[qak (by omega),show h.length+1 - h.length=1 by omega];rfl
 obtain⟨rs,h',hc,rfl,rfl⟩:=x49 (K:=λrs h'=>rs=[.v (sl3 (h.length+1) C.length (C.length+1)),.i 0]/\h'=h++[HO.o (.cells [] 3 true),HO.o (.cells (L'.flatMap az) 3 true)]) (H:=h) (glsV hl.good gls0) (by
  unfold f49;simp only[qxh]
  simp(disch:=omega)only[↓qXX]
  refine aj hw ?_
  simp(disch:=omega)only[↓qXX]
  refine aj hcl ?_
  simp(disch:=omega)only[↓qXX]
  refine aj d3 ?_
  simp(disch:=omega)only[↓qXX]
  refine aj k1 ?_
  simp(disch:=omega)only[↓qXX]
  refine aq (x:=Int.ofNat C.length) rfl ?_
  rw[p_gtr_f (show Int.ofNat C.length<=1024 by show(C.length:Int)<=1024;omega)]
  simp(disch:=omega)only[↓qXX]
  refine aj (clip_c _) ?_
  simp(disch:=omega)only[↓qXX]
  exact⟨by trivial,hfin2⟩)
 refine⟨_,_,C,hc,?_,⟨s1,λc=>?_⟩,by rw[qaW];exact hcl2⟩
 ·have:=ls_pre bw (cx:=C.length+1) hgf (k:=C.length) (by omega)
  rw[k3]at this
  exact this
 ·rw[s2,qaJ (by rw[hDl];exact qal _)]
  exact(d1.map clF).mem_iff
theorem less_c(a b:Cl):Cc 95 (cll a++cll b) [.i (if ltL a b then 1 else 0)]:=by
 refine q95 rfl ?_;unfold f95;simp only[qxh]
 simp only[cll,qaD,qaC]
 simp(disch:=omega)only[↓qXX]
 have e3:(Int.ofNat a.2.2<Int.ofNat b.2.2)↔a.2.2<b.2.2:=Int.ofNat_lt
 by_cases h1:a.2.1<b.2.1
 ·rw[p_lss_t h1,if_pos (.inl h1)]
  simp(disch:=omega)only[↓qXX]
 rw[p_lss_f (by omega)]
 simp(disch:=omega)only[↓qXX]
 by_cases h2:a.2.1=b.2.1
 case neg=>
  rw[p_eql_f h2,if_neg (by unfold ltL;omega)]
  simp(disch:=omega)only[↓qXX]
 rw[p_eql_t h2]
 simp(disch:=omega)only[↓qXX]
 by_cases h3:a.1<b.1
 ·rw[p_lss_t h3,if_pos (.inr ⟨h2,.inl h3⟩)]
  simp(disch:=omega)only[↓qXX]
 rw[p_lss_f (by omega)]
 simp(disch:=omega)only[↓qXX]
 by_cases h4:a.1=b.1
 case neg=>
  rw[p_eql_f h4,if_neg (by unfold ltL;omega)]
  simp(disch:=omega)only[↓qXX]
 rw[p_eql_t h4]
 simp(disch:=omega)only[↓qXX]
 by_cases h5:a.2.2<b.2.2
 ·rw[p_lss_t (e3.2 h5),if_pos (.inr ⟨h2,.inr ⟨h4,h5⟩⟩)]
  simp(disch:=omega)only[↓qXX]
 ·rw[p_lss_f (by rw[←Int.not_lt];exact λq=>h5 (e3.1 q)),if_neg (by unfold ltL;omega)]
  simp(disch:=omega)only[↓qXX]
theorem rhas_c{h:HL}{x:Value}{L:List Cl}(hl:LsH h x 3 az L)(hn:L.length<=100000)(c:Cl):aB cc ab 94 [.v x,.i c.1,.i c.2.1,.i (Int.ofNat c.2.2)] (absH aa h) [.i (if c∈L then 1 else 0)] (absH aa h):=by
 obtain⟨rs,h',h1,rfl,rfl⟩:=x94 (ls:=[.v x,.i c.1,.i c.2.1,.i (Int.ofNat c.2.2)]) (K:=λrs h'=>rs=[.i (if c∈L then 1 else 0)]/\h'=h) (H:=h) (glsV hl.good (glsI (glsI (glsI gls0)))) (by
  unfold f94;simp only[qxh]
  simp(disch:=omega)only[↓qXX]
  refine eu L.length (λj=>c∉L.take j) rfl (qaV _) (by simp) ?_
  intro j hj hno self hself
  simp(disch:=omega)only[↓qXX]
  refine bY hl ?_
  by_cases hlt:j<L.length
  ·rw[be hlt]
   simp(disch:=omega)only[↓qXX]
   obtain⟨d,hd⟩:=bg hlt
   refine bh hl rfl hd ?_
   unfold az
   simp(disch:=omega)only[↓qXX]
   rw[eqsC]
   by_cases hdc:d=c
   ·rw[decide_eq_true hdc]
    simp(disch:=omega)only[↓qXX]
    refine⟨?_,by trivial⟩
    rw[if_pos (hdc▸qag hd)]
   ·rw[decide_eq_false hdc]
    simp(disch:=omega)only[↓qXX]
    rw[co (by omega)]
    refine hself hlt λhm=>?_
    rw[qbc,hd]at hm
    rcases qaG.1 hm with q|q
    ·exact hno q
    ·simp at q;exact hdc q.symm
  ·rw[bc (by omega)]
   simp(disch:=omega)only[↓qXX]
   obtain rfl:j=L.length:=by omega
   rw[qbr]at hno
   exact⟨by rw[if_neg hno],by trivial⟩)
 exact h1
def insF(c:Cl):List Cl->List Cl
 | []=>[c]
 |a :: l=>if ltL c a then c :: a :: l else a :: insF c l
theorem qb{c x:Cl}:∀ {l:List Cl},x∈insF c l↔x=c∨x∈l
 | []=>by simp[insF]
 |a :: l=>by
  unfold insF
  split
  ·simp
  ·rw[qam,qb,qam]
   constructor
   ·rintro(q|q|q)
    ·exact .inr (.inl q)
    ·exact .inl q
    ·exact .inr (.inr q)
   ·rintro(q|q|q)
    ·exact .inr (.inl q)
    ·exact .inl q
    ·exact .inr (.inr q)
theorem rO{c:Cl}:∀ {l:List Cl},c∉l->l.Pairwise ltL->(insF c l).Pairwise ltL
 | [],_,_=>qcx _ _
 |a :: l,hc,hl=>by
  rw[qbu]at hl
  unfold insF
  split
  ·rename_i h
   rw[qbu]
   refine⟨λx hx=>?_,qbu.2 hl⟩
   rcases qam.1 hx with q|q
   ·rw[q];exact h
   ·exact ltL_tr h (hl.1 x q)
  ·rename_i h
   rw[qbu]
   refine⟨λx hx=>?_,rO (λq=>hc (qao _ q)) hl.2⟩
   rcases qb.1 hx with q|q
   ·subst q
    rcases tF (a:=a) (b:=x)with q|q|q
    ·exact q
    ·exact absurd (q▸qaB) hc
    ·exact absurd q h
   ·exact hl.1 x q
theorem vc{c:Cl}:∀ {l:List Cl},(insF c l).length=l.length+1
 | []=>rfl
 |a :: l=>by
  unfold insF
  split
  ·rfl
  ·rw[qaF,vc];rfl
theorem insF_step{c a:Cl}{l:List Cl}(h:¬ltL c a):insF c (a :: l)=a :: insF c l:=if_neg h
theorem insF_put{c a:Cl}{l:List Cl}(h:ltL c a):insF c (a :: l)=c :: a :: l:=if_pos h
def addC(c:Cl)(L:List Cl):List Cl:=if c∈L then L else insF c L
theorem size3{n:Nat}(h:n<=100000):bZ (n+1) 24=true:=by
 unfold bZ
 rw[qaa,qbd,qbd]
 omega
theorem radd_c{h:HL}{x:Value}{L:List Cl}(hl:LsH h x 3 az L)(hn:L.length<=10000)(c:Cl) :
  ∃x' G,aB cc ab 57 [.v x,.i c.1,.i c.2.1,.i (Int.ofNat c.2.2)] (absH aa h) [.v x'] (absH aa (h++G))/\LsH (h++G) x' 3 az (addC c L):=by
 have hh:=rhas_c hl (by omega) c
 obtain⟨rs,h',h1,x',rfl,⟨G,rfl⟩,h2⟩:=x57 (ls:=[.v x,.i c.1,.i c.2.1,.i (Int.ofNat c.2.2)]) (K:=λrs h'=>∃x',rs=[.v x']/\Pre h h'/\LsH h' x' 3 az (addC c L)) (H:=h) (glsV hl.good (glsI (glsI (glsI gls0)))) (by
  unfold f57;simp only[qxh]
  simp(disch:=omega)only[↓qXX]
  refine aj hh ?_
  unfold addC
  by_cases hc:c∈L
  ·rw[if_pos hc,if_pos hc]
   simp(disch:=omega)only[↓qXX]
   exact⟨x,by trivial,Pre.refl _,hl⟩
  rw[if_neg hc,if_neg hc]
  simp(disch:=omega)only[↓qXX]
  refine cm (σ:=Value×HL×Int×List Cl) L.length (λj s=>[.v s.1,.i s.2.2.1,.i (Int.ofNat j)]) (λ_ s=>s.2.1) (λj s=>Pre h s.2.1/\MkL h.length s.2.1 s.1 3 az s.2.2.2/\aP s.1=true/\s.2.2.2.length<=j+1/\((s.2.2.1=0/\s.2.2.2=L.take j/\insF c L=L.take j++insF c (L.drop j))∨(s.2.2.1=1/\insF c L=s.2.2.2++L.drop j))) (j0:=0) (s0:=(.slice none 0 0,h,0,[])) rfl rfl (qaV _) ⟨Pre.refl _,MkL.nil _ _ _ _,rfl,by simp,.inl ⟨rfl,by simp,by simp⟩⟩ ?_
  rintro j ⟨sv,sh,d,A⟩ hj ⟨hp,hm,hg,hA,hd⟩ self hself
  simp only at hp hm hg hA hd hself ⊢
  have hL:=hl.pre hp
  simp(disch:=omega)only[↓qXX]
  refine bY hL ?_
  by_cases hlt:j<L.length
  ·rw[be hlt]
   simp(disch:=omega)only[↓qXX]
   obtain⟨a,ha⟩:=bg hlt
   have hdr:L.drop j=a :: L.drop (j+1):=by
    rw[qbi hlt]
    congr 1
    exact(qaK.1 ha).2
   have htk:L.take (j+1)=L.take j++[a]:=by rw[qbc,ha];rfl
   have put:∀(sv2:Value) (sh2:HL) (d2:Int) (A2:List Cl),Pre h sh2->MkL h.length sh2 sv2 3 az A2->A2.length<=j+1->((d2=0/\A2++[a]=L.take (j+1)/\insF c L=L.take (j+1)++insF c (L.drop (j+1)))∨(d2=1/\insF c L=(A2++[a])++L.drop (j+1)))->
     ∀(v':Value) (h':HL),Pre h h'->MkL h.length h' v' 3 az (A2++[a])->aP v'=true->self [.v v',.i d2,.i (Int.ofNat j+1)] h':=λsv2 sh2 d2 A2 _ _ hA2 hd2 v' h' hp' hm' hg'=>by
    refine hself (v',h',d2,A2++[a]) hlt ⟨hp',hm',hg',?_,hd2⟩
    simp only[qaz,qaF,qbf];omega
   rcases hd with⟨rfl,hA1,hA2⟩|⟨rfl,hA1⟩
   ·rw[p_eql_t rfl]
    simp(disch:=omega)only[↓qXX]
    refine bh hL rfl ha ?_
    unfold az
    simp(disch:=omega)only[↓qXX]
    refine ae (less_c c a) ?_
    by_cases hca:ltL c a
    ·rw[if_pos hca]
     simp(disch:=omega)only[↓qXX]
     refine mM (h0:=h) (a:=c) hp hm rfl rfl rfl rfl (size3 (by omega)) λv1 h1 hp1 hm1 hg1 _ _=>?_
     simp(disch:=omega)only[↓qXX]
     refine bf hg1 ?_
     refine bh (hl.pre hp1) rfl ha ?_
     unfold az
     simp(disch:=omega)only[↓qXX]
     refine mM (h0:=h) (a:=a) hp1 hm1 rfl rfl rfl rfl (size3 (by rw[qaz];simp only[qaF,qbf];omega)) λv2 h2 hp2 hm2 hg2 _ _=>?_
     simp(disch:=omega)only[↓qXX]
     refine bf hg2 ?_
     simp(disch:=omega)only[↓qXX]
     rw[co (by omega)]
     refine hself (v2,h2,1,A++[c]++[a]) hlt ⟨hp2,hm2,hg2,?_,.inr ⟨rfl,?_⟩⟩
     ·simp only[qaz,qaF,qbf,hA1,qaI];omega
     ·rw[hA2,hdr,insF_put hca,hA1]
      simp
    ·rw[if_neg hca]
     simp(disch:=omega)only[↓qXX]
     refine bh hL rfl ha ?_
     unfold az
     simp(disch:=omega)only[↓qXX]
     refine mM (h0:=h) (a:=a) hp hm rfl rfl rfl rfl (size3 (by omega)) λv2 h2 hp2 hm2 hg2 _ _=>?_
     simp(disch:=omega)only[↓qXX]
     refine bf hg2 ?_
     simp(disch:=omega)only[↓qXX]
     rw[co (by omega)]
     refine put sv sh 0 A hp hm (by rw[hA1,qaI];omega) (.inl ⟨rfl,by rw[htk,hA1],?_⟩) v2 h2 hp2 hm2 hg2
     rw[hA2,hdr,insF_step hca,htk]
     simp
   ·rw[p_eql_f (by decide)]
    simp(disch:=omega)only[↓qXX]
    refine bh hL rfl ha ?_
    unfold az
    simp(disch:=omega)only[↓qXX]
    refine mM (h0:=h) (a:=a) hp hm rfl rfl rfl rfl (size3 (by omega)) λv2 h2 hp2 hm2 hg2 _ _=>?_
    simp(disch:=omega)only[↓qXX]
    refine bf hg2 ?_
    simp(disch:=omega)only[↓qXX]
    rw[co (by omega)]
    refine hself (v2,h2,1,A++[a]) hlt ⟨hp2,hm2,hg2,by simp only[qaz,qaF,qbf];omega,.inr ⟨rfl,by rw[hA1,hdr];simp⟩⟩
  ·rw[bc (by omega)]
   simp(disch:=omega)only[↓qXX]
   obtain rfl:j=L.length:=by omega
   rcases hd with⟨rfl,hA1,hA2⟩|⟨rfl,hA1⟩
   ·rw[p_eql_t rfl]
    simp(disch:=omega)only[↓qXX]
    refine mM (h0:=h) (a:=c) hp hm rfl rfl rfl rfl (size3 (by omega)) λv2 h2 hp2 hm2 hg2 _ _=>?_
    simp(disch:=omega)only[↓qXX]
    refine bf hg2 ?_
    simp(disch:=omega)only[↓qXX]
    refine⟨v2,by trivial,hp2,?_⟩
    rw[hA2,List.drop_length,qbr]
    rw[hA1,qbr]at hm2
    exact hm2.ls
   ·rw[p_eql_f (by decide)]
    simp(disch:=omega)only[↓qXX]
    rw[List.drop_length,qa0]at hA1
    exact⟨sv,by trivial,hp,by rw[hA1];exact hm.ls⟩)
 exact⟨x',G,h1,h2⟩
theorem addC_set{I R:List Cl}(h:ph I R)(c:Cl):ph (I++[c]) (addC c R):=by
 unfold addC
 by_cases hc:c∈R
 ·rw[if_pos hc]
  refine⟨h.1,λx=>?_⟩
  rw[h.2,qaG,qay]
  exact⟨.inl,λq=>q.elim id λe=>e▸(h.2 c).1 hc⟩
 ·rw[if_neg hc]
  refine⟨rO hc h.1,λx=>?_⟩
  rw[qb,h.2,qaG,qay]
  exact or_comm
theorem rof04_c{h:HL}{x:Value}{I:List Cl}(hl:LsH h x 3 az I)(hn:I.length<=1000) :
  ∃x' G R,aB cc ab 29 [.v x] (absH aa h) [.v x'] (absH aa (h++G))/\LsH (h++G) x' 3 az R/\ph I R/\R.length<=I.length:=by
 obtain⟨rs,h',h1,x',R,rfl,⟨G,rfl⟩,h2,h3,h4⟩:=x29 (K:=λrs h'=>∃x' R,rs=[.v x']/\Pre h h'/\LsH h' x' 3 az R/\ph I R/\R.length<=I.length) (H:=h) (glsV hl.good gls0) (by
  unfold f29;simp only[qxh]
  simp(disch:=omega)only[↓qXX]
  refine cm (σ:=Value×HL×List Cl) I.length (λj s=>[.v s.1,.i (Int.ofNat j)]) (λ_ s=>s.2.1) (λj s=>Pre h s.2.1/\LsH s.2.1 s.1 3 az s.2.2/\ph (I.take j) s.2.2/\s.2.2.length<=j) (j0:=0) (s0:=(.slice none 0 0,h,[])) rfl rfl (qaV _) ⟨Pre.refl _,LsH.nil _ _ _,⟨List.Pairwise.nil,by simp⟩,qal _⟩ ?_
  rintro j ⟨sv,sh,R⟩ hj ⟨hp,hR,hS,hRl⟩ self hself
  simp only at hp hR hS hRl hself ⊢
  have hL:=hl.pre hp
  simp(disch:=omega)only[↓qXX]
  refine bY hL ?_
  by_cases hlt:j<I.length
  ·rw[be hlt]
   simp(disch:=omega)only[↓qXX]
   obtain⟨c,hc⟩:=bg hlt
   refine bh hL rfl hc ?_
   unfold az
   simp(disch:=omega)only[↓qXX]
   obtain⟨x',G,c1,c2⟩:=radd_c hR (by omega) c
   refine aj c1 ?_
   simp(disch:=omega)only[↓qXX]
   rw[co (by omega)]
   refine hself (x',sh++G,addC c R) hlt ⟨hp.app G,c2,?_,?_⟩
   ·have ht:I.take (j+1)=I.take j++[c]:=by rw[qbc,hc];rfl
    rw[ht]
    exact addC_set hS c
   ·simp only
    unfold addC
    split
    ·omega
    ·rw[vc];omega
  ·rw[bc (by omega)]
   simp(disch:=omega)only[↓qXX]
   obtain rfl:j=I.length:=by omega
   rw[qbr]at hS
   exact⟨sv,R,by trivial,hp,hR,hS,hRl⟩)
 exact⟨x',G,R,h1,h2,h3,h4⟩
theorem same_c{h:HL}{x y:Value}{D:List Cl}(hx:LsH h x 3 az D)(hy:LsH h y 3 az D)(hn:D.length<=100000):aB cc ab 28 [.v x,.v y] (absH aa h) [.b true] (absH aa h):=by
 obtain⟨rs,h',h1,rfl,e1⟩:=x56 (ls:=[.v x,.v y]) (K:=λrs h'=>rs=[.b true]/\h'=h) (H:=h) (glsV hx.good (glsV hy.good gls0)) (by
  unfold f56;simp only[qxh]
  simp(disch:=omega)only[↓qXX]
  refine bY hx ?_
  refine bY hy ?_
  rw[p_neq_f rfl]
  simp(disch:=omega)only[↓qXX]
  refine bY hx ?_
  refine eu D.length (λ_=>True) rfl (qaV _) trivial ?_
  intro j hj _ self hself
  simp(disch:=omega)only[↓qXX]
  by_cases hlt:j<D.length
  ·rw[be hlt]
   simp(disch:=omega)only[↓qXX]
   obtain⟨c,hc⟩:=bg hlt
   refine bh hx rfl hc ?_
   unfold az
   simp(disch:=omega)only[↓qXX]
   refine bh hy rfl hc ?_
   unfold az
   simp(disch:=omega)only[↓qXX]
   try simp(disch:=omega)only[↓qXX,qaR]
   rw[co (by omega)]
   exact hself hlt trivial
  ·rw[bc (by omega)]
   simp(disch:=omega)only[↓qXX]
   exact⟨by trivial,by trivial⟩)
 rw[e1]at h1
 obtain⟨rs,h',h2,rfl,rfl⟩:=x28 (K:=λrs h'=>rs=[.b true]/\h'=h) (H:=h) (glsV hx.good (glsV hy.good gls0)) (by
  unfold f28;simp only[qxh]
  simp(disch:=omega)only[↓qXX]
  refine aj h1 ?_
  simp(disch:=omega)only[↓qXX]
  exact⟨by trivial,by trivial⟩)
 exact h2
set_option maxHeartbeats 16000000
structure VP(w v:Nat)(l:List Crs)(x:Value)(H:HL):Prop where
 sh:Sh w v
 nd:(l.map dE).Nodup
 len:l.length<=1000
 kd:∀c∈l,1<=c.2.2/\c.2.2<=3
 ls:LsH H x 3 encC l
 ck:∀h',Pre H h'->aB cc ab 32 [.i (.ofNat w),.i (.ofNat v),.v x] (absH aa h') [.i 0] (absH aa h')
theorem VP.pre{w v:Nat}{l:List Crs}{x:Value}{H h:HL}(h1:VP w v l x H)(hp:Pre H h):VP w v l x h:=⟨h1.sh,h1.nd,h1.len,h1.kd,h1.ls.pre hp,λh' q=>h1.ck h' (hp.trans q)⟩
theorem ConsO.eq{w v:Nat}(hs:Sh w v){l:List Crs}{G G':Nat->Mv}(h:ConsO w v l G)(h':ConsO w v l G'):∀c,c<4*w*v->G c=G' c:=
 qo hs (P:=λc=>G c=G' c) (by rw[h.z,h'.z]) λc e n hc he hn q=>by rw[h.g c e n hc he hn,h'.g c e n hc he hn,q]
theorem sj{w v:Nat}{G G':Nat->Mv}{r:Mv}(h:∀c,c<4*w*v->G c=G' c):plL w v G r=plL w v G' r/\imL w v G r=imL w v G' r:=by
 unfold plL imL
 exact⟨qbj λc hc=>by rw[h c (qai.1 hc)],qbj λc hc=>by rw[h c (qai.1 hc)]⟩
theorem gy{w v:Nat}{G G':Nat->Mv}{r:Mv}(h:∀c,c<4*w*v->G c=G' c)(ha:allV w G r (4*w*v)):allV w G' r (4*w*v):=λc hc=>by rw[←h c hc];exact ha c hc
section
variable {w v:Nat} {l:List Crs} {x:Value} {H:HL}
abbrev argL(w v:Nat)(x:Value)(t a b:Int):List Lf:=[.i (.ofNat w),.i (.ofNat v),.v x,.i t,.i a,.i b]
theorem both_arg(hv:VP w v l x H){t a b:Int}(ht:0<=t/\t<=255)(hm:vMI t a b=false):BothC (argL w v x t a b) H cN cN 1 H:=by
 obtain⟨rs,h',hc,rfl,rfl⟩:=x42 (ls:=argL w v x t a b) (K:=λrs h'=>rs=[.v cN,.v cN,.i 1]/\h'=H) (H:=H) (glsI (glsI (glsV hv.ls.good (glsI (glsI (glsI gls0)))))) (by
  unfold f42;simp only[qxh]
  simp(disch:=omega)only[↓qXX]
  refine aj (hv.ck H (Pre.refl _)) ?_
  simp(disch:=omega)only[↓qXX]
  refine ae (vi ht) ?_
  rw[if_neg (by rw[hm];simp)]
  simp(disch:=omega)only[↓qXX]
  exact⟨by trivial,by trivial⟩)
 exact⟨hc,Pre.refl _,rfl,rfl⟩
theorem both_no(hv:VP w v l x H){r:Mv}(hr:okM 16384 r)(hno:¬ ∃G,jf w v l G/\G 0=idM):∃h1,BothC (argL w v x (.ofNat r.1) r.2.1 r.2.2) H cN cN 11 h1:=by
 obtain⟨rs,h1,hc,hp,⟨rfl,_⟩|⟨G,hG,_⟩⟩:=both_c hv.sh hv.nd hv.len hv.ls (hv.ck H (Pre.refl _)) hr
 ·exact⟨h1,hc,hp,rfl,rfl⟩
 ·exact absurd ⟨G,hG.g,hG.z⟩ hno
theorem both_lim(hv:VP w v l x H){r:Mv}(hr:okM 16384 r){G:Nat->Mv}(hG:ConsO w v l G)(hno:¬allV w G r (4*w*v)):∃h1,BothC (argL w v x (.ofNat r.1) r.2.1 r.2.2) H cN cN 3 h1:=by
 obtain⟨rs,h1,hc,hp,⟨rfl,hn⟩|⟨G',hG',⟨rfl,hn⟩|⟨lx,ix,rfl,ha,_⟩⟩⟩:=both_c hv.sh hv.nd hv.len hv.ls (hv.ck H (Pre.refl _)) hr
 ·exact absurd ⟨G,hG.g,hG.z⟩ hn
 ·exact⟨h1,hc,hp,rfl,rfl⟩
 ·exact absurd (gy (hG'.eq hv.sh hG) ha) hno
theorem lI(hv:VP w v l x H){r:Mv}(hr:okM 16384 r){G:Nat->Mv}(hG:ConsO w v l G)(ha:allV w G r (4*w*v)):∃lx ix h1,BothC (argL w v x (.ofNat r.1) r.2.1 r.2.2) H lx ix 0 h1/\Ful h1 lx 3 encM (plL w v G r)/\Ful h1 ix 3 az (imL w v G r):=by
 obtain⟨rs,h1,hc,hp,⟨rfl,hn⟩|⟨G',hG',⟨rfl,hn⟩|⟨lx,ix,rfl,_,f1,f2⟩⟩⟩:=both_c hv.sh hv.nd hv.len hv.ls (hv.ck H (Pre.refl _)) hr
 ·exact absurd ⟨G,hG.g,hG.z⟩ hn
 ·exact absurd (gy (hG.eq hv.sh hG') ha) hn
 ·obtain⟨e1,e2⟩:=sj (r:=r) (hG'.eq hv.sh hG)
  rw[e1]at f1
  rw[e2]at f2
  exact⟨lx,ix,h1,⟨hc,hp,(f1.ls bD).good,(f2.ls bw).good⟩,f1,f2⟩
theorem told_no(hv:VP w v l x H){r:Mv}(hr:okM 16384 r)(hno:¬ ∃G,jf w v l G/\G 0=idM):∃h1,aB cc ab 26 (argL w v x (.ofNat r.1) r.2.1 r.2.2) (absH aa H) [.v cN,.i 11] (absH aa h1)/\Pre H h1:=by
 obtain⟨rs,h1,hc,hp,⟨rfl,_⟩|⟨G,hG,_⟩⟩:=wg hv.sh hv.kd hv.len hv.ls hr
 ·exact⟨h1,hc,hp⟩
 ·exact absurd ⟨G,hG.g,hG.z⟩ hno
theorem told_lim(hv:VP w v l x H){r:Mv}(hr:okM 16384 r){G:Nat->Mv}(hG:ConsO w v l G)(hno:¬allV w G r (4*w*v)):∃h1,aB cc ab 26 (argL w v x (.ofNat r.1) r.2.1 r.2.2) (absH aa H) [.v cN,.i 3] (absH aa h1)/\Pre H h1:=by
 obtain⟨rs,h1,hc,hp,⟨rfl,hn⟩|⟨G',hG',⟨rfl,hn⟩|⟨ox,rfl,ha,_⟩⟩⟩:=wg hv.sh hv.kd hv.len hv.ls hr
 ·exact absurd ⟨G,hG.g,hG.z⟩ hn
 ·exact⟨h1,hc,hp⟩
 ·exact absurd (gy (hG'.eq hv.sh hG) ha) hno
theorem told_ok(hv:VP w v l x H){r:Mv}(hr:okM 16384 r){G:Nat->Mv}(hG:ConsO w v l G)(ha:allV w G r (4*w*v)):∃ox h1,aB cc ab 26 (argL w v x (.ofNat r.1) r.2.1 r.2.2) (absH aa H) [.v ox,.i 0] (absH aa h1)/\Pre H h1/\Ful h1 ox 3 encM (plL w v G r):=by
 obtain⟨rs,h1,hc,hp,⟨rfl,hn⟩|⟨G',hG',⟨rfl,hn⟩|⟨ox,rfl,_,f1⟩⟩⟩:=wg hv.sh hv.kd hv.len hv.ls hr
 ·exact absurd ⟨G,hG.g,hG.z⟩ hn
 ·exact absurd (gy (hG.eq hv.sh hG') ha) hn
 ·rw[(sj (r:=r) (hG'.eq hv.sh hG)).1]at f1
  exact⟨ox,h1,hc,hp,f1⟩
end
theorem ta{w v:Nat}{x:Value}{H:HL}(hx:aP x=true){t a b e:Int}(he:e≠0)(ht:∃h1,aB cc ab 26 (argL w v x t a b) (absH aa H) [.v cN,.i e] (absH aa h1)/\Pre H h1)
  (hb:∀h',Pre H h'->∃h1,BothC (argL w v x t a b) h' cN cN e h1):∃h',aB cc ab 7 (argL w v x t a b) (absH aa H) [.b true] (absH aa h')/\Pre H h':=by
 obtain⟨h1,c1,p1⟩:=ht
 obtain⟨h2,b2⟩:=hb h1 p1
 have p2:=p1.trans b2.p
 obtain⟨h3,b3⟩:=hb h2 p2
 have p3:=p2.trans b3.p
 obtain⟨h4,b4⟩:=hb h3 p3
 have p4:=p3.trans b4.p
 obtain⟨h5,b5⟩:=hb h4 p4
 have p5:=p4.trans b5.p
 obtain⟨h6,b6⟩:=hb h5 p5
 have p6:=p5.trans b6.p
 obtain⟨rs,h',hc,rfl,rfl⟩:=x7 (ls:=argL w v x t a b) (K:=λrs h'=>rs=[.b true]/\h'=h6) (H:=H) (glsI (glsI (glsV hx (glsI (glsI (glsI gls0)))))) (by
  unfold f7;simp only[qxh]
  simp(disch:=omega)only[↓qXX]
  refine aj c1 ?_
  simp(disch:=omega)only[↓qXX]
  refine aj (lD hx b2) ?_
  simp(disch:=omega)only[↓qXX]
  refine aj (eN hx b3) ?_
  simp(disch:=omega)only[↓qXX]
  refine aj (up_e hx b4 he) ?_
  simp(disch:=omega)only[↓qXX]
  refine aj (sil_e hx b5 he) ?_
  simp(disch:=omega)only[↓qXX]
  refine aj (dep_e hx b6 he) ?_
  simp(disch:=omega)only[↓qXX]
  refine aq (x:=(0:Int)) rfl ?_
  refine aq (x:=(0:Int)) rfl ?_
  simp(disch:=omega)only[↓qXX]
  refine aq (x:=(0:Int)) rfl ?_
  simp(disch:=omega)only[↓qXX]
  refine aq (x:=(0:Int)) rfl ?_
  simp(disch:=omega)only[↓qXX]
  exact⟨by trivial,by trivial⟩)
 exact⟨_,hc,p6⟩
def MaxP(I:List Cl)(n m:Nat):Prop:=(∀(i:Nat) c,i<n->I[i]? = some c->I.count c<=m)/\(m=0∨∃k∈I,I.count k=m)
theorem MaxP.step{I:List Cl}{n m:Nat}{c:Cl}(h:MaxP I n m)(hc:I[n]? = some c):MaxP I (n+1) (max m (I.count c)):=by
 refine⟨λi d hi hd=>?_,?_⟩
 ·by_cases e:i=n
  ·subst e
   rw[hc]at hd
   cases hd
   omega
  ·have:=h.1 i d (by omega) hd
   omega
 ·by_cases hm:m<=I.count c
  ·exact .inr ⟨c,qag hc,by omega⟩
  ·rcases h.2 with q|⟨k,hk,hkm⟩
   ·omega
   ·exact .inr ⟨k,hk,by omega⟩
theorem MaxP.max{I:List Cl}{m:Nat}(h:MaxP I I.length m):MaxC I m:=by
 refine⟨λk=>?_,h.2⟩
 by_cases hk:k∈I
 ·obtain⟨i,hi⟩:=qaQ hk
  exact h.1 i k (bk hi) hi
 ·rw[List.count_eq_zero.2 hk];omega
theorem p_max{m c:Nat}{K:Int->Prop}:P1.cmp .lss (Int.ofNat m) (Int.ofNat c) (@hid _ ⟨λt=>P1.sel t (Int.ofNat c) (Int.ofNat m) (@hid _ ⟨K⟩)⟩)=K (Int.ofNat (max m c)):=by
 by_cases h:m<c
 ·rw[be h,p_sel_t,Nat.max_eq_right (by omega)]
 ·rw[bc (by omega),p_sel_f,Nat.max_eq_left (by omega)]
theorem ckd_ok{w v:Nat}{l:List Crs}{x:Value}{H:HL}(hv:VP w v l x H){r:Mv}(hr:okM 16384 r){G:Nat->Mv}(hG:ConsO w v l G)(ha:allV w G r (4*w*v)) :
  ∃h',aB cc ab 7 (argL w v x (.ofNat r.1) r.2.1 r.2.2) (absH aa H) [.b true] (absH aa h')/\Pre H h':=by
 have hx:=hv.ls.good
 have hN:=sh_N hv.sh
 have hA:(plL w v G r).length=4*w*v:=by simp[plL]
 have hI:(imL w v G r).length=4*w*v:=by simp[imL]
 have okA:∀m∈plL w v G r,okM 16384 m:=λm hm=>by
  unfold plL at hm
  obtain⟨c,hc,rfl⟩:=qaL.1 hm
  have hc:=qai.1 hc
  exact vMv_ok (dg (hG.ok c hc) hr) (ha c hc).1
 have okI:∀c∈imL w v G r,okCl c:=λc hc=>by
  unfold imL at hc
  obtain⟨i,hi,rfl⟩:=qaL.1 hc
  have hi:=qai.1 hi
  exact⟨(ha i hi).2,(iN (dg (hG.ok i hi) hr) (c:=clN w i) (k:=1000) (by have:=pE hv.sh hi;omega)).2.2.2.2⟩
 obtain⟨ox,h1,c1,p1,f1⟩:=told_ok hv hr hG ha
 obtain⟨l2,i2,h2,b2,f2,_⟩:=lI (hv.pre p1) hr hG ha
 have p2:=p1.trans b2.p
 obtain⟨l3,i3,h3,b3,_,f3⟩:=lI (hv.pre p2) hr hG ha
 have p3:=p2.trans b3.p
 obtain⟨l4,i4,h4,b4,f4,_⟩:=lI (hv.pre p3) hr hG ha
 obtain⟨u4,G4,c4,fu4⟩:=up_c hx b4 f4 okA (by rw[hA];omega)
 have p4:=(p3.trans b4.p).app G4
 obtain⟨l5,i5,h5,b5,_,f5⟩:=lI (hv.pre p4) hr hG ha
 obtain⟨d5,G5,D,c5,s5,hD,hDl⟩:=sof_c f5 okI (by rw[hI];omega) (by rw[hI];omega)
 have p5:=(p4.trans b5.p).app G5
 obtain⟨l6,i6,h6,b6,_,f6⟩:=lI (hv.pre p5) hr hG ha
 obtain⟨dm,G6,hdm,c6⟩:=dep_c hx b6 f6 (by rw[hI];omega)
 have p6:=(p5.trans b6.p).app G6
 have q12:Pre h1 h2:=b2.p
 have q23:Pre h2 h3:=b3.p
 have q34:Pre h3 (h4++G4):=b4.p.app G4
 have q45:Pre (h4++G4) (h5++G5):=b5.p.app G5
 have q56:Pre (h5++G5) (h6++G6):=b6.p.app G6
 have f1:=f1.pre (q12.trans (q23.trans (q34.trans (q45.trans q56))))
 have f2:=f2.pre (q23.trans (q34.trans (q45.trans q56)))
 have f3:=f3.pre (q34.trans (q45.trans q56))
 have fu4:=fu4.pre (q45.trans q56)
 have s5:=s5.pre q56
 obtain⟨i7,K7,c7,s7⟩:=sB hv.sh hx hG.ok hr (f1.ls bD)
 have hD5:aB cc ab 22 (argL w v x (.ofNat r.1) r.2.1 r.2.2) (absH aa (h4++G4)) [.v d5,.i 0] (absH aa (h5++G5)):=by
  have hi:=eN hx b5
  obtain⟨rs,h',hc,rfl,rfl⟩:=x22 (ls:=argL w v x (.ofNat r.1) r.2.1 r.2.2) (K:=λrs h'=>rs=[.v d5,.i 0]/\h'=h5++G5) (H:=h4++G4) (glsI (glsI (glsV hx (glsI (glsI (glsI gls0)))))) (by
   unfold f22;simp only[qxh]
   simp(disch:=omega)only[↓qXX]
   refine aj hi ?_
   simp(disch:=omega)only[↓qXX]
   refine aj c5 ?_
   simp(disch:=omega)only[↓qXX]
   exact⟨by trivial,by trivial⟩)
  exact hc
 obtain⟨rx,K8,R,c8,s8,hR,hRl⟩:=rof04_c s7 (by rw[hI];omega)
 have hDR:D=R:=ph.eq (I:=imL w v G r) hD.1 hR.1 λc=>by rw[hD.2,hR.2]
 subst hDR
 have s5:=(s5.pre (h':=h6++G6++K7) ⟨_,rfl⟩).pre (h':=h6++G6++K7++K8) ⟨_,rfl⟩
 have c9:=same_c s5 s8 (by omega)
 have f1:=(f1.pre (h':=h6++G6++K7) ⟨_,rfl⟩).pre (h':=h6++G6++K7++K8) ⟨_,rfl⟩
 have f2:=(f2.pre (h':=h6++G6++K7) ⟨_,rfl⟩).pre (h':=h6++G6++K7++K8) ⟨_,rfl⟩
 have f3:=(f3.pre (h':=h6++G6++K7) ⟨_,rfl⟩).pre (h':=h6++G6++K7++K8) ⟨_,rfl⟩
 have fu4:=(fu4.pre (h':=h6++G6++K7) ⟨_,rfl⟩).pre (h':=h6++G6++K7++K8) ⟨_,rfl⟩
 have s7:=s7.pre (h':=h6++G6++K7++K8) ⟨_,rfl⟩
 have p9:Pre H (h6++G6++K7++K8):=(p6.app K7).app K8
 have L1:=f1.ls bD
 have L2:=f2.ls bD
 have L3:=f3.ls bw
 have L4:=fu4.ls gA
 obtain⟨rs,h',hc,rfl,hp⟩:=x7 (ls:=argL w v x (.ofNat r.1) r.2.1 r.2.2) (K:=λrs h'=>rs=[.b true]/\Pre H h') (H:=H) (glsI (glsI (glsV hx (glsI (glsI (glsI gls0)))))) (by
  unfold f7;simp only[qxh]
  simp(disch:=omega)only[↓qXX]
  refine aj c1 ?_
  simp(disch:=omega)only[↓qXX]
  refine aj (lD hx b2) ?_
  simp(disch:=omega)only[↓qXX]
  refine aj (eN hx b3) ?_
  simp(disch:=omega)only[↓qXX]
  refine aj c4 ?_
  simp(disch:=omega)only[↓qXX]
  refine aj hD5 ?_
  simp(disch:=omega)only[↓qXX]
  refine aj c6 ?_
  simp(disch:=omega)only[↓qXX]
  refine aj c7 ?_
  simp(disch:=omega)only[↓qXX]
  refine bY L2 ?_
  refine bY L1 ?_
  simp(disch:=omega)only[↓qXX]
  refine bY L3 ?_
  refine bY L1 ?_
  rw[hI,hA]
  simp(disch:=omega)only[↓qXX]
  refine bY L4 ?_
  refine bY L1 ?_
  rw[qaW,hA]
  simp(disch:=omega)only[↓qXX]
  refine aq f2.cap ?_
  refine bY L2 ?_
  simp(disch:=omega)only[↓qXX]
  refine aq f3.cap ?_
  refine bY L3 ?_
  simp(disch:=omega)only[↓qXX]
  refine aq fu4.cap ?_
  refine bY L4 ?_
  simp(disch:=omega)only[↓qXX]
  refine aj c8 ?_
  simp(disch:=omega)only[↓qXX]
  refine aj c9 ?_
  simp(disch:=omega)only[↓qXX,qaR]
  generalize h6++G6++K7++K8=h9 at *
  refine cm (σ:=Nat) (4*w*v) (λj s=>[.i (Int.ofNat s),.i (Int.ofNat j)]) (λ_ _=>h9) (λj s=>MaxP (imL w v G r) j s/\s<=4*w*v) (j0:=0) (s0:=0) rfl rfl (qaV _) ⟨⟨λi c q=>absurd q (qbC _),.inl rfl⟩,qaV _⟩ ?_
  rintro j m hj ⟨hm,hml⟩ self hself
  simp(disch:=omega)only[↓qXX]
  refine bY L1 ?_
  rw[hA]
  by_cases hlt:j<4*w*v
  ·rw[be hlt]
   simp(disch:=omega)only[↓qXX]
   have hij:=mi (G:=G) (r:=r) hlt
   have hpj:=mQ (G:=G) (r:=r) hlt
   generalize hci:bF (aY (G j) r) (clN w j)=ci at *
   generalize hmj:aY (G j) r=mj at *
   refine cm (σ:=Unit) (4*w*v) (λz _=>[.i (Int.ofNat (((imL w v G r).take z).count ci)),.i (Int.ofNat z)]) (λ_ _=>h9) (λ_ _=>True) (j0:=0) (s0:=()) (by simp) rfl (qaV _) trivial ?_
   rintro z _ hz _ self2 hself2
   simp(disch:=omega)only[↓qXX]
   refine bY L1 ?_
   rw[hA]
   have hcb:((imL w v G r).take z).count ci<=z:=qbP List.count_le_length (by rw[qaI];omega)
   by_cases hltz:z<4*w*v
   ·rw[be hltz]
    simp(disch:=omega)only[↓qXX]
    have hiz:=mi (G:=G) (r:=r) hltz
    generalize bF (aY (G z) r) (clN w z)=cz at *
    refine bh s7 rfl hiz ?_
    unfold az
    simp(disch:=omega)only[↓qXX]
    refine bh s7 rfl hij ?_
    unfold az
    simp(disch:=omega)only[↓qXX]
    rw[eqsC]
    have ht:(imL w v G r).take (z+1)=(imL w v G r).take z++[cz]:=by rw[qbc,hiz];rfl
    have hs2:=hself2 () hltz trivial
    rw[ht,qc9,qcT]at hs2
    by_cases hcc:cz=ci
    ·rw[decide_eq_true hcc]
     simp(disch:=omega)only[↓qXX]
     rw[co (by omega)]
     simp(disch:=omega)only[↓qXX]
     rw[co (by omega)]
     rw[if_pos (by simpa using hcc)]at hs2
     exact hs2
    ·rw[decide_eq_false hcc]
     simp(disch:=omega)only[↓qXX]
     rw[co (by omega)]
     rw[if_neg (by simpa using hcc)]at hs2
     exact hs2
   ·rw[bc (by omega)]
    simp(disch:=omega)only[↓qXX]
    obtain rfl:z=4*w*v:=by omega
    rw[qaJ (by rw[hI];exact qal _)]at hcb ⊢
    have fin:self [.i (Int.ofNat (max m ((imL w v G r).count ci))),.i (Int.ofNat j+1)] h9:=hself (max m ((imL w v G r).count ci)) hlt ⟨hm.step hij,by omega⟩
    rw[p_max]
    try simp(disch:=omega)only[↓qXX]
    refine bh L2 rfl hpj ?_
    unfold encM
    simp(disch:=omega)only[↓qXX]
    refine bh L1 rfl hpj ?_
    unfold encM
    simp(disch:=omega)only[↓qXX,qaR]
    refine bh L3 rfl hij ?_
    unfold az
    simp(disch:=omega)only[↓qXX]
    refine bh s7 rfl hij ?_
    unfold az
    simp(disch:=omega)only[↓qXX,qaR]
    refine bh L4 (a:=upB mj) rfl (by rw[qas,hpj];rfl) ?_
    unfold encT
    simp(disch:=omega)only[↓qXX]
    refine gn (o:=0) (k:=1) (cs:=[.int .u8 (.ofNat mj.1)]) L1 rfl hpj rfl (by omega) ?_
    simp(disch:=omega)only[↓qXX]
    have e4:upB mj=decide (Int.ofNat mj.1<4):=by
     unfold upB
     rw[decide_eq_decide]
     show _↔(mj.1:Int)<4
     omega
    by_cases h4:Int.ofNat mj.1<4
    ·rw[p_lss_t h4,e4,decide_eq_true h4,p_eqsb_t rfl,p_eqs0,qaR,p_cond_f]
     rw[co (by omega)]
     exact fin
    ·rw[p_lss_f (by omega),e4,decide_eq_false h4,p_eqsb_t rfl,p_eqs0,qaR,p_cond_f]
     rw[co (by omega)]
     exact fin
  ·rw[bc (by omega)]
   simp(disch:=omega)only[↓qXX]
   obtain rfl:j=4*w*v:=by omega
   have hmm:MaxC (imL w v G r) m:=MaxP.max (by rw[hI];exact hm)
   have:=hdm.eq hmm
   subst this
   rw[p_eql_t rfl]
   simp(disch:=omega)only[↓qXX]
   exact⟨by trivial,p9⟩)
 exact⟨h',hc,hp⟩
set_option maxHeartbeats 4000000
theorem tG{a b:Nat×Nat}:ltN a b=true↔a.1<b.1∨(a.1=b.1/\a.2<b.2):=by
 unfold ltN
 rw[qa4,qaa,qaT,qaT,qdB]
theorem sa{a b c e:Nat}:(c,e)∈aF a b↔c<4*a*b/\e<3/\∃n,nbr a b c e=some n/\c<n:=by
 unfold aF
 simp only[qbw,qai,qbg]
 constructor
 ·rintro⟨c',h1,e',h2,h3⟩
  split at h3
  ·rename_i n hn
   split at h3
   ·rename_i hlt
    cases h3
    exact⟨h1,h2,n,hn,hlt⟩
   ·cases h3
  ·cases h3
 ·rintro⟨h1,h2,n,h3,h4⟩
  refine⟨c,h1,e,h2,?_⟩
  rw[h3]
  simp only[if_pos h4]
theorem chkC_1{w v:Int}{l:List Crs}(h:l.all isK=false):chkC w v l=1:=by unfold chkC;rw[if_pos h]
theorem chkC_7{w v:Int}{l:List Crs}(h:l.all isK=true)(h2:l.all (unC w v)=false):chkC w v l=7:=by
 unfold chkC;rw[if_neg (by rw[h];decide),if_pos h2]
theorem chkC_0{w v:Int}{l:List Crs}(h:l.all isK=true)(h2:l.all (unC w v)=true)(h3:ascC l=true):chkC w v l=0:=by
 unfold chkC;rw[if_neg (by rw[h];decide),if_neg (by rw[h2];decide),if_pos h3]
theorem chkC_6{w v:Int}{l:List Crs}(h:l.all isK=true)(h2:l.all (unC w v)=true)(h3:ascC l=false):chkC w v l=6:=by
 unfold chkC;rw[if_neg (by rw[h];decide),if_neg (by rw[h2];decide),if_neg (by rw[h3];decide)]
theorem vK(w v:Int):Cc 19 [.i w,.i v] [.i (if valS w v then 1 else 0)]:=by
 refine q19 rfl ?_;unfold f19;simp only[qxh]
 by_cases h1:1<=w
 ·by_cases h2:1<=v
  ·by_cases h3:w<=256
   ·by_cases h4:v<=256
    ·have hm:=vk (w:=w) (v:=v) (a:=256) (b:=256) (by omega)
     by_cases h5:w*v<=256
     ·simp(disch:=omega)only[↓qXX];simp[valS,h1,h2,h3,h4,h5]
     ·simp(disch:=omega)only[↓qXX];simp[valS,h5]
    ·simp(disch:=omega)only[↓qXX];simp[valS,h4]
   ·simp(disch:=omega)only[↓qXX];simp[valS,h3]
  ·simp(disch:=omega)only[↓qXX];simp[valS,h2]
 ·simp(disch:=omega)only[↓qXX];simp[valS,h1]
theorem mX{w v:Int}(h:valS w v):Cc 19 [.i w,.i v] [.i 1]:=by
 have:=vK w v;rw[if_pos h]at this;exact this
theorem mW{w v:Int}(h:¬valS w v):Cc 19 [.i w,.i v] [.i 0]:=by
 have:=vK w v;rw[if_neg h]at this;exact this
theorem pz:∀ {l:List (Nat×Nat)},ascN l=true->∀ {i j:Nat} {a b},i<j->l[i]? = some a->l[j]? = some b->ltN a b=true
 | [],_,i,j,a,b,_,ha,_=>by simp at ha
 | [x],_,i,j,a,b,hij,ha,hb=>by
  have:=bk hb
  simp at this;omega
 |x :: y :: l,h,i,j,a,b,hij,ha,hb=>by
  simp only[ascN,qaa]at h
  obtain⟨j,rfl⟩ : ∃k,j=k+1:=⟨j - 1,by omega⟩
  have hb':(y :: l)[j]? = some b:=by simpa using hb
  cases i with
  |succ i=>exact pz h.2 (i:=i) (j:=j) (by omega) (by simpa using ha) hb'
  |zero=>
   simp only[qa6,qau]at ha
   subst ha
   cases j with
   |zero=>
    simp only[qa6,qau]at hb'
    subst hb';exact h.1
   |succ j=>
    have h5:=pz h.2 (i:=0) (j:=j+1) (by omega) rfl hb'
    have h6:=h.1
    rw[tG]at h5 h6 ⊢
    omega
def mtc(u:Nat×Nat)(c:Crs):Prop:=(u.1:Int)=c.1/\(u.2:Int)=c.2.1
theorem unC_iff{a b:Nat}(h1:1<=a)(h2:a<=5)(h3:1<=b)(h4:b<=5){c:Crs}(he:0<=c.2.1):unC (.ofNat a) (.ofNat b) c=true↔∃(k:Nat) (u:Nat×Nat),(aF a b)[k]? = some u/\mtc u c:=by
 constructor
 ·intro h
  have hr:=qd h
  obtain⟨c1,c2,c3⟩:=c
  obtain⟨x,rfl⟩:=qbo hr.1
  obtain⟨y,rfl⟩:=qbo he
  unfold unC isUn at h
  simp only[qaa,decide_eq_true_eq]at h
  have h5:=h.2
  split at h5
  ·rename_i n hn
   have hm:(x,y)∈aF a b:=sa.2 ⟨lt_nat hr.2.1,by have:=hr.2.2;simp only at this;omega,n,hn,by simpa[qaT]using h5⟩
   obtain⟨k,hk⟩:=qaQ hm
   exact⟨k,_,hk,rfl,rfl⟩
  ·cases h5
 ·rintro⟨k,⟨x,y⟩,hk,h5,h6⟩
  obtain⟨c1,c2,c3⟩:=c
  simp only at h5 h6
  subst h5 h6
  obtain⟨q1,q2,n,q3,q4⟩:=sa.1 (qag hk)
  unfold unC isUn
  have q3':nbr (Int.ofNat a).toNat (Int.ofNat b).toNat (x:Int).toNat (y:Int).toNat=some n:=q3
  simp only[qaa,decide_eq_true_eq]
  refine⟨⟨⟨by omega,?_⟩,by omega⟩,?_⟩
  ·show(x:Int)<4*(a:Int)*(b:Int)
   have:(4*(a:Int)*(b:Int))=((4*a*b:Nat):Int):=by simp
   rw[this];omega
  ·rw[q3']
   simpa[qaT]using q4
def foundAt(U:List (Nat×Nat))(c:Crs)(j:Nat)(at':Int):Prop:=(at' = -1/\∀k:Nat,k<j->∀u:Nat×Nat,U[k]? = some u->¬mtc u c)∨∃(k:Nat) (u:Nat×Nat),k<j/\at'=Int.ofNat k/\U[k]? = some u/\mtc u c
theorem pos_iff{U:List (Nat×Nat)}(hU:ascN U=true){k k':Nat}{u u':Nat×Nat}{c c':Crs}(h1:U[k]? = some u)(h2:U[k']? = some u')(m1:mtc u c)(m2:mtc u' c'):k'<k↔ltC c' c=true:=by
 unfold mtc at m1 m2
 have e:ltC c' c=true↔u'.1<u.1∨(u'.1=u.1/\u'.2<u.2):=by
  simp only[ltC,qa4,qaa,decide_eq_true_eq]
  omega
 rw[e]
 constructor
 ·intro h
  exact tG.1 (pz hU h h2 h1)
 ·intro h
  rcases Nat.lt_trichotomy k' k with h3|h3|h3
  ·exact h3
  ·subst h3
   rw[h1]at h2;cases h2
   omega
  ·have:=tG.1 (pz hU h3 h1 h2)
   omega
def eO(l:List Crs)(j:Nat):Prop:=∀(i:Nat) a b,i+1<j->l[i]? = some a->l[i+1]? = some b->ltC a b=true
theorem wR{w v:Int}(hs:smS w v){h:HL}{x:Value}{l:List Crs}(hl:LsH h x 3 encC l)(hk:∀c∈l,okC c)(hn:l.length<=4294967296) :
  ∃G,aB cc ab 20 [.i w,.i v,.v x] (absH aa h) [.i (chkC w v l)] (absH aa (h++G)):=by
 obtain⟨a,b,rfl,rfl,ha1,ha2,hb1,hb2⟩:=wc hs
 have ht:=jS (kF a b ha1 ha2 hb1 hb2)
 have hU:=ht.2.2.2.1
 have hUn:=ht.2.2.2.2
 obtain⟨rs,h',h3,rfl,hp⟩:=x20 (K:=λrs h'=>rs=[.i (chkC (.ofNat a) (.ofNat b) l)]/\Pre h h') (H:=h) (glsI (glsI (glsV hl.good gls0))) (by
  unfold f20;simp only[qxh]
  simp(disch:=omega)only[↓qXX]
  refine ae (mX (uj hs)) ?_
  simp(disch:=omega)only[↓qXX]
  refine eu (j0:=0) l.length (λj=>∀i,i<j->∀c,l[i]? = some c->isK c=true) rfl (qaV _) (λi hi=>absurd hi (qbC _)) ?_
  intro j hj hi self hself
  simp(disch:=omega)only[↓qXX]
  refine bY hl ?_
  by_cases hlt:j<l.length
  ·rw[be hlt]
   simp(disch:=omega)only[↓qXX]
   obtain⟨c,hc⟩:=bg hlt
   have hmem:=qag hc
   have bad:isK c=false->chkC (.ofNat a) (.ofNat b) l=1:=λhu=>by
    exact chkC_1 (qcD.2 ⟨c,hmem,λh=>by rw[hu]at h;cases h⟩)
   refine gn (cs:=[.int .u8 c.2.2]) hl rfl hc rfl (by decide) ?_
   simp(disch:=omega)only[↓qXX]
   by_cases h1:1<=c.2.2
   ·simp(disch:=omega)only[↓qXX]
    refine gn (cs:=[.int .u8 c.2.2]) hl rfl hc rfl (by decide) ?_
    simp(disch:=omega)only[↓qXX]
    by_cases h2:c.2.2<=3
    ·simp(disch:=omega)only[↓qXX]
     rw[co (by omega)]
     refine hself hlt λi hi' c' hc'=>?_
     rcases qaw i j with h|h
     ·exact hi i h c' hc'
     ·obtain rfl:i=j:=by omega
      rw[hc]at hc';cases hc';simp[isK,h1,h2]
    ·simp(disch:=omega)only[↓qXX]
     exact⟨by rw[bad (by simp[isK];omega)],Pre.refl h⟩
   ·simp(disch:=omega)only[↓qXX]
    exact⟨by rw[bad (by simp[isK];omega)],Pre.refl h⟩
  ·obtain rfl:j=l.length:=by omega
   rw[bc (qal _)]
   simp(disch:=omega)only[↓qXX]
   have hK:l.all isK=true:=qab.2 λc hc=>by
    obtain⟨i,hi'⟩:=qaQ hc
    exact hi i (bk hi') c hi'
   obtain⟨s,G,hu,hsl⟩:=uv ha1 ha2 hb1 hb2 h
   refine aj hu ?_
   simp(disch:=omega)only[↓qXX]
   have hpre:Pre h (h++G):=⟨G,rfl⟩
   have hl2:=hl.pre hpre
   refine cm (σ:=Int×Int) (j0:=0) l.length (λj s=>[.i s.1,.i s.2,.i (Int.ofNat j)]) (λ_ _=>h++G)
    (λj s=>(∀i,i<j->∀c,l[i]? = some c->unC (.ofNat a) (.ofNat b) c=true)/\(j=0->s.2 = -1)/\(∀c,0<j->l[j - 1]? = some c->∃(k:Nat) (u:Nat×Nat),s.2=(k:Int)/\(aF a b)[k]? = some u/\mtc u c)/\((s.1=0/\eO l j)∨(s.1=6/\¬eO l j)))
    (s0:=(0,-1)) rfl rfl (qaV _) ⟨λi hi=>absurd hi (qbC _),λ_=>rfl,λc h=>absurd h (Nat.lt_irrefl _),.inl ⟨rfl,λi a b h=>by omega⟩⟩ ?_
   rintro j ⟨ord,last⟩ hj ⟨i1,i2,i3,i4⟩ self hself
   simp only at i2 i3 i4
   simp(disch:=omega)only[↓qXX]
   refine bY hl2 ?_
   by_cases hlt:j<l.length
   ·rw[be hlt]
    simp(disch:=omega)only[↓qXX]
    obtain⟨c,hc⟩:=bg hlt
    have hmem:=qag hc
    have hok:=hk c hmem
    unfold okC at hok
    refine cm (σ:=Int) (j0:=0) (aF a b).length (λk at'=>[.i at',.i (Int.ofNat k)]) (λ_ _=>h++G) (λk at'=>foundAt (aF a b) c k at') (s0:=-1) rfl rfl (qaV _) (.inl ⟨rfl,λk hk=>absurd hk (qbC _)⟩) ?_
    intro k at' hk2 hf self2 hself2
    simp(disch:=omega)only[↓qXX]
    refine bY hsl ?_
    by_cases hlk:k<(aF a b).length
    ·rw[be hlk]
     simp(disch:=omega)only[↓qXX]
     obtain⟨u,hu2⟩:=bg hlk
     refine bh hsl rfl hu2 ?_
     unfold encU
     simp(disch:=omega)only[↓qXX]
     refine gn (cs:=[.int .i64 c.1]) hl2 rfl hc rfl (by decide) ?_
     simp(disch:=omega)only[↓qXX]
     refine gn (cs:=[.int .u8 c.2.1]) hl2 rfl hc rfl (by decide) ?_
     simp(disch:=omega)only[↓qXX]
     by_cases hm:mtc u c
     ·have hm1:Int.ofNat u.1=c.1:=hm.1
      have hm2:Int.ofNat u.2=c.2.1:=hm.2
      rw[hm1,hm2]
      simp(disch:=omega)only[↓qXX]
      rw[co (by omega)]
      exact hself2 (Int.ofNat k) hlk (.inr ⟨k,u,Nat.lt_succ_self k,rfl,hu2,hm⟩)
     ·have hm':¬(Int.ofNat u.1=c.1/\Int.ofNat u.2=c.2.1):=hm
      rw[p_eqs2_f hm']
      simp(disch:=omega)only[↓qXX]
      rw[co (by omega)]
      refine hself2 at' hlk ?_
      rcases hf with⟨e,hf⟩|⟨k1,u1,q1,q2,q3,q4⟩
      ·refine .inl ⟨e,λk2 hk3 u2 hu3=>?_⟩
       rcases qaw k2 k with h|h
       ·exact hf k2 h u2 hu3
       ·obtain rfl:k2=k:=by omega
        rw[hu2]at hu3;cases hu3;exact hm
      ·exact .inr ⟨k1,u1,by omega,q2,q3,q4⟩
    ·obtain rfl:k=(aF a b).length:=by omega
     rw[bc (qal _)]
     simp(disch:=omega)only[↓qXX]
     rcases hf with⟨e,hf⟩|⟨k1,u1,q1,q2,q3,q4⟩
     ·have hu:unC (.ofNat a) (.ofNat b) c=false:=by
       rw[←qaY,unC_iff ha1 ha2 hb1 hb2 (by omega)]
       rintro⟨k2,u2,e1,e2⟩
       exact hf k2 (bk e1) u2 e1 e2
      have hall:l.all (unC (.ofNat a) (.ofNat b))=false:=qcD.2 ⟨c,hmem,λh=>by rw[hu]at h;cases h⟩
      simp(disch:=omega)only[↓qXX]
      exact⟨by rw[chkC_7 hK hall],hpre⟩
     ·have hu:unC (.ofNat a) (.ofNat b) c=true:=(unC_iff ha1 ha2 hb1 hb2 (by omega)).2 ⟨k1,u1,q3,q4⟩
      have hat:at'=(k1:Int):=q2
      have fin:∀ord':Int,((ord'=0/\eO l (j+1))∨(ord'=6/\¬eO l (j+1)))->self [.i ord',.i at',.i (Int.ofNat j+1)] (h++G):=λord' ho=>
       hself (ord',at') hlt ⟨λi hi' c' hc'=>by
        rcases qaw i j with h|h
        ·exact i1 i h c' hc'
        ·obtain rfl:i=j:=by omega
         rw[hc]at hc';cases hc';exact hu,λh=>by omega,λc' _ hc'=>by
        rw[qc3,hc]at hc';cases hc'
        exact⟨k1,u1,hat,q3,q4⟩,ho⟩
      have ext:∀c',0<j->l[j - 1]? = some c'->(eO l (j+1)↔eO l j/\ltC c' c=true):=by
       intro c' h0 hc'
       constructor
       ·intro hp
        exact⟨λi a b h=>hp i a b (by omega),hp (j - 1) c' c (by omega) hc' (by rw[show j - 1+1=j by omega];exact hc)⟩
       ·rintro⟨hp,hq⟩ i a b hi' ha hb'
        rcases qaw (i+1) j with h|h
        ·exact hp i a b h ha hb'
        ·have e1:i=j - 1:=by omega
         have e2:i+1=j:=by omega
         rw[e2,hc]at hb'
         rw[e1,hc']at ha
         cases ha;cases hb';exact hq
      simp(disch:=omega)only[↓qXX]
      by_cases hle:at'<=last
      · -- the place is not greater
       simp(disch:=omega)only[↓qXX]
       rw[co (by omega)]
       refine fin 6 (.inr ⟨rfl,λhp=>?_⟩)
       rcases qb7 j with h0|h0
       ·have:=i2 h0;omega
       ·obtain⟨c',hc'⟩:=bg (l:=l) (i:=j - 1) (by omega)
        obtain⟨k',u',e1,e2,e3⟩:=i3 c' h0 hc'
        have:=(pos_iff hU q3 e2 q4 e3).2 ((ext c' h0 hc').1 hp).2
        omega
      ·simp(disch:=omega)only[↓qXX]
       rw[co (by omega)]
       refine fin ord ?_
       rcases qb7 j with h0|h0
       ·have p0:eO l (j+1):=λi a b h=>by omega
        rcases i4 with⟨e,_⟩|⟨_,e⟩
        ·exact .inl ⟨e,p0⟩
        ·exact absurd (λi a b h=>by omega) e
       ·obtain⟨c',hc'⟩:=bg (l:=l) (i:=j - 1) (by omega)
        obtain⟨k',u',e1,e2,e3⟩:=i3 c' h0 hc'
        have hlt2:=(pos_iff hU q3 e2 q4 e3).1 (by omega)
        rcases i4 with⟨e,e'⟩|⟨e,e'⟩
        ·exact .inl ⟨e,(ext c' h0 hc').2 ⟨e',hlt2⟩⟩
        ·exact .inr ⟨e,λhp=>e' ((ext c' h0 hc').1 hp).1⟩
   ·obtain rfl:j=l.length:=by omega
    rw[bc (qal _)]
    simp(disch:=omega)only[↓qXX]
    have hall:l.all (unC (.ofNat a) (.ofNat b))=true:=qab.2 λc hc=>by
     obtain⟨i,hi'⟩:=qaQ hc
     exact i1 i (bk hi') c hi'
    have hasc:ascC l=true↔eO l l.length:=by
     rw[kU]
     exact⟨λh i a b _=>h i a b,λh i a b ha hb'=>h i a b (bk hb') ha hb'⟩
    refine⟨?_,hpre⟩
    rcases i4 with⟨e,e'⟩|⟨e,e'⟩
    ·rw[e,chkC_0 hK hall (hasc.2 e')]
    ·have:ascC l=false:=by rw[←qaY,hasc];exact e'
     rw[e,chkC_6 hK hall this])
 obtain⟨G,rfl⟩:=hp
 exact⟨G,h3⟩
theorem tD:∀H,aB cc ab 10 [] H [.b true] H:=iJ (n:=60) rfl (by kernel_rfl) rfl (by kernel_rfl)
set_option maxHeartbeats 8000000
theorem checked_c{w v:Nat}{l:List Crs}{x:Value}{H:HL}(hv:VP w v l x H){t a b:Int}(ht:0<=t/\t<=255) :
  ∃h',aB cc ab 7 (argL w v x t a b) (absH aa H) [.b true] (absH aa h')/\Pre H h':=by
 cases hm:vMI t a b with
 |false=>exact ta hv.ls.good (by decide) ⟨H,told_arg hv.ls.good hm,Pre.refl _⟩ λh' hp=>⟨h',both_arg (hv.pre hp) ht hm⟩
 |true=>
  unfold vMI at hm
  rw[decide_eq_true_eq]at hm
  obtain⟨n,rfl⟩:=qbo ht.1
  have hr:okM 16384 (n,a,b):=⟨by show n<8;omega,hm.2.1.1,hm.2.1.2,hm.2.2.1.1,hm.2.2.1.2,hm.2.2.2⟩
  obtain⟨_,_,_,_,⟨_,hno⟩|⟨G,hG,⟨_,hno⟩|⟨_,_,ha,_⟩⟩⟩:=wg hv.sh hv.kd hv.len hv.ls hr
  ·exact ta hv.ls.good (by decide) (told_no hv hr hno) λh' hp=>both_no (hv.pre hp) hr hno
  ·exact ta hv.ls.good (by decide) (told_lim hv hr hG hno) λh' hp=>both_lim (hv.pre hp) hr hG hno
  ·exact ckd_ok hv hr hG ha
theorem uD:∀ {l:List Crs},ascC l=true->l.Pairwise λa b=>ltC a b=true
 | [],_=>List.Pairwise.nil
 | [_],_=>qcx _ _
 |a :: b :: l,h=>by
  have h:(ltC a b&&ascC (b :: l))=true:=h
  rw[qaa]at h
  have ih:=uD h.2
  rw[qbu]
  refine⟨λc hc=>?_,ih⟩
  rcases qam.1 hc with rfl|hc
  ·exact h.1
  ·have h2:=(qbu.1 ih).1 c hc
   have h1:=h.1
   unfold ltC at *
   simp only[qa4,qaa,decide_eq_true_eq]at *
   omega
def ErrC(w v:Int)(s:Value)(e:Int)(h:HL):Prop:=aP s=true/\∀h',Pre h h'->aB cc ab 32 [.i w,.i v,.v s] (absH aa h') [.i e] (absH aa h')
theorem ErrC.pre{w v:Int}{s:Value}{e:Int}{h h':HL}(hc:ErrC w v s e h)(hp:Pre h h'):ErrC w v s e h':=⟨hc.1,λh2 hp2=>hc.2 h2 (hp.trans hp2)⟩
section
variable {w v e:Int} {s:Value} {h:HL} (he:e≠0) (hc:ErrC w v s e h)
include he hc
theorem uE(t a b:Int):BothC [.i w,.i v,.v s,.i t,.i a,.i b] h cN cN e h:=by
 obtain⟨rs,h',h3,rfl,rfl⟩:=x42 (ls:=[.i w,.i v,.v s,.i t,.i a,.i b]) (K:=λrs h'=>rs=[.v cN,.v cN,.i e]/\h'=h) (H:=h) (glsI (glsI (glsV hc.1 (glsI (glsI (glsI gls0)))))) (by
  unfold f42;simp only[qxh]
  simp(disch:=omega)only[↓qXX]
  refine aj (hc.2 _ (Pre.refl _)) ?_
  simp(disch:=omega)only[↓qXX]
  exact⟨by trivial,by trivial⟩)
 exact⟨h3,Pre.refl _,rfl,rfl⟩
theorem tg(x y:Int):∃G,aB cc ab 50 [.i w,.i v,.v s,.i x,.i y] (absH aa h) [.v cN,.i e] (absH aa (h++G)):=by
 obtain⟨rs,h',h3,rfl,G,rfl⟩:=x50 (ls:=[.i w,.i v,.v s,.i x,.i y]) (K:=λrs h'=>rs=[.v cN,.i e]/\Pre h h') (H:=h) (glsI (glsI (glsV hc.1 (glsI (glsI gls0))))) (by
  unfold f50;simp only[qxh]
  simp(disch:=omega)only[↓qXX]
  refine mN (eZ bj) rfl ?_
  simp(disch:=omega)only[↓qXX]
  refine bf hc.1 ?_
  simp(disch:=omega)only[↓qXX]
  refine aj (hc.2 _ ⟨_,rfl⟩) ?_
  simp(disch:=omega)only[↓qXX]
  exact⟨by trivial,⟨_,rfl⟩⟩)
 exact⟨G,h3⟩
theorem wu(x y:Int):∃G,aB cc ab 24 [.i w,.i v,.v s,.i x,.i y] (absH aa h) [.b false,.i e] (absH aa (h++G)):=by
 obtain⟨G,c1⟩:=tg he hc x y
 obtain⟨rs,h',h3,rfl,rfl⟩:=x24 (ls:=[.i w,.i v,.v s,.i x,.i y]) (K:=λrs h'=>rs=[.b false,.i e]/\h'=h++G) (H:=h) (glsI (glsI (glsV hc.1 (glsI (glsI gls0))))) (by
  unfold f24;simp only[qxh]
  simp(disch:=omega)only[↓qXX]
  refine aj c1 ?_
  simp(disch:=omega)only[↓qXX]
  exact⟨by trivial,by trivial⟩)
 exact⟨G,h3⟩
theorem open_err:∃G,aB cc ab 9 [.i w,.i v,.v s] (absH aa h) [.i 0,.i 0,.b false,.i e] (absH aa (h++G)):=by
 obtain⟨rs,h',h3,rfl,G,rfl⟩:=x9 (ls:=[.i w,.i v,.v s]) (K:=λrs h'=>rs=[.i 0,.i 0,.b false,.i e]/\Pre h h') (H:=h) (glsI (glsI (glsV hc.1 gls0))) (by
  unfold f9;simp only[qxh]
  simp(disch:=omega)only[↓qXX]
  refine mN (eZ bj) rfl ?_
  simp(disch:=omega)only[↓qXX]
  refine bf hc.1 ?_
  simp(disch:=omega)only[↓qXX]
  refine aj (hc.2 _ ⟨_,rfl⟩) ?_
  simp(disch:=omega)only[↓qXX]
  exact⟨by trivial,⟨_,rfl⟩⟩)
 exact⟨G,h3⟩
end
theorem check_bad{w v:Int}(hs:¬valS w v){x:Value}(hx:aP x=true)(h:HL):aB cc ab 32 [.i w,.i v,.v x] (absH aa h) [.i 1] (absH aa h):=by
 obtain⟨rs,h',h3,rfl,rfl⟩:=x32 (ls:=[.i w,.i v,.v x]) (K:=λrs h'=>rs=[.i 1]/\h'=h) (H:=h) (glsI (glsI (glsV hx gls0))) (by
  unfold f32;simp only[qxh]
  simp(disch:=omega)only[↓qXX]
  refine ae (xb hs) ?_
  simp(disch:=omega)only[↓qXX]
  exact⟨by trivial,by trivial⟩)
 exact h3
theorem sz{w v:Int}(hs:¬valS w v){x:Value}(hx:aP x=true)(h:HL):aB cc ab 20 [.i w,.i v,.v x] (absH aa h) [.i 1] (absH aa h):=by
 obtain⟨rs,h',h3,rfl,rfl⟩:=x20 (ls:=[.i w,.i v,.v x]) (K:=λrs h'=>rs=[.i 1]/\h'=h) (H:=h) (glsI (glsI (glsV hx gls0))) (by
  unfold f20;simp only[qxh]
  simp(disch:=omega)only[↓qXX]
  refine ae (mW hs) ?_
  simp(disch:=omega)only[↓qXX]
  exact⟨by trivial,by trivial⟩)
 exact h3
theorem vp_of{w v:Int}(hs:smS w v){l:List Crs}(hk:∀c∈l,okC c)(hn:l.length<=1000)(h0:chkC w v l=0){x:Value}{H:HL}(hl:LsH H x 3 encC l):∃a b:Nat,w = .ofNat a/\v = .ofNat b/\VP a b l x H:=by
 obtain⟨a,b,rfl,rfl,h1,h2,h3,h4⟩:=wc hs
 refine⟨a,b,rfl,rfl,?_⟩
 have hck:=λh' (hp:Pre H h')=>check_c hs (hl.pre hp) hk (by omega)
 rw[h0]at hck
 unfold chkC at h0
 split at h0
 ·cases h0
 rename_i g1
 split at h0
 ·cases h0
 split at h0
 case isFalse=>cases h0
 rename_i g3
 refine⟨⟨h1,h2,h3,h4⟩,wF (uD g3),hn,λc hc=>?_,hl,hck⟩
 have:=qab.1 (by simpa using g1) c hc
 unfold isK at this
 simpa using this
theorem err_all{w v e:Int}{s:Value}{h:HL}(he:e≠0)(hc:ErrC w v s e h)(P:Prop)(hp:∀(G1 G2:HL),aB cc ab 24 [.i w,.i v,.v s,.i 0,.i 0] (absH aa h) [.b false,.i e] (absH aa (h++G1))->aB cc ab 9 [.i w,.i v,.v s] (absH aa (h++G1)) [.i 0,.i 0,.b false,.i e] (absH aa (h++G1++G2))->P):P:=by
 obtain⟨G1,c1⟩:=wu he hc 0 0
 obtain⟨G2,c2⟩:=open_err he (hc.pre ⟨G1,rfl⟩)
 exact hp G1 G2 c1 c2
theorem kN{w v t a b:Int}(hw:-9223372036854775808<=w/\w<=9223372036854775807/\-9223372036854775808<=v/\v<=9223372036854775807)(ht:0<=t/\t<=255){s:Value}{l:List Crs}{h:HL}(hl:LsH h s 3 encC l)(hk:∀c∈l,okC c) :
  ∃h',aB cc ab 5 [.i w,.i v,.v s,.i t,.i a,.i b] (absH aa h) [.b true] (absH aa h'):=by
 obtain⟨rs,h',h3,rfl⟩:=x5 (ls:=[.i w,.i v,.v s,.i t,.i a,.i b]) (K:=λrs h'=>rs=[.b true]) (H:=h) (glsI (glsI (glsV hl.good (glsI (glsI (glsI gls0)))))) (by
  unfold f5;simp only[qxh]
  simp(disch:=omega)only[↓qXX]
  refine bY hl ?_
  by_cases h20:l.length<=20
  case neg=>
   rw[p_gtr_t (show 20<Int.ofNat l.length by show 20<(l.length:Int);omega)]
   simp(disch:=omega)only[↓qXX]
  rw[p_gtr_f (show Int.ofNat l.length<=20 by show(l.length:Int)<=20;omega)]
  simp(disch:=omega)only[↓qXX]
  have bad:∀(h1:HL) (e:Int),e≠0->ErrC w v s e h1->True:=λ_ _ _ _=>trivial
  by_cases hv:valS w v
  ·refine ae (mX hv) ?_
   simp(disch:=omega)only[↓qXX]
   by_cases h5:w<=5
   case neg=>simp(disch:=omega)only[↓qXX]
   by_cases h6:v<=5
   case neg=>simp(disch:=omega)only[↓qXX]
   have hs:smS w v:=by unfold valS at hv;unfold smS;omega
   simp(disch:=omega)only[↓qXX]
   obtain⟨G3,c3⟩:=wR hs hl hk (by omega)
   refine aj c3 ?_
   simp(disch:=omega)only[↓qXX]
   have hl3:=hl.pre (h':=h++G3) ⟨_,rfl⟩
   generalize h++G3=h1 at *
   by_cases h0:chkC w v l=0
   ·rw[h0]
    simp(disch:=omega)only[↓qXX]
    obtain⟨x,y,rfl,rfl,hvp⟩:=vp_of hs hk (by omega) h0 hl3
    obtain⟨h4,c4,p4⟩:=checked_c (a:=a) (b:=b) hvp ht
    refine aj c4 ?_
    simp(disch:=omega)only[↓qXX]
    refine aj (tD _) ?_
    simp(disch:=omega)only[↓qXX]
   ·have he:ErrC w v s (chkC w v l) h1:=⟨hl3.good,λh' hp=>check_c hs (hl3.pre hp) hk (by omega)⟩
    generalize chkC w v l=e at *
    simp(disch:=omega)only[↓qXX]
    have hb:=uE h0 he t a b
    refine aj (lD he.1 hb) ?_
    simp(disch:=omega)only[↓qXX]
    refine aj (eN he.1 hb) ?_
    simp(disch:=omega)only[↓qXX]
    refine aj (up_e he.1 hb h0) ?_
    simp(disch:=omega)only[↓qXX]
    refine aj (sil_e he.1 hb h0) ?_
    simp(disch:=omega)only[↓qXX]
    refine aj (dep_e he.1 hb h0) ?_
    simp(disch:=omega)only[↓qXX]
    refine err_all h0 he _ λG1 G2 k1 k2=>?_
    refine aj k1 ?_
    simp(disch:=omega)only[↓qXX]
    refine aj k2 ?_
    simp(disch:=omega)only[↓qXX,qbE]
    refine aj (tD _) ?_
    simp(disch:=omega)only[↓qXX]
  ·refine ae (mW hv) ?_
   simp(disch:=omega)only[↓qXX]
   refine aj (sz hv hl.good h) ?_
   simp(disch:=omega)only[↓qXX]
   have he:ErrC w v s 1 h:=⟨hl.good,λh' hp=>check_bad hv hl.good h'⟩
   have hb:=uE (by decide) he t a b
   refine aj (lD he.1 hb) ?_
   simp(disch:=omega)only[↓qXX]
   refine aj (eN he.1 hb) ?_
   simp(disch:=omega)only[↓qXX]
   refine aj (up_e he.1 hb (by decide)) ?_
   simp(disch:=omega)only[↓qXX]
   refine aj (sil_e he.1 hb (by decide)) ?_
   simp(disch:=omega)only[↓qXX]
   refine aj (dep_e he.1 hb (by decide)) ?_
   simp(disch:=omega)only[↓qXX]
   refine err_all (by decide) he _ λG1 G2 k1 k2=>?_
   refine aj k1 ?_
   simp(disch:=omega)only[↓qXX]
   refine aj k2 ?_
   simp(disch:=omega)only[↓qXX,qbE]
   refine aj (tD _) ?_
   simp(disch:=omega)only[↓qXX])
 exact⟨h',h3⟩
end Go.Am
set_option maxRecDepth 100000
namespace Go.Am
namespace Sx
theorem rj{α:Type}{ks:List LK}{enc:α->List Value}{ok:α->Prop}(dec:∀cs,FitC ks cs->∃a,enc a=cs/\ok a):∀(n:Nat) (cells:List Value),cells.length=n*ks.length->(∀i,i<n->FitC ks ((cells.drop (i*ks.length)).take ks.length))->∃l:List α,l.length=n/\l.flatMap enc=cells/\∀a∈l,ok a
 |0,cells,hl,_=>⟨[],rfl,by
   simp only[qbz,qbp]at hl
   rw[hl];rfl,λ_ h=>by cases h⟩
 |n+1,cells,hl,hf=>by
  obtain⟨a,h1,h2⟩:=dec _ (by have:=hf 0 (by omega);rw[qbz,qbb]at this;exact this)
  obtain⟨l,h3,h4,h5⟩:=rj dec n (cells.drop ks.length) (by rw[qbF,hl,qbt];omega) (λi hi=>by
   have:=hf (i+1) (by omega)
   rw[qbS]
   rw[qbt,qck,Nat.add_comm]at this
   exact this)
  refine⟨a :: l,by simp[h3],?_,λb hb=>?_⟩
  ·rw[qbK,h1,h4,qbJ]
  ·rcases qam.1 hb with rfl|hb
   ·exact h2
   ·exact h5 b hb
theorem ls_of{α:Type}{ks:List LK}{enc:α->List Value}{ok:α->Prop}(hlen:∀a,(enc a).length=ks.length)(dec:∀cs,FitC ks cs->∃a,enc a=cs/\ok a){h:HL}{x:Value}{n:Nat}{cells:List Value}(hs:SlC h x ks.length n cells)(hf:∀i,i<n->FitC ks ((cells.drop (i*ks.length)).take ks.length)) :
  ∃l:List α,LsH h x ks.length enc l/\l.length=n/\∀a∈l,ok a:=by
 obtain⟨l,h1,h2,h3⟩:=rj dec n cells hs.1 hf
 refine⟨l,⟨λa _=>hlen a,?_⟩,h1,h3⟩
 rw[h1,h2];exact hs
theorem ba.i{h:HL}{k:IntKind}{ks:List CK2}{ls:List Lf}(hf:ba h (.i k :: ks) ls):∃n r,ls = .i n :: r/\(Lit.int k n).wf=true/\ba h ks r:=by
 match ls,hf with
 | .i n :: r,hf=>exact⟨n,r,rfl,hf.1,hf.2⟩
theorem ba.b{h:HL}{ks:List CK2}{ls:List Lf}(hf:ba h (.b :: ks) ls):∃n r,ls = .b n :: r/\ba h ks r:=by
 match ls,hf with
 | .b n :: r,hf=>exact⟨n,r,rfl,hf⟩
theorem ba.s{h:HL}{es:List LK}{ks:List CK2}{ls:List Lf}(hf:ba h (.s es :: ks) ls):∃x r n cells,ls = .v x :: r/\SlC h x es.length n cells/\n<=maxLen/\(∀i,i<n->FitC es ((cells.drop (i*es.length)).take es.length))/\ba h ks r:=by
 match ls,hf with
 | .v x :: r,⟨⟨n,cells,h1,h2,h3⟩,h4⟩=>exact⟨x,r,n,cells,rfl,h1,h2,h3,h4⟩
theorem ba.nil{h:HL}{ls:List Lf}(hf:ba h [] ls):ls=[]:=by
 match ls,hf with
 | [],_=>rfl
theorem hp_at(bl:List Blk2):HpAt (bl.map λb=>HO.o b.1) 0 bl:=λi b hb=>by
 rw[qaH,qas,hb];rfl
theorem absH_bl(T:Nat->Site)(bl:List Blk2):absH T (bl.map λb=>HO.o b.1)=bl.map (·.1):=by
 induction bl with
 |nil=>rfl
 |cons b l ih=>show absO T (.o b.1) :: absH T (l.map λb=>HO.o b.1)=_;rw[ih];rfl
end Sx
end Go.Am
set_option maxRecDepth 100000
namespace Go.Am
open Sx Go.Proofs
theorem decC(cs:List Value)(h:FitC [.i .i64,.i .u8,.i .u8] cs):∃a:Crs,encC a=cs/\okC a:=by
 obtain⟨v1,v2,v3,rfl⟩ : ∃v1 v2 v3,cs=[v1,v2,v3]:=by
  have hl:=FitC.len h
  match cs,hl with
  | [v1,v2,v3],_=>exact⟨v1,v2,v3,rfl⟩
 obtain⟨⟨a,rfl,ha⟩,⟨b,rfl,hb⟩,⟨c,rfl,hc⟩,_⟩:=h
 have h1:=wf_i64 ha
 have h2:=wf_u8 hb
 have h3:=wf_u8 hc
 exact⟨(a,b,c),rfl,h1.1,h1.2,h2.1,h2.2,h3.1,h3.2⟩
theorem ij(ls:List Lf)(h:HL)(hf:ba h [.i .i64,.i .i64,.s [.i .i64,.i .u8,.i .u8],.i .u8,.i .i64,.i .i64] ls):∃h',aB cc ab 5 ls (absH aa h) [.b true] (absH aa h'):=by
 obtain⟨w,ls,rfl,hw,hf⟩:=hf.i
 obtain⟨v,ls,rfl,hv,hf⟩:=hf.i
 obtain⟨s,ls,n,cells,rfl,h1,_,h3,hf⟩:=hf.s
 obtain⟨t,ls,rfl,ht,hf⟩:=hf.i
 obtain⟨x,ls,rfl,_,hf⟩:=hf.i
 obtain⟨y,ls,rfl,_,hf⟩:=hf.i
 obtain rfl:=hf.nil
 obtain⟨l,hl,_,hk⟩:=ls_of (enc:=encC) (ok:=okC) (λ_=>rfl) decC h1 h3
 have hw:=wf_i64 hw
 have hv:=wf_i64 hv
 exact kN ⟨hw.1,hw.2,hv.1,hv.2⟩ (wf_u8 ht) hl hk
end Go.Am
set_option maxRecDepth 100000
namespace Go.Proofs.YtagdngknkloibaaGreatDoor
open Go Go.Am Go.Am.Sx
open Go.ChangeShapes Go.WideShapes Go.ChangeAt Go.WideMaps Go.WideElems Go.RowKit
abbrev laidC:List (String×DataW Unit):= [("crimp/moves.turns",Rows.laid_crimp_moves_turns), ("crimp/cells.quarters",Rows.laid_crimp_cells_quarters), ("crimp/corners.ways",Rows.laid_crimp_corners_ways)]
theorem name0 : Tryz.prog.globalNamed "crimp/moves.turns" = some 0:=by kernel_rfl
theorem name1 : Tryz.prog.globalNamed "crimp/cells.quarters" = some 1:=by kernel_rfl
theorem name2 : Tryz.prog.globalNamed "crimp/corners.ways" = some 2:=by kernel_rfl
theorem of_laid{W:World}(h:laidMetH Tryz.prog laidC W):∃_:Unit,∀(g:Nat) (vs:List Value),cc.G g=some vs->
  gBlk g<W.heap.size/\vs.all aQ=true/\∃c e fr,W.heap[gBlk g]? = some (.cells c e fr)/\bO (λ_=>none) vs c (gOff g):=by
 rw[MakeChecks.laidMetH_plain _ _ _ (by kernel_rfl)]at h
 obtain⟨ps,h,_,_⟩:=h
 refine⟨(),λg vs hg=>?_⟩
 have hcell:=gl_cell g vs hg
 unfold cc at hg
 simp only at hg
 split at hg
 ·cases hg
  exact mf (by kernel_rfl) hcell (by kernel_rfl) (jA h "crimp/moves.turns" Rows.laid_crimp_moves_turns qaB 0 199 8 gl0 name0 (by kernel_rfl) (by kernel_rfl))
 ·cases hg
  exact mf (by kernel_rfl) hcell (by kernel_rfl) (jA h "crimp/cells.quarters" Rows.laid_crimp_cells_quarters (qao _ qaB) 1 237 8 gl1 name1 (by kernel_rfl) (by kernel_rfl))
 ·cases hg
  exact mf (by kernel_rfl) hcell (by kernel_rfl) (jA h "crimp/corners.ways" Rows.laid_crimp_corners_ways (qao _ (qao _ qaB)) 2 260 8 gl2 name2 (by kernel_rfl) (by kernel_rfl))
 ·cases hg
theorem own:ownKnob Tryz.prog.godebug=none:=by kernel_rfl
theorem door_met(os:Os)(args:Array Value):laidMetH Tryz.prog laidC ((World.doorLaid Tryz.prog 400 os).forCall (λ_ _=>0) ⟨#[],args,[]⟩).memory:=
 laidMetH_of_parts3 (fuel:=8) (laidMet_of_run' 8 (by kernel_rfl) (by kernel_rfl)) (by kernel_rfl) (by kernel_rfl)
end Go.Proofs.YtagdngknkloibaaGreatDoor
end

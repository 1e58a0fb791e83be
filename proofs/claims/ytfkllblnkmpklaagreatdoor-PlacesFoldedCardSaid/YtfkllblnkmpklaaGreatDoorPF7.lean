/-
  PART 7 OF THE PROOF (no conditions).
-/
import Derived.Test.YtfkllblnkmpklaaGreatDoorPF6
import Derived.Shelf.SlSortCmp.WholeK
set_option linter.unusedSectionVars false
set_option linter.unusedSimpArgs false
set_option linter.unusedVariables false
set_option linter.constructorNameAsVariable false
set_option linter.defProp false
noncomputable section
set_option maxRecDepth 100000
set_option maxHeartbeats 16000000
namespace Go.Am
open Sx Go.Proofs
def p_pk{α:Type}{o:Option α}{x:α}{K:α->Prop}(hk:K x)(h:o=some x:=by simp only[eu,putL,offX,Int.reduceToNat,Int.reduceAdd,Int.reduceMul,Int.reduceMod,Int.reduceSub,Int.reduceNeg,Int.reduceDiv,Nat.reduceAdd,Nat.reduceMul,Nat.reduceLeDiff,qaE,qbp,↓reduceIte,qcd,qbj,qb3,qcu,qaI,qaG,qaN,qdZ,qb0,qcB,qdP];exact rfl):P1.opt o (@hid _ ⟨K⟩):=au h hk
def vm:Cc 68 [.i 1] [.i 1,.i 0]:=by
  refine q68 rfl ?_;unfold f68;simp only[qxh]
  simp(disch:=omega)only[↓qXX]
def vn:Cc 68 [.i 2] [.i 0,.i 1]:=by
  refine q68 rfl ?_;unfold f68;simp only[qxh]
  simp(disch:=omega)only[↓qXX]
def vo:Cc 68 [.i 3] [.i 1,.i 1]:=by
  refine q68 rfl ?_;unfold f68;simp only[qxh]
  simp(disch:=omega)only[↓qXX]
def vp:Cc 68 [.i 4] [.i (-1),.i 1]:=by
  refine q68 rfl ?_;unfold f68;simp only[qxh]
  simp(disch:=omega)only[↓qXX]
def farA:(∀ {c x y:Int},-1000000<=c/\c<=1000000/\-1000000<=x/\x<=1000000/\-1000000<=y/\y<=1000000->Cc 69 [.i 1,.i c,.i x,.i y] [.i (x - 2*c)])/\(∀ {c x y:Int},-1000000<=c/\c<=1000000/\-1000000<=x/\x<=1000000/\-1000000<=y/\y<=1000000->Cc 69 [.i 2,.i c,.i x,.i y] [.i (y - 2*c)])/\(∀ {c x y:Int},-1000000<=c/\c<=1000000/\-1000000<=x/\x<=1000000/\-1000000<=y/\y<=1000000->Cc 69 [.i 3,.i c,.i x,.i y] [.i (x+y - 2*c)])/\(∀ {c x y:Int},-1000000<=c/\c<=1000000/\-1000000<=x/\x<=1000000/\-1000000<=y/\y<=1000000->Cc 69 [.i 4,.i c,.i x,.i y] [.i (y - x - 2*c)]):=by
  refine⟨?_,?_,?_,?_⟩
  all_goals
    intro c x y h
    refine q69 rfl ?_;unfold f69;simp only[qxh]
    repeat (first|simp(disch:=omega)only[↓qXX]|refine af vm ?_|refine af vn ?_|refine af vo ?_|refine af vp ?_)
    (try simp only[qaV,Lf.i.injEq,and_true,true_and]);(try omega)
def uP:(∀ {c x y:Int},-1000000<=c/\c<=1000000/\-1000000<=x/\x<=1000000/\-1000000<=y/\y<=1000000->Cc 36 [.i 1,.i c,.i x,.i y] [.i (4*c - x),.i y])/\(∀ {c x y:Int},-1000000<=c/\c<=1000000/\-1000000<=x/\x<=1000000/\-1000000<=y/\y<=1000000->Cc 36 [.i 2,.i c,.i x,.i y] [.i x,.i (4*c - y)])/\(∀ {c x y:Int},-1000000<=c/\c<=1000000/\-1000000<=x/\x<=1000000/\-1000000<=y/\y<=1000000->Cc 36 [.i 3,.i c,.i x,.i y] [.i (2*c - y),.i (2*c - x)])/\(∀ {c x y:Int},-1000000<=c/\c<=1000000/\-1000000<=x/\x<=1000000/\-1000000<=y/\y<=1000000->Cc 36 [.i 4,.i c,.i x,.i y] [.i (y - 2*c),.i (x+2*c)]):=by
  refine⟨?_,?_,?_,?_⟩
  all_goals
    intro c x y h
    refine q36 rfl ?_;unfold f36;simp only[qxh]
    repeat (first|simp(disch:=omega)only[↓qXX]|refine p_ari_2 (by simp only[Int.reduceToNat,Int.reduceAdd,Int.reduceMul,Int.reduceMod,Int.reduceSub,Int.reduceNeg,Int.reduceDiv,Nat.reduceAdd,Nat.reduceMul,Nat.reduceLeDiff,qaE,qbp,↓reduceIte,qcd,qbj,qb3,qcu,qaI,qaG,qaN,qdZ,qb0,qcB,qdP];exact rfl) ?_|refine af vm ?_|refine af (farA.1 (by omega)) ?_|refine af vn ?_|refine af (farA.2.1 (by omega)) ?_|refine af vo ?_|refine af (farA.2.2.1 (by omega)) ?_|refine af vp ?_|refine af (farA.2.2.2 (by omega)) ?_)
    (try simp only[qaV,Lf.i.injEq,and_true,true_and]);(try omega)
def gV:(∀ {x y:Int},-1000000<=x/\x<=1000000/\-1000000<=y/\y<=1000000->Cc 35 [.i x,.i y,.i 0] [.i (2*x+1),.i (2*y+1),.i (2*x),.i (2*y),.i (2*x+2),.i (2*y)])/\(∀ {x y:Int},-1000000<=x/\x<=1000000/\-1000000<=y/\y<=1000000->Cc 35 [.i x,.i y,.i 1] [.i (2*x+1),.i (2*y+1),.i (2*x+2),.i (2*y+2),.i (2*x+2),.i (2*y)])/\(∀ {x y:Int},-1000000<=x/\x<=1000000/\-1000000<=y/\y<=1000000->Cc 35 [.i x,.i y,.i 2] [.i (2*x+1),.i (2*y+1),.i (2*x+2),.i (2*y+2),.i (2*x),.i (2*y+2)])/\(∀ {x y:Int},-1000000<=x/\x<=1000000/\-1000000<=y/\y<=1000000->Cc 35 [.i x,.i y,.i 3] [.i (2*x+1),.i (2*y+1),.i (2*x),.i (2*y),.i (2*x),.i (2*y+2)]):=by
  refine⟨?_,?_,?_,?_⟩
  all_goals
    intro x y h
    refine q35 rfl ?_;unfold f35;simp only[qxh]
    repeat (first|simp(disch:=omega)only[↓qXX]|refine p_pk ?_)
    (try simp only[qaV,Lf.i.injEq,and_true,true_and]);(try omega)
def jf:(∀ {m n p q c d:Int},m%2=1/\n%2=1/\-1000000<=m/\m<=1000000/\-1000000<=n/\n<=1000000/\p=m - 1/\q=n - 1/\c=m+1/\d=n - 1->Cc 37 [.i m,.i n,.i p,.i q,.i c,.i d] [.i ((m - 1) / 2),.i ((n - 1) / 2),.i 0])/\(∀ {m n p q c d:Int},m%2=1/\n%2=1/\-1000000<=m/\m<=1000000/\-1000000<=n/\n<=1000000/\p=m+1/\q=n - 1/\c=m - 1/\d=n - 1->Cc 37 [.i m,.i n,.i p,.i q,.i c,.i d] [.i ((m - 1) / 2),.i ((n - 1) / 2),.i 0])/\(∀ {m n p q c d:Int},m%2=1/\n%2=1/\-1000000<=m/\m<=1000000/\-1000000<=n/\n<=1000000/\p=m+1/\q=n+1/\c=m+1/\d=n - 1->Cc 37 [.i m,.i n,.i p,.i q,.i c,.i d] [.i ((m - 1) / 2),.i ((n - 1) / 2),.i 1])/\(∀ {m n p q c d:Int},m%2=1/\n%2=1/\-1000000<=m/\m<=1000000/\-1000000<=n/\n<=1000000/\p=m+1/\q=n - 1/\c=m+1/\d=n+1->Cc 37 [.i m,.i n,.i p,.i q,.i c,.i d] [.i ((m - 1) / 2),.i ((n - 1) / 2),.i 1])/\(∀ {m n p q c d:Int},m%2=1/\n%2=1/\-1000000<=m/\m<=1000000/\-1000000<=n/\n<=1000000/\p=m+1/\q=n+1/\c=m - 1/\d=n+1->Cc 37 [.i m,.i n,.i p,.i q,.i c,.i d] [.i ((m - 1) / 2),.i ((n - 1) / 2),.i 2])/\(∀ {m n p q c d:Int},m%2=1/\n%2=1/\-1000000<=m/\m<=1000000/\-1000000<=n/\n<=1000000/\p=m - 1/\q=n+1/\c=m+1/\d=n+1->Cc 37 [.i m,.i n,.i p,.i q,.i c,.i d] [.i ((m - 1) / 2),.i ((n - 1) / 2),.i 2])/\(∀ {m n p q c d:Int},m%2=1/\n%2=1/\-1000000<=m/\m<=1000000/\-1000000<=n/\n<=1000000/\p=m - 1/\q=n - 1/\c=m - 1/\d=n+1->Cc 37 [.i m,.i n,.i p,.i q,.i c,.i d] [.i ((m - 1) / 2),.i ((n - 1) / 2),.i 3])/\(∀ {m n p q c d:Int},m%2=1/\n%2=1/\-1000000<=m/\m<=1000000/\-1000000<=n/\n<=1000000/\p=m - 1/\q=n+1/\c=m - 1/\d=n - 1->Cc 37 [.i m,.i n,.i p,.i q,.i c,.i d] [.i ((m - 1) / 2),.i ((n - 1) / 2),.i 3]):=by
  refine⟨?_,?_,?_,?_,?_,?_,?_,?_⟩
  all_goals
    intro m n p q c d h
    refine q37 rfl ?_;unfold f37;simp only[qxh]
    rcases qcn 0 m with hm|hm<;>rcases qcn 0 n with hn|hn
    all_goals
      (repeat (first|simp(disch:=omega)only[↓qXX]|refine p_pk ?_|refine uD 5 ?_|refine af (gV.1 (by omega)) ?_|refine af (gV.2.1 (by omega)) ?_|refine af (gV.2.2.1 (by omega)) ?_|refine af (gV.2.2.2 (by omega)) ?_);(try simp only[qaV,Lf.i.injEq,and_true,true_and]);(try omega))
def iH:(∀ {m n x y:Int},-1000000<=m/\m<=1000000/\-1000000<=n/\n<=1000000/\-1000000<=x/\x<=1000000/\-1000000<=y/\y<=1000000->Cc 71 [.i 0,.i m,.i n,.i x,.i y] [.i (x+2*m),.i (y+2*n)])/\(∀ {m n x y:Int},-1000000<=m/\m<=1000000/\-1000000<=n/\n<=1000000/\-1000000<=x/\x<=1000000/\-1000000<=y/\y<=1000000->Cc 71 [.i 1,.i m,.i n,.i x,.i y] [.i (-(y)+2*m),.i (x+2*n)])/\(∀ {m n x y:Int},-1000000<=m/\m<=1000000/\-1000000<=n/\n<=1000000/\-1000000<=x/\x<=1000000/\-1000000<=y/\y<=1000000->Cc 71 [.i 2,.i m,.i n,.i x,.i y] [.i (-(x)+2*m),.i (-(y)+2*n)])/\(∀ {m n x y:Int},-1000000<=m/\m<=1000000/\-1000000<=n/\n<=1000000/\-1000000<=x/\x<=1000000/\-1000000<=y/\y<=1000000->Cc 71 [.i 3,.i m,.i n,.i x,.i y] [.i (y+2*m),.i (-(x)+2*n)])/\(∀ {m n x y:Int},-1000000<=m/\m<=1000000/\-1000000<=n/\n<=1000000/\-1000000<=x/\x<=1000000/\-1000000<=y/\y<=1000000->Cc 71 [.i 4,.i m,.i n,.i x,.i y] [.i (-(x)+2*m),.i (y+2*n)])/\(∀ {m n x y:Int},-1000000<=m/\m<=1000000/\-1000000<=n/\n<=1000000/\-1000000<=x/\x<=1000000/\-1000000<=y/\y<=1000000->Cc 71 [.i 5,.i m,.i n,.i x,.i y] [.i (-(y)+2*m),.i (-(x)+2*n)])/\(∀ {m n x y:Int},-1000000<=m/\m<=1000000/\-1000000<=n/\n<=1000000/\-1000000<=x/\x<=1000000/\-1000000<=y/\y<=1000000->Cc 71 [.i 6,.i m,.i n,.i x,.i y] [.i (x+2*m),.i (-(y)+2*n)])/\(∀ {m n x y:Int},-1000000<=m/\m<=1000000/\-1000000<=n/\n<=1000000/\-1000000<=x/\x<=1000000/\-1000000<=y/\y<=1000000->Cc 71 [.i 7,.i m,.i n,.i x,.i y] [.i (y+2*m),.i (x+2*n)]):=by
  refine⟨?_,?_,?_,?_,?_,?_,?_,?_⟩
  all_goals
    intro m n x y h
    refine q71 rfl ?_;unfold f71;simp only[qxh]
    repeat (first|simp(disch:=omega)only[↓qXX])
    (try simp only[qaV,Lf.i.injEq,and_true,true_and]);(try omega)
def eqs2{a b c d:Int}{t:Bool}{K:Tn}(h:t=(decide (a=c)&&decide (b=d))):P1.eqs [(.i a,.i c),(.i b,.i d)] (@hid _ ⟨K⟩)=K t:=by
  show K (ch _)=K t
  have e:ch [(.i a,.i c),(.i b,.i d)]=t:=by
    rw[h,qbM]
    simp[ch,gY]
  rw[e]
def eB{f:TQ}{ls rs rs':TE}(h:Cc f ls rs)(e:rs=rs'):Cc f ls rs':=e▸h
def dH{m:Mv}(ht:m.1<8){x y:Int}(h:-100000<=m.2.1/\m.2.1<=100000/\-100000<=m.2.2/\m.2.2<=100000/\-100000<=x/\x<=100000/\-100000<=y/\y<=100000):Cc 71 (mvl m++[.i x,.i y]) [.i (ptM m x y).1,.i (ptM m x y).2]:=by
  obtain⟨t,mx,my⟩:=m
  simp only at ht h
  rcases t8 ht with rfl|rfl|rfl|rfl|rfl|rfl|rfl|rfl
  · exact eB (iH.1 (m:=mx) (n:=my) (x:=x) (y:=y) (by omega)) (by simp[ptM,mA,mB,mC,mD];try omega)
  · exact eB (iH.2.1 (m:=mx) (n:=my) (x:=x) (y:=y) (by omega)) (by simp[ptM,mA,mB,mC,mD];try omega)
  · exact eB (iH.2.2.1 (m:=mx) (n:=my) (x:=x) (y:=y) (by omega)) (by simp[ptM,mA,mB,mC,mD];try omega)
  · exact eB (iH.2.2.2.1 (m:=mx) (n:=my) (x:=x) (y:=y) (by omega)) (by simp[ptM,mA,mB,mC,mD];try omega)
  · exact eB (iH.2.2.2.2.1 (m:=mx) (n:=my) (x:=x) (y:=y) (by omega)) (by simp[ptM,mA,mB,mC,mD];try omega)
  · exact eB (iH.2.2.2.2.2.1 (m:=mx) (n:=my) (x:=x) (y:=y) (by omega)) (by simp[ptM,mA,mB,mC,mD];try omega)
  · exact eB (iH.2.2.2.2.2.2.1 (m:=mx) (n:=my) (x:=x) (y:=y) (by omega)) (by simp[ptM,mA,mB,mC,mD];try omega)
  · exact eB (iH.2.2.2.2.2.2.2 (m:=mx) (n:=my) (x:=x) (y:=y) (by omega)) (by simp[ptM,mA,mB,mC,mD];try omega)
def mat_ne:((List.range 8).all λs=>(List.range 8).all λt=>Nat.beq s t || !(decide (mA s=mA t)&&decide (mC s=mC t)&&(decide (mB s=mB t)&&decide (mD s=mD t))))=true:=by decide +kernel
def rtold_c{m:Mv}(hm:okM 40000 m):Cc 72 [.i (ptM m 0 0).1,.i (ptM m 0 0).2,.i (ptM m 2 0).1,.i (ptM m 2 0).2,.i (ptM m 0 2).1,.i (ptM m 0 2).2] (mvl m):=by
  obtain⟨t,mx,my⟩:=m
  have ht:t<8:=hm.1
  have hm':=hm.2
  simp only at hm'
  have e1:(ptM (t,mx,my) 0 0).1=2*mx:=by simp[ptM]
  have e2:(ptM (t,mx,my) 0 0).2=2*my:=by simp[ptM]
  refine q72 rfl ?_;unfold f72;simp only[qxh]
  refine p_x ?_
  refine bz 8 (λj (_:Unit)=>[.i (Int.ofNat j)]) (λ_ _=>[]) (λj _=>j<=t) (j0:=0) (s0:=()) rfl rfl (by omega) (qaS _) ?_
  rintro j _ hj8 hjt self hself
  refine p_x ?_
  rw[p_lss_t (by show((j:Nat):Int)<8;omega)]
  refine p_x ?_
  rw[e1,e2]
  try simp(disch:=omega)only[↓qXX]
  rw[show 2*mx / 2=mx by omega,show 2*my / 2=my by omega]
  have hadd:∀K:Int->Prop,P1.ari .add .u8 (Int.ofNat j) 1 (@hid _ ⟨K⟩)=K (Int.ofNat j+1):=λK=>p_add8 (by show(0:Int)<=(j:Int)+1;omega) (by show(j:Int)+1<=255;omega)
  refine af (dH (m:=(j,mx,my)) (by show j<8;omega) (x:=2) (y:=0) (by simp only;omega)) ?_
  refine p_x ?_
  have n1:∀s:Nat,((ptM (s,mx,my) 2 0).1=2*mA s+2*mx)/\((ptM (s,mx,my) 2 0).2=2*mC s+2*my)/\((ptM (s,mx,my) 0 2).1=2*mB s+2*mx)/\((ptM (s,mx,my) 0 2).2=2*mD s+2*my):=λs=>by
    simp[ptM];omega
  have nj:=n1 j
  have nt:=n1 t
  rw[eqs2 rfl]
  by_cases hjt2:j=t
  · subst hjt2
    rw[qd6 rfl,qd6 rfl]
    repeat (first|simp(disch:=omega)only[↓qXX,qdz]|refine af (dH (m:=(j,mx,my)) (by show j<8;omega) (x:=0) (y:=2) (by simp only;omega)) ?_)
    try rw[eqs2 rfl,qd6 rfl,qd6 rfl]
    try simp(disch:=omega)only[↓qXX,qdz]
    refine af (dH (m:=(j,mx,my)) (by show j<8;omega) (x:=0) (y:=0) (by simp only;omega)) ?_
    simp(disch:=omega)only[↓qXX]
    try rw[e1,e2]
    try rw[eqs2 rfl,qd6 rfl,qd6 rfl]
    try simp(disch:=omega)only[↓qXX,qdz]
  · have hne:=qab.1 (qab.1 mat_ne j (qae.2 (by omega))) t (qae.2 ht)
    have hb:Nat.beq j t=false:=by
      cases h:Nat.beq j t with
      |true=>exact absurd (qac h) hjt2
      |false=>rfl
    rw[hb]at hne
    by_cases h1:mA j=mA t/\mC j=mC t
    · rw[qd6 (by omega),qd6 (by omega)]
      repeat (first|simp(disch:=omega)only[↓qXX,qdz]|refine af (dH (m:=(j,mx,my)) (by show j<8;omega) (x:=0) (y:=2) (by simp only;omega)) ?_)
      rw[eqs2 rfl]
      have h2:¬(mB j=mB t/\mD j=mD t):=λh2=>by
        simp[h1.1,h1.2,h2.1,h2.2]at hne
      have h3:(decide ((ptM (j,mx,my) 0 2).1=(ptM (t,mx,my) 0 2).1)&&decide ((ptM (j,mx,my) 0 2).2=(ptM (t,mx,my) 0 2).2))=false:=by
        rw[qcY]
        intro h
        simp only[qaa,qd4]at h
        exact h2 (by omega)
      rw[h3]
      refine p_x ?_
      rw[hadd]
      exact hself () (by omega) (by omega)
    · have h3:(decide ((ptM (j,mx,my) 2 0).1=(ptM (t,mx,my) 2 0).1)&&decide ((ptM (j,mx,my) 2 0).2=(ptM (t,mx,my) 2 0).2))=false:=by
        rw[qcY]
        intro h
        simp only[qaa,qd4]at h
        exact h1 (by omega)
      rw[h3]
      refine p_x ?_
      rw[hadd]
      exact hself () (by omega) (by omega)
def vZ{a b:Mv}(ha:a.1<8)(hb:b.1<8)(x y:Int):ptM b (ptM a x y).1 (ptM a x y).2=ptM (aG a b) x y:=by
  obtain⟨at',ax,ay⟩:=a
  obtain⟨bt,bx,by'⟩:=b
  simp only at ha hb
  unfold ptM aG
  rcases t8 ha with rfl|rfl|rfl|rfl|rfl|rfl|rfl|rfl<;>rcases t8 hb with rfl|rfl|rfl|rfl|rfl|rfl|rfl|rfl<;>
    (refine qdj ?_ ?_<;>simp[mulT,mA,mB,mC,mD]<;>omega)
def pt_rng{m:Mv}{n:Int}(hm:okM n m){x y k:Int}(h:-k<=x/\x<=k/\-k<=y/\y<=k):-(2*n+k)<=(ptM m x y).1/\(ptM m x y).1<=2*n+k/\-(2*n+k)<=(ptM m x y).2/\(ptM m x y).2<=2*n+k:=by
  have h1:=vN hm.1 h
  have h2:=hm.2
  unfold ptM
  simp only
  omega
def rthen_c{a b:Mv}{n k:Int}(ha:okM n a)(hb:okM k b)(hn:0<=n/\0<=k/\n+k<=40000):Cc 44 (mvl a++mvl b) (mvl (aG a b)):=by
  have h0:=br (cq ha hb) hn.2.2
  have ht:=rtold_c h0
  rw[←vZ ha.1 hb.1,←vZ ha.1 hb.1,←vZ ha.1 hb.1]at ht
  have r0:=pt_rng ha (x:=0) (y:=0) (k:=2) (by omega)
  have r1:=pt_rng ha (x:=2) (y:=0) (k:=2) (by omega)
  have r2:=pt_rng ha (x:=0) (y:=2) (k:=2) (by omega)
  have a2:=ha.2
  have b2:=hb.2
  refine q44 rfl ?_;unfold f44;simp only[qxh]
  simp only[mvl,qaI,qaG]
  repeat (first|simp(disch:=omega)only[↓qXX]|refine af (dH ha.1 (x:=0) (y:=0) (by omega)) ?_|refine af (dH hb.1 (by omega)) ?_|refine af (dH ha.1 (x:=2) (y:=0) (by omega)) ?_|refine af (dH ha.1 (x:=0) (y:=2) (by omega)) ?_)
  refine af ht ?_
  simp only[mvl]
  simp(disch:=omega)only[↓qXX]
def wg{l:Ln}(hl:1<=l.1/\l.1<=4)(hc:-100<=l.2/\l.2<=100){x y:Int}(h:-100<=x/\x<=100/\-100<=y/\y<=100):Cc 36 [.i (Int.ofNat l.1),.i l.2,.i x,.i y] [.i (ptM (ofM l) x y).1,.i (ptM (ofM l) x y).2]:=by
  obtain⟨k,c⟩:=l
  simp only at hl hc
  obtain rfl|rfl|rfl|rfl:k=1∨k=2∨k=3∨k=4:=by omega
  · exact eB (uP.1 (c:=c) (x:=x) (y:=y) (by omega)) (by simp[ptM,ofM,mA,mB,mC,mD];try omega)
  · exact eB (uP.2.1 (c:=c) (x:=x) (y:=y) (by omega)) (by simp[ptM,ofM,mA,mB,mC,mD];try omega)
  · exact eB (uP.2.2.1 (c:=c) (x:=x) (y:=y) (by omega)) (by simp[ptM,ofM,mA,mB,mC,mD];try omega)
  · exact eB (uP.2.2.2 (c:=c) (x:=x) (y:=y) (by omega)) (by simp[ptM,ofM,mA,mB,mC,mD];try omega)
def rof_c{l:Ln}(hl:1<=l.1/\l.1<=4)(hc:-100<=l.2/\l.2<=100):Cc 45 [.i (Int.ofNat l.1),.i l.2] (mvl (ofM l)):=by
  have ht:=rtold_c (br (qw hc) (by omega))
  refine q45 rfl ?_;unfold f45;simp only[qxh]
  repeat (first|simp(disch:=omega)only[↓qXX]|refine af (wg hl hc (x:=0) (y:=0) (by omega)) ?_|refine af (wg hl hc (x:=2) (y:=0) (by omega)) ?_|refine af (wg hl hc (x:=0) (y:=2) (by omega)) ?_)
  refine af ht ?_
  simp only[mvl]
  simp(disch:=omega)only[↓qXX]
def o1x(q:Nat):Int:=[0,2,2,0].getD q 0
def o2x(q:Nat):Int:=[2,2,0,0].getD q 0
def o2y(q:Nat):Int:=[0,0,2,2].getD q 0
def q4{q:Nat}(h:q<4):q=0∨q=1∨q=2∨q=3:=by omega
def we{c:Cl}(h:-100000<=c.1/\c.1<=100000/\-100000<=c.2.1/\c.2.1<=100000/\c.2.2<4):Cc 35 (cll c) [.i (2*c.1+1),.i (2*c.2.1+1),.i (2*c.1+o1x c.2.2),.i (2*c.2.1+o1x c.2.2),.i (2*c.1+o2x c.2.2),.i (2*c.2.1+o2y c.2.2)]:=by
  obtain⟨x,y,q⟩:=c
  simp only at h
  rcases q4 h.2.2.2.2 with rfl|rfl|rfl|rfl
  · exact eB (gV.1 (x:=x) (y:=y) (by omega)) (by simp[o1x,o2x,o2y])
  · exact eB (gV.2.1 (x:=x) (y:=y) (by omega)) (by simp[o1x,o2x,o2y])
  · exact eB (gV.2.2.1 (x:=x) (y:=y) (by omega)) (by simp[o1x,o2x,o2y])
  · exact eB (gV.2.2.2 (x:=x) (y:=y) (by omega)) (by simp[o1x,o2x,o2y])
def rwith_c{c:Cl}(h:-50000<=c.1/\c.1<=50000/\-50000<=c.2.1/\c.2.1<=50000/\c.2.2<4){X Y a b d e:Int}(hX:X=2*c.1+1)(hY:Y=2*c.2.1+1)
    (hc:(a=2*c.1+o1x c.2.2/\b=2*c.2.1+o1x c.2.2/\d=2*c.1+o2x c.2.2/\e=2*c.2.1+o2y c.2.2)∨(d=2*c.1+o1x c.2.2/\e=2*c.2.1+o1x c.2.2/\a=2*c.1+o2x c.2.2/\b=2*c.2.1+o2y c.2.2)) :
    Cc 37 [.i X,.i Y,.i a,.i b,.i d,.i e] (cll c):=by
  obtain⟨x,y,q⟩:=c
  simp only at h hX hY
  have ex:(X - 1) / 2=x:=by omega
  have ey:(Y - 1) / 2=y:=by omega
  rcases q4 h.2.2.2.2 with rfl|rfl|rfl|rfl
  all_goals
    simp[o1x,o2x,o2y]at hc
    rcases hc with hc|hc
  · exact eB (jf.1 (m:=X) (n:=Y) (p:=a) (q:=b) (c:=d) (d:=e) (by omega)) (by rw[ex,ey];rfl)
  · exact eB (jf.2.1 (m:=X) (n:=Y) (p:=a) (q:=b) (c:=d) (d:=e) (by omega)) (by rw[ex,ey];rfl)
  · exact eB (jf.2.2.1 (m:=X) (n:=Y) (p:=a) (q:=b) (c:=d) (d:=e) (by omega)) (by rw[ex,ey];rfl)
  · exact eB (jf.2.2.2.1 (m:=X) (n:=Y) (p:=a) (q:=b) (c:=d) (d:=e) (by omega)) (by rw[ex,ey];rfl)
  · exact eB (jf.2.2.2.2.1 (m:=X) (n:=Y) (p:=a) (q:=b) (c:=d) (d:=e) (by omega)) (by rw[ex,ey];rfl)
  · exact eB (jf.2.2.2.2.2.1 (m:=X) (n:=Y) (p:=a) (q:=b) (c:=d) (d:=e) (by omega)) (by rw[ex,ey];rfl)
  · exact eB (jf.2.2.2.2.2.2.1 (m:=X) (n:=Y) (p:=a) (q:=b) (c:=d) (d:=e) (by omega)) (by rw[ex,ey];rfl)
  · exact eB (jf.2.2.2.2.2.2.2 (m:=X) (n:=Y) (p:=a) (q:=b) (c:=d) (d:=e) (by omega)) (by rw[ex,ey];rfl)
def corn_move{m:Mv}(hm:m.1<8){c:Cl}(hq:c.2.2<4) :
    (ptM m (2*c.1+1) (2*c.2.1+1)).1=2*(aZ m c).1+1/\(ptM m (2*c.1+1) (2*c.2.1+1)).2=2*(aZ m c).2.1+1/\
    (((ptM m (2*c.1+o1x c.2.2) (2*c.2.1+o1x c.2.2)).1=2*(aZ m c).1+o1x (aZ m c).2.2/\(ptM m (2*c.1+o1x c.2.2) (2*c.2.1+o1x c.2.2)).2=2*(aZ m c).2.1+o1x (aZ m c).2.2/\(ptM m (2*c.1+o2x c.2.2) (2*c.2.1+o2y c.2.2)).1=2*(aZ m c).1+o2x (aZ m c).2.2/\(ptM m (2*c.1+o2x c.2.2) (2*c.2.1+o2y c.2.2)).2=2*(aZ m c).2.1+o2y (aZ m c).2.2)∨
     ((ptM m (2*c.1+o2x c.2.2) (2*c.2.1+o2y c.2.2)).1=2*(aZ m c).1+o1x (aZ m c).2.2/\(ptM m (2*c.1+o2x c.2.2) (2*c.2.1+o2y c.2.2)).2=2*(aZ m c).2.1+o1x (aZ m c).2.2/\(ptM m (2*c.1+o1x c.2.2) (2*c.2.1+o1x c.2.2)).1=2*(aZ m c).1+o2x (aZ m c).2.2/\(ptM m (2*c.1+o1x c.2.2) (2*c.2.1+o1x c.2.2)).2=2*(aZ m c).2.1+o2y (aZ m c).2.2)):=by
  obtain⟨t,mx,my⟩:=m
  obtain⟨x,y,q⟩:=c
  simp only at hm hq
  rcases t8 hm with rfl|rfl|rfl|rfl|rfl|rfl|rfl|rfl<;>rcases q4 hq with rfl|rfl|rfl|rfl<;>
    (simp[ptM,aZ,qT,mA,mB,mC,mD,o1x,o2x,o2y];omega)
def rmove_c{m:Mv}(hm:okM 40000 m){c:Cl}(h:-100<=c.1/\c.1<=100/\-100<=c.2.1/\c.2.1<=100/\c.2.2<4):Cc 43 (mvl m++cll c) (cll (aZ m c)):=by
  obtain⟨k1,k2,k3⟩:=corn_move hm.1 (c:=c) h.2.2.2.2
  have hr:=fp hm (k:=100) ⟨h.1,h.2.1,h.2.2.1,h.2.2.2.1⟩
  have hm2:=hm.2
  have p1:0<=o1x c.2.2/\o1x c.2.2<=2/\0<=o2x c.2.2/\o2x c.2.2<=2/\0<=o2y c.2.2/\o2y c.2.2<=2:=by
    rcases q4 h.2.2.2.2 with hq|hq|hq|hq<;>rw[hq]<;>decide
  refine q43 rfl ?_;unfold f43;simp only[qxh]
  simp only[mvl,qaI,qaG]
  repeat (first|simp(disch:=omega)only[↓qXX]|refine af (we (c:=c) ⟨by omega,by omega,by omega,by omega,h.2.2.2.2⟩) ?_)
  have w0:=dH hm.1 (x:=2*c.1+1) (y:=2*c.2.1+1) (by omega)
  have w1:=dH hm.1 (x:=2*c.1+o1x c.2.2) (y:=2*c.2.1+o1x c.2.2) (by omega)
  have w2:=dH hm.1 (x:=2*c.1+o2x c.2.2) (y:=2*c.2.1+o2y c.2.2) (by omega)
  have w3:=rwith_c (c:=aZ m c) ⟨by omega,by omega,by omega,by omega,hr.2.2.2.2⟩ k1 k2 k3
  repeat (first|simp(disch:=omega)only[↓qXX]|refine p_pk ?_|refine uD 4 ?_|refine af w0 ?_|refine af w1 ?_|refine af w2 ?_|refine af w3 ?_)
  try rfl
def rside_c{l:Ln}(hl:1<=l.1/\l.1<=4)(hc:-100<=l.2/\l.2<=100){c:Cl}(h:-2000<=c.1/\c.1<=2000/\-2000<=c.2.1/\c.2.1<=2000/\c.2.2<4):Cc 42 ([.i (Int.ofNat l.1),.i l.2]++cll c) [.i (if ee l c then 1 else 0)]:=by
  have hk:=we (c:=c) ⟨by omega,by omega,by omega,by omega,h.2.2.2.2⟩
  obtain⟨k,n⟩:=l
  obtain⟨x,y,q⟩:=c
  simp only at hl hc h
  refine q42 rfl ?_;unfold f42;simp only[qxh]
  simp only[cll,qaI,qaG]
  repeat (first|simp(disch:=omega)only[↓qXX]|refine af hk ?_)
  have p1:0<=o1x q/\o1x q<=2/\0<=o2x q/\o2x q<=2/\0<=o2y q/\o2y q<=2:=by
    rcases q4 h.2.2.2.2 with hq|hq|hq|hq<;>rw[hq]<;>decide
  have hq:=h.2.2.2.2
  obtain rfl|rfl|rfl|rfl:k=1∨k=2∨k=3∨k=4:=by omega
  · refine af (farA.1 (by omega)) ?_
    repeat (first|simp(disch:=omega)only[↓qXX]|refine af (farA.1 (by omega)) ?_)
    have key:(0<2*x+1 - 2*n+(2*x+o1x q - 2*n)+(2*x+o2x q - 2*n))↔ee (1,n) (x,y,q)=true:=by
      rcases q4 hq with rfl|rfl|rfl|rfl<;>simp[o1x,o2x,o2y,ee]<;>omega
    by_cases hs:ee (1,n) (x,y,q)=true
    · have:=key.2 hs
      rw[p_gtr_t (by omega)]
      refine p_x ?_
      rw[qd7 hs]
    · have:¬_:=λh=>hs (key.1 h)
      rw[p_gtr_f (by omega)]
      refine p_x ?_
      rw[qd8 hs]
  · refine af (farA.2.1 (by omega)) ?_
    repeat (first|simp(disch:=omega)only[↓qXX]|refine af (farA.2.1 (by omega)) ?_)
    have key:(0<2*y+1 - 2*n+(2*y+o1x q - 2*n)+(2*y+o2y q - 2*n))↔ee (2,n) (x,y,q)=true:=by
      rcases q4 hq with rfl|rfl|rfl|rfl<;>simp[o1x,o2x,o2y,ee]<;>omega
    by_cases hs:ee (2,n) (x,y,q)=true
    · have:=key.2 hs
      rw[p_gtr_t (by omega)]
      refine p_x ?_
      rw[qd7 hs]
    · have:¬_:=λh=>hs (key.1 h)
      rw[p_gtr_f (by omega)]
      refine p_x ?_
      rw[qd8 hs]
  · refine af (farA.2.2.1 (by omega)) ?_
    repeat (first|simp(disch:=omega)only[↓qXX]|refine af (farA.2.2.1 (by omega)) ?_)
    have key:(0<2*x+1+(2*y+1) - 2*n+(2*x+o1x q+(2*y+o1x q) - 2*n)+(2*x+o2x q+(2*y+o2y q) - 2*n))↔ee (3,n) (x,y,q)=true:=by
      rcases q4 hq with rfl|rfl|rfl|rfl<;>simp[o1x,o2x,o2y,ee]<;>omega
    by_cases hs:ee (3,n) (x,y,q)=true
    · have:=key.2 hs
      rw[p_gtr_t (by omega)]
      refine p_x ?_
      rw[qd7 hs]
    · have:¬_:=λh=>hs (key.1 h)
      rw[p_gtr_f (by omega)]
      refine p_x ?_
      rw[qd8 hs]
  · refine af (farA.2.2.2 (by omega)) ?_
    repeat (first|simp(disch:=omega)only[↓qXX]|refine af (farA.2.2.2 (by omega)) ?_)
    have key:(0<2*y+1 - (2*x+1) - 2*n+(2*y+o1x q - (2*x+o1x q) - 2*n)+(2*y+o2y q - (2*x+o2x q) - 2*n))↔ee (4,n) (x,y,q)=true:=by
      rcases q4 hq with rfl|rfl|rfl|rfl<;>simp[o1x,o2x,o2y,ee]<;>omega
    by_cases hs:ee (4,n) (x,y,q)=true
    · have:=key.2 hs
      rw[p_gtr_t (by omega)]
      refine p_x ?_
      rw[qd7 hs]
    · have:¬_:=λh=>hs (key.1 h)
      rw[p_gtr_f (by omega)]
      refine p_x ?_
      rw[qd8 hs]
def ltU(c:Crs)(a b:Int):Bool:=decide (c.1<a)||(decide (c.1=a)&&decide (c.2.1<b))
def lu{c:Crs}{a b:Int}:ltU c a b=true↔c.1<a∨(c.1=a/\c.2.1<b):=by
 simp only[ltU,qaP,qaa,qd4]
def order_u{c:Crs}{a b:Int}(h:0<=c.1/\c.1<=1000/\0<=a/\a<=1000/\0<=c.2.1/\c.2.1<=255/\0<=b/\b<=255):∃d:Int,Cc 52 [.i c.1,.i c.2.1,.i a,.i b] [.i d]/\(d<0↔ltU c a b=true)/\(d=0↔c.1=a/\c.2.1=b):=by
 by_cases h1:c.1=a
 ·refine⟨c.2.1 - b,?_,by rw[lu];omega,by omega⟩
  refine q52 rfl ?_;unfold f52;simp only[qxh]
  simp(disch:=omega)only[↓qXX]
 ·refine⟨c.1 - a,?_,by rw[lu];omega,by omega⟩
  refine q52 rfl ?_;unfold f52;simp only[qxh]
  simp(disch:=omega)only[↓qXX]
def find1_c{c:Crs}{a b:Int}(h:0<=c.1/\c.1<=1000/\0<=a/\a<=1000/\0<=c.2.1/\c.2.1<=255/\0<=b/\b<=255):∃d:Int,Cc 173 [.i c.1,.i c.2.1,.i c.2.2,.i a,.i b] [.i d]/\(d<0↔ltU c a b=true)/\(d=0↔c.1=a/\c.2.1=b):=by
 obtain⟨d,hd,h1,h2⟩:=order_u h
 refine⟨d,?_,h1,h2⟩
 refine q173 rfl ?_;unfold f173;simp only[qxh]
 repeat (first|simp(disch:=omega)only[↓qXX]|refine af (yv c) ?_|refine af hd ?_)
abbrev cloF:Value:=.func (.func 173) ⟨[]⟩ ⟨[]⟩
def goodF1:aT cloF=true:=rfl
def p_half{a:Int}{K:Tu}(h0:0<=a)(hk:K (a / 2)):P1.shf .shr .u64 a .u64 1 (@hid _ ⟨K⟩):=by
 refine s_shf (oZ 0) (K:=λn=>if n=a / 2 then yes else none) (λn hn=>?_) ?_
 ·by_cases e:n=a / 2
  ·rw[e];exact hk
  ·simp only[qd8 e]at hn;cases hn
 ·have e0:∀(K:Int->RT),(BA ac aa (runF 0)).shf .shr .u64 a .u64 1 K=shfB .shr .u64 a .u64 1 K:=λ_=>rfl
  rw[e0]
  have e1:leZ 0 1=true:=rfl
  unfold shfB
  rw[e1]
  simp only
  rw[jv]
  have:a.fdiv (2 ^ min (1:Int).toNat IntKind.u64.bits)=a / 2:=by
   show a.fdiv 2=a / 2
   exact Int.fdiv_eq_ediv_of_nonneg a (by omega)
  rw[this,qd7 rfl]
def vW{a:Int}{K:Tu}(h1:0<=a)(h2:a<=9223372036854775807)(hk:K a):P1.conv .u64 a (@hid _ ⟨K⟩):=by
 show K (IntKind.wrap .u64 a)
 have:IntKind.wrap .u64 a=a:=by
  simp only[IntKind.wrap,IntKind.bits,IntKind.signed,qdY,qaq,if_false]
  omega
 rw[this];exact hk
def rngC(c:Crs):Prop:=0<=c.1/\c.1<=1000/\0<=c.2.1/\c.2.1<=255/\0<=c.2.2/\c.2.2<=255
def At(l:TA)(a b:Int)(i:Nat):Prop:=i<=l.length/\(∀(k:Nat) c,l[k]?=some c->k<i->ltU c a b=true)/\∀(k:Nat) c,l[k]?=some c->i<=k->ltU c a b=false
def isAt(l:TA)(a b:Int)(i:Nat):Bool:=match l[i]? with
 |some c=>decide (c.1=a)&&decide (c.2.1=b)
 |none=>false
def asc_le{l:TA}(h:ascC l=true):∀(n i:Nat) a b,l[i]?=some a->l[i+n+1]?=some b->ltC a b=true
 |0,i,a,b,ha,hb=>jR.1 h i a b ha hb
 |n+1,i,a,b,ha,hb=>by
  obtain⟨c,hc⟩:=aK (l:=l) (i:=i+n+1) (by have:=aM hb;omega)
  have h1:=asc_le h n i a c ha hc
  have h2:=jR.1 h (i+n+1) c b hc (by rw[show i+n+1+1=i+(n+1)+1 by omega];exact hb)
  simp only[ltC,qaP,qaa,qd4]at h1 h2 ⊢
  omega
def asc_lt{l:TA}(h:ascC l=true){i j:Nat}{a b:Crs}(hij:i<j)(ha:l[i]?=some a)(hb:l[j]?=some b):ltC a b=true:=
 asc_le h (j - i - 1) i a b ha (by rw[show i+(j - i - 1)+1=j by omega];exact hb)
def bin_c{h:HL}{x:Value}{l:TA}(hl:LsH h x 3 encC l)(hk:∀c∈l,rngC c)(hn:l.length<=1000)(hasc:ascC l=true){a b:Int}(hu:0<=a/\a<=1000/\0<=b/\b<=255) :
  ∃i:Nat,At l a b i/\aw cc ac 172 [.v x,.i a,.i b,.v cloF] (absH aa h) [.i (Int.ofNat i),.b (isAt l a b i)] (absH aa h):=by
 obtain⟨rs,h',h1,i,rfl,rfl,h2⟩:=x172 (K:=λrs h'=>∃i:Nat,rs=[.i (Int.ofNat i),.b (isAt l a b i)]/\h'=h/\At l a b i) (H:=h) (glsV hl.good (glsI (glsI (glsV goodF1 gls0)))) (by
  unfold f172;simp only[qxh]
  refine p_x ?_
  refine bv hl ?_
  refine cY (m:=l.length) (λm ls h'=>∃i j:Nat,ls=[.i (Int.ofNat i),.i (Int.ofNat j)]/\h'=h/\i<=j/\j<=l.length/\m=j - i/\(∀(k:Nat) c,l[k]?=some c->k<i->ltU c a b=true)/\∀(k:Nat) c,l[k]?=some c->j<=k->ltU c a b=false) ⟨0,l.length,rfl,rfl,by omega,by omega,by omega,λk c _ hk=>by omega,λk c hc hk=>by have:=aM hc;omega⟩ ?_
  rintro m ls h' ⟨i,j,rfl,rfl,hij,hj,rfl,hlo,hhi⟩ self hself
  refine hidL ?_
  refine p_x ?_
  by_cases hlt:i<j
  ·rw[aU hlt]
   refine p_x ?_
   rw[p_add (by show -9223372036854775808<=(i:Int)+j;omega) (by show(i:Int)+j<=9223372036854775807;omega)]
   refine vW (by show 0<=(i:Int)+j;omega) (by show(i:Int)+j<=9223372036854775807;omega) ?_
   refine p_half (by show 0<=(i:Int)+j;omega) ?_
   have hmid:(Int.ofNat i+Int.ofNat j) / 2=Int.ofNat ((i+j) / 2):=by simp
   rw[hmid]
   rw[p_conv (by show -9223372036854775808<=(((i+j) / 2:Nat):Int);omega) (by show(((i+j) / 2:Nat):Int)<=9223372036854775807;omega)]
   obtain⟨c,hc⟩:=aK (l:=l) (i:=(i+j) / 2) (by omega)
   have hr:=hk c (qad hc)
   unfold rngC at hr
   refine aQ hl rfl hc ?_
   unfold encC
   refine p_x ?_
   obtain⟨d,hd,d1,d2⟩:=find1_c (c:=c) (a:=a) (b:=b) (by omega)
   refine iE (jS (hd _) rfl [.agg [.i .i64 c.1,.i .u8 c.2.1,.i .u8 c.2.2],.agg [.i .i64 a,.i .u8 b]] rfl rfl) ?_
   refine p_x ?_
   by_cases hd0:d<0
   ·have ht:=d1.1 hd0
    refine p_x ?_
    rw[bB (by omega)]
    refine p_x ?_
    refine hself (j - ((i+j) / 2+1)) _ _ (by omega) ⟨(i+j) / 2+1,j,rfl,rfl,by omega,hj,rfl,λk e he hk'=>?_,hhi⟩
    rcases qaB k ((i+j) / 2)with q|q
    ·have:=asc_lt hasc q he hc
     rw[lu]at ht ⊢
     simp only[ltC,qaP,qaa,qd4]at this
     omega
    ·obtain rfl:k=(i+j) / 2:=by omega
     rw[hc]at he;cases he;exact ht
   ·have hf:ltU c a b=false:=by
     rw[←qaT];intro hh;exact hd0 (d1.2 hh)
    refine p_x ?_
    refine hself ((i+j) / 2 - i) _ _ (by omega) ⟨i,(i+j) / 2,rfl,rfl,by omega,by omega,rfl,hlo,λk e he hk'=>?_⟩
    rcases qaB ((i+j) / 2) k with q|q
    ·have:=asc_lt hasc q hc he
     rw[←qaT,lu]at hf ⊢
     simp only[ltC,qaP,qaa,qd4]at this
     omega
    ·obtain rfl:k=(i+j) / 2:=by omega
     rw[hc]at he;cases he;exact hf
  ·obtain rfl:i=j:=by omega
   rw[aX (qao _)]
   refine p_x ?_
   by_cases hi:i<l.length
   ·rw[aU hi]
    refine p_x ?_
    obtain⟨c,hc⟩:=aK hi
    have hr:=hk c (qad hc)
    unfold rngC at hr
    refine aQ hl rfl hc ?_
    unfold encC
    refine p_x ?_
    obtain⟨d,hd,d1,d2⟩:=find1_c (c:=c) (a:=a) (b:=b) (by omega)
    refine iE (jS (hd _) rfl [.agg [.i .i64 c.1,.i .u8 c.2.1,.i .u8 c.2.2],.agg [.i .i64 a,.i .u8 b]] rfl rfl) ?_
    refine p_x ?_
    by_cases hz:d=0
    ·have:=d2.1 hz
     rw[p_eql_t hz]
     refine p_x ?_
     exact⟨i,by simp[isAt,hc,this.1,this.2],by trivial,hj,hlo,hhi⟩
    ·have h3:¬(c.1=a/\c.2.1=b):=λq=>hz (d2.2 q)
     rw[p_eql_f hz]
     refine p_x ?_
     refine⟨i,?_,by trivial,hj,hlo,hhi⟩
     have:isAt l a b i=false:=by
      simp only[isAt,hc]
      rw[←qaT]
      simpa using h3
     rw[this]
   ·rw[aX (by omega)]
    refine p_x ?_
    refine⟨i,?_,by trivial,hj,hlo,hhi⟩
    have:isAt l a b i=false:=by
     simp only[isAt,qah (qdX.1 hi)]
    rw[this])
 exact⟨i,h2,h1⟩
def find_c{h:HL}{x:Value}{l:TA}(hl:LsH h x 3 encC l)(hk:∀c∈l,rngC c)(hn:l.length<=1000)(hasc:ascC l=true){a b:Int}(hu:0<=a/\a<=1000/\0<=b/\b<=255) :
  ∃i:Nat,At l a b i/\aw cc ac 141 [.v x,.i a,.i b] (absH aa h) [.i (Int.ofNat i),.b (isAt l a b i)] (absH aa h):=by
 obtain⟨i,hi,hc⟩:=bin_c hl hk hn hasc hu
 obtain⟨rs,h',h1,rfl,rfl⟩:=x141 (K:=λrs h'=>rs=[.i (Int.ofNat i),.b (isAt l a b i)]/\h'=h) (H:=h) (glsV hl.good (glsI (glsI gls0))) (by
  unfold f141;simp only[qxh]
  repeat (first|simp(disch:=omega)only[↓qXX]|refine ai hc ?_)
  trivial)
 exact⟨i,hi,h1⟩
def eqU(a b:Int)(c:Crs):Bool:=decide (c.1=a)&&decide (c.2.1=b)
def je(l:TA)(a b:Int):Int:=match l.find? (eqU a b)with
 |some c=>c.2.2
 |none=>0
def kind_at{l:TA}{a b:Int}{i:Nat}(h:At l a b i)(hasc:ascC l=true):(isAt l a b i=true->∃c,l[i]?=some c/\je l a b=c.2.2)/\(isAt l a b i=false->je l a b=0):=by
 obtain⟨h1,h2,h3⟩:=h
 have uniq:∀(k:Nat) c,l[k]?=some c->eqU a b c=true->k=i:=by
  intro k c hc he
  simp only[eqU,qaa,qd4]at he
  rcases Nat.lt_trichotomy k i with q|q|q
  ·have:=h2 k c hc q
   rw[lu]at this
   omega
  ·exact q
  ·obtain⟨d,hd⟩:=aK (l:=l) (i:=i) (by have:=aM hc;omega)
   have e1:=asc_lt hasc q hd hc
   have e2:=h3 i d hd (qao _)
   rw[←qaT,lu]at e2
   simp only[ltC,qaP,qaa,qd4]at e1
   omega
 have isA:isAt l a b i=true↔∃c,l[i]?=some c/\eqU a b c=true:=by
  unfold isAt eqU
  cases e:l[i]? with
  |none=>simp
  |some c=>simp
 unfold je
 cases hf:l.find? (eqU a b)with
 |none=>
  have hno:=qcS.1 hf
  constructor
  ·intro ha
   obtain⟨c,hc,he⟩:=isA.1 ha
   exact absurd he (hno c (qad hc))
  ·intro _;rfl
 |some c=>
  have hp:=List.find?_some hf
  obtain⟨k,hk⟩:=qaW (qcg hf)
  have hki:=uniq k c hk hp
  subst hki
  constructor
  ·intro _;exact⟨c,hk,rfl⟩
  ·intro hn
   have:=isA.2 ⟨c,hk,hp⟩
   rw[hn]at this;cases this
structure Pat(w v:Nat)(l:TA):Prop where
 sheet:1<=w/\w<=5/\1<=v/\v<=5
 rng:∀c∈l,rngC c
 len:l.length<=1000
 ok:chkC (.ofNat w) (.ofNat v) l=0
def Pat.sm{w v:Nat}{l:TA}(h:Pat w v l):smS (.ofNat w) (.ofNat v):=by
 have:=h.sheet
 unfold smS
 simp only[qar]
 omega
def Pat.asc{w v:Nat}{l:TA}(h:Pat w v l):ascC l=true:=by
 have:=h.ok
 unfold chkC at this
 split at this
 ·cases this
 ·split at this
  ·cases this
  ·split at this
   ·assumption
   ·cases this
def Pat.check{w v:Nat}{l:TA}(h:Pat w v l){H:HL}{x:Value}(hl:LsH H x 3 encC l):aw cc ac 19 [.i (.ofNat w),.i (.ofNat v),.v x] (absH aa H) [.i 0] (absH aa H):=by
 have:=check_c h.sm hl (λc hc=>by
  have:=h.rng c hc
  unfold rngC at this
  unfold okC
  omega) (by have:=h.len;omega)
 rw[h.ok]at this
 exact this
def kind_c{w v:Nat}{l:TA}(hp:Pat w v l){H:HL}{x:Value}(hl:LsH H x 3 encC l){c e n:Nat}(hc:c<4*w*v)(he:e<3)(hn:nbr w v c e=some n)(hn2:n<=1000) :
  aw cc ac 78 [.i (.ofNat w),.i (.ofNat v),.v x,.i (.ofNat c),.i (.ofNat e)] (absH aa H) [.i (je l (.ofNat (min c n)) (.ofNat e)),.i 0] (absH aa H):=by
 have hsh:=hp.sheet
 have hnm:=nameIn (gW w v hsh.1 hsh.2.1 hsh.2.2.1 hsh.2.2.2) hc he
 unfold nameN at hnm
 rw[hn]at hnm
 simp only at hnm
 obtain⟨i,hi,hfi⟩:=find_c hl hp.rng hp.len hp.asc (a:=.ofNat (min c n)) (b:=.ofNat e) (by simp only[qar];omega)
 obtain⟨k1,k2⟩:=kind_at hi hp.asc
 obtain⟨rs,h',h1,e1,e2⟩:=x120 (K:=λrs h'=>rs=[.i (.ofNat (min c n)),.i (.ofNat e),.i (.ofNat i),.b (isAt l (.ofNat (min c n)) (.ofNat e) i),.i 0]/\h'=H) (H:=H) (glsI (glsI (glsV hl.good (glsI (glsI gls0))))) (by
  unfold f120;simp only[qxh]
  repeat (first|simp(disch:=omega)only[↓qXX]|refine ai (hp.check hl) ?_|refine af hnm ?_|refine ai hfi ?_)
  trivial)
 rw[e1,e2]at h1
 obtain⟨rs2,h2,h3,e3,e4⟩:=x78 (K:=λrs h'=>rs=[.i (je l (.ofNat (min c n)) (.ofNat e)),.i 0]/\h'=H) (H:=H) (glsI (glsI (glsV hl.good (glsI (glsI gls0))))) (by
  unfold f78;simp only[qxh]
  repeat (first|simp(disch:=omega)only[↓qXX]|refine ai h1 ?_)
  cases hb:isAt l (.ofNat (min c n)) (.ofNat e) i with
  |false=>
   simp(disch:=omega)only[↓qXX,qbF]
   rw[k2 hb]
   trivial
  |true=>
   obtain⟨c',hc',hkk⟩:=k1 hb
   repeat (first|simp(disch:=omega)only[↓qXX,qaF]|refine ew (o:=2) (k:=1) (cs:=[.int .u8 c'.2.2]) hl rfl hc' rfl (by omega) ?_)
   rw[hkk]
   trivial)
 rw[e3,e4]at h3
 exact h3
def encU_len(u:Nat×Nat):(encU u).length=2:=rfl
def mU(c:Crs):(encC c).length=3:=rfl
def enc8(n:Int):Tl:=[.int .u8 n]
def gm(n:Int):(enc8 n).length=1:=rfl
def py{a b:Nat}(h1:1<=a)(h2:a<=5)(h3:1<=b)(h4:b<=5)(h:HL):∃s G,aw cc ac 10 [.i (.ofNat a),.i (.ofNat b)] (absH aa h) [.v s] (absH aa (h++G))/\LsH (h++G) s 2 encU (ao a b):=by
 have ht:=(gM (gW a b h1 h2 h3 h4)).2.2.1
 unfold sS at ht
 split at ht
 next e=>
  obtain⟨s,G,c1,c2⟩:=made (g:=10) (rest:=[]) rfl (by kernel_rfl) rfl rfl e h
  exact⟨s,G,c1,λu _=>encU_len u,c2⟩
 ·cases ht
def kT(z:(Nat×Nat)×Int):Option Crs:=if z.2=0 then none else some (.ofNat z.1.1,.ofNat z.1.2,z.2)
def patL(us:List (Nat×Nat))(ks:TC):TA:=(us.zip ks).filterMap kT
def with_c{w v:Nat}(h1:1<=w)(h2:w<=5)(h3:1<=v)(h4:v<=5){H:HL}{kx:Value}{ks:TC}(hk:LsH H kx 1 enc8 ks)(hn:ks.length<=100000) :
  ∃G rx,aw cc ac 18 [.i (.ofNat w),.i (.ofNat v),.v kx] (absH aa H) [.i (.ofNat w),.i (.ofNat v),.v rx] (absH aa (H++G))/\MkL H.length (H++G) rx 3 encC (patL (ao w v) ks):=by
 obtain⟨sx,G1,hu,hux⟩:=py h1 h2 h3 h4 H
 have hul:=(gM (gW w v h1 h2 h3 h4)).2.2.2.2
 obtain⟨rs,h',hc,rx,e1,⟨G,rfl⟩,hrx⟩:=x18 (ls:=[.i (.ofNat w),.i (.ofNat v),.v kx]) (K:=λrs h'=>∃rx,rs=[.i (.ofNat w),.i (.ofNat v),.v rx]/\Pre H h'/\MkL H.length h' rx 3 encC (patL (ao w v) ks)) (H:=H) (glsI (glsI (glsV hk.good gls0))) (by
  unfold f18;simp only[qxh]
  repeat (first|simp(disch:=omega)only[↓qXX]|refine ai hu ?_)
  generalize hzz:(ao w v).zip ks=zz
  have hzl:zz.length=min (ao w v).length ks.length:=by rw[←hzz,qdT]
  refine bz zz.length (λj (s:Value×HL)=>[.i (Int.ofNat j),.i (.ofNat w),.i (.ofNat v),.v s.1]) (λ_ s=>s.2) (λj s=>Pre (H++G1) s.2/\MkL (H++G1).length s.2 s.1 3 encC ((zz.take j).filterMap kT)/\aT s.1=true) (j0:=0) (s0:=(.slice none 0 0,H++G1)) rfl rfl (qaS _) ⟨Pre.refl _,MkL.nil _ _ _ _,rfl⟩ ?_
  rintro j ⟨sv,sh⟩ hj ⟨hpre,hmk,hgv⟩ self hself
  simp only at hpre hmk hgv ⊢
  have hU:=hux.pre hpre
  have hK:=(hk.pre ⟨G1,rfl⟩).pre hpre
  refine p_x ?_
  have fin:∀K0:TE->HL->Prop,K0=(λrs h'=>∃rx,rs=[.i (.ofNat w),.i (.ofNat v),.v rx]/\Pre H h'/\MkL H.length h' rx 3 encC (patL (ao w v) ks))->j=zz.length->K0 [.i (.ofNat w),.i (.ofNat v),.v sv] sh:=by
   rintro K0 rfl rfl
   refine⟨_,rfl,Pre.trans ⟨G1,rfl⟩ hpre,?_⟩
   have:MkL H.length sh sv 3 encC ((zz.take zz.length).filterMap kT):=⟨hmk.1,hmk.2.1,hmk.2.2.imp id λ⟨id,h1,h2⟩=>⟨id,qbt (by rw[qaC];omega) h1,h2⟩⟩
   rw[qbk,←hzz]at this
   exact this
  refine bv hU ?_
  by_cases hlt:j<zz.length
  ·rw[aU (by omega)]
   refine p_x ?_
   refine bv hK ?_
   rw[aU (by omega)]
   refine p_x ?_
   obtain⟨u,hu⟩:=aK (l:=ao w v) (i:=j) (by omega)
   obtain⟨k,hkk⟩:=aK (l:=ks) (i:=j) (by omega)
   have hz:zz[j]?=some (u,k):=by rw[←hzz,qb5];exact⟨hu,hkk⟩
   have htk:(zz.take (j+1)).filterMap kT=(zz.take j).filterMap kT++(kT (u,k)).toList:=by
    rw[qba,hz,List.filterMap_append]
    congr 1
   refine aQ hK rfl hkk ?_
   unfold enc8
   refine p_x ?_
   by_cases hk0:k=0
   ·rw[p_neq_f hk0]
    refine p_x ?_
    rw[bB (by omega)]
    refine hself (sv,sh) hlt ⟨hpre,?_,hgv⟩
    rw[htk,show kT (u,k)=none from qd7 hk0]
    simpa using hmk
   ·rw[p_neq_t hk0]
    repeat (first|simp(disch:=omega)only[↓qXX]|refine ew (o:=0) (k:=1) (cs:=[.int .i64 (.ofNat u.1)]) hU rfl hu rfl (by omega) ?_|refine ew (o:=1) (k:=1) (cs:=[.int .u8 (.ofNat u.2)]) hU rfl hu rfl (by omega) ?_)
    refine aQ hK rfl hkk ?_
    unfold enc8
    refine p_x ?_
    have hfl:((zz.take j).filterMap kT).length<=j:=qbt (qcQ _ _) (by rw[qaL];omega)
    refine ky (h0:=H++G1) (a:=(.ofNat u.1,.ofNat u.2,k)) hpre hmk rfl rfl rfl rfl (by
     unfold ca
     rw[qaa,qbb,qbb]
     omega) λv' h' hp' hm' hg' _ _=>?_
    repeat (first|simp(disch:=omega)only[↓qXX]|refine aH hg' ?_)
    rw[bB (by omega)]
    refine hself (v',h') hlt ⟨hp',?_,hg'⟩
    rw[htk,show kT (u,k)=some (.ofNat u.1,.ofNat u.2,k)from qd8 hk0]
    exact hm'
  ·have hje:j=zz.length:=by omega
   by_cases hju:j<(ao w v).length
   ·rw[aU hju]
    refine p_x ?_
    refine bv hK ?_
    rw[aX (by omega)]
    refine p_x ?_
    exact fin _ rfl hje
   ·rw[aX (by omega)]
    refine p_x ?_
    exact fin _ rfl hje)
 rw[e1]at hc
 exact⟨G,rx,hc,hrx⟩
def nK(w v:Nat):TM:=(List.range (4*w*v)).map (clN w)
def sR(w v:Nat):Bool:=match runF 60 (.f 41) [.i (.ofNat w),.i (.ofNat v)] .empty (λrs h=>match rs with
   | .v x :: r=>ans (eqLs r []&&isSl h x 3 (nK w v).length ((nK w v).flatMap aB))
   |_=>none)with
 |some []=>true
 |_=>false
def tabRn(w v:Nat):Bool:=(ao w v).all λu=>match nbr w v u.1 u.2 with
 |some n=>vi 12 [.i (.ofNat w),.i (.ofNat v),.i (.ofNat u.1),.i (.ofNat u.2)] [.i (.ofNat n)]
 |none=>false
def tab78(w v:Nat):Bool:=sR w v&&(tabRn w v&&Nat.beq (ao w v).length (6*w*v - w - v))
def all78:∀w v:Nat,1<=w->w<=5->1<=v->v<=5->tab78 w v=true:=by
 have key:((List.range 5).all λw=>(List.range 5).all λv=>tab78 (w+1) (v+1))=true:=by kernel_rfl
 intro w v h1 h2 h3 h4
 have h5:=qab.1 key (w - 1) (qae.2 (by omega))
 have h6:=qab.1 h5 (v - 1) (qae.2 (by omega))
 rw[show w - 1+1=w by omega,show v - 1+1=v by omega]at h6
 exact h6
def sh_N4{w v:Nat}(h:Sh w v):4<=4*w*v/\4*w*v<=100:=by
 obtain⟨h1,h2,h3,h4⟩:=h
 have a1:4*w*v<=4*w*5:=qcP _ h4
 have a2:4*w*1<=4*w*v:=qcP _ h3
 omega
section
variable {w v:Nat}
def nz(h:Sh w v):sR w v=true/\tabRn w v=true/\(ao w v).length=6*w*v - w - v:=by
 have:=all78 w v h.1 h.2.1 h.2.2.1 h.2.2.2
 unfold tab78 at this
 simp only[qaa]at this
 exact⟨this.1,this.2.1,qac this.2.2⟩
def lS{c e:Nat}(h:(c,e)∈ao w v):c<4*w*v/\e<3/\∃n,nbr w v c e=some n/\c<n:=by
 unfold ao at h
 obtain⟨c',hc,h2⟩:=qbn.1 h
 obtain⟨e',he,h3⟩:=qa8.1 h2
 split at h3
 next n hn=>
  split at h3
  next hlt=>
   simp only[qaz,qbY]at h3
   obtain⟨rfl,rfl⟩:=h3
   exact⟨qae.1 hc,qae.1 he,n,hn,hlt⟩
  ·cases h3
 ·cases h3
def vx(hs:Sh w v)(h:HL):∃s G,aw cc ac 41 [.i (.ofNat w),.i (.ofNat v)] (absH aa h) [.v s] (absH aa (h++G))/\LsH (h++G) s 3 aB (nK w v):=by
 have ht:=(nz hs).1
 unfold sR at ht
 split at ht
 next e=>
  obtain⟨s,G,c1,c2⟩:=made (g:=41) (rest:=[]) rfl (by kernel_rfl) rfl rfl e h
  exact⟨s,G,c1,λu _=>bG u,c2⟩
 ·cases ht
def rnb_c(hs:Sh w v){c e n:Nat}(hu:(c,e)∈ao w v)(hn:nbr w v c e=some n):Cc 12 [.i (.ofNat w),.i (.ofNat v),.i (.ofNat c),.i (.ofNat e)] [.i (.ofNat n)]:=by
 have:=qab.1 (nz hs).2.1 (c,e) hu
 simp only[hn]at this
 exact jL this rfl (by kernel_rfl) rfl
def iR{j:Nat}(h:j<4*w*v):(nK w v)[j]?=some (clN w j):=by
 unfold nK
 rw[qan,qbe h];rfl
def fS:(nK w v).length=4*w*v:=by simp[nK]
def kQ(hs:Sh w v){j:Nat}(h:j<4*w*v):-100<=(clN w j).1/\(clN w j).1<=100/\-100<=(clN w j).2.1/\(clN w j).2.1<=100/\(clN w j).2.2<4:=by
 have hN:=sh_N4 hs
 have d1:j / 4%w<=j / 4:=qd3 _ _
 have d2:j / 4 / w<=j / 4:=qdo _ _
 refine⟨?_,?_,?_,?_,qbS _ (by omega)⟩
 ·exact qdK (show(-100:Int)<=0 by decide) (qaY _)
 ·exact qdO.2 (show j / 4%w<=100 by omega)
 ·exact qdK (show(-100:Int)<=0 by decide) (qaY _)
 ·exact qdO.2 (show j / 4 / w<=100 by omega)
end
def sy{a b:Int}{K:Tn}(h1:a=b->K true)(h2:a≠b->K false):P1.cmp .eql a b (@hid _ ⟨K⟩):=by
 by_cases h:a=b
 ·rw[p_eql_t h];exact h1 h
 ·rw[p_eql_f h];exact h2 h
def KindP(w v:Nat)(l:TA)(ks:TC)(j:Nat):Prop:=∀u k,(ao w v)[j]?=some u->ks[j]?=some k->(0<=k/\k<=3)/\(k≠0↔isCr l u.1 u.2=true)
def KindZ(l:TA)(u:Nat×Nat)(z:Nat)(k:Int):Prop:=(0<=k/\k<=3)/\(k≠0↔∃c∈l.take z,c.1 = .ofNat u.1/\c.2.1 = .ofNat u.2)
def kindZ_end{l:TA}{u:Nat×Nat}{k:Int}(h:KindZ l u l.length k):(0<=k/\k<=3)/\(k≠0↔isCr l u.1 u.2=true):=by
 refine⟨h.1,h.2.trans ?_⟩
 rw[qbk]
 unfold isCr
 rw[qd4,qaK]
 constructor
 ·rintro⟨c,h1,h2,h3⟩
  exact⟨c,h1,by unfold cv;rw[h2,h3]⟩
 ·rintro⟨c,h1,h2⟩
  unfold cv at h2
  simp only[qbY]at h2
  exact⟨c,h1,h2.1,h2.2⟩
def kinds_c{w v:Nat}(hs:Sh w v){l:TA}(hkd:∀c∈l,1<=c.2.2/\c.2.2<=3)(hll:l.length<=1000){H:HL}{x:Value}(hl:LsH H x 3 encC l) :
  ∃ks id h',aw cc ac 11 [.i (.ofNat w),.i (.ofNat v),.v x] (absH aa H) [.v (.slice (some ⟨id,0,tag 1⟩) (ao w v).length ((ao w v).length+1))] (absH aa h')/\Pre H h'/\H.length<=id/\h'[id]?=some (.o (.cells (ks.flatMap enc8) 1 true))/\ks.length=(ao w v).length/\∀j,KindP w v l ks j:=by
 obtain⟨su,G1,cu1,hU⟩:=py hs.1 hs.2.1 hs.2.2.1 hs.2.2.2 H
 have hul:=(gM (gW w v hs.1 hs.2.1 hs.2.2.1 hs.2.2.2)).2.2.2.2
 obtain⟨rs,h',hc,ks,id,rfl,h1,h2,h3,h4,h5⟩:=x11 (ls:=[.i (.ofNat w),.i (.ofNat v),.v x]) (K:=λrs h'=>∃ks id,rs=[.v (.slice (some ⟨id,0,tag 1⟩) (ao w v).length ((ao w v).length+1))]/\Pre H h'/\H.length<=id/\h'[id]?=some (.o (.cells (ks.flatMap enc8) 1 true))/\ks.length=(ao w v).length/\∀j,KindP w v l ks j) (H:=H) (glsI (glsI (glsV hl.good gls0))) (by
  unfold f11;simp only[qxh]
  repeat (first|simp(disch:=omega)only[↓qXX]|refine ai cu1 ?_|refine bv hU ?_|refine au (gD (by omega)) ?_)
  have hpH:Pre H (H++G1):=⟨_,rfl⟩
  have hl:=hl.pre hpH
  generalize H++G1=Hm at *
  clear cu1
  generalize hN:(ao w v).length=N at *
  rw[show(Int.ofNat N).toNat=N from rfl]
  have z0:HO.o (.cells (aV [.int .u8 0] N) 1 true)=HO.o (.cells ((List.replicate N (0:Int)).flatMap enc8) 1 true):=by
   rw[←dA (enc:=enc8) (z:=(0:Int)) (n:=N)]
   rfl
  rw[z0]
  have s1:(Hm++[HO.o (.cells ((List.replicate N (0:Int)).flatMap enc8) 1 true)])[Hm.length]?=some (.o (.cells ((List.replicate N (0:Int)).flatMap enc8) 1 true)):=bq
  have s2:Pre Hm (Hm++[HO.o (.cells ((List.replicate N (0:Int)).flatMap enc8) 1 true)]):=⟨_,rfl⟩
  generalize Hm++[HO.o (.cells ((List.replicate N (0:Int)).flatMap enc8) 1 true)]=h1 at *
  refine bz (σ:=HL) N (λj _=>[.i (Int.ofNat j)]) (λ_ s=>s) (λj s=>Pre Hm s/\∃ks:List Int,s[Hm.length]?=some (.o (.cells (ks.flatMap enc8) 1 true))/\ks.length=N/\(∀i,j<=i->i<N->ks[i]?=some 0)/\∀i,i<j->KindP w v l ks i) (j0:=0) (s0:=h1) rfl rfl (qaS _) ⟨s2,List.replicate N 0,s1,by simp,λi _ hi=>by rw[qaZ,qd7 hi],λi hi=>absurd hi (qbX _)⟩ ?_
  clear s1 s2
  rintro j s hj ⟨s2,ks,s1,k1,k2,k3⟩ self hself
  refine p_x ?_
  refine bv (hU.pre s2) ?_
  rw[hN]
  by_cases hlt:j<N
  ·rw[aU hlt]
   refine p_x ?_
   obtain⟨u,hu⟩:=aK (l:=ao w v) (i:=j) (by omega)
   refine bz (σ:=HL) l.length (λz _=>[.i (Int.ofNat z)]) (λ_ s=>s) (λz s=>Pre Hm s/\∃(ks:TC) (k:Int),s[Hm.length]?=some (.o (.cells (ks.flatMap enc8) 1 true))/\ks.length=N/\(∀i,j+1<=i->i<N->ks[i]?=some 0)/\(∀i,i<j->KindP w v l ks i)/\ks[j]?=some k/\KindZ l u z k) (j0:=0) (s0:=s) rfl rfl (qaS _) ⟨s2,ks,0,s1,k1,λi hi=>k2 i (by omega),k3,k2 j (qao _) hlt,⟨⟨qd1 0,by decide⟩,⟨λh=>absurd rfl h,λ⟨c,hc,_⟩=>by simp at hc⟩⟩⟩ ?_
   clear s1 s2 k1 k2 k3
   rintro z t hz ⟨s2,ks,k,s1,k1,k2,k3,k4,k5⟩ self2 hself2
   refine p_x ?_
   refine bv (hl.pre s2) ?_
   by_cases hlz:z<l.length
   ·rw[aU hlz]
    refine p_x ?_
    obtain⟨c,hc⟩:=aK hlz
    have hkd:=hkd c (qad hc)
    have tk:l.take (z+1)=l.take z++[c]:=by rw[qba,hc];rfl
    have hno:¬(c.1 = .ofNat u.1/\c.2.1 = .ofNat u.2)->KindZ l u (z+1) k:=λhne=>by
     refine⟨k5.1,k5.2.trans ?_⟩
     rw[tk]
     constructor
     ·rintro⟨c',h1,h2⟩
      exact⟨c',qaX _ h1,h2⟩
     ·rintro⟨c',h1,h2⟩
      rcases qaJ.1 h1 with h1|h1
      ·exact⟨c',h1,h2⟩
      ·rw[qaw]at h1
       subst h1
       exact absurd h2 hne
    repeat (first|simp(disch:=omega)only[↓qXX]|refine ew (o:=0) (k:=1) (cs:=[.int .i64 c.1]) (hl.pre s2) rfl hc rfl (by omega) ?_|refine ew (o:=0) (k:=1) (cs:=[.int .i64 (.ofNat u.1)]) (hU.pre s2) rfl hu rfl (by omega) ?_)
    refine sy (λe1=>?_) (λe1=>?_)
    ·simp(disch:=omega)only[↓qXX]
     repeat (first|simp(disch:=omega)only[↓qXX]|refine ew (o:=1) (k:=1) (cs:=[.int .u8 c.2.1]) (hl.pre s2) rfl hc rfl (by omega) ?_|refine ew (o:=1) (k:=1) (cs:=[.int .u8 (.ofNat u.2)]) (hU.pre s2) rfl hu rfl (by omega) ?_)
     refine sy (λe2=>?_) (λe2=>?_)
     ·simp(disch:=omega)only[↓qXX]
      repeat (first|simp(disch:=omega)only[↓qXX]|refine ew (o:=2) (k:=1) (cs:=[.int .u8 c.2.2]) (hl.pre s2) rfl hc rfl (by omega) ?_|refine fA (enc:=enc8) (l:=ks) (i:=j) (a:=c.2.2) gm s1 rfl (by omega) k1 rfl ?_)
      rw[bB (by omega)]
      refine hself2 _ hlz ⟨cQ s2 (qao _),ks.set j c.2.2,c.2.2,bW (aM s1),by rw[qbD];exact k1,λi hi hiN=>by rw[qai (by omega)];exact k2 i hi hiN,λi hi u' k' hu' hk'=>?_,by rw[qaA (by omega)],⟨⟨by omega,hkd.2⟩,⟨λ_=>⟨c,by rw[tk];exact qbd _ qay,e1,e2⟩,λ_=>by omega⟩⟩⟩
      rw[qai (by omega)]at hk'
      exact k3 i hi u' k' hu' hk'
     ·simp(disch:=omega)only[↓qXX]
      rw[bB (by omega)]
      exact hself2 _ hlz ⟨s2,ks,k,s1,k1,k2,k3,k4,hno λq=>e2 q.2⟩
    ·simp(disch:=omega)only[↓qXX]
     rw[bB (by omega)]
     exact hself2 _ hlz ⟨s2,ks,k,s1,k1,k2,k3,k4,hno λq=>e1 q.1⟩
   ·obtain rfl:z=l.length:=by omega
    rw[aX (qao _)]
    refine p_x ?_
    rw[bB (by omega)]
    refine hself _ hlt ⟨s2,ks,s1,k1,k2,λi hi=>?_⟩
    rcases qaB i j with h|h
    ·exact k3 i h
    ·obtain rfl:i=j:=by omega
     intro u' k' hu' hk'
     rw[hu]at hu'
     cases hu'
     rw[k4]at hk'
     cases hk'
     exact kindZ_end k5
  ·obtain rfl:j=N:=by omega
   rw[aX (qao _)]
   refine p_x ?_
   refine⟨ks,Hm.length,rfl,hpH.trans s2,hpH.len,s1,k1,λi u' k' hu' hk'=>?_⟩
   exact k3 i (by have:=aM hk';omega) u' k' hu' hk')
 exact⟨ks,id,h',hc,h1,h2,h3,h4,h5⟩
def Ful{α:Type}(h:HL)(x:Value)(e:Nat)(enc:α->Tl)(l:List α):Prop:=∃id,x = .slice (some ⟨id,0,tag e⟩) l.length (l.length+1)/\h[id]?=some (.o (.cells (l.flatMap enc) e true))
def Ful.ls{α:Type}{h:HL}{x:Value}{e:Nat}{enc:α->Tl}{l:List α}(henc:∀a,(enc a).length=e)(hf:Ful h x e enc l):LsH h x e enc l:=by
 obtain⟨id,rfl,h1⟩:=hf
 exact dO henc h1 rfl
def Ful.pre{α:Type}{h h':HL}{x:Value}{e:Nat}{enc:α->Tl}{l:List α}(hf:Ful h x e enc l)(hp:Pre h h'):Ful h' x e enc l:=by
 obtain⟨id,rfl,h1⟩:=hf
 exact⟨id,rfl,hp.get h1⟩
def Ful.cap{α:Type}{h:HL}{x:Value}{e:Nat}{enc:α->Tl}{l:List α}(hf:Ful h x e enc l):capS x=some (Int.ofNat l.length):=by
 obtain⟨id,rfl,h1⟩:=hf
 exact cap_full
abbrev ft:Value:=.slice none 0 0
def allV(w:Nat)(G:TO)(r:Mv)(n:Nat):Prop:=∀c,c<n->vMv (aG (G c) r)=true/\vCl (aZ (aG (G c) r) (clN w c))=true
def allV.succ{w:Nat}{G:TO}{r:Mv}{n:Nat}(h:allV w G r n)(h1:vMv (aG (G n) r)=true)(h2:vCl (aZ (aG (G n) r) (clN w n))=true):allV w G r (n+1):=λc hc=>by
 by_cases e:c=n
 ·subst e;exact⟨h1,h2⟩
 ·exact h c (by omega)
structure ConsO(w v:Nat)(l:TA)(G:TO):Prop where
 g:eA w v l G
 z:G 0=idM
 ok:∀c,c<4*w*v->okM 2000 (G c)
def GoodA.consO{w v:Nat}(hs:Sh w v){l:TA}{A:TN}(h:GoodA w v l A):ConsO w v l (λc=>A.getD c idM):=by
 have hN:=sh_N hs
 have hg:∀c,c<4*w*v->A[c]?=some (A.getD c idM):=λc hc=>by
  obtain⟨a,ha⟩:=aK (l:=A) (i:=c) (by rw[h.len];exact hc)
  rw[List.getD_eq_getElem?_getD,ha];rfl
 refine⟨λc e n hc he hn=>?_,?_,λc hc=>h.ok _ (qad (hg c hc))⟩
 ·have h1:=h.cons c e n _ hc he hn (hg c hc)
  rw[hg n (iB hs hc he hn).1]at h1
  exact qap h1
 ·have h1:=h.a0
  rw[hg 0 (by omega)]at h1
  exact qap h1
def rp{w v:Nat}(hs:Sh w v){j:Nat}(hj:j<4*w*v):-1000<=(clN w j).1/\(clN w j).1<=1000/\-1000<=(clN w j).2.1/\(clN w j).2.1<=1000/\(clN w j).2.2<4:=by
 have hN:=sh_N hs
 have d1:j / 4%w<=j / 4:=qd3 _ _
 have d2:j / 4 / w<=j / 4:=qdo _ _
 refine⟨?_,?_,?_,?_,qbS _ (by omega)⟩
 ·exact qdK (show(-1000:Int)<=0 by decide) (qaY _)
 ·exact qdO.2 (show j / 4%w<=1000 by omega)
 ·exact qdK (show(-1000:Int)<=0 by decide) (qaY _)
 ·exact qdO.2 (show j / 4 / w<=1000 by omega)
def BothR(w v:Nat)(l:TA)(r:Mv)(rs:TE)(h':HL):Prop:=
 (rs=[.v ft,.v ft,.i 11]/\¬ ∃G,eA w v l G/\G 0=idM)∨
 ∃G,ConsO w v l G/\((rs=[.v ft,.v ft,.i 3]/\¬allV w G r (4*w*v))∨
  (∃lx ix,rs=[.v lx,.v ix,.i 0]/\allV w G r (4*w*v)/\Ful h' lx 3 encM (plL w v G r)/\Ful h' ix 3 aB (imL w v G r)))
def both_c{w v:Nat}(hs:Sh w v){l:TA}(hk:(l.map cv).Nodup)(hl0:l.length<=1000){H:HL}{x:Value}(hl:LsH H x 3 encC l)(hck:aw cc ac 19 [.i (.ofNat w),.i (.ofNat v),.v x] (absH aa H) [.i 0] (absH aa H))
  {r:Mv} (hr:okM 16384 r) :
  ∃rs h',aw cc ac 24 ([.i (.ofNat w),.i (.ofNat v),.v x]++mvl r) (absH aa H) rs (absH aa h')/\Pre H h'/\BothR w v l r rs h':=by
 have hN:=sh_N hs
 obtain⟨rs1,h1,c1,hpre1,hrel⟩:=zj hs hk hl0 hl
 have key:=x24 (ls:=[.i (.ofNat w),.i (.ofNat v),.v x,.i (Int.ofNat r.1),.i r.2.1,.i r.2.2]) (K:=λrs h'=>Pre H h'/\BothR w v l r rs h') (H:=H) (glsI (glsI (glsV hl.good (glsI (glsI (glsI gls0)))))) (by
  unfold f24;simp only[qxh]
  repeat (first|simp(disch:=omega)only[↓qXX]|refine ai hck ?_|refine af (sd hr (by omega)) ?_)
  refine ai c1 ?_
  rcases hrel with⟨A,id,rfl,hid,hol,hA⟩|⟨rfl,hno⟩
  case inr=>
   refine p_x ?_
   exact⟨hpre1,.inl ⟨by trivial,hno⟩⟩
  refine p_x ?_
  have hG:=hA.consO hs
  generalize hGd:(λc=>A.getD c idM)=G at hG
  have hAG:=hA.eq hs hG.g hG.z
  have hP:(plL w v G r).length=A.length:=by rw[hA.len];simp[plL]
  have hI:(imL w v G r).length=4*w*v:=by simp[imL]
  have hidl:=aM hol
  refine au (x:=Int.ofNat (4*w*v)) rfl ?_
  refine au (gD (by omega)) ?_
  refine p_x ?_
  rw[show(Int.ofNat (4*w*v)).toNat=4*w*v from rfl]
  have z0:HO.o (.cells (aV [.int .i64 0,.int .i64 0,.int .u8 0] (4*w*v)) 3 true)=HO.o (.cells ((List.replicate (4*w*v) ((0,0,0):Cl)).flatMap aB) 3 true):=by
   rw[←dA (enc:=aB) (z:=((0,0,0):Cl)) (n:=4*w*v)]
   rfl
  rw[z0]
  refine au (x:=Int.ofNat (4*w*v)) rfl ?_
  have hZ:(imL w v G r).length=(List.replicate (4*w*v) ((0,0,0):Cl)).length:=by rw[hI];simp
  have s1:(h1++[HO.o (.cells ((List.replicate (4*w*v) ((0,0,0):Cl)).flatMap aB) 3 true)])[id]?=some (.o (.cells (A.flatMap encM) 3 true)):=Pre.get ⟨_,rfl⟩ hol
  have s2:(h1++[HO.o (.cells ((List.replicate (4*w*v) ((0,0,0):Cl)).flatMap aB) 3 true)])[h1.length]?=some (HO.o (.cells ((List.replicate (4*w*v) ((0,0,0):Cl)).flatMap aB) 3 true)):=bq
  have s3:Pre H (h1++[HO.o (.cells ((List.replicate (4*w*v) ((0,0,0):Cl)).flatMap aB) 3 true)]):=hpre1.app _
  have hix:h1.length≠id:=by omega
  have hHi:H.length<=h1.length:=hpre1.len
  generalize List.replicate (4*w*v) ((0,0,0):Cl)=Z at *
  generalize h1++[HO.o (.cells (Z.flatMap aB) 3 true)]=h2 at *
  generalize h1.length=iX at *
  refine bz (σ:=HL) (4*w*v) (λj _=>[.i (Int.ofNat j)]) (λ_ s=>s) (λj s=>Pre H s/\s[id]?=some (.o (.cells (((plL w v G r).take j++A.drop j).flatMap encM) 3 true))/\s[iX]?=some (.o (.cells (((imL w v G r).take j++Z.drop j).flatMap aB) 3 true))/\allV w G r j) (j0:=0) (s0:=h2) rfl rfl (qaS _) ⟨s3,by simpa using s1,by simpa using s2,λc hc=>by omega⟩ ?_
  clear s1 s2 s3
  rintro j h hj ⟨s3,s1,s2,hall⟩ self hself
  refine p_x ?_
  by_cases hlt:j<4*w*v
  ·rw[aU hlt]
   refine p_x ?_
   have ha:=hAG j hlt
   have hLj:=oR (G:=G) (r:=r) hlt
   have hIj:=og (G:=G) (r:=r) hlt
   have lenP:=sf (j:=j) hP (by rw[hP,hA.len];omega)
   have lenI:=sf (j:=j) hZ (by rw[hI];omega)
   refine aQ (dO bC s1 (by rw[lenP,hA.len])) rfl (mid_get ha hP) ?_
   unfold encM
   refine p_x ?_
   refine af (cellIn (gW w v hs.1 hs.2.1 hs.2.2.1 hs.2.2.2) hlt) ?_
   unfold cellN
   refine p_x ?_
   have okG:okM 2000 (G j):=hA.ok _ (qad ha)
   have okT:=cq okG hr
   refine af (then_w okG hr) ?_
   cases hvm:vMv (aG (G j) r)with
   |false=>
    simp only[qaq,if_false]
    repeat (first|simp(disch:=omega)only[↓qXX]|refine fA (enc:=encM) (l:=(plL w v G r).take j++A.drop j) (i:=j) (a:=idM) bC s1 rfl (by rw[lenP,hA.len];exact hlt) (by rw[lenP,hA.len]) rfl ?_)
    exact⟨cQ s3 hid,.inr ⟨G,hG,.inl ⟨by trivial,λq=>by rw[(q j hlt).1]at hvm;cases hvm⟩⟩⟩
   |true=>
   simp only[if_true]
   have hvm2:vMv (aG (G j) r)=true:=hvm
   have okT2:=vMv_ok okT hvm2
   have hcell:=rp hs hlt
   have hv2:=hvm2
   generalize hm:aG (G j) r=m at *
   simp only[mvl,qaI,qaG]
   refine p_x ?_
   refine fA (enc:=encM) (l:=(plL w v G r).take j++A.drop j) (i:=j) (a:=m) bC s1 rfl (by rw[lenP,hA.len];exact hlt) (by rw[lenP,hA.len]) rfl ?_
   rw[take_set hLj hP]
   have s1':(putE h id 3 encM ((plL w v G r).take (j+1)++A.drop (j+1)))[id]?=some (.o (.cells (((plL w v G r).take (j+1)++A.drop (j+1)).flatMap encM) 3 true)):=bW (aM s1)
   have s2':(putE h id 3 encM ((plL w v G r).take (j+1)++A.drop (j+1)))[iX]?=some (.o (.cells (((imL w v G r).take j++Z.drop j).flatMap aB) 3 true)):=by rw[cR hix];exact s2
   have s3':Pre H (putE h id 3 encM ((plL w v G r).take (j+1)++A.drop (j+1))):=cQ s3 hid
   generalize putE h id 3 encM ((plL w v G r).take (j+1)++A.drop (j+1))=h3 at *
   refine p_x ?_
   have lenP1:=sf (j:=j+1) hP (by rw[hP,hA.len];omega)
   refine aQ (a:=m) (dO bC s1' (by rw[lenP1,hA.len])) rfl ?_ ?_
   ·rw[qag (by rw[qaL,hP,hA.len];omega),qa4,qd7 (by omega)]
    exact hLj
   unfold encM
   refine p_x ?_
   refine af (move_w (c:=clN w j) okT2 hcell) ?_
   cases hvc:vCl (aZ m (clN w j))with
   |false=>
    simp only[qaq,if_false]
    repeat (first|simp(disch:=omega)only[↓qXX]|refine fA (enc:=aB) (l:=(imL w v G r).take j++Z.drop j) (i:=j) (a:=((0,0,0):Cl)) bG s2' rfl (by rw[lenI,←hZ,hI];exact hlt) (by rw[lenI,←hZ,hI]) rfl ?_)
    exact⟨cQ s3' hHi,.inr ⟨G,hG,.inl ⟨by trivial,λq=>by
     have:=(q j hlt).2
     rw[hm,hvc]at this
     cases this⟩⟩⟩
   |true=>
   simp only[if_true]
   generalize hci:aZ m (clN w j)=ci at *
   simp only[cll,qaI,qaG]
   refine p_x ?_
   refine fA (enc:=aB) (l:=(imL w v G r).take j++Z.drop j) (i:=j) (a:=ci) bG s2' rfl (by rw[lenI,←hZ,hI];exact hlt) (by rw[lenI,←hZ,hI]) rfl ?_
   rw[take_set hIj hZ]
   refine p_x ?_
   rw[bB (by omega)]
   refine hself _ hlt ⟨cQ s3' hHi,by rw[cR (qbE hix)];exact s1',bW (aM s2'),hall.succ (by rw[hm];exact hv2) (by rw[hm,hci];exact hvc)⟩
  ·obtain rfl:j=4*w*v:=by omega
   rw[aX (qao _)]
   refine p_x ?_
   rw[qaM (by rw[hP,hA.len];exact qao _),qbs (by rw[hA.len];exact qao _),qaU]at s1
   rw[qaM (by rw[hI];exact qao _),qbs (by rw[←hZ,hI];exact qao _),qaU]at s2
   have e1:(plL w v G r).length=4*w*v:=by rw[hP,hA.len]
   refine⟨s3,.inr ⟨G,hG,.inr ⟨_,_,rfl,hall,⟨id,?_,s1⟩,⟨iX,?_,s2⟩⟩⟩⟩
   ·rw[e1]
   ·rw[hI];rfl)
 obtain⟨rs,h',h2,h3,h4⟩:=key
 exact⟨rs,h',h2,h3,h4⟩
def tabRl:Bool:=(List.range 5).all λx=>(List.range 5).all λy=>(List.range 4).all λq=>(List.range 3).all λe=>
 vi 34 [.i (.ofNat x),.i (.ofNat y),.i (.ofNat q),.i (.ofNat e)] [.i (.ofNat (lnC3 (Int.ofNat x,Int.ofNat y,q) e).1),.i (lnC3 (Int.ofNat x,Int.ofNat y,q) e).2]
def rl_all:tabRl=true:=by kernel_rfl
def rline_c{w v c e:Nat}(hs:Sh w v)(hc:c<4*w*v)(he:e<3):Cc 34 [.i (clN w c).1,.i (clN w c).2.1,.i (.ofNat (clN w c).2.2),.i (.ofNat e)] [.i (.ofNat (lnC3 (clN w c) e).1),.i (lnC3 (clN w c) e).2]:=by
 have h1:c / 4%w<5:=qcW (qbS _ hs.1) hs.2.1
 have h2:c / 4 / w<5:=by
  have:c / 4<w*v:=by
   rw[Nat.div_lt_iff_lt_mul (by omega)]
   rw[qd2]at hc;omega
  have h3:c / 4 / w<v:=Nat.div_lt_of_lt_mul this
  have:=hs.2.2.2
  omega
 have h3:c%4<4:=qbS _ (by omega)
 have:=qab.1 (qab.1 (qab.1 (qab.1 rl_all (c / 4%w) (qae.2 h1)) (c / 4 / w) (qae.2 h2)) (c%4) (qae.2 h3)) e (qae.2 he)
 exact jL this rfl (by kernel_rfl) rfl
def acK(c:Cl)(e:Nat)(k:Int)(g:Mv):Mv:=if k=0 then g else aG (ofM (lnC3 c e)) g
def uN{w v c e:Nat}(hs:Sh w v)(hc:c<4*w*v)(he:e<3){k:Int}{g:Mv}(hg:okM 19000 g) :
  Cc 99 [.i (clN w c).1,.i (clN w c).2.1,.i (.ofNat (clN w c).2.2),.i (.ofNat e),.i k,.i (.ofNat g.1),.i g.2.1,.i g.2.2] (mvl (acK (clN w c) e k g)):=by
 have hl:=ln_ok hs hc he
 refine q99 rfl ?_;unfold f99;simp only[qxh]
 refine p_x ?_
 unfold acK
 by_cases hk:k=0
 ·rw[p_eql_t hk,qd7 hk]
  simp(disch:=omega)only[↓qXX]
 ·rw[p_eql_f hk,qd8 hk]
  repeat (first|simp(disch:=omega)only[↓qXX]|refine af (rline_c hs hc he) ?_)
  refine af (rof_c (l:=lnC3 (clN w c) e) ⟨hl.1,hl.2.1⟩ (by omega)) ?_
  simp only[mvl,qaI,qaG]
  refine p_x ?_
  refine af (rthen_c (a:=ofM (lnC3 (clN w c) e)) (b:=g) (qw (n:=10) ⟨hl.2.2.1,hl.2.2.2⟩) hg (by omega)) ?_
  simp only[mvl,qaI,qaG]
  simp(disch:=omega)only[↓qXX]
def then_inj{a b r:Mv}(ha:a.1<8)(hb:b.1<8)(hr:r.1<8)(h:aG a r=aG b r):a=b:=by
 have h1:aG (aG a r) (invM r)=aG (aG b r) (invM r):=by rw[h]
 have hi:(invM r).1<8:=by
  obtain⟨t,x,y⟩:=r
  have hr:t<8:=hr
  show invT t<8
  rcases t8 hr with rfl|rfl|rfl|rfl|rfl|rfl|rfl|rfl<;>decide
 rw[cL ha hr hi,cL hb hr hi,inv_id hr,yo ha,yo hb]at h1
 exact h1
def wF{c:Cl}{e:Nat}{k:Int}{g r:Mv}(hg:g.1<8)(hr:r.1<8):acK c e k (aG g r)=aG (acK c e k g) r:=by
 unfold acK
 split
 ·rfl
 ·rw[cL (gS _) hg hr]
def acK_acM{w v:Nat}(hs:Sh w v){l:TA}{c e n:Nat}(hc:c<4*w*v)(he:e<3)(hn:nbr w v c e=some n){k:Int}(hk:k≠0↔isCr l (min c n) e=true){g:Mv}:acK (clN w c) e k g=acM w l g c n e:=by
 obtain⟨_,h2⟩:=si hs hc he hn
 unfold acK acM
 by_cases h:k=0
 ·rw[qd7 h,qd8 (λq=>hk.2 q h)]
 ·rw[qd8 h,qd7 (hk.1 h),h2]
def acM_lt{w:Nat}{l:TA}{g:Mv}{c n e:Nat}(hg:g.1<8):(acM w l g c n e).1<8:=by
 unfold acM
 split
 ·exact oD
 ·exact hg
def encK(t:Bool):Tl:=[.int .i64 (if t then 1 else 0)]
def rA(t:Bool):(encK t).length=1:=rfl
def bhL(w v:Nat):Tz:=(ao w v).map λu=>(nbr w v u.1 u.2).getD 0
def vr{w v j c e n:Nat}(hu:(ao w v)[j]?=some (c,e))(hn:nbr w v c e=some n):(bhL w v)[j]?=some n:=by
 unfold bhL
 rw[qan,hu]
 simp[hn]
structure RP(w v:Nat)(l:TA)(r:Mv)(O:TN)(B:Tx)(g:TO):Prop where
 lo:O.length=4*w*v
 lb:B.length=4*w*v
 b0:B[0]?=some true
 g0:g 0=idM
 kn:∀c,B[c]?=some true->O[c]?=some (aG (g c) r)/\okM (20*(cntT B:Int)) (g c)/\∀G,eA w v l G->G 0=idM->g c=G c
section
variable {w v:Nat} {l:TA} {r:Mv} {O:TN} {B:Tx} {g:TO}
def RP.step(hs:Sh w v)(h:RP w v l r O B g){a b e:Nat}(ha:a<4*w*v)(he:e<3)(hn:nbr w v a e=some b)(hba:B[a]?=some true)(hbb:B[b]?=some false) :
  RP w v l r (O.set b (aG (acM w l (g a) a b e) r)) (B.set b true) (λc=>if c=b then acM w l (g a) a b e else g c):=by
 have hb:=(iB hs ha he hn).1
 have hne:0≠b:=by rintro rfl;rw[h.b0]at hbb;cases hbb
 have hc:=gj hbb
 refine⟨by simp[h.lo],by simp[h.lb],by rw[qai (qbE hne)];exact h.b0,by rw[qd8 hne];exact h.g0,λc hcb=>?_⟩
 by_cases e1:c=b
 ·subst e1
  obtain⟨k1,k2,k3⟩:=h.kn a hba
  rw[qd7 rfl]
  refine⟨by rw[qaA (by rw[h.lo];exact hb)],?_,λG hG h0=>?_⟩
  ·have:=acM_ok hs (l:=l) ha he hn k2 (by omega)
   exact br this (by rw[hc];simp;omega)
  ·rw[k3 G hG h0]
   exact(hG a e c ha he hn).symm
 ·rw[qd8 e1,qai (qbE e1)]
  rw[qai (qbE e1)]at hcb
  obtain⟨k1,k2,k3⟩:=h.kn c hcb
  exact⟨k1,br k2 (by rw[hc];simp;omega),k3⟩
def RP.cnt(h:RP w v l r O B g):cntT B<=4*w*v:=by have:=kS B;rw[h.lb]at this;exact this
def RP.all(hs:Sh w v)(h:RP w v l r O B g)(hq:∀(j c e n:Nat),(ao w v)[j]?=some (c,e)->nbr w v c e=some n->B[c]?=B[n]?):∀c,c<4*w*v->B[c]?=some true:=by
 refine sj hs (P:=λc=>B[c]?=some true) h.b0 λc e n hc he hn hb=>?_
 obtain⟨g1,g2,_,_,g5⟩:=iB hs hc he hn
 rcases qaB c n with hlt|hge
 ·obtain⟨j,hj⟩:=qaW (qn hc he hn hlt)
  rw[←hq j c e n hj hn];exact hb
 ·obtain⟨j,hj⟩:=qaW (qn g1 he g2 (by omega))
  rw[hq j n e c hj g2];exact hb
def rr(hs:Sh w v){l:TA}{g:TO}(hg:∀c,c<4*w*v->(g c).1<8)(h:∀(j c e n:Nat),(ao w v)[j]?=some (c,e)->nbr w v c e=some n->g n=acM w l (g c) c n e):eA w v l g:=by
 intro c e n hc he hn
 obtain⟨g1,g2,g3,_,g5⟩:=iB hs hc he hn
 rcases qaB c n with hlt|hge
 ·obtain⟨j,hj⟩:=qaW (qn hc he hn hlt)
  exact h j c e n hj hn
 ·obtain⟨j,hj⟩:=qaW (qn g1 he g2 (by omega))
  have h1:=h j n e c hj g2
  rw[h1]
  unfold acM
  rw[Nat.min_comm n c]
  split
  ·rw[←cL (gS _) (gS _) (hg n g1),oJ,nh (hg n g1)]
  ·rfl
end
structure RB(H h:HL)(io ib:Nat)(O:TN)(B:Tx):Prop where
 pre:Pre H h
 o:h[io]?=some (.o (.cells (O.flatMap encM) 3 true))
 b:h[ib]?=some (.o (.cells (B.flatMap encK) 1 true))
 ne:io≠ib
 ho:H.length<=io
 hb:H.length<=ib
def RB.putO{H h:HL}{io ib:Nat}{O O':TN}{B:Tx}(hr:RB H h io ib O B):RB H (putE h io 3 encM O') io ib O' B:=
 ⟨cQ hr.pre hr.ho,bW (aM hr.o),by rw[cR (qbE hr.ne)];exact hr.b,hr.ne,hr.ho,hr.hb⟩
def RB.putB{H h:HL}{io ib:Nat}{O:TN}{B B':Tx}(hr:RB H h io ib O B):RB H (putE h ib 1 encK B') io ib O B':=
 ⟨cQ hr.pre hr.hb,by rw[cR hr.ne];exact hr.o,bW (aM hr.b),hr.ne,hr.ho,hr.hb⟩
def cvN{e:Nat}(h:e<=1000000){K:Tu}:P1.conv .i64 (Int.ofNat e) (@hid _ ⟨K⟩)=K (Int.ofNat e):=p_conv (by simp only[qar];omega) (by simp only[qar];omega)
def nq{b:Td}{m:(TE->HL->Prop)->Prop}(P:Td)(h1:∀l h,P l h->b l h)(h2:∀j:TE->HL->Prop,(∀l h,P l h->j l h)->m j):P1.join (@hid _ ⟨b⟩) (@hid _ ⟨m⟩):=h2 _ h1
def p_eqlK{t:Bool}{K:Tn}:P1.cmp .eql (if t=true then 1 else 0) 1 (@hid _ ⟨K⟩)=K t:=by
 cases t with
 |true=>exact p_eql_t (by simp)
 |false=>exact p_eql_f (by simp)
def RefR(w v:Nat)(l:TA)(r:Mv)(rs:TE)(h':HL):Prop:=
 (rs=[.v ft,.i 0]/\¬ ∃G,eA w v l G/\G 0=idM)∨∃G,ConsO w v l G/\∃ox,rs=[.v ox,.i 1]/\Ful h' ox 3 encM (plL w v G r)
def rplaces_c{w v:Nat}(hs:Sh w v){l:TA}(hkd:∀c∈l,1<=c.2.2/\c.2.2<=3)(hll:l.length<=1000){H:HL}{x:Value}(hl:LsH H x 3 encC l){r:Mv}(hr:okM 16384 r) :
  ∃rs h',aw cc ac 63 ([.i (.ofNat w),.i (.ofNat v),.v x]++mvl r) (absH aa H) rs (absH aa h')/\Pre H h'/\RefR w v l r rs h':=by
 have hN:=sh_N hs
 have hul:=(gM (gW w v hs.1 hs.2.1 hs.2.2.1 hs.2.2.2)).2.2.2.2
 obtain⟨ux,G1,cu,hU⟩:=py hs.1 hs.2.1 hs.2.2.1 hs.2.2.2 H
 obtain⟨ks,kid,h2,ck,kp,_,kk,kl,kP⟩:=kinds_c hs hkd hll (hl.pre (h':=H++G1) ⟨_,rfl⟩)
 obtain⟨sx,G3,cs,hC⟩:=vx hs h2
 have key:=x63 (ls:=[.i (.ofNat w),.i (.ofNat v),.v x,.i (Int.ofNat r.1),.i r.2.1,.i r.2.2]) (K:=λrs h'=>Pre H h'/\RefR w v l r rs h') (H:=H) (glsI (glsI (glsV hl.good (glsI (glsI (glsI gls0)))))) (by
  unfold f63;simp only[qxh]
  repeat (first|simp(disch:=omega)only[↓qXX]|refine ai cu ?_|refine ai ck ?_|refine ai cs ?_)
  have pH:Pre H (h2++G3):=(Pre.trans ⟨G1,rfl⟩ kp).app G3
  have hU:=hU.pre (kp.app G3)
  have hK:=(dO (cx:=(ao w v).length+1) gm kk kl.symm).pre (h':=h2++G3) ⟨_,rfl⟩
  generalize hkx:Value.slice (some ⟨kid,0,tag 1⟩) (ao w v).length ((ao w v).length+1)=kx at *
  generalize h2++G3=h3 at *
  clear cu ck cs kp kk
  have hunit:∀ {j c e:Nat},(ao w v)[j]?=some (c,e)->c<4*w*v/\e<3/\∃n,nbr w v c e=some n/\c<n:=λhj=>lS (qad hj)
  refine bz (σ:=Value×HL) (ao w v).length (λj s=>[.v s.1,.i (Int.ofNat j)]) (λ_ s=>s.2) (λj s=>Pre h3 s.2/\MkL h3.length s.2 s.1 1 encN ((bhL w v).take j)/\aT s.1=true) (j0:=0) (s0:=(.slice none 0 0,h3)) rfl rfl (qaS _) ⟨Pre.refl _,MkL.nil _ _ _ _,rfl⟩ ?_
  rintro j ⟨sv,h4⟩ hj ⟨hp4,hm4,hg4⟩ self hself
  simp only at hp4 hm4 hg4 hself ⊢
  refine p_x ?_
  refine bv (hU.pre hp4) ?_
  by_cases hlt:j<(ao w v).length
  ·rw[aU hlt]
   refine p_x ?_
   obtain⟨⟨c,e⟩,hu⟩:=aK hlt
   obtain⟨hc,he,n,hn,hcn⟩:=hunit hu
   repeat (first|simp(disch:=omega)only[↓qXX]|refine ew (o:=0) (k:=1) (cs:=[.int .i64 (.ofNat c)]) (hU.pre hp4) rfl hu rfl (by omega) ?_|refine ew (o:=1) (k:=1) (cs:=[.int .u8 (.ofNat e)]) (hU.pre hp4) rfl hu rfl (by omega) ?_)
   rw[cvN (by omega)]
   refine af (rnb_c hs (qad hu) hn) ?_
   refine p_x ?_
   have hbl:((bhL w v).take j).length=j:=by
    rw[qaL,show(bhL w v).length=(ao w v).length by simp[bhL]];omega
   refine ky (h0:=h3) (a:=n) hp4 hm4 rfl rfl rfl rfl (by
    unfold ca
    rw[qaa,qbb,qbb,hbl]
    omega) λv' h' hp' hm' hg' _ _=>?_
   repeat (first|simp(disch:=omega)only[↓qXX]|refine aH hg' ?_)
   rw[bB (by omega)]
   refine hself (v',h') hlt ⟨hp',?_,hg'⟩
   have:(bhL w v).take (j+1)=(bhL w v).take j++[n]:=by rw[qba,vr hu hn];rfl
   rw[this]
   exact hm'
  rw[aX (by omega)]
  refine p_x ?_
  obtain rfl:j=(ao w v).length:=by omega
  rw[qaM (by simp[bhL])]at hm4
  have hBh:=hm4.ls
  have hU:=hU.pre hp4
  have hK:=hK.pre hp4
  have hC:=hC.pre hp4
  have pH:=pH.trans hp4
  clear hm4 hp4 hj
  refine bv hC ?_
  rw[fS]
  refine au (gD (by omega)) ?_
  refine p_x ?_
  rw[show(Int.ofNat (4*w*v)).toNat=4*w*v from rfl]
  refine au hC.len ?_
  rw[fS]
  refine au (gD (by omega)) ?_
  refine p_x ?_
  rw[show(Int.ofNat (4*w*v)).toNat=4*w*v from rfl]
  have z0:HO.o (.cells (aV [.int .u8 0,.int .i64 0,.int .i64 0] (4*w*v)) 3 true)=HO.o (.cells ((List.replicate (4*w*v) idM).flatMap encM) 3 true):=by
   rw[←dA (enc:=encM) (z:=idM) (n:=4*w*v)]
   rfl
  have z1:HO.o (.cells (aV [.int .i64 0] (4*w*v)) 1 true)=HO.o (.cells ((List.replicate (4*w*v) false).flatMap encK) 1 true):=by
   rw[←dA (enc:=encK) (z:=false) (n:=4*w*v)]
   rfl
  rw[z0,z1]
  have r0:RB H (h4++[HO.o (.cells ((List.replicate (4*w*v) idM).flatMap encM) 3 true)]++[HO.o (.cells ((List.replicate (4*w*v) false).flatMap encK) 1 true)]) h4.length (h4++[HO.o (.cells ((List.replicate (4*w*v) idM).flatMap encM) 3 true)]).length (List.replicate (4*w*v) idM) (List.replicate (4*w*v) false):=
   ⟨(pH.app _).app _,Pre.get ⟨_,rfl⟩ bq,bq,by simp,pH.len,by have:=pH.len;simp;omega⟩
  have p45:Pre h4 (h4++[HO.o (.cells ((List.replicate (4*w*v) idM).flatMap encM) 3 true)]++[HO.o (.cells ((List.replicate (4*w*v) false).flatMap encK) 1 true)]):=⟨_,qaH ..⟩
  have hio:h4.length<=h4.length:=qao _
  have hib:h4.length<=(h4++[HO.o (.cells ((List.replicate (4*w*v) idM).flatMap encM) 3 true)]).length:=by simp
  generalize h4++[HO.o (.cells ((List.replicate (4*w*v) idM).flatMap encM) 3 true)]++[HO.o (.cells ((List.replicate (4*w*v) false).flatMap encK) 1 true)]=h5 at *
  generalize (h4++[HO.o (.cells ((List.replicate (4*w*v) idM).flatMap encM) 3 true)]).length=ib at *
  generalize hiod:h4.length=io at *
  have hUk:=hU.pre p45
  have hN4:0<4*w*v:=hN.1
  have old:∀ {h:HL} {O:TN} {B:Tx},RB H h io ib O B->Pre h4 h->True:=λ_ _=>trivial
  refine fA (enc:=encM) (l:=List.replicate (4*w*v) idM) (i:=0) (a:=r) bC r0.o rfl (by simpa using hN4) (by simp) rfl ?_
  have r1:=r0.putO (O':=(List.replicate (4*w*v) idM).set 0 r)
  have p46:Pre h4 (putE h5 io 3 encM ((List.replicate (4*w*v) idM).set 0 r)):=cQ p45 (by omega)
  generalize putE h5 io 3 encM ((List.replicate (4*w*v) idM).set 0 r)=h6 at *
  try simp(disch:=omega)only[↓qXX]
  refine fA (enc:=encK) (l:=List.replicate (4*w*v) false) (i:=0) (a:=true) rA r1.b rfl (by simpa using hN4) (by simp) rfl ?_
  have r2:=r1.putB (B':=(List.replicate (4*w*v) false).set 0 true)
  have p47:Pre h4 (putE h6 ib 1 encK ((List.replicate (4*w*v) false).set 0 true)):=cQ p46 (by omega)
  generalize putE h6 ib 1 encK ((List.replicate (4*w*v) false).set 0 true)=h7 at *
  try simp(disch:=omega)only[↓qXX]
  have q0:RP w v l r ((List.replicate (4*w*v) idM).set 0 r) ((List.replicate (4*w*v) false).set 0 true) (λ_=>idM):=by
   refine⟨by simp,by simp,by rw[qaA (by simpa using hN4)],rfl,λc hc=>?_⟩
   by_cases e1:c=0
   ·subst e1
    refine⟨by rw[qaA (by simpa using hN4),nh hr.1],okM_id (by omega),λG _ h0=>h0.symm⟩
   ·rw[qai (qbE e1),qaZ]at hc
    split at hc<;>cases hc
  generalize (List.replicate (4*w*v) idM).set 0 r=O0 at *
  generalize (List.replicate (4*w*v) false).set 0 true=B0 at *
  generalize (λ_:Nat=>idM)=g0 at q0
  clear r0 r1 p45 p46 hUk old z0 z1
  refine cY (m:=2*(4*w*v - cntT B0)+1) (λm ls h'=>∃(t:Bool) (O:TN) (B:Tx) (g:TO),ls=[.b t]/\RB H h' io ib O B/\Pre h4 h'/\RP w v l r O B g/\m=2*(4*w*v - cntT B)+(if t then 1 else 0)/\(t=false->∀(j c e n:Nat),(ao w v)[j]?=some (c,e)->nbr w v c e=some n->B[c]?=B[n]?)) ⟨true,O0,B0,g0,rfl,r2,p47,q0,rfl,λq=>by cases q⟩ ?_
  clear r2 p47 q0
  rintro m ls h' ⟨t,O,B,g,rfl,hr2,hp2,hq,rfl,hdone⟩ self2 hself2
  refine hidL ?_
  refine p_x ?_
  cases t with
  |true=>
   refine p_x ?_
   refine bz (σ:=HL×Bool×List Mv×List Bool×(Nat->Mv)) (ao w v).length (λj s=>[.b s.2.1,.i (Int.ofNat j)]) (λ_ s=>s.1) (λj s=>RB H s.1 io ib s.2.2.1 s.2.2.2.1/\Pre h4 s.1/\RP w v l r s.2.2.1 s.2.2.2.1 s.2.2.2.2/\cntT B<=cntT s.2.2.2.1/\(s.2.1=true->cntT B<cntT s.2.2.2.1)/\(s.2.1=false->∀(j' c e n:Nat),j'<j->(ao w v)[j']?=some (c,e)->nbr w v c e=some n->s.2.2.2.1[c]?=s.2.2.2.1[n]?)) (j0:=0) (s0:=(h',false,O,B,g)) rfl rfl (qaS _) ⟨hr2,hp2,hq,qao _,λq=>by simp at q,λ_ j' c e n q=>by omega⟩ ?_
   rintro j ⟨h8,t8,O8,B8,g8⟩ hj ⟨hr8,hp8,hq8,hc8,ht8,hf8⟩ self3 hself3
   simp only at hr8 hp8 hq8 hc8 ht8 hf8 hself3 ⊢
   refine p_x ?_
   refine bv (hU.pre hp8) ?_
   by_cases hlt:j<(ao w v).length
   case neg=>
    rw[aX (by omega)]
    refine p_x ?_
    obtain rfl:j=(ao w v).length:=by omega
    have hcn:=hq8.cnt
    refine hself2 (2*(4*w*v - cntT B8)+(if t8 then 1 else 0)) _ _ ?_ ⟨t8,O8,B8,g8,rfl,hr8,hp8,hq8,rfl,λq j' c e n hu hn=>hf8 q j' c e n (aM hu) hu hn⟩
    cases t8 with
    |true=>have:=ht8 rfl;simp;omega
    |false=>simp;omega
   rw[aU hlt,p_cond_t]
   obtain⟨⟨c,e⟩,hu⟩:=aK hlt
   obtain⟨hc,he,n,hn,hcn⟩:=hunit hu
   obtain⟨hnN,hnc,hlnn,_,_⟩:=iB hs hc he hn
   have next:∀(h9:HL) (t9:Bool) (O9:TN) (B9:Tx) (g9:TO),RB H h9 io ib O9 B9->Pre h4 h9->RP w v l r O9 B9 g9->cntT B<=cntT B9->(t9=true->cntT B<cntT B9)->(t9=false->∀(j' c e n:Nat),j'<j+1->(ao w v)[j']?=some (c,e)->nbr w v c e=some n->B9[c]?=B9[n]?)->self3 [.b t9,.i (Int.ofNat j+1)] h9:=λh9 t9 O9 B9 g9 a1 a2 a3 a4 a5 a6=>hself3 (h9,t9,O9,B9,g9) hlt ⟨a1,a2,a3,a4,a5,a6⟩
   refine nq (λl' h'=>∃(t9:Bool) (O9:TN) (B9:Tx) (g9:TO),l'=[.b t9]/\RB H h' io ib O9 B9/\Pre h4 h'/\RP w v l r O9 B9 g9/\cntT B<=cntT B9/\(t9=true->cntT B<cntT B9)/\(t9=false->∀(j' c e n:Nat),j'<j+1->(ao w v)[j']?=some (c,e)->nbr w v c e=some n->B9[c]?=B9[n]?)) ?_ ?_
   ·rintro _ _ ⟨t9,O9,B9,g9,rfl,a1,a2,a3,a4,a5,a6⟩
    refine p_x ?_
    rw[bB (by omega)]
    exact next _ t9 O9 B9 g9 a1 a2 a3 a4 a5 a6
   intro jj hjj
   have lsO:=dO (cx:=4*w*v+1) (n:=4*w*v) bC hr8.o hq8.lo.symm
   have lsB:=dO (cx:=4*w*v+1) (n:=4*w*v) rA hr8.b hq8.lb.symm
   refine ew (o:=0) (k:=1) (cs:=[.int .i64 (.ofNat c)]) (hU.pre hp8) rfl hu rfl (by omega) ?_
   refine p_x ?_
   refine aQ (hBh.pre hp8) rfl (vr hu hn) ?_
   unfold encN
   refine p_x ?_
   obtain⟨s,hsB⟩:=aK (l:=B8) (i:=c) (by rw[hq8.lb];exact hc)
   obtain⟨t,htB⟩:=aK (l:=B8) (i:=n) (by rw[hq8.lb];exact hnN)
   refine aQ lsB rfl hsB ?_
   unfold encK
   refine p_x ?_
   refine aQ lsB rfl htB ?_
   unfold encK
   refine p_x ?_
   by_cases hst:s=t
   ·subst hst
    rw[p_eql_t rfl]
    refine p_x ?_
    refine hjj _ _ ⟨t8,O8,B8,g8,rfl,hr8,hp8,hq8,hc8,ht8,λq j' c' e' n' hj' hu' hn'=>?_⟩
    by_cases ej:j'=j
    ·subst ej
     rw[hu]at hu'
     cases hu'
     rw[hn]at hn'
     cases hn'
     rw[hsB,htB]
    ·exact hf8 q j' c' e' n' (by omega) hu' hn'
   rw[p_eql_f (by cases s<;>cases t<;>simp at hst ⊢)]
   refine p_x ?_
   refine aQ lsB rfl htB ?_
   unfold encK
   refine p_x ?_
   rw[p_eqlK]
   refine nq (λl' h'=>∃a b:Nat,l'=[.i (Int.ofNat a),.i (Int.ofNat b)]/\h8=h'/\a<4*w*v/\b<4*w*v/\B8[a]?=some true/\B8[b]?=some false/\nbr w v a e=some b/\min a b=c) ?_ ?_
   ·rintro _ _ ⟨a,b,rfl,rfl,ha,hb,hBa,hBb,hab,hmin⟩
    refine p_x ?_
    refine aQ (hC.pre hp8) rfl (iR ha) ?_
    unfold aB
    repeat (first|simp(disch:=omega)only[↓qXX]|refine ew (o:=1) (k:=1) (cs:=[.int .u8 (.ofNat e)]) (hU.pre hp8) rfl hu rfl (by omega) ?_)
    rw[cvN (by omega)]
    obtain⟨kj,hkj⟩:=aK (l:=ks) (i:=j) (by rw[kl];exact hlt)
    refine aQ (hK.pre hp8) rfl hkj ?_
    unfold enc8
    refine p_x ?_
    obtain⟨k1,k2,k3⟩:=hq8.kn a hBa
    refine aQ lsO rfl k1 ?_
    unfold encM
    refine p_x ?_
    have hcnt:=hq8.cnt
    have okT:=cq k2 hr
    refine af (uN hs ha he (k:=kj) (g:=aG (g8 a) r) (br okT (by omega))) ?_
    have hkK:=(kP j (c,e) kj hu hkj).2
    rw[wF k2.1 hr.1,acK_acM hs ha he hab (by rw[hmin];exact hkK)]
    have hst8:=hq8.step hs ha he hab hBa hBb
    generalize hm:aG (acM w l (g8 a) a b e) r=m at *
    simp only[mvl]
    refine p_x ?_
    refine fA (enc:=encM) (l:=O8) (i:=b) (a:=m) bC hr8.o rfl (by rw[hq8.lo];exact hb) hq8.lo rfl ?_
    have hr9:=hr8.putO (O':=O8.set b m)
    have hp9:Pre h4 (putE h8 io 3 encM (O8.set b m)):=cQ hp8 (by omega)
    generalize putE h8 io 3 encM (O8.set b m)=h9 at *
    try simp(disch:=omega)only[↓qXX]
    refine fA (enc:=encK) (l:=B8) (i:=b) (a:=true) rA hr9.b rfl (by rw[hq8.lb];exact hb) hq8.lb rfl ?_
    have hr10:=hr9.putB (B':=B8.set b true)
    have hp10:Pre h4 (putE h9 ib 1 encK (B8.set b true)):=cQ hp9 (by omega)
    try simp(disch:=omega)only[↓qXX]
    have hcs:=gj hBb
    exact hjj _ _ ⟨true,_,_,_,rfl,hr10,hp10,hst8,by omega,λ_=>by omega,λq=>by cases q⟩
   ·intro j4 hj4
    cases t with
    |true=>
     obtain rfl:s=false:=by cases s<;>simp at hst ⊢
     refine p_x ?_
     exact hj4 _ _ ⟨n,c,rfl,rfl,hnN,hc,htB,hsB,hnc,by omega⟩
    |false=>
     obtain rfl:s=true:=by cases s<;>simp at hst ⊢
     refine p_x ?_
     exact hj4 _ _ ⟨c,n,rfl,rfl,hc,hnN,hsB,htB,hn,by omega⟩
  |false=>
   refine p_x ?_
   have hall:=hq.all hs (hdone rfl)
   have lsO:=dO (cx:=4*w*v+1) (n:=4*w*v) bC hr2.o hq.lo.symm
   have hcnt:=hq.cnt
   have hgl:∀c,c<4*w*v->okM 2000 (g c):=λc hc=>br (hq.kn c (hall c hc)).2.1 (by omega)
   refine fm (ao w v).length (λj=>∀(j' c e n:Nat),j'<j->(ao w v)[j']?=some (c,e)->nbr w v c e=some n->g n=acM w l (g c) c n e) rfl (qaS _) (λj' c e n q=>absurd q (qbX _)) ?_
   intro j hj hok self3 hself3
   refine p_x ?_
   refine bv (hU.pre hp2) ?_
   by_cases hlt:j<(ao w v).length
   ·rw[aU hlt]
    refine p_x ?_
    obtain⟨⟨c,e⟩,hu⟩:=aK hlt
    obtain⟨hc,he,n,hn,hcn⟩:=hunit hu
    obtain⟨hnN,hnc,hlnn,_,_⟩:=iB hs hc he hn
    refine ew (o:=0) (k:=1) (cs:=[.int .i64 (.ofNat c)]) (hU.pre hp2) rfl hu rfl (by omega) ?_
    refine p_x ?_
    refine aQ (hC.pre hp2) rfl (iR hc) ?_
    unfold aB
    repeat (first|simp(disch:=omega)only[↓qXX]|refine ew (o:=1) (k:=1) (cs:=[.int .u8 (.ofNat e)]) (hU.pre hp2) rfl hu rfl (by omega) ?_)
    rw[cvN (by omega)]
    obtain⟨kj,hkj⟩:=aK (l:=ks) (i:=j) (by rw[kl];exact hlt)
    refine aQ (hK.pre hp2) rfl hkj ?_
    unfold enc8
    repeat (first|simp(disch:=omega)only[↓qXX]|refine ew (o:=0) (k:=1) (cs:=[.int .i64 (.ofNat c)]) (hU.pre hp2) rfl hu rfl (by omega) ?_)
    obtain⟨k1,k2,k3⟩:=hq.kn c (hall c hc)
    obtain⟨m1,m2,m3⟩:=hq.kn n (hall n hnN)
    refine aQ lsO rfl k1 ?_
    unfold encM
    refine p_x ?_
    have okT:=cq k2 hr
    refine af (uN hs hc he (k:=kj) (g:=aG (g c) r) (br okT (by omega))) ?_
    have hkK:=(kP j (c,e) kj hu hkj).2
    rw[wF k2.1 hr.1,acK_acM hs hc he hn (by rw[qbW (by omega)];exact hkK)]
    have hinj:aG (acM w l (g c) c n e) r=aG (g n) r↔g n=acM w l (g c) c n e:=⟨λq=>(then_inj (acM_lt k2.1) m2.1 hr.1 q).symm,λq=>by rw[q]⟩
    generalize aG (acM w l (g c) c n e) r=m at *
    simp only[mvl]
    refine p_x ?_
    refine aQ (hBh.pre hp2) rfl (vr hu hn) ?_
    unfold encN
    refine p_x ?_
    refine aQ lsO rfl m1 ?_
    unfold encM
    refine p_x ?_
    rw[eqsM]
    by_cases hmm:m=aG (g n) r
    ·rw[qd6 hmm]
     simp(disch:=omega)only[↓qXX,qaF]
     rw[bB (by omega)]
     refine hself3 hlt λj' c' e' n' hj' hu' hn'=>?_
     by_cases ej:j'=j
     ·subst ej
      rw[hu]at hu'
      cases hu'
      rw[hn]at hn'
      cases hn'
      exact hinj.1 hmm
     ·exact hok j' c' e' n' (by omega) hu' hn'
    ·rw[qd5 hmm]
     simp(disch:=omega)only[↓qXX,qbF]
     refine⟨hr2.pre,.inl ⟨by trivial,?_⟩⟩
     rintro⟨G,hG,h0⟩
     refine hmm (hinj.2 ?_)
     rw[k3 G hG h0,m3 G hG h0]
     exact hG c e n hc he hn
   ·rw[aX (by omega)]
    refine p_x ?_
    obtain rfl:j=(ao w v).length:=by omega
    have hG:eA w v l g:=rr hs (λc hc=>(hgl c hc).1) λj' c e n hu hn=>hok j' c e n (aM hu) hu hn
    have hO:O=plL w v g r:=by
     apply qaR
     intro c
     by_cases hc:c<4*w*v
     ·rw[oR hc];exact(hq.kn c (hall c hc)).1
     ·rw[qah (by rw[hq.lo];omega),qah (by simp[plL];omega)]
    have hpl:(plL w v g r).length=4*w*v:=by simp[plL]
    exact⟨hr2.pre,.inr ⟨g,⟨hG,hq.g0,hgl⟩,_,rfl,io,by rw[hpl];rfl,by rw[←hO];exact hr2.o⟩⟩)
 obtain⟨rs,h',h3,h4,h5⟩:=key
 exact⟨rs,h',h3,h4,h5⟩
def yb{t x y:Int}:Cc 62 [.i t,.i x,.i y] [.i (if vMI t x y then 1 else 0)]:=by
 refine q62 rfl ?_;unfold f62;simp only[qxh]
 refine p_x ?_
 by_cases h1:7<t
 ·rw[p_gtr_t h1,qd8 (by unfold vMI;rw[qd4];omega)]
  simp(disch:=omega)only[↓qXX]
 rw[p_gtr_f (by omega)]
 refine p_x ?_
 by_cases h2:x < -16384
 ·rw[p_lss_t h2,qd8 (by unfold vMI;rw[qd4];omega)]
  simp(disch:=omega)only[↓qXX]
 rw[p_lss_f (by omega)]
 refine p_x ?_
 by_cases h3:16384<x
 ·rw[p_gtr_t h3,qd8 (by unfold vMI;rw[qd4];omega)]
  simp(disch:=omega)only[↓qXX]
 rw[p_gtr_f (by omega)]
 refine p_x ?_
 by_cases h4:y < -16384
 ·rw[p_lss_t h4,qd8 (by unfold vMI;rw[qd4];omega)]
  simp(disch:=omega)only[↓qXX]
 rw[p_lss_f (by omega)]
 refine p_x ?_
 by_cases h5:16384<y
 ·rw[p_gtr_t h5,qd8 (by unfold vMI;rw[qd4];omega)]
  simp(disch:=omega)only[↓qXX]
 rw[p_gtr_f (by omega)]
 refine p_x ?_
 rcases qcn 0 (x - y)with hs|hs
 ·rw[p_rem_nn hs (by omega)]
  by_cases h6:(x - y)%2=0
  ·rw[p_neq_f h6,qd7 (by unfold vMI;rw[qd4];omega)]
   simp(disch:=omega)only[↓qXX]
  ·rw[p_neq_t h6,qd8 (by unfold vMI;rw[qd4];omega)]
   simp(disch:=omega)only[↓qXX]
 ·rw[p_rem_np hs (by omega)]
  by_cases h6:-(-(x - y)%2)=0
  ·rw[p_neq_f h6,qd7 (by unfold vMI;rw[qd4];omega)]
   simp(disch:=omega)only[↓qXX]
  ·rw[p_neq_t h6,qd8 (by unfold vMI;rw[qd4];omega)]
   simp(disch:=omega)only[↓qXX]
def uW{m:Mv}{n:Int}(h:okM n m):Cc 62 (mvl m) [.i (if vMv m then 1 else 0)]:=by
 have e:vMI (Int.ofNat m.1) m.2.1 m.2.2=vMv m:=by
  have h1:=h.1
  have h2:=h.2.2.2.2.2
  unfold vMI vMv
  rw[decide_eq_decide]
  show((m.1:Int)<8/\_)↔_
  omega
 rw[←e]
 exact yb
def rvalidc_c{c:Cl}(hq:c.2.2<4):Cc 64 (cll c) [.i (if vCl c then 1 else 0)]:=by
 have hq3:(Int.ofNat c.2.2)<=3:=by show(c.2.2:Int)<=3;omega
 refine q64 rfl ?_;unfold f64;simp only[qxh]
 simp only[cll]
 refine p_x ?_
 by_cases h2:c.1 < -4096
 ·rw[p_lss_t h2,qd8 (by unfold vCl;rw[qd4];omega)]
  simp(disch:=omega)only[↓qXX]
 rw[p_lss_f (by omega)]
 refine p_x ?_
 by_cases h3:4096<c.1
 ·rw[p_gtr_t h3,qd8 (by unfold vCl;rw[qd4];omega)]
  simp(disch:=omega)only[↓qXX]
 rw[p_gtr_f (by omega)]
 refine p_x ?_
 by_cases h4:c.2.1 < -4096
 ·rw[p_lss_t h4,qd8 (by unfold vCl;rw[qd4];omega)]
  simp(disch:=omega)only[↓qXX]
 rw[p_lss_f (by omega)]
 refine p_x ?_
 by_cases h5:4096<c.2.1
 ·rw[p_gtr_t h5,qd8 (by unfold vCl;rw[qd4];omega)]
  simp(disch:=omega)only[↓qXX]
 rw[p_gtr_f (by omega),qd7 (by unfold vCl;rw[qd4];omega)]
 simp(disch:=omega)only[↓qXX]
def uR{w v:Nat}(hs:Sh w v){H:HL}{x lx:Value}(hx:aT x=true){G:TO}{r:Mv}(hG:∀c,c<4*w*v->okM 2000 (G c))(hr:okM 16384 r)(hL:LsH H lx 3 encM (plL w v G r)) :
  ∃ix K,aw cc ac 30 [.i (.ofNat w),.i (.ofNat v),.v x,.v lx] (absH aa H) [.v ix] (absH aa (H++K))/\LsH (H++K) ix 3 aB (imL w v G r):=by
 have hN:=sh_N hs
 obtain⟨sx,G3,cs,hC⟩:=vx hs H
 have hil:(imL w v G r).length=4*w*v:=by simp[imL]
 obtain⟨rs,h',hc,ix,rfl,⟨K,rfl⟩,h2⟩:=x30 (ls:=[.i (.ofNat w),.i (.ofNat v),.v x,.v lx]) (K:=λrs h'=>∃ix,rs=[.v ix]/\Pre H h'/\LsH h' ix 3 aB (imL w v G r)) (H:=H) (glsI (glsI (glsV hx (glsV hL.good gls0)))) (by
  unfold f30;simp only[qxh]
  repeat (first|simp(disch:=omega)only[↓qXX]|refine ai cs ?_)
  have hL:=hL.pre (h':=H++G3) ⟨_,rfl⟩
  have pH:Pre H (H++G3):=⟨_,rfl⟩
  generalize H++G3=h1 at *
  refine bz (σ:=Value×HL) (4*w*v) (λj s=>[.v s.1,.i (Int.ofNat j)]) (λ_ s=>s.2) (λj s=>Pre h1 s.2/\MkL h1.length s.2 s.1 3 aB ((imL w v G r).take j)/\aT s.1=true) (j0:=0) (s0:=(.slice none 0 0,h1)) rfl rfl (qaS _) ⟨Pre.refl _,MkL.nil _ _ _ _,rfl⟩ ?_
  rintro j ⟨sv,sh⟩ hj ⟨hp,hm,hg⟩ self hself
  simp only at hp hm hg hself ⊢
  refine p_x ?_
  refine au hC.len ?_
  rw[fS]
  by_cases hlt:j<4*w*v
  ·rw[aU hlt]
   refine p_x ?_
   refine aQ (hL.pre hp) rfl (oR hlt) ?_
   unfold encM
   refine p_x ?_
   refine aQ (hC.pre hp) rfl (iR hlt) ?_
   unfold aB
   refine p_x ?_
   have hcr:=kQ hs hlt
   refine af (rmove_c (m:=aG (G j) r) (c:=clN w j) (br (cq (hG j hlt) hr) (by omega)) hcr) ?_
   have hij:=og (G:=G) (r:=r) hlt
   generalize aZ (aG (G j) r) (clN w j)=ci at *
   simp only[cll]
   refine p_x ?_
   refine ky (h0:=h1) (a:=ci) hp hm rfl rfl rfl rfl (by
    unfold ca
    rw[qaa,qbb,qbb,qaL]
    omega) λv' h' hp' hm' hg' _ _=>?_
   repeat (first|simp(disch:=omega)only[↓qXX]|refine aH hg' ?_)
   rw[bB (by omega)]
   refine hself (v',h') hlt ⟨hp',?_,hg'⟩
   have:(imL w v G r).take (j+1)=(imL w v G r).take j++[ci]:=by rw[qba,hij];rfl
   rw[this]
   exact hm'
  ·rw[aX (by omega)]
   refine p_x ?_
   rw[qaM (by omega)]at hm
   exact⟨sv,by trivial,pH.trans hp,hm.ls⟩)
 exact⟨ix,K,hc,h2⟩
def ToldR(w v:Nat)(l:TA)(r:Mv)(rs:TE)(h':HL):Prop:=
 (rs=[.v ft,.i 11]/\¬ ∃G,eA w v l G/\G 0=idM)∨
 ∃G,ConsO w v l G/\((rs=[.v ft,.i 3]/\¬allV w G r (4*w*v))∨(∃ox,rs=[.v ox,.i 0]/\allV w G r (4*w*v)/\Ful h' ox 3 encM (plL w v G r)))
def yr{w v:Nat}(hs:Sh w v){l:TA}(hkd:∀c∈l,1<=c.2.2/\c.2.2<=3)(hll:l.length<=1000){H:HL}{x:Value}(hl:LsH H x 3 encC l){r:Mv}(hr:okM 16384 r) :
  ∃rs h',aw cc ac 26 ([.i (.ofNat w),.i (.ofNat v),.v x]++mvl r) (absH aa H) rs (absH aa h')/\Pre H h'/\ToldR w v l r rs h':=by
 have hN:=sh_N hs
 have hvm:vMv r=true:=by
  unfold vMv
  rw[qd4]
  exact⟨hr.2.1,hr.2.2.1,hr.2.2.2.1,hr.2.2.2.2.1⟩
 obtain⟨rs1,h1,c1,p1,hR⟩:=rplaces_c hs hkd hll hl hr
 have key:=x26 (ls:=[.i (.ofNat w),.i (.ofNat v),.v x,.i (Int.ofNat r.1),.i r.2.1,.i r.2.2]) (K:=λrs h'=>Pre H h'/\ToldR w v l r rs h') (H:=H) (glsI (glsI (glsV hl.good (glsI (glsI (glsI gls0)))))) (by
  unfold f26;simp only[qxh]
  refine p_x ?_
  refine af (uW hr) ?_
  rw[qd7 hvm]
  refine p_x ?_
  refine ai c1 ?_
  rcases hR with⟨rfl,hno⟩|⟨G,hG,ox,rfl,hf⟩
  ·simp(disch:=omega)only[↓qXX]
   exact⟨p1,.inl ⟨by trivial,hno⟩⟩
  refine p_x ?_
  have hL:=hf.ls bC
  obtain⟨ix,K,ci,hI⟩:=uR hs hl.good hG.ok hr hL
  refine ai ci ?_
  refine p_x ?_
  have hL:=hL.pre (h':=h1++K) ⟨_,rfl⟩
  have hf:=hf.pre (h':=h1++K) ⟨_,rfl⟩
  have p1:=p1.app K
  generalize h1++K=h2 at *
  have hpl:(plL w v G r).length=4*w*v:=by simp[plL]
  refine fm (4*w*v) (λj=>allV w G r j) rfl (qaS _) (λc q=>absurd q (qbX _)) ?_
  intro j hj hok self hself
  refine p_x ?_
  refine au hL.len ?_
  rw[hpl]
  by_cases hlt:j<4*w*v
  ·rw[aU hlt]
   refine p_x ?_
   refine aQ hL rfl (oR hlt) ?_
   unfold encM
   refine p_x ?_
   have okT:=cq (hG.ok j hlt) hr
   refine af (uW okT) ?_
   cases hv1:vMv (aG (G j) r)with
   |false=>
    simp only[qaq,if_false]
    refine p_x ?_
    exact⟨p1,.inr ⟨G,hG,.inl ⟨by trivial,λq=>by rw[(q j hlt).1]at hv1;cases hv1⟩⟩⟩
   |true=>
   simp only[if_true]
   refine p_x ?_
   refine aQ hI rfl (og hlt) ?_
   unfold aB
   refine p_x ?_
   have hq4:=(fp okT (c:=clN w j) (k:=1000) (by have:=rp hs hlt;omega)).2.2.2.2
   refine af (rvalidc_c (c:=aZ (aG (G j) r) (clN w j)) hq4) ?_
   cases hv2:vCl (aZ (aG (G j) r) (clN w j))with
   |false=>
    simp only[qaq,if_false]
    refine p_x ?_
    exact⟨p1,.inr ⟨G,hG,.inl ⟨by trivial,λq=>by rw[(q j hlt).2]at hv2;cases hv2⟩⟩⟩
   |true=>
   simp only[if_true]
   refine p_x ?_
   rw[bB (by omega)]
   exact hself hlt (hok.succ hv1 hv2)
  ·rw[aX (by omega)]
   refine p_x ?_
   obtain rfl:j=4*w*v:=by omega
   exact⟨p1,.inr ⟨G,hG,.inr ⟨_,rfl,hok,hf⟩⟩⟩)
 obtain⟨rs,h',h3,h4,h5⟩:=key
 exact⟨rs,h',h3,h4,h5⟩
def told_arg{w v t a b:Int}{H:HL}{x:Value}(hx:aT x=true)(hv:vMI t a b=false) :
  aw cc ac 26 [.i w,.i v,.v x,.i t,.i a,.i b] (absH aa H) [.v ft,.i 1] (absH aa H):=by
 exact xK x26 (glsI (glsI (glsV hx (glsI (glsI (glsI gls0)))))) (by
  unfold f26;simp only[qxh]
  refine p_x ?_
  refine af yb ?_
  rw[qd8 (by rw[hv];simp)]
  simp(disch:=omega)only[↓qXX]
  trivial)
structure BothC(ls:TE)(H:HL)(lx ix:Value)(e:Int)(h1:HL):Prop where
 c:aw cc ac 24 ls (absH aa H) [.v lx,.v ix,.i e] (absH aa h1)
 p:Pre H h1
 g1:aT lx=true
 g2:aT ix=true
section
variable {w v t a b e:Int} {x lx ix:Value} {H h1:HL} (hx:aT x=true) (hb:BothC [.i w,.i v,.v x,.i t,.i a,.i b] H lx ix e h1)
include hx hb
theorem xO:aw cc ac 27 [.i w,.i v,.v x,.i t,.i a,.i b] (absH aa H) [.v lx,.i e] (absH aa h1):=by
 exact xK x27 (glsI (glsI (glsV hx (glsI (glsI (glsI gls0)))))) (by
  unfold f27;simp only[qxh]
  repeat (first|simp(disch:=omega)only[↓qXX]|refine ai hb.c ?_)
  trivial)
theorem gy:aw cc ac 7 [.i w,.i v,.v x,.i t,.i a,.i b] (absH aa H) [.v ix,.i e] (absH aa h1):=by
 exact xK x7 (glsI (glsI (glsV hx (glsI (glsI (glsI gls0)))))) (by
  unfold f7;simp only[qxh]
  repeat (first|simp(disch:=omega)only[↓qXX]|refine ai hb.c ?_)
  trivial)
theorem up_e(he:e≠0):aw cc ac 8 [.i w,.i v,.v x,.i t,.i a,.i b] (absH aa H) [.v ft,.i e] (absH aa h1):=by
 exact xK x8 (glsI (glsI (glsV hx (glsI (glsI (glsI gls0)))))) (by
  unfold f8;simp only[qxh]
  repeat (first|simp(disch:=omega)only[↓qXX]|refine ai hb.c ?_)
  trivial)
theorem sil_e(he:e≠0):aw cc ac 28 [.i w,.i v,.v x,.i t,.i a,.i b] (absH aa H) [.v ft,.i e] (absH aa h1):=by
 have hi:=gy hx hb
 exact xK x28 (glsI (glsI (glsV hx (glsI (glsI (glsI gls0)))))) (by
  unfold f28;simp only[qxh]
  repeat (first|simp(disch:=omega)only[↓qXX]|refine ai hi ?_)
  trivial)
theorem dep_e(he:e≠0):aw cc ac 29 [.i w,.i v,.v x,.i t,.i a,.i b] (absH aa H) [.i 0,.i e] (absH aa h1):=by
 have hi:=gy hx hb
 exact xK x29 (glsI (glsI (glsV hx (glsI (glsI (glsI gls0)))))) (by
  unfold f29;simp only[qxh]
  repeat (first|simp(disch:=omega)only[↓qXX]|refine ai hi ?_)
  trivial)
end
def flips_c{m:Mv}(hm:okM 16384 m):Cc 25 (mvl m) [.b (!decide (m.1<4))]:=by
 refine q25 rfl ?_;unfold f25;simp only[qxh]
 repeat (first|simp(disch:=omega)only[↓qXX]|refine af (sd hm (by omega)) ?_)
 by_cases h:m.1<4
 ·rw[p_geq_f (show Int.ofNat m.1<4 by show(m.1:Int)<4;omega),qd6 h]
  refine p_x ?_
  rfl
 ·rw[p_geq_t (show(4:Int)<=Int.ofNat m.1 by show 4<=(m.1:Int);omega),qd5 h]
  refine p_x ?_
  rfl
def upB(m:Mv):Bool:=decide (m.1<4)
def up_c{w v t a b:Int}{x lx ix:Value}{H h1:HL}(hx:aT x=true)(hb:BothC [.i w,.i v,.v x,.i t,.i a,.i b] H lx ix 0 h1){A:TN}(hA:Ful h1 lx 3 encM A)(hok:∀m∈A,okM 16384 m)(hn:A.length<=1000) :
  ∃ux G,aw cc ac 8 [.i w,.i v,.v x,.i t,.i a,.i b] (absH aa H) [.v ux,.i 0] (absH aa (h1++G))/\Ful (h1++G) ux 1 encT (A.map upB):=by
 obtain⟨rs,h',hc,ux,G,rfl,rfl,hu⟩:=x8 (ls:=[.i w,.i v,.v x,.i t,.i a,.i b]) (K:=λrs h'=>∃ux G,rs=[.v ux,.i 0]/\h'=h1++G/\Ful (h1++G) ux 1 encT (A.map upB)) (H:=H) (glsI (glsI (glsV hx (glsI (glsI (glsI gls0)))))) (by
  unfold f8;simp only[qxh]
  repeat (first|simp(disch:=omega)only[↓qXX]|refine ai hb.c ?_)
  have hL:=hA.ls bC
  refine bv hL ?_
  refine au (gD (by omega)) ?_
  refine p_x ?_
  rw[show(Int.ofNat A.length).toNat=A.length from rfl]
  refine bv hL ?_
  have z0:h1++[HO.o (.cells (aV [.bool false] A.length) 1 true)]=newE h1 1 encT (mq false (A.map upB) 0):=by
   rw[fillZ_0,qa2]
   exact new_zeros (enc:=encT) (z:=false) rfl
  rw[z0]
  refine bz (σ:=Unit) A.length (λj _=>[.i (Int.ofNat j)]) (λj _=>newE h1 1 encT (mq false (A.map upB) j)) (λ_ _=>True) (j0:=0) (s0:=()) rfl rfl (qaS _) trivial ?_
  rintro j _ hj _ self hself
  refine p_x ?_
  by_cases hlt:j<A.length
  ·rw[aU hlt]
   refine p_x ?_
   obtain⟨m,hm⟩:=aK hlt
   refine aQ (hL.pre (newE_pre _ _ _ _)) rfl hm ?_
   unfold encM
   repeat (first|simp(disch:=omega)only[↓qXX]|refine af (flips_c (hok m (qad hm))) ?_)
   have hml:(A.map upB)[j]?=some (upB m):=by rw[qan,hm];rfl
   refine r_setN gr (a:=upB m) rfl (by rw[tR (by rw[qa2];exact hj),qa2];exact hlt) (by rw[tR (by rw[qa2];exact hj),qa2]) (by unfold encT upB;simp) ?_
   rw[fillZ_set hml]
   try simp(disch:=omega)only[↓qXX]
   rw[bB (by omega)]
   exact hself () hlt trivial
  ·obtain rfl:j=A.length:=by omega
   rw[aX (qao _)]
   refine p_x ?_
   have e1:mq false (A.map upB) A.length=A.map upB:=by
    have:=fillZ_all (z:=false) (A:=A.map upB)
    rwa [qa2]at this
   rw[e1]
   refine⟨_,_,rfl,rfl,h1.length,?_,?_⟩
   ·rw[qa2];rfl
   ·simp)
 exact⟨ux,G,hc,hu⟩
end Go.Am
namespace Go.Am
namespace Sx
section
variable [Val] [Kno] {C:Cfg} {T:Tt}
abbrev K3:=Int×Int×Nat
def cc3(k:K3):Tl:=[.int .i64 k.1,.int .i64 k.2.1,.int .u8 (Int.ofNat k.2.2)]
def kv3(k:K3):Value:=.agg ⟨cc3 k⟩
abbrev kk3:TI:=[.i .i64,.i .i64,.i .u8]
def difK_3(a b:K3):difK kk3 (cc3 a) (cc3 b)=some (decide (a=b)):=by
 have e1:dC .i64 .i64=true:=rfl
 have e2:dC .u8 .u8=true:=rfl
 obtain⟨a1,a2,a3⟩:=a
 obtain⟨b1,b2,b3⟩:=b
 simp only[cc3,difK,e1,e2,rG,qbY]
 have e3:decide (Int.ofNat a3=Int.ofNat b3)=decide (a3=b3):=decide_eq_decide.2 ⟨λh=>qcC h,λh=>by rw[h]⟩
 rw[e3]
 by_cases h1:a1=b1<;>by_cases h2:a2=b2<;>by_cases h3:a3=b3<;>simp[h1,h2,h3]
def find3(k:K3):∀ {es:Th} {ks:List K3} (i:Nat),es.map (·.key)=ks.map kv3->jc kk3 (cc3 k) es i=some ((ks.idxOf? k).map (i + ·))
 | [],[],i,_=>rfl
 | [],_ :: _,i,h=>by simp at h
 |_ :: _,[],i,h=>by simp at h
 |e :: es,q :: ks,i,h=>by
  simp only[qav,qaV]at h
  have ih:=find3 k (i+1) h.2
  have hq:jc kk3 (cc3 k) (e :: es) i=if k=q then some (some i)else jc kk3 (cc3 k) es (i+1):=by
   simp only[jc,h.1,kv3]
   rw[difK_3]
   by_cases hk:k=q<;>simp[hk]
  rw[hq,qdb]
  by_cases hk:k=q
  ·subst hk
   simp
  ·rw[qd8 hk,ih,qd8 (by simp;exact λe=>hk e.symm),qd0]
   congr 2
   funext j
   simp only[Function.comp];omega
variable {kt:TP} (h1:aggT C.P kt=some true) (h2:flatK C.P 10000 kt=some kk3)
include h1 h2
theorem keyF_3(k:K3):keyF C.P kt (kv3 k)=true:=by
 have e1:dC .i64 .i64=true:=rfl
 have e2:dC .u8 .u8=true:=rfl
 unfold keyF kv3 cc3
 simp only[h1,h2,jx,e1,e2,rG]
 simp
theorem findF_3(k:K3){es:Th}{r:Tp}(hr:jc kk3 (cc3 k) es 0=some r):pL C.P kt (kv3 k) es=some r:=by
 unfold pL kv3
 simp only[h1,h2,mX,hr]
def ent3(ps:List (K3×Nat)):Th:=ps.mapIdx λi p=>{ key:=kv3 p.1,val:=.int .i64 (Int.ofNat p.2),born:=i }
def cnt3(ps:List (K3×Nat))(k:K3):Nat:=match (ps.map (·.1)).idxOf? k with
 |some j=>(ps[j]?.map (·.2)).getD 0
 |none=>0
def cX(k:K3)(ps:List (K3×Nat)):List (K3×Nat):=match (ps.map (·.1)).idxOf? k with
 |some _=>ps
 |none=>ps++[(k,0)]
omit h1 h2 in
theorem wU(ps:List (K3×Nat)):(ent3 ps).map (·.key)=(ps.map (·.1)).map kv3:=by
 unfold ent3
 apply qaR
 intro i
 simp only[qan,qbZ,qd0]
 rfl
omit h1 h2 in
theorem ent3_len(ps:List (K3×Nat)):(ent3 ps).length=ps.length:=by simp[ent3]
omit h1 h2 in
theorem tZ{ps:List (K3×Nat)}{k:K3}{j:Nat}(h:(ps.map (·.1)).idxOf? k=some j):∃n,ps[j]?=some (k,n):=by
 obtain⟨hj,h3,_⟩:=qdC.1 h
 have hj':j<ps.length:=by simpa using hj
 refine⟨ps[j].2,?_⟩
 rw[qau hj']
 congr 1
 refine qdj ?_ rfl
 simpa using h3
omit h1 h2 in
theorem sb{h:HL}{id c:Nat}{es:Th}(hm:h[id]?=some (.o (.map es c))):mapG (getH T h) id=some (es,c):=by
 unfold mapG
 rw[cp hm]
theorem lu3{h:HL}{id c:Nat}{ps:List (K3×Nat)}(hm:h[id]?=some (.o (.map (ent3 ps) c)))(k:K3) :
  luG C kt false (.int .i64 0) (.map (some id)) (kv3 k) false (getH T h)=some [.int .i64 (Int.ofNat (cnt3 ps k))]:=by
 unfold luG
 rw[keyF_3 h1 h2]
 simp only[qaF,qaq,if_false]
 rw[sb hm]
 simp only
 rw[findF_3 h1 h2 k (find3 k 0 (wU ps))]
 unfold cnt3
 cases hi:(ps.map (·.1)).idxOf? k with
 |none=>simp[eZ]
 |some j=>
  obtain⟨n,hn⟩:=tZ hi
  simp only[qax,qaN]
  have hv:eD (ent3 ps) j=some (.int .i64 (Int.ofNat n)):=by
   unfold eD ent3
   rw[qbZ,hn]
   rfl
  rw[hv,hn]
  simp[eZ]
theorem me3{h:HL}{id n:Nat}{ps:List (K3×Nat)}(hm:h[id]?=some (.o (.map (ent3 ps) ps.length)))(k:K3) :
  ∃j m,(cX k ps)[j]?=some (k,m)/\((cX k ps).map (·.1)).idxOf? k=some j/\meG C kt false (.int .i64 0) (.map (some id)) (kv3 k) (getH T h) n=some ([.set id (.map (ent3 (cX k ps)) (cX k ps).length)],[.int .i64 (Int.ofNat m),.int .i64 (Int.ofNat j)]):=by
 unfold meG
 simp only
 rw[keyF_3 h1 h2]
 simp only[qaF,qaq,if_false]
 rw[sb hm]
 simp only
 rw[findF_3 h1 h2 k (find3 k 0 (wU ps))]
 unfold cX
 cases hi:(ps.map (·.1)).idxOf? k with
 |none=>
  refine⟨ps.length,0,by simp,?_,?_⟩
  ·rw[qdC]
   have hn:k∉ps.map (·.1):=List.idxOf?_eq_none_iff.1 hi
   refine⟨by simp,by simp,λj hj=>?_⟩
   have hj':j<ps.length:=hj
   simp only[qbN,qav,qbl]
   rw[List.getElem_append_left (by simpa using hj')]
   intro e
   exact hn (e▸qcL _)
  ·simp[eZ,ent3,List.mapIdx_append]
 |some j=>
  obtain⟨m,hm'⟩:=tZ hi
  refine⟨j,m,hm',hi,?_⟩
  simp only[qax,qaN]
  have he:(ent3 ps)[j]?=some { key:=kv3 k,val:=.int .i64 (Int.ofNat m),born:=j }:=by
   unfold ent3
   rw[qbZ,hm']
   rfl
  rw[he]
  have hs:Instr.sameBits 10000 (kv3 k) (kv3 k)=true:=by
   simp[kv3,cc3,Instr.sameBits]
  simp only[hs,if_true,eZ]
  have hmod:(ent3 ps).modify j (λe=>{ e with key:=kv3 k })=ent3 ps:=by
   apply qaR
   intro i
   rw[qdg]
   split
   next hij=>
    subst hij
    rw[he];rfl
   ·simp
  rw[hmod]
  rfl
end
section
variable [Val] [Kno] {T:Tt}
def es3{h:HL}{id n:Nat}{ps:List (K3×Nat)}(hm:h[id]?=some (.o (.map (ent3 ps) ps.length))){j:Nat}{k:K3}{m m':Nat}(hj:ps[j]?=some (k,m)) :
  esG (.map (some id)) (Int.ofNat j) (.int .i64 (Int.ofNat m')) (getH T h) n=some ([.set id (.map (ent3 (ps.set j (k,m'))) (ps.set j (k,m')).length)],[]):=by
 unfold esG
 simp only
 rw[sb hm]
 simp only
 have hjl:j<ps.length:=by
  rcases qaB j ps.length with h|h
  ·exact h
  ·rw[qah h]at hj;cases hj
 have hf:(ent3 ps).findIdx? (λe=>(e.born:Int)==Int.ofNat j)=some j:=by
  rw[qcf]
  refine⟨by rw[ent3_len];exact hjl,by simp[ent3],λi hi=>?_⟩
  simp[ent3]
  omega
 rw[hf]
 simp only[qbD]
 congr 5
 apply qaR
 intro i
 unfold ent3
 rw[qdg,qbZ,qbZ]
 by_cases hij:j=i
 ·subst hij
  rw[qaA hjl,hj]
  simp
 ·rw[qai hij]
  simp[hij]
def idx_app{k q:K3}(h:q≠k):∀l:List K3,(l++[k]).idxOf? q=l.idxOf? q
 | []=>by
  rw[qaG,qdb,qd8 (by simp;exact qbE h)]
  rfl
 |a :: l=>by rw[qaI,qdb,qdb,idx_app h l]
def bump3{ps:List (K3×Nat)}{k:K3}{j n:Nat}(hi:((cX k ps).map (·.1)).idxOf? k=some j)(q:K3):cnt3 ((cX k ps).set j (k,n)) q=if q=k then n else cnt3 ps q:=by
 obtain⟨m,hj⟩:=tZ hi
 have hjl:=aM hj
 have hk:((cX k ps).set j (k,n)).map (·.1)=(cX k ps).map (·.1):=by
  rw[qc7]
  refine ed ?_
  rw[qan,hj];rfl
 unfold cnt3
 rw[hk]
 by_cases hq:q=k
 ·subst hq
  rw[hi,qd7 rfl]
  simp only
  rw[qaA hjl];rfl
 ·rw[qd8 hq]
  have e1:((cX k ps).map (·.1)).idxOf? q=(ps.map (·.1)).idxOf? q:=by
   unfold cX
   split
   ·rfl
   ·rw[qbN]
    exact idx_app hq _
  rw[e1]
  cases hi2:(ps.map (·.1)).idxOf? q with
  |none=>rfl
  |some i=>
   obtain⟨m2,h2⟩:=tZ hi2
   simp only
   have hij:j≠i:=by
    rintro rfl
    rw[←e1]at hi2
    obtain⟨m3,h3⟩:=tZ hi2
    rw[hj]at h3
    cases h3
    exact hq rfl
   rw[qai hij]
   unfold cX
   split
   ·rfl
   ·rw[qag (aM h2)]
end
end Sx
end Go.Am
namespace Go.Am
open Sx Go.Proofs
def MaxC(L:TM)(m:Nat):Prop:=(∀k,L.count k<=m)/\(m=0∨∃k∈L,L.count k=m)
def MaxC.nil:MaxC [] 0:=⟨λk=>by simp,.inl rfl⟩
def MaxC.eq{L:TM}{m n:Nat}(h:MaxC L m)(h':MaxC L n):m=n:=by
 have key:∀ {a b:Nat},MaxC L a->MaxC L b->a<=b:=λ{a b} ha hb=>by
  rcases ha.2 with e|⟨k,_,hk⟩
  ·omega
  ·have:=hb.1 k;omega
 have:=key h h';have:=key h' h;omega
def MaxC.snoc{L:TM}{m:Nat}(h:MaxC L m)(c:Cl):MaxC (L++[c]) (max m (L.count c+1)):=by
 have hc:∀k,(L++[c]).count k=if k=c then L.count c+1 else L.count k:=λk=>by
  rw[qdy,qde]
  by_cases e:k=c
  ·subst e;simp
  ·rw[qd8 e,qd8 (by simpa using qbE e)];omega
 refine⟨λk=>?_,.inr ?_⟩
 ·rw[hc]
  have:=h.1 k
  split<;>omega
 ·by_cases hm:m<=L.count c+1
  ·exact⟨c,by simp,by rw[hc,qd7 rfl];omega⟩
  ·rcases h.2 with e|⟨k,hk,hkm⟩
   ·omega
   ·have hne:k≠c:=λe=>by subst e;omega
    exact⟨k,by simp[hk],by rw[hc,qd8 hne];omega⟩
def dep_c{w v t a b:Int}{x lx ix:Value}{H h1:HL}(hx:aT x=true)(hb:BothC [.i w,.i v,.v x,.i t,.i a,.i b] H lx ix 0 h1){I:TM}(hI:Ful h1 ix 3 aB I)(hn:I.length<=1000) :
  ∃m G,MaxC I m/\aw cc ac 29 [.i w,.i v,.v x,.i t,.i a,.i b] (absH aa H) [.i (.ofNat m),.i 0] (absH aa (h1++G)):=by
 have hi:=gy hx hb
 obtain⟨rs,h',hc,m,G,rfl,rfl,hm⟩:=x29 (ls:=[.i w,.i v,.v x,.i t,.i a,.i b]) (K:=λrs h'=>∃(m:Nat) (G:HL),rs=[.i (.ofNat m),.i 0]/\h'=h1++G/\MaxC I m) (H:=H) (glsI (glsI (glsV hx (glsI (glsI (glsI gls0)))))) (by
  unfold f29;simp only[qxh]
  repeat (first|simp(disch:=omega)only[↓qXX]|refine ai hi ?_)
  have hL:=hI.ls bG
  refine bv hL ?_
  refine bz (σ:=Nat×List (K3×Nat)) I.length (λj s=>[.i (Int.ofNat s.1),.i (Int.ofNat j)]) (λ_ s=>h1++[HO.o (.map (ent3 s.2) s.2.length)]) (λj s=>MaxC (I.take j) s.1/\∀k,cnt3 s.2 k=(I.take j).count k) (j0:=0) (s0:=(0,[])) rfl rfl (qaS _) ⟨by simpa using MaxC.nil,λk=>by simp[cnt3]⟩ ?_
  rintro j ⟨m,ps⟩ hj ⟨hm,hps⟩ self hself
  simp only at hm hps hself ⊢
  refine p_x ?_
  by_cases hlt:j<I.length
  ·rw[aU hlt]
   refine p_x ?_
   obtain⟨c,hc⟩:=aK hlt
   refine aQ (hL.pre ⟨_,rfl⟩) rfl hc ?_
   unfold aB
   refine p_x ?_
   have ht:I.take (j+1)=I.take j++[c]:=by rw[qba,hc];rfl
   refine eG (lu3 (C:=cc) (T:=aa) (by kernel_rfl) (by kernel_rfl) bq c) ?_
   refine p_x ?_
   have hb1:(I.take j).count c<=1000:=qbt List.count_le_length (by rw[qaL];omega)
   rw[hps c,bB (by omega)]
   obtain⟨i,m0,g1,g2,g3⟩:=me3 (C:=cc) (T:=aa) (by kernel_rfl) (by kernel_rfl) (n:=(h1++[HO.o (.map (ent3 ps) ps.length)]).length) bq c
   refine cU g3 ?_
   have e1:bS (h1++[HO.o (.map (ent3 ps) ps.length)]) [.set h1.length (.map (ent3 (cX c ps)) (cX c ps).length)]=h1++[HO.o (.map (ent3 (cX c ps)) (cX c ps).length)]:=ny
   rw[e1]
   refine p_x ?_
   have g4:=es3 (T:=aa) (h:=h1++[HO.o (.map (ent3 (cX c ps)) (cX c ps).length)]) (id:=h1.length) (n:=(h1++[HO.o (.map (ent3 (cX c ps)) (cX c ps).length)]).length) bq g1 (m':=(I.take j).count c+1)
   refine cU g4 ?_
   have hb3:=bump3 (n:=(I.take j).count c+1) g2
   generalize hps':(cX c ps).set i (c,(I.take j).count c+1)=ps' at *
   have e2:bS (h1++[HO.o (.map (ent3 (cX c ps)) (cX c ps).length)]) [.set h1.length (.map (ent3 ps') ps'.length)]=h1++[HO.o (.map (ent3 ps') ps'.length)]:=ny
   rw[e2]
   refine eG (lu3 (C:=cc) (T:=aa) (by kernel_rfl) (by kernel_rfl) bq c) ?_
   refine p_x ?_
   have hcc:cnt3 ps' c=(I.take j).count c+1:=by rw[hb3,qd7 rfl]
   rw[hcc]
   have fin:self [.i (Int.ofNat (max m ((I.take j).count c+1))),.i (Int.ofNat j+1)] (h1++[HO.o (.map (ent3 ps') ps'.length)]):=hself (max m ((I.take j).count c+1),ps') hlt ⟨by rw[ht];exact hm.snoc c,λk=>by
    rw[ht,qdy,qde,hb3,hps]
    by_cases e:k=c
    ·subst e;simp
    ·rw[qd8 e,qd8 (by simpa using qbE e)];rfl⟩
   by_cases hlm:m<(I.take j).count c+1
   ·rw[aU hlm]
    refine p_x ?_
    rw[bB (by omega)]
    rw[Nat.max_eq_right (by omega)]at fin
    exact fin
   ·rw[aX (by omega)]
    refine p_x ?_
    rw[bB (by omega)]
    rw[Nat.max_eq_left (by omega)]at fin
    exact fin
  ·obtain rfl:j=I.length:=by omega
   rw[aX (qao _)]
   refine p_x ?_
   rw[qbk]at hm
   exact⟨m,_,rfl,rfl,hm⟩)
 exact⟨m,G,hm,hc⟩
end Go.Am
namespace Go.Am
open Sx Go.Proofs Go.Shelf Go.Lib Go.Sort
section
variable [Val]
def wr_below [Glo]{C:Cfg}{base:Nat}{mu:HMap}{H:Ts}{w w':World}(h:WR C base mu H w)(hb:Go.RowKit.Below w.heap.size w w')(hd:w.drawn<=w'.drawn):WR C base mu H w'/\Evo H mu w H mu w':=by
 refine⟨⟨λid o h1 h2=>?_,h.inj,h.own,h.ro,h.dom,λg vs hg=>?_⟩,⟨qao _,λ_ _=>rfl,hb.size,λb hb' _=>hb.block b hb',λb h=>.inr h,hb.os,hb.tape,hb.output,hd⟩⟩
 ·obtain⟨p,h3,h4⟩:=h.obj id o h1 h2
  exact⟨p,h3,by rw[hb.block _ (jD h2 h4)];exact h4⟩
 ·obtain⟨h1,h2,c,e,fr,h3,h4⟩:=h.glob g vs hg
  exact⟨h1,h2,c,e,fr,by rw[hb.block _ (qaD.1 h3).1];exact h3,h4⟩
def zx{W w':World}(h1:w'.os=W.os)(h2:w'.tape=W.tape)(h3:w'.output=W.output)(h4:W.drawn<=w'.drawn)(h5:W.heap.size<=w'.heap.size)(h6:∀b,b<W.heap.size->w'.heap[b]?=W.heap[b]?):∃q os',w'=grow (W.drewN q) os':=by
 refine⟨w'.drawn - W.drawn,w'.heap.extract W.heap.size w'.heap.size,?_⟩
 have e:w'.heap=W.heap++w'.heap.extract W.heap.size w'.heap.size:=by
  apply qcR
  intro i
  rw[Array.getElem?_append]
  split
  next hi=>exact h6 i hi
  next hi=>
   rw[Array.getElem?_extract]
   split
   ·congr 1;omega
   ·rw[qa6 (by omega)]
 obtain⟨hp,tp,dr,os,out⟩:=w'
 simp only at h1 h2 h3 h4 e
 subst h1 h2 h3
 unfold grow World.drewN
 simp only
 rw[←e,show W.drawn+(dr - W.drawn)=dr by omega]
def xd{α:Type} [Inhabited α]{enc:α->Tl}{e:Nat}(hk:∀x,(enc x).length=e){l:List α}{t:Nat}(ht:t<l.length*e):(l.flatMap enc)[t]?=some (Go.Sort.flatK enc e l.toArray)[t]!:=by
 rw[Go.Sort.get_flatK enc e l.toArray t (by simpa using ht)]
 have he:0<e:=by
  rcases qcx e with h|h
  ·subst h;simp at ht
  ·exact h
 have hq:t / e<l.length:=Nat.div_lt_of_lt_mul (by rw[Nat.mul_comm];exact ht)
 have h1:=kZ (e:=e) (enc:=enc) (l:=l) (λa _=>hk a) (i:=t / e) (a:=l[t / e]) (qau hq)
 have hr:=qbS t he
 have e1:t=t / e*e+t%e:=by rw[Nat.mul_comm];exact(Nat.div_add_mod t e).symm
 have h2:((l.flatMap enc).drop (t / e*e))[t%e]?=(enc l[t / e])[t%e]?:=by
  rw[←h1,qa4,qd7 hr]
 rw[qa5,←e1]at h2
 rw[h2]
 have h3:(l.toArray)[t / e]! = l[t / e]:=by simp[hq]
 rw[h3,qau (by rw[hk];exact hr),List.getElem!_eq_getElem?_getD,qau (by rw[hk];exact hr)]
 rfl
def holds_of{α:Type} [Inhabited α]{enc:α->Tl}{e:Nat}(hk:∀x,(enc x).length=e)(hs:∀x,∀v∈enc x,Am.scalar v=true) [Glo]{mu:HMap}{p:Pl}{w:World}{l:List α}(hr:objR mu p w.heap[p.b]? (.cells (l.flatMap enc) e true)):HoldsK enc e w p.b p.o l.toArray:=by
 obtain⟨_,_,_,c,t,fr,h4,h5,h6,h7⟩:=hr
 obtain rfl:=h6 rfl
 intro j hj
 rw[Go.Sort.size_flatK]at hj
 have h1:=xd (enc:=enc) hk (l:=l) (t:=j) (by simpa using hj)
 obtain⟨v',h8,h9⟩:=h7 j _ h1
 have hsc:Am.scalar (Go.Sort.flatK enc e l.toArray)[j]! = true:=by
  have hm:=qad h1
  obtain⟨a,_,ha⟩:=qbn.1 hm
  exact hs a _ ha
 have:=bH hsc h9
 subst this
 exact⟨by simp[World.cell?,h4,h8],by simp[World.frozen?,h4]⟩
def zr{C:Cfg}{base:Nat}{mu:HMap}{H:Ts}{w:World} [Glo](hW:WR C base mu H w){α:Type} [Inhabited α]{enc:α->Tl}{e:Nat}(hk:∀x,(enc x).length=e)(hs:∀x,∀v∈enc x,Am.scalar v=true){id:Nat}{p:Pl}{l l':List α}
  (hid:H[id]?=some (.cells (l.flatMap enc) e true)) (hp:mu id=some p) (hl:l'.length=l.length) (n:Nat) (os:Array Obj) :
  WR C base mu (H.set id (.cells (l'.flatMap enc) e true)) (sortWorldK enc e w p.b p.o n l'.toArray os)/\Evo H mu w (H.set id (.cells (l'.flatMap enc) e true)) mu (sortWorldK enc e w p.b p.o n l'.toArray os):=by
 obtain⟨p',hp',hr⟩:=hW.obj id _ hid rfl
 rw[hp]at hp'
 cases hp'
 obtain⟨h1,h2,h3,c,t,fr,h4,h5,h6,h7⟩:=hr
 have hll:(l'.flatMap enc).length=l'.length*e:=aO λa _=>hk a
 have hl0:(l.flatMap enc).length=l.length*e:=aO λa _=>hk a
 have hset:=hW.set (w':=Go.Sort.putRowK enc e (Go.Sort.ahead w n) p.b p.o l'.toArray) (x:=.cells (Go.Sort.putCells (λv:Value=>v) p.o (Go.Sort.flatK enc e l'.toArray) c) t fr) hid rfl hp (by
   apply qcR
   intro i
   show(w.heap.modify p.b _)[i]?=_
   rw[qc5,qa3]
   split
   next hi=>
    subst hi
    rw[h4,qd7 (qaD.1 h4).1]
    rfl
   ·rfl) rfl rfl rfl (.cells (l'.flatMap enc) e true) (λ_=>rfl) ⟨h1,by rw[hll,hl,←hl0];exact h2,by
    rw[qab]
    intro v hv
    obtain⟨a,_,ha⟩:=qbn.1 hv
    exact eK (hs a v ha),_,t,fr,rfl,by simp[Go.Sort.putCells,h5],h6,λi v hv=>by
    have hi:i<l'.length*e:=by rw[←hll];exact(qaQ.1 hv).1
    have hF:=xd (enc:=enc) hk (l:=l') hi
    rw[hv]at hF
    obtain⟨u,hu⟩ : ∃u,c[p.o+i]?=some u:=⟨c[p.o+i]'(by rw[h5];rw[hl0]at h2;rw[hl]at hi;omega),qa7 _⟩
    refine⟨v,?_,?_⟩
    ·simp only[Go.Sort.putCells,Array.getElem?_mapIdx,hu,qax]
     rw[qd7 ⟨by omega,by rw[Go.Sort.size_flatK];simpa using hi⟩,show p.o+i - p.o=i by omega,←qap hF]
    ·obtain⟨a,_,ha⟩:=qbn.1 (qad hv)
     exact .scalar (hs a v ha)⟩ (qdH _ _)
 obtain⟨a1,a2⟩:=hset
 obtain⟨b1,b2⟩:=wr_below (w':=sortWorldK enc e w p.b p.o n l'.toArray os) a1 ⟨rfl,rfl,rfl,by unfold sortWorldK grow;simp,λk hk=>by
  unfold sortWorldK grow
  simp only
  rw[qcE hk]⟩ (qao _)
 exact⟨b1,a2.trans b2⟩
def cmp_lays{C:Cfg}(hG:∀g vs,C.G g=some vs->vs.all gfl=true){α:Type} [Inhabited α]{enc:α->Tl}{e:Nat}{cf:α->α->Int}{g:TQ}(hs:∀x,∀v∈enc x,Am.scalar v=true)
  (hc:∀x y,dc C g [.agg ⟨enc x⟩,.agg ⟨enc y⟩] [] (.int .i64 (cf x y)) []) [glo:Glo] {base:Nat} {mu:HMap} {H:Ts} {w:World} (hW:WR C base mu H w) {blk:Nat} (hblk:base<=blk) (off n:Nat):CmpLays C.P g #[] enc e cf blk off n w:=by
 intro m os dk _ x y cs
 have hsame:∀b t,b<base->w.heap[b]?=some t->(sortWorldK enc e w blk off m dk os).heap[b]?=some t:=λb t hb' ht=>by
  unfold sortWorldK grow
  simp only
  rw[qcE (by rw[show(Go.Sort.putRowK enc e (Go.Sort.ahead w m) blk off dk).heap.size=w.heap.size from Go.Sort.size_putRow _ _ _ _ _];exact(qaD.1 ht).1)]
  show(w.heap.modify blk _)[b]?=_
  rw[qc5,qd8 (by omega)]
  exact ht
 generalize sortWorldK enc e w blk off m dk os=W at *
 have hW0:WR C W.heap.size (λ_=>none) [] W:=
  ⟨λid o h=>by simp at h,λi j oi oj pi pj h=>by simp at h,λi o p h=>by simp at h,λi o p h=>by simp at h,λ_ _=>rfl,λg vs hg=>by
   obtain⟨h1,h2,c,t,fr,h3,h4⟩:=hW.glob g vs hg
   have h5:=hsame _ _ h1 h3
   exact⟨(qaD.1 h5).1,h2,c,t,fr,h5,iU (hG g vs hg) h4⟩⟩
 have hag:∀x:α,VR noL (λ_=>none) (.agg ⟨enc x⟩) (.agg ⟨enc x⟩):=λx=>.agg rfl λi u v hu hv=>by
  rw[hu]at hv
  cases hv
  exact .scalar (hs x u (qad (by simpa using hu)))
 obtain⟨v,mu',w',a1,a2,a3,a4,fr,b1,b2,b3⟩:=hc x y glo W.heap.size (λ_=>none) W #[.agg (enc x).toArray,.agg (enc y).toArray] (qao _) (VRs.cons (hag x) (VRs.cons (hag y) .nil)) hW0 cs
 rw[show(#[Value.agg (enc x).toArray,Value.agg (enc y).toArray] ++ #[]) = #[Value.agg (enc x).toArray,Value.agg (enc y).toArray]by simp]
 exact⟨.returned v,w',fr,⟨by rw[bH rfl a1],zx a3.os a3.tape a3.output a3.dr a3.size λb hb=>a3.keep b hb no_own⟩,b1,b2,b3⟩
def srt{α:Type} [Inhabited α](cf:α->α->Int)(l:List α):List α:=(pdq (ltOf cf) l.toArray 0 l.length (Lib.bitLen l.length) true true).toList
def vh{α:Type} [Inhabited α]{cf:α->α->Int}(hO:SWO (ltOf cf))(l:List α):PermIn 0 l.length l.toArray (srt cf l).toArray/\SortedIn (ltOf cf) 0 l.length (srt cf l).toArray:=by
 have h:=pdq_sorts (ltOf cf) hO l.toArray 0 l.length (Lib.bitLen l.length) true true (qaS _) (by simp) (Or.inl rfl)
 unfold srt
 simpa using h
def srt_perm{α:Type} [Inhabited α]{cf:α->α->Int}(hO:SWO (ltOf cf))(l:List α):(srt cf l).Perm l:=by
 have h:=(vh hO l).1.2.2
 have hl:(srt cf l).length=l.length:=by
  have:=(vh hO l).1.1
  simpa using this
 simpa[List.extract_eq_take_drop,hl,qaM]using h
def srt_pair{α:Type} [Inhabited α]{cf:α->α->Int}(hO:SWO (ltOf cf))(l:List α):(srt cf l).Pairwise λx y=>ltOf cf y x=false:=by
 have hl:(srt cf l).length=l.length:=by
  have:=(vh hO l).1.1
  simpa using this
 rw[qdw]
 intro i j hi hj hij
 have h:=(vh hO l).2 i j (qaS _) hij (by omega)
 simpa[hi,hj]using h
def wt{C:Cfg}(hG:∀g vs,C.G g=some vs->vs.all gfl=true){ρ:Ren}(L:SlLaysF0.n6 C.P ρ){α:Type} [Inhabited α]{enc:α->Tl}{e:Nat}(aE:∀w,(isAgg (ρ.t 24)).run C.P w = .ok true w)(zE:∀w,(Go.sizeOf (ρ.t 24)).run C.P w = .ok e w)
  (hk:∀x,(enc x).length=e) (hs:∀x,∀v∈enc x,Am.scalar v=true) {cf:α->α->Int} (hO:SWO (ltOf cf)) {g:TQ} (eg:∀args w,(callFunc g args).run C.P w = .ok (.enter g args) w)
  (hc:∀x y,dc C g [.agg ⟨enc x⟩,.agg ⟨enc y⟩] [] (.int .i64 (cf x y)) []) {H:Ts} {id n cx:Nat} {l:List α} (hid:H[id]?=some (.cells (l.flatMap enc) e true)) (hn:n=l.length) (h0:0<n) (hl:n<4611686018427387904) :
  dc C (ρ.f 6) [.slice (some ⟨id,0,tag e⟩) n cx,.func (.func g) ⟨[]⟩ ⟨[]⟩] H (.tuple #[]) (H.set id (.cells ((srt cf l).flatMap enc) e true)):=by
 subst hn
 intro glo base mu w args' hb hargs hW cs
 obtain⟨v1,vs1,h1,h2,h3⟩:=hargs.uncons
 obtain⟨v2,vs2,rfl,h5,h6⟩:=h3.uncons
 obtain rfl:=h6.unnil
 have hargs':args' = #[v1,v2]:=qbc.1 h1
 subst hargs'
 obtain⟨p,cap,hp,rfl⟩ : ∃p cap,mu id=some p/\v1 = .slice (some ⟨p.b,p.o,none⟩) l.length cap:=by
  clear hid hl
  generalize l.length=N at *
  cases h2 with
  |scalar h=>simp[Am.scalar]at h
  |hslice h hr hl' hx=>exact⟨_,_,h,rfl⟩
  |hslice0 hx=>omega
 obtain⟨a',b',rfl,ha,hb'⟩ : ∃a' b',v2 = .func (.func g) a' b'/\a'.size=0/\b'.size=0:=by
  cases h5 with
  |scalar h=>simp[Am.scalar]at h
  |func hf ha hb _ _=>exact⟨_,_,rfl,ha.symm,hb.symm⟩
 obtain rfl:=qc4 ha
 obtain rfl:=qc4 hb'
 obtain⟨p',hp',hr⟩:=hW.obj id _ hid rfl
 rw[hp]at hp'
 cases hp'
 have hcon:=AnyQ.slices_SortFunc_eq L e aE zE enc hk (λx v hv=>by
  have:=hs x v hv
  unfold Am.scalar at this
  split at this<;>first|rfl|cases this) cf hO g #[] p.b p.o cap l.toArray w eg (cmp_lays hG hs hc hW (hW.own id _ p hid rfl hp) p.o l.toArray.size) (holds_of hk hs hr) (jD rfl hr) (by simpa using hl)
 obtain⟨e',w',fr,⟨rfl,n,os,rfl⟩,b1,b2,b3⟩:=hcon cs
 have hlen:(srt cf l).length=l.length:=by
  have:=(vh hO l).1.1
  simpa using this
 obtain⟨c1,c2⟩:=zr (l':=srt cf l) hW hk hs hid hp hlen n os
 have e2:(pdq (ltOf cf) l.toArray 0 l.toArray.size (Lib.bitLen l.toArray.size) true true)=(srt cf l).toArray:=by simp[srt]
 rw[e2]at b1 b3
 exact⟨.tuple #[],mu,_,.tuple (by simp) rfl (λi x y h=>by simp at h),c1,c2,L.f6.enters rfl _ _,fr,b1,b2,b3⟩
end
def renS:Ren:=⟨fun|6=>102|15=>122|14=>129|28=>150|29=>151|20=>153|21=>154|22=>155|23=>156|24=>157|25=>158|26=>159|27=>160|46=>179|47=>175|48=>176|49=>180|50=>181|57=>187|n=>n,
 fun|22=>43|24=>59|25=>189|39=>210|53=>254|55=>256|46=>248|45=>247|50=>244|66=>273|70=>277|76=>284|77=>142|n=>n,λn=>n⟩
def nmOf(P:TG)(f:TQ):String:=match P.funcs[f]? with
 |some g=>g.name
 |none => ""
def bears_of {P:TG} {f:TQ} {B:Func} (h1:(nmOf P f == "runtime.NumGoroutine")=false) (h2:P.funcs[f]?=some { B with name:=nmOf P f }):Bears P f B:=⟨_,h1,h2⟩
def layS:SlLaysF0.n6 Tryz.prog renS:=by
 constructor
 all_goals first
  |kernel_rfl
  |exact bears_of (by kernel_rfl) (by kernel_rfl)
  |exact λ_=>by kernel_rfl
end Go.Am
namespace Go.Am
namespace Sx
open Go.ChangeShapes Go.WideShapes Go.ChangeAt Go.WideMaps Go.WideElems Go.RowKit
def FitC:TI->Tl->Prop
 | [],[]=>True
 | .i k :: ks,v :: vs=>(∃n,v = .int k n/\(Lit.int k n).wf=true)/\FitC ks vs
 | .b :: ks,v :: vs=>(∃t,v = .bool t)/\FitC ks vs
 |_,_=>False
def FitL:TI->TE->Prop
 | [],[]=>True
 | .i k :: ks,.i n :: ls=>(Lit.int k n).wf=true/\FitL ks ls
 | .b :: ks,.b _ :: ls=>FitL ks ls
 |_,_=>False
def FitC.len:∀ {ks:TI} {vs:Tl},FitC ks vs->vs.length=ks.length
 | [],[],_=>rfl
 | .i k :: ks,v :: vs,h=>by simp[FitC.len h.2]
 | .b :: ks,v :: vs,h=>by simp[FitC.len h.2]
 | .v :: _,_,h=>by cases h
 | [],_ :: _,h=>by cases h
 | .i _ :: _,[],h=>by cases h
 | .b :: _,[],h=>by cases h
def FitC.app:∀ {ks ks':TI} {vs vs':Tl},FitC ks vs->FitC ks' vs'->FitC (ks++ks') (vs++vs')
 | [],_,[],_,_,h=>h
 | .i k :: ks,_,v :: vs,_,h,h'=>⟨h.1,FitC.app h.2 h'⟩
 | .b :: ks,_,v :: vs,_,h,h'=>⟨h.1,FitC.app h.2 h'⟩
 | .v :: _,_,_,_,h,_=>by cases h
 | [],_,_ :: _,_,h,_=>by cases h
 | .i _ :: _,_,[],_,h,_=>by cases h
 | .b :: _,_,[],_,h,_=>by cases h
def FitL.app:∀ {ks ks':TI} {vs vs':TE},FitL ks vs->FitL ks' vs'->FitL (ks++ks') (vs++vs')
 | [],_,[],_,_,h=>h
 | .i k :: ks,_,.i v :: vs,_,h,h'=>⟨h.1,FitL.app h.2 h'⟩
 | .b :: ks,_,.b v :: vs,_,h,h'=>FitL.app (ks:=ks) h h'
 | .v :: _,_,_,_,h,_=>by cases h
 | [],_,_ :: _,_,h,_=>by cases h
 | .i _ :: _,_,[],_,h,_=>by cases h
 | .b :: _,_,[],_,h,_=>by cases h
 | .i _ :: _,_,.b _ :: _,_,h,_=>by cases h
 | .i _ :: _,_,.v _ :: _,_,h,_=>by cases h
 | .b :: _,_,.i _ :: _,_,h,_=>by cases h
 | .b :: _,_,.v _ :: _,_,h,_=>by cases h
def FitC.sl:∀ {ks:TI} {vs:Tl},FitC ks vs->∃xs:List SL,xs.map SL.val=vs/\aW xs ks=true/\(∀x∈xs,x.good)/\FitL ks (xs.map SL.lf)
 | [],[],_=>⟨[],rfl,rfl,λ_ h=>(by cases h),trivial⟩
 | .i k :: ks,v :: vs,h=>by
  obtain⟨⟨n,rfl,hw⟩,h2⟩:=h
  obtain⟨xs,a,b,c,d⟩:=FitC.sl h2
  exact⟨.i k n :: xs,by simp[a,SL.val],by simp[aW,b,SL.is,dM],λx hx=>by
   rcases qak.1 hx with rfl|hx
   ·trivial
   ·exact c x hx,hw,d⟩
 | .b :: ks,v :: vs,h=>by
  obtain⟨⟨n,rfl⟩,h2⟩:=h
  obtain⟨xs,a,b,c,d⟩:=FitC.sl h2
  exact⟨.b n :: xs,by simp[a,SL.val],by simp[aW,b,SL.is],λx hx=>by
   rcases qak.1 hx with rfl|hx
   ·trivial
   ·exact c x hx,d⟩
 | .v :: _,_,h=>by cases h
 | [],_ :: _,h=>by cases h
 | .i _ :: _,[],h=>by cases h
 | .b :: _,[],h=>by cases h
def flatF(F:TP->Option (TI)):List Field->Nat->Option (TI)
 | [],_=>some []
 |f :: fs,off=>match Nat.beq f.offset off,F f.type with
  |true,some ks=>(flatF F fs (off+ks.length)).map (ks ++ ·)
  |_,_=>none
def yO(P:TG):Nat->TP->Option (TI)
 |0,_=>none
 |d+1,t=>match P.underlying t with
  |some (.int k)=>some [.i k]
  |some .bool=>some [.b]
  |some (.struct fs)=>match flatF (yO P d) fs.toList 0 with
   |some ks=>match Nat.beq ks.length (P.cellsOf t)with
    |true=>some ks
    |false=>none
   |none=>none
  |some (.array n e)=>match yO P d e with
   |some ks=>match Nat.beq (P.cellsOf e) ks.length&&Nat.beq (P.cellsOf t) (n*ks.length)with
    |true=>some (List.replicate n ks).flatten
    |false=>none
   |none=>none
  |_=>none
section
variable {H:Type} {enc:TypeId×Value->H} {P:TG}
def kJ{α:Type}(l:List α)(c:Nat):l.take (l.take c).length=l.take c:=by
 rw[qaL]
 rcases Nat.le_total c l.length with h|h
 ·rw[qbW h]
 ·rw[qcM h,qaM h,qaM (qao _)]
def wZ{F:TP->Option (TI)}{w:World}{base:Nat}{sp:Tv}{held:Bool}{fuel:Nat}
  (hF:∀t ks,F t=some ks->∀cs (x:DataW H×List MemPlace),DataW.trod enc P w base sp held fuel t cs=some x->x.2=[]/\FitC ks cs/\∀w' b' s' h',DataW.trod enc P w' b' s' h' fuel t cs=some x) (cs:Tl) :
  ∀(fs:List Field) (off:Nat) (ks:TI) (xs:List (DataW H×List MemPlace)),flatF F fs off=some ks->fs.mapM (λf=>DataW.trod enc P w base sp held fuel f.type ((cs.drop f.offset).take (P.cellsOf f.type)))=some xs->
   xs.flatMap (·.2)=[]/\FitC ks ((cs.drop off).take ks.length)/\∀w' b' s' h',fs.mapM (λf=>DataW.trod enc P w' b' s' h' fuel f.type ((cs.drop f.offset).take (P.cellsOf f.type)))=some xs
 | [],off,ks,xs,h1,h2=>by
  simp only[flatF,qaz]at h1
  subst h1
  simp only[qdD,qdp,qaz]at h2
  subst h2
  refine⟨rfl,by simp[FitC],λ_ _ _ _=>by simp⟩
 |f :: fs,off,ks,xs,h1,h2=>by
  simp only[flatF]at h1
  split at h1
  next k1 e1 e2=>
   obtain⟨k2,e3,rfl⟩:=qaf.1 h1
   have e1:=qac e1
   rw[qbT]at h2
   obtain⟨x,h3,h2⟩:=qat.1 h2
   obtain⟨ys,h4,h2⟩:=qat.1 h2
   cases h2
   obtain⟨a1,a2,a3⟩:=hF _ _ e2 _ _ h3
   obtain⟨b1,b2,b3⟩:=wZ hF cs fs _ k2 ys e3 h4
   refine⟨by simp[a1,b1],?_,λw' b' s' h'=>?_⟩
   ·rw[qaC,qdE]
    refine FitC.app ?_ (by rw[qb4];exact b2)
    have hl:=FitC.len a2
    rw[e1]at a2 hl
    rw[←hl,kJ]
    exact a2
   ·rw[qbT,a3 w' b' s' h',b3 w' b' s' h']
    rfl
  ·cases h1
def arr_ok{w:World}{base:Nat}{sp:Tv}{held:Bool}{fuel c:Nat}{e:TP}{ks:TI}(hc:c=ks.length)
  (hF:∀cs (x:DataW H×List MemPlace),DataW.trod enc P w base sp held fuel e cs=some x->x.2=[]/\FitC ks cs/\∀w' b' s' h',DataW.trod enc P w' b' s' h' fuel e cs=some x) (cs:Tl) :
  ∀(n:Nat) (xs:List (DataW H×List MemPlace)),(List.range n).mapM (λi=>DataW.trod enc P w base sp held fuel e ((cs.drop (i*c)).take c))=some xs->
   xs.flatMap (·.2)=[]/\FitC (List.replicate n ks).flatten (cs.take (n*c))/\∀w' b' s' h',(List.range n).mapM (λi=>DataW.trod enc P w' b' s' h' fuel e ((cs.drop (i*c)).take c))=some xs
 |0,xs,h=>by
  simp only[List.range_zero,qdD,qdp,qaz]at h
  subst h
  exact⟨rfl,by simp[FitC],λ_ _ _ _=>by simp⟩
 |n+1,xs,h=>by
  rw[List.range_succ,List.mapM_append]at h
  obtain⟨ys,h1,h⟩:=qat.1 h
  obtain⟨zs,h2,h⟩:=qat.1 h
  cases h
  rw[qbT]at h2
  obtain⟨z,h3,h2⟩:=qat.1 h2
  cases h2
  obtain⟨a1,a2,a3⟩:=arr_ok hc hF cs n ys h1
  obtain⟨b1,b2,b3⟩:=hF _ _ h3
  refine⟨by simp[a1,b1],?_,λw' b' s' h'=>?_⟩
  ·rw[List.replicate_succ',List.flatten_append,qbz,qch,qdE]
   refine FitC.app a2 ?_
   simpa using b2
  ·rw[List.range_succ,List.mapM_append,a3 w' b' s' h',qbT,b3 w' b' s' h']
   rfl
def mZ:∀(d:Nat) (t:TP) (ks:TI),yO P d t=some ks->∀(w:World) (base:Nat) (sp:Tv) (held:Bool) (fuel:Nat) (cs:Tl) (x:DataW H×List MemPlace),DataW.trod enc P w base sp held fuel t cs=some x->
  x.2=[]/\FitC ks cs/\∀w' b' s' h',DataW.trod enc P w' b' s' h' fuel t cs=some x
 |0,_,_,h=>by cases h
 |d+1,t,ks,h=>by
  intro w base sp held fuel cs x hx
  simp only[yO]at h
  split at h
  next k e=>
   cases h
   obtain⟨n,rfl,rfl,hw⟩:=DataW.trod_int e hx
   refine⟨rfl,⟨⟨n,rfl,hw⟩,trivial⟩,λw' b' s' h'=>?_⟩
   cases fuel with
   |zero=>simp[DataW.trod]at hx
   |succ m=>simp[DataW.trod,e,hw]
  next e=>
   cases h
   obtain⟨n,rfl,rfl⟩:=DataW.trod_bool e hx
   refine⟨rfl,⟨⟨n,rfl⟩,trivial⟩,λw' b' s' h'=>?_⟩
   cases fuel with
   |zero=>simp[DataW.trod]at hx
   |succ m=>simp[DataW.trod,e]
  next fs e=>
   split at h
   next k2 e2=>
    split at h
    next e3=>
     cases h
     have e3:=qac e3
     cases fuel with
     |zero=>simp[DataW.trod]at hx
     |succ m=>
      simp only[DataW.trod,e]at hx
      split at hx
      next hl=>
       obtain⟨xs,h5,rfl⟩:=qaf.1 hx
       obtain⟨a1,a2,a3⟩:=wZ (λt ks h cs x hx=>mZ d t ks h w base sp held m cs x hx) cs fs.toList 0 ks xs e2 h5
       rw[qbj,qaM (by omega)]at a2
       refine⟨a1,a2,λw' b' s' h'=>?_⟩
       simp only[DataW.trod,e,hl,if_true]
       rw[a3 w' b' s' h']
       rfl
      ·cases hx
    ·cases h
   ·cases h
  next n e e1=>
   split at h
   next k2 e2=>
    split at h
    next e3=>
     cases h
     rw[qaa]at e3
     have e4:=qac e3.1
     have e5:=qac e3.2
     cases fuel with
     |zero=>simp[DataW.trod]at hx
     |succ m=>
      simp only[DataW.trod,e1]at hx
      split at hx
      next hl=>
       obtain⟨xs,h5,rfl⟩:=qaf.1 hx
       obtain⟨a1,a2,a3⟩:=arr_ok e4 (λcs x hx=>mZ d e k2 e2 w base sp held m cs x hx) cs n xs h5
       rw[qaM (by rw[hl,e5,e4];exact qao _)]at a2
       refine⟨a1,a2,λw' b' s' h'=>?_⟩
       simp only[DataW.trod,e1,hl,if_true]
       rw[a3 w' b' s' h']
       rfl
      ·cases hx
    ·cases h
   ·cases h
  ·cases h
end
section
variable [Val]
end
end Sx
end Go.Am
namespace Go.Am
namespace Sx
def FitL.i{k:TH}{ks:TI}{ls:TE}(h:FitL (.i k :: ks) ls):∃n r,ls = .i n :: r/\(Lit.int k n).wf=true/\FitL ks r:=by
 match ls,h with
 | .i n :: r,h=>exact⟨n,r,rfl,h.1,h.2⟩
def FitL.b{ks:TI}{ls:TE}(h:FitL (.b :: ks) ls):∃n r,ls = .b n :: r/\FitL ks r:=by
 match ls,h with
 | .b n :: r,h=>exact⟨n,r,rfl,h⟩
def FitL.nil{ls:TE}(h:FitL [] ls):ls=[]:=by
 match ls,h with
 | [],_=>rfl
def wf_u8{n:Int}(h:(Lit.int .u8 n).wf=true):0<=n/\n<=255:=by
 simp only[Lit.wf,qaa,qd4]at h
 exact h
def wf_i8{n:Int}(h:(Lit.int .i8 n).wf=true):-128<=n/\n<=127:=by
 simp only[Lit.wf,qaa,qd4]at h
 exact h
def pv{H:Type}{enc:TypeId×Value->H}{P:TG}{w:World}{base:Nat}{sp:Tv}{held:Bool}:∀ {ts:List TypeId} {vs:Tl} {ds:List (DataW H)} {ps:List MemPlace},DataW.TrodAll enc P w base sp held ts vs ds ps->ds.length=ts.length
 | [],[],[],_,_=>rfl
 |_ :: _,_ :: _,_ :: _,_,h=>by
  obtain⟨p,q,_,h2,_⟩:=h
  simp[pv h2]
 | [],_ :: _,_,_,h=>by cases h
 | [],[],_ :: _,_,h=>by cases h
 |_ :: _,[],_,_,h=>by cases h
 |_ :: _,_ :: _,[],_,h=>by cases h
end Sx
namespace Sx
open Go.ChangeShapes Go.WideShapes Go.ChangeAt Go.WideMaps Go.WideElems Go.RowKit
inductive CK2 where
 |i (k:TH)
 |b
 |s (ks:TI)
def CK2.lk:CK2->LK
 | .i k=>.i k
 | .b=>.b
 | .s _=>.v
def SlFit(w:World)(ks:TI)(v:Value):Prop:=
 v = .slice none 0 0∨∃(a:Addr) (len cap:Nat) (c:Tj) (t:TP) (fr:Nat×Nat) (cells:Tl),v = .slice (some a) len cap/\a.spot=none/\len<=cap/\cap<=maxLen/\
  w.heap[a.block]?=some (.cells c t fr)/\(cap=0∨a.off+cap*ks.length<=c.size)/\cells.length=len*ks.length/\(∀(i:Nat) v,cells[i]?=some v->c[a.off+i]?=some v)/\
  ∀i,i<len->FitC ks ((cells.drop (i*ks.length)).take ks.length)
def CellFit(w:World):CK2->Value->Prop
 | .i k,v=>∃n,v = .int k n/\(Lit.int k n).wf=true
 | .b,v=>∃t,v = .bool t
 | .s ks,v=>SlFit w ks v
def dU(w:World):List CK2->Tl->Prop
 | [],[]=>True
 |k :: ks,v :: vs=>CellFit w k v/\dU w ks vs
 |_,_=>False
def bp(h:HL):List CK2->TE->Prop
 | [],[]=>True
 | .i k :: ks,.i n :: ls=>(Lit.int k n).wf=true/\bp h ks ls
 | .b :: ks,.b _ :: ls=>bp h ks ls
 | .s es :: ks,.v x :: ls=>(∃n cells,SlC h x es.length n cells/\n<=maxLen/\∀i,i<n->FitC es ((cells.drop (i*es.length)).take es.length))/\bp h ks ls
 |_,_=>False
def dU.len{w:World}:∀ {ks:List CK2} {vs:Tl},dU w ks vs->vs.length=ks.length
 | [],[],_=>rfl
 |_ :: _,_ :: _,h=>by simp[dU.len h.2]
 | [],_ :: _,h=>by cases h
 |_ :: _,[],h=>by cases h
def dU.app{w:World}:∀ {ks ks':List CK2} {vs vs':Tl},dU w ks vs->dU w ks' vs'->dU w (ks++ks') (vs++vs')
 | [],_,[],_,_,h=>h
 |_ :: _,_,_ :: _,_,h,h'=>⟨h.1,dU.app h.2 h'⟩
 | [],_,_ :: _,_,h,_=>by cases h
 |_ :: _,_,[],_,h,_=>by cases h
def bp.app{h:HL}:∀ {ks ks':List CK2} {vs vs':TE},bp h ks vs->bp h ks' vs'->bp h (ks++ks') (vs++vs')
 | [],_,[],_,_,h=>h
 | .i _ :: ks,_,.i _ :: _,_,h,h'=>⟨h.1,bp.app (ks:=ks) h.2 h'⟩
 | .b :: ks,_,.b _ :: _,_,h,h'=>bp.app (ks:=ks) h h'
 | .s _ :: ks,_,.v _ :: _,_,h,h'=>⟨h.1,bp.app (ks:=ks) h.2 h'⟩
 | [],_,_ :: _,_,h,_=>by cases h
 | .i _ :: _,_,[],_,h,_=>by cases h
 | .b :: _,_,[],_,h,_=>by cases h
 | .s _ :: _,_,[],_,h,_=>by cases h
 | .i _ :: _,_,.b _ :: _,_,h,_=>by cases h
 | .i _ :: _,_,.v _ :: _,_,h,_=>by cases h
 | .b :: _,_,.i _ :: _,_,h,_=>by cases h
 | .b :: _,_,.v _ :: _,_,h,_=>by cases h
 | .s _ :: _,_,.i _ :: _,_,h,_=>by cases h
 | .s _ :: _,_,.b _ :: _,_,h,_=>by cases h
def ckF(F:TP->Option (List CK2)):List Field->Nat->Option (List CK2)
 | [],_=>some []
 |f :: fs,off=>match Nat.beq f.offset off,F f.type with
  |true,some ks=>(ckF F fs (off+ks.length)).map (ks ++ ·)
  |_,_=>none
def kby:LK->Nat
 | .i .i64=>8
 |_=>0
def kbs:TI->Nat
 | []=>0
 |k :: ks=>kby k+kbs ks
def ckT(P:TG):Nat->TP->Option (List CK2)
 |0,_=>none
 |d+1,t=>match P.underlying t with
  |some (.int k)=>some [.i k]
  |some .bool=>some [.b]
  |some (.slice e)=>match yO P 20 e with
   |some ks=>match Nat.beq (P.cellsOf e) ks.length&&Nat.blt 0 ks.length&&Nat.ble (kbs ks) (P.bytesOf e)with
    |true=>some [.s ks]
    |false=>none
   |none=>none
  |some (.struct fs)=>match ckF (ckT P d) fs.toList 0 with
   |some ks=>match Nat.beq ks.length (P.cellsOf t)with
    |true=>some ks
    |false=>none
   |none=>none
  |_=>none
section
variable {H:Type} {enc:TypeId×Value->H} {P:TG}
def Lies(w:World)(v:Value):Prop:=∀a len cap,v = .slice (some a) len cap->a.spot=none/\∃c t fr,w.heap[a.block]?=some (.cells c t fr)
def jC{α β:Type}{f g:α->Option β}:∀ {l:List α},(∀x∈l,f x=g x)->l.mapM f=l.mapM g
 | [],_=>rfl
 |a :: l,h=>by
  rw[qbT,qbT,h a qay,jC λx hx=>h x (qas _ hx)]
def bI{a:Addr}(h:a.spot=none)(i:Nat):a.add i=⟨a.block,a.off+i,none⟩:=by
 obtain⟨b,o,s⟩:=a
 cases h
 unfold Addr.add
 simp
def slice_ok{w:World}{t e:TP}{ks:TI}(ht:P.underlying t=some (.slice e))(he:yO P 20 e=some ks)(hc:P.cellsOf e=ks.length)(h0:0<ks.length){base:Nat}(hbase:base=0){held:Bool}{fuel:Nat}{cs:Tl}{x:DataW H×List MemPlace}
  (hx:DataW.trod enc P w base (λ_=>true) held fuel t cs=some x) (hl:∀v∈cs,Lies w v) :
  ∃v,cs=[v]/\SlFit w ks v/\∀(w':World) (s':Tv),(∀b,b<w.heap.size->w'.heap[b]?=w.heap[b]?)->(∀b,b<w.heap.size->s' b=true)->DataW.trod enc P w' base s' held fuel t cs=some x:=by
 subst hbase
 have hx0:=hx
 rcases DataW.trod_slice ht hx with⟨rfl,rfl⟩|⟨a,len,cap,elems,rest,n,rfl,rfl,rfl,hb,hlc,hm,hlen,hel,hsp,_⟩
 ·refine⟨_,rfl,.inl rfl,λw' s' _ _=>?_⟩
  cases fuel with
  |zero=>simp[DataW.trod]at hx
  |succ m=>simp[DataW.trod,ht]
 ·obtain⟨hs,c,t',fr,hblk⟩:=hl _ qay a len cap rfl
  obtain⟨hrl,hr⟩:=hsp rfl
  rw[hc]at hel hr
  have hlt:a.block<w.heap.size:=by
   rcases qaB a.block w.heap.size with h|h
   ·exact h
   ·rw[qa6 h]at hblk;cases hblk
  have each:∀i,i<cap->∃ci y,w.cells? 0 (a.add (i*ks.length)) ks.length=some ci/\DataW.trod enc P w 0 (λ_=>true) held n e ci=some y/\(elems++rest)[i]?=some y:=by
   intro i hi
   by_cases h1:i<len
   ·have h2:=hel i h1
    have h3:elems[i]?=some elems[i]:=qau (by omega)
    rw[h3]at h2
    obtain⟨ci,h4,h5⟩:=qat.1 h2
    exact⟨ci,_,h4,h5,by rw[qag (by omega)];exact h3⟩
   ·have h2:=hr (i - len) (by omega)
    rw[show len+(i - len)=i by omega]at h2
    have h3:rest[i - len]?=some (rest[i - len]'(by omega)):=qau (by omega)
    rw[h3]at h2
    obtain⟨ci,h4,h5⟩:=qat.1 h2
    exact⟨ci,_,h4,h5,by rw[qal (by omega),hlen];exact h3⟩
  have rd:∀i,i<cap->∀j,j<ks.length->∀ci,w.cells? 0 (a.add (i*ks.length)) ks.length=some ci->c[a.off+i*ks.length+j]?=ci[j]?:=by
   intro i hi j hj ci hci
   have h1:=(World.cells?_some hci).2.2 j hj
   rw[bI hs,bI rfl]at h1
   rw[←h1]
   unfold World.cell?
   simp[hblk]
  have hsz:cap=0∨a.off+cap*ks.length<=c.size:=by
   by_cases hcap:cap=0
   ·exact .inl hcap
   ·right
    obtain⟨ci,y,h1,_,_⟩:=each (cap - 1) (by omega)
    have h2:=rd (cap - 1) (by omega) (ks.length - 1) (by omega) ci h1
    have hcl:=(World.cells?_some h1).2.1
    rw[qau (by omega)]at h2
    have h3:=(qaD.1 h2).1
    have h4:cap*ks.length=(cap - 1)*ks.length+ks.length:=by
     rw[←Nat.succ_mul];congr 1;omega
    omega
  have hsz2:a.off+len*ks.length<=c.size∨len=0:=by
   rcases hsz with h|h
   ·right;omega
   ·left
    have:=qbm ks.length hlc
    omega
  refine⟨_,rfl,.inr ⟨a,len,cap,c,t',fr,(c.toList.drop a.off).take (len*ks.length),rfl,hs,hlc,hm,hblk,hsz,?_,?_,?_⟩,?_⟩
  ·rw[qaL,qbI]
   have hcz:c.toList.length=c.size:=qcN
   rcases hsz2 with h|h
   ·omega
   ·subst h;omega
  ·intro i v hv
   rw[qa4]at hv
   split at hv
   ·rw[qa5]at hv
    simpa using hv
   ·cases hv
  ·intro i hi
   obtain⟨ci,y,h1,h2,_⟩:=each i (by omega)
   obtain⟨_,h3,_⟩:=mZ 20 e ks he w 0 _ held n ci y h2
   have hcl:=(World.cells?_some h1).2.1
   have:(((c.toList.drop a.off).take (len*ks.length)).drop (i*ks.length)).take ks.length=ci:=by
    apply qaR
    intro j
    by_cases hj:j<ks.length
    ·have hle:i*ks.length+ks.length<=len*ks.length:=by
      have:=qbm ks.length (show i+1<=len by omega)
      rw[qbz,qch]at this;exact this
     rw[qa4,qd7 hj,qa5,qa4,qd7 (by omega),qa5,←rd i (by omega) j hj ci h1]
     rw[qcy,qbC]
    ·rw[qah (by rw[qaL];omega),qah (by omega)]
   rw[this];exact h3
  ·intro w' s' hw hs'
   have hcell:∀i,i<cap->w'.cells? 0 (a.add (i*ks.length)) ks.length=w.cells? 0 (a.add (i*ks.length)) ks.length:=by
    intro i hi
    unfold World.cells?
    have:∀j,w'.cell? ((a.add (i*ks.length)).add j)=w.cell? ((a.add (i*ks.length)).add j):=by
     intro j
     rw[bI hs,bI rfl]
     unfold World.cell?
     rw[hw _ hlt]
    simp only[this]
   have el:∀i,i<cap->(w'.cells? 0 (a.add (i*P.cellsOf e)) (P.cellsOf e)).bind (DataW.trod enc P w' 0 s' held n e)=(elems++rest)[i]?:=by
    intro i hi
    rw[hc,hcell i hi]
    obtain⟨ci,y,h1,h2,h3⟩:=each i hi
    rw[h1,h3,qam]
    exact(mZ 20 e ks he w 0 _ held n ci y h2).2.2 w' 0 s' held
   have el0:∀i,i<cap->(w.cells? 0 (a.add (i*P.cellsOf e)) (P.cellsOf e)).bind (DataW.trod enc P w 0 (λ_=>true) held n e)=(elems++rest)[i]?:=by
    intro i hi
    rw[hc]
    obtain⟨ci,y,h1,h2,h3⟩:=each i hi
    rw[h1,h3,qam]
    exact h2
   unfold DataW.trod at hx0 ⊢
   simp only[ht]at hx0 ⊢
   rw[qd7 ⟨qaS _,hlc,hm⟩]at hx0 ⊢
   rw[jC (λi hi=>(el i (by have:=qae.1 hi;omega)).trans (el0 i (by have:=qae.1 hi;omega)).symm)]
   rw[jC (l:=List.range (cap - len)) (λj hj=>(el (len+j) (by have:=qae.1 hj;omega)).trans (el0 (len+j) (by have:=qae.1 hj;omega)).symm)]
   rw[hs' _ hlt]
   exact hx0
def ckF_ok{F:TP->Option (List CK2)}{w:World}{held:Bool}{fuel:Nat}(cs:Tl)(hl:∀v∈cs,Lies w v)
  (hF:∀t ks,F t=some ks->∀cs (x:DataW H×List MemPlace),(∀v∈cs,Lies w v)->DataW.trod enc P w 0 (λ_=>true) held fuel t cs=some x->dU w ks cs/\∀(w':World) (s':Tv),(∀b,b<w.heap.size->w'.heap[b]?=w.heap[b]?)->(∀b,b<w.heap.size->s' b=true)->DataW.trod enc P w' 0 s' held fuel t cs=some x) :
  ∀(fs:List Field) (off:Nat) (ks:List CK2) (xs:List (DataW H×List MemPlace)),ckF F fs off=some ks->fs.mapM (λf=>DataW.trod enc P w 0 (λ_=>true) held fuel f.type ((cs.drop f.offset).take (P.cellsOf f.type)))=some xs->
   dU w ks ((cs.drop off).take ks.length)/\∀(w':World) (s':Tv),(∀b,b<w.heap.size->w'.heap[b]?=w.heap[b]?)->(∀b,b<w.heap.size->s' b=true)->fs.mapM (λf=>DataW.trod enc P w' 0 s' held fuel f.type ((cs.drop f.offset).take (P.cellsOf f.type)))=some xs
 | [],off,ks,xs,h1,h2=>by
  simp only[ckF,qaz]at h1
  subst h1
  simp only[qdD,qdp,qaz]at h2
  subst h2
  refine⟨by simp[dU],λ_ _ _ _=>by simp⟩
 |f :: fs,off,ks,xs,h1,h2=>by
  simp only[ckF]at h1
  split at h1
  next k1 e1 e2=>
   obtain⟨k2,e3,rfl⟩:=qaf.1 h1
   have e1:=qac e1
   rw[qbT]at h2
   obtain⟨x,h3,h2⟩:=qat.1 h2
   obtain⟨ys,h4,h2⟩:=qat.1 h2
   cases h2
   obtain⟨a2,a3⟩:=hF _ _ e2 _ _ (λv hv=>hl v (qbL (qbv hv))) h3
   obtain⟨b2,b3⟩:=ckF_ok cs hl hF fs _ k2 ys e3 h4
   refine⟨?_,λw' s' hw hs'=>?_⟩
   ·rw[qaC,qdE]
    refine dU.app ?_ (by rw[qb4];exact b2)
    have hl:=dU.len a2
    rw[e1]at a2 hl
    rw[←hl,kJ]
    exact a2
   ·rw[qbT,a3 w' s' hw hs',b3 w' s' hw hs']
    rfl
  ·cases h1
def ckT_ok:∀(d:Nat) (t:TP) (ks:List CK2),ckT P d t=some ks->∀(w:World) (held:Bool) (fuel:Nat) (cs:Tl) (x:DataW H×List MemPlace),(∀v∈cs,Lies w v)->DataW.trod enc P w 0 (λ_=>true) held fuel t cs=some x->
  dU w ks cs/\∀(w':World) (s':Tv),(∀b,b<w.heap.size->w'.heap[b]?=w.heap[b]?)->(∀b,b<w.heap.size->s' b=true)->DataW.trod enc P w' 0 s' held fuel t cs=some x
 |0,_,_,h=>by cases h
 |d+1,t,ks,h=>by
  intro w held fuel cs x hl hx
  simp only[ckT]at h
  split at h
  next k e=>
   cases h
   obtain⟨n,rfl,rfl,hw⟩:=DataW.trod_int e hx
   refine⟨⟨⟨n,rfl,hw⟩,trivial⟩,λw' s' _ _=>?_⟩
   cases fuel with
   |zero=>simp[DataW.trod]at hx
   |succ m=>simp[DataW.trod,e,hw]
  next e=>
   cases h
   obtain⟨n,rfl,rfl⟩:=DataW.trod_bool e hx
   refine⟨⟨⟨n,rfl⟩,trivial⟩,λw' s' _ _=>?_⟩
   cases fuel with
   |zero=>simp[DataW.trod]at hx
   |succ m=>simp[DataW.trod,e]
  next e e0=>
   split at h
   next k2 e2=>
    split at h
    next e3=>
     cases h
     simp only[qaa,qaO]at e3
     obtain⟨v,rfl,a2,a3⟩:=slice_ok e0 e2 (qac e3.1.1) e3.1.2 rfl hx hl
     exact⟨⟨a2,trivial⟩,a3⟩
    ·cases h
   ·cases h
  next fs e=>
   split at h
   next k2 e2=>
    split at h
    next e3=>
     cases h
     have e3:=qac e3
     cases fuel with
     |zero=>simp[DataW.trod]at hx
     |succ m=>
      simp only[DataW.trod,e]at hx
      split at hx
      next hlen=>
       obtain⟨xs,h5,rfl⟩:=qaf.1 hx
       obtain⟨a2,a3⟩:=ckF_ok cs hl (λt ks h cs x hl hx=>ckT_ok d t ks h w held m cs x hl hx) fs.toList 0 ks xs e2 h5
       rw[qbj,qaM (by omega)]at a2
       refine⟨a2,λw' s' hw hs'=>?_⟩
       simp only[DataW.trod,e,hlen,if_true]
       rw[a3 w' s' hw hs']
       rfl
      ·cases hx
    ·cases h
   ·cases h
  ·cases h
abbrev Blk2:=HObj×Option Pl
def tg(w:World)(b:Blk2):Prop:=b.1 = .dead∨∃vs e p c t fr,b.1 = .cells vs e false/\b.2=some p/\p.esz=e/\vs.all flat=true/\vs.all be=true/\vs.length<=p.room/\w.heap[p.b]?=some (.cells c t fr)/\c.size=p.o+p.room/\∀(i:Nat) v,vs[i]?=some v->c[p.o+i]?=some v
def nY:∀ {ks:TI} {vs:Tl},FitC ks vs->vs.all flat=true/\vs.all be=true
 | [],[],_=>⟨rfl,rfl⟩
 | .i k :: ks,v :: vs,h=>by
  obtain⟨⟨n,rfl,_⟩,h2⟩:=h
  obtain⟨a,b⟩:=nY h2
  exact⟨by simp[a,flat,fF,scalar],by simp[b];rfl⟩
 | .b :: ks,v :: vs,h=>by
  obtain⟨⟨n,rfl⟩,h2⟩:=h
  obtain⟨a,b⟩:=nY h2
  exact⟨by simp[a,flat,fF,scalar],by simp[b];rfl⟩
 | .v :: _,_,h=>by cases h
 | [],_ :: _,h=>by cases h
 | .i _ :: _,[],h=>by cases h
 | .b :: _,[],h=>by cases h
def vz{ks:TI}(hk:0<ks.length){cells:Tl}{n:Nat}(hl:cells.length=n*ks.length)(h:∀i,i<n->FitC ks ((cells.drop (i*ks.length)).take ks.length)):cells.all flat=true/\cells.all be=true:=by
 have main:∀j,j<cells.length->∃v,cells[j]?=some v/\flat v=true/\be v=true:=by
  intro j hj
  have h1:j / ks.length<n:=by
   rw[Nat.div_lt_iff_lt_mul hk];omega
  obtain⟨a,b⟩:=nY (h _ h1)
  have hm:=qbS j hk
  have hd:=Nat.div_add_mod j ks.length
  have hmem:((cells.drop (j / ks.length*ks.length)).take ks.length)[j%ks.length]?=some cells[j]:=by
   rw[qa4,qd7 hm,qa5]
   rw[show j / ks.length*ks.length+j%ks.length=j by rw[Nat.mul_comm];exact hd]
   exact qau hj
  exact⟨_,qau hj,qab.1 a _ (qad hmem),qab.1 b _ (qad hmem)⟩
 constructor<;>
 ·rw[qab]
  intro v hv
  obtain⟨j,hj⟩:=qaW hv
  have hlt:j<cells.length:=by
   rcases qaB j cells.length with h|h
   ·exact h
   ·rw[qah h]at hj;cases hj
  obtain⟨v',h1,h2,h3⟩:=main j hlt
  rw[hj]at h1
  cases h1
  first|exact h2|exact h3
section
variable [Val] [Glo]
def cell_abs{w:World}{ck:CK2}{v:Value}(hp:∀ks,ck = .s ks->0<ks.length)(h:CellFit w ck v)(n0:Nat):∃(x:SL) (bl:List Blk2),(∀b∈bl,tg w b)/\x.is ck.lk=true/\x.good/\
  (∀mu:HMap,(∀(i:Nat) b,bl[i]?=some b->mu (n0+i)=b.2)->VR noL mu x.val v)/\∀hp:HL,(∀(i:Nat) b,bl[i]?=some b->hp[n0+i]?=some (.o b.1))->bp hp [ck] [x.lf]:=by
 cases ck with
 |i k=>
  obtain⟨n,rfl,hw⟩:=h
  exact⟨.i k n,[],by simp,by simp[SL.is,CK2.lk,dM],trivial,λmu _=>.scalar rfl,λhp _=>⟨hw,trivial⟩⟩
 |b=>
  obtain⟨t,rfl⟩:=h
  exact⟨.b t,[],by simp,rfl,trivial,λmu _=>.scalar rfl,λhp _=>trivial⟩
 |s ks=>
  have hk:=hp ks rfl
  rcases h with rfl|⟨a,len,cap,c,t,fr,cells,rfl,hs,hlc,hm,hblk,hsz,hcl,hget,hfit⟩
  ·refine⟨.v (.slice none 0 0),[],by simp,rfl,rfl,λmu _=>.scalar rfl,λhp _=>⟨⟨0,[],⟨by simp,.inl ⟨rfl,rfl⟩⟩,qaS _,λi hi=>by omega⟩,trivial⟩⟩
  ·obtain⟨hf1,hf2⟩:=vz hk hcl hfit
   have gd:aT (.slice (some ⟨n0,0,tag ks.length⟩) len 0)=true:=by simp[aT,noLoc,bn,bP,bw,aY,aJ,tag]
   have ha:a=⟨a.block,a.off,none⟩:=by cases a;cases hs;rfl
   have fit:∀hp:HL,hp[n0]?=some (.o (.cells cells ks.length false))->bp hp [.s ks] [.v (.slice (some ⟨n0,0,tag ks.length⟩) len 0)]:=λhp h1=>
    ⟨⟨len,cells,⟨hcl,.inr ⟨n0,0,0,cells,false,rfl,h1,cut_all hcl⟩⟩,by omega,hfit⟩,trivial⟩
   by_cases hcap:cap=0
   ·subst hcap
    obtain rfl:len=0:=by omega
    have hce:cells=[]:=List.eq_nil_of_length_eq_zero (by omega)
    subst hce
    refine⟨.v (.slice (some ⟨n0,0,tag ks.length⟩) 0 0),[(.cells [] ks.length false,some ⟨a.block,c.size,0,ks.length⟩)],λb hb=>?_,rfl,gd,λmu _=>.hslice0 (qaS _),λhp h1=>fit hp (h1 0 _ rfl)⟩
    simp only[qaw]at hb
    subst hb
    exact .inr ⟨[],ks.length,_,c,t,fr,rfl,rfl,rfl,rfl,rfl,qaS _,hblk,by simp,λi v hv=>by simp at hv⟩
   ·have hsz:a.off+cap*ks.length<=c.size:=hsz.resolve_left hcap
    have hle:=qbm ks.length hlc
    refine⟨.v (.slice (some ⟨n0,0,tag ks.length⟩) len 0),[(.cells cells ks.length false,some ⟨a.block,a.off,c.size - a.off,ks.length⟩)],λb hb=>?_,rfl,gd,λmu h1=>?_,λhp h1=>fit hp (h1 0 _ rfl)⟩
    ·simp only[qaw]at hb
     subst hb
     exact .inr ⟨cells,ks.length,_,c,t,fr,rfl,rfl,rfl,hf1,hf2,by show cells.length<=c.size - a.off;omega,hblk,by show c.size=a.off+(c.size - a.off);omega,hget⟩
    ·have h2:=h1 0 _ rfl
     rw[ha]
     have:=VR.hslice (la:=noL) (mu:=mu) (id:=n0) (off:=0) (len:=len) (cap:=cap) (cx:=0) h2 (by show 0+cap*ks.length<=c.size - a.off;omega) hlc (.inl rfl)
     exact this
def tC{w:World}:∀ {cks:List CK2} {vs:Tl},(∀ks,CK2.s ks∈cks->0<ks.length)->dU w cks vs->∀n0,∃(xs:List SL) (bl:List Blk2),(∀b∈bl,tg w b)/\aW xs (cks.map CK2.lk)=true/\(∀x∈xs,x.good)/\xs.length=vs.length/\
  (∀mu:HMap,(∀(i:Nat) b,bl[i]?=some b->mu (n0+i)=b.2)->VRs noL mu (xs.map SL.val) vs)/\∀hp:HL,(∀(i:Nat) b,bl[i]?=some b->hp[n0+i]?=some (.o b.1))->bp hp cks (xs.map SL.lf)
 | [],[],_,_,n0=>⟨[],[],by simp,rfl,by simp,rfl,λmu _=>⟨rfl,λi x y h=>by simp at h⟩,λhp _=>trivial⟩
 |ck :: cks,v :: vs,hp,h,n0=>by
  obtain⟨x,bl,a1,a2,a3,a4,a5⟩:=cell_abs (λks e=>hp ks (by rw[e];exact qay)) h.1 n0
  obtain⟨xs,bl',b1,b2,b3,b4,b5,b6⟩:=tC (λks e=>hp ks (qas _ e)) h.2 (n0+bl.length)
  have g1:∀ {α:Type} {f:Nat->α} {g:Blk2->α},(∀(i:Nat) b,(bl++bl')[i]?=some b->f (n0+i)=g b)->(∀(i:Nat) b,bl[i]?=some b->f (n0+i)=g b)/\∀(i:Nat) b,bl'[i]?=some b->f (n0+bl.length+i)=g b:=by
   intro α f g h
   refine⟨λi b hb=>h i b ?_,λi b hb=>?_⟩
   ·rw[qag (by
     rcases qaB i bl.length with h|h
     ·exact h
     ·rw[qah h]at hb;cases hb)];exact hb
   ·rw[qbC]
    refine h _ b ?_
    rw[qal (by omega),qca];exact hb
  refine⟨x :: xs,bl++bl',λb hb=>?_,by simp[aW,a2,b2],λy hy=>?_,by simp[b4],λmu hmu=>?_,λhp hh=>?_⟩
  ·rcases qaJ.1 hb with h|h
   ·exact a1 b h
   ·exact b1 b h
  ·rcases qak.1 hy with rfl|hy
   ·exact a3
   ·exact b3 y hy
  ·obtain⟨h1,h2⟩:=g1 (f:=mu) (g:=λb=>b.2) hmu
   have c1:=a4 mu h1
   obtain⟨c2,c3⟩:=b5 mu h2
   refine⟨by simpa using c2,λi p q hi hj=>?_⟩
   cases i with
   |zero=>
    simp only[qav,qbo,qaz]at hi hj
    subst hi hj;exact c1
   |succ i=>exact c3 i p q (by simpa using hi) (by simpa using hj)
  ·obtain⟨h1,h2⟩:=g1 (f:=λi=>hp[i]?) (g:=λb=>some (HO.o b.1)) hh
   exact bp.app (a5 hp h1) (b6 hp h2)
 | [],_ :: _,_,h,_=>by cases h
 |_ :: _,[],_,h,_=>by cases h
end
end
end Sx
namespace Sx
open Go.ChangeShapes Go.WideShapes Go.ChangeAt Go.WideMaps Go.WideElems Go.RowKit
section
variable {H:Type} {enc:TypeId×Value->H} {P:TG}
def ot{w:World}{r:Reach}{b0:Nat}{u:TP}{v:Value}(h:Cell.okWide P w r b0 u v):Lies w v:=by
 rintro a len cap rfl
 have h1:∃e,w.has P r b0 a e cap:=by
  unfold Cell.okWide at h
  split at h<;>first|(rename_i e1 e2;cases e2;done)|(rename_i e1;cases e1;done)|skip
  all_goals
   unfold Cell.ok at h
   split at h<;>first|(cases h;done)|(rename_i e1 e2;cases e2;done)|skip
   all_goals first|(rename_i heq;injection heq with q1 q2 q3;subst q2 q3;cases q1;exact⟨_,h.2.2⟩)|skip
 obtain⟨e,_,h2,row,cells,h3,_⟩:=h1
 refine⟨h2,?_⟩
 unfold World.shape? at h3
 split at h3
 next c el fr e1=>
  exact⟨c,el,fr,e1⟩
 ·cases h3
def lies_val{w:World}{r:Reach}{b0:Nat}{t:TP}{v:Value}(h:Value.okWide P w r b0 t v):∀x∈v.cells.toList,Lies w x:=by
 intro x hx
 unfold Value.okWide at h
 split at h
 ·obtain⟨cs,rfl,_,ts,_,_,h2⟩:=h
  obtain⟨i,hi⟩:=qaW hx
  obtain⟨u,_,h3⟩:=h2 i x (by simpa[Value.cells]using hi)
  exact ot h3
 ·obtain⟨cs,rfl,_,ts,_,_,h2⟩:=h
  obtain⟨i,hi⟩:=qaW hx
  obtain⟨u,_,h3⟩:=h2 i x (by simpa[Value.cells]using hi)
  exact ot h3
 ·have:x=v∨∃cs,v = .agg cs:=by
   cases v<;>first|(right;exact⟨_,rfl⟩)|(left;simpa[Value.cells]using hx)
  rcases this with rfl|⟨cs,rfl⟩
  ·exact ot h
  ·exfalso
   unfold Cell.okWide at h
   split at h<;>first|(rename_i e1 e2;cases e2;done)|(rename_i e1;cases e1;done)|skip
   all_goals
    unfold Cell.ok at h
    split at h<;>first|(cases h;done)|(rename_i e1 e2;cases e2;done)|skip
def skC(P:TG)(t:TP)(cks:List CK2):Option SK:=
 match P.underlying t,cks with
 |some (.struct _),cks=>some (.agg (cks.map CK2.lk))
 |some (.int _),[k]=>some (.leaf k.lk)
 |some .bool,[k]=>some (.leaf k.lk)
 |some (.slice _),[k]=>some (.leaf k.lk)
 |_,_=>none
def posK(cks:List CK2):Bool:=cks.all λk=>match k with
 | .s ks=>Nat.blt 0 ks.length
 |_=>true
def posK_ok{cks:List CK2}(h:posK cks=true):∀ks,CK2.s ks∈cks->0<ks.length:=by
 intro ks hk
 have:=qab.1 h _ hk
 simpa[qaO]using this
section
variable [Val] [Glo]
structure Abs(W:World)(n0:Nat)(bl:List Blk2):Prop where
 ok:∀b∈bl,tg W b
abbrev MuAt(mu:HMap)(n0:Nat)(bl:List Blk2):Prop:=∀(i:Nat) b,bl[i]?=some b->mu (n0+i)=b.2
abbrev HpAt(hp:HL)(n0:Nat)(bl:List Blk2):Prop:=∀(i:Nat) b,bl[i]?=some b->hp[n0+i]?=some (.o b.1)
abbrev Stays(W W':World):Prop:=∀b,b<W.heap.size->W'.heap[b]?=W.heap[b]?
def open_arg2{W:World}{r:Reach}{b0:Nat}{held:Bool}{t:TP}{cks:List CK2}{sk:SK}{v:Value}{d:DataW H}{ps:List MemPlace}(h:ckT P 20 t=some cks)(hsk:skC P t cks=some sk)(hpos:posK cks=true)(hval:Value.okWide P W r b0 t v)(hd:DataW.Trod enc P W 0 (λ_=>true) held t v d ps)(n0:Nat) :
  ∃(x:S0) (bl:List Blk2),(∀b∈bl,tg W b)/\x.is sk=true/\x.good/\(∀mu:HMap,MuAt mu n0 bl->VR noL mu x.val v)/\(∀hp:HL,HpAt hp n0 bl->bp hp cks (x.cells.map SL.lf))/\
   ∀(W':World) (s':Tv),Stays W W'->(∀b,b<W.heap.size->s' b=true)->DataW.Trod enc P W' 0 s' held t v d ps:=by
 obtain⟨fuel,hf⟩:=hd
 obtain⟨a1,a2⟩:=ckT_ok 20 t cks h W held fuel _ _ (lies_val hval) hf
 obtain⟨xs,bl,b1,b2,b3,b4,b5,b6⟩:=tC (posK_ok hpos) a1 n0
 have close:∀(W':World) (s':Tv),Stays W W'->(∀b,b<W.heap.size->s' b=true)->DataW.Trod enc P W' 0 s' held t v d ps:=λW' s' h1 h2=>⟨fuel,a2 W' s' h1 h2⟩
 have leaf:(∀fs,P.underlying t≠some (.struct fs))->(∀n e,P.underlying t≠some (.array n e))->∀k,cks=[k]->sk = .leaf k.lk->∃(x:S0) (bl:List Blk2),(∀b∈bl,tg W b)/\x.is sk=true/\x.good/\(∀mu:HMap,MuAt mu n0 bl->VR noL mu x.val v)/\(∀hp:HL,HpAt hp n0 bl->bp hp cks (x.cells.map SL.lf))/\
   ∀(W':World) (s':Tv),Stays W W'->(∀b,b<W.heap.size->s' b=true)->DataW.Trod enc P W' 0 s' held t v d ps:=by
  rintro hs1 hs2 k rfl rfl
  have hv:v.cells.toList=[v]:=by
   have h1:=dU.len a1
   cases v with
   |agg cs=>
    exfalso
    unfold Value.okWide at hval
    split at hval
    next e=>exact hs1 _ e
    next e=>exact hs2 _ _ e
    ·unfold Cell.okWide at hval
     split at hval<;>first|(rename_i e1 e2;cases e2;done)|(rename_i e1;cases e1;done)|skip
     all_goals
      unfold Cell.ok at hval
      split at hval<;>first|(cases hval;done)|(rename_i e1 e2;cases e2;done)|skip
   |_=>simp[Value.cells]
  rw[hv]at a1 b4 b5
  obtain⟨x,rfl⟩ : ∃x,xs=[x]:=List.length_eq_one_iff.1 b4
  refine⟨.leaf x,bl,b1,?_,λl hl=>?_,λmu hmu=>?_,λhp hh=>b6 hp hh,close⟩
  ·show x.is k.lk=true
   simpa[aW]using b2
  ·simp only[S0.cells,qaw]at hl
   subst hl;exact b3 _ qay
  ·exact(b5 mu hmu).2 0 _ _ rfl rfl
 unfold skC at hsk
 split at hsk
 next fs e=>
  cases hsk
  obtain⟨cs,rfl,_⟩:=okWide_struct e hval
  refine⟨.agg xs,bl,b1,b2,b3,λmu hmu=>?_,λhp hh=>b6 hp hh,close⟩
  obtain⟨c1,c2⟩:=b5 mu hmu
  refine .agg (by simpa[Value.cells]using c1) λi x y hx hy=>c2 i x y (by simpa using hx) (by simpa[Value.cells]using hy)
 next k e=>cases hsk;exact leaf (λ_ h=>by rw[e]at h;cases h) (λ_ _ h=>by rw[e]at h;cases h) _ rfl rfl
 next e=>cases hsk;exact leaf (λ_ h=>by rw[e]at h;cases h) (λ_ _ h=>by rw[e]at h;cases h) _ rfl rfl
 next e' e=>cases hsk;exact leaf (λ_ h=>by rw[e]at h;cases h) (λ_ _ h=>by rw[e]at h;cases h) _ rfl rfl
 ·cases hsk
def argK(P:TG):List TypeId->Option (List (List CK2)×List SK)
 | []=>some ([],[])
 |t :: ts=>match ckT P 20 t,argK P ts with
  |some cks,some (l,sks)=>match skC P t cks,posK cks with
   |some sk,true=>some (cks :: l,sk :: sks)
   |_,_=>none
  |_,_=>none
def at_app{α:Type}{bl bl':List Blk2}{f:Nat->α}{g:Blk2->α}{n0:Nat}(h:∀(i:Nat) b,(bl++bl')[i]?=some b->f (n0+i)=g b):(∀(i:Nat) b,bl[i]?=some b->f (n0+i)=g b)/\∀(i:Nat) b,bl'[i]?=some b->f (n0+bl.length+i)=g b:=by
 refine⟨λi b hb=>h i b ?_,λi b hb=>?_⟩
 ·rw[qag (by
   rcases qaB i bl.length with h|h
   ·exact h
   ·rw[qah h]at hb;cases hb)];exact hb
 ·rw[qbC]
  refine h _ b ?_
  rw[qal (by omega),qca];exact hb
def qx{W:World}{r:Reach}{b0:Nat}{held:Bool}:∀(ts:List TypeId) (l:List (List CK2)) (sks:TK) (vs:Tl) (ds:List (DataW H)) (ps:List MemPlace) (n0:Nat),argK P ts=some (l,sks)->
  (∀(j:Nat) t v,ts[j]?=some t->vs[j]?=some v->Value.okWide P W r b0 t v)->DataW.TrodAll enc P W 0 (λ_=>true) held ts vs ds ps->
  ∃(xs:List S0) (bl:List Blk2),(∀b∈bl,tg W b)/\bQ xs sks=true/\(∀x∈xs,x.good)/\(∀mu:HMap,MuAt mu n0 bl->VRs noL mu (ah xs) vs)/\(∀hp:HL,HpAt hp n0 bl->bp hp l.flatten (bT xs))/\
   ∀(W':World) (s':Tv),Stays W W'->(∀b,b<W.heap.size->s' b=true)->DataW.TrodAll enc P W' 0 s' held ts vs ds ps
 | [],l,sks,[],[],ps,n0,h,_,ht=>by
  cases h
  exact⟨[],[],by simp,rfl,by simp,λmu _=>⟨rfl,λi x y h=>by simp[ah]at h⟩,λhp _=>trivial,λ_ _ _ _=>ht⟩
 |t :: ts,l,sks,v :: vs,d :: ds,ps,n0,h,hv,ht=>by
  simp only[argK]at h
  split at h
  next cks l' sks' e1 e2=>
   split at h
   next sk e3 e4=>
    cases h
    obtain⟨p,q,h1,h2,rfl⟩:=ht
    obtain⟨x,bl,a1,a2,a3,a4,a5,a6⟩:=open_arg2 e1 e3 e4 (hv 0 t v rfl rfl) h1 n0
    obtain⟨xs,bl',b1,b2,b3,b4,b5,b6⟩:=qx ts l' sks' vs ds q (n0+bl.length) e2 (λj t v h1 h2=>hv (j+1) t v h1 h2) h2
    refine⟨x :: xs,bl++bl',λb hb=>?_,by simp[bQ,a2,b2],λy hy=>?_,λmu hmu=>?_,λhp hh=>?_,λW' s' h1 h2=>⟨p,q,a6 W' s' h1 h2,b6 W' s' h1 h2,rfl⟩⟩
    ·rcases qaJ.1 hb with h|h
     ·exact a1 b h
     ·exact b1 b h
    ·rcases qak.1 hy with rfl|hy
     ·exact a3
     ·exact b3 y hy
    ·obtain⟨h1,h2⟩:=at_app (f:=mu) (g:=λb=>b.2) hmu
     have c1:=a4 mu h1
     obtain⟨c2,c3⟩:=b4 mu h2
     refine⟨by simpa[ah]using c2,λi p q hi hj=>?_⟩
     cases i with
     |zero=>
      simp only[ah,qav,qbo,qaz]at hi hj
      subst hi hj;exact c1
     |succ i=>exact c3 i p q (by simpa[ah]using hi) (by simpa using hj)
    ·obtain⟨h1,h2⟩:=at_app (f:=λi=>hp[i]?) (g:=λb=>some (HO.o b.1)) hh
     rw[qcl]
     exact bp.app (a5 hp h1) (b5 hp h2)
   ·cases h
  ·cases h
 | [],_,_,_ :: _,_,_,_,_,_,ht=>by cases ht
 | [],_,_,[],_ :: _,_,_,_,_,ht=>by cases ht
 |_ :: _,_,_,[],_,_,_,_,_,ht=>by cases ht
 |_ :: _,_,_,_ :: _,[],_,_,_,_,ht=>by cases ht
def vu{C:Cfg}{f:TQ}{args:Tl}{r:Value}{H':Ts}{bl:List Blk2}{W:World}(hbl:∀b∈bl,tg W b)(h:dc C f args (bl.map (·.1)) r H'){args':Tj}(hargs:∀mu:HMap,MuAt mu 0 bl->VRs noL mu args args'.toList)(hr:flat r=true)
  (hG:∀g vs,C.G g=some vs->gBlk g<W.heap.size/\vs.all be=true/\∃c e fr,W.heap[gBlk g]?=some (.cells c e fr)/\cg (λ_=>none) vs c (gOff g)) (hf:∀g vs,C.G g=some vs->vs.all gfl=true) :
  Calls C.P f args' W λe W'=>e = .returned r/\W'.os=W.os/\W'.output=W.output/\W'.tape=W.tape/\∀b,b<W.heap.size->W'.heap[b]?=W.heap[b]?:=by
 let mu:HMap:=λid=>(bl[id]?).bind (·.2)
 have hmu:MuAt mu 0 bl:=λi b hb=>by simp only[mu,qaN,hb,qam]
 have hob:∀(id:Nat) o,(bl.map (·.1))[id]?=some o->∃b,bl[id]?=some b/\o=b.1/\tg W b:=by
  intro id o ho
  rw[qan]at ho
  obtain⟨b,h1,rfl⟩:=qaf.1 ho
  exact⟨b,h1,rfl,hbl b (qad h1)⟩
 have hun:∀(id:Nat) o,(bl.map (·.1))[id]?=some o->o.owned=false:=by
  intro id o ho
  obtain⟨b,_,rfl,h3⟩:=hob id o ho
  rcases h3 with h3|⟨vs,e,p,c,t,fr,h3,_⟩<;>rw[h3]<;>rfl
 have hno:∀b,¬Own mu (bl.map (·.1)) b:=by
  rintro b ⟨id,o,p,h1,h2,_⟩
  rw[hun id o h1]at h2;cases h2
 have hW0:WR C W.heap.size mu (bl.map (·.1)) W:=by
  refine⟨λid o h1 h2=>?_,λi j oi oj pi pj h1 h2 h3=>?_,λi o p h1 h2=>?_,λi o p h1 h2 _ h4=>?_,λid h1=>?_,λg vs hg=>?_⟩
  ·obtain⟨b,q1,rfl,q3⟩:=hob id o h1
   rcases q3 with q3|⟨vs,e,p,c,t,fr,q3,q4,q5,q6,q7,q8,q9,q10,q11⟩
   ·rw[q3]at h2;cases h2
   ·refine⟨p,by simp only[mu,q1,qam,q4],?_⟩
    rw[q3]
    refine⟨q5,q8,q7,c,t,fr,q9,q10,λh=>by(cases h),λi v hv=>⟨v,q11 i v hv,.of_flat (qab.1 q6 v (qad hv))⟩⟩
  ·rw[hun i oi h1]at h3;cases h3
  ·rw[hun i o h1]at h2;cases h2
  ·obtain⟨b,q1,rfl,q3⟩:=hob i o h1
   rcases q3 with q3|⟨vs,e,p',c,t,fr,q3,q4,q5,q6,q7,q8,q9,q10,q11⟩
   ·rw[q3]at h2;cases h2
   ·simp only[mu,q1,qam,q4,qaz]at h4
    subst h4
    rcases qaB p'.b W.heap.size with h|h
    ·exact h
    ·rw[qa6 h]at q9;cases q9
  ·simp only[mu]
   rw[qah (by simpa using h1)];rfl
  ·obtain⟨h1,h2,c,e,fr,h4,h5⟩:=hG g vs hg
   exact⟨h1,h2,c,e,fr,h4,iU (hf g vs hg) h5⟩
 intro cs
 obtain⟨v,mu',w',a1,a2,a3,_,a5⟩:=h _ W.heap.size mu W args' (qao _) (hargs mu hmu) hW0 cs
 rw[cW hr a1]at a5
 obtain⟨fr,b1,b2,b3⟩:=a5
 exact⟨.returned r,w',fr,⟨rfl,a3.os,a3.output,a3.tape,λb hb=>a3.keep b hb (hno b)⟩,b1,b2,b3⟩
def post_sl{P:TG}{f:Func}{s:ChangeSpec}{apart fresh handsOn:Bool}{W W':World}{args:Tj}{v:Value}{ds gs:List (DataW H)}{before pa:List MemPlace}
  (hW:DataW.Whole enc P f.params.toList s.vars apart W args.toList ds gs before)
  (hres:∀(b:Nat) (sp:Tv) (hd:Bool),DataW.TrodAll enc P W' b sp hd f.resultTypes.toList (v.resultList f.resultTypes.size) (s.fn H (ds++gs)).results [])
  (hargs:DataW.TrodAll enc P W' 0 (λb=>decide (b<W.heap.size)) true f.params.toList args.toList (s.fn H (ds++gs)).args pa)
  (hvars:∀sp:Nat->Bool,DataW.TrodVars enc P W' sp s.vars (s.fn H (ds++gs)).vars [])
  (h1:W'.os=W.os) (h2:W'.output=W.output) (h3:∀b,b<W.heap.size->W'.heap[b]?=W.heap[b]?) :
  s.post enc P f apart fresh handsOn false W args v W':=
 ⟨ds,gs,before,[],pa,[],hW,hres _ _ _,hargs,hvars _,kept_of h1 h2 h3 _,λh=>by cases h⟩
end
end
section
variable [Val]
def lW{C:Cfg}{N:Tb}{Sg:Tc}(hm:C.P.follows .mixedOrders=true){g:TQ}{sg:Sig}(hs:Sg g=some sg){ls rs:TE}{H H':Ts}(hc:let _:Kno:=KnoC C N;aw C Sg g ls H rs H'){xs ys:List S0}(h1:bQ xs sg.ps=true)(h2:bT xs=ls)(h3:bQ ys sg.rs=true)(h4:bT ys=rs) :
  dc C g (ah xs) H (eH (ah ys)) H':=by
 let _:Kno:=KnoC C N
 obtain⟨sg',xs',ys',c1,c2,c3,c4⟩:=hc
 rw[hs]at c1
 cases c1
 obtain⟨w1,_⟩:=cM c2.1 h1 (c2.2.1.trans h2.symm)
 obtain⟨w2,_⟩:=cM c3.1 h3 (c3.2.1.trans h4.symm)
 rw[w1,w2]at c4
 exact iP hm c4
end
end Sx
end Go.Am
namespace Go.Am
open Sx Go.Proofs
def cmpI(a b:Int):Int:=if a<b then -1 else if b<a then 1 else 0
def orI:TC->Int
 | []=>0
 |a :: l=>if a=0 then orI l else a
theorem cmpI_0{a b:Int}:cmpI a b=0↔a=b:=by
 unfold cmpI
 split
 ·constructor
  ·intro h;omega
  ·intro h;omega
 ·split
  ·constructor
   ·intro h;omega
   ·intro h;omega
  ·constructor
   ·intro _;omega
   ·intro _;rfl
def encQ(p:Int×Int):Tl:=[.int .i64 p.1,.int .i64 p.2]
def encQ_len(p:Int×Int):(encQ p).length=2:=rfl
def nan_c(a:Int):Cc 171 [.i a] [.b false]:=by
 refine q171 rfl ?_;unfold f171;simp only[qxh]
 simp(disch:=omega)only[↓qXX]
def cmp_c(a b:Int):Cc 136 [.i a,.i b] [.i (cmpI a b)]:=by
 refine q136 rfl ?_;unfold f136;simp only[qxh]
 repeat (first|simp(disch:=omega)only[↓qXX]|refine af (nan_c a) ?_|refine af (nan_c b) ?_)
 unfold cmpI
 by_cases h1:a<b
 ·simp(disch:=omega)only[↓qXX]
  simp[h1]
 ·by_cases h2:b<a
  ·simp(disch:=omega)only[↓qXX]
   simp[h1,h2]
  ·simp(disch:=omega)only[↓qXX]
   simp[h1,h2]
def orI_drop{l:TC}{j:Nat}{a:Int}(ha:l[j]?=some a):orI (l.drop j)=if a=0 then orI (l.drop (j+1))else a:=by
 rw[qbq (aM ha)]
 have h1:l[j]'(aM ha)=a:=by rw[qau (aM ha)]at ha;exact qap ha
 rw[h1]
 rfl
def ord_c{h:HL}{x:Value}{l:List (Int×Int)}(hl:LsH h x 2 encQ l)(hb:l.length<=1000) :
  aw cc ac 130 [.v x] (absH aa h) [.i (orI (l.map λp=>cmpI p.1 p.2))] (absH aa h):=by
 exact xK x130 (glsV hl.good gls0) (by
  unfold f130;simp only[qxh]
  refine p_x ?_
  refine bv hl ?_
  refine fm l.length (λj=>orI (l.map λp=>cmpI p.1 p.2)=orI ((l.map λp=>cmpI p.1 p.2).drop j)) (j0:=0) rfl (qaS _) rfl ?_
  intro j hj he self hself
  refine p_x ?_
  by_cases hlt:j<l.length
  ·rw[aU hlt]
   refine p_x ?_
   obtain⟨p,hp⟩:=aK hlt
   refine aQ hl rfl hp ?_
   unfold encQ
   repeat (first|simp(disch:=omega)only[↓qXX]|refine af (cmp_c p.1 p.2) ?_)
   rw[orI_drop (a:=cmpI p.1 p.2) (by rw[qan,hp];rfl)]at he
   by_cases h0:cmpI p.1 p.2=0
   ·rw[p_neq_f h0]
    refine p_x ?_
    rw[bB (by omega)]
    rw[qd7 h0]at he
    exact hself hlt he
   ·rw[p_neq_t h0]
    refine p_x ?_
    rw[qd8 h0]at he
    exact⟨by rw[he],by trivial⟩
  ·obtain rfl:j=l.length:=by omega
   rw[aX (qao _)]
   refine p_x ?_
   refine⟨?_,by trivial⟩
   rw[he,qbs (by rw[qa2];exact qao _)]
   rfl)
def cell_c{x y q x' y' q':Int}(hq:0<=q/\q<=255)(hq':0<=q'/\q'<=255):Cc 103 [.i x,.i y,.i q,.i x',.i y',.i q'] [.i (orI [cmpI y y',cmpI x x',cmpI q q'])]:=by
 refine q103 rfl ?_;unfold f103;simp only[qxh]
 refine p_x ?_
 refine ai (h':=[]++[HO.o (.cells [.int .i64 y,.int .i64 y',.int .i64 x,.int .i64 x',.int .i64 q,.int .i64 q'] 2 true)]) (ord_c (l:=[(y,y'),(x,x'),(q,q')]) ?_ (by simp)) ?_
 ·exact newE_ls (h:=[]) (e:=2) (enc:=encQ) (l:=[(y,y'),(x,x'),(q,q')]) encQ_len (by rfl)
 ·simp(disch:=omega)only[↓qXX]
  rfl
def cmpC(a b:Cl):Int:=orI [cmpI a.2.1 b.2.1,cmpI a.1 b.1,cmpI (Int.ofNat a.2.2) (Int.ofNat b.2.2)]
def ltL(a b:Cl):Prop:=a.2.1<b.2.1∨(a.2.1=b.2.1/\(a.1<b.1∨(a.1=b.1/\a.2.2<b.2.2)))
instance (a b : Cl) : Decidable (ltL a b) := by unfold ltL; exact inferInstance
def cmpC_lt(a b:Cl):cmpC a b<0↔ltL a b:=by
 unfold cmpC ltL
 simp only[orI]
 have h1:=@cmpI_0 a.2.1 b.2.1
 have h2:=@cmpI_0 a.1 b.1
 have e1:cmpI a.2.1 b.2.1<0↔a.2.1<b.2.1:=by unfold cmpI;split<;>(try split)<;>omega
 have e2:cmpI a.1 b.1<0↔a.1<b.1:=by unfold cmpI;split<;>(try split)<;>omega
 have e3:cmpI (Int.ofNat a.2.2) (Int.ofNat b.2.2)<0↔a.2.2<b.2.2:=by
  have:(Int.ofNat a.2.2<Int.ofNat b.2.2)↔a.2.2<b.2.2:=qcp
  unfold cmpI
  split<;>(try split)<;>omega
 have e4:=@cmpI_0 (Int.ofNat a.2.2) (Int.ofNat b.2.2)
 split
 next g1=>
  split
  next g2=>
   split
   next g3=>
    have:=e4.1 g3
    have:a.2.2=b.2.2:=qcC this
    omega
   ·omega
  ·omega
 ·omega
def vP{a b:Cl}:ltL a b∨a=b∨ltL b a:=by
 obtain⟨a1,a2,a3⟩:=a
 obtain⟨b1,b2,b3⟩:=b
 simp only[ltL,qbY]
 omega
def rZ{a:Cl}:¬ltL a a:=by unfold ltL;omega
def ltL_tr{a b c:Cl}(h:ltL a b)(k:ltL b c):ltL a c:=by unfold ltL at *;omega
abbrev C4:=Int×Int×Fin 4
def clF(a:C4):Cl:=(a.1,a.2.1,a.2.2.val)
def enc4(a:C4):Tl:=aB (clF a)
def cf4(a b:C4):Int:=cmpC (clF a) (clF b)
def lt4(a b:C4):Go.Proofs.ltOf cf4 a b=decide (ltL (clF a) (clF b)):=by
 unfold Go.Proofs.ltOf cf4
 rw[decide_eq_decide]
 exact cmpC_lt _ _
def swo4:Go.Sort.SWO (Go.Proofs.ltOf cf4) where
 irrefl x:=by rw[lt4,qd5];exact rZ
 trans x y z h1 h2:=by
  rw[lt4,qd4]at *
  exact ltL_tr h1 h2
 ntrans x y z h1 h2:=by
  rw[lt4,decide_eq_false_iff_not]at *
  intro h
  unfold ltL at *
  omega
def cmp4(a b:C4):dc cc 103 [.agg ⟨enc4 a⟩,.agg ⟨enc4 b⟩] [] (.int .i64 (cf4 a b)) []:=by
 have ha:=a.2.2.isLt
 have hb:=b.2.2.isLt
 have hc:=cell_c (x:=a.1) (y:=a.2.1) (q:=Int.ofNat a.2.2.val) (x':=b.1) (y':=b.2.1) (q':=Int.ofNat b.2.2.val) (by simp only[qar];omega) (by simp only[qar];omega) []
 exact lW (N:=neuN) mixed (Sg:=ac) (sg:=⟨[.agg [.i .i64,.i .i64,.i .u8],.agg [.i .i64,.i .i64,.i .u8]],[li]⟩) rfl hc (xs:=[.agg [.i .i64 a.1,.i .i64 a.2.1,.i .u8 (Int.ofNat a.2.2.val)],.agg [.i .i64 b.1,.i .i64 b.2.1,.i .u8 (Int.ofNat b.2.2.val)]]) rfl rfl (ys:=[.leaf (.i .i64 (cf4 a b))]) rfl rfl
abbrev cloC:Value:=.func (.func 103) ⟨[]⟩ ⟨[]⟩
def sort_c{H:HL}{id cx:Nat}{J:List C4}(hid:H[id]?=some (.o (.cells ((J.map clF).flatMap aB) 3 true)))(h0:0<J.length)(hl:J.length<=100000) :
  ∃D:List C4,D.Perm J/\(D.Pairwise λx y=>¬ltL (clF y) (clF x))/\aw cc ac 102 [.v (.slice (some ⟨id,0,tag 3⟩) J.length cx),.v cloC] (absH aa H) [] (absH aa (putE H id 3 aB (D.map clF))):=by
 have e1:∀L:List C4,(L.map clF).flatMap aB=L.flatMap enc4:=λL=>by rw[List.flatMap_map];rfl
 refine⟨srt cf4 J,srt_perm swo4 J,?_,?_⟩
 ·refine(srt_pair swo4 J).imp λ{x y} h=>?_
  rw[lt4,decide_eq_false_iff_not]at h
  exact h
 ·have hid2:(absH aa H)[id]?=some (.cells (J.flatMap enc4) 3 true):=by
   rw[←e1]
   unfold absH
   rw[qan,hid]
   rfl
  have hok:=wt (C:=cc) jz layS (enc:=enc4) (e:=3) (λw=>by kernel_rfl) (λw=>by kernel_rfl) (λ_=>rfl) (λx v hv=>by
   simp only[enc4,aB,qak,qbf,or_false]at hv
   rcases hv with rfl|rfl|rfl<;>rfl) swo4 (g:=103) (λargs w=>by kernel_rfl) cmp4 (cx:=cx) hid2 rfl h0 (by omega)
  have hset:(absH aa H).set id (.cells ((srt cf4 J).flatMap enc4) 3 true)=absH aa (putE H id 3 aB ((srt cf4 J).map clF)):=by
   unfold putE
   rw[e1,nB]
   rfl
  rw[hset]at hok
  exact⟨⟨[lv,lv],[]⟩,[.leaf (.v (.slice (some ⟨id,0,tag 3⟩) J.length cx)),.leaf (.v cloC)],[],rfl,⟨rfl,rfl,λy hy=>by
   simp only[qak,qbf,or_false]at hy
   rcases hy with rfl|rfl
   ·exact az (show aT (.slice (some ⟨id,0,tag 3⟩) J.length cx)=true by simp[aT,noLoc,bn,bP,bw,aY,aJ,tag])
   ·exact az rfl⟩,⟨rfl,rfl,λy hy=>by cases hy⟩,⟨0,.inr ⟨.inl (by kernel_rfl),hok⟩⟩⟩
abbrev cloW:Value:=.func (.func 128) ⟨[]⟩ ⟨[]⟩
def okCl(c:Cl):Prop:=vCl c=true/\c.2.2<4
def wrong1_c{c:Cl}(h:okCl c):Cc 128 (cll c) [.b false]:=by
 refine q128 rfl ?_;unfold f128;simp only[qxh]
 simp only[cll]
 refine p_x ?_
 refine af (wJ (c:=c) h.2) ?_
 rw[qd7 h.1]
 simp(disch:=omega)only[↓qXX]
def indexW_c{h:HL}{x:Value}{l:TM}(hl:LsH h x 3 aB l)(hok:∀c∈l,okCl c)(hn:l.length<=100000):aw cc ac 152 [.v x,.v cloW] (absH aa h) [.i (-1)] (absH aa h):=by
 exact xK x152 (glsV hl.good (glsV rfl gls0)) (by
  unfold f152;simp only[qxh]
  refine p_x ?_
  refine bv hl ?_
  refine fm l.length (λ_=>True) rfl (qaS _) trivial ?_
  intro j hj _ self hself
  refine p_x ?_
  by_cases hlt:j<l.length
  ·rw[aU hlt]
   refine p_x ?_
   obtain⟨c,hc⟩:=aK hlt
   refine aQ hl rfl hc ?_
   unfold aB
   repeat (first|simp(disch:=omega)only[↓qXX]|refine iE (jS (wrong1_c (hok c (qad hc)) _) rfl [.agg [.i .i64 c.1,.i .i64 c.2.1,.i .u8 (Int.ofNat c.2.2)]] rfl rfl) ?_)
   rw[bB (by omega)]
   exact hself hlt trivial
  ·rw[aX (by omega)]
   simp(disch:=omega)only[↓qXX]
   trivial)
def wrong_c{h:HL}{x:Value}{l:TM}(hl:LsH h x 3 aB l)(hok:∀c∈l,okCl c)(hn:l.length<=100000):aw cc ac 100 [.v x] (absH aa h) [.b false] (absH aa h):=by
 have h1:=indexW_c hl hok hn
 obtain⟨rs,h',h3,rfl,e3⟩:=x127 (ls:=[.v x,.v cloW]) (K:=λrs h'=>rs=[.b false]/\h'=h) (H:=h) (glsV hl.good (glsV rfl gls0)) (by
  unfold f127;simp only[qxh]
  repeat (first|simp(disch:=omega)only[↓qXX]|refine ai h1 ?_)
  trivial)
 rw[e3]at h3
 exact xK x100 (glsV hl.good gls0) (by
  unfold f100;simp only[qxh]
  repeat (first|simp(disch:=omega)only[↓qXX]|refine ai h3 ?_)
  trivial)
def r_apE{α:Type}{e kb:Nat}{enc:α->Tl}{h:HL}{x:Value}{new:List α}{m:Nat}{K:Ta}(hg:h[m]?=some (.o (.cells [] e true)))(hx:LsH h x e enc new)(hn:0<new.length)(hb:new.length*kb<=140737488355328)(hb':new.length<=140737488355328)
  (hk:K [.slice (some ⟨h.length,0,tag e⟩) new.length 0] (h++[.o (.cells (new.flatMap enc) e true)])) :
  P1.heap (.ap cc e kb (.slice (some ⟨m,0,tag e⟩) 0 1) x) h (@hid _ ⟨K⟩):=by
 have hsz:ca (0+new.length) kb=true:=by
  rw[qaN]
  unfold ca
  rw[qb6 hb',qb6 hb];rfl
 have hcut:cut ([]:Tl) 0 (0*e)=some []:=Sx.cut_all (by simp)
 have hrun:apG cc e kb (.slice (some ⟨m,0,tag e⟩) 0 1) x (getH aa h) h.length=some ([.push (.cells ([]++new.flatMap enc) e true)],[.slice (some ⟨h.length,0,tag e⟩) (0+new.length) 0]):=by
  unfold apG
  rw[yf hx.2]
  simp only[ne_eq,not_true_eq_false,if_false]
  rw[cp hg]
  simp only[ne_eq,not_true_eq_false,if_false]
  rw[hcut]
  simp only
  rw[qd8 (by omega),qd7 hsz]
 refine cU (show(Hp.ap cc e kb (.slice (some ⟨m,0,tag e⟩) 0 1) x).run _ _=_ from hrun) ?_
 rw[qaN]
 exact hk
abbrev sl3(id n cx:Nat):Value:=.slice (some ⟨id,0,tag 3⟩) n cx
def clone_c{h:HL}{x:Value}{l:TM}(hf:Ful h x 3 aB l)(h0:0<l.length)(hn:l.length<=100000):aw cc ac 101 [.v x] (absH aa h) [.v (sl3 (h.length+1) l.length 0)] (absH aa (h++[.o (.cells [] 3 true),.o (.cells (l.flatMap aB) 3 true)])):=by
 have hl:=hf.ls bG
 exact xK x101 (glsV hl.good gls0) (by
  unfold f101;simp only[qxh]
  refine p_x ?_
  obtain⟨id,rfl,hg⟩:=hf
  repeat (first|simp(disch:=omega)only[↓qXX]|refine au (x:=false) rfl ?_|refine r_apE (kb:=24) (h:=h++[.o (.cells [] 3 true)]) (m:=h.length) bq (hl.pre ⟨_,rfl⟩) h0 (by omega) (by omega) ?_)
  refine aH (by simp[aT,noLoc,bn,bP,bw,aY,aJ,tag]) ?_
  refine⟨by simp,by simp⟩)
def cmN(L:TM):Nat->List Cl
 |0=>[]
 |n+1=>match L[n]? with
  |none=>cmN L n
  |some c=>if 0<n/\L[n - 1]?=some c then cmN L n else cmN L n++[c]
def cmN_len{L:TM}:∀n,(cmN L n).length<=n
 |0=>qao _
 |n+1=>by
  have:=cmN_len (L:=L) n
  unfold cmN
  split
  ·omega
  ·split
   ·omega
   ·rw[qaC];simp only[qaE,qbp];omega
def ls_off{α:Type}{e:Nat}{enc:α->Tl}(henc:∀a,(enc a).length=e){h:HL}{id cx o n:Nat}{L:List α}(hg:h[id]?=some (.o (.cells (L.flatMap enc) e true)))(ho:o<=L.length)(hn:n=L.length - o):LsH h (.slice (some ⟨id,o*e,tag e⟩) n cx) e enc (L.drop o):=by
 have hd:(L.drop o).length=n:=by rw[qbI];omega
 refine⟨λa _=>henc a,aO λa _=>henc a,.inr ⟨id,o*e,cx,_,true,by rw[hd],hg,?_⟩⟩
 have e1:L.flatMap enc=(L.take o).flatMap enc++(L.drop o).flatMap enc:=by rw[←qcq,qbG]
 have e2:((L.take o).flatMap enc).length=o*e:=by rw[aO λa _=>henc a,qaL,qbW ho]
 have e3:((L.drop o).flatMap enc).length=(L.drop o).length*e:=aO λa _=>henc a
 rw[Sx.cut_some]
 refine⟨by rw[e1,qaC,e2,e3];exact qao _,?_⟩
 rw[e1,←e2,List.drop_left',←e3,qbk]
 rfl
abbrev zC:Cl:=(0,0,0)
def ls_pre{α:Type}{e:Nat}{enc:α->Tl}(henc:∀a,(enc a).length=e){h:HL}{id cx k:Nat}{L:List α}(hg:h[id]?=some (.o (.cells (L.flatMap enc) e true)))(hk:k<=L.length):LsH h (.slice (some ⟨id,0,tag e⟩) k cx) e enc (L.take k):=by
 have hd:(L.take k).length=k:=by rw[qaL];omega
 refine⟨λa _=>henc a,aO λa _=>henc a,.inr ⟨id,0,cx,_,true,by rw[hd],hg,?_⟩⟩
 have e1:L.flatMap enc=(L.take k).flatMap enc++(L.drop k).flatMap enc:=by rw[←qcq,qbG]
 have e3:((L.take k).flatMap enc).length=(L.take k).length*e:=aO λa _=>henc a
 rw[Sx.cut_some]
 refine⟨by rw[e1,qaC,e3];omega,?_⟩
 rw[qbj,e1,←e3,qdU]
 rfl
def yg{id n cx o k:Nat}{x:Int}(hx:x=Int.ofNat k)(hk:k<=n):slS 3 (.slice (some ⟨id,o,tag 3⟩) n cx) (some x) none none=some (.slice (some ⟨id,o+k*3,tag 3⟩) (n - k) (cx - k)):=by
 subst hx
 unfold slS
 simp only
 rw[qd8 (by simp),qd7 (by simp[cO];omega)]
 simp[eo,bK]
def slS_upto{id n cx o k:Nat}{x:Int}(hx:x=Int.ofNat k)(hk:k<=n):slS 3 (.slice (some ⟨id,o,tag 3⟩) n cx) none (some x) none=some (.slice (some ⟨id,o,tag 3⟩) k cx):=by
 subst hx
 unfold slS
 simp only
 rw[qd8 (by simp),qd7 (by simp[cO];omega)]
 simp[eo,bK]
def yQ{id o n cx:Nat}:aT (.slice (some ⟨id,o,tag 3⟩) n cx)=true:=by simp[aT,noLoc,bn,bP,bw,aY,aJ,tag]
def clear_r{h:HL}{id k n c:Nat}{L:TM}{K:Ta}(hlt:id<h.length)(hn:n=L.length - k)(hk:k<=L.length)(hK:K [] (putE h id 3 aB (L.take k++List.replicate n zC))) :
  P1.heap (.fn (clG 3 [.int .i64 0,.int .i64 0,.int .u8 0] (.slice (some ⟨id,k*3,tag 3⟩) n c))) (putE h id 3 aB L) (@hid _ ⟨K⟩):=by
 have hz:aV [.int .i64 0,.int .i64 0,.int .u8 0] n=(List.replicate n zC).flatMap aB:=by
  rw[←dA (enc:=aB) (z:=zC) (n:=n)]
  rfl
 have e1:L.flatMap aB=(L.take k).flatMap aB++(L.drop k).flatMap aB:=by rw[←qcq,qbG]
 have e2:((L.take k).flatMap aB).length=k*3:=by rw[aO λa _=>bG a,qaL,qbW hk]
 have e3:((L.drop k).flatMap aB).length=n*3:=by rw[aO λa _=>bG a,qbI,hn]
 have e4:((List.replicate n zC).flatMap aB).length=n*3:=by rw[aO λa _=>bG a,qcA]
 have hs:splice (L.flatMap aB) (k*3) (aV [.int .i64 0,.int .i64 0,.int .u8 0] n)=some ((L.take k++List.replicate n zC).flatMap aB):=by
  unfold splice
  rw[hz,e4,e1,qaC,e2,e3,qd7 (qao _),qdU e2,qbs (by rw[qaC,e2,e3];exact qao _),qaU,qcq]
 have hrun:(Hp.fn (clG 3 [.int .i64 0,.int .i64 0,.int .u8 0] (.slice (some ⟨id,k*3,tag 3⟩) n c))).run (getH aa (putE h id 3 aB L)) (putE h id 3 aB L).length=some ([.set id (.cells ((L.take k++List.replicate n zC).flatMap aB) 3 true)],[]):=by
  show clG 3 [.int .i64 0,.int .i64 0,.int .u8 0] (.slice (some ⟨id,k*3,tag 3⟩) n c) (getH aa (putE h id 3 aB L)) (putE h id 3 aB L).length=_
  unfold clG
  simp only[ne_eq,not_true_eq_false,if_false]
  rw[cp (bW hlt)]
  simp only[ne_eq,not_true_eq_false,if_false]
  rw[hs]
  rfl
 refine cU hrun ?_
 have:bS (putE h id 3 aB L) [.set id (.cells ((L.take k++List.replicate n zC).flatMap aB) 3 true)]=putE h id 3 aB (L.take k++List.replicate n zC):=xX
 rw[this]
 exact hK
def eqsC{a b:Cl}{K:Tn}:P1.eqs [(.i a.1,.i b.1),(.i a.2.1,.i b.2.1),(.i (Int.ofNat a.2.2),.i (Int.ofNat b.2.2))] (@hid _ ⟨K⟩)=K (decide (a=b)):=by
 show K (ch _)=_
 have e:ch [(.i a.1,.i b.1),(.i a.2.1,.i b.2.1),(.i (Int.ofNat a.2.2),.i (Int.ofNat b.2.2))]=decide (a=b):=by
  rw[qbM]
  simp[ch,gY,qdt]
  intro _ _
  omega
 rw[e]
def mT{L:TM}{n:Nat}{c:Cl}(hc:L[n]?=some c):cmN L (n+1)=if 0<n/\L[n - 1]?=some c then cmN L n else cmN L n++[c]:=by
 rw[cmN,hc]
def compact_c{h:HL}{id:Nat}{L:TM}(hg:h[id]?=some (.o (.cells (L.flatMap aB) 3 true)))(hn:L.length<=100000) :
  ∃cx L',aw cc ac 104 [.v (sl3 id L.length 0)] (absH aa h) [.v (sl3 id (cmN L L.length).length cx)] (absH aa (putE h id 3 aB L'))/\L'.length=L.length/\L'.take (cmN L L.length).length=cmN L L.length:=by
 have hlt:=aM hg
 have hself0:putE h id 3 aB L=h:=by
  unfold putE
  exact ed hg
 obtain⟨rs,h',h1,cx,L',rfl,rfl,e1,e2⟩:=x104 (ls:=[.v (sl3 id L.length 0)]) (K:=λrs h'=>∃cx L',rs=[.v (sl3 id (cmN L L.length).length cx)]/\h'=putE h id 3 aB L'/\L'.length=L.length/\L'.take (cmN L L.length).length=cmN L L.length) (H:=h) (glsV yQ gls0) (by
  unfold f104;simp only[qxh]
  refine p_x ?_
  have hl:=dO bG (cx:=0) hg rfl
  have full:∀k,(k=L.length/\cmN L k=L.take k)->∃cx L',[Lf.v (sl3 id L.length 0)]=[.v (sl3 id (cmN L L.length).length cx)]/\h=putE h id 3 aB L'/\L'.length=L.length/\L'.take (cmN L L.length).length=cmN L L.length:=λk ⟨hk,hkk⟩=>by
   subst hk
   rw[qbk]at hkk
   refine⟨0,L,by rw[hkk],hself0.symm,rfl,by rw[hkk,qbk]⟩
  refine bv hl ?_
  by_cases h2:L.length<2
  ·rw[p_lss_t (show Int.ofNat L.length<2 by show(L.length:Int)<2;omega)]
   refine p_x ?_
   refine full _ ⟨rfl,?_⟩
   rw[qbk]
   rcases L with _|⟨a,_|⟨b,L⟩⟩
   ·rfl
   ·rfl
   ·simp at h2;omega
  ·rw[p_lss_f (show 2<=Int.ofNat L.length by show 2<=(L.length:Int);omega)]
   refine p_x ?_
   refine fm L.length (λi=>1<=i/\cmN L i=L.take i) (j0:=1) rfl (by omega) ⟨qao _,by
    rcases L with _|⟨a,L⟩
    ·simp at h2
    ·simp[cmN]⟩ ?_
   rintro i hi ⟨hi1,hcm⟩ self hself
   refine p_x ?_
   refine bv hl ?_
   by_cases hlti:i<L.length
   ·rw[aU hlti]
    refine p_x ?_
    obtain⟨a,ha⟩:=aK hlti
    obtain⟨b,hb⟩:=aK (l:=L) (i:=i - 1) (by omega)
    refine aQ hl rfl ha ?_
    unfold aB
    refine p_x ?_
    rw[n_sub (by omega) (by omega)]
    refine aQ hl rfl hb ?_
    unfold aB
    refine p_x ?_
    rw[eqsC]
    by_cases hab:a=b
    case neg=>
     rw[qd5 hab]
     refine p_x ?_
     rw[bB (by omega)]
     refine hself hlti ⟨by omega,?_⟩
     rw[mT ha,qd8 (by rw[hb];intro q;exact hab (qap q.2).symm),hcm,qba,ha]
     rfl
    rw[qd6 hab]
    refine p_x ?_
    rw[yg rfl (by omega)]
    refine au rfl (aH yQ ?_)
    rw[qaN]
    have c0:cmN L (i+1)=L.take i:=by rw[mT ha,qd7 ⟨by omega,by rw[hb,hab]⟩,hcm]
    refine bz (σ:=Nat×List Cl) (L.length - i) (λz s=>[.i (Int.ofNat s.1),.i (Int.ofNat z)]) (λ_ s=>putE h id 3 aB s.2) (λz s=>1<=z/\s.2.length=L.length/\s.1+1<=i+z/\s.1=(cmN L (i+z)).length/\s.2.take s.1=cmN L (i+z)/\∀j,i+z<=j+1->s.2[j]?=L[j]?) (j0:=1) (s0:=(i,L)) rfl hself0.symm (by omega) ⟨qao _,rfl,qao _,by rw[c0,qaL];simp only;omega,by rw[c0],λ_ _=>rfl⟩ ?_
    clear self hself
    rintro z ⟨k,L2⟩ hz ⟨hz1,hl2,hk1,hk2,hk3,hk4⟩ self hself
    simp only at hl2 hk1 hk2 hk3 hk4 hself ⊢
    have hg2:(putE h id 3 aB L2)[id]?=some (.o (.cells (L2.flatMap aB) 3 true)):=bW hlt
    have hls:=ls_off bG (cx:=0 - i) (n:=L.length - i) hg2 (o:=i) (by omega) (by omega)
    refine p_x ?_
    have hll:=hls.len
    rw[qbI,hl2]at hll
    refine au hll ?_
    by_cases hltz:z<L.length - i
    ·rw[aU hltz]
     refine p_x ?_
     obtain⟨c,hc⟩:=aK (l:=L) (i:=i+z) (by omega)
     obtain⟨d,hd⟩:=aK (l:=L) (i:=i+z - 1) (by omega)
     refine aQ hls (i:=z) (a:=c) rfl (by rw[qa5,hk4 _ (by omega)];exact hc) ?_
     unfold aB
     refine p_x ?_
     rw[n_sub (by omega) (by omega)]
     refine aQ hls (i:=z - 1) (a:=d) rfl (by rw[qa5,show i+(z - 1)=i+z - 1 by omega,hk4 _ (by omega)];exact hd) ?_
     unfold aB
     refine p_x ?_
     rw[eqsC]
     have hst:=mT hc
     by_cases hcd:c=d
     ·rw[qd6 hcd]
      simp(disch:=omega)only[↓qXX,qaF]
      rw[bB (by omega)]
      have e5:cmN L (i+(z+1))=cmN L (i+z):=by rw[←qbC,hst,qd7 ⟨by omega,by rw[hd,hcd]⟩]
      exact hself (k,L2) hltz ⟨by omega,hl2,by simp only;omega,by rw[e5];exact hk2,by rw[e5];exact hk3,λj hj=>hk4 j (by omega)⟩
     ·rw[qd5 hcd]
      simp(disch:=omega)only[↓qXX,qbF]
      refine aQ hls (i:=z) (a:=c) rfl (by rw[qa5,hk4 _ (by omega)];exact hc) ?_
      unfold aB
      refine p_x ?_
      refine r_set bG (a:=c) (l:=L2) (len:=L.length) (cx:=0) hlt rfl (show k<L2.length by omega) hl2 rfl ?_
      try simp(disch:=omega)only[↓qXX]
      rw[bB (by omega)]
      refine p_x ?_
      rw[bB (by omega)]
      have e5:cmN L (i+(z+1))=cmN L (i+z)++[c]:=by rw[←qbC,hst,qd8 (by rw[hd];intro q;exact hcd (qap q.2).symm)]
      refine hself (k+1,L2.set k c) hltz ⟨by omega,by simp only[qbD];exact hl2,by simp only;omega,by rw[e5,qaC];simp only[qaE,qbp];omega,?_,λj hj=>?_⟩
      ·rw[e5,qba,qaA (by omega),←hk3]
       congr 1
       apply qaR
       intro q
       rw[qa4,qa4]
       split
       ·rw[qai (by omega)]
       ·rfl
      ·simp only
       rw[qai (by omega)]
       exact hk4 j (by omega)
    ·rw[aX (by omega)]
     refine p_x ?_
     obtain rfl:z=L.length - i:=by omega
     have e6:i+(L.length - i)=L.length:=by omega
     rw[e6]at hk2 hk3 hk1
     rw[yg rfl (by omega)]
     refine au rfl (aH yQ ?_)
     rw[qaN]
     refine clear_r (L:=L2) (n:=L.length - k) hlt (by rw[hl2]) (by omega) ?_
     try simp(disch:=omega)only[↓qXX]
     rw[slS_upto rfl (by omega)]
     refine au rfl (aH yQ ?_)
     refine⟨_,_,by rw[←hk2],rfl,by rw[qaC,qaL,qcA];omega,?_⟩
     rw[←hk2,qdU (by rw[qaL];omega)]
     exact hk3
   ·rw[aX (by omega)]
    refine p_x ?_
    exact full _ ⟨by omega,hcm⟩)
 exact⟨cx,L',h1,e1,e2⟩
def qY(I D:TM):Prop:=D.Pairwise ltL/\∀c,c∈D↔c∈I
def qY.eq{I:TM}:∀ {D E:TM},(D.Pairwise ltL)->(E.Pairwise ltL)->(∀c,c∈D↔c∈E)->D=E
 | [],[],_,_,_=>rfl
 | [],b :: E,_,_,h=>by have:=(h b).2 qay;cases this
 |a :: D,[],_,_,h=>by have:=(h a).1 qay;cases this
 |a :: D,b :: E,h1,h2,h=>by
  rw[qa9]at h1 h2
  have hab:a=b:=by
   rcases qak.1 ((h a).1 qay)with e|e
   ·exact e
   ·rcases qak.1 ((h b).2 qay)with e'|e'
    ·exact e'.symm
    ·exact absurd (ltL_tr (h1.1 b e') (h2.1 a e)) rZ
  subst hab
  congr 1
  refine qY.eq (I:=I) h1.2 h2.2 λc=>?_
  constructor
  ·intro hc
   rcases qak.1 ((h c).1 (qas _ hc))with e|e
   ·subst e;exact absurd (h1.1 _ hc) rZ
   ·exact e
  ·intro hc
   rcases qak.1 ((h c).2 (qas _ hc))with e|e
   ·subst e;exact absurd (h2.1 _ hc) rZ
   ·exact e
def cmN_set{S:TM}(hS:S.Pairwise λx y=>¬ltL y x):∀n,n<=S.length->(cmN S n).Pairwise ltL/\∀c,c∈cmN S n↔c∈S.take n
 |0,_=>⟨List.Pairwise.nil,λc=>by simp[cmN]⟩
 |n+1,hn=>by
  obtain⟨i1,i2⟩:=cmN_set hS n (by omega)
  obtain⟨c,hc⟩:=aK (l:=S) (i:=n) (by omega)
  have hlt:∀(i j:Nat) x y,i<j->S[i]?=some x->S[j]?=some y->¬ltL y x:=λi j x y hij hx hy=>by
   obtain⟨h1,rfl⟩:=qaQ.1 hx
   obtain⟨h2,rfl⟩:=qaQ.1 hy
   exact qdw.1 hS i j h1 h2 hij
  have ht:S.take (n+1)=S.take n++[c]:=by rw[qba,hc];rfl
  rw[mT hc,ht]
  split
  next h=>
   refine⟨i1,λx=>?_⟩
   rw[i2,qaJ,qaw]
   refine⟨.inl,λq=>q.elim id λe=>?_⟩
   subst e
   have hm:(S.take n)[n - 1]?=some x:=by rw[qa4,qd7 (by omega)];exact h.2
   exact qad hm
  next h=>
   refine⟨?_,λx=>by rw[qaJ,qaJ,i2]⟩
   rw[qcH]
   refine⟨i1,qcs _ _,λx hx y hy=>?_⟩
   rw[qaw]at hy
   subst hy
   rw[i2]at hx
   obtain⟨i,hi⟩:=qaW hx
   rw[qa4]at hi
   split at hi
   case isFalse=>cases hi
   rename_i hin
   have h3:=hlt i n x y hin hi hc
   rcases vP (a:=x) (b:=y)with q|q|q
   ·exact q
   ·exfalso
    subst q
    obtain⟨d,hd⟩:=aK (l:=S) (i:=n - 1) (by omega)
    have h4:=hlt (n - 1) n d x (by omega) hd hc
    by_cases hi2:i=n - 1
    ·subst hi2
     exact h ⟨by omega,hi⟩
    ·have h5:=hlt i (n - 1) x d (by omega) hi hd
     rcases vP (a:=x) (b:=d)with q|q|q
     ·exact h4 q
     ·exact h ⟨by omega,by rw[hd,q]⟩
     ·exact h5 q
   ·exact absurd q h3
def ex_c4:∀ {I:TM},(∀c∈I,c.2.2<4)->∃J:List C4,J.map clF=I
 | [],_=>⟨[],rfl⟩
 |c :: I,h=>by
  obtain⟨J,hJ⟩:=ex_c4 (I:=I) λd hd=>h d (qas _ hd)
  exact⟨(c.1,c.2.1,⟨c.2.2,h c qay⟩) :: J,by rw[qav,hJ];rfl⟩
def clip_c(H:HL){id n cx:Nat}:aw cc ac 105 [.v (sl3 id n cx)] (absH aa H) [.v (sl3 id n (n+1))] (absH aa H):=by
 obtain⟨rs,h',h1,e1,e2⟩:=x105 (ls:=[.v (sl3 id n cx)]) (K:=λrs h'=>rs=[.v (sl3 id n (n+1))]/\h'=H) (H:=H) (glsV yQ gls0) (by
  unfold f105;simp only[qxh]
  refine p_x ?_
  refine au (x:=Int.ofNat n) rfl ?_
  refine au (x:=Int.ofNat n) rfl ?_
  have e:slS 3 (sl3 id n cx) none (some (Int.ofNat n)) (some (Int.ofNat n))=some (sl3 id n (n+1)):=by
   unfold slS sl3
   simp only
   rw[qd8 (by simp),qd7 (by simp[cO])]
   simp[eo,bK]
  refine au e ?_
  refine aH yQ ?_
  trivial)
 rw[e1,e2]at h1
 exact h1
def sof_c{h:HL}{x:Value}{I:TM}(hf:Ful h x 3 aB I)(hok:∀c∈I,okCl c)(h0:0<I.length)(hn:I.length<=1000) :
  ∃dx G D,aw cc ac 65 [.v x] (absH aa h) [.v dx,.i 0] (absH aa (h++G))/\LsH (h++G) dx 3 aB D/\qY I D/\D.length<=I.length:=by
 have hl:=hf.ls bG
 have hw:=wrong_c hl hok (by omega)
 have hcl:=clone_c hf h0 (by omega)
 obtain⟨J,rfl⟩:=ex_c4 (I:=I) λc hc=>(hok c hc).2
 rw[qa2]at hcl h0 hn
 have hid:(h++[HO.o (.cells [] 3 true),HO.o (.cells ((J.map clF).flatMap aB) 3 true)])[h.length+1]?=some (HO.o (.cells ((J.map clF).flatMap aB) 3 true)):=by
  rw[qal (by omega),show h.length+1 - h.length=1 by omega];rfl
 obtain⟨D,d1,d2,d3⟩:=sort_c (cx:=0) hid h0 (by omega)
 have hid2:(putE (h++[HO.o (.cells [] 3 true),HO.o (.cells ((J.map clF).flatMap aB) 3 true)]) (h.length+1) 3 aB (D.map clF))[h.length+1]?=some (HO.o (.cells ((D.map clF).flatMap aB) 3 true)):=bW (aM hid)
 have hDl:(D.map clF).length=J.length:=by rw[qa2,d1.length_eq]
 obtain⟨cx,L',k1,k2,k3⟩:=compact_c hid2 (by rw[hDl];omega)
 rw[hDl]at k1 k2 k3
 have hS:(D.map clF).Pairwise λx y=>¬ltL y x:=qc2.2 d2
 obtain⟨s1,s2⟩:=cmN_set hS J.length (by rw[hDl];exact qao _)
 have hcl2:=cmN_len (L:=D.map clF) J.length
 have hfin:∀G,putE (putE (h++[HO.o (.cells [] 3 true),HO.o (.cells ((J.map clF).flatMap aB) 3 true)]) (h.length+1) 3 aB (D.map clF)) (h.length+1) 3 aB L'=h++G↔G=[HO.o (.cells [] 3 true),HO.o (.cells (L'.flatMap aB) 3 true)]:=λG=>by
  unfold putE
  rw[List.set_set,qbA _ _ (by omega),show h.length+1 - h.length=1 by omega,List.append_right_inj]
  exact eq_comm
 have hfin2:=(hfin _).2 rfl
 generalize hkd:cmN (D.map clF) J.length=C at *
 have hgf:(h++[HO.o (.cells [] 3 true),HO.o (.cells (L'.flatMap aB) 3 true)])[h.length+1]?=some (HO.o (.cells (L'.flatMap aB) 3 true)):=by
  rw[qal (by omega),show h.length+1 - h.length=1 by omega];rfl
 obtain⟨rs,h',hc,rfl,rfl⟩:=x65 (K:=λrs h'=>rs=[.v (sl3 (h.length+1) C.length (C.length+1)),.i 0]/\h'=h++[HO.o (.cells [] 3 true),HO.o (.cells (L'.flatMap aB) 3 true)]) (H:=h) (glsV hl.good gls0) (by
  unfold f65;simp only[qxh]
  repeat (first|simp(disch:=omega)only[↓qXX]|refine ai hw ?_|refine ai hcl ?_|refine ai d3 ?_|refine ai k1 ?_)
  refine au (x:=Int.ofNat C.length) rfl ?_
  rw[p_gtr_f (show Int.ofNat C.length<=1024 by show(C.length:Int)<=1024;omega)]
  repeat (first|simp(disch:=omega)only[↓qXX]|refine ai (clip_c _) ?_)
  exact⟨by trivial,hfin2⟩)
 refine⟨_,_,C,hc,?_,⟨s1,λc=>?_⟩,by rw[qa2];exact hcl2⟩
 ·have:=ls_pre bG (cx:=C.length+1) hgf (k:=C.length) (by omega)
  rw[k3]at this
  exact this
 ·rw[s2,qaM (by rw[hDl];exact qao _)]
  exact(d1.map clF).mem_iff
def less_c(a b:Cl):Cc 107 (cll a++cll b) [.i (if ltL a b then 1 else 0)]:=by
 refine q107 rfl ?_;unfold f107;simp only[qxh]
 simp only[cll,qaI,qaG]
 refine p_x ?_
 have e3:(Int.ofNat a.2.2<Int.ofNat b.2.2)↔a.2.2<b.2.2:=qcp
 by_cases h1:a.2.1<b.2.1
 ·rw[p_lss_t h1,qd7 (.inl h1)]
  simp(disch:=omega)only[↓qXX]
 rw[p_lss_f (by omega)]
 refine p_x ?_
 by_cases h2:a.2.1=b.2.1
 case neg=>
  rw[p_eql_f h2,qd8 (by unfold ltL;omega)]
  simp(disch:=omega)only[↓qXX]
 rw[p_eql_t h2]
 refine p_x ?_
 by_cases h3:a.1<b.1
 ·rw[p_lss_t h3,qd7 (.inr ⟨h2,.inl h3⟩)]
  simp(disch:=omega)only[↓qXX]
 rw[p_lss_f (by omega)]
 refine p_x ?_
 by_cases h4:a.1=b.1
 case neg=>
  rw[p_eql_f h4,qd8 (by unfold ltL;omega)]
  simp(disch:=omega)only[↓qXX]
 rw[p_eql_t h4]
 refine p_x ?_
 by_cases h5:a.2.2<b.2.2
 ·rw[p_lss_t (e3.2 h5),qd7 (.inr ⟨h2,.inr ⟨h4,h5⟩⟩)]
  simp(disch:=omega)only[↓qXX]
 ·rw[p_lss_f (by rw[←Int.not_lt];exact λq=>h5 (e3.1 q)),qd8 (by unfold ltL;omega)]
  simp(disch:=omega)only[↓qXX]
def rhas_c{h:HL}{x:Value}{L:TM}(hl:LsH h x 3 aB L)(hn:L.length<=100000)(c:Cl):aw cc ac 106 [.v x,.i c.1,.i c.2.1,.i (Int.ofNat c.2.2)] (absH aa h) [.i (if c∈L then 1 else 0)] (absH aa h):=by
 exact xK x106 (glsV hl.good (glsI (glsI (glsI gls0)))) (by
  unfold f106;simp only[qxh]
  refine p_x ?_
  refine fm L.length (λj=>c∉L.take j) rfl (qaS _) (by simp) ?_
  intro j hj hno self hself
  refine p_x ?_
  refine bv hl ?_
  by_cases hlt:j<L.length
  ·rw[aU hlt]
   refine p_x ?_
   obtain⟨d,hd⟩:=aK hlt
   refine aQ hl rfl hd ?_
   unfold aB
   refine p_x ?_
   rw[eqsC]
   by_cases hdc:d=c
   ·rw[qd6 hdc]
    refine p_x ?_
    refine⟨?_,by trivial⟩
    rw[qd7 (hdc▸qad hd)]
   ·rw[qd5 hdc]
    refine p_x ?_
    rw[bB (by omega)]
    refine hself hlt λhm=>?_
    rw[qba,hd]at hm
    rcases qaJ.1 hm with q|q
    ·exact hno q
    ·simp at q;exact hdc q.symm
  ·rw[aX (by omega)]
   refine p_x ?_
   obtain rfl:j=L.length:=by omega
   rw[qbk]at hno
   exact⟨by rw[qd8 hno],by trivial⟩)
def insF(c:Cl):TM->List Cl
 | []=>[c]
 |a :: l=>if ltL c a then c :: a :: l else a :: insF c l
def rT{c x:Cl}:∀ {l:TM},x∈insF c l↔x=c∨x∈l
 | []=>by simp[insF]
 |a :: l=>by
  unfold insF
  split
  ·simp
  ·rw[qak,rT,qak]
   constructor
   ·rintro(q|q|q)
    ·exact .inr (.inl q)
    ·exact .inl q
    ·exact .inr (.inr q)
   ·rintro(q|q|q)
    ·exact .inr (.inl q)
    ·exact .inl q
    ·exact .inr (.inr q)
def uf{c:Cl}:∀ {l:TM},c∉l->l.Pairwise ltL->(insF c l).Pairwise ltL
 | [],_,_=>qcs _ _
 |a :: l,hc,hl=>by
  rw[qa9]at hl
  unfold insF
  split
  next h=>
   rw[qa9]
   refine⟨λx hx=>?_,qa9.2 hl⟩
   rcases qak.1 hx with q|q
   ·rw[q];exact h
   ·exact ltL_tr h (hl.1 x q)
  next h=>
   rw[qa9]
   refine⟨λx hx=>?_,uf (λq=>hc (qas _ q)) hl.2⟩
   rcases rT.1 hx with q|q
   ·subst q
    rcases vP (a:=a) (b:=x)with q|q|q
    ·exact q
    ·exact absurd (q▸qay) hc
    ·exact absurd q h
   ·exact hl.1 x q
def xl{c:Cl}:∀ {l:TM},(insF c l).length=l.length+1
 | []=>rfl
 |a :: l=>by
  unfold insF
  split
  ·rfl
  ·rw[qaE,xl];rfl
def insF_step{c a:Cl}{l:TM}(h:¬ltL c a):insF c (a :: l)=a :: insF c l:=qd8 h
def insF_put{c a:Cl}{l:TM}(h:ltL c a):insF c (a :: l)=c :: a :: l:=qd7 h
def addC(c:Cl)(L:TM):TM:=if c∈L then L else insF c L
def size3{n:Nat}(h:n<=100000):ca (n+1) 24=true:=by
 unfold ca
 rw[qaa,qbb,qbb]
 omega
def radd_c{h:HL}{x:Value}{L:TM}(hl:LsH h x 3 aB L)(hn:L.length<=10000)(c:Cl) :
  ∃x' G,aw cc ac 67 [.v x,.i c.1,.i c.2.1,.i (Int.ofNat c.2.2)] (absH aa h) [.v x'] (absH aa (h++G))/\LsH (h++G) x' 3 aB (addC c L):=by
 have hh:=rhas_c hl (by omega) c
 obtain⟨rs,h',h1,x',rfl,⟨G,rfl⟩,h2⟩:=x67 (ls:=[.v x,.i c.1,.i c.2.1,.i (Int.ofNat c.2.2)]) (K:=λrs h'=>∃x',rs=[.v x']/\Pre h h'/\LsH h' x' 3 aB (addC c L)) (H:=h) (glsV hl.good (glsI (glsI (glsI gls0)))) (by
  unfold f67;simp only[qxh]
  refine p_x ?_
  refine ai hh ?_
  unfold addC
  by_cases hc:c∈L
  ·rw[qd7 hc,qd7 hc]
   refine p_x ?_
   exact⟨x,by trivial,Pre.refl _,hl⟩
  rw[qd8 hc,qd8 hc]
  refine p_x ?_
  refine bz (σ:=Value×HL×Int×List Cl) L.length (λj s=>[.v s.1,.i s.2.2.1,.i (Int.ofNat j)]) (λ_ s=>s.2.1) (λj s=>Pre h s.2.1/\MkL h.length s.2.1 s.1 3 aB s.2.2.2/\aT s.1=true/\s.2.2.2.length<=j+1/\((s.2.2.1=0/\s.2.2.2=L.take j/\insF c L=L.take j++insF c (L.drop j))∨(s.2.2.1=1/\insF c L=s.2.2.2++L.drop j))) (j0:=0) (s0:=(.slice none 0 0,h,0,[])) rfl rfl (qaS _) ⟨Pre.refl _,MkL.nil _ _ _ _,rfl,by simp,.inl ⟨rfl,by simp,by simp⟩⟩ ?_
  rintro j ⟨sv,sh,d,A⟩ hj ⟨hp,hm,hg,hA,hd⟩ self hself
  simp only at hp hm hg hA hd hself ⊢
  have hL:=hl.pre hp
  refine p_x ?_
  refine bv hL ?_
  by_cases hlt:j<L.length
  ·rw[aU hlt]
   refine p_x ?_
   obtain⟨a,ha⟩:=aK hlt
   have hdr:L.drop j=a :: L.drop (j+1):=by
    rw[qbq hlt]
    congr 1
    exact(qaQ.1 ha).2
   have htk:L.take (j+1)=L.take j++[a]:=by rw[qba,ha];rfl
   have put:∀(sv2:Value) (sh2:HL) (d2:Int) (A2:TM),Pre h sh2->MkL h.length sh2 sv2 3 aB A2->A2.length<=j+1->((d2=0/\A2++[a]=L.take (j+1)/\insF c L=L.take (j+1)++insF c (L.drop (j+1)))∨(d2=1/\insF c L=(A2++[a])++L.drop (j+1)))->
     ∀(v':Value) (h':HL),Pre h h'->MkL h.length h' v' 3 aB (A2++[a])->aT v'=true->self [.v v',.i d2,.i (Int.ofNat j+1)] h':=λsv2 sh2 d2 A2 _ _ hA2 hd2 v' h' hp' hm' hg'=>by
    refine hself (v',h',d2,A2++[a]) hlt ⟨hp',hm',hg',?_,hd2⟩
    simp only[qaC,qaE,qbp];omega
   rcases hd with⟨rfl,hA1,hA2⟩|⟨rfl,hA1⟩
   ·rw[p_eql_t rfl]
    refine p_x ?_
    refine aQ hL rfl ha ?_
    unfold aB
    refine p_x ?_
    refine af (less_c c a) ?_
    by_cases hca:ltL c a
    ·rw[qd7 hca]
     repeat (first|simp(disch:=omega)only[↓qXX]|refine ky (h0:=h) (a:=c) hp hm rfl rfl rfl rfl (size3 (by omega)) λv1 h1 hp1 hm1 hg1 _ _=>?_)
     refine aH hg1 ?_
     refine aQ (hl.pre hp1) rfl ha ?_
     unfold aB
     repeat (first|simp(disch:=omega)only[↓qXX]|refine ky (h0:=h) (a:=a) hp1 hm1 rfl rfl rfl rfl (size3 (by rw[qaC];simp only[qaE,qbp];omega)) λv2 h2 hp2 hm2 hg2 _ _=>?_|refine aH hg2 ?_)
     rw[bB (by omega)]
     refine hself (v2,h2,1,A++[c]++[a]) hlt ⟨hp2,hm2,hg2,?_,.inr ⟨rfl,?_⟩⟩
     ·simp only[qaC,qaE,qbp,hA1,qaL];omega
     ·rw[hA2,hdr,insF_put hca,hA1]
      simp
    ·rw[qd8 hca]
     refine p_x ?_
     refine aQ hL rfl ha ?_
     unfold aB
     repeat (first|simp(disch:=omega)only[↓qXX]|refine ky (h0:=h) (a:=a) hp hm rfl rfl rfl rfl (size3 (by omega)) λv2 h2 hp2 hm2 hg2 _ _=>?_|refine aH hg2 ?_)
     rw[bB (by omega)]
     refine put sv sh 0 A hp hm (by rw[hA1,qaL];omega) (.inl ⟨rfl,by rw[htk,hA1],?_⟩) v2 h2 hp2 hm2 hg2
     rw[hA2,hdr,insF_step hca,htk]
     simp
   ·rw[p_eql_f (by decide)]
    refine p_x ?_
    refine aQ hL rfl ha ?_
    unfold aB
    repeat (first|simp(disch:=omega)only[↓qXX]|refine ky (h0:=h) (a:=a) hp hm rfl rfl rfl rfl (size3 (by omega)) λv2 h2 hp2 hm2 hg2 _ _=>?_|refine aH hg2 ?_)
    rw[bB (by omega)]
    refine hself (v2,h2,1,A++[a]) hlt ⟨hp2,hm2,hg2,by simp only[qaC,qaE,qbp];omega,.inr ⟨rfl,by rw[hA1,hdr];simp⟩⟩
  ·rw[aX (by omega)]
   refine p_x ?_
   obtain rfl:j=L.length:=by omega
   rcases hd with⟨rfl,hA1,hA2⟩|⟨rfl,hA1⟩
   ·rw[p_eql_t rfl]
    repeat (first|simp(disch:=omega)only[↓qXX]|refine ky (h0:=h) (a:=c) hp hm rfl rfl rfl rfl (size3 (by omega)) λv2 h2 hp2 hm2 hg2 _ _=>?_|refine aH hg2 ?_)
    refine⟨v2,by trivial,hp2,?_⟩
    rw[hA2,List.drop_length,qbk]
    rw[hA1,qbk]at hm2
    exact hm2.ls
   ·rw[p_eql_f (by decide)]
    refine p_x ?_
    rw[List.drop_length,qaU]at hA1
    exact⟨sv,by trivial,hp,by rw[hA1];exact hm.ls⟩)
 exact⟨x',G,h1,h2⟩
def addC_set{I R:TM}(h:qY I R)(c:Cl):qY (I++[c]) (addC c R):=by
 unfold addC
 by_cases hc:c∈R
 ·rw[qd7 hc]
  refine⟨h.1,λx=>?_⟩
  rw[h.2,qaJ,qaw]
  exact⟨.inl,λq=>q.elim id λe=>e▸(h.2 c).1 hc⟩
 ·rw[qd8 hc]
  refine⟨uf hc h.1,λx=>?_⟩
  rw[rT,h.2,qaJ,qaw]
  exact or_comm
def rof04_c{h:HL}{x:Value}{I:TM}(hl:LsH h x 3 aB I)(hn:I.length<=1000) :
  ∃x' G R,aw cc ac 32 [.v x] (absH aa h) [.v x'] (absH aa (h++G))/\LsH (h++G) x' 3 aB R/\qY I R/\R.length<=I.length:=by
 obtain⟨rs,h',h1,x',R,rfl,⟨G,rfl⟩,h2,h3,h4⟩:=x32 (K:=λrs h'=>∃x' R,rs=[.v x']/\Pre h h'/\LsH h' x' 3 aB R/\qY I R/\R.length<=I.length) (H:=h) (glsV hl.good gls0) (by
  unfold f32;simp only[qxh]
  refine p_x ?_
  refine bz (σ:=Value×HL×List Cl) I.length (λj s=>[.v s.1,.i (Int.ofNat j)]) (λ_ s=>s.2.1) (λj s=>Pre h s.2.1/\LsH s.2.1 s.1 3 aB s.2.2/\qY (I.take j) s.2.2/\s.2.2.length<=j) (j0:=0) (s0:=(.slice none 0 0,h,[])) rfl rfl (qaS _) ⟨Pre.refl _,LsH.nil _ _ _,⟨List.Pairwise.nil,by simp⟩,qao _⟩ ?_
  rintro j ⟨sv,sh,R⟩ hj ⟨hp,hR,hS,hRl⟩ self hself
  simp only at hp hR hS hRl hself ⊢
  have hL:=hl.pre hp
  refine p_x ?_
  refine bv hL ?_
  by_cases hlt:j<I.length
  ·rw[aU hlt]
   refine p_x ?_
   obtain⟨c,hc⟩:=aK hlt
   refine aQ hL rfl hc ?_
   unfold aB
   refine p_x ?_
   obtain⟨x',G,c1,c2⟩:=radd_c hR (by omega) c
   refine ai c1 ?_
   refine p_x ?_
   rw[bB (by omega)]
   refine hself (x',sh++G,addC c R) hlt ⟨hp.app G,c2,?_,?_⟩
   ·have ht:I.take (j+1)=I.take j++[c]:=by rw[qba,hc];rfl
    rw[ht]
    exact addC_set hS c
   ·simp only
    unfold addC
    split
    ·omega
    ·rw[xl];omega
  ·rw[aX (by omega)]
   refine p_x ?_
   obtain rfl:j=I.length:=by omega
   rw[qbk]at hS
   exact⟨sv,R,by trivial,hp,hR,hS,hRl⟩)
 exact⟨x',G,R,h1,h2,h3,h4⟩
def same_c{h:HL}{x y:Value}{D:TM}(hx:LsH h x 3 aB D)(hy:LsH h y 3 aB D)(hn:D.length<=100000):aw cc ac 31 [.v x,.v y] (absH aa h) [.b true] (absH aa h):=by
 obtain⟨rs,h',h1,rfl,e1⟩:=x66 (ls:=[.v x,.v y]) (K:=λrs h'=>rs=[.b true]/\h'=h) (H:=h) (glsV hx.good (glsV hy.good gls0)) (by
  unfold f66;simp only[qxh]
  refine p_x ?_
  refine bv hx ?_
  refine bv hy ?_
  rw[p_neq_f rfl]
  refine p_x ?_
  refine bv hx ?_
  refine fm D.length (λ_=>True) rfl (qaS _) trivial ?_
  intro j hj _ self hself
  refine p_x ?_
  by_cases hlt:j<D.length
  ·rw[aU hlt]
   refine p_x ?_
   obtain⟨c,hc⟩:=aK hlt
   refine aQ hx rfl hc ?_
   unfold aB
   refine p_x ?_
   refine aQ hy rfl hc ?_
   unfold aB
   simp(disch:=omega)only[↓qXX]
   try simp(disch:=omega)only[↓qXX,qaF]
   rw[bB (by omega)]
   exact hself hlt trivial
  ·rw[aX (by omega)]
   simp(disch:=omega)only[↓qXX]
   trivial)
 rw[e1]at h1
 exact xK x31 (glsV hx.good (glsV hy.good gls0)) (by
  unfold f31;simp only[qxh]
  repeat (first|simp(disch:=omega)only[↓qXX]|refine ai h1 ?_)
  trivial)
structure VP(w v:Nat)(l:TA)(x:Value)(H:HL):Prop where
 sh:Sh w v
 nd:(l.map cv).Nodup
 len:l.length<=1000
 kd:∀c∈l,1<=c.2.2/\c.2.2<=3
 ls:LsH H x 3 encC l
 ck:∀h',Pre H h'->aw cc ac 19 [.i (.ofNat w),.i (.ofNat v),.v x] (absH aa h') [.i 0] (absH aa h')
def VP.pre{w v:Nat}{l:TA}{x:Value}{H h:HL}(h1:VP w v l x H)(hp:Pre H h):VP w v l x h:=⟨h1.sh,h1.nd,h1.len,h1.kd,h1.ls.pre hp,λh' q=>h1.ck h' (hp.trans q)⟩
def ConsO.eq{w v:Nat}(hs:Sh w v){l:TA}{G G':TO}(h:ConsO w v l G)(h':ConsO w v l G'):∀c,c<4*w*v->G c=G' c:=
 sj hs (P:=λc=>G c=G' c) (by rw[h.z,h'.z]) λc e n hc he hn q=>by rw[h.g c e n hc he hn,h'.g c e n hc he hn,q]
def uH{w v:Nat}{G G':TO}{r:Mv}(h:∀c,c<4*w*v->G c=G' c):plL w v G r=plL w v G' r/\imL w v G r=imL w v G' r:=by
 unfold plL imL
 exact⟨qbr λc hc=>by rw[h c (qae.1 hc)],qbr λc hc=>by rw[h c (qae.1 hc)]⟩
def iQ{w v:Nat}{G G':TO}{r:Mv}(h:∀c,c<4*w*v->G c=G' c)(ha:allV w G r (4*w*v)):allV w G' r (4*w*v):=λc hc=>by rw[←h c hc];exact ha c hc
section
variable {w v:Nat} {l:TA} {x:Value} {H:HL}
abbrev argL(w v:Nat)(x:Value)(t a b:Int):TE:=[.i (.ofNat w),.i (.ofNat v),.v x,.i t,.i a,.i b]
def both_arg(hv:VP w v l x H){t a b:Int}(ht:0<=t/\t<=255)(hm:vMI t a b=false):BothC (argL w v x t a b) H ft ft 1 H:=by
 obtain⟨rs,h',hc,rfl,rfl⟩:=x24 (ls:=argL w v x t a b) (K:=λrs h'=>rs=[.v ft,.v ft,.i 1]/\h'=H) (H:=H) (glsI (glsI (glsV hv.ls.good (glsI (glsI (glsI gls0)))))) (by
  unfold f24;simp only[qxh]
  repeat (first|simp(disch:=omega)only[↓qXX]|refine ai (hv.ck H (Pre.refl _)) ?_)
  refine af (xz ht) ?_
  rw[qd8 (by rw[hm];simp)]
  simp(disch:=omega)only[↓qXX]
  trivial)
 exact⟨hc,Pre.refl _,rfl,rfl⟩
def both_no(hv:VP w v l x H){r:Mv}(hr:okM 16384 r)(hno:¬ ∃G,eA w v l G/\G 0=idM):∃h1,BothC (argL w v x (.ofNat r.1) r.2.1 r.2.2) H ft ft 11 h1:=by
 obtain⟨rs,h1,hc,hp,⟨rfl,_⟩|⟨G,hG,_⟩⟩:=both_c hv.sh hv.nd hv.len hv.ls (hv.ck H (Pre.refl _)) hr
 ·exact⟨h1,hc,hp,rfl,rfl⟩
 ·exact absurd ⟨G,hG.g,hG.z⟩ hno
def both_lim(hv:VP w v l x H){r:Mv}(hr:okM 16384 r){G:TO}(hG:ConsO w v l G)(hno:¬allV w G r (4*w*v)):∃h1,BothC (argL w v x (.ofNat r.1) r.2.1 r.2.2) H ft ft 3 h1:=by
 obtain⟨rs,h1,hc,hp,⟨rfl,hn⟩|⟨G',hG',⟨rfl,hn⟩|⟨lx,ix,rfl,ha,_⟩⟩⟩:=both_c hv.sh hv.nd hv.len hv.ls (hv.ck H (Pre.refl _)) hr
 ·exact absurd ⟨G,hG.g,hG.z⟩ hn
 ·exact⟨h1,hc,hp,rfl,rfl⟩
 ·exact absurd (iQ (hG'.eq hv.sh hG) ha) hno
def jr(hv:VP w v l x H){r:Mv}(hr:okM 16384 r){G:TO}(hG:ConsO w v l G)(ha:allV w G r (4*w*v)):∃lx ix h1,BothC (argL w v x (.ofNat r.1) r.2.1 r.2.2) H lx ix 0 h1/\Ful h1 lx 3 encM (plL w v G r)/\Ful h1 ix 3 aB (imL w v G r):=by
 obtain⟨rs,h1,hc,hp,⟨rfl,hn⟩|⟨G',hG',⟨rfl,hn⟩|⟨lx,ix,rfl,_,f1,f2⟩⟩⟩:=both_c hv.sh hv.nd hv.len hv.ls (hv.ck H (Pre.refl _)) hr
 ·exact absurd ⟨G,hG.g,hG.z⟩ hn
 ·exact absurd (iQ (hG.eq hv.sh hG') ha) hn
 ·obtain⟨e1,e2⟩:=uH (r:=r) (hG'.eq hv.sh hG)
  rw[e1]at f1
  rw[e2]at f2
  exact⟨lx,ix,h1,⟨hc,hp,(f1.ls bC).good,(f2.ls bG).good⟩,f1,f2⟩
def told_no(hv:VP w v l x H){r:Mv}(hr:okM 16384 r)(hno:¬ ∃G,eA w v l G/\G 0=idM):∃h1,aw cc ac 26 (argL w v x (.ofNat r.1) r.2.1 r.2.2) (absH aa H) [.v ft,.i 11] (absH aa h1)/\Pre H h1:=by
 obtain⟨rs,h1,hc,hp,⟨rfl,_⟩|⟨G,hG,_⟩⟩:=yr hv.sh hv.kd hv.len hv.ls hr
 ·exact⟨h1,hc,hp⟩
 ·exact absurd ⟨G,hG.g,hG.z⟩ hno
def told_lim(hv:VP w v l x H){r:Mv}(hr:okM 16384 r){G:TO}(hG:ConsO w v l G)(hno:¬allV w G r (4*w*v)):∃h1,aw cc ac 26 (argL w v x (.ofNat r.1) r.2.1 r.2.2) (absH aa H) [.v ft,.i 3] (absH aa h1)/\Pre H h1:=by
 obtain⟨rs,h1,hc,hp,⟨rfl,hn⟩|⟨G',hG',⟨rfl,hn⟩|⟨ox,rfl,ha,_⟩⟩⟩:=yr hv.sh hv.kd hv.len hv.ls hr
 ·exact absurd ⟨G,hG.g,hG.z⟩ hn
 ·exact⟨h1,hc,hp⟩
 ·exact absurd (iQ (hG'.eq hv.sh hG) ha) hno
def told_ok(hv:VP w v l x H){r:Mv}(hr:okM 16384 r){G:TO}(hG:ConsO w v l G)(ha:allV w G r (4*w*v)):∃ox h1,aw cc ac 26 (argL w v x (.ofNat r.1) r.2.1 r.2.2) (absH aa H) [.v ox,.i 0] (absH aa h1)/\Pre H h1/\Ful h1 ox 3 encM (plL w v G r):=by
 obtain⟨rs,h1,hc,hp,⟨rfl,hn⟩|⟨G',hG',⟨rfl,hn⟩|⟨ox,rfl,_,f1⟩⟩⟩:=yr hv.sh hv.kd hv.len hv.ls hr
 ·exact absurd ⟨G,hG.g,hG.z⟩ hn
 ·exact absurd (iQ (hG.eq hv.sh hG') ha) hn
 ·rw[(uH (r:=r) (hG'.eq hv.sh hG)).1]at f1
  exact⟨ox,h1,hc,hp,f1⟩
end
def vy{w v:Nat}{x:Value}{H:HL}(hx:aT x=true){t a b e:Int}(he:e≠0)(ht:∃h1,aw cc ac 26 (argL w v x t a b) (absH aa H) [.v ft,.i e] (absH aa h1)/\Pre H h1)
  (hb:∀h',Pre H h'->∃h1,BothC (argL w v x t a b) h' ft ft e h1):∃h',aw cc ac 9 (argL w v x t a b) (absH aa H) [.b true] (absH aa h')/\Pre H h':=by
 obtain⟨h1,c1,p1⟩:=ht
 obtain⟨h2,b2⟩:=hb h1 p1
 have p2:=p1.trans b2.p
 obtain⟨h3,b3⟩:=hb h2 p2
 have p3:=p2.trans b3.p
 obtain⟨h4,b4⟩:=hb h3 p3
 have p4:=p3.trans b4.p
 obtain⟨h5,b5⟩:=hb h4 p4
 have p5:=p4.trans b5.p
 obtain⟨h6,b6⟩:=hb h5 p5
 have p6:=p5.trans b6.p
 obtain⟨rs,h',hc,rfl,rfl⟩:=x9 (ls:=argL w v x t a b) (K:=λrs h'=>rs=[.b true]/\h'=h6) (H:=H) (glsI (glsI (glsV hx (glsI (glsI (glsI gls0)))))) (by
  unfold f9;simp only[qxh]
  repeat (first|simp(disch:=omega)only[↓qXX]|refine ai c1 ?_|refine ai (xO hx b2) ?_|refine ai (gy hx b3) ?_|refine ai (up_e hx b4 he) ?_|refine ai (sil_e hx b5 he) ?_|refine ai (dep_e hx b6 he) ?_|refine au (x:=(0:Int)) rfl ?_)
  trivial)
 exact⟨_,hc,p6⟩
def MaxP(I:TM)(n m:Nat):Prop:=(∀(i:Nat) c,i<n->I[i]?=some c->I.count c<=m)/\(m=0∨∃k∈I,I.count k=m)
def MaxP.step{I:TM}{n m:Nat}{c:Cl}(h:MaxP I n m)(hc:I[n]?=some c):MaxP I (n+1) (max m (I.count c)):=by
 refine⟨λi d hi hd=>?_,?_⟩
 ·by_cases e:i=n
  ·subst e
   rw[hc]at hd
   cases hd
   omega
  ·have:=h.1 i d (by omega) hd
   omega
 ·by_cases hm:m<=I.count c
  ·exact .inr ⟨c,qad hc,by omega⟩
  ·rcases h.2 with q|⟨k,hk,hkm⟩
   ·omega
   ·exact .inr ⟨k,hk,by omega⟩
def MaxP.max{I:TM}{m:Nat}(h:MaxP I I.length m):MaxC I m:=by
 refine⟨λk=>?_,h.2⟩
 by_cases hk:k∈I
 ·obtain⟨i,hi⟩:=qaW hk
  exact h.1 i k (aM hi) hi
 ·rw[List.count_eq_zero.2 hk];omega
def p_max{m c:Nat}{K:Tu}:P1.cmp .lss (Int.ofNat m) (Int.ofNat c) (@hid _ ⟨λt=>P1.sel t (Int.ofNat c) (Int.ofNat m) (@hid _ ⟨K⟩)⟩)=K (Int.ofNat (max m c)):=by
 by_cases h:m<c
 ·rw[aU h,p_sel_t,Nat.max_eq_right (by omega)]
 ·rw[aX (by omega),p_sel_f,Nat.max_eq_left (by omega)]
def ckd_ok{w v:Nat}{l:TA}{x:Value}{H:HL}(hv:VP w v l x H){r:Mv}(hr:okM 16384 r){G:TO}(hG:ConsO w v l G)(ha:allV w G r (4*w*v)) :
  ∃h',aw cc ac 9 (argL w v x (.ofNat r.1) r.2.1 r.2.2) (absH aa H) [.b true] (absH aa h')/\Pre H h':=by
 have hx:=hv.ls.good
 have hN:=sh_N hv.sh
 have hA:(plL w v G r).length=4*w*v:=by simp[plL]
 have hI:(imL w v G r).length=4*w*v:=by simp[imL]
 have okA:∀m∈plL w v G r,okM 16384 m:=λm hm=>by
  unfold plL at hm
  obtain⟨c,hc,rfl⟩:=qaK.1 hm
  have hc:=qae.1 hc
  exact vMv_ok (cq (hG.ok c hc) hr) (ha c hc).1
 have okI:∀c∈imL w v G r,okCl c:=λc hc=>by
  unfold imL at hc
  obtain⟨i,hi,rfl⟩:=qaK.1 hc
  have hi:=qae.1 hi
  exact⟨(ha i hi).2,(fp (cq (hG.ok i hi) hr) (c:=clN w i) (k:=1000) (by have:=rp hv.sh hi;omega)).2.2.2.2⟩
 obtain⟨ox,h1,c1,p1,f1⟩:=told_ok hv hr hG ha
 obtain⟨l2,i2,h2,b2,f2,_⟩:=jr (hv.pre p1) hr hG ha
 have p2:=p1.trans b2.p
 obtain⟨l3,i3,h3,b3,_,f3⟩:=jr (hv.pre p2) hr hG ha
 have p3:=p2.trans b3.p
 obtain⟨l4,i4,h4,b4,f4,_⟩:=jr (hv.pre p3) hr hG ha
 obtain⟨u4,G4,c4,fu4⟩:=up_c hx b4 f4 okA (by rw[hA];omega)
 have p4:=(p3.trans b4.p).app G4
 obtain⟨l5,i5,h5,b5,_,f5⟩:=jr (hv.pre p4) hr hG ha
 obtain⟨d5,G5,D,c5,s5,hD,hDl⟩:=sof_c f5 okI (by rw[hI];omega) (by rw[hI];omega)
 have p5:=(p4.trans b5.p).app G5
 obtain⟨l6,i6,h6,b6,_,f6⟩:=jr (hv.pre p5) hr hG ha
 obtain⟨dm,G6,hdm,c6⟩:=dep_c hx b6 f6 (by rw[hI];omega)
 have p6:=(p5.trans b6.p).app G6
 have q12:Pre h1 h2:=b2.p
 have q23:Pre h2 h3:=b3.p
 have q34:Pre h3 (h4++G4):=b4.p.app G4
 have q45:Pre (h4++G4) (h5++G5):=b5.p.app G5
 have q56:Pre (h5++G5) (h6++G6):=b6.p.app G6
 have f1:=f1.pre (q12.trans (q23.trans (q34.trans (q45.trans q56))))
 have f2:=f2.pre (q23.trans (q34.trans (q45.trans q56)))
 have f3:=f3.pre (q34.trans (q45.trans q56))
 have fu4:=fu4.pre (q45.trans q56)
 have s5:=s5.pre q56
 obtain⟨i7,K7,c7,s7⟩:=uR hv.sh hx hG.ok hr (f1.ls bC)
 have hD5:aw cc ac 28 (argL w v x (.ofNat r.1) r.2.1 r.2.2) (absH aa (h4++G4)) [.v d5,.i 0] (absH aa (h5++G5)):=by
  have hi:=gy hx b5
  exact xK x28 (glsI (glsI (glsV hx (glsI (glsI (glsI gls0)))))) (by
   unfold f28;simp only[qxh]
   repeat (first|simp(disch:=omega)only[↓qXX]|refine ai hi ?_|refine ai c5 ?_)
   trivial)
 obtain⟨rx,K8,R,c8,s8,hR,hRl⟩:=rof04_c s7 (by rw[hI];omega)
 have hDR:D=R:=qY.eq (I:=imL w v G r) hD.1 hR.1 λc=>by rw[hD.2,hR.2]
 subst hDR
 have s5:=(s5.pre (h':=h6++G6++K7) ⟨_,rfl⟩).pre (h':=h6++G6++K7++K8) ⟨_,rfl⟩
 have c9:=same_c s5 s8 (by omega)
 have f1:=(f1.pre (h':=h6++G6++K7) ⟨_,rfl⟩).pre (h':=h6++G6++K7++K8) ⟨_,rfl⟩
 have f2:=(f2.pre (h':=h6++G6++K7) ⟨_,rfl⟩).pre (h':=h6++G6++K7++K8) ⟨_,rfl⟩
 have f3:=(f3.pre (h':=h6++G6++K7) ⟨_,rfl⟩).pre (h':=h6++G6++K7++K8) ⟨_,rfl⟩
 have fu4:=(fu4.pre (h':=h6++G6++K7) ⟨_,rfl⟩).pre (h':=h6++G6++K7++K8) ⟨_,rfl⟩
 have s7:=s7.pre (h':=h6++G6++K7++K8) ⟨_,rfl⟩
 have p9:Pre H (h6++G6++K7++K8):=(p6.app K7).app K8
 have L1:=f1.ls bC
 have L2:=f2.ls bC
 have L3:=f3.ls bG
 have L4:=fu4.ls gr
 obtain⟨rs,h',hc,rfl,hp⟩:=x9 (ls:=argL w v x (.ofNat r.1) r.2.1 r.2.2) (K:=λrs h'=>rs=[.b true]/\Pre H h') (H:=H) (glsI (glsI (glsV hx (glsI (glsI (glsI gls0)))))) (by
  unfold f9;simp only[qxh]
  repeat (first|simp(disch:=omega)only[↓qXX]|refine ai c1 ?_|refine ai (xO hx b2) ?_|refine ai (gy hx b3) ?_|refine ai c4 ?_|refine ai hD5 ?_|refine ai c6 ?_|refine ai c7 ?_|refine bv L2 ?_|refine bv L1 ?_)
  refine bv L3 ?_
  refine bv L1 ?_
  rw[hI,hA]
  refine p_x ?_
  refine bv L4 ?_
  refine bv L1 ?_
  rw[qa2,hA]
  repeat (first|simp(disch:=omega)only[↓qXX,qaF]|refine au f2.cap ?_|refine bv L2 ?_|refine au f3.cap ?_|refine bv L3 ?_|refine au fu4.cap ?_|refine bv L4 ?_|refine ai c8 ?_|refine ai c9 ?_)
  generalize h6++G6++K7++K8=h9 at *
  refine bz (σ:=Nat) (4*w*v) (λj s=>[.i (Int.ofNat s),.i (Int.ofNat j)]) (λ_ _=>h9) (λj s=>MaxP (imL w v G r) j s/\s<=4*w*v) (j0:=0) (s0:=0) rfl rfl (qaS _) ⟨⟨λi c q=>absurd q (qbX _),.inl rfl⟩,qaS _⟩ ?_
  rintro j m hj ⟨hm,hml⟩ self hself
  refine p_x ?_
  refine bv L1 ?_
  rw[hA]
  by_cases hlt:j<4*w*v
  ·rw[aU hlt]
   refine p_x ?_
   have hij:=og (G:=G) (r:=r) hlt
   have hpj:=oR (G:=G) (r:=r) hlt
   generalize hci:aZ (aG (G j) r) (clN w j)=ci at *
   generalize hmj:aG (G j) r=mj at *
   refine bz (σ:=Unit) (4*w*v) (λz _=>[.i (Int.ofNat (((imL w v G r).take z).count ci)),.i (Int.ofNat z)]) (λ_ _=>h9) (λ_ _=>True) (j0:=0) (s0:=()) (by simp) rfl (qaS _) trivial ?_
   rintro z _ hz _ self2 hself2
   refine p_x ?_
   refine bv L1 ?_
   rw[hA]
   have hcb:((imL w v G r).take z).count ci<=z:=qbt List.count_le_length (by rw[qaL];omega)
   by_cases hltz:z<4*w*v
   ·rw[aU hltz]
    refine p_x ?_
    have hiz:=og (G:=G) (r:=r) hltz
    generalize aZ (aG (G z) r) (clN w z)=cz at *
    refine aQ s7 rfl hiz ?_
    unfold aB
    refine p_x ?_
    refine aQ s7 rfl hij ?_
    unfold aB
    refine p_x ?_
    rw[eqsC]
    have ht:(imL w v G r).take (z+1)=(imL w v G r).take z++[cz]:=by rw[qba,hiz];rfl
    have hs2:=hself2 () hltz trivial
    rw[ht,qdy,qde]at hs2
    by_cases hcc:cz=ci
    ·rw[qd6 hcc]
     refine p_x ?_
     rw[bB (by omega)]
     refine p_x ?_
     rw[bB (by omega)]
     rw[qd7 (by simpa using hcc)]at hs2
     exact hs2
    ·rw[qd5 hcc]
     refine p_x ?_
     rw[bB (by omega)]
     rw[qd8 (by simpa using hcc)]at hs2
     exact hs2
   ·rw[aX (by omega)]
    refine p_x ?_
    obtain rfl:z=4*w*v:=by omega
    rw[qaM (by rw[hI];exact qao _)]at hcb ⊢
    have fin:self [.i (Int.ofNat (max m ((imL w v G r).count ci))),.i (Int.ofNat j+1)] h9:=hself (max m ((imL w v G r).count ci)) hlt ⟨hm.step hij,by omega⟩
    rw[p_max]
    try simp(disch:=omega)only[↓qXX]
    refine aQ L2 rfl hpj ?_
    unfold encM
    refine p_x ?_
    refine aQ L1 rfl hpj ?_
    unfold encM
    simp(disch:=omega)only[↓qXX,qaF]
    refine aQ L3 rfl hij ?_
    unfold aB
    refine p_x ?_
    refine aQ s7 rfl hij ?_
    unfold aB
    simp(disch:=omega)only[↓qXX,qaF]
    refine aQ L4 (a:=upB mj) rfl (by rw[qan,hpj];rfl) ?_
    unfold encT
    repeat (first|simp(disch:=omega)only[↓qXX]|refine ew (o:=0) (k:=1) (cs:=[.int .u8 (.ofNat mj.1)]) L1 rfl hpj rfl (by omega) ?_)
    have e4:upB mj=decide (Int.ofNat mj.1<4):=by
     unfold upB
     rw[decide_eq_decide]
     show _↔(mj.1:Int)<4
     omega
    by_cases h4:Int.ofNat mj.1<4
    ·rw[p_lss_t h4,e4,qd6 h4,p_eqsb_t rfl,p_eqs0,qaF,p_cond_f]
     rw[bB (by omega)]
     exact fin
    ·rw[p_lss_f (by omega),e4,qd5 h4,p_eqsb_t rfl,p_eqs0,qaF,p_cond_f]
     rw[bB (by omega)]
     exact fin
  ·rw[aX (by omega)]
   refine p_x ?_
   obtain rfl:j=4*w*v:=by omega
   have hmm:MaxC (imL w v G r) m:=MaxP.max (by rw[hI];exact hm)
   have:=hdm.eq hmm
   subst this
   rw[p_eql_t rfl]
   refine p_x ?_
   exact⟨by trivial,p9⟩)
 exact⟨h',hc,hp⟩
def lives10:∀H,aw cc ac 14 [] H [.b true] H:=fW (n:=60) rfl (by kernel_rfl) rfl (by kernel_rfl)
def checked_c{w v:Nat}{l:TA}{x:Value}{H:HL}(hv:VP w v l x H){t a b:Int}(ht:0<=t/\t<=255) :
  ∃h',aw cc ac 9 (argL w v x t a b) (absH aa H) [.b true] (absH aa h')/\Pre H h':=by
 cases hm:vMI t a b with
 |false=>exact vy hv.ls.good (by decide) ⟨H,told_arg hv.ls.good hm,Pre.refl _⟩ λh' hp=>⟨h',both_arg (hv.pre hp) ht hm⟩
 |true=>
  unfold vMI at hm
  rw[qd4]at hm
  obtain⟨n,rfl⟩:=qbU ht.1
  have hr:okM 16384 (n,a,b):=⟨by show n<8;omega,hm.2.1.1,hm.2.1.2,hm.2.2.1.1,hm.2.2.1.2,hm.2.2.2⟩
  obtain⟨_,_,_,_,⟨_,hno⟩|⟨G,hG,⟨_,hno⟩|⟨_,_,ha,_⟩⟩⟩:=yr hv.sh hv.kd hv.len hv.ls hr
  ·exact vy hv.ls.good (by decide) (told_no hv hr hno) λh' hp=>both_no (hv.pre hp) hr hno
  ·exact vy hv.ls.good (by decide) (told_lim hv hr hG hno) λh' hp=>both_lim (hv.pre hp) hr hG hno
  ·exact ckd_ok hv hr hG ha
def rlineA{x y:Int}(h:-100000<=x/\x<=100000/\-100000<=y/\y<=100000){q e:Nat}(hq:q<4)(he:e<3):Cc 34 [.i x,.i y,.i (.ofNat q),.i (.ofNat e)] [.i (.ofNat (lnC3 (x,y,q) e).1),.i (lnC3 (x,y,q) e).2]:=by
 obtain rfl|rfl|rfl:e=0∨e=1∨e=2:=by omega
 all_goals
  rcases q4 hq with rfl|rfl|rfl|rfl
  all_goals
   simp only[show Int.ofNat 0=0 from rfl,show Int.ofNat 1=1 from rfl,show Int.ofNat 2=2 from rfl,show Int.ofNat 3=3 from rfl]
   refine q34 rfl ?_;unfold f34;simp only[qxh]
   (repeat (first|simp(disch:=omega)only[↓qXX]|refine af (gV.1 (x:=x) (y:=y) (by omega)) ?_|refine af (gV.2.1 (x:=x) (y:=y) (by omega)) ?_|refine af (gV.2.2.1 (x:=x) (y:=y) (by omega)) ?_|refine af (gV.2.2.2 (x:=x) (y:=y) (by omega)) ?_|refine p_pk ?_|refine uD 5 ?_|refine af vm ?_|refine af vn ?_|refine af vo ?_|refine af vp ?_));simp only[lnC3,qaV,Lf.i.injEq,and_true];exact⟨rfl,by omega⟩
def rnbA{x y:Int}(h:-50000<=x/\x<=50000/\-50000<=y/\y<=50000){q e:Nat}(hq:q<4)(he:e<3):Cc 13 [.i x,.i y,.i (.ofNat q),.i (.ofNat e)] (cll (nbC (x,y,q) e)):=by
 have hl:=rlineA (x:=x) (y:=y) (by omega) hq he
 have hc:=we (c:=(x,y,q)) ⟨by show _<=x;omega,by show x<=_;omega,by show _<=y;omega,by show y<=_;omega,hq⟩
 obtain rfl|rfl|rfl:e=0∨e=1∨e=2:=by omega
 all_goals
  rcases q4 hq with rfl|rfl|rfl|rfl
  all_goals
   simp only[cll,o1x,o2x,o2y,lnC3,List.getD_cons_zero,List.getD_cons_succ,show Int.ofNat 0=0 from rfl,show Int.ofNat 1=1 from rfl,show Int.ofNat 2=2 from rfl,show Int.ofNat 3=3 from rfl,show Int.ofNat 4=4 from rfl]at hl hc ⊢
   refine q13 rfl ?_;unfold f13;simp only[qxh]
   repeat (first|simp(disch:=omega)only[↓qXX]|refine af hl ?_)
   refine af hc ?_
   (repeat (first|simp(disch:=omega)only[↓qXX]|refine p_pk ?_|refine uD 5 ?_|refine af (uP.1 (by omega)) ?_|refine af (uP.2.1 (by omega)) ?_|refine af (uP.2.2.1 (by omega)) ?_|refine af (uP.2.2.2 (by omega)) ?_|refine af (jf.1 (by omega)) ?_|refine af (jf.2.1 (by omega)) ?_|refine af (jf.2.2.1 (by omega)) ?_|refine af (jf.2.2.2.1 (by omega)) ?_|refine af (jf.2.2.2.2.1 (by omega)) ?_|refine af (jf.2.2.2.2.2.1 (by omega)) ?_|refine af (jf.2.2.2.2.2.2.1 (by omega)) ?_|refine af (jf.2.2.2.2.2.2.2 (by omega)) ?_))
   simp only[nbC,qaV,Lf.i.injEq,and_true];exact⟨by omega,by omega,rfl⟩
def ltN_iff{a b:Nat×Nat}:ltN a b=true↔a.1<b.1∨(a.1=b.1/\a.2<b.2):=by
 unfold ltN
 rw[qaP,qaa,qaO,qaO,qcm]
def ow{a b c e:Nat}:(c,e)∈ao a b↔c<4*a*b/\e<3/\∃n,nbr a b c e=some n/\c<n:=by
 unfold ao
 simp only[qbn,qae,qa8]
 constructor
 ·rintro⟨c',h1,e',h2,h3⟩
  split at h3
  next n hn=>
   split at h3
   next hlt=>
    cases h3
    exact⟨h1,h2,n,hn,hlt⟩
   ·cases h3
  ·cases h3
 ·rintro⟨h1,h2,n,h3,h4⟩
  refine⟨c,h1,e,h2,?_⟩
  rw[h3]
  simp only[qd7 h4]
def unC_of{a b x y:Nat}{k:Int}(hk:(x,y)∈ao a b):unC (.ofNat a) (.ofNat b) (.ofNat x,.ofNat y,k)=true:=by
 obtain⟨q1,q2,n,q3,q4⟩:=ow.1 hk
 unfold unC isUn
 have q3':nbr (Int.ofNat a).toNat (Int.ofNat b).toNat (Int.ofNat x).toNat (Int.ofNat y).toNat=some n:=q3
 simp only[qaa,qd4]
 refine⟨⟨⟨qaY x,?_⟩,by show(y:Int)<=2;omega⟩,?_⟩
 ·show(x:Int)<4*(a:Int)*(b:Int)
  have:(4*(a:Int)*(b:Int))=((4*a*b:Nat):Int):=by simp
  rw[this];omega
 ·rw[q3']
  simpa[qaO]using q4
def nr{us:List (Nat×Nat)}{ks:TC}{c:Crs}(h:c∈patL us ks):∃u k,u∈us/\k∈ks/\k≠0/\c=(.ofNat u.1,.ofNat u.2,k):=by
 unfold patL at h
 obtain⟨⟨u,k⟩,h1,h2⟩:=qa8.1 h
 unfold kT at h2
 split at h2
 ·cases h2
 next hk=>
  cases h2
  have:=List.of_mem_zip h1
  exact⟨u,k,this.1,this.2,hk,rfl⟩
def nC:∀ {l:List (Nat×Nat)},ascN l=true->l.Pairwise λa b=>ltN a b=true
 | [],_=>.nil
 | [x],_=>qcs _ _
 |x :: y :: l,h=>by
  simp only[ascN,qaa]at h
  have ih:=nC h.2
  refine qa9.2 ⟨λz hz=>?_,ih⟩
  rcases qak.1 hz with rfl|hz
  ·exact h.1
  ·have h2:=(qa9.1 ih).1 z hz
   have h1:=h.1
   rw[ltN_iff]at h1 h2 ⊢
   omega
def jq:∀ {l:TA},(l.Pairwise λa b=>ltC a b=true)->ascC l=true
 | [],_=>rfl
 | [x],_=>rfl
 |x :: y :: l,h=>by
  obtain⟨h1,h2⟩:=qa9.1 h
  simp only[ascC,qaa]
  exact⟨h1 y qay,jq h2⟩
def oP:∀ {us:List (Nat×Nat)} {ks:TC},(us.Pairwise λa b=>ltN a b=true)->(patL us ks).Pairwise λa b=>ltC a b=true
 | [],ks,_=>by simp[patL]
 |u :: us,[],_=>by simp[patL]
 |u :: us,k :: ks,h=>by
  obtain⟨h1,h2⟩:=qa9.1 h
  have ih:=oP (ks:=ks) h2
  unfold patL at ih ⊢
  rw[qcw,List.filterMap_cons]
  split
  ·exact ih
  next c hc=>
   refine qa9.2 ⟨λb hb=>?_,ih⟩
   obtain⟨u',k',m1,_,_,rfl⟩:=nr (us:=us) (ks:=ks) hb
   unfold kT at hc
   split at hc
   ·cases hc
   ·cases hc
    have:=ltN_iff.1 (h1 u' m1)
    simp only[ltC,qaP,qaa,qd4,qar]
    omega
def pat_of{w v:Nat}(h1:1<=w)(h2:w<=5)(h3:1<=v)(h4:v<=5){ks:TC}(hk:∀k∈ks,0<=k/\k<4):Pat w v (patL (ao w v) ks):=by
 have ht:=gM (gW w v h1 h2 h3 h4)
 have hwv:4*w*v<=100:=by
  have:=qdx (show 4*w<=20 by omega) h4
  omega
 have key:∀c∈patL (ao w v) ks,rngC c/\isK c=true/\unC (.ofNat w) (.ofNat v) c=true:=λc hc=>by
  obtain⟨⟨x,y⟩,k,m1,m2,m3,rfl⟩:=nr hc
  have hm:=ow.1 m1
  have:=hk k m2
  refine⟨?_,?_,unC_of m1⟩
  ·unfold rngC
   simp only[qar]
   omega
  ·unfold isK
   simp only[qaa,qd4]
   omega
 refine⟨⟨h1,h2,h3,h4⟩,λc hc=>(key c hc).1,?_,?_⟩
 ·refine qbt (qcQ _ _) ?_
  rw[qdT]
  have:=ht.2.2.2.2
  omega
 ·unfold chkC
  have a1:(patL (ao w v) ks).all isK=true:=qab.2 λc hc=>(key c hc).2.1
  have a2:(patL (ao w v) ks).all (unC (.ofNat w) (.ofNat v))=true:=qab.2 λc hc=>(key c hc).2.2
  rw[a1,a2,jq (oP (nC ht.2.2.2.1))]
  rfl
def Sh4(w v:Nat):Prop:=1<=w/\w<=4/\1<=v/\v<=4
def Sh4.sh{w v:Nat}(h:Sh4 w v):Sh w v:=⟨h.1,by have:=h.2.1;omega,h.2.2.1,by have:=h.2.2.2;omega⟩
def Sh4.N{w v:Nat}(h:Sh4 w v):4<=4*w*v/\4*w*v<=64:=by
 obtain⟨h1,h2,h3,h4⟩:=h
 have a1:4*w*v<=4*w*4:=qcP _ h4
 have a2:4*w*1<=4*w*v:=qcP _ h3
 omega
structure PatF(w v:Nat)(l:TA):Prop where
 pat:Pat w v l
 pair:l.Pairwise λa b=>ltC a b=true
 kd:∀c∈l,1<=c.2.2/\c.2.2<=3
 un:∀c∈l,∃u e:Nat,(u,e)∈ao w v/\c.1 = .ofNat u/\c.2.1 = .ofNat e
 len:l.length<=128
def pz{w v:Nat}(hsh:1<=w/\w<=4/\1<=v/\v<=4):(ao w v).length<=128:=by
 have key:((List.range 4).all λw=>(List.range 4).all λv=>Nat.ble (ao (w+1) (v+1)).length 128)=true:=by kernel_rfl
 have h5:=qab.1 key (w - 1) (qae.2 (by omega))
 have h6:=qab.1 h5 (v - 1) (qae.2 (by omega))
 rw[show w - 1+1=w by omega,show v - 1+1=v by omega]at h6
 exact qc9 h6
def patF_of{w v:Nat}(hsh:1<=w/\w<=4/\1<=v/\v<=4){ks:TC}(hk:∀k∈ks,0<=k/\k<4):PatF w v (patL (ao w v) ks) where
 pat:=pat_of hsh.1 (by omega) hsh.2.2.1 (by omega) hk
 pair:=oP (nC (gM (gW w v hsh.1 (by omega) hsh.2.2.1 (by omega))).2.2.2.1)
 kd:=λc hc=>by
  obtain⟨u,k,_,h1,h,rfl⟩:=nr hc
  have:=hk k h1
  simp only
  omega
 un:=λc hc=>by
  obtain⟨u,k,h,_,_,rfl⟩:=nr hc
  exact⟨u.1,u.2,h,rfl,rfl⟩
 len:=by
  refine qbt (qcQ _ _) ?_
  rw[qdT]
  have:=pz hsh
  omega
abbrev Cel:=Nat×Nat×Nat
def ring(x y:Nat):List Cel:=
 if x%2=1 then [(x / 2,y / 2,2),(x / 2,y / 2,3),(x / 2,y / 2,0),(x / 2,y / 2,1)]
 else [(x / 2,y / 2,0),(x / 2,y / 2,3),(x / 2 - 1,y / 2,1),(x / 2 - 1,y / 2,0),(x / 2 - 1,y / 2 - 1,2),(x / 2 - 1,y / 2 - 1,1),(x / 2,y / 2 - 1,3),(x / 2,y / 2 - 1,2)]
def many(x:Nat):Nat:=if x%2=1 then 4 else 8
def bi(x y j:Nat):Cel:=(ring x y).getD (j%many x) (0,0,0)
def cV(x j:Nat):Nat:=if x%2=1 then(if j%2=0 then 1 else 2)else [2,0,1,0].getD (j%4) 0
def idOf(w:Nat)(c:Cel):Nat:=4*(c.2.1*w+c.1)+c.2.2
def jU(x j:Nat):Nat:=if x%2=1 then(2*j+3)%8 else(j+1)%8
def mw(x j:Nat):Nat:=if j=0 then 3 else cV x (j - 1)
def told(f:TQ)(ls rs:TE):Bool:=yT rs (runF 60 (.f f) ls .empty tell)
def tchT(c:Cel)(e x y:Nat)(t:Bool):Bool:=told 117 [.i (.ofNat c.1),.i (.ofNat c.2.1),.i (.ofNat c.2.2),.i (.ofNat e),.i (.ofNat x),.i (.ofNat y)] [.b t]
def lvT(c:Cel)(e x y:Nat)(t:Bool):Bool:=told 118 [.i (.ofNat c.1),.i (.ofNat c.2.1),.i (.ofNat c.2.2),.i (.ofNat e),.i (.ofNat x),.i (.ofNat y)] [.b t]
def skipT(c:Cel)(l e x y:Nat):Bool:=tchT c e x y false||(tchT c e x y true&&(Nat.beq e l||(Nat.beq l 3&&lvT c e x y false)))
def takeT(c:Cel)(l e x y:Nat):Bool:=tchT c e x y true&&(!(Nat.beq e l)&&(!(Nat.beq l 3)||lvT c e x y true))
def stepT(w v x y j:Nat):Bool:=
 let c:=bi x y j
 let d:=bi x y (j+1)
 let e:=cV x j
 let u:=min (idOf w c) (idOf w d)
 told 115 [.i (.ofNat w),.i (.ofNat v),.i (.ofNat c.1),.i (.ofNat c.2.1),.i (.ofNat c.2.2)] [.i (.ofNat (idOf w c)),.i 0] &&
 ((List.range e).all (λk=>skipT c (mw x j) k x y)&&(takeT c (mw x j) e x y&&(Nat.ble e 2 &&
 (told 50 [.i (.ofNat w),.i (.ofNat v),.i (.ofNat (idOf w c)),.i (.ofNat e)] [.i (.ofNat u),.i (.ofNat e),.i 0] &&
 (told 119 [.i (.ofNat w),.i (.ofNat v),.i (.ofNat u),.i (.ofNat e),.i (.ofNat x),.i (.ofNat y)] [.i (.ofNat (jU x j))] &&
 told 114 [.i (.ofNat c.1),.i (.ofNat c.2.1),.i (.ofNat c.2.2),.i (.ofNat e)] [.i (.ofNat d.1),.i (.ofNat d.2.1),.i (.ofNat d.2.2),.i 0])))))
def fl(w v x y:Nat):Bool:=Nat.blt 0 x&&(Nat.blt 0 y&&(Nat.blt x (2*w)&&(Nat.blt y (2*v)&&Nat.beq (x%2) (y%2))))
def cornT(w v:Nat):Bool:=(List.range (2*w)).all λx=>(List.range (2*v)).all λy=>!(fl w v x y)||(List.range (many x)).all λj=>stepT w v x y j
def corn_all:∀w v:Nat,1<=w->w<=4->1<=v->v<=4->cornT w v=true:=by
 have key:((List.range 4).all λw=>(List.range 4).all λv=>cornT (w+1) (v+1))=true:=by kernel_rfl
 intro w v h1 h2 h3 h4
 have h5:=qab.1 key (w - 1) (qae.2 (by omega))
 have h6:=qab.1 h5 (v - 1) (qae.2 (by omega))
 have e1:w - 1+1=w:=by omega
 have e2:v - 1+1=v:=by omega
 rw[e1,e2]at h6
 exact h6
def df{f:TQ}{ls rs:TE}{sg:Sig}(h:told f ls rs=true)(hs:ac f=some sg)(hp:sg.plain=true)(hg:gR ls=true):Cc f ls rs:=fW (n:=60) hs hp hg h
structure Step(w v x y j:Nat):Prop where
 id:Cc 115 [.i (.ofNat w),.i (.ofNat v),.i (.ofNat (bi x y j).1),.i (.ofNat (bi x y j).2.1),.i (.ofNat (bi x y j).2.2)] [.i (.ofNat (idOf w (bi x y j))),.i 0]
 skip:∀k,k<cV x j->Cc 117 [.i (.ofNat (bi x y j).1),.i (.ofNat (bi x y j).2.1),.i (.ofNat (bi x y j).2.2),.i (.ofNat k),.i (.ofNat x),.i (.ofNat y)] [.b false]∨
  (Cc 117 [.i (.ofNat (bi x y j).1),.i (.ofNat (bi x y j).2.1),.i (.ofNat (bi x y j).2.2),.i (.ofNat k),.i (.ofNat x),.i (.ofNat y)] [.b true]/\(k=mw x j∨
   (mw x j=3/\Cc 118 [.i (.ofNat (bi x y j).1),.i (.ofNat (bi x y j).2.1),.i (.ofNat (bi x y j).2.2),.i (.ofNat k),.i (.ofNat x),.i (.ofNat y)] [.b false])))
 take:Cc 117 [.i (.ofNat (bi x y j).1),.i (.ofNat (bi x y j).2.1),.i (.ofNat (bi x y j).2.2),.i (.ofNat (cV x j)),.i (.ofNat x),.i (.ofNat y)] [.b true]
 ne:cV x j≠mw x j
 lv:mw x j=3->Cc 118 [.i (.ofNat (bi x y j).1),.i (.ofNat (bi x y j).2.1),.i (.ofNat (bi x y j).2.2),.i (.ofNat (cV x j)),.i (.ofNat x),.i (.ofNat y)] [.b true]
 le:cV x j<=2
 name:Cc 50 [.i (.ofNat w),.i (.ofNat v),.i (.ofNat (idOf w (bi x y j))),.i (.ofNat (cV x j))] [.i (.ofNat (min (idOf w (bi x y j)) (idOf w (bi x y (j+1))))),.i (.ofNat (cV x j)),.i 0]
 dir:Cc 119 [.i (.ofNat w),.i (.ofNat v),.i (.ofNat (min (idOf w (bi x y j)) (idOf w (bi x y (j+1))))),.i (.ofNat (cV x j)),.i (.ofNat x),.i (.ofNat y)] [.i (.ofNat (jU x j))]
 next:Cc 114 [.i (.ofNat (bi x y j).1),.i (.ofNat (bi x y j).2.1),.i (.ofNat (bi x y j).2.2),.i (.ofNat (cV x j))] [.i (.ofNat (bi x y (j+1)).1),.i (.ofNat (bi x y (j+1)).2.1),.i (.ofNat (bi x y (j+1)).2.2),.i 0]
def step_of{w v x y j:Nat}(h:stepT w v x y j=true):Step w v x y j:=by
 unfold stepT at h
 simp only[qaa]at h
 obtain⟨h1,h2,h3,h4,h5,h6,h7⟩:=h
 unfold takeT at h3
 simp only[qaa,qaP,qbJ,Nat.beq_eq_true_eq]at h3
 obtain⟨t1,t2,t3⟩:=h3
 refine⟨df h1 rfl (by kernel_rfl) rfl,λk hk=>?_,df t1 rfl (by kernel_rfl) rfl,?_,λhl=>?_,qc9 h4,df h5 rfl (by kernel_rfl) rfl,df h6 rfl (by kernel_rfl) rfl,df h7 rfl (by kernel_rfl) rfl⟩
 ·have hs:=qab.1 h2 k (qae.2 hk)
  unfold skipT at hs
  simp only[qaa,qaP]at hs
  rcases hs with hs|⟨q1,q2|⟨q2,q3⟩⟩
  ·exact .inl (df hs rfl (by kernel_rfl) rfl)
  ·exact .inr ⟨df q1 rfl (by kernel_rfl) rfl,.inl (qac q2)⟩
  ·exact .inr ⟨df q1 rfl (by kernel_rfl) rfl,.inr ⟨qac q2,df q3 rfl (by kernel_rfl) rfl⟩⟩
 ·intro e
  rw[e]at t2
  rw[qbR]at t2
  cases t2
 ·rcases t3 with t3|t3
  ·rw[hl]at t3;cases t3
  ·exact df t3 rfl (by kernel_rfl) rfl
def yl{w v x y:Nat}(h1:1<=w/\w<=4/\1<=v/\v<=4)(h2:fl w v x y=true){j:Nat}(hj:j<many x):Step w v x y j:=by
 have h:=corn_all w v h1.1 h1.2.1 h1.2.2.1 h1.2.2.2
 have h3:=h2
 unfold fl at h3
 simp only[qaa,qaO]at h3
 have h4:=qab.1 (qab.1 h x (qae.2 (by omega))) y (qae.2 (by omega))
 rw[h2]at h4
 simp only[qaF,qbO]at h4
 exact step_of (qab.1 h4 j (qae.2 hj))
def tn(t k:Nat):Nat:=if Nat.blt t 4 then 4+(2+k+3*t)%4 else(2+k+3*(t - 4))%4
def tn_lt(t k:Nat):tn t k<8:=by
 unfold tn
 split<;>omega
def mvX(t x y:Nat):Int:=match t with
 |0=>0
 |1=>((x:Int)+y) / 2
 |2=>x
 |3=>((x:Int) - y) / 2
 |4=>x
 |5=>((x:Int)+y) / 2
 |6=>0
 |_=>((x:Int) - y) / 2
def mvY(t x y:Nat):Int:=match t with
 |0=>0
 |1=>((y:Int) - x) / 2
 |2=>y
 |3=>((y:Int)+x) / 2
 |4=>0
 |5=>((y:Int)+x) / 2
 |6=>y
 |_=>((y:Int) - x) / 2
def lnK(k:Nat):Nat:=match k with
 |0=>2
 |1=>4
 |2=>1
 |_=>3
def lnC(k x y:Nat):Int:=match k with
 |0=>(y:Int) / 2
 |1=>((y:Int) - x) / 2
 |2=>(x:Int) / 2
 |_=>((x:Int)+y) / 2
def lnA(k:Nat):Int:=match k with
 |0=>0
 |1=>-1
 |2=>1
 |_=>1
def lnB(k:Nat):Int:=match k with
 |0=>1
 |1=>1
 |2=>0
 |_=>1
abbrev mvL(t x y:Nat):TE:=[.i (.ofNat t),.i (mvX t x y),.i (mvY t x y)]
def iC(x t:Nat):Bool:=Nat.beq (x%2) 0||(if Nat.blt t 4 then Nat.beq (t%2) 0 else Nat.beq (t%2) 1)
def refT(x y k:Nat):Bool:=
 told 56 [.i (.ofNat (lnK k)),.i (.ofNat x),.i (.ofNat y)] [.i (.ofNat (lnK k)),.i (lnC k x y),.i 0] &&
 (told 82 [.i (.ofNat (lnK k)),.i (lnC k x y)] [.i (.ofNat (tn 0 k)),.i (mvX (tn 0 k) x y),.i (mvY (tn 0 k) x y),.i 0] &&
 (told 68 [.i (.ofNat (lnK k))] [.i (lnA k),.i (lnB k)] &&
 (told 45 [.i (.ofNat (lnK k)),.i (lnC k x y)] (mvL (tn 0 k) x y) &&
 ((List.range 8).all λt=>!(iC x t)||(
  told 60 [.i (.ofNat t),.i (mvX t x y),.i (mvY t x y),.i (.ofNat (tn 0 k)),.i (mvX (tn 0 k) x y),.i (mvY (tn 0 k) x y)] [.i (.ofNat (tn t k)),.i (mvX (tn t k) x y),.i (mvY (tn t k) x y),.i 0] &&
  told 44 [.i (.ofNat t),.i (mvX t x y),.i (mvY t x y),.i (.ofNat (tn 0 k)),.i (mvX (tn 0 k) x y),.i (mvY (tn 0 k) x y)] (mvL (tn t k) x y))))))
def ss(x k:Nat):Bool:=Nat.beq (x%2) 0||Nat.beq (k%2) 1
def refAll(x y:Nat):Bool:=!(Nat.blt 0 x&&(Nat.blt 0 y&&Nat.beq (x%2) (y%2)))||(List.range 4).all λk=>!(ss x k)||refT x y k
def ref_all:((List.range 8).all λx=>(List.range 8).all λy=>refAll x y)=true:=by kernel_rfl
structure Refl(x y k:Nat):Prop where
 thr:Cc 56 [.i (.ofNat (lnK k)),.i (.ofNat x),.i (.ofNat y)] [.i (.ofNat (lnK k)),.i (lnC k x y),.i 0]
 mof:Cc 82 [.i (.ofNat (lnK k)),.i (lnC k x y)] [.i (.ofNat (tn 0 k)),.i (mvX (tn 0 k) x y),.i (mvY (tn 0 k) x y),.i 0]
 acr:Cc 68 [.i (.ofNat (lnK k))] [.i (lnA k),.i (lnB k)]
 rof:Cc 45 [.i (.ofNat (lnK k)),.i (lnC k x y)] (mvL (tn 0 k) x y)
 thn:∀t,t<8->iC x t=true->Cc 60 [.i (.ofNat t),.i (mvX t x y),.i (mvY t x y),.i (.ofNat (tn 0 k)),.i (mvX (tn 0 k) x y),.i (mvY (tn 0 k) x y)] [.i (.ofNat (tn t k)),.i (mvX (tn t k) x y),.i (mvY (tn t k) x y),.i 0]
 rth:∀t,t<8->iC x t=true->Cc 44 [.i (.ofNat t),.i (mvX t x y),.i (mvY t x y),.i (.ofNat (tn 0 k)),.i (mvX (tn 0 k) x y),.i (mvY (tn 0 k) x y)] (mvL (tn t k) x y)
def refl_of{x y k:Nat}(h:0<x/\x<8/\0<y/\y<8/\x%2=y%2)(hk:k<4)(hd:ss x k=true):Refl x y k:=by
 have h1:=qab.1 (qab.1 ref_all x (qae.2 h.2.1)) y (qae.2 h.2.2.2.1)
 unfold refAll at h1
 have h2:(Nat.blt 0 x&&(Nat.blt 0 y&&Nat.beq (x%2) (y%2)))=true:=by
  simp only[qaa,qaO,qcm]
  omega
 rw[h2]at h1
 simp only[qaF,qbO]at h1
 have h3:=qab.1 h1 k (qae.2 hk)
 rw[hd]at h3
 simp only[qaF,qbO]at h3
 unfold refT at h3
 simp only[qaa]at h3
 obtain⟨a1,a2,a3,a4,a5⟩:=h3
 refine⟨df a1 rfl (by kernel_rfl) rfl,df a2 rfl (by kernel_rfl) rfl,df a3 rfl (by kernel_rfl) rfl,df a4 rfl (by kernel_rfl) rfl,λt ht hto=>?_,λt ht hto=>?_⟩
 ·have:=qab.1 a5 t (qae.2 ht)
  rw[hto,qaF,qbO,qaa]at this
  exact df this.1 rfl (by kernel_rfl) rfl
 ·have:=qab.1 a5 t (qae.2 ht)
  rw[hto,qaF,qbO,qaa]at this
  exact df this.2 rfl (by kernel_rfl) rfl
def ei(D:TC):Nat:=D.foldl (λt d=>tn t (d.toNat%4)) 0
def bD(b:Bool)(d:Nat):TC:=if b then [.ofNat d]else []
end Go.Am
end

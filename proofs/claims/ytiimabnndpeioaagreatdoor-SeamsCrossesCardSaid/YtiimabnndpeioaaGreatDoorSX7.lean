/-
  PART 7 OF THE PROOF (no conditions).
-/
import Derived.Test.YtiimabnndpeioaaGreatDoorSX6
import Derived.Shelf.SlSortCmp.WholeK
import Derived.Shelf.Sort.Plain
set_option linter.unusedSectionVars false
set_option linter.unusedSimpArgs false
set_option linter.unusedVariables false
set_option linter.constructorNameAsVariable false
set_option linter.defProp false
noncomputable section
set_option maxRecDepth 100000
set_option maxHeartbeats 16000000
namespace Go.Am
open Sx Go.Proofs
def DI(l:List DJ):Prop:=l.Pairwise λa b=>Bc a.1 b.1=false
def zf{a b:Cl}:Bc a b=false↔¬(b.2.1<a.2.1∨(a.2.1=b.2.1/\(b.1<a.1∨(a.1=b.1/\b.2.2<a.2.2)))):=by
 unfold Bc;rw[decide_eq_false_iff_not]
def zg{a b:Cl}:Bc a b=true↔(b.2.1<a.2.1∨(a.2.1=b.2.1/\(b.1<a.1∨(a.1=b.1/\b.2.2<a.2.2)))):=by
 unfold Bc;rw[BQ]
def Mm{A B:List DJ}{x:DJ}(h:DI (A++B))(h1:∀a∈A,Bc a.1 x.1=false)(e:∀b∈B,Bc b.1 x.1=true):DI (A++x :: B):=by
 unfold DI at *;rw[U8]at h ⊢;refine⟨h.1,qba.2 ⟨λb c=>?_,h.2.1⟩,λa d b c=>?_⟩
 ·have:=zg.1 (e b c);exact zf.2 (by omega)
 ·rcases qas.1 c with rfl|c
  ·exact h1 a d
  ·exact h.2.2 a d b c
def Mo{H:HL}{x:Value}{l:List DJ}(hx:LsH H x 4 AA l)(h0:0<l.length)(hn:l.length<=1000)(N:∀s∈l,aC s.2=true) :
  ∃l' h' z,aD cc ab 59 [.v x] (ka aa H) [.v z] (ka aa h')/\Pre H h'/\LsH h' z 4 AA l'/\l'.Perm l/\DI l':=by
 have ad:=x59 (ls:=[.v x]) (K:=λrs h'=>∃z l',rs=[.v z]/\Pre H h'/\LsH h' z 4 AA l'/\l'.Perm l/\DI l') (H:=H) (oo hx.good ua) (by
  unfold f59;simp only[xp];refine jn ?_;refine Gp (e:=4) az (hx.pre ⟨_,rfl⟩) h0 (by omega) (by omega) ?_;have u:Pre H (H++[HO.o (.cells [] 4 true)]):=⟨_,rfl⟩;generalize H++[HO.o (.cells [] 4 true)]=H1 at *;refine jn ?_;have hid:(H1++[HO.o (.cells (l.flatMap AA) 4 true)])[H1.length]?=some (HO.o (.cells (l.flatMap AA) 4 true)):=az;have P:Pre H (H1++[HO.o (.cells (l.flatMap AA) 4 true)]):=u.app _;have O:H.length<=H1.length:=u.len;generalize H1++[HO.o (.cells (l.flatMap AA) 4 true)]=H2 at *;generalize H1.length=id at *;have q:=al hid;have G:∀L:List DJ,L.length=l.length->LsH (td H2 id 4 AA L) (.slice (some ⟨id,0,qs 4⟩) l.length 0) 4 AA L:=λL h=>bW mX (bL q) h.symm;have u:td H2 id 4 AA l=H2:=bq hid;refine ac (bW (cx:=0) mX hid rfl).good ?_;refine pu ?_;refine aO (σ:=List DJ) (max 1 l.length) (λj _=>[.i (Int.ofNat j)]) (λ_ L=>td H2 id 4 AA L) (λj L=>L.Perm l/\1<=j/\DI (L.take j)) (j0:=1) (s0:=l) rfl u.symm (by omega) ⟨M9 _,Ah _,?_⟩ ?_
  ·cases l with
   |nil=>exact .nil
   |cons a l=>exact qba.2 ⟨λ_ h=>(by cases h),.nil⟩
  intro i L hi ⟨f,hi1,d⟩ self hself;have w:L.length=l.length:=f.length_eq;refine jn ?_;refine bz (G L w) ?_;rw[w];by_cases Y:i<l.length
  case neg=>
   rw[ao (by omega)];refine jn ?_;rw[CJ (by omega)]at d;exact⟨_,L,rfl,gt P O,G L w,f,d⟩
  rw[au Y];refine jn ?_;obtain⟨x0,F⟩:=aG (l:=L) (i:=i) (by omega);have g:L=L.take i++x0 :: []++L.drop (i+1):=by
   conv=>lhs;rw[←LW i L]
   rw[M8 (by omega)];have:L[i]'(by omega)=x0:=by rw[Be (by omega)]at F;exact AR F
   rw[this];simp
  refine eU (m:=i) (λm ls h=>∃(A:List DJ) (x:DJ) (B R:List DJ),ls=[.i (Int.ofNat A.length)]/\m=A.length/\h=td H2 id 4 AA (A++x :: B++R)/\(A++x :: B++R).Perm l/\DI (A++B)/\(∀b∈B,Bc b.1 x.1=true)/\A.length+B.length=i)
   ⟨L.take i,x0,[],L.drop (i+1),by rw[BX,CL (by omega)],by rw[BX,CL (by omega)],by rw[←g],by rw[←g];exact f,by simpa using d,λb M=>(by cases M),by rw[BX,CL (by omega)];rfl⟩ ?_
  clear g F d f w;rintro m ls h ⟨A,x,B,R,rfl,rfl,rfl,f,d,hB,T⟩ I n;refine HH ?_;refine jn ?_;have w:(A++x :: B++R).length=l.length:=f.length_eq;have p:(∀a∈A,Bc a.1 x.1=false)->self [.i (Int.ofNat i+1)] (td H2 id 4 AA (A++x :: B++R)):=λh=>hself _ (by omega) ⟨f,by omega,by
   rw[qcH (by simp;omega),CJ (by simp;omega)];exact Mm d h hB⟩
  rcases List.eq_nil_or_concat A with rfl|⟨c,y,rfl⟩
  ·rw[Ag (show Int.ofNat ([]:List DJ).length<=0 from Gn _)];refine jn ?_;rw[aI (by omega)];exact p λa C=>(by cases C)
  rw[List.concat_eq_append]at *;have hk:(c++[y]).length=c.length+1:=by simp
  rw[hk]at T n ⊢;have D:Bc y.1 x.1=false->∀a∈c++[y],Bc a.1 x.1=false:=by
   intro h a C;rcases qar.1 C with C|C
   ·have h1:Bc a.1 y.1=false:=by
     unfold DI at d;rw[A6,U8]at d;exact d.2.2 a C y (by simp)
    have h1:=zf.1 h1;have h:=zf.1 h;exact zf.2 (by omega)
   ·rw[qav.1 C];exact h
  have S:(c++[y]++x :: B++R)[c.length]?=some y:=by simp
  have Q:(c++[y]++x :: B++R)[c.length+1]?=some x:=by
   rw[A6,Cv (by simp)];simp
  have t:=G _ w;have hg:=bL (l:=c++[y]++x :: B++R) (e:=4) (enc:=AA) q;have W:aC y.2=true:=N y (f.mem_iff.1 (Ap S));have V:aC x.2=true:=N x (f.mem_iff.1 (Ap Q));have k:c.length+1<=4294967296:=by omega
  rw[Au (show(0:Int)<Int.ofNat (c.length+1)by show(0:Int)<((c.length+1:Nat):Int);omega)];refine jn ?_;rw[jp (by omega) k];refine pu ?_;refine bN (cs:=[.int .i64 y.1.1,.int .i64 y.1.2.1,.int .u8 (Int.ofNat y.1.2.2)]) t rfl S rfl (by omega) ?_;refine jn ?_;refine bN (cs:=[.int .i64 x.1.1,.int .i64 x.1.2.1,.int .u8 (Int.ofNat x.1.2.2)]) t rfl Q rfl (by omega) ?_;refine jn ?_;have J:=GU (a:=y.1) (b:=x.1);simp only[As,AO,AG]at J;cases r:Bc y.1 x.1 with
  |false=>
   rw[r]at J;refine ah J ?_;simp(disch:=omega)only[↓po,if_false,Bq];rw[aI (by omega)];exact p (D r)
  |true=>
   rw[r]at J;refine ah J ?_;simp(disch:=omega)only[↓po,if_true];have E:I [.i (Int.ofNat c.length)] (td H2 id 4 AA (c++x :: (y :: B)++R)):=n c.length _ _ (by omega) ⟨c,x,y :: B,R,rfl,rfl,rfl,by
    refine List.Perm.trans ?_ f;simp only[A6,AO,AG];exact qcq _ (List.Perm.swap _ _ _),by rw[A6]at d;exact d,λb M=>by
    rcases qas.1 M with rfl|M
    ·exact r
    ·exact hB b M,by simp;omega⟩
   have Z:((c++[y]++x :: B++R).set c.length x).set (c.length+1) y=c++x :: (y :: B)++R:=by
    simp only[A6,AO,AG];rw[RY _ _ (Ah _),RY _ _ (by omega),Ic,show c.length+1 - c.length=1 by omega];rfl
   have X:((c++[y]++x :: B++R).set c.length x).length=l.length:=by rw[Bo,w]
   have ag:=al Q;have U:(td (td H2 id 4 AA (c++[y]++x :: B++R)) id 4 AA ((c++[y]++x :: B++R).set c.length x))[id]?=some (.o (.cells (((c++[y]++x :: B++R).set c.length x).flatMap AA) 4 true)):=by
    rw[eo];exact bL q
   rw[jp (by omega) k];refine pu ?_;refine aP t rfl Q ?_;rw[show AA x=[.int .i64 x.1.1,.int .i64 x.1.2.1,.int .u8 (Int.ofNat x.1.2.2),x.2]from rfl];refine jn ?_;refine ac V ?_;refine pu ?_;rw[jp (by omega) k];refine pu ?_;refine aP t rfl S ?_;rw[show AA y=[.int .i64 y.1.1,.int .i64 y.1.2.1,.int .u8 (Int.ofNat y.1.2.2),y.2]from rfl];refine jn ?_;refine ac W ?_;refine pu ?_;refine de (enc:=AA) (i:=c.length) (a:=x) mX hg rfl (by omega) w rfl ?_;refine pu ?_;refine de (enc:=AA) (i:=c.length+1) (a:=y) mX U rfl (by omega) X rfl ?_;rw[eo,eo,Z];refine pu ?_;rw[jp (by omega) k];rw[qc2];exact E)
 obtain⟨rs,h',h2,z,l',rfl,h3,h4,h5,h6⟩:=ad;exact⟨l',h',z,h2,h3,h4,h5,h6⟩
abbrev Af:=Cl×List Nat
def E7(l:Ln)(s:Bool)(L:List Af):List Af:=L.filter λx=>!decide (dh l x.1=s)
def C5(l:Ln)(s:Bool)(L:List Af):List Af:=(L.filter λx=>decide (dh l x.1=s)).map λx=>(am (Bm l) x.1,x.2.reverse)
def mrg(o:Bool):List Af->Af->List Af
 | [],a=>[a]
 |x :: S,a=>if x.1=a.1 then(x.1,if o then x.2++a.2 else a.2++x.2) :: S else x :: mrg o S a
def F8{o:Bool}{a:Af}:∀ {S:List Af} {k:Nat} {x:Af},S[k]?=some x->x.1=a.1->(∀j,j<k->∀t,S[j]?=some t->t.1≠a.1)->mrg o S a=S.set k (x.1,if o then x.2++a.2 else a.2++x.2)
 | [],k,x,h,_,_=>by simp at h
 |y :: S,0,x,h,h1,_=>by
  simp at h;subst h;simp[mrg,h1]
 |y :: S,k+1,x,h,h1,b=>by
  have c:=b 0 (by omega) y rfl;simp only[mrg,ra c,qcJ];rw[F8 (by simpa using h) h1 λj e t d=>b (j+1) (by omega) t (by simpa using d)]
def xF{o:Bool}{a:Af}:∀ {S:List Af},(∀(j:Nat) t,S[j]?=some t->t.1≠a.1)->mrg o S a=S++[a]
 | [],_=>rfl
 |y :: S,h=>by
  have b:=h 0 y rfl;simp only[mrg,ra b,AO];rw[xF λj t c=>h (j+1) t (by simpa using c)]
def xE{o:Bool}{a:Af}:∀ {S:List Af},(mrg o S a).map Prod.fst=if a.1∈S.map Prod.fst then S.map Prod.fst else S.map Prod.fst++[a.1]
 | []=>by simp[mrg]
 |y :: S=>by
  unfold mrg;by_cases h:y.1=a.1
  ·rw[mc h];simp[h]
  ·rw[ra h,A5,xE];have h':¬a.1=y.1:=λe=>h e.symm;by_cases b:a.1∈S.map Prod.fst
   ·rw[mc b,mc (by simp only[A5,qas];exact .inr b)];rfl
   ·rw[ra b,ra (by simp only[A5,qas];exact λc=>c.elim h' b)];rfl
def xG{o:Bool}{a:Af}:∀ {S:List Af},((mrg o S a).flatMap Prod.snd).Perm (S.flatMap Prod.snd++a.2)
 | []=>by simp[mrg]
 |y :: S=>by
  unfold mrg;by_cases h:y.1=a.1
  ·rw[mc h];simp only[Df];cases o
   ·simp only[Bq,if_false];rw[A6,A6];refine(qdg (l₁:=a.2)).trans ?_;rw[A6]
   ·simp only[if_true];rw[A6,A6];exact qcq _ qdg
  ·rw[ra h];simp only[Df,A6];exact qcq _ xG
def vT{o:Bool}{a x:Af}:∀ {S:List Af},x∈mrg o S a->x∈S∨x=a∨∃y∈S,y.1=a.1/\x=(y.1,if o then y.2++a.2 else a.2++y.2)
 | [],h=>by
  simp[mrg]at h;exact .inr (.inl h)
 |y :: S,h=>by
  unfold mrg at h;by_cases h1:y.1=a.1
  ·rw[mc h1]at h;rcases qas.1 h with h|h
   ·exact .inr (.inr ⟨y,Cw,h1,h⟩)
   ·exact .inl (BF _ h)
  ·rw[ra h1]at h;rcases qas.1 h with h|h
   ·exact .inl (h▸Cw)
   ·rcases vT h with h|h|⟨z,d,b,c⟩
    ·exact .inl (BF _ h)
    ·exact .inr (.inl h)
    ·exact .inr (.inr ⟨z,BF _ d,b,c⟩)
structure StJ(img:Nat->Cl)(X:Tx)(L:List Af):Prop where
 nd:(L.map Prod.fst).Nodup
 at':∀s∈L,∀c∈s.2,img c=s.1
 ne:∀s∈L,s.2≠[]
 pm:(L.flatMap Prod.snd).Perm X
def StJ.mrg{f:Nat->Cl}{X:Tx}{S:List Af}(h:StJ f X S){o:Bool}{a:Af}(h1:∀c∈a.2,f c=a.1)(j:a.2≠[]):StJ f (X++a.2) (mrg o S a):=by
 refine⟨?_,λs d c b=>?_,λs d=>?_,xG.trans (h.pm.append_right _)⟩
 ·rw[xE];by_cases g:a.1∈S.map Prod.fst
  ·rw[mc g];exact h.nd
  ·rw[ra g];rw[qb0];refine⟨h.nd,by simp,λx k y i e=>?_⟩;rw[qav]at i;subst i e;exact g k
 ·rcases vT d with d|rfl|⟨y,i,g,rfl⟩
  ·exact h.at' s d c b
  ·exact h1 c b
  ·simp only at b ⊢;have b:c∈y.2∨c∈a.2:=by
    cases o
    ·simp only[Bq,if_false]at b;exact(qar.1 b).symm
    ·simp only[if_true]at b;exact qar.1 b
   rcases b with b|b
   ·exact h.at' y i c b
   ·rw[g];exact h1 c b
 ·rcases vT d with d|rfl|⟨y,i,g,rfl⟩
  ·exact h.ne s d
  ·exact j
  ·simp only;cases o<;>simp[j]
def StJ.mrgs{d:Nat->Cl}{o:Bool}:∀ {A:List Af} {X:Tx} {S:List Af},StJ d X S->(∀a∈A,(∀c∈a.2,d c=a.1)/\a.2≠[])->StJ d (X++A.flatMap Prod.snd) (A.foldl (Go.Am.mrg o) S)
 | [],X,S,h,_=>by simpa using h
 |a :: A,X,S,h,h1=>by
  have e:=h1 a Cw;have:=StJ.mrgs (o:=o) (h.mrg (o:=o) e.1 e.2) λb f=>h1 b (BF _ f);simpa[A6]using this
def vH{L:List Af}{p:Af->Bool}:((L.filter λx=>!p x).flatMap Prod.snd++(L.filter p).flatMap Prod.snd).Perm (L.flatMap Prod.snd):=by
 rw[←M4];refine List.Perm.flatMap_right _ ?_;exact List.perm_append_comm.trans (List.filter_append_perm p L)
def Kd{L:List Af}{f:Cl->Cl}:((L.map λx=>(f x.1,x.2.reverse)).flatMap Prod.snd).Perm (L.flatMap Prod.snd):=by
 induction L with
 |nil=>simp
 |cons a L b=>
  simp only[A5,Df];exact(List.reverse_perm _).append b
def Hu(l:Ln)(s o:Bool)(L:List Af):List Af:=(C5 l s L).foldl (mrg o) (E7 l s L)
def StJ.fold{f d:Nat->Cl}{X:Tx}{L:List Af}(h:StJ f X L){l:Ln}{s o:Bool}(k:∀c∈X,d c=if dh l (f c)=s then am (Bm l) (f c)else f c):StJ d X (Hu l s o L):=by
 have j:∀x∈L,∀c∈x.2,c∈X:=λx b c e=>h.pm.mem_iff.1 (qa2.2 ⟨x,b,e⟩);have m:StJ d ((E7 l s L).flatMap Prod.snd) (E7 l s L):=by
  refine⟨h.nd.sublist (List.Sublist.map _ List.filter_sublist),λx b c e=>?_,λx b=>?_,M9 _⟩
  ·obtain⟨b,i⟩:=qaO.1 b;rw[k c (j x b c e),h.at' x b c e,ra (by simpa using i)]
  ·exact h.ne x (qaO.1 b).1
 have g:=m.mrgs (o:=o) (A:=C5 l s L) λa n=>by
  obtain⟨x,b,rfl⟩:=qax.1 n;obtain⟨b,i⟩:=qaO.1 b;refine⟨λc e=>?_,by simpa using h.ne x b⟩;have e:c∈x.2:=by simpa using e
  rw[k c (j x b c e),h.at' x b c e,mc (by simpa using i)]
 refine⟨g.nd,g.at',g.ne,g.pm.trans ?_⟩;refine List.Perm.trans ?_ h.pm;refine List.Perm.trans (qcq _ Kd) ?_;exact vH
def StJ.perm{a:Nat->Cl}{X:Tx}{L d:List Af}(h:StJ a X L)(b:d.Perm L):StJ a X d:=
 ⟨(b.map _).nodup_iff.2 h.nd,λs c=>h.at' s (b.mem_iff.1 c),λs c=>h.ne s (b.mem_iff.1 c),(b.flatMap_right _).trans h.pm⟩
def jv{α β:Type}{f:α->β}{l':List β}{l:List α}(h:l'.Perm (l.map f)):∃m:List α,m.Perm l/\m.map f=l':=by
 generalize c:l.map f=k at h
 induction h generalizing l with
 |nil=>exact⟨[],by rw[qcV.1 c],rfl⟩
 |cons x _ p=>
  obtain⟨a,l,rfl,rfl,g⟩:=qdq.1 c;obtain⟨m,d,e⟩:=p g;exact⟨a :: m,d.cons a,by rw[A5,e]⟩
 |swap x y _=>
  obtain⟨a,l,rfl,rfl,g⟩:=qdq.1 c;obtain⟨b,l,rfl,rfl,rfl⟩:=qdq.1 g;exact⟨b :: a :: l,List.Perm.swap _ _ _,rfl⟩
 |trans _ _ i j=>
  obtain⟨m,d,e⟩:=j c;obtain⟨q,n,o⟩:=i e;exact⟨q,n.trans d,o⟩
def Vr{e id n cx o k:Nat}{x:Int}(a:x=Int.ofNat k)(b:k<=n):C3 e (.slice (some ⟨id,o,qs e⟩) n cx) none (some x) none=some (.slice (some ⟨id,o,qs e⟩) k cx):=by
 subst a;unfold C3;simp only;rw[ra (by simp),mc (by simp[cW];omega)];simp[fQ,bT]
def Vq{e id n cx o k:Nat}{x:Int}(a:x=Int.ofNat k)(b:k<=n):C3 e (.slice (some ⟨id,o,qs e⟩) n cx) (some x) none none=some (.slice (some ⟨id,o+k*e,qs e⟩) (n - k) (cx - k)):=by
 subst a;unfold C3;simp only;rw[ra (by simp),mc (by simp[cW];omega)];simp[fQ,bT]
section
variable {α:Type} {e:Nat} {enc:α->Tk} {l:List α} {h:HL} {v:Value}
def qj(b:∀a∈l,(enc a).length=e){k:Nat}(g:k<=l.length):(l.flatMap enc).take (k*e)=(l.take k).flatMap enc/\(l.flatMap enc).drop (k*e)=(l.drop k).flatMap enc:=by
 have c:l.flatMap enc=(l.take k).flatMap enc++(l.drop k).flatMap enc:=by rw[←M4,LW]
 have d:((l.take k).flatMap enc).length=k*e:=by rw[ba (e:=e) λa f=>b a (IM f),BX,CL g]
 constructor
 ·rw[c,←d,List.take_left'];rfl
 ·rw[c,←d,List.drop_left'];rfl
def vQ(s:LsH h v e enc l){k:Nat}(c:k<=l.length):∃x,C3 e v none (some (Int.ofNat k)) none=some x/\LsH h x e enc (l.take k)/\blk x=blk v:=by
 obtain⟨b,q,⟨rfl,m⟩|⟨id,g,j,t,i,rfl,n,o⟩⟩:=s
 ·have r:=qa6.1 m;subst r;simp at c;subst c;exact⟨.slice none 0 0,rfl,LsH.nil h e enc,rfl⟩
 ·refine⟨_,Vr rfl c,⟨λa d=>b a (IM d),ba λa d=>b a (IM d),.inr ⟨id,g,j,t,i,by rw[BX,CL c],n,?_⟩⟩,rfl⟩;have f:0+k*e<=l.length*e:=by rw[BT];exact LY e c
  have p:=nO o f;rw[BX,CL c,←(qj b c).1];simpa using p
def F2(s:LsH h v e enc l){k:Nat}(c:k<=l.length):∃x,C3 e v (some (Int.ofNat k)) none none=some x/\LsH h x e enc (l.drop k)/\blk x=blk v:=by
 obtain⟨b,f,⟨rfl,n⟩|⟨id,i,m,t,j,rfl,o,p⟩⟩:=s
 ·have r:=qa6.1 n;subst r;simp at c;subst c;exact⟨.slice none 0 0,rfl,LsH.nil h e enc,rfl⟩
 ·refine⟨_,Vq rfl c,⟨λa d=>b a (LX d),ba λa d=>b a (LX d),.inr ⟨id,i+k*e,m - k,t,j,by rw[M6],o,?_⟩⟩,rfl⟩;have g:k*e+(l.length - k)*e<=l.length*e:=by rw[←Dg,Nat.add_sub_cancel' c];exact Ah _
  have q:=nO p g;rw[M6,q,←(qj b c).2]
  congr 1
  refine CJ ?_;rw[M6,f,Nat.sub_mul];exact Ah _
def OwnL.apL{n0 bytes:Nat}{x:Value}{new:List α}{K:Ta}(b:∀a,(enc a).length=e)(g:OwnL n0 h v e enc l)(c:n0<=h.length)(k:LsH h x e enc new)(i:(l.length+new.length)*bytes<=140737488355328)(d:l.length+new.length<=140737488355328)
  (f:∀v' h',OwnL n0 h' v' e enc (l++new)->aC v'=true->(∀(j:Nat) o,h[j]?=some o->Sx.blk v≠some j->h'[j]?=some o)->h.length<=h'.length->(Sx.blk v'=Sx.blk v∨∃j,Sx.blk v'=some j/\h.length<=j)->K [v'] h') :
  P1.heap (.ap cc e bytes v x) h (@hid _ ⟨K⟩):=
 g.ap b c (qS k.2) rfl (by unfold bb;rw[Bg d,Bg i];rfl) f
def OwnL.emp{n0 m:Nat}(a:h[m]?=some (.o (.cells [] e true)))(b:n0<=m):OwnL (α:=α) n0 h (.slice (some ⟨m,0,qs e⟩) 0 1) e enc []:=.inr ⟨m,1,rfl,b,a,.inr rfl⟩
end
def sZ{u v:Value}{k:Nat}{l:List (Value×Nat×Value)}(h:Sx.disjN (Sx.adr u) (Sx.adrK k v)=true)(a:Sx.sepL l=some ()):Sx.sepL ((u,(k,v)) :: l)=some ():=by
 show(match Sx.disjN (Sx.adr u) (Sx.adrK k v)with
  |true=>Sx.sepL l
  |false=>none)=_
 rw[h];exact a
def rC{a:Tx}:Sx.disjN a []=true:=by
 induction a with
 |nil=>rfl
 |cons x a b=>
  show(match Sx.memN x []with
   |true=>false
   |false=>Sx.disjN a [])=true
  exact b
def nQ{a b:Nat}(h:a≠b):Sx.disjN [a] [b]=true:=by
 have:Sx.memN a [b]=false:=by
  unfold Sx.memN;have:Nat.beq a b=false:=by
   cases c:Nat.beq a b with
   |true=>exact absurd (AW c) h
   |false=>rfl
  rw[this];rfl
 unfold Sx.disjN;rw[this];rfl
def nR{a b:Option Addr}{n c f d:Nat}(h:∀i,blk (.slice a n c)=some i->blk (.slice b f d)≠some i):Sx.disjN (Sx.adr (.slice a n c)) (Sx.adrK 0 (.slice b f d))=true:=by
 show Sx.disjN (Sx.adr (.slice a n c)) (Sx.adr (.slice b f d))=true;rcases a with _|a
 ·rfl
 rcases b with _|b
 ·exact rC
 have g:a.block≠b.block:=λe=>h a.block rfl (by rw[e];rfl);have k:∀(a:Addr) n c,Sx.adr (.slice (some a) n c)=[]∨Sx.adr (.slice (some a) n c)=[a.block]:=λa n c=>by
  unfold Sx.adr;simp only;split
  ·exact .inl rfl
  ·exact .inr rfl
 rcases k a n c with e|e<;>rcases k b f d with j|j<;>rw[e,j]
 ·rfl
 ·rfl
 ·exact rC
 ·exact nQ g
def jV{α:Type}{h:HL}{v:Value}{e:Nat}{enc:α->Tk}{l:List α}(b:LsH h v e enc l):∃a n c,v = .slice a n c:=by
 obtain⟨_,_,⟨rfl,_⟩|⟨id,d,g,i,f,rfl,_⟩⟩:=b
 ·exact⟨_,_,_,rfl⟩
 ·exact⟨_,_,_,rfl⟩
def wW{u v:Value}(e:∃a n c,u = .slice a n c)(f:∃a n c,v = .slice a n c)(h:∀i,blk u=some i->blk v≠some i):Sx.disjN (Sx.adr u) (Sx.adrK 0 v)=true:=by
 obtain⟨a,n,c,rfl⟩:=e;obtain⟨b,m,d,rfl⟩:=f;exact nR h
def JD{u v:Value}(e:∃a n c,v = .slice a n c):Sx.disjN (Sx.adr u) (Sx.adrK 1 v)=true:=by
 obtain⟨b,m,d,rfl⟩:=e;exact rC
def lN:Sx.sepL []=some ():=rfl
def xU{a b c d:Int}{K:Tm}(h1:a=c/\b=d->K true)(f:¬(a=c/\b=d)->K false):P1.eqs [(.i a,.i c),(.i b,.i d)] (@hid _ ⟨K⟩):=by
 by_cases h:a=c/\b=d
 ·obtain⟨rfl,rfl⟩:=h;show K (cp _);have e:cp [(Lf.i a,Lf.i a),(Lf.i b,Lf.i b)]=true:=by simp[cp,gJ]
  rw[e];exact h1 ⟨rfl,rfl⟩
 ·rw[CY h];exact f h
def wi{a b:Int}{K:Tm}(h1:a<b->K true)(c:b<=a->K false):P1.cmp .lss a b (@hid _ ⟨K⟩):=by
 rcases Int.lt_or_le a b with h|h
 ·rw[us h];exact h1 h
 ·rw[tx h];exact c h
def Gq{α:Type}{e cx len:Nat}{enc:α->Tk}(b:∀a,(enc a).length=e){h:HL}{id:Nat}{l:List α}{i o:Nat}{a a':α}{n:Int}{new:Tk}{K:Ta}(hg:h[id]?=some (.o (.cells (l.flatMap enc) e true)))(u:n=Int.ofNat i)(m:l[i]?=some a)(c:l.length=len)(B:o+new.length<=e)
  (f:enc a'=(enc a).take o++new++(enc a).drop (o+new.length)) (r:K [] (td h id e enc (l.set i a'))) :
  P1.opt (Ax e (.slice (some ⟨id,0,qs e⟩) len cx) n) (@hid _ ⟨λx=>P1.opt (Aw o x) (@hid _ ⟨λy=>P1.chk y (@hid _ ⟨P1.heap (.st y new) h (@hid _ ⟨K⟩)⟩)⟩)⟩):=by
 subst u c;have d:=al m;have v:Ax e (.slice (some ⟨id,0,qs e⟩) l.length cx) (Int.ofNat i)=some (.pointer (some ⟨id,i*e,none⟩)):=by
  rw[ut];have q:0<=Int.ofNat i/\Int.ofNat i<(l.length:Int):=⟨B8 i,by show(i:Int)<l.length;omega⟩;simp only[mc q];have:¬(qs e=some 1):=by simp[qs]
  simp only[ra this,BT];rfl
 refine ae v ?_;refine ae (x:=.pointer (some ⟨id,i*e+o,none⟩)) rfl ?_;refine ac (by simp[aC,noLoc,aR,bh,aX,aJ,aA]) ?_;have s:=ba (e:=e) (enc:=enc) (l:=l) λa _=>b a;have t:i*e+e<=l.length*e:=by
  have:=LY e (show i+1<=l.length by omega);rw[Dg,Ik]at this;exact this
 have j:=gh b (l:=l) (i:=i) a d;rw[bq m]at j;have p:=gh b (l:=l) (i:=i) a' d;have hA:((l.flatMap enc).take (i*e)).length=i*e:=by rw[BX];omega
 have A:=b a;have k:(l.flatMap enc).take (i*e+o)++new++(l.flatMap enc).drop (i*e+o+new.length)=(l.set i a').flatMap enc:=by
  rw[←p,f];have w:(l.flatMap enc).take (i*e+o)=(l.flatMap enc).take (i*e)++(enc a).take o:=by
   conv=>lhs;rw[←j,A6]
   rw[qdl,CJ (by omega),hA,show i*e+o - i*e=o by omega,qdl,show o - (enc a).length=0 by omega,VW,Cx]
  have z:(l.flatMap enc).drop (i*e+o+new.length)=(enc a).drop (o+new.length)++(l.flatMap enc).drop (i*e+e):=by
   conv=>lhs;rw[←j,A6]
   rw[VU,RW (by omega),AG,hA,show i*e+o+new.length - i*e=o+new.length by omega,VU,show o+new.length - (enc a).length=0 by omega,Gl]
  rw[w,z];simp only[A6]
 have g:(Hp.st (.pointer (some ⟨id,i*e+o,none⟩)) new).run (zz aa h) h.length=some ([.set id (.cells ((l.set i a').flatMap enc) e true)],[]):=by
  show E5 (.pointer (some ⟨id,i*e+o,none⟩)) new (zz aa h) h.length=_;unfold E5;simp only;rw[bD hg];simp only;unfold splice;rw[s,mc (by omega),k];rfl
 exact ce g r
def DY{α β:Type}{e e':Nat}{enc:α->Tk}{a:β->Tk}{l:List α}{l':List β}{h:HL}{v v':Value}(r:LsH h v e enc l)(g:LsH h v' e' a l')(f:e≠e'){b:Nat}(j:blk v=some b):blk v'≠some b:=by
 intro d;obtain⟨_,_,⟨rfl,_⟩|⟨id,s,x,y,t,rfl,p,_⟩⟩:=r
 ·cases j
 obtain⟨_,_,⟨rfl,_⟩|⟨i,k,m,w,u,rfl,c,_⟩⟩:=g
 ·cases d
 have n:id=b:=by simpa[blk]using j
 have o:i=b:=by simpa[blk]using d
 subst n o;rw[p]at c;have:=AR c;injection this with this
 injection this with _ q
 exact f q
def Ll{α:Type}{e:Nat}{enc:α->Tk}(b:∀a,(enc a).length=e){h:HL}{id cx n i o k:Nat}{R:List α}{a:α}(s:h[id]?=some (.o (.cells (R.flatMap enc) e true)))(m:R[i]?=some a)(v:n=R.length)(x:o+k<=e) :
  Ax e (.slice (some ⟨id,0,qs e⟩) n cx) (Int.ofNat i)=some (.pointer (some ⟨id,0+i*e,none⟩))/\Aw o (.pointer (some ⟨id,0+i*e,none⟩))=some (.pointer (some ⟨id,0+i*e+o,none⟩))/\Ptr h (.pointer (some ⟨id,0+i*e+o,none⟩)) (((enc a).drop o).take k):=by
 subst v;have u:=al m;have g:Ax e (.slice (some ⟨id,0,qs e⟩) R.length cx) (Int.ofNat i)=some (.pointer (some ⟨id,0+i*e,none⟩)):=by
  rw[ut];have t:0<=Int.ofNat i/\Int.ofNat i<(R.length:Int):=⟨B8 i,by show(i:Int)<R.length;omega⟩;simp only[mc t];have:¬(qs e=some 1):=by simp[qs]
  simp only[ra this];rfl
 have d:LsH h (.slice (some ⟨id,0,qs e⟩) R.length cx) e enc R:=by
  have q:=ba (e:=e) (enc:=enc) (l:=R) λa _=>b a;exact⟨λa _=>b a,q,.inr ⟨id,0,cx,_,true,rfl,s,Sx.cut_all q⟩⟩
 obtain⟨p,c,f⟩:=d.at m;rw[g]at c;cases c;obtain⟨y,r,w⟩:=f.fd o k (by rw[b];omega);have j:Aw o (.pointer (some ⟨id,0+i*e,none⟩))=some (.pointer (some ⟨id,0+i*e+o,none⟩)):=rfl;rw[j]at r;cases r;exact⟨g,j,w⟩
def cP(b o:Nat):aC (.pointer (some ⟨b,o,none⟩))=true:=by simp[aC,noLoc,aR,bh,aX,aJ,aA]
def rD{v:Value}{b o:Nat}(f:∃a n c,v = .slice a n c)(h:∀i,blk v=some i->i≠b):Sx.disjN (Sx.adr v) (Sx.adrK 0 (.pointer (some ⟨b,o,none⟩)))=true:=by
 obtain⟨x,n,c,rfl⟩:=f;rcases x with _|x
 ·rfl
 have d:x.block≠b:=h x.block rfl;have e:Sx.adrK 0 (.pointer (some ⟨b,o,none⟩))=[b]:=rfl;rw[e];have g:Sx.adr (.slice (some x) n c)=[]∨Sx.adr (.slice (some x) n c)=[x.block]:=by
  unfold Sx.adr;simp only;split
  ·exact .inl rfl
  ·exact .inr rfl
 rcases g with e|e<;>rw[e]
 ·rfl
 ·exact nQ d
def Vl:=And.intro @Lt (And.intro (@RI _ _ cc ab aa) (And.intro (@RQ _ _ cc ab aa) (And.intro (@RP _ _ cc ab aa) (And.intro (@RR _ _ cc ab aa) (And.intro (@RO _ _ cc ab aa) (And.intro (@RM _ _ cc ab aa) (And.intro (@RL _ _ cc ab aa) (And.intro (@RN _ _ cc ab aa) (And.intro (@RK _ _ cc ab aa) (And.intro (@D5 _ _ cc ab aa) (And.intro (@D4 _ _ cc ab aa) (And.intro (@RJ _ _ cc ab aa) (And.intro (@RH _ _ cc ab aa) (And.intro (@Gh _ _ cc ab aa) (And.intro (@Gg _ _ cc ab aa) (@p_it))))))))))))))))
def EX{h1 h':HL}(c:∀(j:Nat) o,h1[j]?=some o->h'[j]?=some o):Pre h1 h':=by
 have d:h1.length<=h'.length:=by
  rcases Bu h'.length h1.length with h|h
  ·obtain⟨o,a⟩:=aG h;have:=al (c _ o a);omega
  ·exact h
 refine⟨h'.drop h1.length,?_⟩;have:h'.take h1.length=h1:=by
  refine Gm λi=>?_;by_cases b:i<h1.length
  ·rw[qdL b];obtain⟨o,a⟩:=aG b;rw[a,c i o a]
  ·rw[Bp (by rw[BX];omega),Bp (by omega)]
 conv=>lhs;rw[←LW h1.length h',this]
def bE{h1 h h':HL}(c:Pre h1 h)(b:∀(j:Nat) o,j<h1.length->h[j]?=some o->h'[j]?=some o):Pre h1 h':=EX λj o a=>b j o (al a) (c.get a)
def rG(l:Ln):Tk:=[.int .u8 (Int.ofNat l.1),.int .i64 l.2]
def df(l:Ln):(rG l).length=2:=rfl
def O4{w v:Nat}(h3:S3 w v){l:Ty}{H:HL}{x xs:Value}(hl:LsH H x 3 Ac l)(a8:aC xs=true)(hv:∀c∈l,VC w v c)(bt:∀c∈l,c.2.2≠0)(hn:l.length<=1000){r:Mv}(hr:AK 10000 r){G:TC}(hG:ConsO w v l G) :
  ∃z h' d,aD cc ab 21 ([.i (.ofNat w),.i (.ofNat v),.v x]++AB r++[.v xs]) (ka aa H) [.v z] (ka aa h')/\Pre H h'/\LsH h' z 2 rG d/\d.length<=1000/\∀y∈d,∃p∈A2 w v l G r (4*w*v),p.2.2=y:=by
 have hs:=h3.sh;obtain⟨b1,b2,b3,b4⟩:=h3.n;have hN:=Bw hs;obtain⟨z,h1,c1,bP,cb,hZ⟩:=xZ h3 hl a8 hv bt hn hr hG;have b6:=kj (w:=w) (v:=v) (l:=l) (G:=G) (r:=r) (n:=4*w*v);have bX:=x21 (ls:=[.i (.ofNat w),.i (.ofNat v),.v x,.i (Int.ofNat r.1),.i r.2.1,.i r.2.2,.v xs]) (K:=λrs h'=>∃z d,rs=[.v z]/\Pre H h'/\LsH h' z 2 rG d/\d.length<=1000/\∀y∈d,∃p∈A2 w v l G r (4*w*v),p.2.2=y) (H:=H) (km (km (oo hl.good (km (km (km (oo a8 ua))))))) (by
  unfold f21;simp only[xp];refine jn ?_;simp only[AB,AO,AG]at c1;refine ai c1 ?_;refine jn ?_;generalize b5:A2 w v l G r (4*w*v)=P at *;refine aO (σ:=HL×Value) P.length (λj s=>[.v s.2,.i (Int.ofNat j)]) (λ_ s=>s.1) (λj s=>Pre h1 s.1/\∃d:List Ln,OwnL h1.length s.1 s.2 2 rG d/\d.length<=j/\∀y∈d,∃p∈P,p.2.2=y) (j0:=0) (s0:=(h1,.slice none 0 0)) rfl rfl (AF _) ⟨.refl _,[],.nil _ _ _ _,Ah _,λy hy=>by cases hy⟩ ?_;rintro j ⟨h,o⟩ D ⟨A,d,hO,ca,Y⟩ bn V;simp only at A hO ⊢;refine jn ?_;refine bz (hZ.pre A) ?_;by_cases X:j<P.length
  case neg=>
   rw[ao (by omega)];refine jn ?_;exact⟨o,d,rfl,bP.trans A,hO.ls df,by omega,Y⟩
  rw[au X];refine jn ?_;obtain⟨p,hp⟩:=aG X;have bS:=Ap hp;refine bN (cs:=[.int .u8 (Int.ofNat p.2.2.1),.int .i64 p.2.2.2]) (hZ.pre A) rfl hp rfl (by omega) ?_;simp (disch:=omega) only[↓Vl,↓R5,↓R4];generalize hy:p.2.2=y at *;have bd:=A.len;have f:=hO.ls df;have b9:=f.good;have Z:∀k,k<=d.length->∀h' o' ,Pre h1 h'->OwnL h1.length h' o' 2 rG (d.take k++[y]++d.drop k)->bn [.v o',.i (Int.ofNat j+1)] h':=λk M h' o' bI bx=>V (h',o') X ⟨bI,_,bx,by simp;omega,λa C=>by
   rcases qar.1 C with C|C
   ·rcases qar.1 C with C|C
    ·exact Y a (IM C)
    ·rw[qav]at C;exact⟨p,bS,hy.trans C.symm⟩
   ·exact Y a (LX C)⟩
  refine kg (λl h'=>∃k,k<=d.length/\l=[.i (Int.ofNat k)]/\h'=h) ?_ ?_
  case refine_2=>
   intro jj ar;refine cG d.length (λ_=>True) (j0:=0) rfl (AF _) trivial ?_;intro k M _ b0 F;refine jn ?_;refine bz f ?_;by_cases I:k<d.length
   case neg=>
    rw[ao (by omega)];refine jn ?_;exact ar _ _ ⟨k,M,rfl,rfl⟩
   rw[au I];refine jn ?_;obtain⟨a,C⟩:=aG I;refine bN (cs:=[.int .u8 (Int.ofNat a.1)]) f rfl C rfl (by omega) ?_;refine jn ?_;refine wi (λ_=>?_) (λ_=>?_)
   ·simp(disch:=omega)only[↓po];rw[aI (by omega)];exact F I trivial
   refine jn ?_;refine bN (cs:=[.int .u8 (Int.ofNat a.1)]) f rfl C rfl (by omega) ?_;refine jn ?_;refine EW λt ht=>?_;cases t with
   |false=>
    refine jn ?_;exact ar _ _ ⟨k,M,rfl,rfl⟩
   |true=>
   refine jn ?_;refine bN (cs:=[.int .i64 a.2]) f rfl C rfl (by omega) ?_;refine jn ?_;refine wi (λ_=>?_) (λ_=>?_)
   ·simp(disch:=omega)only[↓po];rw[aI (by omega)];exact F I trivial
   ·simp(disch:=omega)only[↓po];exact ar _ _ ⟨k,M,rfl,rfl⟩
  rintro l' h' ⟨k,M,rfl,a9⟩;rw[a9];clear a9 h';refine jn ?_;refine bz f ?_;refine EW λt ht=>?_;cases t with
  |true=>
   refine jn ?_;obtain⟨x1,a2,E,ad⟩:=vQ f M;obtain⟨x2,a3,Q,bs⟩:=F2 f M;have S:∀b,blk o=some b->b<h.length:=λb L=>(hO.blk L).2;have hh:(h++[HO.o (.cells [] 2 true)]).length=h.length+1:=by simp
   have he:OwnL (α:=Ln) h1.length (h++[HO.o (.cells [] 2 true)]) (.slice (some ⟨h.length,0,qs 2⟩) 0 1) 2 rG []:=OwnL.emp az bd;refine ae a2 ?_;refine ac E.good ?_;refine pu ?_;refine he.apL df (by omega) (E.pre ⟨_,rfl⟩) (by simp;omega) (by simp;omega) ?_;intro z1 m u ag N be _;have a4:=u.ls df;have aE:Pre h1 m:=bE (A.app _) λi o g q=>N i o q λe=>by have:=(he.blk e).1;omega
   have T:Pre h m:=bE (h1:=h) ⟨_,rfl⟩ λi o g q=>N i o q λe=>by
    have:h.length=i:=by simpa[blk]using e
    omega
   refine jn ?_;refine ac ag ?_;refine pu ?_;refine u.ap1 (a:=y) df (by omega) rfl rfl rfl (by
    unfold bb;rw[Bg (by simp;omega),Bg (by simp;omega)];rfl) ?_
   intro z2 g2 R an O bl _;have B:∀b,blk z1=some b->h.length<=b/\b<m.length:=λb L=>by
    refine⟨?_,(u.blk L).2⟩;rcases ‹blk z1=blk _∨_› with e|⟨j',e,e'⟩
    ·rw[L]at e;have:b=h.length:=by simpa[blk]using e
     omega
    ·rw[L]at e;cases e;omega
   have a0:Pre h1 g2:=bE aE λi o g q=>O i o q λe=>by have:=(u.blk e).1;omega
   have U:Pre h g2:=bE T λi o g q=>O i o q λe=>by have:=(B _ e).1;omega
   refine jn ?_;refine ac an ?_;refine pu ?_;refine ae a3 ?_;refine ac Q.good ?_;refine pu ?_;refine R.apL df (by omega) (Q.pre U) (by simp;omega) (by simp;omega) ?_;intro z3 g3 ay ap ax bm _;have a1:Pre h1 g3:=bE a0 λi o g q=>ax i o q λe=>by have:=(R.blk e).1;omega
   refine jn ?_;refine ac ap ?_;refine pu ?_;have a6:=jV f;have a5:=jV E;have a7:=jV a4;have dA:∀n c W J,Sx.disjN (Sx.adr (.slice (some ⟨h.length,0,some 12⟩) n c)) (Sx.adrK 0 (.slice (some ⟨m.length,0,some 12⟩) W J))=true:=λn c W J=>nR λi g D=>by
    have e1:h.length=i:=by simpa[blk]using g
    have e2:m.length=i:=by simpa[blk]using D
    omega
   have dB:∀n c W J,Sx.disjN (Sx.adr (.slice (some ⟨m.length,0,some 12⟩) n c)) (Sx.adrK 0 (.slice (some ⟨h.length,0,some 12⟩) W J))=true:=λn c W J=>nR λi g D=>by
    have e1:m.length=i:=by simpa[blk]using g
    have e2:h.length=i:=by simpa[blk]using D
    omega
   have dC:∀n c,Sx.disjN (Sx.adr z1) (Sx.adrK 0 (.slice (some ⟨m.length,0,some 12⟩) n c))=true:=λn c=>wW a7 ⟨_,_,_,rfl⟩ λi g D=>by
    have e2:m.length=i:=by simpa[blk]using D
    have:=B i g;omega
   have dD:∀n c,Sx.disjN (Sx.adr (.slice (some ⟨m.length,0,some 12⟩) n c)) (Sx.adrK 0 x1)=true:=λn c=>wW ⟨_,_,_,rfl⟩ a5 λi g D=>by
    have e2:m.length=i:=by simpa[blk]using g
    have:=S i (ad▸D);omega
   refine ae (x:=()) (by
    repeat' (first|exact lN|refine sZ ?_ ?_)
    all_goals first|exact JD a6|exact dA _ _ _ _|exact dB _ _ _ _|exact dC _ _|exact dD _ _) ?_
   try simp(disch:=omega)only[↓po]
   try rw[aI (by omega)]
   try simp(disch:=omega)only[↓po]
   try rw[aI (by omega)]
   exact Z k M g3 z3 a1 (by simpa using ay)
  |false=>
   refine jn ?_;have I:k<d.length:=by
    have h5:=of_decide_eq_false ht.symm;have h6:¬k=d.length:=λe=>h5 (by rw[e]);omega
   obtain⟨a,C⟩:=aG I;refine aP f rfl C ?_;rw[show rG a=[.int .u8 (Int.ofNat a.1),.int .i64 a.2]from rfl];refine jn ?_;refine xU (λb7=>?_) (λb8=>?_)
   ·simp(disch:=omega)only[↓po,BS];rw[aI (by omega)];exact V (h,o) X ⟨A,d,hO,by omega,Y⟩
   simp(disch:=omega)only[↓po,CI];obtain⟨x1,a2,E,ad⟩:=vQ f M;obtain⟨x2,a3,Q,bs⟩:=F2 f M;have S:∀b,blk o=some b->b<h.length:=λb L=>(hO.blk L).2;have hh:(h++[HO.o (.cells [] 2 true)]).length=h.length+1:=by simp
   have he:OwnL (α:=Ln) h1.length (h++[HO.o (.cells [] 2 true)]) (.slice (some ⟨h.length,0,qs 2⟩) 0 1) 2 rG []:=OwnL.emp az bd;refine ae a2 ?_;refine ac E.good ?_;refine pu ?_;refine he.apL df (by omega) (E.pre ⟨_,rfl⟩) (by simp;omega) (by simp;omega) ?_;intro z1 m u ag N be _;have a4:=u.ls df;have aE:Pre h1 m:=bE (A.app _) λi o g q=>N i o q λe=>by have:=(he.blk e).1;omega
   have T:Pre h m:=bE (h1:=h) ⟨_,rfl⟩ λi o g q=>N i o q λe=>by
    have:h.length=i:=by simpa[blk]using e
    omega
   refine jn ?_;refine ac ag ?_;refine pu ?_;refine u.ap1 (a:=y) df (by omega) rfl rfl rfl (by
    unfold bb;rw[Bg (by simp;omega),Bg (by simp;omega)];rfl) ?_
   intro z2 g2 R an O bl _;have B:∀b,blk z1=some b->h.length<=b/\b<m.length:=λb L=>by
    refine⟨?_,(u.blk L).2⟩;rcases ‹blk z1=blk _∨_› with e|⟨j',e,e'⟩
    ·rw[L]at e;have:b=h.length:=by simpa[blk]using e
     omega
    ·rw[L]at e;cases e;omega
   have a0:Pre h1 g2:=bE aE λi o g q=>O i o q λe=>by have:=(u.blk e).1;omega
   have U:Pre h g2:=bE T λi o g q=>O i o q λe=>by have:=(B _ e).1;omega
   refine jn ?_;refine ac an ?_;refine pu ?_;refine ae a3 ?_;refine ac Q.good ?_;refine pu ?_;refine R.apL df (by omega) (Q.pre U) (by simp;omega) (by simp;omega) ?_;intro z3 g3 ay ap ax bm _;have a1:Pre h1 g3:=bE a0 λi o g q=>ax i o q λe=>by have:=(R.blk e).1;omega
   refine jn ?_;refine ac ap ?_;refine pu ?_;have a6:=jV f;have a5:=jV E;have a7:=jV a4;have dA:∀n c W J,Sx.disjN (Sx.adr (.slice (some ⟨h.length,0,some 12⟩) n c)) (Sx.adrK 0 (.slice (some ⟨m.length,0,some 12⟩) W J))=true:=λn c W J=>nR λi g D=>by
    have e1:h.length=i:=by simpa[blk]using g
    have e2:m.length=i:=by simpa[blk]using D
    omega
   have dB:∀n c W J,Sx.disjN (Sx.adr (.slice (some ⟨m.length,0,some 12⟩) n c)) (Sx.adrK 0 (.slice (some ⟨h.length,0,some 12⟩) W J))=true:=λn c W J=>nR λi g D=>by
    have e1:m.length=i:=by simpa[blk]using g
    have e2:h.length=i:=by simpa[blk]using D
    omega
   have dC:∀n c,Sx.disjN (Sx.adr z1) (Sx.adrK 0 (.slice (some ⟨m.length,0,some 12⟩) n c))=true:=λn c=>wW a7 ⟨_,_,_,rfl⟩ λi g D=>by
    have e2:m.length=i:=by simpa[blk]using D
    have:=B i g;omega
   have dD:∀n c,Sx.disjN (Sx.adr (.slice (some ⟨m.length,0,some 12⟩) n c)) (Sx.adrK 0 x1)=true:=λn c=>wW ⟨_,_,_,rfl⟩ a5 λi g D=>by
    have e2:m.length=i:=by simpa[blk]using g
    have:=S i (ad▸D);omega
   refine ae (x:=()) (by
    repeat' (first|exact lN|refine sZ ?_ ?_)
    all_goals first|exact JD a6|exact dA _ _ _ _|exact dB _ _ _ _|exact dC _ _|exact dD _ _) ?_
   try simp(disch:=omega)only[↓po]
   try rw[aI (by omega)]
   try simp(disch:=omega)only[↓po]
   try rw[aI (by omega)]
   exact Z k M g3 z3 a1 (by simpa using ay))
 obtain⟨rs,h',h2,z,d,rfl,h3,h4,h5,h6⟩:=bX;exact⟨z,h',d,h2,h3,h4,h5,h6⟩
abbrev Sk:=Cl×Value×List Nat
def Ar(s:Sk):Tk:=bu s.1++[s.2.1]
def dl(s:Sk):(Ar s).length=4:=rfl
def CP(s:Sk):Af:=(s.1,s.2.2)
def Pcs(n0:Nat)(h:HL)(Q:List Sk):Prop:=(∀p∈Q,OwnL n0 h p.2.1 1 kl p.2.2)/\Q.Pairwise λp q=>∀b,blk p.2.1=some b->blk q.2.1≠some b
def Pcs.nil(n0:Nat)(h:HL):Pcs n0 h []:=⟨λp a=>(by cases a),.nil⟩
def Pcs.perm{n0:Nat}{h:HL}{Q c:List Sk}(e:Pcs n0 h Q)(d:c.Perm Q):Pcs n0 h c:=
 ⟨λp h=>e.1 p (d.mem_iff.1 h),(d.pairwise_iff (λh b f a=>h b a f)).2 e.2⟩
def Pcs.keep{n0:Nat}{h h':HL}{Q:List Sk}(b:Pcs n0 h Q)(c:∀p∈Q,∀(j:Nat) o,h[j]?=some o->blk p.2.1=some j->h'[j]?=some o):Pcs n0 h' Q:=
 ⟨λp a=>(b.1 p a).keep (c p a),b.2⟩
def Pcs.cons{n0:Nat}{h:HL}{Q:List Sk}(a:Pcs n0 h Q){p:Sk}(d:OwnL n0 h p.2.1 1 kl p.2.2)(c:∀q∈Q,∀b,blk p.2.1=some b->blk q.2.1≠some b):Pcs n0 h (p :: Q):=
 ⟨λq h=>by
  rcases qas.1 h with rfl|h
  ·exact d
  ·exact a.1 q h,qba.2 ⟨c,a.2⟩⟩
def Pcs.low{n0:Nat}{h:HL}{Q:List Sk}(a:Pcs n0 h Q){b:Nat}(j:b<=n0):Pcs b h Q:=
 ⟨λp g=>by
  rcases a.1 p g with d|⟨id,c,e,i,f⟩
  ·exact .inl d
  ·exact .inr ⟨id,c,e,by omega,f⟩,a.2⟩
def aL{α β:Type}{n0 e e':Nat}{enc:α->Tk}{a:β->Tk}{l:List α}{l':List β}{h:HL}{v v':Value}(r:OwnL n0 h v e enc l)(g:OwnL n0 h v' e' a l')(f:e≠e'){b:Nat}(j:blk v=some b):blk v'≠some b:=by
 intro d;rcases r with⟨rfl,_⟩|⟨id,s,rfl,t,p,_⟩
 ·cases j
 rcases g with⟨rfl,_⟩|⟨i,k,rfl,o,c,_⟩
 ·cases d
 have m:id=b:=by simpa[blk]using j
 have n:i=b:=by simpa[blk]using d
 subst m n;rw[p]at c;have:=AR c;injection this with this
 injection this with _ q
 exact f q
structure FW(n0:Nat)(h:HL)(zs za zc:Value)(Ms Ma:List Sk)(C:Ty):Prop where
 os:OwnL n0 h zs 4 Ar Ms
 oa:OwnL n0 h za 4 Ar Ma
 oc:OwnL n0 h zc 3 Ac C
 ne:∀b,blk zs=some b->blk za≠some b
 pc:Pcs n0 h (Ms++Ma)
section
variable {n0:Nat} {h h':HL} {zs za zc:Value} {Ms Ma:List Sk} {C:Ty}
def FW.frame(b:FW n0 h zs za zc Ms Ma C)(c:∀(j:Nat) o,h[j]?=some o->h'[j]?=some o):FW n0 h' zs za zc Ms Ma C:=
 ⟨b.os.keep λj o a _=>c j o a,b.oa.keep λj o a _=>c j o a,b.oc.keep λj o a _=>c j o a,b.ne,b.pc.keep λ_ _ j o a _=>c j o a⟩
def FW.pre(a:FW n0 h zs za zc Ms Ma C)(c:Pre h h'):FW n0 h' zs za zc Ms Ma C:=a.frame λ_ _ b=>c.get b
theorem FW.symm(a:FW n0 h zs za zc Ms Ma C):FW n0 h za zs zc Ma Ms C:=
 ⟨a.oa,a.os,a.oc,λb d c=>a.ne b c d,a.pc.perm qdg⟩
def FW.pne(a:FW n0 h zs za zc Ms Ma C){p:Sk}(e:p∈Ms++Ma){b:Nat}(d:blk p.2.1=some b):blk zs≠some b/\blk za≠some b/\blk zc≠some b:=
 have c:=a.pc.1 p e
 ⟨aL c a.os (by omega) d,aL c a.oa (by omega) d,aL c a.oc (by omega) d⟩
def FW.apS(d:FW n0 h zs za zc Ms Ma C){c:Cl}{y:Value}{ly:Tx}(q:OwnL n0 h y 1 kl ly)(i:∀p∈Ms++Ma,∀b,blk y=some b->blk p.2.1≠some b){g:Value}(l:OwnL n0 h' g 4 Ar (Ms++[(c,y,ly)]))
  (k:∀(j:Nat) o,h[j]?=some o->blk zs≠some j->h'[j]?=some o) (t:blk g=blk zs∨∃j,blk g=some j/\h.length<=j):FW n0 h' g za zc (Ms++[(c,y,ly)]) Ma C:=by
 refine⟨l,d.oa.keep λj o f a=>k j o f λe=>d.ne j e a,d.oc.keep λj o f a=>k j o f λe=>aL d.os d.oc (by omega) e a,λb m n=>?_,?_⟩
 ·rcases t with e|⟨j,e,u⟩
  ·exact d.ne b (e▸m) n
  ·rw[e]at m;cases m;have:=(d.oa.blk n).2;omega
 ·have r:Pcs n0 h ((c,y,ly) :: (Ms++Ma)):=d.pc.cons q i;have s:=r.keep (h':=h') λp hp j o f a=>k j o f λe=>by
   rcases qas.1 hp with rfl|hp
   ·exact aL d.os q (by omega) e a
   ·exact(d.pne hp a).1 e
  refine s.perm ?_;rw[A6];exact List.perm_middle
end
def Li{n0:Nat}{H:HL}{x:Value}{l:Ty}(h:OwnL n0 H x 3 Ac l)(i:l.length<=1000) :
  ∃l' h',aD cc ab 61 [.v x] (ka aa H) [.v x] (ka aa h')/\l'.Perm l/\CC l'/\OwnL n0 h' x 3 Ac l'/\∀(j:Nat) o,H[j]?=some o->blk x≠some j->h'[j]?=some o:=by
 rcases h with⟨rfl,rfl⟩|⟨id,cx,rfl,d,b,f⟩
 ·refine⟨[],H,?_,M9 _,.nil,.inl ⟨rfl,rfl⟩,λj o a _=>a⟩;exact xK x61 (oo rfl ua) (by
   unfold Y1;simp only[xp]
   repeat (first|simp(disch:=omega)only[↓po]|refine ae (x:=(0:Int)) rfl ?_|refine gG 2 ?_)
   trivial)
 ·obtain⟨l',c,c2,c3⟩:=H6 (cx:=cx) b i;refine⟨l',_,c,c2,c3,.inr ⟨id,cx,by rw[c2.length_eq],d,bL (al b),by rw[c2.length_eq];exact f⟩,λj o a g=>?_⟩;unfold td;rw[B5 (λe=>g (by rw[e];rfl))];exact a
def JG(w v a b:Nat):Nat:=if Aj w v a 0=some b then 0 else if Aj w v a 1=some b then 1 else 2
def lU{w v:Nat}(l:Sh w v){a b e:Nat}(i:a<4*w*v)(m:e<3)(j:Aj w v a e=some b):JG w v a b=e:=by
 have o:=(di l i).2.2.2.2;have f:∀g,g<3->Aj w v a g=some b->g=e:=λg d k=>by
  have c:=(dJ l i m j).2.2.2.1;have n:=(dJ l i d k).2.2.2.1;exact vV o d m (n.symm.trans c)
 unfold JG;by_cases h:Aj w v a 0=some b
 ·rw[mc h];exact f 0 (by omega) h
 rw[ra h];by_cases c:Aj w v a 1=some b
 ·rw[mc c];exact f 1 (by omega) c
 rw[ra c];have:e=0∨e=1∨e=2:=by omega
 rcases this with rfl|rfl|rfl
 ·exact absurd j h
 ·exact absurd j c
 ·rfl
def Jz(w v:Nat)(P:TC)(o:Bool)(p:IE):B3:=(Int.ofNat p.1,Int.ofNat (JG w v p.1 p.2.1),if decide ((P p.1).1<4)=o then 2 else 1)
def BD(w v:Nat)(P:TC)(o:Bool)(ln:Ln)(a:List IE):Ty:=(a.filter λp=>decide (p.2.2=ln)).map (Jz w v P o)
def fz(ln:Ln)(s:Bool)(L:List Af)(r:Mv)(j:Nat):Mv:=if 0∈(C5 ln s (L.take j)).flatMap Prod.snd then af r (Bm ln)else r
def MG{ln:Ln}{s:Bool}{L:List Af}{j:Nat}{c:Cl}{ly:Tx}(h:L[j]?=some (c,ly)):E7 ln s (L.take (j+1))=E7 ln s (L.take j)++(if dh ln c=s then []else [(c,ly)]):=by
 unfold E7;rw[Ec,h,qdC];simp only[VY,M5,qdw];by_cases a:dh ln c=s
 ·simp[a]
 ·simp[a]
def I7{ln:Ln}{s:Bool}{L:List Af}{j:Nat}{c:Cl}{ly:Tx}(h:L[j]?=some (c,ly)):C5 ln s (L.take (j+1))=C5 ln s (L.take j)++(if dh ln c=s then [(am (Bm ln) c,ly.reverse)]else []):=by
 unfold C5;rw[Ec,h,qdC,CA];simp only[VY,M5,qdw];by_cases a:dh ln c=s
 ·simp[a]
 ·simp[a]
def ls45{h:HL}{z:Value}{b:List Sk}(c:LsH h z 4 Ar b):LsH h z 4 AA (b.map λs=>(s.1,s.2.1)):=by
 refine⟨λa _=>rfl,?_⟩;have:(b.map λs:Sk=>((s.1,s.2.1):DJ)).flatMap AA=b.flatMap Ar:=by
  rw[Vi];rfl
 rw[this,A9];exact c.2
def ls54{h:HL}{z:Value}{b:List Sk}(d:LsH h z 4 AA (b.map λs=>(s.1,s.2.1))):LsH h z 4 Ar b:=by
 refine⟨λa _=>rfl,?_⟩;have:(b.map λs:Sk=>((s.1,s.2.1):DJ)).flatMap AA=b.flatMap Ar:=by
  rw[Vi];rfl
 have c:=d.2;rw[this,A9]at c;exact c
def Pcs.sub{n0:Nat}{h:HL}{Q a:List Sk}(b:Pcs n0 h Q)(c:a.Sublist Q):Pcs n0 h a:=⟨λp d=>b.1 p (c.mem d),b.2.sublist c⟩
def dN{α:Type}{a q:α}:∀ {l:List α} {k:Nat},l[k]?=some q->(l.set k a).Perm (a :: l.eraseIdx k)
 | [],k,h=>by simp at h
 |b :: l,0,h=>M9 _
 |b :: l,k+1,h=>by
  simp only[IF]at h;simp only[qcJ,List.eraseIdx_cons_succ];exact((dN h).cons b).trans (List.Perm.swap _ _ _)
def stp{n0:Nat}{h g:HL}{J O T v':Value}{d P Mr:List Sk}{C:Ty}{a q:Sk}{k id cx:Nat}{c:Tx}(w:J = .slice (some ⟨id,0,qs 4⟩) d.length cx)(m:n0<=id)(hid:h[id]?=some (.o (.cells (d.flatMap Ar) 4 true)))(y:cx=0∨cx=d.length+1)
  (F:OwnL n0 h O 4 Ar P) (z:OwnL n0 h T 3 Ac C) (L:blk O≠some id) (M:Pcs n0 h (d++a :: Mr)) (K:d[k]?=some q) (S:OwnL n0 g v' 1 kl c) (R:∀(j:Nat) o,h[j]?=some o->blk q.2.1≠some j->g[j]?=some o) (W:∀b,blk v'=some b->blk q.2.1=some b∨h.length<=b) :
  g[id]?=some (.o (.cells (d.flatMap Ar) 4 true))/\OwnL n0 (td g id 4 Ar (d.set k (q.1,v',c))) J 4 Ar (d.set k (q.1,v',c))/\OwnL n0 (td g id 4 Ar (d.set k (q.1,v',c))) O 4 Ar P/\OwnL n0 (td g id 4 Ar (d.set k (q.1,v',c))) T 3 Ac C/\Pcs n0 (td g id 4 Ar (d.set k (q.1,v',c))) (d.set k (q.1,v',c)++Mr)/\∀(j:Nat) o,j<n0->h[j]?=some o->(td g id 4 Ar (d.set k (q.1,v',c)))[j]?=some o:=by
 have s:Pcs n0 h (d++Mr):=M.sub (List.Sublist.append_left (qc5 _ _) _);have N:q∈d++Mr:=qar.2 (.inl (Ap K));have u:=s.1 q N;have r:OwnL n0 h J 4 Ar d:=.inr ⟨id,cx,w,m,hid,y⟩;have v:blk J=some id:=by rw[w];rfl
 have l:g[id]?=some (.o (.cells (d.flatMap Ar) 4 true)):=R _ _ hid λe=>aL u r (by omega) e v;have G:OwnL n0 g J 4 Ar d:=.inr ⟨id,cx,w,m,l,y⟩;have i:∀(j:Nat) o,h[j]?=some o->blk q.2.1≠some j->j≠id->(td g id 4 Ar (d.set k (q.1,v',c)))[j]?=some o:=λj o n U V=>by
  unfold td;rw[B5 (B9 V)];exact R j o n U
 have t:(d++Mr).Perm (q :: (d.eraseIdx k++Mr)):=by
  have:=(dN (a:=q) K).append_right Mr
  rwa [bq K]at this
 have x:=s.perm t.symm;have I:=qba.1 x.2;refine⟨l,.inr ⟨id,cx,by rw[Bo];exact w,m,bL (al l),by rw[Bo];exact y⟩,F.keep λj o n f=>i j o n (λe=>aL u F (by omega) e f) (λe=>L (e▸f)),z.keep λj o n f=>i j o n (λe=>aL u z (by omega) e f) (λe=>aL r z (by omega) v (by rw[f,e])),?_,λj o X n=>i j o n (λe=>by
  have:=(u.blk e).1;omega) (by omega)⟩
 have A:Pcs n0 (td g id 4 Ar (d.set k (q.1,v',c))) (d.eraseIdx k++Mr):=by
  have Q:Pcs n0 h (d.eraseIdx k++Mr):=x.sub (qc5 _ _);refine Q.keep λp H j o n f=>i j o n (λe=>I.1 p H j e f) λe=>?_;subst e;exact aL (Q.1 p H) r (by omega) f v
 have E:OwnL n0 (td g id 4 Ar (d.set k (q.1,v',c))) v' 1 kl c:=S.keep λj o n f=>by
  unfold td;rw[B5 (λe=>aL S G (by omega) f (by rw[v,e]))];exact n
 refine(A.cons (p:=(q.1,v',c)) E λp H b D B=>?_).perm ((dN K).append_right Mr);simp only at D;rcases W b D with e|Y
 ·exact I.1 p H b e B
 ·have:=((s.1 p (t.mem_iff.2 (BF _ H))).blk B).2;omega
def K5{o:Bool}{a:Af}:∀ {S:List Af},mrg o S a≠[]
 | []=>by simp[mrg]
 |y :: S=>by
  unfold mrg;split<;>simp
def vU{o:Bool}:∀ {A S:List Af},S≠[]->A.foldl (mrg o) S≠[]
 | [],S,h=>h
 |a :: A,S,_=>by
  rw[IL];exact vU K5
def TX{ln:Ln}{s o:Bool}{L:List Af}(h:L≠[]):Hu ln s o L≠[]:=by
 unfold Hu;by_cases b:E7 ln s L=[]
 ·cases hA:C5 ln s L with
  |cons a A=>
   rw[IL];exact vU K5
  |nil=>
   exfalso;cases L with
   |nil=>exact h rfl
   |cons x L=>
    unfold E7 at b;unfold C5 at hA;rw[qcV]at hA;rw[List.filter_eq_nil_iff]at b hA;have c:=b x Cw;have d:=hA x Cw;simp at c d;exact d c
 ·exact vU b
def lz{w v:Nat}{l:Ty}{G:TC}{r:Mv}{n:Nat}{p:IE}(h:p∈A2 w v l G r n):p.1<n/\∃k,k<3/\Aj w v p.1 (eK (p.1%4) k)=some p.2.1/\p.1<p.2.1/\CV w v l p.1 k=0/\p.2.2=uc (am (af (G p.1) r) (sd w p.1)) (eT (af (G p.1) r).1 (eK (p.1%4) k)):=by
 unfold A2 at h;obtain⟨a,e,i⟩:=qa2.1 h;have e:=qad.1 e;obtain⟨k,f,c⟩:=qaH.1 i;have f:=qad.1 f;unfold BO at c;cases g:Aj w v a (eK (a%4) k)with
 |none=>rw[g]at c;cases c
 |some b=>
  rw[g]at c;simp only at c;by_cases d:a<b/\CV w v l a k=0
  ·rw[mc d]at c;cases c;exact⟨e,k,f,g,d.1,d.2,rfl⟩
  ·rw[ra d]at c;cases c
def HY{w v:Nat}{P:TC}{o:Bool}{ln:Ln}{a:List IE}{j:Nat}{p:IE}(h:a[j]?=some p):BD w v P o ln (a.take (j+1))=BD w v P o ln (a.take j)++(if p.2.2=ln then [Jz w v P o p]else []):=by
 unfold BD;rw[Ec,h,qdC,CA];simp only[VY,M5,qdw];by_cases b:p.2.2=ln
 ·simp[b]
 ·simp[b]
def IX(w v:Nat)(l:Ty)(G:TC)(r:Mv)(L:List Af)(ln:Ln)(s o:Bool)(H:HL)(e:TB)(h':HL):Prop:=
 ∃z d l' c,e=[.i (.ofNat w),.i (.ofNat v),.v z,.i (Int.ofNat (fz ln s L r L.length).1),.i (fz ln s L r L.length).2.1,.i (fz ln s L r L.length).2.2,.v d]/\Pre H h'/\
  LsH h' z 3 Ac l'/\l'.Perm (l++BD w v (λa=>af (G a) r) o ln (A2 w v l G r (4*w*v)))/\CC l'/\LsH h' d 4 Ar c/\Pcs H.length h' c/\(c.map CP).Perm (Hu ln s o L)/\c.Pairwise λa b=>Bc a.1 b.1=false
def Kg{w v:Nat}(h3:S3 w v){l:Ty}{H:HL}{x xs:Value}(hl:LsH H x 3 Ac l)(hv:∀c∈l,VC w v c)(eC:∀c∈l,c.2.2≠0)(hn:l.length<=800){r:Mv}(hr:AK 10000 r){G:TC}(hG:ConsO w v l G)
  {L:List Af} (hL:StL H xs L) (g9:0<L.length) (ib:L.length<=100) (hg:∀a∈L,a.1.2.2<4/\-20000<=a.1.1/\a.1.1<=20000/\-20000<=a.1.2.1/\a.1.2.1<=20000) (dn:∀a∈L,a.2≠[]/\a.2.length<=100)
  {ln:Ln} (e5:1<=ln.1/\ln.1<=4) (hI:-10000<=ln.2/\ln.2<=10000) (s o:Bool) :
  ∃rs h',aD cc ab 22 ([.i (.ofNat w),.i (.ofNat v),.v x]++AB r++[.v xs,.i (.ofNat ln.1),.i ln.2,.i (if s then 1 else 0),.b o]) (ka aa H) rs (ka aa h')/\IX w v l G r L ln s o H rs h':=by
 have hs:=h3.sh;obtain⟨b1,b2,b3,b4⟩:=h3.n;have hN:=Bw hs;obtain⟨M,hM,hJ,hm⟩:=hL;have cm:=zq e5 (by omega:-100000<=ln.2/\ln.2<=100000);have bX:AK 20000 (Bm ln):=xL (n:=10000) hI;have ci:=yA (aN hr (by omega)) (aN bX (by omega));exact x22 (ls:=[.i (.ofNat w),.i (.ofNat v),.v x,.i (Int.ofNat r.1),.i r.2.1,.i r.2.2,.v xs,.i (.ofNat ln.1),.i ln.2,.i (if s then 1 else 0),.b o]) (K:=IX w v l G r L ln s o H) (H:=H) (km (km (oo hl.good (km (km (km (oo hM.good (km (km (km (glsB ua))))))))))) (by
  unfold f22;simp only[xp];refine jn ?_;refine ah cm ?_;simp only[AB,As,AO,AG]at ci ⊢;refine jn ?_;refine(OwnL.emp (α:=B3) (enc:=Ac) (n0:=H.length) az (Ah _)).apL (λ_=>rfl) (by simp) (hl.pre ⟨_,rfl⟩) (by simp;omega) (by simp;omega) ?_;intro zc h0 C hz eL hW _;rw[AG]at C;have hO:Pre H h0:=bE ⟨_,rfl⟩ λi o R ho=>eL i o ho λe=>by
   have:H.length=i:=by simpa[blk]using e
   omega
  refine jn ?_;refine ac hz ?_;refine pu ?_;generalize fn:Bm ln=m at *;refine aO (σ:=HL×Value×Value×List Sk×List Sk) L.length (λj t=>[.v t.2.1,.v t.2.2.1,.i (Int.ofNat j),.i (.ofNat w),.i (.ofNat v),.v zc,.i (Int.ofNat (fz ln s L r j).1),.i (fz ln s L r j).2.1,.i (fz ln s L r j).2.2,.v (.slice none 0 0)]) (λ_ t=>t.1)
   (λj t=>Pre H t.1/\FW H.length t.1 t.2.1 t.2.2.1 zc t.2.2.2.1 t.2.2.2.2 l/\t.2.2.2.1.map CP=E7 ln s (L.take j)/\t.2.2.2.2.map CP=C5 ln s (L.take j))
   (j0:=0) (s0:=(h0,.slice none 0 0,.slice none 0 0,[],[])) (by simp[fz,C5]) rfl (AF _) ⟨hO,⟨.nil _ _ _ _,.nil _ _ _ _,C,(λb f=>by cases f),.nil _ _⟩,rfl,rfl⟩ ?_
  rintro j ⟨h,zs,za,Ms,Ma⟩ X ⟨E,hf,O,ar⟩ a7 D;simp only at E hf O ar ⊢;refine jn ?_;refine bz (hM.pre E) ?_;rw[hJ];by_cases J:j<L.length
  case neg=>
   rw[ao (by omega)];refine jn ?_;obtain rfl:j=L.length:=by omega
   clear D J;rw[IJ]at O ar;have ay:Ms.length<=100:=by
    have:=congrArg List.length O;rw[A9]at this;have h2:(E7 ln s L).length<=L.length:=VX _ _;omega
   have fa:Ma.length<=100:=by
    have:=congrArg List.length ar;rw[A9]at this;have h2:(C5 ln s L).length<=L.length:=by
     unfold C5;rw[A9];exact VX _ _
    omega
   have d0:∀a∈Ma,a.2.2.length<=100:=λa ha=>by
    have h1:CP a∈C5 ln s L:=ar▸qax.2 ⟨a,ha,rfl⟩;obtain⟨b,f,ds⟩:=qax.1 h1;have h3:=(dn b (qaO.1 f).1).2;have h4:=congrArg (λx:Af=>x.2.length) ds;simp only[List.length_reverse]at h4;have:(CP a).2=a.2.2:=rfl;rw[this]at h4;omega
   refine aO (σ:=HL×Value×List Sk) Ma.length (λi t=>[.v t.2.1,.i (Int.ofNat i)]) (λ_ t=>t.1)
    (λi t=>Pre H t.1/\OwnL H.length t.1 t.2.1 4 Ar t.2.2/\OwnL H.length t.1 za 4 Ar Ma/\OwnL H.length t.1 zc 3 Ac l/\(∀b,blk t.2.1=some b->blk za≠some b)/\Pcs H.length t.1 (t.2.2++Ma.drop i)/\t.2.2.map CP=((C5 ln s L).take i).foldl (mrg o) (E7 ln s L)/\t.2.2.length<=100+i/\∀q∈t.2.2,q.2.2.length<=100+100*i)
    (j0:=0) (s0:=(h,zs,Ms)) rfl rfl (AF _) ⟨E,hf.os,hf.oa,hf.oc,hf.ne,by simpa using hf.pc,by simpa using O,by simpa using ay,λq hq=>by
     have h1:CP q∈E7 ln s L:=O▸qax.2 ⟨q,hq,rfl⟩;exact(dn _ (qaO.1 h1).1).2⟩ ?_
   clear E hf O ay;rintro i ⟨h,zs,Ms⟩ R ⟨E,aE,a3,C,ax,V,O,ay,a6⟩ a7 D;simp only at E aE a3 C ax V O ay a6 ⊢;refine jn ?_;have bx:=a3.ls dl;have bI:=aE.ls dl;refine bz bx ?_;by_cases J:i<Ma.length
   case neg=>
    rw[ao (by omega)];refine jn ?_;obtain rfl:i=Ma.length:=by omega
    clear D J;have hZ:(C5 ln s L).length=Ma.length:=by rw[←ar,A9]
    rw[CJ (by omega)]at O;rw[List.drop_length,Cx]at V;have fs:0<Ms.length:=by
     have:=congrArg List.length O;rw[A9]at this;rw[this];exact qbl.2 (TX (ln:=ln) (s:=s) (o:=o) (L:=L) λe=>by subst e;simp at g9)
    obtain⟨l4,h4,zS,c4,cf,ec,go,g0⟩:=Mo (ls45 bI) (by simpa using fs) (by rw[A9];omega) (λt ht=>by
     obtain⟨q,hq,rfl⟩:=qax.1 ht;exact(V.1 q hq).good aU)
    refine ai c4 ?_;refine jn ?_;obtain⟨a8,cX,rfl⟩:=jv go;have ec:=ls54 ec;have cC:=E.trans cf;obtain⟨i1,h5,c5,be,d7⟩:=lF h3 (hl.pre cC) hv eC (by omega) (r:=r) (aN hr (by omega));simp only[AB,AO,AG]at c5;refine ai c5 ?_;rcases be with⟨rfl,bS⟩|⟨G',T,el,rfl,B,rfl⟩
    ·exact absurd ⟨G,hG.g,hG.z⟩ bS
    refine jn ?_;have em:Bt w v G' r=Bt w v G r:=by
     unfold Bt;refine Ea λc hc=>?_;rw[qP hs el hG (qad.1 hc)]
    have a2:LsH (o3 h4 (Bt w v G r) B T) (.slice (some ⟨h4.length,0,qs 3⟩) (4*w*v) (4*w*v+1)) 3 ub (Bt w v G r):=bW bR Le (by simp[Bt]);rw[em]at d7 ⊢;generalize il:h4.length=bP at *;generalize o3 h4 (Bt w v G r) B T=h5 at *;have cD:=cC.trans d7;obtain⟨zP,h6,c6,d8,ia,U⟩:=xZ h3 (hl.pre cD) hM.good hv eC (by omega) hr hG;simp only[AB,AO,AG]at c6;refine ai c6 ?_;refine jn ?_;have cK:=cD.trans d8;have b0:=d7.trans d8;have gb:=λp (E:p∈A2 w v l G r (4*w*v))=>lz E;have ih:=kj (w:=w) (v:=v) (l:=l) (G:=G) (r:=r) (n:=4*w*v);have a1:∀b,blk zc=some b->b≠bP:=λb f=>by
     have:=(C.blk f).2;have:=cf.len;omega
    have cy:OwnL H.length h6 zc 3 Ac l:=C.keep λj d X _=>(cf.trans b0).get X;have cS:Pcs H.length h6 a8:=(V.keep λp _ j d X _=>(cf.trans b0).get X).perm cX;have dk:=ec.pre b0;have cr:=a2.pre d8;unfold IX;generalize A2 w v l G r (4*w*v)=ps at *;generalize b6:fz ln s L r L.length=rt at *;clear c4 c5 c6 bI bx aE a3 ax C V hm el em;refine aO (σ:=HL×Value) ps.length (λj t=>[.i (Int.ofNat j),.i (.ofNat w),.i (.ofNat v),.v t.2,.i (Int.ofNat rt.1),.i rt.2.1,.i rt.2.2,.v zS]) (λ_ t=>t.1)
     (λj t=>Pre H t.1/\OwnL H.length t.1 t.2 3 Ac (l++BD w v (λa=>af (G a) r) o ln (ps.take j))/\LsH t.1 zS 4 Ar a8/\Pcs H.length t.1 a8/\LsH t.1 zP 4 JJ ps/\LsH t.1 (.slice (some ⟨bP,0,qs 3⟩) (4*w*v) (4*w*v+1)) 3 ub (Bt w v G r)/\∀b,blk t.2=some b->b≠bP)
     (j0:=0) (s0:=(h6,zc)) rfl rfl (AF _) ⟨cK,by simpa[BD]using cy,dk,cS,U,cr,a1⟩ ?_
    clear cK cy dk cS U cr a1;rintro j ⟨g,zc⟩ X ⟨b5,C,an,ag,U,a2,a1⟩ a7 D;simp only at b5 C an ag U a2 a1 ⊢;have iv:(BD w v (λa=>af (G a) r) o ln (ps.take j)).length<=j:=by
     unfold BD;rw[A9];refine Es (VX _ _) ?_;rw[BX];omega
    have hw:(l++BD w v (λa=>af (G a) r) o ln (ps.take j)).length<=950:=by
     rw[Bv];omega
    refine jn ?_;refine bz U ?_;by_cases J:j<ps.length
    case neg=>
     obtain rfl:j=ps.length:=by omega
     rw[ao (Ah _)];refine jn ?_;rw[IJ]at C hw;obtain⟨l8,h8,c8,gs,g4,f5,dD⟩:=Li C (by omega);refine ai c8 ?_;refine jn ?_;have hP:Pre H h8:=bE b5 λi d R ho=>dD i d ho λe=>by
      have:=(C.blk e).1;omega
     refine⟨zc,zS,l8,a8,by rw[←b6]<;>rfl,hP,f5.ls (λ_=>rfl),gs,g4,an.keep λi d R f=>dD i d R λe=>DY (e:=3) (e':=4) (C.ls λ_=>rfl) an (by decide) e f,ag.keep λp E i d R f=>dD i d R λe=>aL C (ag.1 p E) (by omega) e f,?_,?_⟩
     ·show(a8.map CP).Perm (List.foldl (mrg o) (E7 ln s L) (C5 ln s L));rw[←O];exact cX.map _
     ·have:=qbi.1 (show(a8.map λt:Sk=>((t.1,t.2.1):DJ)).Pairwise _ from g0);exact this
    rw[au J];refine jn ?_;obtain⟨p,E⟩:=aG J;obtain⟨d9,k,hk,gd,be,iX,ix⟩:=gb p (Ap E);have a4:=HY (w:=w) (v:=v) (P:=λa=>af (G a) r) (o:=o) (ln:=ln) E;refine bN (cs:=[.int .u8 (Int.ofNat p.2.2.1),.int .i64 p.2.2.2]) U rfl E rfl (by omega) ?_;refine jn ?_;refine xU (λev=>?_) (λax=>?_)
    case refine_2=>
     simp(disch:=omega)only[↓po,CI];rw[aI (by omega)];refine D (g,zc) J ⟨b5,?_,an,ag,U,a2,a1⟩;rw[a4,ra,Cx]
     ·exact C
     ·intro e;exact ax (by rw[e];exact⟨rfl,rfl⟩)
    simp(disch:=omega)only[↓po,BS];have hR:p.2.2=ln:=Ed (by exact Du ev.1) ev.2;rw[mc hR]at a4;refine bN (cs:=[.int .i64 (Int.ofNat p.1)]) U rfl E rfl (by omega) ?_;refine jn ?_;have hQ:(Bt w v G r)[p.1]?=some (af (G p.1) r):=iD d9;refine bN (cs:=[.int .u8 (Int.ofNat (af (G p.1) r).1)]) a2 rfl hQ rfl (by omega) ?_;refine jn ?_;have ef:=JI h3 d9 hk gd;have eu:JG w v p.1 p.2.1=eK (p.1%4) k:=lU hs d9 (fy _ _) gd;rw[←eu]at ef;have a5:∀kd:Int,kd=(if decide ((af (G p.1) r).1<4)=o then 2 else 1)->∀z2 Q,OwnL H.length Q z2 3 Ac ((l++BD w v (λa=>af (G a) r) o ln (ps.take j))++[((Int.ofNat p.1,Int.ofNat (JG w v p.1 p.2.1),kd):B3)])->(∀(i:Nat) d,g[i]?=some d->blk zc≠some i->Q[i]?=some d)->(blk z2=blk zc∨∃i,blk z2=some i/\g.length<=i)->a7 [.i (Int.ofNat j+1),.i (.ofNat w),.i (.ofNat v),.v z2,.i (Int.ofNat rt.1),.i rt.2.1,.i rt.2.2,.v zS] Q:=by
     intro kd hF z2 Q F A ds;refine D (Q,z2) J ⟨bE b5 λi d R ho=>A i d ho λe=>by
      have:=(C.blk e).1;omega,?_,an.keep λi d R f=>A i d R λe=>DY (e:=3) (e':=4) (C.ls λ_=>rfl) an (by decide) e f,ag.keep λp E i d R f=>A i d R λe=>aL C (ag.1 p E) (by omega) e f,U.keep λi d R f=>A i d R λe=>DY (e:=3) (e':=4) (C.ls λ_=>rfl) U (by decide) e f,a2.keep λi d R f=>A i d R λe=>a1 i e ?_,λb f=>?_⟩
     ·rw[a4,←A6];have:Jz w v (λa=>af (G a) r) o p=(Int.ofNat p.1,Int.ofNat (JG w v p.1 p.2.1),kd):=by
       unfold Jz;rw[hF]
      rw[this];exact F
     ·have:bP=i:=by simpa[blk]using f
      exact this.symm
     ·simp only at f;rcases ds with e|⟨i,e,cd⟩
      ·exact a1 b (e▸f)
      ·rw[e]at f;cases f;have:=a2.blkLt (i:=bP) rfl;omega
    by_cases g5:(af (G p.1) r).1<4
    case' pos=>rw[us (show Int.ofNat (af (G p.1) r).1<4 by show((af (G p.1) r).1:Int)<4;omega)]
    case' neg=>rw[tx (show(4:Int)<=Int.ofNat (af (G p.1) r).1 by show(4:Int)<=((af (G p.1) r).1:Int);omega)]
    case' pos=>have hd:=BJ g5
    case' neg=>have hd:=Ch g5
    all_goals
     rw[hd]at a5;cases o
    all_goals
     try rw[D6 rfl]
     simp(disch:=omega)only[↓po,BS,CI];refine bN (cs:=[.int .i64 (Int.ofNat p.1)]) U rfl E rfl (by omega) ?_;refine jn ?_;refine bN (cs:=[.int .i64 (Int.ofNat p.1)]) U rfl E rfl (by omega) ?_;refine jn ?_;refine bN (cs:=[.int .i64 (Int.ofNat p.2.1)]) U rfl E rfl (by omega) ?_;refine jn ?_;refine ah ef ?_;refine jn ?_;refine C.ap1 (a:=((Int.ofNat p.1,Int.ofNat (JG w v p.1 p.2.1),_):B3)) (λ_=>rfl) (by have:=b5.len;omega) rfl rfl rfl (by
      unfold bb;rw[Bg (by omega),Bg (by omega)];rfl) ?_
     intro z2 Q F Y A ad I;refine jn ?_;refine ac Y ?_;refine pu ?_;rw[aI (by omega)];exact a5 _ rfl z2 Q F A I
   rw[au J];refine jn ?_;obtain⟨a,ha⟩:=aG J;have dB:Ma.drop i=a :: Ma.drop (i+1):=by
    rw[M8 J]
    congr 1
    rw[Be J]at ha;exact AR ha
   have g8:(C5 ln s L)[i]?=some (CP a):=by
    rw[←ar,AX,ha];rfl
   have bl:((C5 ln s L).take (i+1)).foldl (mrg o) (E7 ln s L)=mrg o (Ms.map CP) (CP a):=by
    rw[Ec,g8,qcM,←O];rfl
   rw[dB]at V;have dr:=d0 a (Ap ha);refine aO (σ:=HL×List Sk×Bool) Ms.length (λk t=>[.b t.2.2,.i (Int.ofNat k)]) (λ_ t=>t.1)
    (λk t=>(t.2.2=false/\t.1=h/\t.2.1=Ms/\∀j,j<k->∀q,Ms[j]?=some q->q.1≠a.1)∨(t.2.2=true/\Pre H t.1/\OwnL H.length t.1 zs 4 Ar t.2.1/\OwnL H.length t.1 za 4 Ar Ma/\OwnL H.length t.1 zc 3 Ac l/\Pcs H.length t.1 (t.2.1++Ma.drop (i+1))/\t.2.1.map CP=mrg o (Ms.map CP) (CP a)/\t.2.1.length=Ms.length/\∀q∈t.2.1,q.2.2.length<=100+100*(i+1)))
    (j0:=0) (s0:=(h,Ms,false)) rfl rfl (AF _) (.inl ⟨rfl,rfl,rfl,λj X=>by omega⟩) ?_
   rintro k ⟨g,M2,fd⟩ hk co b7 S;simp only at co ⊢;refine jn ?_;rcases co with⟨rfl,rfl,rfl,bS⟩|⟨rfl,W,cA,f2,f3,gl,fu,h7,fr⟩
   case inr=>
    refine bz (cA.ls dl) ?_;have a5:a7 [.v zs,.i (Int.ofNat i+1)] g:=D (g,zs,M2) J ⟨W,cA,f2,f3,ax,gl,by rw[bl];exact fu,by show M2.length<=_;omega,fr⟩;refine wi (λ_=>?_) (λ_=>?_)
    all_goals
     simp(disch:=omega)only[↓po,BS];rw[aI (by omega)];exact a5
   refine bz bI ?_;by_cases ap:k<M2.length
   case neg=>
    rw[ao (by omega)];simp(disch:=omega)only[↓po,CI];have ca:=V.1 a (qar.2 (.inr Cw));have b9:=ca.good aU;refine aP bx rfl ha ?_;rw[show Ar a=[.int .i64 a.1.1,.int .i64 a.1.2.1,.int .u8 (Int.ofNat a.1.2.2),a.2.1]from rfl];refine jn ?_;refine ac b9 ?_;refine pu ?_;refine aE.ap1 (a:=a) dl (by have:=E.len;omega) rfl rfl rfl (by
     unfold bb;rw[Bg (by omega),Bg (by omega)];rfl) ?_
    intro z2 Q F Y A ad I;refine jn ?_;refine ac Y ?_;refine pu ?_;rw[aI (by omega)];have be:=E.len;refine D (Q,z2,M2++[a]) J ⟨bE E λj d X ho=>A j d ho λe=>by
     have:=(aE.blk e).1;omega,F,a3.keep λj d X f=>A j d X λe=>ax j e f,C.keep λj d X f=>A j d X λe=>aL aE C (by omega) e f,λb f a9=>?_,?_,?_,by rw[Bv];simp;omega,λq hq=>?_⟩
    ·rcases I with e|⟨j,e,cd⟩
     ·exact ax b (e▸f) a9
     ·simp only at f;rw[e]at f;cases f;have:=(a3.blk a9).2;omega
    ·rw[A6];exact V.keep λp E j d X f=>A j d X λe=>aL aE (V.1 p E) (by omega) e f
    ·rw[bl,xF]
     ·rw[CA];rfl
     ·intro j t ht;rw[AX]at ht;cases hx:M2[j]? with
      |none=>rw[hx]at ht;cases ht
      |some q=>
       rw[hx]at ht;cases ht;exact bS j (by have:=al hx;omega) q hx
    ·rcases qar.1 hq with hq|hq
     ·have:=a6 q hq;omega
     ·rw[qav]at hq;subst hq;omega
   rw[au ap];simp(disch:=omega)only[↓po,CI];obtain⟨q,hq⟩:=aG ap;refine bN (cs:=[.int .i64 q.1.1,.int .i64 q.1.2.1,.int .u8 (Int.ofNat q.1.2.2)]) bI rfl hq rfl (by omega) ?_;refine jn ?_;refine bN (cs:=[.int .i64 a.1.1,.int .i64 a.1.2.1,.int .u8 (Int.ofNat a.1.2.2)]) bx rfl ha rfl (by omega) ?_;refine jn ?_;rw[Ho];by_cases he:q.1=a.1
   case neg=>
    rw[Ch he];simp(disch:=omega)only[↓po,CI];rw[aI (by omega)];exact S (g,M2,false) ap (.inl ⟨rfl,rfl,rfl,λj X t ht=>by
     by_cases e:j=k
     ·subst e;rw[hq]at ht;cases ht;exact he
     ·exact bS j (by omega) t ht⟩)
   rw[BJ he];simp(disch:=omega)only[↓po,BS];have gx:=Ap hq;have ea:=V.1 q (qar.2 (.inl gx));have ca:=V.1 a (qar.2 (.inr Cw));have gv:=ea.good aU;have b9:=ca.good aU;have dr:=ca.ls aU;have h9:=a6 q gx;have be:=E.len;have ck:∀(id cx:Nat) (v':Value) (Q:HL) (bn:Tx),zs = .slice (some ⟨id,0,qs 4⟩) M2.length cx->H.length<=id->g[id]?=some (.o (.cells (M2.flatMap Ar) 4 true))->(cx=0∨cx=M2.length+1)->OwnL H.length Q v' 1 kl bn->(∀(j:Nat) d,g[j]?=some d->blk q.2.1≠some j->Q[j]?=some d)->(∀b,blk v'=some b->blk q.2.1=some b∨g.length<=b)->bn=(if o then q.2.2++a.2.2 else a.2.2++q.2.2)->
     Q[id]?=some (.o (.cells (M2.flatMap Ar) 4 true))/\b7 [.b true,.i (Int.ofNat k+1)] (td Q id 4 Ar (M2.set k (q.1,v',bn))):=by
    intro id cx v' Q bn c1 c2 c3 c4 c5 c6 c7 c8;obtain⟨d1,d2,d3,d4,d5,d6⟩:=stp (Mr:=Ma.drop (i+1)) (a:=a) c1 c2 c3 c4 a3 C (λe=>ax id (by rw[c1];rfl) e) V hq c5 c6 c7;refine⟨d1,S (_,M2.set k (q.1,v',bn),true) ap (.inr ⟨rfl,bE E d6,d2,d3,d4,d5,?_,by simp,λt ht=>?_⟩)⟩
    ·rw[LZ,F8 (a:=CP a) (x:=CP q) (k:=k) (by rw[AX,hq];rfl) he,c8]
     ·rfl
     ·intro j X t ht;rw[AX]at ht;cases hx:M2[j]? with
      |none=>rw[hx]at ht;cases ht
      |some q'=>
       rw[hx]at ht;cases ht;exact bS j X q' hx
    ·rcases R0 ht with ht|ht
     ·have:=a6 t ht;omega
     ·subst ht;show bn.length<=_;rw[c8];split<;>rw[Bv]<;>omega
   obtain⟨id,cx,hT,cn,hid,et⟩ : ∃id cx,zs = .slice (some ⟨id,0,qs 4⟩) M2.length cx/\H.length<=id/\g[id]?=some (.o (.cells (M2.flatMap Ar) 4 true))/\(cx=0∨cx=M2.length+1):=by
    rcases aE with⟨_,e⟩|h
    ·subst e;simp at ap
    ·exact h
   subst hT;cases o with
   |true=>
    refine jn ?_;refine bN (cs:=[q.2.1]) bI rfl hq rfl (by omega) ?_;refine jn ?_;refine ac gv ?_;refine pu ?_;refine bN (cs:=[a.2.1]) bx rfl ha rfl (by omega) ?_;refine jn ?_;refine ac b9 ?_;refine pu ?_;refine ea.apL aU be dr (by omega) (by omega) ?_;intro v' Q F Y A ad I;obtain⟨d1,d2⟩:=ck id cx v' Q _ rfl cn hid et F A (λb f=>I.elim (λe=>.inl (e▸f)) λ⟨j,e,cd⟩=>.inr (by rw[f]at e;cases e;exact cd)) rfl;refine jn ?_;refine ac Y ?_;refine pu ?_;refine Gq (a':=((q.1,v',q.2.2++a.2.2):Sk)) dl d1 rfl hq rfl (by simp) rfl ?_;refine jn ?_;rw[aI (by omega)];exact d2
   |false=>
    refine jn ?_;obtain⟨hU,g7,g6,hB,cl,_⟩ : ∃id cx,za = .slice (some ⟨id,0,qs 4⟩) Ma.length cx/\H.length<=id/\g[id]?=some (.o (.cells (Ma.flatMap Ar) 4 true))/\(cx=0∨cx=Ma.length+1):=by
     rcases a3 with⟨_,e⟩|h
     ·subst e;simp at J
     ·exact h
    have it:id≠hU:=λe=>ax id rfl (by rw[g6,e];rfl);subst g6;have ip:=al hid;have hY:=al cl;have cb:Pre g (g++[HO.o (.cells [] 1 true)]):=⟨_,rfl⟩;obtain⟨w1,w2,w3⟩:=Ll (o:=3) (k:=1) (cx:=g7) (n:=Ma.length) dl (cb.get cl) ha rfl (by omega);refine ae w1 (ae w2 (ac (cP _ _) ?_));refine cq w3 rfl ?_;rw[show((Ar a).drop 3).take 1=[a.2.1]from rfl];refine jn ?_;refine ac b9 ?_;refine pu ?_;have hy:OwnL (α:=Nat) H.length (g++[HO.o (.cells [] 1 true)]) (.slice (some ⟨g.length,0,qs 1⟩) 0 1) 1 kl []:=OwnL.emp az be;refine hy.apL aU (by simp;omega) (dr.pre cb) (by simp;omega) (by simp;omega) ?_;intro v1 Q F ex A ad I;rw[AG]at F;have bt:∀(j:Nat) d,g[j]?=some d->Q[j]?=some d:=λj d X=>A j d (ik X) λe=>by
     have e':g.length=j:=by simpa[blk]using e
     have:=al X;omega
    have Z:Pre g Q:=EX bt;refine jn ?_;refine ac ex ?_;refine pu ?_;obtain⟨u1,u2,u3⟩:=Ll (o:=3) (k:=1) (cx:=cx) (n:=M2.length) dl (bt _ _ hid) hq rfl (by omega);refine ae u1 (ae u2 (ac (cP _ _) ?_));refine cq u3 rfl ?_;rw[show((Ar q).drop 3).take 1=[q.2.1]from rfl];refine jn ?_;refine ac gv ?_;refine pu ?_;refine F.apL aU (by have:=Z.len;omega) ((ea.ls aU).pre Z) (by omega) (by omega) ?_;intro v2 g3 hK eA hE hX ep;have eb:∀b,blk v1=some b->g.length<=b:=λb f=>by
     rcases I with e|⟨j,e,e'⟩
     ·rw[f]at e;have:b=g.length:=by simpa[blk]using e
      omega
     ·rw[f]at e;cases e;simp at e';omega
    have eX:∀(j:Nat) d,g[j]?=some d->g3[j]?=some d:=λj d X=>hE j d (bt j d X) λe=>by
     have:=eb j e;have:=al X;omega
    have hu:∀b,blk v2=some b->blk q.2.1=some b∨g.length<=b:=λb f=>by
     rcases ep with e'|⟨j,e',cd⟩
     ·exact .inr (eb b (e'▸f))
     ·rw[f]at e';cases e';exact .inr (by have:=Z.len;omega)
    obtain⟨d1,d2⟩:=ck id cx v2 g3 _ rfl cn hid et hK (λj d X _=>eX j d X) hu rfl;refine jn ?_;refine ac eA ?_;refine pu ?_;refine Gq (a':=((q.1,v2,a.2.2++q.2.2):Sk)) dl d1 rfl hq rfl (by simp) rfl ?_;refine pu ?_;have hV:=jV (F.ls aU);have n1:∀b,g.length≠id:=λ_=>by omega
    refine ae (x:=()) (by
     refine sZ (rD ⟨_,_,_,rfl⟩ λi R=>?_) (sZ (rD ⟨_,_,_,rfl⟩ λi R=>?_) (sZ (rD ⟨_,_,_,rfl⟩ λi R=>?_) (sZ (rD hV λi R=>?_) lN)))
     ·have e:g.length=i:=by simpa[blk]using R
      omega
     ·have e:g.length=i:=by simpa[blk]using R
      omega
     ·have e:g.length=i:=by simpa[blk]using R
      omega
     ·have:=eb i R;omega) ?_
    refine pu ?_;rw[aI (by omega)];exact d2
  rw[au J];refine jn ?_;obtain⟨⟨c,y⟩,fb⟩:=aG (l:=M) (i:=j) (by omega);obtain⟨N,b8,bm⟩:=hm j _ fb;simp only at b8 bm;have es:=Ap b8;have dA:=hg _ es;have ct:=dn _ es;simp only at dA ct;have ay:Ms.length<=100:=by
   have:=congrArg List.length O;rw[A9]at this;have h2:(E7 ln s (L.take j)).length<=(L.take j).length:=VX _ _;rw[BX]at h2;omega
  have fa:Ma.length<=100:=by
   have:=congrArg List.length ar;rw[A9]at this;have h2:(C5 ln s (L.take j)).length<=(L.take j).length:=by
    unfold C5;rw[A9];exact VX _ _
   rw[BX]at h2;omega
  have dT:=E.len;have hS:=bm.good;refine aP (hM.pre E) rfl fb ?_;rw[show AA (c,y)=[.int .i64 c.1,.int .i64 c.2.1,.int .u8 (Int.ofNat c.2.2),y]from rfl];refine jn ?_;refine ac hS ?_;refine pu ?_;have ei:=Me (l:=ln) (c:=c) e5 (by omega) dA.1 (by omega);simp only[As,AO,AG]at ei;refine ah ei ?_;refine jn ?_;have e1:=MG (ln:=ln) (s:=s) b8;have e2:=I7 (ln:=ln) (s:=s) b8;have gy:(if dh ln c then(1:Int)else 0)=(if s then 1 else 0)↔dh ln c=s:=by
   cases dh ln c<;>cases s<;>simp
  have i0:Pre H h:=E;by_cases a0:dh ln c=s
  case neg=>
   rw[AQ (λe=>a0 (gy.1 e))];refine jn ?_;have he:OwnL (α:=Nat) H.length (h++[HO.o (.cells [] 1 true)]) (.slice (some ⟨h.length,0,qs 1⟩) 0 1) 1 kl []:=OwnL.emp az dT;refine he.apL aU (by simp;omega) (bm.pre (E.app _)) (by simp;omega) (by simp;omega) ?_;intro y1 g1 f1 cb hD e0 en;rw[AG]at f1;have hH:∀(i:Nat) d,h[i]?=some d->g1[i]?=some d:=λi d R=>hD i d (ik R) λe=>by
    have:h.length=i:=by simpa[blk]using e
    have:=al R;omega
   have W:Pre h g1:=EX hH;refine jn ?_;refine ac cb ?_;refine pu ?_;have bs:=hf.pre W;refine bs.os.ap1 (a:=((c,y1,N):Sk)) dl (by simp at e0;omega) rfl rfl rfl (by
    unfold bb;rw[Bg (by omega),Bg (by omega)];rfl) ?_
   intro z2 Q F Y A ad I;have hh:∀b,blk y1=some b->h.length<=b:=λb f=>by
    rcases en with e|⟨i,e,e'⟩
    ·rw[f]at e;have:b=h.length:=by simpa[blk]using e
     omega
    ·rw[f]at e;cases e;simp at e';omega
   have dC:=bs.apS (c:=c) f1 (λp E b f a9=>by
    have k1:=hh b f;have k2:=((hf.pc.1 p E).blk a9).2;omega) F A I
   have Z:Pre H Q:=bE (E.trans W) λi d R ho=>A i d ho λe=>by
    have:=(hf.os.blk e).1;omega
   refine jn ?_;refine ac Y ?_;refine pu ?_;rw[aI (by omega)];have b6:fz ln s L r j=fz ln s L r (j+1):=by
    unfold fz;rw[e2,ra a0,Cx]
   rw[b6];exact D (Q,z2,za,Ms++[(c,y1,N)],Ma) J ⟨Z,dC,by
    rw[CA,O,e1,ra a0];rfl,by rw[ar,e2,ra a0,Cx]⟩
  rw[AJ (gy.2 a0)];refine jn ?_;refine bz (bm.pre E) ?_;have im:0<N.length:=qbl.2 ct.1;refine pu ?_;rw[Lz (by show -9223372036854775808<=(N.length:Int) - 1;omega) (by show(N.length:Int) - 1<=9223372036854775807;omega)];refine pu ?_;refine aO (σ:=HL×Value) N.length (λk t=>[.v t.2,.i ((N.length:Int) - 1 - (k:Int)),.i (.ofNat w),.i (.ofNat v),.v zc,.i (Int.ofNat (if 0∈N.reverse.take k then af r m else fz ln s L r j).1),.i (if 0∈N.reverse.take k then af r m else fz ln s L r j).2.1,.i (if 0∈N.reverse.take k then af r m else fz ln s L r j).2.2,.v (.slice none 0 0)]) (λ_ t=>t.1)
   (λk t=>Pre h t.1/\OwnL h.length t.1 t.2 1 kl (N.reverse.take k)) (j0:=0) (s0:=(h,.slice none 0 0)) (by simp) rfl (AF _) ⟨.refl _,.nil _ _ _ _⟩ ?_
  rintro k ⟨g,u⟩ hk ⟨W,bd⟩ b7 S;simp only at W bd ⊢;refine jn ?_;by_cases ap:k<N.length
  case pos=>
   rw[BI (show(0:Int)<=(N.length:Int) - 1 - (k:Int)by omega)];refine jn ?_;obtain⟨id,hid⟩:=aG (l:=N) (i:=N.length - 1 - k) (by omega);have eB:N.reverse[k]?=some id:=by rw[List.getElem?_reverse ap];exact hid
   have bl:N.reverse.take (k+1)=N.reverse.take k++[id]:=by rw[Ec,eB];rfl
   have c0:(N.length:Int) - 1 - (k:Int)=Int.ofNat (N.length - 1 - k):=by
    show _=((N.length - 1 - k:Nat):Int);omega
   refine aP ((bm.pre E).pre W) c0 hid ?_;rw[show kl id=[.int .i64 (Int.ofNat id)]from rfl];refine jn ?_;refine bd.ap1 (a:=id) aU W.len rfl rfl rfl (by
    unfold bb;rw[BX,Bg (by omega),Bg (by omega)];rfl) ?_
   intro u2 Q F Y A ad I;have Z:Pre h Q:=bE W λi d R ho=>A i d ho λe=>by
    have:=(bd.blk e).1;omega
   refine jn ?_;refine ac Y ?_;refine pu ?_;refine aP ((bm.pre E).pre Z) c0 hid ?_;rw[show kl id=[.int .i64 (Int.ofNat id)]from rfl];refine jn ?_;rw[←bl]at F;have f0:(N.length:Int) - 1 - (k:Int) - 1=(N.length:Int) - 1 - ((k+1:Nat):Int):=by omega
   by_cases h0:id=0
   ·subst h0;rw[Aq (show Int.ofNat 0=0 from rfl)];refine jn ?_;refine ah ci ?_;refine jn ?_;rw[f0];have:=S (Q,u2) ap ⟨Z,F⟩;simp only at this;rw[mc (by rw[bl];simp)]at this;exact this
   ·rw[Ai (show ¬Int.ofNat id=0 from λe=>h0 (by exact Du e))];refine jn ?_;rw[f0];have:=S (Q,u2) ap ⟨Z,F⟩;simp only at this;have hC:0∈N.reverse.take (k+1)↔0∈N.reverse.take k:=by
     rw[bl,qar,qav];exact⟨λh=>h.elim (λh=>h) λh=>absurd h.symm h0,.inl⟩
    rw[ite_cond_congr (propext hC)]at this;exact this
  obtain rfl:k=N.length:=by omega
  rw[Bn (show(N.length:Int) - 1 - (N.length:Int)<0 by omega)];refine jn ?_;rw[CJ (by simp)]at bd ⊢;have eg:=jQ (m:=m) (c:=c) bX.1 (by obtain⟨_,q1,q2,q3,q4,_⟩:=bX;omega) dA.1 (by omega);simp only[As,AB,AO,AG]at eg;refine ah eg ?_;refine jn ?_;have bs:=(hf.pre W).symm;refine bs.os.ap1 (a:=((am m c,u,N.reverse):Sk)) dl (by have:=W.len;omega) rfl rfl rfl (by
   unfold bb;rw[Bg (by omega),Bg (by omega)];rfl) ?_
  intro z2 Q F Y A ad I;have ga:OwnL H.length g u 1 kl N.reverse:=by
   rcases bd with e|⟨id,cx,e1,e2,e3⟩
   ·exact .inl e
   ·exact .inr ⟨id,cx,e1,by omega,e3⟩
  have dC:=(bs.apS (c:=am m c) ga (λp E b f a9=>by
   have k1:=(bd.blk f).1;have k2:=((hf.symm.pc.1 p E).blk a9).2;omega) F A I).symm
  have Z:Pre H Q:=bE (E.trans W) λi d R ho=>A i d ho λe=>by
   have:=(hf.oa.blk e).1;omega
  refine jn ?_;refine ac Y ?_;refine pu ?_;rw[aI (by omega)];have b6:(if 0∈N.reverse then af r m else fz ln s L r j)=fz ln s L r (j+1):=by
   unfold fz;rw[e2,mc a0,M4,fn];simp only[Df,List.flatMap_nil,Cx,qar,List.mem_reverse];by_cases q1:0∈N<;>by_cases q2:0∈(C5 ln s (L.take j)).flatMap Prod.snd<;>simp[q1,q2]
  rw[b6];exact D (Q,zs,z2,Ms,Ma++[(am m c,u,N.reverse)]) J ⟨Z,dC,by rw[O,e1,mc a0,Cx],by
   rw[CA,ar,e2,mc a0,fn];rfl⟩)
def Jx{w v:Nat}(a:S3 w v){l:Ty}{G:TC}(o:nC w v l G)(q:G 0=AZ):ConsO w v l G:=by
 have p:=a.sh;have m:∀(d c:Nat),c<4*w*v->dst w c=d->AK (20*(d:Int)) (G c):=by
  intro d
  induction d using Nat.strongRecOn with
  |_ d x=>
   intro c h u;have f:=qac.1 (Nl w v a.1 a.2.1 a.2.2.1 a.2.2.2) c (qad.2 h);unfold IA at f;rw[wa,Cz]at f;rcases f.2 with s|t
   ·obtain rfl:=AW s;rw[q];exact xM (by omega)
   ·obtain⟨e,i,g⟩:=qcn.1 t;have i:=qad.1 i;cases k:Aj w v c e with
    |none=>rw[k]at g;cases g
    |some n=>
     rw[k]at g;have g:=AW g;obtain⟨b,j,_⟩:=dJ p h i k;have r:=x (dst w n) (by omega) n b rfl;rw[o n e c b i j];exact aN (wM p b i j r (by omega)) (by omega)
 refine⟨o,q,λc h=>?_⟩;have f:=qac.1 (Nl w v a.1 a.2.1 a.2.2.1 a.2.2.2) c (qad.2 h);unfold IA at f;rw[wa]at f;have u:=qdh f.1;exact aN (m _ c h rfl) (by omega)
def KO{l:Ty}(h:CC l)(d:(l.map bB).Nodup):l.Pairwise λa b=>Do a b=true:=by
 have g:l.Pairwise λa b=>bB a≠bB b:=qbi.1 d;refine(List.Pairwise.and h g).imp λ{a b} c=>?_;obtain⟨f,i⟩:=c;have f:=ze.1 f;unfold Do;rw[Cz,wa];simp only[BQ];have j:¬(a.1=b.1/\a.2.1=b.2.1):=λe=>i (by unfold bB;rw[e.1,e.2]);omega
structure FSt(w v:Nat)(k:Int)(l:Ty)(r:Mv)(G:TC)(L:List Af):Prop where
 vk:∀c∈l,VK w v c
 so:l.Pairwise λa b=>Do a b=true
 co:ConsO w v l G
 rk:AK k r
 st:StJ (λc=>am (af (G c) r) (sd w c)) (List.range (4*w*v)) L
 ss:L.Pairwise λa b=>Bc b.1 a.1=true
def VK.k0{w v:Nat}{c:B3}(h:VK w v c):c.2.2≠0:=by have:=h.2;omega
def U1{w v:Nat}(y:Sh w v){l:Ty}{G:TC}{r:Mv}:(A2 w v l G r (4*w*v)).Pairwise λp q=>¬(p.1=q.1/\p.2.1=q.2.1):=by
 unfold A2;rw[qdf];have m:∀a p,p∈LA w v l G r a->p.1=a/\∃k,k<3/\BO w v l G r a k=some p:=λa p e=>by
  obtain⟨k,E,c⟩:=qaH.1 e;refine⟨?_,k,qad.1 E,c⟩;unfold BO at c;split at c
  ·split at c
   ·cases c;rfl
   ·cases c
  ·cases c
 refine⟨λa n=>?_,?_⟩
 ·have n:=qad.1 n;unfold LA;rw[RU];have u:(List.range 3).Pairwise λi j=>i<j:=RX;refine(qdd.1 u).imp λ{i j} s=>?_;obtain⟨o,t,F⟩:=s;have o:=qad.1 o;have t:=qad.1 t;intro p e q g f;have e:BO w v l G r a i=some p:=e;have g:BO w v l G r a j=some q:=g;have d:∀k p,BO w v l G r a k=some p->Aj w v a (eK (a%4) k)=some p.2.1:=λk p h=>by
   unfold BO at h;cases z:Aj w v a (eK (a%4) k)with
   |none=>rw[z]at h;cases h
   |some b=>
    rw[z]at h;simp only at h;split at h
    ·cases h;rfl
    ·cases h
  have x:=d i p e;have c:=d j q g;rw[f.2]at x;have A:=lU y n (fy _ _) x;have B:=lU y n (fy _ _) c;have C:eK (a%4) i=eK (a%4) j:=A.symm.trans B;have:i=j:=by rw[←mt (q:=a%4) o,C,mt t]
  omega
 ·have u:(List.range (4*w*v)).Pairwise λi j=>i<j:=RX;refine u.imp λ{a b} D p e q g f=>?_;have:=(m a p e).1;have:=(m b q g).1;omega
def Ry{w v:Nat}(g:S3 w v){k:Int}{l:Ty}{r:Mv}{G:TC}(h:ConsO w v l G)(q:AK k r){p:IE}(j:p∈A2 w v l G r (4*w*v)):(1<=p.2.2.1/\p.2.2.1<=4)/\-(2*k+32)<=p.2.2.2/\p.2.2.2<=2*k+32/\AK (2*k+32) (Bm p.2.2):=by
 obtain⟨b,i,s,m,o,n,a⟩:=lz j;have f:eT (af (G p.1) r).1 (eK (p.1%4) i)<3:=kR (fy _ _);have d:=KH (c:=am (af (G p.1) r) (sd w p.1)) (e:=eT (af (G p.1) r).1 (eK (p.1%4) i)) gL f (sa g h q b);rw[←a]at d;refine⟨by rw[a];exact FY gL f,by omega,by omega,aN d.1 (by omega)⟩
def Kw{w v:Nat}{l:Ty}{u k n:Nat}(b:Aj w v u (eK (u%4) k)=some n)(a:u<n):CV w v l u k=Co l u (eK (u%4) k):=by
 unfold CV;rw[b];simp only;rw[CL (by omega)]
def FSt.keys{w v:Nat}(M:S3 w v){k:Int}{l:Ty}{r:Mv}{G:TC}{L:List Af}(h:FSt w v k l r G L){ln:Ln}{o:Bool}{u e n:Nat}(J:u<4*w*v)(H:e<3)(D:Aj w v u e=some n)(s:u<n) :
  ((Int.ofNat u,Int.ofNat e):Ku)∈(BD w v (λa=>af (G a) r) o ln (A2 w v l G r (4*w*v))).map bB↔(Bb l u e=false/\uc (am (af (G u) r) (sd w u)) (eT (af (G u) r).1 e)=ln):=by
 have I:=M.sh;have j:∀c∈l,c.2.2≠0:=λc A=>(h.vk c A).k0;constructor
 ·intro O;obtain⟨c,A,b⟩:=qax.1 O;unfold BD at A;obtain⟨p,t,rfl⟩:=qax.1 A;obtain⟨t,m⟩:=qaO.1 t;have m:=of_decide_eq_true m;obtain⟨F,i,P,y,z,f,x⟩:=lz t;have C:=lU I F (fy _ _) y;unfold bB Jz at b;simp only[PZ]at b;have B:p.1=u:=Du b.1;have q:JG w v p.1 p.2.1=e:=Du b.2;rw[C]at q;subst B;rw[q]at x;refine⟨?_,x.symm.trans m⟩;rw[←CO,←ma j];intro E;rw[Kw y z,q]at f;exact E f
 ·rintro⟨d,N⟩;have g:eK (u%4) (eK (u%4) e)=e:=mt H;have f:BO w v l G r u (eK (u%4) e)=some (u,n,ln):=by
   unfold BO;rw[g,D];simp only;have K:CV w v l u (eK (u%4) e)=0:=by
    rw[Kw (n:=n) (by rw[g];exact D) s,g];rcases Int.lt_or_le 0 (Co l u e)with B|B
    ·have:=(ma (l:=l) j (u:=u) (e:=e)).1 (by omega);rw[this]at d;cases d
    ·rcases Int.lt_or_le (Co l u e) 0 with q|q
     ·have:=(ma (l:=l) j (u:=u) (e:=e)).1 (by omega);rw[this]at d;cases d
     ·omega
   rw[mc ⟨s,K⟩,N]
  have t:((u,n,ln):IE)∈A2 w v l G r (4*w*v):=by
   unfold A2;exact qa2.2 ⟨u,qad.2 J,qaH.2 ⟨eK (u%4) e,qad.2 (fy _ _),f⟩⟩
  refine qax.2 ⟨Jz w v (λa=>af (G a) r) o (u,n,ln),?_,?_⟩
  ·unfold BD;exact qax.2 ⟨_,qaO.2 ⟨t,BJ rfl⟩,rfl⟩
  ·unfold bB Jz;simp only;rw[lU I J H D]
def ox{a b:Cl}(h:Bc a b=false)(c:a≠b):Bc b a=true:=by
 have h:=zf.1 h;refine zg.2 ?_;obtain⟨x,y,q⟩:=a;obtain⟨f,g,d⟩:=b;simp only at h ⊢;have i:¬(x=f/\y=g/\q=d):=λe=>c (by rw[e.1,e.2.1,e.2.2]);omega
def FSt.fold{w v:Nat}(K:S3 w v){k:Int}(hk:0<=k){l:Ty}{r:Mv}{G:TC}{L:List Af}(h:FSt w v k l r G L){ln:Ln}{s o:Bool}(ad:∃p∈A2 w v l G r (4*w*v),p.2.2=ln)
  {l':Ty} (t:l'.Perm (l++BD w v (λa=>af (G a) r) o ln (A2 w v l G r (4*w*v)))) (a1:CC l') {U:List Af} (P:U.Perm (Hu ln s o L)) (aE:U.Pairwise λa b=>Bc a.1 b.1=false) :
  FSt w v (3*k+32) l' (fz ln s L r L.length) (MY w ln s G r) U:=by
 have I:=K.sh;obtain⟨p0,ap,R⟩:=ad;have Y:=Ry K h.co h.rk ap;rw[R]at Y;have O:=Y.2.2.2;have X:∀c,c<4*w*v->(G c).1<8:=λc d=>(h.co.ok c d).1;have m:=HC (l':=l') I h.co.g X h.rk.1 Y.1 (s:=s) λu e n hu he hn H=>by
  have h1:=h.keys K (ln:=ln) (o:=o) hu he hn H;rw[show Bb l' u e=decide (((Int.ofNat u,Int.ofNat e):Ku)∈l'.map bB)from rfl,BQ,(t.map bB).mem_iff,CA,qar,h1];rw[show(Bb l u e=true)=(((Int.ofNat u,Int.ofNat e):Ku)∈l.map bB)by unfold Bb;rw[BQ]]
 have Z:=Jx K m.1 m.2;have hN:0<4*w*v:=(Bw I).1;have ay:fz ln s L r L.length=Di ln s (af (G 0) r) (sd w 0):=by
  unfold fz Di;rw[IJ,h.co.z,jP h.rk.1];have B:0∈(C5 ln s L).flatMap Prod.snd↔dh ln (am r (sd w 0))=s:=by
   have C:∀x∈L,∀c∈x.2,c=0->x.1=am r (sd w 0):=λx E c d J=>by
    have:=h.st.at' x E c d;simp only[J,h.co.z]at this;rw[jP h.rk.1]at this;exact this.symm
   constructor
   ·intro hm;obtain⟨a,V,J⟩:=qa2.1 hm;obtain⟨x,E,rfl⟩:=qax.1 V;obtain⟨E,a3⟩:=qaO.1 E;have A:0∈x.2:=by simpa using J
    rw[←C x E 0 A rfl];exact of_decide_eq_true a3
   ·intro a0;have J:0∈L.flatMap Prod.snd:=h.st.pm.mem_iff.2 (qad.2 hN);obtain⟨x,E,A⟩:=qa2.1 J;refine qa2.2 ⟨(am (Bm ln) x.1,x.2.reverse),qax.2 ⟨x,qaO.2 ⟨E,BJ ?_⟩,rfl⟩,by simpa using A⟩;rw[C x E 0 A rfl];exact a0
  by_cases d:dh ln (am r (sd w 0))=s
  ·rw[mc (B.2 d),mc d]
  ·rw[ra (λe=>d (B.1 e)),ra d]
 have a2:StJ (λc=>am (af (MY w ln s G r c) (fz ln s L r L.length)) (sd w c)) (List.range (4*w*v)) (Hu ln s o L):=h.st.fold λc d=>by
  have d:=qad.1 d;have hq:(sd w c).2.2<4:=(di I d).2.2.2.2;rw[ay,J4];unfold Di;split
  ·rw[zr fk (uM _) hq]
  ·rfl
 have D:=a2.perm P;have T:∀c∈BD w v (λa=>af (G a) r) o ln (A2 w v l G r (4*w*v)),VK w v c:=λc d=>by
  unfold BD at d;obtain⟨p,t,rfl⟩:=qax.1 d;obtain⟨t,_⟩:=qaO.1 t;obtain⟨y,i,hi,f,Q,a5,P⟩:=lz t;have N:=lU I y (fy _ _) f;have a4:(Jz w v (λa=>af (G a) r) o p).2.2=1∨(Jz w v (λa=>af (G a) r) o p).2.2=2:=by
   unfold Jz;simp only;split
   ·exact .inr rfl
   ·exact .inl rfl
  refine⟨⟨p.1,JG w v p.1 p.2.1,p.2.1,rfl,rfl,y,by rw[N];exact fy _ _,by rw[N];exact f,Q,by omega,by omega⟩,by omega,by omega⟩
 have ag:((l++BD w v (λa=>af (G a) r) o ln (A2 w v l G r (4*w*v))).map bB).Nodup:=by
  rw[CA,qb0];refine⟨lh h.so,?_,λa V b F e=>?_⟩
  ·unfold BD;rw[Ep,List.Nodup,qbi];refine(qdd.1 ((U1 I (l:=l) (G:=G) (r:=r)).filter _)).imp λ{p q} ar e=>?_;obtain⟨t,hq,an⟩:=ar;obtain⟨y,i,hi,f,_⟩:=lz (qaO.1 t).1;obtain⟨ax,j,hj,S,_⟩:=lz (qaO.1 hq).1;simp only[Function.comp,bB,Jz,PZ]at e;have e1:p.1=q.1:=Du e.1;have W:JG w v p.1 p.2.1=JG w v q.1 q.2.1:=Du e.2;rw[lU I y (fy _ _) f,lU I ax (fy _ _) S]at W;rw[e1]at f W;rw[W,S]at f;exact an ⟨e1,(AR f).symm⟩
  ·subst e;obtain⟨c,d,rfl⟩:=qax.1 F;obtain⟨⟨u,e,n,q1,q2,hu,he,hn,H,_⟩,_⟩:=T c d;have hk:bB c=((Int.ofNat u,Int.ofNat e):Ku):=by unfold bB;rw[q1,q2]
   rw[hk]at V F;have:=((h.keys K hu he hn H).1 F).1;unfold Bb at this;exact of_decide_eq_false this V
 refine⟨λc d=>?_,KO a1 ((t.map bB).nodup_iff.2 ag),Z,?_,D,?_⟩
 ·rcases qar.1 (t.mem_iff.1 d)with d|d
  ·exact h.vk c d
  ·exact T c d
 ·unfold fz;split
  ·exact aN (dp h.rk O) (by omega)
  ·exact aN h.rk (by omega)
 ·have h2:U.Pairwise λa b=>a.1≠b.1:=qbi.1 D.nd;exact(List.Pairwise.and aE h2).imp λ{a b} M=>ox M.1 M.2
def Mz{n0:Nat}{h:HL}{z:Value}{a:List Sk}(e:LsH h z 4 Ar a)(d:Pcs n0 h a):StL h z (a.map CP):=by
 refine⟨a.map λs=>(s.1,s.2.1),ls45 e,by simp,λi m b=>?_⟩;rw[AX]at b;cases c:a[i]? with
 |none=>rw[c]at b;cases b
 |some q=>
  rw[c]at b;cases b;exact⟨q.2.2,by rw[AX,c];rfl,(d.1 q (Ap c)).ls aU⟩
def KD{L:List Af}(h:∀s∈L,s.2≠[]):L.length<=(L.flatMap Prod.snd).length:=by
 induction L with
 |nil=>simp
 |cons a L c=>
  rw[Df,Bv,C6];have d:=qbl.2 (h a Cw);have e:=c λs b=>h s (BF _ b);omega
def KE{L:List Af}{a:Af}(h:a∈L):a.2.length<=(L.flatMap Prod.snd).length:=by
 induction L with
 |nil=>cases h
 |cons b L c=>
  rw[Df,Bv];rcases qas.1 h with rfl|h
  ·omega
  ·have:=c h;omega
section
variable {w v:Nat} {k:Int} {l:Ty} {r:Mv} {G:TC} {L:List Af}
def FSt.tot(h:FSt w v k l r G L):(L.flatMap Prod.snd).length=4*w*v:=by rw[h.st.pm.length_eq,qdM]
def FSt.lenL(h:FSt w v k l r G L):L.length<=4*w*v:=by have:=KD h.st.ne;rw[h.tot]at this;exact this
def FSt.lenP(h:FSt w v k l r G L){a:Af}(b:a∈L):a.2.length<=4*w*v:=by have:=KE b;rw[h.tot]at this;exact this
def FSt.pos(c:S3 w v)(h:FSt w v k l r G L):0<L.length:=by
 have d:=(Bw c.sh).1;have b:=h.tot;cases L with
 |nil=>simp at b;omega
 |cons a L=>simp
def FSt.idlt(h:FSt w v k l r G L){a:Af}(b:a∈L){c:Nat}(d:c∈a.2):c<4*w*v:=qad.1 (h.st.pm.mem_iff.1 (qa2.2 ⟨a,b,d⟩))
def FSt.cell(d:S3 w v)(h:FSt w v k l r G L){a:Af}(e:a∈L):a.1.2.2<4/\-(k+15)<=a.1.1/\a.1.1<=k+15/\-(k+15)<=a.1.2.1/\a.1.2.1<=k+15:=by
 obtain⟨c,g⟩:=List.exists_mem_of_ne_nil _ (h.st.ne a e);have f:am (af (G c) r) (sd w c)=a.1:=h.st.at' a e c g;have b:=sa d h.co h.rk (h.idlt e g);rw[f]at b;have d:a.1.2.2<4:=by rw[←f];exact gL
 exact⟨d,b.1,b.2.1,b.2.2.1,b.2.2.2⟩
def FSt.mono(h:FSt w v k l r G L){a:Int}(b:k<=a):FSt w v a l r G L:=⟨h.vk,h.so,h.co,aN h.rk b,h.st,h.ss⟩
end
def tabO(w n:Nat):Bool:=(List.range n).all λj=>(List.range j).all λi=>Bc (sd w j) (sd w i)
def allO:∀w:Nat,1<=w->w<=3->tabO w 36=true:=by
 have a:((List.range 3).all λw=>tabO (w+1) 36)=true:=by decide +kernel
 intro w b c;have:=qac.1 a (w - 1) (qad.2 (by omega))
 rwa [show w - 1+1=w by omega]at this
def ord_c{w v:Nat}(a:S3 w v){i j:Nat}(b:i<j)(g:j<4*w*v):Bc (sd w j) (sd w i)=true:=by
 obtain⟨c,d,e,f⟩:=a.n;have:=qac.1 (allO w a.1 a.2.1) j (qad.2 (by omega));exact qac.1 this i (qad.2 b)
def Ki{w v:Nat}(o:S3 w v):FSt w v 0 [] AZ (λ_=>AZ) (mz w v):=by
 have k:=o.sh;have f:(mz w v).Pairwise λa b=>Bc b.1 a.1=true:=by
  unfold mz;rw[qbi];have p:(List.range (4*w*v)).Pairwise λi j=>i<j:=RX;exact(qdd.1 p).imp λ{a b} h=>ord_c o h.2.2 (qad.1 h.2.1)
 refine⟨λc d=>(by cases d),.nil,⟨λc e n _ _ _=>?_,rfl,λc _=>xM (by omega)⟩,xM (by omega),⟨?_,λs m c d=>?_,λs k=>?_,?_⟩,f⟩
 ·unfold B4 Bb;simp
 ·rw[List.Nodup,qbi];refine f.imp λ{a b} h e=>?_;have:=zg.1 h;rw[e]at this;omega
 ·obtain⟨i,g,rfl⟩:=qax.1 m;have g:=qad.1 g;have d:c=i:=by simpa using d
  subst d;show am (af AZ AZ) (sd w c)=sd w c;rw[ny (by decide),K2 (di k g).2.2.2.2]
 ·obtain⟨i,g,rfl⟩:=qax.1 k;simp
 ·have:(mz w v).flatMap Prod.snd=List.range (4*w*v):=by
   unfold mz;rw[Vi]
   induction List.range (4*w*v)with
   |nil=>rfl
   |cons a l q=>rw[Df,q];rfl
  rw[this]
def OL{w v:Nat}(m:S3 w v){H:HL} :
  ∃x h' d,aD cc ab 20 [.i (.ofNat w),.i (.ofNat v)] (ka aa H) [.i (.ofNat w),.i (.ofNat v),.v jq,.i 0,.i 0,.i 0,.v x] (ka aa h')/\Pre H h'/\LsH h' x 4 Ar d/\Pcs H.length h' d/\d.map CP=mz w v:=by
 have U:=m.sh;obtain⟨Y,Z,b3,b4⟩:=m.n;have hN:=Bw U;have I:=u20 (ls:=[.i (.ofNat w),.i (.ofNat v)]) (K:=λM h'=>∃x d,M=[.i (.ofNat w),.i (.ofNat v),.v jq,.i 0,.i 0,.i 0,.v x]/\Pre H h'/\LsH h' x 4 Ar d/\Pcs H.length h' d/\d.map CP=mz w v) (H:=H) rfl (by
  unfold f20;simp only[xp];refine jn ?_;refine aO (σ:=HL×Value×List Sk) (4*w*v) (λj s=>[.i (Int.ofNat j),.i (.ofNat w),.i (.ofNat v),.v jq,.i 0,.i 0,.i 0,.v s.2.1]) (λ_ s=>s.1)
   (λj s=>Pre H s.1/\FW H.length s.1 s.2.1 (.slice none 0 0) (.slice none 0 0) s.2.2 [] []/\s.2.2.map CP=(List.range j).map λi=>(sd w i,[i]))
   (j0:=0) (s0:=(H,.slice none 0 0,[])) rfl rfl (AF _) ⟨.refl _,⟨.nil _ _ _ _,.nil _ _ _ _,.nil _ _ _ _,(λb z=>by cases z),.nil _ _⟩,rfl⟩ ?_
  rintro j ⟨h,x,d⟩ hj ⟨y,l,f⟩ N k;simp only at y l f ⊢;refine jn ?_;rw[RB (by omega)];refine pu ?_;rw[qB (by omega)];refine pu ?_;by_cases g:j<4*w*v
  case neg=>
   obtain rfl:j=4*w*v:=by omega
   rw[ao (Ah _)];refine jn ?_;exact⟨x,d,rfl,y,l.os.ls dl,by simpa using l.pc,f⟩
  rw[au g];refine jn ?_;refine ah (iK m g) ?_;unfold As;refine jn ?_;have S:d.length=j:=by
   have:=congrArg List.length f;simpa using this
  have D:=y.len;have u:Pre h (h++[HO.o (.cells [.int .i64 (Int.ofNat j)] 1 true)]):=⟨_,rfl⟩;have r:=l.pre u;refine r.os.ap1 (a:=((sd w j,.slice (some ⟨h.length,0,qs 1⟩) 1 2,[j]):Sk)) dl (by simp;omega) rfl rfl rfl (by
   unfold bb;rw[Bg (by omega),Bg (by omega)];rfl) ?_
  intro X J E C t L q;have V:OwnL H.length (h++[HO.o (.cells [.int .i64 (Int.ofNat j)] 1 true)]) (.slice (some ⟨h.length,0,qs 1⟩) 1 2) 1 kl [j]:=.inr ⟨h.length,2,rfl,D,az,.inr rfl⟩;have B:=r.apS (c:=sd w j) V (λp F b z A=>by
   have e:h.length=b:=by simpa[blk]using z
   have:=((l.pc.1 p F).blk A).2;omega) E t q
  have G:Pre H J:=bE (y.trans u) λi W hi T=>t i W T λe=>by
   have:=(l.os.blk e).1;omega
  refine jn ?_;refine ac C ?_;refine pu ?_;rw[aI (by omega)];exact k (J,X,d++[_]) g ⟨G,B,by
   rw[CA,f,Vd,CA];rfl⟩)
 obtain⟨M,h',O,x,d,rfl,m,P,Q,R⟩:=I;exact⟨x,h',d,O,m,P,Q,R⟩
structure StH(w v:Nat)(n0:Nat)(h:HL)(k:Int)(z:Value)(r:Mv)(zs:Value)(l:Ty)(G:TC)(Ms:List Sk):Prop where
 cr:LsH h z 3 Ac l
 st:FSt w v k l r G (Ms.map CP)
 ss:LsH h zs 4 Ar Ms
 pc:Pcs n0 h Ms
def StH.pre{w v n0:Nat}{h h':HL}{k:Int}{z:Value}{r:Mv}{d:Value}{l:Ty}{G:TC}{c:List Sk}(a:StH w v n0 h k z r d l G c)(b:Pre h h'):StH w v n0 h' k z r d l G c:=
 ⟨a.cr.pre b,a.st,a.ss.pre b,a.pc.keep λ_ _ _ _ e _=>b.get e⟩
def kB:Nat->Int
 |0=>0
 |n+1=>3*kB n+32
def Rw{j:Nat}(h:j<=5):0<=kB j/\kB j<=3872:=by
 have:j=0∨j=1∨j=2∨j=3∨j=4∨j=5:=by omega
 rcases this with rfl|rfl|rfl|rfl|rfl|rfl<;>simp[kB]
def Kx{j:Nat}(h:j<=4):kB j<=1280:=by
 have:j=0∨j=1∨j=2∨j=3∨j=4:=by omega
 rcases this with rfl|rfl|rfl|rfl|rfl<;>simp[kB]
def HD{w v n0:Nat}(m:S3 w v){h:HL}{j:Nat}(T:j<=4){z N:Value}{r:Mv}{l:Ty}{G:TC}{P:List Sk}(d:StH w v n0 h (kB j) z r N l G P)(J:n0<=h.length)(hl:l.length<=108*j){ln:Ln}(I:∃p∈A2 w v l G r (4*w*v),p.2.2=ln)(s o:Bool) :
  ∃D C f l' O k h',aD cc ab 22 ([.i (.ofNat w),.i (.ofNat v),.v z]++AB r++[.v N,.i (.ofNat ln.1),.i ln.2,.i (if s then 1 else 0),.b o]) (ka aa h) [.i (.ofNat w),.i (.ofNat v),.v D,.i (Int.ofNat C.1),.i C.2.1,.i C.2.2,.v f] (ka aa h')/\Pre h h'/\StH w v n0 h' (kB (j+1)) D C f l' O k/\l'.length<=108*(j+1):=by
 obtain⟨W,X,Y,Z⟩:=m.n;have F:=Rw (show j<=5 by omega);have M:=Kx T;obtain⟨V,q,g⟩:=I;have L:=Ry m d.st.co d.st.rk q;rw[g]at L;have y:=d.st.vk;obtain⟨rs,h',c,S⟩:=Kg m d.cr (λc E=>(y c E).1) (λc E=>(y c E).k0) (by omega) (aN d.st.rk (by omega)) d.st.co (Mz d.ss d.pc) (d.st.pos m) (by have:=d.st.lenL;omega) (λa B=>by have:=d.st.cell m B;omega) (λa B=>⟨d.st.st.ne a B,by have:=d.st.lenP B;omega⟩) L.1 (by omega) s o;obtain⟨D,f,l',k,rfl,U,H,e,K,A,t,u,x⟩:=S;have R:=d.st.fold m (s:=s) (o:=o) F.1 ⟨V,q,g⟩ e K u (qbi.2 x);refine⟨D,_,f,l',_,k,h',c,U,⟨H,R,A,t.low J⟩,?_⟩;have Q:=e.length_eq;rw[Bv]at Q;have h2:(BD w v (λa=>af (G a) r) o ln (A2 w v l G r (4*w*v))).length<=(A2 w v l G r (4*w*v)).length:=by
  unfold BD;rw[A9];exact VX _ _
 have h4:=kj (w:=w) (v:=v) (l:=l) (G:=G) (r:=r) (n:=4*w*v);omega
def Ia{l:Tx}{i j:Nat}{a b:Nat}(c:l[i]?=some a)(d:l[j]?=some b):((l.set i b).set j a).Perm l:=by
 have e:=al c;have f:=al d;have:=List.set_set_perm e f;rw[Be e]at c;rw[Be f]at d;cases c;cases d;exact this
def StJ.setp{i:Nat->Cl}{X:Tx}{L:List Af}(h:StJ i X L){k:Nat}{c:Cl}{ly b:Tx}(g:L[k]?=some (c,ly))(j:b.Perm ly):StJ i X (L.set k (c,b)):=by
 have m:=Ap g;have f:(L.set k (c,b)).map Prod.fst=L.map Prod.fst:=by
  rw[LZ];exact bq (by rw[AX,g];rfl)
 refine⟨by rw[f];exact h.nd,λs d x n=>?_,λs d=>?_,?_⟩
 ·rcases R0 d with d|rfl
  ·exact h.at' s d x n
  ·exact h.at' _ m x (j.mem_iff.1 n)
 ·rcases R0 d with d|rfl
  ·exact h.ne s d
  ·intro e;simp only at e;subst e;exact h.ne _ m j.symm.eq_nil
 ·refine List.Perm.trans ?_ h.pm;have o:=(dN (a:=(c,b)) g).flatMap_right Prod.snd;have l:=(dN (a:=(c,ly)) g).flatMap_right Prod.snd;rw[bq g]at l;refine o.trans (List.Perm.trans ?_ l.symm);rw[Df,Df];exact j.append_right _
def FSt.setp{w v:Nat}{k:Int}{l:Ty}{r:Mv}{G:TC}{L:List Af}(h:FSt w v k l r G L){i:Nat}{c:Cl}{ly d:Tx}(g:L[i]?=some (c,ly))(j:d.Perm ly):FSt w v k l r G (L.set i (c,d)):=by
 refine⟨h.vk,h.so,h.co,h.rk,h.st.setp g j,?_⟩;have e:(L.set i (c,d)).map Prod.fst=L.map Prod.fst:=by
  rw[LZ];exact bq (by rw[AX,g];rfl)
 have f:(L.map Prod.fst).Pairwise λa b=>Bc b a=true:=qbi.2 h.ss;rw[←e]at f;exact qbi.1 f
def Hz{a:List Sk}{m:Nat}{q:Sk}(c:a[m]?=some q){b:Tx}:(a.set m (q.1,q.2.1,b)).flatMap Ar=a.flatMap Ar:=by
 rw[qdR,qdR,LZ]
 congr 1
 exact bq (by rw[AX,c];rfl)
def StH.put{w v n0:Nat}{h:HL}{k:Int}{z:Value}{r:Mv}{L:Value}{l:Ty}{G:TC}{s:List Sk}(n:StH w v n0 h k z r L l G s){m:Nat}{q:Sk}(t:s[m]?=some q){id cx:Nat}(K:q.2.1 = .slice (some ⟨id,0,qs 1⟩) q.2.2.length cx)(hid:h[id]?=some (.o (.cells (q.2.2.flatMap kl) 1 true)))(u:n0<=id)(D:cx=0∨cx=q.2.2.length+1){d:Tx}(H:d.Perm q.2.2) :
  StH w v n0 (td h id 1 kl d) k z r L l G (s.set m (q.1,q.2.1,d)):=by
 have J:=n.pc.1 q (Ap t);have y:=J.ls aU;have B:blk q.2.1=some id:=by rw[K];rfl
 have E:∀(j:Nat) o,h[j]?=some o->j≠id->(td h id 1 kl d)[j]?=some o:=λj o g F=>by
  unfold td;rw[B5 (B9 F)];exact g
 refine⟨n.cr.keep λj o g f=>E j o g λe=>DY (e:=3) (e':=1) n.cr y (by decide) f (by rw[B,e]),?_,?_,?_⟩
 ·rw[LZ];exact n.st.setp (c:=q.1) (ly:=q.2.2) (by rw[AX,t];rfl) H
 ·have A:=n.ss.keep (h':=td h id 1 kl d) λj o g f=>E j o g λe=>DY (e:=4) (e':=1) n.ss y (by decide) f (by rw[B,e]);refine⟨λa _=>rfl,?_⟩;rw[Hz t,Bo];exact A.2
 ·have I:s.Perm (q :: s.eraseIdx m):=by
   have:=dN (a:=q) t
   rwa [bq t]at this
  have A:=n.pc.perm I.symm;have x:=qba.1 A.2;have M:Pcs n0 (td h id 1 kl d) (s.eraseIdx m):=(A.sub (qc5 _ _)).keep λp i j o g f=>E j o g λe=>x.1 p i id B (by rw[f,e]);refine(M.cons (p:=(q.1,q.2.1,d)) ?_ λp i b C=>x.1 p i b C).perm (dN t);exact .inr ⟨id,cx,by rw[H.length_eq];exact K,u,bL (al hid),by rw[H.length_eq];exact D⟩
def V7(w v:Nat)(H:HL)(c:TB)(h':HL):Prop:=
 ∃z r a l G b,c=[.i (.ofNat w),.i (.ofNat v),.v z,.i (Int.ofNat r.1),.i r.2.1,.i r.2.2,.v a]/\Pre H h'/\l.length<=432/\StH w v H.length h' 1280 z r a l G b
def SJ{a:Int}(h:0<=a/\a<=255):a%2=(if decide (a%2=1)then 1 else 0):=by
 by_cases b:a%2=1
 ·rw[BJ b,mc rfl];exact b
 ·rw[Ch b,ra (by simp)];omega
def sU{a:Int}{n:Nat}(h:0<=a)(b:0<n):a.toNat%n<n/\a%Int.ofNat n=Int.ofNat (a.toNat%n):=by
 refine⟨Il _ b,?_⟩;obtain⟨m,rfl⟩:=VS h;rfl
def Qa{P O:Int}(b6:0<=P/\P<=255)(b5:0<=O/\O<=255){H:HL}{xf xw:Value}{Fl Sw:List Qx}(hF:LsH H xf 3 pP Fl)(a6:∀a∈Fl,EV a)(hS:LsH H xw 3 pP Sw)(a7:∀a∈Sw,EV a) :
  ∃w v rs h',S3 w v/\aD cc ab 6 [.i P,.i O,.v xf,.v xw] (ka aa H) rs (ka aa h')/\V7 w v H rs h':=by
 obtain⟨W,hW⟩ : ∃W:Nat,1+P%3=Int.ofNat W:=⟨(1+P%3).toNat,by show _=(((1+P%3).toNat:Nat):Int);omega⟩;obtain⟨V,hV⟩ : ∃V:Nat,1+O%3=Int.ofNat V:=⟨(1+O%3).toNat,by show _=(((1+O%3).toNat:Nat):Int);omega⟩;have M:S3 W V:=by
  have a1:1+P%3=(W:Int):=hW;have a2:1+O%3=(V:Int):=hV;exact⟨by omega,by omega,by omega,by omega⟩
 obtain⟨b1,b2,b3,b4⟩:=M.n;have hN:=Bw M.sh;refine⟨W,V,?_⟩;obtain⟨x0,X,U,c0,bs,bP,ay,an⟩:=OL M (H:=H);have a3:StH W V H.length X (kB 0) jq AZ x0 [] (λ_=>AZ) U:=⟨.nil _ _ _,by rw[an];exact Ki M,bP,ay⟩;have bS:=x6 (ls:=[.i P,.i O,.v xf,.v xw]) (K:=V7 W V H) (H:=H) (km (km (oo hF.good (oo hS.good ua)))) (by
  unfold f6;simp only[xp];simp (disch:=omega) only[↓Vl,↓R5,↓R4];rw[hW,hV];refine ai c0 ?_;simp (disch:=omega) only[↓Vl,↓R5,↓R4];refine kg (λls h=>∃z r L l G g,ls=[.i (.ofNat W),.i (.ofNat V),.v z,.i (Int.ofNat r.1),.i r.2.1,.i r.2.2,.v L]/\Pre H h/\l.length<=432/\StH W V H.length h 1280 z r L l G g) ?_ ?_
  case refine_2=>
   intro jj E;refine aO (σ:=HL×Value×Mv×Value×List B3×(Nat->Mv)×List Sk) 4 (λj t=>[.i (Int.ofNat j),.i (.ofNat W),.i (.ofNat V),.v t.2.1,.i (Int.ofNat t.2.2.1.1),.i t.2.2.1.2.1,.i t.2.2.1.2.2,.v t.2.2.2.1]) (λ_ t=>t.1)
    (λj t=>Pre H t.1/\t.2.2.2.2.1.length<=108*j/\StH W V H.length t.1 (kB j) t.2.1 t.2.2.1 t.2.2.2.1 t.2.2.2.2.1 t.2.2.2.2.2.1 t.2.2.2.2.2.2)
    (j0:=0) (s0:=(X,jq,AZ,x0,[],(λ_=>AZ),U)) rfl rfl (AF _) ⟨bs,by simp,a3⟩ ?_
   rintro j ⟨h,z,r,L,l,G,g⟩ hj ⟨d,F,b⟩ a5 f;simp only at d F b ⊢;have ad:=Kx hj;have A:∀h',Pre h h'->jj [.i (.ofNat W),.i (.ofNat V),.v z,.i (Int.ofNat r.1),.i r.2.1,.i r.2.2,.v L] h':=λh' I=>E _ _ ⟨z,r,L,l,G,g,rfl,d.trans I,by omega,let q:=b.pre I;⟨q.cr,q.st.mono ad,q.ss,q.pc⟩⟩;refine jn ?_;refine bz (hF.pre d) ?_;by_cases s:j<Fl.length
   case neg=>
    rw[ao (by omega)];refine jn ?_;exact A h (.refl _)
   rw[au s];refine jn ?_;by_cases be:j<4
   case neg=>
    rw[tx (show(4:Int)<=Int.ofNat j by show(4:Int)<=(j:Int);omega)];refine jn ?_;exact A h (.refl _)
   rw[us (show Int.ofNat j<4 by show(j:Int)<4;omega)];refine jn ?_;have b0:=Rw (show j<=5 by omega);obtain⟨zl,h1,k,c1,B,S,bn,bm⟩:=O4 M b.cr (b.ss.good) (λc hc=>(b.st.vk c hc).1) (λc hc=>(b.st.vk c hc).k0) (by omega) (aN b.st.rk (by omega)) b.st.co;simp only[AB,AO,AG]at c1;refine ai c1 ?_;refine jn ?_;refine bz S ?_;by_cases X:k.length=0
   ·rw[Aq (show Int.ofNat k.length=0 by rw[X];rfl)];refine jn ?_;exact A h1 B
   rw[Ai (show ¬Int.ofNat k.length=0 from λe=>X (Du e))];refine jn ?_;obtain⟨a,D⟩:=aG s;obtain⟨k1,k2,k3,k4,k5,k6⟩:=a6 a (Ap D);have Q:=(hF.pre d).pre B;refine qM (o:=0) (cs:=[.int .u8 a.1]) Q rfl D (by omega) rfl ?_;refine jn ?_;refine bz S ?_;obtain⟨u,x⟩:=sU k1 (show 0<k.length by omega);rw[Bh (by omega) (show(0:Int)<Int.ofNat k.length by show(0:Int)<(k.length:Int);omega)];rw[x];refine pu ?_;obtain⟨y,hy⟩:=aG u;refine aP S rfl hy ?_;rw[show rG y=[.int .u8 (Int.ofNat y.1),.int .i64 y.2]from rfl];refine jn ?_;refine qM (o:=1) (cs:=[.int .u8 a.2.1]) Q rfl D (by omega) rfl ?_;refine jn ?_;refine qM (o:=2) (cs:=[.int .u8 a.2.2]) Q rfl D (by omega) rfl ?_;refine jn ?_;rw[SJ ⟨k3,k4⟩];obtain⟨z',r',bX,l',G',p,h2,c2,bt,a4,ag⟩:=HD M (j:=j) (by omega) (b.pre B) (by have:=(d.trans B).len;omega) F (bm y (Ap hy)) (decide (a.2.1%2=1)) (decide (a.2.2%2=1));simp only[AB,AO,AG]at c2;refine EW λt ht=>?_;subst ht;refine ai c2 ?_;refine jn ?_;rw[aI (by omega)];exact f (h2,z',r',bX,l',G',p) be ⟨(d.trans B).trans bt,ag,a4⟩
  rintro ls h ⟨z,r,L,l,G,g,rfl,d,F,b⟩;simp (disch:=omega) only[↓Vl,↓R5,↓R4];refine kg (λls h'=>∃p,ls=[]/\Pre H h'/\StH W V H.length h' 1280 z r L l G p) ?_ ?_
  ·rintro ls h' ⟨p,rfl,I,a0⟩;refine jn ?_;exact⟨z,r,L,l,G,p,rfl,I,F,a0⟩
  intro jj E;refine aO (σ:=HL×List Sk) 6 (λj t=>[.i (Int.ofNat j)]) (λ_ t=>t.1) (λj t=>Pre H t.1/\StH W V H.length t.1 1280 z r L l G t.2) (j0:=0) (s0:=(h,g)) rfl rfl (AF _) ⟨d,b⟩ ?_;clear d b;rintro j ⟨h,g⟩ hj ⟨d,b⟩ a5 f;simp only at d b ⊢;refine jn ?_;refine bz (hS.pre d) ?_;by_cases s:j<Sw.length
  case neg=>
   rw[ao (by omega)];refine jn ?_;exact E _ _ ⟨g,rfl,d,b⟩
  rw[au s];refine jn ?_;by_cases bl:j<6
  case neg=>
   rw[tx (show(6:Int)<=Int.ofNat j by show(6:Int)<=(j:Int);omega)];refine jn ?_;exact E _ _ ⟨g,rfl,d,b⟩
  rw[us (show Int.ofNat j<6 by show(j:Int)<6;omega)];refine jn ?_;obtain⟨a,D⟩:=aG s;obtain⟨k1,k2,k3,k4,k5,k6⟩:=a7 a (Ap D);have R:=hS.pre d;refine qM (o:=0) (cs:=[.int .u8 a.1]) R rfl D (by omega) rfl ?_;refine jn ?_;refine bz b.ss ?_;have ap:0<g.length:=by have:=b.st.pos M;rwa [A9]at this
  obtain⟨u,x⟩:=sU k1 ap;rw[Bh (by omega) (show(0:Int)<Int.ofNat g.length by show(0:Int)<(g.length:Int);omega)];rw[x];refine pu ?_;generalize a.1.toNat%g.length=m at *;obtain⟨q,hq⟩:=aG u;have aE:=b.pc.1 q (Ap hq);have C:=aE.ls aU;have bI:=C.good;refine bN (cs:=[q.2.1]) b.ss rfl hq rfl (by omega) ?_;refine jn ?_;refine ac bI ?_;refine pu ?_;refine qM (o:=1) (cs:=[.int .u8 a.2.1]) R rfl D (by omega) rfl ?_;refine jn ?_;have bx:(g.map CP)[m]?=some (q.1,q.2.2):=by rw[AX,hq];rfl
  have J:0<q.2.2.length:=qbl.2 (b.st.st.ne _ (Ap bx));refine bz C ?_;obtain⟨Y,a9⟩:=sU k3 J;rw[Bh (by omega) (show(0:Int)<Int.ofNat q.2.2.length by show(0:Int)<(q.2.2.length:Int);omega)];rw[a9];refine pu ?_;refine qM (o:=2) (cs:=[.int .u8 a.2.2]) R rfl D (by omega) rfl ?_;refine jn ?_;refine bz C ?_;obtain⟨Z,bd⟩:=sU k5 J;rw[Bh (by omega) (show(0:Int)<Int.ofNat q.2.2.length by show(0:Int)<(q.2.2.length:Int);omega)];rw[bd];refine pu ?_;generalize a.2.1.toNat%q.2.2.length=i1 at *;generalize a.2.2.toNat%q.2.2.length=i2 at *;obtain⟨n1,ar⟩:=aG Y;obtain⟨T,ax⟩:=aG Z;refine aP C rfl ax ?_;rw[show kl T=[.int .i64 (Int.ofNat T)]from rfl];refine jn ?_;refine aP C rfl ar ?_;rw[show kl n1=[.int .i64 (Int.ofNat n1)]from rfl];refine jn ?_;obtain⟨id,cx,hv,N,hid,a8⟩ : ∃id cx,q.2.1 = .slice (some ⟨id,0,qs 1⟩) q.2.2.length cx/\H.length<=id/\h[id]?=some (.o (.cells (q.2.2.flatMap kl) 1 true))/\(cx=0∨cx=q.2.2.length+1):=by
   rcases aE with⟨_,e⟩|h
   ·rw[e]at J;simp at J
   ·exact h
  rw[hv];refine de (enc:=kl) (l:=q.2.2) (i:=i1) (a:=T) aU hid rfl Y rfl rfl ?_;refine pu ?_;refine de (enc:=kl) (l:=q.2.2.set i1 T) (i:=i2) (a:=n1) aU (bL (al hid)) rfl (by simpa using Z) (by simp) rfl ?_;rw[eo];refine pu ?_;rw[aI (by omega)];exact f (td h id 1 kl ((q.2.2.set i1 T).set i2 n1),g.set m (q.1,q.2.1,(q.2.2.set i1 T).set i2 n1)) bl ⟨gt d N,b.put hq hv hid N a8 (Ia ar ax)⟩)
 obtain⟨rs,h',h2,h4⟩:=bS;exact⟨rs,h',M,h2,h4⟩
def Ad(a b:Int):Int:=if a<b then -1 else if b<a then 1 else 0
def CN:TA->Int
 | []=>0
 |a :: l=>if a=0 then CN l else a
def wS(a b:Int):Ad a b = -1∨Ad a b=0∨Ad a b=1:=by
 unfold Ad
 repeat' split
 all_goals omega
def N8(p:Int×Int):Tk:=[.int .i64 p.1,.int .i64 p.2]
def JK(p:Int×Int):(N8 p).length=2:=rfl
def RC(a:Int):Cc 92 [.i a] [.b false]:=by
 refine q92 rfl ?_;unfold Zh;simp only[xp];simp(disch:=omega)only[↓po]
def DN(a b:Int):Cc 47 [.i a,.i b] [.i (Ad a b)]:=by
 refine q47 rfl ?_;unfold YY;simp only[xp]
 repeat (first|simp(disch:=omega)only[↓po]|refine ah (RC a) ?_|refine ah (RC b) ?_)
 unfold Ad;by_cases c:a<b
 ·simp(disch:=omega)only[↓po];simp[c]
 ·by_cases d:b<a
  ·simp(disch:=omega)only[↓po];simp[c,d]
  ·simp(disch:=omega)only[↓po];simp[c,d]
def xR{l:TA}{j:Nat}{a:Int}(b:l[j]?=some a):CN (l.drop j)=if a=0 then CN (l.drop (j+1))else a:=by
 rw[M8 (al b)];have c:l[j]'(al b)=a:=by rw[Be (al b)]at b;exact AR b
 rw[c];rfl
def UU{h:HL}{x:Value}{l:List (Int×Int)}(f:LsH h x 2 N8 l)(m:l.length<=1000) :
  aD cc ab 71 [.v x] (ka aa h) [.i (CN (l.map λp=>Ad p.1 p.2))] (ka aa h):=by
 exact xK x71 (oo f.good ua) (by
  unfold f71;simp only[xp];refine jn ?_;refine bz f ?_;refine cG l.length (λj=>CN (l.map λp=>Ad p.1 p.2)=CN ((l.map λp=>Ad p.1 p.2).drop j)) (j0:=0) rfl (AF _) rfl ?_;intro j n d k c;refine jn ?_;by_cases b:j<l.length
  ·rw[au b];refine jn ?_;obtain⟨p,g⟩:=aG b;refine aP f rfl g ?_;unfold N8
   repeat (first|simp(disch:=omega)only[↓po]|refine ah (DN p.1 p.2) ?_)
   rw[xR (a:=Ad p.1 p.2) (by rw[AX,g];rfl)]at d;by_cases e:Ad p.1 p.2=0
   ·rw[AJ e];refine jn ?_;rw[aI (by omega)];rw[mc e]at d;exact c b d
   ·rw[AQ e];refine jn ?_;rw[ra e]at d;exact⟨by rw[d],by trivial⟩
  ·obtain rfl:j=l.length:=by omega
   rw[ao (Ah _)];refine jn ?_;refine⟨?_,by trivial⟩;rw[d,RW (by rw[A9];exact Ah _)];rfl)
def G3{x y q x' y' q':Int}(b:0<=q/\q<=255)(a:0<=q'/\q'<=255):Cc 30 [.i x,.i y,.i q,.i x',.i y',.i q'] [.i (CN [Ad y y',Ad x x',Ad q q'])]:=by
 refine q30 rfl ?_;unfold YT;simp only[xp];refine jn ?_;refine ai (h':=[]++[HO.o (.cells [.int .i64 y,.int .i64 y',.int .i64 x,.int .i64 x',.int .i64 q,.int .i64 q'] 2 true)]) (UU (l:=[(y,y'),(x,x'),(q,q')]) ?_ (by simp)) ?_
 ·exact vY (h:=[]) (e:=2) (enc:=N8) (l:=[(y,y'),(x,x'),(q,q')]) JK (by rfl)
 ·simp(disch:=omega)only[↓po];rfl
def Fp(n:Int):Tk:=[.int .i64 n]
def or_c{h:HL}{x:Value}{l:TA}(e:LsH h x 1 Fp l)(k:l.length<=1000) :
  aD cc ab 29 [.v x] (ka aa h) [.i (CN l)] (ka aa h):=by
 exact xK x29 (oo e.good ua) (by
  unfold f29;simp only[xp];refine jn ?_;refine bz e ?_;refine cG l.length (λj=>CN l=CN (l.drop j)) (j0:=0) rfl (AF _) rfl ?_;intro j m c g b;refine jn ?_;by_cases a:j<l.length
  ·rw[au a];refine jn ?_;obtain⟨p,f⟩:=aG a;refine aP e rfl f ?_;rw[show Fp p=[.int .i64 p]from rfl];refine jn ?_;rw[xR f]at c;by_cases d:p=0
   ·rw[AJ d];refine jn ?_;rw[aI (by omega)];rw[mc d]at c;exact b a c
   ·rw[AQ d];refine jn ?_;rw[ra d]at c;exact⟨by rw[c],by trivial⟩
  ·obtain rfl:j=l.length:=by omega
   rw[ao (Ah _)];refine jn ?_;refine⟨?_,by trivial⟩;rw[c,RW (Ah _)];rfl)
def Bs(a b:Cl):Int:=CN [Ad a.2.1 b.2.1,Ad a.1 b.1,Ad (Int.ofNat a.2.2) (Int.ofNat b.2.2)]
def SZ(a b:Nat):Ad (Int.ofNat a) (Int.ofNat b)=if a<b then -1 else if b<a then 1 else 0:=by
 unfold Ad;by_cases h:a<b
 ·rw[mc (show Int.ofNat a<Int.ofNat b from qbh.2 h),mc h]
 ·rw[ra (show ¬Int.ofNat a<Int.ofNat b from λe=>h (qbh.1 e)),ra h];by_cases h:b<a
  ·rw[mc (show Int.ofNat b<Int.ofNat a from qbh.2 h),mc h]
  ·rw[ra (show ¬Int.ofNat b<Int.ofNat a from λe=>h (qbh.1 e)),ra h]
def Jt(a b:Cl):0<Bs a b↔Bc a b=true:=by
 obtain⟨x,y,q⟩:=a;obtain⟨u,v,r⟩:=b;rw[zg];unfold Bs;simp only[CN,SZ];unfold Ad;split<;>split<;>(try split)<;>(try split)<;>(try split)<;>(try split)<;>(try split)<;>(try split)<;>(try split)<;>omega
def tR(a b:Cl):Bs a b<0↔Bc b a=true:=by
 obtain⟨x,y,q⟩:=a;obtain⟨u,v,r⟩:=b;rw[zg];unfold Bs;simp only[CN,SZ];unfold Ad;split<;>split<;>(try split)<;>(try split)<;>(try split)<;>(try split)<;>(try split)<;>(try split)<;>(try split)<;>omega
def jE{a b:Cl}(c:a.2.2<4)(d:b.2.2<4):Cc 30 (As a++As b) [.i (Bs a b)]:=
 G3 (x:=a.1) (y:=a.2.1) (q:=Int.ofNat a.2.2) (x':=b.1) (y':=b.2.1) (q':=Int.ofNat b.2.2) ⟨B8 _,by show(a.2.2:Int)<=255;omega⟩ ⟨B8 _,by show(b.2.2:Int)<=255;omega⟩
def U4{q e:Nat}(b:q<4)(a:e<3):mI T0 4 [(Int.ofNat q,17),(Int.ofNat e,3)] 3=some [.int .i64 (AP (0,0,q) e).1,.int .i64 (AP (0,0,q) e).2.1,.int .u8 (Int.ofNat (AP (0,0,q) e).2.2)]:=by
 obtain rfl|rfl|rfl|rfl:q=0∨q=1∨q=2∨q=3:=by omega
 all_goals obtain rfl|rfl|rfl:e=0∨e=1∨e=2:=by omega
 all_goals kernel_rfl
def Pn{c:Cl}{e:Nat}(a:c.2.2<4)(d:e<3):AP c e=((AP (0,0,c.2.2) e).1+c.1,(AP (0,0,c.2.2) e).2.1+c.2.1,(AP (0,0,c.2.2) e).2.2)/\-1<=(AP (0,0,c.2.2) e).1/\(AP (0,0,c.2.2) e).1<=1/\-1<=(AP (0,0,c.2.2) e).2.1/\(AP (0,0,c.2.2) e).2.1<=1:=by
 obtain⟨x,y,q⟩:=c;simp only at a;have b:e=0∨e=1∨e=2:=by omega
 rcases BR a with rfl|rfl|rfl|rfl<;>rcases b with rfl|rfl|rfl
 all_goals
  simp[AP]
  try omega
def ngA_c{c:Cl}{e:Nat}(k:c.2.2<4)(m:e<3)(l:-4096<=c.1/\c.1<=4096/\-4096<=c.2.1/\c.2.1<=4096):Cc 51 (As c++[.i (Int.ofNat e)]) (if Ek (AP c e)then As (AP c e)++[.i 0]else [.i 0,.i 0,.i 0,.i 3]):=by
 have b:=wQ (c:=c) ⟨l.1,l.2.1,l.2.2.1,l.2.2.2,k⟩;have a:=wP (c:=AP c e) (zu k m).1;have n:=U4 k m;obtain⟨f,p,q,r,s⟩:=Pn k m;generalize AP (0,0,c.2.2) e=d at *;rw[f]at a ⊢;have g:Cf 4 (Int.ofNat c.2.2)=some ():=by
  rcases BR k with h|h|h|h<;>rw[h]<;>rfl
 have j:Cf 3 (Int.ofNat e)=some ():=by
  have o:e=0∨e=1∨e=2:=by omega
  rcases o with h|h|h<;>rw[h]<;>rfl
 refine q51 rfl ?_;unfold VI;simp only[xp];simp only[As,AO,AG]at b a ⊢;refine jn ?_;refine ah b ?_;refine jn ?_;rw[Ag (show Int.ofNat e<=2 by show(e:Int)<=2;omega)];refine jn ?_;refine ae g ?_;refine ae j ?_;refine ae n ?_;refine jn ?_;refine ah a ?_;cases Ek (d.1+c.1,d.2.1+c.2.1,d.2.2)with
 |true=>simp(disch:=omega)only[↓po,if_true];rfl
 |false=>simp(disch:=omega)only[↓po,if_false,Bq]
end Go.Am
namespace Go.Am
namespace Sx
section
variable [Val] [Kno] {C:Cfg} {Sg:Tc} {T:Tq}
variable {κ:Type} [DecidableEq κ] (kc:κ->Tk) {kk:TE} (hd:∀a b,Ak kk (kc a) (kc b)=some (decide (a=b)))
include hd
theorem J9(k:κ):∀ {a:Th} {ks:List κ} (i:Nat),a.map (·.key)=ks.map (λk=>.agg ⟨kc k⟩)->iW kk (kc k) a i=some ((ks.idxOf? k).map (i + ·))
 | [],[],i,_=>rfl
 | [],_ :: _,i,h=>by simp at h
 |_ :: _,[],i,h=>by simp at h
 |e :: a,q :: ks,i,h=>by
  simp only[A5,Dt]at h;have d:=J9 k (i+1) h.2;have c:iW kk (kc k) (e :: a) i=if k=q then some (some i)else iW kk (kc k) a (i+1):=by
   simp only[iW,h.1];rw[hd];by_cases b:k=q<;>simp[b]
  rw[c,List.idxOf?_cons];by_cases b:k=q
  ·subst b;simp
  ·rw[ra b,d,ra (by simp;exact λe=>b e.symm),Option.map_map]
   congr 2
   funext j
   simp only[Function.comp];omega
variable {kt:TJ} (h1:Ao C.P kt=some true) (h2:flatK C.P 10000 kt=some kk) (h3:∀a,∃r,gK kk (kc a) (kc a)=some r)
include h1 h2 h3
omit hd in
theorem Rx(k:κ):DV C.P kt (.agg ⟨kc k⟩)=true:=by
 obtain⟨r,a⟩:=h3 k;unfold DV;simp only[h1,h2,a]
omit h3 hd in
theorem J8(k:κ){a:Th}{r:To}(b:iW kk (kc k) a 0=some r):ug C.P kt (.agg ⟨kc k⟩) a=some r:=by
 unfold ug;simp only[h1,h2,nh,b]
end
end Sx
namespace Sx
section
variable [Val] [Kno] {C:Cfg} {Sg:Tc} {T:Tq}
variable {κ:Type} [DecidableEq κ] (kc:κ->Tk) {kk:TE} (hd:∀a b,Ak kk (kc a) (kc b)=some (decide (a=b)))
def MapV(h:HL)(id:Nat)(b:List (κ×Value)):Prop:=∃a c,h[id]?=some (.o (.map a c))/\a.map (λe=>(e.key,e.val))=b.map λp=>(.agg ⟨kc p.1⟩,p.2)
def MapV.keep{h h':HL}{id:Nat}{a:List (κ×Value)}(g:MapV kc h id a)(f:∀o,h[id]?=some o->h'[id]?=some o):MapV kc h' id a:=by
 obtain⟨b,c,d,e⟩:=g;exact⟨b,c,f _ d,e⟩
def MapV.lt{h:HL}{id:Nat}{d:List (κ×Value)}(b:MapV kc h id d):id<h.length:=by
 obtain⟨e,c,a,_⟩:=b;exact al a
def MapV.keys{a:Th}{b:List (κ×Value)}(h:a.map (λe=>(e.key,e.val))=b.map λp=>(.agg ⟨kc p.1⟩,p.2)):a.map (·.key)=(b.map Prod.fst).map λk=>.agg ⟨kc k⟩:=by
 have:=congrArg (List.map Prod.fst) h;rw[Ep,Ep]at this;rw[Ep];exact this
variable {kt:TJ} (h1:Ao C.P kt=some true) (h2:flatK C.P 10000 kt=some kk) (h3:∀a,∃r,gK kk (kc a) (kc a)=some r)
include hd h1 h2 h3
theorem R6{h:HL}{id:Nat}{a:List (κ×Value)}{z:Value}{K:Te}(F:MapV kc h id a)(k:κ){v:Value}(H:v = .agg ⟨kc k⟩)(I:∀cs,z≠.agg cs)(E:∀p∈a,∀cs,p.2≠.agg cs)
  (h0:k∉a.map Prod.fst->K [z]) (D:∀(i:Nat) u,a[i]?=some (k,u)->K [u]) :
  (PH C Sg T).peek (.fn (DZ C kt false z (.map (some id)) v false)) h (@hid _ ⟨K⟩):=by
 subst H;obtain⟨b,c,x,g⟩:=F;have r:∀u:Value,(∀cs,u≠.agg cs)->gS false u=some [u]:=λu G=>by
  unfold gS;cases u<;>first|rfl|exact absurd rfl (G _)
 have f:∃cs,DZ C kt false z (.map (some id)) (.agg ⟨kc k⟩) false (zz T h)=some cs/\K cs:=by
  unfold DZ;rw[Rx kc h1 h2 h3 k];simp only[BS,Bq,if_false];rw[xz x];simp only;rw[J8 kc h1 h2 k (J9 kc hd k 0 (MapV.keys kc g))];cases t:(a.map Prod.fst).idxOf? k with
  |none=>
   refine⟨[z],?_,h0 (qdO.1 t)⟩;simp[r z I]
  |some j=>
   obtain⟨B,m,_⟩:=List.idxOf?_eq_some_iff.1 t;have w:b.length=a.length:=by
    have:=congrArg List.length g;simpa using this
   have l:j<a.length:=by simpa using B
   have s:b[j]?=some (b[j]'(by omega)):=Be _;have d:a[j]?=some a[j]:=Be _;have q:(b.map (λe=>(e.key,e.val)))[j]?=(a.map λp=>((.agg ⟨kc p.1⟩ : Value),p.2))[j]?:=by rw[g]
   rw[AX,AX,s,d]at q;have y:(b[j]'(by omega)).val=a[j].2:=by
    have:=AR q;exact congrArg Prod.snd this
   have o:fF b j=some a[j].2:=by
    unfold fF;rw[s];simp[y]
   have n:a[j].1=k:=by simpa using m
   refine⟨[a[j].2],?_,D j _ (by rw[d,←n])⟩;simp only[BP,BT];rw[o];simp[r _ (E _ (qdj l))]
 obtain⟨cs,e,A⟩:=f;exact fG e A
theorem r_muV{h:HL}{id:Nat}{b:List (κ×Value)}{u:Value}{K:Ta}(j:MapV kc h id b)(k:κ)(i:k∉b.map Prod.fst){v:Value}(l:v = .agg ⟨kc k⟩)(g:∀o,MapV kc (h.set id o) id (b++[(k,u)])->K [] (h.set id o)) :
  (PH C Sg T).heap (.fn (HX C kt (.map (some id)) v u)) h (@hid _ ⟨K⟩):=by
 subst l;obtain⟨f,c,d,e⟩:=j;have a:(Hp.fn (HX C kt (.map (some id)) (.agg ⟨kc k⟩) u)).run (zz T h) h.length=some ([.set id (.map (f++[{ key:=.agg ⟨kc k⟩,val:=u,born:=c }]) (c+1))],[]):=by
  show HX C kt (.map (some id)) (.agg ⟨kc k⟩) u (zz T h) h.length=_;unfold HX;simp only;rw[Rx kc h1 h2 h3 k];simp only[BS,Bq,if_false];rw[xz d];simp only;rw[J8 kc h1 h2 k (J9 kc hd k 0 (MapV.keys kc e)),qdO.2 i];rfl
 exact ce a (g _ ⟨_,_,C2 (al d),by simp[e]⟩)
end
section
variable [Val] [Kno] {C:Cfg} {T:Tq}
abbrev K6:=K3×K3
def Fi(k:K6):Tk:=XV k.1++XV k.2
abbrev kk6:TE:=[.i .i64,.i .i64,.i .u8,.i .i64,.i .i64,.i .u8]
def EC(a b:K6):Ak kk6 (Fi a) (Fi b)=some (decide (a=b)):=by
 have p:dG .i64 .i64=true:=rfl;have q:dG .u8 .u8=true:=rfl;obtain⟨⟨g,i,c⟩,j,k,d⟩:=a;obtain⟨⟨l,m,e⟩,n,o,f⟩:=b;simp only[Fi,XV,AO,AG,Ak,p,q,rI,PZ];have r:decide (Int.ofNat c=Int.ofNat e)=decide (c=e):=decide_eq_decide.2 ⟨λh=>Du h,λh=>by rw[h]⟩;have e4:decide (Int.ofNat d=Int.ofNat f)=decide (d=f):=decide_eq_decide.2 ⟨λh=>Du h,λh=>by rw[h]⟩;rw[r,e4];by_cases s:g=l<;>by_cases t:i=m<;>by_cases u:c=e<;>by_cases v:j=n<;>by_cases w:k=o<;>by_cases x:d=f<;>simp[s,t,u,v,w,x]
def vE(a:K6):∃r,gK kk6 (Fi a) (Fi a)=some r:=by
 have b:dG .i64 .i64=true:=rfl;have c:dG .u8 .u8=true:=rfl;simp only[Fi,XV,AO,AG,gK,b,c,rI];exact⟨_,rfl⟩
end
end Sx
end Go.Am
namespace Go.Am
open Sx Go.Proofs
def O9(c:B3)(a b:Int):Bool:=decide (c.1<a)||(decide (c.1=a)&&decide (c.2.1<b))
def lj{c:B3}{a b:Int}:O9 c a b=true↔c.1<a∨(c.1=a/\c.2.1<b):=by
 simp only[O9,Cz,wa,BQ]
def PC{c:B3}{a b:Int}(h:0<=c.1/\c.1<=1000/\0<=a/\a<=1000/\0<=c.2.1/\c.2.1<=255/\0<=b/\b<=255):∃d:Int,Cc 127 [.i c.1,.i c.2.1,.i a,.i b] [.i d]/\(d<0↔O9 c a b=true)/\(d=0↔c.1=a/\c.2.1=b):=by
 by_cases e:c.1=a
 ·refine⟨c.2.1 - b,?_,by rw[lj];omega,by omega⟩;refine PW rfl ?_;unfold DR;simp only[xp];simp(disch:=omega)only[↓po]
 ·refine⟨c.1 - a,?_,by rw[lj];omega,by omega⟩;refine PW rfl ?_;unfold DR;simp only[xp];simp(disch:=omega)only[↓po]
def Fz{c:B3}{a b:Int}(h:0<=c.1/\c.1<=1000/\0<=a/\a<=1000/\0<=c.2.1/\c.2.1<=255/\0<=b/\b<=255):∃d:Int,Cc 175 [.i c.1,.i c.2.1,.i c.2.2,.i a,.i b] [.i d]/\(d<0↔O9 c a b=true)/\(d=0↔c.1=a/\c.2.1=b):=by
 obtain⟨d,g,e,f⟩:=PC h;refine⟨d,?_,e,f⟩;refine q175 rfl ?_;unfold J3;simp only[xp]
 repeat (first|simp(disch:=omega)only[↓po]|refine ah (yF c) ?_|refine ah g ?_)
abbrev X1:Value:=.func (.func 175) ⟨[]⟩ ⟨[]⟩
def T3:aC X1=true:=rfl
def UX{a:Int}{K:Ts}(h0:0<=a)(f:K (a / 2)):P1.shf .shr .u64 a .u64 1 (@hid _ ⟨K⟩):=by
 refine s_shf (wp 0) (K:=λn=>if n=a / 2 then yes else none) (λn b=>?_) ?_
 ·by_cases e:n=a / 2
  ·rw[e];exact f
  ·simp only[ra e]at b;cases b
 ·have c:∀(K:Int->RT),(BA ab aa (Eh 0)).shf .shr .u64 a .u64 1 K=Md .shr .u64 a .u64 1 K:=λ_=>rfl;rw[c];have d:O2 0 1=true:=rfl;unfold Md;rw[d];simp only;rw[jJ];have:a.fdiv (2 ^ min (1:Int).toNat IntKind.u64.bits)=a / 2:=by
   show a.fdiv 2=a / 2;exact Int.fdiv_eq_ediv_of_nonneg a (by omega)
  rw[this,mc rfl]
def oU{a:Int}{K:Ts}(h1:0<=a)(c:a<=9223372036854775807)(b:K a):P1.conv .u64 a (@hid _ ⟨K⟩):=by
 show K (IntKind.wrap .u64 a);have:IntKind.wrap .u64 a=a:=by
  simp only[IntKind.wrap,IntKind.bits,IntKind.signed,qd3,Bq,if_false];omega
 rw[this];exact b
def EZ(c:B3):Prop:=0<=c.1/\c.1<=1000/\0<=c.2.1/\c.2.1<=255/\0<=c.2.2/\c.2.2<=255
def At(l:Ty)(a b:Int)(i:Nat):Prop:=i<=l.length/\(∀(k:Nat) c,l[k]?=some c->k<i->O9 c a b=true)/\∀(k:Nat) c,l[k]?=some c->i<=k->O9 c a b=false
def Cg(l:Ty)(a b:Int)(i:Nat):Bool:=match l[i]? with
 |some c=>decide (c.1=a)&&decide (c.2.1=b)
 |none=>false
def I5{l:Ty}(h:Ce l=true):∀(n i:Nat) a b,l[i]?=some a->l[i+n+1]?=some b->Do a b=true
 |0,i,a,b,e,d=>iJ.1 h i a b e d
 |n+1,i,a,b,e,d=>by
  obtain⟨c,f⟩:=aG (l:=l) (i:=i+n+1) (by have:=al d;omega);have g:=I5 h n i a c e f;have j:=iJ.1 h (i+n+1) c b f (by rw[show i+n+1+1=i+(n+1)+1 by omega];exact d);simp only[Do,Cz,wa,BQ]at g j ⊢;omega
def Eu{l:Ty}(h:Ce l=true){i j:Nat}{a b:B3}(e:i<j)(c:l[i]?=some a)(d:l[j]?=some b):Do a b=true:=
 I5 h (j - i - 1) i a b c (by rw[show i+(j - i - 1)+1=j by omega];exact d)
def XR{h:HL}{x:Value}{l:Ty}(z:LsH h x 3 Ac l)(y:∀c∈l,EZ c)(U:l.length<=1000)(p:Ce l=true){a b:Int}(V:0<=a/\a<=1000/\0<=b/\b<=255) :
  ∃i:Nat,At l a b i/\aD cc ab 174 [.v x,.i a,.i b,.v X1] (ka aa h) [.i (Int.ofNat i),.b (Cg l a b i)] (ka aa h):=by
 obtain⟨N,s,P,i,rfl,rfl,Q⟩:=x174 (K:=λN s=>∃i:Nat,N=[.i (Int.ofNat i),.b (Cg l a b i)]/\s=h/\At l a b i) (H:=h) (oo z.good (km (km (oo T3 ua)))) (by
  unfold OJ;simp only[xp];refine jn ?_;refine bz z ?_;refine eU (m:=l.length) (λm M s=>∃i j:Nat,M=[.i (Int.ofNat i),.i (Int.ofNat j)]/\s=h/\i<=j/\j<=l.length/\m=j - i/\(∀(k:Nat) c,l[k]?=some c->k<i->O9 c a b=true)/\∀(k:Nat) c,l[k]?=some c->j<=k->O9 c a b=false) ⟨0,l.length,rfl,rfl,by omega,by omega,by omega,λk c _ y=>by omega,λk c f y=>by have:=al f;omega⟩ ?_;rintro m M s ⟨i,j,rfl,rfl,T,w,rfl,o,n⟩ O g;refine HH ?_;refine jn ?_;by_cases G:i<j
  ·rw[au G];refine jn ?_;rw[Cr (by show -9223372036854775808<=(i:Int)+j;omega) (by show(i:Int)+j<=9223372036854775807;omega)];refine oU (by show 0<=(i:Int)+j;omega) (by show(i:Int)+j<=9223372036854775807;omega) ?_;refine UX (by show 0<=(i:Int)+j;omega) ?_;have u:(Int.ofNat i+Int.ofNat j) / 2=Int.ofNat ((i+j) / 2):=by simp
   rw[u];rw[Lr (by show -9223372036854775808<=(((i+j) / 2:Nat):Int);omega) (by show(((i+j) / 2:Nat):Int)<=9223372036854775807;omega)];obtain⟨c,f⟩:=aG (l:=l) (i:=(i+j) / 2) (by omega);have I:=y c (Ap f);unfold EZ at I;refine aP z rfl f ?_;unfold Ac;refine jn ?_;obtain⟨d,D,B,C⟩:=Fz (c:=c) (a:=a) (b:=b) (by omega);refine ju (mV (D _) rfl [.agg [.i .i64 c.1,.i .u8 c.2.1,.i .u8 c.2.2],.agg [.i .i64 a,.i .u8 b]] rfl rfl) ?_;refine jn ?_;by_cases t:d<0
   ·have L:=B.1 t;refine jn ?_;rw[aI (by omega)];refine jn ?_;refine g (j - ((i+j) / 2+1)) _ _ (by omega) ⟨(i+j) / 2+1,j,rfl,rfl,by omega,w,rfl,λk e r F=>?_,n⟩;rcases Bu k ((i+j) / 2)with q|q
    ·have:=Eu p q r f;rw[lj]at L ⊢;simp only[Do,Cz,wa,BQ]at this;omega
    ·obtain rfl:k=(i+j) / 2:=by omega
     rw[f]at r;cases r;exact L
   ·have J:O9 c a b=false:=by
     rw[←CO];intro S;exact t (B.2 S)
    refine jn ?_;refine g ((i+j) / 2 - i) _ _ (by omega) ⟨i,(i+j) / 2,rfl,rfl,by omega,by omega,rfl,o,λk e r F=>?_⟩;rcases Bu ((i+j) / 2) k with q|q
    ·have:=Eu p q f r;rw[←CO,lj]at J ⊢;simp only[Do,Cz,wa,BQ]at this;omega
    ·obtain rfl:k=(i+j) / 2:=by omega
     rw[f]at r;cases r;exact J
  ·obtain rfl:i=j:=by omega
   rw[ao (Ah _)];refine jn ?_;by_cases E:i<l.length
   ·rw[au E];refine jn ?_;obtain⟨c,f⟩:=aG E;have I:=y c (Ap f);unfold EZ at I;refine aP z rfl f ?_;unfold Ac;refine jn ?_;obtain⟨d,D,B,C⟩:=Fz (c:=c) (a:=a) (b:=b) (by omega);refine ju (mV (D _) rfl [.agg [.i .i64 c.1,.i .u8 c.2.1,.i .u8 c.2.2],.agg [.i .i64 a,.i .u8 b]] rfl rfl) ?_;refine jn ?_;by_cases A:d=0
    ·have:=C.1 A;rw[Aq A];refine jn ?_;exact⟨i,by simp[Cg,f,this.1,this.2],by trivial,w,o,n⟩
    ·have R:¬(c.1=a/\c.2.1=b):=λq=>A (C.2 q);rw[Ai A];refine jn ?_;refine⟨i,?_,by trivial,w,o,n⟩;have:Cg l a b i=false:=by
      simp only[Cg,f];rw[←CO];simpa using R
     rw[this]
   ·rw[ao (by omega)];refine jn ?_;refine⟨i,?_,by trivial,w,o,n⟩;have:Cg l a b i=false:=by
     simp only[Cg,Bp (Nat.not_lt.1 E)]
    rw[this])
 exact⟨i,Q,P⟩
def TY{h:HL}{x:Value}{l:Ty}(f:LsH h x 3 Ac l)(n:∀c∈l,EZ c)(o:l.length<=1000)(d:Ce l=true){a b:Int}(p:0<=a/\a<=1000/\0<=b/\b<=255) :
  ∃i:Nat,At l a b i/\aD cc ab 138 [.v x,.i a,.i b] (ka aa h) [.i (Int.ofNat i),.b (Cg l a b i)] (ka aa h):=by
 obtain⟨i,m,k⟩:=XR f n o d p;obtain⟨g,e,j,rfl,rfl⟩:=x138 (K:=λg e=>g=[.i (Int.ofNat i),.b (Cg l a b i)]/\e=h) (H:=h) (oo f.good (km (km ua))) (by
  unfold OD;simp only[xp]
  repeat (first|simp(disch:=omega)only[↓po]|refine ai k ?_)
  trivial)
 exact⟨i,m,j⟩
def Hn(a b:Int)(c:B3):Bool:=decide (c.1=a)&&decide (c.2.1=b)
def jT(l:Ty)(a b:Int):Int:=match l.find? (Hn a b)with
 |some c=>c.2.2
 |none=>0
def O1{l:Ty}{a b:Int}{i:Nat}(h:At l a b i)(f:Ce l=true):(Cg l a b i=true->∃c,l[i]?=some c/\jT l a b=c.2.2)/\(Cg l a b i=false->jT l a b=0):=by
 obtain⟨B,x,y⟩:=h;have m:∀(k:Nat) c,l[k]?=some c->Hn a b c=true->k=i:=by
  intro k c g n;simp only[Hn,wa,BQ]at n;rcases qc7 k i with q|q|q
  ·have:=x k c g q;rw[lj]at this;omega
  ·exact q
  ·obtain⟨d,t⟩:=aG (l:=l) (i:=i) (by have:=al g;omega);have v:=Eu f q t g;have w:=y i d t (Ah _);rw[←CO,lj]at w;simp only[Do,Cz,wa,BQ]at v;omega
 have j:Cg l a b i=true↔∃c,l[i]?=some c/\Hn a b c=true:=by
  unfold Cg Hn;cases e:l[i]? with
  |none=>simp
  |some c=>simp
 unfold jT;cases o:l.find? (Hn a b)with
 |none=>
  have s:=qdD.1 o;constructor
  ·intro z;obtain⟨c,g,n⟩:=j.1 z;exact absurd n (s c (Ap g))
  ·intro _;rfl
 |some c=>
  have u:=List.find?_some o;obtain⟨k,p⟩:=BK (qcR o);have r:=m k c p u;subst r;constructor
  ·intro _;exact⟨c,p,rfl⟩
  ·intro A;have:=j.2 ⟨c,p,u⟩;rw[A]at this;cases this
structure Pat(w v:Nat)(l:Ty):Prop where
 sheet:1<=w/\w<=5/\1<=v/\v<=5
 rng:∀c∈l,EZ c
 len:l.length<=1000
 ok:CS (.ofNat w) (.ofNat v) l=0
def Pat.sm{w v:Nat}{l:Ty}(h:Pat w v l):DB (.ofNat w) (.ofNat v):=by
 have:=h.sheet;unfold DB;simp only[Eo];omega
def Pat.asc{w v:Nat}{l:Ty}(h:Pat w v l):Ce l=true:=by
 have:=h.ok;unfold CS at this;split at this
 ·cases this
 ·split at this
  ·cases this
  ·split at this
   ·assumption
   ·cases this
def Pat.check{w v:Nat}{l:Ty}(h:Pat w v l){H:HL}{x:Value}(b:LsH H x 3 Ac l):aD cc ab 99 [.i (.ofNat w),.i (.ofNat v),.v x] (ka aa H) [.i 0] (ka aa H):=by
 have:=NS h.sm b (λc a=>by
  have:=h.rng c a;unfold EZ at this;unfold okC;omega) (by have:=h.len;omega)
 rw[h.ok]at this;exact this
def Uf{w v:Nat}{l:Ty}(g:Pat w v l){H:HL}{x:Value}(h:LsH H x 3 Ac l){c e n:Nat}(C:c<4*w*v)(D:e<3)(F:Aj w v c e=some n)(G:n<=1000) :
  aD cc ab 68 [.i (.ofNat w),.i (.ofNat v),.v x,.i (.ofNat c),.i (.ofNat e)] (ka aa H) [.i (jT l (.ofNat (min c n)) (.ofNat e)),.i 0] (ka aa H):=by
 have f:=g.sheet;have d:=ER (qY w v f.1 f.2.1 f.2.2.1 f.2.2.2) C D;unfold D2 at d;rw[F]at d;simp only at d;obtain⟨i,E,q⟩:=TY h g.rng g.len g.asc (a:=.ofNat (min c n)) (b:=.ofNat e) (by simp only[Eo];omega);obtain⟨I,J⟩:=O1 E g.asc;obtain⟨m,j,s,z,A⟩:=x106 (K:=λm j=>m=[.i (.ofNat (min c n)),.i (.ofNat e),.i (.ofNat i),.b (Cg l (.ofNat (min c n)) (.ofNat e) i),.i 0]/\j=H) (H:=H) (km (km (oo h.good (km (km ua))))) (by
  unfold Ov;simp only[xp]
  repeat (first|simp(disch:=omega)only[↓po]|refine ai (g.check h) ?_|refine ah d ?_|refine ai q ?_)
  trivial)
 rw[z,A]at s;obtain⟨L,M,t,B,e4⟩:=x68 (K:=λm j=>m=[.i (jT l (.ofNat (min c n)) (.ofNat e)),.i 0]/\j=H) (H:=H) (km (km (oo h.good (km (km ua))))) (by
  unfold f68;simp only[xp]
  repeat (first|simp(disch:=omega)only[↓po]|refine ai s ?_)
  cases u:Cg l (.ofNat (min c n)) (.ofNat e) i with
  |false=>
   simp(disch:=omega)only[↓po,CI];rw[J u];trivial
  |true=>
   obtain⟨y,p,r⟩:=I u
   repeat (first|simp(disch:=omega)only[↓po,BS]|refine bN (o:=2) (k:=1) (cs:=[.int .u8 y.2.2]) h rfl p rfl (by omega) ?_)
   rw[r];trivial)
 rw[B,e4]at t;exact t
abbrev Pq:=Nat×Nat
abbrev Lq:=Nat×Nat×Nat
def fe(p:Pq):Tk:=[.int .i64 (Int.ofNat p.1),.int .i64 (Int.ofNat p.2)]
def fP(p:Lq):Tk:=[.int .u8 (Int.ofNat p.1),.int .i64 (Int.ofNat p.2.1),.int .i64 (Int.ofNat p.2.2)]
def ff(p:Pq):(fe p).length=2:=rfl
def cF(p:Lq):(fP p).length=3:=rfl
def nV(k:K6):Tk:=Fi k
def fO(k:K6):(nV k).length=6:=rfl
structure En where
 a:Cl
 b:Cl
 id:Nat
 vp:Value
 vl:Value
 ve:Value
 ps:List Pq
 ls:List Lq
 es:List Nat
def aH(q:En):Tk:=bu q.a++bu q.b++[q.vp,q.vl,q.ve]
structure EnH(n1:Nat)(h:HL)(q:En):Prop where
 idn:n1<=q.id
 bl:h[q.id]?=some (.o (.cells (aH q) 9 true))
 op:OwnL n1 h q.vp 2 fe q.ps
 ol:OwnL n1 h q.vl 3 fP q.ls
 oe:OwnL n1 h q.ve 1 kl q.es
def aprt(p q:En):Prop:=p.id≠q.id/\∀b,(blk p.vp=some b->blk q.vp≠some b)/\(blk p.vl=some b->blk q.vl≠some b)/\(blk p.ve=some b->blk q.ve≠some b)
theorem aprt.symm{p q:En}(h:aprt p q):aprt q p:=⟨B9 h.1,λb=>⟨λa c=>(h.2 b).1 c a,λa c=>(h.2 b).2.1 c a,λa c=>(h.2 b).2.2 c a⟩⟩
def Ab(q:En):K6:=(q.a,q.b)
structure BC where
 w:Nat
 v:Nat
 xc:Value
 pl:Value
 im:Value
 hg:Value
 bm:Nat
 mm:Nat
 n1:Nat
def bC(c:BC)(a:Value):Tk:=[.int .i64 (Int.ofNat c.w),.int .i64 (Int.ofNat c.v),c.xc,c.pl,c.im,c.hg,.map (some c.mm),a]
structure Bld(c:BC)(hS h:HL)(kv:Value)(Q:List En):Prop where
 low:∀(j:Nat) o,j<c.n1->j≠c.bm->j≠c.mm->hS[j]?=some o->h[j]?=some o
 bl:h[c.bm]?=some (.o (.cells (bC c kv) 8 true))
 mp:∃ps,ps.Perm (Q.map λq=>(Ab q,te q.id))/\MapV Fi h c.mm ps
 ky:OwnL c.n1 h kv 6 nV (Q.map Ab)
 en:∀q∈Q,EnH c.n1 h q
 ap:Q.Pairwise aprt
 nd:(Q.map Ab).Nodup
 bn:c.bm<c.n1
 mn:c.mm<c.n1
 ne:c.bm≠c.mm
 sz:c.n1<=h.length
def EnH.keep{e:Nat}{h h':HL}{q:En}(c:EnH e h q)(d:∀(j:Nat) o,h[j]?=some o->(j=q.id∨blk q.vp=some j∨blk q.vl=some j∨blk q.ve=some j)->h'[j]?=some o):EnH e h' q:=
 ⟨c.idn,d _ _ c.bl (.inl rfl),c.op.keep λj o b a=>d j o b (.inr (.inl a)),c.ol.keep λj o b a=>d j o b (.inr (.inr (.inl a))),c.oe.keep λj o b a=>d j o b (.inr (.inr (.inr a)))⟩
def CD(q:En)(j:Nat):Prop:=j=q.id∨blk q.vp=some j∨blk q.vl=some j∨blk q.ve=some j
def EnH.lt{c:Nat}{h:HL}{q:En}(b:EnH c h q){j:Nat}(a:CD q j):c<=j/\j<h.length:=by
 rcases a with rfl|a|a|a
 ·exact⟨b.idn,al b.bl⟩
 ·exact b.op.blk a
 ·exact b.ol.blk a
 ·exact b.oe.blk a
def DC(h:HL)(j:Nat):To:=match h[j]? with
 |some (.o (.cells _ e _))=>some e
 |_=>none
def cQ{α:Type}{n0 e:Nat}{enc:α->Tk}{l:List α}{h:HL}{v:Value}(d:OwnL n0 h v e enc l){j:Nat}(a:blk v=some j):DC h j=some e:=by
 rcases d with⟨rfl,_⟩|⟨id,f,rfl,g,c,_⟩
 ·cases a
 ·have b:id=j:=by simpa[blk]using a
  subst b;unfold DC;rw[c]
def eW{h:HL}{j:Nat}{cs:Tk}{e:Nat}{a:Bool}(b:h[j]?=some (.o (.cells cs e a))):DC h j=some e:=by
 unfold DC;rw[b]
def Bld.grow{c:BC}{f h h':HL}{g:Value}{Q:List En}(a:Bld c f h g Q)(b:Pre h h'):Bld c f h' g Q:=
 ⟨λj o i k l m=>b.get (a.low j o i k l m),b.get a.bl,a.mp.elim λr d=>⟨r,d.1,d.2.keep _ λo n=>b.get n⟩,a.ky.keep λj o e _=>b.get e,λq p=>(a.en q p).keep λj o e _=>b.get e,a.ap,a.nd,a.bn,a.mn,a.ne,by have:=a.sz;have:=b.len;omega⟩
def Bld.new{c:BC}{C h h':HL}{A kv':Value}{Q:List En}(d:Bld c C h A Q){a b:Cl}(F:(a,b)∉Q.map Ab){id:Nat}(hid:h.length<=id)(H:h'[id]?=some (.o (.cells (aH ⟨a,b,id,.slice none 0 0,.slice none 0 0,.slice none 0 0,[],[],[]⟩) 9 true)))
  (G:∃r,r.Perm (Q.map λq=>(Ab q,te q.id))/\MapV Fi h' c.mm (r++[((a,b),te id)])) (w:OwnL c.n1 h' kv' 6 nV (Q.map Ab++[(a,b)])) (u:h'[c.bm]?=some (.o (.cells (bC c kv') 8 true)))
  (g:∀(j:Nat) o,h[j]?=some o->j≠c.bm->j≠c.mm->blk A≠some j->h'[j]?=some o) (J:h.length<=h'.length) :
  Bld c C h' kv' (Q++[⟨a,b,id,.slice none 0 0,.slice none 0 0,.slice none 0 0,[],[],[]⟩]):=by
 have l:∀q∈Q,∀j,CD q j->j≠c.bm/\j≠c.mm/\blk A≠some j:=λq f j i=>by
  have B:=(d.en q f).lt i;have s:=d.bn;have t:=d.mn;refine⟨by omega,by omega,λe=>?_⟩;have k:=cQ d.ky e;have n:=d.en q f;rcases i with rfl|i|i|i
  ·rw[eW n.bl]at k;cases k
  ·rw[cQ n.op i]at k;cases k
  ·rw[cQ n.ol i]at k;cases k
  ·rw[cQ n.oe i]at k;cases k
 have D:=d.sz;refine⟨λj o B s t E=>g j o (d.low j o B s t E) s t λe=>by
  have:=(d.ky.blk e).1;omega,u,G.elim λr m=>⟨r++[((a,b),te id)],(by rw[CA];exact m.1.append_right _),m.2⟩,by rw[CA];exact w,λq f=>?_,?_,?_,d.bn,d.mn,d.ne,by omega⟩
 ·rcases qar.1 f with f|f
  ·refine(d.en q f).keep λj o i v=>?_;obtain⟨L,M,N⟩:=l q f j v;exact g j o i L M N
  ·rw[qav]at f;subst f;exact⟨by show c.n1<=id;omega,H,.nil _ _ _ _,.nil _ _ _ _,.nil _ _ _ _⟩
 ·rw[U8];refine⟨d.ap,by simp,λp I q f=>?_⟩;rw[qav]at f;subst f;refine⟨?_,λb=>⟨λ_ h=>(by cases h),λ_ h=>(by cases h),λ_ h=>(by cases h)⟩⟩;have:=((d.en p I).lt (.inl rfl)).2;show p.id≠id;omega
 ·rw[CA,qb0];refine⟨d.nd,by simp,λx K y z e=>?_⟩;have z:y=(a,b):=by simpa[Ab]using z
  subst z e;exact F K
def UH{Q:List En}(d:(Q.map Ab).Nodup){q q':En}(h1:q∈Q)(f:q'∈Q)(e:Ab q=Ab q'):q=q':=by
 obtain⟨i,a⟩:=BK h1;obtain⟨j,c⟩:=BK f;have h:(Q.map Ab)[i]?=(Q.map Ab)[j]?:=by
  rw[AX,AX,a,c];simp only[BP,e]
 have b:i=j:=(List.getElem?_inj (by simpa using al a) d).1 h;subst b;rw[a]at c;exact AR c
def NO{m:Nat}{h:HL}{p q:En}(g:EnH m h p)(i:EnH m h q)(l:aprt p q){j:Nat}(b:CD p j):¬CD q j:=by
 intro a;have n:DC h j=some 9/\j=p.id∨DC h j=some 2/\blk p.vp=some j∨DC h j=some 3/\blk p.vl=some j∨DC h j=some 1/\blk p.ve=some j:=by
  rcases b with rfl|b|b|b
  ·exact .inl ⟨eW g.bl,rfl⟩
  ·exact .inr (.inl ⟨cQ g.op b,b⟩)
  ·exact .inr (.inr (.inl ⟨cQ g.ol b,b⟩))
  ·exact .inr (.inr (.inr ⟨cQ g.oe b,b⟩))
 have o:DC h j=some 9/\j=q.id∨DC h j=some 2/\blk q.vp=some j∨DC h j=some 3/\blk q.vl=some j∨DC h j=some 1/\blk q.ve=some j:=by
  rcases a with rfl|a|a|a
  ·exact .inl ⟨eW i.bl,rfl⟩
  ·exact .inr (.inl ⟨cQ i.op a,a⟩)
  ·exact .inr (.inr (.inl ⟨cQ i.ol a,a⟩))
  ·exact .inr (.inr (.inr ⟨cQ i.oe a,a⟩))
 have k:=l.2 j;rcases n with⟨f,c⟩|⟨f,c⟩|⟨f,c⟩|⟨f,c⟩<;>rcases o with⟨e,d⟩|⟨e,d⟩|⟨e,d⟩|⟨e,d⟩
 all_goals first
  |(rw[f]at e;cases e;done)
  |exact l.1 (c.symm.trans d)
  |exact k.1 c d
  |exact k.2.1 c d
  |exact k.2.2 c d
def LQ{R:En->En->Prop}(d:∀ {a b},R a b->R b a):∀ {Q:List En} {i:Nat} {q q':En},Q.Pairwise R->Q[i]?=some q->(∀p∈Q.eraseIdx i,R q p->R q' p)->(Q.set i q').Pairwise R
 | [],_,_,_,_,h,_=>by simp at h
 |a :: Q,0,q,q',e,h,f=>by
  simp at h;subst h;have e:=qba.1 e;exact qba.2 ⟨λp c=>f p c (e.1 p c),e.2⟩
 |a :: Q,i+1,q,q',e,h,f=>by
  simp only[IF]at h;have e:=qba.1 e;refine qba.2 ⟨λp c=>?_,LQ d e.2 h λp c=>f p (by simp[c])⟩;rcases R0 c with c|rfl
  ·exact e.1 p c
  ·exact d (f a (by simp) (d (e.1 q (Ap h))))
def Bld.upd{c:BC}{I h h':HL}{J:Value}{Q:List En}(g:Bld c I h J Q){i:Nat}{q q':En}(w:Q[i]?=some q)(x:Ab q'=Ab q)(hid:q'.id=q.id)(M:EnH c.n1 h' q')
  (u:∀b,(blk q'.vp=some b->blk q.vp=some b∨h.length<=b)/\(blk q'.vl=some b->blk q.vl=some b∨h.length<=b)/\(blk q'.ve=some b->blk q.ve=some b∨h.length<=b))
  (d:∀(j:Nat) o,h[j]?=some o->¬CD q j->h'[j]?=some o) (P:h.length<=h'.length):Bld c I h' J (Q.set i q'):=by
 have H:=Ap w;have l:=g.en q H;have m:∀j,j<c.n1->¬CD q j:=λj A e=>by
  have:=(l.lt e).1;omega
 have A8:∀ {β:Type} (f:En->β),f q'=f q->(Q.set i q').map f=Q.map f:=λf N=>by
  rw[LZ,N];exact bq (by rw[AX,w];rfl)
 have y:(Q.set i q').map Ab=Q.map Ab:=A8 Ab x;have E:((Q.set i q').map λq=>(Ab q,te q.id))=Q.map λq=>(Ab q,te q.id):=A8 (λq=>(Ab q,te q.id)) (by simp only[x,hid]);have v:Q.Perm (q :: Q.eraseIdx i):=by
  have:=dN (a:=q) w
  rwa [bq w]at this
 have G:=qba.1 ((v.pairwise_iff λh=>h.symm).1 g.ap);refine⟨λj o s n K L=>d j o (g.low j o s n K L) (m j s),d _ _ g.bl (m _ g.bn),?_,?_,λp F=>?_,?_,by rw[y];exact g.nd,g.bn,g.mn,g.ne,by have:=g.sz;omega⟩
 ·rw[E];exact g.mp.elim λR z=>⟨R,z.1,z.2.keep _ λo O=>d _ _ O (m _ g.mn)⟩
 ·rw[y];refine g.ky.keep λj o A C=>d j o A λe=>?_;have t:=cQ g.ky C;rcases e with rfl|e|e|e
  ·rw[eW l.bl]at t;cases t
  ·rw[cQ l.op e]at t;cases t
  ·rw[cQ l.ol e]at t;cases t
  ·rw[cQ l.oe e]at t;cases t
 ·have r:=(dN (a:=q') w).mem_iff.1 F;rcases qas.1 r with rfl|r
  ·exact M
  ·have k:=g.en p (v.mem_iff.2 (BF _ r));exact k.keep λj o A D=>d j o A (NO k l (G.1 p r).symm D)
 ·refine LQ (λh=>h.symm) g.ap w λp F B=>?_;have k:=g.en p (v.mem_iff.2 (BF _ F));refine⟨by rw[hid];exact B.1,λb=>⟨λs n=>?_,λs n=>?_,λs n=>?_⟩⟩
  ·rcases(u b).1 s with e|e
   ·exact(B.2 b).1 e n
   ·have:=(k.op.blk n).2;omega
  ·rcases(u b).2.1 s with e|e
   ·exact(B.2 b).2.1 e n
   ·have:=(k.ol.blk n).2;omega
  ·rcases(u b).2.2 s with e|e
   ·exact(B.2 b).2.2 e n
   ·have:=(k.oe.blk n).2;omega
def ej{h:HL}{b e o n:Nat}{cs:Tk}(d:h[b]?=some (.o (.cells cs e true)))(f:o+n<=cs.length):Ptr h (.pointer (some ⟨b,0+o,none⟩)) ((cs.drop o).take n):=by
 obtain⟨p,a,c⟩:=(cU d).fd o n f;have e:Aw o (te b)=some (.pointer (some ⟨b,0+o,none⟩)):=rfl;rw[e]at a;cases a;exact c
def N4{a b o c:Nat}(h:a≠b):Sx.disjN (Sx.adr (.pointer (some ⟨a,o,none⟩))) (Sx.adrK 0 (.pointer (some ⟨b,c,none⟩)))=true:=nQ h
def Bd(x y:Cl):K6:=if Bc x y then(y,x)else(x,y)
def gm(k:K6)(id:Nat):En:=⟨k.1,k.2,id,.slice none 0 0,.slice none 0 0,.slice none 0 0,[],[],[]⟩
def L1{c:BC}{w h:HL}{A:Value}{Q:List En}(m:Bld c w h A Q){k:K6}{i:Nat}{q:En}(o:Q[i]?=some q)(n:Ab q=k){v:Value}(z:v = .agg ⟨Fi k⟩){K:Te}(t:K [te q.id]) :
  P1.peek (.fn (DZ cc 92 false (.pointer none) (.map (some c.mm)) v false)) h (@hid _ ⟨K⟩):=by
 obtain⟨C,g,b⟩:=m.mp;refine R6 Fi EC (by kernel_rfl) (by kernel_rfl) vE b k z (λr e=>by cases e) (λp y r e=>?_) (λx=>?_) λB u a=>?_
 ·obtain⟨j,_,rfl⟩:=qax.1 (g.mem_iff.1 y);cases e
 ·refine absurd ?_ x;refine(g.map Prod.fst).mem_iff.2 ?_;rw[Ep];exact qax.2 ⟨q,Ap o,n⟩
 ·obtain⟨j,d,e⟩:=qax.1 (g.mem_iff.1 (Ap a));have s:Ab j=k:=congrArg Prod.fst e;have l:te j.id=u:=congrArg Prod.snd e;have f:=UH m.nd d (Ap o) (s.trans n.symm);rw[f]at l;rw[←l];exact t
def at_c{c:BC}{P h:HL}{D:Value}{Q:List En}(m:Bld c P h D Q)(hQ:Q.length<=1000){x y:Cl}(hx:x.2.2<4)(hy:y.2.2<4) :
  ∃(h':HL) (kv':Value) (d:List En) (i:Nat) (q:En),aD cc ab 66 ([.v (te c.bm)]++As x++As y) (ka aa h) [.v (te q.id)] (ka aa h')/\Bld c P h' kv' d/\d[i]?=some q/\Ab q=Bd x y/\h.length<=h'.length/\(d=Q∨(Bd x y∉Q.map Ab/\∃id,d=Q++[gm (Bd x y) id])):=by
 have a6:=x66 (ls:=[.v (te c.bm),.i x.1,.i x.2.1,.i (Int.ofNat x.2.2),.i y.1,.i y.2.1,.i (Int.ofNat y.2.2)]) (K:=λrs h'=>∃(kv':Value) (d:List En) (i:Nat) (q:En),rs=[.v (te q.id)]/\Bld c P h' kv' d/\d[i]?=some q/\Ab q=Bd x y/\h.length<=h'.length/\(d=Q∨(Bd x y∉Q.map Ab/\∃id,d=Q++[gm (Bd x y) id]))) (H:=h) (oo (aS _) (km (km (km (km (km (km ua))))))) (by
  unfold f66;simp only[xp];simp (disch:=omega) only[↓Vl,↓R5,↓R4];have cm:=jE hx hy;simp only[As,AO,AG]at cm;refine ah cm ?_;simp (disch:=omega) only[↓Vl,↓R5,↓R4];have hg:=Jt x y;by_cases C:Bc x y=true
  case' pos=>rw[Au (hg.2 C)]
  case' neg=>rw[Ag (Int.not_lt.1 λe=>C (hg.1 e))]
  case' pos=>have hk:Bd x y=(y,x):=mc C
  case' neg=>have hk:Bd x y=(x,y):=ra C
  all_goals
   refine kg (λl h'=>h'=h/\l=[.i (Bd x y).1.1,.i (Bd x y).1.2.1,.i (Int.ofNat (Bd x y).1.2.2),.i (Bd x y).2.1,.i (Bd x y).2.2.1,.i (Int.ofNat (Bd x y).2.2.2)]) ?_ ?_
  case' pos.refine_2=>
   intro jj M;refine jn ?_;exact M _ _ ⟨rfl,by rw[hk]⟩
  case' neg.refine_2=>
   intro jj M;refine jn ?_;exact M _ _ ⟨rfl,by rw[hk]⟩
  all_goals
   rintro l h' ⟨e1,rfl⟩;rw[e1];clear e1;generalize Bd x y=k at *;refine jn ?_;refine dX (ds:=[.map (some c.mm)]) m.bl (by simp[bC]) rfl ?_;refine jn ?_;refine ac rfl ?_;refine pu ?_;have bS:aC (.map (some c.mm))=true:=rfl;have bI:∀kv' d (g:HL),Bld c P g kv' d->g[c.bm]?=some (.o (.cells (bC c kv') 8 true)):=λkv' d g m=>m.bl;have w:∀(g:HL) (kv':Value) (d:List En) (i:Nat) (q:En),Bld c P g kv' d->d[i]?=some q->Ab q=k->h.length<=g.length->(d=Q∨(k∉Q.map Ab/\∃id,d=Q++[gm k id]))->
     P1.opt (Ae (te c.bm)) (@hid _ ⟨λx50=>P1.chk x50 (@hid _ ⟨P1.opt (Aw 6 x50) (@hid _ ⟨λap=>P1.chk ap (@hid _ ⟨P1.peek (.lg cc 1 ap) g (@hid _ ⟨λa7=>P1.ucV a7 (@hid _ ⟨λar a8=>P1.chk ar (@hid _ ⟨P1.uc0 a8 (@hid _ ⟨P1.peek (.fn (DZ cc 92 false (.pointer none) ar (.agg ⟨Fi k⟩) false)) g (@hid _ ⟨λa9=>P1.ucV a9 (@hid _ ⟨λx56 bd=>P1.chk x56 (@hid _ ⟨P1.uc0 bd (@hid _ ⟨∃(kv':Value) (d:List En) (i:Nat) (q:En),[Lf.v x56]=[.v (te q.id)]/\Bld c P g kv' d/\d[i]?=some q/\Ab q=k/\h.length<=g.length/\(d=Q∨(k∉Q.map Ab/\∃id,d=Q++[gm k id]))⟩)⟩)⟩)⟩)⟩)⟩)⟩)⟩)⟩)⟩)⟩)⟩):=by
    intro g kv' d i q f B t a1 a4;refine dX (ds:=[.map (some c.mm)]) f.bl (by simp[bC]) rfl ?_;refine jn ?_;refine ac rfl ?_;refine pu ?_;refine L1 f B t rfl ?_;refine jn ?_;refine ac (aS _) ?_;refine pu ?_;exact⟨kv',d,i,q,rfl,f,B,t,a1,a4⟩
   by_cases s:k∈Q.map Ab
   ·obtain⟨q,a5,t⟩:=qax.1 s;obtain⟨i,Z⟩:=BK a5;refine L1 m Z t rfl ?_;refine jn ?_;refine ac (aS _) ?_;refine pu ?_;refine ae (x:=false) rfl ?_;refine jn ?_;exact w h D Q i q m Z t (Ah _) (.inl rfl)
   obtain⟨b1,ag,U⟩:=m.mp;refine R6 Fi EC (by kernel_rfl) (by kernel_rfl) vE U k rfl (λcs e=>by cases e) (λp hp cs e=>?_) (λ_=>?_) λi' u ay=>?_
   ·obtain⟨q',_,rfl⟩:=qax.1 (ag.mem_iff.1 hp);cases e
   case refine_3=>
    obtain⟨q',B,e⟩:=qax.1 (ag.mem_iff.1 (Ap ay));exact absurd (qax.2 ⟨q',B,congrArg Prod.fst e⟩) s
   refine jn ?_;refine ac rfl ?_;refine pu ?_;refine ae (x:=true) rfl ?_;refine jn ?_;refine ae (x:=te c.bm) rfl (ac (aS _) (ae (x:=.pointer (some ⟨c.bm,0+6,none⟩)) rfl (ac (cP _ _) ?_)));refine cq (ej (o:=6) (n:=1) m.bl (by simp[bC])) rfl ?_;rw[show((bC c D).drop 6).take 1=[.map (some c.mm)]from rfl];refine jn ?_;refine ac rfl ?_;refine pu ?_;have bx:=m.bn;have bX:=m.mn;have b0:=m.sz;have Y:Pre h (h++[HO.o (.cells (aH (gm k h.length)) 9 true)]):=⟨_,rfl⟩;have z:=m.grow Y;obtain⟨be,an,V⟩:=z.mp;have T:(h++[HO.o (.cells (aH (gm k h.length)) 9 true)])[h.length]?=some (.o (.cells (aH (gm k h.length)) 9 true)):=az;refine r_muV Fi EC (by kernel_rfl) (by kernel_rfl) vE (h:=h++[HO.o (.cells (aH (gm k h.length)) 9 true)]) V k (λhm=>s (by have:=(an.map Prod.fst).mem_iff.1 hm;rw[Ep]at this;exact this)) rfl λo a2=>?_;have a0:(h++[HO.o (.cells (aH (gm k h.length)) 9 true)]).length=h.length+1:=by simp
   have G:((h++[HO.o (.cells (aH (gm k h.length)) 9 true)]).set c.mm o)[h.length]?=some (.o (.cells (aH (gm k h.length)) 9 true)):=aW T (by omega);have E:((h++[HO.o (.cells (aH (gm k h.length)) 9 true)]).set c.mm o)[c.bm]?=some (.o (.cells (bC c D) 8 true)):=aW z.bl (B9 m.ne);have r:OwnL c.n1 ((h++[HO.o (.cells (aH (gm k h.length)) 9 true)]).set c.mm o) D 6 nV (Q.map Ab):=z.ky.keep λj O L J=>aW L (by have:=(z.ky.blk J).1;omega);have aE:∀(j:Nat) O,h[j]?=some O->j≠c.mm->((h++[HO.o (.cells (aH (gm k h.length)) 9 true)]).set c.mm o)[j]?=some O:=λj O L a3=>aW (Y.get L) (B9 a3);have bP:((h++[HO.o (.cells (aH (gm k h.length)) 9 true)]).set c.mm o).length=h.length+1:=by rw[Bo,a0]
   generalize (h++[HO.o (.cells (aH (gm k h.length)) 9 true)]).set c.mm o=R at *;refine ae (x:=()) (sZ (N4 (by omega)) lN) ?_;refine ae (x:=te c.bm) rfl (ac (aS _) (ae (x:=.pointer (some ⟨c.bm,0+7,none⟩)) rfl (ac (cP _ _) ?_)));refine cq (ej (o:=7) (n:=1) E (by simp[bC])) rfl ?_;rw[show((bC c D).drop 7).take 1=[D]from rfl];refine jn ?_;refine ac (r.good fO) ?_;refine pu ?_;refine r.ap1 (a:=k) fO (by omega) rfl rfl rfl (by
    unfold bb;rw[A9,Bg (by omega),Bg (by omega)];rfl) ?_
   intro kv' g W ax A bt bs;refine jn ?_;refine ac ax ?_;refine pu ?_;have I:∀b,blk D=some b->c.n1<=b:=λb f=>(r.blk f).1;have F:g[c.bm]?=some (.o (.cells (bC c D) 8 true)):=A _ _ E λe=>by have:=I _ e;omega
   refine ae (x:=te c.bm) rfl (ac (aS _) (ae (x:=.pointer (some ⟨c.bm,0+7,none⟩)) rfl (ac (cP _ _) ?_)));have ad:(Hp.st (.pointer (some ⟨c.bm,0+7,none⟩)) [kv']).run (zz aa g) g.length=some ([.set c.bm (.cells (bC c kv') 8 true)],[]):=by
    show E5 (.pointer (some ⟨c.bm,0+7,none⟩)) [kv'] (zz aa g) g.length=_;unfold E5;simp only;rw[bD F];simp only;unfold splice;rw[mc (by simp[bC])];rfl
   refine ce ad ?_;show P1.opt _ _;have N:∀b,blk kv'=some b->c.n1<=b:=λb f=>(W.blk f).1;have S:=m.new (h':=g.set c.bm (.o (.cells (bC c kv') 8 true))) (kv':=kv') (a:=k.1) (b:=k.2) s (id:=h.length) (Ah _) (aW (A _ _ G λe=>by
     have hs:=cQ r e;rw[eW G]at hs;cases hs) (by omega)) ⟨be,an,a2.keep _ λo' X=>aW (A _ _ X λe=>by have:=I _ e;omega) (m.ne)⟩ (W.keep λj O L J=>aW L (by have:=N _ J;omega)) (fh F) (λj O L h1 R h3=>aW (A _ _ (aE j O L R) h3) (B9 h1)) (by rw[Bo];omega)
   refine ae (x:=()) (sZ (by
    show Sx.disjN [R.length] [c.bm]=true;exact nQ (by omega)) lN) ?_
   refine pu ?_;exact w _ kv' _ Q.length (gm k h.length) S (by simp[gm]) rfl (by show h.length<=(List.set g c.bm _).length;rw[Bo];omega) (.inr ⟨s,h.length,rfl⟩))
 obtain⟨rs,h',R,kv',d,i,q,rfl,h3⟩:=a6;exact⟨h',kv',d,i,q,R,h3⟩
def Sa(w v c:Nat):Bool:=match c with
 |0=>true
 |c+1=>jA 30 (As (sd w c)++As (sd w (c+1))) [.i (-1)]
def Se(w v c:Nat):Bool:=(List.range 3).all λe=>jA 51 (As (sd w c)++[.i (Int.ofNat e)]) (As (AP (sd w c) e)++[.i 0])
def Wb:∀w v:Nat,1<=w->w<=3->1<=v->v<=3->((List.range (4*w*v)).all λc=>Sa w v c&&Se w v c)=true:=by
 have a:((List.range 3).all λw=>(List.range 3).all λv=>(List.range (4*(w+1)*(v+1))).all λc=>Sa (w+1) (v+1) c&&Se (w+1) (v+1) c)=true:=by kernel_rfl
 intro w v e f g h;have d:=qac.1 a (w - 1) (qad.2 (by omega));have b:=qac.1 d (v - 1) (qad.2 (by omega));rw[show w - 1+1=w by omega,show v - 1+1=v by omega]at b;exact b
def ng_c{w v c e:Nat}(h:S3 w v)(a:c<4*w*v)(b:e<3):Cc 51 (As (sd w c)++[.i (Int.ofNat e)]) (As (AP (sd w c) e)++[.i 0]):=by
 have:=qac.1 (Wb w v h.1 h.2.1 h.2.2.1 h.2.2.2) c (qad.2 a);rw[wa]at this;have:=qac.1 this.2 e (qad.2 b);exact ez this rfl (by kernel_rfl) rfl
def XW{h:HL}{b n i:Nat}(c:h[b]?=some (.o (.cells [.int .i64 (Int.ofNat n)] 1 true)))(d:i<n):aD cc ab 93 [.i (Int.ofNat i),.v (te b)] (ka aa h) [.b false] (ka aa h):=by
 have a:=cU c;exact xK x93 (km (oo a.good ua)) (by
  unfold f93;simp only[xp];refine jn ?_;rw[tx (ofnn _)];refine jn ?_;refine cq a rfl ?_;refine jn ?_;rw[Bn (UQ d)];simp(disch:=omega)only[↓po];trivial)
def st1_c{h:HL}{d e i:Nat}{ix y:Value}{I:List Cl}{c a:Cl}(k:h[d]?=some (.o (.cells [ix] 1 true)))(l:h[e]?=some (.o (.cells [.int .i64 c.1,.int .i64 c.2.1,.int .u8 (Int.ofNat c.2.2),y] 4 true)))(f:LsH h ix 3 bu I)(m:I[i]?=some a) :
  aD cc ab 50 [.i (Int.ofNat i),.v (te d),.v (te e)] (ka aa h) [.b (!decide (a=c))] (ka aa h):=by
 have g:=cU k;have j:=cU l;exact xK x50 (km (oo g.good (oo j.good ua))) (by
  unfold f50;simp only[xp];refine jn ?_;refine cq g rfl ?_;refine jn ?_;refine ac f.good ?_;refine pu ?_;refine aP f rfl m ?_;rw[show bu a=[.int .i64 a.1,.int .i64 a.2.1,.int .u8 (Int.ofNat a.2.2)]from rfl];refine jn ?_;refine iC (ds:=[.int .i64 c.1,.int .i64 c.2.1,.int .u8 (Int.ofNat c.2.2)]) j (by simp) rfl ?_;refine jn ?_;rw[Ho]
  try simp(disch:=omega)only[↓po]
  trivial)
structure Sm where
 k:K6
 ps:List Pq
 ls:List Lq
 es:List Nat
def AM(q:En):Sm:=⟨Ab q,q.ps,q.ls,q.es⟩
def Bj(w:Nat)(P:TC)(id e:Nat):Cl:=am (P id) (AP (sd w id) e)
def AU(w:Nat)(P:TC)(id:Nat):Cl:=am (P id) (sd w id)
def Bz(w:Nat)(P:TC)(k:K6)(id:Nat):Nat:=if AU w P id=k.2 then 1 else 0
abbrev _root_.Tz:=Nat->Nat
def Cs(w v:Nat)(l:Ty)(P:TC)(hg:Tz)(id e:Nat)(s:Sm):Sm:=match Aj w v id e with
 |none=>{ s with es:=s.es++[id] }
 |some n=>if n<id then s
  else if jT l (.ofNat (min id n)) (.ofNat e)=0 then(if Bz w P s.k id=0 then { s with ps:=s.ps++[(id,n)] } else { s with ps:=s.ps++[(n,id)] })
  else if hg id<hg n then { s with ls:=s.ls++[(Bz w P s.k id,id,n)] } else { s with ls:=s.ls++[(Bz w P s.k id,n,id)] }
def VA{w v:Nat}{l:Ty}{P:TC}{hg:Tz}{id e:Nat}{s:Sm}:(Cs w v l P hg id e s).k=s.k:=by
 unfold Cs
 repeat' split
 all_goals rfl
def fX(k:K6)(Q:List Sm):List Sm:=if k∈Q.map (·.k)then Q else Q++[⟨k,[],[],[]⟩]
def iy(w v:Nat)(l:Ty)(P:TC)(hg:Tz)(Q:List Sm)(id e:Nat):List Sm:=
 (fX (Bd (AU w P id) (Bj w P id e)) Q).map λs=>if s.k=Bd (AU w P id) (Bj w P id e)then Cs w v l P hg id e s else s
def F4{k:K6}{f:Sm->Sm}:∀ {Q:List Sm} {i:Nat} {s:Sm},(Q.map (·.k)).Nodup->Q[i]?=some s->s.k=k->Q.map (λs=>if s.k=k then f s else s)=Q.set i (f s)
 | [],_,_,_,h,_=>by simp at h
 |a :: Q,0,s,b,h,c=>by
  simp at h;subst h;rw[A5,qbU]at b;rw[A5,mc c,qc1]
  congr 1
  conv=>rhs;rw[←qd5 Q]
  refine Ea λt d=>?_;rw[ra]
  ·rfl
  ·intro e;exact b.1 (qax.2 ⟨t,d,e.trans c.symm⟩)
 |a :: Q,i+1,s,b,h,c=>by
  rw[A5,qbU]at b;simp only[IF]at h;rw[A5,ra,qcJ,F4 b.2 h c];intro e;exact b.1 (qax.2 ⟨s,Ap h,c.trans e.symm⟩)
structure CtxB(c:BC)(hS:HL)(l:Ty)(G:TC)(r:Mv)(hg:Tz):Prop where
 h3:S3 c.w c.v
 n1:c.n1=hS.length
 sb:DC hS c.bm=some 8
 sm:DC hS c.mm=none
 pl:LsH hS c.pl 3 ub (Bt c.w c.v G r)
 im:LsH hS c.im 3 bu (FO c.w c.v G r)
 hg:LsH hS c.hg 1 kl ((List.range (4*c.w*c.v)).map hg)
 xc:LsH hS c.xc 3 Ac l
 pat:Pat c.w c.v l
 gok:ConsO c.w c.v l G
 rok:AK 4000 r
 vok:allV c.w G r (4*c.w*c.v)
 nok:∀id e,id<4*c.w*c.v->e<3->Ek (am (af (G id) r) (AP (sd c.w id) e))=true
def vP{α:Type}{e:Nat}{enc:α->Tk}{l:List α}{h:HL}{v:Value}(d:LsH h v e enc l){j:Nat}(a:blk v=some j):DC h j=some e:=by
 obtain⟨_,_,⟨rfl,_⟩|⟨id,f,i,k,g,rfl,c,_⟩⟩:=d
 ·cases a
 ·have b:id=j:=by simpa[blk]using a
  subst b;exact eW c
def Bld.ls{c:BC}{d h:HL}{n:Value}{Q:List En}(k:Bld c d h n Q){l:Ty}{G:TC}{r:Mv}{hg:Tz}(f:CtxB c d l G r hg){α:Type}{e:Nat}{enc:α->Tk}{L:List α}{v:Value}(g:LsH d v e enc L)(m:e≠8):LsH h v e enc L:=
 g.keep λj o i a=>k.low j o (by rw[f.n1];exact al i) (λb=>by
  have:=vP g a;rw[b,f.sb]at this;exact m (AR this).symm) (λb=>by
  have:=vP g a;rw[b,f.sm]at this;cases this) i
def RE(q:En):Prop:=(q.ps=[]->q.vp = .slice none 0 0)/\(q.ls=[]->q.vl = .slice none 0 0)/\(q.es=[]->q.ve = .slice none 0 0)
def bndE(B:Nat)(q:En):Prop:=(q.ps.length<=B/\q.ls.length<=B/\q.es.length<=B)/\RE q
def bndE.mono{B B':Nat}{q:En}(h:bndE B q)(e:B<=B'):bndE B' q:=by
 obtain⟨⟨b,c,d⟩,a⟩:=h;exact⟨⟨by omega,by omega,by omega⟩,a⟩
def MO{k:K6}{Q a:List En}{i:Nat}{q:En}(f:a[i]?=some q)(d:Ab q=k)(c:a=Q∨(k∉Q.map Ab/\∃id,a=Q++[gm k id])):a.map AM=fX k (Q.map AM):=by
 have b:(Q.map AM).map (·.k)=Q.map Ab:=by rw[Ep];rfl
 unfold fX;rw[b];rcases c with rfl|⟨e,id,rfl⟩
 ·rw[mc (qax.2 ⟨q,Ap f,d⟩)]
 ·rw[ra e,CA];rfl
def Ut{c:BC}{hS h:HL}{kv:Value}{Q:List En}{l:Ty}{G:TC}{r:Mv}{hg:Tz}(Y:CtxB c hS l G r hg)(d:Bld c hS h kv Q)(hQ:Q.length<=900){B:Nat}(hB:B<=900)(a4:∀q∈Q,bndE B q){id e:Nat}(I:id<4*c.w*c.v)(he:e<3) :
  ∃(h':HL) (kv':Value) (V:List En),aD cc ab 26 [.v (te c.bm),.i (Int.ofNat id),.i (Int.ofNat e)] (ka aa h) [] (ka aa h')/\Bld c hS h' kv' V/\V.map AM=iy c.w c.v l (λn=>af (G n) r) hg (Q.map AM) id e/\V.length<=Q.length+1/\(∀q∈V,bndE (B+1) q)/\h.length<=h'.length:=by
 have h3:=Y.h3;have hs:=h3.sh;obtain⟨b1,b2,b3,b4⟩:=h3.n;have b0:=x26 (ls:=[.v (te c.bm),.i (Int.ofNat id),.i (Int.ofNat e)]) (K:=λrs h'=>∃(kv':Value) (V:List En),rs=[]/\Bld c hS h' kv' V/\V.map AM=iy c.w c.v l (λn=>af (G n) r) hg (Q.map AM) id e/\V.length<=Q.length+1/\(∀q∈V,bndE (B+1) q)/\h.length<=h'.length) (H:=h) (oo (aS _) (km (km ua))) (by
  unfold f26;simp only[xp];refine jn ?_;have ax:∀ {g:HL} {kv':Value} {V:List En},Bld c hS g kv' V->∀ {K:Te},K [.int .i64 (Int.ofNat c.w),.int .i64 (Int.ofNat c.v)]->P1.opt (Ae (te c.bm)) (@hid _ ⟨λx=>P1.chk x (@hid _ ⟨P1.opt (Aw 0 x) (@hid _ ⟨λy=>P1.chk y (@hid _ ⟨P1.opt (Aw 0 y) (@hid _ ⟨λz=>P1.chk z (@hid _ ⟨P1.peek (.lg cc 2 z) g (@hid _ ⟨K⟩)⟩)⟩)⟩)⟩)⟩)⟩):=λbt K hK=>
   ae (x:=te c.bm) rfl (ac (aS _) (ae (x:=.pointer (some ⟨c.bm,0+0,none⟩)) rfl (ac (cP _ _) (ae (x:=.pointer (some ⟨c.bm,0+0,none⟩)) rfl (ac (cP _ _) (cq (ej (o:=0) (n:=2) bt.bl (by simp[bC])) rfl hK))))))
  refine ax d ?_;refine jn ?_;refine ah (Ex (qY c.w c.v hs.1 hs.2.1 hs.2.2.1 hs.2.2.2) I) ?_;unfold DM;refine jn ?_;have ng:=ng_c h3 I he;simp only[As,sd,AO,AG]at ng;refine ah ng ?_;refine jn ?_;have bd:=d.ls Y Y.pl (by decide);have a6:=d.ls Y Y.im (by decide);refine dX (ds:=[c.pl]) d.bl (by simp[bC]) rfl ?_;refine jn ?_;refine ac bd.good ?_;refine pu ?_;refine aP bd rfl (iD I) ?_;have b5:AK 16384 (af (G id) r):=aN (dp (Y.gok.ok id I) Y.rok) (by omega);have bP:=di hs I;have b6:=zu (c:=sd c.w id) (e:=e) bP.2.2.2.2 he;have b7:(sd c.w id).1<=100/\(sd c.w id).2.1<=100/\0<=(sd c.w id).1/\0<=(sd c.w id).2.1:=by
   have d1:id / 4%c.w<=id / 4:=qd8 _ _;have d2:id / 4 / c.w<=id / 4:=qdx _ _;refine⟨qdc.2 (show id / 4%c.w<=100 by omega),qdc.2 (show id / 4 / c.w<=100 by omega),B8 _,B8 _⟩
  have mv:=K4 b5 (c:=AP (sd c.w id) e) (by omega);have bX:=Y.nok id e I he;have b8:=(Y.vok id I).2;rw[mc bX]at mv;rw[show ub (af (G id) r)=[.int .u8 (Int.ofNat (af (G id) r).1),.int .i64 (af (G id) r).2.1,.int .i64 (af (G id) r).2.2]from rfl];refine jn ?_;have bI:(am (af (G id) r) (AP (sd c.w id) e)).2.2<4:=gL;have bx:(am (af (G id) r) (sd c.w id)).2.2<4:=gL;simp only[sd]at mv;simp only[As,AB,AO,AG]at mv;refine ah mv ?_;refine jn ?_;refine dX (ds:=[c.im]) d.bl (by simp[bC]) rfl ?_;refine jn ?_;refine ac a6.good ?_;refine pu ?_;refine aP a6 rfl (rY I) ?_;rw[show bu (am (af (G id) r) (sd c.w id))=[.int .i64 (am (af (G id) r) (sd c.w id)).1,.int .i64 (am (af (G id) r) (sd c.w id)).2.1,.int .u8 (Int.ofNat (am (af (G id) r) (sd c.w id)).2.2)]from rfl];refine jn ?_;obtain⟨h1,a2,Q1,i,q,c1,D,T,a7,a8,a0⟩:=at_c d (by omega) bx bI;simp only[As,AO,AG]at c1;refine ai c1 ?_;refine jn ?_;have bS:=MO T a7 a0;have a3:Q1.length<=Q.length+1:=by
   rcases a0 with rfl|⟨_,_,rfl⟩<;>simp
  have ag:∀q∈Q1,bndE B q:=λq hq=>by
   rcases a0 with rfl|⟨_,j,rfl⟩
   ·exact a4 q hq
   ·rcases qar.1 hq with hq|hq
    ·exact a4 q hq
    ·rw[qav]at hq;subst hq;exact⟨⟨AF _,AF _,AF _⟩,λ_=>rfl,λ_=>rfl,λ_=>rfl⟩
  have bn:=Ap T;have W:=ag q bn;have a5:=W;unfold bndE at a5;have f:=D.en q bn;have N:∀(x:Value) (g:HL),g[q.id]?=some (.o (.cells (aH q) 9 true))->OwnL c.n1 g (.slice (some ⟨q.id,0,qs 9⟩) 1 0) 9 (λ_:Unit=>aH q) [()]:=λx g hx=>.inr ⟨q.id,0,rfl,f.idn,by simpa using hx,.inl rfl⟩;have m:=N (.bool true) h1 f.bl;have a9:((Q1.map AM).map (·.k)).Nodup:=by
   rw[Ep];exact D.nd
  have be:(Q1.map AM)[i]?=some (AM q):=by rw[AX,T];rfl
  have an:iy c.w c.v l (λn=>af (G n) r) hg (Q.map AM) id e=(Q1.map AM).set i (Cs c.w c.v l (λn=>af (G n) r) hg id e (AM q)):=by
   unfold iy;show(fX (Bd (am (af (G id) r) (sd c.w id)) (am (af (G id) r) (AP (sd c.w id) e))) (Q.map AM)).map _=_;rw[←bS];exact F4 a9 be a7
  have S:∀(q':En) (h':HL),Ab q'=Ab q->AM q'=Cs c.w c.v l (λn=>af (G n) r) hg id e (AM q)->Bld c hS h' a2 (Q1.set i q')->bndE (B+1) q'->h1.length<=h'.length->
    ∃(kv':Value) (V:List En),True/\Bld c hS h' kv' V/\V.map AM=iy c.w c.v l (λn=>af (G n) r) hg (Q.map AM) id e/\V.length<=Q.length+1/\(∀q∈V,bndE (B+1) q)/\h.length<=h'.length:=by
   intro q' h' e1 e2 e3 e4 e5;refine⟨a2,Q1.set i q',trivial,e3,?_,by rw[Bo];exact a3,λt ht=>?_,by omega⟩
   ·rw[an,LZ,e2]
   ·rcases R0 ht with ht|rfl
    ·have:=ag t ht;exact this.mono (by omega)
    ·exact e4
  refine ax D ?_;refine jn ?_;have nb:=nb_c hs I he;unfold uI at nb;refine ah nb ?_;clear ng mv nb c1;cases hx:Aj c.w c.v id e with
  |none=>
   refine jn ?_;refine dX (ds:=[q.ve]) f.bl (by simp[aH,bu]) rfl ?_;refine jn ?_;refine ac (f.oe.good aU) ?_;refine pu ?_;refine f.oe.ap1 (a:=id) aU (by have:=D.sz;omega) rfl rfl rfl (by
    unfold bb;rw[Bg (by omega),Bg (by omega)];rfl) ?_
   intro U Z M O p A J;refine jn ?_;refine ac O ?_;refine pu ?_;have s:blk q.ve≠some q.id:=λe=>aL f.oe m (by decide) e rfl;refine ki (b:=q.id) (p _ _ f.bl s) (by simp[aH,bu]) ?_;refine pu ?_
   exact S ⟨q.a,q.b,q.id,q.vp,q.vl,U,q.ps,q.ls,q.es++[id]⟩ _ rfl (by unfold Cs AM;rw[hx];rfl) (D.upd T rfl rfl ⟨f.idn,fh (p _ _ f.bl s),f.op.keep λj F C d=>aW (p j F C λe=>aL f.oe f.op (by decide) e d) (λe=>aL (e:=2) (e':=9) f.op m (by decide) d (by rw[←e];rfl)),f.ol.keep λj F C d=>aW (p j F C λe=>aL f.oe f.ol (by decide) e d) (λe=>aL (e:=3) (e':=9) f.ol m (by decide) d (by rw[←e];rfl)),M.keep λj F C d=>aW C (λe=>aL (n0:=c.n1) (e:=1) (e':=9) M (N U Z (p _ _ f.bl s)) (by decide) d (by rw[←e];rfl))⟩ (λb=>⟨λd=>.inl d,λd=>.inl d,λd=>J.elim (λe=>.inl (e▸d)) λ⟨j,e,R⟩=>.inr (by simp only at d;rw[d]at e;cases e;exact R)⟩) (λj F C L=>aW (p j F C λe=>L (.inr (.inr (.inr e)))) (λe=>L (.inl e.symm))) (by rw[Bo];exact A)) (by have u:=W;unfold bndE RE at u ⊢;simp only[Bv,Vb];refine⟨by omega,?_,?_,?_⟩<;>first|exact u.2.1|exact u.2.2.1|exact u.2.2.2|(intro e;simp at e)) (by rw[Bo];exact A)
  |some n=>
  refine jn ?_;by_cases aE:n<id
  ·rw[au aE];refine jn ?_;have a1:Cs c.w c.v l (λn=>af (G n) r) hg id e (AM q)=AM q:=by
    unfold Cs;rw[hx];simp only;rw[mc aE]
   refine⟨a2,Q1,by first|rfl|trivial,D,?_,a3,λt ht=>?_,a8⟩
   ·rw[an,a1,bq be]
   ·have:=ag t ht;exact this.mono (by omega)
  rw[ao (by omega)];refine jn ?_;obtain⟨g1,Z,g3,g4,g5⟩:=dJ hs I he hx;have bs:=D.ls Y Y.xc (by decide);have ay:=D.ls Y Y.im (by decide);have X:=D.ls Y Y.hg (by decide);refine dX (ds:=[.int .i64 (Int.ofNat c.w),.int .i64 (Int.ofNat c.v),c.xc]) D.bl (by simp[bC]) rfl ?_;refine jn ?_;refine ac bs.good ?_;refine pu ?_;refine ai (Uf Y.pat bs I he hx (by omega)) ?_;refine jn ?_;refine dX (ds:=[c.im]) D.bl (by simp[bC]) rfl ?_;refine jn ?_;refine ac ay.good ?_;refine pu ?_;refine aP ay rfl (rY I) ?_;rw[show bu (am (af (G id) r) (sd c.w id))=[.int .i64 (am (af (G id) r) (sd c.w id)).1,.int .i64 (am (af (G id) r) (sd c.w id)).2.1,.int .u8 (Int.ofNat (am (af (G id) r) (sd c.w id)).2.2)]from rfl];refine jn ?_;refine dX (ds:=[.int .i64 q.b.1,.int .i64 q.b.2.1,.int .u8 (Int.ofNat q.b.2.2)]) f.bl (by simp[aH,bu]) rfl ?_;refine jn ?_;rw[Ho];have E:Cs c.w c.v l (λn=>af (G n) r) hg id e (AM q)=if jT l (.ofNat (min id n)) (.ofNat e)=0 then(if Bz c.w (λn=>af (G n) r) (Ab q) id=0 then { AM q with ps:=q.ps++[(id,n)] } else { AM q with ps:=q.ps++[(n,id)] })
    else if hg id<hg n then { AM q with ls:=q.ls++[(Bz c.w (λn=>af (G n) r) (Ab q) id,id,n)] } else { AM q with ls:=q.ls++[(Bz c.w (λn=>af (G n) r) (Ab q) id,n,id)] }:=by
   unfold Cs;rw[hx];simp only;rw[ra aE];rfl
  have ad:Bz c.w (λn=>af (G n) r) (Ab q) id=if am (af (G id) r) (sd c.w id)=q.b then 1 else 0:=rfl
  have ap:∀j,j<4*c.w*c.v->((List.range (4*c.w*c.v)).map hg)[j]?=some (hg j):=λj C=>by rw[AX,Ih C];rfl
  by_cases ar:am (af (G id) r) (sd c.w id)=q.b
  ·rw[BJ ar];rw[mc ar]at ad;rw[ad]at E;refine jn ?_;by_cases P:jT l (.ofNat (min id n)) (.ofNat e)=0
   ·rw[Aq P];rw[mc P,ra (by decide)]at E;simp(disch:=omega)only[↓po]
    try rw[Aq P]
    refine pu ?_;refine dX (ds:=[q.vp]) f.bl (by simp[aH,bu]) rfl ?_;refine jn ?_;refine ac (f.op.good ff) ?_;refine pu ?_;refine f.op.ap1 (a:=((n,id):Pq)) ff (by have:=D.sz;omega) rfl rfl rfl (by
     unfold bb;rw[Bg (by omega),Bg (by omega)];rfl) ?_
    intro U Z M O p A J;refine jn ?_;refine ac O ?_;refine pu ?_;have s:blk q.vp≠some q.id:=λe=>aL f.op m (by decide) e rfl;refine ki (b:=q.id) (p _ _ f.bl s) (by simp[aH,bu]) ?_;refine pu ?_
    exact S ⟨q.a,q.b,q.id,U,q.vl,q.ve,q.ps++[((n,id):Pq)],q.ls,q.es⟩ _ rfl (by rw[E];rfl) (D.upd T rfl rfl ⟨f.idn,fh (p _ _ f.bl s),M.keep λj F C d=>aW C (λe=>aL (n0:=c.n1) (e:=2) (e':=9) M (N U Z (p _ _ f.bl s)) (by decide) d (by rw[←e];rfl)),f.ol.keep λj F C d=>aW (p j F C λe=>aL f.op f.ol (by decide) e d) (λe=>aL (e:=3) (e':=9) f.ol m (by decide) d (by rw[←e];rfl)),f.oe.keep λj F C d=>aW (p j F C λe=>aL f.op f.oe (by decide) e d) (λe=>aL (e:=1) (e':=9) f.oe m (by decide) d (by rw[←e];rfl))⟩ (λb=>⟨λd=>J.elim (λe=>.inl (e▸d)) λ⟨j,e,R⟩=>.inr (by simp only at d;rw[d]at e;cases e;exact R),λd=>.inl d,λd=>.inl d⟩) (λj F C L=>aW (p j F C λe=>L (.inr (.inl e))) (λe=>L (.inl e.symm))) (by rw[Bo];exact A)) (by have u:=W;unfold bndE RE at u ⊢;simp only[Bv,Vb];refine⟨by omega,?_,?_,?_⟩<;>first|exact u.2.1|exact u.2.2.1|exact u.2.2.2|(intro e;simp at e)) (by rw[Bo];exact A)
   ·rw[Ai P];rw[ra P]at E;simp(disch:=omega)only[↓po]
    try rw[Ai P]
    refine pu ?_;refine dX (ds:=[c.hg]) D.bl (by simp[bC]) rfl ?_;refine jn ?_;refine ac X.good ?_;refine pu ?_;refine aP X rfl (ap id I) ?_;rw[show kl (hg id)=[.int .i64 (Int.ofNat (hg id))]from rfl];refine jn ?_;refine dX (ds:=[c.hg]) D.bl (by simp[bC]) rfl ?_;refine jn ?_;refine ac X.good ?_;refine pu ?_;refine aP X rfl (ap n g1) ?_;rw[show kl (hg n)=[.int .i64 (Int.ofNat (hg n))]from rfl];refine jn ?_;by_cases hh:hg id<hg n
    ·rw[au hh];rw[mc hh]at E;refine jn ?_;refine dX (ds:=[q.vl]) f.bl (by simp[aH,bu]) rfl ?_;refine jn ?_;refine ac (f.ol.good cF) ?_;refine pu ?_;refine f.ol.ap1 (a:=((1,id,n):Lq)) cF (by have:=D.sz;omega) rfl rfl rfl (by
      unfold bb;rw[Bg (by omega),Bg (by omega)];rfl) ?_
     intro U Z M O p A J;refine jn ?_;refine ac O ?_;refine pu ?_;have s:blk q.vl≠some q.id:=λe=>aL f.ol m (by decide) e rfl;refine ki (b:=q.id) (p _ _ f.bl s) (by simp[aH,bu]) ?_;refine pu ?_
     exact S ⟨q.a,q.b,q.id,q.vp,U,q.ve,q.ps,q.ls++[((1,id,n):Lq)],q.es⟩ _ rfl (by rw[E];rfl) (D.upd T rfl rfl ⟨f.idn,fh (p _ _ f.bl s),f.op.keep λj F C d=>aW (p j F C λe=>aL f.ol f.op (by decide) e d) (λe=>aL (e:=2) (e':=9) f.op m (by decide) d (by rw[←e];rfl)),M.keep λj F C d=>aW C (λe=>aL (n0:=c.n1) (e:=3) (e':=9) M (N U Z (p _ _ f.bl s)) (by decide) d (by rw[←e];rfl)),f.oe.keep λj F C d=>aW (p j F C λe=>aL f.ol f.oe (by decide) e d) (λe=>aL (e:=1) (e':=9) f.oe m (by decide) d (by rw[←e];rfl))⟩ (λb=>⟨λd=>.inl d,λd=>J.elim (λe=>.inl (e▸d)) λ⟨j,e,R⟩=>.inr (by simp only at d;rw[d]at e;cases e;exact R),λd=>.inl d⟩) (λj F C L=>aW (p j F C λe=>L (.inr (.inr (.inl e)))) (λe=>L (.inl e.symm))) (by rw[Bo];exact A)) (by have u:=W;unfold bndE RE at u ⊢;simp only[Bv,Vb];refine⟨by omega,?_,?_,?_⟩<;>first|exact u.2.1|exact u.2.2.1|exact u.2.2.2|(intro e;simp at e)) (by rw[Bo];exact A)
    ·rw[ao (by omega)];rw[ra hh]at E;refine jn ?_;refine dX (ds:=[q.vl]) f.bl (by simp[aH,bu]) rfl ?_;refine jn ?_;refine ac (f.ol.good cF) ?_;refine pu ?_;refine f.ol.ap1 (a:=((1,n,id):Lq)) cF (by have:=D.sz;omega) rfl rfl rfl (by
      unfold bb;rw[Bg (by omega),Bg (by omega)];rfl) ?_
     intro U Z M O p A J;refine jn ?_;refine ac O ?_;refine pu ?_;have s:blk q.vl≠some q.id:=λe=>aL f.ol m (by decide) e rfl;refine ki (b:=q.id) (p _ _ f.bl s) (by simp[aH,bu]) ?_;refine pu ?_
     exact S ⟨q.a,q.b,q.id,q.vp,U,q.ve,q.ps,q.ls++[((1,n,id):Lq)],q.es⟩ _ rfl (by rw[E];rfl) (D.upd T rfl rfl ⟨f.idn,fh (p _ _ f.bl s),f.op.keep λj F C d=>aW (p j F C λe=>aL f.ol f.op (by decide) e d) (λe=>aL (e:=2) (e':=9) f.op m (by decide) d (by rw[←e];rfl)),M.keep λj F C d=>aW C (λe=>aL (n0:=c.n1) (e:=3) (e':=9) M (N U Z (p _ _ f.bl s)) (by decide) d (by rw[←e];rfl)),f.oe.keep λj F C d=>aW (p j F C λe=>aL f.ol f.oe (by decide) e d) (λe=>aL (e:=1) (e':=9) f.oe m (by decide) d (by rw[←e];rfl))⟩ (λb=>⟨λd=>.inl d,λd=>J.elim (λe=>.inl (e▸d)) λ⟨j,e,R⟩=>.inr (by simp only at d;rw[d]at e;cases e;exact R),λd=>.inl d⟩) (λj F C L=>aW (p j F C λe=>L (.inr (.inr (.inl e)))) (λe=>L (.inl e.symm))) (by rw[Bo];exact A)) (by have u:=W;unfold bndE RE at u ⊢;simp only[Bv,Vb];refine⟨by omega,?_,?_,?_⟩<;>first|exact u.2.1|exact u.2.2.1|exact u.2.2.2|(intro e;simp at e)) (by rw[Bo];exact A)
  ·rw[Ch ar];rw[ra ar]at ad;rw[ad]at E;refine jn ?_;by_cases P:jT l (.ofNat (min id n)) (.ofNat e)=0
   ·rw[Aq P];rw[mc P,mc rfl]at E;simp(disch:=omega)only[↓po]
    try rw[Aq P]
    refine pu ?_;refine dX (ds:=[q.vp]) f.bl (by simp[aH,bu]) rfl ?_;refine jn ?_;refine ac (f.op.good ff) ?_;refine pu ?_;refine f.op.ap1 (a:=((id,n):Pq)) ff (by have:=D.sz;omega) rfl rfl rfl (by
     unfold bb;rw[Bg (by omega),Bg (by omega)];rfl) ?_
    intro U Z M O p A J;refine jn ?_;refine ac O ?_;refine pu ?_;have s:blk q.vp≠some q.id:=λe=>aL f.op m (by decide) e rfl;refine ki (b:=q.id) (p _ _ f.bl s) (by simp[aH,bu]) ?_;refine pu ?_
    exact S ⟨q.a,q.b,q.id,U,q.vl,q.ve,q.ps++[((id,n):Pq)],q.ls,q.es⟩ _ rfl (by rw[E];rfl) (D.upd T rfl rfl ⟨f.idn,fh (p _ _ f.bl s),M.keep λj F C d=>aW C (λe=>aL (n0:=c.n1) (e:=2) (e':=9) M (N U Z (p _ _ f.bl s)) (by decide) d (by rw[←e];rfl)),f.ol.keep λj F C d=>aW (p j F C λe=>aL f.op f.ol (by decide) e d) (λe=>aL (e:=3) (e':=9) f.ol m (by decide) d (by rw[←e];rfl)),f.oe.keep λj F C d=>aW (p j F C λe=>aL f.op f.oe (by decide) e d) (λe=>aL (e:=1) (e':=9) f.oe m (by decide) d (by rw[←e];rfl))⟩ (λb=>⟨λd=>J.elim (λe=>.inl (e▸d)) λ⟨j,e,R⟩=>.inr (by simp only at d;rw[d]at e;cases e;exact R),λd=>.inl d,λd=>.inl d⟩) (λj F C L=>aW (p j F C λe=>L (.inr (.inl e))) (λe=>L (.inl e.symm))) (by rw[Bo];exact A)) (by have u:=W;unfold bndE RE at u ⊢;simp only[Bv,Vb];refine⟨by omega,?_,?_,?_⟩<;>first|exact u.2.1|exact u.2.2.1|exact u.2.2.2|(intro e;simp at e)) (by rw[Bo];exact A)
   ·rw[Ai P];rw[ra P]at E;simp(disch:=omega)only[↓po]
    try rw[Ai P]
    refine pu ?_;refine dX (ds:=[c.hg]) D.bl (by simp[bC]) rfl ?_;refine jn ?_;refine ac X.good ?_;refine pu ?_;refine aP X rfl (ap id I) ?_;rw[show kl (hg id)=[.int .i64 (Int.ofNat (hg id))]from rfl];refine jn ?_;refine dX (ds:=[c.hg]) D.bl (by simp[bC]) rfl ?_;refine jn ?_;refine ac X.good ?_;refine pu ?_;refine aP X rfl (ap n g1) ?_;rw[show kl (hg n)=[.int .i64 (Int.ofNat (hg n))]from rfl];refine jn ?_;by_cases hh:hg id<hg n
    ·rw[au hh];rw[mc hh]at E;refine jn ?_;refine dX (ds:=[q.vl]) f.bl (by simp[aH,bu]) rfl ?_;refine jn ?_;refine ac (f.ol.good cF) ?_;refine pu ?_;refine f.ol.ap1 (a:=((0,id,n):Lq)) cF (by have:=D.sz;omega) rfl rfl rfl (by
      unfold bb;rw[Bg (by omega),Bg (by omega)];rfl) ?_
     intro U Z M O p A J;refine jn ?_;refine ac O ?_;refine pu ?_;have s:blk q.vl≠some q.id:=λe=>aL f.ol m (by decide) e rfl;refine ki (b:=q.id) (p _ _ f.bl s) (by simp[aH,bu]) ?_;refine pu ?_
     exact S ⟨q.a,q.b,q.id,q.vp,U,q.ve,q.ps,q.ls++[((0,id,n):Lq)],q.es⟩ _ rfl (by rw[E];rfl) (D.upd T rfl rfl ⟨f.idn,fh (p _ _ f.bl s),f.op.keep λj F C d=>aW (p j F C λe=>aL f.ol f.op (by decide) e d) (λe=>aL (e:=2) (e':=9) f.op m (by decide) d (by rw[←e];rfl)),M.keep λj F C d=>aW C (λe=>aL (n0:=c.n1) (e:=3) (e':=9) M (N U Z (p _ _ f.bl s)) (by decide) d (by rw[←e];rfl)),f.oe.keep λj F C d=>aW (p j F C λe=>aL f.ol f.oe (by decide) e d) (λe=>aL (e:=1) (e':=9) f.oe m (by decide) d (by rw[←e];rfl))⟩ (λb=>⟨λd=>.inl d,λd=>J.elim (λe=>.inl (e▸d)) λ⟨j,e,R⟩=>.inr (by simp only at d;rw[d]at e;cases e;exact R),λd=>.inl d⟩) (λj F C L=>aW (p j F C λe=>L (.inr (.inr (.inl e)))) (λe=>L (.inl e.symm))) (by rw[Bo];exact A)) (by have u:=W;unfold bndE RE at u ⊢;simp only[Bv,Vb];refine⟨by omega,?_,?_,?_⟩<;>first|exact u.2.1|exact u.2.2.1|exact u.2.2.2|(intro e;simp at e)) (by rw[Bo];exact A)
    ·rw[ao (by omega)];rw[ra hh]at E;refine jn ?_;refine dX (ds:=[q.vl]) f.bl (by simp[aH,bu]) rfl ?_;refine jn ?_;refine ac (f.ol.good cF) ?_;refine pu ?_;refine f.ol.ap1 (a:=((0,n,id):Lq)) cF (by have:=D.sz;omega) rfl rfl rfl (by
      unfold bb;rw[Bg (by omega),Bg (by omega)];rfl) ?_
     intro U Z M O p A J;refine jn ?_;refine ac O ?_;refine pu ?_;have s:blk q.vl≠some q.id:=λe=>aL f.ol m (by decide) e rfl;refine ki (b:=q.id) (p _ _ f.bl s) (by simp[aH,bu]) ?_;refine pu ?_
     exact S ⟨q.a,q.b,q.id,q.vp,U,q.ve,q.ps,q.ls++[((0,n,id):Lq)],q.es⟩ _ rfl (by rw[E];rfl) (D.upd T rfl rfl ⟨f.idn,fh (p _ _ f.bl s),f.op.keep λj F C d=>aW (p j F C λe=>aL f.ol f.op (by decide) e d) (λe=>aL (e:=2) (e':=9) f.op m (by decide) d (by rw[←e];rfl)),M.keep λj F C d=>aW C (λe=>aL (n0:=c.n1) (e:=3) (e':=9) M (N U Z (p _ _ f.bl s)) (by decide) d (by rw[←e];rfl)),f.oe.keep λj F C d=>aW (p j F C λe=>aL f.ol f.oe (by decide) e d) (λe=>aL (e:=1) (e':=9) f.oe m (by decide) d (by rw[←e];rfl))⟩ (λb=>⟨λd=>.inl d,λd=>J.elim (λe=>.inl (e▸d)) λ⟨j,e,R⟩=>.inr (by simp only at d;rw[d]at e;cases e;exact R),λd=>.inl d⟩) (λj F C L=>aW (p j F C λe=>L (.inr (.inr (.inl e)))) (λe=>L (.inl e.symm))) (by rw[Bo];exact A)) (by have u:=W;unfold bndE RE at u ⊢;simp only[Bv,Vb];refine⟨by omega,?_,?_,?_⟩<;>first|exact u.2.1|exact u.2.2.1|exact u.2.2.2|(intro e;simp at e)) (by rw[Bo];exact A))
 obtain⟨rs,h',h2,kv',V,rfl,h4⟩:=b0;exact⟨h',kv',V,h2,h4⟩
end Go.Am
namespace Go.Am
open Sx Go.Proofs Go.Shelf Go.Lib Go.Sort
section
variable [Val]
def MV [Glo]{C:Cfg}{a:Nat}{mu:kx}{H:Tp}{w w':World}(h:WR C a mu H w)(d:Go.RowKit.Below w.heap.size w w')(n:w.drawn<=w'.drawn):WR C a mu H w'/\Evo H mu w H mu w':=by
 refine⟨⟨λid o k f=>?_,h.inj,h.own,h.ro,h.dom,λg r q=>?_⟩,⟨Ah _,λ_ _=>rfl,d.size,λb l _=>d.block b l,λb h=>.inr h,d.os,d.tape,d.output,n⟩⟩
 ·obtain⟨p,i,j⟩:=h.obj id o k f;exact⟨p,i,by rw[d.block _ (iz f j)];exact j⟩
 ·obtain⟨k,f,c,e,m,i,j⟩:=h.glob g r q;exact⟨k,f,c,e,m,by rw[d.block _ (qaQ.1 i).1];exact i,j⟩
def zZ{W w':World}(h1:w'.os=W.os)(d:w'.tape=W.tape)(f:w'.output=W.output)(h:W.drawn<=w'.drawn)(l:W.heap.size<=w'.heap.size)(j:∀b,b<W.heap.size->w'.heap[b]?=W.heap[b]?):∃q a,w'=grow (W.drewN q) a:=by
 refine⟨w'.drawn - W.drawn,w'.heap.extract W.heap.size w'.heap.size,?_⟩;have e:w'.heap=W.heap++w'.heap.extract W.heap.size w'.heap.size:=by
  apply qcI;intro i;rw[Array.getElem?_append];split
  next g=>exact j i g
  next g=>
   rw[Array.getElem?_extract];split
   ·congr 1;omega
   ·rw[RV (by omega)]
 obtain⟨m,o,c,n,k⟩:=w';simp only at h1 d f h e;subst h1 d f;unfold grow World.drewN;simp only;rw[←e,show W.drawn+(c - W.drawn)=c by omega]
def rS{α:Type} [Inhabited α]{enc:α->Tk}{e:Nat}(b:∀x,(enc x).length=e){l:List α}{t:Nat}(d:t<l.length*e):(l.flatMap enc)[t]?=some (Go.Sort.flatK enc e l.toArray)[t]!:=by
 rw[Go.Sort.get_flatK enc e l.toArray t (by simpa using d)];have n:0<e:=by
  rcases qdE e with h|h
  ·subst h;simp at d
  ·exact h
 have g:t / e<l.length:=Nat.div_lt_of_lt_mul (by rw[Nat.mul_comm];exact d);have k:=kY (e:=e) (enc:=enc) (l:=l) (λa _=>b a) (i:=t / e) (a:=l[t / e]) (Be g);have c:=Il t n;have j:t=t / e*e+t%e:=by rw[Nat.mul_comm];exact(Nat.div_add_mod t e).symm
 have f:((l.flatMap enc).drop (t / e*e))[t%e]?=(enc l[t / e])[t%e]?:=by
  rw[←k,Ij,mc c]
 rw[Ii,←j]at f;rw[f];have m:(l.toArray)[t / e]! = l[t / e]:=by simp[g]
 rw[m,Be (by rw[b];exact c),List.getElem!_eq_getElem?_getD,Be (by rw[b];exact c)];rfl
def xo{α:Type} [Inhabited α]{enc:α->Tk}{e:Nat}(r:∀x,(enc x).length=e)(y:∀x,∀v∈enc x,Am.scalar v=true) [Glo]{mu:kx}{p:Pl}{w:World}{l:List α}(u:objR mu p w.heap[p.b]? (.cells (l.flatMap enc) e true)):HoldsK enc e w p.b p.o l.toArray:=by
 obtain⟨_,_,_,c,t,z,g,A,i,k⟩:=u;obtain rfl:=i rfl;intro j h;rw[Go.Sort.size_flatK]at h;have f:=rS (enc:=enc) r (l:=l) (t:=j) (by simpa using h);obtain⟨B,m,n⟩:=k j _ f;have d:Am.scalar (Go.Sort.flatK enc e l.toArray)[j]! = true:=by
  have s:=Ap f;obtain⟨a,_,q⟩:=qa2.1 s;exact y a _ q
 have:=cL d n;subst this;exact⟨by simp[World.cell?,g,m],by simp[World.frozen?,g]⟩
def qU{C:Cfg}{d:Nat}{mu:kx}{H:Tp}{w:World} [Glo](E:WR C d mu H w){α:Type} [Inhabited α]{enc:α->Tk}{e:Nat}(g:∀x,(enc x).length=e)(I:∀x,∀v∈enc x,Am.scalar v=true){id:Nat}{p:Pl}{l l':List α}
  (hid:H[id]?=some (.cells (l.flatMap enc) e true)) (G:mu id=some p) (F:l'.length=l.length) (n:Nat) (os:Array Obj) :
  WR C d mu (H.set id (.cells (l'.flatMap enc) e true)) (sortWorldK enc e w p.b p.o n l'.toArray os)/\Evo H mu w (H.set id (.cells (l'.flatMap enc) e true)) mu (sortWorldK enc e w p.b p.o n l'.toArray os):=by
 obtain⟨T,m,P⟩:=E.obj id _ hid rfl;rw[G]at m;cases m;obtain⟨N,z,R,c,t,y,A,B,O,S⟩:=P;have j:(l'.flatMap enc).length=l'.length*e:=ba λa _=>g a;have h:(l.flatMap enc).length=l.length*e:=ba λa _=>g a;have q:=E.set (w':=Go.Sort.putRowK enc e (Go.Sort.ahead w n) p.b p.o l'.toArray) (x:=.cells (Go.Sort.putCells (λv:Value=>v) p.o (Go.Sort.flatK enc e l'.toArray) c) t y) hid rfl G (by
   apply qcI;intro i;show(w.heap.modify p.b _)[i]?=_;rw[qc9,RZ];split
   next f=>
    subst f;rw[A,mc (qaQ.1 A).1];rfl
   ·rfl) rfl rfl rfl (.cells (l'.flatMap enc) e true) (λ_=>rfl) ⟨N,by rw[j,F,←h];exact z,by
    rw[qac];intro v r;obtain⟨a,_,s⟩:=qa2.1 r;exact gz (I a v s),_,t,y,rfl,by simp[Go.Sort.putCells,B],O,λi v r=>by
    have f:i<l'.length*e:=by rw[←j];exact(qbg.1 r).1
    have D:=rS (enc:=enc) g (l:=l') f;rw[r]at D;obtain⟨u,Q⟩ : ∃u,c[p.o+i]?=some u:=⟨c[p.o+i]'(by rw[B];rw[h]at z;rw[F]at f;omega),M7 _⟩;refine⟨v,?_,?_⟩
    ·simp only[Go.Sort.putCells,Array.getElem?_mapIdx,Q,BP];rw[mc ⟨by omega,by rw[Go.Sort.size_flatK];simpa using f⟩,show p.o+i - p.o=i by omega,←AR D]
    ·obtain⟨a,_,s⟩:=qa2.1 (Ap r);exact .scalar (I a v s)⟩ (Nat.le_add_right _ _)
 obtain⟨J,K⟩:=q;obtain⟨L,M⟩:=MV (w':=sortWorldK enc e w p.b p.o n l'.toArray os) J ⟨rfl,rfl,rfl,by unfold sortWorldK grow;simp,λk g=>by
  unfold sortWorldK grow;simp only;rw[qcO g]⟩ (Ah _)
 exact⟨L,K.trans M⟩
def srt{α:Type} [Inhabited α](a:α->α->Int)(l:List α):List α:=(pdq (ltOf a) l.toArray 0 l.length (Lib.bitLen l.length) true true).toList
def vd{α:Type} [Inhabited α]{a:α->α->Int}(b:SWO (ltOf a))(l:List α):PermIn 0 l.length l.toArray (srt a l).toArray/\SortedIn (ltOf a) 0 l.length (srt a l).toArray:=by
 have h:=pdq_sorts (ltOf a) b l.toArray 0 l.length (Lib.bitLen l.length) true true (AF _) (by simp) (Or.inl rfl);unfold srt;simpa using h
def iT{α:Type} [Inhabited α]{a:α->α->Int}(b:SWO (ltOf a))(l:List α):(srt a l).Perm l:=by
 have h:=(vd b l).1.2.2;have c:(srt a l).length=l.length:=by
  have:=(vd b l).1.1;simpa using this
 simpa[List.extract_eq_take_drop,c,CJ]using h
def ti{α:Type} [Inhabited α]{a:α->α->Int}(c:SWO (ltOf a))(l:List α):(srt a l).Pairwise λx y=>ltOf a y x=false:=by
 have f:(srt a l).length=l.length:=by
  have:=(vd c l).1.1;simpa using this
 rw[qbz];intro i j d e b;have h:=(vd c l).2 i j (AF _) b (by omega);simpa[d,e]using h
end
def R8(S:Tt)(i:Nat)(o:HObj):HObj:=match S i,o with
 |true,.cells a e _=>.cells a e false
 |_,_=>.dead
def IP(S:Tt)(H:Tp):Tp:=H.mapIdx (R8 S)
def ph{S:Tt}{H:Tp}{i:Nat}{o:HObj}(h:(IP S H)[i]?=some o):∃a,H[i]?=some a/\o=R8 S i a:=by
 unfold IP at h;rw[List.getElem?_mapIdx]at h;cases b:H[i]? with
 |none=>rw[b]at h;cases h
 |some a=>
  rw[b]at h;exact⟨a,rfl,(AR h).symm⟩
def uT{S:Tt}{i:Nat}{o:HObj}(h:(R8 S i o).alive=true):S i=true/\∃vs e rw,o = .cells vs e rw/\R8 S i o = .cells vs e false:=by
 unfold R8 at h ⊢;split at h
 next a=>
  exact⟨a,_,_,_,rfl,rfl⟩
 ·cases h
def pn{S:Tt}{i:Nat}{o:HObj}:(R8 S i o).owned=false:=by
 unfold R8;split<;>rfl
section
variable [Val]
def Ha{C:Cfg}{α:Type} [Inhabited α]{enc:α->Tk}{e:Nat}{cf:α->α->Int}{g:TK}(hs:∀x,∀v∈enc x,Am.scalar v=true)
  {S:Tt} {H:Tp} {caps:Tk} (hc:∀x y,∃H',dP C g ([.agg ⟨enc x⟩,.agg ⟨enc y⟩]++caps) (IP S H) (.int .i64 (cf x y)) H') [glo:Glo] {f:Nat} {mu:kx} {w:World} (B:WR C f mu H w) {D:Tk} (Y:VRs AN mu caps D)
  {id:Nat} {vs:Tk} {p:Pl} (hid:H[id]?=some (.cells vs e true)) (hp:mu id=some p) (T:S id=false) (off n:Nat) (hG:∀g vs,C.G g=some vs->vs.all MZ=true):CmpLays C.P g ⟨D⟩ enc e cf p.b off n w:=by
 intro m Q E _ x y cs;have ar:f<=p.b:=B.own id _ p hid rfl hp;have a:∀b t,b≠p.b->w.heap[b]?=some t->(sortWorldK enc e w p.b off m E Q).heap[b]?=some t:=λb t X ht=>by
  unfold sortWorldK grow;simp only;rw[qcO (by rw[show(Go.Sort.putRowK enc e (Go.Sort.ahead w m) p.b off E).heap.size=w.heap.size from Go.Sort.size_putRow _ _ _ _ _];exact(qaQ.1 ht).1)];show(w.heap.modify p.b _)[b]?=_;rw[qc9,ra (B9 X)];exact ht
 have ax:w.heap.size<=(sortWorldK enc e w p.b off m E Q).heap.size:=size_sortWorldK_c enc e w p.b off m E Q;generalize sortWorldK enc e w p.b off m E Q=W at *;have l:∀(i:Nat) o q,H[i]?=some o->S i=true->o.alive=true->mu i=some q->W.heap[q.b]?=w.heap[q.b]?/\q.b<w.heap.size:=λi o q K I s A=>by
  obtain⟨q',M,hr⟩:=B.obj i o K s;rw[A]at M;cases M;have z:=iz s hr;have ad:i≠id:=λe=>by subst e;rw[T]at I;cases I
  have V:=B.inj id i _ _ p q hid K rfl s (B9 ad) hp A;exact⟨by rw[a _ _ (B9 V) (M7 z),M7 z],z⟩
 have U:WR C W.heap.size mu (IP S H) W:=by
  refine⟨λi o h s=>?_,λi j oi oj pi pj h h' L=>?_,λi o p h L=>?_,λi o q h s _ A=>?_,λi K=>B.dom i ?_,λg vs hg=>?_⟩
  ·obtain⟨O,r,rfl⟩:=ph h;obtain⟨k,ap,e',an,rfl,N⟩:=uT s;obtain⟨q,A,hr⟩:=B.obj i _ r rfl;refine⟨q,A,?_⟩;rw[N,(l i _ q r k rfl A).1];obtain⟨R,a2,d,c,t,F,a4,a5,_,a7⟩:=hr;exact⟨R,a2,d,c,t,F,a4,a5,(λh=>(by cases h)),a7⟩
  ·obtain⟨O,_,rfl⟩:=ph h;rw[pn]at L;cases L
  ·obtain⟨O,_,rfl⟩:=ph h;rw[pn]at L;cases L
  ·obtain⟨O,r,rfl⟩:=ph h;obtain⟨k,ap,e',an,rfl,N⟩:=uT s;have:=(l i _ q r k rfl A).2;omega
  ·unfold IP at K;simpa using K
  ·obtain⟨r,k,c,t,F,N,h4⟩:=B.glob g vs hg;have h5:=a _ _ (by omega) N;exact⟨(qaQ.1 h5).1,k,c,t,F,h5,h4⟩
 have ag:∀b,¬Own mu (IP S H) b:=by
  rintro b ⟨i,o,q,r,k,_⟩;obtain⟨O,_,rfl⟩:=ph r;rw[pn]at k;cases k
 have J:∀x:α,VR AN mu (.agg ⟨enc x⟩) (.agg ⟨enc x⟩):=λx=>.agg rfl λi u v hu hv=>by
  rw[hu]at hv;cases hv;exact .scalar (hs x u (Ap (by simpa using hu)))
 obtain⟨H',Z⟩:=hc x y;obtain⟨v,ay,w',R,a2,d,a4,F,b1,b2,b3⟩:=Z glo W.heap.size mu W (#[.agg (enc x).toArray,.agg (enc y).toArray]++⟨D⟩) (Ah _) (by
  have:(#[Value.agg (enc x).toArray,Value.agg (enc y).toArray]++(⟨D⟩ : Array Value)).toList=Value.agg (enc x).toArray :: Value.agg (enc y).toArray :: D:=by simp
  rw[this];exact VRs.cons (J x) (VRs.cons (J y) Y)) U cs
 exact⟨.returned v,w',F,⟨by rw[cL rfl R],zZ d.os d.tape d.output d.dr d.size λb V=>d.keep b V (ag b)⟩,b1,b2,b3⟩
def va{C:Cfg}(hG:∀g vs,C.G g=some vs->vs.all MZ=true){ρ:Ren}(L:SlLaysF0.n6 C.P ρ){α:Type} [Inhabited α]{enc:α->Tk}{e:Nat}(Y:∀w,(isAgg (ρ.t 24)).run C.P w = .ok true w)(zE:∀w,(Go.sizeOf (ρ.t 24)).run C.P w = .ok e w)
  (F:∀x,(enc x).length=e) (u:∀x,∀v∈enc x,Am.scalar v=true) {c:α->α->Int} (T:SWO (ltOf c)) {g:TK} (eg:∀args w,(callFunc g args).run C.P w = .ok (.enter g args) w)
  {S:Tt} {H:Tp} {caps:Tk} (hc:∀x y,∃H',dP C g ([.agg ⟨enc x⟩,.agg ⟨enc y⟩]++caps) (IP S H) (.int .i64 (c x y)) H') {id n cx:Nat} {l:List α} (hid:H[id]?=some (.cells (l.flatMap enc) e true)) (A:S id=false) (hn:n=l.length) (h0:0<n) (V:n<4611686018427387904) :
  dP C (ρ.f 6) [.slice (some ⟨id,0,qs e⟩) n cx,.func (.func g) ⟨[]⟩ ⟨caps⟩] H (.tuple #[]) (H.set id (.cells ((srt c l).flatMap enc) e true)):=by
 subst hn;intro ad R M w d U k B cs;obtain⟨W,an,h1,h2,h3⟩:=k.uncons;obtain⟨X,ap,rfl,h5,h6⟩:=h3.uncons;obtain rfl:=h6.unnil;have a:d = #[W,X]:=qbj.1 h1;subst a;obtain⟨p,j,I,rfl⟩ : ∃p j,M id=some p/\W = .slice (some ⟨p.b,p.o,none⟩) l.length j:=by
  clear hid V;generalize l.length=N at *;cases h2 with
  |scalar h=>simp[Am.scalar]at h
  |hslice h J ag K=>exact⟨_,_,h,rfl⟩
  |hslice0 K=>omega
 obtain⟨z,s,rfl,D,E⟩ : ∃z s,X = .func (.func g) z s/\z.size=0/\VRs AN M caps s.toList:=by
  cases h5 with
  |scalar h=>simp[Am.scalar]at h
  |func hf D U h7 h8=>exact⟨_,_,rfl,D.symm,⟨by simpa using U,λi x y K hy=>h8 i x y (by simpa using K) (by simpa using hy)⟩⟩
 obtain rfl:=Array.eq_empty_of_size_eq_zero D;obtain⟨p',r,J⟩:=B.obj id _ hid rfl;rw[I]at r;cases r;have m:=AnyQ.slices_SortFunc_eq L e Y zE enc F (λx v hv=>by
  have:=u x v hv;unfold Am.scalar at this;split at this<;>first|rfl|cases this) c T g s p.b p.o j l.toArray w eg (Ha u hc B E hid I A p.o l.toArray.size hG) (xo F u J) (iz rfl J) (by simpa using V)
 obtain⟨e',w',fr,⟨rfl,n,os,rfl⟩,O,Z,Q⟩:=m cs;have q:(srt c l).length=l.length:=by
  have:=(vd T l).1.1;simpa using this
 obtain⟨c1,c2⟩:=qU (l':=srt c l) B F u hid I q n os;have e2:(pdq (ltOf c) l.toArray 0 l.toArray.size (Lib.bitLen l.toArray.size) true true)=(srt c l).toArray:=by simp[srt]
 rw[e2]at O Q;exact⟨.tuple #[],M,_,.tuple (by simp) rfl (λi x y h=>by simp at h),c1,c2,L.f6.enters rfl _ _,fr,O,Z,Q⟩
end
section
variable [Val]
def gY(x:Int):Tk:=[.int .i64 x]
def Kc{l:TA}{k:Nat}(b:k<l.length):(Go.Sort.flatK gY 1 l.toArray)[k]! = Value.int .i64 (l.toArray)[k]!:=by
 have c:=rS (enc:=gY) (e:=1) (λ_=>rfl) (l:=l) (t:=k) (by omega);have d:(l.flatMap gY)[k]?=some (.int .i64 l[k]):=by
  have:∀(l:TA) (k:Nat) (b:k<l.length),(l.flatMap gY)[k]?=some (.int .i64 l[k]):=by
   intro l
   induction l with
   |nil=>intro k b;simp at b
   |cons a l g=>
    intro k b;rw[Df];cases k with
    |zero=>rfl
    |succ k=>
     show(Value.int .i64 a :: l.flatMap gY)[k+1]?=_;rw[IF,g k (by simpa using b)];rfl
  exact this l k b
 rw[d]at c;have f:=(AR c).symm;rw[f];simp[b]
def LP{w:World}{b o:Nat}{l:TA}:putRow (Value.int .i64) w b o l.toArray=putRowK gY 1 w b o l.toArray:=by
 unfold putRowK putRow
 congr 1
 funext c
 apply qcI;intro k;simp only[Go.Sort.putCells,Array.getElem?_mapIdx];cases c[k]? with
 |none=>rfl
 |some x=>
  simp only[BP];have a:(Go.Sort.flatK gY 1 l.toArray).size=l.toArray.size:=by rw[Go.Sort.size_flatK];omega
  rw[a];by_cases h:o<=k/\k<o+l.toArray.size
  ·rw[mc h,mc h];have d:k - o<l.length:=by have:=h.2;simp at this;omega
   rw[Kc d];rfl
  ·rw[ra h,ra h]
def OS{w:World}{b o:Nat}{l:TA}(h:HoldsK gY 1 w b o l.toArray):Holds (Value.int .i64) w b o l.toArray:=by
 intro j d;have a:(Go.Sort.flatK gY 1 l.toArray).size=l.toArray.size:=by rw[Go.Sort.size_flatK];omega
 have c:=h j (by rw[a];exact d);have e:j<l.length:=by simpa using d
 rw[Kc e]at c;exact c
def E4(l:TA):TA:=l.mergeSort λx y=>decide (x<=y)
def vc(l:TA):(E4 l).Perm l:=List.mergeSort_perm _ _
def Iw(l:TA):(E4 l).Pairwise λx y=>x<=y:=by
 have:=List.pairwise_mergeSort (le:=λx y:Int=>decide (x<=y)) (λa b c d e=>by
  rw[BQ]at *;omega) (λa b=>by
  rw[Cz,BQ,BQ];omega) l
 exact this.imp λh=>of_decide_eq_true h
def vb{C:Cfg}{ρ:Ren}(L:Lays.n189 C.P ρ)(O:∀args w,(callFunc (ρ.f 189) args).run C.P w = .ok (.enter (ρ.f 189) args) w){H:Tp}{id n cx:Nat}{l:TA}(hid:H[id]?=some (.cells (l.flatMap gY) 1 true))(W:n=l.length)(h0:0<n)(A:n<4611686018427387904) :
  dP C (ρ.f 189) [.slice (some ⟨id,0,qs 1⟩) n cx] H (.tuple #[]) (H.set id (.cells ((E4 l).flatMap gY) 1 true)):=by
 subst W;intro R t F w c hb e u K;obtain⟨G,Z,S,T,U⟩:=e.uncons;obtain rfl:=U.unnil;have a:c = #[G]:=qbj.1 S;subst a;obtain⟨p,d,B,rfl⟩ : ∃p d,F id=some p/\G = .slice (some ⟨p.b,p.o,none⟩) l.length d:=by
  clear hid A;generalize l.length=N at *;have E:qs 1≠some 1:=by simp[qs]
  generalize qs 1=tg at *;cases T with
  |scalar h=>simp[Am.scalar]at h
  |hslice h m V Y=>exact⟨_,_,h,rfl⟩
  |hslice0 Y=>omega
  |gslice=>exact absurd rfl E
  |gslice0=>exact absurd rfl E
 have z:∀x:Int,(gY x).length=1:=λ_=>rfl;have D:∀x:Int,∀v∈gY x,Am.scalar v=true:=λx v X=>by
  rw[qav.1 X];rfl
 obtain⟨p',k,m⟩:=u.obj id _ hid rfl;rw[B]at k;cases k;have g:=Any.slices_Sort_int L p.b p.o d l w (OS (xo z D m)) (iz rfl m) A;obtain⟨e',w',Q,⟨rfl,n,q,rfl⟩,r,I,s⟩:=g K;have j:(E4 l).length=l.length:=(vc l).length_eq;obtain⟨J,c2⟩:=qU (l':=E4 l) u z D hid B j n q;have M:grow (putRow (Value.int .i64) (Go.Sort.ahead w n) p.b p.o (l.mergeSort λx y=>decide (x<=y)).toArray) q=sortWorldK gY 1 w p.b p.o n (E4 l).toArray q:=by
  unfold sortWorldK;rw[LP];rfl
 rw[M]at r s;exact⟨.tuple #[],F,_,.tuple (by simp) rfl (λi x y h=>by simp at h),J,c2,O _ _,Q,r,I,s⟩
end
def nmOf(P:TD)(f:TK):String:=match P.funcs[f]? with
 |some g=>g.name
 |none => ""
def mQ {P:TD} {f:TK} {B:Func} (h1:(nmOf P f == "runtime.NumGoroutine")=false) (a:P.funcs[f]?=some { B with name:=nmOf P f }):Bears P f B:=⟨_,h1,a⟩
def renK:Ren:=⟨fun|6=>27|15=>70|14=>69|28=>115|29=>116|20=>107|21=>108|22=>109|23=>110|24=>111|25=>112|26=>113|27=>114|46=>139|47=>140|48=>141|49=>142|50=>143|57=>176|n=>n,
 fun|22=>83|24=>92|25=>94|39=>155|53=>200|55=>202|46=>193|45=>192|50=>197|66=>234|70=>238|76=>263|77=>222|n=>n,λn=>n⟩
def layK:SlLaysF0.n6 Tryz.prog renK:=by
 constructor
 all_goals first
  |kernel_rfl
  |exact mQ (by kernel_rfl) (by kernel_rfl)
  |exact λ_=>by kernel_rfl
def renP:Ren:=⟨fun|6=>72|15=>70|14=>117|28=>115|29=>116|20=>144|21=>145|22=>146|23=>147|24=>148|25=>149|26=>150|27=>151|46=>177|47=>140|48=>141|49=>178|50=>179|57=>186|n=>n,
 fun|22=>49|24=>112|25=>158|39=>155|53=>200|55=>202|46=>193|45=>192|50=>197|66=>234|70=>238|76=>263|77=>222|n=>n,λn=>n⟩
def layP:SlLaysF0.n6 Tryz.prog renP:=by
 constructor
 all_goals first
  |kernel_rfl
  |exact mQ (by kernel_rfl) (by kernel_rfl)
  |exact λ_=>by kernel_rfl
def renO:Ren:=⟨fun|6=>74|15=>70|14=>118|28=>115|29=>116|20=>152|21=>153|22=>154|23=>155|24=>156|25=>157|26=>158|27=>159|46=>180|47=>140|48=>141|49=>181|50=>182|57=>187|n=>n,
 fun|22=>50|24=>115|25=>161|39=>155|53=>200|55=>202|46=>193|45=>192|50=>197|66=>234|70=>238|76=>263|77=>222|n=>n,λn=>n⟩
def layO:SlLaysF0.n6 Tryz.prog renO:=by
 constructor
 all_goals first
  |kernel_rfl
  |exact mQ (by kernel_rfl) (by kernel_rfl)
  |exact λ_=>by kernel_rfl
def renI:Ren:=⟨fun|189=>77|125=>70|257=>120|128=>115|129=>116|294=>160|295=>161|296=>162|297=>163|298=>164|299=>165|216=>166|300=>167|301=>168|328=>183|329=>140|330=>141|331=>184|332=>185|215=>92|343=>188|n=>n,
 fun|28=>51|46=>155|51=>200|53=>202|183=>193|182=>192|131=>197|218=>234|222=>238|228=>263|229=>222|n=>n,λn=>n⟩
def layI:Lays.n189 Tryz.prog renI:=by
 constructor
 all_goals first
  |kernel_rfl
  |exact mQ (by kernel_rfl) (by kernel_rfl)
  |exact λ_=>by kernel_rfl
def Nb(S:Tt)(h:HL):HL:=(IP S (ka aa h)).map HO.o
def rh{S:Tt}{h:HL}:ka aa (Nb S h)=IP S (ka aa h):=by
 unfold Nb ka;rw[Ep]
 conv=>rhs;rw[←qd5 (IP S (List.map (Cb aa) h))]
 rfl
def wo{S:Tt}{h:HL}{i:Nat}{vs:Tk}{e:Nat}{a:Bool}(c:h[i]?=some (.o (.cells vs e a)))(b:S i=true):(Nb S h)[i]?=some (.o (.cells vs e false)):=by
 unfold Nb IP ka;rw[AX,List.getElem?_mapIdx,AX,c];simp only[BP,Cb,R8,b]
def Mn{α:Type} [Inhabited α]{enc:α->Tk}{e:Nat}{ρ:Ren}(L:SlLaysF0.n6 cc.P ρ)(m:∀w,(isAgg (ρ.t 24)).run cc.P w = .ok true w)(u:∀w,(Go.sizeOf (ρ.t 24)).run cc.P w = .ok e w)(r:∀x,(enc x).length=e)(s:∀x,∀v∈enc x,Am.scalar v=true)
  {a:α->α->Int} (p:SWO (ltOf a)) {g:TK} (n:∀args w,(callFunc g args).run cc.P w = .ok (.enter g args) w) {S:Tt} {H:HL} {caps:Tk} (j:aC (.func (.func g) ⟨[]⟩ ⟨caps⟩)=true)
  (q:∀x y,∃H',dP cc g ([.agg ⟨enc x⟩,.agg ⟨enc y⟩]++caps) (IP S (ka aa H)) (.int .i64 (a x y)) H') {id cx:Nat} {J:List α} (hid:H[id]?=some (.o (.cells (J.flatMap enc) e true))) (i:S id=false) (h0:0<J.length) (z:J.length<=100000)
  (l:ab (ρ.f 6)=some ⟨[lv,lv],[]⟩) (k:Dd (ρ.f 6)=none) :
  aD cc ab (ρ.f 6) [.v (.slice (some ⟨id,0,qs e⟩) J.length cx),.v (.func (.func g) ⟨[]⟩ ⟨caps⟩)] (ka aa H) [] (ka aa (H.set id (.o (.cells ((srt a J).flatMap enc) e true)))):=by
 have b:(ka aa H)[id]?=some (.cells (J.flatMap enc) e true):=by
  unfold ka;rw[AX,hid];rfl
 have c:=va (C:=cc) rW L (enc:=enc) (e:=e) m u r s p n q (cx:=cx) b i rfl h0 (by omega);have d:(ka aa H).set id (.cells ((srt a J).flatMap enc) e true)=ka aa (H.set id (.o (.cells ((srt a J).flatMap enc) e true))):=by
  rw[tE];rfl
 rw[d]at c;exact⟨⟨[lv,lv],[]⟩,[.leaf (.v (.slice (some ⟨id,0,qs e⟩) J.length cx)),.leaf (.v (.func (.func g) ⟨[]⟩ ⟨caps⟩))],[],l,⟨rfl,rfl,λy h=>by
  simp only[qas,PX,or_false]at h;rcases h with rfl|rfl
  ·exact aB (show aC (.slice (some ⟨id,0,qs e⟩) J.length cx)=true by simp[aC,noLoc,aR,bh,aX,aJ,aA,qs])
  ·exact aB j⟩,⟨rfl,rfl,λy h=>by cases h⟩,⟨0,.inr ⟨.inl k,c⟩⟩⟩
def jU{α β:Type}{f:α->β}:∀ {l:List β},(∀b∈l,∃a,f a=b)->∃d:List α,d.map f=l
 | [],_=>⟨[],rfl⟩
 |b :: l,h=>by
  obtain⟨a,rfl⟩:=h b Cw;obtain⟨d,rfl⟩:=jU λc e=>h c (BF _ e);exact⟨a :: d,rfl⟩
def wF{α:Type}{b:α->α->Int}{R:α->α->Prop}(h:∀x y,b x y<0↔R x y)(f:∀x,¬R x x)(i:∀x y z,R x y->R y z->R x z)(g:∀x y z,¬R x y->¬R y z->¬R x z):SWO (ltOf b):=by
 have c:∀x y,ltOf b x y=true↔R x y:=λx y=>by
  unfold ltOf;rw[BQ];exact h x y
 have a:∀x y,ltOf b x y=false↔¬R x y:=λx y=>by
  rw[←c x y];cases ltOf b x y<;>simp
 exact⟨λx=>(a x x).2 (f x),λx y z d e=>(c x z).2 (i x y z ((c x y).1 d) ((c y z).1 e)),λx y z d e=>(a x z).2 (g x y z ((a x y).1 d) ((a y z).1 e))⟩
def cmpI_l{a b:Int}:Ad a b<0↔a<b:=by
 unfold Ad
 repeat' split
 all_goals omega
def xt:Cc 70 [.i 0] [.i 0]:=ir (n:=20) rfl (by kernel_rfl) rfl (by kernel_rfl)
structure RdH(c:BC)(h:HL)(kv:Value)(m:Nat)(hg:Tz):Prop where
 mp:h[m]?=some (.o (.cells [te c.bm] 1 true))
 bl:h[c.bm]?=some (.o (.cells (bC c kv) 8 true))
 hl:LsH h c.hg 1 kl ((List.range (4*c.w*c.v)).map hg)
def L3(c:BC)(m:Nat)(i:Nat):Bool:=Nat.beq i m||Nat.beq i c.bm||(match blk c.hg with
 |some j=>Nat.beq i j
 |none=>false)
def R7{c:BC}{m i:Nat}(h1:i≠m)(f:i≠c.bm)(g:blk c.hg≠some i):L3 c m i=false:=by
 unfold L3;have e:∀a b:Nat,a≠b->Nat.beq a b=false:=λa b h=>by
  cases k:Nat.beq a b with
  |true=>exact absurd (AW k) h
  |false=>rfl
 rw[e _ _ h1,e _ _ f];cases l:blk c.hg with
 |none=>rfl
 |some j=>exact e _ _ λd=>g (by rw[l,d])
def RdH.ro{c:BC}{h:HL}{j:Value}{m:Nat}{hg:Tz}(b:RdH c h j m hg):(Nb (L3 c m) h)[m]?=some (.o (.cells [te c.bm] 1 false))/\(Nb (L3 c m) h)[c.bm]?=some (.o (.cells (bC c j) 8 false))/\LsH (Nb (L3 c m) h) c.hg 1 kl ((List.range (4*c.w*c.v)).map hg):=by
 have e:∀a:Nat,Nat.beq a a=true:=λa=>Er a;refine⟨wo b.mp (by unfold L3;rw[e];rfl),wo b.bl (by unfold L3;rw[e,Bool.or_true];rfl),?_⟩;obtain⟨f,g,l|⟨id,d,k,r,q,i,n,p⟩⟩:=b.hl
 ·exact⟨f,g,.inl l⟩
 ·refine⟨f,g,.inr ⟨id,d,k,r,false,i,wo n ?_,p⟩⟩;unfold L3;rw[i];show(_||Nat.beq id id)=true;rw[e,Bool.or_true]
def iE{h:HL}{b e:Nat}{cs:Tk}{a:Bool}(c:h[b]?=some (.o (.cells cs e a))):Ptr h (te b) cs:=⟨b,0,cs,e,a,rfl,c,Sx.cut_all rfl⟩
def s73_c{c:BC}{H:HL}{p:Value}{m:Nat}{hg:Tz}(h:H[m]?=some (.o (.cells [te c.bm] 1 false)))(g:H[c.bm]?=some (.o (.cells (bC c p) 8 false)))(e:LsH H c.hg 1 kl ((List.range (4*c.w*c.v)).map hg)){a a':Nat}(b k:Int)(l:a<4*c.w*c.v)(f:a'<4*c.w*c.v) :
  aD cc ab 73 [.i (Int.ofNat a),.i b,.i (Int.ofNat a'),.i k,.v (te m)] (ka aa H) [.i (Ad (Int.ofNat (hg a)) (Int.ofNat (hg a')))] (ka aa H):=by
 have d:∀j,j<4*c.w*c.v->((List.range (4*c.w*c.v)).map hg)[j]?=some (hg j):=λj n=>by rw[AX,Ih n];rfl
 exact xK x73 (km (km (km (km (oo (aS _) ua))))) (by
  unfold f73;simp only[xp];refine jn ?_;refine cq (iE h) rfl ?_;refine jn ?_;refine ac (aS _) ?_;refine pu ?_;refine ae (x:=te c.bm) rfl (ac (aS _) ?_);refine iC (ds:=[c.hg]) (iE g) (by simp[bC]) rfl ?_;refine jn ?_;refine ac e.good ?_;refine pu ?_;refine aP e rfl (d a l) ?_;rw[show kl (hg a)=[.int .i64 (Int.ofNat (hg a))]from rfl];refine jn ?_;refine cq (iE h) rfl ?_;refine jn ?_;refine ac (aS _) ?_;refine pu ?_;refine ae (x:=te c.bm) rfl (ac (aS _) ?_);refine iC (ds:=[c.hg]) (iE g) (by simp[bC]) rfl ?_;refine jn ?_;refine ac e.good ?_;refine pu ?_;refine aP e rfl (d a' f) ?_;rw[show kl (hg a')=[.int .i64 (Int.ofNat (hg a'))]from rfl];refine jn ?_;refine ah (DN _ _) ?_;simp(disch:=omega)only[↓po];trivial)
def K7(a:Int):Cc 119 [.i a] [.b false]:=by
 refine q119 rfl ?_;unfold JR;simp only[xp];simp(disch:=omega)only[↓po]
def SX(a b:Int):Cc 76 [.i a,.i b] [.i (Ad a b)]:=by
 refine q76 rfl ?_;unfold Y5;simp only[xp]
 repeat (first|simp(disch:=omega)only[↓po]|refine ah (K7 a) ?_|refine ah (K7 b) ?_)
 unfold Ad;by_cases c:a<b
 ·simp(disch:=omega)only[↓po];simp[c]
 ·by_cases d:b<a
  ·simp(disch:=omega)only[↓po];simp[c,d]
  ·simp(disch:=omega)only[↓po];simp[c,d]
def s75_c{c:BC}{H:HL}{z:Value}{m:Nat}{hg:Tz}(q:H[m]?=some (.o (.cells [te c.bm] 1 false)))(p:H[c.bm]?=some (.o (.cells (bC c z) 8 false)))(g:LsH H c.hg 1 kl ((List.range (4*c.w*c.v)).map hg)){a a':Nat}(s f b n:Int)(u:a<4*c.w*c.v)(h:a'<4*c.w*c.v) :
  ∃H',aD cc ab 75 [.i s,.i (Int.ofNat a),.i b,.i f,.i (Int.ofNat a'),.i n,.v (te m)] (ka aa H) [.i (CN [Ad s f,Ad (Int.ofNat (hg a)) (Int.ofNat (hg a'))])] (ka aa H'):=by
 have d:∀j,j<4*c.w*c.v->((List.range (4*c.w*c.v)).map hg)[j]?=some (hg j):=λj y=>by rw[AX,Ih y];rfl
 have k:=x75 (ls:=[.i s,.i (Int.ofNat a),.i b,.i f,.i (Int.ofNat a'),.i n,.v (te m)]) (K:=λr _=>r=[.i (CN [Ad s f,Ad (Int.ofNat (hg a)) (Int.ofNat (hg a'))])]) (H:=H) (km (km (km (km (km (km (oo (aS _) ua))))))) (by
  unfold f75;simp only[xp];refine jn ?_;refine ah (SX _ _) ?_;refine jn ?_;refine cq (iE q) rfl ?_;refine jn ?_;refine ac (aS _) ?_;refine pu ?_;refine ae (x:=te c.bm) rfl (ac (aS _) ?_);refine iC (ds:=[c.hg]) (iE p) (by simp[bC]) rfl ?_;refine jn ?_;refine ac g.good ?_;refine pu ?_;refine aP g rfl (d a u) ?_;rw[show kl (hg a)=[.int .i64 (Int.ofNat (hg a))]from rfl];refine jn ?_;refine cq (iE q) rfl ?_;refine jn ?_;refine ac (aS _) ?_;refine pu ?_;refine ae (x:=te c.bm) rfl (ac (aS _) ?_);refine iC (ds:=[c.hg]) (iE p) (by simp[bC]) rfl ?_;refine jn ?_;refine ac g.good ?_;refine pu ?_;refine aP g rfl (d a' h) ?_;rw[show kl (hg a')=[.int .i64 (Int.ofNat (hg a'))]from rfl];refine jn ?_;refine ah (DN _ _) ?_;refine jn ?_;refine ai (or_c (l:=[Ad s f,Ad (Int.ofNat (hg a)) (Int.ofNat (hg a'))]) (vY (e:=1) (enc:=Fp) (λ_=>rfl) rfl) (by simp)) ?_;simp(disch:=omega)only[↓po])
 obtain⟨r,H',t,rfl⟩:=k;exact⟨H',t⟩
def UO{H:HL}{f:Value}(a:aC f=true):aD cc ab 72 [.v (.slice none 0 0),.v f] (ka aa H) [] (ka aa H):=by
 have b:aD cc ab 144 [.v (.slice none 0 0),.i 0,.i 0,.v f] (ka aa H) [] (ka aa H):=by
  exact xK x144 (oo rfl (km (km (oo a ua)))) (by
   unfold OE;simp only[xp]
   repeat (first|simp(disch:=omega)only[↓po]|refine gG 2 ?_)
   trivial)
 have c:aD cc ab 117 [.v (.slice none 0 0),.i 0,.i 0,.i 0,.v f] (ka aa H) [] (ka aa H):=by
  exact xK x117 (oo rfl (km (km (km (oo a ua))))) (by
   unfold Ox;simp only[xp]
   repeat (first|simp(disch:=omega)only[↓po]|refine gG 2 ?_)
   refine ai b ?_
   repeat (first|simp(disch:=omega)only[↓po])
   trivial)
 exact xK x72 (oo rfl (oo a ua)) (by
  unfold f72;simp only[xp];refine jn ?_;refine ae (x:=(0:Int)) rfl ?_;refine pu ?_;refine oU (by omega) (by omega) ?_;refine pu ?_;refine ah xt ?_;refine jn ?_;refine ai c ?_;simp(disch:=omega)only[↓po];trivial)
def UN{H:HL}{f:Value}(a:aC f=true):aD cc ab 74 [.v (.slice none 0 0),.v f] (ka aa H) [] (ka aa H):=by
 have b:aD cc ab 152 [.v (.slice none 0 0),.i 0,.i 0,.v f] (ka aa H) [] (ka aa H):=by
  exact xK x152 (oo rfl (km (km (oo a ua)))) (by
   unfold OG;simp only[xp]
   repeat (first|simp(disch:=omega)only[↓po]|refine gG 2 ?_)
   trivial)
 have c:aD cc ab 118 [.v (.slice none 0 0),.i 0,.i 0,.i 0,.v f] (ka aa H) [] (ka aa H):=by
  exact xK x118 (oo rfl (km (km (km (oo a ua))))) (by
   unfold Oy;simp only[xp]
   repeat (first|simp(disch:=omega)only[↓po]|refine gG 2 ?_)
   refine ai b ?_
   repeat (first|simp(disch:=omega)only[↓po])
   trivial)
 exact xK x74 (oo rfl (oo a ua)) (by
  unfold f74;simp only[xp];refine jn ?_;refine ae (x:=(0:Int)) rfl ?_;refine pu ?_;refine oU (by omega) (by omega) ?_;refine pu ?_;refine ah xt ?_;refine jn ?_;refine ai c ?_;simp(disch:=omega)only[↓po];trivial)
def UM{H:HL}{f:Value}(a:aC f=true):aD cc ab 27 [.v (.slice none 0 0),.v f] (ka aa H) [] (ka aa H):=by
 have b:aD cc ab 107 [.v (.slice none 0 0),.i 0,.i 0,.v f] (ka aa H) [] (ka aa H):=by
  exact xK x107 (oo rfl (km (km (oo a ua)))) (by
   unfold Ow;simp only[xp]
   repeat (first|simp(disch:=omega)only[↓po]|refine gG 2 ?_)
   trivial)
 have c:aD cc ab 69 [.v (.slice none 0 0),.i 0,.i 0,.i 0,.v f] (ka aa H) [] (ka aa H):=by
  exact xK x69 (oo rfl (km (km (km (oo a ua))))) (by
   unfold f69;simp only[xp]
   repeat (first|simp(disch:=omega)only[↓po]|refine gG 2 ?_)
   refine ai b ?_
   repeat (first|simp(disch:=omega)only[↓po])
   trivial)
 exact xK x27 (oo rfl (oo a ua)) (by
  unfold f27;simp only[xp];refine jn ?_;refine ae (x:=(0:Int)) rfl ?_;refine pu ?_;refine oU (by omega) (by omega) ?_;refine pu ?_;refine ah xt ?_;refine jn ?_;refine ai c ?_;simp(disch:=omega)only[↓po];trivial)
def UL{H:HL}:aD cc ab 77 [.v (.slice none 0 0)] (ka aa H) [] (ka aa H):=by
 have a:aD cc ab 160 [.v (.slice none 0 0),.i 0,.i 0] (ka aa H) [] (ka aa H):=by
  exact xK x160 (oo rfl (km (km ua))) (by
   unfold OH;simp only[xp]
   repeat (first|simp(disch:=omega)only[↓po]|refine gG 2 ?_)
   trivial)
 have b:aD cc ab 120 [.v (.slice none 0 0),.i 0,.i 0,.i 0] (ka aa H) [] (ka aa H):=by
  exact xK x120 (oo rfl (km (km (km ua)))) (by
   unfold Oz;simp only[xp]
   repeat (first|simp(disch:=omega)only[↓po]|refine gG 2 ?_)
   refine ai a ?_
   repeat (first|simp(disch:=omega)only[↓po])
   trivial)
 exact xK x77 (oo rfl ua) (by
  unfold f77;simp only[xp];refine jn ?_;refine ae (x:=(0:Int)) rfl ?_;refine pu ?_;refine oU (by omega) (by omega) ?_;refine pu ?_;refine ah xt ?_;refine jn ?_;refine ai b ?_;simp(disch:=omega)only[↓po];trivial)
def mN{c e:Nat}{α:Type}{enc:α->Tk}{h:HL}{id cx:Nat}{l l':List α}(hid:h[id]?=some (.o (.cells (l.flatMap enc) e true)))(h1:c<=id)(a:cx=0∨cx=l.length+1)(b:l'.length=l.length):OwnL c (h.set id (.o (.cells (l'.flatMap enc) e true))) (.slice (some ⟨id,0,qs e⟩) l.length cx) e enc l':=
 .inr ⟨id,cx,by rw[b],h1,fh hid,by rw[b];exact a⟩
def Qf{c:BC}{h:HL}{V:Value}{m:Nat}{hg:Tz}(r:RdH c h V m hg){O:Nat}{v:Value}{l:List Pq}(U:OwnL O h v 2 fe l)(k:l=[]->v = .slice none 0 0)(G:0<4*c.w*c.v)(I:∀p∈l,p.1<4*c.w*c.v/\p.2<4*c.w*c.v)(T:l.length<=1000) :
  ∃(l':List Pq) (h':HL),aD cc ab 72 [.v v,.v (.func (.func 73) ⟨[]⟩ ⟨[te m]⟩)] (ka aa h) [] (ka aa h')/\l'.Perm l/\l'.Pairwise (λa b=>¬hg b.1<hg a.1)/\OwnL O h' v 2 fe l'/\(∀(j:Nat) o,h[j]?=some o->blk v≠some j->h'[j]?=some o)/\h'.length=h.length:=by
 rcases U with⟨rfl,rfl⟩|⟨id,cx,rfl,W,n,X⟩
 ·exact⟨[],h,UO (show aC (.func (.func 73) ⟨[]⟩ ⟨[te m]⟩)=true from rfl),M9 _,.nil,.inl ⟨rfl,rfl⟩,λj o t _=>t,rfl⟩
 have D:0<l.length:=qbl.2 λe=>by have:=k e;cases this
 obtain⟨J,P⟩ : ∃J:List (Fin (4*c.w*c.v)×Fin (4*c.w*c.v)),J.map (λx=>((x.1.val,x.2.val):Pq))=l:=jU λp K=>by
  exact⟨(⟨p.1,(I p K).1⟩,⟨p.2,(I p K).2⟩),rfl⟩
 subst P;obtain⟨Y,Z,r3⟩:=r.ro;have C:∀L:List (Fin (4*c.w*c.v)×Fin (4*c.w*c.v)),(L.map (λx=>((x.1.val,x.2.val):Pq))).flatMap fe=L.flatMap λx=>fe ((λx=>((x.1.val,x.2.val):Pq)) x):=λL=>by rw[Vi]
 let _:Inhabited (Fin (4*c.w*c.v)×Fin (4*c.w*c.v)):=⟨(⟨0,G⟩,⟨0,G⟩)⟩
 have q:SWO (ltOf λx y:(Fin (4*c.w*c.v)×Fin (4*c.w*c.v))=>Ad (Int.ofNat (hg x.1.val)) (Int.ofNat (hg y.1.val))):=wF (R:=λx y=>hg x.1.val<hg y.1.val) (λx y=>cmpI_l.trans qbh) (λx h=>Nat.lt_irrefl _ h) (λx y z E F=>Nat.lt_trans E F) (λx y z E F=>by omega);rw[A9]at D T;have d:=Mn layP (λw=>by kernel_rfl) (λw=>by kernel_rfl) (enc:=λx:(Fin (4*c.w*c.v)×Fin (4*c.w*c.v))=>fe ((λx=>((x.1.val,x.2.val):Pq)) x)) (e:=2) (λ_=>rfl) (λx u M=>by
  simp only[fe,qas,PX,or_false]at M;rcases M with rfl|rfl<;>rfl) q (g:=73) (λB w=>by kernel_rfl) (S:=L3 c m) (H:=h) (caps:=[te m]) rfl (λx y=>by
  have Q:=s73_c Y Z r3 (Int.ofNat x.2.val) (Int.ofNat y.2.val) x.1.isLt y.1.isLt;refine⟨ka aa (Nb (L3 c m) h),?_⟩;rw[←rh];exact fA (N:=Dd) Dj (Sg:=ab) (sg:=⟨[.agg [.i .i64,.i .i64],.agg [.i .i64,.i .i64],lv],[li]⟩) rfl Q (xs:=[.agg [.i .i64 (Int.ofNat x.1.val),.i .i64 (Int.ofNat x.2.val)],.agg [.i .i64 (Int.ofNat y.1.val),.i .i64 (Int.ofNat y.2.val)],.leaf (.v (te m))]) rfl rfl (ys:=[.leaf (.i .i64 (Ad (Int.ofNat (hg x.1.val)) (Int.ofNat (hg y.1.val))))]) rfl rfl) (id:=id) (cx:=cx) (J:=J) (by rw[←C];exact n) (R7 (λe=>by
   subst e;have:=eW n;rw[eW r.mp]at this;cases this) (λe=>by
   subst e;have:=eW n;rw[eW r.bl]at this;cases this) (λe=>by
   have:=vP r.hl e;rw[eW n]at this;cases this)) D (by omega) rfl (by kernel_rfl)
 refine⟨(srt (λx y:(Fin (4*c.w*c.v)×Fin (4*c.w*c.v))=>Ad (Int.ofNat (hg x.1.val)) (Int.ofNat (hg y.1.val))) J).map (λx=>((x.1.val,x.2.val):Pq)),_,(by rw[A9];exact d),(iT q J).map _,?_,?_,λj o t s=>aW t λe=>s (by rw[e];rfl),by rw[Bo]⟩
 ·rw[qbi];refine(ti q J).imp λ{x y} f=>?_;unfold ltOf at f;rw[decide_eq_false_iff_not]at f;intro A;exact f (by exact(cmpI_l.trans qbh).2 A)
 ·have:=mN (l':=(srt (λx y:(Fin (4*c.w*c.v)×Fin (4*c.w*c.v))=>Ad (Int.ofNat (hg x.1.val)) (Int.ofNat (hg y.1.val))) J).map (λx=>((x.1.val,x.2.val):Pq))) n W X (by rw[A9,A9,(iT q J).length_eq]);rw[C]at this;exact this
def or2_l{a b a' c:Nat}:CN [Ad (Int.ofNat a) (Int.ofNat a'),Ad (Int.ofNat b) (Int.ofNat c)]<0↔a<a'∨(a=a'/\b<c):=by
 simp only[CN,SZ];split<;>(try split)<;>(try split)<;>(try split)<;>(try split)<;>omega
def Qe{c:BC}{h:HL}{W:Value}{m:Nat}{hg:Tz}(r:RdH c h W m hg){K:Nat}{v:Value}{l:List Lq}(V:OwnL K h v 3 fP l)(k:l=[]->v = .slice none 0 0)(G:0<4*c.w*c.v)(s:∀p∈l,p.1<2/\p.2.1<4*c.w*c.v/\p.2.2<4*c.w*c.v)(U:l.length<=1000) :
  ∃(l':List Lq) (h':HL),aD cc ab 74 [.v v,.v (.func (.func 75) ⟨[]⟩ ⟨[te m]⟩)] (ka aa h) [] (ka aa h')/\l'.Perm l/\l'.Pairwise (λa b=>¬(b.1<a.1∨(b.1=a.1/\hg b.2.1<hg a.2.1)))/\OwnL K h' v 3 fP l'/\(∀(j:Nat) o,h[j]?=some o->blk v≠some j->h'[j]?=some o)/\h'.length=h.length:=by
 rcases V with⟨rfl,rfl⟩|⟨id,cx,rfl,X,n,Y⟩
 ·exact⟨[],h,UN (show aC (.func (.func 75) ⟨[]⟩ ⟨[te m]⟩)=true from rfl),M9 _,.nil,.inl ⟨rfl,rfl⟩,λj o A _=>A,rfl⟩
 have F:0<l.length:=qbl.2 λe=>by have:=k e;cases this
 obtain⟨J,Q⟩ : ∃J:List (Fin 2×Fin (4*c.w*c.v)×Fin (4*c.w*c.v)),J.map (λx=>((x.1.val,x.2.1.val,x.2.2.val):Lq))=l:=jU λp C=>by
  exact⟨(⟨p.1,(s p C).1⟩,⟨p.2.1,(s p C).2.1⟩,⟨p.2.2,(s p C).2.2⟩),rfl⟩
 subst Q;obtain⟨Z,r2,r3⟩:=r.ro;have E:∀L:List (Fin 2×Fin (4*c.w*c.v)×Fin (4*c.w*c.v)),(L.map (λx=>((x.1.val,x.2.1.val,x.2.2.val):Lq))).flatMap fP=L.flatMap λx=>fP ((λx=>((x.1.val,x.2.1.val,x.2.2.val):Lq)) x):=λL=>by rw[Vi]
 let _:Inhabited (Fin 2×Fin (4*c.w*c.v)×Fin (4*c.w*c.v)):=⟨(⟨0,by omega⟩,⟨0,G⟩,⟨0,G⟩)⟩
 have q:SWO (ltOf λx y:(Fin 2×Fin (4*c.w*c.v)×Fin (4*c.w*c.v))=>CN [Ad (Int.ofNat x.1.val) (Int.ofNat y.1.val),Ad (Int.ofNat (hg x.2.1.val)) (Int.ofNat (hg y.2.1.val))]):=wF (R:=λx y=>x.1.val<y.1.val∨(x.1.val=y.1.val/\hg x.2.1.val<hg y.2.1.val)) (λx y=>or2_l) (λx h=>by omega) (λx y z O P=>by omega) (λx y z O P=>by omega);rw[A9]at F U;have d:=Mn layO (λw=>by kernel_rfl) (λw=>by kernel_rfl) (enc:=λx:(Fin 2×Fin (4*c.w*c.v)×Fin (4*c.w*c.v))=>fP ((λx=>((x.1.val,x.2.1.val,x.2.2.val):Lq)) x)) (e:=3) (λ_=>rfl) (λx u I=>by
  simp only[fP,qas,PX,or_false]at I;rcases I with rfl|rfl|rfl<;>rfl) q (g:=75) (λD w=>by kernel_rfl) (S:=L3 c m) (H:=h) (caps:=[te m]) rfl (λx y=>by
  obtain⟨M,T⟩:=s75_c Z r2 r3 (Int.ofNat x.1.val) (Int.ofNat y.1.val) (Int.ofNat x.2.2.val) (Int.ofNat y.2.2.val) x.2.1.isLt y.2.1.isLt;refine⟨ka aa M,?_⟩;rw[←rh];exact fA (N:=Dd) Dj (Sg:=ab) (sg:=⟨[.agg [.i .u8,.i .i64,.i .i64],.agg [.i .u8,.i .i64,.i .i64],lv],[li]⟩) rfl T (xs:=[.agg [.i .u8 (Int.ofNat x.1.val),.i .i64 (Int.ofNat x.2.1.val),.i .i64 (Int.ofNat x.2.2.val)],.agg [.i .u8 (Int.ofNat y.1.val),.i .i64 (Int.ofNat y.2.1.val),.i .i64 (Int.ofNat y.2.2.val)],.leaf (.v (te m))]) rfl rfl (ys:=[.leaf (.i .i64 (CN [Ad (Int.ofNat x.1.val) (Int.ofNat y.1.val),Ad (Int.ofNat (hg x.2.1.val)) (Int.ofNat (hg y.2.1.val))]))]) rfl rfl) (id:=id) (cx:=cx) (J:=J) (by rw[←E];exact n) (R7 (λe=>by
   subst e;have:=eW n;rw[eW r.mp]at this;cases this) (λe=>by
   subst e;have:=eW n;rw[eW r.bl]at this;cases this) (λe=>by
   have:=vP r.hl e;rw[eW n]at this;cases this)) F (by omega) rfl (by kernel_rfl)
 refine⟨(srt (λx y:(Fin 2×Fin (4*c.w*c.v)×Fin (4*c.w*c.v))=>CN [Ad (Int.ofNat x.1.val) (Int.ofNat y.1.val),Ad (Int.ofNat (hg x.2.1.val)) (Int.ofNat (hg y.2.1.val))]) J).map (λx=>((x.1.val,x.2.1.val,x.2.2.val):Lq)),_,(by rw[A9];exact d),(iT q J).map _,?_,?_,λj o A t=>aW A λe=>t (by rw[e];rfl),by rw[Bo]⟩
 ·rw[qbi];refine(ti q J).imp λ{x y} f=>?_;unfold ltOf at f;rw[decide_eq_false_iff_not]at f;intro B;exact f (by exact or2_l.2 B)
 ·have:=mN (l':=(srt (λx y:(Fin 2×Fin (4*c.w*c.v)×Fin (4*c.w*c.v))=>CN [Ad (Int.ofNat x.1.val) (Int.ofNat y.1.val),Ad (Int.ofNat (hg x.2.1.val)) (Int.ofNat (hg y.2.1.val))]) J).map (λx=>((x.1.val,x.2.1.val,x.2.2.val):Lq))) n X Y (by rw[A9,A9,(iT q J).length_eq]);rw[E]at this;exact this
def Kb{l:Tx}:l.flatMap kl=(l.map Int.ofNat).flatMap gY:=by
 rw[Vi];rfl
def Qc{h:HL}{t:Nat}{v:Value}{l:Tx}(z:OwnL t h v 1 kl l)(d:l=[]->v = .slice none 0 0)(D:l.length<=1000) :
  ∃(l':Tx) (h':HL),aD cc ab 77 [.v v] (ka aa h) [] (ka aa h')/\l'.Perm l/\l'.Pairwise (λa b=>a<=b)/\OwnL t h' v 1 kl l'/\(∀(j:Nat) o,h[j]?=some o->blk v≠some j->h'[j]?=some o)/\h'.length=h.length:=by
 rcases z with⟨rfl,rfl⟩|⟨id,cx,rfl,A,u,B⟩
 ·exact⟨[],h,UL,M9 _,.nil,.inl ⟨rfl,rfl⟩,λj o m _=>m,rfl⟩
 have x:0<l.length:=qbl.2 λe=>by have:=d e;cases this
 have c:(ka aa h)[id]?=some (.cells ((l.map Int.ofNat).flatMap gY) 1 true):=by
  rw[←Kb];unfold ka;rw[AX,u];rfl
 have f:=vb (C:=cc) layI (λp w=>by kernel_rfl) (n:=l.length) (cx:=cx) c (by rw[A9]) x (by omega);obtain⟨l',r,q⟩:=jv (vc (l.map Int.ofNat));have g:(ka aa h).set id (.cells ((E4 (l.map Int.ofNat)).flatMap gY) 1 true)=ka aa (h.set id (.o (.cells (l'.flatMap kl) 1 true))):=by
  rw[tE,Kb,q];rfl
 rw[g]at f;refine⟨l',_,⟨⟨[lv],[]⟩,[.leaf (.v (.slice (some ⟨id,0,qs 1⟩) l.length cx))],[],rfl,⟨rfl,rfl,λy i=>by
  simp only[qas,PX,or_false]at i;subst i;exact aB (show aC (.slice (some ⟨id,0,qs 1⟩) l.length cx)=true by simp[aC,noLoc,aR,bh,aX,aJ,aA,qs])⟩,⟨rfl,rfl,λy i=>by cases i⟩,⟨0,.inr ⟨.inl (by kernel_rfl),f⟩⟩⟩,r,?_,mN (l':=l') u A B r.length_eq,λj o m k=>aW m λe=>k (by rw[e];rfl),by rw[Bo]⟩
 have s:=Iw (l.map Int.ofNat);rw[←q,qbi]at s;exact s.imp λh=>qdc.1 h
end Go.Am
end

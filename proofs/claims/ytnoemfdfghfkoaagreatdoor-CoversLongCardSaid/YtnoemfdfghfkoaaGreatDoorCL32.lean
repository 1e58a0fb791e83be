/-
  PART 32 OF THE PROOF: L8 Cd1 Gl1 Cd2 (no conditions).
-/
import Derived.Test.YtnoemfdfghfkoaaGreatDoorCL31
import Derived.SevenTiedAt
import Derived.Test.YtnoemfdfghfkoaaGreatDoorCards
import Derived.Test.YtnoemfdfghfkoaaGreatDoorTie
set_option linter.unusedSectionVars false
set_option linter.unusedSimpArgs false
set_option linter.unusedVariables false
set_option linter.constructorNameAsVariable false
set_option linter.defProp false
/-
 CoversLong: whatever the argument is.
-/
set_option maxRecDepth 100000
namespace Go.Am
open Sx Go.Proofs
theorem kF{x0:Int}(h:0≤x0∧x0≤255):Cc 3 [.i x0] [.b true]:=by
 obtain⟨m,rfl⟩ : ∃m:Nat,x0 = .ofNat m:=⟨x0.toNat,by show x0=((x0.toNat:Nat):Int);omega⟩
 have hr:isAns [.b true] (wr3 runB [.i (.ofNat m)] .empty tell)=true:=by
  rw[long_mod]
  have:m%3=0∨m%3=1∨m%3=2:=by omega
  rcases this with e|e|e
  ·rw[e];exact lo0
  ·rw[e];exact lo1
  ·rw[e];exact lo2
 exact known_c (ok3r runB_ok) rfl (by kernel_rfl) rfl hr
end Go.Am
/-
 ARGUMENTS WITHOUT ADDRESSES,as the row reads them.
-/
namespace Go.Am
namespace Sx
open Go.ChangeShapes Go.WideShapes Go.ChangeAt Go.WideMaps Go.WideElems Go.RowKit
noncomputable def FitC:List LK→List Value→Prop
 | [],[]=>True
 | .i k :: ks,v :: vs=>(∃n,v = .int k n∧(Lit.int k n).wf=true)∧FitC ks vs
 | .b :: ks,v :: vs=>(∃t,v = .bool t)∧FitC ks vs
 |_,_=>False
noncomputable def FitL:List LK→List Lf→Prop
 | [],[]=>True
 | .i k :: ks,.i n :: ls=>(Lit.int k n).wf=true∧FitL ks ls
 | .b :: ks,.b _ :: ls=>FitL ks ls
 |_,_=>False
theorem FitC.len:∀ {ks:List LK} {vs:List Value},FitC ks vs→vs.length=ks.length
 | [],[],_=>rfl
 | .i k :: ks,v :: vs,h=>by simp[FitC.len h.2]
 | .b :: ks,v :: vs,h=>by simp[FitC.len h.2]
 | .v :: _,_,h=>by cases h
 | [],_ :: _,h=>by cases h
 | .i _ :: _,[],h=>by cases h
 | .b :: _,[],h=>by cases h
theorem FitC.app:∀ {ks ks':List LK} {vs vs':List Value},FitC ks vs→FitC ks' vs'→FitC (ks++ks') (vs++vs')
 | [],_,[],_,_,h=>h
 | .i k :: ks,_,v :: vs,_,h,h'=>⟨h.1,FitC.app h.2 h'⟩
 | .b :: ks,_,v :: vs,_,h,h'=>⟨h.1,FitC.app h.2 h'⟩
 | .v :: _,_,_,_,h,_=>by cases h
 | [],_,_ :: _,_,h,_=>by cases h
 | .i _ :: _,_,[],_,h,_=>by cases h
 | .b :: _,_,[],_,h,_=>by cases h
theorem FitL.app:∀ {ks ks':List LK} {vs vs':List Lf},FitL ks vs→FitL ks' vs'→FitL (ks++ks') (vs++vs')
 | [],_,[],_,_,h=>h
 | .i k :: ks,_,.i v :: vs,_,h,h'=>⟨h.1,FitL.app h.2 h'⟩
 | .b :: ks,_,.b v :: vs,_,h,h'=>FitL.app (ks:=ks) h h'
 | .v :: _,_,_,_,h,_=>by cases h
 | [],_,_ :: _,_,h,_=>by cases h
 | .i _ :: _,_,[],_,h,_=>by cases h
 | .b :: _,_,[],_,h,_=>by cases h
 | .i _ :: _,_,.b _ :: _,_,h,_=>by cases h
 | .i _ :: _,_,.v _ :: _,_,h,_=>by cases h
 | .b :: _,_,.i _ :: _,_,h,_=>by cases h
 | .b :: _,_,.v _ :: _,_,h,_=>by cases h
theorem FitC.sl:∀ {ks:List LK} {vs:List Value},FitC ks vs→∃xs:List SL,xs.map SL.val=vs∧aB xs ks=true∧(∀x∈xs,x.good)∧FitL ks (xs.map SL.lf)
 | [],[],_=>⟨[],rfl,rfl,fun _ h=>(by cases h),trivial⟩
 | .i k :: ks,v :: vs,h=>by
  obtain⟨⟨n,rfl,hw⟩,h2⟩:=h
  obtain⟨xs,a,b,c,d⟩:=FitC.sl h2
  exact⟨.i k n :: xs,by simp[a,SL.val],by simp[aB,b,SL.is,cB],fun x hx=>by
   rcases List.mem_cons.1 hx with rfl|hx
   ·trivial
   ·exact c x hx,hw,d⟩
 | .b :: ks,v :: vs,h=>by
  obtain⟨⟨n,rfl⟩,h2⟩:=h
  obtain⟨xs,a,b,c,d⟩:=FitC.sl h2
  exact⟨.b n :: xs,by simp[a,SL.val],by simp[aB,b,SL.is],fun x hx=>by
   rcases List.mem_cons.1 hx with rfl|hx
   ·trivial
   ·exact c x hx,d⟩
 | .v :: _,_,h=>by cases h
 | [],_ :: _,h=>by cases h
 | .i _ :: _,[],h=>by cases h
 | .b :: _,[],h=>by cases h
noncomputable def flatF(F:TypeId→Option (List LK)):List Field→Nat→Option (List LK)
 | [],_=>some []
 |f :: fs,off=>match Nat.beq f.offset off,F f.type with
  |true,some ks=>(flatF F fs (off+ks.length)).map (ks ++ ·)
  |_,_=>none
noncomputable def flatT(P:Program):Nat→TypeId→Option (List LK)
 |0,_=>none
 |d+1,t=>match P.underlying t with
  |some (.int k)=>some [.i k]
  |some .bool=>some [.b]
  |some (.struct fs)=>match flatF (flatT P d) fs.toList 0 with
   |some ks=>match Nat.beq ks.length (P.cellsOf t)with
    |true=>some ks
    |false=>none
   |none=>none
  |_=>none
noncomputable def skT(P:Program)(t:TypeId):Option SK:=
 match P.underlying t with
 |some (.int k)=>some (.leaf (.i k))
 |some .bool=>some (.leaf .b)
 |some (.struct _)=>(flatT P 20 t).map .agg
 |_=>none
section
variable {H:Type} {enc:TypeId×Value→H} {P:Program}
theorem nn{α:Type}(l:List α)(c:Nat):l.take (l.take c).length=l.take c:=by
 rw[List.length_take]
 rcases Nat.le_total c l.length with h|h
 ·rw[Nat.min_eq_left h]
 ·rw[Nat.min_eq_right h,List.take_of_length_le h,List.take_of_length_le (Nat.le_refl _)]
theorem qg{F:TypeId→Option (List LK)}{w:World}{base:Nat}{sp:Nat→Bool}{held:Bool}{fuel:Nat}
  (hF:∀t ks,F t=some ks→∀cs (x:DataW H×List MemPlace),DataW.trod enc P w base sp held fuel t cs=some x→x.2=[]∧FitC ks cs∧∀w' b' s' h',DataW.trod enc P w' b' s' h' fuel t cs=some x) (cs:List Value) :
  ∀(fs:List Field) (off:Nat) (ks:List LK) (xs:List (DataW H×List MemPlace)),flatF F fs off=some ks→fs.mapM (fun f=>DataW.trod enc P w base sp held fuel f.type ((cs.drop f.offset).take (P.cellsOf f.type)))=some xs→
   xs.flatMap (·.2)=[]∧FitC ks ((cs.drop off).take ks.length)∧∀w' b' s' h',fs.mapM (fun f=>DataW.trod enc P w' b' s' h' fuel f.type ((cs.drop f.offset).take (P.cellsOf f.type)))=some xs
 | [],off,ks,xs,h1,h2=>by
  simp only[flatF,Option.some.injEq]at h1
  subst h1
  simp only[List.mapM_nil,Option.pure_def,Option.some.injEq]at h2
  subst h2
  refine⟨rfl,by simp[FitC],fun _ _ _ _=>by simp⟩
 |f :: fs,off,ks,xs,h1,h2=>by
  simp only[flatF]at h1
  split at h1
  ·rename_i k1 e1 e2
   obtain⟨k2,e3,rfl⟩:=Option.map_eq_some_iff.1 h1
   have e1:=Nat.eq_of_beq_eq_true e1
   rw[List.mapM_cons]at h2
   obtain⟨x,h3,h2⟩:=Option.bind_eq_some_iff.1 h2
   obtain⟨ys,h4,h2⟩:=Option.bind_eq_some_iff.1 h2
   cases h2
   obtain⟨a1,a2,a3⟩:=hF _ _ e2 _ _ h3
   obtain⟨b1,b2,b3⟩:=qg hF cs fs _ k2 ys e3 h4
   refine⟨by simp[a1,b1],?_,fun w' b' s' h'=>?_⟩
   ·rw[List.length_append,List.take_add]
    refine FitC.app ?_ (by rw[List.drop_drop];exact b2)
    have hl:=FitC.len a2
    rw[e1]at a2 hl
    rw[←hl,nn]
    exact a2
   ·rw[List.mapM_cons,a3 w' b' s' h',b3 w' b' s' h']
    rfl
  ·cases h1
theorem qh:∀(d:Nat) (t:TypeId) (ks:List LK),flatT P d t=some ks→∀(w:World) (base:Nat) (sp:Nat→Bool) (held:Bool) (fuel:Nat) (cs:List Value) (x:DataW H×List MemPlace),DataW.trod enc P w base sp held fuel t cs=some x→
  x.2=[]∧FitC ks cs∧∀w' b' s' h',DataW.trod enc P w' b' s' h' fuel t cs=some x
 |0,_,_,h=>by cases h
 |d+1,t,ks,h=>by
  intro w base sp held fuel cs x hx
  simp only[flatT]at h
  split at h
  ·rename_i k e
   cases h
   obtain⟨n,rfl,rfl,hw⟩:=DataW.trod_int e hx
   refine⟨rfl,⟨⟨n,rfl,hw⟩,trivial⟩,fun w' b' s' h'=>?_⟩
   cases fuel with
   |zero=>simp[DataW.trod]at hx
   |succ m=>simp[DataW.trod,e,hw]
  ·rename_i e
   cases h
   obtain⟨n,rfl,rfl⟩:=DataW.trod_bool e hx
   refine⟨rfl,⟨⟨n,rfl⟩,trivial⟩,fun w' b' s' h'=>?_⟩
   cases fuel with
   |zero=>simp[DataW.trod]at hx
   |succ m=>simp[DataW.trod,e]
  ·rename_i fs e
   split at h
   ·rename_i k2 e2
    split at h
    ·rename_i e3
     cases h
     have e3:=Nat.eq_of_beq_eq_true e3
     cases fuel with
     |zero=>simp[DataW.trod]at hx
     |succ m=>
      simp only[DataW.trod,e]at hx
      split at hx
      ·rename_i hl
       obtain⟨xs,h5,rfl⟩:=Option.map_eq_some_iff.1 hx
       obtain⟨a1,a2,a3⟩:=qg (fun t ks h cs x hx=>qh d t ks h w base sp held m cs x hx) cs fs.toList 0 ks xs e2 h5
       rw[List.drop_zero,List.take_of_length_le (by omega)]at a2
       refine⟨a1,a2,fun w' b' s' h'=>?_⟩
       simp only[DataW.trod,e,hl,if_true]
       rw[a3 w' b' s' h']
       rfl
      ·cases hx
    ·cases h
   ·cases h
  ·cases h
theorem open_flat{w:World}{r:Reach}{b0 base:Nat}{sp:Nat→Bool}{held:Bool}{t:TypeId}{sk:SK}{v:Value}{d:DataW H}{ps:List MemPlace}(h:skT P t=some sk)(hval:Value.okWide P w r b0 t v)(hd:DataW.Trod enc P w base sp held t v d ps) :
  ∃x:S0,v=x.val∧x.is sk=true∧x.good∧FitL (skKs sk) (x.cells.map SL.lf)∧ps=[]∧∀w' b' s' h',DataW.Trod enc P w' b' s' h' t v d []:=by
 unfold skT at h
 split at h
 ·rename_i k e
  cases h
  obtain⟨n,rfl,rfl,rfl,hw⟩:=open_int e hval hd
  refine⟨.leaf (.i k n),rfl,by simp[S0.is,SL.is,cB],fun x hx=>?_,⟨hw,trivial⟩,rfl,fun w' b' s' h'=>shut_int e hw⟩
  simp only[S0.cells,List.mem_singleton]at hx
  subst hx;trivial
 ·rename_i e
  cases h
  obtain⟨n,rfl,rfl,rfl⟩:=open_bool e hval hd
  refine⟨.leaf (.b n),rfl,rfl,fun x hx=>?_,trivial,rfl,fun w' b' s' h'=>shut_bool e n⟩
  simp only[S0.cells,List.mem_singleton]at hx
  subst hx;trivial
 ·rename_i fs e
  obtain⟨ks,e2,rfl⟩:=Option.map_eq_some_iff.1 h
  obtain⟨cs,rfl,hc⟩:=okWide_struct e hval
  obtain⟨fuel,hf⟩:=hd
  obtain⟨a1,a2,a3⟩:=qh 20 t ks e2 w base sp held fuel _ _ hf
  obtain⟨xs,b1,b2,b3,b4⟩:=FitC.sl a2
  have a1:ps=[]:=a1
  subst a1
  refine⟨.agg xs,?_,b2,b3,b4,rfl,fun w' b' s' h'=>⟨fuel,a3 w' b' s' h'⟩⟩
  show Value.agg cs = .agg ⟨xs.map SL.val⟩
  rw[b1]
  rfl
 ·cases h
noncomputable def skTs(P:Program):List TypeId→Option (List SK)
 | []=>some []
 |t :: ts=>match skT P t,skTs P ts with
  |some k,some ks=>some (k :: ks)
  |_,_=>none
theorem oA{w:World}{b0 base:Nat}{r:Reach}{sp:Nat→Bool}{held:Bool}:∀(ts:List TypeId) (sks:List SK) (vs:List Value) (ds:List (DataW H)) (ps:List MemPlace),skTs P ts=some sks→
  (∀(j:Nat) t v,ts[j]? = some t→vs[j]? = some v→Value.okWide P w r b0 t v)→DataW.TrodAll enc P w base sp held ts vs ds ps→
  ∃xs:List S0,vs=af xs∧bn xs sks=true∧(∀x∈xs,x.good)∧FitL (sks.flatMap skKs) (bv xs)∧ps=[]∧∀w' b' s' h',DataW.TrodAll enc P w' b' s' h' ts vs ds []
 | [],sks,[],[],ps,h,_,ht=>by
  cases h
  have ht:ps=[]:=ht
  exact⟨[],rfl,rfl,fun _ h=>(by cases h),trivial,ht,fun _ _ _ _=>rfl⟩
 |t :: ts,sks,v :: vs,d :: ds,ps,h,hv,ht=>by
  simp only[skTs]at h
  split at h
  ·rename_i k ks e1 e2
   cases h
   obtain⟨p,q,h1,h2,rfl⟩:=ht
   obtain⟨x,a1,a2,a3,a4,rfl,a6⟩:=open_flat e1 (hv 0 t v rfl rfl) h1
   obtain⟨xs,b1,b2,b3,b4,rfl,b6⟩:=oA ts ks vs ds q e2 (fun j t v h1 h2=>hv (j+1) t v h1 h2) h2
   refine⟨x :: xs,by rw[a1,b1];rfl,by simp[bn,a2,b2],fun y hy=>?_,?_,rfl,fun w' b' s' h'=>⟨[],[],a6 w' b' s' h',b6 w' b' s' h',rfl⟩⟩
   ·rcases List.mem_cons.1 hy with rfl|hy
    ·exact a3
    ·exact b3 y hy
   ·exact FitL.app a4 b4
  ·cases h
 | [],_,_ :: _,_,_,_,_,ht=>by cases ht
 | [],_,[],_ :: _,_,_,_,ht=>by cases ht
 |_ :: _,_,[],_,_,_,_,ht=>by cases ht
 |_ :: _,_,_ :: _,[],_,_,_,ht=>by cases ht
end
section
variable [Val]
theorem nF{C:Cfg}{N:FuncId→Option Nat}{Sg:FuncId→Option Sig}(hm:C.P.follows .mixedOrders=true){g:FuncId}{sg:Sig}(hs:Sg g=some sg){ls rs:List Lf}(hc:Ct C N Sg g ls rs){xs ys:List S0}(h1:bn xs sg.ps=true)(h2:bv xs=ls)(h3:bn ys sg.rs=true)(h4:bv ys=rs)(H:List HObj) :
  cd C g (af xs) H (dt (af ys)) H:=by
 let _:Kno:=KnoC C N
 obtain⟨sg',xs',ys',c1,c2,c3,c4⟩:=hc H
 rw[hs]at c1
 cases c1
 obtain⟨w1,_⟩:=bS c2.1 h1 (c2.2.1.trans h2.symm)
 obtain⟨w2,_⟩:=bS c3.1 h3 (c3.2.1.trans h4.symm)
 rw[w1,w2]at c4
 exact eU hm c4
end
end Sx
end Go.Am
namespace Go.Am
namespace Sx
theorem FitL.i{k:IntKind}{ks:List LK}{ls:List Lf}(h:FitL (.i k :: ks) ls):∃n r,ls = .i n :: r∧(Lit.int k n).wf=true∧FitL ks r:=by
 match ls,h with
 | .i n :: r,h=>exact⟨n,r,rfl,h.1,h.2⟩
theorem FitL.b{ks:List LK}{ls:List Lf}(h:FitL (.b :: ks) ls):∃n r,ls = .b n :: r∧FitL ks r:=by
 match ls,h with
 | .b n :: r,h=>exact⟨n,r,rfl,h⟩
theorem FitL.nil{ls:List Lf}(h:FitL [] ls):ls=[]:=by
 match ls,h with
 | [],_=>rfl
theorem wf_u8{n:Int}(h:(Lit.int .u8 n).wf=true):0≤n∧n≤255:=by
 simp only[Lit.wf,Bool.and_eq_true,decide_eq_true_eq]at h
 exact h
theorem kw{H:Type}{enc:TypeId×Value→H}{P:Program}{w:World}{base:Nat}{sp:Nat→Bool}{held:Bool}:∀ {ts:List TypeId} {vs:List Value} {ds:List (DataW H)} {ps:List MemPlace},DataW.TrodAll enc P w base sp held ts vs ds ps→ds.length=ts.length
 | [],[],[],_,_=>rfl
 |_ :: _,_ :: _,_ :: _,_,h=>by
  obtain⟨p,q,_,h2,_⟩:=h
  simp[kw h2]
 | [],_ :: _,_,_,h=>by cases h
 | [],[],_ :: _,_,h=>by cases h
 |_ :: _,[],_,_,h=>by cases h
 |_ :: _,_ :: _,[],_,h=>by cases h
end Sx
end Go.Am

/-
 LISTED VARIABLES THAT HOLD SLICES.
-/
namespace Go.Am
namespace Sx
open Go.ChangeShapes Go.WideShapes Go.ChangeAt Go.WideMaps Go.WideElems Go.RowKit
noncomputable def un1(P:Program)(e:TypeId)(d:DataW Unit):Option Value:=match unD P 4 e d with
 |some [x]=>some x
 |_=>none
noncomputable def un1s(P:Program)(e:TypeId):List (DataW Unit)→Option (List Value)
 | []=>some []
 |d :: l=>match un1 P e d,un1s P e l with
  |some x,some xs=>some (x :: xs)
  |_,_=>none
theorem qU{P:Program}{e:TypeId}:∀ {l:List (DataW Unit)} {xs:List Value},un1s P e l=some xs→xs.length=l.length∧∀(i:Nat) d x,l[i]? = some d→xs[i]? = some x→unD P 4 e d=some [x]
 | [],xs,h=>by
  simp only[un1s,Option.some.injEq]at h
  subst h
  exact⟨rfl,fun i d x h=>by simp at h⟩
 |d :: l,xs,h=>by
  simp only[un1s]at h
  split at h
  ·rename_i x ys h1 h2
   cases h
   obtain⟨h3,h4⟩:=qU h2
   refine⟨by simp[h3],fun i d' x' hd hx=>?_⟩
   cases i with
   |zero=>
    simp only[List.getElem?_cons_zero,Option.some.injEq]at hd hx
    subst hd hx
    unfold un1 at h1
    split at h1
    ·cases h1;assumption
    ·cases h1
   |succ i=>exact h4 i d' x' (by simpa using hd) (by simpa using hx)
  ·cases h
theorem laid_sl{P:Program}{w:World}{laid:List (String×DataW Unit)}{ps:List MemPlace}(h:DataW.LaidVars P w laid ps){n:String}{ds:List (DataW Unit)}(hm:(n,.agg ds)∈laid)
  {g:Nat} {t st e:TypeId} {m:Nat}
  (hg:P.globalNamed n=some g) (ht:(P.globals[g]?).map (·.type)=some t) (hu:P.underlying t=some (.array m st)) (hs:P.underlying st=some (.slice e)) (hc1:P.cellsOf st=1) (hc2:P.cellsOf e=1) (hct:P.cellsOf t=m) :
  ∃c ty fr,w.heap[g]? = some (.cells c ty fr)∧c.size=m∧∀i,i<m→∀es xs,ds[i]? = some (.slice es [])→un1s P e es=some xs→xs≠[]→
   ∃b o cap,c[i]? = some (.slice (some ⟨b,o,none⟩) xs.length cap)∧xs.length≤cap∧∀(j:Nat) x,xs[j]? = some x→w.cell? ⟨b,o+j,none⟩=some x:=by
 induction laid generalizing ps with
 |nil=>cases hm
 |cons x l ih=>
  obtain⟨n0,d0⟩:=x
  obtain⟨g0,t0,cs,fuel,p,q,a1,a2,a3,a4,a5,a6⟩:=h
  rcases List.mem_cons.1 hm with he|hm
  ·cases he
   rw[hg]at a1;cases a1
   rw[ht]at a2;cases a2
   unfold World.var? at a3
   rw[hg]at a3
   simp only[Option.bind_some]at a3
   split at a3
   ·rename_i c ty fr hh
    cases a3
    obtain⟨ys,k,rfl,hx,hl,hyl,hy⟩:=DataW.trod_array hu a4
    rw[hct]at hl
    have hcs:cs.size=m:=by simpa using hl
    refine⟨cs,ty,fr,hh,hcs,fun i hi es xs hd hxs hne=>?_⟩
    have h1:=hy i hi
    rw[hc1,Nat.mul_one]at h1
    have h2:(cs.toList.drop i).take 1=[cs[i]'(by omega)]:=by
     rw[List.drop_eq_getElem_cons (by simpa using(by omega:i<cs.size))]
     simp
    rw[h2]at h1
    obtain⟨hx1,_⟩:=Prod.mk.inj hx
    have hx2:=DataW.agg.inj hx1
    obtain⟨y,hy1⟩ : ∃y,ys[i]? = some y:=⟨ys[i]'(by omega),List.getElem?_eq_getElem (by omega)⟩
    rw[hy1]at h1
    have hy2:y.1 = .slice es []:=by
     rw[hx2,List.getElem?_map,hy1]at hd
     exact Option.some.inj hd
    rcases DataW.trod_slice hs h1 with⟨_,rfl⟩|⟨a,len,cap,elems,rest,k',rfl,hv,rfl,_,hlc,_,hlen,hel,_,_⟩
    ·cases hy2
    ·obtain⟨hes,_⟩:=DataW.slice.inj hy2
     have hv:cs[i]'(by omega) = .slice (some a) len cap:=by simpa using hv
     obtain⟨hn1,hn2⟩:=qU hxs
     have hle:xs.length=len:=by rw[hn1,←hes,List.length_map,hlen]
     subst hle
     have key:∀(j:Nat) x,xs[j]? = some x→w.cell? ((a.add j).add 0)=some x:=by
      intro j x hj
      have hjl:j<xs.length:=(List.getElem?_eq_some_iff.1 hj).1
      have h3:=hel j hjl
      rw[hc2,Nat.mul_one]at h3
      obtain⟨z,hz⟩ : ∃z,elems[j]? = some z:=⟨elems[j]'(by omega),List.getElem?_eq_getElem (by omega)⟩
      rw[hz]at h3
      obtain⟨ci,h4,h5⟩:=Option.bind_eq_some_iff.1 h3
      have h6:es[j]? = some z.1:=by rw[←hes,List.getElem?_map,hz];rfl
      have h7:=unD_ok 4 e _ _ (hn2 j _ _ h6 hj) _ ci z.2 h5
      have h8:=(World.cells?_some h4).2.2 0 (by omega)
      rw[h7]at h8
      simpa using h8
     obtain⟨b,o,sp⟩:=a
     have hsp:sp=none:=by
      cases xs with
      |nil=>exact absurd rfl hne
      |cons x xs=>
       have h9:=key 0 x rfl
       unfold World.cell? at h9
       split at h9
       ·cases sp with
        |none=>rfl
        |some k=>simp[Addr.add]at h9
       ·cases h9
     subst hsp
     refine⟨b,o,cap,?_,hlc,fun j x hj=>?_⟩
     ·rw[Array.getElem?_eq_getElem (by omega),hv]
     ·have h9:((⟨b,o,none⟩ : Addr).add j).add 0=⟨b,o+j,none⟩:=by
       unfold Addr.add
       by_cases hj0:j=0<;>simp[hj0]
      rw[←h9]
      exact key j x hj
   ·cases a3
  ·exact ih a5 hm
theorem cells_at [Val] [Glo]{w:World}{b o:Nat}{xs:List Value}(hx:xs.all flat=true)(hne:xs≠[])(h:∀(j:Nat) x,xs[j]? = some x→w.cell? ⟨b,o+j,none⟩=some x) :
  b<w.heap.size∧∃c e fr,w.heap[b]? = some (.cells c e fr)∧aV (fun _=>none) xs c o:=by
 have g:∀(j:Nat) x,xs[j]? = some x→∃c e fr,w.heap[b]? = some (.cells c e fr)∧c[o+j]? = some x:=by
  intro j x hj
  have h1:=h j x hj
  unfold World.cell? at h1
  split at h1
  ·rename_i c e fr hc
   exact⟨c,e,fr,hc,by simpa using h1⟩
  ·cases h1
 cases xs with
 |nil=>exact absurd rfl hne
 |cons x xs=>
  obtain⟨c,e,fr,h1,_⟩:=g 0 x rfl
  refine⟨(Array.getElem?_eq_some_iff.1 h1).1,c,e,fr,h1,fun i v hv=>?_⟩
  obtain⟨c',e',fr',h2,h3⟩:=g i v hv
  rw[h1]at h2
  cases h2
  exact⟨v,h3,.of_flat (List.all_eq_true.1 hx v (List.mem_of_getElem? hv))⟩
end Sx
end Go.Am

/-
 WHAT THE ROWS SAY OF THE LISTED VARIABLES: four tables,of which one holds slices.
-/
set_option maxRecDepth 100000
namespace Go.Proofs.YtnoemfdfghfkoaaGreatDoor
open Go Go.Am Go.Am.Sx
open Go.ChangeShapes Go.WideShapes Go.ChangeAt Go.WideMaps Go.WideElems Go.RowKit
abbrev laidC:List (String×DataW Unit):= [("crimp/moves.turns",Rows.laid_crimp_moves_turns), ("crimp/cells.quarters",Rows.laid_crimp_cells_quarters), ("crimp/covers.heads",Rows.laid_crimp_covers_heads), ("crimp/covers.ways",Rows.laid_crimp_covers_ways)]
theorem name0 : Tryz.prog.globalNamed "crimp/covers.ways" = some 0:=by kernel_rfl
theorem name1 : Tryz.prog.globalNamed "crimp/covers.heads" = some 1:=by kernel_rfl
theorem name2 : Tryz.prog.globalNamed "crimp/moves.turns" = some 2:=by kernel_rfl
theorem name3 : Tryz.prog.globalNamed "crimp/cells.quarters" = some 3:=by kernel_rfl
abbrev gloOf(p0 p1 p2 p3:Nat×Nat):Glo:=⟨fun g=>match g - 1000000 with
 |0=>p0
 |1=>p1
 |2=>p2
 |_=>p3⟩
theorem of_laid{W:World}(h:laidMetH Tryz.prog laidC W):∃_:Glo,∀(g:Nat) (vs:List Value),cc.G g=some vs→
  gBlk g<W.heap.size∧vs.all aL=true∧∃c e fr,W.heap[gBlk g]? = some (.cells c e fr)∧aV (fun _=>none) vs c (gOff g):=by
 rw[MakeChecks.laidMetH_plain _ _ _ (by kernel_rfl)]at h
 obtain⟨ps,h,_,_⟩:=h
 obtain⟨c,ty,fr,hc,hsz,hall⟩:=laid_sl h (n := "crimp/covers.ways") (ds:=[.slice [.lit (.int .u8 1)] [],.slice [.lit (.int .u8 2),.lit (.int .u8 4),.lit (.int .u8 1)] [],.slice [.lit (.int .u8 2),.lit (.int .u8 1)] [],.slice [.lit (.int .u8 2),.lit (.int .u8 3),.lit (.int .u8 1)] []])
  (List.mem_cons_of_mem _ (List.mem_cons_of_mem _ (List.mem_cons_of_mem _ List.mem_cons_self))) (t:=52) (st:=26) (e:=54) (m:=4) name0 (by kernel_rfl) (by kernel_rfl) (by kernel_rfl) (by kernel_rfl) (by kernel_rfl) (by kernel_rfl)
 obtain⟨b0,o0,k0,e0,l0,m0⟩:=hall 0 (by omega) _ gl4 rfl (by kernel_rfl) (by simp[gl4])
 obtain⟨b1,o1,k1,e1,l1,m1⟩:=hall 1 (by omega) _ gl5 rfl (by kernel_rfl) (by simp[gl5])
 obtain⟨b2,o2,k2,e2,l2,m2⟩:=hall 2 (by omega) _ gl6 rfl (by kernel_rfl) (by simp[gl6])
 obtain⟨b3,o3,k3,e3,l3,m3⟩:=hall 3 (by omega) _ gl7 rfl (by kernel_rfl) (by simp[gl7])
 let G:Glo:=gloOf (b0,o0) (b1,o1) (b2,o2) (b3,o3)
 refine⟨G,fun g vs hg=>?_⟩
 have hcell:=gl_cell g vs hg
 unfold cc at hg
 simp only at hg
 split at hg
 ·cases hg
  exact jy (by kernel_rfl) hcell (by kernel_rfl) (gJ h "crimp/moves.turns" Rows.laid_crimp_moves_turns List.mem_cons_self 2 184 8 gl2 name2 (by kernel_rfl) (by kernel_rfl))
 ·cases hg
  exact jy (by kernel_rfl) hcell (by kernel_rfl) (gJ h "crimp/cells.quarters" Rows.laid_crimp_cells_quarters (List.mem_cons_of_mem _ List.mem_cons_self) 3 209 8 gl3 name3 (by kernel_rfl) (by kernel_rfl))
 ·cases hg
  exact jy (by kernel_rfl) hcell (by kernel_rfl) (gJ h "crimp/covers.heads" Rows.laid_crimp_covers_heads (List.mem_cons_of_mem _ (List.mem_cons_of_mem _ List.mem_cons_self)) 1 50 8 gl1 name1 (by kernel_rfl) (by kernel_rfl))
 ·cases hg
  rw[pm (by kernel_rfl),pn (by kernel_rfl)]
  refine⟨(Array.getElem?_eq_some_iff.1 hc).1,hcell,c,ty,fr,hc,fun i v hv=>?_⟩
  rw[Nat.zero_add]
  match i,hv with
  |0,hv=>cases hv;exact⟨_,e0,.gslice l0 (.inl rfl)⟩
  |1,hv=>cases hv;exact⟨_,e1,.gslice l1 (.inl rfl)⟩
  |2,hv=>cases hv;exact⟨_,e2,.gslice l2 (.inl rfl)⟩
  |3,hv=>cases hv;exact⟨_,e3,.gslice l3 (.inl rfl)⟩
  |n+4,hv=>simp[gl0]at hv
 ·have go:∀(n b o:Nat) (xs:List Value),Nat.beq g n=true→gBlk n=b→gOff n=o→xs.all flat=true→xs≠[]→xs=vs→(∀(j:Nat) x,xs[j]? = some x→W.cell? ⟨b,o+j,none⟩=some x)→
    gBlk g<W.heap.size∧vs.all aL=true∧∃c e fr,W.heap[gBlk g]? = some (.cells c e fr)∧aV (fun _=>none) vs c (gOff g):=by
   intro n b o xs hb h1 h2 h3 h4 h5 h6
   obtain rfl:=Nat.eq_of_beq_eq_true hb
   obtain⟨a1,a2⟩:=cells_at h3 h4 h6
   subst h1 h2 h5
   exact⟨a1,hcell,a2⟩
  unfold glx at hg
  split at hg
  ·exact go 1000000 b0 o0 gl4 (by assumption) rfl rfl (by kernel_rfl) (by simp[gl4]) (Option.some.inj hg) m0
  ·exact go 1000001 b1 o1 gl5 (by assumption) rfl rfl (by kernel_rfl) (by simp[gl5]) (Option.some.inj hg) m1
  ·exact go 1000002 b2 o2 gl6 (by assumption) rfl rfl (by kernel_rfl) (by simp[gl6]) (Option.some.inj hg) m2
  ·exact go 1000003 b3 o3 gl7 (by assumption) rfl rfl (by kernel_rfl) (by simp[gl7]) (Option.some.inj hg) m3
  ·cases hg
theorem own:ownKnob Tryz.prog.godebug=none:=by kernel_rfl
theorem door_met(os:Os)(args:Array Value):laidMetH Tryz.prog laidC ((World.doorLaid Tryz.prog 400 os).forCall (fun _ _=>0) ⟨#[],args,[]⟩).memory:=
 laidMetH_of_parts3 (fuel:=8) (laidMet_of_run' 8 (by kernel_rfl) (by kernel_rfl)) (by kernel_rfl) (by kernel_rfl)
end Go.Proofs.YtnoemfdfghfkoaaGreatDoor


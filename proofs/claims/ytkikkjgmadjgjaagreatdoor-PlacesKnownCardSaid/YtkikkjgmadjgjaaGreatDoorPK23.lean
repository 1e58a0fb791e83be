/-
  PART 23 OF THE PROOF: E24 Cd1 Cd2 (no conditions).
-/
import Derived.Test.YtkikkjgmadjgjaaGreatDoorPK22
import Derived.SevenTiedAt
import Derived.Test.YtkikkjgmadjgjaaGreatDoorCards
import Derived.Test.YtkikkjgmadjgjaaGreatDoorTie
set_option linter.unusedSectionVars false
set_option linter.unusedSimpArgs false
set_option linter.unusedVariables false
set_option linter.constructorNameAsVariable false
set_option linter.defProp false
/-
 PlacesKnown: the run.
-/
set_option maxRecDepth 100000
namespace Go.Am
open Sx Go.Proofs
noncomputable def krA:List KR1:=kr1++(kr2++(kr3++(kr4++(kr5++(kr6++(kr7++(kr8++(kr9++(kr10++(kr11++(kr12++(kr13++(kr14)))))))))))))
theorem krA_ok:AllR krA:=kr1_ok.app (kr2_ok.app (kr3_ok.app (kr4_ok.app (kr5_ok.app (kr6_ok.app (kr7_ok.app (kr8_ok.app (kr9_ok.app (kr10_ok.app (kr11_ok.app (kr12_ok.app (kr13_ok.app (kr14_ok)))))))))))))
theorem runA_ok:Cok (runKR krA runL):=mK aq krA_ok
theorem jB(_:(0:Int)≤0):Cc 3 [] [.b true]:=known_c (ok3 runA_ok) rfl (by kernel_rfl) rfl (by kernel_rfl)
end Go.Am

/-
 ARGUMENTS WITHOUT ADDRESSES,as the row reads them.
-/
namespace Go.Am
namespace Sx
open Go.ChangeShapes Go.WideShapes Go.ChangeAt Go.WideMaps Go.WideElems Go.RowKit
noncomputable def FitC:List LK→List Value→Prop
 | [],[]=>True
 | .i k :: ks,v :: vs=>(∃n,v = .int k n∧(Lit.int k n).wf=true)∧FitC ks vs
 | .b :: ks,v :: vs=>(∃t,v = .bool t)∧FitC ks vs
 |_,_=>False
noncomputable def FitL:List LK→List Lf→Prop
 | [],[]=>True
 | .i k :: ks,.i n :: ls=>(Lit.int k n).wf=true∧FitL ks ls
 | .b :: ks,.b _ :: ls=>FitL ks ls
 |_,_=>False
theorem FitC.len:∀ {ks:List LK} {vs:List Value},FitC ks vs→vs.length=ks.length
 | [],[],_=>rfl
 | .i k :: ks,v :: vs,h=>by simp[FitC.len h.2]
 | .b :: ks,v :: vs,h=>by simp[FitC.len h.2]
 | .v :: _,_,h=>by cases h
 | [],_ :: _,h=>by cases h
 | .i _ :: _,[],h=>by cases h
 | .b :: _,[],h=>by cases h
theorem FitC.app:∀ {ks ks':List LK} {vs vs':List Value},FitC ks vs→FitC ks' vs'→FitC (ks++ks') (vs++vs')
 | [],_,[],_,_,h=>h
 | .i k :: ks,_,v :: vs,_,h,h'=>⟨h.1,FitC.app h.2 h'⟩
 | .b :: ks,_,v :: vs,_,h,h'=>⟨h.1,FitC.app h.2 h'⟩
 | .v :: _,_,_,_,h,_=>by cases h
 | [],_,_ :: _,_,h,_=>by cases h
 | .i _ :: _,_,[],_,h,_=>by cases h
 | .b :: _,_,[],_,h,_=>by cases h
theorem FitL.app:∀ {ks ks':List LK} {vs vs':List Lf},FitL ks vs→FitL ks' vs'→FitL (ks++ks') (vs++vs')
 | [],_,[],_,_,h=>h
 | .i k :: ks,_,.i v :: vs,_,h,h'=>⟨h.1,FitL.app h.2 h'⟩
 | .b :: ks,_,.b v :: vs,_,h,h'=>FitL.app (ks:=ks) h h'
 | .v :: _,_,_,_,h,_=>by cases h
 | [],_,_ :: _,_,h,_=>by cases h
 | .i _ :: _,_,[],_,h,_=>by cases h
 | .b :: _,_,[],_,h,_=>by cases h
 | .i _ :: _,_,.b _ :: _,_,h,_=>by cases h
 | .i _ :: _,_,.v _ :: _,_,h,_=>by cases h
 | .b :: _,_,.i _ :: _,_,h,_=>by cases h
 | .b :: _,_,.v _ :: _,_,h,_=>by cases h
theorem FitC.sl:∀ {ks:List LK} {vs:List Value},FitC ks vs→∃xs:List SL,xs.map SL.val=vs∧aE xs ks=true∧(∀x∈xs,x.good)∧FitL ks (xs.map SL.lf)
 | [],[],_=>⟨[],rfl,rfl,fun _ h=>(by cases h),trivial⟩
 | .i k :: ks,v :: vs,h=>by
  obtain⟨⟨n,rfl,hw⟩,h2⟩:=h
  obtain⟨xs,a,b,c,d⟩:=FitC.sl h2
  exact⟨.i k n :: xs,by simp[a,SL.val],by simp[aE,b,SL.is,cA],fun x hx=>by
   rcases List.mem_cons.1 hx with rfl|hx
   ·trivial
   ·exact c x hx,hw,d⟩
 | .b :: ks,v :: vs,h=>by
  obtain⟨⟨n,rfl⟩,h2⟩:=h
  obtain⟨xs,a,b,c,d⟩:=FitC.sl h2
  exact⟨.b n :: xs,by simp[a,SL.val],by simp[aE,b,SL.is],fun x hx=>by
   rcases List.mem_cons.1 hx with rfl|hx
   ·trivial
   ·exact c x hx,d⟩
 | .v :: _,_,h=>by cases h
 | [],_ :: _,h=>by cases h
 | .i _ :: _,[],h=>by cases h
 | .b :: _,[],h=>by cases h
noncomputable def flatF(F:TypeId→Option (List LK)):List Field→Nat→Option (List LK)
 | [],_=>some []
 |f :: fs,off=>match Nat.beq f.offset off,F f.type with
  |true,some ks=>(flatF F fs (off+ks.length)).map (ks ++ ·)
  |_,_=>none
noncomputable def flatT(P:Program):Nat→TypeId→Option (List LK)
 |0,_=>none
 |d+1,t=>match P.underlying t with
  |some (.int k)=>some [.i k]
  |some .bool=>some [.b]
  |some (.struct fs)=>match flatF (flatT P d) fs.toList 0 with
   |some ks=>match Nat.beq ks.length (P.cellsOf t)with
    |true=>some ks
    |false=>none
   |none=>none
  |_=>none
noncomputable def skT(P:Program)(t:TypeId):Option SK:=
 match P.underlying t with
 |some (.int k)=>some (.leaf (.i k))
 |some .bool=>some (.leaf .b)
 |some (.struct _)=>(flatT P 20 t).map .agg
 |_=>none
section
variable {H:Type} {enc:TypeId×Value→H} {P:Program}
theorem mT{α:Type}(l:List α)(c:Nat):l.take (l.take c).length=l.take c:=by
 rw[List.length_take]
 rcases Nat.le_total c l.length with h|h
 ·rw[Nat.min_eq_left h]
 ·rw[Nat.min_eq_right h,List.take_of_length_le h,List.take_of_length_le (Nat.le_refl _)]
theorem pO{F:TypeId→Option (List LK)}{w:World}{base:Nat}{sp:Nat→Bool}{held:Bool}{fuel:Nat}
  (hF:∀t ks,F t=some ks→∀cs (x:DataW H×List MemPlace),DataW.trod enc P w base sp held fuel t cs=some x→x.2=[]∧FitC ks cs∧∀w' b' s' h',DataW.trod enc P w' b' s' h' fuel t cs=some x) (cs:List Value) :
  ∀(fs:List Field) (off:Nat) (ks:List LK) (xs:List (DataW H×List MemPlace)),flatF F fs off=some ks→fs.mapM (fun f=>DataW.trod enc P w base sp held fuel f.type ((cs.drop f.offset).take (P.cellsOf f.type)))=some xs→
   xs.flatMap (·.2)=[]∧FitC ks ((cs.drop off).take ks.length)∧∀w' b' s' h',fs.mapM (fun f=>DataW.trod enc P w' b' s' h' fuel f.type ((cs.drop f.offset).take (P.cellsOf f.type)))=some xs
 | [],off,ks,xs,h1,h2=>by
  simp only[flatF,Option.some.injEq]at h1
  subst h1
  simp only[List.mapM_nil,Option.pure_def,Option.some.injEq]at h2
  subst h2
  refine⟨rfl,by simp[FitC],fun _ _ _ _=>by simp⟩
 |f :: fs,off,ks,xs,h1,h2=>by
  simp only[flatF]at h1
  split at h1
  ·rename_i k1 e1 e2
   obtain⟨k2,e3,rfl⟩:=Option.map_eq_some_iff.1 h1
   have e1:=Nat.eq_of_beq_eq_true e1
   rw[List.mapM_cons]at h2
   obtain⟨x,h3,h2⟩:=Option.bind_eq_some_iff.1 h2
   obtain⟨ys,h4,h2⟩:=Option.bind_eq_some_iff.1 h2
   cases h2
   obtain⟨a1,a2,a3⟩:=hF _ _ e2 _ _ h3
   obtain⟨b1,b2,b3⟩:=pO hF cs fs _ k2 ys e3 h4
   refine⟨by simp[a1,b1],?_,fun w' b' s' h'=>?_⟩
   ·rw[List.length_append,List.take_add]
    refine FitC.app ?_ (by rw[List.drop_drop];exact b2)
    have hl:=FitC.len a2
    rw[e1]at a2 hl
    rw[←hl,mT]
    exact a2
   ·rw[List.mapM_cons,a3 w' b' s' h',b3 w' b' s' h']
    rfl
  ·cases h1
theorem pP:∀(d:Nat) (t:TypeId) (ks:List LK),flatT P d t=some ks→∀(w:World) (base:Nat) (sp:Nat→Bool) (held:Bool) (fuel:Nat) (cs:List Value) (x:DataW H×List MemPlace),DataW.trod enc P w base sp held fuel t cs=some x→
  x.2=[]∧FitC ks cs∧∀w' b' s' h',DataW.trod enc P w' b' s' h' fuel t cs=some x
 |0,_,_,h=>by cases h
 |d+1,t,ks,h=>by
  intro w base sp held fuel cs x hx
  simp only[flatT]at h
  split at h
  ·rename_i k e
   cases h
   obtain⟨n,rfl,rfl,hw⟩:=DataW.trod_int e hx
   refine⟨rfl,⟨⟨n,rfl,hw⟩,trivial⟩,fun w' b' s' h'=>?_⟩
   cases fuel with
   |zero=>simp[DataW.trod]at hx
   |succ m=>simp[DataW.trod,e,hw]
  ·rename_i e
   cases h
   obtain⟨n,rfl,rfl⟩:=DataW.trod_bool e hx
   refine⟨rfl,⟨⟨n,rfl⟩,trivial⟩,fun w' b' s' h'=>?_⟩
   cases fuel with
   |zero=>simp[DataW.trod]at hx
   |succ m=>simp[DataW.trod,e]
  ·rename_i fs e
   split at h
   ·rename_i k2 e2
    split at h
    ·rename_i e3
     cases h
     have e3:=Nat.eq_of_beq_eq_true e3
     cases fuel with
     |zero=>simp[DataW.trod]at hx
     |succ m=>
      simp only[DataW.trod,e]at hx
      split at hx
      ·rename_i hl
       obtain⟨xs,h5,rfl⟩:=Option.map_eq_some_iff.1 hx
       obtain⟨a1,a2,a3⟩:=pO (fun t ks h cs x hx=>pP d t ks h w base sp held m cs x hx) cs fs.toList 0 ks xs e2 h5
       rw[List.drop_zero,List.take_of_length_le (by omega)]at a2
       refine⟨a1,a2,fun w' b' s' h'=>?_⟩
       simp only[DataW.trod,e,hl,if_true]
       rw[a3 w' b' s' h']
       rfl
      ·cases hx
    ·cases h
   ·cases h
  ·cases h
theorem open_flat{w:World}{r:Reach}{b0 base:Nat}{sp:Nat→Bool}{held:Bool}{t:TypeId}{sk:SK}{v:Value}{d:DataW H}{ps:List MemPlace}(h:skT P t=some sk)(hval:Value.okWide P w r b0 t v)(hd:DataW.Trod enc P w base sp held t v d ps) :
  ∃x:S0,v=x.val∧x.is sk=true∧x.good∧FitL (skKs sk) (x.cells.map SL.lf)∧ps=[]∧∀w' b' s' h',DataW.Trod enc P w' b' s' h' t v d []:=by
 unfold skT at h
 split at h
 ·rename_i k e
  cases h
  obtain⟨n,rfl,rfl,rfl,hw⟩:=open_int e hval hd
  refine⟨.leaf (.i k n),rfl,by simp[S0.is,SL.is,cA],fun x hx=>?_,⟨hw,trivial⟩,rfl,fun w' b' s' h'=>shut_int e hw⟩
  simp only[S0.cells,List.mem_singleton]at hx
  subst hx;trivial
 ·rename_i e
  cases h
  obtain⟨n,rfl,rfl,rfl⟩:=open_bool e hval hd
  refine⟨.leaf (.b n),rfl,rfl,fun x hx=>?_,trivial,rfl,fun w' b' s' h'=>shut_bool e n⟩
  simp only[S0.cells,List.mem_singleton]at hx
  subst hx;trivial
 ·rename_i fs e
  obtain⟨ks,e2,rfl⟩:=Option.map_eq_some_iff.1 h
  obtain⟨cs,rfl,hc⟩:=okWide_struct e hval
  obtain⟨fuel,hf⟩:=hd
  obtain⟨a1,a2,a3⟩:=pP 20 t ks e2 w base sp held fuel _ _ hf
  obtain⟨xs,b1,b2,b3,b4⟩:=FitC.sl a2
  have a1:ps=[]:=a1
  subst a1
  refine⟨.agg xs,?_,b2,b3,b4,rfl,fun w' b' s' h'=>⟨fuel,a3 w' b' s' h'⟩⟩
  show Value.agg cs = .agg ⟨xs.map SL.val⟩
  rw[b1]
  rfl
 ·cases h
noncomputable def skTs(P:Program):List TypeId→Option (List SK)
 | []=>some []
 |t :: ts=>match skT P t,skTs P ts with
  |some k,some ks=>some (k :: ks)
  |_,_=>none
theorem ob{w:World}{b0 base:Nat}{r:Reach}{sp:Nat→Bool}{held:Bool}:∀(ts:List TypeId) (sks:List SK) (vs:List Value) (ds:List (DataW H)) (ps:List MemPlace),skTs P ts=some sks→
  (∀(j:Nat) t v,ts[j]? = some t→vs[j]? = some v→Value.okWide P w r b0 t v)→DataW.TrodAll enc P w base sp held ts vs ds ps→
  ∃xs:List S0,vs=am xs∧bk xs sks=true∧(∀x∈xs,x.good)∧FitL (sks.flatMap skKs) (bu xs)∧ps=[]∧∀w' b' s' h',DataW.TrodAll enc P w' b' s' h' ts vs ds []
 | [],sks,[],[],ps,h,_,ht=>by
  cases h
  have ht:ps=[]:=ht
  exact⟨[],rfl,rfl,fun _ h=>(by cases h),trivial,ht,fun _ _ _ _=>rfl⟩
 |t :: ts,sks,v :: vs,d :: ds,ps,h,hv,ht=>by
  simp only[skTs]at h
  split at h
  ·rename_i k ks e1 e2
   cases h
   obtain⟨p,q,h1,h2,rfl⟩:=ht
   obtain⟨x,a1,a2,a3,a4,rfl,a6⟩:=open_flat e1 (hv 0 t v rfl rfl) h1
   obtain⟨xs,b1,b2,b3,b4,rfl,b6⟩:=ob ts ks vs ds q e2 (fun j t v h1 h2=>hv (j+1) t v h1 h2) h2
   refine⟨x :: xs,by rw[a1,b1];rfl,by simp[bk,a2,b2],fun y hy=>?_,?_,rfl,fun w' b' s' h'=>⟨[],[],a6 w' b' s' h',b6 w' b' s' h',rfl⟩⟩
   ·rcases List.mem_cons.1 hy with rfl|hy
    ·exact a3
    ·exact b3 y hy
   ·exact FitL.app a4 b4
  ·cases h
 | [],_,_ :: _,_,_,_,_,ht=>by cases ht
 | [],_,[],_ :: _,_,_,_,ht=>by cases ht
 |_ :: _,_,[],_,_,_,_,ht=>by cases ht
 |_ :: _,_,_ :: _,[],_,_,_,ht=>by cases ht
end
section
variable [Val]
theorem nl{C:Cfg}{N:FuncId→Option Nat}{Sg:FuncId→Option Sig}(hm:C.P.follows .mixedOrders=true){g:FuncId}{sg:Sig}(hs:Sg g=some sg){ls rs:List Lf}(hc:Ct C N Sg g ls rs){xs ys:List S0}(h1:bk xs sg.ps=true)(h2:bu xs=ls)(h3:bk ys sg.rs=true)(h4:bu ys=rs)(H:List HObj) :
  cv C g (am xs) H (dl (am ys)) H:=by
 let _:Kno:=KnoC C N
 obtain⟨sg',xs',ys',c1,c2,c3,c4⟩:=hc H
 rw[hs]at c1
 cases c1
 obtain⟨w1,_⟩:=cJ c2.1 h1 (c2.2.1.trans h2.symm)
 obtain⟨w2,_⟩:=cJ c3.1 h3 (c3.2.1.trans h4.symm)
 rw[w1,w2]at c4
 exact eP hm c4
end
end Sx
end Go.Am
namespace Go.Am
namespace Sx
theorem FitL.i{k:IntKind}{ks:List LK}{ls:List Lf}(h:FitL (.i k :: ks) ls):∃n r,ls = .i n :: r∧(Lit.int k n).wf=true∧FitL ks r:=by
 match ls,h with
 | .i n :: r,h=>exact⟨n,r,rfl,h.1,h.2⟩
theorem FitL.b{ks:List LK}{ls:List Lf}(h:FitL (.b :: ks) ls):∃n r,ls = .b n :: r∧FitL ks r:=by
 match ls,h with
 | .b n :: r,h=>exact⟨n,r,rfl,h⟩
theorem FitL.nil{ls:List Lf}(h:FitL [] ls):ls=[]:=by
 match ls,h with
 | [],_=>rfl
theorem jN{H:Type}{enc:TypeId×Value→H}{P:Program}{w:World}{base:Nat}{sp:Nat→Bool}{held:Bool}:∀ {ts:List TypeId} {vs:List Value} {ds:List (DataW H)} {ps:List MemPlace},DataW.TrodAll enc P w base sp held ts vs ds ps→ds.length=ts.length
 | [],[],[],_,_=>rfl
 |_ :: _,_ :: _,_ :: _,_,h=>by
  obtain⟨p,q,_,h2,_⟩:=h
  simp[jN h2]
 | [],_ :: _,_,_,h=>by cases h
 | [],[],_ :: _,_,h=>by cases h
 |_ :: _,[],_,_,h=>by cases h
 |_ :: _,_ :: _,[],_,h=>by cases h
end Sx
end Go.Am

/-
 WHAT THE ROW SAYS OF THE LISTED VARIABLES.
-/
set_option maxRecDepth 100000
namespace Go.Proofs.YtkikkjgmadjgjaaGreatDoor
open Go Go.Am Go.Am.Sx
open Go.ChangeShapes Go.WideShapes Go.ChangeAt Go.WideMaps Go.WideElems Go.RowKit
abbrev laidC:List (String×DataW Unit):= [("crimp/moves.turns",Rows.laid_crimp_moves_turns), ("crimp/cells.quarters",Rows.laid_crimp_cells_quarters), ("crimp/patterns.others",Rows.laid_crimp_patterns_others), ("crimp/corners.ways",Rows.laid_crimp_corners_ways)]
theorem name1 : Tryz.prog.globalNamed "crimp/moves.turns" = some 1:=by kernel_rfl
theorem name2 : Tryz.prog.globalNamed "crimp/cells.quarters" = some 2:=by kernel_rfl
theorem name0 : Tryz.prog.globalNamed "crimp/patterns.others" = some 0:=by kernel_rfl
theorem name3 : Tryz.prog.globalNamed "crimp/corners.ways" = some 3:=by kernel_rfl
theorem of_laid{W:World}(h:laidMetH Tryz.prog laidC W)(g:Nat)(vs:List Value)(hg:cc.G g=some vs) :
  g<W.heap.size∧vs.all aR=true∧vs.all flat=true∧∃c e fr,W.heap[g]? = some (.cells c e fr)∧c.toList=vs:=by
 rw[MakeChecks.laidMetH_plain _ _ _ (by kernel_rfl)]at h
 obtain⟨ps,h,_,_⟩:=h
 have main:∃c e fr,W.heap[g]? = some (.cells c e fr)∧c.toList=vs:=by
  unfold cc at hg
  simp only at hg
  split at hg
  ·cases hg
   exact eV h "crimp/moves.turns" Rows.laid_crimp_moves_turns List.mem_cons_self 1 132 8 gl1 name1 (by kernel_rfl) (by kernel_rfl)
  ·cases hg
   exact eV h "crimp/cells.quarters" Rows.laid_crimp_cells_quarters (List.mem_cons_of_mem _ List.mem_cons_self) 2 250 8 gl2 name2 (by kernel_rfl) (by kernel_rfl)
  ·cases hg
   exact eV h "crimp/patterns.others" Rows.laid_crimp_patterns_others (List.mem_cons_of_mem _ (List.mem_cons_of_mem _ List.mem_cons_self)) 0 127 8 gl0 name0 (by kernel_rfl) (by kernel_rfl)
  ·cases hg
   exact eV h "crimp/corners.ways" Rows.laid_crimp_corners_ways (List.mem_cons_of_mem _ (List.mem_cons_of_mem _ (List.mem_cons_of_mem _ List.mem_cons_self))) 3 259 8 gl3 name3 (by kernel_rfl) (by kernel_rfl)
  ·cases hg
 refine⟨?_,gl_cell g vs hg,je g vs hg,main⟩
 obtain⟨c,e,fr,h1,_⟩:=main
 rcases Nat.lt_or_ge g W.heap.size with h|h
 ·exact h
 ·rw[Array.getElem?_eq_none h]at h1;cases h1
theorem own:ownKnob Tryz.prog.godebug=none:=by kernel_rfl
theorem door_met(os:Os)(args:Array Value):laidMetH Tryz.prog laidC ((World.doorLaid Tryz.prog 400 os).forCall (fun _ _=>0) ⟨#[],args,[]⟩).memory:=
 laidMetH_of_parts3 (fuel:=8) (laidMet_of_run' 8 (by kernel_rfl) (by kernel_rfl)) (by kernel_rfl) (by kernel_rfl)
end Go.Proofs.YtkikkjgmadjgjaaGreatDoor


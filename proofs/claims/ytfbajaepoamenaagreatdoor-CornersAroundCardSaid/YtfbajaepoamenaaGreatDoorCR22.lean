/-
  PART 22 OF THE PROOF: Cd1 Cs1 Cs2 Cs3 E21 Cd2 (no conditions).
-/
import Derived.Test.YtfbajaepoamenaaGreatDoorCR21
import Derived.SevenTiedAt
import Derived.Test.YtfbajaepoamenaaGreatDoorCards
import Derived.Test.YtfbajaepoamenaaGreatDoorTie
set_option linter.unusedSectionVars false
set_option linter.unusedSimpArgs false
set_option linter.unusedVariables false
set_option linter.constructorNameAsVariable false
set_option linter.defProp false
/-
 ARGUMENTS WITHOUT ADDRESSES,as the row reads them.
-/
namespace Go.Am
namespace Sx
open Go.ChangeShapes Go.WideShapes Go.ChangeAt Go.WideMaps Go.WideElems Go.RowKit
noncomputable def FitC:List LK→List Value→Prop
 | [],[]=>True
 | .i k :: ks,v :: vs=>(∃n,v = .int k n∧(Lit.int k n).wf=true)∧FitC ks vs
 | .b :: ks,v :: vs=>(∃t,v = .bool t)∧FitC ks vs
 |_,_=>False
noncomputable def FitL:List LK→List Lf→Prop
 | [],[]=>True
 | .i k :: ks,.i n :: ls=>(Lit.int k n).wf=true∧FitL ks ls
 | .b :: ks,.b _ :: ls=>FitL ks ls
 |_,_=>False
theorem FitC.len:∀ {ks:List LK} {vs:List Value},FitC ks vs→vs.length=ks.length
 | [],[],_=>rfl
 | .i k :: ks,v :: vs,h=>by simp[FitC.len h.2]
 | .b :: ks,v :: vs,h=>by simp[FitC.len h.2]
 | .v :: _,_,h=>by cases h
 | [],_ :: _,h=>by cases h
 | .i _ :: _,[],h=>by cases h
 | .b :: _,[],h=>by cases h
theorem FitC.app:∀ {ks ks':List LK} {vs vs':List Value},FitC ks vs→FitC ks' vs'→FitC (ks++ks') (vs++vs')
 | [],_,[],_,_,h=>h
 | .i k :: ks,_,v :: vs,_,h,h'=>⟨h.1,FitC.app h.2 h'⟩
 | .b :: ks,_,v :: vs,_,h,h'=>⟨h.1,FitC.app h.2 h'⟩
 | .v :: _,_,_,_,h,_=>by cases h
 | [],_,_ :: _,_,h,_=>by cases h
 | .i _ :: _,_,[],_,h,_=>by cases h
 | .b :: _,_,[],_,h,_=>by cases h
theorem FitL.app:∀ {ks ks':List LK} {vs vs':List Lf},FitL ks vs→FitL ks' vs'→FitL (ks++ks') (vs++vs')
 | [],_,[],_,_,h=>h
 | .i k :: ks,_,.i v :: vs,_,h,h'=>⟨h.1,FitL.app h.2 h'⟩
 | .b :: ks,_,.b v :: vs,_,h,h'=>FitL.app (ks:=ks) h h'
 | .v :: _,_,_,_,h,_=>by cases h
 | [],_,_ :: _,_,h,_=>by cases h
 | .i _ :: _,_,[],_,h,_=>by cases h
 | .b :: _,_,[],_,h,_=>by cases h
 | .i _ :: _,_,.b _ :: _,_,h,_=>by cases h
 | .i _ :: _,_,.v _ :: _,_,h,_=>by cases h
 | .b :: _,_,.i _ :: _,_,h,_=>by cases h
 | .b :: _,_,.v _ :: _,_,h,_=>by cases h
theorem FitC.sl:∀ {ks:List LK} {vs:List Value},FitC ks vs→∃xs:List SL,xs.map SL.val=vs∧aO xs ks=true∧(∀x∈xs,x.good)∧FitL ks (xs.map SL.lf)
 | [],[],_=>⟨[],rfl,rfl,fun _ h=>(by cases h),trivial⟩
 | .i k :: ks,v :: vs,h=>by
  obtain⟨⟨n,rfl,hw⟩,h2⟩:=h
  obtain⟨xs,a,b,c,d⟩:=FitC.sl h2
  exact⟨.i k n :: xs,by simp[a,SL.val],by simp[aO,b,SL.is,cZ],fun x hx=>by
   rcases List.mem_cons.1 hx with rfl|hx
   ·trivial
   ·exact c x hx,hw,d⟩
 | .b :: ks,v :: vs,h=>by
  obtain⟨⟨n,rfl⟩,h2⟩:=h
  obtain⟨xs,a,b,c,d⟩:=FitC.sl h2
  exact⟨.b n :: xs,by simp[a,SL.val],by simp[aO,b,SL.is],fun x hx=>by
   rcases List.mem_cons.1 hx with rfl|hx
   ·trivial
   ·exact c x hx,d⟩
 | .v :: _,_,h=>by cases h
 | [],_ :: _,h=>by cases h
 | .i _ :: _,[],h=>by cases h
 | .b :: _,[],h=>by cases h
noncomputable def flatF(F:TypeId→Option (List LK)):List Field→Nat→Option (List LK)
 | [],_=>some []
 |f :: fs,off=>match Nat.beq f.offset off,F f.type with
  |true,some ks=>(flatF F fs (off+ks.length)).map (ks ++ ·)
  |_,_=>none
noncomputable def flatT(P:Program):Nat→TypeId→Option (List LK)
 |0,_=>none
 |d+1,t=>match P.underlying t with
  |some (.int k)=>some [.i k]
  |some .bool=>some [.b]
  |some (.struct fs)=>match flatF (flatT P d) fs.toList 0 with
   |some ks=>match Nat.beq ks.length (P.cellsOf t)with
    |true=>some ks
    |false=>none
   |none=>none
  |_=>none
section
variable {H:Type} {enc:TypeId×Value→H} {P:Program}
theorem hP{α:Type}(l:List α)(c:Nat):l.take (l.take c).length=l.take c:=by
 rw[List.length_take]
 rcases Nat.le_total c l.length with h|h
 ·rw[Nat.min_eq_left h]
 ·rw[Nat.min_eq_right h,List.take_of_length_le h,List.take_of_length_le (Nat.le_refl _)]
theorem qq{F:TypeId→Option (List LK)}{w:World}{base:Nat}{sp:Nat→Bool}{held:Bool}{fuel:Nat}
  (hF:∀t ks,F t=some ks→∀cs (x:DataW H×List MemPlace),DataW.trod enc P w base sp held fuel t cs=some x→x.2=[]∧FitC ks cs∧∀w' b' s' h',DataW.trod enc P w' b' s' h' fuel t cs=some x) (cs:List Value) :
  ∀(fs:List Field) (off:Nat) (ks:List LK) (xs:List (DataW H×List MemPlace)),flatF F fs off=some ks→fs.mapM (fun f=>DataW.trod enc P w base sp held fuel f.type ((cs.drop f.offset).take (P.cellsOf f.type)))=some xs→
   xs.flatMap (·.2)=[]∧FitC ks ((cs.drop off).take ks.length)∧∀w' b' s' h',fs.mapM (fun f=>DataW.trod enc P w' b' s' h' fuel f.type ((cs.drop f.offset).take (P.cellsOf f.type)))=some xs
 | [],off,ks,xs,h1,h2=>by
  simp only[flatF,Option.some.injEq]at h1
  subst h1
  simp only[List.mapM_nil,Option.pure_def,Option.some.injEq]at h2
  subst h2
  refine⟨rfl,by simp[FitC],fun _ _ _ _=>by simp⟩
 |f :: fs,off,ks,xs,h1,h2=>by
  simp only[flatF]at h1
  split at h1
  ·rename_i k1 e1 e2
   obtain⟨k2,e3,rfl⟩:=Option.map_eq_some_iff.1 h1
   have e1:=Nat.eq_of_beq_eq_true e1
   rw[List.mapM_cons]at h2
   obtain⟨x,h3,h2⟩:=Option.bind_eq_some_iff.1 h2
   obtain⟨ys,h4,h2⟩:=Option.bind_eq_some_iff.1 h2
   cases h2
   obtain⟨a1,a2,a3⟩:=hF _ _ e2 _ _ h3
   obtain⟨b1,b2,b3⟩:=qq hF cs fs _ k2 ys e3 h4
   refine⟨by simp[a1,b1],?_,fun w' b' s' h'=>?_⟩
   ·rw[List.length_append,List.take_add]
    refine FitC.app ?_ (by rw[List.drop_drop];exact b2)
    have hl:=FitC.len a2
    rw[e1]at a2 hl
    rw[←hl,hP]
    exact a2
   ·rw[List.mapM_cons,a3 w' b' s' h',b3 w' b' s' h']
    rfl
  ·cases h1
theorem mT:∀(d:Nat) (t:TypeId) (ks:List LK),flatT P d t=some ks→∀(w:World) (base:Nat) (sp:Nat→Bool) (held:Bool) (fuel:Nat) (cs:List Value) (x:DataW H×List MemPlace),DataW.trod enc P w base sp held fuel t cs=some x→
  x.2=[]∧FitC ks cs∧∀w' b' s' h',DataW.trod enc P w' b' s' h' fuel t cs=some x
 |0,_,_,h=>by cases h
 |d+1,t,ks,h=>by
  intro w base sp held fuel cs x hx
  simp only[flatT]at h
  split at h
  ·rename_i k e
   cases h
   obtain⟨n,rfl,rfl,hw⟩:=DataW.trod_int e hx
   refine⟨rfl,⟨⟨n,rfl,hw⟩,trivial⟩,fun w' b' s' h'=>?_⟩
   cases fuel with
   |zero=>simp[DataW.trod]at hx
   |succ m=>simp[DataW.trod,e,hw]
  ·rename_i e
   cases h
   obtain⟨n,rfl,rfl⟩:=DataW.trod_bool e hx
   refine⟨rfl,⟨⟨n,rfl⟩,trivial⟩,fun w' b' s' h'=>?_⟩
   cases fuel with
   |zero=>simp[DataW.trod]at hx
   |succ m=>simp[DataW.trod,e]
  ·rename_i fs e
   split at h
   ·rename_i k2 e2
    split at h
    ·rename_i e3
     cases h
     have e3:=Nat.eq_of_beq_eq_true e3
     cases fuel with
     |zero=>simp[DataW.trod]at hx
     |succ m=>
      simp only[DataW.trod,e]at hx
      split at hx
      ·rename_i hl
       obtain⟨xs,h5,rfl⟩:=Option.map_eq_some_iff.1 hx
       obtain⟨a1,a2,a3⟩:=qq (fun t ks h cs x hx=>mT d t ks h w base sp held m cs x hx) cs fs.toList 0 ks xs e2 h5
       rw[List.drop_zero,List.take_of_length_le (by omega)]at a2
       refine⟨a1,a2,fun w' b' s' h'=>?_⟩
       simp only[DataW.trod,e,hl,if_true]
       rw[a3 w' b' s' h']
       rfl
      ·cases hx
    ·cases h
   ·cases h
  ·cases h
end
section
variable [Val]
end
end Sx
end Go.Am
namespace Go.Am
namespace Sx
theorem FitL.i{k:IntKind}{ks:List LK}{ls:List Lf}(h:FitL (.i k :: ks) ls):∃n r,ls = .i n :: r∧(Lit.int k n).wf=true∧FitL ks r:=by
 match ls,h with
 | .i n :: r,h=>exact⟨n,r,rfl,h.1,h.2⟩
theorem FitL.b{ks:List LK}{ls:List Lf}(h:FitL (.b :: ks) ls):∃n r,ls = .b n :: r∧FitL ks r:=by
 match ls,h with
 | .b n :: r,h=>exact⟨n,r,rfl,h⟩
theorem FitL.nil{ls:List Lf}(h:FitL [] ls):ls=[]:=by
 match ls,h with
 | [],_=>rfl
theorem wf_u8{n:Int}(h:(Lit.int .u8 n).wf=true):0≤n∧n≤255:=by
 simp only[Lit.wf,Bool.and_eq_true,decide_eq_true_eq]at h
 exact h
theorem kT{H:Type}{enc:TypeId×Value→H}{P:Program}{w:World}{base:Nat}{sp:Nat→Bool}{held:Bool}:∀ {ts:List TypeId} {vs:List Value} {ds:List (DataW H)} {ps:List MemPlace},DataW.TrodAll enc P w base sp held ts vs ds ps→ds.length=ts.length
 | [],[],[],_,_=>rfl
 |_ :: _,_ :: _,_ :: _,_,h=>by
  obtain⟨p,q,_,h2,_⟩:=h
  simp[kT h2]
 | [],_ :: _,_,_,h=>by cases h
 | [],[],_ :: _,_,h=>by cases h
 |_ :: _,[],_,_,h=>by cases h
 |_ :: _,_ :: _,[],_,h=>by cases h
end Sx
end Go.Am

/-
 ARGUMENTS WITH SLICES,as the row reads them: what is known of them at first.
-/
set_option maxRecDepth 100000
namespace Go.Am
namespace Sx
open Go.ChangeShapes Go.WideShapes Go.ChangeAt Go.WideMaps Go.WideElems Go.RowKit
inductive CK2 where
 |i (k:IntKind)
 |b
 |s (ks:List LK)
def CK2.lk:CK2→LK
 | .i k=>.i k
 | .b=>.b
 | .s _=>.v
def SlFit(w:World)(ks:List LK)(v:Value):Prop:=
 v = .slice none 0 0∨∃(a:Addr) (len cap:Nat) (c:Array Value) (t:TypeId) (fr:Nat×Nat) (cells:List Value),v = .slice (some a) len cap∧a.spot=none∧len≤cap∧cap≤maxLen∧
  w.heap[a.block]? = some (.cells c t fr)∧(cap=0∨a.off+cap*ks.length≤c.size)∧cells.length=len*ks.length∧(∀(i:Nat) v,cells[i]? = some v→c[a.off+i]? = some v)∧
  ∀i,i<len→FitC ks ((cells.drop (i*ks.length)).take ks.length)
def CellFit(w:World):CK2→Value→Prop
 | .i k,v=>∃n,v = .int k n∧(Lit.int k n).wf=true
 | .b,v=>∃t,v = .bool t
 | .s ks,v=>SlFit w ks v
def df(w:World):List CK2→List Value→Prop
 | [],[]=>True
 |k :: ks,v :: vs=>CellFit w k v∧df w ks vs
 |_,_=>False
def bd(h:HL):List CK2→List Lf→Prop
 | [],[]=>True
 | .i k :: ks,.i n :: ls=>(Lit.int k n).wf=true∧bd h ks ls
 | .b :: ks,.b _ :: ls=>bd h ks ls
 | .s es :: ks,.v x :: ls=>(∃n cells,SlC h x es.length n cells∧n≤maxLen∧∀i,i<n→FitC es ((cells.drop (i*es.length)).take es.length))∧bd h ks ls
 |_,_=>False
theorem df.len{w:World}:∀ {ks:List CK2} {vs:List Value},df w ks vs→vs.length=ks.length
 | [],[],_=>rfl
 |_ :: _,_ :: _,h=>by simp[df.len h.2]
 | [],_ :: _,h=>by cases h
 |_ :: _,[],h=>by cases h
theorem df.app{w:World}:∀ {ks ks':List CK2} {vs vs':List Value},df w ks vs→df w ks' vs'→df w (ks++ks') (vs++vs')
 | [],_,[],_,_,h=>h
 |_ :: _,_,_ :: _,_,h,h'=>⟨h.1,df.app h.2 h'⟩
 | [],_,_ :: _,_,h,_=>by cases h
 |_ :: _,_,[],_,h,_=>by cases h
theorem bd.app{h:HL}:∀ {ks ks':List CK2} {vs vs':List Lf},bd h ks vs→bd h ks' vs'→bd h (ks++ks') (vs++vs')
 | [],_,[],_,_,h=>h
 | .i _ :: ks,_,.i _ :: _,_,h,h'=>⟨h.1,bd.app (ks:=ks) h.2 h'⟩
 | .b :: ks,_,.b _ :: _,_,h,h'=>bd.app (ks:=ks) h h'
 | .s _ :: ks,_,.v _ :: _,_,h,h'=>⟨h.1,bd.app (ks:=ks) h.2 h'⟩
 | [],_,_ :: _,_,h,_=>by cases h
 | .i _ :: _,_,[],_,h,_=>by cases h
 | .b :: _,_,[],_,h,_=>by cases h
 | .s _ :: _,_,[],_,h,_=>by cases h
 | .i _ :: _,_,.b _ :: _,_,h,_=>by cases h
 | .i _ :: _,_,.v _ :: _,_,h,_=>by cases h
 | .b :: _,_,.i _ :: _,_,h,_=>by cases h
 | .b :: _,_,.v _ :: _,_,h,_=>by cases h
 | .s _ :: _,_,.i _ :: _,_,h,_=>by cases h
 | .s _ :: _,_,.b _ :: _,_,h,_=>by cases h
noncomputable def ckF(F:TypeId→Option (List CK2)):List Field→Nat→Option (List CK2)
 | [],_=>some []
 |f :: fs,off=>match Nat.beq f.offset off,F f.type with
  |true,some ks=>(ckF F fs (off+ks.length)).map (ks ++ ·)
  |_,_=>none
noncomputable def ckT(P:Program):Nat→TypeId→Option (List CK2)
 |0,_=>none
 |d+1,t=>match P.underlying t with
  |some (.int k)=>some [.i k]
  |some .bool=>some [.b]
  |some (.slice e)=>match flatT P 20 e with
   |some ks=>match Nat.beq (P.cellsOf e) ks.length&&Nat.blt 0 ks.length with
    |true=>some [.s ks]
    |false=>none
   |none=>none
  |some (.struct fs)=>match ckF (ckT P d) fs.toList 0 with
   |some ks=>match Nat.beq ks.length (P.cellsOf t)with
    |true=>some ks
    |false=>none
   |none=>none
  |_=>none
section
variable {H:Type} {enc:TypeId×Value→H} {P:Program}
def Lies(w:World)(v:Value):Prop:=∀a len cap,v = .slice (some a) len cap→a.spot=none∧∃c t fr,w.heap[a.block]? = some (.cells c t fr)
theorem gp{α β:Type}{f g:α→Option β}:∀ {l:List α},(∀x∈l,f x=g x)→l.mapM f=l.mapM g
 | [],_=>rfl
 |a :: l,h=>by
  rw[List.mapM_cons,List.mapM_cons,h a List.mem_cons_self,gp fun x hx=>h x (List.mem_cons_of_mem _ hx)]
theorem bn{a:Addr}(h:a.spot=none)(i:Nat):a.add i=⟨a.block,a.off+i,none⟩:=by
 obtain⟨b,o,s⟩:=a
 cases h
 unfold Addr.add
 simp
theorem slice_ok{w:World}{t e:TypeId}{ks:List LK}(ht:P.underlying t=some (.slice e))(he:flatT P 20 e=some ks)(hc:P.cellsOf e=ks.length)(h0:0<ks.length){base:Nat}(hbase:base=0){held:Bool}{fuel:Nat}{cs:List Value}{x:DataW H×List MemPlace}
  (hx:DataW.trod enc P w base (fun _=>true) held fuel t cs=some x) (hl:∀v∈cs,Lies w v) :
  ∃v,cs=[v]∧SlFit w ks v∧∀(w':World) (s':Nat→Bool),(∀b,b<w.heap.size→w'.heap[b]? = w.heap[b]?)→(∀b,b<w.heap.size→s' b=true)→DataW.trod enc P w' base s' held fuel t cs=some x:=by
 subst hbase
 have hx0:=hx
 rcases DataW.trod_slice ht hx with⟨rfl,rfl⟩|⟨a,len,cap,elems,rest,n,rfl,rfl,rfl,hb,hlc,hm,hlen,hel,hsp,_⟩
 ·refine⟨_,rfl,.inl rfl,fun w' s' _ _=>?_⟩
  cases fuel with
  |zero=>simp[DataW.trod]at hx
  |succ m=>simp[DataW.trod,ht]
 ·obtain⟨hs,c,t',fr,hblk⟩:=hl _ List.mem_cons_self a len cap rfl
  obtain⟨hrl,hr⟩:=hsp rfl
  rw[hc]at hel hr
  have hlt:a.block<w.heap.size:=by
   rcases Nat.lt_or_ge a.block w.heap.size with h|h
   ·exact h
   ·rw[Array.getElem?_eq_none h]at hblk;cases hblk
  have each:∀i,i<cap→∃ci y,w.cells? 0 (a.add (i*ks.length)) ks.length=some ci∧DataW.trod enc P w 0 (fun _=>true) held n e ci=some y∧(elems++rest)[i]? = some y:=by
   intro i hi
   by_cases h1:i<len
   ·have h2:=hel i h1
    have h3:elems[i]? = some elems[i]:=List.getElem?_eq_getElem (by omega)
    rw[h3]at h2
    obtain⟨ci,h4,h5⟩:=Option.bind_eq_some_iff.1 h2
    exact⟨ci,_,h4,h5,by rw[List.getElem?_append_left (by omega)];exact h3⟩
   ·have h2:=hr (i - len) (by omega)
    rw[show len+(i - len)=i by omega]at h2
    have h3:rest[i - len]? = some (rest[i - len]'(by omega)):=List.getElem?_eq_getElem (by omega)
    rw[h3]at h2
    obtain⟨ci,h4,h5⟩:=Option.bind_eq_some_iff.1 h2
    exact⟨ci,_,h4,h5,by rw[List.getElem?_append_right (by omega),hlen];exact h3⟩
  have rd:∀i,i<cap→∀j,j<ks.length→∀ci,w.cells? 0 (a.add (i*ks.length)) ks.length=some ci→c[a.off+i*ks.length+j]? = ci[j]?:=by
   intro i hi j hj ci hci
   have h1:=(World.cells?_some hci).2.2 j hj
   rw[bn hs,bn rfl]at h1
   rw[←h1]
   unfold World.cell?
   simp[hblk]
  have hsz:cap=0∨a.off+cap*ks.length≤c.size:=by
   by_cases hcap:cap=0
   ·exact .inl hcap
   ·right
    obtain⟨ci,y,h1,_,_⟩:=each (cap - 1) (by omega)
    have h2:=rd (cap - 1) (by omega) (ks.length - 1) (by omega) ci h1
    have hcl:=(World.cells?_some h1).2.1
    rw[List.getElem?_eq_getElem (by omega)]at h2
    have h3:=(Array.getElem?_eq_some_iff.1 h2).1
    have h4:cap*ks.length=(cap - 1)*ks.length+ks.length:=by
     rw[←Nat.succ_mul];congr 1;omega
    omega
  have hsz2:a.off+len*ks.length≤c.size∨len=0:=by
   rcases hsz with h|h
   ·right;omega
   ·left
    have:=Nat.mul_le_mul_right ks.length hlc
    omega
  refine⟨_,rfl,.inr ⟨a,len,cap,c,t',fr,(c.toList.drop a.off).take (len*ks.length),rfl,hs,hlc,hm,hblk,hsz,?_,?_,?_⟩,?_⟩
  ·rw[List.length_take,List.length_drop]
   have hcz:c.toList.length=c.size:=Array.length_toList
   rcases hsz2 with h|h
   ·omega
   ·subst h;omega
  ·intro i v hv
   rw[List.getElem?_take]at hv
   split at hv
   ·rw[List.getElem?_drop]at hv
    simpa using hv
   ·cases hv
  ·intro i hi
   obtain⟨ci,y,h1,h2,_⟩:=each i (by omega)
   obtain⟨_,h3,_⟩:=mT 20 e ks he w 0 _ held n ci y h2
   have hcl:=(World.cells?_some h1).2.1
   have:(((c.toList.drop a.off).take (len*ks.length)).drop (i*ks.length)).take ks.length=ci:=by
    apply List.ext_getElem?
    intro j
    by_cases hj:j<ks.length
    ·have hle:i*ks.length+ks.length≤len*ks.length:=by
      have:=Nat.mul_le_mul_right ks.length (show i+1≤len by omega)
      rw[Nat.add_mul,Nat.one_mul]at this;exact this
     rw[List.getElem?_take,if_pos hj,List.getElem?_drop,List.getElem?_take,if_pos (by omega),List.getElem?_drop,←rd i (by omega) j hj ci h1]
     rw[Array.getElem?_toList,Nat.add_assoc]
    ·rw[List.getElem?_eq_none (by rw[List.length_take];omega),List.getElem?_eq_none (by omega)]
   rw[this];exact h3
  ·intro w' s' hw hs'
   have hcell:∀i,i<cap→w'.cells? 0 (a.add (i*ks.length)) ks.length=w.cells? 0 (a.add (i*ks.length)) ks.length:=by
    intro i hi
    unfold World.cells?
    have:∀j,w'.cell? ((a.add (i*ks.length)).add j)=w.cell? ((a.add (i*ks.length)).add j):=by
     intro j
     rw[bn hs,bn rfl]
     unfold World.cell?
     rw[hw _ hlt]
    simp only[this]
   have el:∀i,i<cap→(w'.cells? 0 (a.add (i*P.cellsOf e)) (P.cellsOf e)).bind (DataW.trod enc P w' 0 s' held n e)=(elems++rest)[i]?:=by
    intro i hi
    rw[hc,hcell i hi]
    obtain⟨ci,y,h1,h2,h3⟩:=each i hi
    rw[h1,h3,Option.bind_some]
    exact(mT 20 e ks he w 0 _ held n ci y h2).2.2 w' 0 s' held
   have el0:∀i,i<cap→(w.cells? 0 (a.add (i*P.cellsOf e)) (P.cellsOf e)).bind (DataW.trod enc P w 0 (fun _=>true) held n e)=(elems++rest)[i]?:=by
    intro i hi
    rw[hc]
    obtain⟨ci,y,h1,h2,h3⟩:=each i hi
    rw[h1,h3,Option.bind_some]
    exact h2
   unfold DataW.trod at hx0 ⊢
   simp only[ht]at hx0 ⊢
   rw[if_pos ⟨Nat.zero_le _,hlc,hm⟩]at hx0 ⊢
   rw[gp (fun i hi=>(el i (by have:=List.mem_range.1 hi;omega)).trans (el0 i (by have:=List.mem_range.1 hi;omega)).symm)]
   rw[gp (l:=List.range (cap - len)) (fun j hj=>(el (len+j) (by have:=List.mem_range.1 hj;omega)).trans (el0 (len+j) (by have:=List.mem_range.1 hj;omega)).symm)]
   rw[hs' _ hlt]
   exact hx0
theorem ckF_ok{F:TypeId→Option (List CK2)}{w:World}{held:Bool}{fuel:Nat}(cs:List Value)(hl:∀v∈cs,Lies w v)
  (hF:∀t ks,F t=some ks→∀cs (x:DataW H×List MemPlace),(∀v∈cs,Lies w v)→DataW.trod enc P w 0 (fun _=>true) held fuel t cs=some x→df w ks cs∧∀(w':World) (s':Nat→Bool),(∀b,b<w.heap.size→w'.heap[b]? = w.heap[b]?)→(∀b,b<w.heap.size→s' b=true)→DataW.trod enc P w' 0 s' held fuel t cs=some x) :
  ∀(fs:List Field) (off:Nat) (ks:List CK2) (xs:List (DataW H×List MemPlace)),ckF F fs off=some ks→fs.mapM (fun f=>DataW.trod enc P w 0 (fun _=>true) held fuel f.type ((cs.drop f.offset).take (P.cellsOf f.type)))=some xs→
   df w ks ((cs.drop off).take ks.length)∧∀(w':World) (s':Nat→Bool),(∀b,b<w.heap.size→w'.heap[b]? = w.heap[b]?)→(∀b,b<w.heap.size→s' b=true)→fs.mapM (fun f=>DataW.trod enc P w' 0 s' held fuel f.type ((cs.drop f.offset).take (P.cellsOf f.type)))=some xs
 | [],off,ks,xs,h1,h2=>by
  simp only[ckF,Option.some.injEq]at h1
  subst h1
  simp only[List.mapM_nil,Option.pure_def,Option.some.injEq]at h2
  subst h2
  refine⟨by simp[df],fun _ _ _ _=>by simp⟩
 |f :: fs,off,ks,xs,h1,h2=>by
  simp only[ckF]at h1
  split at h1
  ·rename_i k1 e1 e2
   obtain⟨k2,e3,rfl⟩:=Option.map_eq_some_iff.1 h1
   have e1:=Nat.eq_of_beq_eq_true e1
   rw[List.mapM_cons]at h2
   obtain⟨x,h3,h2⟩:=Option.bind_eq_some_iff.1 h2
   obtain⟨ys,h4,h2⟩:=Option.bind_eq_some_iff.1 h2
   cases h2
   obtain⟨a2,a3⟩:=hF _ _ e2 _ _ (fun v hv=>hl v (List.mem_of_mem_drop (List.mem_of_mem_take hv))) h3
   obtain⟨b2,b3⟩:=ckF_ok cs hl hF fs _ k2 ys e3 h4
   refine⟨?_,fun w' s' hw hs'=>?_⟩
   ·rw[List.length_append,List.take_add]
    refine df.app ?_ (by rw[List.drop_drop];exact b2)
    have hl:=df.len a2
    rw[e1]at a2 hl
    rw[←hl,hP]
    exact a2
   ·rw[List.mapM_cons,a3 w' s' hw hs',b3 w' s' hw hs']
    rfl
  ·cases h1
theorem ckT_ok:∀(d:Nat) (t:TypeId) (ks:List CK2),ckT P d t=some ks→∀(w:World) (held:Bool) (fuel:Nat) (cs:List Value) (x:DataW H×List MemPlace),(∀v∈cs,Lies w v)→DataW.trod enc P w 0 (fun _=>true) held fuel t cs=some x→
  df w ks cs∧∀(w':World) (s':Nat→Bool),(∀b,b<w.heap.size→w'.heap[b]? = w.heap[b]?)→(∀b,b<w.heap.size→s' b=true)→DataW.trod enc P w' 0 s' held fuel t cs=some x
 |0,_,_,h=>by cases h
 |d+1,t,ks,h=>by
  intro w held fuel cs x hl hx
  simp only[ckT]at h
  split at h
  ·rename_i k e
   cases h
   obtain⟨n,rfl,rfl,hw⟩:=DataW.trod_int e hx
   refine⟨⟨⟨n,rfl,hw⟩,trivial⟩,fun w' s' _ _=>?_⟩
   cases fuel with
   |zero=>simp[DataW.trod]at hx
   |succ m=>simp[DataW.trod,e,hw]
  ·rename_i e
   cases h
   obtain⟨n,rfl,rfl⟩:=DataW.trod_bool e hx
   refine⟨⟨⟨n,rfl⟩,trivial⟩,fun w' s' _ _=>?_⟩
   cases fuel with
   |zero=>simp[DataW.trod]at hx
   |succ m=>simp[DataW.trod,e]
  ·rename_i e e0
   split at h
   ·rename_i k2 e2
    split at h
    ·rename_i e3
     cases h
     simp only[Bool.and_eq_true,Nat.blt_eq]at e3
     obtain⟨v,rfl,a2,a3⟩:=slice_ok e0 e2 (Nat.eq_of_beq_eq_true e3.1) e3.2 rfl hx hl
     exact⟨⟨a2,trivial⟩,a3⟩
    ·cases h
   ·cases h
  ·rename_i fs e
   split at h
   ·rename_i k2 e2
    split at h
    ·rename_i e3
     cases h
     have e3:=Nat.eq_of_beq_eq_true e3
     cases fuel with
     |zero=>simp[DataW.trod]at hx
     |succ m=>
      simp only[DataW.trod,e]at hx
      split at hx
      ·rename_i hlen
       obtain⟨xs,h5,rfl⟩:=Option.map_eq_some_iff.1 hx
       obtain⟨a2,a3⟩:=ckF_ok cs hl (fun t ks h cs x hl hx=>ckT_ok d t ks h w held m cs x hl hx) fs.toList 0 ks xs e2 h5
       rw[List.drop_zero,List.take_of_length_le (by omega)]at a2
       refine⟨a2,fun w' s' hw hs'=>?_⟩
       simp only[DataW.trod,e,hlen,if_true]
       rw[a3 w' s' hw hs']
       rfl
      ·cases hx
    ·cases h
   ·cases h
  ·cases h
abbrev Blk2:=HObj×Option Pl
def nO(w:World)(b:Blk2):Prop:=b.1 = .dead∨∃vs e p c t fr,b.1 = .cells vs e false∧b.2=some p∧p.esz=e∧vs.all flat=true∧vs.all aY=true∧vs.length≤p.room∧w.heap[p.b]? = some (.cells c t fr)∧c.size=p.o+p.room∧∀(i:Nat) v,vs[i]? = some v→c[p.o+i]? = some v
theorem jW:∀ {ks:List LK} {vs:List Value},FitC ks vs→vs.all flat=true∧vs.all aY=true
 | [],[],_=>⟨rfl,rfl⟩
 | .i k :: ks,v :: vs,h=>by
  obtain⟨⟨n,rfl,_⟩,h2⟩:=h
  obtain⟨a,b⟩:=jW h2
  exact⟨by simp[a,flat,dY,scalar],by simp[b];rfl⟩
 | .b :: ks,v :: vs,h=>by
  obtain⟨⟨n,rfl⟩,h2⟩:=h
  obtain⟨a,b⟩:=jW h2
  exact⟨by simp[a,flat,dY,scalar],by simp[b];rfl⟩
 | .v :: _,_,h=>by cases h
 | [],_ :: _,h=>by cases h
 | .i _ :: _,[],h=>by cases h
 | .b :: _,[],h=>by cases h
theorem pt{ks:List LK}(hk:0<ks.length){cells:List Value}{n:Nat}(hl:cells.length=n*ks.length)(h:∀i,i<n→FitC ks ((cells.drop (i*ks.length)).take ks.length)):cells.all flat=true∧cells.all aY=true:=by
 have main:∀j,j<cells.length→∃v,cells[j]? = some v∧flat v=true∧aY v=true:=by
  intro j hj
  have h1:j / ks.length<n:=by
   rw[Nat.div_lt_iff_lt_mul hk];omega
  obtain⟨a,b⟩:=jW (h _ h1)
  have hm:=Nat.mod_lt j hk
  have hd:=Nat.div_add_mod j ks.length
  have hmem:((cells.drop (j / ks.length*ks.length)).take ks.length)[j%ks.length]? = some cells[j]:=by
   rw[List.getElem?_take,if_pos hm,List.getElem?_drop]
   rw[show j / ks.length*ks.length+j%ks.length=j by rw[Nat.mul_comm];exact hd]
   exact List.getElem?_eq_getElem hj
  exact⟨_,List.getElem?_eq_getElem hj,List.all_eq_true.1 a _ (List.mem_of_getElem? hmem),List.all_eq_true.1 b _ (List.mem_of_getElem? hmem)⟩
 constructor<;>
 ·rw[List.all_eq_true]
  intro v hv
  obtain⟨j,hj⟩:=List.getElem?_of_mem hv
  have hlt:j<cells.length:=by
   rcases Nat.lt_or_ge j cells.length with h|h
   ·exact h
   ·rw[List.getElem?_eq_none h]at hj;cases hj
  obtain⟨v',h1,h2,h3⟩:=main j hlt
  rw[hj]at h1
  cases h1
  first|exact h2|exact h3
section
variable [Val]
theorem cell_abs{w:World}{ck:CK2}{v:Value}(hp:∀ks,ck = .s ks→0<ks.length)(h:CellFit w ck v)(n0:Nat):∃(x:SL) (bl:List Blk2),(∀b∈bl,nO w b)∧x.is ck.lk=true∧x.good∧
  (∀mu:HMap,(∀(i:Nat) b,bl[i]? = some b→mu (n0+i)=b.2)→VR noL mu x.val v)∧∀hp:HL,(∀(i:Nat) b,bl[i]? = some b→hp[n0+i]? = some (.o b.1))→bd hp [ck] [x.lf]:=by
 cases ck with
 |i k=>
  obtain⟨n,rfl,hw⟩:=h
  exact⟨.i k n,[],by simp,by simp[SL.is,CK2.lk,cZ],trivial,fun mu _=>.scalar rfl,fun hp _=>⟨hw,trivial⟩⟩
 |b=>
  obtain⟨t,rfl⟩:=h
  exact⟨.b t,[],by simp,rfl,trivial,fun mu _=>.scalar rfl,fun hp _=>trivial⟩
 |s ks=>
  have hk:=hp ks rfl
  rcases h with rfl|⟨a,len,cap,c,t,fr,cells,rfl,hs,hlc,hm,hblk,hsz,hcl,hget,hfit⟩
  ·refine⟨.v (.slice none 0 0),[],by simp,rfl,rfl,fun mu _=>.scalar rfl,fun hp _=>⟨⟨0,[],⟨by simp,.inl ⟨rfl,rfl⟩⟩,Nat.zero_le _,fun i hi=>by omega⟩,trivial⟩⟩
  ·obtain⟨hf1,hf2⟩:=pt hk hcl hfit
   have gd:cN (.slice (some ⟨n0,0,tag ks.length⟩) len 0)=true:=by simp[cN,noLoc,bv,cV,co,br,aT,tag]
   have ha:a=⟨a.block,a.off,none⟩:=by cases a;cases hs;rfl
   have fit:∀hp:HL,hp[n0]? = some (.o (.cells cells ks.length false))→bd hp [.s ks] [.v (.slice (some ⟨n0,0,tag ks.length⟩) len 0)]:=fun hp h1=>
    ⟨⟨len,cells,⟨hcl,.inr ⟨n0,0,0,cells,false,rfl,h1,jR hcl⟩⟩,by omega,hfit⟩,trivial⟩
   by_cases hcap:cap=0
   ·subst hcap
    obtain rfl:len=0:=by omega
    have hce:cells=[]:=List.eq_nil_of_length_eq_zero (by omega)
    subst hce
    refine⟨.v (.slice (some ⟨n0,0,tag ks.length⟩) 0 0),[(.cells [] ks.length false,some ⟨a.block,c.size,0,ks.length⟩)],fun b hb=>?_,rfl,gd,fun mu _=>.hslice0 (Nat.zero_le _),fun hp h1=>fit hp (h1 0 _ rfl)⟩
    simp only[List.mem_singleton]at hb
    subst hb
    exact .inr ⟨[],ks.length,_,c,t,fr,rfl,rfl,rfl,rfl,rfl,Nat.zero_le _,hblk,by simp,fun i v hv=>by simp at hv⟩
   ·have hsz:a.off+cap*ks.length≤c.size:=hsz.resolve_left hcap
    have hle:=Nat.mul_le_mul_right ks.length hlc
    refine⟨.v (.slice (some ⟨n0,0,tag ks.length⟩) len 0),[(.cells cells ks.length false,some ⟨a.block,a.off,c.size - a.off,ks.length⟩)],fun b hb=>?_,rfl,gd,fun mu h1=>?_,fun hp h1=>fit hp (h1 0 _ rfl)⟩
    ·simp only[List.mem_singleton]at hb
     subst hb
     exact .inr ⟨cells,ks.length,_,c,t,fr,rfl,rfl,rfl,hf1,hf2,by show cells.length≤c.size - a.off;omega,hblk,by show c.size=a.off+(c.size - a.off);omega,hget⟩
    ·have h2:=h1 0 _ rfl
     rw[ha]
     have:=VR.hslice (la:=noL) (mu:=mu) (id:=n0) (off:=0) (len:=len) (cap:=cap) (cx:=0) h2 (by show 0+cap*ks.length≤c.size - a.off;omega) hlc (.inl rfl)
     exact this
theorem nX{w:World}:∀ {cks:List CK2} {vs:List Value},(∀ks,CK2.s ks∈cks→0<ks.length)→df w cks vs→∀n0,∃(xs:List SL) (bl:List Blk2),(∀b∈bl,nO w b)∧aO xs (cks.map CK2.lk)=true∧(∀x∈xs,x.good)∧xs.length=vs.length∧
  (∀mu:HMap,(∀(i:Nat) b,bl[i]? = some b→mu (n0+i)=b.2)→VRs noL mu (xs.map SL.val) vs)∧∀hp:HL,(∀(i:Nat) b,bl[i]? = some b→hp[n0+i]? = some (.o b.1))→bd hp cks (xs.map SL.lf)
 | [],[],_,_,n0=>⟨[],[],by simp,rfl,by simp,rfl,fun mu _=>⟨rfl,fun i x y h=>by simp at h⟩,fun hp _=>trivial⟩
 |ck :: cks,v :: vs,hp,h,n0=>by
  obtain⟨x,bl,a1,a2,a3,a4,a5⟩:=cell_abs (fun ks e=>hp ks (by rw[e];exact List.mem_cons_self)) h.1 n0
  obtain⟨xs,bl',b1,b2,b3,b4,b5,b6⟩:=nX (fun ks e=>hp ks (List.mem_cons_of_mem _ e)) h.2 (n0+bl.length)
  have g1:∀ {α:Type} {f:Nat→α} {g:Blk2→α},(∀(i:Nat) b,(bl++bl')[i]? = some b→f (n0+i)=g b)→(∀(i:Nat) b,bl[i]? = some b→f (n0+i)=g b)∧∀(i:Nat) b,bl'[i]? = some b→f (n0+bl.length+i)=g b:=by
   intro α f g h
   refine⟨fun i b hb=>h i b ?_,fun i b hb=>?_⟩
   ·rw[List.getElem?_append_left (by
     rcases Nat.lt_or_ge i bl.length with h|h
     ·exact h
     ·rw[List.getElem?_eq_none h]at hb;cases hb)];exact hb
   ·rw[Nat.add_assoc]
    refine h _ b ?_
    rw[List.getElem?_append_right (by omega),Nat.add_sub_cancel_left];exact hb
  refine⟨x :: xs,bl++bl',fun b hb=>?_,by simp[aO,a2,b2],fun y hy=>?_,by simp[b4],fun mu hmu=>?_,fun hp hh=>?_⟩
  ·rcases List.mem_append.1 hb with h|h
   ·exact a1 b h
   ·exact b1 b h
  ·rcases List.mem_cons.1 hy with rfl|hy
   ·exact a3
   ·exact b3 y hy
  ·obtain⟨h1,h2⟩:=g1 (f:=mu) (g:=fun b=>b.2) hmu
   have c1:=a4 mu h1
   obtain⟨c2,c3⟩:=b5 mu h2
   refine⟨by simpa using c2,fun i p q hi hj=>?_⟩
   cases i with
   |zero=>
    simp only[List.map_cons,List.getElem?_cons_zero,Option.some.injEq]at hi hj
    subst hi hj;exact c1
   |succ i=>exact c3 i p q (by simpa using hi) (by simpa using hj)
  ·obtain⟨h1,h2⟩:=g1 (f:=fun i=>hp[i]?) (g:=fun b=>some (HO.o b.1)) hh
   exact bd.app (a5 hp h1) (b6 hp h2)
 | [],_ :: _,_,h,_=>by cases h
 |_ :: _,[],_,h,_=>by cases h
end
end
end Sx
end Go.Am

/-
 ARGUMENTS WITH SLICES: from the row's arguments to the machine,and back.
-/
set_option maxRecDepth 100000
namespace Go.Am
namespace Sx
open Go.ChangeShapes Go.WideShapes Go.ChangeAt Go.WideMaps Go.WideElems Go.RowKit
section
variable {H:Type} {enc:TypeId×Value→H} {P:Program}
theorem ko{w:World}{r:Reach}{b0:Nat}{u:TypeId}{v:Value}(h:Cell.okWide P w r b0 u v):Lies w v:=by
 rintro a len cap rfl
 have h1:∃e,w.has P r b0 a e cap:=by
  unfold Cell.okWide at h
  split at h<;>first|(rename_i e1 e2;cases e2;done)|(rename_i e1;cases e1;done)|skip
  all_goals
   unfold Cell.ok at h
   split at h<;>first|(cases h;done)|(rename_i e1 e2;cases e2;done)|skip
   all_goals first|(rename_i heq;injection heq with q1 q2 q3;subst q2 q3;cases q1;exact⟨_,h.2.2⟩)|skip
 obtain⟨e,_,h2,row,cells,h3,_⟩:=h1
 refine⟨h2,?_⟩
 unfold World.shape? at h3
 split at h3
 ·rename_i c el fr e1
  exact⟨c,el,fr,e1⟩
 ·cases h3
theorem lies_val{w:World}{r:Reach}{b0:Nat}{t:TypeId}{v:Value}(h:Value.okWide P w r b0 t v):∀x∈v.cells.toList,Lies w x:=by
 intro x hx
 unfold Value.okWide at h
 split at h
 ·obtain⟨cs,rfl,_,ts,_,_,h2⟩:=h
  obtain⟨i,hi⟩:=List.getElem?_of_mem hx
  obtain⟨u,_,h3⟩:=h2 i x (by simpa[Value.cells]using hi)
  exact ko h3
 ·obtain⟨cs,rfl,_,ts,_,_,h2⟩:=h
  obtain⟨i,hi⟩:=List.getElem?_of_mem hx
  obtain⟨u,_,h3⟩:=h2 i x (by simpa[Value.cells]using hi)
  exact ko h3
 ·have:x=v∨∃cs,v = .agg cs:=by
   cases v<;>first|(right;exact⟨_,rfl⟩)|(left;simpa[Value.cells]using hx)
  rcases this with rfl|⟨cs,rfl⟩
  ·exact ko h
  ·exfalso
   unfold Cell.okWide at h
   split at h<;>first|(rename_i e1 e2;cases e2;done)|(rename_i e1;cases e1;done)|skip
   all_goals
    unfold Cell.ok at h
    split at h<;>first|(cases h;done)|(rename_i e1 e2;cases e2;done)|skip
noncomputable def skC(P:Program)(t:TypeId)(cks:List CK2):Option SK:=
 match P.underlying t,cks with
 |some (.struct _),cks=>some (.agg (cks.map CK2.lk))
 |some (.int _),[k]=>some (.leaf k.lk)
 |some .bool,[k]=>some (.leaf k.lk)
 |some (.slice _),[k]=>some (.leaf k.lk)
 |_,_=>none
noncomputable def posK(cks:List CK2):Bool:=cks.all fun k=>match k with
 | .s ks=>Nat.blt 0 ks.length
 |_=>true
theorem posK_ok{cks:List CK2}(h:posK cks=true):∀ks,CK2.s ks∈cks→0<ks.length:=by
 intro ks hk
 have:=List.all_eq_true.1 h _ hk
 simpa[Nat.blt_eq]using this
section
variable [Val]
structure Abs(W:World)(n0:Nat)(bl:List Blk2):Prop where
 ok:∀b∈bl,nO W b
abbrev MuAt(mu:HMap)(n0:Nat)(bl:List Blk2):Prop:=∀(i:Nat) b,bl[i]? = some b→mu (n0+i)=b.2
abbrev HpAt(hp:HL)(n0:Nat)(bl:List Blk2):Prop:=∀(i:Nat) b,bl[i]? = some b→hp[n0+i]? = some (.o b.1)
abbrev Stays(W W':World):Prop:=∀b,b<W.heap.size→W'.heap[b]? = W.heap[b]?
theorem open_arg2{W:World}{r:Reach}{b0:Nat}{held:Bool}{t:TypeId}{cks:List CK2}{sk:SK}{v:Value}{d:DataW H}{ps:List MemPlace}(h:ckT P 20 t=some cks)(hsk:skC P t cks=some sk)(hpos:posK cks=true)(hval:Value.okWide P W r b0 t v)(hd:DataW.Trod enc P W 0 (fun _=>true) held t v d ps)(n0:Nat) :
  ∃(x:S0) (bl:List Blk2),(∀b∈bl,nO W b)∧x.is sk=true∧x.good∧(∀mu:HMap,MuAt mu n0 bl→VR noL mu x.val v)∧(∀hp:HL,HpAt hp n0 bl→bd hp cks (x.cells.map SL.lf))∧
   ∀(W':World) (s':Nat→Bool),Stays W W'→(∀b,b<W.heap.size→s' b=true)→DataW.Trod enc P W' 0 s' held t v d ps:=by
 obtain⟨fuel,hf⟩:=hd
 obtain⟨a1,a2⟩:=ckT_ok 20 t cks h W held fuel _ _ (lies_val hval) hf
 obtain⟨xs,bl,b1,b2,b3,b4,b5,b6⟩:=nX (posK_ok hpos) a1 n0
 have close:∀(W':World) (s':Nat→Bool),Stays W W'→(∀b,b<W.heap.size→s' b=true)→DataW.Trod enc P W' 0 s' held t v d ps:=fun W' s' h1 h2=>⟨fuel,a2 W' s' h1 h2⟩
 have leaf:(∀fs,P.underlying t≠some (.struct fs))→(∀n e,P.underlying t≠some (.array n e))→∀k,cks=[k]→sk = .leaf k.lk→∃(x:S0) (bl:List Blk2),(∀b∈bl,nO W b)∧x.is sk=true∧x.good∧(∀mu:HMap,MuAt mu n0 bl→VR noL mu x.val v)∧(∀hp:HL,HpAt hp n0 bl→bd hp cks (x.cells.map SL.lf))∧
   ∀(W':World) (s':Nat→Bool),Stays W W'→(∀b,b<W.heap.size→s' b=true)→DataW.Trod enc P W' 0 s' held t v d ps:=by
  rintro hs1 hs2 k rfl rfl
  have hv:v.cells.toList=[v]:=by
   have h1:=df.len a1
   cases v with
   |agg cs=>
    exfalso
    unfold Value.okWide at hval
    split at hval
    ·rename_i e;exact hs1 _ e
    ·rename_i e;exact hs2 _ _ e
    ·unfold Cell.okWide at hval
     split at hval<;>first|(rename_i e1 e2;cases e2;done)|(rename_i e1;cases e1;done)|skip
     all_goals
      unfold Cell.ok at hval
      split at hval<;>first|(cases hval;done)|(rename_i e1 e2;cases e2;done)|skip
   |_=>simp[Value.cells]
  rw[hv]at a1 b4 b5
  obtain⟨x,rfl⟩ : ∃x,xs=[x]:=List.length_eq_one_iff.1 b4
  refine⟨.leaf x,bl,b1,?_,fun l hl=>?_,fun mu hmu=>?_,fun hp hh=>b6 hp hh,close⟩
  ·show x.is k.lk=true
   simpa[aO]using b2
  ·simp only[S0.cells,List.mem_singleton]at hl
   subst hl;exact b3 _ List.mem_cons_self
  ·exact(b5 mu hmu).2 0 _ _ rfl rfl
 unfold skC at hsk
 split at hsk
 ·rename_i fs e
  cases hsk
  obtain⟨cs,rfl,_⟩:=okWide_struct e hval
  refine⟨.agg xs,bl,b1,b2,b3,fun mu hmu=>?_,fun hp hh=>b6 hp hh,close⟩
  obtain⟨c1,c2⟩:=b5 mu hmu
  refine .agg (by simpa[Value.cells]using c1) fun i x y hx hy=>c2 i x y (by simpa using hx) (by simpa[Value.cells]using hy)
 ·rename_i k e;cases hsk;exact leaf (fun _ h=>by rw[e]at h;cases h) (fun _ _ h=>by rw[e]at h;cases h) _ rfl rfl
 ·rename_i e;cases hsk;exact leaf (fun _ h=>by rw[e]at h;cases h) (fun _ _ h=>by rw[e]at h;cases h) _ rfl rfl
 ·rename_i e' e;cases hsk;exact leaf (fun _ h=>by rw[e]at h;cases h) (fun _ _ h=>by rw[e]at h;cases h) _ rfl rfl
 ·cases hsk
noncomputable def argK(P:Program):List TypeId→Option (List (List CK2)×List SK)
 | []=>some ([],[])
 |t :: ts=>match ckT P 20 t,argK P ts with
  |some cks,some (l,sks)=>match skC P t cks,posK cks with
   |some sk,true=>some (cks :: l,sk :: sks)
   |_,_=>none
  |_,_=>none
theorem at_app{α:Type}{bl bl':List Blk2}{f:Nat→α}{g:Blk2→α}{n0:Nat}(h:∀(i:Nat) b,(bl++bl')[i]? = some b→f (n0+i)=g b):(∀(i:Nat) b,bl[i]? = some b→f (n0+i)=g b)∧∀(i:Nat) b,bl'[i]? = some b→f (n0+bl.length+i)=g b:=by
 refine⟨fun i b hb=>h i b ?_,fun i b hb=>?_⟩
 ·rw[List.getElem?_append_left (by
   rcases Nat.lt_or_ge i bl.length with h|h
   ·exact h
   ·rw[List.getElem?_eq_none h]at hb;cases hb)];exact hb
 ·rw[Nat.add_assoc]
  refine h _ b ?_
  rw[List.getElem?_append_right (by omega),Nat.add_sub_cancel_left];exact hb
theorem lX{W:World}{r:Reach}{b0:Nat}{held:Bool}:∀(ts:List TypeId) (l:List (List CK2)) (sks:List SK) (vs:List Value) (ds:List (DataW H)) (ps:List MemPlace) (n0:Nat),argK P ts=some (l,sks)→
  (∀(j:Nat) t v,ts[j]? = some t→vs[j]? = some v→Value.okWide P W r b0 t v)→DataW.TrodAll enc P W 0 (fun _=>true) held ts vs ds ps→
  ∃(xs:List S0) (bl:List Blk2),(∀b∈bl,nO W b)∧bX xs sks=true∧(∀x∈xs,x.good)∧(∀mu:HMap,MuAt mu n0 bl→VRs noL mu (ao xs) vs)∧(∀hp:HL,HpAt hp n0 bl→bd hp l.flatten (cj xs))∧
   ∀(W':World) (s':Nat→Bool),Stays W W'→(∀b,b<W.heap.size→s' b=true)→DataW.TrodAll enc P W' 0 s' held ts vs ds ps
 | [],l,sks,[],[],ps,n0,h,_,ht=>by
  cases h
  exact⟨[],[],by simp,rfl,by simp,fun mu _=>⟨rfl,fun i x y h=>by simp[ao]at h⟩,fun hp _=>trivial,fun _ _ _ _=>ht⟩
 |t :: ts,l,sks,v :: vs,d :: ds,ps,n0,h,hv,ht=>by
  simp only[argK]at h
  split at h
  ·rename_i cks l' sks' e1 e2
   split at h
   ·rename_i sk e3 e4
    cases h
    obtain⟨p,q,h1,h2,rfl⟩:=ht
    obtain⟨x,bl,a1,a2,a3,a4,a5,a6⟩:=open_arg2 e1 e3 e4 (hv 0 t v rfl rfl) h1 n0
    obtain⟨xs,bl',b1,b2,b3,b4,b5,b6⟩:=lX ts l' sks' vs ds q (n0+bl.length) e2 (fun j t v h1 h2=>hv (j+1) t v h1 h2) h2
    refine⟨x :: xs,bl++bl',fun b hb=>?_,by simp[bX,a2,b2],fun y hy=>?_,fun mu hmu=>?_,fun hp hh=>?_,fun W' s' h1 h2=>⟨p,q,a6 W' s' h1 h2,b6 W' s' h1 h2,rfl⟩⟩
    ·rcases List.mem_append.1 hb with h|h
     ·exact a1 b h
     ·exact b1 b h
    ·rcases List.mem_cons.1 hy with rfl|hy
     ·exact a3
     ·exact b3 y hy
    ·obtain⟨h1,h2⟩:=at_app (f:=mu) (g:=fun b=>b.2) hmu
     have c1:=a4 mu h1
     obtain⟨c2,c3⟩:=b4 mu h2
     refine⟨by simpa[ao]using c2,fun i p q hi hj=>?_⟩
     cases i with
     |zero=>
      simp only[ao,List.map_cons,List.getElem?_cons_zero,Option.some.injEq]at hi hj
      subst hi hj;exact c1
     |succ i=>exact c3 i p q (by simpa[ao]using hi) (by simpa using hj)
    ·obtain⟨h1,h2⟩:=at_app (f:=fun i=>hp[i]?) (g:=fun b=>some (HO.o b.1)) hh
     rw[List.flatten_cons]
     exact bd.app (a5 hp h1) (b5 hp h2)
   ·cases h
  ·cases h
 | [],_,_,_ :: _,_,_,_,_,_,ht=>by cases ht
 | [],_,_,[],_ :: _,_,_,_,_,ht=>by cases ht
 |_ :: _,_,_,[],_,_,_,_,_,ht=>by cases ht
 |_ :: _,_,_,_ :: _,[],_,_,_,_,ht=>by cases ht
theorem pp{C:Cfg}{f:FuncId}{args:List Value}{r:Value}{H':List HObj}{bl:List Blk2}{W:World}(hbl:∀b∈bl,nO W b)(h:em C f args (bl.map (·.1)) r H'){args':Array Value}(hargs:∀mu:HMap,MuAt mu 0 bl→VRs noL mu args args'.toList)(hr:flat r=true)
  (hG:∀g vs,C.G g=some vs→g<W.heap.size∧vs.all aY=true∧vs.all flat=true∧∃c e fr,W.heap[g]? = some (.cells c e fr)∧c.toList=vs) :
  Calls C.P f args' W fun e W'=>e = .returned r∧W'.os=W.os∧W'.output=W.output∧W'.tape=W.tape∧∀b,b<W.heap.size→W'.heap[b]? = W.heap[b]?:=by
 let mu:HMap:=fun id=>(bl[id]?).bind (·.2)
 have hmu:MuAt mu 0 bl:=fun i b hb=>by simp only[mu,Nat.zero_add,hb,Option.bind_some]
 have hob:∀(id:Nat) o,(bl.map (·.1))[id]? = some o→∃b,bl[id]? = some b∧o=b.1∧nO W b:=by
  intro id o ho
  rw[List.getElem?_map]at ho
  obtain⟨b,h1,rfl⟩:=Option.map_eq_some_iff.1 ho
  exact⟨b,h1,rfl,hbl b (List.mem_of_getElem? h1)⟩
 have hun:∀(id:Nat) o,(bl.map (·.1))[id]? = some o→o.owned=false:=by
  intro id o ho
  obtain⟨b,_,rfl,h3⟩:=hob id o ho
  rcases h3 with h3|⟨vs,e,p,c,t,fr,h3,_⟩<;>rw[h3]<;>rfl
 have hno:∀b,¬Own mu (bl.map (·.1)) b:=by
  rintro b ⟨id,o,p,h1,h2,_⟩
  rw[hun id o h1]at h2;cases h2
 have hW0:WR C W.heap.size mu (bl.map (·.1)) W:=by
  refine⟨fun id o h1 h2=>?_,fun i j oi oj pi pj h1 h2 h3=>?_,fun i o p h1 h2=>?_,fun i o p h1 h2 _ h4=>?_,fun id h1=>?_,fun g vs hg=>?_⟩
  ·obtain⟨b,q1,rfl,q3⟩:=hob id o h1
   rcases q3 with q3|⟨vs,e,p,c,t,fr,q3,q4,q5,q6,q7,q8,q9,q10,q11⟩
   ·rw[q3]at h2;cases h2
   ·refine⟨p,by simp only[mu,q1,Option.bind_some,q4],?_⟩
    rw[q3]
    refine⟨q5,q8,q7,c,t,fr,q9,q10,fun h=>by(cases h),fun i v hv=>⟨v,q11 i v hv,.of_flat (List.all_eq_true.1 q6 v (List.mem_of_getElem? hv))⟩⟩
  ·rw[hun i oi h1]at h3;cases h3
  ·rw[hun i o h1]at h2;cases h2
  ·obtain⟨b,q1,rfl,q3⟩:=hob i o h1
   rcases q3 with q3|⟨vs,e,p',c,t,fr,q3,q4,q5,q6,q7,q8,q9,q10,q11⟩
   ·rw[q3]at h2;cases h2
   ·simp only[mu,q1,Option.bind_some,q4,Option.some.injEq]at h4
    subst h4
    rcases Nat.lt_or_ge p'.b W.heap.size with h|h
    ·exact h
    ·rw[Array.getElem?_eq_none h]at q9;cases q9
  ·simp only[mu]
   rw[List.getElem?_eq_none (by simpa using h1)];rfl
  ·obtain⟨h1,h2,h3,c,e,fr,h4,h5⟩:=hG g vs hg
   refine⟨h1,h2,c,e,fr,h4,?_⟩
   rw[h5]
   exact⟨rfl,fun i x y hx hy=>by rw[hx]at hy;cases hy;exact .of_flat (List.all_eq_true.1 h3 x (List.mem_of_getElem? hx))⟩
 obtain⟨v,mu',w',a1,a2,a3,_,a5⟩:=h W.heap.size mu W args' (Nat.le_refl _) (hargs mu hmu) hW0
 rw[mU hr a1]at a5
 intro cs
 obtain⟨fr,b1,b2,b3⟩:=a5 cs
 exact⟨.returned r,w',fr,⟨rfl,a3.os,a3.output,a3.tape,fun b hb=>a3.keep b hb (hno b)⟩,b1,b2,b3⟩
theorem post_sl{P:Program}{f:Func}{s:ChangeSpec}{apart fresh handsOn:Bool}{W W':World}{args:Array Value}{v:Value}{ds gs:List (DataW H)}{before pa:List MemPlace}
  (hW:DataW.Whole enc P f.params.toList s.vars apart W args.toList ds gs before)
  (hres:∀(b:Nat) (sp:Nat→Bool) (hd:Bool),DataW.TrodAll enc P W' b sp hd f.resultTypes.toList (v.resultList f.resultTypes.size) (s.fn H (ds++gs)).results [])
  (hargs:DataW.TrodAll enc P W' 0 (fun b=>decide (b<W.heap.size)) true f.params.toList args.toList (s.fn H (ds++gs)).args pa)
  (hvars:∀sp:Nat→Bool,DataW.TrodVars enc P W' sp s.vars (s.fn H (ds++gs)).vars [])
  (h1:W'.os=W.os) (h2:W'.output=W.output) (h3:∀b,b<W.heap.size→W'.heap[b]? = W.heap[b]?) :
  s.post enc P f apart fresh handsOn false W args v W':=
 ⟨ds,gs,before,[],pa,[],hW,hres _ _ _,hargs,hvars _,kept_of h1 h2 h3 _,fun h=>by cases h⟩
end
end
section
variable [Val]
theorem nV{C:Cfg}{N:FuncId→Option Nat}{Sg:FuncId→Option Sig}(hm:C.P.follows .mixedOrders=true){g:FuncId}{sg:Sig}(hs:Sg g=some sg){ls rs:List Lf}{H H':List HObj}(hc:let _:Kno:=KnoC C N;dg C Sg g ls H rs H'){xs ys:List S0}(h1:bX xs sg.ps=true)(h2:cj xs=ls)(h3:bX ys sg.rs=true)(h4:cj ys=rs) :
  em C g (ao xs) H (eq (ao ys)) H':=by
 let _:Kno:=KnoC C N
 obtain⟨sg',xs',ys',c1,c2,c3,c4⟩:=hc
 rw[hs]at c1
 cases c1
 obtain⟨w1,_⟩:=dh c2.1 h1 (c2.2.1.trans h2.symm)
 obtain⟨w2,_⟩:=dh c3.1 h3 (c3.2.1.trans h4.symm)
 rw[w1,w2]at c4
 exact pc hm c4
end
end Sx
end Go.Am

/-
 ARGUMENTS WITH SLICES: lists of what lies behind them.
-/
set_option maxRecDepth 100000
namespace Go.Am
namespace Sx
theorem bd.i{h:HL}{k:IntKind}{ks:List CK2}{ls:List Lf}(hf:bd h (.i k :: ks) ls):∃n r,ls = .i n :: r∧(Lit.int k n).wf=true∧bd h ks r:=by
 match ls,hf with
 | .i n :: r,hf=>exact⟨n,r,rfl,hf.1,hf.2⟩
theorem bd.b{h:HL}{ks:List CK2}{ls:List Lf}(hf:bd h (.b :: ks) ls):∃n r,ls = .b n :: r∧bd h ks r:=by
 match ls,hf with
 | .b n :: r,hf=>exact⟨n,r,rfl,hf⟩
theorem bd.s{h:HL}{es:List LK}{ks:List CK2}{ls:List Lf}(hf:bd h (.s es :: ks) ls):∃x r n cells,ls = .v x :: r∧SlC h x es.length n cells∧n≤maxLen∧(∀i,i<n→FitC es ((cells.drop (i*es.length)).take es.length))∧bd h ks r:=by
 match ls,hf with
 | .v x :: r,⟨⟨n,cells,h1,h2,h3⟩,h4⟩=>exact⟨x,r,n,cells,rfl,h1,h2,h3,h4⟩
theorem bd.nil{h:HL}{ls:List Lf}(hf:bd h [] ls):ls=[]:=by
 match ls,hf with
 | [],_=>rfl
theorem hp_at(bl:List Blk2):HpAt (bl.map fun b=>HO.o b.1) 0 bl:=fun i b hb=>by
 rw[Nat.zero_add,List.getElem?_map,hb];rfl
theorem absH_bl(T:Nat→Site)(bl:List Blk2):absH T (bl.map fun b=>HO.o b.1)=bl.map (·.1):=by
 induction bl with
 |nil=>rfl
 |cons b l ih=>show absO T (.o b.1) :: absH T (l.map fun b=>HO.o b.1)=_;rw[ih];rfl
end Sx
end Go.Am

/-
 CornersAround: the law.
-/
set_option maxRecDepth 100000
set_option maxHeartbeats 4000000
namespace Go.Am
open Sx Go.Proofs
theorem aM{l:List (Nat×Nat×Nat×Nat×Nat)}(h:gu l=true){w v L lo n:Nat}(hm:(w,v,L,lo,n)∈l):okr3 w v L lo n=true:=List.all_eq_true.1 h (w,v,L,lo,n) hm
theorem run20_ok{w v:Nat}(h1:1≤w)(h2:w≤5)(h3:1≤v)(h4:v≤5):∃L,0<L∧∀j,j<L→∃lo n,lo≤j∧j<lo+n∧okr3 w v L lo n=true:=by
 obtain rfl|rfl|rfl|rfl|rfl:w=1∨w=2∨w=3∨w=4∨w=5:=by omega
 ·obtain rfl|rfl|rfl|rfl|rfl:v=1∨v=2∨v=3∨v=4∨v=5:=by omega
  ·refine⟨1,by decide,fun j hj=>?_⟩
   exact⟨_,_,Nat.zero_le _,by omega,aM cC (L:=1) (lo:=0) (n:=1) (by decide)⟩
  ·refine⟨2,by decide,fun j hj=>?_⟩
   exact⟨_,_,Nat.zero_le _,by omega,aM cC (L:=2) (lo:=0) (n:=2) (by decide)⟩
  ·refine⟨3,by decide,fun j hj=>?_⟩
   exact⟨_,_,Nat.zero_le _,by omega,aM cC (L:=3) (lo:=0) (n:=3) (by decide)⟩
  ·refine⟨4,by decide,fun j hj=>?_⟩
   exact⟨_,_,Nat.zero_le _,by omega,aM cC (L:=4) (lo:=0) (n:=4) (by decide)⟩
  ·refine⟨5,by decide,fun j hj=>?_⟩
   exact⟨_,_,Nat.zero_le _,by omega,aM cC (L:=5) (lo:=0) (n:=5) (by decide)⟩
 ·obtain rfl|rfl|rfl|rfl|rfl:v=1∨v=2∨v=3∨v=4∨v=5:=by omega
  ·refine⟨2,by decide,fun j hj=>?_⟩
   exact⟨_,_,Nat.zero_le _,by omega,aM cC (L:=2) (lo:=0) (n:=2) (by decide)⟩
  ·refine⟨5,by decide,fun j hj=>?_⟩
   exact⟨_,_,Nat.zero_le _,by omega,aM cC (L:=5) (lo:=0) (n:=5) (by decide)⟩
  ·refine⟨8,by decide,fun j hj=>?_⟩
   exact⟨_,_,Nat.zero_le _,by omega,aM cC (L:=8) (lo:=0) (n:=8) (by decide)⟩
  ·refine⟨11,by decide,fun j hj=>?_⟩
   exact⟨_,_,Nat.zero_le _,by omega,aM nu (L:=11) (lo:=0) (n:=11) (by decide)⟩
  ·refine⟨14,by decide,fun j hj=>?_⟩
   exact⟨_,_,Nat.zero_le _,by omega,aM qR (L:=14) (lo:=0) (n:=14) (by decide)⟩
 ·obtain rfl|rfl|rfl|rfl|rfl:v=1∨v=2∨v=3∨v=4∨v=5:=by omega
  ·refine⟨3,by decide,fun j hj=>?_⟩
   exact⟨_,_,Nat.zero_le _,by omega,aM cC (L:=3) (lo:=0) (n:=3) (by decide)⟩
  ·refine⟨8,by decide,fun j hj=>?_⟩
   exact⟨_,_,Nat.zero_le _,by omega,aM cC (L:=8) (lo:=0) (n:=8) (by decide)⟩
  ·refine⟨13,by decide,fun j hj=>?_⟩
   exact⟨_,_,Nat.zero_le _,by omega,aM nu (L:=13) (lo:=0) (n:=13) (by decide)⟩
  ·refine⟨18,by decide,fun j hj=>?_⟩
   exact⟨_,_,Nat.zero_le _,by omega,aM qR (L:=18) (lo:=0) (n:=18) (by decide)⟩
  ·refine⟨23,by decide,fun j hj=>?_⟩
   exact⟨_,_,Nat.zero_le _,by omega,aM run20_10 (L:=23) (lo:=0) (n:=23) (by decide)⟩
 ·obtain rfl|rfl|rfl|rfl|rfl:v=1∨v=2∨v=3∨v=4∨v=5:=by omega
  ·refine⟨4,by decide,fun j hj=>?_⟩
   exact⟨_,_,Nat.zero_le _,by omega,aM cC (L:=4) (lo:=0) (n:=4) (by decide)⟩
  ·refine⟨11,by decide,fun j hj=>?_⟩
   exact⟨_,_,Nat.zero_le _,by omega,aM nu (L:=11) (lo:=0) (n:=11) (by decide)⟩
  ·refine⟨18,by decide,fun j hj=>?_⟩
   exact⟨_,_,Nat.zero_le _,by omega,aM qQ (L:=18) (lo:=0) (n:=18) (by decide)⟩
  ·refine⟨25,by decide,fun j hj=>?_⟩
   exact⟨_,_,Nat.zero_le _,by omega,aM run20_8 (L:=25) (lo:=0) (n:=25) (by decide)⟩
  ·refine⟨32,by decide,fun j hj=>?_⟩
   by_cases h0:j<16
   ·exact⟨0,16,by omega,by omega,aM run20_6 (by decide)⟩
   exact⟨16,16,by omega,by omega,aM run20_7 (by decide)⟩
 ·obtain rfl|rfl|rfl|rfl|rfl:v=1∨v=2∨v=3∨v=4∨v=5:=by omega
  ·refine⟨5,by decide,fun j hj=>?_⟩
   exact⟨_,_,Nat.zero_le _,by omega,aM cC (L:=5) (lo:=0) (n:=5) (by decide)⟩
  ·refine⟨14,by decide,fun j hj=>?_⟩
   exact⟨_,_,Nat.zero_le _,by omega,aM qQ (L:=14) (lo:=0) (n:=14) (by decide)⟩
  ·refine⟨23,by decide,fun j hj=>?_⟩
   exact⟨_,_,Nat.zero_le _,by omega,aM run20_9 (L:=23) (lo:=0) (n:=23) (by decide)⟩
  ·refine⟨32,by decide,fun j hj=>?_⟩
   by_cases h0:j<16
   ·exact⟨0,16,by omega,by omega,aM run20_4 (by decide)⟩
   exact⟨16,16,by omega,by omega,aM run20_5 (by decide)⟩
  ·refine⟨41,by decide,fun j hj=>?_⟩
   by_cases h0:j<14
   ·exact⟨0,14,by omega,by omega,aM run20_1 (by decide)⟩
   by_cases h1:j<28
   ·exact⟨14,14,by omega,by omega,aM run20_2 (by decide)⟩
   exact⟨28,13,by omega,by omega,aM run20_3 (by decide)⟩
theorem ofW3{a b w v:Int}(h:0≤a∧a≤255∧0≤b∧b≤255∧w=1+a%5∧v=1+b%5):Cc 4 [.i a,.i b] [.i w,.i v]:=by
 obtain⟨h1,h2,h3,h4,rfl,rfl⟩:=h
 refine q4 rfl ?_;unfold p4
 simp (disch:=omega) only[↓qxs,↓qxc,↓qxa]
theorem in3{w v:Nat}(h1:1≤w)(h2:w≤5)(h3:1≤v)(h4:v≤5){c:Int}(hc:0≤c∧c≤255):pt3a P1 [.i (.ofNat w),.i (.ofNat v)] [] (fun a b x g=>pt3b P1 c a b x g KT3) KT3:=by
 obtain⟨L,hL,hall⟩:=run20_ok h1 h2 h3 h4
 have hm0:=Int.emod_nonneg c (show(L:Int)≠0 by omega)
 have hm1:=Int.emod_lt_of_pos c (show 0<(L:Int)by omega)
 obtain⟨lo,n,hlo,hn,ho⟩:=hall (c%(L:Int)).toNat (by omega)
 unfold okr3 at ho
 have:=st3a (pS 60) [.i (.ofNat w),.i (.ofNat v)] .empty (E':=fun a b x g=>pt3b P1 c a b x g KT3) (fun a b x h hk=>by
  have hk:=ans_yes hk
  simp only[Bool.and_eq_true]at hk
  obtain⟨q1,q2,q3⟩:=hk
  rw[mM,beq_iff_eq]at q1 q2
  subst q1 q2
  split at q3
  ·rename_i l hl
   simp only[Bool.and_eq_true]at q3
   obtain⟨q4,q5⟩:=q3
   rw[mM,beq_iff_eq]at q4
   subst q4
   have hr:=List.all_eq_true.1 q5 (c%(L:Int)).toNat (List.mem_range'_1.2 ⟨hlo,hn⟩)
   have hj:Int.ofNat (c%(L:Int)).toNat=c%(L:Int):=Int.toNat_of_nonneg hm0
   rw[hj]at hr
   have hz:=st3c (pS 60) _ _ _ _ _ (K':=KT3) isT_le3 (isY_ok hr)
   have hL':(0:Int)<(L:Int):=by omega
   have e0:Int.ofNat L=(L:Int):=rfl
   rw[e0]at hl
   unfold pt3b
   simp (disch:=omega) only[↓qxs,↓qxc,↓qxa]
   refine eH hl ?_
   simp (disch:=omega) only[↓qxs,↓qxc,↓qxa]
   exact hz
  ·cases q3) (K':=KT3) isT_le3 (isY_ok ho)
 exact this
theorem ij{a b c:Int}(h:0≤a∧a≤255∧0≤b∧b≤255∧0≤c∧c≤255):Cc 3 [.i a,.i b,.i c] [.b true]:=by
 obtain⟨w,hw⟩:=Int.eq_ofNat_of_zero_le (show 0≤1+a%5 by omega)
 obtain⟨v,hv⟩:=Int.eq_ofNat_of_zero_le (show 0≤1+b%5 by omega)
 have hr:=in3 (w:=w) (v:=v) (by omega) (by omega) (by omega) (by omega) (c:=c) ⟨h.2.2.2.2.1,h.2.2.2.2.2⟩
 refine q3 rfl ?_;unfold p3
 simp (disch:=omega) only[↓qxs,↓qxc,↓qxa]
 refine oK (ofW3 (w:=.ofNat w) (v:=.ofNat v) ⟨h.1,h.2.1,h.2.2.1,h.2.2.2.1,hw.symm,hv.symm⟩) ?_
 exact hr
theorem fQ(ls:List Lf)(h:HL)(hf:bd h [.i .u8,.i .u8,.i .u8] ls):∃h',dg cc ab 3 ls (absH ac h) [.b true] (absH ac h'):=by
 obtain⟨w,ls,rfl,hw,hf⟩:=hf.i
 obtain⟨v,ls,rfl,hv,hf⟩:=hf.i
 obtain⟨c,ls,rfl,hc,hf⟩:=hf.i
 obtain rfl:=hf.nil
 have hw:=wf_u8 hw
 have hv:=wf_u8 hv
 have hc:=wf_u8 hc
 exact⟨h,ij ⟨hw.1,hw.2,hv.1,hv.2,hc.1,hc.2⟩ _⟩
end Go.Am

/-
 WHAT THE ROW SAYS OF THE LISTED VARIABLES.
-/
set_option maxRecDepth 100000
namespace Go.Proofs.YtfbajaepoamenaaGreatDoor
open Go Go.Am Go.Am.Sx
open Go.ChangeShapes Go.WideShapes Go.ChangeAt Go.WideMaps Go.WideElems Go.RowKit
abbrev laidC:List (String×DataW Unit):= [("crimp/cells.quarters",Rows.laid_crimp_cells_quarters), ("crimp/corners.ways",Rows.laid_crimp_corners_ways)]
theorem name1 : Tryz.prog.globalNamed "crimp/cells.quarters" = some 1:=by kernel_rfl
theorem name0 : Tryz.prog.globalNamed "crimp/corners.ways" = some 0:=by kernel_rfl
theorem of_laid{W:World}(h:laidMetH Tryz.prog laidC W)(g:Nat)(vs:List Value)(hg:cc.G g=some vs) :
  g<W.heap.size∧vs.all aY=true∧vs.all flat=true∧∃c e fr,W.heap[g]? = some (.cells c e fr)∧c.toList=vs:=by
 rw[MakeChecks.laidMetH_plain _ _ _ (by kernel_rfl)]at h
 obtain⟨ps,h,_,_⟩:=h
 have main:∃c e fr,W.heap[g]? = some (.cells c e fr)∧c.toList=vs:=by
  unfold cc at hg
  simp only at hg
  split at hg
  ·cases hg
   exact lM h "crimp/cells.quarters" Rows.laid_crimp_cells_quarters List.mem_cons_self 1 126 8 gl1 name1 (by kernel_rfl) (by kernel_rfl)
  ·cases hg
   exact lM h "crimp/corners.ways" Rows.laid_crimp_corners_ways (List.mem_cons_of_mem _ List.mem_cons_self) 0 122 8 gl0 name0 (by kernel_rfl) (by kernel_rfl)
  ·cases hg
 refine⟨?_,gl_cell g vs hg,iq g vs hg,main⟩
 obtain⟨c,e,fr,h1,_⟩:=main
 rcases Nat.lt_or_ge g W.heap.size with h|h
 ·exact h
 ·rw[Array.getElem?_eq_none h]at h1;cases h1
theorem own:ownKnob Tryz.prog.godebug=none:=by kernel_rfl
theorem door_met(os:Os)(args:Array Value):laidMetH Tryz.prog laidC ((World.doorLaid Tryz.prog 400 os).forCall (fun _ _=>0) ⟨#[],args,[]⟩).memory:=
 laidMetH_of_parts3 (fuel:=8) (laidMet_of_run' 8 (by kernel_rfl) (by kernel_rfl)) (by kernel_rfl) (by kernel_rfl)
end Go.Proofs.YtfbajaepoamenaaGreatDoor


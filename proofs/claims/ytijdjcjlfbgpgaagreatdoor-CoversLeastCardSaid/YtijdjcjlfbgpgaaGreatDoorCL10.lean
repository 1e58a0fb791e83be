/-
  PART 10 OF THE PROOF (no conditions).
-/
import Derived.Test.YtijdjcjlfbgpgaaGreatDoorCL9
import Derived.SevenTiedAt
import Derived.Test.YtijdjcjlfbgpgaaGreatDoorCards
import Derived.Test.YtijdjcjlfbgpgaaGreatDoorTie
set_option linter.unusedSectionVars false
set_option linter.unusedSimpArgs false
set_option linter.unusedVariables false
set_option linter.constructorNameAsVariable false
set_option linter.defProp false
noncomputable section
set_option maxRecDepth 100000
namespace Go.Am
open Sx Go.Proofs
def krL_ok:AllR [ql0,ql1,ql2,ql3,ql4]:=.cons ql0_ok (.cons ql1_ok (.cons ql2_ok (.cons ql3_ok (.cons ql4_ok .nil))))
def lives21:∀H,aQ cc ab 10 [] H [.b true] H:=known_c (ok10 (runKR_ok (gP 60) krL_ok)) rfl (by kernel_rfl) rfl (by kernel_rfl)
end Go.Am
namespace Go.Am
namespace Sx
open Go.ChangeShapes Go.WideShapes Go.ChangeAt Go.WideMaps Go.WideElems Go.RowKit
def FitC:List LK->List Value->Prop
 | [],[]=>True
 | .i k :: ks,v :: vs=>(∃n,v = .int k n/\(Lit.int k n).wf=true)/\FitC ks vs
 | .b :: ks,v :: vs=>(∃t,v = .bool t)/\FitC ks vs
 |_,_=>False
def FitL:List LK->List Lf->Prop
 | [],[]=>True
 | .i k :: ks,.i n :: ls=>(Lit.int k n).wf=true/\FitL ks ls
 | .b :: ks,.b _ :: ls=>FitL ks ls
 |_,_=>False
def FitC.len:∀ {ks:List LK} {vs:List Value},FitC ks vs->vs.length=ks.length
 | [],[],_=>rfl
 | .i k :: ks,v :: vs,h=>by simp[FitC.len h.2]
 | .b :: ks,v :: vs,h=>by simp[FitC.len h.2]
 | .v :: _,_,h=>by cases h
 | [],_ :: _,h=>by cases h
 | .i _ :: _,[],h=>by cases h
 | .b :: _,[],h=>by cases h
def FitC.app:∀ {ks ks':List LK} {vs vs':List Value},FitC ks vs->FitC ks' vs'->FitC (ks++ks') (vs++vs')
 | [],_,[],_,_,h=>h
 | .i k :: ks,_,v :: vs,_,h,h'=>⟨h.1,FitC.app h.2 h'⟩
 | .b :: ks,_,v :: vs,_,h,h'=>⟨h.1,FitC.app h.2 h'⟩
 | .v :: _,_,_,_,h,_=>by cases h
 | [],_,_ :: _,_,h,_=>by cases h
 | .i _ :: _,_,[],_,h,_=>by cases h
 | .b :: _,_,[],_,h,_=>by cases h
def FitL.app:∀ {ks ks':List LK} {vs vs':List Lf},FitL ks vs->FitL ks' vs'->FitL (ks++ks') (vs++vs')
 | [],_,[],_,_,h=>h
 | .i k :: ks,_,.i v :: vs,_,h,h'=>⟨h.1,FitL.app h.2 h'⟩
 | .b :: ks,_,.b v :: vs,_,h,h'=>FitL.app (ks:=ks) h h'
 | .v :: _,_,_,_,h,_=>by cases h
 | [],_,_ :: _,_,h,_=>by cases h
 | .i _ :: _,_,[],_,h,_=>by cases h
 | .b :: _,_,[],_,h,_=>by cases h
 | .i _ :: _,_,.b _ :: _,_,h,_=>by cases h
 | .i _ :: _,_,.v _ :: _,_,h,_=>by cases h
 | .b :: _,_,.i _ :: _,_,h,_=>by cases h
 | .b :: _,_,.v _ :: _,_,h,_=>by cases h
def FitC.sl:∀ {ks:List LK} {vs:List Value},FitC ks vs->∃xs:List SL,xs.map SL.val=vs/\aF xs ks=true/\(∀x∈xs,x.good)/\FitL ks (xs.map SL.lf)
 | [],[],_=>⟨[],rfl,rfl,λ_ h=>(by cases h),trivial⟩
 | .i k :: ks,v :: vs,h=>by
  obtain⟨⟨n,rfl,hw⟩,h2⟩:=h
  obtain⟨xs,a,b,c,d⟩:=FitC.sl h2
  exact⟨.i k n :: xs,by simp[a,SL.val],by simp[aF,b,SL.is,dg],λx hx=>by
   rcases qaq.1 hx with rfl|hx
   ·trivial
   ·exact c x hx,hw,d⟩
 | .b :: ks,v :: vs,h=>by
  obtain⟨⟨n,rfl⟩,h2⟩:=h
  obtain⟨xs,a,b,c,d⟩:=FitC.sl h2
  exact⟨.b n :: xs,by simp[a,SL.val],by simp[aF,b,SL.is],λx hx=>by
   rcases qaq.1 hx with rfl|hx
   ·trivial
   ·exact c x hx,d⟩
 | .v :: _,_,h=>by cases h
 | [],_ :: _,h=>by cases h
 | .i _ :: _,[],h=>by cases h
 | .b :: _,[],h=>by cases h
def flatF(F:TypeId->Option (List LK)):List Field->Nat->Option (List LK)
 | [],_=>some []
 |f :: fs,off=>match Nat.beq f.offset off,F f.type with
  |true,some ks=>(flatF F fs (off+ks.length)).map (ks ++ ·)
  |_,_=>none
def uE(P:Program):Nat->TypeId->Option (List LK)
 |0,_=>none
 |d+1,t=>match P.underlying t with
  |some (.int k)=>some [.i k]
  |some .bool=>some [.b]
  |some (.struct fs)=>match flatF (uE P d) fs.toList 0 with
   |some ks=>match Nat.beq ks.length (P.cellsOf t)with
    |true=>some ks
    |false=>none
   |none=>none
  |some (.array n e)=>match uE P d e with
   |some ks=>match Nat.beq (P.cellsOf e) ks.length&&Nat.beq (P.cellsOf t) (n*ks.length)with
    |true=>some (List.replicate n ks).flatten
    |false=>none
   |none=>none
  |_=>none
section
variable {H:Type} {enc:TypeId×Value->H} {P:Program}
def iB{α:Type}(l:List α)(c:Nat):l.take (l.take c).length=l.take c:=by
 rw[qaM]
 rcases Nat.le_total c l.length with h|h
 ·rw[qbL h]
 ·rw[qc6 h,qaQ h,qaQ (qag _)]
def sY{F:TypeId->Option (List LK)}{w:World}{base:Nat}{sp:Nat->Bool}{held:Bool}{fuel:Nat}
  (hF:∀t ks,F t=some ks->∀cs (x:DataW H×List MemPlace),DataW.trod enc P w base sp held fuel t cs=some x->x.2=[]/\FitC ks cs/\∀w' b' s' h',DataW.trod enc P w' b' s' h' fuel t cs=some x) (cs:List Value) :
  ∀(fs:List Field) (off:Nat) (ks:List LK) (xs:List (DataW H×List MemPlace)),flatF F fs off=some ks->fs.mapM (λf=>DataW.trod enc P w base sp held fuel f.type ((cs.drop f.offset).take (P.cellsOf f.type)))=some xs->
   xs.flatMap (·.2)=[]/\FitC ks ((cs.drop off).take ks.length)/\∀w' b' s' h',fs.mapM (λf=>DataW.trod enc P w' b' s' h' fuel f.type ((cs.drop f.offset).take (P.cellsOf f.type)))=some xs
 | [],off,ks,xs,h1,h2=>by
  simp only[flatF,qat]at h1
  subst h1
  simp only[qc1,qcO,qat]at h2
  subst h2
  refine⟨rfl,by simp[FitC],λ_ _ _ _=>by simp⟩
 |f :: fs,off,ks,xs,h1,h2=>by
  simp only[flatF]at h1
  split at h1
  next k1 e1 e2=>
   obtain⟨k2,e3,rfl⟩:=qac.1 h1
   have e1:=qab e1
   rw[qbB]at h2
   obtain⟨x,h3,h2⟩:=qal.1 h2
   obtain⟨ys,h4,h2⟩:=qal.1 h2
   cases h2
   obtain⟨a1,a2,a3⟩:=hF _ _ e2 _ _ h3
   obtain⟨b1,b2,b3⟩:=sY hF cs fs _ k2 ys e3 h4
   refine⟨by simp[a1,b1],?_,λw' b' s' h'=>?_⟩
   ·rw[qaF,qc2]
    refine FitC.app ?_ (by rw[qbA];exact b2)
    have hl:=FitC.len a2
    rw[e1]at a2 hl
    rw[←hl,iB]
    exact a2
   ·rw[qbB,a3 w' b' s' h',b3 w' b' s' h']
    rfl
  ·cases h1
def arr_ok{w:World}{base:Nat}{sp:Nat->Bool}{held:Bool}{fuel c:Nat}{e:TypeId}{ks:List LK}(hc:c=ks.length)
  (hF:∀cs (x:DataW H×List MemPlace),DataW.trod enc P w base sp held fuel e cs=some x->x.2=[]/\FitC ks cs/\∀w' b' s' h',DataW.trod enc P w' b' s' h' fuel e cs=some x) (cs:List Value) :
  ∀(n:Nat) (xs:List (DataW H×List MemPlace)),(List.range n).mapM (λi=>DataW.trod enc P w base sp held fuel e ((cs.drop (i*c)).take c))=some xs->
   xs.flatMap (·.2)=[]/\FitC (List.replicate n ks).flatten (cs.take (n*c))/\∀w' b' s' h',(List.range n).mapM (λi=>DataW.trod enc P w' b' s' h' fuel e ((cs.drop (i*c)).take c))=some xs
 |0,xs,h=>by
  simp only[List.range_zero,qc1,qcO,qat]at h
  subst h
  exact⟨rfl,by simp[FitC],λ_ _ _ _=>by simp⟩
 |n+1,xs,h=>by
  rw[List.range_succ,List.mapM_append]at h
  obtain⟨ys,h1,h⟩:=qal.1 h
  obtain⟨zs,h2,h⟩:=qal.1 h
  cases h
  rw[qbB]at h2
  obtain⟨z,h3,h2⟩:=qal.1 h2
  cases h2
  obtain⟨a1,a2,a3⟩:=arr_ok hc hF cs n ys h1
  obtain⟨b1,b2,b3⟩:=hF _ _ h3
  refine⟨by simp[a1,b1],?_,λw' b' s' h'=>?_⟩
  ·rw[List.replicate_succ',List.flatten_append,qbn,qbU,qc2]
   refine FitC.app a2 ?_
   simpa using b2
  ·rw[List.range_succ,List.mapM_append,a3 w' b' s' h',qbB,b3 w' b' s' h']
   rfl
def kw:∀(d:Nat) (t:TypeId) (ks:List LK),uE P d t=some ks->∀(w:World) (base:Nat) (sp:Nat->Bool) (held:Bool) (fuel:Nat) (cs:List Value) (x:DataW H×List MemPlace),DataW.trod enc P w base sp held fuel t cs=some x->
  x.2=[]/\FitC ks cs/\∀w' b' s' h',DataW.trod enc P w' b' s' h' fuel t cs=some x
 |0,_,_,h=>by cases h
 |d+1,t,ks,h=>by
  intro w base sp held fuel cs x hx
  simp only[uE]at h
  split at h
  next k e=>
   cases h
   obtain⟨n,rfl,rfl,hw⟩:=DataW.trod_int e hx
   refine⟨rfl,⟨⟨n,rfl,hw⟩,trivial⟩,λw' b' s' h'=>?_⟩
   cases fuel with
   |zero=>simp[DataW.trod]at hx
   |succ m=>simp[DataW.trod,e,hw]
  next e=>
   cases h
   obtain⟨n,rfl,rfl⟩:=DataW.trod_bool e hx
   refine⟨rfl,⟨⟨n,rfl⟩,trivial⟩,λw' b' s' h'=>?_⟩
   cases fuel with
   |zero=>simp[DataW.trod]at hx
   |succ m=>simp[DataW.trod,e]
  next fs e=>
   split at h
   next k2 e2=>
    split at h
    next e3=>
     cases h
     have e3:=qab e3
     cases fuel with
     |zero=>simp[DataW.trod]at hx
     |succ m=>
      simp only[DataW.trod,e]at hx
      split at hx
      next hl=>
       obtain⟨xs,h5,rfl⟩:=qac.1 hx
       obtain⟨a1,a2,a3⟩:=sY (λt ks h cs x hx=>kw d t ks h w base sp held m cs x hx) cs fs.toList 0 ks xs e2 h5
       rw[qaX,qaQ (by omega)]at a2
       refine⟨a1,a2,λw' b' s' h'=>?_⟩
       simp only[DataW.trod,e,hl,if_true]
       rw[a3 w' b' s' h']
       rfl
      ·cases hx
    ·cases h
   ·cases h
  next n e e1=>
   split at h
   next k2 e2=>
    split at h
    next e3=>
     cases h
     rw[qaa]at e3
     have e4:=qab e3.1
     have e5:=qab e3.2
     cases fuel with
     |zero=>simp[DataW.trod]at hx
     |succ m=>
      simp only[DataW.trod,e1]at hx
      split at hx
      next hl=>
       obtain⟨xs,h5,rfl⟩:=qac.1 hx
       obtain⟨a1,a2,a3⟩:=arr_ok e4 (λcs x hx=>kw d e k2 e2 w base sp held m cs x hx) cs n xs h5
       rw[qaQ (by rw[hl,e5,e4];exact qag _)]at a2
       refine⟨a1,a2,λw' b' s' h'=>?_⟩
       simp only[DataW.trod,e1,hl,if_true]
       rw[a3 w' b' s' h']
       rfl
      ·cases hx
    ·cases h
   ·cases h
  ·cases h
end
section
variable [Val]
end
end Sx
end Go.Am
namespace Go.Am
namespace Sx
def FitL.i{k:IntKind}{ks:List LK}{ls:List Lf}(h:FitL (.i k :: ks) ls):∃n r,ls = .i n :: r/\(Lit.int k n).wf=true/\FitL ks r:=by
 match ls,h with
 | .i n :: r,h=>exact⟨n,r,rfl,h.1,h.2⟩
def FitL.b{ks:List LK}{ls:List Lf}(h:FitL (.b :: ks) ls):∃n r,ls = .b n :: r/\FitL ks r:=by
 match ls,h with
 | .b n :: r,h=>exact⟨n,r,rfl,h⟩
def FitL.nil{ls:List Lf}(h:FitL [] ls):ls=[]:=by
 match ls,h with
 | [],_=>rfl
def wf_u8{n:Int}(h:(Lit.int .u8 n).wf=true):0<=n/\n<=255:=by
 simp only[Lit.wf,qaa,decide_eq_true_eq]at h
 exact h
def mi{H:Type}{enc:TypeId×Value->H}{P:Program}{w:World}{base:Nat}{sp:Nat->Bool}{held:Bool}:∀ {ts:List TypeId} {vs:List Value} {ds:List (DataW H)} {ps:List MemPlace},DataW.TrodAll enc P w base sp held ts vs ds ps->ds.length=ts.length
 | [],[],[],_,_=>rfl
 |_ :: _,_ :: _,_ :: _,_,h=>by
  obtain⟨p,q,_,h2,_⟩:=h
  simp[mi h2]
 | [],_ :: _,_,_,h=>by cases h
 | [],[],_ :: _,_,h=>by cases h
 |_ :: _,[],_,_,h=>by cases h
 |_ :: _,_ :: _,[],_,h=>by cases h
end Sx
namespace Sx
open Go.ChangeShapes Go.WideShapes Go.ChangeAt Go.WideMaps Go.WideElems Go.RowKit
inductive CK2 where
 |i (k:IntKind)
 |b
 |s (ks:List LK)
def CK2.lk:CK2->LK
 | .i k=>.i k
 | .b=>.b
 | .s _=>.v
def SlFit(w:World)(ks:List LK)(v:Value):Prop:=
 v = .slice none 0 0∨∃(a:Addr) (len cap:Nat) (c:Array Value) (t:TypeId) (fr:Nat×Nat) (cells:List Value),v = .slice (some a) len cap/\a.spot=none/\len<=cap/\cap<=maxLen/\
  w.heap[a.block]?=some (.cells c t fr)/\(cap=0∨a.off+cap*ks.length<=c.size)/\cells.length=len*ks.length/\(∀(i:Nat) v,cells[i]?=some v->c[a.off+i]?=some v)/\
  ∀i,i<len->FitC ks ((cells.drop (i*ks.length)).take ks.length)
def CellFit(w:World):CK2->Value->Prop
 | .i k,v=>∃n,v = .int k n/\(Lit.int k n).wf=true
 | .b,v=>∃t,v = .bool t
 | .s ks,v=>SlFit w ks v
def dn(w:World):List CK2->List Value->Prop
 | [],[]=>True
 |k :: ks,v :: vs=>CellFit w k v/\dn w ks vs
 |_,_=>False
def aU(h:HL):List CK2->List Lf->Prop
 | [],[]=>True
 | .i k :: ks,.i n :: ls=>(Lit.int k n).wf=true/\aU h ks ls
 | .b :: ks,.b _ :: ls=>aU h ks ls
 | .s es :: ks,.v x :: ls=>(∃n cells,SlC h x es.length n cells/\n<=maxLen/\∀i,i<n->FitC es ((cells.drop (i*es.length)).take es.length))/\aU h ks ls
 |_,_=>False
def dn.len{w:World}:∀ {ks:List CK2} {vs:List Value},dn w ks vs->vs.length=ks.length
 | [],[],_=>rfl
 |_ :: _,_ :: _,h=>by simp[dn.len h.2]
 | [],_ :: _,h=>by cases h
 |_ :: _,[],h=>by cases h
def dn.app{w:World}:∀ {ks ks':List CK2} {vs vs':List Value},dn w ks vs->dn w ks' vs'->dn w (ks++ks') (vs++vs')
 | [],_,[],_,_,h=>h
 |_ :: _,_,_ :: _,_,h,h'=>⟨h.1,dn.app h.2 h'⟩
 | [],_,_ :: _,_,h,_=>by cases h
 |_ :: _,_,[],_,h,_=>by cases h
def aU.app{h:HL}:∀ {ks ks':List CK2} {vs vs':List Lf},aU h ks vs->aU h ks' vs'->aU h (ks++ks') (vs++vs')
 | [],_,[],_,_,h=>h
 | .i _ :: ks,_,.i _ :: _,_,h,h'=>⟨h.1,aU.app (ks:=ks) h.2 h'⟩
 | .b :: ks,_,.b _ :: _,_,h,h'=>aU.app (ks:=ks) h h'
 | .s _ :: ks,_,.v _ :: _,_,h,h'=>⟨h.1,aU.app (ks:=ks) h.2 h'⟩
 | [],_,_ :: _,_,h,_=>by cases h
 | .i _ :: _,_,[],_,h,_=>by cases h
 | .b :: _,_,[],_,h,_=>by cases h
 | .s _ :: _,_,[],_,h,_=>by cases h
 | .i _ :: _,_,.b _ :: _,_,h,_=>by cases h
 | .i _ :: _,_,.v _ :: _,_,h,_=>by cases h
 | .b :: _,_,.i _ :: _,_,h,_=>by cases h
 | .b :: _,_,.v _ :: _,_,h,_=>by cases h
 | .s _ :: _,_,.i _ :: _,_,h,_=>by cases h
 | .s _ :: _,_,.b _ :: _,_,h,_=>by cases h
def ckF(F:TypeId->Option (List CK2)):List Field->Nat->Option (List CK2)
 | [],_=>some []
 |f :: fs,off=>match Nat.beq f.offset off,F f.type with
  |true,some ks=>(ckF F fs (off+ks.length)).map (ks ++ ·)
  |_,_=>none
def kby:LK->Nat
 | .i .i64=>8
 |_=>0
def kbs:List LK->Nat
 | []=>0
 |k :: ks=>kby k+kbs ks
def ckT(P:Program):Nat->TypeId->Option (List CK2)
 |0,_=>none
 |d+1,t=>match P.underlying t with
  |some (.int k)=>some [.i k]
  |some .bool=>some [.b]
  |some (.slice e)=>match uE P 20 e with
   |some ks=>match Nat.beq (P.cellsOf e) ks.length&&Nat.blt 0 ks.length&&Nat.ble (kbs ks) (P.bytesOf e)with
    |true=>some [.s ks]
    |false=>none
   |none=>none
  |some (.struct fs)=>match ckF (ckT P d) fs.toList 0 with
   |some ks=>match Nat.beq ks.length (P.cellsOf t)with
    |true=>some ks
    |false=>none
   |none=>none
  |_=>none
section
variable {H:Type} {enc:TypeId×Value->H} {P:Program}
def Lies(w:World)(v:Value):Prop:=∀a len cap,v = .slice (some a) len cap->a.spot=none/\∃c t fr,w.heap[a.block]?=some (.cells c t fr)
def gK{α β:Type}{f g:α->Option β}:∀ {l:List α},(∀x∈l,f x=g x)->l.mapM f=l.mapM g
 | [],_=>rfl
 |a :: l,h=>by
  rw[qbB,qbB,h a qaJ,gK λx hx=>h x (qan _ hx)]
def bh{a:Addr}(h:a.spot=none)(i:Nat):a.add i=⟨a.block,a.off+i,none⟩:=by
 obtain⟨b,o,s⟩:=a
 cases h
 unfold Addr.add
 simp
def slice_ok{w:World}{t e:TypeId}{ks:List LK}(ht:P.underlying t=some (.slice e))(he:uE P 20 e=some ks)(hc:P.cellsOf e=ks.length)(h0:0<ks.length){base:Nat}(hbase:base=0){held:Bool}{fuel:Nat}{cs:List Value}{x:DataW H×List MemPlace}
  (hx:DataW.trod enc P w base (λ_=>true) held fuel t cs=some x) (hl:∀v∈cs,Lies w v) :
  ∃v,cs=[v]/\SlFit w ks v/\∀(w':World) (s':Nat->Bool),(∀b,b<w.heap.size->w'.heap[b]?=w.heap[b]?)->(∀b,b<w.heap.size->s' b=true)->DataW.trod enc P w' base s' held fuel t cs=some x:=by
 subst hbase
 have hx0:=hx
 rcases DataW.trod_slice ht hx with⟨rfl,rfl⟩|⟨a,len,cap,elems,rest,n,rfl,rfl,rfl,hb,hlc,hm,hlen,hel,hsp,_⟩
 ·refine⟨_,rfl,.inl rfl,λw' s' _ _=>?_⟩
  cases fuel with
  |zero=>simp[DataW.trod]at hx
  |succ m=>simp[DataW.trod,ht]
 ·obtain⟨hs,c,t',fr,hblk⟩:=hl _ qaJ a len cap rfl
  obtain⟨hrl,hr⟩:=hsp rfl
  rw[hc]at hel hr
  have hlt:a.block<w.heap.size:=by
   rcases qaC a.block w.heap.size with h|h
   ·exact h
   ·rw[qa8 h]at hblk;cases hblk
  have each:∀i,i<cap->∃ci y,w.cells? 0 (a.add (i*ks.length)) ks.length=some ci/\DataW.trod enc P w 0 (λ_=>true) held n e ci=some y/\(elems++rest)[i]?=some y:=by
   intro i hi
   by_cases h1:i<len
   ·have h2:=hel i h1
    have h3:elems[i]?=some elems[i]:=qao (by omega)
    rw[h3]at h2
    obtain⟨ci,h4,h5⟩:=qal.1 h2
    exact⟨ci,_,h4,h5,by rw[qaj (by omega)];exact h3⟩
   ·have h2:=hr (i - len) (by omega)
    rw[show len+(i - len)=i by omega]at h2
    have h3:rest[i - len]?=some (rest[i - len]'(by omega)):=qao (by omega)
    rw[h3]at h2
    obtain⟨ci,h4,h5⟩:=qal.1 h2
    exact⟨ci,_,h4,h5,by rw[qar (by omega),hlen];exact h3⟩
  have rd:∀i,i<cap->∀j,j<ks.length->∀ci,w.cells? 0 (a.add (i*ks.length)) ks.length=some ci->c[a.off+i*ks.length+j]?=ci[j]?:=by
   intro i hi j hj ci hci
   have h1:=(World.cells?_some hci).2.2 j hj
   rw[bh hs,bh rfl]at h1
   rw[←h1]
   unfold World.cell?
   simp[hblk]
  have hsz:cap=0∨a.off+cap*ks.length<=c.size:=by
   by_cases hcap:cap=0
   ·exact .inl hcap
   ·right
    obtain⟨ci,y,h1,_,_⟩:=each (cap - 1) (by omega)
    have h2:=rd (cap - 1) (by omega) (ks.length - 1) (by omega) ci h1
    have hcl:=(World.cells?_some h1).2.1
    rw[qao (by omega)]at h2
    have h3:=(qav.1 h2).1
    have h4:cap*ks.length=(cap - 1)*ks.length+ks.length:=by
     rw[←Nat.succ_mul];congr 1;omega
    omega
  have hsz2:a.off+len*ks.length<=c.size∨len=0:=by
   rcases hsz with h|h
   ·right;omega
   ·left
    have:=qa9 ks.length hlc
    omega
  refine⟨_,rfl,.inr ⟨a,len,cap,c,t',fr,(c.toList.drop a.off).take (len*ks.length),rfl,hs,hlc,hm,hblk,hsz,?_,?_,?_⟩,?_⟩
  ·rw[qaM,qcm]
   have hcz:c.toList.length=c.size:=qco
   rcases hsz2 with h|h
   ·omega
   ·subst h;omega
  ·intro i v hv
   rw[qaN]at hv
   split at hv
   ·rw[qa0]at hv
    simpa using hv
   ·cases hv
  ·intro i hi
   obtain⟨ci,y,h1,h2,_⟩:=each i (by omega)
   obtain⟨_,h3,_⟩:=kw 20 e ks he w 0 _ held n ci y h2
   have hcl:=(World.cells?_some h1).2.1
   have:(((c.toList.drop a.off).take (len*ks.length)).drop (i*ks.length)).take ks.length=ci:=by
    apply qaT
    intro j
    by_cases hj:j<ks.length
    ·have hle:i*ks.length+ks.length<=len*ks.length:=by
      have:=qa9 ks.length (show i+1<=len by omega)
      rw[qbn,qbU]at this;exact this
     rw[qaN,if_pos hj,qa0,qaN,if_pos (by omega),qa0,←rd i (by omega) j hj ci h1]
     rw[qcy,qbr]
    ·rw[qah (by rw[qaM];omega),qah (by omega)]
   rw[this];exact h3
  ·intro w' s' hw hs'
   have hcell:∀i,i<cap->w'.cells? 0 (a.add (i*ks.length)) ks.length=w.cells? 0 (a.add (i*ks.length)) ks.length:=by
    intro i hi
    unfold World.cells?
    have:∀j,w'.cell? ((a.add (i*ks.length)).add j)=w.cell? ((a.add (i*ks.length)).add j):=by
     intro j
     rw[bh hs,bh rfl]
     unfold World.cell?
     rw[hw _ hlt]
    simp only[this]
   have el:∀i,i<cap->(w'.cells? 0 (a.add (i*P.cellsOf e)) (P.cellsOf e)).bind (DataW.trod enc P w' 0 s' held n e)=(elems++rest)[i]?:=by
    intro i hi
    rw[hc,hcell i hi]
    obtain⟨ci,y,h1,h2,h3⟩:=each i hi
    rw[h1,h3,qaf]
    exact(kw 20 e ks he w 0 _ held n ci y h2).2.2 w' 0 s' held
   have el0:∀i,i<cap->(w.cells? 0 (a.add (i*P.cellsOf e)) (P.cellsOf e)).bind (DataW.trod enc P w 0 (λ_=>true) held n e)=(elems++rest)[i]?:=by
    intro i hi
    rw[hc]
    obtain⟨ci,y,h1,h2,h3⟩:=each i hi
    rw[h1,h3,qaf]
    exact h2
   unfold DataW.trod at hx0 ⊢
   simp only[ht]at hx0 ⊢
   rw[if_pos ⟨qaP _,hlc,hm⟩]at hx0 ⊢
   rw[gK (λi hi=>(el i (by have:=qaK.1 hi;omega)).trans (el0 i (by have:=qaK.1 hi;omega)).symm)]
   rw[gK (l:=List.range (cap - len)) (λj hj=>(el (len+j) (by have:=qaK.1 hj;omega)).trans (el0 (len+j) (by have:=qaK.1 hj;omega)).symm)]
   rw[hs' _ hlt]
   exact hx0
def ckF_ok{F:TypeId->Option (List CK2)}{w:World}{held:Bool}{fuel:Nat}(cs:List Value)(hl:∀v∈cs,Lies w v)
  (hF:∀t ks,F t=some ks->∀cs (x:DataW H×List MemPlace),(∀v∈cs,Lies w v)->DataW.trod enc P w 0 (λ_=>true) held fuel t cs=some x->dn w ks cs/\∀(w':World) (s':Nat->Bool),(∀b,b<w.heap.size->w'.heap[b]?=w.heap[b]?)->(∀b,b<w.heap.size->s' b=true)->DataW.trod enc P w' 0 s' held fuel t cs=some x) :
  ∀(fs:List Field) (off:Nat) (ks:List CK2) (xs:List (DataW H×List MemPlace)),ckF F fs off=some ks->fs.mapM (λf=>DataW.trod enc P w 0 (λ_=>true) held fuel f.type ((cs.drop f.offset).take (P.cellsOf f.type)))=some xs->
   dn w ks ((cs.drop off).take ks.length)/\∀(w':World) (s':Nat->Bool),(∀b,b<w.heap.size->w'.heap[b]?=w.heap[b]?)->(∀b,b<w.heap.size->s' b=true)->fs.mapM (λf=>DataW.trod enc P w' 0 s' held fuel f.type ((cs.drop f.offset).take (P.cellsOf f.type)))=some xs
 | [],off,ks,xs,h1,h2=>by
  simp only[ckF,qat]at h1
  subst h1
  simp only[qc1,qcO,qat]at h2
  subst h2
  refine⟨by simp[dn],λ_ _ _ _=>by simp⟩
 |f :: fs,off,ks,xs,h1,h2=>by
  simp only[ckF]at h1
  split at h1
  next k1 e1 e2=>
   obtain⟨k2,e3,rfl⟩:=qac.1 h1
   have e1:=qab e1
   rw[qbB]at h2
   obtain⟨x,h3,h2⟩:=qal.1 h2
   obtain⟨ys,h4,h2⟩:=qal.1 h2
   cases h2
   obtain⟨a2,a3⟩:=hF _ _ e2 _ _ (λv hv=>hl v (qbs (qaU hv))) h3
   obtain⟨b2,b3⟩:=ckF_ok cs hl hF fs _ k2 ys e3 h4
   refine⟨?_,λw' s' hw hs'=>?_⟩
   ·rw[qaF,qc2]
    refine dn.app ?_ (by rw[qbA];exact b2)
    have hl:=dn.len a2
    rw[e1]at a2 hl
    rw[←hl,iB]
    exact a2
   ·rw[qbB,a3 w' s' hw hs',b3 w' s' hw hs']
    rfl
  ·cases h1
def ckT_ok:∀(d:Nat) (t:TypeId) (ks:List CK2),ckT P d t=some ks->∀(w:World) (held:Bool) (fuel:Nat) (cs:List Value) (x:DataW H×List MemPlace),(∀v∈cs,Lies w v)->DataW.trod enc P w 0 (λ_=>true) held fuel t cs=some x->
  dn w ks cs/\∀(w':World) (s':Nat->Bool),(∀b,b<w.heap.size->w'.heap[b]?=w.heap[b]?)->(∀b,b<w.heap.size->s' b=true)->DataW.trod enc P w' 0 s' held fuel t cs=some x
 |0,_,_,h=>by cases h
 |d+1,t,ks,h=>by
  intro w held fuel cs x hl hx
  simp only[ckT]at h
  split at h
  next k e=>
   cases h
   obtain⟨n,rfl,rfl,hw⟩:=DataW.trod_int e hx
   refine⟨⟨⟨n,rfl,hw⟩,trivial⟩,λw' s' _ _=>?_⟩
   cases fuel with
   |zero=>simp[DataW.trod]at hx
   |succ m=>simp[DataW.trod,e,hw]
  next e=>
   cases h
   obtain⟨n,rfl,rfl⟩:=DataW.trod_bool e hx
   refine⟨⟨⟨n,rfl⟩,trivial⟩,λw' s' _ _=>?_⟩
   cases fuel with
   |zero=>simp[DataW.trod]at hx
   |succ m=>simp[DataW.trod,e]
  next e e0=>
   split at h
   next k2 e2=>
    split at h
    next e3=>
     cases h
     simp only[qaa,qaY]at e3
     obtain⟨v,rfl,a2,a3⟩:=slice_ok e0 e2 (qab e3.1.1) e3.1.2 rfl hx hl
     exact⟨⟨a2,trivial⟩,a3⟩
    ·cases h
   ·cases h
  next fs e=>
   split at h
   next k2 e2=>
    split at h
    next e3=>
     cases h
     have e3:=qab e3
     cases fuel with
     |zero=>simp[DataW.trod]at hx
     |succ m=>
      simp only[DataW.trod,e]at hx
      split at hx
      next hlen=>
       obtain⟨xs,h5,rfl⟩:=qac.1 hx
       obtain⟨a2,a3⟩:=ckF_ok cs hl (λt ks h cs x hl hx=>ckT_ok d t ks h w held m cs x hl hx) fs.toList 0 ks xs e2 h5
       rw[qaX,qaQ (by omega)]at a2
       refine⟨a2,λw' s' hw hs'=>?_⟩
       simp only[DataW.trod,e,hlen,if_true]
       rw[a3 w' s' hw hs']
       rfl
      ·cases hx
    ·cases h
   ·cases h
  ·cases h
abbrev Blk2:=HObj×Option Pl
def pM(w:World)(b:Blk2):Prop:=b.1 = .dead∨∃vs e p c t fr,b.1 = .cells vs e false/\b.2=some p/\p.esz=e/\vs.all flat=true/\vs.all aH=true/\vs.length<=p.room/\w.heap[p.b]?=some (.cells c t fr)/\c.size=p.o+p.room/\∀(i:Nat) v,vs[i]?=some v->c[p.o+i]?=some v
def lj:∀ {ks:List LK} {vs:List Value},FitC ks vs->vs.all flat=true/\vs.all aH=true
 | [],[],_=>⟨rfl,rfl⟩
 | .i k :: ks,v :: vs,h=>by
  obtain⟨⟨n,rfl,_⟩,h2⟩:=h
  obtain⟨a,b⟩:=lj h2
  exact⟨by simp[a,flat,eg,scalar],by simp[b];rfl⟩
 | .b :: ks,v :: vs,h=>by
  obtain⟨⟨n,rfl⟩,h2⟩:=h
  obtain⟨a,b⟩:=lj h2
  exact⟨by simp[a,flat,eg,scalar],by simp[b];rfl⟩
 | .v :: _,_,h=>by cases h
 | [],_ :: _,h=>by cases h
 | .i _ :: _,[],h=>by cases h
 | .b :: _,[],h=>by cases h
def rH{ks:List LK}(hk:0<ks.length){cells:List Value}{n:Nat}(hl:cells.length=n*ks.length)(h:∀i,i<n->FitC ks ((cells.drop (i*ks.length)).take ks.length)):cells.all flat=true/\cells.all aH=true:=by
 have main:∀j,j<cells.length->∃v,cells[j]?=some v/\flat v=true/\aH v=true:=by
  intro j hj
  have h1:j / ks.length<n:=by
   rw[Nat.div_lt_iff_lt_mul hk];omega
  obtain⟨a,b⟩:=lj (h _ h1)
  have hm:=qbj j hk
  have hd:=Nat.div_add_mod j ks.length
  have hmem:((cells.drop (j / ks.length*ks.length)).take ks.length)[j%ks.length]?=some cells[j]:=by
   rw[qaN,if_pos hm,qa0]
   rw[show j / ks.length*ks.length+j%ks.length=j by rw[Nat.mul_comm];exact hd]
   exact qao hj
  exact⟨_,qao hj,qae.1 a _ (qad hmem),qae.1 b _ (qad hmem)⟩
 constructor<;>
 ·rw[qae]
  intro v hv
  obtain⟨j,hj⟩:=qaL hv
  have hlt:j<cells.length:=by
   rcases qaC j cells.length with h|h
   ·exact h
   ·rw[qah h]at hj;cases hj
  obtain⟨v',h1,h2,h3⟩:=main j hlt
  rw[hj]at h1
  cases h1
  first|exact h2|exact h3
section
variable [Val] [Glo]
def cell_abs{w:World}{ck:CK2}{v:Value}(hp:∀ks,ck = .s ks->0<ks.length)(h:CellFit w ck v)(n0:Nat):∃(x:SL) (bl:List Blk2),(∀b∈bl,pM w b)/\x.is ck.lk=true/\x.good/\
  (∀mu:HMap,(∀(i:Nat) b,bl[i]?=some b->mu (n0+i)=b.2)->VR noL mu x.val v)/\∀hp:HL,(∀(i:Nat) b,bl[i]?=some b->hp[n0+i]?=some (.o b.1))->aU hp [ck] [x.lf]:=by
 cases ck with
 |i k=>
  obtain⟨n,rfl,hw⟩:=h
  exact⟨.i k n,[],by simp,by simp[SL.is,CK2.lk,dg],trivial,λmu _=>.scalar rfl,λhp _=>⟨hw,trivial⟩⟩
 |b=>
  obtain⟨t,rfl⟩:=h
  exact⟨.b t,[],by simp,rfl,trivial,λmu _=>.scalar rfl,λhp _=>trivial⟩
 |s ks=>
  have hk:=hp ks rfl
  rcases h with rfl|⟨a,len,cap,c,t,fr,cells,rfl,hs,hlc,hm,hblk,hsz,hcl,hget,hfit⟩
  ·refine⟨.v (.slice none 0 0),[],by simp,rfl,rfl,λmu _=>.scalar rfl,λhp _=>⟨⟨0,[],⟨by simp,.inl ⟨rfl,rfl⟩⟩,qaP _,λi hi=>by omega⟩,trivial⟩⟩
  ·obtain⟨hf1,hf2⟩:=rH hk hcl hfit
   have gd:aX (.slice (some ⟨n0,0,tag ks.length⟩) len 0)=true:=by simp[aX,noLoc,aY,bV,bp,aV,ay,tag]
   have ha:a=⟨a.block,a.off,none⟩:=by cases a;cases hs;rfl
   have fit:∀hp:HL,hp[n0]?=some (.o (.cells cells ks.length false))->aU hp [.s ks] [.v (.slice (some ⟨n0,0,tag ks.length⟩) len 0)]:=λhp h1=>
    ⟨⟨len,cells,⟨hcl,.inr ⟨n0,0,0,cells,false,rfl,h1,cut_all hcl⟩⟩,by omega,hfit⟩,trivial⟩
   by_cases hcap:cap=0
   ·subst hcap
    obtain rfl:len=0:=by omega
    have hce:cells=[]:=List.eq_nil_of_length_eq_zero (by omega)
    subst hce
    refine⟨.v (.slice (some ⟨n0,0,tag ks.length⟩) 0 0),[(.cells [] ks.length false,some ⟨a.block,c.size,0,ks.length⟩)],λb hb=>?_,rfl,gd,λmu _=>.hslice0 (qaP _),λhp h1=>fit hp (h1 0 _ rfl)⟩
    simp only[qak]at hb
    subst hb
    exact .inr ⟨[],ks.length,_,c,t,fr,rfl,rfl,rfl,rfl,rfl,qaP _,hblk,by simp,λi v hv=>by simp at hv⟩
   ·have hsz:a.off+cap*ks.length<=c.size:=hsz.resolve_left hcap
    have hle:=qa9 ks.length hlc
    refine⟨.v (.slice (some ⟨n0,0,tag ks.length⟩) len 0),[(.cells cells ks.length false,some ⟨a.block,a.off,c.size - a.off,ks.length⟩)],λb hb=>?_,rfl,gd,λmu h1=>?_,λhp h1=>fit hp (h1 0 _ rfl)⟩
    ·simp only[qak]at hb
     subst hb
     exact .inr ⟨cells,ks.length,_,c,t,fr,rfl,rfl,rfl,hf1,hf2,by show cells.length<=c.size - a.off;omega,hblk,by show c.size=a.off+(c.size - a.off);omega,hget⟩
    ·have h2:=h1 0 _ rfl
     rw[ha]
     have:=VR.hslice (la:=noL) (mu:=mu) (id:=n0) (off:=0) (len:=len) (cap:=cap) (cx:=0) h2 (by show 0+cap*ks.length<=c.size - a.off;omega) hlc (.inl rfl)
     exact this
def pX{w:World}:∀ {cks:List CK2} {vs:List Value},(∀ks,CK2.s ks∈cks->0<ks.length)->dn w cks vs->∀n0,∃(xs:List SL) (bl:List Blk2),(∀b∈bl,pM w b)/\aF xs (cks.map CK2.lk)=true/\(∀x∈xs,x.good)/\xs.length=vs.length/\
  (∀mu:HMap,(∀(i:Nat) b,bl[i]?=some b->mu (n0+i)=b.2)->VRs noL mu (xs.map SL.val) vs)/\∀hp:HL,(∀(i:Nat) b,bl[i]?=some b->hp[n0+i]?=some (.o b.1))->aU hp cks (xs.map SL.lf)
 | [],[],_,_,n0=>⟨[],[],by simp,rfl,by simp,rfl,λmu _=>⟨rfl,λi x y h=>by simp at h⟩,λhp _=>trivial⟩
 |ck :: cks,v :: vs,hp,h,n0=>by
  obtain⟨x,bl,a1,a2,a3,a4,a5⟩:=cell_abs (λks e=>hp ks (by rw[e];exact qaJ)) h.1 n0
  obtain⟨xs,bl',b1,b2,b3,b4,b5,b6⟩:=pX (λks e=>hp ks (qan _ e)) h.2 (n0+bl.length)
  have g1:∀ {α:Type} {f:Nat->α} {g:Blk2->α},(∀(i:Nat) b,(bl++bl')[i]?=some b->f (n0+i)=g b)->(∀(i:Nat) b,bl[i]?=some b->f (n0+i)=g b)/\∀(i:Nat) b,bl'[i]?=some b->f (n0+bl.length+i)=g b:=by
   intro α f g h
   refine⟨λi b hb=>h i b ?_,λi b hb=>?_⟩
   ·rw[qaj (by
     rcases qaC i bl.length with h|h
     ·exact h
     ·rw[qah h]at hb;cases hb)];exact hb
   ·rw[qbr]
    refine h _ b ?_
    rw[qar (by omega),qcv];exact hb
  refine⟨x :: xs,bl++bl',λb hb=>?_,by simp[aF,a2,b2],λy hy=>?_,by simp[b4],λmu hmu=>?_,λhp hh=>?_⟩
  ·rcases qay.1 hb with h|h
   ·exact a1 b h
   ·exact b1 b h
  ·rcases qaq.1 hy with rfl|hy
   ·exact a3
   ·exact b3 y hy
  ·obtain⟨h1,h2⟩:=g1 (f:=mu) (g:=λb=>b.2) hmu
   have c1:=a4 mu h1
   obtain⟨c2,c3⟩:=b5 mu h2
   refine⟨by simpa using c2,λi p q hi hj=>?_⟩
   cases i with
   |zero=>
    simp only[qap,qa3,qat]at hi hj
    subst hi hj;exact c1
   |succ i=>exact c3 i p q (by simpa using hi) (by simpa using hj)
  ·obtain⟨h1,h2⟩:=g1 (f:=λi=>hp[i]?) (g:=λb=>some (HO.o b.1)) hh
   exact aU.app (a5 hp h1) (b6 hp h2)
 | [],_ :: _,_,h,_=>by cases h
 |_ :: _,[],_,h,_=>by cases h
end
end
end Sx
namespace Sx
open Go.ChangeShapes Go.WideShapes Go.ChangeAt Go.WideMaps Go.WideElems Go.RowKit
section
variable {H:Type} {enc:TypeId×Value->H} {P:Program}
def lE{w:World}{r:Reach}{b0:Nat}{u:TypeId}{v:Value}(h:Cell.okWide P w r b0 u v):Lies w v:=by
 rintro a len cap rfl
 have h1:∃e,w.has P r b0 a e cap:=by
  unfold Cell.okWide at h
  split at h<;>first|(rename_i e1 e2;cases e2;done)|(rename_i e1;cases e1;done)|skip
  all_goals
   unfold Cell.ok at h
   split at h<;>first|(cases h;done)|(rename_i e1 e2;cases e2;done)|skip
   all_goals first|(rename_i heq;injection heq with q1 q2 q3;subst q2 q3;cases q1;exact⟨_,h.2.2⟩)|skip
 obtain⟨e,_,h2,row,cells,h3,_⟩:=h1
 refine⟨h2,?_⟩
 unfold World.shape? at h3
 split at h3
 next c el fr e1=>
  exact⟨c,el,fr,e1⟩
 ·cases h3
def lies_val{w:World}{r:Reach}{b0:Nat}{t:TypeId}{v:Value}(h:Value.okWide P w r b0 t v):∀x∈v.cells.toList,Lies w x:=by
 intro x hx
 unfold Value.okWide at h
 split at h
 ·obtain⟨cs,rfl,_,ts,_,_,h2⟩:=h
  obtain⟨i,hi⟩:=qaL hx
  obtain⟨u,_,h3⟩:=h2 i x (by simpa[Value.cells]using hi)
  exact lE h3
 ·obtain⟨cs,rfl,_,ts,_,_,h2⟩:=h
  obtain⟨i,hi⟩:=qaL hx
  obtain⟨u,_,h3⟩:=h2 i x (by simpa[Value.cells]using hi)
  exact lE h3
 ·have:x=v∨∃cs,v = .agg cs:=by
   cases v<;>first|(right;exact⟨_,rfl⟩)|(left;simpa[Value.cells]using hx)
  rcases this with rfl|⟨cs,rfl⟩
  ·exact lE h
  ·exfalso
   unfold Cell.okWide at h
   split at h<;>first|(rename_i e1 e2;cases e2;done)|(rename_i e1;cases e1;done)|skip
   all_goals
    unfold Cell.ok at h
    split at h<;>first|(cases h;done)|(rename_i e1 e2;cases e2;done)|skip
def skC(P:Program)(t:TypeId)(cks:List CK2):Option SK:=
 match P.underlying t,cks with
 |some (.struct _),cks=>some (.agg (cks.map CK2.lk))
 |some (.int _),[k]=>some (.leaf k.lk)
 |some .bool,[k]=>some (.leaf k.lk)
 |some (.slice _),[k]=>some (.leaf k.lk)
 |_,_=>none
def posK(cks:List CK2):Bool:=cks.all λk=>match k with
 | .s ks=>Nat.blt 0 ks.length
 |_=>true
def posK_ok{cks:List CK2}(h:posK cks=true):∀ks,CK2.s ks∈cks->0<ks.length:=by
 intro ks hk
 have:=qae.1 h _ hk
 simpa[qaY]using this
section
variable [Val] [Glo]
structure Abs(W:World)(n0:Nat)(bl:List Blk2):Prop where
 ok:∀b∈bl,pM W b
abbrev MuAt(mu:HMap)(n0:Nat)(bl:List Blk2):Prop:=∀(i:Nat) b,bl[i]?=some b->mu (n0+i)=b.2
abbrev HpAt(hp:HL)(n0:Nat)(bl:List Blk2):Prop:=∀(i:Nat) b,bl[i]?=some b->hp[n0+i]?=some (.o b.1)
abbrev Stays(W W':World):Prop:=∀b,b<W.heap.size->W'.heap[b]?=W.heap[b]?
def open_arg2{W:World}{r:Reach}{b0:Nat}{held:Bool}{t:TypeId}{cks:List CK2}{sk:SK}{v:Value}{d:DataW H}{ps:List MemPlace}(h:ckT P 20 t=some cks)(hsk:skC P t cks=some sk)(hpos:posK cks=true)(hval:Value.okWide P W r b0 t v)(hd:DataW.Trod enc P W 0 (λ_=>true) held t v d ps)(n0:Nat) :
  ∃(x:S0) (bl:List Blk2),(∀b∈bl,pM W b)/\x.is sk=true/\x.good/\(∀mu:HMap,MuAt mu n0 bl->VR noL mu x.val v)/\(∀hp:HL,HpAt hp n0 bl->aU hp cks (x.cells.map SL.lf))/\
   ∀(W':World) (s':Nat->Bool),Stays W W'->(∀b,b<W.heap.size->s' b=true)->DataW.Trod enc P W' 0 s' held t v d ps:=by
 obtain⟨fuel,hf⟩:=hd
 obtain⟨a1,a2⟩:=ckT_ok 20 t cks h W held fuel _ _ (lies_val hval) hf
 obtain⟨xs,bl,b1,b2,b3,b4,b5,b6⟩:=pX (posK_ok hpos) a1 n0
 have close:∀(W':World) (s':Nat->Bool),Stays W W'->(∀b,b<W.heap.size->s' b=true)->DataW.Trod enc P W' 0 s' held t v d ps:=λW' s' h1 h2=>⟨fuel,a2 W' s' h1 h2⟩
 have leaf:(∀fs,P.underlying t≠some (.struct fs))->(∀n e,P.underlying t≠some (.array n e))->∀k,cks=[k]->sk = .leaf k.lk->∃(x:S0) (bl:List Blk2),(∀b∈bl,pM W b)/\x.is sk=true/\x.good/\(∀mu:HMap,MuAt mu n0 bl->VR noL mu x.val v)/\(∀hp:HL,HpAt hp n0 bl->aU hp cks (x.cells.map SL.lf))/\
   ∀(W':World) (s':Nat->Bool),Stays W W'->(∀b,b<W.heap.size->s' b=true)->DataW.Trod enc P W' 0 s' held t v d ps:=by
  rintro hs1 hs2 k rfl rfl
  have hv:v.cells.toList=[v]:=by
   have h1:=dn.len a1
   cases v with
   |agg cs=>
    exfalso
    unfold Value.okWide at hval
    split at hval
    next e=>exact hs1 _ e
    next e=>exact hs2 _ _ e
    ·unfold Cell.okWide at hval
     split at hval<;>first|(rename_i e1 e2;cases e2;done)|(rename_i e1;cases e1;done)|skip
     all_goals
      unfold Cell.ok at hval
      split at hval<;>first|(cases hval;done)|(rename_i e1 e2;cases e2;done)|skip
   |_=>simp[Value.cells]
  rw[hv]at a1 b4 b5
  obtain⟨x,rfl⟩ : ∃x,xs=[x]:=List.length_eq_one_iff.1 b4
  refine⟨.leaf x,bl,b1,?_,λl hl=>?_,λmu hmu=>?_,λhp hh=>b6 hp hh,close⟩
  ·show x.is k.lk=true
   simpa[aF]using b2
  ·simp only[S0.cells,qak]at hl
   subst hl;exact b3 _ qaJ
  ·exact(b5 mu hmu).2 0 _ _ rfl rfl
 unfold skC at hsk
 split at hsk
 next fs e=>
  cases hsk
  obtain⟨cs,rfl,_⟩:=okWide_struct e hval
  refine⟨.agg xs,bl,b1,b2,b3,λmu hmu=>?_,λhp hh=>b6 hp hh,close⟩
  obtain⟨c1,c2⟩:=b5 mu hmu
  refine .agg (by simpa[Value.cells]using c1) λi x y hx hy=>c2 i x y (by simpa using hx) (by simpa[Value.cells]using hy)
 next k e=>cases hsk;exact leaf (λ_ h=>by rw[e]at h;cases h) (λ_ _ h=>by rw[e]at h;cases h) _ rfl rfl
 next e=>cases hsk;exact leaf (λ_ h=>by rw[e]at h;cases h) (λ_ _ h=>by rw[e]at h;cases h) _ rfl rfl
 next e' e=>cases hsk;exact leaf (λ_ h=>by rw[e]at h;cases h) (λ_ _ h=>by rw[e]at h;cases h) _ rfl rfl
 ·cases hsk
def argK(P:Program):List TypeId->Option (List (List CK2)×List SK)
 | []=>some ([],[])
 |t :: ts=>match ckT P 20 t,argK P ts with
  |some cks,some (l,sks)=>match skC P t cks,posK cks with
   |some sk,true=>some (cks :: l,sk :: sks)
   |_,_=>none
  |_,_=>none
def at_app{α:Type}{bl bl':List Blk2}{f:Nat->α}{g:Blk2->α}{n0:Nat}(h:∀(i:Nat) b,(bl++bl')[i]?=some b->f (n0+i)=g b):(∀(i:Nat) b,bl[i]?=some b->f (n0+i)=g b)/\∀(i:Nat) b,bl'[i]?=some b->f (n0+bl.length+i)=g b:=by
 refine⟨λi b hb=>h i b ?_,λi b hb=>?_⟩
 ·rw[qaj (by
   rcases qaC i bl.length with h|h
   ·exact h
   ·rw[qah h]at hb;cases hb)];exact hb
 ·rw[qbr]
  refine h _ b ?_
  rw[qar (by omega),qcv];exact hb
def nl{W:World}{r:Reach}{b0:Nat}{held:Bool}:∀(ts:List TypeId) (l:List (List CK2)) (sks:List SK) (vs:List Value) (ds:List (DataW H)) (ps:List MemPlace) (n0:Nat),argK P ts=some (l,sks)->
  (∀(j:Nat) t v,ts[j]?=some t->vs[j]?=some v->Value.okWide P W r b0 t v)->DataW.TrodAll enc P W 0 (λ_=>true) held ts vs ds ps->
  ∃(xs:List S0) (bl:List Blk2),(∀b∈bl,pM W b)/\bA xs sks=true/\(∀x∈xs,x.good)/\(∀mu:HMap,MuAt mu n0 bl->VRs noL mu (ae xs) vs)/\(∀hp:HL,HpAt hp n0 bl->aU hp l.flatten (bC xs))/\
   ∀(W':World) (s':Nat->Bool),Stays W W'->(∀b,b<W.heap.size->s' b=true)->DataW.TrodAll enc P W' 0 s' held ts vs ds ps
 | [],l,sks,[],[],ps,n0,h,_,ht=>by
  cases h
  exact⟨[],[],by simp,rfl,by simp,λmu _=>⟨rfl,λi x y h=>by simp[ae]at h⟩,λhp _=>trivial,λ_ _ _ _=>ht⟩
 |t :: ts,l,sks,v :: vs,d :: ds,ps,n0,h,hv,ht=>by
  simp only[argK]at h
  split at h
  next cks l' sks' e1 e2=>
   split at h
   next sk e3 e4=>
    cases h
    obtain⟨p,q,h1,h2,rfl⟩:=ht
    obtain⟨x,bl,a1,a2,a3,a4,a5,a6⟩:=open_arg2 e1 e3 e4 (hv 0 t v rfl rfl) h1 n0
    obtain⟨xs,bl',b1,b2,b3,b4,b5,b6⟩:=nl ts l' sks' vs ds q (n0+bl.length) e2 (λj t v h1 h2=>hv (j+1) t v h1 h2) h2
    refine⟨x :: xs,bl++bl',λb hb=>?_,by simp[bA,a2,b2],λy hy=>?_,λmu hmu=>?_,λhp hh=>?_,λW' s' h1 h2=>⟨p,q,a6 W' s' h1 h2,b6 W' s' h1 h2,rfl⟩⟩
    ·rcases qay.1 hb with h|h
     ·exact a1 b h
     ·exact b1 b h
    ·rcases qaq.1 hy with rfl|hy
     ·exact a3
     ·exact b3 y hy
    ·obtain⟨h1,h2⟩:=at_app (f:=mu) (g:=λb=>b.2) hmu
     have c1:=a4 mu h1
     obtain⟨c2,c3⟩:=b4 mu h2
     refine⟨by simpa[ae]using c2,λi p q hi hj=>?_⟩
     cases i with
     |zero=>
      simp only[ae,qap,qa3,qat]at hi hj
      subst hi hj;exact c1
     |succ i=>exact c3 i p q (by simpa[ae]using hi) (by simpa using hj)
    ·obtain⟨h1,h2⟩:=at_app (f:=λi=>hp[i]?) (g:=λb=>some (HO.o b.1)) hh
     rw[qb3]
     exact aU.app (a5 hp h1) (b5 hp h2)
   ·cases h
  ·cases h
 | [],_,_,_ :: _,_,_,_,_,_,ht=>by cases ht
 | [],_,_,[],_ :: _,_,_,_,_,ht=>by cases ht
 |_ :: _,_,_,[],_,_,_,_,_,ht=>by cases ht
 |_ :: _,_,_,_ :: _,[],_,_,_,_,ht=>by cases ht
def rF{C:Cfg}{f:FuncId}{args:List Value}{r:Value}{H':List HObj}{bl:List Blk2}{W:World}(hbl:∀b∈bl,pM W b)(h:dd C f args (bl.map (·.1)) r H'){args':Array Value}(hargs:∀mu:HMap,MuAt mu 0 bl->VRs noL mu args args'.toList)(hr:flat r=true)
  (hG:∀g vs,C.G g=some vs->gBlk g<W.heap.size/\vs.all aH=true/\∃c e fr,W.heap[gBlk g]?=some (.cells c e fr)/\bm (λ_=>none) vs c (gOff g)) (hf:∀g vs,C.G g=some vs->vs.all gfl=true) :
  Calls C.P f args' W λe W'=>e = .returned r/\W'.os=W.os/\W'.output=W.output/\W'.tape=W.tape/\∀b,b<W.heap.size->W'.heap[b]?=W.heap[b]?:=by
 let mu:HMap:=λid=>(bl[id]?).bind (·.2)
 have hmu:MuAt mu 0 bl:=λi b hb=>by simp only[mu,qaD,hb,qaf]
 have hob:∀(id:Nat) o,(bl.map (·.1))[id]?=some o->∃b,bl[id]?=some b/\o=b.1/\pM W b:=by
  intro id o ho
  rw[qaw]at ho
  obtain⟨b,h1,rfl⟩:=qac.1 ho
  exact⟨b,h1,rfl,hbl b (qad h1)⟩
 have hun:∀(id:Nat) o,(bl.map (·.1))[id]?=some o->o.owned=false:=by
  intro id o ho
  obtain⟨b,_,rfl,h3⟩:=hob id o ho
  rcases h3 with h3|⟨vs,e,p,c,t,fr,h3,_⟩<;>rw[h3]<;>rfl
 have hno:∀b,¬Own mu (bl.map (·.1)) b:=by
  rintro b ⟨id,o,p,h1,h2,_⟩
  rw[hun id o h1]at h2;cases h2
 have hW0:WR C W.heap.size mu (bl.map (·.1)) W:=by
  refine⟨λid o h1 h2=>?_,λi j oi oj pi pj h1 h2 h3=>?_,λi o p h1 h2=>?_,λi o p h1 h2 _ h4=>?_,λid h1=>?_,λg vs hg=>?_⟩
  ·obtain⟨b,q1,rfl,q3⟩:=hob id o h1
   rcases q3 with q3|⟨vs,e,p,c,t,fr,q3,q4,q5,q6,q7,q8,q9,q10,q11⟩
   ·rw[q3]at h2;cases h2
   ·refine⟨p,by simp only[mu,q1,qaf,q4],?_⟩
    rw[q3]
    refine⟨q5,q8,q7,c,t,fr,q9,q10,λh=>by(cases h),λi v hv=>⟨v,q11 i v hv,.of_flat (qae.1 q6 v (qad hv))⟩⟩
  ·rw[hun i oi h1]at h3;cases h3
  ·rw[hun i o h1]at h2;cases h2
  ·obtain⟨b,q1,rfl,q3⟩:=hob i o h1
   rcases q3 with q3|⟨vs,e,p',c,t,fr,q3,q4,q5,q6,q7,q8,q9,q10,q11⟩
   ·rw[q3]at h2;cases h2
   ·simp only[mu,q1,qaf,q4,qat]at h4
    subst h4
    rcases qaC p'.b W.heap.size with h|h
    ·exact h
    ·rw[qa8 h]at q9;cases q9
  ·simp only[mu]
   rw[qah (by simpa using h1)];rfl
  ·obtain⟨h1,h2,c,e,fr,h4,h5⟩:=hG g vs hg
   exact⟨h1,h2,c,e,fr,h4,oF (hf g vs hg) h5⟩
 intro cs
 obtain⟨v,mu',w',a1,a2,a3,_,a5⟩:=h _ W.heap.size mu W args' (qag _) (hargs mu hmu) hW0 cs
 rw[ez hr a1]at a5
 obtain⟨fr,b1,b2,b3⟩:=a5
 exact⟨.returned r,w',fr,⟨rfl,a3.os,a3.output,a3.tape,λb hb=>a3.keep b hb (hno b)⟩,b1,b2,b3⟩
def post_sl{P:Program}{f:Func}{s:ChangeSpec}{apart fresh handsOn:Bool}{W W':World}{args:Array Value}{v:Value}{ds gs:List (DataW H)}{before pa:List MemPlace}
  (hW:DataW.Whole enc P f.params.toList s.vars apart W args.toList ds gs before)
  (hres:∀(b:Nat) (sp:Nat->Bool) (hd:Bool),DataW.TrodAll enc P W' b sp hd f.resultTypes.toList (v.resultList f.resultTypes.size) (s.fn H (ds++gs)).results [])
  (hargs:DataW.TrodAll enc P W' 0 (λb=>decide (b<W.heap.size)) true f.params.toList args.toList (s.fn H (ds++gs)).args pa)
  (hvars:∀sp:Nat->Bool,DataW.TrodVars enc P W' sp s.vars (s.fn H (ds++gs)).vars [])
  (h1:W'.os=W.os) (h2:W'.output=W.output) (h3:∀b,b<W.heap.size->W'.heap[b]?=W.heap[b]?) :
  s.post enc P f apart fresh handsOn false W args v W':=
 ⟨ds,gs,before,[],pa,[],hW,hres _ _ _,hargs,hvars _,kept_of h1 h2 h3 _,λh=>by cases h⟩
end
end
section
variable [Val]
def pV{C:Cfg}{N:FuncId->Option Nat}{Sg:FuncId->Option Sig}(hm:C.P.follows .mixedOrders=true){g:FuncId}{sg:Sig}(hs:Sg g=some sg){ls rs:List Lf}{H H':List HObj}(hc:let _:Kno:=KnoC C N;aQ C Sg g ls H rs H'){xs ys:List S0}(h1:bA xs sg.ps=true)(h2:bC xs=ls)(h3:bA ys sg.rs=true)(h4:bC ys=rs) :
  dd C g (ae xs) H (eI (ae ys)) H':=by
 let _:Kno:=KnoC C N
 obtain⟨sg',xs',ys',c1,c2,c3,c4⟩:=hc
 rw[hs]at c1
 cases c1
 obtain⟨w1,_⟩:=bU c2.1 h1 (c2.2.1.trans h2.symm)
 obtain⟨w2,_⟩:=bU c3.1 h3 (c3.2.1.trans h4.symm)
 rw[w1,w2]at c4
 exact iC hm c4
end
end Sx
namespace Sx
def pZ{α:Type}{ks:List LK}{enc:α->List Value}{ok:α->Prop}(dec:∀cs,FitC ks cs->∃a,enc a=cs/\ok a):∀(n:Nat) (cells:List Value),cells.length=n*ks.length->(∀i,i<n->FitC ks ((cells.drop (i*ks.length)).take ks.length))->∃l:List α,l.length=n/\l.flatMap enc=cells/\∀a∈l,ok a
 |0,cells,hl,_=>⟨[],rfl,by
   simp only[qcq,qbb]at hl
   rw[hl];rfl,λ_ h=>by cases h⟩
 |n+1,cells,hl,hf=>by
  obtain⟨a,h1,h2⟩:=dec _ (by have:=hf 0 (by omega);rw[qcq,qaX]at this;exact this)
  obtain⟨l,h3,h4,h5⟩:=pZ dec n (cells.drop ks.length) (by rw[qcm,hl,qbn];omega) (λi hi=>by
   have:=hf (i+1) (by omega)
   rw[qbA]
   rw[qbn,qbU,Nat.add_comm]at this
   exact this)
  refine⟨a :: l,by simp[h3],?_,λb hb=>?_⟩
  ·rw[qbm,h1,h4,qbK]
  ·rcases qaq.1 hb with rfl|hb
   ·exact h2
   ·exact h5 b hb
def ls_of{α:Type}{ks:List LK}{enc:α->List Value}{ok:α->Prop}(hlen:∀a,(enc a).length=ks.length)(dec:∀cs,FitC ks cs->∃a,enc a=cs/\ok a){h:HL}{x:Value}{n:Nat}{cells:List Value}(hs:SlC h x ks.length n cells)(hf:∀i,i<n->FitC ks ((cells.drop (i*ks.length)).take ks.length)) :
  ∃l:List α,LsH h x ks.length enc l/\l.length=n/\∀a∈l,ok a:=by
 obtain⟨l,h1,h2,h3⟩:=pZ dec n cells hs.1 hf
 refine⟨l,⟨λa _=>hlen a,?_⟩,h1,h3⟩
 rw[h1,h2];exact hs
def aU.i{h:HL}{k:IntKind}{ks:List CK2}{ls:List Lf}(hf:aU h (.i k :: ks) ls):∃n r,ls = .i n :: r/\(Lit.int k n).wf=true/\aU h ks r:=by
 match ls,hf with
 | .i n :: r,hf=>exact⟨n,r,rfl,hf.1,hf.2⟩
def aU.b{h:HL}{ks:List CK2}{ls:List Lf}(hf:aU h (.b :: ks) ls):∃n r,ls = .b n :: r/\aU h ks r:=by
 match ls,hf with
 | .b n :: r,hf=>exact⟨n,r,rfl,hf⟩
def aU.s{h:HL}{es:List LK}{ks:List CK2}{ls:List Lf}(hf:aU h (.s es :: ks) ls):∃x r n cells,ls = .v x :: r/\SlC h x es.length n cells/\n<=maxLen/\(∀i,i<n->FitC es ((cells.drop (i*es.length)).take es.length))/\aU h ks r:=by
 match ls,hf with
 | .v x :: r,⟨⟨n,cells,h1,h2,h3⟩,h4⟩=>exact⟨x,r,n,cells,rfl,h1,h2,h3,h4⟩
def aU.nil{h:HL}{ls:List Lf}(hf:aU h [] ls):ls=[]:=by
 match ls,hf with
 | [],_=>rfl
def hp_at(bl:List Blk2):HpAt (bl.map λb=>HO.o b.1) 0 bl:=λi b hb=>by
 rw[qaD,qaw,hb];rfl
def absH_bl(T:Nat->Site)(bl:List Blk2):absH T (bl.map λb=>HO.o b.1)=bl.map (·.1):=by
 induction bl with
 |nil=>rfl
 |cons b l ih=>show absO T (.o b.1) :: absH T (l.map λb=>HO.o b.1)=_;rw[ih];rfl
end Sx
end Go.Am
set_option maxRecDepth 100000
set_option maxHeartbeats 16000000
namespace Go.Am
open Sx Go.Proofs Tw
def nm_ex{L:List Sq}:∀ {K:Nat},StL L K->∃k0,k0<=K/\Nm L k0:=by
 intro K
 induction K using Nat.strongRecOn with
 |ind K ih=>
  intro h
  by_cases he:∃k,k<K/\StL L k
  ·obtain⟨k,h1,h2⟩:=he
   obtain⟨k0,h3,h4⟩:=ih k h1 h2
   exact⟨k0,by omega,h4⟩
  ·exact⟨K,qag _,h,λk hk hs=>he ⟨k,hk,hs⟩⟩
def oJ{L:List Sq}:InL L []:=⟨qcY,λa ha=>(by cases ha)⟩
def lD{L:List Sq}(hnd:L.Nodup){m:Nat}{c:Sq}(hc:c∈L):ce L m c 0 []=true↔LP L m c 0 λ_=>False:=by
 rw[iZ hnd m hc oJ]
 have:(λa:K3=>a∈([]:List K3))=λ_=>False:=by
  funext a
  simp
 rw[this]
def p_min3{n:Nat}{K:Int->Prop}(hk:K (Int.ofNat (min n 3))):P1.cmp .lss 3 (Int.ofNat n) (@hid _ ⟨λt=>P1.sel t 3 (Int.ofNat n) (@hid _ ⟨K⟩)⟩):=by
 by_cases h:3<n
 ·rw[p_lss_t (by show(3:Int)<(n:Int);omega)]
  rw[qc6 (by omega)]at hk
  exact hk
 ·rw[p_lss_f (by show(n:Int)<=3;omega)]
  rw[qbL (by omega)]at hk
  exact hk
def con_take{L:List Sq}(h:Con L)(n:Nat):Con (L.take n):=λi c hi h0=>by
 have hlt:=aI hi
 rw[qaM]at hlt
 rw[qaN,if_pos (by omega)]at hi
 obtain⟨j,d,k,h1,h2,h3,h4⟩:=h i c hi h0
 exact⟨j,d,k,h1,by rw[qaN,if_pos (by omega)];exact h2,h3,h4⟩
def steps12{L:List Sq}{c:Sq}(hc:c∈L)(hn:L.length<=3):(topT L c).steps.length<=12:=by
 have h:=(gz L (free L []) c ⟨[],[],0,0⟩ ev0 hc (by simp) (qag _)).2
 have hev:=(gz L (free L []) c ⟨[],[],0,0⟩ ev0 hc (by simp) (qag _)).1
 have hl:=bM hev.nd hev.sub
 change (topT L c).steps.length+6*0+6<=0+6*(topT L c).been.length at h
 change (topT L c).been.length<=_ at hl
 omega
def kQ{H:HL}{x:Value}{G:List (Int×Int)}(hG:LsH H x 2 oo G)(hb:∀a∈G,(0<=a.1/\a.1<=255)/\0<=a.2/\a.2<=255){X Y:Int}(hX:0<=X/\X<=255)(hY:0<=Y/\Y<=255) :
  ∃h',aQ cc ab 3 [.i X,.i Y,.v x] (absH aa H) [.b true] (absH aa h'):=by
 obtain⟨rs,h',h1,h2⟩:=x3 (ls:=[.i X,.i Y,.v x]) (H:=H) (K:=λrs h'=>rs=[.b true]) (glsI (glsI (glsV hG.good gls0))) (by
  unfold f3;simp only[qxh]
  simp(disch:=omega)only[↓qXX]
  obtain⟨rs,h1,hcall,v0,L0,rfl,hg,ho1,hlow1,hle1⟩:=of_c hG hb hX hY
  refine aG hcall ?_
  clear hcall
  simp(disch:=omega)only[↓qXX]
  have hls0:=ho1.ls cA
  refine dc hls0 ?_
  rw[qaG]
  refine p_min3 ?_
  have hL12:=hg.le
  have hne:=hg.ne
  obtain⟨v1,e1,hls1,hgd1,hbk1⟩:=sl_take hls0 (n:=min L0.length 3) (by rw[qaG];omega)
  rw[←qbZ]at hls1
  obtain⟨L,hLd⟩ : ∃L,L=L0.take (min L0.length 3):=⟨_,rfl⟩
  rw[←hLd]at hls1
  have hLl:L.length=min L0.length 3:=by rw[hLd,qaM];omega
  have hnd:L.Nodup:=by rw[hLd];exact hg.nd.sublist (List.take_sublist _ _)
  have hcon:Con L:=by rw[hLd];exact con_take hg.con _
  have hmem:∀c∈L,c∈L0:=λc hc=>by rw[hLd]at hc;exact qaU hc
  have hbL:∀c∈L,-100<=c.1/\c.1<=100/\-100<=c.2/\c.2<=100:=λc hc=>by
   have:=hg.bd c (hmem c hc)
   omega
  have hbL2:∀c∈L,(-100<=c.1/\c.1<=100)/\-100<=c.2/\c.2<=100:=λc hc=>by
   have:=hg.bd c (hmem c hc)
   omega
  have hne':0<L.length:=by omega
  have hn3:L.length<=3:=by omega
  refine ax e1 ?_
  refine az hgd1 ?_
  clear hLd e1 hls0 hmem
  obtain⟨rs,h2,hcall,v2,D,rfl,hD,ho2,hlow2,hle2⟩:=set_c hls1 hne' (by omega) hnd hbL
  refine aG hcall ?_
  clear hcall
  simp(disch:=omega)only[↓qXX]
  have hDl:=hD.len
  obtain⟨a0,ha0⟩:=bQ (l:=D) (i:=0) (by omega)
  have hm0:=(hD.mem.1 (qad ha0)).1
  have hall:=(top_all hm0 hcon).2
  obtain⟨k0,hk0,hNm⟩:=nm_ex (L:=L) ⟨_,hm0,hall⟩
  have hs12:=steps12 hm0 hn3
  have hte:=top_ev hm0
  have hnl:nmv ((topT L (a0.1,a0.2.1)).steps.take (topT L (a0.1,a0.2.1)).last)<=12:=by
   refine qbp (qcA _ _) ?_
   rw[qaM]
   omega
  have hls2:=ho2.ls cA
  obtain⟨h3,hcall,hlow3,hle3⟩:=least_c hls2 hD hne' hn3 hnd hcon hbL2 hNm (by omega)
  refine aG hcall ?_
  clear hcall
  simp(disch:=omega)only[↓qXX]
  have hls3:=hls2.low hlow3
  obtain⟨rs,h4,hcall,v4,rfl,hl4,hlow4,hle4,hb4⟩:=walk_c hls3 hD hne' (by omega) hnd hcon hbL2 ha0
  refine aG hcall ?_
  clear hcall
  simp(disch:=omega)only[↓qXX]
  have hst:∀a∈(topT L (a0.1,a0.2.1)).steps.take (topT L (a0.1,a0.2.1)).last,1<=a/\a<=4:=λa ha=>hte.st a (qaU ha)
  have hlen:((topT L (a0.1,a0.2.1)).steps.take (topT L (a0.1,a0.2.1)).last).length<=255:=by rw[qaM];omega
  refine aG (length_c hl4 hst (hte.ok.take _) hlen) ?_
  simp(disch:=omega)only[↓qXX]
  have hk12:k0<=12:=by omega
  change _<=nmv _ at hk0
  unfold nmv at hk0
  have hls4:LsH h4 v1 3 cc3 (L.map sqC):=((hls1.low hlow2).low hlow3).low hlow4
  have hlx4:=hls3.low hlow4
  have hmin:L.length<=k0+1:=by
   obtain⟨c,hc,hlp⟩:=hNm.1
   exact lp_len hnd k0 c 0 _ L hlp hnd λc hc=>⟨hc,0,by omega,λh=>h⟩
  refine dc hls4 ?_
  rw[qaG]
  rw[p_lss_f (by show(L.length:Int)<=((k0+1:Nat):Int);omega)]
  simp(disch:=omega)only[↓qXX]
  rw[p_gtr_f (by show((k0+1:Nat):Int)<=((1+(List.filter _ _).length:Nat):Int);omega)]
  simp(disch:=omega)only[↓qXX]
  refine bY (σ:=(Bool×Bool)×HL) L.length (λi s=>[.b s.1.1,.b s.1.2,.i (Int.ofNat i)]) (λ_ s=>s.2) (λi s=>(s.1.1=true↔∃c,c∈L.take i/\LP L k0 c 0 λ_=>False)/\s.1.2=false/\Low h4.length h4 s.2) (j0:=0) (s0:=((false,false),h4)) rfl rfl (qaP _) ⟨by simp,rfl,Low.refl _⟩ ?_
  rintro i ⟨⟨ca,le⟩,h⟩ hi ⟨hca,hle,hlow⟩ self hself
  simp only at hca hle hlow hself
  subst hle
  simp(disch:=omega)only[↓qXX]
  have hv:=hls4.low hlow
  have hx:=hlx4.low hlow
  refine dc hv ?_
  rw[qaG]
  by_cases hlt:i<L.length
  case neg=>
   obtain rfl:i=L.length:=by omega
   rw[bZ (qag _)]
   simp(disch:=omega)only[↓qXX]
   rw[qbY]at hca
   obtain rfl:ca=true:=hca.2 hNm.1
   simp(disch:=omega)only[↓qXX,qbI]
   refine dz lives21 ?_
   simp(disch:=omega)only[↓qXX]
  rw[cb hlt]
  simp(disch:=omega)only[↓qXX]
  obtain⟨c,hc⟩:=bQ hlt
  have hcL:=qad hc
  have hgc:(L.map sqC)[i]?=some (sqC c):=by rw[qaw,hc];rfl
  have htk:L.take (i+1)=L.take i++[c]:=by
   rw[qbQ,hc];rfl
  cases ca with
  |true=>
   have hca':(true=true↔∃c,c∈L.take (i+1)/\LP L k0 c 0 λ_=>False):=by
    obtain⟨c',h1,h2⟩:=hca.1 rfl
    exact⟨λ_=>⟨c',by rw[htk];exact qax _ h1,h2⟩,λ_=>rfl⟩
   simp(disch:=omega)only[↓qXX]
   by_cases hk1:1<k0+1
   ·rw[p_gtr_t (by show(1:Int)<((k0+1:Nat):Int);omega)]
    simp(disch:=omega)only[↓qXX]
    refine dj hv rfl hgc ?_
    unfold cc3 sqC
    simp(disch:=omega)only[↓qXX]
    obtain⟨k,hk⟩ : ∃k,k0=k+1:=⟨k0 - 1,by omega⟩
    rw[p_sub (by show(-9223372036854775808:Int)<=((k0+1:Nat):Int) - 2;omega) (by show((k0+1:Nat):Int) - 2<=9223372036854775807;omega),show Int.ofNat (k0+1) - 2=Int.ofNat k by show((k0+1:Nat):Int) - 2=(k:Int);omega]
    obtain⟨h8,hcall,hlow8,hle8⟩:=oO hD (by omega) hbL2 k (by omega) (r:=0) (p:=c) (head:=0) hx (LsH.nil _ 3 cc3) oJ hcL (by omega)
    refine aG hcall ?_
    clear hcall
    simp(disch:=omega)only[↓qXX]
    have hf:ce L k c 0 []=false:=by
     rw[qch]
     intro e
     exact hNm.2 k (by omega) ⟨c,hcL,(lD hnd hcL).1 e⟩
    rw[hf]
    try simp(disch:=omega)only[↓qXX]
    rw[cp (by omega)]
    exact hself ((true,false),h8) hlt ⟨hca',rfl,λj o hj hoo=>hlow8 j o (aI (hlow j o hj hoo)) (hlow j o hj hoo)⟩
   ·rw[p_gtr_f (by show((k0+1:Nat):Int)<=1;omega)]
    simp(disch:=omega)only[↓qXX]
    rw[cp (by omega)]
    exact hself ((true,false),h) hlt ⟨hca',rfl,hlow⟩
  |false=>
   simp(disch:=omega)only[↓qXX]
   refine dj hv rfl hgc ?_
   unfold cc3 sqC
   simp(disch:=omega)only[↓qXX]
   rw[tu (by omega)]
   obtain⟨h7,hcall,hlow7,hle7⟩:=oO hD (by omega) hbL2 k0 (by omega) (r:=0) (p:=c) (head:=0) hx (LsH.nil _ 3 cc3) oJ hcL (by omega)
   refine aG hcall ?_
   clear hcall
   have hlow7':Low h4.length h4 h7:=λj o hj hoo=>hlow7 j o (aI (hlow j o hj hoo)) (hlow j o hj hoo)
   have hca':(ce L k0 c 0 []=true↔∃c,c∈L.take (i+1)/\LP L k0 c 0 λ_=>False):=by
    rw[lD hnd hcL,htk]
    constructor
    ·exact λh=>⟨c,qaz _ (qak.2 rfl),h⟩
    ·rintro⟨c',h1,h2⟩
     rcases qay.1 h1 with h1|h1
     ·exact absurd (hca.2 ⟨c',h1,h2⟩) (by simp)
     ·rw[qak.1 h1]at h2
      exact h2
   simp(disch:=omega)only[↓qXX]
   by_cases hk1:1<k0+1
   ·rw[p_gtr_t (by show(1:Int)<((k0+1:Nat):Int);omega)]
    simp(disch:=omega)only[↓qXX]
    refine dj (hv.low hlow7) rfl hgc ?_
    unfold cc3 sqC
    simp(disch:=omega)only[↓qXX]
    obtain⟨k,hk⟩ : ∃k,k0=k+1:=⟨k0 - 1,by omega⟩
    rw[p_sub (by show(-9223372036854775808:Int)<=((k0+1:Nat):Int) - 2;omega) (by show((k0+1:Nat):Int) - 2<=9223372036854775807;omega),show Int.ofNat (k0+1) - 2=Int.ofNat k by show((k0+1:Nat):Int) - 2=(k:Int);omega]
    obtain⟨h8,hcall,hlow8,hle8⟩:=oO hD (by omega) hbL2 k (by omega) (r:=0) (p:=c) (head:=0) (hx.low hlow7) (LsH.nil _ 3 cc3) oJ hcL (by omega)
    refine aG hcall ?_
    clear hcall
    simp(disch:=omega)only[↓qXX]
    have hf:ce L k c 0 []=false:=by
     rw[qch]
     intro e
     exact hNm.2 k (by omega) ⟨c,hcL,(lD hnd hcL).1 e⟩
    rw[hf]
    try simp(disch:=omega)only[↓qXX]
    rw[cp (by omega)]
    exact hself ((ce L k0 c 0 [],false),h8) hlt ⟨hca',rfl,λj o hj hoo=>hlow8 j o (aI (hlow7' j o hj hoo)) (hlow7' j o hj hoo)⟩
   ·rw[p_gtr_f (by show((k0+1:Nat):Int)<=1;omega)]
    simp(disch:=omega)only[↓qXX]
    rw[cp (by omega)]
    exact hself ((ce L k0 c 0 [],false),h7) hlt ⟨hca',rfl,hlow7'⟩)
 subst h2
 exact⟨h',h1⟩
def decG(cs:List Value)(h:FitC [.i .u8,.i .u8] cs):∃p:Int×Int,oo p=cs/\(0<=p.1/\p.1<=255)/\0<=p.2/\p.2<=255:=by
 obtain⟨v1,v2,rfl⟩ : ∃v1 v2,cs=[v1,v2]:=by
  have hl:=FitC.len h
  match cs,hl with
  | [v1,v2],_=>exact⟨v1,v2,rfl⟩
 obtain⟨⟨a,rfl,ha⟩,⟨b,rfl,hb⟩,_⟩:=h
 exact⟨(a,b),rfl,wf_u8 ha,wf_u8 hb⟩
def hC(ls:List Lf)(h:HL)(hf:aU h [.i .u8,.i .u8,.s [.i .u8,.i .u8]] ls):∃h',aQ cc ab 3 ls (absH aa h) [.b true] (absH aa h'):=by
 obtain⟨w,ls,rfl,hw,hf⟩:=hf.i
 obtain⟨v,ls,rfl,hv,hf⟩:=hf.i
 obtain⟨s,ls,n,cells,rfl,h1,hn,h3,hf⟩:=hf.s
 obtain rfl:=hf.nil
 obtain⟨l,hl,hlen,hk⟩:=ls_of (enc:=oo) (ok:=λp:Int×Int=>(0<=p.1/\p.1<=255)/\0<=p.2/\p.2<=255) (λ_=>rfl) decG h1 h3
 exact kQ hl hk (wf_u8 hw) (wf_u8 hv)
end Go.Am
namespace Go.Am
namespace Sx
open Go.ChangeShapes Go.WideShapes Go.ChangeAt Go.WideMaps Go.WideElems Go.RowKit
def un1(P:Program)(e:TypeId)(d:DataW Unit):Option Value:=match unD P 4 e d with
 |some [x]=>some x
 |_=>none
def un1s(P:Program)(e:TypeId):List (DataW Unit)->Option (List Value)
 | []=>some []
 |d :: l=>match un1 P e d,un1s P e l with
  |some x,some xs=>some (x :: xs)
  |_,_=>none
def ue{P:Program}{e:TypeId}:∀ {l:List (DataW Unit)} {xs:List Value},un1s P e l=some xs->xs.length=l.length/\∀(i:Nat) d x,l[i]?=some d->xs[i]?=some x->unD P 4 e d=some [x]
 | [],xs,h=>by
  simp only[un1s,qat]at h
  subst h
  exact⟨rfl,λi d x h=>by simp at h⟩
 |d :: l,xs,h=>by
  simp only[un1s]at h
  split at h
  next x ys h1 h2=>
   cases h
   obtain⟨h3,h4⟩:=ue h2
   refine⟨by simp[h3],λi d' x' hd hx=>?_⟩
   cases i with
   |zero=>
    simp only[qa3,qat]at hd hx
    subst hd hx
    unfold un1 at h1
    split at h1
    ·cases h1;assumption
    ·cases h1
   |succ i=>exact h4 i d' x' (by simpa using hd) (by simpa using hx)
  ·cases h
def laid_sl{P:Program}{w:World}{laid:List (String×DataW Unit)}{ps:List MemPlace}(h:DataW.LaidVars P w laid ps){n:String}{ds:List (DataW Unit)}(hm:(n,.agg ds)∈laid)
  {g:Nat} {t st e:TypeId} {m:Nat}
  (hg:P.globalNamed n=some g) (ht:(P.globals[g]?).map (·.type)=some t) (hu:P.underlying t=some (.array m st)) (hs:P.underlying st=some (.slice e)) (hc1:P.cellsOf st=1) (hc2:P.cellsOf e=1) (hct:P.cellsOf t=m) :
  ∃c ty fr,w.heap[g]?=some (.cells c ty fr)/\c.size=m/\∀i,i<m->∀es xs,ds[i]?=some (.slice es [])->un1s P e es=some xs->xs≠[]->
   ∃b o cap,c[i]?=some (.slice (some ⟨b,o,none⟩) xs.length cap)/\xs.length<=cap/\∀(j:Nat) x,xs[j]?=some x->w.cell? ⟨b,o+j,none⟩=some x:=by
 induction laid generalizing ps with
 |nil=>cases hm
 |cons x l ih=>
  obtain⟨n0,d0⟩:=x
  obtain⟨g0,t0,cs,fuel,p,q,a1,a2,a3,a4,a5,a6⟩:=h
  rcases qaq.1 hm with he|hm
  ·cases he
   rw[hg]at a1;cases a1
   rw[ht]at a2;cases a2
   unfold World.var? at a3
   rw[hg]at a3
   simp only[qaf]at a3
   split at a3
   next c ty fr hh=>
    cases a3
    obtain⟨ys,k,rfl,hx,hl,hyl,hy⟩:=DataW.trod_array hu a4
    rw[hct]at hl
    have hcs:cs.size=m:=by simpa using hl
    refine⟨cs,ty,fr,hh,hcs,λi hi es xs hd hxs hne=>?_⟩
    have h1:=hy i hi
    rw[hc1,qc3]at h1
    have h2:(cs.toList.drop i).take 1=[cs[i]'(by omega)]:=by
     rw[qbl (by simpa using(by omega:i<cs.size))]
     simp
    rw[h2]at h1
    obtain⟨hx1,_⟩:=Prod.mk.inj hx
    have hx2:=DataW.agg.inj hx1
    obtain⟨y,hy1⟩ : ∃y,ys[i]?=some y:=⟨ys[i]'(by omega),qao (by omega)⟩
    rw[hy1]at h1
    have hy2:y.1 = .slice es []:=by
     rw[hx2,qaw,hy1]at hd
     exact qai hd
    rcases DataW.trod_slice hs h1 with⟨_,rfl⟩|⟨a,len,cap,elems,rest,k',rfl,hv,rfl,_,hlc,_,hlen,hel,_,_⟩
    ·cases hy2
    ·obtain⟨hes,_⟩:=DataW.slice.inj hy2
     have hv:cs[i]'(by omega) = .slice (some a) len cap:=by simpa using hv
     obtain⟨hn1,hn2⟩:=ue hxs
     have hle:xs.length=len:=by rw[hn1,←hes,qaG,hlen]
     subst hle
     have key:∀(j:Nat) x,xs[j]?=some x->w.cell? ((a.add j).add 0)=some x:=by
      intro j x hj
      have hjl:j<xs.length:=(qaE.1 hj).1
      have h3:=hel j hjl
      rw[hc2,qc3]at h3
      obtain⟨z,hz⟩ : ∃z,elems[j]?=some z:=⟨elems[j]'(by omega),qao (by omega)⟩
      rw[hz]at h3
      obtain⟨ci,h4,h5⟩:=qal.1 h3
      have h6:es[j]?=some z.1:=by rw[←hes,qaw,hz];rfl
      have h7:=unD_ok 4 e _ _ (hn2 j _ _ h6 hj) _ ci z.2 h5
      have h8:=(World.cells?_some h4).2.2 0 (by omega)
      rw[h7]at h8
      simpa using h8
     obtain⟨b,o,sp⟩:=a
     have hsp:sp=none:=by
      cases xs with
      |nil=>exact absurd rfl hne
      |cons x xs=>
       have h9:=key 0 x rfl
       unfold World.cell? at h9
       split at h9
       ·cases sp with
        |none=>rfl
        |some k=>simp[Addr.add]at h9
       ·cases h9
     subst hsp
     refine⟨b,o,cap,?_,hlc,λj x hj=>?_⟩
     ·rw[qbd (by omega),hv]
     ·have h9:((⟨b,o,none⟩ : Addr).add j).add 0=⟨b,o+j,none⟩:=by
       unfold Addr.add
       by_cases hj0:j=0<;>simp[hj0]
      rw[←h9]
      exact key j x hj
   ·cases a3
  ·exact ih a5 hm
def cells_at [Val] [Glo]{w:World}{b o:Nat}{xs:List Value}(hx:xs.all flat=true)(hne:xs≠[])(h:∀(j:Nat) x,xs[j]?=some x->w.cell? ⟨b,o+j,none⟩=some x) :
  b<w.heap.size/\∃c e fr,w.heap[b]?=some (.cells c e fr)/\bm (λ_=>none) xs c o:=by
 have g:∀(j:Nat) x,xs[j]?=some x->∃c e fr,w.heap[b]?=some (.cells c e fr)/\c[o+j]?=some x:=by
  intro j x hj
  have h1:=h j x hj
  unfold World.cell? at h1
  split at h1
  next c e fr hc=>
   exact⟨c,e,fr,hc,by simpa using h1⟩
  ·cases h1
 cases xs with
 |nil=>exact absurd rfl hne
 |cons x xs=>
  obtain⟨c,e,fr,h1,_⟩:=g 0 x rfl
  refine⟨(qav.1 h1).1,c,e,fr,h1,λi v hv=>?_⟩
  obtain⟨c',e',fr',h2,h3⟩:=g i v hv
  rw[h1]at h2
  cases h2
  exact⟨v,h3,.of_flat (qae.1 hx v (qad hv))⟩
end Sx
end Go.Am
set_option maxRecDepth 100000
namespace Go.Proofs.YtijdjcjlfbgpgaaGreatDoor
open Go Go.Am Go.Am.Sx
open Go.ChangeShapes Go.WideShapes Go.ChangeAt Go.WideMaps Go.WideElems Go.RowKit
abbrev laidC:List (String×DataW Unit):= [("crimp/moves.turns",Rows.laid_crimp_moves_turns), ("crimp/cells.quarters",Rows.laid_crimp_cells_quarters), ("crimp/covers.heads",Rows.laid_crimp_covers_heads), ("crimp/covers.ways",Rows.laid_crimp_covers_ways)]
def name0 : Tryz.prog.globalNamed "crimp/covers.ways" = some 0:=by kernel_rfl
def name1 : Tryz.prog.globalNamed "crimp/covers.heads" = some 1:=by kernel_rfl
def name2 : Tryz.prog.globalNamed "crimp/moves.turns" = some 2:=by kernel_rfl
def name3 : Tryz.prog.globalNamed "crimp/cells.quarters" = some 3:=by kernel_rfl
abbrev gloOf(p0 p1 p2 p3:Nat×Nat):Glo:=⟨λg=>match g - 1000000 with
 |0=>p0
 |1=>p1
 |2=>p2
 |_=>p3⟩
def of_laid{W:World}(h:laidMetH Tryz.prog laidC W):∃_:Glo,∀(g:Nat) (vs:List Value),cc.G g=some vs->
  gBlk g<W.heap.size/\vs.all aH=true/\∃c e fr,W.heap[gBlk g]?=some (.cells c e fr)/\bm (λ_=>none) vs c (gOff g):=by
 rw[MakeChecks.laidMetH_plain _ _ _ (by kernel_rfl)]at h
 obtain⟨ps,h,_,_⟩:=h
 obtain⟨c,ty,fr,hc,hsz,hall⟩:=laid_sl h (n := "crimp/covers.ways") (ds:=[.slice [.lit (.int .u8 1)] [],.slice [.lit (.int .u8 2),.lit (.int .u8 4),.lit (.int .u8 1)] [],.slice [.lit (.int .u8 2),.lit (.int .u8 1)] [],.slice [.lit (.int .u8 2),.lit (.int .u8 3),.lit (.int .u8 1)] []])
  (qan _ (qan _ (qan _ qaJ))) (t:=60) (st:=31) (e:=62) (m:=4) name0 (by kernel_rfl) (by kernel_rfl) (by kernel_rfl) (by kernel_rfl) (by kernel_rfl) (by kernel_rfl)
 obtain⟨b0,o0,k0,e0,l0,m0⟩:=hall 0 (by omega) _ gl4 rfl (by kernel_rfl) (by simp[gl4])
 obtain⟨b1,o1,k1,e1,l1,m1⟩:=hall 1 (by omega) _ gl5 rfl (by kernel_rfl) (by simp[gl5])
 obtain⟨b2,o2,k2,e2,l2,m2⟩:=hall 2 (by omega) _ gl6 rfl (by kernel_rfl) (by simp[gl6])
 obtain⟨b3,o3,k3,e3,l3,m3⟩:=hall 3 (by omega) _ gl7 rfl (by kernel_rfl) (by simp[gl7])
 let G:Glo:=gloOf (b0,o0) (b1,o1) (b2,o2) (b3,o3)
 refine⟨G,λg vs hg=>?_⟩
 have hcell:=gl_cell g vs hg
 unfold cc at hg
 simp only at hg
 split at hg
 ·cases hg
  exact lw (by kernel_rfl) hcell (by kernel_rfl) (iY h "crimp/moves.turns" Rows.laid_crimp_moves_turns qaJ 2 176 8 gl2 name2 (by kernel_rfl) (by kernel_rfl))
 ·cases hg
  exact lw (by kernel_rfl) hcell (by kernel_rfl) (iY h "crimp/cells.quarters" Rows.laid_crimp_cells_quarters (qan _ qaJ) 3 201 8 gl3 name3 (by kernel_rfl) (by kernel_rfl))
 ·cases hg
  exact lw (by kernel_rfl) hcell (by kernel_rfl) (iY h "crimp/covers.heads" Rows.laid_crimp_covers_heads (qan _ (qan _ qaJ)) 1 59 8 gl1 name1 (by kernel_rfl) (by kernel_rfl))
 ·cases hg
  rw[rQ (by kernel_rfl),rR (by kernel_rfl)]
  refine⟨(qav.1 hc).1,hcell,c,ty,fr,hc,λi v hv=>?_⟩
  rw[qaD]
  match i,hv with
  |0,hv=>cases hv;exact⟨_,e0,.gslice l0 (.inl rfl)⟩
  |1,hv=>cases hv;exact⟨_,e1,.gslice l1 (.inl rfl)⟩
  |2,hv=>cases hv;exact⟨_,e2,.gslice l2 (.inl rfl)⟩
  |3,hv=>cases hv;exact⟨_,e3,.gslice l3 (.inl rfl)⟩
  |n+4,hv=>simp[gl0]at hv
 ·have go:∀(n b o:Nat) (xs:List Value),Nat.beq g n=true->gBlk n=b->gOff n=o->xs.all flat=true->xs≠[]->xs=vs->(∀(j:Nat) x,xs[j]?=some x->W.cell? ⟨b,o+j,none⟩=some x)->
    gBlk g<W.heap.size/\vs.all aH=true/\∃c e fr,W.heap[gBlk g]?=some (.cells c e fr)/\bm (λ_=>none) vs c (gOff g):=by
   intro n b o xs hb h1 h2 h3 h4 h5 h6
   obtain rfl:=qab hb
   obtain⟨a1,a2⟩:=cells_at h3 h4 h6
   subst h1 h2 h5
   exact⟨a1,hcell,a2⟩
  unfold glx at hg
  split at hg
  ·exact go 1000000 b0 o0 gl4 (by assumption) rfl rfl (by kernel_rfl) (by simp[gl4]) (qai hg) m0
  ·exact go 1000001 b1 o1 gl5 (by assumption) rfl rfl (by kernel_rfl) (by simp[gl5]) (qai hg) m1
  ·exact go 1000002 b2 o2 gl6 (by assumption) rfl rfl (by kernel_rfl) (by simp[gl6]) (qai hg) m2
  ·exact go 1000003 b3 o3 gl7 (by assumption) rfl rfl (by kernel_rfl) (by simp[gl7]) (qai hg) m3
  ·cases hg
def own:ownKnob Tryz.prog.godebug=none:=by kernel_rfl
def door_met(os:Os)(args:Array Value):laidMetH Tryz.prog laidC ((World.doorLaid Tryz.prog 400 os).forCall (λ_ _=>0) ⟨#[],args,[]⟩).memory:=
 laidMetH_of_parts3 (fuel:=8) (laidMet_of_run' 8 (by kernel_rfl) (by kernel_rfl)) (by kernel_rfl) (by kernel_rfl)
end Go.Proofs.YtijdjcjlfbgpgaaGreatDoor
end

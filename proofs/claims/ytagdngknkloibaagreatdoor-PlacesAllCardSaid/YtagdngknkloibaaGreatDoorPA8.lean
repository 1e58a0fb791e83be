/-
  PART 8 OF THE PROOF (no conditions).
-/
import Derived.Test.YtagdngknkloibaaGreatDoorPA7
import Derived.SevenTiedAt
import Derived.Test.YtagdngknkloibaaGreatDoorCards
import Derived.Test.YtagdngknkloibaaGreatDoorTie
set_option linter.unusedSectionVars false
set_option linter.unusedSimpArgs false
set_option linter.unusedVariables false
set_option linter.constructorNameAsVariable false
set_option linter.defProp false
noncomputable section
set_option maxRecDepth 100000
namespace Go.Am
namespace Sx
open Go.ChangeShapes Go.WideShapes Go.ChangeAt Go.WideMaps Go.WideElems Go.RowKit
inductive CK2 where
 |i (k:IntKind)
 |b
 |s (ks:List LK)
def CK2.lk:CK2->LK
 | .i k=>.i k
 | .b=>.b
 | .s _=>.v
def SlFit(w:World)(ks:List LK)(v:Value):Prop:=
 v = .slice none 0 0∨∃(a:Addr) (len cap:Nat) (c:Array Value) (t:TypeId) (fr:Nat×Nat) (cells:List Value),v = .slice (some a) len cap/\a.spot=none/\len<=cap/\cap<=maxLen/\
  w.heap[a.block]?=some (.cells c t fr)/\(cap=0∨a.off+cap*ks.length<=c.size)/\cells.length=len*ks.length/\(∀(i:Nat) v,cells[i]?=some v->c[a.off+i]?=some v)/\
  ∀i,i<len->FitC ks ((cells.drop (i*ks.length)).take ks.length)
def CellFit(w:World):CK2->Value->Prop
 | .i k,v=>∃n,v = .int k n/\(Lit.int k n).wf=true
 | .b,v=>∃t,v = .bool t
 | .s ks,v=>SlFit w ks v
def dS(w:World):List CK2->List Value->Prop
 | [],[]=>True
 |k :: ks,v :: vs=>CellFit w k v/\dS w ks vs
 |_,_=>False
def bm(h:HL):List CK2->List Lf->Prop
 | [],[]=>True
 | .i k :: ks,.i n :: ls=>(Lit.int k n).wf=true/\bm h ks ls
 | .b :: ks,.b _ :: ls=>bm h ks ls
 | .s es :: ks,.v x :: ls=>(∃n cells,SlC h x es.length n cells/\n<=maxLen/\∀i,i<n->FitC es ((cells.drop (i*es.length)).take es.length))/\bm h ks ls
 |_,_=>False
def dS.len{w:World}:∀ {ks:List CK2} {vs:List Value},dS w ks vs->vs.length=ks.length
 | [],[],_=>rfl
 |_ :: _,_ :: _,h=>by simp[dS.len h.2]
 | [],_ :: _,h=>by cases h
 |_ :: _,[],h=>by cases h
def dS.app{w:World}:∀ {ks ks':List CK2} {vs vs':List Value},dS w ks vs->dS w ks' vs'->dS w (ks++ks') (vs++vs')
 | [],_,[],_,_,h=>h
 |_ :: _,_,_ :: _,_,h,h'=>⟨h.1,dS.app h.2 h'⟩
 | [],_,_ :: _,_,h,_=>by cases h
 |_ :: _,_,[],_,h,_=>by cases h
def bm.app{h:HL}:∀ {ks ks':List CK2} {vs vs':List Lf},bm h ks vs->bm h ks' vs'->bm h (ks++ks') (vs++vs')
 | [],_,[],_,_,h=>h
 | .i _ :: ks,_,.i _ :: _,_,h,h'=>⟨h.1,bm.app (ks:=ks) h.2 h'⟩
 | .b :: ks,_,.b _ :: _,_,h,h'=>bm.app (ks:=ks) h h'
 | .s _ :: ks,_,.v _ :: _,_,h,h'=>⟨h.1,bm.app (ks:=ks) h.2 h'⟩
 | [],_,_ :: _,_,h,_=>by cases h
 | .i _ :: _,_,[],_,h,_=>by cases h
 | .b :: _,_,[],_,h,_=>by cases h
 | .s _ :: _,_,[],_,h,_=>by cases h
 | .i _ :: _,_,.b _ :: _,_,h,_=>by cases h
 | .i _ :: _,_,.v _ :: _,_,h,_=>by cases h
 | .b :: _,_,.i _ :: _,_,h,_=>by cases h
 | .b :: _,_,.v _ :: _,_,h,_=>by cases h
 | .s _ :: _,_,.i _ :: _,_,h,_=>by cases h
 | .s _ :: _,_,.b _ :: _,_,h,_=>by cases h
def ckF(F:TypeId->Option (List CK2)):List Field->Nat->Option (List CK2)
 | [],_=>some []
 |f :: fs,off=>match Nat.beq f.offset off,F f.type with
  |true,some ks=>(ckF F fs (off+ks.length)).map (ks ++ ·)
  |_,_=>none
def kby:LK->Nat
 | .i .i64=>8
 |_=>0
def kbs:List LK->Nat
 | []=>0
 |k :: ks=>kby k+kbs ks
def ckT(P:Program):Nat->TypeId->Option (List CK2)
 |0,_=>none
 |d+1,t=>match P.underlying t with
  |some (.int k)=>some [.i k]
  |some .bool=>some [.b]
  |some (.slice e)=>match flatT P 20 e with
   |some ks=>match Nat.beq (P.cellsOf e) ks.length&&Nat.blt 0 ks.length&&Nat.ble (kbs ks) (P.bytesOf e)with
    |true=>some [.s ks]
    |false=>none
   |none=>none
  |some (.struct fs)=>match ckF (ckT P d) fs.toList 0 with
   |some ks=>match Nat.beq ks.length (P.cellsOf t)with
    |true=>some ks
    |false=>none
   |none=>none
  |_=>none
section
variable {H:Type} {enc:TypeId×Value->H} {P:Program}
def Lies(w:World)(v:Value):Prop:=∀a len cap,v = .slice (some a) len cap->a.spot=none/\∃c t fr,w.heap[a.block]?=some (.cells c t fr)
def iU{α β:Type}{f g:α->Option β}:∀ {l:List α},(∀x∈l,f x=g x)->l.mapM f=l.mapM g
 | [],_=>rfl
 |a :: l,h=>by
  rw[qb6,qb6,h a qax,iU λx hx=>h x (qao _ hx)]
def bw{a:Addr}(h:a.spot=none)(i:Nat):a.add i=⟨a.block,a.off+i,none⟩:=by
 obtain⟨b,o,s⟩:=a
 cases h
 unfold Addr.add
 simp
def slice_ok{w:World}{t e:TypeId}{ks:List LK}(ht:P.underlying t=some (.slice e))(he:flatT P 20 e=some ks)(hc:P.cellsOf e=ks.length)(h0:0<ks.length){base:Nat}(hbase:base=0){held:Bool}{fuel:Nat}{cs:List Value}{x:DataW H×List MemPlace}
  (hx:DataW.trod enc P w base (λ_=>true) held fuel t cs=some x) (hl:∀v∈cs,Lies w v) :
  ∃v,cs=[v]/\SlFit w ks v/\∀(w':World) (s':Nat->Bool),(∀b,b<w.heap.size->w'.heap[b]?=w.heap[b]?)->(∀b,b<w.heap.size->s' b=true)->DataW.trod enc P w' base s' held fuel t cs=some x:=by
 subst hbase
 have hx0:=hx
 rcases DataW.trod_slice ht hx with⟨rfl,rfl⟩|⟨a,len,cap,elems,rest,n,rfl,rfl,rfl,hb,hlc,hm,hlen,hel,hsp,_⟩
 ·refine⟨_,rfl,.inl rfl,λw' s' _ _=>?_⟩
  cases fuel with
  |zero=>simp[DataW.trod]at hx
  |succ m=>simp[DataW.trod,ht]
 ·obtain⟨hs,c,t',fr,hblk⟩:=hl _ qax a len cap rfl
  obtain⟨hrl,hr⟩:=hsp rfl
  rw[hc]at hel hr
  have hlt:a.block<w.heap.size:=by
   rcases qaB a.block w.heap.size with h|h
   ·exact h
   ·rw[qa9 h]at hblk;cases hblk
  have each:∀i,i<cap->∃ci y,w.cells? 0 (a.add (i*ks.length)) ks.length=some ci/\DataW.trod enc P w 0 (λ_=>true) held n e ci=some y/\(elems++rest)[i]?=some y:=by
   intro i hi
   by_cases h1:i<len
   ·have h2:=hel i h1
    have h3:elems[i]?=some elems[i]:=qar (by omega)
    rw[h3]at h2
    obtain⟨ci,h4,h5⟩:=qas.1 h2
    exact⟨ci,_,h4,h5,by rw[qaf (by omega)];exact h3⟩
   ·have h2:=hr (i - len) (by omega)
    rw[show len+(i - len)=i by omega]at h2
    have h3:rest[i - len]?=some (rest[i - len]'(by omega)):=qar (by omega)
    rw[h3]at h2
    obtain⟨ci,h4,h5⟩:=qas.1 h2
    exact⟨ci,_,h4,h5,by rw[qam (by omega),hlen];exact h3⟩
  have rd:∀i,i<cap->∀j,j<ks.length->∀ci,w.cells? 0 (a.add (i*ks.length)) ks.length=some ci->c[a.off+i*ks.length+j]?=ci[j]?:=by
   intro i hi j hj ci hci
   have h1:=(World.cells?_some hci).2.2 j hj
   rw[bw hs,bw rfl]at h1
   rw[←h1]
   unfold World.cell?
   simp[hblk]
  have hsz:cap=0∨a.off+cap*ks.length<=c.size:=by
   by_cases hcap:cap=0
   ·exact .inl hcap
   ·right
    obtain⟨ci,y,h1,_,_⟩:=each (cap - 1) (by omega)
    have h2:=rd (cap - 1) (by omega) (ks.length - 1) (by omega) ci h1
    have hcl:=(World.cells?_some h1).2.1
    rw[qar (by omega)]at h2
    have h3:=(qaE.1 h2).1
    have h4:cap*ks.length=(cap - 1)*ks.length+ks.length:=by
     rw[←Nat.succ_mul];congr 1;omega
    omega
  have hsz2:a.off+len*ks.length<=c.size∨len=0:=by
   rcases hsz with h|h
   ·right;omega
   ·left
    have:=qbq ks.length hlc
    omega
  refine⟨_,rfl,.inr ⟨a,len,cap,c,t',fr,(c.toList.drop a.off).take (len*ks.length),rfl,hs,hlc,hm,hblk,hsz,?_,?_,?_⟩,?_⟩
  ·rw[qaJ,qbv]
   have hcz:c.toList.length=c.size:=qcB
   rcases hsz2 with h|h
   ·omega
   ·subst h;omega
  ·intro i v hv
   rw[qa1]at hv
   split at hv
   ·rw[qa0]at hv
    simpa using hv
   ·cases hv
  ·intro i hi
   obtain⟨ci,y,h1,h2,_⟩:=each i (by omega)
   obtain⟨_,h3,_⟩:=rh 20 e ks he w 0 _ held n ci y h2
   have hcl:=(World.cells?_some h1).2.1
   have:(((c.toList.drop a.off).take (len*ks.length)).drop (i*ks.length)).take ks.length=ci:=by
    apply qaR
    intro j
    by_cases hj:j<ks.length
    ·have hle:i*ks.length+ks.length<=len*ks.length:=by
      have:=qbq ks.length (show i+1<=len by omega)
      rw[qbx,qcs]at this;exact this
     rw[qa1,if_pos hj,qa0,qa1,if_pos (by omega),qa0,←rd i (by omega) j hj ci h1]
     rw[qcU,qbu]
    ·rw[qah (by rw[qaJ];omega),qah (by omega)]
   rw[this];exact h3
  ·intro w' s' hw hs'
   have hcell:∀i,i<cap->w'.cells? 0 (a.add (i*ks.length)) ks.length=w.cells? 0 (a.add (i*ks.length)) ks.length:=by
    intro i hi
    unfold World.cells?
    have:∀j,w'.cell? ((a.add (i*ks.length)).add j)=w.cell? ((a.add (i*ks.length)).add j):=by
     intro j
     rw[bw hs,bw rfl]
     unfold World.cell?
     rw[hw _ hlt]
    simp only[this]
   have el:∀i,i<cap->(w'.cells? 0 (a.add (i*P.cellsOf e)) (P.cellsOf e)).bind (DataW.trod enc P w' 0 s' held n e)=(elems++rest)[i]?:=by
    intro i hi
    rw[hc,hcell i hi]
    obtain⟨ci,y,h1,h2,h3⟩:=each i hi
    rw[h1,h3,qaj]
    exact(rh 20 e ks he w 0 _ held n ci y h2).2.2 w' 0 s' held
   have el0:∀i,i<cap->(w.cells? 0 (a.add (i*P.cellsOf e)) (P.cellsOf e)).bind (DataW.trod enc P w 0 (λ_=>true) held n e)=(elems++rest)[i]?:=by
    intro i hi
    rw[hc]
    obtain⟨ci,y,h1,h2,h3⟩:=each i hi
    rw[h1,h3,qaj]
    exact h2
   unfold DataW.trod at hx0 ⊢
   simp only[ht]at hx0 ⊢
   rw[if_pos ⟨qaW _,hlc,hm⟩]at hx0 ⊢
   rw[iU (λi hi=>(el i (by have:=qad.1 hi;omega)).trans (el0 i (by have:=qad.1 hi;omega)).symm)]
   rw[iU (l:=List.range (cap - len)) (λj hj=>(el (len+j) (by have:=qad.1 hj;omega)).trans (el0 (len+j) (by have:=qad.1 hj;omega)).symm)]
   rw[hs' _ hlt]
   exact hx0
def ckF_ok{F:TypeId->Option (List CK2)}{w:World}{held:Bool}{fuel:Nat}(cs:List Value)(hl:∀v∈cs,Lies w v)
  (hF:∀t ks,F t=some ks->∀cs (x:DataW H×List MemPlace),(∀v∈cs,Lies w v)->DataW.trod enc P w 0 (λ_=>true) held fuel t cs=some x->dS w ks cs/\∀(w':World) (s':Nat->Bool),(∀b,b<w.heap.size->w'.heap[b]?=w.heap[b]?)->(∀b,b<w.heap.size->s' b=true)->DataW.trod enc P w' 0 s' held fuel t cs=some x) :
  ∀(fs:List Field) (off:Nat) (ks:List CK2) (xs:List (DataW H×List MemPlace)),ckF F fs off=some ks->fs.mapM (λf=>DataW.trod enc P w 0 (λ_=>true) held fuel f.type ((cs.drop f.offset).take (P.cellsOf f.type)))=some xs->
   dS w ks ((cs.drop off).take ks.length)/\∀(w':World) (s':Nat->Bool),(∀b,b<w.heap.size->w'.heap[b]?=w.heap[b]?)->(∀b,b<w.heap.size->s' b=true)->fs.mapM (λf=>DataW.trod enc P w' 0 s' held fuel f.type ((cs.drop f.offset).take (P.cellsOf f.type)))=some xs
 | [],off,ks,xs,h1,h2=>by
  simp only[ckF,qaA]at h1
  subst h1
  simp only[qdM,qdG,qaA]at h2
  subst h2
  refine⟨by simp[dS],λ_ _ _ _=>by simp⟩
 |f :: fs,off,ks,xs,h1,h2=>by
  simp only[ckF]at h1
  split at h1
  next k1 e1 e2=>
   obtain⟨k2,e3,rfl⟩:=qae.1 h1
   have e1:=qac e1
   rw[qb6]at h2
   obtain⟨x,h3,h2⟩:=qas.1 h2
   obtain⟨ys,h4,h2⟩:=qas.1 h2
   cases h2
   obtain⟨a2,a3⟩:=hF _ _ e2 _ _ (λv hv=>hl v (qbD (qbp hv))) h3
   obtain⟨b2,b3⟩:=ckF_ok cs hl hF fs _ k2 ys e3 h4
   refine⟨?_,λw' s' hw hs'=>?_⟩
   ·rw[qay,qdN]
    refine dS.app ?_ (by rw[qbY];exact b2)
    have hl:=dS.len a2
    rw[e1]at a2 hl
    rw[←hl,jM]
    exact a2
   ·rw[qb6,a3 w' s' hw hs',b3 w' s' hw hs']
    rfl
  ·cases h1
def ckT_ok:∀(d:Nat) (t:TypeId) (ks:List CK2),ckT P d t=some ks->∀(w:World) (held:Bool) (fuel:Nat) (cs:List Value) (x:DataW H×List MemPlace),(∀v∈cs,Lies w v)->DataW.trod enc P w 0 (λ_=>true) held fuel t cs=some x->
  dS w ks cs/\∀(w':World) (s':Nat->Bool),(∀b,b<w.heap.size->w'.heap[b]?=w.heap[b]?)->(∀b,b<w.heap.size->s' b=true)->DataW.trod enc P w' 0 s' held fuel t cs=some x
 |0,_,_,h=>by cases h
 |d+1,t,ks,h=>by
  intro w held fuel cs x hl hx
  simp only[ckT]at h
  split at h
  next k e=>
   cases h
   obtain⟨n,rfl,rfl,hw⟩:=DataW.trod_int e hx
   refine⟨⟨⟨n,rfl,hw⟩,trivial⟩,λw' s' _ _=>?_⟩
   cases fuel with
   |zero=>simp[DataW.trod]at hx
   |succ m=>simp[DataW.trod,e,hw]
  next e=>
   cases h
   obtain⟨n,rfl,rfl⟩:=DataW.trod_bool e hx
   refine⟨⟨⟨n,rfl⟩,trivial⟩,λw' s' _ _=>?_⟩
   cases fuel with
   |zero=>simp[DataW.trod]at hx
   |succ m=>simp[DataW.trod,e]
  next e e0=>
   split at h
   next k2 e2=>
    split at h
    next e3=>
     cases h
     simp only[qaa,qaK]at e3
     obtain⟨v,rfl,a2,a3⟩:=slice_ok e0 e2 (qac e3.1.1) e3.1.2 rfl hx hl
     exact⟨⟨a2,trivial⟩,a3⟩
    ·cases h
   ·cases h
  next fs e=>
   split at h
   next k2 e2=>
    split at h
    next e3=>
     cases h
     have e3:=qac e3
     cases fuel with
     |zero=>simp[DataW.trod]at hx
     |succ m=>
      simp only[DataW.trod,e]at hx
      split at hx
      next hlen=>
       obtain⟨xs,h5,rfl⟩:=qae.1 hx
       obtain⟨a2,a3⟩:=ckF_ok cs hl (λt ks h cs x hl hx=>ckT_ok d t ks h w held m cs x hl hx) fs.toList 0 ks xs e2 h5
       rw[qbg,qaO (by omega)]at a2
       refine⟨a2,λw' s' hw hs'=>?_⟩
       simp only[DataW.trod,e,hlen,if_true]
       rw[a3 w' s' hw hs']
       rfl
      ·cases hx
    ·cases h
   ·cases h
  ·cases h
abbrev Blk2:=HObj×Option Pl
def sq(w:World)(b:Blk2):Prop:=b.1 = .dead∨∃vs e p c t fr,b.1 = .cells vs e false/\b.2=some p/\p.esz=e/\vs.all flat=true/\vs.all aV=true/\vs.length<=p.room/\w.heap[p.b]?=some (.cells c t fr)/\c.size=p.o+p.room/\∀(i:Nat) v,vs[i]?=some v->c[p.o+i]?=some v
def nu:∀ {ks:List LK} {vs:List Value},FitC ks vs->vs.all flat=true/\vs.all aV=true
 | [],[],_=>⟨rfl,rfl⟩
 | .i k :: ks,v :: vs,h=>by
  obtain⟨⟨n,rfl,_⟩,h2⟩:=h
  obtain⟨a,b⟩:=nu h2
  exact⟨by simp[a,flat,fc,scalar],by simp[b];rfl⟩
 | .b :: ks,v :: vs,h=>by
  obtain⟨⟨n,rfl⟩,h2⟩:=h
  obtain⟨a,b⟩:=nu h2
  exact⟨by simp[a,flat,fc,scalar],by simp[b];rfl⟩
 | .v :: _,_,h=>by cases h
 | [],_ :: _,h=>by cases h
 | .i _ :: _,[],h=>by cases h
 | .b :: _,[],h=>by cases h
def uV{ks:List LK}(hk:0<ks.length){cells:List Value}{n:Nat}(hl:cells.length=n*ks.length)(h:∀i,i<n->FitC ks ((cells.drop (i*ks.length)).take ks.length)):cells.all flat=true/\cells.all aV=true:=by
 have main:∀j,j<cells.length->∃v,cells[j]?=some v/\flat v=true/\aV v=true:=by
  intro j hj
  have h1:j / ks.length<n:=by
   rw[Nat.div_lt_iff_lt_mul hk];omega
  obtain⟨a,b⟩:=nu (h _ h1)
  have hm:=qb2 j hk
  have hd:=Nat.div_add_mod j ks.length
  have hmem:((cells.drop (j / ks.length*ks.length)).take ks.length)[j%ks.length]?=some cells[j]:=by
   rw[qa1,if_pos hm,qa0]
   rw[show j / ks.length*ks.length+j%ks.length=j by rw[Nat.mul_comm];exact hd]
   exact qar hj
  exact⟨_,qar hj,qab.1 a _ (qag hmem),qab.1 b _ (qag hmem)⟩
 constructor<;>
 ·rw[qab]
  intro v hv
  obtain⟨j,hj⟩:=qaY hv
  have hlt:j<cells.length:=by
   rcases qaB j cells.length with h|h
   ·exact h
   ·rw[qah h]at hj;cases hj
  obtain⟨v',h1,h2,h3⟩:=main j hlt
  rw[hj]at h1
  cases h1
  first|exact h2|exact h3
section
variable [Val] [Glo]
def cell_abs{w:World}{ck:CK2}{v:Value}(hp:∀ks,ck = .s ks->0<ks.length)(h:CellFit w ck v)(n0:Nat):∃(x:SL) (bl:List Blk2),(∀b∈bl,sq w b)/\x.is ck.lk=true/\x.good/\
  (∀mu:HMap,(∀(i:Nat) b,bl[i]?=some b->mu (n0+i)=b.2)->VR noL mu x.val v)/\∀hp:HL,(∀(i:Nat) b,bl[i]?=some b->hp[n0+i]?=some (.o b.1))->bm hp [ck] [x.lf]:=by
 cases ck with
 |i k=>
  obtain⟨n,rfl,hw⟩:=h
  exact⟨.i k n,[],by simp,by simp[SL.is,CK2.lk,dL],trivial,λmu _=>.scalar rfl,λhp _=>⟨hw,trivial⟩⟩
 |b=>
  obtain⟨t,rfl⟩:=h
  exact⟨.b t,[],by simp,rfl,trivial,λmu _=>.scalar rfl,λhp _=>trivial⟩
 |s ks=>
  have hk:=hp ks rfl
  rcases h with rfl|⟨a,len,cap,c,t,fr,cells,rfl,hs,hlc,hm,hblk,hsz,hcl,hget,hfit⟩
  ·refine⟨.v (.slice none 0 0),[],by simp,rfl,rfl,λmu _=>.scalar rfl,λhp _=>⟨⟨0,[],⟨by simp,.inl ⟨rfl,rfl⟩⟩,qaW _,λi hi=>by omega⟩,trivial⟩⟩
  ·obtain⟨hf1,hf2⟩:=uV hk hcl hfit
   have gd:aP (.slice (some ⟨n0,0,tag ks.length⟩) len 0)=true:=by simp[aP,noLoc,bo,ca,bu,bc,aI,tag]
   have ha:a=⟨a.block,a.off,none⟩:=by cases a;cases hs;rfl
   have fit:∀hp:HL,hp[n0]?=some (.o (.cells cells ks.length false))->bm hp [.s ks] [.v (.slice (some ⟨n0,0,tag ks.length⟩) len 0)]:=λhp h1=>
    ⟨⟨len,cells,⟨hcl,.inr ⟨n0,0,0,cells,false,rfl,h1,cut_all hcl⟩⟩,by omega,hfit⟩,trivial⟩
   by_cases hcap:cap=0
   ·subst hcap
    obtain rfl:len=0:=by omega
    have hce:cells=[]:=List.eq_nil_of_length_eq_zero (by omega)
    subst hce
    refine⟨.v (.slice (some ⟨n0,0,tag ks.length⟩) 0 0),[(.cells [] ks.length false,some ⟨a.block,c.size,0,ks.length⟩)],λb hb=>?_,rfl,gd,λmu _=>.hslice0 (qaW _),λhp h1=>fit hp (h1 0 _ rfl)⟩
    simp only[qau]at hb
    subst hb
    exact .inr ⟨[],ks.length,_,c,t,fr,rfl,rfl,rfl,rfl,rfl,qaW _,hblk,by simp,λi v hv=>by simp at hv⟩
   ·have hsz:a.off+cap*ks.length<=c.size:=hsz.resolve_left hcap
    have hle:=qbq ks.length hlc
    refine⟨.v (.slice (some ⟨n0,0,tag ks.length⟩) len 0),[(.cells cells ks.length false,some ⟨a.block,a.off,c.size - a.off,ks.length⟩)],λb hb=>?_,rfl,gd,λmu h1=>?_,λhp h1=>fit hp (h1 0 _ rfl)⟩
    ·simp only[qau]at hb
     subst hb
     exact .inr ⟨cells,ks.length,_,c,t,fr,rfl,rfl,rfl,hf1,hf2,by show cells.length<=c.size - a.off;omega,hblk,by show c.size=a.off+(c.size - a.off);omega,hget⟩
    ·have h2:=h1 0 _ rfl
     rw[ha]
     have:=VR.hslice (la:=noL) (mu:=mu) (id:=n0) (off:=0) (len:=len) (cap:=cap) (cx:=0) h2 (by show 0+cap*ks.length<=c.size - a.off;omega) hlc (.inl rfl)
     exact this
def sJ{w:World}:∀ {cks:List CK2} {vs:List Value},(∀ks,CK2.s ks∈cks->0<ks.length)->dS w cks vs->∀n0,∃(xs:List SL) (bl:List Blk2),(∀b∈bl,sq w b)/\aQ xs (cks.map CK2.lk)=true/\(∀x∈xs,x.good)/\xs.length=vs.length/\
  (∀mu:HMap,(∀(i:Nat) b,bl[i]?=some b->mu (n0+i)=b.2)->VRs noL mu (xs.map SL.val) vs)/\∀hp:HL,(∀(i:Nat) b,bl[i]?=some b->hp[n0+i]?=some (.o b.1))->bm hp cks (xs.map SL.lf)
 | [],[],_,_,n0=>⟨[],[],by simp,rfl,by simp,rfl,λmu _=>⟨rfl,λi x y h=>by simp at h⟩,λhp _=>trivial⟩
 |ck :: cks,v :: vs,hp,h,n0=>by
  obtain⟨x,bl,a1,a2,a3,a4,a5⟩:=cell_abs (λks e=>hp ks (by rw[e];exact qax)) h.1 n0
  obtain⟨xs,bl',b1,b2,b3,b4,b5,b6⟩:=sJ (λks e=>hp ks (qao _ e)) h.2 (n0+bl.length)
  have g1:∀ {α:Type} {f:Nat->α} {g:Blk2->α},(∀(i:Nat) b,(bl++bl')[i]?=some b->f (n0+i)=g b)->(∀(i:Nat) b,bl[i]?=some b->f (n0+i)=g b)/\∀(i:Nat) b,bl'[i]?=some b->f (n0+bl.length+i)=g b:=by
   intro α f g h
   refine⟨λi b hb=>h i b ?_,λi b hb=>?_⟩
   ·rw[qaf (by
     rcases qaB i bl.length with h|h
     ·exact h
     ·rw[qah h]at hb;cases hb)];exact hb
   ·rw[qbu]
    refine h _ b ?_
    rw[qam (by omega),qb4];exact hb
  refine⟨x :: xs,bl++bl',λb hb=>?_,by simp[aQ,a2,b2],λy hy=>?_,by simp[b4],λmu hmu=>?_,λhp hh=>?_⟩
  ·rcases qaH.1 hb with h|h
   ·exact a1 b h
   ·exact b1 b h
  ·rcases qak.1 hy with rfl|hy
   ·exact a3
   ·exact b3 y hy
  ·obtain⟨h1,h2⟩:=g1 (f:=mu) (g:=λb=>b.2) hmu
   have c1:=a4 mu h1
   obtain⟨c2,c3⟩:=b5 mu h2
   refine⟨by simpa using c2,λi p q hi hj=>?_⟩
   cases i with
   |zero=>
    simp only[qav,qbj,qaA]at hi hj
    subst hi hj;exact c1
   |succ i=>exact c3 i p q (by simpa using hi) (by simpa using hj)
  ·obtain⟨h1,h2⟩:=g1 (f:=λi=>hp[i]?) (g:=λb=>some (HO.o b.1)) hh
   exact bm.app (a5 hp h1) (b6 hp h2)
 | [],_ :: _,_,h,_=>by cases h
 |_ :: _,[],_,h,_=>by cases h
end
end
end Sx
namespace Sx
open Go.ChangeShapes Go.WideShapes Go.ChangeAt Go.WideMaps Go.WideElems Go.RowKit
section
variable {H:Type} {enc:TypeId×Value->H} {P:Program}
def nK{w:World}{r:Reach}{b0:Nat}{u:TypeId}{v:Value}(h:Cell.okWide P w r b0 u v):Lies w v:=by
 rintro a len cap rfl
 have h1:∃e,w.has P r b0 a e cap:=by
  unfold Cell.okWide at h
  split at h<;>first|(rename_i e1 e2;cases e2;done)|(rename_i e1;cases e1;done)|skip
  all_goals
   unfold Cell.ok at h
   split at h<;>first|(cases h;done)|(rename_i e1 e2;cases e2;done)|skip
   all_goals first|(rename_i heq;injection heq with q1 q2 q3;subst q2 q3;cases q1;exact⟨_,h.2.2⟩)|skip
 obtain⟨e,_,h2,row,cells,h3,_⟩:=h1
 refine⟨h2,?_⟩
 unfold World.shape? at h3
 split at h3
 next c el fr e1=>
  exact⟨c,el,fr,e1⟩
 ·cases h3
def lies_val{w:World}{r:Reach}{b0:Nat}{t:TypeId}{v:Value}(h:Value.okWide P w r b0 t v):∀x∈v.cells.toList,Lies w x:=by
 intro x hx
 unfold Value.okWide at h
 split at h
 ·obtain⟨cs,rfl,_,ts,_,_,h2⟩:=h
  obtain⟨i,hi⟩:=qaY hx
  obtain⟨u,_,h3⟩:=h2 i x (by simpa[Value.cells]using hi)
  exact nK h3
 ·obtain⟨cs,rfl,_,ts,_,_,h2⟩:=h
  obtain⟨i,hi⟩:=qaY hx
  obtain⟨u,_,h3⟩:=h2 i x (by simpa[Value.cells]using hi)
  exact nK h3
 ·have:x=v∨∃cs,v = .agg cs:=by
   cases v<;>first|(right;exact⟨_,rfl⟩)|(left;simpa[Value.cells]using hx)
  rcases this with rfl|⟨cs,rfl⟩
  ·exact nK h
  ·exfalso
   unfold Cell.okWide at h
   split at h<;>first|(rename_i e1 e2;cases e2;done)|(rename_i e1;cases e1;done)|skip
   all_goals
    unfold Cell.ok at h
    split at h<;>first|(cases h;done)|(rename_i e1 e2;cases e2;done)|skip
def skC(P:Program)(t:TypeId)(cks:List CK2):Option SK:=
 match P.underlying t,cks with
 |some (.struct _),cks=>some (.agg (cks.map CK2.lk))
 |some (.int _),[k]=>some (.leaf k.lk)
 |some .bool,[k]=>some (.leaf k.lk)
 |some (.slice _),[k]=>some (.leaf k.lk)
 |_,_=>none
def posK(cks:List CK2):Bool:=cks.all λk=>match k with
 | .s ks=>Nat.blt 0 ks.length
 |_=>true
def posK_ok{cks:List CK2}(h:posK cks=true):∀ks,CK2.s ks∈cks->0<ks.length:=by
 intro ks hk
 have:=qab.1 h _ hk
 simpa[qaK]using this
section
variable [Val] [Glo]
structure Abs(W:World)(n0:Nat)(bl:List Blk2):Prop where
 ok:∀b∈bl,sq W b
abbrev MuAt(mu:HMap)(n0:Nat)(bl:List Blk2):Prop:=∀(i:Nat) b,bl[i]?=some b->mu (n0+i)=b.2
abbrev HpAt(hp:HL)(n0:Nat)(bl:List Blk2):Prop:=∀(i:Nat) b,bl[i]?=some b->hp[n0+i]?=some (.o b.1)
abbrev Stays(W W':World):Prop:=∀b,b<W.heap.size->W'.heap[b]?=W.heap[b]?
def open_arg2{W:World}{r:Reach}{b0:Nat}{held:Bool}{t:TypeId}{cks:List CK2}{sk:SK}{v:Value}{d:DataW H}{ps:List MemPlace}(h:ckT P 20 t=some cks)(hsk:skC P t cks=some sk)(hpos:posK cks=true)(hval:Value.okWide P W r b0 t v)(hd:DataW.Trod enc P W 0 (λ_=>true) held t v d ps)(n0:Nat) :
  ∃(x:S0) (bl:List Blk2),(∀b∈bl,sq W b)/\x.is sk=true/\x.good/\(∀mu:HMap,MuAt mu n0 bl->VR noL mu x.val v)/\(∀hp:HL,HpAt hp n0 bl->bm hp cks (x.cells.map SL.lf))/\
   ∀(W':World) (s':Nat->Bool),Stays W W'->(∀b,b<W.heap.size->s' b=true)->DataW.Trod enc P W' 0 s' held t v d ps:=by
 obtain⟨fuel,hf⟩:=hd
 obtain⟨a1,a2⟩:=ckT_ok 20 t cks h W held fuel _ _ (lies_val hval) hf
 obtain⟨xs,bl,b1,b2,b3,b4,b5,b6⟩:=sJ (posK_ok hpos) a1 n0
 have close:∀(W':World) (s':Nat->Bool),Stays W W'->(∀b,b<W.heap.size->s' b=true)->DataW.Trod enc P W' 0 s' held t v d ps:=λW' s' h1 h2=>⟨fuel,a2 W' s' h1 h2⟩
 have leaf:(∀fs,P.underlying t≠some (.struct fs))->(∀n e,P.underlying t≠some (.array n e))->∀k,cks=[k]->sk = .leaf k.lk->∃(x:S0) (bl:List Blk2),(∀b∈bl,sq W b)/\x.is sk=true/\x.good/\(∀mu:HMap,MuAt mu n0 bl->VR noL mu x.val v)/\(∀hp:HL,HpAt hp n0 bl->bm hp cks (x.cells.map SL.lf))/\
   ∀(W':World) (s':Nat->Bool),Stays W W'->(∀b,b<W.heap.size->s' b=true)->DataW.Trod enc P W' 0 s' held t v d ps:=by
  rintro hs1 hs2 k rfl rfl
  have hv:v.cells.toList=[v]:=by
   have h1:=dS.len a1
   cases v with
   |agg cs=>
    exfalso
    unfold Value.okWide at hval
    split at hval
    next e=>exact hs1 _ e
    next e=>exact hs2 _ _ e
    ·unfold Cell.okWide at hval
     split at hval<;>first|(rename_i e1 e2;cases e2;done)|(rename_i e1;cases e1;done)|skip
     all_goals
      unfold Cell.ok at hval
      split at hval<;>first|(cases hval;done)|(rename_i e1 e2;cases e2;done)|skip
   |_=>simp[Value.cells]
  rw[hv]at a1 b4 b5
  obtain⟨x,rfl⟩ : ∃x,xs=[x]:=List.length_eq_one_iff.1 b4
  refine⟨.leaf x,bl,b1,?_,λl hl=>?_,λmu hmu=>?_,λhp hh=>b6 hp hh,close⟩
  ·show x.is k.lk=true
   simpa[aQ]using b2
  ·simp only[S0.cells,qau]at hl
   subst hl;exact b3 _ qax
  ·exact(b5 mu hmu).2 0 _ _ rfl rfl
 unfold skC at hsk
 split at hsk
 next fs e=>
  cases hsk
  obtain⟨cs,rfl,_⟩:=okWide_struct e hval
  refine⟨.agg xs,bl,b1,b2,b3,λmu hmu=>?_,λhp hh=>b6 hp hh,close⟩
  obtain⟨c1,c2⟩:=b5 mu hmu
  refine .agg (by simpa[Value.cells]using c1) λi x y hx hy=>c2 i x y (by simpa using hx) (by simpa[Value.cells]using hy)
 next k e=>cases hsk;exact leaf (λ_ h=>by rw[e]at h;cases h) (λ_ _ h=>by rw[e]at h;cases h) _ rfl rfl
 next e=>cases hsk;exact leaf (λ_ h=>by rw[e]at h;cases h) (λ_ _ h=>by rw[e]at h;cases h) _ rfl rfl
 next e' e=>cases hsk;exact leaf (λ_ h=>by rw[e]at h;cases h) (λ_ _ h=>by rw[e]at h;cases h) _ rfl rfl
 ·cases hsk
def argK(P:Program):List TypeId->Option (List (List CK2)×List SK)
 | []=>some ([],[])
 |t :: ts=>match ckT P 20 t,argK P ts with
  |some cks,some (l,sks)=>match skC P t cks,posK cks with
   |some sk,true=>some (cks :: l,sk :: sks)
   |_,_=>none
  |_,_=>none
def at_app{α:Type}{bl bl':List Blk2}{f:Nat->α}{g:Blk2->α}{n0:Nat}(h:∀(i:Nat) b,(bl++bl')[i]?=some b->f (n0+i)=g b):(∀(i:Nat) b,bl[i]?=some b->f (n0+i)=g b)/\∀(i:Nat) b,bl'[i]?=some b->f (n0+bl.length+i)=g b:=by
 refine⟨λi b hb=>h i b ?_,λi b hb=>?_⟩
 ·rw[qaf (by
   rcases qaB i bl.length with h|h
   ·exact h
   ·rw[qah h]at hb;cases hb)];exact hb
 ·rw[qbu]
  refine h _ b ?_
  rw[qam (by omega),qb4];exact hb
def pU{W:World}{r:Reach}{b0:Nat}{held:Bool}:∀(ts:List TypeId) (l:List (List CK2)) (sks:List SK) (vs:List Value) (ds:List (DataW H)) (ps:List MemPlace) (n0:Nat),argK P ts=some (l,sks)->
  (∀(j:Nat) t v,ts[j]?=some t->vs[j]?=some v->Value.okWide P W r b0 t v)->DataW.TrodAll enc P W 0 (λ_=>true) held ts vs ds ps->
  ∃(xs:List S0) (bl:List Blk2),(∀b∈bl,sq W b)/\bJ xs sks=true/\(∀x∈xs,x.good)/\(∀mu:HMap,MuAt mu n0 bl->VRs noL mu (ah xs) vs)/\(∀hp:HL,HpAt hp n0 bl->bm hp l.flatten (bK xs))/\
   ∀(W':World) (s':Nat->Bool),Stays W W'->(∀b,b<W.heap.size->s' b=true)->DataW.TrodAll enc P W' 0 s' held ts vs ds ps
 | [],l,sks,[],[],ps,n0,h,_,ht=>by
  cases h
  exact⟨[],[],by simp,rfl,by simp,λmu _=>⟨rfl,λi x y h=>by simp[ah]at h⟩,λhp _=>trivial,λ_ _ _ _=>ht⟩
 |t :: ts,l,sks,v :: vs,d :: ds,ps,n0,h,hv,ht=>by
  simp only[argK]at h
  split at h
  next cks l' sks' e1 e2=>
   split at h
   next sk e3 e4=>
    cases h
    obtain⟨p,q,h1,h2,rfl⟩:=ht
    obtain⟨x,bl,a1,a2,a3,a4,a5,a6⟩:=open_arg2 e1 e3 e4 (hv 0 t v rfl rfl) h1 n0
    obtain⟨xs,bl',b1,b2,b3,b4,b5,b6⟩:=pU ts l' sks' vs ds q (n0+bl.length) e2 (λj t v h1 h2=>hv (j+1) t v h1 h2) h2
    refine⟨x :: xs,bl++bl',λb hb=>?_,by simp[bJ,a2,b2],λy hy=>?_,λmu hmu=>?_,λhp hh=>?_,λW' s' h1 h2=>⟨p,q,a6 W' s' h1 h2,b6 W' s' h1 h2,rfl⟩⟩
    ·rcases qaH.1 hb with h|h
     ·exact a1 b h
     ·exact b1 b h
    ·rcases qak.1 hy with rfl|hy
     ·exact a3
     ·exact b3 y hy
    ·obtain⟨h1,h2⟩:=at_app (f:=mu) (g:=λb=>b.2) hmu
     have c1:=a4 mu h1
     obtain⟨c2,c3⟩:=b4 mu h2
     refine⟨by simpa[ah]using c2,λi p q hi hj=>?_⟩
     cases i with
     |zero=>
      simp only[ah,qav,qbj,qaA]at hi hj
      subst hi hj;exact c1
     |succ i=>exact c3 i p q (by simpa[ah]using hi) (by simpa using hj)
    ·obtain⟨h1,h2⟩:=at_app (f:=λi=>hp[i]?) (g:=λb=>some (HO.o b.1)) hh
     rw[qcj]
     exact bm.app (a5 hp h1) (b5 hp h2)
   ·cases h
  ·cases h
 | [],_,_,_ :: _,_,_,_,_,_,ht=>by cases ht
 | [],_,_,[],_ :: _,_,_,_,_,ht=>by cases ht
 |_ :: _,_,_,[],_,_,_,_,_,ht=>by cases ht
 |_ :: _,_,_,_ :: _,[],_,_,_,_,ht=>by cases ht
def uS{C:Cfg}{f:FuncId}{args:List Value}{r:Value}{H':List HObj}{bl:List Blk2}{W:World}(hbl:∀b∈bl,sq W b)(h:cX C f args (bl.map (·.1)) r H'){args':Array Value}(hargs:∀mu:HMap,MuAt mu 0 bl->VRs noL mu args args'.toList)(hr:flat r=true)
  (hG:∀g vs,C.G g=some vs->gBlk g<W.heap.size/\vs.all aV=true/\∃c e fr,W.heap[gBlk g]?=some (.cells c e fr)/\bZ (λ_=>none) vs c (gOff g)) (hf:∀g vs,C.G g=some vs->vs.all gfl=true) :
  Calls C.P f args' W λe W'=>e = .returned r/\W'.os=W.os/\W'.output=W.output/\W'.tape=W.tape/\∀b,b<W.heap.size->W'.heap[b]?=W.heap[b]?:=by
 let mu:HMap:=λid=>(bl[id]?).bind (·.2)
 have hmu:MuAt mu 0 bl:=λi b hb=>by simp only[mu,qaL,hb,qaj]
 have hob:∀(id:Nat) o,(bl.map (·.1))[id]?=some o->∃b,bl[id]?=some b/\o=b.1/\sq W b:=by
  intro id o ho
  rw[qat]at ho
  obtain⟨b,h1,rfl⟩:=qae.1 ho
  exact⟨b,h1,rfl,hbl b (qag h1)⟩
 have hun:∀(id:Nat) o,(bl.map (·.1))[id]?=some o->o.owned=false:=by
  intro id o ho
  obtain⟨b,_,rfl,h3⟩:=hob id o ho
  rcases h3 with h3|⟨vs,e,p,c,t,fr,h3,_⟩<;>rw[h3]<;>rfl
 have hno:∀b,¬Own mu (bl.map (·.1)) b:=by
  rintro b ⟨id,o,p,h1,h2,_⟩
  rw[hun id o h1]at h2;cases h2
 have hW0:WR C W.heap.size mu (bl.map (·.1)) W:=by
  refine⟨λid o h1 h2=>?_,λi j oi oj pi pj h1 h2 h3=>?_,λi o p h1 h2=>?_,λi o p h1 h2 _ h4=>?_,λid h1=>?_,λg vs hg=>?_⟩
  ·obtain⟨b,q1,rfl,q3⟩:=hob id o h1
   rcases q3 with q3|⟨vs,e,p,c,t,fr,q3,q4,q5,q6,q7,q8,q9,q10,q11⟩
   ·rw[q3]at h2;cases h2
   ·refine⟨p,by simp only[mu,q1,qaj,q4],?_⟩
    rw[q3]
    refine⟨q5,q8,q7,c,t,fr,q9,q10,λh=>by(cases h),λi v hv=>⟨v,q11 i v hv,.of_flat (qab.1 q6 v (qag hv))⟩⟩
  ·rw[hun i oi h1]at h3;cases h3
  ·rw[hun i o h1]at h2;cases h2
  ·obtain⟨b,q1,rfl,q3⟩:=hob i o h1
   rcases q3 with q3|⟨vs,e,p',c,t,fr,q3,q4,q5,q6,q7,q8,q9,q10,q11⟩
   ·rw[q3]at h2;cases h2
   ·simp only[mu,q1,qaj,q4,qaA]at h4
    subst h4
    rcases qaB p'.b W.heap.size with h|h
    ·exact h
    ·rw[qa9 h]at q9;cases q9
  ·simp only[mu]
   rw[qah (by simpa using h1)];rfl
  ·obtain⟨h1,h2,c,e,fr,h4,h5⟩:=hG g vs hg
   exact⟨h1,h2,c,e,fr,h4,ii (hf g vs hg) h5⟩
 intro cs
 obtain⟨v,mu',w',a1,a2,a3,_,a5⟩:=h _ W.heap.size mu W args' (qan _) (hargs mu hmu) hW0 cs
 rw[cL hr a1]at a5
 obtain⟨fr,b1,b2,b3⟩:=a5
 exact⟨.returned r,w',fr,⟨rfl,a3.os,a3.output,a3.tape,λb hb=>a3.keep b hb (hno b)⟩,b1,b2,b3⟩
def post_sl{P:Program}{f:Func}{s:ChangeSpec}{apart fresh handsOn:Bool}{W W':World}{args:Array Value}{v:Value}{ds gs:List (DataW H)}{before pa:List MemPlace}
  (hW:DataW.Whole enc P f.params.toList s.vars apart W args.toList ds gs before)
  (hres:∀(b:Nat) (sp:Nat->Bool) (hd:Bool),DataW.TrodAll enc P W' b sp hd f.resultTypes.toList (v.resultList f.resultTypes.size) (s.fn H (ds++gs)).results [])
  (hargs:DataW.TrodAll enc P W' 0 (λb=>decide (b<W.heap.size)) true f.params.toList args.toList (s.fn H (ds++gs)).args pa)
  (hvars:∀sp:Nat->Bool,DataW.TrodVars enc P W' sp s.vars (s.fn H (ds++gs)).vars [])
  (h1:W'.os=W.os) (h2:W'.output=W.output) (h3:∀b,b<W.heap.size->W'.heap[b]?=W.heap[b]?) :
  s.post enc P f apart fresh handsOn false W args v W':=
 ⟨ds,gs,before,[],pa,[],hW,hres _ _ _,hargs,hvars _,kept_of h1 h2 h3 _,λh=>by cases h⟩
end
end
section
variable [Val]
def lj{C:Cfg}{N:FuncId->Option Nat}{Sg:FuncId->Option Sig}(hm:C.P.follows .mixedOrders=true){g:FuncId}{sg:Sig}(hs:Sg g=some sg){ls rs:List Lf}{H H':List HObj}(hc:let _:Kno:=KnoC C N;aw C Sg g ls H rs H'){xs ys:List S0}(h1:bJ xs sg.ps=true)(h2:bK xs=ls)(h3:bJ ys sg.rs=true)(h4:bK ys=rs) :
  cX C g (ah xs) H (eV (ah ys)) H':=by
 let _:Kno:=KnoC C N
 obtain⟨sg',xs',ys',c1,c2,c3,c4⟩:=hc
 rw[hs]at c1
 cases c1
 obtain⟨w1,_⟩:=cG c2.1 h1 (c2.2.1.trans h2.symm)
 obtain⟨w2,_⟩:=cG c3.1 h3 (c3.2.1.trans h4.symm)
 rw[w1,w2]at c4
 exact jN hm c4
end
end Sx
end Go.Am
set_option maxRecDepth 100000
set_option maxHeartbeats 8000000
namespace Go.Am
open Sx Go.Proofs
def cmpI(a b:Int):Int:=if a<b then -1 else if b<a then 1 else 0
def orI:List Int->Int
 | []=>0
 |a :: l=>if a=0 then orI l else a
theorem cmpI_0{a b:Int}:cmpI a b=0↔a=b:=by
 unfold cmpI
 split
 ·constructor
  ·intro h;omega
  ·intro h;omega
 ·split
  ·constructor
   ·intro h;omega
   ·intro h;omega
  ·constructor
   ·intro _;omega
   ·intro _;rfl
def encQ(p:Int×Int):List Value:=[.int .i64 p.1,.int .i64 p.2]
def encQ_len(p:Int×Int):(encQ p).length=2:=rfl
def nan_c(a:Int):Cc 176 [.i a] [.b false]:=by
 refine q176 rfl ?_;unfold f176;simp only[qxh]
 simp(disch:=omega)only[↓qXX]
def cmp_c(a b:Int):Cc 137 [.i a,.i b] [.i (cmpI a b)]:=by
 refine q137 rfl ?_;unfold f137;simp only[qxh]
 simp(disch:=omega)only[↓qXX]
 refine af (nan_c a) ?_
 simp(disch:=omega)only[↓qXX]
 refine af (nan_c b) ?_
 simp(disch:=omega)only[↓qXX]
 unfold cmpI
 by_cases h1:a<b
 ·simp(disch:=omega)only[↓qXX]
  simp[h1]
 ·by_cases h2:b<a
  ·simp(disch:=omega)only[↓qXX]
   simp[h1,h2]
  ·simp(disch:=omega)only[↓qXX]
   simp[h1,h2]
def orI_drop{l:List Int}{j:Nat}{a:Int}(ha:l[j]?=some a):orI (l.drop j)=if a=0 then orI (l.drop (j+1))else a:=by
 rw[qbm (be ha)]
 have h1:l[j]'(be ha)=a:=by rw[qar (be ha)]at ha;exact qap ha
 rw[h1]
 rfl
def ord_c{h:HL}{x:Value}{l:List (Int×Int)}(hl:LsH h x 2 encQ l)(hb:l.length<=1000) :
  aw cc ac 123 [.v x] (absH aa h) [.i (orI (l.map λp=>cmpI p.1 p.2))] (absH aa h):=by
 obtain⟨rs,h',h1,rfl,rfl⟩:=x123 (K:=λrs h'=>rs=[.i (orI (l.map λp=>cmpI p.1 p.2))]/\h'=h) (H:=h) (glsV hl.good gls0) (by
  unfold f123;simp only[qxh]
  simp(disch:=omega)only[↓qXX]
  refine bM hl ?_
  refine fq l.length (λj=>orI (l.map λp=>cmpI p.1 p.2)=orI ((l.map λp=>cmpI p.1 p.2).drop j)) (j0:=0) rfl (qaW _) rfl ?_
  intro j hj he self hself
  simp(disch:=omega)only[↓qXX]
  by_cases hlt:j<l.length
  ·rw[aS hlt]
   simp(disch:=omega)only[↓qXX]
   obtain⟨p,hp⟩:=bn hlt
   refine bi hl rfl hp ?_
   unfold encQ
   simp(disch:=omega)only[↓qXX]
   refine af (cmp_c p.1 p.2) ?_
   simp(disch:=omega)only[↓qXX]
   rw[orI_drop (a:=cmpI p.1 p.2) (by rw[qat,hp];rfl)]at he
   by_cases h0:cmpI p.1 p.2=0
   ·rw[p_neq_f h0]
    simp(disch:=omega)only[↓qXX]
    rw[ce (by omega)]
    rw[if_pos h0]at he
    exact hself hlt he
   ·rw[p_neq_t h0]
    simp(disch:=omega)only[↓qXX]
    rw[if_neg h0]at he
    exact⟨by rw[he],by trivial⟩
  ·obtain rfl:j=l.length:=by omega
   rw[aY (qan _)]
   simp(disch:=omega)only[↓qXX]
   refine⟨?_,by trivial⟩
   rw[he,qbH (by rw[qa3];exact qan _)]
   rfl)
 exact h1
def cell_c{x y q x' y' q':Int}(hq:0<=q/\q<=255)(hq':0<=q'/\q'<=255):Cc 80 [.i x,.i y,.i q,.i x',.i y',.i q'] [.i (orI [cmpI y y',cmpI x x',cmpI q q'])]:=by
 refine q80 rfl ?_;unfold f80;simp only[qxh]
 simp(disch:=omega)only[↓qXX]
 refine ai (h':=[]++[HO.o (.cells [.int .i64 y,.int .i64 y',.int .i64 x,.int .i64 x',.int .i64 q,.int .i64 q'] 2 true)]) (ord_c (l:=[(y,y'),(x,x'),(q,q')]) ?_ (by simp)) ?_
 ·exact newE_ls (h:=[]) (e:=2) (enc:=encQ) (l:=[(y,y'),(x,x'),(q,q')]) encQ_len (by rfl)
 ·simp(disch:=omega)only[↓qXX]
  rfl
def cmpC(a b:Cl):Int:=orI [cmpI a.2.1 b.2.1,cmpI a.1 b.1,cmpI (Int.ofNat a.2.2) (Int.ofNat b.2.2)]
def ltL(a b:Cl):Prop:=a.2.1<b.2.1∨(a.2.1=b.2.1/\(a.1<b.1∨(a.1=b.1/\a.2.2<b.2.2)))
instance (a b : Cl) : Decidable (ltL a b) := by unfold ltL; exact inferInstance
def cmpC_lt(a b:Cl):cmpC a b<0↔ltL a b:=by
 unfold cmpC ltL
 simp only[orI]
 have h1:=@cmpI_0 a.2.1 b.2.1
 have h2:=@cmpI_0 a.1 b.1
 have e1:cmpI a.2.1 b.2.1<0↔a.2.1<b.2.1:=by unfold cmpI;split<;>(try split)<;>omega
 have e2:cmpI a.1 b.1<0↔a.1<b.1:=by unfold cmpI;split<;>(try split)<;>omega
 have e3:cmpI (Int.ofNat a.2.2) (Int.ofNat b.2.2)<0↔a.2.2<b.2.2:=by
  have:(Int.ofNat a.2.2<Int.ofNat b.2.2)↔a.2.2<b.2.2:=Int.ofNat_lt
  unfold cmpI
  split<;>(try split)<;>omega
 have e4:=@cmpI_0 (Int.ofNat a.2.2) (Int.ofNat b.2.2)
 split
 next g1=>
  split
  next g2=>
   split
   next g3=>
    have:=e4.1 g3
    have:a.2.2=b.2.2:=qct this
    omega
   ·omega
  ·omega
 ·omega
def vl{a b:Cl}:ltL a b∨a=b∨ltL b a:=by
 obtain⟨a1,a2,a3⟩:=a
 obtain⟨b1,b2,b3⟩:=b
 simp only[ltL,qb5]
 omega
def ru{a:Cl}:¬ltL a a:=by unfold ltL;omega
def ltL_tr{a b c:Cl}(h:ltL a b)(k:ltL b c):ltL a c:=by unfold ltL at *;omega
abbrev C4:=Int×Int×Fin 4
def clF(a:C4):Cl:=(a.1,a.2.1,a.2.2.val)
def enc4(a:C4):List Value:=aD (clF a)
def cf4(a b:C4):Int:=cmpC (clF a) (clF b)
def lt4(a b:C4):Go.Proofs.ltOf cf4 a b=decide (ltL (clF a) (clF b)):=by
 unfold Go.Proofs.ltOf cf4
 rw[decide_eq_decide]
 exact cmpC_lt _ _
def swo4:Go.Sort.SWO (Go.Proofs.ltOf cf4) where
 irrefl x:=by rw[lt4,decide_eq_false];exact ru
 trans x y z h1 h2:=by
  rw[lt4,decide_eq_true_eq]at *
  exact ltL_tr h1 h2
 ntrans x y z h1 h2:=by
  rw[lt4,decide_eq_false_iff_not]at *
  intro h
  unfold ltL at *
  omega
def cmp4(a b:C4):cX cc 80 [.agg ⟨enc4 a⟩,.agg ⟨enc4 b⟩] [] (.int .i64 (cf4 a b)) []:=by
 have ha:=a.2.2.isLt
 have hb:=b.2.2.isLt
 have hc:=cell_c (x:=a.1) (y:=a.2.1) (q:=Int.ofNat a.2.2.val) (x':=b.1) (y':=b.2.1) (q':=Int.ofNat b.2.2.val) (by simp only[qaq];omega) (by simp only[qaq];omega) []
 exact lj (N:=neuN) mixed (Sg:=ac) (sg:=⟨[.agg [.i .i64,.i .i64,.i .u8],.agg [.i .i64,.i .i64,.i .u8]],[li]⟩) rfl hc (xs:=[.agg [.i .i64 a.1,.i .i64 a.2.1,.i .u8 (Int.ofNat a.2.2.val)],.agg [.i .i64 b.1,.i .i64 b.2.1,.i .u8 (Int.ofNat b.2.2.val)]]) rfl rfl (ys:=[.leaf (.i .i64 (cf4 a b))]) rfl rfl
abbrev cloC:Value:=.func (.func 80) ⟨[]⟩ ⟨[]⟩
def sort_c{H:HL}{id cx:Nat}{J:List C4}(hid:H[id]?=some (.o (.cells ((J.map clF).flatMap aD) 3 true)))(h0:0<J.length)(hl:J.length<=100000) :
  ∃D:List C4,D.Perm J/\(D.Pairwise λx y=>¬ltL (clF y) (clF x))/\aw cc ac 79 [.v (.slice (some ⟨id,0,tag 3⟩) J.length cx),.v cloC] (absH aa H) [] (absH aa (putE H id 3 aD (D.map clF))):=by
 have e1:∀L:List C4,(L.map clF).flatMap aD=L.flatMap enc4:=λL=>by rw[List.flatMap_map];rfl
 refine⟨srt cf4 J,srt_perm swo4 J,?_,?_⟩
 ·refine(srt_pair swo4 J).imp λ{x y} h=>?_
  rw[lt4,decide_eq_false_iff_not]at h
  exact h
 ·have hid2:(absH aa H)[id]?=some (.cells (J.flatMap enc4) 3 true):=by
   rw[←e1]
   unfold absH
   rw[qat,hid]
   rfl
  have hok:=vO (C:=cc) ky layS (enc:=enc4) (e:=3) (λw=>by kernel_rfl) (λw=>by kernel_rfl) (λ_=>rfl) (λx v hv=>by
   simp only[enc4,aD,qak,qbM,or_false]at hv
   rcases hv with rfl|rfl|rfl<;>rfl) swo4 (g:=80) (λargs w=>by kernel_rfl) cmp4 (cx:=cx) hid2 rfl h0 (by omega)
  have hset:(absH aa H).set id (.cells ((srt cf4 J).flatMap enc4) 3 true)=absH aa (putE H id 3 aD ((srt cf4 J).map clF)):=by
   unfold putE
   rw[e1,mM]
   rfl
  rw[hset]at hok
  exact⟨⟨[lv,lv],[]⟩,[.leaf (.v (.slice (some ⟨id,0,tag 3⟩) J.length cx)),.leaf (.v cloC)],[],rfl,⟨rfl,rfl,λy hy=>by
   simp only[qak,qbM,or_false]at hy
   rcases hy with rfl|rfl
   ·exact au (show aP (.slice (some ⟨id,0,tag 3⟩) J.length cx)=true by simp[aP,noLoc,bo,ca,bu,bc,aI,tag])
   ·exact au rfl⟩,⟨rfl,rfl,λy hy=>by cases hy⟩,⟨0,.inr ⟨.inl (by kernel_rfl),hok⟩⟩⟩
abbrev cloW:Value:=.func (.func 120) ⟨[]⟩ ⟨[]⟩
def okCl(c:Cl):Prop:=vCl c=true/\c.2.2<4
def wrong1_c{c:Cl}(h:okCl c):Cc 120 (cll c) [.b false]:=by
 refine q120 rfl ?_;unfold f120;simp only[qxh]
 simp only[cll]
 simp(disch:=omega)only[↓qXX]
 refine af (wh (c:=c) h.2) ?_
 rw[if_pos h.1]
 simp(disch:=omega)only[↓qXX]
def indexW_c{h:HL}{x:Value}{l:List Cl}(hl:LsH h x 3 aD l)(hok:∀c∈l,okCl c)(hn:l.length<=100000):aw cc ac 142 [.v x,.v cloW] (absH aa h) [.i (-1)] (absH aa h):=by
 obtain⟨rs,h',h1,rfl,rfl⟩:=x142 (K:=λrs h'=>rs=[.i (-1)]/\h'=h) (H:=h) (glsV hl.good (glsV rfl gls0)) (by
  unfold f142;simp only[qxh]
  simp(disch:=omega)only[↓qXX]
  refine bM hl ?_
  refine fq l.length (λ_=>True) rfl (qaW _) trivial ?_
  intro j hj _ self hself
  simp(disch:=omega)only[↓qXX]
  by_cases hlt:j<l.length
  ·rw[aS hlt]
   simp(disch:=omega)only[↓qXX]
   obtain⟨c,hc⟩:=bn hlt
   refine bi hl rfl hc ?_
   unfold aD
   simp(disch:=omega)only[↓qXX]
   refine gQ (jl (wrong1_c (hok c (qag hc)) _) rfl [.agg [.i .i64 c.1,.i .i64 c.2.1,.i .u8 (Int.ofNat c.2.2)]] rfl rfl) ?_
   simp(disch:=omega)only[↓qXX]
   rw[ce (by omega)]
   exact hself hlt trivial
  ·rw[aY (by omega)]
   simp(disch:=omega)only[↓qXX]
   exact⟨by trivial,by trivial⟩)
 exact h1
def wrong_c{h:HL}{x:Value}{l:List Cl}(hl:LsH h x 3 aD l)(hok:∀c∈l,okCl c)(hn:l.length<=100000):aw cc ac 77 [.v x] (absH aa h) [.b false] (absH aa h):=by
 have h1:=indexW_c hl hok hn
 obtain⟨rs,h',h3,rfl,e3⟩:=x119 (ls:=[.v x,.v cloW]) (K:=λrs h'=>rs=[.b false]/\h'=h) (H:=h) (glsV hl.good (glsV rfl gls0)) (by
  unfold f119;simp only[qxh]
  simp(disch:=omega)only[↓qXX]
  refine ai h1 ?_
  simp(disch:=omega)only[↓qXX]
  exact⟨by trivial,by trivial⟩)
 rw[e3]at h3
 obtain⟨rs,h',h4,rfl,rfl⟩:=x77 (K:=λrs h'=>rs=[.b false]/\h'=h) (H:=h) (glsV hl.good gls0) (by
  unfold f77;simp only[qxh]
  simp(disch:=omega)only[↓qXX]
  refine ai h3 ?_
  simp(disch:=omega)only[↓qXX]
  exact⟨by trivial,by trivial⟩)
 exact h4
def r_apE{α:Type}{e kb:Nat}{enc:α->List Value}{h:HL}{x:Value}{new:List α}{m:Nat}{K:List Value->HL->Prop}(hg:h[m]?=some (.o (.cells [] e true)))(hx:LsH h x e enc new)(hn:0<new.length)(hb:new.length*kb<=140737488355328)(hb':new.length<=140737488355328)
  (hk:K [.slice (some ⟨h.length,0,tag e⟩) new.length 0] (h++[.o (.cells (new.flatMap enc) e true)])) :
  P1.heap (.ap cc e kb (.slice (some ⟨m,0,tag e⟩) 0 1) x) h (@hid _ ⟨K⟩):=by
 have hsz:bU (0+new.length) kb=true:=by
  rw[qaL]
  unfold bU
  rw[qbZ hb',qbZ hb];rfl
 have hcut:cut ([]:List Value) 0 (0*e)=some []:=Sx.cut_all (by simp)
 have hrun:apG cc e kb (.slice (some ⟨m,0,tag e⟩) 0 1) x (getH aa h) h.length=some ([.push (.cells ([]++new.flatMap enc) e true)],[.slice (some ⟨h.length,0,tag e⟩) (0+new.length) 0]):=by
  unfold apG
  rw[xD hx.2]
  simp only[ne_eq,not_true_eq_false,if_false]
  rw[cC hg]
  simp only[ne_eq,not_true_eq_false,if_false]
  rw[hcut]
  simp only
  rw[if_neg (by omega),if_pos hsz]
 refine cO (show(Hp.ap cc e kb (.slice (some ⟨m,0,tag e⟩) 0 1) x).run _ _=_ from hrun) ?_
 rw[qaL]
 exact hk
abbrev sl3(id n cx:Nat):Value:=.slice (some ⟨id,0,tag 3⟩) n cx
def clone_c{h:HL}{x:Value}{l:List Cl}(hf:Ful h x 3 aD l)(h0:0<l.length)(hn:l.length<=100000):aw cc ac 78 [.v x] (absH aa h) [.v (sl3 (h.length+1) l.length 0)] (absH aa (h++[.o (.cells [] 3 true),.o (.cells (l.flatMap aD) 3 true)])):=by
 have hl:=hf.ls bF
 obtain⟨rs,h',h1,rfl,rfl⟩:=x78 (K:=λrs h'=>rs=[.v (sl3 (h.length+1) l.length 0)]/\h'=h++[.o (.cells [] 3 true),.o (.cells (l.flatMap aD) 3 true)]) (H:=h) (glsV hl.good gls0) (by
  unfold f78;simp only[qxh]
  simp(disch:=omega)only[↓qXX]
  obtain⟨id,rfl,hg⟩:=hf
  refine am (x:=false) rfl ?_
  simp(disch:=omega)only[↓qXX]
  refine r_apE (kb:=24) (h:=h++[.o (.cells [] 3 true)]) (m:=h.length) bA (hl.pre ⟨_,rfl⟩) h0 (by omega) (by omega) ?_
  simp(disch:=omega)only[↓qXX]
  refine aH (by simp[aP,noLoc,bo,ca,bu,bc,aI,tag]) ?_
  refine⟨by simp,by simp⟩)
 exact h1
def cmN(L:List Cl):Nat->List Cl
 |0=>[]
 |n+1=>match L[n]? with
  |none=>cmN L n
  |some c=>if 0<n/\L[n - 1]?=some c then cmN L n else cmN L n++[c]
def cmN_len{L:List Cl}:∀n,(cmN L n).length<=n
 |0=>qan _
 |n+1=>by
  have:=cmN_len (L:=L) n
  unfold cmN
  split
  ·omega
  ·split
   ·omega
   ·rw[qay];simp only[qaC,qbi];omega
def ls_off{α:Type}{e:Nat}{enc:α->List Value}(henc:∀a,(enc a).length=e){h:HL}{id cx o n:Nat}{L:List α}(hg:h[id]?=some (.o (.cells (L.flatMap enc) e true)))(ho:o<=L.length)(hn:n=L.length - o):LsH h (.slice (some ⟨id,o*e,tag e⟩) n cx) e enc (L.drop o):=by
 have hd:(L.drop o).length=n:=by rw[qbv];omega
 refine⟨λa _=>henc a,aR λa _=>henc a,.inr ⟨id,o*e,cx,_,true,by rw[hd],hg,?_⟩⟩
 have e1:L.flatMap enc=(L.take o).flatMap enc++(L.drop o).flatMap enc:=by rw[←qcl,qbt]
 have e2:((L.take o).flatMap enc).length=o*e:=by rw[aR λa _=>henc a,qaJ,qb0 ho]
 have e3:((L.drop o).flatMap enc).length=(L.drop o).length*e:=aR λa _=>henc a
 rw[Sx.cut_some]
 refine⟨by rw[e1,qay,e2,e3];exact qan _,?_⟩
 rw[e1,←e2,List.drop_left',←e3,qbh]
 rfl
abbrev zC:Cl:=(0,0,0)
def ls_pre{α:Type}{e:Nat}{enc:α->List Value}(henc:∀a,(enc a).length=e){h:HL}{id cx k:Nat}{L:List α}(hg:h[id]?=some (.o (.cells (L.flatMap enc) e true)))(hk:k<=L.length):LsH h (.slice (some ⟨id,0,tag e⟩) k cx) e enc (L.take k):=by
 have hd:(L.take k).length=k:=by rw[qaJ];omega
 refine⟨λa _=>henc a,aR λa _=>henc a,.inr ⟨id,0,cx,_,true,by rw[hd],hg,?_⟩⟩
 have e1:L.flatMap enc=(L.take k).flatMap enc++(L.drop k).flatMap enc:=by rw[←qcl,qbt]
 have e3:((L.take k).flatMap enc).length=(L.take k).length*e:=aR λa _=>henc a
 rw[Sx.cut_some]
 refine⟨by rw[e1,qay,e3];omega,?_⟩
 rw[qbg,e1,←e3,qdE]
 rfl
def xE{id n cx o k:Nat}{x:Int}(hx:x=Int.ofNat k)(hk:k<=n):slS 3 (.slice (some ⟨id,o,tag 3⟩) n cx) (some x) none none=some (.slice (some ⟨id,o+k*3,tag 3⟩) (n - k) (cx - k)):=by
 subst hx
 unfold slS
 simp only
 rw[if_neg (by simp),if_pos (by simp[cJ];omega)]
 simp[ee,bB]
def slS_upto{id n cx o k:Nat}{x:Int}(hx:x=Int.ofNat k)(hk:k<=n):slS 3 (.slice (some ⟨id,o,tag 3⟩) n cx) none (some x) none=some (.slice (some ⟨id,o,tag 3⟩) k cx):=by
 subst hx
 unfold slS
 simp only
 rw[if_neg (by simp),if_pos (by simp[cJ];omega)]
 simp[ee,bB]
def yq{id o n cx:Nat}:aP (.slice (some ⟨id,o,tag 3⟩) n cx)=true:=by simp[aP,noLoc,bo,ca,bu,bc,aI,tag]
def clear_r{h:HL}{id k n c:Nat}{L:List Cl}{K:List Value->HL->Prop}(hlt:id<h.length)(hn:n=L.length - k)(hk:k<=L.length)(hK:K [] (putE h id 3 aD (L.take k++List.replicate n zC))) :
  P1.heap (.fn (clG 3 [.int .i64 0,.int .i64 0,.int .u8 0] (.slice (some ⟨id,k*3,tag 3⟩) n c))) (putE h id 3 aD L) (@hid _ ⟨K⟩):=by
 have hz:aM [.int .i64 0,.int .i64 0,.int .u8 0] n=(List.replicate n zC).flatMap aD:=by
  rw[←dt (enc:=aD) (z:=zC) (n:=n)]
  rfl
 have e1:L.flatMap aD=(L.take k).flatMap aD++(L.drop k).flatMap aD:=by rw[←qcl,qbt]
 have e2:((L.take k).flatMap aD).length=k*3:=by rw[aR λa _=>bF a,qaJ,qb0 hk]
 have e3:((L.drop k).flatMap aD).length=n*3:=by rw[aR λa _=>bF a,qbv,hn]
 have e4:((List.replicate n zC).flatMap aD).length=n*3:=by rw[aR λa _=>bF a,qcr]
 have hs:splice (L.flatMap aD) (k*3) (aM [.int .i64 0,.int .i64 0,.int .u8 0] n)=some ((L.take k++List.replicate n zC).flatMap aD):=by
  unfold splice
  rw[hz,e4,e1,qay,e2,e3,if_pos (qan _),qdE e2,qbH (by rw[qay,e2,e3];exact qan _),qaX,qcl]
 have hrun:(Hp.fn (clG 3 [.int .i64 0,.int .i64 0,.int .u8 0] (.slice (some ⟨id,k*3,tag 3⟩) n c))).run (getH aa (putE h id 3 aD L)) (putE h id 3 aD L).length=some ([.set id (.cells ((L.take k++List.replicate n zC).flatMap aD) 3 true)],[]):=by
  show clG 3 [.int .i64 0,.int .i64 0,.int .u8 0] (.slice (some ⟨id,k*3,tag 3⟩) n c) (getH aa (putE h id 3 aD L)) (putE h id 3 aD L).length=_
  unfold clG
  simp only[ne_eq,not_true_eq_false,if_false]
  rw[cC (dc hlt)]
  simp only[ne_eq,not_true_eq_false,if_false]
  rw[hs]
  rfl
 refine cO hrun ?_
 have:bI (putE h id 3 aD L) [.set id (.cells ((L.take k++List.replicate n zC).flatMap aD) 3 true)]=putE h id 3 aD (L.take k++List.replicate n zC):=xt
 rw[this]
 exact hK
def eqsC{a b:Cl}{K:Bool->Prop}:P1.eqs [(.i a.1,.i b.1),(.i a.2.1,.i b.2.1),(.i (Int.ofNat a.2.2),.i (Int.ofNat b.2.2))] (@hid _ ⟨K⟩)=K (decide (a=b)):=by
 show K (cb _)=_
 have e:cb [(.i a.1,.i b.1),(.i a.2.1,.i b.2.1),(.i (Int.ofNat a.2.2),.i (Int.ofNat b.2.2))]=decide (a=b):=by
  rw[qbI]
  simp[cb,gp,qcZ]
  intro _ _
  omega
 rw[e]
def mf{L:List Cl}{n:Nat}{c:Cl}(hc:L[n]?=some c):cmN L (n+1)=if 0<n/\L[n - 1]?=some c then cmN L n else cmN L n++[c]:=by
 rw[cmN,hc]
def compact_c{h:HL}{id:Nat}{L:List Cl}(hg:h[id]?=some (.o (.cells (L.flatMap aD) 3 true)))(hn:L.length<=100000) :
  ∃cx L',aw cc ac 81 [.v (sl3 id L.length 0)] (absH aa h) [.v (sl3 id (cmN L L.length).length cx)] (absH aa (putE h id 3 aD L'))/\L'.length=L.length/\L'.take (cmN L L.length).length=cmN L L.length:=by
 have hlt:=be hg
 have hself0:putE h id 3 aD L=h:=by
  unfold putE
  exact oB hg
 obtain⟨rs,h',h1,cx,L',rfl,rfl,e1,e2⟩:=x81 (ls:=[.v (sl3 id L.length 0)]) (K:=λrs h'=>∃cx L',rs=[.v (sl3 id (cmN L L.length).length cx)]/\h'=putE h id 3 aD L'/\L'.length=L.length/\L'.take (cmN L L.length).length=cmN L L.length) (H:=h) (glsV yq gls0) (by
  unfold f81;simp only[qxh]
  simp(disch:=omega)only[↓qXX]
  have hl:=gN bF (cx:=0) hg rfl
  have full:∀k,(k=L.length/\cmN L k=L.take k)->∃cx L',[Lf.v (sl3 id L.length 0)]=[.v (sl3 id (cmN L L.length).length cx)]/\h=putE h id 3 aD L'/\L'.length=L.length/\L'.take (cmN L L.length).length=cmN L L.length:=λk ⟨hk,hkk⟩=>by
   subst hk
   rw[qbh]at hkk
   refine⟨0,L,by rw[hkk],hself0.symm,rfl,by rw[hkk,qbh]⟩
  refine bM hl ?_
  by_cases h2:L.length<2
  ·rw[p_lss_t (show Int.ofNat L.length<2 by show(L.length:Int)<2;omega)]
   simp(disch:=omega)only[↓qXX]
   refine full _ ⟨rfl,?_⟩
   rw[qbh]
   rcases L with _|⟨a,_|⟨b,L⟩⟩
   ·rfl
   ·rfl
   ·simp at h2;omega
  ·rw[p_lss_f (show 2<=Int.ofNat L.length by show 2<=(L.length:Int);omega)]
   simp(disch:=omega)only[↓qXX]
   refine fq L.length (λi=>1<=i/\cmN L i=L.take i) (j0:=1) rfl (by omega) ⟨qan _,by
    rcases L with _|⟨a,L⟩
    ·simp at h2
    ·simp[cmN]⟩ ?_
   rintro i hi ⟨hi1,hcm⟩ self hself
   simp(disch:=omega)only[↓qXX]
   refine bM hl ?_
   by_cases hlti:i<L.length
   ·rw[aS hlti]
    simp(disch:=omega)only[↓qXX]
    obtain⟨a,ha⟩:=bn hlti
    obtain⟨b,hb⟩:=bn (l:=L) (i:=i - 1) (by omega)
    refine bi hl rfl ha ?_
    unfold aD
    simp(disch:=omega)only[↓qXX]
    rw[n_sub (by omega) (by omega)]
    refine bi hl rfl hb ?_
    unfold aD
    simp(disch:=omega)only[↓qXX]
    rw[eqsC]
    by_cases hab:a=b
    case neg=>
     rw[decide_eq_false hab]
     simp(disch:=omega)only[↓qXX]
     rw[ce (by omega)]
     refine hself hlti ⟨by omega,?_⟩
     rw[mf ha,if_neg (by rw[hb];intro q;exact hab (qap q.2).symm),hcm,qa6,ha]
     rfl
    rw[decide_eq_true hab]
    simp(disch:=omega)only[↓qXX]
    rw[xE rfl (by omega)]
    refine am rfl (aH yq ?_)
    rw[qaL]
    have c0:cmN L (i+1)=L.take i:=by rw[mf ha,if_pos ⟨by omega,by rw[hb,hab]⟩,hcm]
    refine bW (σ:=Nat×List Cl) (L.length - i) (λz s=>[.i (Int.ofNat s.1),.i (Int.ofNat z)]) (λ_ s=>putE h id 3 aD s.2) (λz s=>1<=z/\s.2.length=L.length/\s.1+1<=i+z/\s.1=(cmN L (i+z)).length/\s.2.take s.1=cmN L (i+z)/\∀j,i+z<=j+1->s.2[j]?=L[j]?) (j0:=1) (s0:=(i,L)) rfl hself0.symm (by omega) ⟨qan _,rfl,qan _,by rw[c0,qaJ];simp only;omega,by rw[c0],λ_ _=>rfl⟩ ?_
    clear self hself
    rintro z ⟨k,L2⟩ hz ⟨hz1,hl2,hk1,hk2,hk3,hk4⟩ self hself
    simp only at hl2 hk1 hk2 hk3 hk4 hself ⊢
    have hg2:(putE h id 3 aD L2)[id]?=some (.o (.cells (L2.flatMap aD) 3 true)):=dc hlt
    have hls:=ls_off bF (cx:=0 - i) (n:=L.length - i) hg2 (o:=i) (by omega) (by omega)
    simp(disch:=omega)only[↓qXX]
    have hll:=hls.len
    rw[qbv,hl2]at hll
    refine am hll ?_
    by_cases hltz:z<L.length - i
    ·rw[aS hltz]
     simp(disch:=omega)only[↓qXX]
     obtain⟨c,hc⟩:=bn (l:=L) (i:=i+z) (by omega)
     obtain⟨d,hd⟩:=bn (l:=L) (i:=i+z - 1) (by omega)
     refine bi hls (i:=z) (a:=c) rfl (by rw[qa0,hk4 _ (by omega)];exact hc) ?_
     unfold aD
     simp(disch:=omega)only[↓qXX]
     rw[n_sub (by omega) (by omega)]
     refine bi hls (i:=z - 1) (a:=d) rfl (by rw[qa0,show i+(z - 1)=i+z - 1 by omega,hk4 _ (by omega)];exact hd) ?_
     unfold aD
     simp(disch:=omega)only[↓qXX]
     rw[eqsC]
     have hst:=mf hc
     by_cases hcd:c=d
     ·rw[decide_eq_true hcd]
      simp(disch:=omega)only[↓qXX,qaF]
      rw[ce (by omega)]
      have e5:cmN L (i+(z+1))=cmN L (i+z):=by rw[←qbu,hst,if_pos ⟨by omega,by rw[hd,hcd]⟩]
      exact hself (k,L2) hltz ⟨by omega,hl2,by simp only;omega,by rw[e5];exact hk2,by rw[e5];exact hk3,λj hj=>hk4 j (by omega)⟩
     ·rw[decide_eq_false hcd]
      simp(disch:=omega)only[↓qXX,qbz]
      refine bi hls (i:=z) (a:=c) rfl (by rw[qa0,hk4 _ (by omega)];exact hc) ?_
      unfold aD
      simp(disch:=omega)only[↓qXX]
      refine r_set bF (a:=c) (l:=L2) (len:=L.length) (cx:=0) hlt rfl (show k<L2.length by omega) hl2 rfl ?_
      try simp(disch:=omega)only[↓qXX]
      rw[ce (by omega)]
      simp(disch:=omega)only[↓qXX]
      rw[ce (by omega)]
      have e5:cmN L (i+(z+1))=cmN L (i+z)++[c]:=by rw[←qbu,hst,if_neg (by rw[hd];intro q;exact hcd (qap q.2).symm)]
      refine hself (k+1,L2.set k c) hltz ⟨by omega,by simp only[qb8];exact hl2,by simp only;omega,by rw[e5,qay];simp only[qaC,qbi];omega,?_,λj hj=>?_⟩
      ·rw[e5,qa6,qaD (by omega),←hk3]
       congr 1
       apply qaR
       intro q
       rw[qa1,qa1]
       split
       ·rw[qai (by omega)]
       ·rfl
      ·simp only
       rw[qai (by omega)]
       exact hk4 j (by omega)
    ·rw[aY (by omega)]
     simp(disch:=omega)only[↓qXX]
     obtain rfl:z=L.length - i:=by omega
     have e6:i+(L.length - i)=L.length:=by omega
     rw[e6]at hk2 hk3 hk1
     rw[xE rfl (by omega)]
     refine am rfl (aH yq ?_)
     rw[qaL]
     refine clear_r (L:=L2) (n:=L.length - k) hlt (by rw[hl2]) (by omega) ?_
     try simp(disch:=omega)only[↓qXX]
     rw[slS_upto rfl (by omega)]
     refine am rfl (aH yq ?_)
     refine⟨_,_,by rw[←hk2],rfl,by rw[qay,qaJ,qcr];omega,?_⟩
     rw[←hk2,qdE (by rw[qaJ];omega)]
     exact hk3
   ·rw[aY (by omega)]
    simp(disch:=omega)only[↓qXX]
    exact full _ ⟨by omega,hcm⟩)
 exact⟨cx,L',h1,e1,e2⟩
def qw(I D:List Cl):Prop:=D.Pairwise ltL/\∀c,c∈D↔c∈I
def qw.eq{I:List Cl}:∀ {D E:List Cl},(D.Pairwise ltL)->(E.Pairwise ltL)->(∀c,c∈D↔c∈E)->D=E
 | [],[],_,_,_=>rfl
 | [],b :: E,_,_,h=>by have:=(h b).2 qax;cases this
 |a :: D,[],_,_,h=>by have:=(h a).1 qax;cases this
 |a :: D,b :: E,h1,h2,h=>by
  rw[qba]at h1 h2
  have hab:a=b:=by
   rcases qak.1 ((h a).1 qax)with e|e
   ·exact e
   ·rcases qak.1 ((h b).2 qax)with e'|e'
    ·exact e'.symm
    ·exact absurd (ltL_tr (h1.1 b e') (h2.1 a e)) ru
  subst hab
  congr 1
  refine qw.eq (I:=I) h1.2 h2.2 λc=>?_
  constructor
  ·intro hc
   rcases qak.1 ((h c).1 (qao _ hc))with e|e
   ·subst e;exact absurd (h1.1 _ hc) ru
   ·exact e
  ·intro hc
   rcases qak.1 ((h c).2 (qao _ hc))with e|e
   ·subst e;exact absurd (h2.1 _ hc) ru
   ·exact e
def cmN_set{S:List Cl}(hS:S.Pairwise λx y=>¬ltL y x):∀n,n<=S.length->(cmN S n).Pairwise ltL/\∀c,c∈cmN S n↔c∈S.take n
 |0,_=>⟨List.Pairwise.nil,λc=>by simp[cmN]⟩
 |n+1,hn=>by
  obtain⟨i1,i2⟩:=cmN_set hS n (by omega)
  obtain⟨c,hc⟩:=bn (l:=S) (i:=n) (by omega)
  have hlt:∀(i j:Nat) x y,i<j->S[i]?=some x->S[j]?=some y->¬ltL y x:=λi j x y hij hx hy=>by
   obtain⟨h1,rfl⟩:=qaQ.1 hx
   obtain⟨h2,rfl⟩:=qaQ.1 hy
   exact qdk.1 hS i j h1 h2 hij
  have ht:S.take (n+1)=S.take n++[c]:=by rw[qa6,hc];rfl
  rw[mf hc,ht]
  split
  next h=>
   refine⟨i1,λx=>?_⟩
   rw[i2,qaH,qau]
   refine⟨.inl,λq=>q.elim id λe=>?_⟩
   subst e
   have hm:(S.take n)[n - 1]?=some x:=by rw[qa1,if_pos (by omega)];exact h.2
   exact qag hm
  next h=>
   refine⟨?_,λx=>by rw[qaH,qaH,i2]⟩
   rw[qcw]
   refine⟨i1,qcn _ _,λx hx y hy=>?_⟩
   rw[qau]at hy
   subst hy
   rw[i2]at hx
   obtain⟨i,hi⟩:=qaY hx
   rw[qa1]at hi
   split at hi
   case isFalse=>cases hi
   rename_i hin
   have h3:=hlt i n x y hin hi hc
   rcases vl (a:=x) (b:=y)with q|q|q
   ·exact q
   ·exfalso
    subst q
    obtain⟨d,hd⟩:=bn (l:=S) (i:=n - 1) (by omega)
    have h4:=hlt (n - 1) n d x (by omega) hd hc
    by_cases hi2:i=n - 1
    ·subst hi2
     exact h ⟨by omega,hi⟩
    ·have h5:=hlt i (n - 1) x d (by omega) hi hd
     rcases vl (a:=x) (b:=d)with q|q|q
     ·exact h4 q
     ·exact h ⟨by omega,by rw[hd,q]⟩
     ·exact h5 q
   ·exact absurd q h3
def ex_c4:∀ {I:List Cl},(∀c∈I,c.2.2<4)->∃J:List C4,J.map clF=I
 | [],_=>⟨[],rfl⟩
 |c :: I,h=>by
  obtain⟨J,hJ⟩:=ex_c4 (I:=I) λd hd=>h d (qao _ hd)
  exact⟨(c.1,c.2.1,⟨c.2.2,h c qax⟩) :: J,by rw[qav,hJ];rfl⟩
def clip_c(H:HL){id n cx:Nat}:aw cc ac 82 [.v (sl3 id n cx)] (absH aa H) [.v (sl3 id n (n+1))] (absH aa H):=by
 obtain⟨rs,h',h1,e1,e2⟩:=x82 (ls:=[.v (sl3 id n cx)]) (K:=λrs h'=>rs=[.v (sl3 id n (n+1))]/\h'=H) (H:=H) (glsV yq gls0) (by
  unfold f82;simp only[qxh]
  simp(disch:=omega)only[↓qXX]
  refine am (x:=Int.ofNat n) rfl ?_
  refine am (x:=Int.ofNat n) rfl ?_
  have e:slS 3 (sl3 id n cx) none (some (Int.ofNat n)) (some (Int.ofNat n))=some (sl3 id n (n+1)):=by
   unfold slS sl3
   simp only
   rw[if_neg (by simp),if_pos (by simp[cJ])]
   simp[ee,bB]
  refine am e ?_
  refine aH yq ?_
  exact⟨by trivial,by trivial⟩)
 rw[e1,e2]at h1
 exact h1
def sof_c{h:HL}{x:Value}{I:List Cl}(hf:Ful h x 3 aD I)(hok:∀c∈I,okCl c)(h0:0<I.length)(hn:I.length<=1000) :
  ∃dx G D,aw cc ac 49 [.v x] (absH aa h) [.v dx,.i 0] (absH aa (h++G))/\LsH (h++G) dx 3 aD D/\qw I D/\D.length<=I.length:=by
 have hl:=hf.ls bF
 have hw:=wrong_c hl hok (by omega)
 have hcl:=clone_c hf h0 (by omega)
 obtain⟨J,rfl⟩:=ex_c4 (I:=I) λc hc=>(hok c hc).2
 rw[qa3]at hcl h0 hn
 have hid:(h++[HO.o (.cells [] 3 true),HO.o (.cells ((J.map clF).flatMap aD) 3 true)])[h.length+1]?=some (HO.o (.cells ((J.map clF).flatMap aD) 3 true)):=by
  rw[qam (by omega),show h.length+1 - h.length=1 by omega];rfl
 obtain⟨D,d1,d2,d3⟩:=sort_c (cx:=0) hid h0 (by omega)
 have hid2:(putE (h++[HO.o (.cells [] 3 true),HO.o (.cells ((J.map clF).flatMap aD) 3 true)]) (h.length+1) 3 aD (D.map clF))[h.length+1]?=some (HO.o (.cells ((D.map clF).flatMap aD) 3 true)):=dc (be hid)
 have hDl:(D.map clF).length=J.length:=by rw[qa3,d1.length_eq]
 obtain⟨cx,L',k1,k2,k3⟩:=compact_c hid2 (by rw[hDl];omega)
 rw[hDl]at k1 k2 k3
 have hS:(D.map clF).Pairwise λx y=>¬ltL y x:=List.pairwise_map.2 d2
 obtain⟨s1,s2⟩:=cmN_set hS J.length (by rw[hDl];exact qan _)
 have hcl2:=cmN_len (L:=D.map clF) J.length
 have hfin:∀G,putE (putE (h++[HO.o (.cells [] 3 true),HO.o (.cells ((J.map clF).flatMap aD) 3 true)]) (h.length+1) 3 aD (D.map clF)) (h.length+1) 3 aD L'=h++G↔G=[HO.o (.cells [] 3 true),HO.o (.cells (L'.flatMap aD) 3 true)]:=λG=>by
  unfold putE
  rw[List.set_set,qbR _ _ (by omega),show h.length+1 - h.length=1 by omega,List.append_right_inj]
  exact eq_comm
 have hfin2:=(hfin _).2 rfl
 generalize hkd:cmN (D.map clF) J.length=C at *
 have hgf:(h++[HO.o (.cells [] 3 true),HO.o (.cells (L'.flatMap aD) 3 true)])[h.length+1]?=some (HO.o (.cells (L'.flatMap aD) 3 true)):=by
  rw[qam (by omega),show h.length+1 - h.length=1 by omega];rfl
 obtain⟨rs,h',hc,rfl,rfl⟩:=x49 (K:=λrs h'=>rs=[.v (sl3 (h.length+1) C.length (C.length+1)),.i 0]/\h'=h++[HO.o (.cells [] 3 true),HO.o (.cells (L'.flatMap aD) 3 true)]) (H:=h) (glsV hl.good gls0) (by
  unfold f49;simp only[qxh]
  simp(disch:=omega)only[↓qXX]
  refine ai hw ?_
  simp(disch:=omega)only[↓qXX]
  refine ai hcl ?_
  simp(disch:=omega)only[↓qXX]
  refine ai d3 ?_
  simp(disch:=omega)only[↓qXX]
  refine ai k1 ?_
  simp(disch:=omega)only[↓qXX]
  refine am (x:=Int.ofNat C.length) rfl ?_
  rw[p_gtr_f (show Int.ofNat C.length<=1024 by show(C.length:Int)<=1024;omega)]
  simp(disch:=omega)only[↓qXX]
  refine ai (clip_c _) ?_
  simp(disch:=omega)only[↓qXX]
  exact⟨by trivial,hfin2⟩)
 refine⟨_,_,C,hc,?_,⟨s1,λc=>?_⟩,by rw[qa3];exact hcl2⟩
 ·have:=ls_pre bF (cx:=C.length+1) hgf (k:=C.length) (by omega)
  rw[k3]at this
  exact this
 ·rw[s2,qaO (by rw[hDl];exact qan _)]
  exact(d1.map clF).mem_iff
def less_c(a b:Cl):Cc 95 (cll a++cll b) [.i (if ltL a b then 1 else 0)]:=by
 refine q95 rfl ?_;unfold f95;simp only[qxh]
 simp only[cll,qaI,qaG]
 simp(disch:=omega)only[↓qXX]
 have e3:(Int.ofNat a.2.2<Int.ofNat b.2.2)↔a.2.2<b.2.2:=Int.ofNat_lt
 by_cases h1:a.2.1<b.2.1
 ·rw[p_lss_t h1,if_pos (.inl h1)]
  simp(disch:=omega)only[↓qXX]
 rw[p_lss_f (by omega)]
 simp(disch:=omega)only[↓qXX]
 by_cases h2:a.2.1=b.2.1
 case neg=>
  rw[p_eql_f h2,if_neg (by unfold ltL;omega)]
  simp(disch:=omega)only[↓qXX]
 rw[p_eql_t h2]
 simp(disch:=omega)only[↓qXX]
 by_cases h3:a.1<b.1
 ·rw[p_lss_t h3,if_pos (.inr ⟨h2,.inl h3⟩)]
  simp(disch:=omega)only[↓qXX]
 rw[p_lss_f (by omega)]
 simp(disch:=omega)only[↓qXX]
 by_cases h4:a.1=b.1
 case neg=>
  rw[p_eql_f h4,if_neg (by unfold ltL;omega)]
  simp(disch:=omega)only[↓qXX]
 rw[p_eql_t h4]
 simp(disch:=omega)only[↓qXX]
 by_cases h5:a.2.2<b.2.2
 ·rw[p_lss_t (e3.2 h5),if_pos (.inr ⟨h2,.inr ⟨h4,h5⟩⟩)]
  simp(disch:=omega)only[↓qXX]
 ·rw[p_lss_f (by rw[←Int.not_lt];exact λq=>h5 (e3.1 q)),if_neg (by unfold ltL;omega)]
  simp(disch:=omega)only[↓qXX]
def rhas_c{h:HL}{x:Value}{L:List Cl}(hl:LsH h x 3 aD L)(hn:L.length<=100000)(c:Cl):aw cc ac 94 [.v x,.i c.1,.i c.2.1,.i (Int.ofNat c.2.2)] (absH aa h) [.i (if c∈L then 1 else 0)] (absH aa h):=by
 obtain⟨rs,h',h1,rfl,rfl⟩:=x94 (ls:=[.v x,.i c.1,.i c.2.1,.i (Int.ofNat c.2.2)]) (K:=λrs h'=>rs=[.i (if c∈L then 1 else 0)]/\h'=h) (H:=h) (glsV hl.good (glsI (glsI (glsI gls0)))) (by
  unfold f94;simp only[qxh]
  simp(disch:=omega)only[↓qXX]
  refine fq L.length (λj=>c∉L.take j) rfl (qaW _) (by simp) ?_
  intro j hj hno self hself
  simp(disch:=omega)only[↓qXX]
  refine bM hl ?_
  by_cases hlt:j<L.length
  ·rw[aS hlt]
   simp(disch:=omega)only[↓qXX]
   obtain⟨d,hd⟩:=bn hlt
   refine bi hl rfl hd ?_
   unfold aD
   simp(disch:=omega)only[↓qXX]
   rw[eqsC]
   by_cases hdc:d=c
   ·rw[decide_eq_true hdc]
    simp(disch:=omega)only[↓qXX]
    refine⟨?_,by trivial⟩
    rw[if_pos (hdc▸qag hd)]
   ·rw[decide_eq_false hdc]
    simp(disch:=omega)only[↓qXX]
    rw[ce (by omega)]
    refine hself hlt λhm=>?_
    rw[qa6,hd]at hm
    rcases qaH.1 hm with q|q
    ·exact hno q
    ·simp at q;exact hdc q.symm
  ·rw[aY (by omega)]
   simp(disch:=omega)only[↓qXX]
   obtain rfl:j=L.length:=by omega
   rw[qbh]at hno
   exact⟨by rw[if_neg hno],by trivial⟩)
 exact h1
def insF(c:Cl):List Cl->List Cl
 | []=>[c]
 |a :: l=>if ltL c a then c :: a :: l else a :: insF c l
def rm{c x:Cl}:∀ {l:List Cl},x∈insF c l↔x=c∨x∈l
 | []=>by simp[insF]
 |a :: l=>by
  unfold insF
  split
  ·simp
  ·rw[qak,rm,qak]
   constructor
   ·rintro(q|q|q)
    ·exact .inr (.inl q)
    ·exact .inl q
    ·exact .inr (.inr q)
   ·rintro(q|q|q)
    ·exact .inr (.inl q)
    ·exact .inl q
    ·exact .inr (.inr q)
def tB{c:Cl}:∀ {l:List Cl},c∉l->l.Pairwise ltL->(insF c l).Pairwise ltL
 | [],_,_=>qcn _ _
 |a :: l,hc,hl=>by
  rw[qba]at hl
  unfold insF
  split
  next h=>
   rw[qba]
   refine⟨λx hx=>?_,qba.2 hl⟩
   rcases qak.1 hx with q|q
   ·rw[q];exact h
   ·exact ltL_tr h (hl.1 x q)
  next h=>
   rw[qba]
   refine⟨λx hx=>?_,tB (λq=>hc (qao _ q)) hl.2⟩
   rcases rm.1 hx with q|q
   ·subst q
    rcases vl (a:=a) (b:=x)with q|q|q
    ·exact q
    ·exact absurd (q▸qax) hc
    ·exact absurd q h
   ·exact hl.1 x q
def wF{c:Cl}:∀ {l:List Cl},(insF c l).length=l.length+1
 | []=>rfl
 |a :: l=>by
  unfold insF
  split
  ·rfl
  ·rw[qaC,wF];rfl
def insF_step{c a:Cl}{l:List Cl}(h:¬ltL c a):insF c (a :: l)=a :: insF c l:=if_neg h
def insF_put{c a:Cl}{l:List Cl}(h:ltL c a):insF c (a :: l)=c :: a :: l:=if_pos h
def addC(c:Cl)(L:List Cl):List Cl:=if c∈L then L else insF c L
def size3{n:Nat}(h:n<=100000):bU (n+1) 24=true:=by
 unfold bU
 rw[qaa,qbb,qbb]
 omega
def radd_c{h:HL}{x:Value}{L:List Cl}(hl:LsH h x 3 aD L)(hn:L.length<=10000)(c:Cl) :
  ∃x' G,aw cc ac 57 [.v x,.i c.1,.i c.2.1,.i (Int.ofNat c.2.2)] (absH aa h) [.v x'] (absH aa (h++G))/\LsH (h++G) x' 3 aD (addC c L):=by
 have hh:=rhas_c hl (by omega) c
 obtain⟨rs,h',h1,x',rfl,⟨G,rfl⟩,h2⟩:=x57 (ls:=[.v x,.i c.1,.i c.2.1,.i (Int.ofNat c.2.2)]) (K:=λrs h'=>∃x',rs=[.v x']/\Pre h h'/\LsH h' x' 3 aD (addC c L)) (H:=h) (glsV hl.good (glsI (glsI (glsI gls0)))) (by
  unfold f57;simp only[qxh]
  simp(disch:=omega)only[↓qXX]
  refine ai hh ?_
  unfold addC
  by_cases hc:c∈L
  ·rw[if_pos hc,if_pos hc]
   simp(disch:=omega)only[↓qXX]
   exact⟨x,by trivial,Pre.refl _,hl⟩
  rw[if_neg hc,if_neg hc]
  simp(disch:=omega)only[↓qXX]
  refine bW (σ:=Value×HL×Int×List Cl) L.length (λj s=>[.v s.1,.i s.2.2.1,.i (Int.ofNat j)]) (λ_ s=>s.2.1) (λj s=>Pre h s.2.1/\MkL h.length s.2.1 s.1 3 aD s.2.2.2/\aP s.1=true/\s.2.2.2.length<=j+1/\((s.2.2.1=0/\s.2.2.2=L.take j/\insF c L=L.take j++insF c (L.drop j))∨(s.2.2.1=1/\insF c L=s.2.2.2++L.drop j))) (j0:=0) (s0:=(.slice none 0 0,h,0,[])) rfl rfl (qaW _) ⟨Pre.refl _,MkL.nil _ _ _ _,rfl,by simp,.inl ⟨rfl,by simp,by simp⟩⟩ ?_
  rintro j ⟨sv,sh,d,A⟩ hj ⟨hp,hm,hg,hA,hd⟩ self hself
  simp only at hp hm hg hA hd hself ⊢
  have hL:=hl.pre hp
  simp(disch:=omega)only[↓qXX]
  refine bM hL ?_
  by_cases hlt:j<L.length
  ·rw[aS hlt]
   simp(disch:=omega)only[↓qXX]
   obtain⟨a,ha⟩:=bn hlt
   have hdr:L.drop j=a :: L.drop (j+1):=by
    rw[qbm hlt]
    congr 1
    exact(qaQ.1 ha).2
   have htk:L.take (j+1)=L.take j++[a]:=by rw[qa6,ha];rfl
   have put:∀(sv2:Value) (sh2:HL) (d2:Int) (A2:List Cl),Pre h sh2->MkL h.length sh2 sv2 3 aD A2->A2.length<=j+1->((d2=0/\A2++[a]=L.take (j+1)/\insF c L=L.take (j+1)++insF c (L.drop (j+1)))∨(d2=1/\insF c L=(A2++[a])++L.drop (j+1)))->
     ∀(v':Value) (h':HL),Pre h h'->MkL h.length h' v' 3 aD (A2++[a])->aP v'=true->self [.v v',.i d2,.i (Int.ofNat j+1)] h':=λsv2 sh2 d2 A2 _ _ hA2 hd2 v' h' hp' hm' hg'=>by
    refine hself (v',h',d2,A2++[a]) hlt ⟨hp',hm',hg',?_,hd2⟩
    simp only[qay,qaC,qbi];omega
   rcases hd with⟨rfl,hA1,hA2⟩|⟨rfl,hA1⟩
   ·rw[p_eql_t rfl]
    simp(disch:=omega)only[↓qXX]
    refine bi hL rfl ha ?_
    unfold aD
    simp(disch:=omega)only[↓qXX]
    refine af (less_c c a) ?_
    by_cases hca:ltL c a
    ·rw[if_pos hca]
     simp(disch:=omega)only[↓qXX]
     refine jD (h0:=h) (a:=c) hp hm rfl rfl rfl rfl (size3 (by omega)) λv1 h1 hp1 hm1 hg1 _ _=>?_
     simp(disch:=omega)only[↓qXX]
     refine aH hg1 ?_
     refine bi (hl.pre hp1) rfl ha ?_
     unfold aD
     simp(disch:=omega)only[↓qXX]
     refine jD (h0:=h) (a:=a) hp1 hm1 rfl rfl rfl rfl (size3 (by rw[qay];simp only[qaC,qbi];omega)) λv2 h2 hp2 hm2 hg2 _ _=>?_
     simp(disch:=omega)only[↓qXX]
     refine aH hg2 ?_
     simp(disch:=omega)only[↓qXX]
     rw[ce (by omega)]
     refine hself (v2,h2,1,A++[c]++[a]) hlt ⟨hp2,hm2,hg2,?_,.inr ⟨rfl,?_⟩⟩
     ·simp only[qay,qaC,qbi,hA1,qaJ];omega
     ·rw[hA2,hdr,insF_put hca,hA1]
      simp
    ·rw[if_neg hca]
     simp(disch:=omega)only[↓qXX]
     refine bi hL rfl ha ?_
     unfold aD
     simp(disch:=omega)only[↓qXX]
     refine jD (h0:=h) (a:=a) hp hm rfl rfl rfl rfl (size3 (by omega)) λv2 h2 hp2 hm2 hg2 _ _=>?_
     simp(disch:=omega)only[↓qXX]
     refine aH hg2 ?_
     simp(disch:=omega)only[↓qXX]
     rw[ce (by omega)]
     refine put sv sh 0 A hp hm (by rw[hA1,qaJ];omega) (.inl ⟨rfl,by rw[htk,hA1],?_⟩) v2 h2 hp2 hm2 hg2
     rw[hA2,hdr,insF_step hca,htk]
     simp
   ·rw[p_eql_f (by decide)]
    simp(disch:=omega)only[↓qXX]
    refine bi hL rfl ha ?_
    unfold aD
    simp(disch:=omega)only[↓qXX]
    refine jD (h0:=h) (a:=a) hp hm rfl rfl rfl rfl (size3 (by omega)) λv2 h2 hp2 hm2 hg2 _ _=>?_
    simp(disch:=omega)only[↓qXX]
    refine aH hg2 ?_
    simp(disch:=omega)only[↓qXX]
    rw[ce (by omega)]
    refine hself (v2,h2,1,A++[a]) hlt ⟨hp2,hm2,hg2,by simp only[qay,qaC,qbi];omega,.inr ⟨rfl,by rw[hA1,hdr];simp⟩⟩
  ·rw[aY (by omega)]
   simp(disch:=omega)only[↓qXX]
   obtain rfl:j=L.length:=by omega
   rcases hd with⟨rfl,hA1,hA2⟩|⟨rfl,hA1⟩
   ·rw[p_eql_t rfl]
    simp(disch:=omega)only[↓qXX]
    refine jD (h0:=h) (a:=c) hp hm rfl rfl rfl rfl (size3 (by omega)) λv2 h2 hp2 hm2 hg2 _ _=>?_
    simp(disch:=omega)only[↓qXX]
    refine aH hg2 ?_
    simp(disch:=omega)only[↓qXX]
    refine⟨v2,by trivial,hp2,?_⟩
    rw[hA2,List.drop_length,qbh]
    rw[hA1,qbh]at hm2
    exact hm2.ls
   ·rw[p_eql_f (by decide)]
    simp(disch:=omega)only[↓qXX]
    rw[List.drop_length,qaX]at hA1
    exact⟨sv,by trivial,hp,by rw[hA1];exact hm.ls⟩)
 exact⟨x',G,h1,h2⟩
def addC_set{I R:List Cl}(h:qw I R)(c:Cl):qw (I++[c]) (addC c R):=by
 unfold addC
 by_cases hc:c∈R
 ·rw[if_pos hc]
  refine⟨h.1,λx=>?_⟩
  rw[h.2,qaH,qau]
  exact⟨.inl,λq=>q.elim id λe=>e▸(h.2 c).1 hc⟩
 ·rw[if_neg hc]
  refine⟨tB hc h.1,λx=>?_⟩
  rw[rm,h.2,qaH,qau]
  exact or_comm
def rof04_c{h:HL}{x:Value}{I:List Cl}(hl:LsH h x 3 aD I)(hn:I.length<=1000) :
  ∃x' G R,aw cc ac 29 [.v x] (absH aa h) [.v x'] (absH aa (h++G))/\LsH (h++G) x' 3 aD R/\qw I R/\R.length<=I.length:=by
 obtain⟨rs,h',h1,x',R,rfl,⟨G,rfl⟩,h2,h3,h4⟩:=x29 (K:=λrs h'=>∃x' R,rs=[.v x']/\Pre h h'/\LsH h' x' 3 aD R/\qw I R/\R.length<=I.length) (H:=h) (glsV hl.good gls0) (by
  unfold f29;simp only[qxh]
  simp(disch:=omega)only[↓qXX]
  refine bW (σ:=Value×HL×List Cl) I.length (λj s=>[.v s.1,.i (Int.ofNat j)]) (λ_ s=>s.2.1) (λj s=>Pre h s.2.1/\LsH s.2.1 s.1 3 aD s.2.2/\qw (I.take j) s.2.2/\s.2.2.length<=j) (j0:=0) (s0:=(.slice none 0 0,h,[])) rfl rfl (qaW _) ⟨Pre.refl _,LsH.nil _ _ _,⟨List.Pairwise.nil,by simp⟩,qan _⟩ ?_
  rintro j ⟨sv,sh,R⟩ hj ⟨hp,hR,hS,hRl⟩ self hself
  simp only at hp hR hS hRl hself ⊢
  have hL:=hl.pre hp
  simp(disch:=omega)only[↓qXX]
  refine bM hL ?_
  by_cases hlt:j<I.length
  ·rw[aS hlt]
   simp(disch:=omega)only[↓qXX]
   obtain⟨c,hc⟩:=bn hlt
   refine bi hL rfl hc ?_
   unfold aD
   simp(disch:=omega)only[↓qXX]
   obtain⟨x',G,c1,c2⟩:=radd_c hR (by omega) c
   refine ai c1 ?_
   simp(disch:=omega)only[↓qXX]
   rw[ce (by omega)]
   refine hself (x',sh++G,addC c R) hlt ⟨hp.app G,c2,?_,?_⟩
   ·have ht:I.take (j+1)=I.take j++[c]:=by rw[qa6,hc];rfl
    rw[ht]
    exact addC_set hS c
   ·simp only
    unfold addC
    split
    ·omega
    ·rw[wF];omega
  ·rw[aY (by omega)]
   simp(disch:=omega)only[↓qXX]
   obtain rfl:j=I.length:=by omega
   rw[qbh]at hS
   exact⟨sv,R,by trivial,hp,hR,hS,hRl⟩)
 exact⟨x',G,R,h1,h2,h3,h4⟩
def same_c{h:HL}{x y:Value}{D:List Cl}(hx:LsH h x 3 aD D)(hy:LsH h y 3 aD D)(hn:D.length<=100000):aw cc ac 28 [.v x,.v y] (absH aa h) [.b true] (absH aa h):=by
 obtain⟨rs,h',h1,rfl,e1⟩:=x56 (ls:=[.v x,.v y]) (K:=λrs h'=>rs=[.b true]/\h'=h) (H:=h) (glsV hx.good (glsV hy.good gls0)) (by
  unfold f56;simp only[qxh]
  simp(disch:=omega)only[↓qXX]
  refine bM hx ?_
  refine bM hy ?_
  rw[p_neq_f rfl]
  simp(disch:=omega)only[↓qXX]
  refine bM hx ?_
  refine fq D.length (λ_=>True) rfl (qaW _) trivial ?_
  intro j hj _ self hself
  simp(disch:=omega)only[↓qXX]
  by_cases hlt:j<D.length
  ·rw[aS hlt]
   simp(disch:=omega)only[↓qXX]
   obtain⟨c,hc⟩:=bn hlt
   refine bi hx rfl hc ?_
   unfold aD
   simp(disch:=omega)only[↓qXX]
   refine bi hy rfl hc ?_
   unfold aD
   simp(disch:=omega)only[↓qXX]
   try simp(disch:=omega)only[↓qXX,qaF]
   rw[ce (by omega)]
   exact hself hlt trivial
  ·rw[aY (by omega)]
   simp(disch:=omega)only[↓qXX]
   exact⟨by trivial,by trivial⟩)
 rw[e1]at h1
 obtain⟨rs,h',h2,rfl,rfl⟩:=x28 (K:=λrs h'=>rs=[.b true]/\h'=h) (H:=h) (glsV hx.good (glsV hy.good gls0)) (by
  unfold f28;simp only[qxh]
  simp(disch:=omega)only[↓qXX]
  refine ai h1 ?_
  simp(disch:=omega)only[↓qXX]
  exact⟨by trivial,by trivial⟩)
 exact h2
set_option maxHeartbeats 16000000
structure VP(w v:Nat)(l:List Crs)(x:Value)(H:HL):Prop where
 sh:Sh w v
 nd:(l.map dI).Nodup
 len:l.length<=1000
 kd:∀c∈l,1<=c.2.2/\c.2.2<=3
 ls:LsH H x 3 encC l
 ck:∀h',Pre H h'->aw cc ac 32 [.i (.ofNat w),.i (.ofNat v),.v x] (absH aa h') [.i 0] (absH aa h')
def VP.pre{w v:Nat}{l:List Crs}{x:Value}{H h:HL}(h1:VP w v l x H)(hp:Pre H h):VP w v l x h:=⟨h1.sh,h1.nd,h1.len,h1.kd,h1.ls.pre hp,λh' q=>h1.ck h' (hp.trans q)⟩
def ConsO.eq{w v:Nat}(hs:Sh w v){l:List Crs}{G G':Nat->Mv}(h:ConsO w v l G)(h':ConsO w v l G'):∀c,c<4*w*v->G c=G' c:=
 nQ hs (P:=λc=>G c=G' c) (by rw[h.z,h'.z]) λc e n hc he hn q=>by rw[h.g c e n hc he hn,h'.g c e n hc he hn,q]
def tY{w v:Nat}{G G':Nat->Mv}{r:Mv}(h:∀c,c<4*w*v->G c=G' c):plL w v G r=plL w v G' r/\imL w v G r=imL w v G' r:=by
 unfold plL imL
 exact⟨qbn λc hc=>by rw[h c (qad.1 hc)],qbn λc hc=>by rw[h c (qad.1 hc)]⟩
def hQ{w v:Nat}{G G':Nat->Mv}{r:Mv}(h:∀c,c<4*w*v->G c=G' c)(ha:allV w G r (4*w*v)):allV w G' r (4*w*v):=λc hc=>by rw[←h c hc];exact ha c hc
section
variable {w v:Nat} {l:List Crs} {x:Value} {H:HL}
abbrev argL(w v:Nat)(x:Value)(t a b:Int):List Lf:=[.i (.ofNat w),.i (.ofNat v),.v x,.i t,.i a,.i b]
def both_arg(hv:VP w v l x H){t a b:Int}(ht:0<=t/\t<=255)(hm:vMI t a b=false):BothC (argL w v x t a b) H dX dX 1 H:=by
 obtain⟨rs,h',hc,rfl,rfl⟩:=x42 (ls:=argL w v x t a b) (K:=λrs h'=>rs=[.v dX,.v dX,.i 1]/\h'=H) (H:=H) (glsI (glsI (glsV hv.ls.good (glsI (glsI (glsI gls0)))))) (by
  unfold f42;simp only[qxh]
  simp(disch:=omega)only[↓qXX]
  refine ai (hv.ck H (Pre.refl _)) ?_
  simp(disch:=omega)only[↓qXX]
  refine af (wQ ht) ?_
  rw[if_neg (by rw[hm];simp)]
  simp(disch:=omega)only[↓qXX]
  exact⟨by trivial,by trivial⟩)
 exact⟨hc,Pre.refl _,rfl,rfl⟩
def both_no(hv:VP w v l x H){r:Mv}(hr:okM 16384 r)(hno:¬ ∃G,gq w v l G/\G 0=idM):∃h1,BothC (argL w v x (.ofNat r.1) r.2.1 r.2.2) H dX dX 11 h1:=by
 obtain⟨rs,h1,hc,hp,⟨rfl,_⟩|⟨G,hG,_⟩⟩:=both_c hv.sh hv.nd hv.len hv.ls (hv.ck H (Pre.refl _)) hr
 ·exact⟨h1,hc,hp,rfl,rfl⟩
 ·exact absurd ⟨G,hG.g,hG.z⟩ hno
def both_lim(hv:VP w v l x H){r:Mv}(hr:okM 16384 r){G:Nat->Mv}(hG:ConsO w v l G)(hno:¬allV w G r (4*w*v)):∃h1,BothC (argL w v x (.ofNat r.1) r.2.1 r.2.2) H dX dX 3 h1:=by
 obtain⟨rs,h1,hc,hp,⟨rfl,hn⟩|⟨G',hG',⟨rfl,hn⟩|⟨lx,ix,rfl,ha,_⟩⟩⟩:=both_c hv.sh hv.nd hv.len hv.ls (hv.ck H (Pre.refl _)) hr
 ·exact absurd ⟨G,hG.g,hG.z⟩ hn
 ·exact⟨h1,hc,hp,rfl,rfl⟩
 ·exact absurd (hQ (hG'.eq hv.sh hG) ha) hno
def mQ(hv:VP w v l x H){r:Mv}(hr:okM 16384 r){G:Nat->Mv}(hG:ConsO w v l G)(ha:allV w G r (4*w*v)):∃lx ix h1,BothC (argL w v x (.ofNat r.1) r.2.1 r.2.2) H lx ix 0 h1/\Ful h1 lx 3 encM (plL w v G r)/\Ful h1 ix 3 aD (imL w v G r):=by
 obtain⟨rs,h1,hc,hp,⟨rfl,hn⟩|⟨G',hG',⟨rfl,hn⟩|⟨lx,ix,rfl,_,f1,f2⟩⟩⟩:=both_c hv.sh hv.nd hv.len hv.ls (hv.ck H (Pre.refl _)) hr
 ·exact absurd ⟨G,hG.g,hG.z⟩ hn
 ·exact absurd (hQ (hG.eq hv.sh hG') ha) hn
 ·obtain⟨e1,e2⟩:=tY (r:=r) (hG'.eq hv.sh hG)
  rw[e1]at f1
  rw[e2]at f2
  exact⟨lx,ix,h1,⟨hc,hp,(f1.ls bO).good,(f2.ls bF).good⟩,f1,f2⟩
def told_no(hv:VP w v l x H){r:Mv}(hr:okM 16384 r)(hno:¬ ∃G,gq w v l G/\G 0=idM):∃h1,aw cc ac 26 (argL w v x (.ofNat r.1) r.2.1 r.2.2) (absH aa H) [.v dX,.i 11] (absH aa h1)/\Pre H h1:=by
 obtain⟨rs,h1,hc,hp,⟨rfl,_⟩|⟨G,hG,_⟩⟩:=xR hv.sh hv.kd hv.len hv.ls hr
 ·exact⟨h1,hc,hp⟩
 ·exact absurd ⟨G,hG.g,hG.z⟩ hno
def told_lim(hv:VP w v l x H){r:Mv}(hr:okM 16384 r){G:Nat->Mv}(hG:ConsO w v l G)(hno:¬allV w G r (4*w*v)):∃h1,aw cc ac 26 (argL w v x (.ofNat r.1) r.2.1 r.2.2) (absH aa H) [.v dX,.i 3] (absH aa h1)/\Pre H h1:=by
 obtain⟨rs,h1,hc,hp,⟨rfl,hn⟩|⟨G',hG',⟨rfl,hn⟩|⟨ox,rfl,ha,_⟩⟩⟩:=xR hv.sh hv.kd hv.len hv.ls hr
 ·exact absurd ⟨G,hG.g,hG.z⟩ hn
 ·exact⟨h1,hc,hp⟩
 ·exact absurd (hQ (hG'.eq hv.sh hG) ha) hno
def told_ok(hv:VP w v l x H){r:Mv}(hr:okM 16384 r){G:Nat->Mv}(hG:ConsO w v l G)(ha:allV w G r (4*w*v)):∃ox h1,aw cc ac 26 (argL w v x (.ofNat r.1) r.2.1 r.2.2) (absH aa H) [.v ox,.i 0] (absH aa h1)/\Pre H h1/\Ful h1 ox 3 encM (plL w v G r):=by
 obtain⟨rs,h1,hc,hp,⟨rfl,hn⟩|⟨G',hG',⟨rfl,hn⟩|⟨ox,rfl,_,f1⟩⟩⟩:=xR hv.sh hv.kd hv.len hv.ls hr
 ·exact absurd ⟨G,hG.g,hG.z⟩ hn
 ·exact absurd (hQ (hG.eq hv.sh hG') ha) hn
 ·rw[(tY (r:=r) (hG'.eq hv.sh hG)).1]at f1
  exact⟨ox,h1,hc,hp,f1⟩
end
def uU{w v:Nat}{x:Value}{H:HL}(hx:aP x=true){t a b e:Int}(he:e≠0)(ht:∃h1,aw cc ac 26 (argL w v x t a b) (absH aa H) [.v dX,.i e] (absH aa h1)/\Pre H h1)
  (hb:∀h',Pre H h'->∃h1,BothC (argL w v x t a b) h' dX dX e h1):∃h',aw cc ac 7 (argL w v x t a b) (absH aa H) [.b true] (absH aa h')/\Pre H h':=by
 obtain⟨h1,c1,p1⟩:=ht
 obtain⟨h2,b2⟩:=hb h1 p1
 have p2:=p1.trans b2.p
 obtain⟨h3,b3⟩:=hb h2 p2
 have p3:=p2.trans b3.p
 obtain⟨h4,b4⟩:=hb h3 p3
 have p4:=p3.trans b4.p
 obtain⟨h5,b5⟩:=hb h4 p4
 have p5:=p4.trans b5.p
 obtain⟨h6,b6⟩:=hb h5 p5
 have p6:=p5.trans b6.p
 obtain⟨rs,h',hc,rfl,rfl⟩:=x7 (ls:=argL w v x t a b) (K:=λrs h'=>rs=[.b true]/\h'=h6) (H:=H) (glsI (glsI (glsV hx (glsI (glsI (glsI gls0)))))) (by
  unfold f7;simp only[qxh]
  simp(disch:=omega)only[↓qXX]
  refine ai c1 ?_
  simp(disch:=omega)only[↓qXX]
  refine ai (xj hx b2) ?_
  simp(disch:=omega)only[↓qXX]
  refine ai (ik hx b3) ?_
  simp(disch:=omega)only[↓qXX]
  refine ai (up_e hx b4 he) ?_
  simp(disch:=omega)only[↓qXX]
  refine ai (sil_e hx b5 he) ?_
  simp(disch:=omega)only[↓qXX]
  refine ai (dep_e hx b6 he) ?_
  simp(disch:=omega)only[↓qXX]
  refine am (x:=(0:Int)) rfl ?_
  refine am (x:=(0:Int)) rfl ?_
  simp(disch:=omega)only[↓qXX]
  refine am (x:=(0:Int)) rfl ?_
  simp(disch:=omega)only[↓qXX]
  refine am (x:=(0:Int)) rfl ?_
  simp(disch:=omega)only[↓qXX]
  exact⟨by trivial,by trivial⟩)
 exact⟨_,hc,p6⟩
def MaxP(I:List Cl)(n m:Nat):Prop:=(∀(i:Nat) c,i<n->I[i]?=some c->I.count c<=m)/\(m=0∨∃k∈I,I.count k=m)
def MaxP.step{I:List Cl}{n m:Nat}{c:Cl}(h:MaxP I n m)(hc:I[n]?=some c):MaxP I (n+1) (max m (I.count c)):=by
 refine⟨λi d hi hd=>?_,?_⟩
 ·by_cases e:i=n
  ·subst e
   rw[hc]at hd
   cases hd
   omega
  ·have:=h.1 i d (by omega) hd
   omega
 ·by_cases hm:m<=I.count c
  ·exact .inr ⟨c,qag hc,by omega⟩
  ·rcases h.2 with q|⟨k,hk,hkm⟩
   ·omega
   ·exact .inr ⟨k,hk,by omega⟩
def MaxP.max{I:List Cl}{m:Nat}(h:MaxP I I.length m):MaxC I m:=by
 refine⟨λk=>?_,h.2⟩
 by_cases hk:k∈I
 ·obtain⟨i,hi⟩:=qaY hk
  exact h.1 i k (be hi) hi
 ·rw[List.count_eq_zero.2 hk];omega
def p_max{m c:Nat}{K:Int->Prop}:P1.cmp .lss (Int.ofNat m) (Int.ofNat c) (@hid _ ⟨λt=>P1.sel t (Int.ofNat c) (Int.ofNat m) (@hid _ ⟨K⟩)⟩)=K (Int.ofNat (max m c)):=by
 by_cases h:m<c
 ·rw[aS h,p_sel_t,Nat.max_eq_right (by omega)]
 ·rw[aY (by omega),p_sel_f,Nat.max_eq_left (by omega)]
def ckd_ok{w v:Nat}{l:List Crs}{x:Value}{H:HL}(hv:VP w v l x H){r:Mv}(hr:okM 16384 r){G:Nat->Mv}(hG:ConsO w v l G)(ha:allV w G r (4*w*v)) :
  ∃h',aw cc ac 7 (argL w v x (.ofNat r.1) r.2.1 r.2.2) (absH aa H) [.b true] (absH aa h')/\Pre H h':=by
 have hx:=hv.ls.good
 have hN:=sh_N hv.sh
 have hA:(plL w v G r).length=4*w*v:=by simp[plL]
 have hI:(imL w v G r).length=4*w*v:=by simp[imL]
 have okA:∀m∈plL w v G r,okM 16384 m:=λm hm=>by
  unfold plL at hm
  obtain⟨c,hc,rfl⟩:=qaM.1 hm
  have hc:=qad.1 hc
  exact vMv_ok (dA (hG.ok c hc) hr) (ha c hc).1
 have okI:∀c∈imL w v G r,okCl c:=λc hc=>by
  unfold imL at hc
  obtain⟨i,hi,rfl⟩:=qaM.1 hc
  have hi:=qad.1 hi
  exact⟨(ha i hi).2,(jA (dA (hG.ok i hi) hr) (c:=clN w i) (k:=1000) (by have:=qI hv.sh hi;omega)).2.2.2.2⟩
 obtain⟨ox,h1,c1,p1,f1⟩:=told_ok hv hr hG ha
 obtain⟨l2,i2,h2,b2,f2,_⟩:=mQ (hv.pre p1) hr hG ha
 have p2:=p1.trans b2.p
 obtain⟨l3,i3,h3,b3,_,f3⟩:=mQ (hv.pre p2) hr hG ha
 have p3:=p2.trans b3.p
 obtain⟨l4,i4,h4,b4,f4,_⟩:=mQ (hv.pre p3) hr hG ha
 obtain⟨u4,G4,c4,fu4⟩:=up_c hx b4 f4 okA (by rw[hA];omega)
 have p4:=(p3.trans b4.p).app G4
 obtain⟨l5,i5,h5,b5,_,f5⟩:=mQ (hv.pre p4) hr hG ha
 obtain⟨d5,G5,D,c5,s5,hD,hDl⟩:=sof_c f5 okI (by rw[hI];omega) (by rw[hI];omega)
 have p5:=(p4.trans b5.p).app G5
 obtain⟨l6,i6,h6,b6,_,f6⟩:=mQ (hv.pre p5) hr hG ha
 obtain⟨dm,G6,hdm,c6⟩:=dep_c hx b6 f6 (by rw[hI];omega)
 have p6:=(p5.trans b6.p).app G6
 have q12:Pre h1 h2:=b2.p
 have q23:Pre h2 h3:=b3.p
 have q34:Pre h3 (h4++G4):=b4.p.app G4
 have q45:Pre (h4++G4) (h5++G5):=b5.p.app G5
 have q56:Pre (h5++G5) (h6++G6):=b6.p.app G6
 have f1:=f1.pre (q12.trans (q23.trans (q34.trans (q45.trans q56))))
 have f2:=f2.pre (q23.trans (q34.trans (q45.trans q56)))
 have f3:=f3.pre (q34.trans (q45.trans q56))
 have fu4:=fu4.pre (q45.trans q56)
 have s5:=s5.pre q56
 obtain⟨i7,K7,c7,s7⟩:=uk hv.sh hx hG.ok hr (f1.ls bO)
 have hD5:aw cc ac 22 (argL w v x (.ofNat r.1) r.2.1 r.2.2) (absH aa (h4++G4)) [.v d5,.i 0] (absH aa (h5++G5)):=by
  have hi:=ik hx b5
  obtain⟨rs,h',hc,rfl,rfl⟩:=x22 (ls:=argL w v x (.ofNat r.1) r.2.1 r.2.2) (K:=λrs h'=>rs=[.v d5,.i 0]/\h'=h5++G5) (H:=h4++G4) (glsI (glsI (glsV hx (glsI (glsI (glsI gls0)))))) (by
   unfold f22;simp only[qxh]
   simp(disch:=omega)only[↓qXX]
   refine ai hi ?_
   simp(disch:=omega)only[↓qXX]
   refine ai c5 ?_
   simp(disch:=omega)only[↓qXX]
   exact⟨by trivial,by trivial⟩)
  exact hc
 obtain⟨rx,K8,R,c8,s8,hR,hRl⟩:=rof04_c s7 (by rw[hI];omega)
 have hDR:D=R:=qw.eq (I:=imL w v G r) hD.1 hR.1 λc=>by rw[hD.2,hR.2]
 subst hDR
 have s5:=(s5.pre (h':=h6++G6++K7) ⟨_,rfl⟩).pre (h':=h6++G6++K7++K8) ⟨_,rfl⟩
 have c9:=same_c s5 s8 (by omega)
 have f1:=(f1.pre (h':=h6++G6++K7) ⟨_,rfl⟩).pre (h':=h6++G6++K7++K8) ⟨_,rfl⟩
 have f2:=(f2.pre (h':=h6++G6++K7) ⟨_,rfl⟩).pre (h':=h6++G6++K7++K8) ⟨_,rfl⟩
 have f3:=(f3.pre (h':=h6++G6++K7) ⟨_,rfl⟩).pre (h':=h6++G6++K7++K8) ⟨_,rfl⟩
 have fu4:=(fu4.pre (h':=h6++G6++K7) ⟨_,rfl⟩).pre (h':=h6++G6++K7++K8) ⟨_,rfl⟩
 have s7:=s7.pre (h':=h6++G6++K7++K8) ⟨_,rfl⟩
 have p9:Pre H (h6++G6++K7++K8):=(p6.app K7).app K8
 have L1:=f1.ls bO
 have L2:=f2.ls bO
 have L3:=f3.ls bF
 have L4:=fu4.ls ie
 obtain⟨rs,h',hc,rfl,hp⟩:=x7 (ls:=argL w v x (.ofNat r.1) r.2.1 r.2.2) (K:=λrs h'=>rs=[.b true]/\Pre H h') (H:=H) (glsI (glsI (glsV hx (glsI (glsI (glsI gls0)))))) (by
  unfold f7;simp only[qxh]
  simp(disch:=omega)only[↓qXX]
  refine ai c1 ?_
  simp(disch:=omega)only[↓qXX]
  refine ai (xj hx b2) ?_
  simp(disch:=omega)only[↓qXX]
  refine ai (ik hx b3) ?_
  simp(disch:=omega)only[↓qXX]
  refine ai c4 ?_
  simp(disch:=omega)only[↓qXX]
  refine ai hD5 ?_
  simp(disch:=omega)only[↓qXX]
  refine ai c6 ?_
  simp(disch:=omega)only[↓qXX]
  refine ai c7 ?_
  simp(disch:=omega)only[↓qXX]
  refine bM L2 ?_
  refine bM L1 ?_
  simp(disch:=omega)only[↓qXX]
  refine bM L3 ?_
  refine bM L1 ?_
  rw[hI,hA]
  simp(disch:=omega)only[↓qXX]
  refine bM L4 ?_
  refine bM L1 ?_
  rw[qa3,hA]
  simp(disch:=omega)only[↓qXX]
  refine am f2.cap ?_
  refine bM L2 ?_
  simp(disch:=omega)only[↓qXX]
  refine am f3.cap ?_
  refine bM L3 ?_
  simp(disch:=omega)only[↓qXX]
  refine am fu4.cap ?_
  refine bM L4 ?_
  simp(disch:=omega)only[↓qXX]
  refine ai c8 ?_
  simp(disch:=omega)only[↓qXX]
  refine ai c9 ?_
  simp(disch:=omega)only[↓qXX,qaF]
  generalize h6++G6++K7++K8=h9 at *
  refine bW (σ:=Nat) (4*w*v) (λj s=>[.i (Int.ofNat s),.i (Int.ofNat j)]) (λ_ _=>h9) (λj s=>MaxP (imL w v G r) j s/\s<=4*w*v) (j0:=0) (s0:=0) rfl rfl (qaW _) ⟨⟨λi c q=>absurd q (qca _),.inl rfl⟩,qaW _⟩ ?_
  rintro j m hj ⟨hm,hml⟩ self hself
  simp(disch:=omega)only[↓qXX]
  refine bM L1 ?_
  rw[hA]
  by_cases hlt:j<4*w*v
  ·rw[aS hlt]
   simp(disch:=omega)only[↓qXX]
   have hij:=nE (G:=G) (r:=r) hlt
   have hpj:=og (G:=G) (r:=r) hlt
   generalize hci:bQ (aZ (G j) r) (clN w j)=ci at *
   generalize hmj:aZ (G j) r=mj at *
   refine bW (σ:=Unit) (4*w*v) (λz _=>[.i (Int.ofNat (((imL w v G r).take z).count ci)),.i (Int.ofNat z)]) (λ_ _=>h9) (λ_ _=>True) (j0:=0) (s0:=()) (by simp) rfl (qaW _) trivial ?_
   rintro z _ hz _ self2 hself2
   simp(disch:=omega)only[↓qXX]
   refine bM L1 ?_
   rw[hA]
   have hcb:((imL w v G r).take z).count ci<=z:=qbw List.count_le_length (by rw[qaJ];omega)
   by_cases hltz:z<4*w*v
   ·rw[aS hltz]
    simp(disch:=omega)only[↓qXX]
    have hiz:=nE (G:=G) (r:=r) hltz
    generalize bQ (aZ (G z) r) (clN w z)=cz at *
    refine bi s7 rfl hiz ?_
    unfold aD
    simp(disch:=omega)only[↓qXX]
    refine bi s7 rfl hij ?_
    unfold aD
    simp(disch:=omega)only[↓qXX]
    rw[eqsC]
    have ht:(imL w v G r).take (z+1)=(imL w v G r).take z++[cz]:=by rw[qa6,hiz];rfl
    have hs2:=hself2 () hltz trivial
    rw[ht,qdl,qc5]at hs2
    by_cases hcc:cz=ci
    ·rw[decide_eq_true hcc]
     simp(disch:=omega)only[↓qXX]
     rw[ce (by omega)]
     simp(disch:=omega)only[↓qXX]
     rw[ce (by omega)]
     rw[if_pos (by simpa using hcc)]at hs2
     exact hs2
    ·rw[decide_eq_false hcc]
     simp(disch:=omega)only[↓qXX]
     rw[ce (by omega)]
     rw[if_neg (by simpa using hcc)]at hs2
     exact hs2
   ·rw[aY (by omega)]
    simp(disch:=omega)only[↓qXX]
    obtain rfl:z=4*w*v:=by omega
    rw[qaO (by rw[hI];exact qan _)]at hcb ⊢
    have fin:self [.i (Int.ofNat (max m ((imL w v G r).count ci))),.i (Int.ofNat j+1)] h9:=hself (max m ((imL w v G r).count ci)) hlt ⟨hm.step hij,by omega⟩
    rw[p_max]
    try simp(disch:=omega)only[↓qXX]
    refine bi L2 rfl hpj ?_
    unfold encM
    simp(disch:=omega)only[↓qXX]
    refine bi L1 rfl hpj ?_
    unfold encM
    simp(disch:=omega)only[↓qXX,qaF]
    refine bi L3 rfl hij ?_
    unfold aD
    simp(disch:=omega)only[↓qXX]
    refine bi s7 rfl hij ?_
    unfold aD
    simp(disch:=omega)only[↓qXX,qaF]
    refine bi L4 (a:=upB mj) rfl (by rw[qat,hpj];rfl) ?_
    unfold encT
    simp(disch:=omega)only[↓qXX]
    refine iC (o:=0) (k:=1) (cs:=[.int .u8 (.ofNat mj.1)]) L1 rfl hpj rfl (by omega) ?_
    simp(disch:=omega)only[↓qXX]
    have e4:upB mj=decide (Int.ofNat mj.1<4):=by
     unfold upB
     rw[decide_eq_decide]
     show _↔(mj.1:Int)<4
     omega
    by_cases h4:Int.ofNat mj.1<4
    ·rw[p_lss_t h4,e4,decide_eq_true h4,p_eqsb_t rfl,p_eqs0,qaF,p_cond_f]
     rw[ce (by omega)]
     exact fin
    ·rw[p_lss_f (by omega),e4,decide_eq_false h4,p_eqsb_t rfl,p_eqs0,qaF,p_cond_f]
     rw[ce (by omega)]
     exact fin
  ·rw[aY (by omega)]
   simp(disch:=omega)only[↓qXX]
   obtain rfl:j=4*w*v:=by omega
   have hmm:MaxC (imL w v G r) m:=MaxP.max (by rw[hI];exact hm)
   have:=hdm.eq hmm
   subst this
   rw[p_eql_t rfl]
   simp(disch:=omega)only[↓qXX]
   exact⟨by trivial,p9⟩)
 exact⟨h',hc,hp⟩
set_option maxHeartbeats 4000000
def lives10:∀H,aw cc ac 10 [] H [.b true] H:=fC (n:=60) rfl (by kernel_rfl) rfl (by kernel_rfl)
set_option maxHeartbeats 8000000
def checked_c{w v:Nat}{l:List Crs}{x:Value}{H:HL}(hv:VP w v l x H){t a b:Int}(ht:0<=t/\t<=255) :
  ∃h',aw cc ac 7 (argL w v x t a b) (absH aa H) [.b true] (absH aa h')/\Pre H h':=by
 cases hm:vMI t a b with
 |false=>exact uU hv.ls.good (by decide) ⟨H,told_arg hv.ls.good hm,Pre.refl _⟩ λh' hp=>⟨h',both_arg (hv.pre hp) ht hm⟩
 |true=>
  unfold vMI at hm
  rw[decide_eq_true_eq]at hm
  obtain⟨n,rfl⟩:=qbS ht.1
  have hr:okM 16384 (n,a,b):=⟨by show n<8;omega,hm.2.1.1,hm.2.1.2,hm.2.2.1.1,hm.2.2.1.2,hm.2.2.2⟩
  obtain⟨_,_,_,_,⟨_,hno⟩|⟨G,hG,⟨_,hno⟩|⟨_,_,ha,_⟩⟩⟩:=xR hv.sh hv.kd hv.len hv.ls hr
  ·exact uU hv.ls.good (by decide) (told_no hv hr hno) λh' hp=>both_no (hv.pre hp) hr hno
  ·exact uU hv.ls.good (by decide) (told_lim hv hr hG hno) λh' hp=>both_lim (hv.pre hp) hr hG hno
  ·exact ckd_ok hv hr hG ha
def ErrC(w v:Int)(s:Value)(e:Int)(h:HL):Prop:=aP s=true/\∀h',Pre h h'->aw cc ac 32 [.i w,.i v,.v s] (absH aa h') [.i e] (absH aa h')
def ErrC.pre{w v:Int}{s:Value}{e:Int}{h h':HL}(hc:ErrC w v s e h)(hp:Pre h h'):ErrC w v s e h':=⟨hc.1,λh2 hp2=>hc.2 h2 (hp.trans hp2)⟩
section
variable {w v e:Int} {s:Value} {h:HL} (he:e≠0) (hc:ErrC w v s e h)
include he hc
end
def of_c{a b:Int}(ha:0<=a/\a<=255)(hb:0<=b/\b<=255){w v:Nat}(hw:Int.ofNat w=1+a%4)(hv:Int.ofNat v=1+b%4){H:HL}{kx:Value}{ks:List Int}(hk:LsH H kx 1 enc8 ks)(hr:∀k∈ks,0<=k/\k<=255) :
  ∃G rx,aw cc ac 6 [.i a,.i b,.v kx] (absH aa H) [.i (.ofNat w),.i (.ofNat v),.v rx] (absH aa (H++G))/\LsH (H++G) rx 3 encC (patL (aF w v) (kinL (6*w*v) ks)):=by
 have hw':(w:Int)=1+a%4:=hw
 have hv':(v:Int)=1+b%4:=hv
 obtain⟨rs,h',hc,rx,e1,⟨G,rfl⟩,hrx⟩:=x6 (ls:=[.i a,.i b,.v kx]) (K:=λrs h'=>∃rx,rs=[.i (.ofNat w),.i (.ofNat v),.v rx]/\Pre H h'/\LsH h' rx 3 encC (patL (aF w v) (kinL (6*w*v) ks))) (H:=H) (glsI (glsI (glsV hk.good gls0))) (by
  unfold f6;simp only[qxh]
  simp(disch:=omega)only[↓qXX]
  rw[←hw,←hv]
  have hm:=wS (w:=6*(w:Int)) (v:=(v:Int)) (a:=24) (b:=4) (by omega)
  have e6:6*Int.ofNat w=Int.ofNat (6*w):=by simp
  have e7:Int.ofNat (6*w)*Int.ofNat v=Int.ofNat (6*w*v):=by simp
  have hN:6*w*v<=96:=by
   have:((6*w*v:Nat):Int)<=96:=by
    simp only[qdb]
    exact hm.2
   omega
  rw[e6,p_mul (by rw[e7];show(-9223372036854775808:Int)<=((6*w*v:Nat):Int);omega) (by rw[e7];show((6*w*v:Nat):Int)<=9223372036854775807;omega),e7]
  refine am (fj (by omega)) ?_
  simp(disch:=omega)only[↓qXX]
  show P1.loop _ _ (H++[HO.o (.cells (aM _ (6*w*v)) 1 true)])
  rw[tS (v:=[.int .u8 0]) (enc:=enc8) (z:=0) rfl]
  obtain⟨G2,rx,hcW,hrx⟩:=with_c (w:=w) (v:=v) (by omega) (by omega) (by omega) (by omega) (newE_ls (h:=H) (cx:=6*w*v+1) mg (l:=kinL (6*w*v) ks) (n:=6*w*v) (fS _ _).symm) (by rw[fS];omega)
  refine bW (6*w*v) (λj (_:Unit)=>[.i (Int.ofNat j)]) (λj _=>newE H 1 enc8 (iy 0 (kinL (6*w*v) ks) j)) (λ_ _=>True) (j0:=0) (s0:=()) rfl (by rw[fillZ_0,fS]) (qaW _) trivial ?_
  intro j _ hj _ self hself
  simp(disch:=omega)only[↓qXX]
  refine am (x:=Int.ofNat (6*w*v)) rfl ?_
  have hK:=hk.pre (mt H 1 enc8 (iy 0 (kinL (6*w*v) ks) j))
  have hfl:=ns (z:=(0:Int)) (A:=kinL (6*w*v) ks) (k:=j) (by rw[fS];omega)
  rw[fS]at hfl
  by_cases hlt:j<6*w*v
  ·rw[aS hlt]
   simp(disch:=omega)only[↓qXX]
   refine bM hK ?_
   by_cases hlk:j<ks.length
   ·rw[aS hlk]
    simp(disch:=omega)only[↓qXX]
    obtain⟨k,hkk⟩:=bn hlk
    have hkr:=hr k (qag hkk)
    refine bi hK rfl hkk ?_
    unfold enc8
    simp(disch:=omega)only[↓qXX]
    refine r_setN (enc:=enc8) mg (a:=k%4) rfl (by omega) hfl rfl ?_
    rw[ce (by omega),tb (by rw[wL hlt,List.getD_eq_getElem?_getD,hkk];rfl)]
    exact hself () hlt trivial
   ·rw[aY (by omega)]
    simp(disch:=omega)only[↓qXX]
    rw[yn λi a hi hia=>by
     have hiN:=be hia
     rw[fS]at hiN
     rw[wL hiN,List.getD_eq_getElem?_getD,qah (by omega)]at hia
     exact(qap hia).symm]
    refine ai hcW ?_
    simp(disch:=omega)only[↓qXX]
    exact⟨rx,by trivial,(mt _ _ _ _).trans ⟨_,rfl⟩,hrx.ls⟩
  ·obtain rfl:j=6*w*v:=by omega
   rw[aY (qan _)]
   simp(disch:=omega)only[↓qXX]
   have:=ta (z:=(0:Int)) (A:=kinL (6*w*v) ks)
   rw[fS]at this
   rw[this]
   refine ai hcW ?_
   simp(disch:=omega)only[↓qXX]
   exact⟨rx,by trivial,(mt _ _ _ _).trans ⟨_,rfl⟩,hrx.ls⟩)
 rw[e1]at hc
 exact⟨G,rx,hc,hrx⟩
def PatF.vp{w v:Nat}(hs:Sh4 w v){l:List Crs}(hP:PatF w v l){H:HL}{x:Value}(hl:LsH H x 3 encC l):VP w v l x H:=
 ⟨hs.sh,yw hP.pair,by have:=hP.len;omega,hP.kd,hl,λh' hp=>hP.pat.check (hl.pre hp)⟩
def xS{w v:Nat}(hs:Sh4 w v){l:List Crs}(hk:∀c∈l,1<=c.2.2/\c.2.2<=3):opnL l w v=none↔∃G,gq w v l G/\G 0=idM:=by
 unfold opnL
 rw[qcG]
 constructor
 ·intro h
  refine oR hs hk λx y hc=>?_
  have hm:(x,y)∈corL w v:=by
   have h3:=hc
   unfold du at h3
   simp only[qaa,qaK]at h3
   unfold corL
   refine qbd.2 ⟨y,qad.2 (by omega),qa4.2 ⟨x,qad.2 (by omega),?_⟩⟩
   rw[if_pos hc]
  have:=h _ hm
  unfold opnC at this
  simpa using this
 ·rintro⟨G,hG,h0⟩ p hp
  have h8:∀c,c<4*w*v->(G c).1<8:=nQ hs.sh (P:=λc=>(G c).1<8) (by rw[h0];exact qdt _) λc e n hc he hn h=>by rw[hG c e n hc he hn];exact acM_lt h
  have:=close_of hs (qK hp) hk hG h0 h8
  unfold opnC
  rw[this]
  simp
def rJ{a b t p q:Int}(ha:0<=a/\a<=255)(hb:0<=b/\b<=255)(ht:0<=t/\t<=255){H:HL}{kx:Value}{ks:List Int}(hk:LsH H kx 1 enc8 ks)(hr:∀k∈ks,0<=k/\k<=255) :
  ∃h',aw cc ac 3 [.i a,.i b,.v kx,.i t,.i p,.i q] (absH aa H) [.b true] (absH aa h'):=by
 obtain⟨w,hw⟩ : ∃w:Nat,Int.ofNat w=1+a%4:=⟨(1+a%4).toNat,Int.toNat_of_nonneg (by omega)⟩
 obtain⟨v,hv⟩ : ∃v:Nat,Int.ofNat v=1+b%4:=⟨(1+b%4).toNat,Int.toNat_of_nonneg (by omega)⟩
 have hs:Sh4 w v:=by
  have hw':(w:Int)=1+a%4:=hw
  have hv':(v:Int)=1+b%4:=hv
  unfold Sh4
  omega
 obtain⟨G1,rx,c1,hl⟩:=of_c ha hb hw hv hk hr
 have hP:=patF_of hs (ks:=kinL (6*w*v) ks) λk hk=>kinL_rng hk
 generalize patL (aF w v) (kinL (6*w*v) ks)=l at *
 obtain⟨h2,c2,p2⟩:=checked_c (hP.vp hs hl) (a:=p) (b:=q) ht
 have hl2:=hl.pre p2
 obtain⟨rs,h3,c3,p3,hR⟩:=um hs.sh hP.kd (by have:=hP.len;omega) hl2 (r:=idM) (by simp[okM,idM])
 have hl3:=hl2.pre p3
 obtain⟨G4,c4⟩:=open_c hs hP hl3
 have c3:aw cc ac 8 [.i (.ofNat w),.i (.ofNat v),.v rx,.i 0,.i 0,.i 0] (absH aa h2) rs (absH aa h3):=c3
 obtain⟨rs',h',h5,rfl⟩:=x3 (ls:=[.i a,.i b,.v kx,.i t,.i p,.i q]) (K:=λrs h'=>rs=[.b true]) (H:=H) (glsI (glsI (glsV hk.good (glsI (glsI (glsI gls0)))))) (by
  unfold f3;simp only[qxh]
  simp(disch:=omega)only[↓qXX]
  refine ai c1 ?_
  simp(disch:=omega)only[↓qXX]
  refine ai c2 ?_
  simp(disch:=omega)only[↓qXX,qaF]
  refine ai c3 ?_
  rcases hR with⟨rfl,hno⟩|⟨G,hG,ox,rfl,_⟩
  ·have ho:opnL l w v≠none:=λh=>hno ((xS hs hP.kd).1 h)
   simp(disch:=omega)only[↓qXX]
   cases hq:opnL l w v with
   |none=>exact absurd hq ho
   |some z=>
    rw[hq]at c4
    refine ai c4 ?_
    simp(disch:=omega)only[↓qXX]
    rw[p_eqsb_t rfl]
    simp(disch:=omega)only[↓qXX]
    refine ai (lives10 _) ?_
    simp(disch:=omega)only[↓qXX]
  ·have ho:opnL l w v=none:=(xS hs hP.kd).2 ⟨G,hG.g,hG.z⟩
   simp(disch:=omega)only[↓qXX]
   rw[ho]at c4
   refine ai c4 ?_
   simp(disch:=omega)only[↓qXX]
   rw[p_eqsb_t rfl]
   simp(disch:=omega)only[↓qXX]
   refine ai (lives10 _) ?_
   simp(disch:=omega)only[↓qXX])
 exact⟨h',h5⟩
end Go.Am
set_option maxRecDepth 100000
namespace Go.Am
namespace Sx
def sK{α:Type}{ks:List LK}{enc:α->List Value}{ok:α->Prop}(dec:∀cs,FitC ks cs->∃a,enc a=cs/\ok a):∀(n:Nat) (cells:List Value),cells.length=n*ks.length->(∀i,i<n->FitC ks ((cells.drop (i*ks.length)).take ks.length))->∃l:List α,l.length=n/\l.flatMap enc=cells/\∀a∈l,ok a
 |0,cells,hl,_=>⟨[],rfl,by
   simp only[qbG,qbf]at hl
   rw[hl];rfl,λ_ h=>by cases h⟩
 |n+1,cells,hl,hf=>by
  obtain⟨a,h1,h2⟩:=dec _ (by have:=hf 0 (by omega);rw[qbG,qbg]at this;exact this)
  obtain⟨l,h3,h4,h5⟩:=sK dec n (cells.drop ks.length) (by rw[qbv,hl,qbx];omega) (λi hi=>by
   have:=hf (i+1) (by omega)
   rw[qbY]
   rw[qbx,qcs,Nat.add_comm]at this
   exact this)
  refine⟨a :: l,by simp[h3],?_,λb hb=>?_⟩
  ·rw[qbC,h1,h4,qbt]
  ·rcases qak.1 hb with rfl|hb
   ·exact h2
   ·exact h5 b hb
def ls_of{α:Type}{ks:List LK}{enc:α->List Value}{ok:α->Prop}(hlen:∀a,(enc a).length=ks.length)(dec:∀cs,FitC ks cs->∃a,enc a=cs/\ok a){h:HL}{x:Value}{n:Nat}{cells:List Value}(hs:SlC h x ks.length n cells)(hf:∀i,i<n->FitC ks ((cells.drop (i*ks.length)).take ks.length)) :
  ∃l:List α,LsH h x ks.length enc l/\l.length=n/\∀a∈l,ok a:=by
 obtain⟨l,h1,h2,h3⟩:=sK dec n cells hs.1 hf
 refine⟨l,⟨λa _=>hlen a,?_⟩,h1,h3⟩
 rw[h1,h2];exact hs
def bm.i{h:HL}{k:IntKind}{ks:List CK2}{ls:List Lf}(hf:bm h (.i k :: ks) ls):∃n r,ls = .i n :: r/\(Lit.int k n).wf=true/\bm h ks r:=by
 match ls,hf with
 | .i n :: r,hf=>exact⟨n,r,rfl,hf.1,hf.2⟩
def bm.b{h:HL}{ks:List CK2}{ls:List Lf}(hf:bm h (.b :: ks) ls):∃n r,ls = .b n :: r/\bm h ks r:=by
 match ls,hf with
 | .b n :: r,hf=>exact⟨n,r,rfl,hf⟩
def bm.s{h:HL}{es:List LK}{ks:List CK2}{ls:List Lf}(hf:bm h (.s es :: ks) ls):∃x r n cells,ls = .v x :: r/\SlC h x es.length n cells/\n<=maxLen/\(∀i,i<n->FitC es ((cells.drop (i*es.length)).take es.length))/\bm h ks r:=by
 match ls,hf with
 | .v x :: r,⟨⟨n,cells,h1,h2,h3⟩,h4⟩=>exact⟨x,r,n,cells,rfl,h1,h2,h3,h4⟩
def bm.nil{h:HL}{ls:List Lf}(hf:bm h [] ls):ls=[]:=by
 match ls,hf with
 | [],_=>rfl
def hp_at(bl:List Blk2):HpAt (bl.map λb=>HO.o b.1) 0 bl:=λi b hb=>by
 rw[qaL,qat,hb];rfl
def absH_bl(T:Nat->Site)(bl:List Blk2):absH T (bl.map λb=>HO.o b.1)=bl.map (·.1):=by
 induction bl with
 |nil=>rfl
 |cons b l ih=>show absO T (.o b.1) :: absH T (l.map λb=>HO.o b.1)=_;rw[ih];rfl
end Sx
end Go.Am
set_option maxRecDepth 100000
namespace Go.Am
open Sx Go.Proofs
def dec8(cs:List Value)(h:FitC [.i .u8] cs):∃a:Int,enc8 a=cs/\(0<=a/\a<=255):=by
 obtain⟨v1,rfl⟩ : ∃v1,cs=[v1]:=by
  have hl:=FitC.len h
  match cs,hl with
  | [v1],_=>exact⟨v1,rfl⟩
 obtain⟨⟨a,rfl,ha⟩,_⟩:=h
 exact⟨a,rfl,wf_u8 ha⟩
def lS(ls:List Lf)(h:HL)(hf:bm h [.i .u8,.i .u8,.s [.i .u8],.i .u8,.i .i64,.i .i64] ls):∃h',aw cc ac 3 ls (absH aa h) [.b true] (absH aa h'):=by
 obtain⟨w,ls,rfl,hw,hf⟩:=hf.i
 obtain⟨v,ls,rfl,hv,hf⟩:=hf.i
 obtain⟨s,ls,n,cells,rfl,h1,_,h3,hf⟩:=hf.s
 obtain⟨t,ls,rfl,ht,hf⟩:=hf.i
 obtain⟨x,ls,rfl,_,hf⟩:=hf.i
 obtain⟨y,ls,rfl,_,hf⟩:=hf.i
 obtain rfl:=hf.nil
 obtain⟨l,hl,_,hk⟩:=ls_of (enc:=enc8) (ok:=λa=>0<=a/\a<=255) (λ_=>rfl) dec8 h1 h3
 exact rJ (wf_u8 hw) (wf_u8 hv) (wf_u8 ht) hl hk
end Go.Am
set_option maxRecDepth 100000
namespace Go.Proofs.YtagdngknkloibaaGreatDoor
open Go Go.Am Go.Am.Sx
open Go.ChangeShapes Go.WideShapes Go.ChangeAt Go.WideMaps Go.WideElems Go.RowKit
abbrev laidC:List (String×DataW Unit):= [("crimp/moves.turns",Rows.laid_crimp_moves_turns), ("crimp/cells.quarters",Rows.laid_crimp_cells_quarters), ("crimp/corners.ways",Rows.laid_crimp_corners_ways)]
def name0 : Tryz.prog.globalNamed "crimp/moves.turns" = some 0:=by kernel_rfl
def name1 : Tryz.prog.globalNamed "crimp/cells.quarters" = some 1:=by kernel_rfl
def name2 : Tryz.prog.globalNamed "crimp/corners.ways" = some 2:=by kernel_rfl
def of_laid{W:World}(h:laidMetH Tryz.prog laidC W):∃_:Unit,∀(g:Nat) (vs:List Value),cc.G g=some vs->
  gBlk g<W.heap.size/\vs.all aV=true/\∃c e fr,W.heap[gBlk g]?=some (.cells c e fr)/\bZ (λ_=>none) vs c (gOff g):=by
 rw[MakeChecks.laidMetH_plain _ _ _ (by kernel_rfl)]at h
 obtain⟨ps,h,_,_⟩:=h
 refine⟨(),λg vs hg=>?_⟩
 have hcell:=gl_cell g vs hg
 unfold cc at hg
 simp only at hg
 split at hg
 ·cases hg
  exact nB (by kernel_rfl) hcell (by kernel_rfl) (kB h "crimp/moves.turns" Rows.laid_crimp_moves_turns qax 0 199 8 gl0 name0 (by kernel_rfl) (by kernel_rfl))
 ·cases hg
  exact nB (by kernel_rfl) hcell (by kernel_rfl) (kB h "crimp/cells.quarters" Rows.laid_crimp_cells_quarters (qao _ qax) 1 237 8 gl1 name1 (by kernel_rfl) (by kernel_rfl))
 ·cases hg
  exact nB (by kernel_rfl) hcell (by kernel_rfl) (kB h "crimp/corners.ways" Rows.laid_crimp_corners_ways (qao _ (qao _ qax)) 2 260 8 gl2 name2 (by kernel_rfl) (by kernel_rfl))
 ·cases hg
def own:ownKnob Tryz.prog.godebug=none:=by kernel_rfl
def door_met(os:Os)(args:Array Value):laidMetH Tryz.prog laidC ((World.doorLaid Tryz.prog 400 os).forCall (λ_ _=>0) ⟨#[],args,[]⟩).memory:=
 laidMetH_of_parts3 (fuel:=8) (laidMet_of_run' 8 (by kernel_rfl) (by kernel_rfl)) (by kernel_rfl) (by kernel_rfl)
end Go.Proofs.YtagdngknkloibaaGreatDoor
end

/-
  PART 1 OF THE PROOF (no conditions).
-/
import Derived.AtR
import Derived.Calls
import Derived.KernelRfl
import Derived.Laws.AppendOwn
import Derived.Laws.MakeOwn
import Derived.Laws.Tables
import Derived.Orders
import Derived.RangeFuncIn
import Derived.RangeFuncLeaves
import GoSem.Claims
set_option linter.unusedSectionVars false
set_option linter.unusedSimpArgs false
set_option linter.unusedVariables false
set_option linter.constructorNameAsVariable false
set_option linter.defProp false
namespace Go
abbrev qaa:=@Bool.and_eq_true
abbrev qab:=@List.all_eq_true
abbrev qac:=@Nat.eq_of_beq_eq_true
abbrev qad:=@Option.map_eq_some_iff
abbrev qae:=@List.getElem?_eq_none
abbrev qaf:=@List.getElem?_append_left
abbrev qag:=@Option.bind_some
abbrev qah:=@List.mem_range
abbrev qai:=@Option.bind_eq_some_iff
abbrev qaj:=@Bool.false_eq_true
abbrev qak:=@List.getElem?_append_right
abbrev qal:=@Array.getD_eq_getD_getElem?
abbrev qam:=@Nat.le_refl
abbrev qan:=@Option.some.inj
abbrev qao:=@List.mem_cons_of_mem
abbrev qap:=@List.mem_cons
abbrev qaq:=@List.mem_of_getElem?
abbrev qar:=@Option.some.injEq
abbrev qas:=@List.getElem?_eq_getElem
abbrev qat:=@List.map_cons
abbrev qau:=@Option.map_some
abbrev qav:=@List.getElem?_set_ne
abbrev qaw:=@List.nil_append
abbrev qax:=@List.cons_append
abbrev qay:=@List.mem_singleton
abbrev qaz:=@Array.getElem?_eq_some_iff
abbrev qaA:=@List.getElem?_map
abbrev qaB:=@List.append_assoc
abbrev qaC:=@Nat.lt_or_ge
abbrev qaD:=@List.getElem?_set
abbrev qaE:=@List.getElem?_set_self
abbrev qaF:=@Nat.zero_add
abbrev qaG:=@List.length_append
abbrev qaH:=@List.mem_append
abbrev qaI:=@Nat.zero_le
abbrev qaJ:=@List.take_of_length_le
abbrev qaK:=@Bool.not_true
abbrev qaL:=@Int.natCast_nonneg
abbrev qaM:=@List.getElem?_replicate
abbrev qaN:=@List.mem_map
abbrev qaO:=@List.mem_append_left
abbrev qaP:=@List.length_cons
abbrev qaQ:=@List.mem_cons_self
abbrev qaR:=@List.mem_filter
abbrev qaS:=@Bool.not_eq_true
abbrev qaT:=@List.ext_getElem?
abbrev qaU:=@Nat.blt_eq
abbrev qaV:=@List.getElem?_eq_some_iff
abbrev qaW:=@Int.ofNat_eq_natCast
abbrev qaX:=@Bool.or_eq_true
abbrev qaY:=@List.cons.injEq
abbrev qaZ:=@Array.toList_inj
abbrev qa0:=@List.length_take
abbrev qa1:=@Bool.not_false
abbrev qa2:=@List.append_nil
abbrev qa3:=@Option.isSome_iff_exists
abbrev qa4:=@List.mem_append_right
abbrev qa5:=@Nat.ble_eq_true_of_le
abbrev qa6:=@List.getElem?_cons_succ
abbrev qa7:=@List.getElem?_cons_zero
abbrev qa8:=@List.getElem?_drop
abbrev qa9:=@List.length_eq_zero_iff
abbrev qba:=@List.getElem?_range
abbrev qbb:=@Array.getElem?_setIfInBounds
abbrev qbc:=@List.map_nil
abbrev qbd:=@List.forall_mem_cons
abbrev qbe:=@Nat.mul_le_mul_right
abbrev qbf:=@Array.toList_map
abbrev qbg:=@Option.getD_some
abbrev qbh:=@Array.getElem?_replicate
abbrev qbi:=@List.getElem?_take
abbrev qbj:=@List.mem_filterMap
abbrev qbk:=@Nat.add_mul
abbrev qbl:=@List.length_set
abbrev qbm:=@Array.getElem?_eq_getElem
abbrev qbn:=@List.drop_eq_getElem_cons
abbrev qbo:=@List.mem_of_mem_take
abbrev qbp:=@Int.negSucc_eq
abbrev qbq:=@List.drop_zero
abbrev qbr:=@Nat.add_assoc
abbrev qbs:=@List.getElem?_of_mem
abbrev qbt:=@List.mem_of_mem_drop
abbrev qbu:=@List.range_eq_range'
abbrev qbv:=@Nat.sub_self
abbrev qbw:=@Array.getElem?_eq_none
abbrev qbx:=@Nat.ble_eq
abbrev qby:=@Bool.eq_iff_iff
abbrev qbz:=@Array.toList_append
abbrev qbA:=@List.map_congr_left
abbrev qbB:=@Bool.not_eq_true'
abbrev qbC:=@List.flatMap_cons
abbrev qbD:=@List.drop_drop
abbrev qbE:=@List.mapM_cons
abbrev qbF:=@List.all_cons
abbrev qbG:=@List.length_map
abbrev qbH:=@Nat.mul_assoc
abbrev qbI:=@Bool.or_eq_false_iff
abbrev qbJ:=@Array.getElem?_setIfInBounds_ne
abbrev qbK:=@Nat.min_eq_left
abbrev qbL:=@Bool.not_eq_false'
abbrev qbM:=@Int.eq_ofNat_of_zero_le
abbrev qbN:=@Nat.beq_refl
abbrev qbO:=@Nat.le_trans
abbrev qbP:=@Nat.zero_mul
abbrev qbQ:=@Array.getElem?_push
abbrev qbR:=@List.length_nil
abbrev qbS:=@List.drop_of_length_le
abbrev qbT:=@List.length_drop
abbrev qbU:=@Nat.lt_succ_self
abbrev qbV:=@Nat.mod_lt
abbrev qbW:=@List.set_append_right
abbrev qbX:=@List.take_append_drop
abbrev qbY:=@Array.toList_extract
abbrev qbZ:=@List.contains_eq_mem
abbrev qb0:=@List.flatten_cons
abbrev qb1:=@List.foldl_cons
abbrev qb2:=@List.map_append
abbrev qb3:=@Int.mul_le_mul_of_nonneg_right
abbrev qb4:=@Int.le_refl
abbrev qb5:=@List.map_take
abbrev qb6:=@List.replicate_succ
abbrev qb7:=@List.take_succ_cons
abbrev qb8:=@Nat.one_mul
abbrev qb9:=@Ne.symm
abbrev qca:=@Prod.mk.injEq
abbrev qcb:=@List.mem_flatMap
abbrev qcc:=@List.pairwise_lt_range
abbrev qcd:=@Array.foldl_toList
abbrev qce:=@List.pairwise_cons
abbrev qcf:=@Array.mem_of_getElem?
abbrev qcg:=@Nat.le_max_left
abbrev qch:=@List.map_drop
abbrev qci:=@List.getElem?_eq_none_iff
abbrev qcj:=@List.pairwise_iff_getElem
abbrev qck:=@List.filter_cons
abbrev qcl:=@List.range'_succ
abbrev qcm:=@Nat.le_max_right
abbrev qcn:=@Array.length_toList
abbrev qco:=@List.drop_succ_cons
abbrev qcp:=@List.filter_eq_self
abbrev qcq:=@Array.all_eq_true'
abbrev qcr:=@List.nodup_cons
abbrev qcs:=@List.zip_cons_cons
abbrev qct:=@Nat.add_sub_cancel
abbrev qcu:=@Nat.add_sub_cancel_left
abbrev qcv:=@Bool.eq_false_iff
abbrev qcw:=@Int.toNat_natCast
abbrev qcx:=@List.mem_range'_1
abbrev qcy:=@Nat.mul_one
abbrev qcz:=@List.take_zero
abbrev qcA:=@Array.getElem?_toList
abbrev qcB:=@List.eq_nil_iff_forall_not_mem
abbrev qcC:=@List.eq_replicate_iff
abbrev qcD:=@Nat.add_zero
abbrev qcE:=@List.drop_append
abbrev qcF:=@List.not_mem_nil
abbrev qcG:=@List.take_append_of_le_length
abbrev qcH:=@Option.getD_none
abbrev qcI:=@List.Pairwise.filter
abbrev qcJ:=@List.getElem?_append
abbrev qcK:=@List.pairwise_append
abbrev qcL:=@List.range'_append_1
abbrev qcM:=@List.set_append_left
abbrev qcN:=@Bool.false_or
abbrev qcO:=@Int.ofNat.inj
abbrev qcP:=@Array.toList_zipIdx
abbrev qcQ:=@Option.pure_def
abbrev qcR:=@Int.tmod_eq_emod_of_nonneg
abbrev qcS:=@List.exists_cons_of_ne_nil
abbrev qcT:=@List.set_cons_zero
abbrev qcU:=@Nat.eq_zero_or_pos
abbrev qcV:=@Nat.lt_of_lt_of_le
abbrev qcW:=@Prod.ext_iff
abbrev qcX:=@Array.mapM_eq_mapM_toList
abbrev qcY:=@List.getElem?_zip_eq_some
abbrev qcZ:=@List.filter_congr
abbrev qc0:=@List.take_add_one
abbrev qc1:=@Bool.true_and
abbrev qc2:=@List.mapM_nil
abbrev qc3:=@List.take_add
abbrev qc4:=@Prod.ext
abbrev qc5:=@List.any_eq_true
abbrev qc6:=@List.getElem_mem
abbrev qc7:=@List.prefix_refl
abbrev qc8:=@List.take_length
abbrev qc9:=@Nat.min_eq_right
abbrev qda:=@Int.natCast_add
abbrev qdb:=@Int.natCast_mul
abbrev qdc:=@Int.natCast_one
abbrev qdd:=@List.all_append
abbrev qde:=@List.append_inj
abbrev qdf:=@List.forIn_cons
abbrev qdg:=@List.map_map
abbrev qdh:=@List.set_append
abbrev qdi:=@Nat.div_le_self
abbrev qdj:=@Nat.not_lt_zero
abbrev qdk:=@Option.map_none
abbrev qdl:=@Nat.mul_le_mul
abbrev qdm:=@Bool.and_true
abbrev qdn:=@decide_eq_true_eq
abbrev qdo:=@decide_eq_false
abbrev qdp:=@decide_eq_true
abbrev qdq:=@if_pos
abbrev qdr:=@if_neg
end Go
noncomputable section
namespace Go.Am
def poison:Value:=.tuple #[.tuple #[]]
def scalar:Value->Bool
 | .bool _=>true
 | .int _ _=>true
 | .string _=>true
 | .pointer none=>true
 | .map none=>true
 | .nilFunc=>true
 | .nilIface=>true
 | .slice none 0 0=>true
 |_=>false
def en:Value->Bool
 | .agg cs=>cs.toList.all scalar
 |v=>scalar v
def flat:Value->Bool
 | .tuple vs=>vs.size != 1&&vs.toList.all en
 |v=>en v
abbrev _root_.Tj:=Array Value
def pU(cs:Tj):Option IntKind:=
 match cs.toList with
 | .int k _ :: _=>some k
 |_=>none
def gz:Value->Bool
 | .tuple vs=>match vs.toList with
  | [.agg cs]=>(pU cs).isSome
  |_=>false
 |_=>false
def eL{vs:Tj}(h:gz (.tuple vs)=true):vs.size=1:=by
 simp only[gz]at h
 split at h
 next e=>rw[←qcn,e];rfl
 ·cases h
class Val where
 num:Tj->Int
class Glo where
 glob:Nat->Nat×Nat
instance (priority := 10) glo0 : Glo := ⟨λ_ => (0, 0)⟩
def gB:Nat:=1000000
def gBlk [Glo](g:Nat):Nat:=if g<gB then g else(Glo.glob g).1
def gOff [Glo](g:Nat):Nat:=if g<gB then 0 else(Glo.glob g).2
def gBlk_lt [Glo]{g:Nat}(h:Nat.blt g gB=true):gBlk g=g:=qdq (by rw[qaU]at h;exact h)
def gOff_lt [Glo]{g:Nat}(h:Nat.blt g gB=true):gOff g=0:=qdq (by rw[qaU]at h;exact h)
abbrev _root_.TC:=Program
def pev{α:Type}(P:TC):Sem α->Option α
 | .pure a=>some a
 | .program k=>pev P (k P)
 |_=>none
def eZ{α:Type}{P:TC}{s:Sem α}{a:α}(h:pev P s=some a)(w:World):s.run P w = .ok a w:=by
 induction s with
 |pure b=>simp[pev]at h;subst h;rfl
 |program k ih=>exact ih P h
 |_=>simp[pev]at h
structure ALoop where
 state:LoopState
 pending:Option Code
 fn:FuncId
 tmps:List Value
 params:List Tmp
 assign:Code
 body:Code
abbrev _root_.Th:=List MapEntry
abbrev _root_.Tl:=List Value
inductive HObj where
 |cells (vs:Tl) (esz:Nat) (rw:Bool)
 |map (es:Th) (clock:Nat)
 |loop (l:ALoop)
 |siter (s:ByteArray) (pos:Nat)
 |dead
def HObj.owned:HObj->Bool
 | .cells _ _ rw=>rw
 | .dead=>false
 |_=>true
def HObj.alive:HObj->Bool
 | .dead=>false
 |_=>true
structure St where
 tmps:List Value
 loc:List (Option (Tl))
 heap:List HObj
abbrev _root_.TJ:=FuncId
structure Cfg where
 P:Program
 G:Nat->Option (Tl)
 opq:TJ->Bool:=λ_=>false   -- functions into whose code nobody looks
 pts:TJ->List Nat        -- of each temporary that points into a local row: that row's number+2;1: into a known package-level variable;0: anything else
abbrev _root_.TD:=Operand
def oval(tmps:Tl):TD->Value
 | .tmp t=>tmps.getD t undef
 | .const v=>if flat v then v else poison
 | .global g=>if Nat.blt g gB then .pointer (some ⟨g,0,some 1⟩)else poison
 | .func f=>.func (.func f) #[] #[]
abbrev _root_.Ti:=Option Value
abbrev _root_.Ts:=List HObj
inductive Eff where
 |val (v:Value)
 |lnew (s:Nat) (vs:Tl)
 |lget (s:Nat) (f:Tl->Ti)
 |lset (s:Nat) (f:Tl->Option (Tl))
 |hget (f:Ts->Ti)
 |hop (f:Ts->Option (List HObj×Value))
 |call (f:TJ) (args:Tl)
 |yield (l:Nat) (args:Tl)
abbrev _root_.Tn:=Option Tmp
def St.put(σ:St)(dst:Tn)(v:Value):St:=
 match dst with
 |some d=>{ σ with tmps:=σ.tmps.set d v }
 |none=>σ
def aA(σ:St):Eff->Option (St×Value)
 | .val v=>some (σ,v)
 | .lnew s vs=>match σ.loc[s]? with
  |some none=>some ({ σ with loc:=σ.loc.set s (some vs) },.pointer (some ⟨s,0,some 0⟩))
  |_=>none
 | .lget s f=>match σ.loc[s]? with
  |some (some vs)=>(f vs).map λv=>(σ,v)
  |_=>none
 | .lset s f=>match σ.loc[s]? with
  |some (some vs)=>(f vs).map λvs'=>({ σ with loc:=σ.loc.set s (some vs') },undef)
  |_=>none
 | .hget f=>(f σ.heap).map λv=>(σ,v)
 | .hop f=>(f σ.heap).map λp=>({ σ with heap:=p.1 },p.2)
 | .call .. => none
 | .yield .. => none
def cut(vs:Tl)(off n:Nat):Option (Tl):=
 if off+n<=vs.length then some ((vs.drop off).take n)else none
abbrev _root_.TI:=TypeId
def cK(P:TC)(t:TI)(vs:Tl)(off:Nat):Ti:=
 match P.underlying t with
 |some (.struct _)|some (.array _ _)=>(cut vs off (P.cellsOf t)).map λcs=>.agg cs.toArray
 |some _=>vs[off]?
 |none=>none
def splice(vs:Tl)(off:Nat)(new:Tl):Option (Tl):=
 if off+new.length<=vs.length then some (vs.take off++new++vs.drop (off+new.length))else none
def aB:Value->Bool
 | .tuple vs=>!gz (.tuple vs)
 |_=>false
def ic(i:TypeInfo):Ti:=
 match i.zero with
 |some z=>if z.cells.size=i.size/\flat z=true/\aB z=false then some z else none
 |none=>none
def cZ(P:TC)(t:TI):Ti:=(P.info? t).bind ic
def bF:Value->Bool
 | .pointer (some a)=>a.spot != some 0
 | .slice (some a) _ _=>a.spot != some 0
 | .tuple vs=>gz (.tuple vs)
 | .agg _=>false
 | .iface _ _=>false
 | .func _ _ _=>false
 |_=>true
def co:Value->Bool
 | .agg cs=>cs.toList.all bF
 | .func _ a b=>a.toList.all bF&&b.toList.all bF
 | .tuple vs=>vs.size==0||gz (.tuple vs)
 |v=>bF v
def bg:Value->Bool
 | .agg cs=>cs.toList.all co
 | .func _ a b=>a.toList.all co&&b.toList.all co
 | .tuple vs=>vs.toList.all co
 |v=>co v
def noLoc:Value->Bool
 | .agg cs=>cs.toList.all bg
 | .func _ a b=>a.toList.all bg&&b.toList.all bg
 | .tuple vs=>vs.toList.all bg
 |v=>bg v
def aZ:Value->Bool
 | .agg _=>false
 | .tuple vs=>gz (.tuple vs)
 |_=>true
def aI(v:Value):Bool:=noLoc v&&aZ v
def dN(P:TC)(t:TI)(v:Value)(vs:Tl)(off:Nat):Option (Tl):=
 if v.cells.size=P.cellsOf t/\(P.info? t).isSome then
  if v.cells.toList.all aI then splice vs off v.cells.toList else none
 else none
abbrev _root_.Tp:=Option Nat
def tag(esz:Nat):Tp:=some (esz+10)
def ea(H:Ts)(id:Nat):Option (Tl):=
 match H[id]? with
 |some (.cells vs _ _)=>some vs
 |_=>none
def ce(C:Cfg)(H:Ts)(esz:Nat):Value->Option (List Value×Nat)
 | .slice none 0 0=>some ([],0)
 | .slice (some a) len _=>
  if a.spot=some 1 then((C.G a.block).bind λvs=>cut vs a.off (len*esz)).map λx=>(x,len)
  else if a.spot=tag esz then
   match H[a.block]? with
   |some (.cells vs e _)=>if e=esz then(cut vs a.off (len*esz)).map λx=>(x,len)else none
   |_=>none
  else none
 | .string s=>if esz=1 then some (s.data.toList.map λb=>.int .u8 b.toNat,s.size)else none
 |_=>none
def ch(need bytes:Nat):Bool:=Nat.ble need 140737488355328&&Nat.ble (need*bytes) 140737488355328
def eC(C:Cfg)(sT:TI)(s x:Value)(H:Ts):Option (List HObj×Value):=
 match C.P.underlying sT with
 |some (.slice elem)=>
  match C.P.info? elem with
  |none=>none
  |some info=>
  if info.size=0 then none else
  if (ic info).isNone then none else
  match ce C H info.size x with
  |none=>none
  |some (new,n)=>
   match s with
   | .slice none 0 0=>
    if n=0 then some (H,.slice none 0 0)
    else if ch n info.bytes then some (H++[.cells new info.size true],.slice (some ⟨H.length,0,tag info.size⟩) n 0)else none
   | .slice (some a) len cx=>
    if a.spot≠tag info.size then none else
    match H[a.block]? with
    |some (.cells vs e rw)=>
     if e≠info.size then none else
     match cut vs a.off (len*info.size)with
     |none=>none
     |some old=>
      match cx with
      |0=>
       if n=0 then some (H,.slice (some a) len 0)
       else if rw&&ch (len+n) info.bytes then
        some (H.set a.block .dead++[.cells (old++new) info.size true],.slice (some ⟨H.length,0,tag info.size⟩) (len+n) 0)
       else none
      |cap+1=>
       if len+n<=cap then
        if rw then(splice vs (a.off+len*info.size) new).map λvs'=>(H.set a.block (.cells vs' e true),.slice (some a) (len+n) (cap+1))
        else if n=0 then some (H,.slice (some a) len (cap+1))else none
       else if ch (len+n) info.bytes then
        some (H++[.cells (old++new) info.size true],.slice (some ⟨H.length,0,tag info.size⟩) (len+n) 0)
       else none
    |_=>none
   |_=>none
 |_=>none
abbrev _root_.Tq:=Option Int
def cH:Ti->Option (Tq)
 |none=>some none
 |some (.int _ n)=>some (some n)
 |_=>none
def bY(cx l:Nat):Tq->Nat
 |none=>cx - l
 |some m=>m.toNat - l+1
def dw(len cx:Nat)(hi:Tq):Tq->Prop
 |none=>hi.getD len<=(len:Int)∨(0<cx/\hi.getD len<(cx:Int))
 |some m=>hi.isSome=true/\hi.getD len<=m/\(m<=(len:Int)∨(0<cx/\m<(cx:Int)))
instance (len cx : Nat) (hi mx : Option Int) : Decidable (dw len cx hi mx) := by
 cases mx<;>(unfold dw;infer_instance)
def uG(C:Cfg)(t:TI)(x:Value)(lo hi mx:Ti):Ti:=
 match cH lo,cH hi,cH mx with
 |some lo,some hi,some mx=>
  match C.P.underlying t,x with
  |some (.slice elem),.slice (some a) len cx=>
   if C.P.cellsOf elem=0 then none else
   if a.spot≠some 1/\a.spot≠tag (C.P.cellsOf elem)then none else
   if 0<=lo.getD 0/\lo.getD 0<=hi.getD len/\dw len cx hi mx then
    some (.slice (some { a with off:=a.off+(lo.getD 0).toNat*C.P.cellsOf elem }) ((hi.getD len).toNat - (lo.getD 0).toNat) (bY cx (lo.getD 0).toNat mx))
   else none
  |_,_=>none
 |_,_,_=>none
def dU(n:Nat)(lo hi mx:Ti):Option (Nat×Nat×Nat):=
 match cH lo,cH hi,cH mx with
 |some lo,some hi,some mx=>
  let m:=mx.getD n
  let h:=hi.getD n
  let l:=lo.getD 0
  if 0<=l/\l<=h/\h<=m/\m<=(n:Int)/\(mx.isNone∨hi.isSome)then some (l.toNat,h.toNat,m.toNat)else none
 |_,_,_=>none
def cj(C:Cfg)(t:TI)(a:Addr)(lo hi mx:Ti)(H:Ts):Ti:=
 match C.P.underlying t with
 |some (.array n elem)=>
  if C.P.cellsOf elem=0 then none else
  match dU n lo hi mx with
  |none=>none
  |some (l,h,m)=>
   if a.spot=some 1 then some (.slice (some ⟨a.block,a.off+l*C.P.cellsOf elem,some 1⟩) (h - l) (m - l+1))
   else if a.spot=none then
    match H[a.block]? with
    |some (.cells vs e _)=>
     if e=C.P.cellsOf elem/\a.off+n*C.P.cellsOf elem<=vs.length then
      some (.slice (some ⟨a.block,a.off+l*C.P.cellsOf elem,tag e⟩) (h - l) (m - l+1))
     else none
    |_=>none
   else none
 |_=>none
def intOf:Value->Option Int
 | .int _ n=>some n
 |_=>none
def eI(C:Cfg)(t:TI)(x:Value)(f:Nat):Ti:=
 match C.P.underlying t,x with
 |some (.struct fs),.pointer (some a)=>
  match fs[f]? with
  |some fd=>if C.P.cellsOf fd.type=0 then none else some (.pointer (some { a with off:=a.off+fd.offset }))
  |none=>none
 |_,_=>none
def dP(C:Cfg)(t:TI)(x i:Value):Ti:=
 match intOf i with
 |none=>none
 |some i=>
  match C.P.underlying t,x with
  |some (.array len elem),.pointer (some a)=>
   if C.P.cellsOf elem=0 then none else
   if 0<=i/\i<(len:Int)then some (.pointer (some { a with off:=a.off+i.toNat*C.P.cellsOf elem }))else none
  |some (.slice elem),.slice (some a) len _=>
   if C.P.cellsOf elem=0 then none else
   if 0<=i/\i<(len:Int)then some (.pointer (some ⟨a.block,a.off+i.toNat*C.P.cellsOf elem,if a.spot=some 1 then some 1 else none⟩))else none
  |_,_=>none
def sL(C:Cfg)(t:TI)(cs:Tj)(off:Nat):Ti:=
 match C.P.underlying t with
 |some (.struct _)|some (.array _ _)=>some (.agg (cs.extract off (off+C.P.cellsOf t)))
 |some _=>cs[off]?
 |none=>none
def qB(C:Cfg)(t:TI)(x:Value)(f:Nat):Ti:=
 match C.P.underlying t,x with
 |some (.struct fs),.agg cs=>(fs[f]?).bind λfd=>sL C fd.type cs fd.offset
 |_,_=>none
def jO(C:Cfg)(t:TI)(x i:Value):Ti:=
 match intOf i with
 |none=>none
 |some i=>
  match C.P.underlying t,x with
  |some (.array len elem),.agg cs=>if 0<=i/\i<(len:Int)then sL C elem cs (i.toNat*C.P.cellsOf elem)else none
  |some .string,.string s=>if 0<=i then(s[i.toNat]?).map λb=>.int .u8 b.toNat else none
  |_,_=>none
def kS(P:TC)(t:TI):Option (Nat->Option (Nat×Nat)):=
 match P.underlying t with
 |some (.struct fs)=>
  if fs.all λf=>(P.info? f.type).isSome then some λi=>(fs[i]?).map λf=>(f.offset,P.cellsOf f.type)else none
 |some (.array _ e)=>if (P.info? e).isSome then some λi=>some (i*P.cellsOf e,P.cellsOf e)else none
 |_=>none
def ql(C:Cfg)(t:TI)(parts:List (Nat×Value)):Ti:=
 match cZ C.P t,kS C.P t with
 |some z,some pl=>(Instr.fill pl z.cells parts).map .agg
 |_,_=>none
def aD(z:Tl)(n:Nat):Tl:=(List.replicate n z).flatten
def dV(C:Cfg)(t:TI)(len:Nat)(parts:List (Nat×Value)):Option (Nat×List Value):=
 match C.P.underlying t with
 |some (.slice e)=>
  match C.P.info? e with
  |some info=>
   if info.size=0 then none else
   if len*info.size > 16777216 then none else
   match ic info with
   |some z=>
    (Instr.fill (λi=>some (i*info.size,info.size)) (aD z.cells.toList len).toArray parts).map λcs=>(info.size,cs.toList)
   |none=>none
  |none=>none
 |_=>none
def cO(C:Cfg)(t:TI)(len cap:Value)(H:Ts):Option (List HObj×Value):=
 match intOf len,intOf cap,C.P.underlying t with
 |some l,some c,some (.slice e)=>
  match C.P.info? e with
  |some info=>
   if info.size=0 then none else
   match ic info with
   |some z=>
    if 0<=l/\l<=c/\c<=1048576/\info.bytes<=4096 then
     some (H++[.cells (aD z.cells.toList c.toNat) info.size true],.slice (some ⟨H.length,0,tag info.size⟩) l.toNat (c.toNat+1))
    else none
   |none=>none
  |none=>none
 |_,_,_=>none
def aM:Value->Option Bool
 | .slice none 0 0=>some true
 | .slice (some _) _ _=>some false
 | .map none=>some true
 | .map (some _)=>some false
 | .nilFunc=>some true
 | .func .. => some false
 | .pointer none=>some true
 | .pointer (some _)=>some false
 |_=>none
def aP(e:MapEntry):MapEntry:={ key:=e.key,val:=undef,born:=0 }
def iq(P:TC)(kt:TI)(k:Value)(es:Th):Option (Tp):=
 (pev P (Instr.findKey kt k (es.map aP))).map λr=>r.map (·.1)
def eo(P:TC)(kt:TI)(k:Value):Bool:=
 en k&&(pev P (Instr.checkKey true 10000 kt k)).isSome&&(pev P (Instr.checkKey false 10000 kt k)).isSome&&(pev P (Op.equal kt k k)).any id
def eU(es:Th)(i:Nat):Ti:=(es[i]?).map (·.val)
def hmap(H:Ts)(id:Nat):Option (List MapEntry×Nat):=
 match H[id]? with
 |some (.map es c)=>some (es,c)
 |_=>none
def bW(C:Cfg)(t:TI)(m k:Value)(ok:Bool)(H:Ts):Ti:=
 match C.P.underlying t with
 |some (.map kt et)=>
  if !eo C.P kt k then none else
  match cZ C.P et with
  |none=>none
  |some z=>
   match m with
   | .map none=>some (if ok then .tuple #[z,.bool false]else z)
   | .map (some id)=>
    match hmap H id with
    |none=>none
    |some (es,_)=>
     match iq C.P kt k es with
     |none=>none
     |some none=>some (if ok then .tuple #[z,.bool false]else z)
     |some (some i)=>(eU es i).map λv=>if ok then .tuple #[v,.bool true]else v
   |_=>none
 |_=>none
def bL(C:Cfg)(t:TI)(m k v:Value)(H:Ts):Option (List HObj×Value):=
 match C.P.underlying t,m with
 |some (.map kt _),.map (some id)=>
  if !(eo C.P kt k&&noLoc v && !aB v)then none else
  match hmap H id with
  |none=>none
  |some (es,c)=>
   match iq C.P kt k es with
   |none=>none
   |some none=>some (H.set id (.map (es++[{ key:=k,val:=v,born:=c }]) (c+1)),undef)
   |some (some i)=>
    if (es[i]?).all (λe=>Instr.sameBits 10000 e.key k)then some (H.set id (.map (es.modify i λe=>{ e with key:=k,val:=v }) c),undef)else none
 |_,_=>none
def bK(C:Cfg)(t:TI)(m k:Value)(H:Ts):Option (List HObj×Value):=
 match C.P.underlying t,m with
 |some (.map kt et),.map (some id)=>
  if !eo C.P kt k then none else
  match hmap H id with
  |none=>none
  |some (es,c)=>
   match iq C.P kt k es with
   |none=>none
   |some none=>
    match cZ C.P et with
    |none=>none
    |some z=>some (H.set id (.map (es++[{ key:=k,val:=z,born:=c }]) (c+1)),.tuple #[z,.int .i64 c])
   |some (some i)=>
    match es[i]? with
    |none=>none
    |some e=>if Instr.sameBits 10000 e.key k then some (H.set id (.map (es.modify i λe=>{ e with key:=k }) c),.tuple #[e.val,.int .i64 e.born])else none
 |_,_=>none
def bV(m st v:Value)(H:Ts):Option (List HObj×Value):=
 match m,intOf st with
 | .map (some id),some b=>
  if !noLoc v||aB v then none else
  match hmap H id with
  |none=>none
  |some (es,c)=>
   match es.findIdx? (λe=>(e.born:Int)==b)with
   |some i=>some (H.set id (.map (es.modify i λe=>{ e with val:=v }) c),undef)
   |none=>none
 |_,_=>none
def db(C:Cfg)(t:TI)(m k:Value)(H:Ts):Option (List HObj×Value):=
 match C.P.underlying t with
 |some (.map kt _)=>
  if !eo C.P kt k then none else
  match m with
  | .map none=>some (H,undef)
  | .map (some id)=>
   match hmap H id with
   |none=>none
   |some (es,c)=>
    match iq C.P kt k es with
    |none=>none
    |some none=>some (H,undef)
    |some (some i)=>some (H.set id (.map (es.eraseIdx i) c),undef)
  |_=>none
 |_=>none
abbrev _root_.Tz:=List Nat
def kg(pts:Tz):TD->Nat
 | .tmp t=>pts.getD t 0
 | .global _=>1
 |_=>0
def fR:Value->Option (Nat×Nat)
 | .pointer (some a)=>if a.spot.isNone then some (a.block,a.off)else none
 |_=>none
def eV:Value->Option (Nat×Nat)
 | .pointer (some a)=>if a.spot=some 1 then some (a.block,a.off)else none
 |_=>none
def gH(s:Nat):Value->Option Nat
 | .pointer (some a)=>if a.spot=some 0/\a.block=s then some a.off else none
 |_=>none
def de(C:Cfg)(pts:Tz)(t:TI)(a:TD)(v:Value):Option Eff:=
 match kg pts a with
 |0=>match fR v with
  |some p=>some (.hget λH=>(ea H p.1).bind λvs=>cK C.P t vs p.2)
  |none=>(eV v).map λp=>.hget λ_=>(C.G p.1).bind λvs=>cK C.P t vs p.2
 |1=>(eV v).bind λp=>((C.G p.1).bind λvs=>cK C.P t vs p.2).map .val
 |s+2=>(gH s v).map λoff=>.lget s λvs=>cK C.P t vs off
def gS(C:Cfg)(t:TI)(id off:Nat)(x:Value)(H:Ts):Option (List HObj×Value):=
 match H[id]? with
 |some (.cells vs e true)=>(dN C.P t x vs off).map λvs'=>(H.set id (.cells vs' e true),undef)
 |_=>none
def dL(C:Cfg)(pts:Tz)(t:TI)(a:TD)(v x:Value):Option Eff:=
 if aB x then none else
 match kg pts a with
 |0=>(fR v).map λp=>.hop (gS C t p.1 p.2 x)
 |1=>none
 |s+2=>(gH s v).map λoff=>.lset s λvs=>dN C.P t x vs off
def jz(P:TC)(t:TI):Nat:=
 match P.underlying t with
 |some (.array _ e)=>P.cellsOf e
 |_=>P.cellsOf t
def bM(C:Cfg)(pts:Tz)(dst:Tn)(t:TI)(v:Value):Option Eff:=
 if aB v then none else
 match dst with
 |none=>none
 |some d=>
  if !(v.cells.toList.all aI)then none
  else if pts.getD d 0=d+2 then some (.lnew d v.cells.toList)
  else
   some (.hop λH=>some (H++[.cells v.cells.toList (jz C.P t) true],.pointer (some ⟨H.length,0,none⟩)))
abbrev _root_.Tf:=Operand->Value
def bN(C:Cfg)(ρ:Tf)(o:Oper):Option Eff:=
 if o.op.operands.toList.all (λx=>flat (ρ x))then
  match pev C.P (execOp ρ o)with
  |some (.value v)=>if flat v then some (.val v)else none
  |_=>none
 else none
def mb(a:Ti)(b:Option Eff):Option Eff:=
 match a with
 |some v=>some (.val v)
 |none=>b
def jh(x y:Value):Option Bool:=
 match aM x,aM y with
 |some true,some b=>some b
 |some b,some true=>some b
 |_,_=>none
def cJ:Value->Nat
 | .slice .. => 1
 | .map _=>2
 | .nilFunc=>3
 | .func .. => 3
 | .pointer _=>4
 |_=>0
def ji:TypeDesc->Nat
 | .slice _=>1
 | .map _ _=>2
 | .func .. => 3
 | .pointer _=>4
 |_=>100
def pA(P:TC)(t:TI)(x y:Value):Bool:=
 match P.underlying t with
 |some d=>ji d==cJ x&&ji d==cJ y
 |none=>false
def lr(C:Cfg)(t:TI)(d x:Value)(H:Ts):Option (List HObj×Value):=
 match C.P.underlying t,d with
 |some (.slice e),.slice none 0 0=>if C.P.cellsOf e=0 then none else(ce C H (C.P.cellsOf e) x).map λ_=>(H,.int .i64 0)
 |some (.slice e),.slice (some a) dlen _=>
  if C.P.cellsOf e=0 then none else
  if a.spot≠tag (C.P.cellsOf e)then none else
  match ce C H (C.P.cellsOf e) x,H[a.block]? with
  |some (new,n),some (.cells vs esz true)=>
   if esz≠C.P.cellsOf e then none else
   (splice vs a.off (new.take (Nat.min n dlen*C.P.cellsOf e))).map λvs'=>(H.set a.block (.cells vs' esz true),.int .i64 (Nat.min n dlen))
  |_,_=>none
 |_,_=>none
def fD(C:Cfg)(t:TI)(x:Value)(H:Ts):Option (List HObj×Value):=
 match C.P.underlying t,x with
 |some (.slice _),.slice none 0 0=>some (H,undef)
 |some (.slice e),.slice (some a) n _=>
  if C.P.cellsOf e=0 then none else
  if a.spot≠tag (C.P.cellsOf e)then none else
  match cZ C.P e,H[a.block]? with
  |some z,some (.cells vs esz true)=>
   if esz≠C.P.cellsOf e then none else
   (splice vs a.off (aD z.cells.toList n)).map λvs'=>(H.set a.block (.cells vs' esz true),undef)
  |_,_=>none
 |_,_=>none
def aJ(C:Cfg)(ρ:Tf)(b:Builtin)(args:Tl)(argTypes:Array TypeId)(o:Oper):Option Eff:=
 match b,args,argTypes[0]? with
 | .append,[s,x],some t=>if argTypes[1]?.any (λu=>(C.P.underlying u) matches some (.int _)|none)||argTypes[1]?.isNone then none else some (.hop (eC C t s x))
 | .len,[x],some t=>
  match C.P.underlying t,x with
  |some (.slice _),.slice _ n _=>some (.val (.int .i64 n))
  |some (.map _ _),.map (some id)=>some (.hget λH=>(hmap H id).map λp=>.int .i64 p.1.length)
  |some (.array n _),_=>some (.val (.int .i64 n))
  |_,_=>bN C ρ o
 | .cap,[x],some t=>
  match C.P.underlying t,x with
  |some (.slice _),.slice (some _) _ (n+1)=>some (.val (.int .i64 n))
  |some (.slice _),.slice none 0 0=>some (.val (.int .i64 0))
  |some (.array n _),_=>some (.val (.int .i64 n))
  |_,_=>none
 | .copy,[d,x],some t=>some (.hop (lr C t d x))
 | .delete,[m,k],some t=>some (.hop (db C t m k))
 | .clear,[x],some t=>some (.hop (fD C t x))
 |_,_,_=>bN C ρ o
def eR(C:Cfg)(ρ:Tf)(c:Call)(o:Oper):Option Eff:=
 let args:=c.args.toList.map ρ
 match c.callee with
 | .builtin b=>aJ C ρ b args c.argTypes o
 | .invoke _ _=>none
 | .value f=>
  if !(args.all noLoc)then none else
  match ρ f with
  | .func (.func g) first cap=>if noLoc (.func (.func g) first cap)then some (.call g (first.toList++args++cap.toList))else none
  | .func (.yield l) first cap=>if first.size=0/\cap.size=0 then some (.yield l args)else none
  |_=>none
def lN(C:Cfg)(t:TI):Ti->Bool
 |none=>true
 |some v=>(intOf v).isSome&&((C.P.underlying t) matches some (.map _ _))
def ak(C:Cfg)(pts:Tz)(ρ:Tf)(o:Oper):Option Eff:=
 match o.op with
 | .move x=>some (.val (ρ x))
 | .assign x=>some (.val (ρ x))
 | .pick c a b=>match ρ c with
  | .bool q=>some (.val (if q then ρ a else ρ b))
  |_=>none
 | .alloc t=>(cZ C.P t).bind λz=>bM C pts o.dst t z
 | .box t x=>bM C pts o.dst t (ρ x)
 | .build t ps=>if ps.toList.all (λp=>!aB (ρ p.2))then(ql C t (ps.toList.map λp=>(p.1,ρ p.2))).map .val else none
 | .buildSlice t n ps=>
  if (ps.toList.all λp=>(ρ p.2).cells.toList.all aI)then
   (dV C t n (ps.toList.map λp=>(p.1,ρ p.2))).map λr=>
    .hop λH=>some (H++[.cells r.2 r.1 true],.slice (some ⟨H.length,0,tag r.1⟩) n (n+1))
  else none
 | .load t a=>de C pts t a (ρ a)
 | .store t a x=>dL C pts t a (ρ a) (ρ x)
 | .nilCheck x=>match ρ x with
  | .pointer (some a)=>some (.val (.pointer (some a)))
  | .func (.func f) a b=>some (.val (.func (.func f) a b))
  | .func (.yield f) a b=>some (.val (.func (.yield f) a b))
  |_=>none
 | .binOp op t x y _=>
  match op with
  | .eql=>match jh (ρ x) (ρ y)with
   |some b=>if pA C.P t (ρ x) (ρ y)then some (.val (.bool b))else none
   |none=>bN C ρ o
  | .neq=>match jh (ρ x) (ρ y)with
   |some b=>if pA C.P t (ρ x) (ρ y)then some (.val (.bool !b))else none
   |none=>bN C ρ o
  |_=>bN C ρ o
 | .makeFunc fn first cap=>match fn with
  | .yield _=>none
  |fn=>some (.val (.func fn (first.map ρ) (cap.map ρ)))
 | .makeMap t r=>
  if lN C t (r.map ρ)then
   some (.hop λH=>some (H++[.map [] 0],.map (some H.length)))
  else none
 | .makeSlice t l c=>some (.hop (cO C t (ρ l) (ρ c)))
 | .slice t x lo hi mx=>
  match ρ x with
  | .pointer (some a)=>
   if a.spot=some 1 then(cj C t a (lo.map ρ) (hi.map ρ) (mx.map ρ) []).map .val
   else some (.hget (cj C t a (lo.map ρ) (hi.map ρ) (mx.map ρ)))
  |x=>mb (uG C t x (lo.map ρ) (hi.map ρ) (mx.map ρ)) (bN C ρ o)
 | .fieldAddr t x f=>(eI C t (ρ x) f).map .val
 | .indexAddr t x i=>(dP C t (ρ x) (ρ i)).map .val
 | .field t x f=>(qB C t (ρ x) f).map .val
 | .index t x i=>(jO C t (ρ x) (ρ i)).map .val
 | .lookup t m k ok=>match ρ m with
  | .map none=>(bW C t (.map none) (ρ k) ok []).map .val
  |m=>some (.hget (bW C t m (ρ k) ok))
 | .mapUpdate t m k v=>some (.hop (bL C t (ρ m) (ρ k) (ρ v)))
 | .insert t m k v=>some (.hop (bL C t (ρ m) (ρ k) (ρ v)))
 | .mapEntry t m k=>some (.hop (bK C t (ρ m) (ρ k)))
 | .entryStore _ m s v=>some (.hop (bV (ρ m) (ρ s) (ρ v)))
 | .extract t i=>match ρ t with
  | .tuple vs=>if vs.size<=1 then none else(vs[i]?).map .val
  |_=>none
 | .call c=>eR C ρ c o
 | .unOp .. => bN C ρ o
 | .convert .. => bN C ρ o
 |_=>none
def bU{α:Type}{f:α->Bool}{l:List α}(h:l.all f=true){i:Nat}{x:α}(hx:l[i]?=some x):f x=true:=
 qab.1 h x (qaq hx)
def dy{c:Value}(h:aZ c=true):c.cells = #[c]:=by
 cases c<;>first|rfl|(simp[aZ]at h)
section
variable [Val]
def den1:Value->Value
 | .tuple vs=>match vs.toList with
  | [.agg cs]=>match pU cs with
   |some k=>.int k (Val.num cs)
   |none=>.tuple vs
  |_=>.tuple vs
 |v=>v
def den:Value->Value
 | .agg cs=>.agg (cs.map den1)
 |v=>den1 v
def gI(v:Value):Bool:=scalar v||gz v
def plain:Value->Bool
 | .agg cs=>cs.toList.all gI
 |v=>gI v
def isSelect:Op->Bool
 | .select .. => true
 | .defer _=>true
 |_=>false
def gK(C:Cfg)(tmps:Tl)(o:Oper)(v:Value):Prop:=
 isSelect o.op=false/\o.op.operands.toList.all (λx=>plain (oval tmps x))=true/\plain v=true/\
  ∀w,(execOp (λx=>den (oval tmps x)) o).run C.P w = .ok (.value (den v)) w
def eB(σ σ':St):Prop:=
 σ'.loc=σ.loc/\σ'.heap=σ.heap/\σ'.tmps.length=σ.tmps.length/\
  ∀(i:Nat) x y,σ.tmps[i]?=some x->σ'.tmps[i]?=some y->y=x∨(plain x=true/\plain y=true/\den x=den y)
abbrev _root_.Tm:=Array Oper
def bD(ops:Tm)(tmps:Tl)(o:Oper):Option Bool:=
 match o.guard with
 |none=>some true
 |some (j,want)=>
  match ((ops[j]?).bind (·.dst)).bind (tmps[·]?)with
  |some (.bool b)=>some (b==want)
  |some (.tuple vs)=>if vs.size=1 then none else some false
  |_=>some false
structure Below where
 call:TJ->Tl->Ts->Value->Ts->Prop
 yield:Nat->Tl->Ts->Value->Ts->Prop
def im(B:Below)(e:Eff)(dst:Tn)(σ σ':St):Prop:=
 match e with
 | .call f args=>∃r H,B.call f args σ.heap r H/\σ'=({ σ with heap:=H }:St).put dst r
 | .yield l args=>∃r H,B.yield l args σ.heap r H/\σ'=({ σ with heap:=H }:St).put dst r
 |e=>∃p,aA σ e=some p/\σ'=p.1.put dst p.2
def ae(C:Cfg)(B:Below)(pts:Tz)(ops:Tm)(i:Nat)(σ σ':St):Prop:=
 match ops[i]? with
 |none=>σ'=σ
 |some o=>
  match bD ops σ.tmps o with
  |none=>False
  |some false=>σ'=σ.put o.dst undef
  |some true=>(∃e,ak C pts (oval σ.tmps) o=some e/\im B e o.dst σ σ')∨(∃v,gK C σ.tmps o v/\σ'=σ.put o.dst v)
def aT(C:Cfg)(B:Below)(pts:Tz)(ops:Tm):Tz->St->St->Prop
 | [],σ,σ'=>σ'=σ
 |i :: l,σ,σ'=>∃σ₁,ae C B pts ops i σ σ₁/\aT C B pts ops l σ₁ σ'
def eh(C:Cfg)(B:Below)(pts:Tz)(ops:Tm):Tz->St->St->Prop
 | [],σ,σ'=>σ'=σ
 |i :: l,σ,σ'=>∃σ₀ σ₁,eB σ σ₀/\ae C B pts ops i σ₀ σ₁/\eh C B pts ops l σ₁ σ'
inductive Fresh:(Nat->Value)->Prop
 |ptr:Fresh λn=>.pointer (some ⟨n,0,none⟩)
 |slice (e l c:Nat):Fresh λn=>.slice (some ⟨n,0,tag e⟩) l c
 |map:Fresh λn=>.map (some n)
def di(C:Cfg)(B:Below)(pts:Tz)(ops:Tm)(sl:Nat->Tp)(i:Nat)(σ σ':St):Prop:=
 match sl i with
 |none=>ae C B pts ops i σ σ'
 |some k=>∃o f Hx x mk,ops[i]?=some o/\bD ops σ.tmps o=some true/\ak C pts (oval σ.tmps) o=some (.hop f)/\f σ.heap=some (Hx++[x],mk σ.heap.length)/\
   Hx.length=σ.heap.length/\Hx[k]?=some .dead/\Fresh mk/\σ'=({ σ with heap:=Hx.set k x }:St).put o.dst (mk k)
def gq(C:Cfg)(B:Below)(pts:Tz)(ops:Tm)(sl:Nat->Tp):Tz->St->St->Prop
 | [],σ,σ'=>σ'=σ
 |i :: l,σ,σ'=>i∉l/\∃σ₁,di C B pts ops sl i σ σ₁/\gq C B pts ops sl l σ₁ σ'
def St.pad(σ:St)(n:Nat):St:={ σ with heap:=σ.heap++List.replicate n .dead }
def cI(pts:Tz)(o:Oper):Bool:=
 match o.op with
 | .buildSlice _ _ _ | .makeMap _ _ | .makeSlice _ _ _=>true
 | .alloc _ | .box _ _=>match o.dst with
  |some d=>!Nat.beq (pts.getD d 0) (d+2)
  |none=>false
 | .call c=>match c.callee with
  | .builtin .append=>true
  |_=>false
 |_=>false
def dm(C:Cfg)(B:Below)(pts:Tz)(ops:Tm)(σ σ':St):Prop:=
 (∀t,aT C B pts ops (Region.linearise .any ops t) σ σ')∨
 ∃sl n,ops.toList.any (cI pts)=true/\(∀i k,sl i=some k->σ.heap.length<=k/\k<σ.heap.length+n)/\(∀i j k,sl i=some k->sl j=some k->i=j)/\
  ∀t,gq C B pts ops sl (Region.linearise .any ops t) (σ.pad n) σ'
def az(pts:Tz):Code->List Nat
 | .region _ ops _=>ops.toList.filterMap λo=>
  match o.op,o.dst with
  | .box ..,some d=>if pts.getD d 0=d+2 then some d else none
  | .alloc _,some d=>if pts.getD d 0=d+2 then some d else none
  |_,_=>none
 | .seq a b=>az pts a++az pts b
 | .cond _ a b=>az pts a++az pts b
 | .block _ b=>az pts b
 | .loop b=>az pts b
 | .rangeFunc _ _ a b=>az pts a++az pts b
 | .scope b=>az pts b
 |_=>[]
def gF(keys:Tz)(v:Value):Value:=
 match v with
 | .pointer (some a)=>if a.spot=some 0&&keys.contains a.block then poison else v
 |v=>if noLoc v then v else poison
def fE(keys:Tz):List (Option (Tl))->Nat->List (Option (Tl))
 | [],_=>[]
 |x :: l,i=>(if keys.contains i then none else x) :: fE keys l (i+1)
def St.clear(σ:St)(keys:Tz):St:=
 if keys=[]then σ else { σ with tmps:=σ.tmps.map (gF keys),loc:=fE keys σ.loc 0 }
def tr(tmps tm:Tl):Prop:=tm.length=tmps.length/\∀(i:Nat) x,tm[i]?=some x->x=poison∨(tmps[i]?=some x/\noLoc x=true)
def cb:List Tmp->Tl->Tl->List Value
 |t :: ts,v :: vs,tmps=>cb ts vs (tmps.set t v)
 |_,_,tmps=>tmps
def dG(H:Ts)(l:Nat):Option ALoop:=
 match H[l]? with
 |some (.loop r)=>some r
 |_=>none
abbrev _root_.Tk:=Option Code
def jumpOf:Exit->Option (Tk)
 | .normal=>some none
 | .ret=>some (some .ret)
 | .exit id=>some (some (.exit id))
 |_=>none
def tH:Tk->Option Exit
 |none=>some .normal
 |some .ret=>some .ret
 |some (.exit id)=>some (.exit id)
 |_=>none
def ej(C:Cfg)(σ:St):ResultVar->Option Value
 | .tmp t=>some (σ.tmps.getD t undef)
 | .cell a t=>
  match σ.tmps.getD a undef with
  | .pointer (some p)=>
   match p.spot with
   |none=>(ea σ.heap p.block).bind λvs=>cK C.P t vs p.off
   |some 0=>match σ.loc[p.block]? with
    |some (some vs)=>cK C.P t vs p.off
    |_=>none
   |_=>none
  |_=>none
def cv(C:Cfg)(σ:St):List ResultVar->Option (Tl)
 | []=>some []
 |r :: rs=>match ej C σ r,cv C σ rs with
  |some v,some vs=>some (v :: vs)
  |_,_=>none
def eM:Tl->Value
 | [v]=>v
 |vs=>.tuple vs.toArray
def jK(fn:Func)(args:Tl)(H:Ts):St:=
 { tmps:=args++List.replicate (fn.ntmps - args.length) undef,loc:=List.replicate fn.ntmps none,heap:=H }
structure Sems extends Below where
 ex:Tz->Code->St->Exit->St->Prop
def gP(id:Nat):Exit->Exit
 | .exit i=>if i=id then .normal else .exit i
 |e=>e
def lE(C:Cfg)(S:Sems)(fid:Tz):Code->St->Exit->St->Prop
 | .skip,σ,e,σ'=>e = .normal/\σ'=σ
 | .label _,σ,e,σ'=>e = .normal/\σ'=σ
 | .ret,σ,e,σ'=>e = .ret/\σ'=σ
 | .exit id,σ,e,σ'=>e = .exit id/\σ'=σ
 | .goto _,_,_,_=>False
 | .refuse _,_,_,_=>False
 | .seq a b,σ,e,σ'=>∃e₁ σ₁,S.ex fid a σ e₁ σ₁/\((e₁ = .normal/\S.ex fid b σ₁ e σ')∨(e₁≠.normal/\e=e₁/\σ'=σ₁))
 | .cond c a b,σ,e,σ'=>∃t,oval σ.tmps c = .bool t/\S.ex fid (if t then a else b) σ e σ'
 | .block id b,σ,e,σ'=>∃e₁,S.ex fid b σ e₁ σ'/\e=gP id e₁
 | .loop b,σ,e,σ'=>∃e₁ σ₁,S.ex fid b (σ.clear (az fid b)) e₁ σ₁/\((e₁ = .normal/\S.ex fid (.loop b) σ₁ e σ')∨(e₁≠.normal/\e=e₁/\σ'=σ₁))
 | .scope b,σ,e,σ'=>S.ex fid b σ e σ'
 | .region _ ops draw,σ,e,σ'=>e = .normal/\(if draw then ∃σ₀,eB σ σ₀/\dm C S.toBelow fid ops σ₀ σ' else eh C S.toBelow fid ops (List.range ops.size) σ σ')
 | .rangeFunc f params assign body,σ,e,σ'=>
  fid≠[]/\∃g first cap φ tm r H r₂,tr σ.tmps tm/\
   oval σ.tmps f = .func (.func g) first cap/\noLoc (.func (.func g) first cap)=true/\
   S.call g (first.toList++[.func (.yield σ.heap.length) #[] #[]]++cap.toList)
    (σ.heap++[.loop { state:=.ready,pending:=none,fn:=φ,tmps:=tm,params:=params.toList,assign,body }]) r H/\
   dG H σ.heap.length=some r₂/\r₂.state≠.busy/\tH r₂.pending=some e/\
   σ' = { σ with heap:=H.set σ.heap.length (.loop { r₂ with state:=.exhausted }) }
def kA(C:Cfg)(S:Sems)(f:TJ)(args:Tl)(H:Ts)(r:Value)(H':Ts):Prop:=
 ∃fn b e σ vs,C.P.funcs[f]?=some fn/\fn.body=some b/\((fn.name == "runtime.NumGoroutine")||C.opq f)=false/\
  S.ex (C.pts f) b (jK fn args H) e σ/\(e = .normal∨e = .ret)/\cv C σ fn.results.toList=some vs/\
  r=eM vs/\noLoc r=true/\H'=σ.heap
def iS(_C:Cfg)(S:Sems)(l:Nat)(args:Tl)(H:Ts)(r:Value)(H':Ts):Prop:=
 ∃lp σ₁ lp₁ e σ₂ lp₂ j,dG H l=some lp/\args.length=lp.params.length/\
  S.ex [] lp.assign { tmps:=cb lp.params args lp.tmps,loc:=[],heap:=H } .normal σ₁/\
  dG σ₁.heap l=some lp₁/\lp₁.state = .ready/\
  S.ex [] lp.body { σ₁ with heap:=σ₁.heap.set l (.loop { lp₁ with state:=.busy }) } e σ₂/\jumpOf e=some j/\
  dG σ₂.heap l=some lp₂/\r = .bool j.isNone/\
  H'=σ₂.heap.set l (.loop { lp₂ with state:=if j.isNone then .ready else .done,pending:=j })
abbrev Known:=FuncId->Tl->Ts->Value->Ts->Prop
def sems(C:Cfg)(K:Known):Nat->Sems
 |0=>{ call:=K,yield:=λ_ _ _ _ _=>False,ex:=λ_ _ _ _ _=>False }
 |n+1=>{ call:=λf args H r H'=>K f args H r H'∨kA C (sems C K n) f args H r H',yield:=iS C (sems C K n),ex:=lE C (sems C K n) }
end
structure Pl where
 b:Nat
 o:Nat
 room:Nat
 esz:Nat
abbrev LMap:=Nat->Option Nat
abbrev HMap:=Nat->Option Pl
def noL:LMap:=λ_=>none
section
variable [Val] [Glo]
abbrev _root_.TF:=IntKind
inductive VR(la:LMap)(mu:HMap):Value->Value->Prop
 |poison (c:Value):VR la mu (.tuple #[.tuple #[]]) c
 |sym {cs:Tj} {k:TF} (h:pU cs=some k):VR la mu (.tuple #[.agg cs]) (.int k (Val.num cs))
 |scalar {v:Value} (h:scalar v=true):VR la mu v v
 |agg {a c:Tj} (hs:a.size=c.size) (h:∀(i:Nat) (x y:Value),a[i]?=some x->c[i]?=some y->VR la mu x y):VR la mu (.agg a) (.agg c)
 |tuple {a c:Tj} (hn:a.size≠1) (hs:a.size=c.size) (h:∀(i:Nat) (x y:Value),a[i]?=some x->c[i]?=some y->VR la mu x y):VR la mu (.tuple a) (.tuple c)
 |func {fn:Fn} {a b a' b':Tj} (hf:∀l,fn≠.yield l) (ha:a.size=a'.size) (hb:b.size=b'.size)
   (h₁:∀(i:Nat) (x y:Value),a[i]?=some x->a'[i]?=some y->VR la mu x y) (h₂:∀(i:Nat) (x y:Value),b[i]?=some x->b'[i]?=some y->VR la mu x y) :
   VR la mu (.func fn a b) (.func fn a' b')
 |yield {l:Nat} {p:Pl} (h:mu l=some p):VR la mu (.func (.yield l) #[] #[]) (.func (.yield p.b) #[] #[])
 |lptr {s off b:Nat} (h:la s=some b):VR la mu (.pointer (some ⟨s,off,some 0⟩)) (.pointer (some ⟨b,off,none⟩))
 |hptr {id off:Nat} {p:Pl} (h:mu id=some p):VR la mu (.pointer (some ⟨id,off,none⟩)) (.pointer (some ⟨p.b,p.o+off,none⟩))
 |gptr {g off:Nat}:VR la mu (.pointer (some ⟨g,off,some 1⟩)) (.pointer (some ⟨gBlk g,gOff g+off,none⟩))
 |hslice {id off len cap cx:Nat} {p:Pl} (h:mu id=some p) (hr:off+cap*p.esz<=p.room) (hl:len<=cap) (hx:cx=0∨cx=cap+1) :
   VR la mu (.slice (some ⟨id,off,tag p.esz⟩) len cx) (.slice (some ⟨p.b,p.o+off,none⟩) len cap)
 |hslice0 {id off cx esz:Nat} {a:Addr} (hx:cx<=1):VR la mu (.slice (some ⟨id,off,tag esz⟩) 0 cx) (.slice (some a) 0 0)
 |gslice {g off len cap cx:Nat} (hl:len<=cap) (hx:cx=0∨cx=cap+1):VR la mu (.slice (some ⟨g,off,some 1⟩) len cx) (.slice (some ⟨gBlk g,gOff g+off,none⟩) len cap)
 |gslice0 {g off cx:Nat} {a:Addr} (hx:cx<=1):VR la mu (.slice (some ⟨g,off,some 1⟩) 0 cx) (.slice (some a) 0 0)
 |map {id:Nat} {p:Pl} (h:mu id=some p):VR la mu (.map (some id)) (.map (some p.b))
def VR.mono{la la':LMap}{mu mu':HMap}{a c:Value}(h:VR la mu a c)(hl:∀s b,la s=some b->la' s=some b)(hm:∀i p,mu i=some p->mu' i=some p) :
  VR la' mu' a c:=by
 induction h with
 |poison c=>exact .poison c
 |sym h=>exact .sym h
 |scalar h=>exact .scalar h
 |agg hs _ ih=>exact .agg hs ih
 |tuple hn hs _ ih=>exact .tuple hn hs ih
 |func hf ha hb _ _ ih1 ih2=>exact .func hf ha hb ih1 ih2
 |yield h=>exact .yield (hm _ _ h)
 |lptr h=>exact .lptr (hl _ _ h)
 |hptr h=>exact .hptr (hm _ _ h)
 |gptr=>exact .gptr
 |hslice h hr hl' hx=>exact .hslice (hm _ _ h) hr hl' hx
 |hslice0 hx=>exact .hslice0 hx
 |gslice hl' hx=>exact .gslice hl' hx
 |gslice0 hx=>exact .gslice0 hx
 |map h=>exact .map (hm _ _ h)
def VR.up{la:LMap}{mu:HMap}{a c:Value}(h:VR noL mu a c):VR la mu a c:=
 h.mono (λ_ _ h=>by cases h) (λ_ _ h=>h)
def VR.undef{la:LMap}{mu:HMap}:VR la mu undef undef:=.tuple (by simp) rfl λi x y h=>by simp at h
def bw{la:LMap}{mu:HMap}{a c:Value}(hs:scalar a=true)(h:VR la mu a c):c=a:=by
 cases h<;>first|rfl|(simp[Am.scalar]at hs)
def gc{la:LMap}{mu:HMap}{a c:Value}(hs:en a=true)(h:VR la mu a c):c=a:=by
 cases a with
 |agg cs=>
  cases h with
  |scalar _=>rfl
  |agg hsz h=>
   rename_i ds
   simp only[en]at hs
   congr 1
   apply Array.ext hsz.symm
   intro i h1 h2
   exact bw (bU (i:=i) hs (by simp[h2])) (h i cs[i] ds[i] (by simp[h2]) (by simp[h1]))
 |_=>exact bw hs h
def oY{la:LMap}{mu:HMap}{a c:Value}(hs:flat a=true)(h:VR la mu a c):c=a:=by
 cases a with
 |tuple cs=>
  cases h with
  |poison c=>simp[flat,en,Am.scalar]at hs
  |sym _=>simp[flat]at hs
  |scalar _=>rfl
  |tuple hn hsz h=>
   rename_i ds
   simp only[flat,qaa]at hs
   replace hs:=hs.2
   congr 1
   apply Array.ext hsz.symm
   intro i h1 h2
   exact gc (bU (i:=i) hs (by simp[h2])) (h i cs[i] ds[i] (by simp[h2]) (by simp[h1]))
 |_=>exact gc hs h
def VR.of_flat1{la:LMap}{mu:HMap}{v:Value}(h:en v=true):VR la mu v v:=by
 cases v with
 |agg cs=>
  refine .agg rfl λi x y hx hy=>?_
  obtain rfl:x=y:=by rw[hx]at hy;exact qan hy
  exact .scalar (bU (i:=i) (l:=cs.toList) h (by simpa using hx))
 |_=>exact .scalar h
def VR.of_flat{la:LMap}{mu:HMap}{v:Value}(h:flat v=true):VR la mu v v:=by
 cases v with
 |tuple cs=>
  simp only[flat,qaa,bne_iff_ne]at h
  refine .tuple h.1 rfl λi x y hx hy=>?_
  obtain rfl:x=y:=by rw[hx]at hy;exact qan hy
  exact .of_flat1 (bU (i:=i) (l:=cs.toList) h.2 (by simpa using hx))
 |_=>exact .of_flat1 h
def ee{la:LMap}{mu:HMap}{a c:Value}(hs:bF a=true)(h:VR la mu a c):VR noL mu a c:=by
 cases h with
 |poison c=>simp[bF,gz]at hs
 |sym h=>exact .sym h
 |scalar h=>exact .scalar h
 |agg _ _=>simp[bF]at hs
 |tuple hn _ _=>exact absurd (eL hs) hn
 |func _ _ _ _ _=>simp[bF]at hs
 |yield h=>simp[bF]at hs
 |lptr h=>simp[bF]at hs
 |hptr h=>exact .hptr h
 |gptr=>exact .gptr
 |hslice h hr hl' hx=>exact .hslice h hr hl' hx
 |hslice0 hx=>exact .hslice0 hx
 |gslice hl' hx=>exact .gslice hl' hx
 |gslice0 hx=>exact .gslice0 hx
 |map h=>exact .map h
def lz{f g:Value->Bool}{la:LMap}{mu:HMap}
  (hf:∀a c,f a=true->VR la mu a c->VR noL mu a c)
  (hagg:∀cs,g (.agg cs)=cs.toList.all f) (hfun:∀fn a b,g (.func fn a b)=(a.toList.all f&&b.toList.all f))
  (htup:∀vs,g (.tuple vs)=true->vs.toList.all f=true∨gz (.tuple vs)=true)
  (hel:∀v,(∀cs,v≠.agg cs)->(∀fn a b,v≠.func fn a b)->(∀vs,v≠.tuple vs)->g v=f v)
  {a c:Value} (hs:g a=true) (h:VR la mu a c):VR noL mu a c:=by
 cases h with
 |poison c=>exact .poison c
 |sym h=>exact .sym h
 |scalar h=>exact .scalar h
 |agg hsz h=>
  rw[hagg]at hs
  exact .agg hsz λi x y hx hy=>hf _ _ (bU (i:=i) hs (by simpa using hx)) (h i x y hx hy)
 |tuple hn hsz h=>
  have:=(htup _ hs).resolve_right λhh=>hn (eL hh)
  exact .tuple hn hsz λi x y hx hy=>hf _ _ (bU (i:=i) this (by simpa using hx)) (h i x y hx hy)
 |func h0 ha hb h1 h2=>
  rw[hfun,qaa]at hs
  exact .func h0 ha hb (λi x y hx hy=>hf _ _ (bU (i:=i) hs.1 (by simpa using hx)) (h1 i x y hx hy))
   (λi x y hx hy=>hf _ _ (bU (i:=i) hs.2 (by simpa using hx)) (h2 i x y hx hy))
 |yield h=>exact .yield h
 |lptr h=>
  rw[hel _ (by simp) (by simp) (by simp)]at hs
  exact hf _ _ hs (.lptr h)
 |hptr h=>exact .hptr h
 |gptr=>exact .gptr
 |hslice h hr hl' hx=>exact .hslice h hr hl' hx
 |hslice0 hx=>exact .hslice0 hx
 |gslice hl' hx=>exact .gslice hl' hx
 |gslice0 hx=>exact .gslice0 hx
 |map h=>exact .map h
def sD{la:LMap}{mu:HMap}{a c:Value}(hs:co a=true)(h:VR la mu a c):VR noL mu a c:=
 lz (f:=bF) (g:=co) (λ_ _=>ee) (λ_=>rfl) (λ_ _ _=>rfl)
  (λvs h=>by
   have h':(vs.size==0||gz (.tuple vs))=true:=h
   simp only[qaX,beq_iff_eq]at h'
   rcases h' with h'|h'
   ·left;simp at h';simp[h']
   ·exact .inr h') (λv h1 h2 h3=>by cases v<;>first|rfl|exact absurd rfl (h1 _)|exact absurd rfl (h2 _ _ _)|exact absurd rfl (h3 _)) hs h
def eg{la:LMap}{mu:HMap}{a c:Value}(hs:bg a=true)(h:VR la mu a c):VR noL mu a c:=
 lz (f:=co) (g:=bg) (λ_ _=>sD) (λ_=>rfl) (λ_ _ _=>rfl)
  (λ_ h=>.inl h) (λv h1 h2 h3=>by cases v<;>first|rfl|exact absurd rfl (h1 _)|exact absurd rfl (h2 _ _ _)|exact absurd rfl (h3 _)) hs h
def df{la:LMap}{mu:HMap}{a c:Value}(hs:noLoc a=true)(h:VR la mu a c):VR noL mu a c:=
 lz (f:=bg) (g:=noLoc) (λ_ _=>eg) (λ_=>rfl) (λ_ _ _=>rfl)
  (λ_ h=>.inl h) (λv h1 h2 h3=>by cases v<;>first|rfl|exact absurd rfl (h1 _)|exact absurd rfl (h2 _ _ _)|exact absurd rfl (h3 _)) hs h
def rV{la:LMap}{mu:HMap}{a c:Value}(hs:aI a=true)(h:VR la mu a c):VR noL mu a c:=
 df (by simp only[aI,qaa]at hs;exact hs.1) h
def jk{la:LMap}{mu:HMap}{a c:Value}(hs:aZ a=true)(h:VR la mu a c):aZ c=true:=by
 cases h with
 |poison c=>simp[aZ,gz]at hs
 |sym _=>rfl
 |tuple hn _ _=>exact absurd (eL hs) hn
 |scalar h=>exact hs
 |_=>first|rfl|(simp[aZ]at hs)
def sE{la:LMap}{mu:HMap}{a:Value}{vs:Tj}(hs:aZ a=true)(h:VR la mu a (.tuple vs)):False:=by
 cases h with
 |poison c=>simp[aZ,gz]at hs
 |tuple hn _ _=>exact absurd (eL hs) hn
 |scalar h=>simp[Am.scalar]at h
def VRs(la:LMap)(mu:HMap)(vs cs:Tl):Prop:=vs.length=cs.length/\∀(i:Nat) (x y:Value),vs[i]?=some x->cs[i]?=some y->VR la mu x y
def VRs.nil{la:LMap}{mu:HMap}:VRs la mu [] []:=⟨rfl,λi x y h=>by simp at h⟩
def VRs.cons{la:LMap}{mu:HMap}{v c:Value}{vs cs:Tl}(h:VR la mu v c)(hs:VRs la mu vs cs):VRs la mu (v :: vs) (c :: cs):=by
 refine⟨by simp[hs.1],λi x y hx hy=>?_⟩
 cases i with
 |zero=>simp at hx hy;subst hx hy;exact h
 |succ i=>exact hs.2 i x y (by simpa using hx) (by simpa using hy)
def VRs.head{la:LMap}{mu:HMap}{v c:Value}{vs cs:Tl}(h:VRs la mu (v :: vs) (c :: cs)):VR la mu v c:=h.2 0 v c rfl rfl
def VRs.tail{la:LMap}{mu:HMap}{v c:Value}{vs cs:Tl}(h:VRs la mu (v :: vs) (c :: cs)):VRs la mu vs cs:=
 ⟨by have:=h.1;simpa using this,λi x y hx hy=>h.2 (i+1) x y (by simpa using hx) (by simpa using hy)⟩
def VRs.uncons{la:LMap}{mu:HMap}{v:Value}{vs cs:Tl}(h:VRs la mu (v :: vs) cs):∃c cs',cs=c :: cs'/\VR la mu v c/\VRs la mu vs cs':=by
 cases cs with
 |nil=>have:=h.1;simp at this
 |cons c cs=>exact⟨c,cs,rfl,h.head,h.tail⟩
def VRs.unnil{la:LMap}{mu:HMap}{cs:Tl}(h:VRs la mu [] cs):cs=[]:=by
 have:=h.1;cases cs<;>simp_all
def VRs.append{la:LMap}{mu:HMap}{vs cs vs' cs':Tl}(h:VRs la mu vs cs)(h':VRs la mu vs' cs'):VRs la mu (vs++vs') (cs++cs'):=by
 refine⟨by simp[h.1,h'.1],λi x y hx hy=>?_⟩
 have e:=h.1
 by_cases hi:i<vs.length
 ·rw[qaf hi]at hx
  rw[qaf (by omega)]at hy
  exact h.2 i x y hx hy
 ·rw[qak (by omega)]at hx
  rw[qak (by omega)]at hy
  rw[←e]at hy
  exact h'.2 _ x y hx hy
def VRs.mono{la la':LMap}{mu mu':HMap}{vs cs:Tl}(h:VRs la mu vs cs)(hl:∀s b,la s=some b->la' s=some b)(hm:∀i p,mu i=some p->mu' i=some p) :
  VRs la' mu' vs cs:=⟨h.1,λi x y hx hy=>(h.2 i x y hx hy).mono hl hm⟩
def VRs.up{la:LMap}{mu:HMap}{vs cs:Tl}(h:VRs noL mu vs cs):VRs la mu vs cs:=⟨h.1,λi x y hx hy=>(h.2 i x y hx hy).up⟩
def VRs.down{la:LMap}{mu:HMap}{vs cs:Tl}(hv:vs.all noLoc=true)(h:VRs la mu vs cs):VRs noL mu vs cs:=
 ⟨h.1,λi x y hx hy=>df (bU hv hx) (h.2 i x y hx hy)⟩
def VRs.downc{la:LMap}{mu:HMap}{vs cs:Tl}(hv:vs.all aI=true)(h:VRs la mu vs cs):VRs noL mu vs cs:=
 ⟨h.1,λi x y hx hy=>rV (bU hv hx) (h.2 i x y hx hy)⟩
def VRs.map{la:LMap}{mu:HMap}{α:Type}{f g:α->Value}(l:List α)(h:∀x,x∈l->VR la mu (f x) (g x)):VRs la mu (l.map f) (l.map g):=by
 induction l with
 |nil=>exact .nil
 |cons a l ih=>exact .cons (h a (by simp)) (ih λx hx=>h x (by simp[hx]))
def VRs.take{la:LMap}{mu:HMap}{vs cs:Tl}(h:VRs la mu vs cs)(n:Nat):VRs la mu (vs.take n) (cs.take n):=by
 refine⟨by simp[h.1],λi x y hx hy=>?_⟩
 rw[qbi]at hx hy
 split at hx
 next hi=>rw[qdq hi]at hy;exact h.2 i x y hx hy
 ·cases hx
def VRs.drop{la:LMap}{mu:HMap}{vs cs:Tl}(h:VRs la mu vs cs)(n:Nat):VRs la mu (vs.drop n) (cs.drop n):=by
 refine⟨by simp[h.1],λi x y hx hy=>?_⟩
 rw[qa8]at hx hy
 exact h.2 _ x y hx hy
def VRs.set{la:LMap}{mu:HMap}{vs cs:Tl}(h:VRs la mu vs cs)(n:Nat){v c:Value}(hv:VR la mu v c):VRs la mu (vs.set n v) (cs.set n c):=by
 refine⟨by simp[h.1],λi x y hx hy=>?_⟩
 rw[qaD]at hx hy
 by_cases hn:n=i
 ·subst hn
  simp only[if_true]at hx hy
  split at hx
  next hl=>
   rw[qdq (by rw[←h.1];exact hl)]at hy
   simp at hx hy;subst hx hy;exact hv
  ·cases hx
 ·rw[qdr hn]at hx hy
  exact h.2 i x y hx hy
def VRs.replicate{la:LMap}{mu:HMap}(n:Nat){v c:Value}(hv:VR la mu v c):VRs la mu (List.replicate n v) (List.replicate n c):=by
 induction n with
 |zero=>exact .nil
 |succ n ih=>exact .cons hv ih
def VRs.get{la:LMap}{mu:HMap}{vs cs:Tl}(h:VRs la mu vs cs){i:Nat}{x:Value}(hx:vs[i]?=some x):∃y,cs[i]?=some y/\VR la mu x y:=by
 have hi:i<vs.length:=by
  rcases qaC i vs.length with h|h
  ·exact h
  ·rw[qae h]at hx;cases hx
 have hj:i<cs.length:=by have:=h.1;omega
 exact⟨cs[i],by simp[hj],h.2 i x _ hx (by simp[hj])⟩
def VRs.agg{la:LMap}{mu:HMap}{a c:Tj}(h:VRs la mu a.toList c.toList):VR la mu (.agg a) (.agg c):=
 .agg (by simpa using h.1) λi x y hx hy=>h.2 i x y (by simpa using hx) (by simpa using hy)
def VR.unagg{la:LMap}{mu:HMap}{a:Tj}{c:Value}(h:VR la mu (.agg a) c):∃d,c = .agg d/\VRs la mu a.toList d.toList:=by
 cases h with
 |scalar h=>simp[Am.scalar]at h
 |agg hs h=>exact⟨_,rfl,by simpa using hs,λi x y hx hy=>h i x y (by simpa using hx) (by simpa using hy)⟩
def VRs.tuple{la:LMap}{mu:HMap}{a c:Tj}(h:VRs la mu a.toList c.toList)(hn:a.size≠1:=by simp):VR la mu (.tuple a) (.tuple c):=
 .tuple hn (by simpa using h.1) λi x y hx hy=>h.2 i x y (by simpa using hx) (by simpa using hy)
def VR.untuple{la:LMap}{mu:HMap}{a:Tj}{c:Value}(hn:a.size≠1)(h:VR la mu (.tuple a) c):∃d,c = .tuple d/\VRs la mu a.toList d.toList:=by
 cases h with
 |poison c=>simp at hn
 |sym _=>simp at hn
 |scalar h=>simp[Am.scalar]at h
 |tuple _ hs h=>exact⟨_,rfl,by simpa using hs,λi x y hx hy=>h i x y (by simpa using hx) (by simpa using hy)⟩
def VR.cells{la:LMap}{mu:HMap}{a c:Value}(ht:aB a=false)(h:VR la mu a c):VRs la mu a.cells.toList c.cells.toList:=by
 cases a with
 |agg cs=>
  obtain⟨d,rfl,hd⟩:=h.unagg
  exact hd
 |tuple vs=>
  have hs:aZ (.tuple vs)=true:=by simpa[aB,aZ]using ht
  rw[dy (jk hs h)]
  exact .cons h .nil
 |_=>
  rw[dy (jk rfl h)]
  exact .cons h .nil
end
section
variable [Val] [Glo]
def dZ(mu:HMap)(e e':MapEntry):Prop:=e'.key=e.key/\en e.key=true/\e'.born=e.born/\VR noL mu e.val e'.val
def objR(mu:HMap)(p:Pl)(x:Option Obj):HObj->Prop
 | .cells vs esz rw=>p.esz=esz/\vs.length<=p.room/\vs.all aI=true/\∃c e fr,x=some (.cells c e fr)/\c.size=p.o+p.room/\(rw=true->fr=(0,0))/\
   ∀(i:Nat) v,vs[i]?=some v->∃v',c[p.o+i]?=some v'/\VR noL mu v v'
 | .map es clock=>∃es',x=some (.map es' clock)/\es'.size=es.length/\∀(i:Nat) e,es[i]?=some e->∃e',es'[i]?=some e'/\dZ mu e e'
 | .loop r=>∃L:Loop,x=some (.loop L)/\L.state=r.state/\L.pending=r.pending/\L.params.toList=r.params/\L.assign=r.assign/\L.body=r.body/\VRs noL mu r.tmps L.tmps.toList
 | .siter s pos=>x=some (.stringIter s pos)
 | .dead=>True
def dZ.mono{mu mu':HMap}(hm:∀i p,mu i=some p->mu' i=some p){e e':MapEntry}(h:dZ mu e e'):dZ mu' e e':=
 ⟨h.1,h.2.1,h.2.2.1,h.2.2.2.mono (λ_ _ h=>h) hm⟩
def objR.mono{mu mu':HMap}(hm:∀i p,mu i=some p->mu' i=some p){p:Pl}{x:Option Obj}{o:HObj}(h:objR mu p x o):objR mu' p x o:=by
 cases o with
 |cells vs esz rw=>
  obtain⟨h1,h2,h3,c,e,fr,h4,h5,h6,h7⟩:=h
  exact⟨h1,h2,h3,c,e,fr,h4,h5,h6,λi v hv=>let ⟨v',a,b⟩:=h7 i v hv;⟨v',a,b.mono (λ_ _ h=>h) hm⟩⟩
 |map es clock=>
  obtain⟨es',h1,h2,h3⟩:=h
  exact⟨es',h1,h2,λi e he=>let ⟨e',a,b⟩:=h3 i e he;⟨e',a,b.mono hm⟩⟩
 |loop r=>
  obtain⟨L,h1,h2,h3,h4,h5,h6,h7⟩:=h
  exact⟨L,h1,h2,h3,h4,h5,h6,h7.mono (λ_ _ h=>h) hm⟩
 |siter s pos=>exact h
 |dead=>trivial
def bE(mu:HMap)(vs:Tl)(c:Tj)(o:Nat):Prop:=∀(i:Nat) v,vs[i]?=some v->∃v',c[o+i]?=some v'/\VR noL mu v v'
def bE.mono{mu mu':HMap}{vs:Tl}{c:Tj}{o:Nat}(h:bE mu vs c o)(hm:∀i p,mu i=some p->mu' i=some p):bE mu' vs c o:=
 λi v hv=>let ⟨v',a,b⟩:=h i v hv;⟨v',a,b.mono (λ_ _ h=>h) hm⟩
structure WR(C:Cfg)(base:Nat)(mu:HMap)(H:Ts)(w:World):Prop where
 obj:∀id o,H[id]?=some o->o.alive=true->∃p,mu id=some p/\objR mu p w.heap[p.b]? o
 inj:∀(i j:Nat) oi oj pi pj,H[i]?=some oi->H[j]?=some oj->oi.owned=true->oj.alive=true->i≠j->mu i=some pi->mu j=some pj->pi.b≠pj.b
 own:∀(i:Nat) o p,H[i]?=some o->o.owned=true->mu i=some p->base<=p.b
 ro:∀(i:Nat) o p,H[i]?=some o->o.alive=true->o.owned=false->mu i=some p->p.b<base
 dom:∀id,H.length<=id->mu id=none
 glob:∀g vs,C.G g=some vs->gBlk g<base/\vs.all aI=true/\∃c e fr,w.heap[gBlk g]?=some (.cells c e fr)/\bE mu vs c (gOff g)
def Own(mu:HMap)(H:Ts)(b:Nat):Prop:=∃(id:Nat) (o:HObj) (p:Pl),H[id]?=some o/\o.owned=true/\mu id=some p/\p.b=b
def bj{o:HObj}(h:o.owned=true):o.alive=true:=by cases o<;>first|rfl|(simp[HObj.owned]at h)
structure Evo(H:Ts)(mu:HMap)(w:World)(H':Ts)(mu':HMap)(w':World):Prop where
 len:H.length<=H'.length
 same:∀id,id<H.length->mu' id=mu id
 size:w.heap.size<=w'.heap.size
 keep:∀b,b<w.heap.size->¬Own mu H b->w'.heap[b]?=w.heap[b]?
 steal:∀b,Own mu' H' b->w.heap.size<=b∨Own mu H b
 os:w'.os=w.os
 tape:w'.tape=w.tape
 output:w'.output=w.output
 dr:w.drawn<=w'.drawn
def Evo.refl(H:Ts)(mu:HMap)(w:World):Evo H mu w H mu w:=
 ⟨qam _,λ_ _=>rfl,qam _,λ_ _ _=>rfl,λ_ h=>.inr h,rfl,rfl,rfl,qam _⟩
def Evo.trans{H₁ H₂ H₃:Ts}{m₁ m₂ m₃:HMap}{w₁ w₂ w₃:World}(h:Evo H₁ m₁ w₁ H₂ m₂ w₂)(k:Evo H₂ m₂ w₂ H₃ m₃ w₃):Evo H₁ m₁ w₁ H₃ m₃ w₃ where
 len:=qbO h.len k.len
 same:=λid hi=>(k.same id (qcV hi h.len)).trans (h.same id hi)
 size:=qbO h.size k.size
 keep:=λb hb ho=>(k.keep b (qcV hb h.size) λho'=>(h.steal b ho').elim (λhh=>by omega) ho).trans (h.keep b hb ho)
 steal:=λb hb=>(k.steal b hb).elim (λhh=>.inl (qbO h.size hh)) (h.steal b)
 os:=k.os.trans h.os
 tape:=k.tape.trans h.tape
 output:=k.output.trans h.output
 dr:=qbO h.dr k.dr
def Evo.drew{H H':Ts}{m m':HMap}{w w':World}(h:Evo H m w H' m' w')(n:Nat)(hn:w'.drawn<=n):Evo H m w H' m' { w' with drawn:=n }:=
 ⟨h.len,h.same,h.size,h.keep,h.steal,h.os,h.tape,h.output,qbO h.dr hn⟩
def WR.drew{C:Cfg}{base:Nat}{mu:HMap}{H:Ts}{w:World}(h:WR C base mu H w)(n:Nat):WR C base mu H { w with drawn:=n }:=
 ⟨h.obj,h.inj,h.own,h.ro,h.dom,h.glob⟩
def Evo.mono{C:Cfg}{base:Nat}{H H':Ts}{m m':HMap}{w w':World}(h:Evo H m w H' m' w')(hw:WR C base m H w):∀i p,m i=some p->m' i=some p:=by
 intro i p hp
 rw[h.same i ?_];exact hp
 rcases qaC i H.length with h1|h1
 ·exact h1
 ·rw[hw.dom i h1]at hp;cases hp
def upd(mu:HMap)(i:Nat)(p:Pl):HMap:=λj=>if j=i then some p else mu j
def bh(mu:HMap)(i:Nat)(p:Pl):upd mu i p i=some p:=by simp[upd]
def dx(mu:HMap){i j:Nat}(p:Pl)(h:j≠i):upd mu i p j=mu j:=by simp[upd,h]
def iR{C:Cfg}{base:Nat}{H:Ts}{m:HMap}{w:World}(hw:WR C base m H w)(p:Pl):∀i q,m i=some q->upd m H.length p i=some q:=by
 intro i q hq
 by_cases hi:i=H.length
 ·subst hi;rw[hw.dom _ (qam _)]at hq;cases hq
 ·rw[dx _ _ hi];exact hq
def av{α:Type}{l:List α}{x y:α}{i:Nat}(h:(l++[x])[i]?=some y):(i<l.length/\l[i]?=some y)∨(i=l.length/\y=x):=by
 rcases qaC i l.length with hi|hi
 ·rw[qaf hi]at h;exact .inl ⟨hi,h⟩
 ·rw[qak hi]at h
  have h0:i - l.length=0:=by
   rcases qcU (i - l.length)with h0|h0
   ·exact h0
   ·rw[qae (by simp;omega)]at h;cases h
  rw[h0]at h
  exact .inr ⟨by omega,by simpa using h.symm⟩
def lY{mu:HMap}{p:Pl}{w:World}{o:HObj}(ha:o.alive=true)(h:objR mu p w.heap[p.b]? o):p.b<w.heap.size:=by
 rcases qaC p.b w.heap.size with h1|h1
 ·exact h1
 ·rw[qbw h1]at h
  cases o with
  |cells vs esz rw=>obtain⟨_,_,_,c,e,fr,h,_⟩:=h;cases h
  |map es clock=>obtain⟨es',h,_⟩:=h;cases h
  |loop r=>obtain⟨L,h,_⟩:=h;cases h
  |siter s pos=>cases h
  |dead=>cases ha
def WR.lt{C:Cfg}{base:Nat}{mu:HMap}{H:Ts}{w:World}(h:WR C base mu H w){id:Nat}{o:HObj}{p:Pl}(ho:H[id]?=some o)(ha:o.alive=true)(hp:mu id=some p):p.b<w.heap.size:=by
 obtain⟨q,hq,hr⟩:=h.obj id o ho ha
 obtain rfl:p=q:=by rw[hp]at hq;exact qan hq
 exact lY ha hr
def Old(mu mu':HMap)(H':Ts)(w':World):Prop:=∀id o,H'[id]?=some o->o.alive=true->∃p,mu' id=some p/\objR mu p w'.heap[p.b]? o
def WR.new{C:Cfg}{base:Nat}{mu:HMap}{H:Ts}{w w':World}(h:WR C base mu H w)(hb:base<=w.heap.size){x:Obj}(hw:w'.heap=w.heap.push x)
  (ho:w'.os=w.os) (ht:w'.tape=w.tape) (hu:w'.output=w.output) (o:HObj) (p:Pl) (hp:p.b=w.heap.size) (hr0:objR mu p (some x) o) (hro:o.alive=true->o.owned=true) (hd:w.drawn<=w'.drawn:=by exact qam _) :
  WR C base (upd mu H.length p) (H++[o]) w'/\Evo H mu w (H++[o]) (upd mu H.length p) w'/\Old mu (upd mu H.length p) (H++[o]) w':=by
 have hr:objR (upd mu H.length p) p (some x) o:=hr0.mono (iR h p)
 have hold:∀b,b<w.heap.size->w'.heap[b]?=w.heap[b]?:=λb hb=>by rw[hw,qbQ,qdr (by omega)]
 have hnew:w'.heap[p.b]?=some x:=by rw[hw,qbQ,qdq hp]
 have hm:=iR h p
 refine⟨⟨?_,?_,?_,?_,?_,?_⟩,⟨by simp,?_,by simp[hw],λb hb _=>hold b hb,?_,ho,ht,hu,hd⟩,λid o' hid ha=>?_⟩
 rotate_right
 ·rcases av hid with⟨hi,hid⟩|⟨rfl,rfl⟩
  ·obtain⟨q,hq,hr'⟩:=h.obj id o' hid ha
   exact⟨q,hm _ _ hq,by rw[hold _ (lY ha hr')];exact hr'⟩
  ·exact⟨p,bh _ _ _,by rw[hnew];exact hr0⟩
 ·intro id o' hid ha
  rcases av hid with⟨hi,hid⟩|⟨rfl,rfl⟩
  ·obtain⟨q,hq,hr'⟩:=h.obj id o' hid ha
   refine⟨q,hm _ _ hq,?_⟩
   rw[hold _ (lY ha hr')]
   exact hr'.mono hm
  ·exact⟨p,bh _ _ _,by rw[hnew];exact hr⟩
 ·intro i j oi oj pi pj hi hj hoi hoj hij hpi hpj
  rcases av hi with⟨hi',hi2⟩|⟨rfl,rfl⟩
  ·rw[dx _ _ (by omega)]at hpi
   rcases av hj with⟨hj',hj2⟩|⟨rfl,rfl⟩
   ·rw[dx _ _ (by omega)]at hpj
    exact h.inj i j oi oj pi pj hi2 hj2 hoi hoj hij hpi hpj
   ·rw[bh]at hpj
    obtain rfl:=qan hpj
    have:=h.lt hi2 (bj hoi) hpi
    omega
  ·rw[bh]at hpi
   obtain rfl:=qan hpi
   rcases av hj with⟨hj',hj2⟩|⟨rfl,rfl⟩
   ·rw[dx _ _ (by omega)]at hpj
    have:=h.lt hj2 hoj hpj
    omega
   ·exact absurd rfl hij
 ·intro i o' q hi ho' hq
  rcases av hi with⟨hi',hi2⟩|⟨rfl,rfl⟩
  ·rw[dx _ _ (by omega)]at hq
   exact h.own i o' q hi2 ho' hq
  ·rw[bh]at hq
   obtain rfl:=qan hq
   omega
 ·intro i o' q hi ha ho' hq
  rcases av hi with⟨hi',hi2⟩|⟨rfl,rfl⟩
  ·rw[dx _ _ (by omega)]at hq
   exact h.ro i o' q hi2 ha ho' hq
  ·rw[hro ha]at ho';cases ho'
 ·intro id hid
  simp at hid
  rw[dx _ _ (by omega)]
  exact h.dom id (by omega)
 ·intro g vs hg
  obtain⟨h1,h2,c,e,fr,h3,h4⟩:=h.glob g vs hg
  exact⟨h1,h2,c,e,fr,by rw[hold _ (by omega)];exact h3,h4.mono hm⟩
 ·intro id hid
  rw[dx _ _ (by omega)]
 ·rintro b ⟨id,o',q,hid,ho',hq,rfl⟩
  rcases av hid with⟨hi',hi⟩|⟨rfl,rfl⟩
  ·rw[dx _ _ (by omega)]at hq
   exact .inr ⟨id,o',q,hi,ho',hq,rfl⟩
  ·rw[bh]at hq
   obtain rfl:=qan hq
   exact .inl (by omega)
def get_set{α:Type}{l:List α}{x y:α}{i j:Nat}(h:(l.set i x)[j]?=some y):(j≠i/\l[j]?=some y)∨(j=i/\i<l.length/\y=x):=by
 rw[qaD]at h
 by_cases hij:i=j
 ·subst hij
  simp only[if_true]at h
  split at h
  next hl=>exact .inr ⟨rfl,hl,by simpa using h.symm⟩
  ·cases h
 ·rw[qdr hij]at h;exact .inl ⟨λe=>hij e.symm,h⟩
def WR.set{C:Cfg}{base:Nat}{mu:HMap}{H:Ts}{w w':World}(h:WR C base mu H w){id:Nat}{o:HObj}{p:Pl}(hid:H[id]?=some o)(ho:o.owned=true)
  (hp:mu id=some p) {x:Obj} (hw:w'.heap=w.heap.setIfInBounds p.b x) (hos:w'.os=w.os) (ht:w'.tape=w.tape) (hu:w'.output=w.output)
  (o':HObj) (ho':o'.alive=true->o'.owned=true) (hr:objR mu p (some x) o') (hd:w.drawn<=w'.drawn:=by exact qam _) :
  WR C base mu (H.set id o') w'/\Evo H mu w (H.set id o') mu w':=by
 have hlt:=h.lt hid (bj ho) hp
 have hbase:=h.own id o p hid ho hp
 have hsame:w'.heap[p.b]?=some x:=by rw[hw];simp[hlt]
 have hold:∀b,b≠p.b->w'.heap[b]?=w.heap[b]?:=λb hb=>by rw[hw,qbJ (qb9 hb)]
 have hback:∀(j:Nat) oj,(H.set id o')[j]?=some oj->oj.alive=true->∃oj',H[j]?=some oj'/\oj'.alive=true/\(oj.owned=true->oj'.owned=true):=by
  intro j oj hj ha
  rcases get_set hj with⟨_,hj⟩|⟨rfl,_,rfl⟩
  ·exact⟨oj,hj,ha,λh=>h⟩
  ·exact⟨o,hid,bj ho,λ_=>ho⟩
 refine⟨⟨?_,?_,?_,?_,?_,?_⟩,⟨by simp,λ_ _=>rfl,by simp[hw],?_,?_,hos,ht,hu,hd⟩⟩
 ·intro j oj hj ha
  rcases get_set hj with⟨hne,hj⟩|⟨rfl,_,rfl⟩
  ·obtain⟨q,hq,hr'⟩:=h.obj j oj hj ha
   refine⟨q,hq,?_⟩
   rw[hold q.b λe=>h.inj id j o oj p q hid hj ho ha (qb9 hne) hp hq e.symm]
   exact hr'
  ·exact⟨p,hp,by rw[hsame];exact hr⟩
 ·intro i j oi oj pi pj hi hj hoi hoj hij hpi hpj
  obtain⟨oi',hi',_,hoi'⟩:=hback i oi hi (bj hoi)
  obtain⟨oj',hj',haj,_⟩:=hback j oj hj hoj
  exact h.inj i j oi' oj' pi pj hi' hj' (hoi' hoi) haj hij hpi hpj
 ·intro i oi q hi hoi hq
  obtain⟨oi',hi',_,hoi'⟩:=hback i oi hi (bj hoi)
  exact h.own i oi' q hi' (hoi' hoi) hq
 ·intro i oi q hi ha hoi hq
  rcases get_set hi with⟨_,hi2⟩|⟨rfl,_,rfl⟩
  ·exact h.ro i oi q hi2 ha hoi hq
  ·rw[ho' ha]at hoi;cases hoi
 ·intro i hi
  exact h.dom i (by simpa using hi)
 ·intro g vs hg
  obtain⟨h1,h2,c,e,fr,h3,h4⟩:=h.glob g vs hg
  exact⟨h1,h2,c,e,fr,by rw[hold _ (by omega)];exact h3,h4⟩
 ·intro b _ hb
  exact hold b λe=>hb ⟨id,o,p,hid,ho,hp,e.symm⟩
 ·rintro b ⟨j,oj,q,hj,hoj,hq,rfl⟩
  obtain⟨oj',hj',_,hoj'⟩:=hback j oj hj (bj hoj)
  exact .inr ⟨j,oj',q,hj',hoj' hoj,hq,rfl⟩
def WR.move{C:Cfg}{base:Nat}{mu:HMap}{H:Ts}{w w':World}(h:WR C base mu H w){id:Nat}{o:HObj}{p:Pl}(hid:H[id]?=some o)(ho:o.owned=true)
  (hp:mu id=some p) {x:Obj} (hw:w'.heap=w.heap.setIfInBounds p.b x) (hos:w'.os=w.os) (ht:w'.tape=w.tape) (hu:w'.output=w.output)
  (o':HObj) (q:Pl) (hq:q.b=p.b) (hr0:objR mu q (some x) o') (hro:o'.alive=true->o'.owned=true) (hd:w.drawn<=w'.drawn:=by exact qam _) :
  WR C base (upd mu H.length q) (H.set id .dead++[o']) w'/\Evo H mu w (H.set id .dead++[o']) (upd mu H.length q) w'/\Old mu (upd mu H.length q) (H.set id .dead++[o']) w':=by
 have hr:objR (upd mu H.length q) q (some x) o':=hr0.mono (iR h q)
 obtain⟨hW,hE⟩:=h.set hid ho hp (x:=x) hw hos ht hu .dead (λh=>by cases h) trivial hd
 have hlt:=h.lt hid (bj ho) hp
 have hbase:=h.own id o p hid ho hp
 have hlen:(H.set id HObj.dead).length=H.length:=by simp
 have hsame:w'.heap[p.b]?=some x:=by rw[hw];simp[hlt]
 have hm:∀i r,mu i=some r->upd mu H.length q i=some r:=iR h q
 have hidl:id<H.length:=by
  rcases qaC id H.length with h1|h1
  ·exact h1
  ·rw[qae h1]at hid;cases hid
 have hfree:∀(j:Nat) oj r,(H.set id HObj.dead)[j]?=some oj->oj.alive=true->mu j=some r->r.b≠p.b:=by
  intro j oj r hj ha hr' e
  rcases get_set hj with⟨hne,hj⟩|⟨rfl,_,rfl⟩
  ·exact h.inj id j o oj p r hid hj ho ha (qb9 hne) hp hr' e.symm
  ·cases ha
 refine⟨⟨?_,?_,?_,?_,?_,?_⟩,⟨by simp,?_,hE.size,hE.keep,?_,hos,ht,hu,hd⟩,λj oj hj ha=>?_⟩
 rotate_right
 ·rcases av hj with⟨hj',hj2⟩|⟨rfl,rfl⟩
  ·obtain⟨r,hr',hr''⟩:=hW.obj j oj hj2 ha
   exact⟨r,hm _ _ hr',hr''⟩
  ·rw[hlen]
   exact⟨q,bh _ _ _,by rw[hq,hsame];exact hr0⟩
 ·intro j oj hj ha
  rcases av hj with⟨hj',hj2⟩|⟨rfl,rfl⟩
  ·obtain⟨r,hr',hr''⟩:=hW.obj j oj hj2 ha
   exact⟨r,hm _ _ hr',hr''.mono hm⟩
  ·rw[hlen]
   exact⟨q,bh _ _ _,by rw[hq,hsame];exact hr⟩
 ·intro i j oi oj pi pj hi hj hoi hoj hij hpi hpj
  rcases av hi with⟨hi',hi2⟩|⟨rfl,rfl⟩
  ·rw[dx _ _ (by omega)]at hpi
   rcases av hj with⟨hj',hj2⟩|⟨rfl,rfl⟩
   ·rw[dx _ _ (by omega)]at hpj
    exact hW.inj i j oi oj pi pj hi2 hj2 hoi hoj hij hpi hpj
   ·rw[hlen,bh]at hpj
    obtain rfl:=qan hpj
    rw[hq]
    exact hfree i oi pi hi2 (bj hoi) hpi
  ·rw[hlen,bh]at hpi
   obtain rfl:=qan hpi
   rcases av hj with⟨hj',hj2⟩|⟨rfl,rfl⟩
   ·rw[dx _ _ (by omega)]at hpj
    rw[hq]
    exact qb9 (hfree j oj pj hj2 hoj hpj)
   ·exact absurd rfl hij
 ·intro i oi r hi hoi hr'
  rcases av hi with⟨hi',hi2⟩|⟨rfl,rfl⟩
  ·rw[dx _ _ (by omega)]at hr'
   exact hW.own i oi r hi2 hoi hr'
  ·rw[hlen,bh]at hr'
   obtain rfl:=qan hr'
   omega
 ·intro i oi r hi ha hoi hr'
  rcases av hi with⟨hi',hi2⟩|⟨rfl,rfl⟩
  ·rw[dx _ _ (by omega)]at hr'
   exact hW.ro i oi r hi2 ha hoi hr'
  ·rw[hro ha]at hoi;cases hoi
 ·intro i hi
  simp at hi
  rw[dx _ _ (by omega)]
  exact h.dom i (by omega)
 ·intro g vs hg
  obtain⟨h1,h2,c,e,fr,h3,h4⟩:=hW.glob g vs hg
  exact⟨h1,h2,c,e,fr,h3,h4.mono hm⟩
 ·intro i hi
  rw[dx _ _ (by omega)]
 ·rintro b ⟨j,oj,r,hj,hoj,hr',rfl⟩
  rcases av hj with⟨hj',hj2⟩|⟨rfl,rfl⟩
  ·rw[dx _ _ (by omega)]at hr'
   exact hE.steal _ ⟨j,oj,r,hj2,hoj,hr',rfl⟩
  ·rw[hlen,bh]at hr'
   obtain rfl:=qan hr'
   exact .inr ⟨id,o,p,hid,ho,hp,hq.symm⟩
structure SR(C:Cfg)(base:Nat)(la:LMap)(mu:HMap)(σ:St)(tmps:Tj)(w:World):Prop where
 vals:VRs la mu σ.tmps tmps.toList
 ldom:∀s b,la s=some b->∃vs,σ.loc[s]?=some (some vs)
 loc:∀(s:Nat) vs,σ.loc[s]?=some (some vs)->∃b c e,la s=some b/\base<=b/\w.heap[b]?=some (.cells c e (0,0))/\vs.all aI=true/\VRs noL mu vs c.toList/\¬Own mu σ.heap b
 linj:∀s s' b,la s=some b->la s'=some b->s=s'
 wr:WR C base mu σ.heap w
def SR.evo{C:Cfg}{base:Nat}{la:LMap}{mu mu':HMap}{σ:St}{tmps:Tj}{w w':World}{H':Ts}(h:SR C base la mu σ tmps w)
  (hw:WR C base mu' H' w') (he:Evo σ.heap mu w H' mu' w'):SR C base la mu' { σ with heap:=H' } tmps w':=by
 have hm:=he.mono h.wr
 refine⟨h.vals.mono (λ_ _ h=>h) hm,h.ldom,?_,h.linj,hw⟩
 intro s vs hs
 obtain⟨b,c,e,h1,h2,h3,h4,h5,h6⟩:=h.loc s vs hs
 have hb:b<w.heap.size:=by
  rcases qaC b w.heap.size with h|h
  ·exact h
  ·rw[qbw h]at h3;cases h3
 exact⟨b,c,e,h1,h2,by have:=he.keep b hb h6;rw[this];exact h3,h4,h5.mono (λ_ _ h=>h) hm,λho=>(he.steal b ho).elim (λhh=>by omega) h6⟩
def SR.put{C:Cfg}{base:Nat}{la:LMap}{mu:HMap}{σ:St}{tmps:Tj}{w:World}(h:SR C base la mu σ tmps w)(dst:Tn){v v':Value}(hv:VR la mu v v') :
  SR C base la mu (σ.put dst v) (match dst with|some d=>tmps.setIfInBounds d v'|none=>tmps) w:=by
 cases dst with
 |none=>exact h
 |some d=>
  refine⟨?_,h.ldom,h.loc,h.linj,h.wr⟩
  have:=h.vals.set d hv
  simpa[St.put]using this
end
section
variable [Val] [Glo]
def em{P:TC}{t:TI}{d:TypeDesc}(h:P.underlying t=some d):∃i,P.info? t=some i:=by
 unfold Program.underlying at h
 cases hi:P.info? t with
 |none=>rw[hi]at h;cases h
 |some i=>exact⟨i,rfl⟩
def bS{P:TC}{t:TI}(h:P.cellsOf t≠0):∃i,P.info? t=some i:=by
 unfold Program.cellsOf at h
 cases hi:P.info? t with
 |none=>rw[hi]at h;simp at h
 |some i=>exact⟨i,rfl⟩
def aO{P:TC}{t:TI}{i:TypeInfo}(h:P.info? t=some i)(w:World):(sizeOf t).run P w = .ok (P.cellsOf t) w:=by
 simp[sizeOf,typeInfo,h,Program.cellsOf]
def nz:TypeDesc->Bool
 | .struct _=>true
 | .array _ _=>true
 |_=>false
def rC{P:TC}{t:TI}{d:TypeDesc}(h:P.underlying t=some d)(w:World):(isAgg t).run P w = .ok (nz d) w:=by
 cases d<;>simp[isAgg,run_underlying h,nz]
def bk{b o n:Nat}:(⟨b,o,none⟩ : Addr).add n=⟨b,o+n,none⟩:=by
 unfold Addr.add;split<;>simp_all
def ao{C:Cfg}{base:Nat}{la:LMap}{mu:HMap}{σ:St}{a:Act}{w:World}(h:SR C base la mu σ a.tmps w)(x:TD):VR la mu (oval σ.tmps x) (a.eval x):=by
 cases x with
 |tmp t=>
  simp only[oval,Act.eval]
  have hl:σ.tmps.length=a.tmps.size:=by simpa using h.vals.1
  rcases qaC t σ.tmps.length with ht|ht
  ·have h2:t<a.tmps.size:=by rw[←hl];exact ht
   have:=h.vals.2 t σ.tmps[t] a.tmps[t] (by simp[ht]) (by simp[h2])
   simpa[List.getD,Array.getD,ht,h2]using this
  ·have h2:a.tmps.size<=t:=by rw[←hl];exact ht
   simp only[List.getD,qae ht,qcH]
   rw[show a.tmps.getD t undef=undef by simp[Array.getD,Nat.not_lt.2 h2]]
   exact .undef
 |const v=>
  simp only[oval,Act.eval]
  split
  next h=>exact .of_flat h
  ·exact .poison _
 |global g=>
  simp only[oval,Act.eval]
  split
  next h=>
   have:VR la mu (.pointer (some ⟨g,0,some 1⟩)) (.pointer (some ⟨gBlk g,gOff g+0,none⟩)):=.gptr
   rwa [gBlk_lt h,gOff_lt h]at this
  ·exact .poison _
 |func f=>exact .func (by simp) rfl rfl (λi x y h=>by simp at h) (λi x y h=>by simp at h)
def oQ{C:Cfg}{base:Nat}{la:LMap}{mu:HMap}{σ:St}{a:Act}{w:World}(h:SR C base la mu σ a.tmps w)(xs:Array Operand) :
  VRs la mu (xs.toList.map (oval σ.tmps)) (xs.map a.eval).toList:=by
 rw[qbf]
 exact VRs.map _ λx _=>ao h x
def flat_eval{C:Cfg}{base:Nat}{la:LMap}{mu:HMap}{σ:St}{a:Act}{w:World}(h:SR C base la mu σ a.tmps w){x:TD}(hf:flat (oval σ.tmps x)=true) :
  a.eval x=oval σ.tmps x:=oY hf (ao h x)
def rR(P:TC)(la:LMap)(mu:HMap)(s:Sem Next)(w:World)(v:Value):Prop:=∃v',s.run P w = .ok (.value v') w/\VR la mu v v'
def fj{P:TC}{la:LMap}{mu:HMap}{s:Sem Value}{w:World}{v v':Value}(h:s.run P w = .ok v' w)(hv:VR la mu v v') :
  rR P la mu (do pure (.value (←s))) w v:=⟨v',by simp[h],hv⟩
def vE{C:Cfg}{base:Nat}{la:LMap}{mu:HMap}{σ:St}{a:Act}{w:World}(h:SR C base la mu σ a.tmps w){o:Oper}{e:Eff}
  (hs:∀cs b,o.op≠.select cs b) (he:bN C (oval σ.tmps) o=some e):∃v,e = .val v/\rR C.P la mu (execOp a.eval o) w v:=by
 unfold bN at he
 split at he
 next hf=>
  have hc:execOp a.eval o=execOp (oval σ.tmps) o:=execOp_congr o hs λx hx=>flat_eval h (all_get' hf hx)
  split at he
  next v hv=>
   split at he
   next hfl=>
    cases he
    exact⟨v,rfl,v,by rw[hc];exact eZ hv w,.of_flat hfl⟩
   ·cases he
  ·cases he
 ·cases he where
 all_get' {tmps:Tl} {xs:Array Operand} (h:xs.toList.all (λx=>flat (oval tmps x))=true) {x:TD} (hx:x∈xs):flat (oval tmps x)=true:=
  qab.1 h x (by simpa using hx)
def sym_inv{v:Value}(h:gz v=true):∃cs k,v = .tuple #[.agg cs]/\pU cs=some k:=by
 unfold gz at h
 split at h
 next vs=>
  split at h
  next cs e=>
   obtain⟨k,hk⟩:=qa3.1 h
   refine⟨cs,k,?_,hk⟩
   congr 1
   exact qaZ.1 (by simpa using e)
  ·cases h
 ·cases h
def ru{la:LMap}{mu:HMap}{v c:Value}(hp:gI v=true)(h:VR la mu v c):c=den1 v:=by
 simp only[gI,qaX]at hp
 rcases hp with hp|hp
 ·rw[bw hp h]
  unfold Am.scalar at hp
  split at hp<;>first|rfl|cases hp
 ·obtain⟨cs,k,rfl,hk⟩:=sym_inv hp
  cases h with
  |scalar h=>simp[Am.scalar]at h
  |tuple hn _ _=>simp at hn
  |sym hk'=>simp[den1,hk']
def nW{la:LMap}{mu:HMap}{v:Value}(hp:gI v=true):VR la mu v (den1 v):=by
 simp only[gI,qaX]at hp
 rcases hp with hp|hp
 ·have:den1 v=v:=by
   unfold Am.scalar at hp
   split at hp<;>first|rfl|cases hp
  rw[this]
  exact .scalar hp
 ·obtain⟨cs,k,rfl,hk⟩:=sym_inv hp
  simp only[den1,hk]
  exact .sym hk
def ur{la:LMap}{mu:HMap}{v c:Value}(hp:plain v=true)(h:VR la mu v c):c=den v:=by
 cases v with
 |agg cs=>
  obtain⟨ds,rfl,hsz,h⟩:=h.unagg
  simp only[den]
  congr 1
  apply Array.ext (by simpa using hsz.symm)
  intro i h1 h2
  have hi:i<cs.size:=by simpa using h2
  have:=ru (bU (f:=gI) (i:=i) (x:=cs[i]) hp (by simp[hi])) (h i cs[i] ds[i] (by simp[hi]) (by simp[h1]))
  simpa using this
 |_=>exact ru hp h
def rx{la:LMap}{mu:HMap}{v:Value}(hp:plain v=true):VR la mu v (den v):=by
 cases v with
 |agg cs=>
  simp only[den]
  refine .agg (by simp) λi x y hx hy=>?_
  have hxp:=bU (f:=gI) (i:=i) (x:=x) hp (by simpa using hx)
  rw[Array.getElem?_map,hx]at hy
  cases hy
  exact nW hxp
 |_=>exact nW hp
def symRel_ok{C:Cfg}{base:Nat}{la:LMap}{mu:HMap}{σ:St}{a:Act}{w:World}(h:SR C base la mu σ a.tmps w){o:Oper}{v:Value}
  (hs:gK C σ.tmps o v):rR C.P la mu (execOp a.eval o) w v:=by
 obtain⟨h1,h2,h3,h4⟩:=hs
 have hc:execOp a.eval o=execOp (λx=>den (oval σ.tmps x)) o:=execOp_congr o (λcs b e=>by rw[e]at h1;cases h1) λx hx=>
  ur (qab.1 h2 x (by simpa using hx)) (ao h x)
 exact⟨den v,by rw[hc];exact h4 w,rx h3⟩
section
variable {C:Cfg} {la:LMap} {mu:HMap} {w:World}
def VR.bool{b:Bool}{c:Value}(h:VR la mu (.bool b) c):c = .bool b:=bw rfl h
def VR.int{k:TF}{n:Int}{c:Value}(h:VR la mu (.int k n) c):c = .int k n:=bw rfl h
def ge{v c:Value}{n:Int}(hi:intOf v=some n)(h:VR la mu v c):∃k,c = .int k n:=by
 cases v<;>simp[intOf]at hi
 subst hi
 exact⟨_,h.int⟩
def uk{t:TI}{cs ds:Tj}{off:Nat}{v:Value}(hp:sL C t cs off=some v)(h:VRs la mu cs.toList ds.toList) :
  ∃v',(part t ds off).run C.P w = .ok v' w/\VR la mu v v':=by
 unfold sL at hp
 cases hd:C.P.underlying t with
 |none=>rw[hd]at hp;cases hp
 |some d=>
  obtain⟨i,hi⟩:=em hd
  have hag:=rC hd w
  have hsz:=aO hi w
  rw[hd]at hp
  have hsize:cs.size=ds.size:=by simpa using h.1
  have main:nz d=true->some (Value.agg (cs.extract off (off+C.P.cellsOf t)))=some v->
    ∃v',(part t ds off).run C.P w = .ok v' w/\VR la mu v v':=by
   intro hdd hv
   cases hv
   refine⟨.agg (ds.extract off (off+C.P.cellsOf t)),by simp[part,hag,hdd,hsz],VRs.agg ?_⟩
   simp only[qbY,List.extract]
   exact(h.drop _).take _
  have main2:nz d=false->cs[off]?=some v->
    ∃v',(part t ds off).run C.P w = .ok v' w/\VR la mu v v':=by
   intro hdd hv
   obtain⟨v',h1,h2⟩:=h.get (i:=off) (by simpa using hv)
   exact⟨v',by simp[part,hag,hdd,(by simpa using h1:ds[off]?=some v')],h2⟩
  cases d<;>first|exact main rfl hp|exact main2 rfl hp
def fieldA_ok{t:TI}{x y v:Value}{f:Nat}(hf:qB C t x f=some v)(h:VR la mu x y):∃v',(Instr.field t y f).run C.P w = .ok v' w/\VR la mu v v':=by
 unfold qB at hf
 split at hf
 next fs cs hu=>
  obtain⟨ds,rfl,hds⟩:=h.unagg
  cases hg:fs[f]? with
  |none=>rw[hg]at hf;cases hf
  |some fd=>
   rw[hg]at hf
   obtain⟨v',h1,h2⟩:=uk (w:=w) hf hds
   exact⟨v',by simp[Instr.field,run_underlying hu,hg,asAgg,h1],h2⟩
 ·cases hf
def indexA_ok{t:TI}{x y i j v:Value}(hf:jO C t x i=some v)(h:VR la mu x y)(hij:VR la mu i j):∃v',(Instr.index t y j).run C.P w = .ok v' w/\VR la mu v v':=by
 unfold jO at hf
 split at hf
 ·cases hf
 next n hn=>
  obtain⟨k,rfl⟩:=ge hn hij
  split at hf
  next len elem cs hu=>
   obtain⟨ds,rfl,hds⟩:=h.unagg
   split at hf
   next hb=>
    have hel:∃i,C.P.info? elem=some i:=by
     unfold sL at hf
     cases hd:C.P.underlying elem with
     |none=>rw[hd]at hf;cases hf
     |some d=>exact em hd
    obtain⟨i,hi⟩:=hel
    obtain⟨v',h1,h2⟩:=uk (w:=w) hf hds
    exact⟨v',by simp[Instr.index,asIntOf,run_underlying hu,hb.1,hb.2,aO hi,h1],h2⟩
   ·cases hf
  next s hu=>
   have hy:=bw (a:=.string s) rfl h
   subst hy
   split at hf
   next hb=>
    cases hg:s[n.toNat]? with
    |none=>rw[hg]at hf;cases hf
    |some b=>
     rw[hg]at hf
     cases hf
     exact⟨_,by simp[Instr.index,asIntOf,run_underlying hu,hb,hg],.scalar rfl⟩
   ·cases hf
  ·cases hf
def VR.ptr_add{a:Addr}{c:Value}(h:VR la mu (.pointer (some a)) c)(n:Nat):∃d:Addr,c = .pointer (some d)/\d.spot=none/\VR la mu (.pointer (some { a with off:=a.off+n })) (.pointer (some (d.add n))):=by
 cases h with
 |scalar h=>simp[Am.scalar]at h
 |lptr h=>exact⟨_,rfl,rfl,by rw[bk];exact .lptr h⟩
 |hptr h=>exact⟨_,rfl,rfl,by rw[bk,qbr];exact .hptr h⟩
 |gptr=>exact⟨_,rfl,rfl,by rw[bk,qbr];exact .gptr⟩
def oT{t:TI}{x y v:Value}{f:Nat}(hf:eI C t x f=some v)(h:VR la mu x y):∃v',(Instr.fieldAt t y f).run C.P w = .ok v' w/\VR la mu v v':=by
 unfold eI at hf
 split at hf
 next fs a hu=>
  split at hf
  next fd hg=>
   split at hf
   ·cases hf
   next hz=>
    cases hf
    obtain⟨i,hi⟩:=bS hz
    obtain⟨d,rfl,hsp,hv⟩:=h.ptr_add fd.offset
    refine⟨.pointer (some (d.add fd.offset)),?_,hv⟩
    simp[Instr.fieldAt,run_underlying hu,hg,Instr.sureAddr,fieldPlace,aO hi,hz]
  ·cases hf
 ·cases hf
def pf{t:TI}{x y i j v:Value}(hf:dP C t x i=some v)(h:VR la mu x y)(hij:VR la mu i j):∃v',(Instr.indexAt t y j).run C.P w = .ok v' w/\VR la mu v v':=by
 unfold dP at hf
 split at hf
 ·cases hf
 next n hn=>
  obtain⟨k,rfl⟩:=ge hn hij
  split at hf
  next len elem a hu=>
   split at hf
   ·cases hf
   next hz=>
    obtain⟨i,hi⟩:=bS hz
    split at hf
    next hb=>
     cases hf
     obtain⟨d,rfl,hsp,hv⟩:=h.ptr_add (n.toNat*C.P.cellsOf elem)
     exact⟨_,by simp[Instr.indexAt,asIntOf,run_underlying hu,Instr.sureAddr,hb.1,hb.2,aO hi],hv⟩
    ·cases hf
  next elem a len cx hu=>
   split at hf
   ·cases hf
   next hz=>
    obtain⟨i,hi⟩:=bS hz
    split at hf
    next hb=>
     cases hf
     cases h with
     |scalar h=>simp[Am.scalar]at h
     |hslice h hr hl hx=>
      rename_i id off cap p
      refine⟨.pointer (some ⟨p.b,p.o+(off+n.toNat*C.P.cellsOf elem),none⟩),?_,by rw[qdr (by simp[tag])];exact .hptr h⟩
      simp[Instr.indexAt,asIntOf,run_underlying hu,hb.1,hb.2,aO hi,bk,qbr]
     |hslice0 hx=>simp at hb;omega
     |gslice hl hx=>
      rename_i g off cap
      refine⟨.pointer (some ⟨gBlk g,gOff g+(off+n.toNat*C.P.cellsOf elem),none⟩),?_,by rw[qdq rfl];exact .gptr⟩
      simp[Instr.indexAt,asIntOf,run_underlying hu,hb.1,hb.2,aO hi,bk,qbr]
     |gslice0 hx=>simp at hb;omega
    ·cases hf
  ·cases hf
end
end
section
variable [Val] [Glo]
section
variable {C:Cfg} {la:LMap} {mu:HMap} {w:World}
def ORel(la:LMap)(mu:HMap):Ti->Ti->Prop
 |none,none=>True
 |some a,some b=>VR la mu a b
 |_,_=>False
abbrev _root_.Tg:=Option Operand
def ORel.map{f g:Tf}(x:Tg)(h:∀x,VR la mu (f x) (g x)):ORel la mu (x.map f) (x.map g):=by
 cases x with
 |none=>trivial
 |some x=>exact h x
def bo{x y:Ti}{r:Tq}(hb:cH x=some r)(h:ORel la mu x y) :
  (r=none/\y=none)∨(∃k n,r=some n/\y=some (.int k n)):=by
 cases x with
 |none=>
  cases y with
  |none=>simp[cH]at hb;exact .inl ⟨hb.symm,rfl⟩
  |some _=>exact h.elim
 |some x=>
  cases y with
  |none=>exact h.elim
  |some y=>
   cases x<;>simp[cH]at hb
   rename_i k n
   have:=VR.int h
   exact .inr ⟨k,n,hb.symm,by rw[this]⟩
def bu{k:TF}{n:Int}{y:Nat}{code:BoundsCode}(h0:0<=n)(h1:n<=y)(w:World):(Instr.sliceBound (.int k n) y code).run C.P w = .ok n.toNat w:=by
 simp[Instr.sliceBound,asIntOf,h0,h1]
def ob{lo hi mx:Tq}{lo' hi' mx':Ti}{isSlice:Bool}{len cap:Nat}
  (hlo:(lo=none/\lo'=none)∨(∃k n,lo=some n/\lo'=some (.int k n))) (hhi:(hi=none/\hi'=none)∨(∃k n,hi=some n/\hi'=some (.int k n)))
  (hmx:(mx=none/\mx'=none)∨(∃k n,mx=some n/\mx'=some (.int k n)))
  (h0:0<=lo.getD 0) (h1:lo.getD 0<=hi.getD len) (h2:hi.getD len<=mx.getD cap) (h3:mx.getD cap<=cap) (h4:mx.isNone∨hi.isSome) (w:World) :
  (Instr.sliceBounds isSlice len cap lo' hi' mx').run C.P w = .ok ((lo.getD 0).toNat,(hi.getD len).toNat,(mx.getD cap).toNat) w:=by
 rcases hmx with⟨rfl,rfl⟩|⟨km,m,rfl,rfl⟩
 ·rcases hhi with⟨rfl,rfl⟩|⟨kh,h,rfl,rfl⟩
  ·rcases hlo with⟨rfl,rfl⟩|⟨kl,l,rfl,rfl⟩
   ·simp[Instr.sliceBounds]
   ·simp at h0 h1 h2 h3
    simp[Instr.sliceBounds,bu h0 h1]
  ·rcases hlo with⟨rfl,rfl⟩|⟨kl,l,rfl,rfl⟩
   ·simp at h0 h1 h2 h3
    simp[Instr.sliceBounds,bu h1 h2]
   ·simp at h0 h1 h2 h3
    have e1:=bu (C:=C) (k:=kh) (code:=if isSlice then .sliceAcap else .sliceAlen) (by omega) h2 w
    have e2:=bu (C:=C) (k:=kl) (y:=h.toNat) (code:=.sliceB) h0 (by omega) w
    simp[Instr.sliceBounds,e1,e2]
 ·rcases hhi with⟨rfl,rfl⟩|⟨kh,h,rfl,rfl⟩
  ·simp at h4
  ·rcases hlo with⟨rfl,rfl⟩|⟨kl,l,rfl,rfl⟩
   ·simp at h0 h1 h2 h3
    have e0:=bu (C:=C) (k:=km) (code:=if isSlice then .slice3Acap else .slice3Alen) (by omega) h3 w
    have e1:=bu (C:=C) (k:=kh) (y:=m.toNat) (code:=.slice3B) (by omega) (by omega) w
    simp[Instr.sliceBounds,e0,e1]
   ·simp at h0 h1 h2 h3
    have e0:=bu (C:=C) (k:=km) (code:=if isSlice then .slice3Acap else .slice3Alen) (by omega) h3 w
    have e1:=bu (C:=C) (k:=kh) (n:=h) (y:=m.toNat) (code:=.slice3B) (by omega) (by omega) w
    have e2:=bu (C:=C) (k:=kl) (y:=h.toNat) (code:=.slice3C) h0 (by omega) w
    simp[Instr.sliceBounds,e0,e1,e2]
def mV{t elem:TI}{a:Addr}{len cap l h m:Nat}{lo hi mx:Ti}{i:TypeInfo}(hu:C.P.underlying t=some (.slice elem))(hi':C.P.info? elem=some i)
  (hb:(Instr.sliceBounds true len cap lo hi mx).run C.P w = .ok (l,h,m) w) :
  (Instr.sliceAt t (.slice (some a) len cap) lo hi mx).run C.P w = .ok (.slice (if m=l then some a else some (a.add (l*C.P.cellsOf elem))) (h - l) (m - l)) w:=by
 simp only[Instr.sliceAt,Instr.slice,Sem.run_bind,run_underlying hu,Result.andThen_ok]
 simp[hb,aO hi']
def sliceA_ok{t:TI}{x y v:Value}{lo hi mx lo' hi' mx':Ti}(hf:uG C t x lo hi mx=some v)(h:VR la mu x y)
  (hlo:ORel la mu lo lo') (hhi:ORel la mu hi hi') (hmx:ORel la mu mx mx'):∃v',(Instr.sliceAt t y lo' hi' mx').run C.P w = .ok v' w/\VR la mu v v':=by
 unfold uG at hf
 split at hf
 next lo0 hi0 mx0 e1 e2 e3=>
  have r1:=bo e1 hlo
  have r2:=bo e2 hhi
  have r3:=bo e3 hmx
  split at hf
  next elem a len cx hu=>
   split at hf
   ·cases hf
   next hz=>
    obtain⟨i,hi⟩:=bS hz
    split at hf
    ·cases hf
    next hsp=>
     split at hf
     next hbd=>
      obtain⟨hl0,hl1,hfit⟩:=hbd
      cases hf
      generalize hl:lo0.getD 0=l at *
      generalize hh:hi0.getD (len:Int)=hv at *
      have go:∀(d:Addr) (cap:Nat),len<=cap->(cx=0∨cx=cap+1)->
        (Instr.sliceAt t (.slice (some d) len cap) lo' hi' mx').run C.P w =
         .ok (.slice (if (mx0.getD (cap:Int)).toNat=l.toNat then some d else some (d.add (l.toNat*C.P.cellsOf elem))) (hv.toNat - l.toNat) ((mx0.getD (cap:Int)).toNat - l.toNat)) w/\
        hv<=mx0.getD (cap:Int)/\mx0.getD (cap:Int)<=cap:=by
       intro d cap hlc hcx
       have b2:hv<=mx0.getD (cap:Int)/\mx0.getD (cap:Int)<=cap:=by
        cases mx0 with
        |none=>simp only[dw,hh]at hfit;simp;omega
        |some m=>simp only[dw,hh]at hfit;simp;omega
       have b3:mx0.isNone∨hi0.isSome:=by
        cases mx0 with
        |none=>exact .inl rfl
        |some m=>exact .inr hfit.1
       refine⟨mV hu hi ?_,b2⟩
       rw[ob (len:=len) (cap:=cap) r1 r2 r3 (by rw[hl];exact hl0) (by rw[hl,hh];exact hl1) (by rw[hh];exact b2.1) b2.2 b3 w,hl,hh]
      cases h with
      |scalar h=>simp[Am.scalar]at h
      |hslice h hr hlc hx=>
       rename_i id off cap p
       obtain⟨hrun,hb1,hb2⟩:=go ⟨p.b,p.o+off,none⟩ cap hlc hx
       refine⟨_,hrun,?_⟩
       have hsz:C.P.cellsOf elem=p.esz:=by simp[tag]at hsp;exact hsp.symm
       rw[hsz]
       split
       next hm=>
        have e1:hv.toNat - l.toNat=0:=by omega
        have e2:(mx0.getD (cap:Int)).toNat - l.toNat=0:=by omega
        rw[e1,e2]
        refine .hslice0 ?_
        cases mx0 with
        |none=>simp[bY]at hm ⊢;omega
        |some m=>simp[bY]at hm ⊢;omega
       next hm=>
        rw[bk,qbr]
        refine .hslice h ?_ (by omega) ?_
        ·have:(l.toNat+((mx0.getD (cap:Int)).toNat - l.toNat))*p.esz<=cap*p.esz:=qbe _ (by omega)
         rw[qbk]at this
         show off+l.toNat*p.esz+_<=p.room
         omega
        ·cases mx0 with
         |none=>simp[bY]at hm ⊢;omega
         |some m=>simp[bY]at hm ⊢
      |hslice0 hx=>
       rename_i id off esz a'
       obtain⟨hrun,hb1,hb2⟩:=go a' 0 (by omega) (by omega)
       refine⟨_,hrun,?_⟩
       have e0:(mx0.getD ((0:Nat):Int)).toNat=l.toNat:=by omega
       have e1:hv.toNat - l.toNat=0:=by omega
       rw[qdq e0,e1,e0,qbv]
       refine .hslice0 ?_
       cases mx0 with
       |none=>simp[bY];omega
       |some m=>simp[bY]at e0 ⊢;omega
      |gslice hlc hx=>
       rename_i g off cap
       obtain⟨hrun,hb1,hb2⟩:=go ⟨gBlk g,gOff g+off,none⟩ cap hlc hx
       refine⟨_,hrun,?_⟩
       split
       next hm=>
        have e1:hv.toNat - l.toNat=0:=by omega
        have e2:(mx0.getD (cap:Int)).toNat - l.toNat=0:=by omega
        rw[e1,e2]
        refine .gslice0 ?_
        cases mx0 with
        |none=>simp[bY]at hm ⊢;omega
        |some m=>simp[bY]at hm ⊢;omega
       next hm=>
        rw[bk,qbr]
        refine .gslice (by omega) ?_
        cases mx0 with
        |none=>simp[bY]at hm ⊢;omega
        |some m=>simp[bY]at hm ⊢
      |gslice0 hx=>
       rename_i g off a'
       obtain⟨hrun,hb1,hb2⟩:=go a' 0 (by omega) (by omega)
       refine⟨_,hrun,?_⟩
       have e0:(mx0.getD ((0:Nat):Int)).toNat=l.toNat:=by omega
       have e1:hv.toNat - l.toNat=0:=by omega
       rw[qdq e0,e1,e0,qbv]
       refine .gslice0 ?_
       cases mx0 with
       |none=>simp[bY];omega
       |some m=>simp[bY]at e0 ⊢;omega
     ·cases hf
  ·cases hf
 ·cases hf
def foldl_put{vs cs:Tl}(off:Nat):∀(xs ys:Tl) (k:Nat),VRs la mu vs cs->VRs la mu xs ys->
  VRs la mu ((xs.zipIdx k).foldl (λ(acc:Tj) (c,j)=>acc.setIfInBounds (off+j) c) vs.toArray).toList
   ((ys.zipIdx k).foldl (λ(acc:Tj) (c,j)=>acc.setIfInBounds (off+j) c) cs.toArray).toList:=by
 intro xs
 induction xs generalizing vs cs with
 |nil=>
  intro ys k h hx
  obtain rfl:=hx.unnil
  simpa using h
 |cons x xs ih=>
  intro ys k h hx
  obtain⟨y,ys,rfl,h1,h2⟩:=hx.uncons
  simp only[List.zipIdx_cons,qb1]
  have e1:vs.toArray.setIfInBounds (off+k) x=(vs.set (off+k) x).toArray:=by simp
  have e2:cs.toArray.setIfInBounds (off+k) y=(cs.set (off+k) y).toArray:=by simp
  rw[e1,e2]
  exact ih ys (k+1) (h.set _ h1) h2
def fill_ok(pl:Nat->Option (Nat×Nat)):∀(ps qs:List (Nat×Value)) (vs cs r:Tj),VRs la mu vs.toList cs.toList->
  (ps.length=qs.length/\∀(i:Nat) p q,ps[i]?=some p->qs[i]?=some q->p.1=q.1/\aB p.2=false/\VR la mu p.2 q.2)->
  Instr.fill pl vs ps=some r->∃r',Instr.fill pl cs qs=some r'/\VRs la mu r.toList r'.toList:=by
 intro ps
 induction ps with
 |nil=>
  intro qs vs cs r h hp hf
  have:qs=[]:=by have:=hp.1;cases qs<;>simp_all
  subst this
  simp[Instr.fill]at hf
  subst hf
  exact⟨cs,by simp[Instr.fill],h⟩
 |cons p ps ih=>
  intro qs vs cs r h hp hf
  cases qs with
  |nil=>have:=hp.1;simp at this
  |cons q qs=>
   obtain⟨hl,hpq⟩:=hp
   obtain⟨e,ht,hv⟩:=hpq 0 p q rfl rfl
   obtain⟨i,x⟩:=p
   obtain⟨j,y⟩:=q
   simp only at e ht hv
   subst e
   have hc:=hv.cells ht
   have hcs:x.cells.size=y.cells.size:=by simpa using hc.1
   have hsz:vs.size=cs.size:=by simpa using h.1
   unfold Instr.fill at hf ⊢
   split at hf
   ·cases hf
   next off size hpl=>
    split at hf
    ·cases hf
    next hcond=>
     rw[qdr (by rw[←hcs,←hsz];exact hcond)]
     refine ih qs _ _ r ?_ ⟨by simpa using hl,λk p q hp hq=>hpq (k+1) p q (by simpa using hp) (by simpa using hq)⟩ hf
     have conv:∀(zs us:Tj),(zs.zipIdx.foldl (λ(acc:Tj) (c,j)=>acc.setIfInBounds (off+j) c) us)=zs.toList.zipIdx.foldl (λ(acc:Tj) (c,j)=>acc.setIfInBounds (off+j) c) us:=by
      intro zs us;rw[←qcd,qcP]
     rw[conv,conv]
     have:=foldl_put (la:=la) (mu:=mu) off x.cells.toList y.cells.toList 0 h hc
     simpa using this
def iT{i:TypeInfo}{z:Value}(h:ic i=some z):i.zero=some z/\z.cells.size=i.size/\flat z=true/\aB z=false:=by
 unfold ic at h
 split at h
 next z' hz=>
  split at h
  next hc=>cases h;exact⟨hz,hc⟩
  ·cases h
 ·cases h
def ie{P:TC}{t:TI}{z:Value}(h:cZ P t=some z):∃i,P.info? t=some i/\i.zero=some z/\z.cells.size=i.size/\flat z=true/\aB z=false:=by
 unfold cZ at h
 cases hi:P.info? t with
 |none=>rw[hi]at h;cases h
 |some i=>rw[hi,qag]at h;exact⟨i,rfl,iT h⟩
def iU{P:TC}{t:TI}{z:Value}(h:cZ P t=some z):z.cells.size=P.cellsOf t/\flat z=true/\aB z=false:=by
 obtain⟨i,h1,_,h2,h3⟩:=ie h
 exact⟨by rw[h2];simp[Program.cellsOf,h1],h3⟩
def PRel(la:LMap)(mu:HMap)(ps qs:List (Nat×Value)):Prop:=ps.length=qs.length/\∀(i:Nat) p q,ps[i]?=some p->qs[i]?=some q->p.1=q.1/\aB p.2=false/\VR la mu p.2 q.2
def fU(P:TC)(w:World):∀(fs:List Field),(∀f∈fs,(P.info? f.type).isSome=true)->
  (fs.mapM λf=>(do pure (f.offset,←sizeOf f.type):Sem (Nat×Nat))).run P w = .ok (fs.map λf=>(f.offset,P.cellsOf f.type)) w
 | [],_=>by simp
 |f :: fs,h=>by
  obtain⟨i,hi⟩:=qa3.1 (h f (by simp))
  have ih:=fU P w fs λg hg=>h g (by simp[hg])
  simp only[qbE,Sem.run_bind,aO hi,Result.andThen_ok,Sem.run_pure,ih,qat]
def buildA_ok{t:TI}{ps:List (Nat×Value)}{qs:Array (Nat×Value)}{v:Value}(hf:ql C t ps=some v)(hp:PRel la mu ps qs.toList) :
  ∃v',(Instr.build t qs).run C.P w = .ok v' w/\VR la mu v v':=by
 unfold ql at hf
 split at hf
 next z pl hzero hpl=>
  cases hfl:Instr.fill pl z.cells ps with
  |none=>rw[hfl]at hf;cases hf
  |some r=>
   rw[hfl]at hf
   cases hf
   have hzc:VRs la mu z.cells.toList z.cells.toList:=by
    refine⟨rfl,λi x y hx hy=>?_⟩
    obtain rfl:x=y:=by rw[hx]at hy;exact qan hy
    have:=(iU hzero).2.1
    cases z with
    |agg cs=>exact .scalar (bU (f:=Am.scalar) this hx)
    |tuple cs=>
     have hc:(Value.tuple cs).cells.toList=[.tuple cs]:=rfl
     rw[hc]at hx
     cases i with
     |zero=>simp at hx;subst hx;exact .of_flat this
     |succ i=>simp at hx
    |_=>
     cases i with
     |zero=>simp[Value.cells]at hx;subst hx;exact .of_flat this
     |succ i=>simp[Value.cells]at hx
   obtain⟨r',h1,h2⟩:=fill_ok pl ps qs.toList z.cells z.cells r hzc hp hfl
   refine⟨.agg r',?_,h2.agg⟩
   have hzr:(zeroValue t).run C.P w = .ok z w:=by
    obtain⟨i,hi,h1,_⟩:=ie hzero
    simp[zeroValue,typeInfo,hi,h1]
   unfold kS at hpl
   split at hpl
   next fs hu=>
    split at hpl
    next hall=>
     cases hpl
     have hm:=fU C.P w fs.toList (λf hf=>by
      have:=Array.all_eq_true_iff_forall_mem.1 hall f (by simpa using hf)
      simpa using this)
     have hpl2:(λ(i:Nat)=>(((fs.toList.map λ(f:Field)=>(f.offset,C.P.cellsOf f.type)).toArray)[i]?:Option (Nat×Nat)))=λ(i:Nat)=>(fs[i]?).map λ(f:Field)=>(f.offset,C.P.cellsOf f.type):=by
      funext i;simp
     simp only[Instr.build,Sem.run_bind,hzr,Result.andThen_ok,run_underlying hu,qcX,Sem.run_map,hm]
     rw[hpl2,h1]
     rfl
    ·cases hpl
   next n e hu=>
    split at hpl
    next hall=>
     cases hpl
     obtain⟨i,hi⟩:=qa3.1 hall
     simp only[Instr.build,Sem.run_bind,hzr,Result.andThen_ok,run_underlying hu,aO hi]
     rw[h1]
     rfl
    ·cases hpl
   ·cases hpl
 ·cases hf
end
end
section
variable [Val] [Glo]
section
variable {C:Cfg} {la:LMap} {mu:HMap} {w:World}
def bE.of_list{vs:Tl}{c:Tj}(h:VRs noL mu vs c.toList):bE mu vs c 0:=by
 intro i v hv
 obtain⟨v',h1,h2⟩:=h.get hv
 exact⟨v',by simpa using h1,h2⟩
def bE.cut{vs xs:Tl}{c:Tj}{o off n:Nat}(h:bE mu vs c o)(hc:cut vs off n=some xs) :
  ∃ys:List Value,ys.length=n/\VRs noL mu xs ys/\∀(j:Nat) y,ys[j]?=some y->c[o+off+j]?=some y:=by
 unfold Am.cut at hc
 split at hc
 next hl=>
  cases hc
  refine⟨(List.range n).map λj=>c.getD (o+off+j) undef,by simp,⟨by simp;omega,?_⟩,?_⟩
  ·intro i x y hx hy
   have hi:i<n:=by
    rcases qaC i n with h|h
    ·exact h
    ·rw[qae (by simp;omega)]at hy;cases hy
   rw[qbi,qdq hi,qa8]at hx
   obtain⟨v',h1,h2⟩:=h _ x hx
   simp[hi]at hy
   subst hy
   rw[←qbr]at h1
   simpa[h1]using h2
  ·intro j y hy
   have hj:j<n:=by
    rcases qaC j n with h|h
    ·exact h
    ·rw[qae (by simp;omega)]at hy;cases hy
   have hx:∃x,vs[off+j]?=some x:=⟨vs[off+j]'(by omega),by simp⟩
   obtain⟨x,hx⟩:=hx
   obtain⟨v',h1,_⟩:=h _ x hx
   simp[hj]at hy
   rw[←qbr]at h1
   rw[h1,←hy];simp[h1]
 ·cases hc
def oI{b:Nat}{c:Tj}{e:TI}{fr:Nat×Nat}(h:w.heap[b]?=some (.cells c e fr))(i:Nat):w.cell? ⟨b,i,none⟩=c[i]?:=by
 simp[World.cell?,h]
def jA{vs xs:Tl}{c:Tj}{o off n b:Nat}{e:TI}{fr:Nat×Nat}(h:bE mu vs c o)(hc:cut vs off n=some xs)(hb:w.heap[b]?=some (.cells c e fr)) :
  ∃ys:List Value,ys.length=n/\(loadCells ⟨b,o+off,none⟩ n).run C.P w = .ok ys.toArray w/\VRs noL mu xs ys:=by
 obtain⟨ys,h1,h2,h3⟩:=h.cut hc
 refine⟨ys,h1,?_,h2⟩
 rw[←h1]
 refine run_loadCells_list w _ ys λj v hj=>?_
 rw[bk,oI hb]
 exact h3 j v hj
def dh{vs:Tl}{c:Tj}{o off b:Nat}{e:TI}{fr:Nat×Nat}{t:TI}{v:Value}(h:bE mu vs c o)(hr:cK C.P t vs off=some v)(hb:w.heap[b]?=some (.cells c e fr)) :
  ∃v',(loadVar t ⟨b,o+off,none⟩).run C.P w = .ok v' w/\VR noL mu v v':=by
 unfold cK at hr
 cases hd:C.P.underlying t with
 |none=>rw[hd]at hr;cases hr
 |some d=>
  rw[hd]at hr
  obtain⟨i,hi⟩:=em hd
  have hag:=rC hd w
  have hsz:=aO hi w
  have m1:nz d=true->((cut vs off (C.P.cellsOf t)).map λcs=>Value.agg cs.toArray)=some v->∃v',(loadVar t ⟨b,o+off,none⟩).run C.P w = .ok v' w/\VR noL mu v v':=by
   intro hdd hv
   cases hcut:cut vs off (C.P.cellsOf t)with
   |none=>rw[hcut]at hv;cases hv
   |some xs=>
    rw[hcut]at hv
    cases hv
    obtain⟨ys,h1,h2,h3⟩:=jA (C:=C) h hcut hb
    exact⟨.agg ys.toArray,by simp[loadVar,hag,hdd,hsz,h2],VRs.agg (by simpa using h3)⟩
  have m2:nz d=false->vs[off]?=some v->∃v',(loadVar t ⟨b,o+off,none⟩).run C.P w = .ok v' w/\VR noL mu v v':=by
   intro hdd hv
   obtain⟨v',h1,h2⟩:=h off v hv
   exact⟨v',by simp[loadVar,hag,hdd,oI hb,h1],h2⟩
  cases d<;>first|exact m1 rfl hr|exact m2 rfl hr
def gJ{b:Nat}{c cs:Tj}{e:TI}{fr:Nat×Nat}(h:w.heap[b]?=some (.cells c e fr)):(w.setRow b cs).heap=w.heap.setIfInBounds b (.cells cs e fr):=by
 have hlt:b<w.heap.size:=(qaz.1 h).1
 apply Array.ext (by simp[World.setRow])
 intro k h1 h2
 have e1:(w.setRow b cs).heap[k]?=(w.heap.setIfInBounds b (.cells cs e fr))[k]?:=by
  by_cases hk:k=b
  ·subst hk
   rw[setRow_heap w k c cs e fr h]
   simp[hlt]
  ·rw[setRow_other w b k cs hk,qbJ (qb9 hk)]
 have e2:=qbm h1
 have e3:=qbm h2
 rw[e2,e3]at e1
 exact qan e1
def cq(c:Tj)(at_:Nat)(ys:Tl):Tj:=(c.toList.take at_++ys++c.toList.drop (at_+ys.length)).toArray
def fe{c:Tj}{at_:Nat}{ys:Tl}(h:at_+ys.length<=c.size):(cq c at_ ys).size=c.size:=by
 simp[cq];omega
def jU{c:Tj}{at_:Nat}{ys:Tl}(h:at_+ys.length<=c.size)(i:Nat) :
  (cq c at_ ys)[i]?=if at_<=i/\i<at_+ys.length then ys[i - at_]? else c[i]?:=by
 have hlen:(c.toList.take at_).length=at_:=by simp;omega
 simp only[cq,List.getElem?_toArray]
 by_cases h1:i<at_
 ·rw[qaB,qaf (by omega),qbi,qdq h1,qdr (by omega)]
  simp
 ·rw[qaB,qak (by omega),hlen]
  by_cases h2:i<at_+ys.length
  ·rw[qaf (by omega),qdq ⟨by omega,h2⟩]
  ·rw[qak (by omega),qa8,qdr (by omega)]
   have:at_+ys.length+(i - at_ - ys.length)=i:=by omega
   rw[this]
   simp
def vR{vs vs' xs:Tl}{off:Nat}(hs:splice vs off xs=some vs')(i:Nat) :
  vs'[i]?=if off<=i/\i<off+xs.length then xs[i - off]? else vs[i]?:=by
 unfold Am.splice at hs
 split at hs
 next hl=>
  cases hs
  have hlen:(vs.take off).length=off:=by simp;omega
  by_cases h1:i<off
  ·rw[qaB,qaf (by omega),qbi,qdq h1,qdr (by omega)]
  ·rw[qaB,qak (by omega),hlen]
   by_cases h2:i<off+xs.length
   ·rw[qaf (by omega),qdq ⟨by omega,h2⟩]
   ·rw[qak (by omega),qa8,qdr (by omega)]
    congr 1;omega
 ·cases hs
def fh{vs vs' xs:Tl}{off:Nat}(hs:splice vs off xs=some vs'):vs'.length=vs.length/\off+xs.length<=vs.length:=by
 unfold Am.splice at hs
 split at hs
 ·cases hs;simp;omega
 ·cases hs
def og{f:Value->Bool}{vs vs' xs:Tl}{off:Nat}(hs:splice vs off xs=some vs')(h1:vs.all f=true)(h2:xs.all f=true):vs'.all f=true:=by
 unfold Am.splice at hs
 split at hs
 ·cases hs
  rw[qdd,qdd,qaa,qaa]
  refine⟨⟨qab.2 λx hx=>qab.1 h1 x (qbo hx),h2⟩,qab.2 λx hx=>qab.1 h1 x (qbt hx)⟩
 ·cases hs
def bE.splice{vs vs' xs ys:Tl}{c:Tj}{o off:Nat}(h:bE mu vs c o)(hs:splice vs off xs=some vs')(hx:VRs noL mu xs ys)(hsz:o+vs.length<=c.size) :
  bE mu vs' (cq c (o+off) ys) o:=by
 have hl:=fh hs
 have hxy:=hx.1
 intro i v hv
 rw[vR hs]at hv
 rw[jU (by omega)]
 by_cases hi:off<=i/\i<off+xs.length
 ·rw[qdq hi]at hv
  rw[qdq (by omega)]
  obtain⟨v',h1,h2⟩:=hx.get hv
  exact⟨v',by rw[show o+i - (o+off)=i - off by omega];exact h1,h2⟩
 ·rw[qdr hi]at hv
  rw[qdr (by omega)]
  exact h i v hv
def cW{xs ys:Tl}(hx:VRs la mu xs ys)(h:xs.all aI=true):∀y∈ys,y.oneCell'=true:=by
 intro y hy
 obtain⟨i,hi⟩:=qbs hy
 have hi':i<ys.length:=by
  rcases qaC i ys.length with h|h
  ·exact h
  ·rw[qae h]at hi;cases hi
 have hxl:i<xs.length:=by have:=hx.1;omega
 have hok:=bU h (show xs[i]?=some xs[i]by simp[hxl])
 simp only[aI,qaa]at hok
 have h0:=hx.2 i xs[i] y (by simp[hxl]) hi
 have:=jk hok.2 h0
 cases y<;>first|rfl|exact(sE hok.2 h0).elim|(simp[aZ]at this)
def bv{c:Tj}{e:TI}{b at_:Nat}{ys:Tl}(hb:w.heap[b]?=some (.cells c e (0,0)))(hl:at_+ys.length<=c.size)(h1:∀y∈ys,y.oneCell'=true) :
  (storeCells ⟨b,at_,none⟩ ys).run C.P w = .ok () (w.setRow b (cq c at_ ys)):=by
 have:=run_storeCells_at C.P b at_ e ys 0 c w hb (by simpa using hl) h1
 simpa[cq]using this
def jX{c:Tj}{e t:TI}{b at_:Nat}{x y:Value}(ht:aB x=false)(hx:VR la mu x y)(hs:x.cells.size=C.P.cellsOf t/\(C.P.info? t).isSome=true)(hok:x.cells.toList.all aI=true)
  (hb:w.heap[b]?=some (.cells c e (0,0))) (hl:at_+x.cells.size<=c.size) :
  (storeVar t ⟨b,at_,none⟩ y).run C.P w = .ok () (w.setRow b (cq c at_ y.cells.toList)):=by
 have hc:=hx.cells ht
 have hsz:x.cells.size=y.cells.size:=by simpa using hc.1
 obtain⟨i,hi⟩:=qa3.1 hs.2
 have hst:=bv (C:=C) (at_:=at_) (ys:=y.cells.toList) hb (by simp;omega) (cW hc hok)
 simp[storeVar,aO hi,show y.cells.size=C.P.cellsOf t by omega,hst]
end
end
section
variable [Val] [Glo]
def HOk(C:Cfg)(base:Nat)(mu:HMap)(H:Ts)(w:World)(s:Sem Next)(H':Ts)(v:Value):Prop:=
 ∃nx v' w' mu',s.run C.P w = .ok nx w'/\(nx = .value v'∨(nx = .skip/\v'=undef))/\VR noL mu' v v'/\WR C base mu' H' w'/\Evo H mu w H' mu' w'/\Old mu mu' H' w'
def kU(C:Cfg)(base:Nat)(la:LMap)(mu:HMap)(σ:St)(w:World)(s:Sem Next):Eff->Prop
 | .val v=>rR C.P la mu s w v
 | .lnew _ vs=>∃cells e,s.run C.P w = .ok (.value (.pointer (some ⟨w.heap.size,0,none⟩))) (w.alloc (.cells cells e))/\VRs noL mu vs cells.toList/\vs.all aI=true
 | .lget k f=>∀vs v,σ.loc[k]?=some (some vs)->f vs=some v->rR C.P la mu s w v
 | .lset k f=>∀vs vs',σ.loc[k]?=some (some vs)->f vs=some vs'->∃b c cs e,la k=some b/\w.heap[b]?=some (.cells c e (0,0))/\s.run C.P w = .ok .skip (w.setRow b cs)/\VRs noL mu vs' cs.toList/\vs'.all aI=true
 | .hget f=>∀v,f σ.heap=some v->rR C.P la mu s w v
 | .hop f=>∀H' v,f σ.heap=some (H',v)->HOk C base mu σ.heap w s H' v
 | .call f args=>∃args':Array Value,VRs noL mu args args'.toList/\s.run C.P w=(callFunc f args').run C.P w
 | .yield l args=>∃p args',mu l=some p/\VRs noL mu args (args':Tj).toList/\s.run C.P w=(Instr.yield p.b args').run C.P w
section
variable {C:Cfg} {base:Nat} {la:LMap} {mu:HMap} {σ:St} {a:Act} {w:World}
def ny{v c:Value}{p:Nat×Nat}(hp:fR v=some p)(h:VR la mu v c):∃q,mu p.1=some q/\c = .pointer (some ⟨q.b,q.o+p.2,none⟩):=by
 unfold fR at hp
 split at hp
 next a=>
  split at hp
  next hs=>
   cases hp
   cases h with
   |scalar h=>simp[Am.scalar]at h
   |lptr h=>simp at hs
   |hptr h=>exact⟨_,h,rfl⟩
   |gptr=>simp at hs
  ·cases hp
 ·cases hp
def nr{v c:Value}{p:Nat×Nat}(hp:eV v=some p)(h:VR la mu v c):c = .pointer (some ⟨gBlk p.1,gOff p.1+p.2,none⟩):=by
 unfold eV at hp
 split at hp
 next a=>
  split at hp
  next hs=>
   cases hp
   cases h with
   |scalar h=>simp[Am.scalar]at h
   |lptr h=>simp at hs
   |hptr h=>simp at hs
   |gptr=>rfl
  ·cases hp
 ·cases hp
def qW{v c:Value}{s off:Nat}(hp:gH s v=some off)(h:VR la mu v c):∃b,la s=some b/\c = .pointer (some ⟨b,off,none⟩):=by
 unfold gH at hp
 split at hp
 next a=>
  split at hp
  next hs=>
   cases hp
   obtain⟨h1,rfl⟩:=hs
   cases h with
   |scalar h=>simp[Am.scalar]at h
   |lptr h=>exact⟨_,h,rfl⟩
   |hptr h=>simp at h1
   |gptr=>simp at h1
  ·cases hp
 ·cases hp
def qN(hw:WR C base mu σ.heap w){id:Nat}{vs:Tl}(h:ea σ.heap id=some vs){p:Pl}(hp:mu id=some p) :
  ∃c e fr,w.heap[p.b]?=some (.cells c e fr)/\bE mu vs c p.o:=by
 unfold ea at h
 split at h
 next vs' esz rw_ hid=>
  cases h
  obtain⟨q,hq,hr⟩:=hw.obj id _ hid rfl
  obtain rfl:p=q:=by rw[hp]at hq;exact qan hq
  obtain⟨_,_,_,c,e,fr,h1,_,_,h2⟩:=hr
  exact⟨c,e,fr,h1,h2⟩
 ·cases h
def glob_ok(hw:WR C base mu σ.heap w){g:Nat}{vs:Tl}(h:C.G g=some vs):∃c e fr,w.heap[gBlk g]?=some (.cells c e fr)/\bE mu vs c (gOff g):=by
 obtain⟨_,_,c,e,fr,h1,h2⟩:=hw.glob g vs h
 exact⟨c,e,fr,h1,h2⟩
def loc_ok(h:SR C base la mu σ a.tmps w){s b:Nat}{vs:Tl}(hs:σ.loc[s]?=some (some vs))(hb:la s=some b) :
  ∃c e,w.heap[b]?=some (.cells c e (0,0))/\VRs noL mu vs c.toList/\vs.all aI=true:=by
 obtain⟨b',c,e,h1,h2,h3,h4,h5,h6⟩:=h.loc s vs hs
 obtain rfl:b=b':=by rw[hb]at h1;exact qan h1
 exact⟨c,e,h3,h5,h4⟩
def gk{c:Value}{t:TI}{d:Addr}{v':Value}(hc:c = .pointer (some d))(h:(loadVar t d).run C.P w = .ok v' w):(Instr.loadAt t c).run C.P w = .ok v' w:=by
 subst hc;simp[Instr.loadAt,Instr.sureAddr,h]
def vr(h:SR C base la mu σ a.tmps w){pts:Tz}{t:TI}{x:TD}{e:Eff}(he:de C pts t x (oval σ.tmps x)=some e) :
  kU C base la mu σ w (do pure (.value (←Instr.loadAt t (a.eval x)))) e:=by
 have hx:=ao h x
 unfold de at he
 split at he
 ·cases hp:fR (oval σ.tmps x)with
  |none=>
   rw[hp]at he
   cases hp':eV (oval σ.tmps x)with
   |none=>rw[hp']at he;cases he
   |some p=>
    rw[hp']at he
    cases he
    have hc:=nr hp' hx
    intro v hv
    simp only at hv
    cases hg:C.G p.1 with
    |none=>rw[hg]at hv;cases hv
    |some vs=>
     rw[hg,qag]at hv
     obtain⟨c,e,fr,h1,h2⟩:=glob_ok h.wr hg
     obtain⟨v',h3,h4⟩:=dh (C:=C) h2 hv h1
     exact fj (gk hc h3) h4.up
  |some p=>
   rw[hp]at he
   cases he
   obtain⟨q,hq,hc⟩:=ny hp hx
   intro v hv
   simp only at hv
   cases hcl:ea σ.heap p.1 with
   |none=>rw[hcl]at hv;cases hv
   |some vs=>
    rw[hcl]at hv
    obtain⟨c,e,fr,h1,h2⟩:=qN h.wr hcl hq
    obtain⟨v',h3,h4⟩:=dh (C:=C) h2 hv h1
    exact fj (gk hc h3) h4.up
 ·cases hp:eV (oval σ.tmps x)with
  |none=>rw[hp]at he;cases he
  |some p=>
   rw[hp]at he
   have hc:=nr hp hx
   cases hg:C.G p.1 with
   |none=>rw[qag,hg]at he;cases he
   |some vs=>
    rw[qag,hg,qag]at he
    cases hv:cK C.P t vs p.2 with
    |none=>rw[hv]at he;cases he
    |some v=>
     rw[hv]at he
     cases he
     obtain⟨c,e,fr,h1,h2⟩:=glob_ok h.wr hg
     obtain⟨v',h3,h4⟩:=dh (C:=C) h2 hv h1
     exact fj (gk hc h3) h4.up
 next s _=>
  cases hp:gH s (oval σ.tmps x)with
  |none=>rw[hp]at he;cases he
  |some off=>
   rw[hp]at he
   cases he
   obtain⟨b,hb,hc⟩:=qW hp hx
   intro vs v hs hv
   obtain⟨c,e,h1,h2,_⟩:=loc_ok h hs hb
   obtain⟨v',h3,h4⟩:=dh (C:=C) (bE.of_list h2) hv h1
   exact fj (gk (by rw[hc,qaF]) h3) h4.up
def gL{t:TI}{x:Value}{vs vs':Tl}{off:Nat}(h:dN C.P t x vs off=some vs') :
  (x.cells.size=C.P.cellsOf t/\(C.P.info? t).isSome=true)/\x.cells.toList.all aI=true/\splice vs off x.cells.toList=some vs':=by
 unfold dN at h
 split at h
 next h1=>
  split at h
  next h2=>exact⟨h1,h2,h⟩
  ·cases h
 ·cases h
def mo{c y:Value}{t:TI}{d:Addr}{w':World}(hc:c = .pointer (some d))(h:(storeVar t d y).run C.P w = .ok () w'):(Instr.storeAt t c y).run C.P w = .ok () w':=by
 subst hc;simp[Instr.storeAt,Instr.sureAddr,h]
def WR.splice(hw:WR C base mu σ.heap w){id:Nat}{vs vs' xs ys:Tl}{esz off:Nat}{p:Pl}(hid:σ.heap[id]?=some (.cells vs esz true))(hp:mu id=some p)
  (hs:Am.splice vs off xs=some vs') (hx:VRs noL mu xs ys) (hok:xs.all aI=true) :
  ∃c e,w.heap[p.b]?=some (.cells c e (0,0))/\p.o+off+ys.length<=c.size/\
   WR C base mu (σ.heap.set id (.cells vs' esz true)) (w.setRow p.b (cq c (p.o+off) ys))/\Evo σ.heap mu w (σ.heap.set id (.cells vs' esz true)) mu (w.setRow p.b (cq c (p.o+off) ys)):=by
 obtain⟨q,hq,hr⟩:=hw.obj id _ hid rfl
 obtain rfl:p=q:=by rw[hp]at hq;exact qan hq
 obtain⟨h1,h2,h3,c,e,fr,h4,h5,h6,h7⟩:=hr
 obtain rfl:=h6 rfl
 have hl:=fh hs
 have hxy:=hx.1
 refine⟨c,e,h4,by omega,?_⟩
 refine hw.set hid rfl hp (gJ h4) rfl rfl rfl _ (λ_=>rfl) ?_
 exact⟨h1,by omega,og hs h3 hok,_,e,_,rfl,by rw[fe (by omega)];exact h5,λ_=>rfl,bE.splice h7 hs hx (by omega)⟩
def tg(h:SR C base la mu σ a.tmps w){pts:Tz}{t:TI}{x z:TD}{e:Eff}(he:dL C pts t x (oval σ.tmps x) (oval σ.tmps z)=some e) :
  kU C base la mu σ w (do Instr.storeAt t (a.eval x) (a.eval z);pure .skip) e:=by
 have hx:=ao h x
 have hz:=ao h z
 unfold dL at he
 split at he
 ·cases he
 next ht=>
  simp only[qaS]at ht
  split at he
  ·cases hp:fR (oval σ.tmps x)with
   |none=>rw[hp]at he;cases he
   |some p=>
    rw[hp]at he
    cases he
    obtain⟨q,hq,hc⟩:=ny hp hx
    intro H' v hv
    unfold gS at hv
    split at hv
    next vs esz hid=>
     cases hwr:dN C.P t (oval σ.tmps z) vs p.2 with
     |none=>rw[hwr]at hv;cases hv
     |some vs'=>
      rw[hwr]at hv
      cases hv
      obtain⟨h1,h2,h3⟩:=gL hwr
      have hcs:=hz.cells ht
      obtain⟨c,e,h4,h5,h6,h7⟩:=h.wr.splice hid hq h3 (hcs.downc h2) h2
      have hst:=jX (C:=C) (at_:=q.o+p.2) ht hz h1 h2 h4 (by have:=hcs.1;simp at this h5 ⊢;omega)
      refine⟨.skip,undef,_,mu,?_,.inr ⟨rfl,rfl⟩,.undef,h6,h7,h6.obj⟩
      simp[mo hc hst]
    ·cases hv
  ·cases he
  next s _=>
   cases hp:gH s (oval σ.tmps x)with
   |none=>rw[hp]at he;cases he
   |some off=>
    rw[hp]at he
    cases he
    obtain⟨b,hb,hc⟩:=qW hp hx
    intro vs vs' hs hwr
    obtain⟨h1,h2,h3⟩:=gL hwr
    obtain⟨c,e,h4,h5,h6⟩:=loc_ok h hs hb
    have hcs:=hz.cells ht
    have hl:=fh h3
    have hvc:vs.length=c.size:=by simpa using h5.1
    have hcsl:(oval σ.tmps z).cells.size=(a.eval z).cells.size:=by simpa using hcs.1
    have hst:=jX (C:=C) (at_:=off) ht hz h1 h2 h4 (by simp at hl;omega)
    refine⟨b,c,cq c off (a.eval z).cells.toList,e,hb,h4,by simp[mo hc hst],?_,og h3 h6 h2⟩
    have hsp:=bE.splice (o:=0) (bE.of_list h5) h3 (hcs.downc h2) (by omega)
    rw[qaF]at hsp
    have hsz:(cq c off (a.eval z).cells.toList).size=c.size:=fe (by simp at hl ⊢;omega)
    refine⟨by simp[hsz];omega,λi u y hu hy=>?_⟩
    obtain⟨u',h8,h9⟩:=hsp i u hu
    rw[qaF]at h8
    obtain rfl:u'=y:=by rw[qcA,h8]at hy;exact qan hy
    exact h9
def jQ(h:SR C base la mu σ a.tmps w)(hb:base<=w.heap.size){pts:Tz}{dst:Tn}{t:TI}{v c:Value}{e:Eff}(hv:VR la mu v c)(he:bM C pts dst t v=some e) :
  kU C base la mu σ w (do pure (.value (←Instr.box t c))) e:=by
 unfold bM at he
 split at he
 ·cases he
 next ht=>
  simp only[qaS]at ht
  have hcs:=hv.cells ht
  split at he
  ·cases he
  next d=>
   split at he
   ·cases he
   next hok=>
    simp only[qaS,qbL]at hok
    split at he
    ·cases he
     exact⟨c.cells,t,by simp[Instr.box,newVar,newRow],hcs.downc hok,hok⟩
    ·cases he
     intro H' u hu
     cases hu
     have hn:=h.wr.new hb (w':=w.alloc (.cells c.cells t)) (x:=.cells c.cells t) rfl rfl rfl rfl (.cells v.cells.toList (jz C.P t) true) ⟨w.heap.size,0,c.cells.size,jz C.P t⟩ rfl (by
      have hl:v.cells.size=c.cells.size:=by simpa using hcs.1
      refine⟨rfl,by simp[hl],hok,c.cells,t,_,rfl,by simp,λ_=>rfl,λi u hu=>?_⟩
      obtain⟨u',h1,h2⟩:=(hcs.downc hok).get hu
      exact⟨u',by simpa using h1,h2⟩) (λ_=>rfl)
     refine⟨.value (.pointer (some ⟨w.heap.size,0,none⟩)),_,_,_,by simp[Instr.box,newVar,newRow],.inl rfl,?_,hn.1,hn.2.1,hn.2.2⟩
     exact .hptr (bh _ _ _)
end
end
section
variable [Val] [Glo]
section
variable {C:Cfg} {base:Nat} {la:LMap} {mu:HMap} {σ:St} {a:Act} {w:World}
def WR.newRow(hw:WR C base mu σ.heap w)(hb:base<=w.heap.size){w':World}{vs ys:Tl}{cs:Tj}{e:TI}{esz:Nat}(hx:VRs noL mu vs ys)(hok:vs.all aI=true)
  (hpre:∀(i:Nat) y,ys[i]?=some y->cs[i]?=some y) (hlen:ys.length<=cs.size) (hw':w'.heap=w.heap.push (.cells cs e)) (hos:w'.os=w.os) (ht:w'.tape=w.tape) (hu:w'.output=w.output) (hd:w.drawn<=w'.drawn:=by exact qam _) :
  WR C base (upd mu σ.heap.length ⟨w.heap.size,0,cs.size,esz⟩) (σ.heap++[.cells vs esz true]) w'/\Evo σ.heap mu w (σ.heap++[.cells vs esz true]) (upd mu σ.heap.length ⟨w.heap.size,0,cs.size,esz⟩) w'/\Old mu (upd mu σ.heap.length ⟨w.heap.size,0,cs.size,esz⟩) (σ.heap++[.cells vs esz true]) w':=by
 refine hw.new hb hw' hos ht hu _ _ rfl ⟨rfl,by have:=hx.1;simp only;omega,hok,cs,e,_,rfl,by simp,λ_=>rfl,λi v hv=>?_⟩ (λ_=>rfl) hd
 obtain⟨y,h1,h2⟩:=hx.get hv
 exact⟨y,by simpa using hpre i y h1,h2⟩
def jd{z:Value}(hz:flat z=true)(ht:aB z=false):z.cells.toList.all scalar=true:=by
 cases z with
 |agg cs=>exact hz
 |tuple cs=>
  have hs:gz (.tuple cs)=true:=by simpa[aB]using ht
  simp[flat,eL hs]at hz
 |_=>simpa[Value.cells,flat,en]using hz
def fg{v:Value}(h:scalar v=true):aI v=true:=by
 unfold Am.scalar at h;split at h<;>first|rfl|cases h
def VRs.scalars{vs:Tl}(h:vs.all scalar=true):VRs la mu vs vs:=by
 refine⟨rfl,λi x y hx hy=>?_⟩
 obtain rfl:x=y:=by rw[hx]at hy;exact qan hy
 exact .scalar (bU h hx)
def oB{f g:Value->Bool}{vs:Tl}(h:vs.all f=true)(hfg:∀v,f v=true->g v=true):vs.all g=true:=
 qab.2 λx hx=>hfg x (qab.1 h x hx)
def oq{z:Tl}{n i:Nat}(h:i<n*z.length):(aD z n)[i]?=z[i%z.length]?:=by
 unfold aD
 induction n generalizing i with
 |zero=>simp at h
 |succ n ih=>
  rw[qb6,qb0]
  by_cases hi:i<z.length
  ·rw[qaf hi,Nat.mod_eq_of_lt hi]
  ·rw[qak (by omega)]
   have hz:0<z.length:=by
    rcases qcU z.length with h0|h0
    ·rw[h0]at h;simp at h
    ·exact h0
   rw[qbk,qb8]at h
   rw[ih (by omega),←Nat.mod_eq_sub_mod (by omega)]
def da{z:Tl}{n:Nat}:(aD z n).length=n*z.length:=by
 unfold aD
 induction n with
 |zero=>simp
 |succ n ih=>rw[qb6,qb0,qaG,ih,qbk];omega
def dS{f:Value->Bool}{z:Tl}{n:Nat}(h:z.all f=true):(aD z n).all f=true:=by
 unfold aD
 rw[List.all_flatten]
 refine qab.2 λl hl=>?_
 rw[List.mem_replicate]at hl
 rw[hl.2];exact h
def iB{z:Tj}{n m:Nat}(hm:z.size≠0)(h:m=n*z.size)(i:Nat)(hi:i<m):(madeCells z m)[i]?=(aD z.toList n)[i]?:=by
 rw[oq (by simp;omega)]
 have hlt:i%z.size<z.size:=qbV _ (by omega)
 simp only[madeCells,Array.getElem?_map]
 rw[Array.getElem?_range,qdq hi]
 simp[hlt]
def px(h:SR C base la mu σ a.tmps w)(hb:base<=w.heap.size){t:TI}{l c:TD}{H':Ts}{v:Value}
  (hf:cO C t (oval σ.tmps l) (oval σ.tmps c) σ.heap=some (H',v)):HOk C base mu σ.heap w (do pure (.value (←Instr.makeSlice t (a.eval l) (a.eval c)))) H' v:=by
 unfold cO at hf
 split at hf
 next ln cn elem h1 h2 hu=>
  split at hf
  next info hi=>
   split at hf
   ·cases hf
   next hsz=>
    split at hf
    next z hzero0=>
     obtain⟨hzero,hzs,hzf,hzt⟩:=iT hzero0
     first
     |skip
      split at hf
      next hbd=>
       cases hf
       obtain⟨b1,b2,b3,b4⟩:=hbd
       obtain⟨kl,el⟩:=ge h1 (ao h l)
       obtain⟨kc,ec⟩:=ge h2 (ao h c)
       have hbytes:(info.bytes:Int)*cn<=281474976710656:=by
        have h1:(info.bytes:Int)*cn<=4096*cn:=qb3 (by omega) (by omega)
        omega
       have hrun:=run_make (P:=C.P) w t elem info z hu hi hzero kl kc ln cn b1 b2 hbytes (by omega)
       have hzc:=jd hzf hzt
       have hsz':(madeCells z.cells (cn.toNat*info.size)).size=cn.toNat*info.size:=by simp[madeCells]
       have hN:=h.wr.newRow hb (w':=w.alloc (.cells (madeCells z.cells (cn.toNat*info.size)) elem)) (esz:=info.size) (VRs.scalars (la:=noL) (mu:=mu) (dS (n:=cn.toNat) hzc)) (oB (dS hzc) λ_=>fg)
        (cs:=madeCells z.cells (cn.toNat*info.size)) (e:=elem) (λi y hy=>by
         have hlt:i<cn.toNat*info.size:=by
          rcases qaC i (cn.toNat*info.size)with h|h
          ·exact h
          ·rw[qae (by rw[da];simp[hzs];exact h)]at hy;cases hy
         rw[iB (n:=cn.toNat) (by omega) (by rw[hzs]) i hlt];exact hy) (by rw[da,hsz'];simp[hzs]) rfl rfl rfl rfl
       refine⟨.value (.slice (some ⟨w.heap.size,0,none⟩) ln.toNat cn.toNat),_,_,_,by rw[el,ec];simp[hrun],.inl rfl,?_,hN.1,hN.2.1,hN.2.2⟩
       have:=VR.hslice (la:=noL) (id:=σ.heap.length) (off:=0) (len:=ln.toNat) (cap:=cn.toNat) (cx:=cn.toNat+1) (bh mu σ.heap.length ⟨w.heap.size,0,(madeCells z.cells (cn.toNat*info.size)).size,info.size⟩)
        (by simp only[hsz'];omega) (by omega) (.inr rfl)
       simpa using this
      ·cases hf
    ·cases hf
  ·cases hf
 ·cases hf
def fill_size(pl:Nat->Option (Nat×Nat)):∀(ps:List (Nat×Value)) (cs r:Tj),Instr.fill pl cs ps=some r->r.size=cs.size:=by
 intro ps
 induction ps with
 |nil=>intro cs r h;simp[Instr.fill]at h;rw[h]
 |cons p ps ih=>
  intro cs r h
  obtain⟨i,x⟩:=p
  unfold Instr.fill at h
  split at h
  ·cases h
  ·split at h
   ·cases h
   ·rw[ih _ _ h]
    have:∀(l:List (Value×Nat)) (acc:Tj) (off:Nat),(l.foldl (λ(acc:Tj) (c,j)=>acc.setIfInBounds (off+j) c) acc).size=acc.size:=by
     intro l
     induction l with
     |nil=>intro acc off;rfl
     |cons y l ih2=>intro acc off;rw[qb1,ih2];simp
    rw[←qcd]
    exact this _ _ _
def foldl_all{f:Value->Bool}(off:Nat):∀(l:List (Value×Nat)) (acc:Tj),acc.toList.all f=true->(∀p∈l,f p.1=true)->
  (l.foldl (λ(acc:Tj) (c,j)=>acc.setIfInBounds (off+j) c) acc).toList.all f=true:=by
 intro l
 induction l with
 |nil=>intro acc h _;exact h
 |cons y l ih=>
  intro acc h hl
  rw[qb1]
  refine ih _ (qab.2 λx hx=>?_) λp hp=>hl p (by simp[hp])
  simp only[Array.toList_setIfInBounds]at hx
  rcases List.mem_or_eq_of_mem_set hx with h1|h1
  ·exact qab.1 h x h1
  ·rw[h1];exact hl y (by simp)
def fill_all{f:Value->Bool}(pl:Nat->Option (Nat×Nat)):∀(ps:List (Nat×Value)) (cs r:Tj),cs.toList.all f=true->(∀p∈ps,p.2.cells.toList.all f=true)->Instr.fill pl cs ps=some r->r.toList.all f=true:=by
 intro ps
 induction ps with
 |nil=>intro cs r h _ hf;simp[Instr.fill]at hf;subst hf;exact h
 |cons p ps ih=>
  intro cs r h hp hf
  obtain⟨i,x⟩:=p
  unfold Instr.fill at hf
  split at hf
  ·cases hf
  next off size hpl=>
   split at hf
   ·cases hf
   ·refine ih _ r ?_ (λq hq=>hp q (by simp[hq])) hf
    rw[←qcd,qcP]
    refine foldl_all off _ _ h λq hq=>?_
    have hq':=List.mem_zipIdx hq
    exact qab.1 (hp (i,x) (by simp)) q.1 (by obtain⟨_,_,h3⟩:=hq';rw[h3];exact qc6 _)
def mK(h:SR C base la mu σ a.tmps w)(hb:base<=w.heap.size){t:TI}{n:Nat}{ps:List (Nat×Value)}{qs:Array (Nat×Value)}{r:Nat×List Value}
  (hp:PRel la mu ps qs.toList) (hok:∀p∈ps,p.2.cells.toList.all aI=true) (hf:dV C t n ps=some r) :
  HOk C base mu σ.heap w (do pure (.value (←Instr.buildSlice t n qs))) (σ.heap++[.cells r.2 r.1 true]) (.slice (some ⟨σ.heap.length,0,tag r.1⟩) n (n+1)):=by
 unfold dV at hf
 split at hf
 next elem hu=>
  split at hf
  next info hi=>
   split at hf
   ·cases hf
   next hne=>
    split at hf
    ·cases hf
    next hbig=>
     split at hf
     next z hzero0=>
      obtain⟨hzero,hzs,hzf,hzt⟩:=iT hzero0
      first
      |skip
       have hzc:=jd hzf hzt
       cases hfl:Instr.fill (λi=>some (i*info.size,info.size)) (aD z.cells.toList n).toArray ps with
       |none=>rw[hfl]at hf;cases hf
       |some cs=>
        rw[hfl]at hf
        cases hf
        have hz0:VRs la mu (aD z.cells.toList n) (aD z.cells.toList n):=VRs.scalars (dS hzc)
        obtain⟨r',h1,h2⟩:=fill_ok (la:=la) (mu:=mu) _ ps qs.toList (aD z.cells.toList n).toArray (aD z.cells.toList n).toArray cs (by simpa using hz0) hp hfl
        have ea:cs.toList.all aI=true:=fill_all _ ps _ cs (by simpa using oB (dS hzc) λ_=>fg) hok hfl
        have hsize:r'.size=n*info.size:=by
         rw[fill_size _ _ _ _ h1];simp[da,hzs]
        have hsz0:¬info.size=0:=hne
        have hrange:((Array.range (n*info.size)).map (z.cells[· % z.cells.size]!))=(aD z.cells.toList n).toArray:=by
         apply Array.ext_getElem?
         intro i
         rw[show((aD z.cells.toList n).toArray)[i]?=(aD z.cells.toList n)[i]? from by simp]
         by_cases hlt:i<n*info.size
         ·exact iB (z:=z.cells) (n:=n) (m:=n*info.size) (by omega) (by rw[hzs]) i hlt
         ·rw[qbw (by simp;omega),qae (by simp[da,hzs];omega)]
        have hN:=h.wr.newRow hb (w':=w.alloc (.cells r' elem)) (esz:=info.size) (h2.downc ea) ea (cs:=r') (e:=elem) (λi y hy=>by simpa using hy) (by simp) rfl rfl rfl rfl
        refine⟨.value (.slice (some ⟨w.heap.size,0,none⟩) n n),_,_,_,?_,.inl rfl,?_,hN.1,hN.2.1,hN.2.2⟩
        ·have e2:¬(n*C.P.cellsOf elem > 2 ^ 24):=by simp only[Program.cellsOf,hi,qau,qbg];omega
         have e3:C.P.cellsOf elem=info.size:=by simp[Program.cellsOf,hi]
         have hzr:(zeroValue elem).run C.P w = .ok z w:=by simp[zeroValue,typeInfo,hi,hzero]
         rw[e3]at e2
         by_cases h0:n=0
         ·subst h0
          have hr0:∀zz:Array Value,((Array.range (0*info.size)).map (zz[· % zz.size]!))=(aD z.cells.toList 0).toArray:=λzz=>by
           rw[qbP];simp[aD]
          simp only[Instr.buildSlice,Sem.run_bind,run_underlying hu,Result.andThen_ok,aO hi,e3,qdq (qbP info.size),qdr e2,Sem.run_pure,hr0,h1]
          simp[newRow]
         ·have e1:¬(n*info.size=0):=by
           simp only[Nat.mul_eq_zero];omega
          simp only[Instr.buildSlice,Sem.run_bind,run_underlying hu,Result.andThen_ok,aO hi,e3,qdr e1,qdr e2,hzr,Sem.run_pure,hrange,h1]
          simp[newRow]
        ·have:=VR.hslice (la:=noL) (id:=σ.heap.length) (off:=0) (len:=n) (cap:=n) (cx:=n+1) (bh mu σ.heap.length ⟨w.heap.size,0,r'.size,info.size⟩) (by simp only[hsize];omega) (by omega) (.inr rfl)
         simpa using this
     ·cases hf
  ·cases hf
 ·cases hf
def dC(hw:WR C base mu σ.heap w){x y:Value}{esz:Nat}{new:Tl}{n:Nat}(hx:VR la mu x y)(hf:ce C σ.heap esz x=some (new,n))(n':Nat)(w':World)(hw':w'.heap=w.heap) :
  ∃ys:List Value,(Builtin.lenOf y).run C.P w' = .ok n w'/\ys.length=n*esz/\VRs noL mu new ys/\new.all aI=true/\
   (n'<=n->(Builtin.firstCells esz n' y).run C.P w' = .ok (ys.take (n'*esz)).toArray w'):=by
 have cutTake:∀ {vs xs:Tl} {c:Tj} {o off b m:Nat} {e:TI} {fr:Nat×Nat},bE mu vs c o->cut vs off (m*esz)=some xs->w.heap[b]?=some (.cells c e fr)->vs.all aI=true->
   ∃ys:List Value,ys.length=m*esz/\VRs noL mu xs ys/\xs.all aI=true/\(n'<=m->(loadCells ⟨b,o+off,none⟩ (n'*esz)).run C.P w' = .ok (ys.take (n'*esz)).toArray w'):=by
  intro vs xs c o off b m e fr hR hcut hbk hall
  obtain⟨ys,g1,g2,g3⟩:=hR.cut hcut
  refine⟨ys,g1,g2,?_,λhle=>?_⟩
  ·unfold Am.cut at hcut
   split at hcut
   ·cases hcut
    exact qab.2 λx hx=>qab.1 hall x (qbt (qbo hx))
   ·cases hcut
  ·have hl:n'*esz<=m*esz:=qbe _ hle
   have hlen:(ys.take (n'*esz)).length=n'*esz:=by simp;omega
   have:=run_loadCells_list (P:=C.P) w' ⟨b,o+off,none⟩ (ys.take (n'*esz)) λj v hj=>by
    rw[bk]
    have hbk':w'.heap[b]?=some (.cells c e fr):=by rw[hw'];exact hbk
    rw[oI hbk']
    refine g3 j v ?_
    rw[qbi]at hj
    split at hj
    ·exact hj
    ·cases hj
   rw[hlen]at this
   exact this
 unfold ce at hf
 split at hf
 ·cases hf
  have:=bw (a:=.slice none 0 0) rfl hx
  subst this
  exact⟨[],by simp[Builtin.lenOf],by simp,.nil,rfl,λhn=>by simp[Builtin.firstCells]⟩
 next ad len cx=>
  split at hf
  next hsp=>
   cases hG:C.G ad.block with
   |none=>rw[hG]at hf;cases hf
   |some vs=>
    rw[hG,qag]at hf
    cases hcut:cut vs ad.off (len*esz)with
    |none=>rw[hcut]at hf;cases hf
    |some xs=>
     rw[hcut]at hf
     cases hf
     obtain⟨hg1,hg2,c,e,fr,hg3,hg4⟩:=hw.glob _ _ hG
     obtain⟨ys,k1,k2,k3,k4⟩:=cutTake hg4 hcut hg3 hg2
     cases hx with
     |scalar h=>simp[Am.scalar]at h
     |hslice h hr hl hx=>simp[tag]at hsp
     |hslice0 hx=>simp[tag]at hsp
     |gslice hl hx=>
      refine⟨ys,by simp[Builtin.lenOf],k1,k2,k3,λhn=>?_⟩
      simpa[Builtin.firstCells]using k4 hn
     |gslice0 hx=>
      refine⟨ys,by simp[Builtin.lenOf],k1,k2,k3,λhn=>?_⟩
      obtain rfl:n'=0:=by omega
      simp[Builtin.firstCells,loadCells,loadCellsFrom]
  ·split at hf
   next hsp=>
    split at hf
    next vs e0 rw0 hid=>
     split at hf
     next he=>
      cases hcut:cut vs ad.off (len*esz)with
      |none=>rw[hcut]at hf;cases hf
      |some xs=>
       rw[hcut]at hf
       cases hf
       obtain⟨q,hq,hr⟩:=hw.obj _ _ hid rfl
       obtain⟨o1,o2,o3,c,e,fr,o4,o5,o6,o7⟩:=hr
       obtain⟨ys,k1,k2,k3,k4⟩:=cutTake o7 hcut o4 o3
       cases hx with
       |scalar h=>simp[Am.scalar]at h
       | @hslice _ _ _ _ _ p h hr hl hx=>
        obtain rfl:p=q:=by rw[h]at hq;exact qan hq
        refine⟨ys,by simp[Builtin.lenOf],k1,k2,k3,λhn=>?_⟩
        simpa[Builtin.firstCells]using k4 hn
       |hslice0 hx=>
        refine⟨ys,by simp[Builtin.lenOf],k1,k2,k3,λhn=>?_⟩
        obtain rfl:n'=0:=by omega
        simp[Builtin.firstCells,loadCells,loadCellsFrom]
       |gslice hl hx=>simp[tag]at hsp
       |gslice0 hx=>simp[tag]at hsp
     ·cases hf
    ·cases hf
   ·cases hf
 next s=>
  split at hf
  next he=>
   cases hf
   subst he
   have:=bw (a:=.string s) rfl hx
   subst this
   refine⟨s.data.toList.map λb=>.int .u8 b.toNat,by simp[Builtin.lenOf],by rw[qbG,qcy];rfl,VRs.scalars ?_,?_,λhn=>?_⟩
   ·exact qab.2 λx hx=>by obtain⟨b,_,rfl⟩:=qaN.1 hx;rfl
   ·exact qab.2 λx hx=>by obtain⟨b,_,rfl⟩:=qaN.1 hx;rfl
   ·simp only[Builtin.firstCells,Sem.run_pure,qcy]
    congr 1
    apply Array.ext'
    simp[ByteArray.data_extract,List.extract]
  ·cases hf
 ·cases hf
end
end
section
variable [Val] [Glo]
section
variable {C:Cfg} {base:Nat} {la:LMap} {mu:HMap} {σ:St} {a:Act} {w:World}
def lP:TypeDesc->Bool
 | .int _=>true
 |_=>false
def br{t xT ty e:TI}{i:TypeInfo}{d:TypeDesc}{ats:Array TypeId}(h0:ats[0]?=some t)(h1:ats[1]?=some xT)(ht:C.P.underlying t=some (.slice e))(hx:C.P.underlying xT=some d)(hd:lP d=false)
  (hi:C.P.info? e=some i) {y:Value} {n sLen sCap:Nat} {ys:Tl} {b:Option Addr} (hl:(Builtin.lenOf y).run C.P w = .ok n w) (hf:(Builtin.firstCells i.size n y).run C.P w = .ok ys.toArray w) (hr:sLen+n<=sCap) :
  (Builtin.append_ ats ty #[.slice b sLen sCap,y]).run C.P w =
   match b with
   |none=>.ok (.slice none (sLen+n) sCap) w
   |some ad=>((storeCells (ad.add (sLen*i.size)) ys).run C.P w).andThen λ_ w'=>.ok (.slice (some ad) (sLen+n) sCap) w':=by
 have _hne:∀k,d = .int k->False:=λk e=>by subst e;simp[lP]at hd
 cases b<;>simp[Builtin.append_,h0,h1,run_underlying ht,run_underlying hx,sizeOf,typeInfo,hi,hl,hf,hr]
def mT{t xT ty e:TI}{i:TypeInfo}{d:TypeDesc}{z:Value}{ats:Array TypeId}(h0:ats[0]?=some t)(h1:ats[1]?=some xT)(ht:C.P.underlying t=some (.slice e))(hx:C.P.underlying xT=some d)(hd:lP d=false)
  (hi:C.P.info? e=some i) (hz:i.zero=some z) {y:Value} {n sLen sCap:Nat} {olds ys:Tl} {b:Option Addr} (hl:(Builtin.lenOf y).run C.P w = .ok n w) (hf:(Builtin.firstCells i.size n y).run C.P w.drew = .ok ys.toArray w.drew)
  (ho:(Builtin.firstCells i.size sLen (.slice b sLen sCap)).run C.P w.drew = .ok olds.toArray w.drew)
  (hr:sCap<sLen+n) (hok:ch (sLen+n) i.bytes=true) :
  (Builtin.append_ ats ty #[.slice b sLen sCap,y]).run C.P w =
   .ok (.slice (some ⟨w.heap.size,0,none⟩) (sLen+n) (grownCap w (sLen+n) sCap e)) (w.drew.alloc (.cells ((olds++ys).toArray++Builtin.zeroCells z.cells (grownCap w (sLen+n) sCap e - (sLen+n))) e)):=by
 simp only[ch,qaa,qbx]at hok
 have hb:(sLen+n)*i.bytes<=140737488355328:=hok.2
 have hfit:=growslice_fits (old:=sCap) (need:=sLen+n) (bytes:=i.bytes) (by omega) (by omega)
 have hn:¬(sLen+n<=sCap):=by omega
 have h63':¬(9223372036854775807<((sLen:Int)+(n:Int))):=by omega
 have h48':¬(281474976710656<Builtin.nextslicecap (sLen+n) sCap*i.bytes):=by omega
 have _hne:∀k,d = .int k->False:=λk e=>by subst e;simp[lP]at hd
 simp[Builtin.append_,h0,h1,run_underlying ht,run_underlying hx,sizeOf,typeInfo,zeroValue,hi,hz,hl,hf,ho,hn,h63',h48',Question.forced,newRow,grownCap]
 congr 2
 apply Array.ext'
 simp
def pz{α:Type}{l:List α}{n m:Nat}{x:α}(h:x∈(l.drop n).take m):x∈l:=qbt (qbo h)
def cut_all{f:Value->Bool}{vs xs:Tl}{off n:Nat}(hc:cut vs off n=some xs)(h:vs.all f=true):xs.all f=true:=by
 unfold Am.cut at hc
 split at hc
 ·cases hc;exact qab.2 λx hx=>qab.1 h x (pz hx)
 ·cases hc
def nj{vs xs:Tl}{off n:Nat}(hc:cut vs off n=some xs):xs.length=n/\off+n<=vs.length:=by
 unfold Am.cut at hc
 split at hc
 ·cases hc;simp;omega
 ·cases hc
def olds_ok{vs old:Tl}{p:Pl}{off len esz sCap:Nat}{c:Tj}{e:TI}{fr:Nat×Nat}(hR:bE mu vs c p.o)(hcut:cut vs off (len*esz)=some old)(hbk:w.heap[p.b]?=some (.cells c e fr))(w':World)(hw':w'.heap=w.heap) :
  ∃os:List Value,os.length=len*esz/\VRs noL mu old os/\(Builtin.firstCells esz len (.slice (some ⟨p.b,p.o+off,none⟩) len sCap)).run C.P w' = .ok os.toArray w'/\∀(j:Nat) y,os[j]?=some y->c[p.o+off+j]?=some y:=by
 obtain⟨os,g1,g2,g3⟩:=hR.cut hcut
 refine⟨os,g1,g2,?_,g3⟩
 have:=run_loadCells_list (P:=C.P) w' ⟨p.b,p.o+off,none⟩ os λj v hj=>by
  rw[bk,oI (by rw[hw'];exact hbk)]
  exact g3 j v hj
 rw[g1]at this
 simpa[Builtin.firstCells]using this
def sn(hw:WR C base mu σ.heap w)(hb:base<=w.heap.size){t xT ty e:TI}{i:TypeInfo}{d:TypeDesc}{z:Value}{ats:Array TypeId}(h0:ats[0]?=some t)(h1:ats[1]?=some xT)(ht:C.P.underlying t=some (.slice e))(hx:C.P.underlying xT=some d)(hd:lP d=false)
  (hi:C.P.info? e=some i) (hz:i.zero=some z) (hzs:z.cells.size=i.size) {y:Value} {n sLen sCap:Nat} {old new olds ys:Tl} {b:Option Addr} (hl:(Builtin.lenOf y).run C.P w = .ok n w) (hf:(Builtin.firstCells i.size n y).run C.P w.drew = .ok ys.toArray w.drew)
  (ho:(Builtin.firstCells i.size sLen (.slice b sLen sCap)).run C.P w.drew = .ok olds.toArray w.drew) (hr:sCap<sLen+n) (hok:ch (sLen+n) i.bytes=true)
  (r1:VRs noL mu old olds) (r2:VRs noL mu new ys) (l1:olds.length=sLen*i.size) (l2:ys.length=n*i.size) (ok1:old.all aI=true) (ok2:new.all aI=true) :
  HOk C base mu σ.heap w (do pure (.value (←Builtin.append_ ats ty #[.slice b sLen sCap,y]))) (σ.heap++[.cells (old++new) i.size true]) (.slice (some ⟨σ.heap.length,0,tag i.size⟩) (sLen+n) 0):=by
 have hrun:=mT (ty:=ty) h0 h1 ht hx hd hi hz hl hf ho hr hok
 have hge:=grownCap_ge w (sLen+n) sCap e
 have hcs:((olds++ys).toArray++Builtin.zeroCells z.cells (grownCap w (sLen+n) sCap e - (sLen+n))).size=grownCap w (sLen+n) sCap e*i.size:=by
  simp[size_zeroCells,l1,l2,hzs]
  rw[←qbk,←qbk]
  congr 1;omega
 have hN:=(hw.drew (w.drawn+1)).newRow (C:=C) hb (w':=w.drew.alloc (.cells ((olds++ys).toArray++Builtin.zeroCells z.cells (grownCap w (sLen+n) sCap e - (sLen+n))) e)) (esz:=i.size) (r1.append r2) (by simp[ok1,ok2]) (e:=e)
  (λj y hj=>by
   have hjl:j<(olds++ys).length:=by
    rcases qaC j (olds++ys).length with h|h
    ·exact h
    ·rw[qae h]at hj;cases hj
   rw[Array.getElem?_append_left (by simpa using hjl)]
   simpa using hj) (by simp) rfl rfl rfl rfl
 refine⟨.value (.slice (some ⟨w.heap.size,0,none⟩) (sLen+n) (grownCap w (sLen+n) sCap e)),_,_,_,by simp[hrun],.inl rfl,?_,hN.1,(Evo.refl σ.heap mu w).drew (w.drawn+1) (Nat.le_succ _) |>.trans hN.2.1,hN.2.2⟩
 have:=VR.hslice (la:=noL) (id:=σ.heap.length) (off:=0) (len:=sLen+n) (cap:=grownCap w (sLen+n) sCap e) (cx:=0) (bh mu σ.heap.length ⟨w.heap.size,0,_,i.size⟩) (by rw[qaF];exact Nat.le_of_eq hcs.symm) hge (.inl rfl)
 exact this
def uU(h:SR C base la mu σ a.tmps w)(hb:base<=w.heap.size){t xT ty:TI}{d:TypeDesc}{ats:Array TypeId}{s x:TD}{H':Ts}{v:Value}(h0:ats[0]?=some t)(h1:ats[1]?=some xT)(hx:C.P.underlying xT=some d)(hd:lP d=false)
  (hf:eC C t (oval σ.tmps s) (oval σ.tmps x) σ.heap=some (H',v)):HOk C base mu σ.heap w (do pure (.value (←Builtin.append_ ats ty #[a.eval s,a.eval x]))) H' v:=by
 have hs:=ao h s
 have hxv:=ao h x
 unfold eC at hf
 split at hf
 next elem hu=>
  split at hf
  ·cases hf
  next info hi=>
   split at hf
   ·cases hf
   next hsz0=>
    split at hf
    ·cases hf
    next hzn=>
     obtain⟨z,hz0⟩ : ∃z,ic info=some z:=by
      cases hzz':ic info with
      |none=>simp[hzz']at hzn
      |some z=>exact⟨z,rfl⟩
     obtain⟨hz,hzs,_,_⟩:=iT hz0
     split at hf
     ·cases hf
     next new n hcv=>
      obtain⟨ys,c1,c2,c3,c4,c5⟩:=dC h.wr hxv hcv n w rfl
      obtain⟨ys',c1',c2',c3',c4',c5'⟩:=dC h.wr hxv hcv n w.drew rfl
      have hfy:=c5 (qam _)
      have hfy':=c5' (qam _)
      rw[qaJ (by omega)]at hfy hfy'
      split at hf
      · -- nil
       rename_i hse
       rw[hse]at hs
       have hsv:=bw (a:=.slice none 0 0) rfl hs
       rw[hsv]
       split at hf
       next hn0=>
        cases hf
        subst hn0
        have hrun:=br (ty:=ty) (b:=none) (sLen:=0) (sCap:=0) h0 h1 hu hx hd hi c1 hfy (by omega)
        exact⟨.value (.slice none 0 0),_,w,mu,by simpa using congrArg (λr:Result Value=>r.andThen λv w=>.ok (Next.value v) w) hrun,.inl rfl,.scalar rfl,h.wr,.refl _ _ _,h.wr.obj⟩
       next hn0=>
        split at hf
        next hok=>
         cases hf
         have:=sn (ty:=ty) (b:=none) (sLen:=0) (sCap:=0) (old:=[]) (olds:=[]) h.wr hb h0 h1 hu hx hd hi hz hzs c1 hfy' (by simp[Builtin.firstCells]) (by omega) (by simpa using hok) .nil c3' (by simp) c2' rfl c4'
         simpa using this
        ·cases hf
      next ad len cx hse=>
       rw[hse]at hs
       split at hf
       ·cases hf
       next hsp=>
        simp only[ne_eq,Classical.not_not]at hsp
        split at hf
        next vs e0 rw0 hid=>
         split at hf
         ·cases hf
         next he0=>
          simp only[ne_eq,Classical.not_not]at he0
          subst he0
          split at hf
          ·cases hf
          next old hcut=>
           obtain⟨q,hq,hr⟩:=h.wr.obj _ _ hid rfl
           obtain⟨o1,o2,o3,c,e,fr,o4,o5,o6,o7⟩:=hr
           have hsv:(∃cap,a.eval s = .slice (some ⟨q.b,q.o+ad.off,none⟩) len cap/\ad.off+cap*info.size<=q.room/\len<=cap/\(cx=0∨cx=cap+1))∨(∃a',a.eval s = .slice (some a') 0 0/\len=0/\cx<=1):=by
            clear hf
            generalize a.eval s=sv at hs
            cases hs with
            |scalar h=>simp[Am.scalar]at h
            | @hslice _ _ _ cap _ p hm hr hl hxx=>
             obtain rfl:p=q:=by rw[hm]at hq;exact qan hq
             rw[o1]at hr
             exact .inl ⟨cap,rfl,hr,hl,hxx⟩
            |hslice0 hxx=>exact .inr ⟨_,rfl,rfl,hxx⟩
            |gslice hl hx=>simp[tag]at hsp
            |gslice0 hx=>simp[tag]at hsp
           have grow:∀cap',(∃b,a.eval s = .slice b len cap'/\(b=some ⟨q.b,q.o+ad.off,none⟩∨len=0))->cap'<len+n->ch (len+n) info.bytes=true->
             HOk C base mu σ.heap w (do pure (.value (←Builtin.append_ ats ty #[a.eval s,a.eval x]))) (σ.heap++[.cells (old++new) info.size true]) (.slice (some ⟨σ.heap.length,0,tag info.size⟩) (len+n) 0):=by
            rintro cap' ⟨b,hev,hb'⟩ hlt hok
            rw[hev]
            rcases hb' with rfl|rfl
            ·obtain⟨os,g1,g2,g3,_⟩:=olds_ok (C:=C) (sCap:=cap') o7 hcut o4 w.drew rfl
             exact sn (ty:=ty) h.wr hb h0 h1 hu hx hd hi hz hzs c1 hfy' g3 hlt hok g2 c3' g1 c2' (cut_all hcut o3) c4'
            ·have ho:old=[]:=by
              have:=(nj hcut).1;simp at this;exact this
             subst ho
             exact sn (ty:=ty) (olds:=[]) h.wr hb h0 h1 hu hx hd hi hz hzs c1 hfy' (by cases b<;>simp[Builtin.firstCells,loadCells,loadCellsFrom]) hlt hok .nil c3' (by simp) c2' rfl c4'
           split at hf
           · -- the capacity is not known
            split at hf
            next hn0=>
             cases hf
             subst hn0
             have hnil:ys=[]:=by have:=c2;simp at this;exact this
             subst hnil
             rcases hsv with⟨cap,hev,hroom,hle,_⟩|⟨a',hev,rfl,_⟩
             ·have hrun:=br (ty:=ty) (b:=some ⟨q.b,q.o+ad.off,none⟩) (sLen:=len) (sCap:=cap) h0 h1 hu hx hd hi c1 hfy (by omega)
              refine⟨.value (a.eval s),a.eval s,w,mu,?_,.inl rfl,(ee (by simp[bF,hsp,tag]) hs),h.wr,.refl _ _ _,h.wr.obj⟩
              rw[hev];simp[hrun,storeCells]
             ·have hrun:=br (ty:=ty) (b:=some a') (sLen:=0) (sCap:=0) h0 h1 hu hx hd hi c1 hfy (by omega)
              refine⟨.value (a.eval s),a.eval s,w,mu,?_,.inl rfl,(ee (by simp[bF,hsp,tag]) hs),h.wr,.refl _ _ _,h.wr.obj⟩
              rw[hev];simp[hrun,storeCells]
            next hn0=>
             split at hf
             next hok=>
              cases hf
              simp only[qaa]at hok
              obtain⟨hrw,hok⟩:=hok
              subst hrw
              obtain rfl:=o6 rfl
              have hidl:ad.block<σ.heap.length:=by
               rcases qaC ad.block σ.heap.length with h|h
               ·exact h
               ·rw[qae h]at hid;cases hid
              have away:HOk C base mu σ.heap w (do pure (.value (←Builtin.append_ ats ty #[a.eval s,a.eval x]))) (σ.heap++[.cells (old++new) info.size true]) (.slice (some ⟨σ.heap.length,0,tag info.size⟩) (len+n) 0)->
                HOk C base mu σ.heap w (do pure (.value (←Builtin.append_ ats ty #[a.eval s,a.eval x]))) (σ.heap.set ad.block .dead++[.cells (old++new) info.size true]) (.slice (some ⟨σ.heap.length,0,tag info.size⟩) (len+n) 0):=by
               rintro⟨nx,v',w',mu',g1,g2,g3,g4,g5,g6⟩
               have hm':mu' ad.block=some q:=by rw[g5.same _ hidl];exact hq
               have hid':(σ.heap++[.cells (old++new) info.size true])[ad.block]?=some (.cells vs info.size true):=by rw[qaf hidl];exact hid
               have hlt:=g4.lt hid' rfl hm'
               obtain⟨x0,hx0⟩ : ∃x0,w'.heap[q.b]?=some x0:=⟨w'.heap[q.b],by simp[hlt]⟩
               have hself:w'.heap.setIfInBounds q.b x0=w'.heap:=by
                apply Array.ext_getElem?
                intro k
                by_cases hk:k=q.b
                ·subst hk;rw[hx0];simp[hlt]
                ·rw[qbJ (qb9 hk)]
               obtain⟨k1,k2⟩:=g4.set hid' rfl hm' (w':=w') (x:=x0) hself.symm rfl rfl rfl .dead (λh=>by cases h) trivial
               rw[qcM _ _ hidl]at k1 k2
               refine⟨nx,v',w',mu',g1,g2,g3,k1,g5.trans k2,λj oj hj ha=>?_⟩
               rw[←qcM _ _ hidl]at hj
               rcases get_set hj with⟨_,hj⟩|⟨_,_,rfl⟩
               ·exact g6 j oj hj ha
               ·cases ha
              rcases hsv with⟨cap,hev,hroom,hle,_⟩|⟨a',hev,rfl,_⟩
              ·by_cases hin:len+n<=cap
               · -- in place
                have hat:q.o+ad.off+len*info.size+ys.length<=c.size:=by
                 have:(len+n)*info.size<=cap*info.size:=qbe _ hin
                 rw[qbk]at this
                 omega
                have hst:=bv (C:=C) (at_:=q.o+ad.off+len*info.size) (ys:=ys) o4 hat (cW c3 c4)
                have hrun:=br (ty:=ty) (b:=some ⟨q.b,q.o+ad.off,none⟩) (sLen:=len) (sCap:=cap) h0 h1 hu hx hd hi c1 hfy hin
                simp only[bk]at hrun
                rw[hst]at hrun
                have hM:=h.wr.move hid rfl hq (w':=w.setRow q.b (cq c (q.o+ad.off+len*info.size) ys)) (gJ o4) rfl rfl rfl (.cells (old++new) info.size true) ⟨q.b,q.o+ad.off,q.room - ad.off,info.size⟩ rfl (by
                 have hol:=nj hcut
                 have hnl:=c3.1
                 refine⟨rfl,by simp only[qaG];omega,by simp[cut_all hcut o3,c4],_,e,_,rfl,by rw[fe (by omega)];simp only;omega,λ_=>rfl,λi v hv=>?_⟩
                 obtain⟨os,k1,k2,k3⟩:=bE.cut o7 hcut
                 simp only
                 rw[jU (by omega)]
                 by_cases hi':i<old.length
                 ·rw[qaf hi']at hv
                  obtain⟨v',m1,m2⟩:=k2.get hv
                  rw[qdr (by omega)]
                  exact⟨v',k3 i v' m1,m2⟩
                 ·rw[qak (by omega)]at hv
                  obtain⟨v',m1,m2⟩:=c3.get hv
                  have hil:i - old.length<ys.length:=by
                   rcases qaC (i - old.length) ys.length with h|h
                   ·exact h
                   ·rw[qae h]at m1;cases m1
                  rw[qdq (by omega)]
                  exact⟨v',by rw[show q.o+ad.off+i - (q.o+ad.off+len*info.size)=i - old.length by omega];exact m1,m2⟩) (λ_=>rfl)
                refine⟨.value (.slice (some ⟨q.b,q.o+ad.off,none⟩) (len+n) cap),_,_,_,by rw[hev];simp[hrun],.inl rfl,?_,hM.1,hM.2.1,hM.2.2⟩
                have:=VR.hslice (la:=noL) (id:=σ.heap.length) (off:=0) (len:=len+n) (cap:=cap) (cx:=0) (bh mu σ.heap.length ⟨q.b,q.o+ad.off,q.room - ad.off,info.size⟩) (by simp only;omega) hin (.inl rfl)
                simpa using this
               ·exact away (grow cap ⟨_,hev,.inl rfl⟩ (by omega) hok)
              ·exact away (grow 0 ⟨_,hev,.inr rfl⟩ (by omega) hok)
             ·cases hf
           · -- the capacity is known
            rename_i cap'
            split at hf
            next hin=>
             split at hf
             next hrw=>
              subst hrw
              obtain rfl:=o6 rfl
              cases hsp2:splice vs (ad.off+len*info.size) new with
              |none=>rw[hsp2]at hf;cases hf
              |some vs'=>
               rw[hsp2]at hf
               cases hf
               obtain⟨c',e',g1,g2,g3,g4⟩:=h.wr.splice hid hq hsp2 c3 c4
               obtain⟨rfl,rfl⟩ : c=c'/\e=e':=by
                rw[g1]at o4
                simp only[qar,Obj.cells.injEq]at o4
                exact⟨o4.1.symm,o4.2.1.symm⟩
               rcases hsv with⟨cap,hev,hroom,hle,hcx⟩|⟨a',hev,rfl,hcx⟩
               ·have hcap:cap=cap':=by omega
                subst hcap
                have hst:=bv (C:=C) (at_:=q.o+(ad.off+len*info.size)) (ys:=ys) g1 g2 (cW c3 c4)
                have hrun:=br (ty:=ty) (b:=some ⟨q.b,q.o+ad.off,none⟩) (sLen:=len) (sCap:=cap) h0 h1 hu hx hd hi c1 hfy hin
                simp only[bk,qbr]at hrun hst
                rw[hst]at hrun
                refine⟨.value (.slice (some ⟨q.b,q.o+ad.off,none⟩) (len+n) cap),_,_,mu,by rw[hev];simp[hrun],.inl rfl,?_,g3,g4,g3.obj⟩
                obtain⟨bl,of,sp⟩:=ad
                simp only at hsp
                subst hsp
                rw[←o1]
                exact .hslice hq (by rw[o1];exact hroom) hin (.inr rfl)
               ·have hcap:cap'=0:=by omega
                subst hcap
                have hn0:n=0:=by omega
                subst hn0
                have hnil:ys=[]:=by have:=c2;simp at this;exact this
                subst hnil
                have hnn:new=[]:=by have:=c3.1;simp at this;exact this
                subst hnn
                have hrun:=br (ty:=ty) (b:=some a') (sLen:=0) (sCap:=0) h0 h1 hu hx hd hi c1 hfy (by omega)
                have hvv:vs'=vs:=by
                 unfold Am.splice at hsp2
                 split at hsp2
                 ·cases hsp2;simp
                 ·cases hsp2
                subst hvv
                have hset:σ.heap.set ad.block (.cells vs' info.size true)=σ.heap:=by
                 apply qaT
                 intro k
                 rw[qaD]
                 split
                 ·rename_i hk;subst hk
                  split
                  ·rw[hid]
                  next hlt=>rw[qae (by omega)]
                 ·rfl
                rw[hset]
                refine⟨.value (a.eval s),a.eval s,w,mu,?_,.inl rfl,(ee (by simp[bF,hsp,tag]) (by simpa using hs)),h.wr,.refl _ _ _,h.wr.obj⟩
                rw[hev];simp[hrun,storeCells]
             ·split at hf
              next hn0=>
               cases hf
               subst hn0
               have hnil:ys=[]:=by have:=c2;simp at this;exact this
               subst hnil
               refine⟨.value (a.eval s),a.eval s,w,mu,?_,.inl rfl,(ee (by simp[bF,hsp,tag]) (by simpa using hs)),h.wr,.refl _ _ _,h.wr.obj⟩
               rcases hsv with⟨cap,hev,hroom,hle,hcx⟩|⟨a',hev,rfl,hcx⟩
               ·have hrun:=br (ty:=ty) (b:=some ⟨q.b,q.o+ad.off,none⟩) (sLen:=len) (sCap:=cap) h0 h1 hu hx hd hi c1 hfy (by omega)
                rw[hev];simp[hrun,storeCells]
               ·have hrun:=br (ty:=ty) (b:=some a') (sLen:=0) (sCap:=0) h0 h1 hu hx hd hi c1 hfy (by omega)
                rw[hev];simp[hrun,storeCells]
              ·cases hf
            next hin=>
             split at hf
             next hok=>
              cases hf
              rcases hsv with⟨cap,hev,hroom,hle,hcx⟩|⟨a',hev,rfl,hcx⟩
              ·exact grow cap ⟨_,hev,.inl rfl⟩ (by omega) hok
              ·exact grow 0 ⟨_,hev,.inr rfl⟩ (by omega) hok
             ·cases hf
        ·cases hf
      ·cases hf
 ·cases hf
end
end
section
variable [Val] [Glo]
section
variable {C:Cfg} {base:Nat} {la:LMap} {mu:HMap} {σ:St} {a:Act} {w:World}
def copyA_ok(h:SR C base la mu σ a.tmps w){t ty:TI}{ats:Array TypeId}{d x:TD}{H':Ts}{v:Value}(h0:ats[0]?=some t)
  (hf:lr C t (oval σ.tmps d) (oval σ.tmps x) σ.heap=some (H',v)):HOk C base mu σ.heap w (do pure (.value (←Builtin.copy_ ats ty #[a.eval d,a.eval x]))) H' v:=by
 have hd:=ao h d
 have hx:=ao h x
 unfold lr at hf
 split at hf
 next elem hu hde=>
  rw[hde]at hd
  have hdv:=bw (a:=.slice none 0 0) rfl hd
  split at hf
  ·cases hf
  next hsz=>
   obtain⟨i,hi⟩:=bS hsz
   cases hcv:ce C σ.heap (C.P.cellsOf elem) (oval σ.tmps x)with
   |none=>rw[hcv]at hf;cases hf
   |some p=>
    rw[hcv]at hf
    cases hf
    obtain⟨new,n⟩:=p
    obtain⟨ys,c1,c2,c3,c4,c5⟩:=dC h.wr hx hcv 0 w rfl
    have hfc:=c5 (by omega)
    refine⟨.value (.int .i64 0),_,w,mu,?_,.inl rfl,.scalar rfl,h.wr,.refl _ _ _,h.wr.obj⟩
    simp at hfc
    simp[Builtin.copy_,h0,run_underlying hu,hdv,c1,aO hi,hfc,goInt]
 next elem ad dlen cx hu hde=>
  rw[hde]at hd
  split at hf
  ·cases hf
  next hsz=>
   obtain⟨i,hi⟩:=bS hsz
   split at hf
   ·cases hf
   next hsp=>
    simp only[ne_eq,Classical.not_not]at hsp
    split at hf
    next new n vs esz hcv hid=>
     split at hf
     ·cases hf
     next he=>
      simp only[ne_eq,Classical.not_not]at he
      subst he
      obtain⟨ys,c1,c2,c3,c4,c5⟩:=dC h.wr hx hcv (Nat.min n dlen) w rfl
      have hfc:=c5 (Nat.min_le_left _ _)
      cases hspl:splice vs ad.off (new.take (Nat.min n dlen*C.P.cellsOf elem))with
      |none=>rw[hspl]at hf;cases hf
      |some vs'=>
       rw[hspl]at hf
       cases hf
       obtain⟨q,hq,hr⟩:=h.wr.obj _ _ hid rfl
       have hq1:=hr.1
       have c4':(new.take (Nat.min n dlen*C.P.cellsOf elem)).all aI=true:=qab.2 λy hy=>qab.1 c4 y (qbo hy)
       obtain⟨c,e,g1,g2,g3,g4⟩:=h.wr.splice hid hq hspl (c3.take _) c4'
       have hdv:(∃cap,a.eval d = .slice (some ⟨q.b,q.o+ad.off,none⟩) dlen cap)∨(∃a',a.eval d = .slice (some a') 0 0/\dlen=0):=by
        generalize a.eval d=sv at hd
        cases hd with
        |scalar h=>simp[Am.scalar]at h
        | @hslice _ _ _ cap _ p hm hr hl hxx=>
         obtain rfl:p=q:=by rw[hm]at hq;exact qan hq
         exact .inl ⟨cap,rfl⟩
        |hslice0 hxx=>exact .inr ⟨_,rfl,rfl⟩
        |gslice hl hx=>simp[tag]at hsp
        |gslice0 hx=>simp[tag]at hsp
       rcases hdv with⟨cap,hev⟩|⟨a',hev,rfl⟩
       ·have hst:=bv (C:=C) (at_:=q.o+ad.off) (ys:=ys.take (Nat.min n dlen*C.P.cellsOf elem)) g1 g2 (cW (c3.take _) c4')
        refine⟨.value (.int .i64 (Nat.min n dlen)),_,_,mu,?_,.inl rfl,.scalar rfl,g3,g4,g3.obj⟩
        rw[hev]
        simp[Builtin.copy_,h0,run_underlying hu,c1,aO hi,hfc,hst,goInt]
       ·have hmin:Nat.min n 0=0:=qc9 (qaI _)
        rw[hmin]at hspl hfc ⊢
        simp at hspl hfc
        have hvv:vs'=vs:=by
         unfold Am.splice at hspl
         split at hspl
         ·cases hspl;simp
         ·cases hspl
        subst hvv
        have hset:σ.heap.set ad.block (.cells vs' (C.P.cellsOf elem) true)=σ.heap:=by
         apply qaT
         intro k
         rw[qaD]
         split
         ·rename_i hk;subst hk
          split
          ·rw[hid]
          next hlt=>rw[qae (by omega)]
         ·rfl
        rw[hset]
        refine⟨.value (.int .i64 0),_,w,mu,?_,.inl rfl,.scalar rfl,h.wr,.refl _ _ _,h.wr.obj⟩
        rw[hev]
        simp[Builtin.copy_,h0,run_underlying hu,c1,aO hi,hfc,storeCells,goInt]
    ·cases hf
 ·cases hf
def clearA_ok(h:SR C base la mu σ a.tmps w){t ty:TI}{ats:Array TypeId}{x:TD}{H':Ts}{v:Value}(h0:ats[0]?=some t)
  (hf:fD C t (oval σ.tmps x) σ.heap=some (H',v)):HOk C base mu σ.heap w (do pure (.value (←Builtin.clear_ ats ty #[a.eval x]))) H' v:=by
 have hx:=ao h x
 unfold fD at hf
 split at hf
 next elem hu hxe=>
  rw[hxe]at hx
  have hxv:=bw (a:=.slice none 0 0) rfl hx
  cases hf
  refine⟨.value undef,_,w,mu,?_,.inl rfl,.undef,h.wr,.refl _ _ _,h.wr.obj⟩
  rw[hxv]
  simp[Builtin.clear_,h0,run_underlying hu,undef]
 next elem ad n cx hu hxe=>
  rw[hxe]at hx
  split at hf
  ·cases hf
  next hsz=>
   obtain⟨i,hi⟩:=bS hsz
   split at hf
   ·cases hf
   next hsp=>
    simp only[ne_eq,Classical.not_not]at hsp
    split at hf
    next z vs esz hz hid=>
     split at hf
     ·cases hf
     next he=>
      simp only[ne_eq,Classical.not_not]at he
      subst he
      have hsi:C.P.cellsOf elem=i.size:=by unfold Program.cellsOf;rw[hi];rfl
      have hzi:ic i=some z:=by unfold cZ at hz;rw[hi]at hz;exact hz
      obtain⟨hzero,hzs,hzf,hzt⟩:=iT hzi
      cases hspl:splice vs ad.off (aD z.cells.toList n)with
      |none=>rw[hspl]at hf;cases hf
      |some vs'=>
       rw[hspl]at hf
       cases hf
       obtain⟨q,hq,hr⟩:=h.wr.obj _ _ hid rfl
       have hzc:=jd hzf hzt
       have c4':(aD z.cells.toList n).all aI=true:=oB (dS hzc) λ_=>fg
       have c3:VRs noL mu (aD z.cells.toList n) (aD z.cells.toList n):=VRs.scalars (dS hzc)
       obtain⟨c,e,g1,g2,g3,g4⟩:=h.wr.splice hid hq hspl c3 c4'
       have hst:=bv (C:=C) (at_:=q.o+ad.off) (ys:=aD z.cells.toList n) g1 g2 (cW c3 c4')
       have hzr:(zeroValue elem).run C.P w = .ok z w:=by simp[zeroValue,typeInfo,hi,hzero]
       have hzz:(Builtin.zeroCells z.cells n).toList=aD z.cells.toList n:=by
        apply qaT
        intro j
        unfold Builtin.zeroCells
        rw[qbf,qaA,Array.toList_range]
        by_cases hj:j<n*z.cells.size
        ·rw[qba hj,oq (by simpa using hj)]
         have hp:0<z.cells.size:=by
          rcases qcU z.cells.size with h|h
          ·rw[h]at hj;simp at hj
          ·exact h
         have hm:=qbV j hp
         simp[hm]
        ·rw[qae (by simpa using hj),qae (by rw[da];simpa using hj)];rfl
       have hdv:(∃cap,a.eval x = .slice (some ⟨q.b,q.o+ad.off,none⟩) n cap)∨(∃a',a.eval x = .slice (some a') 0 0/\n=0):=by
        generalize a.eval x=sv at hx
        cases hx with
        |scalar h=>simp[Am.scalar]at h
        | @hslice _ _ _ cap _ p hm hr hl hxx=>
         obtain rfl:p=q:=by rw[hm]at hq;exact qan hq
         exact .inl ⟨cap,rfl⟩
        |hslice0 hxx=>exact .inr ⟨_,rfl,rfl⟩
        |gslice hl hx=>simp[tag]at hsp
        |gslice0 hx=>simp[tag]at hsp
       have zero_case:n=0->vs'=vs:=by
        intro hn
        subst hn
        unfold Am.splice at hspl
        split at hspl
        ·cases hspl;simp[aD]
        ·cases hspl
       have set_same:vs'=vs->σ.heap.set ad.block (.cells vs' (C.P.cellsOf elem) true)=σ.heap:=by
        intro hvv
        subst hvv
        apply qaT
        intro k
        rw[qaD]
        split
        ·rename_i hk;subst hk
         split
         ·rw[hid]
         next hlt=>rw[qae (by omega)]
        ·rfl
       by_cases hn:n=0
       ·rw[set_same (zero_case hn)]
        refine⟨.value undef,_,w,mu,?_,.inl rfl,.undef,h.wr,.refl _ _ _,h.wr.obj⟩
        subst hn
        rcases hdv with⟨cap,hev⟩|⟨a',hev,_⟩<;>(rw[hev];simp[Builtin.clear_,h0,run_underlying hu,undef])
       ·rcases hdv with⟨cap,hev⟩|⟨a',hev,hn0⟩
        ·refine⟨.value undef,_,_,mu,?_,.inl rfl,.undef,g3,g4,g3.obj⟩
         rw[hev]
         obtain⟨m,rfl⟩ : ∃m,n=m+1:=⟨n - 1,by omega⟩
         simp[Builtin.clear_,h0,run_underlying hu,hzr,hzz,hst,undef]
        ·exact absurd hn0 hn
    ·cases hf
 ·cases hf
def qj{n:Nat}{lo hi mx lo' hi' mx':Ti}{r:Nat×Nat×Nat}(hf:dU n lo hi mx=some r)(hlo:ORel la mu lo lo')(hhi:ORel la mu hi hi')(hmx:ORel la mu mx mx') :
  (Instr.sliceBounds false n n lo' hi' mx').run C.P w = .ok r w/\r.1<=r.2.1/\r.2.1<=r.2.2/\r.2.2<=n:=by
 unfold dU at hf
 split at hf
 next lo0 hi0 mx0 e1 e2 e3=>
  simp only at hf
  split at hf
  next hb=>
   obtain⟨b1,b2,b3,b4,b5⟩:=hb
   cases hf
   refine⟨?_,by simp only;omega,by simp only;omega,by simp only;omega⟩
   exact ob (bo e1 hlo) (bo e2 hhi) (bo e3 hmx) b1 b2 b3 b4 b5 w
  ·cases hf
 ·cases hf
def fV{t elem:TI}{n l h m:Nat}{lo hi mx:Ti}{d:Addr}{i:TypeInfo}(hu:C.P.underlying t=some (.array n elem))(hi':C.P.info? elem=some i)
  (hb:(Instr.sliceBounds false n n lo hi mx).run C.P w = .ok (l,h,m) w) :
  (Instr.sliceAt t (.pointer (some d)) lo hi mx).run C.P w = .ok (.slice (some (if m=l then d else d.add (l*C.P.cellsOf elem))) (h - l) (m - l)) w:=by
 simp only[Instr.sliceAt,Instr.sureAddr,Sem.run_bind,run_underlying hu,Result.andThen_ok]
 simp[hb,aO hi']
def mt(hw:WR C base mu σ.heap w){t:TI}{ad:Addr}{y v:Value}{lo hi mx lo' hi' mx':Ti}{H:Ts}(hH:ad.spot=some 1∨H=σ.heap)(hf:cj C t ad lo hi mx H=some v)(h:VR la mu (.pointer (some ad)) y)
  (hlo:ORel la mu lo lo') (hhi:ORel la mu hi hi') (hmx:ORel la mu mx mx'):∃v',(Instr.sliceAt t y lo' hi' mx').run C.P w = .ok v' w/\VR la mu v v':=by
 unfold cj at hf
 split at hf
 next n elem hu=>
  split at hf
  ·cases hf
  next hsz=>
   obtain⟨i,hi0⟩:=bS hsz
   split at hf
   ·cases hf
   next l hh m hb=>
    obtain⟨r1,r2,r3,r4⟩:=qj (C:=C) (w:=w) hb hlo hhi hmx
    simp only at r2 r3 r4
    split at hf
    next hsp=>
     cases hf
     cases h with
     |scalar h=>simp[Am.scalar]at h
     |lptr h=>simp at hsp
     |hptr h=>simp at hsp
     |gptr=>
      rename_i g off
      refine⟨_,fV hu hi0 r1,?_⟩
      split
      next hm=>
       subst hm
       have:hh - m=0:=by omega
       rw[this,qbv]
       exact .gslice0 (by omega)
      ·rw[bk,qbr]
       exact .gslice (by omega) (.inr rfl)
    next hsp1=>
     split at hf
     next hsp=>
      split at hf
      next vs e rw0 hid=>
       split at hf
       next hc=>
        cases hf
        obtain⟨rfl,hroom⟩:=hc
        have hH':H=σ.heap:=hH.resolve_left hsp1
        subst hH'
        obtain⟨q,hq,hr⟩:=hw.obj _ _ hid rfl
        obtain⟨o1,o2,_⟩:=hr
        cases h with
        |scalar h=>simp[Am.scalar]at h
        |lptr h=>simp at hsp
        | @hptr id off p h=>
         obtain rfl:p=q:=by rw[h]at hq;exact qan hq
         refine⟨_,fV hu hi0 r1,?_⟩
         split
         next hm=>
          subst hm
          have:hh - m=0:=by omega
          rw[this,qbv]
          exact .hslice0 (by omega)
         ·rw[bk,qbr,←o1]
          refine .hslice h ?_ (by omega) (.inr rfl)
          have:(l+(m - l))*p.esz<=n*p.esz:=qbe _ (by omega)
          rw[qbk]at this
          rw[←o1]at hroom
          simp only at hroom
          show off+l*p.esz+_<=p.room
          omega
        |gptr=>simp at hsp
       ·cases hf
      ·cases hf
     ·cases hf
 ·cases hf
def kR{α β:Type}{P:TC}{x:Sem α}{f:α->Sem β}{b:β}(h:pev P (x >>= f)=some b):∃a,pev P x=some a/\pev P (f a)=some b:=by
 induction x with
 |pure a=>exact⟨a,rfl,h⟩
 |program k ih=>exact ih P h
 |_=>cases h
def fO{P:TC}{kt:TI}{k:Value}:∀(es fs:Th) (i:Nat) (r:Option (Nat×Value)),es.map (·.key)=fs.map (·.key)->pev P (Instr.findAsking kt k es i)=some r->
  (∀w,(Instr.findAsking kt k fs i).run P w = .ok (r.map λp=>(p.1,(fs.getD (p.1 - i) default).val)) w)/\∀p,r=some p->i<=p.1/\p.1<i+es.length
 | [],fs,i,r,hk,h=>by
  have:fs=[]:=by cases fs<;>simp_all
  subst this
  simp[Instr.findAsking,pev,Pure.pure]at h
  subst h
  exact⟨λw=>by simp[Instr.findAsking],λp hp=>by cases hp⟩
 |e :: es,fs,i,r,hk,h=>by
  cases fs with
  |nil=>simp at hk
  |cons f fs=>
   simp only[qat,qaY]at hk
   unfold Instr.findAsking at h
   obtain⟨b,h1,h2⟩:=kR h
   cases b with
   |true=>
    simp[pev,Pure.pure]at h2
    subst h2
    refine⟨λw=>?_,λp hp=>by cases hp;simp⟩
    have:=eZ h1 w
    rw[hk.1]at this
    simp[Instr.findAsking,this]
   |false=>
    simp only[qaj,if_false]at h2
    obtain⟨g1,g2⟩:=fO es fs (i+1) r hk.2 h2
    refine⟨λw=>?_,λp hp=>by have:=g2 p hp;simp;omega⟩
    have:=eZ h1 w
    rw[hk.1]at this
    have e0:(Instr.findAsking kt k (f :: fs) i).run P w=(Instr.findAsking kt k fs (i+1)).run P w:=by
     simp[Instr.findAsking,this]
    rw[e0,g1 w]
    cases r with
    |none=>rfl
    |some p=>
     have:=(g2 p rfl).1
     simp only[qau]
     rw[show p.1 - i=(p.1 - (i+1))+1 by omega]
     rfl
def fP{kind:TypeDesc}{k:Value}:∀(es fs:Th) (i:Nat),es.map (·.key)=fs.map (·.key)->
  Instr.findNow kind k fs i=(Instr.findNow kind k es i).map λr=>r.map λp=>(p.1,(fs.getD (p.1 - i) default).val)
 | [],fs,i,hk=>by
  have:fs=[]:=by cases fs<;>simp_all
  subst this;rfl
 |e :: es,fs,i,hk=>by
  cases fs with
  |nil=>simp at hk
  |cons f fs=>
   simp only[qat,qaY]at hk
   unfold Instr.findNow
   rw[hk.1]
   cases hs:Instr.sameNow kind k f.key with
   |none=>rfl
   |some b=>
    cases b with
    |true=>simp
    |false=>
     simp only
     rw[fP es fs (i+1) hk.2]
     have hge:∀(l:Th) (j:Nat) (p:Nat×Value),Instr.findNow kind k l j=some (some p)->j<=p.1:=by
      intro l
      induction l with
      |nil=>intro j p h;simp[Instr.findNow]at h
      |cons x l ih=>
       intro j p h
       unfold Instr.findNow at h
       split at h
       ·cases h;exact qam _
       ·have:=ih (j+1) p h;omega
       ·cases h
     cases hr:Instr.findNow kind k es (i+1)with
     |none=>rfl
     |some r=>
      cases r with
      |none=>rfl
      |some p=>
       have:=hge _ _ _ hr
       simp only[qau]
       rw[show p.1 - i=(p.1 - (i+1))+1 by omega]
       rfl
def nn{kind:TypeDesc}{k:Value}:∀(es:Th) (i:Nat) (p:Nat×Value),Instr.findNow kind k es i=some (some p)->i<=p.1/\p.1<i+es.length
 | [],i,p,h=>by simp[Instr.findNow]at h
 |e :: es,i,p,h=>by
  unfold Instr.findNow at h
  split at h
  ·cases h;simp
  ·have:=nn es (i+1) p h;simp;omega
  ·cases h
def ew{kt:TI}{k:Value}{es:Th}{fs:Th}{r:Tp}(hk:es.map (·.key)=fs.map (·.key))(h:iq C.P kt k es=some r) :
  (∀w,(Instr.findKey kt k fs).run C.P w = .ok (r.map λi=>(i,(fs.getD i default).val)) w)/\∀i,r=some i->i<es.length:=by
 unfold iq at h
 have hk':(es.map aP).map (·.key)=fs.map (·.key):=by rw[qdg,←hk];rfl
 cases hp:pev C.P (Instr.findKey kt k (es.map aP))with
 |none=>rw[hp]at h;cases h
 |some r0=>
  rw[hp]at h
  cases h
  unfold Instr.findKey at hp
  obtain⟨d,h1,h2⟩:=kR hp
  cases hn:Instr.findNow d k (es.map aP) 0 with
  |none=>
   rw[hn]at h2
   simp only at h2
   obtain⟨g1,g2⟩:=fO (es.map aP) fs 0 r0 hk' h2
   refine⟨λw=>?_,λi hi=>?_⟩
   ·have hn':=fP (kind:=d) (k:=k) (es.map aP) fs 0 hk'
    rw[hn]at hn'
    simp only[Instr.findKey,Sem.run_bind,eZ h1 w,Result.andThen_ok,hn',qdk,g1 w]
    cases r0<;>simp
   ·cases r0 with
    |none=>cases hi
    |some p=>
     cases hi
     have:=(g2 p rfl).2
     simpa using this
  |some r1=>
   rw[hn]at h2
   simp[pev,Pure.pure]at h2
   subst h2
   refine⟨λw=>?_,λi hi=>?_⟩
   ·have hn':=fP (kind:=d) (k:=k) (es.map aP) fs 0 hk'
    rw[hn]at hn'
    simp only[Instr.findKey,Sem.run_bind,eZ h1 w,Result.andThen_ok,hn',qau,Sem.run_pure]
    cases r1<;>simp
   ·cases r1 with
    |none=>cases hi
    |some p=>
     cases hi
     have:=(nn _ _ _ hn).2
     simpa using this
def je(hw:WR C base mu σ.heap w){id:Nat}{es:Th}{c:Nat}(h:hmap σ.heap id=some (es,c)){p:Pl}(hp:mu id=some p) :
  ∃es',w.heap[p.b]?=some (.map es' c)/\es'.size=es.length/\∀(i:Nat) e,es[i]?=some e->∃e',es'[i]?=some e'/\dZ mu e e':=by
 unfold hmap at h
 split at h
 next es0 c0 hid=>
  cases h
  obtain⟨q,hq,hr⟩:=hw.obj id _ hid rfl
  obtain rfl:p=q:=by rw[hp]at hq;exact qan hq
  exact hr
 ·cases h
def tN{id:Nat}{es:Th}{c:Nat}(h:hmap σ.heap id=some (es,c)):σ.heap[id]?=some (.map es c):=by
 unfold hmap at h
 split at h
 next es0 c0 hid=>cases h;exact hid
 ·cases h
def kM{es:Th}{es':Array MapEntry}(hs:es'.size=es.length)(hr:∀(i:Nat) e,es[i]?=some e->∃e',es'[i]?=some e'/\dZ mu e e'):es.map (·.key)=es'.toList.map (·.key):=by
 apply qaT
 intro i
 rw[qaA,qaA]
 cases he:es[i]? with
 |none=>
  have:es'.toList[i]?=none:=by
   rw[qci]at he ⊢
   simp only[qcn];omega
  rw[this,qdk]
 |some e=>
  obtain⟨e',h1,h2⟩:=hr i e he
  rw[show es'.toList[i]?=some e' by simpa using h1]
  simp[h2.1]
def bJ{kt:TI}{k:Value}(h:eo C.P kt k=true)(b:Bool)(w:World):(Instr.checkKey b 10000 kt k).run C.P w = .ok () w:=by
 simp only[eo,qaa]at h
 cases b with
 |true=>
  obtain⟨u,hu⟩:=qa3.1 h.1.1.2
  exact eZ hu w
 |false=>
  obtain⟨u,hu⟩:=qa3.1 h.1.2
  exact eZ hu w
def ki{kt:TI}{k:Value}(h:eo C.P kt k=true):∃d,C.P.underlying kt=some d:=by
 simp only[eo,qaa]at h
 obtain⟨u,hu⟩:=qa3.1 h.1.2
 have hu':pev C.P (Instr.checkKey false (9999+1) kt k)=some u:=hu
 unfold Instr.checkKey at hu'
 obtain⟨d,h1,_⟩:=kR hu'
 cases hd:C.P.underlying kt with
 |some d=>exact⟨d,rfl⟩
 |none=>
  unfold underlying at h1
  obtain⟨p,h2,h3⟩:=kR h1
  have:p=C.P:=by simp[pev,program]at h2;exact h2.symm
  subst this
  rw[hd]at h3
  cases h3
def cN{kt:TI}{k:Value}(h:eo C.P kt k=true):en k=true:=by
 simp only[eo,qaa]at h
 exact h.1.1.1
def aH{r:Nat}{es:Array MapEntry}{c:Nat}(h:w.heap[r]?=some (.map es c)):(getObj r).run C.P w = .ok (.map es c) w:=by
 simp[getObj,Sem.run,h]
def bC{r:Nat}{es:Array MapEntry}{c:Nat}{o:Obj}(h:w.heap[r]?=some (.map es c)):(setObj r o).run C.P w = .ok () { w with heap:=w.heap.setIfInBounds r o }:=by
 simp[setObj,Sem.run,h]
def VR.map_inv{id:Nat}{c:Value}(h:VR la mu (.map (some id)) c):∃p,mu id=some p/\c = .map (some p.b):=by
 cases h with
 |scalar h=>simp[Am.scalar]at h
 |map h=>exact⟨_,h,rfl⟩
def qb{t:TI}{z:Value}(h:cZ C.P t=some z)(w:World):(zeroValue t).run C.P w = .ok z w:=by
 obtain⟨i,h1,h2,_⟩:=ie h
 simp[zeroValue,typeInfo,h1,h2]
def nD(hw:WR C base mu σ.heap w){t:TI}{m m' k k' v:Value}{ok:Bool}{H:Ts}(hH:m = .map none∨H=σ.heap)(hm:VR la mu m m')(hk:VR la mu k k')(hf:bW C t m k ok H=some v) :
  ∃v',(Instr.lookup t m' k' ok).run C.P w = .ok v' w/\VR la mu v v':=by
 unfold bW at hf
 split at hf
 next kt et hu=>
  split at hf
  ·cases hf
  next hko=>
   simp only[qaS,qbL]at hko
   obtain rfl:=gc (cN hko) hk
   split at hf
   ·cases hf
   next z hz=>
    have hzr:=qb hz w
    have hzf:=(iU hz).2.1
    obtain⟨dk,hdk⟩:=ki hko
    split at hf
    ·obtain rfl:=bw (a:=.map none) rfl hm
     cases hf
     cases ok with
     |true=>
      refine⟨.tuple #[z,.bool false],?_,VRs.tuple (.cons (.of_flat hzf) (.cons (.scalar rfl) .nil))⟩
      simp[Instr.lookup,run_underlying hu,bJ hko,Instr.findKey,run_underlying hdk,Instr.findNow,hzr]
     |false=>
      refine⟨z,?_,.of_flat hzf⟩
      simp[Instr.lookup,run_underlying hu,bJ hko,Instr.findKey,run_underlying hdk,Instr.findNow,hzr]
    next id=>
     have hH':H=σ.heap:=hH.resolve_left (by simp)
     subst hH'
     obtain⟨p,hp,rfl⟩:=hm.map_inv
     split at hf
     ·cases hf
     next es c hmap=>
      obtain⟨es',h1,h2,h3⟩:=je hw hmap hp
      have hkeys:=kM h2 h3
      split at hf
      ·cases hf
      next hfind=>
       obtain⟨g1,g2⟩:=ew (C:=C) hkeys hfind
       cases hf
       cases ok with
       |true=>
        refine⟨.tuple #[z,.bool false],?_,VRs.tuple (.cons (.of_flat hzf) (.cons (.scalar rfl) .nil))⟩
        simp[Instr.lookup,run_underlying hu,aH h1,bJ hko,g1 w,hzr]
       |false=>
        refine⟨z,?_,.of_flat hzf⟩
        simp[Instr.lookup,run_underlying hu,aH h1,bJ hko,g1 w,hzr]
      next i hfind=>
       obtain⟨g1,g2⟩:=ew (C:=C) hkeys hfind
       have hlt:=g2 i rfl
       obtain⟨e',h4,h5⟩:=h3 i es[i] (by simp[hlt])
       have hgd:(es'.toList.getD i default).val=e'.val:=by
        rw[List.getD,show es'.toList[i]?=some e' by simpa using h4];rfl
       have hev:eU es i=some es[i].val:=by simp[eU,hlt]
       rw[hev]at hf
       cases hf
       cases ok with
       |true=>
        refine⟨.tuple #[e'.val,.bool true],?_,VRs.tuple (.cons h5.2.2.2.up (.cons (.scalar rfl) .nil))⟩
        simp[Instr.lookup,run_underlying hu,aH h1,bJ hko,g1 w,-List.getD_eq_getElem?_getD,hgd]
       |false=>
        refine⟨e'.val,?_,h5.2.2.2.up⟩
        simp[Instr.lookup,run_underlying hu,aH h1,bJ hko,g1 w,-List.getD_eq_getElem?_getD,hgd]
    ·cases hf
 ·cases hf
def WR.setMap(hw:WR C base mu σ.heap w){id:Nat}{es es1:Th}{c c1:Nat}{p:Pl}{es1':Array MapEntry}(h:hmap σ.heap id=some (es,c))(hp:mu id=some p)
  (hs:es1'.size=es1.length) (hr:∀(i:Nat) e,es1[i]?=some e->∃e',es1'[i]?=some e'/\dZ mu e e') :
  WR C base mu (σ.heap.set id (.map es1 c1)) { w with heap:=w.heap.setIfInBounds p.b (.map es1' c1) }/\Evo σ.heap mu w (σ.heap.set id (.map es1 c1)) mu { w with heap:=w.heap.setIfInBounds p.b (.map es1' c1) }:=
 hw.set (w':={ w with heap:=w.heap.setIfInBounds p.b (.map es1' c1) }) (x:=.map es1' c1) (tN h) rfl hp rfl rfl rfl rfl (.map es1 c1) (λ_=>rfl) ⟨es1',rfl,hs,hr⟩
def jL{es:Th}{es':Array MapEntry}{e e':MapEntry}(hs:es'.size=es.length)(hr:∀(i:Nat) e,es[i]?=some e->∃e',es'[i]?=some e'/\dZ mu e e')(he:dZ mu e e') :
  (es'.push e').size=(es++[e]).length/\∀(i:Nat) x,(es++[e])[i]?=some x->∃x',(es'.push e')[i]?=some x'/\dZ mu x x':=by
 refine⟨by simp[hs],λi x hx=>?_⟩
 rcases av hx with⟨hi,hx⟩|⟨rfl,rfl⟩
 ·obtain⟨x',h1,h2⟩:=hr i x hx
  exact⟨x',by rw[qbQ,qdr (by omega)];exact h1,h2⟩
 ·exact⟨e',by rw[qbQ,qdq hs.symm],he⟩
def eD{es:Th}{es':Array MapEntry}{j:Nat}{f f':MapEntry->MapEntry}(hs:es'.size=es.length)(hr:∀(i:Nat) e,es[i]?=some e->∃e',es'[i]?=some e'/\dZ mu e e')
  (hf:∀e e',es[j]?=some e->dZ mu e e'->dZ mu (f e) (f' e')) :
  (es'.modify j f').size=(es.modify j f).length/\∀(i:Nat) x,(es.modify j f)[i]?=some x->∃x',(es'.modify j f')[i]?=some x'/\dZ mu x x':=by
 refine⟨by simp[hs],λi x hx=>?_⟩
 rw[List.getElem?_modify]at hx
 cases he:es[i]? with
 |none=>rw[he]at hx;cases hx
 |some e=>
  rw[he]at hx
  obtain⟨e',h1,h2⟩:=hr i e he
  simp only[Option.map_eq_map,qau,qar]at hx
  refine⟨if j=i then f' e' else e',by rw[Array.getElem?_modify];split<;>simp_all,?_⟩
  subst hx
  split
  next hji=>subst hji;exact hf e e' he h2
  ·exact h2
end
end
section
variable [Val] [Glo]
section
variable {C:Cfg} {base:Nat} {la:LMap} {mu:HMap} {σ:St} {a:Act} {w:World}
def pe{s:Sem Unit}{w':World}{H':Ts}(h:s.run C.P w = .ok () w')(hw:WR C base mu H' w')(he:Evo σ.heap mu w H' mu w'):HOk C base mu σ.heap w (do s;pure .skip) H' undef:=
 ⟨.skip,undef,w',mu,by simp[h],.inr ⟨rfl,rfl⟩,.undef,hw,he,hw.obj⟩
def iC(h:SR C base la mu σ a.tmps w){t:TI}{m k x:TD}{H':Ts}{v:Value}(hf:bL C t (oval σ.tmps m) (oval σ.tmps k) (oval σ.tmps x) σ.heap=some (H',v)) :
  HOk C base mu σ.heap w (do Instr.mapUpdate t (a.eval m) (a.eval k) (a.eval x);pure .skip) H' v:=by
 have hm:=ao h m
 have hk:=ao h k
 have hx:=ao h x
 unfold bL at hf
 split at hf
 next kt et id hu hme=>
  rw[hme]at hm
  obtain⟨p,hp,hmv⟩:=hm.map_inv
  split at hf
  ·cases hf
  next hc=>
   simp only[qaS,qbL,qaa]at hc
   obtain⟨⟨hko,hnl⟩,_⟩:=hc
   have hkv:=gc (cN hko) hk
   have hxn:=df hnl hx
   split at hf
   ·cases hf
   next es c hmap=>
    obtain⟨es',h1,h2,h3⟩:=je h.wr hmap hp
    have hkeys:=kM h2 h3
    split at hf
    ·cases hf
    next hfind=>
     obtain⟨g1,g2⟩:=ew (C:=C) hkeys hfind
     cases hf
     obtain⟨n1,n2⟩:=jL (e:={ key:=oval σ.tmps k,val:=oval σ.tmps x,born:=c }) (e':={ key:=oval σ.tmps k,val:=a.eval x,born:=c }) h2 h3 ⟨rfl,cN hko,rfl,hxn⟩
     obtain⟨k1,k2⟩:=h.wr.setMap (c1:=c+1) hmap hp n1 n2
     refine pe ?_ k1 k2
     rw[hmv,hkv]
     simp[Instr.mapUpdate,run_underlying hu,aH h1,bJ hko,g1 w,bC h1]
    next i hfind=>
     obtain⟨g1,g2⟩:=ew (C:=C) hkeys hfind
     have hlt:=g2 i rfl
     split at hf
     next hsb=>
      cases hf
      obtain⟨e',h4,h5⟩:=h3 i es[i] (by simp[hlt])
      obtain⟨n1,n2⟩:=eD (j:=i) (f:=λe=>{ e with key:=oval σ.tmps k,val:=oval σ.tmps x }) (f':=λe=>{ e with key:=oval σ.tmps k,val:=a.eval x }) h2 h3 (λe e' _ he=>⟨rfl,cN hko,he.2.2.1,hxn⟩)
      obtain⟨k1,k2⟩:=h.wr.setMap (c1:=c) hmap hp n1 n2
      refine pe ?_ k1 k2
      have hsb':Instr.sameBits 10000 e'.key (oval σ.tmps k)=true:=by
       rw[h5.1];simpa[hlt]using hsb
      rw[hmv,hkv]
      simp[Instr.mapUpdate,run_underlying hu,aH h1,bJ hko,g1 w,h4,Instr.keyThatStays,hsb',bC h1]
     ·cases hf
 ·cases hf
def rf(h:SR C base la mu σ a.tmps w){t:TI}{m k:TD}{H':Ts}{v:Value}(hf:bK C t (oval σ.tmps m) (oval σ.tmps k) σ.heap=some (H',v)) :
  HOk C base mu σ.heap w (do pure (.value (←Instr.mapEntry t (a.eval m) (a.eval k)))) H' v:=by
 have hm:=ao h m
 have hk:=ao h k
 unfold bK at hf
 split at hf
 next kt et id hu hme=>
  rw[hme]at hm
  obtain⟨p,hp,hmv⟩:=hm.map_inv
  split at hf
  ·cases hf
  next hko=>
   simp only[qaS,qbL]at hko
   have hkv:=gc (cN hko) hk
   split at hf
   ·cases hf
   next es c hmap=>
    obtain⟨es',h1,h2,h3⟩:=je h.wr hmap hp
    have hkeys:=kM h2 h3
    split at hf
    ·cases hf
    next hfind=>
     obtain⟨g1,g2⟩:=ew (C:=C) hkeys hfind
     split at hf
     ·cases hf
     next z hz=>
      have hzr:=qb hz w
      have hzf:=(iU hz).2.1
      cases hf
      obtain⟨n1,n2⟩:=jL (mu:=mu) (e:={ key:=oval σ.tmps k,val:=z,born:=c }) (e':={ key:=oval σ.tmps k,val:=z,born:=c }) h2 h3 ⟨rfl,cN hko,rfl,.of_flat hzf⟩
      obtain⟨k1,k2⟩:=h.wr.setMap (c1:=c+1) hmap hp n1 n2
      refine⟨.value (.tuple #[z,goInt c]),_,_,mu,?_,.inl rfl,VRs.tuple (.cons (.of_flat hzf) (.cons (.scalar rfl) .nil)),k1,k2,k1.obj⟩
      rw[hmv,hkv]
      simp[Instr.mapEntry,run_underlying hu,aH h1,bJ hko,g1 w,hzr,bC h1]
    next i hfind=>
     obtain⟨g1,g2⟩:=ew (C:=C) hkeys hfind
     have hlt:=g2 i rfl
     split at hf
     ·cases hf
     next e hei=>
      split at hf
      next hsb=>
       cases hf
       obtain⟨e',h4,h5⟩:=h3 i e hei
       have hgd:(es'.toList.getD i default).val=e'.val:=by
        rw[List.getD,show es'.toList[i]?=some e' by simpa using h4];rfl
       obtain⟨n1,n2⟩:=eD (j:=i) (f:=λe=>{ e with key:=oval σ.tmps k }) (f':=λe=>{ e with key:=oval σ.tmps k }) h2 h3 (λe e' _ he=>⟨rfl,cN hko,he.2.2.1,he.2.2.2⟩)
       obtain⟨k1,k2⟩:=h.wr.setMap (c1:=c) hmap hp n1 n2
       have hsb':Instr.sameBits 10000 e'.key (oval σ.tmps k)=true:=by rw[h5.1];exact hsb
       refine⟨.value (.tuple #[e'.val,goInt e'.born]),_,_,mu,?_,.inl rfl,VRs.tuple (.cons h5.2.2.2 (.cons (by rw[h5.2.2.1];exact .scalar rfl) .nil)),k1,k2,k1.obj⟩
       rw[hmv,hkv]
       simp[Instr.mapEntry,run_underlying hu,aH h1,bJ hko,g1 w,h4,Instr.keyThatStays,hsb',bC h1,-List.getD_eq_getElem?_getD,hgd]
      ·cases hf
 ·cases hf
def qE{es:Th}{es':Array MapEntry}{b:Int}(hs:es'.size=es.length)(hr:∀(i:Nat) e,es[i]?=some e->∃e',es'[i]?=some e'/\dZ mu e e') :
  es'.findIdx? (λe=>(e.born:Int)==b)=es.findIdx? (λe=>(e.born:Int)==b):=by
 have h0:es'.findIdx? (λe=>(e.born:Int)==b)=es'.toList.findIdx? (λe=>(e.born:Int)==b):=by
  obtain⟨l,rfl⟩ : ∃l:List MapEntry,es'=l.toArray:=⟨es'.toList,by simp⟩
  rw[List.findIdx?_toArray]
 rw[h0]
 have h1:es'.toList.map (·.born)=es.map (·.born):=by
  apply qaT
  intro i
  rw[qaA,qaA]
  cases he:es[i]? with
  |none=>
   have:es'.toList[i]?=none:=by
    rw[qci]at he ⊢
    simp only[qcn];omega
   rw[this,qdk]
  |some e=>
   obtain⟨e',h1,h2⟩:=hr i e he
   rw[show es'.toList[i]?=some e' by simpa using h1]
   simp[h2.2.2.1]
 have h2:∀(l l':Th),l.map (·.born)=l'.map (·.born)->l.findIdx? (λe=>(e.born:Int)==b)=l'.findIdx? (λe=>(e.born:Int)==b):=by
  intro l
  induction l with
  |nil=>intro l' h;cases l'<;>simp_all
  |cons x l ih=>
   intro l' h
   cases l' with
   |nil=>simp at h
   |cons y l'=>
    simp only[qat,qaY]at h
    rw[List.findIdx?_cons,List.findIdx?_cons,h.1,ih l' h.2]
 exact h2 _ _ h1
def mP(h:SR C base la mu σ a.tmps w){t:TI}{m s x:TD}{H':Ts}{v:Value}(hf:bV (oval σ.tmps m) (oval σ.tmps s) (oval σ.tmps x) σ.heap=some (H',v)) :
  HOk C base mu σ.heap w (do Instr.entryStore t (a.eval m) (a.eval s) (a.eval x);pure .skip) H' v:=by
 have hm:=ao h m
 have hs:=ao h s
 have hx:=ao h x
 unfold bV at hf
 split at hf
 next id b hme hsb=>
  rw[hme]at hm
  obtain⟨p,hp,hmv⟩:=hm.map_inv
  obtain⟨kk,hsv⟩:=ge hsb hs
  split at hf
  ·cases hf
  next hc=>
   simp only[qaX,not_or,qaS,qbL]at hc
   have hxn:=df hc.1 hx
   split at hf
   ·cases hf
   next es c hmap=>
    obtain⟨es',h1,h2,h3⟩:=je h.wr hmap hp
    split at hf
    next i hfi=>
     cases hf
     obtain⟨n1,n2⟩:=eD (j:=i) (f:=λe=>{ e with val:=oval σ.tmps x }) (f':=λe=>{ e with val:=a.eval x }) h2 h3 (λe e' _ he=>⟨he.1,he.2.1,he.2.2.1,hxn⟩)
     obtain⟨k1,k2⟩:=h.wr.setMap (c1:=c) hmap hp n1 n2
     refine pe ?_ k1 k2
     rw[hmv,hsv]
     have hfi':=qE (b:=b) h2 h3
     rw[hfi]at hfi'
     simp[Instr.entryStore,aH h1,asInt,asIntOf,hfi',bC h1]
    ·cases hf
 ·cases hf
def vf(h:SR C base la mu σ a.tmps w){t ty:TI}{ats:Array TypeId}{m k:TD}{H':Ts}{v:Value}(h0:ats[0]?=some t)
  (hf:db C t (oval σ.tmps m) (oval σ.tmps k) σ.heap=some (H',v)):HOk C base mu σ.heap w (do pure (.value (←Builtin.delete_ ats ty #[a.eval m,a.eval k]))) H' v:=by
 have hm:=ao h m
 have hk:=ao h k
 unfold db at hf
 split at hf
 next kt et hu=>
  split at hf
  ·cases hf
  next hko=>
   simp only[qaS,qbL]at hko
   have hkv:=gc (cN hko) hk
   split at hf
   next hme=>
    rw[hme]at hm
    have hmv:=bw (a:=.map none) rfl hm
    cases hf
    refine⟨.value undef,_,w,mu,?_,.inl rfl,.undef,h.wr,.refl _ _ _,h.wr.obj⟩
    rw[hmv,hkv]
    simp[Builtin.delete_,h0,run_underlying hu,bJ hko,undef]
   next id hme=>
    rw[hme]at hm
    obtain⟨p,hp,hmv⟩:=hm.map_inv
    split at hf
    ·cases hf
    next es c hmap=>
     obtain⟨es',h1,h2,h3⟩:=je h.wr hmap hp
     have hkeys:=kM h2 h3
     split at hf
     ·cases hf
     next hfind=>
      obtain⟨g1,g2⟩:=ew (C:=C) hkeys hfind
      cases hf
      obtain⟨k1,k2⟩:=h.wr.setMap (c1:=c) hmap hp h2 h3
      have hset:σ.heap.set id (.map es c)=σ.heap:=by
       apply qaT
       intro j
       rw[qaD]
       split
       ·rename_i hj;subst hj
        have:=tN hmap
        split
        ·rw[this]
        next hlt=>rw[qae (by omega)]
       ·rfl
      rw[hset]at k1 k2
      refine⟨.value undef,_,_,mu,?_,.inl rfl,.undef,k1,k2,k1.obj⟩
      rw[hmv,hkv]
      simp[Builtin.delete_,h0,run_underlying hu,aH h1,bJ hko,g1 w,bC h1,undef]
     next i hfind=>
      obtain⟨g1,g2⟩:=ew (C:=C) hkeys hfind
      have hlt:=g2 i rfl
      cases hf
      have hlt':i<es'.size:=by omega
      have herase:es'.eraseIdxIfInBounds i=es'.eraseIdx i hlt':=by simp[Array.eraseIdxIfInBounds,hlt']
      obtain⟨k1,k2⟩:=h.wr.setMap (es1:=es.eraseIdx i) (es1':=es'.eraseIdxIfInBounds i) (c1:=c) hmap hp (by rw[herase,Array.size_eraseIdx,List.length_eraseIdx,qdq hlt,h2]) (by
       intro j e hj
       rw[List.getElem?_eraseIdx]at hj
       rw[herase,Array.getElem?_eraseIdx]
       split at hj
       next hji=>
        obtain⟨e',q1,q2⟩:=h3 j e hj
        exact⟨e',by rw[qdq hji];exact q1,q2⟩
       next hji=>
        obtain⟨e',q1,q2⟩:=h3 (j+1) e hj
        exact⟨e',by rw[qdr hji];exact q1,q2⟩)
      refine⟨.value undef,_,_,mu,?_,.inl rfl,.undef,k1,k2,k1.obj⟩
      rw[hmv,hkv]
      simp[Builtin.delete_,h0,run_underlying hu,aH h1,bJ hko,g1 w,bC h1,undef]
   ·cases hf
 ·cases hf
def jg(h:SR C base la mu σ a.tmps w)(hb:base<=w.heap.size){t:TI}{r:Tg}
  (hr:lN C t (r.map (oval σ.tmps))=true) :
  HOk C base mu σ.heap w (do pure (.value (←Instr.makeMap t (r.map a.eval)))) (σ.heap++[.map [] 0]) (.map (some σ.heap.length)):=by
 have hn:=h.wr.new hb (w':=w.alloc (.map #[] 0)) (x:=.map #[] 0) rfl rfl rfl rfl (.map [] 0) ⟨w.heap.size,0,0,0⟩ rfl ⟨#[],rfl,rfl,λi e h=>by simp at h⟩ (λ_=>rfl)
 refine⟨.value (.map (some w.heap.size)),_,_,_,?_,.inl rfl,.map (bh _ _ _),hn.1,hn.2.1,hn.2.2⟩
 cases r with
 |none=>simp[Instr.makeMap]
 |some x=>
  simp only[lN,qau,qaa]at hr
  obtain⟨n,hn'⟩:=qa3.1 hr.1
  obtain⟨k,hk⟩:=ge hn' (ao h x)
  have hu:∃kt et,C.P.underlying t=some (.map kt et):=by
   have h2:=hr.2
   split at h2
   next kt et hu=>exact⟨kt,et,hu⟩
   ·cases h2
  obtain⟨kt,et,hu⟩:=hu
  simp[Instr.makeMap,run_underlying hu,hk,asInt,asIntOf]
end
end
section
variable [Val] [Glo]
section
variable {C:Cfg} {base:Nat} {la:LMap} {mu:HMap} {σ:St} {a:Act} {w:World}
def nJ{v c:Value}{b:Bool}(hn:aM v=some b)(h:VR la mu v c):aM c=some b/\cJ c=cJ v:=by
 cases h with
 |poison c=>simp[aM]at hn
 |sym _=>simp[aM]at hn
 |scalar h=>exact⟨hn,rfl⟩
 |agg _ _=>simp[aM]at hn
 |tuple _ _=>simp[aM]at hn
 |func _ _ _ _ _=>simp[aM]at hn ⊢;exact⟨hn,rfl⟩
 |yield h=>simp[aM]at hn ⊢;exact⟨hn,rfl⟩
 |lptr h=>simp[aM]at hn ⊢;exact⟨hn,rfl⟩
 |hptr h=>simp[aM]at hn ⊢;exact⟨hn,rfl⟩
 |gptr=>simp[aM]at hn ⊢;exact⟨hn,rfl⟩
 |hslice h hr hl hx=>simp[aM]at hn ⊢;exact⟨hn,rfl⟩
 |hslice0 hx=>simp[aM]at hn ⊢;exact⟨hn,rfl⟩
 |gslice hl hx=>simp[aM]at hn ⊢;exact⟨hn,rfl⟩
 |gslice0 hx=>simp[aM]at hn ⊢;exact⟨hn,rfl⟩
 |map h=>simp[aM]at hn ⊢;exact⟨hn,rfl⟩
def ed{x y:Value}{b:Bool}(h:jh x y=some b):∃bx by_,aM x=some bx/\aM y=some by_/\((bx=true/\b=by_)∨(by_=true/\b=bx)):=by
 unfold jh at h
 split at h
 next b' h1 h2=>cases h;exact⟨true,b,h1,h2,.inl ⟨rfl,rfl⟩⟩
 next b' _ h1 h2=>cases h;exact⟨b,true,h1,h2,.inr ⟨rfl,rfl⟩⟩
 ·cases h
def iE{v:Value}{b:Bool}(h:aM v=some b)(hk:cJ v=1):(b=true/\v = .slice none 0 0)∨(b=false/\∃ad n c,v = .slice (some ad) n c):=by
 unfold aM at h
 split at h<;>first|(simp[cJ]at hk;done)|(cases h;exact .inl ⟨rfl,rfl⟩)|(cases h;exact .inr ⟨rfl,_,_,_,rfl⟩)|cases h
def lW{v:Value}{b:Bool}(h:aM v=some b)(hk:cJ v=2):(b=true/\v = .map none)∨(b=false/\∃r,v = .map (some r)):=by
 unfold aM at h
 split at h<;>first|(simp[cJ]at hk;done)|(cases h;exact .inl ⟨rfl,rfl⟩)|(cases h;exact .inr ⟨rfl,_,rfl⟩)|cases h
def jS{v:Value}{b:Bool}(h:aM v=some b)(hk:cJ v=3):(b=true/\v = .nilFunc)∨(b=false/\∃f x y,v = .func f x y):=by
 unfold aM at h
 split at h<;>first|(simp[cJ]at hk;done)|(cases h;exact .inl ⟨rfl,rfl⟩)|(cases h;exact .inr ⟨rfl,_,_,_,rfl⟩)|cases h
def lX{v:Value}{b:Bool}(h:aM v=some b)(hk:cJ v=4):(b=true/\v = .pointer none)∨(b=false/\∃r,v = .pointer (some r)):=by
 unfold aM at h
 split at h<;>first|(simp[cJ]at hk;done)|(cases h;exact .inl ⟨rfl,rfl⟩)|(cases h;exact .inr ⟨rfl,_,rfl⟩)|cases h
def rD{t:TI}{x y:Value}{b:Bool}(hn:jh x y=some b)(ho:pA C.P t x y=true):(Op.equal t x y).run C.P w = .ok b w:=by
 obtain⟨bx,by_,h1,h2,h3⟩:=ed hn
 unfold pA at ho
 split at ho
 next d hd=>
  simp only[qaa,beq_iff_eq]at ho
  obtain⟨ho1,ho2⟩:=ho
  have hu:=run_underlying hd w
  have e0:Op.equal t x y=Op.equalIn (9999+1) t x y:=rfl
  rw[e0]
  unfold Op.equalIn
  rw[Sem.run_bind,hu,Result.andThen_ok]
  cases d with
  |slice e=>
   have hx:=iE h1 (by rw[←ho1];rfl)
   have hy:=iE h2 (by rw[←ho2];rfl)
   rcases hx with⟨rfl,rfl⟩|⟨rfl,_,_,_,rfl⟩<;>rcases hy with⟨rfl,rfl⟩|⟨rfl,_,_,_,rfl⟩<;>simp at h3<;>subst h3<;>rfl
  |map k e=>
   have hx:=lW h1 (by rw[←ho1];rfl)
   have hy:=lW h2 (by rw[←ho2];rfl)
   rcases hx with⟨rfl,rfl⟩|⟨rfl,_,rfl⟩<;>rcases hy with⟨rfl,rfl⟩|⟨rfl,_,rfl⟩<;>simp at h3<;>subst h3<;>rfl
  |func p r v=>
   have hx:=jS h1 (by rw[←ho1];rfl)
   have hy:=jS h2 (by rw[←ho2];rfl)
   rcases hx with⟨rfl,rfl⟩|⟨rfl,_,_,_,rfl⟩<;>rcases hy with⟨rfl,rfl⟩|⟨rfl,_,_,_,rfl⟩<;>simp at h3<;>subst h3<;>rfl
  |pointer e=>
   have hx:=lX h1 (by rw[←ho1];rfl)
   have hy:=lX h2 (by rw[←ho2];rfl)
   rcases hx with⟨rfl,rfl⟩|⟨rfl,_,rfl⟩<;>rcases hy with⟨rfl,rfl⟩|⟨rfl,_,rfl⟩<;>simp at h3<;>subst h3<;>rfl
  |_=>
   simp only[ji]at ho1
   cases x<;>simp[cJ]at ho1
 ·cases ho
def ud{v1 v2 c1 c2:Value}{b:Bool}{t:TI}(h1:VR la mu v1 c1)(h2:VR la mu v2 c2)(hn:jh v1 v2=some b)(ho:pA C.P t v1 v2=true):jh c1 c2=some b/\pA C.P t c1 c2=true:=by
 obtain⟨bx,by_,g1,g2,g3⟩:=ed hn
 obtain⟨k1,k2⟩:=nJ g1 h1
 obtain⟨k3,k4⟩:=nJ g2 h2
 refine⟨?_,by unfold pA at ho ⊢;rw[k2,k4];exact ho⟩
 unfold jh
 rw[k1,k3]
 rcases g3 with⟨rfl,rfl⟩|⟨rfl,rfl⟩
 ·rfl
 ·cases b<;>rfl
def lC{op:BinOp}{t:TI}{x y:TD}{c1 c2:Value}{b:Bool}(hn:jh c1 c2=some b):(eqGuard op t x y c1 c2).run C.P w = .ok () w:=by
 obtain⟨bx,by_,g1,g2,g3⟩:=ed hn
 cases c1<;>(try (simp[aM]at g1;done))<;>cases op<;>rfl
def binOp_eql{t:TI}{c1 c2:Value}{b:Bool}(hn:jh c1 c2=some b):binOp .eql t c1 c2=(do pure (.bool (←Op.equal t c1 c2))):=by
 obtain⟨bx,by_,g1,g2,g3⟩:=ed hn
 cases c1<;>(try (simp[aM]at g1;done))<;>cases c2<;>(try (simp[aM]at g2;done))<;>rfl
def binOp_neq{t:TI}{c1 c2:Value}{b:Bool}(hn:jh c1 c2=some b):binOp .neq t c1 c2=(do pure (.bool (!(←Op.equal t c1 c2)))):=by
 obtain⟨bx,by_,g1,g2,g3⟩:=ed hn
 cases c1<;>(try (simp[aM]at g1;done))<;>cases c2<;>(try (simp[aM]at g2;done))<;>rfl
def VR.func_inv{g:TJ}{x y:Tj}{c:Value}(h:VR la mu (.func (.func g) x y) c):∃x' y',c = .func (.func g) x' y'/\VRs la mu x.toList x'.toList/\VRs la mu y.toList y'.toList:=by
 cases h with
 |scalar h=>simp[Am.scalar]at h
 |func _ ha hb h1 h2=>
  exact⟨_,_,rfl,⟨by simpa using ha,λi u v hu hv=>h1 i u v (by simpa using hu) (by simpa using hv)⟩,⟨by simpa using hb,λi u v hu hv=>h2 i u v (by simpa using hu) (by simpa using hv)⟩⟩
def VR.yield_inv{l:Nat}{x y:Tj}{c:Value}(h:VR la mu (.func (.yield l) x y) c):∃p,mu l=some p/\c = .func (.yield p.b) #[] #[]:=by
 cases h with
 |scalar h=>simp[Am.scalar]at h
 |func hf _ _ _ _=>exact absurd rfl (hf l)
 |yield h=>exact⟨_,h,rfl⟩
def VR.slice_len{ad:Option Addr}{n cx:Nat}{c:Value}(h:VR la mu (.slice ad n cx) c):∃a' cap,c = .slice a' n cap/\(∀m,ad.isSome->cx=m+1->cap=m):=by
 cases h with
 |scalar h=>exact⟨_,_,rfl,λm hs _=>by cases ad with|none=>cases hs|some a=>simp[Am.scalar]at h⟩
 |hslice h hr hl hx=>exact⟨_,_,rfl,λm _ hm=>by omega⟩
 |hslice0 hx=>exact⟨_,_,rfl,λm _ hm=>by omega⟩
 |gslice hl hx=>exact⟨_,_,rfl,λm _ hm=>by omega⟩
 |gslice0 hx=>exact⟨_,_,rfl,λm _ hm=>by omega⟩
def prel_ok(h:SR C base la mu σ a.tmps w)(ps:Array (Nat×Operand))(ht:∀p∈ps.toList,aB (oval σ.tmps p.2)=false) :
  PRel la mu (ps.toList.map λp=>(p.1,oval σ.tmps p.2)) (ps.map λ(i,x)=>(i,a.eval x)).toList:=by
 rw[qbf]
 refine⟨by simp,λi p q hp hq=>?_⟩
 rw[qaA]at hp hq
 cases hx:ps.toList[i]? with
 |none=>rw[hx]at hp;cases hp
 |some x=>
  rw[hx]at hp hq
  cases hp
  cases hq
  exact⟨rfl,ht x (qaq hx),ao h x.2⟩
def bz{c:Call}{o:Oper}{b:Builtin}(ho:o.op = .call c)(hc:c.callee = .builtin b) :
  execOp a.eval o=builtin b c.argTypes o.type (c.args.map λ| .const _=>true|_=>false) (c.args.map a.eval):=by
 obtain⟨dst,op,type,pos,after,guard⟩:=o
 simp only at ho
 subst ho
 simp only[execOp,resolve,hc]
 rfl
def oD{c:Call}{s x:Value}(h:c.args.toList.map (oval σ.tmps)=[s,x]):∃xs xx,c.args = #[xs,xx]/\s=oval σ.tmps xs/\x=oval σ.tmps xx:=by
 obtain⟨l,hl⟩ : ∃l,c.args=l.toArray:=⟨c.args.toList,by simp⟩
 rw[hl]at h
 match l,h with
 | [u,v],h=>
  simp at h
  exact⟨u,v,by rw[hl],h.1.symm,h.2.symm⟩
def oC{c:Call}{s:Value}(h:c.args.toList.map (oval σ.tmps)=[s]):∃xs,c.args = #[xs]/\s=oval σ.tmps xs:=by
 obtain⟨l,hl⟩ : ∃l,c.args=l.toArray:=⟨c.args.toList,by simp⟩
 rw[hl]at h
 match l,h with
 | [u],h=>
  simp at h
  exact⟨u,by rw[hl],h.symm⟩
def jY{s:Sem Value}{v:Value}(h:∃v',s.run C.P w = .ok v' w/\VR la mu v v'):kU C base la mu σ w (do pure (.value (←s))) (.val v):=by
 obtain⟨v',h1,h2⟩:=h
 exact fj h1 h2
def jr(h:SR C base la mu σ a.tmps w){o:Oper}{e:Eff}(hs:∀cs b,o.op≠.select cs b)(he:bN C (oval σ.tmps) o=some e):kU C base la mu σ w (execOp a.eval o) e:=by
 obtain⟨v,rfl,hv⟩:=vE h hs he
 exact hv
def oF(h:SR C base la mu σ a.tmps w)(hb:base<=w.heap.size){c:Call}{o:Oper}{b:Builtin}{e:Eff}(ho:o.op = .call c)(hc:c.callee = .builtin b)
  (he:aJ C (oval σ.tmps) b (c.args.toList.map (oval σ.tmps)) c.argTypes o=some e):kU C base la mu σ w (execOp a.eval o) e:=by
 have hsel:∀cs b,o.op≠.select cs b:=by rw[ho];intro cs b h;cases h
 unfold aJ at he
 split at he
 next s x t hargs h0=>
  obtain⟨xs,xx,hca,rfl,rfl⟩:=oD hargs
  split at he
  ·cases he
  next hcond=>
   cases he
   simp only[qaX,not_or,qaS]at hcond
   obtain⟨xT,hxT⟩ : ∃xT,c.argTypes[1]?=some xT:=by
    cases hx:c.argTypes[1]? with
    |none=>simp[hx]at hcond
    |some xT=>exact⟨xT,rfl⟩
   rw[hxT]at hcond
   have hd:∃d,C.P.underlying xT=some d/\lP d=false:=by
    have hc1:=hcond.1
    simp only[Option.any_some]at hc1
    split at hc1
    ·cases hc1
    ·cases hc1
    next hn1 hn2=>
     cases hu:C.P.underlying xT with
     |none=>exact absurd hu hn2
     |some d=>
      refine⟨d,rfl,?_⟩
      cases d<;>first|rfl|exact absurd hu (hn1 _)
   obtain⟨d,hd1,hd2⟩:=hd
   intro H' v hv
   have:=uU (ty:=o.type) h hb h0 hxT hd1 hd2 hv
   rw[bz ho hc,hca]
   simpa[builtin]using this
 next x t hargs h0=>
  obtain⟨xs,hca,rfl⟩:=oC hargs
  have hx:=ao h xs
  split at he
  next e0 ad n cx hu hxe=>
   cases he
   rw[hxe]at hx
   obtain⟨a',cap,hev,_⟩:=hx.slice_len
   rw[bz ho hc,hca]
   exact⟨.int .i64 n,by simp[builtin,Builtin.len_,h0,run_underlying hu,hev,goInt],.scalar rfl⟩
  next kt et id hu hxe=>
   cases he
   rw[hxe]at hx
   obtain⟨p,hp,hev⟩:=hx.map_inv
   intro v hv
   cases hm:hmap σ.heap id with
   |none=>simp[hm]at hv
   |some q=>
    obtain⟨es,cl⟩:=q
    simp only[hm,qau,qar]at hv
    subst hv
    obtain⟨es',h1,h2,h3⟩:=je h.wr hm hp
    rw[bz ho hc,hca]
    refine⟨.int .i64 es'.size,by simp[builtin,Builtin.len_,h0,run_underlying hu,hev,aH h1,goInt],by rw[h2];exact .scalar rfl⟩
  next n e0 hu=>
   cases he
   rw[bz ho hc,hca]
   exact⟨.int .i64 n,by simp[builtin,Builtin.len_,h0,run_underlying hu,goInt],.scalar rfl⟩
  ·exact jr h hsel he
 next x t hargs h0=>
  obtain⟨xs,hca,rfl⟩:=oC hargs
  have hx:=ao h xs
  split at he
  next e0 ad n cx hu hxe=>
   cases he
   rw[hxe]at hx
   obtain⟨a',cap,hev,hcap⟩:=hx.slice_len
   have:=hcap cx rfl rfl
   subst this
   rw[bz ho hc,hca]
   exact⟨.int .i64 cap,by simp[builtin,Builtin.cap_,h0,run_underlying hu,hev,goInt],.scalar rfl⟩
  next e0 hu hxe=>
   cases he
   rw[hxe]at hx
   have hev:=bw (a:=.slice none 0 0) rfl hx
   rw[bz ho hc,hca]
   exact⟨.int .i64 0,by simp[builtin,Builtin.cap_,h0,run_underlying hu,hev,goInt],.scalar rfl⟩
  next n e0 hu=>
   cases he
   rw[bz ho hc,hca]
   exact⟨.int .i64 n,by simp[builtin,Builtin.cap_,h0,run_underlying hu,goInt],.scalar rfl⟩
  ·cases he
 next d x t hargs h0=>
  obtain⟨xs,xx,hca,rfl,rfl⟩:=oD hargs
  cases he
  intro H' v hv
  have:=copyA_ok (ty:=o.type) h h0 hv
  rw[bz ho hc,hca]
  simpa[builtin]using this
 next m k t hargs h0=>
  obtain⟨xs,xx,hca,rfl,rfl⟩:=oD hargs
  cases he
  intro H' v hv
  have:=vf (ty:=o.type) h h0 hv
  rw[bz ho hc,hca]
  simpa[builtin]using this
 next x t hargs h0=>
  obtain⟨xs,hca,rfl⟩:=oC hargs
  cases he
  intro H' v hv
  have:=clearA_ok (ty:=o.type) h h0 hv
  rw[bz ho hc,hca]
  simpa[builtin]using this
 ·exact jr h hsel he
def uX(h:SR C base la mu σ a.tmps w)(hb:base<=w.heap.size){c:Call}{o:Oper}{e:Eff}(ho:o.op = .call c)(he:eR C (oval σ.tmps) c o=some e):kU C base la mu σ w (execOp a.eval o) e:=by
 unfold eR at he
 simp only at he
 split at he
 next b hc=>
  exact oF h hb ho hc he
 ·cases he
 next f hc=>
  split at he
  ·cases he
  next hargs=>
   simp only[qaS,qbL]at hargs
   have hargsR:=(oQ h c.args).down hargs
   have hf:=ao h f
   have hrun:∀fn x y,a.eval f = .func fn x y->(execOp a.eval o).run C.P w=(invoke (.fn fn y) (x++c.args.map a.eval)).run C.P w:=by
    intro fn x y hev
    obtain⟨dst,op,type,pos,after,guard⟩:=o
    simp only at ho
    subst ho
    simp[execOp,resolve,hc,hev,Deferred.ofValue]
   split at he
   next g first cap hfe=>
    split at he
    next hnl=>
     cases he
     rw[hfe]at hf
     obtain⟨x',y',hev,r1,r2⟩:=hf.func_inv
     have hnl':first.toList.all bg=true/\cap.toList.all bg=true:=by simpa[noLoc]using hnl
     have d1:VRs noL mu first.toList x'.toList:=⟨r1.1,λi u v hu hv=>eg (bU hnl'.1 hu) (r1.2 i u v hu hv)⟩
     have d2:VRs noL mu cap.toList y'.toList:=⟨r2.1,λi u v hu hv=>eg (bU hnl'.2 hu) (r2.2 i u v hu hv)⟩
     refine⟨x'++c.args.map a.eval++y',?_,?_⟩
     ·simp only[qbz]
      exact(d1.append hargsR).append d2
     ·rw[hrun _ _ _ hev];rfl
    ·cases he
   next l first cap hfe=>
    split at he
    next hsz=>
     cases he
     rw[hfe]at hf
     obtain⟨p,hp,hev⟩:=hf.yield_inv
     refine⟨p,#[]++c.args.map a.eval,hp,by simpa using hargsR,?_⟩
     rw[hrun _ _ _ hev];rfl
    ·cases he
   ·cases he
def tE(h:SR C base la mu σ a.tmps w)(hb:base<=w.heap.size){pts:Tz}{o:Oper}{e:Eff}(he:ak C pts (oval σ.tmps) o=some e):kU C base la mu σ w (execOp a.eval o) e:=by
 obtain⟨dst,op,type,pos,after,guard⟩:=o
 cases op with
 |move x=>simp only[ak]at he;cases he;exact⟨_,rfl,ao h x⟩
 |assign x=>simp only[ak]at he;cases he;exact⟨_,rfl,ao h x⟩
 |pick c x y=>
  simp only[ak]at he
  split at he
  next q hq=>
   cases he
   have hc:=ao h c
   rw[hq]at hc
   have hcv:=hc.bool
   refine⟨if q then a.eval x else a.eval y,by simp[execOp,hcv,asBool],?_⟩
   cases q
   ·exact ao h y
   ·exact ao h x
  ·cases he
 |alloc t=>
  simp only[ak]at he
  cases hz:cZ C.P t with
  |none=>rw[hz]at he;cases he
  |some z=>
   rw[hz,qag]at he
   have hzr:=qb hz w
   have:=jQ h hb (VR.of_flat (iU hz).2.1) he
   have hrun:(execOp a.eval { dst,op:=.alloc t,type,pos,after,guard }).run C.P w=(do pure (.value (←Instr.box t z)):Sem Next).run C.P w:=by
    simp[execOp,Instr.alloc,Instr.box,hzr]
   revert this
   cases e<;>simp only[kU,rR,HOk,hrun]<;>exact id
 |box t x=>simp only[ak]at he;exact jQ h hb (ao h x) he
 |build t ps=>
  simp only[ak]at he
  split at he
  next hall=>
   cases hbd:ql C t (ps.toList.map λp=>(p.1,oval σ.tmps p.2))with
   |none=>rw[hbd]at he;cases he
   |some v=>
    rw[hbd]at he
    cases he
    have hp:=prel_ok h ps λp hp=>by
     have:=qab.1 hall p hp
     simpa using this
    exact jY (buildA_ok hbd hp)
  ·cases he
 |buildSlice t n ps=>
  simp only[ak]at he
  split at he
  next hall=>
   have hnt:∀p∈ps.toList,aB (oval σ.tmps p.2)=false:=λp hp=>by
    have:=qab.1 hall p hp
    cases hv:oval σ.tmps p.2 with
    |tuple vs=>
     rw[hv]at this
     have:=qab.1 this (.tuple vs) (by simp[Value.cells])
     simp only[aI,aZ,qaa]at this
     simp[aB,this.2]
    |_=>rfl
   have hp:=prel_ok h ps hnt
   cases hbd:dV C t n (ps.toList.map λp=>(p.1,oval σ.tmps p.2))with
   |none=>rw[hbd]at he;cases he
   |some r=>
    rw[hbd]at he
    cases he
    intro H' v hv
    cases hv
    exact mK h hb hp (λp hp=>by
     obtain⟨q,hq,rfl⟩:=qaN.1 hp
     exact qab.1 hall q hq) hbd
  ·cases he
 |load t x=>simp only[ak]at he;exact vr h he
 |store t x y=>simp only[ak]at he;exact tg h he
 |nilCheck x=>
  simp only[ak]at he
  have hx:=ao h x
  split at he
  next ad hv=>
   cases he
   rw[hv]at hx
   cases hc:a.eval x with
   |pointer p=>
    rw[hc]at hx
    cases p with
    |none=>cases hx
    |some p=>exact⟨_,by simp[execOp,hc],hx⟩
   |_=>rw[hc]at hx;cases hx<;>(rename_i hs;simp[Am.scalar]at hs)
  next f u v hv=>
   cases he
   rw[hv]at hx
   obtain⟨u',v',hev,_,_⟩:=hx.func_inv
   rw[hev]at hx
   exact⟨_,by simp[execOp,hev],hx⟩
  next f u v hv=>
   cases he
   rw[hv]at hx
   obtain⟨p,_,hev⟩:=hx.yield_inv
   rw[hev]at hx
   exact⟨_,by simp[execOp,hev],hx⟩
  ·cases he
 |binOp op t x y yt=>
  have hpure:bN C (oval σ.tmps) { dst,op:=.binOp op t x y yt,type,pos,after,guard }=some e->kU C base la mu σ w (execOp a.eval { dst,op:=.binOp op t x y yt,type,pos,after,guard }) e:=
   λhe=>jr h (by intro cs b h;cases h) he
  simp only[ak]at he
  split at he
  ·split at he
   next b hn=>
    split at he
    next ho=>
     cases he
     obtain⟨n1,n2⟩:=ud (ao h x) (ao h y) hn ho
     refine⟨.bool b,?_,.scalar rfl⟩
     simp only[execOp,Sem.run_bind,lC n1,Result.andThen_ok,binOp_eql n1,rD n1 n2,Sem.run_pure]
    ·cases he
   ·exact hpure he
  ·split at he
   next b hn=>
    split at he
    next ho=>
     cases he
     obtain⟨n1,n2⟩:=ud (ao h x) (ao h y) hn ho
     refine⟨.bool !b,?_,.scalar rfl⟩
     simp only[execOp,Sem.run_bind,lC n1,Result.andThen_ok,binOp_neq n1,rD n1 n2,Sem.run_pure]
    ·cases he
   ·exact hpure he
  ·exact hpure he
 |unOp op t x=>simp only[ak]at he;exact jr h (by intro cs b h;cases h) he
 |convert s d x=>simp only[ak]at he;exact jr h (by intro cs b h;cases h) he
 |makeFunc fn first cap=>
  simp only[ak]at he
  split at he
  ·cases he
  next hfn=>
   cases he
   refine⟨.func fn (first.map a.eval) (cap.map a.eval),by simp[execOp,Instr.makeFunc],?_⟩
   have r1:=oQ h first
   have r2:=oQ h cap
   refine .func (λl hl=>hfn l hl) (by simp) (by simp) (λi u v hu hv=>r1.2 i u v (by simpa using hu) (by simpa using hv)) (λi u v hu hv=>r2.2 i u v (by simpa using hu) (by simpa using hv))
 |makeMap t r=>
  simp only[ak]at he
  split at he
  next hr=>
   cases he
   intro H' v hv
   cases hv
   exact jg h hb hr
  ·cases he
 |makeSlice t l c=>
  simp only[ak]at he
  cases he
  intro H' v hv
  exact px h hb hv
 |slice t x lo hi mx=>
  have hpure:bN C (oval σ.tmps) { dst,op:=.slice t x lo hi mx,type,pos,after,guard }=some e->kU C base la mu σ w (execOp a.eval { dst,op:=.slice t x lo hi mx,type,pos,after,guard }) e:=
   λhe=>jr h (by intro cs b h;cases h) he
  have hx:=ao h x
  have o1:=ORel.map lo λx=>ao h x
  have o2:=ORel.map hi λx=>ao h x
  have o3:=ORel.map mx λx=>ao h x
  simp only[ak]at he
  split at he
  next ad hv=>
   rw[hv]at hx
   split at he
   next hsp=>
    cases hs:cj C t ad (lo.map (oval σ.tmps)) (hi.map (oval σ.tmps)) (mx.map (oval σ.tmps)) []with
    |none=>rw[hs]at he;cases he
    |some v=>
     rw[hs]at he
     cases he
     exact jY (mt h.wr (.inl hsp) hs hx o1 o2 o3)
   ·cases he
    intro v hv
    obtain⟨v',h1,h2⟩:=mt h.wr (.inr rfl) hv hx o1 o2 o3
    exact fj h1 h2
  ·unfold mb at he
   split at he
   next v hs=>
    cases he
    exact jY (sliceA_ok hs hx o1 o2 o3)
   ·exact hpure he
 |fieldAddr t x f=>
  simp only[ak]at he
  cases hs:eI C t (oval σ.tmps x) f with
  |none=>rw[hs]at he;cases he
  |some v=>rw[hs]at he;cases he;exact jY (oT hs (ao h x))
 |field t x f=>
  simp only[ak]at he
  cases hs:qB C t (oval σ.tmps x) f with
  |none=>rw[hs]at he;cases he
  |some v=>rw[hs]at he;cases he;exact jY (fieldA_ok hs (ao h x))
 |indexAddr t x i=>
  simp only[ak]at he
  cases hs:dP C t (oval σ.tmps x) (oval σ.tmps i)with
  |none=>rw[hs]at he;cases he
  |some v=>rw[hs]at he;cases he;exact jY (pf hs (ao h x) (ao h i))
 |index t x i=>
  simp only[ak]at he
  cases hs:jO C t (oval σ.tmps x) (oval σ.tmps i)with
  |none=>rw[hs]at he;cases he
  |some v=>rw[hs]at he;cases he;exact jY (indexA_ok hs (ao h x) (ao h i))
 |lookup t m k ok=>
  simp only[ak]at he
  have hm:=ao h m
  have hk:=ao h k
  split at he
  next hme=>
   rw[hme]at hm
   cases hs:bW C t (.map none) (oval σ.tmps k) ok []with
   |none=>rw[hs]at he;cases he
   |some v=>rw[hs]at he;cases he;exact jY (nD h.wr (.inl rfl) hm hk hs)
  ·cases he
   intro v hv
   obtain⟨v',h1,h2⟩:=nD h.wr (.inr rfl) hm hk hv
   exact fj h1 h2
 |mapUpdate t m k v=>simp only[ak]at he;cases he;intro H' u hu;exact iC h hu
 |insert t m k v=>simp only[ak]at he;cases he;intro H' u hu;exact iC h hu
 |mapEntry t m k=>simp only[ak]at he;cases he;intro H' u hu;exact rf h hu
 |entryStore t m s v=>simp only[ak]at he;cases he;intro H' u hu;exact mP h hu
 |extract t i=>
  simp only[ak]at he
  have ht:=ao h t
  split at he
  next vs hv=>
   split at he
   ·cases he
   next hsz=>
    cases hs:vs[i]? with
    |none=>rw[hs]at he;cases he
    |some v=>
     rw[hs]at he
     cases he
     rw[hv]at ht
     obtain⟨ds,hev,hds⟩:=ht.untuple (by omega)
     obtain⟨v',h1,h2⟩:=hds.get (i:=i) (by simpa using hs)
     refine⟨v',?_,h2⟩
     have h1':ds[i]?=some v':=by simpa using h1
     simp[execOp,Instr.extract,hev,h1']
  ·cases he
 |call c=>simp only[ak]at he;exact uX h hb rfl he
 |_=>simp only[ak]at he;cases he
end
end
section
variable [Val]
section
variable [Glo]
def Marks(mu:HMap)(H:Ts)(w₀ w:World)(ds:List Deferred):Prop:=
 ∃rs:List Nat,ds=rs.map (λr=>({ target:=.collected r,args:=#[] }:Deferred))/\rs.Nodup/\∀r∈rs,w₀.heap.size<=r/\w.heap[r]?=some (.deferred (some []))/\¬Own mu H r
structure FI(C:Cfg)(base:Nat)(H₀:Ts)(mu₀:HMap)(w₀:World)(la:LMap)(mu:HMap)(σ:St)(a:Act)(w:World):Prop where
 sr:SR C base la mu σ a.tmps w
 evo:Evo H₀ mu₀ w₀ σ.heap mu w
 fresh:∀s b,la s=some b->w₀.heap.size<=b
 marks:Marks mu σ.heap w₀ w a.defers
 low:base<=w₀.heap.size
end
def eG(C:Cfg)(f:TJ)(args:Tl)(H:Ts)(r:Value)(H':Ts):Prop:=
 ∀(_:Glo) (base:Nat) (mu:HMap) (w:World) (args':Tj),base<=w.heap.size->VRs noL mu args args'.toList->WR C base mu H w->∀cs,
  ∃v mu' w',VR noL mu' r v/\WR C base mu' H' w'/\Evo H mu w H' mu' w'/\(callFunc f args').run C.P w = .ok (.enter f args') w/\
   ∃fr,Steps C.P (lone (Frame.enter C.P f args' .normal) cs w) (lone fr cs w')/\fr.fn=f/\fr.leaving C.P w' (.returned v)
def YieldOk(C:Cfg)(l:Nat)(args:Tl)(H:Ts)(r:Value)(H':Ts):Prop:=
 ∀(_:Glo) (base:Nat) (mu:HMap) (w:World) (args':Tj) (p:Pl),base<=w.heap.size->mu l=some p->VRs noL mu args args'.toList->WR C base mu H w->∀c cs,
  ∃v mu' w' fn tmps assign body,VR noL mu' r v/\WR C base mu' H' w'/\Evo H mu w H' mu' w'/\(Instr.yield p.b args').run C.P w = .ok (.round p.b fn tmps assign body) w/\
   Steps C.P (lone (Frame.round p.b fn tmps assign body .normal) (c :: cs) w) (lone (c.finish v) cs w')
structure BOk(C:Cfg)(B:Below):Prop where
 call:∀f args H r H',B.call f args H r H'->eG C f args H r H'
 yield:∀l args H r H',B.yield l args H r H'->YieldOk C l args H r H'
section
variable [Glo]
section machine
abbrev _root_.Ty:=List Item
variable {P:TC} {b:Frame} {a:Act} {k:Ty} {cs:List Frame} {w w':World} {ops:Tm} {i:Nat} {rest:Tz} {o:Oper}
def cL{v:Value}(ho:ops[i]?=some o)(hw:Region.wanted o (yielded ops a.tmps)=true)(hn:∀c,o.op≠.defer c)(hr:(execOp a.eval o).run P w = .ok (.value v) w') :
  step P (lone (b.atR a (.inRegion ops (i :: rest) :: k)) cs w) = .next (lone (b.atR (a.put o.dst v) (.inRegion ops rest :: k)) cs w'):=by
 have hg:=stepGR_op (P:=P) (b:=b) (k:=k) (cs:=cs) (w:=w) (rest:=rest) ho hw
 rw[Oper.semAt_eq _ _ _ hn]at hg
 have hfin:(b.atR a (.inRegion ops (i :: rest) :: k)).finish v=b.atR (a.put o.dst v) (.inRegion ops rest :: k):=by rw[Frame.finish_atR,ho];rfl
 refine step_lone_go ?_
 rw[hg,←hfin]
 simp[stepG.apply,Sem.runT_eq,hr]
def oh(ho:ops[i]?=some o)(hw:Region.wanted o (yielded ops a.tmps)=true)(hn:∀c,o.op≠.defer c)(hr:(execOp a.eval o).run P w = .ok .skip w') :
  step P (lone (b.atR a (.inRegion ops (i :: rest) :: k)) cs w) = .next (lone (b.atR (a.put o.dst undef) (.inRegion ops rest :: k)) cs w'):=by
 have hg:=stepGR_op (P:=P) (b:=b) (k:=k) (cs:=cs) (w:=w) (rest:=rest) ho hw
 rw[Oper.semAt_eq _ _ _ hn]at hg
 have hfin:(b.atR a (.inRegion ops (i :: rest) :: k)).finish undef=b.atR (a.put o.dst undef) (.inRegion ops rest :: k):=by rw[Frame.finish_atR,ho];rfl
 refine step_lone_go ?_
 rw[hg,←hfin]
 simp[stepG.apply,Sem.runT_eq,hr]
def vS{f:TJ}{args:Tj}(ho:ops[i]?=some o)(hw:Region.wanted o (yielded ops a.tmps)=true)(hn:∀c,o.op≠.defer c)(hr:(execOp a.eval o).run P w = .ok (.enter f args) w') :
  step P (lone (b.atR a (.inRegion ops (i :: rest) :: k)) cs w) = .next (lone (Frame.enter P f args .normal) (b.atR a (.inRegion ops (i :: rest) :: k) :: cs) w'):=by
 have hg:=stepGR_op (P:=P) (b:=b) (k:=k) (cs:=cs) (w:=w) (rest:=rest) ho hw
 rw[Oper.semAt_eq _ _ _ hn]at hg
 exact step_lone_go (by rw[hg];simp[stepG.apply,Sem.runT_eq,hr,Frame.atR])
def stepR_rnd{l:Nat}{f:TJ}{tmps:Tj}{assign body:Code}(ho:ops[i]?=some o)(hw:Region.wanted o (yielded ops a.tmps)=true)(hn:∀c,o.op≠.defer c)
  (hr:(execOp a.eval o).run P w = .ok (.round l f tmps assign body) w') :
  step P (lone (b.atR a (.inRegion ops (i :: rest) :: k)) cs w) = .next (lone (Frame.round l f tmps assign body .normal) (b.atR a (.inRegion ops (i :: rest) :: k) :: cs) w'):=by
 have hg:=stepGR_op (P:=P) (b:=b) (k:=k) (cs:=cs) (w:=w) (rest:=rest) ho hw
 rw[Oper.semAt_eq _ _ _ hn]at hg
 exact step_lone_go (by rw[hg];simp[stepG.apply,Sem.runT_eq,hr,Frame.atR])
def qG(ho:ops[i]?=some o)(v:Value):(b.atR a (.inRegion ops (i :: rest) :: k)).finish v=b.atR (a.put o.dst v) (.inRegion ops rest :: k):=by
 rw[Frame.finish_atR,ho];rfl
end machine
section
variable {C:Cfg} {base:Nat} {H₀:Ts} {mu₀:HMap} {w₀:World} {la:LMap} {mu:HMap} {σ:St} {a:Act} {w:World}
def FI.big(h:FI C base H₀ mu₀ w₀ la mu σ a w):base<=w.heap.size:=qbO h.low h.evo.size
def qg(a:Act)(dst:Tn)(v:Value):(a.put dst v).tmps=(match dst with|some d=>a.tmps.setIfInBounds d v|none=>a.tmps):=by cases dst<;>rfl
def mJ(a:Act)(dst:Tn)(v:Value):(a.put dst v).defers=a.defers:=by cases dst<;>rfl
def FI.put(h:FI C base H₀ mu₀ w₀ la mu σ a w)(dst:Tn){v v':Value}(hv:VR la mu v v'):FI C base H₀ mu₀ w₀ la mu (σ.put dst v) (a.put dst v') w:=by
 have hheap:(σ.put dst v).heap=σ.heap:=by cases dst<;>rfl
 refine⟨?_,by rw[hheap];exact h.evo,h.fresh,by rw[mJ,hheap];exact h.marks,h.low⟩
 rw[qg]
 exact h.sr.put dst hv
def Marks.evo{H H':Ts}{mu mu':HMap}{w w':World}{ds:List Deferred}(h:Marks mu H w₀ w ds)(he:Evo H mu w H' mu' w'):Marks mu' H' w₀ w' ds:=by
 obtain⟨rs,h1,h2,h3⟩:=h
 refine⟨rs,h1,h2,λr hr=>?_⟩
 obtain⟨k1,k2,k3⟩:=h3 r hr
 have hlt:r<w.heap.size:=by
  rcases qaC r w.heap.size with h|h
  ·exact h
  ·rw[qbw h]at k2;cases k2
 exact⟨k1,by rw[he.keep r hlt k3];exact k2,λho=>(he.steal r ho).elim (λhh=>by omega) k3⟩
def FI.heap(h:FI C base H₀ mu₀ w₀ la mu σ a w){H':Ts}{mu':HMap}{w':World}(hw:WR C base mu' H' w')(he:Evo σ.heap mu w H' mu' w'):FI C base H₀ mu₀ w₀ la mu' { σ with heap:=H' } a w':=
 ⟨h.sr.evo hw he,h.evo.trans he,h.fresh,h.marks.evo he,h.low⟩
def Own.lt{mu:HMap}{H:Ts}{w:World}(hw:WR C base mu H w){b:Nat}(h:Own mu H b):b<w.heap.size/\base<=b:=by
 obtain⟨id,o,p,h1,h2,h3,rfl⟩:=h
 exact⟨hw.lt h1 (bj h2) h3,hw.own id o p h1 h2 h3⟩
def FI.lnew(h:FI C base H₀ mu₀ w₀ la mu σ a w){s:Nat}{vs:Tl}{cells:Tj}{e:TI}(hs:σ.loc[s]?=some none)(hv:VRs noL mu vs cells.toList)(hok:vs.all aI=true) :
  FI C base H₀ mu₀ w₀ (λk=>if k=s then some w.heap.size else la k) mu { σ with loc:=σ.loc.set s (some vs) } a (w.alloc (.cells cells e)):=by
 have hold:∀b,b<w.heap.size->(w.alloc (.cells cells e)).heap[b]?=w.heap[b]?:=λb hb=>by
  show(w.heap.push _)[b]?=_
  rw[qbQ,qdr (by omega)]
 have hnone:la s=none:=by
  cases hl:la s with
  |none=>rfl
  |some b=>obtain⟨vs',h1⟩:=h.sr.ldom s b hl;rw[hs]at h1;cases h1
 have hmono:∀t b,la t=some b->(if t=s then some w.heap.size else la t)=some b:=λt b ht=>by
  rw[qdr (λe=>by subst e;rw[hnone]at ht;cases ht)];exact ht
 have hlab:∀t b,la t=some b->b<w.heap.size:=λt b ht=>by
  obtain⟨vs',h1⟩:=h.sr.ldom t b ht
  obtain⟨b',c,e',h2,_,h3,_⟩:=h.sr.loc t vs' h1
  obtain rfl:b=b':=by rw[ht]at h2;exact qan h2
  exact(qaz.1 h3).1
 have hslt:s<σ.loc.length:=by
  rcases qaC s σ.loc.length with h|h
  ·exact h
  ·rw[qae h]at hs;cases hs
 have hE:Evo σ.heap mu w σ.heap mu (w.alloc (.cells cells e)):=⟨qam _,λ_ _=>rfl,by simp,λb hb _=>hold b hb,λb hb=>.inr hb,rfl,rfl,rfl,qam _⟩
 refine⟨⟨h.sr.vals.mono hmono λ_ _ h=>h,?_,?_,?_,?_⟩,h.evo.trans hE,?_,h.marks.evo hE,h.low⟩
 ·intro t b ht
  split at ht
  next hts=>subst hts;exact⟨vs,by simp[hslt]⟩
  next hts=>
   obtain⟨vs',h1⟩:=h.sr.ldom t b ht
   exact⟨vs',by rw[qaD,qdr (qb9 hts)];exact h1⟩
 ·intro t vs' ht
  rcases get_set ht with⟨hne,ht⟩|⟨rfl,_,hvs⟩
  ·obtain⟨b,c,e',h1,h2,h3,h4,h5,h6⟩:=h.sr.loc t vs' ht
   exact⟨b,c,e',by simp[hne,h1],h2,by rw[hold b (hlab t b h1)];exact h3,h4,h5,h6⟩
  ·cases hvs
   exact⟨w.heap.size,cells,e,by simp,h.big,by show(w.heap.push _)[_]?=_;simp,hok,hv,λho=>by have:=(Own.lt h.sr.wr ho).1;omega⟩
 ·intro t t' b ht ht'
  split at ht<;>split at ht'
  next e1 e2=>rw[e1,e2]
  next e1 e2=>
   have:=hlab t' b ht'
   cases ht;omega
  next e1 e2=>
   have:=hlab t b ht
   cases ht';omega
  ·exact h.sr.linj t t' b ht ht'
 ·refine⟨?_,h.sr.wr.inj,h.sr.wr.own,h.sr.wr.ro,h.sr.wr.dom,?_⟩
  ·intro id o hid ha
   obtain⟨p,h1,h2⟩:=h.sr.wr.obj id o hid ha
   exact⟨p,h1,by rw[hold _ (lY ha h2)];exact h2⟩
  ·intro g vs hg
   obtain⟨h1,h2,c,e',fr,h3,h4⟩:=h.sr.wr.glob g vs hg
   exact⟨h1,h2,c,e',fr,by rw[hold _ (qaz.1 h3).1];exact h3,h4⟩
 ·intro t b ht
  split at ht
  ·cases ht;exact h.evo.size
  ·exact h.fresh t b ht
def FI.lset(h:FI C base H₀ mu₀ w₀ la mu σ a w){s b:Nat}{vs vs':Tl}{c cs:Tj}{e:TI}(hs:σ.loc[s]?=some (some vs))(hb:la s=some b)(hc:w.heap[b]?=some (.cells c e (0,0)))
  (hv:VRs noL mu vs' cs.toList) (hok:vs'.all aI=true):FI C base H₀ mu₀ w₀ la mu { σ with loc:=σ.loc.set s (some vs') } a (w.setRow b cs):=by
 have hblt:b<w.heap.size:=(qaz.1 hc).1
 have hno:¬Own mu σ.heap b/\base<=b:=by
  obtain⟨b',c',e',h1,h2,_,_,_,h6⟩:=h.sr.loc s vs hs
  obtain rfl:b=b':=by rw[hb]at h1;exact qan h1
  exact⟨h6,h2⟩
 have hold:∀k,k≠b->(w.setRow b cs).heap[k]?=w.heap[k]?:=λk hk=>setRow_other w b k cs hk
 have hnew:(w.setRow b cs).heap[b]?=some (.cells cs e (0,0)):=setRow_heap w b c cs e (0,0) hc
 have hslt:s<σ.loc.length:=by
  rcases qaC s σ.loc.length with h|h
  ·exact h
  ·rw[qae h]at hs;cases hs
 have hfr:=h.fresh s b hb
 refine⟨⟨h.sr.vals,?_,?_,h.sr.linj,?_⟩,?_,h.fresh,?_,h.low⟩
 ·intro t b' ht
  obtain⟨vs1,h1⟩:=h.sr.ldom t b' ht
  by_cases hts:t=s
  ·subst hts;exact⟨vs',by simp[hslt]⟩
  ·exact⟨vs1,by rw[qaD,qdr (qb9 hts)];exact h1⟩
 ·intro t vs1 ht
  rcases get_set ht with⟨hne,ht⟩|⟨rfl,_,hvs⟩
  ·obtain⟨b',c',e',h1,h2,h3,h4,h5,h6⟩:=h.sr.loc t vs1 ht
   exact⟨b',c',e',h1,h2,by rw[hold b' λeb=>hne (h.sr.linj t s b' h1 (eb▸hb))];exact h3,h4,h5,h6⟩
  ·cases hvs
   exact⟨b,cs,e,hb,hno.2,hnew,hok,hv,hno.1⟩
 ·refine⟨?_,h.sr.wr.inj,h.sr.wr.own,h.sr.wr.ro,h.sr.wr.dom,?_⟩
  ·intro id o hid ha
   obtain⟨p,h1,h2⟩:=h.sr.wr.obj id o hid ha
   refine⟨p,h1,?_⟩
   by_cases hpb:p.b=b
   · -- an object that is only read may lie below
    exfalso
    by_cases hown:o.owned=true
    ·exact hno.1 ⟨id,o,p,hid,hown,h1,hpb⟩
    ·have:=h.sr.wr.ro id o p hid ha (by simpa using hown) h1
     omega
   ·rw[hold _ hpb];exact h2
  ·intro g vs hg
   obtain⟨h1,h2,c',e',fr,h3,h4⟩:=h.sr.wr.glob g vs hg
   exact⟨h1,h2,c',e',fr,by rw[hold _ (by omega)];exact h3,h4⟩
 ·refine⟨h.evo.len,h.evo.same,by simpa[World.setRow]using h.evo.size,λk hk ho=>?_,h.evo.steal,h.evo.os,h.evo.tape,h.evo.output,h.evo.dr⟩
  rw[hold k (by omega)]
  exact h.evo.keep k hk ho
 ·obtain⟨rs,h1,h2,h3⟩:=h.marks
  refine⟨rs,h1,h2,λr hr=>?_⟩
  obtain⟨k1,k2,k3⟩:=h3 r hr
  exact⟨k1,by rw[hold r (λe=>by subst e;rw[hc]at k2;cases k2)];exact k2,k3⟩
end
end
end
section
variable [Val] [Glo]
section
variable {C:Cfg} {base:Nat} {H₀:Ts} {mu₀:HMap} {w₀:World} {la:LMap} {mu:HMap} {σ:St} {a:Act} {w:World}
def jE{ops:Tm}{o:Oper}{t:Bool}(h:VRs la mu σ.tmps a.tmps.toList)(hw:bD ops σ.tmps o=some t):Region.wanted o (yielded ops a.tmps)=t:=by
 unfold bD at hw
 unfold Region.wanted
 cases hg:o.guard with
 |none=>rw[hg]at hw;cases hw;rfl
 |some jw=>
  obtain⟨j,want⟩:=jw
  rw[hg]at hw
  simp only at hw ⊢
  unfold yielded
  cases hd:(ops[j]?).bind (·.dst)with
  |none=>
   rw[hd]at hw
   cases hw
   simp
  |some d=>
   rw[hd]at hw
   simp only[qag]at hw ⊢
   cases hv:σ.tmps[d]? with
   |none=>
    rw[hv]at hw
    cases hw
    have:a.tmps[d]?=none:=by
     have hl:=h.1
     rw[qci]at hv
     rw[Array.getElem?_eq_none_iff]
     simp at hl;omega
    rw[this];simp
   |some v=>
    rw[hv]at hw
    obtain⟨v',h1,h2⟩:=h.get hv
    rw[show a.tmps[d]?=some v' by simpa using h1]
    cases v with
    |bool b=>
     have:=h2.bool
     subst this
     cases hw
     simp
    |tuple vs=>
     split at hw
     next b e=>cases e
     next vs' e=>
      cases e
      split at hw
      ·cases hw
      next hsz=>
       cases hw
       obtain⟨d',rfl,_⟩:=h2.untuple hsz
       rfl
     next h3 h4=>exact absurd rfl (h4 vs)
    |_=>
     cases hw
     cases h2<;>first|rfl|(rename_i hs;simp[Am.scalar]at hs)
def fJ{pts:Tz}{ρ:Tf}{o:Oper}{e:Eff}(h:ak C pts ρ o=some e):∀c,o.op≠.defer c:=by
 intro c hc
 unfold ak at h
 rw[hc]at h
 cases h
structure Kept(σ:St)(mu:HMap)(σ':St)(mu':HMap):Prop where
 len:σ.heap.length<=σ'.heap.length
 same:∀k,k<σ.heap.length->mu' k=mu k
def St.put_hp(σ:St)(d:Tn)(v:Value):(σ.put d v).heap=σ.heap:=by cases d<;>rfl
def Kept.refl{σ:St}{mu:HMap}:Kept σ mu σ mu:=⟨qam _,λ_ _=>rfl⟩
def Kept.put{σ:St}{mu:HMap}{l:List (Option (Tl))}{d:Tn}{v:Value}:Kept σ mu (({ σ with loc:=l }:St).put d v) mu:=⟨by rw[St.put_hp];exact qam _,λ_ _=>rfl⟩
def Kept.heap{σ:St}{mu mu':HMap}{w w':World}{H:Ts}{d:Tn}{v:Value}(h:Evo σ.heap mu w H mu' w'):Kept σ mu (({ σ with heap:=H }:St).put d v) mu':=⟨by rw[St.put_hp];exact h.len,h.same⟩
def rJ{B:Below}(hB:BOk C B){pts:Tz}{ops:Tm}{i:Nat}{σ':St}(h:FI C base H₀ mu₀ w₀ la mu σ a w)(hs:ae C B pts ops i σ σ')(b:Frame)(rest:Tz)(k:Ty)(cs:List Frame) :
  ∃a' w' la' mu',FI C base H₀ mu₀ w₀ la' mu' σ' a' w'/\Kept σ mu σ' mu'/\
   Steps C.P (lone (b.atR a (.inRegion ops (i :: rest) :: k)) cs w) (lone (b.atR a' (.inRegion ops rest :: k)) cs w'):=by
 unfold ae at hs
 split at hs
 next ho=>
  subst hs
  refine⟨a,w,la,mu,h,.refl,.one ?_⟩
  have:=stepR_op_skip (P:=C.P) (b:=b) (a:=a) (k:=k) (cs:=cs) (w:=w) (ops:=ops) (i:=i) (rest:=rest) (by simp[ho])
  simpa[ho,Act.put]using this
 next o ho=>
  split at hs
  ·exact hs.elim
  next hw=>
   subst hs
   have hw':=jE (a:=a) h.sr.vals hw
   refine⟨a.put o.dst undef,w,la,mu,h.put o.dst .undef,.put,.one ?_⟩
   have:=stepR_op_skip (P:=C.P) (b:=b) (a:=a) (k:=k) (cs:=cs) (w:=w) (ops:=ops) (i:=i) (rest:=rest) (by simp[ho,hw'])
   simpa[ho]using this
  next hw=>
   have hw':=jE (a:=a) h.sr.vals hw
   rcases hs with hs|⟨v,hv,rfl⟩
   case inr=>
    obtain⟨v',h1,h2⟩:=symRel_ok h.sr hv
    refine⟨_,w,la,mu,h.put o.dst h2,.put,.one (cL ho hw' (λc hc=>?_) h1)⟩
    have h4:=hv.1
    rw[hc]at h4
    cases h4
   obtain⟨e,he,hr⟩:=hs
   have hnd:=fJ he
   have hok:=tE h.sr h.big he
   cases e with
   |val v=>
    obtain⟨p,hp,rfl⟩:=hr
    cases hp
    obtain⟨v',h1,h2⟩:=hok
    exact⟨_,w,la,mu,h.put o.dst h2,.put,.one (cL ho hw' hnd h1)⟩
   |lnew s vs=>
    obtain⟨p,hp,rfl⟩:=hr
    simp only[aA]at hp
    split at hp
    next hloc=>
     cases hp
     obtain⟨cells,e',h1,h2,h3⟩:=hok
     have hf:=(h.lnew (e:=e') hloc h2 h3).put o.dst (v:=.pointer (some ⟨s,0,some 0⟩)) (v':=.pointer (some ⟨w.heap.size,0,none⟩)) (.lptr (by simp))
     exact⟨_,_,_,_,hf,.put,.one (cL ho hw' hnd h1)⟩
    ·cases hp
   |lget s f=>
    obtain⟨p,hp,rfl⟩:=hr
    simp only[aA]at hp
    split at hp
    next vs hloc=>
     cases hfv:f vs with
     |none=>rw[hfv]at hp;cases hp
     |some v=>
      rw[hfv]at hp
      cases hp
      obtain⟨v',h1,h2⟩:=hok vs v hloc hfv
      exact⟨_,w,la,mu,h.put o.dst h2,.put,.one (cL ho hw' hnd h1)⟩
    ·cases hp
   |lset s f=>
    obtain⟨p,hp,rfl⟩:=hr
    simp only[aA]at hp
    split at hp
    next vs hloc=>
     cases hfv:f vs with
     |none=>rw[hfv]at hp;cases hp
     |some vs'=>
      rw[hfv]at hp
      cases hp
      obtain⟨bl,c,cs0,e',h1,h2,h3,h4,h5⟩:=hok vs vs' hloc hfv
      have hf:=(h.lset hloc h1 h2 h4 h5).put o.dst (v:=undef) (v':=undef) .undef
      exact⟨_,_,_,_,hf,.put,.one (oh ho hw' hnd h3)⟩
    ·cases hp
   |hget f=>
    obtain⟨p,hp,rfl⟩:=hr
    simp only[aA]at hp
    cases hfv:f σ.heap with
    |none=>rw[hfv]at hp;cases hp
    |some v=>
     rw[hfv]at hp
     cases hp
     obtain⟨v',h1,h2⟩:=hok v hfv
     exact⟨_,w,la,mu,h.put o.dst h2,.put,.one (cL ho hw' hnd h1)⟩
   |hop f=>
    obtain⟨p,hp,rfl⟩:=hr
    simp only[aA]at hp
    cases hfv:f σ.heap with
    |none=>rw[hfv]at hp;cases hp
    |some q=>
     rw[hfv]at hp
     cases hp
     obtain⟨nx,v',w',mu',h1,h2,h3,h4,h5,_⟩:=hok q.1 q.2 hfv
     have hf:=(h.heap h4 h5).put o.dst h3.up
     rcases h2 with rfl|⟨rfl,rfl⟩
     ·exact⟨_,w',la,mu',hf,.heap h5,.one (cL ho hw' hnd h1)⟩
     ·exact⟨_,w',la,mu',hf,.heap h5,.one (oh ho hw' hnd h1)⟩
   |call f args=>
    obtain⟨r,H,hc,rfl⟩:=hr
    obtain⟨args',h1,h2⟩:=hok
    obtain⟨v,mu',w',h3,h4,h5,h6,h7⟩:=hB.call _ _ _ _ _ hc _ base mu w args' h.big h1 h.sr.wr (b.atR a (.inRegion ops (i :: rest) :: k) :: cs)
    rw[h6]at h2
    refine⟨_,w',la,mu',(h.heap h4 h5).put o.dst h3.up,.heap h5,?_⟩
    obtain⟨fr,s1,s2,s3⟩:=h7
    refine .head (vS ho hw' hnd h2) (s1.trans (.one ?_))
    rw[←qG ho v]
    exact step_leave_returned s3
   |yield l args=>
    obtain⟨r,H,hc,rfl⟩:=hr
    obtain⟨p,args',hp,h1,h2⟩:=hok
    obtain⟨v,mu',w',fn,tmps,assign,body,h3,h4,h5,h6,h7⟩:=hB.yield _ _ _ _ _ hc _ base mu w args' p h.big hp h1 h.sr.wr (b.atR a (.inRegion ops (i :: rest) :: k)) cs
    rw[h6]at h2
    refine⟨_,w',la,mu',(h.heap h4 h5).put o.dst h3.up,.heap h5,?_⟩
    refine .head (stepR_rnd ho hw' hnd h2) ?_
    rw[←qG ho v]
    exact h7
def uF{B:Below}(hB:BOk C B){pts:Tz}{ops:Tm}{i:Nat}{σ':St}(h:FI C base H₀ mu₀ w₀ la mu σ a w)(hs:ae C B pts ops i σ σ')(b:Frame)(rest:Tz)(k:Ty)(cs:List Frame) :
  ∃a' w' la' mu',FI C base H₀ mu₀ w₀ la' mu' σ' a' w'/\
   Steps C.P (lone (b.atR a (.inRegion ops (i :: rest) :: k)) cs w) (lone (b.atR a' (.inRegion ops rest :: k)) cs w'):=
 let ⟨a',w',la',mu',h1,_,h2⟩:=rJ hB h hs b rest k cs
 ⟨a',w',la',mu',h1,h2⟩
def FI.restate{σ':St}(h:FI C base H₀ mu₀ w₀ la mu σ a w)(hr:eB σ σ'):FI C base H₀ mu₀ w₀ la mu σ' a w:=by
 obtain⟨h1,h2,h3,h4⟩:=hr
 obtain⟨tmps,loc,heap⟩:=σ'
 simp only at h1 h2 h3 h4
 subst h1 h2
 refine⟨⟨⟨by rw[h3];exact h.sr.vals.1,λi y c hy hc=>?_⟩,h.sr.ldom,h.sr.loc,h.sr.linj,h.sr.wr⟩,h.evo,h.fresh,h.marks,h.low⟩
 have hi:i<σ.tmps.length:=by
  rw[←h3]
  exact(qaV.1 hy).1
 have hv:=h.sr.vals.2 i σ.tmps[i] c (by simp[hi]) hc
 rcases h4 i σ.tmps[i] y (by simp[hi]) hy with rfl|⟨k1,k2,k3⟩
 ·exact hv
 ·rw[ur k1 hv,k3]
  exact rx k2
def uE{B:Below}(hB:BOk C B){pts:Tz}{ops:Tm}(b:Frame)(k:Ty)(cs:List Frame):∀(l:Tz) (σ σ':St) (a:Act) (w:World) (la:LMap) (mu:HMap),FI C base H₀ mu₀ w₀ la mu σ a w->eh C B pts ops l σ σ'->
  ∃a' w' la' mu',FI C base H₀ mu₀ w₀ la' mu' σ' a' w'/\
   Steps C.P (lone (b.atR a (.inRegion ops l :: k)) cs w) (lone (b.atR a' k) cs w')
 | [],σ,σ',a,w,la,mu,h,hs=>by
  cases hs
  exact⟨a,w,la,mu,h,.one stepR_region_end⟩
 |i :: l,σ,σ',a,w,la,mu,h,hs=>by
  obtain⟨σ₀,σ₁,h0,h1,h2⟩:=hs
  obtain⟨a₁,w₁,la₁,mu₁,g1,g2⟩:=uF hB (h.restate h0) h1 b l k cs
  obtain⟨a₂,w₂,la₂,mu₂,g3,g4⟩:=uE hB b k cs l σ₁ σ' a₁ w₁ la₁ mu₁ g1 h2
  exact⟨a₂,w₂,la₂,mu₂,g3,g2.trans g4⟩
def sim_ops{B:Below}(hB:BOk C B){pts:Tz}{ops:Tm}(b:Frame)(k:Ty)(cs:List Frame):∀(l:Tz) (σ σ':St) (a:Act) (w:World) (la:LMap) (mu:HMap),FI C base H₀ mu₀ w₀ la mu σ a w->aT C B pts ops l σ σ'->
  ∃a' w' la' mu',FI C base H₀ mu₀ w₀ la' mu' σ' a' w'/\
   Steps C.P (lone (b.atR a (.inRegion ops l :: k)) cs w) (lone (b.atR a' k) cs w')
 | [],σ,σ',a,w,la,mu,h,hs=>by
  cases hs
  exact⟨a,w,la,mu,h,.one stepR_region_end⟩
 |i :: l,σ,σ',a,w,la,mu,h,hs=>by
  obtain⟨σ₁,h1,h2⟩:=hs
  obtain⟨a₁,w₁,la₁,mu₁,g1,g2⟩:=uF hB h h1 b l k cs
  obtain⟨a₂,w₂,la₂,mu₂,g3,g4⟩:=sim_ops hB b k cs l σ₁ σ' a₁ w₁ la₁ mu₁ g1 h2
  exact⟨a₂,w₂,la₂,mu₂,g3,g2.trans g4⟩
def Fresh.at_{mk:Nat->Value}(h:Fresh mk){la:LMap}{mu mu':HMap}{L k:Nat}{v:Value}(hv:VR la mu (mk L) v)(hm:∀p,mu L=some p->mu' k=some p):VR la mu' (mk k) v:=by
 cases h with
 |ptr=>
  cases hv with
  |scalar h=>simp[Am.scalar]at h
  |hptr h=>exact .hptr (hm _ h)
 |slice e l c=>
  generalize ht:tag e=s at hv ⊢
  cases hv with
  |scalar h=>simp[Am.scalar]at h
  |hslice h hr hl hx=>exact .hslice (hm _ h) hr hl hx
  |hslice0 hx=>exact .hslice0 hx
  |gslice hl hx=>simp[tag]at ht
  |gslice0 hx=>simp[tag]at ht
 |map=>
  cases hv with
  |scalar h=>simp[Am.scalar]at h
  |map h=>exact .map (hm _ h)
def cF(mu:HMap)(L k:Nat):HMap:=λj=>if j=k then mu L else if j=L then none else mu j
def gn{Hx:Ts}{o x:HObj}{j k:Nat}(mu:HMap)(h:(Hx.set k o)[j]?=some x):j<Hx.length/\(Hx++[o])[if j=k then Hx.length else j]?=some x/\cF mu Hx.length k j=mu (if j=k then Hx.length else j):=by
 have hj:j<Hx.length:=by
  have:=(qaV.1 h).1
  simpa using this
 refine⟨hj,?_,?_⟩
 ·rcases get_set h with⟨hne,h⟩|⟨rfl,_,rfl⟩
  ·rw[qdr hne,qaf hj];exact h
  ·rw[qdq rfl];simp
 ·unfold cF
  split
  ·rfl
  ·rw[qdr (by omega)]
def WR.pad(h:WR C base mu σ.heap w)(n:Nat):WR C base mu (σ.pad n).heap w/\Evo σ.heap mu w (σ.pad n).heap mu w:=by
 have hb:∀ {j:Nat} {x:HObj},(σ.pad n).heap[j]?=some x->x.alive=true->σ.heap[j]?=some x:=by
  intro j x hj ha
  simp only[St.pad,qcJ]at hj
  split at hj
  ·exact hj
  ·rw[qaM]at hj
   split at hj
   ·cases hj;cases ha
   ·cases hj
 refine⟨⟨λid o ho ha=>h.obj id o (hb ho ha) ha,λi j oi oj pi pj hi hj hoi hoj=>h.inj i j oi oj pi pj (hb hi (bj hoi)) (hb hj hoj) hoi hoj,λi o p hi ho=>h.own i o p (hb hi (bj ho)) ho,
  λi o p hi ha=>h.ro i o p (hb hi ha) ha,λid hid=>h.dom id (by simp[St.pad]at hid;omega),h.glob⟩,⟨by simp[St.pad],λ_ _=>rfl,qam _,λ_ _ _=>rfl,?_,rfl,rfl,rfl,qam _⟩⟩
 rintro b ⟨id,o,p,h1,h2,h3,h4⟩
 exact .inr ⟨id,o,p,hb h1 (bj h2),h2,h3,h4⟩
def FI.pad(h:FI C base H₀ mu₀ w₀ la mu σ a w)(n:Nat):FI C base H₀ mu₀ w₀ la mu (σ.pad n) a w:=h.heap (h.sr.wr.pad n).1 (h.sr.wr.pad n).2
def FI.slot(h:FI C base H₀ mu₀ w₀ la mu σ a w){Hx:Ts}{o:HObj}{mu':HMap}{w':World}{k:Nat}(hw:WR C base mu' (Hx++[o]) w')(he:Evo σ.heap mu w (Hx++[o]) mu' w')(ho:Old mu mu' (Hx++[o]) w')
  (hl:Hx.length=σ.heap.length) (hk:Hx[k]?=some .dead) (hn:mu k=none) (hk0:H₀.length<=k):FI C base H₀ mu₀ w₀ la (cF mu' Hx.length k) { σ with heap:=Hx.set k o } a w':=by
 have hkl:k<Hx.length:=(qaV.1 hk).1
 have hT:=h.evo.trans he
 have hm:∀i p,mu i=some p->cF mu' Hx.length k i=some p:=by
  intro i p hp
  have hi:i<σ.heap.length:=by
   rcases qaC i σ.heap.length with h1|h1
   ·exact h1
   ·rw[h.sr.wr.dom i h1]at hp;cases hp
  unfold cF
  rw[qdr (λe=>by subst e;rw[hn]at hp;cases hp),qdr (by omega),he.same i hi]
  exact hp
 have hown:∀b,Own (cF mu' Hx.length k) (Hx.set k o) b->Own mu' (Hx++[o]) b:=by
  rintro b ⟨id,x,p,h1,h2,h3,h4⟩
  obtain⟨_,q2,q3⟩:=gn mu' h1
  exact⟨_,x,p,q2,h2,by rw[←q3];exact h3,h4⟩
 have hW:WR C base (cF mu' Hx.length k) (Hx.set k o) w':=by
  refine⟨?_,?_,?_,?_,?_,?_⟩
  ·intro id x hid ha
   obtain⟨_,q2,q3⟩:=gn mu' hid
   obtain⟨p,p1,p2⟩:=ho _ x q2 ha
   exact⟨p,by rw[q3];exact p1,p2.mono hm⟩
  ·intro i j oi oj pi pj hi hj hoi hoj hij hpi hpj
   obtain⟨i1,i2,i3⟩:=gn mu' hi
   obtain⟨j1,j2,j3⟩:=gn mu' hj
   rw[i3]at hpi
   rw[j3]at hpj
   refine hw.inj _ _ oi oj pi pj i2 j2 hoi hoj ?_ hpi hpj
   split<;>split<;>omega
  ·intro i x p hi hx hp
   obtain⟨_,i2,i3⟩:=gn mu' hi
   exact hw.own _ x p i2 hx (by rw[←i3];exact hp)
  ·intro i x p hi ha hx hp
   obtain⟨_,i2,i3⟩:=gn mu' hi
   exact hw.ro _ x p i2 ha hx (by rw[←i3];exact hp)
  ·intro id hid
   simp at hid
   unfold cF
   rw[qdr (by omega)]
   split
   ·rfl
   ·exact hw.dom id (by simp;omega)
  ·intro g vs hg
   obtain⟨h1,h2,c,e,fr,h3,h4⟩:=h.sr.wr.glob g vs hg
   have hlt:gBlk g<w.heap.size:=(qaz.1 h3).1
   exact⟨h1,h2,c,e,fr,by rw[he.keep _ hlt (λho=>by have:=(Own.lt h.sr.wr ho).2;omega)];exact h3,h4.mono hm⟩
 have hlen0:=h.evo.len
 refine⟨⟨h.sr.vals.mono (λ_ _ h=>h) hm,h.sr.ldom,?_,h.sr.linj,hW⟩,⟨by simp;omega,?_,hT.size,hT.keep,λb hb=>hT.steal b (hown b hb),hT.os,hT.tape,hT.output,hT.dr⟩,h.fresh,?_,h.low⟩
 ·intro s vs hs
  obtain⟨b,c,e,h1,h2,h3,h4,h5,h6⟩:=h.sr.loc s vs hs
  have hb:b<w.heap.size:=(qaz.1 h3).1
  exact⟨b,c,e,h1,h2,by rw[he.keep b hb h6];exact h3,h4,h5.mono (λ_ _ h=>h) hm,λho=>(he.steal b (hown b ho)).elim (λhh=>by omega) h6⟩
 ·intro id hid
  unfold cF
  rw[qdr (by omega),qdr (by omega)]
  exact hT.same id hid
 ·obtain⟨rs,h1,h2,h3⟩:=h.marks.evo he
  exact⟨rs,h1,h2,λr hr=>⟨(h3 r hr).1,(h3 r hr).2.1,λho=>(h3 r hr).2.2 (hown r ho)⟩⟩
def FI.old(h:FI C base H₀ mu₀ w₀ la mu σ a w){H':Ts}{mu':HMap}{w':World}(he:Evo σ.heap mu w H' mu' w'){k:Nat}(hk:k<σ.heap.length)(hn:mu k=none):mu' k=none:=by
 rw[he.same k hk];exact hn
def mq{B:Below}(hB:BOk C B){pts:Tz}{ops:Tm}{sl:Nat->Tp}(hinj:∀i j k,sl i=some k->sl j=some k->i=j)(h0:∀i k,sl i=some k->H₀.length<=k)(b:Frame)(k:Ty)(cs:List Frame) :
  ∀(l:Tz) (σ σ':St) (a:Act) (w:World) (la:LMap) (mu:HMap),FI C base H₀ mu₀ w₀ la mu σ a w->(∀i∈l,∀k,sl i=some k->k<σ.heap.length/\mu k=none)->gq C B pts ops sl l σ σ'->
  ∃a' w' la' mu',FI C base H₀ mu₀ w₀ la' mu' σ' a' w'/\
   Steps C.P (lone (b.atR a (.inRegion ops l :: k)) cs w) (lone (b.atR a' k) cs w')
 | [],σ,σ',a,w,la,mu,h,_,hs=>by
  cases hs
  exact⟨a,w,la,mu,h,.one stepR_region_end⟩
 |i :: l,σ,σ',a,w,la,mu,h,hu,hs=>by
  obtain⟨hil,σ₁,h1,h2⟩:=hs
  unfold di at h1
  split at h1
  ·obtain⟨a₁,w₁,la₁,mu₁,g1,g0,g2⟩:=rJ hB h h1 b l k cs
   obtain⟨a₂,w₂,la₂,mu₂,g3,g4⟩:=mq hB hinj h0 b k cs l σ₁ σ' a₁ w₁ la₁ mu₁ g1 (λj hj k hk=>by
    obtain⟨q1,q2⟩:=hu j (qao _ hj) k hk
    exact⟨qcV q1 g0.len,by rw[g0.same k q1];exact q2⟩) h2
   exact⟨a₂,w₂,la₂,mu₂,g3,g2.trans g4⟩
  next kk hk=>
   obtain⟨o,f,Hx,x,mk,ho,hw,he,hf,hl,hd,hfr,rfl⟩:=h1
   have hw':=jE (a:=a) h.sr.vals hw
   have hnd:=fJ he
   have hok:=tE h.sr h.big he
   obtain⟨nx,v',w',mu',q1,q2,q3,q4,q5,q6⟩:=hok _ _ hf
   obtain⟨u1,u2⟩:=hu i (by simp) kk hk
   have hS:=h.slot q4 q5 q6 hl hd u2 (h0 i kk hk)
   have hmk:VR noL (cF mu' Hx.length kk) (mk kk) v':=hfr.at_ q3 (λp hp=>by
    unfold cF
    rw[qdq rfl,hl];exact hp)
   have hF:=hS.put o.dst hmk.up
   have hnx:nx = .value v':=by
    rcases q2 with h|⟨_,rfl⟩
    ·exact h
    ·exfalso
     cases hfr with
     |ptr=>cases q3
     |slice e l c=>
      generalize hval:(Value.slice (some ⟨σ.heap.length,0,tag e⟩) l c)=u at q3
      cases q3<;>first|cases hval|(rename_i hsc;subst hval;simp[Am.scalar]at hsc)
     |map=>cases q3
   subst hnx
   obtain⟨a₂,w₂,la₂,mu₂,g3,g4⟩:=mq hB hinj h0 b k cs l _ σ' _ _ _ _ hF (λj hj k' hk'=>by
    obtain⟨p1,p2⟩:=hu j (qao _ hj) k' hk'
    have hne:k'≠kk:=λe=>by
     subst e
     exact hil (hinj i j k' hk hk'▸hj)
    refine⟨?_,?_⟩
    ·cases o.dst<;>simp[St.put,hl]<;>exact p1
    ·unfold cF
     rw[qdr hne,qdr (by omega),q5.same k' p1]
     exact p2) h2
   exact⟨a₂,w₂,la₂,mu₂,g3,(Steps.one (cL ho hw' hnd q1)).trans g4⟩
def sim_any{B:Below}(hB:BOk C B){pts:Tz}{ops:Tm}{σ':St}(h:FI C base H₀ mu₀ w₀ la mu σ a w)(hs:dm C B pts ops σ σ')(t:Nat)(b:Frame)(k:Ty)(cs:List Frame) :
  ∃a' w' la' mu',FI C base H₀ mu₀ w₀ la' mu' σ' a' w'/\
   Steps C.P (lone (b.atR a (.inRegion ops (Region.linearise .any ops t) :: k)) cs w) (lone (b.atR a' k) cs w'):=by
 rcases hs with hs|⟨sl,n,_,h1,h2,h3⟩
 ·exact sim_ops hB b k cs _ _ _ _ _ _ _ h (hs t)
 ·have hlen:=h.evo.len
  exact mq hB h2 (λi k hk=>qbO hlen (h1 i k hk).1) b k cs _ _ _ _ _ _ _ (h.pad n) (λi _ k hk=>⟨by simpa[St.pad]using(h1 i k hk).2,h.sr.wr.dom k (h1 i k hk).1⟩) (h3 t)
end
end
end Go.Am
end

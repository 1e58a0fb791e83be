/-
  PART 1 OF THE PROOF (no conditions).
-/
import Derived.AtR
import Derived.Calls
import Derived.KernelRfl
import Derived.Laws.AppendOwn
import Derived.Laws.MakeOwn
import Derived.Laws.Tables
import Derived.Orders
import Derived.RangeFuncIn
import Derived.RangeFuncLeaves
import GoSem.Claims
set_option linter.unusedSectionVars false
set_option linter.unusedSimpArgs false
set_option linter.unusedVariables false
set_option linter.constructorNameAsVariable false
set_option linter.defProp false
namespace Go
abbrev wa:=@Bool.and_eq_true
abbrev Ap:=@List.mem_of_getElem?
abbrev qac:=@List.all_eq_true
abbrev qad:=@List.mem_range
abbrev AW:=@Nat.eq_of_beq_eq_true
abbrev Be:=@List.getElem?_eq_getElem
abbrev qag:=@Option.map_eq_some_iff
abbrev AX:=@List.getElem?_map
abbrev Bg:=@Nat.ble_eq_true_of_le
abbrev Ah:=@Nat.le_refl
abbrev AO:=@List.cons_append
abbrev AG:=@List.nil_append
abbrev A6:=@List.append_assoc
abbrev Bp:=@List.getElem?_eq_none
abbrev BZ:=@List.getElem?_append_left
abbrev AR:=@Option.some.inj
abbrev A7:=@Option.bind_some
abbrev qar:=@List.mem_append
abbrev qas:=@List.mem_cons
abbrev A9:=@List.length_map
abbrev BF:=@List.mem_cons_of_mem
abbrev qav:=@List.mem_singleton
abbrev Bq:=@Bool.false_eq_true
abbrev qax:=@List.mem_map
abbrev BK:=@List.getElem?_of_mem
abbrev Bv:=@List.length_append
abbrev qaA:=@Option.bind_eq_some_iff
abbrev Cv:=@List.getElem?_append_right
abbrev A5:=@List.map_cons
abbrev B5:=@List.getElem?_set_ne
abbrev AF:=@Nat.zero_le
abbrev C1:=@Array.getD_eq_getD_getElem?
abbrev Bo:=@List.length_set
abbrev qaH:=@List.mem_filterMap
abbrev B8:=@Int.natCast_nonneg
abbrev CJ:=@List.take_of_length_le
abbrev B7:=@Option.some.injEq
abbrev BX:=@List.length_take
abbrev BP:=@Option.map_some
abbrev C2:=@List.getElem?_set_self
abbrev qaO:=@List.mem_filter
abbrev Cw:=@List.mem_cons_self
abbrev qaQ:=@Array.getElem?_eq_some_iff
abbrev Bu:=@Nat.lt_or_ge
abbrev BS:=@Bool.not_true
abbrev Cx:=@List.append_nil
abbrev BT:=@Nat.zero_add
abbrev CO:=@Bool.not_eq_true
abbrev Cz:=@Bool.or_eq_true
abbrev CA:=@List.map_append
abbrev CL:=@Nat.min_eq_left
abbrev Df:=@List.flatMap_cons
abbrev D9:=@List.mem_append_left
abbrev C6:=@List.length_cons
abbrev qa2:=@List.mem_flatMap
abbrev CI:=@Bool.not_false
abbrev Eo:=@Int.ofNat_eq_natCast
abbrev Ea:=@List.map_congr_left
abbrev qa6:=@List.length_eq_zero_iff
abbrev BW:=@Nat.blt_eq
abbrev IF:=@List.getElem?_cons_succ
abbrev IG:=@List.getElem?_replicate
abbrev qba:=@List.pairwise_cons
abbrev Eb:=@List.getElem?_set
abbrev Ec:=@List.take_add_one
abbrev Dt:=@List.cons.injEq
abbrev M7:=@Array.getElem?_eq_getElem
abbrev M8:=@List.drop_eq_getElem_cons
abbrev qbg:=@List.getElem?_eq_some_iff
abbrev qbh:=@Int.ofNat_lt
abbrev qbi:=@List.pairwise_map
abbrev qbj:=@Array.toList_inj
abbrev Ih:=@List.getElem?_range
abbrev qbl:=@List.length_pos_iff
abbrev IM:=@List.mem_of_mem_take
abbrev RZ:=@Array.getElem?_setIfInBounds
abbrev LV:=@List.mem_append_right
abbrev LW:=@List.take_append_drop
abbrev Gm:=@List.ext_getElem?
abbrev Ii:=@List.getElem?_drop
abbrev Ij:=@List.getElem?_take
abbrev Du:=@Int.ofNat.inj
abbrev qbu:=@Option.isSome_iff_exists
abbrev LX:=@List.mem_of_mem_drop
abbrev LY:=@Nat.mul_le_mul_right
abbrev Dk:=@List.map_nil
abbrev R0:=@List.mem_or_eq_of_mem_set
abbrev qbz:=@List.pairwise_iff_getElem
abbrev qbA:=@List.forall_mem_cons
abbrev Ie:=@Option.getD_some
abbrev Dg:=@Nat.add_mul
abbrev M4:=@List.flatMap_append
abbrev RU:=@List.pairwise_filterMap
abbrev II:=@Array.toList_map
abbrev IJ:=@List.take_length
abbrev Gl:=@List.drop_zero
abbrev RV:=@Array.getElem?_eq_none
abbrev RW:=@List.drop_of_length_le
abbrev RX:=@List.pairwise_lt_range
abbrev IK:=@Bool.eq_iff_iff
abbrev IL:=@List.foldl_cons
abbrev Ep:=@List.map_map
abbrev RY:=@List.set_append_right
abbrev Er:=@Nat.beq_refl
abbrev Es:=@Nat.le_trans
abbrev Ig:=@Int.negSucc_eq
abbrev Va:=@List.getElem?_cons_zero
abbrev Ds:=@Nat.ble_eq
abbrev qbU:=@List.nodup_cons
abbrev M5:=@List.filter_cons
abbrev M6:=@List.length_drop
abbrev B9:=@Ne.symm
abbrev VT:=@Array.getElem?_replicate
abbrev Vb:=@List.length_singleton
abbrev qb0:=@List.nodup_append
abbrev LS:=@List.drop_drop
abbrev LU:=@List.mapM_cons
abbrev VS:=@Int.eq_ofNat_of_zero_le
abbrev IH:=@Nat.add_assoc
abbrev qb5:=@Bool.or_eq_false_iff
abbrev U8:=@List.pairwise_append
abbrev U9:=@List.range_eq_range'
abbrev PX:=@List.not_mem_nil
abbrev Ic:=@Nat.sub_self
abbrev qca:=@Array.getElem?_setIfInBounds_ne
abbrev Vh:=@Array.toList_append
abbrev R2:=@Bool.not_eq_true'
abbrev Gn:=@Int.le_refl
abbrev M9:=@List.Perm.refl
abbrev VX:=@List.length_filter_le
abbrev qcg:=@List.Pairwise.imp_of_mem
abbrev qch:=@List.length_filterMap_le
abbrev R3:=@Nat.min_eq_right
abbrev Ik:=@Nat.one_mul
abbrev Na:=@Nat.mul_assoc
abbrev LZ:=@List.map_set
abbrev L0:=@Nat.zero_mul
abbrev qcn:=@List.any_eq_true
abbrev Vi:=@List.flatMap_map
abbrev Il:=@Nat.mod_lt
abbrev qcq:=@List.Perm.append_left
abbrev PY:=@List.all_cons
abbrev qcs:=@List.findIdx?_eq_some_iff_getElem
abbrev VY:=@Option.toList_some
abbrev PZ:=@Prod.mk.injEq
abbrev qcv:=@Array.toList_extract
abbrev Ed:=@Prod.ext
abbrev qcx:=@Bool.eq_false_iff
abbrev VZ:=@List.flatten_cons
abbrev Vj:=@List.length_nil
abbrev Vd:=@List.range_succ
abbrev qcB:=@Int.mul_le_mul_of_nonneg_right
abbrev qcC:=@Array.getElem?_push
abbrev R1:=@List.map_take
abbrev qcE:=@List.replicate_succ
abbrev qcF:=@List.take_succ_cons
abbrev VU:=@List.drop_append
abbrev qcH:=@List.take_append_of_le_length
abbrev qcI:=@Array.ext_getElem?
abbrev qcJ:=@List.set_cons_succ
abbrev qcK:=@List.length_replicate
abbrev VV:=@Nat.le_max_left
abbrev qcM:=@List.foldl_append
abbrev Ve:=@List.map_drop
abbrev qcO:=@Array.getElem?_append_left
abbrev qcP:=@List.Pairwise.filter
abbrev qcQ:=@List.contains_eq_mem
abbrev qcR:=@List.mem_of_find?_eq_some
abbrev VW:=@List.take_zero
abbrev qcT:=@List.nodup_range
abbrev qcU:=@List.drop_succ_cons
abbrev qcV:=@List.map_eq_nil_iff
abbrev Vf:=@Nat.add_zero
abbrev Vg:=@Nat.min_comm
abbrev qcY:=@Array.all_eq_true'
abbrev qcZ:=@Array.foldl_toList
abbrev qc0:=@Bool.not_eq_false'
abbrev qc1:=@List.set_cons_zero
abbrev qc2:=@Nat.add_sub_cancel
abbrev qc3:=@Nat.add_sub_cancel_left
abbrev qc4:=@Nat.lt_of_lt_of_le
abbrev qc5:=@List.sublist_cons_self
abbrev qc6:=@Int.toNat_natCast
abbrev qc7:=@Nat.lt_trichotomy
abbrev Vc:=@Nat.mul_one
abbrev qc9:=@Array.getElem?_modify
abbrev qda:=@Array.getElem?_toList
abbrev qdb:=@Array.mem_of_getElem?
abbrev qdc:=@Int.ofNat_le
abbrev qdd:=@List.Pairwise.and_mem
abbrev qde:=@List.filterMap_append
abbrev qdf:=@List.pairwise_flatMap
abbrev qdg:=@List.perm_append_comm
abbrev qdh:=@Nat.le_of_ble_eq_true
abbrev V0:=@Nat.le_total
abbrev qdj:=@List.getElem_mem
abbrev qdk:=@List.range'_succ
abbrev qdl:=@List.take_append
abbrev qdm:=@Nat.le_max_right
abbrev qdn:=@Nat.max_eq_right
abbrev qdo:=@Option.getD_none
abbrev qdp:=@List.getElem?_append
abbrev qdq:=@List.map_eq_cons_iff
abbrev qdr:=@List.set_append_left
abbrev qds:=@Bool.true_and
abbrev qdt:=@Array.length_toList
abbrev qdu:=@Array.toList_zipIdx
abbrev qdv:=@List.filter_eq_self
abbrev qdw:=@List.filter_nil
abbrev qdx:=@Nat.div_le_self
abbrev qdy:=@Option.pure_def
abbrev qdz:=@Int.tmod_eq_emod_of_nonneg
abbrev qdA:=@List.exists_cons_of_ne_nil
abbrev qdB:=@List.perm_ext_iff_of_nodup
abbrev qdC:=@List.filter_append
abbrev qdD:=@List.find?_eq_none
abbrev qdE:=@Nat.eq_zero_or_pos
abbrev qdF:=@Prod.ext_iff
abbrev qdG:=@Array.mapM_eq_mapM_toList
abbrev qdH:=@List.getElem?_eq_none_iff
abbrev qdI:=@List.getElem?_zip_eq_some
abbrev qdJ:=@List.any_eq_false
abbrev qdK:=@List.filter_congr
abbrev qdL:=@List.getElem?_take_of_lt
abbrev qdM:=@List.length_range
abbrev qdN:=@Bool.false_or
abbrev qdO:=@List.idxOf?_eq_none_iff
abbrev qdP:=@List.mapM_nil
abbrev qdQ:=@List.take_add
abbrev qdR:=@List.flatMap_def
abbrev qdS:=@List.prefix_refl
abbrev qdT:=@Int.natCast_add
abbrev qdU:=@Int.natCast_mul
abbrev qdV:=@Int.natCast_one
abbrev qdW:=@List.all_append
abbrev qdX:=@List.append_inj
abbrev qdY:=@List.forIn_cons
abbrev qdZ:=@List.range_zero
abbrev qd0:=@List.set_append
abbrev qd1:=@List.set_set
abbrev qd2:=@Nat.not_lt_zero
abbrev qd3:=@Bool.false_and
abbrev qd4:=@Nat.mul_le_mul
abbrev qd5:=@List.map_id
abbrev qd6:=@Bool.and_true
abbrev qd7:=@List.sum_cons
abbrev qd8:=@Nat.mod_le
abbrev BQ:=@decide_eq_true_eq
abbrev Ch:=@decide_eq_false
abbrev BJ:=@decide_eq_true
abbrev mc:=@if_pos
abbrev ra:=@if_neg
end Go
noncomputable section
namespace Go.Am
def poison:Value:=.tuple #[.tuple #[]]
def scalar:Value->Bool
 | .bool _=>true
 | .int _ _=>true
 | .string _=>true
 | .pointer none=>true
 | .map none=>true
 | .nilFunc=>true
 | .nilIface=>true
 | .slice none 0 0=>true
 |_=>false
def fL:Value->Bool
 | .agg cs=>cs.toList.all scalar
 |v=>scalar v
def flat:Value->Bool
 | .tuple vs=>vs.size != 1&&vs.toList.all fL
 |v=>fL v
abbrev _root_.Tj:=Array Value
def tk(cs:Tj):Option IntKind:=
 match cs.toList with
 | .int k _ :: _=>some k
 |_=>none
def iY:Value->Bool
 | .tuple vs=>match vs.toList with
  | [.agg cs]=>(tk cs).isSome
  |_=>false
 |_=>false
def fT{vs:Tj}(h:iY (.tuple vs)=true):vs.size=1:=by
 simp only[iY]at h;split at h
 next e=>rw[←qdt,e];rfl
 ·cases h
class Val where
 num:Tj->Int
class Glo where
 glob:Nat->Nat×Nat
instance (priority := 10) glo0 : Glo := ⟨λ_ => (0, 0)⟩
def gB:Nat:=1000000
def BV [Glo](g:Nat):Nat:=if g<gB then g else(Glo.glob g).1
def CF [Glo](g:Nat):Nat:=if g<gB then 0 else(Glo.glob g).2
def FD [Glo]{g:Nat}(h:Nat.blt g gB=true):BV g=g:=mc (by rw[BW]at h;exact h)
def FE [Glo]{g:Nat}(h:Nat.blt g gB=true):CF g=0:=mc (by rw[BW]at h;exact h)
abbrev _root_.TD:=Program
def AE{α:Type}(P:TD):Sem α->Option α
 | .pure a=>some a
 | .program k=>AE P (k P)
 |_=>none
def gr{α:Type}{P:TD}{s:Sem α}{a:α}(h:AE P s=some a)(w:World):s.run P w = .ok a w:=by
 induction s with
 |pure b=>simp[AE]at h;subst h;rfl
 |program k c=>exact c P h
 |_=>simp[AE]at h
structure ALoop where
 state:LoopState
 pending:Option Code
 fn:FuncId
 tmps:List Value
 params:List Tmp
 assign:Code
 body:Code
abbrev _root_.Th:=List MapEntry
abbrev _root_.Tk:=List Value
inductive HObj where
 |cells (vs:Tk) (esz:Nat) (rw:Bool)
 |map (es:Th) (clock:Nat)
 |loop (l:ALoop)
 |siter (s:ByteArray) (pos:Nat)
 |dead
def HObj.owned:HObj->Bool
 | .cells _ _ rw=>rw
 | .dead=>false
 |_=>true
def HObj.alive:HObj->Bool
 | .dead=>false
 |_=>true
structure St where
 tmps:List Value
 loc:List (Option (Tk))
 heap:List HObj
abbrev _root_.TK:=FuncId
structure Cfg where
 P:Program
 G:Nat->Option (Tk)
 opq:TK->Bool:=λ_=>false   -- functions into whose code nobody looks
 pts:TK->List Nat        -- of each temporary that points into a local row: that row's number+2;1: into a known package-level variable;0: anything else
abbrev _root_.TG:=Operand
def ke(a:Tk):TG->Value
 | .tmp t=>a.getD t undef
 | .const v=>if flat v then v else poison
 | .global g=>if Nat.blt g gB then .pointer (some ⟨g,0,some 1⟩)else poison
 | .func f=>.func (.func f) #[] #[]
abbrev _root_.Ti:=Option Value
abbrev _root_.Tp:=List HObj
inductive Eff where
 |val (v:Value)
 |lnew (s:Nat) (vs:Tk)
 |lget (s:Nat) (f:Tk->Ti)
 |lset (s:Nat) (f:Tk->Option (Tk))
 |hget (f:Tp->Ti)
 |hop (f:Tp->Option (List HObj×Value))
 |call (f:TK) (args:Tk)
 |yield (l:Nat) (args:Tk)
abbrev _root_.Tn:=Option Tmp
def St.put(σ:St)(dst:Tn)(v:Value):St:=
 match dst with
 |some d=>{ σ with tmps:=σ.tmps.set d v }
 |none=>σ
def aY(σ:St):Eff->Option (St×Value)
 | .val v=>some (σ,v)
 | .lnew s vs=>match σ.loc[s]? with
  |some none=>some ({ σ with loc:=σ.loc.set s (some vs) },.pointer (some ⟨s,0,some 0⟩))
  |_=>none
 | .lget s f=>match σ.loc[s]? with
  |some (some vs)=>(f vs).map λv=>(σ,v)
  |_=>none
 | .lset s f=>match σ.loc[s]? with
  |some (some vs)=>(f vs).map λa=>({ σ with loc:=σ.loc.set s (some a) },undef)
  |_=>none
 | .hget f=>(f σ.heap).map λv=>(σ,v)
 | .hop f=>(f σ.heap).map λp=>({ σ with heap:=p.1 },p.2)
 | .call .. => none
 | .yield .. => none
def cut(vs:Tk)(off n:Nat):Option (Tk):=
 if off+n<=vs.length then some ((vs.drop off).take n)else none
abbrev _root_.TJ:=TypeId
def dv(P:TD)(t:TJ)(vs:Tk)(off:Nat):Ti:=
 match P.underlying t with
 |some (.struct _)|some (.array _ _)=>(cut vs off (P.cellsOf t)).map λa=>.agg a.toArray
 |some _=>vs[off]?
 |none=>none
def splice(vs:Tk)(off:Nat)(new:Tk):Option (Tk):=
 if off+new.length<=vs.length then some (vs.take off++new++vs.drop (off+new.length))else none
def aA:Value->Bool
 | .tuple vs=>!iY (.tuple vs)
 |_=>false
def kN(i:TypeInfo):Ti:=
 match i.zero with
 |some z=>if z.cells.size=i.size/\flat z=true/\aA z=false then some z else none
 |none=>none
def eE(P:TD)(t:TJ):Ti:=(P.info? t).bind kN
def aX:Value->Bool
 | .pointer (some a)=>a.spot != some 0
 | .slice (some a) _ _=>a.spot != some 0
 | .tuple vs=>iY (.tuple vs)
 | .agg _=>false
 | .iface _ _=>false
 | .func _ _ _=>false
 |_=>true
def bh:Value->Bool
 | .agg cs=>cs.toList.all aX
 | .func _ a b=>a.toList.all aX&&b.toList.all aX
 | .tuple vs=>vs.size==0||iY (.tuple vs)
 |v=>aX v
def aR:Value->Bool
 | .agg cs=>cs.toList.all bh
 | .func _ a b=>a.toList.all bh&&b.toList.all bh
 | .tuple vs=>vs.toList.all bh
 |v=>bh v
def noLoc:Value->Bool
 | .agg cs=>cs.toList.all aR
 | .func _ a b=>a.toList.all aR&&b.toList.all aR
 | .tuple vs=>vs.toList.all aR
 |v=>aR v
def aJ:Value->Bool
 | .agg _=>false
 | .tuple vs=>iY (.tuple vs)
 |_=>true
def bg(v:Value):Bool:=noLoc v&&aJ v
def eP(P:TD)(t:TJ)(v:Value)(vs:Tk)(off:Nat):Option (Tk):=
 if v.cells.size=P.cellsOf t/\(P.info? t).isSome then
  if v.cells.toList.all bg then splice vs off v.cells.toList else none
 else none
abbrev _root_.To:=Option Nat
def qs(esz:Nat):To:=some (esz+10)
def fj(H:Tp)(id:Nat):Option (Tk):=
 match H[id]? with
 |some (.cells a _ _)=>some a
 |_=>none
def dS(C:Cfg)(H:Tp)(esz:Nat):Value->Option (List Value×Nat)
 | .slice none 0 0=>some ([],0)
 | .slice (some a) len _=>
  if a.spot=some 1 then((C.G a.block).bind λvs=>cut vs a.off (len*esz)).map λx=>(x,len)
  else if a.spot=qs esz then
   match H[a.block]? with
   |some (.cells vs e _)=>if e=esz then(cut vs a.off (len*esz)).map λx=>(x,len)else none
   |_=>none
  else none
 | .string s=>if esz=1 then some (s.data.toList.map λb=>.int .u8 b.toNat,s.size)else none
 |_=>none
def bb(need bytes:Nat):Bool:=Nat.ble need 140737488355328&&Nat.ble (need*bytes) 140737488355328
def fK(C:Cfg)(k:TJ)(s x:Value)(H:Tp):Option (List HObj×Value):=
 match C.P.underlying k with
 |some (.slice f)=>
  match C.P.info? f with
  |none=>none
  |some b=>
  if b.size=0 then none else
  if (kN b).isNone then none else
  match dS C H b.size x with
  |none=>none
  |some (d,n)=>
   match s with
   | .slice none 0 0=>
    if n=0 then some (H,.slice none 0 0)
    else if bb n b.bytes then some (H++[.cells d b.size true],.slice (some ⟨H.length,0,qs b.size⟩) n 0)else none
   | .slice (some a) c j=>
    if a.spot≠qs b.size then none else
    match H[a.block]? with
    |some (.cells i e rw)=>
     if e≠b.size then none else
     match cut i a.off (c*b.size)with
     |none=>none
     |some g=>
      match j with
      |0=>
       if n=0 then some (H,.slice (some a) c 0)
       else if rw&&bb (c+n) b.bytes then
        some (H.set a.block .dead++[.cells (g++d) b.size true],.slice (some ⟨H.length,0,qs b.size⟩) (c+n) 0)
       else none
      |cap+1=>
       if c+n<=cap then
        if rw then(splice i (a.off+c*b.size) d).map λh=>(H.set a.block (.cells h e true),.slice (some a) (c+n) (cap+1))
        else if n=0 then some (H,.slice (some a) c (cap+1))else none
       else if bb (c+n) b.bytes then
        some (H++[.cells (g++d) b.size true],.slice (some ⟨H.length,0,qs b.size⟩) (c+n) 0)
       else none
    |_=>none
   |_=>none
 |_=>none
def gQ:Ti->Option (Option Int)
 |none=>some none
 |some (.int _ n)=>some (some n)
 |_=>none
def bT(cx l:Nat):Option Int->Nat
 |none=>cx - l
 |some m=>m.toNat - l+1
def cW(len cx:Nat)(a:Option Int):Option Int->Prop
 |none=>a.getD len<=(len:Int)∨(0<cx/\a.getD len<(cx:Int))
 |some m=>a.isSome=true/\a.getD len<=m/\(m<=(len:Int)∨(0<cx/\m<(cx:Int)))
instance (len cx : Nat) (hi mx : Option Int) : Decidable (cW len cx hi mx) := by
 cases mx<;>(unfold cW;infer_instance)
def yr(C:Cfg)(t:TJ)(x:Value)(d e f:Ti):Ti:=
 match gQ d,gQ e,gQ f with
 |some d,some e,some f=>
  match C.P.underlying t,x with
  |some (.slice b),.slice (some a) c g=>
   if C.P.cellsOf b=0 then none else
   if a.spot≠some 1/\a.spot≠qs (C.P.cellsOf b)then none else
   if 0<=d.getD 0/\d.getD 0<=e.getD c/\cW c g e f then
    some (.slice (some { a with off:=a.off+(d.getD 0).toNat*C.P.cellsOf b }) ((e.getD c).toNat - (d.getD 0).toNat) (bT g (d.getD 0).toNat f))
   else none
  |_,_=>none
 |_,_,_=>none
def kE(C:Cfg)(t:TJ)(a:Addr)(c b d:Ti)(H:Tp):Ti:=none
def intOf:Value->Option Int
 | .int _ n=>some n
 |_=>none
def fR(C:Cfg)(t:TJ)(x:Value)(f:Nat):Ti:=
 match C.P.underlying t,x with
 |some (.struct c),.pointer (some a)=>
  match c[f]? with
  |some b=>if C.P.cellsOf b.type=0 then none else some (.pointer (some { a with off:=a.off+b.offset }))
  |none=>none
 |_,_=>none
def eS(C:Cfg)(t:TJ)(x i:Value):Ti:=
 match intOf i with
 |none=>none
 |some i=>
  match C.P.underlying t,x with
  |some (.array c b),.pointer (some a)=>
   if C.P.cellsOf b=0 then none else
   if 0<=i/\i<(c:Int)then some (.pointer (some { a with off:=a.off+i.toNat*C.P.cellsOf b }))else none
  |some (.slice b),.slice (some a) c _=>
   if C.P.cellsOf b=0 then none else
   if 0<=i/\i<(c:Int)then some (.pointer (some ⟨a.block,a.off+i.toNat*C.P.cellsOf b,if a.spot=some 1 then some 1 else none⟩))else none
  |_,_=>none
def wk(C:Cfg)(t:TJ)(cs:Tj)(off:Nat):Ti:=
 match C.P.underlying t with
 |some (.struct _)|some (.array _ _)=>some (.agg (cs.extract off (off+C.P.cellsOf t)))
 |some _=>cs[off]?
 |none=>none
def ue(C:Cfg)(t:TJ)(x:Value)(f:Nat):Ti:=
 match C.P.underlying t,x with
 |some (.struct c),.agg b=>(c[f]?).bind λa=>wk C a.type b a.offset
 |_,_=>none
def lZ(C:Cfg)(t:TJ)(x i:Value):Ti:=
 match intOf i with
 |none=>none
 |some i=>
  match C.P.underlying t,x with
  |some (.array c a),.agg d=>if 0<=i/\i<(c:Int)then wk C a d (i.toNat*C.P.cellsOf a)else none
  |some .string,.string s=>if 0<=i then(s[i.toNat]?).map λb=>.int .u8 b.toNat else none
  |_,_=>none
def ns(P:TD)(t:TJ):Option (Nat->Option (Nat×Nat)):=
 match P.underlying t with
 |some (.struct a)=>
  if a.all λf=>(P.info? f.type).isSome then some λi=>(a[i]?).map λf=>(f.offset,P.cellsOf f.type)else none
 |some (.array _ e)=>if (P.info? e).isSome then some λi=>some (i*P.cellsOf e,P.cellsOf e)else none
 |_=>none
def tJ(C:Cfg)(t:TJ)(a:List (Nat×Value)):Ti:=
 match eE C.P t,ns C.P t with
 |some z,some pl=>(Instr.fill pl z.cells a).map .agg
 |_,_=>none
def bk(z:Tk)(n:Nat):Tk:=(List.replicate n z).flatten
def eY(C:Cfg)(t:TJ)(len:Nat)(b:List (Nat×Value)):Option (Nat×List Value):=
 match C.P.underlying t with
 |some (.slice e)=>
  match C.P.info? e with
  |some a=>
   if a.size=0 then none else
   if len*a.size > 16777216 then none else
   match kN a with
   |some z=>
    (Instr.fill (λi=>some (i*a.size,a.size)) (bk z.cells.toList len).toArray b).map λc=>(a.size,c.toList)
   |none=>none
  |none=>none
 |_=>none
def dx(C:Cfg)(t:TJ)(len cap:Value)(H:Tp):Option (List HObj×Value):=
 match intOf len,intOf cap,C.P.underlying t with
 |some l,some c,some (.slice e)=>
  match C.P.info? e with
  |some a=>
   if a.size=0 then none else
   match kN a with
   |some z=>
    if 0<=l/\l<=c/\c<=1048576/\a.bytes<=4096 then
     some (H++[.cells (bk z.cells.toList c.toNat) a.size true],.slice (some ⟨H.length,0,qs a.size⟩) l.toNat (c.toNat+1))
    else none
   |none=>none
  |none=>none
 |_,_,_=>none
def bf:Value->Option Bool
 | .slice none 0 0=>some true
 | .slice (some _) _ _=>some false
 | .map none=>some true
 | .map (some _)=>some false
 | .nilFunc=>some true
 | .func .. => some false
 | .pointer none=>some true
 | .pointer (some _)=>some false
 |_=>none
def bA(e:MapEntry):MapEntry:={ key:=e.key,val:=undef,born:=0 }
def rQ(P:TD)(kt:TJ)(k:Value)(a:Th):Option (To):=
 (AE P (Instr.findKey kt k (a.map bA))).map λr=>r.map (·.1)
def iZ(P:TD)(kt:TJ)(k:Value):Bool:=
 fL k&&(AE P (Instr.checkKey true 10000 kt k)).isSome&&(AE P (Instr.checkKey false 10000 kt k)).isSome&&(AE P (Op.equal kt k k)).any id
def fF(a:Th)(i:Nat):Ti:=(a[i]?).map (·.val)
def A8(H:Tp)(id:Nat):Option (List MapEntry×Nat):=
 match H[id]? with
 |some (.map a c)=>some (a,c)
 |_=>none
def dI(C:Cfg)(t:TJ)(m k:Value)(ok:Bool)(H:Tp):Ti:=
 match C.P.underlying t with
 |some (.map b c)=>
  if !iZ C.P b k then none else
  match eE C.P c with
  |none=>none
  |some z=>
   match m with
   | .map none=>some (if ok then .tuple #[z,.bool false]else z)
   | .map (some id)=>
    match A8 H id with
    |none=>none
    |some (a,_)=>
     match rQ C.P b k a with
     |none=>none
     |some none=>some (if ok then .tuple #[z,.bool false]else z)
     |some (some i)=>(fF a i).map λv=>if ok then .tuple #[v,.bool true]else v
   |_=>none
 |_=>none
def cH(C:Cfg)(t:TJ)(m k v:Value)(H:Tp):Option (List HObj×Value):=
 match C.P.underlying t,m with
 |some (.map b _),.map (some id)=>
  if !(iZ C.P b k&&noLoc v && !aA v)then none else
  match A8 H id with
  |none=>none
  |some (a,c)=>
   match rQ C.P b k a with
   |none=>none
   |some none=>some (H.set id (.map (a++[{ key:=k,val:=v,born:=c }]) (c+1)),undef)
   |some (some i)=>
    if (a[i]?).all (λe=>Instr.sameBits 10000 e.key k)then some (H.set id (.map (a.modify i λe=>{ e with key:=k,val:=v }) c),undef)else none
 |_,_=>none
def iw(C:Cfg)(t:TJ)(m k:Value)(H:Tp):Option (List HObj×Value):=none
def fg(m st v:Value)(H:Tp):Option (List HObj×Value):=none
def nP(C:Cfg)(t:TJ)(m k:Value)(H:Tp):Option (List HObj×Value):=none
abbrev _root_.Tx:=List Nat
def mE(pts:Tx):TG->Nat
 | .tmp t=>pts.getD t 0
 | .global _=>1
 |_=>0
def iq:Value->Option (Nat×Nat)
 | .pointer (some a)=>if a.spot.isNone then some (a.block,a.off)else none
 |_=>none
def gi:Value->Option (Nat×Nat)
 | .pointer (some a)=>if a.spot=some 1 then some (a.block,a.off)else none
 |_=>none
def jc(s:Nat):Value->Option Nat
 | .pointer (some a)=>if a.spot=some 0/\a.block=s then some a.off else none
 |_=>none
def dV(C:Cfg)(pts:Tx)(t:TJ)(a:TG)(v:Value):Option Eff:=
 match mE pts a with
 |0=>match iq v with
  |some p=>some (.hget λH=>(fj H p.1).bind λb=>dv C.P t b p.2)
  |none=>(gi v).map λp=>.hget λ_=>(C.G p.1).bind λb=>dv C.P t b p.2
 |1=>(gi v).bind λp=>((C.G p.1).bind λb=>dv C.P t b p.2).map .val
 |s+2=>(jc s v).map λc=>.lget s λb=>dv C.P t b c
def jm(C:Cfg)(t:TJ)(id off:Nat)(x:Value)(H:Tp):Option (List HObj×Value):=
 match H[id]? with
 |some (.cells b e true)=>(eP C.P t x b off).map λa=>(H.set id (.cells a e true),undef)
 |_=>none
def eN(C:Cfg)(pts:Tx)(t:TJ)(a:TG)(v x:Value):Option Eff:=
 if aA x then none else
 match mE pts a with
 |0=>(iq v).map λp=>.hop (jm C t p.1 p.2 x)
 |1=>none
 |s+2=>(jc s v).map λb=>.lset s λc=>eP C.P t x c b
def lK(P:TD)(t:TJ):Nat:=
 match P.underlying t with
 |some (.array _ e)=>P.cellsOf e
 |_=>P.cellsOf t
def cI(C:Cfg)(pts:Tx)(dst:Tn)(t:TJ)(v:Value):Option Eff:=
 if aA v then none else
 match dst with
 |none=>none
 |some d=>
  if !(v.cells.toList.all bg)then none
  else if pts.getD d 0=d+2 then some (.lnew d v.cells.toList)
  else
   some (.hop λH=>some (H++[.cells v.cells.toList (lK C.P t) true],.pointer (some ⟨H.length,0,none⟩)))
abbrev _root_.Tf:=Operand->Value
def cJ(C:Cfg)(ρ:Tf)(o:Oper):Option Eff:=
 if o.op.operands.toList.all (λx=>flat (ρ x))then
  match AE C.P (execOp ρ o)with
  |some (.value v)=>if flat v then some (.val v)else none
  |_=>none
 else none
def oR(a:Ti)(b:Option Eff):Option Eff:=
 match a with
 |some v=>some (.val v)
 |none=>b
def lm(x y:Value):Option Bool:=
 match bf x,bf y with
 |some true,some b=>some b
 |some b,some true=>some b
 |_,_=>none
def du:Value->Nat
 | .slice .. => 1
 | .map _=>2
 | .nilFunc=>3
 | .func .. => 3
 | .pointer _=>4
 |_=>0
def lq:TypeDesc->Nat
 | .slice _=>1
 | .map _ _=>2
 | .func .. => 3
 | .pointer _=>4
 |_=>100
def sE(P:TD)(t:TJ)(x y:Value):Bool:=
 match P.underlying t with
 |some d=>lq d==du x&&lq d==du y
 |none=>false
def DO(C:Cfg)(t:TJ)(d x:Value)(H:Tp):Option (List HObj×Value):=none
def tO(C:Cfg)(t:TJ)(x:Value)(H:Tp):Option (List HObj×Value):=none
def bc(C:Cfg)(ρ:Tf)(b:Builtin)(args:Tk)(argTypes:Array TypeId)(o:Oper):Option Eff:=
 match b,args,argTypes[0]? with
 | .append,[s,x],some t=>if argTypes[1]?.any (λu=>(C.P.underlying u) matches some (.int _)|none)||argTypes[1]?.isNone then none else some (.hop (fK C t s x))
 | .len,[x],some t=>
  match C.P.underlying t,x with
  |some (.slice _),.slice _ n _=>some (.val (.int .i64 n))
  |some (.map _ _),.map (some id)=>some (.hget λH=>(A8 H id).map λp=>.int .i64 p.1.length)
  |some (.array n _),_=>some (.val (.int .i64 n))
  |_,_=>cJ C ρ o
 | .cap,[x],some t=>
  match C.P.underlying t,x with
  |some (.slice _),.slice (some _) _ (n+1)=>some (.val (.int .i64 n))
  |some (.slice _),.slice none 0 0=>some (.val (.int .i64 0))
  |some (.array n _),_=>some (.val (.int .i64 n))
  |_,_=>none
 | .copy,[d,x],some t=>some (.hop (DO C t d x))
 | .delete,[m,k],some t=>some (.hop (nP C t m k))
 | .clear,[x],some t=>some (.hop (tO C t x))
 |_,_,_=>cJ C ρ o
def ge(C:Cfg)(ρ:Tf)(c:Call)(o:Oper):Option Eff:=
 let a:=c.args.toList.map ρ
 match c.callee with
 | .builtin b=>bc C ρ b a c.argTypes o
 | .invoke _ _=>none
 | .value f=>
  if !(a.all noLoc)then none else
  match ρ f with
  | .func (.func g) first d=>if noLoc (.func (.func g) first d)then some (.call g (first.toList++a++d.toList))else none
  | .func (.yield l) first d=>if first.size=0/\d.size=0 then some (.yield l a)else none
  |_=>none
def oA(C:Cfg)(t:TJ):Ti->Bool
 |none=>true
 |some v=>(intOf v).isSome&&((C.P.underlying t) matches some (.map _ _))
def aq(C:Cfg)(pts:Tx)(ρ:Tf)(o:Oper):Option Eff:=
 match o.op with
 | .move x=>some (.val (ρ x))
 | .assign x=>some (.val (ρ x))
 | .pick c a b=>match ρ c with
  | .bool q=>some (.val (if q then ρ a else ρ b))
  |_=>none
 | .alloc t=>(eE C.P t).bind λz=>cI C pts o.dst t z
 | .box t x=>cI C pts o.dst t (ρ x)
 | .build t d=>if d.toList.all (λp=>!aA (ρ p.2))then(tJ C t (d.toList.map λp=>(p.1,ρ p.2))).map .val else none
 | .buildSlice t n d=>
  if (d.toList.all λp=>(ρ p.2).cells.toList.all bg)then
   (eY C t n (d.toList.map λp=>(p.1,ρ p.2))).map λr=>
    .hop λH=>some (H++[.cells r.2 r.1 true],.slice (some ⟨H.length,0,qs r.1⟩) n (n+1))
  else none
 | .load t a=>dV C pts t a (ρ a)
 | .store t a x=>eN C pts t a (ρ a) (ρ x)
 | .nilCheck x=>match ρ x with
  | .pointer (some a)=>some (.val (.pointer (some a)))
  | .func (.func f) a b=>some (.val (.func (.func f) a b))
  | .func (.yield f) a b=>some (.val (.func (.yield f) a b))
  |_=>none
 | .binOp A t x y _=>
  match A with
  | .eql=>match lm (ρ x) (ρ y)with
   |some b=>if sE C.P t (ρ x) (ρ y)then some (.val (.bool b))else none
   |none=>cJ C ρ o
  | .neq=>match lm (ρ x) (ρ y)with
   |some b=>if sE C.P t (ρ x) (ρ y)then some (.val (.bool !b))else none
   |none=>cJ C ρ o
  |_=>cJ C ρ o
 | .makeFunc fn first e=>match fn with
  | .yield _=>none
  |fn=>some (.val (.func fn (first.map ρ) (e.map ρ)))
 | .makeMap t r=>
  if oA C t (r.map ρ)then
   some (.hop λH=>some (H++[.map [] 0],.map (some H.length)))
  else none
 | .makeSlice t l c=>some (.hop (dx C t (ρ l) (ρ c)))
 | .slice t x h g j=>
  match ρ x with
  | .pointer (some a)=>
   if a.spot=some 1 then(kE C t a (h.map ρ) (g.map ρ) (j.map ρ) []).map .val
   else some (.hget (kE C t a (h.map ρ) (g.map ρ) (j.map ρ)))
  |x=>oR (yr C t x (h.map ρ) (g.map ρ) (j.map ρ)) (cJ C ρ o)
 | .fieldAddr t x f=>(fR C t (ρ x) f).map .val
 | .indexAddr t x i=>(eS C t (ρ x) (ρ i)).map .val
 | .field t x f=>(ue C t (ρ x) f).map .val
 | .index t x i=>(lZ C t (ρ x) (ρ i)).map .val
 | .lookup t m k u=>match ρ m with
  | .map none=>(dI C t (.map none) (ρ k) u []).map .val
  |m=>some (.hget (dI C t m (ρ k) u))
 | .mapUpdate t m k v=>some (.hop (cH C t (ρ m) (ρ k) (ρ v)))
 | .insert t m k v=>some (.hop (cH C t (ρ m) (ρ k) (ρ v)))
 | .mapEntry t m k=>some (.hop (iw C t (ρ m) (ρ k)))
 | .entryStore _ m s v=>some (.hop (fg (ρ m) (ρ s) (ρ v)))
 | .extract t i=>match ρ t with
  | .tuple w=>if w.size<=1 then none else(w[i]?).map .val
  |_=>none
 | .call c=>ge C ρ c o
 | .unOp .. => cJ C ρ o
 | .convert .. => cJ C ρ o
 |_=>none
def cT{α:Type}{f:α->Bool}{l:List α}(h:l.all f=true){i:Nat}{x:α}(a:l[i]?=some x):f x=true:=
 qac.1 h x (Ap a)
def ey{c:Value}(h:aJ c=true):c.cells = #[c]:=by
 cases c<;>first|rfl|(simp[aJ]at h)
section
variable [Val]
def CT:Value->Value
 | .tuple vs=>match vs.toList with
  | [.agg cs]=>match tk cs with
   |some k=>.int k (Val.num cs)
   |none=>.tuple vs
  |_=>.tuple vs
 |v=>v
def Cu:Value->Value
 | .agg cs=>.agg (cs.map CT)
 |v=>CT v
def jd(v:Value):Bool:=scalar v||iY v
def plain:Value->Bool
 | .agg cs=>cs.toList.all jd
 |v=>jd v
def Kv:Op->Bool
 | .select .. => true
 | .defer _=>true
 |_=>false
def kI(C:Cfg)(a:Tk)(o:Oper)(v:Value):Prop:=
 Kv o.op=false/\o.op.operands.toList.all (λx=>plain (ke a x))=true/\plain v=true/\
  ∀w,(execOp (λx=>Cu (ke a x)) o).run C.P w = .ok (.value (Cu v)) w
def fJ(σ σ':St):Prop:=
 σ'.loc=σ.loc/\σ'.heap=σ.heap/\σ'.tmps.length=σ.tmps.length/\
  ∀(i:Nat) x y,σ.tmps[i]?=some x->σ'.tmps[i]?=some y->y=x∨(plain x=true/\plain y=true/\Cu x=Cu y)
abbrev _root_.Tl:=Array Oper
def cw(ops:Tl)(a:Tk)(o:Oper):Option Bool:=
 match o.guard with
 |none=>some true
 |some (j,c)=>
  match ((ops[j]?).bind (·.dst)).bind (a[·]?)with
  |some (.bool b)=>some (b==c)
  |some (.tuple d)=>if d.size=1 then none else some false
  |_=>some false
structure Below where
 call:TK->Tk->Tp->Value->Tp->Prop
 yield:Nat->Tk->Tp->Value->Tp->Prop
def lV(B:Below)(e:Eff)(dst:Tn)(σ σ':St):Prop:=
 match e with
 | .call f args=>∃r H,B.call f args σ.heap r H/\σ'=({ σ with heap:=H }:St).put dst r
 | .yield l args=>∃r H,B.yield l args σ.heap r H/\σ'=({ σ with heap:=H }:St).put dst r
 |e=>∃p,aY σ e=some p/\σ'=p.1.put dst p.2
def aj(C:Cfg)(B:Below)(pts:Tx)(ops:Tl)(i:Nat)(σ σ':St):Prop:=
 match ops[i]? with
 |none=>σ'=σ
 |some o=>
  match cw ops σ.tmps o with
  |none=>False
  |some false=>σ'=σ.put o.dst undef
  |some true=>(∃e,aq C pts (ke σ.tmps) o=some e/\lV B e o.dst σ σ')∨(∃v,kI C σ.tmps o v/\σ'=σ.put o.dst v)
def bJ(C:Cfg)(B:Below)(pts:Tx)(ops:Tl):Tx->St->St->Prop
 | [],σ,σ'=>σ'=σ
 |i :: l,σ,σ'=>∃σ₁,aj C B pts ops i σ σ₁/\bJ C B pts ops l σ₁ σ'
def fo(C:Cfg)(B:Below)(pts:Tx)(ops:Tl):Tx->St->St->Prop
 | [],σ,σ'=>σ'=σ
 |i :: l,σ,σ'=>∃σ₀ σ₁,fJ σ σ₀/\aj C B pts ops i σ₀ σ₁/\fo C B pts ops l σ₁ σ'
inductive Fresh:(Nat->Value)->Prop
 |ptr:Fresh λn=>.pointer (some ⟨n,0,none⟩)
 |slice (e l c:Nat):Fresh λn=>.slice (some ⟨n,0,qs e⟩) l c
 |map:Fresh λn=>.map (some n)
def dZ(C:Cfg)(B:Below)(pts:Tx)(ops:Tl)(b:Nat->To)(i:Nat)(σ σ':St):Prop:=
 match b i with
 |none=>aj C B pts ops i σ σ'
 |some k=>∃o f a x mk,ops[i]?=some o/\cw ops σ.tmps o=some true/\aq C pts (ke σ.tmps) o=some (.hop f)/\f σ.heap=some (a++[x],mk σ.heap.length)/\
   a.length=σ.heap.length/\a[k]?=some .dead/\Fresh mk/\σ'=({ σ with heap:=a.set k x }:St).put o.dst (mk k)
def iS(C:Cfg)(B:Below)(pts:Tx)(ops:Tl)(a:Nat->To):Tx->St->St->Prop
 | [],σ,σ'=>σ'=σ
 |i :: l,σ,σ'=>i∉l/\∃σ₁,dZ C B pts ops a i σ σ₁/\iS C B pts ops a l σ₁ σ'
def St.pad(σ:St)(n:Nat):St:={ σ with heap:=σ.heap++List.replicate n .dead }
def dt(pts:Tx)(o:Oper):Bool:=
 match o.op with
 | .buildSlice _ _ _ | .makeMap _ _ | .makeSlice _ _ _=>true
 | .alloc _ | .box _ _=>match o.dst with
  |some d=>!Nat.beq (pts.getD d 0) (d+2)
  |none=>false
 | .call c=>match c.callee with
  | .builtin .append=>true
  |_=>false
 |_=>false
def eD(C:Cfg)(B:Below)(pts:Tx)(ops:Tl)(σ σ':St):Prop:=
 (∀t,bJ C B pts ops (Region.linearise .any ops t) σ σ')∨
 ∃a n,ops.toList.any (dt pts)=true/\(∀i k,a i=some k->σ.heap.length<=k/\k<σ.heap.length+n)/\(∀i j k,a i=some k->a j=some k->i=j)/\
  ∀t,iS C B pts ops a (Region.linearise .any ops t) (σ.pad n) σ'
def aQ(pts:Tx):Code->List Nat
 | .region _ ops _=>ops.toList.filterMap λo=>
  match o.op,o.dst with
  | .box ..,some d=>if pts.getD d 0=d+2 then some d else none
  | .alloc _,some d=>if pts.getD d 0=d+2 then some d else none
  |_,_=>none
 | .seq a b=>aQ pts a++aQ pts b
 | .cond _ a b=>aQ pts a++aQ pts b
 | .block _ b=>aQ pts b
 | .loop b=>aQ pts b
 | .rangeFunc _ _ a b=>aQ pts a++aQ pts b
 | .scope b=>aQ pts b
 |_=>[]
def jb(b:Tx)(v:Value):Value:=
 match v with
 | .pointer (some a)=>if a.spot=some 0&&b.contains a.block then poison else v
 |v=>if noLoc v then v else poison
def gV(a:Tx):List (Option (Tk))->Nat->List (Option (Tk))
 | [],_=>[]
 |x :: l,i=>(if a.contains i then none else x) :: gV a l (i+1)
def St.clear(σ:St)(a:Tx):St:=
 if a=[]then σ else { σ with tmps:=σ.tmps.map (jb a),loc:=gV a σ.loc 0 }
def fq(C:Cfg)(σ:St):ResultVar->Option Value
 | .tmp t=>some (σ.tmps.getD t undef)
 | .cell a t=>
  match σ.tmps.getD a undef with
  | .pointer (some p)=>
   match p.spot with
   |none=>(fj σ.heap p.block).bind λvs=>dv C.P t vs p.off
   |some 0=>match σ.loc[p.block]? with
    |some (some vs)=>dv C.P t vs p.off
    |_=>none
   |_=>none
  |_=>none
def db(C:Cfg)(σ:St):List ResultVar->Option (Tk)
 | []=>some []
 |r :: a=>match fq C σ r,db C σ a with
  |some v,some vs=>some (v :: vs)
  |_,_=>none
def gq:Tk->Value
 | [v]=>v
 |vs=>.tuple vs.toArray
def lW(a:Func)(args:Tk)(H:Tp):St:=
 { tmps:=args++List.replicate (a.ntmps - args.length) undef,loc:=List.replicate a.ntmps none,heap:=H }
structure Sems extends Below where
 ex:Tx->Code->St->Exit->St->Prop
def jk(id:Nat):Exit->Exit
 | .exit i=>if i=id then .normal else .exit i
 |e=>e
def ob(C:Cfg)(S:Sems)(d:Tx):Code->St->Exit->St->Prop
 | .skip,σ,e,σ'=>e = .normal/\σ'=σ
 | .label _,σ,e,σ'=>e = .normal/\σ'=σ
 | .ret,σ,e,σ'=>e = .ret/\σ'=σ
 | .exit id,σ,e,σ'=>e = .exit id/\σ'=σ
 | .goto _,_,_,_=>False
 | .refuse _,_,_,_=>False
 | .seq a b,σ,e,σ'=>∃e₁ σ₁,S.ex d a σ e₁ σ₁/\((e₁ = .normal/\S.ex d b σ₁ e σ')∨(e₁≠.normal/\e=e₁/\σ'=σ₁))
 | .cond c a b,σ,e,σ'=>∃t,ke σ.tmps c = .bool t/\S.ex d (if t then a else b) σ e σ'
 | .block id b,σ,e,σ'=>∃e₁,S.ex d b σ e₁ σ'/\e=jk id e₁
 | .loop b,σ,e,σ'=>∃e₁ σ₁,S.ex d b (σ.clear (aQ d b)) e₁ σ₁/\((e₁ = .normal/\S.ex d (.loop b) σ₁ e σ')∨(e₁≠.normal/\e=e₁/\σ'=σ₁))
 | .scope b,σ,e,σ'=>S.ex d b σ e σ'
 | .region _ ops f,σ,e,σ'=>e = .normal/\(if f then ∃σ₀,fJ σ σ₀/\eD C S.toBelow d ops σ₀ σ' else fo C S.toBelow d ops (List.range ops.size) σ σ')
 | .rangeFunc ..,_,_,_=>False
def mU(C:Cfg)(S:Sems)(f:TK)(args:Tk)(H:Tp)(r:Value)(H':Tp):Prop:=
 ∃fn b e σ vs,C.P.funcs[f]?=some fn/\fn.body=some b/\((fn.name == "runtime.NumGoroutine")||C.opq f)=false/\
  S.ex (C.pts f) b (lW fn args H) e σ/\(e = .normal∨e = .ret)/\db C σ fn.results.toList=some vs/\
  r=gq vs/\noLoc r=true/\H'=σ.heap
abbrev IY:=FuncId->Tk->Tp->Value->Tp->Prop
def Mb(C:Cfg)(K:IY):Nat->Sems
 |0=>{ call:=K,yield:=λ_ _ _ _ _=>False,ex:=λ_ _ _ _ _=>False }
 |n+1=>{ call:=λf args H r H'=>K f args H r H'∨mU C (Mb C K n) f args H r H',yield:=λ_ _ _ _ _=>False,ex:=ob C (Mb C K n) }
end
structure Pl where
 b:Nat
 o:Nat
 room:Nat
 esz:Nat
abbrev tf:=Nat->Option Nat
abbrev kx:=Nat->Option Pl
def AN:tf:=λ_=>none
section
variable [Val] [Glo]
abbrev _root_.TF:=IntKind
inductive VR(la:tf)(mu:kx):Value->Value->Prop
 |poison (c:Value):VR la mu (.tuple #[.tuple #[]]) c
 |sym {cs:Tj} {k:TF} (h:tk cs=some k):VR la mu (.tuple #[.agg cs]) (.int k (Val.num cs))
 |scalar {v:Value} (h:scalar v=true):VR la mu v v
 |agg {a c:Tj} (hs:a.size=c.size) (h:∀(i:Nat) (x y:Value),a[i]?=some x->c[i]?=some y->VR la mu x y):VR la mu (.agg a) (.agg c)
 |tuple {a c:Tj} (hn:a.size≠1) (hs:a.size=c.size) (h:∀(i:Nat) (x y:Value),a[i]?=some x->c[i]?=some y->VR la mu x y):VR la mu (.tuple a) (.tuple c)
 |func {fn:Fn} {a b a' b':Tj} (hf:∀l,fn≠.yield l) (ha:a.size=a'.size) (hb:b.size=b'.size)
   (h₁:∀(i:Nat) (x y:Value),a[i]?=some x->a'[i]?=some y->VR la mu x y) (h₂:∀(i:Nat) (x y:Value),b[i]?=some x->b'[i]?=some y->VR la mu x y) :
   VR la mu (.func fn a b) (.func fn a' b')
 |yield {l:Nat} {p:Pl} (h:mu l=some p):VR la mu (.func (.yield l) #[] #[]) (.func (.yield p.b) #[] #[])
 |lptr {s off b:Nat} (h:la s=some b):VR la mu (.pointer (some ⟨s,off,some 0⟩)) (.pointer (some ⟨b,off,none⟩))
 |hptr {id off:Nat} {p:Pl} (h:mu id=some p):VR la mu (.pointer (some ⟨id,off,none⟩)) (.pointer (some ⟨p.b,p.o+off,none⟩))
 |gptr {g off:Nat}:VR la mu (.pointer (some ⟨g,off,some 1⟩)) (.pointer (some ⟨BV g,CF g+off,none⟩))
 |hslice {id off len cap cx:Nat} {p:Pl} (h:mu id=some p) (hr:off+cap*p.esz<=p.room) (hl:len<=cap) (hx:cx=0∨cx=cap+1) :
   VR la mu (.slice (some ⟨id,off,qs p.esz⟩) len cx) (.slice (some ⟨p.b,p.o+off,none⟩) len cap)
 |hslice0 {id off cx esz:Nat} {a:Addr} (hx:cx<=1):VR la mu (.slice (some ⟨id,off,qs esz⟩) 0 cx) (.slice (some a) 0 0)
 |gslice {g off len cap cx:Nat} (hl:len<=cap) (hx:cx=0∨cx=cap+1):VR la mu (.slice (some ⟨g,off,some 1⟩) len cx) (.slice (some ⟨BV g,CF g+off,none⟩) len cap)
 |gslice0 {g off cx:Nat} {a:Addr} (hx:cx<=1):VR la mu (.slice (some ⟨g,off,some 1⟩) 0 cx) (.slice (some a) 0 0)
 |map {id:Nat} {p:Pl} (h:mu id=some p):VR la mu (.map (some id)) (.map (some p.b))
def VR.mono{la f:tf}{mu g:kx}{a c:Value}(h:VR la mu a c)(t:∀s b,la s=some b->f s=some b)(j:∀i p,mu i=some p->g i=some p) :
  VR f g a c:=by
 induction h with
 |poison c=>exact .poison c
 |sym h=>exact .sym h
 |scalar h=>exact .scalar h
 |agg k _ l=>exact .agg k l
 |tuple u k _ l=>exact .tuple u k l
 |func r o q _ _ m n=>exact .func r o q m n
 |yield h=>exact .yield (j _ _ h)
 |lptr h=>exact .lptr (t _ _ h)
 |hptr h=>exact .hptr (j _ _ h)
 |gptr=>exact .gptr
 |hslice h v d e=>exact .hslice (j _ _ h) v d e
 |hslice0 e=>exact .hslice0 e
 |gslice d e=>exact .gslice d e
 |gslice0 e=>exact .gslice0 e
 |map h=>exact .map (j _ _ h)
def VR.up{la:tf}{mu:kx}{a c:Value}(h:VR AN mu a c):VR la mu a c:=
 h.mono (λ_ _ h=>by cases h) (λ_ _ h=>h)
def VR.undef{la:tf}{mu:kx}:VR la mu undef undef:=.tuple (by simp) rfl λi x y h=>by simp at h
def cL{la:tf}{mu:kx}{a c:Value}(b:scalar a=true)(h:VR la mu a c):c=a:=by
 cases h<;>first|rfl|(simp[Am.scalar]at b)
def ni{la:tf}{mu:kx}{a c:Value}(b:fL a=true)(h:VR la mu a c):c=a:=by
 cases a with
 |agg f=>
  cases h with
  |scalar _=>rfl
  |agg d h=>
   rename_i g
   simp only[fL]at b
   congr 1
   apply Array.ext d.symm;intro i j e;exact cL (cT (i:=i) b (by simp[e])) (h i f[i] g[i] (by simp[e]) (by simp[j]))
 |_=>exact cL b h
def rT{la:tf}{mu:kx}{a c:Value}(b:flat a=true)(h:VR la mu a c):c=a:=by
 cases a with
 |tuple f=>
  cases h with
  |poison c=>simp[flat,fL,Am.scalar]at b
  |sym _=>simp[flat]at b
  |scalar _=>rfl
  |tuple k d h=>
   rename_i g
   simp only[flat,wa]at b
   replace b:=b.2
   congr 1
   apply Array.ext d.symm;intro i j e;exact ni (cT (i:=i) b (by simp[e])) (h i f[i] g[i] (by simp[e]) (by simp[j]))
 |_=>exact ni b h
def VR.of_flat1{la:tf}{mu:kx}{v:Value}(h:fL v=true):VR la mu v v:=by
 cases v with
 |agg c=>
  refine .agg rfl λi x y a b=>?_;obtain rfl:x=y:=by rw[a]at b;exact AR b
  exact .scalar (cT (i:=i) (l:=c.toList) h (by simpa using a))
 |_=>exact .scalar h
def VR.of_flat{la:tf}{mu:kx}{v:Value}(h:flat v=true):VR la mu v v:=by
 cases v with
 |tuple c=>
  simp only[flat,wa,bne_iff_ne]at h;refine .tuple h.1 rfl λi x y a b=>?_;obtain rfl:x=y:=by rw[a]at b;exact AR b
  exact .of_flat1 (cT (i:=i) (l:=c.toList) h.2 (by simpa using a))
 |_=>exact .of_flat1 h
def fm{la:tf}{mu:kx}{a c:Value}(e:aX a=true)(h:VR la mu a c):VR AN mu a c:=by
 cases h with
 |poison c=>simp[aX,iY]at e
 |sym h=>exact .sym h
 |scalar h=>exact .scalar h
 |agg _ _=>simp[aX]at e
 |tuple f _ _=>exact absurd (fT e) f
 |func _ _ _ _ _=>simp[aX]at e
 |yield h=>simp[aX]at e
 |lptr h=>simp[aX]at e
 |hptr h=>exact .hptr h
 |gptr=>exact .gptr
 |hslice h g b d=>exact .hslice h g b d
 |hslice0 d=>exact .hslice0 d
 |gslice b d=>exact .gslice b d
 |gslice0 d=>exact .gslice0 d
 |map h=>exact .map h
def nT{f g:Value->Bool}{la:tf}{mu:kx}
  (n:∀a c,f a=true->VR la mu a c->VR AN mu a c)
  (m:∀cs,g (.agg cs)=cs.toList.all f) (o:∀q a b,g (.func q a b)=(a.toList.all f&&b.toList.all f))
  (p:∀vs,g (.tuple vs)=true->vs.toList.all f=true∨iY (.tuple vs)=true)
  (r:∀v,(∀cs,v≠.agg cs)->(∀q a b,v≠.func q a b)->(∀vs,v≠.tuple vs)->g v=f v)
  {a c:Value} (e:g a=true) (h:VR la mu a c):VR AN mu a c:=by
 cases h with
 |poison c=>exact .poison c
 |sym h=>exact .sym h
 |scalar h=>exact .scalar h
 |agg k h=>
  rw[m]at e;exact .agg k λi x y d l=>n _ _ (cT (i:=i) e (by simpa using d)) (h i x y d l)
 |tuple s k h=>
  have:=(p _ e).resolve_right λB=>s (fT B);exact .tuple s k λi x y d l=>n _ _ (cT (i:=i) this (by simpa using d)) (h i x y d l)
 |func t z A u w=>
  rw[o,wa]at e;exact .func t z A (λi x y d l=>n _ _ (cT (i:=i) e.1 (by simpa using d)) (u i x y d l))
   (λi x y d l=>n _ _ (cT (i:=i) e.2 (by simpa using d)) (w i x y d l))
 |yield h=>exact .yield h
 |lptr h=>
  rw[r _ (by simp) (by simp) (by simp)]at e;exact n _ _ e (.lptr h)
 |hptr h=>exact .hptr h
 |gptr=>exact .gptr
 |hslice h C j d=>exact .hslice h C j d
 |hslice0 d=>exact .hslice0 d
 |gslice j d=>exact .gslice j d
 |gslice0 d=>exact .gslice0 d
 |map h=>exact .map h
def wc{la:tf}{mu:kx}{a c:Value}(k:bh a=true)(h:VR la mu a c):VR AN mu a c:=
 nT (f:=aX) (g:=bh) (λ_ _=>fm) (λ_=>rfl) (λ_ _ _=>rfl)
  (λd h=>by
   have b:(d.size==0||iY (.tuple d))=true:=h;simp only[Cz,beq_iff_eq]at b;rcases b with b|b
   ·left;simp at b;simp[b]
   ·exact .inr b) (λv e i j=>by cases v<;>first|rfl|exact absurd rfl (e _)|exact absurd rfl (i _ _ _)|exact absurd rfl (j _)) k h
def jr{la:tf}{mu:kx}{a c:Value}(i:aR a=true)(h:VR la mu a c):VR AN mu a c:=
 nT (f:=bh) (g:=aR) (λ_ _=>wc) (λ_=>rfl) (λ_ _ _=>rfl)
  (λ_ h=>.inl h) (λv b d e=>by cases v<;>first|rfl|exact absurd rfl (b _)|exact absurd rfl (d _ _ _)|exact absurd rfl (e _)) i h
def fU{la:tf}{mu:kx}{a c:Value}(i:noLoc a=true)(h:VR la mu a c):VR AN mu a c:=
 nT (f:=aR) (g:=noLoc) (λ_ _=>jr) (λ_=>rfl) (λ_ _ _=>rfl)
  (λ_ h=>.inl h) (λv b d e=>by cases v<;>first|rfl|exact absurd rfl (b _)|exact absurd rfl (d _ _ _)|exact absurd rfl (e _)) i h
def vu{la:tf}{mu:kx}{a c:Value}(b:bg a=true)(h:VR la mu a c):VR AN mu a c:=
 fU (by simp only[bg,wa]at b;exact b.1) h
def lr{la:tf}{mu:kx}{a c:Value}(b:aJ a=true)(h:VR la mu a c):aJ c=true:=by
 cases h with
 |poison c=>simp[aJ,iY]at b
 |sym _=>rfl
 |tuple d _ _=>exact absurd (fT b) d
 |scalar h=>exact b
 |_=>first|rfl|(simp[aJ]at b)
def we{la:tf}{mu:kx}{a:Value}{vs:Tj}(b:aJ a=true)(h:VR la mu a (.tuple vs)):False:=by
 cases h with
 |poison c=>simp[aJ,iY]at b
 |tuple d _ _=>exact absurd (fT b) d
 |scalar h=>simp[Am.scalar]at h
def VRs(la:tf)(mu:kx)(vs cs:Tk):Prop:=vs.length=cs.length/\∀(i:Nat) (x y:Value),vs[i]?=some x->cs[i]?=some y->VR la mu x y
def VRs.nil{la:tf}{mu:kx}:VRs la mu [] []:=⟨rfl,λi x y h=>by simp at h⟩
def VRs.cons{la:tf}{mu:kx}{v c:Value}{vs cs:Tk}(h:VR la mu v c)(d:VRs la mu vs cs):VRs la mu (v :: vs) (c :: cs):=by
 refine⟨by simp[d.1],λi x y a b=>?_⟩;cases i with
 |zero=>simp at a b;subst a b;exact h
 |succ i=>exact d.2 i x y (by simpa using a) (by simpa using b)
def VRs.head{la:tf}{mu:kx}{v c:Value}{vs cs:Tk}(h:VRs la mu (v :: vs) (c :: cs)):VR la mu v c:=h.2 0 v c rfl rfl
def VRs.tail{la:tf}{mu:kx}{v c:Value}{vs cs:Tk}(h:VRs la mu (v :: vs) (c :: cs)):VRs la mu vs cs:=
 ⟨by have:=h.1;simpa using this,λi x y a b=>h.2 (i+1) x y (by simpa using a) (by simpa using b)⟩
def VRs.uncons{la:tf}{mu:kx}{v:Value}{vs cs:Tk}(h:VRs la mu (v :: vs) cs):∃c a,cs=c :: a/\VR la mu v c/\VRs la mu vs a:=by
 cases cs with
 |nil=>have:=h.1;simp at this
 |cons c cs=>exact⟨c,cs,rfl,h.head,h.tail⟩
def VRs.unnil{la:tf}{mu:kx}{cs:Tk}(h:VRs la mu [] cs):cs=[]:=by
 have:=h.1;cases cs<;>simp_all
def VRs.append{la:tf}{mu:kx}{vs cs c a:Tk}(h:VRs la mu vs cs)(h':VRs la mu c a):VRs la mu (vs++c) (cs++a):=by
 refine⟨by simp[h.1,h'.1],λi x y d b=>?_⟩;have e:=h.1;by_cases f:i<vs.length
 ·rw[BZ f]at d;rw[BZ (by omega)]at b;exact h.2 i x y d b
 ·rw[Cv (by omega)]at d;rw[Cv (by omega)]at b;rw[←e]at b;exact h'.2 _ x y d b
def VRs.mono{la a:tf}{mu c:kx}{vs cs:Tk}(h:VRs la mu vs cs)(d:∀s b,la s=some b->a s=some b)(e:∀i p,mu i=some p->c i=some p) :
  VRs a c vs cs:=⟨h.1,λi x y f g=>(h.2 i x y f g).mono d e⟩
def VRs.up{la:tf}{mu:kx}{vs cs:Tk}(h:VRs AN mu vs cs):VRs la mu vs cs:=⟨h.1,λi x y a b=>(h.2 i x y a b).up⟩
def VRs.down{la:tf}{mu:kx}{vs cs:Tk}(b:vs.all noLoc=true)(h:VRs la mu vs cs):VRs AN mu vs cs:=
 ⟨h.1,λi x y a c=>fU (cT b a) (h.2 i x y a c)⟩
def VRs.downc{la:tf}{mu:kx}{vs cs:Tk}(b:vs.all bg=true)(h:VRs la mu vs cs):VRs AN mu vs cs:=
 ⟨h.1,λi x y a c=>vu (cT b a) (h.2 i x y a c)⟩
def VRs.map{la:tf}{mu:kx}{α:Type}{f g:α->Value}(l:List α)(h:∀x,x∈l->VR la mu (f x) (g x)):VRs la mu (l.map f) (l.map g):=by
 induction l with
 |nil=>exact .nil
 |cons a l c=>exact .cons (h a (by simp)) (c λx b=>h x (by simp[b]))
def VRs.take{la:tf}{mu:kx}{vs cs:Tk}(h:VRs la mu vs cs)(n:Nat):VRs la mu (vs.take n) (cs.take n):=by
 refine⟨by simp[h.1],λi x y a b=>?_⟩;rw[Ij]at a b;split at a
 next c=>rw[mc c]at b;exact h.2 i x y a b
 ·cases a
def VRs.drop{la:tf}{mu:kx}{vs cs:Tk}(h:VRs la mu vs cs)(n:Nat):VRs la mu (vs.drop n) (cs.drop n):=by
 refine⟨by simp[h.1],λi x y a b=>?_⟩;rw[Ii]at a b;exact h.2 _ x y a b
def VRs.set{la:tf}{mu:kx}{vs cs:Tk}(h:VRs la mu vs cs)(n:Nat){v c:Value}(f:VR la mu v c):VRs la mu (vs.set n v) (cs.set n c):=by
 refine⟨by simp[h.1],λi x y a b=>?_⟩;rw[Eb]at a b;by_cases d:n=i
 ·subst d;simp only[if_true]at a b;split at a
  next e=>
   rw[mc (by rw[←h.1];exact e)]at b;simp at a b;subst a b;exact f
  ·cases a
 ·rw[ra d]at a b;exact h.2 i x y a b
def VRs.replicate{la:tf}{mu:kx}(n:Nat){v c:Value}(a:VR la mu v c):VRs la mu (List.replicate n v) (List.replicate n c):=by
 induction n with
 |zero=>exact .nil
 |succ n b=>exact .cons a b
def VRs.get{la:tf}{mu:kx}{vs cs:Tk}(h:VRs la mu vs cs){i:Nat}{x:Value}(a:vs[i]?=some x):∃y,cs[i]?=some y/\VR la mu x y:=by
 have c:i<vs.length:=by
  rcases Bu i vs.length with h|h
  ·exact h
  ·rw[Bp h]at a;cases a
 have b:i<cs.length:=by have:=h.1;omega
 exact⟨cs[i],by simp[b],h.2 i x _ a (by simp[b])⟩
def VRs.agg{la:tf}{mu:kx}{a c:Tj}(h:VRs la mu a.toList c.toList):VR la mu (.agg a) (.agg c):=
 .agg (by simpa using h.1) λi x y b d=>h.2 i x y (by simpa using b) (by simpa using d)
def VR.unagg{la:tf}{mu:kx}{a:Tj}{c:Value}(h:VR la mu (.agg a) c):∃d,c = .agg d/\VRs la mu a.toList d.toList:=by
 cases h with
 |scalar h=>simp[Am.scalar]at h
 |agg b h=>exact⟨_,rfl,by simpa using b,λi x y e f=>h i x y (by simpa using e) (by simpa using f)⟩
def VRs.tuple{la:tf}{mu:kx}{a c:Tj}(h:VRs la mu a.toList c.toList)(b:a.size≠1:=by simp):VR la mu (.tuple a) (.tuple c):=
 .tuple b (by simpa using h.1) λi x y d e=>h.2 i x y (by simpa using d) (by simpa using e)
def VR.untuple{la:tf}{mu:kx}{a:Tj}{c:Value}(b:a.size≠1)(h:VR la mu (.tuple a) c):∃d,c = .tuple d/\VRs la mu a.toList d.toList:=by
 cases h with
 |poison c=>simp at b
 |sym _=>simp at b
 |scalar h=>simp[Am.scalar]at h
 |tuple _ e h=>exact⟨_,rfl,by simpa using e,λi x y f g=>h i x y (by simpa using f) (by simpa using g)⟩
def VR.cells{la:tf}{mu:kx}{a c:Value}(f:aA a=false)(h:VR la mu a c):VRs la mu a.cells.toList c.cells.toList:=by
 cases a with
 |agg i=>
  obtain⟨d,rfl,b⟩:=h.unagg;exact b
 |tuple g=>
  have e:aJ (.tuple g)=true:=by simpa[aA,aJ]using f
  rw[ey (lr e h)];exact .cons h .nil
 |_=>
  rw[ey (lr rfl h)];exact .cons h .nil
end
section
variable [Val] [Glo]
def fE(mu:kx)(e e':MapEntry):Prop:=e'.key=e.key/\fL e.key=true/\e'.born=e.born/\VR AN mu e.val e'.val
def objR(mu:kx)(p:Pl)(x:Option Obj):HObj->Prop
 | .cells vs esz rw=>p.esz=esz/\vs.length<=p.room/\vs.all bg=true/\∃c e fr,x=some (.cells c e fr)/\c.size=p.o+p.room/\(rw=true->fr=(0,0))/\
   ∀(i:Nat) v,vs[i]?=some v->∃v',c[p.o+i]?=some v'/\VR AN mu v v'
 | .map d a=>∃b,x=some (.map b a)/\b.size=d.length/\∀(i:Nat) e,d[i]?=some e->∃e',b[i]?=some e'/\fE mu e e'
 | .loop r=>∃L:Loop,x=some (.loop L)/\L.state=r.state/\L.pending=r.pending/\L.params.toList=r.params/\L.assign=r.assign/\L.body=r.body/\VRs AN mu r.tmps L.tmps.toList
 | .siter s pos=>x=some (.stringIter s pos)
 | .dead=>True
def fE.mono{mu a:kx}(b:∀i p,mu i=some p->a i=some p){e e':MapEntry}(h:fE mu e e'):fE a e e':=
 ⟨h.1,h.2.1,h.2.2.1,h.2.2.2.mono (λ_ _ h=>h) b⟩
def objR.mono{mu j:kx}(u:∀i p,mu i=some p->j i=some p){p:Pl}{x:Option Obj}{o:HObj}(h:objR mu p x o):objR j p x o:=by
 cases o with
 |cells C w rw=>
  obtain⟨d,f,g,c,e,y,m,n,q,t⟩:=h;exact⟨d,f,g,c,e,y,m,n,q,λi v A=>let ⟨v',a,b⟩:=t i v A;⟨v',a,b.mono (λ_ _ h=>h) u⟩⟩
 |map B k=>
  obtain⟨l,d,f,g⟩:=h;exact⟨l,d,f,λi e z=>let ⟨e',a,b⟩:=g i e z;⟨e',a,b.mono u⟩⟩
 |loop r=>
  obtain⟨L,d,f,g,m,n,q,t⟩:=h;exact⟨L,d,f,g,m,n,q,t.mono (λ_ _ h=>h) u⟩
 |siter s pos=>exact h
 |dead=>trivial
def cz(mu:kx)(vs:Tk)(c:Tj)(o:Nat):Prop:=∀(i:Nat) v,vs[i]?=some v->∃v',c[o+i]?=some v'/\VR AN mu v v'
def cz.mono{mu d:kx}{vs:Tk}{c:Tj}{o:Nat}(h:cz mu vs c o)(e:∀i p,mu i=some p->d i=some p):cz d vs c o:=
 λi v f=>let ⟨v',a,b⟩:=h i v f;⟨v',a,b.mono (λ_ _ h=>h) e⟩
structure WR(C:Cfg)(base:Nat)(mu:kx)(H:Tp)(w:World):Prop where
 obj:∀id o,H[id]?=some o->o.alive=true->∃p,mu id=some p/\objR mu p w.heap[p.b]? o
 inj:∀(i j:Nat) oi oj pi pj,H[i]?=some oi->H[j]?=some oj->oi.owned=true->oj.alive=true->i≠j->mu i=some pi->mu j=some pj->pi.b≠pj.b
 own:∀(i:Nat) o p,H[i]?=some o->o.owned=true->mu i=some p->base<=p.b
 ro:∀(i:Nat) o p,H[i]?=some o->o.alive=true->o.owned=false->mu i=some p->p.b<base
 dom:∀id,H.length<=id->mu id=none
 glob:∀g vs,C.G g=some vs->BV g<base/\vs.all bg=true/\∃c e fr,w.heap[BV g]?=some (.cells c e fr)/\cz mu vs c (CF g)
def Own(mu:kx)(H:Tp)(b:Nat):Prop:=∃(id:Nat) (o:HObj) (p:Pl),H[id]?=some o/\o.owned=true/\mu id=some p/\p.b=b
def bH{o:HObj}(h:o.owned=true):o.alive=true:=by cases o<;>first|rfl|(simp[HObj.owned]at h)
structure Evo(H:Tp)(mu:kx)(w:World)(H':Tp)(mu':kx)(w':World):Prop where
 len:H.length<=H'.length
 same:∀id,id<H.length->mu' id=mu id
 size:w.heap.size<=w'.heap.size
 keep:∀b,b<w.heap.size->¬Own mu H b->w'.heap[b]?=w.heap[b]?
 steal:∀b,Own mu' H' b->w.heap.size<=b∨Own mu H b
 os:w'.os=w.os
 tape:w'.tape=w.tape
 output:w'.output=w.output
 dr:w.drawn<=w'.drawn
theorem Evo.refl(H:Tp)(mu:kx)(w:World):Evo H mu w H mu w:=
 ⟨Ah _,λ_ _=>rfl,Ah _,λ_ _ _=>rfl,λ_ h=>.inr h,rfl,rfl,rfl,Ah _⟩
def Evo.trans{H₁ H₂ H₃:Tp}{m₁ m₂ m₃:kx}{w₁ w₂ w₃:World}(h:Evo H₁ m₁ w₁ H₂ m₂ w₂)(k:Evo H₂ m₂ w₂ H₃ m₃ w₃):Evo H₁ m₁ w₁ H₃ m₃ w₃ where
 len:=Es h.len k.len
 same:=λid e=>(k.same id (qc4 e h.len)).trans (h.same id e)
 size:=Es h.size k.size
 keep:=λb a f=>(k.keep b (qc4 a h.size) λc=>(h.steal b c).elim (λd=>by omega) f).trans (h.keep b a f)
 steal:=λb a=>(k.steal b a).elim (λd=>.inl (Es h.size d)) (h.steal b)
 os:=k.os.trans h.os
 tape:=k.tape.trans h.tape
 output:=k.output.trans h.output
 dr:=Es h.dr k.dr
def Evo.drew{H H':Tp}{m a:kx}{w w':World}(h:Evo H m w H' a w')(n:Nat)(b:w'.drawn<=n):Evo H m w H' a { w' with drawn:=n }:=
 ⟨h.len,h.same,h.size,h.keep,h.steal,h.os,h.tape,h.output,Es h.dr b⟩
def WR.drew{C:Cfg}{a:Nat}{mu:kx}{H:Tp}{w:World}(h:WR C a mu H w)(n:Nat):WR C a mu H { w with drawn:=n }:=
 ⟨h.obj,h.inj,h.own,h.ro,h.dom,h.glob⟩
def Evo.mono{C:Cfg}{a:Nat}{H H':Tp}{m d:kx}{w w':World}(h:Evo H m w H' d w')(e:WR C a m H w):∀i p,m i=some p->d i=some p:=by
 intro i p c;rw[h.same i ?_];exact c;rcases Bu i H.length with b|b
 ·exact b
 ·rw[e.dom i b]at c;cases c
def upd(mu:kx)(i:Nat)(p:Pl):kx:=λj=>if j=i then some p else mu j
def bU(mu:kx)(i:Nat)(p:Pl):upd mu i p i=some p:=by simp[upd]
def ew(mu:kx){i j:Nat}(p:Pl)(h:j≠i):upd mu i p j=mu j:=by simp[upd,h]
def nz{C:Cfg}{a:Nat}{H:Tp}{m:kx}{w:World}(d:WR C a m H w)(p:Pl):∀i q,m i=some q->upd m H.length p i=some q:=by
 intro i q b;by_cases c:i=H.length
 ·subst c;rw[d.dom _ (Ah _)]at b;cases b
 ·rw[ew _ _ c];exact b
def aK{α:Type}{l:List α}{x y:α}{i:Nat}(h:(l++[x])[i]?=some y):(i<l.length/\l[i]?=some y)∨(i=l.length/\y=x):=by
 rcases Bu i l.length with b|b
 ·rw[BZ b]at h;exact .inl ⟨b,h⟩
 ·rw[Cv b]at h;have a:i - l.length=0:=by
   rcases qdE (i - l.length)with a|a
   ·exact a
   ·rw[Bp (by simp;omega)]at h;cases h
  rw[a]at h;exact .inr ⟨by omega,by simpa using h.symm⟩
def iz{mu:kx}{p:Pl}{w:World}{o:HObj}(i:o.alive=true)(h:objR mu p w.heap[p.b]? o):p.b<w.heap.size:=by
 rcases Bu p.b w.heap.size with d|d
 ·exact d
 ·rw[RV d]at h;cases o with
  |cells l g rw=>obtain⟨_,_,_,c,e,k,h,_⟩:=h;cases h
  |map j a=>obtain⟨f,h,_⟩:=h;cases h
  |loop r=>obtain⟨L,h,_⟩:=h;cases h
  |siter s pos=>cases h
  |dead=>cases i
def WR.lt{C:Cfg}{a:Nat}{mu:kx}{H:Tp}{w:World}(h:WR C a mu H w){id:Nat}{o:HObj}{p:Pl}(e:H[id]?=some o)(c:o.alive=true)(f:mu id=some p):p.b<w.heap.size:=by
 obtain⟨q,d,g⟩:=h.obj id o e c;obtain rfl:p=q:=by rw[f]at d;exact AR d
 exact iz c g
def V5(mu a:kx)(H':Tp)(w':World):Prop:=∀id o,H'[id]?=some o->o.alive=true->∃p,a id=some p/\objR mu p w'.heap[p.b]? o
def WR.new{C:Cfg}{m:Nat}{mu:kx}{H:Tp}{w w':World}(h:WR C m mu H w)(G:m<=w.heap.size){x:Obj}(K:w'.heap=w.heap.push x)
  (T:w'.os=w.os) (W:w'.tape=w.tape) (X:w'.output=w.output) (o:HObj) (p:Pl) (U:p.b=w.heap.size) (E:objR mu p (some x) o) (J:o.alive=true->o.owned=true) (R:w.drawn<=w'.drawn:=by exact Ah _) :
  WR C m (upd mu H.length p) (H++[o]) w'/\Evo H mu w (H++[o]) (upd mu H.length p) w'/\V5 mu (upd mu H.length p) (H++[o]) w':=by
 have V:objR (upd mu H.length p) p (some x) o:=E.mono (nz h p);have f:∀b,b<w.heap.size->w'.heap[b]?=w.heap[b]?:=λb G=>by rw[K,qcC,ra (by omega)]
 have v:w'.heap[p.b]?=some x:=by rw[K,qcC,mc U]
 have F:=nz h p;refine⟨⟨?_,?_,?_,?_,?_,?_⟩,⟨by simp,?_,by simp[K],λb G _=>f b G,?_,T,W,X,R⟩,λid t hid u=>?_⟩
 rotate_right
 ·rcases aK hid with⟨s,hid⟩|⟨rfl,rfl⟩
  ·obtain⟨q,a,r⟩:=h.obj id t hid u;exact⟨q,F _ _ a,by rw[f _ (iz u r)];exact r⟩
  ·exact⟨p,bU _ _ _,by rw[v];exact E⟩
 ·intro id t hid u;rcases aK hid with⟨s,hid⟩|⟨rfl,rfl⟩
  ·obtain⟨q,a,r⟩:=h.obj id t hid u;refine⟨q,F _ _ a,?_⟩;rw[f _ (iz u r)];exact r.mono F
  ·exact⟨p,bU _ _ _,by rw[v];exact V⟩
 ·intro i j Y Z pi pj s L B D A n l;rcases aK s with⟨y,k⟩|⟨rfl,rfl⟩
  ·rw[ew _ _ (by omega)]at n;rcases aK L with⟨I,z⟩|⟨rfl,rfl⟩
   ·rw[ew _ _ (by omega)]at l;exact h.inj i j Y Z pi pj k z B D A n l
   ·rw[bU]at l;obtain rfl:=AR l;have:=h.lt k (bH B) n;omega
  ·rw[bU]at n;obtain rfl:=AR n;rcases aK L with⟨I,z⟩|⟨rfl,rfl⟩
   ·rw[ew _ _ (by omega)]at l;have:=h.lt z D l;omega
   ·exact absurd rfl A
 ·intro i t q s d a;rcases aK s with⟨y,k⟩|⟨rfl,rfl⟩
  ·rw[ew _ _ (by omega)]at a;exact h.own i t q k d a
  ·rw[bU]at a;obtain rfl:=AR a;omega
 ·intro i t q s u d a;rcases aK s with⟨y,k⟩|⟨rfl,rfl⟩
  ·rw[ew _ _ (by omega)]at a;exact h.ro i t q k u d a
  ·rw[J u]at d;cases d
 ·intro id hid;simp at hid;rw[ew _ _ (by omega)];exact h.dom id (by omega)
 ·intro g vs S;obtain⟨N,O,c,e,M,P,Q⟩:=h.glob g vs S;exact⟨N,O,c,e,M,by rw[f _ (by omega)];exact P,Q.mono F⟩
 ·intro id hid;rw[ew _ _ (by omega)]
 ·rintro b ⟨id,t,q,hid,d,a,rfl⟩;rcases aK hid with⟨y,s⟩|⟨rfl,rfl⟩
  ·rw[ew _ _ (by omega)]at a;exact .inr ⟨id,t,q,s,d,a,rfl⟩
  ·rw[bU]at a;obtain rfl:=AR a;exact .inl (by omega)
def get_set{α:Type}{l:List α}{x y:α}{i j:Nat}(h:(l.set i x)[j]?=some y):(j≠i/\l[j]?=some y)∨(j=i/\i<l.length/\y=x):=by
 rw[Eb]at h;by_cases a:i=j
 ·subst a;simp only[if_true]at h;split at h
  next b=>exact .inr ⟨rfl,b,by simpa using h.symm⟩
  ·cases h
 ·rw[ra a]at h;exact .inl ⟨λe=>a e.symm,h⟩
def WR.set{C:Cfg}{s:Nat}{mu:kx}{H:Tp}{w w':World}(h:WR C s mu H w){id:Nat}{o:HObj}{p:Pl}(hid:H[id]?=some o)(D:o.owned=true)
  (G:mu id=some p) {x:Obj} (V:w'.heap=w.heap.setIfInBounds p.b x) (R:w'.os=w.os) (ht:w'.tape=w.tape) (hu:w'.output=w.output)
  (E:HObj) (Q:E.alive=true->E.owned=true) (hr:objR mu p (some x) E) (hd:w.drawn<=w'.drawn:=by exact Ah _) :
  WR C s mu (H.set id E) w'/\Evo H mu w (H.set id E) mu w':=by
 have O:=h.lt hid (bH D) G;have L:=h.own id o p hid D G;have A:w'.heap[p.b]?=some x:=by rw[V];simp[O]
 have n:∀b,b≠p.b->w'.heap[b]?=w.heap[b]?:=λb K=>by rw[V,qca (B9 K)]
 have a:∀(j:Nat) l,(H.set id E)[j]?=some l->l.alive=true->∃f,H[j]?=some f/\f.alive=true/\(l.owned=true->f.owned=true):=by
  intro j l k u;rcases get_set k with⟨_,k⟩|⟨rfl,_,rfl⟩
  ·exact⟨l,k,u,λh=>h⟩
  ·exact⟨o,hid,bH D,λ_=>D⟩
 refine⟨⟨?_,?_,?_,?_,?_,?_⟩,⟨by simp,λ_ _=>rfl,by simp[V],?_,?_,R,ht,hu,hd⟩⟩
 ·intro j l k u;rcases get_set k with⟨P,k⟩|⟨rfl,_,rfl⟩
  ·obtain⟨q,t,U⟩:=h.obj j l k u;refine⟨q,t,?_⟩;rw[n q.b λe=>h.inj id j o l p q hid k D u (B9 P) G t e.symm];exact U
  ·exact⟨p,G,by rw[A];exact hr⟩
 ·intro i j I l pi pj v k d r N S T;obtain⟨B,y,_,m⟩:=a i I v (bH d);obtain⟨f,z,J,_⟩:=a j l k r;exact h.inj i j B f pi pj y z (m d) J N S T
 ·intro i I q v d t;obtain⟨B,y,_,m⟩:=a i I v (bH d);exact h.own i B q y (m d) t
 ·intro i I q v u d t;rcases get_set v with⟨_,M⟩|⟨rfl,_,rfl⟩
  ·exact h.ro i I q M u d t
  ·rw[Q u]at d;cases d
 ·intro i v;exact h.dom i (by simpa using v)
 ·intro g vs hg;obtain⟨X,Y,c,e,W,Z,h4⟩:=h.glob g vs hg;exact⟨X,Y,c,e,W,by rw[n _ (by omega)];exact Z,h4⟩
 ·intro b _ K;exact n b λe=>K ⟨id,o,p,hid,D,G,e.symm⟩
 ·rintro b ⟨j,l,q,k,r,t,rfl⟩;obtain⟨f,z,_,F⟩:=a j l k (bH r);exact .inr ⟨j,f,q,z,F r,t,rfl⟩
def WR.move{C:Cfg}{D:Nat}{mu:kx}{H:Tp}{w w':World}(h:WR C D mu H w){id:Nat}{o:HObj}{p:Pl}(hid:H[id]?=some o)(M:o.owned=true)
  (O:mu id=some p) {x:Obj} (hw:w'.heap=w.heap.setIfInBounds p.b x) (N:w'.os=w.os) (Z:w'.tape=w.tape) (hu:w'.output=w.output)
  (F:HObj) (q:Pl) (P:q.b=p.b) (Q:objR mu q (some x) F) (W:F.alive=true->F.owned=true) (X:w.drawn<=w'.drawn:=by exact Ah _) :
  WR C D (upd mu H.length q) (H.set id .dead++[F]) w'/\Evo H mu w (H.set id .dead++[F]) (upd mu H.length q) w'/\V5 mu (upd mu H.length q) (H.set id .dead++[F]) w':=by
 have hr:objR (upd mu H.length q) q (some x) F:=Q.mono (nz h q);obtain⟨G,S⟩:=h.set hid M O (x:=x) hw N Z hu .dead (λh=>by cases h) trivial X;have U:=h.lt hid (bH M) O;have T:=h.own id o p hid M O;have d:(H.set id HObj.dead).length=H.length:=by simp
 have y:w'.heap[p.b]?=some x:=by rw[hw];simp[U]
 have R:∀i r,mu i=some r->upd mu H.length q i=some r:=nz h q;have Y:id<H.length:=by
  rcases Bu id H.length with J|J
  ·exact J
  ·rw[Bp J]at hid;cases hid
 have t:∀(j:Nat) n r,(H.set id HObj.dead)[j]?=some n->n.alive=true->mu j=some r->r.b≠p.b:=by
  intro j n r s z a e;rcases get_set s with⟨V,s⟩|⟨rfl,_,rfl⟩
  ·exact h.inj id j o n p r hid s M z (B9 V) O a e.symm
  ·cases z
 refine⟨⟨?_,?_,?_,?_,?_,?_⟩,⟨by simp,?_,S.size,S.keep,?_,N,Z,hu,X⟩,λj n s z=>?_⟩
 rotate_right
 ·rcases aK s with⟨A,f⟩|⟨rfl,rfl⟩
  ·obtain⟨r,a,v⟩:=G.obj j n f z;exact⟨r,R _ _ a,v⟩
  ·rw[d];exact⟨q,bU _ _ _,by rw[P,y];exact Q⟩
 ·intro j n s z;rcases aK s with⟨A,f⟩|⟨rfl,rfl⟩
  ·obtain⟨r,a,v⟩:=G.obj j n f z;exact⟨r,R _ _ a,v.mono R⟩
  ·rw[d];exact⟨q,bU _ _ _,by rw[P,y];exact hr⟩
 ·intro i j I n pi pj E s k B L u m;rcases aK E with⟨K,l⟩|⟨rfl,rfl⟩
  ·rw[ew _ _ (by omega)]at u;rcases aK s with⟨A,f⟩|⟨rfl,rfl⟩
   ·rw[ew _ _ (by omega)]at m;exact G.inj i j I n pi pj l f k B L u m
   ·rw[d,bU]at m;obtain rfl:=AR m;rw[P];exact t i I pi l (bH k) u
  ·rw[d,bU]at u;obtain rfl:=AR u;rcases aK s with⟨A,f⟩|⟨rfl,rfl⟩
   ·rw[ew _ _ (by omega)]at m;rw[P];exact B9 (t j n pj f B m)
   ·exact absurd rfl L
 ·intro i I r E k a;rcases aK E with⟨K,l⟩|⟨rfl,rfl⟩
  ·rw[ew _ _ (by omega)]at a;exact G.own i I r l k a
  ·rw[d,bU]at a;obtain rfl:=AR a;omega
 ·intro i I r E z k a;rcases aK E with⟨K,l⟩|⟨rfl,rfl⟩
  ·rw[ew _ _ (by omega)]at a;exact G.ro i I r l z k a
  ·rw[W z]at k;cases k
 ·intro i E;simp at E;rw[ew _ _ (by omega)];exact h.dom i (by omega)
 ·intro g vs hg;obtain⟨J,h2,c,e,fr,h3,h4⟩:=G.glob g vs hg;exact⟨J,h2,c,e,fr,h3,h4.mono R⟩
 ·intro i E;rw[ew _ _ (by omega)]
 ·rintro b ⟨j,n,r,s,B,a,rfl⟩;rcases aK s with⟨A,f⟩|⟨rfl,rfl⟩
  ·rw[ew _ _ (by omega)]at a;exact S.steal _ ⟨j,n,r,f,B,a,rfl⟩
  ·rw[d,bU]at a;obtain rfl:=AR a;exact .inr ⟨id,o,p,hid,M,O,P.symm⟩
structure SR(C:Cfg)(base:Nat)(la:tf)(mu:kx)(σ:St)(tmps:Tj)(w:World):Prop where
 vals:VRs la mu σ.tmps tmps.toList
 ldom:∀s b,la s=some b->∃vs,σ.loc[s]?=some (some vs)
 loc:∀(s:Nat) vs,σ.loc[s]?=some (some vs)->∃b c e,la s=some b/\base<=b/\w.heap[b]?=some (.cells c e (0,0))/\vs.all bg=true/\VRs AN mu vs c.toList/\¬Own mu σ.heap b
 linj:∀s s' b,la s=some b->la s'=some b->s=s'
 wr:WR C base mu σ.heap w
def SR.evo{C:Cfg}{a:Nat}{la:tf}{mu f:kx}{σ:St}{d:Tj}{w w':World}{H':Tp}(h:SR C a la mu σ d w)
  (t:WR C a f H' w') (i:Evo σ.heap mu w H' f w'):SR C a la f { σ with heap:=H' } d w':=by
 have k:=i.mono h.wr;refine⟨h.vals.mono (λ_ _ h=>h) k,h.ldom,?_,h.linj,t⟩;intro s u r;obtain⟨b,c,e,l,m,g,n,o,j⟩:=h.loc s u r;have p:b<w.heap.size:=by
  rcases Bu b w.heap.size with h|h
  ·exact h
  ·rw[RV h]at g;cases g
 exact⟨b,c,e,l,m,by have:=i.keep b p j;rw[this];exact g,n,o.mono (λ_ _ h=>h) k,λq=>(i.steal b q).elim (λv=>by omega) j⟩
def SR.put{C:Cfg}{b:Nat}{la:tf}{mu:kx}{σ:St}{a:Tj}{w:World}(h:SR C b la mu σ a w)(dst:Tn){v v':Value}(c:VR la mu v v') :
  SR C b la mu (σ.put dst v) (match dst with|some d=>a.setIfInBounds d v'|none=>a) w:=by
 cases dst with
 |none=>exact h
 |some d=>
  refine⟨?_,h.ldom,h.loc,h.linj,h.wr⟩;have:=h.vals.set d c;simpa[St.put]using this
end
section
variable [Val] [Glo]
def fw{P:TD}{t:TJ}{d:TypeDesc}(h:P.underlying t=some d):∃i,P.info? t=some i:=by
 unfold Program.underlying at h;cases a:P.info? t with
 |none=>rw[a]at h;cases h
 |some i=>exact⟨i,rfl⟩
def fC{P:TD}{t:TJ}(h:P.cellsOf t≠0):∃i,P.info? t=some i:=by
 unfold Program.cellsOf at h;cases a:P.info? t with
 |none=>rw[a]at h;simp at h
 |some i=>exact⟨i,rfl⟩
def bF{P:TD}{t:TJ}{i:TypeInfo}(h:P.info? t=some i)(w:World):(sizeOf t).run P w = .ok (P.cellsOf t) w:=by
 simp[sizeOf,typeInfo,h,Program.cellsOf]
def qr:TypeDesc->Bool
 | .struct _=>true
 | .array _ _=>true
 |_=>false
def uV{P:TD}{t:TJ}{d:TypeDesc}(h:P.underlying t=some d)(w:World):(isAgg t).run P w = .ok (qr d) w:=by
 cases d<;>simp[isAgg,run_underlying h,qr]
def bY{b o n:Nat}:(⟨b,o,none⟩ : Addr).add n=⟨b,o+n,none⟩:=by
 unfold Addr.add;split<;>simp_all
def aM{C:Cfg}{c:Nat}{la:tf}{mu:kx}{σ:St}{a:Act}{w:World}(h:SR C c la mu σ a.tmps w)(x:TG):VR la mu (ke σ.tmps x) (a.eval x):=by
 cases x with
 |tmp t=>
  simp only[ke,Act.eval];have e:σ.tmps.length=a.tmps.size:=by simpa using h.vals.1
  rcases Bu t σ.tmps.length with b|b
  ·have d:t<a.tmps.size:=by rw[←e];exact b
   have:=h.vals.2 t σ.tmps[t] a.tmps[t] (by simp[b]) (by simp[d]);simpa[List.getD,Array.getD,b,d]using this
  ·have d:a.tmps.size<=t:=by rw[←e];exact b
   simp only[List.getD,Bp b,qdo];rw[show a.tmps.getD t undef=undef by simp[Array.getD,Nat.not_lt.2 d]];exact .undef
 |const v=>
  simp only[ke,Act.eval];split
  next h=>exact .of_flat h
  ·exact .poison _
 |global g=>
  simp only[ke,Act.eval];split
  next h=>
   have:VR la mu (.pointer (some ⟨g,0,some 1⟩)) (.pointer (some ⟨BV g,CF g+0,none⟩)):=.gptr
   rwa [FD h,FE h]at this
  ·exact .poison _
 |func f=>exact .func (by simp) rfl rfl (λi x y h=>by simp at h) (λi x y h=>by simp at h)
def rK{C:Cfg}{b:Nat}{la:tf}{mu:kx}{σ:St}{a:Act}{w:World}(h:SR C b la mu σ a.tmps w)(xs:Array Operand) :
  VRs la mu (xs.toList.map (ke σ.tmps)) (xs.map a.eval).toList:=by
 rw[II];exact VRs.map _ λx _=>aM h x
def HB{C:Cfg}{b:Nat}{la:tf}{mu:kx}{σ:St}{a:Act}{w:World}(h:SR C b la mu σ a.tmps w){x:TG}(c:flat (ke σ.tmps x)=true) :
  a.eval x=ke σ.tmps x:=rT c (aM h x)
def vm(P:TD)(la:tf)(mu:kx)(s:Sem Next)(w:World)(v:Value):Prop:=∃v',s.run P w = .ok (.value v') w/\VR la mu v v'
def gD{P:TD}{la:tf}{mu:kx}{s:Sem Value}{w:World}{v v':Value}(h:s.run P w = .ok v' w)(a:VR la mu v v') :
  vm P la mu (do pure (.value (←s))) w v:=⟨v',by simp[h],a⟩
def zB{C:Cfg}{f:Nat}{la:tf}{mu:kx}{σ:St}{a:Act}{w:World}(h:SR C f la mu σ a.tmps w){o:Oper}{e:Eff}
  (m:∀cs b,o.op≠.select cs b) (c:cJ C (ke σ.tmps) o=some e):∃v,e = .val v/\vm C.P la mu (execOp a.eval o) w v:=by
 unfold cJ at c;split at c
 next l=>
  have k:execOp a.eval o=execOp (ke σ.tmps) o:=execOp_congr o m λx i=>HB h (all_get' l i);split at c
  next v n=>
   split at c
   next g=>
    cases c;exact⟨v,rfl,v,by rw[k];exact gr n w,.of_flat g⟩
   ·cases c
  ·cases c
 ·cases c where
 all_get' {d:Tk} {j:Array Operand} (h:j.toList.all (λx=>flat (ke d x))=true) {x:TG} (i:x∈j):flat (ke d x)=true:=
  qac.1 h x (by simpa using i)
def GJ{v:Value}(h:iY v=true):∃cs k,v = .tuple #[.agg cs]/\tk cs=some k:=by
 unfold iY at h;split at h
 next b=>
  split at h
  next cs e=>
   obtain⟨k,a⟩:=qbu.1 h;refine⟨cs,k,?_,a⟩
   congr 1
   exact qbj.1 (by simpa using e)
  ·cases h
 ·cases h
def uQ{la:tf}{mu:kx}{v c:Value}(hp:jd v=true)(h:VR la mu v c):c=CT v:=by
 simp only[jd,Cz]at hp;rcases hp with hp|hp
 ·rw[cL hp h];unfold Am.scalar at hp;split at hp<;>first|rfl|cases hp
 ·obtain⟨d,k,rfl,e⟩:=GJ hp;cases h with
  |scalar h=>simp[Am.scalar]at h
  |tuple b _ _=>simp at b
  |sym a=>simp[CT,a]
def qK{la:tf}{mu:kx}{v:Value}(hp:jd v=true):VR la mu v (CT v):=by
 simp only[jd,Cz]at hp;rcases hp with hp|hp
 ·have:CT v=v:=by
   unfold Am.scalar at hp;split at hp<;>first|rfl|cases hp
  rw[this];exact .scalar hp
 ·obtain⟨b,k,rfl,a⟩:=GJ hp;simp only[CT,a];exact .sym a
def yd{la:tf}{mu:kx}{v c:Value}(e:plain v=true)(h:VR la mu v c):c=Cu v:=by
 cases v with
 |agg a=>
  obtain⟨g,rfl,b,h⟩:=h.unagg;simp only[Cu]
  congr 1
  apply Array.ext (by simpa using b.symm);intro i j k;have d:i<a.size:=by simpa using k
  have:=uQ (cT (f:=jd) (i:=i) (x:=a[i]) e (by simp[d])) (h i a[i] g[i] (by simp[d]) (by simp[j]));simpa using this
 |_=>exact uQ e h
def uR{la:tf}{mu:kx}{v:Value}(b:plain v=true):VR la mu v (Cu v):=by
 cases v with
 |agg e=>
  simp only[Cu];refine .agg (by simp) λi x y c d=>?_;have a:=cT (f:=jd) (i:=i) (x:=x) b (by simpa using c);rw[Array.getElem?_map,c]at d;cases d;exact qK a
 |_=>exact qK b
def Iy{C:Cfg}{c:Nat}{la:tf}{mu:kx}{σ:St}{a:Act}{w:World}(h:SR C c la mu σ a.tmps w){o:Oper}{v:Value}
  (k:kI C σ.tmps o v):vm C.P la mu (execOp a.eval o) w v:=by
 obtain⟨d,f,g,i⟩:=k;have j:execOp a.eval o=execOp (λx=>Cu (ke σ.tmps x)) o:=execOp_congr o (λm b e=>by rw[e]at d;cases d) λx l=>
  yd (qac.1 f x (by simpa using l)) (aM h x)
 exact⟨Cu v,by rw[j];exact i w,uR g⟩
section
variable {C:Cfg} {la:tf} {mu:kx} {w:World}
def VR.bool{b:Bool}{c:Value}(h:VR la mu (.bool b) c):c = .bool b:=cL rfl h
def VR.int{k:TF}{n:Int}{c:Value}(h:VR la mu (.int k n) c):c = .int k n:=cL rfl h
def jR{v c:Value}{n:Int}(a:intOf v=some n)(h:VR la mu v c):∃k,c = .int k n:=by
 cases v<;>simp[intOf]at a;subst a;exact⟨_,h.int⟩
def xW{t:TJ}{cs ds:Tj}{off:Nat}{v:Value}(c:wk C t cs off=some v)(h:VRs la mu cs.toList ds.toList) :
  ∃v',(part t ds off).run C.P w = .ok v' w/\VR la mu v v':=by
 unfold wk at c;cases g:C.P.underlying t with
 |none=>rw[g]at c;cases c
 |some d=>
  obtain⟨i,o⟩:=fw g;have e:=uV g w;have k:=bF o w;rw[g]at c;have j:cs.size=ds.size:=by simpa using h.1
  have f:qr d=true->some (Value.agg (cs.extract off (off+C.P.cellsOf t)))=some v->
    ∃v',(part t ds off).run C.P w = .ok v' w/\VR la mu v v':=by
   intro a l;cases l;refine⟨.agg (ds.extract off (off+C.P.cellsOf t)),by simp[part,e,a,k],VRs.agg ?_⟩;simp only[qcv,List.extract];exact(h.drop _).take _
  have b:qr d=false->cs[off]?=some v->
    ∃v',(part t ds off).run C.P w = .ok v' w/\VR la mu v v':=by
   intro a l;obtain⟨v',m,n⟩:=h.get (i:=off) (by simpa using l);exact⟨v',by simp[part,e,a,(by simpa using m:ds[off]?=some v')],n⟩
  cases d<;>first|exact f rfl c|exact b rfl c
def Hv{t:TJ}{x y v:Value}{f:Nat}(a:ue C t x f=some v)(h:VR la mu x y):∃v',(Instr.field t y f).run C.P w = .ok v' w/\VR la mu v v':=by
 unfold ue at a;split at a
 next d j i=>
  obtain⟨k,rfl,b⟩:=h.unagg;cases c:d[f]? with
  |none=>rw[c]at a;cases a
  |some l=>
   rw[c]at a;obtain⟨v',e,g⟩:=xW (w:=w) a b;exact⟨v',by simp[Instr.field,run_underlying i,c,asAgg,e],g⟩
 ·cases a
def HI{t:TJ}{x y i j v:Value}(c:lZ C t x i=some v)(h:VR la mu x y)(o:VR la mu i j):∃v',(Instr.index t y j).run C.P w = .ok v' w/\VR la mu v v':=by
 unfold lZ at c;split at c
 ·cases c
 next n A=>
  obtain⟨k,rfl⟩:=jR A o;split at c
  next D e E p=>
   obtain⟨F,rfl,g⟩:=h.unagg;split at c
   next f=>
    have l:∃i,C.P.info? e=some i:=by
     unfold wk at c;cases q:C.P.underlying e with
     |none=>rw[q]at c;cases c
     |some d=>exact fw q
    obtain⟨i,z⟩:=l;obtain⟨v',r,u⟩:=xW (w:=w) c g;exact⟨v',by simp[Instr.index,asIntOf,run_underlying p,f.1,f.2,bF z,r],u⟩
   ·cases c
  next s p=>
   have B:=cL (a:=.string s) rfl h;subst B;split at c
   next f=>
    cases m:s[n.toNat]? with
    |none=>rw[m]at c;cases c
    |some b=>
     rw[m]at c;cases c;exact⟨_,by simp[Instr.index,asIntOf,run_underlying p,f,m],.scalar rfl⟩
   ·cases c
  ·cases c
def VR.ptr_add{a:Addr}{c:Value}(h:VR la mu (.pointer (some a)) c)(n:Nat):∃d:Addr,c = .pointer (some d)/\d.spot=none/\VR la mu (.pointer (some { a with off:=a.off+n })) (.pointer (some (d.add n))):=by
 cases h with
 |scalar h=>simp[Am.scalar]at h
 |lptr h=>exact⟨_,rfl,rfl,by rw[bY];exact .lptr h⟩
 |hptr h=>exact⟨_,rfl,rfl,by rw[bY,IH];exact .hptr h⟩
 |gptr=>exact⟨_,rfl,rfl,by rw[bY,IH];exact .gptr⟩
def rM{t:TJ}{x y v:Value}{f:Nat}(b:fR C t x f=some v)(h:VR la mu x y):∃v',(Instr.fieldAt t y f).run C.P w = .ok v' w/\VR la mu v v':=by
 unfold fR at b;split at b
 next n a l=>
  split at b
  next c g=>
   split at b
   ·cases b
   next e=>
    cases b;obtain⟨i,j⟩:=fC e;obtain⟨d,rfl,k,m⟩:=h.ptr_add c.offset;refine⟨.pointer (some (d.add c.offset)),?_,m⟩;simp[Instr.fieldAt,run_underlying l,g,Instr.sureAddr,fieldPlace,bF j,e]
  ·cases b
 ·cases b
def sc{t:TJ}{x y i j v:Value}(c:eS C t x i=some v)(h:VR la mu x y)(s:VR la mu i j):∃v',(Instr.indexAt t y j).run C.P w = .ok v' w/\VR la mu v v':=by
 unfold eS at c;split at c
 ·cases c
 next n D=>
  obtain⟨k,rfl⟩:=jR D s;split at c
  next A e a q=>
   split at c
   ·cases c
   next z=>
    obtain⟨i,m⟩:=fC z;split at c
    next f=>
     cases c;obtain⟨d,rfl,E,F⟩:=h.ptr_add (n.toNat*C.P.cellsOf e);exact⟨_,by simp[Instr.indexAt,asIntOf,run_underlying q,Instr.sureAddr,f.1,f.2,bF m],F⟩
    ·cases c
  next e a A G q=>
   split at c
   ·cases c
   next z=>
    obtain⟨i,m⟩:=fC z;split at c
    next f=>
     cases c;cases h with
     |scalar h=>simp[Am.scalar]at h
     |hslice h H B u=>
      rename_i id l r p
      refine⟨.pointer (some ⟨p.b,p.o+(l+n.toNat*C.P.cellsOf e),none⟩),?_,by rw[ra (by simp[qs])];exact .hptr h⟩;simp[Instr.indexAt,asIntOf,run_underlying q,f.1,f.2,bF m,bY,IH]
     |hslice0 u=>simp at f;omega
     |gslice B u=>
      rename_i g l r
      refine⟨.pointer (some ⟨BV g,CF g+(l+n.toNat*C.P.cellsOf e),none⟩),?_,by rw[mc rfl];exact .gptr⟩;simp[Instr.indexAt,asIntOf,run_underlying q,f.1,f.2,bF m,bY,IH]
     |gslice0 u=>simp at f;omega
    ·cases c
  ·cases c
end
end
section
variable [Val] [Glo]
section
variable {C:Cfg} {la:tf} {mu:kx} {w:World}
def ORel(la:tf)(mu:kx):Ti->Ti->Prop
 |none,none=>True
 |some a,some b=>VR la mu a b
 |_,_=>False
abbrev _root_.Tg:=Option Operand
def ORel.map{f g:Tf}(x:Tg)(h:∀x,VR la mu (f x) (g x)):ORel la mu (x.map f) (x.map g):=by
 cases x with
 |none=>trivial
 |some x=>exact h x
def dR{x y:Ti}{r:Option Int}(a:gQ x=some r)(h:ORel la mu x y) :
  (r=none/\y=none)∨(∃k n,r=some n/\y=some (.int k n)):=by
 cases x with
 |none=>
  cases y with
  |none=>simp[gQ]at a;exact .inl ⟨a.symm,rfl⟩
  |some _=>exact h.elim
 |some x=>
  cases y with
  |none=>exact h.elim
  |some y=>
   cases x<;>simp[gQ]at a
   rename_i k n
   have:=VR.int h;exact .inr ⟨k,n,a.symm,by rw[this]⟩
def ch{k:TF}{n:Int}{y:Nat}{code:BoundsCode}(h0:0<=n)(h1:n<=y)(w:World):(Instr.sliceBound (.int k n) y code).run C.P w = .ok n.toNat w:=by
 simp[Instr.sliceBound,asIntOf,h0,h1]
def zL{q i j:Option Int}{f d g:Ti}{a:Bool}{len cap:Nat}
  (e:(q=none/\f=none)∨(∃k n,q=some n/\f=some (.int k n))) (p:(i=none/\d=none)∨(∃k n,i=some n/\d=some (.int k n)))
  (v:(j=none/\g=none)∨(∃k n,j=some n/\g=some (.int k n)))
  (h0:0<=q.getD 0) (h1:q.getD 0<=i.getD len) (b:i.getD len<=j.getD cap) (c:j.getD cap<=cap) (z:j.isNone∨i.isSome) (w:World) :
  (Instr.sliceBounds a len cap f d g).run C.P w = .ok ((q.getD 0).toNat,(i.getD len).toNat,(j.getD cap).toNat) w:=by
 rcases v with⟨rfl,rfl⟩|⟨x,m,rfl,rfl⟩
 ·rcases p with⟨rfl,rfl⟩|⟨r,h,rfl,rfl⟩
  ·rcases e with⟨rfl,rfl⟩|⟨s,l,rfl,rfl⟩
   ·simp[Instr.sliceBounds]
   ·simp at h0 h1 b c;simp[Instr.sliceBounds,ch h0 h1]
  ·rcases e with⟨rfl,rfl⟩|⟨s,l,rfl,rfl⟩
   ·simp at h0 h1 b c;simp[Instr.sliceBounds,ch h1 b]
   ·simp at h0 h1 b c;have o:=ch (C:=C) (k:=r) (code:=if a then .sliceAcap else .sliceAlen) (by omega) b w;have u:=ch (C:=C) (k:=s) (y:=h.toNat) (code:=.sliceB) h0 (by omega) w;simp[Instr.sliceBounds,o,u]
 ·rcases p with⟨rfl,rfl⟩|⟨r,h,rfl,rfl⟩
  ·simp at z
  ·rcases e with⟨rfl,rfl⟩|⟨s,l,rfl,rfl⟩
   ·simp at h0 h1 b c;have t:=ch (C:=C) (k:=x) (code:=if a then .slice3Acap else .slice3Alen) (by omega) c w;have o:=ch (C:=C) (k:=r) (y:=m.toNat) (code:=.slice3B) (by omega) (by omega) w;simp[Instr.sliceBounds,t,o]
   ·simp at h0 h1 b c;have t:=ch (C:=C) (k:=x) (code:=if a then .slice3Acap else .slice3Alen) (by omega) c w;have o:=ch (C:=C) (k:=r) (n:=h) (y:=m.toNat) (code:=.slice3B) (by omega) (by omega) w;have u:=ch (C:=C) (k:=s) (y:=h.toNat) (code:=.slice3C) h0 (by omega) w;simp[Instr.sliceBounds,t,o,u]
def pT{t b:TJ}{a:Addr}{len cap l h m:Nat}{e d f:Ti}{i:TypeInfo}(j:C.P.underlying t=some (.slice b))(c:C.P.info? b=some i)
  (g:(Instr.sliceBounds true len cap e d f).run C.P w = .ok (l,h,m) w) :
  (Instr.sliceAt t (.slice (some a) len cap) e d f).run C.P w = .ok (.slice (if m=l then some a else some (a.add (l*C.P.cellsOf b))) (h - l) (m - l)) w:=by
 simp only[Instr.sliceAt,Instr.slice,Sem.run_bind,run_underlying j,Result.andThen_ok];simp[g,bF c]
def Iu{t:TJ}{x y v:Value}{Z L mx D B E:Ti}(j:yr C t x Z L mx=some v)(h:VR la mu x y)
  (U:ORel la mu Z D) (Q:ORel la mu L B) (V:ORel la mu mx E):∃v',(Instr.sliceAt t y D B E).run C.P w = .ok v' w/\VR la mu v v':=by
 unfold yr at j;split at j
 next X H c q F e3=>
  have r1:=dR q U;have r2:=dR F Q;have r3:=dR e3 V;split at j
  next s a len Y hu=>
   split at j
   ·cases j
   next hz=>
    obtain⟨i,L⟩:=fC hz;split at j
    ·cases j
    next I=>
     split at j
     next O=>
      obtain⟨S,T,k⟩:=O;cases j;generalize R:X.getD 0=l at *;generalize G:H.getD (len:Int)=hv at *;have K:∀(d:Addr) (cap:Nat),len<=cap->(Y=0∨Y=cap+1)->
        (Instr.sliceAt t (.slice (some d) len cap) D B E).run C.P w =
         .ok (.slice (if (c.getD (cap:Int)).toNat=l.toNat then some d else some (d.add (l.toNat*C.P.cellsOf s))) (hv.toNat - l.toNat) ((c.getD (cap:Int)).toNat - l.toNat)) w/\
        hv<=c.getD (cap:Int)/\c.getD (cap:Int)<=cap:=by
       intro d cap r ag;have N:hv<=c.getD (cap:Int)/\c.getD (cap:Int)<=cap:=by
        cases c with
        |none=>simp only[cW,G]at k;simp;omega
        |some m=>simp only[cW,G]at k;simp;omega
       have b3:c.isNone∨H.isSome:=by
        cases c with
        |none=>exact .inl rfl
        |some m=>exact .inr k.1
       refine⟨pT hu L ?_,N⟩;rw[zL (len:=len) (cap:=cap) r1 r2 r3 (by rw[R];exact S) (by rw[R,G];exact T) (by rw[G];exact N.1) N.2 b3 w,R,G]
      cases h with
      |scalar h=>simp[Am.scalar]at h
      |hslice h hr r J=>
       rename_i id f cap p
       obtain⟨e,z,A⟩:=K ⟨p.b,p.o+f,none⟩ cap r J;refine⟨_,e,?_⟩;have W:C.P.cellsOf s=p.esz:=by simp[qs]at I;exact I.symm
       rw[W];split
       next n=>
        have q:hv.toNat - l.toNat=0:=by omega
        have F:(c.getD (cap:Int)).toNat - l.toNat=0:=by omega
        rw[q,F];refine .hslice0 ?_;cases c with
        |none=>simp[bT]at n ⊢;omega
        |some m=>simp[bT]at n ⊢;omega
       next n=>
        rw[bY,IH];refine .hslice h ?_ (by omega) ?_
        ·have:(l.toNat+((c.getD (cap:Int)).toNat - l.toNat))*p.esz<=cap*p.esz:=LY _ (by omega);rw[Dg]at this;show f+l.toNat*p.esz+_<=p.room;omega
        ·cases c with
         |none=>simp[bT]at n ⊢;omega
         |some m=>simp[bT]at n ⊢
      |hslice0 J=>
       rename_i id f ad M
       obtain⟨e,z,A⟩:=K M 0 (by omega) (by omega);refine⟨_,e,?_⟩;have u:(c.getD ((0:Nat):Int)).toNat=l.toNat:=by omega
       have q:hv.toNat - l.toNat=0:=by omega
       rw[mc u,q,u,Ic];refine .hslice0 ?_;cases c with
       |none=>simp[bT];omega
       |some m=>simp[bT]at u ⊢;omega
      |gslice r J=>
       rename_i g f cap
       obtain⟨e,z,A⟩:=K ⟨BV g,CF g+f,none⟩ cap r J;refine⟨_,e,?_⟩;split
       next n=>
        have q:hv.toNat - l.toNat=0:=by omega
        have F:(c.getD (cap:Int)).toNat - l.toNat=0:=by omega
        rw[q,F];refine .gslice0 ?_;cases c with
        |none=>simp[bT]at n ⊢;omega
        |some m=>simp[bT]at n ⊢;omega
       next n=>
        rw[bY,IH];refine .gslice (by omega) ?_;cases c with
        |none=>simp[bT]at n ⊢;omega
        |some m=>simp[bT]at n ⊢
      |gslice0 J=>
       rename_i g f M
       obtain⟨e,z,A⟩:=K M 0 (by omega) (by omega);refine⟨_,e,?_⟩;have u:(c.getD ((0:Nat):Int)).toNat=l.toNat:=by omega
       have q:hv.toNat - l.toNat=0:=by omega
       rw[mc u,q,u,Ic];refine .gslice0 ?_;cases c with
       |none=>simp[bT];omega
       |some m=>simp[bT]at u ⊢;omega
     ·cases j
  ·cases j
 ·cases j
def HF{vs cs:Tk}(off:Nat):∀(xs ys:Tk) (k:Nat),VRs la mu vs cs->VRs la mu xs ys->
  VRs la mu ((xs.zipIdx k).foldl (λ(a:Tj) (c,j)=>a.setIfInBounds (off+j) c) vs.toArray).toList
   ((ys.zipIdx k).foldl (λ(a:Tj) (c,j)=>a.setIfInBounds (off+j) c) cs.toArray).toList:=by
 intro xs
 induction xs generalizing vs cs with
 |nil=>
  intro ys k h b;obtain rfl:=b.unnil;simpa using h
 |cons x xs i=>
  intro ys k h b;obtain⟨y,ys,rfl,f,g⟩:=b.uncons;simp only[List.zipIdx_cons,IL];have d:vs.toArray.setIfInBounds (off+k) x=(vs.set (off+k) x).toArray:=by simp
  have e:cs.toArray.setIfInBounds (off+k) y=(cs.set (off+k) y).toArray:=by simp
  rw[d,e];exact i ys (k+1) (h.set _ f) g
def Fy(pl:Nat->Option (Nat×Nat)):∀(m a:List (Nat×Value)) (vs cs r:Tj),VRs la mu vs.toList cs.toList->
  (m.length=a.length/\∀(i:Nat) p q,m[i]?=some p->a[i]?=some q->p.1=q.1/\aA p.2=false/\VR la mu p.2 q.2)->
  Instr.fill pl vs m=some r->∃B,Instr.fill pl cs a=some B/\VRs la mu r.toList B.toList:=by
 intro m
 induction m with
 |nil=>
  intro a vs cs r h l b;have:a=[]:=by have:=l.1;cases a<;>simp_all
  subst this;simp[Instr.fill]at b;subst b;exact⟨cs,by simp[Instr.fill],h⟩
 |cons p m H=>
  intro a vs cs r h l b;cases a with
  |nil=>have:=l.1;simp at this
  |cons q a=>
   obtain⟨E,n⟩:=l;obtain⟨e,z,A⟩:=n 0 p q rfl rfl;obtain⟨i,x⟩:=p;obtain⟨j,y⟩:=q;simp only at e z A;subst e;have v:=A.cells z;have o:x.cells.size=y.cells.size:=by simpa using v.1
   have s:vs.size=cs.size:=by simpa using h.1
   unfold Instr.fill at b ⊢;split at b
   ·cases b
   next g D F=>
    split at b
    ·cases b
    next f=>
     rw[ra (by rw[←o,←s];exact f)];refine H a _ _ r ?_ ⟨by simpa using E,λk p q l G=>n (k+1) p q (by simpa using l) (by simpa using G)⟩ b;have conv:∀(u t:Tj),(u.zipIdx.foldl (λ(d:Tj) (c,j)=>d.setIfInBounds (g+j) c) t)=u.toList.zipIdx.foldl (λ(d:Tj) (c,j)=>d.setIfInBounds (g+j) c) t:=by
      intro u t;rw[←qcZ,qdu]
     rw[conv,conv];have:=HF (la:=la) (mu:=mu) g x.cells.toList y.cells.toList 0 h v;simpa using this
def nB{i:TypeInfo}{z:Value}(h:kN i=some z):i.zero=some z/\z.cells.size=i.size/\flat z=true/\aA z=false:=by
 unfold kN at h;split at h
 next c b=>
  split at h
  next a=>cases h;exact⟨b,a⟩
  ·cases h
 ·cases h
def jB{P:TD}{t:TJ}{z:Value}(h:eE P t=some z):∃i,P.info? t=some i/\i.zero=some z/\z.cells.size=i.size/\flat z=true/\aA z=false:=by
 unfold eE at h;cases a:P.info? t with
 |none=>rw[a]at h;cases h
 |some i=>rw[a,A7]at h;exact⟨i,rfl,nB h⟩
def pJ{P:TD}{t:TJ}{z:Value}(h:eE P t=some z):z.cells.size=P.cellsOf t/\flat z=true/\aA z=false:=by
 obtain⟨i,a,_,b,c⟩:=jB h;exact⟨by rw[b];simp[Program.cellsOf,a],c⟩
def So(la:tf)(mu:kx)(a b:List (Nat×Value)):Prop:=a.length=b.length/\∀(i:Nat) p q,a[i]?=some p->b[i]?=some q->p.1=q.1/\aA p.2=false/\VR la mu p.2 q.2
def iG(P:TD)(w:World):∀(a:List Field),(∀f∈a,(P.info? f.type).isSome=true)->
  (a.mapM λf=>(do pure (f.offset,←sizeOf f.type):Sem (Nat×Nat))).run P w = .ok (a.map λf=>(f.offset,P.cellsOf f.type)) w
 | [],_=>by simp
 |f :: a,h=>by
  obtain⟨i,c⟩:=qbu.1 (h f (by simp));have d:=iG P w a λg b=>h g (by simp[b]);simp only[LU,Sem.run_bind,bF c,Result.andThen_ok,Sem.run_pure,d,A5]
def GZ{t:TJ}{m:List (Nat×Value)}{A:Array (Nat×Value)}{v:Value}(d:tJ C t m=some v)(G:So la mu m A.toList) :
  ∃v',(Instr.build t A).run C.P w = .ok v' w/\VR la mu v v':=by
 unfold tJ at d;split at d
 next z pl c a=>
  cases h:Instr.fill pl z.cells m with
  |none=>rw[h]at d;cases d
  |some r=>
   rw[h]at d;cases d;have u:VRs la mu z.cells.toList z.cells.toList:=by
    refine⟨rfl,λi x y g B=>?_⟩;obtain rfl:x=y:=by rw[g]at B;exact AR B
    have:=(pJ c).2.1;cases z with
    |agg o=>exact .scalar (cT (f:=Am.scalar) this g)
    |tuple o=>
     have E:(Value.tuple o).cells.toList=[.tuple o]:=rfl;rw[E]at g;cases i with
     |zero=>simp at g;subst g;exact .of_flat this
     |succ i=>simp at g
    |_=>
     cases i with
     |zero=>simp[Value.cells]at g;subst g;exact .of_flat this
     |succ i=>simp[Value.cells]at g
   obtain⟨H,l,D⟩:=Fy pl m A.toList z.cells z.cells r u G h;refine⟨.agg H,?_,D.agg⟩;have k:(zeroValue t).run C.P w = .ok z w:=by
    obtain⟨i,q,l,_⟩:=jB c;simp[zeroValue,typeInfo,q,l]
   unfold ns at a;split at a
   next p s=>
    split at a
    next b=>
     cases a;have F:=iG C.P w p.toList (λf d=>by
      have:=Array.all_eq_true_iff_forall_mem.1 b f (by simpa using d);simpa using this)
     have j:(λ(i:Nat)=>(((p.toList.map λ(f:Field)=>(f.offset,C.P.cellsOf f.type)).toArray)[i]?:Option (Nat×Nat)))=λ(i:Nat)=>(p[i]?).map λ(f:Field)=>(f.offset,C.P.cellsOf f.type):=by
      funext i;simp
     simp only[Instr.build,Sem.run_bind,k,Result.andThen_ok,run_underlying s,qdG,Sem.run_map,F];rw[j,l];rfl
    ·cases a
   next n e s=>
    split at a
    next b=>
     cases a;obtain⟨i,q⟩:=qbu.1 b;simp only[Instr.build,Sem.run_bind,k,Result.andThen_ok,run_underlying s,bF q];rw[l];rfl
    ·cases a
   ·cases a
 ·cases d
end
end
section
variable [Val] [Glo]
section
variable {C:Cfg} {la:tf} {mu:kx} {w:World}
def cz.of_list{vs:Tk}{c:Tj}(h:VRs AN mu vs c.toList):cz mu vs c 0:=by
 intro i v d;obtain⟨e,a,b⟩:=h.get d;exact⟨e,by simpa using a,b⟩
def cz.cut{vs xs:Tk}{c:Tj}{o off n:Nat}(h:cz mu vs c o)(e:cut vs off n=some xs) :
  ∃ys:List Value,ys.length=n/\VRs AN mu xs ys/\∀(j:Nat) y,ys[j]?=some y->c[o+off+j]?=some y:=by
 unfold Am.cut at e;split at e
 next m=>
  cases e;refine⟨(List.range n).map λj=>c.getD (o+off+j) undef,by simp,⟨by simp;omega,?_⟩,?_⟩
  ·intro i x y d a;have f:i<n:=by
    rcases Bu i n with h|h
    ·exact h
    ·rw[Bp (by simp;omega)]at a;cases a
   rw[Ij,mc f,Ii]at d;obtain⟨l,b,g⟩:=h _ x d;simp[f]at a;subst a;rw[←IH]at b;simpa[b]using g
  ·intro j y a;have k:j<n:=by
    rcases Bu j n with h|h
    ·exact h
    ·rw[Bp (by simp;omega)]at a;cases a
   have d:∃x,vs[off+j]?=some x:=⟨vs[off+j]'(by omega),by simp⟩;obtain⟨x,d⟩:=d;obtain⟨l,b,_⟩:=h _ x d;simp[k]at a;rw[←IH]at b;rw[b,←a];simp[b]
 ·cases e
def rz{b:Nat}{c:Tj}{e:TJ}{fr:Nat×Nat}(h:w.heap[b]?=some (.cells c e fr))(i:Nat):w.cell? ⟨b,i,none⟩=c[i]?:=by
 simp[World.cell?,h]
def lL{vs xs:Tk}{c:Tj}{o off n b:Nat}{e:TJ}{fr:Nat×Nat}(h:cz mu vs c o)(i:cut vs off n=some xs)(g:w.heap[b]?=some (.cells c e fr)) :
  ∃ys:List Value,ys.length=n/\(loadCells ⟨b,o+off,none⟩ n).run C.P w = .ok ys.toArray w/\VRs AN mu xs ys:=by
 obtain⟨ys,a,d,f⟩:=h.cut i;refine⟨ys,a,?_,d⟩;rw[←a];refine run_loadCells_list w _ ys λj v k=>?_;rw[bY,rz g];exact f j v k
def dY{vs:Tk}{c:Tj}{o off b:Nat}{e:TJ}{fr:Nat×Nat}{t:TJ}{v:Value}(h:cz mu vs c o)(g:dv C.P t vs off=some v)(q:w.heap[b]?=some (.cells c e fr)) :
  ∃v',(loadVar t ⟨b,o+off,none⟩).run C.P w = .ok v' w/\VR AN mu v v':=by
 unfold dv at g;cases l:C.P.underlying t with
 |none=>rw[l]at g;cases g
 |some d=>
  rw[l]at g;obtain⟨i,u⟩:=fw l;have k:=uV l w;have n:=bF u w;have x:qr d=true->((cut vs off (C.P.cellsOf t)).map λr=>Value.agg r.toArray)=some v->∃v',(loadVar t ⟨b,o+off,none⟩).run C.P w = .ok v' w/\VR AN mu v v':=by
   intro f j;cases a:cut vs off (C.P.cellsOf t)with
   |none=>rw[a]at j;cases j
   |some A=>
    rw[a]at j;cases j;obtain⟨z,p,m,s⟩:=lL (C:=C) h a q;exact⟨.agg z.toArray,by simp[loadVar,k,f,n,m],VRs.agg (by simpa using s)⟩
  have y:qr d=false->vs[off]?=some v->∃v',(loadVar t ⟨b,o+off,none⟩).run C.P w = .ok v' w/\VR AN mu v v':=by
   intro f j;obtain⟨v',p,m⟩:=h off v j;exact⟨v',by simp[loadVar,k,f,rz q,p],m⟩
  cases d<;>first|exact x rfl g|exact y rfl g
def jf{b:Nat}{c cs:Tj}{e:TJ}{fr:Nat×Nat}(h:w.heap[b]?=some (.cells c e fr)):(w.setRow b cs).heap=w.heap.setIfInBounds b (.cells cs e fr):=by
 have d:b<w.heap.size:=(qaQ.1 h).1;apply Array.ext (by simp[World.setRow]);intro k j l;have f:(w.setRow b cs).heap[k]?=(w.heap.setIfInBounds b (.cells cs e fr))[k]?:=by
  by_cases a:k=b
  ·subst a;rw[setRow_heap w k c cs e fr h];simp[d]
  ·rw[setRow_other w b k cs a,qca (B9 a)]
 have g:=M7 j;have i:=M7 l;rw[g,i]at f;exact AR f
def putCells(c:Tj)(at_:Nat)(ys:Tk):Tj:=(c.toList.take at_++ys++c.toList.drop (at_+ys.length)).toArray
def gu{c:Tj}{at_:Nat}{ys:Tk}(h:at_+ys.length<=c.size):(putCells c at_ ys).size=c.size:=by
 simp[putCells];omega
def mi{c:Tj}{at_:Nat}{ys:Tk}(h:at_+ys.length<=c.size)(i:Nat) :
  (putCells c at_ ys)[i]?=if at_<=i/\i<at_+ys.length then ys[i - at_]? else c[i]?:=by
 have a:(c.toList.take at_).length=at_:=by simp;omega
 simp only[putCells,List.getElem?_toArray];by_cases b:i<at_
 ·rw[A6,BZ (by omega),Ij,mc b,ra (by omega)];simp
 ·rw[A6,Cv (by omega),a];by_cases d:i<at_+ys.length
  ·rw[BZ (by omega),mc ⟨by omega,d⟩]
  ·rw[Cv (by omega),Ii,ra (by omega)];have:at_+ys.length+(i - at_ - ys.length)=i:=by omega
   rw[this];simp
def zU{vs b xs:Tk}{off:Nat}(c:splice vs off xs=some b)(i:Nat) :
  b[i]?=if off<=i/\i<off+xs.length then xs[i - off]? else vs[i]?:=by
 unfold Am.splice at c;split at c
 next f=>
  cases c;have a:(vs.take off).length=off:=by simp;omega
  by_cases d:i<off
  ·rw[A6,BZ (by omega),Ij,mc d,ra (by omega)]
  ·rw[A6,Cv (by omega),a];by_cases e:i<off+xs.length
   ·rw[BZ (by omega),mc ⟨by omega,e⟩]
   ·rw[Cv (by omega),Ii,ra (by omega)]
    congr 1;omega
 ·cases c
def gA{vs a xs:Tk}{off:Nat}(b:splice vs off xs=some a):a.length=vs.length/\off+xs.length<=vs.length:=by
 unfold Am.splice at b;split at b
 ·cases b;simp;omega
 ·cases b
def qW{f:Value->Bool}{vs a xs:Tk}{off:Nat}(b:splice vs off xs=some a)(h1:vs.all f=true)(d:xs.all f=true):a.all f=true:=by
 unfold Am.splice at b;split at b
 ·cases b;rw[qdW,qdW,wa,wa];refine⟨⟨qac.2 λx c=>qac.1 h1 x (IM c),d⟩,qac.2 λx c=>qac.1 h1 x (LX c)⟩
 ·cases b
def cz.splice{vs b xs ys:Tk}{c:Tj}{o off:Nat}(h:cz mu vs c o)(e:splice vs off xs=some b)(f:VRs AN mu xs ys)(k:o+vs.length<=c.size) :
  cz mu b (putCells c (o+off) ys) o:=by
 have n:=gA e;have l:=f.1;intro i v a;rw[zU e]at a;rw[mi (by omega)];by_cases d:off<=i/\i<off+xs.length
 ·rw[mc d]at a;rw[mc (by omega)];obtain⟨m,g,j⟩:=f.get a;exact⟨m,by rw[show o+i - (o+off)=i - off by omega];exact g,j⟩
 ·rw[ra d]at a;rw[ra (by omega)];exact h i v a
def gp{xs ys:Tk}(e:VRs la mu xs ys)(h:xs.all bg=true):∀y∈ys,y.oneCell'=true:=by
 intro y g;obtain⟨i,c⟩:=BK g;have f:i<ys.length:=by
  rcases Bu i ys.length with h|h
  ·exact h
  ·rw[Bp h]at c;cases c
 have b:i<xs.length:=by have:=e.1;omega
 have a:=cT h (show xs[i]?=some xs[i]by simp[b]);simp only[bg,wa]at a;have d:=e.2 i xs[i] y (by simp[b]) c;have:=lr a.2 d;cases y<;>first|rfl|exact(we a.2 d).elim|(simp[aJ]at this)
def dM{c:Tj}{e:TJ}{b at_:Nat}{ys:Tk}(a:w.heap[b]?=some (.cells c e (0,0)))(d:at_+ys.length<=c.size)(h1:∀y∈ys,y.oneCell'=true) :
  (storeCells ⟨b,at_,none⟩ ys).run C.P w = .ok () (w.setRow b (putCells c at_ ys)):=by
 have:=run_storeCells_at C.P b at_ e ys 0 c w a (by simpa using d) h1;simpa[putCells]using this
def mo{c:Tj}{e t:TJ}{b at_:Nat}{x y:Value}(l:aA x=false)(m:VR la mu x y)(j:x.cells.size=C.P.cellsOf t/\(C.P.info? t).isSome=true)(a:x.cells.toList.all bg=true)
  (g:w.heap[b]?=some (.cells c e (0,0))) (n:at_+x.cells.size<=c.size) :
  (storeVar t ⟨b,at_,none⟩ y).run C.P w = .ok () (w.setRow b (putCells c at_ y.cells.toList)):=by
 have f:=m.cells l;have k:x.cells.size=y.cells.size:=by simpa using f.1
 obtain⟨i,h⟩:=qbu.1 j.2;have d:=dM (C:=C) (at_:=at_) (ys:=y.cells.toList) g (by simp;omega) (gp f a);simp[storeVar,bF h,show y.cells.size=C.P.cellsOf t by omega,d]
end
end
section
variable [Val] [Glo]
def DE(C:Cfg)(b:Nat)(mu:kx)(H:Tp)(w:World)(s:Sem Next)(H':Tp)(v:Value):Prop:=
 ∃c v' w' a,s.run C.P w = .ok c w'/\(c = .value v'∨(c = .skip/\v'=undef))/\VR AN a v v'/\WR C b a H' w'/\Evo H mu w H' a w'/\V5 mu a H' w'
def nD(C:Cfg)(g:Nat)(la:tf)(mu:kx)(σ:St)(w:World)(s:Sem Next):Eff->Prop
 | .val v=>vm C.P la mu s w v
 | .lnew _ vs=>∃a e,s.run C.P w = .ok (.value (.pointer (some ⟨w.heap.size,0,none⟩))) (w.alloc (.cells a e))/\VRs AN mu vs a.toList/\vs.all bg=true
 | .lget k f=>∀vs v,σ.loc[k]?=some (some vs)->f vs=some v->vm C.P la mu s w v
 | .lset k f=>∀vs d,σ.loc[k]?=some (some vs)->f vs=some d->∃b c cs e,la k=some b/\w.heap[b]?=some (.cells c e (0,0))/\s.run C.P w = .ok .skip (w.setRow b cs)/\VRs AN mu d cs.toList/\d.all bg=true
 | .hget f=>∀v,f σ.heap=some v->vm C.P la mu s w v
 | .hop f=>∀H' v,f σ.heap=some (H',v)->DE C g mu σ.heap w s H' v
 | .call f args=>∃args':Array Value,VRs AN mu args args'.toList/\s.run C.P w=(callFunc f args').run C.P w
 | .yield l args=>∃p args',mu l=some p/\VRs AN mu args (args':Tj).toList/\s.run C.P w=(Instr.yield p.b args').run C.P w
section
variable {C:Cfg} {base:Nat} {la:tf} {mu:kx} {σ:St} {a:Act} {w:World}
def qo{v c:Value}{p:Nat×Nat}(d:iq v=some p)(h:VR la mu v c):∃q,mu p.1=some q/\c = .pointer (some ⟨q.b,q.o+p.2,none⟩):=by
 unfold iq at d;split at d
 next a=>
  split at d
  next e=>
   cases d;cases h with
   |scalar h=>simp[Am.scalar]at h
   |lptr h=>simp at e
   |hptr h=>exact⟨_,h,rfl⟩
   |gptr=>simp at e
  ·cases d
 ·cases d
def ql{v c:Value}{p:Nat×Nat}(b:gi v=some p)(h:VR la mu v c):c = .pointer (some ⟨BV p.1,CF p.1+p.2,none⟩):=by
 unfold gi at b;split at b
 next a=>
  split at b
  next d=>
   cases b;cases h with
   |scalar h=>simp[Am.scalar]at h
   |lptr h=>simp at d
   |hptr h=>simp at d
   |gptr=>rfl
  ·cases b
 ·cases b
def uA{v c:Value}{s off:Nat}(d:jc s v=some off)(h:VR la mu v c):∃b,la s=some b/\c = .pointer (some ⟨b,off,none⟩):=by
 unfold jc at d;split at d
 next a=>
  split at d
  next f=>
   cases d;obtain⟨e,rfl⟩:=f;cases h with
   |scalar h=>simp[Am.scalar]at h
   |lptr h=>exact⟨_,h,rfl⟩
   |hptr h=>simp at e
   |gptr=>simp at e
  ·cases d
 ·cases d
def ur(l:WR C base mu σ.heap w){id:Nat}{vs:Tk}(h:fj σ.heap id=some vs){p:Pl}(j:mu id=some p) :
  ∃c e fr,w.heap[p.b]?=some (.cells c e fr)/\cz mu vs c p.o:=by
 unfold fj at h;split at h
 next n f m hid=>
  cases h;obtain⟨q,d,k⟩:=l.obj id _ hid rfl;obtain rfl:p=q:=by rw[j]at d;exact AR d
  obtain⟨_,_,_,c,e,fr,g,_,_,i⟩:=k;exact⟨c,e,fr,g,i⟩
 ·cases h
def FF(f:WR C base mu σ.heap w){g:Nat}{vs:Tk}(h:C.G g=some vs):∃c e fr,w.heap[BV g]?=some (.cells c e fr)/\cz mu vs c (CF g):=by
 obtain⟨_,_,c,e,fr,b,d⟩:=f.glob g vs h;exact⟨c,e,fr,b,d⟩
def EN(h:SR C base la mu σ a.tmps w){s b:Nat}{vs:Tk}(l:σ.loc[s]?=some (some vs))(k:la s=some b) :
  ∃c e,w.heap[b]?=some (.cells c e (0,0))/\VRs AN mu vs c.toList/\vs.all bg=true:=by
 obtain⟨f,c,e,d,m,g,i,j,n⟩:=h.loc s vs l;obtain rfl:b=f:=by rw[k]at d;exact AR d
 exact⟨c,e,g,j,i⟩
def iO{c:Value}{t:TJ}{d:Addr}{v':Value}(b:c = .pointer (some d))(h:(loadVar t d).run C.P w = .ok v' w):(Instr.loadAt t c).run C.P w = .ok v' w:=by
 subst b;simp[Instr.loadAt,Instr.sureAddr,h]
def zi(h:SR C base la mu σ a.tmps w){pts:Tx}{t:TJ}{x:TG}{e:Eff}(d:dV C pts t x (ke σ.tmps x)=some e) :
  nD C base la mu σ w (do pure (.value (←Instr.loadAt t (a.eval x)))) e:=by
 have u:=aM h x;unfold dV at d;split at d
 ·cases g:iq (ke σ.tmps x)with
  |none=>
   rw[g]at d;cases r:gi (ke σ.tmps x)with
   |none=>rw[r]at d;cases d
   |some p=>
    rw[r]at d;cases d;have m:=ql r u;intro v f;simp only at f;cases o:C.G p.1 with
    |none=>rw[o]at f;cases f
    |some y=>
     rw[o,A7]at f;obtain⟨c,e,A,i,j⟩:=FF h.wr o;obtain⟨z,k,l⟩:=dY (C:=C) j f i;exact gD (iO m k) l.up
  |some p=>
   rw[g]at d;cases d;obtain⟨q,D,m⟩:=qo g u;intro v f;simp only at f;cases n:fj σ.heap p.1 with
   |none=>rw[n]at f;cases f
   |some y=>
    rw[n]at f;obtain⟨c,e,A,i,j⟩:=ur h.wr n D;obtain⟨z,k,l⟩:=dY (C:=C) j f i;exact gD (iO m k) l.up
 ·cases g:gi (ke σ.tmps x)with
  |none=>rw[g]at d;cases d
  |some p=>
   rw[g]at d;have m:=ql g u;cases o:C.G p.1 with
   |none=>rw[A7,o]at d;cases d
   |some y=>
    rw[A7,o,A7]at d;cases f:dv C.P t y p.2 with
    |none=>rw[f]at d;cases d
    |some v=>
     rw[f]at d;cases d;obtain⟨c,e,A,i,j⟩:=FF h.wr o;obtain⟨z,k,l⟩:=dY (C:=C) j f i;exact gD (iO m k) l.up
 next s _=>
  cases g:jc s (ke σ.tmps x)with
  |none=>rw[g]at d;cases d
  |some F=>
   rw[g]at d;cases d;obtain⟨b,B,m⟩:=uA g u;intro y v E f;obtain⟨c,e,i,j,_⟩:=EN h E B;obtain⟨z,k,l⟩:=dY (C:=C) (cz.of_list j) f i;exact gD (iO (by rw[m,BT]) k) l.up
def jg{t:TJ}{x:Value}{vs b:Tk}{off:Nat}(h:eP C.P t x vs off=some b) :
  (x.cells.size=C.P.cellsOf t/\(C.P.info? t).isSome=true)/\x.cells.toList.all bg=true/\splice vs off x.cells.toList=some b:=by
 unfold eP at h;split at h
 next c=>
  split at h
  next d=>exact⟨c,d,h⟩
  ·cases h
 ·cases h
def pt{c y:Value}{t:TJ}{d:Addr}{w':World}(b:c = .pointer (some d))(h:(storeVar t d y).run C.P w = .ok () w'):(Instr.storeAt t c y).run C.P w = .ok () w':=by
 subst b;simp[Instr.storeAt,Instr.sureAddr,h]
def WR.splice(k:WR C base mu σ.heap w){id:Nat}{vs d xs ys:Tk}{esz off:Nat}{p:Pl}(hid:σ.heap[id]?=some (.cells vs esz true))(i:mu id=some p)
  (g:Am.splice vs off xs=some d) (l:VRs AN mu xs ys) (f:xs.all bg=true) :
  ∃c e,w.heap[p.b]?=some (.cells c e (0,0))/\p.o+off+ys.length<=c.size/\
   WR C base mu (σ.heap.set id (.cells d esz true)) (w.setRow p.b (putCells c (p.o+off) ys))/\Evo σ.heap mu w (σ.heap.set id (.cells d esz true)) mu (w.setRow p.b (putCells c (p.o+off) ys)):=by
 obtain⟨q,j,u⟩:=k.obj id _ hid rfl;obtain rfl:p=q:=by rw[i]at j;exact AR j
 obtain⟨m,y,n,c,e,x,h,r,s,t⟩:=u;obtain rfl:=s rfl;have z:=gA g;have v:=l.1;refine⟨c,e,h,by omega,?_⟩;refine k.set hid rfl i (jf h) rfl rfl rfl _ (λ_=>rfl) ?_;exact⟨m,by omega,qW g n f,_,e,_,rfl,by rw[gu (by omega)];exact r,λ_=>rfl,cz.splice t g l (by omega)⟩
def wE(h:SR C base la mu σ a.tmps w){pts:Tx}{t:TJ}{x z:TG}{e:Eff}(d:eN C pts t x (ke σ.tmps x) (ke σ.tmps z)=some e) :
  nD C base la mu σ w (do Instr.storeAt t (a.eval x) (a.eval z);pure .skip) e:=by
 have R:=aM h x;have G:=aM h z;unfold eN at d;split at d
 ·cases d
 next B=>
  simp only[CO]at B;split at d
  ·cases k:iq (ke σ.tmps x)with
   |none=>rw[k]at d;cases d
   |some p=>
    rw[k]at d;cases d;obtain⟨q,W,I⟩:=qo k R;intro H' v m;unfold jm at m;split at m
    next K T hid=>
     cases g:eP C.P t (ke σ.tmps z) K p.2 with
     |none=>rw[g]at m;cases m
     |some L=>
      rw[g]at m;cases m;obtain⟨H,j,r⟩:=jg g;have f:=G.cells B;obtain⟨c,e,D,E,F,U⟩:=h.wr.splice hid W r (f.downc j) j;have l:=mo (C:=C) (at_:=q.o+p.2) B G H j D (by have:=f.1;simp at this E ⊢;omega);refine⟨.skip,undef,_,mu,?_,.inr ⟨rfl,rfl⟩,.undef,F,U,F.obj⟩;simp[pt I l]
    ·cases m
  ·cases d
  next s _=>
   cases k:jc s (ke σ.tmps x)with
   |none=>rw[k]at d;cases d
   |some n=>
    rw[k]at d;cases d;obtain⟨b,N,I⟩:=uA k R;intro K L X g;obtain⟨H,j,r⟩:=jg g;obtain⟨c,e,D,E,F⟩:=EN h X N;have f:=G.cells B;have Q:=gA r;have Z:K.length=c.size:=by simpa using E.1
    have O:(ke σ.tmps z).cells.size=(a.eval z).cells.size:=by simpa using f.1
    have l:=mo (C:=C) (at_:=n) B G H j D (by simp at Q;omega);refine⟨b,c,putCells c n (a.eval z).cells.toList,e,N,D,by simp[pt I l],?_,qW r F j⟩;have A:=cz.splice (o:=0) (cz.of_list E) r (f.downc j) (by omega);rw[BT]at A;have J:(putCells c n (a.eval z).cells.toList).size=c.size:=gu (by simp at Q ⊢;omega);refine⟨by simp[J];omega,λi u y Y S=>?_⟩;obtain⟨u',M,V⟩:=A i u Y;rw[BT]at M;obtain rfl:u'=y:=by rw[qda,M]at S;exact AR S
    exact V
def me(h:SR C base la mu σ a.tmps w)(o:base<=w.heap.size){pts:Tx}{dst:Tn}{t:TJ}{v c:Value}{e:Eff}(q:VR la mu v c)(f:cI C pts dst t v=some e) :
  nD C base la mu σ w (do pure (.value (←Instr.box t c))) e:=by
 unfold cI at f;split at f
 ·cases f
 next l=>
  simp only[CO]at l;have g:=q.cells l;split at f
  ·cases f
  next d=>
   split at f
   ·cases f
   next b=>
    simp only[CO,qc0]at b;split at f
    ·cases f;exact⟨c.cells,t,by simp[Instr.box,newVar,newRow],g.downc b,b⟩
    ·cases f;intro s u k;cases k;have j:=h.wr.new o (w':=w.alloc (.cells c.cells t)) (x:=.cells c.cells t) rfl rfl rfl rfl (.cells v.cells.toList (lK C.P t) true) ⟨w.heap.size,0,c.cells.size,lK C.P t⟩ rfl (by
      have p:v.cells.size=c.cells.size:=by simpa using g.1
      refine⟨rfl,by simp[p],b,c.cells,t,_,rfl,by simp,λ_=>rfl,λi u k=>?_⟩;obtain⟨r,m,n⟩:=(g.downc b).get k;exact⟨r,by simpa using m,n⟩) (λ_=>rfl)
     refine⟨.value (.pointer (some ⟨w.heap.size,0,none⟩)),_,_,_,by simp[Instr.box,newVar,newRow],.inl rfl,?_,j.1,j.2.1,j.2.2⟩;exact .hptr (bU _ _ _)
end
end
section
variable [Val] [Glo]
section
variable {C:Cfg} {base:Nat} {la:tf} {mu:kx} {σ:St} {a:Act} {w:World}
def WR.newRow(q:WR C base mu σ.heap w)(l:base<=w.heap.size){w':World}{vs ys:Tk}{cs:Tj}{e:TJ}{esz:Nat}(h:VRs AN mu vs ys)(c:vs.all bg=true)
  (b:∀(i:Nat) y,ys[i]?=some y->cs[i]?=some y) (g:ys.length<=cs.size) (f:w'.heap=w.heap.push (.cells cs e)) (d:w'.os=w.os) (n:w'.tape=w.tape) (o:w'.output=w.output) (m:w.drawn<=w'.drawn:=by exact Ah _) :
  WR C base (upd mu σ.heap.length ⟨w.heap.size,0,cs.size,esz⟩) (σ.heap++[.cells vs esz true]) w'/\Evo σ.heap mu w (σ.heap++[.cells vs esz true]) (upd mu σ.heap.length ⟨w.heap.size,0,cs.size,esz⟩) w'/\V5 mu (upd mu σ.heap.length ⟨w.heap.size,0,cs.size,esz⟩) (σ.heap++[.cells vs esz true]) w':=by
 refine q.new l f d n o _ _ rfl ⟨rfl,by have:=h.1;simp only;omega,c,cs,e,_,rfl,by simp,λ_=>rfl,λi v p=>?_⟩ (λ_=>rfl) m;obtain⟨y,j,k⟩:=h.get p;exact⟨y,by simpa using b i y j,k⟩
def qk{z:Value}(b:flat z=true)(e:aA z=false):z.cells.toList.all scalar=true:=by
 cases z with
 |agg c=>exact b
 |tuple c=>
  have d:iY (.tuple c)=true:=by simpa[aA]using e
  simp[flat,fT d]at b
 |_=>simpa[Value.cells,flat,fL]using b
def gz{v:Value}(h:scalar v=true):bg v=true:=by
 unfold Am.scalar at h;split at h<;>first|rfl|cases h
def VRs.scalars{vs:Tk}(h:vs.all scalar=true):VRs la mu vs vs:=by
 refine⟨rfl,λi x y b c=>?_⟩;obtain rfl:x=y:=by rw[b]at c;exact AR c
 exact .scalar (cT h b)
def wN{f g:Value->Bool}{vs:Tk}(h:vs.all f=true)(b:∀v,f v=true->g v=true):vs.all g=true:=
 qac.2 λx c=>b x (qac.1 h x c)
def Aa{z:Tk}{n i:Nat}(h:i<n*z.length):(bk z n)[i]?=z[i%z.length]?:=by
 unfold bk
 induction n generalizing i with
 |zero=>simp at h
 |succ n d=>
  rw[qcE,VZ];by_cases c:i<z.length
  ·rw[BZ c,Nat.mod_eq_of_lt c]
  ·rw[Cv (by omega)];have e:0<z.length:=by
    rcases qdE z.length with b|b
    ·rw[b]at h;simp at h
    ·exact b
   rw[Dg,Ik]at h;rw[d (by omega),←Nat.mod_eq_sub_mod (by omega)]
def eQ{z:Tk}{n:Nat}:(bk z n).length=n*z.length:=by
 unfold bk
 induction n with
 |zero=>simp
 |succ n b=>rw[qcE,VZ,Bv,b,Dg];omega
def iV{f:Value->Bool}{z:Tk}{n:Nat}(h:z.all f=true):(bk z n).all f=true:=by
 unfold bk;rw[List.all_flatten];refine qac.2 λl b=>?_;rw[List.mem_replicate]at b;rw[b.2];exact h
def jW{z:Tj}{n m:Nat}(d:z.size≠0)(h:m=n*z.size)(i:Nat)(c:i<m):(madeCells z m)[i]?=(bk z.toList n)[i]?:=by
 rw[Aa (by simp;omega)];have b:i%z.size<z.size:=Il _ (by omega);simp only[madeCells,Array.getElem?_map];rw[Array.getElem?_range,mc c];simp[b]
def su(h:SR C base la mu σ a.tmps w)(L:base<=w.heap.size){t:TJ}{l c:TG}{H':Tp}{v:Value}
  (f:dx C t (ke σ.tmps l) (ke σ.tmps c) σ.heap=some (H',v)):DE C base mu σ.heap w (do pure (.value (←Instr.makeSlice t (a.eval l) (a.eval c)))) H' v:=by
 unfold dx at f;split at f
 next E d g F K O=>
  split at f
  next b M=>
   split at f
   ·cases f
   next N=>
    split at f
    next z k=>
     obtain⟨o,p,B,D⟩:=nB k
     first
     |skip
      split at f
      next u=>
       cases f;obtain⟨G,H,S,T⟩:=u;obtain⟨R,J⟩:=jR F (aM h l);obtain⟨Q,I⟩:=jR K (aM h c);have j:(b.bytes:Int)*d<=281474976710656:=by
        have F:(b.bytes:Int)*d<=4096*d:=qcB (by omega) (by omega);omega
       have q:=run_make (P:=C.P) w t g b z O M o R Q E d G H j (by omega);have r:=qk B D;have m:(madeCells z.cells (d.toNat*b.size)).size=d.toNat*b.size:=by simp[madeCells]
       have s:=h.wr.newRow L (w':=w.alloc (.cells (madeCells z.cells (d.toNat*b.size)) g)) (esz:=b.size) (VRs.scalars (la:=AN) (mu:=mu) (iV (n:=d.toNat) r)) (wN (iV r) λ_=>gz)
        (cs:=madeCells z.cells (d.toNat*b.size)) (e:=g) (λi y A=>by
         have x:i<d.toNat*b.size:=by
          rcases Bu i (d.toNat*b.size)with h|h
          ·exact h
          ·rw[Bp (by rw[eQ];simp[p];exact h)]at A;cases A
         rw[jW (n:=d.toNat) (by omega) (by rw[p]) i x];exact A) (by rw[eQ,m];simp[p]) rfl rfl rfl rfl
       refine⟨.value (.slice (some ⟨w.heap.size,0,none⟩) E.toNat d.toNat),_,_,_,by rw[J,I];simp[q],.inl rfl,?_,s.1,s.2.1,s.2.2⟩;have:=VR.hslice (la:=AN) (id:=σ.heap.length) (off:=0) (len:=E.toNat) (cap:=d.toNat) (cx:=d.toNat+1) (bU mu σ.heap.length ⟨w.heap.size,0,(madeCells z.cells (d.toNat*b.size)).size,b.size⟩)
        (by simp only[m];omega) (by omega) (.inr rfl)
       simpa using this
      ·cases f
    ·cases f
  ·cases f
 ·cases f
def Hw(pl:Nat->Option (Nat×Nat)):∀(e:List (Nat×Value)) (cs r:Tj),Instr.fill pl cs e=some r->r.size=cs.size:=by
 intro e
 induction e with
 |nil=>intro cs r h;simp[Instr.fill]at h;rw[h]
 |cons p e g=>
  intro cs r h;obtain⟨i,x⟩:=p;unfold Instr.fill at h;split at h
  ·cases h
  ·split at h
   ·cases h
   ·rw[g _ _ h];have:∀(l:List (Value×Nat)) (b:Tj) (d:Nat),(l.foldl (λ(b:Tj) (c,j)=>b.setIfInBounds (d+j) c) b).size=b.size:=by
     intro l
     induction l with
     |nil=>intro b d;rfl
     |cons y l f=>intro b d;rw[IL,f];simp
    rw[←qcZ];exact this _ _ _
def HE{f:Value->Bool}(off:Nat):∀(l:List (Value×Nat)) (b:Tj),b.toList.all f=true->(∀p∈l,f p.1=true)->
  (l.foldl (λ(b:Tj) (c,j)=>b.setIfInBounds (off+j) c) b).toList.all f=true:=by
 intro l
 induction l with
 |nil=>intro b h _;exact h
 |cons y l k=>
  intro b h e;rw[IL];refine k _ (qac.2 λx g=>?_) λp i=>e p (by simp[i]);simp only[Array.toList_setIfInBounds]at g;rcases R0 g with d|d
  ·exact qac.1 h x d
  ·rw[d];exact e y (by simp)
def J7{f:Value->Bool}(pl:Nat->Option (Nat×Nat)):∀(c:List (Nat×Value)) (cs r:Tj),cs.toList.all f=true->(∀p∈c,p.2.cells.toList.all f=true)->Instr.fill pl cs c=some r->r.toList.all f=true:=by
 intro c
 induction c with
 |nil=>intro cs r h _ b;simp[Instr.fill]at b;subst b;exact h
 |cons p c n=>
  intro cs r h j b;obtain⟨i,x⟩:=p;unfold Instr.fill at b;split at b
  ·cases b
  next g k m=>
   split at b
   ·cases b
   ·refine n _ r ?_ (λq d=>j q (by simp[d])) b;rw[←qcZ,qdu];refine HE g _ _ h λq d=>?_;have e:=List.mem_zipIdx d;exact qac.1 (j (i,x) (by simp)) q.1 (by obtain⟨_,_,l⟩:=e;rw[l];exact qdj _)
def pN(h:SR C base la mu σ a.tmps w)(V:base<=w.heap.size){t:TJ}{n:Nat}{q:List (Nat×Value)}{M:Array (Nat×Value)}{r:Nat×List Value}
  (W:So la mu q M.toList) (G:∀p∈q,p.2.cells.toList.all bg=true) (d:eY C t n q=some r) :
  DE C base mu σ.heap w (do pure (.value (←Instr.buildSlice t n M))) (σ.heap++[.cells r.2 r.1 true]) (.slice (some ⟨σ.heap.length,0,qs r.1⟩) n (n+1)):=by
 unfold eY at d;split at d
 next c R=>
  split at d
  next b s=>
   split at d
   ·cases d
   next F=>
    split at d
    ·cases d
    next O=>
     split at d
     next z j=>
      obtain⟨l,o,J,L⟩:=nB j
      first
      |skip
       have u:=qk J L;cases f:Instr.fill (λi=>some (i*b.size,b.size)) (bk z.cells.toList n).toArray q with
       |none=>rw[f]at d;cases d
       |some cs=>
        rw[f]at d;cases d;have I:VRs la mu (bk z.cells.toList n) (bk z.cells.toList n):=VRs.scalars (iV u);obtain⟨v,B,U⟩:=Fy (la:=la) (mu:=mu) _ q M.toList (bk z.cells.toList n).toArray (bk z.cells.toList n).toArray cs (by simpa using I) W f;have fj:cs.toList.all bg=true:=J7 _ q _ cs (by simpa using wN (iV u) λ_=>gz) G f;have k:v.size=n*b.size:=by
         rw[Hw _ _ _ _ B];simp[eQ,o]
        have Q:¬b.size=0:=F;have g:((Array.range (n*b.size)).map (z.cells[· % z.cells.size]!))=(bk z.cells.toList n).toArray:=by
         apply qcI;intro i;rw[show((bk z.cells.toList n).toArray)[i]?=(bk z.cells.toList n)[i]? from by simp];by_cases E:i<n*b.size
         ·exact jW (z:=z.cells) (n:=n) (m:=n*b.size) (by omega) (by rw[o]) i E
         ·rw[RV (by simp;omega),Bp (by simp[eQ,o];omega)]
        have D:=h.wr.newRow V (w':=w.alloc (.cells v c)) (esz:=b.size) (U.downc fj) fj (cs:=v) (e:=c) (λi y X=>by simpa using X) (by simp) rfl rfl rfl rfl;refine⟨.value (.slice (some ⟨w.heap.size,0,none⟩) n n),_,_,_,?_,.inl rfl,?_,D.1,D.2.1,D.2.2⟩
        ·have x:¬(n*C.P.cellsOf c > 2 ^ 24):=by simp only[Program.cellsOf,s,BP,Ie];omega
         have A:C.P.cellsOf c=b.size:=by simp[Program.cellsOf,s]
         have K:(zeroValue c).run C.P w = .ok z w:=by simp[zeroValue,typeInfo,s,l]
         rw[A]at x;by_cases T:n=0
         ·subst T;have H:∀N:Array Value,((Array.range (0*b.size)).map (N[· % N.size]!))=(bk z.cells.toList 0).toArray:=λN=>by
           rw[L0];simp[bk]
          simp only[Instr.buildSlice,Sem.run_bind,run_underlying R,Result.andThen_ok,bF s,A,mc (L0 b.size),ra x,Sem.run_pure,H,B];simp[newRow]
         ·have S:¬(n*b.size=0):=by
           simp only[Nat.mul_eq_zero];omega
          simp only[Instr.buildSlice,Sem.run_bind,run_underlying R,Result.andThen_ok,bF s,A,ra S,ra x,K,Sem.run_pure,g,B];simp[newRow]
        ·have:=VR.hslice (la:=AN) (id:=σ.heap.length) (off:=0) (len:=n) (cap:=n) (cx:=n+1) (bU mu σ.heap.length ⟨w.heap.size,0,v.size,b.size⟩) (by simp only[k];omega) (by omega) (.inr rfl);simpa using this
     ·cases d
  ·cases d
 ·cases d
def jD(Z:WR C base mu σ.heap w){x y:Value}{esz:Nat}{new:Tk}{n:Nat}(g:VR la mu x y)(f:dS C σ.heap esz x=some (new,n))(k:Nat)(w':World)(V:w'.heap=w.heap) :
  ∃ys:List Value,(Builtin.lenOf y).run C.P w' = .ok n w'/\ys.length=n*esz/\VRs AN mu new ys/\new.all bg=true/\
   (k<=n->(Builtin.firstCells esz k y).run C.P w' = .ok (ys.take (k*esz)).toArray w'):=by
 have i:∀ {t z:Tk} {c:Tj} {o r b m:Nat} {e:TJ} {A:Nat×Nat},cz mu t c o->cut t r (m*esz)=some z->w.heap[b]?=some (.cells c e A)->t.all bg=true->
   ∃ys:List Value,ys.length=m*esz/\VRs AN mu z ys/\z.all bg=true/\(k<=m->(loadCells ⟨b,o+r,none⟩ (k*esz)).run C.P w' = .ok (ys.take (k*esz)).toArray w'):=by
  intro t z c o r b m e A hR d O B;obtain⟨ys,g1,g2,g3⟩:=hR.cut d;refine⟨ys,g1,g2,?_,λT=>?_⟩
  ·unfold Am.cut at d;split at d
   ·cases d;exact qac.2 λx g=>qac.1 B x (LX (IM g))
   ·cases d
  ·have L:k*esz<=m*esz:=LY _ T;have E:(ys.take (k*esz)).length=k*esz:=by simp;omega
   have:=run_loadCells_list (P:=C.P) w' ⟨b,o+r,none⟩ (ys.take (k*esz)) λj v K=>by
    rw[bY];have D:w'.heap[b]?=some (.cells c e A):=by rw[V];exact O
    rw[rz D];refine g3 j v ?_;rw[Ij]at K;split at K
    ·exact K
    ·cases K
   rw[E]at this;exact this
 unfold dS at f;split at f
 ·cases f;have:=cL (a:=.slice none 0 0) rfl g;subst this;exact⟨[],by simp[Builtin.lenOf],by simp,.nil,rfl,λu=>by simp[Builtin.firstCells]⟩
 next M J cx=>
  split at f
  next l=>
   cases N:C.G M.block with
   |none=>rw[N]at f;cases f
   |some t=>
    rw[N,A7]at f;cases d:cut t M.off (J*esz)with
    |none=>rw[d]at f;cases f
    |some z=>
     rw[d]at f;cases f;obtain⟨ag,Q,c,e,A,R,S⟩:=Z.glob _ _ N;obtain⟨ys,F,H,I,W⟩:=i S d R Q;cases g with
     |scalar h=>simp[Am.scalar]at h
     |hslice h U L g=>simp[qs]at l
     |hslice0 g=>simp[qs]at l
     |gslice L g=>
      refine⟨ys,by simp[Builtin.lenOf],F,H,I,λu=>?_⟩;simpa[Builtin.firstCells]using W u
     |gslice0 g=>
      refine⟨ys,by simp[Builtin.lenOf],F,H,I,λu=>?_⟩;obtain rfl:k=0:=by omega
      simp[Builtin.firstCells,loadCells,loadCellsFrom]
  ·split at f
   next l=>
    split at f
    next t e0 an hid=>
     split at f
     next X=>
      cases d:cut t M.off (J*esz)with
      |none=>rw[d]at f;cases f
      |some z=>
       rw[d]at f;cases f;obtain⟨q,Y,U⟩:=Z.obj _ _ hid rfl;obtain⟨o1,o2,o3,c,e,A,o4,o5,o6,o7⟩:=U;obtain⟨ys,F,H,I,W⟩:=i o7 d o4 o3;cases g with
       |scalar h=>simp[Am.scalar]at h
       | @hslice _ _ _ _ _ p h U L g=>
        obtain rfl:p=q:=by rw[h]at Y;exact AR Y
        refine⟨ys,by simp[Builtin.lenOf],F,H,I,λu=>?_⟩;simpa[Builtin.firstCells]using W u
       |hslice0 g=>
        refine⟨ys,by simp[Builtin.lenOf],F,H,I,λu=>?_⟩;obtain rfl:k=0:=by omega
        simp[Builtin.firstCells,loadCells,loadCellsFrom]
       |gslice L g=>simp[qs]at l
       |gslice0 g=>simp[qs]at l
     ·cases f
    ·cases f
   ·cases f
 next s=>
  split at f
  next X=>
   cases f;subst X;have:=cL (a:=.string s) rfl g;subst this;refine⟨s.data.toList.map λb=>.int .u8 b.toNat,by simp[Builtin.lenOf],by rw[A9,Vc];rfl,VRs.scalars ?_,?_,λu=>?_⟩
   ·exact qac.2 λx g=>by obtain⟨b,_,rfl⟩:=qax.1 g;rfl
   ·exact qac.2 λx g=>by obtain⟨b,_,rfl⟩:=qax.1 g;rfl
   ·simp only[Builtin.firstCells,Sem.run_pure,Vc]
    congr 1
    apply Array.ext';simp[ByteArray.data_extract,List.extract]
  ·cases f
 ·cases f
end
end
section
variable [Val] [Glo]
section
variable {C:Cfg} {base:Nat} {la:tf} {mu:kx} {σ:St} {a:Act} {w:World}
def oF:TypeDesc->Bool
 | .int _=>true
 |_=>false
def cg{t h ty e:TJ}{i:TypeInfo}{d:TypeDesc}{c:Array TypeId}(h0:c[0]?=some t)(h1:c[1]?=some h)(q:C.P.underlying t=some (.slice e))(r:C.P.underlying h=some d)(j:oF d=false)
  (m:C.P.info? e=some i) {y:Value} {n sLen sCap:Nat} {ys:Tk} {b:Option Addr} (o:(Builtin.lenOf y).run C.P w = .ok n w) (l:(Builtin.firstCells i.size n y).run C.P w = .ok ys.toArray w) (p:sLen+n<=sCap) :
  (Builtin.append_ c ty #[.slice b sLen sCap,y]).run C.P w =
   match b with
   |none=>.ok (.slice none (sLen+n) sCap) w
   |some g=>((storeCells (g.add (sLen*i.size)) ys).run C.P w).andThen λ_ w'=>.ok (.slice (some g) (sLen+n) sCap) w':=by
 have f:∀k,d = .int k->False:=λk e=>by subst e;simp[oF]at j
 cases b<;>simp[Builtin.append_,h0,h1,run_underlying q,run_underlying r,sizeOf,typeInfo,m,o,l,p]
def pS{t m ty e:TJ}{i:TypeInfo}{d:TypeDesc}{z:Value}{c:Array TypeId}(h0:c[0]?=some t)(h1:c[1]?=some m)(v:C.P.underlying t=some (.slice e))(x:C.P.underlying m=some d)(o:oF d=false)
  (q:C.P.info? e=some i) (A:i.zero=some z) {y:Value} {n sLen sCap:Nat} {olds ys:Tk} {b:Option Addr} (r:(Builtin.lenOf y).run C.P w = .ok n w) (p:(Builtin.firstCells i.size n y).run C.P w.drew = .ok ys.toArray w.drew)
  (u:(Builtin.firstCells i.size sLen (.slice b sLen sCap)).run C.P w.drew = .ok olds.toArray w.drew)
  (D:sCap<sLen+n) (h:bb (sLen+n) i.bytes=true) :
  (Builtin.append_ c ty #[.slice b sLen sCap,y]).run C.P w =
   .ok (.slice (some ⟨w.heap.size,0,none⟩) (sLen+n) (grownCap w (sLen+n) sCap e)) (w.drew.alloc (.cells ((olds++ys).toArray++Builtin.zeroCells z.cells (grownCap w (sLen+n) sCap e - (sLen+n))) e)):=by
 simp only[bb,wa,Ds]at h;have B:(sLen+n)*i.bytes<=140737488355328:=h.2;have l:=growslice_fits (old:=sCap) (need:=sLen+n) (bytes:=i.bytes) (by omega) (by omega);have s:¬(sLen+n<=sCap):=by omega
 have g:¬(9223372036854775807<((sLen:Int)+(n:Int))):=by omega
 have f:¬(281474976710656<Builtin.nextslicecap (sLen+n) sCap*i.bytes):=by omega
 have j:∀k,d = .int k->False:=λk e=>by subst e;simp[oF]at o
 simp[Builtin.append_,h0,h1,run_underlying v,run_underlying x,sizeOf,typeInfo,zeroValue,q,A,r,p,u,s,g,f,Question.forced,newRow,grownCap]
 congr 2
 apply Array.ext';simp
def sx{α:Type}{l:List α}{n m:Nat}{x:α}(h:x∈(l.drop n).take m):x∈l:=LX (IM h)
def cut_all{f:Value->Bool}{vs xs:Tk}{off n:Nat}(b:cut vs off n=some xs)(h:vs.all f=true):xs.all f=true:=by
 unfold Am.cut at b;split at b
 ·cases b;exact qac.2 λx c=>qac.1 h x (sx c)
 ·cases b
def qe{vs xs:Tk}{off n:Nat}(b:cut vs off n=some xs):xs.length=n/\off+n<=vs.length:=by
 unfold Am.cut at b;split at b
 ·cases b;simp;omega
 ·cases b
def Px{vs old:Tk}{p:Pl}{off len esz sCap:Nat}{c:Tj}{e:TJ}{fr:Nat×Nat}(l:cz mu vs c p.o)(d:cut vs off (len*esz)=some old)(f:w.heap[p.b]?=some (.cells c e fr))(w':World)(g:w'.heap=w.heap) :
  ∃os:List Value,os.length=len*esz/\VRs AN mu old os/\(Builtin.firstCells esz len (.slice (some ⟨p.b,p.o+off,none⟩) len sCap)).run C.P w' = .ok os.toArray w'/\∀(j:Nat) y,os[j]?=some y->c[p.o+off+j]?=some y:=by
 obtain⟨os,h,k,i⟩:=l.cut d;refine⟨os,h,k,?_,i⟩;have:=run_loadCells_list (P:=C.P) w' ⟨p.b,p.o+off,none⟩ os λj v m=>by
  rw[bY,rz (by rw[g];exact f)];exact i j v m
 rw[h]at this;simpa[Builtin.firstCells]using this
def vK(H:WR C base mu σ.heap w)(v:base<=w.heap.size){t u ty e:TJ}{i:TypeInfo}{d:TypeDesc}{z:Value}{c:Array TypeId}(h0:c[0]?=some t)(h1:c[1]?=some u)(G:C.P.underlying t=some (.slice e))(I:C.P.underlying u=some d)(x:oF d=false)
  (B:C.P.info? e=some i) (J:i.zero=some z) (q:z.cells.size=i.size) {y:Value} {n sLen sCap:Nat} {old new olds ys:Tk} {b:Option Addr} (D:(Builtin.lenOf y).run C.P w = .ok n w) (A:(Builtin.firstCells i.size n y).run C.P w.drew = .ok ys.toArray w.drew)
  (E:(Builtin.firstCells i.size sLen (.slice b sLen sCap)).run C.P w.drew = .ok olds.toArray w.drew) (F:sCap<sLen+n) (p:bb (sLen+n) i.bytes=true)
  (M:VRs AN mu old olds) (N:VRs AN mu new ys) (K:olds.length=sLen*i.size) (L:ys.length=n*i.size) (r:old.all bg=true) (s:new.all bg=true) :
  DE C base mu σ.heap w (do pure (.value (←Builtin.append_ c ty #[.slice b sLen sCap,y]))) (σ.heap++[.cells (old++new) i.size true]) (.slice (some ⟨σ.heap.length,0,qs i.size⟩) (sLen+n) 0):=by
 have f:=pS (ty:=ty) h0 h1 G I x B J D A E F p;have l:=grownCap_ge w (sLen+n) sCap e;have k:((olds++ys).toArray++Builtin.zeroCells z.cells (grownCap w (sLen+n) sCap e - (sLen+n))).size=grownCap w (sLen+n) sCap e*i.size:=by
  simp[size_zeroCells,K,L,q];rw[←Dg,←Dg]
  congr 1;omega
 have g:=(H.drew (w.drawn+1)).newRow (C:=C) v (w':=w.drew.alloc (.cells ((olds++ys).toArray++Builtin.zeroCells z.cells (grownCap w (sLen+n) sCap e - (sLen+n))) e)) (esz:=i.size) (M.append N) (by simp[r,s]) (e:=e)
  (λj y m=>by
   have o:j<(olds++ys).length:=by
    rcases Bu j (olds++ys).length with h|h
    ·exact h
    ·rw[Bp h]at m;cases m
   rw[qcO (by simpa using o)];simpa using m) (by simp) rfl rfl rfl rfl
 refine⟨.value (.slice (some ⟨w.heap.size,0,none⟩) (sLen+n) (grownCap w (sLen+n) sCap e)),_,_,_,by simp[f],.inl rfl,?_,g.1,(Evo.refl σ.heap mu w).drew (w.drawn+1) (Nat.le_succ _) |>.trans g.2.1,g.2.2⟩;have:=VR.hslice (la:=AN) (id:=σ.heap.length) (off:=0) (len:=sLen+n) (cap:=grownCap w (sLen+n) sCap e) (cx:=0) (bU mu σ.heap.length ⟨w.heap.size,0,_,i.size⟩) (by rw[BT];exact Nat.le_of_eq k.symm) l (.inl rfl);exact this
def yK(h:SR C base la mu σ a.tmps w)(hb:base<=w.heap.size){t xT ty:TJ}{d:TypeDesc}{Q:Array TypeId}{s x:TG}{H':Tp}{v:Value}(h0:Q[0]?=some t)(h1:Q[1]?=some xT)(S:C.P.underlying xT=some d)(W:oF d=false)
  (m:fK C t (ke σ.tmps s) (ke σ.tmps x) σ.heap=some (H',v)):DE C base mu σ.heap w (do pure (.value (←Builtin.append_ Q ty #[a.eval s,a.eval x]))) H' v:=by
 have hs:=aM h s;have a9:=aM h x;unfold fK at m;split at m
 next b1 Y=>
  split at m
  ·cases m
  next f X=>
   split at m
   ·cases m
   next b2=>
    split at m
    ·cases m
    next b0=>
     obtain⟨z,bX⟩ : ∃z,kN f=some z:=by
      cases bd:kN f with
      |none=>simp[bd]at b0
      |some z=>exact⟨z,rfl⟩
     obtain⟨hz,a4,_,_⟩:=nB bX;split at m
     ·cases m
     next L n a5=>
      obtain⟨ys,T,c2,c3,c4,c5⟩:=jD h.wr a9 a5 n w rfl;obtain⟨b8,b3,ax,ay,aE,bn⟩:=jD h.wr a9 a5 n w.drew rfl;have F:=c5 (Ah _);have N:=bn (Ah _);rw[CJ (by omega)]at F N;split at m
      · -- nil
       rename_i a1
       rw[a1]at hs;have K:=cL (a:=.slice none 0 0) rfl hs;rw[K];split at m
       next G=>
        cases m;subst G;have g:=cg (ty:=ty) (b:=none) (sLen:=0) (sCap:=0) h0 h1 Y S W X T F (by omega);exact⟨.value (.slice none 0 0),_,w,mu,by simpa using congrArg (λr:Result Value=>r.andThen λv w=>.ok (Next.value v) w) g,.inl rfl,.scalar rfl,h.wr,.refl _ _ _,h.wr.obj⟩
       next G=>
        split at m
        next y=>
         cases m;have:=vK (ty:=ty) (b:=none) (sLen:=0) (sCap:=0) (old:=[]) (olds:=[]) h.wr hb h0 h1 Y S W X hz a4 T N (by simp[Builtin.firstCells]) (by omega) (by simpa using y) .nil ay (by simp) ax rfl aE;simpa using this
        ·cases m
      next u len cx a1=>
       rw[a1]at hs;split at m
       ·cases m
       next H=>
        simp only[ne_eq,Classical.not_not]at H;split at m
        next vs e0 b7 hid=>
         split at m
         ·cases m
         next a6=>
          simp only[ne_eq,Classical.not_not]at a6;subst a6;split at m
          ·cases m
          next old E=>
           obtain⟨q,hq,hr⟩:=h.wr.obj _ _ hid rfl;obtain⟨o1,o2,o3,c,e,fr,o4,o5,o6,o7⟩:=hr;have K:(∃cap,a.eval s = .slice (some ⟨q.b,q.o+u.off,none⟩) len cap/\u.off+cap*f.size<=q.room/\len<=cap/\(cx=0∨cx=cap+1))∨(∃Z,a.eval s = .slice (some Z) 0 0/\len=0/\cx<=1):=by
            clear m;generalize a.eval s=sv at hs;cases hs with
            |scalar h=>simp[Am.scalar]at h
            | @hslice _ _ _ cap _ p hm hr hl a3=>
             obtain rfl:p=q:=by rw[hm]at hq;exact AR hq
             rw[o1]at hr;exact .inl ⟨cap,rfl,hr,hl,a3⟩
            |hslice0 a3=>exact .inr ⟨_,rfl,rfl,a3⟩
            |gslice hl S=>simp[qs]at H
            |gslice0 S=>simp[qs]at H
           have M:∀A,(∃b,a.eval s = .slice b len A/\(b=some ⟨q.b,q.o+u.off,none⟩∨len=0))->A<len+n->bb (len+n) f.bytes=true->
             DE C base mu σ.heap w (do pure (.value (←Builtin.append_ Q ty #[a.eval s,a.eval x]))) (σ.heap++[.cells (old++L) f.size true]) (.slice (some ⟨σ.heap.length,0,qs f.size⟩) (len+n) 0):=by
            rintro A ⟨b,l,bt⟩ R y;rw[l];rcases bt with rfl|rfl
            ·obtain⟨os,g1,g2,g3,_⟩:=Px (C:=C) (sCap:=A) o7 E o4 w.drew rfl;exact vK (ty:=ty) h.wr hb h0 h1 Y S W X hz a4 T N g3 R y g2 ay g1 ax (cut_all E o3) aE
            ·have ho:old=[]:=by
              have:=(qe E).1;simp at this;exact this
             subst ho;exact vK (ty:=ty) (olds:=[]) h.wr hb h0 h1 Y S W X hz a4 T N (by cases b<;>simp[Builtin.firstCells,loadCells,loadCellsFrom]) R y .nil ay (by simp) ax rfl aE
           split at m
           · -- the capacity is not known
            split at m
            next G=>
             cases m;subst G;have I:ys=[]:=by have:=c2;simp at this;exact this
             subst I;rcases K with⟨cap,l,B,ag,_⟩|⟨Z,l,rfl,_⟩
             ·have g:=cg (ty:=ty) (b:=some ⟨q.b,q.o+u.off,none⟩) (sLen:=len) (sCap:=cap) h0 h1 Y S W X T F (by omega);refine⟨.value (a.eval s),a.eval s,w,mu,?_,.inl rfl,(fm (by simp[aX,H,qs]) hs),h.wr,.refl _ _ _,h.wr.obj⟩;rw[l];simp[g,storeCells]
             ·have g:=cg (ty:=ty) (b:=some Z) (sLen:=0) (sCap:=0) h0 h1 Y S W X T F (by omega);refine⟨.value (a.eval s),a.eval s,w,mu,?_,.inl rfl,(fm (by simp[aX,H,qs]) hs),h.wr,.refl _ _ _,h.wr.obj⟩;rw[l];simp[g,storeCells]
            next G=>
             split at m
             next y=>
              cases m;simp only[wa]at y;obtain⟨a0,y⟩:=y;subst a0;obtain rfl:=o6 rfl;have O:u.block<σ.heap.length:=by
               rcases Bu u.block σ.heap.length with h|h
               ·exact h
               ·rw[Bp h]at hid;cases hid
              have ap:DE C base mu σ.heap w (do pure (.value (←Builtin.append_ Q ty #[a.eval s,a.eval x]))) (σ.heap++[.cells (old++L) f.size true]) (.slice (some ⟨σ.heap.length,0,qs f.size⟩) (len+n) 0)->
                DE C base mu σ.heap w (do pure (.value (←Builtin.append_ Q ty #[a.eval s,a.eval x]))) (σ.heap.set u.block .dead++[.cells (old++L) f.size true]) (.slice (some ⟨σ.heap.length,0,qs f.size⟩) (len+n) 0):=by
               rintro⟨nx,v',w',be,g1,g2,g3,g4,g5,g6⟩;have a7:be u.block=some q:=by rw[g5.same _ O];exact hq
               have ar:(σ.heap++[.cells (old++L) f.size true])[u.block]?=some (.cells vs f.size true):=by rw[BZ O];exact hid
               have R:=g4.lt ar rfl a7;obtain⟨x0,bS⟩ : ∃x0,w'.heap[q.b]?=some x0:=⟨w'.heap[q.b],by simp[R]⟩;have a2:w'.heap.setIfInBounds q.b x0=w'.heap:=by
                apply qcI;intro k;by_cases hk:k=q.b
                ·subst hk;rw[bS];simp[R]
                ·rw[qca (B9 hk)]
               obtain⟨k1,k2⟩:=g4.set ar rfl a7 (w':=w') (x:=x0) a2.symm rfl rfl rfl .dead (λh=>by cases h) trivial;rw[qdr _ _ O]at k1 k2;refine⟨nx,v',w',be,g1,g2,g3,k1,g5.trans k2,λj oj hj ha=>?_⟩;rw[←qdr _ _ O]at hj;rcases get_set hj with⟨_,hj⟩|⟨_,_,rfl⟩
               ·exact g6 j oj hj ha
               ·cases ha
              rcases K with⟨cap,l,B,ag,_⟩|⟨Z,l,rfl,_⟩
              ·by_cases J:len+n<=cap
               · -- in place
                have bs:q.o+u.off+len*f.size+ys.length<=c.size:=by
                 have:(len+n)*f.size<=cap*f.size:=LY _ J;rw[Dg]at this;omega
                have an:=dM (C:=C) (at_:=q.o+u.off+len*f.size) (ys:=ys) o4 bs (gp c3 c4);have g:=cg (ty:=ty) (b:=some ⟨q.b,q.o+u.off,none⟩) (sLen:=len) (sCap:=cap) h0 h1 Y S W X T F J;simp only[bY]at g;rw[an]at g;have hM:=h.wr.move hid rfl hq (w':=w.setRow q.b (putCells c (q.o+u.off+len*f.size) ys)) (jf o4) rfl rfl rfl (.cells (old++L) f.size true) ⟨q.b,q.o+u.off,q.room - u.off,f.size⟩ rfl (by
                 have b6:=qe E;have b5:=c3.1;refine⟨rfl,by simp only[Bv];omega,by simp[cut_all E o3,c4],_,e,_,rfl,by rw[gu (by omega)];simp only;omega,λ_=>rfl,λi v hv=>?_⟩;obtain⟨os,k1,k2,k3⟩:=cz.cut o7 E;simp only;rw[mi (by omega)];by_cases bx:i<old.length
                 ·rw[BZ bx]at hv;obtain⟨v',m1,m2⟩:=k2.get hv;rw[ra (by omega)];exact⟨v',k3 i v' m1,m2⟩
                 ·rw[Cv (by omega)]at hv;obtain⟨v',m1,m2⟩:=c3.get hv;have b4:i - old.length<ys.length:=by
                   rcases Bu (i - old.length) ys.length with h|h
                   ·exact h
                   ·rw[Bp h]at m1;cases m1
                  rw[mc (by omega)];exact⟨v',by rw[show q.o+u.off+i - (q.o+u.off+len*f.size)=i - old.length by omega];exact m1,m2⟩) (λ_=>rfl)
                refine⟨.value (.slice (some ⟨q.b,q.o+u.off,none⟩) (len+n) cap),_,_,_,by rw[l];simp[g],.inl rfl,?_,hM.1,hM.2.1,hM.2.2⟩;have:=VR.hslice (la:=AN) (id:=σ.heap.length) (off:=0) (len:=len+n) (cap:=cap) (cx:=0) (bU mu σ.heap.length ⟨q.b,q.o+u.off,q.room - u.off,f.size⟩) (by simp only;omega) J (.inl rfl);simpa using this
               ·exact ap (M cap ⟨_,l,.inl rfl⟩ (by omega) y)
              ·exact ap (M 0 ⟨_,l,.inr rfl⟩ (by omega) y)
             ·cases m
           · -- the capacity is known
            rename_i A
            split at m
            next J=>
             split at m
             next a0=>
              subst a0;obtain rfl:=o6 rfl;cases D:splice vs (u.off+len*f.size) L with
              |none=>rw[D]at m;cases m
              |some bm=>
               rw[D]at m;cases m;obtain⟨c',e',g1,g2,g3,g4⟩:=h.wr.splice hid hq D c3 c4;obtain⟨rfl,rfl⟩ : c=c'/\e=e':=by
                rw[g1]at o4;simp only[B7,Obj.cells.injEq]at o4;exact⟨o4.1.symm,o4.2.1.symm⟩
               rcases K with⟨cap,l,B,ag,V⟩|⟨Z,l,rfl,V⟩
               ·have U:cap=A:=by omega
                subst U;have an:=dM (C:=C) (at_:=q.o+(u.off+len*f.size)) (ys:=ys) g1 g2 (gp c3 c4);have g:=cg (ty:=ty) (b:=some ⟨q.b,q.o+u.off,none⟩) (sLen:=len) (sCap:=cap) h0 h1 Y S W X T F J;simp only[bY,IH]at g an;rw[an]at g;refine⟨.value (.slice (some ⟨q.b,q.o+u.off,none⟩) (len+n) cap),_,_,mu,by rw[l];simp[g],.inl rfl,?_,g3,g4,g3.obj⟩;obtain⟨bl,of,sp⟩:=u;simp only at H;subst H;rw[←o1];exact .hslice hq (by rw[o1];exact B) J (.inr rfl)
               ·have U:A=0:=by omega
                subst U;have G:n=0:=by omega
                subst G;have I:ys=[]:=by have:=c2;simp at this;exact this
                subst I;have bI:L=[]:=by have:=c3.1;simp at this;exact this
                subst bI;have g:=cg (ty:=ty) (b:=some Z) (sLen:=0) (sCap:=0) h0 h1 Y S W X T F (by omega);have bP:bm=vs:=by
                 unfold Am.splice at D;split at D
                 ·cases D;simp
                 ·cases D
                subst bP;have a8:σ.heap.set u.block (.cells bm f.size true)=σ.heap:=by
                 apply Gm;intro k;rw[Eb];split
                 ·rename_i hk;subst hk
                  split
                  ·rw[hid]
                  next R=>rw[Bp (by omega)]
                 ·rfl
                rw[a8];refine⟨.value (a.eval s),a.eval s,w,mu,?_,.inl rfl,(fm (by simp[aX,H,qs]) (by simpa using hs)),h.wr,.refl _ _ _,h.wr.obj⟩;rw[l];simp[g,storeCells]
             ·split at m
              next G=>
               cases m;subst G;have I:ys=[]:=by have:=c2;simp at this;exact this
               subst I;refine⟨.value (a.eval s),a.eval s,w,mu,?_,.inl rfl,(fm (by simp[aX,H,qs]) (by simpa using hs)),h.wr,.refl _ _ _,h.wr.obj⟩;rcases K with⟨cap,l,B,ag,V⟩|⟨Z,l,rfl,V⟩
               ·have g:=cg (ty:=ty) (b:=some ⟨q.b,q.o+u.off,none⟩) (sLen:=len) (sCap:=cap) h0 h1 Y S W X T F (by omega);rw[l];simp[g,storeCells]
               ·have g:=cg (ty:=ty) (b:=some Z) (sLen:=0) (sCap:=0) h0 h1 Y S W X T F (by omega);rw[l];simp[g,storeCells]
              ·cases m
            next J=>
             split at m
             next y=>
              cases m;rcases K with⟨cap,l,B,ag,V⟩|⟨Z,l,rfl,V⟩
              ·exact M cap ⟨_,l,.inl rfl⟩ (by omega) y
              ·exact M 0 ⟨_,l,.inr rfl⟩ (by omega) y
             ·cases m
        ·cases m
      ·cases m
 ·cases m
end
end
section
variable [Val] [Glo]
section
variable {C:Cfg} {base:Nat} {la:tf} {mu:kx} {σ:St} {a:Act} {w:World}
def Jy(h:SR C base la mu σ a.tmps w){t ty:TJ}{b:Array TypeId}{d x:TG}{H':Tp}{v:Value}(h0:b[0]?=some t)
  (c:DO C t (ke σ.tmps d) (ke σ.tmps x) σ.heap=some (H',v)):DE C base mu σ.heap w (do pure (.value (←Builtin.copy_ b ty #[a.eval d,a.eval x]))) H' v:=by
 cases c
def G6(h:SR C base la mu σ a.tmps w){t ty:TJ}{b:Array TypeId}{x:TG}{H':Tp}{v:Value}(h0:b[0]?=some t)
  (c:tO C t (ke σ.tmps x) σ.heap=some (H',v)):DE C base mu σ.heap w (do pure (.value (←Builtin.clear_ b ty #[a.eval x]))) H' v:=by
 cases c
def py(o:WR C base mu σ.heap w){t:TJ}{e:Addr}{y v:Value}{g f i c b d:Ti}{H:Tp}(n:e.spot=some 1∨H=σ.heap)(j:kE C t e g f i H=some v)(h:VR la mu (.pointer (some e)) y)
  (l:ORel la mu g c) (k:ORel la mu f b) (m:ORel la mu i d):∃v',(Instr.sliceAt t y c b d).run C.P w = .ok v' w/\VR la mu v v':=by
 cases j
def nr{α β:Type}{P:TD}{x:Sem α}{f:α->Sem β}{b:β}(h:AE P (x >>= f)=some b):∃a,AE P x=some a/\AE P (f a)=some b:=by
 induction x with
 |pure a=>exact⟨a,rfl,h⟩
 |program k c=>exact c P h
 |_=>cases h
def ig{P:TD}{kt:TJ}{k:Value}:∀(g c:Th) (i:Nat) (r:Option (Nat×Value)),g.map (·.key)=c.map (·.key)->AE P (Instr.findAsking kt k g i)=some r->
  (∀w,(Instr.findAsking kt k c i).run P w = .ok (r.map λp=>(p.1,(c.getD (p.1 - i) default).val)) w)/\∀p,r=some p->i<=p.1/\p.1<i+g.length
 | [],c,i,r,d,h=>by
  have:c=[]:=by cases c<;>simp_all
  subst this;simp[Instr.findAsking,AE,Pure.pure]at h;subst h;exact⟨λw=>by simp[Instr.findAsking],λp j=>by cases j⟩
 |e :: g,c,i,r,d,h=>by
  cases c with
  |nil=>simp at d
  |cons f c=>
   simp only[A5,Dt]at d;unfold Instr.findAsking at h;obtain⟨b,n,l⟩:=nr h;cases b with
   |true=>
    simp[AE,Pure.pure]at l;subst l;refine⟨λw=>?_,λp j=>by cases j;simp⟩;have:=gr n w;rw[d.1]at this;simp[Instr.findAsking,this]
   |false=>
    simp only[Bq,if_false]at l;obtain⟨q,m⟩:=ig g c (i+1) r d.2 l;refine⟨λw=>?_,λp j=>by have:=m p j;simp;omega⟩;have:=gr n w;rw[d.1]at this;have o:(Instr.findAsking kt k (f :: c) i).run P w=(Instr.findAsking kt k c (i+1)).run P w:=by
     simp[Instr.findAsking,this]
    rw[o,q w];cases r with
    |none=>rfl
    |some p=>
     have:=(m p rfl).1;simp only[BP];rw[show p.1 - i=(p.1 - (i+1))+1 by omega];rfl
def ii{kind:TypeDesc}{k:Value}:∀(d c:Th) (i:Nat),d.map (·.key)=c.map (·.key)->
  Instr.findNow kind k c i=(Instr.findNow kind k d i).map λr=>r.map λp=>(p.1,(c.getD (p.1 - i) default).val)
 | [],c,i,g=>by
  have:c=[]:=by cases c<;>simp_all
  subst this;rfl
 |e :: d,c,i,g=>by
  cases c with
  |nil=>simp at g
  |cons f c=>
   simp only[A5,Dt]at g;unfold Instr.findNow;rw[g.1];cases q:Instr.sameNow kind k f.key with
   |none=>rfl
   |some b=>
    cases b with
    |true=>simp
    |false=>
     simp only;rw[ii d c (i+1) g.2];have m:∀(l:Th) (j:Nat) (p:Nat×Value),Instr.findNow kind k l j=some (some p)->j<=p.1:=by
      intro l
      induction l with
      |nil=>intro j p h;simp[Instr.findNow]at h
      |cons x l o=>
       intro j p h;unfold Instr.findNow at h;split at h
       ·cases h;exact Ah _
       ·have:=o (j+1) p h;omega
       ·cases h
     cases n:Instr.findNow kind k d (i+1)with
     |none=>rfl
     |some r=>
      cases r with
      |none=>rfl
      |some p=>
       have:=m _ _ _ n;simp only[BP];rw[show p.1 - i=(p.1 - (i+1))+1 by omega];rfl
def qi{kind:TypeDesc}{k:Value}:∀(b:Th) (i:Nat) (p:Nat×Value),Instr.findNow kind k b i=some (some p)->i<=p.1/\p.1<i+b.length
 | [],i,p,h=>by simp[Instr.findNow]at h
 |e :: b,i,p,h=>by
  unfold Instr.findNow at h;split at h
  ·cases h;simp
  ·have:=qi b (i+1) p h;simp;omega
  ·cases h
def nc{kt:TJ}{k:Value}{c:Th}{e:Th}{r:To}(t:c.map (·.key)=e.map (·.key))(h:rQ C.P kt k c=some r) :
  (∀w,(Instr.findKey kt k e).run C.P w = .ok (r.map λi=>(i,(e.getD i default).val)) w)/\∀i,r=some i->i<c.length:=by
 unfold rQ at h;have f:(c.map bA).map (·.key)=e.map (·.key):=by rw[Ep,←t];rfl
 cases m:AE C.P (Instr.findKey kt k (c.map bA))with
 |none=>rw[m]at h;cases h
 |some r0=>
  rw[m]at h;cases h;unfold Instr.findKey at m;obtain⟨d,n,g⟩:=nr m;cases l:Instr.findNow d k (c.map bA) 0 with
  |none=>
   rw[l]at g;simp only at g;obtain⟨q,s⟩:=ig (c.map bA) e 0 r0 f g;refine⟨λw=>?_,λi j=>?_⟩
   ·have b:=ii (kind:=d) (k:=k) (c.map bA) e 0 f;rw[l]at b;simp only[Instr.findKey,Sem.run_bind,gr n w,Result.andThen_ok,b,Option.map_none,q w];cases r0<;>simp
   ·cases r0 with
    |none=>cases j
    |some p=>
     cases j;have:=(s p rfl).2;simpa using this
  |some o=>
   rw[l]at g;simp[AE,Pure.pure]at g;subst g;refine⟨λw=>?_,λi j=>?_⟩
   ·have b:=ii (kind:=d) (k:=k) (c.map bA) e 0 f;rw[l]at b;simp only[Instr.findKey,Sem.run_bind,gr n w,Result.andThen_ok,b,BP,Sem.run_pure];cases o<;>simp
   ·cases o with
    |none=>cases j
    |some p=>
     cases j;have:=(qi _ _ _ l).2;simpa using this
def vL(m:WR C base mu σ.heap w){id:Nat}{f:Th}{c:Nat}(h:A8 σ.heap id=some (f,c)){p:Pl}(k:mu id=some p) :
  ∃d,w.heap[p.b]?=some (.map d c)/\d.size=f.length/\∀(i:Nat) e,f[i]?=some e->∃e',d[i]?=some e'/\fE mu e e':=by
 unfold A8 at h;split at h
 next j n hid=>
  cases h;obtain⟨q,g,l⟩:=m.obj id _ hid rfl;obtain rfl:p=q:=by rw[k]at g;exact AR g
  exact l
 ·cases h
def Ko{id:Nat}{b:Th}{c:Nat}(h:A8 σ.heap id=some (b,c)):σ.heap[id]?=some (.map b c):=by
 unfold A8 at h;split at h
 next d e hid=>cases h;exact hid
 ·cases h
def xB{c:Th}{b:Array MapEntry}(j:b.size=c.length)(h:∀(i:Nat) e,c[i]?=some e->∃e',b[i]?=some e'/\fE mu e e'):c.map (·.key)=b.toList.map (·.key):=by
 apply Gm;intro i;rw[AX,AX];cases d:c[i]? with
 |none=>
  have:b.toList[i]?=none:=by
   rw[qdH]at d ⊢;simp only[qdt];omega
  rw[this,Option.map_none]
 |some e=>
  obtain⟨e',f,g⟩:=h i e d;rw[show b.toList[i]?=some e' by simpa using f];simp[g.1]
def ek{kt:TJ}{k:Value}(h:iZ C.P kt k=true)(b:Bool)(w:World):(Instr.checkKey b 10000 kt k).run C.P w = .ok () w:=by
 simp only[iZ,wa]at h;cases b with
 |true=>
  obtain⟨u,c⟩:=qbu.1 h.1.1.2;exact gr c w
 |false=>
  obtain⟨u,c⟩:=qbu.1 h.1.2;exact gr c w
def mF{kt:TJ}{k:Value}(h:iZ C.P kt k=true):∃d,C.P.underlying kt=some d:=by
 simp only[iZ,wa]at h;obtain⟨u,i⟩:=qbu.1 h.1.2;have b:AE C.P (Instr.checkKey false (9999+1) kt k)=some u:=i;unfold Instr.checkKey at b;obtain⟨d,c,_⟩:=nr b;cases g:C.P.underlying kt with
 |some d=>exact⟨d,rfl⟩
 |none=>
  unfold underlying at c;obtain⟨p,e,f⟩:=nr c;have:p=C.P:=by simp[AE,program]at e;exact e.symm
  subst this;rw[g]at f;cases f
def iM{kt:TJ}{k:Value}(h:iZ C.P kt k=true):fL k=true:=by
 simp only[iZ,wa]at h;exact h.1.1.1
def cu{r:Nat}{b:Array MapEntry}{c:Nat}(h:w.heap[r]?=some (.map b c)):(getObj r).run C.P w = .ok (.map b c) w:=by
 simp[getObj,Sem.run,h]
def je{r:Nat}{b:Array MapEntry}{c:Nat}{o:Obj}(h:w.heap[r]?=some (.map b c)):(setObj r o).run C.P w = .ok () { w with heap:=w.heap.setIfInBounds r o }:=by
 simp[setObj,Sem.run,h]
def VR.map_inv{id:Nat}{c:Value}(h:VR la mu (.map (some id)) c):∃p,mu id=some p/\c = .map (some p.b):=by
 cases h with
 |scalar h=>simp[Am.scalar]at h
 |map h=>exact⟨_,h,rfl⟩
def yI{t:TJ}{z:Value}(h:eE C.P t=some z)(w:World):(zeroValue t).run C.P w = .ok z w:=by
 obtain⟨i,b,c,_⟩:=jB h;simp[zeroValue,typeInfo,b,c]
def qw(Q:WR C base mu σ.heap w){t:TJ}{m J k I v:Value}{ok:Bool}{H:Tp}(M:m = .map none∨H=σ.heap)(F:VR la mu m J)(N:VR la mu k I)(d:dI C t m k ok H=some v) :
  ∃v',(Instr.lookup t J I ok).run C.P w = .ok v' w/\VR la mu v v':=by
 unfold dI at d;split at d
 next T S j=>
  split at d
  ·cases d
  next b=>
   simp only[CO,qc0]at b;obtain rfl:=ni (iM b) N;split at d
   ·cases d
   next z G=>
    have h:=yI G w;have g:=(pJ G).2.1;obtain⟨R,o⟩:=mF b;split at d
    ·obtain rfl:=cL (a:=.map none) rfl F;cases d;cases ok with
     |true=>
      refine⟨.tuple #[z,.bool false],?_,VRs.tuple (.cons (.of_flat g) (.cons (.scalar rfl) .nil))⟩;simp[Instr.lookup,run_underlying j,ek b,Instr.findKey,run_underlying o,Instr.findNow,h]
     |false=>
      refine⟨z,?_,.of_flat g⟩;simp[Instr.lookup,run_underlying j,ek b,Instr.findKey,run_underlying o,Instr.findNow,h]
    next id=>
     have y:H=σ.heap:=M.resolve_left (by simp);subst y;obtain⟨p,O,rfl⟩:=F.map_inv;split at d
     ·cases d
     next x c A8=>
      obtain⟨l,u,K,D⟩:=vL Q A8 O;have f:=xB K D;split at d
      ·cases d
      next e=>
       obtain⟨n,B⟩:=nc (C:=C) f e;cases d;cases ok with
       |true=>
        refine⟨.tuple #[z,.bool false],?_,VRs.tuple (.cons (.of_flat g) (.cons (.scalar rfl) .nil))⟩;simp[Instr.lookup,run_underlying j,cu u,ek b,n w,h]
       |false=>
        refine⟨z,?_,.of_flat g⟩;simp[Instr.lookup,run_underlying j,cu u,ek b,n w,h]
      next i e=>
       obtain⟨n,B⟩:=nc (C:=C) f e;have r:=B i rfl;obtain⟨s,L,E⟩:=D i x[i] (by simp[r]);have q:(l.toList.getD i default).val=s.val:=by
        rw[List.getD,show l.toList[i]?=some s by simpa using L];rfl
       have A:fF x i=some x[i].val:=by simp[fF,r]
       rw[A]at d;cases d;cases ok with
       |true=>
        refine⟨.tuple #[s.val,.bool true],?_,VRs.tuple (.cons E.2.2.2.up (.cons (.scalar rfl) .nil))⟩;simp[Instr.lookup,run_underlying j,cu u,ek b,n w,-List.getD_eq_getElem?_getD,q]
       |false=>
        refine⟨s.val,?_,E.2.2.2.up⟩;simp[Instr.lookup,run_underlying j,cu u,ek b,n w,-List.getD_eq_getElem?_getD,q]
    ·cases d
 ·cases d
def WR.setMap(m:WR C base mu σ.heap w){id:Nat}{g f:Th}{c c1:Nat}{p:Pl}{d:Array MapEntry}(h:A8 σ.heap id=some (g,c))(j:mu id=some p)
  (l:d.size=f.length) (k:∀(i:Nat) e,f[i]?=some e->∃e',d[i]?=some e'/\fE mu e e') :
  WR C base mu (σ.heap.set id (.map f c1)) { w with heap:=w.heap.setIfInBounds p.b (.map d c1) }/\Evo σ.heap mu w (σ.heap.set id (.map f c1)) mu { w with heap:=w.heap.setIfInBounds p.b (.map d c1) }:=
 m.set (w':={ w with heap:=w.heap.setIfInBounds p.b (.map d c1) }) (x:=.map d c1) (Ko h) rfl j rfl rfl rfl rfl (.map f c1) (λ_=>rfl) ⟨d,rfl,l,k⟩
def tY{c:Th}{b:Array MapEntry}{e e':MapEntry}(f:b.size=c.length)(k:∀(i:Nat) e,c[i]?=some e->∃e',b[i]?=some e'/\fE mu e e')(j:fE mu e e') :
  (b.push e').size=(c++[e]).length/\∀(i:Nat) x,(c++[e])[i]?=some x->∃x',(b.push e')[i]?=some x'/\fE mu x x':=by
 refine⟨by simp[f],λi x d=>?_⟩;rcases aK d with⟨l,d⟩|⟨rfl,rfl⟩
 ·obtain⟨x',g,h⟩:=k i x d;exact⟨x',by rw[qcC,ra (by omega)];exact g,h⟩
 ·exact⟨e',by rw[qcC,mc f.symm],j⟩
def pQ{c:Th}{b:Array MapEntry}{j:Nat}{f f':MapEntry->MapEntry}(n:b.size=c.length)(m:∀(i:Nat) e,c[i]?=some e->∃e',b[i]?=some e'/\fE mu e e')
  (l:∀e e',c[j]?=some e->fE mu e e'->fE mu (f e) (f' e')) :
  (b.modify j f').size=(c.modify j f).length/\∀(i:Nat) x,(c.modify j f)[i]?=some x->∃x',(b.modify j f')[i]?=some x'/\fE mu x x':=by
 refine⟨by simp[n],λi x d=>?_⟩;rw[List.getElem?_modify]at d;cases g:c[i]? with
 |none=>rw[g]at d;cases d
 |some e=>
  rw[g]at d;obtain⟨e',o,k⟩:=m i e g;simp only[Option.map_eq_map,BP,B7]at d;refine⟨if j=i then f' e' else e',by rw[qc9];split<;>simp_all,?_⟩;subst d;split
  next h=>subst h;exact l e e' g k
  ·exact k
end
end
section
variable [Val] [Glo]
section
variable {C:Cfg} {base:Nat} {la:tf} {mu:kx} {σ:St} {a:Act} {w:World}
def xn{s:Sem Unit}{w':World}{H':Tp}(h:s.run C.P w = .ok () w')(b:WR C base mu H' w')(c:Evo σ.heap mu w H' mu w'):DE C base mu σ.heap w (do s;pure .skip) H' undef:=
 ⟨.skip,undef,w',mu,by simp[h],.inr ⟨rfl,rfl⟩,.undef,b,c,b.obj⟩
def jX(h:SR C base la mu σ a.tmps w){t:TJ}{m k x:TG}{H':Tp}{v:Value}(d:cH C t (ke σ.tmps m) (ke σ.tmps k) (ke σ.tmps x) σ.heap=some (H',v)) :
  DE C base mu σ.heap w (do Instr.mapUpdate t (a.eval m) (a.eval k) (a.eval x);pure .skip) H' v:=by
 have M:=aM h m;have T:=aM h k;have U:=aM h x;unfold cH at d;split at d
 next W V id N B=>
  rw[B]at M;obtain⟨p,E,q⟩:=M.map_inv;split at d
  ·cases d
  next L=>
   simp only[CO,qc0,wa]at L;obtain⟨⟨l,D⟩,_⟩:=L;have n:=ni (iM l) T;have s:=fU D U;split at d
   ·cases d
   next O c A8=>
    obtain⟨P,u,A,y⟩:=vL h.wr A8 E;have g:=xB A y;split at d
    ·cases d
    next b=>
     obtain⟨z,K⟩:=nc (C:=C) g b;cases d;obtain⟨I,J⟩:=tY (e:={ key:=ke σ.tmps k,val:=ke σ.tmps x,born:=c }) (e':={ key:=ke σ.tmps k,val:=a.eval x,born:=c }) A y ⟨rfl,iM l,rfl,s⟩;obtain⟨G,H⟩:=h.wr.setMap (c1:=c+1) A8 E I J;refine xn ?_ G H;rw[q,n];simp[Instr.mapUpdate,run_underlying N,cu u,ek l,z w,je u]
    next i b=>
     obtain⟨z,K⟩:=nc (C:=C) g b;have o:=K i rfl;split at d
     next F=>
      cases d;obtain⟨e',Q,R⟩:=y i O[i] (by simp[o]);obtain⟨I,J⟩:=pQ (j:=i) (f:=λe=>{ e with key:=ke σ.tmps k,val:=ke σ.tmps x }) (f':=λe=>{ e with key:=ke σ.tmps k,val:=a.eval x }) A y (λe e' _ S=>⟨rfl,iM l,S.2.2.1,s⟩);obtain⟨G,H⟩:=h.wr.setMap (c1:=c) A8 E I J;refine xn ?_ G H;have r:Instr.sameBits 10000 e'.key (ke σ.tmps k)=true:=by
       rw[R.1];simpa[o]using F
      rw[q,n];simp[Instr.mapUpdate,run_underlying N,cu u,ek l,z w,Q,Instr.keyThatStays,r,je u]
     ·cases d
 ·cases d
def uE(h:SR C base la mu σ a.tmps w){t:TJ}{m k:TG}{H':Tp}{v:Value}(b:iw C t (ke σ.tmps m) (ke σ.tmps k) σ.heap=some (H',v)) :
  DE C base mu σ.heap w (do pure (.value (←Instr.mapEntry t (a.eval m) (a.eval k)))) H' v:=by
 cases b
def pR(h:SR C base la mu σ a.tmps w){t:TJ}{m s x:TG}{H':Tp}{v:Value}(b:fg (ke σ.tmps m) (ke σ.tmps s) (ke σ.tmps x) σ.heap=some (H',v)) :
  DE C base mu σ.heap w (do Instr.entryStore t (a.eval m) (a.eval s) (a.eval x);pure .skip) H' v:=by
 cases b
def yV(h:SR C base la mu σ a.tmps w){t ty:TJ}{b:Array TypeId}{m k:TG}{H':Tp}{v:Value}(h0:b[0]?=some t)
  (c:nP C t (ke σ.tmps m) (ke σ.tmps k) σ.heap=some (H',v)):DE C base mu σ.heap w (do pure (.value (←Builtin.delete_ b ty #[a.eval m,a.eval k]))) H' v:=by
 cases c
def ll(h:SR C base la mu σ a.tmps w)(m:base<=w.heap.size){t:TJ}{r:Tg}
  (j:oA C t (r.map (ke σ.tmps))=true) :
  DE C base mu σ.heap w (do pure (.value (←Instr.makeMap t (r.map a.eval)))) (σ.heap++[.map [] 0]) (.map (some σ.heap.length)):=by
 have f:=h.wr.new m (w':=w.alloc (.map #[] 0)) (x:=.map #[] 0) rfl rfl rfl rfl (.map [] 0) ⟨w.heap.size,0,0,0⟩ rfl ⟨#[],rfl,rfl,λi e h=>by simp at h⟩ (λ_=>rfl);refine⟨.value (.map (some w.heap.size)),_,_,_,?_,.inl rfl,.map (bU _ _ _),f.1,f.2.1,f.2.2⟩;cases r with
 |none=>simp[Instr.makeMap]
 |some x=>
  simp only[oA,BP,wa]at j;obtain⟨n,g⟩:=qbu.1 j.1;obtain⟨k,o⟩:=jR g (aM h x);have b:∃d c,C.P.underlying t=some (.map d c):=by
   have l:=j.2;split at l
   next d c b=>exact⟨d,c,b⟩
   ·cases l
  obtain⟨d,c,b⟩:=b;simp[Instr.makeMap,run_underlying b,o,asInt,asIntOf]
end
end
section
variable [Val] [Glo]
section
variable {C:Cfg} {base:Nat} {la:tf} {mu:kx} {σ:St} {a:Act} {w:World}
def qC{v c:Value}{b:Bool}(d:bf v=some b)(h:VR la mu v c):bf c=some b/\du c=du v:=by
 cases h with
 |poison c=>simp[bf]at d
 |sym _=>simp[bf]at d
 |scalar h=>exact⟨d,rfl⟩
 |agg _ _=>simp[bf]at d
 |tuple _ _=>simp[bf]at d
 |func _ _ _ _ _=>simp[bf]at d ⊢;exact⟨d,rfl⟩
 |yield h=>simp[bf]at d ⊢;exact⟨d,rfl⟩
 |lptr h=>simp[bf]at d ⊢;exact⟨d,rfl⟩
 |hptr h=>simp[bf]at d ⊢;exact⟨d,rfl⟩
 |gptr=>simp[bf]at d ⊢;exact⟨d,rfl⟩
 |hslice h g f e=>simp[bf]at d ⊢;exact⟨d,rfl⟩
 |hslice0 e=>simp[bf]at d ⊢;exact⟨d,rfl⟩
 |gslice f e=>simp[bf]at d ⊢;exact⟨d,rfl⟩
 |gslice0 e=>simp[bf]at d ⊢;exact⟨d,rfl⟩
 |map h=>simp[bf]at d ⊢;exact⟨d,rfl⟩
def fl{x y:Value}{b:Bool}(h:lm x y=some b):∃d c,bf x=some d/\bf y=some c/\((d=true/\b=c)∨(c=true/\b=d)):=by
 unfold lm at h;split at h
 next g e f=>cases h;exact⟨true,b,e,f,.inl ⟨rfl,rfl⟩⟩
 next g _ e f=>cases h;exact⟨b,true,e,f,.inr ⟨rfl,rfl⟩⟩
 ·cases h
def jY{v:Value}{b:Bool}(h:bf v=some b)(e:du v=1):(b=true/\v = .slice none 0 0)∨(b=false/\∃d n c,v = .slice (some d) n c):=by
 unfold bf at h;split at h<;>first|(simp[du]at e;done)|(cases h;exact .inl ⟨rfl,rfl⟩)|(cases h;exact .inr ⟨rfl,_,_,_,rfl⟩)|cases h
def oM{v:Value}{b:Bool}(h:bf v=some b)(c:du v=2):(b=true/\v = .map none)∨(b=false/\∃r,v = .map (some r)):=by
 unfold bf at h;split at h<;>first|(simp[du]at c;done)|(cases h;exact .inl ⟨rfl,rfl⟩)|(cases h;exact .inr ⟨rfl,_,rfl⟩)|cases h
def mg{v:Value}{b:Bool}(h:bf v=some b)(c:du v=3):(b=true/\v = .nilFunc)∨(b=false/\∃f x y,v = .func f x y):=by
 unfold bf at h;split at h<;>first|(simp[du]at c;done)|(cases h;exact .inl ⟨rfl,rfl⟩)|(cases h;exact .inr ⟨rfl,_,_,_,rfl⟩)|cases h
def oN{v:Value}{b:Bool}(h:bf v=some b)(c:du v=4):(b=true/\v = .pointer none)∨(b=false/\∃r,v = .pointer (some r)):=by
 unfold bf at h;split at h<;>first|(simp[du]at c;done)|(cases h;exact .inl ⟨rfl,rfl⟩)|(cases h;exact .inr ⟨rfl,_,rfl⟩)|cases h
def uW{t:TJ}{x y:Value}{b:Bool}(s:lm x y=some b)(j:sE C.P t x y=true):(Op.equal t x y).run C.P w = .ok b w:=by
 obtain⟨z,n,l,m,g⟩:=fl s;unfold sE at j;split at j
 next d q=>
  simp only[wa,beq_iff_eq]at j;obtain⟨c,f⟩:=j;have u:=run_underlying q w;have o:Op.equal t x y=Op.equalIn (9999+1) t x y:=rfl;rw[o];unfold Op.equalIn;rw[Sem.run_bind,u,Result.andThen_ok];cases d with
  |slice e=>
   have h:=jY l (by rw[←c];rfl);have i:=jY m (by rw[←f];rfl);rcases h with⟨rfl,rfl⟩|⟨rfl,_,_,_,rfl⟩<;>rcases i with⟨rfl,rfl⟩|⟨rfl,_,_,_,rfl⟩<;>simp at g<;>subst g<;>rfl
  |map k e=>
   have h:=oM l (by rw[←c];rfl);have i:=oM m (by rw[←f];rfl);rcases h with⟨rfl,rfl⟩|⟨rfl,_,rfl⟩<;>rcases i with⟨rfl,rfl⟩|⟨rfl,_,rfl⟩<;>simp at g<;>subst g<;>rfl
  |func p r v=>
   have h:=mg l (by rw[←c];rfl);have i:=mg m (by rw[←f];rfl);rcases h with⟨rfl,rfl⟩|⟨rfl,_,_,_,rfl⟩<;>rcases i with⟨rfl,rfl⟩|⟨rfl,_,_,_,rfl⟩<;>simp at g<;>subst g<;>rfl
  |pointer e=>
   have h:=oN l (by rw[←c];rfl);have i:=oN m (by rw[←f];rfl);rcases h with⟨rfl,rfl⟩|⟨rfl,_,rfl⟩<;>rcases i with⟨rfl,rfl⟩|⟨rfl,_,rfl⟩<;>simp at g<;>subst g<;>rfl
  |_=>
   simp only[lq]at c;cases x<;>simp[du]at c
 ·cases j
def xI{c d c1 c2:Value}{b:Bool}{t:TJ}(h1:VR la mu c c1)(j:VR la mu d c2)(k:lm c d=some b)(e:sE C.P t c d=true):lm c1 c2=some b/\sE C.P t c1 c2=true:=by
 obtain⟨p,f,g,h,i⟩:=fl k;obtain⟨l,m⟩:=qC g h1;obtain⟨n,o⟩:=qC h j;refine⟨?_,by unfold sE at e ⊢;rw[m,o];exact e⟩;unfold lm;rw[l,n];rcases i with⟨rfl,rfl⟩|⟨rfl,rfl⟩
 ·rfl
 ·cases b<;>rfl
def nX{c:BinOp}{t:TJ}{x y:TG}{c1 c2:Value}{b:Bool}(f:lm c1 c2=some b):(eqGuard c t x y c1 c2).run C.P w = .ok () w:=by
 obtain⟨g,d,e,h,i⟩:=fl f;cases c1<;>(try (simp[bf]at e;done))<;>cases c<;>rfl
def binOp_eql{t:TJ}{c1 c2:Value}{b:Bool}(f:lm c1 c2=some b):binOp .eql t c1 c2=(do pure (.bool (←Op.equal t c1 c2))):=by
 obtain⟨g,c,d,e,h⟩:=fl f;cases c1<;>(try (simp[bf]at d;done))<;>cases c2<;>(try (simp[bf]at e;done))<;>rfl
def binOp_neq{t:TJ}{c1 c2:Value}{b:Bool}(f:lm c1 c2=some b):binOp .neq t c1 c2=(do pure (.bool (!(←Op.equal t c1 c2)))):=by
 obtain⟨g,c,d,e,h⟩:=fl f;cases c1<;>(try (simp[bf]at d;done))<;>cases c2<;>(try (simp[bf]at e;done))<;>rfl
def VR.func_inv{g:TK}{x y:Tj}{c:Value}(h:VR la mu (.func (.func g) x y) c):∃x' y',c = .func (.func g) x' y'/\VRs la mu x.toList x'.toList/\VRs la mu y.toList y'.toList:=by
 cases h with
 |scalar h=>simp[Am.scalar]at h
 |func _ j k e f=>
  exact⟨_,_,rfl,⟨by simpa using j,λi u v b d=>e i u v (by simpa using b) (by simpa using d)⟩,⟨by simpa using k,λi u v b d=>f i u v (by simpa using b) (by simpa using d)⟩⟩
def VR.yield_inv{l:Nat}{x y:Tj}{c:Value}(h:VR la mu (.func (.yield l) x y) c):∃p,mu l=some p/\c = .func (.yield p.b) #[] #[]:=by
 cases h with
 |scalar h=>simp[Am.scalar]at h
 |func d _ _ _ _=>exact absurd rfl (d l)
 |yield h=>exact⟨_,h,rfl⟩
def VR.slice_len{b:Option Addr}{n cx:Nat}{c:Value}(h:VR la mu (.slice b n cx) c):∃a' cap,c = .slice a' n cap/\(∀m,b.isSome->cx=m+1->cap=m):=by
 cases h with
 |scalar h=>exact⟨_,_,rfl,λm g _=>by cases b with|none=>cases g|some a=>simp[Am.scalar]at h⟩
 |hslice h i f e=>exact⟨_,_,rfl,λm _ d=>by omega⟩
 |hslice0 e=>exact⟨_,_,rfl,λm _ d=>by omega⟩
 |gslice f e=>exact⟨_,_,rfl,λm _ d=>by omega⟩
 |gslice0 e=>exact⟨_,_,rfl,λm _ d=>by omega⟩
def Gj(h:SR C base la mu σ a.tmps w)(c:Array (Nat×Operand))(f:∀p∈c.toList,aA (ke σ.tmps p.2)=false) :
  So la mu (c.toList.map λp=>(p.1,ke σ.tmps p.2)) (c.map λ(i,x)=>(i,a.eval x)).toList:=by
 rw[II];refine⟨by simp,λi p q b d=>?_⟩;rw[AX]at b d;cases e:c.toList[i]? with
 |none=>rw[e]at b;cases b
 |some x=>
  rw[e]at b d;cases b;cases d;exact⟨rfl,f x (Ap e),aM h x.2⟩
def cj{c:Call}{o:Oper}{b:Builtin}(e:o.op = .call c)(g:c.callee = .builtin b) :
  execOp a.eval o=builtin b c.argTypes o.type (c.args.map λ| .const _=>true|_=>false) (c.args.map a.eval):=by
 obtain⟨dst,h,f,pos,d,guard⟩:=o;simp only at e;subst e;simp only[execOp,resolve,g];rfl
def rq{c:Call}{s x:Value}(h:c.args.toList.map (ke σ.tmps)=[s,x]):∃xs xx,c.args = #[xs,xx]/\s=ke σ.tmps xs/\x=ke σ.tmps xx:=by
 obtain⟨l,b⟩ : ∃l,c.args=l.toArray:=⟨c.args.toList,by simp⟩;rw[b]at h
 match l,h with
 | [u,v],h=>
  simp at h;exact⟨u,v,by rw[b],h.1.symm,h.2.symm⟩
def rp{c:Call}{s:Value}(h:c.args.toList.map (ke σ.tmps)=[s]):∃xs,c.args = #[xs]/\s=ke σ.tmps xs:=by
 obtain⟨l,b⟩ : ∃l,c.args=l.toArray:=⟨c.args.toList,by simp⟩;rw[b]at h
 match l,h with
 | [u],h=>
  simp at h;exact⟨u,by rw[b],h.symm⟩
def mq{s:Sem Value}{v:Value}(h:∃v',s.run C.P w = .ok v' w/\VR la mu v v'):nD C base la mu σ w (do pure (.value (←s))) (.val v):=by
 obtain⟨v',b,c⟩:=h;exact gD b c
def lG(h:SR C base la mu σ a.tmps w){o:Oper}{e:Eff}(d:∀cs b,o.op≠.select cs b)(c:cJ C (ke σ.tmps) o=some e):nD C base la mu σ w (execOp a.eval o) e:=by
 obtain⟨v,rfl,f⟩:=zB h d c;exact f
def ru(h:SR C base la mu σ a.tmps w)(hb:base<=w.heap.size){c:Call}{o:Oper}{b:Builtin}{e:Eff}(z:o.op = .call c)(D:c.callee = .builtin b)
  (j:bc C (ke σ.tmps) b (c.args.toList.map (ke σ.tmps)) c.argTypes o=some e):nD C base la mu σ w (execOp a.eval o) e:=by
 have F:∀U b,o.op≠.select U b:=by rw[z];intro U b h;cases h
 unfold bc at j;split at j
 next s x t f l=>
  obtain⟨G,xx,g,rfl,rfl⟩:=rq f;split at j
  ·cases j
  next i=>
   cases j;simp only[Cz,not_or,CO]at i;obtain⟨H,K⟩ : ∃H,c.argTypes[1]?=some H:=by
    cases B:c.argTypes[1]? with
    |none=>simp[B]at i
    |some H=>exact⟨H,rfl⟩
   rw[K]at i;have hd:∃d,C.P.underlying H=some d/\oF d=false:=by
    have E:=i.1;simp only[Option.any_some]at E;split at E
    ·cases E
    ·cases E
    next S T=>
     cases y:C.P.underlying H with
     |none=>exact absurd y T
     |some d=>
      refine⟨d,rfl,?_⟩;cases d<;>first|rfl|exact absurd y (S _)
   obtain⟨d,O,Q⟩:=hd;intro M v A;have:=yK (ty:=o.type) h hb l K O Q A;rw[cj z D,g];simpa[builtin]using this
 next x t f l=>
  obtain⟨G,g,rfl⟩:=rp f;have B:=aM h G;split at j
  next L X n V y u=>
   cases j;rw[u]at B;obtain⟨W,I,r,_⟩:=B.slice_len;rw[cj z D,g];exact⟨.int .i64 n,by simp[builtin,Builtin.len_,l,run_underlying y,r,goInt],.scalar rfl⟩
  next kt et id y u=>
   cases j;rw[u]at B;obtain⟨p,hp,r⟩:=B.map_inv;intro v A;cases R:A8 σ.heap id with
   |none=>simp[R]at A
   |some q=>
    obtain⟨es,cl⟩:=q;simp only[R,BP,B7]at A;subst A;obtain⟨N,Y,Z,h3⟩:=vL h.wr R hp;rw[cj z D,g];refine⟨.int .i64 N.size,by simp[builtin,Builtin.len_,l,run_underlying y,r,cu Y,goInt],by rw[Z];exact .scalar rfl⟩
  next n L y=>
   cases j;rw[cj z D,g];exact⟨.int .i64 n,by simp[builtin,Builtin.len_,l,run_underlying y,goInt],.scalar rfl⟩
  ·exact lG h F j
 next x t f l=>
  obtain⟨G,g,rfl⟩:=rp f;have B:=aM h G;split at j
  next L X n V y u=>
   cases j;rw[u]at B;obtain⟨W,I,r,J⟩:=B.slice_len;have:=J V rfl rfl;subst this;rw[cj z D,g];exact⟨.int .i64 I,by simp[builtin,Builtin.cap_,l,run_underlying y,r,goInt],.scalar rfl⟩
  next L y u=>
   cases j;rw[u]at B;have r:=cL (a:=.slice none 0 0) rfl B;rw[cj z D,g];exact⟨.int .i64 0,by simp[builtin,Builtin.cap_,l,run_underlying y,r,goInt],.scalar rfl⟩
  next n L y=>
   cases j;rw[cj z D,g];exact⟨.int .i64 n,by simp[builtin,Builtin.cap_,l,run_underlying y,goInt],.scalar rfl⟩
  ·cases j
 next d x t f l=>
  obtain⟨G,xx,g,rfl,rfl⟩:=rq f;cases j;intro M v A;have:=Jy (ty:=o.type) h l A;rw[cj z D,g];simpa[builtin]using this
 next m k t f l=>
  obtain⟨G,xx,g,rfl,rfl⟩:=rq f;cases j;intro M v A;have:=yV (ty:=o.type) h l A;rw[cj z D,g];simpa[builtin]using this
 next x t f l=>
  obtain⟨G,g,rfl⟩:=rp f;cases j;intro M v A;have:=G6 (ty:=o.type) h l A;rw[cj z D,g];simpa[builtin]using this
 ·exact lG h F j
def yO(h:SR C base la mu σ a.tmps w)(O:base<=w.heap.size){c:Call}{o:Oper}{e:Eff}(F:o.op = .call c)(d:ge C (ke σ.tmps) c o=some e):nD C base la mu σ w (execOp a.eval o) e:=by
 unfold ge at d;simp only at d;split at d
 next b D=>
  exact ru h O F D d
 ·cases d
 next f D=>
  split at d
  ·cases d
  next k=>
   simp only[CO,qc0]at k;have j:=(rK h c.args).down k;have z:=aM h f;have q:∀B x y,a.eval f = .func B x y->(execOp a.eval o).run C.P w=(invoke (.fn B y) (x++c.args.map a.eval)).run C.P w:=by
    intro B x y m;obtain⟨dst,S,J,pos,A,guard⟩:=o;simp only at F;subst F;simp[execOp,resolve,D,m,Deferred.ofValue]
   split at d
   next g first r s=>
    split at d
    next E=>
     cases d;rw[s]at z;obtain⟨K,L,m,H,I⟩:=z.func_inv;have n:first.toList.all aR=true/\r.toList.all aR=true:=by simpa[noLoc]using E
     have M:VRs AN mu first.toList K.toList:=⟨H.1,λi u v t G=>jr (cT n.1 t) (H.2 i u v t G)⟩
     have N:VRs AN mu r.toList L.toList:=⟨I.1,λi u v t G=>jr (cT n.2 t) (I.2 i u v t G)⟩;refine⟨K++c.args.map a.eval++L,?_,?_⟩
     ·simp only[Vh];exact(M.append j).append N
     ·rw[q _ _ _ m];rfl
    ·cases d
   next l first r s=>
    split at d
    next R=>
     cases d;rw[s]at z;obtain⟨p,Q,m⟩:=z.yield_inv;refine⟨p,#[]++c.args.map a.eval,Q,by simpa using j,?_⟩;rw[q _ _ _ m];rfl
    ·cases d
   ·cases d
def wZ(h:SR C base la mu σ a.tmps w)(L:base<=w.heap.size){pts:Tx}{o:Oper}{e:Eff}(g:aq C pts (ke σ.tmps) o=some e):nD C base la mu σ w (execOp a.eval o) e:=by
 obtain⟨dst,op,type,pos,after,guard⟩:=o;cases op with
 |move x=>simp only[aq]at g;cases g;exact⟨_,rfl,aM h x⟩
 |assign x=>simp only[aq]at g;cases g;exact⟨_,rfl,aM h x⟩
 |pick c x y=>
  simp only[aq]at g;split at g
  next q hq=>
   cases g;have M:=aM h c;rw[hq]at M;have ag:=M.bool;refine⟨if q then a.eval x else a.eval y,by simp[execOp,ag,asBool],?_⟩;cases q
   ·exact aM h y
   ·exact aM h x
  ·cases g
 |alloc t=>
  simp only[aq]at g;cases V:eE C.P t with
  |none=>rw[V]at g;cases g
  |some z=>
   rw[V,A7]at g;have aE:=yI V w;have:=me h L (VR.of_flat (pJ V).2.1) g;have S:(execOp a.eval { dst,op:=.alloc t,type,pos,after,guard }).run C.P w=(do pure (.value (←Instr.box t z)):Sem Next).run C.P w:=by
    simp[execOp,Instr.alloc,Instr.box,aE]
   revert this;cases e<;>simp only[nD,vm,DE,S]<;>exact id
 |box t x=>simp only[aq]at g;exact me h L (aM h x) g
 |build t N=>
  simp only[aq]at g;split at g
  next G=>
   cases E:tJ C t (N.toList.map λp=>(p.1,ke σ.tmps p.2))with
   |none=>rw[E]at g;cases g
   |some v=>
    rw[E]at g;cases g;have I:=Gj h N λp I=>by
     have:=qac.1 G p I;simpa using this
    exact mq (GZ E I)
  ·cases g
 |buildSlice t n N=>
  simp only[aq]at g;split at g
  next G=>
   have ax:∀p∈N.toList,aA (ke σ.tmps p.2)=false:=λp I=>by
    have:=qac.1 G p I;cases A:ke σ.tmps p.2 with
    |tuple vs=>
     rw[A]at this;have:=qac.1 this (.tuple vs) (by simp[Value.cells]);simp only[bg,aJ,wa]at this;simp[aA,this.2]
    |_=>rfl
   have I:=Gj h N ax;cases E:eY C t n (N.toList.map λp=>(p.1,ke σ.tmps p.2))with
   |none=>rw[E]at g;cases g
   |some r=>
    rw[E]at g;cases g;intro K v A;cases A;exact pN h L I (λp I=>by
     obtain⟨q,hq,rfl⟩:=qax.1 I;exact qac.1 G q hq) E
  ·cases g
 |load t x=>simp only[aq]at g;exact zi h g
 |store t x y=>simp only[aq]at g;exact wE h g
 |nilCheck x=>
  simp only[aq]at g;have D:=aM h x;split at g
  next ad A=>
   cases g;rw[A]at D;cases M:a.eval x with
   |pointer p=>
    rw[M]at D;cases p with
    |none=>cases D
    |some p=>exact⟨_,by simp[execOp,M],D⟩
   |_=>rw[M]at D;cases D<;>(rename_i j;simp[Am.scalar]at j)
  next f u v A=>
   cases g;rw[A]at D;obtain⟨u',T,F,_,_⟩:=D.func_inv;rw[F]at D;exact⟨_,by simp[execOp,F],D⟩
  next f u v A=>
   cases g;rw[A]at D;obtain⟨p,_,F⟩:=D.yield_inv;rw[F]at D;exact⟨_,by simp[execOp,F],D⟩
  ·cases g
 |binOp op t x y yt=>
  have B:cJ C (ke σ.tmps) { dst,op:=.binOp op t x y yt,type,pos,after,guard }=some e->nD C base la mu σ w (execOp a.eval { dst,op:=.binOp op t x y yt,type,pos,after,guard }) e:=
   λg=>lG h (by intro Y b h;cases h) g
  simp only[aq]at g;split at g
  ·split at g
   next b hn=>
    split at g
    next ho=>
     cases g;obtain⟨J,n2⟩:=xI (aM h x) (aM h y) hn ho;refine⟨.bool b,?_,.scalar rfl⟩;simp only[execOp,Sem.run_bind,nX J,Result.andThen_ok,binOp_eql J,uW J n2,Sem.run_pure]
    ·cases g
   ·exact B g
  ·split at g
   next b hn=>
    split at g
    next ho=>
     cases g;obtain⟨J,n2⟩:=xI (aM h x) (aM h y) hn ho;refine⟨.bool !b,?_,.scalar rfl⟩;simp only[execOp,Sem.run_bind,nX J,Result.andThen_ok,binOp_neq J,uW J n2,Sem.run_pure]
    ·cases g
   ·exact B g
  ·exact B g
 |unOp op t x=>simp only[aq]at g;exact lG h (by intro Y b h;cases h) g
 |convert s d x=>simp only[aq]at g;exact lG h (by intro Y b h;cases h) g
 |makeFunc fn first O=>
  simp only[aq]at g;split at g
  ·cases g
  next ap=>
   cases g;refine⟨.func fn (first.map a.eval) (O.map a.eval),by simp[execOp,Instr.makeFunc],?_⟩;have r1:=rK h first
   have r2:=rK h O;refine .func (λl hl=>ap l hl) (by simp) (by simp) (λi u v H A=>r1.2 i u v (by simpa using H) (by simpa using A)) (λi u v H A=>r2.2 i u v (by simpa using H) (by simpa using A))
 |makeMap t r=>
  simp only[aq]at g;split at g
  next hr=>
   cases g;intro K v A;cases A;exact ll h L hr
  ·cases g
 |makeSlice t l c=>
  simp only[aq]at g;cases g;intro K v A;exact su h L A
 |slice t x W U X=>
  have B:cJ C (ke σ.tmps) { dst,op:=.slice t x W U X,type,pos,after,guard }=some e->nD C base la mu σ w (execOp a.eval { dst,op:=.slice t x W U X,type,pos,after,guard }) e:=
   λg=>lG h (by intro Y b h;cases h) g
  have D:=aM h x;have o1:=ORel.map W λx=>aM h x;have o2:=ORel.map U λx=>aM h x;have o3:=ORel.map X λx=>aM h x;simp only[aq]at g;split at g
  next ad A=>
   rw[A]at D;split at g
   next ay=>
    cases j:kE C t ad (W.map (ke σ.tmps)) (U.map (ke σ.tmps)) (X.map (ke σ.tmps)) []with
    |none=>rw[j]at g;cases g
    |some v=>
     rw[j]at g;cases g;exact mq (py h.wr (.inl ay) j D o1 o2 o3)
   ·cases g;intro v A;obtain⟨T,Q,R⟩:=py h.wr (.inr rfl) A D o1 o2 o3;exact gD Q R
  ·unfold oR at g;split at g
   next v j=>
    cases g;exact mq (Iu j D o1 o2 o3)
   ·exact B g
 |fieldAddr t x f=>
  simp only[aq]at g;cases j:fR C t (ke σ.tmps x) f with
  |none=>rw[j]at g;cases g
  |some v=>rw[j]at g;cases g;exact mq (rM j (aM h x))
 |field t x f=>
  simp only[aq]at g;cases j:ue C t (ke σ.tmps x) f with
  |none=>rw[j]at g;cases g
  |some v=>rw[j]at g;cases g;exact mq (Hv j (aM h x))
 |indexAddr t x i=>
  simp only[aq]at g;cases j:eS C t (ke σ.tmps x) (ke σ.tmps i)with
  |none=>rw[j]at g;cases g
  |some v=>rw[j]at g;cases g;exact mq (sc j (aM h x) (aM h i))
 |index t x i=>
  simp only[aq]at g;cases j:lZ C t (ke σ.tmps x) (ke σ.tmps i)with
  |none=>rw[j]at g;cases g
  |some v=>rw[j]at g;cases g;exact mq (HI j (aM h x) (aM h i))
 |lookup t m k ok=>
  simp only[aq]at g;have hm:=aM h m;have hk:=aM h k;split at g
  next ar=>
   rw[ar]at hm;cases j:dI C t (.map none) (ke σ.tmps k) ok []with
   |none=>rw[j]at g;cases g
   |some v=>rw[j]at g;cases g;exact mq (qw h.wr (.inl rfl) hm hk j)
  ·cases g;intro v A;obtain⟨T,Q,R⟩:=qw h.wr (.inr rfl) hm hk A;exact gD Q R
 |mapUpdate t m k v=>simp only[aq]at g;cases g;intro K u H;exact jX h H
 |insert t m k v=>simp only[aq]at g;cases g;intro K u H;exact jX h H
 |mapEntry t m k=>simp only[aq]at g;cases g;intro K u H;exact uE h H
 |entryStore t m s v=>simp only[aq]at g;cases g;intro K u H;exact pR h H
 |extract t i=>
  simp only[aq]at g;have ht:=aM h t;split at g
  next vs A=>
   split at g
   ·cases g
   next a0=>
    cases j:vs[i]? with
    |none=>rw[j]at g;cases g
    |some v=>
     rw[j]at g;cases g;rw[A]at ht;obtain⟨ds,F,an⟩:=ht.untuple (by omega);obtain⟨T,Q,R⟩:=an.get (i:=i) (by simpa using j);refine⟨T,?_,R⟩;have Z:ds[i]?=some T:=by simpa using Q
     simp[execOp,Instr.extract,F,Z]
  ·cases g
 |call c=>simp only[aq]at g;exact yO h L rfl g
 |_=>simp only[aq]at g;cases g
end
end
section
variable [Val]
section
variable [Glo]
def Marks(mu:kx)(H:Tp)(w₀ w:World)(ds:List Deferred):Prop:=
 ∃a:List Nat,ds=a.map (λr=>({ target:=.collected r,args:=#[] }:Deferred))/\a.Nodup/\∀r∈a,w₀.heap.size<=r/\w.heap[r]?=some (.deferred (some []))/\¬Own mu H r
structure FI(C:Cfg)(base:Nat)(H₀:Tp)(mu₀:kx)(w₀:World)(la:tf)(mu:kx)(σ:St)(a:Act)(w:World):Prop where
 sr:SR C base la mu σ a.tmps w
 evo:Evo H₀ mu₀ w₀ σ.heap mu w
 fresh:∀s b,la s=some b->w₀.heap.size<=b
 marks:Marks mu σ.heap w₀ w a.defers
 low:base<=w₀.heap.size
end
def dP(C:Cfg)(f:TK)(args:Tk)(H:Tp)(r:Value)(H':Tp):Prop:=
 ∀(_:Glo) (a:Nat) (mu:kx) (w:World) (args':Tj),a<=w.heap.size->VRs AN mu args args'.toList->WR C a mu H w->∀cs,
  ∃v b w',VR AN b r v/\WR C a b H' w'/\Evo H mu w H' b w'/\(callFunc f args').run C.P w = .ok (.enter f args') w/\
   ∃fr,Steps C.P (lone (Frame.enter C.P f args' .normal) cs w) (lone fr cs w')/\fr.fn=f/\fr.leaving C.P w' (.returned v)
def Ni(C:Cfg)(l:Nat)(args:Tk)(H:Tp)(r:Value)(H':Tp):Prop:=
 ∀(_:Glo) (a:Nat) (mu:kx) (w:World) (args':Tj) (p:Pl),a<=w.heap.size->mu l=some p->VRs AN mu args args'.toList->WR C a mu H w->∀c cs,
  ∃v f w' g e assign d,VR AN f r v/\WR C a f H' w'/\Evo H mu w H' f w'/\(Instr.yield p.b args').run C.P w = .ok (.round p.b g e assign d) w/\
   Steps C.P (lone (Frame.round p.b g e assign d .normal) (c :: cs) w) (lone (c.finish v) cs w')
structure BOk(C:Cfg)(B:Below):Prop where
 call:∀f args H r H',B.call f args H r H'->dP C f args H r H'
 yield:∀l args H r H',B.yield l args H r H'->Ni C l args H r H'
section
variable [Glo]
section machine
abbrev _root_.Tw:=List Item
variable {P:TD} {b:Frame} {a:Act} {k:Tw} {cs:List Frame} {w w':World} {ops:Tl} {i:Nat} {rest:Tx} {o:Oper}
def dw{v:Value}(f:ops[i]?=some o)(j:Region.wanted o (yielded ops a.tmps)=true)(g:∀c,o.op≠.defer c)(h:(execOp a.eval o).run P w = .ok (.value v) w') :
  step P (lone (b.atR a (.inRegion ops (i :: rest) :: k)) cs w) = .next (lone (b.atR (a.put o.dst v) (.inRegion ops rest :: k)) cs w'):=by
 have e:=stepGR_op (P:=P) (b:=b) (k:=k) (cs:=cs) (w:=w) (rest:=rest) f j;rw[Oper.semAt_eq _ _ _ g]at e;have d:(b.atR a (.inRegion ops (i :: rest) :: k)).finish v=b.atR (a.put o.dst v) (.inRegion ops rest :: k):=by rw[Frame.finish_atR,f];rfl
 refine step_lone_go ?_;rw[e,←d];simp[stepG.apply,Sem.runT_eq,h]
def qX(f:ops[i]?=some o)(j:Region.wanted o (yielded ops a.tmps)=true)(g:∀c,o.op≠.defer c)(h:(execOp a.eval o).run P w = .ok .skip w') :
  step P (lone (b.atR a (.inRegion ops (i :: rest) :: k)) cs w) = .next (lone (b.atR (a.put o.dst undef) (.inRegion ops rest :: k)) cs w'):=by
 have e:=stepGR_op (P:=P) (b:=b) (k:=k) (cs:=cs) (w:=w) (rest:=rest) f j;rw[Oper.semAt_eq _ _ _ g]at e;have d:(b.atR a (.inRegion ops (i :: rest) :: k)).finish undef=b.atR (a.put o.dst undef) (.inRegion ops rest :: k):=by rw[Frame.finish_atR,f];rfl
 refine step_lone_go ?_;rw[e,←d];simp[stepG.apply,Sem.runT_eq,h]
def zW{f:TK}{args:Tj}(g:ops[i]?=some o)(j:Region.wanted o (yielded ops a.tmps)=true)(e:∀c,o.op≠.defer c)(h:(execOp a.eval o).run P w = .ok (.enter f args) w') :
  step P (lone (b.atR a (.inRegion ops (i :: rest) :: k)) cs w) = .next (lone (Frame.enter P f args .normal) (b.atR a (.inRegion ops (i :: rest) :: k) :: cs) w'):=by
 have d:=stepGR_op (P:=P) (b:=b) (k:=k) (cs:=cs) (w:=w) (rest:=rest) g j;rw[Oper.semAt_eq _ _ _ e]at d;exact step_lone_go (by rw[d];simp[stepG.apply,Sem.runT_eq,h,Frame.atR])
def Ix{l:Nat}{f:TK}{e:Tj}{assign d:Code}(j:ops[i]?=some o)(n:Region.wanted o (yielded ops a.tmps)=true)(h:∀c,o.op≠.defer c)
  (m:(execOp a.eval o).run P w = .ok (.round l f e assign d) w') :
  step P (lone (b.atR a (.inRegion ops (i :: rest) :: k)) cs w) = .next (lone (Frame.round l f e assign d .normal) (b.atR a (.inRegion ops (i :: rest) :: k) :: cs) w'):=by
 have g:=stepGR_op (P:=P) (b:=b) (k:=k) (cs:=cs) (w:=w) (rest:=rest) j n;rw[Oper.semAt_eq _ _ _ h]at g;exact step_lone_go (by rw[g];simp[stepG.apply,Sem.runT_eq,m,Frame.atR])
def uj(c:ops[i]?=some o)(v:Value):(b.atR a (.inRegion ops (i :: rest) :: k)).finish v=b.atR (a.put o.dst v) (.inRegion ops rest :: k):=by
 rw[Frame.finish_atR,c];rfl
end machine
section
variable {C:Cfg} {base:Nat} {H₀:Tp} {mu₀:kx} {w₀:World} {la:tf} {mu:kx} {σ:St} {a:Act} {w:World}
def FI.big(h:FI C base H₀ mu₀ w₀ la mu σ a w):base<=w.heap.size:=Es h.low h.evo.size
def tF(a:Act)(dst:Tn)(v:Value):(a.put dst v).tmps=(match dst with|some d=>a.tmps.setIfInBounds d v|none=>a.tmps):=by cases dst<;>rfl
def pL(a:Act)(dst:Tn)(v:Value):(a.put dst v).defers=a.defers:=by cases dst<;>rfl
def FI.put(h:FI C base H₀ mu₀ w₀ la mu σ a w)(dst:Tn){v v':Value}(c:VR la mu v v'):FI C base H₀ mu₀ w₀ la mu (σ.put dst v) (a.put dst v') w:=by
 have b:(σ.put dst v).heap=σ.heap:=by cases dst<;>rfl
 refine⟨?_,by rw[b];exact h.evo,h.fresh,by rw[pL,b];exact h.marks,h.low⟩;rw[tF];exact h.sr.put dst c
def Marks.evo{H H':Tp}{mu b:kx}{w w':World}{ds:List Deferred}(h:Marks mu H w₀ w ds)(e:Evo H mu w H' b w'):Marks b H' w₀ w' ds:=by
 obtain⟨n,g,i,j⟩:=h;refine⟨n,g,i,λr l=>?_⟩;obtain⟨m,d,f⟩:=j r l;have c:r<w.heap.size:=by
  rcases Bu r w.heap.size with h|h
  ·exact h
  ·rw[RV h]at d;cases d
 exact⟨m,by rw[e.keep r c f];exact d,λk=>(e.steal r k).elim (λo=>by omega) f⟩
def FI.heap(h:FI C base H₀ mu₀ w₀ la mu σ a w){H':Tp}{b:kx}{w':World}(d:WR C base b H' w')(c:Evo σ.heap mu w H' b w'):FI C base H₀ mu₀ w₀ la b { σ with heap:=H' } a w':=
 ⟨h.sr.evo d c,h.evo.trans c,h.fresh,h.marks.evo c,h.low⟩
def Own.lt{mu:kx}{H:Tp}{w:World}(f:WR C base mu H w){b:Nat}(h:Own mu H b):b<w.heap.size/\base<=b:=by
 obtain⟨id,o,p,c,d,e,rfl⟩:=h;exact⟨f.lt c (bH d) e,f.own id o p c d e⟩
def FI.lnew(h:FI C base H₀ mu₀ w₀ la mu σ a w){s:Nat}{vs:Tk}{d:Tj}{e:TJ}(I:σ.loc[s]?=some none)(U:VRs AN mu vs d.toList)(G:vs.all bg=true) :
  FI C base H₀ mu₀ w₀ (λk=>if k=s then some w.heap.size else la k) mu { σ with loc:=σ.loc.set s (some vs) } a (w.alloc (.cells d e)):=by
 have i:∀b,b<w.heap.size->(w.alloc (.cells d e)).heap[b]?=w.heap[b]?:=λb A=>by
  show(w.heap.push _)[b]?=_;rw[qcC,ra (by omega)]
 have u:la s=none:=by
  cases S:la s with
  |none=>rfl
  |some b=>obtain⟨l,j⟩:=h.sr.ldom s b S;rw[I]at j;cases j
 have r:∀t b,la t=some b->(if t=s then some w.heap.size else la t)=some b:=λt b f=>by
  rw[ra (λe=>by subst e;rw[u]at f;cases f)];exact f
 have m:∀t b,la t=some b->b<w.heap.size:=λt b f=>by
  obtain⟨l,j⟩:=h.sr.ldom t b f;obtain⟨N,c,z,n,_,x,_⟩:=h.sr.loc t l j;obtain rfl:b=N:=by rw[f]at n;exact AR n
  exact(qaQ.1 x).1
 have y:s<σ.loc.length:=by
  rcases Bu s σ.loc.length with h|h
  ·exact h
  ·rw[Bp h]at I;cases I
 have K:Evo σ.heap mu w σ.heap mu (w.alloc (.cells d e)):=⟨Ah _,λ_ _=>rfl,by simp,λb A _=>i b A,λb A=>.inr A,rfl,rfl,rfl,Ah _⟩;refine⟨⟨h.sr.vals.mono r λ_ _ h=>h,?_,?_,?_,?_⟩,h.evo.trans K,?_,h.marks.evo K,h.low⟩
 ·intro t b f;split at f
  next v=>subst v;exact⟨vs,by simp[y]⟩
  next v=>
   obtain⟨l,j⟩:=h.sr.ldom t b f;exact⟨l,by rw[Eb,ra (B9 v)];exact j⟩
 ·intro t l f;rcases get_set f with⟨F,f⟩|⟨rfl,_,J⟩
  ·obtain⟨b,c,z,j,n,x,E,P,Q⟩:=h.sr.loc t l f;exact⟨b,c,z,by simp[F,j],n,by rw[i b (m t b j)];exact x,E,P,Q⟩
  ·cases J;exact⟨w.heap.size,d,e,by simp,h.big,by show(w.heap.push _)[_]?=_;simp,G,U,λT=>by have:=(Own.lt h.sr.wr T).1;omega⟩
 ·intro t M b f q;split at f<;>split at q
  next B D=>rw[B,D]
  next B D=>
   have:=m M b q;cases f;omega
  next B D=>
   have:=m t b f;cases q;omega
  ·exact h.sr.linj t M b f q
 ·refine⟨?_,h.sr.wr.inj,h.sr.wr.own,h.sr.wr.ro,h.sr.wr.dom,?_⟩
  ·intro id o hid L;obtain⟨p,j,n⟩:=h.sr.wr.obj id o hid L;exact⟨p,j,by rw[i _ (iz L n)];exact n⟩
  ·intro g vs R;obtain⟨j,n,c,z,O,x,E⟩:=h.sr.wr.glob g vs R;exact⟨j,n,c,z,O,by rw[i _ (qaQ.1 x).1];exact x,E⟩
 ·intro t b f;split at f
  ·cases f;exact h.evo.size
  ·exact h.fresh t b f
def FI.lset(h:FI C base H₀ mu₀ w₀ la mu σ a w){s b:Nat}{vs j:Tk}{c cs:Tj}{e:TJ}(M:σ.loc[s]?=some (some vs))(E:la s=some b)(I:w.heap[b]?=some (.cells c e (0,0)))
  (Y:VRs AN mu j cs.toList) (L:j.all bg=true):FI C base H₀ mu₀ w₀ la mu { σ with loc:=σ.loc.set s (some j) } a (w.setRow b cs):=by
 have Q:b<w.heap.size:=(qaQ.1 I).1;have n:¬Own mu σ.heap b/\base<=b:=by
  obtain⟨m,B,D,f,i,_,_,_,G⟩:=h.sr.loc s vs M;obtain rfl:b=m:=by rw[E]at f;exact AR f
  exact⟨G,i⟩
 have d:∀k,k≠b->(w.setRow b cs).heap[k]?=w.heap[k]?:=λk J=>setRow_other w b k cs J;have v:(w.setRow b cs).heap[b]?=some (.cells cs e (0,0)):=setRow_heap w b c cs e (0,0) I;have y:s<σ.loc.length:=by
  rcases Bu s σ.loc.length with h|h
  ·exact h
  ·rw[Bp h]at M;cases M
 have U:=h.fresh s b E;refine⟨⟨h.sr.vals,?_,?_,h.sr.linj,?_⟩,?_,h.fresh,?_,h.low⟩
 ·intro t m z;obtain⟨q,f⟩:=h.sr.ldom t m z;by_cases A:t=s
  ·subst A;exact⟨j,by simp[y]⟩
  ·exact⟨q,by rw[Eb,ra (B9 A)];exact f⟩
 ·intro t q z;rcases get_set z with⟨K,z⟩|⟨rfl,_,N⟩
  ·obtain⟨m,B,D,f,i,u,F,T,G⟩:=h.sr.loc t q z;exact⟨m,B,D,f,i,by rw[d m λR=>K (h.sr.linj t s m f (R▸E))];exact u,F,T,G⟩
  ·cases N;exact⟨b,cs,e,E,n.2,v,L,Y,n.1⟩
 ·refine⟨?_,h.sr.wr.inj,h.sr.wr.own,h.sr.wr.ro,h.sr.wr.dom,?_⟩
  ·intro id o hid P;obtain⟨p,f,i⟩:=h.sr.wr.obj id o hid P;refine⟨p,f,?_⟩;by_cases x:p.b=b
   · -- an object that is only read may lie below
    exfalso;by_cases l:o.owned=true
    ·exact n.1 ⟨id,o,p,hid,l,f,x⟩
    ·have:=h.sr.wr.ro id o p hid P (by simpa using l) f;omega
   ·rw[d _ x];exact i
  ·intro g vs V;obtain⟨f,i,B,D,S,u,F⟩:=h.sr.wr.glob g vs V;exact⟨f,i,B,D,S,by rw[d _ (by omega)];exact u,F⟩
 ·refine⟨h.evo.len,h.evo.same,by simpa[World.setRow]using h.evo.size,λk J W=>?_,h.evo.steal,h.evo.os,h.evo.tape,h.evo.output,h.evo.dr⟩;rw[d k (by omega)];exact h.evo.keep k J W
 ·obtain⟨rs,f,i,u⟩:=h.marks;refine⟨rs,f,i,λr X=>?_⟩;obtain⟨Z,O,k3⟩:=u r X;exact⟨Z,by rw[d r (λe=>by subst e;rw[I]at O;cases O)];exact O,k3⟩
end
end
end
section
variable [Val] [Glo]
section
variable {C:Cfg} {base:Nat} {H₀:Tp} {mu₀:kx} {w₀:World} {la:tf} {mu:kx} {σ:St} {a:Act} {w:World}
def lS{ops:Tl}{o:Oper}{t:Bool}(h:VRs la mu σ.tmps a.tmps.toList)(c:cw ops σ.tmps o=some t):Region.wanted o (yielded ops a.tmps)=t:=by
 unfold cw at c;unfold Region.wanted;cases l:o.guard with
 |none=>rw[l]at c;cases c;rfl
 |some s=>
  obtain⟨j,m⟩:=s;rw[l]at c;simp only at c ⊢;unfold yielded;cases k:(ops[j]?).bind (·.dst)with
  |none=>
   rw[k]at c;cases c;simp
  |some d=>
   rw[k]at c;simp only[A7]at c ⊢;cases f:σ.tmps[d]? with
   |none=>
    rw[f]at c;cases c;have:a.tmps[d]?=none:=by
     have q:=h.1;rw[qdH]at f;rw[Array.getElem?_eq_none_iff];simp at q;omega
    rw[this];simp
   |some v=>
    rw[f]at c;obtain⟨u,n,g⟩:=h.get f;rw[show a.tmps[d]?=some u by simpa using n];cases v with
    |bool b=>
     have:=g.bool;subst this;cases c;simp
    |tuple x=>
     split at c
     next b e=>cases e
     next y e=>
      cases e;split at c
      ·cases c
      next i=>
       cases c;obtain⟨z,rfl,_⟩:=g.untuple i;rfl
     next A p=>exact absurd rfl (p x)
    |_=>
     cases c;cases g<;>first|rfl|(rename_i r;simp[Am.scalar]at r)
def gX{pts:Tx}{ρ:Tf}{o:Oper}{e:Eff}(h:aq C pts ρ o=some e):∀c,o.op≠.defer c:=by
 intro c b;unfold aq at h;rw[b]at h;cases h
structure Kept(σ:St)(mu:kx)(σ':St)(mu':kx):Prop where
 len:σ.heap.length<=σ'.heap.length
 same:∀k,k<σ.heap.length->mu' k=mu k
def St.put_hp(σ:St)(d:Tn)(v:Value):(σ.put d v).heap=σ.heap:=by cases d<;>rfl
theorem Kept.refl{σ:St}{mu:kx}:Kept σ mu σ mu:=⟨Ah _,λ_ _=>rfl⟩
def Kept.put{σ:St}{mu:kx}{l:List (Option (Tk))}{d:Tn}{v:Value}:Kept σ mu (({ σ with loc:=l }:St).put d v) mu:=⟨by rw[St.put_hp];exact Ah _,λ_ _=>rfl⟩
def Kept.heap{σ:St}{mu b:kx}{w w':World}{H:Tp}{d:Tn}{v:Value}(h:Evo σ.heap mu w H b w'):Kept σ mu (({ σ with heap:=H }:St).put d v) b:=⟨by rw[St.put_hp];exact h.len,h.same⟩
def uZ{B:Below}(W:BOk C B){pts:Tx}{ops:Tl}{i:Nat}{σ':St}(h:FI C base H₀ mu₀ w₀ la mu σ a w)(G:aj C B pts ops i σ σ')(b:Frame)(rest:Tx)(k:Tw)(cs:List Frame) :
  ∃a' w' S u,FI C base H₀ mu₀ w₀ S u σ' a' w'/\Kept σ mu σ' u/\
   Steps C.P (lone (b.atR a (.inRegion ops (i :: rest) :: k)) cs w) (lone (b.atR a' (.inRegion ops rest :: k)) cs w'):=by
 unfold aj at G;split at G
 next y=>
  subst G;refine⟨a,w,la,mu,h,.refl,.one ?_⟩;have:=stepR_op_skip (P:=C.P) (b:=b) (a:=a) (k:=k) (cs:=cs) (w:=w) (ops:=ops) (i:=i) (rest:=rest) (by simp[y]);simpa[y,Act.put]using this
 next o y=>
  split at G
  ·exact G.elim
  next R=>
   subst G;have j:=lS (a:=a) h.sr.vals R;refine⟨a.put o.dst undef,w,la,mu,h.put o.dst .undef,.put,.one ?_⟩;have:=stepR_op_skip (P:=C.P) (b:=b) (a:=a) (k:=k) (cs:=cs) (w:=w) (ops:=ops) (i:=i) (rest:=rest) (by simp[y,j]);simpa[y]using this
  next R=>
   have j:=lS (a:=a) h.sr.vals R;rcases G with G|⟨v,Y,rfl⟩
   case inr=>
    obtain⟨v',x,n⟩:=Iy h.sr Y;refine⟨_,w,la,mu,h.put o.dst n,.put,.one (dw y j (λc M=>?_) x)⟩;have E:=Y.1;rw[M]at E;cases E
   obtain⟨e,X,I⟩:=G;have t:=gX X;have z:=wZ h.sr h.big X;cases e with
   |val v=>
    obtain⟨p,d,rfl⟩:=I;cases d;obtain⟨v',x,n⟩:=z;exact⟨_,w,la,mu,h.put o.dst n,.put,.one (dw y j t x)⟩
   |lnew s K=>
    obtain⟨p,d,rfl⟩:=I;simp only[aY]at d;split at d
    next m=>
     cases d;obtain⟨N,V,x,n,F⟩:=z;have J:=(h.lnew (e:=V) m n F).put o.dst (v:=.pointer (some ⟨s,0,some 0⟩)) (v':=.pointer (some ⟨w.heap.size,0,none⟩)) (.lptr (by simp));exact⟨_,_,_,_,J,.put,.one (dw y j t x)⟩
    ·cases d
   |lget s f=>
    obtain⟨p,d,rfl⟩:=I;simp only[aY]at d;split at d
    next K m=>
     cases g:f K with
     |none=>rw[g]at d;cases d
     |some v=>
      rw[g]at d;cases d;obtain⟨v',x,n⟩:=z K v m g;exact⟨_,w,la,mu,h.put o.dst n,.put,.one (dw y j t x)⟩
    ·cases d
   |lset s f=>
    obtain⟨p,d,rfl⟩:=I;simp only[aY]at d;split at d
    next K m=>
     cases g:f K with
     |none=>rw[g]at d;cases d
     |some T=>
      rw[g]at d;cases d;obtain⟨bl,c,ad,V,x,n,F,E,D⟩:=z K T m g;have J:=(h.lset m x n E D).put o.dst (v:=undef) (v':=undef) .undef;exact⟨_,_,_,_,J,.put,.one (qX y j t F)⟩
    ·cases d
   |hget f=>
    obtain⟨p,d,rfl⟩:=I;simp only[aY]at d;cases g:f σ.heap with
    |none=>rw[g]at d;cases d
    |some v=>
     rw[g]at d;cases d;obtain⟨v',x,n⟩:=z v g;exact⟨_,w,la,mu,h.put o.dst n,.put,.one (dw y j t x)⟩
   |hop f=>
    obtain⟨p,d,rfl⟩:=I;simp only[aY]at d;cases g:f σ.heap with
    |none=>rw[g]at d;cases d
    |some q=>
     rw[g]at d;cases d;obtain⟨nx,v',w',u,x,n,F,E,D,_⟩:=z q.1 q.2 g;have J:=(h.heap E D).put o.dst F.up;rcases n with rfl|⟨rfl,rfl⟩
     ·exact⟨_,w',la,u,J,.heap D,.one (dw y j t x)⟩
     ·exact⟨_,w',la,u,J,.heap D,.one (qX y j t x)⟩
   |call f L=>
    obtain⟨r,H,M,rfl⟩:=I;obtain⟨A,x,n⟩:=z;obtain⟨v,u,w',F,E,D,O,Q⟩:=W.call _ _ _ _ _ M _ base mu w A h.big x h.sr.wr (b.atR a (.inRegion ops (i :: rest) :: k) :: cs);rw[O]at n;refine⟨_,w',la,u,(h.heap E D).put o.dst F.up,.heap D,?_⟩;obtain⟨fr,s1,s2,s3⟩:=Q;refine .head (zW y j t n) (s1.trans (.one ?_));rw[←uj y v];exact step_leave_returned s3
   |yield l L=>
    obtain⟨r,H,M,rfl⟩:=I;obtain⟨p,A,d,x,n⟩:=z;obtain⟨v,u,w',fn,Z,assign,U,F,E,D,O,Q⟩:=W.yield _ _ _ _ _ M _ base mu w A p h.big d x h.sr.wr (b.atR a (.inRegion ops (i :: rest) :: k)) cs;rw[O]at n;refine⟨_,w',la,u,(h.heap E D).put o.dst F.up,.heap D,?_⟩;refine .head (Ix y j t n) ?_;rw[←uj y v];exact Q
def yq{B:Below}(e:BOk C B){pts:Tx}{ops:Tl}{i:Nat}{σ':St}(h:FI C base H₀ mu₀ w₀ la mu σ a w)(f:aj C B pts ops i σ σ')(b:Frame)(rest:Tx)(k:Tw)(cs:List Frame) :
  ∃a' w' c d,FI C base H₀ mu₀ w₀ c d σ' a' w'/\
   Steps C.P (lone (b.atR a (.inRegion ops (i :: rest) :: k)) cs w) (lone (b.atR a' (.inRegion ops rest :: k)) cs w'):=
 let ⟨a',w',c,d,h1,_,h2⟩:=uZ e h f b rest k cs
 ⟨a',w',c,d,h1,h2⟩
def FI.restate{σ':St}(h:FI C base H₀ mu₀ w₀ la mu σ a w)(n:fJ σ σ'):FI C base H₀ mu₀ w₀ la mu σ' a w:=by
 obtain⟨d,e,b,f⟩:=n;obtain⟨l,r,heap⟩:=σ';simp only at d e b f;subst d e;refine⟨⟨⟨by rw[b];exact h.sr.vals.1,λi y c k m=>?_⟩,h.sr.ldom,h.sr.loc,h.sr.linj,h.sr.wr⟩,h.evo,h.fresh,h.marks,h.low⟩;have g:i<σ.tmps.length:=by
  rw[←b];exact(qbg.1 k).1
 have j:=h.sr.vals.2 i σ.tmps[i] c (by simp[g]) m;rcases f i σ.tmps[i] y (by simp[g]) k with rfl|⟨o,p,q⟩
 ·exact j
 ·rw[yd o j,q];exact uR p
def yp{B:Below}(f:BOk C B){pts:Tx}{ops:Tl}(b:Frame)(k:Tw)(cs:List Frame):∀(l:Tx) (σ σ':St) (a:Act) (w:World) (la:tf) (mu:kx),FI C base H₀ mu₀ w₀ la mu σ a w->fo C B pts ops l σ σ'->
  ∃a' w' d e,FI C base H₀ mu₀ w₀ d e σ' a' w'/\
   Steps C.P (lone (b.atR a (.inRegion ops l :: k)) cs w) (lone (b.atR a' k) cs w')
 | [],σ,σ',a,w,la,mu,h,c=>by
  cases c;exact⟨a,w,la,mu,h,.one stepR_region_end⟩
 |i :: l,σ,σ',a,w,la,mu,h,c=>by
  obtain⟨σ₀,σ₁,h0,h1,o⟩:=c;obtain⟨a₁,w₁,la₁,mu₁,g,j⟩:=yq f (h.restate h0) h1 b l k cs;obtain⟨a₂,w₂,la₂,mu₂,m,n⟩:=yp f b k cs l σ₁ σ' a₁ w₁ la₁ mu₁ g o;exact⟨a₂,w₂,la₂,mu₂,m,j.trans n⟩
def GD{B:Below}(f:BOk C B){pts:Tx}{ops:Tl}(b:Frame)(k:Tw)(cs:List Frame):∀(l:Tx) (σ σ':St) (a:Act) (w:World) (la:tf) (mu:kx),FI C base H₀ mu₀ w₀ la mu σ a w->bJ C B pts ops l σ σ'->
  ∃a' w' d e,FI C base H₀ mu₀ w₀ d e σ' a' w'/\
   Steps C.P (lone (b.atR a (.inRegion ops l :: k)) cs w) (lone (b.atR a' k) cs w')
 | [],σ,σ',a,w,la,mu,h,c=>by
  cases c;exact⟨a,w,la,mu,h,.one stepR_region_end⟩
 |i :: l,σ,σ',a,w,la,mu,h,c=>by
  obtain⟨σ₁,h1,o⟩:=c;obtain⟨a₁,w₁,la₁,mu₁,g,j⟩:=yq f h h1 b l k cs;obtain⟨a₂,w₂,la₂,mu₂,m,n⟩:=GD f b k cs l σ₁ σ' a₁ w₁ la₁ mu₁ g o;exact⟨a₂,w₂,la₂,mu₂,m,j.trans n⟩
def Fresh.at_{mk:Nat->Value}(h:Fresh mk){la:tf}{mu d:kx}{L k:Nat}{v:Value}(f:VR la mu (mk L) v)(g:∀p,mu L=some p->d k=some p):VR la d (mk k) v:=by
 cases h with
 |ptr=>
  cases f with
  |scalar h=>simp[Am.scalar]at h
  |hptr h=>exact .hptr (g _ h)
 |slice e l c=>
  generalize j:qs e=s at f ⊢;cases f with
  |scalar h=>simp[Am.scalar]at h
  |hslice h m i b=>exact .hslice (g _ h) m i b
  |hslice0 b=>exact .hslice0 b
  |gslice i b=>simp[qs]at j
  |gslice0 b=>simp[qs]at j
 |map=>
  cases f with
  |scalar h=>simp[Am.scalar]at h
  |map h=>exact .map (g _ h)
def dm(mu:kx)(L k:Nat):kx:=λj=>if j=k then mu L else if j=L then none else mu j
def iP{b:Tp}{o x:HObj}{j k:Nat}(mu:kx)(h:(b.set k o)[j]?=some x):j<b.length/\(b++[o])[if j=k then b.length else j]?=some x/\dm mu b.length k j=mu (if j=k then b.length else j):=by
 have d:j<b.length:=by
  have:=(qbg.1 h).1;simpa using this
 refine⟨d,?_,?_⟩
 ·rcases get_set h with⟨c,h⟩|⟨rfl,_,rfl⟩
  ·rw[ra c,BZ d];exact h
  ·rw[mc rfl];simp
 ·unfold dm;split
  ·rfl
  ·rw[ra (by omega)]
def WR.pad(h:WR C base mu σ.heap w)(n:Nat):WR C base mu (σ.pad n).heap w/\Evo σ.heap mu w (σ.pad n).heap mu w:=by
 have e:∀ {j:Nat} {x:HObj},(σ.pad n).heap[j]?=some x->x.alive=true->σ.heap[j]?=some x:=by
  intro j x c d;simp only[St.pad,qdp]at c;split at c
  ·exact c
  ·rw[IG]at c;split at c
   ·cases c;cases d
   ·cases c
 refine⟨⟨λid o l d=>h.obj id o (e l d) d,λi j t u v y f c g k=>h.inj i j t u v y (e f (bH g)) (e c k) g k,λi o p f l=>h.own i o p (e f (bH l)) l,
  λi o p f d=>h.ro i o p (e f d) d,λid hid=>h.dom id (by simp[St.pad]at hid;omega),h.glob⟩,⟨by simp[St.pad],λ_ _=>rfl,Ah _,λ_ _ _=>rfl,?_,rfl,rfl,rfl,Ah _⟩⟩
 rintro b ⟨id,o,p,q,m,r,s⟩;exact .inr ⟨id,o,p,e q (bH m),m,r,s⟩
def FI.pad(h:FI C base H₀ mu₀ w₀ la mu σ a w)(n:Nat):FI C base H₀ mu₀ w₀ la mu (σ.pad n) a w:=h.heap (h.sr.wr.pad n).1 (h.sr.wr.pad n).2
def FI.slot(h:FI C base H₀ mu₀ w₀ la mu σ a w){f:Tp}{o:HObj}{d:kx}{w':World}{k:Nat}(I:WR C base d (f++[o]) w')(z:Evo σ.heap mu w (f++[o]) d w')(y:V5 mu d (f++[o]) w')
  (hl:f.length=σ.heap.length) (hk:f[k]?=some .dead) (hn:mu k=none) (ad:H₀.length<=k):FI C base H₀ mu₀ w₀ la (dm d f.length k) { σ with heap:=f.set k o } a w':=by
 have ag:k<f.length:=(qbg.1 hk).1;have t:=h.evo.trans z;have G:∀i p,mu i=some p->dm d f.length k i=some p:=by
  intro i p q;have v:i<σ.heap.length:=by
   rcases Bu i σ.heap.length with l|l
   ·exact l
   ·rw[h.sr.wr.dom i l]at q;cases q
  unfold dm;rw[ra (λe=>by subst e;rw[hn]at q;cases q),ra (by omega),z.same i v];exact q
 have n:∀b,Own (dm d f.length k) (f.set k o) b->Own d (f++[o]) b:=by
  rintro b ⟨id,x,p,l,u,m,A⟩;obtain⟨_,R,S⟩:=iP d l;exact⟨_,x,p,R,u,by rw[←S];exact m,A⟩
 have X:WR C base (dm d f.length k) (f.set k o) w':=by
  refine⟨?_,?_,?_,?_,?_,?_⟩
  ·intro id x hid J;obtain⟨_,R,S⟩:=iP d hid;obtain⟨p,p1,p2⟩:=y _ x R J;exact⟨p,by rw[S];exact p1,p2.mono G⟩
  ·intro i j oi oj pi pj v hj N O Z B D;obtain⟨i1,E,F⟩:=iP d v;obtain⟨j1,j2,j3⟩:=iP d hj;rw[F]at B;rw[j3]at D;refine I.inj _ _ oi oj pi pj E j2 N O ?_ B D;split<;>split<;>omega
  ·intro i x p v Q q;obtain⟨_,E,F⟩:=iP d v;exact I.own _ x p E Q (by rw[←F];exact q)
  ·intro i x p v J Q q;obtain⟨_,E,F⟩:=iP d v;exact I.ro _ x p E J Q (by rw[←F];exact q)
  ·intro id hid;simp at hid;unfold dm;rw[ra (by omega)];split
   ·rfl
   ·exact I.dom id (by simp;omega)
  ·intro g T Y;obtain⟨l,u,c,e,V,m,A⟩:=h.sr.wr.glob g T Y;have M:BV g<w.heap.size:=(qaQ.1 m).1;exact⟨l,u,c,e,V,by rw[z.keep _ M (λy=>by have:=(Own.lt h.sr.wr y).2;omega)];exact m,A.mono G⟩
 have L:=h.evo.len;refine⟨⟨h.sr.vals.mono (λ_ _ h=>h) G,h.sr.ldom,?_,h.sr.linj,X⟩,⟨by simp;omega,?_,t.size,t.keep,λb K=>t.steal b (n b K),t.os,t.tape,t.output,t.dr⟩,h.fresh,?_,h.low⟩
 ·intro s T hs;obtain⟨b,c,e,l,u,m,A,W,U⟩:=h.sr.loc s T hs;have K:b<w.heap.size:=(qaQ.1 m).1;exact⟨b,c,e,l,u,by rw[z.keep b K U];exact m,A,W.mono (λ_ _ h=>h) G,λy=>(z.steal b (n b y)).elim (λhh=>by omega) U⟩
 ·intro id hid;unfold dm;rw[ra (by omega),ra (by omega)];exact t.same id hid
 ·obtain⟨rs,l,u,m⟩:=h.marks.evo z;exact⟨rs,l,u,λr P=>⟨(m r P).1,(m r P).2.1,λy=>(m r P).2.2 (n r y)⟩⟩
def FI.old(h:FI C base H₀ mu₀ w₀ la mu σ a w){H':Tp}{b:kx}{w':World}(c:Evo σ.heap mu w H' b w'){k:Nat}(d:k<σ.heap.length)(e:mu k=none):b k=none:=by
 rw[c.same k d];exact e
def pw{B:Below}(F:BOk C B){pts:Tx}{ops:Tl}{v:Nat->To}(d:∀i j k,v i=some k->v j=some k->i=j)(h0:∀i k,v i=some k->H₀.length<=k)(b:Frame)(k:Tw)(cs:List Frame) :
  ∀(l:Tx) (σ σ':St) (a:Act) (w:World) (la:tf) (mu:kx),FI C base H₀ mu₀ w₀ la mu σ a w->(∀i∈l,∀k,v i=some k->k<σ.heap.length/\mu k=none)->iS C B pts ops v l σ σ'->
  ∃a' w' T m,FI C base H₀ mu₀ w₀ T m σ' a' w'/\
   Steps C.P (lone (b.atR a (.inRegion ops l :: k)) cs w) (lone (b.atR a' k) cs w')
 | [],σ,σ',a,w,la,mu,h,_,O=>by
  cases O;exact⟨a,w,la,mu,h,.one stepR_region_end⟩
 |i :: l,σ,σ',a,w,la,mu,h,R,O=>by
  obtain⟨G,σ₁,h1,W⟩:=O;unfold dZ at h1;split at h1
  ·obtain⟨a₁,w₁,la₁,mu₁,g1,V,g2⟩:=uZ F h h1 b l k cs;obtain⟨a₂,w₂,la₂,mu₂,D,E⟩:=pw F d h0 b k cs l σ₁ σ' a₁ w₁ la₁ mu₁ g1 (λj y k q=>by
    obtain⟨A,U⟩:=R j (BF _ y) k q;exact⟨qc4 A V.len,by rw[V.same k A];exact U⟩) W
   exact⟨a₂,w₂,la₂,mu₂,D,g2.trans E⟩
  next s q=>
   obtain⟨o,f,Hx,x,mk,ho,hw,X,hf,I,hd,n,rfl⟩:=h1;have S:=lS (a:=a) h.sr.vals hw;have K:=gX X;have N:=wZ h.sr h.big X;obtain⟨nx,v',w',m,A,U,t,q4,Z,q6⟩:=N _ _ hf;obtain⟨u1,u2⟩:=R i (by simp) s q;have hS:=h.slot q4 Z q6 I hd u2 (h0 i s q);have J:VR AN (dm m Hx.length s) (mk s) v':=n.at_ t (λp hp=>by
    unfold dm;rw[mc rfl,I];exact hp)
   have hF:=hS.put o.dst J.up;have M:nx = .value v':=by
    rcases U with h|⟨_,rfl⟩
    ·exact h
    ·exfalso;cases n with
     |ptr=>cases t
     |slice e l c=>
      generalize g:(Value.slice (some ⟨σ.heap.length,0,qs e⟩) l c)=u at t;cases t<;>first|cases g|(rename_i Q;subst g;simp[Am.scalar]at Q)
     |map=>cases t
   subst M;obtain⟨a₂,w₂,la₂,mu₂,D,E⟩:=pw F d h0 b k cs l _ σ' _ _ _ _ hF (λj y z r=>by
    obtain⟨Y,p2⟩:=R j (BF _ y) z r;have L:z≠s:=λe=>by
     subst e;exact G (d i j z q r▸y)
    refine⟨?_,?_⟩
    ·cases o.dst<;>simp[St.put,I]<;>exact Y
    ·unfold dm;rw[ra L,ra (by omega),Z.same z Y];exact p2) W
   exact⟨a₂,w₂,la₂,mu₂,D,(Steps.one (dw ho S K A)).trans E⟩
def P7{B:Below}(l:BOk C B){pts:Tx}{ops:Tl}{σ':St}(h:FI C base H₀ mu₀ w₀ la mu σ a w)(f:eD C B pts ops σ σ')(t:Nat)(b:Frame)(k:Tw)(cs:List Frame) :
  ∃a' w' g j,FI C base H₀ mu₀ w₀ g j σ' a' w'/\
   Steps C.P (lone (b.atR a (.inRegion ops (Region.linearise .any ops t) :: k)) cs w) (lone (b.atR a' k) cs w'):=by
 rcases f with f|⟨p,n,_,e,m,o⟩
 ·exact GD l b k cs _ _ _ _ _ _ _ h (f t)
 ·have c:=h.evo.len;exact pw l m (λi k d=>Es c (e i k d).1) b k cs _ _ _ _ _ _ _ (h.pad n) (λi _ k d=>⟨by simpa[St.pad]using(e i k d).2,h.sr.wr.dom k (e i k d).1⟩) (o t)
end
end
section
variable [Val]
section
variable [Glo] {C:Cfg} {base:Nat} {H₀:Tp} {mu₀:kx} {w₀:World} {la:tf} {mu:kx} {σ:St} {a:Act} {w:World}
def eZ(b:Tx):∀(l:List (Option (Tk))) (i j:Nat),(gV b l i)[j]?=if b.contains (i+j)then(l[j]?).map (λ_=>none)else l[j]?
 | [],i,j=>by simp[gV]
 |x :: l,i,j=>by
  cases j with
  |zero=>simp only[gV,Va,Vf];split<;>rfl
  |succ j=>
   simp only[gV,IF];rw[eZ b l (i+1) j,show i+1+j=i+(j+1)by omega]
def G8{b:Tx}{v c:Value}(h:VR la mu v c):VR (λs=>if b.contains s then none else la s) mu (jb b v) c:=by
 unfold jb;split
 next f=>
  split
  ·exact .poison c
  next d=>
   cases h with
   |scalar h=>simp[Am.scalar]at h
   |lptr h=>
    simp at d;exact .lptr (by simp[d,h])
   |hptr h=>exact .hptr h
   |gptr=>exact .gptr
 ·split
  next e=>exact(fU e h).up
  ·exact .poison c
def FI.clear(h:FI C base H₀ mu₀ w₀ la mu σ a w)(f:Tx):∃o,FI C base H₀ mu₀ w₀ o mu (σ.clear f) a w:=by
 unfold St.clear;split
 ·exact⟨la,h⟩
 ·refine⟨λs=>if f.contains s then none else la s,⟨?_,?_,?_,?_,h.sr.wr⟩,h.evo,?_,h.marks,h.low⟩
  ·refine⟨by simpa using h.sr.vals.1,λi x y k t=>?_⟩;rw[AX]at k;cases n:σ.tmps[i]? with
   |none=>rw[n]at k;cases k
   |some v=>
    rw[n]at k;cases k;exact G8 (h.sr.vals.2 i v y n t)
  ·intro s b g;split at g
   ·cases g
   next m=>
    obtain⟨p,l⟩:=h.sr.ldom s b g;exact⟨p,by rw[eZ,BT,ra m];exact l⟩
  ·intro s p d;rw[eZ,BT]at d;split at d
   ·cases q:σ.loc[s]? with
    |none=>rw[q]at d;cases d
    |some x=>rw[q]at d;cases d
   next m=>
    obtain⟨b,c,e,l,r⟩:=h.sr.loc s p d;exact⟨b,c,e,by show(if _ then none else la s)=_;rw[ra m];exact l,r⟩
  ·intro s u b d j;split at d
   ·cases d
   ·split at j
    ·cases j
    ·exact h.sr.linj s u b d j
  ·intro s b g;split at g
   ·cases g
   ·exact h.fresh s b g
def FI.drew(h:FI C base H₀ mu₀ w₀ la mu σ a w)(n:Nat)(b:w.drawn<=n):FI C base H₀ mu₀ w₀ la mu σ a { w with drawn:=n }:=
 ⟨⟨h.sr.vals,h.sr.ldom,h.sr.loc,h.sr.linj,h.sr.wr.drew n⟩,h.evo.drew n b,h.fresh,h.marks,h.low⟩
def wD{P:TD}{b:Frame}{a:Act}{k:Tw}{cs:List Frame}{w:World}{c:Code} :
  step P (lone (b.atR a (.code (.scope c) :: k)) cs w) = .next (lone (b.atR a (.code c :: .inScope c :: k)) cs w):=
 step_lone_go (by simp[stepG,stepG.exec,Frame.atR])
def tj{P:TD}{b:Frame}{a:Act}{k:Tw}{cs:List Frame}{w:World}{c:Code} :
  step P (lone (b.atR a (.inScope c :: k)) cs w) = .next (lone (b.atR a k) cs w):=
 step_lone_go (by simp[stepG,stepG.exec,Frame.atR])
def Arr(P:TD)(b:Frame)(k:Tw)(cs:List Frame)(m:Machine)(a':Act)(w':World):Exit->Prop
 | .normal=>Steps P m (lone (b.atR a' k) cs w')
 | .ret=>∃c,Steps P m (lone (b.atR a' (.code .ret :: c)) cs w')
 | .exit id=>∃c,Steps P m (lone (b.atR a' (.code (.exit id) :: c)) cs w')/\exitTo id c=exitTo id k
 |_=>False
def Arr.of_steps{P:TD}{b:Frame}{k:Tw}{cs:List Frame}{m m₁:Machine}{a':Act}{w':World}{e:Exit}(h:Steps P m m₁)(h':Arr P b k cs m₁ a' w' e):Arr P b k cs m a' w' e:=by
 cases e with
 |normal=>exact h.trans h'
 |ret=>obtain⟨t,h'⟩:=h';exact⟨t,h.trans h'⟩
 |exit id=>obtain⟨t,h',c⟩:=h';exact⟨t,h.trans h',c⟩
 |_=>exact h'.elim
def Arr.pass{P:TD}{b:Frame}{x:Item}{k:Tw}{cs:List Frame}{m:Machine}{a':Act}{w':World}{e:Exit}(g:∀id,exitTo id (x :: k)=exitTo id k)(f:e≠.normal)(h:Arr P b (x :: k) cs m a' w' e):Arr P b k cs m a' w' e:=by
 cases e with
 |normal=>exact absurd rfl f
 |ret=>exact h
 |exit id=>obtain⟨t,d,c⟩:=h;exact⟨t,d,by rw[c,g]⟩
 |_=>exact h.elim
end
def tC(C:Cfg)(S:Sems):Prop:=
 ∀(_:Glo) (c:Nat) (H₀:Tp) (mu₀:kx) (w₀:World) (g:To) (h:TK) (pts:Tx) (code:Code) (σ σ':St) (e:Exit) (la:tf) (mu:kx) (a:Act) (w:World),(pts≠[]->g=none)->
  S.ex pts code σ e σ'->FI C c H₀ mu₀ w₀ la mu σ a w->∀(b:Frame) k cs,b.roundOf=g->b.fn=h->
  ∃a' w' d f,FI C c H₀ mu₀ w₀ d f σ' a' w'/\Arr C.P b k cs (lone (b.atR a (.code code :: k)) cs w) a' w' e
section
variable [Glo] {C:Cfg} {base:Nat} {H₀:Tp} {mu₀:kx} {w₀:World} {la:tf} {mu:kx} {σ:St} {a:Act} {w:World}
end
section
variable {C:Cfg}
def Hb(Z:C.P.follows .mixedOrders=true){S:Sems}(V:BOk C S.toBelow)(E:tC C S):tC C { S with ex:=ob C S }:=by
 intro _ o H₀ d₀ w₀ ro fn pts code σ σ' e j d a w hro hex h b k cs hb hf;cases code with
 |skip=>
  obtain⟨rfl,rfl⟩:=hex;exact⟨a,w,j,d,h,.one stepR_skip⟩
 |label l=>
  obtain⟨rfl,rfl⟩:=hex;exact⟨a,w,j,d,h,.one stepR_label⟩
 |ret=>
  obtain⟨rfl,rfl⟩:=hex;exact⟨a,w,j,d,h,⟨k,.refl _ _⟩⟩
 |exit id=>
  obtain⟨rfl,rfl⟩:=hex;exact⟨a,w,j,d,h,⟨k,.refl _ _,rfl⟩⟩
 |goto l=>exact hex.elim
 |refuse s=>exact hex.elim
 |seq x y=>
  obtain⟨e₁,σ₁,v,D⟩:=hex;obtain⟨a₁,w₁,j₁,d₁,q,r⟩:=E _ o H₀ d₀ w₀ ro fn pts x σ σ₁ e₁ j d a w hro v h b (.code y :: k) cs hb hf;rcases D with⟨rfl,D⟩|⟨p,rfl,rfl⟩
  ·obtain⟨a₂,w₂,j₂,d₂,M,N⟩:=E _ o H₀ d₀ w₀ ro fn pts y σ₁ σ' e j₁ d₁ a₁ w₁ hro D q b k cs hb hf;exact⟨a₂,w₂,j₂,d₂,M,.of_steps (.head stepR_seq r) N⟩
  ·exact⟨a₁,w₁,j₁,d₁,q,.of_steps (.one stepR_seq) (.pass (λid=>rfl) p r)⟩
 |cond c x y=>
  obtain⟨t,ht,v⟩:=hex;obtain⟨a₁,w₁,j₁,d₁,q,r⟩:=E _ o H₀ d₀ w₀ ro fn pts _ σ σ' e j d a w hro v h b k cs hb hf;have W:=aM h.sr c;rw[ht]at W;exact⟨a₁,w₁,j₁,d₁,q,.of_steps (.one (stepR_cond W.bool)) r⟩
 |block id x=>
  obtain⟨e₁,v,rfl⟩:=hex;obtain⟨a₁,w₁,j₁,d₁,q,r⟩:=E _ o H₀ d₀ w₀ ro fn pts x σ σ' e₁ j d a w hro v h b (.inBlock id :: k) cs hb hf;refine⟨a₁,w₁,j₁,d₁,q,?_⟩;have g:=r;refine .of_steps (.one stepR_block) ?_;cases e₁ with
  |normal=>exact Steps.trans g (.one stepR_inBlock)
  |ret=>exact g
  |exit i=>
   obtain⟨t,L,z⟩:=g;show Arr C.P b k cs _ a₁ w₁ (if i=id then .normal else .exit i);by_cases J:i=id
   ·rw[mc J];subst J;have:exitTo i t=some k:=by rw[z];simp[exitTo]
    exact L.trans (.one (stepR_exit this))
   ·rw[ra J];refine⟨t,L,?_⟩;rw[z];have p:(id==i)=false:=by simp;exact λe=>J e.symm
    simp[exitTo,p]
  |_=>exact g.elim
 |loop x=>
  obtain⟨e₁,σ₁,v,D⟩:=hex;obtain⟨j₀,O⟩:=h.clear (aQ pts x);obtain⟨a₁,w₁,j₁,d₁,q,r⟩:=E _ o H₀ d₀ w₀ ro fn pts x _ σ₁ e₁ j₀ d a w hro v O b (.inLoop x :: k) cs hb hf;rcases D with⟨rfl,D⟩|⟨p,rfl,rfl⟩
  ·obtain⟨a₂,w₂,j₂,d₂,M,N⟩:=E _ o H₀ d₀ w₀ ro fn pts (.loop x) σ₁ σ' e j₁ d₁ a₁ w₁ hro D q b k cs hb hf;refine⟨a₂,w₂,j₂,d₂,M,?_⟩;have L:Steps C.P (lone (b.atR a (.code (.loop x) :: k)) cs w) (lone (b.atR a₁ (.inLoop x :: k)) cs w₁):=.head stepR_loop r;have z:=N;have G:∀A,Steps C.P (lone (b.atR a₁ (.code (.loop x) :: k)) cs w₁) A->(∃n,runN C.P (n+1) (lone (b.atR a₁ (.code (.loop x) :: k)) cs w₁) = .next A)∨A=lone (b.atR a₁ (.code (.loop x) :: k)) cs w₁:=by
    rintro A ⟨n,B⟩;cases n with
    |zero=>simp[runN]at B;exact .inr B.symm
    |succ n=>exact .inl ⟨n,B⟩
   have F:∀A,Steps C.P (lone (b.atR a₁ (.code (.loop x) :: k)) cs w₁) A->A≠lone (b.atR a₁ (.code (.loop x) :: k)) cs w₁->Steps C.P (lone (b.atR a₁ (.inLoop x :: k)) cs w₁) A:=by
    intro A Q p;rcases G A Q with⟨n,B⟩|rfl
    ·refine⟨n+1,?_⟩;simp only[runN,stepR_loop,stepR_inLoop]at B ⊢;exact B
    ·exact absurd rfl p
   have u:∀(R:Act) (t:Tw) (X:World),t≠.code (.loop x) :: k->lone (b.atR R t) cs X≠lone (b.atR a₁ (.code (.loop x) :: k)) cs w₁:=by
    intro R t X p e;have U:=congrArg (λm:Machine=>(m.gs[0]?).map (λg=>g.frame.todo)) e;simp[lone,Frame.atR]at U;exact p U
   refine .of_steps L ?_;cases e with
   |normal=>
    refine F _ z (u _ _ _ λe=>?_);have:=congrArg List.length e;simp at this
   |ret=>
    obtain⟨t,z⟩:=z;exact⟨t,F _ z (u _ _ _ λe=>by simp at e)⟩
   |exit id=>
    obtain⟨t,z,s3⟩:=z;exact⟨t,F _ z (u _ _ _ λe=>by simp at e),s3⟩
   |_=>exact z.elim
  ·exact⟨a₁,w₁,j₁,d₁,q,.of_steps (.one stepR_loop) (.pass (λid=>rfl) p r)⟩
 |scope x=>
  obtain⟨a₁,w₁,j₁,d₁,q,r⟩:=E _ o H₀ d₀ w₀ ro fn pts x σ σ' e j d a w hro hex h b (.inScope x :: k) cs hb hf;refine⟨a₁,w₁,j₁,d₁,q,.of_steps (.one wD) ?_⟩;have g:=r;by_cases B:e = .normal
  ·subst B;exact Steps.trans g (.one tj)
  ·exact .pass (λid=>rfl) B g
 |region id ad I=>
  obtain⟨rfl,v⟩:=hex;cases I with
  |false=>
   obtain⟨a₁,w₁,j₁,d₁,q,r⟩:=yp V b k cs _ _ _ _ _ _ _ h v;exact⟨a₁,w₁,j₁,d₁,q,.head stepR_region r⟩
  |true=>
   have Y:FI C o H₀ d₀ w₀ j d σ a { w with drawn:=w.drawn+1 }:=h.drew _ (Nat.le_succ _);obtain⟨σ₀,O,v⟩:=v;obtain⟨a₁,w₁,j₁,d₁,q,r⟩:=P7 V (Y.restate O) v (w.tape w.drawn (.order fn id)) b k cs;refine⟨a₁,w₁,j₁,d₁,q,.head stepR_region_draw ?_⟩;rw[Z,hf];exact r
 |rangeFunc f K assign T=>exact hex.elim
end
end
section
variable [Val]
section
variable [Glo] {C:Cfg} {base:Nat} {H₀:Tp} {mu₀:kx} {w₀:World} {la:tf} {mu:kx} {σ:St} {a:Act} {w:World}
def FI.shut{d:Deferred}{ds:List Deferred}(h:FI C base H₀ mu₀ w₀ la mu σ a w)(M:a.defers=d :: ds) :
  ∃r,d.target = .collected r/\(Instr.takeDeferred r).run C.P w = .ok [] { w with heap:=w.heap.setIfInBounds r (.deferred none) }/\
   FI C base H₀ mu₀ w₀ la mu σ { a with defers:=ds } { w with heap:=w.heap.setIfInBounds r (.deferred none) }:=by
 obtain⟨z,u,K,B⟩:=h.marks;rw[M]at u;cases z with
 |nil=>cases u
 |cons r z=>
  simp only[A5,Dt]at u;obtain⟨rfl,rfl⟩:=u;obtain⟨S,v,R⟩:=B r (by simp);have O:r<w.heap.size:=(qaQ.1 v).1;have f:∀b,b≠r->(w.heap.setIfInBounds r (.deferred none))[b]?=w.heap[b]?:=λb L=>qca (B9 L);have E:=h.low;refine⟨r,rfl,?_,⟨⟨h.sr.vals,h.sr.ldom,?_,h.sr.linj,⟨?_,h.sr.wr.inj,h.sr.wr.own,h.sr.wr.ro,h.sr.wr.dom,?_⟩⟩,?_,h.fresh,?_,h.low⟩⟩
  ·have x:(getObj r).run C.P w = .ok (.deferred (some [])) w:=by simp[getObj,Sem.run,v]
   have y:(setObj r (.deferred none)).run C.P w = .ok () { w with heap:=w.heap.setIfInBounds r (.deferred none) }:=by simp[setObj,Sem.run,v]
   simp[Instr.takeDeferred,Sem.run_bind,x,y,Result.andThen]
  ·intro s A y;obtain⟨b,c,e,i,l,m,e4⟩:=h.sr.loc s A y;exact⟨b,c,e,i,l,by rw[←m];exact f b (λI=>by subst I;rw[v]at m;cases m),e4⟩
  ·intro id o hid D;obtain⟨p,i,l⟩:=h.sr.wr.obj id o hid D;refine⟨p,i,?_⟩;show objR mu p (w.heap.setIfInBounds r (.deferred none))[p.b]? o;by_cases q:p.b=r
   ·exfalso;by_cases j:o.owned=true
    ·exact R ⟨id,o,p,hid,j,i,q⟩
    ·have:=h.sr.wr.ro id o p hid D (by simpa using j) i;omega
   ·rw[f _ q];exact l
  ·intro g A x;obtain⟨i,l,c,G,J,m,e4⟩:=h.sr.wr.glob g A x;exact⟨i,l,c,G,J,by rw[←m];exact f _ (by omega),e4⟩
  ·refine⟨h.evo.len,h.evo.same,by simpa using h.evo.size,λk N Q=>?_,h.evo.steal,h.evo.os,h.evo.tape,h.evo.output,h.evo.dr⟩;rw[←h.evo.keep k N Q];exact f k (by omega)
  ·have n:=qbU.1 K;refine⟨z,rfl,n.2,λF t=>?_⟩;obtain⟨i,l,m⟩:=B F (by simp[t]);exact⟨i,by rw[←l];exact f F (λe=>n.1 (e▸t)),m⟩
def vj:∀(ds:List Deferred) (a:Act) (w:World),a.defers=ds->FI C base H₀ mu₀ w₀ la mu σ a w->
  ∃w',FI C base H₀ mu₀ w₀ la mu σ { a with defers:=[] } w'/\
   ∀(b:Frame) (c:Tw) (cs:List Frame),Steps C.P (lone { b.atR a c with mode:=.returning } cs w) (lone { b.atR { a with defers:=[] } c with mode:=.returning } cs w')
 | [],a,w,e,h=>by
  obtain⟨f,defers⟩:=a;simp only at e;subst e;exact⟨w,h,λb c cs=>.refl _ _⟩
 |d :: ds,a,w,e,h=>by
  obtain⟨r,g,i,j⟩:=h.shut e;obtain⟨w',k,l⟩:=vj ds { a with defers:=ds } _ rfl j;refine⟨w',k,λb c cs=>.head ?_ (l b c cs)⟩;exact step_collected (fr:={ b.atR a c with mode:=.returning }) (by simp) (show a.defers=d :: ds from e) g i
def lJ(b:Tj):ResultVar->Sem Value
 | .tmp t=>pure (b.getD t undef)
 | .cell p t=>do loadVar t (←asAddr (b.getD p undef))
def zJ(c:Func)(b:Tj):results c b=(do
  let vs ←c.results.mapM (lJ b)
  pure (if h:vs.size=1 then vs[0]else .tuple vs)):=by
 have:(λx=>match x with
  |ResultVar.tmp t=>pure (b.getD t undef)
  |ResultVar.cell p t=>(do loadVar t (←asAddr (b.getD p undef)):Sem Value))=lJ b:=by
  funext x;cases x<;>rfl
 rw[←this];rfl
def zH(h:SR C base la mu σ a.tmps w){x:ResultVar}{v:Value}(b:fq C σ x=some v) :
  ∃v',(lJ a.tmps x).run C.P w = .ok v' w/\VR la mu v v':=by
 have f:∀t,VR la mu (σ.tmps.getD t undef) (a.tmps.getD t undef):=λt=>aM h (.tmp t);cases x with
 |tmp t=>
  simp only[fq]at b;cases b;exact⟨_,rfl,f t⟩
 |cell p t=>
  simp only[fq]at b;have j:=f p;split at b
  next u A=>
   rw[A]at j;split at b
   next d=>
    cases g:fj σ.heap u.block with
    |none=>rw[g]at b;cases b
    |some B=>
     rw[g]at b;generalize r:a.tmps.getD p undef=y at j ⊢;cases j with
     |scalar q=>simp[Am.scalar]at q
     |lptr _=>simp at d
     |gptr=>simp at d
     |hptr o=>
      obtain⟨c,e,D,k,l⟩:=ur h.wr g o;obtain⟨v',s,m⟩:=dY (C:=C) l b k;exact⟨v',by simp only[lJ,r,asAddr];exact s,m.up⟩
   next d=>
    split at b
    next B i=>
     generalize r:a.tmps.getD p undef=y at j ⊢;cases j with
     |scalar q=>simp[Am.scalar]at q
     |hptr _=>simp at d
     |gptr=>simp at d
     |lptr n=>
      obtain⟨c,e,k,l,s⟩:=EN h i n;obtain⟨v',m,z⟩:=dY (C:=C) (cz.of_list l) b k;exact⟨v',by simp only[lJ,r,asAddr];simpa using m,z.up⟩
    ·cases b
   ·cases b
  ·cases b
def pf(h:SR C base la mu σ a.tmps w):∀ {l:List ResultVar} {vs:Tk},db C σ l=some vs->
  ∃b,(l.mapM (lJ a.tmps)).run C.P w = .ok b w/\VRs la mu vs b
 | [],vs,c=>by
  cases c;exact⟨[],by simp,.nil⟩
 |x :: l,vs,c=>by
  simp only[db]at c;split at c
  next v j i d=>
   cases c;obtain⟨v',h1,e⟩:=zH h i;obtain⟨b,f,g⟩:=pf h d;refine⟨v' :: b,?_,.cons e g⟩;simp only[LU,Sem.run_bind,h1,Result.andThen_ok,Sem.run_pure,f]
  ·cases c
def zK(h:SR C base la mu σ a.tmps w){d:Func}{vs:Tk}(f:db C σ d.results.toList=some vs) :
  ∃v',(results d a.tmps).run C.P w = .ok v' w/\VR la mu (gq vs) v':=by
 obtain⟨c,e,b⟩:=pf h f;rw[zJ,qdG,Sem.run_bind,Sem.run_map,e]
 match vs,c,b with
 | [],[],_=>exact⟨_,rfl,.undef⟩
 | [v],[v'],b=>exact⟨v',rfl,b.head⟩
 |v :: u :: l,v' :: i :: g,b=>exact⟨.tuple (v' :: i :: g).toArray,rfl,VRs.tuple (a:=(v :: u :: l).toArray) (by simpa using b)⟩
 | [],_ :: _,b=>simpa using b.1
 | [_],[],b=>simpa using b.1
 | [_],_ :: _ :: _,b=>simpa using b.1
 |_ :: _ :: _,[],b=>simpa using b.1
 |_ :: _ :: _,[_],b=>simpa using b.1
end
section
variable {C:Cfg}
def G1{S:Sems}(J:tC C S){f:TK}{args:Tk}{H:Tp}{r:Value}{H':Tp}(h:mU C S f args H r H'):dP C f args H r H':=by
 obtain⟨fn,n,e,σ,R,k,i,d,y,M,q,rfl,z,rfl⟩:=h;rw[qb5]at d
 replace d:=d.1
 intro _ m o w c L g K u
 let a₀:Act:={ tmps:=c++Array.replicate (fn.ntmps - c.size) undef,defers:=[] }
 have p:args.length=c.size:=by simpa using g.1
 have I:FI C m H o w AN o (lW fn args H) a₀ w:=by
  refine⟨⟨?_,λs b h=>by simp[AN]at h,λs R A=>?_,λs U b h=>by simp[AN]at h,K⟩,.refl _ _ _,λs b h=>by simp[AN]at h,⟨[],rfl,by simp,λr O=>by simp at O⟩,L⟩
  ·simp only[lW,a₀,Vh,Array.toList_replicate,p];exact g.append (.replicate _ .undef)
  ·simp only[lW,IG]at A;split at A<;>cases A
 let b:Frame:={ (default:Frame)with fn:=f,kind:=.normal,roundOf:=none }
 obtain⟨a₁,w₁,T₁,o₁,E,F⟩:=J _ m H o w none f _ n _ σ e AN o a₀ w (λ_=>rfl) y I b [] u rfl rfl;obtain⟨w₂,v,B⟩:=vj a₁.defers a₁ w₁ rfl E;obtain⟨Q,D,G⟩:=zK (a:={ a₁ with defers:=[] }) v.sr q;refine⟨Q,o₁,w₂,fU z G,v.sr.wr,v.evo,?_,?_⟩
 ·have x:fn.body.isNone=false:=by rw[i];rfl
  have N:(program).run C.P w = .ok C.P w:=rfl;simp only[callFunc,Sem.run_bind,N,Result.andThen_ok,k,d,x];rfl
 ·have j:Frame.enter C.P f c .normal=b.atR a₀ [.code n]:=by simp[Frame.enter,Frame.atR,k,i,b,a₀]
  rw[j];have l:=F;rcases M with rfl|rfl
  ·refine⟨{ b.atR { a₁ with defers:=[] } []with mode:=.returning },(Steps.trans l (.one (stepR_end rfl))).trans (B b [] u),rfl,rfl,rfl,rfl,fn,k,D⟩
  ·obtain⟨t,l⟩:=l;refine⟨{ b.atR { a₁ with defers:=[] } (.code .ret :: t)with mode:=.returning },(l.trans (.one (stepR_ret rfl))).trans (B b _ u),rfl,rfl,rfl,rfl,fn,k,D⟩
section
variable [Glo] {la:tf} {mu:kx}
end
def Gw(i:C.P.follows .mixedOrders=true){K:IY}(c:∀f args H r H',K f args H r H'->dP C f args H r H'):∀n,BOk C (Mb C K n).toBelow/\tC C (Mb C K n)
 |0=>⟨⟨c,λ_ _ _ _ _ h=>h.elim⟩,by
   intro _ b H₀ mu₀ w₀ ro fn pts code σ σ' e la mu a w _ h;exact h.elim⟩
 |n+1=>by
  obtain⟨j,g⟩:=Gw i c n;refine⟨⟨λf args H r H' h=>h.elim (c f args H r H') (G1 g),λ_ _ _ _ _ h=>h.elim⟩,?_⟩;have d:tC C _:=Hb i j g;intro _ b H₀ mu₀ w₀ ro fn pts code σ σ' e la mu a w hro hex hF;exact d _ b H₀ mu₀ w₀ ro fn pts code σ σ' e la mu a w hro hex hF
end
end
section
variable [Val] {C:Cfg}
structure SemsLe(S S':Sems):Prop where
 call:∀f args H r H',S.call f args H r H'->S'.call f args H r H'
 yield:∀l args H r H',S.yield l args H r H'->S'.yield l args H r H'
 ex:∀fid c σ e σ',S.ex fid c σ e σ'->S'.ex fid c σ e σ'
def vA{B B':Below}(c:∀f args H r H',B.call f args H r H'->B'.call f args H r H')(d:∀l args H r H',B.yield l args H r H'->B'.yield l args H r H')
  {e:Eff} {dst:Tn} {σ σ':St} (h:lV B e dst σ σ'):lV B' e dst σ σ':=by
 cases e<;>first
  |exact h
  |(obtain⟨r,H,a,b⟩:=h;first|exact⟨r,H,c _ _ _ _ _ a,b⟩|exact⟨r,H,d _ _ _ _ _ a,b⟩)
def cY{B B':Below}(c:∀f args H r H',B.call f args H r H'->B'.call f args H r H')(d:∀l args H r H',B.yield l args H r H'->B'.yield l args H r H')
  {pts:Tx} {ops:Tl} {i:Nat} {σ σ':St} (h:aj C B pts ops i σ σ'):aj C B' pts ops i σ σ':=by
 unfold aj at *;split at h
 ·exact h
 ·split at h
  ·exact h
  ·exact h
  ·rcases h with⟨e,a,b⟩|h
   ·exact .inl ⟨e,a,vA c d b⟩
   ·exact .inr h
def fp{B B':Below}(a:∀f args H r H',B.call f args H r H'->B'.call f args H r H')(b:∀l args H r H',B.yield l args H r H'->B'.yield l args H r H')
  {pts:Tx} {ops:Tl}:∀ {l:Tx} {σ σ':St},bJ C B pts ops l σ σ'->bJ C B' pts ops l σ σ'
 | [],_,_,h=>h
 |_ :: _,_,_,⟨σ₁,h1,c⟩=>⟨σ₁,cY a b h1,fp a b c⟩
def mh{B B':Below}(a:∀f args H r H',B.call f args H r H'->B'.call f args H r H')(b:∀l args H r H',B.yield l args H r H'->B'.yield l args H r H')
  {pts:Tx} {ops:Tl}:∀ {l:Tx} {σ σ':St},fo C B pts ops l σ σ'->fo C B' pts ops l σ σ'
 | [],_,_,h=>h
 |_ :: _,_,_,⟨σ₀,σ₁,h0,h1,c⟩=>⟨σ₀,σ₁,h0,cY a b h1,mh a b c⟩
def kF{B B':Below}(a:∀f args H r H',B.call f args H r H'->B'.call f args H r H')(b:∀l args H r H',B.yield l args H r H'->B'.yield l args H r H')
  {pts:Tx} {ops:Tl} {c:Nat->To}:∀ {l:Tx} {σ σ':St},iS C B pts ops c l σ σ'->iS C B' pts ops c l σ σ'
 | [],_,_,h=>h
 |i :: _,_,_,⟨h0,σ₁,h1,d⟩=>⟨h0,σ₁,by
  unfold dZ at h1 ⊢;split at h1
  ·exact cY a b h1
  ·exact h1,kF a b d⟩
def vo{B B':Below}(a:∀f args H r H',B.call f args H r H'->B'.call f args H r H')(b:∀l args H r H',B.yield l args H r H'->B'.yield l args H r H')
  {pts:Tx} {ops:Tl} {σ σ':St} (h:eD C B pts ops σ σ'):eD C B' pts ops σ σ':=
 h.imp (λh t=>fp a b (h t)) λ⟨i,n,c,d,e,g⟩=>⟨i,n,c,d,e,λt=>kF a b (g t)⟩
def vD{S n:Sems}(h:SemsLe S n){k:Tx}{c:Code}{σ:St}{e:Exit}{σ':St}(g:ob C S k c σ e σ'):ob C n k c σ e σ':=by
 cases c with
 |skip=>exact g
 |label l=>exact g
 |ret=>exact g
 |exit id=>exact g
 |goto l=>exact g
 |refuse w=>exact g
 |seq a b=>
  obtain⟨e₁,σ₁,i,d⟩:=g;exact⟨e₁,σ₁,h.ex _ _ _ _ _ i,d.imp (λd=>⟨d.1,h.ex _ _ _ _ _ d.2⟩) id⟩
 |cond c a b=>
  obtain⟨t,i,d⟩:=g;exact⟨t,i,h.ex _ _ _ _ _ d⟩
 |block id b=>
  obtain⟨e₁,i,d⟩:=g;exact⟨e₁,h.ex _ _ _ _ _ i,d⟩
 |loop b=>
  obtain⟨e₁,σ₁,i,d⟩:=g;exact⟨e₁,σ₁,h.ex _ _ _ _ _ i,d.imp (λd=>⟨d.1,h.ex _ _ _ _ _ d.2⟩) id⟩
 |scope b=>exact h.ex _ _ _ _ _ g
 |region id r j=>
  obtain⟨i,d⟩:=g;refine⟨i,?_⟩;cases j with
  |true=>
   obtain⟨σ₀,p,q⟩:=d;exact⟨σ₀,p,vo h.call h.yield q⟩
  |false=>exact mh h.call h.yield d
 |rangeFunc f m assign o=>
  exact g.elim
def rx{S a:Sems}(h:SemsLe S a){f:TK}{args:Tk}{H:Tp}{r:Value}{H':Tp}(l:mU C S f args H r H'):mU C a f args H r H':=by
 obtain⟨c,b,e,σ,m,d,g,i,j,k⟩:=l;exact⟨c,b,e,σ,m,d,g,i,h.ex _ _ _ _ _ j,k⟩
class Kno where
 kn:TK->Tk->Value->Prop
 kh:TK->Tk->Tp->Value->Tp->Prop
variable [Kno]
def noK:IY:=λf a H r b=>(Kno.kn f a r/\b=H)∨Kno.kh f a H r b
def sm(C:Cfg)(n:Nat):Sems:=Mb C noK n
def GE:∀n,SemsLe (sm C n) (sm C (n+1))
 |0=>⟨λ_ _ _ _ _ h=>.inl h,λ_ _ _ _ _ h=>h.elim,λ_ _ _ _ _ h=>h.elim⟩
 |n+1=>by
  have a:=GE n;exact⟨λ_ _ _ _ _ h=>h.imp id (rx a),λ_ _ _ _ _ h=>h.elim,λ_ _ _ _ _ h=>vD a h⟩
def kG{n:Nat}:∀ {m:Nat},n<=m->SemsLe (sm C n) (sm C m)
 |0,h=>by
  obtain rfl:n=0:=Nat.le_zero.1 h;exact⟨λ_ _ _ _ _ h=>h,λ_ _ _ _ _ h=>h,λ_ _ _ _ _ h=>h⟩
 |m+1,h=>by
  by_cases c:n=m+1
  ·subst c;exact⟨λ_ _ _ _ _ h=>h,λ_ _ _ _ _ h=>h,λ_ _ _ _ _ h=>h⟩
  ·have b:=kG (n:=n) (m:=m) (by omega);have a:=GE (C:=C) m;exact⟨λ_ _ _ _ _ h=>a.call _ _ _ _ _ (b.call _ _ _ _ _ h),λ_ _ _ _ _ h=>a.yield _ _ _ _ _ (b.yield _ _ _ _ _ h),λ_ _ _ _ _ h=>a.ex _ _ _ _ _ (b.ex _ _ _ _ _ h)⟩
def pV(C:Cfg)(f:TK)(args:Tk)(H:Tp)(r:Value)(H':Tp):Prop:=∃n,(sm C n).call f args H r H'
def MQ(C:Cfg)(l:Nat)(args:Tk)(H:Tp)(r:Value)(H':Tp):Prop:=∃n,(sm C n).yield l args H r H'
def uEx(C:Cfg)(a:Tx)(c:Code)(σ:St)(e:Exit)(σ':St):Prop:=∃n,(sm C n).ex a c σ e σ'
def uB(C:Cfg):Below:={ call:=pV C,yield:=MQ C }
theorem MP(d:C.P.follows .mixedOrders=true)(b:∀f args r,Kno.kn f args r->∀H,dP C f args H r H)(a:∀f args H r H',Kno.kh f args H r H'->dP C f args H r H'){f:TK}{args:Tk}{H:Tp}{r:Value}{H':Tp}(h:pV C f args H r H'):dP C f args H r H':=by
 obtain⟨n,h⟩:=h;exact(Gw d (K:=noK) (λf args H r H' h=>by
  rcases h with⟨c,rfl⟩|h
  ·exact b f args r c _
  ·exact a f args H r H' h) n).1.call _ _ _ _ _ h
def Hj{e:Eff}{dst:Tn}{σ σ':St}(h:lV (uB C) e dst σ σ'):∃n,lV (sm C n).toBelow e dst σ σ':=by
 cases e<;>first
  |exact⟨0,h⟩
  |(obtain⟨r,H,⟨n,a⟩,b⟩:=h;exact⟨n,r,H,a,b⟩)
def iU{pts:Tx}{ops:Tl}{i:Nat}{σ σ':St}(h:aj C (uB C) pts ops i σ σ'):∃n,aj C (sm C n).toBelow pts ops i σ σ':=by
 unfold aj at h;split at h
 next a=>exact⟨0,by unfold aj;rw[a];exact h⟩
 next o a=>
  split at h
  ·exact h.elim
  next b=>exact⟨0,by unfold aj;simp only[a,b];exact h⟩
  next b=>
   rcases h with⟨e,d,c⟩|h
   ·obtain⟨n,c⟩:=Hj c;exact⟨n,by unfold aj;simp only[a,b];exact .inl ⟨e,d,c⟩⟩
   ·exact⟨0,by unfold aj;simp only[a,b];exact .inr h⟩
def iB{pts:Tx}{ops:Tl}:∀ {l:Tx} {σ σ':St},bJ C (uB C) pts ops l σ σ'->∃n,bJ C (sm C n).toBelow pts ops l σ σ'
 | [],_,_,h=>⟨0,h⟩
 |_ :: _,_,_,⟨σ₁,h1,a⟩=>by
  obtain⟨n,h1⟩:=iU h1;obtain⟨m,a⟩:=iB a;have c:=kG (C:=C) (VV n m);have b:=kG (C:=C) (qdm n m);exact⟨max n m,σ₁,cY c.call c.yield h1,fp b.call b.yield a⟩
theorem fJ.refl(σ:St):fJ σ σ:=⟨rfl,rfl,rfl,λi x y b a=>by rw[b]at a;exact .inl (AR a).symm⟩
def qE{B:Below}{pts:Tx}{ops:Tl}:∀ {l:Tx} {σ σ':St},bJ C B pts ops l σ σ'->fo C B pts ops l σ σ'
 | [],_,_,h=>h
 |_ :: _,σ,_,⟨σ₁,h1,a⟩=>⟨σ,σ₁,.refl σ,h1,qE a⟩
section rules
variable {fid:Tx} {σ σ₁ σ':St} {e e₁:Exit} {a b:Code}
def uEx.skip:uEx C fid .skip σ .normal σ:=⟨1,rfl,rfl⟩
def uEx.label{l:Nat}:uEx C fid (.label l) σ .normal σ:=⟨1,rfl,rfl⟩
def uEx.ret:uEx C fid .ret σ .ret σ:=⟨1,rfl,rfl⟩
def uEx.exit{id:Nat}:uEx C fid (.exit id) σ (.exit id) σ:=⟨1,rfl,rfl⟩
def uEx.seq(h1:uEx C fid a σ .normal σ₁)(c:uEx C fid b σ₁ e σ'):uEx C fid (.seq a b) σ e σ':=by
 obtain⟨n,h1⟩:=h1;obtain⟨m,c⟩:=c;exact⟨max n m+1,.normal,σ₁,(kG (VV n m)).ex _ _ _ _ _ h1,.inl ⟨rfl,(kG (qdm n m)).ex _ _ _ _ _ c⟩⟩
def uEx.seqX(h1:uEx C fid a σ e σ')(c:e≠.normal):uEx C fid (.seq a b) σ e σ':=by
 obtain⟨n,h1⟩:=h1;exact⟨n+1,e,σ',h1,.inr ⟨c,rfl,rfl⟩⟩
def uEx.cond{c:TG}{t:Bool}(d:ke σ.tmps c = .bool t)(h:uEx C fid (if t then a else b) σ e σ'):uEx C fid (.cond c a b) σ e σ':=by
 obtain⟨n,h⟩:=h;exact⟨n+1,t,d,h⟩
def uEx.block{id:Nat}(h:uEx C fid b σ e σ'):uEx C fid (.block id b) σ (jk id e) σ':=by
 obtain⟨n,h⟩:=h;exact⟨n+1,e,h,rfl⟩
def uEx.loop(h1:uEx C fid b (σ.clear (aQ fid b)) .normal σ₁)(c:uEx C fid (.loop b) σ₁ e σ'):uEx C fid (.loop b) σ e σ':=by
 obtain⟨n,h1⟩:=h1;obtain⟨m,c⟩:=c;exact⟨max n m+1,.normal,σ₁,(kG (VV n m)).ex _ _ _ _ _ h1,.inl ⟨rfl,(kG (qdm n m)).ex _ _ _ _ _ c⟩⟩
def uEx.loopX(h1:uEx C fid b (σ.clear (aQ fid b)) e σ')(c:e≠.normal):uEx C fid (.loop b) σ e σ':=by
 obtain⟨n,h1⟩:=h1;exact⟨n+1,e,σ',h1,.inr ⟨c,rfl,rfl⟩⟩
def uEx.scope(h:uEx C fid b σ e σ'):uEx C fid (.scope b) σ e σ':=by
 obtain⟨n,h⟩:=h;exact⟨n+1,h⟩
def uEx.region{id:Nat}{ops:Tl}(h:bJ C (uB C) fid ops (List.range ops.size) σ σ'):uEx C fid (.region id ops false) σ .normal σ':=by
 obtain⟨n,h⟩:=iB h;exact⟨n+1,rfl,qE h⟩
def uEx.draw{id:Nat}{ops:Tl}(c:∀n,bJ C (sm C n).toBelow fid ops (List.range ops.size) σ σ'->eD C (sm C n).toBelow fid ops σ σ')
  (h:bJ C (uB C) fid ops (List.range ops.size) σ σ'):uEx C fid (.region id ops true) σ .normal σ':=by
 obtain⟨n,h⟩:=iB h;exact⟨n+1,rfl,σ,.refl σ,c n h⟩
def uEx.drawS{σ₂:St}{id:Nat}{ops:Tl}{l₁ l₂:Tx}{k:Nat}(c:∀n,bJ C (sm C n).toBelow fid ops l₁ σ σ₁->aj C (sm C n).toBelow fid ops k σ₁ σ₂->bJ C (sm C n).toBelow fid ops l₂ σ₁ σ'->eD C (sm C n).toBelow fid ops σ σ')
  (h1:bJ C (uB C) fid ops l₁ σ σ₁) (d:aj C (uB C) fid ops k σ₁ σ₂) (f:bJ C (uB C) fid ops l₂ σ₁ σ'):uEx C fid (.region id ops true) σ .normal σ':=by
 obtain⟨n,h1⟩:=iB h1;obtain⟨m,d⟩:=iU d;obtain⟨l,f⟩:=iB f;have g:=kG (C:=C) (show n<=max n (max m l)by omega);have h:=kG (C:=C) (show m<=max n (max m l)by omega);have i:=kG (C:=C) (show l<=max n (max m l)by omega);exact⟨max n (max m l)+1,rfl,σ,.refl σ,c _ (fp g.call g.yield h1) (cY h.call h.yield d) (fp i.call i.yield f)⟩
def uEx.drawA{id:Nat}{ops:Tl}{n:Nat}(h:eD C (sm C n).toBelow fid ops σ σ'):uEx C fid (.region id ops true) σ .normal σ':=
 ⟨n+1,rfl,σ,.refl σ,h⟩
def pV.intro{f:TK}{args:Tk}{H:Tp}{d:Func}{c:Code}{vs:Tk}
  (h1:C.P.funcs[f]?=some d) (h:d.body=some c) (i:((d.name == "runtime.NumGoroutine")||C.opq f)=false)
  (g:uEx C (C.pts f) c (lW d args H) e σ) (j:e = .normal∨e = .ret) (k:db C σ d.results.toList=some vs) (l:noLoc (gq vs)=true) :
  pV C f args H (gq vs) σ.heap:=by
 obtain⟨n,g⟩:=g;exact⟨n+1,.inr ⟨d,c,e,σ,vs,h1,h,i,g,j,k,rfl,l,rfl⟩⟩
end rules
end
end Go.Am
end

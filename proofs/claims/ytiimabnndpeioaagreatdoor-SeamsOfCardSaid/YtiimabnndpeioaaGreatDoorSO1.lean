/-
  PART 1 OF THE PROOF (no conditions).
-/
import Derived.AtR
import Derived.Calls
import Derived.KernelRfl
import Derived.Laws.AppendOwn
import Derived.Laws.MakeOwn
import Derived.Laws.Tables
import Derived.Orders
import Derived.RangeFuncIn
import Derived.RangeFuncLeaves
import GoSem.Claims
set_option linter.unusedSectionVars false
set_option linter.unusedSimpArgs false
set_option linter.unusedVariables false
set_option linter.constructorNameAsVariable false
set_option linter.defProp false
namespace Go
abbrev uc:=@Bool.and_eq_true
abbrev qab:=@List.all_eq_true
abbrev Af:=@List.mem_of_getElem?
abbrev qad:=@List.mem_range
abbrev AE:=@Nat.eq_of_beq_eq_true
abbrev A4:=@List.getElem?_eq_getElem
abbrev qag:=@Option.map_eq_some_iff
abbrev Aw:=@List.cons_append
abbrev Ap:=@List.nil_append
abbrev AN:=@List.append_assoc
abbrev BE:=@List.getElem?_append_left
abbrev Bd:=@List.getElem?_eq_none
abbrev Be:=@Nat.ble_eq_true_of_le
abbrev zY:=@Nat.le_refl
abbrev AD:=@Option.some.inj
abbrev AU:=@List.getElem?_map
abbrev AP:=@Option.bind_some
abbrev qar:=@List.mem_cons
abbrev qas:=@List.mem_append
abbrev A5:=@List.length_append
abbrev Bo:=@List.mem_cons_of_mem
abbrev qav:=@List.mem_singleton
abbrev Cd:=@List.getElem?_append_right
abbrev Bf:=@Bool.false_eq_true
abbrev qay:=@Option.bind_eq_some_iff
abbrev qaz:=@List.mem_map
abbrev AL:=@List.map_cons
abbrev AZ:=@List.length_map
abbrev BL:=@List.getElem?_set_ne
abbrev CP:=@Array.getD_eq_getD_getElem?
abbrev Bc:=@List.length_set
abbrev Cg:=@List.take_of_length_le
abbrev qaG:=@List.mem_filterMap
abbrev AM:=@Nat.zero_le
abbrev BP:=@Option.some.injEq
abbrev BB:=@Option.map_some
abbrev CQ:=@List.getElem?_set_self
abbrev Cb:=@Int.natCast_nonneg
abbrev BN:=@List.length_take
abbrev qaN:=@List.mem_filter
abbrev Ch:=@List.mem_cons_self
abbrev qaP:=@Array.getElem?_eq_some_iff
abbrev Bi:=@Nat.lt_or_ge
abbrev Bs:=@Bool.not_true
abbrev Br:=@Nat.zero_add
abbrev Ci:=@List.append_nil
abbrev Dd:=@List.getElem?_of_mem
abbrev Cz:=@Bool.not_eq_true
abbrev Ck:=@Bool.or_eq_true
abbrev Cw:=@List.map_append
abbrev C2:=@List.flatMap_cons
abbrev DW:=@List.mem_append_left
abbrev CT:=@List.length_cons
abbrev qa1:=@List.mem_flatMap
abbrev Cv:=@Bool.not_false
abbrev D8:=@Int.ofNat_eq_natCast
abbrev DV:=@List.map_congr_left
abbrev qa5:=@List.length_eq_zero_iff
abbrev Dm:=@List.take_add_one
abbrev C1:=@Nat.min_eq_left
abbrev BH:=@Nat.blt_eq
abbrev Ip:=@List.getElem?_cons_succ
abbrev It:=@List.getElem?_replicate
abbrev qbb:=@List.pairwise_cons
abbrev DX:=@List.getElem?_set
abbrev Df:=@List.cons.injEq
abbrev qbe:=@List.length_pos_iff
abbrev MN:=@Array.getElem?_eq_getElem
abbrev MO:=@List.drop_eq_getElem_cons
abbrev qbh:=@List.getElem?_eq_some_iff
abbrev Iu:=@List.take_append_drop
abbrev qbj:=@List.pairwise_map
abbrev qbk:=@Array.toList_inj
abbrev HX:=@List.getElem?_range
abbrev Iv:=@List.mem_of_mem_take
abbrev Rv:=@Array.getElem?_setIfInBounds
abbrev Lz:=@List.mem_append_right
abbrev Ga:=@List.ext_getElem?
abbrev HY:=@List.getElem?_drop
abbrev qbr:=@Option.isSome_iff_exists
abbrev LA:=@List.mem_of_mem_drop
abbrev LB:=@Nat.mul_le_mul_right
abbrev Dn:=@Int.ofNat.inj
abbrev Iw:=@List.getElem?_take
abbrev C7:=@List.map_nil
abbrev Rw:=@List.mem_or_eq_of_mem_set
abbrev qby:=@List.pairwise_iff_getElem
abbrev qbz:=@List.forall_mem_cons
abbrev HV:=@Option.getD_some
abbrev C3:=@Nat.add_mul
abbrev MK:=@List.flatMap_append
abbrev Iq:=@Array.toList_map
abbrev F9:=@List.drop_zero
abbrev Rr:=@Array.getElem?_eq_none
abbrev Rs:=@List.drop_of_length_le
abbrev Rt:=@List.pairwise_lt_range
abbrev EK:=@Nat.add_assoc
abbrev Ir:=@Bool.eq_iff_iff
abbrev Is:=@List.foldl_cons
abbrev D9:=@List.map_map
abbrev Ru:=@List.set_append_right
abbrev Ea:=@Nat.beq_refl
abbrev HW:=@Int.negSucc_eq
abbrev Ly:=@List.take_length
abbrev UH:=@List.getElem?_cons_zero
abbrev UI:=@List.pairwise_filterMap
abbrev EL:=@Nat.le_trans
abbrev De:=@Nat.ble_eq
abbrev qbU:=@List.nodup_cons
abbrev BO:=@Ne.symm
abbrev ML:=@List.filter_cons
abbrev MM:=@List.length_drop
abbrev Vn:=@Array.getElem?_replicate
abbrev UJ:=@List.length_singleton
abbrev qb0:=@List.nodup_append
abbrev F8:=@Nat.sub_self
abbrev Lw:=@List.drop_drop
abbrev Lx:=@List.mapM_cons
abbrev Vm:=@Int.eq_ofNat_of_zero_le
abbrev qb5:=@Bool.or_eq_false_iff
abbrev UE:=@List.pairwise_append
abbrev UF:=@List.range_eq_range'
abbrev Px:=@List.not_mem_nil
abbrev qb9:=@Array.getElem?_setIfInBounds_ne
abbrev UN:=@Array.toList_append
abbrev Ry:=@Bool.not_eq_true'
abbrev MP:=@List.Perm.refl
abbrev qcd:=@Int.ofNat_lt
abbrev Vr:=@List.length_filter_le
abbrev qcf:=@List.Pairwise.imp_of_mem
abbrev HZ:=@Int.le_refl
abbrev Rz:=@Nat.min_eq_right
abbrev H0:=@Nat.one_mul
abbrev MQ:=@Nat.mul_assoc
abbrev LC:=@List.map_set
abbrev LD:=@Nat.zero_mul
abbrev qcm:=@List.any_eq_true
abbrev UO:=@List.flatMap_map
abbrev H3:=@Nat.mod_lt
abbrev qcp:=@List.Perm.append_left
abbrev Py:=@List.all_cons
abbrev qcr:=@List.filterMap_append
abbrev Vs:=@Option.toList_some
abbrev Pz:=@Prod.mk.injEq
abbrev qcu:=@Array.toList_extract
abbrev DY:=@Prod.ext
abbrev qcw:=@Bool.eq_false_iff
abbrev Vt:=@List.flatten_cons
abbrev UP:=@List.length_nil
abbrev UQ:=@List.range_succ
abbrev qcA:=@Int.mul_le_mul_of_nonneg_right
abbrev qcB:=@Array.getElem?_push
abbrev Rx:=@List.map_take
abbrev qcD:=@List.replicate_succ
abbrev qcE:=@List.take_succ_cons
abbrev qcF:=@Nat.add_sub_cancel_left
abbrev Vo:=@List.drop_append
abbrev qcH:=@List.take_append_of_le_length
abbrev qcI:=@Array.ext_getElem?
abbrev qcJ:=@List.set_cons_succ
abbrev qcK:=@List.length_replicate
abbrev Vp:=@Nat.le_max_left
abbrev qcM:=@List.foldl_append
abbrev UL:=@List.map_drop
abbrev qcO:=@Array.getElem?_append_left
abbrev qcP:=@List.Pairwise.filter
abbrev qcQ:=@List.contains_eq_mem
abbrev qcR:=@List.mem_of_find?_eq_some
abbrev Vq:=@List.take_zero
abbrev qcT:=@List.nodup_range
abbrev qcU:=@List.drop_succ_cons
abbrev qcV:=@List.map_eq_nil_iff
abbrev qcW:=@List.length_filterMap_le
abbrev UM:=@Nat.add_zero
abbrev qcY:=@Array.all_eq_true'
abbrev qcZ:=@Array.foldl_toList
abbrev qc0:=@Bool.not_eq_false'
abbrev qc1:=@List.set_cons_zero
abbrev qc2:=@Nat.add_sub_cancel
abbrev qc3:=@Nat.lt_of_lt_of_le
abbrev qc4:=@List.sublist_cons_self
abbrev qc5:=@Int.toNat_natCast
abbrev qc6:=@List.length_range
abbrev UK:=@Nat.mul_one
abbrev qc8:=@Array.getElem?_modify
abbrev qc9:=@Array.getElem?_toList
abbrev qda:=@Array.mem_of_getElem?
abbrev qdb:=@List.Pairwise.and_mem
abbrev qdc:=@List.pairwise_flatMap
abbrev qdd:=@List.perm_append_comm
abbrev qde:=@Nat.le_of_ble_eq_true
abbrev Vu:=@Nat.le_total
abbrev qdg:=@List.getElem_mem
abbrev qdh:=@List.range'_succ
abbrev qdi:=@List.take_append
abbrev qdj:=@Nat.le_max_right
abbrev qdk:=@Option.getD_none
abbrev qdl:=@List.getElem?_append
abbrev qdm:=@List.map_eq_cons_iff
abbrev qdn:=@List.set_append_left
abbrev qdo:=@Bool.true_and
abbrev qdp:=@Array.length_toList
abbrev qdq:=@Array.toList_zipIdx
abbrev qdr:=@List.filter_eq_self
abbrev qds:=@List.filter_nil
abbrev qdt:=@Nat.div_le_self
abbrev qdu:=@Option.pure_def
abbrev qdv:=@Int.tmod_eq_emod_of_nonneg
abbrev qdw:=@List.exists_cons_of_ne_nil
abbrev qdx:=@List.perm_ext_iff_of_nodup
abbrev qdy:=@Int.ofNat_le
abbrev qdz:=@List.filter_append
abbrev qdA:=@List.find?_eq_none
abbrev qdB:=@Nat.eq_zero_or_pos
abbrev qdC:=@Nat.min_comm
abbrev qdD:=@Prod.ext_iff
abbrev qdE:=@Array.mapM_eq_mapM_toList
abbrev qdF:=@List.filterMap_eq_nil_iff
abbrev qdG:=@List.getElem?_eq_none_iff
abbrev qdH:=@List.getElem?_zip_eq_some
abbrev qdI:=@List.any_eq_false
abbrev qdJ:=@List.filter_congr
abbrev qdK:=@List.getElem?_take_of_lt
abbrev qdL:=@Bool.false_or
abbrev qdM:=@List.idxOf?_eq_none_iff
abbrev qdN:=@List.mapM_nil
abbrev qdO:=@List.take_add
abbrev qdP:=@List.flatMap_def
abbrev qdQ:=@List.prefix_refl
abbrev qdR:=@Nat.le_add_right
abbrev qdS:=@Int.natCast_add
abbrev qdT:=@Int.natCast_mul
abbrev qdU:=@Int.natCast_one
abbrev qdV:=@List.all_append
abbrev qdW:=@List.append_inj
abbrev qdX:=@List.forIn_cons
abbrev qdY:=@List.range_zero
abbrev qdZ:=@List.set_append
abbrev qd0:=@List.set_set
abbrev qd1:=@Nat.not_lt_zero
abbrev qd2:=@Bool.false_and
abbrev qd3:=@Nat.mul_le_mul
abbrev qd4:=@List.map_id
abbrev qd5:=@Bool.and_true
abbrev qd6:=@List.sum_cons
abbrev qd7:=@Nat.mod_le
abbrev BF:=@decide_eq_true_eq
abbrev BV:=@decide_eq_false
abbrev Bp:=@decide_eq_true
abbrev mc:=@if_pos
abbrev po:=@if_neg
end Go
noncomputable section
namespace Go.Am
def poison:Value:=.tuple #[.tuple #[]]
def scalar:Value->Bool
 | .bool _=>true
 | .int _ _=>true
 | .string _=>true
 | .pointer none=>true
 | .map none=>true
 | .nilFunc=>true
 | .nilIface=>true
 | .slice none 0 0=>true
 |_=>false
def fF:Value->Bool
 | .agg cs=>cs.toList.all scalar
 |v=>scalar v
def flat:Value->Bool
 | .tuple vs=>vs.size != 1&&vs.toList.all fF
 |v=>fF v
abbrev _root_.Tj:=Array Value
def sQ(cs:Tj):Option IntKind:=
 match cs.toList with
 | .int k _ :: _=>some k
 |_=>none
def iU:Value->Bool
 | .tuple vs=>match vs.toList with
  | [.agg cs]=>(sQ cs).isSome
  |_=>false
 |_=>false
def fM{vs:Tj}(h:iU (.tuple vs)=true):vs.size=1:=by
 simp only[iU]at h;split at h
 next e=>rw[←qdp,e];rfl
 ·cases h
class Val where
 num:Tj->Int
class Glo where
 glob:Nat->Nat×Nat
instance (priority := 10) glo0 : Glo := ⟨λ_ => (0, 0)⟩
def gB:Nat:=1000000
def BG [Glo](g:Nat):Nat:=if g<gB then g else(Glo.glob g).1
def Cq [Glo](g:Nat):Nat:=if g<gB then 0 else(Glo.glob g).2
def Fo [Glo]{g:Nat}(h:Nat.blt g gB=true):BG g=g:=mc (by rw[BH]at h;exact h)
def Fp [Glo]{g:Nat}(h:Nat.blt g gB=true):Cq g=0:=mc (by rw[BH]at h;exact h)
abbrev _root_.TD:=Program
def As{α:Type}(P:TD):Sem α->Option α
 | .pure a=>some a
 | .program k=>As P (k P)
 |_=>none
def gm{α:Type}{P:TD}{s:Sem α}{a:α}(h:As P s=some a)(w:World):s.run P w = .ok a w:=by
 induction s with
 |pure b=>simp[As]at h;subst h;rfl
 |program k c=>exact c P h
 |_=>simp[As]at h
structure ALoop where
 state:LoopState
 pending:Option Code
 fn:FuncId
 tmps:List Value
 params:List Tmp
 assign:Code
 body:Code
abbrev _root_.Th:=List MapEntry
abbrev _root_.Tk:=List Value
inductive HObj where
 |cells (vs:Tk) (esz:Nat) (rw:Bool)
 |map (es:Th) (clock:Nat)
 |loop (l:ALoop)
 |siter (s:ByteArray) (pos:Nat)
 |dead
def HObj.owned:HObj->Bool
 | .cells _ _ rw=>rw
 | .dead=>false
 |_=>true
def HObj.alive:HObj->Bool
 | .dead=>false
 |_=>true
structure St where
 tmps:List Value
 loc:List (Option (Tk))
 heap:List HObj
abbrev _root_.TK:=FuncId
structure Cfg where
 P:Program
 G:Nat->Option (Tk)
 opq:TK->Bool:=λ_=>false   -- functions into whose code nobody looks
 pts:TK->List Nat        -- of each temporary that points into a local row: that row's number+2;1: into a known package-level variable;0: anything else
abbrev _root_.TG:=Operand
def ke(a:Tk):TG->Value
 | .tmp t=>a.getD t undef
 | .const v=>if flat v then v else poison
 | .global g=>if Nat.blt g gB then .pointer (some ⟨g,0,some 1⟩)else poison
 | .func f=>.func (.func f) #[] #[]
abbrev _root_.Ti:=Option Value
abbrev _root_.Tp:=List HObj
inductive Eff where
 |val (v:Value)
 |lnew (s:Nat) (vs:Tk)
 |lget (s:Nat) (f:Tk->Ti)
 |lset (s:Nat) (f:Tk->Option (Tk))
 |hget (f:Tp->Ti)
 |hop (f:Tp->Option (List HObj×Value))
 |call (f:TK) (args:Tk)
 |yield (l:Nat) (args:Tk)
abbrev _root_.Tn:=Option Tmp
def St.put(σ:St)(dst:Tn)(v:Value):St:=
 match dst with
 |some d=>{ σ with tmps:=σ.tmps.set d v }
 |none=>σ
def aX(σ:St):Eff->Option (St×Value)
 | .val v=>some (σ,v)
 | .lnew s vs=>match σ.loc[s]? with
  |some none=>some ({ σ with loc:=σ.loc.set s (some vs) },.pointer (some ⟨s,0,some 0⟩))
  |_=>none
 | .lget s f=>match σ.loc[s]? with
  |some (some vs)=>(f vs).map λv=>(σ,v)
  |_=>none
 | .lset s f=>match σ.loc[s]? with
  |some (some vs)=>(f vs).map λa=>({ σ with loc:=σ.loc.set s (some a) },undef)
  |_=>none
 | .hget f=>(f σ.heap).map λv=>(σ,v)
 | .hop f=>(f σ.heap).map λp=>({ σ with heap:=p.1 },p.2)
 | .call .. => none
 | .yield .. => none
def cut(vs:Tk)(off n:Nat):Option (Tk):=
 if off+n<=vs.length then some ((vs.drop off).take n)else none
abbrev _root_.TJ:=TypeId
def du(P:TD)(t:TJ)(vs:Tk)(off:Nat):Ti:=
 match P.underlying t with
 |some (.struct _)|some (.array _ _)=>(cut vs off (P.cellsOf t)).map λa=>.agg a.toArray
 |some _=>vs[off]?
 |none=>none
def splice(vs:Tk)(off:Nat)(new:Tk):Option (Tk):=
 if off+new.length<=vs.length then some (vs.take off++new++vs.drop (off+new.length))else none
def aw:Value->Bool
 | .tuple vs=>!iU (.tuple vs)
 |_=>false
def kE(i:TypeInfo):Ti:=
 match i.zero with
 |some z=>if z.cells.size=i.size/\flat z=true/\aw z=false then some z else none
 |none=>none
def ey(P:TD)(t:TJ):Ti:=(P.info? t).bind kE
def aW:Value->Bool
 | .pointer (some a)=>a.spot != some 0
 | .slice (some a) _ _=>a.spot != some 0
 | .tuple vs=>iU (.tuple vs)
 | .agg _=>false
 | .iface _ _=>false
 | .func _ _ _=>false
 |_=>true
def bg:Value->Bool
 | .agg cs=>cs.toList.all aW
 | .func _ a b=>a.toList.all aW&&b.toList.all aW
 | .tuple vs=>vs.size==0||iU (.tuple vs)
 |v=>aW v
def aP:Value->Bool
 | .agg cs=>cs.toList.all bg
 | .func _ a b=>a.toList.all bg&&b.toList.all bg
 | .tuple vs=>vs.toList.all bg
 |v=>bg v
def noLoc:Value->Bool
 | .agg cs=>cs.toList.all aP
 | .func _ a b=>a.toList.all aP&&b.toList.all aP
 | .tuple vs=>vs.toList.all aP
 |v=>aP v
def aG:Value->Bool
 | .agg _=>false
 | .tuple vs=>iU (.tuple vs)
 |_=>true
def bf(v:Value):Bool:=noLoc v&&aG v
def eM(P:TD)(t:TJ)(v:Value)(vs:Tk)(off:Nat):Option (Tk):=
 if v.cells.size=P.cellsOf t/\(P.info? t).isSome then
  if v.cells.toList.all bf then splice vs off v.cells.toList else none
 else none
abbrev _root_.To:=Option Nat
def pu(esz:Nat):To:=some (esz+10)
def ff(H:Tp)(id:Nat):Option (Tk):=
 match H[id]? with
 |some (.cells a _ _)=>some a
 |_=>none
def dR(C:Cfg)(H:Tp)(esz:Nat):Value->Option (List Value×Nat)
 | .slice none 0 0=>some ([],0)
 | .slice (some a) len _=>
  if a.spot=some 1 then((C.G a.block).bind λvs=>cut vs a.off (len*esz)).map λx=>(x,len)
  else if a.spot=pu esz then
   match H[a.block]? with
   |some (.cells vs e _)=>if e=esz then(cut vs a.off (len*esz)).map λx=>(x,len)else none
   |_=>none
  else none
 | .string s=>if esz=1 then some (s.data.toList.map λb=>.int .u8 b.toNat,s.size)else none
 |_=>none
def bh(need bytes:Nat):Bool:=Nat.ble need 140737488355328&&Nat.ble (need*bytes) 140737488355328
def fE(C:Cfg)(k:TJ)(s x:Value)(H:Tp):Option (List HObj×Value):=
 match C.P.underlying k with
 |some (.slice f)=>
  match C.P.info? f with
  |none=>none
  |some b=>
  if b.size=0 then none else
  if (kE b).isNone then none else
  match dR C H b.size x with
  |none=>none
  |some (d,n)=>
   match s with
   | .slice none 0 0=>
    if n=0 then some (H,.slice none 0 0)
    else if bh n b.bytes then some (H++[.cells d b.size true],.slice (some ⟨H.length,0,pu b.size⟩) n 0)else none
   | .slice (some a) c j=>
    if a.spot≠pu b.size then none else
    match H[a.block]? with
    |some (.cells i e rw)=>
     if e≠b.size then none else
     match cut i a.off (c*b.size)with
     |none=>none
     |some g=>
      match j with
      |0=>
       if n=0 then some (H,.slice (some a) c 0)
       else if rw&&bh (c+n) b.bytes then
        some (H.set a.block .dead++[.cells (g++d) b.size true],.slice (some ⟨H.length,0,pu b.size⟩) (c+n) 0)
       else none
      |cap+1=>
       if c+n<=cap then
        if rw then(splice i (a.off+c*b.size) d).map λh=>(H.set a.block (.cells h e true),.slice (some a) (c+n) (cap+1))
        else if n=0 then some (H,.slice (some a) c (cap+1))else none
       else if bh (c+n) b.bytes then
        some (H++[.cells (g++d) b.size true],.slice (some ⟨H.length,0,pu b.size⟩) (c+n) 0)
       else none
    |_=>none
   |_=>none
 |_=>none
def gN:Ti->Option (Option Int)
 |none=>some none
 |some (.int _ n)=>some (some n)
 |_=>none
def bT(cx l:Nat):Option Int->Nat
 |none=>cx - l
 |some m=>m.toNat - l+1
def cV(len cx:Nat)(a:Option Int):Option Int->Prop
 |none=>a.getD len<=(len:Int)∨(0<cx/\a.getD len<(cx:Int))
 |some m=>a.isSome=true/\a.getD len<=m/\(m<=(len:Int)∨(0<cx/\m<(cx:Int)))
instance (len cx : Nat) (hi mx : Option Int) : Decidable (cV len cx hi mx) := by
 cases mx<;>(unfold cV;infer_instance)
def yd(C:Cfg)(t:TJ)(x:Value)(d e f:Ti):Ti:=
 match gN d,gN e,gN f with
 |some d,some e,some f=>
  match C.P.underlying t,x with
  |some (.slice b),.slice (some a) c g=>
   if C.P.cellsOf b=0 then none else
   if a.spot≠some 1/\a.spot≠pu (C.P.cellsOf b)then none else
   if 0<=d.getD 0/\d.getD 0<=e.getD c/\cV c g e f then
    some (.slice (some { a with off:=a.off+(d.getD 0).toNat*C.P.cellsOf b }) ((e.getD c).toNat - (d.getD 0).toNat) (bT g (d.getD 0).toNat f))
   else none
  |_,_=>none
 |_,_,_=>none
def ko(C:Cfg)(t:TJ)(a:Addr)(c b d:Ti)(H:Tp):Ti:=none
def intOf:Value->Option Int
 | .int _ n=>some n
 |_=>none
def fK(C:Cfg)(t:TJ)(x:Value)(f:Nat):Ti:=
 match C.P.underlying t,x with
 |some (.struct c),.pointer (some a)=>
  match c[f]? with
  |some b=>if C.P.cellsOf b.type=0 then none else some (.pointer (some { a with off:=a.off+b.offset }))
  |none=>none
 |_,_=>none
def eP(C:Cfg)(t:TJ)(x i:Value):Ti:=
 match intOf i with
 |none=>none
 |some i=>
  match C.P.underlying t,x with
  |some (.array c b),.pointer (some a)=>
   if C.P.cellsOf b=0 then none else
   if 0<=i/\i<(c:Int)then some (.pointer (some { a with off:=a.off+i.toNat*C.P.cellsOf b }))else none
  |some (.slice b),.slice (some a) c _=>
   if C.P.cellsOf b=0 then none else
   if 0<=i/\i<(c:Int)then some (.pointer (some ⟨a.block,a.off+i.toNat*C.P.cellsOf b,if a.spot=some 1 then some 1 else none⟩))else none
  |_,_=>none
def vS(C:Cfg)(t:TJ)(cs:Tj)(off:Nat):Ti:=
 match C.P.underlying t with
 |some (.struct _)|some (.array _ _)=>some (.agg (cs.extract off (off+C.P.cellsOf t)))
 |some _=>cs[off]?
 |none=>none
def tM(C:Cfg)(t:TJ)(x:Value)(f:Nat):Ti:=
 match C.P.underlying t,x with
 |some (.struct c),.agg b=>(c[f]?).bind λa=>vS C a.type b a.offset
 |_,_=>none
def lP(C:Cfg)(t:TJ)(x i:Value):Ti:=
 match intOf i with
 |none=>none
 |some i=>
  match C.P.underlying t,x with
  |some (.array c a),.agg d=>if 0<=i/\i<(c:Int)then vS C a d (i.toNat*C.P.cellsOf a)else none
  |some .string,.string s=>if 0<=i then(s[i.toNat]?).map λb=>.int .u8 b.toNat else none
  |_,_=>none
def mV(P:TD)(t:TJ):Option (Nat->Option (Nat×Nat)):=
 match P.underlying t with
 |some (.struct a)=>
  if a.all λf=>(P.info? f.type).isSome then some λi=>(a[i]?).map λf=>(f.offset,P.cellsOf f.type)else none
 |some (.array _ e)=>if (P.info? e).isSome then some λi=>some (i*P.cellsOf e,P.cellsOf e)else none
 |_=>none
def tq(C:Cfg)(t:TJ)(a:List (Nat×Value)):Ti:=
 match ey C.P t,mV C.P t with
 |some z,some pl=>(Instr.fill pl z.cells a).map .agg
 |_,_=>none
def bk(z:Tk)(n:Nat):Tk:=(List.replicate n z).flatten
def eU(C:Cfg)(t:TJ)(len:Nat)(b:List (Nat×Value)):Option (Nat×List Value):=
 match C.P.underlying t with
 |some (.slice e)=>
  match C.P.info? e with
  |some a=>
   if a.size=0 then none else
   if len*a.size > 16777216 then none else
   match kE a with
   |some z=>
    (Instr.fill (λi=>some (i*a.size,a.size)) (bk z.cells.toList len).toArray b).map λc=>(a.size,c.toList)
   |none=>none
  |none=>none
 |_=>none
def dw(C:Cfg)(t:TJ)(len cap:Value)(H:Tp):Option (List HObj×Value):=
 match intOf len,intOf cap,C.P.underlying t with
 |some l,some c,some (.slice e)=>
  match C.P.info? e with
  |some a=>
   if a.size=0 then none else
   match kE a with
   |some z=>
    if 0<=l/\l<=c/\c<=1048576/\a.bytes<=4096 then
     some (H++[.cells (bk z.cells.toList c.toNat) a.size true],.slice (some ⟨H.length,0,pu a.size⟩) l.toNat (c.toNat+1))
    else none
   |none=>none
  |none=>none
 |_,_,_=>none
def bc:Value->Option Bool
 | .slice none 0 0=>some true
 | .slice (some _) _ _=>some false
 | .map none=>some true
 | .map (some _)=>some false
 | .nilFunc=>some true
 | .func .. => some false
 | .pointer none=>some true
 | .pointer (some _)=>some false
 |_=>none
def bz(e:MapEntry):MapEntry:={ key:=e.key,val:=undef,born:=0 }
def rE(P:TD)(kt:TJ)(k:Value)(a:Th):Option (To):=
 (As P (Instr.findKey kt k (a.map bz))).map λr=>r.map (·.1)
def iV(P:TD)(kt:TJ)(k:Value):Bool:=
 fF k&&(As P (Instr.checkKey true 10000 kt k)).isSome&&(As P (Instr.checkKey false 10000 kt k)).isSome&&(As P (Op.equal kt k k)).any id
def fA(a:Th)(i:Nat):Ti:=(a[i]?).map (·.val)
def AQ(H:Tp)(id:Nat):Option (List MapEntry×Nat):=
 match H[id]? with
 |some (.map a c)=>some (a,c)
 |_=>none
def dH(C:Cfg)(t:TJ)(m k:Value)(ok:Bool)(H:Tp):Ti:=
 match C.P.underlying t with
 |some (.map b c)=>
  if !iV C.P b k then none else
  match ey C.P c with
  |none=>none
  |some z=>
   match m with
   | .map none=>some (if ok then .tuple #[z,.bool false]else z)
   | .map (some id)=>
    match AQ H id with
    |none=>none
    |some (a,_)=>
     match rE C.P b k a with
     |none=>none
     |some none=>some (if ok then .tuple #[z,.bool false]else z)
     |some (some i)=>(fA a i).map λv=>if ok then .tuple #[v,.bool true]else v
   |_=>none
 |_=>none
def cF(C:Cfg)(t:TJ)(m k v:Value)(H:Tp):Option (List HObj×Value):=
 match C.P.underlying t,m with
 |some (.map b _),.map (some id)=>
  if !(iV C.P b k&&noLoc v && !aw v)then none else
  match AQ H id with
  |none=>none
  |some (a,c)=>
   match rE C.P b k a with
   |none=>none
   |some none=>some (H.set id (.map (a++[{ key:=k,val:=v,born:=c }]) (c+1)),undef)
   |some (some i)=>
    if (a[i]?).all (λe=>Instr.sameBits 10000 e.key k)then some (H.set id (.map (a.modify i λe=>{ e with key:=k,val:=v }) c),undef)else none
 |_,_=>none
def iq(C:Cfg)(t:TJ)(m k:Value)(H:Tp):Option (List HObj×Value):=none
def eZ(m st v:Value)(H:Tp):Option (List HObj×Value):=none
def nC(C:Cfg)(t:TJ)(m k:Value)(H:Tp):Option (List HObj×Value):=none
abbrev _root_.Tx:=List Nat
def mf(pts:Tx):TG->Nat
 | .tmp t=>pts.getD t 0
 | .global _=>1
 |_=>0
def ik:Value->Option (Nat×Nat)
 | .pointer (some a)=>if a.spot.isNone then some (a.block,a.off)else none
 |_=>none
def fZ:Value->Option (Nat×Nat)
 | .pointer (some a)=>if a.spot=some 1 then some (a.block,a.off)else none
 |_=>none
def ja(s:Nat):Value->Option Nat
 | .pointer (some a)=>if a.spot=some 0/\a.block=s then some a.off else none
 |_=>none
def dU(C:Cfg)(pts:Tx)(t:TJ)(a:TG)(v:Value):Option Eff:=
 match mf pts a with
 |0=>match ik v with
  |some p=>some (.hget λH=>(ff H p.1).bind λb=>du C.P t b p.2)
  |none=>(fZ v).map λp=>.hget λ_=>(C.G p.1).bind λb=>du C.P t b p.2
 |1=>(fZ v).bind λp=>((C.G p.1).bind λb=>du C.P t b p.2).map .val
 |s+2=>(ja s v).map λc=>.lget s λb=>du C.P t b c
def jl(C:Cfg)(t:TJ)(id off:Nat)(x:Value)(H:Tp):Option (List HObj×Value):=
 match H[id]? with
 |some (.cells b e true)=>(eM C.P t x b off).map λa=>(H.set id (.cells a e true),undef)
 |_=>none
def eI(C:Cfg)(pts:Tx)(t:TJ)(a:TG)(v x:Value):Option Eff:=
 if aw x then none else
 match mf pts a with
 |0=>(ik v).map λp=>.hop (jl C t p.1 p.2 x)
 |1=>none
 |s+2=>(ja s v).map λb=>.lset s λc=>eM C.P t x c b
def lu(P:TD)(t:TJ):Nat:=
 match P.underlying t with
 |some (.array _ e)=>P.cellsOf e
 |_=>P.cellsOf t
def cG(C:Cfg)(pts:Tx)(dst:Tn)(t:TJ)(v:Value):Option Eff:=
 if aw v then none else
 match dst with
 |none=>none
 |some d=>
  if !(v.cells.toList.all bf)then none
  else if pts.getD d 0=d+2 then some (.lnew d v.cells.toList)
  else
   some (.hop λH=>some (H++[.cells v.cells.toList (lu C.P t) true],.pointer (some ⟨H.length,0,none⟩)))
abbrev _root_.Tf:=Operand->Value
def cH(C:Cfg)(ρ:Tf)(o:Oper):Option Eff:=
 if o.op.operands.toList.all (λx=>flat (ρ x))then
  match As C.P (execOp ρ o)with
  |some (.value v)=>if flat v then some (.val v)else none
  |_=>none
 else none
def oz(a:Ti)(b:Option Eff):Option Eff:=
 match a with
 |some v=>some (.val v)
 |none=>b
def kU(x y:Value):Option Bool:=
 match bc x,bc y with
 |some true,some b=>some b
 |some b,some true=>some b
 |_,_=>none
def dt:Value->Nat
 | .slice .. => 1
 | .map _=>2
 | .nilFunc=>3
 | .func .. => 3
 | .pointer _=>4
 |_=>0
def kV:TypeDesc->Nat
 | .slice _=>1
 | .map _ _=>2
 | .func .. => 3
 | .pointer _=>4
 |_=>100
def sa(P:TD)(t:TJ)(x y:Value):Bool:=
 match P.underlying t with
 |some d=>kV d==dt x&&kV d==dt y
 |none=>false
def DA(C:Cfg)(t:TJ)(d x:Value)(H:Tp):Option (List HObj×Value):=none
def tz(C:Cfg)(t:TJ)(x:Value)(H:Tp):Option (List HObj×Value):=none
def bb(C:Cfg)(ρ:Tf)(b:Builtin)(args:Tk)(argTypes:Array TypeId)(o:Oper):Option Eff:=
 match b,args,argTypes[0]? with
 | .append,[s,x],some t=>if argTypes[1]?.any (λu=>(C.P.underlying u) matches some (.int _)|none)||argTypes[1]?.isNone then none else some (.hop (fE C t s x))
 | .len,[x],some t=>
  match C.P.underlying t,x with
  |some (.slice _),.slice _ n _=>some (.val (.int .i64 n))
  |some (.map _ _),.map (some id)=>some (.hget λH=>(AQ H id).map λp=>.int .i64 p.1.length)
  |some (.array n _),_=>some (.val (.int .i64 n))
  |_,_=>cH C ρ o
 | .cap,[x],some t=>
  match C.P.underlying t,x with
  |some (.slice _),.slice (some _) _ (n+1)=>some (.val (.int .i64 n))
  |some (.slice _),.slice none 0 0=>some (.val (.int .i64 0))
  |some (.array n _),_=>some (.val (.int .i64 n))
  |_,_=>none
 | .copy,[d,x],some t=>some (.hop (DA C t d x))
 | .delete,[m,k],some t=>some (.hop (nC C t m k))
 | .clear,[x],some t=>some (.hop (tz C t x))
 |_,_,_=>cH C ρ o
def fV(C:Cfg)(ρ:Tf)(c:Call)(o:Oper):Option Eff:=
 let a:=c.args.toList.map ρ
 match c.callee with
 | .builtin b=>bb C ρ b a c.argTypes o
 | .invoke _ _=>none
 | .value f=>
  if !(a.all noLoc)then none else
  match ρ f with
  | .func (.func g) first d=>if noLoc (.func (.func g) first d)then some (.call g (first.toList++a++d.toList))else none
  | .func (.yield l) first d=>if first.size=0/\d.size=0 then some (.yield l a)else none
  |_=>none
def nZ(C:Cfg)(t:TJ):Ti->Bool
 |none=>true
 |some v=>(intOf v).isSome&&((C.P.underlying t) matches some (.map _ _))
def ao(C:Cfg)(pts:Tx)(ρ:Tf)(o:Oper):Option Eff:=
 match o.op with
 | .move x=>some (.val (ρ x))
 | .assign x=>some (.val (ρ x))
 | .pick c a b=>match ρ c with
  | .bool q=>some (.val (if q then ρ a else ρ b))
  |_=>none
 | .alloc t=>(ey C.P t).bind λz=>cG C pts o.dst t z
 | .box t x=>cG C pts o.dst t (ρ x)
 | .build t d=>if d.toList.all (λp=>!aw (ρ p.2))then(tq C t (d.toList.map λp=>(p.1,ρ p.2))).map .val else none
 | .buildSlice t n d=>
  if (d.toList.all λp=>(ρ p.2).cells.toList.all bf)then
   (eU C t n (d.toList.map λp=>(p.1,ρ p.2))).map λr=>
    .hop λH=>some (H++[.cells r.2 r.1 true],.slice (some ⟨H.length,0,pu r.1⟩) n (n+1))
  else none
 | .load t a=>dU C pts t a (ρ a)
 | .store t a x=>eI C pts t a (ρ a) (ρ x)
 | .nilCheck x=>match ρ x with
  | .pointer (some a)=>some (.val (.pointer (some a)))
  | .func (.func f) a b=>some (.val (.func (.func f) a b))
  | .func (.yield f) a b=>some (.val (.func (.yield f) a b))
  |_=>none
 | .binOp A t x y _=>
  match A with
  | .eql=>match kU (ρ x) (ρ y)with
   |some b=>if sa C.P t (ρ x) (ρ y)then some (.val (.bool b))else none
   |none=>cH C ρ o
  | .neq=>match kU (ρ x) (ρ y)with
   |some b=>if sa C.P t (ρ x) (ρ y)then some (.val (.bool !b))else none
   |none=>cH C ρ o
  |_=>cH C ρ o
 | .makeFunc fn first e=>match fn with
  | .yield _=>none
  |fn=>some (.val (.func fn (first.map ρ) (e.map ρ)))
 | .makeMap t r=>
  if nZ C t (r.map ρ)then
   some (.hop λH=>some (H++[.map [] 0],.map (some H.length)))
  else none
 | .makeSlice t l c=>some (.hop (dw C t (ρ l) (ρ c)))
 | .slice t x h g j=>
  match ρ x with
  | .pointer (some a)=>
   if a.spot=some 1 then(ko C t a (h.map ρ) (g.map ρ) (j.map ρ) []).map .val
   else some (.hget (ko C t a (h.map ρ) (g.map ρ) (j.map ρ)))
  |x=>oz (yd C t x (h.map ρ) (g.map ρ) (j.map ρ)) (cH C ρ o)
 | .fieldAddr t x f=>(fK C t (ρ x) f).map .val
 | .indexAddr t x i=>(eP C t (ρ x) (ρ i)).map .val
 | .field t x f=>(tM C t (ρ x) f).map .val
 | .index t x i=>(lP C t (ρ x) (ρ i)).map .val
 | .lookup t m k u=>match ρ m with
  | .map none=>(dH C t (.map none) (ρ k) u []).map .val
  |m=>some (.hget (dH C t m (ρ k) u))
 | .mapUpdate t m k v=>some (.hop (cF C t (ρ m) (ρ k) (ρ v)))
 | .insert t m k v=>some (.hop (cF C t (ρ m) (ρ k) (ρ v)))
 | .mapEntry t m k=>some (.hop (iq C t (ρ m) (ρ k)))
 | .entryStore _ m s v=>some (.hop (eZ (ρ m) (ρ s) (ρ v)))
 | .extract t i=>match ρ t with
  | .tuple w=>if w.size<=1 then none else(w[i]?).map .val
  |_=>none
 | .call c=>fV C ρ c o
 | .unOp .. => cH C ρ o
 | .convert .. => cH C ρ o
 |_=>none
def cR{α:Type}{f:α->Bool}{l:List α}(h:l.all f=true){i:Nat}{x:α}(a:l[i]?=some x):f x=true:=
 qab.1 h x (Af a)
def ek{c:Value}(h:aG c=true):c.cells = #[c]:=by
 cases c<;>first|rfl|(simp[aG]at h)
section
variable [Val]
def CE:Value->Value
 | .tuple vs=>match vs.toList with
  | [.agg cs]=>match sQ cs with
   |some k=>.int k (Val.num cs)
   |none=>.tuple vs
  |_=>.tuple vs
 |v=>v
def Cf:Value->Value
 | .agg cs=>.agg (cs.map CE)
 |v=>CE v
def jb(v:Value):Bool:=scalar v||iU v
def plain:Value->Bool
 | .agg cs=>cs.toList.all jb
 |v=>jb v
def Kf:Op->Bool
 | .select .. => true
 | .defer _=>true
 |_=>false
def ku(C:Cfg)(a:Tk)(o:Oper)(v:Value):Prop:=
 Kf o.op=false/\o.op.operands.toList.all (λx=>plain (ke a x))=true/\plain v=true/\
  ∀w,(execOp (λx=>Cf (ke a x)) o).run C.P w = .ok (.value (Cf v)) w
def fD(σ σ':St):Prop:=
 σ'.loc=σ.loc/\σ'.heap=σ.heap/\σ'.tmps.length=σ.tmps.length/\
  ∀(i:Nat) x y,σ.tmps[i]?=some x->σ'.tmps[i]?=some y->y=x∨(plain x=true/\plain y=true/\Cf x=Cf y)
abbrev _root_.Tl:=Array Oper
def cv(ops:Tl)(a:Tk)(o:Oper):Option Bool:=
 match o.guard with
 |none=>some true
 |some (j,c)=>
  match ((ops[j]?).bind (·.dst)).bind (a[·]?)with
  |some (.bool b)=>some (b==c)
  |some (.tuple d)=>if d.size=1 then none else some false
  |_=>some false
structure Below where
 call:TK->Tk->Tp->Value->Tp->Prop
 yield:Nat->Tk->Tp->Value->Tp->Prop
def lL(B:Below)(e:Eff)(dst:Tn)(σ σ':St):Prop:=
 match e with
 | .call f args=>∃r H,B.call f args σ.heap r H/\σ'=({ σ with heap:=H }:St).put dst r
 | .yield l args=>∃r H,B.yield l args σ.heap r H/\σ'=({ σ with heap:=H }:St).put dst r
 |e=>∃p,aX σ e=some p/\σ'=p.1.put dst p.2
def aj(C:Cfg)(B:Below)(pts:Tx)(ops:Tl)(i:Nat)(σ σ':St):Prop:=
 match ops[i]? with
 |none=>σ'=σ
 |some o=>
  match cv ops σ.tmps o with
  |none=>False
  |some false=>σ'=σ.put o.dst undef
  |some true=>(∃e,ao C pts (ke σ.tmps) o=some e/\lL B e o.dst σ σ')∨(∃v,ku C σ.tmps o v/\σ'=σ.put o.dst v)
def bK(C:Cfg)(B:Below)(pts:Tx)(ops:Tl):Tx->St->St->Prop
 | [],σ,σ'=>σ'=σ
 |i :: l,σ,σ'=>∃σ₁,aj C B pts ops i σ σ₁/\bK C B pts ops l σ₁ σ'
def fj(C:Cfg)(B:Below)(pts:Tx)(ops:Tl):Tx->St->St->Prop
 | [],σ,σ'=>σ'=σ
 |i :: l,σ,σ'=>∃σ₀ σ₁,fD σ σ₀/\aj C B pts ops i σ₀ σ₁/\fj C B pts ops l σ₁ σ'
inductive Fresh:(Nat->Value)->Prop
 |ptr:Fresh λn=>.pointer (some ⟨n,0,none⟩)
 |slice (e l c:Nat):Fresh λn=>.slice (some ⟨n,0,pu e⟩) l c
 |map:Fresh λn=>.map (some n)
def dY(C:Cfg)(B:Below)(pts:Tx)(ops:Tl)(b:Nat->To)(i:Nat)(σ σ':St):Prop:=
 match b i with
 |none=>aj C B pts ops i σ σ'
 |some k=>∃o f a x mk,ops[i]?=some o/\cv ops σ.tmps o=some true/\ao C pts (ke σ.tmps) o=some (.hop f)/\f σ.heap=some (a++[x],mk σ.heap.length)/\
   a.length=σ.heap.length/\a[k]?=some .dead/\Fresh mk/\σ'=({ σ with heap:=a.set k x }:St).put o.dst (mk k)
def iP(C:Cfg)(B:Below)(pts:Tx)(ops:Tl)(a:Nat->To):Tx->St->St->Prop
 | [],σ,σ'=>σ'=σ
 |i :: l,σ,σ'=>i∉l/\∃σ₁,dY C B pts ops a i σ σ₁/\iP C B pts ops a l σ₁ σ'
def St.pad(σ:St)(n:Nat):St:={ σ with heap:=σ.heap++List.replicate n .dead }
def dq(pts:Tx)(o:Oper):Bool:=
 match o.op with
 | .buildSlice _ _ _ | .makeMap _ _ | .makeSlice _ _ _=>true
 | .alloc _ | .box _ _=>match o.dst with
  |some d=>!Nat.beq (pts.getD d 0) (d+2)
  |none=>false
 | .call c=>match c.callee with
  | .builtin .append=>true
  |_=>false
 |_=>false
def ew(C:Cfg)(B:Below)(pts:Tx)(ops:Tl)(σ σ':St):Prop:=
 (∀t,bK C B pts ops (Region.linearise .any ops t) σ σ')∨
 ∃a n,ops.toList.any (dq pts)=true/\(∀i k,a i=some k->σ.heap.length<=k/\k<σ.heap.length+n)/\(∀i j k,a i=some k->a j=some k->i=j)/\
  ∀t,iP C B pts ops a (Region.linearise .any ops t) (σ.pad n) σ'
def aO(pts:Tx):Code->List Nat
 | .region _ ops _=>ops.toList.filterMap λo=>
  match o.op,o.dst with
  | .box ..,some d=>if pts.getD d 0=d+2 then some d else none
  | .alloc _,some d=>if pts.getD d 0=d+2 then some d else none
  |_,_=>none
 | .seq a b=>aO pts a++aO pts b
 | .cond _ a b=>aO pts a++aO pts b
 | .block _ b=>aO pts b
 | .loop b=>aO pts b
 | .rangeFunc _ _ a b=>aO pts a++aO pts b
 | .scope b=>aO pts b
 |_=>[]
def iZ(b:Tx)(v:Value):Value:=
 match v with
 | .pointer (some a)=>if a.spot=some 0&&b.contains a.block then poison else v
 |v=>if noLoc v then v else poison
def gS(a:Tx):List (Option (Tk))->Nat->List (Option (Tk))
 | [],_=>[]
 |x :: l,i=>(if a.contains i then none else x) :: gS a l (i+1)
def St.clear(σ:St)(a:Tx):St:=
 if a=[]then σ else { σ with tmps:=σ.tmps.map (iZ a),loc:=gS a σ.loc 0 }
def fl(C:Cfg)(σ:St):ResultVar->Option Value
 | .tmp t=>some (σ.tmps.getD t undef)
 | .cell a t=>
  match σ.tmps.getD a undef with
  | .pointer (some p)=>
   match p.spot with
   |none=>(ff σ.heap p.block).bind λvs=>du C.P t vs p.off
   |some 0=>match σ.loc[p.block]? with
    |some (some vs)=>du C.P t vs p.off
    |_=>none
   |_=>none
  |_=>none
def da(C:Cfg)(σ:St):List ResultVar->Option (Tk)
 | []=>some []
 |r :: a=>match fl C σ r,da C σ a with
  |some v,some vs=>some (v :: vs)
  |_,_=>none
def gk:Tk->Value
 | [v]=>v
 |vs=>.tuple vs.toArray
def lM(a:Func)(args:Tk)(H:Tp):St:=
 { tmps:=args++List.replicate (a.ntmps - args.length) undef,loc:=List.replicate a.ntmps none,heap:=H }
structure Sems extends Below where
 ex:Tx->Code->St->Exit->St->Prop
def jh(id:Nat):Exit->Exit
 | .exit i=>if i=id then .normal else .exit i
 |e=>e
def nO(C:Cfg)(S:Sems)(d:Tx):Code->St->Exit->St->Prop
 | .skip,σ,e,σ'=>e = .normal/\σ'=σ
 | .label _,σ,e,σ'=>e = .normal/\σ'=σ
 | .ret,σ,e,σ'=>e = .ret/\σ'=σ
 | .exit id,σ,e,σ'=>e = .exit id/\σ'=σ
 | .goto _,_,_,_=>False
 | .refuse _,_,_,_=>False
 | .seq a b,σ,e,σ'=>∃e₁ σ₁,S.ex d a σ e₁ σ₁/\((e₁ = .normal/\S.ex d b σ₁ e σ')∨(e₁≠.normal/\e=e₁/\σ'=σ₁))
 | .cond c a b,σ,e,σ'=>∃t,ke σ.tmps c = .bool t/\S.ex d (if t then a else b) σ e σ'
 | .block id b,σ,e,σ'=>∃e₁,S.ex d b σ e₁ σ'/\e=jh id e₁
 | .loop b,σ,e,σ'=>∃e₁ σ₁,S.ex d b (σ.clear (aO d b)) e₁ σ₁/\((e₁ = .normal/\S.ex d (.loop b) σ₁ e σ')∨(e₁≠.normal/\e=e₁/\σ'=σ₁))
 | .scope b,σ,e,σ'=>S.ex d b σ e σ'
 | .region _ ops f,σ,e,σ'=>e = .normal/\(if f then ∃σ₀,fD σ σ₀/\ew C S.toBelow d ops σ₀ σ' else fj C S.toBelow d ops (List.range ops.size) σ σ')
 | .rangeFunc ..,_,_,_=>False
def mE(C:Cfg)(S:Sems)(f:TK)(args:Tk)(H:Tp)(r:Value)(H':Tp):Prop:=
 ∃fn b e σ vs,C.P.funcs[f]?=some fn/\fn.body=some b/\((fn.name == "runtime.NumGoroutine")||C.opq f)=false/\
  S.ex (C.pts f) b (lM fn args H) e σ/\(e = .normal∨e = .ret)/\da C σ fn.results.toList=some vs/\
  r=gk vs/\noLoc r=true/\H'=σ.heap
abbrev IE:=FuncId->Tk->Tp->Value->Tp->Prop
def LP(C:Cfg)(K:IE):Nat->Sems
 |0=>{ call:=K,yield:=λ_ _ _ _ _=>False,ex:=λ_ _ _ _ _=>False }
 |n+1=>{ call:=λf args H r H'=>K f args H r H'∨mE C (LP C K n) f args H r H',yield:=λ_ _ _ _ _=>False,ex:=nO C (LP C K n) }
end
structure Pl where
 b:Nat
 o:Nat
 room:Nat
 esz:Nat
abbrev tf:=Nat->Option Nat
abbrev kl:=Nat->Option Pl
def Az:tf:=λ_=>none
section
variable [Val] [Glo]
abbrev _root_.TF:=IntKind
inductive VR(la:tf)(mu:kl):Value->Value->Prop
 |poison (c:Value):VR la mu (.tuple #[.tuple #[]]) c
 |sym {cs:Tj} {k:TF} (h:sQ cs=some k):VR la mu (.tuple #[.agg cs]) (.int k (Val.num cs))
 |scalar {v:Value} (h:scalar v=true):VR la mu v v
 |agg {a c:Tj} (hs:a.size=c.size) (h:∀(i:Nat) (x y:Value),a[i]?=some x->c[i]?=some y->VR la mu x y):VR la mu (.agg a) (.agg c)
 |tuple {a c:Tj} (hn:a.size≠1) (hs:a.size=c.size) (h:∀(i:Nat) (x y:Value),a[i]?=some x->c[i]?=some y->VR la mu x y):VR la mu (.tuple a) (.tuple c)
 |func {fn:Fn} {a b a' b':Tj} (hf:∀l,fn≠.yield l) (ha:a.size=a'.size) (hb:b.size=b'.size)
   (h₁:∀(i:Nat) (x y:Value),a[i]?=some x->a'[i]?=some y->VR la mu x y) (h₂:∀(i:Nat) (x y:Value),b[i]?=some x->b'[i]?=some y->VR la mu x y) :
   VR la mu (.func fn a b) (.func fn a' b')
 |yield {l:Nat} {p:Pl} (h:mu l=some p):VR la mu (.func (.yield l) #[] #[]) (.func (.yield p.b) #[] #[])
 |lptr {s off b:Nat} (h:la s=some b):VR la mu (.pointer (some ⟨s,off,some 0⟩)) (.pointer (some ⟨b,off,none⟩))
 |hptr {id off:Nat} {p:Pl} (h:mu id=some p):VR la mu (.pointer (some ⟨id,off,none⟩)) (.pointer (some ⟨p.b,p.o+off,none⟩))
 |gptr {g off:Nat}:VR la mu (.pointer (some ⟨g,off,some 1⟩)) (.pointer (some ⟨BG g,Cq g+off,none⟩))
 |hslice {id off len cap cx:Nat} {p:Pl} (h:mu id=some p) (hr:off+cap*p.esz<=p.room) (hl:len<=cap) (hx:cx=0∨cx=cap+1) :
   VR la mu (.slice (some ⟨id,off,pu p.esz⟩) len cx) (.slice (some ⟨p.b,p.o+off,none⟩) len cap)
 |hslice0 {id off cx esz:Nat} {a:Addr} (hx:cx<=1):VR la mu (.slice (some ⟨id,off,pu esz⟩) 0 cx) (.slice (some a) 0 0)
 |gslice {g off len cap cx:Nat} (hl:len<=cap) (hx:cx=0∨cx=cap+1):VR la mu (.slice (some ⟨g,off,some 1⟩) len cx) (.slice (some ⟨BG g,Cq g+off,none⟩) len cap)
 |gslice0 {g off cx:Nat} {a:Addr} (hx:cx<=1):VR la mu (.slice (some ⟨g,off,some 1⟩) 0 cx) (.slice (some a) 0 0)
 |map {id:Nat} {p:Pl} (h:mu id=some p):VR la mu (.map (some id)) (.map (some p.b))
def VR.mono{la f:tf}{mu g:kl}{a c:Value}(h:VR la mu a c)(t:∀s b,la s=some b->f s=some b)(j:∀i p,mu i=some p->g i=some p) :
  VR f g a c:=by
 induction h with
 |poison c=>exact .poison c
 |sym h=>exact .sym h
 |scalar h=>exact .scalar h
 |agg k _ l=>exact .agg k l
 |tuple u k _ l=>exact .tuple u k l
 |func r o q _ _ m n=>exact .func r o q m n
 |yield h=>exact .yield (j _ _ h)
 |lptr h=>exact .lptr (t _ _ h)
 |hptr h=>exact .hptr (j _ _ h)
 |gptr=>exact .gptr
 |hslice h v d e=>exact .hslice (j _ _ h) v d e
 |hslice0 e=>exact .hslice0 e
 |gslice d e=>exact .gslice d e
 |gslice0 e=>exact .gslice0 e
 |map h=>exact .map (j _ _ h)
def VR.up{la:tf}{mu:kl}{a c:Value}(h:VR Az mu a c):VR la mu a c:=
 h.mono (λ_ _ h=>by cases h) (λ_ _ h=>h)
def VR.undef{la:tf}{mu:kl}:VR la mu undef undef:=.tuple (by simp) rfl λi x y h=>by simp at h
def cI{la:tf}{mu:kl}{a c:Value}(b:scalar a=true)(h:VR la mu a c):c=a:=by
 cases h<;>first|rfl|(simp[Am.scalar]at b)
def mL{la:tf}{mu:kl}{a c:Value}(b:fF a=true)(h:VR la mu a c):c=a:=by
 cases a with
 |agg f=>
  cases h with
  |scalar _=>rfl
  |agg d h=>
   rename_i g
   simp only[fF]at b
   congr 1
   apply Array.ext d.symm;intro i j e;exact cI (cR (i:=i) b (by simp[e])) (h i f[i] g[i] (by simp[e]) (by simp[j]))
 |_=>exact cI b h
def rH{la:tf}{mu:kl}{a c:Value}(b:flat a=true)(h:VR la mu a c):c=a:=by
 cases a with
 |tuple f=>
  cases h with
  |poison c=>simp[flat,fF,Am.scalar]at b
  |sym _=>simp[flat]at b
  |scalar _=>rfl
  |tuple k d h=>
   rename_i g
   simp only[flat,uc]at b
   replace b:=b.2
   congr 1
   apply Array.ext d.symm;intro i j e;exact mL (cR (i:=i) b (by simp[e])) (h i f[i] g[i] (by simp[e]) (by simp[j]))
 |_=>exact mL b h
def VR.of_flat1{la:tf}{mu:kl}{v:Value}(h:fF v=true):VR la mu v v:=by
 cases v with
 |agg c=>
  refine .agg rfl λi x y a b=>?_;obtain rfl:x=y:=by rw[a]at b;exact AD b
  exact .scalar (cR (i:=i) (l:=c.toList) h (by simpa using a))
 |_=>exact .scalar h
def VR.of_flat{la:tf}{mu:kl}{v:Value}(h:flat v=true):VR la mu v v:=by
 cases v with
 |tuple c=>
  simp only[flat,uc,bne_iff_ne]at h;refine .tuple h.1 rfl λi x y a b=>?_;obtain rfl:x=y:=by rw[a]at b;exact AD b
  exact .of_flat1 (cR (i:=i) (l:=c.toList) h.2 (by simpa using a))
 |_=>exact .of_flat1 h
def fi{la:tf}{mu:kl}{a c:Value}(e:aW a=true)(h:VR la mu a c):VR Az mu a c:=by
 cases h with
 |poison c=>simp[aW,iU]at e
 |sym h=>exact .sym h
 |scalar h=>exact .scalar h
 |agg _ _=>simp[aW]at e
 |tuple f _ _=>exact absurd (fM e) f
 |func _ _ _ _ _=>simp[aW]at e
 |yield h=>simp[aW]at e
 |lptr h=>simp[aW]at e
 |hptr h=>exact .hptr h
 |gptr=>exact .gptr
 |hslice h g b d=>exact .hslice h g b d
 |hslice0 d=>exact .hslice0 d
 |gslice b d=>exact .gslice b d
 |gslice0 d=>exact .gslice0 d
 |map h=>exact .map h
def nG{f g:Value->Bool}{la:tf}{mu:kl}
  (n:∀a c,f a=true->VR la mu a c->VR Az mu a c)
  (m:∀cs,g (.agg cs)=cs.toList.all f) (o:∀q a b,g (.func q a b)=(a.toList.all f&&b.toList.all f))
  (p:∀vs,g (.tuple vs)=true->vs.toList.all f=true∨iU (.tuple vs)=true)
  (r:∀v,(∀cs,v≠.agg cs)->(∀q a b,v≠.func q a b)->(∀vs,v≠.tuple vs)->g v=f v)
  {a c:Value} (e:g a=true) (h:VR la mu a c):VR Az mu a c:=by
 cases h with
 |poison c=>exact .poison c
 |sym h=>exact .sym h
 |scalar h=>exact .scalar h
 |agg k h=>
  rw[m]at e;exact .agg k λi x y d l=>n _ _ (cR (i:=i) e (by simpa using d)) (h i x y d l)
 |tuple s k h=>
  have:=(p _ e).resolve_right λB=>s (fM B);exact .tuple s k λi x y d l=>n _ _ (cR (i:=i) this (by simpa using d)) (h i x y d l)
 |func t z A u w=>
  rw[o,uc]at e;exact .func t z A (λi x y d l=>n _ _ (cR (i:=i) e.1 (by simpa using d)) (u i x y d l))
   (λi x y d l=>n _ _ (cR (i:=i) e.2 (by simpa using d)) (w i x y d l))
 |yield h=>exact .yield h
 |lptr h=>
  rw[r _ (by simp) (by simp) (by simp)]at e;exact n _ _ e (.lptr h)
 |hptr h=>exact .hptr h
 |gptr=>exact .gptr
 |hslice h C j d=>exact .hslice h C j d
 |hslice0 d=>exact .hslice0 d
 |gslice j d=>exact .gslice j d
 |gslice0 d=>exact .gslice0 d
 |map h=>exact .map h
def vM{la:tf}{mu:kl}{a c:Value}(k:bg a=true)(h:VR la mu a c):VR Az mu a c:=
 nG (f:=aW) (g:=bg) (λ_ _=>fi) (λ_=>rfl) (λ_ _ _=>rfl)
  (λd h=>by
   have b:(d.size==0||iU (.tuple d))=true:=h;simp only[Ck,beq_iff_eq]at b;rcases b with b|b
   ·left;simp at b;simp[b]
   ·exact .inr b) (λv e i j=>by cases v<;>first|rfl|exact absurd rfl (e _)|exact absurd rfl (i _ _ _)|exact absurd rfl (j _)) k h
def jp{la:tf}{mu:kl}{a c:Value}(i:aP a=true)(h:VR la mu a c):VR Az mu a c:=
 nG (f:=bg) (g:=aP) (λ_ _=>vM) (λ_=>rfl) (λ_ _ _=>rfl)
  (λ_ h=>.inl h) (λv b d e=>by cases v<;>first|rfl|exact absurd rfl (b _)|exact absurd rfl (d _ _ _)|exact absurd rfl (e _)) i h
def fO{la:tf}{mu:kl}{a c:Value}(i:noLoc a=true)(h:VR la mu a c):VR Az mu a c:=
 nG (f:=aP) (g:=noLoc) (λ_ _=>jp) (λ_=>rfl) (λ_ _ _=>rfl)
  (λ_ h=>.inl h) (λv b d e=>by cases v<;>first|rfl|exact absurd rfl (b _)|exact absurd rfl (d _ _ _)|exact absurd rfl (e _)) i h
def va{la:tf}{mu:kl}{a c:Value}(b:bf a=true)(h:VR la mu a c):VR Az mu a c:=
 fO (by simp only[bf,uc]at b;exact b.1) h
def kW{la:tf}{mu:kl}{a c:Value}(b:aG a=true)(h:VR la mu a c):aG c=true:=by
 cases h with
 |poison c=>simp[aG,iU]at b
 |sym _=>rfl
 |tuple d _ _=>exact absurd (fM b) d
 |scalar h=>exact b
 |_=>first|rfl|(simp[aG]at b)
def vN{la:tf}{mu:kl}{a:Value}{vs:Tj}(b:aG a=true)(h:VR la mu a (.tuple vs)):False:=by
 cases h with
 |poison c=>simp[aG,iU]at b
 |tuple d _ _=>exact absurd (fM b) d
 |scalar h=>simp[Am.scalar]at h
def VRs(la:tf)(mu:kl)(vs cs:Tk):Prop:=vs.length=cs.length/\∀(i:Nat) (x y:Value),vs[i]?=some x->cs[i]?=some y->VR la mu x y
def VRs.nil{la:tf}{mu:kl}:VRs la mu [] []:=⟨rfl,λi x y h=>by simp at h⟩
def VRs.cons{la:tf}{mu:kl}{v c:Value}{vs cs:Tk}(h:VR la mu v c)(d:VRs la mu vs cs):VRs la mu (v :: vs) (c :: cs):=by
 refine⟨by simp[d.1],λi x y a b=>?_⟩;cases i with
 |zero=>simp at a b;subst a b;exact h
 |succ i=>exact d.2 i x y (by simpa using a) (by simpa using b)
def VRs.head{la:tf}{mu:kl}{v c:Value}{vs cs:Tk}(h:VRs la mu (v :: vs) (c :: cs)):VR la mu v c:=h.2 0 v c rfl rfl
def VRs.tail{la:tf}{mu:kl}{v c:Value}{vs cs:Tk}(h:VRs la mu (v :: vs) (c :: cs)):VRs la mu vs cs:=
 ⟨by have:=h.1;simpa using this,λi x y a b=>h.2 (i+1) x y (by simpa using a) (by simpa using b)⟩
def VRs.uncons{la:tf}{mu:kl}{v:Value}{vs cs:Tk}(h:VRs la mu (v :: vs) cs):∃c a,cs=c :: a/\VR la mu v c/\VRs la mu vs a:=by
 cases cs with
 |nil=>have:=h.1;simp at this
 |cons c cs=>exact⟨c,cs,rfl,h.head,h.tail⟩
def VRs.unnil{la:tf}{mu:kl}{cs:Tk}(h:VRs la mu [] cs):cs=[]:=by
 have:=h.1;cases cs<;>simp_all
def VRs.append{la:tf}{mu:kl}{vs cs c a:Tk}(h:VRs la mu vs cs)(h':VRs la mu c a):VRs la mu (vs++c) (cs++a):=by
 refine⟨by simp[h.1,h'.1],λi x y d b=>?_⟩;have e:=h.1;by_cases f:i<vs.length
 ·rw[BE f]at d;rw[BE (by omega)]at b;exact h.2 i x y d b
 ·rw[Cd (by omega)]at d;rw[Cd (by omega)]at b;rw[←e]at b;exact h'.2 _ x y d b
def VRs.mono{la a:tf}{mu c:kl}{vs cs:Tk}(h:VRs la mu vs cs)(d:∀s b,la s=some b->a s=some b)(e:∀i p,mu i=some p->c i=some p) :
  VRs a c vs cs:=⟨h.1,λi x y f g=>(h.2 i x y f g).mono d e⟩
def VRs.up{la:tf}{mu:kl}{vs cs:Tk}(h:VRs Az mu vs cs):VRs la mu vs cs:=⟨h.1,λi x y a b=>(h.2 i x y a b).up⟩
def VRs.down{la:tf}{mu:kl}{vs cs:Tk}(b:vs.all noLoc=true)(h:VRs la mu vs cs):VRs Az mu vs cs:=
 ⟨h.1,λi x y a c=>fO (cR b a) (h.2 i x y a c)⟩
def VRs.downc{la:tf}{mu:kl}{vs cs:Tk}(b:vs.all bf=true)(h:VRs la mu vs cs):VRs Az mu vs cs:=
 ⟨h.1,λi x y a c=>va (cR b a) (h.2 i x y a c)⟩
def VRs.map{la:tf}{mu:kl}{α:Type}{f g:α->Value}(l:List α)(h:∀x,x∈l->VR la mu (f x) (g x)):VRs la mu (l.map f) (l.map g):=by
 induction l with
 |nil=>exact .nil
 |cons a l c=>exact .cons (h a (by simp)) (c λx b=>h x (by simp[b]))
def VRs.take{la:tf}{mu:kl}{vs cs:Tk}(h:VRs la mu vs cs)(n:Nat):VRs la mu (vs.take n) (cs.take n):=by
 refine⟨by simp[h.1],λi x y a b=>?_⟩;rw[Iw]at a b;split at a
 next c=>rw[mc c]at b;exact h.2 i x y a b
 ·cases a
def VRs.drop{la:tf}{mu:kl}{vs cs:Tk}(h:VRs la mu vs cs)(n:Nat):VRs la mu (vs.drop n) (cs.drop n):=by
 refine⟨by simp[h.1],λi x y a b=>?_⟩;rw[HY]at a b;exact h.2 _ x y a b
def VRs.set{la:tf}{mu:kl}{vs cs:Tk}(h:VRs la mu vs cs)(n:Nat){v c:Value}(f:VR la mu v c):VRs la mu (vs.set n v) (cs.set n c):=by
 refine⟨by simp[h.1],λi x y a b=>?_⟩;rw[DX]at a b;by_cases d:n=i
 ·subst d;simp only[if_true]at a b;split at a
  next e=>
   rw[mc (by rw[←h.1];exact e)]at b;simp at a b;subst a b;exact f
  ·cases a
 ·rw[po d]at a b;exact h.2 i x y a b
def VRs.replicate{la:tf}{mu:kl}(n:Nat){v c:Value}(a:VR la mu v c):VRs la mu (List.replicate n v) (List.replicate n c):=by
 induction n with
 |zero=>exact .nil
 |succ n b=>exact .cons a b
def VRs.get{la:tf}{mu:kl}{vs cs:Tk}(h:VRs la mu vs cs){i:Nat}{x:Value}(a:vs[i]?=some x):∃y,cs[i]?=some y/\VR la mu x y:=by
 have c:i<vs.length:=by
  rcases Bi i vs.length with h|h
  ·exact h
  ·rw[Bd h]at a;cases a
 have b:i<cs.length:=by have:=h.1;omega
 exact⟨cs[i],by simp[b],h.2 i x _ a (by simp[b])⟩
def VRs.agg{la:tf}{mu:kl}{a c:Tj}(h:VRs la mu a.toList c.toList):VR la mu (.agg a) (.agg c):=
 .agg (by simpa using h.1) λi x y b d=>h.2 i x y (by simpa using b) (by simpa using d)
def VR.unagg{la:tf}{mu:kl}{a:Tj}{c:Value}(h:VR la mu (.agg a) c):∃d,c = .agg d/\VRs la mu a.toList d.toList:=by
 cases h with
 |scalar h=>simp[Am.scalar]at h
 |agg b h=>exact⟨_,rfl,by simpa using b,λi x y e f=>h i x y (by simpa using e) (by simpa using f)⟩
def VRs.tuple{la:tf}{mu:kl}{a c:Tj}(h:VRs la mu a.toList c.toList)(b:a.size≠1:=by simp):VR la mu (.tuple a) (.tuple c):=
 .tuple b (by simpa using h.1) λi x y d e=>h.2 i x y (by simpa using d) (by simpa using e)
def VR.untuple{la:tf}{mu:kl}{a:Tj}{c:Value}(b:a.size≠1)(h:VR la mu (.tuple a) c):∃d,c = .tuple d/\VRs la mu a.toList d.toList:=by
 cases h with
 |poison c=>simp at b
 |sym _=>simp at b
 |scalar h=>simp[Am.scalar]at h
 |tuple _ e h=>exact⟨_,rfl,by simpa using e,λi x y f g=>h i x y (by simpa using f) (by simpa using g)⟩
def VR.cells{la:tf}{mu:kl}{a c:Value}(f:aw a=false)(h:VR la mu a c):VRs la mu a.cells.toList c.cells.toList:=by
 cases a with
 |agg i=>
  obtain⟨d,rfl,b⟩:=h.unagg;exact b
 |tuple g=>
  have e:aG (.tuple g)=true:=by simpa[aw,aG]using f
  rw[ek (kW e h)];exact .cons h .nil
 |_=>
  rw[ek (kW rfl h)];exact .cons h .nil
end
section
variable [Val] [Glo]
def fz(mu:kl)(e e':MapEntry):Prop:=e'.key=e.key/\fF e.key=true/\e'.born=e.born/\VR Az mu e.val e'.val
def objR(mu:kl)(p:Pl)(x:Option Obj):HObj->Prop
 | .cells vs esz rw=>p.esz=esz/\vs.length<=p.room/\vs.all bf=true/\∃c e fr,x=some (.cells c e fr)/\c.size=p.o+p.room/\(rw=true->fr=(0,0))/\
   ∀(i:Nat) v,vs[i]?=some v->∃v',c[p.o+i]?=some v'/\VR Az mu v v'
 | .map d a=>∃b,x=some (.map b a)/\b.size=d.length/\∀(i:Nat) e,d[i]?=some e->∃e',b[i]?=some e'/\fz mu e e'
 | .loop r=>∃L:Loop,x=some (.loop L)/\L.state=r.state/\L.pending=r.pending/\L.params.toList=r.params/\L.assign=r.assign/\L.body=r.body/\VRs Az mu r.tmps L.tmps.toList
 | .siter s pos=>x=some (.stringIter s pos)
 | .dead=>True
def fz.mono{mu a:kl}(b:∀i p,mu i=some p->a i=some p){e e':MapEntry}(h:fz mu e e'):fz a e e':=
 ⟨h.1,h.2.1,h.2.2.1,h.2.2.2.mono (λ_ _ h=>h) b⟩
def objR.mono{mu j:kl}(u:∀i p,mu i=some p->j i=some p){p:Pl}{x:Option Obj}{o:HObj}(h:objR mu p x o):objR j p x o:=by
 cases o with
 |cells C w rw=>
  obtain⟨d,f,g,c,e,y,m,n,q,t⟩:=h;exact⟨d,f,g,c,e,y,m,n,q,λi v A=>let ⟨v',a,b⟩:=t i v A;⟨v',a,b.mono (λ_ _ h=>h) u⟩⟩
 |map B k=>
  obtain⟨l,d,f,g⟩:=h;exact⟨l,d,f,λi e z=>let ⟨e',a,b⟩:=g i e z;⟨e',a,b.mono u⟩⟩
 |loop r=>
  obtain⟨L,d,f,g,m,n,q,t⟩:=h;exact⟨L,d,f,g,m,n,q,t.mono (λ_ _ h=>h) u⟩
 |siter s pos=>exact h
 |dead=>trivial
def cw(mu:kl)(vs:Tk)(c:Tj)(o:Nat):Prop:=∀(i:Nat) v,vs[i]?=some v->∃v',c[o+i]?=some v'/\VR Az mu v v'
def cw.mono{mu d:kl}{vs:Tk}{c:Tj}{o:Nat}(h:cw mu vs c o)(e:∀i p,mu i=some p->d i=some p):cw d vs c o:=
 λi v f=>let ⟨v',a,b⟩:=h i v f;⟨v',a,b.mono (λ_ _ h=>h) e⟩
structure WR(C:Cfg)(base:Nat)(mu:kl)(H:Tp)(w:World):Prop where
 obj:∀id o,H[id]?=some o->o.alive=true->∃p,mu id=some p/\objR mu p w.heap[p.b]? o
 inj:∀(i j:Nat) oi oj pi pj,H[i]?=some oi->H[j]?=some oj->oi.owned=true->oj.alive=true->i≠j->mu i=some pi->mu j=some pj->pi.b≠pj.b
 own:∀(i:Nat) o p,H[i]?=some o->o.owned=true->mu i=some p->base<=p.b
 ro:∀(i:Nat) o p,H[i]?=some o->o.alive=true->o.owned=false->mu i=some p->p.b<base
 dom:∀id,H.length<=id->mu id=none
 glob:∀g vs,C.G g=some vs->BG g<base/\vs.all bf=true/\∃c e fr,w.heap[BG g]?=some (.cells c e fr)/\cw mu vs c (Cq g)
def Own(mu:kl)(H:Tp)(b:Nat):Prop:=∃(id:Nat) (o:HObj) (p:Pl),H[id]?=some o/\o.owned=true/\mu id=some p/\p.b=b
def bJ{o:HObj}(h:o.owned=true):o.alive=true:=by cases o<;>first|rfl|(simp[HObj.owned]at h)
structure Evo(H:Tp)(mu:kl)(w:World)(H':Tp)(mu':kl)(w':World):Prop where
 len:H.length<=H'.length
 same:∀id,id<H.length->mu' id=mu id
 size:w.heap.size<=w'.heap.size
 keep:∀b,b<w.heap.size->¬Own mu H b->w'.heap[b]?=w.heap[b]?
 steal:∀b,Own mu' H' b->w.heap.size<=b∨Own mu H b
 os:w'.os=w.os
 tape:w'.tape=w.tape
 output:w'.output=w.output
 dr:w.drawn<=w'.drawn
theorem Evo.refl(H:Tp)(mu:kl)(w:World):Evo H mu w H mu w:=
 ⟨zY _,λ_ _=>rfl,zY _,λ_ _ _=>rfl,λ_ h=>.inr h,rfl,rfl,rfl,zY _⟩
def Evo.trans{H₁ H₂ H₃:Tp}{m₁ m₂ m₃:kl}{w₁ w₂ w₃:World}(h:Evo H₁ m₁ w₁ H₂ m₂ w₂)(k:Evo H₂ m₂ w₂ H₃ m₃ w₃):Evo H₁ m₁ w₁ H₃ m₃ w₃ where
 len:=EL h.len k.len
 same:=λid e=>(k.same id (qc3 e h.len)).trans (h.same id e)
 size:=EL h.size k.size
 keep:=λb a f=>(k.keep b (qc3 a h.size) λc=>(h.steal b c).elim (λd=>by omega) f).trans (h.keep b a f)
 steal:=λb a=>(k.steal b a).elim (λd=>.inl (EL h.size d)) (h.steal b)
 os:=k.os.trans h.os
 tape:=k.tape.trans h.tape
 output:=k.output.trans h.output
 dr:=EL h.dr k.dr
def Evo.drew{H H':Tp}{m a:kl}{w w':World}(h:Evo H m w H' a w')(n:Nat)(b:w'.drawn<=n):Evo H m w H' a { w' with drawn:=n }:=
 ⟨h.len,h.same,h.size,h.keep,h.steal,h.os,h.tape,h.output,EL h.dr b⟩
def WR.drew{C:Cfg}{a:Nat}{mu:kl}{H:Tp}{w:World}(h:WR C a mu H w)(n:Nat):WR C a mu H { w with drawn:=n }:=
 ⟨h.obj,h.inj,h.own,h.ro,h.dom,h.glob⟩
def Evo.mono{C:Cfg}{a:Nat}{H H':Tp}{m d:kl}{w w':World}(h:Evo H m w H' d w')(e:WR C a m H w):∀i p,m i=some p->d i=some p:=by
 intro i p c;rw[h.same i ?_];exact c;rcases Bi i H.length with b|b
 ·exact b
 ·rw[e.dom i b]at c;cases c
def upd(mu:kl)(i:Nat)(p:Pl):kl:=λj=>if j=i then some p else mu j
def bU(mu:kl)(i:Nat)(p:Pl):upd mu i p i=some p:=by simp[upd]
def ej(mu:kl){i j:Nat}(p:Pl)(h:j≠i):upd mu i p j=mu j:=by simp[upd,h]
def mY{C:Cfg}{a:Nat}{H:Tp}{m:kl}{w:World}(d:WR C a m H w)(p:Pl):∀i q,m i=some q->upd m H.length p i=some q:=by
 intro i q b;by_cases c:i=H.length
 ·subst c;rw[d.dom _ (zY _)]at b;cases b
 ·rw[ej _ _ c];exact b
def aH{α:Type}{l:List α}{x y:α}{i:Nat}(h:(l++[x])[i]?=some y):(i<l.length/\l[i]?=some y)∨(i=l.length/\y=x):=by
 rcases Bi i l.length with b|b
 ·rw[BE b]at h;exact .inl ⟨b,h⟩
 ·rw[Cd b]at h;have a:i - l.length=0:=by
   rcases qdB (i - l.length)with a|a
   ·exact a
   ·rw[Bd (by simp;omega)]at h;cases h
  rw[a]at h;exact .inr ⟨by omega,by simpa using h.symm⟩
def iu{mu:kl}{p:Pl}{w:World}{o:HObj}(i:o.alive=true)(h:objR mu p w.heap[p.b]? o):p.b<w.heap.size:=by
 rcases Bi p.b w.heap.size with d|d
 ·exact d
 ·rw[Rr d]at h;cases o with
  |cells l g rw=>obtain⟨_,_,_,c,e,k,h,_⟩:=h;cases h
  |map j a=>obtain⟨f,h,_⟩:=h;cases h
  |loop r=>obtain⟨L,h,_⟩:=h;cases h
  |siter s pos=>cases h
  |dead=>cases i
def WR.lt{C:Cfg}{a:Nat}{mu:kl}{H:Tp}{w:World}(h:WR C a mu H w){id:Nat}{o:HObj}{p:Pl}(e:H[id]?=some o)(c:o.alive=true)(f:mu id=some p):p.b<w.heap.size:=by
 obtain⟨q,d,g⟩:=h.obj id o e c;obtain rfl:p=q:=by rw[f]at d;exact AD d
 exact iu c g
def Vz(mu a:kl)(H':Tp)(w':World):Prop:=∀id o,H'[id]?=some o->o.alive=true->∃p,a id=some p/\objR mu p w'.heap[p.b]? o
def WR.new{C:Cfg}{m:Nat}{mu:kl}{H:Tp}{w w':World}(h:WR C m mu H w)(G:m<=w.heap.size){x:Obj}(K:w'.heap=w.heap.push x)
  (T:w'.os=w.os) (W:w'.tape=w.tape) (X:w'.output=w.output) (o:HObj) (p:Pl) (U:p.b=w.heap.size) (E:objR mu p (some x) o) (J:o.alive=true->o.owned=true) (R:w.drawn<=w'.drawn:=by exact zY _) :
  WR C m (upd mu H.length p) (H++[o]) w'/\Evo H mu w (H++[o]) (upd mu H.length p) w'/\Vz mu (upd mu H.length p) (H++[o]) w':=by
 have V:objR (upd mu H.length p) p (some x) o:=E.mono (mY h p);have f:∀b,b<w.heap.size->w'.heap[b]?=w.heap[b]?:=λb G=>by rw[K,qcB,po (by omega)]
 have v:w'.heap[p.b]?=some x:=by rw[K,qcB,mc U]
 have F:=mY h p;refine⟨⟨?_,?_,?_,?_,?_,?_⟩,⟨by simp,?_,by simp[K],λb G _=>f b G,?_,T,W,X,R⟩,λid t hid u=>?_⟩
 rotate_right
 ·rcases aH hid with⟨s,hid⟩|⟨rfl,rfl⟩
  ·obtain⟨q,a,r⟩:=h.obj id t hid u;exact⟨q,F _ _ a,by rw[f _ (iu u r)];exact r⟩
  ·exact⟨p,bU _ _ _,by rw[v];exact E⟩
 ·intro id t hid u;rcases aH hid with⟨s,hid⟩|⟨rfl,rfl⟩
  ·obtain⟨q,a,r⟩:=h.obj id t hid u;refine⟨q,F _ _ a,?_⟩;rw[f _ (iu u r)];exact r.mono F
  ·exact⟨p,bU _ _ _,by rw[v];exact V⟩
 ·intro i j Y Z pi pj s L B D A n l;rcases aH s with⟨y,k⟩|⟨rfl,rfl⟩
  ·rw[ej _ _ (by omega)]at n;rcases aH L with⟨I,z⟩|⟨rfl,rfl⟩
   ·rw[ej _ _ (by omega)]at l;exact h.inj i j Y Z pi pj k z B D A n l
   ·rw[bU]at l;obtain rfl:=AD l;have:=h.lt k (bJ B) n;omega
  ·rw[bU]at n;obtain rfl:=AD n;rcases aH L with⟨I,z⟩|⟨rfl,rfl⟩
   ·rw[ej _ _ (by omega)]at l;have:=h.lt z D l;omega
   ·exact absurd rfl A
 ·intro i t q s d a;rcases aH s with⟨y,k⟩|⟨rfl,rfl⟩
  ·rw[ej _ _ (by omega)]at a;exact h.own i t q k d a
  ·rw[bU]at a;obtain rfl:=AD a;omega
 ·intro i t q s u d a;rcases aH s with⟨y,k⟩|⟨rfl,rfl⟩
  ·rw[ej _ _ (by omega)]at a;exact h.ro i t q k u d a
  ·rw[J u]at d;cases d
 ·intro id hid;simp at hid;rw[ej _ _ (by omega)];exact h.dom id (by omega)
 ·intro g vs S;obtain⟨N,O,c,e,M,P,Q⟩:=h.glob g vs S;exact⟨N,O,c,e,M,by rw[f _ (by omega)];exact P,Q.mono F⟩
 ·intro id hid;rw[ej _ _ (by omega)]
 ·rintro b ⟨id,t,q,hid,d,a,rfl⟩;rcases aH hid with⟨y,s⟩|⟨rfl,rfl⟩
  ·rw[ej _ _ (by omega)]at a;exact .inr ⟨id,t,q,s,d,a,rfl⟩
  ·rw[bU]at a;obtain rfl:=AD a;exact .inl (by omega)
def get_set{α:Type}{l:List α}{x y:α}{i j:Nat}(h:(l.set i x)[j]?=some y):(j≠i/\l[j]?=some y)∨(j=i/\i<l.length/\y=x):=by
 rw[DX]at h;by_cases a:i=j
 ·subst a;simp only[if_true]at h;split at h
  next b=>exact .inr ⟨rfl,b,by simpa using h.symm⟩
  ·cases h
 ·rw[po a]at h;exact .inl ⟨λe=>a e.symm,h⟩
def WR.set{C:Cfg}{s:Nat}{mu:kl}{H:Tp}{w w':World}(h:WR C s mu H w){id:Nat}{o:HObj}{p:Pl}(hid:H[id]?=some o)(D:o.owned=true)
  (G:mu id=some p) {x:Obj} (V:w'.heap=w.heap.setIfInBounds p.b x) (R:w'.os=w.os) (ht:w'.tape=w.tape) (hu:w'.output=w.output)
  (E:HObj) (Q:E.alive=true->E.owned=true) (hr:objR mu p (some x) E) (hd:w.drawn<=w'.drawn:=by exact zY _) :
  WR C s mu (H.set id E) w'/\Evo H mu w (H.set id E) mu w':=by
 have O:=h.lt hid (bJ D) G;have L:=h.own id o p hid D G;have A:w'.heap[p.b]?=some x:=by rw[V];simp[O]
 have n:∀b,b≠p.b->w'.heap[b]?=w.heap[b]?:=λb K=>by rw[V,qb9 (BO K)]
 have a:∀(j:Nat) l,(H.set id E)[j]?=some l->l.alive=true->∃f,H[j]?=some f/\f.alive=true/\(l.owned=true->f.owned=true):=by
  intro j l k u;rcases get_set k with⟨_,k⟩|⟨rfl,_,rfl⟩
  ·exact⟨l,k,u,λh=>h⟩
  ·exact⟨o,hid,bJ D,λ_=>D⟩
 refine⟨⟨?_,?_,?_,?_,?_,?_⟩,⟨by simp,λ_ _=>rfl,by simp[V],?_,?_,R,ht,hu,hd⟩⟩
 ·intro j l k u;rcases get_set k with⟨P,k⟩|⟨rfl,_,rfl⟩
  ·obtain⟨q,t,U⟩:=h.obj j l k u;refine⟨q,t,?_⟩;rw[n q.b λe=>h.inj id j o l p q hid k D u (BO P) G t e.symm];exact U
  ·exact⟨p,G,by rw[A];exact hr⟩
 ·intro i j I l pi pj v k d r N S T;obtain⟨B,y,_,m⟩:=a i I v (bJ d);obtain⟨f,z,J,_⟩:=a j l k r;exact h.inj i j B f pi pj y z (m d) J N S T
 ·intro i I q v d t;obtain⟨B,y,_,m⟩:=a i I v (bJ d);exact h.own i B q y (m d) t
 ·intro i I q v u d t;rcases get_set v with⟨_,M⟩|⟨rfl,_,rfl⟩
  ·exact h.ro i I q M u d t
  ·rw[Q u]at d;cases d
 ·intro i v;exact h.dom i (by simpa using v)
 ·intro g vs hg;obtain⟨X,Y,c,e,W,Z,h4⟩:=h.glob g vs hg;exact⟨X,Y,c,e,W,by rw[n _ (by omega)];exact Z,h4⟩
 ·intro b _ K;exact n b λe=>K ⟨id,o,p,hid,D,G,e.symm⟩
 ·rintro b ⟨j,l,q,k,r,t,rfl⟩;obtain⟨f,z,_,F⟩:=a j l k (bJ r);exact .inr ⟨j,f,q,z,F r,t,rfl⟩
def WR.move{C:Cfg}{D:Nat}{mu:kl}{H:Tp}{w w':World}(h:WR C D mu H w){id:Nat}{o:HObj}{p:Pl}(hid:H[id]?=some o)(M:o.owned=true)
  (O:mu id=some p) {x:Obj} (hw:w'.heap=w.heap.setIfInBounds p.b x) (N:w'.os=w.os) (Z:w'.tape=w.tape) (hu:w'.output=w.output)
  (F:HObj) (q:Pl) (P:q.b=p.b) (Q:objR mu q (some x) F) (W:F.alive=true->F.owned=true) (X:w.drawn<=w'.drawn:=by exact zY _) :
  WR C D (upd mu H.length q) (H.set id .dead++[F]) w'/\Evo H mu w (H.set id .dead++[F]) (upd mu H.length q) w'/\Vz mu (upd mu H.length q) (H.set id .dead++[F]) w':=by
 have hr:objR (upd mu H.length q) q (some x) F:=Q.mono (mY h q);obtain⟨G,S⟩:=h.set hid M O (x:=x) hw N Z hu .dead (λh=>by cases h) trivial X;have U:=h.lt hid (bJ M) O;have T:=h.own id o p hid M O;have d:(H.set id HObj.dead).length=H.length:=by simp
 have y:w'.heap[p.b]?=some x:=by rw[hw];simp[U]
 have R:∀i r,mu i=some r->upd mu H.length q i=some r:=mY h q;have Y:id<H.length:=by
  rcases Bi id H.length with J|J
  ·exact J
  ·rw[Bd J]at hid;cases hid
 have t:∀(j:Nat) n r,(H.set id HObj.dead)[j]?=some n->n.alive=true->mu j=some r->r.b≠p.b:=by
  intro j n r s z a e;rcases get_set s with⟨V,s⟩|⟨rfl,_,rfl⟩
  ·exact h.inj id j o n p r hid s M z (BO V) O a e.symm
  ·cases z
 refine⟨⟨?_,?_,?_,?_,?_,?_⟩,⟨by simp,?_,S.size,S.keep,?_,N,Z,hu,X⟩,λj n s z=>?_⟩
 rotate_right
 ·rcases aH s with⟨A,f⟩|⟨rfl,rfl⟩
  ·obtain⟨r,a,v⟩:=G.obj j n f z;exact⟨r,R _ _ a,v⟩
  ·rw[d];exact⟨q,bU _ _ _,by rw[P,y];exact Q⟩
 ·intro j n s z;rcases aH s with⟨A,f⟩|⟨rfl,rfl⟩
  ·obtain⟨r,a,v⟩:=G.obj j n f z;exact⟨r,R _ _ a,v.mono R⟩
  ·rw[d];exact⟨q,bU _ _ _,by rw[P,y];exact hr⟩
 ·intro i j I n pi pj E s k B L u m;rcases aH E with⟨K,l⟩|⟨rfl,rfl⟩
  ·rw[ej _ _ (by omega)]at u;rcases aH s with⟨A,f⟩|⟨rfl,rfl⟩
   ·rw[ej _ _ (by omega)]at m;exact G.inj i j I n pi pj l f k B L u m
   ·rw[d,bU]at m;obtain rfl:=AD m;rw[P];exact t i I pi l (bJ k) u
  ·rw[d,bU]at u;obtain rfl:=AD u;rcases aH s with⟨A,f⟩|⟨rfl,rfl⟩
   ·rw[ej _ _ (by omega)]at m;rw[P];exact BO (t j n pj f B m)
   ·exact absurd rfl L
 ·intro i I r E k a;rcases aH E with⟨K,l⟩|⟨rfl,rfl⟩
  ·rw[ej _ _ (by omega)]at a;exact G.own i I r l k a
  ·rw[d,bU]at a;obtain rfl:=AD a;omega
 ·intro i I r E z k a;rcases aH E with⟨K,l⟩|⟨rfl,rfl⟩
  ·rw[ej _ _ (by omega)]at a;exact G.ro i I r l z k a
  ·rw[W z]at k;cases k
 ·intro i E;simp at E;rw[ej _ _ (by omega)];exact h.dom i (by omega)
 ·intro g vs hg;obtain⟨J,h2,c,e,fr,h3,h4⟩:=G.glob g vs hg;exact⟨J,h2,c,e,fr,h3,h4.mono R⟩
 ·intro i E;rw[ej _ _ (by omega)]
 ·rintro b ⟨j,n,r,s,B,a,rfl⟩;rcases aH s with⟨A,f⟩|⟨rfl,rfl⟩
  ·rw[ej _ _ (by omega)]at a;exact S.steal _ ⟨j,n,r,f,B,a,rfl⟩
  ·rw[d,bU]at a;obtain rfl:=AD a;exact .inr ⟨id,o,p,hid,M,O,P.symm⟩
structure SR(C:Cfg)(base:Nat)(la:tf)(mu:kl)(σ:St)(tmps:Tj)(w:World):Prop where
 vals:VRs la mu σ.tmps tmps.toList
 ldom:∀s b,la s=some b->∃vs,σ.loc[s]?=some (some vs)
 loc:∀(s:Nat) vs,σ.loc[s]?=some (some vs)->∃b c e,la s=some b/\base<=b/\w.heap[b]?=some (.cells c e (0,0))/\vs.all bf=true/\VRs Az mu vs c.toList/\¬Own mu σ.heap b
 linj:∀s s' b,la s=some b->la s'=some b->s=s'
 wr:WR C base mu σ.heap w
def SR.evo{C:Cfg}{a:Nat}{la:tf}{mu f:kl}{σ:St}{d:Tj}{w w':World}{H':Tp}(h:SR C a la mu σ d w)
  (t:WR C a f H' w') (i:Evo σ.heap mu w H' f w'):SR C a la f { σ with heap:=H' } d w':=by
 have k:=i.mono h.wr;refine⟨h.vals.mono (λ_ _ h=>h) k,h.ldom,?_,h.linj,t⟩;intro s u r;obtain⟨b,c,e,l,m,g,n,o,j⟩:=h.loc s u r;have p:b<w.heap.size:=by
  rcases Bi b w.heap.size with h|h
  ·exact h
  ·rw[Rr h]at g;cases g
 exact⟨b,c,e,l,m,by have:=i.keep b p j;rw[this];exact g,n,o.mono (λ_ _ h=>h) k,λq=>(i.steal b q).elim (λv=>by omega) j⟩
def SR.put{C:Cfg}{b:Nat}{la:tf}{mu:kl}{σ:St}{a:Tj}{w:World}(h:SR C b la mu σ a w)(dst:Tn){v v':Value}(c:VR la mu v v') :
  SR C b la mu (σ.put dst v) (match dst with|some d=>a.setIfInBounds d v'|none=>a) w:=by
 cases dst with
 |none=>exact h
 |some d=>
  refine⟨?_,h.ldom,h.loc,h.linj,h.wr⟩;have:=h.vals.set d c;simpa[St.put]using this
end
section
variable [Val] [Glo]
def fp{P:TD}{t:TJ}{d:TypeDesc}(h:P.underlying t=some d):∃i,P.info? t=some i:=by
 unfold Program.underlying at h;cases a:P.info? t with
 |none=>rw[a]at h;cases h
 |some i=>exact⟨i,rfl⟩
def fw{P:TD}{t:TJ}(h:P.cellsOf t≠0):∃i,P.info? t=some i:=by
 unfold Program.cellsOf at h;cases a:P.info? t with
 |none=>rw[a]at h;simp at h
 |some i=>exact⟨i,rfl⟩
def bH{P:TD}{t:TJ}{i:TypeInfo}(h:P.info? t=some i)(w:World):(sizeOf t).run P w = .ok (P.cellsOf t) w:=by
 simp[sizeOf,typeInfo,h,Program.cellsOf]
def qe:TypeDesc->Bool
 | .struct _=>true
 | .array _ _=>true
 |_=>false
def uG{P:TD}{t:TJ}{d:TypeDesc}(h:P.underlying t=some d)(w:World):(isAgg t).run P w = .ok (qe d) w:=by
 cases d<;>simp[isAgg,run_underlying h,qe]
def bW{b o n:Nat}:(⟨b,o,none⟩ : Addr).add n=⟨b,o+n,none⟩:=by
 unfold Addr.add;split<;>simp_all
def aK{C:Cfg}{c:Nat}{la:tf}{mu:kl}{σ:St}{a:Act}{w:World}(h:SR C c la mu σ a.tmps w)(x:TG):VR la mu (ke σ.tmps x) (a.eval x):=by
 cases x with
 |tmp t=>
  simp only[ke,Act.eval];have e:σ.tmps.length=a.tmps.size:=by simpa using h.vals.1
  rcases Bi t σ.tmps.length with b|b
  ·have d:t<a.tmps.size:=by rw[←e];exact b
   have:=h.vals.2 t σ.tmps[t] a.tmps[t] (by simp[b]) (by simp[d]);simpa[List.getD,Array.getD,b,d]using this
  ·have d:a.tmps.size<=t:=by rw[←e];exact b
   simp only[List.getD,Bd b,qdk];rw[show a.tmps.getD t undef=undef by simp[Array.getD,Nat.not_lt.2 d]];exact .undef
 |const v=>
  simp only[ke,Act.eval];split
  next h=>exact .of_flat h
  ·exact .poison _
 |global g=>
  simp only[ke,Act.eval];split
  next h=>
   have:VR la mu (.pointer (some ⟨g,0,some 1⟩)) (.pointer (some ⟨BG g,Cq g+0,none⟩)):=.gptr
   rwa [Fo h,Fp h]at this
  ·exact .poison _
 |func f=>exact .func (by simp) rfl rfl (λi x y h=>by simp at h) (λi x y h=>by simp at h)
def rz{C:Cfg}{b:Nat}{la:tf}{mu:kl}{σ:St}{a:Act}{w:World}(h:SR C b la mu σ a.tmps w)(xs:Array Operand) :
  VRs la mu (xs.toList.map (ke σ.tmps)) (xs.map a.eval).toList:=by
 rw[Iq];exact VRs.map _ λx _=>aK h x
def Hl{C:Cfg}{b:Nat}{la:tf}{mu:kl}{σ:St}{a:Act}{w:World}(h:SR C b la mu σ a.tmps w){x:TG}(c:flat (ke σ.tmps x)=true) :
  a.eval x=ke σ.tmps x:=rH c (aK h x)
def uU(P:TD)(la:tf)(mu:kl)(s:Sem Next)(w:World)(v:Value):Prop:=∃v',s.run P w = .ok (.value v') w/\VR la mu v v'
def gz{P:TD}{la:tf}{mu:kl}{s:Sem Value}{w:World}{v v':Value}(h:s.run P w = .ok v' w)(a:VR la mu v v') :
  uU P la mu (do pure (.value (←s))) w v:=⟨v',by simp[h],a⟩
def zk{C:Cfg}{f:Nat}{la:tf}{mu:kl}{σ:St}{a:Act}{w:World}(h:SR C f la mu σ a.tmps w){o:Oper}{e:Eff}
  (m:∀cs b,o.op≠.select cs b) (c:cH C (ke σ.tmps) o=some e):∃v,e = .val v/\uU C.P la mu (execOp a.eval o) w v:=by
 unfold cH at c;split at c
 next l=>
  have k:execOp a.eval o=execOp (ke σ.tmps) o:=execOp_congr o m λx i=>Hl h (all_get' l i);split at c
  next v n=>
   split at c
   next g=>
    cases c;exact⟨v,rfl,v,by rw[k];exact gm n w,.of_flat g⟩
   ·cases c
  ·cases c
 ·cases c where
 all_get' {d:Tk} {j:Array Operand} (h:j.toList.all (λx=>flat (ke d x))=true) {x:TG} (i:x∈j):flat (ke d x)=true:=
  qab.1 h x (by simpa using i)
def Gw{v:Value}(h:iU v=true):∃cs k,v = .tuple #[.agg cs]/\sQ cs=some k:=by
 unfold iU at h;split at h
 next b=>
  split at h
  next cs e=>
   obtain⟨k,a⟩:=qbr.1 h;refine⟨cs,k,?_,a⟩
   congr 1
   exact qbk.1 (by simpa using e)
  ·cases h
 ·cases h
def uA{la:tf}{mu:kl}{v c:Value}(hp:jb v=true)(h:VR la mu v c):c=CE v:=by
 simp only[jb,Ck]at hp;rcases hp with hp|hp
 ·rw[cI hp h];unfold Am.scalar at hp;split at hp<;>first|rfl|cases hp
 ·obtain⟨d,k,rfl,e⟩:=Gw hp;cases h with
  |scalar h=>simp[Am.scalar]at h
  |tuple b _ _=>simp at b
  |sym a=>simp[CE,a]
def qy{la:tf}{mu:kl}{v:Value}(hp:jb v=true):VR la mu v (CE v):=by
 simp only[jb,Ck]at hp;rcases hp with hp|hp
 ·have:CE v=v:=by
   unfold Am.scalar at hp;split at hp<;>first|rfl|cases hp
  rw[this];exact .scalar hp
 ·obtain⟨b,k,rfl,a⟩:=Gw hp;simp only[CE,a];exact .sym a
def xQ{la:tf}{mu:kl}{v c:Value}(e:plain v=true)(h:VR la mu v c):c=Cf v:=by
 cases v with
 |agg a=>
  obtain⟨g,rfl,b,h⟩:=h.unagg;simp only[Cf]
  congr 1
  apply Array.ext (by simpa using b.symm);intro i j k;have d:i<a.size:=by simpa using k
  have:=uA (cR (f:=jb) (i:=i) (x:=a[i]) e (by simp[d])) (h i a[i] g[i] (by simp[d]) (by simp[j]));simpa using this
 |_=>exact uA e h
def uC{la:tf}{mu:kl}{v:Value}(b:plain v=true):VR la mu v (Cf v):=by
 cases v with
 |agg e=>
  simp only[Cf];refine .agg (by simp) λi x y c d=>?_;have a:=cR (f:=jb) (i:=i) (x:=x) b (by simpa using c);rw[Array.getElem?_map,c]at d;cases d;exact qy a
 |_=>exact qy b
def Ih{C:Cfg}{c:Nat}{la:tf}{mu:kl}{σ:St}{a:Act}{w:World}(h:SR C c la mu σ a.tmps w){o:Oper}{v:Value}
  (k:ku C σ.tmps o v):uU C.P la mu (execOp a.eval o) w v:=by
 obtain⟨d,f,g,i⟩:=k;have j:execOp a.eval o=execOp (λx=>Cf (ke σ.tmps x)) o:=execOp_congr o (λm b e=>by rw[e]at d;cases d) λx l=>
  xQ (qab.1 f x (by simpa using l)) (aK h x)
 exact⟨Cf v,by rw[j];exact i w,uC g⟩
section
variable {C:Cfg} {la:tf} {mu:kl} {w:World}
def VR.bool{b:Bool}{c:Value}(h:VR la mu (.bool b) c):c = .bool b:=cI rfl h
def VR.int{k:TF}{n:Int}{c:Value}(h:VR la mu (.int k n) c):c = .int k n:=cI rfl h
def jL{v c:Value}{n:Int}(a:intOf v=some n)(h:VR la mu v c):∃k,c = .int k n:=by
 cases v<;>simp[intOf]at a;subst a;exact⟨_,h.int⟩
def xI{t:TJ}{cs ds:Tj}{off:Nat}{v:Value}(c:vS C t cs off=some v)(h:VRs la mu cs.toList ds.toList) :
  ∃v',(part t ds off).run C.P w = .ok v' w/\VR la mu v v':=by
 unfold vS at c;cases g:C.P.underlying t with
 |none=>rw[g]at c;cases c
 |some d=>
  obtain⟨i,o⟩:=fp g;have e:=uG g w;have k:=bH o w;rw[g]at c;have j:cs.size=ds.size:=by simpa using h.1
  have f:qe d=true->some (Value.agg (cs.extract off (off+C.P.cellsOf t)))=some v->
    ∃v',(part t ds off).run C.P w = .ok v' w/\VR la mu v v':=by
   intro a l;cases l;refine⟨.agg (ds.extract off (off+C.P.cellsOf t)),by simp[part,e,a,k],VRs.agg ?_⟩;simp only[qcu,List.extract];exact(h.drop _).take _
  have b:qe d=false->cs[off]?=some v->
    ∃v',(part t ds off).run C.P w = .ok v' w/\VR la mu v v':=by
   intro a l;obtain⟨v',m,n⟩:=h.get (i:=off) (by simpa using l);exact⟨v',by simp[part,e,a,(by simpa using m:ds[off]?=some v')],n⟩
  cases d<;>first|exact f rfl c|exact b rfl c
def Hf{t:TJ}{x y v:Value}{f:Nat}(a:tM C t x f=some v)(h:VR la mu x y):∃v',(Instr.field t y f).run C.P w = .ok v' w/\VR la mu v v':=by
 unfold tM at a;split at a
 next d j i=>
  obtain⟨k,rfl,b⟩:=h.unagg;cases c:d[f]? with
  |none=>rw[c]at a;cases a
  |some l=>
   rw[c]at a;obtain⟨v',e,g⟩:=xI (w:=w) a b;exact⟨v',by simp[Instr.field,run_underlying i,c,asAgg,e],g⟩
 ·cases a
def Ht{t:TJ}{x y i j v:Value}(c:lP C t x i=some v)(h:VR la mu x y)(o:VR la mu i j):∃v',(Instr.index t y j).run C.P w = .ok v' w/\VR la mu v v':=by
 unfold lP at c;split at c
 ·cases c
 next n A=>
  obtain⟨k,rfl⟩:=jL A o;split at c
  next D e E p=>
   obtain⟨F,rfl,g⟩:=h.unagg;split at c
   next f=>
    have l:∃i,C.P.info? e=some i:=by
     unfold vS at c;cases q:C.P.underlying e with
     |none=>rw[q]at c;cases c
     |some d=>exact fp q
    obtain⟨i,z⟩:=l;obtain⟨v',r,u⟩:=xI (w:=w) c g;exact⟨v',by simp[Instr.index,asIntOf,run_underlying p,f.1,f.2,bH z,r],u⟩
   ·cases c
  next s p=>
   have B:=cI (a:=.string s) rfl h;subst B;split at c
   next f=>
    cases m:s[n.toNat]? with
    |none=>rw[m]at c;cases c
    |some b=>
     rw[m]at c;cases c;exact⟨_,by simp[Instr.index,asIntOf,run_underlying p,f,m],.scalar rfl⟩
   ·cases c
  ·cases c
def VR.ptr_add{a:Addr}{c:Value}(h:VR la mu (.pointer (some a)) c)(n:Nat):∃d:Addr,c = .pointer (some d)/\d.spot=none/\VR la mu (.pointer (some { a with off:=a.off+n })) (.pointer (some (d.add n))):=by
 cases h with
 |scalar h=>simp[Am.scalar]at h
 |lptr h=>exact⟨_,rfl,rfl,by rw[bW];exact .lptr h⟩
 |hptr h=>exact⟨_,rfl,rfl,by rw[bW,EK];exact .hptr h⟩
 |gptr=>exact⟨_,rfl,rfl,by rw[bW,EK];exact .gptr⟩
def rB{t:TJ}{x y v:Value}{f:Nat}(b:fK C t x f=some v)(h:VR la mu x y):∃v',(Instr.fieldAt t y f).run C.P w = .ok v' w/\VR la mu v v':=by
 unfold fK at b;split at b
 next n a l=>
  split at b
  next c g=>
   split at b
   ·cases b
   next e=>
    cases b;obtain⟨i,j⟩:=fw e;obtain⟨d,rfl,k,m⟩:=h.ptr_add c.offset;refine⟨.pointer (some (d.add c.offset)),?_,m⟩;simp[Instr.fieldAt,run_underlying l,g,Instr.sureAddr,fieldPlace,bH j,e]
  ·cases b
 ·cases b
def rP{t:TJ}{x y i j v:Value}(c:eP C t x i=some v)(h:VR la mu x y)(s:VR la mu i j):∃v',(Instr.indexAt t y j).run C.P w = .ok v' w/\VR la mu v v':=by
 unfold eP at c;split at c
 ·cases c
 next n D=>
  obtain⟨k,rfl⟩:=jL D s;split at c
  next A e a q=>
   split at c
   ·cases c
   next z=>
    obtain⟨i,m⟩:=fw z;split at c
    next f=>
     cases c;obtain⟨d,rfl,E,F⟩:=h.ptr_add (n.toNat*C.P.cellsOf e);exact⟨_,by simp[Instr.indexAt,asIntOf,run_underlying q,Instr.sureAddr,f.1,f.2,bH m],F⟩
    ·cases c
  next e a A G q=>
   split at c
   ·cases c
   next z=>
    obtain⟨i,m⟩:=fw z;split at c
    next f=>
     cases c;cases h with
     |scalar h=>simp[Am.scalar]at h
     |hslice h H B u=>
      rename_i id l r p
      refine⟨.pointer (some ⟨p.b,p.o+(l+n.toNat*C.P.cellsOf e),none⟩),?_,by rw[po (by simp[pu])];exact .hptr h⟩;simp[Instr.indexAt,asIntOf,run_underlying q,f.1,f.2,bH m,bW,EK]
     |hslice0 u=>simp at f;omega
     |gslice B u=>
      rename_i g l r
      refine⟨.pointer (some ⟨BG g,Cq g+(l+n.toNat*C.P.cellsOf e),none⟩),?_,by rw[mc rfl];exact .gptr⟩;simp[Instr.indexAt,asIntOf,run_underlying q,f.1,f.2,bH m,bW,EK]
     |gslice0 u=>simp at f;omega
    ·cases c
  ·cases c
end
end
section
variable [Val] [Glo]
section
variable {C:Cfg} {la:tf} {mu:kl} {w:World}
def ORel(la:tf)(mu:kl):Ti->Ti->Prop
 |none,none=>True
 |some a,some b=>VR la mu a b
 |_,_=>False
abbrev _root_.Tg:=Option Operand
def ORel.map{f g:Tf}(x:Tg)(h:∀x,VR la mu (f x) (g x)):ORel la mu (x.map f) (x.map g):=by
 cases x with
 |none=>trivial
 |some x=>exact h x
def dQ{x y:Ti}{r:Option Int}(a:gN x=some r)(h:ORel la mu x y) :
  (r=none/\y=none)∨(∃k n,r=some n/\y=some (.int k n)):=by
 cases x with
 |none=>
  cases y with
  |none=>simp[gN]at a;exact .inl ⟨a.symm,rfl⟩
  |some _=>exact h.elim
 |some x=>
  cases y with
  |none=>exact h.elim
  |some y=>
   cases x<;>simp[gN]at a
   rename_i k n
   have:=VR.int h;exact .inr ⟨k,n,a.symm,by rw[this]⟩
def cg{k:TF}{n:Int}{y:Nat}{code:BoundsCode}(h0:0<=n)(h1:n<=y)(w:World):(Instr.sliceBound (.int k n) y code).run C.P w = .ok n.toNat w:=by
 simp[Instr.sliceBound,asIntOf,h0,h1]
def zx{q i j:Option Int}{f d g:Ti}{a:Bool}{len cap:Nat}
  (e:(q=none/\f=none)∨(∃k n,q=some n/\f=some (.int k n))) (p:(i=none/\d=none)∨(∃k n,i=some n/\d=some (.int k n)))
  (v:(j=none/\g=none)∨(∃k n,j=some n/\g=some (.int k n)))
  (h0:0<=q.getD 0) (h1:q.getD 0<=i.getD len) (b:i.getD len<=j.getD cap) (c:j.getD cap<=cap) (z:j.isNone∨i.isSome) (w:World) :
  (Instr.sliceBounds a len cap f d g).run C.P w = .ok ((q.getD 0).toNat,(i.getD len).toNat,(j.getD cap).toNat) w:=by
 rcases v with⟨rfl,rfl⟩|⟨x,m,rfl,rfl⟩
 ·rcases p with⟨rfl,rfl⟩|⟨r,h,rfl,rfl⟩
  ·rcases e with⟨rfl,rfl⟩|⟨s,l,rfl,rfl⟩
   ·simp[Instr.sliceBounds]
   ·simp at h0 h1 b c;simp[Instr.sliceBounds,cg h0 h1]
  ·rcases e with⟨rfl,rfl⟩|⟨s,l,rfl,rfl⟩
   ·simp at h0 h1 b c;simp[Instr.sliceBounds,cg h1 b]
   ·simp at h0 h1 b c;have o:=cg (C:=C) (k:=r) (code:=if a then .sliceAcap else .sliceAlen) (by omega) b w;have u:=cg (C:=C) (k:=s) (y:=h.toNat) (code:=.sliceB) h0 (by omega) w;simp[Instr.sliceBounds,o,u]
 ·rcases p with⟨rfl,rfl⟩|⟨r,h,rfl,rfl⟩
  ·simp at z
  ·rcases e with⟨rfl,rfl⟩|⟨s,l,rfl,rfl⟩
   ·simp at h0 h1 b c;have t:=cg (C:=C) (k:=x) (code:=if a then .slice3Acap else .slice3Alen) (by omega) c w;have o:=cg (C:=C) (k:=r) (y:=m.toNat) (code:=.slice3B) (by omega) (by omega) w;simp[Instr.sliceBounds,t,o]
   ·simp at h0 h1 b c;have t:=cg (C:=C) (k:=x) (code:=if a then .slice3Acap else .slice3Alen) (by omega) c w;have o:=cg (C:=C) (k:=r) (n:=h) (y:=m.toNat) (code:=.slice3B) (by omega) (by omega) w;have u:=cg (C:=C) (k:=s) (y:=h.toNat) (code:=.slice3C) h0 (by omega) w;simp[Instr.sliceBounds,t,o,u]
def pG{t b:TJ}{a:Addr}{len cap l h m:Nat}{e d f:Ti}{i:TypeInfo}(j:C.P.underlying t=some (.slice b))(c:C.P.info? b=some i)
  (g:(Instr.sliceBounds true len cap e d f).run C.P w = .ok (l,h,m) w) :
  (Instr.sliceAt t (.slice (some a) len cap) e d f).run C.P w = .ok (.slice (if m=l then some a else some (a.add (l*C.P.cellsOf b))) (h - l) (m - l)) w:=by
 simp only[Instr.sliceAt,Instr.slice,Sem.run_bind,run_underlying j,Result.andThen_ok];simp[g,bH c]
def Ib{t:TJ}{x y v:Value}{Z L mx D B E:Ti}(j:yd C t x Z L mx=some v)(h:VR la mu x y)
  (U:ORel la mu Z D) (Q:ORel la mu L B) (V:ORel la mu mx E):∃v',(Instr.sliceAt t y D B E).run C.P w = .ok v' w/\VR la mu v v':=by
 unfold yd at j;split at j
 next X H c q F e3=>
  have r1:=dQ q U;have r2:=dQ F Q;have r3:=dQ e3 V;split at j
  next s a len Y hu=>
   split at j
   ·cases j
   next hz=>
    obtain⟨i,L⟩:=fw hz;split at j
    ·cases j
    next I=>
     split at j
     next O=>
      obtain⟨S,T,k⟩:=O;cases j;generalize R:X.getD 0=l at *;generalize G:H.getD (len:Int)=hv at *;have K:∀(d:Addr) (cap:Nat),len<=cap->(Y=0∨Y=cap+1)->
        (Instr.sliceAt t (.slice (some d) len cap) D B E).run C.P w =
         .ok (.slice (if (c.getD (cap:Int)).toNat=l.toNat then some d else some (d.add (l.toNat*C.P.cellsOf s))) (hv.toNat - l.toNat) ((c.getD (cap:Int)).toNat - l.toNat)) w/\
        hv<=c.getD (cap:Int)/\c.getD (cap:Int)<=cap:=by
       intro d cap r af;have N:hv<=c.getD (cap:Int)/\c.getD (cap:Int)<=cap:=by
        cases c with
        |none=>simp only[cV,G]at k;simp;omega
        |some m=>simp only[cV,G]at k;simp;omega
       have b3:c.isNone∨H.isSome:=by
        cases c with
        |none=>exact .inl rfl
        |some m=>exact .inr k.1
       refine⟨pG hu L ?_,N⟩;rw[zx (len:=len) (cap:=cap) r1 r2 r3 (by rw[R];exact S) (by rw[R,G];exact T) (by rw[G];exact N.1) N.2 b3 w,R,G]
      cases h with
      |scalar h=>simp[Am.scalar]at h
      |hslice h hr r J=>
       rename_i id f cap p
       obtain⟨e,z,A⟩:=K ⟨p.b,p.o+f,none⟩ cap r J;refine⟨_,e,?_⟩;have W:C.P.cellsOf s=p.esz:=by simp[pu]at I;exact I.symm
       rw[W];split
       next n=>
        have q:hv.toNat - l.toNat=0:=by omega
        have F:(c.getD (cap:Int)).toNat - l.toNat=0:=by omega
        rw[q,F];refine .hslice0 ?_;cases c with
        |none=>simp[bT]at n ⊢;omega
        |some m=>simp[bT]at n ⊢;omega
       next n=>
        rw[bW,EK];refine .hslice h ?_ (by omega) ?_
        ·have:(l.toNat+((c.getD (cap:Int)).toNat - l.toNat))*p.esz<=cap*p.esz:=LB _ (by omega);rw[C3]at this;show f+l.toNat*p.esz+_<=p.room;omega
        ·cases c with
         |none=>simp[bT]at n ⊢;omega
         |some m=>simp[bT]at n ⊢
      |hslice0 J=>
       rename_i id f ad M
       obtain⟨e,z,A⟩:=K M 0 (by omega) (by omega);refine⟨_,e,?_⟩;have u:(c.getD ((0:Nat):Int)).toNat=l.toNat:=by omega
       have q:hv.toNat - l.toNat=0:=by omega
       rw[mc u,q,u,F8];refine .hslice0 ?_;cases c with
       |none=>simp[bT];omega
       |some m=>simp[bT]at u ⊢;omega
      |gslice r J=>
       rename_i g f cap
       obtain⟨e,z,A⟩:=K ⟨BG g,Cq g+f,none⟩ cap r J;refine⟨_,e,?_⟩;split
       next n=>
        have q:hv.toNat - l.toNat=0:=by omega
        have F:(c.getD (cap:Int)).toNat - l.toNat=0:=by omega
        rw[q,F];refine .gslice0 ?_;cases c with
        |none=>simp[bT]at n ⊢;omega
        |some m=>simp[bT]at n ⊢;omega
       next n=>
        rw[bW,EK];refine .gslice (by omega) ?_;cases c with
        |none=>simp[bT]at n ⊢;omega
        |some m=>simp[bT]at n ⊢
      |gslice0 J=>
       rename_i g f M
       obtain⟨e,z,A⟩:=K M 0 (by omega) (by omega);refine⟨_,e,?_⟩;have u:(c.getD ((0:Nat):Int)).toNat=l.toNat:=by omega
       have q:hv.toNat - l.toNat=0:=by omega
       rw[mc u,q,u,F8];refine .gslice0 ?_;cases c with
       |none=>simp[bT];omega
       |some m=>simp[bT]at u ⊢;omega
     ·cases j
  ·cases j
 ·cases j
def Hq{vs cs:Tk}(off:Nat):∀(xs ys:Tk) (k:Nat),VRs la mu vs cs->VRs la mu xs ys->
  VRs la mu ((xs.zipIdx k).foldl (λ(a:Tj) (c,j)=>a.setIfInBounds (off+j) c) vs.toArray).toList
   ((ys.zipIdx k).foldl (λ(a:Tj) (c,j)=>a.setIfInBounds (off+j) c) cs.toArray).toList:=by
 intro xs
 induction xs generalizing vs cs with
 |nil=>
  intro ys k h b;obtain rfl:=b.unnil;simpa using h
 |cons x xs i=>
  intro ys k h b;obtain⟨y,ys,rfl,f,g⟩:=b.uncons;simp only[List.zipIdx_cons,Is];have d:vs.toArray.setIfInBounds (off+k) x=(vs.set (off+k) x).toArray:=by simp
  have e:cs.toArray.setIfInBounds (off+k) y=(cs.set (off+k) y).toArray:=by simp
  rw[d,e];exact i ys (k+1) (h.set _ f) g
def Fi(pl:Nat->Option (Nat×Nat)):∀(m a:List (Nat×Value)) (vs cs r:Tj),VRs la mu vs.toList cs.toList->
  (m.length=a.length/\∀(i:Nat) p q,m[i]?=some p->a[i]?=some q->p.1=q.1/\aw p.2=false/\VR la mu p.2 q.2)->
  Instr.fill pl vs m=some r->∃B,Instr.fill pl cs a=some B/\VRs la mu r.toList B.toList:=by
 intro m
 induction m with
 |nil=>
  intro a vs cs r h l b;have:a=[]:=by have:=l.1;cases a<;>simp_all
  subst this;simp[Instr.fill]at b;subst b;exact⟨cs,by simp[Instr.fill],h⟩
 |cons p m H=>
  intro a vs cs r h l b;cases a with
  |nil=>have:=l.1;simp at this
  |cons q a=>
   obtain⟨E,n⟩:=l;obtain⟨e,z,A⟩:=n 0 p q rfl rfl;obtain⟨i,x⟩:=p;obtain⟨j,y⟩:=q;simp only at e z A;subst e;have v:=A.cells z;have o:x.cells.size=y.cells.size:=by simpa using v.1
   have s:vs.size=cs.size:=by simpa using h.1
   unfold Instr.fill at b ⊢;split at b
   ·cases b
   next g D F=>
    split at b
    ·cases b
    next f=>
     rw[po (by rw[←o,←s];exact f)];refine H a _ _ r ?_ ⟨by simpa using E,λk p q l G=>n (k+1) p q (by simpa using l) (by simpa using G)⟩ b;have conv:∀(u t:Tj),(u.zipIdx.foldl (λ(d:Tj) (c,j)=>d.setIfInBounds (g+j) c) t)=u.toList.zipIdx.foldl (λ(d:Tj) (c,j)=>d.setIfInBounds (g+j) c) t:=by
      intro u t;rw[←qcZ,qdq]
     rw[conv,conv];have:=Hq (la:=la) (mu:=mu) g x.cells.toList y.cells.toList 0 h v;simpa using this
def mZ{i:TypeInfo}{z:Value}(h:kE i=some z):i.zero=some z/\z.cells.size=i.size/\flat z=true/\aw z=false:=by
 unfold kE at h;split at h
 next c b=>
  split at h
  next a=>cases h;exact⟨b,a⟩
  ·cases h
 ·cases h
def jx{P:TD}{t:TJ}{z:Value}(h:ey P t=some z):∃i,P.info? t=some i/\i.zero=some z/\z.cells.size=i.size/\flat z=true/\aw z=false:=by
 unfold ey at h;cases a:P.info? t with
 |none=>rw[a]at h;cases h
 |some i=>rw[a,AP]at h;exact⟨i,rfl,mZ h⟩
def pv{P:TD}{t:TJ}{z:Value}(h:ey P t=some z):z.cells.size=P.cellsOf t/\flat z=true/\aw z=false:=by
 obtain⟨i,a,_,b,c⟩:=jx h;exact⟨by rw[b];simp[Program.cellsOf,a],c⟩
def RP(la:tf)(mu:kl)(a b:List (Nat×Value)):Prop:=a.length=b.length/\∀(i:Nat) p q,a[i]?=some p->b[i]?=some q->p.1=q.1/\aw p.2=false/\VR la mu p.2 q.2
def iC(P:TD)(w:World):∀(a:List Field),(∀f∈a,(P.info? f.type).isSome=true)->
  (a.mapM λf=>(do pure (f.offset,←sizeOf f.type):Sem (Nat×Nat))).run P w = .ok (a.map λf=>(f.offset,P.cellsOf f.type)) w
 | [],_=>by simp
 |f :: a,h=>by
  obtain⟨i,c⟩:=qbr.1 (h f (by simp));have d:=iC P w a λg b=>h g (by simp[b]);simp only[Lx,Sem.run_bind,bH c,Result.andThen_ok,Sem.run_pure,d,AL]
def GM{t:TJ}{m:List (Nat×Value)}{A:Array (Nat×Value)}{v:Value}(d:tq C t m=some v)(G:RP la mu m A.toList) :
  ∃v',(Instr.build t A).run C.P w = .ok v' w/\VR la mu v v':=by
 unfold tq at d;split at d
 next z pl c a=>
  cases h:Instr.fill pl z.cells m with
  |none=>rw[h]at d;cases d
  |some r=>
   rw[h]at d;cases d;have u:VRs la mu z.cells.toList z.cells.toList:=by
    refine⟨rfl,λi x y g B=>?_⟩;obtain rfl:x=y:=by rw[g]at B;exact AD B
    have:=(pv c).2.1;cases z with
    |agg o=>exact .scalar (cR (f:=Am.scalar) this g)
    |tuple o=>
     have E:(Value.tuple o).cells.toList=[.tuple o]:=rfl;rw[E]at g;cases i with
     |zero=>simp at g;subst g;exact .of_flat this
     |succ i=>simp at g
    |_=>
     cases i with
     |zero=>simp[Value.cells]at g;subst g;exact .of_flat this
     |succ i=>simp[Value.cells]at g
   obtain⟨H,l,D⟩:=Fi pl m A.toList z.cells z.cells r u G h;refine⟨.agg H,?_,D.agg⟩;have k:(zeroValue t).run C.P w = .ok z w:=by
    obtain⟨i,q,l,_⟩:=jx c;simp[zeroValue,typeInfo,q,l]
   unfold mV at a;split at a
   next p s=>
    split at a
    next b=>
     cases a;have F:=iC C.P w p.toList (λf d=>by
      have:=Array.all_eq_true_iff_forall_mem.1 b f (by simpa using d);simpa using this)
     have j:(λ(i:Nat)=>(((p.toList.map λ(f:Field)=>(f.offset,C.P.cellsOf f.type)).toArray)[i]?:Option (Nat×Nat)))=λ(i:Nat)=>(p[i]?).map λ(f:Field)=>(f.offset,C.P.cellsOf f.type):=by
      funext i;simp
     simp only[Instr.build,Sem.run_bind,k,Result.andThen_ok,run_underlying s,qdE,Sem.run_map,F];rw[j,l];rfl
    ·cases a
   next n e s=>
    split at a
    next b=>
     cases a;obtain⟨i,q⟩:=qbr.1 b;simp only[Instr.build,Sem.run_bind,k,Result.andThen_ok,run_underlying s,bH q];rw[l];rfl
    ·cases a
   ·cases a
 ·cases d
end
end
section
variable [Val] [Glo]
section
variable {C:Cfg} {la:tf} {mu:kl} {w:World}
def cw.of_list{vs:Tk}{c:Tj}(h:VRs Az mu vs c.toList):cw mu vs c 0:=by
 intro i v d;obtain⟨e,a,b⟩:=h.get d;exact⟨e,by simpa using a,b⟩
def cw.cut{vs xs:Tk}{c:Tj}{o off n:Nat}(h:cw mu vs c o)(e:cut vs off n=some xs) :
  ∃ys:List Value,ys.length=n/\VRs Az mu xs ys/\∀(j:Nat) y,ys[j]?=some y->c[o+off+j]?=some y:=by
 unfold Am.cut at e;split at e
 next m=>
  cases e;refine⟨(List.range n).map λj=>c.getD (o+off+j) undef,by simp,⟨by simp;omega,?_⟩,?_⟩
  ·intro i x y d a;have f:i<n:=by
    rcases Bi i n with h|h
    ·exact h
    ·rw[Bd (by simp;omega)]at a;cases a
   rw[Iw,mc f,HY]at d;obtain⟨l,b,g⟩:=h _ x d;simp[f]at a;subst a;rw[←EK]at b;simpa[b]using g
  ·intro j y a;have k:j<n:=by
    rcases Bi j n with h|h
    ·exact h
    ·rw[Bd (by simp;omega)]at a;cases a
   have d:∃x,vs[off+j]?=some x:=⟨vs[off+j]'(by omega),by simp⟩;obtain⟨x,d⟩:=d;obtain⟨l,b,_⟩:=h _ x d;simp[k]at a;rw[←EK]at b;rw[b,←a];simp[b]
 ·cases e
def rh{b:Nat}{c:Tj}{e:TJ}{fr:Nat×Nat}(h:w.heap[b]?=some (.cells c e fr))(i:Nat):w.cell? ⟨b,i,none⟩=c[i]?:=by
 simp[World.cell?,h]
def lw{vs xs:Tk}{c:Tj}{o off n b:Nat}{e:TJ}{fr:Nat×Nat}(h:cw mu vs c o)(i:cut vs off n=some xs)(g:w.heap[b]?=some (.cells c e fr)) :
  ∃ys:List Value,ys.length=n/\(loadCells ⟨b,o+off,none⟩ n).run C.P w = .ok ys.toArray w/\VRs Az mu xs ys:=by
 obtain⟨ys,a,d,f⟩:=h.cut i;refine⟨ys,a,?_,d⟩;rw[←a];refine run_loadCells_list w _ ys λj v k=>?_;rw[bW,rh g];exact f j v k
def dX{vs:Tk}{c:Tj}{o off b:Nat}{e:TJ}{fr:Nat×Nat}{t:TJ}{v:Value}(h:cw mu vs c o)(g:du C.P t vs off=some v)(q:w.heap[b]?=some (.cells c e fr)) :
  ∃v',(loadVar t ⟨b,o+off,none⟩).run C.P w = .ok v' w/\VR Az mu v v':=by
 unfold du at g;cases l:C.P.underlying t with
 |none=>rw[l]at g;cases g
 |some d=>
  rw[l]at g;obtain⟨i,u⟩:=fp l;have k:=uG l w;have n:=bH u w;have x:qe d=true->((cut vs off (C.P.cellsOf t)).map λr=>Value.agg r.toArray)=some v->∃v',(loadVar t ⟨b,o+off,none⟩).run C.P w = .ok v' w/\VR Az mu v v':=by
   intro f j;cases a:cut vs off (C.P.cellsOf t)with
   |none=>rw[a]at j;cases j
   |some A=>
    rw[a]at j;cases j;obtain⟨z,p,m,s⟩:=lw (C:=C) h a q;exact⟨.agg z.toArray,by simp[loadVar,k,f,n,m],VRs.agg (by simpa using s)⟩
  have y:qe d=false->vs[off]?=some v->∃v',(loadVar t ⟨b,o+off,none⟩).run C.P w = .ok v' w/\VR Az mu v v':=by
   intro f j;obtain⟨v',p,m⟩:=h off v j;exact⟨v',by simp[loadVar,k,f,rh q,p],m⟩
  cases d<;>first|exact x rfl g|exact y rfl g
def jd{b:Nat}{c cs:Tj}{e:TJ}{fr:Nat×Nat}(h:w.heap[b]?=some (.cells c e fr)):(w.setRow b cs).heap=w.heap.setIfInBounds b (.cells cs e fr):=by
 have d:b<w.heap.size:=(qaP.1 h).1;apply Array.ext (by simp[World.setRow]);intro k i j;have f:(w.setRow b cs).heap[k]?=(w.heap.setIfInBounds b (.cells cs e fr))[k]?:=by
  by_cases a:k=b
  ·subst a;rw[setRow_heap w k c cs e fr h];simp[d]
  ·rw[setRow_other w b k cs a,qb9 (BO a)]
 have g:=MN i;have e3:=MN j;rw[g,e3]at f;exact AD f
def putCells(c:Tj)(at_:Nat)(ys:Tk):Tj:=(c.toList.take at_++ys++c.toList.drop (at_+ys.length)).toArray
def gq{c:Tj}{at_:Nat}{ys:Tk}(h:at_+ys.length<=c.size):(putCells c at_ ys).size=c.size:=by
 simp[putCells];omega
def lV{c:Tj}{at_:Nat}{ys:Tk}(h:at_+ys.length<=c.size)(i:Nat) :
  (putCells c at_ ys)[i]?=if at_<=i/\i<at_+ys.length then ys[i - at_]? else c[i]?:=by
 have a:(c.toList.take at_).length=at_:=by simp;omega
 simp only[putCells,List.getElem?_toArray];by_cases b:i<at_
 ·rw[AN,BE (by omega),Iw,mc b,po (by omega)];simp
 ·rw[AN,Cd (by omega),a];by_cases d:i<at_+ys.length
  ·rw[BE (by omega),mc ⟨by omega,d⟩]
  ·rw[Cd (by omega),HY,po (by omega)];have:at_+ys.length+(i - at_ - ys.length)=i:=by omega
   rw[this];simp
def zG{vs b xs:Tk}{off:Nat}(c:splice vs off xs=some b)(i:Nat) :
  b[i]?=if off<=i/\i<off+xs.length then xs[i - off]? else vs[i]?:=by
 unfold Am.splice at c;split at c
 next f=>
  cases c;have a:(vs.take off).length=off:=by simp;omega
  by_cases d:i<off
  ·rw[AN,BE (by omega),Iw,mc d,po (by omega)]
  ·rw[AN,Cd (by omega),a];by_cases e:i<off+xs.length
   ·rw[BE (by omega),mc ⟨by omega,e⟩]
   ·rw[Cd (by omega),HY,po (by omega)]
    congr 1;omega
 ·cases c
def gu{vs a xs:Tk}{off:Nat}(b:splice vs off xs=some a):a.length=vs.length/\off+xs.length<=vs.length:=by
 unfold Am.splice at b;split at b
 ·cases b;simp;omega
 ·cases b
def qJ{f:Value->Bool}{vs a xs:Tk}{off:Nat}(b:splice vs off xs=some a)(h1:vs.all f=true)(d:xs.all f=true):a.all f=true:=by
 unfold Am.splice at b;split at b
 ·cases b;rw[qdV,qdV,uc,uc];refine⟨⟨qab.2 λx c=>qab.1 h1 x (Iv c),d⟩,qab.2 λx c=>qab.1 h1 x (LA c)⟩
 ·cases b
def cw.splice{vs b xs ys:Tk}{c:Tj}{o off:Nat}(h:cw mu vs c o)(e:splice vs off xs=some b)(f:VRs Az mu xs ys)(k:o+vs.length<=c.size) :
  cw mu b (putCells c (o+off) ys) o:=by
 have n:=gu e;have l:=f.1;intro i v a;rw[zG e]at a;rw[lV (by omega)];by_cases d:off<=i/\i<off+xs.length
 ·rw[mc d]at a;rw[mc (by omega)];obtain⟨m,g,j⟩:=f.get a;exact⟨m,by rw[show o+i - (o+off)=i - off by omega];exact g,j⟩
 ·rw[po d]at a;rw[po (by omega)];exact h i v a
def gi{xs ys:Tk}(e:VRs la mu xs ys)(h:xs.all bf=true):∀y∈ys,y.oneCell'=true:=by
 intro y g;obtain⟨i,c⟩:=Dd g;have f:i<ys.length:=by
  rcases Bi i ys.length with h|h
  ·exact h
  ·rw[Bd h]at c;cases c
 have b:i<xs.length:=by have:=e.1;omega
 have a:=cR h (show xs[i]?=some xs[i]by simp[b]);simp only[bf,uc]at a;have d:=e.2 i xs[i] y (by simp[b]) c;have:=kW a.2 d;cases y<;>first|rfl|exact(vN a.2 d).elim|(simp[aG]at this)
def dL{c:Tj}{e:TJ}{b at_:Nat}{ys:Tk}(a:w.heap[b]?=some (.cells c e (0,0)))(d:at_+ys.length<=c.size)(h1:∀y∈ys,y.oneCell'=true) :
  (storeCells ⟨b,at_,none⟩ ys).run C.P w = .ok () (w.setRow b (putCells c at_ ys)):=by
 have:=run_storeCells_at C.P b at_ e ys 0 c w a (by simpa using d) h1;simpa[putCells]using this
def lY{c:Tj}{e t:TJ}{b at_:Nat}{x y:Value}(l:aw x=false)(m:VR la mu x y)(j:x.cells.size=C.P.cellsOf t/\(C.P.info? t).isSome=true)(a:x.cells.toList.all bf=true)
  (g:w.heap[b]?=some (.cells c e (0,0))) (n:at_+x.cells.size<=c.size) :
  (storeVar t ⟨b,at_,none⟩ y).run C.P w = .ok () (w.setRow b (putCells c at_ y.cells.toList)):=by
 have f:=m.cells l;have k:x.cells.size=y.cells.size:=by simpa using f.1
 obtain⟨i,h⟩:=qbr.1 j.2;have d:=dL (C:=C) (at_:=at_) (ys:=y.cells.toList) g (by simp;omega) (gi f a);simp[storeVar,bH h,show y.cells.size=C.P.cellsOf t by omega,d]
end
end
section
variable [Val] [Glo]
def Ds(C:Cfg)(b:Nat)(mu:kl)(H:Tp)(w:World)(s:Sem Next)(H':Tp)(v:Value):Prop:=
 ∃c v' w' a,s.run C.P w = .ok c w'/\(c = .value v'∨(c = .skip/\v'=undef))/\VR Az a v v'/\WR C b a H' w'/\Evo H mu w H' a w'/\Vz mu a H' w'
def nh(C:Cfg)(g:Nat)(la:tf)(mu:kl)(σ:St)(w:World)(s:Sem Next):Eff->Prop
 | .val v=>uU C.P la mu s w v
 | .lnew _ vs=>∃a e,s.run C.P w = .ok (.value (.pointer (some ⟨w.heap.size,0,none⟩))) (w.alloc (.cells a e))/\VRs Az mu vs a.toList/\vs.all bf=true
 | .lget k f=>∀vs v,σ.loc[k]?=some (some vs)->f vs=some v->uU C.P la mu s w v
 | .lset k f=>∀vs d,σ.loc[k]?=some (some vs)->f vs=some d->∃b c cs e,la k=some b/\w.heap[b]?=some (.cells c e (0,0))/\s.run C.P w = .ok .skip (w.setRow b cs)/\VRs Az mu d cs.toList/\d.all bf=true
 | .hget f=>∀v,f σ.heap=some v->uU C.P la mu s w v
 | .hop f=>∀H' v,f σ.heap=some (H',v)->Ds C g mu σ.heap w s H' v
 | .call f args=>∃args':Array Value,VRs Az mu args args'.toList/\s.run C.P w=(callFunc f args').run C.P w
 | .yield l args=>∃p args',mu l=some p/\VRs Az mu args (args':Tj).toList/\s.run C.P w=(Instr.yield p.b args').run C.P w
section
variable {C:Cfg} {base:Nat} {la:tf} {mu:kl} {σ:St} {a:Act} {w:World}
def qc{v c:Value}{p:Nat×Nat}(d:ik v=some p)(h:VR la mu v c):∃q,mu p.1=some q/\c = .pointer (some ⟨q.b,q.o+p.2,none⟩):=by
 unfold ik at d;split at d
 next a=>
  split at d
  next e=>
   cases d;cases h with
   |scalar h=>simp[Am.scalar]at h
   |lptr h=>simp at e
   |hptr h=>exact⟨_,h,rfl⟩
   |gptr=>simp at e
  ·cases d
 ·cases d
def pZ{v c:Value}{p:Nat×Nat}(b:fZ v=some p)(h:VR la mu v c):c = .pointer (some ⟨BG p.1,Cq p.1+p.2,none⟩):=by
 unfold fZ at b;split at b
 next a=>
  split at b
  next d=>
   cases b;cases h with
   |scalar h=>simp[Am.scalar]at h
   |lptr h=>simp at d
   |hptr h=>simp at d
   |gptr=>rfl
  ·cases b
 ·cases b
def uh{v c:Value}{s off:Nat}(d:ja s v=some off)(h:VR la mu v c):∃b,la s=some b/\c = .pointer (some ⟨b,off,none⟩):=by
 unfold ja at d;split at d
 next a=>
  split at d
  next f=>
   cases d;obtain⟨e,rfl⟩:=f;cases h with
   |scalar h=>simp[Am.scalar]at h
   |lptr h=>exact⟨_,h,rfl⟩
   |hptr h=>simp at e
   |gptr=>simp at e
  ·cases d
 ·cases d
def tW(l:WR C base mu σ.heap w){id:Nat}{vs:Tk}(h:ff σ.heap id=some vs){p:Pl}(j:mu id=some p) :
  ∃c e fr,w.heap[p.b]?=some (.cells c e fr)/\cw mu vs c p.o:=by
 unfold ff at h;split at h
 next n f m hid=>
  cases h;obtain⟨q,d,k⟩:=l.obj id _ hid rfl;obtain rfl:p=q:=by rw[j]at d;exact AD d
  obtain⟨_,_,_,c,e,fr,g,_,_,i⟩:=k;exact⟨c,e,fr,g,i⟩
 ·cases h
def Fq(f:WR C base mu σ.heap w){g:Nat}{vs:Tk}(h:C.G g=some vs):∃c e fr,w.heap[BG g]?=some (.cells c e fr)/\cw mu vs c (Cq g):=by
 obtain⟨_,_,c,e,fr,b,d⟩:=f.glob g vs h;exact⟨c,e,fr,b,d⟩
def Ey(h:SR C base la mu σ a.tmps w){s b:Nat}{vs:Tk}(l:σ.loc[s]?=some (some vs))(k:la s=some b) :
  ∃c e,w.heap[b]?=some (.cells c e (0,0))/\VRs Az mu vs c.toList/\vs.all bf=true:=by
 obtain⟨f,c,e,d,m,g,i,j,n⟩:=h.loc s vs l;obtain rfl:b=f:=by rw[k]at d;exact AD d
 exact⟨c,e,g,j,i⟩
def iL{c:Value}{t:TJ}{d:Addr}{v':Value}(b:c = .pointer (some d))(h:(loadVar t d).run C.P w = .ok v' w):(Instr.loadAt t c).run C.P w = .ok v' w:=by
 subst b;simp[Instr.loadAt,Instr.sureAddr,h]
def yR(h:SR C base la mu σ a.tmps w){pts:Tx}{t:TJ}{x:TG}{e:Eff}(d:dU C pts t x (ke σ.tmps x)=some e) :
  nh C base la mu σ w (do pure (.value (←Instr.loadAt t (a.eval x)))) e:=by
 have u:=aK h x;unfold dU at d;split at d
 ·cases g:ik (ke σ.tmps x)with
  |none=>
   rw[g]at d;cases r:fZ (ke σ.tmps x)with
   |none=>rw[r]at d;cases d
   |some p=>
    rw[r]at d;cases d;have m:=pZ r u;intro v f;simp only at f;cases o:C.G p.1 with
    |none=>rw[o]at f;cases f
    |some y=>
     rw[o,AP]at f;obtain⟨c,e,A,i,j⟩:=Fq h.wr o;obtain⟨z,k,l⟩:=dX (C:=C) j f i;exact gz (iL m k) l.up
  |some p=>
   rw[g]at d;cases d;obtain⟨q,D,m⟩:=qc g u;intro v f;simp only at f;cases n:ff σ.heap p.1 with
   |none=>rw[n]at f;cases f
   |some y=>
    rw[n]at f;obtain⟨c,e,A,i,j⟩:=tW h.wr n D;obtain⟨z,k,l⟩:=dX (C:=C) j f i;exact gz (iL m k) l.up
 ·cases g:fZ (ke σ.tmps x)with
  |none=>rw[g]at d;cases d
  |some p=>
   rw[g]at d;have m:=pZ g u;cases o:C.G p.1 with
   |none=>rw[AP,o]at d;cases d
   |some y=>
    rw[AP,o,AP]at d;cases f:du C.P t y p.2 with
    |none=>rw[f]at d;cases d
    |some v=>
     rw[f]at d;cases d;obtain⟨c,e,A,i,j⟩:=Fq h.wr o;obtain⟨z,k,l⟩:=dX (C:=C) j f i;exact gz (iL m k) l.up
 next s _=>
  cases g:ja s (ke σ.tmps x)with
  |none=>rw[g]at d;cases d
  |some F=>
   rw[g]at d;cases d;obtain⟨b,B,m⟩:=uh g u;intro y v E f;obtain⟨c,e,i,j,_⟩:=Ey h E B;obtain⟨z,k,l⟩:=dX (C:=C) (cw.of_list j) f i;exact gz (iL (by rw[m,Br]) k) l.up
def je{t:TJ}{x:Value}{vs b:Tk}{off:Nat}(h:eM C.P t x vs off=some b) :
  (x.cells.size=C.P.cellsOf t/\(C.P.info? t).isSome=true)/\x.cells.toList.all bf=true/\splice vs off x.cells.toList=some b:=by
 unfold eM at h;split at h
 next c=>
  split at h
  next d=>exact⟨c,d,h⟩
  ·cases h
 ·cases h
def oT{c y:Value}{t:TJ}{d:Addr}{w':World}(b:c = .pointer (some d))(h:(storeVar t d y).run C.P w = .ok () w'):(Instr.storeAt t c y).run C.P w = .ok () w':=by
 subst b;simp[Instr.storeAt,Instr.sureAddr,h]
def WR.splice(k:WR C base mu σ.heap w){id:Nat}{vs d xs ys:Tk}{esz off:Nat}{p:Pl}(hid:σ.heap[id]?=some (.cells vs esz true))(i:mu id=some p)
  (g:Am.splice vs off xs=some d) (l:VRs Az mu xs ys) (f:xs.all bf=true) :
  ∃c e,w.heap[p.b]?=some (.cells c e (0,0))/\p.o+off+ys.length<=c.size/\
   WR C base mu (σ.heap.set id (.cells d esz true)) (w.setRow p.b (putCells c (p.o+off) ys))/\Evo σ.heap mu w (σ.heap.set id (.cells d esz true)) mu (w.setRow p.b (putCells c (p.o+off) ys)):=by
 obtain⟨q,j,u⟩:=k.obj id _ hid rfl;obtain rfl:p=q:=by rw[i]at j;exact AD j
 obtain⟨m,y,n,c,e,x,h,r,s,t⟩:=u;obtain rfl:=s rfl;have z:=gu g;have v:=l.1;refine⟨c,e,h,by omega,?_⟩;refine k.set hid rfl i (jd h) rfl rfl rfl _ (λ_=>rfl) ?_;exact⟨m,by omega,qJ g n f,_,e,_,rfl,by rw[gq (by omega)];exact r,λ_=>rfl,cw.splice t g l (by omega)⟩
def wp(h:SR C base la mu σ a.tmps w){pts:Tx}{t:TJ}{x z:TG}{e:Eff}(d:eI C pts t x (ke σ.tmps x) (ke σ.tmps z)=some e) :
  nh C base la mu σ w (do Instr.storeAt t (a.eval x) (a.eval z);pure .skip) e:=by
 have R:=aK h x;have G:=aK h z;unfold eI at d;split at d
 ·cases d
 next B=>
  simp only[Cz]at B;split at d
  ·cases k:ik (ke σ.tmps x)with
   |none=>rw[k]at d;cases d
   |some p=>
    rw[k]at d;cases d;obtain⟨q,W,I⟩:=qc k R;intro H' v m;unfold jl at m;split at m
    next K T hid=>
     cases g:eM C.P t (ke σ.tmps z) K p.2 with
     |none=>rw[g]at m;cases m
     |some L=>
      rw[g]at m;cases m;obtain⟨H,j,r⟩:=je g;have f:=G.cells B;obtain⟨c,e,D,E,F,U⟩:=h.wr.splice hid W r (f.downc j) j;have l:=lY (C:=C) (at_:=q.o+p.2) B G H j D (by have:=f.1;simp at this E ⊢;omega);refine⟨.skip,undef,_,mu,?_,.inr ⟨rfl,rfl⟩,.undef,F,U,F.obj⟩;simp[oT I l]
    ·cases m
  ·cases d
  next s _=>
   cases k:ja s (ke σ.tmps x)with
   |none=>rw[k]at d;cases d
   |some n=>
    rw[k]at d;cases d;obtain⟨b,N,I⟩:=uh k R;intro K L X g;obtain⟨H,j,r⟩:=je g;obtain⟨c,e,D,E,F⟩:=Ey h X N;have f:=G.cells B;have Q:=gu r;have Z:K.length=c.size:=by simpa using E.1
    have O:(ke σ.tmps z).cells.size=(a.eval z).cells.size:=by simpa using f.1
    have l:=lY (C:=C) (at_:=n) B G H j D (by simp at Q;omega);refine⟨b,c,putCells c n (a.eval z).cells.toList,e,N,D,by simp[oT I l],?_,qJ r F j⟩;have A:=cw.splice (o:=0) (cw.of_list E) r (f.downc j) (by omega);rw[Br]at A;have J:(putCells c n (a.eval z).cells.toList).size=c.size:=gq (by simp at Q ⊢;omega);refine⟨by simp[J];omega,λi u y Y S=>?_⟩;obtain⟨u',M,V⟩:=A i u Y;rw[Br]at M;obtain rfl:u'=y:=by rw[qc9,M]at S;exact AD S
    exact V
def lR(h:SR C base la mu σ a.tmps w)(o:base<=w.heap.size){pts:Tx}{dst:Tn}{t:TJ}{v c:Value}{e:Eff}(q:VR la mu v c)(f:cG C pts dst t v=some e) :
  nh C base la mu σ w (do pure (.value (←Instr.box t c))) e:=by
 unfold cG at f;split at f
 ·cases f
 next l=>
  simp only[Cz]at l;have g:=q.cells l;split at f
  ·cases f
  next d=>
   split at f
   ·cases f
   next b=>
    simp only[Cz,qc0]at b;split at f
    ·cases f;exact⟨c.cells,t,by simp[Instr.box,newVar,newRow],g.downc b,b⟩
    ·cases f;intro s u k;cases k;have j:=h.wr.new o (w':=w.alloc (.cells c.cells t)) (x:=.cells c.cells t) rfl rfl rfl rfl (.cells v.cells.toList (lu C.P t) true) ⟨w.heap.size,0,c.cells.size,lu C.P t⟩ rfl (by
      have p:v.cells.size=c.cells.size:=by simpa using g.1
      refine⟨rfl,by simp[p],b,c.cells,t,_,rfl,by simp,λ_=>rfl,λi u k=>?_⟩;obtain⟨r,m,n⟩:=(g.downc b).get k;exact⟨r,by simpa using m,n⟩) (λ_=>rfl)
     refine⟨.value (.pointer (some ⟨w.heap.size,0,none⟩)),_,_,_,by simp[Instr.box,newVar,newRow],.inl rfl,?_,j.1,j.2.1,j.2.2⟩;exact .hptr (bU _ _ _)
end
end
section
variable [Val] [Glo]
section
variable {C:Cfg} {base:Nat} {la:tf} {mu:kl} {σ:St} {a:Act} {w:World}
def WR.newRow(q:WR C base mu σ.heap w)(l:base<=w.heap.size){w':World}{vs ys:Tk}{cs:Tj}{e:TJ}{esz:Nat}(h:VRs Az mu vs ys)(c:vs.all bf=true)
  (b:∀(i:Nat) y,ys[i]?=some y->cs[i]?=some y) (g:ys.length<=cs.size) (f:w'.heap=w.heap.push (.cells cs e)) (d:w'.os=w.os) (n:w'.tape=w.tape) (o:w'.output=w.output) (m:w.drawn<=w'.drawn:=by exact zY _) :
  WR C base (upd mu σ.heap.length ⟨w.heap.size,0,cs.size,esz⟩) (σ.heap++[.cells vs esz true]) w'/\Evo σ.heap mu w (σ.heap++[.cells vs esz true]) (upd mu σ.heap.length ⟨w.heap.size,0,cs.size,esz⟩) w'/\Vz mu (upd mu σ.heap.length ⟨w.heap.size,0,cs.size,esz⟩) (σ.heap++[.cells vs esz true]) w':=by
 refine q.new l f d n o _ _ rfl ⟨rfl,by have:=h.1;simp only;omega,c,cs,e,_,rfl,by simp,λ_=>rfl,λi v p=>?_⟩ (λ_=>rfl) m;obtain⟨y,j,k⟩:=h.get p;exact⟨y,by simpa using b i y j,k⟩
def pY{z:Value}(b:flat z=true)(e:aw z=false):z.cells.toList.all scalar=true:=by
 cases z with
 |agg c=>exact b
 |tuple c=>
  have d:iU (.tuple c)=true:=by simpa[aw]using e
  simp[flat,fM d]at b
 |_=>simpa[Value.cells,flat,fF]using b
def gt{v:Value}(h:scalar v=true):bf v=true:=by
 unfold Am.scalar at h;split at h<;>first|rfl|cases h
def VRs.scalars{vs:Tk}(h:vs.all scalar=true):VRs la mu vs vs:=by
 refine⟨rfl,λi x y b c=>?_⟩;obtain rfl:x=y:=by rw[b]at c;exact AD c
 exact .scalar (cR h b)
def wz{f g:Value->Bool}{vs:Tk}(h:vs.all f=true)(b:∀v,f v=true->g v=true):vs.all g=true:=
 qab.2 λx c=>b x (qab.1 h x c)
def zM{z:Tk}{n i:Nat}(h:i<n*z.length):(bk z n)[i]?=z[i%z.length]?:=by
 unfold bk
 induction n generalizing i with
 |zero=>simp at h
 |succ n d=>
  rw[qcD,Vt];by_cases c:i<z.length
  ·rw[BE c,Nat.mod_eq_of_lt c]
  ·rw[Cd (by omega)];have e:0<z.length:=by
    rcases qdB z.length with b|b
    ·rw[b]at h;simp at h
    ·exact b
   rw[C3,H0]at h;rw[d (by omega),←Nat.mod_eq_sub_mod (by omega)]
def eN{z:Tk}{n:Nat}:(bk z n).length=n*z.length:=by
 unfold bk
 induction n with
 |zero=>simp
 |succ n b=>rw[qcD,Vt,A5,b,C3];omega
def iS{f:Value->Bool}{z:Tk}{n:Nat}(h:z.all f=true):(bk z n).all f=true:=by
 unfold bk;rw[List.all_flatten];refine qab.2 λl b=>?_;rw[List.mem_replicate]at b;rw[b.2];exact h
def jQ{z:Tj}{n m:Nat}(d:z.size≠0)(h:m=n*z.size)(i:Nat)(c:i<m):(madeCells z m)[i]?=(bk z.toList n)[i]?:=by
 rw[zM (by simp;omega)];have b:i%z.size<z.size:=H3 _ (by omega);simp only[madeCells,Array.getElem?_map];rw[Array.getElem?_range,mc c];simp[b]
def rW(h:SR C base la mu σ a.tmps w)(L:base<=w.heap.size){t:TJ}{l c:TG}{H':Tp}{v:Value}
  (f:dw C t (ke σ.tmps l) (ke σ.tmps c) σ.heap=some (H',v)):Ds C base mu σ.heap w (do pure (.value (←Instr.makeSlice t (a.eval l) (a.eval c)))) H' v:=by
 unfold dw at f;split at f
 next E d g F K O=>
  split at f
  next b M=>
   split at f
   ·cases f
   next N=>
    split at f
    next z k=>
     obtain⟨o,p,B,D⟩:=mZ k
     first
     |skip
      split at f
      next u=>
       cases f;obtain⟨G,H,S,T⟩:=u;obtain⟨R,J⟩:=jL F (aK h l);obtain⟨Q,I⟩:=jL K (aK h c);have j:(b.bytes:Int)*d<=281474976710656:=by
        have F:(b.bytes:Int)*d<=4096*d:=qcA (by omega) (by omega);omega
       have q:=run_make (P:=C.P) w t g b z O M o R Q E d G H j (by omega);have r:=pY B D;have m:(madeCells z.cells (d.toNat*b.size)).size=d.toNat*b.size:=by simp[madeCells]
       have s:=h.wr.newRow L (w':=w.alloc (.cells (madeCells z.cells (d.toNat*b.size)) g)) (esz:=b.size) (VRs.scalars (la:=Az) (mu:=mu) (iS (n:=d.toNat) r)) (wz (iS r) λ_=>gt)
        (cs:=madeCells z.cells (d.toNat*b.size)) (e:=g) (λi y A=>by
         have x:i<d.toNat*b.size:=by
          rcases Bi i (d.toNat*b.size)with h|h
          ·exact h
          ·rw[Bd (by rw[eN];simp[p];exact h)]at A;cases A
         rw[jQ (n:=d.toNat) (by omega) (by rw[p]) i x];exact A) (by rw[eN,m];simp[p]) rfl rfl rfl rfl
       refine⟨.value (.slice (some ⟨w.heap.size,0,none⟩) E.toNat d.toNat),_,_,_,by rw[J,I];simp[q],.inl rfl,?_,s.1,s.2.1,s.2.2⟩;have:=VR.hslice (la:=Az) (id:=σ.heap.length) (off:=0) (len:=E.toNat) (cap:=d.toNat) (cx:=d.toNat+1) (bU mu σ.heap.length ⟨w.heap.size,0,(madeCells z.cells (d.toNat*b.size)).size,b.size⟩)
        (by simp only[m];omega) (by omega) (.inr rfl)
       simpa using this
      ·cases f
    ·cases f
  ·cases f
 ·cases f
def Hg(pl:Nat->Option (Nat×Nat)):∀(e:List (Nat×Value)) (cs r:Tj),Instr.fill pl cs e=some r->r.size=cs.size:=by
 intro e
 induction e with
 |nil=>intro cs r h;simp[Instr.fill]at h;rw[h]
 |cons p e g=>
  intro cs r h;obtain⟨i,x⟩:=p;unfold Instr.fill at h;split at h
  ·cases h
  ·split at h
   ·cases h
   ·rw[g _ _ h];have:∀(l:List (Value×Nat)) (b:Tj) (d:Nat),(l.foldl (λ(b:Tj) (c,j)=>b.setIfInBounds (d+j) c) b).size=b.size:=by
     intro l
     induction l with
     |nil=>intro b d;rfl
     |cons y l f=>intro b d;rw[Is,f];simp
    rw[←qcZ];exact this _ _ _
def Ho{f:Value->Bool}(off:Nat):∀(l:List (Value×Nat)) (b:Tj),b.toList.all f=true->(∀p∈l,f p.1=true)->
  (l.foldl (λ(b:Tj) (c,j)=>b.setIfInBounds (off+j) c) b).toList.all f=true:=by
 intro l
 induction l with
 |nil=>intro b h _;exact h
 |cons y l k=>
  intro b h e;rw[Is];refine k _ (qab.2 λx g=>?_) λp i=>e p (by simp[i]);simp only[Array.toList_setIfInBounds]at g;rcases Rw g with d|d
  ·exact qab.1 h x d
  ·rw[d];exact e y (by simp)
def JT{f:Value->Bool}(pl:Nat->Option (Nat×Nat)):∀(c:List (Nat×Value)) (cs r:Tj),cs.toList.all f=true->(∀p∈c,p.2.cells.toList.all f=true)->Instr.fill pl cs c=some r->r.toList.all f=true:=by
 intro c
 induction c with
 |nil=>intro cs r h _ b;simp[Instr.fill]at b;subst b;exact h
 |cons p c n=>
  intro cs r h j b;obtain⟨i,x⟩:=p;unfold Instr.fill at b;split at b
  ·cases b
  next g k m=>
   split at b
   ·cases b
   ·refine n _ r ?_ (λq d=>j q (by simp[d])) b;rw[←qcZ,qdq];refine Ho g _ _ h λq d=>?_;have e:=List.mem_zipIdx d;exact qab.1 (j (i,x) (by simp)) q.1 (by obtain⟨_,_,l⟩:=e;rw[l];exact qdg _)
def px(h:SR C base la mu σ a.tmps w)(U:base<=w.heap.size){t:TJ}{n:Nat}{q:List (Nat×Value)}{L:Array (Nat×Value)}{r:Nat×List Value}
  (V:RP la mu q L.toList) (F:∀p∈q,p.2.cells.toList.all bf=true) (d:eU C t n q=some r) :
  Ds C base mu σ.heap w (do pure (.value (←Instr.buildSlice t n L))) (σ.heap++[.cells r.2 r.1 true]) (.slice (some ⟨σ.heap.length,0,pu r.1⟩) n (n+1)):=by
 unfold eU at d;split at d
 next c Q=>
  split at d
  next b s=>
   split at d
   ·cases d
   next E=>
    split at d
    ·cases d
    next N=>
     split at d
     next z j=>
      obtain⟨l,o,I,K⟩:=mZ j
      first
      |skip
       have u:=pY I K;cases f:Instr.fill (λi=>some (i*b.size,b.size)) (bk z.cells.toList n).toArray q with
       |none=>rw[f]at d;cases d
       |some cs=>
        rw[f]at d;cases d;have H:VRs la mu (bk z.cells.toList n) (bk z.cells.toList n):=VRs.scalars (iS u);obtain⟨v,A,T⟩:=Fi (la:=la) (mu:=mu) _ q L.toList (bk z.cells.toList n).toArray (bk z.cells.toList n).toArray cs (by simpa using H) V f;have ff:cs.toList.all bf=true:=JT _ q _ cs (by simpa using wz (iS u) λ_=>gt) F f;have k:v.size=n*b.size:=by
         rw[Hg _ _ _ _ A];simp[eN,o]
        have O:¬b.size=0:=E;have g:((Array.range (n*b.size)).map (z.cells[· % z.cells.size]!))=(bk z.cells.toList n).toArray:=by
         apply qcI;intro i;rw[show((bk z.cells.toList n).toArray)[i]?=(bk z.cells.toList n)[i]? from by simp];by_cases D:i<n*b.size
         ·exact jQ (z:=z.cells) (n:=n) (m:=n*b.size) (by omega) (by rw[o]) i D
         ·rw[Rr (by simp;omega),Bd (by simp[eN,o];omega)]
        have B:=h.wr.newRow U (w':=w.alloc (.cells v c)) (esz:=b.size) (T.downc ff) ff (cs:=v) (e:=c) (λi y W=>by simpa using W) (by simp) rfl rfl rfl rfl;refine⟨.value (.slice (some ⟨w.heap.size,0,none⟩) n n),_,_,_,?_,.inl rfl,?_,B.1,B.2.1,B.2.2⟩
        ·have x:¬(n*C.P.cellsOf c > 2 ^ 24):=by simp only[Program.cellsOf,s,BB,HV];omega
         have e3:C.P.cellsOf c=b.size:=by simp[Program.cellsOf,s]
         have J:(zeroValue c).run C.P w = .ok z w:=by simp[zeroValue,typeInfo,s,l]
         rw[e3]at x;by_cases S:n=0
         ·subst S;have G:∀M:Array Value,((Array.range (0*b.size)).map (M[· % M.size]!))=(bk z.cells.toList 0).toArray:=λM=>by
           rw[LD];simp[bk]
          simp only[Instr.buildSlice,Sem.run_bind,run_underlying Q,Result.andThen_ok,bH s,e3,mc (LD b.size),po x,Sem.run_pure,G,A];simp[newRow]
         ·have R:¬(n*b.size=0):=by
           simp only[Nat.mul_eq_zero];omega
          simp only[Instr.buildSlice,Sem.run_bind,run_underlying Q,Result.andThen_ok,bH s,e3,po R,po x,J,Sem.run_pure,g,A];simp[newRow]
        ·have:=VR.hslice (la:=Az) (id:=σ.heap.length) (off:=0) (len:=n) (cap:=n) (cx:=n+1) (bU mu σ.heap.length ⟨w.heap.size,0,v.size,b.size⟩) (by simp only[k];omega) (by omega) (.inr rfl);simpa using this
     ·cases d
  ·cases d
 ·cases d
def jy(Z:WR C base mu σ.heap w){x y:Value}{esz:Nat}{new:Tk}{n:Nat}(g:VR la mu x y)(f:dR C σ.heap esz x=some (new,n))(k:Nat)(w':World)(V:w'.heap=w.heap) :
  ∃ys:List Value,(Builtin.lenOf y).run C.P w' = .ok n w'/\ys.length=n*esz/\VRs Az mu new ys/\new.all bf=true/\
   (k<=n->(Builtin.firstCells esz k y).run C.P w' = .ok (ys.take (k*esz)).toArray w'):=by
 have i:∀ {t z:Tk} {c:Tj} {o r b m:Nat} {e:TJ} {A:Nat×Nat},cw mu t c o->cut t r (m*esz)=some z->w.heap[b]?=some (.cells c e A)->t.all bf=true->
   ∃ys:List Value,ys.length=m*esz/\VRs Az mu z ys/\z.all bf=true/\(k<=m->(loadCells ⟨b,o+r,none⟩ (k*esz)).run C.P w' = .ok (ys.take (k*esz)).toArray w'):=by
  intro t z c o r b m e A hR d O B;obtain⟨ys,g1,g2,g3⟩:=hR.cut d;refine⟨ys,g1,g2,?_,λT=>?_⟩
  ·unfold Am.cut at d;split at d
   ·cases d;exact qab.2 λx g=>qab.1 B x (LA (Iv g))
   ·cases d
  ·have L:k*esz<=m*esz:=LB _ T;have E:(ys.take (k*esz)).length=k*esz:=by simp;omega
   have:=run_loadCells_list (P:=C.P) w' ⟨b,o+r,none⟩ (ys.take (k*esz)) λj v K=>by
    rw[bW];have D:w'.heap[b]?=some (.cells c e A):=by rw[V];exact O
    rw[rh D];refine g3 j v ?_;rw[Iw]at K;split at K
    ·exact K
    ·cases K
   rw[E]at this;exact this
 unfold dR at f;split at f
 ·cases f;have:=cI (a:=.slice none 0 0) rfl g;subst this;exact⟨[],by simp[Builtin.lenOf],by simp,.nil,rfl,λu=>by simp[Builtin.firstCells]⟩
 next M J cx=>
  split at f
  next l=>
   cases N:C.G M.block with
   |none=>rw[N]at f;cases f
   |some t=>
    rw[N,AP]at f;cases d:cut t M.off (J*esz)with
    |none=>rw[d]at f;cases f
    |some z=>
     rw[d]at f;cases f;obtain⟨af,Q,c,e,A,R,S⟩:=Z.glob _ _ N;obtain⟨ys,F,H,I,W⟩:=i S d R Q;cases g with
     |scalar h=>simp[Am.scalar]at h
     |hslice h U L g=>simp[pu]at l
     |hslice0 g=>simp[pu]at l
     |gslice L g=>
      refine⟨ys,by simp[Builtin.lenOf],F,H,I,λu=>?_⟩;simpa[Builtin.firstCells]using W u
     |gslice0 g=>
      refine⟨ys,by simp[Builtin.lenOf],F,H,I,λu=>?_⟩;obtain rfl:k=0:=by omega
      simp[Builtin.firstCells,loadCells,loadCellsFrom]
  ·split at f
   next l=>
    split at f
    next t e0 ag hid=>
     split at f
     next X=>
      cases d:cut t M.off (J*esz)with
      |none=>rw[d]at f;cases f
      |some z=>
       rw[d]at f;cases f;obtain⟨q,Y,U⟩:=Z.obj _ _ hid rfl;obtain⟨o1,o2,o3,c,e,A,o4,o5,o6,o7⟩:=U;obtain⟨ys,F,H,I,W⟩:=i o7 d o4 o3;cases g with
       |scalar h=>simp[Am.scalar]at h
       | @hslice _ _ _ _ _ p h U L g=>
        obtain rfl:p=q:=by rw[h]at Y;exact AD Y
        refine⟨ys,by simp[Builtin.lenOf],F,H,I,λu=>?_⟩;simpa[Builtin.firstCells]using W u
       |hslice0 g=>
        refine⟨ys,by simp[Builtin.lenOf],F,H,I,λu=>?_⟩;obtain rfl:k=0:=by omega
        simp[Builtin.firstCells,loadCells,loadCellsFrom]
       |gslice L g=>simp[pu]at l
       |gslice0 g=>simp[pu]at l
     ·cases f
    ·cases f
   ·cases f
 next s=>
  split at f
  next X=>
   cases f;subst X;have:=cI (a:=.string s) rfl g;subst this;refine⟨s.data.toList.map λb=>.int .u8 b.toNat,by simp[Builtin.lenOf],by rw[AZ,UK];rfl,VRs.scalars ?_,?_,λu=>?_⟩
   ·exact qab.2 λx g=>by obtain⟨b,_,rfl⟩:=qaz.1 g;rfl
   ·exact qab.2 λx g=>by obtain⟨b,_,rfl⟩:=qaz.1 g;rfl
   ·simp only[Builtin.firstCells,Sem.run_pure,UK]
    congr 1
    apply Array.ext';simp[ByteArray.data_extract,List.extract]
  ·cases f
 ·cases f
end
end
section
variable [Val] [Glo]
section
variable {C:Cfg} {base:Nat} {la:tf} {mu:kl} {σ:St} {a:Act} {w:World}
def od:TypeDesc->Bool
 | .int _=>true
 |_=>false
def ce{t h ty e:TJ}{i:TypeInfo}{d:TypeDesc}{c:Array TypeId}(h0:c[0]?=some t)(h1:c[1]?=some h)(q:C.P.underlying t=some (.slice e))(r:C.P.underlying h=some d)(j:od d=false)
  (m:C.P.info? e=some i) {y:Value} {n sLen sCap:Nat} {ys:Tk} {b:Option Addr} (o:(Builtin.lenOf y).run C.P w = .ok n w) (l:(Builtin.firstCells i.size n y).run C.P w = .ok ys.toArray w) (p:sLen+n<=sCap) :
  (Builtin.append_ c ty #[.slice b sLen sCap,y]).run C.P w =
   match b with
   |none=>.ok (.slice none (sLen+n) sCap) w
   |some g=>((storeCells (g.add (sLen*i.size)) ys).run C.P w).andThen λ_ w'=>.ok (.slice (some g) (sLen+n) sCap) w':=by
 have f:∀k,d = .int k->False:=λk e=>by subst e;simp[od]at j
 cases b<;>simp[Builtin.append_,h0,h1,run_underlying q,run_underlying r,sizeOf,typeInfo,m,o,l,p]
def pF{t m ty e:TJ}{i:TypeInfo}{d:TypeDesc}{z:Value}{c:Array TypeId}(h0:c[0]?=some t)(h1:c[1]?=some m)(v:C.P.underlying t=some (.slice e))(x:C.P.underlying m=some d)(o:od d=false)
  (q:C.P.info? e=some i) (A:i.zero=some z) {y:Value} {n sLen sCap:Nat} {olds ys:Tk} {b:Option Addr} (r:(Builtin.lenOf y).run C.P w = .ok n w) (p:(Builtin.firstCells i.size n y).run C.P w.drew = .ok ys.toArray w.drew)
  (u:(Builtin.firstCells i.size sLen (.slice b sLen sCap)).run C.P w.drew = .ok olds.toArray w.drew)
  (D:sCap<sLen+n) (h:bh (sLen+n) i.bytes=true) :
  (Builtin.append_ c ty #[.slice b sLen sCap,y]).run C.P w =
   .ok (.slice (some ⟨w.heap.size,0,none⟩) (sLen+n) (grownCap w (sLen+n) sCap e)) (w.drew.alloc (.cells ((olds++ys).toArray++Builtin.zeroCells z.cells (grownCap w (sLen+n) sCap e - (sLen+n))) e)):=by
 simp only[bh,uc,De]at h;have B:(sLen+n)*i.bytes<=140737488355328:=h.2;have l:=growslice_fits (old:=sCap) (need:=sLen+n) (bytes:=i.bytes) (by omega) (by omega);have s:¬(sLen+n<=sCap):=by omega
 have g:¬(9223372036854775807<((sLen:Int)+(n:Int))):=by omega
 have f:¬(281474976710656<Builtin.nextslicecap (sLen+n) sCap*i.bytes):=by omega
 have j:∀k,d = .int k->False:=λk e=>by subst e;simp[od]at o
 simp[Builtin.append_,h0,h1,run_underlying v,run_underlying x,sizeOf,typeInfo,zeroValue,q,A,r,p,u,s,g,f,Question.forced,newRow,grownCap]
 congr 2
 apply Array.ext';simp
def rY{α:Type}{l:List α}{n m:Nat}{x:α}(h:x∈(l.drop n).take m):x∈l:=LA (Iv h)
def cut_all{f:Value->Bool}{vs xs:Tk}{off n:Nat}(b:cut vs off n=some xs)(h:vs.all f=true):xs.all f=true:=by
 unfold Am.cut at b;split at b
 ·cases b;exact qab.2 λx c=>qab.1 h x (rY c)
 ·cases b
def pR{vs xs:Tk}{off n:Nat}(b:cut vs off n=some xs):xs.length=n/\off+n<=vs.length:=by
 unfold Am.cut at b;split at b
 ·cases b;simp;omega
 ·cases b
def O6{vs old:Tk}{p:Pl}{off len esz sCap:Nat}{c:Tj}{e:TJ}{fr:Nat×Nat}(l:cw mu vs c p.o)(d:cut vs off (len*esz)=some old)(f:w.heap[p.b]?=some (.cells c e fr))(w':World)(g:w'.heap=w.heap) :
  ∃os:List Value,os.length=len*esz/\VRs Az mu old os/\(Builtin.firstCells esz len (.slice (some ⟨p.b,p.o+off,none⟩) len sCap)).run C.P w' = .ok os.toArray w'/\∀(j:Nat) y,os[j]?=some y->c[p.o+off+j]?=some y:=by
 obtain⟨os,h,k,i⟩:=l.cut d;refine⟨os,h,k,?_,i⟩;have:=run_loadCells_list (P:=C.P) w' ⟨p.b,p.o+off,none⟩ os λj v m=>by
  rw[bW,rh (by rw[g];exact f)];exact i j v m
 rw[h]at this;simpa[Builtin.firstCells]using this
def vw(H:WR C base mu σ.heap w)(v:base<=w.heap.size){t u ty e:TJ}{i:TypeInfo}{d:TypeDesc}{z:Value}{c:Array TypeId}(h0:c[0]?=some t)(h1:c[1]?=some u)(G:C.P.underlying t=some (.slice e))(I:C.P.underlying u=some d)(x:od d=false)
  (B:C.P.info? e=some i) (J:i.zero=some z) (q:z.cells.size=i.size) {y:Value} {n sLen sCap:Nat} {old new olds ys:Tk} {b:Option Addr} (D:(Builtin.lenOf y).run C.P w = .ok n w) (A:(Builtin.firstCells i.size n y).run C.P w.drew = .ok ys.toArray w.drew)
  (E:(Builtin.firstCells i.size sLen (.slice b sLen sCap)).run C.P w.drew = .ok olds.toArray w.drew) (F:sCap<sLen+n) (p:bh (sLen+n) i.bytes=true)
  (M:VRs Az mu old olds) (N:VRs Az mu new ys) (K:olds.length=sLen*i.size) (L:ys.length=n*i.size) (r:old.all bf=true) (s:new.all bf=true) :
  Ds C base mu σ.heap w (do pure (.value (←Builtin.append_ c ty #[.slice b sLen sCap,y]))) (σ.heap++[.cells (old++new) i.size true]) (.slice (some ⟨σ.heap.length,0,pu i.size⟩) (sLen+n) 0):=by
 have f:=pF (ty:=ty) h0 h1 G I x B J D A E F p;have l:=grownCap_ge w (sLen+n) sCap e;have k:((olds++ys).toArray++Builtin.zeroCells z.cells (grownCap w (sLen+n) sCap e - (sLen+n))).size=grownCap w (sLen+n) sCap e*i.size:=by
  simp[size_zeroCells,K,L,q];rw[←C3,←C3]
  congr 1;omega
 have g:=(H.drew (w.drawn+1)).newRow (C:=C) v (w':=w.drew.alloc (.cells ((olds++ys).toArray++Builtin.zeroCells z.cells (grownCap w (sLen+n) sCap e - (sLen+n))) e)) (esz:=i.size) (M.append N) (by simp[r,s]) (e:=e)
  (λj y m=>by
   have o:j<(olds++ys).length:=by
    rcases Bi j (olds++ys).length with h|h
    ·exact h
    ·rw[Bd h]at m;cases m
   rw[qcO (by simpa using o)];simpa using m) (by simp) rfl rfl rfl rfl
 refine⟨.value (.slice (some ⟨w.heap.size,0,none⟩) (sLen+n) (grownCap w (sLen+n) sCap e)),_,_,_,by simp[f],.inl rfl,?_,g.1,(Evo.refl σ.heap mu w).drew (w.drawn+1) (Nat.le_succ _) |>.trans g.2.1,g.2.2⟩;have:=VR.hslice (la:=Az) (id:=σ.heap.length) (off:=0) (len:=sLen+n) (cap:=grownCap w (sLen+n) sCap e) (cx:=0) (bU mu σ.heap.length ⟨w.heap.size,0,_,i.size⟩) (by rw[Br];exact Nat.le_of_eq k.symm) l (.inl rfl);exact this
def yw(h:SR C base la mu σ a.tmps w)(hb:base<=w.heap.size){t xT ty:TJ}{d:TypeDesc}{Q:Array TypeId}{s x:TG}{H':Tp}{v:Value}(h0:Q[0]?=some t)(h1:Q[1]?=some xT)(S:C.P.underlying xT=some d)(W:od d=false)
  (m:fE C t (ke σ.tmps s) (ke σ.tmps x) σ.heap=some (H',v)):Ds C base mu σ.heap w (do pure (.value (←Builtin.append_ Q ty #[a.eval s,a.eval x]))) H' v:=by
 have hs:=aK h s;have a8:=aK h x;unfold fE at m;split at m
 next b0 Y=>
  split at m
  ·cases m
  next f X=>
   split at m
   ·cases m
   next b1=>
    split at m
    ·cases m
    next bX=>
     obtain⟨z,bS⟩ : ∃z,kE f=some z:=by
      cases a9:kE f with
      |none=>simp[a9]at bX
      |some z=>exact⟨z,rfl⟩
     obtain⟨hz,a3,_,_⟩:=mZ bS;split at m
     ·cases m
     next L n a4=>
      obtain⟨ys,T,c2,c3,c4,c5⟩:=jy h.wr a8 a4 n w rfl;obtain⟨b7,b2,ar,ax,ay,bm⟩:=jy h.wr a8 a4 n w.drew rfl;have F:=c5 (zY _);have N:=bm (zY _);rw[Cg (by omega)]at F N;split at m
      · -- nil
       rename_i a0
       rw[a0]at hs;have K:=cI (a:=.slice none 0 0) rfl hs;rw[K];split at m
       next G=>
        cases m;subst G;have g:=ce (ty:=ty) (b:=none) (sLen:=0) (sCap:=0) h0 h1 Y S W X T F (by omega);exact⟨.value (.slice none 0 0),_,w,mu,by simpa using congrArg (λr:Result Value=>r.andThen λv w=>.ok (Next.value v) w) g,.inl rfl,.scalar rfl,h.wr,.refl _ _ _,h.wr.obj⟩
       next G=>
        split at m
        next y=>
         cases m;have:=vw (ty:=ty) (b:=none) (sLen:=0) (sCap:=0) (old:=[]) (olds:=[]) h.wr hb h0 h1 Y S W X hz a3 T N (by simp[Builtin.firstCells]) (by omega) (by simpa using y) .nil ax (by simp) ar rfl ay;simpa using this
        ·cases m
      next u len cx a0=>
       rw[a0]at hs;split at m
       ·cases m
       next H=>
        simp only[ne_eq,Classical.not_not]at H;split at m
        next vs e0 b6 hid=>
         split at m
         ·cases m
         next a5=>
          simp only[ne_eq,Classical.not_not]at a5;subst a5;split at m
          ·cases m
          next old E=>
           obtain⟨q,hq,hr⟩:=h.wr.obj _ _ hid rfl;obtain⟨o1,o2,o3,c,e,fr,o4,o5,o6,o7⟩:=hr;have K:(∃cap,a.eval s = .slice (some ⟨q.b,q.o+u.off,none⟩) len cap/\u.off+cap*f.size<=q.room/\len<=cap/\(cx=0∨cx=cap+1))∨(∃Z,a.eval s = .slice (some Z) 0 0/\len=0/\cx<=1):=by
            clear m;generalize a.eval s=sv at hs;cases hs with
            |scalar h=>simp[Am.scalar]at h
            | @hslice _ _ _ cap _ p hm hr hl a2=>
             obtain rfl:p=q:=by rw[hm]at hq;exact AD hq
             rw[o1]at hr;exact .inl ⟨cap,rfl,hr,hl,a2⟩
            |hslice0 a2=>exact .inr ⟨_,rfl,rfl,a2⟩
            |gslice hl S=>simp[pu]at H
            |gslice0 S=>simp[pu]at H
           have M:∀A,(∃b,a.eval s = .slice b len A/\(b=some ⟨q.b,q.o+u.off,none⟩∨len=0))->A<len+n->bh (len+n) f.bytes=true->
             Ds C base mu σ.heap w (do pure (.value (←Builtin.append_ Q ty #[a.eval s,a.eval x]))) (σ.heap++[.cells (old++L) f.size true]) (.slice (some ⟨σ.heap.length,0,pu f.size⟩) (len+n) 0):=by
            rintro A ⟨b,l,bs⟩ R y;rw[l];rcases bs with rfl|rfl
            ·obtain⟨os,g1,g2,g3,_⟩:=O6 (C:=C) (sCap:=A) o7 E o4 w.drew rfl;exact vw (ty:=ty) h.wr hb h0 h1 Y S W X hz a3 T N g3 R y g2 ax g1 ar (cut_all E o3) ay
            ·have ho:old=[]:=by
              have:=(pR E).1;simp at this;exact this
             subst ho;exact vw (ty:=ty) (olds:=[]) h.wr hb h0 h1 Y S W X hz a3 T N (by cases b<;>simp[Builtin.firstCells,loadCells,loadCellsFrom]) R y .nil ax (by simp) ar rfl ay
           split at m
           · -- the capacity is not known
            split at m
            next G=>
             cases m;subst G;have I:ys=[]:=by have:=c2;simp at this;exact this
             subst I;rcases K with⟨cap,l,B,af,_⟩|⟨Z,l,rfl,_⟩
             ·have g:=ce (ty:=ty) (b:=some ⟨q.b,q.o+u.off,none⟩) (sLen:=len) (sCap:=cap) h0 h1 Y S W X T F (by omega);refine⟨.value (a.eval s),a.eval s,w,mu,?_,.inl rfl,(fi (by simp[aW,H,pu]) hs),h.wr,.refl _ _ _,h.wr.obj⟩;rw[l];simp[g,storeCells]
             ·have g:=ce (ty:=ty) (b:=some Z) (sLen:=0) (sCap:=0) h0 h1 Y S W X T F (by omega);refine⟨.value (a.eval s),a.eval s,w,mu,?_,.inl rfl,(fi (by simp[aW,H,pu]) hs),h.wr,.refl _ _ _,h.wr.obj⟩;rw[l];simp[g,storeCells]
            next G=>
             split at m
             next y=>
              cases m;simp only[uc]at y;obtain⟨aE,y⟩:=y;subst aE;obtain rfl:=o6 rfl;have O:u.block<σ.heap.length:=by
               rcases Bi u.block σ.heap.length with h|h
               ·exact h
               ·rw[Bd h]at hid;cases hid
              have an:Ds C base mu σ.heap w (do pure (.value (←Builtin.append_ Q ty #[a.eval s,a.eval x]))) (σ.heap++[.cells (old++L) f.size true]) (.slice (some ⟨σ.heap.length,0,pu f.size⟩) (len+n) 0)->
                Ds C base mu σ.heap w (do pure (.value (←Builtin.append_ Q ty #[a.eval s,a.eval x]))) (σ.heap.set u.block .dead++[.cells (old++L) f.size true]) (.slice (some ⟨σ.heap.length,0,pu f.size⟩) (len+n) 0):=by
               rintro⟨nx,v',w',bd,g1,g2,g3,g4,g5,g6⟩;have a6:bd u.block=some q:=by rw[g5.same _ O];exact hq
               have ap:(σ.heap++[.cells (old++L) f.size true])[u.block]?=some (.cells vs f.size true):=by rw[BE O];exact hid
               have R:=g4.lt ap rfl a6;obtain⟨x0,bP⟩ : ∃x0,w'.heap[q.b]?=some x0:=⟨w'.heap[q.b],by simp[R]⟩;have a1:w'.heap.setIfInBounds q.b x0=w'.heap:=by
                apply qcI;intro k;by_cases hk:k=q.b
                ·subst hk;rw[bP];simp[R]
                ·rw[qb9 (BO hk)]
               obtain⟨k1,k2⟩:=g4.set ap rfl a6 (w':=w') (x:=x0) a1.symm rfl rfl rfl .dead (λh=>by cases h) trivial;rw[qdn _ _ O]at k1 k2;refine⟨nx,v',w',bd,g1,g2,g3,k1,g5.trans k2,λj oj hj ha=>?_⟩;rw[←qdn _ _ O]at hj;rcases get_set hj with⟨_,hj⟩|⟨_,_,rfl⟩
               ·exact g6 j oj hj ha
               ·cases ha
              rcases K with⟨cap,l,B,af,_⟩|⟨Z,l,rfl,_⟩
              ·by_cases J:len+n<=cap
               · -- in place
                have bn:q.o+u.off+len*f.size+ys.length<=c.size:=by
                 have:(len+n)*f.size<=cap*f.size:=LB _ J;rw[C3]at this;omega
                have ag:=dL (C:=C) (at_:=q.o+u.off+len*f.size) (ys:=ys) o4 bn (gi c3 c4);have g:=ce (ty:=ty) (b:=some ⟨q.b,q.o+u.off,none⟩) (sLen:=len) (sCap:=cap) h0 h1 Y S W X T F J;simp only[bW]at g;rw[ag]at g;have hM:=h.wr.move hid rfl hq (w':=w.setRow q.b (putCells c (q.o+u.off+len*f.size) ys)) (jd o4) rfl rfl rfl (.cells (old++L) f.size true) ⟨q.b,q.o+u.off,q.room - u.off,f.size⟩ rfl (by
                 have b5:=pR E;have b4:=c3.1;refine⟨rfl,by simp only[A5];omega,by simp[cut_all E o3,c4],_,e,_,rfl,by rw[gq (by omega)];simp only;omega,λ_=>rfl,λi v hv=>?_⟩;obtain⟨os,k1,k2,k3⟩:=cw.cut o7 E;simp only;rw[lV (by omega)];by_cases bt:i<old.length
                 ·rw[BE bt]at hv;obtain⟨v',m1,m2⟩:=k2.get hv;rw[po (by omega)];exact⟨v',k3 i v' m1,m2⟩
                 ·rw[Cd (by omega)]at hv;obtain⟨v',m1,m2⟩:=c3.get hv;have b3:i - old.length<ys.length:=by
                   rcases Bi (i - old.length) ys.length with h|h
                   ·exact h
                   ·rw[Bd h]at m1;cases m1
                  rw[mc (by omega)];exact⟨v',by rw[show q.o+u.off+i - (q.o+u.off+len*f.size)=i - old.length by omega];exact m1,m2⟩) (λ_=>rfl)
                refine⟨.value (.slice (some ⟨q.b,q.o+u.off,none⟩) (len+n) cap),_,_,_,by rw[l];simp[g],.inl rfl,?_,hM.1,hM.2.1,hM.2.2⟩;have:=VR.hslice (la:=Az) (id:=σ.heap.length) (off:=0) (len:=len+n) (cap:=cap) (cx:=0) (bU mu σ.heap.length ⟨q.b,q.o+u.off,q.room - u.off,f.size⟩) (by simp only;omega) J (.inl rfl);simpa using this
               ·exact an (M cap ⟨_,l,.inl rfl⟩ (by omega) y)
              ·exact an (M 0 ⟨_,l,.inr rfl⟩ (by omega) y)
             ·cases m
           · -- the capacity is known
            rename_i A
            split at m
            next J=>
             split at m
             next aE=>
              subst aE;obtain rfl:=o6 rfl;cases D:splice vs (u.off+len*f.size) L with
              |none=>rw[D]at m;cases m
              |some be=>
               rw[D]at m;cases m;obtain⟨c',e',g1,g2,g3,g4⟩:=h.wr.splice hid hq D c3 c4;obtain⟨rfl,rfl⟩ : c=c'/\e=e':=by
                rw[g1]at o4;simp only[BP,Obj.cells.injEq]at o4;exact⟨o4.1.symm,o4.2.1.symm⟩
               rcases K with⟨cap,l,B,af,V⟩|⟨Z,l,rfl,V⟩
               ·have U:cap=A:=by omega
                subst U;have ag:=dL (C:=C) (at_:=q.o+(u.off+len*f.size)) (ys:=ys) g1 g2 (gi c3 c4);have g:=ce (ty:=ty) (b:=some ⟨q.b,q.o+u.off,none⟩) (sLen:=len) (sCap:=cap) h0 h1 Y S W X T F J;simp only[bW,EK]at g ag;rw[ag]at g;refine⟨.value (.slice (some ⟨q.b,q.o+u.off,none⟩) (len+n) cap),_,_,mu,by rw[l];simp[g],.inl rfl,?_,g3,g4,g3.obj⟩;obtain⟨bl,of,sp⟩:=u;simp only at H;subst H;rw[←o1];exact .hslice hq (by rw[o1];exact B) J (.inr rfl)
               ·have U:A=0:=by omega
                subst U;have G:n=0:=by omega
                subst G;have I:ys=[]:=by have:=c2;simp at this;exact this
                subst I;have bx:L=[]:=by have:=c3.1;simp at this;exact this
                subst bx;have g:=ce (ty:=ty) (b:=some Z) (sLen:=0) (sCap:=0) h0 h1 Y S W X T F (by omega);have bI:be=vs:=by
                 unfold Am.splice at D;split at D
                 ·cases D;simp
                 ·cases D
                subst bI;have a7:σ.heap.set u.block (.cells be f.size true)=σ.heap:=by
                 apply Ga;intro k;rw[DX];split
                 ·rename_i hk;subst hk
                  split
                  ·rw[hid]
                  next R=>rw[Bd (by omega)]
                 ·rfl
                rw[a7];refine⟨.value (a.eval s),a.eval s,w,mu,?_,.inl rfl,(fi (by simp[aW,H,pu]) (by simpa using hs)),h.wr,.refl _ _ _,h.wr.obj⟩;rw[l];simp[g,storeCells]
             ·split at m
              next G=>
               cases m;subst G;have I:ys=[]:=by have:=c2;simp at this;exact this
               subst I;refine⟨.value (a.eval s),a.eval s,w,mu,?_,.inl rfl,(fi (by simp[aW,H,pu]) (by simpa using hs)),h.wr,.refl _ _ _,h.wr.obj⟩;rcases K with⟨cap,l,B,af,V⟩|⟨Z,l,rfl,V⟩
               ·have g:=ce (ty:=ty) (b:=some ⟨q.b,q.o+u.off,none⟩) (sLen:=len) (sCap:=cap) h0 h1 Y S W X T F (by omega);rw[l];simp[g,storeCells]
               ·have g:=ce (ty:=ty) (b:=some Z) (sLen:=0) (sCap:=0) h0 h1 Y S W X T F (by omega);rw[l];simp[g,storeCells]
              ·cases m
            next J=>
             split at m
             next y=>
              cases m;rcases K with⟨cap,l,B,af,V⟩|⟨Z,l,rfl,V⟩
              ·exact M cap ⟨_,l,.inl rfl⟩ (by omega) y
              ·exact M 0 ⟨_,l,.inr rfl⟩ (by omega) y
             ·cases m
        ·cases m
      ·cases m
 ·cases m
end
end
section
variable [Val] [Glo]
section
variable {C:Cfg} {base:Nat} {la:tf} {mu:kl} {σ:St} {a:Act} {w:World}
def Jk(h:SR C base la mu σ a.tmps w){t ty:TJ}{b:Array TypeId}{d x:TG}{H':Tp}{v:Value}(h0:b[0]?=some t)
  (c:DA C t (ke σ.tmps d) (ke σ.tmps x) σ.heap=some (H',v)):Ds C base mu σ.heap w (do pure (.value (←Builtin.copy_ b ty #[a.eval d,a.eval x]))) H' v:=by
 cases c
def GS(h:SR C base la mu σ a.tmps w){t ty:TJ}{b:Array TypeId}{x:TG}{H':Tp}{v:Value}(h0:b[0]?=some t)
  (c:tz C t (ke σ.tmps x) σ.heap=some (H',v)):Ds C base mu σ.heap w (do pure (.value (←Builtin.clear_ b ty #[a.eval x]))) H' v:=by
 cases c
def oX(o:WR C base mu σ.heap w){t:TJ}{e:Addr}{y v:Value}{g f i c b d:Ti}{H:Tp}(n:e.spot=some 1∨H=σ.heap)(j:ko C t e g f i H=some v)(h:VR la mu (.pointer (some e)) y)
  (l:ORel la mu g c) (k:ORel la mu f b) (m:ORel la mu i d):∃v',(Instr.sliceAt t y c b d).run C.P w = .ok v' w/\VR la mu v v':=by
 cases j
def mU{α β:Type}{P:TD}{x:Sem α}{f:α->Sem β}{b:β}(h:As P (x >>= f)=some b):∃a,As P x=some a/\As P (f a)=some b:=by
 induction x with
 |pure a=>exact⟨a,rfl,h⟩
 |program k c=>exact c P h
 |_=>cases h
def ie{P:TD}{kt:TJ}{k:Value}:∀(g c:Th) (i:Nat) (r:Option (Nat×Value)),g.map (·.key)=c.map (·.key)->As P (Instr.findAsking kt k g i)=some r->
  (∀w,(Instr.findAsking kt k c i).run P w = .ok (r.map λp=>(p.1,(c.getD (p.1 - i) default).val)) w)/\∀p,r=some p->i<=p.1/\p.1<i+g.length
 | [],c,i,r,d,h=>by
  have:c=[]:=by cases c<;>simp_all
  subst this;simp[Instr.findAsking,As,Pure.pure]at h;subst h;exact⟨λw=>by simp[Instr.findAsking],λp j=>by cases j⟩
 |e :: g,c,i,r,d,h=>by
  cases c with
  |nil=>simp at d
  |cons f c=>
   simp only[AL,Df]at d;unfold Instr.findAsking at h;obtain⟨b,n,l⟩:=mU h;cases b with
   |true=>
    simp[As,Pure.pure]at l;subst l;refine⟨λw=>?_,λp j=>by cases j;simp⟩;have:=gm n w;rw[d.1]at this;simp[Instr.findAsking,this]
   |false=>
    simp only[Bf,if_false]at l;obtain⟨q,m⟩:=ie g c (i+1) r d.2 l;refine⟨λw=>?_,λp j=>by have:=m p j;simp;omega⟩;have:=gm n w;rw[d.1]at this;have o:(Instr.findAsking kt k (f :: c) i).run P w=(Instr.findAsking kt k c (i+1)).run P w:=by
     simp[Instr.findAsking,this]
    rw[o,q w];cases r with
    |none=>rfl
    |some p=>
     have:=(m p rfl).1;simp only[BB];rw[show p.1 - i=(p.1 - (i+1))+1 by omega];rfl
def ig{kind:TypeDesc}{k:Value}:∀(d c:Th) (i:Nat),d.map (·.key)=c.map (·.key)->
  Instr.findNow kind k c i=(Instr.findNow kind k d i).map λr=>r.map λp=>(p.1,(c.getD (p.1 - i) default).val)
 | [],c,i,g=>by
  have:c=[]:=by cases c<;>simp_all
  subst this;rfl
 |e :: d,c,i,g=>by
  cases c with
  |nil=>simp at g
  |cons f c=>
   simp only[AL,Df]at g;unfold Instr.findNow;rw[g.1];cases q:Instr.sameNow kind k f.key with
   |none=>rfl
   |some b=>
    cases b with
    |true=>simp
    |false=>
     simp only;rw[ig d c (i+1) g.2];have m:∀(l:Th) (j:Nat) (p:Nat×Value),Instr.findNow kind k l j=some (some p)->j<=p.1:=by
      intro l
      induction l with
      |nil=>intro j p h;simp[Instr.findNow]at h
      |cons x l o=>
       intro j p h;unfold Instr.findNow at h;split at h
       ·cases h;exact zY _
       ·have:=o (j+1) p h;omega
       ·cases h
     cases n:Instr.findNow kind k d (i+1)with
     |none=>rfl
     |some r=>
      cases r with
      |none=>rfl
      |some p=>
       have:=m _ _ _ n;simp only[BB];rw[show p.1 - i=(p.1 - (i+1))+1 by omega];rfl
def pV{kind:TypeDesc}{k:Value}:∀(b:Th) (i:Nat) (p:Nat×Value),Instr.findNow kind k b i=some (some p)->i<=p.1/\p.1<i+b.length
 | [],i,p,h=>by simp[Instr.findNow]at h
 |e :: b,i,p,h=>by
  unfold Instr.findNow at h;split at h
  ·cases h;simp
  ·have:=pV b (i+1) p h;simp;omega
  ·cases h
def mJ{kt:TJ}{k:Value}{c:Th}{e:Th}{r:To}(t:c.map (·.key)=e.map (·.key))(h:rE C.P kt k c=some r) :
  (∀w,(Instr.findKey kt k e).run C.P w = .ok (r.map λi=>(i,(e.getD i default).val)) w)/\∀i,r=some i->i<c.length:=by
 unfold rE at h;have f:(c.map bz).map (·.key)=e.map (·.key):=by rw[D9,←t];rfl
 cases m:As C.P (Instr.findKey kt k (c.map bz))with
 |none=>rw[m]at h;cases h
 |some r0=>
  rw[m]at h;cases h;unfold Instr.findKey at m;obtain⟨d,n,g⟩:=mU m;cases l:Instr.findNow d k (c.map bz) 0 with
  |none=>
   rw[l]at g;simp only at g;obtain⟨q,s⟩:=ie (c.map bz) e 0 r0 f g;refine⟨λw=>?_,λi j=>?_⟩
   ·have b:=ig (kind:=d) (k:=k) (c.map bz) e 0 f;rw[l]at b;simp only[Instr.findKey,Sem.run_bind,gm n w,Result.andThen_ok,b,Option.map_none,q w];cases r0<;>simp
   ·cases r0 with
    |none=>cases j
    |some p=>
     cases j;have:=(s p rfl).2;simpa using this
  |some o=>
   rw[l]at g;simp[As,Pure.pure]at g;subst g;refine⟨λw=>?_,λi j=>?_⟩
   ·have b:=ig (kind:=d) (k:=k) (c.map bz) e 0 f;rw[l]at b;simp only[Instr.findKey,Sem.run_bind,gm n w,Result.andThen_ok,b,BB,Sem.run_pure];cases o<;>simp
   ·cases o with
    |none=>cases j
    |some p=>
     cases j;have:=(pV _ _ _ l).2;simpa using this
def vx(m:WR C base mu σ.heap w){id:Nat}{f:Th}{c:Nat}(h:AQ σ.heap id=some (f,c)){p:Pl}(k:mu id=some p) :
  ∃d,w.heap[p.b]?=some (.map d c)/\d.size=f.length/\∀(i:Nat) e,f[i]?=some e->∃e',d[i]?=some e'/\fz mu e e':=by
 unfold AQ at h;split at h
 next j n hid=>
  cases h;obtain⟨q,g,l⟩:=m.obj id _ hid rfl;obtain rfl:p=q:=by rw[k]at g;exact AD g
  exact l
 ·cases h
def J9{id:Nat}{b:Th}{c:Nat}(h:AQ σ.heap id=some (b,c)):σ.heap[id]?=some (.map b c):=by
 unfold AQ at h;split at h
 next d e hid=>cases h;exact hid
 ·cases h
def xm{c:Th}{b:Array MapEntry}(j:b.size=c.length)(h:∀(i:Nat) e,c[i]?=some e->∃e',b[i]?=some e'/\fz mu e e'):c.map (·.key)=b.toList.map (·.key):=by
 apply Ga;intro i;rw[AU,AU];cases d:c[i]? with
 |none=>
  have:b.toList[i]?=none:=by
   rw[qdG]at d ⊢;simp only[qdp];omega
  rw[this,Option.map_none]
 |some e=>
  obtain⟨e',f,g⟩:=h i e d;rw[show b.toList[i]?=some e' by simpa using f];simp[g.1]
def ee{kt:TJ}{k:Value}(h:iV C.P kt k=true)(b:Bool)(w:World):(Instr.checkKey b 10000 kt k).run C.P w = .ok () w:=by
 simp only[iV,uc]at h;cases b with
 |true=>
  obtain⟨u,c⟩:=qbr.1 h.1.1.2;exact gm c w
 |false=>
  obtain⟨u,c⟩:=qbr.1 h.1.2;exact gm c w
def mg{kt:TJ}{k:Value}(h:iV C.P kt k=true):∃d,C.P.underlying kt=some d:=by
 simp only[iV,uc]at h;obtain⟨u,i⟩:=qbr.1 h.1.2;have b:As C.P (Instr.checkKey false (9999+1) kt k)=some u:=i;unfold Instr.checkKey at b;obtain⟨d,c,_⟩:=mU b;cases g:C.P.underlying kt with
 |some d=>exact⟨d,rfl⟩
 |none=>
  unfold underlying at c;obtain⟨p,e,f⟩:=mU c;have:p=C.P:=by simp[As,program]at e;exact e.symm
  subst this;rw[g]at f;cases f
def iJ{kt:TJ}{k:Value}(h:iV C.P kt k=true):fF k=true:=by
 simp only[iV,uc]at h;exact h.1.1.1
def cq{r:Nat}{b:Array MapEntry}{c:Nat}(h:w.heap[r]?=some (.map b c)):(getObj r).run C.P w = .ok (.map b c) w:=by
 simp[getObj,Sem.run,h]
def jc{r:Nat}{b:Array MapEntry}{c:Nat}{o:Obj}(h:w.heap[r]?=some (.map b c)):(setObj r o).run C.P w = .ok () { w with heap:=w.heap.setIfInBounds r o }:=by
 simp[setObj,Sem.run,h]
def VR.map_inv{id:Nat}{c:Value}(h:VR la mu (.map (some id)) c):∃p,mu id=some p/\c = .map (some p.b):=by
 cases h with
 |scalar h=>simp[Am.scalar]at h
 |map h=>exact⟨_,h,rfl⟩
def yu{t:TJ}{z:Value}(h:ey C.P t=some z)(w:World):(zeroValue t).run C.P w = .ok z w:=by
 obtain⟨i,b,c,_⟩:=jx h;simp[zeroValue,typeInfo,b,c]
def qi(Q:WR C base mu σ.heap w){t:TJ}{m J k I v:Value}{ok:Bool}{H:Tp}(M:m = .map none∨H=σ.heap)(F:VR la mu m J)(N:VR la mu k I)(d:dH C t m k ok H=some v) :
  ∃v',(Instr.lookup t J I ok).run C.P w = .ok v' w/\VR la mu v v':=by
 unfold dH at d;split at d
 next T S j=>
  split at d
  ·cases d
  next b=>
   simp only[Cz,qc0]at b;obtain rfl:=mL (iJ b) N;split at d
   ·cases d
   next z G=>
    have h:=yu G w;have g:=(pv G).2.1;obtain⟨R,o⟩:=mg b;split at d
    ·obtain rfl:=cI (a:=.map none) rfl F;cases d;cases ok with
     |true=>
      refine⟨.tuple #[z,.bool false],?_,VRs.tuple (.cons (.of_flat g) (.cons (.scalar rfl) .nil))⟩;simp[Instr.lookup,run_underlying j,ee b,Instr.findKey,run_underlying o,Instr.findNow,h]
     |false=>
      refine⟨z,?_,.of_flat g⟩;simp[Instr.lookup,run_underlying j,ee b,Instr.findKey,run_underlying o,Instr.findNow,h]
    next id=>
     have y:H=σ.heap:=M.resolve_left (by simp);subst y;obtain⟨p,O,rfl⟩:=F.map_inv;split at d
     ·cases d
     next x c AQ=>
      obtain⟨l,u,K,D⟩:=vx Q AQ O;have f:=xm K D;split at d
      ·cases d
      next e=>
       obtain⟨n,B⟩:=mJ (C:=C) f e;cases d;cases ok with
       |true=>
        refine⟨.tuple #[z,.bool false],?_,VRs.tuple (.cons (.of_flat g) (.cons (.scalar rfl) .nil))⟩;simp[Instr.lookup,run_underlying j,cq u,ee b,n w,h]
       |false=>
        refine⟨z,?_,.of_flat g⟩;simp[Instr.lookup,run_underlying j,cq u,ee b,n w,h]
      next i e=>
       obtain⟨n,B⟩:=mJ (C:=C) f e;have r:=B i rfl;obtain⟨s,L,E⟩:=D i x[i] (by simp[r]);have q:(l.toList.getD i default).val=s.val:=by
        rw[List.getD,show l.toList[i]?=some s by simpa using L];rfl
       have A:fA x i=some x[i].val:=by simp[fA,r]
       rw[A]at d;cases d;cases ok with
       |true=>
        refine⟨.tuple #[s.val,.bool true],?_,VRs.tuple (.cons E.2.2.2.up (.cons (.scalar rfl) .nil))⟩;simp[Instr.lookup,run_underlying j,cq u,ee b,n w,-List.getD_eq_getElem?_getD,q]
       |false=>
        refine⟨s.val,?_,E.2.2.2.up⟩;simp[Instr.lookup,run_underlying j,cq u,ee b,n w,-List.getD_eq_getElem?_getD,q]
    ·cases d
 ·cases d
def WR.setMap(m:WR C base mu σ.heap w){id:Nat}{g f:Th}{c c1:Nat}{p:Pl}{d:Array MapEntry}(h:AQ σ.heap id=some (g,c))(j:mu id=some p)
  (l:d.size=f.length) (k:∀(i:Nat) e,f[i]?=some e->∃e',d[i]?=some e'/\fz mu e e') :
  WR C base mu (σ.heap.set id (.map f c1)) { w with heap:=w.heap.setIfInBounds p.b (.map d c1) }/\Evo σ.heap mu w (σ.heap.set id (.map f c1)) mu { w with heap:=w.heap.setIfInBounds p.b (.map d c1) }:=
 m.set (w':={ w with heap:=w.heap.setIfInBounds p.b (.map d c1) }) (x:=.map d c1) (J9 h) rfl j rfl rfl rfl rfl (.map f c1) (λ_=>rfl) ⟨d,rfl,l,k⟩
def tJ{c:Th}{b:Array MapEntry}{e e':MapEntry}(f:b.size=c.length)(k:∀(i:Nat) e,c[i]?=some e->∃e',b[i]?=some e'/\fz mu e e')(j:fz mu e e') :
  (b.push e').size=(c++[e]).length/\∀(i:Nat) x,(c++[e])[i]?=some x->∃x',(b.push e')[i]?=some x'/\fz mu x x':=by
 refine⟨by simp[f],λi x d=>?_⟩;rcases aH d with⟨l,d⟩|⟨rfl,rfl⟩
 ·obtain⟨x',g,h⟩:=k i x d;exact⟨x',by rw[qcB,po (by omega)];exact g,h⟩
 ·exact⟨e',by rw[qcB,mc f.symm],j⟩
def pA{c:Th}{b:Array MapEntry}{j:Nat}{f f':MapEntry->MapEntry}(n:b.size=c.length)(m:∀(i:Nat) e,c[i]?=some e->∃e',b[i]?=some e'/\fz mu e e')
  (l:∀e e',c[j]?=some e->fz mu e e'->fz mu (f e) (f' e')) :
  (b.modify j f').size=(c.modify j f).length/\∀(i:Nat) x,(c.modify j f)[i]?=some x->∃x',(b.modify j f')[i]?=some x'/\fz mu x x':=by
 refine⟨by simp[n],λi x d=>?_⟩;rw[List.getElem?_modify]at d;cases g:c[i]? with
 |none=>rw[g]at d;cases d
 |some e=>
  rw[g]at d;obtain⟨e',o,k⟩:=m i e g;simp only[Option.map_eq_map,BB,BP]at d;refine⟨if j=i then f' e' else e',by rw[qc8];split<;>simp_all,?_⟩;subst d;split
  next h=>subst h;exact l e e' g k
  ·exact k
end
end
section
variable [Val] [Glo]
section
variable {C:Cfg} {base:Nat} {la:tf} {mu:kl} {σ:St} {a:Act} {w:World}
def wW{s:Sem Unit}{w':World}{H':Tp}(h:s.run C.P w = .ok () w')(b:WR C base mu H' w')(c:Evo σ.heap mu w H' mu w'):Ds C base mu σ.heap w (do s;pure .skip) H' undef:=
 ⟨.skip,undef,w',mu,by simp[h],.inr ⟨rfl,rfl⟩,.undef,b,c,b.obj⟩
def jR(h:SR C base la mu σ a.tmps w){t:TJ}{m k x:TG}{H':Tp}{v:Value}(d:cF C t (ke σ.tmps m) (ke σ.tmps k) (ke σ.tmps x) σ.heap=some (H',v)) :
  Ds C base mu σ.heap w (do Instr.mapUpdate t (a.eval m) (a.eval k) (a.eval x);pure .skip) H' v:=by
 have M:=aK h m;have T:=aK h k;have U:=aK h x;unfold cF at d;split at d
 next W V id N B=>
  rw[B]at M;obtain⟨p,E,q⟩:=M.map_inv;split at d
  ·cases d
  next L=>
   simp only[Cz,qc0,uc]at L;obtain⟨⟨l,D⟩,_⟩:=L;have n:=mL (iJ l) T;have s:=fO D U;split at d
   ·cases d
   next O c AQ=>
    obtain⟨P,u,A,y⟩:=vx h.wr AQ E;have g:=xm A y;split at d
    ·cases d
    next b=>
     obtain⟨z,K⟩:=mJ (C:=C) g b;cases d;obtain⟨I,J⟩:=tJ (e:={ key:=ke σ.tmps k,val:=ke σ.tmps x,born:=c }) (e':={ key:=ke σ.tmps k,val:=a.eval x,born:=c }) A y ⟨rfl,iJ l,rfl,s⟩;obtain⟨G,H⟩:=h.wr.setMap (c1:=c+1) AQ E I J;refine wW ?_ G H;rw[q,n];simp[Instr.mapUpdate,run_underlying N,cq u,ee l,z w,jc u]
    next i b=>
     obtain⟨z,K⟩:=mJ (C:=C) g b;have o:=K i rfl;split at d
     next F=>
      cases d;obtain⟨e',Q,R⟩:=y i O[i] (by simp[o]);obtain⟨I,J⟩:=pA (j:=i) (f:=λe=>{ e with key:=ke σ.tmps k,val:=ke σ.tmps x }) (f':=λe=>{ e with key:=ke σ.tmps k,val:=a.eval x }) A y (λe e' _ S=>⟨rfl,iJ l,S.2.2.1,s⟩);obtain⟨G,H⟩:=h.wr.setMap (c1:=c) AQ E I J;refine wW ?_ G H;have r:Instr.sameBits 10000 e'.key (ke σ.tmps k)=true:=by
       rw[R.1];simpa[o]using F
      rw[q,n];simp[Instr.mapUpdate,run_underlying N,cq u,ee l,z w,Q,Instr.keyThatStays,r,jc u]
     ·cases d
 ·cases d
def uk(h:SR C base la mu σ a.tmps w){t:TJ}{m k:TG}{H':Tp}{v:Value}(b:iq C t (ke σ.tmps m) (ke σ.tmps k) σ.heap=some (H',v)) :
  Ds C base mu σ.heap w (do pure (.value (←Instr.mapEntry t (a.eval m) (a.eval k)))) H' v:=by
 cases b
def pE(h:SR C base la mu σ a.tmps w){t:TJ}{m s x:TG}{H':Tp}{v:Value}(b:eZ (ke σ.tmps m) (ke σ.tmps s) (ke σ.tmps x) σ.heap=some (H',v)) :
  Ds C base mu σ.heap w (do Instr.entryStore t (a.eval m) (a.eval s) (a.eval x);pure .skip) H' v:=by
 cases b
def yH(h:SR C base la mu σ a.tmps w){t ty:TJ}{b:Array TypeId}{m k:TG}{H':Tp}{v:Value}(h0:b[0]?=some t)
  (c:nC C t (ke σ.tmps m) (ke σ.tmps k) σ.heap=some (H',v)):Ds C base mu σ.heap w (do pure (.value (←Builtin.delete_ b ty #[a.eval m,a.eval k]))) H' v:=by
 cases c
def kT(h:SR C base la mu σ a.tmps w)(m:base<=w.heap.size){t:TJ}{r:Tg}
  (j:nZ C t (r.map (ke σ.tmps))=true) :
  Ds C base mu σ.heap w (do pure (.value (←Instr.makeMap t (r.map a.eval)))) (σ.heap++[.map [] 0]) (.map (some σ.heap.length)):=by
 have f:=h.wr.new m (w':=w.alloc (.map #[] 0)) (x:=.map #[] 0) rfl rfl rfl rfl (.map [] 0) ⟨w.heap.size,0,0,0⟩ rfl ⟨#[],rfl,rfl,λi e h=>by simp at h⟩ (λ_=>rfl);refine⟨.value (.map (some w.heap.size)),_,_,_,?_,.inl rfl,.map (bU _ _ _),f.1,f.2.1,f.2.2⟩;cases r with
 |none=>simp[Instr.makeMap]
 |some x=>
  simp only[nZ,BB,uc]at j;obtain⟨n,g⟩:=qbr.1 j.1;obtain⟨k,o⟩:=jL g (aK h x);have b:∃d c,C.P.underlying t=some (.map d c):=by
   have l:=j.2;split at l
   next d c b=>exact⟨d,c,b⟩
   ·cases l
  obtain⟨d,c,b⟩:=b;simp[Instr.makeMap,run_underlying b,o,asInt,asIntOf]
end
end
section
variable [Val] [Glo]
section
variable {C:Cfg} {base:Nat} {la:tf} {mu:kl} {σ:St} {a:Act} {w:World}
def qo{v c:Value}{b:Bool}(d:bc v=some b)(h:VR la mu v c):bc c=some b/\dt c=dt v:=by
 cases h with
 |poison c=>simp[bc]at d
 |sym _=>simp[bc]at d
 |scalar h=>exact⟨d,rfl⟩
 |agg _ _=>simp[bc]at d
 |tuple _ _=>simp[bc]at d
 |func _ _ _ _ _=>simp[bc]at d ⊢;exact⟨d,rfl⟩
 |yield h=>simp[bc]at d ⊢;exact⟨d,rfl⟩
 |lptr h=>simp[bc]at d ⊢;exact⟨d,rfl⟩
 |hptr h=>simp[bc]at d ⊢;exact⟨d,rfl⟩
 |gptr=>simp[bc]at d ⊢;exact⟨d,rfl⟩
 |hslice h g f e=>simp[bc]at d ⊢;exact⟨d,rfl⟩
 |hslice0 e=>simp[bc]at d ⊢;exact⟨d,rfl⟩
 |gslice f e=>simp[bc]at d ⊢;exact⟨d,rfl⟩
 |gslice0 e=>simp[bc]at d ⊢;exact⟨d,rfl⟩
 |map h=>simp[bc]at d ⊢;exact⟨d,rfl⟩
def fh{x y:Value}{b:Bool}(h:kU x y=some b):∃d c,bc x=some d/\bc y=some c/\((d=true/\b=c)∨(c=true/\b=d)):=by
 unfold kU at h;split at h
 next g e f=>cases h;exact⟨true,b,e,f,.inl ⟨rfl,rfl⟩⟩
 next g _ e f=>cases h;exact⟨b,true,e,f,.inr ⟨rfl,rfl⟩⟩
 ·cases h
def jS{v:Value}{b:Bool}(h:bc v=some b)(e:dt v=1):(b=true/\v = .slice none 0 0)∨(b=false/\∃d n c,v = .slice (some d) n c):=by
 unfold bc at h;split at h<;>first|(simp[dt]at e;done)|(cases h;exact .inl ⟨rfl,rfl⟩)|(cases h;exact .inr ⟨rfl,_,_,_,rfl⟩)|cases h
def ot{v:Value}{b:Bool}(h:bc v=some b)(c:dt v=2):(b=true/\v = .map none)∨(b=false/\∃r,v = .map (some r)):=by
 unfold bc at h;split at h<;>first|(simp[dt]at c;done)|(cases h;exact .inl ⟨rfl,rfl⟩)|(cases h;exact .inr ⟨rfl,_,rfl⟩)|cases h
def lT{v:Value}{b:Bool}(h:bc v=some b)(c:dt v=3):(b=true/\v = .nilFunc)∨(b=false/\∃f x y,v = .func f x y):=by
 unfold bc at h;split at h<;>first|(simp[dt]at c;done)|(cases h;exact .inl ⟨rfl,rfl⟩)|(cases h;exact .inr ⟨rfl,_,_,_,rfl⟩)|cases h
def ou{v:Value}{b:Bool}(h:bc v=some b)(c:dt v=4):(b=true/\v = .pointer none)∨(b=false/\∃r,v = .pointer (some r)):=by
 unfold bc at h;split at h<;>first|(simp[dt]at c;done)|(cases h;exact .inl ⟨rfl,rfl⟩)|(cases h;exact .inr ⟨rfl,_,rfl⟩)|cases h
def uH{t:TJ}{x y:Value}{b:Bool}(s:kU x y=some b)(j:sa C.P t x y=true):(Op.equal t x y).run C.P w = .ok b w:=by
 obtain⟨z,n,l,m,g⟩:=fh s;unfold sa at j;split at j
 next d q=>
  simp only[uc,beq_iff_eq]at j;obtain⟨c,f⟩:=j;have u:=run_underlying q w;have o:Op.equal t x y=Op.equalIn (9999+1) t x y:=rfl;rw[o];unfold Op.equalIn;rw[Sem.run_bind,u,Result.andThen_ok];cases d with
  |slice e=>
   have h:=jS l (by rw[←c];rfl);have i:=jS m (by rw[←f];rfl);rcases h with⟨rfl,rfl⟩|⟨rfl,_,_,_,rfl⟩<;>rcases i with⟨rfl,rfl⟩|⟨rfl,_,_,_,rfl⟩<;>simp at g<;>subst g<;>rfl
  |map k e=>
   have h:=ot l (by rw[←c];rfl);have i:=ot m (by rw[←f];rfl);rcases h with⟨rfl,rfl⟩|⟨rfl,_,rfl⟩<;>rcases i with⟨rfl,rfl⟩|⟨rfl,_,rfl⟩<;>simp at g<;>subst g<;>rfl
  |func p r v=>
   have h:=lT l (by rw[←c];rfl);have i:=lT m (by rw[←f];rfl);rcases h with⟨rfl,rfl⟩|⟨rfl,_,_,_,rfl⟩<;>rcases i with⟨rfl,rfl⟩|⟨rfl,_,_,_,rfl⟩<;>simp at g<;>subst g<;>rfl
  |pointer e=>
   have h:=ou l (by rw[←c];rfl);have i:=ou m (by rw[←f];rfl);rcases h with⟨rfl,rfl⟩|⟨rfl,_,rfl⟩<;>rcases i with⟨rfl,rfl⟩|⟨rfl,_,rfl⟩<;>simp at g<;>subst g<;>rfl
  |_=>
   simp only[kV]at c;cases x<;>simp[dt]at c
 ·cases j
def xv{c d c1 c2:Value}{b:Bool}{t:TJ}(h1:VR la mu c c1)(j:VR la mu d c2)(k:kU c d=some b)(e:sa C.P t c d=true):kU c1 c2=some b/\sa C.P t c1 c2=true:=by
 obtain⟨p,f,g,h,i⟩:=fh k;obtain⟨l,m⟩:=qo g h1;obtain⟨n,o⟩:=qo h j;refine⟨?_,by unfold sa at e ⊢;rw[m,o];exact e⟩;unfold kU;rw[l,n];rcases i with⟨rfl,rfl⟩|⟨rfl,rfl⟩
 ·rfl
 ·cases b<;>rfl
def nL{c:BinOp}{t:TJ}{x y:TG}{c1 c2:Value}{b:Bool}(f:kU c1 c2=some b):(eqGuard c t x y c1 c2).run C.P w = .ok () w:=by
 obtain⟨g,d,e,h,i⟩:=fh f;cases c1<;>(try (simp[bc]at e;done))<;>cases c<;>rfl
def binOp_eql{t:TJ}{c1 c2:Value}{b:Bool}(f:kU c1 c2=some b):binOp .eql t c1 c2=(do pure (.bool (←Op.equal t c1 c2))):=by
 obtain⟨g,c,d,e,h⟩:=fh f;cases c1<;>(try (simp[bc]at d;done))<;>cases c2<;>(try (simp[bc]at e;done))<;>rfl
def binOp_neq{t:TJ}{c1 c2:Value}{b:Bool}(f:kU c1 c2=some b):binOp .neq t c1 c2=(do pure (.bool (!(←Op.equal t c1 c2)))):=by
 obtain⟨g,c,d,e,h⟩:=fh f;cases c1<;>(try (simp[bc]at d;done))<;>cases c2<;>(try (simp[bc]at e;done))<;>rfl
def VR.func_inv{g:TK}{x y:Tj}{c:Value}(h:VR la mu (.func (.func g) x y) c):∃x' y',c = .func (.func g) x' y'/\VRs la mu x.toList x'.toList/\VRs la mu y.toList y'.toList:=by
 cases h with
 |scalar h=>simp[Am.scalar]at h
 |func _ j k e f=>
  exact⟨_,_,rfl,⟨by simpa using j,λi u v b d=>e i u v (by simpa using b) (by simpa using d)⟩,⟨by simpa using k,λi u v b d=>f i u v (by simpa using b) (by simpa using d)⟩⟩
def VR.yield_inv{l:Nat}{x y:Tj}{c:Value}(h:VR la mu (.func (.yield l) x y) c):∃p,mu l=some p/\c = .func (.yield p.b) #[] #[]:=by
 cases h with
 |scalar h=>simp[Am.scalar]at h
 |func d _ _ _ _=>exact absurd rfl (d l)
 |yield h=>exact⟨_,h,rfl⟩
def VR.slice_len{b:Option Addr}{n cx:Nat}{c:Value}(h:VR la mu (.slice b n cx) c):∃a' cap,c = .slice a' n cap/\(∀m,b.isSome->cx=m+1->cap=m):=by
 cases h with
 |scalar h=>exact⟨_,_,rfl,λm g _=>by cases b with|none=>cases g|some a=>simp[Am.scalar]at h⟩
 |hslice h i f e=>exact⟨_,_,rfl,λm _ d=>by omega⟩
 |hslice0 e=>exact⟨_,_,rfl,λm _ d=>by omega⟩
 |gslice f e=>exact⟨_,_,rfl,λm _ d=>by omega⟩
 |gslice0 e=>exact⟨_,_,rfl,λm _ d=>by omega⟩
def F6(h:SR C base la mu σ a.tmps w)(c:Array (Nat×Operand))(f:∀p∈c.toList,aw (ke σ.tmps p.2)=false) :
  RP la mu (c.toList.map λp=>(p.1,ke σ.tmps p.2)) (c.map λ(i,x)=>(i,a.eval x)).toList:=by
 rw[Iq];refine⟨by simp,λi p q b d=>?_⟩;rw[AU]at b d;cases e:c.toList[i]? with
 |none=>rw[e]at b;cases b
 |some x=>
  rw[e]at b d;cases b;cases d;exact⟨rfl,f x (Af e),aK h x.2⟩
def ch{c:Call}{o:Oper}{b:Builtin}(e:o.op = .call c)(g:c.callee = .builtin b) :
  execOp a.eval o=builtin b c.argTypes o.type (c.args.map λ| .const _=>true|_=>false) (c.args.map a.eval):=by
 obtain⟨dst,h,f,pos,d,guard⟩:=o;simp only at e;subst e;simp only[execOp,resolve,g];rfl
def qX{c:Call}{s x:Value}(h:c.args.toList.map (ke σ.tmps)=[s,x]):∃xs xx,c.args = #[xs,xx]/\s=ke σ.tmps xs/\x=ke σ.tmps xx:=by
 obtain⟨l,b⟩ : ∃l,c.args=l.toArray:=⟨c.args.toList,by simp⟩;rw[b]at h
 match l,h with
 | [u,v],h=>
  simp at h;exact⟨u,v,by rw[b],h.1.symm,h.2.symm⟩
def qW{c:Call}{s:Value}(h:c.args.toList.map (ke σ.tmps)=[s]):∃xs,c.args = #[xs]/\s=ke σ.tmps xs:=by
 obtain⟨l,b⟩ : ∃l,c.args=l.toArray:=⟨c.args.toList,by simp⟩;rw[b]at h
 match l,h with
 | [u],h=>
  simp at h;exact⟨u,by rw[b],h.symm⟩
def lZ{s:Sem Value}{v:Value}(h:∃v',s.run C.P w = .ok v' w/\VR la mu v v'):nh C base la mu σ w (do pure (.value (←s))) (.val v):=by
 obtain⟨v',b,c⟩:=h;exact gz b c
def ll(h:SR C base la mu σ a.tmps w){o:Oper}{e:Eff}(d:∀cs b,o.op≠.select cs b)(c:cH C (ke σ.tmps) o=some e):nh C base la mu σ w (execOp a.eval o) e:=by
 obtain⟨v,rfl,f⟩:=zk h d c;exact f
def qZ(h:SR C base la mu σ a.tmps w)(hb:base<=w.heap.size){c:Call}{o:Oper}{b:Builtin}{e:Eff}(z:o.op = .call c)(D:c.callee = .builtin b)
  (j:bb C (ke σ.tmps) b (c.args.toList.map (ke σ.tmps)) c.argTypes o=some e):nh C base la mu σ w (execOp a.eval o) e:=by
 have F:∀U b,o.op≠.select U b:=by rw[z];intro U b h;cases h
 unfold bb at j;split at j
 next s x t f l=>
  obtain⟨G,xx,g,rfl,rfl⟩:=qX f;split at j
  ·cases j
  next i=>
   cases j;simp only[Ck,not_or,Cz]at i;obtain⟨H,K⟩ : ∃H,c.argTypes[1]?=some H:=by
    cases B:c.argTypes[1]? with
    |none=>simp[B]at i
    |some H=>exact⟨H,rfl⟩
   rw[K]at i;have hd:∃d,C.P.underlying H=some d/\od d=false:=by
    have E:=i.1;simp only[Option.any_some]at E;split at E
    ·cases E
    ·cases E
    next S T=>
     cases y:C.P.underlying H with
     |none=>exact absurd y T
     |some d=>
      refine⟨d,rfl,?_⟩;cases d<;>first|rfl|exact absurd y (S _)
   obtain⟨d,O,Q⟩:=hd;intro M v A;have:=yw (ty:=o.type) h hb l K O Q A;rw[ch z D,g];simpa[builtin]using this
 next x t f l=>
  obtain⟨G,g,rfl⟩:=qW f;have B:=aK h G;split at j
  next L X n V y u=>
   cases j;rw[u]at B;obtain⟨W,I,r,_⟩:=B.slice_len;rw[ch z D,g];exact⟨.int .i64 n,by simp[builtin,Builtin.len_,l,run_underlying y,r,goInt],.scalar rfl⟩
  next kt et id y u=>
   cases j;rw[u]at B;obtain⟨p,hp,r⟩:=B.map_inv;intro v A;cases R:AQ σ.heap id with
   |none=>simp[R]at A
   |some q=>
    obtain⟨es,cl⟩:=q;simp only[R,BB,BP]at A;subst A;obtain⟨N,Y,Z,h3⟩:=vx h.wr R hp;rw[ch z D,g];refine⟨.int .i64 N.size,by simp[builtin,Builtin.len_,l,run_underlying y,r,cq Y,goInt],by rw[Z];exact .scalar rfl⟩
  next n L y=>
   cases j;rw[ch z D,g];exact⟨.int .i64 n,by simp[builtin,Builtin.len_,l,run_underlying y,goInt],.scalar rfl⟩
  ·exact ll h F j
 next x t f l=>
  obtain⟨G,g,rfl⟩:=qW f;have B:=aK h G;split at j
  next L X n V y u=>
   cases j;rw[u]at B;obtain⟨W,I,r,J⟩:=B.slice_len;have:=J V rfl rfl;subst this;rw[ch z D,g];exact⟨.int .i64 I,by simp[builtin,Builtin.cap_,l,run_underlying y,r,goInt],.scalar rfl⟩
  next L y u=>
   cases j;rw[u]at B;have r:=cI (a:=.slice none 0 0) rfl B;rw[ch z D,g];exact⟨.int .i64 0,by simp[builtin,Builtin.cap_,l,run_underlying y,r,goInt],.scalar rfl⟩
  next n L y=>
   cases j;rw[ch z D,g];exact⟨.int .i64 n,by simp[builtin,Builtin.cap_,l,run_underlying y,goInt],.scalar rfl⟩
  ·cases j
 next d x t f l=>
  obtain⟨G,xx,g,rfl,rfl⟩:=qX f;cases j;intro M v A;have:=Jk (ty:=o.type) h l A;rw[ch z D,g];simpa[builtin]using this
 next m k t f l=>
  obtain⟨G,xx,g,rfl,rfl⟩:=qX f;cases j;intro M v A;have:=yH (ty:=o.type) h l A;rw[ch z D,g];simpa[builtin]using this
 next x t f l=>
  obtain⟨G,g,rfl⟩:=qW f;cases j;intro M v A;have:=GS (ty:=o.type) h l A;rw[ch z D,g];simpa[builtin]using this
 ·exact ll h F j
def yA(h:SR C base la mu σ a.tmps w)(O:base<=w.heap.size){c:Call}{o:Oper}{e:Eff}(F:o.op = .call c)(d:fV C (ke σ.tmps) c o=some e):nh C base la mu σ w (execOp a.eval o) e:=by
 unfold fV at d;simp only at d;split at d
 next b D=>
  exact qZ h O F D d
 ·cases d
 next f D=>
  split at d
  ·cases d
  next k=>
   simp only[Cz,qc0]at k;have j:=(rz h c.args).down k;have z:=aK h f;have q:∀B x y,a.eval f = .func B x y->(execOp a.eval o).run C.P w=(invoke (.fn B y) (x++c.args.map a.eval)).run C.P w:=by
    intro B x y m;obtain⟨dst,S,J,pos,A,guard⟩:=o;simp only at F;subst F;simp[execOp,resolve,D,m,Deferred.ofValue]
   split at d
   next g first r s=>
    split at d
    next E=>
     cases d;rw[s]at z;obtain⟨K,L,m,H,I⟩:=z.func_inv;have n:first.toList.all aP=true/\r.toList.all aP=true:=by simpa[noLoc]using E
     have M:VRs Az mu first.toList K.toList:=⟨H.1,λi u v t G=>jp (cR n.1 t) (H.2 i u v t G)⟩
     have N:VRs Az mu r.toList L.toList:=⟨I.1,λi u v t G=>jp (cR n.2 t) (I.2 i u v t G)⟩;refine⟨K++c.args.map a.eval++L,?_,?_⟩
     ·simp only[UN];exact(M.append j).append N
     ·rw[q _ _ _ m];rfl
    ·cases d
   next l first r s=>
    split at d
    next R=>
     cases d;rw[s]at z;obtain⟨p,Q,m⟩:=z.yield_inv;refine⟨p,#[]++c.args.map a.eval,Q,by simpa using j,?_⟩;rw[q _ _ _ m];rfl
    ·cases d
   ·cases d
def wK(h:SR C base la mu σ a.tmps w)(L:base<=w.heap.size){pts:Tx}{o:Oper}{e:Eff}(g:ao C pts (ke σ.tmps) o=some e):nh C base la mu σ w (execOp a.eval o) e:=by
 obtain⟨dst,op,type,pos,after,guard⟩:=o;cases op with
 |move x=>simp only[ao]at g;cases g;exact⟨_,rfl,aK h x⟩
 |assign x=>simp only[ao]at g;cases g;exact⟨_,rfl,aK h x⟩
 |pick c x y=>
  simp only[ao]at g;split at g
  next q hq=>
   cases g;have M:=aK h c;rw[hq]at M;have af:=M.bool;refine⟨if q then a.eval x else a.eval y,by simp[execOp,af,asBool],?_⟩;cases q
   ·exact aK h y
   ·exact aK h x
  ·cases g
 |alloc t=>
  simp only[ao]at g;cases V:ey C.P t with
  |none=>rw[V]at g;cases g
  |some z=>
   rw[V,AP]at g;have ay:=yu V w;have:=lR h L (VR.of_flat (pv V).2.1) g;have S:(execOp a.eval { dst,op:=.alloc t,type,pos,after,guard }).run C.P w=(do pure (.value (←Instr.box t z)):Sem Next).run C.P w:=by
    simp[execOp,Instr.alloc,Instr.box,ay]
   revert this;cases e<;>simp only[nh,uU,Ds,S]<;>exact id
 |box t x=>simp only[ao]at g;exact lR h L (aK h x) g
 |build t N=>
  simp only[ao]at g;split at g
  next G=>
   cases E:tq C t (N.toList.map λp=>(p.1,ke σ.tmps p.2))with
   |none=>rw[E]at g;cases g
   |some v=>
    rw[E]at g;cases g;have I:=F6 h N λp I=>by
     have:=qab.1 G p I;simpa using this
    exact lZ (GM E I)
  ·cases g
 |buildSlice t n N=>
  simp only[ao]at g;split at g
  next G=>
   have ar:∀p∈N.toList,aw (ke σ.tmps p.2)=false:=λp I=>by
    have:=qab.1 G p I;cases A:ke σ.tmps p.2 with
    |tuple vs=>
     rw[A]at this;have:=qab.1 this (.tuple vs) (by simp[Value.cells]);simp only[bf,aG,uc]at this;simp[aw,this.2]
    |_=>rfl
   have I:=F6 h N ar;cases E:eU C t n (N.toList.map λp=>(p.1,ke σ.tmps p.2))with
   |none=>rw[E]at g;cases g
   |some r=>
    rw[E]at g;cases g;intro K v A;cases A;exact px h L I (λp I=>by
     obtain⟨q,hq,rfl⟩:=qaz.1 I;exact qab.1 G q hq) E
  ·cases g
 |load t x=>simp only[ao]at g;exact yR h g
 |store t x y=>simp only[ao]at g;exact wp h g
 |nilCheck x=>
  simp only[ao]at g;have D:=aK h x;split at g
  next ad A=>
   cases g;rw[A]at D;cases M:a.eval x with
   |pointer p=>
    rw[M]at D;cases p with
    |none=>cases D
    |some p=>exact⟨_,by simp[execOp,M],D⟩
   |_=>rw[M]at D;cases D<;>(rename_i j;simp[Am.scalar]at j)
  next f u v A=>
   cases g;rw[A]at D;obtain⟨u',T,F,_,_⟩:=D.func_inv;rw[F]at D;exact⟨_,by simp[execOp,F],D⟩
  next f u v A=>
   cases g;rw[A]at D;obtain⟨p,_,F⟩:=D.yield_inv;rw[F]at D;exact⟨_,by simp[execOp,F],D⟩
  ·cases g
 |binOp op t x y yt=>
  have B:cH C (ke σ.tmps) { dst,op:=.binOp op t x y yt,type,pos,after,guard }=some e->nh C base la mu σ w (execOp a.eval { dst,op:=.binOp op t x y yt,type,pos,after,guard }) e:=
   λg=>ll h (by intro Y b h;cases h) g
  simp only[ao]at g;split at g
  ·split at g
   next b hn=>
    split at g
    next ho=>
     cases g;obtain⟨J,n2⟩:=xv (aK h x) (aK h y) hn ho;refine⟨.bool b,?_,.scalar rfl⟩;simp only[execOp,Sem.run_bind,nL J,Result.andThen_ok,binOp_eql J,uH J n2,Sem.run_pure]
    ·cases g
   ·exact B g
  ·split at g
   next b hn=>
    split at g
    next ho=>
     cases g;obtain⟨J,n2⟩:=xv (aK h x) (aK h y) hn ho;refine⟨.bool !b,?_,.scalar rfl⟩;simp only[execOp,Sem.run_bind,nL J,Result.andThen_ok,binOp_neq J,uH J n2,Sem.run_pure]
    ·cases g
   ·exact B g
  ·exact B g
 |unOp op t x=>simp only[ao]at g;exact ll h (by intro Y b h;cases h) g
 |convert s d x=>simp only[ao]at g;exact ll h (by intro Y b h;cases h) g
 |makeFunc fn first O=>
  simp only[ao]at g;split at g
  ·cases g
  next an=>
   cases g;refine⟨.func fn (first.map a.eval) (O.map a.eval),by simp[execOp,Instr.makeFunc],?_⟩;have r1:=rz h first
   have r2:=rz h O;refine .func (λl hl=>an l hl) (by simp) (by simp) (λi u v H A=>r1.2 i u v (by simpa using H) (by simpa using A)) (λi u v H A=>r2.2 i u v (by simpa using H) (by simpa using A))
 |makeMap t r=>
  simp only[ao]at g;split at g
  next hr=>
   cases g;intro K v A;cases A;exact kT h L hr
  ·cases g
 |makeSlice t l c=>
  simp only[ao]at g;cases g;intro K v A;exact rW h L A
 |slice t x W U X=>
  have B:cH C (ke σ.tmps) { dst,op:=.slice t x W U X,type,pos,after,guard }=some e->nh C base la mu σ w (execOp a.eval { dst,op:=.slice t x W U X,type,pos,after,guard }) e:=
   λg=>ll h (by intro Y b h;cases h) g
  have D:=aK h x;have o1:=ORel.map W λx=>aK h x;have o2:=ORel.map U λx=>aK h x;have o3:=ORel.map X λx=>aK h x;simp only[ao]at g;split at g
  next ad A=>
   rw[A]at D;split at g
   next ax=>
    cases j:ko C t ad (W.map (ke σ.tmps)) (U.map (ke σ.tmps)) (X.map (ke σ.tmps)) []with
    |none=>rw[j]at g;cases g
    |some v=>
     rw[j]at g;cases g;exact lZ (oX h.wr (.inl ax) j D o1 o2 o3)
   ·cases g;intro v A;obtain⟨T,Q,R⟩:=oX h.wr (.inr rfl) A D o1 o2 o3;exact gz Q R
  ·unfold oz at g;split at g
   next v j=>
    cases g;exact lZ (Ib j D o1 o2 o3)
   ·exact B g
 |fieldAddr t x f=>
  simp only[ao]at g;cases j:fK C t (ke σ.tmps x) f with
  |none=>rw[j]at g;cases g
  |some v=>rw[j]at g;cases g;exact lZ (rB j (aK h x))
 |field t x f=>
  simp only[ao]at g;cases j:tM C t (ke σ.tmps x) f with
  |none=>rw[j]at g;cases g
  |some v=>rw[j]at g;cases g;exact lZ (Hf j (aK h x))
 |indexAddr t x i=>
  simp only[ao]at g;cases j:eP C t (ke σ.tmps x) (ke σ.tmps i)with
  |none=>rw[j]at g;cases g
  |some v=>rw[j]at g;cases g;exact lZ (rP j (aK h x) (aK h i))
 |index t x i=>
  simp only[ao]at g;cases j:lP C t (ke σ.tmps x) (ke σ.tmps i)with
  |none=>rw[j]at g;cases g
  |some v=>rw[j]at g;cases g;exact lZ (Ht j (aK h x) (aK h i))
 |lookup t m k ok=>
  simp only[ao]at g;have hm:=aK h m;have hk:=aK h k;split at g
  next ap=>
   rw[ap]at hm;cases j:dH C t (.map none) (ke σ.tmps k) ok []with
   |none=>rw[j]at g;cases g
   |some v=>rw[j]at g;cases g;exact lZ (qi h.wr (.inl rfl) hm hk j)
  ·cases g;intro v A;obtain⟨T,Q,R⟩:=qi h.wr (.inr rfl) hm hk A;exact gz Q R
 |mapUpdate t m k v=>simp only[ao]at g;cases g;intro K u H;exact jR h H
 |insert t m k v=>simp only[ao]at g;cases g;intro K u H;exact jR h H
 |mapEntry t m k=>simp only[ao]at g;cases g;intro K u H;exact uk h H
 |entryStore t m s v=>simp only[ao]at g;cases g;intro K u H;exact pE h H
 |extract t i=>
  simp only[ao]at g;have ht:=aK h t;split at g
  next vs A=>
   split at g
   ·cases g
   next aE=>
    cases j:vs[i]? with
    |none=>rw[j]at g;cases g
    |some v=>
     rw[j]at g;cases g;rw[A]at ht;obtain⟨ds,F,ag⟩:=ht.untuple (by omega);obtain⟨T,Q,R⟩:=ag.get (i:=i) (by simpa using j);refine⟨T,?_,R⟩;have Z:ds[i]?=some T:=by simpa using Q
     simp[execOp,Instr.extract,F,Z]
  ·cases g
 |call c=>simp only[ao]at g;exact yA h L rfl g
 |_=>simp only[ao]at g;cases g
end
end
section
variable [Val]
section
variable [Glo]
def Marks(mu:kl)(H:Tp)(w₀ w:World)(ds:List Deferred):Prop:=
 ∃a:List Nat,ds=a.map (λr=>({ target:=.collected r,args:=#[] }:Deferred))/\a.Nodup/\∀r∈a,w₀.heap.size<=r/\w.heap[r]?=some (.deferred (some []))/\¬Own mu H r
structure FI(C:Cfg)(base:Nat)(H₀:Tp)(mu₀:kl)(w₀:World)(la:tf)(mu:kl)(σ:St)(a:Act)(w:World):Prop where
 sr:SR C base la mu σ a.tmps w
 evo:Evo H₀ mu₀ w₀ σ.heap mu w
 fresh:∀s b,la s=some b->w₀.heap.size<=b
 marks:Marks mu σ.heap w₀ w a.defers
 low:base<=w₀.heap.size
end
def dO(C:Cfg)(f:TK)(args:Tk)(H:Tp)(r:Value)(H':Tp):Prop:=
 ∀(_:Glo) (a:Nat) (mu:kl) (w:World) (args':Tj),a<=w.heap.size->VRs Az mu args args'.toList->WR C a mu H w->∀cs,
  ∃v b w',VR Az b r v/\WR C a b H' w'/\Evo H mu w H' b w'/\(callFunc f args').run C.P w = .ok (.enter f args') w/\
   ∃fr,Steps C.P (lone (Frame.enter C.P f args' .normal) cs w) (lone fr cs w')/\fr.fn=f/\fr.leaving C.P w' (.returned v)
def MW(C:Cfg)(l:Nat)(args:Tk)(H:Tp)(r:Value)(H':Tp):Prop:=
 ∀(_:Glo) (a:Nat) (mu:kl) (w:World) (args':Tj) (p:Pl),a<=w.heap.size->mu l=some p->VRs Az mu args args'.toList->WR C a mu H w->∀c cs,
  ∃v f w' g e assign d,VR Az f r v/\WR C a f H' w'/\Evo H mu w H' f w'/\(Instr.yield p.b args').run C.P w = .ok (.round p.b g e assign d) w/\
   Steps C.P (lone (Frame.round p.b g e assign d .normal) (c :: cs) w) (lone (c.finish v) cs w')
structure BOk(C:Cfg)(B:Below):Prop where
 call:∀f args H r H',B.call f args H r H'->dO C f args H r H'
 yield:∀l args H r H',B.yield l args H r H'->MW C l args H r H'
section
variable [Glo]
section machine
abbrev _root_.Tw:=List Item
variable {P:TD} {b:Frame} {a:Act} {k:Tw} {cs:List Frame} {w w':World} {ops:Tl} {i:Nat} {rest:Tx} {o:Oper}
def dv{v:Value}(f:ops[i]?=some o)(j:Region.wanted o (yielded ops a.tmps)=true)(g:∀c,o.op≠.defer c)(h:(execOp a.eval o).run P w = .ok (.value v) w') :
  step P (lone (b.atR a (.inRegion ops (i :: rest) :: k)) cs w) = .next (lone (b.atR (a.put o.dst v) (.inRegion ops rest :: k)) cs w'):=by
 have e:=stepGR_op (P:=P) (b:=b) (k:=k) (cs:=cs) (w:=w) (rest:=rest) f j;rw[Oper.semAt_eq _ _ _ g]at e;have d:(b.atR a (.inRegion ops (i :: rest) :: k)).finish v=b.atR (a.put o.dst v) (.inRegion ops rest :: k):=by rw[Frame.finish_atR,f];rfl
 refine step_lone_go ?_;rw[e,←d];simp[stepG.apply,Sem.runT_eq,h]
def qK(f:ops[i]?=some o)(j:Region.wanted o (yielded ops a.tmps)=true)(g:∀c,o.op≠.defer c)(h:(execOp a.eval o).run P w = .ok .skip w') :
  step P (lone (b.atR a (.inRegion ops (i :: rest) :: k)) cs w) = .next (lone (b.atR (a.put o.dst undef) (.inRegion ops rest :: k)) cs w'):=by
 have e:=stepGR_op (P:=P) (b:=b) (k:=k) (cs:=cs) (w:=w) (rest:=rest) f j;rw[Oper.semAt_eq _ _ _ g]at e;have d:(b.atR a (.inRegion ops (i :: rest) :: k)).finish undef=b.atR (a.put o.dst undef) (.inRegion ops rest :: k):=by rw[Frame.finish_atR,f];rfl
 refine step_lone_go ?_;rw[e,←d];simp[stepG.apply,Sem.runT_eq,h]
def zI{f:TK}{args:Tj}(g:ops[i]?=some o)(j:Region.wanted o (yielded ops a.tmps)=true)(e:∀c,o.op≠.defer c)(h:(execOp a.eval o).run P w = .ok (.enter f args) w') :
  step P (lone (b.atR a (.inRegion ops (i :: rest) :: k)) cs w) = .next (lone (Frame.enter P f args .normal) (b.atR a (.inRegion ops (i :: rest) :: k) :: cs) w'):=by
 have d:=stepGR_op (P:=P) (b:=b) (k:=k) (cs:=cs) (w:=w) (rest:=rest) g j;rw[Oper.semAt_eq _ _ _ e]at d;exact step_lone_go (by rw[d];simp[stepG.apply,Sem.runT_eq,h,Frame.atR])
def Ig{l:Nat}{f:TK}{e:Tj}{assign d:Code}(j:ops[i]?=some o)(n:Region.wanted o (yielded ops a.tmps)=true)(h:∀c,o.op≠.defer c)
  (m:(execOp a.eval o).run P w = .ok (.round l f e assign d) w') :
  step P (lone (b.atR a (.inRegion ops (i :: rest) :: k)) cs w) = .next (lone (Frame.round l f e assign d .normal) (b.atR a (.inRegion ops (i :: rest) :: k) :: cs) w'):=by
 have g:=stepGR_op (P:=P) (b:=b) (k:=k) (cs:=cs) (w:=w) (rest:=rest) j n;rw[Oper.semAt_eq _ _ _ h]at g;exact step_lone_go (by rw[g];simp[stepG.apply,Sem.runT_eq,m,Frame.atR])
def tQ(c:ops[i]?=some o)(v:Value):(b.atR a (.inRegion ops (i :: rest) :: k)).finish v=b.atR (a.put o.dst v) (.inRegion ops rest :: k):=by
 rw[Frame.finish_atR,c];rfl
end machine
section
variable {C:Cfg} {base:Nat} {H₀:Tp} {mu₀:kl} {w₀:World} {la:tf} {mu:kl} {σ:St} {a:Act} {w:World}
def FI.big(h:FI C base H₀ mu₀ w₀ la mu σ a w):base<=w.heap.size:=EL h.low h.evo.size
def ti(a:Act)(dst:Tn)(v:Value):(a.put dst v).tmps=(match dst with|some d=>a.tmps.setIfInBounds d v|none=>a.tmps):=by cases dst<;>rfl
def pw(a:Act)(dst:Tn)(v:Value):(a.put dst v).defers=a.defers:=by cases dst<;>rfl
def FI.put(h:FI C base H₀ mu₀ w₀ la mu σ a w)(dst:Tn){v v':Value}(c:VR la mu v v'):FI C base H₀ mu₀ w₀ la mu (σ.put dst v) (a.put dst v') w:=by
 have b:(σ.put dst v).heap=σ.heap:=by cases dst<;>rfl
 refine⟨?_,by rw[b];exact h.evo,h.fresh,by rw[pw,b];exact h.marks,h.low⟩;rw[ti];exact h.sr.put dst c
def Marks.evo{H H':Tp}{mu b:kl}{w w':World}{ds:List Deferred}(h:Marks mu H w₀ w ds)(e:Evo H mu w H' b w'):Marks b H' w₀ w' ds:=by
 obtain⟨n,g,i,j⟩:=h;refine⟨n,g,i,λr l=>?_⟩;obtain⟨m,d,f⟩:=j r l;have c:r<w.heap.size:=by
  rcases Bi r w.heap.size with h|h
  ·exact h
  ·rw[Rr h]at d;cases d
 exact⟨m,by rw[e.keep r c f];exact d,λk=>(e.steal r k).elim (λo=>by omega) f⟩
def FI.heap(h:FI C base H₀ mu₀ w₀ la mu σ a w){H':Tp}{b:kl}{w':World}(d:WR C base b H' w')(c:Evo σ.heap mu w H' b w'):FI C base H₀ mu₀ w₀ la b { σ with heap:=H' } a w':=
 ⟨h.sr.evo d c,h.evo.trans c,h.fresh,h.marks.evo c,h.low⟩
def Own.lt{mu:kl}{H:Tp}{w:World}(f:WR C base mu H w){b:Nat}(h:Own mu H b):b<w.heap.size/\base<=b:=by
 obtain⟨id,o,p,c,d,e,rfl⟩:=h;exact⟨f.lt c (bJ d) e,f.own id o p c d e⟩
def FI.lnew(h:FI C base H₀ mu₀ w₀ la mu σ a w){s:Nat}{vs:Tk}{d:Tj}{e:TJ}(I:σ.loc[s]?=some none)(U:VRs Az mu vs d.toList)(G:vs.all bf=true) :
  FI C base H₀ mu₀ w₀ (λk=>if k=s then some w.heap.size else la k) mu { σ with loc:=σ.loc.set s (some vs) } a (w.alloc (.cells d e)):=by
 have i:∀b,b<w.heap.size->(w.alloc (.cells d e)).heap[b]?=w.heap[b]?:=λb A=>by
  show(w.heap.push _)[b]?=_;rw[qcB,po (by omega)]
 have u:la s=none:=by
  cases S:la s with
  |none=>rfl
  |some b=>obtain⟨l,j⟩:=h.sr.ldom s b S;rw[I]at j;cases j
 have r:∀t b,la t=some b->(if t=s then some w.heap.size else la t)=some b:=λt b f=>by
  rw[po (λe=>by subst e;rw[u]at f;cases f)];exact f
 have m:∀t b,la t=some b->b<w.heap.size:=λt b f=>by
  obtain⟨l,j⟩:=h.sr.ldom t b f;obtain⟨N,c,z,n,_,x,_⟩:=h.sr.loc t l j;obtain rfl:b=N:=by rw[f]at n;exact AD n
  exact(qaP.1 x).1
 have y:s<σ.loc.length:=by
  rcases Bi s σ.loc.length with h|h
  ·exact h
  ·rw[Bd h]at I;cases I
 have K:Evo σ.heap mu w σ.heap mu (w.alloc (.cells d e)):=⟨zY _,λ_ _=>rfl,by simp,λb A _=>i b A,λb A=>.inr A,rfl,rfl,rfl,zY _⟩;refine⟨⟨h.sr.vals.mono r λ_ _ h=>h,?_,?_,?_,?_⟩,h.evo.trans K,?_,h.marks.evo K,h.low⟩
 ·intro t b f;split at f
  next v=>subst v;exact⟨vs,by simp[y]⟩
  next v=>
   obtain⟨l,j⟩:=h.sr.ldom t b f;exact⟨l,by rw[DX,po (BO v)];exact j⟩
 ·intro t l f;rcases get_set f with⟨F,f⟩|⟨rfl,_,J⟩
  ·obtain⟨b,c,z,j,n,x,E,P,Q⟩:=h.sr.loc t l f;exact⟨b,c,z,by simp[F,j],n,by rw[i b (m t b j)];exact x,E,P,Q⟩
  ·cases J;exact⟨w.heap.size,d,e,by simp,h.big,by show(w.heap.push _)[_]?=_;simp,G,U,λT=>by have:=(Own.lt h.sr.wr T).1;omega⟩
 ·intro t M b f q;split at f<;>split at q
  next B D=>rw[B,D]
  next B D=>
   have:=m M b q;cases f;omega
  next B D=>
   have:=m t b f;cases q;omega
  ·exact h.sr.linj t M b f q
 ·refine⟨?_,h.sr.wr.inj,h.sr.wr.own,h.sr.wr.ro,h.sr.wr.dom,?_⟩
  ·intro id o hid L;obtain⟨p,j,n⟩:=h.sr.wr.obj id o hid L;exact⟨p,j,by rw[i _ (iu L n)];exact n⟩
  ·intro g vs R;obtain⟨j,n,c,z,O,x,E⟩:=h.sr.wr.glob g vs R;exact⟨j,n,c,z,O,by rw[i _ (qaP.1 x).1];exact x,E⟩
 ·intro t b f;split at f
  ·cases f;exact h.evo.size
  ·exact h.fresh t b f
def FI.lset(h:FI C base H₀ mu₀ w₀ la mu σ a w){s b:Nat}{vs j:Tk}{c cs:Tj}{e:TJ}(M:σ.loc[s]?=some (some vs))(E:la s=some b)(I:w.heap[b]?=some (.cells c e (0,0)))
  (Y:VRs Az mu j cs.toList) (L:j.all bf=true):FI C base H₀ mu₀ w₀ la mu { σ with loc:=σ.loc.set s (some j) } a (w.setRow b cs):=by
 have Q:b<w.heap.size:=(qaP.1 I).1;have n:¬Own mu σ.heap b/\base<=b:=by
  obtain⟨m,B,D,f,i,_,_,_,G⟩:=h.sr.loc s vs M;obtain rfl:b=m:=by rw[E]at f;exact AD f
  exact⟨G,i⟩
 have d:∀k,k≠b->(w.setRow b cs).heap[k]?=w.heap[k]?:=λk J=>setRow_other w b k cs J;have v:(w.setRow b cs).heap[b]?=some (.cells cs e (0,0)):=setRow_heap w b c cs e (0,0) I;have y:s<σ.loc.length:=by
  rcases Bi s σ.loc.length with h|h
  ·exact h
  ·rw[Bd h]at M;cases M
 have U:=h.fresh s b E;refine⟨⟨h.sr.vals,?_,?_,h.sr.linj,?_⟩,?_,h.fresh,?_,h.low⟩
 ·intro t m z;obtain⟨q,f⟩:=h.sr.ldom t m z;by_cases A:t=s
  ·subst A;exact⟨j,by simp[y]⟩
  ·exact⟨q,by rw[DX,po (BO A)];exact f⟩
 ·intro t q z;rcases get_set z with⟨K,z⟩|⟨rfl,_,N⟩
  ·obtain⟨m,B,D,f,i,u,F,T,G⟩:=h.sr.loc t q z;exact⟨m,B,D,f,i,by rw[d m λR=>K (h.sr.linj t s m f (R▸E))];exact u,F,T,G⟩
  ·cases N;exact⟨b,cs,e,E,n.2,v,L,Y,n.1⟩
 ·refine⟨?_,h.sr.wr.inj,h.sr.wr.own,h.sr.wr.ro,h.sr.wr.dom,?_⟩
  ·intro id o hid P;obtain⟨p,f,i⟩:=h.sr.wr.obj id o hid P;refine⟨p,f,?_⟩;by_cases x:p.b=b
   · -- an object that is only read may lie below
    exfalso;by_cases l:o.owned=true
    ·exact n.1 ⟨id,o,p,hid,l,f,x⟩
    ·have:=h.sr.wr.ro id o p hid P (by simpa using l) f;omega
   ·rw[d _ x];exact i
  ·intro g vs V;obtain⟨f,i,B,D,S,u,F⟩:=h.sr.wr.glob g vs V;exact⟨f,i,B,D,S,by rw[d _ (by omega)];exact u,F⟩
 ·refine⟨h.evo.len,h.evo.same,by simpa[World.setRow]using h.evo.size,λk J W=>?_,h.evo.steal,h.evo.os,h.evo.tape,h.evo.output,h.evo.dr⟩;rw[d k (by omega)];exact h.evo.keep k J W
 ·obtain⟨rs,f,i,u⟩:=h.marks;refine⟨rs,f,i,λr X=>?_⟩;obtain⟨Z,O,k3⟩:=u r X;exact⟨Z,by rw[d r (λe=>by subst e;rw[I]at O;cases O)];exact O,k3⟩
end
end
end
section
variable [Val] [Glo]
section
variable {C:Cfg} {base:Nat} {H₀:Tp} {mu₀:kl} {w₀:World} {la:tf} {mu:kl} {σ:St} {a:Act} {w:World}
def lH{ops:Tl}{o:Oper}{t:Bool}(h:VRs la mu σ.tmps a.tmps.toList)(c:cv ops σ.tmps o=some t):Region.wanted o (yielded ops a.tmps)=t:=by
 unfold cv at c;unfold Region.wanted;cases l:o.guard with
 |none=>rw[l]at c;cases c;rfl
 |some s=>
  obtain⟨j,m⟩:=s;rw[l]at c;simp only at c ⊢;unfold yielded;cases k:(ops[j]?).bind (·.dst)with
  |none=>
   rw[k]at c;cases c;simp
  |some d=>
   rw[k]at c;simp only[AP]at c ⊢;cases f:σ.tmps[d]? with
   |none=>
    rw[f]at c;cases c;have:a.tmps[d]?=none:=by
     have q:=h.1;rw[qdG]at f;rw[Array.getElem?_eq_none_iff];simp at q;omega
    rw[this];simp
   |some v=>
    rw[f]at c;obtain⟨u,n,g⟩:=h.get f;rw[show a.tmps[d]?=some u by simpa using n];cases v with
    |bool b=>
     have:=g.bool;subst this;cases c;simp
    |tuple x=>
     split at c
     next b e=>cases e
     next y e=>
      cases e;split at c
      ·cases c
      next i=>
       cases c;obtain⟨z,rfl,_⟩:=g.untuple i;rfl
     next A p=>exact absurd rfl (p x)
    |_=>
     cases c;cases g<;>first|rfl|(rename_i r;simp[Am.scalar]at r)
def gU{pts:Tx}{ρ:Tf}{o:Oper}{e:Eff}(h:ao C pts ρ o=some e):∀c,o.op≠.defer c:=by
 intro c b;unfold ao at h;rw[b]at h;cases h
structure Kept(σ:St)(mu:kl)(σ':St)(mu':kl):Prop where
 len:σ.heap.length<=σ'.heap.length
 same:∀k,k<σ.heap.length->mu' k=mu k
def St.put_hp(σ:St)(d:Tn)(v:Value):(σ.put d v).heap=σ.heap:=by cases d<;>rfl
theorem Kept.refl{σ:St}{mu:kl}:Kept σ mu σ mu:=⟨zY _,λ_ _=>rfl⟩
def Kept.put{σ:St}{mu:kl}{l:List (Option (Tk))}{d:Tn}{v:Value}:Kept σ mu (({ σ with loc:=l }:St).put d v) mu:=⟨by rw[St.put_hp];exact zY _,λ_ _=>rfl⟩
def Kept.heap{σ:St}{mu b:kl}{w w':World}{H:Tp}{d:Tn}{v:Value}(h:Evo σ.heap mu w H b w'):Kept σ mu (({ σ with heap:=H }:St).put d v) b:=⟨by rw[St.put_hp];exact h.len,h.same⟩
def uK{B:Below}(W:BOk C B){pts:Tx}{ops:Tl}{i:Nat}{σ':St}(h:FI C base H₀ mu₀ w₀ la mu σ a w)(G:aj C B pts ops i σ σ')(b:Frame)(rest:Tx)(k:Tw)(cs:List Frame) :
  ∃a' w' S u,FI C base H₀ mu₀ w₀ S u σ' a' w'/\Kept σ mu σ' u/\
   Steps C.P (lone (b.atR a (.inRegion ops (i :: rest) :: k)) cs w) (lone (b.atR a' (.inRegion ops rest :: k)) cs w'):=by
 unfold aj at G;split at G
 next y=>
  subst G;refine⟨a,w,la,mu,h,.refl,.one ?_⟩;have:=stepR_op_skip (P:=C.P) (b:=b) (a:=a) (k:=k) (cs:=cs) (w:=w) (ops:=ops) (i:=i) (rest:=rest) (by simp[y]);simpa[y,Act.put]using this
 next o y=>
  split at G
  ·exact G.elim
  next R=>
   subst G;have j:=lH (a:=a) h.sr.vals R;refine⟨a.put o.dst undef,w,la,mu,h.put o.dst .undef,.put,.one ?_⟩;have:=stepR_op_skip (P:=C.P) (b:=b) (a:=a) (k:=k) (cs:=cs) (w:=w) (ops:=ops) (i:=i) (rest:=rest) (by simp[y,j]);simpa[y]using this
  next R=>
   have j:=lH (a:=a) h.sr.vals R;rcases G with G|⟨v,Y,rfl⟩
   case inr=>
    obtain⟨v',x,n⟩:=Ih h.sr Y;refine⟨_,w,la,mu,h.put o.dst n,.put,.one (dv y j (λc M=>?_) x)⟩;have E:=Y.1;rw[M]at E;cases E
   obtain⟨e,X,I⟩:=G;have t:=gU X;have z:=wK h.sr h.big X;cases e with
   |val v=>
    obtain⟨p,d,rfl⟩:=I;cases d;obtain⟨v',x,n⟩:=z;exact⟨_,w,la,mu,h.put o.dst n,.put,.one (dv y j t x)⟩
   |lnew s K=>
    obtain⟨p,d,rfl⟩:=I;simp only[aX]at d;split at d
    next m=>
     cases d;obtain⟨N,V,x,n,F⟩:=z;have J:=(h.lnew (e:=V) m n F).put o.dst (v:=.pointer (some ⟨s,0,some 0⟩)) (v':=.pointer (some ⟨w.heap.size,0,none⟩)) (.lptr (by simp));exact⟨_,_,_,_,J,.put,.one (dv y j t x)⟩
    ·cases d
   |lget s f=>
    obtain⟨p,d,rfl⟩:=I;simp only[aX]at d;split at d
    next K m=>
     cases g:f K with
     |none=>rw[g]at d;cases d
     |some v=>
      rw[g]at d;cases d;obtain⟨v',x,n⟩:=z K v m g;exact⟨_,w,la,mu,h.put o.dst n,.put,.one (dv y j t x)⟩
    ·cases d
   |lset s f=>
    obtain⟨p,d,rfl⟩:=I;simp only[aX]at d;split at d
    next K m=>
     cases g:f K with
     |none=>rw[g]at d;cases d
     |some T=>
      rw[g]at d;cases d;obtain⟨bl,c,ad,V,x,n,F,E,D⟩:=z K T m g;have J:=(h.lset m x n E D).put o.dst (v:=undef) (v':=undef) .undef;exact⟨_,_,_,_,J,.put,.one (qK y j t F)⟩
    ·cases d
   |hget f=>
    obtain⟨p,d,rfl⟩:=I;simp only[aX]at d;cases g:f σ.heap with
    |none=>rw[g]at d;cases d
    |some v=>
     rw[g]at d;cases d;obtain⟨v',x,n⟩:=z v g;exact⟨_,w,la,mu,h.put o.dst n,.put,.one (dv y j t x)⟩
   |hop f=>
    obtain⟨p,d,rfl⟩:=I;simp only[aX]at d;cases g:f σ.heap with
    |none=>rw[g]at d;cases d
    |some q=>
     rw[g]at d;cases d;obtain⟨nx,v',w',u,x,n,F,E,D,_⟩:=z q.1 q.2 g;have J:=(h.heap E D).put o.dst F.up;rcases n with rfl|⟨rfl,rfl⟩
     ·exact⟨_,w',la,u,J,.heap D,.one (dv y j t x)⟩
     ·exact⟨_,w',la,u,J,.heap D,.one (qK y j t x)⟩
   |call f L=>
    obtain⟨r,H,M,rfl⟩:=I;obtain⟨A,x,n⟩:=z;obtain⟨v,u,w',F,E,D,O,Q⟩:=W.call _ _ _ _ _ M _ base mu w A h.big x h.sr.wr (b.atR a (.inRegion ops (i :: rest) :: k) :: cs);rw[O]at n;refine⟨_,w',la,u,(h.heap E D).put o.dst F.up,.heap D,?_⟩;obtain⟨fr,s1,s2,s3⟩:=Q;refine .head (zI y j t n) (s1.trans (.one ?_));rw[←tQ y v];exact step_leave_returned s3
   |yield l L=>
    obtain⟨r,H,M,rfl⟩:=I;obtain⟨p,A,d,x,n⟩:=z;obtain⟨v,u,w',fn,Z,assign,U,F,E,D,O,Q⟩:=W.yield _ _ _ _ _ M _ base mu w A p h.big d x h.sr.wr (b.atR a (.inRegion ops (i :: rest) :: k)) cs;rw[O]at n;refine⟨_,w',la,u,(h.heap E D).put o.dst F.up,.heap D,?_⟩;refine .head (Ig y j t n) ?_;rw[←tQ y v];exact Q
def yc{B:Below}(e:BOk C B){pts:Tx}{ops:Tl}{i:Nat}{σ':St}(h:FI C base H₀ mu₀ w₀ la mu σ a w)(f:aj C B pts ops i σ σ')(b:Frame)(rest:Tx)(k:Tw)(cs:List Frame) :
  ∃a' w' c d,FI C base H₀ mu₀ w₀ c d σ' a' w'/\
   Steps C.P (lone (b.atR a (.inRegion ops (i :: rest) :: k)) cs w) (lone (b.atR a' (.inRegion ops rest :: k)) cs w'):=
 let ⟨a',w',c,d,h1,_,h2⟩:=uK e h f b rest k cs
 ⟨a',w',c,d,h1,h2⟩
def FI.restate{σ':St}(h:FI C base H₀ mu₀ w₀ la mu σ a w)(n:fD σ σ'):FI C base H₀ mu₀ w₀ la mu σ' a w:=by
 obtain⟨d,e,b,f⟩:=n;obtain⟨l,r,heap⟩:=σ';simp only at d e b f;subst d e;refine⟨⟨⟨by rw[b];exact h.sr.vals.1,λi y c k m=>?_⟩,h.sr.ldom,h.sr.loc,h.sr.linj,h.sr.wr⟩,h.evo,h.fresh,h.marks,h.low⟩;have g:i<σ.tmps.length:=by
  rw[←b];exact(qbh.1 k).1
 have j:=h.sr.vals.2 i σ.tmps[i] c (by simp[g]) m;rcases f i σ.tmps[i] y (by simp[g]) k with rfl|⟨o,p,q⟩
 ·exact j
 ·rw[xQ o j,q];exact uC p
def yb{B:Below}(f:BOk C B){pts:Tx}{ops:Tl}(b:Frame)(k:Tw)(cs:List Frame):∀(l:Tx) (σ σ':St) (a:Act) (w:World) (la:tf) (mu:kl),FI C base H₀ mu₀ w₀ la mu σ a w->fj C B pts ops l σ σ'->
  ∃a' w' d e,FI C base H₀ mu₀ w₀ d e σ' a' w'/\
   Steps C.P (lone (b.atR a (.inRegion ops l :: k)) cs w) (lone (b.atR a' k) cs w')
 | [],σ,σ',a,w,la,mu,h,c=>by
  cases c;exact⟨a,w,la,mu,h,.one stepR_region_end⟩
 |i :: l,σ,σ',a,w,la,mu,h,c=>by
  obtain⟨σ₀,σ₁,h0,h1,o⟩:=c;obtain⟨a₁,w₁,la₁,mu₁,g,j⟩:=yc f (h.restate h0) h1 b l k cs;obtain⟨a₂,w₂,la₂,mu₂,m,n⟩:=yb f b k cs l σ₁ σ' a₁ w₁ la₁ mu₁ g o;exact⟨a₂,w₂,la₂,mu₂,m,j.trans n⟩
def Gq{B:Below}(f:BOk C B){pts:Tx}{ops:Tl}(b:Frame)(k:Tw)(cs:List Frame):∀(l:Tx) (σ σ':St) (a:Act) (w:World) (la:tf) (mu:kl),FI C base H₀ mu₀ w₀ la mu σ a w->bK C B pts ops l σ σ'->
  ∃a' w' d e,FI C base H₀ mu₀ w₀ d e σ' a' w'/\
   Steps C.P (lone (b.atR a (.inRegion ops l :: k)) cs w) (lone (b.atR a' k) cs w')
 | [],σ,σ',a,w,la,mu,h,c=>by
  cases c;exact⟨a,w,la,mu,h,.one stepR_region_end⟩
 |i :: l,σ,σ',a,w,la,mu,h,c=>by
  obtain⟨σ₁,h1,o⟩:=c;obtain⟨a₁,w₁,la₁,mu₁,g,j⟩:=yc f h h1 b l k cs;obtain⟨a₂,w₂,la₂,mu₂,m,n⟩:=Gq f b k cs l σ₁ σ' a₁ w₁ la₁ mu₁ g o;exact⟨a₂,w₂,la₂,mu₂,m,j.trans n⟩
def Fresh.at_{mk:Nat->Value}(h:Fresh mk){la:tf}{mu d:kl}{L k:Nat}{v:Value}(f:VR la mu (mk L) v)(g:∀p,mu L=some p->d k=some p):VR la d (mk k) v:=by
 cases h with
 |ptr=>
  cases f with
  |scalar h=>simp[Am.scalar]at h
  |hptr h=>exact .hptr (g _ h)
 |slice e l c=>
  generalize j:pu e=s at f ⊢;cases f with
  |scalar h=>simp[Am.scalar]at h
  |hslice h m i b=>exact .hslice (g _ h) m i b
  |hslice0 b=>exact .hslice0 b
  |gslice i b=>simp[pu]at j
  |gslice0 b=>simp[pu]at j
 |map=>
  cases f with
  |scalar h=>simp[Am.scalar]at h
  |map h=>exact .map (g _ h)
def dl(mu:kl)(L k:Nat):kl:=λj=>if j=k then mu L else if j=L then none else mu j
def iM{b:Tp}{o x:HObj}{j k:Nat}(mu:kl)(h:(b.set k o)[j]?=some x):j<b.length/\(b++[o])[if j=k then b.length else j]?=some x/\dl mu b.length k j=mu (if j=k then b.length else j):=by
 have d:j<b.length:=by
  have:=(qbh.1 h).1;simpa using this
 refine⟨d,?_,?_⟩
 ·rcases get_set h with⟨c,h⟩|⟨rfl,_,rfl⟩
  ·rw[po c,BE d];exact h
  ·rw[mc rfl];simp
 ·unfold dl;split
  ·rfl
  ·rw[po (by omega)]
def WR.pad(h:WR C base mu σ.heap w)(n:Nat):WR C base mu (σ.pad n).heap w/\Evo σ.heap mu w (σ.pad n).heap mu w:=by
 have e:∀ {j:Nat} {x:HObj},(σ.pad n).heap[j]?=some x->x.alive=true->σ.heap[j]?=some x:=by
  intro j x c d;simp only[St.pad,qdl]at c;split at c
  ·exact c
  ·rw[It]at c;split at c
   ·cases c;cases d
   ·cases c
 refine⟨⟨λid o l d=>h.obj id o (e l d) d,λi j t u v y f c g k=>h.inj i j t u v y (e f (bJ g)) (e c k) g k,λi o p f l=>h.own i o p (e f (bJ l)) l,
  λi o p f d=>h.ro i o p (e f d) d,λid hid=>h.dom id (by simp[St.pad]at hid;omega),h.glob⟩,⟨by simp[St.pad],λ_ _=>rfl,zY _,λ_ _ _=>rfl,?_,rfl,rfl,rfl,zY _⟩⟩
 rintro b ⟨id,o,p,q,m,r,s⟩;exact .inr ⟨id,o,p,e q (bJ m),m,r,s⟩
def FI.pad(h:FI C base H₀ mu₀ w₀ la mu σ a w)(n:Nat):FI C base H₀ mu₀ w₀ la mu (σ.pad n) a w:=h.heap (h.sr.wr.pad n).1 (h.sr.wr.pad n).2
def FI.slot(h:FI C base H₀ mu₀ w₀ la mu σ a w){f:Tp}{o:HObj}{d:kl}{w':World}{k:Nat}(G:WR C base d (f++[o]) w')(z:Evo σ.heap mu w (f++[o]) d w')(y:Vz mu d (f++[o]) w')
  (hl:f.length=σ.heap.length) (hk:f[k]?=some .dead) (hn:mu k=none) (ad:H₀.length<=k):FI C base H₀ mu₀ w₀ la (dl d f.length k) { σ with heap:=f.set k o } a w':=by
 have af:k<f.length:=(qbh.1 hk).1;have t:=h.evo.trans z;have F:∀i p,mu i=some p->dl d f.length k i=some p:=by
  intro i p q;have v:i<σ.heap.length:=by
   rcases Bi i σ.heap.length with l|l
   ·exact l
   ·rw[h.sr.wr.dom i l]at q;cases q
  unfold dl;rw[po (λe=>by subst e;rw[hn]at q;cases q),po (by omega),z.same i v];exact q
 have n:∀b,Own (dl d f.length k) (f.set k o) b->Own d (f++[o]) b:=by
  rintro b ⟨id,x,p,l,u,m,A⟩;obtain⟨_,Q,R⟩:=iM d l;exact⟨_,x,p,Q,u,by rw[←R];exact m,A⟩
 have W:WR C base (dl d f.length k) (f.set k o) w':=by
  refine⟨?_,?_,?_,?_,?_,?_⟩
  ·intro id x hid I;obtain⟨_,Q,R⟩:=iM d hid;obtain⟨p,p1,p2⟩:=y _ x Q I;exact⟨p,by rw[R];exact p1,p2.mono F⟩
  ·intro i j oi oj pi pj v Z M N Y B D;obtain⟨i1,E,i3⟩:=iM d v;obtain⟨j1,j2,j3⟩:=iM d Z;rw[i3]at B;rw[j3]at D;refine G.inj _ _ oi oj pi pj E j2 M N ?_ B D;split<;>split<;>omega
  ·intro i x p v P q;obtain⟨_,E,i3⟩:=iM d v;exact G.own _ x p E P (by rw[←i3];exact q)
  ·intro i x p v I P q;obtain⟨_,E,i3⟩:=iM d v;exact G.ro _ x p E I P (by rw[←i3];exact q)
  ·intro id hid;simp at hid;unfold dl;rw[po (by omega)];split
   ·rfl
   ·exact G.dom id (by simp;omega)
  ·intro g S X;obtain⟨l,u,c,e,U,m,A⟩:=h.sr.wr.glob g S X;have L:BG g<w.heap.size:=(qaP.1 m).1;exact⟨l,u,c,e,U,by rw[z.keep _ L (λy=>by have:=(Own.lt h.sr.wr y).2;omega)];exact m,A.mono F⟩
 have K:=h.evo.len;refine⟨⟨h.sr.vals.mono (λ_ _ h=>h) F,h.sr.ldom,?_,h.sr.linj,W⟩,⟨by simp;omega,?_,t.size,t.keep,λb J=>t.steal b (n b J),t.os,t.tape,t.output,t.dr⟩,h.fresh,?_,h.low⟩
 ·intro s S hs;obtain⟨b,c,e,l,u,m,A,V,T⟩:=h.sr.loc s S hs;have J:b<w.heap.size:=(qaP.1 m).1;exact⟨b,c,e,l,u,by rw[z.keep b J T];exact m,A,V.mono (λ_ _ h=>h) F,λy=>(z.steal b (n b y)).elim (λhh=>by omega) T⟩
 ·intro id hid;unfold dl;rw[po (by omega),po (by omega)];exact t.same id hid
 ·obtain⟨rs,l,u,m⟩:=h.marks.evo z;exact⟨rs,l,u,λr O=>⟨(m r O).1,(m r O).2.1,λy=>(m r O).2.2 (n r y)⟩⟩
def FI.old(h:FI C base H₀ mu₀ w₀ la mu σ a w){H':Tp}{b:kl}{w':World}(c:Evo σ.heap mu w H' b w'){k:Nat}(d:k<σ.heap.length)(e:mu k=none):b k=none:=by
 rw[c.same k d];exact e
def oV{B:Below}(F:BOk C B){pts:Tx}{ops:Tl}{v:Nat->To}(d:∀i j k,v i=some k->v j=some k->i=j)(h0:∀i k,v i=some k->H₀.length<=k)(b:Frame)(k:Tw)(cs:List Frame) :
  ∀(l:Tx) (σ σ':St) (a:Act) (w:World) (la:tf) (mu:kl),FI C base H₀ mu₀ w₀ la mu σ a w->(∀i∈l,∀k,v i=some k->k<σ.heap.length/\mu k=none)->iP C B pts ops v l σ σ'->
  ∃a' w' T m,FI C base H₀ mu₀ w₀ T m σ' a' w'/\
   Steps C.P (lone (b.atR a (.inRegion ops l :: k)) cs w) (lone (b.atR a' k) cs w')
 | [],σ,σ',a,w,la,mu,h,_,O=>by
  cases O;exact⟨a,w,la,mu,h,.one stepR_region_end⟩
 |i :: l,σ,σ',a,w,la,mu,h,R,O=>by
  obtain⟨G,σ₁,h1,W⟩:=O;unfold dY at h1;split at h1
  ·obtain⟨a₁,w₁,la₁,mu₁,g1,V,g2⟩:=uK F h h1 b l k cs;obtain⟨a₂,w₂,la₂,mu₂,D,E⟩:=oV F d h0 b k cs l σ₁ σ' a₁ w₁ la₁ mu₁ g1 (λj y k q=>by
    obtain⟨A,U⟩:=R j (Bo _ y) k q;exact⟨qc3 A V.len,by rw[V.same k A];exact U⟩) W
   exact⟨a₂,w₂,la₂,mu₂,D,g2.trans E⟩
  next s q=>
   obtain⟨o,f,Hx,x,mk,ho,hw,X,hf,I,hd,n,rfl⟩:=h1;have S:=lH (a:=a) h.sr.vals hw;have K:=gU X;have N:=wK h.sr h.big X;obtain⟨nx,v',w',m,A,U,t,q4,Z,q6⟩:=N _ _ hf;obtain⟨u1,u2⟩:=R i (by simp) s q;have hS:=h.slot q4 Z q6 I hd u2 (h0 i s q);have J:VR Az (dl m Hx.length s) (mk s) v':=n.at_ t (λp hp=>by
    unfold dl;rw[mc rfl,I];exact hp)
   have hF:=hS.put o.dst J.up;have M:nx = .value v':=by
    rcases U with h|⟨_,rfl⟩
    ·exact h
    ·exfalso;cases n with
     |ptr=>cases t
     |slice e l c=>
      generalize g:(Value.slice (some ⟨σ.heap.length,0,pu e⟩) l c)=u at t;cases t<;>first|cases g|(rename_i Q;subst g;simp[Am.scalar]at Q)
     |map=>cases t
   subst M;obtain⟨a₂,w₂,la₂,mu₂,D,E⟩:=oV F d h0 b k cs l _ σ' _ _ _ _ hF (λj y z r=>by
    obtain⟨Y,p2⟩:=R j (Bo _ y) z r;have L:z≠s:=λe=>by
     subst e;exact G (d i j z q r▸y)
    refine⟨?_,?_⟩
    ·cases o.dst<;>simp[St.put,I]<;>exact Y
    ·unfold dl;rw[po L,po (by omega),Z.same z Y];exact p2) W
   exact⟨a₂,w₂,la₂,mu₂,D,(Steps.one (dv ho S K A)).trans E⟩
def PI{B:Below}(l:BOk C B){pts:Tx}{ops:Tl}{σ':St}(h:FI C base H₀ mu₀ w₀ la mu σ a w)(f:ew C B pts ops σ σ')(t:Nat)(b:Frame)(k:Tw)(cs:List Frame) :
  ∃a' w' g j,FI C base H₀ mu₀ w₀ g j σ' a' w'/\
   Steps C.P (lone (b.atR a (.inRegion ops (Region.linearise .any ops t) :: k)) cs w) (lone (b.atR a' k) cs w'):=by
 rcases f with f|⟨p,n,_,e,m,o⟩
 ·exact Gq l b k cs _ _ _ _ _ _ _ h (f t)
 ·have c:=h.evo.len;exact oV l m (λi k d=>EL c (e i k d).1) b k cs _ _ _ _ _ _ _ (h.pad n) (λi _ k d=>⟨by simpa[St.pad]using(e i k d).2,h.sr.wr.dom k (e i k d).1⟩) (o t)
end
end
section
variable [Val]
section
variable [Glo] {C:Cfg} {base:Nat} {H₀:Tp} {mu₀:kl} {w₀:World} {la:tf} {mu:kl} {σ:St} {a:Act} {w:World}
def eV(b:Tx):∀(l:List (Option (Tk))) (i j:Nat),(gS b l i)[j]?=if b.contains (i+j)then(l[j]?).map (λ_=>none)else l[j]?
 | [],i,j=>by simp[gS]
 |x :: l,i,j=>by
  cases j with
  |zero=>simp only[gS,UH,UM];split<;>rfl
  |succ j=>
   simp only[gS,Ip];rw[eV b l (i+1) j,show i+1+j=i+(j+1)by omega]
def GU{b:Tx}{v c:Value}(h:VR la mu v c):VR (λs=>if b.contains s then none else la s) mu (iZ b v) c:=by
 unfold iZ;split
 next f=>
  split
  ·exact .poison c
  next d=>
   cases h with
   |scalar h=>simp[Am.scalar]at h
   |lptr h=>
    simp at d;exact .lptr (by simp[d,h])
   |hptr h=>exact .hptr h
   |gptr=>exact .gptr
 ·split
  next e=>exact(fO e h).up
  ·exact .poison c
def FI.clear(h:FI C base H₀ mu₀ w₀ la mu σ a w)(f:Tx):∃o,FI C base H₀ mu₀ w₀ o mu (σ.clear f) a w:=by
 unfold St.clear;split
 ·exact⟨la,h⟩
 ·refine⟨λs=>if f.contains s then none else la s,⟨?_,?_,?_,?_,h.sr.wr⟩,h.evo,?_,h.marks,h.low⟩
  ·refine⟨by simpa using h.sr.vals.1,λi x y k t=>?_⟩;rw[AU]at k;cases n:σ.tmps[i]? with
   |none=>rw[n]at k;cases k
   |some v=>
    rw[n]at k;cases k;exact GU (h.sr.vals.2 i v y n t)
  ·intro s b g;split at g
   ·cases g
   next m=>
    obtain⟨p,l⟩:=h.sr.ldom s b g;exact⟨p,by rw[eV,Br,po m];exact l⟩
  ·intro s p d;rw[eV,Br]at d;split at d
   ·cases q:σ.loc[s]? with
    |none=>rw[q]at d;cases d
    |some x=>rw[q]at d;cases d
   next m=>
    obtain⟨b,c,e,l,r⟩:=h.sr.loc s p d;exact⟨b,c,e,by show(if _ then none else la s)=_;rw[po m];exact l,r⟩
  ·intro s u b d j;split at d
   ·cases d
   ·split at j
    ·cases j
    ·exact h.sr.linj s u b d j
  ·intro s b g;split at g
   ·cases g
   ·exact h.fresh s b g
def FI.drew(h:FI C base H₀ mu₀ w₀ la mu σ a w)(n:Nat)(b:w.drawn<=n):FI C base H₀ mu₀ w₀ la mu σ a { w with drawn:=n }:=
 ⟨⟨h.sr.vals,h.sr.ldom,h.sr.loc,h.sr.linj,h.sr.wr.drew n⟩,h.evo.drew n b,h.fresh,h.marks,h.low⟩
def wo{P:TD}{b:Frame}{a:Act}{k:Tw}{cs:List Frame}{w:World}{c:Code} :
  step P (lone (b.atR a (.code (.scope c) :: k)) cs w) = .next (lone (b.atR a (.code c :: .inScope c :: k)) cs w):=
 step_lone_go (by simp[stepG,stepG.exec,Frame.atR])
def sP{P:TD}{b:Frame}{a:Act}{k:Tw}{cs:List Frame}{w:World}{c:Code} :
  step P (lone (b.atR a (.inScope c :: k)) cs w) = .next (lone (b.atR a k) cs w):=
 step_lone_go (by simp[stepG,stepG.exec,Frame.atR])
def Arr(P:TD)(b:Frame)(k:Tw)(cs:List Frame)(m:Machine)(a':Act)(w':World):Exit->Prop
 | .normal=>Steps P m (lone (b.atR a' k) cs w')
 | .ret=>∃c,Steps P m (lone (b.atR a' (.code .ret :: c)) cs w')
 | .exit id=>∃c,Steps P m (lone (b.atR a' (.code (.exit id) :: c)) cs w')/\exitTo id c=exitTo id k
 |_=>False
def Arr.of_steps{P:TD}{b:Frame}{k:Tw}{cs:List Frame}{m m₁:Machine}{a':Act}{w':World}{e:Exit}(h:Steps P m m₁)(h':Arr P b k cs m₁ a' w' e):Arr P b k cs m a' w' e:=by
 cases e with
 |normal=>exact h.trans h'
 |ret=>obtain⟨t,h'⟩:=h';exact⟨t,h.trans h'⟩
 |exit id=>obtain⟨t,h',c⟩:=h';exact⟨t,h.trans h',c⟩
 |_=>exact h'.elim
def Arr.pass{P:TD}{b:Frame}{x:Item}{k:Tw}{cs:List Frame}{m:Machine}{a':Act}{w':World}{e:Exit}(g:∀id,exitTo id (x :: k)=exitTo id k)(f:e≠.normal)(h:Arr P b (x :: k) cs m a' w' e):Arr P b k cs m a' w' e:=by
 cases e with
 |normal=>exact absurd rfl f
 |ret=>exact h
 |exit id=>obtain⟨t,d,c⟩:=h;exact⟨t,d,by rw[c,g]⟩
 |_=>exact h.elim
end
def ta(C:Cfg)(S:Sems):Prop:=
 ∀(_:Glo) (c:Nat) (H₀:Tp) (mu₀:kl) (w₀:World) (g:To) (h:TK) (pts:Tx) (code:Code) (σ σ':St) (e:Exit) (la:tf) (mu:kl) (a:Act) (w:World),(pts≠[]->g=none)->
  S.ex pts code σ e σ'->FI C c H₀ mu₀ w₀ la mu σ a w->∀(b:Frame) k cs,b.roundOf=g->b.fn=h->
  ∃a' w' d f,FI C c H₀ mu₀ w₀ d f σ' a' w'/\Arr C.P b k cs (lone (b.atR a (.code code :: k)) cs w) a' w' e
section
variable [Glo] {C:Cfg} {base:Nat} {H₀:Tp} {mu₀:kl} {w₀:World} {la:tf} {mu:kl} {σ:St} {a:Act} {w:World}
end
section
variable {C:Cfg}
def GX(Z:C.P.follows .mixedOrders=true){S:Sems}(V:BOk C S.toBelow)(E:ta C S):ta C { S with ex:=nO C S }:=by
 intro _ o H₀ d₀ w₀ ro fn pts code σ σ' e j d a w hro hex h b k cs hb hf;cases code with
 |skip=>
  obtain⟨rfl,rfl⟩:=hex;exact⟨a,w,j,d,h,.one stepR_skip⟩
 |label l=>
  obtain⟨rfl,rfl⟩:=hex;exact⟨a,w,j,d,h,.one stepR_label⟩
 |ret=>
  obtain⟨rfl,rfl⟩:=hex;exact⟨a,w,j,d,h,⟨k,.refl _ _⟩⟩
 |exit id=>
  obtain⟨rfl,rfl⟩:=hex;exact⟨a,w,j,d,h,⟨k,.refl _ _,rfl⟩⟩
 |goto l=>exact hex.elim
 |refuse s=>exact hex.elim
 |seq x y=>
  obtain⟨e₁,σ₁,v,D⟩:=hex;obtain⟨a₁,w₁,j₁,d₁,q,r⟩:=E _ o H₀ d₀ w₀ ro fn pts x σ σ₁ e₁ j d a w hro v h b (.code y :: k) cs hb hf;rcases D with⟨rfl,D⟩|⟨p,rfl,rfl⟩
  ·obtain⟨a₂,w₂,j₂,d₂,M,N⟩:=E _ o H₀ d₀ w₀ ro fn pts y σ₁ σ' e j₁ d₁ a₁ w₁ hro D q b k cs hb hf;exact⟨a₂,w₂,j₂,d₂,M,.of_steps (.head stepR_seq r) N⟩
  ·exact⟨a₁,w₁,j₁,d₁,q,.of_steps (.one stepR_seq) (.pass (λid=>rfl) p r)⟩
 |cond c x y=>
  obtain⟨t,ht,v⟩:=hex;obtain⟨a₁,w₁,j₁,d₁,q,r⟩:=E _ o H₀ d₀ w₀ ro fn pts _ σ σ' e j d a w hro v h b k cs hb hf;have W:=aK h.sr c;rw[ht]at W;exact⟨a₁,w₁,j₁,d₁,q,.of_steps (.one (stepR_cond W.bool)) r⟩
 |block id x=>
  obtain⟨e₁,v,rfl⟩:=hex;obtain⟨a₁,w₁,j₁,d₁,q,r⟩:=E _ o H₀ d₀ w₀ ro fn pts x σ σ' e₁ j d a w hro v h b (.inBlock id :: k) cs hb hf;refine⟨a₁,w₁,j₁,d₁,q,?_⟩;have g:=r;refine .of_steps (.one stepR_block) ?_;cases e₁ with
  |normal=>exact Steps.trans g (.one stepR_inBlock)
  |ret=>exact g
  |exit i=>
   obtain⟨t,L,z⟩:=g;show Arr C.P b k cs _ a₁ w₁ (if i=id then .normal else .exit i);by_cases J:i=id
   ·rw[mc J];subst J;have:exitTo i t=some k:=by rw[z];simp[exitTo]
    exact L.trans (.one (stepR_exit this))
   ·rw[po J];refine⟨t,L,?_⟩;rw[z];have p:(id==i)=false:=by simp;exact λe=>J e.symm
    simp[exitTo,p]
  |_=>exact g.elim
 |loop x=>
  obtain⟨e₁,σ₁,v,D⟩:=hex;obtain⟨j₀,O⟩:=h.clear (aO pts x);obtain⟨a₁,w₁,j₁,d₁,q,r⟩:=E _ o H₀ d₀ w₀ ro fn pts x _ σ₁ e₁ j₀ d a w hro v O b (.inLoop x :: k) cs hb hf;rcases D with⟨rfl,D⟩|⟨p,rfl,rfl⟩
  ·obtain⟨a₂,w₂,j₂,d₂,M,N⟩:=E _ o H₀ d₀ w₀ ro fn pts (.loop x) σ₁ σ' e j₁ d₁ a₁ w₁ hro D q b k cs hb hf;refine⟨a₂,w₂,j₂,d₂,M,?_⟩;have L:Steps C.P (lone (b.atR a (.code (.loop x) :: k)) cs w) (lone (b.atR a₁ (.inLoop x :: k)) cs w₁):=.head stepR_loop r;have z:=N;have G:∀A,Steps C.P (lone (b.atR a₁ (.code (.loop x) :: k)) cs w₁) A->(∃n,runN C.P (n+1) (lone (b.atR a₁ (.code (.loop x) :: k)) cs w₁) = .next A)∨A=lone (b.atR a₁ (.code (.loop x) :: k)) cs w₁:=by
    rintro A ⟨n,B⟩;cases n with
    |zero=>simp[runN]at B;exact .inr B.symm
    |succ n=>exact .inl ⟨n,B⟩
   have F:∀A,Steps C.P (lone (b.atR a₁ (.code (.loop x) :: k)) cs w₁) A->A≠lone (b.atR a₁ (.code (.loop x) :: k)) cs w₁->Steps C.P (lone (b.atR a₁ (.inLoop x :: k)) cs w₁) A:=by
    intro A Q p;rcases G A Q with⟨n,B⟩|rfl
    ·refine⟨n+1,?_⟩;simp only[runN,stepR_loop,stepR_inLoop]at B ⊢;exact B
    ·exact absurd rfl p
   have u:∀(R:Act) (t:Tw) (X:World),t≠.code (.loop x) :: k->lone (b.atR R t) cs X≠lone (b.atR a₁ (.code (.loop x) :: k)) cs w₁:=by
    intro R t X p e;have U:=congrArg (λm:Machine=>(m.gs[0]?).map (λg=>g.frame.todo)) e;simp[lone,Frame.atR]at U;exact p U
   refine .of_steps L ?_;cases e with
   |normal=>
    refine F _ z (u _ _ _ λe=>?_);have:=congrArg List.length e;simp at this
   |ret=>
    obtain⟨t,z⟩:=z;exact⟨t,F _ z (u _ _ _ λe=>by simp at e)⟩
   |exit id=>
    obtain⟨t,z,s3⟩:=z;exact⟨t,F _ z (u _ _ _ λe=>by simp at e),s3⟩
   |_=>exact z.elim
  ·exact⟨a₁,w₁,j₁,d₁,q,.of_steps (.one stepR_loop) (.pass (λid=>rfl) p r)⟩
 |scope x=>
  obtain⟨a₁,w₁,j₁,d₁,q,r⟩:=E _ o H₀ d₀ w₀ ro fn pts x σ σ' e j d a w hro hex h b (.inScope x :: k) cs hb hf;refine⟨a₁,w₁,j₁,d₁,q,.of_steps (.one wo) ?_⟩;have g:=r;by_cases B:e = .normal
  ·subst B;exact Steps.trans g (.one sP)
  ·exact .pass (λid=>rfl) B g
 |region id ad I=>
  obtain⟨rfl,v⟩:=hex;cases I with
  |false=>
   obtain⟨a₁,w₁,j₁,d₁,q,r⟩:=yb V b k cs _ _ _ _ _ _ _ h v;exact⟨a₁,w₁,j₁,d₁,q,.head stepR_region r⟩
  |true=>
   have Y:FI C o H₀ d₀ w₀ j d σ a { w with drawn:=w.drawn+1 }:=h.drew _ (Nat.le_succ _);obtain⟨σ₀,O,v⟩:=v;obtain⟨a₁,w₁,j₁,d₁,q,r⟩:=PI V (Y.restate O) v (w.tape w.drawn (.order fn id)) b k cs;refine⟨a₁,w₁,j₁,d₁,q,.head stepR_region_draw ?_⟩;rw[Z,hf];exact r
 |rangeFunc f K assign T=>exact hex.elim
end
end
section
variable [Val]
section
variable [Glo] {C:Cfg} {base:Nat} {H₀:Tp} {mu₀:kl} {w₀:World} {la:tf} {mu:kl} {σ:St} {a:Act} {w:World}
def FI.shut{d:Deferred}{ds:List Deferred}(h:FI C base H₀ mu₀ w₀ la mu σ a w)(M:a.defers=d :: ds) :
  ∃r,d.target = .collected r/\(Instr.takeDeferred r).run C.P w = .ok [] { w with heap:=w.heap.setIfInBounds r (.deferred none) }/\
   FI C base H₀ mu₀ w₀ la mu σ { a with defers:=ds } { w with heap:=w.heap.setIfInBounds r (.deferred none) }:=by
 obtain⟨z,t,K,B⟩:=h.marks;rw[M]at t;cases z with
 |nil=>cases t
 |cons r z=>
  simp only[AL,Df]at t;obtain⟨rfl,rfl⟩:=t;obtain⟨S,u,R⟩:=B r (by simp);have O:r<w.heap.size:=(qaP.1 u).1;have f:∀b,b≠r->(w.heap.setIfInBounds r (.deferred none))[b]?=w.heap[b]?:=λb L=>qb9 (BO L);have E:=h.low;refine⟨r,rfl,?_,⟨⟨h.sr.vals,h.sr.ldom,?_,h.sr.linj,⟨?_,h.sr.wr.inj,h.sr.wr.own,h.sr.wr.ro,h.sr.wr.dom,?_⟩⟩,?_,h.fresh,?_,h.low⟩⟩
  ·have x:(getObj r).run C.P w = .ok (.deferred (some [])) w:=by simp[getObj,Sem.run,u]
   have y:(setObj r (.deferred none)).run C.P w = .ok () { w with heap:=w.heap.setIfInBounds r (.deferred none) }:=by simp[setObj,Sem.run,u]
   simp[Instr.takeDeferred,Sem.run_bind,x,y,Result.andThen]
  ·intro s A y;obtain⟨b,c,e,i,l,e3,v⟩:=h.sr.loc s A y;exact⟨b,c,e,i,l,by rw[←e3];exact f b (λI=>by subst I;rw[u]at e3;cases e3),v⟩
  ·intro id o hid D;obtain⟨p,i,l⟩:=h.sr.wr.obj id o hid D;refine⟨p,i,?_⟩;show objR mu p (w.heap.setIfInBounds r (.deferred none))[p.b]? o;by_cases n:p.b=r
   ·exfalso;by_cases j:o.owned=true
    ·exact R ⟨id,o,p,hid,j,i,n⟩
    ·have:=h.sr.wr.ro id o p hid D (by simpa using j) i;omega
   ·rw[f _ n];exact l
  ·intro g A x;obtain⟨i,l,c,G,J,e3,v⟩:=h.sr.wr.glob g A x;exact⟨i,l,c,G,J,by rw[←e3];exact f _ (by omega),v⟩
  ·refine⟨h.evo.len,h.evo.same,by simpa using h.evo.size,λk N Q=>?_,h.evo.steal,h.evo.os,h.evo.tape,h.evo.output,h.evo.dr⟩;rw[←h.evo.keep k N Q];exact f k (by omega)
  ·have m:=qbU.1 K;refine⟨z,rfl,m.2,λF q=>?_⟩;obtain⟨i,l,e3⟩:=B F (by simp[q]);exact⟨i,by rw[←l];exact f F (λe=>m.1 (e▸q)),e3⟩
def uT:∀(ds:List Deferred) (a:Act) (w:World),a.defers=ds->FI C base H₀ mu₀ w₀ la mu σ a w->
  ∃w',FI C base H₀ mu₀ w₀ la mu σ { a with defers:=[] } w'/\
   ∀(b:Frame) (c:Tw) (cs:List Frame),Steps C.P (lone { b.atR a c with mode:=.returning } cs w) (lone { b.atR { a with defers:=[] } c with mode:=.returning } cs w')
 | [],a,w,e,h=>by
  obtain⟨f,defers⟩:=a;simp only at e;subst e;exact⟨w,h,λb c cs=>.refl _ _⟩
 |d :: ds,a,w,e,h=>by
  obtain⟨r,g,i,j⟩:=h.shut e;obtain⟨w',k,l⟩:=uT ds { a with defers:=ds } _ rfl j;refine⟨w',k,λb c cs=>.head ?_ (l b c cs)⟩;exact step_collected (fr:={ b.atR a c with mode:=.returning }) (by simp) (show a.defers=d :: ds from e) g i
def lr(b:Tj):ResultVar->Sem Value
 | .tmp t=>pure (b.getD t undef)
 | .cell p t=>do loadVar t (←asAddr (b.getD p undef))
def zu(c:Func)(b:Tj):results c b=(do
  let vs ←c.results.mapM (lr b)
  pure (if h:vs.size=1 then vs[0]else .tuple vs)):=by
 have:(λx=>match x with
  |ResultVar.tmp t=>pure (b.getD t undef)
  |ResultVar.cell p t=>(do loadVar t (←asAddr (b.getD p undef)):Sem Value))=lr b:=by
  funext x;cases x<;>rfl
 rw[←this];rfl
def zr(h:SR C base la mu σ a.tmps w){x:ResultVar}{v:Value}(b:fl C σ x=some v) :
  ∃v',(lr a.tmps x).run C.P w = .ok v' w/\VR la mu v v':=by
 have f:∀t,VR la mu (σ.tmps.getD t undef) (a.tmps.getD t undef):=λt=>aK h (.tmp t);cases x with
 |tmp t=>
  simp only[fl]at b;cases b;exact⟨_,rfl,f t⟩
 |cell p t=>
  simp only[fl]at b;have j:=f p;split at b
  next u A=>
   rw[A]at j;split at b
   next d=>
    cases g:ff σ.heap u.block with
    |none=>rw[g]at b;cases b
    |some B=>
     rw[g]at b;generalize r:a.tmps.getD p undef=y at j ⊢;cases j with
     |scalar q=>simp[Am.scalar]at q
     |lptr _=>simp at d
     |gptr=>simp at d
     |hptr o=>
      obtain⟨c,e,D,k,l⟩:=tW h.wr g o;obtain⟨v',s,m⟩:=dX (C:=C) l b k;exact⟨v',by simp only[lr,r,asAddr];exact s,m.up⟩
   next d=>
    split at b
    next B i=>
     generalize r:a.tmps.getD p undef=y at j ⊢;cases j with
     |scalar q=>simp[Am.scalar]at q
     |hptr _=>simp at d
     |gptr=>simp at d
     |lptr n=>
      obtain⟨c,e,k,l,s⟩:=Ey h i n;obtain⟨v',m,z⟩:=dX (C:=C) (cw.of_list l) b k;exact⟨v',by simp only[lr,r,asAddr];simpa using m,z.up⟩
    ·cases b
   ·cases b
  ·cases b
def oM(h:SR C base la mu σ a.tmps w):∀ {l:List ResultVar} {vs:Tk},da C σ l=some vs->
  ∃b,(l.mapM (lr a.tmps)).run C.P w = .ok b w/\VRs la mu vs b
 | [],vs,c=>by
  cases c;exact⟨[],by simp,.nil⟩
 |x :: l,vs,c=>by
  simp only[da]at c;split at c
  next v j i d=>
   cases c;obtain⟨v',h1,e⟩:=zr h i;obtain⟨b,f,g⟩:=oM h d;refine⟨v' :: b,?_,.cons e g⟩;simp only[Lx,Sem.run_bind,h1,Result.andThen_ok,Sem.run_pure,f]
  ·cases c
def zw(h:SR C base la mu σ a.tmps w){d:Func}{vs:Tk}(f:da C σ d.results.toList=some vs) :
  ∃v',(results d a.tmps).run C.P w = .ok v' w/\VR la mu (gk vs) v':=by
 obtain⟨c,e,b⟩:=oM h f;rw[zu,qdE,Sem.run_bind,Sem.run_map,e]
 match vs,c,b with
 | [],[],_=>exact⟨_,rfl,.undef⟩
 | [v],[v'],b=>exact⟨v',rfl,b.head⟩
 |v :: u :: l,v' :: i :: g,b=>exact⟨.tuple (v' :: i :: g).toArray,rfl,VRs.tuple (a:=(v :: u :: l).toArray) (by simpa using b)⟩
 | [],_ :: _,b=>simpa using b.1
 | [_],[],b=>simpa using b.1
 | [_],_ :: _ :: _,b=>simpa using b.1
 |_ :: _ :: _,[],b=>simpa using b.1
 |_ :: _ :: _,[_],b=>simpa using b.1
end
section
variable {C:Cfg}
def GN{S:Sems}(J:ta C S){f:TK}{args:Tk}{H:Tp}{r:Value}{H':Tp}(h:mE C S f args H r H'):dO C f args H r H':=by
 obtain⟨fn,n,e,σ,R,k,i,d,y,M,q,rfl,z,rfl⟩:=h;rw[qb5]at d
 replace d:=d.1
 intro _ m o w c L g K u
 let a₀:Act:={ tmps:=c++Array.replicate (fn.ntmps - c.size) undef,defers:=[] }
 have p:args.length=c.size:=by simpa using g.1
 have I:FI C m H o w Az o (lM fn args H) a₀ w:=by
  refine⟨⟨?_,λs b h=>by simp[Az]at h,λs R A=>?_,λs U b h=>by simp[Az]at h,K⟩,.refl _ _ _,λs b h=>by simp[Az]at h,⟨[],rfl,by simp,λr O=>by simp at O⟩,L⟩
  ·simp only[lM,a₀,UN,Array.toList_replicate,p];exact g.append (.replicate _ .undef)
  ·simp only[lM,It]at A;split at A<;>cases A
 let b:Frame:={ (default:Frame)with fn:=f,kind:=.normal,roundOf:=none }
 obtain⟨a₁,w₁,T₁,o₁,E,F⟩:=J _ m H o w none f _ n _ σ e Az o a₀ w (λ_=>rfl) y I b [] u rfl rfl;obtain⟨w₂,v,B⟩:=uT a₁.defers a₁ w₁ rfl E;obtain⟨Q,D,G⟩:=zw (a:={ a₁ with defers:=[] }) v.sr q;refine⟨Q,o₁,w₂,fO z G,v.sr.wr,v.evo,?_,?_⟩
 ·have x:fn.body.isNone=false:=by rw[i];rfl
  have N:(program).run C.P w = .ok C.P w:=rfl;simp only[callFunc,Sem.run_bind,N,Result.andThen_ok,k,d,x];rfl
 ·have j:Frame.enter C.P f c .normal=b.atR a₀ [.code n]:=by simp[Frame.enter,Frame.atR,k,i,b,a₀]
  rw[j];have l:=F;rcases M with rfl|rfl
  ·refine⟨{ b.atR { a₁ with defers:=[] } []with mode:=.returning },(Steps.trans l (.one (stepR_end rfl))).trans (B b [] u),rfl,rfl,rfl,rfl,fn,k,D⟩
  ·obtain⟨t,l⟩:=l;refine⟨{ b.atR { a₁ with defers:=[] } (.code .ret :: t)with mode:=.returning },(l.trans (.one (stepR_ret rfl))).trans (B b _ u),rfl,rfl,rfl,rfl,fn,k,D⟩
section
variable [Glo] {la:tf} {mu:kl}
end
def Gi(i:C.P.follows .mixedOrders=true){K:IE}(c:∀f args H r H',K f args H r H'->dO C f args H r H'):∀n,BOk C (LP C K n).toBelow/\ta C (LP C K n)
 |0=>⟨⟨c,λ_ _ _ _ _ h=>h.elim⟩,by
   intro _ b H₀ mu₀ w₀ ro fn pts code σ σ' e la mu a w _ h;exact h.elim⟩
 |n+1=>by
  obtain⟨j,g⟩:=Gi i c n;refine⟨⟨λf args H r H' h=>h.elim (c f args H r H') (GN g),λ_ _ _ _ _ h=>h.elim⟩,?_⟩;have d:ta C _:=GX i j g;intro _ b H₀ mu₀ w₀ ro fn pts code σ σ' e la mu a w hro hex hF;exact d _ b H₀ mu₀ w₀ ro fn pts code σ σ' e la mu a w hro hex hF
end
end
section
variable [Val] {C:Cfg}
structure SemsLe(S S':Sems):Prop where
 call:∀f args H r H',S.call f args H r H'->S'.call f args H r H'
 yield:∀l args H r H',S.yield l args H r H'->S'.yield l args H r H'
 ex:∀fid c σ e σ',S.ex fid c σ e σ'->S'.ex fid c σ e σ'
def vg{B B':Below}(c:∀f args H r H',B.call f args H r H'->B'.call f args H r H')(d:∀l args H r H',B.yield l args H r H'->B'.yield l args H r H')
  {e:Eff} {dst:Tn} {σ σ':St} (h:lL B e dst σ σ'):lL B' e dst σ σ':=by
 cases e<;>first
  |exact h
  |(obtain⟨r,H,a,b⟩:=h;first|exact⟨r,H,c _ _ _ _ _ a,b⟩|exact⟨r,H,d _ _ _ _ _ a,b⟩)
def cW{B B':Below}(c:∀f args H r H',B.call f args H r H'->B'.call f args H r H')(d:∀l args H r H',B.yield l args H r H'->B'.yield l args H r H')
  {pts:Tx} {ops:Tl} {i:Nat} {σ σ':St} (h:aj C B pts ops i σ σ'):aj C B' pts ops i σ σ':=by
 unfold aj at *;split at h
 ·exact h
 ·split at h
  ·exact h
  ·exact h
  ·rcases h with⟨e,a,b⟩|h
   ·exact .inl ⟨e,a,vg c d b⟩
   ·exact .inr h
def fk{B B':Below}(a:∀f args H r H',B.call f args H r H'->B'.call f args H r H')(b:∀l args H r H',B.yield l args H r H'->B'.yield l args H r H')
  {pts:Tx} {ops:Tl}:∀ {l:Tx} {σ σ':St},bK C B pts ops l σ σ'->bK C B' pts ops l σ σ'
 | [],_,_,h=>h
 |_ :: _,_,_,⟨σ₁,h1,c⟩=>⟨σ₁,cW a b h1,fk a b c⟩
def lU{B B':Below}(a:∀f args H r H',B.call f args H r H'->B'.call f args H r H')(b:∀l args H r H',B.yield l args H r H'->B'.yield l args H r H')
  {pts:Tx} {ops:Tl}:∀ {l:Tx} {σ σ':St},fj C B pts ops l σ σ'->fj C B' pts ops l σ σ'
 | [],_,_,h=>h
 |_ :: _,_,_,⟨σ₀,σ₁,h0,h1,c⟩=>⟨σ₀,σ₁,h0,cW a b h1,lU a b c⟩
def kq{B B':Below}(a:∀f args H r H',B.call f args H r H'->B'.call f args H r H')(b:∀l args H r H',B.yield l args H r H'->B'.yield l args H r H')
  {pts:Tx} {ops:Tl} {c:Nat->To}:∀ {l:Tx} {σ σ':St},iP C B pts ops c l σ σ'->iP C B' pts ops c l σ σ'
 | [],_,_,h=>h
 |i :: _,_,_,⟨h0,σ₁,h1,d⟩=>⟨h0,σ₁,by
  unfold dY at h1 ⊢;split at h1
  ·exact cW a b h1
  ·exact h1,kq a b d⟩
def uW{B B':Below}(a:∀f args H r H',B.call f args H r H'->B'.call f args H r H')(b:∀l args H r H',B.yield l args H r H'->B'.yield l args H r H')
  {pts:Tx} {ops:Tl} {σ σ':St} (h:ew C B pts ops σ σ'):ew C B' pts ops σ σ':=
 h.imp (λh t=>fk a b (h t)) λ⟨i,n,c,d,e,g⟩=>⟨i,n,c,d,e,λt=>kq a b (g t)⟩
def vj{S n:Sems}(h:SemsLe S n){k:Tx}{c:Code}{σ:St}{e:Exit}{σ':St}(g:nO C S k c σ e σ'):nO C n k c σ e σ':=by
 cases c with
 |skip=>exact g
 |label l=>exact g
 |ret=>exact g
 |exit id=>exact g
 |goto l=>exact g
 |refuse w=>exact g
 |seq a b=>
  obtain⟨e₁,σ₁,i,d⟩:=g;exact⟨e₁,σ₁,h.ex _ _ _ _ _ i,d.imp (λd=>⟨d.1,h.ex _ _ _ _ _ d.2⟩) id⟩
 |cond c a b=>
  obtain⟨t,i,d⟩:=g;exact⟨t,i,h.ex _ _ _ _ _ d⟩
 |block id b=>
  obtain⟨e₁,i,d⟩:=g;exact⟨e₁,h.ex _ _ _ _ _ i,d⟩
 |loop b=>
  obtain⟨e₁,σ₁,i,d⟩:=g;exact⟨e₁,σ₁,h.ex _ _ _ _ _ i,d.imp (λd=>⟨d.1,h.ex _ _ _ _ _ d.2⟩) id⟩
 |scope b=>exact h.ex _ _ _ _ _ g
 |region id r j=>
  obtain⟨i,d⟩:=g;refine⟨i,?_⟩;cases j with
  |true=>
   obtain⟨σ₀,p,q⟩:=d;exact⟨σ₀,p,uW h.call h.yield q⟩
  |false=>exact lU h.call h.yield d
 |rangeFunc f m assign o=>
  exact g.elim
def re{S a:Sems}(h:SemsLe S a){f:TK}{args:Tk}{H:Tp}{r:Value}{H':Tp}(l:mE C S f args H r H'):mE C a f args H r H':=by
 obtain⟨c,b,e,σ,m,d,g,i,j,k⟩:=l;exact⟨c,b,e,σ,m,d,g,i,h.ex _ _ _ _ _ j,k⟩
class Kno where
 kn:TK->Tk->Value->Prop
 kh:TK->Tk->Tp->Value->Tp->Prop
variable [Kno]
def noK:IE:=λf a H r b=>(Kno.kn f a r/\b=H)∨Kno.kh f a H r b
def sm(C:Cfg)(n:Nat):Sems:=LP C noK n
def Gr:∀n,SemsLe (sm C n) (sm C (n+1))
 |0=>⟨λ_ _ _ _ _ h=>.inl h,λ_ _ _ _ _ h=>h.elim,λ_ _ _ _ _ h=>h.elim⟩
 |n+1=>by
  have a:=Gr n;exact⟨λ_ _ _ _ _ h=>h.imp id (re a),λ_ _ _ _ _ h=>h.elim,λ_ _ _ _ _ h=>vj a h⟩
def kr{n:Nat}:∀ {m:Nat},n<=m->SemsLe (sm C n) (sm C m)
 |0,h=>by
  obtain rfl:n=0:=Nat.le_zero.1 h;exact⟨λ_ _ _ _ _ h=>h,λ_ _ _ _ _ h=>h,λ_ _ _ _ _ h=>h⟩
 |m+1,h=>by
  by_cases c:n=m+1
  ·subst c;exact⟨λ_ _ _ _ _ h=>h,λ_ _ _ _ _ h=>h,λ_ _ _ _ _ h=>h⟩
  ·have b:=kr (n:=n) (m:=m) (by omega);have a:=Gr (C:=C) m;exact⟨λ_ _ _ _ _ h=>a.call _ _ _ _ _ (b.call _ _ _ _ _ h),λ_ _ _ _ _ h=>a.yield _ _ _ _ _ (b.yield _ _ _ _ _ h),λ_ _ _ _ _ h=>a.ex _ _ _ _ _ (b.ex _ _ _ _ _ h)⟩
def pJ(C:Cfg)(f:TK)(args:Tk)(H:Tp)(r:Value)(H':Tp):Prop:=∃n,(sm C n).call f args H r H'
def Mw(C:Cfg)(l:Nat)(args:Tk)(H:Tp)(r:Value)(H':Tp):Prop:=∃n,(sm C n).yield l args H r H'
def uEx(C:Cfg)(a:Tx)(c:Code)(σ:St)(e:Exit)(σ':St):Prop:=∃n,(sm C n).ex a c σ e σ'
def uB(C:Cfg):Below:={ call:=pJ C,yield:=Mw C }
theorem Mu(d:C.P.follows .mixedOrders=true)(b:∀f args r,Kno.kn f args r->∀H,dO C f args H r H)(a:∀f args H r H',Kno.kh f args H r H'->dO C f args H r H'){f:TK}{args:Tk}{H:Tp}{r:Value}{H':Tp}(h:pJ C f args H r H'):dO C f args H r H':=by
 obtain⟨n,h⟩:=h;exact(Gi d (K:=noK) (λf args H r H' h=>by
  rcases h with⟨c,rfl⟩|h
  ·exact b f args r c _
  ·exact a f args H r H' h) n).1.call _ _ _ _ _ h
def G4{e:Eff}{dst:Tn}{σ σ':St}(h:lL (uB C) e dst σ σ'):∃n,lL (sm C n).toBelow e dst σ σ':=by
 cases e<;>first
  |exact⟨0,h⟩
  |(obtain⟨r,H,⟨n,a⟩,b⟩:=h;exact⟨n,r,H,a,b⟩)
def iR{pts:Tx}{ops:Tl}{i:Nat}{σ σ':St}(h:aj C (uB C) pts ops i σ σ'):∃n,aj C (sm C n).toBelow pts ops i σ σ':=by
 unfold aj at h;split at h
 next a=>exact⟨0,by unfold aj;rw[a];exact h⟩
 next o a=>
  split at h
  ·exact h.elim
  next b=>exact⟨0,by unfold aj;simp only[a,b];exact h⟩
  next b=>
   rcases h with⟨e,d,c⟩|h
   ·obtain⟨n,c⟩:=G4 c;exact⟨n,by unfold aj;simp only[a,b];exact .inl ⟨e,d,c⟩⟩
   ·exact⟨0,by unfold aj;simp only[a,b];exact .inr h⟩
def iy{pts:Tx}{ops:Tl}:∀ {l:Tx} {σ σ':St},bK C (uB C) pts ops l σ σ'->∃n,bK C (sm C n).toBelow pts ops l σ σ'
 | [],_,_,h=>⟨0,h⟩
 |_ :: _,_,_,⟨σ₁,h1,a⟩=>by
  obtain⟨n,h1⟩:=iR h1;obtain⟨m,a⟩:=iy a;have c:=kr (C:=C) (Vp n m);have b:=kr (C:=C) (qdj n m);exact⟨max n m,σ₁,cW c.call c.yield h1,fk b.call b.yield a⟩
theorem fD.refl(σ:St):fD σ σ:=⟨rfl,rfl,rfl,λi x y b a=>by rw[b]at a;exact .inl (AD a).symm⟩
def qr{B:Below}{pts:Tx}{ops:Tl}:∀ {l:Tx} {σ σ':St},bK C B pts ops l σ σ'->fj C B pts ops l σ σ'
 | [],_,_,h=>h
 |_ :: _,σ,_,⟨σ₁,h1,a⟩=>⟨σ,σ₁,.refl σ,h1,qr a⟩
section rules
variable {fid:Tx} {σ σ₁ σ':St} {e e₁:Exit} {a b:Code}
def uEx.skip:uEx C fid .skip σ .normal σ:=⟨1,rfl,rfl⟩
def uEx.label{l:Nat}:uEx C fid (.label l) σ .normal σ:=⟨1,rfl,rfl⟩
def uEx.ret:uEx C fid .ret σ .ret σ:=⟨1,rfl,rfl⟩
def uEx.exit{id:Nat}:uEx C fid (.exit id) σ (.exit id) σ:=⟨1,rfl,rfl⟩
def uEx.seq(h1:uEx C fid a σ .normal σ₁)(c:uEx C fid b σ₁ e σ'):uEx C fid (.seq a b) σ e σ':=by
 obtain⟨n,h1⟩:=h1;obtain⟨m,c⟩:=c;exact⟨max n m+1,.normal,σ₁,(kr (Vp n m)).ex _ _ _ _ _ h1,.inl ⟨rfl,(kr (qdj n m)).ex _ _ _ _ _ c⟩⟩
def uEx.seqX(h1:uEx C fid a σ e σ')(c:e≠.normal):uEx C fid (.seq a b) σ e σ':=by
 obtain⟨n,h1⟩:=h1;exact⟨n+1,e,σ',h1,.inr ⟨c,rfl,rfl⟩⟩
def uEx.cond{c:TG}{t:Bool}(d:ke σ.tmps c = .bool t)(h:uEx C fid (if t then a else b) σ e σ'):uEx C fid (.cond c a b) σ e σ':=by
 obtain⟨n,h⟩:=h;exact⟨n+1,t,d,h⟩
def uEx.block{id:Nat}(h:uEx C fid b σ e σ'):uEx C fid (.block id b) σ (jh id e) σ':=by
 obtain⟨n,h⟩:=h;exact⟨n+1,e,h,rfl⟩
def uEx.loop(h1:uEx C fid b (σ.clear (aO fid b)) .normal σ₁)(c:uEx C fid (.loop b) σ₁ e σ'):uEx C fid (.loop b) σ e σ':=by
 obtain⟨n,h1⟩:=h1;obtain⟨m,c⟩:=c;exact⟨max n m+1,.normal,σ₁,(kr (Vp n m)).ex _ _ _ _ _ h1,.inl ⟨rfl,(kr (qdj n m)).ex _ _ _ _ _ c⟩⟩
def uEx.loopX(h1:uEx C fid b (σ.clear (aO fid b)) e σ')(c:e≠.normal):uEx C fid (.loop b) σ e σ':=by
 obtain⟨n,h1⟩:=h1;exact⟨n+1,e,σ',h1,.inr ⟨c,rfl,rfl⟩⟩
def uEx.scope(h:uEx C fid b σ e σ'):uEx C fid (.scope b) σ e σ':=by
 obtain⟨n,h⟩:=h;exact⟨n+1,h⟩
def uEx.region{id:Nat}{ops:Tl}(h:bK C (uB C) fid ops (List.range ops.size) σ σ'):uEx C fid (.region id ops false) σ .normal σ':=by
 obtain⟨n,h⟩:=iy h;exact⟨n+1,rfl,qr h⟩
def uEx.draw{id:Nat}{ops:Tl}(c:∀n,bK C (sm C n).toBelow fid ops (List.range ops.size) σ σ'->ew C (sm C n).toBelow fid ops σ σ')
  (h:bK C (uB C) fid ops (List.range ops.size) σ σ'):uEx C fid (.region id ops true) σ .normal σ':=by
 obtain⟨n,h⟩:=iy h;exact⟨n+1,rfl,σ,.refl σ,c n h⟩
def uEx.drawS{σ₂:St}{id:Nat}{ops:Tl}{l₁ l₂:Tx}{k:Nat}(c:∀n,bK C (sm C n).toBelow fid ops l₁ σ σ₁->aj C (sm C n).toBelow fid ops k σ₁ σ₂->bK C (sm C n).toBelow fid ops l₂ σ₁ σ'->ew C (sm C n).toBelow fid ops σ σ')
  (h1:bK C (uB C) fid ops l₁ σ σ₁) (d:aj C (uB C) fid ops k σ₁ σ₂) (f:bK C (uB C) fid ops l₂ σ₁ σ'):uEx C fid (.region id ops true) σ .normal σ':=by
 obtain⟨n,h1⟩:=iy h1;obtain⟨m,d⟩:=iR d;obtain⟨l,f⟩:=iy f;have g:=kr (C:=C) (show n<=max n (max m l)by omega);have h:=kr (C:=C) (show m<=max n (max m l)by omega);have i:=kr (C:=C) (show l<=max n (max m l)by omega);exact⟨max n (max m l)+1,rfl,σ,.refl σ,c _ (fk g.call g.yield h1) (cW h.call h.yield d) (fk i.call i.yield f)⟩
def uEx.drawA{id:Nat}{ops:Tl}{n:Nat}(h:ew C (sm C n).toBelow fid ops σ σ'):uEx C fid (.region id ops true) σ .normal σ':=
 ⟨n+1,rfl,σ,.refl σ,h⟩
def pJ.intro{f:TK}{args:Tk}{H:Tp}{d:Func}{c:Code}{vs:Tk}
  (h1:C.P.funcs[f]?=some d) (h:d.body=some c) (i:((d.name == "runtime.NumGoroutine")||C.opq f)=false)
  (g:uEx C (C.pts f) c (lM d args H) e σ) (j:e = .normal∨e = .ret) (k:da C σ d.results.toList=some vs) (l:noLoc (gk vs)=true) :
  pJ C f args H (gk vs) σ.heap:=by
 obtain⟨n,g⟩:=g;exact⟨n+1,.inr ⟨d,c,e,σ,vs,h1,h,i,g,j,k,rfl,l,rfl⟩⟩
end rules
end
end Go.Am
end

import Derived.AtR
import Derived.Calls
import Derived.KernelRfl
import Derived.Laws.AppendOwn
import Derived.Laws.MakeOwn
import Derived.Laws.Tables
import Derived.Orders
import Derived.RangeFuncIn
import Derived.RangeFuncLeaves
import GoSem.Claims
set_option linter.all false
namespace Go
abbrev te:=@Bool.and_eq_true
abbrev A9:=@List.mem_of_getElem?
abbrev A_:=@List.all_eq_true
abbrev CY:=@List.mem_range
abbrev EC:=@Option.map_eq_some_iff
abbrev Ey:=@Nat.eq_of_beq_eq_true
abbrev B8:=@Nat.le_refl
abbrev EY:=@Nat.ble_eq_true_of_le
abbrev DJ:=@List.mem_map
abbrev Ex:=@Option.bind_some
abbrev FY:=@Option.bind_eq_some_iff
abbrev Gm:=@List.getElem?_eq_getElem
abbrev EG:=@List.nil_append
abbrev Fh:=@Bool.false_eq_true
abbrev FK:=@List.getElem?_of_mem
abbrev EI:=@Option.some.inj
abbrev EQ:=@List.cons_append
abbrev FZ:=@List.mem_cons_of_mem
abbrev D6:=@Nat.zero_le
abbrev FL:=@List.append_assoc
abbrev FM:=@List.getElem?_map
abbrev EL:=@List.mem_cons
abbrev H3:=@List.getElem?_append_left
abbrev EN:=@List.map_cons
abbrev G0:=@List.mem_iff_getElem?
abbrev Fs:=@List.mem_append
abbrev Iz:=@List.getElem?_append_right
abbrev EX:=@Bool.not_true
abbrev Hy:=@List.getElem?_eq_none
abbrev FJ:=@Option.map_some
abbrev GM:=@List.mem_singleton
abbrev Ia:=@List.getElem?_set_self
abbrev JX:=@Array.getElem?_eq_some_iff
abbrev FT:=@Bool.not_false
abbrev G9:=@Int.natCast_nonneg
abbrev GG:=@List.mem_flatMap
abbrev IW:=@List.take_of_length_le
abbrev G_:=@Option.some.injEq
abbrev KI:=@List.pairwise_iff_getElem
abbrev GH:=@List.mem_filter
abbrev IA:=@List.getElem?_set_ne
abbrev HY:=@List.length_append
abbrev GN:=@Bool.or_eq_true
abbrev GY:=@List.length_map
abbrev GZ:=@List.length_set
abbrev Hz:=@Bool.not_eq_true
abbrev HZ:=@List.getElem?_set
abbrev H0:=@List.pairwise_map
abbrev Ib:=@List.ext_getElem?
abbrev F9:=@Nat.zero_add
abbrev IB:=@List.take_add_one
abbrev HF:=@List.append_nil
abbrev Pg:=@List.drop_eq_getElem_cons
abbrev KF:=@List.mem_append_left
abbrev Ph:=@List.length_eq_zero_iff
abbrev Ej:=@Ne.symm
abbrev KG:=@List.mem_cons_self
abbrev KH:=@List.pairwise_cons
abbrev OO:=@List.mem_of_mem_take
abbrev XM:=@Array.getD_eq_getD_getElem?
abbrev IU:=@List.cons.injEq
abbrev IV:=@List.map_append
abbrev H4:=@Int.ofNat.inj
abbrev xT:=@Option.isSome_iff_exists
abbrev XT:=@List.nodup_iff_pairwise_ne
abbrev Pn:=@Nat.mul_le_mul_right
abbrev ZK:=@Array.getElem?_setIfInBounds
abbrev HG:=@Nat.lt_or_ge
abbrev UX:=@List.mem_append_right
abbrev Hx:=@List.forall_mem_cons
abbrev MT:=@List.range_succ
abbrev SD:=@List.mem_filterMap
abbrev IY:=@List.map_nil
abbrev XU:=@List.take_append_drop
abbrev HA:=@Nat.blt_eq
abbrev ZL:=@List.getElem?_replicate
abbrev OP:=@Bool.eq_iff_iff
abbrev SE:=@List.not_mem_nil
abbrev UY:=@List.flatMap_cons
abbrev UZ:=@List.length_range
abbrev ZM:=@List.range_eq_range'
abbrev h7:=@List.drop_of_length_le
abbrev h8:=@List.pairwise_lt_range
abbrev kA:=@List.mem_or_eq_of_mem_set
abbrev U0:=@Option.getD_some
abbrev ZN:=@Array.toList_append
abbrev ZO:=@List.flatMap_append
abbrev ZP:=@List.map_congr_left
abbrev IX:=@Nat.ble_eq
abbrev eV:=@Int.eq_ofNat_of_zero_le
abbrev KJ:=@Nat.add_mul
abbrev ZH:=@Nat.lt_or_gt_of_ne
abbrev pB:=@Bool.or_eq_false_iff
abbrev lC:=@List.mem_of_mem_drop
abbrev XP:=@List.length_take
abbrev XQ:=@List.take_length
abbrev qbI:=@Array.getElem?_setIfInBounds_ne
abbrev ZI:=@Bool.not_eq_true'
abbrev w4:=@List.length_pos_iff
abbrev UV:=@List.Perm.refl
abbrev b1:=@List.getElem?_eq_some_iff
abbrev b2:=@List.mem_of_find?_eq_some
abbrev SB:=@Nat.add_assoc
abbrev SC:=@Prod.mk.injEq
abbrev XR:=@List.foldl_cons
abbrev Pj:=@List.map_map
abbrev Pm:=@Nat.le_trans
abbrev XS:=@Nat.min_eq_left
abbrev o0:=@List.getElem?_take
abbrev KK:=@Nat.mod_lt
abbrev u9:=@Array.toList_inj
abbrev ZJ:=@List.length_cons
abbrev d8:=@List.getElem?_append
abbrev UW:=@List.all_cons
abbrev bm:=@List.getElem?_cons_succ
abbrev XN:=@List.drop_zero
abbrev XO:=@List.mapM_cons
abbrev SA:=@Nat.sub_self
abbrev p7:=@List.nodup_append
abbrev w9:=@List.nodup_cons
abbrev p8:=@List.any_eq_true
abbrev d6:=@List.getElem?_drop
abbrev g3:=@List.set_append_right
abbrev qb9:=@List.exists_mem_of_ne_nil
abbrev bb:=@List.pairwise_append
abbrev ec:=@List.flatten_cons
abbrev qcc:=@Int.mul_le_mul_of_nonneg_right
abbrev qcd:=@List.getElem?_cons_zero
abbrev qce:=@List.idxOf?_eq_some_iff
abbrev a8:=@List.replicate_succ
abbrev hy:=@List.take_succ_cons
abbrev U1:=@Nat.one_mul
abbrev d5:=@List.drop_append
abbrev ek:=@List.flatMap_map
abbrev B0:=@List.drop_drop
abbrev hZ:=@List.nodup_nil
abbrev z':=@Nat.mul_le_mul
abbrev qcn:=@List.filter_append
abbrev qco:=@List.filterMap_append
abbrev qcp:=@List.pairwise_flatMap
abbrev ee:=@Nat.le_max_left
abbrev ZR:=@Nat.zero_mul
abbrev gu:=@Bool.false_or
abbrev qct:=@List.foldl_append
abbrev qcu:=@List.contains_eq_mem
abbrev qcv:=@Array.getElem?_eq_getElem
abbrev a7:=@List.range'_succ
abbrev e1:=@List.take_append
abbrev qcy:=@Nat.le_max_right
abbrev qcz:=@Array.getElem?_push
abbrev qcA:=@List.drop_succ_cons
abbrev ZQ:=@Nat.mul_one
abbrev qcC:=@List.Pairwise.imp_of_mem
abbrev qcD:=@List.idxOf_lt_length_iff
abbrev qcE:=@Array.all_eq_true'
abbrev qcF:=@Bool.not_eq_false'
abbrev hN:=@List.find?_some
abbrev qcH:=@List.set_cons_succ
abbrev qcI:=@List.set_cons_zero
abbrev qcJ:=@Array.getElem?_eq_none
abbrev qcK:=@Bool.eq_false_iff
abbrev a9:=@List.take_zero
abbrev SF:=@Prod.ext
abbrev qcN:=@Array.eq_empty_of_size_eq_zero
abbrev qcO:=@List.Pairwise.and_mem
abbrev qcP:=@List.Perm.append_left
abbrev qcQ:=@List.length_filter_le
abbrev qcR:=@List.length_replicate
abbrev qcS:=@List.length_singleton
abbrev qcT:=@List.eq_nil_of_length_eq_zero
abbrev qcU:=@List.length_drop
abbrev qcV:=@List.take_append_of_le_length
abbrev qcW:=@List.Pairwise.filter
abbrev qcX:=@List.map_eq_cons_iff
abbrev qcY:=@List.range'_append_1
abbrev qcZ:=@List.set_append_left
abbrev dT:=@Int.le_refl
abbrev qc1:=@List.filter_eq_self
abbrev qc2:=@Nat.div_le_self
abbrev qc3:=@Option.pure_def
abbrev qc4:=@Array.getElem?_append_left
abbrev qc5:=@Int.tmod_eq_emod_of_nonneg
abbrev qc6:=@List.exists_cons_of_ne_nil
abbrev qc7:=@Array.ext_getElem?
abbrev qc8:=@Array.foldl_toList
abbrev qc9:=@List.map_set
abbrev qda:=@List.zip_cons_cons
abbrev e2:=@Nat.add_zero
abbrev qdc:=@Nat.lt_of_lt_of_le
abbrev ay:=@Prod.ext_iff
abbrev qde:=@Array.mapM_eq_mapM_toList
abbrev qdf:=@List.getElem?_zip_eq_some
abbrev qdg:=@List.eq_of_mem_replicate
abbrev qdh:=@List.filter_congr
abbrev qdi:=@List.getElem?_inj
abbrev qdj:=@List.mem_range'_1
abbrev qdk:=@Nat.lt_trichotomy
abbrev qdl:=@List.idxOf?_eq_none_iff
abbrev qdm:=@List.mapM_nil
abbrev qdn:=@List.pairwise_filterMap
abbrev qdo:=@List.take_add
abbrev qdp:=@Nat.add_sub_cancel_left
abbrev qdq:=@Array.toList_map
abbrev qdr:=@Nat.min_eq_right
abbrev qds:=@Option.getD_none
abbrev qdt:=@Int.emod_nonneg
abbrev qdu:=@Int.le_total
abbrev qdv:=@Int.ofNat_le
abbrev qdw:=@List.all_append
abbrev qdx:=@List.append_inj
abbrev qdy:=@List.forIn_cons
abbrev qdz:=@List.length_nil
abbrev qdA:=@List.set_append
abbrev qdB:=@Nat.beq_refl
abbrev qdC:=@Nat.le_of_lt
abbrev qdD:=@Nat.not_lt_zero
abbrev qdE:=@List.map_id
abbrev qdF:=@Nat.mul_pos
abbrev qdG:=@Bool.and_true
abbrev qdH:=@Nat.mod_le
abbrev E6:=@decide_eq_true_eq
abbrev GI:=@decide_eq_false
abbrev Gs:=@decide_eq_true
abbrev qs:=@if_pos
abbrev rv:=@if_neg
end Go
noncomputable section
open List(replicate)
namespace Go.Am
theorem tt{p:Prop}(h:p:=by simp;omega):p:=h
theorem j_{p:Prop}(h:p:=by simp_all):p:=h
theorem i_{p:Prop}(h:p:=by grind):p:=h
theorem c_{p:Prop}(h:p:=by simp):p:=h
theorem a_{p:Prop}(h:p:=by omega):p:=h
abbrev _root_.TR:=Value
def w6:Value:=.tuple #[.tuple #[]]
def scalar:Value->Bool
 | .bool _=>true
 | .int _ _=>true
 | .string _=>true
 | .pointer none=>true
 | .map none=>true
 | .nilFunc=>true
 | .nilIface=>true
 | .slice none 0 0=>true
 |_=>false
def gL:Value->Bool
 | .agg cs=>cs.toList.all scalar
 |v=>scalar v
def flat:Value->Bool
 | .tuple vs=>vs.size != 1&&vs.toList.all gL
 |v=>gL v
abbrev _root_.Tl:=Array Value
def vp(cs:Tl):Option IntKind:=
 match cs.toList with
 | .int k _ :: _=>some k
 |_=>none
def jV:Value->Bool
 | .tuple vs=>match vs.toList with
  | [.agg cs]=>(vp cs).isSome
  |_=>false
 |_=>false
def gR{vs:Tl}(h:jV (.tuple vs)=true):vs.size=1:=by
 simp only[jV]at h;split at h
 next e=>rw[←Array.length_toList,e];rfl
 .cases h
class DB where
 num:Tl->Int
class Fc where
 Fe:Nat->Nat×Nat
instance (priority := 10) glo0 : Fc := ⟨λ_ => (0, 0)⟩
def gB:Nat:=1000000
def Fz [Fc](g:Nat):Nat:=if g<gB then g else(Fc.Fe g).1
def GR [Fc](g:Nat):Nat:=if g<gB then 0 else(Fc.Fe g).2
def LQ [Fc]{g:Nat}(h:Nat.blt g gB=true):Fz g=g:=qs (by rw[HA]at h;exact h)
def LS [Fc]{g:Nat}(h:Nat.blt g gB=true):GR g=0:=qs (by rw[HA]at h;exact h)
abbrev _root_.TI:=Program
def DW{j7:Type}(P:TI):Sem j7->Option j7
 | .pure a=>some a
 | .program k=>DW P (k P)
 |_=>none
abbrev _root_.TS:=World
def iq{j7:Type}{P:TI}{s:Sem j7}{a:j7}(h:DW P s=some a)(w:TS):s.run P w = .ok a w:=by
 induction s with
 |pure b=>simp[DW]at h;subst h;rfl
 |program k c=>exact c P h
 |_=>simp[DW]at h
structure GJ where
 state:LoopState
 pending:Option Code
 fn:FuncId
 tmps:List Value
 params:List Tmp
 assign:Code
 body:Code
abbrev _root_.Tj:=List MapEntry
abbrev _root_.Tn:=List Value
inductive s_ where
 |cells (vs:Tn) (ra:Nat) (rw:Bool)
 |map (es:Tj) (clock:Nat)
 |loop (l:GJ)
 |M9 (s:ByteArray) (pos:Nat)
 |dead
def s_.owned:s_->Bool
 | .cells _ _ rw=>rw
 | .dead=>false
 |_=>true
def s_.alive:s_->Bool
 | .dead=>false
 |_=>true
structure St where
 tmps:List Value
 loc:List (Option (Tn))
 heap:List s_
abbrev _root_.TQ:=FuncId
structure m8 where
 P:Program
 G:Nat->Option (Tn)
 opq:TQ->Bool:=λ_=>false   -- functions into whose code nobody looks
 b_:TQ->List Nat        -- of each temporary that points into a local row: that row's number+2;1: into a known package-level variable;0: anything else
abbrev _root_.TL:=Operand
def jn(a:Tn):TL->Value
 | .tmp t=>a.getD t undef
 | .const v=>if flat v then v else w6
 | .global g=>if Nat.blt g gB then .pointer (some ⟨g,0,some 1⟩)else w6
 | .func f=>.func (.func f) #[] #[]
abbrev _root_.Tk:=Option Value
abbrev _root_.Tu:=List s_
inductive EZ where
 |val (v:Value)
 |GU (s:Nat) (vs:Tn)
 |Ir (s:Nat) (f:Tn->Tk)
 |GV (s:Nat) (f:Tn->Option (Tn))
 |Gf (f:Tu->Tk)
 |Hk (f:Tu->Option (List s_×Value))
 |call (f:TQ) (args:Tn)
 |yield (l:Nat) (args:Tn)
abbrev _root_.Tq:=Option Tmp
def St.put(g9:St)(dst:Tq)(v:Value):St:=
 match dst with
 |some d=>{ g9 with tmps:=g9.tmps.set d v }
 |none=>g9
def aX(g9:St):EZ->Option (St×Value)
 | .val v=>some (g9,v)
 | .GU s vs=>match g9.loc[s]? with
  |some none=>some ({ g9 with loc:=g9.loc.set s (some vs) },.pointer (some ⟨s,0,some 0⟩))
  |_=>none
 | .Ir s f=>match g9.loc[s]? with
  |some (some vs)=>(f vs).map λv=>(g9,v)
  |_=>none
 | .GV s f=>match g9.loc[s]? with
  |some (some vs)=>(f vs).map λa=>({ g9 with loc:=g9.loc.set s (some a) },undef)
  |_=>none
 | .Gf f=>(f g9.heap).map λv=>(g9,v)
 | .Hk f=>(f g9.heap).map λp=>({ g9 with heap:=p.1 },p.2)
 | .call .. => none
 | .yield .. => none
def cut(vs:Tn)(off n:Nat):Option (Tn):=
 if off+n<=vs.length then some ((vs.drop off).take n)else none
abbrev _root_.TP:=TypeId
def dL(P:TI)(t:TP)(vs:Tn)(off:Nat):Tk:=
 match P.underlying t with
 |some (.struct _)|some (.array _ _)=>(cut vs off (P.cellsOf t)).map λa=>.agg a.toArray
 |some _=>vs[off]?
 |none=>none
def qa(vs:Tn)(off:Nat)(new:Tn):Option (Tn):=
 if off+new.length<=vs.length then some (vs.take off++new++vs.drop (off+new.length))else none
def aD:Value->Bool
 | .tuple vs=>!jV (.tuple vs)
 |_=>false
def mt(i:TypeInfo):Tk:=
 match i.zero with
 |some z=>if z.cells.size=i.size/\flat z=true/\aD z=false then some z else none
 |none=>none
def ft(P:TI)(t:TP):Tk:=(P.info? t).bind mt
def bj:Value->Bool
 | .pointer (some a)=>a.spot != some 0
 | .slice (some a) _ _=>a.spot != some 0
 | .tuple vs=>jV (.tuple vs)
 | .agg _=>false
 | .iface _ _=>false
 | .func _ _ _=>false
 |_=>true
def bE:Value->Bool
 | .agg cs=>cs.toList.all bj
 | .func _ a b=>a.toList.all bj&&b.toList.all bj
 | .tuple vs=>vs.size==0||jV (.tuple vs)
 |v=>bj v
def aT:Value->Bool
 | .agg cs=>cs.toList.all bE
 | .func _ a b=>a.toList.all bE&&b.toList.all bE
 | .tuple vs=>vs.toList.all bE
 |v=>bE v
def nc:Value->Bool
 | .agg cs=>cs.toList.all aT
 | .func _ a b=>a.toList.all aT&&b.toList.all aT
 | .tuple vs=>vs.toList.all aT
 |v=>aT v
def aP:Value->Bool
 | .agg _=>false
 | .tuple vs=>jV (.tuple vs)
 |_=>true
def bg(v:Value):Bool:=nc v&&aP v
def fH(P:TI)(t:TP)(v:Value)(vs:Tn)(off:Nat):Option (Tn):=
 if v.cells.size=P.cellsOf t/\(P.info? t).isSome then
  if v.cells.toList.all bg then qa vs off v.cells.toList else none
 else none
abbrev _root_.Ts:=Option Nat
def le(ra:Nat):Ts:=some (ra+10)
def gG(H:Tu)(id:Nat):Option (Tn):=
 match H[id]? with
 |some (.cells a _ _)=>some a
 |_=>none
def cY(C:m8)(H:Tu)(ra:Nat):Value->Option (List Value×Nat)
 | .slice none 0 0=>some ([],0)
 | .slice (some a) len _=>
  if a.spot=some 1 then((C.G a.block).bind λvs=>cut vs a.off (len*ra)).map λx=>(x,len)
  else if a.spot=le ra then
   match H[a.block]? with
   |some (.cells vs e _)=>if e=ra then(cut vs a.off (len*ra)).map λx=>(x,len)else none
   |_=>none
  else none
 | .string s=>if ra=1 then some (s.data.toList.map λb=>.int .u8 b.toNat,s.size)else none
 |_=>none
def bc(need bytes:Nat):Bool:=Nat.ble need 140737488355328&&Nat.ble (need*bytes) 140737488355328
def gK(C:m8)(k:TP)(s x:Value)(H:Tu):Option (List s_×Value):=
 match C.P.underlying k with
 |some (.slice f)=>
  match C.P.info? f with
  |none=>none
  |some b=>
  if b.size=0 then none else
  if (mt b).isNone then none else
  match cY C H b.size x with
  |none=>none
  |some (d,n)=>
   match s with
   | .slice none 0 0=>
    if n=0 then some (H,.slice none 0 0)
    else if bc n b.bytes then some (H++[.cells d b.size true],.slice (some ⟨H.length,0,le b.size⟩) n 0)else none
   | .slice (some a) c j=>
    if a.spot≠le b.size then none else
    match H[a.block]? with
    |some (.cells i e rw)=>
     if e≠b.size then none else
     match cut i a.off (c*b.size)with
     |none=>none
     |some g=>
      match j with
      |0=>
       if n=0 then some (H,.slice (some a) c 0)
       else if rw&&bc (c+n) b.bytes then
        some (H.set a.block .dead++[.cells (g++d) b.size true],.slice (some ⟨H.length,0,le b.size⟩) (c+n) 0)
       else none
      |cap+1=>
       if c+n<=cap then
        if rw then(qa i (a.off+c*b.size) d).map λh=>(H.set a.block (.cells h e true),.slice (some a) (c+n) (cap+1))
        else if n=0 then some (H,.slice (some a) c (cap+1))else none
       else if bc (c+n) b.bytes then
        some (H++[.cells (g++d) b.size true],.slice (some ⟨H.length,0,le b.size⟩) (c+n) 0)
       else none
    |_=>none
   |_=>none
 |_=>none
abbrev _root_.Tt:=Option Int
def iT:Tk->Option (Tt)
 |none=>some none
 |some (.int _ n)=>some (some n)
 |_=>none
def bM(cx l:Nat):Tt->Nat
 |none=>cx - l
 |some m=>m.toNat - l+1
def bV(len cx:Nat)(a:Tt):Tt->Prop
 |none=>a.getD len<=(len:Int)∨(0<cx/\a.getD len<(cx:Int))
 |some m=>a.isSome=true/\a.getD len<=m/\(m<=(len:Int)∨(0<cx/\m<(cx:Int)))
instance (len cx : Nat) (hi mx : Option Int) : Decidable (bV len cx hi mx) := by
 cases mx<;>(unfold bV;infer_instance)
def Bt(C:m8)(t:TP)(x:Value)(d e f:Tk):Tk:=
 match iT d,iT e,iT f with
 |some d,some e,some f=>
  match C.P.underlying t,x with
  |some (.slice b),.slice (some a) c g=>
   if C.P.cellsOf b=0 then none else
   if a.spot≠some 1/\a.spot≠le (C.P.cellsOf b)then none else
   if 0<=d.getD 0/\d.getD 0<=e.getD c/\bV c g e f then
    some (.slice (some { a with off:=a.off+(d.getD 0).toNat*C.P.cellsOf b }) ((e.getD c).toNat - (d.getD 0).toNat) (bM g (d.getD 0).toNat f))
   else none
  |_,_=>none
 |_,_,_=>none
def mn(C:m8)(t:TP)(a:Addr)(c b d:Tk)(H:Tu):Tk:=none
def intOf:Value->Option Int
 | .int _ n=>some n
 |_=>none
def gO(C:m8)(t:TP)(x:Value)(f:Nat):Tk:=
 match C.P.underlying t,x with
 |some (.struct c),.pointer (some a)=>
  match c[f]? with
  |some b=>if C.P.cellsOf b.type=0 then none else some (.pointer (some { a with off:=a.off+b.offset }))
  |none=>none
 |_,_=>none
def fL(C:m8)(t:TP)(x i:Value):Tk:=
 match intOf i with
 |none=>none
 |some i=>
  match C.P.underlying t,x with
  |some (.array c b),.pointer (some a)=>
   if C.P.cellsOf b=0 then none else
   if 0<=i/\i<(c:Int)then some (.pointer (some { a with off:=a.off+i.toNat*C.P.cellsOf b }))else none
  |some (.slice b),.slice (some a) c _=>
   if C.P.cellsOf b=0 then none else
   if 0<=i/\i<(c:Int)then some (.pointer (some ⟨a.block,a.off+i.toNat*C.P.cellsOf b,if a.spot=some 1 then some 1 else none⟩))else none
  |_,_=>none
def yQ(C:m8)(t:TP)(cs:Tl)(off:Nat):Tk:=
 match C.P.underlying t with
 |some (.struct _)|some (.array _ _)=>some (.agg (cs.extract off (off+C.P.cellsOf t)))
 |some _=>cs[off]?
 |none=>none
def vX(C:m8)(t:TP)(x:Value)(f:Nat):Tk:=
 match C.P.underlying t,x with
 |some (.struct c),.agg b=>(c[f]?).bind λa=>yQ C a.type b a.offset
 |_,_=>none
def nV(C:m8)(t:TP)(x i:Value):Tk:=
 match intOf i with
 |none=>none
 |some i=>
  match C.P.underlying t,x with
  |some (.array c a),.agg d=>if 0<=i/\i<(c:Int)then yQ C a d (i.toNat*C.P.cellsOf a)else none
  |some .string,.string s=>if 0<=i then(s[i.toNat]?).map λb=>.int .u8 b.toNat else none
  |_,_=>none
def pw(P:TI)(t:TP):Option (Nat->Option (Nat×Nat)):=
 match P.underlying t with
 |some (.struct a)=>
  if a.all λf=>(P.info? f.type).isSome then some λi=>(a[i]?).map λf=>(f.offset,P.cellsOf f.type)else none
 |some (.array _ e)=>if (P.info? e).isSome then some λi=>some (i*P.cellsOf e,P.cellsOf e)else none
 |_=>none
def vC(C:m8)(t:TP)(a:List (Nat×Value)):Tk:=
 match ft C.P t,pw C.P t with
 |some z,some pl=>(Instr.fill pl z.cells a).map .agg
 |_,_=>none
def aL(z:Tn)(n:Nat):Tn:=(replicate n z).flatten
def fT(C:m8)(t:TP)(len:Nat)(b:List (Nat×Value)):Option (Nat×List Value):=
 match C.P.underlying t with
 |some (.slice e)=>
  match C.P.info? e with
  |some a=>
   if a.size=0 then none else
   if len*a.size > 16777216 then none else
   match mt a with
   |some z=>
    (Instr.fill (λi=>some (i*a.size,a.size)) (aL z.cells.toList len).toArray b).map λc=>(a.size,c.toList)
   |none=>none
  |none=>none
 |_=>none
def dP(C:m8)(t:TP)(len cap:Value)(H:Tu):Option (List s_×Value):=
 match intOf len,intOf cap,C.P.underlying t with
 |some l,some c,some (.slice e)=>
  match C.P.info? e with
  |some a=>
   if a.size=0 then none else
   match mt a with
   |some z=>
    if 0<=l/\l<=c/\c<=1048576/\a.bytes<=4096 then
     some (H++[.cells (aL z.cells.toList c.toNat) a.size true],.slice (some ⟨H.length,0,le a.size⟩) l.toNat (c.toNat+1))
    else none
   |none=>none
  |none=>none
 |_,_,_=>none
def bf:Value->Option Bool
 | .slice none 0 0=>some true
 | .slice (some _) _ _=>some false
 | .map none=>some true
 | .map (some _)=>some false
 | .nilFunc=>some true
 | .func .. => some false
 | .pointer none=>some true
 | .pointer (some _)=>some false
 |_=>none
def bI(e:MapEntry):MapEntry:={ key:=e.key,val:=undef,born:=0 }
def tZ(P:TI)(kt:TP)(k:Value)(a:Tj):Option (Ts):=
 (DW P (Instr.findKey kt k (a.map bI))).map λr=>r.map (·.1)
def jW(P:TI)(kt:TP)(k:Value):Bool:=
 gL k&&(DW P (Instr.checkKey true 10000 kt k)).isSome&&(DW P (Instr.checkKey false 10000 kt k)).isSome&&(DW P (Op.equal kt k k)).any id
def eQ(a:Tj)(i:Nat):Tk:=(a[i]?).map (·.val)
def EE(H:Tu)(id:Nat):Option (List MapEntry×Nat):=
 match H[id]? with
 |some (.map a c)=>some (a,c)
 |_=>none
def dY(C:m8)(t:TP)(m k:Value)(ok:Bool)(H:Tu):Tk:=
 match C.P.underlying t with
 |some (.map b c)=>
  if !jW C.P b k then none else
  match ft C.P c with
  |none=>none
  |some z=>
   match m with
   | .map none=>some (if ok then .tuple #[z,.bool false]else z)
   | .map (some id)=>
    match EE H id with
    |none=>none
    |some (a,_)=>
     match tZ C.P b k a with
     |none=>none
     |some none=>some (if ok then .tuple #[z,.bool false]else z)
     |some (some i)=>(eQ a i).map λv=>if ok then .tuple #[v,.bool true]else v
   |_=>none
 |_=>none
def cL(C:m8)(t:TP)(m k v:Value)(H:Tu):Option (List s_×Value):=
 match C.P.underlying t,m with
 |some (.map b _),.map (some id)=>
  if !(jW C.P b k&&nc v && !aD v)then none else
  match EE H id with
  |none=>none
  |some (a,c)=>
   match tZ C.P b k a with
   |none=>none
   |some none=>some (H.set id (.map (a++[{ key:=k,val:=v,born:=c }]) (c+1)),undef)
   |some (some i)=>
    if (a[i]?).all (λe=>Instr.sameBits 10000 e.key k)then some (H.set id (.map (a.modify i λe=>{ e with key:=k,val:=v }) c),undef)else none
 |_,_=>none
def jq(C:m8)(t:TP)(m k:Value)(H:Tu):Option (List s_×Value):=none
def fX(m st v:Value)(H:Tu):Option (List s_×Value):=none
def pU(C:m8)(t:TP)(m k:Value)(H:Tu):Option (List s_×Value):=none
abbrev _root_.TC:=List Nat
def ou(b_:TC):TL->Nat
 | .tmp t=>b_.getD t 0
 | .global _=>1
 |_=>0
def jp:Value->Option (Nat×Nat)
 | .pointer (some a)=>if a.spot.isNone then some (a.block,a.off)else none
 |_=>none
def ii:Value->Option (Nat×Nat)
 | .pointer (some a)=>if a.spot=some 1 then some (a.block,a.off)else none
 |_=>none
def ko(s:Nat):Value->Option Nat
 | .pointer (some a)=>if a.spot=some 0/\a.block=s then some a.off else none
 |_=>none
def eG(C:m8)(b_:TC)(t:TP)(a:TL)(v:Value):Option EZ:=
 match ou b_ a with
 |0=>match jp v with
  |some p=>some (.Gf λH=>(gG H p.1).bind λb=>dL C.P t b p.2)
  |none=>(ii v).map λp=>.Gf λ_=>(C.G p.1).bind λb=>dL C.P t b p.2
 |1=>(ii v).bind λp=>((C.G p.1).bind λb=>dL C.P t b p.2).map .val
 |s+2=>(ko s v).map λc=>.Ir s λb=>dL C.P t b c
def kQ(C:m8)(t:TP)(id off:Nat)(x:Value)(H:Tu):Option (List s_×Value):=
 match H[id]? with
 |some (.cells b e true)=>(fH C.P t x b off).map λa=>(H.set id (.cells a e true),undef)
 |_=>none
def fF(C:m8)(b_:TC)(t:TP)(a:TL)(v x:Value):Option EZ:=
 if aD x then none else
 match ou b_ a with
 |0=>(jp v).map λp=>.Hk (kQ C t p.1 p.2 x)
 |1=>none
 |s+2=>(ko s v).map λb=>.GV s λc=>fH C.P t x c b
def nz(P:TI)(t:TP):Nat:=
 match P.underlying t with
 |some (.array _ e)=>P.cellsOf e
 |_=>P.cellsOf t
def cM(C:m8)(b_:TC)(dst:Tq)(t:TP)(v:Value):Option EZ:=
 if aD v then none else
 match dst with
 |none=>none
 |some d=>
  if !(v.cells.toList.all bg)then none
  else if b_.getD d 0=d+2 then some (.GU d v.cells.toList)
  else
   some (.Hk λH=>some (H++[.cells v.cells.toList (nz C.P t) true],.pointer (some ⟨H.length,0,none⟩)))
abbrev _root_.Tg:=Operand->Value
def cN(C:m8)(a:Tg)(o:Oper):Option EZ:=
 if o.op.operands.toList.all (λx=>flat (a x))then
  match DW C.P (execOp a o)with
  |some (.value v)=>if flat v then some (.val v)else none
  |_=>none
 else none
def qL(a:Tk)(b:Option EZ):Option EZ:=
 match a with
 |some v=>some (.val v)
 |none=>b
def mV(x y:Value):Option Bool:=
 match bf x,bf y with
 |some true,some b=>some b
 |some b,some true=>some b
 |_,_=>none
def dJ:Value->Nat
 | .slice .. => 1
 | .map _=>2
 | .nilFunc=>3
 | .func .. => 3
 | .pointer _=>4
 |_=>0
def mW:TypeDesc->Nat
 | .slice _=>1
 | .map _ _=>2
 | .func .. => 3
 | .pointer _=>4
 |_=>100
def uH(P:TI)(t:TP)(x y:Value):Bool:=
 match P.underlying t with
 |some d=>mW d==dJ x&&mW d==dJ y
 |none=>false
def pQ(C:m8)(t:TP)(d x:Value)(H:Tu):Option (List s_×Value):=
 match C.P.underlying t,d with
 |some (.slice e),.slice none 0 0=>if C.P.cellsOf e=0 then none else(cY C H (C.P.cellsOf e) x).map λ_=>(H,.int .i64 0)
 |some (.slice e),.slice (some a) b _=>
  if C.P.cellsOf e=0 then none else
  if a.spot≠le (C.P.cellsOf e)then none else
  match cY C H (C.P.cellsOf e) x,H[a.block]? with
  |some (f,n),some (.cells h c true)=>
   if c≠C.P.cellsOf e then none else
   (qa h a.off (f.take (Nat.min n b*C.P.cellsOf e))).map λg=>(H.set a.block (.cells g c true),.int .i64 (Nat.min n b))
  |_,_=>none
 |_,_=>none
def vI(C:m8)(t:TP)(x:Value)(H:Tu):Option (List s_×Value):=none
def aY(C:m8)(a:Tg)(b:Builtin)(args:Tn)(argTypes:Array TypeId)(o:Oper):Option EZ:=
 match b,args,argTypes[0]? with
 | .append,[s,x],some t=>if argTypes[1]?.any (λu=>(C.P.underlying u) matches some (.int _)|none)||argTypes[1]?.isNone then none else some (.Hk (gK C t s x))
 | .len,[x],some t=>
  match C.P.underlying t,x with
  |some (.slice _),.slice _ n _=>some (.val (.int .i64 n))
  |some (.map _ _),.map (some id)=>some (.Gf λH=>(EE H id).map λp=>.int .i64 p.1.length)
  |some (.array n _),_=>some (.val (.int .i64 n))
  |_,_=>cN C a o
 | .cap,[x],some t=>
  match C.P.underlying t,x with
  |some (.slice _),.slice (some _) _ (n+1)=>some (.val (.int .i64 n))
  |some (.slice _),.slice none 0 0=>some (.val (.int .i64 0))
  |some (.array n _),_=>some (.val (.int .i64 n))
  |_,_=>none
 | .copy,[d,x],some t=>some (.Hk (pQ C t d x))
 | .delete,[m,k],some t=>some (.Hk (pU C t m k))
 | .clear,[x],some t=>some (.Hk (vI C t x))
 |_,_,_=>cN C a o
def gZ(C:m8)(e:Tg)(c:Call)(o:Oper):Option EZ:=
 let a:=c.args.toList.map e
 match c.callee with
 | .builtin b=>aY C e b a c.argTypes o
 | .invoke _ _=>none
 | .value f=>
  if !(a.all nc)then none else
  match e f with
  | .func (.func g) first d=>if nc (.func (.func g) first d)then some (.call g (first.toList++a++d.toList))else none
  | .func (.yield l) first d=>if first.size=0/\d.size=0 then some (.yield l a)else none
  |_=>none
def qp(C:m8)(t:TP):Tk->Bool
 |none=>true
 |some v=>(intOf v).isSome&&((C.P.underlying t) matches some (.map _ _))
def au(C:m8)(b_:TC)(d:Tg)(o:Oper):Option EZ:=
 match o.op with
 | .move x=>some (.val (d x))
 | .assign x=>some (.val (d x))
 | .pick c a b=>match d c with
  | .bool q=>some (.val (if q then d a else d b))
  |_=>none
 | .alloc t=>(ft C.P t).bind λz=>cM C b_ o.dst t z
 | .box t x=>cM C b_ o.dst t (d x)
 | .build t e=>if e.toList.all (λp=>!aD (d p.2))then(vC C t (e.toList.map λp=>(p.1,d p.2))).map .val else none
 | .buildSlice t n e=>
  if (e.toList.all λp=>(d p.2).cells.toList.all bg)then
   (fT C t n (e.toList.map λp=>(p.1,d p.2))).map λr=>
    .Hk λH=>some (H++[.cells r.2 r.1 true],.slice (some ⟨H.length,0,le r.1⟩) n (n+1))
  else none
 | .load t a=>eG C b_ t a (d a)
 | .store t a x=>fF C b_ t a (d a) (d x)
 | .nilCheck x=>match d x with
  | .pointer (some a)=>some (.val (.pointer (some a)))
  | .func (.func f) a b=>some (.val (.func (.func f) a b))
  | .func (.yield f) a b=>some (.val (.func (.yield f) a b))
  |_=>none
 | .binOp B t x y _=>
  match B with
  | .eql=>match mV (d x) (d y)with
   |some b=>if uH C.P t (d x) (d y)then some (.val (.bool b))else none
   |none=>cN C d o
  | .neq=>match mV (d x) (d y)with
   |some b=>if uH C.P t (d x) (d y)then some (.val (.bool !b))else none
   |none=>cN C d o
  |_=>cN C d o
 | .makeFunc fn first g=>match fn with
  | .yield _=>none
  |fn=>some (.val (.func fn (first.map d) (g.map d)))
 | .makeMap t r=>
  if qp C t (r.map d)then
   some (.Hk λH=>some (H++[.map [] 0],.map (some H.length)))
  else none
 | .makeSlice t l c=>some (.Hk (dP C t (d l) (d c)))
 | .slice t x j h u=>
  match d x with
  | .pointer (some a)=>
   if a.spot=some 1 then(mn C t a (j.map d) (h.map d) (u.map d) []).map .val
   else some (.Gf (mn C t a (j.map d) (h.map d) (u.map d)))
  |x=>qL (Bt C t x (j.map d) (h.map d) (u.map d)) (cN C d o)
 | .fieldAddr t x f=>(gO C t (d x) f).map .val
 | .indexAddr t x i=>(fL C t (d x) (d i)).map .val
 | .field t x f=>(vX C t (d x) f).map .val
 | .index t x i=>(nV C t (d x) (d i)).map .val
 | .lookup t m k w=>match d m with
  | .map none=>(dY C t (.map none) (d k) w []).map .val
  |m=>some (.Gf (dY C t m (d k) w))
 | .mapUpdate t m k v=>some (.Hk (cL C t (d m) (d k) (d v)))
 | .insert t m k v=>some (.Hk (cL C t (d m) (d k) (d v)))
 | .mapEntry t m k=>some (.Hk (jq C t (d m) (d k)))
 | .entryStore _ m s v=>some (.Hk (fX (d m) (d s) (d v)))
 | .extract t i=>match d t with
  | .tuple A=>if A.size<=1 then none else(A[i]?).map .val
  |_=>none
 | .call c=>gZ C d c o
 | .unOp .. => cN C d o
 | .convert .. => cN C d o
 |_=>none
def cS{j7:Type}{f:j7->Bool}{l:List j7}(h:l.all f=true){i:Nat}{x:j7}(a:l[i]?=some x):f x=true:=
 A_.1 h x (A9 a)
def fk{c:TR}(h:aP c=true):c.cells = #[c]:=by
 cases c<;>first|rfl|(simp[aP]at h)
section
variable [DB]
def Hi:Value->Value
 | .tuple vs=>match vs.toList with
  | [.agg cs]=>match vp cs with
   |some k=>.int k (DB.num cs)
   |none=>.tuple vs
  |_=>.tuple vs
 |v=>v
def GE:Value->Value
 | .agg cs=>.agg (cs.map Hi)
 |v=>Hi v
def ky(v:Value):Bool:=scalar v||jV v
def plain:Value->Bool
 | .agg cs=>cs.toList.all ky
 |v=>ky v
def Q7:Op->Bool
 | .select .. => true
 | .defer _=>true
 |_=>false
def oh(C:m8)(a:Tn)(o:Oper)(v:Value):Prop:=
 Q7 o.op=false/\o.op.operands.toList.all (λx=>plain (jn a x))=true/\plain v=true/\
  ∀w,(execOp (λx=>GE (jn a x)) o).run C.P w = .ok (.value (GE v)) w
def gJ(g9 a:St):Prop:=
 a.loc=g9.loc/\a.heap=g9.heap/\a.tmps.length=g9.tmps.length/\
  ∀(i:Nat) x y,g9.tmps[i]?=some x->a.tmps[i]?=some y->y=x∨(plain x=true/\plain y=true/\GE x=GE y)
abbrev _root_.To:=Array Oper
def cE(ops:To)(a:Tn)(o:Oper):Option Bool:=
 match o.guard with
 |none=>some true
 |some (j,c)=>
  match ((ops[j]?).bind (·.dst)).bind (a[·]?)with
  |some (.bool b)=>some (b==c)
  |some (.tuple d)=>if d.size=1 then none else some false
  |_=>some false
structure Below where
 call:TQ->Tn->Tu->Value->Tu->Prop
 yield:Nat->Tn->Tu->Value->Tu->Prop
def nP(B:Below)(e:EZ)(dst:Tq)(g9 a:St):Prop:=
 match e with
 | .call f args=>∃r H,B.call f args g9.heap r H/\a=({ g9 with heap:=H }:St).put dst r
 | .yield l args=>∃r H,B.yield l args g9.heap r H/\a=({ g9 with heap:=H }:St).put dst r
 |e=>∃p,aX g9 e=some p/\a=p.1.put dst p.2
def aq(C:m8)(B:Below)(b_:TC)(ops:To)(i:Nat)(g9 a:St):Prop:=
 match ops[i]? with
 |none=>a=g9
 |some o=>
  match cE ops g9.tmps o with
  |none=>False
  |some false=>a=g9.put o.dst undef
  |some true=>(∃e,au C b_ (jn g9.tmps) o=some e/\nP B e o.dst g9 a)∨(∃v,oh C g9.tmps o v/\a=g9.put o.dst v)
def br(C:m8)(B:Below)(b_:TC)(ops:To):TC->St->St->Prop
 | [],g9,a=>a=g9
 |i :: l,g9,a=>∃j9,aq C B b_ ops i g9 j9/\br C B b_ ops l j9 a
def gj(C:m8)(B:Below)(b_:TC)(ops:To):TC->St->St->Prop
 | [],g9,a=>a=g9
 |i :: l,g9,a=>∃b j9,gJ g9 b/\aq C B b_ ops i b j9/\gj C B b_ ops l j9 a
inductive EA:(Nat->Value)->Prop
 |ptr:EA λn=>.pointer (some ⟨n,0,none⟩)
 |slice (e l c:Nat):EA λn=>.slice (some ⟨n,0,le e⟩) l c
 |map:EA λn=>.map (some n)
def eN(C:m8)(B:Below)(b_:TC)(ops:To)(c:Nat->Ts)(i:Nat)(g9 b:St):Prop:=
 match c i with
 |none=>aq C B b_ ops i g9 b
 |some k=>∃o f a x mk,ops[i]?=some o/\cE ops g9.tmps o=some true/\au C b_ (jn g9.tmps) o=some (.Hk f)/\f g9.heap=some (a++[x],mk g9.heap.length)/\
   a.length=g9.heap.length/\a[k]?=some .dead/\EA mk/\b=({ g9 with heap:=a.set k x }:St).put o.dst (mk k)
def jP(C:m8)(B:Below)(b_:TC)(ops:To)(b:Nat->Ts):TC->St->St->Prop
 | [],g9,a=>a=g9
 |i :: l,g9,a=>i∉l/\∃j9,eN C B b_ ops b i g9 j9/\jP C B b_ ops b l j9 a
def St.pad(g9:St)(n:Nat):St:={ g9 with heap:=g9.heap++replicate n .dead }
def dI(b_:TC)(o:Oper):Bool:=
 match o.op with
 | .buildSlice _ _ _ | .makeMap _ _ | .makeSlice _ _ _=>true
 | .alloc _ | .box _ _=>match o.dst with
  |some d=>!Nat.beq (b_.getD d 0) (d+2)
  |none=>false
 | .call c=>match c.callee with
  | .builtin .append=>true
  |_=>false
 |_=>false
def eW(C:m8)(B:Below)(b_:TC)(ops:To)(g9 b:St):Prop:=
 (∀t,br C B b_ ops (Region.linearise .any ops t) g9 b)∨
 ∃a n,ops.toList.any (dI b_)=true/\(∀i k,a i=some k->g9.heap.length<=k/\k<g9.heap.length+n)/\(∀i j k,a i=some k->a j=some k->i=j)/\
  ∀t,jP C B b_ ops a (Region.linearise .any ops t) (g9.pad n) b
def aR(b_:TC):Code->List Nat
 | .region _ ops _=>ops.toList.filterMap λo=>
  match o.op,o.dst with
  | .box ..,some d=>if b_.getD d 0=d+2 then some d else none
  | .alloc _,some d=>if b_.getD d 0=d+2 then some d else none
  |_,_=>none
 | .seq a b=>aR b_ a++aR b_ b
 | .cond _ a b=>aR b_ a++aR b_ b
 | .block _ b=>aR b_ b
 | .loop b=>aR b_ b
 | .rangeFunc _ _ a b=>aR b_ a++aR b_ b
 | .scope b=>aR b_ b
 |_=>[]
def kf(b:TC)(v:Value):Value:=
 match v with
 | .pointer (some a)=>if a.spot=some 0&&b.contains a.block then w6 else v
 |v=>if nc v then v else w6
def jb(a:TC):List (Option (Tn))->Nat->List (Option (Tn))
 | [],_=>[]
 |x :: l,i=>(if a.contains i then none else x) :: jb a l (i+1)
def St.clear(g9:St)(a:TC):St:=
 if a=[]then g9 else { g9 with tmps:=g9.tmps.map (kf a),loc:=jb a g9.loc 0 }
def zD(a tm:Tn):Prop:=tm.length=a.length/\∀(i:Nat) x,tm[i]?=some x->x=w6∨(a[i]?=some x/\nc x=true)
def cX:List Tmp->Tn->Tn->List Value
 |t :: b,v :: vs,a=>cX b vs (a.set t v)
 |_,_,a=>a
def fg(H:Tu)(l:Nat):Option GJ:=
 match H[l]? with
 |some (.loop r)=>some r
 |_=>none
abbrev _root_.Tm:=Option Code
def Ko:Exit->Option (Tm)
 | .normal=>some none
 | .ret=>some (some .ret)
 | .exit id=>some (some (.exit id))
 |_=>none
def zZ:Tm->Option Exit
 |none=>some .normal
 |some .ret=>some .ret
 |some (.exit id)=>some (.exit id)
 |_=>none
def gn(C:m8)(g9:St):ResultVar->Option Value
 | .tmp t=>some (g9.tmps.getD t undef)
 | .cell a t=>
  match g9.tmps.getD a undef with
  | .pointer (some p)=>
   match p.spot with
   |none=>(gG g9.heap p.block).bind λvs=>dL C.P t vs p.off
   |some 0=>match g9.loc[p.block]? with
    |some (some vs)=>dL C.P t vs p.off
    |_=>none
   |_=>none
  |_=>none
def dq(C:m8)(g9:St):List ResultVar->Option (Tn)
 | []=>some []
 |r :: a=>match gn C g9 r,dq C g9 a with
  |some v,some vs=>some (v :: vs)
  |_,_=>none
def gM:Tn->Value
 | [v]=>v
 |vs=>.tuple vs.toArray
def nQ(a:Func)(args:Tn)(H:Tu):St:=
 { tmps:=args++replicate (a.ntmps - args.length) undef,loc:=replicate a.ntmps none,heap:=H }
structure Gw extends Below where
 ex:TC->Code->St->Exit->St->Prop
def kN(id:Nat):Exit->Exit
 | .exit i=>if i=id then .normal else .exit i
 |e=>e
def qe(C:m8)(S:Gw)(h:TC):Code->St->Exit->St->Prop
 | .skip,g9,e,d=>e = .normal/\d=g9
 | .label _,g9,e,d=>e = .normal/\d=g9
 | .ret,g9,e,d=>e = .ret/\d=g9
 | .exit id,g9,e,d=>e = .exit id/\d=g9
 | .goto _,_,_,_=>False
 | .refuse _,_,_,_=>False
 | .seq a b,g9,e,d=>∃i j9,S.ex h a g9 i j9/\((i = .normal/\S.ex h b j9 e d)∨(i≠.normal/\e=i/\d=j9))
 | .cond c a b,g9,e,d=>∃t,jn g9.tmps c = .bool t/\S.ex h (if t then a else b) g9 e d
 | .block id b,g9,e,d=>∃i,S.ex h b g9 i d/\e=kN id i
 | .loop b,g9,e,d=>∃i j9,S.ex h b (g9.clear (aR h b)) i j9/\((i = .normal/\S.ex h (.loop b) j9 e d)∨(i≠.normal/\e=i/\d=j9))
 | .scope b,g9,e,d=>S.ex h b g9 e d
 | .region _ ops j,g9,e,d=>e = .normal/\(if j then ∃l,gJ g9 l/\eW C S.toBelow h ops l d else gj C S.toBelow h ops (List.range ops.size) g9 d)
 | .rangeFunc f params assign body,g9,e,d=>
  h≠[]/\∃g first cap B4 tm r H k,zD g9.tmps tm/\
   jn g9.tmps f = .func (.func g) first cap/\nc (.func (.func g) first cap)=true/\
   S.call g (first.toList++[.func (.yield g9.heap.length) #[] #[]]++cap.toList)
    (g9.heap++[.loop { state:=.ready,pending:=none,fn:=B4,tmps:=tm,params:=params.toList,assign,body }]) r H/\
   fg H g9.heap.length=some k/\k.state≠.busy/\zZ k.pending=some e/\
   d = { g9 with heap:=H.set g9.heap.length (.loop { k with state:=.exhausted }) }
def oF(C:m8)(S:Gw)(f:TQ)(args:Tn)(H:Tu)(r:Value)(H':Tu):Prop:=
 ∃a b e g9 vs,C.P.funcs[f]?=some a/\a.body=some b/\((a.name == "runtime.NumGoroutine")||C.opq f)=false/\
  S.ex (C.b_ f) b (nQ a args H) e g9/\(e = .normal∨e = .ret)/\dq C g9 a.results.toList=some vs/\
  r=gM vs/\nc r=true/\H'=g9.heap
def mr(f:m8)(S:Gw)(l:Nat)(args:Tn)(H:Tu)(r:Value)(H':Tu):Prop:=
 ∃a j9 c e b d j,fg H l=some a/\args.length=a.params.length/\
  S.ex [] a.assign { tmps:=cX a.params args a.tmps,loc:=[],heap:=H } .normal j9/\
  fg j9.heap l=some c/\c.state = .ready/\
  S.ex [] a.body { j9 with heap:=j9.heap.set l (.loop { c with state:=.busy }) } e b/\Ko e=some j/\
  fg b.heap l=some d/\r = .bool j.isNone/\
  H'=b.heap.set l (.loop { d with state:=if j.isNone then .ready else .done,pending:=j })
abbrev Pv:=FuncId->Tn->Tu->Value->Tu->Prop
def OU(C:m8)(K:Pv):Nat->Gw
 |0=>{ call:=K,yield:=λ_ _ _ _ _=>False,ex:=λ_ _ _ _ _=>False }
 |n+1=>{ call:=λf args H r H'=>K f args H r H'∨oF C (OU C K n) f args H r H',yield:=mr C (OU C K n),ex:=qe C (OU C K n) }
end
structure Pl where
 b:Nat
 o:Nat
 room:Nat
 ra:Nat
abbrev q_:=Nat->Option Nat
abbrev ke:=Nat->Option Pl
def DP:q_:=λ_=>none
section
variable [DB] [Fc]
abbrev _root_.TK:=IntKind
inductive VR(la:q_)(mu:ke):Value->Value->Prop
 |w6 (c:Value):VR la mu (.tuple #[.tuple #[]]) c
 |O6 {cs:Tl} {k:TK} (h:vp cs=some k):VR la mu (.tuple #[.agg cs]) (.int k (DB.num cs))
 |scalar {v:Value} (h:scalar v=true):VR la mu v v
 |agg {a c:Tl} (hs:a.size=c.size) (h:∀(i:Nat) (x y:Value),a[i]?=some x->c[i]?=some y->VR la mu x y):VR la mu (.agg a) (.agg c)
 |tuple {a c:Tl} (hn:a.size≠1) (hs:a.size=c.size) (h:∀(i:Nat) (x y:Value),a[i]?=some x->c[i]?=some y->VR la mu x y):VR la mu (.tuple a) (.tuple c)
 |func {fn:Fn} {a b a' b':Tl} (hf:∀l,fn≠.yield l) (ha:a.size=a'.size) (hb:b.size=b'.size)
   (v9:∀(i:Nat) (x y:Value),a[i]?=some x->a'[i]?=some y->VR la mu x y) (B7:∀(i:Nat) (x y:Value),b[i]?=some x->b'[i]?=some y->VR la mu x y) :
   VR la mu (.func fn a b) (.func fn a' b')
 |yield {l:Nat} {p:Pl} (h:mu l=some p):VR la mu (.func (.yield l) #[] #[]) (.func (.yield p.b) #[] #[])
 |FD {s off b:Nat} (h:la s=some b):VR la mu (.pointer (some ⟨s,off,some 0⟩)) (.pointer (some ⟨b,off,none⟩))
 |ET {id off:Nat} {p:Pl} (h:mu id=some p):VR la mu (.pointer (some ⟨id,off,none⟩)) (.pointer (some ⟨p.b,p.o+off,none⟩))
 |E2 {g off:Nat}:VR la mu (.pointer (some ⟨g,off,some 1⟩)) (.pointer (some ⟨Fz g,GR g+off,none⟩))
 |A6 {id off len cap cx:Nat} {p:Pl} (h:mu id=some p) (hr:off+cap*p.ra<=p.room) (hl:len<=cap) (hx:cx=0∨cx=cap+1) :
   VR la mu (.slice (some ⟨id,off,le p.ra⟩) len cx) (.slice (some ⟨p.b,p.o+off,none⟩) len cap)
 |x_ {id off cx ra:Nat} {a:Addr} (hx:cx<=1):VR la mu (.slice (some ⟨id,off,le ra⟩) 0 cx) (.slice (some a) 0 0)
 |DN {g off len cap cx:Nat} (hl:len<=cap) (hx:cx=0∨cx=cap+1):VR la mu (.slice (some ⟨g,off,some 1⟩) len cx) (.slice (some ⟨Fz g,GR g+off,none⟩) len cap)
 |B3 {g off cx:Nat} {a:Addr} (hx:cx<=1):VR la mu (.slice (some ⟨g,off,some 1⟩) 0 cx) (.slice (some a) 0 0)
 |map {id:Nat} {p:Pl} (h:mu id=some p):VR la mu (.map (some id)) (.map (some p.b))
def VR.mono{la f:q_}{mu g:ke}{a c:TR}(h:VR la mu a c)(t:∀s b,la s=some b->f s=some b)(j:∀i p,mu i=some p->g i=some p) :
  VR f g a c:=by
 induction h with
 |w6 c=>exact .w6 c
 |O6 h=>exact .O6 h
 |scalar h=>exact .scalar h
 |agg k _ l=>exact .agg k l
 |tuple u k _ l=>exact .tuple u k l
 |func r o q _ _ m n=>exact .func r o q m n
 |yield h=>exact .yield (j _ _ h)
 |FD h=>exact .FD (t _ _ h)
 |ET h=>exact .ET (j _ _ h)
 |E2=>exact .E2
 |A6 h v d e=>exact .A6 (j _ _ h) v d e
 |x_ e=>exact .x_ e
 |DN d e=>exact .DN d e
 |B3 e=>exact .B3 e
 |map h=>exact .map (j _ _ h)
def VR.up{la:q_}{mu:ke}{a c:TR}(h:VR DP mu a c):VR la mu a c:=
 h.mono (λ_ _ h=>by cases h) (λ_ _ h=>h)
def VR.undef{la:q_}{mu:ke}:VR la mu undef undef:=.tuple c_ rfl λi x y h=>by simp at h
def ch{la:q_}{mu:ke}{a c:TR}(b:scalar a=true)(h:VR la mu a c):c=a:=by
 cases h<;>first|rfl|(simp[Am.scalar]at b)
def oQ{la:q_}{mu:ke}{a c:TR}(b:gL a=true)(h:VR la mu a c):c=a:=by
 cases a with
 |agg f=>
  cases h with
  |scalar _=>rfl
  |agg d h=>
   rename_i g
   simp only[gL]at b
   congr 1
   apply Array.ext d.symm;intro i j e;exact ch (cS (i:=i) b (by simp[e])) (h i f[i] g[i] (by simp[e]) (by simp[j]))
 |_=>exact ch b h
def ue{la:q_}{mu:ke}{a c:TR}(b:flat a=true)(h:VR la mu a c):c=a:=by
 cases a with
 |tuple f=>
  cases h with
  |w6 c=>simp[flat,gL,Am.scalar]at b
  |O6 _=>simp[flat]at b
  |scalar _=>rfl
  |tuple k d h=>
   rename_i g
   simp only[flat,te]at b
   replace b:=b.2
   congr 1
   apply Array.ext d.symm;intro i j e;exact oQ (cS (i:=i) b (by simp[e])) (h i f[i] g[i] (by simp[e]) (by simp[j]))
 |_=>exact oQ b h
def VR.Jp{la:q_}{mu:ke}{v:TR}(h:gL v=true):VR la mu v v:=by
 cases v with
 |agg c=>
  refine .agg rfl λi x y a b=>?_;obtain rfl:x=y:=by rw[a]at b;exact EI b
  exact .scalar (cS (i:=i) (l:=c.toList) h (by simpa using a))
 |_=>exact .scalar h
def VR.of_flat{la:q_}{mu:ke}{v:TR}(h:flat v=true):VR la mu v v:=by
 cases v with
 |tuple c=>
  simp only[flat,te,bne_iff_ne]at h;refine .tuple h.1 rfl λi x y a b=>?_;obtain rfl:x=y:=by rw[a]at b;exact EI b
  exact .Jp (cS (i:=i) (l:=c.toList) h.2 (by simpa using a))
 |_=>exact .Jp h
def gh{la:q_}{mu:ke}{a c:TR}(e:bj a=true)(h:VR la mu a c):VR DP mu a c:=by
 cases h with
 |w6 c=>simp[bj,jV]at e
 |O6 h=>exact .O6 h
 |scalar h=>exact .scalar h
 |agg _ _=>simp[bj]at e
 |tuple f _ _=>exact absurd (gR e) f
 |func _ _ _ _ _=>simp[bj]at e
 |yield h=>simp[bj]at e
 |FD h=>simp[bj]at e
 |ET h=>exact .ET h
 |E2=>exact .E2
 |A6 h g b d=>exact .A6 h g b d
 |x_ d=>exact .x_ d
 |DN b d=>exact .DN b d
 |B3 d=>exact .B3 d
 |map h=>exact .map h
def pX{f g:TR->Bool}{la:q_}{mu:ke}
  (n:∀a c,f a=true->VR la mu a c->VR DP mu a c)
  (m:∀cs,g (.agg cs)=cs.toList.all f) (o:∀q a b,g (.func q a b)=(a.toList.all f&&b.toList.all f))
  (p:∀vs,g (.tuple vs)=true->vs.toList.all f=true∨jV (.tuple vs)=true)
  (r:∀v,(∀cs,v≠.agg cs)->(∀q a b,v≠.func q a b)->(∀vs,v≠.tuple vs)->g v=f v)
  {a c:TR} (e:g a=true) (h:VR la mu a c):VR DP mu a c:=by
 cases h with
 |w6 c=>exact .w6 c
 |O6 h=>exact .O6 h
 |scalar h=>exact .scalar h
 |agg k h=>
  rw[m]at e;exact .agg k λi x y d l=>n _ _ (cS (i:=i) e (by simpa using d)) (h i x y d l)
 |tuple s k h=>
  have:=(p _ e).resolve_right λB=>s (gR B);exact .tuple s k λi x y d l=>n _ _ (cS (i:=i) this (by simpa using d)) (h i x y d l)
 |func t z A u w=>
  rw[o,te]at e;exact .func t z A (λi x y d l=>n _ _ (cS (i:=i) e.1 (by simpa using d)) (u i x y d l))
   (λi x y d l=>n _ _ (cS (i:=i) e.2 (by simpa using d)) (w i x y d l))
 |yield h=>exact .yield h
 |FD h=>
  rw[r _ c_ c_ c_]at e;exact n _ _ e (.FD h)
 |ET h=>exact .ET h
 |E2=>exact .E2
 |A6 h C j d=>exact .A6 h C j d
 |x_ d=>exact .x_ d
 |DN j d=>exact .DN j d
 |B3 d=>exact .B3 d
 |map h=>exact .map h
def yI{la:q_}{mu:ke}{a c:TR}(k:bE a=true)(h:VR la mu a c):VR DP mu a c:=
 pX (f:=bj) (g:=bE) (λ_ _=>gh) (λ_=>rfl) (λ_ _ _=>rfl)
  (λd h=>by
   have b:(d.size==0||jV (.tuple d))=true:=h;simp only[GN,beq_iff_eq]at b;rcases b with b|b
   .left;simp at b;simp[b]
   .exact .inr b) (λv e i j=>by cases v<;>first|rfl|exact absurd rfl (e _)|exact absurd rfl (i _ _ _)|exact absurd rfl (j _)) k h
def gi{la:q_}{mu:ke}{a c:TR}(i:aT a=true)(h:VR la mu a c):VR DP mu a c:=
 pX (f:=bE) (g:=aT) (λ_ _=>yI) (λ_=>rfl) (λ_ _ _=>rfl)
  (λ_ h=>.inl h) (λv b d e=>by cases v<;>first|rfl|exact absurd rfl (b _)|exact absurd rfl (d _ _ _)|exact absurd rfl (e _)) i h
def fP{la:q_}{mu:ke}{a c:TR}(i:nc a=true)(h:VR la mu a c):VR DP mu a c:=
 pX (f:=aT) (g:=nc) (λ_ _=>gi) (λ_=>rfl) (λ_ _ _=>rfl)
  (λ_ h=>.inl h) (λv b d e=>by cases v<;>first|rfl|exact absurd rfl (b _)|exact absurd rfl (d _ _ _)|exact absurd rfl (e _)) i h
def xS{la:q_}{mu:ke}{a c:TR}(b:bg a=true)(h:VR la mu a c):VR DP mu a c:=
 fP (by simp only[bg,te]at b;exact b.1) h
def mY{la:q_}{mu:ke}{a c:TR}(b:aP a=true)(h:VR la mu a c):aP c=true:=by
 cases h with
 |w6 c=>simp[aP,jV]at b
 |O6 _=>rfl
 |tuple d _ _=>exact absurd (gR b) d
 |scalar h=>exact b
 |_=>first|rfl|(simp[aP]at b)
def yJ{la:q_}{mu:ke}{a:TR}{vs:Tl}(b:aP a=true)(h:VR la mu a (.tuple vs)):False:=by
 cases h with
 |w6 c=>simp[aP,jV]at b
 |tuple d _ _=>exact absurd (gR b) d
 |scalar h=>simp[Am.scalar]at h
def vc(la:q_)(mu:ke)(vs cs:Tn):Prop:=vs.length=cs.length/\∀(i:Nat) (x y:Value),vs[i]?=some x->cs[i]?=some y->VR la mu x y
def vc.nil{la:q_}{mu:ke}:vc la mu [] []:=⟨rfl,λi x y h=>by simp at h⟩
def vc.cons{la:q_}{mu:ke}{v c:TR}{vs cs:Tn}(h:VR la mu v c)(d:vc la mu vs cs):vc la mu (v :: vs) (c :: cs):=by
 refine⟨by simp[d.1],λi x y a b=>?_⟩;cases i with
 |zero=>simp at a b;subst a b;exact h
 |succ i=>exact d.2 i x y (by simpa using a) (by simpa using b)
def vc.head{la:q_}{mu:ke}{v c:TR}{vs cs:Tn}(h:vc la mu (v :: vs) (c :: cs)):VR la mu v c:=h.2 0 v c rfl rfl
def vc.tail{la:q_}{mu:ke}{v c:TR}{vs cs:Tn}(h:vc la mu (v :: vs) (c :: cs)):vc la mu vs cs:=
 ⟨by have:=h.1;simpa using this,λi x y a b=>h.2 (i+1) x y (by simpa using a) (by simpa using b)⟩
def vc.IK{la:q_}{mu:ke}{v:TR}{vs cs:Tn}(h:vc la mu (v :: vs) cs):∃c a,cs=c :: a/\VR la mu v c/\vc la mu vs a:=by
 cases cs with
 |nil=>have:=h.1;simp at this
 |cons c cs=>exact⟨c,cs,rfl,h.head,h.tail⟩
def vc.unnil{la:q_}{mu:ke}{cs:Tn}(h:vc la mu [] cs):cs=[]:=by
 have:=h.1;cases cs<;>simp_all
def vc.append{la:q_}{mu:ke}{vs cs c a:Tn}(h:vc la mu vs cs)(h':vc la mu c a):vc la mu (vs++c) (cs++a):=by
 refine⟨by simp[h.1,h'.1],λi x y d b=>?_⟩;have e:=h.1;by_cases f:i<vs.length
 .rw[H3 f]at d;rw[H3 a_]at b;exact h.2 i x y d b
 .rw[Iz a_]at d;rw[Iz a_]at b;rw[←e]at b;exact h'.2 _ x y d b
def vc.mono{la a:q_}{mu c:ke}{vs cs:Tn}(h:vc la mu vs cs)(d:∀s b,la s=some b->a s=some b)(e:∀i p,mu i=some p->c i=some p) :
  vc a c vs cs:=⟨h.1,λi x y f g=>(h.2 i x y f g).mono d e⟩
def vc.down{la:q_}{mu:ke}{vs cs:Tn}(b:vs.all nc=true)(h:vc la mu vs cs):vc DP mu vs cs:=
 ⟨h.1,λi x y a c=>fP (cS b a) (h.2 i x y a c)⟩
def vc.Ja{la:q_}{mu:ke}{vs cs:Tn}(b:vs.all bg=true)(h:vc la mu vs cs):vc DP mu vs cs:=
 ⟨h.1,λi x y a c=>xS (cS b a) (h.2 i x y a c)⟩
def vc.map{la:q_}{mu:ke}{j7:Type}{f g:j7->TR}(l:List j7)(h:∀x,x∈l->VR la mu (f x) (g x)):vc la mu (l.map f) (l.map g):=by
 induction l with
 |nil=>exact .nil
 |cons a l c=>exact .cons (h a c_) (c λx b=>h x (by simp[b]))
def vc.take{la:q_}{mu:ke}{vs cs:Tn}(h:vc la mu vs cs)(n:Nat):vc la mu (vs.take n) (cs.take n):=by
 refine⟨by simp[h.1],λi x y a b=>?_⟩;rw[o0]at a b;split at a
 next c=>rw[qs c]at b;exact h.2 i x y a b
 .cases a
def vc.drop{la:q_}{mu:ke}{vs cs:Tn}(h:vc la mu vs cs)(n:Nat):vc la mu (vs.drop n) (cs.drop n):=by
 refine⟨by simp[h.1],λi x y a b=>?_⟩;rw[d6]at a b;exact h.2 _ x y a b
def vc.set{la:q_}{mu:ke}{vs cs:Tn}(h:vc la mu vs cs)(n:Nat){v c:TR}(f:VR la mu v c):vc la mu (vs.set n v) (cs.set n c):=by
 refine⟨by simp[h.1],λi x y a b=>?_⟩;rw[HZ]at a b;by_cases d:n=i
 .subst d;simp only[if_true]at a b;split at a
  next e=>
   rw[qs (by rw[←h.1];exact e)]at b;simp at a b;subst a b;exact f
  .cases a
 .rw[rv d]at a b;exact h.2 i x y a b
def vc.replicate{la:q_}{mu:ke}(n:Nat){v c:TR}(a:VR la mu v c):vc la mu (replicate n v) (replicate n c):=by
 induction n with
 |zero=>exact .nil
 |succ n b=>exact .cons a b
def vc.get{la:q_}{mu:ke}{vs cs:Tn}(h:vc la mu vs cs){i:Nat}{x:TR}(a:vs[i]?=some x):∃y,cs[i]?=some y/\VR la mu x y:=by
 have c:i<vs.length:=by
  rcases HG i vs.length with h|h
  .exact h
  .rw[Hy h]at a;cases a
 have b:i<cs.length:=by have:=h.1;omega
 exact⟨cs[i],by simp[b],h.2 i x _ a (by simp[b])⟩
def vc.agg{la:q_}{mu:ke}{a c:Tl}(h:vc la mu a.toList c.toList):VR la mu (.agg a) (.agg c):=
 .agg (by simpa using h.1) λi x y b d=>h.2 i x y (by simpa using b) (by simpa using d)
def VR.Nt{la:q_}{mu:ke}{a:Tl}{c:TR}(h:VR la mu (.agg a) c):∃d,c = .agg d/\vc la mu a.toList d.toList:=by
 cases h with
 |scalar h=>simp[Am.scalar]at h
 |agg b h=>exact⟨_,rfl,by simpa using b,λi x y e f=>h i x y (by simpa using e) (by simpa using f)⟩
def vc.tuple{la:q_}{mu:ke}{a c:Tl}(h:vc la mu a.toList c.toList)(b:a.size≠1:=by simp):VR la mu (.tuple a) (.tuple c):=
 .tuple b (by simpa using h.1) λi x y d e=>h.2 i x y (by simpa using d) (by simpa using e)
def VR.Nv{la:q_}{mu:ke}{a:Tl}{c:TR}(b:a.size≠1)(h:VR la mu (.tuple a) c):∃d,c = .tuple d/\vc la mu a.toList d.toList:=by
 cases h with
 |w6 c=>simp at b
 |O6 _=>simp at b
 |scalar h=>simp[Am.scalar]at h
 |tuple _ e h=>exact⟨_,rfl,by simpa using e,λi x y f g=>h i x y (by simpa using f) (by simpa using g)⟩
def VR.cells{la:q_}{mu:ke}{a c:TR}(f:aD a=false)(h:VR la mu a c):vc la mu a.cells.toList c.cells.toList:=by
 cases a with
 |agg i=>
  obtain⟨d,rfl,b⟩:=h.Nt;exact b
 |tuple g=>
  have e:aP (.tuple g)=true:=by simpa[aD,aP]using f
  rw[fk (mY e h)];exact .cons h .nil
 |_=>
  rw[fk (mY rfl h)];exact .cons h .nil
end
section
variable [DB] [Fc]
def gF(mu:ke)(e e':MapEntry):Prop:=e'.key=e.key/\gL e.key=true/\e'.born=e.born/\VR DP mu e.val e'.val
def F6(mu:ke)(p:Pl)(x:Option Obj):s_->Prop
 | .cells vs ra rw=>p.ra=ra/\vs.length<=p.room/\vs.all bg=true/\∃c e fr,x=some (.cells c e fr)/\c.size=p.o+p.room/\(rw=true->fr=(0,0))/\
   ∀(i:Nat) v,vs[i]?=some v->∃v',c[p.o+i]?=some v'/\VR DP mu v v'
 | .map d a=>∃b,x=some (.map b a)/\b.size=d.length/\∀(i:Nat) e,d[i]?=some e->∃e',b[i]?=some e'/\gF mu e e'
 | .loop r=>∃L:Loop,x=some (.loop L)/\L.state=r.state/\L.pending=r.pending/\L.params.toList=r.params/\L.assign=r.assign/\L.body=r.body/\vc DP mu r.tmps L.tmps.toList
 | .M9 s pos=>x=some (.stringIter s pos)
 | .dead=>True
def gF.mono{mu a:ke}(b:∀i p,mu i=some p->a i=some p){e e':MapEntry}(h:gF mu e e'):gF a e e':=
 ⟨h.1,h.2.1,h.2.2.1,h.2.2.2.mono (λ_ _ h=>h) b⟩
def F6.mono{mu j:ke}(u:∀i p,mu i=some p->j i=some p){p:Pl}{x:Option Obj}{o:s_}(h:F6 mu p x o):F6 j p x o:=by
 cases o with
 |cells C w rw=>
  obtain⟨d,f,g,c,e,y,m,n,q,t⟩:=h;exact⟨d,f,g,c,e,y,m,n,q,λi v A=>let ⟨v',a,b⟩:=t i v A;⟨v',a,b.mono (λ_ _ h=>h) u⟩⟩
 |map B k=>
  obtain⟨l,d,f,g⟩:=h;exact⟨l,d,f,λi e z=>let ⟨e',a,b⟩:=g i e z;⟨e',a,b.mono u⟩⟩
 |loop r=>
  obtain⟨L,d,f,g,m,n,q,t⟩:=h;exact⟨L,d,f,g,m,n,q,t.mono (λ_ _ h=>h) u⟩
 |M9 s pos=>exact h
 |dead=>trivial
def cF(mu:ke)(vs:Tn)(c:Tl)(o:Nat):Prop:=∀(i:Nat) v,vs[i]?=some v->∃v',c[o+i]?=some v'/\VR DP mu v v'
def cF.mono{mu d:ke}{vs:Tn}{c:Tl}{o:Nat}(h:cF mu vs c o)(e:∀i p,mu i=some p->d i=some p):cF d vs c o:=
 λi v f=>let ⟨v',a,b⟩:=h i v f;⟨v',a,b.mono (λ_ _ h=>h) e⟩
structure WR(C:m8)(base:Nat)(mu:ke)(H:Tu)(w:TS):Prop where
 obj:∀id o,H[id]?=some o->o.alive=true->∃p,mu id=some p/\F6 mu p w.heap[p.b]? o
 inj:∀(i j:Nat) oi oj pi pj,H[i]?=some oi->H[j]?=some oj->oi.owned=true->oj.alive=true->i≠j->mu i=some pi->mu j=some pj->pi.b≠pj.b
 own:∀(i:Nat) o p,H[i]?=some o->o.owned=true->mu i=some p->base<=p.b
 ro:∀(i:Nat) o p,H[i]?=some o->o.alive=true->o.owned=false->mu i=some p->p.b<base
 JP:∀id,H.length<=id->mu id=none
 Fe:∀g vs,C.G g=some vs->Fz g<base/\vs.all bg=true/\∃c e fr,w.heap[Fz g]?=some (.cells c e fr)/\cF mu vs c (GR g)
def JL(mu:ke)(H:Tu)(b:Nat):Prop:=∃(id:Nat) (o:s_) (p:Pl),H[id]?=some o/\o.owned=true/\mu id=some p/\p.b=b
def bQ{o:s_}(h:o.owned=true):o.alive=true:=by cases o<;>first|rfl|(simp[s_.owned]at h)
structure Fv(H:Tu)(mu:ke)(w:TS)(H':Tu)(mu':ke)(w':TS):Prop where
 len:H.length<=H'.length
 same:∀id,id<H.length->mu' id=mu id
 size:w.heap.size<=w'.heap.size
 ka:∀b,b<w.heap.size->¬JL mu H b->w'.heap[b]?=w.heap[b]?
 Fk:∀b,JL mu' H' b->w.heap.size<=b∨JL mu H b
 os:w'.os=w.os
 tape:w'.tape=w.tape
 output:w'.output=w.output
 dr:w.drawn<=w'.drawn
theorem Fv.refl(H:Tu)(mu:ke)(w:TS):Fv H mu w H mu w:=
 ⟨B8 _,λ_ _=>rfl,B8 _,λ_ _ _=>rfl,λ_ h=>.inr h,rfl,rfl,rfl,B8 _⟩
def Fv.trans{f g i:Tu}{d j l:ke}{p q e:TS}(h:Fv f d p g j q)(k:Fv g j q i l e):Fv f d p i l e where
 len:=Pm h.len k.len
 same:=λid n=>(k.same id (qdc n h.len)).trans (h.same id n)
 size:=Pm h.size k.size
 ka:=λb a o=>(k.ka b (qdc a h.size) λc=>(h.Fk b c).elim (λm=>a_) o).trans (h.ka b a o)
 Fk:=λb a=>(k.Fk b a).elim (λm=>.inl (Pm h.size m)) (h.Fk b)
 os:=k.os.trans h.os
 tape:=k.tape.trans h.tape
 output:=k.output.trans h.output
 dr:=Pm h.dr k.dr
def Fv.drew{H H':Tu}{m a:ke}{w w':TS}(h:Fv H m w H' a w')(n:Nat)(b:w'.drawn<=n):Fv H m w H' a { w' with drawn:=n }:=
 ⟨h.len,h.same,h.size,h.ka,h.Fk,h.os,h.tape,h.output,Pm h.dr b⟩
def WR.drew{C:m8}{a:Nat}{mu:ke}{H:Tu}{w:TS}(h:WR C a mu H w)(n:Nat):WR C a mu H { w with drawn:=n }:=
 ⟨h.obj,h.inj,h.own,h.ro,h.JP,h.Fe⟩
def Fv.mono{C:m8}{a:Nat}{H H':Tu}{m d:ke}{w w':TS}(h:Fv H m w H' d w')(e:WR C a m H w):∀i p,m i=some p->d i=some p:=by
 intro i p c;rw[h.same i ?_];exact c;rcases HG i H.length with b|b
 .exact b
 .rw[e.JP i b]at c;cases c
def I1(mu:ke)(i:Nat)(p:Pl):ke:=λj=>if j=i then some p else mu j
def bN(mu:ke)(i:Nat)(p:Pl):I1 mu i p i=some p:=by simp[I1]
def fj(mu:ke){i j:Nat}(p:Pl)(h:j≠i):I1 mu i p j=mu j:=by simp[I1,h]
def mq{C:m8}{a:Nat}{H:Tu}{m:ke}{w:TS}(d:WR C a m H w)(p:Pl):∀i q,m i=some q->I1 m H.length p i=some q:=by
 intro i q b;by_cases c:i=H.length
 .subst c;rw[d.JP _ (B8 _)]at b;cases b
 .rw[fj _ _ c];exact b
def aG{j7:Type}{l:List j7}{x y:j7}{i:Nat}(h:(l++[x])[i]?=some y):(i<l.length/\l[i]?=some y)∨(i=l.length/\y=x):=by
 rcases HG i l.length with b|b
 .rw[H3 b]at h;exact .inl ⟨b,h⟩
 .rw[Iz b]at h;have a:i - l.length=0:=by
   rcases Nat.eq_zero_or_pos (i - l.length)with a|a
   .exact a
   .rw[Hy tt]at h;cases h
  rw[a]at h;exact .inr ⟨a_,by simpa using h.symm⟩
def kV{mu:ke}{p:Pl}{w:TS}{o:s_}(i:o.alive=true)(h:F6 mu p w.heap[p.b]? o):p.b<w.heap.size:=by
 rcases HG p.b w.heap.size with d|d
 .exact d
 .rw[qcJ d]at h;cases o with
  |cells l g rw=>obtain⟨_,_,_,c,e,k,h,_⟩:=h;cases h
  |map j a=>obtain⟨f,h,_⟩:=h;cases h
  |loop r=>obtain⟨L,h,_⟩:=h;cases h
  |M9 s pos=>cases h
  |dead=>cases i
def WR.lt{C:m8}{a:Nat}{mu:ke}{H:Tu}{w:TS}(h:WR C a mu H w){id:Nat}{o:s_}{p:Pl}(e:H[id]?=some o)(c:o.alive=true)(f:mu id=some p):p.b<w.heap.size:=by
 obtain⟨q,d,g⟩:=h.obj id o e c;obtain rfl:p=q:=by rw[f]at d;exact EI d
 exact kV c g
def ea(mu a:ke)(H':Tu)(w':TS):Prop:=∀id o,H'[id]?=some o->o.alive=true->∃p,a id=some p/\F6 mu p w'.heap[p.b]? o
def WR.new{C:m8}{m:Nat}{mu:ke}{H:Tu}{w w':TS}(h:WR C m mu H w)(G:m<=w.heap.size){x:Obj}(K:w'.heap=w.heap.push x)
  (T:w'.os=w.os) (W:w'.tape=w.tape) (X:w'.output=w.output) (o:s_) (p:Pl) (U:p.b=w.heap.size) (E:F6 mu p (some x) o) (J:o.alive=true->o.owned=true) (R:w.drawn<=w'.drawn:=by exact B8 _) :
  WR C m (I1 mu H.length p) (H++[o]) w'/\Fv H mu w (H++[o]) (I1 mu H.length p) w'/\ea mu (I1 mu H.length p) (H++[o]) w':=by
 have V:F6 (I1 mu H.length p) p (some x) o:=E.mono (mq h p);have f:∀b,b<w.heap.size->w'.heap[b]?=w.heap[b]?:=λb G=>by rw[K,qcz,rv a_]
 have v:w'.heap[p.b]?=some x:=by rw[K,qcz,qs U]
 have F:=mq h p;refine⟨⟨?_,?_,?_,?_,?_,?_⟩,⟨c_,?_,by simp[K],λb G _=>f b G,?_,T,W,X,R⟩,λid t i' u=>?_⟩
 rotate_right
 .rcases aG i' with⟨s,i'⟩|⟨rfl,rfl⟩
  .obtain⟨q,a,r⟩:=h.obj id t i' u;exact⟨q,F _ _ a,by rw[f _ (kV u r)];exact r⟩
  .exact⟨p,bN _ _ _,by rw[v];exact E⟩
 .intro id t i' u;rcases aG i' with⟨s,i'⟩|⟨rfl,rfl⟩
  .obtain⟨q,a,r⟩:=h.obj id t i' u;refine⟨q,F _ _ a,?_⟩;rw[f _ (kV u r)];exact r.mono F
  .exact⟨p,bN _ _ _,by rw[v];exact V⟩
 .intro i j Y Z pi pj s L B D A n l;rcases aG s with⟨y,k⟩|⟨rfl,rfl⟩
  .rw[fj _ _ a_]at n;rcases aG L with⟨I,z⟩|⟨rfl,rfl⟩
   .rw[fj _ _ a_]at l;exact h.inj i j Y Z pi pj k z B D A n l
   .rw[bN]at l;obtain rfl:=EI l;have:=h.lt k (bQ B) n;omega
  .rw[bN]at n;obtain rfl:=EI n;rcases aG L with⟨I,z⟩|⟨rfl,rfl⟩
   .rw[fj _ _ a_]at l;have:=h.lt z D l;omega
   .exact absurd rfl A
 .intro i t q s d a;rcases aG s with⟨y,k⟩|⟨rfl,rfl⟩
  .rw[fj _ _ a_]at a;exact h.own i t q k d a
  .rw[bN]at a;obtain rfl:=EI a;omega
 .intro i t q s u d a;rcases aG s with⟨y,k⟩|⟨rfl,rfl⟩
  .rw[fj _ _ a_]at a;exact h.ro i t q k u d a
  .rw[J u]at d;cases d
 .intro id i';simp at i';rw[fj _ _ a_];exact h.JP id a_
 .intro g vs S;obtain⟨N,O,c,e,M,P,Q⟩:=h.Fe g vs S;exact⟨N,O,c,e,M,by rw[f _ a_];exact P,Q.mono F⟩
 .intro id i';rw[fj _ _ a_]
 .rintro b ⟨id,t,q,i',d,a,rfl⟩;rcases aG i' with⟨y,s⟩|⟨rfl,rfl⟩
  .rw[fj _ _ a_]at a;exact .inr ⟨id,t,q,s,d,a,rfl⟩
  .rw[bN]at a;obtain rfl:=EI a;exact .inl a_
def DH{j7:Type}{l:List j7}{x y:j7}{i j:Nat}(h:(l.set i x)[j]?=some y):(j≠i/\l[j]?=some y)∨(j=i/\i<l.length/\y=x):=by
 rw[HZ]at h;by_cases a:i=j
 .subst a;simp only[if_true]at h;split at h
  next b=>exact .inr ⟨rfl,b,by simpa using h.symm⟩
  .cases h
 .rw[rv a]at h;exact .inl ⟨λe=>a e.symm,h⟩
def WR.set{C:m8}{s:Nat}{mu:ke}{H:Tu}{w w':TS}(h:WR C s mu H w){id:Nat}{o:s_}{p:Pl}(i':H[id]?=some o)(D:o.owned=true)
  (G:mu id=some p) {x:Obj} (V:w'.heap=w.heap.setIfInBounds p.b x) (R:w'.os=w.os) (ht:w'.tape=w.tape) (hu:w'.output=w.output)
  (E:s_) (Q:E.alive=true->E.owned=true) (hr:F6 mu p (some x) E) (hd:w.drawn<=w'.drawn:=by exact B8 _) :
  WR C s mu (H.set id E) w'/\Fv H mu w (H.set id E) mu w':=by
 have O:=h.lt i' (bQ D) G;have L:=h.own id o p i' D G;have A:w'.heap[p.b]?=some x:=by rw[V];simp[O]
 have n:∀b,b≠p.b->w'.heap[b]?=w.heap[b]?:=λb K=>by rw[V,qbI (Ej K)]
 have a:∀(j:Nat) l,(H.set id E)[j]?=some l->l.alive=true->∃f,H[j]?=some f/\f.alive=true/\(l.owned=true->f.owned=true):=by
  intro j l k u;rcases DH k with⟨_,k⟩|⟨rfl,_,rfl⟩
  .exact⟨l,k,u,λh=>h⟩
  .exact⟨o,i',bQ D,λ_=>D⟩
 refine⟨⟨?_,?_,?_,?_,?_,?_⟩,⟨c_,λ_ _=>rfl,by simp[V],?_,?_,R,ht,hu,hd⟩⟩
 .intro j l k u;rcases DH k with⟨P,k⟩|⟨rfl,_,rfl⟩
  .obtain⟨q,t,U⟩:=h.obj j l k u;refine⟨q,t,?_⟩;rw[n q.b λe=>h.inj id j o l p q i' k D u (Ej P) G t e.symm];exact U
  .exact⟨p,G,by rw[A];exact hr⟩
 .intro i j I l pi pj v k d r N S T;obtain⟨B,y,_,m⟩:=a i I v (bQ d);obtain⟨f,z,J,_⟩:=a j l k r;exact h.inj i j B f pi pj y z (m d) J N S T
 .intro i I q v d t;obtain⟨B,y,_,m⟩:=a i I v (bQ d);exact h.own i B q y (m d) t
 .intro i I q v u d t;rcases DH v with⟨_,M⟩|⟨rfl,_,rfl⟩
  .exact h.ro i I q M u d t
  .rw[Q u]at d;cases d
 .intro i v;exact h.JP i (by simpa using v)
 .intro g vs hg;obtain⟨X,Y,c,e,W,Z,h4⟩:=h.Fe g vs hg;exact⟨X,Y,c,e,W,by rw[n _ a_];exact Z,h4⟩
 .intro b _ K;exact n b λe=>K ⟨id,o,p,i',D,G,e.symm⟩
 .rintro b ⟨j,l,q,k,r,t,rfl⟩;obtain⟨f,z,_,F⟩:=a j l k (bQ r);exact .inr ⟨j,f,q,z,F r,t,rfl⟩
def WR.move{C:m8}{D:Nat}{mu:ke}{H:Tu}{w w':TS}(h:WR C D mu H w){id:Nat}{o:s_}{p:Pl}(i':H[id]?=some o)(M:o.owned=true)
  (O:mu id=some p) {x:Obj} (hw:w'.heap=w.heap.setIfInBounds p.b x) (N:w'.os=w.os) (Z:w'.tape=w.tape) (hu:w'.output=w.output)
  (F:s_) (q:Pl) (P:q.b=p.b) (Q:F6 mu q (some x) F) (W:F.alive=true->F.owned=true) (X:w.drawn<=w'.drawn:=by exact B8 _) :
  WR C D (I1 mu H.length q) (H.set id .dead++[F]) w'/\Fv H mu w (H.set id .dead++[F]) (I1 mu H.length q) w'/\ea mu (I1 mu H.length q) (H.set id .dead++[F]) w':=by
 have hr:F6 (I1 mu H.length q) q (some x) F:=Q.mono (mq h q);obtain⟨G,S⟩:=h.set i' M O (x:=x) hw N Z hu .dead (λh=>by cases h) trivial X;have U:=h.lt i' (bQ M) O;have T:=h.own id o p i' M O;have d:(H.set id s_.dead).length=H.length:=c_;have y:w'.heap[p.b]?=some x:=by rw[hw];simp[U]
 have R:∀i r,mu i=some r->I1 mu H.length q i=some r:=mq h q;have Y:id<H.length:=by
  rcases HG id H.length with J|J
  .exact J
  .rw[Hy J]at i';cases i'
 have t:∀(j:Nat) n r,(H.set id s_.dead)[j]?=some n->n.alive=true->mu j=some r->r.b≠p.b:=by
  intro j n r s z a e;rcases DH s with⟨V,s⟩|⟨rfl,_,rfl⟩
  .exact h.inj id j o n p r i' s M z (Ej V) O a e.symm
  .cases z
 refine⟨⟨?_,?_,?_,?_,?_,?_⟩,⟨c_,?_,S.size,S.ka,?_,N,Z,hu,X⟩,λj n s z=>?_⟩
 rotate_right
 .rcases aG s with⟨A,f⟩|⟨rfl,rfl⟩
  .obtain⟨r,a,v⟩:=G.obj j n f z;exact⟨r,R _ _ a,v⟩
  .rw[d];exact⟨q,bN _ _ _,by rw[P,y];exact Q⟩
 .intro j n s z;rcases aG s with⟨A,f⟩|⟨rfl,rfl⟩
  .obtain⟨r,a,v⟩:=G.obj j n f z;exact⟨r,R _ _ a,v.mono R⟩
  .rw[d];exact⟨q,bN _ _ _,by rw[P,y];exact hr⟩
 .intro i j I n pi pj E s k B L u m;rcases aG E with⟨K,l⟩|⟨rfl,rfl⟩
  .rw[fj _ _ a_]at u;rcases aG s with⟨A,f⟩|⟨rfl,rfl⟩
   .rw[fj _ _ a_]at m;exact G.inj i j I n pi pj l f k B L u m
   .rw[d,bN]at m;obtain rfl:=EI m;rw[P];exact t i I pi l (bQ k) u
  .rw[d,bN]at u;obtain rfl:=EI u;rcases aG s with⟨A,f⟩|⟨rfl,rfl⟩
   .rw[fj _ _ a_]at m;rw[P];exact Ej (t j n pj f B m)
   .exact absurd rfl L
 .intro i I r E k a;rcases aG E with⟨K,l⟩|⟨rfl,rfl⟩
  .rw[fj _ _ a_]at a;exact G.own i I r l k a
  .rw[d,bN]at a;obtain rfl:=EI a;omega
 .intro i I r E z k a;rcases aG E with⟨K,l⟩|⟨rfl,rfl⟩
  .rw[fj _ _ a_]at a;exact G.ro i I r l z k a
  .rw[W z]at k;cases k
 .intro i E;simp at E;rw[fj _ _ a_];exact h.JP i a_
 .intro g vs hg;obtain⟨J,h2,c,e,fr,h3,h4⟩:=G.Fe g vs hg;exact⟨J,h2,c,e,fr,h3,h4.mono R⟩
 .intro i E;rw[fj _ _ a_]
 .rintro b ⟨j,n,r,s,B,a,rfl⟩;rcases aG s with⟨A,f⟩|⟨rfl,rfl⟩
  .rw[fj _ _ a_]at a;exact S.Fk _ ⟨j,n,r,f,B,a,rfl⟩
  .rw[d,bN]at a;obtain rfl:=EI a;exact .inr ⟨id,o,p,i',M,O,P.symm⟩
structure SR(C:m8)(base:Nat)(la:q_)(mu:ke)(g9:St)(tmps:Tl)(w:TS):Prop where
 E9:vc la mu g9.tmps tmps.toList
 Hn:∀s b,la s=some b->∃vs,g9.loc[s]?=some (some vs)
 loc:∀(s:Nat) vs,g9.loc[s]?=some (some vs)->∃b c e,la s=some b/\base<=b/\w.heap[b]?=some (.cells c e (0,0))/\vs.all bg=true/\vc DP mu vs c.toList/\¬JL mu g9.heap b
 HS:∀s s' b,la s=some b->la s'=some b->s=s'
 wr:WR C base mu g9.heap w
def SR.E'{C:m8}{a:Nat}{la:q_}{mu f:ke}{g9:St}{d:Tl}{w w':TS}{H':Tu}(h:SR C a la mu g9 d w)
  (t:WR C a f H' w') (i:Fv g9.heap mu w H' f w'):SR C a la f { g9 with heap:=H' } d w':=by
 have k:=i.mono h.wr;refine⟨h.E9.mono (λ_ _ h=>h) k,h.Hn,?_,h.HS,t⟩;intro s u r;obtain⟨b,c,e,l,m,g,n,o,j⟩:=h.loc s u r;have p:b<w.heap.size:=by
  rcases HG b w.heap.size with h|h
  .exact h
  .rw[qcJ h]at g;cases g
 exact⟨b,c,e,l,m,by have:=i.ka b p j;rw[this];exact g,n,o.mono (λ_ _ h=>h) k,λq=>(i.Fk b q).elim (λv=>a_) j⟩
def SR.put{C:m8}{b:Nat}{la:q_}{mu:ke}{g9:St}{a:Tl}{w:TS}(h:SR C b la mu g9 a w)(dst:Tq){v v':TR}(c:VR la mu v v') :
  SR C b la mu (g9.put dst v) (match dst with|some d=>a.setIfInBounds d v'|none=>a) w:=by
 cases dst with
 |none=>exact h
 |some d=>
  refine⟨?_,h.Hn,h.loc,h.HS,h.wr⟩;have:=h.E9.set d c;simpa[St.put]using this
end
section
variable [DB] [Fc]
def gq{P:TI}{t:TP}{d:TypeDesc}(h:P.underlying t=some d):∃i,P.info? t=some i:=by
 unfold Program.underlying at h;cases a:P.info? t with
 |none=>rw[a]at h;cases h
 |some i=>exact⟨i,rfl⟩
def dO{P:TI}{t:TP}(h:P.cellsOf t≠0):∃i,P.info? t=some i:=by
 unfold Program.cellsOf at h;cases a:P.info? t with
 |none=>rw[a]at h;simp at h
 |some i=>exact⟨i,rfl⟩
def bu{P:TI}{t:TP}{i:TypeInfo}(h:P.info? t=some i)(w:TS):(sizeOf t).run P w = .ok (P.cellsOf t) w:=by
 simp[sizeOf,typeInfo,h,Program.cellsOf]
def sc:TypeDesc->Bool
 | .struct _=>true
 | .array _ _=>true
 |_=>false
def xn{P:TI}{t:TP}{d:TypeDesc}(h:P.underlying t=some d)(w:TS):(isAgg t).run P w = .ok (sc d) w:=by
 cases d<;>simp[isAgg,run_underlying h,sc]
def bX{b o n:Nat}:(⟨b,o,none⟩ : Addr).add n=⟨b,o+n,none⟩:=by
 unfold Addr.add;split<;>simp_all
def aJ{C:m8}{c:Nat}{la:q_}{mu:ke}{g9:St}{a:Act}{w:TS}(h:SR C c la mu g9 a.tmps w)(x:TL):VR la mu (jn g9.tmps x) (a.eval x):=by
 cases x with
 |tmp t=>
  simp only[jn,Act.eval];have e:g9.tmps.length=a.tmps.size:=by simpa using h.E9.1
  rcases HG t g9.tmps.length with b|b
  .have d:t<a.tmps.size:=by rw[←e];exact b
   have:=h.E9.2 t g9.tmps[t] a.tmps[t] (by simp[b]) (by simp[d]);simpa[List.getD,Array.getD,b,d]using this
  .have d:a.tmps.size<=t:=by rw[←e];exact b
   simp only[List.getD,Hy b,qds];rw[show a.tmps.getD t undef=undef by simp[Array.getD,Nat.not_lt.2 d]];exact .undef
 |const v=>
  simp only[jn,Act.eval];split
  next h=>exact .of_flat h
  .exact .w6 _
 |global g=>
  simp only[jn,Act.eval];split
  next h=>
   have:VR la mu (.pointer (some ⟨g,0,some 1⟩)) (.pointer (some ⟨Fz g,GR g+0,none⟩)):=.E2
   rwa [LQ h,LS h]at this
  .exact .w6 _
 |func f=>exact .func c_ rfl rfl (λi x y h=>by simp at h) (λi x y h=>by simp at h)
def tT{C:m8}{b:Nat}{la:q_}{mu:ke}{g9:St}{a:Act}{w:TS}(h:SR C b la mu g9 a.tmps w)(xs:Array Operand) :
  vc la mu (xs.toList.map (jn g9.tmps)) (xs.map a.eval).toList:=by
 rw[qdq];exact vc.map _ λx _=>aJ h x
def Ob{C:m8}{b:Nat}{la:q_}{mu:ke}{g9:St}{a:Act}{w:TS}(h:SR C b la mu g9 a.tmps w){x:TL}(c:flat (jn g9.tmps x)=true) :
  a.eval x=jn g9.tmps x:=ue c (aJ h x)
def xM(P:TI)(la:q_)(mu:ke)(s:Sem Next)(w:TS)(v:Value):Prop:=∃v',s.run P w = .ok (.value v') w/\VR la mu v v'
def iE{P:TI}{la:q_}{mu:ke}{s:Sem Value}{w:TS}{v v':TR}(h:s.run P w = .ok v' w)(a:VR la mu v v') :
  xM P la mu (do pure (.value (←s))) w v:=⟨v',by simp[h],a⟩
def Cw{C:m8}{f:Nat}{la:q_}{mu:ke}{g9:St}{a:Act}{w:TS}(h:SR C f la mu g9 a.tmps w){o:Oper}{e:EZ}
  (m:∀cs b,o.op≠.select cs b) (c:cN C (jn g9.tmps) o=some e):∃v,e = .val v/\xM C.P la mu (execOp a.eval o) w v:=by
 unfold cN at c;split at c
 next l=>
  have k:execOp a.eval o=execOp (jn g9.tmps) o:=execOp_congr o m λx i=>Ob h (all_get' l i);split at c
  next v n=>
   split at c
   next g=>
    cases c;exact⟨v,rfl,v,by rw[k];exact iq n w,.of_flat g⟩
   .cases c
  .cases c
 .cases c where
 all_get' {d:Tn} {j:Array Operand} (h:j.toList.all (λx=>flat (jn d x))=true) {x:TL} (i:x∈j):flat (jn d x)=true:=
  A_.1 h x (by simpa using i)
def Nj{v:TR}(h:jV v=true):∃cs k,v = .tuple #[.agg cs]/\vp cs=some k:=by
 unfold jV at h;split at h
 next b=>
  split at h
  next cs e=>
   obtain⟨k,a⟩:=xT.1 h;refine⟨cs,k,?_,a⟩
   congr 1
   exact u9.1 (by simpa using e)
  .cases h
 .cases h
def wY{la:q_}{mu:ke}{v c:TR}(hp:ky v=true)(h:VR la mu v c):c=Hi v:=by
 simp only[ky,GN]at hp;rcases hp with hp|hp
 .rw[ch hp h];unfold Am.scalar at hp;split at hp<;>first|rfl|cases hp
 .obtain⟨d,k,rfl,e⟩:=Nj hp;cases h with
  |scalar h=>simp[Am.scalar]at h
  |tuple b _ _=>simp at b
  |O6 a=>simp[Hi,a]
def sK{la:q_}{mu:ke}{v:TR}(hp:ky v=true):VR la mu v (Hi v):=by
 simp only[ky,GN]at hp;rcases hp with hp|hp
 .have:Hi v=v:=by
   unfold Am.scalar at hp;split at hp<;>first|rfl|cases hp
  rw[this];exact .scalar hp
 .obtain⟨b,k,rfl,a⟩:=Nj hp;simp only[Hi,a];exact .O6 a
def Be{la:q_}{mu:ke}{v c:TR}(e:plain v=true)(h:VR la mu v c):c=GE v:=by
 cases v with
 |agg a=>
  obtain⟨g,rfl,b,h⟩:=h.Nt;simp only[GE]
  congr 1
  apply Array.ext (by simpa using b.symm);intro i j k;have d:i<a.size:=by simpa using k
  have:=wY (cS (f:=ky) (i:=i) (x:=a[i]) e (by simp[d])) (h i a[i] g[i] (by simp[d]) (by simp[j]));simpa using this
 |_=>exact wY e h
def wZ{la:q_}{mu:ke}{v:TR}(b:plain v=true):VR la mu v (GE v):=by
 cases v with
 |agg e=>
  simp only[GE];refine .agg c_ λi x y c d=>?_;have a:=cS (f:=ky) (i:=i) (x:=x) b (by simpa using c);rw[Array.getElem?_map,c]at d;cases d;exact sK a
 |_=>exact sK b
def O7{C:m8}{c:Nat}{la:q_}{mu:ke}{g9:St}{a:Act}{w:TS}(h:SR C c la mu g9 a.tmps w){o:Oper}{v:TR}
  (k:oh C g9.tmps o v):xM C.P la mu (execOp a.eval o) w v:=by
 obtain⟨d,f,g,i⟩:=k;have j:execOp a.eval o=execOp (λx=>GE (jn g9.tmps x)) o:=execOp_congr o (λm b e=>by rw[e]at d;cases d) λx l=>
  Be (A_.1 f x (by simpa using l)) (aJ h x)
 exact⟨GE v,by rw[j];exact i w,wZ g⟩
section
variable {C:m8} {la:q_} {mu:ke} {w:TS}
def VR.bool{b:Bool}{c:TR}(h:VR la mu (.bool b) c):c = .bool b:=ch rfl h
def VR.int{k:TK}{n:Int}{c:TR}(h:VR la mu (.int k n) c):c = .int k n:=ch rfl h
def lL{v c:TR}{n:Int}(a:intOf v=some n)(h:VR la mu v c):∃k,c = .int k n:=by
 cases v<;>simp[intOf]at a;subst a;exact⟨_,h.int⟩
def AX{t:TP}{cs ds:Tl}{off:Nat}{v:TR}(c:yQ C t cs off=some v)(h:vc la mu cs.toList ds.toList) :
  ∃v',(part t ds off).run C.P w = .ok v' w/\VR la mu v v':=by
 unfold yQ at c;cases g:C.P.underlying t with
 |none=>rw[g]at c;cases c
 |some d=>
  obtain⟨i,o⟩:=gq g;have e:=xn g w;have k:=bu o w;rw[g]at c;have j:cs.size=ds.size:=by simpa using h.1
  have f:sc d=true->some (Value.agg (cs.extract off (off+C.P.cellsOf t)))=some v->
    ∃v',(part t ds off).run C.P w = .ok v' w/\VR la mu v v':=by
   intro a l;cases l;refine⟨.agg (ds.extract off (off+C.P.cellsOf t)),by simp[part,e,a,k],vc.agg ?_⟩;simp only[Array.toList_extract,List.extract];exact(h.drop _).take _
  have b:sc d=false->cs[off]?=some v->
    ∃v',(part t ds off).run C.P w = .ok v' w/\VR la mu v v':=by
   intro a l;obtain⟨v',m,n⟩:=h.get (i:=off) (by simpa using l);exact⟨v',by simp[part,e,a,(by simpa using m:ds[off]?=some v')],n⟩
  cases d<;>first|exact f rfl c|exact b rfl c
def N_{t:TP}{x y v:TR}{f:Nat}(a:vX C t x f=some v)(h:VR la mu x y):∃v',(Instr.field t y f).run C.P w = .ok v' w/\VR la mu v v':=by
 unfold vX at a;split at a
 next d j i=>
  obtain⟨k,rfl,b⟩:=h.Nt;cases c:d[f]? with
  |none=>rw[c]at a;cases a
  |some l=>
   rw[c]at a;obtain⟨v',e,g⟩:=AX (w:=w) a b;exact⟨v',by simp[Instr.field,run_underlying i,c,asAgg,e],g⟩
 .cases a
def Og{t:TP}{x y i j v:TR}(c:nV C t x i=some v)(h:VR la mu x y)(o:VR la mu i j):∃v',(Instr.index t y j).run C.P w = .ok v' w/\VR la mu v v':=by
 unfold nV at c;split at c
 .cases c
 next n A=>
  obtain⟨k,rfl⟩:=lL A o;split at c
  next D e E p=>
   obtain⟨F,rfl,g⟩:=h.Nt;split at c
   next f=>
    have l:∃i,C.P.info? e=some i:=by
     unfold yQ at c;cases q:C.P.underlying e with
     |none=>rw[q]at c;cases c
     |some d=>exact gq q
    obtain⟨i,z⟩:=l;obtain⟨v',r,u⟩:=AX (w:=w) c g;exact⟨v',by simp[Instr.index,asIntOf,run_underlying p,f.1,f.2,bu z,r],u⟩
   .cases c
  next s p=>
   have B:=ch (a:=.string s) rfl h;subst B;split at c
   next f=>
    cases m:s[n.toNat]? with
    |none=>rw[m]at c;cases c
    |some b=>
     rw[m]at c;cases c;exact⟨_,by simp[Instr.index,asIntOf,run_underlying p,f,m],.scalar rfl⟩
   .cases c
  .cases c
def VR.MR{a:Addr}{c:TR}(h:VR la mu (.pointer (some a)) c)(n:Nat):∃d:Addr,c = .pointer (some d)/\d.spot=none/\VR la mu (.pointer (some { a with off:=a.off+n })) (.pointer (some (d.add n))):=by
 cases h with
 |scalar h=>simp[Am.scalar]at h
 |FD h=>exact⟨_,rfl,rfl,by rw[bX];exact .FD h⟩
 |ET h=>exact⟨_,rfl,rfl,by rw[bX,SB];exact .ET h⟩
 |E2=>exact⟨_,rfl,rfl,by rw[bX,SB];exact .E2⟩
def tW{t:TP}{x y v:TR}{f:Nat}(b:gO C t x f=some v)(h:VR la mu x y):∃v',(Instr.fieldAt t y f).run C.P w = .ok v' w/\VR la mu v v':=by
 unfold gO at b;split at b
 next n a l=>
  split at b
  next c g=>
   split at b
   .cases b
   next e=>
    cases b;obtain⟨i,j⟩:=dO e;obtain⟨d,rfl,k,m⟩:=h.MR c.offset;refine⟨.pointer (some (d.add c.offset)),?_,m⟩;simp[Instr.fieldAt,run_underlying l,g,Instr.sureAddr,fieldPlace,bu j,e]
  .cases b
 .cases b
def ut{t:TP}{x y i j v:TR}(c:fL C t x i=some v)(h:VR la mu x y)(s:VR la mu i j):∃v',(Instr.indexAt t y j).run C.P w = .ok v' w/\VR la mu v v':=by
 unfold fL at c;split at c
 .cases c
 next n D=>
  obtain⟨k,rfl⟩:=lL D s;split at c
  next A e a q=>
   split at c
   .cases c
   next z=>
    obtain⟨i,m⟩:=dO z;split at c
    next f=>
     cases c;obtain⟨d,rfl,E,F⟩:=h.MR (n.toNat*C.P.cellsOf e);exact⟨_,by simp[Instr.indexAt,asIntOf,run_underlying q,Instr.sureAddr,f.1,f.2,bu m],F⟩
    .cases c
  next e a A G q=>
   split at c
   .cases c
   next z=>
    obtain⟨i,m⟩:=dO z;split at c
    next f=>
     cases c;cases h with
     |scalar h=>simp[Am.scalar]at h
     |A6 h H B u=>
      rename_i id l r p
      refine⟨.pointer (some ⟨p.b,p.o+(l+n.toNat*C.P.cellsOf e),none⟩),?_,by rw[rv (by simp[le])];exact .ET h⟩;simp[Instr.indexAt,asIntOf,run_underlying q,f.1,f.2,bu m,bX,SB]
     |x_ u=>simp at f;omega
     |DN B u=>
      rename_i g l r
      refine⟨.pointer (some ⟨Fz g,GR g+(l+n.toNat*C.P.cellsOf e),none⟩),?_,by rw[qs rfl];exact .E2⟩;simp[Instr.indexAt,asIntOf,run_underlying q,f.1,f.2,bu m,bX,SB]
     |B3 u=>simp at f;omega
    .cases c
  .cases c
end
end
section
variable [DB] [Fc]
section
variable {C:m8} {la:q_} {mu:ke} {w:TS}
def GP(la:q_)(mu:ke):Tk->Tk->Prop
 |none,none=>True
 |some a,some b=>VR la mu a b
 |_,_=>False
abbrev _root_.Th:=Option Operand
def GP.map{f g:Tg}(x:Th)(h:∀x,VR la mu (f x) (g x)):GP la mu (x.map f) (x.map g):=by
 cases x with
 |none=>trivial
 |some x=>exact h x
def ep{x y:Tk}{r:Tt}(a:iT x=some r)(h:GP la mu x y) :
  (r=none/\y=none)∨(∃k n,r=some n/\y=some (.int k n)):=by
 cases x with
 |none=>
  cases y with
  |none=>simp[iT]at a;exact .inl ⟨a.symm,rfl⟩
  |some _=>exact h.elim
 |some x=>
  cases y with
  |none=>exact h.elim
  |some y=>
   cases x<;>simp[iT]at a
   rename_i k n
   have:=VR.int h;exact .inr ⟨k,n,a.symm,by rw[this]⟩
def cg{k:TK}{n:Int}{y:Nat}{code:BoundsCode}(h0:0<=n)(h1:n<=y)(w:TS):(Instr.sliceBound (.int k n) y code).run C.P w = .ok n.toNat w:=by
 simp[Instr.sliceBound,asIntOf,h0,h1]
def CG{q i j:Tt}{f d g:Tk}{a:Bool}{len cap:Nat}
  (e:(q=none/\f=none)∨(∃k n,q=some n/\f=some (.int k n))) (p:(i=none/\d=none)∨(∃k n,i=some n/\d=some (.int k n)))
  (v:(j=none/\g=none)∨(∃k n,j=some n/\g=some (.int k n)))
  (h0:0<=q.getD 0) (h1:q.getD 0<=i.getD len) (b:i.getD len<=j.getD cap) (c:j.getD cap<=cap) (z:j.isNone∨i.isSome) (w:TS) :
  (Instr.sliceBounds a len cap f d g).run C.P w = .ok ((q.getD 0).toNat,(i.getD len).toNat,(j.getD cap).toNat) w:=by
 rcases v with⟨rfl,rfl⟩|⟨x,m,rfl,rfl⟩
 .rcases p with⟨rfl,rfl⟩|⟨r,h,rfl,rfl⟩
  .rcases e with⟨rfl,rfl⟩|⟨s,l,rfl,rfl⟩
   .simp[Instr.sliceBounds]
   .simp at h0 h1 b c;simp[Instr.sliceBounds,cg h0 h1]
  .rcases e with⟨rfl,rfl⟩|⟨s,l,rfl,rfl⟩
   .simp at h0 h1 b c;simp[Instr.sliceBounds,cg h1 b]
   .simp at h0 h1 b c;have o:=cg (C:=C) (k:=r) (code:=if a then .sliceAcap else .sliceAlen) a_ b w;have u:=cg (C:=C) (k:=s) (y:=h.toNat) (code:=.sliceB) h0 a_ w;simp[Instr.sliceBounds,o,u]
 .rcases p with⟨rfl,rfl⟩|⟨r,h,rfl,rfl⟩
  .simp at z
  .rcases e with⟨rfl,rfl⟩|⟨s,l,rfl,rfl⟩
   .simp at h0 h1 b c;have t:=cg (C:=C) (k:=x) (code:=if a then .slice3Acap else .slice3Alen) a_ c w;have o:=cg (C:=C) (k:=r) (y:=m.toNat) (code:=.slice3B) a_ a_ w;simp[Instr.sliceBounds,t,o]
   .simp at h0 h1 b c;have t:=cg (C:=C) (k:=x) (code:=if a then .slice3Acap else .slice3Alen) a_ c w;have o:=cg (C:=C) (k:=r) (n:=h) (y:=m.toNat) (code:=.slice3B) a_ a_ w;have u:=cg (C:=C) (k:=s) (y:=h.toNat) (code:=.slice3C) h0 a_ w;simp[Instr.sliceBounds,t,o,u]
def rE{t b:TP}{a:Addr}{len cap l h m:Nat}{e d f:Tk}{i:TypeInfo}(j:C.P.underlying t=some (.slice b))(c:C.P.info? b=some i)
  (g:(Instr.sliceBounds true len cap e d f).run C.P w = .ok (l,h,m) w) :
  (Instr.sliceAt t (.slice (some a) len cap) e d f).run C.P w = .ok (.slice (if m=l then some a else some (a.add (l*C.P.cellsOf b))) (h - l) (m - l)) w:=by
 simp only[Instr.sliceAt,Instr.slice,Sem.run_bind,run_underlying j,Result.andThen_ok];simp[g,bu c]
def OY{t:TP}{x y v:TR}{Z L mx D B E:Tk}(j:Bt C t x Z L mx=some v)(h:VR la mu x y)
  (U:GP la mu Z D) (Q:GP la mu L B) (V:GP la mu mx E):∃v',(Instr.sliceAt t y D B E).run C.P w = .ok v' w/\VR la mu v v':=by
 unfold Bt at j;split at j
 next X H c q F e3=>
  have r1:=ep q U;have r2:=ep F Q;have r3:=ep e3 V;split at j
  next s a len Y hu=>
   split at j
   .cases j
   next hz=>
    obtain⟨i,L⟩:=dO hz;split at j
    .cases j
    next I=>
     split at j
     next O=>
      obtain⟨S,T,k⟩:=O;cases j;generalize R:X.getD 0=l at *;generalize G:H.getD (len:Int)=hv at *;have K:∀(d:Addr) (cap:Nat),len<=cap->(Y=0∨Y=cap+1)->
        (Instr.sliceAt t (.slice (some d) len cap) D B E).run C.P w =
         .ok (.slice (if (c.getD (cap:Int)).toNat=l.toNat then some d else some (d.add (l.toNat*C.P.cellsOf s))) (hv.toNat - l.toNat) ((c.getD (cap:Int)).toNat - l.toNat)) w/\
        hv<=c.getD (cap:Int)/\c.getD (cap:Int)<=cap:=by
       intro d cap r ag;have N:hv<=c.getD (cap:Int)/\c.getD (cap:Int)<=cap:=by
        cases c with
        |none=>simp only[bV,G]at k;simp;omega
        |some m=>simp only[bV,G]at k;simp;omega
       have b3:c.isNone∨H.isSome:=by
        cases c with
        |none=>exact .inl rfl
        |some m=>exact .inr k.1
       refine⟨rE hu L ?_,N⟩;rw[CG (len:=len) (cap:=cap) r1 r2 r3 (by rw[R];exact S) (by rw[R,G];exact T) (by rw[G];exact N.1) N.2 b3 w,R,G]
      cases h with
      |scalar h=>simp[Am.scalar]at h
      |A6 h hr r J=>
       rename_i id f cap p
       obtain⟨e,z,A⟩:=K ⟨p.b,p.o+f,none⟩ cap r J;refine⟨_,e,?_⟩;have W:C.P.cellsOf s=p.ra:=by simp[le]at I;exact I.symm
       rw[W];split
       next n=>
        have q:hv.toNat - l.toNat=0:=a_;have F:(c.getD (cap:Int)).toNat - l.toNat=0:=a_;rw[q,F];refine .x_ ?_;cases c with
        |none=>simp[bM]at n ⊢;omega
        |some m=>simp[bM]at n ⊢;omega
       next n=>
        rw[bX,SB];refine .A6 h ?_ a_ ?_
        .have:(l.toNat+((c.getD (cap:Int)).toNat - l.toNat))*p.ra<=cap*p.ra:=Pn _ a_;rw[KJ]at this;show f+l.toNat*p.ra+_<=p.room;omega
        .cases c with
         |none=>simp[bM]at n ⊢;omega
         |some m=>simp[bM]at n ⊢
      |x_ J=>
       rename_i id f ad M
       obtain⟨e,z,A⟩:=K M 0 a_ a_;refine⟨_,e,?_⟩;have u:(c.getD ((0:Nat):Int)).toNat=l.toNat:=a_;have q:hv.toNat - l.toNat=0:=a_;rw[qs u,q,u,SA];refine .x_ ?_;cases c with
       |none=>simp[bM];omega
       |some m=>simp[bM]at u ⊢;omega
      |DN r J=>
       rename_i g f cap
       obtain⟨e,z,A⟩:=K ⟨Fz g,GR g+f,none⟩ cap r J;refine⟨_,e,?_⟩;split
       next n=>
        have q:hv.toNat - l.toNat=0:=a_;have F:(c.getD (cap:Int)).toNat - l.toNat=0:=a_;rw[q,F];refine .B3 ?_;cases c with
        |none=>simp[bM]at n ⊢;omega
        |some m=>simp[bM]at n ⊢;omega
       next n=>
        rw[bX,SB];refine .DN a_ ?_;cases c with
        |none=>simp[bM]at n ⊢;omega
        |some m=>simp[bM]at n ⊢
      |B3 J=>
       rename_i g f M
       obtain⟨e,z,A⟩:=K M 0 a_ a_;refine⟨_,e,?_⟩;have u:(c.getD ((0:Nat):Int)).toNat=l.toNat:=a_;have q:hv.toNat - l.toNat=0:=a_;rw[qs u,q,u,SA];refine .B3 ?_;cases c with
       |none=>simp[bM];omega
       |some m=>simp[bM]at u ⊢;omega
     .cases j
  .cases j
 .cases j
def Od{vs cs:Tn}(off:Nat):∀(xs ys:Tn) (k:Nat),vc la mu vs cs->vc la mu xs ys->
  vc la mu ((xs.zipIdx k).foldl (λ(a:Tl) (c,j)=>a.setIfInBounds (off+j) c) vs.toArray).toList
   ((ys.zipIdx k).foldl (λ(a:Tl) (c,j)=>a.setIfInBounds (off+j) c) cs.toArray).toList:=by
 intro xs
 induction xs generalizing vs cs with
 |nil=>
  intro ys k h b;obtain rfl:=b.unnil;simpa using h
 |cons x xs i=>
  intro ys k h b;obtain⟨y,ys,rfl,f,g⟩:=b.IK;simp only[List.zipIdx_cons,XR];have d:vs.toArray.setIfInBounds (off+k) x=(vs.set (off+k) x).toArray:=c_;have e:cs.toArray.setIfInBounds (off+k) y=(cs.set (off+k) y).toArray:=c_;rw[d,e];exact i ys (k+1) (h.set _ f) g
def LJ(pl:Nat->Option (Nat×Nat)):∀(m a:List (Nat×Value)) (vs cs r:Tl),vc la mu vs.toList cs.toList->
  (m.length=a.length/\∀(i:Nat) p q,m[i]?=some p->a[i]?=some q->p.1=q.1/\aD p.2=false/\VR la mu p.2 q.2)->
  Instr.fill pl vs m=some r->∃r',Instr.fill pl cs a=some r'/\vc la mu r.toList r'.toList:=by
 intro m
 induction m with
 |nil=>
  intro a vs cs r h l b;have:a=[]:=by have:=l.1;cases a<;>simp_all
  subst this;simp[Instr.fill]at b;subst b;exact⟨cs,by simp[Instr.fill],h⟩
 |cons p m G=>
  intro a vs cs r h l b;cases a with
  |nil=>have:=l.1;simp at this
  |cons q a=>
   obtain⟨D,n⟩:=l;obtain⟨e,z,A⟩:=n 0 p q rfl rfl;obtain⟨i,x⟩:=p;obtain⟨j,y⟩:=q;simp only at e z A;subst e;have v:=A.cells z;have o:x.cells.size=y.cells.size:=by simpa using v.1
   have s:vs.size=cs.size:=by simpa using h.1
   unfold Instr.fill at b ⊢;split at b
   .cases b
   next g B E=>
    split at b
    .cases b
    next f=>
     rw[rv (by rw[←o,←s];exact f)];refine G a _ _ r ?_ ⟨by simpa using D,λk p q l F=>n (k+1) p q (by simpa using l) (by simpa using F)⟩ b;have conv:∀(u t:Tl),(u.zipIdx.foldl (λ(d:Tl) (c,j)=>d.setIfInBounds (g+j) c) t)=u.toList.zipIdx.foldl (λ(d:Tl) (c,j)=>d.setIfInBounds (g+j) c) t:=by
      intro u t;rw[←qc8,Array.toList_zipIdx]
     rw[conv,conv];have:=Od (la:=la) (mu:=mu) g x.cells.toList y.cells.toList 0 h v;simpa using this
def pF{i:TypeInfo}{z:TR}(h:mt i=some z):i.zero=some z/\z.cells.size=i.size/\flat z=true/\aD z=false:=by
 unfold mt at h;split at h
 next c b=>
  split at h
  next a=>cases h;exact⟨b,a⟩
  .cases h
 .cases h
def lm{P:TI}{t:TP}{z:TR}(h:ft P t=some z):∃i,P.info? t=some i/\i.zero=some z/\z.cells.size=i.size/\flat z=true/\aD z=false:=by
 unfold ft at h;cases a:P.info? t with
 |none=>rw[a]at h;cases h
 |some i=>rw[a,Ex]at h;exact⟨i,rfl,pF h⟩
def rj{P:TI}{t:TP}{z:TR}(h:ft P t=some z):z.cells.size=P.cellsOf t/\flat z=true/\aD z=false:=by
 obtain⟨i,a,_,b,c⟩:=lm h;exact⟨by rw[b];simp[Program.cellsOf,a],c⟩
def Z_(la:q_)(mu:ke)(a b:List (Nat×Value)):Prop:=a.length=b.length/\∀(i:Nat) p q,a[i]?=some p->b[i]?=some q->p.1=q.1/\aD p.2=false/\VR la mu p.2 q.2
def jx(P:TI)(w:TS):∀(a:List Field),(∀f∈a,(P.info? f.type).isSome=true)->
  (a.mapM λf=>(do pure (f.offset,←sizeOf f.type):Sem (Nat×Nat))).run P w = .ok (a.map λf=>(f.offset,P.cellsOf f.type)) w
 | [],_=>c_
 |f :: a,h=>by
  obtain⟨i,c⟩:=xT.1 (h f c_);have d:=jx P w a λg b=>h g (by simp[b]);simp only[XO,Sem.run_bind,bu c,Result.andThen_ok,Sem.run_pure,d,EN]
def NI{t:TP}{m:List (Nat×Value)}{A:Array (Nat×Value)}{v:TR}(d:vC C t m=some v)(G:Z_ la mu m A.toList) :
  ∃v',(Instr.build t A).run C.P w = .ok v' w/\VR la mu v v':=by
 unfold vC at d;split at d
 next z pl c a=>
  cases h:Instr.fill pl z.cells m with
  |none=>rw[h]at d;cases d
  |some r=>
   rw[h]at d;cases d;have u:vc la mu z.cells.toList z.cells.toList:=by
    refine⟨rfl,λi x y g B=>?_⟩;obtain rfl:x=y:=by rw[g]at B;exact EI B
    have:=(rj c).2.1;cases z with
    |agg o=>exact .scalar (cS (f:=Am.scalar) this g)
    |tuple o=>
     have E:(Value.tuple o).cells.toList=[.tuple o]:=rfl;rw[E]at g;cases i with
     |zero=>simp at g;subst g;exact .of_flat this
     |succ i=>simp at g
    |_=>
     cases i with
     |zero=>simp[Value.cells]at g;subst g;exact .of_flat this
     |succ i=>simp[Value.cells]at g
   obtain⟨H,l,D⟩:=LJ pl m A.toList z.cells z.cells r u G h;refine⟨.agg H,?_,D.agg⟩;have k:(zeroValue t).run C.P w = .ok z w:=by
    obtain⟨i,q,l,_⟩:=lm c;simp[zeroValue,typeInfo,q,l]
   unfold pw at a;split at a
   next p s=>
    split at a
    next b=>
     cases a;have F:=jx C.P w p.toList (λf d=>by
      have:=Array.all_eq_true_iff_forall_mem.1 b f (by simpa using d);simpa using this)
     have j:(λ(i:Nat)=>(((p.toList.map λ(f:Field)=>(f.offset,C.P.cellsOf f.type)).toArray)[i]?:Option (Nat×Nat)))=λ(i:Nat)=>(p[i]?).map λ(f:Field)=>(f.offset,C.P.cellsOf f.type):=by
      funext i;simp
     simp only[Instr.build,Sem.run_bind,k,Result.andThen_ok,run_underlying s,qde,Sem.run_map,F];rw[j,l];rfl
    .cases a
   next n e s=>
    split at a
    next b=>
     cases a;obtain⟨i,q⟩:=xT.1 b;simp only[Instr.build,Sem.run_bind,k,Result.andThen_ok,run_underlying s,bu q];rw[l];rfl
    .cases a
   .cases a
 .cases d
end
end
section
variable [DB] [Fc]
section
variable {C:m8} {la:q_} {mu:ke} {w:TS}
def cF.G6{vs:Tn}{c:Tl}(h:vc DP mu vs c.toList):cF mu vs c 0:=by
 intro i v d;obtain⟨e,a,b⟩:=h.get d;exact⟨e,by simpa using a,b⟩
def cF.cut{vs xs:Tn}{c:Tl}{o off n:Nat}(h:cF mu vs c o)(e:cut vs off n=some xs) :
  ∃ys:List Value,ys.length=n/\vc DP mu xs ys/\∀(j:Nat) y,ys[j]?=some y->c[o+off+j]?=some y:=by
 unfold Am.cut at e;split at e
 next m=>
  cases e;refine⟨(List.range n).map λj=>c.getD (o+off+j) undef,c_,⟨tt,?_⟩,?_⟩
  .intro i x y d a;have f:i<n:=by
    rcases HG i n with h|h
    .exact h
    .rw[Hy tt]at a;cases a
   rw[o0,qs f,d6]at d;obtain⟨l,b,g⟩:=h _ x d;simp[f]at a;subst a;rw[←SB]at b;simpa[b]using g
  .intro j y a;have k:j<n:=by
    rcases HG j n with h|h
    .exact h
    .rw[Hy tt]at a;cases a
   have d:∃x,vs[off+j]?=some x:=⟨vs[off+j]'(by omega),c_⟩;obtain⟨x,d⟩:=d;obtain⟨l,b,_⟩:=h _ x d;simp[k]at a;rw[←SB]at b;rw[b,←a];simp[b]
 .cases e
def tG{b:Nat}{c:Tl}{e:TP}{fr:Nat×Nat}(h:w.heap[b]?=some (.cells c e fr))(i:Nat):w.cell? ⟨b,i,none⟩=c[i]?:=by
 simp[World.cell?,h]
def nB{vs xs:Tn}{c:Tl}{o off n b:Nat}{e:TP}{fr:Nat×Nat}(h:cF mu vs c o)(i:cut vs off n=some xs)(g:w.heap[b]?=some (.cells c e fr)) :
  ∃ys:List Value,ys.length=n/\(loadCells ⟨b,o+off,none⟩ n).run C.P w = .ok ys.toArray w/\vc DP mu xs ys:=by
 obtain⟨ys,a,d,f⟩:=h.cut i;refine⟨ys,a,?_,d⟩;rw[←a];refine run_loadCells_list w _ ys λj v k=>?_;rw[bX,tG g];exact f j v k
def eJ{vs:Tn}{c:Tl}{o off b:Nat}{e:TP}{fr:Nat×Nat}{t:TP}{v:TR}(h:cF mu vs c o)(g:dL C.P t vs off=some v)(q:w.heap[b]?=some (.cells c e fr)) :
  ∃v',(loadVar t ⟨b,o+off,none⟩).run C.P w = .ok v' w/\VR DP mu v v':=by
 unfold dL at g;cases l:C.P.underlying t with
 |none=>rw[l]at g;cases g
 |some d=>
  rw[l]at g;obtain⟨i,u⟩:=gq l;have k:=xn l w;have n:=bu u w;have x:sc d=true->((cut vs off (C.P.cellsOf t)).map λr=>Value.agg r.toArray)=some v->∃v',(loadVar t ⟨b,o+off,none⟩).run C.P w = .ok v' w/\VR DP mu v v':=by
   intro f j;cases a:cut vs off (C.P.cellsOf t)with
   |none=>rw[a]at j;cases j
   |some A=>
    rw[a]at j;cases j;obtain⟨z,p,m,s⟩:=nB (C:=C) h a q;exact⟨.agg z.toArray,by simp[loadVar,k,f,n,m],vc.agg (by simpa using s)⟩
  have y:sc d=false->vs[off]?=some v->∃v',(loadVar t ⟨b,o+off,none⟩).run C.P w = .ok v' w/\VR DP mu v v':=by
   intro f j;obtain⟨v',p,m⟩:=h off v j;exact⟨v',by simp[loadVar,k,f,tG q,p],m⟩
  cases d<;>first|exact x rfl g|exact y rfl g
def kF{b:Nat}{c cs:Tl}{e:TP}{fr:Nat×Nat}(h:w.heap[b]?=some (.cells c e fr)):(w.setRow b cs).heap=w.heap.setIfInBounds b (.cells cs e fr):=by
 have d:b<w.heap.size:=(JX.1 h).1;apply Array.ext (by simp[World.setRow]);intro k i j;have f:(w.setRow b cs).heap[k]?=(w.heap.setIfInBounds b (.cells cs e fr))[k]?:=by
  by_cases a:k=b
  .subst a;rw[setRow_heap w k c cs e fr h];simp[d]
  .rw[setRow_other w b k cs a,qbI (Ej a)]
 have g:=qcv i;have e3:=qcv j;rw[g,e3]at f;exact EI f
def A8(c:Tl)(at_:Nat)(ys:Tn):Tl:=(c.toList.take at_++ys++c.toList.drop (at_+ys.length)).toArray
def iu{c:Tl}{at_:Nat}{ys:Tn}(h:at_+ys.length<=c.size):(A8 c at_ ys).size=c.size:=by
 simp[A8];omega
def ob{c:Tl}{at_:Nat}{ys:Tn}(h:at_+ys.length<=c.size)(i:Nat) :
  (A8 c at_ ys)[i]?=if at_<=i/\i<at_+ys.length then ys[i - at_]? else c[i]?:=by
 have a:(c.toList.take at_).length=at_:=tt;simp only[A8,List.getElem?_toArray];by_cases b:i<at_
 .rw[FL,H3 a_,o0,qs b,rv a_];simp
 .rw[FL,Iz a_,a];by_cases d:i<at_+ys.length
  .rw[H3 a_,qs ⟨a_,d⟩]
  .rw[Iz a_,d6,rv a_];have:at_+ys.length+(i - at_ - ys.length)=i:=a_;rw[this];simp
def CM{vs b xs:Tn}{off:Nat}(c:qa vs off xs=some b)(i:Nat) :
  b[i]?=if off<=i/\i<off+xs.length then xs[i - off]? else vs[i]?:=by
 unfold Am.qa at c;split at c
 next f=>
  cases c;have a:(vs.take off).length=off:=tt;by_cases d:i<off
  .rw[FL,H3 a_,o0,qs d,rv a_]
  .rw[FL,Iz a_,a];by_cases e:i<off+xs.length
   .rw[H3 a_,qs ⟨a_,e⟩]
   .rw[Iz a_,d6,rv a_]
    congr 1;omega
 .cases c
def iB{vs a xs:Tn}{off:Nat}(b:qa vs off xs=some a):a.length=vs.length/\off+xs.length<=vs.length:=by
 unfold Am.qa at b;split at b
 .cases b;simp;omega
 .cases b
def sU{f:TR->Bool}{vs a xs:Tn}{off:Nat}(b:qa vs off xs=some a)(h1:vs.all f=true)(d:xs.all f=true):a.all f=true:=by
 unfold Am.qa at b;split at b
 .cases b;rw[qdw,qdw,te,te];refine⟨⟨A_.2 λx c=>A_.1 h1 x (OO c),d⟩,A_.2 λx c=>A_.1 h1 x (lC c)⟩
 .cases b
def cF.qa{vs b xs ys:Tn}{c:Tl}{o off:Nat}(h:cF mu vs c o)(e:qa vs off xs=some b)(f:vc DP mu xs ys)(k:o+vs.length<=c.size) :
  cF mu b (A8 c (o+off) ys) o:=by
 have n:=iB e;have l:=f.1;intro i v a;rw[CM e]at a;rw[ob a_];by_cases d:off<=i/\i<off+xs.length
 .rw[qs d]at a;rw[qs a_];obtain⟨m,g,j⟩:=f.get a;exact⟨m,by rw[show o+i - (o+off)=i - off by omega];exact g,j⟩
 .rw[rv d]at a;rw[rv a_];exact h i v a
def fB{xs ys:Tn}(e:vc la mu xs ys)(h:xs.all bg=true):∀y∈ys,y.oneCell'=true:=by
 intro y g;obtain⟨i,c⟩:=FK g;have f:i<ys.length:=by
  rcases HG i ys.length with h|h
  .exact h
  .rw[Hy h]at c;cases c
 have b:i<xs.length:=by have:=e.1;omega
 have a:=cS h (show xs[i]?=some xs[i]by simp[b]);simp only[bg,te]at a;have d:=e.2 i xs[i] y (by simp[b]) c;have:=mY a.2 d;cases y<;>first|rfl|exact(yJ a.2 d).elim|(simp[aP]at this)
def cZ{c:Tl}{e:TP}{b at_:Nat}{ys:Tn}(a:w.heap[b]?=some (.cells c e (0,0)))(d:at_+ys.length<=c.size)(h1:∀y∈ys,y.oneCell'=true) :
  (storeCells ⟨b,at_,none⟩ ys).run C.P w = .ok () (w.setRow b (A8 c at_ ys)):=by
 have:=run_storeCells_at C.P b at_ e ys 0 c w a (by simpa using d) h1;simpa[A8]using this
def og{c:Tl}{e t:TP}{b at_:Nat}{x y:TR}(l:aD x=false)(m:VR la mu x y)(j:x.cells.size=C.P.cellsOf t/\(C.P.info? t).isSome=true)(a:x.cells.toList.all bg=true)
  (g:w.heap[b]?=some (.cells c e (0,0))) (n:at_+x.cells.size<=c.size) :
  (storeVar t ⟨b,at_,none⟩ y).run C.P w = .ok () (w.setRow b (A8 c at_ y.cells.toList)):=by
 have f:=m.cells l;have k:x.cells.size=y.cells.size:=by simpa using f.1
 obtain⟨i,h⟩:=xT.1 j.2;have d:=cZ (C:=C) (at_:=at_) (ys:=y.cells.toList) g tt (fB f a);simp[storeVar,bu h,show y.cells.size=C.P.cellsOf t by omega,d]
end
end
section
variable [DB] [Fc]
def I6(C:m8)(b:Nat)(mu:ke)(H:Tu)(w:TS)(s:Sem Next)(H':Tu)(v:Value):Prop:=
 ∃c v' w' a,s.run C.P w = .ok c w'/\(c = .value v'∨(c = .skip/\v'=undef))/\VR DP a v v'/\WR C b a H' w'/\Fv H mu w H' a w'/\ea mu a H' w'
def pG(C:m8)(g:Nat)(la:q_)(mu:ke)(g9:St)(w:TS)(s:Sem Next):EZ->Prop
 | .val v=>xM C.P la mu s w v
 | .GU _ vs=>∃a e,s.run C.P w = .ok (.value (.pointer (some ⟨w.heap.size,0,none⟩))) (w.alloc (.cells a e))/\vc DP mu vs a.toList/\vs.all bg=true
 | .Ir k f=>∀vs v,g9.loc[k]?=some (some vs)->f vs=some v->xM C.P la mu s w v
 | .GV k f=>∀vs d,g9.loc[k]?=some (some vs)->f vs=some d->∃b c cs e,la k=some b/\w.heap[b]?=some (.cells c e (0,0))/\s.run C.P w = .ok .skip (w.setRow b cs)/\vc DP mu d cs.toList/\d.all bg=true
 | .Gf f=>∀v,f g9.heap=some v->xM C.P la mu s w v
 | .Hk f=>∀H' v,f g9.heap=some (H',v)->I6 C g mu g9.heap w s H' v
 | .call f args=>∃args':Array Value,vc DP mu args args'.toList/\s.run C.P w=(callFunc f args').run C.P w
 | .yield l args=>∃p args',mu l=some p/\vc DP mu args (args':Tl).toList/\s.run C.P w=(Instr.yield p.b args').run C.P w
section
variable {C:m8} {base:Nat} {la:q_} {mu:ke} {g9:St} {a:Act} {w:TS}
def rZ{v c:TR}{p:Nat×Nat}(d:jp v=some p)(h:VR la mu v c):∃q,mu p.1=some q/\c = .pointer (some ⟨q.b,q.o+p.2,none⟩):=by
 unfold jp at d;split at d
 next a=>
  split at d
  next e=>
   cases d;cases h with
   |scalar h=>simp[Am.scalar]at h
   |FD h=>simp at e
   |ET h=>exact⟨_,h,rfl⟩
   |E2=>simp at e
  .cases d
 .cases d
def rX{v c:TR}{p:Nat×Nat}(b:ii v=some p)(h:VR la mu v c):c = .pointer (some ⟨Fz p.1,GR p.1+p.2,none⟩):=by
 unfold ii at b;split at b
 next a=>
  split at b
  next d=>
   cases b;cases h with
   |scalar h=>simp[Am.scalar]at h
   |FD h=>simp at d
   |ET h=>simp at d
   |E2=>rfl
  .cases b
 .cases b
def wF{v c:TR}{s off:Nat}(d:ko s v=some off)(h:VR la mu v c):∃b,la s=some b/\c = .pointer (some ⟨b,off,none⟩):=by
 unfold ko at d;split at d
 next a=>
  split at d
  next f=>
   cases d;obtain⟨e,rfl⟩:=f;cases h with
   |scalar h=>simp[Am.scalar]at h
   |FD h=>exact⟨_,h,rfl⟩
   |ET h=>simp at e
   |E2=>simp at e
  .cases d
 .cases d
def wu(l:WR C base mu g9.heap w){id:Nat}{vs:Tn}(h:gG g9.heap id=some vs){p:Pl}(j:mu id=some p) :
  ∃c e fr,w.heap[p.b]?=some (.cells c e fr)/\cF mu vs c p.o:=by
 unfold gG at h;split at h
 next n f m i'=>
  cases h;obtain⟨q,d,k⟩:=l.obj id _ i' rfl;obtain rfl:p=q:=by rw[j]at d;exact EI d
  obtain⟨_,_,_,c,e,fr,g,_,_,i⟩:=k;exact⟨c,e,fr,g,i⟩
 .cases h
def LW(f:WR C base mu g9.heap w){g:Nat}{vs:Tn}(h:C.G g=some vs):∃c e fr,w.heap[Fz g]?=some (.cells c e fr)/\cF mu vs c (GR g):=by
 obtain⟨_,_,c,e,fr,b,d⟩:=f.Fe g vs h;exact⟨c,e,fr,b,d⟩
def Kr(h:SR C base la mu g9 a.tmps w){s b:Nat}{vs:Tn}(l:g9.loc[s]?=some (some vs))(k:la s=some b) :
  ∃c e,w.heap[b]?=some (.cells c e (0,0))/\vc DP mu vs c.toList/\vs.all bg=true:=by
 obtain⟨f,c,e,d,m,g,i,j,n⟩:=h.loc s vs l;obtain rfl:b=f:=by rw[k]at d;exact EI d
 exact⟨c,e,g,j,i⟩
def jL{c:TR}{t:TP}{d:Addr}{v':TR}(b:c = .pointer (some d))(h:(loadVar t d).run C.P w = .ok v' w):(Instr.loadAt t c).run C.P w = .ok v' w:=by
 subst b;simp[Instr.loadAt,Instr.sureAddr,h]
def Ch(h:SR C base la mu g9 a.tmps w){b_:TC}{t:TP}{x:TL}{e:EZ}(d:eG C b_ t x (jn g9.tmps x)=some e) :
  pG C base la mu g9 w (do pure (.value (←Instr.loadAt t (a.eval x)))) e:=by
 have u:=aJ h x;unfold eG at d;split at d
 .cases g:jp (jn g9.tmps x)with
  |none=>
   rw[g]at d;cases r:ii (jn g9.tmps x)with
   |none=>rw[r]at d;cases d
   |some p=>
    rw[r]at d;cases d;have m:=rX r u;intro v f;simp only at f;cases o:C.G p.1 with
    |none=>rw[o]at f;cases f
    |some y=>
     rw[o,Ex]at f;obtain⟨c,e,A,i,j⟩:=LW h.wr o;obtain⟨z,k,l⟩:=eJ (C:=C) j f i;exact iE (jL m k) l.up
  |some p=>
   rw[g]at d;cases d;obtain⟨q,D,m⟩:=rZ g u;intro v f;simp only at f;cases n:gG g9.heap p.1 with
   |none=>rw[n]at f;cases f
   |some y=>
    rw[n]at f;obtain⟨c,e,A,i,j⟩:=wu h.wr n D;obtain⟨z,k,l⟩:=eJ (C:=C) j f i;exact iE (jL m k) l.up
 .cases g:ii (jn g9.tmps x)with
  |none=>rw[g]at d;cases d
  |some p=>
   rw[g]at d;have m:=rX g u;cases o:C.G p.1 with
   |none=>rw[Ex,o]at d;cases d
   |some y=>
    rw[Ex,o,Ex]at d;cases f:dL C.P t y p.2 with
    |none=>rw[f]at d;cases d
    |some v=>
     rw[f]at d;cases d;obtain⟨c,e,A,i,j⟩:=LW h.wr o;obtain⟨z,k,l⟩:=eJ (C:=C) j f i;exact iE (jL m k) l.up
 next s _=>
  cases g:ko s (jn g9.tmps x)with
  |none=>rw[g]at d;cases d
  |some F=>
   rw[g]at d;cases d;obtain⟨b,B,m⟩:=wF g u;intro y v E f;obtain⟨c,e,i,j,_⟩:=Kr h E B;obtain⟨z,k,l⟩:=eJ (C:=C) (cF.G6 j) f i;exact iE (jL (by rw[m,F9]) k) l.up
def kI{t:TP}{x:TR}{vs b:Tn}{off:Nat}(h:fH C.P t x vs off=some b) :
  (x.cells.size=C.P.cellsOf t/\(C.P.info? t).isSome=true)/\x.cells.toList.all bg=true/\qa vs off x.cells.toList=some b:=by
 unfold fH at h;split at h
 next c=>
  split at h
  next d=>exact⟨c,d,h⟩
  .cases h
 .cases h
def qV{c y:TR}{t:TP}{d:Addr}{w':TS}(b:c = .pointer (some d))(h:(storeVar t d y).run C.P w = .ok () w'):(Instr.storeAt t c y).run C.P w = .ok () w':=by
 subst b;simp[Instr.storeAt,Instr.sureAddr,h]
def WR.qa(k:WR C base mu g9.heap w){id:Nat}{vs d xs ys:Tn}{ra off:Nat}{p:Pl}(i':g9.heap[id]?=some (.cells vs ra true))(i:mu id=some p)
  (g:Am.qa vs off xs=some d) (l:vc DP mu xs ys) (f:xs.all bg=true) :
  ∃c e,w.heap[p.b]?=some (.cells c e (0,0))/\p.o+off+ys.length<=c.size/\
   WR C base mu (g9.heap.set id (.cells d ra true)) (w.setRow p.b (A8 c (p.o+off) ys))/\Fv g9.heap mu w (g9.heap.set id (.cells d ra true)) mu (w.setRow p.b (A8 c (p.o+off) ys)):=by
 obtain⟨q,j,u⟩:=k.obj id _ i' rfl;obtain rfl:p=q:=by rw[i]at j;exact EI j
 obtain⟨m,y,n,c,e,x,h,r,s,t⟩:=u;obtain rfl:=s rfl;have z:=iB g;have v:=l.1;refine⟨c,e,h,a_,?_⟩;refine k.set i' rfl i (kF h) rfl rfl rfl _ (λ_=>rfl) ?_;exact⟨m,a_,sU g n f,_,e,_,rfl,by rw[iu a_];exact r,λ_=>rfl,cF.qa t g l a_⟩
def zr(h:SR C base la mu g9 a.tmps w){b_:TC}{t:TP}{x z:TL}{e:EZ}(d:fF C b_ t x (jn g9.tmps x) (jn g9.tmps z)=some e) :
  pG C base la mu g9 w (do Instr.storeAt t (a.eval x) (a.eval z);pure .skip) e:=by
 have R:=aJ h x;have G:=aJ h z;unfold fF at d;split at d
 .cases d
 next B=>
  simp only[Hz]at B;split at d
  .cases k:jp (jn g9.tmps x)with
   |none=>rw[k]at d;cases d
   |some p=>
    rw[k]at d;cases d;obtain⟨q,W,I⟩:=rZ k R;intro H' v m;unfold kQ at m;split at m
    next K T i'=>
     cases g:fH C.P t (jn g9.tmps z) K p.2 with
     |none=>rw[g]at m;cases m
     |some L=>
      rw[g]at m;cases m;obtain⟨H,j,r⟩:=kI g;have f:=G.cells B;obtain⟨c,e,D,E,F,U⟩:=h.wr.qa i' W r (f.Ja j) j;have l:=og (C:=C) (at_:=q.o+p.2) B G H j D (by have:=f.1;simp at this E ⊢;omega);refine⟨.skip,undef,_,mu,?_,.inr ⟨rfl,rfl⟩,.undef,F,U,F.obj⟩;simp[qV I l]
    .cases m
  .cases d
  next s _=>
   cases k:ko s (jn g9.tmps x)with
   |none=>rw[k]at d;cases d
   |some n=>
    rw[k]at d;cases d;obtain⟨b,N,I⟩:=wF k R;intro K L X g;obtain⟨H,j,r⟩:=kI g;obtain⟨c,e,D,E,F⟩:=Kr h X N;have f:=G.cells B;have Q:=iB r;have Z:K.length=c.size:=by simpa using E.1
    have O:(jn g9.tmps z).cells.size=(a.eval z).cells.size:=by simpa using f.1
    have l:=og (C:=C) (at_:=n) B G H j D (by simp at Q;omega);refine⟨b,c,A8 c n (a.eval z).cells.toList,e,N,D,by simp[qV I l],?_,sU r F j⟩;have A:=cF.qa (o:=0) (cF.G6 E) r (f.Ja j) a_;rw[F9]at A;have J:(A8 c n (a.eval z).cells.toList).size=c.size:=iu (by simp at Q ⊢;omega);refine⟨by simp[J];omega,λi u y Y S=>?_⟩;obtain⟨u',M,V⟩:=A i u Y;rw[F9]at M;obtain rfl:u'=y:=by rw[Array.getElem?_toList,M]at S;exact EI S
    exact V
def nX(h:SR C base la mu g9 a.tmps w)(o:base<=w.heap.size){b_:TC}{dst:Tq}{t:TP}{v c:TR}{e:EZ}(q:VR la mu v c)(f:cM C b_ dst t v=some e) :
  pG C base la mu g9 w (do pure (.value (←Instr.box t c))) e:=by
 unfold cM at f;split at f
 .cases f
 next l=>
  simp only[Hz]at l;have g:=q.cells l;split at f
  .cases f
  next d=>
   split at f
   .cases f
   next b=>
    simp only[Hz,qcF]at b;split at f
    .cases f;exact⟨c.cells,t,by simp[Instr.box,newVar,newRow],g.Ja b,b⟩
    .cases f;intro s u k;cases k;have j:=h.wr.new o (w':=w.alloc (.cells c.cells t)) (x:=.cells c.cells t) rfl rfl rfl rfl (.cells v.cells.toList (nz C.P t) true) ⟨w.heap.size,0,c.cells.size,nz C.P t⟩ rfl (by
      have p:v.cells.size=c.cells.size:=by simpa using g.1
      refine⟨rfl,by simp[p],b,c.cells,t,_,rfl,c_,λ_=>rfl,λi u k=>?_⟩;obtain⟨r,m,n⟩:=(g.Ja b).get k;exact⟨r,by simpa using m,n⟩) (λ_=>rfl)
     refine⟨.value (.pointer (some ⟨w.heap.size,0,none⟩)),_,_,_,by simp[Instr.box,newVar,newRow],.inl rfl,?_,j.1,j.2.1,j.2.2⟩;exact .ET (bN _ _ _)
end
end
section
variable [DB] [Fc]
section
variable {C:m8} {base:Nat} {la:q_} {mu:ke} {g9:St} {a:Act} {w:TS}
def WR.newRow(q:WR C base mu g9.heap w)(l:base<=w.heap.size){w':TS}{vs ys:Tn}{cs:Tl}{e:TP}{ra:Nat}(h:vc DP mu vs ys)(c:vs.all bg=true)
  (b:∀(i:Nat) y,ys[i]?=some y->cs[i]?=some y) (g:ys.length<=cs.size) (f:w'.heap=w.heap.push (.cells cs e)) (d:w'.os=w.os) (n:w'.tape=w.tape) (o:w'.output=w.output) (m:w.drawn<=w'.drawn:=by exact B8 _) :
  WR C base (I1 mu g9.heap.length ⟨w.heap.size,0,cs.size,ra⟩) (g9.heap++[.cells vs ra true]) w'/\Fv g9.heap mu w (g9.heap++[.cells vs ra true]) (I1 mu g9.heap.length ⟨w.heap.size,0,cs.size,ra⟩) w'/\ea mu (I1 mu g9.heap.length ⟨w.heap.size,0,cs.size,ra⟩) (g9.heap++[.cells vs ra true]) w':=by
 refine q.new l f d n o _ _ rfl ⟨rfl,by have:=h.1;simp only;omega,c,cs,e,_,rfl,c_,λ_=>rfl,λi v p=>?_⟩ (λ_=>rfl) m;obtain⟨y,j,k⟩:=h.get p;exact⟨y,by simpa using b i y j,k⟩
def rW{z:TR}(b:flat z=true)(e:aD z=false):z.cells.toList.all scalar=true:=by
 cases z with
 |agg c=>exact b
 |tuple c=>
  have d:jV (.tuple c)=true:=by simpa[aD]using e
  simp[flat,gR d]at b
 |_=>simpa[Value.cells,flat,gL]using b
def iA{v:TR}(h:scalar v=true):bg v=true:=by
 unfold Am.scalar at h;split at h<;>first|rfl|cases h
def vc.scalars{vs:Tn}(h:vs.all scalar=true):vc la mu vs vs:=by
 refine⟨rfl,λi x y b c=>?_⟩;obtain rfl:x=y:=by rw[b]at c;exact EI c
 exact .scalar (cS h b)
def zH{f g:TR->Bool}{vs:Tn}(h:vs.all f=true)(b:∀v,f v=true->g v=true):vs.all g=true:=
 A_.2 λx c=>b x (A_.1 h x c)
def CS{z:Tn}{n i:Nat}(h:i<n*z.length):(aL z n)[i]?=z[i%z.length]?:=by
 unfold aL
 induction n generalizing i with
 |zero=>simp at h
 |succ n d=>
  rw[a8,ec];by_cases c:i<z.length
  .rw[H3 c,Nat.mod_eq_of_lt c]
  .rw[Iz a_];have e:0<z.length:=by
    rcases Nat.eq_zero_or_pos z.length with b|b
    .rw[b]at h;simp at h
    .exact b
   rw[KJ,U1]at h;rw[d a_,←Nat.mod_eq_sub_mod a_]
def fJ{z:Tn}{n:Nat}:(aL z n).length=n*z.length:=by
 unfold aL
 induction n with
 |zero=>simp
 |succ n b=>rw[a8,ec,HY,b,KJ];omega
def jT{f:TR->Bool}{z:Tn}{n:Nat}(h:z.all f=true):(aL z n).all f=true:=by
 unfold aL;rw[List.all_flatten];refine A_.2 λl b=>?_;rw[List.mem_replicate]at b;rw[b.2];exact h
def lQ{z:Tl}{n m:Nat}(d:z.size≠0)(h:m=n*z.size)(i:Nat)(c:i<m):(madeCells z m)[i]?=(aL z.toList n)[i]?:=by
 rw[CS tt];have b:i%z.size<z.size:=KK _ a_;simp only[madeCells,Array.getElem?_map];rw[Array.getElem?_range,qs c];simp[b]
def uC(h:SR C base la mu g9 a.tmps w)(L:base<=w.heap.size){t:TP}{l c:TL}{H':Tu}{v:TR}
  (f:dP C t (jn g9.tmps l) (jn g9.tmps c) g9.heap=some (H',v)):I6 C base mu g9.heap w (do pure (.value (←Instr.makeSlice t (a.eval l) (a.eval c)))) H' v:=by
 unfold dP at f;split at f
 next E d g F K O=>
  split at f
  next b M=>
   split at f
   .cases f
   next N=>
    split at f
    next z k=>
     obtain⟨o,p,B,D⟩:=pF k
     first
     |skip
      split at f
      next u=>
       cases f;obtain⟨G,H,S,T⟩:=u;obtain⟨R,J⟩:=lL F (aJ h l);obtain⟨Q,I⟩:=lL K (aJ h c);have j:(b.bytes:Int)*d<=281474976710656:=by
        have F:(b.bytes:Int)*d<=4096*d:=qcc a_ a_;omega
       have q:=run_make (P:=C.P) w t g b z O M o R Q E d G H j a_;have r:=rW B D;have m:(madeCells z.cells (d.toNat*b.size)).size=d.toNat*b.size:=by simp[madeCells]
       have s:=h.wr.newRow L (w':=w.alloc (.cells (madeCells z.cells (d.toNat*b.size)) g)) (ra:=b.size) (vc.scalars (la:=DP) (mu:=mu) (jT (n:=d.toNat) r)) (zH (jT r) λ_=>iA)
        (cs:=madeCells z.cells (d.toNat*b.size)) (e:=g) (λi y A=>by
         have x:i<d.toNat*b.size:=by
          rcases HG i (d.toNat*b.size)with h|h
          .exact h
          .rw[Hy (by rw[fJ];simp[p];exact h)]at A;cases A
         rw[lQ (n:=d.toNat) a_ (by rw[p]) i x];exact A) (by rw[fJ,m];simp[p]) rfl rfl rfl rfl
       refine⟨.value (.slice (some ⟨w.heap.size,0,none⟩) E.toNat d.toNat),_,_,_,by rw[J,I];simp[q],.inl rfl,?_,s.1,s.2.1,s.2.2⟩;have:=VR.A6 (la:=DP) (id:=g9.heap.length) (off:=0) (len:=E.toNat) (cap:=d.toNat) (cx:=d.toNat+1) (bN mu g9.heap.length ⟨w.heap.size,0,(madeCells z.cells (d.toNat*b.size)).size,b.size⟩)
        (by simp only[m];omega) a_ (.inr rfl)
       simpa using this
      .cases f
    .cases f
  .cases f
 .cases f
def Oa(pl:Nat->Option (Nat×Nat)):∀(e:List (Nat×Value)) (cs r:Tl),Instr.fill pl cs e=some r->r.size=cs.size:=by
 intro e
 induction e with
 |nil=>intro cs r h;simp[Instr.fill]at h;rw[h]
 |cons p e g=>
  intro cs r h;obtain⟨i,x⟩:=p;unfold Instr.fill at h;split at h
  .cases h
  .split at h
   .cases h
   .rw[g _ _ h];have:∀(l:List (Value×Nat)) (b:Tl) (d:Nat),(l.foldl (λ(b:Tl) (c,j)=>b.setIfInBounds (d+j) c) b).size=b.size:=by
     intro l
     induction l with
     |nil=>intro b d;rfl
     |cons y l f=>intro b d;rw[XR,f];simp
    rw[←qc8];exact this _ _ _
def Oc{f:TR->Bool}(off:Nat):∀(l:List (Value×Nat)) (b:Tl),b.toList.all f=true->(∀p∈l,f p.1=true)->
  (l.foldl (λ(b:Tl) (c,j)=>b.setIfInBounds (off+j) c) b).toList.all f=true:=by
 intro l
 induction l with
 |nil=>intro b h _;exact h
 |cons y l k=>
  intro b h e;rw[XR];refine k _ (A_.2 λx g=>?_) λp i=>e p (by simp[i]);simp only[Array.toList_setIfInBounds]at g;rcases kA g with d|d
  .exact A_.1 h x d
  .rw[d];exact e y c_
def QJ{f:TR->Bool}(pl:Nat->Option (Nat×Nat)):∀(c:List (Nat×Value)) (cs r:Tl),cs.toList.all f=true->(∀p∈c,p.2.cells.toList.all f=true)->Instr.fill pl cs c=some r->r.toList.all f=true:=by
 intro c
 induction c with
 |nil=>intro cs r h _ b;simp[Instr.fill]at b;subst b;exact h
 |cons p c n=>
  intro cs r h j b;obtain⟨i,x⟩:=p;unfold Instr.fill at b;split at b
  .cases b
  next g k m=>
   split at b
   .cases b
   .refine n _ r ?_ (λq d=>j q (by simp[d])) b;rw[←qc8,Array.toList_zipIdx];refine Oc g _ _ h λq d=>?_;have e:=List.mem_zipIdx d;exact A_.1 (j (i,x) c_) q.1 (by obtain⟨_,_,l⟩:=e;rw[l];exact List.getElem_mem _)
def rp(h:SR C base la mu g9 a.tmps w)(U:base<=w.heap.size){t:TP}{n:Nat}{q:List (Nat×Value)}{L:Array (Nat×Value)}{r:Nat×List Value}
  (V:Z_ la mu q L.toList) (F:∀p∈q,p.2.cells.toList.all bg=true) (d:fT C t n q=some r) :
  I6 C base mu g9.heap w (do pure (.value (←Instr.buildSlice t n L))) (g9.heap++[.cells r.2 r.1 true]) (.slice (some ⟨g9.heap.length,0,le r.1⟩) n (n+1)):=by
 unfold fT at d;split at d
 next c Q=>
  split at d
  next b s=>
   split at d
   .cases d
   next E=>
    split at d
    .cases d
    next N=>
     split at d
     next z j=>
      obtain⟨l,o,I,K⟩:=pF j
      first
      |skip
       have u:=rW I K;cases f:Instr.fill (λi=>some (i*b.size,b.size)) (aL z.cells.toList n).toArray q with
       |none=>rw[f]at d;cases d
       |some cs=>
        rw[f]at d;cases d;have H:vc la mu (aL z.cells.toList n) (aL z.cells.toList n):=vc.scalars (jT u);obtain⟨v,A,T⟩:=LJ (la:=la) (mu:=mu) _ q L.toList (aL z.cells.toList n).toArray (aL z.cells.toList n).toArray cs (by simpa using H) V f;have gG:cs.toList.all bg=true:=QJ _ q _ cs (by simpa using zH (jT u) λ_=>iA) F f;have k:v.size=n*b.size:=by
         rw[Oa _ _ _ _ A];simp[fJ,o]
        have O:¬b.size=0:=E;have g:((Array.range (n*b.size)).map (z.cells[· % z.cells.size]!))=(aL z.cells.toList n).toArray:=by
         apply qc7;intro i;rw[show((aL z.cells.toList n).toArray)[i]?=(aL z.cells.toList n)[i]? from by simp];by_cases D:i<n*b.size
         .exact lQ (z:=z.cells) (n:=n) (m:=n*b.size) a_ (by rw[o]) i D
         .rw[qcJ tt,Hy (by simp[fJ,o];omega)]
        have B:=h.wr.newRow U (w':=w.alloc (.cells v c)) (ra:=b.size) (T.Ja gG) gG (cs:=v) (e:=c) (λi y W=>by simpa using W) c_ rfl rfl rfl rfl;refine⟨.value (.slice (some ⟨w.heap.size,0,none⟩) n n),_,_,_,?_,.inl rfl,?_,B.1,B.2.1,B.2.2⟩
        .have x:¬(n*C.P.cellsOf c > 2 ^ 24):=by simp only[Program.cellsOf,s,FJ,U0];omega
         have e3:C.P.cellsOf c=b.size:=by simp[Program.cellsOf,s]
         have J:(zeroValue c).run C.P w = .ok z w:=by simp[zeroValue,typeInfo,s,l]
         rw[e3]at x;by_cases S:n=0
         .subst S;have G:∀M:Array Value,((Array.range (0*b.size)).map (M[· % M.size]!))=(aL z.cells.toList 0).toArray:=λM=>by
           rw[ZR];simp[aL]
          simp only[Instr.buildSlice,Sem.run_bind,run_underlying Q,Result.andThen_ok,bu s,e3,qs (ZR b.size),rv x,Sem.run_pure,G,A];simp[newRow]
         .have R:¬(n*b.size=0):=by
           simp only[Nat.mul_eq_zero];omega
          simp only[Instr.buildSlice,Sem.run_bind,run_underlying Q,Result.andThen_ok,bu s,e3,rv R,rv x,J,Sem.run_pure,g,A];simp[newRow]
        .have:=VR.A6 (la:=DP) (id:=g9.heap.length) (off:=0) (len:=n) (cap:=n) (cx:=n+1) (bN mu g9.heap.length ⟨w.heap.size,0,v.size,b.size⟩) (by simp only[k];omega) a_ (.inr rfl);simpa using this
     .cases d
  .cases d
 .cases d
def fw(Z:WR C base mu g9.heap w){x y:TR}{ra:Nat}{new:Tn}{n:Nat}(g:VR la mu x y)(f:cY C g9.heap ra x=some (new,n))(k:Nat)(w':TS)(V:w'.heap=w.heap) :
  ∃ys:List Value,(Builtin.lenOf y).run C.P w' = .ok n w'/\ys.length=n*ra/\vc DP mu new ys/\new.all bg=true/\
   (k<=n->(Builtin.firstCells ra k y).run C.P w' = .ok (ys.take (k*ra)).toArray w'):=by
 have i:∀ {t z:Tn} {c:Tl} {o r b m:Nat} {e:TP} {A:Nat×Nat},cF mu t c o->cut t r (m*ra)=some z->w.heap[b]?=some (.cells c e A)->t.all bg=true->
   ∃ys:List Value,ys.length=m*ra/\vc DP mu z ys/\z.all bg=true/\(k<=m->(loadCells ⟨b,o+r,none⟩ (k*ra)).run C.P w' = .ok (ys.take (k*ra)).toArray w'):=by
  intro t z c o r b m e A hR d O B;obtain⟨ys,g1,g2,g3⟩:=hR.cut d;refine⟨ys,g1,g2,?_,λT=>?_⟩
  .unfold Am.cut at d;split at d
   .cases d;exact A_.2 λx g=>A_.1 B x (lC (OO g))
   .cases d
  .have L:k*ra<=m*ra:=Pn _ T;have E:(ys.take (k*ra)).length=k*ra:=tt;have:=run_loadCells_list (P:=C.P) w' ⟨b,o+r,none⟩ (ys.take (k*ra)) λj v K=>by
    rw[bX];have D:w'.heap[b]?=some (.cells c e A):=by rw[V];exact O
    rw[tG D];refine g3 j v ?_;rw[o0]at K;split at K
    .exact K
    .cases K
   rw[E]at this;exact this
 unfold cY at f;split at f
 .cases f;have:=ch (a:=.slice none 0 0) rfl g;subst this;exact⟨[],by simp[Builtin.lenOf],c_,.nil,rfl,λu=>by simp[Builtin.firstCells]⟩
 next M J cx=>
  split at f
  next l=>
   cases N:C.G M.block with
   |none=>rw[N]at f;cases f
   |some t=>
    rw[N,Ex]at f;cases d:cut t M.off (J*ra)with
    |none=>rw[d]at f;cases f
    |some z=>
     rw[d]at f;cases f;obtain⟨ag,Q,c,e,A,R,S⟩:=Z.Fe _ _ N;obtain⟨ys,F,H,I,W⟩:=i S d R Q;cases g with
     |scalar h=>simp[Am.scalar]at h
     |A6 h U L g=>simp[le]at l
     |x_ g=>simp[le]at l
     |DN L g=>
      refine⟨ys,by simp[Builtin.lenOf],F,H,I,λu=>?_⟩;simpa[Builtin.firstCells]using W u
     |B3 g=>
      refine⟨ys,by simp[Builtin.lenOf],F,H,I,λu=>?_⟩;obtain rfl:k=0:=a_;simp[Builtin.firstCells,loadCells,loadCellsFrom]
  .split at f
   next l=>
    split at f
    next t e0 al i'=>
     split at f
     next X=>
      cases d:cut t M.off (J*ra)with
      |none=>rw[d]at f;cases f
      |some z=>
       rw[d]at f;cases f;obtain⟨q,Y,U⟩:=Z.obj _ _ i' rfl;obtain⟨o1,o2,o3,c,e,A,o4,o5,o6,o7⟩:=U;obtain⟨ys,F,H,I,W⟩:=i o7 d o4 o3;cases g with
       |scalar h=>simp[Am.scalar]at h
       | @A6 _ _ _ _ _ p h U L g=>
        obtain rfl:p=q:=by rw[h]at Y;exact EI Y
        refine⟨ys,by simp[Builtin.lenOf],F,H,I,λu=>?_⟩;simpa[Builtin.firstCells]using W u
       |x_ g=>
        refine⟨ys,by simp[Builtin.lenOf],F,H,I,λu=>?_⟩;obtain rfl:k=0:=a_;simp[Builtin.firstCells,loadCells,loadCellsFrom]
       |DN L g=>simp[le]at l
       |B3 g=>simp[le]at l
     .cases f
    .cases f
   .cases f
 next s=>
  split at f
  next X=>
   cases f;subst X;have:=ch (a:=.string s) rfl g;subst this;refine⟨s.data.toList.map λb=>.int .u8 b.toNat,by simp[Builtin.lenOf],by rw[GY,ZQ];rfl,vc.scalars ?_,?_,λu=>?_⟩
   .exact A_.2 λx g=>by obtain⟨b,_,rfl⟩:=DJ.1 g;rfl
   .exact A_.2 λx g=>by obtain⟨b,_,rfl⟩:=DJ.1 g;rfl
   .simp only[Builtin.firstCells,Sem.run_pure,ZQ]
    congr 1
    apply Array.ext';simp[ByteArray.data_extract,List.extract]
  .cases f
 .cases f
end
end
section
variable [DB] [Fc]
section
variable {C:m8} {base:Nat} {la:q_} {mu:ke} {g9:St} {a:Act} {w:TS}
def qx:TypeDesc->Bool
 | .int _=>true
 |_=>false
def bZ{t h ty e:TP}{i:TypeInfo}{d:TypeDesc}{c:Array TypeId}(h0:c[0]?=some t)(h1:c[1]?=some h)(q:C.P.underlying t=some (.slice e))(r:C.P.underlying h=some d)(j:qx d=false)
  (m:C.P.info? e=some i) {y:TR} {n sLen sCap:Nat} {ys:Tn} {b:Option Addr} (o:(Builtin.lenOf y).run C.P w = .ok n w) (l:(Builtin.firstCells i.size n y).run C.P w = .ok ys.toArray w) (p:sLen+n<=sCap) :
  (Builtin.append_ c ty #[.slice b sLen sCap,y]).run C.P w =
   match b with
   |none=>.ok (.slice none (sLen+n) sCap) w
   |some g=>((storeCells (g.add (sLen*i.size)) ys).run C.P w).andThen λ_ w'=>.ok (.slice (some g) (sLen+n) sCap) w':=by
 have f:∀k,d = .int k->False:=λk e=>by subst e;simp[qx]at j
 cases b<;>simp[Builtin.append_,h0,h1,run_underlying q,run_underlying r,sizeOf,typeInfo,m,o,l,p]
def rC{t m ty e:TP}{i:TypeInfo}{d:TypeDesc}{z:TR}{c:Array TypeId}(h0:c[0]?=some t)(h1:c[1]?=some m)(v:C.P.underlying t=some (.slice e))(x:C.P.underlying m=some d)(o:qx d=false)
  (q:C.P.info? e=some i) (A:i.zero=some z) {y:TR} {n sLen sCap:Nat} {olds ys:Tn} {b:Option Addr} (r:(Builtin.lenOf y).run C.P w = .ok n w) (p:(Builtin.firstCells i.size n y).run C.P w.drew = .ok ys.toArray w.drew)
  (u:(Builtin.firstCells i.size sLen (.slice b sLen sCap)).run C.P w.drew = .ok olds.toArray w.drew)
  (D:sCap<sLen+n) (h:bc (sLen+n) i.bytes=true) :
  (Builtin.append_ c ty #[.slice b sLen sCap,y]).run C.P w =
   .ok (.slice (some ⟨w.heap.size,0,none⟩) (sLen+n) (grownCap w (sLen+n) sCap e)) (w.drew.alloc (.cells ((olds++ys).toArray++Builtin.zeroCells z.cells (grownCap w (sLen+n) sCap e - (sLen+n))) e)):=by
 simp only[bc,te,IX]at h;have B:(sLen+n)*i.bytes<=140737488355328:=h.2;have l:=growslice_fits (old:=sCap) (need:=sLen+n) (bytes:=i.bytes) a_ a_;have s:¬(sLen+n<=sCap):=a_;have g:¬(9223372036854775807<((sLen:Int)+(n:Int))):=a_;have f:¬(281474976710656<Builtin.nextslicecap (sLen+n) sCap*i.bytes):=a_;have j:∀k,d = .int k->False:=λk e=>by subst e;simp[qx]at o
 simp[Builtin.append_,h0,h1,run_underlying v,run_underlying x,sizeOf,typeInfo,zeroValue,q,A,r,p,u,s,g,f,Question.forced,newRow,grownCap]
 congr 2
 apply Array.ext';simp
def uE{j7:Type}{l:List j7}{n m:Nat}{x:j7}(h:x∈(l.drop n).take m):x∈l:=lC (OO h)
def vd{f:TR->Bool}{vs xs:Tn}{off n:Nat}(b:cut vs off n=some xs)(h:vs.all f=true):xs.all f=true:=by
 unfold Am.cut at b;split at b
 .cases b;exact A_.2 λx c=>A_.1 h x (uE c)
 .cases b
def rQ{vs xs:Tn}{off n:Nat}(b:cut vs off n=some xs):xs.length=n/\off+n<=vs.length:=by
 unfold Am.cut at b;split at b
 .cases b;simp;omega
 .cases b
def Xj{vs old:Tn}{p:Pl}{off len ra sCap:Nat}{c:Tl}{e:TP}{fr:Nat×Nat}(l:cF mu vs c p.o)(d:cut vs off (len*ra)=some old)(f:w.heap[p.b]?=some (.cells c e fr))(w':TS)(g:w'.heap=w.heap) :
  ∃os:List Value,os.length=len*ra/\vc DP mu old os/\(Builtin.firstCells ra len (.slice (some ⟨p.b,p.o+off,none⟩) len sCap)).run C.P w' = .ok os.toArray w'/\∀(j:Nat) y,os[j]?=some y->c[p.o+off+j]?=some y:=by
 obtain⟨os,h,k,i⟩:=l.cut d;refine⟨os,h,k,?_,i⟩;have:=run_loadCells_list (P:=C.P) w' ⟨p.b,p.o+off,none⟩ os λj v m=>by
  rw[bX,tG (by rw[g];exact f)];exact i j v m
 rw[h]at this;simpa[Builtin.firstCells]using this
def yn(H:WR C base mu g9.heap w)(v:base<=w.heap.size){t u ty e:TP}{i:TypeInfo}{d:TypeDesc}{z:TR}{c:Array TypeId}(h0:c[0]?=some t)(h1:c[1]?=some u)(G:C.P.underlying t=some (.slice e))(I:C.P.underlying u=some d)(x:qx d=false)
  (B:C.P.info? e=some i) (J:i.zero=some z) (q:z.cells.size=i.size) {y:TR} {n sLen sCap:Nat} {old new olds ys:Tn} {b:Option Addr} (D:(Builtin.lenOf y).run C.P w = .ok n w) (A:(Builtin.firstCells i.size n y).run C.P w.drew = .ok ys.toArray w.drew)
  (E:(Builtin.firstCells i.size sLen (.slice b sLen sCap)).run C.P w.drew = .ok olds.toArray w.drew) (F:sCap<sLen+n) (p:bc (sLen+n) i.bytes=true)
  (M:vc DP mu old olds) (N:vc DP mu new ys) (K:olds.length=sLen*i.size) (L:ys.length=n*i.size) (r:old.all bg=true) (s:new.all bg=true) :
  I6 C base mu g9.heap w (do pure (.value (←Builtin.append_ c ty #[.slice b sLen sCap,y]))) (g9.heap++[.cells (old++new) i.size true]) (.slice (some ⟨g9.heap.length,0,le i.size⟩) (sLen+n) 0):=by
 have f:=rC (ty:=ty) h0 h1 G I x B J D A E F p;have l:=grownCap_ge w (sLen+n) sCap e;have k:((olds++ys).toArray++Builtin.zeroCells z.cells (grownCap w (sLen+n) sCap e - (sLen+n))).size=grownCap w (sLen+n) sCap e*i.size:=by
  simp[size_zeroCells,K,L,q];rw[←KJ,←KJ]
  congr 1;omega
 have g:=(H.drew (w.drawn+1)).newRow (C:=C) v (w':=w.drew.alloc (.cells ((olds++ys).toArray++Builtin.zeroCells z.cells (grownCap w (sLen+n) sCap e - (sLen+n))) e)) (ra:=i.size) (M.append N) (by simp[r,s]) (e:=e)
  (λj y m=>by
   have o:j<(olds++ys).length:=by
    rcases HG j (olds++ys).length with h|h
    .exact h
    .rw[Hy h]at m;cases m
   rw[qc4 (by simpa using o)];simpa using m) c_ rfl rfl rfl rfl
 refine⟨.value (.slice (some ⟨w.heap.size,0,none⟩) (sLen+n) (grownCap w (sLen+n) sCap e)),_,_,_,by simp[f],.inl rfl,?_,g.1,(Fv.refl g9.heap mu w).drew (w.drawn+1) (Nat.le_succ _) |>.trans g.2.1,g.2.2⟩;have:=VR.A6 (la:=DP) (id:=g9.heap.length) (off:=0) (len:=sLen+n) (cap:=grownCap w (sLen+n) sCap e) (cx:=0) (bN mu g9.heap.length ⟨w.heap.size,0,_,i.size⟩) (by rw[F9];exact Nat.le_of_eq k.symm) l (.inl rfl);exact this
def BN(h:SR C base la mu g9 a.tmps w)(hb:base<=w.heap.size){t xT ty:TP}{d:TypeDesc}{Q:Array TypeId}{s x:TL}{H':Tu}{v:TR}(h0:Q[0]?=some t)(h1:Q[1]?=some xT)(S:C.P.underlying xT=some d)(W:qx d=false)
  (m:gK C t (jn g9.tmps s) (jn g9.tmps x) g9.heap=some (H',v)):I6 C base mu g9.heap w (do pure (.value (←Builtin.append_ Q ty #[a.eval s,a.eval x]))) H' v:=by
 have hs:=aJ h s;have a8:=aJ h x;unfold gK at m;split at m
 next b0 Y=>
  split at m
  .cases m
  next f X=>
   split at m
   .cases m
   next b1=>
    split at m
    .cases m
    next bP=>
     obtain⟨z,bC⟩ : ∃z,mt f=some z:=by
      cases a9:mt f with
      |none=>simp[a9]at bP
      |some z=>exact⟨z,rfl⟩
     obtain⟨hz,a3,_,_⟩:=pF bC;split at m
     .cases m
     next L n a4=>
      obtain⟨ys,T,c2,c3,c4,c5⟩:=fw h.wr a8 a4 n w rfl;obtain⟨b7,b2,av,ax,ay,be⟩:=fw h.wr a8 a4 n w.drew rfl;have F:=c5 (B8 _);have N:=be (B8 _);rw[IW a_]at F N;split at m
      · -- nil
       rename_i a0
       rw[a0]at hs;have K:=ch (a:=.slice none 0 0) rfl hs;rw[K];split at m
       next G=>
        cases m;subst G;have g:=bZ (ty:=ty) (b:=none) (sLen:=0) (sCap:=0) h0 h1 Y S W X T F a_;exact⟨.value (.slice none 0 0),_,w,mu,by simpa using congrArg (λr:Result Value=>r.andThen λv w=>.ok (Next.value v) w) g,.inl rfl,.scalar rfl,h.wr,.refl _ _ _,h.wr.obj⟩
       next G=>
        split at m
        next y=>
         cases m;have:=yn (ty:=ty) (b:=none) (sLen:=0) (sCap:=0) (old:=[]) (olds:=[]) h.wr hb h0 h1 Y S W X hz a3 T N (by simp[Builtin.firstCells]) a_ (by simpa using y) .nil ax c_ av rfl ay;simpa using this
        .cases m
      next u len cx a0=>
       rw[a0]at hs;split at m
       .cases m
       next H=>
        simp only[ne_eq,Classical.not_not]at H;split at m
        next vs e0 b6 i'=>
         split at m
         .cases m
         next a5=>
          simp only[ne_eq,Classical.not_not]at a5;subst a5;split at m
          .cases m
          next old E=>
           obtain⟨q,hq,hr⟩:=h.wr.obj _ _ i' rfl;obtain⟨o1,o2,o3,c,e,fr,o4,o5,o6,o7⟩:=hr;have K:(∃cap,a.eval s = .slice (some ⟨q.b,q.o+u.off,none⟩) len cap/\u.off+cap*f.size<=q.room/\len<=cap/\(cx=0∨cx=cap+1))∨(∃Z,a.eval s = .slice (some Z) 0 0/\len=0/\cx<=1):=by
            clear m;generalize a.eval s=sv at hs;cases hs with
            |scalar h=>simp[Am.scalar]at h
            | @A6 _ _ _ cap _ p hm hr hl a2=>
             obtain rfl:p=q:=by rw[hm]at hq;exact EI hq
             rw[o1]at hr;exact .inl ⟨cap,rfl,hr,hl,a2⟩
            |x_ a2=>exact .inr ⟨_,rfl,rfl,a2⟩
            |DN hl S=>simp[le]at H
            |B3 S=>simp[le]at H
           have M:∀A,(∃b,a.eval s = .slice b len A/\(b=some ⟨q.b,q.o+u.off,none⟩∨len=0))->A<len+n->bc (len+n) f.bytes=true->
             I6 C base mu g9.heap w (do pure (.value (←Builtin.append_ Q ty #[a.eval s,a.eval x]))) (g9.heap++[.cells (old++L) f.size true]) (.slice (some ⟨g9.heap.length,0,le f.size⟩) (len+n) 0):=by
            rintro A ⟨b,l,bm⟩ R y;rw[l];rcases bm with rfl|rfl
            .obtain⟨os,g1,g2,g3,_⟩:=Xj (C:=C) (sCap:=A) o7 E o4 w.drew rfl;exact yn (ty:=ty) h.wr hb h0 h1 Y S W X hz a3 T N g3 R y g2 ax g1 av (vd E o3) ay
            .have ho:old=[]:=by
              have:=(rQ E).1;simp at this;exact this
             subst ho;exact yn (ty:=ty) (olds:=[]) h.wr hb h0 h1 Y S W X hz a3 T N (by cases b<;>simp[Builtin.firstCells,loadCells,loadCellsFrom]) R y .nil ax c_ av rfl ay
           split at m
           · -- the capacity is not known
            split at m
            next G=>
             cases m;subst G;have I:ys=[]:=by have:=c2;simp at this;exact this
             subst I;rcases K with⟨cap,l,B,ag,_⟩|⟨Z,l,rfl,_⟩
             .have g:=bZ (ty:=ty) (b:=some ⟨q.b,q.o+u.off,none⟩) (sLen:=len) (sCap:=cap) h0 h1 Y S W X T F a_;refine⟨.value (a.eval s),a.eval s,w,mu,?_,.inl rfl,(gh (by simp[bj,H,le]) hs),h.wr,.refl _ _ _,h.wr.obj⟩;rw[l];simp[g,storeCells]
             .have g:=bZ (ty:=ty) (b:=some Z) (sLen:=0) (sCap:=0) h0 h1 Y S W X T F a_;refine⟨.value (a.eval s),a.eval s,w,mu,?_,.inl rfl,(gh (by simp[bj,H,le]) hs),h.wr,.refl _ _ _,h.wr.obj⟩;rw[l];simp[g,storeCells]
            next G=>
             split at m
             next y=>
              cases m;simp only[te]at y;obtain⟨aE,y⟩:=y;subst aE;obtain rfl:=o6 rfl;have O:u.block<g9.heap.length:=by
               rcases HG u.block g9.heap.length with h|h
               .exact h
               .rw[Hy h]at i';cases i'
              have an:I6 C base mu g9.heap w (do pure (.value (←Builtin.append_ Q ty #[a.eval s,a.eval x]))) (g9.heap++[.cells (old++L) f.size true]) (.slice (some ⟨g9.heap.length,0,le f.size⟩) (len+n) 0)->
                I6 C base mu g9.heap w (do pure (.value (←Builtin.append_ Q ty #[a.eval s,a.eval x]))) (g9.heap.set u.block .dead++[.cells (old++L) f.size true]) (.slice (some ⟨g9.heap.length,0,le f.size⟩) (len+n) 0):=by
               rintro⟨nx,v',w',bb,g1,g2,g3,g4,g5,g6⟩;have a6:bb u.block=some q:=by rw[g5.same _ O];exact hq
               have ap:(g9.heap++[.cells (old++L) f.size true])[u.block]?=some (.cells vs f.size true):=by rw[H3 O];exact i'
               have R:=g4.lt ap rfl a6;obtain⟨x0,bx⟩ : ∃x0,w'.heap[q.b]?=some x0:=⟨w'.heap[q.b],by simp[R]⟩;have a1:w'.heap.setIfInBounds q.b x0=w'.heap:=by
                apply qc7;intro k;by_cases hk:k=q.b
                .subst hk;rw[bx];simp[R]
                .rw[qbI (Ej hk)]
               obtain⟨k1,k2⟩:=g4.set ap rfl a6 (w':=w') (x:=x0) a1.symm rfl rfl rfl .dead (λh=>by cases h) trivial;rw[qcZ _ _ O]at k1 k2;refine⟨nx,v',w',bb,g1,g2,g3,k1,g5.trans k2,λj oj hj ha=>?_⟩;rw[←qcZ _ _ O]at hj;rcases DH hj with⟨_,hj⟩|⟨_,_,rfl⟩
               .exact g6 j oj hj ha
               .cases ha
              rcases K with⟨cap,l,B,ag,_⟩|⟨Z,l,rfl,_⟩
              .by_cases J:len+n<=cap
               · -- in place
                have bk:q.o+u.off+len*f.size+ys.length<=c.size:=by
                 have:(len+n)*f.size<=cap*f.size:=Pn _ J;rw[KJ]at this;omega
                have al:=cZ (C:=C) (at_:=q.o+u.off+len*f.size) (ys:=ys) o4 bk (fB c3 c4);have g:=bZ (ty:=ty) (b:=some ⟨q.b,q.o+u.off,none⟩) (sLen:=len) (sCap:=cap) h0 h1 Y S W X T F J;simp only[bX]at g;rw[al]at g;have hM:=h.wr.move i' rfl hq (w':=w.setRow q.b (A8 c (q.o+u.off+len*f.size) ys)) (kF o4) rfl rfl rfl (.cells (old++L) f.size true) ⟨q.b,q.o+u.off,q.room - u.off,f.size⟩ rfl (by
                 have b5:=rQ E;have b4:=c3.1;refine⟨rfl,by simp only[HY];omega,by simp[vd E o3,c4],_,e,_,rfl,by rw[iu a_];simp only;omega,λ_=>rfl,λi v hv=>?_⟩;obtain⟨os,k1,k2,k3⟩:=cF.cut o7 E;simp only;rw[ob a_];by_cases bn:i<old.length
                 .rw[H3 bn]at hv;obtain⟨v',m1,m2⟩:=k2.get hv;rw[rv a_];exact⟨v',k3 i v' m1,m2⟩
                 .rw[Iz a_]at hv;obtain⟨v',m1,m2⟩:=c3.get hv;have b3:i - old.length<ys.length:=by
                   rcases HG (i - old.length) ys.length with h|h
                   .exact h
                   .rw[Hy h]at m1;cases m1
                  rw[qs a_];exact⟨v',by rw[show q.o+u.off+i - (q.o+u.off+len*f.size)=i - old.length by omega];exact m1,m2⟩) (λ_=>rfl)
                refine⟨.value (.slice (some ⟨q.b,q.o+u.off,none⟩) (len+n) cap),_,_,_,by rw[l];simp[g],.inl rfl,?_,hM.1,hM.2.1,hM.2.2⟩;have:=VR.A6 (la:=DP) (id:=g9.heap.length) (off:=0) (len:=len+n) (cap:=cap) (cx:=0) (bN mu g9.heap.length ⟨q.b,q.o+u.off,q.room - u.off,f.size⟩) (by simp only;omega) J (.inl rfl);simpa using this
               .exact an (M cap ⟨_,l,.inl rfl⟩ a_ y)
              .exact an (M 0 ⟨_,l,.inr rfl⟩ a_ y)
             .cases m
           · -- the capacity is known
            rename_i A
            split at m
            next J=>
             split at m
             next aE=>
              subst aE;obtain rfl:=o6 rfl;cases D:qa vs (u.off+len*f.size) L with
              |none=>rw[D]at m;cases m
              |some bd=>
               rw[D]at m;cases m;obtain⟨c',e',g1,g2,g3,g4⟩:=h.wr.qa i' hq D c3 c4;obtain⟨rfl,rfl⟩ : c=c'/\e=e':=by
                rw[g1]at o4;simp only[G_,Obj.cells.injEq]at o4;exact⟨o4.1.symm,o4.2.1.symm⟩
               rcases K with⟨cap,l,B,ag,V⟩|⟨Z,l,rfl,V⟩
               .have U:cap=A:=a_;subst U;have al:=cZ (C:=C) (at_:=q.o+(u.off+len*f.size)) (ys:=ys) g1 g2 (fB c3 c4);have g:=bZ (ty:=ty) (b:=some ⟨q.b,q.o+u.off,none⟩) (sLen:=len) (sCap:=cap) h0 h1 Y S W X T F J;simp only[bX,SB]at g al;rw[al]at g;refine⟨.value (.slice (some ⟨q.b,q.o+u.off,none⟩) (len+n) cap),_,_,mu,by rw[l];simp[g],.inl rfl,?_,g3,g4,g3.obj⟩;obtain⟨bl,of,sp⟩:=u;simp only at H;subst H;rw[←o1];exact .A6 hq (by rw[o1];exact B) J (.inr rfl)
               .have U:A=0:=a_;subst U;have G:n=0:=a_;subst G;have I:ys=[]:=by have:=c2;simp at this;exact this
                subst I;have bs:L=[]:=by have:=c3.1;simp at this;exact this
                subst bs;have g:=bZ (ty:=ty) (b:=some Z) (sLen:=0) (sCap:=0) h0 h1 Y S W X T F a_;have bt:bd=vs:=by
                 unfold Am.qa at D;split at D
                 .cases D;simp
                 .cases D
                subst bt;have a7:g9.heap.set u.block (.cells bd f.size true)=g9.heap:=by
                 apply Ib;intro k;rw[HZ];split
                 .rename_i hk;subst hk
                  split
                  .rw[i']
                  next R=>rw[Hy a_]
                 .rfl
                rw[a7];refine⟨.value (a.eval s),a.eval s,w,mu,?_,.inl rfl,(gh (by simp[bj,H,le]) (by simpa using hs)),h.wr,.refl _ _ _,h.wr.obj⟩;rw[l];simp[g,storeCells]
             .split at m
              next G=>
               cases m;subst G;have I:ys=[]:=by have:=c2;simp at this;exact this
               subst I;refine⟨.value (a.eval s),a.eval s,w,mu,?_,.inl rfl,(gh (by simp[bj,H,le]) (by simpa using hs)),h.wr,.refl _ _ _,h.wr.obj⟩;rcases K with⟨cap,l,B,ag,V⟩|⟨Z,l,rfl,V⟩
               .have g:=bZ (ty:=ty) (b:=some ⟨q.b,q.o+u.off,none⟩) (sLen:=len) (sCap:=cap) h0 h1 Y S W X T F a_;rw[l];simp[g,storeCells]
               .have g:=bZ (ty:=ty) (b:=some Z) (sLen:=0) (sCap:=0) h0 h1 Y S W X T F a_;rw[l];simp[g,storeCells]
              .cases m
            next J=>
             split at m
             next y=>
              cases m;rcases K with⟨cap,l,B,ag,V⟩|⟨Z,l,rfl,V⟩
              .exact M cap ⟨_,l,.inl rfl⟩ a_ y
              .exact M 0 ⟨_,l,.inr rfl⟩ a_ y
             .cases m
        .cases m
      .cases m
 .cases m
end
end
section
variable [DB] [Fc]
section
variable {C:m8} {base:Nat} {la:q_} {mu:ke} {g9:St} {a:Act} {w:TS}
def Qi(h:SR C base la mu g9 a.tmps w){t ty:TP}{F:Array TypeId}{d x:TL}{H':Tu}{v:TR}(h0:F[0]?=some t)
  (j:pQ C t (jn g9.tmps d) (jn g9.tmps x) g9.heap=some (H',v)):I6 C base mu g9.heap w (do pure (.value (←Builtin.copy_ F ty #[a.eval d,a.eval x]))) H' v:=by
 have H:=aJ h d;have Q:=aJ h x;unfold pQ at j;split at j
 next l O u=>
  rw[u]at H;have z:=ch (a:=.slice none 0 0) rfl H;split at j
  .cases j
  next D=>
   obtain⟨i,N⟩:=dO D;cases r:cY C g9.heap (C.P.cellsOf l) (jn g9.tmps x)with
   |none=>rw[r]at j;cases j
   |some p=>
    rw[r]at j;cases j;obtain⟨E,n⟩:=p;obtain⟨ys,M,c2,R,Y,S⟩:=fw h.wr Q r 0 w rfl;have m:=S a_;refine⟨.value (.int .i64 0),_,w,mu,?_,.inl rfl,.scalar rfl,h.wr,.refl _ _ _,h.wr.obj⟩;simp at m;simp[Builtin.copy_,h0,run_underlying O,z,M,bu N,m,goInt]
 next l L g cx O u=>
  rw[u]at H;split at j
  .cases j
  next D=>
   obtain⟨i,N⟩:=dO D;split at j
   .cases j
   next B=>
    simp only[ne_eq,Classical.not_not]at B;split at j
    next E n vs ag r i'=>
     split at j
     .cases j
     next he=>
      simp only[ne_eq,Classical.not_not]at he;subst he;obtain⟨ys,M,c2,R,Y,S⟩:=fw h.wr Q r (Nat.min n g) w rfl;have m:=S (Nat.min_le_left _ _);cases f:qa vs L.off (E.take (Nat.min n g*C.P.cellsOf l))with
      |none=>rw[f]at j;cases j
      |some K=>
       rw[f]at j;cases j;obtain⟨q,T,hr⟩:=h.wr.obj _ _ i' rfl;have an:=hr.1;have G:(E.take (Nat.min n g*C.P.cellsOf l)).all bg=true:=A_.2 λy hy=>A_.1 Y y (OO hy);obtain⟨c,e,g1,g2,Z,g4⟩:=h.wr.qa i' T f (R.take _) G;have z:(∃s,a.eval d = .slice (some ⟨q.b,q.o+L.off,none⟩) g s)∨(∃X,a.eval d = .slice (some X) 0 0/\g=0):=by
        generalize a.eval d=sv at H;cases H with
        |scalar h=>simp[Am.scalar]at h
        | @A6 _ _ _ s _ p hm hr hl W=>
         obtain rfl:p=q:=by rw[hm]at T;exact EI T
         exact .inl ⟨s,rfl⟩
        |x_ W=>exact .inr ⟨_,rfl,rfl⟩
        |DN hl Q=>simp[le]at B
        |B3 Q=>simp[le]at B
       rcases z with⟨s,A⟩|⟨X,A,rfl⟩
       .have U:=cZ (C:=C) (at_:=q.o+L.off) (ys:=ys.take (Nat.min n g*C.P.cellsOf l)) g1 g2 (fB (R.take _) G);refine⟨.value (.int .i64 (Nat.min n g)),_,_,mu,?_,.inl rfl,.scalar rfl,Z,g4,Z.obj⟩;rw[A];simp[Builtin.copy_,h0,run_underlying O,M,bu N,m,U,goInt]
       .have I:Nat.min n 0=0:=qdr (D6 _);rw[I]at f m ⊢;simp at f m;have V:K=vs:=by
         unfold Am.qa at f;split at f
         .cases f;simp
         .cases f
        subst V;have J:g9.heap.set L.block (.cells K (C.P.cellsOf l) true)=g9.heap:=by
         apply Ib;intro k;rw[HZ];split
         .rename_i hk;subst hk
          split
          .rw[i']
          next al=>rw[Hy a_]
         .rfl
        rw[J];refine⟨.value (.int .i64 0),_,w,mu,?_,.inl rfl,.scalar rfl,h.wr,.refl _ _ _,h.wr.obj⟩;rw[A];simp[Builtin.copy_,h0,run_underlying O,M,bu N,m,storeCells,goInt]
    .cases j
 .cases j
def NP(h:SR C base la mu g9 a.tmps w){t ty:TP}{b:Array TypeId}{x:TL}{H':Tu}{v:TR}(h0:b[0]?=some t)
  (c:vI C t (jn g9.tmps x) g9.heap=some (H',v)):I6 C base mu g9.heap w (do pure (.value (←Builtin.clear_ b ty #[a.eval x]))) H' v:=by
 cases c
def qZ(o:WR C base mu g9.heap w){t:TP}{e:Addr}{y v:TR}{g f i c b d:Tk}{H:Tu}(n:e.spot=some 1∨H=g9.heap)(j:mn C t e g f i H=some v)(h:VR la mu (.pointer (some e)) y)
  (l:GP la mu g c) (k:GP la mu f b) (m:GP la mu i d):∃v',(Instr.sliceAt t y c b d).run C.P w = .ok v' w/\VR la mu v v':=by
 cases j
def pv{j7 c:Type}{P:TI}{x:Sem j7}{f:j7->Sem c}{b:c}(h:DW P (x >>= f)=some b):∃a,DW P x=some a/\DW P (f a)=some b:=by
 induction x with
 |pure a=>exact⟨a,rfl,h⟩
 |program k d=>exact d P h
 |_=>cases h
def ji{P:TI}{kt:TP}{k:TR}:∀(g c:Tj) (i:Nat) (r:Option (Nat×Value)),g.map (·.key)=c.map (·.key)->DW P (Instr.findAsking kt k g i)=some r->
  (∀w,(Instr.findAsking kt k c i).run P w = .ok (r.map λp=>(p.1,(c.getD (p.1 - i) default).val)) w)/\∀p,r=some p->i<=p.1/\p.1<i+g.length
 | [],c,i,r,d,h=>by
  have:c=[]:=by cases c<;>simp_all
  subst this;simp[Instr.findAsking,DW,Pure.pure]at h;subst h;exact⟨λw=>by simp[Instr.findAsking],λp j=>by cases j⟩
 |e :: g,c,i,r,d,h=>by
  cases c with
  |nil=>simp at d
  |cons f c=>
   simp only[EN,IU]at d;unfold Instr.findAsking at h;obtain⟨b,n,l⟩:=pv h;cases b with
   |true=>
    simp[DW,Pure.pure]at l;subst l;refine⟨λw=>?_,λp j=>by cases j;simp⟩;have:=iq n w;rw[d.1]at this;simp[Instr.findAsking,this]
   |false=>
    simp only[Fh,if_false]at l;obtain⟨q,m⟩:=ji g c (i+1) r d.2 l;refine⟨λw=>?_,λp j=>by have:=m p j;simp;omega⟩;have:=iq n w;rw[d.1]at this;have o:(Instr.findAsking kt k (f :: c) i).run P w=(Instr.findAsking kt k c (i+1)).run P w:=by
     simp[Instr.findAsking,this]
    rw[o,q w];cases r with
    |none=>rfl
    |some p=>
     have:=(m p rfl).1;simp only[FJ];rw[show p.1 - i=(p.1 - (i+1))+1 by omega];rfl
def jl{kind:TypeDesc}{k:TR}:∀(d c:Tj) (i:Nat),d.map (·.key)=c.map (·.key)->
  Instr.findNow kind k c i=(Instr.findNow kind k d i).map λr=>r.map λp=>(p.1,(c.getD (p.1 - i) default).val)
 | [],c,i,g=>by
  have:c=[]:=by cases c<;>simp_all
  subst this;rfl
 |e :: d,c,i,g=>by
  cases c with
  |nil=>simp at g
  |cons f c=>
   simp only[EN,IU]at g;unfold Instr.findNow;rw[g.1];cases q:Instr.sameNow kind k f.key with
   |none=>rfl
   |some b=>
    cases b with
    |true=>simp
    |false=>
     simp only;rw[jl d c (i+1) g.2];have m:∀(l:Tj) (j:Nat) (p:Nat×Value),Instr.findNow kind k l j=some (some p)->j<=p.1:=by
      intro l
      induction l with
      |nil=>intro j p h;simp[Instr.findNow]at h
      |cons x l o=>
       intro j p h;unfold Instr.findNow at h;split at h
       .cases h;exact B8 _
       .have:=o (j+1) p h;omega
       .cases h
     cases n:Instr.findNow kind k d (i+1)with
     |none=>rfl
     |some r=>
      cases r with
      |none=>rfl
      |some p=>
       have:=m _ _ _ n;simp only[FJ];rw[show p.1 - i=(p.1 - (i+1))+1 by omega];rfl
def rU{kind:TypeDesc}{k:TR}:∀(b:Tj) (i:Nat) (p:Nat×Value),Instr.findNow kind k b i=some (some p)->i<=p.1/\p.1<i+b.length
 | [],i,p,h=>by simp[Instr.findNow]at h
 |e :: b,i,p,h=>by
  unfold Instr.findNow at h;split at h
  .cases h;simp
  .have:=rU b (i+1) p h;simp;omega
  .cases h
def oO{kt:TP}{k:TR}{c:Tj}{e:Tj}{r:Ts}(u:c.map (·.key)=e.map (·.key))(h:tZ C.P kt k c=some r) :
  (∀w,(Instr.findKey kt k e).run C.P w = .ok (r.map λi=>(i,(e.getD i default).val)) w)/\∀i,r=some i->i<c.length:=by
 unfold tZ at h;have f:(c.map bI).map (·.key)=e.map (·.key):=by rw[Pj,←u];rfl
 cases m:DW C.P (Instr.findKey kt k (c.map bI))with
 |none=>rw[m]at h;cases h
 |some n=>
  rw[m]at h;cases h;unfold Instr.findKey at m;obtain⟨d,o,g⟩:=pv m;cases l:Instr.findNow d k (c.map bI) 0 with
  |none=>
   rw[l]at g;simp only at g;obtain⟨s,t⟩:=ji (c.map bI) e 0 n f g;refine⟨λw=>?_,λi j=>?_⟩
   .have b:=jl (kind:=d) (k:=k) (c.map bI) e 0 f;rw[l]at b;simp only[Instr.findKey,Sem.run_bind,iq o w,Result.andThen_ok,b,Option.map_none,s w];cases n<;>simp
   .cases n with
    |none=>cases j
    |some p=>
     cases j;have:=(t p rfl).2;simpa using this
  |some q=>
   rw[l]at g;simp[DW,Pure.pure]at g;subst g;refine⟨λw=>?_,λi j=>?_⟩
   .have b:=jl (kind:=d) (k:=k) (c.map bI) e 0 f;rw[l]at b;simp only[Instr.findKey,Sem.run_bind,iq o w,Result.andThen_ok,b,FJ,Sem.run_pure];cases q<;>simp
   .cases q with
    |none=>cases j
    |some p=>
     cases j;have:=(rU _ _ _ l).2;simpa using this
def yq(m:WR C base mu g9.heap w){id:Nat}{f:Tj}{c:Nat}(h:EE g9.heap id=some (f,c)){p:Pl}(k:mu id=some p) :
  ∃d,w.heap[p.b]?=some (.map d c)/\d.size=f.length/\∀(i:Nat) e,f[i]?=some e->∃e',d[i]?=some e'/\gF mu e e':=by
 unfold EE at h;split at h
 next j n i'=>
  cases h;obtain⟨q,g,l⟩:=m.obj id _ i' rfl;obtain rfl:p=q:=by rw[k]at g;exact EI g
  exact l
 .cases h
def QW{id:Nat}{b:Tj}{c:Nat}(h:EE g9.heap id=some (b,c)):g9.heap[id]?=some (.map b c):=by
 unfold EE at h;split at h
 next d e i'=>cases h;exact i'
 .cases h
def AA{c:Tj}{b:Array MapEntry}(j:b.size=c.length)(h:∀(i:Nat) e,c[i]?=some e->∃e',b[i]?=some e'/\gF mu e e'):c.map (·.key)=b.toList.map (·.key):=by
 apply Ib;intro i;rw[FM,FM];cases d:c[i]? with
 |none=>
  have:b.toList[i]?=none:=by
   rw[List.getElem?_eq_none_iff]at d ⊢;simp only[Array.length_toList];omega
  rw[this,Option.map_none]
 |some e=>
  obtain⟨e',f,g⟩:=h i e d;rw[show b.toList[i]?=some e' by simpa using f];simp[g.1]
def fh{kt:TP}{k:TR}(h:jW C.P kt k=true)(b:Bool)(w:TS):(Instr.checkKey b 10000 kt k).run C.P w = .ok () w:=by
 simp only[jW,te]at h;cases b with
 |true=>
  obtain⟨u,c⟩:=xT.1 h.1.1.2;exact iq c w
 |false=>
  obtain⟨u,c⟩:=xT.1 h.1.2;exact iq c w
def ox{kt:TP}{k:TR}(h:jW C.P kt k=true):∃d,C.P.underlying kt=some d:=by
 simp only[jW,te]at h;obtain⟨u,i⟩:=xT.1 h.1.2;have b:DW C.P (Instr.checkKey false (9999+1) kt k)=some u:=i;unfold Instr.checkKey at b;obtain⟨d,c,_⟩:=pv b;cases g:C.P.underlying kt with
 |some d=>exact⟨d,rfl⟩
 |none=>
  unfold underlying at c;obtain⟨p,e,f⟩:=pv c;have:p=C.P:=by simp[DW,program]at e;exact e.symm
  subst this;rw[g]at f;cases f
def jI{kt:TP}{k:TR}(h:jW C.P kt k=true):gL k=true:=by
 simp only[jW,te]at h;exact h.1.1.1
def cD{r:Nat}{b:Array MapEntry}{c:Nat}(h:w.heap[r]?=some (.map b c)):(getObj r).run C.P w = .ok (.map b c) w:=by
 simp[getObj,Sem.run,h]
def kz{r:Nat}{b:Array MapEntry}{c:Nat}{o:Obj}(h:w.heap[r]?=some (.map b c)):(setObj r o).run C.P w = .ok () { w with heap:=w.heap.setIfInBounds r o }:=by
 simp[setObj,Sem.run,h]
def VR.It{id:Nat}{c:TR}(h:VR la mu (.map (some id)) c):∃p,mu id=some p/\c = .map (some p.b):=by
 cases h with
 |scalar h=>simp[Am.scalar]at h
 |map h=>exact⟨_,h,rfl⟩
def BL{t:TP}{z:TR}(h:ft C.P t=some z)(w:TS):(zeroValue t).run C.P w = .ok z w:=by
 obtain⟨i,b,c,_⟩:=lm h;simp[zeroValue,typeInfo,b,c]
def sn(Q:WR C base mu g9.heap w){t:TP}{m J k I v:TR}{ok:Bool}{H:Tu}(M:m = .map none∨H=g9.heap)(F:VR la mu m J)(N:VR la mu k I)(d:dY C t m k ok H=some v) :
  ∃v',(Instr.lookup t J I ok).run C.P w = .ok v' w/\VR la mu v v':=by
 unfold dY at d;split at d
 next T S j=>
  split at d
  .cases d
  next b=>
   simp only[Hz,qcF]at b;obtain rfl:=oQ (jI b) N;split at d
   .cases d
   next z G=>
    have h:=BL G w;have g:=(rj G).2.1;obtain⟨R,o⟩:=ox b;split at d
    .obtain rfl:=ch (a:=.map none) rfl F;cases d;cases ok with
     |true=>
      refine⟨.tuple #[z,.bool false],?_,vc.tuple (.cons (.of_flat g) (.cons (.scalar rfl) .nil))⟩;simp[Instr.lookup,run_underlying j,fh b,Instr.findKey,run_underlying o,Instr.findNow,h]
     |false=>
      refine⟨z,?_,.of_flat g⟩;simp[Instr.lookup,run_underlying j,fh b,Instr.findKey,run_underlying o,Instr.findNow,h]
    next id=>
     have y:H=g9.heap:=M.resolve_left c_;subst y;obtain⟨p,O,rfl⟩:=F.It;split at d
     .cases d
     next x c EE=>
      obtain⟨l,u,K,D⟩:=yq Q EE O;have f:=AA K D;split at d
      .cases d
      next e=>
       obtain⟨n,B⟩:=oO (C:=C) f e;cases d;cases ok with
       |true=>
        refine⟨.tuple #[z,.bool false],?_,vc.tuple (.cons (.of_flat g) (.cons (.scalar rfl) .nil))⟩;simp[Instr.lookup,run_underlying j,cD u,fh b,n w,h]
       |false=>
        refine⟨z,?_,.of_flat g⟩;simp[Instr.lookup,run_underlying j,cD u,fh b,n w,h]
      next i e=>
       obtain⟨n,B⟩:=oO (C:=C) f e;have r:=B i rfl;obtain⟨s,L,E⟩:=D i x[i] (by simp[r]);have q:(l.toList.getD i default).val=s.val:=by
        rw[List.getD,show l.toList[i]?=some s by simpa using L];rfl
       have A:eQ x i=some x[i].val:=by simp[eQ,r]
       rw[A]at d;cases d;cases ok with
       |true=>
        refine⟨.tuple #[s.val,.bool true],?_,vc.tuple (.cons E.2.2.2.up (.cons (.scalar rfl) .nil))⟩;simp[Instr.lookup,run_underlying j,cD u,fh b,n w,-List.getD_eq_getElem?_getD,q]
       |false=>
        refine⟨s.val,?_,E.2.2.2.up⟩;simp[Instr.lookup,run_underlying j,cD u,fh b,n w,-List.getD_eq_getElem?_getD,q]
    .cases d
 .cases d
def WR.S6(m:WR C base mu g9.heap w){id:Nat}{g f:Tj}{c c1:Nat}{p:Pl}{d:Array MapEntry}(h:EE g9.heap id=some (g,c))(j:mu id=some p)
  (l:d.size=f.length) (k:∀(i:Nat) e,f[i]?=some e->∃e',d[i]?=some e'/\gF mu e e') :
  WR C base mu (g9.heap.set id (.map f c1)) { w with heap:=w.heap.setIfInBounds p.b (.map d c1) }/\Fv g9.heap mu w (g9.heap.set id (.map f c1)) mu { w with heap:=w.heap.setIfInBounds p.b (.map d c1) }:=
 m.set (w':={ w with heap:=w.heap.setIfInBounds p.b (.map d c1) }) (x:=.map d c1) (QW h) rfl j rfl rfl rfl rfl (.map f c1) (λ_=>rfl) ⟨d,rfl,l,k⟩
def vT{c:Tj}{b:Array MapEntry}{e e':MapEntry}(f:b.size=c.length)(k:∀(i:Nat) e,c[i]?=some e->∃e',b[i]?=some e'/\gF mu e e')(j:gF mu e e') :
  (b.push e').size=(c++[e]).length/\∀(i:Nat) x,(c++[e])[i]?=some x->∃x',(b.push e')[i]?=some x'/\gF mu x x':=by
 refine⟨by simp[f],λi x d=>?_⟩;rcases aG d with⟨l,d⟩|⟨rfl,rfl⟩
 .obtain⟨x',g,h⟩:=k i x d;exact⟨x',by rw[qcz,rv a_];exact g,h⟩
 .exact⟨e',by rw[qcz,qs f.symm],j⟩
def ry{c:Tj}{b:Array MapEntry}{j:Nat}{f f':MapEntry->MapEntry}(n:b.size=c.length)(m:∀(i:Nat) e,c[i]?=some e->∃e',b[i]?=some e'/\gF mu e e')
  (l:∀e e',c[j]?=some e->gF mu e e'->gF mu (f e) (f' e')) :
  (b.modify j f').size=(c.modify j f).length/\∀(i:Nat) x,(c.modify j f)[i]?=some x->∃x',(b.modify j f')[i]?=some x'/\gF mu x x':=by
 refine⟨by simp[n],λi x d=>?_⟩;rw[List.getElem?_modify]at d;cases g:c[i]? with
 |none=>rw[g]at d;cases d
 |some e=>
  rw[g]at d;obtain⟨e',o,k⟩:=m i e g;simp only[Option.map_eq_map,FJ,G_]at d;refine⟨if j=i then f' e' else e',by rw[Array.getElem?_modify];split<;>simp_all,?_⟩;subst d;split
  next h=>subst h;exact l e e' g k
  .exact k
end
end
section
variable [DB] [Fc]
section
variable {C:m8} {base:Nat} {la:q_} {mu:ke} {g9:St} {a:Act} {w:TS}
def Aj{s:Sem Unit}{w':TS}{H':Tu}(h:s.run C.P w = .ok () w')(b:WR C base mu H' w')(c:Fv g9.heap mu w H' mu w'):I6 C base mu g9.heap w (do s;pure .skip) H' undef:=
 ⟨.skip,undef,w',mu,by simp[h],.inr ⟨rfl,rfl⟩,.undef,b,c,b.obj⟩
def lR(h:SR C base la mu g9 a.tmps w){t:TP}{m k x:TL}{H':Tu}{v:TR}(d:cL C t (jn g9.tmps m) (jn g9.tmps k) (jn g9.tmps x) g9.heap=some (H',v)) :
  I6 C base mu g9.heap w (do Instr.mapUpdate t (a.eval m) (a.eval k) (a.eval x);pure .skip) H' v:=by
 have M:=aJ h m;have T:=aJ h k;have U:=aJ h x;unfold cL at d;split at d
 next W V id N B=>
  rw[B]at M;obtain⟨p,E,q⟩:=M.It;split at d
  .cases d
  next L=>
   simp only[Hz,qcF,te]at L;obtain⟨⟨l,D⟩,_⟩:=L;have n:=oQ (jI l) T;have s:=fP D U;split at d
   .cases d
   next O c EE=>
    obtain⟨P,u,A,y⟩:=yq h.wr EE E;have g:=AA A y;split at d
    .cases d
    next b=>
     obtain⟨z,K⟩:=oO (C:=C) g b;cases d;obtain⟨I,J⟩:=vT (e:={ key:=jn g9.tmps k,val:=jn g9.tmps x,born:=c }) (e':={ key:=jn g9.tmps k,val:=a.eval x,born:=c }) A y ⟨rfl,jI l,rfl,s⟩;obtain⟨G,H⟩:=h.wr.S6 (c1:=c+1) EE E I J;refine Aj ?_ G H;rw[q,n];simp[Instr.mapUpdate,run_underlying N,cD u,fh l,z w,kz u]
    next i b=>
     obtain⟨z,K⟩:=oO (C:=C) g b;have o:=K i rfl;split at d
     next F=>
      cases d;obtain⟨e',Q,R⟩:=y i O[i] (by simp[o]);obtain⟨I,J⟩:=ry (j:=i) (f:=λe=>{ e with key:=jn g9.tmps k,val:=jn g9.tmps x }) (f':=λe=>{ e with key:=jn g9.tmps k,val:=a.eval x }) A y (λe e' _ S=>⟨rfl,jI l,S.2.2.1,s⟩);obtain⟨G,H⟩:=h.wr.S6 (c1:=c) EE E I J;refine Aj ?_ G H;have r:Instr.sameBits 10000 e'.key (jn g9.tmps k)=true:=by
       rw[R.1];simpa[o]using F
      rw[q,n];simp[Instr.mapUpdate,run_underlying N,cD u,fh l,z w,Q,Instr.keyThatStays,r,kz u]
     .cases d
 .cases d
def wK(h:SR C base la mu g9 a.tmps w){t:TP}{m k:TL}{H':Tu}{v:TR}(b:jq C t (jn g9.tmps m) (jn g9.tmps k) g9.heap=some (H',v)) :
  I6 C base mu g9.heap w (do pure (.value (←Instr.mapEntry t (a.eval m) (a.eval k)))) H' v:=by
 cases b
def rz(h:SR C base la mu g9 a.tmps w){t:TP}{m s x:TL}{H':Tu}{v:TR}(b:fX (jn g9.tmps m) (jn g9.tmps s) (jn g9.tmps x) g9.heap=some (H',v)) :
  I6 C base mu g9.heap w (do Instr.entryStore t (a.eval m) (a.eval s) (a.eval x);pure .skip) H' v:=by
 cases b
def BY(h:SR C base la mu g9 a.tmps w){t ty:TP}{b:Array TypeId}{m k:TL}{H':Tu}{v:TR}(h0:b[0]?=some t)
  (c:pU C t (jn g9.tmps m) (jn g9.tmps k) g9.heap=some (H',v)):I6 C base mu g9.heap w (do pure (.value (←Builtin.delete_ b ty #[a.eval m,a.eval k]))) H' v:=by
 cases c
def mT(h:SR C base la mu g9 a.tmps w)(m:base<=w.heap.size){t:TP}{r:Th}
  (j:qp C t (r.map (jn g9.tmps))=true) :
  I6 C base mu g9.heap w (do pure (.value (←Instr.makeMap t (r.map a.eval)))) (g9.heap++[.map [] 0]) (.map (some g9.heap.length)):=by
 have f:=h.wr.new m (w':=w.alloc (.map #[] 0)) (x:=.map #[] 0) rfl rfl rfl rfl (.map [] 0) ⟨w.heap.size,0,0,0⟩ rfl ⟨#[],rfl,rfl,λi e h=>by simp at h⟩ (λ_=>rfl);refine⟨.value (.map (some w.heap.size)),_,_,_,?_,.inl rfl,.map (bN _ _ _),f.1,f.2.1,f.2.2⟩;cases r with
 |none=>simp[Instr.makeMap]
 |some x=>
  simp only[qp,FJ,te]at j;obtain⟨n,g⟩:=xT.1 j.1;obtain⟨k,o⟩:=lL g (aJ h x);have b:∃d c,C.P.underlying t=some (.map d c):=by
   have l:=j.2;split at l
   next d c b=>exact⟨d,c,b⟩
   .cases l
  obtain⟨d,c,b⟩:=b;simp[Instr.makeMap,run_underlying b,o,asInt,asIntOf]
end
end
section
variable [DB] [Fc]
section
variable {C:m8} {base:Nat} {la:q_} {mu:ke} {g9:St} {a:Act} {w:TS}
def sz{v c:TR}{b:Bool}(d:bf v=some b)(h:VR la mu v c):bf c=some b/\dJ c=dJ v:=by
 cases h with
 |w6 c=>simp[bf]at d
 |O6 _=>simp[bf]at d
 |scalar h=>exact⟨d,rfl⟩
 |agg _ _=>simp[bf]at d
 |tuple _ _=>simp[bf]at d
 |func _ _ _ _ _=>simp[bf]at d ⊢;exact⟨d,rfl⟩
 |yield h=>simp[bf]at d ⊢;exact⟨d,rfl⟩
 |FD h=>simp[bf]at d ⊢;exact⟨d,rfl⟩
 |ET h=>simp[bf]at d ⊢;exact⟨d,rfl⟩
 |E2=>simp[bf]at d ⊢;exact⟨d,rfl⟩
 |A6 h g f e=>simp[bf]at d ⊢;exact⟨d,rfl⟩
 |x_ e=>simp[bf]at d ⊢;exact⟨d,rfl⟩
 |DN f e=>simp[bf]at d ⊢;exact⟨d,rfl⟩
 |B3 e=>simp[bf]at d ⊢;exact⟨d,rfl⟩
 |map h=>simp[bf]at d ⊢;exact⟨d,rfl⟩
def gf{x y:TR}{b:Bool}(h:mV x y=some b):∃d c,bf x=some d/\bf y=some c/\((d=true/\b=c)∨(c=true/\b=d)):=by
 unfold mV at h;split at h
 next g e f=>cases h;exact⟨true,b,e,f,.inl ⟨rfl,rfl⟩⟩
 next g _ e f=>cases h;exact⟨b,true,e,f,.inr ⟨rfl,rfl⟩⟩
 .cases h
def lV{v:TR}{b:Bool}(h:bf v=some b)(e:dJ v=1):(b=true/\v = .slice none 0 0)∨(b=false/\∃d n c,v = .slice (some d) n c):=by
 unfold bf at h;split at h<;>first|(simp[dJ]at e;done)|(cases h;exact .inl ⟨rfl,rfl⟩)|(cases h;exact .inr ⟨rfl,_,_,_,rfl⟩)|cases h
def qH{v:TR}{b:Bool}(h:bf v=some b)(c:dJ v=2):(b=true/\v = .map none)∨(b=false/\∃r,v = .map (some r)):=by
 unfold bf at h;split at h<;>first|(simp[dJ]at c;done)|(cases h;exact .inl ⟨rfl,rfl⟩)|(cases h;exact .inr ⟨rfl,_,rfl⟩)|cases h
def nY{v:TR}{b:Bool}(h:bf v=some b)(c:dJ v=3):(b=true/\v = .nilFunc)∨(b=false/\∃f x y,v = .func f x y):=by
 unfold bf at h;split at h<;>first|(simp[dJ]at c;done)|(cases h;exact .inl ⟨rfl,rfl⟩)|(cases h;exact .inr ⟨rfl,_,_,_,rfl⟩)|cases h
def qI{v:TR}{b:Bool}(h:bf v=some b)(c:dJ v=4):(b=true/\v = .pointer none)∨(b=false/\∃r,v = .pointer (some r)):=by
 unfold bf at h;split at h<;>first|(simp[dJ]at c;done)|(cases h;exact .inl ⟨rfl,rfl⟩)|(cases h;exact .inr ⟨rfl,_,rfl⟩)|cases h
def xq{t:TP}{x y:TR}{b:Bool}(s:mV x y=some b)(j:uH C.P t x y=true):(Op.equal t x y).run C.P w = .ok b w:=by
 obtain⟨z,n,l,m,g⟩:=gf s;unfold uH at j;split at j
 next d q=>
  simp only[te,beq_iff_eq]at j;obtain⟨c,f⟩:=j;have u:=run_underlying q w;have o:Op.equal t x y=Op.equalIn (9999+1) t x y:=rfl;rw[o];unfold Op.equalIn;rw[Sem.run_bind,u,Result.andThen_ok];cases d with
  |slice e=>
   have h:=lV l (by rw[←c];rfl);have i:=lV m (by rw[←f];rfl);rcases h with⟨rfl,rfl⟩|⟨rfl,_,_,_,rfl⟩<;>rcases i with⟨rfl,rfl⟩|⟨rfl,_,_,_,rfl⟩<;>simp at g<;>subst g<;>rfl
  |map k e=>
   have h:=qH l (by rw[←c];rfl);have i:=qH m (by rw[←f];rfl);rcases h with⟨rfl,rfl⟩|⟨rfl,_,rfl⟩<;>rcases i with⟨rfl,rfl⟩|⟨rfl,_,rfl⟩<;>simp at g<;>subst g<;>rfl
  |func p r v=>
   have h:=nY l (by rw[←c];rfl);have i:=nY m (by rw[←f];rfl);rcases h with⟨rfl,rfl⟩|⟨rfl,_,_,_,rfl⟩<;>rcases i with⟨rfl,rfl⟩|⟨rfl,_,_,_,rfl⟩<;>simp at g<;>subst g<;>rfl
  |pointer e=>
   have h:=qI l (by rw[←c];rfl);have i:=qI m (by rw[←f];rfl);rcases h with⟨rfl,rfl⟩|⟨rfl,_,rfl⟩<;>rcases i with⟨rfl,rfl⟩|⟨rfl,_,rfl⟩<;>simp at g<;>subst g<;>rfl
  |_=>
   simp only[mW]at c;cases x<;>simp[dJ]at c
 .cases j
def AL{d e c1 c:TR}{b:Bool}{t:TP}(h1:VR la mu d c1)(k:VR la mu e c)(l:mV d e=some b)(f:uH C.P t d e=true):mV c1 c=some b/\uH C.P t c1 c=true:=by
 obtain⟨q,g,h,i,j⟩:=gf l;obtain⟨m,n⟩:=sz h h1;obtain⟨o,p⟩:=sz i k;refine⟨?_,by unfold uH at f ⊢;rw[n,p];exact f⟩;unfold mV;rw[m,o];rcases j with⟨rfl,rfl⟩|⟨rfl,rfl⟩
 .rfl
 .cases b<;>rfl
def qc{d:BinOp}{t:TP}{x y:TL}{c1 c:TR}{b:Bool}(g:mV c1 c=some b):(eqGuard d t x y c1 c).run C.P w = .ok () w:=by
 obtain⟨h,e,f,i,j⟩:=gf g;cases c1<;>(try (simp[bf]at f;done))<;>cases d<;>rfl
def binOp_eql{t:TP}{c1 c:TR}{b:Bool}(g:mV c1 c=some b):binOp .eql t c1 c=(do pure (.bool (←Op.equal t c1 c))):=by
 obtain⟨h,d,e,f,i⟩:=gf g;cases c1<;>(try (simp[bf]at e;done))<;>cases c<;>(try (simp[bf]at f;done))<;>rfl
def binOp_neq{t:TP}{c1 c:TR}{b:Bool}(g:mV c1 c=some b):binOp .neq t c1 c=(do pure (.bool (!(←Op.equal t c1 c)))):=by
 obtain⟨h,d,e,f,i⟩:=gf g;cases c1<;>(try (simp[bf]at e;done))<;>cases c<;>(try (simp[bf]at f;done))<;>rfl
def VR.Hj{g:TQ}{x y:Tl}{c:TR}(h:VR la mu (.func (.func g) x y) c):∃x' y',c = .func (.func g) x' y'/\vc la mu x.toList x'.toList/\vc la mu y.toList y'.toList:=by
 cases h with
 |scalar h=>simp[Am.scalar]at h
 |func _ j k e f=>
  exact⟨_,_,rfl,⟨by simpa using j,λi u v b d=>e i u v (by simpa using b) (by simpa using d)⟩,⟨by simpa using k,λi u v b d=>f i u v (by simpa using b) (by simpa using d)⟩⟩
def VR.Ie{l:Nat}{x y:Tl}{c:TR}(h:VR la mu (.func (.yield l) x y) c):∃p,mu l=some p/\c = .func (.yield p.b) #[] #[]:=by
 cases h with
 |scalar h=>simp[Am.scalar]at h
 |func d _ _ _ _=>exact absurd rfl (d l)
 |yield h=>exact⟨_,h,rfl⟩
def VR.Ic{b:Option Addr}{n cx:Nat}{c:TR}(h:VR la mu (.slice b n cx) c):∃a' cap,c = .slice a' n cap/\(∀m,b.isSome->cx=m+1->cap=m):=by
 cases h with
 |scalar h=>exact⟨_,_,rfl,λm g _=>by cases b with|none=>cases g|some a=>simp[Am.scalar]at h⟩
 |A6 h i f e=>exact⟨_,_,rfl,λm _ d=>a_⟩
 |x_ e=>exact⟨_,_,rfl,λm _ d=>a_⟩
 |DN f e=>exact⟨_,_,rfl,λm _ d=>a_⟩
 |B3 e=>exact⟨_,_,rfl,λm _ d=>a_⟩
def MO(h:SR C base la mu g9 a.tmps w)(c:Array (Nat×Operand))(f:∀p∈c.toList,aD (jn g9.tmps p.2)=false) :
  Z_ la mu (c.toList.map λp=>(p.1,jn g9.tmps p.2)) (c.map λ(i,x)=>(i,a.eval x)).toList:=by
 rw[qdq];refine⟨c_,λi p q b d=>?_⟩;rw[FM]at b d;cases e:c.toList[i]? with
 |none=>rw[e]at b;cases b
 |some x=>
  rw[e]at b d;cases b;cases d;exact⟨rfl,f x (A9 e),aJ h x.2⟩
def cj{c:Call}{o:Oper}{b:Builtin}(e:o.op = .call c)(g:c.callee = .builtin b) :
  execOp a.eval o=builtin b c.argTypes o.type (c.args.map λ| .const _=>true|_=>false) (c.args.map a.eval):=by
 obtain⟨dst,h,f,pos,d,guard⟩:=o;simp only at e;subst e;simp only[execOp,resolve,g];rfl
def tq{c:Call}{s x:TR}(h:c.args.toList.map (jn g9.tmps)=[s,x]):∃xs xx,c.args = #[xs,xx]/\s=jn g9.tmps xs/\x=jn g9.tmps xx:=by
 obtain⟨l,b⟩ : ∃l,c.args=l.toArray:=⟨c.args.toList,c_⟩;rw[b]at h
 match l,h with
 | [u,v],h=>
  simp at h;exact⟨u,v,by rw[b],h.1.symm,h.2.symm⟩
def tk{c:Call}{s:TR}(h:c.args.toList.map (jn g9.tmps)=[s]):∃xs,c.args = #[xs]/\s=jn g9.tmps xs:=by
 obtain⟨l,b⟩ : ∃l,c.args=l.toArray:=⟨c.args.toList,c_⟩;rw[b]at h
 match l,h with
 | [u],h=>
  simp at h;exact⟨u,by rw[b],h.symm⟩
def oq{s:Sem Value}{v:TR}(h:∃v',s.run C.P w = .ok v' w/\VR la mu v v'):pG C base la mu g9 w (do pure (.value (←s))) (.val v):=by
 obtain⟨v',b,c⟩:=h;exact iE b c
def nr(h:SR C base la mu g9 a.tmps w){o:Oper}{e:EZ}(d:∀cs b,o.op≠.select cs b)(c:cN C (jn g9.tmps) o=some e):pG C base la mu g9 w (execOp a.eval o) e:=by
 obtain⟨v,rfl,f⟩:=Cw h d c;exact f
def tD(h:SR C base la mu g9 a.tmps w)(hb:base<=w.heap.size){c:Call}{o:Oper}{b:Builtin}{e:EZ}(z:o.op = .call c)(D:c.callee = .builtin b)
  (j:aY C (jn g9.tmps) b (c.args.toList.map (jn g9.tmps)) c.argTypes o=some e):pG C base la mu g9 w (execOp a.eval o) e:=by
 have F:∀U b,o.op≠.select U b:=by rw[z];intro U b h;cases h
 unfold aY at j;split at j
 next s x t f l=>
  obtain⟨G,xx,g,rfl,rfl⟩:=tq f;split at j
  .cases j
  next i=>
   cases j;simp only[GN,not_or,Hz]at i;obtain⟨H,K⟩ : ∃H,c.argTypes[1]?=some H:=by
    cases B:c.argTypes[1]? with
    |none=>simp[B]at i
    |some H=>exact⟨H,rfl⟩
   rw[K]at i;have hd:∃d,C.P.underlying H=some d/\qx d=false:=by
    have E:=i.1;simp only[Option.any_some]at E;split at E
    .cases E
    .cases E
    next S T=>
     cases y:C.P.underlying H with
     |none=>exact absurd y T
     |some d=>
      refine⟨d,rfl,?_⟩;cases d<;>first|rfl|exact absurd y (S _)
   obtain⟨d,O,Q⟩:=hd;intro M v A;have:=BN (ty:=o.type) h hb l K O Q A;rw[cj z D,g];simpa[builtin]using this
 next x t f l=>
  obtain⟨G,g,rfl⟩:=tk f;have B:=aJ h G;split at j
  next L X n V y u=>
   cases j;rw[u]at B;obtain⟨W,I,r,_⟩:=B.Ic;rw[cj z D,g];exact⟨.int .i64 n,by simp[builtin,Builtin.len_,l,run_underlying y,r,goInt],.scalar rfl⟩
  next kt et id y u=>
   cases j;rw[u]at B;obtain⟨p,hp,r⟩:=B.It;intro v A;cases R:EE g9.heap id with
   |none=>simp[R]at A
   |some q=>
    obtain⟨es,cl⟩:=q;simp only[R,FJ,G_]at A;subst A;obtain⟨N,Y,Z,h3⟩:=yq h.wr R hp;rw[cj z D,g];refine⟨.int .i64 N.size,by simp[builtin,Builtin.len_,l,run_underlying y,r,cD Y,goInt],by rw[Z];exact .scalar rfl⟩
  next n L y=>
   cases j;rw[cj z D,g];exact⟨.int .i64 n,by simp[builtin,Builtin.len_,l,run_underlying y,goInt],.scalar rfl⟩
  .exact nr h F j
 next x t f l=>
  obtain⟨G,g,rfl⟩:=tk f;have B:=aJ h G;split at j
  next L X n V y u=>
   cases j;rw[u]at B;obtain⟨W,I,r,J⟩:=B.Ic;have:=J V rfl rfl;subst this;rw[cj z D,g];exact⟨.int .i64 I,by simp[builtin,Builtin.cap_,l,run_underlying y,r,goInt],.scalar rfl⟩
  next L y u=>
   cases j;rw[u]at B;have r:=ch (a:=.slice none 0 0) rfl B;rw[cj z D,g];exact⟨.int .i64 0,by simp[builtin,Builtin.cap_,l,run_underlying y,r,goInt],.scalar rfl⟩
  next n L y=>
   cases j;rw[cj z D,g];exact⟨.int .i64 n,by simp[builtin,Builtin.cap_,l,run_underlying y,goInt],.scalar rfl⟩
  .cases j
 next d x t f l=>
  obtain⟨G,xx,g,rfl,rfl⟩:=tq f;cases j;intro M v A;have:=Qi (ty:=o.type) h l A;rw[cj z D,g];simpa[builtin]using this
 next m k t f l=>
  obtain⟨G,xx,g,rfl,rfl⟩:=tq f;cases j;intro M v A;have:=BY (ty:=o.type) h l A;rw[cj z D,g];simpa[builtin]using this
 next x t f l=>
  obtain⟨G,g,rfl⟩:=tk f;cases j;intro M v A;have:=NP (ty:=o.type) h l A;rw[cj z D,g];simpa[builtin]using this
 .exact nr h F j
def BR(h:SR C base la mu g9 a.tmps w)(O:base<=w.heap.size){c:Call}{o:Oper}{e:EZ}(F:o.op = .call c)(d:gZ C (jn g9.tmps) c o=some e):pG C base la mu g9 w (execOp a.eval o) e:=by
 unfold gZ at d;simp only at d;split at d
 next b D=>
  exact tD h O F D d
 .cases d
 next f D=>
  split at d
  .cases d
  next k=>
   simp only[Hz,qcF]at k;have j:=(tT h c.args).down k;have z:=aJ h f;have q:∀B x y,a.eval f = .func B x y->(execOp a.eval o).run C.P w=(invoke (.fn B y) (x++c.args.map a.eval)).run C.P w:=by
    intro B x y m;obtain⟨dst,S,J,pos,A,guard⟩:=o;simp only at F;subst F;simp[execOp,resolve,D,m,Deferred.ofValue]
   split at d
   next g first r s=>
    split at d
    next E=>
     cases d;rw[s]at z;obtain⟨K,L,m,H,I⟩:=z.Hj;have n:first.toList.all aT=true/\r.toList.all aT=true:=by simpa[nc]using E
     have M:vc DP mu first.toList K.toList:=⟨H.1,λi u v t G=>gi (cS n.1 t) (H.2 i u v t G)⟩
     have N:vc DP mu r.toList L.toList:=⟨I.1,λi u v t G=>gi (cS n.2 t) (I.2 i u v t G)⟩;refine⟨K++c.args.map a.eval++L,?_,?_⟩
     .simp only[ZN];exact(M.append j).append N
     .rw[q _ _ _ m];rfl
    .cases d
   next l first r s=>
    split at d
    next R=>
     cases d;rw[s]at z;obtain⟨p,Q,m⟩:=z.Ie;refine⟨p,#[]++c.args.map a.eval,Q,by simpa using j,?_⟩;rw[q _ _ _ m];rfl
    .cases d
   .cases d
def zV(h:SR C base la mu g9 a.tmps w)(L:base<=w.heap.size){b_:TC}{o:Oper}{e:EZ}(g:au C b_ (jn g9.tmps) o=some e):pG C base la mu g9 w (execOp a.eval o) e:=by
 obtain⟨dst,op,type,pos,after,guard⟩:=o;cases op with
 |move x=>simp only[au]at g;cases g;exact⟨_,rfl,aJ h x⟩
 |assign x=>simp only[au]at g;cases g;exact⟨_,rfl,aJ h x⟩
 |pick c x y=>
  simp only[au]at g;split at g
  next q hq=>
   cases g;have M:=aJ h c;rw[hq]at M;have ag:=M.bool;refine⟨if q then a.eval x else a.eval y,by simp[execOp,ag,asBool],?_⟩;cases q
   .exact aJ h y
   .exact aJ h x
  .cases g
 |alloc t=>
  simp only[au]at g;cases V:ft C.P t with
  |none=>rw[V]at g;cases g
  |some z=>
   rw[V,Ex]at g;have ay:=BL V w;have:=nX h L (VR.of_flat (rj V).2.1) g;have S:(execOp a.eval { dst,op:=.alloc t,type,pos,after,guard }).run C.P w=(do pure (.value (←Instr.box t z)):Sem Next).run C.P w:=by
    simp[execOp,Instr.alloc,Instr.box,ay]
   revert this;cases e<;>simp only[pG,xM,I6,S]<;>exact id
 |box t x=>simp only[au]at g;exact nX h L (aJ h x) g
 |build t N=>
  simp only[au]at g;split at g
  next G=>
   cases E:vC C t (N.toList.map λp=>(p.1,jn g9.tmps p.2))with
   |none=>rw[E]at g;cases g
   |some v=>
    rw[E]at g;cases g;have I:=MO h N λp I=>by
     have:=A_.1 G p I;simpa using this
    exact oq (NI E I)
  .cases g
 |buildSlice t n N=>
  simp only[au]at g;split at g
  next G=>
   have av:∀p∈N.toList,aD (jn g9.tmps p.2)=false:=λp I=>by
    have:=A_.1 G p I;cases A:jn g9.tmps p.2 with
    |tuple vs=>
     rw[A]at this;have:=A_.1 this (.tuple vs) (by simp[Value.cells]);simp only[bg,aP,te]at this;simp[aD,this.2]
    |_=>rfl
   have I:=MO h N av;cases E:fT C t n (N.toList.map λp=>(p.1,jn g9.tmps p.2))with
   |none=>rw[E]at g;cases g
   |some r=>
    rw[E]at g;cases g;intro K v A;cases A;exact rp h L I (λp I=>by
     obtain⟨q,hq,rfl⟩:=DJ.1 I;exact A_.1 G q hq) E
  .cases g
 |load t x=>simp only[au]at g;exact Ch h g
 |store t x y=>simp only[au]at g;exact zr h g
 |nilCheck x=>
  simp only[au]at g;have D:=aJ h x;split at g
  next ad A=>
   cases g;rw[A]at D;cases M:a.eval x with
   |pointer p=>
    rw[M]at D;cases p with
    |none=>cases D
    |some p=>exact⟨_,by simp[execOp,M],D⟩
   |_=>rw[M]at D;cases D<;>(rename_i j;simp[Am.scalar]at j)
  next f u v A=>
   cases g;rw[A]at D;obtain⟨u',T,F,_,_⟩:=D.Hj;rw[F]at D;exact⟨_,by simp[execOp,F],D⟩
  next f u v A=>
   cases g;rw[A]at D;obtain⟨p,_,F⟩:=D.Ie;rw[F]at D;exact⟨_,by simp[execOp,F],D⟩
  .cases g
 |binOp op t x y yt=>
  have B:cN C (jn g9.tmps) { dst,op:=.binOp op t x y yt,type,pos,after,guard }=some e->pG C base la mu g9 w (execOp a.eval { dst,op:=.binOp op t x y yt,type,pos,after,guard }) e:=
   λg=>nr h (by intro Y b h;cases h) g
  simp only[au]at g;split at g
  .split at g
   next b hn=>
    split at g
    next ho=>
     cases g;obtain⟨J,n2⟩:=AL (aJ h x) (aJ h y) hn ho;refine⟨.bool b,?_,.scalar rfl⟩;simp only[execOp,Sem.run_bind,qc J,Result.andThen_ok,binOp_eql J,xq J n2,Sem.run_pure]
    .cases g
   .exact B g
  .split at g
   next b hn=>
    split at g
    next ho=>
     cases g;obtain⟨J,n2⟩:=AL (aJ h x) (aJ h y) hn ho;refine⟨.bool !b,?_,.scalar rfl⟩;simp only[execOp,Sem.run_bind,qc J,Result.andThen_ok,binOp_neq J,xq J n2,Sem.run_pure]
    .cases g
   .exact B g
  .exact B g
 |unOp op t x=>simp only[au]at g;exact nr h (by intro Y b h;cases h) g
 |convert s d x=>simp only[au]at g;exact nr h (by intro Y b h;cases h) g
 |makeFunc fn first O=>
  simp only[au]at g;split at g
  .cases g
  next an=>
   cases g;refine⟨.func fn (first.map a.eval) (O.map a.eval),by simp[execOp,Instr.makeFunc],?_⟩;have r1:=tT h first
   have r2:=tT h O;refine .func (λl hl=>an l hl) c_ c_ (λi u v H A=>r1.2 i u v (by simpa using H) (by simpa using A)) (λi u v H A=>r2.2 i u v (by simpa using H) (by simpa using A))
 |makeMap t r=>
  simp only[au]at g;split at g
  next hr=>
   cases g;intro K v A;cases A;exact mT h L hr
  .cases g
 |makeSlice t l c=>
  simp only[au]at g;cases g;intro K v A;exact uC h L A
 |slice t x W U X=>
  have B:cN C (jn g9.tmps) { dst,op:=.slice t x W U X,type,pos,after,guard }=some e->pG C base la mu g9 w (execOp a.eval { dst,op:=.slice t x W U X,type,pos,after,guard }) e:=
   λg=>nr h (by intro Y b h;cases h) g
  have D:=aJ h x;have o1:=GP.map W λx=>aJ h x;have o2:=GP.map U λx=>aJ h x;have o3:=GP.map X λx=>aJ h x;simp only[au]at g;split at g
  next ad A=>
   rw[A]at D;split at g
   next ax=>
    cases j:mn C t ad (W.map (jn g9.tmps)) (U.map (jn g9.tmps)) (X.map (jn g9.tmps)) []with
    |none=>rw[j]at g;cases g
    |some v=>
     rw[j]at g;cases g;exact oq (qZ h.wr (.inl ax) j D o1 o2 o3)
   .cases g;intro v A;obtain⟨T,Q,R⟩:=qZ h.wr (.inr rfl) A D o1 o2 o3;exact iE Q R
  .unfold qL at g;split at g
   next v j=>
    cases g;exact oq (OY j D o1 o2 o3)
   .exact B g
 |fieldAddr t x f=>
  simp only[au]at g;cases j:gO C t (jn g9.tmps x) f with
  |none=>rw[j]at g;cases g
  |some v=>rw[j]at g;cases g;exact oq (tW j (aJ h x))
 |field t x f=>
  simp only[au]at g;cases j:vX C t (jn g9.tmps x) f with
  |none=>rw[j]at g;cases g
  |some v=>rw[j]at g;cases g;exact oq (N_ j (aJ h x))
 |indexAddr t x i=>
  simp only[au]at g;cases j:fL C t (jn g9.tmps x) (jn g9.tmps i)with
  |none=>rw[j]at g;cases g
  |some v=>rw[j]at g;cases g;exact oq (ut j (aJ h x) (aJ h i))
 |index t x i=>
  simp only[au]at g;cases j:nV C t (jn g9.tmps x) (jn g9.tmps i)with
  |none=>rw[j]at g;cases g
  |some v=>rw[j]at g;cases g;exact oq (Og j (aJ h x) (aJ h i))
 |lookup t m k ok=>
  simp only[au]at g;have hm:=aJ h m;have hk:=aJ h k;split at g
  next ap=>
   rw[ap]at hm;cases j:dY C t (.map none) (jn g9.tmps k) ok []with
   |none=>rw[j]at g;cases g
   |some v=>rw[j]at g;cases g;exact oq (sn h.wr (.inl rfl) hm hk j)
  .cases g;intro v A;obtain⟨T,Q,R⟩:=sn h.wr (.inr rfl) hm hk A;exact iE Q R
 |mapUpdate t m k v=>simp only[au]at g;cases g;intro K u H;exact lR h H
 |insert t m k v=>simp only[au]at g;cases g;intro K u H;exact lR h H
 |mapEntry t m k=>simp only[au]at g;cases g;intro K u H;exact wK h H
 |entryStore t m s v=>simp only[au]at g;cases g;intro K u H;exact rz h H
 |extract t i=>
  simp only[au]at g;have ht:=aJ h t;split at g
  next vs A=>
   split at g
   .cases g
   next aE=>
    cases j:vs[i]? with
    |none=>rw[j]at g;cases g
    |some v=>
     rw[j]at g;cases g;rw[A]at ht;obtain⟨ds,F,al⟩:=ht.Nv a_;obtain⟨T,Q,R⟩:=al.get (i:=i) (by simpa using j);refine⟨T,?_,R⟩;have Z:ds[i]?=some T:=by simpa using Q
     simp[execOp,Instr.extract,F,Z]
  .cases g
 |call c=>simp only[au]at g;exact BR h L rfl g
 |_=>simp only[au]at g;cases g
end
end
section
variable [DB]
section
variable [Fc]
def Marks(mu:ke)(H:Tu)(b w:TS)(ds:List Deferred):Prop:=
 ∃a:List Nat,ds=a.map (λr=>({ target:=.collected r,args:=#[] }:Deferred))/\a.Nodup/\∀r∈a,b.heap.size<=r/\w.heap[r]?=some (.deferred (some []))/\¬JL mu H r
structure FI(C:m8)(base:Nat)(o9:Tu)(s8:ke)(o8:TS)(la:q_)(mu:ke)(g9:St)(a:Act)(w:TS):Prop where
 sr:SR C base la mu g9 a.tmps w
 E':Fv o9 s8 o8 g9.heap mu w
 fresh:∀s b,la s=some b->o8.heap.size<=b
 marks:Marks mu g9.heap o8 w a.defers
 low:base<=o8.heap.size
end
def en(C:m8)(f:TQ)(args:Tn)(H:Tu)(r:Value)(H':Tu):Prop:=
 ∀(_:Fc) (a:Nat) (mu:ke) (w:TS) (args':Tl),a<=w.heap.size->vc DP mu args args'.toList->WR C a mu H w->∀cs,
  ∃v b w',VR DP b r v/\WR C a b H' w'/\Fv H mu w H' b w'/\(callFunc f args').run C.P w = .ok (.enter f args') w/\
   ∃fr,Steps C.P (lone (Frame.enter C.P f args' .normal) cs w) (lone fr cs w')/\fr.fn=f/\fr.leaving C.P w' (.returned v)
def Lb(C:m8)(l:Nat)(args:Tn)(H:Tu)(r:Value)(H':Tu):Prop:=
 ∀(_:Fc) (a:Nat) (mu:ke) (w:TS) (args':Tl) (p:Pl),a<=w.heap.size->mu l=some p->vc DP mu args args'.toList->WR C a mu H w->∀c cs,
  ∃v f w' g e assign d,VR DP f r v/\WR C a f H' w'/\Fv H mu w H' f w'/\(Instr.yield p.b args').run C.P w = .ok (.round p.b g e assign d) w/\
   Steps C.P (lone (Frame.round p.b g e assign d .normal) (c :: cs) w) (lone (c.finish v) cs w')
structure BOk(C:m8)(B:Below):Prop where
 call:∀f args H r H',B.call f args H r H'->en C f args H r H'
 yield:∀l args H r H',B.yield l args H r H'->Lb C l args H r H'
section
variable [Fc]
section machine
abbrev _root_.TB:=List Item
variable {P:TI} {b:Frame} {a:Act} {k:TB} {cs:List Frame} {w w':TS} {ops:To} {i:Nat} {rest:TC} {o:Oper}
def dM{v:TR}(f:ops[i]?=some o)(j:Region.wanted o (yielded ops a.tmps)=true)(g:∀c,o.op≠.defer c)(h:(execOp a.eval o).run P w = .ok (.value v) w') :
  step P (lone (b.atR a (.inRegion ops (i :: rest) :: k)) cs w) = .next (lone (b.atR (a.put o.dst v) (.inRegion ops rest :: k)) cs w'):=by
 have e:=stepGR_op (P:=P) (b:=b) (k:=k) (cs:=cs) (w:=w) (rest:=rest) f j;rw[Oper.semAt_eq _ _ _ g]at e;have d:(b.atR a (.inRegion ops (i :: rest) :: k)).finish v=b.atR (a.put o.dst v) (.inRegion ops rest :: k):=by rw[Frame.finish_atR,f];rfl
 refine step_lone_go ?_;rw[e,←d];simp[stepG.apply,Sem.runT_eq,h]
def sV(f:ops[i]?=some o)(j:Region.wanted o (yielded ops a.tmps)=true)(g:∀c,o.op≠.defer c)(h:(execOp a.eval o).run P w = .ok .skip w') :
  step P (lone (b.atR a (.inRegion ops (i :: rest) :: k)) cs w) = .next (lone (b.atR (a.put o.dst undef) (.inRegion ops rest :: k)) cs w'):=by
 have e:=stepGR_op (P:=P) (b:=b) (k:=k) (cs:=cs) (w:=w) (rest:=rest) f j;rw[Oper.semAt_eq _ _ _ g]at e;have d:(b.atR a (.inRegion ops (i :: rest) :: k)).finish undef=b.atR (a.put o.dst undef) (.inRegion ops rest :: k):=by rw[Frame.finish_atR,f];rfl
 refine step_lone_go ?_;rw[e,←d];simp[stepG.apply,Sem.runT_eq,h]
def CN{f:TQ}{args:Tl}(g:ops[i]?=some o)(j:Region.wanted o (yielded ops a.tmps)=true)(e:∀c,o.op≠.defer c)(h:(execOp a.eval o).run P w = .ok (.enter f args) w') :
  step P (lone (b.atR a (.inRegion ops (i :: rest) :: k)) cs w) = .next (lone (Frame.enter P f args .normal) (b.atR a (.inRegion ops (i :: rest) :: k) :: cs) w'):=by
 have d:=stepGR_op (P:=P) (b:=b) (k:=k) (cs:=cs) (w:=w) (rest:=rest) g j;rw[Oper.semAt_eq _ _ _ e]at d;exact step_lone_go (by rw[d];simp[stepG.apply,Sem.runT_eq,h,Frame.atR])
def O5{l:Nat}{f:TQ}{e:Tl}{assign d:Code}(j:ops[i]?=some o)(n:Region.wanted o (yielded ops a.tmps)=true)(h:∀c,o.op≠.defer c)
  (m:(execOp a.eval o).run P w = .ok (.round l f e assign d) w') :
  step P (lone (b.atR a (.inRegion ops (i :: rest) :: k)) cs w) = .next (lone (Frame.round l f e assign d .normal) (b.atR a (.inRegion ops (i :: rest) :: k) :: cs) w'):=by
 have g:=stepGR_op (P:=P) (b:=b) (k:=k) (cs:=cs) (w:=w) (rest:=rest) j n;rw[Oper.semAt_eq _ _ _ h]at g;exact step_lone_go (by rw[g];simp[stepG.apply,Sem.runT_eq,m,Frame.atR])
def wg(c:ops[i]?=some o)(v:TR):(b.atR a (.inRegion ops (i :: rest) :: k)).finish v=b.atR (a.put o.dst v) (.inRegion ops rest :: k):=by
 rw[Frame.finish_atR,c];rfl
end machine
section
variable {C:m8} {base:Nat} {o9:Tu} {s8:ke} {o8:TS} {la:q_} {mu:ke} {g9:St} {a:Act} {w:TS}
def FI.big(h:FI C base o9 s8 o8 la mu g9 a w):base<=w.heap.size:=Pm h.low h.E'.size
def vA(a:Act)(dst:Tq)(v:TR):(a.put dst v).tmps=(match dst with|some d=>a.tmps.setIfInBounds d v|none=>a.tmps):=by cases dst<;>rfl
def rl(a:Act)(dst:Tq)(v:TR):(a.put dst v).defers=a.defers:=by cases dst<;>rfl
def FI.put(h:FI C base o9 s8 o8 la mu g9 a w)(dst:Tq){v v':TR}(c:VR la mu v v'):FI C base o9 s8 o8 la mu (g9.put dst v) (a.put dst v') w:=by
 have b:(g9.put dst v).heap=g9.heap:=by cases dst<;>rfl
 refine⟨?_,by rw[b];exact h.E',h.fresh,by rw[rl,b];exact h.marks,h.low⟩;rw[vA];exact h.sr.put dst c
def Marks.E'{H H':Tu}{mu b:ke}{w w':TS}{ds:List Deferred}(h:Marks mu H o8 w ds)(d:Fv H mu w H' b w'):Marks b H' o8 w' ds:=by
 obtain⟨n,f,g,i⟩:=h;refine⟨n,f,g,λr k=>?_⟩;obtain⟨l,m,e⟩:=i r k;have c:r<w.heap.size:=by
  grind
 exact⟨l,by rw[d.ka r c e];exact m,λj=>(d.Fk r j).elim (λo=>a_) e⟩
def FI.heap(h:FI C base o9 s8 o8 la mu g9 a w){H':Tu}{b:ke}{w':TS}(d:WR C base b H' w')(c:Fv g9.heap mu w H' b w'):FI C base o9 s8 o8 la b { g9 with heap:=H' } a w':=
 ⟨h.sr.E' d c,h.E'.trans c,h.fresh,h.marks.E' c,h.low⟩
def JL.lt{mu:ke}{H:Tu}{w:TS}(f:WR C base mu H w){b:Nat}(h:JL mu H b):b<w.heap.size/\base<=b:=by
 obtain⟨id,o,p,c,d,e,rfl⟩:=h;exact⟨f.lt c (bQ d) e,f.own id o p c d e⟩
def FI.GU(h:FI C base o9 s8 o8 la mu g9 a w){s:Nat}{vs:Tn}{d:Tl}{e:TP}(K:g9.loc[s]?=some none)(M:vc DP mu vs d.toList)(v:vs.all bg=true) :
  FI C base o9 s8 o8 (λk=>if k=s then some w.heap.size else la k) mu { g9 with loc:=g9.loc.set s (some vs) } a (w.alloc (.cells d e)):=by
 have l:∀b,b<w.heap.size->(w.alloc (.cells d e)).heap[b]?=w.heap[b]?:=λb r=>by
  show(w.heap.push _)[b]?=_
  grind
 have u:la s=none:=by
  cases H:la s with
  |none=>rfl
  |some b=>obtain⟨i,j⟩:=h.sr.Hn s b H;rw[K]at j;cases j
 have m:∀t b,la t=some b->(if t=s then some w.heap.size else la t)=some b:=λt b f=>by
  grind
 have D:∀t b,la t=some b->b<w.heap.size:=λt b f=>by
  obtain⟨i,j⟩:=h.sr.Hn t b f;obtain⟨O,c,y,n,_,z,_⟩:=h.sr.loc t i j
  grind
 have E:s<g9.loc.length:=by
  grind
 have A:Fv g9.heap mu w g9.heap mu (w.alloc (.cells d e)):=⟨B8 _,λ_ _=>rfl,c_,λb r _=>l b r,λb r=>.inr r,rfl,rfl,rfl,B8 _⟩;refine⟨⟨h.sr.E9.mono m λ_ _ h=>h,?_,?_,?_,?_⟩,h.E'.trans A,?_,h.marks.E' A,h.low⟩
 .intro t b f;split at f
  .simp_all
  next L=>
   obtain⟨i,j⟩:=h.sr.Hn t b f
   grind
 .intro t i f;rcases DH f with⟨I,f⟩|⟨rfl,_,x⟩
  .obtain⟨b,c,y,j,n,z,F,Q,R⟩:=h.sr.loc t i f
   grind
  .cases x;exact⟨w.heap.size,d,e,c_,h.big,by show(w.heap.push _)[_]?=_;simp,v,M,λJ=>by have:=(JL.lt h.sr.wr J).1;omega⟩
 .intro t N b f q;split at f<;>split at q
  .omega
  .grind
  .grind
  .exact h.sr.HS t N b f q
 .refine⟨?_,h.sr.wr.inj,h.sr.wr.own,h.sr.wr.ro,h.sr.wr.JP,?_⟩
  .intro id o i' B;obtain⟨p,j,n⟩:=h.sr.wr.obj id o i' B;exact⟨p,j,by rw[l _ (kV B n)];exact n⟩
  .intro g vs G;obtain⟨j,n,c,y,P,z,F⟩:=h.sr.wr.Fe g vs G
   grind
 .intro t b f;split at f
  .cases f;exact h.E'.size
  .exact h.fresh t b f
def FI.GV(h:FI C base o9 s8 o8 la mu g9 a w){s b:Nat}{vs j:Tn}{c cs:Tl}{e:TP}(R:g9.loc[s]?=some (some vs))(G:la s=some b)(I:w.heap[b]?=some (.cells c e (0,0)))
  (W:vc DP mu j cs.toList) (Q:j.all bg=true):FI C base o9 s8 o8 la mu { g9 with loc:=g9.loc.set s (some j) } a (w.setRow b cs):=by
 have H:b<w.heap.size:=(JX.1 I).1;have A:¬JL mu g9.heap b/\base<=b:=by
  obtain⟨l,u,v,d,m,_,_,_,E⟩:=h.sr.loc s vs R
  simp_all
 have f:∀k,k≠b->(w.setRow b cs).heap[k]?=w.heap[k]?:=λk y=>setRow_other w b k cs y;have J:(w.setRow b cs).heap[b]?=some (.cells cs e (0,0)):=setRow_heap w b c cs e (0,0) I;have K:s<g9.loc.length:=by
  grind
 have N:=h.fresh s b G;refine⟨⟨h.sr.E9,?_,?_,h.sr.HS,?_⟩,?_,h.fresh,?_,h.low⟩
 .intro t l n;obtain⟨q,d⟩:=h.sr.Hn t l n
  grind
 .intro t q n;rcases DH n with⟨z,n⟩|⟨rfl,_,S⟩
  .obtain⟨l,u,v,d,m,x,D,M,E⟩:=h.sr.loc t q n;exact⟨l,u,v,d,m,by rw[f l λL=>z (h.sr.HS t s l d (L▸G))];exact x,D,M,E⟩
  simp_all
 .refine⟨?_,h.sr.wr.inj,h.sr.wr.own,h.sr.wr.ro,h.sr.wr.JP,?_⟩
  .intro id o i' F;obtain⟨p,d,m⟩:=h.sr.wr.obj id o i' F;refine⟨p,d,?_⟩;by_cases B:p.b=b
   · -- an object that is only read may lie below
    exfalso;by_cases i:o.owned=true
    .exact A.1 ⟨id,o,p,i',i,d,B⟩
    .have:=h.sr.wr.ro id o p i' F (by simpa using i) d;omega
   simp_all
  .intro g vs O;obtain⟨d,m,u,v,U,x,D⟩:=h.sr.wr.Fe g vs O
   grind
 .refine⟨h.E'.len,h.E'.same,i_,λk y P=>?_,h.E'.Fk,h.E'.os,h.E'.tape,h.E'.output,h.E'.dr⟩;rw[f k a_];exact h.E'.ka k y P
 .obtain⟨T,d,m,x⟩:=h.marks;refine⟨T,d,m,λr V=>?_⟩
  grind
end
end
end
section
variable [DB] [Fc]
section
variable {C:m8} {base:Nat} {o9:Tu} {s8:ke} {o8:TS} {la:q_} {mu:ke} {g9:St} {a:Act} {w:TS}
def nJ{ops:To}{o:Oper}{t:Bool}(h:vc la mu g9.tmps a.tmps.toList)(c:cE ops g9.tmps o=some t):Region.wanted o (yielded ops a.tmps)=t:=by
 unfold cE at c;unfold Region.wanted;cases n:o.guard with
 |none=>simp_all
 |some q=>
  obtain⟨j,k⟩:=q;rw[n]at c;simp only at c ⊢;unfold yielded;cases m:(ops[j]?).bind (·.dst)with
  |none=>
   simp_all
  |some d=>
   rw[m]at c;simp only[Ex]at c ⊢;cases i:g9.tmps[d]? with
   |none=>
    rw[i]at c;cases c;have:a.tmps[d]?=none:=by
     have x:=h.1
     simp_all
    rw[this];simp
   |some v=>
    rw[i]at c;obtain⟨r,l,f⟩:=h.get i;rw[show a.tmps[d]?=some r by simpa using l];cases v with
    |bool b=>
     have:=f.bool
     simp_all
    |tuple y=>
     split at c
     next b e=>cases e
     next s e=>
      cases e;split at c
      .cases c
      next g=>
       cases c;obtain⟨u,rfl,_⟩:=f.Nv g;rfl
     simp_all
    |_=>
     cases c;cases f<;>first|rfl|(rename_i p;simp[Am.scalar]at p)
def je{b_:TC}{d:Tg}{o:Oper}{e:EZ}(h:au C b_ d o=some e):∀c,o.op≠.defer c:=by
 intro c b;unfold au at h;rw[b]at h;cases h
structure Kept(g9:St)(mu:ke)(j6:St)(mu':ke):Prop where
 len:g9.heap.length<=j6.heap.length
 same:∀k,k<g9.heap.length->mu' k=mu k
def St.Sz(g9:St)(d:Tq)(v:TR):(g9.put d v).heap=g9.heap:=by cases d<;>rfl
theorem Kept.refl{g9:St}{mu:ke}:Kept g9 mu g9 mu:=⟨B8 _,λ_ _=>rfl⟩
def Kept.put{g9:St}{mu:ke}{l:List (Option (Tn))}{d:Tq}{v:TR}:Kept g9 mu (({ g9 with loc:=l }:St).put d v) mu:=⟨by rw[St.Sz];exact B8 _,λ_ _=>rfl⟩
def Kept.heap{g9:St}{mu b:ke}{w w':TS}{H:Tu}{d:Tq}{v:TR}(h:Fv g9.heap mu w H b w'):Kept g9 mu (({ g9 with heap:=H }:St).put d v) b:=⟨by rw[St.Sz];exact h.len,h.same⟩
def xA{B:Below}(X:BOk C B){b_:TC}{ops:To}{i:Nat}{S:St}(h:FI C base o9 s8 o8 la mu g9 a w)(G:aq C B b_ ops i g9 S)(b:Frame)(rest:TC)(k:TB)(cs:List Frame) :
  ∃a' w' T u,FI C base o9 s8 o8 T u S a' w'/\Kept g9 mu S u/\
   Steps C.P (lone (b.atR a (.inRegion ops (i :: rest) :: k)) cs w) (lone (b.atR a' (.inRegion ops rest :: k)) cs w'):=by
 unfold aq at G;split at G
 next y=>
  subst G;refine⟨a,w,la,mu,h,.refl,.one ?_⟩;have:=stepR_op_skip (P:=C.P) (b:=b) (a:=a) (k:=k) (cs:=cs) (w:=w) (ops:=ops) (i:=i) (rest:=rest) (by simp[y]);simpa[y,Act.put]using this
 next o y=>
  split at G
  .exact G.elim
  next R=>
   subst G;have g:=nJ (a:=a) h.sr.E9 R;refine⟨a.put o.dst undef,w,la,mu,h.put o.dst .undef,.put,.one ?_⟩;have:=stepR_op_skip (P:=C.P) (b:=b) (a:=a) (k:=k) (cs:=cs) (w:=w) (ops:=ops) (i:=i) (rest:=rest) (by simp[y,g]);simpa[y]using this
  next R=>
   have g:=nJ (a:=a) h.sr.E9 R;rcases G with G|⟨v,Z,rfl⟩
   case inr=>
    obtain⟨v',x,n⟩:=O7 h.sr Z;refine⟨_,w,la,mu,h.put o.dst n,.put,.one (dM y g (λc M=>?_) x)⟩;have E:=Z.1;rw[M]at E;cases E
   obtain⟨e,Y,I⟩:=G;have t:=je Y;have z:=zV h.sr h.big Y;cases e with
   |val v=>
    obtain⟨p,d,rfl⟩:=I;cases d;obtain⟨v',x,n⟩:=z;exact⟨_,w,la,mu,h.put o.dst n,.put,.one (dM y g t x)⟩
   |GU s K=>
    obtain⟨p,d,rfl⟩:=I;simp only[aX]at d;split at d
    next m=>
     cases d;obtain⟨N,W,x,n,F⟩:=z;have J:=(h.GU (e:=W) m n F).put o.dst (v:=.pointer (some ⟨s,0,some 0⟩)) (v':=.pointer (some ⟨w.heap.size,0,none⟩)) (.FD c_);exact⟨_,_,_,_,J,.put,.one (dM y g t x)⟩
    .cases d
   |Ir s f=>
    obtain⟨p,d,rfl⟩:=I;simp only[aX]at d;split at d
    next K m=>
     cases j:f K with
     |none=>simp_all
     |some v=>
      rw[j]at d;cases d;obtain⟨v',x,n⟩:=z K v m j;exact⟨_,w,la,mu,h.put o.dst n,.put,.one (dM y g t x)⟩
    .cases d
   |GV s f=>
    obtain⟨p,d,rfl⟩:=I;simp only[aX]at d;split at d
    next K m=>
     cases j:f K with
     |none=>simp_all
     |some U=>
      rw[j]at d;cases d;obtain⟨bl,c,ag,W,x,n,F,E,D⟩:=z K U m j;have J:=(h.GV m x n E D).put o.dst (v:=undef) (v':=undef) .undef;exact⟨_,_,_,_,J,.put,.one (sV y g t F)⟩
    .cases d
   |Gf f=>
    obtain⟨p,d,rfl⟩:=I;simp only[aX]at d;cases j:f g9.heap with
    |none=>simp_all
    |some v=>
     rw[j]at d;cases d;obtain⟨v',x,n⟩:=z v j;exact⟨_,w,la,mu,h.put o.dst n,.put,.one (dM y g t x)⟩
   |Hk f=>
    obtain⟨p,d,rfl⟩:=I;simp only[aX]at d;cases j:f g9.heap with
    |none=>simp_all
    |some q=>
     rw[j]at d;cases d;obtain⟨nx,v',w',u,x,n,F,E,D,_⟩:=z q.1 q.2 j;have J:=(h.heap E D).put o.dst F.up;rcases n with rfl|⟨rfl,rfl⟩
     .exact⟨_,w',la,u,J,.heap D,.one (dM y g t x)⟩
     .exact⟨_,w',la,u,J,.heap D,.one (sV y g t x)⟩
   |call f L=>
    obtain⟨r,H,M,rfl⟩:=I;obtain⟨A,x,n⟩:=z;obtain⟨v,u,w',F,E,D,O,Q⟩:=X.call _ _ _ _ _ M _ base mu w A h.big x h.sr.wr (b.atR a (.inRegion ops (i :: rest) :: k) :: cs);rw[O]at n;refine⟨_,w',la,u,(h.heap E D).put o.dst F.up,.heap D,?_⟩;obtain⟨fr,s1,s2,s3⟩:=Q;refine .head (CN y g t n) (s1.trans (.one ?_));rw[←wg y v];exact step_leave_returned s3
   |yield l L=>
    obtain⟨r,H,M,rfl⟩:=I;obtain⟨p,A,d,x,n⟩:=z;obtain⟨v,u,w',fn,ad,assign,V,F,E,D,O,Q⟩:=X.yield _ _ _ _ _ M _ base mu w A p h.big d x h.sr.wr (b.atR a (.inRegion ops (i :: rest) :: k)) cs;rw[O]at n;refine⟨_,w',la,u,(h.heap E D).put o.dst F.up,.heap D,?_⟩;refine .head (O5 y g t n) ?_;rw[←wg y v];exact Q
def Bs{B:Below}(f:BOk C B){b_:TC}{ops:To}{i:Nat}{e:St}(h:FI C base o9 s8 o8 la mu g9 a w)(g:aq C B b_ ops i g9 e)(b:Frame)(rest:TC)(k:TB)(cs:List Frame) :
  ∃a' w' c d,FI C base o9 s8 o8 c d e a' w'/\
   Steps C.P (lone (b.atR a (.inRegion ops (i :: rest) :: k)) cs w) (lone (b.atR a' (.inRegion ops rest :: k)) cs w'):=
 let ⟨a',w',c,d,h1,_,h2⟩:=xA f h g b rest k cs
 ⟨a',w',c,d,h1,h2⟩
def FI.MW{b:St}(h:FI C base o9 s8 o8 la mu g9 a w)(n:gJ g9 b):FI C base o9 s8 o8 la mu b a w:=by
 obtain⟨d,e,f,g⟩:=n;obtain⟨l,s,heap⟩:=b;simp only at d e f g;subst d e;refine⟨⟨⟨by rw[f];exact h.sr.E9.1,λi y c o m=>?_⟩,h.sr.Hn,h.sr.loc,h.sr.HS,h.sr.wr⟩,h.E',h.fresh,h.marks,h.low⟩;have j:i<g9.tmps.length:=by
  grind
 have k:=h.sr.E9.2 i g9.tmps[i] c (by simp[j]) m;rcases g i g9.tmps[i] y (by simp[j]) o with rfl|⟨p,q,r⟩
 .exact k
 .rw[Be p k,r];exact wZ q
def Br{B:Below}(g:BOk C B){b_:TC}{ops:To}(b:Frame)(k:TB)(cs:List Frame):∀(l:TC) (g9 c:St) (a:Act) (w:TS) (la:q_) (mu:ke),FI C base o9 s8 o8 la mu g9 a w->gj C B b_ ops l g9 c->
  ∃a' w' e f,FI C base o9 s8 o8 e f c a' w'/\
   Steps C.P (lone (b.atR a (.inRegion ops l :: k)) cs w) (lone (b.atR a' k) cs w')
 | [],g9,c,a,w,la,mu,h,d=>by
  cases d;exact⟨a,w,la,mu,h,.one stepR_region_end⟩
 |i :: l,g9,c,a,w,la,mu,h,d=>by
  obtain⟨z,j9,h0,h1,r⟩:=d;obtain⟨s,t,x,v,n,o⟩:=Bs g (h.MW h0) h1 b l k cs;obtain⟨j,u,m,y,p,q⟩:=Br g b k cs l j9 c s t x v n r;exact⟨j,u,m,y,p,o.trans q⟩
def M8{B:Below}(g:BOk C B){b_:TC}{ops:To}(b:Frame)(k:TB)(cs:List Frame):∀(l:TC) (g9 c:St) (a:Act) (w:TS) (la:q_) (mu:ke),FI C base o9 s8 o8 la mu g9 a w->br C B b_ ops l g9 c->
  ∃a' w' e f,FI C base o9 s8 o8 e f c a' w'/\
   Steps C.P (lone (b.atR a (.inRegion ops l :: k)) cs w) (lone (b.atR a' k) cs w')
 | [],g9,c,a,w,la,mu,h,d=>by
  cases d;exact⟨a,w,la,mu,h,.one stepR_region_end⟩
 |i :: l,g9,c,a,w,la,mu,h,d=>by
  obtain⟨j9,h1,r⟩:=d;obtain⟨s,t,x,v,n,o⟩:=Bs g h h1 b l k cs;obtain⟨j,u,m,y,p,q⟩:=M8 g b k cs l j9 c s t x v n r;exact⟨j,u,m,y,p,o.trans q⟩
def EA.at_{mk:Nat->TR}(h:EA mk){la:q_}{mu d:ke}{L k:Nat}{v:TR}(f:VR la mu (mk L) v)(g:∀p,mu L=some p->d k=some p):VR la d (mk k) v:=by
 cases h with
 |ptr=>
  cases f with
  |scalar h=>simp[Am.scalar]at h
  |ET h=>exact .ET (g _ h)
 |slice e l c=>
  generalize j:le e=s at f ⊢;cases f with
  |scalar h=>simp[Am.scalar]at h
  |A6 h m i b=>exact .A6 (g _ h) m i b
  |x_ b=>exact .x_ b
  |DN i b=>simp[le]at j
  |B3 b=>simp[le]at j
 |map=>
  cases f with
  |scalar h=>simp[Am.scalar]at h
  |map h=>exact .map (g _ h)
def dG(mu:ke)(L k:Nat):ke:=λj=>if j=k then mu L else if j=L then none else mu j
def jN{b:Tu}{o x:s_}{j k:Nat}(mu:ke)(h:(b.set k o)[j]?=some x):j<b.length/\(b++[o])[if j=k then b.length else j]?=some x/\dG mu b.length k j=mu (if j=k then b.length else j):=by
 have c:j<b.length:=by
  grind
 refine⟨c,?_,?_⟩
 .grind
 .unfold dG
  grind
def WR.pad(h:WR C base mu g9.heap w)(n:Nat):WR C base mu (g9.pad n).heap w/\Fv g9.heap mu w (g9.pad n).heap mu w:=by
 have e:∀ {j:Nat} {x:s_},(g9.pad n).heap[j]?=some x->x.alive=true->g9.heap[j]?=some x:=by
  intro j x c d;simp only[St.pad,d8]at c;split at c
  .exact c
  .rw[ZL]at c;split at c
   .cases c;cases d
   .cases c
 refine⟨⟨λid o l d=>h.obj id o (e l d) d,λi j t u v y f c g k=>h.inj i j t u v y (e f (bQ g)) (e c k) g k,λi o p f l=>h.own i o p (e f (bQ l)) l,
  λi o p f d=>h.ro i o p (e f d) d,λid i'=>h.JP id (by simp[St.pad]at i';omega),h.Fe⟩,⟨by simp[St.pad],λ_ _=>rfl,B8 _,λ_ _ _=>rfl,?_,rfl,rfl,rfl,B8 _⟩⟩
 rintro b ⟨id,o,p,q,m,r,s⟩;exact .inr ⟨id,o,p,e q (bQ m),m,r,s⟩
def FI.pad(h:FI C base o9 s8 o8 la mu g9 a w)(n:Nat):FI C base o9 s8 o8 la mu (g9.pad n) a w:=h.heap (h.sr.wr.pad n).1 (h.sr.wr.pad n).2
def FI.slot(h:FI C base o9 s8 o8 la mu g9 a w){f:Tu}{o:s_}{d:ke}{w':TS}{k:Nat}(G:WR C base d (f++[o]) w')(z:Fv g9.heap mu w (f++[o]) d w')(v:ea mu d (f++[o]) w')
  (hl:f.length=g9.heap.length) (Z:f[k]?=some .dead) (hn:mu k=none) (ad:o9.length<=k):FI C base o9 s8 o8 la (dG d f.length k) { g9 with heap:=f.set k o } a w':=by
 have ag:k<f.length:=(b1.1 Z).1;have q:=h.E'.trans z;have F:∀i p,mu i=some p->dG d f.length k i=some p:=by
  intro i p y;have u:i<g9.heap.length:=by
   rcases HG i g9.heap.length with l|l
   .exact l
   .rw[h.sr.wr.JP i l]at y;cases y
  unfold dG;rw[rv (λe=>j_),rv a_,z.same i u];exact y
 have n:∀b,JL (dG d f.length k) (f.set k o) b->JL d (f++[o]) b:=by
  rintro b ⟨id,x,p,l,t,m,A⟩;obtain⟨_,P,Q⟩:=jN d l;exact⟨_,x,p,P,t,by rw[←Q];exact m,A⟩
 have V:WR C base (dG d f.length k) (f.set k o) w':=by
  refine⟨?_,?_,?_,?_,?_,?_⟩
  .intro id x i' H;obtain⟨_,P,Q⟩:=jN d i';obtain⟨p,p1,p2⟩:=v _ x P H;exact⟨p,by rw[Q];exact p1,p2.mono F⟩
  .intro i j oi oj pi pj u Y L M X B D;obtain⟨i1,E,i3⟩:=jN d u;obtain⟨j1,j2,j3⟩:=jN d Y;rw[i3]at B;rw[j3]at D;refine G.inj _ _ oi oj pi pj E j2 L M ?_ B D
   grind
  .intro i x p u O y;obtain⟨_,E,i3⟩:=jN d u;exact G.own _ x p E O (by rw[←i3];exact y)
  .intro i x p u H O y;obtain⟨_,E,i3⟩:=jN d u;exact G.ro _ x p E H O (by rw[←i3];exact y)
  .intro id i';simp at i';unfold dG;rw[rv a_];split
   .rfl
   .exact G.JP id tt
  .intro g R W;obtain⟨l,t,c,e,T,m,A⟩:=h.sr.wr.Fe g R W;have K:Fz g<w.heap.size:=(JX.1 m).1;exact⟨l,t,c,e,T,by rw[z.ka _ K (λv=>by have:=(JL.lt h.sr.wr v).2;omega)];exact m,A.mono F⟩
 have J:=h.E'.len;refine⟨⟨h.sr.E9.mono (λ_ _ h=>h) F,h.sr.Hn,?_,h.sr.HS,V⟩,⟨tt,?_,q.size,q.ka,λb I=>q.Fk b (n b I),q.os,q.tape,q.output,q.dr⟩,h.fresh,?_,h.low⟩
 .intro s R hs;obtain⟨b,c,e,l,t,m,A,U,S⟩:=h.sr.loc s R hs;have I:b<w.heap.size:=(JX.1 m).1;exact⟨b,c,e,l,t,by rw[z.ka b I S];exact m,A,U.mono (λ_ _ h=>h) F,λv=>(z.Fk b (n b v)).elim (λhh=>a_) S⟩
 .intro id i';unfold dG;rw[rv a_,rv a_];exact q.same id i'
 .obtain⟨rs,l,t,m⟩:=h.marks.E' z;exact⟨rs,l,t,λr N=>⟨(m r N).1,(m r N).2.1,λv=>(m r N).2.2 (n r v)⟩⟩
def qW{B:Below}(F:BOk C B){b_:TC}{ops:To}{t:Nat->Ts}(d:∀i j k,t i=some k->t j=some k->i=j)(h0:∀i k,t i=some k->o9.length<=k)(b:Frame)(k:TB)(cs:List Frame) :
  ∀(l:TC) (g9 n:St) (a:Act) (w:TS) (la:q_) (mu:ke),FI C base o9 s8 o8 la mu g9 a w->(∀i∈l,∀k,t i=some k->k<g9.heap.length/\mu k=none)->jP C B b_ ops t l g9 n->
  ∃a' w' T m,FI C base o9 s8 o8 T m n a' w'/\
   Steps C.P (lone (b.atR a (.inRegion ops l :: k)) cs w) (lone (b.atR a' k) cs w')
 | [],g9,n,a,w,la,mu,h,_,N=>by
  cases N;exact⟨a,w,la,mu,h,.one stepR_region_end⟩
 |i :: l,g9,n,a,w,la,mu,h,Q,N=>by
  obtain⟨ad,j9,h1,Y⟩:=N;unfold eN at h1;split at h1
  .obtain⟨t7,t9,v6,u7,g1,X,g2⟩:=xA F h h1 b l k cs;obtain⟨z,V,A,W,D,E⟩:=qW F d h0 b k cs l j9 n t7 t9 v6 u7 g1 (λj G k v=>by
    obtain⟨y,U⟩:=Q j (FZ _ G) k v;exact⟨qdc y X.len,by rw[X.same k y];exact U⟩) Y
   exact⟨z,V,A,W,D,g2.trans E⟩
  next r v=>
   obtain⟨o,f,Hx,x,mk,ho,hw,Z,hf,hl,hd,q,rfl⟩:=h1;have R:=nJ (a:=a) h.sr.E9 hw;have J:=je Z;have M:=zV h.sr h.big Z;obtain⟨nx,v',w',m,y,U,s,q4,q5,q6⟩:=M _ _ hf;obtain⟨u1,u2⟩:=Q i c_ r v;have hS:=h.slot q4 q5 q6 hl hd u2 (h0 i r v);have I:VR DP (dG m Hx.length r) (mk r) v':=q.at_ s (λp hp=>by
    unfold dG
    simp_all)
   have hF:=hS.put o.dst I.up;have L:nx = .value v':=by
    rcases U with h|⟨_,rfl⟩
    .exact h
    .exfalso;cases q with
     |ptr=>cases s
     |slice e l c=>
      generalize g:(Value.slice (some ⟨g9.heap.length,0,le e⟩) l c)=u at s;cases s<;>first|cases g|(rename_i O;subst g;simp[Am.scalar]at O)
     |map=>cases s
   subst L;obtain⟨z,V,A,W,D,E⟩:=qW F d h0 b k cs l _ n _ _ _ _ hF (λj G S H=>by
    obtain⟨p1,p2⟩:=Q j (FZ _ G) S H;have K:S≠r:=λe=>by
     grind
    refine⟨?_,?_⟩
    .cases o.dst<;>simp[St.put,hl]<;>exact p1
    .unfold dG;rw[rv K,rv a_,q5.same S p1];exact p2) Y
   exact⟨z,V,A,W,D,(Steps.one (dM ho R J y)).trans E⟩
def X7{B:Below}(l:BOk C B){b_:TC}{ops:To}{m:St}(h:FI C base o9 s8 o8 la mu g9 a w)(f:eW C B b_ ops g9 m)(t:Nat)(b:Frame)(k:TB)(cs:List Frame) :
  ∃a' w' g j,FI C base o9 s8 o8 g j m a' w'/\
   Steps C.P (lone (b.atR a (.inRegion ops (Region.linearise .any ops t) :: k)) cs w) (lone (b.atR a' k) cs w'):=by
 rcases f with f|⟨q,n,_,e,o,p⟩
 .exact M8 l b k cs _ _ _ _ _ _ _ h (f t)
 .have c:=h.E'.len;exact qW l o (λi k d=>Pm c (e i k d).1) b k cs _ _ _ _ _ _ _ (h.pad n) (λi _ k d=>⟨by simpa[St.pad]using(e i k d).2,h.sr.wr.JP k (e i k d).1⟩) (p t)
end
end
section
variable [DB]
section
variable [Fc] {C:m8} {base:Nat} {o9:Tu} {s8:ke} {o8:TS} {la:q_} {mu:ke} {g9:St} {a:Act} {w:TS}
def fU(b:TC):∀(l:List (Option (Tn))) (i j:Nat),(jb b l i)[j]?=if b.contains (i+j)then(l[j]?).map (λ_=>none)else l[j]?
 | [],i,j=>by simp[jb]
 |x :: l,i,j=>by
  cases j with
  |zero=>simp only[jb,qcd,e2];split<;>rfl
  |succ j=>
   simp only[jb,bm];rw[fU b l (i+1) j,show i+1+j=i+(j+1)by omega]
def NR{b:TC}{v c:TR}(h:VR la mu v c):VR (λs=>if b.contains s then none else la s) mu (kf b v) c:=by
 unfold kf;split
 next f=>
  split
  .exact .w6 c
  next d=>
   cases h with
   |scalar h=>simp[Am.scalar]at h
   |FD h=>
    simp at d;exact .FD (by simp[d,h])
   |ET h=>exact .ET h
   |E2=>exact .E2
 .split
  next e=>exact(fP e h).up
  .exact .w6 c
def FI.clear(h:FI C base o9 s8 o8 la mu g9 a w)(d:TC):∃m,FI C base o9 s8 o8 m mu (g9.clear d) a w:=by
 unfold St.clear;split
 .exact⟨la,h⟩
 .refine⟨λs=>if d.contains s then none else la s,⟨?_,?_,?_,?_,h.sr.wr⟩,h.E',?_,h.marks,h.low⟩
  .refine⟨by simpa using h.sr.E9.1,λi x y k q=>?_⟩;rw[FM]at k;cases l:g9.tmps[i]? with
   |none=>rw[l]at k;cases k
   |some v=>
    rw[l]at k;cases k;exact NR (h.sr.E9.2 i v y l q)
  .intro s b f;split at f
   .cases f
   next p=>
    obtain⟨n,o⟩:=h.sr.Hn s b f;exact⟨n,by rw[fU,F9,rv p];exact o⟩
  .intro s n g;rw[fU,F9]at g;split at g
   .simp_all
   next p=>
    obtain⟨b,c,e,o,t⟩:=h.sr.loc s n g
    simp_all
  .intro s r b g j;split at g
   .cases g
   .split at j
    .cases j
    .exact h.sr.HS s r b g j
  .intro s b f;split at f
   .cases f
   .exact h.fresh s b f
def FI.drew(h:FI C base o9 s8 o8 la mu g9 a w)(n:Nat)(b:w.drawn<=n):FI C base o9 s8 o8 la mu g9 a { w with drawn:=n }:=
 ⟨⟨h.sr.E9,h.sr.Hn,h.sr.loc,h.sr.HS,h.sr.wr.drew n⟩,h.E'.drew n b,h.fresh,h.marks,h.low⟩
def zq{P:TI}{b:Frame}{a:Act}{k:TB}{cs:List Frame}{w:TS}{c:Code} :
  step P (lone (b.atR a (.code (.scope c) :: k)) cs w) = .next (lone (b.atR a (.code c :: .inScope c :: k)) cs w):=
 step_lone_go (by simp[stepG,stepG.exec,Frame.atR])
def vo{P:TI}{b:Frame}{a:Act}{k:TB}{cs:List Frame}{w:TS}{c:Code} :
  step P (lone (b.atR a (.inScope c :: k)) cs w) = .next (lone (b.atR a k) cs w):=
 step_lone_go (by simp[stepG,stepG.exec,Frame.atR])
def Arr(P:TI)(b:Frame)(k:TB)(cs:List Frame)(m:Machine)(a':Act)(w':TS):Exit->Prop
 | .normal=>Steps P m (lone (b.atR a' k) cs w')
 | .ret=>∃c,Steps P m (lone (b.atR a' (.code .ret :: c)) cs w')
 | .exit id=>∃c,Steps P m (lone (b.atR a' (.code (.exit id) :: c)) cs w')/\exitTo id c=exitTo id k
 |_=>False
def Arr.of_steps{P:TI}{b:Frame}{k:TB}{cs:List Frame}{m d:Machine}{a':Act}{w':TS}{e:Exit}(h:Steps P m d)(h':Arr P b k cs d a' w' e):Arr P b k cs m a' w' e:=by
 cases e with
 |normal=>exact h.trans h'
 |ret=>obtain⟨t,h'⟩:=h';exact⟨t,h.trans h'⟩
 |exit id=>obtain⟨t,h',c⟩:=h';exact⟨t,h.trans h',c⟩
 |_=>exact h'.elim
def Arr.pass{P:TI}{b:Frame}{x:Item}{k:TB}{cs:List Frame}{m:Machine}{a':Act}{w':TS}{e:Exit}(g:∀id,exitTo id (x :: k)=exitTo id k)(f:e≠.normal)(h:Arr P b (x :: k) cs m a' w' e):Arr P b k cs m a' w' e:=by
 cases e with
 |normal=>exact absurd rfl f
 |ret=>exact h
 |exit id=>obtain⟨t,d,c⟩:=h;exact⟨t,d,by rw[c,g]⟩
 |_=>exact h.elim
end
def rG(C:m8)(S:Gw):Prop:=
 ∀(_:Fc) (c:Nat) (i:Tu) (l:ke) (h:TS) (j:Ts) (m:TQ) (b_:TC) (code:Code) (g9 g:St) (e:Exit) (la:q_) (mu:ke) (a:Act) (w:TS),(b_≠[]->j=none)->
  S.ex b_ code g9 e g->FI C c i l h la mu g9 a w->∀(b:Frame) k cs,b.roundOf=j->b.fn=m->
  ∃a' w' d f,FI C c i l h d f g a' w'/\Arr C.P b k cs (lone (b.atR a (.code code :: k)) cs w) a' w' e
section
variable [Fc] {C:m8} {base:Nat} {o9:Tu} {s8:ke} {o8:TS} {la:q_} {mu:ke} {g9:St} {a:Act} {w:TS}
def oV(e:WR C base mu g9.heap w){id:Nat}{r:GJ}(h:fg g9.heap id=some r):∃p,mu id=some p/\g9.heap[id]?=some (.loop r)/\
  ∃L:Loop,w.heap[p.b]?=some (.loop L)/\L.state=r.state/\L.pending=r.pending/\L.params.toList=r.params/\L.assign=r.assign/\L.body=r.body/\vc DP mu r.tmps L.tmps.toList:=by
 unfold fg at h;split at h
 next f i'=>
  cases h;obtain⟨p,c,d⟩:=e.obj id _ i' rfl;exact⟨p,c,i',d⟩
 .cases h
def WR.IF(i:WR C base mu g9.heap w){id:Nat}{r r':GJ}{p:Pl}{L':Loop}(i':g9.heap[id]?=some (.loop r))(h:mu id=some p)
  (h1:L'.state=r'.state) (c:L'.pending=r'.pending) (d:L'.params.toList=r'.params) (e:L'.assign=r'.assign) (f:L'.body=r'.body) (g:vc DP mu r'.tmps L'.tmps.toList) :
  WR C base mu (g9.heap.set id (.loop r')) { w with heap:=w.heap.setIfInBounds p.b (.loop L') }/\Fv g9.heap mu w (g9.heap.set id (.loop r')) mu { w with heap:=w.heap.setIfInBounds p.b (.loop L') }:=
 i.set (w':={ w with heap:=w.heap.setIfInBounds p.b (.loop L') }) (x:=.loop L') i' rfl h rfl rfl rfl rfl (.loop r') (λ_=>rfl) ⟨L',rfl,h1,c,d,e,f,g⟩
def O1{b tm:Tn}{cs:Tn}(c:zD b tm)(h:vc la mu b cs):vc DP mu tm cs:=by
 refine⟨by rw[c.1,h.1],λi x y f g=>?_⟩;rcases c.2 i x f with rfl|⟨d,e⟩
 .exact .w6 y
 .exact fP e (h.2 i x y d g)
def WR.other(e:WR C base mu g9.heap w)(o:Obj):WR C base mu g9.heap (w.alloc o)/\Fv g9.heap mu w g9.heap mu (w.alloc o):=by
 have d:∀b,b<w.heap.size->(w.alloc o).heap[b]?=w.heap[b]?:=λb f=>by
  show(w.heap.push _)[b]?=_
  grind
 refine⟨⟨?_,e.inj,e.own,e.ro,e.JP,?_⟩,⟨B8 _,λ_ _=>rfl,c_,λb f _=>d b f,λb f=>.inr f,rfl,rfl,rfl,B8 _⟩⟩
 .intro id x i' j;obtain⟨p,i,h⟩:=e.obj id x i' j;exact⟨p,i,by rw[d _ (kV j h)];exact h⟩
 .intro g l k;obtain⟨i,h,c,m,n,q,r⟩:=e.Fe g l k
  grind
def iz{l:Nat}{L:Loop}(h:w.heap[l]?=some (.loop L)):(Instr.getLoop l).run C.P w = .ok L w:=by
 have:(getObj l).run C.P w = .ok (.loop L) w:=by simp[getObj,Sem.run,h]
 simp[Instr.getLoop,this]
def lh{l:Nat}{L:Loop}{o:Obj}(h:w.heap[l]?=some (.loop L)):(setObj l o).run C.P w = .ok () { w with heap:=w.heap.setIfInBounds l o }:=by
 simp[setObj,Sem.run,h]
def ze{l:Nat}{L:Loop}(h:w.heap[l]?=some (.loop L))(b:L.state≠.busy) :
  (Instr.endLoop l).run C.P w = .ok L.pending { w with heap:=w.heap.setIfInBounds l (.loop { L with state:=.exhausted }) }:=by
 simp[Instr.endLoop,Sem.run_bind,iz h,lh h,Result.andThen]
 simp_all
def rD{l:Nat}{L:Loop}(h:w.heap[l]?=some (.loop L))(b:L.state = .ready) :
  (Instr.beginRound l).run C.P w = .ok () { w with heap:=w.heap.setIfInBounds l (.loop { L with state:=.busy }) }:=by
 simp[Instr.beginRound,Sem.run_bind,iz h,b,lh h,Result.andThen]
def xm{l:Nat}{L:Loop}(h:w.heap[l]?=some (.loop L))(j:Tm) :
  (Instr.endRound l j).run C.P w = .ok (.bool j.isNone) { w with heap:=w.heap.setIfInBounds l (.loop { L with state:=if j.isNone then .ready else .done,pending:=j }) }:=by
 simp[Instr.endRound,Sem.run_bind,iz h,lh h,Result.andThen]
end
section
variable {C:m8}
def NT(hm:C.P.follows .mixedOrders=true){S:Gw}(hB:BOk C S.toBelow)(hS:rG C S):rG C { S with ex:=qe C S }:=by
 intro _ d Y Z X ro fn D a0 g9 j6 e Q I a w B j h b k cs hb V;cases a0 with
 |skip=>
  obtain⟨rfl,rfl⟩:=j;exact⟨a,w,Q,I,h,.one stepR_skip⟩
 |label l=>
  obtain⟨rfl,rfl⟩:=j;exact⟨a,w,Q,I,h,.one stepR_label⟩
 |ret=>
  obtain⟨rfl,rfl⟩:=j;exact⟨a,w,Q,I,h,⟨k,.refl _ _⟩⟩
 |exit id=>
  obtain⟨rfl,rfl⟩:=j;exact⟨a,w,Q,I,h,⟨k,.refl _ _,rfl⟩⟩
 |goto l=>exact j.elim
 |refuse s=>exact j.elim
 |seq x y=>
  obtain⟨uc,j9,N,h2⟩:=j;obtain⟨q,z,K,J,E,F⟩:=hS _ d Y Z X ro fn D x g9 j9 uc Q I a w B N h b (.code y :: k) cs hb V;rcases h2 with⟨rfl,h2⟩|⟨A,rfl,rfl⟩
  .obtain⟨A4,R,A5,y9,g3,g4⟩:=hS _ d Y Z X ro fn D y j9 j6 e K J q z B h2 E b k cs hb V;exact⟨A4,R,A5,y9,g3,.of_steps (.head stepR_seq F) g4⟩
  .exact⟨q,z,K,J,E,.of_steps (.one stepR_seq) (.pass (λid=>rfl) A F)⟩
 |cond c x y=>
  obtain⟨t,ht,N⟩:=j;obtain⟨q,z,K,J,E,F⟩:=hS _ d Y Z X ro fn D _ g9 j6 e Q I a w B N h b k cs hb V;have hc:=aJ h.sr c;rw[ht]at hc;exact⟨q,z,K,J,E,.of_steps (.one (stepR_cond hc.bool)) F⟩
 |block id x=>
  obtain⟨uc,N,rfl⟩:=j;obtain⟨q,z,K,J,E,F⟩:=hS _ d Y Z X ro fn D x g9 j6 uc Q I a w B N h b (.inBlock id :: k) cs hb V;refine⟨q,z,K,J,E,?_⟩;have g:=F;refine .of_steps (.one stepR_block) ?_;cases uc with
  |normal=>exact Steps.trans g (.one stepR_inBlock)
  |ret=>exact g
  |exit i=>
   obtain⟨t,s1,M⟩:=g;show Arr C.P b k cs _ q z (if i=id then .normal else .exit i);by_cases hi:i=id
   .rw[qs hi];subst hi;have:exitTo i t=some k:=by rw[M];simp[exitTo]
    exact s1.trans (.one (stepR_exit this))
   .rw[rv hi];refine⟨t,s1,?_⟩;rw[M];have A:(id==i)=false:=i_;simp[exitTo,A]
  |_=>exact g.elim
 |loop x=>
  obtain⟨uc,j9,N,h2⟩:=j;obtain⟨C9,h0⟩:=h.clear (aR D x);obtain⟨q,z,K,J,E,F⟩:=hS _ d Y Z X ro fn D x _ j9 uc C9 I a w B N h0 b (.inLoop x :: k) cs hb V;rcases h2 with⟨rfl,h2⟩|⟨A,rfl,rfl⟩
  .obtain⟨A4,R,A5,y9,g3,g4⟩:=hS _ d Y Z X ro fn D (.loop x) j9 j6 e K J q z B h2 E b k cs hb V;refine⟨A4,R,A5,y9,g3,?_⟩;have s1:Steps C.P (lone (b.atR a (.code (.loop x) :: k)) cs w) (lone (b.atR q (.inLoop x :: k)) cs z):=.head stepR_loop F;have M:=g4;have ay:∀T,Steps C.P (lone (b.atR q (.code (.loop x) :: k)) cs z) T->(∃n,runN C.P (n+1) (lone (b.atR q (.code (.loop x) :: k)) cs z) = .next T)∨T=lone (b.atR q (.code (.loop x) :: k)) cs z:=by
    rintro T ⟨n,W⟩;cases n with
    |zero=>simp[runN]at W;exact .inr W.symm
    |succ n=>exact .inl ⟨n,W⟩
   have ax:∀T,Steps C.P (lone (b.atR q (.code (.loop x) :: k)) cs z) T->T≠lone (b.atR q (.code (.loop x) :: k)) cs z->Steps C.P (lone (b.atR q (.inLoop x :: k)) cs z) T:=by
    intro T b0 A;rcases ay T b0 with⟨n,W⟩|rfl
    .refine⟨n+1,?_⟩;simp only[runN,stepR_loop,stepR_inLoop]at W ⊢;exact W
    .exact absurd rfl A
   have G:∀(a':Act) (t:TB) (w':TS),t≠.code (.loop x) :: k->lone (b.atR a' t) cs w'≠lone (b.atR q (.code (.loop x) :: k)) cs z:=by
    intro a' t w' A e;have e':=congrArg (λm:Machine=>(m.gs[0]?).map (λg=>g.frame.todo)) e;simp[lone,Frame.atR]at e';exact A e'
   refine .of_steps s1 ?_;cases e with
   |normal=>
    refine ax _ M (G _ _ _ λe=>?_);have:=congrArg List.length e;simp at this
   |ret=>
    obtain⟨t,M⟩:=M;exact⟨t,ax _ M (G _ _ _ λe=>by simp at e)⟩
   |exit id=>
    obtain⟨t,M,s3⟩:=M;exact⟨t,ax _ M (G _ _ _ λe=>by simp at e),s3⟩
   |_=>exact M.elim
  .exact⟨q,z,K,J,E,.of_steps (.one stepR_loop) (.pass (λid=>rfl) A F)⟩
 |scope x=>
  obtain⟨q,z,K,J,E,F⟩:=hS _ d Y Z X ro fn D x g9 j6 e Q I a w B j h b (.inScope x :: k) cs hb V;refine⟨q,z,K,J,E,.of_steps (.one zq) ?_⟩;have g:=F;by_cases W:e = .normal
  .subst W;exact Steps.trans g (.one vo)
  .exact .pass (λid=>rfl) W g
 |region id b6 a1=>
  obtain⟨rfl,N⟩:=j;cases a1 with
  |false=>
   obtain⟨q,z,K,J,E,F⟩:=Br hB b k cs _ _ _ _ _ _ _ h N;exact⟨q,z,K,J,E,.head stepR_region F⟩
  |true=>
   have hd:FI C d Y Z X Q I g9 a { w with drawn:=w.drawn+1 }:=h.drew _ (Nat.le_succ _);obtain⟨u9,h0,N⟩:=N;obtain⟨q,z,K,J,E,F⟩:=X7 hB (hd.MW h0) N (w.tape w.drawn (.order fn id)) b k cs;refine⟨q,z,K,J,E,.head stepR_region_draw ?_⟩;rw[hm,V];exact F
 |rangeFunc f params assign body=>
  obtain⟨a9,g,first,ag,B4,tm,r,H,w7,aE,bP,b1,av,hl,ap,o,rfl⟩:=j;obtain rfl:=B a9;have a6:=aJ h.sr f;rw[bP]at a6;obtain⟨x',y',bC,r1,r2⟩:=a6.Hj;have ad:first.toList.all aT=true/\ag.toList.all aT=true:=by simpa[nc]using b1
  have d1:vc DP I first.toList x'.toList:=⟨r1.1,λi u v hu hv=>gi (cS ad.1 hu) (r1.2 i u v hu hv)⟩
  have d2:vc DP I ag.toList y'.toList:=⟨r2.1,λi u v hu hv=>gi (cS ad.2 hu) (r2.2 i u v hu hv)⟩;obtain⟨bs,a2⟩:=h.sr.wr.other (.deferred (some []));have b4:(w.alloc (.deferred (some []))).heap[w.heap.size]?=some (.deferred (some [])):=by
   show(w.heap.push _)[_]?=_;simp
  have b2:¬JL I g9.heap w.heap.size:=λho=>by have:=(JL.lt h.sr.wr ho).1;omega
  have al:FI C d Y Z X Q I g9 { a with defers:=({ target:=.collected w.heap.size,args:=#[] }:Deferred) :: a.defers } (w.alloc (.deferred (some []))):=by
   have h':=h.heap bs a2;refine⟨h'.sr,h'.E',h'.fresh,?_,h'.low⟩;obtain⟨rs,k1,k2,k3⟩:=h.marks;have a8:∀r∈rs,r<w.heap.size:=λr hr=>by
    grind
   refine⟨w.heap.size :: rs,by rw[k1];rfl,w9.2 ⟨λhm=>by have:=a8 _ hm;omega,k2⟩,λr hr=>?_⟩;rcases EL.1 hr with rfl|hr
   .exact⟨h.E'.size,b4,b2⟩
   .obtain⟨k4,k5,k6⟩:=k3 r hr;exact⟨k4,by rw[a2.ka r (a8 r hr) k6];exact k5,k6⟩
  have bx:d<=(w.alloc (.deferred (some []))).heap.size:=al.big
  let L:Loop:={ state:=.ready,pending:=none,fn,tmps:=a.tmps,params,assign,body,defers:=w.heap.size }
  let R:TS:=(w.alloc (.deferred (some []))).alloc (.loop L)
  let p:Pl:=⟨(w.alloc (.deferred (some []))).heap.size,0,0,0⟩
  obtain⟨a4,be,_⟩:=al.sr.wr.new bx (w':=R) (x:=.loop L) rfl rfl rfl rfl (.loop { state:=.ready,pending:=none,fn:=B4,tmps:=tm,params:=params.toList,assign,body }) p rfl
   ⟨L,rfl,rfl,rfl,rfl,rfl,rfl,O1 aE h.sr.E9⟩ (λ_=>rfl)
  have a3:=al.heap a4 be;have O:=mq h.sr.wr p;have an:vc DP (I1 I g9.heap.length p) (first.toList++[.func (.yield g9.heap.length) #[] #[]]++ag.toList) (x' ++ #[Value.func (.yield p.b) #[] #[]]++y').toList:=by
   simp only[ZN];exact((d1.mono (λ_ _ h=>h) O).append (.cons (.yield (bN _ _ _)) .nil)).append (d2.mono (λ_ _ h=>h) O)
  obtain⟨v,bd,w',q1,q2,q3,q4,q5⟩:=hB.call _ _ _ _ _ av _ d _ R _ a3.big an a4 (b.atR { a with defers:=[({ target:=.collected w.heap.size,args:=#[] }:Deferred)]++a.defers } (.inRangeFunc p.b :: k) :: cs);have bl:=a3.heap q2 q3;have b5:bd g9.heap.length=some p:=by rw[q3.same _ c_];exact bN _ _ _
  obtain⟨p',b3,i',L',bn,e1,e2,e3,e4,e5,e6⟩:=oV (g9:={ g9 with heap:=H }) q2 hl;obtain rfl:p'=p:=j_;obtain⟨bt,bk⟩:=WR.IF (g9:={ g9 with heap:=H }) q2 i' b3 (r':={ w7 with state:=.exhausted }) (L':={ L' with state:=.exhausted }) rfl e2 e3 e4 e5 e6;have bm:=bl.heap bt bk;refine⟨_,_,Q,bd,bm,?_⟩;have U:(Instr.enterLoop b.fn a.tmps params assign body b.roundOf).run C.P w = .ok (p.b,[({ target:=.collected w.heap.size,args:=#[] }:Deferred)]) R:=by
   rw[hb,V];rfl
  have bb:(resolve a.eval (rangeCall f p.b) 0).run C.P R = .ok { target:=.fn (.func g) y',args:=x' ++ #[.func (.yield p.b) #[] #[]] } R:=by
   have EE:Array.map a.eval #[Operand.const (Value.func (Fn.yield p.b) #[] #[])] = #[Value.func (Fn.yield p.b) #[] #[]]:=by simp[Act.eval]
   simp only[resolve,bC,Deferred.ofValue,EE];rfl
  have a7:(invoke (.fn (.func g) y') (x' ++ #[.func (.yield p.b) #[] #[]])).run C.P R = .ok (.enter g (x' ++ #[.func (.yield p.b) #[] #[]]++y')) R:=q4;have s1:=stepR_rangeFunc (P:=C.P) (b:=b) (a:=a) (k:=k) (cs:=cs) U bb a7;obtain⟨fr,M,_,s3⟩:=q5;have a5:(Instr.endLoop p.b).run C.P w' = .ok w7.pending { w' with heap:=w'.heap.setIfInBounds p.b (.loop { L' with state:=.exhausted }) }:=by
   rw[←e2];exact ze bn (by rw[e1];exact ap)
  have s4:Steps C.P (lone (b.atR a (.code (.rangeFunc f params assign body) :: k)) cs w) (lone (b.atR { a with defers:=[({ target:=.collected w.heap.size,args:=#[] }:Deferred)]++a.defers } ((w7.pending.map Item.code).toList++k)) cs { w' with heap:=w'.heap.setIfInBounds p.b (.loop { L' with state:=.exhausted }) }):=by
   refine .head s1 (M.trans (.head ?_ (.one (stepR_endRangeFunc a5))));rw[←finish_atR_inRangeFunc p.b v];exact step_leave_returned s3
  unfold zZ at o;split at o
  next hp=>cases o;rw[hp]at s4;exact s4
  next hp=>cases o;rw[hp]at s4;exact⟨k,s4⟩
  next hp=>cases o;rw[hp]at s4;exact⟨k,s4,rfl⟩
  .cases o
end
end
section
variable [DB]
section
variable [Fc] {C:m8} {base:Nat} {o9:Tu} {s8:ke} {o8:TS} {la:q_} {mu:ke} {g9:St} {a:Act} {w:TS}
def FI.shut{d:Deferred}{ds:List Deferred}(h:FI C base o9 s8 o8 la mu g9 a w)(F:a.defers=d :: ds) :
  ∃r,d.target = .collected r/\(Instr.takeDeferred r).run C.P w = .ok [] { w with heap:=w.heap.setIfInBounds r (.deferred none) }/\
   FI C base o9 s8 o8 la mu g9 { a with defers:=ds } { w with heap:=w.heap.setIfInBounds r (.deferred none) }:=by
 obtain⟨v,l,B,D⟩:=h.marks;rw[F]at l;cases v with
 |nil=>cases l
 |cons r v=>
  simp only[EN,IU]at l;obtain⟨rfl,rfl⟩:=l;obtain⟨N,u,K⟩:=D r c_;have H:r<w.heap.size:=(JX.1 u).1;have j:∀b,b≠r->(w.heap.setIfInBounds r (.deferred none))[b]?=w.heap[b]?:=λb E=>qbI (Ej E);have A:=h.low;refine⟨r,rfl,?_,⟨⟨h.sr.E9,h.sr.Hn,?_,h.sr.HS,⟨?_,h.sr.wr.inj,h.sr.wr.own,h.sr.wr.ro,h.sr.wr.JP,?_⟩⟩,?_,h.fresh,?_,h.low⟩⟩
  .have m:(getObj r).run C.P w = .ok (.deferred (some [])) w:=by simp[getObj,Sem.run,u]
   have t:(setObj r (.deferred none)).run C.P w = .ok () { w with heap:=w.heap.setIfInBounds r (.deferred none) }:=by simp[setObj,Sem.run,u]
   simp[Instr.takeDeferred,Sem.run_bind,m,t,Result.andThen]
  .intro s x t;obtain⟨b,c,e,i,y,e3,e4⟩:=h.sr.loc s x t
   grind
  .intro id o i' z;obtain⟨p,i,y⟩:=h.sr.wr.obj id o i' z;refine⟨p,i,?_⟩;show F6 mu p (w.heap.setIfInBounds r (.deferred none))[p.b]? o;by_cases q:p.b=r
   .exfalso;by_cases f:o.owned=true
    .exact K ⟨id,o,p,i',f,i,q⟩
    .have:=h.sr.wr.ro id o p i' z (by simpa using f) i;omega
   simp_all
  .intro g x m;obtain⟨i,y,c,L,M,e3,e4⟩:=h.sr.wr.Fe g x m
   grind
  .refine⟨h.E'.len,h.E'.same,by simpa using h.E'.size,λk G I=>?_,h.E'.Fk,h.E'.os,h.E'.tape,h.E'.output,h.E'.dr⟩;rw[←h.E'.ka k G I];exact j k a_
  .have n:=w9.1 B;refine⟨v,rfl,n.2,λO J=>?_⟩
   grind
def xH:∀(ds:List Deferred) (a:Act) (w:TS),a.defers=ds->FI C base o9 s8 o8 la mu g9 a w->
  ∃w',FI C base o9 s8 o8 la mu g9 { a with defers:=[] } w'/\
   ∀(b:Frame) (c:TB) (cs:List Frame),Steps C.P (lone { b.atR a c with mode:=.returning } cs w) (lone { b.atR { a with defers:=[] } c with mode:=.returning } cs w')
 | [],a,w,e,h=>by
  obtain⟨f,defers⟩:=a;simp only at e;subst e;exact⟨w,h,λb c cs=>.refl _ _⟩
 |d :: ds,a,w,e,h=>by
  obtain⟨r,g,i,j⟩:=h.shut e;obtain⟨w',k,l⟩:=xH ds { a with defers:=ds } _ rfl j;refine⟨w',k,λb c cs=>.head ?_ (l b c cs)⟩;exact step_collected (fr:={ b.atR a c with mode:=.returning }) c_ (show a.defers=d :: ds from e) g i
def ny(b:Tl):ResultVar->Sem Value
 | .tmp t=>pure (b.getD t undef)
 | .cell p t=>do loadVar t (←asAddr (b.getD p undef))
def CD(c:Func)(b:Tl):results c b=(do
  let vs ←c.results.mapM (ny b)
  pure (if h:vs.size=1 then vs[0]else .tuple vs)):=by
 have:(λx=>match x with
  |ResultVar.tmp t=>pure (b.getD t undef)
  |ResultVar.cell p t=>(do loadVar t (←asAddr (b.getD p undef)):Sem Value))=ny b:=by
  funext x;cases x<;>rfl
 rw[←this];rfl
def CB(h:SR C base la mu g9 a.tmps w){x:ResultVar}{v:TR}(b:gn C g9 x=some v) :
  ∃v',(ny a.tmps x).run C.P w = .ok v' w/\VR la mu v v':=by
 have f:∀t,VR la mu (g9.tmps.getD t undef) (a.tmps.getD t undef):=λt=>aJ h (.tmp t);cases x with
 |tmp t=>
  simp only[gn]at b;cases b;exact⟨_,rfl,f t⟩
 |cell p t=>
  simp only[gn]at b;have j:=f p;split at b
  next u A=>
   rw[A]at j;split at b
   next d=>
    cases g:gG g9.heap u.block with
    |none=>simp_all
    |some B=>
     rw[g]at b;generalize r:a.tmps.getD p undef=y at j ⊢;cases j with
     |scalar q=>simp[Am.scalar]at q
     |FD _=>simp at d
     |E2=>simp at d
     |ET o=>
      obtain⟨c,e,D,k,l⟩:=wu h.wr g o;obtain⟨v',s,m⟩:=eJ (C:=C) l b k;exact⟨v',by simp only[ny,r,asAddr];exact s,m.up⟩
   next d=>
    split at b
    next B i=>
     generalize r:a.tmps.getD p undef=y at j ⊢;cases j with
     |scalar q=>simp[Am.scalar]at q
     |ET _=>simp at d
     |E2=>simp at d
     |FD n=>
      obtain⟨c,e,k,l,s⟩:=Kr h i n;obtain⟨v',m,z⟩:=eJ (C:=C) (cF.G6 l) b k;exact⟨v',by simp only[ny,r,asAddr];simpa using m,z.up⟩
    .cases b
   .cases b
  .cases b
def qR(h:SR C base la mu g9 a.tmps w):∀ {l:List ResultVar} {vs:Tn},dq C g9 l=some vs->
  ∃b,(l.mapM (ny a.tmps)).run C.P w = .ok b w/\vc la mu vs b
 | [],vs,c=>by
  cases c;exact⟨[],c_,.nil⟩
 |x :: l,vs,c=>by
  simp only[dq]at c;split at c
  next v i g d=>
   cases c;obtain⟨v',h1,e⟩:=CB h g;obtain⟨b,j,f⟩:=qR h d;refine⟨v' :: b,?_,.cons e f⟩
   simp_all
  .cases c
def CE(h:SR C base la mu g9 a.tmps w){d:Func}{vs:Tn}(f:dq C g9 d.results.toList=some vs) :
  ∃v',(results d a.tmps).run C.P w = .ok v' w/\VR la mu (gM vs) v':=by
 obtain⟨c,e,b⟩:=qR h f;rw[CD,qde,Sem.run_bind,Sem.run_map,e]
 match vs,c,b with
 | [],[],_=>exact⟨_,rfl,.undef⟩
 | [v],[v'],b=>exact⟨v',rfl,b.head⟩
 |v :: u :: l,v' :: i :: g,b=>exact⟨.tuple (v' :: i :: g).toArray,rfl,vc.tuple (a:=(v :: u :: l).toArray) a_⟩
 | [],_ :: _,b=>simpa using b.1
 | [_],[],b=>simpa using b.1
 | [_],_ :: _ :: _,b=>simpa using b.1
 |_ :: _ :: _,[],b=>simpa using b.1
 |_ :: _ :: _,[_],b=>simpa using b.1
end
section
variable {C:m8}
def NL{S:Gw}(L:rG C S){f:TQ}{args:Tn}{H:Tu}{r:TR}{H':Tu}(h:oF C S f args H r H'):en C f args H r H':=by
 obtain⟨fn,n,e,J,Y,k,i,d,A,O,q,rfl,B,rfl⟩:=h;rw[pB]at d
 replace d:=d.1
 intro _ m v w c N g M x
 let o:Act:={ tmps:=c++Array.replicate (fn.ntmps - c.size) undef,defers:=[] }
 have p:args.length=c.size:=by simpa using g.1
 have K:FI C m H v w DP v (nQ fn args H) o w:=by
  refine⟨⟨?_,λs b h=>by simp[DP]at h,λs Y T=>?_,λs Z b h=>by simp[DP]at h,M⟩,.refl _ _ _,λs b h=>by simp[DP]at h,⟨[],rfl,c_,λr R=>by simp at R⟩,N⟩
  .simp only[nQ,o,ZN,Array.toList_replicate,p];exact g.append (.replicate _ .undef)
  .simp only[nQ,ZL]at T
   simp_all
 let b:Frame:={ (default:Frame)with fn:=f,kind:=.normal,roundOf:=none }
 obtain⟨t,U,v6,W,F,G⟩:=L _ m H v w none f _ n _ J e DP v o w (λ_=>rfl) A K b [] x rfl rfl;obtain⟨V,y,D⟩:=xH t.defers t U rfl F;obtain⟨X,E,I⟩:=CE (a:={ t with defers:=[] }) y.sr q;refine⟨X,W,V,fP B I,y.sr.wr,y.E',?_,?_⟩
 .have z:fn.body.isNone=false:=by rw[i];rfl
  have Q:(program).run C.P w = .ok C.P w:=rfl;simp only[callFunc,Sem.run_bind,Q,Result.andThen_ok,k,d,z];rfl
 .have j:Frame.enter C.P f c .normal=b.atR o [.code n]:=by simp[Frame.enter,Frame.atR,k,i,b,o]
  rw[j];have l:=G;rcases O with rfl|rfl
  .refine⟨{ b.atR { t with defers:=[] } []with mode:=.returning },(Steps.trans l (.one (stepR_end rfl))).trans (D b [] x),rfl,rfl,rfl,rfl,fn,k,E⟩
  .obtain⟨u,l⟩:=l;refine⟨{ b.atR { t with defers:=[] } (.code .ret :: u)with mode:=.returning },(l.trans (.one (stepR_ret rfl))).trans (D b _ x),rfl,rfl,rfl,rfl,fn,k,E⟩
section
variable [Fc] {la:q_} {mu:ke}
def xg:∀(d:List Tmp) (vs cs:Tn) (b:Tn) (a:Tl),vs.length=d.length->vc la mu vs cs->vc la mu b a.toList->
  vc la mu (cX d vs b) ((d.zip cs).foldl (λ(t:Tl) (x:Tmp×Value)=>t.setIfInBounds x.1 x.2) a).toList
 | [],vs,cs,b,a,e,h,g=>by
  cases vs with
  |nil=>simpa[cX]using g
  |cons _ _=>simp at e
 |t :: d,vs,cs,b,a,e,h,g=>by
  cases vs with
  |nil=>simp at e
  |cons v vs=>
   obtain⟨c,f,rfl,h1,i⟩:=h.IK;simp only[cX,qda,XR];exact xg d vs f _ _ (by simpa using e) i (by simpa using g.set t h1)
end
def CQ{S:Gw}(hS:rG C S){l:Nat}{args:Tn}{H:Tu}{r:TR}{H':Tu}(h:mr C S l args H r H'):Lb C l args H r H':=by
 obtain⟨d,W,w9,e,Y,A7,j,hl,y,u,Q,T,v,E,R,rfl,rfl⟩:=h;intro _ f n w a p hb hp g hW c G;obtain⟨A,ad,i',L,hL,e1,e2,e3,e4,e5,e6⟩:=oV (g9:={ tmps:=[],loc:=[],heap:=H }) hW hl;obtain rfl:A=p:=j_
 let tm:Tl:=(L.params.zip a).foldl (λtmps (x:Tmp×Value)=>tmps.setIfInBounds x.1 x.2) L.tmps
 let q:Act:={ tmps:=tm,defers:=[] }
 have V:vc DP n (cX d.params args d.tmps) tm.toList:=by
  have:=xg d.params args a.toList d.tmps L.tmps y g e6;rw[←e3,←Array.toList_zip]at this
  grind
 have hF:FI C f H n w DP n { tmps:=cX d.params args d.tmps,loc:=[],heap:=H } q w:=by
  refine⟨⟨V,λs b h=>by simp[DP]at h,λs vs hs=>by simp at hs,λs s' b h=>by simp[DP]at h,hW⟩,.refl _ _ _,λs b h=>by simp[DP]at h,⟨[],rfl,c_,λr hr=>by simp at hr⟩,hb⟩
 let b:Frame:={ (default:Frame)with fn:=L.fn,kind:=.normal,roundOf:=some A.b }
 obtain⟨t7,t9,v6,u7,B,g2⟩:=hS _ f H n w (some A.b) L.fn [] d.assign _ W .normal DP n q w (λh=>absurd rfl h) u hF b [.beginRound,.code d.body] (c :: G) rfl rfl;have m:∀ {z:ke} {H':Tu} {w':TS},Fv H n w H' z w'->z l=some A:=λhe=>by
  rw[he.same l (b1.1 i').1];exact hp
 obtain⟨F,Z,Da,Db,Dc,f1,f2,f3,f4,f5,f6⟩:=oV (g9:=W) B.sr.wr Q;obtain rfl:F=A:=by rw[m B.E']at Z;simp_all
 obtain⟨M,I⟩:=WR.IF (g9:=W) B.sr.wr Da Z (r':={ w9 with state:=.busy }) (L':={ Db with state:=.busy }) rfl f2 f3 f4 f5 f6;have K:=B.heap M I;obtain⟨A4,u5,A5,y9,D,g4⟩:=hS _ f H n w (some F.b) L.fn [] d.body _ Y e v6 u7 t7 _ (λh=>absurd rfl h) v K b [] (c :: G) rfl rfl;obtain⟨C6,C7,Dd,De,Df,k1,k2,k3,k4,k5,k6⟩:=oV (g9:=Y) D.sr.wr R;obtain rfl:C6=F:=by rw[m D.E']at C7;simp_all
 obtain⟨N,J⟩:=WR.IF (g9:=Y) D.sr.wr Dd C7 (r':={ A7 with state:=if j.isNone then .ready else .done,pending:=j }) (L':={ De with state:=if j.isNone then .ready else .done,pending:=j }) rfl rfl k3 k4 k5 k6;refine⟨.bool j.isNone,y9,_,L.fn,tm,L.assign,L.body,.scalar rfl,N,D.E'.trans J,?_,?_⟩
 .have U:a.size=L.params.size:=by
   have h1:=g.1
   grind
  simp[Instr.yield,Sem.run_bind,iz hL,U,tm]
 .have O:Frame.round C6.b L.fn tm L.assign L.body .normal=b.atR q [.code L.assign,.beginRound,.code L.body]:=by simp[Frame.round,Frame.atR,b,q]
  rw[O,e4,e5];have s1:Steps C.P (lone (b.atR q [.code d.assign,.beginRound,.code d.body]) (c :: G) w) _:=g2;have X:=s1.trans (.one (stepR_beginRound (k:=[.code d.body]) rfl (rD Dc (by rw[f1];exact T))));have o:=g4;have i:=xm (C:=C) Df j;cases e with
  |normal=>
   cases E;exact(X.trans o).trans (.one (stepR_round_end rfl rfl i))
  |ret=>
   cases E;obtain⟨t,o⟩:=o;exact(X.trans o).trans (.one (stepR_round_ret rfl rfl i))
  |exit id=>
   cases E;obtain⟨t,o,hx⟩:=o;exact(X.trans o).trans (.one (stepR_round_exit rfl rfl hx i))
  |_=>cases E
def M1(l:C.P.follows .mixedOrders=true){K:Pv}(c:∀f args H r H',K f args H r H'->en C f args H r H'):∀n,BOk C (OU C K n).toBelow/\rG C (OU C K n)
 |0=>⟨⟨c,λ_ _ _ _ _ h=>h.elim⟩,by
   intro _ b p s o q k b_ code g9 m e la mu a w _ h;exact h.elim⟩
 |n+1=>by
  obtain⟨t,d⟩:=M1 l c n;refine⟨⟨λf args H r H' h=>h.elim (c f args H r H') (NL d),λ_ _ _ _ _ h=>CQ d h⟩,?_⟩;have g:rG C _:=NT l t d;intro _ b p s o q k b_ code g9 m e la mu a w j i u;exact g _ b p s o q k b_ code g9 m e la mu a w j i u
end
end
end Go.Am
end

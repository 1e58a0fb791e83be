import Derived.AtR
import Derived.Calls
import Derived.KernelRfl
import Derived.Laws.AppendOwn
import Derived.Laws.MakeOwn
import Derived.Laws.Tables
import Derived.Orders
import Derived.RangeFuncIn
import Derived.RangeFuncLeaves
import GoSem.Claims
set_option linter.all false
namespace Go
abbrev vd:=@Bool.and_eq_true
abbrev Cf:=@List.mem_of_getElem?
abbrev A_:=@List.all_eq_true
abbrev Cm:=@List.mem_range
abbrev Dx:=@Nat.eq_of_beq_eq_true
abbrev DC:=@Option.map_eq_some_iff
abbrev A9:=@Nat.le_refl
abbrev DQ:=@Nat.ble_eq_true_of_le
abbrev Ds:=@Option.bind_some
abbrev EE:=@Option.bind_eq_some_iff
abbrev Fe:=@List.getElem?_append_left
abbrev CS:=@List.mem_map
abbrev D7:=@Bool.false_eq_true
abbrev Ev:=@List.getElem?_of_mem
abbrev DA:=@List.nil_append
abbrev DI:=@List.cons_append
abbrev C6:=@Nat.zero_le
abbrev E7:=@List.mem_cons_of_mem
abbrev Gn:=@List.getElem?_eq_getElem
abbrev DB:=@List.mem_cons
abbrev Ew:=@List.getElem?_map
abbrev DD:=@List.map_cons
abbrev GV:=@List.getElem?_append_right
abbrev D':=@Option.some.inj
abbrev EF:=@List.append_assoc
abbrev Ek:=@List.mem_append
abbrev DP:=@Bool.not_true
abbrev Fc:=@List.mem_singleton
abbrev Gu:=@List.getElem?_eq_none
abbrev GR:=@List.getElem?_set_self
abbrev EO:=@Option.map_some
abbrev IG:=@Array.getElem?_eq_some_iff
abbrev EB:=@Bool.not_false
abbrev FU:=@Option.some.injEq
abbrev Gv:=@List.length_append
abbrev Hj:=@List.getElem?_set_ne
abbrev Ik:=@List.take_of_length_le
abbrev GK:=@Int.natCast_nonneg
abbrev FG:=@List.length_set
abbrev Gj:=@Bool.not_eq_true
abbrev FV:=@List.length_map
abbrev Gw:=@List.mem_flatMap
abbrev GS:=@List.getElem?_set
abbrev Gk:=@Bool.or_eq_true
abbrev Gm:=@List.mem_filter
abbrev ER:=@Nat.zero_add
abbrev CY:=@Ne.symm
abbrev Jq:=@List.mem_append_left
abbrev HA:=@List.ext_getElem?
abbrev Q5:=@List.pairwise_iff_getElem
abbrev GU:=@List.append_nil
abbrev NM:=@List.length_eq_zero_iff
abbrev Ii:=@List.take_add_one
abbrev Jp:=@List.pairwise_cons
abbrev SZ:=@List.drop_eq_getElem_cons
abbrev WF:=@Array.getD_eq_getD_getElem?
abbrev Hz:=@List.cons.injEq
abbrev Lk:=@List.mem_cons_self
abbrev xT:=@Option.isSome_iff_exists
abbrev WG:=@List.nodup_iff_pairwise_ne
abbrev Gi:=@Nat.lt_or_ge
abbrev Ij:=@List.map_append
abbrev NO:=@List.mem_of_mem_take
abbrev YX:=@Array.getElem?_setIfInBounds
abbrev Q9:=@Nat.mul_le_mul_right
abbrev Nf:=@List.pairwise_map
abbrev S5:=@List.mem_append_right
abbrev Hx:=@List.forall_mem_cons
abbrev Ng:=@List.not_mem_nil
abbrev Ll:=@List.range_succ
abbrev Q_:=@List.mem_filterMap
abbrev WM:=@List.take_append_drop
abbrev Gp:=@Nat.blt_eq
abbrev YY:=@List.getElem?_replicate
abbrev Il:=@List.map_nil
abbrev Jr:=@Int.ofNat.inj
abbrev WN:=@List.map_congr_left
abbrev S6:=@List.flatMap_cons
abbrev S7:=@List.length_range
abbrev YZ:=@List.range_eq_range'
abbrev fu:=@List.pairwise_lt_range
abbrev i0:=@List.mem_or_eq_of_mem_set
abbrev S8:=@Option.getD_some
abbrev Y0:=@Array.toList_append
abbrev Y1:=@List.flatMap_append
abbrev HB:=@Nat.ble_eq
abbrev Js:=@Nat.add_mul
abbrev ng:=@Bool.or_eq_false_iff
abbrev gy:=@List.mem_of_mem_drop
abbrev BR:=@List.drop_of_length_le
abbrev r1:=@Array.getElem?_setIfInBounds_ne
abbrev C0:=@List.length_pos_iff
abbrev s4:=@List.getElem?_eq_some_iff
abbrev Q6:=@Nat.add_assoc
abbrev Q7:=@Prod.mk.injEq
abbrev WI:=@Bool.eq_iff_iff
abbrev WJ:=@List.foldl_cons
abbrev NN:=@Nat.le_trans
abbrev M2:=@List.getElem?_drop
abbrev u3:=@List.getElem?_take
abbrev v6:=@Array.toList_inj
abbrev YV:=@List.length_cons
abbrev YW:=@List.take_length
abbrev r5:=@List.getElem?_append
abbrev z1:=@Int.eq_ofNat_of_zero_le
abbrev S4:=@List.all_cons
abbrev z2:=@List.getElem?_cons_succ
abbrev WK:=@List.drop_zero
abbrev WL:=@List.mapM_cons
abbrev Q8:=@List.map_map
abbrev gE:=@Bool.not_eq_true'
abbrev gD:=@List.nodup_append
abbrev C1:=@List.length_take
abbrev Nd:=@Nat.mod_lt
abbrev YU:=@List.Perm.refl
abbrev j2:=@List.pairwise_append
abbrev y4:=@List.flatten_cons
abbrev zS:=@List.nodup_cons
abbrev zP:=@Nat.min_eq_left
abbrev qb5:=@Int.mul_le_mul_of_nonneg_right
abbrev WH:=@Nat.sub_self
abbrev hz:=@List.getElem?_cons_zero
abbrev u1:=@List.replicate_succ
abbrev p':=@List.take_succ_cons
abbrev S9:=@Nat.one_mul
abbrev n5:=@List.drop_drop
abbrev nn:=@List.nodup_nil
abbrev ki:=@Nat.mul_le_mul
abbrev hC:=@List.filter_append
abbrev bC:=@List.filterMap_append
abbrev f0:=@Nat.le_max_left
abbrev Y2:=@Nat.zero_mul
abbrev w5:=@Bool.false_or
abbrev l3:=@List.foldl_append
abbrev hj:=@List.contains_eq_mem
abbrev qcl:=@Array.getElem?_eq_getElem
abbrev c9:=@List.any_eq_true
abbrev hI:=@List.flatMap_map
abbrev eB:=@List.length_drop
abbrev eL:=@List.range'_succ
abbrev eD:=@Nat.le_max_right
abbrev b4:=@Array.getElem?_push
abbrev bt:=@List.drop_succ_cons
abbrev Y3:=@Nat.mul_one
abbrev qcu:=@List.idxOf_lt_length_iff
abbrev bx:=@Array.all_eq_true'
abbrev b3:=@Bool.not_eq_false'
abbrev qcx:=@List.idxOf?_eq_some_iff
abbrev g3:=@List.set_cons_succ
abbrev qcz:=@Array.getElem?_eq_none
abbrev b5:=@Bool.eq_false_iff
abbrev qcB:=@Array.eq_empty_of_size_eq_zero
abbrev qcC:=@List.Pairwise.and_mem
abbrev qcD:=@List.Perm.append_left
abbrev qcE:=@List.length_filter_le
abbrev qcF:=@List.length_replicate
abbrev qcG:=@List.length_singleton
abbrev qcH:=@List.set_append_right
abbrev bP:=@List.drop_append
abbrev qcJ:=@List.take_append_of_le_length
abbrev qcK:=@List.Pairwise.filter
abbrev qcL:=@List.map_eq_cons_iff
abbrev qcM:=@List.range'_append_1
abbrev qcN:=@List.set_append_left
abbrev t2:=@Int.le_refl
abbrev qcP:=@List.filter_eq_self
abbrev hu:=@List.length_nil
abbrev r2:=@Nat.div_le_self
abbrev r6:=@Nat.mul_pos
abbrev g4:=@Option.pure_def
abbrev qcU:=@Array.getElem?_append_left
abbrev qcV:=@List.exists_cons_of_ne_nil
abbrev qcW:=@Array.ext_getElem?
abbrev qcX:=@Array.foldl_toList
abbrev l1:=@List.map_set
abbrev qcZ:=@List.zip_cons_cons
abbrev r0:=@Nat.add_zero
abbrev qc1:=@Nat.lt_of_lt_of_le
abbrev WO:=@Prod.ext
abbrev e7:=@Prod.ext_iff
abbrev qc4:=@Array.mapM_eq_mapM_toList
abbrev qc5:=@List.getElem?_zip_eq_some
abbrev qc6:=@List.mem_of_find?_eq_some
abbrev o2:=@List.take_zero
abbrev qc8:=@List.eq_of_mem_replicate
abbrev qc9:=@List.filter_congr
abbrev qda:=@List.mem_range'_1
abbrev qdb:=@List.idxOf?_eq_none_iff
abbrev b1:=@List.mapM_nil
abbrev eA:=@List.map_id
abbrev qde:=@List.pairwise_filterMap
abbrev bm:=@List.take_add
abbrev qdg:=@Nat.add_sub_cancel_left
abbrev qdh:=@Array.toList_map
abbrev qdi:=@List.take_append
abbrev qdj:=@Option.getD_none
abbrev hy:=@Int.ofNat_le
abbrev qdl:=@List.all_append
abbrev qdm:=@List.append_inj
abbrev qdn:=@List.forIn_cons
abbrev qdo:=@List.set_append
abbrev hN:=@Nat.beq_refl
abbrev qdq:=@Nat.not_lt_zero
abbrev qdr:=@Bool.and_true
abbrev qds:=@Nat.mod_le
abbrev EP:=@decide_eq_true_eq
abbrev Fv:=@decide_eq_false
abbrev E8:=@decide_eq_true
abbrev rv:=@if_pos
abbrev te:=@if_neg
end Go
noncomputable section
open List(replicate)
namespace Go.Am
theorem ua{p:Prop}(h:p:=by simp;omega):p:=h
theorem kb{p:Prop}(h:p:=by simp_all):p:=h
theorem jn{p:Prop}(h:p:=by grind):p:=h
theorem c_{p:Prop}(h:p:=by simp):p:=h
theorem a_{p:Prop}(h:p:=by omega):p:=h
abbrev _root_.TR:=Value
def w9:Value:=.tuple #[.tuple #[]]
def scalar:Value->Bool
 | .bool _=>true
 | .int _ _=>true
 | .string _=>true
 | .pointer none=>true
 | .map none=>true
 | .nilFunc=>true
 | .nilIface=>true
 | .slice none 0 0=>true
 |_=>false
def gl:Value->Bool
 | .agg cs=>cs.toList.all scalar
 |v=>scalar v
def flat:Value->Bool
 | .tuple vs=>vs.size != 1&&vs.toList.all gl
 |v=>gl v
abbrev _root_.Tl:=Array Value
def ui(cs:Tl):Option IntKind:=
 match cs.toList with
 | .int k _ :: _=>some k
 |_=>none
def jB:Value->Bool
 | .tuple vs=>match vs.toList with
  | [.agg cs]=>(ui cs).isSome
  |_=>false
 |_=>false
def gw{vs:Tl}(h:jB (.tuple vs)=true):vs.size=1:=by
 simp only[jB]at h;split at h
 next e=>rw[←Array.length_toList,e];rfl
 .cases h
class Co where
 num:Tl->Int
class Dw where
 DL:Nat->Nat×Nat
instance (priority := 10) glo0 : Dw := ⟨λ_ => (0, 0)⟩
def gB:Nat:=1000000
def Eo [Dw](g:Nat):Nat:=if g<gB then g else(Dw.DL g).1
def Fz [Dw](g:Nat):Nat:=if g<gB then 0 else(Dw.DL g).2
def Kr [Dw]{g:Nat}(h:Nat.blt g gB=true):Eo g=g:=rv (by rw[Gp]at h;exact h)
def Kt [Dw]{g:Nat}(h:Nat.blt g gB=true):Fz g=0:=rv (by rw[Gp]at h;exact h)
abbrev _root_.TI:=Program
def CH{i7:Type}(P:TI):Sem i7->Option i7
 | .pure a=>some a
 | .program k=>CH P (k P)
 |_=>none
abbrev _root_.TS:=World
def gV{i7:Type}{P:TI}{s:Sem i7}{a:i7}(h:CH P s=some a)(w:TS):s.run P w = .ok a w:=by
 induction s with
 |pure b=>simp[CH]at h;subst h;rfl
 |program k c=>exact c P h
 |_=>simp[CH]at h
structure Fp where
 state:LoopState
 pending:Option Code
 fn:FuncId
 tmps:List Value
 params:List Tmp
 assign:Code
 body:Code
abbrev _root_.Tj:=List MapEntry
abbrev _root_.Tn:=List Value
inductive p_ where
 |cells (vs:Tn) (r_:Nat) (rw:Bool)
 |map (es:Tj) (clock:Nat)
 |loop (l:Fp)
 |GW (s:ByteArray) (pos:Nat)
 |dead
def p_.owned:p_->Bool
 | .cells _ _ rw=>rw
 | .dead=>false
 |_=>true
def p_.alive:p_->Bool
 | .dead=>false
 |_=>true
structure St where
 tmps:List Value
 loc:List (Option (Tn))
 heap:List p_
abbrev _root_.TQ:=FuncId
structure m' where
 P:Program
 G:Nat->Option (Tn)
 opq:TQ->Bool:=λ_=>false   -- functions into whose code nobody looks
 b_:TQ->List Nat        -- of each temporary that points into a local row: that row's number+2;1: into a known package-level variable;0: anything else
abbrev _root_.TK:=Operand
def jw(a:Tn):TK->Value
 | .tmp t=>a.getD t undef
 | .const v=>if flat v then v else w9
 | .global g=>if Nat.blt g gB then .pointer (some ⟨g,0,some 1⟩)else w9
 | .func f=>.func (.func f) #[] #[]
abbrev _root_.Tk:=Option Value
abbrev _root_.Tu:=List p_
inductive DS where
 |val (v:Value)
 |FC (s:Nat) (vs:Tn)
 |Hc (s:Nat) (f:Tn->Tk)
 |FD (s:Nat) (f:Tn->Option (Tn))
 |EZ (f:Tu->Tk)
 |F9 (f:Tu->Option (List p_×Value))
 |call (f:TQ) (args:Tn)
 |yield (l:Nat) (args:Tn)
abbrev _root_.Tq:=Option Tmp
def St.put(g9:St)(dst:Tq)(v:Value):St:=
 match dst with
 |some d=>{ g9 with tmps:=g9.tmps.set d v }
 |none=>g9
def aW(g9:St):DS->Option (St×Value)
 | .val v=>some (g9,v)
 | .FC s vs=>match g9.loc[s]? with
  |some none=>some ({ g9 with loc:=g9.loc.set s (some vs) },.pointer (some ⟨s,0,some 0⟩))
  |_=>none
 | .Hc s f=>match g9.loc[s]? with
  |some (some vs)=>(f vs).map λv=>(g9,v)
  |_=>none
 | .FD s f=>match g9.loc[s]? with
  |some (some vs)=>(f vs).map λa=>({ g9 with loc:=g9.loc.set s (some a) },undef)
  |_=>none
 | .EZ f=>(f g9.heap).map λv=>(g9,v)
 | .F9 f=>(f g9.heap).map λp=>({ g9 with heap:=p.1 },p.2)
 | .call .. => none
 | .yield .. => none
def cut(vs:Tn)(off n:Nat):Option (Tn):=
 if off+n<=vs.length then some ((vs.drop off).take n)else none
abbrev _root_.TP:=TypeId
def dx(P:TI)(t:TP)(vs:Tn)(off:Nat):Tk:=
 match P.underlying t with
 |some (.struct _)|some (.array _ _)=>(cut vs off (P.cellsOf t)).map λa=>.agg a.toArray
 |some _=>vs[off]?
 |none=>none
def s_(vs:Tn)(off:Nat)(new:Tn):Option (Tn):=
 if off+new.length<=vs.length then some (vs.take off++new++vs.drop (off+new.length))else none
def aH:Value->Bool
 | .tuple vs=>!jB (.tuple vs)
 |_=>false
def lR(i:TypeInfo):Tk:=
 match i.zero with
 |some z=>if z.cells.size=i.size/\flat z=true/\aH z=false then some z else none
 |none=>none
def eU(P:TI)(t:TP):Tk:=(P.info? t).bind lR
def bi:Value->Bool
 | .pointer (some a)=>a.spot != some 0
 | .slice (some a) _ _=>a.spot != some 0
 | .tuple vs=>jB (.tuple vs)
 | .agg _=>false
 | .iface _ _=>false
 | .func _ _ _=>false
 |_=>true
def bB:Value->Bool
 | .agg cs=>cs.toList.all bi
 | .func _ a b=>a.toList.all bi&&b.toList.all bi
 | .tuple vs=>vs.size==0||jB (.tuple vs)
 |v=>bi v
def aS:Value->Bool
 | .agg cs=>cs.toList.all bB
 | .func _ a b=>a.toList.all bB&&b.toList.all bB
 | .tuple vs=>vs.toList.all bB
 |v=>bB v
def n_:Value->Bool
 | .agg cs=>cs.toList.all aS
 | .func _ a b=>a.toList.all aS&&b.toList.all aS
 | .tuple vs=>vs.toList.all aS
 |v=>aS v
def aO:Value->Bool
 | .agg _=>false
 | .tuple vs=>jB (.tuple vs)
 |_=>true
def bh(v:Value):Bool:=n_ v&&aO v
def fi(P:TI)(t:TP)(v:Value)(vs:Tn)(off:Nat):Option (Tn):=
 if v.cells.size=P.cellsOf t/\(P.info? t).isSome then
  if v.cells.toList.all bh then s_ vs off v.cells.toList else none
 else none
abbrev _root_.Ts:=Option Nat
def le(r_:Nat):Ts:=some (r_+10)
def ge(H:Tu)(id:Nat):Option (Tn):=
 match H[id]? with
 |some (.cells a _ _)=>some a
 |_=>none
def dW(C:m')(H:Tu)(r_:Nat):Value->Option (List Value×Nat)
 | .slice none 0 0=>some ([],0)
 | .slice (some a) len _=>
  if a.spot=some 1 then((C.G a.block).bind λvs=>cut vs a.off (len*r_)).map λx=>(x,len)
  else if a.spot=le r_ then
   match H[a.block]? with
   |some (.cells vs e _)=>if e=r_ then(cut vs a.off (len*r_)).map λx=>(x,len)else none
   |_=>none
  else none
 | .string s=>if r_=1 then some (s.data.toList.map λb=>.int .u8 b.toNat,s.size)else none
 |_=>none
def bc(need bytes:Nat):Bool:=Nat.ble need 140737488355328&&Nat.ble (need*bytes) 140737488355328
def gk(C:m')(k:TP)(s x:Value)(H:Tu):Option (List p_×Value):=
 match C.P.underlying k with
 |some (.slice f)=>
  match C.P.info? f with
  |none=>none
  |some b=>
  if b.size=0 then none else
  if (lR b).isNone then none else
  match dW C H b.size x with
  |none=>none
  |some (d,n)=>
   match s with
   | .slice none 0 0=>
    if n=0 then some (H,.slice none 0 0)
    else if bc n b.bytes then some (H++[.cells d b.size true],.slice (some ⟨H.length,0,le b.size⟩) n 0)else none
   | .slice (some a) c j=>
    if a.spot≠le b.size then none else
    match H[a.block]? with
    |some (.cells i e rw)=>
     if e≠b.size then none else
     match cut i a.off (c*b.size)with
     |none=>none
     |some g=>
      match j with
      |0=>
       if n=0 then some (H,.slice (some a) c 0)
       else if rw&&bc (c+n) b.bytes then
        some (H.set a.block .dead++[.cells (g++d) b.size true],.slice (some ⟨H.length,0,le b.size⟩) (c+n) 0)
       else none
      |cap+1=>
       if c+n<=cap then
        if rw then(s_ i (a.off+c*b.size) d).map λh=>(H.set a.block (.cells h e true),.slice (some a) (c+n) (cap+1))
        else if n=0 then some (H,.slice (some a) c (cap+1))else none
       else if bc (c+n) b.bytes then
        some (H++[.cells (g++d) b.size true],.slice (some ⟨H.length,0,le b.size⟩) (c+n) 0)
       else none
    |_=>none
   |_=>none
 |_=>none
abbrev _root_.Tt:=Option Int
def iz:Tk->Option (Tt)
 |none=>some none
 |some (.int _ n)=>some (some n)
 |_=>none
def bK(cx l:Nat):Tt->Nat
 |none=>cx - l
 |some m=>m.toNat - l+1
def bS(len cx:Nat)(a:Tt):Tt->Prop
 |none=>a.getD len<=(len:Int)∨(0<cx/\a.getD len<(cx:Int))
 |some m=>a.isSome=true/\a.getD len<=m/\(m<=(len:Int)∨(0<cx/\m<(cx:Int)))
instance (len cx : Nat) (hi mx : Option Int) : Decidable (bS len cx hi mx) := by
 cases mx<;>(unfold bS;infer_instance)
def Ak(C:m')(t:TP)(x:Value)(d e f:Tk):Tk:=
 match iz d,iz e,iz f with
 |some d,some e,some f=>
  match C.P.underlying t,x with
  |some (.slice b),.slice (some a) c g=>
   if C.P.cellsOf b=0 then none else
   if a.spot≠some 1/\a.spot≠le (C.P.cellsOf b)then none else
   if 0<=d.getD 0/\d.getD 0<=e.getD c/\bS c g e f then
    some (.slice (some { a with off:=a.off+(d.getD 0).toNat*C.P.cellsOf b }) ((e.getD c).toNat - (d.getD 0).toNat) (bK g (d.getD 0).toNat f))
   else none
  |_,_=>none
 |_,_,_=>none
def lM(C:m')(t:TP)(a:Addr)(c b d:Tk)(H:Tu):Tk:=none
def intOf:Value->Option Int
 | .int _ n=>some n
 |_=>none
def gq(C:m')(t:TP)(x:Value)(f:Nat):Tk:=
 match C.P.underlying t,x with
 |some (.struct c),.pointer (some a)=>
  match c[f]? with
  |some b=>if C.P.cellsOf b.type=0 then none else some (.pointer (some { a with off:=a.off+b.offset }))
  |none=>none
 |_,_=>none
def fm(C:m')(t:TP)(x i:Value):Tk:=
 match intOf i with
 |none=>none
 |some i=>
  match C.P.underlying t,x with
  |some (.array c b),.pointer (some a)=>
   if C.P.cellsOf b=0 then none else
   if 0<=i/\i<(c:Int)then some (.pointer (some { a with off:=a.off+i.toNat*C.P.cellsOf b }))else none
  |some (.slice b),.slice (some a) c _=>
   if C.P.cellsOf b=0 then none else
   if 0<=i/\i<(c:Int)then some (.pointer (some ⟨a.block,a.off+i.toNat*C.P.cellsOf b,if a.spot=some 1 then some 1 else none⟩))else none
  |_,_=>none
def xN(C:m')(t:TP)(cs:Tl)(off:Nat):Tk:=
 match C.P.underlying t with
 |some (.struct _)|some (.array _ _)=>some (.agg (cs.extract off (off+C.P.cellsOf t)))
 |some _=>cs[off]?
 |none=>none
def uU(C:m')(t:TP)(x:Value)(f:Nat):Tk:=
 match C.P.underlying t,x with
 |some (.struct c),.agg b=>(c[f]?).bind λa=>xN C a.type b a.offset
 |_,_=>none
def nj(C:m')(t:TP)(x i:Value):Tk:=
 match intOf i with
 |none=>none
 |some i=>
  match C.P.underlying t,x with
  |some (.array c a),.agg d=>if 0<=i/\i<(c:Int)then xN C a d (i.toNat*C.P.cellsOf a)else none
  |some .string,.string s=>if 0<=i then(s[i.toNat]?).map λb=>.int .u8 b.toNat else none
  |_,_=>none
def oD(P:TI)(t:TP):Option (Nat->Option (Nat×Nat)):=
 match P.underlying t with
 |some (.struct a)=>
  if a.all λf=>(P.info? f.type).isSome then some λi=>(a[i]?).map λf=>(f.offset,P.cellsOf f.type)else none
 |some (.array _ e)=>if (P.info? e).isSome then some λi=>some (i*P.cellsOf e,P.cellsOf e)else none
 |_=>none
def uz(C:m')(t:TP)(a:List (Nat×Value)):Tk:=
 match eU C.P t,oD C.P t with
 |some z,some pl=>(Instr.fill pl z.cells a).map .agg
 |_,_=>none
def aL(z:Tn)(n:Nat):Tn:=(replicate n z).flatten
def fz(C:m')(t:TP)(len:Nat)(b:List (Nat×Value)):Option (Nat×List Value):=
 match C.P.underlying t with
 |some (.slice e)=>
  match C.P.info? e with
  |some a=>
   if a.size=0 then none else
   if len*a.size > 16777216 then none else
   match lR a with
   |some z=>
    (Instr.fill (λi=>some (i*a.size,a.size)) (aL z.cells.toList len).toArray b).map λc=>(a.size,c.toList)
   |none=>none
  |none=>none
 |_=>none
def dz(C:m')(t:TP)(len cap:Value)(H:Tu):Option (List p_×Value):=
 match intOf len,intOf cap,C.P.underlying t with
 |some l,some c,some (.slice e)=>
  match C.P.info? e with
  |some a=>
   if a.size=0 then none else
   match lR a with
   |some z=>
    if 0<=l/\l<=c/\c<=1048576/\a.bytes<=4096 then
     some (H++[.cells (aL z.cells.toList c.toNat) a.size true],.slice (some ⟨H.length,0,le a.size⟩) l.toNat (c.toNat+1))
    else none
   |none=>none
  |none=>none
 |_,_,_=>none
def be:Value->Option Bool
 | .slice none 0 0=>some true
 | .slice (some _) _ _=>some false
 | .map none=>some true
 | .map (some _)=>some false
 | .nilFunc=>some true
 | .func .. => some false
 | .pointer none=>some true
 | .pointer (some _)=>some false
 |_=>none
def bD(e:MapEntry):MapEntry:={ key:=e.key,val:=undef,born:=0 }
def sY(P:TI)(kt:TP)(k:Value)(a:Tj):Option (Ts):=
 (CH P (Instr.findKey kt k (a.map bD))).map λr=>r.map (·.1)
def jC(P:TI)(kt:TP)(k:Value):Bool:=
 gl k&&(CH P (Instr.checkKey true 10000 kt k)).isSome&&(CH P (Instr.checkKey false 10000 kt k)).isSome&&(CH P (Op.equal kt k k)).any id
def em(a:Tj)(i:Nat):Tk:=(a[i]?).map (·.val)
def Dy(H:Tu)(id:Nat):Option (List MapEntry×Nat):=
 match H[id]? with
 |some (.map a c)=>some (a,c)
 |_=>none
def dL(C:m')(t:TP)(m k:Value)(ok:Bool)(H:Tu):Tk:=
 match C.P.underlying t with
 |some (.map b c)=>
  if !jC C.P b k then none else
  match eU C.P c with
  |none=>none
  |some z=>
   match m with
   | .map none=>some (if ok then .tuple #[z,.bool false]else z)
   | .map (some id)=>
    match Dy H id with
    |none=>none
    |some (a,_)=>
     match sY C.P b k a with
     |none=>none
     |some none=>some (if ok then .tuple #[z,.bool false]else z)
     |some (some i)=>(em a i).map λv=>if ok then .tuple #[v,.bool true]else v
   |_=>none
 |_=>none
def cI(C:m')(t:TP)(m k v:Value)(H:Tu):Option (List p_×Value):=
 match C.P.underlying t,m with
 |some (.map b _),.map (some id)=>
  if !(jC C.P b k&&n_ v && !aH v)then none else
  match Dy H id with
  |none=>none
  |some (a,c)=>
   match sY C.P b k a with
   |none=>none
   |some none=>some (H.set id (.map (a++[{ key:=k,val:=v,born:=c }]) (c+1)),undef)
   |some (some i)=>
    if (a[i]?).all (λe=>Instr.sameBits 10000 e.key k)then some (H.set id (.map (a.modify i λe=>{ e with key:=k,val:=v }) c),undef)else none
 |_,_=>none
def iS(C:m')(t:TP)(m k:Value)(H:Tu):Option (List p_×Value):=none
def fE(m st v:Value)(H:Tu):Option (List p_×Value):=none
def oZ(C:m')(t:TP)(m k:Value)(H:Tu):Option (List p_×Value):=none
abbrev _root_.TC:=List Nat
def nI(b_:TC):TK->Nat
 | .tmp t=>b_.getD t 0
 | .global _=>1
 |_=>0
def iR:Value->Option (Nat×Nat)
 | .pointer (some a)=>if a.spot.isNone then some (a.block,a.off)else none
 |_=>none
def gR:Value->Option (Nat×Nat)
 | .pointer (some a)=>if a.spot=some 1 then some (a.block,a.off)else none
 |_=>none
def jI(s:Nat):Value->Option Nat
 | .pointer (some a)=>if a.spot=some 0/\a.block=s then some a.off else none
 |_=>none
def dX(C:m')(b_:TC)(t:TP)(a:TK)(v:Value):Option DS:=
 match nI b_ a with
 |0=>match iR v with
  |some p=>some (.EZ λH=>(ge H p.1).bind λb=>dx C.P t b p.2)
  |none=>(gR v).map λp=>.EZ λ_=>(C.G p.1).bind λb=>dx C.P t b p.2
 |1=>(gR v).bind λp=>((C.G p.1).bind λb=>dx C.P t b p.2).map .val
 |s+2=>(jI s v).map λc=>.Hc s λb=>dx C.P t b c
def jU(C:m')(t:TP)(id off:Nat)(x:Value)(H:Tu):Option (List p_×Value):=
 match H[id]? with
 |some (.cells b e true)=>(fi C.P t x b off).map λa=>(H.set id (.cells a e true),undef)
 |_=>none
def fg(C:m')(b_:TC)(t:TP)(a:TK)(v x:Value):Option DS:=
 if aH x then none else
 match nI b_ a with
 |0=>(iR v).map λp=>.F9 (jU C t p.1 p.2 x)
 |1=>none
 |s+2=>(jI s v).map λb=>.FD s λc=>fi C.P t x c b
def mK(P:TI)(t:TP):Nat:=
 match P.underlying t with
 |some (.array _ e)=>P.cellsOf e
 |_=>P.cellsOf t
def cJ(C:m')(b_:TC)(dst:Tq)(t:TP)(v:Value):Option DS:=
 if aH v then none else
 match dst with
 |none=>none
 |some d=>
  if !(v.cells.toList.all bh)then none
  else if b_.getD d 0=d+2 then some (.FC d v.cells.toList)
  else
   some (.F9 λH=>some (H++[.cells v.cells.toList (mK C.P t) true],.pointer (some ⟨H.length,0,none⟩)))
abbrev _root_.Tg:=Operand->Value
def cK(C:m')(a:Tg)(o:Oper):Option DS:=
 if o.op.operands.toList.all (λx=>flat (a x))then
  match CH C.P (execOp a o)with
  |some (.value v)=>if flat v then some (.val v)else none
  |_=>none
 else none
def pZ(a:Tk)(b:Option DS):Option DS:=
 match a with
 |some v=>some (.val v)
 |none=>b
def mi(x y:Value):Option Bool:=
 match be x,be y with
 |some true,some b=>some b
 |some b,some true=>some b
 |_,_=>none
def dw:Value->Nat
 | .slice .. => 1
 | .map _=>2
 | .nilFunc=>3
 | .func .. => 3
 | .pointer _=>4
 |_=>0
def mj:TypeDesc->Nat
 | .slice _=>1
 | .map _ _=>2
 | .func .. => 3
 | .pointer _=>4
 |_=>100
def tH(P:TI)(t:TP)(x y:Value):Bool:=
 match P.underlying t with
 |some d=>mj d==dw x&&mj d==dw y
 |none=>false
def HP(C:m')(t:TP)(d x:Value)(H:Tu):Option (List p_×Value):=none
def uG(C:m')(t:TP)(x:Value)(H:Tu):Option (List p_×Value):=none
def aX(C:m')(a:Tg)(b:Builtin)(args:Tn)(argTypes:Array TypeId)(o:Oper):Option DS:=
 match b,args,argTypes[0]? with
 | .append,[s,x],some t=>if argTypes[1]?.any (λu=>(C.P.underlying u) matches some (.int _)|none)||argTypes[1]?.isNone then none else some (.F9 (gk C t s x))
 | .len,[x],some t=>
  match C.P.underlying t,x with
  |some (.slice _),.slice _ n _=>some (.val (.int .i64 n))
  |some (.map _ _),.map (some id)=>some (.EZ λH=>(Dy H id).map λp=>.int .i64 p.1.length)
  |some (.array n _),_=>some (.val (.int .i64 n))
  |_,_=>cK C a o
 | .cap,[x],some t=>
  match C.P.underlying t,x with
  |some (.slice _),.slice (some _) _ (n+1)=>some (.val (.int .i64 n))
  |some (.slice _),.slice none 0 0=>some (.val (.int .i64 0))
  |some (.array n _),_=>some (.val (.int .i64 n))
  |_,_=>none
 | .copy,[d,x],some t=>some (.F9 (HP C t d x))
 | .delete,[m,k],some t=>some (.F9 (oZ C t m k))
 | .clear,[x],some t=>some (.F9 (uG C t x))
 |_,_,_=>cK C a o
def gM(C:m')(e:Tg)(c:Call)(o:Oper):Option DS:=
 let a:=c.args.toList.map e
 match c.callee with
 | .builtin b=>aX C e b a c.argTypes o
 | .invoke _ _=>none
 | .value f=>
  if !(a.all n_)then none else
  match e f with
  | .func (.func g) first d=>if n_ (.func (.func g) first d)then some (.call g (first.toList++a++d.toList))else none
  | .func (.yield l) first d=>if first.size=0/\d.size=0 then some (.yield l a)else none
  |_=>none
def pJ(C:m')(t:TP):Tk->Bool
 |none=>true
 |some v=>(intOf v).isSome&&((C.P.underlying t) matches some (.map _ _))
def au(C:m')(b_:TC)(d:Tg)(o:Oper):Option DS:=
 match o.op with
 | .move x=>some (.val (d x))
 | .assign x=>some (.val (d x))
 | .pick c a b=>match d c with
  | .bool q=>some (.val (if q then d a else d b))
  |_=>none
 | .alloc t=>(eU C.P t).bind λz=>cJ C b_ o.dst t z
 | .box t x=>cJ C b_ o.dst t (d x)
 | .build t e=>if e.toList.all (λp=>!aH (d p.2))then(uz C t (e.toList.map λp=>(p.1,d p.2))).map .val else none
 | .buildSlice t n e=>
  if (e.toList.all λp=>(d p.2).cells.toList.all bh)then
   (fz C t n (e.toList.map λp=>(p.1,d p.2))).map λr=>
    .F9 λH=>some (H++[.cells r.2 r.1 true],.slice (some ⟨H.length,0,le r.1⟩) n (n+1))
  else none
 | .load t a=>dX C b_ t a (d a)
 | .store t a x=>fg C b_ t a (d a) (d x)
 | .nilCheck x=>match d x with
  | .pointer (some a)=>some (.val (.pointer (some a)))
  | .func (.func f) a b=>some (.val (.func (.func f) a b))
  | .func (.yield f) a b=>some (.val (.func (.yield f) a b))
  |_=>none
 | .binOp B t x y _=>
  match B with
  | .eql=>match mi (d x) (d y)with
   |some b=>if tH C.P t (d x) (d y)then some (.val (.bool b))else none
   |none=>cK C d o
  | .neq=>match mi (d x) (d y)with
   |some b=>if tH C.P t (d x) (d y)then some (.val (.bool !b))else none
   |none=>cK C d o
  |_=>cK C d o
 | .makeFunc fn first g=>match fn with
  | .yield _=>none
  |fn=>some (.val (.func fn (first.map d) (g.map d)))
 | .makeMap t r=>
  if pJ C t (r.map d)then
   some (.F9 λH=>some (H++[.map [] 0],.map (some H.length)))
  else none
 | .makeSlice t l c=>some (.F9 (dz C t (d l) (d c)))
 | .slice t x j h u=>
  match d x with
  | .pointer (some a)=>
   if a.spot=some 1 then(lM C t a (j.map d) (h.map d) (u.map d) []).map .val
   else some (.EZ (lM C t a (j.map d) (h.map d) (u.map d)))
  |x=>pZ (Ak C t x (j.map d) (h.map d) (u.map d)) (cK C d o)
 | .fieldAddr t x f=>(gq C t (d x) f).map .val
 | .indexAddr t x i=>(fm C t (d x) (d i)).map .val
 | .field t x f=>(uU C t (d x) f).map .val
 | .index t x i=>(nj C t (d x) (d i)).map .val
 | .lookup t m k w=>match d m with
  | .map none=>(dL C t (.map none) (d k) w []).map .val
  |m=>some (.EZ (dL C t m (d k) w))
 | .mapUpdate t m k v=>some (.F9 (cI C t (d m) (d k) (d v)))
 | .insert t m k v=>some (.F9 (cI C t (d m) (d k) (d v)))
 | .mapEntry t m k=>some (.F9 (iS C t (d m) (d k)))
 | .entryStore _ m s v=>some (.F9 (fE (d m) (d s) (d v)))
 | .extract t i=>match d t with
  | .tuple A=>if A.size<=1 then none else(A[i]?).map .val
  |_=>none
 | .call c=>gM C d c o
 | .unOp .. => cK C d o
 | .convert .. => cK C d o
 |_=>none
def cN{i7:Type}{f:i7->Bool}{l:List i7}(h:l.all f=true){i:Nat}{x:i7}(a:l[i]?=some x):f x=true:=
 A_.1 h x (Cf a)
def eQ{c:TR}(h:aO c=true):c.cells = #[c]:=by
 cases c<;>first|rfl|(simp[aO]at h)
section
variable [Co]
def F7:Value->Value
 | .tuple vs=>match vs.toList with
  | [.agg cs]=>match ui cs with
   |some k=>.int k (Co.num cs)
   |none=>.tuple vs
  |_=>.tuple vs
 |v=>v
def FS:Value->Value
 | .agg cs=>.agg (cs.map F7)
 |v=>F7 v
def jL(v:Value):Bool:=scalar v||jB v
def plain:Value->Bool
 | .agg cs=>cs.toList.all jL
 |v=>jL v
def PN:Op->Bool
 | .select .. => true
 | .defer _=>true
 |_=>false
def nB(C:m')(a:Tn)(o:Oper)(v:Value):Prop:=
 PN o.op=false/\o.op.operands.toList.all (λx=>plain (jw a x))=true/\plain v=true/\
  ∀w,(execOp (λx=>FS (jw a x)) o).run C.P w = .ok (.value (FS v)) w
def gj(g9 a:St):Prop:=
 a.loc=g9.loc/\a.heap=g9.heap/\a.tmps.length=g9.tmps.length/\
  ∀(i:Nat) x y,g9.tmps[i]?=some x->a.tmps[i]?=some y->y=x∨(plain x=true/\plain y=true/\FS x=FS y)
abbrev _root_.To:=Array Oper
def cB(ops:To)(a:Tn)(o:Oper):Option Bool:=
 match o.guard with
 |none=>some true
 |some (j,c)=>
  match ((ops[j]?).bind (·.dst)).bind (a[·]?)with
  |some (.bool b)=>some (b==c)
  |some (.tuple d)=>if d.size=1 then none else some false
  |_=>some false
structure Below where
 call:TQ->Tn->Tu->Value->Tu->Prop
 yield:Nat->Tn->Tu->Value->Tu->Prop
def mY(B:Below)(e:DS)(dst:Tq)(g9 a:St):Prop:=
 match e with
 | .call f args=>∃r H,B.call f args g9.heap r H/\a=({ g9 with heap:=H }:St).put dst r
 | .yield l args=>∃r H,B.yield l args g9.heap r H/\a=({ g9 with heap:=H }:St).put dst r
 |e=>∃p,aW g9 e=some p/\a=p.1.put dst p.2
def ao(C:m')(B:Below)(b_:TC)(ops:To)(i:Nat)(g9 a:St):Prop:=
 match ops[i]? with
 |none=>a=g9
 |some o=>
  match cB ops g9.tmps o with
  |none=>False
  |some false=>a=g9.put o.dst undef
  |some true=>(∃e,au C b_ (jw g9.tmps) o=some e/\mY B e o.dst g9 a)∨(∃v,nB C g9.tmps o v/\a=g9.put o.dst v)
def br(C:m')(B:Below)(b_:TC)(ops:To):TC->St->St->Prop
 | [],g9,a=>a=g9
 |i :: l,g9,a=>∃j6,ao C B b_ ops i g9 j6/\br C B b_ ops l j6 a
def fM(C:m')(B:Below)(b_:TC)(ops:To):TC->St->St->Prop
 | [],g9,a=>a=g9
 |i :: l,g9,a=>∃b j6,gj g9 b/\ao C B b_ ops i b j6/\fM C B b_ ops l j6 a
inductive Dv:(Nat->Value)->Prop
 |ptr:Dv λn=>.pointer (some ⟨n,0,none⟩)
 |slice (e l c:Nat):Dv λn=>.slice (some ⟨n,0,le e⟩) l c
 |map:Dv λn=>.map (some n)
def ed(C:m')(B:Below)(b_:TC)(ops:To)(c:Nat->Ts)(i:Nat)(g9 b:St):Prop:=
 match c i with
 |none=>ao C B b_ ops i g9 b
 |some k=>∃o f a x mk,ops[i]?=some o/\cB ops g9.tmps o=some true/\au C b_ (jw g9.tmps) o=some (.F9 f)/\f g9.heap=some (a++[x],mk g9.heap.length)/\
   a.length=g9.heap.length/\a[k]?=some .dead/\Dv mk/\b=({ g9 with heap:=a.set k x }:St).put o.dst (mk k)
def ju(C:m')(B:Below)(b_:TC)(ops:To)(b:Nat->Ts):TC->St->St->Prop
 | [],g9,a=>a=g9
 |i :: l,g9,a=>i∉l/\∃j6,ed C B b_ ops b i g9 j6/\ju C B b_ ops b l j6 a
def St.pad(g9:St)(n:Nat):St:={ g9 with heap:=g9.heap++replicate n .dead }
def dv(b_:TC)(o:Oper):Bool:=
 match o.op with
 | .buildSlice _ _ _ | .makeMap _ _ | .makeSlice _ _ _=>true
 | .alloc _ | .box _ _=>match o.dst with
  |some d=>!Nat.beq (b_.getD d 0) (d+2)
  |none=>false
 | .call c=>match c.callee with
  | .builtin .append=>true
  |_=>false
 |_=>false
def eo(C:m')(B:Below)(b_:TC)(ops:To)(g9 b:St):Prop:=
 (∀t,br C B b_ ops (Region.linearise .any ops t) g9 b)∨
 ∃a n,ops.toList.any (dv b_)=true/\(∀i k,a i=some k->g9.heap.length<=k/\k<g9.heap.length+n)/\(∀i j k,a i=some k->a j=some k->i=j)/\
  ∀t,ju C B b_ ops a (Region.linearise .any ops t) (g9.pad n) b
def aQ(b_:TC):Code->List Nat
 | .region _ ops _=>ops.toList.filterMap λo=>
  match o.op,o.dst with
  | .box ..,some d=>if b_.getD d 0=d+2 then some d else none
  | .alloc _,some d=>if b_.getD d 0=d+2 then some d else none
  |_,_=>none
 | .seq a b=>aQ b_ a++aQ b_ b
 | .cond _ a b=>aQ b_ a++aQ b_ b
 | .block _ b=>aQ b_ b
 | .loop b=>aQ b_ b
 | .rangeFunc _ _ a b=>aQ b_ a++aQ b_ b
 | .scope b=>aQ b_ b
 |_=>[]
def jH(b:TC)(v:Value):Value:=
 match v with
 | .pointer (some a)=>if a.spot=some 0&&b.contains a.block then w9 else v
 |v=>if n_ v then v else w9
def iG(a:TC):List (Option (Tn))->Nat->List (Option (Tn))
 | [],_=>[]
 |x :: l,i=>(if a.contains i then none else x) :: iG a l (i+1)
def St.clear(g9:St)(a:TC):St:=
 if a=[]then g9 else { g9 with tmps:=g9.tmps.map (jH a),loc:=iG a g9.loc 0 }
def yx(a tm:Tn):Prop:=tm.length=a.length/\∀(i:Nat) x,tm[i]?=some x->x=w9∨(a[i]?=some x/\n_ x=true)
def cR:List Tmp->Tn->Tn->List Value
 |t :: b,v :: vs,a=>cR b vs (a.set t v)
 |_,_,a=>a
def eI(H:Tu)(l:Nat):Option Fp:=
 match H[l]? with
 |some (.loop r)=>some r
 |_=>none
abbrev _root_.Tm:=Option Code
def I9:Exit->Option (Tm)
 | .normal=>some none
 | .ret=>some (some .ret)
 | .exit id=>some (some (.exit id))
 |_=>none
def yQ:Tm->Option Exit
 |none=>some .normal
 |some .ret=>some .ret
 |some (.exit id)=>some (.exit id)
 |_=>none
def fR(C:m')(g9:St):ResultVar->Option Value
 | .tmp t=>some (g9.tmps.getD t undef)
 | .cell a t=>
  match g9.tmps.getD a undef with
  | .pointer (some p)=>
   match p.spot with
   |none=>(ge g9.heap p.block).bind λvs=>dx C.P t vs p.off
   |some 0=>match g9.loc[p.block]? with
    |some (some vs)=>dx C.P t vs p.off
    |_=>none
   |_=>none
  |_=>none
def dd(C:m')(g9:St):List ResultVar->Option (Tn)
 | []=>some []
 |r :: a=>match fR C g9 r,dd C g9 a with
  |some v,some vs=>some (v :: vs)
  |_,_=>none
def fQ:Tn->Value
 | [v]=>v
 |vs=>.tuple vs.toArray
def mZ(a:Func)(args:Tn)(H:Tu):St:=
 { tmps:=args++replicate (a.ntmps - args.length) undef,loc:=replicate a.ntmps none,heap:=H }
structure Fg extends Below where
 ex:TC->Code->St->Exit->St->Prop
def jS(id:Nat):Exit->Exit
 | .exit i=>if i=id then .normal else .exit i
 |e=>e
def pz(C:m')(S:Fg)(h:TC):Code->St->Exit->St->Prop
 | .skip,g9,e,d=>e = .normal/\d=g9
 | .label _,g9,e,d=>e = .normal/\d=g9
 | .ret,g9,e,d=>e = .ret/\d=g9
 | .exit id,g9,e,d=>e = .exit id/\d=g9
 | .goto _,_,_,_=>False
 | .refuse _,_,_,_=>False
 | .seq a b,g9,e,d=>∃i j6,S.ex h a g9 i j6/\((i = .normal/\S.ex h b j6 e d)∨(i≠.normal/\e=i/\d=j6))
 | .cond c a b,g9,e,d=>∃t,jw g9.tmps c = .bool t/\S.ex h (if t then a else b) g9 e d
 | .block id b,g9,e,d=>∃i,S.ex h b g9 i d/\e=jS id i
 | .loop b,g9,e,d=>∃i j6,S.ex h b (g9.clear (aQ h b)) i j6/\((i = .normal/\S.ex h (.loop b) j6 e d)∨(i≠.normal/\e=i/\d=j6))
 | .scope b,g9,e,d=>S.ex h b g9 e d
 | .region _ ops j,g9,e,d=>e = .normal/\(if j then ∃l,gj g9 l/\eo C S.toBelow h ops l d else fM C S.toBelow h ops (List.range ops.size) g9 d)
 | .rangeFunc f params assign body,g9,e,d=>
  h≠[]/\∃g first cap y0 tm r H k,yx g9.tmps tm/\
   jw g9.tmps f = .func (.func g) first cap/\n_ (.func (.func g) first cap)=true/\
   S.call g (first.toList++[.func (.yield g9.heap.length) #[] #[]]++cap.toList)
    (g9.heap++[.loop { state:=.ready,pending:=none,fn:=y0,tmps:=tm,params:=params.toList,assign,body }]) r H/\
   eI H g9.heap.length=some k/\k.state≠.busy/\yQ k.pending=some e/\
   d = { g9 with heap:=H.set g9.heap.length (.loop { k with state:=.exhausted }) }
def nT(C:m')(S:Fg)(f:TQ)(args:Tn)(H:Tu)(r:Value)(H':Tu):Prop:=
 ∃a b e g9 vs,C.P.funcs[f]?=some a/\a.body=some b/\((a.name == "runtime.NumGoroutine")||C.opq f)=false/\
  S.ex (C.b_ f) b (mZ a args H) e g9/\(e = .normal∨e = .ret)/\dd C g9 a.results.toList=some vs/\
  r=fQ vs/\n_ r=true/\H'=g9.heap
def lQ(f:m')(S:Fg)(l:Nat)(args:Tn)(H:Tu)(r:Value)(H':Tu):Prop:=
 ∃a j6 c e b d j,eI H l=some a/\args.length=a.params.length/\
  S.ex [] a.assign { tmps:=cR a.params args a.tmps,loc:=[],heap:=H } .normal j6/\
  eI j6.heap l=some c/\c.state = .ready/\
  S.ex [] a.body { j6 with heap:=j6.heap.set l (.loop { c with state:=.busy }) } e b/\I9 e=some j/\
  eI b.heap l=some d/\r = .bool j.isNone/\
  H'=b.heap.set l (.loop { d with state:=if j.isNone then .ready else .done,pending:=j })
abbrev NX:=FuncId->Tn->Tu->Value->Tu->Prop
def Nl(C:m')(K:NX):Nat->Fg
 |0=>{ call:=K,yield:=λ_ _ _ _ _=>False,ex:=λ_ _ _ _ _=>False }
 |n+1=>{ call:=λf args H r H'=>K f args H r H'∨nT C (Nl C K n) f args H r H',yield:=lQ C (Nl C K n),ex:=pz C (Nl C K n) }
end
structure Pl where
 b:Nat
 o:Nat
 room:Nat
 r_:Nat
abbrev q_:=Nat->Option Nat
abbrev ke:=Nat->Option Pl
def y8:q_:=λ_=>none
section
variable [Co] [Dw]
abbrev _root_.TL:=IntKind
inductive VR(la:q_)(mu:ke):Value->Value->Prop
 |w9 (c:Value):VR la mu (.tuple #[.tuple #[]]) c
 |LP {cs:Tl} {k:TL} (h:ui cs=some k):VR la mu (.tuple #[.agg cs]) (.int k (Co.num cs))
 |scalar {v:Value} (h:scalar v=true):VR la mu v v
 |agg {a c:Tl} (hs:a.size=c.size) (h:∀(i:Nat) (x y:Value),a[i]?=some x->c[i]?=some y->VR la mu x y):VR la mu (.agg a) (.agg c)
 |tuple {a c:Tl} (hn:a.size≠1) (hs:a.size=c.size) (h:∀(i:Nat) (x y:Value),a[i]?=some x->c[i]?=some y->VR la mu x y):VR la mu (.tuple a) (.tuple c)
 |func {fn:Fn} {a b a' b':Tl} (hf:∀l,fn≠.yield l) (ha:a.size=a'.size) (hb:b.size=b'.size)
   (u6:∀(i:Nat) (x y:Value),a[i]?=some x->a'[i]?=some y->VR la mu x y) (A4:∀(i:Nat) (x y:Value),b[i]?=some x->b'[i]?=some y->VR la mu x y) :
   VR la mu (.func fn a b) (.func fn a' b')
 |yield {l:Nat} {p:Pl} (h:mu l=some p):VR la mu (.func (.yield l) #[] #[]) (.func (.yield p.b) #[] #[])
 |Es {s off b:Nat} (h:la s=some b):VR la mu (.pointer (some ⟨s,off,some 0⟩)) (.pointer (some ⟨b,off,none⟩))
 |DM {id off:Nat} {p:Pl} (h:mu id=some p):VR la mu (.pointer (some ⟨id,off,none⟩)) (.pointer (some ⟨p.b,p.o+off,none⟩))
 |DV {g off:Nat}:VR la mu (.pointer (some ⟨g,off,some 1⟩)) (.pointer (some ⟨Eo g,Fz g+off,none⟩))
 |x3 {id off len cap cx:Nat} {p:Pl} (h:mu id=some p) (hr:off+cap*p.r_<=p.room) (hl:len<=cap) (hx:cx=0∨cx=cap+1) :
   VR la mu (.slice (some ⟨id,off,le p.r_⟩) len cx) (.slice (some ⟨p.b,p.o+off,none⟩) len cap)
 |u_ {id off cx r_:Nat} {a:Addr} (hx:cx<=1):VR la mu (.slice (some ⟨id,off,le r_⟩) 0 cx) (.slice (some a) 0 0)
 |Cu {g off len cap cx:Nat} (hl:len<=cap) (hx:cx=0∨cx=cap+1):VR la mu (.slice (some ⟨g,off,some 1⟩) len cx) (.slice (some ⟨Eo g,Fz g+off,none⟩) len cap)
 |y9 {g off cx:Nat} {a:Addr} (hx:cx<=1):VR la mu (.slice (some ⟨g,off,some 1⟩) 0 cx) (.slice (some a) 0 0)
 |map {id:Nat} {p:Pl} (h:mu id=some p):VR la mu (.map (some id)) (.map (some p.b))
def VR.mono{la f:q_}{mu g:ke}{a c:TR}(h:VR la mu a c)(t:∀s b,la s=some b->f s=some b)(j:∀i p,mu i=some p->g i=some p) :
  VR f g a c:=by
 induction h with
 |w9 c=>exact .w9 c
 |LP h=>exact .LP h
 |scalar h=>exact .scalar h
 |agg k _ l=>exact .agg k l
 |tuple u k _ l=>exact .tuple u k l
 |func r o q _ _ m n=>exact .func r o q m n
 |yield h=>exact .yield (j _ _ h)
 |Es h=>exact .Es (t _ _ h)
 |DM h=>exact .DM (j _ _ h)
 |DV=>exact .DV
 |x3 h v d e=>exact .x3 (j _ _ h) v d e
 |u_ e=>exact .u_ e
 |Cu d e=>exact .Cu d e
 |y9 e=>exact .y9 e
 |map h=>exact .map (j _ _ h)
def VR.up{la:q_}{mu:ke}{a c:TR}(h:VR y8 mu a c):VR la mu a c:=
 h.mono (λ_ _ h=>by cases h) (λ_ _ h=>h)
def VR.undef{la:q_}{mu:ke}:VR la mu undef undef:=.tuple c_ rfl λi x y h=>by simp at h
def cL{la:q_}{mu:ke}{a c:TR}(b:scalar a=true)(h:VR la mu a c):c=a:=by
 cases h<;>first|rfl|(simp[Am.scalar]at b)
def og{la:q_}{mu:ke}{a c:TR}(b:gl a=true)(h:VR la mu a c):c=a:=by
 cases a with
 |agg f=>
  cases h with
  |scalar _=>rfl
  |agg d h=>
   rename_i g
   simp only[gl]at b
   congr 1
   apply Array.ext d.symm;intro i j e;exact cL (cN (i:=i) b (by simp[e])) (h i f[i] g[i] (by simp[e]) (by simp[j]))
 |_=>exact cL b h
def dt{la:q_}{mu:ke}{a c:TR}(b:flat a=true)(h:VR la mu a c):c=a:=by
 cases a with
 |tuple f=>
  cases h with
  |w9 c=>simp[flat,gl,Am.scalar]at b
  |LP _=>simp[flat]at b
  |scalar _=>rfl
  |tuple k d h=>
   rename_i g
   simp only[flat,vd]at b
   replace b:=b.2
   congr 1
   apply Array.ext d.symm;intro i j e;exact og (cN (i:=i) b (by simp[e])) (h i f[i] g[i] (by simp[e]) (by simp[j]))
 |_=>exact og b h
def VR.H_{la:q_}{mu:ke}{v:TR}(h:gl v=true):VR la mu v v:=by
 cases v with
 |agg c=>
  refine .agg rfl λi x y a b=>?_;obtain rfl:x=y:=by rw[a]at b;exact D' b
  exact .scalar (cN (i:=i) (l:=c.toList) h (by simpa using a))
 |_=>exact .scalar h
def VR.of_flat{la:q_}{mu:ke}{v:TR}(h:flat v=true):VR la mu v v:=by
 cases v with
 |tuple c=>
  simp only[flat,vd,bne_iff_ne]at h;refine .tuple h.1 rfl λi x y a b=>?_;obtain rfl:x=y:=by rw[a]at b;exact D' b
  exact .H_ (cN (i:=i) (l:=c.toList) h.2 (by simpa using a))
 |_=>exact .H_ h
def fK{la:q_}{mu:ke}{a c:TR}(e:bi a=true)(h:VR la mu a c):VR y8 mu a c:=by
 cases h with
 |w9 c=>simp[bi,jB]at e
 |LP h=>exact .LP h
 |scalar h=>exact .scalar h
 |agg _ _=>simp[bi]at e
 |tuple f _ _=>exact absurd (gw e) f
 |func _ _ _ _ _=>simp[bi]at e
 |yield h=>simp[bi]at e
 |Es h=>simp[bi]at e
 |DM h=>exact .DM h
 |DV=>exact .DV
 |x3 h g b d=>exact .x3 h g b d
 |u_ d=>exact .u_ d
 |Cu b d=>exact .Cu b d
 |y9 d=>exact .y9 d
 |map h=>exact .map h
def pg{f g:TR->Bool}{la:q_}{mu:ke}
  (n:∀a c,f a=true->VR la mu a c->VR y8 mu a c)
  (m:∀cs,g (.agg cs)=cs.toList.all f) (o:∀q a b,g (.func q a b)=(a.toList.all f&&b.toList.all f))
  (p:∀vs,g (.tuple vs)=true->vs.toList.all f=true∨jB (.tuple vs)=true)
  (r:∀v,(∀cs,v≠.agg cs)->(∀q a b,v≠.func q a b)->(∀vs,v≠.tuple vs)->g v=f v)
  {a c:TR} (e:g a=true) (h:VR la mu a c):VR y8 mu a c:=by
 cases h with
 |w9 c=>exact .w9 c
 |LP h=>exact .LP h
 |scalar h=>exact .scalar h
 |agg k h=>
  rw[m]at e;exact .agg k λi x y d l=>n _ _ (cN (i:=i) e (by simpa using d)) (h i x y d l)
 |tuple s k h=>
  have:=(p _ e).resolve_right λB=>s (gw B);exact .tuple s k λi x y d l=>n _ _ (cN (i:=i) this (by simpa using d)) (h i x y d l)
 |func t z A u w=>
  rw[o,vd]at e;exact .func t z A (λi x y d l=>n _ _ (cN (i:=i) e.1 (by simpa using d)) (u i x y d l))
   (λi x y d l=>n _ _ (cN (i:=i) e.2 (by simpa using d)) (w i x y d l))
 |yield h=>exact .yield h
 |Es h=>
  rw[r _ c_ c_ c_]at e;exact n _ _ e (.Es h)
 |DM h=>exact .DM h
 |DV=>exact .DV
 |x3 h C j d=>exact .x3 h C j d
 |u_ d=>exact .u_ d
 |Cu j d=>exact .Cu j d
 |y9 d=>exact .y9 d
 |map h=>exact .map h
def xE{la:q_}{mu:ke}{a c:TR}(k:bB a=true)(h:VR la mu a c):VR y8 mu a c:=
 pg (f:=bi) (g:=bB) (λ_ _=>fK) (λ_=>rfl) (λ_ _ _=>rfl)
  (λd h=>by
   have b:(d.size==0||jB (.tuple d))=true:=h;simp only[Gk,beq_iff_eq]at b;rcases b with b|b
   .left;simp at b;simp[b]
   .exact .inr b) (λv e i j=>by cases v<;>first|rfl|exact absurd rfl (e _)|exact absurd rfl (i _ _ _)|exact absurd rfl (j _)) k h
def fL{la:q_}{mu:ke}{a c:TR}(i:aS a=true)(h:VR la mu a c):VR y8 mu a c:=
 pg (f:=bB) (g:=aS) (λ_ _=>xE) (λ_=>rfl) (λ_ _ _=>rfl)
  (λ_ h=>.inl h) (λv b d e=>by cases v<;>first|rfl|exact absurd rfl (b _)|exact absurd rfl (d _ _ _)|exact absurd rfl (e _)) i h
def ft{la:q_}{mu:ke}{a c:TR}(i:n_ a=true)(h:VR la mu a c):VR y8 mu a c:=
 pg (f:=aS) (g:=n_) (λ_ _=>fL) (λ_=>rfl) (λ_ _ _=>rfl)
  (λ_ h=>.inl h) (λv b d e=>by cases v<;>first|rfl|exact absurd rfl (b _)|exact absurd rfl (d _ _ _)|exact absurd rfl (e _)) i h
def wC{la:q_}{mu:ke}{a c:TR}(b:bh a=true)(h:VR la mu a c):VR y8 mu a c:=
 ft (by simp only[bh,vd]at b;exact b.1) h
def mn{la:q_}{mu:ke}{a c:TR}(b:aO a=true)(h:VR la mu a c):aO c=true:=by
 cases h with
 |w9 c=>simp[aO,jB]at b
 |LP _=>rfl
 |tuple d _ _=>exact absurd (gw b) d
 |scalar h=>exact b
 |_=>first|rfl|(simp[aO]at b)
def xF{la:q_}{mu:ke}{a:TR}{vs:Tl}(b:aO a=true)(h:VR la mu a (.tuple vs)):False:=by
 cases h with
 |w9 c=>simp[aO,jB]at b
 |tuple d _ _=>exact absurd (gw b) d
 |scalar h=>simp[Am.scalar]at h
def u9(la:q_)(mu:ke)(vs cs:Tn):Prop:=vs.length=cs.length/\∀(i:Nat) (x y:Value),vs[i]?=some x->cs[i]?=some y->VR la mu x y
def u9.nil{la:q_}{mu:ke}:u9 la mu [] []:=⟨rfl,λi x y h=>by simp at h⟩
def u9.cons{la:q_}{mu:ke}{v c:TR}{vs cs:Tn}(h:VR la mu v c)(d:u9 la mu vs cs):u9 la mu (v :: vs) (c :: cs):=by
 refine⟨by simp[d.1],λi x y a b=>?_⟩;cases i with
 |zero=>simp at a b;subst a b;exact h
 |succ i=>exact d.2 i x y (by simpa using a) (by simpa using b)
def u9.head{la:q_}{mu:ke}{v c:TR}{vs cs:Tn}(h:u9 la mu (v :: vs) (c :: cs)):VR la mu v c:=h.2 0 v c rfl rfl
def u9.tail{la:q_}{mu:ke}{v c:TR}{vs cs:Tn}(h:u9 la mu (v :: vs) (c :: cs)):u9 la mu vs cs:=
 ⟨by have:=h.1;simpa using this,λi x y a b=>h.2 (i+1) x y (by simpa using a) (by simpa using b)⟩
def u9.Hu{la:q_}{mu:ke}{v:TR}{vs cs:Tn}(h:u9 la mu (v :: vs) cs):∃c a,cs=c :: a/\VR la mu v c/\u9 la mu vs a:=by
 cases cs with
 |nil=>have:=h.1;simp at this
 |cons c cs=>exact⟨c,cs,rfl,h.head,h.tail⟩
def u9.unnil{la:q_}{mu:ke}{cs:Tn}(h:u9 la mu [] cs):cs=[]:=by
 have:=h.1;cases cs<;>simp_all
def u9.append{la:q_}{mu:ke}{vs cs c a:Tn}(h:u9 la mu vs cs)(h':u9 la mu c a):u9 la mu (vs++c) (cs++a):=by
 refine⟨by simp[h.1,h'.1],λi x y d b=>?_⟩;have e:=h.1;by_cases f:i<vs.length
 .rw[Fe f]at d;rw[Fe a_]at b;exact h.2 i x y d b
 .rw[GV a_]at d;rw[GV a_]at b;rw[←e]at b;exact h'.2 _ x y d b
def u9.mono{la a:q_}{mu c:ke}{vs cs:Tn}(h:u9 la mu vs cs)(d:∀s b,la s=some b->a s=some b)(e:∀i p,mu i=some p->c i=some p) :
  u9 a c vs cs:=⟨h.1,λi x y f g=>(h.2 i x y f g).mono d e⟩
def u9.down{la:q_}{mu:ke}{vs cs:Tn}(b:vs.all n_=true)(h:u9 la mu vs cs):u9 y8 mu vs cs:=
 ⟨h.1,λi x y a c=>ft (cN b a) (h.2 i x y a c)⟩
def u9.HR{la:q_}{mu:ke}{vs cs:Tn}(b:vs.all bh=true)(h:u9 la mu vs cs):u9 y8 mu vs cs:=
 ⟨h.1,λi x y a c=>wC (cN b a) (h.2 i x y a c)⟩
def u9.map{la:q_}{mu:ke}{i7:Type}{f g:i7->TR}(l:List i7)(h:∀x,x∈l->VR la mu (f x) (g x)):u9 la mu (l.map f) (l.map g):=by
 induction l with
 |nil=>exact .nil
 |cons a l c=>exact .cons (h a c_) (c λx b=>h x (by simp[b]))
def u9.take{la:q_}{mu:ke}{vs cs:Tn}(h:u9 la mu vs cs)(n:Nat):u9 la mu (vs.take n) (cs.take n):=by
 refine⟨by simp[h.1],λi x y a b=>?_⟩;rw[u3]at a b;split at a
 next c=>rw[rv c]at b;exact h.2 i x y a b
 .cases a
def u9.drop{la:q_}{mu:ke}{vs cs:Tn}(h:u9 la mu vs cs)(n:Nat):u9 la mu (vs.drop n) (cs.drop n):=by
 refine⟨by simp[h.1],λi x y a b=>?_⟩;rw[M2]at a b;exact h.2 _ x y a b
def u9.set{la:q_}{mu:ke}{vs cs:Tn}(h:u9 la mu vs cs)(n:Nat){v c:TR}(f:VR la mu v c):u9 la mu (vs.set n v) (cs.set n c):=by
 refine⟨by simp[h.1],λi x y a b=>?_⟩;rw[GS]at a b;by_cases d:n=i
 .subst d;simp only[if_true]at a b;split at a
  next e=>
   rw[rv (by rw[←h.1];exact e)]at b;simp at a b;subst a b;exact f
  .cases a
 .rw[te d]at a b;exact h.2 i x y a b
def u9.replicate{la:q_}{mu:ke}(n:Nat){v c:TR}(a:VR la mu v c):u9 la mu (replicate n v) (replicate n c):=by
 induction n with
 |zero=>exact .nil
 |succ n b=>exact .cons a b
def u9.get{la:q_}{mu:ke}{vs cs:Tn}(h:u9 la mu vs cs){i:Nat}{x:TR}(a:vs[i]?=some x):∃y,cs[i]?=some y/\VR la mu x y:=by
 have c:i<vs.length:=by
  rcases Gi i vs.length with h|h
  .exact h
  .rw[Gu h]at a;cases a
 have b:i<cs.length:=by have:=h.1;omega
 exact⟨cs[i],by simp[b],h.2 i x _ a (by simp[b])⟩
def u9.agg{la:q_}{mu:ke}{a c:Tl}(h:u9 la mu a.toList c.toList):VR la mu (.agg a) (.agg c):=
 .agg (by simpa using h.1) λi x y b d=>h.2 i x y (by simpa using b) (by simpa using d)
def VR.L3{la:q_}{mu:ke}{a:Tl}{c:TR}(h:VR la mu (.agg a) c):∃d,c = .agg d/\u9 la mu a.toList d.toList:=by
 cases h with
 |scalar h=>simp[Am.scalar]at h
 |agg b h=>exact⟨_,rfl,by simpa using b,λi x y e f=>h i x y (by simpa using e) (by simpa using f)⟩
def u9.tuple{la:q_}{mu:ke}{a c:Tl}(h:u9 la mu a.toList c.toList)(b:a.size≠1:=by simp):VR la mu (.tuple a) (.tuple c):=
 .tuple b (by simpa using h.1) λi x y d e=>h.2 i x y (by simpa using d) (by simpa using e)
def VR.L5{la:q_}{mu:ke}{a:Tl}{c:TR}(b:a.size≠1)(h:VR la mu (.tuple a) c):∃d,c = .tuple d/\u9 la mu a.toList d.toList:=by
 cases h with
 |w9 c=>simp at b
 |LP _=>simp at b
 |scalar h=>simp[Am.scalar]at h
 |tuple _ e h=>exact⟨_,rfl,by simpa using e,λi x y f g=>h i x y (by simpa using f) (by simpa using g)⟩
def VR.cells{la:q_}{mu:ke}{a c:TR}(f:aH a=false)(h:VR la mu a c):u9 la mu a.cells.toList c.cells.toList:=by
 cases a with
 |agg i=>
  obtain⟨d,rfl,b⟩:=h.L3;exact b
 |tuple g=>
  have e:aO (.tuple g)=true:=by simpa[aH,aO]using f
  rw[eQ (mn e h)];exact .cons h .nil
 |_=>
  rw[eQ (mn rfl h)];exact .cons h .nil
end
section
variable [Co] [Dw]
def gc(mu:ke)(e e':MapEntry):Prop:=e'.key=e.key/\gl e.key=true/\e'.born=e.born/\VR y8 mu e.val e'.val
def Eg(mu:ke)(p:Pl)(x:Option Obj):p_->Prop
 | .cells vs r_ rw=>p.r_=r_/\vs.length<=p.room/\vs.all bh=true/\∃c e fr,x=some (.cells c e fr)/\c.size=p.o+p.room/\(rw=true->fr=(0,0))/\
   ∀(i:Nat) v,vs[i]?=some v->∃v',c[p.o+i]?=some v'/\VR y8 mu v v'
 | .map d a=>∃b,x=some (.map b a)/\b.size=d.length/\∀(i:Nat) e,d[i]?=some e->∃e',b[i]?=some e'/\gc mu e e'
 | .loop r=>∃L:Loop,x=some (.loop L)/\L.state=r.state/\L.pending=r.pending/\L.params.toList=r.params/\L.assign=r.assign/\L.body=r.body/\u9 y8 mu r.tmps L.tmps.toList
 | .GW s pos=>x=some (.stringIter s pos)
 | .dead=>True
def gc.mono{mu a:ke}(b:∀i p,mu i=some p->a i=some p){e e':MapEntry}(h:gc mu e e'):gc a e e':=
 ⟨h.1,h.2.1,h.2.2.1,h.2.2.2.mono (λ_ _ h=>h) b⟩
def Eg.mono{mu j:ke}(u:∀i p,mu i=some p->j i=some p){p:Pl}{x:Option Obj}{o:p_}(h:Eg mu p x o):Eg j p x o:=by
 cases o with
 |cells C w rw=>
  obtain⟨d,f,g,c,e,y,m,n,q,t⟩:=h;exact⟨d,f,g,c,e,y,m,n,q,λi v A=>let ⟨v',a,b⟩:=t i v A;⟨v',a,b.mono (λ_ _ h=>h) u⟩⟩
 |map B k=>
  obtain⟨l,d,f,g⟩:=h;exact⟨l,d,f,λi e z=>let ⟨e',a,b⟩:=g i e z;⟨e',a,b.mono u⟩⟩
 |loop r=>
  obtain⟨L,d,f,g,m,n,q,t⟩:=h;exact⟨L,d,f,g,m,n,q,t.mono (λ_ _ h=>h) u⟩
 |GW s pos=>exact h
 |dead=>trivial
def cD(mu:ke)(vs:Tn)(c:Tl)(o:Nat):Prop:=∀(i:Nat) v,vs[i]?=some v->∃v',c[o+i]?=some v'/\VR y8 mu v v'
def cD.mono{mu d:ke}{vs:Tn}{c:Tl}{o:Nat}(h:cD mu vs c o)(e:∀i p,mu i=some p->d i=some p):cD d vs c o:=
 λi v f=>let ⟨v',a,b⟩:=h i v f;⟨v',a,b.mono (λ_ _ h=>h) e⟩
structure WR(C:m')(base:Nat)(mu:ke)(H:Tu)(w:TS):Prop where
 obj:∀id o,H[id]?=some o->o.alive=true->∃p,mu id=some p/\Eg mu p w.heap[p.b]? o
 inj:∀(i j:Nat) oi oj pi pj,H[i]?=some oi->H[j]?=some oj->oi.owned=true->oj.alive=true->i≠j->mu i=some pi->mu j=some pj->pi.b≠pj.b
 own:∀(i:Nat) o p,H[i]?=some o->o.owned=true->mu i=some p->base<=p.b
 ro:∀(i:Nat) o p,H[i]?=some o->o.alive=true->o.owned=false->mu i=some p->p.b<base
 Hw:∀id,H.length<=id->mu id=none
 DL:∀g vs,C.G g=some vs->Eo g<base/\vs.all bh=true/\∃c e fr,w.heap[Eo g]?=some (.cells c e fr)/\cD mu vs c (Fz g)
def HI(mu:ke)(H:Tu)(b:Nat):Prop:=∃(id:Nat) (o:p_) (p:Pl),H[id]?=some o/\o.owned=true/\mu id=some p/\p.b=b
def aU{o:p_}(h:o.owned=true):o.alive=true:=by cases o<;>first|rfl|(simp[p_.owned]at h)
structure El(H:Tu)(mu:ke)(w:TS)(H':Tu)(mu':ke)(w':TS):Prop where
 len:H.length<=H'.length
 same:∀id,id<H.length->mu' id=mu id
 size:w.heap.size<=w'.heap.size
 j9:∀b,b<w.heap.size->¬HI mu H b->w'.heap[b]?=w.heap[b]?
 Ea:∀b,HI mu' H' b->w.heap.size<=b∨HI mu H b
 os:w'.os=w.os
 tape:w'.tape=w.tape
 output:w'.output=w.output
 dr:w.drawn<=w'.drawn
theorem El.refl(H:Tu)(mu:ke)(w:TS):El H mu w H mu w:=
 ⟨A9 _,λ_ _=>rfl,A9 _,λ_ _ _=>rfl,λ_ h=>.inr h,rfl,rfl,rfl,A9 _⟩
def El.trans{d e f:Tu}{q g i:ke}{o p j:TS}(h:El d q o e g p)(k:El e g p f i j):El d q o f i j where
 len:=NN h.len k.len
 same:=λid m=>(k.same id (qc1 m h.len)).trans (h.same id m)
 size:=NN h.size k.size
 j9:=λb a n=>(k.j9 b (qc1 a h.size) λc=>(h.Ea b c).elim (λl=>a_) n).trans (h.j9 b a n)
 Ea:=λb a=>(k.Ea b a).elim (λl=>.inl (NN h.size l)) (h.Ea b)
 os:=k.os.trans h.os
 tape:=k.tape.trans h.tape
 output:=k.output.trans h.output
 dr:=NN h.dr k.dr
def El.drew{H H':Tu}{m a:ke}{w w':TS}(h:El H m w H' a w')(n:Nat)(b:w'.drawn<=n):El H m w H' a { w' with drawn:=n }:=
 ⟨h.len,h.same,h.size,h.j9,h.Ea,h.os,h.tape,h.output,NN h.dr b⟩
def WR.drew{C:m'}{a:Nat}{mu:ke}{H:Tu}{w:TS}(h:WR C a mu H w)(n:Nat):WR C a mu H { w with drawn:=n }:=
 ⟨h.obj,h.inj,h.own,h.ro,h.Hw,h.DL⟩
def El.mono{C:m'}{a:Nat}{H H':Tu}{m d:ke}{w w':TS}(h:El H m w H' d w')(e:WR C a m H w):∀i p,m i=some p->d i=some p:=by
 intro i p c;rw[h.same i ?_];exact c;rcases Gi i H.length with b|b
 .exact b
 .rw[e.Hw i b]at c;cases c
def HC(mu:ke)(i:Nat)(p:Pl):ke:=λj=>if j=i then some p else mu j
def bL(mu:ke)(i:Nat)(p:Pl):HC mu i p i=some p:=by simp[HC]
def eO(mu:ke){i j:Nat}(p:Pl)(h:j≠i):HC mu i p j=mu j:=by simp[HC,h]
def lP{C:m'}{a:Nat}{H:Tu}{m:ke}{w:TS}(d:WR C a m H w)(p:Pl):∀i q,m i=some q->HC m H.length p i=some q:=by
 intro i q b;by_cases c:i=H.length
 .subst c;rw[d.Hw _ (A9 _)]at b;cases b
 .rw[eO _ _ c];exact b
def aI{i7:Type}{l:List i7}{x y:i7}{i:Nat}(h:(l++[x])[i]?=some y):(i<l.length/\l[i]?=some y)∨(i=l.length/\y=x):=by
 rcases Gi i l.length with b|b
 .rw[Fe b]at h;exact .inl ⟨b,h⟩
 .rw[GV b]at h;have a:i - l.length=0:=by
   rcases Nat.eq_zero_or_pos (i - l.length)with a|a
   .exact a
   .rw[Gu ua]at h;cases h
  rw[a]at h;exact .inr ⟨a_,by simpa using h.symm⟩
def jY{mu:ke}{p:Pl}{w:TS}{o:p_}(i:o.alive=true)(h:Eg mu p w.heap[p.b]? o):p.b<w.heap.size:=by
 rcases Gi p.b w.heap.size with d|d
 .exact d
 .rw[qcz d]at h;cases o with
  |cells l g rw=>obtain⟨_,_,_,c,e,k,h,_⟩:=h;cases h
  |map j a=>obtain⟨f,h,_⟩:=h;cases h
  |loop r=>obtain⟨L,h,_⟩:=h;cases h
  |GW s pos=>cases h
  |dead=>cases i
def WR.lt{C:m'}{a:Nat}{mu:ke}{H:Tu}{w:TS}(h:WR C a mu H w){id:Nat}{o:p_}{p:Pl}(e:H[id]?=some o)(c:o.alive=true)(f:mu id=some p):p.b<w.heap.size:=by
 obtain⟨q,d,g⟩:=h.obj id o e c;obtain rfl:p=q:=by rw[f]at d;exact D' d
 exact jY c g
def hH(mu a:ke)(H':Tu)(w':TS):Prop:=∀id o,H'[id]?=some o->o.alive=true->∃p,a id=some p/\Eg mu p w'.heap[p.b]? o
def WR.new{C:m'}{m:Nat}{mu:ke}{H:Tu}{w w':TS}(h:WR C m mu H w)(G:m<=w.heap.size){x:Obj}(K:w'.heap=w.heap.push x)
  (T:w'.os=w.os) (W:w'.tape=w.tape) (X:w'.output=w.output) (o:p_) (p:Pl) (U:p.b=w.heap.size) (E:Eg mu p (some x) o) (J:o.alive=true->o.owned=true) (R:w.drawn<=w'.drawn:=by exact A9 _) :
  WR C m (HC mu H.length p) (H++[o]) w'/\El H mu w (H++[o]) (HC mu H.length p) w'/\hH mu (HC mu H.length p) (H++[o]) w':=by
 have V:Eg (HC mu H.length p) p (some x) o:=E.mono (lP h p);have f:∀b,b<w.heap.size->w'.heap[b]?=w.heap[b]?:=λb G=>by rw[K,b4,te a_]
 have v:w'.heap[p.b]?=some x:=by rw[K,b4,rv U]
 have F:=lP h p;refine⟨⟨?_,?_,?_,?_,?_,?_⟩,⟨c_,?_,by simp[K],λb G _=>f b G,?_,T,W,X,R⟩,λid t i' u=>?_⟩
 rotate_right
 .rcases aI i' with⟨s,i'⟩|⟨rfl,rfl⟩
  .obtain⟨q,a,r⟩:=h.obj id t i' u;exact⟨q,F _ _ a,by rw[f _ (jY u r)];exact r⟩
  .exact⟨p,bL _ _ _,by rw[v];exact E⟩
 .intro id t i' u;rcases aI i' with⟨s,i'⟩|⟨rfl,rfl⟩
  .obtain⟨q,a,r⟩:=h.obj id t i' u;refine⟨q,F _ _ a,?_⟩;rw[f _ (jY u r)];exact r.mono F
  .exact⟨p,bL _ _ _,by rw[v];exact V⟩
 .intro i j Y Z pi pj s L B D A n l;rcases aI s with⟨y,k⟩|⟨rfl,rfl⟩
  .rw[eO _ _ a_]at n;rcases aI L with⟨I,z⟩|⟨rfl,rfl⟩
   .rw[eO _ _ a_]at l;exact h.inj i j Y Z pi pj k z B D A n l
   .rw[bL]at l;obtain rfl:=D' l;have:=h.lt k (aU B) n;omega
  .rw[bL]at n;obtain rfl:=D' n;rcases aI L with⟨I,z⟩|⟨rfl,rfl⟩
   .rw[eO _ _ a_]at l;have:=h.lt z D l;omega
   .exact absurd rfl A
 .intro i t q s d a;rcases aI s with⟨y,k⟩|⟨rfl,rfl⟩
  .rw[eO _ _ a_]at a;exact h.own i t q k d a
  .rw[bL]at a;obtain rfl:=D' a;omega
 .intro i t q s u d a;rcases aI s with⟨y,k⟩|⟨rfl,rfl⟩
  .rw[eO _ _ a_]at a;exact h.ro i t q k u d a
  .rw[J u]at d;cases d
 .intro id i';simp at i';rw[eO _ _ a_];exact h.Hw id a_
 .intro g vs S;obtain⟨N,O,c,e,M,P,Q⟩:=h.DL g vs S;exact⟨N,O,c,e,M,by rw[f _ a_];exact P,Q.mono F⟩
 .intro id i';rw[eO _ _ a_]
 .rintro b ⟨id,t,q,i',d,a,rfl⟩;rcases aI i' with⟨y,s⟩|⟨rfl,rfl⟩
  .rw[eO _ _ a_]at a;exact .inr ⟨id,t,q,s,d,a,rfl⟩
  .rw[bL]at a;obtain rfl:=D' a;exact .inl a_
def Cs{i7:Type}{l:List i7}{x y:i7}{i j:Nat}(h:(l.set i x)[j]?=some y):(j≠i/\l[j]?=some y)∨(j=i/\i<l.length/\y=x):=by
 rw[GS]at h;by_cases a:i=j
 .subst a;simp only[if_true]at h;split at h
  next b=>exact .inr ⟨rfl,b,by simpa using h.symm⟩
  .cases h
 .rw[te a]at h;exact .inl ⟨λe=>a e.symm,h⟩
def WR.set{C:m'}{s:Nat}{mu:ke}{H:Tu}{w w':TS}(h:WR C s mu H w){id:Nat}{o:p_}{p:Pl}(i':H[id]?=some o)(D:o.owned=true)
  (G:mu id=some p) {x:Obj} (V:w'.heap=w.heap.setIfInBounds p.b x) (R:w'.os=w.os) (ht:w'.tape=w.tape) (hu:w'.output=w.output)
  (E:p_) (Q:E.alive=true->E.owned=true) (hr:Eg mu p (some x) E) (hd:w.drawn<=w'.drawn:=by exact A9 _) :
  WR C s mu (H.set id E) w'/\El H mu w (H.set id E) mu w':=by
 have O:=h.lt i' (aU D) G;have L:=h.own id o p i' D G;have A:w'.heap[p.b]?=some x:=by rw[V];simp[O]
 have n:∀b,b≠p.b->w'.heap[b]?=w.heap[b]?:=λb K=>by rw[V,r1 (CY K)]
 have a:∀(j:Nat) l,(H.set id E)[j]?=some l->l.alive=true->∃f,H[j]?=some f/\f.alive=true/\(l.owned=true->f.owned=true):=by
  intro j l k u;rcases Cs k with⟨_,k⟩|⟨rfl,_,rfl⟩
  .exact⟨l,k,u,λh=>h⟩
  .exact⟨o,i',aU D,λ_=>D⟩
 refine⟨⟨?_,?_,?_,?_,?_,?_⟩,⟨c_,λ_ _=>rfl,by simp[V],?_,?_,R,ht,hu,hd⟩⟩
 .intro j l k u;rcases Cs k with⟨P,k⟩|⟨rfl,_,rfl⟩
  .obtain⟨q,t,U⟩:=h.obj j l k u;refine⟨q,t,?_⟩;rw[n q.b λe=>h.inj id j o l p q i' k D u (CY P) G t e.symm];exact U
  .exact⟨p,G,by rw[A];exact hr⟩
 .intro i j I l pi pj v k d r N S T;obtain⟨B,y,_,m⟩:=a i I v (aU d);obtain⟨f,z,J,_⟩:=a j l k r;exact h.inj i j B f pi pj y z (m d) J N S T
 .intro i I q v d t;obtain⟨B,y,_,m⟩:=a i I v (aU d);exact h.own i B q y (m d) t
 .intro i I q v u d t;rcases Cs v with⟨_,M⟩|⟨rfl,_,rfl⟩
  .exact h.ro i I q M u d t
  .rw[Q u]at d;cases d
 .intro i v;exact h.Hw i (by simpa using v)
 .intro g vs hg;obtain⟨X,Y,c,e,W,Z,h4⟩:=h.DL g vs hg;exact⟨X,Y,c,e,W,by rw[n _ a_];exact Z,h4⟩
 .intro b _ K;exact n b λe=>K ⟨id,o,p,i',D,G,e.symm⟩
 .rintro b ⟨j,l,q,k,r,t,rfl⟩;obtain⟨f,z,_,F⟩:=a j l k (aU r);exact .inr ⟨j,f,q,z,F r,t,rfl⟩
def WR.move{C:m'}{D:Nat}{mu:ke}{H:Tu}{w w':TS}(h:WR C D mu H w){id:Nat}{o:p_}{p:Pl}(i':H[id]?=some o)(M:o.owned=true)
  (O:mu id=some p) {x:Obj} (hw:w'.heap=w.heap.setIfInBounds p.b x) (N:w'.os=w.os) (Z:w'.tape=w.tape) (hu:w'.output=w.output)
  (F:p_) (q:Pl) (P:q.b=p.b) (Q:Eg mu q (some x) F) (W:F.alive=true->F.owned=true) (X:w.drawn<=w'.drawn:=by exact A9 _) :
  WR C D (HC mu H.length q) (H.set id .dead++[F]) w'/\El H mu w (H.set id .dead++[F]) (HC mu H.length q) w'/\hH mu (HC mu H.length q) (H.set id .dead++[F]) w':=by
 have hr:Eg (HC mu H.length q) q (some x) F:=Q.mono (lP h q);obtain⟨G,S⟩:=h.set i' M O (x:=x) hw N Z hu .dead (λh=>by cases h) trivial X;have U:=h.lt i' (aU M) O;have T:=h.own id o p i' M O;have d:(H.set id p_.dead).length=H.length:=c_;have y:w'.heap[p.b]?=some x:=by rw[hw];simp[U]
 have R:∀i r,mu i=some r->HC mu H.length q i=some r:=lP h q;have Y:id<H.length:=by
  rcases Gi id H.length with J|J
  .exact J
  .rw[Gu J]at i';cases i'
 have t:∀(j:Nat) n r,(H.set id p_.dead)[j]?=some n->n.alive=true->mu j=some r->r.b≠p.b:=by
  intro j n r s z a e;rcases Cs s with⟨V,s⟩|⟨rfl,_,rfl⟩
  .exact h.inj id j o n p r i' s M z (CY V) O a e.symm
  .cases z
 refine⟨⟨?_,?_,?_,?_,?_,?_⟩,⟨c_,?_,S.size,S.j9,?_,N,Z,hu,X⟩,λj n s z=>?_⟩
 rotate_right
 .rcases aI s with⟨A,f⟩|⟨rfl,rfl⟩
  .obtain⟨r,a,v⟩:=G.obj j n f z;exact⟨r,R _ _ a,v⟩
  .rw[d];exact⟨q,bL _ _ _,by rw[P,y];exact Q⟩
 .intro j n s z;rcases aI s with⟨A,f⟩|⟨rfl,rfl⟩
  .obtain⟨r,a,v⟩:=G.obj j n f z;exact⟨r,R _ _ a,v.mono R⟩
  .rw[d];exact⟨q,bL _ _ _,by rw[P,y];exact hr⟩
 .intro i j I n pi pj E s k B L u m;rcases aI E with⟨K,l⟩|⟨rfl,rfl⟩
  .rw[eO _ _ a_]at u;rcases aI s with⟨A,f⟩|⟨rfl,rfl⟩
   .rw[eO _ _ a_]at m;exact G.inj i j I n pi pj l f k B L u m
   .rw[d,bL]at m;obtain rfl:=D' m;rw[P];exact t i I pi l (aU k) u
  .rw[d,bL]at u;obtain rfl:=D' u;rcases aI s with⟨A,f⟩|⟨rfl,rfl⟩
   .rw[eO _ _ a_]at m;rw[P];exact CY (t j n pj f B m)
   .exact absurd rfl L
 .intro i I r E k a;rcases aI E with⟨K,l⟩|⟨rfl,rfl⟩
  .rw[eO _ _ a_]at a;exact G.own i I r l k a
  .rw[d,bL]at a;obtain rfl:=D' a;omega
 .intro i I r E z k a;rcases aI E with⟨K,l⟩|⟨rfl,rfl⟩
  .rw[eO _ _ a_]at a;exact G.ro i I r l z k a
  .rw[W z]at k;cases k
 .intro i E;simp at E;rw[eO _ _ a_];exact h.Hw i a_
 .intro g vs hg;obtain⟨J,h2,c,e,fr,h3,h4⟩:=G.DL g vs hg;exact⟨J,h2,c,e,fr,h3,h4.mono R⟩
 .intro i E;rw[eO _ _ a_]
 .rintro b ⟨j,n,r,s,B,a,rfl⟩;rcases aI s with⟨A,f⟩|⟨rfl,rfl⟩
  .rw[eO _ _ a_]at a;exact S.Ea _ ⟨j,n,r,f,B,a,rfl⟩
  .rw[d,bL]at a;obtain rfl:=D' a;exact .inr ⟨id,o,p,i',M,O,P.symm⟩
structure SR(C:m')(base:Nat)(la:q_)(mu:ke)(g9:St)(tmps:Tl)(w:TS):Prop where
 D3:u9 la mu g9.tmps tmps.toList
 Ga:∀s b,la s=some b->∃vs,g9.loc[s]?=some (some vs)
 loc:∀(s:Nat) vs,g9.loc[s]?=some (some vs)->∃b c e,la s=some b/\base<=b/\w.heap[b]?=some (.cells c e (0,0))/\vs.all bh=true/\u9 y8 mu vs c.toList/\¬HI mu g9.heap b
 GG:∀s s' b,la s=some b->la s'=some b->s=s'
 wr:WR C base mu g9.heap w
def SR.D4{C:m'}{a:Nat}{la:q_}{mu f:ke}{g9:St}{d:Tl}{w w':TS}{H':Tu}(h:SR C a la mu g9 d w)
  (t:WR C a f H' w') (i:El g9.heap mu w H' f w'):SR C a la f { g9 with heap:=H' } d w':=by
 have k:=i.mono h.wr;refine⟨h.D3.mono (λ_ _ h=>h) k,h.Ga,?_,h.GG,t⟩;intro s u r;obtain⟨b,c,e,l,m,g,n,o,j⟩:=h.loc s u r;have p:b<w.heap.size:=by
  rcases Gi b w.heap.size with h|h
  .exact h
  .rw[qcz h]at g;cases g
 exact⟨b,c,e,l,m,by have:=i.j9 b p j;rw[this];exact g,n,o.mono (λ_ _ h=>h) k,λq=>(i.Ea b q).elim (λv=>a_) j⟩
def SR.put{C:m'}{b:Nat}{la:q_}{mu:ke}{g9:St}{a:Tl}{w:TS}(h:SR C b la mu g9 a w)(dst:Tq){v v':TR}(c:VR la mu v v') :
  SR C b la mu (g9.put dst v) (match dst with|some d=>a.setIfInBounds d v'|none=>a) w:=by
 cases dst with
 |none=>exact h
 |some d=>
  refine⟨?_,h.Ga,h.loc,h.GG,h.wr⟩;have:=h.D3.set d c;simpa[St.put]using this
end
section
variable [Co] [Dw]
def fV{P:TI}{t:TP}{d:TypeDesc}(h:P.underlying t=some d):∃i,P.info? t=some i:=by
 unfold Program.underlying at h;cases a:P.info? t with
 |none=>rw[a]at h;cases h
 |some i=>exact⟨i,rfl⟩
def fY{P:TI}{t:TP}(h:P.cellsOf t≠0):∃i,P.info? t=some i:=by
 unfold Program.cellsOf at h;cases a:P.info? t with
 |none=>rw[a]at h;simp at h
 |some i=>exact⟨i,rfl⟩
def bJ{P:TI}{t:TP}{i:TypeInfo}(h:P.info? t=some i)(w:TS):(sizeOf t).run P w = .ok (P.cellsOf t) w:=by
 simp[sizeOf,typeInfo,h,Program.cellsOf]
def rn:TypeDesc->Bool
 | .struct _=>true
 | .array _ _=>true
 |_=>false
def wc{P:TI}{t:TP}{d:TypeDesc}(h:P.underlying t=some d)(w:TS):(isAgg t).run P w = .ok (rn d) w:=by
 cases d<;>simp[isAgg,run_underlying h,rn]
def bV{b o n:Nat}:(⟨b,o,none⟩ : Addr).add n=⟨b,o+n,none⟩:=by
 unfold Addr.add;split<;>simp_all
def aK{C:m'}{c:Nat}{la:q_}{mu:ke}{g9:St}{a:Act}{w:TS}(h:SR C c la mu g9 a.tmps w)(x:TK):VR la mu (jw g9.tmps x) (a.eval x):=by
 cases x with
 |tmp t=>
  simp only[jw,Act.eval];have e:g9.tmps.length=a.tmps.size:=by simpa using h.D3.1
  rcases Gi t g9.tmps.length with b|b
  .have d:t<a.tmps.size:=by rw[←e];exact b
   have:=h.D3.2 t g9.tmps[t] a.tmps[t] (by simp[b]) (by simp[d]);simpa[List.getD,Array.getD,b,d]using this
  .have d:a.tmps.size<=t:=by rw[←e];exact b
   simp only[List.getD,Gu b,qdj];rw[show a.tmps.getD t undef=undef by simp[Array.getD,Nat.not_lt.2 d]];exact .undef
 |const v=>
  simp only[jw,Act.eval];split
  next h=>exact .of_flat h
  .exact .w9 _
 |global g=>
  simp only[jw,Act.eval];split
  next h=>
   have:VR la mu (.pointer (some ⟨g,0,some 1⟩)) (.pointer (some ⟨Eo g,Fz g+0,none⟩)):=.DV
   rwa [Kr h,Kt h]at this
  .exact .w9 _
 |func f=>exact .func c_ rfl rfl (λi x y h=>by simp at h) (λi x y h=>by simp at h)
def sQ{C:m'}{b:Nat}{la:q_}{mu:ke}{g9:St}{a:Act}{w:TS}(h:SR C b la mu g9 a.tmps w)(xs:Array Operand) :
  u9 la mu (xs.toList.map (jw g9.tmps)) (xs.map a.eval).toList:=by
 rw[qdh];exact u9.map _ λx _=>aK h x
def MH{C:m'}{b:Nat}{la:q_}{mu:ke}{g9:St}{a:Act}{w:TS}(h:SR C b la mu g9 a.tmps w){x:TK}(c:flat (jw g9.tmps x)=true) :
  a.eval x=jw g9.tmps x:=dt c (aK h x)
def ww(P:TI)(la:q_)(mu:ke)(s:Sem Next)(w:TS)(v:Value):Prop:=∃v',s.run P w = .ok (.value v') w/\VR la mu v v'
def ig{P:TI}{la:q_}{mu:ke}{s:Sem Value}{w:TS}{v v':TR}(h:s.run P w = .ok v' w)(a:VR la mu v v') :
  ww P la mu (do pure (.value (←s))) w v:=⟨v',by simp[h],a⟩
def Bn{C:m'}{f:Nat}{la:q_}{mu:ke}{g9:St}{a:Act}{w:TS}(h:SR C f la mu g9 a.tmps w){o:Oper}{e:DS}
  (m:∀cs b,o.op≠.select cs b) (c:cK C (jw g9.tmps) o=some e):∃v,e = .val v/\ww C.P la mu (execOp a.eval o) w v:=by
 unfold cK at c;split at c
 next l=>
  have k:execOp a.eval o=execOp (jw g9.tmps) o:=execOp_congr o m λx i=>MH h (all_get' l i);split at c
  next v n=>
   split at c
   next g=>
    cases c;exact⟨v,rfl,v,by rw[k];exact gV n w,.of_flat g⟩
   .cases c
  .cases c
 .cases c where
 all_get' {d:Tn} {j:Array Operand} (h:j.toList.all (λx=>flat (jw d x))=true) {x:TK} (i:x∈j):flat (jw d x)=true:=
  A_.1 h x (by simpa using i)
def LQ{v:TR}(h:jB v=true):∃cs k,v = .tuple #[.agg cs]/\ui cs=some k:=by
 unfold jB at h;split at h
 next b=>
  split at h
  next cs e=>
   obtain⟨k,a⟩:=xT.1 h;refine⟨cs,k,?_,a⟩
   congr 1
   exact v6.1 (by simpa using e)
  .cases h
 .cases h
def vT{la:q_}{mu:ke}{v c:TR}(hp:jL v=true)(h:VR la mu v c):c=F7 v:=by
 simp only[jL,Gk]at hp;rcases hp with hp|hp
 .rw[cL hp h];unfold Am.scalar at hp;split at hp<;>first|rfl|cases hp
 .obtain⟨d,k,rfl,e⟩:=LQ hp;cases h with
  |scalar h=>simp[Am.scalar]at h
  |tuple b _ _=>simp at b
  |LP a=>simp[F7,a]
def rS{la:q_}{mu:ke}{v:TR}(hp:jL v=true):VR la mu v (F7 v):=by
 simp only[jL,Gk]at hp;rcases hp with hp|hp
 .have:F7 v=v:=by
   unfold Am.scalar at hp;split at hp<;>first|rfl|cases hp
  rw[this];exact .scalar hp
 .obtain⟨b,k,rfl,a⟩:=LQ hp;simp only[F7,a];exact .LP a
def zW{la:q_}{mu:ke}{v c:TR}(e:plain v=true)(h:VR la mu v c):c=FS v:=by
 cases v with
 |agg a=>
  obtain⟨g,rfl,b,h⟩:=h.L3;simp only[FS]
  congr 1
  apply Array.ext (by simpa using b.symm);intro i j k;have d:i<a.size:=by simpa using k
  have:=vT (cN (f:=jL) (i:=i) (x:=a[i]) e (by simp[d])) (h i a[i] g[i] (by simp[d]) (by simp[j]));simpa using this
 |_=>exact vT e h
def vU{la:q_}{mu:ke}{v:TR}(b:plain v=true):VR la mu v (FS v):=by
 cases v with
 |agg e=>
  simp only[FS];refine .agg c_ λi x y c d=>?_;have a:=cN (f:=jL) (i:=i) (x:=x) b (by simpa using c);rw[Array.getElem?_map,c]at d;cases d;exact rS a
 |_=>exact rS b
def Nx{C:m'}{c:Nat}{la:q_}{mu:ke}{g9:St}{a:Act}{w:TS}(h:SR C c la mu g9 a.tmps w){o:Oper}{v:TR}
  (k:nB C g9.tmps o v):ww C.P la mu (execOp a.eval o) w v:=by
 obtain⟨d,f,g,i⟩:=k;have j:execOp a.eval o=execOp (λx=>FS (jw g9.tmps x)) o:=execOp_congr o (λm b e=>by rw[e]at d;cases d) λx l=>
  zW (A_.1 f x (by simpa using l)) (aK h x)
 exact⟨FS v,by rw[j];exact i w,vU g⟩
section
variable {C:m'} {la:q_} {mu:ke} {w:TS}
def VR.bool{b:Bool}{c:TR}(h:VR la mu (.bool b) c):c = .bool b:=cL rfl h
def VR.int{k:TL}{n:Int}{c:TR}(h:VR la mu (.int k n) c):c = .int k n:=cL rfl h
def kX{v c:TR}{n:Int}(a:intOf v=some n)(h:VR la mu v c):∃k,c = .int k n:=by
 cases v<;>simp[intOf]at a;subst a;exact⟨_,h.int⟩
def zN{t:TP}{cs ds:Tl}{off:Nat}{v:TR}(c:xN C t cs off=some v)(h:u9 la mu cs.toList ds.toList) :
  ∃v',(part t ds off).run C.P w = .ok v' w/\VR la mu v v':=by
 unfold xN at c;cases g:C.P.underlying t with
 |none=>rw[g]at c;cases c
 |some d=>
  obtain⟨i,o⟩:=fV g;have e:=wc g w;have k:=bJ o w;rw[g]at c;have j:cs.size=ds.size:=by simpa using h.1
  have f:rn d=true->some (Value.agg (cs.extract off (off+C.P.cellsOf t)))=some v->
    ∃v',(part t ds off).run C.P w = .ok v' w/\VR la mu v v':=by
   intro a l;cases l;refine⟨.agg (ds.extract off (off+C.P.cellsOf t)),by simp[part,e,a,k],u9.agg ?_⟩;simp only[Array.toList_extract,List.extract];exact(h.drop _).take _
  have b:rn d=false->cs[off]?=some v->
    ∃v',(part t ds off).run C.P w = .ok v' w/\VR la mu v v':=by
   intro a l;obtain⟨v',m,n⟩:=h.get (i:=off) (by simpa using l);exact⟨v',by simp[part,e,a,(by simpa using m:ds[off]?=some v')],n⟩
  cases d<;>first|exact f rfl c|exact b rfl c
def MF{t:TP}{x y v:TR}{f:Nat}(a:uU C t x f=some v)(h:VR la mu x y):∃v',(Instr.field t y f).run C.P w = .ok v' w/\VR la mu v v':=by
 unfold uU at a;split at a
 next d j i=>
  obtain⟨k,rfl,b⟩:=h.L3;cases c:d[f]? with
  |none=>rw[c]at a;cases a
  |some l=>
   rw[c]at a;obtain⟨v',e,g⟩:=zN (w:=w) a b;exact⟨v',by simp[Instr.field,run_underlying i,c,asAgg,e],g⟩
 .cases a
def MN{t:TP}{x y i j v:TR}(c:nj C t x i=some v)(h:VR la mu x y)(o:VR la mu i j):∃v',(Instr.index t y j).run C.P w = .ok v' w/\VR la mu v v':=by
 unfold nj at c;split at c
 .cases c
 next n A=>
  obtain⟨k,rfl⟩:=kX A o;split at c
  next D e E p=>
   obtain⟨F,rfl,g⟩:=h.L3;split at c
   next f=>
    have l:∃i,C.P.info? e=some i:=by
     unfold xN at c;cases q:C.P.underlying e with
     |none=>rw[q]at c;cases c
     |some d=>exact fV q
    obtain⟨i,z⟩:=l;obtain⟨v',r,u⟩:=zN (w:=w) c g;exact⟨v',by simp[Instr.index,asIntOf,run_underlying p,f.1,f.2,bJ z,r],u⟩
   .cases c
  next s p=>
   have B:=cL (a:=.string s) rfl h;subst B;split at c
   next f=>
    cases m:s[n.toNat]? with
    |none=>rw[m]at c;cases c
    |some b=>
     rw[m]at c;cases c;exact⟨_,by simp[Instr.index,asIntOf,run_underlying p,f,m],.scalar rfl⟩
   .cases c
  .cases c
def VR.Li{a:Addr}{c:TR}(h:VR la mu (.pointer (some a)) c)(n:Nat):∃d:Addr,c = .pointer (some d)/\d.spot=none/\VR la mu (.pointer (some { a with off:=a.off+n })) (.pointer (some (d.add n))):=by
 cases h with
 |scalar h=>simp[Am.scalar]at h
 |Es h=>exact⟨_,rfl,rfl,by rw[bV];exact .Es h⟩
 |DM h=>exact⟨_,rfl,rfl,by rw[bV,Q6];exact .DM h⟩
 |DV=>exact⟨_,rfl,rfl,by rw[bV,Q6];exact .DV⟩
def sV{t:TP}{x y v:TR}{f:Nat}(b:gq C t x f=some v)(h:VR la mu x y):∃v',(Instr.fieldAt t y f).run C.P w = .ok v' w/\VR la mu v v':=by
 unfold gq at b;split at b
 next n a l=>
  split at b
  next c g=>
   split at b
   .cases b
   next e=>
    cases b;obtain⟨i,j⟩:=fY e;obtain⟨d,rfl,k,m⟩:=h.Li c.offset;refine⟨.pointer (some (d.add c.offset)),?_,m⟩;simp[Instr.fieldAt,run_underlying l,g,Instr.sureAddr,fieldPlace,bJ j,e]
  .cases b
 .cases b
def tt{t:TP}{x y i j v:TR}(c:fm C t x i=some v)(h:VR la mu x y)(s:VR la mu i j):∃v',(Instr.indexAt t y j).run C.P w = .ok v' w/\VR la mu v v':=by
 unfold fm at c;split at c
 .cases c
 next n D=>
  obtain⟨k,rfl⟩:=kX D s;split at c
  next A e a q=>
   split at c
   .cases c
   next z=>
    obtain⟨i,m⟩:=fY z;split at c
    next f=>
     cases c;obtain⟨d,rfl,E,F⟩:=h.Li (n.toNat*C.P.cellsOf e);exact⟨_,by simp[Instr.indexAt,asIntOf,run_underlying q,Instr.sureAddr,f.1,f.2,bJ m],F⟩
    .cases c
  next e a A G q=>
   split at c
   .cases c
   next z=>
    obtain⟨i,m⟩:=fY z;split at c
    next f=>
     cases c;cases h with
     |scalar h=>simp[Am.scalar]at h
     |x3 h H B u=>
      rename_i id l r p
      refine⟨.pointer (some ⟨p.b,p.o+(l+n.toNat*C.P.cellsOf e),none⟩),?_,by rw[te (by simp[le])];exact .DM h⟩;simp[Instr.indexAt,asIntOf,run_underlying q,f.1,f.2,bJ m,bV,Q6]
     |u_ u=>simp at f;omega
     |Cu B u=>
      rename_i g l r
      refine⟨.pointer (some ⟨Eo g,Fz g+(l+n.toNat*C.P.cellsOf e),none⟩),?_,by rw[rv rfl];exact .DV⟩;simp[Instr.indexAt,asIntOf,run_underlying q,f.1,f.2,bJ m,bV,Q6]
     |y9 u=>simp at f;omega
    .cases c
  .cases c
end
end
section
variable [Co] [Dw]
section
variable {C:m'} {la:q_} {mu:ke} {w:TS}
def Fx(la:q_)(mu:ke):Tk->Tk->Prop
 |none,none=>True
 |some a,some b=>VR la mu a b
 |_,_=>False
abbrev _root_.Th:=Option Operand
def Fx.map{f g:Tg}(x:Th)(h:∀x,VR la mu (f x) (g x)):Fx la mu (x.map f) (x.map g):=by
 cases x with
 |none=>trivial
 |some x=>exact h x
def dV{x y:Tk}{r:Tt}(a:iz x=some r)(h:Fx la mu x y) :
  (r=none/\y=none)∨(∃k n,r=some n/\y=some (.int k n)):=by
 cases x with
 |none=>
  cases y with
  |none=>simp[iz]at a;exact .inl ⟨a.symm,rfl⟩
  |some _=>exact h.elim
 |some x=>
  cases y with
  |none=>exact h.elim
  |some y=>
   cases x<;>simp[iz]at a
   rename_i k n
   have:=VR.int h;exact .inr ⟨k,n,a.symm,by rw[this]⟩
def cg{k:TL}{n:Int}{y:Nat}{code:BoundsCode}(h0:0<=n)(h1:n<=y)(w:TS):(Instr.sliceBound (.int k n) y code).run C.P w = .ok n.toNat w:=by
 simp[Instr.sliceBound,asIntOf,h0,h1]
def Bw{q i j:Tt}{f d g:Tk}{a:Bool}{len cap:Nat}
  (e:(q=none/\f=none)∨(∃k n,q=some n/\f=some (.int k n))) (p:(i=none/\d=none)∨(∃k n,i=some n/\d=some (.int k n)))
  (v:(j=none/\g=none)∨(∃k n,j=some n/\g=some (.int k n)))
  (h0:0<=q.getD 0) (h1:q.getD 0<=i.getD len) (b:i.getD len<=j.getD cap) (c:j.getD cap<=cap) (z:j.isNone∨i.isSome) (w:TS) :
  (Instr.sliceBounds a len cap f d g).run C.P w = .ok ((q.getD 0).toNat,(i.getD len).toNat,(j.getD cap).toNat) w:=by
 rcases v with⟨rfl,rfl⟩|⟨x,m,rfl,rfl⟩
 .rcases p with⟨rfl,rfl⟩|⟨r,h,rfl,rfl⟩
  .rcases e with⟨rfl,rfl⟩|⟨s,l,rfl,rfl⟩
   .simp[Instr.sliceBounds]
   .simp at h0 h1 b c;simp[Instr.sliceBounds,cg h0 h1]
  .rcases e with⟨rfl,rfl⟩|⟨s,l,rfl,rfl⟩
   .simp at h0 h1 b c;simp[Instr.sliceBounds,cg h1 b]
   .simp at h0 h1 b c;have o:=cg (C:=C) (k:=r) (code:=if a then .sliceAcap else .sliceAlen) a_ b w;have u:=cg (C:=C) (k:=s) (y:=h.toNat) (code:=.sliceB) h0 a_ w;simp[Instr.sliceBounds,o,u]
 .rcases p with⟨rfl,rfl⟩|⟨r,h,rfl,rfl⟩
  .simp at z
  .rcases e with⟨rfl,rfl⟩|⟨s,l,rfl,rfl⟩
   .simp at h0 h1 b c;have t:=cg (C:=C) (k:=x) (code:=if a then .slice3Acap else .slice3Alen) a_ c w;have o:=cg (C:=C) (k:=r) (y:=m.toNat) (code:=.slice3B) a_ a_ w;simp[Instr.sliceBounds,t,o]
   .simp at h0 h1 b c;have t:=cg (C:=C) (k:=x) (code:=if a then .slice3Acap else .slice3Alen) a_ c w;have o:=cg (C:=C) (k:=r) (n:=h) (y:=m.toNat) (code:=.slice3B) a_ a_ w;have u:=cg (C:=C) (k:=s) (y:=h.toNat) (code:=.slice3C) h0 a_ w;simp[Instr.sliceBounds,t,o,u]
def qK{t b:TP}{a:Addr}{len cap l h m:Nat}{e d f:Tk}{i:TypeInfo}(j:C.P.underlying t=some (.slice b))(c:C.P.info? b=some i)
  (g:(Instr.sliceBounds true len cap e d f).run C.P w = .ok (l,h,m) w) :
  (Instr.sliceAt t (.slice (some a) len cap) e d f).run C.P w = .ok (.slice (if m=l then some a else some (a.add (l*C.P.cellsOf b))) (h - l) (m - l)) w:=by
 simp only[Instr.sliceAt,Instr.slice,Sem.run_bind,run_underlying j,Result.andThen_ok];simp[g,bJ c]
def Nq{t:TP}{x y v:TR}{Z L mx D B E:Tk}(j:Ak C t x Z L mx=some v)(h:VR la mu x y)
  (U:Fx la mu Z D) (Q:Fx la mu L B) (V:Fx la mu mx E):∃v',(Instr.sliceAt t y D B E).run C.P w = .ok v' w/\VR la mu v v':=by
 unfold Ak at j;split at j
 next X H c q F e3=>
  have r1:=dV q U;have r2:=dV F Q;have r3:=dV e3 V;split at j
  next s a len Y hu=>
   split at j
   .cases j
   next hz=>
    obtain⟨i,L⟩:=fY hz;split at j
    .cases j
    next I=>
     split at j
     next O=>
      obtain⟨S,T,k⟩:=O;cases j;generalize R:X.getD 0=l at *;generalize G:H.getD (len:Int)=hv at *;have K:∀(d:Addr) (cap:Nat),len<=cap->(Y=0∨Y=cap+1)->
        (Instr.sliceAt t (.slice (some d) len cap) D B E).run C.P w =
         .ok (.slice (if (c.getD (cap:Int)).toNat=l.toNat then some d else some (d.add (l.toNat*C.P.cellsOf s))) (hv.toNat - l.toNat) ((c.getD (cap:Int)).toNat - l.toNat)) w/\
        hv<=c.getD (cap:Int)/\c.getD (cap:Int)<=cap:=by
       intro d cap r ag;have N:hv<=c.getD (cap:Int)/\c.getD (cap:Int)<=cap:=by
        cases c with
        |none=>simp only[bS,G]at k;simp;omega
        |some m=>simp only[bS,G]at k;simp;omega
       have b3:c.isNone∨H.isSome:=by
        cases c with
        |none=>exact .inl rfl
        |some m=>exact .inr k.1
       refine⟨qK hu L ?_,N⟩;rw[Bw (len:=len) (cap:=cap) r1 r2 r3 (by rw[R];exact S) (by rw[R,G];exact T) (by rw[G];exact N.1) N.2 b3 w,R,G]
      cases h with
      |scalar h=>simp[Am.scalar]at h
      |x3 h hr r J=>
       rename_i id f cap p
       obtain⟨e,z,A⟩:=K ⟨p.b,p.o+f,none⟩ cap r J;refine⟨_,e,?_⟩;have W:C.P.cellsOf s=p.r_:=by simp[le]at I;exact I.symm
       rw[W];split
       next n=>
        have q:hv.toNat - l.toNat=0:=a_;have F:(c.getD (cap:Int)).toNat - l.toNat=0:=a_;rw[q,F];refine .u_ ?_;cases c with
        |none=>simp[bK]at n ⊢;omega
        |some m=>simp[bK]at n ⊢;omega
       next n=>
        rw[bV,Q6];refine .x3 h ?_ a_ ?_
        .have:(l.toNat+((c.getD (cap:Int)).toNat - l.toNat))*p.r_<=cap*p.r_:=Q9 _ a_;rw[Js]at this;show f+l.toNat*p.r_+_<=p.room;omega
        .cases c with
         |none=>simp[bK]at n ⊢;omega
         |some m=>simp[bK]at n ⊢
      |u_ J=>
       rename_i id f ad M
       obtain⟨e,z,A⟩:=K M 0 a_ a_;refine⟨_,e,?_⟩;have u:(c.getD ((0:Nat):Int)).toNat=l.toNat:=a_;have q:hv.toNat - l.toNat=0:=a_;rw[rv u,q,u,WH];refine .u_ ?_;cases c with
       |none=>simp[bK];omega
       |some m=>simp[bK]at u ⊢;omega
      |Cu r J=>
       rename_i g f cap
       obtain⟨e,z,A⟩:=K ⟨Eo g,Fz g+f,none⟩ cap r J;refine⟨_,e,?_⟩;split
       next n=>
        have q:hv.toNat - l.toNat=0:=a_;have F:(c.getD (cap:Int)).toNat - l.toNat=0:=a_;rw[q,F];refine .y9 ?_;cases c with
        |none=>simp[bK]at n ⊢;omega
        |some m=>simp[bK]at n ⊢;omega
       next n=>
        rw[bV,Q6];refine .Cu a_ ?_;cases c with
        |none=>simp[bK]at n ⊢;omega
        |some m=>simp[bK]at n ⊢
      |y9 J=>
       rename_i g f M
       obtain⟨e,z,A⟩:=K M 0 a_ a_;refine⟨_,e,?_⟩;have u:(c.getD ((0:Nat):Int)).toNat=l.toNat:=a_;have q:hv.toNat - l.toNat=0:=a_;rw[rv u,q,u,WH];refine .y9 ?_;cases c with
       |none=>simp[bK];omega
       |some m=>simp[bK]at u ⊢;omega
     .cases j
  .cases j
 .cases j
def MJ{vs cs:Tn}(off:Nat):∀(xs ys:Tn) (k:Nat),u9 la mu vs cs->u9 la mu xs ys->
  u9 la mu ((xs.zipIdx k).foldl (λ(a:Tl) (c,j)=>a.setIfInBounds (off+j) c) vs.toArray).toList
   ((ys.zipIdx k).foldl (λ(a:Tl) (c,j)=>a.setIfInBounds (off+j) c) cs.toArray).toList:=by
 intro xs
 induction xs generalizing vs cs with
 |nil=>
  intro ys k h b;obtain rfl:=b.unnil;simpa using h
 |cons x xs i=>
  intro ys k h b;obtain⟨y,ys,rfl,f,g⟩:=b.Hu;simp only[List.zipIdx_cons,WJ];have d:vs.toArray.setIfInBounds (off+k) x=(vs.set (off+k) x).toArray:=c_;have e:cs.toArray.setIfInBounds (off+k) y=(cs.set (off+k) y).toArray:=c_;rw[d,e];exact i ys (k+1) (h.set _ f) g
def Kk(pl:Nat->Option (Nat×Nat)):∀(m a:List (Nat×Value)) (vs cs r:Tl),u9 la mu vs.toList cs.toList->
  (m.length=a.length/\∀(i:Nat) p q,m[i]?=some p->a[i]?=some q->p.1=q.1/\aH p.2=false/\VR la mu p.2 q.2)->
  Instr.fill pl vs m=some r->∃r',Instr.fill pl cs a=some r'/\u9 la mu r.toList r'.toList:=by
 intro m
 induction m with
 |nil=>
  intro a vs cs r h l b;have:a=[]:=by have:=l.1;cases a<;>simp_all
  subst this;simp[Instr.fill]at b;subst b;exact⟨cs,by simp[Instr.fill],h⟩
 |cons p m G=>
  intro a vs cs r h l b;cases a with
  |nil=>have:=l.1;simp at this
  |cons q a=>
   obtain⟨D,n⟩:=l;obtain⟨e,z,A⟩:=n 0 p q rfl rfl;obtain⟨i,x⟩:=p;obtain⟨j,y⟩:=q;simp only at e z A;subst e;have v:=A.cells z;have o:x.cells.size=y.cells.size:=by simpa using v.1
   have s:vs.size=cs.size:=by simpa using h.1
   unfold Instr.fill at b ⊢;split at b
   .cases b
   next g B E=>
    split at b
    .cases b
    next f=>
     rw[te (by rw[←o,←s];exact f)];refine G a _ _ r ?_ ⟨by simpa using D,λk p q l F=>n (k+1) p q (by simpa using l) (by simpa using F)⟩ b;have conv:∀(u t:Tl),(u.zipIdx.foldl (λ(d:Tl) (c,j)=>d.setIfInBounds (g+j) c) t)=u.toList.zipIdx.foldl (λ(d:Tl) (c,j)=>d.setIfInBounds (g+j) c) t:=by
      intro u t;rw[←qcX,Array.toList_zipIdx]
     rw[conv,conv];have:=MJ (la:=la) (mu:=mu) g x.cells.toList y.cells.toList 0 h v;simpa using this
def oK{i:TypeInfo}{z:TR}(h:lR i=some z):i.zero=some z/\z.cells.size=i.size/\flat z=true/\aH z=false:=by
 unfold lR at h;split at h
 next c b=>
  split at h
  next a=>cases h;exact⟨b,a⟩
  .cases h
 .cases h
def kz{P:TI}{t:TP}{z:TR}(h:eU P t=some z):∃i,P.info? t=some i/\i.zero=some z/\z.cells.size=i.size/\flat z=true/\aH z=false:=by
 unfold eU at h;cases a:P.info? t with
 |none=>rw[a]at h;cases h
 |some i=>rw[a,Ds]at h;exact⟨i,rfl,oK h⟩
def qw{P:TI}{t:TP}{z:TR}(h:eU P t=some z):z.cells.size=P.cellsOf t/\flat z=true/\aH z=false:=by
 obtain⟨i,a,_,b,c⟩:=kz h;exact⟨by rw[b];simp[Program.cellsOf,a],c⟩
def Zi(la:q_)(mu:ke)(a b:List (Nat×Value)):Prop:=a.length=b.length/\∀(i:Nat) p q,a[i]?=some p->b[i]?=some q->p.1=q.1/\aH p.2=false/\VR la mu p.2 q.2
def ja(P:TI)(w:TS):∀(a:List Field),(∀f∈a,(P.info? f.type).isSome=true)->
  (a.mapM λf=>(do pure (f.offset,←sizeOf f.type):Sem (Nat×Nat))).run P w = .ok (a.map λf=>(f.offset,P.cellsOf f.type)) w
 | [],_=>c_
 |f :: a,h=>by
  obtain⟨i,c⟩:=xT.1 (h f c_);have d:=ja P w a λg b=>h g (by simp[b]);simp only[WL,Sem.run_bind,bJ c,Result.andThen_ok,Sem.run_pure,d,DD]
def Mf{t:TP}{m:List (Nat×Value)}{A:Array (Nat×Value)}{v:TR}(d:uz C t m=some v)(G:Zi la mu m A.toList) :
  ∃v',(Instr.build t A).run C.P w = .ok v' w/\VR la mu v v':=by
 unfold uz at d;split at d
 next z pl c a=>
  cases h:Instr.fill pl z.cells m with
  |none=>rw[h]at d;cases d
  |some r=>
   rw[h]at d;cases d;have u:u9 la mu z.cells.toList z.cells.toList:=by
    refine⟨rfl,λi x y g B=>?_⟩;obtain rfl:x=y:=by rw[g]at B;exact D' B
    have:=(qw c).2.1;cases z with
    |agg o=>exact .scalar (cN (f:=Am.scalar) this g)
    |tuple o=>
     have E:(Value.tuple o).cells.toList=[.tuple o]:=rfl;rw[E]at g;cases i with
     |zero=>simp at g;subst g;exact .of_flat this
     |succ i=>simp at g
    |_=>
     cases i with
     |zero=>simp[Value.cells]at g;subst g;exact .of_flat this
     |succ i=>simp[Value.cells]at g
   obtain⟨H,l,D⟩:=Kk pl m A.toList z.cells z.cells r u G h;refine⟨.agg H,?_,D.agg⟩;have k:(zeroValue t).run C.P w = .ok z w:=by
    obtain⟨i,q,l,_⟩:=kz c;simp[zeroValue,typeInfo,q,l]
   unfold oD at a;split at a
   next p s=>
    split at a
    next b=>
     cases a;have F:=ja C.P w p.toList (λf d=>by
      have:=Array.all_eq_true_iff_forall_mem.1 b f (by simpa using d);simpa using this)
     have j:(λ(i:Nat)=>(((p.toList.map λ(f:Field)=>(f.offset,C.P.cellsOf f.type)).toArray)[i]?:Option (Nat×Nat)))=λ(i:Nat)=>(p[i]?).map λ(f:Field)=>(f.offset,C.P.cellsOf f.type):=by
      funext i;simp
     simp only[Instr.build,Sem.run_bind,k,Result.andThen_ok,run_underlying s,qc4,Sem.run_map,F];rw[j,l];rfl
    .cases a
   next n e s=>
    split at a
    next b=>
     cases a;obtain⟨i,q⟩:=xT.1 b;simp only[Instr.build,Sem.run_bind,k,Result.andThen_ok,run_underlying s,bJ q];rw[l];rfl
    .cases a
   .cases a
 .cases d
end
end
section
variable [Co] [Dw]
section
variable {C:m'} {la:q_} {mu:ke} {w:TS}
def cD.FQ{vs:Tn}{c:Tl}(h:u9 y8 mu vs c.toList):cD mu vs c 0:=by
 intro i v d;obtain⟨e,a,b⟩:=h.get d;exact⟨e,by simpa using a,b⟩
def cD.cut{vs xs:Tn}{c:Tl}{o off n:Nat}(h:cD mu vs c o)(e:cut vs off n=some xs) :
  ∃ys:List Value,ys.length=n/\u9 y8 mu xs ys/\∀(j:Nat) y,ys[j]?=some y->c[o+off+j]?=some y:=by
 unfold Am.cut at e;split at e
 next m=>
  cases e;refine⟨(List.range n).map λj=>c.getD (o+off+j) undef,c_,⟨ua,?_⟩,?_⟩
  .intro i x y d a;have f:i<n:=by
    rcases Gi i n with h|h
    .exact h
    .rw[Gu ua]at a;cases a
   rw[u3,rv f,M2]at d;obtain⟨l,b,g⟩:=h _ x d;simp[f]at a;subst a;rw[←Q6]at b;simpa[b]using g
  .intro j y a;have k:j<n:=by
    rcases Gi j n with h|h
    .exact h
    .rw[Gu ua]at a;cases a
   have d:∃x,vs[off+j]?=some x:=⟨vs[off+j]'(by omega),c_⟩;obtain⟨x,d⟩:=d;obtain⟨l,b,_⟩:=h _ x d;simp[k]at a;rw[←Q6]at b;rw[b,←a];simp[b]
 .cases e
def sG{b:Nat}{c:Tl}{e:TP}{fr:Nat×Nat}(h:w.heap[b]?=some (.cells c e fr))(i:Nat):w.cell? ⟨b,i,none⟩=c[i]?:=by
 simp[World.cell?,h]
def mL{vs xs:Tn}{c:Tl}{o off n b:Nat}{e:TP}{fr:Nat×Nat}(h:cD mu vs c o)(i:cut vs off n=some xs)(g:w.heap[b]?=some (.cells c e fr)) :
  ∃ys:List Value,ys.length=n/\(loadCells ⟨b,o+off,none⟩ n).run C.P w = .ok ys.toArray w/\u9 y8 mu xs ys:=by
 obtain⟨ys,a,d,f⟩:=h.cut i;refine⟨ys,a,?_,d⟩;rw[←a];refine run_loadCells_list w _ ys λj v k=>?_;rw[bV,sG g];exact f j v k
def dZ{vs:Tn}{c:Tl}{o off b:Nat}{e:TP}{fr:Nat×Nat}{t:TP}{v:TR}(h:cD mu vs c o)(g:dx C.P t vs off=some v)(q:w.heap[b]?=some (.cells c e fr)) :
  ∃v',(loadVar t ⟨b,o+off,none⟩).run C.P w = .ok v' w/\VR y8 mu v v':=by
 unfold dx at g;cases l:C.P.underlying t with
 |none=>rw[l]at g;cases g
 |some d=>
  rw[l]at g;obtain⟨i,u⟩:=fV l;have k:=wc l w;have n:=bJ u w;have x:rn d=true->((cut vs off (C.P.cellsOf t)).map λr=>Value.agg r.toArray)=some v->∃v',(loadVar t ⟨b,o+off,none⟩).run C.P w = .ok v' w/\VR y8 mu v v':=by
   intro f j;cases a:cut vs off (C.P.cellsOf t)with
   |none=>rw[a]at j;cases j
   |some A=>
    rw[a]at j;cases j;obtain⟨z,p,m,s⟩:=mL (C:=C) h a q;exact⟨.agg z.toArray,by simp[loadVar,k,f,n,m],u9.agg (by simpa using s)⟩
  have y:rn d=false->vs[off]?=some v->∃v',(loadVar t ⟨b,o+off,none⟩).run C.P w = .ok v' w/\VR y8 mu v v':=by
   intro f j;obtain⟨v',p,m⟩:=h off v j;exact⟨v',by simp[loadVar,k,f,sG q,p],m⟩
  cases d<;>first|exact x rfl g|exact y rfl g
def jN{b:Nat}{c cs:Tl}{e:TP}{fr:Nat×Nat}(h:w.heap[b]?=some (.cells c e fr)):(w.setRow b cs).heap=w.heap.setIfInBounds b (.cells cs e fr):=by
 have d:b<w.heap.size:=(IG.1 h).1;apply Array.ext (by simp[World.setRow]);intro k i j;have f:(w.setRow b cs).heap[k]?=(w.heap.setIfInBounds b (.cells cs e fr))[k]?:=by
  by_cases a:k=b
  .subst a;rw[setRow_heap w k c cs e fr h];simp[d]
  .rw[setRow_other w b k cs a,r1 (CY a)]
 have g:=qcl i;have e3:=qcl j;rw[g,e3]at f;exact D' f
def A1(c:Tl)(at_:Nat)(ys:Tn):Tl:=(c.toList.take at_++ys++c.toList.drop (at_+ys.length)).toArray
def gW{c:Tl}{at_:Nat}{ys:Tn}(h:at_+ys.length<=c.size):(A1 c at_ ys).size=c.size:=by
 simp[A1];omega
def nr{c:Tl}{at_:Nat}{ys:Tn}(h:at_+ys.length<=c.size)(i:Nat) :
  (A1 c at_ ys)[i]?=if at_<=i/\i<at_+ys.length then ys[i - at_]? else c[i]?:=by
 have a:(c.toList.take at_).length=at_:=ua;simp only[A1,List.getElem?_toArray];by_cases b:i<at_
 .rw[EF,Fe a_,u3,rv b,te a_];simp
 .rw[EF,GV a_,a];by_cases d:i<at_+ys.length
  .rw[Fe a_,rv ⟨a_,d⟩]
  .rw[GV a_,M2,te a_];have:at_+ys.length+(i - at_ - ys.length)=i:=a_;rw[this];simp
def BE{vs b xs:Tn}{off:Nat}(c:s_ vs off xs=some b)(i:Nat) :
  b[i]?=if off<=i/\i<off+xs.length then xs[i - off]? else vs[i]?:=by
 unfold Am.s_ at c;split at c
 next f=>
  cases c;have a:(vs.take off).length=off:=ua;by_cases d:i<off
  .rw[EF,Fe a_,u3,rv d,te a_]
  .rw[EF,GV a_,a];by_cases e:i<off+xs.length
   .rw[Fe a_,rv ⟨a_,e⟩]
   .rw[GV a_,M2,te a_]
    congr 1;omega
 .cases c
def ie{vs a xs:Tn}{off:Nat}(b:s_ vs off xs=some a):a.length=vs.length/\off+xs.length<=vs.length:=by
 unfold Am.s_ at b;split at b
 .cases b;simp;omega
 .cases b
def sa{f:TR->Bool}{vs a xs:Tn}{off:Nat}(b:s_ vs off xs=some a)(h1:vs.all f=true)(d:xs.all f=true):a.all f=true:=by
 unfold Am.s_ at b;split at b
 .cases b;rw[qdl,qdl,vd,vd];refine⟨⟨A_.2 λx c=>A_.1 h1 x (NO c),d⟩,A_.2 λx c=>A_.1 h1 x (gy c)⟩
 .cases b
def cD.s_{vs b xs ys:Tn}{c:Tl}{o off:Nat}(h:cD mu vs c o)(e:s_ vs off xs=some b)(f:u9 y8 mu xs ys)(k:o+vs.length<=c.size) :
  cD mu b (A1 c (o+off) ys) o:=by
 have n:=ie e;have l:=f.1;intro i v a;rw[BE e]at a;rw[nr a_];by_cases d:off<=i/\i<off+xs.length
 .rw[rv d]at a;rw[rv a_];obtain⟨m,g,j⟩:=f.get a;exact⟨m,by rw[show o+i - (o+off)=i - off by omega];exact g,j⟩
 .rw[te d]at a;rw[te a_];exact h i v a
def gU{xs ys:Tn}(e:u9 la mu xs ys)(h:xs.all bh=true):∀y∈ys,y.oneCell'=true:=by
 intro y g;obtain⟨i,c⟩:=Ev g;have f:i<ys.length:=by
  rcases Gi i ys.length with h|h
  .exact h
  .rw[Gu h]at c;cases c
 have b:i<xs.length:=by have:=e.1;omega
 have a:=cN h (show xs[i]?=some xs[i]by simp[b]);simp only[bh,vd]at a;have d:=e.2 i xs[i] y (by simp[b]) c;have:=mn a.2 d;cases y<;>first|rfl|exact(xF a.2 d).elim|(simp[aO]at this)
def dQ{c:Tl}{e:TP}{b at_:Nat}{ys:Tn}(a:w.heap[b]?=some (.cells c e (0,0)))(d:at_+ys.length<=c.size)(h1:∀y∈ys,y.oneCell'=true) :
  (storeCells ⟨b,at_,none⟩ ys).run C.P w = .ok () (w.setRow b (A1 c at_ ys)):=by
 have:=run_storeCells_at C.P b at_ e ys 0 c w a (by simpa using d) h1;simpa[A1]using this
def ny{c:Tl}{e t:TP}{b at_:Nat}{x y:TR}(l:aH x=false)(m:VR la mu x y)(j:x.cells.size=C.P.cellsOf t/\(C.P.info? t).isSome=true)(a:x.cells.toList.all bh=true)
  (g:w.heap[b]?=some (.cells c e (0,0))) (n:at_+x.cells.size<=c.size) :
  (storeVar t ⟨b,at_,none⟩ y).run C.P w = .ok () (w.setRow b (A1 c at_ y.cells.toList)):=by
 have f:=m.cells l;have k:x.cells.size=y.cells.size:=by simpa using f.1
 obtain⟨i,h⟩:=xT.1 j.2;have d:=dQ (C:=C) (at_:=at_) (ys:=y.cells.toList) g ua (gU f a);simp[storeVar,bJ h,show y.cells.size=C.P.cellsOf t by omega,d]
end
end
section
variable [Co] [Dw]
def HG(C:m')(b:Nat)(mu:ke)(H:Tu)(w:TS)(s:Sem Next)(H':Tu)(v:Value):Prop:=
 ∃c v' w' a,s.run C.P w = .ok c w'/\(c = .value v'∨(c = .skip/\v'=undef))/\VR y8 a v v'/\WR C b a H' w'/\El H mu w H' a w'/\hH mu a H' w'
def oM(C:m')(g:Nat)(la:q_)(mu:ke)(g9:St)(w:TS)(s:Sem Next):DS->Prop
 | .val v=>ww C.P la mu s w v
 | .FC _ vs=>∃a e,s.run C.P w = .ok (.value (.pointer (some ⟨w.heap.size,0,none⟩))) (w.alloc (.cells a e))/\u9 y8 mu vs a.toList/\vs.all bh=true
 | .Hc k f=>∀vs v,g9.loc[k]?=some (some vs)->f vs=some v->ww C.P la mu s w v
 | .FD k f=>∀vs d,g9.loc[k]?=some (some vs)->f vs=some d->∃b c cs e,la k=some b/\w.heap[b]?=some (.cells c e (0,0))/\s.run C.P w = .ok .skip (w.setRow b cs)/\u9 y8 mu d cs.toList/\d.all bh=true
 | .EZ f=>∀v,f g9.heap=some v->ww C.P la mu s w v
 | .F9 f=>∀H' v,f g9.heap=some (H',v)->HG C g mu g9.heap w s H' v
 | .call f args=>∃args':Array Value,u9 y8 mu args args'.toList/\s.run C.P w=(callFunc f args').run C.P w
 | .yield l args=>∃p args',mu l=some p/\u9 y8 mu args (args':Tl).toList/\s.run C.P w=(Instr.yield p.b args').run C.P w
section
variable {C:m'} {base:Nat} {la:q_} {mu:ke} {g9:St} {a:Act} {w:TS}
def ri{v c:TR}{p:Nat×Nat}(d:iR v=some p)(h:VR la mu v c):∃q,mu p.1=some q/\c = .pointer (some ⟨q.b,q.o+p.2,none⟩):=by
 unfold iR at d;split at d
 next a=>
  split at d
  next e=>
   cases d;cases h with
   |scalar h=>simp[Am.scalar]at h
   |Es h=>simp at e
   |DM h=>exact⟨_,h,rfl⟩
   |DV=>simp at e
  .cases d
 .cases d
def rg{v c:TR}{p:Nat×Nat}(b:gR v=some p)(h:VR la mu v c):c = .pointer (some ⟨Eo p.1,Fz p.1+p.2,none⟩):=by
 unfold gR at b;split at b
 next a=>
  split at b
  next d=>
   cases b;cases h with
   |scalar h=>simp[Am.scalar]at h
   |Es h=>simp at d
   |DM h=>simp at d
   |DV=>rfl
  .cases b
 .cases b
def vB{v c:TR}{s off:Nat}(d:jI s v=some off)(h:VR la mu v c):∃b,la s=some b/\c = .pointer (some ⟨b,off,none⟩):=by
 unfold jI at d;split at d
 next a=>
  split at d
  next f=>
   cases d;obtain⟨e,rfl⟩:=f;cases h with
   |scalar h=>simp[Am.scalar]at h
   |Es h=>exact⟨_,h,rfl⟩
   |DM h=>simp at e
   |DV=>simp at e
  .cases d
 .cases d
def vp(l:WR C base mu g9.heap w){id:Nat}{vs:Tn}(h:ge g9.heap id=some vs){p:Pl}(j:mu id=some p) :
  ∃c e fr,w.heap[p.b]?=some (.cells c e fr)/\cD mu vs c p.o:=by
 unfold ge at h;split at h
 next n f m i'=>
  cases h;obtain⟨q,d,k⟩:=l.obj id _ i' rfl;obtain rfl:p=q:=by rw[j]at d;exact D' d
  obtain⟨_,_,_,c,e,fr,g,_,_,i⟩:=k;exact⟨c,e,fr,g,i⟩
 .cases h
def Kx(f:WR C base mu g9.heap w){g:Nat}{vs:Tn}(h:C.G g=some vs):∃c e fr,w.heap[Eo g]?=some (.cells c e fr)/\cD mu vs c (Fz g):=by
 obtain⟨_,_,c,e,fr,b,d⟩:=f.DL g vs h;exact⟨c,e,fr,b,d⟩
def Jb(h:SR C base la mu g9 a.tmps w){s b:Nat}{vs:Tn}(l:g9.loc[s]?=some (some vs))(k:la s=some b) :
  ∃c e,w.heap[b]?=some (.cells c e (0,0))/\u9 y8 mu vs c.toList/\vs.all bh=true:=by
 obtain⟨f,c,e,d,m,g,i,j,n⟩:=h.loc s vs l;obtain rfl:b=f:=by rw[k]at d;exact D' d
 exact⟨c,e,g,j,i⟩
def jp{c:TR}{t:TP}{d:Addr}{v':TR}(b:c = .pointer (some d))(h:(loadVar t d).run C.P w = .ok v' w):(Instr.loadAt t c).run C.P w = .ok v' w:=by
 subst b;simp[Instr.loadAt,Instr.sureAddr,h]
def AZ(h:SR C base la mu g9 a.tmps w){b_:TC}{t:TP}{x:TK}{e:DS}(d:dX C b_ t x (jw g9.tmps x)=some e) :
  oM C base la mu g9 w (do pure (.value (←Instr.loadAt t (a.eval x)))) e:=by
 have u:=aK h x;unfold dX at d;split at d
 .cases g:iR (jw g9.tmps x)with
  |none=>
   rw[g]at d;cases r:gR (jw g9.tmps x)with
   |none=>rw[r]at d;cases d
   |some p=>
    rw[r]at d;cases d;have m:=rg r u;intro v f;simp only at f;cases o:C.G p.1 with
    |none=>rw[o]at f;cases f
    |some y=>
     rw[o,Ds]at f;obtain⟨c,e,A,i,j⟩:=Kx h.wr o;obtain⟨z,k,l⟩:=dZ (C:=C) j f i;exact ig (jp m k) l.up
  |some p=>
   rw[g]at d;cases d;obtain⟨q,D,m⟩:=ri g u;intro v f;simp only at f;cases n:ge g9.heap p.1 with
   |none=>rw[n]at f;cases f
   |some y=>
    rw[n]at f;obtain⟨c,e,A,i,j⟩:=vp h.wr n D;obtain⟨z,k,l⟩:=dZ (C:=C) j f i;exact ig (jp m k) l.up
 .cases g:gR (jw g9.tmps x)with
  |none=>rw[g]at d;cases d
  |some p=>
   rw[g]at d;have m:=rg g u;cases o:C.G p.1 with
   |none=>rw[Ds,o]at d;cases d
   |some y=>
    rw[Ds,o,Ds]at d;cases f:dx C.P t y p.2 with
    |none=>rw[f]at d;cases d
    |some v=>
     rw[f]at d;cases d;obtain⟨c,e,A,i,j⟩:=Kx h.wr o;obtain⟨z,k,l⟩:=dZ (C:=C) j f i;exact ig (jp m k) l.up
 next s _=>
  cases g:jI s (jw g9.tmps x)with
  |none=>rw[g]at d;cases d
  |some F=>
   rw[g]at d;cases d;obtain⟨b,B,m⟩:=vB g u;intro y v E f;obtain⟨c,e,i,j,_⟩:=Jb h E B;obtain⟨z,k,l⟩:=dZ (C:=C) (cD.FQ j) f i;exact ig (jp (by rw[m,ER]) k) l.up
def jO{t:TP}{x:TR}{vs b:Tn}{off:Nat}(h:fi C.P t x vs off=some b) :
  (x.cells.size=C.P.cellsOf t/\(C.P.info? t).isSome=true)/\x.cells.toList.all bh=true/\s_ vs off x.cells.toList=some b:=by
 unfold fi at h;split at h
 next c=>
  split at h
  next d=>exact⟨c,d,h⟩
  .cases h
 .cases h
def qj{c y:TR}{t:TP}{d:Addr}{w':TS}(b:c = .pointer (some d))(h:(storeVar t d y).run C.P w = .ok () w'):(Instr.storeAt t c y).run C.P w = .ok () w':=by
 subst b;simp[Instr.storeAt,Instr.sureAddr,h]
def WR.s_(k:WR C base mu g9.heap w){id:Nat}{vs d xs ys:Tn}{r_ off:Nat}{p:Pl}(i':g9.heap[id]?=some (.cells vs r_ true))(i:mu id=some p)
  (g:Am.s_ vs off xs=some d) (l:u9 y8 mu xs ys) (f:xs.all bh=true) :
  ∃c e,w.heap[p.b]?=some (.cells c e (0,0))/\p.o+off+ys.length<=c.size/\
   WR C base mu (g9.heap.set id (.cells d r_ true)) (w.setRow p.b (A1 c (p.o+off) ys))/\El g9.heap mu w (g9.heap.set id (.cells d r_ true)) mu (w.setRow p.b (A1 c (p.o+off) ys)):=by
 obtain⟨q,j,u⟩:=k.obj id _ i' rfl;obtain rfl:p=q:=by rw[i]at j;exact D' j
 obtain⟨m,y,n,c,e,x,h,r,s,t⟩:=u;obtain rfl:=s rfl;have z:=ie g;have v:=l.1;refine⟨c,e,h,a_,?_⟩;refine k.set i' rfl i (jN h) rfl rfl rfl _ (λ_=>rfl) ?_;exact⟨m,a_,sa g n f,_,e,_,rfl,by rw[gW a_];exact r,λ_=>rfl,cD.s_ t g l a_⟩
def yl(h:SR C base la mu g9 a.tmps w){b_:TC}{t:TP}{x z:TK}{e:DS}(d:fg C b_ t x (jw g9.tmps x) (jw g9.tmps z)=some e) :
  oM C base la mu g9 w (do Instr.storeAt t (a.eval x) (a.eval z);pure .skip) e:=by
 have R:=aK h x;have G:=aK h z;unfold fg at d;split at d
 .cases d
 next B=>
  simp only[Gj]at B;split at d
  .cases k:iR (jw g9.tmps x)with
   |none=>rw[k]at d;cases d
   |some p=>
    rw[k]at d;cases d;obtain⟨q,W,I⟩:=ri k R;intro H' v m;unfold jU at m;split at m
    next K T i'=>
     cases g:fi C.P t (jw g9.tmps z) K p.2 with
     |none=>rw[g]at m;cases m
     |some L=>
      rw[g]at m;cases m;obtain⟨H,j,r⟩:=jO g;have f:=G.cells B;obtain⟨c,e,D,E,F,U⟩:=h.wr.s_ i' W r (f.HR j) j;have l:=ny (C:=C) (at_:=q.o+p.2) B G H j D (by have:=f.1;simp at this E ⊢;omega);refine⟨.skip,undef,_,mu,?_,.inr ⟨rfl,rfl⟩,.undef,F,U,F.obj⟩;simp[qj I l]
    .cases m
  .cases d
  next s _=>
   cases k:jI s (jw g9.tmps x)with
   |none=>rw[k]at d;cases d
   |some n=>
    rw[k]at d;cases d;obtain⟨b,N,I⟩:=vB k R;intro K L X g;obtain⟨H,j,r⟩:=jO g;obtain⟨c,e,D,E,F⟩:=Jb h X N;have f:=G.cells B;have Q:=ie r;have Z:K.length=c.size:=by simpa using E.1
    have O:(jw g9.tmps z).cells.size=(a.eval z).cells.size:=by simpa using f.1
    have l:=ny (C:=C) (at_:=n) B G H j D (by simp at Q;omega);refine⟨b,c,A1 c n (a.eval z).cells.toList,e,N,D,by simp[qj I l],?_,sa r F j⟩;have A:=cD.s_ (o:=0) (cD.FQ E) r (f.HR j) a_;rw[ER]at A;have J:(A1 c n (a.eval z).cells.toList).size=c.size:=gW (by simp at Q ⊢;omega);refine⟨by simp[J];omega,λi u y Y S=>?_⟩;obtain⟨u',M,V⟩:=A i u Y;rw[ER]at M;obtain rfl:u'=y:=by rw[Array.getElem?_toList,M]at S;exact D' S
    exact V
def nl(h:SR C base la mu g9 a.tmps w)(o:base<=w.heap.size){b_:TC}{dst:Tq}{t:TP}{v c:TR}{e:DS}(q:VR la mu v c)(f:cJ C b_ dst t v=some e) :
  oM C base la mu g9 w (do pure (.value (←Instr.box t c))) e:=by
 unfold cJ at f;split at f
 .cases f
 next l=>
  simp only[Gj]at l;have g:=q.cells l;split at f
  .cases f
  next d=>
   split at f
   .cases f
   next b=>
    simp only[Gj,b3]at b;split at f
    .cases f;exact⟨c.cells,t,by simp[Instr.box,newVar,newRow],g.HR b,b⟩
    .cases f;intro s u k;cases k;have j:=h.wr.new o (w':=w.alloc (.cells c.cells t)) (x:=.cells c.cells t) rfl rfl rfl rfl (.cells v.cells.toList (mK C.P t) true) ⟨w.heap.size,0,c.cells.size,mK C.P t⟩ rfl (by
      have p:v.cells.size=c.cells.size:=by simpa using g.1
      refine⟨rfl,by simp[p],b,c.cells,t,_,rfl,c_,λ_=>rfl,λi u k=>?_⟩;obtain⟨r,m,n⟩:=(g.HR b).get k;exact⟨r,by simpa using m,n⟩) (λ_=>rfl)
     refine⟨.value (.pointer (some ⟨w.heap.size,0,none⟩)),_,_,_,by simp[Instr.box,newVar,newRow],.inl rfl,?_,j.1,j.2.1,j.2.2⟩;exact .DM (bL _ _ _)
end
end
section
variable [Co] [Dw]
section
variable {C:m'} {base:Nat} {la:q_} {mu:ke} {g9:St} {a:Act} {w:TS}
def WR.newRow(q:WR C base mu g9.heap w)(l:base<=w.heap.size){w':TS}{vs ys:Tn}{cs:Tl}{e:TP}{r_:Nat}(h:u9 y8 mu vs ys)(c:vs.all bh=true)
  (b:∀(i:Nat) y,ys[i]?=some y->cs[i]?=some y) (g:ys.length<=cs.size) (f:w'.heap=w.heap.push (.cells cs e)) (d:w'.os=w.os) (n:w'.tape=w.tape) (o:w'.output=w.output) (m:w.drawn<=w'.drawn:=by exact A9 _) :
  WR C base (HC mu g9.heap.length ⟨w.heap.size,0,cs.size,r_⟩) (g9.heap++[.cells vs r_ true]) w'/\El g9.heap mu w (g9.heap++[.cells vs r_ true]) (HC mu g9.heap.length ⟨w.heap.size,0,cs.size,r_⟩) w'/\hH mu (HC mu g9.heap.length ⟨w.heap.size,0,cs.size,r_⟩) (g9.heap++[.cells vs r_ true]) w':=by
 refine q.new l f d n o _ _ rfl ⟨rfl,by have:=h.1;simp only;omega,c,cs,e,_,rfl,c_,λ_=>rfl,λi v p=>?_⟩ (λ_=>rfl) m;obtain⟨y,j,k⟩:=h.get p;exact⟨y,by simpa using b i y j,k⟩
def rf{z:TR}(b:flat z=true)(e:aH z=false):z.cells.toList.all scalar=true:=by
 cases z with
 |agg c=>exact b
 |tuple c=>
  have d:jB (.tuple c)=true:=by simpa[aH]using e
  simp[flat,gw d]at b
 |_=>simpa[Value.cells,flat,gl]using b
def ic{v:TR}(h:scalar v=true):bh v=true:=by
 unfold Am.scalar at h;split at h<;>first|rfl|cases h
def u9.scalars{vs:Tn}(h:vs.all scalar=true):u9 la mu vs vs:=by
 refine⟨rfl,λi x y b c=>?_⟩;obtain rfl:x=y:=by rw[b]at c;exact D' c
 exact .scalar (cN h b)
def yB{f g:TR->Bool}{vs:Tn}(h:vs.all f=true)(b:∀v,f v=true->g v=true):vs.all g=true:=
 A_.2 λx c=>b x (A_.1 h x c)
def BJ{z:Tn}{n i:Nat}(h:i<n*z.length):(aL z n)[i]?=z[i%z.length]?:=by
 unfold aL
 induction n generalizing i with
 |zero=>simp at h
 |succ n d=>
  rw[u1,y4];by_cases c:i<z.length
  .rw[Fe c,Nat.mod_eq_of_lt c]
  .rw[GV a_];have e:0<z.length:=by
    rcases Nat.eq_zero_or_pos z.length with b|b
    .rw[b]at h;simp at h
    .exact b
   rw[Js,S9]at h;rw[d a_,←Nat.mod_eq_sub_mod a_]
def fj{z:Tn}{n:Nat}:(aL z n).length=n*z.length:=by
 unfold aL
 induction n with
 |zero=>simp
 |succ n b=>rw[u1,y4,Gv,b,Js];omega
def jz{f:TR->Bool}{z:Tn}{n:Nat}(h:z.all f=true):(aL z n).all f=true:=by
 unfold aL;rw[List.all_flatten];refine A_.2 λl b=>?_;rw[List.mem_replicate]at b;rw[b.2];exact h
def lj{z:Tl}{n m:Nat}(d:z.size≠0)(h:m=n*z.size)(i:Nat)(c:i<m):(madeCells z m)[i]?=(aL z.toList n)[i]?:=by
 rw[BJ ua];have b:i%z.size<z.size:=Nd _ a_;simp only[madeCells,Array.getElem?_map];rw[Array.getElem?_range,rv c];simp[b]
def tE(h:SR C base la mu g9 a.tmps w)(L:base<=w.heap.size){t:TP}{l c:TK}{H':Tu}{v:TR}
  (f:dz C t (jw g9.tmps l) (jw g9.tmps c) g9.heap=some (H',v)):HG C base mu g9.heap w (do pure (.value (←Instr.makeSlice t (a.eval l) (a.eval c)))) H' v:=by
 unfold dz at f;split at f
 next E d g F K O=>
  split at f
  next b M=>
   split at f
   .cases f
   next N=>
    split at f
    next z k=>
     obtain⟨o,p,B,D⟩:=oK k
     first
     |skip
      split at f
      next u=>
       cases f;obtain⟨G,H,S,T⟩:=u;obtain⟨R,J⟩:=kX F (aK h l);obtain⟨Q,I⟩:=kX K (aK h c);have j:(b.bytes:Int)*d<=281474976710656:=by
        have F:(b.bytes:Int)*d<=4096*d:=qb5 a_ a_;omega
       have q:=run_make (P:=C.P) w t g b z O M o R Q E d G H j a_;have r:=rf B D;have m:(madeCells z.cells (d.toNat*b.size)).size=d.toNat*b.size:=by simp[madeCells]
       have s:=h.wr.newRow L (w':=w.alloc (.cells (madeCells z.cells (d.toNat*b.size)) g)) (r_:=b.size) (u9.scalars (la:=y8) (mu:=mu) (jz (n:=d.toNat) r)) (yB (jz r) λ_=>ic)
        (cs:=madeCells z.cells (d.toNat*b.size)) (e:=g) (λi y A=>by
         have x:i<d.toNat*b.size:=by
          rcases Gi i (d.toNat*b.size)with h|h
          .exact h
          .rw[Gu (by rw[fj];simp[p];exact h)]at A;cases A
         rw[lj (n:=d.toNat) a_ (by rw[p]) i x];exact A) (by rw[fj,m];simp[p]) rfl rfl rfl rfl
       refine⟨.value (.slice (some ⟨w.heap.size,0,none⟩) E.toNat d.toNat),_,_,_,by rw[J,I];simp[q],.inl rfl,?_,s.1,s.2.1,s.2.2⟩;have:=VR.x3 (la:=y8) (id:=g9.heap.length) (off:=0) (len:=E.toNat) (cap:=d.toNat) (cx:=d.toNat+1) (bL mu g9.heap.length ⟨w.heap.size,0,(madeCells z.cells (d.toNat*b.size)).size,b.size⟩)
        (by simp only[m];omega) a_ (.inr rfl)
       simpa using this
      .cases f
    .cases f
  .cases f
 .cases f
def MG(pl:Nat->Option (Nat×Nat)):∀(e:List (Nat×Value)) (cs r:Tl),Instr.fill pl cs e=some r->r.size=cs.size:=by
 intro e
 induction e with
 |nil=>intro cs r h;simp[Instr.fill]at h;rw[h]
 |cons p e g=>
  intro cs r h;obtain⟨i,x⟩:=p;unfold Instr.fill at h;split at h
  .cases h
  .split at h
   .cases h
   .rw[g _ _ h];have:∀(l:List (Value×Nat)) (b:Tl) (d:Nat),(l.foldl (λ(b:Tl) (c,j)=>b.setIfInBounds (d+j) c) b).size=b.size:=by
     intro l
     induction l with
     |nil=>intro b d;rfl
     |cons y l f=>intro b d;rw[WJ,f];simp
    rw[←qcX];exact this _ _ _
def MI{f:TR->Bool}(off:Nat):∀(l:List (Value×Nat)) (b:Tl),b.toList.all f=true->(∀p∈l,f p.1=true)->
  (l.foldl (λ(b:Tl) (c,j)=>b.setIfInBounds (off+j) c) b).toList.all f=true:=by
 intro l
 induction l with
 |nil=>intro b h _;exact h
 |cons y l k=>
  intro b h e;rw[WJ];refine k _ (A_.2 λx g=>?_) λp i=>e p (by simp[i]);simp only[Array.toList_setIfInBounds]at g;rcases i0 g with d|d
  .exact A_.1 h x d
  .rw[d];exact e y c_
def Pg{f:TR->Bool}(pl:Nat->Option (Nat×Nat)):∀(c:List (Nat×Value)) (cs r:Tl),cs.toList.all f=true->(∀p∈c,p.2.cells.toList.all f=true)->Instr.fill pl cs c=some r->r.toList.all f=true:=by
 intro c
 induction c with
 |nil=>intro cs r h _ b;simp[Instr.fill]at b;subst b;exact h
 |cons p c n=>
  intro cs r h j b;obtain⟨i,x⟩:=p;unfold Instr.fill at b;split at b
  .cases b
  next g k m=>
   split at b
   .cases b
   .refine n _ r ?_ (λq d=>j q (by simp[d])) b;rw[←qcX,Array.toList_zipIdx];refine MI g _ _ h λq d=>?_;have e:=List.mem_zipIdx d;exact A_.1 (j (i,x) c_) q.1 (by obtain⟨_,_,l⟩:=e;rw[l];exact List.getElem_mem _)
def qz(h:SR C base la mu g9 a.tmps w)(U:base<=w.heap.size){t:TP}{n:Nat}{q:List (Nat×Value)}{L:Array (Nat×Value)}{r:Nat×List Value}
  (V:Zi la mu q L.toList) (F:∀p∈q,p.2.cells.toList.all bh=true) (d:fz C t n q=some r) :
  HG C base mu g9.heap w (do pure (.value (←Instr.buildSlice t n L))) (g9.heap++[.cells r.2 r.1 true]) (.slice (some ⟨g9.heap.length,0,le r.1⟩) n (n+1)):=by
 unfold fz at d;split at d
 next c Q=>
  split at d
  next b s=>
   split at d
   .cases d
   next E=>
    split at d
    .cases d
    next N=>
     split at d
     next z j=>
      obtain⟨l,o,I,K⟩:=oK j
      first
      |skip
       have u:=rf I K;cases f:Instr.fill (λi=>some (i*b.size,b.size)) (aL z.cells.toList n).toArray q with
       |none=>rw[f]at d;cases d
       |some cs=>
        rw[f]at d;cases d;have H:u9 la mu (aL z.cells.toList n) (aL z.cells.toList n):=u9.scalars (jz u);obtain⟨v,A,T⟩:=Kk (la:=la) (mu:=mu) _ q L.toList (aL z.cells.toList n).toArray (aL z.cells.toList n).toArray cs (by simpa using H) V f;have ge:cs.toList.all bh=true:=Pg _ q _ cs (by simpa using yB (jz u) λ_=>ic) F f;have k:v.size=n*b.size:=by
         rw[MG _ _ _ _ A];simp[fj,o]
        have O:¬b.size=0:=E;have g:((Array.range (n*b.size)).map (z.cells[· % z.cells.size]!))=(aL z.cells.toList n).toArray:=by
         apply qcW;intro i;rw[show((aL z.cells.toList n).toArray)[i]?=(aL z.cells.toList n)[i]? from by simp];by_cases D:i<n*b.size
         .exact lj (z:=z.cells) (n:=n) (m:=n*b.size) a_ (by rw[o]) i D
         .rw[qcz ua,Gu (by simp[fj,o];omega)]
        have B:=h.wr.newRow U (w':=w.alloc (.cells v c)) (r_:=b.size) (T.HR ge) ge (cs:=v) (e:=c) (λi y W=>by simpa using W) c_ rfl rfl rfl rfl;refine⟨.value (.slice (some ⟨w.heap.size,0,none⟩) n n),_,_,_,?_,.inl rfl,?_,B.1,B.2.1,B.2.2⟩
        .have x:¬(n*C.P.cellsOf c > 2 ^ 24):=by simp only[Program.cellsOf,s,EO,S8];omega
         have e3:C.P.cellsOf c=b.size:=by simp[Program.cellsOf,s]
         have J:(zeroValue c).run C.P w = .ok z w:=by simp[zeroValue,typeInfo,s,l]
         rw[e3]at x;by_cases S:n=0
         .subst S;have G:∀M:Array Value,((Array.range (0*b.size)).map (M[· % M.size]!))=(aL z.cells.toList 0).toArray:=λM=>by
           rw[Y2];simp[aL]
          simp only[Instr.buildSlice,Sem.run_bind,run_underlying Q,Result.andThen_ok,bJ s,e3,rv (Y2 b.size),te x,Sem.run_pure,G,A];simp[newRow]
         .have R:¬(n*b.size=0):=by
           simp only[Nat.mul_eq_zero];omega
          simp only[Instr.buildSlice,Sem.run_bind,run_underlying Q,Result.andThen_ok,bJ s,e3,te R,te x,J,Sem.run_pure,g,A];simp[newRow]
        .have:=VR.x3 (la:=y8) (id:=g9.heap.length) (off:=0) (len:=n) (cap:=n) (cx:=n+1) (bL mu g9.heap.length ⟨w.heap.size,0,v.size,b.size⟩) (by simp only[k];omega) a_ (.inr rfl);simpa using this
     .cases d
  .cases d
 .cases d
def kL(Z:WR C base mu g9.heap w){x y:TR}{r_:Nat}{new:Tn}{n:Nat}(g:VR la mu x y)(f:dW C g9.heap r_ x=some (new,n))(k:Nat)(w':TS)(V:w'.heap=w.heap) :
  ∃ys:List Value,(Builtin.lenOf y).run C.P w' = .ok n w'/\ys.length=n*r_/\u9 y8 mu new ys/\new.all bh=true/\
   (k<=n->(Builtin.firstCells r_ k y).run C.P w' = .ok (ys.take (k*r_)).toArray w'):=by
 have i:∀ {t z:Tn} {c:Tl} {o r b m:Nat} {e:TP} {A:Nat×Nat},cD mu t c o->cut t r (m*r_)=some z->w.heap[b]?=some (.cells c e A)->t.all bh=true->
   ∃ys:List Value,ys.length=m*r_/\u9 y8 mu z ys/\z.all bh=true/\(k<=m->(loadCells ⟨b,o+r,none⟩ (k*r_)).run C.P w' = .ok (ys.take (k*r_)).toArray w'):=by
  intro t z c o r b m e A hR d O B;obtain⟨ys,g1,g2,g3⟩:=hR.cut d;refine⟨ys,g1,g2,?_,λT=>?_⟩
  .unfold Am.cut at d;split at d
   .cases d;exact A_.2 λx g=>A_.1 B x (gy (NO g))
   .cases d
  .have L:k*r_<=m*r_:=Q9 _ T;have E:(ys.take (k*r_)).length=k*r_:=ua;have:=run_loadCells_list (P:=C.P) w' ⟨b,o+r,none⟩ (ys.take (k*r_)) λj v K=>by
    rw[bV];have D:w'.heap[b]?=some (.cells c e A):=by rw[V];exact O
    rw[sG D];refine g3 j v ?_;rw[u3]at K;split at K
    .exact K
    .cases K
   rw[E]at this;exact this
 unfold dW at f;split at f
 .cases f;have:=cL (a:=.slice none 0 0) rfl g;subst this;exact⟨[],by simp[Builtin.lenOf],c_,.nil,rfl,λu=>by simp[Builtin.firstCells]⟩
 next M J cx=>
  split at f
  next l=>
   cases N:C.G M.block with
   |none=>rw[N]at f;cases f
   |some t=>
    rw[N,Ds]at f;cases d:cut t M.off (J*r_)with
    |none=>rw[d]at f;cases f
    |some z=>
     rw[d]at f;cases f;obtain⟨ag,Q,c,e,A,R,S⟩:=Z.DL _ _ N;obtain⟨ys,F,H,I,W⟩:=i S d R Q;cases g with
     |scalar h=>simp[Am.scalar]at h
     |x3 h U L g=>simp[le]at l
     |u_ g=>simp[le]at l
     |Cu L g=>
      refine⟨ys,by simp[Builtin.lenOf],F,H,I,λu=>?_⟩;simpa[Builtin.firstCells]using W u
     |y9 g=>
      refine⟨ys,by simp[Builtin.lenOf],F,H,I,λu=>?_⟩;obtain rfl:k=0:=a_;simp[Builtin.firstCells,loadCells,loadCellsFrom]
  .split at f
   next l=>
    split at f
    next t e0 al i'=>
     split at f
     next X=>
      cases d:cut t M.off (J*r_)with
      |none=>rw[d]at f;cases f
      |some z=>
       rw[d]at f;cases f;obtain⟨q,Y,U⟩:=Z.obj _ _ i' rfl;obtain⟨o1,o2,o3,c,e,A,o4,o5,o6,o7⟩:=U;obtain⟨ys,F,H,I,W⟩:=i o7 d o4 o3;cases g with
       |scalar h=>simp[Am.scalar]at h
       | @x3 _ _ _ _ _ p h U L g=>
        obtain rfl:p=q:=by rw[h]at Y;exact D' Y
        refine⟨ys,by simp[Builtin.lenOf],F,H,I,λu=>?_⟩;simpa[Builtin.firstCells]using W u
       |u_ g=>
        refine⟨ys,by simp[Builtin.lenOf],F,H,I,λu=>?_⟩;obtain rfl:k=0:=a_;simp[Builtin.firstCells,loadCells,loadCellsFrom]
       |Cu L g=>simp[le]at l
       |y9 g=>simp[le]at l
     .cases f
    .cases f
   .cases f
 next s=>
  split at f
  next X=>
   cases f;subst X;have:=cL (a:=.string s) rfl g;subst this;refine⟨s.data.toList.map λb=>.int .u8 b.toNat,by simp[Builtin.lenOf],by rw[FV,Y3];rfl,u9.scalars ?_,?_,λu=>?_⟩
   .exact A_.2 λx g=>by obtain⟨b,_,rfl⟩:=CS.1 g;rfl
   .exact A_.2 λx g=>by obtain⟨b,_,rfl⟩:=CS.1 g;rfl
   .simp only[Builtin.firstCells,Sem.run_pure,Y3]
    congr 1
    apply Array.ext';simp[ByteArray.data_extract,List.extract]
  .cases f
 .cases f
end
end
section
variable [Co] [Dw]
section
variable {C:m'} {base:Nat} {la:q_} {mu:ke} {g9:St} {a:Act} {w:TS}
def pO:TypeDesc->Bool
 | .int _=>true
 |_=>false
def bZ{t h ty e:TP}{i:TypeInfo}{d:TypeDesc}{c:Array TypeId}(h0:c[0]?=some t)(h1:c[1]?=some h)(q:C.P.underlying t=some (.slice e))(r:C.P.underlying h=some d)(j:pO d=false)
  (m:C.P.info? e=some i) {y:TR} {n sLen sCap:Nat} {ys:Tn} {b:Option Addr} (o:(Builtin.lenOf y).run C.P w = .ok n w) (l:(Builtin.firstCells i.size n y).run C.P w = .ok ys.toArray w) (p:sLen+n<=sCap) :
  (Builtin.append_ c ty #[.slice b sLen sCap,y]).run C.P w =
   match b with
   |none=>.ok (.slice none (sLen+n) sCap) w
   |some g=>((storeCells (g.add (sLen*i.size)) ys).run C.P w).andThen λ_ w'=>.ok (.slice (some g) (sLen+n) sCap) w':=by
 have f:∀k,d = .int k->False:=λk e=>by subst e;simp[pO]at j
 cases b<;>simp[Builtin.append_,h0,h1,run_underlying q,run_underlying r,sizeOf,typeInfo,m,o,l,p]
def qI{t m ty e:TP}{i:TypeInfo}{d:TypeDesc}{z:TR}{c:Array TypeId}(h0:c[0]?=some t)(h1:c[1]?=some m)(v:C.P.underlying t=some (.slice e))(x:C.P.underlying m=some d)(o:pO d=false)
  (q:C.P.info? e=some i) (A:i.zero=some z) {y:TR} {n sLen sCap:Nat} {olds ys:Tn} {b:Option Addr} (r:(Builtin.lenOf y).run C.P w = .ok n w) (p:(Builtin.firstCells i.size n y).run C.P w.drew = .ok ys.toArray w.drew)
  (u:(Builtin.firstCells i.size sLen (.slice b sLen sCap)).run C.P w.drew = .ok olds.toArray w.drew)
  (D:sCap<sLen+n) (h:bc (sLen+n) i.bytes=true) :
  (Builtin.append_ c ty #[.slice b sLen sCap,y]).run C.P w =
   .ok (.slice (some ⟨w.heap.size,0,none⟩) (sLen+n) (grownCap w (sLen+n) sCap e)) (w.drew.alloc (.cells ((olds++ys).toArray++Builtin.zeroCells z.cells (grownCap w (sLen+n) sCap e - (sLen+n))) e)):=by
 simp only[bc,vd,HB]at h;have B:(sLen+n)*i.bytes<=140737488355328:=h.2;have l:=growslice_fits (old:=sCap) (need:=sLen+n) (bytes:=i.bytes) a_ a_;have s:¬(sLen+n<=sCap):=a_;have g:¬(9223372036854775807<((sLen:Int)+(n:Int))):=a_;have f:¬(281474976710656<Builtin.nextslicecap (sLen+n) sCap*i.bytes):=a_;have j:∀k,d = .int k->False:=λk e=>by subst e;simp[pO]at o
 simp[Builtin.append_,h0,h1,run_underlying v,run_underlying x,sizeOf,typeInfo,zeroValue,q,A,r,p,u,s,g,f,Question.forced,newRow,grownCap]
 congr 2
 apply Array.ext';simp
def tG{i7:Type}{l:List i7}{n m:Nat}{x:i7}(h:x∈(l.drop n).take m):x∈l:=gy (NO h)
def wa{f:TR->Bool}{vs xs:Tn}{off n:Nat}(b:cut vs off n=some xs)(h:vs.all f=true):xs.all f=true:=by
 unfold Am.cut at b;split at b
 .cases b;exact A_.2 λx c=>A_.1 h x (tG c)
 .cases b
def qV{vs xs:Tn}{off n:Nat}(b:cut vs off n=some xs):xs.length=n/\off+n<=vs.length:=by
 unfold Am.cut at b;split at b
 .cases b;simp;omega
 .cases b
def Wc{vs old:Tn}{p:Pl}{off len r_ sCap:Nat}{c:Tl}{e:TP}{fr:Nat×Nat}(l:cD mu vs c p.o)(d:cut vs off (len*r_)=some old)(f:w.heap[p.b]?=some (.cells c e fr))(w':TS)(g:w'.heap=w.heap) :
  ∃os:List Value,os.length=len*r_/\u9 y8 mu old os/\(Builtin.firstCells r_ len (.slice (some ⟨p.b,p.o+off,none⟩) len sCap)).run C.P w' = .ok os.toArray w'/\∀(j:Nat) y,os[j]?=some y->c[p.o+off+j]?=some y:=by
 obtain⟨os,h,k,i⟩:=l.cut d;refine⟨os,h,k,?_,i⟩;have:=run_loadCells_list (P:=C.P) w' ⟨p.b,p.o+off,none⟩ os λj v m=>by
  rw[bV,sG (by rw[g];exact f)];exact i j v m
 rw[h]at this;simpa[Builtin.firstCells]using this
def wU(H:WR C base mu g9.heap w)(v:base<=w.heap.size){t u ty e:TP}{i:TypeInfo}{d:TypeDesc}{z:TR}{c:Array TypeId}(h0:c[0]?=some t)(h1:c[1]?=some u)(G:C.P.underlying t=some (.slice e))(I:C.P.underlying u=some d)(x:pO d=false)
  (B:C.P.info? e=some i) (J:i.zero=some z) (q:z.cells.size=i.size) {y:TR} {n sLen sCap:Nat} {old new olds ys:Tn} {b:Option Addr} (D:(Builtin.lenOf y).run C.P w = .ok n w) (A:(Builtin.firstCells i.size n y).run C.P w.drew = .ok ys.toArray w.drew)
  (E:(Builtin.firstCells i.size sLen (.slice b sLen sCap)).run C.P w.drew = .ok olds.toArray w.drew) (F:sCap<sLen+n) (p:bc (sLen+n) i.bytes=true)
  (M:u9 y8 mu old olds) (N:u9 y8 mu new ys) (K:olds.length=sLen*i.size) (L:ys.length=n*i.size) (r:old.all bh=true) (s:new.all bh=true) :
  HG C base mu g9.heap w (do pure (.value (←Builtin.append_ c ty #[.slice b sLen sCap,y]))) (g9.heap++[.cells (old++new) i.size true]) (.slice (some ⟨g9.heap.length,0,le i.size⟩) (sLen+n) 0):=by
 have f:=qI (ty:=ty) h0 h1 G I x B J D A E F p;have l:=grownCap_ge w (sLen+n) sCap e;have k:((olds++ys).toArray++Builtin.zeroCells z.cells (grownCap w (sLen+n) sCap e - (sLen+n))).size=grownCap w (sLen+n) sCap e*i.size:=by
  simp[size_zeroCells,K,L,q];rw[←Js,←Js]
  congr 1;omega
 have g:=(H.drew (w.drawn+1)).newRow (C:=C) v (w':=w.drew.alloc (.cells ((olds++ys).toArray++Builtin.zeroCells z.cells (grownCap w (sLen+n) sCap e - (sLen+n))) e)) (r_:=i.size) (M.append N) (by simp[r,s]) (e:=e)
  (λj y m=>by
   have o:j<(olds++ys).length:=by
    rcases Gi j (olds++ys).length with h|h
    .exact h
    .rw[Gu h]at m;cases m
   rw[qcU (by simpa using o)];simpa using m) c_ rfl rfl rfl rfl
 refine⟨.value (.slice (some ⟨w.heap.size,0,none⟩) (sLen+n) (grownCap w (sLen+n) sCap e)),_,_,_,by simp[f],.inl rfl,?_,g.1,(El.refl g9.heap mu w).drew (w.drawn+1) (Nat.le_succ _) |>.trans g.2.1,g.2.2⟩;have:=VR.x3 (la:=y8) (id:=g9.heap.length) (off:=0) (len:=sLen+n) (cap:=grownCap w (sLen+n) sCap e) (cx:=0) (bL mu g9.heap.length ⟨w.heap.size,0,_,i.size⟩) (by rw[ER];exact Nat.le_of_eq k.symm) l (.inl rfl);exact this
def AE(h:SR C base la mu g9 a.tmps w)(hb:base<=w.heap.size){t xT ty:TP}{d:TypeDesc}{Q:Array TypeId}{s x:TK}{H':Tu}{v:TR}(h0:Q[0]?=some t)(h1:Q[1]?=some xT)(S:C.P.underlying xT=some d)(W:pO d=false)
  (m:gk C t (jw g9.tmps s) (jw g9.tmps x) g9.heap=some (H',v)):HG C base mu g9.heap w (do pure (.value (←Builtin.append_ Q ty #[a.eval s,a.eval x]))) H' v:=by
 have hs:=aK h s;have a8:=aK h x;unfold gk at m;split at m
 next b1 Y=>
  split at m
  .cases m
  next f X=>
   split at m
   .cases m
   next b2=>
    split at m
    .cases m
    next b0=>
     obtain⟨z,bP⟩ : ∃z,lR f=some z:=by
      cases a9:lR f with
      |none=>simp[a9]at b0
      |some z=>exact⟨z,rfl⟩
     obtain⟨hz,a3,_,_⟩:=oK bP;split at m
     .cases m
     next L n a4=>
      obtain⟨ys,T,c2,c3,c4,c5⟩:=kL h.wr a8 a4 n w rfl;obtain⟨b8,b3,av,ax,ay,bk⟩:=kL h.wr a8 a4 n w.drew rfl;have F:=c5 (A9 _);have N:=bk (A9 _);rw[Ik a_]at F N;split at m
      · -- nil
       rename_i a0
       rw[a0]at hs;have K:=cL (a:=.slice none 0 0) rfl hs;rw[K];split at m
       next G=>
        cases m;subst G;have g:=bZ (ty:=ty) (b:=none) (sLen:=0) (sCap:=0) h0 h1 Y S W X T F a_;exact⟨.value (.slice none 0 0),_,w,mu,by simpa using congrArg (λr:Result Value=>r.andThen λv w=>.ok (Next.value v) w) g,.inl rfl,.scalar rfl,h.wr,.refl _ _ _,h.wr.obj⟩
       next G=>
        split at m
        next y=>
         cases m;have:=wU (ty:=ty) (b:=none) (sLen:=0) (sCap:=0) (old:=[]) (olds:=[]) h.wr hb h0 h1 Y S W X hz a3 T N (by simp[Builtin.firstCells]) a_ (by simpa using y) .nil ax c_ av rfl ay;simpa using this
        .cases m
      next u len cx a0=>
       rw[a0]at hs;split at m
       .cases m
       next H=>
        simp only[ne_eq,Classical.not_not]at H;split at m
        next vs e0 b7 i'=>
         split at m
         .cases m
         next a5=>
          simp only[ne_eq,Classical.not_not]at a5;subst a5;split at m
          .cases m
          next old E=>
           obtain⟨q,hq,hr⟩:=h.wr.obj _ _ i' rfl;obtain⟨o1,o2,o3,c,e,fr,o4,o5,o6,o7⟩:=hr;have K:(∃cap,a.eval s = .slice (some ⟨q.b,q.o+u.off,none⟩) len cap/\u.off+cap*f.size<=q.room/\len<=cap/\(cx=0∨cx=cap+1))∨(∃Z,a.eval s = .slice (some Z) 0 0/\len=0/\cx<=1):=by
            clear m;generalize a.eval s=sv at hs;cases hs with
            |scalar h=>simp[Am.scalar]at h
            | @x3 _ _ _ cap _ p hm hr hl a2=>
             obtain rfl:p=q:=by rw[hm]at hq;exact D' hq
             rw[o1]at hr;exact .inl ⟨cap,rfl,hr,hl,a2⟩
            |u_ a2=>exact .inr ⟨_,rfl,rfl,a2⟩
            |Cu hl S=>simp[le]at H
            |y9 S=>simp[le]at H
           have M:∀A,(∃b,a.eval s = .slice b len A/\(b=some ⟨q.b,q.o+u.off,none⟩∨len=0))->A<len+n->bc (len+n) f.bytes=true->
             HG C base mu g9.heap w (do pure (.value (←Builtin.append_ Q ty #[a.eval s,a.eval x]))) (g9.heap++[.cells (old++L) f.size true]) (.slice (some ⟨g9.heap.length,0,le f.size⟩) (len+n) 0):=by
            rintro A ⟨b,l,bn⟩ R y;rw[l];rcases bn with rfl|rfl
            .obtain⟨os,g1,g2,g3,_⟩:=Wc (C:=C) (sCap:=A) o7 E o4 w.drew rfl;exact wU (ty:=ty) h.wr hb h0 h1 Y S W X hz a3 T N g3 R y g2 ax g1 av (wa E o3) ay
            .have ho:old=[]:=by
              have:=(qV E).1;simp at this;exact this
             subst ho;exact wU (ty:=ty) (olds:=[]) h.wr hb h0 h1 Y S W X hz a3 T N (by cases b<;>simp[Builtin.firstCells,loadCells,loadCellsFrom]) R y .nil ax c_ av rfl ay
           split at m
           · -- the capacity is not known
            split at m
            next G=>
             cases m;subst G;have I:ys=[]:=by have:=c2;simp at this;exact this
             subst I;rcases K with⟨cap,l,B,ag,_⟩|⟨Z,l,rfl,_⟩
             .have g:=bZ (ty:=ty) (b:=some ⟨q.b,q.o+u.off,none⟩) (sLen:=len) (sCap:=cap) h0 h1 Y S W X T F a_;refine⟨.value (a.eval s),a.eval s,w,mu,?_,.inl rfl,(fK (by simp[bi,H,le]) hs),h.wr,.refl _ _ _,h.wr.obj⟩;rw[l];simp[g,storeCells]
             .have g:=bZ (ty:=ty) (b:=some Z) (sLen:=0) (sCap:=0) h0 h1 Y S W X T F a_;refine⟨.value (a.eval s),a.eval s,w,mu,?_,.inl rfl,(fK (by simp[bi,H,le]) hs),h.wr,.refl _ _ _,h.wr.obj⟩;rw[l];simp[g,storeCells]
            next G=>
             split at m
             next y=>
              cases m;simp only[vd]at y;obtain⟨aE,y⟩:=y;subst aE;obtain rfl:=o6 rfl;have O:u.block<g9.heap.length:=by
               rcases Gi u.block g9.heap.length with h|h
               .exact h
               .rw[Gu h]at i';cases i'
              have an:HG C base mu g9.heap w (do pure (.value (←Builtin.append_ Q ty #[a.eval s,a.eval x]))) (g9.heap++[.cells (old++L) f.size true]) (.slice (some ⟨g9.heap.length,0,le f.size⟩) (len+n) 0)->
                HG C base mu g9.heap w (do pure (.value (←Builtin.append_ Q ty #[a.eval s,a.eval x]))) (g9.heap.set u.block .dead++[.cells (old++L) f.size true]) (.slice (some ⟨g9.heap.length,0,le f.size⟩) (len+n) 0):=by
               rintro⟨nx,v',w',bb,g1,g2,g3,g4,g5,g6⟩;have a6:bb u.block=some q:=by rw[g5.same _ O];exact hq
               have ap:(g9.heap++[.cells (old++L) f.size true])[u.block]?=some (.cells vs f.size true):=by rw[Fe O];exact i'
               have R:=g4.lt ap rfl a6;obtain⟨x0,bC⟩ : ∃x0,w'.heap[q.b]?=some x0:=⟨w'.heap[q.b],by simp[R]⟩;have a1:w'.heap.setIfInBounds q.b x0=w'.heap:=by
                apply qcW;intro k;by_cases hk:k=q.b
                .subst hk;rw[bC];simp[R]
                .rw[r1 (CY hk)]
               obtain⟨k1,k2⟩:=g4.set ap rfl a6 (w':=w') (x:=x0) a1.symm rfl rfl rfl .dead (λh=>by cases h) trivial;rw[qcN _ _ O]at k1 k2;refine⟨nx,v',w',bb,g1,g2,g3,k1,g5.trans k2,λj oj hj ha=>?_⟩;rw[←qcN _ _ O]at hj;rcases Cs hj with⟨_,hj⟩|⟨_,_,rfl⟩
               .exact g6 j oj hj ha
               .cases ha
              rcases K with⟨cap,l,B,ag,_⟩|⟨Z,l,rfl,_⟩
              .by_cases J:len+n<=cap
               · -- in place
                have bm:q.o+u.off+len*f.size+ys.length<=c.size:=by
                 have:(len+n)*f.size<=cap*f.size:=Q9 _ J;rw[Js]at this;omega
                have al:=dQ (C:=C) (at_:=q.o+u.off+len*f.size) (ys:=ys) o4 bm (gU c3 c4);have g:=bZ (ty:=ty) (b:=some ⟨q.b,q.o+u.off,none⟩) (sLen:=len) (sCap:=cap) h0 h1 Y S W X T F J;simp only[bV]at g;rw[al]at g;have hM:=h.wr.move i' rfl hq (w':=w.setRow q.b (A1 c (q.o+u.off+len*f.size) ys)) (jN o4) rfl rfl rfl (.cells (old++L) f.size true) ⟨q.b,q.o+u.off,q.room - u.off,f.size⟩ rfl (by
                 have b6:=qV E;have b5:=c3.1;refine⟨rfl,by simp only[Gv];omega,by simp[wa E o3,c4],_,e,_,rfl,by rw[gW a_];simp only;omega,λ_=>rfl,λi v hv=>?_⟩;obtain⟨os,k1,k2,k3⟩:=cD.cut o7 E;simp only;rw[nr a_];by_cases bs:i<old.length
                 .rw[Fe bs]at hv;obtain⟨v',m1,m2⟩:=k2.get hv;rw[te a_];exact⟨v',k3 i v' m1,m2⟩
                 .rw[GV a_]at hv;obtain⟨v',m1,m2⟩:=c3.get hv;have b4:i - old.length<ys.length:=by
                   rcases Gi (i - old.length) ys.length with h|h
                   .exact h
                   .rw[Gu h]at m1;cases m1
                  rw[rv a_];exact⟨v',by rw[show q.o+u.off+i - (q.o+u.off+len*f.size)=i - old.length by omega];exact m1,m2⟩) (λ_=>rfl)
                refine⟨.value (.slice (some ⟨q.b,q.o+u.off,none⟩) (len+n) cap),_,_,_,by rw[l];simp[g],.inl rfl,?_,hM.1,hM.2.1,hM.2.2⟩;have:=VR.x3 (la:=y8) (id:=g9.heap.length) (off:=0) (len:=len+n) (cap:=cap) (cx:=0) (bL mu g9.heap.length ⟨q.b,q.o+u.off,q.room - u.off,f.size⟩) (by simp only;omega) J (.inl rfl);simpa using this
               .exact an (M cap ⟨_,l,.inl rfl⟩ a_ y)
              .exact an (M 0 ⟨_,l,.inr rfl⟩ a_ y)
             .cases m
           · -- the capacity is known
            rename_i A
            split at m
            next J=>
             split at m
             next aE=>
              subst aE;obtain rfl:=o6 rfl;cases D:s_ vs (u.off+len*f.size) L with
              |none=>rw[D]at m;cases m
              |some bd=>
               rw[D]at m;cases m;obtain⟨c',e',g1,g2,g3,g4⟩:=h.wr.s_ i' hq D c3 c4;obtain⟨rfl,rfl⟩ : c=c'/\e=e':=by
                rw[g1]at o4;simp only[FU,Obj.cells.injEq]at o4;exact⟨o4.1.symm,o4.2.1.symm⟩
               rcases K with⟨cap,l,B,ag,V⟩|⟨Z,l,rfl,V⟩
               .have U:cap=A:=a_;subst U;have al:=dQ (C:=C) (at_:=q.o+(u.off+len*f.size)) (ys:=ys) g1 g2 (gU c3 c4);have g:=bZ (ty:=ty) (b:=some ⟨q.b,q.o+u.off,none⟩) (sLen:=len) (sCap:=cap) h0 h1 Y S W X T F J;simp only[bV,Q6]at g al;rw[al]at g;refine⟨.value (.slice (some ⟨q.b,q.o+u.off,none⟩) (len+n) cap),_,_,mu,by rw[l];simp[g],.inl rfl,?_,g3,g4,g3.obj⟩;obtain⟨bl,of,sp⟩:=u;simp only at H;subst H;rw[←o1];exact .x3 hq (by rw[o1];exact B) J (.inr rfl)
               .have U:A=0:=a_;subst U;have G:n=0:=a_;subst G;have I:ys=[]:=by have:=c2;simp at this;exact this
                subst I;have bt:L=[]:=by have:=c3.1;simp at this;exact this
                subst bt;have g:=bZ (ty:=ty) (b:=some Z) (sLen:=0) (sCap:=0) h0 h1 Y S W X T F a_;have bx:bd=vs:=by
                 unfold Am.s_ at D;split at D
                 .cases D;simp
                 .cases D
                subst bx;have a7:g9.heap.set u.block (.cells bd f.size true)=g9.heap:=by
                 apply HA;intro k;rw[GS];split
                 .rename_i hk;subst hk
                  split
                  .rw[i']
                  next R=>rw[Gu a_]
                 .rfl
                rw[a7];refine⟨.value (a.eval s),a.eval s,w,mu,?_,.inl rfl,(fK (by simp[bi,H,le]) (by simpa using hs)),h.wr,.refl _ _ _,h.wr.obj⟩;rw[l];simp[g,storeCells]
             .split at m
              next G=>
               cases m;subst G;have I:ys=[]:=by have:=c2;simp at this;exact this
               subst I;refine⟨.value (a.eval s),a.eval s,w,mu,?_,.inl rfl,(fK (by simp[bi,H,le]) (by simpa using hs)),h.wr,.refl _ _ _,h.wr.obj⟩;rcases K with⟨cap,l,B,ag,V⟩|⟨Z,l,rfl,V⟩
               .have g:=bZ (ty:=ty) (b:=some ⟨q.b,q.o+u.off,none⟩) (sLen:=len) (sCap:=cap) h0 h1 Y S W X T F a_;rw[l];simp[g,storeCells]
               .have g:=bZ (ty:=ty) (b:=some Z) (sLen:=0) (sCap:=0) h0 h1 Y S W X T F a_;rw[l];simp[g,storeCells]
              .cases m
            next J=>
             split at m
             next y=>
              cases m;rcases K with⟨cap,l,B,ag,V⟩|⟨Z,l,rfl,V⟩
              .exact M cap ⟨_,l,.inl rfl⟩ a_ y
              .exact M 0 ⟨_,l,.inr rfl⟩ a_ y
             .cases m
        .cases m
      .cases m
 .cases m
end
end
section
variable [Co] [Dw]
section
variable {C:m'} {base:Nat} {la:q_} {mu:ke} {g9:St} {a:Act} {w:TS}
def OQ(h:SR C base la mu g9 a.tmps w){t ty:TP}{b:Array TypeId}{d x:TK}{H':Tu}{v:TR}(h0:b[0]?=some t)
  (c:HP C t (jw g9.tmps d) (jw g9.tmps x) g9.heap=some (H',v)):HG C base mu g9.heap w (do pure (.value (←Builtin.copy_ b ty #[a.eval d,a.eval x]))) H' v:=by
 cases c
def Ml(h:SR C base la mu g9 a.tmps w){t ty:TP}{b:Array TypeId}{x:TK}{H':Tu}{v:TR}(h0:b[0]?=some t)
  (c:uG C t (jw g9.tmps x) g9.heap=some (H',v)):HG C base mu g9.heap w (do pure (.value (←Builtin.clear_ b ty #[a.eval x]))) H' v:=by
 cases c
def qo(o:WR C base mu g9.heap w){t:TP}{e:Addr}{y v:TR}{g f i c b d:Tk}{H:Tu}(n:e.spot=some 1∨H=g9.heap)(j:lM C t e g f i H=some v)(h:VR la mu (.pointer (some e)) y)
  (l:Fx la mu g c) (k:Fx la mu f b) (m:Fx la mu i d):∃v',(Instr.sliceAt t y c b d).run C.P w = .ok v' w/\VR la mu v v':=by
 cases j
def oC{i7 c:Type}{P:TI}{x:Sem i7}{f:i7->Sem c}{b:c}(h:CH P (x >>= f)=some b):∃a,CH P x=some a/\CH P (f a)=some b:=by
 induction x with
 |pure a=>exact⟨a,rfl,h⟩
 |program k d=>exact d P h
 |_=>cases h
def iN{P:TI}{kt:TP}{k:TR}:∀(g c:Tj) (i:Nat) (r:Option (Nat×Value)),g.map (·.key)=c.map (·.key)->CH P (Instr.findAsking kt k g i)=some r->
  (∀w,(Instr.findAsking kt k c i).run P w = .ok (r.map λp=>(p.1,(c.getD (p.1 - i) default).val)) w)/\∀p,r=some p->i<=p.1/\p.1<i+g.length
 | [],c,i,r,d,h=>by
  have:c=[]:=by cases c<;>simp_all
  subst this;simp[Instr.findAsking,CH,Pure.pure]at h;subst h;exact⟨λw=>by simp[Instr.findAsking],λp j=>by cases j⟩
 |e :: g,c,i,r,d,h=>by
  cases c with
  |nil=>simp at d
  |cons f c=>
   simp only[DD,Hz]at d;unfold Instr.findAsking at h;obtain⟨b,n,l⟩:=oC h;cases b with
   |true=>
    simp[CH,Pure.pure]at l;subst l;refine⟨λw=>?_,λp j=>by cases j;simp⟩;have:=gV n w;rw[d.1]at this;simp[Instr.findAsking,this]
   |false=>
    simp only[D7,if_false]at l;obtain⟨q,m⟩:=iN g c (i+1) r d.2 l;refine⟨λw=>?_,λp j=>by have:=m p j;simp;omega⟩;have:=gV n w;rw[d.1]at this;have o:(Instr.findAsking kt k (f :: c) i).run P w=(Instr.findAsking kt k c (i+1)).run P w:=by
     simp[Instr.findAsking,this]
    rw[o,q w];cases r with
    |none=>rfl
    |some p=>
     have:=(m p rfl).1;simp only[EO];rw[show p.1 - i=(p.1 - (i+1))+1 by omega];rfl
def iO{kind:TypeDesc}{k:TR}:∀(d c:Tj) (i:Nat),d.map (·.key)=c.map (·.key)->
  Instr.findNow kind k c i=(Instr.findNow kind k d i).map λr=>r.map λp=>(p.1,(c.getD (p.1 - i) default).val)
 | [],c,i,g=>by
  have:c=[]:=by cases c<;>simp_all
  subst this;rfl
 |e :: d,c,i,g=>by
  cases c with
  |nil=>simp at g
  |cons f c=>
   simp only[DD,Hz]at g;unfold Instr.findNow;rw[g.1];cases q:Instr.sameNow kind k f.key with
   |none=>rfl
   |some b=>
    cases b with
    |true=>simp
    |false=>
     simp only;rw[iO d c (i+1) g.2];have m:∀(l:Tj) (j:Nat) (p:Nat×Value),Instr.findNow kind k l j=some (some p)->j<=p.1:=by
      intro l
      induction l with
      |nil=>intro j p h;simp[Instr.findNow]at h
      |cons x l o=>
       intro j p h;unfold Instr.findNow at h;split at h
       .cases h;exact A9 _
       .have:=o (j+1) p h;omega
       .cases h
     cases n:Instr.findNow kind k d (i+1)with
     |none=>rfl
     |some r=>
      cases r with
      |none=>rfl
      |some p=>
       have:=m _ _ _ n;simp only[EO];rw[show p.1 - i=(p.1 - (i+1))+1 by omega];rfl
def qZ{kind:TypeDesc}{k:TR}:∀(b:Tj) (i:Nat) (p:Nat×Value),Instr.findNow kind k b i=some (some p)->i<=p.1/\p.1<i+b.length
 | [],i,p,h=>by simp[Instr.findNow]at h
 |e :: b,i,p,h=>by
  unfold Instr.findNow at h;split at h
  .cases h;simp
  .have:=qZ b (i+1) p h;simp;omega
  .cases h
def od{kt:TP}{k:TR}{c:Tj}{e:Tj}{r:Ts}(u:c.map (·.key)=e.map (·.key))(h:sY C.P kt k c=some r) :
  (∀w,(Instr.findKey kt k e).run C.P w = .ok (r.map λi=>(i,(e.getD i default).val)) w)/\∀i,r=some i->i<c.length:=by
 unfold sY at h;have f:(c.map bD).map (·.key)=e.map (·.key):=by rw[Q8,←u];rfl
 cases m:CH C.P (Instr.findKey kt k (c.map bD))with
 |none=>rw[m]at h;cases h
 |some n=>
  rw[m]at h;cases h;unfold Instr.findKey at m;obtain⟨d,o,g⟩:=oC m;cases l:Instr.findNow d k (c.map bD) 0 with
  |none=>
   rw[l]at g;simp only at g;obtain⟨s,t⟩:=iN (c.map bD) e 0 n f g;refine⟨λw=>?_,λi j=>?_⟩
   .have b:=iO (kind:=d) (k:=k) (c.map bD) e 0 f;rw[l]at b;simp only[Instr.findKey,Sem.run_bind,gV o w,Result.andThen_ok,b,Option.map_none,s w];cases n<;>simp
   .cases n with
    |none=>cases j
    |some p=>
     cases j;have:=(t p rfl).2;simpa using this
  |some q=>
   rw[l]at g;simp[CH,Pure.pure]at g;subst g;refine⟨λw=>?_,λi j=>?_⟩
   .have b:=iO (kind:=d) (k:=k) (c.map bD) e 0 f;rw[l]at b;simp only[Instr.findKey,Sem.run_bind,gV o w,Result.andThen_ok,b,EO,Sem.run_pure];cases q<;>simp
   .cases q with
    |none=>cases j
    |some p=>
     cases j;have:=(qZ _ _ _ l).2;simpa using this
def wX(m:WR C base mu g9.heap w){id:Nat}{f:Tj}{c:Nat}(h:Dy g9.heap id=some (f,c)){p:Pl}(k:mu id=some p) :
  ∃d,w.heap[p.b]?=some (.map d c)/\d.size=f.length/\∀(i:Nat) e,f[i]?=some e->∃e',d[i]?=some e'/\gc mu e e':=by
 unfold Dy at h;split at h
 next j n i'=>
  cases h;obtain⟨q,g,l⟩:=m.obj id _ i' rfl;obtain rfl:p=q:=by rw[k]at g;exact D' g
  exact l
 .cases h
def Px{id:Nat}{b:Tj}{c:Nat}(h:Dy g9.heap id=some (b,c)):g9.heap[id]?=some (.map b c):=by
 unfold Dy at h;split at h
 next d e i'=>cases h;exact i'
 .cases h
def zo{c:Tj}{b:Array MapEntry}(j:b.size=c.length)(h:∀(i:Nat) e,c[i]?=some e->∃e',b[i]?=some e'/\gc mu e e'):c.map (·.key)=b.toList.map (·.key):=by
 apply HA;intro i;rw[Ew,Ew];cases d:c[i]? with
 |none=>
  have:b.toList[i]?=none:=by
   rw[List.getElem?_eq_none_iff]at d ⊢;simp only[Array.length_toList];omega
  rw[this,Option.map_none]
 |some e=>
  obtain⟨e',f,g⟩:=h i e d;rw[show b.toList[i]?=some e' by simpa using f];simp[g.1]
def eJ{kt:TP}{k:TR}(h:jC C.P kt k=true)(b:Bool)(w:TS):(Instr.checkKey b 10000 kt k).run C.P w = .ok () w:=by
 simp only[jC,vd]at h;cases b with
 |true=>
  obtain⟨u,c⟩:=xT.1 h.1.1.2;exact gV c w
 |false=>
  obtain⟨u,c⟩:=xT.1 h.1.2;exact gV c w
def nJ{kt:TP}{k:TR}(h:jC C.P kt k=true):∃d,C.P.underlying kt=some d:=by
 simp only[jC,vd]at h;obtain⟨u,i⟩:=xT.1 h.1.2;have b:CH C.P (Instr.checkKey false (9999+1) kt k)=some u:=i;unfold Instr.checkKey at b;obtain⟨d,c,_⟩:=oC b;cases g:C.P.underlying kt with
 |some d=>exact⟨d,rfl⟩
 |none=>
  unfold underlying at c;obtain⟨p,e,f⟩:=oC c;have:p=C.P:=by simp[CH,program]at e;exact e.symm
  subst this;rw[g]at f;cases f
def ji{kt:TP}{k:TR}(h:jC C.P kt k=true):gl k=true:=by
 simp only[jC,vd]at h;exact h.1.1.1
def cv{r:Nat}{b:Array MapEntry}{c:Nat}(h:w.heap[r]?=some (.map b c)):(getObj r).run C.P w = .ok (.map b c) w:=by
 simp[getObj,Sem.run,h]
def jM{r:Nat}{b:Array MapEntry}{c:Nat}{o:Obj}(h:w.heap[r]?=some (.map b c)):(setObj r o).run C.P w = .ok () { w with heap:=w.heap.setIfInBounds r o }:=by
 simp[setObj,Sem.run,h]
def VR.He{id:Nat}{c:TR}(h:VR la mu (.map (some id)) c):∃p,mu id=some p/\c = .map (some p.b):=by
 cases h with
 |scalar h=>simp[Am.scalar]at h
 |map h=>exact⟨_,h,rfl⟩
def AB{t:TP}{z:TR}(h:eU C.P t=some z)(w:TS):(zeroValue t).run C.P w = .ok z w:=by
 obtain⟨i,b,c,_⟩:=kz h;simp[zeroValue,typeInfo,b,c]
def ry(Q:WR C base mu g9.heap w){t:TP}{m J k I v:TR}{ok:Bool}{H:Tu}(M:m = .map none∨H=g9.heap)(F:VR la mu m J)(N:VR la mu k I)(d:dL C t m k ok H=some v) :
  ∃v',(Instr.lookup t J I ok).run C.P w = .ok v' w/\VR la mu v v':=by
 unfold dL at d;split at d
 next T S j=>
  split at d
  .cases d
  next b=>
   simp only[Gj,b3]at b;obtain rfl:=og (ji b) N;split at d
   .cases d
   next z G=>
    have h:=AB G w;have g:=(qw G).2.1;obtain⟨R,o⟩:=nJ b;split at d
    .obtain rfl:=cL (a:=.map none) rfl F;cases d;cases ok with
     |true=>
      refine⟨.tuple #[z,.bool false],?_,u9.tuple (.cons (.of_flat g) (.cons (.scalar rfl) .nil))⟩;simp[Instr.lookup,run_underlying j,eJ b,Instr.findKey,run_underlying o,Instr.findNow,h]
     |false=>
      refine⟨z,?_,.of_flat g⟩;simp[Instr.lookup,run_underlying j,eJ b,Instr.findKey,run_underlying o,Instr.findNow,h]
    next id=>
     have y:H=g9.heap:=M.resolve_left c_;subst y;obtain⟨p,O,rfl⟩:=F.He;split at d
     .cases d
     next x c Dy=>
      obtain⟨l,u,K,D⟩:=wX Q Dy O;have f:=zo K D;split at d
      .cases d
      next e=>
       obtain⟨n,B⟩:=od (C:=C) f e;cases d;cases ok with
       |true=>
        refine⟨.tuple #[z,.bool false],?_,u9.tuple (.cons (.of_flat g) (.cons (.scalar rfl) .nil))⟩;simp[Instr.lookup,run_underlying j,cv u,eJ b,n w,h]
       |false=>
        refine⟨z,?_,.of_flat g⟩;simp[Instr.lookup,run_underlying j,cv u,eJ b,n w,h]
      next i e=>
       obtain⟨n,B⟩:=od (C:=C) f e;have r:=B i rfl;obtain⟨s,L,E⟩:=D i x[i] (by simp[r]);have q:(l.toList.getD i default).val=s.val:=by
        rw[List.getD,show l.toList[i]?=some s by simpa using L];rfl
       have A:em x i=some x[i].val:=by simp[em,r]
       rw[A]at d;cases d;cases ok with
       |true=>
        refine⟨.tuple #[s.val,.bool true],?_,u9.tuple (.cons E.2.2.2.up (.cons (.scalar rfl) .nil))⟩;simp[Instr.lookup,run_underlying j,cv u,eJ b,n w,-List.getD_eq_getElem?_getD,q]
       |false=>
        refine⟨s.val,?_,E.2.2.2.up⟩;simp[Instr.lookup,run_underlying j,cv u,eJ b,n w,-List.getD_eq_getElem?_getD,q]
    .cases d
 .cases d
def WR.Ru(m:WR C base mu g9.heap w){id:Nat}{g f:Tj}{c c1:Nat}{p:Pl}{d:Array MapEntry}(h:Dy g9.heap id=some (g,c))(j:mu id=some p)
  (l:d.size=f.length) (k:∀(i:Nat) e,f[i]?=some e->∃e',d[i]?=some e'/\gc mu e e') :
  WR C base mu (g9.heap.set id (.map f c1)) { w with heap:=w.heap.setIfInBounds p.b (.map d c1) }/\El g9.heap mu w (g9.heap.set id (.map f c1)) mu { w with heap:=w.heap.setIfInBounds p.b (.map d c1) }:=
 m.set (w':={ w with heap:=w.heap.setIfInBounds p.b (.map d c1) }) (x:=.map d c1) (Px h) rfl j rfl rfl rfl rfl (.map f c1) (λ_=>rfl) ⟨d,rfl,l,k⟩
def uR{c:Tj}{b:Array MapEntry}{e e':MapEntry}(f:b.size=c.length)(k:∀(i:Nat) e,c[i]?=some e->∃e',b[i]?=some e'/\gc mu e e')(j:gc mu e e') :
  (b.push e').size=(c++[e]).length/\∀(i:Nat) x,(c++[e])[i]?=some x->∃x',(b.push e')[i]?=some x'/\gc mu x x':=by
 refine⟨by simp[f],λi x d=>?_⟩;rcases aI d with⟨l,d⟩|⟨rfl,rfl⟩
 .obtain⟨x',g,h⟩:=k i x d;exact⟨x',by rw[b4,te a_];exact g,h⟩
 .exact⟨e',by rw[b4,rv f.symm],j⟩
def qF{c:Tj}{b:Array MapEntry}{j:Nat}{f f':MapEntry->MapEntry}(n:b.size=c.length)(m:∀(i:Nat) e,c[i]?=some e->∃e',b[i]?=some e'/\gc mu e e')
  (l:∀e e',c[j]?=some e->gc mu e e'->gc mu (f e) (f' e')) :
  (b.modify j f').size=(c.modify j f).length/\∀(i:Nat) x,(c.modify j f)[i]?=some x->∃x',(b.modify j f')[i]?=some x'/\gc mu x x':=by
 refine⟨by simp[n],λi x d=>?_⟩;rw[List.getElem?_modify]at d;cases g:c[i]? with
 |none=>rw[g]at d;cases d
 |some e=>
  rw[g]at d;obtain⟨e',o,k⟩:=m i e g;simp only[Option.map_eq_map,EO,FU]at d;refine⟨if j=i then f' e' else e',by rw[Array.getElem?_modify];split<;>simp_all,?_⟩;subst d;split
  next h=>subst h;exact l e e' g k
  .exact k
end
end
section
variable [Co] [Dw]
section
variable {C:m'} {base:Nat} {la:q_} {mu:ke} {g9:St} {a:Act} {w:TS}
def yY{s:Sem Unit}{w':TS}{H':Tu}(h:s.run C.P w = .ok () w')(b:WR C base mu H' w')(c:El g9.heap mu w H' mu w'):HG C base mu g9.heap w (do s;pure .skip) H' undef:=
 ⟨.skip,undef,w',mu,by simp[h],.inr ⟨rfl,rfl⟩,.undef,b,c,b.obj⟩
def lm(h:SR C base la mu g9 a.tmps w){t:TP}{m k x:TK}{H':Tu}{v:TR}(d:cI C t (jw g9.tmps m) (jw g9.tmps k) (jw g9.tmps x) g9.heap=some (H',v)) :
  HG C base mu g9.heap w (do Instr.mapUpdate t (a.eval m) (a.eval k) (a.eval x);pure .skip) H' v:=by
 have M:=aK h m;have T:=aK h k;have U:=aK h x;unfold cI at d;split at d
 next W V id N B=>
  rw[B]at M;obtain⟨p,E,q⟩:=M.He;split at d
  .cases d
  next L=>
   simp only[Gj,b3,vd]at L;obtain⟨⟨l,D⟩,_⟩:=L;have n:=og (ji l) T;have s:=ft D U;split at d
   .cases d
   next O c Dy=>
    obtain⟨P,u,A,y⟩:=wX h.wr Dy E;have g:=zo A y;split at d
    .cases d
    next b=>
     obtain⟨z,K⟩:=od (C:=C) g b;cases d;obtain⟨I,J⟩:=uR (e:={ key:=jw g9.tmps k,val:=jw g9.tmps x,born:=c }) (e':={ key:=jw g9.tmps k,val:=a.eval x,born:=c }) A y ⟨rfl,ji l,rfl,s⟩;obtain⟨G,H⟩:=h.wr.Ru (c1:=c+1) Dy E I J;refine yY ?_ G H;rw[q,n];simp[Instr.mapUpdate,run_underlying N,cv u,eJ l,z w,jM u]
    next i b=>
     obtain⟨z,K⟩:=od (C:=C) g b;have o:=K i rfl;split at d
     next F=>
      cases d;obtain⟨e',Q,R⟩:=y i O[i] (by simp[o]);obtain⟨I,J⟩:=qF (j:=i) (f:=λe=>{ e with key:=jw g9.tmps k,val:=jw g9.tmps x }) (f':=λe=>{ e with key:=jw g9.tmps k,val:=a.eval x }) A y (λe e' _ S=>⟨rfl,ji l,S.2.2.1,s⟩);obtain⟨G,H⟩:=h.wr.Ru (c1:=c) Dy E I J;refine yY ?_ G H;have r:Instr.sameBits 10000 e'.key (jw g9.tmps k)=true:=by
       rw[R.1];simpa[o]using F
      rw[q,n];simp[Instr.mapUpdate,run_underlying N,cv u,eJ l,z w,Q,Instr.keyThatStays,r,jM u]
     .cases d
 .cases d
def vH(h:SR C base la mu g9 a.tmps w){t:TP}{m k:TK}{H':Tu}{v:TR}(b:iS C t (jw g9.tmps m) (jw g9.tmps k) g9.heap=some (H',v)) :
  HG C base mu g9.heap w (do pure (.value (←Instr.mapEntry t (a.eval m) (a.eval k)))) H' v:=by
 cases b
def qG(h:SR C base la mu g9 a.tmps w){t:TP}{m s x:TK}{H':Tu}{v:TR}(b:fE (jw g9.tmps m) (jw g9.tmps s) (jw g9.tmps x) g9.heap=some (H',v)) :
  HG C base mu g9.heap w (do Instr.entryStore t (a.eval m) (a.eval s) (a.eval x);pure .skip) H' v:=by
 cases b
def AP(h:SR C base la mu g9 a.tmps w){t ty:TP}{b:Array TypeId}{m k:TK}{H':Tu}{v:TR}(h0:b[0]?=some t)
  (c:oZ C t (jw g9.tmps m) (jw g9.tmps k) g9.heap=some (H',v)):HG C base mu g9.heap w (do pure (.value (←Builtin.delete_ b ty #[a.eval m,a.eval k]))) H' v:=by
 cases c
def mh(h:SR C base la mu g9 a.tmps w)(m:base<=w.heap.size){t:TP}{r:Th}
  (j:pJ C t (r.map (jw g9.tmps))=true) :
  HG C base mu g9.heap w (do pure (.value (←Instr.makeMap t (r.map a.eval)))) (g9.heap++[.map [] 0]) (.map (some g9.heap.length)):=by
 have f:=h.wr.new m (w':=w.alloc (.map #[] 0)) (x:=.map #[] 0) rfl rfl rfl rfl (.map [] 0) ⟨w.heap.size,0,0,0⟩ rfl ⟨#[],rfl,rfl,λi e h=>by simp at h⟩ (λ_=>rfl);refine⟨.value (.map (some w.heap.size)),_,_,_,?_,.inl rfl,.map (bL _ _ _),f.1,f.2.1,f.2.2⟩;cases r with
 |none=>simp[Instr.makeMap]
 |some x=>
  simp only[pJ,EO,vd]at j;obtain⟨n,g⟩:=xT.1 j.1;obtain⟨k,o⟩:=kX g (aK h x);have b:∃d c,C.P.underlying t=some (.map d c):=by
   have l:=j.2;split at l
   next d c b=>exact⟨d,c,b⟩
   .cases l
  obtain⟨d,c,b⟩:=b;simp[Instr.makeMap,run_underlying b,o,asInt,asIntOf]
end
end
section
variable [Co] [Dw]
section
variable {C:m'} {base:Nat} {la:q_} {mu:ke} {g9:St} {a:Act} {w:TS}
def rE{v c:TR}{b:Bool}(d:be v=some b)(h:VR la mu v c):be c=some b/\dw c=dw v:=by
 cases h with
 |w9 c=>simp[be]at d
 |LP _=>simp[be]at d
 |scalar h=>exact⟨d,rfl⟩
 |agg _ _=>simp[be]at d
 |tuple _ _=>simp[be]at d
 |func _ _ _ _ _=>simp[be]at d ⊢;exact⟨d,rfl⟩
 |yield h=>simp[be]at d ⊢;exact⟨d,rfl⟩
 |Es h=>simp[be]at d ⊢;exact⟨d,rfl⟩
 |DM h=>simp[be]at d ⊢;exact⟨d,rfl⟩
 |DV=>simp[be]at d ⊢;exact⟨d,rfl⟩
 |x3 h g f e=>simp[be]at d ⊢;exact⟨d,rfl⟩
 |u_ e=>simp[be]at d ⊢;exact⟨d,rfl⟩
 |Cu f e=>simp[be]at d ⊢;exact⟨d,rfl⟩
 |y9 e=>simp[be]at d ⊢;exact⟨d,rfl⟩
 |map h=>simp[be]at d ⊢;exact⟨d,rfl⟩
def fJ{x y:TR}{b:Bool}(h:mi x y=some b):∃d c,be x=some d/\be y=some c/\((d=true/\b=c)∨(c=true/\b=d)):=by
 unfold mi at h;split at h
 next g e f=>cases h;exact⟨true,b,e,f,.inl ⟨rfl,rfl⟩⟩
 next g _ e f=>cases h;exact⟨b,true,e,f,.inr ⟨rfl,rfl⟩⟩
 .cases h
def lu{v:TR}{b:Bool}(h:be v=some b)(e:dw v=1):(b=true/\v = .slice none 0 0)∨(b=false/\∃d n c,v = .slice (some d) n c):=by
 unfold be at h;split at h<;>first|(simp[dw]at e;done)|(cases h;exact .inl ⟨rfl,rfl⟩)|(cases h;exact .inr ⟨rfl,_,_,_,rfl⟩)|cases h
def pV{v:TR}{b:Bool}(h:be v=some b)(c:dw v=2):(b=true/\v = .map none)∨(b=false/\∃r,v = .map (some r)):=by
 unfold be at h;split at h<;>first|(simp[dw]at c;done)|(cases h;exact .inl ⟨rfl,rfl⟩)|(cases h;exact .inr ⟨rfl,_,rfl⟩)|cases h
def nm{v:TR}{b:Bool}(h:be v=some b)(c:dw v=3):(b=true/\v = .nilFunc)∨(b=false/\∃f x y,v = .func f x y):=by
 unfold be at h;split at h<;>first|(simp[dw]at c;done)|(cases h;exact .inl ⟨rfl,rfl⟩)|(cases h;exact .inr ⟨rfl,_,_,_,rfl⟩)|cases h
def pW{v:TR}{b:Bool}(h:be v=some b)(c:dw v=4):(b=true/\v = .pointer none)∨(b=false/\∃r,v = .pointer (some r)):=by
 unfold be at h;split at h<;>first|(simp[dw]at c;done)|(cases h;exact .inl ⟨rfl,rfl⟩)|(cases h;exact .inr ⟨rfl,_,rfl⟩)|cases h
def we{t:TP}{x y:TR}{b:Bool}(s:mi x y=some b)(j:tH C.P t x y=true):(Op.equal t x y).run C.P w = .ok b w:=by
 obtain⟨z,n,l,m,g⟩:=fJ s;unfold tH at j;split at j
 next d q=>
  simp only[vd,beq_iff_eq]at j;obtain⟨c,f⟩:=j;have u:=run_underlying q w;have o:Op.equal t x y=Op.equalIn (9999+1) t x y:=rfl;rw[o];unfold Op.equalIn;rw[Sem.run_bind,u,Result.andThen_ok];cases d with
  |slice e=>
   have h:=lu l (by rw[←c];rfl);have i:=lu m (by rw[←f];rfl);rcases h with⟨rfl,rfl⟩|⟨rfl,_,_,_,rfl⟩<;>rcases i with⟨rfl,rfl⟩|⟨rfl,_,_,_,rfl⟩<;>simp at g<;>subst g<;>rfl
  |map k e=>
   have h:=pV l (by rw[←c];rfl);have i:=pV m (by rw[←f];rfl);rcases h with⟨rfl,rfl⟩|⟨rfl,_,rfl⟩<;>rcases i with⟨rfl,rfl⟩|⟨rfl,_,rfl⟩<;>simp at g<;>subst g<;>rfl
  |func p r v=>
   have h:=nm l (by rw[←c];rfl);have i:=nm m (by rw[←f];rfl);rcases h with⟨rfl,rfl⟩|⟨rfl,_,_,_,rfl⟩<;>rcases i with⟨rfl,rfl⟩|⟨rfl,_,_,_,rfl⟩<;>simp at g<;>subst g<;>rfl
  |pointer e=>
   have h:=pW l (by rw[←c];rfl);have i:=pW m (by rw[←f];rfl);rcases h with⟨rfl,rfl⟩|⟨rfl,_,rfl⟩<;>rcases i with⟨rfl,rfl⟩|⟨rfl,_,rfl⟩<;>simp at g<;>subst g<;>rfl
  |_=>
   simp only[mj]at c;cases x<;>simp[dw]at c
 .cases j
def zy{d e c1 c:TR}{b:Bool}{t:TP}(h1:VR la mu d c1)(k:VR la mu e c)(l:mi d e=some b)(f:tH C.P t d e=true):mi c1 c=some b/\tH C.P t c1 c=true:=by
 obtain⟨q,g,h,i,j⟩:=fJ l;obtain⟨m,n⟩:=rE h h1;obtain⟨o,p⟩:=rE i k;refine⟨?_,by unfold tH at f ⊢;rw[n,p];exact f⟩;unfold mi;rw[m,o];rcases j with⟨rfl,rfl⟩|⟨rfl,rfl⟩
 .rfl
 .cases b<;>rfl
def pw{d:BinOp}{t:TP}{x y:TK}{c1 c:TR}{b:Bool}(g:mi c1 c=some b):(eqGuard d t x y c1 c).run C.P w = .ok () w:=by
 obtain⟨h,e,f,i,j⟩:=fJ g;cases c1<;>(try (simp[be]at f;done))<;>cases d<;>rfl
def binOp_eql{t:TP}{c1 c:TR}{b:Bool}(g:mi c1 c=some b):binOp .eql t c1 c=(do pure (.bool (←Op.equal t c1 c))):=by
 obtain⟨h,d,e,f,i⟩:=fJ g;cases c1<;>(try (simp[be]at e;done))<;>cases c<;>(try (simp[be]at f;done))<;>rfl
def binOp_neq{t:TP}{c1 c:TR}{b:Bool}(g:mi c1 c=some b):binOp .neq t c1 c=(do pure (.bool (!(←Op.equal t c1 c)))):=by
 obtain⟨h,d,e,f,i⟩:=fJ g;cases c1<;>(try (simp[be]at e;done))<;>cases c<;>(try (simp[be]at f;done))<;>rfl
def VR.F8{g:TQ}{x y:Tl}{c:TR}(h:VR la mu (.func (.func g) x y) c):∃x' y',c = .func (.func g) x' y'/\u9 la mu x.toList x'.toList/\u9 la mu y.toList y'.toList:=by
 cases h with
 |scalar h=>simp[Am.scalar]at h
 |func _ j k e f=>
  exact⟨_,_,rfl,⟨by simpa using j,λi u v b d=>e i u v (by simpa using b) (by simpa using d)⟩,⟨by simpa using k,λi u v b d=>f i u v (by simpa using b) (by simpa using d)⟩⟩
def VR.GY{l:Nat}{x y:Tl}{c:TR}(h:VR la mu (.func (.yield l) x y) c):∃p,mu l=some p/\c = .func (.yield p.b) #[] #[]:=by
 cases h with
 |scalar h=>simp[Am.scalar]at h
 |func d _ _ _ _=>exact absurd rfl (d l)
 |yield h=>exact⟨_,h,rfl⟩
def VR.GX{b:Option Addr}{n cx:Nat}{c:TR}(h:VR la mu (.slice b n cx) c):∃a' cap,c = .slice a' n cap/\(∀m,b.isSome->cx=m+1->cap=m):=by
 cases h with
 |scalar h=>exact⟨_,_,rfl,λm g _=>by cases b with|none=>cases g|some a=>simp[Am.scalar]at h⟩
 |x3 h i f e=>exact⟨_,_,rfl,λm _ d=>a_⟩
 |u_ e=>exact⟨_,_,rfl,λm _ d=>a_⟩
 |Cu f e=>exact⟨_,_,rfl,λm _ d=>a_⟩
 |y9 e=>exact⟨_,_,rfl,λm _ d=>a_⟩
def Lg(h:SR C base la mu g9 a.tmps w)(c:Array (Nat×Operand))(f:∀p∈c.toList,aH (jw g9.tmps p.2)=false) :
  Zi la mu (c.toList.map λp=>(p.1,jw g9.tmps p.2)) (c.map λ(i,x)=>(i,a.eval x)).toList:=by
 rw[qdh];refine⟨c_,λi p q b d=>?_⟩;rw[Ew]at b d;cases e:c.toList[i]? with
 |none=>rw[e]at b;cases b
 |some x=>
  rw[e]at b d;cases b;cases d;exact⟨rfl,f x (Cf e),aK h x.2⟩
def ch{c:Call}{o:Oper}{b:Builtin}(e:o.op = .call c)(g:c.callee = .builtin b) :
  execOp a.eval o=builtin b c.argTypes o.type (c.args.map λ| .const _=>true|_=>false) (c.args.map a.eval):=by
 obtain⟨dst,h,f,pos,d,guard⟩:=o;simp only at e;subst e;simp only[execOp,resolve,g];rfl
def sz{c:Call}{s x:TR}(h:c.args.toList.map (jw g9.tmps)=[s,x]):∃xs xx,c.args = #[xs,xx]/\s=jw g9.tmps xs/\x=jw g9.tmps xx:=by
 obtain⟨l,b⟩ : ∃l,c.args=l.toArray:=⟨c.args.toList,c_⟩;rw[b]at h
 match l,h with
 | [u,v],h=>
  simp at h;exact⟨u,v,by rw[b],h.1.symm,h.2.symm⟩
def sy{c:Call}{s:TR}(h:c.args.toList.map (jw g9.tmps)=[s]):∃xs,c.args = #[xs]/\s=jw g9.tmps xs:=by
 obtain⟨l,b⟩ : ∃l,c.args=l.toArray:=⟨c.args.toList,c_⟩;rw[b]at h
 match l,h with
 | [u],h=>
  simp at h;exact⟨u,by rw[b],h.symm⟩
def nE{s:Sem Value}{v:TR}(h:∃v',s.run C.P w = .ok v' w/\VR la mu v v'):oM C base la mu g9 w (do pure (.value (←s))) (.val v):=by
 obtain⟨v',b,c⟩:=h;exact ig b c
def mF(h:SR C base la mu g9 a.tmps w){o:Oper}{e:DS}(d:∀cs b,o.op≠.select cs b)(c:cK C (jw g9.tmps) o=some e):oM C base la mu g9 w (execOp a.eval o) e:=by
 obtain⟨v,rfl,f⟩:=Bn h d c;exact f
def sD(h:SR C base la mu g9 a.tmps w)(hb:base<=w.heap.size){c:Call}{o:Oper}{b:Builtin}{e:DS}(z:o.op = .call c)(D:c.callee = .builtin b)
  (j:aX C (jw g9.tmps) b (c.args.toList.map (jw g9.tmps)) c.argTypes o=some e):oM C base la mu g9 w (execOp a.eval o) e:=by
 have F:∀U b,o.op≠.select U b:=by rw[z];intro U b h;cases h
 unfold aX at j;split at j
 next s x t f l=>
  obtain⟨G,xx,g,rfl,rfl⟩:=sz f;split at j
  .cases j
  next i=>
   cases j;simp only[Gk,not_or,Gj]at i;obtain⟨H,K⟩ : ∃H,c.argTypes[1]?=some H:=by
    cases B:c.argTypes[1]? with
    |none=>simp[B]at i
    |some H=>exact⟨H,rfl⟩
   rw[K]at i;have hd:∃d,C.P.underlying H=some d/\pO d=false:=by
    have E:=i.1;simp only[Option.any_some]at E;split at E
    .cases E
    .cases E
    next S T=>
     cases y:C.P.underlying H with
     |none=>exact absurd y T
     |some d=>
      refine⟨d,rfl,?_⟩;cases d<;>first|rfl|exact absurd y (S _)
   obtain⟨d,O,Q⟩:=hd;intro M v A;have:=AE (ty:=o.type) h hb l K O Q A;rw[ch z D,g];simpa[builtin]using this
 next x t f l=>
  obtain⟨G,g,rfl⟩:=sy f;have B:=aK h G;split at j
  next L X n V y u=>
   cases j;rw[u]at B;obtain⟨W,I,r,_⟩:=B.GX;rw[ch z D,g];exact⟨.int .i64 n,by simp[builtin,Builtin.len_,l,run_underlying y,r,goInt],.scalar rfl⟩
  next kt et id y u=>
   cases j;rw[u]at B;obtain⟨p,hp,r⟩:=B.He;intro v A;cases R:Dy g9.heap id with
   |none=>simp[R]at A
   |some q=>
    obtain⟨es,cl⟩:=q;simp only[R,EO,FU]at A;subst A;obtain⟨N,Y,Z,h3⟩:=wX h.wr R hp;rw[ch z D,g];refine⟨.int .i64 N.size,by simp[builtin,Builtin.len_,l,run_underlying y,r,cv Y,goInt],by rw[Z];exact .scalar rfl⟩
  next n L y=>
   cases j;rw[ch z D,g];exact⟨.int .i64 n,by simp[builtin,Builtin.len_,l,run_underlying y,goInt],.scalar rfl⟩
  .exact mF h F j
 next x t f l=>
  obtain⟨G,g,rfl⟩:=sy f;have B:=aK h G;split at j
  next L X n V y u=>
   cases j;rw[u]at B;obtain⟨W,I,r,J⟩:=B.GX;have:=J V rfl rfl;subst this;rw[ch z D,g];exact⟨.int .i64 I,by simp[builtin,Builtin.cap_,l,run_underlying y,r,goInt],.scalar rfl⟩
  next L y u=>
   cases j;rw[u]at B;have r:=cL (a:=.slice none 0 0) rfl B;rw[ch z D,g];exact⟨.int .i64 0,by simp[builtin,Builtin.cap_,l,run_underlying y,r,goInt],.scalar rfl⟩
  next n L y=>
   cases j;rw[ch z D,g];exact⟨.int .i64 n,by simp[builtin,Builtin.cap_,l,run_underlying y,goInt],.scalar rfl⟩
  .cases j
 next d x t f l=>
  obtain⟨G,xx,g,rfl,rfl⟩:=sz f;cases j;intro M v A;have:=OQ (ty:=o.type) h l A;rw[ch z D,g];simpa[builtin]using this
 next m k t f l=>
  obtain⟨G,xx,g,rfl,rfl⟩:=sz f;cases j;intro M v A;have:=AP (ty:=o.type) h l A;rw[ch z D,g];simpa[builtin]using this
 next x t f l=>
  obtain⟨G,g,rfl⟩:=sy f;cases j;intro M v A;have:=Ml (ty:=o.type) h l A;rw[ch z D,g];simpa[builtin]using this
 .exact mF h F j
def AH(h:SR C base la mu g9 a.tmps w)(O:base<=w.heap.size){c:Call}{o:Oper}{e:DS}(F:o.op = .call c)(d:gM C (jw g9.tmps) c o=some e):oM C base la mu g9 w (execOp a.eval o) e:=by
 unfold gM at d;simp only at d;split at d
 next b D=>
  exact sD h O F D d
 .cases d
 next f D=>
  split at d
  .cases d
  next k=>
   simp only[Gj,b3]at k;have j:=(sQ h c.args).down k;have z:=aK h f;have q:∀B x y,a.eval f = .func B x y->(execOp a.eval o).run C.P w=(invoke (.fn B y) (x++c.args.map a.eval)).run C.P w:=by
    intro B x y m;obtain⟨dst,S,J,pos,A,guard⟩:=o;simp only at F;subst F;simp[execOp,resolve,D,m,Deferred.ofValue]
   split at d
   next g first r s=>
    split at d
    next E=>
     cases d;rw[s]at z;obtain⟨K,L,m,H,I⟩:=z.F8;have n:first.toList.all aS=true/\r.toList.all aS=true:=by simpa[n_]using E
     have M:u9 y8 mu first.toList K.toList:=⟨H.1,λi u v t G=>fL (cN n.1 t) (H.2 i u v t G)⟩
     have N:u9 y8 mu r.toList L.toList:=⟨I.1,λi u v t G=>fL (cN n.2 t) (I.2 i u v t G)⟩;refine⟨K++c.args.map a.eval++L,?_,?_⟩
     .simp only[Y0];exact(M.append j).append N
     .rw[q _ _ _ m];rfl
    .cases d
   next l first r s=>
    split at d
    next R=>
     cases d;rw[s]at z;obtain⟨p,Q,m⟩:=z.GY;refine⟨p,#[]++c.args.map a.eval,Q,by simpa using j,?_⟩;rw[q _ _ _ m];rfl
    .cases d
   .cases d
def yM(h:SR C base la mu g9 a.tmps w)(L:base<=w.heap.size){b_:TC}{o:Oper}{e:DS}(g:au C b_ (jw g9.tmps) o=some e):oM C base la mu g9 w (execOp a.eval o) e:=by
 obtain⟨dst,op,type,pos,after,guard⟩:=o;cases op with
 |move x=>simp only[au]at g;cases g;exact⟨_,rfl,aK h x⟩
 |assign x=>simp only[au]at g;cases g;exact⟨_,rfl,aK h x⟩
 |pick c x y=>
  simp only[au]at g;split at g
  next q hq=>
   cases g;have M:=aK h c;rw[hq]at M;have ag:=M.bool;refine⟨if q then a.eval x else a.eval y,by simp[execOp,ag,asBool],?_⟩;cases q
   .exact aK h y
   .exact aK h x
  .cases g
 |alloc t=>
  simp only[au]at g;cases V:eU C.P t with
  |none=>rw[V]at g;cases g
  |some z=>
   rw[V,Ds]at g;have ay:=AB V w;have:=nl h L (VR.of_flat (qw V).2.1) g;have S:(execOp a.eval { dst,op:=.alloc t,type,pos,after,guard }).run C.P w=(do pure (.value (←Instr.box t z)):Sem Next).run C.P w:=by
    simp[execOp,Instr.alloc,Instr.box,ay]
   revert this;cases e<;>simp only[oM,ww,HG,S]<;>exact id
 |box t x=>simp only[au]at g;exact nl h L (aK h x) g
 |build t N=>
  simp only[au]at g;split at g
  next G=>
   cases E:uz C t (N.toList.map λp=>(p.1,jw g9.tmps p.2))with
   |none=>rw[E]at g;cases g
   |some v=>
    rw[E]at g;cases g;have I:=Lg h N λp I=>by
     have:=A_.1 G p I;simpa using this
    exact nE (Mf E I)
  .cases g
 |buildSlice t n N=>
  simp only[au]at g;split at g
  next G=>
   have av:∀p∈N.toList,aH (jw g9.tmps p.2)=false:=λp I=>by
    have:=A_.1 G p I;cases A:jw g9.tmps p.2 with
    |tuple vs=>
     rw[A]at this;have:=A_.1 this (.tuple vs) (by simp[Value.cells]);simp only[bh,aO,vd]at this;simp[aH,this.2]
    |_=>rfl
   have I:=Lg h N av;cases E:fz C t n (N.toList.map λp=>(p.1,jw g9.tmps p.2))with
   |none=>rw[E]at g;cases g
   |some r=>
    rw[E]at g;cases g;intro K v A;cases A;exact qz h L I (λp I=>by
     obtain⟨q,hq,rfl⟩:=CS.1 I;exact A_.1 G q hq) E
  .cases g
 |load t x=>simp only[au]at g;exact AZ h g
 |store t x y=>simp only[au]at g;exact yl h g
 |nilCheck x=>
  simp only[au]at g;have D:=aK h x;split at g
  next ad A=>
   cases g;rw[A]at D;cases M:a.eval x with
   |pointer p=>
    rw[M]at D;cases p with
    |none=>cases D
    |some p=>exact⟨_,by simp[execOp,M],D⟩
   |_=>rw[M]at D;cases D<;>(rename_i j;simp[Am.scalar]at j)
  next f u v A=>
   cases g;rw[A]at D;obtain⟨u',T,F,_,_⟩:=D.F8;rw[F]at D;exact⟨_,by simp[execOp,F],D⟩
  next f u v A=>
   cases g;rw[A]at D;obtain⟨p,_,F⟩:=D.GY;rw[F]at D;exact⟨_,by simp[execOp,F],D⟩
  .cases g
 |binOp op t x y yt=>
  have B:cK C (jw g9.tmps) { dst,op:=.binOp op t x y yt,type,pos,after,guard }=some e->oM C base la mu g9 w (execOp a.eval { dst,op:=.binOp op t x y yt,type,pos,after,guard }) e:=
   λg=>mF h (by intro Y b h;cases h) g
  simp only[au]at g;split at g
  .split at g
   next b hn=>
    split at g
    next ho=>
     cases g;obtain⟨J,n2⟩:=zy (aK h x) (aK h y) hn ho;refine⟨.bool b,?_,.scalar rfl⟩;simp only[execOp,Sem.run_bind,pw J,Result.andThen_ok,binOp_eql J,we J n2,Sem.run_pure]
    .cases g
   .exact B g
  .split at g
   next b hn=>
    split at g
    next ho=>
     cases g;obtain⟨J,n2⟩:=zy (aK h x) (aK h y) hn ho;refine⟨.bool !b,?_,.scalar rfl⟩;simp only[execOp,Sem.run_bind,pw J,Result.andThen_ok,binOp_neq J,we J n2,Sem.run_pure]
    .cases g
   .exact B g
  .exact B g
 |unOp op t x=>simp only[au]at g;exact mF h (by intro Y b h;cases h) g
 |convert s d x=>simp only[au]at g;exact mF h (by intro Y b h;cases h) g
 |makeFunc fn first O=>
  simp only[au]at g;split at g
  .cases g
  next an=>
   cases g;refine⟨.func fn (first.map a.eval) (O.map a.eval),by simp[execOp,Instr.makeFunc],?_⟩;have r1:=sQ h first
   have r2:=sQ h O;refine .func (λl hl=>an l hl) c_ c_ (λi u v H A=>r1.2 i u v (by simpa using H) (by simpa using A)) (λi u v H A=>r2.2 i u v (by simpa using H) (by simpa using A))
 |makeMap t r=>
  simp only[au]at g;split at g
  next hr=>
   cases g;intro K v A;cases A;exact mh h L hr
  .cases g
 |makeSlice t l c=>
  simp only[au]at g;cases g;intro K v A;exact tE h L A
 |slice t x W U X=>
  have B:cK C (jw g9.tmps) { dst,op:=.slice t x W U X,type,pos,after,guard }=some e->oM C base la mu g9 w (execOp a.eval { dst,op:=.slice t x W U X,type,pos,after,guard }) e:=
   λg=>mF h (by intro Y b h;cases h) g
  have D:=aK h x;have o1:=Fx.map W λx=>aK h x;have o2:=Fx.map U λx=>aK h x;have o3:=Fx.map X λx=>aK h x;simp only[au]at g;split at g
  next ad A=>
   rw[A]at D;split at g
   next ax=>
    cases j:lM C t ad (W.map (jw g9.tmps)) (U.map (jw g9.tmps)) (X.map (jw g9.tmps)) []with
    |none=>rw[j]at g;cases g
    |some v=>
     rw[j]at g;cases g;exact nE (qo h.wr (.inl ax) j D o1 o2 o3)
   .cases g;intro v A;obtain⟨T,Q,R⟩:=qo h.wr (.inr rfl) A D o1 o2 o3;exact ig Q R
  .unfold pZ at g;split at g
   next v j=>
    cases g;exact nE (Nq j D o1 o2 o3)
   .exact B g
 |fieldAddr t x f=>
  simp only[au]at g;cases j:gq C t (jw g9.tmps x) f with
  |none=>rw[j]at g;cases g
  |some v=>rw[j]at g;cases g;exact nE (sV j (aK h x))
 |field t x f=>
  simp only[au]at g;cases j:uU C t (jw g9.tmps x) f with
  |none=>rw[j]at g;cases g
  |some v=>rw[j]at g;cases g;exact nE (MF j (aK h x))
 |indexAddr t x i=>
  simp only[au]at g;cases j:fm C t (jw g9.tmps x) (jw g9.tmps i)with
  |none=>rw[j]at g;cases g
  |some v=>rw[j]at g;cases g;exact nE (tt j (aK h x) (aK h i))
 |index t x i=>
  simp only[au]at g;cases j:nj C t (jw g9.tmps x) (jw g9.tmps i)with
  |none=>rw[j]at g;cases g
  |some v=>rw[j]at g;cases g;exact nE (MN j (aK h x) (aK h i))
 |lookup t m k ok=>
  simp only[au]at g;have hm:=aK h m;have hk:=aK h k;split at g
  next ap=>
   rw[ap]at hm;cases j:dL C t (.map none) (jw g9.tmps k) ok []with
   |none=>rw[j]at g;cases g
   |some v=>rw[j]at g;cases g;exact nE (ry h.wr (.inl rfl) hm hk j)
  .cases g;intro v A;obtain⟨T,Q,R⟩:=ry h.wr (.inr rfl) hm hk A;exact ig Q R
 |mapUpdate t m k v=>simp only[au]at g;cases g;intro K u H;exact lm h H
 |insert t m k v=>simp only[au]at g;cases g;intro K u H;exact lm h H
 |mapEntry t m k=>simp only[au]at g;cases g;intro K u H;exact vH h H
 |entryStore t m s v=>simp only[au]at g;cases g;intro K u H;exact qG h H
 |extract t i=>
  simp only[au]at g;have ht:=aK h t;split at g
  next vs A=>
   split at g
   .cases g
   next aE=>
    cases j:vs[i]? with
    |none=>rw[j]at g;cases g
    |some v=>
     rw[j]at g;cases g;rw[A]at ht;obtain⟨ds,F,al⟩:=ht.L5 a_;obtain⟨T,Q,R⟩:=al.get (i:=i) (by simpa using j);refine⟨T,?_,R⟩;have Z:ds[i]?=some T:=by simpa using Q
     simp[execOp,Instr.extract,F,Z]
  .cases g
 |call c=>simp only[au]at g;exact AH h L rfl g
 |_=>simp only[au]at g;cases g
end
end
section
variable [Co]
section
variable [Dw]
def Marks(mu:ke)(H:Tu)(b w:TS)(ds:List Deferred):Prop:=
 ∃a:List Nat,ds=a.map (λr=>({ target:=.collected r,args:=#[] }:Deferred))/\a.Nodup/\∀r∈a,b.heap.size<=r/\w.heap[r]?=some (.deferred (some []))/\¬HI mu H r
structure FI(C:m')(base:Nat)(m8:Tu)(n9:ke)(m7:TS)(la:q_)(mu:ke)(g9:St)(a:Act)(w:TS):Prop where
 sr:SR C base la mu g9 a.tmps w
 D4:El m8 n9 m7 g9.heap mu w
 fresh:∀s b,la s=some b->m7.heap.size<=b
 marks:Marks mu g9.heap m7 w a.defers
 low:base<=m7.heap.size
end
def dG(C:m')(f:TQ)(args:Tn)(H:Tu)(r:Value)(H':Tu):Prop:=
 ∀(_:Dw) (a:Nat) (mu:ke) (w:TS) (args':Tl),a<=w.heap.size->u9 y8 mu args args'.toList->WR C a mu H w->∀cs,
  ∃v b w',VR y8 b r v/\WR C a b H' w'/\El H mu w H' b w'/\(callFunc f args').run C.P w = .ok (.enter f args') w/\
   ∃fr,Steps C.P (lone (Frame.enter C.P f args' .normal) cs w) (lone fr cs w')/\fr.fn=f/\fr.leaving C.P w' (.returned v)
def JW(C:m')(l:Nat)(args:Tn)(H:Tu)(r:Value)(H':Tu):Prop:=
 ∀(_:Dw) (a:Nat) (mu:ke) (w:TS) (args':Tl) (p:Pl),a<=w.heap.size->mu l=some p->u9 y8 mu args args'.toList->WR C a mu H w->∀c cs,
  ∃v f w' g e assign d,VR y8 f r v/\WR C a f H' w'/\El H mu w H' f w'/\(Instr.yield p.b args').run C.P w = .ok (.round p.b g e assign d) w/\
   Steps C.P (lone (Frame.round p.b g e assign d .normal) (c :: cs) w) (lone (c.finish v) cs w')
structure BOk(C:m')(B:Below):Prop where
 call:∀f args H r H',B.call f args H r H'->dG C f args H r H'
 yield:∀l args H r H',B.yield l args H r H'->JW C l args H r H'
section
variable [Dw]
section machine
abbrev _root_.TB:=List Item
variable {P:TI} {b:Frame} {a:Act} {k:TB} {cs:List Frame} {w w':TS} {ops:To} {i:Nat} {rest:TC} {o:Oper}
def dy{v:TR}(f:ops[i]?=some o)(j:Region.wanted o (yielded ops a.tmps)=true)(g:∀c,o.op≠.defer c)(h:(execOp a.eval o).run P w = .ok (.value v) w') :
  step P (lone (b.atR a (.inRegion ops (i :: rest) :: k)) cs w) = .next (lone (b.atR (a.put o.dst v) (.inRegion ops rest :: k)) cs w'):=by
 have e:=stepGR_op (P:=P) (b:=b) (k:=k) (cs:=cs) (w:=w) (rest:=rest) f j;rw[Oper.semAt_eq _ _ _ g]at e;have d:(b.atR a (.inRegion ops (i :: rest) :: k)).finish v=b.atR (a.put o.dst v) (.inRegion ops rest :: k):=by rw[Frame.finish_atR,f];rfl
 refine step_lone_go ?_;rw[e,←d];simp[stepG.apply,Sem.runT_eq,h]
def sc(f:ops[i]?=some o)(j:Region.wanted o (yielded ops a.tmps)=true)(g:∀c,o.op≠.defer c)(h:(execOp a.eval o).run P w = .ok .skip w') :
  step P (lone (b.atR a (.inRegion ops (i :: rest) :: k)) cs w) = .next (lone (b.atR (a.put o.dst undef) (.inRegion ops rest :: k)) cs w'):=by
 have e:=stepGR_op (P:=P) (b:=b) (k:=k) (cs:=cs) (w:=w) (rest:=rest) f j;rw[Oper.semAt_eq _ _ _ g]at e;have d:(b.atR a (.inRegion ops (i :: rest) :: k)).finish undef=b.atR (a.put o.dst undef) (.inRegion ops rest :: k):=by rw[Frame.finish_atR,f];rfl
 refine step_lone_go ?_;rw[e,←d];simp[stepG.apply,Sem.runT_eq,h]
def BF{f:TQ}{args:Tl}(g:ops[i]?=some o)(j:Region.wanted o (yielded ops a.tmps)=true)(e:∀c,o.op≠.defer c)(h:(execOp a.eval o).run P w = .ok (.enter f args) w') :
  step P (lone (b.atR a (.inRegion ops (i :: rest) :: k)) cs w) = .next (lone (Frame.enter P f args .normal) (b.atR a (.inRegion ops (i :: rest) :: k) :: cs) w'):=by
 have d:=stepGR_op (P:=P) (b:=b) (k:=k) (cs:=cs) (w:=w) (rest:=rest) g j;rw[Oper.semAt_eq _ _ _ e]at d;exact step_lone_go (by rw[d];simp[stepG.apply,Sem.runT_eq,h,Frame.atR])
def Nw{l:Nat}{f:TQ}{e:Tl}{assign d:Code}(j:ops[i]?=some o)(n:Region.wanted o (yielded ops a.tmps)=true)(h:∀c,o.op≠.defer c)
  (m:(execOp a.eval o).run P w = .ok (.round l f e assign d) w') :
  step P (lone (b.atR a (.inRegion ops (i :: rest) :: k)) cs w) = .next (lone (Frame.round l f e assign d .normal) (b.atR a (.inRegion ops (i :: rest) :: k) :: cs) w'):=by
 have g:=stepGR_op (P:=P) (b:=b) (k:=k) (cs:=cs) (w:=w) (rest:=rest) j n;rw[Oper.semAt_eq _ _ _ h]at g;exact step_lone_go (by rw[g];simp[stepG.apply,Sem.runT_eq,m,Frame.atR])
def uZ(c:ops[i]?=some o)(v:TR):(b.atR a (.inRegion ops (i :: rest) :: k)).finish v=b.atR (a.put o.dst v) (.inRegion ops rest :: k):=by
 rw[Frame.finish_atR,c];rfl
end machine
section
variable {C:m'} {base:Nat} {m8:Tu} {n9:ke} {m7:TS} {la:q_} {mu:ke} {g9:St} {a:Act} {w:TS}
def FI.big(h:FI C base m8 n9 m7 la mu g9 a w):base<=w.heap.size:=NN h.low h.D4.size
def uw(a:Act)(dst:Tq)(v:TR):(a.put dst v).tmps=(match dst with|some d=>a.tmps.setIfInBounds d v|none=>a.tmps):=by cases dst<;>rfl
def qx(a:Act)(dst:Tq)(v:TR):(a.put dst v).defers=a.defers:=by cases dst<;>rfl
def FI.put(h:FI C base m8 n9 m7 la mu g9 a w)(dst:Tq){v v':TR}(c:VR la mu v v'):FI C base m8 n9 m7 la mu (g9.put dst v) (a.put dst v') w:=by
 have b:(g9.put dst v).heap=g9.heap:=by cases dst<;>rfl
 refine⟨?_,by rw[b];exact h.D4,h.fresh,by rw[qx,b];exact h.marks,h.low⟩;rw[uw];exact h.sr.put dst c
def Marks.D4{H H':Tu}{mu b:ke}{w w':TS}{ds:List Deferred}(h:Marks mu H m7 w ds)(d:El H mu w H' b w'):Marks b H' m7 w' ds:=by
 obtain⟨n,f,g,i⟩:=h;refine⟨n,f,g,λr k=>?_⟩;obtain⟨l,m,e⟩:=i r k;have c:r<w.heap.size:=by
  grind
 exact⟨l,by rw[d.j9 r c e];exact m,λj=>(d.Ea r j).elim (λo=>a_) e⟩
def FI.heap(h:FI C base m8 n9 m7 la mu g9 a w){H':Tu}{b:ke}{w':TS}(d:WR C base b H' w')(c:El g9.heap mu w H' b w'):FI C base m8 n9 m7 la b { g9 with heap:=H' } a w':=
 ⟨h.sr.D4 d c,h.D4.trans c,h.fresh,h.marks.D4 c,h.low⟩
def HI.lt{mu:ke}{H:Tu}{w:TS}(f:WR C base mu H w){b:Nat}(h:HI mu H b):b<w.heap.size/\base<=b:=by
 obtain⟨id,o,p,c,d,e,rfl⟩:=h;exact⟨f.lt c (aU d) e,f.own id o p c d e⟩
def FI.FC(h:FI C base m8 n9 m7 la mu g9 a w){s:Nat}{vs:Tn}{d:Tl}{e:TP}(K:g9.loc[s]?=some none)(M:u9 y8 mu vs d.toList)(v:vs.all bh=true) :
  FI C base m8 n9 m7 (λk=>if k=s then some w.heap.size else la k) mu { g9 with loc:=g9.loc.set s (some vs) } a (w.alloc (.cells d e)):=by
 have l:∀b,b<w.heap.size->(w.alloc (.cells d e)).heap[b]?=w.heap[b]?:=λb r=>by
  show(w.heap.push _)[b]?=_
  grind
 have u:la s=none:=by
  cases H:la s with
  |none=>rfl
  |some b=>obtain⟨i,j⟩:=h.sr.Ga s b H;rw[K]at j;cases j
 have m:∀t b,la t=some b->(if t=s then some w.heap.size else la t)=some b:=λt b f=>by
  grind
 have D:∀t b,la t=some b->b<w.heap.size:=λt b f=>by
  obtain⟨i,j⟩:=h.sr.Ga t b f;obtain⟨O,c,y,n,_,z,_⟩:=h.sr.loc t i j
  grind
 have E:s<g9.loc.length:=by
  grind
 have A:El g9.heap mu w g9.heap mu (w.alloc (.cells d e)):=⟨A9 _,λ_ _=>rfl,c_,λb r _=>l b r,λb r=>.inr r,rfl,rfl,rfl,A9 _⟩;refine⟨⟨h.sr.D3.mono m λ_ _ h=>h,?_,?_,?_,?_⟩,h.D4.trans A,?_,h.marks.D4 A,h.low⟩
 .intro t b f;split at f
  .simp_all
  next L=>
   obtain⟨i,j⟩:=h.sr.Ga t b f
   grind
 .intro t i f;rcases Cs f with⟨I,f⟩|⟨rfl,_,x⟩
  .obtain⟨b,c,y,j,n,z,F,Q,R⟩:=h.sr.loc t i f
   grind
  .cases x;exact⟨w.heap.size,d,e,c_,h.big,by show(w.heap.push _)[_]?=_;simp,v,M,λJ=>by have:=(HI.lt h.sr.wr J).1;omega⟩
 .intro t N b f q;split at f<;>split at q
  .omega
  .grind
  .grind
  .exact h.sr.GG t N b f q
 .refine⟨?_,h.sr.wr.inj,h.sr.wr.own,h.sr.wr.ro,h.sr.wr.Hw,?_⟩
  .intro id o i' B;obtain⟨p,j,n⟩:=h.sr.wr.obj id o i' B;exact⟨p,j,by rw[l _ (jY B n)];exact n⟩
  .intro g vs G;obtain⟨j,n,c,y,P,z,F⟩:=h.sr.wr.DL g vs G
   grind
 .intro t b f;split at f
  .cases f;exact h.D4.size
  .exact h.fresh t b f
def FI.FD(h:FI C base m8 n9 m7 la mu g9 a w){s b:Nat}{vs j:Tn}{c cs:Tl}{e:TP}(R:g9.loc[s]?=some (some vs))(G:la s=some b)(I:w.heap[b]?=some (.cells c e (0,0)))
  (W:u9 y8 mu j cs.toList) (Q:j.all bh=true):FI C base m8 n9 m7 la mu { g9 with loc:=g9.loc.set s (some j) } a (w.setRow b cs):=by
 have H:b<w.heap.size:=(IG.1 I).1;have A:¬HI mu g9.heap b/\base<=b:=by
  obtain⟨l,u,v,d,m,_,_,_,E⟩:=h.sr.loc s vs R
  simp_all
 have f:∀k,k≠b->(w.setRow b cs).heap[k]?=w.heap[k]?:=λk y=>setRow_other w b k cs y;have J:(w.setRow b cs).heap[b]?=some (.cells cs e (0,0)):=setRow_heap w b c cs e (0,0) I;have K:s<g9.loc.length:=by
  grind
 have N:=h.fresh s b G;refine⟨⟨h.sr.D3,?_,?_,h.sr.GG,?_⟩,?_,h.fresh,?_,h.low⟩
 .intro t l n;obtain⟨q,d⟩:=h.sr.Ga t l n
  grind
 .intro t q n;rcases Cs n with⟨z,n⟩|⟨rfl,_,S⟩
  .obtain⟨l,u,v,d,m,x,D,M,E⟩:=h.sr.loc t q n;exact⟨l,u,v,d,m,by rw[f l λL=>z (h.sr.GG t s l d (L▸G))];exact x,D,M,E⟩
  simp_all
 .refine⟨?_,h.sr.wr.inj,h.sr.wr.own,h.sr.wr.ro,h.sr.wr.Hw,?_⟩
  .intro id o i' F;obtain⟨p,d,m⟩:=h.sr.wr.obj id o i' F;refine⟨p,d,?_⟩;by_cases B:p.b=b
   · -- an object that is only read may lie below
    exfalso;by_cases i:o.owned=true
    .exact A.1 ⟨id,o,p,i',i,d,B⟩
    .have:=h.sr.wr.ro id o p i' F (by simpa using i) d;omega
   simp_all
  .intro g vs O;obtain⟨d,m,u,v,U,x,D⟩:=h.sr.wr.DL g vs O
   grind
 .refine⟨h.D4.len,h.D4.same,jn,λk y P=>?_,h.D4.Ea,h.D4.os,h.D4.tape,h.D4.output,h.D4.dr⟩;rw[f k a_];exact h.D4.j9 k y P
 .obtain⟨T,d,m,x⟩:=h.marks;refine⟨T,d,m,λr V=>?_⟩
  grind
end
end
end
section
variable [Co] [Dw]
section
variable {C:m'} {base:Nat} {m8:Tu} {n9:ke} {m7:TS} {la:q_} {mu:ke} {g9:St} {a:Act} {w:TS}
def mQ{ops:To}{o:Oper}{t:Bool}(h:u9 la mu g9.tmps a.tmps.toList)(c:cB ops g9.tmps o=some t):Region.wanted o (yielded ops a.tmps)=t:=by
 unfold cB at c;unfold Region.wanted;cases n:o.guard with
 |none=>simp_all
 |some q=>
  obtain⟨j,k⟩:=q;rw[n]at c;simp only at c ⊢;unfold yielded;cases m:(ops[j]?).bind (·.dst)with
  |none=>
   simp_all
  |some d=>
   rw[m]at c;simp only[Ds]at c ⊢;cases i:g9.tmps[d]? with
   |none=>
    rw[i]at c;cases c;have:a.tmps[d]?=none:=by
     have x:=h.1
     simp_all
    rw[this];simp
   |some v=>
    rw[i]at c;obtain⟨r,l,f⟩:=h.get i;rw[show a.tmps[d]?=some r by simpa using l];cases v with
    |bool b=>
     have:=f.bool
     simp_all
    |tuple y=>
     split at c
     next b e=>cases e
     next s e=>
      cases e;split at c
      .cases c
      next g=>
       cases c;obtain⟨u,rfl,_⟩:=f.L5 g;rfl
     simp_all
    |_=>
     cases c;cases f<;>first|rfl|(rename_i p;simp[Am.scalar]at p)
def iJ{b_:TC}{d:Tg}{o:Oper}{e:DS}(h:au C b_ d o=some e):∀c,o.op≠.defer c:=by
 intro c b;unfold au at h;rw[b]at h;cases h
structure Kept(g9:St)(mu:ke)(i6:St)(mu':ke):Prop where
 len:g9.heap.length<=i6.heap.length
 same:∀k,k<g9.heap.length->mu' k=mu k
def St.Q4(g9:St)(d:Tq)(v:TR):(g9.put d v).heap=g9.heap:=by cases d<;>rfl
theorem Kept.refl{g9:St}{mu:ke}:Kept g9 mu g9 mu:=⟨A9 _,λ_ _=>rfl⟩
def Kept.put{g9:St}{mu:ke}{l:List (Option (Tn))}{d:Tq}{v:TR}:Kept g9 mu (({ g9 with loc:=l }:St).put d v) mu:=⟨by rw[St.Q4];exact A9 _,λ_ _=>rfl⟩
def Kept.heap{g9:St}{mu b:ke}{w w':TS}{H:Tu}{d:Tq}{v:TR}(h:El g9.heap mu w H b w'):Kept g9 mu (({ g9 with heap:=H }:St).put d v) b:=⟨by rw[St.Q4];exact h.len,h.same⟩
def wk{B:Below}(X:BOk C B){b_:TC}{ops:To}{i:Nat}{S:St}(h:FI C base m8 n9 m7 la mu g9 a w)(G:ao C B b_ ops i g9 S)(b:Frame)(rest:TC)(k:TB)(cs:List Frame) :
  ∃a' w' T u,FI C base m8 n9 m7 T u S a' w'/\Kept g9 mu S u/\
   Steps C.P (lone (b.atR a (.inRegion ops (i :: rest) :: k)) cs w) (lone (b.atR a' (.inRegion ops rest :: k)) cs w'):=by
 unfold ao at G;split at G
 next y=>
  subst G;refine⟨a,w,la,mu,h,.refl,.one ?_⟩;have:=stepR_op_skip (P:=C.P) (b:=b) (a:=a) (k:=k) (cs:=cs) (w:=w) (ops:=ops) (i:=i) (rest:=rest) (by simp[y]);simpa[y,Act.put]using this
 next o y=>
  split at G
  .exact G.elim
  next R=>
   subst G;have g:=mQ (a:=a) h.sr.D3 R;refine⟨a.put o.dst undef,w,la,mu,h.put o.dst .undef,.put,.one ?_⟩;have:=stepR_op_skip (P:=C.P) (b:=b) (a:=a) (k:=k) (cs:=cs) (w:=w) (ops:=ops) (i:=i) (rest:=rest) (by simp[y,g]);simpa[y]using this
  next R=>
   have g:=mQ (a:=a) h.sr.D3 R;rcases G with G|⟨v,Z,rfl⟩
   case inr=>
    obtain⟨v',x,n⟩:=Nx h.sr Z;refine⟨_,w,la,mu,h.put o.dst n,.put,.one (dy y g (λc M=>?_) x)⟩;have E:=Z.1;rw[M]at E;cases E
   obtain⟨e,Y,I⟩:=G;have t:=iJ Y;have z:=yM h.sr h.big Y;cases e with
   |val v=>
    obtain⟨p,d,rfl⟩:=I;cases d;obtain⟨v',x,n⟩:=z;exact⟨_,w,la,mu,h.put o.dst n,.put,.one (dy y g t x)⟩
   |FC s K=>
    obtain⟨p,d,rfl⟩:=I;simp only[aW]at d;split at d
    next m=>
     cases d;obtain⟨N,W,x,n,F⟩:=z;have J:=(h.FC (e:=W) m n F).put o.dst (v:=.pointer (some ⟨s,0,some 0⟩)) (v':=.pointer (some ⟨w.heap.size,0,none⟩)) (.Es c_);exact⟨_,_,_,_,J,.put,.one (dy y g t x)⟩
    .cases d
   |Hc s f=>
    obtain⟨p,d,rfl⟩:=I;simp only[aW]at d;split at d
    next K m=>
     cases j:f K with
     |none=>simp_all
     |some v=>
      rw[j]at d;cases d;obtain⟨v',x,n⟩:=z K v m j;exact⟨_,w,la,mu,h.put o.dst n,.put,.one (dy y g t x)⟩
    .cases d
   |FD s f=>
    obtain⟨p,d,rfl⟩:=I;simp only[aW]at d;split at d
    next K m=>
     cases j:f K with
     |none=>simp_all
     |some U=>
      rw[j]at d;cases d;obtain⟨bl,c,ag,W,x,n,F,E,D⟩:=z K U m j;have J:=(h.FD m x n E D).put o.dst (v:=undef) (v':=undef) .undef;exact⟨_,_,_,_,J,.put,.one (sc y g t F)⟩
    .cases d
   |EZ f=>
    obtain⟨p,d,rfl⟩:=I;simp only[aW]at d;cases j:f g9.heap with
    |none=>simp_all
    |some v=>
     rw[j]at d;cases d;obtain⟨v',x,n⟩:=z v j;exact⟨_,w,la,mu,h.put o.dst n,.put,.one (dy y g t x)⟩
   |F9 f=>
    obtain⟨p,d,rfl⟩:=I;simp only[aW]at d;cases j:f g9.heap with
    |none=>simp_all
    |some q=>
     rw[j]at d;cases d;obtain⟨nx,v',w',u,x,n,F,E,D,_⟩:=z q.1 q.2 j;have J:=(h.heap E D).put o.dst F.up;rcases n with rfl|⟨rfl,rfl⟩
     .exact⟨_,w',la,u,J,.heap D,.one (dy y g t x)⟩
     .exact⟨_,w',la,u,J,.heap D,.one (sc y g t x)⟩
   |call f L=>
    obtain⟨r,H,M,rfl⟩:=I;obtain⟨A,x,n⟩:=z;obtain⟨v,u,w',F,E,D,O,Q⟩:=X.call _ _ _ _ _ M _ base mu w A h.big x h.sr.wr (b.atR a (.inRegion ops (i :: rest) :: k) :: cs);rw[O]at n;refine⟨_,w',la,u,(h.heap E D).put o.dst F.up,.heap D,?_⟩;obtain⟨fr,s1,s2,s3⟩:=Q;refine .head (BF y g t n) (s1.trans (.one ?_));rw[←uZ y v];exact step_leave_returned s3
   |yield l L=>
    obtain⟨r,H,M,rfl⟩:=I;obtain⟨p,A,d,x,n⟩:=z;obtain⟨v,u,w',fn,ad,assign,V,F,E,D,O,Q⟩:=X.yield _ _ _ _ _ M _ base mu w A p h.big d x h.sr.wr (b.atR a (.inRegion ops (i :: rest) :: k)) cs;rw[O]at n;refine⟨_,w',la,u,(h.heap E D).put o.dst F.up,.heap D,?_⟩;refine .head (Nw y g t n) ?_;rw[←uZ y v];exact Q
def Aj{B:Below}(f:BOk C B){b_:TC}{ops:To}{i:Nat}{e:St}(h:FI C base m8 n9 m7 la mu g9 a w)(g:ao C B b_ ops i g9 e)(b:Frame)(rest:TC)(k:TB)(cs:List Frame) :
  ∃a' w' c d,FI C base m8 n9 m7 c d e a' w'/\
   Steps C.P (lone (b.atR a (.inRegion ops (i :: rest) :: k)) cs w) (lone (b.atR a' (.inRegion ops rest :: k)) cs w'):=
 let ⟨a',w',c,d,h1,_,h2⟩:=wk f h g b rest k cs
 ⟨a',w',c,d,h1,h2⟩
def FI.Lq{b:St}(h:FI C base m8 n9 m7 la mu g9 a w)(n:gj g9 b):FI C base m8 n9 m7 la mu b a w:=by
 obtain⟨d,e,f,g⟩:=n;obtain⟨l,s,heap⟩:=b;simp only at d e f g;subst d e;refine⟨⟨⟨by rw[f];exact h.sr.D3.1,λi y c o m=>?_⟩,h.sr.Ga,h.sr.loc,h.sr.GG,h.sr.wr⟩,h.D4,h.fresh,h.marks,h.low⟩;have j:i<g9.tmps.length:=by
  grind
 have k:=h.sr.D3.2 i g9.tmps[i] c (by simp[j]) m;rcases g i g9.tmps[i] y (by simp[j]) o with rfl|⟨p,q,r⟩
 .exact k
 .rw[zW p k,r];exact vU q
def Ai{B:Below}(g:BOk C B){b_:TC}{ops:To}(b:Frame)(k:TB)(cs:List Frame):∀(l:TC) (g9 c:St) (a:Act) (w:TS) (la:q_) (mu:ke),FI C base m8 n9 m7 la mu g9 a w->fM C B b_ ops l g9 c->
  ∃a' w' e f,FI C base m8 n9 m7 e f c a' w'/\
   Steps C.P (lone (b.atR a (.inRegion ops l :: k)) cs w) (lone (b.atR a' k) cs w')
 | [],g9,c,a,w,la,mu,h,d=>by
  cases d;exact⟨a,w,la,mu,h,.one stepR_region_end⟩
 |i :: l,g9,c,a,w,la,mu,h,d=>by
  obtain⟨z,j6,h0,h1,p⟩:=d;obtain⟨q,r,t,u,j,m⟩:=Aj g (h.Lq h0) h1 b l k cs;obtain⟨x,s,y,v,n,o⟩:=Ai g b k cs l j6 c q r t u j p;exact⟨x,s,y,v,n,m.trans o⟩
def LC{B:Below}(g:BOk C B){b_:TC}{ops:To}(b:Frame)(k:TB)(cs:List Frame):∀(l:TC) (g9 c:St) (a:Act) (w:TS) (la:q_) (mu:ke),FI C base m8 n9 m7 la mu g9 a w->br C B b_ ops l g9 c->
  ∃a' w' e f,FI C base m8 n9 m7 e f c a' w'/\
   Steps C.P (lone (b.atR a (.inRegion ops l :: k)) cs w) (lone (b.atR a' k) cs w')
 | [],g9,c,a,w,la,mu,h,d=>by
  cases d;exact⟨a,w,la,mu,h,.one stepR_region_end⟩
 |i :: l,g9,c,a,w,la,mu,h,d=>by
  obtain⟨j6,h1,p⟩:=d;obtain⟨q,r,t,u,j,m⟩:=Aj g h h1 b l k cs;obtain⟨x,s,y,v,n,o⟩:=LC g b k cs l j6 c q r t u j p;exact⟨x,s,y,v,n,m.trans o⟩
def Dv.at_{mk:Nat->TR}(h:Dv mk){la:q_}{mu d:ke}{L k:Nat}{v:TR}(f:VR la mu (mk L) v)(g:∀p,mu L=some p->d k=some p):VR la d (mk k) v:=by
 cases h with
 |ptr=>
  cases f with
  |scalar h=>simp[Am.scalar]at h
  |DM h=>exact .DM (g _ h)
 |slice e l c=>
  generalize j:le e=s at f ⊢;cases f with
  |scalar h=>simp[Am.scalar]at h
  |x3 h m i b=>exact .x3 (g _ h) m i b
  |u_ b=>exact .u_ b
  |Cu i b=>simp[le]at j
  |y9 b=>simp[le]at j
 |map=>
  cases f with
  |scalar h=>simp[Am.scalar]at h
  |map h=>exact .map (g _ h)
def dq(mu:ke)(L k:Nat):ke:=λj=>if j=k then mu L else if j=L then none else mu j
def jr{b:Tu}{o x:p_}{j k:Nat}(mu:ke)(h:(b.set k o)[j]?=some x):j<b.length/\(b++[o])[if j=k then b.length else j]?=some x/\dq mu b.length k j=mu (if j=k then b.length else j):=by
 have c:j<b.length:=by
  grind
 refine⟨c,?_,?_⟩
 .grind
 .unfold dq
  grind
def WR.pad(h:WR C base mu g9.heap w)(n:Nat):WR C base mu (g9.pad n).heap w/\El g9.heap mu w (g9.pad n).heap mu w:=by
 have e:∀ {j:Nat} {x:p_},(g9.pad n).heap[j]?=some x->x.alive=true->g9.heap[j]?=some x:=by
  intro j x c d;simp only[St.pad,r5]at c;split at c
  .exact c
  .rw[YY]at c;split at c
   .cases c;cases d
   .cases c
 refine⟨⟨λid o l d=>h.obj id o (e l d) d,λi j t u v y f c g k=>h.inj i j t u v y (e f (aU g)) (e c k) g k,λi o p f l=>h.own i o p (e f (aU l)) l,
  λi o p f d=>h.ro i o p (e f d) d,λid i'=>h.Hw id (by simp[St.pad]at i';omega),h.DL⟩,⟨by simp[St.pad],λ_ _=>rfl,A9 _,λ_ _ _=>rfl,?_,rfl,rfl,rfl,A9 _⟩⟩
 rintro b ⟨id,o,p,q,m,r,s⟩;exact .inr ⟨id,o,p,e q (aU m),m,r,s⟩
def FI.pad(h:FI C base m8 n9 m7 la mu g9 a w)(n:Nat):FI C base m8 n9 m7 la mu (g9.pad n) a w:=h.heap (h.sr.wr.pad n).1 (h.sr.wr.pad n).2
def FI.slot(h:FI C base m8 n9 m7 la mu g9 a w){f:Tu}{o:p_}{d:ke}{w':TS}{k:Nat}(G:WR C base d (f++[o]) w')(z:El g9.heap mu w (f++[o]) d w')(v:hH mu d (f++[o]) w')
  (hl:f.length=g9.heap.length) (Z:f[k]?=some .dead) (hn:mu k=none) (ad:m8.length<=k):FI C base m8 n9 m7 la (dq d f.length k) { g9 with heap:=f.set k o } a w':=by
 have ag:k<f.length:=(s4.1 Z).1;have q:=h.D4.trans z;have F:∀i p,mu i=some p->dq d f.length k i=some p:=by
  intro i p y;have u:i<g9.heap.length:=by
   rcases Gi i g9.heap.length with l|l
   .exact l
   .rw[h.sr.wr.Hw i l]at y;cases y
  unfold dq;rw[te (λe=>kb),te a_,z.same i u];exact y
 have n:∀b,HI (dq d f.length k) (f.set k o) b->HI d (f++[o]) b:=by
  rintro b ⟨id,x,p,l,t,m,A⟩;obtain⟨_,P,Q⟩:=jr d l;exact⟨_,x,p,P,t,by rw[←Q];exact m,A⟩
 have V:WR C base (dq d f.length k) (f.set k o) w':=by
  refine⟨?_,?_,?_,?_,?_,?_⟩
  .intro id x i' H;obtain⟨_,P,Q⟩:=jr d i';obtain⟨p,p1,p2⟩:=v _ x P H;exact⟨p,by rw[Q];exact p1,p2.mono F⟩
  .intro i j oi oj pi pj u Y L M X B D;obtain⟨i1,E,i3⟩:=jr d u;obtain⟨j1,j2,j3⟩:=jr d Y;rw[i3]at B;rw[j3]at D;refine G.inj _ _ oi oj pi pj E j2 L M ?_ B D
   grind
  .intro i x p u O y;obtain⟨_,E,i3⟩:=jr d u;exact G.own _ x p E O (by rw[←i3];exact y)
  .intro i x p u H O y;obtain⟨_,E,i3⟩:=jr d u;exact G.ro _ x p E H O (by rw[←i3];exact y)
  .intro id i';simp at i';unfold dq;rw[te a_];split
   .rfl
   .exact G.Hw id ua
  .intro g R W;obtain⟨l,t,c,e,T,m,A⟩:=h.sr.wr.DL g R W;have K:Eo g<w.heap.size:=(IG.1 m).1;exact⟨l,t,c,e,T,by rw[z.j9 _ K (λv=>by have:=(HI.lt h.sr.wr v).2;omega)];exact m,A.mono F⟩
 have J:=h.D4.len;refine⟨⟨h.sr.D3.mono (λ_ _ h=>h) F,h.sr.Ga,?_,h.sr.GG,V⟩,⟨ua,?_,q.size,q.j9,λb I=>q.Ea b (n b I),q.os,q.tape,q.output,q.dr⟩,h.fresh,?_,h.low⟩
 .intro s R hs;obtain⟨b,c,e,l,t,m,A,U,S⟩:=h.sr.loc s R hs;have I:b<w.heap.size:=(IG.1 m).1;exact⟨b,c,e,l,t,by rw[z.j9 b I S];exact m,A,U.mono (λ_ _ h=>h) F,λv=>(z.Ea b (n b v)).elim (λhh=>a_) S⟩
 .intro id i';unfold dq;rw[te a_,te a_];exact q.same id i'
 .obtain⟨rs,l,t,m⟩:=h.marks.D4 z;exact⟨rs,l,t,λr N=>⟨(m r N).1,(m r N).2.1,λv=>(m r N).2.2 (n r v)⟩⟩
def ql{B:Below}(D:BOk C B){b_:TC}{ops:To}{t:Nat->Ts}(d:∀i j k,t i=some k->t j=some k->i=j)(h0:∀i k,t i=some k->m8.length<=k)(b:Frame)(k:TB)(cs:List Frame) :
  ∀(l:TC) (g9 n:St) (a:Act) (w:TS) (la:q_) (mu:ke),FI C base m8 n9 m7 la mu g9 a w->(∀i∈l,∀k,t i=some k->k<g9.heap.length/\mu k=none)->ju C B b_ ops t l g9 n->
  ∃a' w' R m,FI C base m8 n9 m7 R m n a' w'/\
   Steps C.P (lone (b.atR a (.inRegion ops l :: k)) cs w) (lone (b.atR a' k) cs w')
 | [],g9,n,a,w,la,mu,h,_,L=>by
  cases L;exact⟨a,w,la,mu,h,.one stepR_region_end⟩
 |i :: l,g9,n,a,w,la,mu,h,N,L=>by
  obtain⟨ad,j6,h1,Y⟩:=L;unfold ed at h1;split at h1
  .obtain⟨o9,r9,u4,uc,g1,X,g2⟩:=wk D h h1 b l k cs;obtain⟨V,T,W,U,z,A⟩:=ql D d h0 b k cs l j6 n o9 r9 u4 uc g1 (λj E k v=>by
    obtain⟨y,S⟩:=N j (E7 _ E) k v;exact⟨qc1 y X.len,by rw[X.same k y];exact S⟩) Y
   exact⟨V,T,W,U,z,g2.trans A⟩
  next r v=>
   obtain⟨o,f,Hx,x,mk,ho,hw,Z,hf,hl,hd,q,rfl⟩:=h1;have O:=mQ (a:=a) h.sr.D3 hw;have H:=iJ Z;have K:=yM h.sr h.big Z;obtain⟨nx,v',w',m,y,S,s,q4,q5,q6⟩:=K _ _ hf;obtain⟨u1,u2⟩:=N i c_ r v;have hS:=h.slot q4 q5 q6 hl hd u2 (h0 i r v);have G:VR y8 (dq m Hx.length r) (mk r) v':=q.at_ s (λp hp=>by
    unfold dq
    simp_all)
   have hF:=hS.put o.dst G.up;have J:nx = .value v':=by
    rcases S with h|⟨_,rfl⟩
    .exact h
    .exfalso;cases q with
     |ptr=>cases s
     |slice e l c=>
      generalize g:(Value.slice (some ⟨g9.heap.length,0,le e⟩) l c)=u at s;cases s<;>first|cases g|(rename_i M;subst g;simp[Am.scalar]at M)
     |map=>cases s
   subst J;obtain⟨V,T,W,U,z,A⟩:=ql D d h0 b k cs l _ n _ _ _ _ hF (λj E Q F=>by
    obtain⟨p1,p2⟩:=N j (E7 _ E) Q F;have I:Q≠r:=λe=>by
     grind
    refine⟨?_,?_⟩
    .cases o.dst<;>simp[St.put,hl]<;>exact p1
    .unfold dq;rw[te I,te a_,q5.same Q p1];exact p2) Y
   exact⟨V,T,W,U,z,(Steps.one (dy ho O H y)).trans A⟩
def W0{B:Below}(l:BOk C B){b_:TC}{ops:To}{m:St}(h:FI C base m8 n9 m7 la mu g9 a w)(f:eo C B b_ ops g9 m)(t:Nat)(b:Frame)(k:TB)(cs:List Frame) :
  ∃a' w' g j,FI C base m8 n9 m7 g j m a' w'/\
   Steps C.P (lone (b.atR a (.inRegion ops (Region.linearise .any ops t) :: k)) cs w) (lone (b.atR a' k) cs w'):=by
 rcases f with f|⟨q,n,_,e,o,p⟩
 .exact LC l b k cs _ _ _ _ _ _ _ h (f t)
 .have c:=h.D4.len;exact ql l o (λi k d=>NN c (e i k d).1) b k cs _ _ _ _ _ _ _ (h.pad n) (λi _ k d=>⟨by simpa[St.pad]using(e i k d).2,h.sr.wr.Hw k (e i k d).1⟩) (p t)
end
end
section
variable [Co]
section
variable [Dw] {C:m'} {base:Nat} {m8:Tu} {n9:ke} {m7:TS} {la:q_} {mu:ke} {g9:St} {a:Act} {w:TS}
def fB(b:TC):∀(l:List (Option (Tn))) (i j:Nat),(iG b l i)[j]?=if b.contains (i+j)then(l[j]?).map (λ_=>none)else l[j]?
 | [],i,j=>by simp[iG]
 |x :: l,i,j=>by
  cases j with
  |zero=>simp only[iG,hz,r0];split<;>rfl
  |succ j=>
   simp only[iG,z2];rw[fB b l (i+1) j,show i+1+j=i+(j+1)by omega]
def Mn{b:TC}{v c:TR}(h:VR la mu v c):VR (λs=>if b.contains s then none else la s) mu (jH b v) c:=by
 unfold jH;split
 next f=>
  split
  .exact .w9 c
  next d=>
   cases h with
   |scalar h=>simp[Am.scalar]at h
   |Es h=>
    simp at d;exact .Es (by simp[d,h])
   |DM h=>exact .DM h
   |DV=>exact .DV
 .split
  next e=>exact(ft e h).up
  .exact .w9 c
def FI.clear(h:FI C base m8 n9 m7 la mu g9 a w)(d:TC):∃m,FI C base m8 n9 m7 m mu (g9.clear d) a w:=by
 unfold St.clear;split
 .exact⟨la,h⟩
 .refine⟨λs=>if d.contains s then none else la s,⟨?_,?_,?_,?_,h.sr.wr⟩,h.D4,?_,h.marks,h.low⟩
  .refine⟨by simpa using h.sr.D3.1,λi x y k q=>?_⟩;rw[Ew]at k;cases l:g9.tmps[i]? with
   |none=>rw[l]at k;cases k
   |some v=>
    rw[l]at k;cases k;exact Mn (h.sr.D3.2 i v y l q)
  .intro s b f;split at f
   .cases f
   next p=>
    obtain⟨n,o⟩:=h.sr.Ga s b f;exact⟨n,by rw[fB,ER,te p];exact o⟩
  .intro s n g;rw[fB,ER]at g;split at g
   .simp_all
   next p=>
    obtain⟨b,c,e,o,t⟩:=h.sr.loc s n g
    simp_all
  .intro s r b g j;split at g
   .cases g
   .split at j
    .cases j
    .exact h.sr.GG s r b g j
  .intro s b f;split at f
   .cases f
   .exact h.fresh s b f
def FI.drew(h:FI C base m8 n9 m7 la mu g9 a w)(n:Nat)(b:w.drawn<=n):FI C base m8 n9 m7 la mu g9 a { w with drawn:=n }:=
 ⟨⟨h.sr.D3,h.sr.Ga,h.sr.loc,h.sr.GG,h.sr.wr.drew n⟩,h.D4.drew n b,h.fresh,h.marks,h.low⟩
def yk{P:TI}{b:Frame}{a:Act}{k:TB}{cs:List Frame}{w:TS}{c:Code} :
  step P (lone (b.atR a (.code (.scope c) :: k)) cs w) = .next (lone (b.atR a (.code c :: .inScope c :: k)) cs w):=
 step_lone_go (by simp[stepG,stepG.exec,Frame.atR])
def uh{P:TI}{b:Frame}{a:Act}{k:TB}{cs:List Frame}{w:TS}{c:Code} :
  step P (lone (b.atR a (.inScope c :: k)) cs w) = .next (lone (b.atR a k) cs w):=
 step_lone_go (by simp[stepG,stepG.exec,Frame.atR])
def Arr(P:TI)(b:Frame)(k:TB)(cs:List Frame)(m:Machine)(a':Act)(w':TS):Exit->Prop
 | .normal=>Steps P m (lone (b.atR a' k) cs w')
 | .ret=>∃c,Steps P m (lone (b.atR a' (.code .ret :: c)) cs w')
 | .exit id=>∃c,Steps P m (lone (b.atR a' (.code (.exit id) :: c)) cs w')/\exitTo id c=exitTo id k
 |_=>False
def Arr.of_steps{P:TI}{b:Frame}{k:TB}{cs:List Frame}{m d:Machine}{a':Act}{w':TS}{e:Exit}(h:Steps P m d)(h':Arr P b k cs d a' w' e):Arr P b k cs m a' w' e:=by
 cases e with
 |normal=>exact h.trans h'
 |ret=>obtain⟨t,h'⟩:=h';exact⟨t,h.trans h'⟩
 |exit id=>obtain⟨t,h',c⟩:=h';exact⟨t,h.trans h',c⟩
 |_=>exact h'.elim
def Arr.pass{P:TI}{b:Frame}{x:Item}{k:TB}{cs:List Frame}{m:Machine}{a':Act}{w':TS}{e:Exit}(g:∀id,exitTo id (x :: k)=exitTo id k)(f:e≠.normal)(h:Arr P b (x :: k) cs m a' w' e):Arr P b k cs m a' w' e:=by
 cases e with
 |normal=>exact absurd rfl f
 |ret=>exact h
 |exit id=>obtain⟨t,d,c⟩:=h;exact⟨t,d,by rw[c,g]⟩
 |_=>exact h.elim
end
def qM(C:m')(S:Fg):Prop:=
 ∀(_:Dw) (c:Nat) (i:Tu) (j:ke) (h:TS) (l:Ts) (m:TQ) (b_:TC) (code:Code) (g9 g:St) (e:Exit) (la:q_) (mu:ke) (a:Act) (w:TS),(b_≠[]->l=none)->
  S.ex b_ code g9 e g->FI C c i j h la mu g9 a w->∀(b:Frame) k cs,b.roundOf=l->b.fn=m->
  ∃a' w' d f,FI C c i j h d f g a' w'/\Arr C.P b k cs (lone (b.atR a (.code code :: k)) cs w) a' w' e
section
variable [Dw] {C:m'} {base:Nat} {m8:Tu} {n9:ke} {m7:TS} {la:q_} {mu:ke} {g9:St} {a:Act} {w:TS}
def ou(e:WR C base mu g9.heap w){id:Nat}{r:Fp}(h:eI g9.heap id=some r):∃p,mu id=some p/\g9.heap[id]?=some (.loop r)/\
  ∃L:Loop,w.heap[p.b]?=some (.loop L)/\L.state=r.state/\L.pending=r.pending/\L.params.toList=r.params/\L.assign=r.assign/\L.body=r.body/\u9 y8 mu r.tmps L.tmps.toList:=by
 unfold eI at h;split at h
 next f i'=>
  cases h;obtain⟨p,c,d⟩:=e.obj id _ i' rfl;exact⟨p,c,i',d⟩
 .cases h
def WR.Ho(i:WR C base mu g9.heap w){id:Nat}{r r':Fp}{p:Pl}{L':Loop}(i':g9.heap[id]?=some (.loop r))(h:mu id=some p)
  (h1:L'.state=r'.state) (c:L'.pending=r'.pending) (d:L'.params.toList=r'.params) (e:L'.assign=r'.assign) (f:L'.body=r'.body) (g:u9 y8 mu r'.tmps L'.tmps.toList) :
  WR C base mu (g9.heap.set id (.loop r')) { w with heap:=w.heap.setIfInBounds p.b (.loop L') }/\El g9.heap mu w (g9.heap.set id (.loop r')) mu { w with heap:=w.heap.setIfInBounds p.b (.loop L') }:=
 i.set (w':={ w with heap:=w.heap.setIfInBounds p.b (.loop L') }) (x:=.loop L') i' rfl h rfl rfl rfl rfl (.loop r') (λ_=>rfl) ⟨L',rfl,h1,c,d,e,f,g⟩
def Ns{b tm:Tn}{cs:Tn}(c:yx b tm)(h:u9 la mu b cs):u9 y8 mu tm cs:=by
 refine⟨by rw[c.1,h.1],λi x y f g=>?_⟩;rcases c.2 i x f with rfl|⟨d,e⟩
 .exact .w9 y
 .exact ft e (h.2 i x y d g)
def WR.other(e:WR C base mu g9.heap w)(o:Obj):WR C base mu g9.heap (w.alloc o)/\El g9.heap mu w g9.heap mu (w.alloc o):=by
 have d:∀b,b<w.heap.size->(w.alloc o).heap[b]?=w.heap[b]?:=λb f=>by
  show(w.heap.push _)[b]?=_
  grind
 refine⟨⟨?_,e.inj,e.own,e.ro,e.Hw,?_⟩,⟨A9 _,λ_ _=>rfl,c_,λb f _=>d b f,λb f=>.inr f,rfl,rfl,rfl,A9 _⟩⟩
 .intro id x i' j;obtain⟨p,i,h⟩:=e.obj id x i' j;exact⟨p,i,by rw[d _ (jY j h)];exact h⟩
 .intro g l k;obtain⟨i,h,c,m,n,q,r⟩:=e.DL g l k
  grind
def gZ{l:Nat}{L:Loop}(h:w.heap[l]?=some (.loop L)):(Instr.getLoop l).run C.P w = .ok L w:=by
 have:(getObj l).run C.P w = .ok (.loop L) w:=by simp[getObj,Sem.run,h]
 simp[Instr.getLoop,this]
def kw{l:Nat}{L:Loop}{o:Obj}(h:w.heap[l]?=some (.loop L)):(setObj l o).run C.P w = .ok () { w with heap:=w.heap.setIfInBounds l o }:=by
 simp[setObj,Sem.run,h]
def xZ{l:Nat}{L:Loop}(h:w.heap[l]?=some (.loop L))(b:L.state≠.busy) :
  (Instr.endLoop l).run C.P w = .ok L.pending { w with heap:=w.heap.setIfInBounds l (.loop { L with state:=.exhausted }) }:=by
 simp[Instr.endLoop,Sem.run_bind,gZ h,kw h,Result.andThen]
 simp_all
def qJ{l:Nat}{L:Loop}(h:w.heap[l]?=some (.loop L))(b:L.state = .ready) :
  (Instr.beginRound l).run C.P w = .ok () { w with heap:=w.heap.setIfInBounds l (.loop { L with state:=.busy }) }:=by
 simp[Instr.beginRound,Sem.run_bind,gZ h,b,kw h,Result.andThen]
def vZ{l:Nat}{L:Loop}(h:w.heap[l]?=some (.loop L))(j:Tm) :
  (Instr.endRound l j).run C.P w = .ok (.bool j.isNone) { w with heap:=w.heap.setIfInBounds l (.loop { L with state:=if j.isNone then .ready else .done,pending:=j }) }:=by
 simp[Instr.endRound,Sem.run_bind,gZ h,kw h,Result.andThen]
end
section
variable {C:m'}
def Mp(hm:C.P.follows .mixedOrders=true){S:Fg}(hB:BOk C S.toBelow)(hS:qM C S):qM C { S with ex:=pz C S }:=by
 intro _ d Y Z X ro fn D a0 g9 i6 e Q I a w B j h b k cs hb V;cases a0 with
 |skip=>
  obtain⟨rfl,rfl⟩:=j;exact⟨a,w,Q,I,h,.one stepR_skip⟩
 |label l=>
  obtain⟨rfl,rfl⟩:=j;exact⟨a,w,Q,I,h,.one stepR_label⟩
 |ret=>
  obtain⟨rfl,rfl⟩:=j;exact⟨a,w,Q,I,h,⟨k,.refl _ _⟩⟩
 |exit id=>
  obtain⟨rfl,rfl⟩:=j;exact⟨a,w,Q,I,h,⟨k,.refl _ _,rfl⟩⟩
 |goto l=>exact j.elim
 |refuse s=>exact j.elim
 |seq x y=>
  obtain⟨s8,j6,N,h2⟩:=j;obtain⟨q,z,J,K,E,F⟩:=hS _ d Y Z X ro fn D x g9 j6 s8 Q I a w B N h b (.code y :: k) cs hb V;rcases h2 with⟨rfl,h2⟩|⟨A,rfl,rfl⟩
  .obtain⟨w6,R,w7,w0,g3,g4⟩:=hS _ d Y Z X ro fn D y j6 i6 e J K q z B h2 E b k cs hb V;exact⟨w6,R,w7,w0,g3,.of_steps (.head stepR_seq F) g4⟩
  .exact⟨q,z,J,K,E,.of_steps (.one stepR_seq) (.pass (λid=>rfl) A F)⟩
 |cond c x y=>
  obtain⟨t,ht,N⟩:=j;obtain⟨q,z,J,K,E,F⟩:=hS _ d Y Z X ro fn D _ g9 i6 e Q I a w B N h b k cs hb V;have hc:=aK h.sr c;rw[ht]at hc;exact⟨q,z,J,K,E,.of_steps (.one (stepR_cond hc.bool)) F⟩
 |block id x=>
  obtain⟨s8,N,rfl⟩:=j;obtain⟨q,z,J,K,E,F⟩:=hS _ d Y Z X ro fn D x g9 i6 s8 Q I a w B N h b (.inBlock id :: k) cs hb V;refine⟨q,z,J,K,E,?_⟩;have g:=F;refine .of_steps (.one stepR_block) ?_;cases s8 with
  |normal=>exact Steps.trans g (.one stepR_inBlock)
  |ret=>exact g
  |exit i=>
   obtain⟨t,s1,M⟩:=g;show Arr C.P b k cs _ q z (if i=id then .normal else .exit i);by_cases hi:i=id
   .rw[rv hi];subst hi;have:exitTo i t=some k:=by rw[M];simp[exitTo]
    exact s1.trans (.one (stepR_exit this))
   .rw[te hi];refine⟨t,s1,?_⟩;rw[M];have A:(id==i)=false:=jn;simp[exitTo,A]
  |_=>exact g.elim
 |loop x=>
  obtain⟨s8,j6,N,h2⟩:=j;obtain⟨BS,h0⟩:=h.clear (aQ D x);obtain⟨q,z,J,K,E,F⟩:=hS _ d Y Z X ro fn D x _ j6 s8 BS I a w B N h0 b (.inLoop x :: k) cs hb V;rcases h2 with⟨rfl,h2⟩|⟨A,rfl,rfl⟩
  .obtain⟨w6,R,w7,w0,g3,g4⟩:=hS _ d Y Z X ro fn D (.loop x) j6 i6 e J K q z B h2 E b k cs hb V;refine⟨w6,R,w7,w0,g3,?_⟩;have s1:Steps C.P (lone (b.atR a (.code (.loop x) :: k)) cs w) (lone (b.atR q (.inLoop x :: k)) cs z):=.head stepR_loop F;have M:=g4;have ay:∀T,Steps C.P (lone (b.atR q (.code (.loop x) :: k)) cs z) T->(∃n,runN C.P (n+1) (lone (b.atR q (.code (.loop x) :: k)) cs z) = .next T)∨T=lone (b.atR q (.code (.loop x) :: k)) cs z:=by
    rintro T ⟨n,W⟩;cases n with
    |zero=>simp[runN]at W;exact .inr W.symm
    |succ n=>exact .inl ⟨n,W⟩
   have ax:∀T,Steps C.P (lone (b.atR q (.code (.loop x) :: k)) cs z) T->T≠lone (b.atR q (.code (.loop x) :: k)) cs z->Steps C.P (lone (b.atR q (.inLoop x :: k)) cs z) T:=by
    intro T b1 A;rcases ay T b1 with⟨n,W⟩|rfl
    .refine⟨n+1,?_⟩;simp only[runN,stepR_loop,stepR_inLoop]at W ⊢;exact W
    .exact absurd rfl A
   have G:∀(a':Act) (t:TB) (w':TS),t≠.code (.loop x) :: k->lone (b.atR a' t) cs w'≠lone (b.atR q (.code (.loop x) :: k)) cs z:=by
    intro a' t w' A e;have e':=congrArg (λm:Machine=>(m.gs[0]?).map (λg=>g.frame.todo)) e;simp[lone,Frame.atR]at e';exact A e'
   refine .of_steps s1 ?_;cases e with
   |normal=>
    refine ax _ M (G _ _ _ λe=>?_);have:=congrArg List.length e;simp at this
   |ret=>
    obtain⟨t,M⟩:=M;exact⟨t,ax _ M (G _ _ _ λe=>by simp at e)⟩
   |exit id=>
    obtain⟨t,M,s3⟩:=M;exact⟨t,ax _ M (G _ _ _ λe=>by simp at e),s3⟩
   |_=>exact M.elim
  .exact⟨q,z,J,K,E,.of_steps (.one stepR_loop) (.pass (λid=>rfl) A F)⟩
 |scope x=>
  obtain⟨q,z,J,K,E,F⟩:=hS _ d Y Z X ro fn D x g9 i6 e Q I a w B j h b (.inScope x :: k) cs hb V;refine⟨q,z,J,K,E,.of_steps (.one yk) ?_⟩;have g:=F;by_cases W:e = .normal
  .subst W;exact Steps.trans g (.one uh)
  .exact .pass (λid=>rfl) W g
 |region id b7 a1=>
  obtain⟨rfl,N⟩:=j;cases a1 with
  |false=>
   obtain⟨q,z,J,K,E,F⟩:=Ai hB b k cs _ _ _ _ _ _ _ h N;exact⟨q,z,J,K,E,.head stepR_region F⟩
  |true=>
   have hd:FI C d Y Z X Q I g9 a { w with drawn:=w.drawn+1 }:=h.drew _ (Nat.le_succ _);obtain⟨u0,h0,N⟩:=N;obtain⟨q,z,J,K,E,F⟩:=W0 hB (hd.Lq h0) N (w.tape w.drawn (.order fn id)) b k cs;refine⟨q,z,J,K,E,.head stepR_region_draw ?_⟩;rw[hm,V];exact F
 |rangeFunc f params assign body=>
  obtain⟨a9,g,first,ag,y0,tm,r,H,v6,aE,b0,b2,av,hl,ap,o,rfl⟩:=j;obtain rfl:=B a9;have a6:=aK h.sr f;rw[b0]at a6;obtain⟨x',y',bP,r1,r2⟩:=a6.F8;have ad:first.toList.all aS=true/\ag.toList.all aS=true:=by simpa[n_]using b2
  have d1:u9 y8 I first.toList x'.toList:=⟨r1.1,λi u v hu hv=>fL (cN ad.1 hu) (r1.2 i u v hu hv)⟩
  have d2:u9 y8 I ag.toList y'.toList:=⟨r2.1,λi u v hu hv=>fL (cN ad.2 hu) (r2.2 i u v hu hv)⟩;obtain⟨bt,a2⟩:=h.sr.wr.other (.deferred (some []));have b5:(w.alloc (.deferred (some []))).heap[w.heap.size]?=some (.deferred (some [])):=by
   show(w.heap.push _)[_]?=_;simp
  have b3:¬HI I g9.heap w.heap.size:=λho=>by have:=(HI.lt h.sr.wr ho).1;omega
  have al:FI C d Y Z X Q I g9 { a with defers:=({ target:=.collected w.heap.size,args:=#[] }:Deferred) :: a.defers } (w.alloc (.deferred (some []))):=by
   have h':=h.heap bt a2;refine⟨h'.sr,h'.D4,h'.fresh,?_,h'.low⟩;obtain⟨rs,k1,k2,k3⟩:=h.marks;have a8:∀r∈rs,r<w.heap.size:=λr hr=>by
    grind
   refine⟨w.heap.size :: rs,by rw[k1];rfl,zS.2 ⟨λhm=>by have:=a8 _ hm;omega,k2⟩,λr hr=>?_⟩;rcases DB.1 hr with rfl|hr
   .exact⟨h.D4.size,b5,b3⟩
   .obtain⟨k4,k5,k6⟩:=k3 r hr;exact⟨k4,by rw[a2.j9 r (a8 r hr) k6];exact k5,k6⟩
  have bC:d<=(w.alloc (.deferred (some []))).heap.size:=al.big
  let L:Loop:={ state:=.ready,pending:=none,fn,tmps:=a.tmps,params,assign,body,defers:=w.heap.size }
  let R:TS:=(w.alloc (.deferred (some []))).alloc (.loop L)
  let p:Pl:=⟨(w.alloc (.deferred (some []))).heap.size,0,0,0⟩
  obtain⟨a4,bk,_⟩:=al.sr.wr.new bC (w':=R) (x:=.loop L) rfl rfl rfl rfl (.loop { state:=.ready,pending:=none,fn:=y0,tmps:=tm,params:=params.toList,assign,body }) p rfl
   ⟨L,rfl,rfl,rfl,rfl,rfl,rfl,Ns aE h.sr.D3⟩ (λ_=>rfl)
  have a3:=al.heap a4 bk;have O:=lP h.sr.wr p;have an:u9 y8 (HC I g9.heap.length p) (first.toList++[.func (.yield g9.heap.length) #[] #[]]++ag.toList) (x' ++ #[Value.func (.yield p.b) #[] #[]]++y').toList:=by
   simp only[Y0];exact((d1.mono (λ_ _ h=>h) O).append (.cons (.yield (bL _ _ _)) .nil)).append (d2.mono (λ_ _ h=>h) O)
  obtain⟨v,bd,w',q1,q2,q3,q4,q5⟩:=hB.call _ _ _ _ _ av _ d _ R _ a3.big an a4 (b.atR { a with defers:=[({ target:=.collected w.heap.size,args:=#[] }:Deferred)]++a.defers } (.inRangeFunc p.b :: k) :: cs);have bm:=a3.heap q2 q3;have b6:bd g9.heap.length=some p:=by rw[q3.same _ c_];exact bL _ _ _
  obtain⟨p',b4,i',L',bs,e1,e2,e3,e4,e5,e6⟩:=ou (g9:={ g9 with heap:=H }) q2 hl;obtain rfl:p'=p:=kb;obtain⟨bx,bl⟩:=WR.Ho (g9:={ g9 with heap:=H }) q2 i' b4 (r':={ v6 with state:=.exhausted }) (L':={ L' with state:=.exhausted }) rfl e2 e3 e4 e5 e6;have bn:=bm.heap bx bl;refine⟨_,_,Q,bd,bn,?_⟩;have U:(Instr.enterLoop b.fn a.tmps params assign body b.roundOf).run C.P w = .ok (p.b,[({ target:=.collected w.heap.size,args:=#[] }:Deferred)]) R:=by
   rw[hb,V];rfl
  have bb:(resolve a.eval (rangeCall f p.b) 0).run C.P R = .ok { target:=.fn (.func g) y',args:=x' ++ #[.func (.yield p.b) #[] #[]] } R:=by
   have Dy:Array.map a.eval #[Operand.const (Value.func (Fn.yield p.b) #[] #[])] = #[Value.func (Fn.yield p.b) #[] #[]]:=by simp[Act.eval]
   simp only[resolve,bP,Deferred.ofValue,Dy];rfl
  have a7:(invoke (.fn (.func g) y') (x' ++ #[.func (.yield p.b) #[] #[]])).run C.P R = .ok (.enter g (x' ++ #[.func (.yield p.b) #[] #[]]++y')) R:=q4;have s1:=stepR_rangeFunc (P:=C.P) (b:=b) (a:=a) (k:=k) (cs:=cs) U bb a7;obtain⟨fr,M,_,s3⟩:=q5;have a5:(Instr.endLoop p.b).run C.P w' = .ok v6.pending { w' with heap:=w'.heap.setIfInBounds p.b (.loop { L' with state:=.exhausted }) }:=by
   rw[←e2];exact xZ bs (by rw[e1];exact ap)
  have s4:Steps C.P (lone (b.atR a (.code (.rangeFunc f params assign body) :: k)) cs w) (lone (b.atR { a with defers:=[({ target:=.collected w.heap.size,args:=#[] }:Deferred)]++a.defers } ((v6.pending.map Item.code).toList++k)) cs { w' with heap:=w'.heap.setIfInBounds p.b (.loop { L' with state:=.exhausted }) }):=by
   refine .head s1 (M.trans (.head ?_ (.one (stepR_endRangeFunc a5))));rw[←finish_atR_inRangeFunc p.b v];exact step_leave_returned s3
  unfold yQ at o;split at o
  next hp=>cases o;rw[hp]at s4;exact s4
  next hp=>cases o;rw[hp]at s4;exact⟨k,s4⟩
  next hp=>cases o;rw[hp]at s4;exact⟨k,s4,rfl⟩
  .cases o
end
end
section
variable [Co]
section
variable [Dw] {C:m'} {base:Nat} {m8:Tu} {n9:ke} {m7:TS} {la:q_} {mu:ke} {g9:St} {a:Act} {w:TS}
def FI.shut{d:Deferred}{ds:List Deferred}(h:FI C base m8 n9 m7 la mu g9 a w)(F:a.defers=d :: ds) :
  ∃r,d.target = .collected r/\(Instr.takeDeferred r).run C.P w = .ok [] { w with heap:=w.heap.setIfInBounds r (.deferred none) }/\
   FI C base m8 n9 m7 la mu g9 { a with defers:=ds } { w with heap:=w.heap.setIfInBounds r (.deferred none) }:=by
 obtain⟨v,l,B,D⟩:=h.marks;rw[F]at l;cases v with
 |nil=>cases l
 |cons r v=>
  simp only[DD,Hz]at l;obtain⟨rfl,rfl⟩:=l;obtain⟨N,u,K⟩:=D r c_;have H:r<w.heap.size:=(IG.1 u).1;have j:∀b,b≠r->(w.heap.setIfInBounds r (.deferred none))[b]?=w.heap[b]?:=λb E=>r1 (CY E);have A:=h.low;refine⟨r,rfl,?_,⟨⟨h.sr.D3,h.sr.Ga,?_,h.sr.GG,⟨?_,h.sr.wr.inj,h.sr.wr.own,h.sr.wr.ro,h.sr.wr.Hw,?_⟩⟩,?_,h.fresh,?_,h.low⟩⟩
  .have m:(getObj r).run C.P w = .ok (.deferred (some [])) w:=by simp[getObj,Sem.run,u]
   have t:(setObj r (.deferred none)).run C.P w = .ok () { w with heap:=w.heap.setIfInBounds r (.deferred none) }:=by simp[setObj,Sem.run,u]
   simp[Instr.takeDeferred,Sem.run_bind,m,t,Result.andThen]
  .intro s x t;obtain⟨b,c,e,i,y,e3,e4⟩:=h.sr.loc s x t
   grind
  .intro id o i' z;obtain⟨p,i,y⟩:=h.sr.wr.obj id o i' z;refine⟨p,i,?_⟩;show Eg mu p (w.heap.setIfInBounds r (.deferred none))[p.b]? o;by_cases q:p.b=r
   .exfalso;by_cases f:o.owned=true
    .exact K ⟨id,o,p,i',f,i,q⟩
    .have:=h.sr.wr.ro id o p i' z (by simpa using f) i;omega
   simp_all
  .intro g x m;obtain⟨i,y,c,L,M,e3,e4⟩:=h.sr.wr.DL g x m
   grind
  .refine⟨h.D4.len,h.D4.same,by simpa using h.D4.size,λk G I=>?_,h.D4.Ea,h.D4.os,h.D4.tape,h.D4.output,h.D4.dr⟩;rw[←h.D4.j9 k G I];exact j k a_
  .have n:=zS.1 B;refine⟨v,rfl,n.2,λO J=>?_⟩
   grind
def wq:∀(ds:List Deferred) (a:Act) (w:TS),a.defers=ds->FI C base m8 n9 m7 la mu g9 a w->
  ∃w',FI C base m8 n9 m7 la mu g9 { a with defers:=[] } w'/\
   ∀(b:Frame) (c:TB) (cs:List Frame),Steps C.P (lone { b.atR a c with mode:=.returning } cs w) (lone { b.atR { a with defers:=[] } c with mode:=.returning } cs w')
 | [],a,w,e,h=>by
  obtain⟨f,defers⟩:=a;simp only at e;subst e;exact⟨w,h,λb c cs=>.refl _ _⟩
 |d :: ds,a,w,e,h=>by
  obtain⟨r,g,i,j⟩:=h.shut e;obtain⟨w',k,l⟩:=wq ds { a with defers:=ds } _ rfl j;refine⟨w',k,λb c cs=>.head ?_ (l b c cs)⟩;exact step_collected (fr:={ b.atR a c with mode:=.returning }) c_ (show a.defers=d :: ds from e) g i
def mJ(b:Tl):ResultVar->Sem Value
 | .tmp t=>pure (b.getD t undef)
 | .cell p t=>do loadVar t (←asAddr (b.getD p undef))
def Bu(c:Func)(b:Tl):results c b=(do
  let vs ←c.results.mapM (mJ b)
  pure (if h:vs.size=1 then vs[0]else .tuple vs)):=by
 have:(λx=>match x with
  |ResultVar.tmp t=>pure (b.getD t undef)
  |ResultVar.cell p t=>(do loadVar t (←asAddr (b.getD p undef)):Sem Value))=mJ b:=by
  funext x;cases x<;>rfl
 rw[←this];rfl
def Bs(h:SR C base la mu g9 a.tmps w){x:ResultVar}{v:TR}(b:fR C g9 x=some v) :
  ∃v',(mJ a.tmps x).run C.P w = .ok v' w/\VR la mu v v':=by
 have f:∀t,VR la mu (g9.tmps.getD t undef) (a.tmps.getD t undef):=λt=>aK h (.tmp t);cases x with
 |tmp t=>
  simp only[fR]at b;cases b;exact⟨_,rfl,f t⟩
 |cell p t=>
  simp only[fR]at b;have j:=f p;split at b
  next u A=>
   rw[A]at j;split at b
   next d=>
    cases g:ge g9.heap u.block with
    |none=>simp_all
    |some B=>
     rw[g]at b;generalize r:a.tmps.getD p undef=y at j ⊢;cases j with
     |scalar q=>simp[Am.scalar]at q
     |Es _=>simp at d
     |DV=>simp at d
     |DM o=>
      obtain⟨c,e,D,k,l⟩:=vp h.wr g o;obtain⟨v',s,m⟩:=dZ (C:=C) l b k;exact⟨v',by simp only[mJ,r,asAddr];exact s,m.up⟩
   next d=>
    split at b
    next B i=>
     generalize r:a.tmps.getD p undef=y at j ⊢;cases j with
     |scalar q=>simp[Am.scalar]at q
     |DM _=>simp at d
     |DV=>simp at d
     |Es n=>
      obtain⟨c,e,k,l,s⟩:=Jb h i n;obtain⟨v',m,z⟩:=dZ (C:=C) (cD.FQ l) b k;exact⟨v',by simp only[mJ,r,asAddr];simpa using m,z.up⟩
    .cases b
   .cases b
  .cases b
def qg(h:SR C base la mu g9 a.tmps w):∀ {l:List ResultVar} {vs:Tn},dd C g9 l=some vs->
  ∃b,(l.mapM (mJ a.tmps)).run C.P w = .ok b w/\u9 la mu vs b
 | [],vs,c=>by
  cases c;exact⟨[],c_,.nil⟩
 |x :: l,vs,c=>by
  simp only[dd]at c;split at c
  next v i g d=>
   cases c;obtain⟨v',h1,e⟩:=Bs h g;obtain⟨b,j,f⟩:=qg h d;refine⟨v' :: b,?_,.cons e f⟩
   simp_all
  .cases c
def Bv(h:SR C base la mu g9 a.tmps w){d:Func}{vs:Tn}(f:dd C g9 d.results.toList=some vs) :
  ∃v',(results d a.tmps).run C.P w = .ok v' w/\VR la mu (fQ vs) v':=by
 obtain⟨c,e,b⟩:=qg h f;rw[Bu,qc4,Sem.run_bind,Sem.run_map,e]
 match vs,c,b with
 | [],[],_=>exact⟨_,rfl,.undef⟩
 | [v],[v'],b=>exact⟨v',rfl,b.head⟩
 |v :: u :: l,v' :: i :: g,b=>exact⟨.tuple (v' :: i :: g).toArray,rfl,u9.tuple (a:=(v :: u :: l).toArray) a_⟩
 | [],_ :: _,b=>simpa using b.1
 | [_],[],b=>simpa using b.1
 | [_],_ :: _ :: _,b=>simpa using b.1
 |_ :: _ :: _,[],b=>simpa using b.1
 |_ :: _ :: _,[_],b=>simpa using b.1
end
section
variable {C:m'}
def Mg{S:Fg}(L:qM C S){f:TQ}{args:Tn}{H:Tu}{r:TR}{H':Tu}(h:nT C S f args H r H'):dG C f args H r H':=by
 obtain⟨fn,n,e,J,Y,k,i,d,A,O,p,rfl,B,rfl⟩:=h;rw[ng]at d
 replace d:=d.1
 intro _ m v w c N g M x
 let u:Act:={ tmps:=c++Array.replicate (fn.ntmps - c.size) undef,defers:=[] }
 have o:args.length=c.size:=by simpa using g.1
 have K:FI C m H v w y8 v (mZ fn args H) u w:=by
  refine⟨⟨?_,λs b h=>by simp[y8]at h,λs Y T=>?_,λs Z b h=>by simp[y8]at h,M⟩,.refl _ _ _,λs b h=>by simp[y8]at h,⟨[],rfl,c_,λr R=>by simp at R⟩,N⟩
  .simp only[mZ,u,Y0,Array.toList_replicate,o];exact g.append (.replicate _ .undef)
  .simp only[mZ,YY]at T
   simp_all
 let b:Frame:={ (default:Frame)with fn:=f,kind:=.normal,roundOf:=none }
 obtain⟨q,U,u4,W,F,G⟩:=L _ m H v w none f _ n _ J e y8 v u w (λ_=>rfl) A K b [] x rfl rfl;obtain⟨V,y,D⟩:=wq q.defers q U rfl F;obtain⟨X,E,I⟩:=Bv (a:={ q with defers:=[] }) y.sr p;refine⟨X,W,V,ft B I,y.sr.wr,y.D4,?_,?_⟩
 .have z:fn.body.isNone=false:=by rw[i];rfl
  have Q:(program).run C.P w = .ok C.P w:=rfl;simp only[callFunc,Sem.run_bind,Q,Result.andThen_ok,k,d,z];rfl
 .have j:Frame.enter C.P f c .normal=b.atR u [.code n]:=by simp[Frame.enter,Frame.atR,k,i,b,u]
  rw[j];have l:=G;rcases O with rfl|rfl
  .refine⟨{ b.atR { q with defers:=[] } []with mode:=.returning },(Steps.trans l (.one (stepR_end rfl))).trans (D b [] x),rfl,rfl,rfl,rfl,fn,k,E⟩
  .obtain⟨t,l⟩:=l;refine⟨{ b.atR { q with defers:=[] } (.code .ret :: t)with mode:=.returning },(l.trans (.one (stepR_ret rfl))).trans (D b _ x),rfl,rfl,rfl,rfl,fn,k,E⟩
section
variable [Dw] {la:q_} {mu:ke}
def vW:∀(d:List Tmp) (vs cs:Tn) (b:Tn) (a:Tl),vs.length=d.length->u9 la mu vs cs->u9 la mu b a.toList->
  u9 la mu (cR d vs b) ((d.zip cs).foldl (λ(t:Tl) (x:Tmp×Value)=>t.setIfInBounds x.1 x.2) a).toList
 | [],vs,cs,b,a,e,h,g=>by
  cases vs with
  |nil=>simpa[cR]using g
  |cons _ _=>simp at e
 |t :: d,vs,cs,b,a,e,h,g=>by
  cases vs with
  |nil=>simp at e
  |cons v vs=>
   obtain⟨c,f,rfl,h1,i⟩:=h.Hu;simp only[cR,qcZ,WJ];exact vW d vs f _ _ (by simpa using e) i (by simpa using g.set t h1)
end
def BI{S:Fg}(hS:qM C S){l:Nat}{args:Tn}{H:Tu}{r:TR}{H':Tu}(h:lQ C S l args H r H'):JW C l args H r H':=by
 obtain⟨d,W,v7,e,X,x6,j,hl,v,q,Q,T,u,E,R,rfl,rfl⟩:=h;intro _ f n w a p hb hp g hW c G;obtain⟨z,ad,i',L,hL,e1,e2,e3,e4,e5,e6⟩:=ou (g9:={ tmps:=[],loc:=[],heap:=H }) hW hl;obtain rfl:z=p:=kb
 let tm:Tl:=(L.params.zip a).foldl (λtmps (x:Tmp×Value)=>tmps.setIfInBounds x.1 x.2) L.tmps
 let A:Act:={ tmps:=tm,defers:=[] }
 have V:u9 y8 n (cR d.params args d.tmps) tm.toList:=by
  have:=vW d.params args a.toList d.tmps L.tmps v g e6;rw[←e3,←Array.toList_zip]at this
  grind
 have hF:FI C f H n w y8 n { tmps:=cR d.params args d.tmps,loc:=[],heap:=H } A w:=by
  refine⟨⟨V,λs b h=>by simp[y8]at h,λs vs hs=>by simp at hs,λs s' b h=>by simp[y8]at h,hW⟩,.refl _ _ _,λs b h=>by simp[y8]at h,⟨[],rfl,c_,λr hr=>by simp at hr⟩,hb⟩
 let b:Frame:={ (default:Frame)with fn:=L.fn,kind:=.normal,roundOf:=some z.b }
 obtain⟨o9,r9,u4,uc,B,g2⟩:=hS _ f H n w (some z.b) L.fn [] d.assign _ W .normal y8 n A w (λh=>absurd rfl h) q hF b [.beginRound,.code d.body] (c :: G) rfl rfl;have m:∀ {y:ke} {H':Tu} {w':TS},El H n w H' y w'->y l=some z:=λhe=>by
  rw[he.same l (s4.1 i').1];exact hp
 obtain⟨F,Z,BT,BU,BV,f1,f2,f3,f4,f5,f6⟩:=ou (g9:=W) B.sr.wr Q;obtain rfl:F=z:=by rw[m B.D4]at Z;simp_all
 obtain⟨M,I⟩:=WR.Ho (g9:=W) B.sr.wr BT Z (r':={ v7 with state:=.busy }) (L':={ BU with state:=.busy }) rfl f2 f3 f4 f5 f6;have K:=B.heap M I;obtain⟨w6,t9,w7,w0,D,g4⟩:=hS _ f H n w (some F.b) L.fn [] d.body _ X e u4 uc o9 _ (λh=>absurd rfl h) u K b [] (c :: G) rfl rfl;obtain⟨BP,BQ,BW,BX,BZ,k1,k2,k3,k4,k5,k6⟩:=ou (g9:=X) D.sr.wr R;obtain rfl:BP=F:=by rw[m D.D4]at BQ;simp_all
 obtain⟨N,J⟩:=WR.Ho (g9:=X) D.sr.wr BW BQ (r':={ x6 with state:=if j.isNone then .ready else .done,pending:=j }) (L':={ BX with state:=if j.isNone then .ready else .done,pending:=j }) rfl rfl k3 k4 k5 k6;refine⟨.bool j.isNone,w0,_,L.fn,tm,L.assign,L.body,.scalar rfl,N,D.D4.trans J,?_,?_⟩
 .have U:a.size=L.params.size:=by
   have h1:=g.1
   grind
  simp[Instr.yield,Sem.run_bind,gZ hL,U,tm]
 .have O:Frame.round BP.b L.fn tm L.assign L.body .normal=b.atR A [.code L.assign,.beginRound,.code L.body]:=by simp[Frame.round,Frame.atR,b,A]
  rw[O,e4,e5];have s1:Steps C.P (lone (b.atR A [.code d.assign,.beginRound,.code d.body]) (c :: G) w) _:=g2;have Y:=s1.trans (.one (stepR_beginRound (k:=[.code d.body]) rfl (qJ BV (by rw[f1];exact T))));have o:=g4;have i:=vZ (C:=C) BZ j;cases e with
  |normal=>
   cases E;exact(Y.trans o).trans (.one (stepR_round_end rfl rfl i))
  |ret=>
   cases E;obtain⟨t,o⟩:=o;exact(Y.trans o).trans (.one (stepR_round_ret rfl rfl i))
  |exit id=>
   cases E;obtain⟨t,o,hx⟩:=o;exact(Y.trans o).trans (.one (stepR_round_exit rfl rfl hx i))
  |_=>cases E
def Lv(l:C.P.follows .mixedOrders=true){K:NX}(c:∀f args H r H',K f args H r H'->dG C f args H r H'):∀n,BOk C (Nl C K n).toBelow/\qM C (Nl C K n)
 |0=>⟨⟨c,λ_ _ _ _ _ h=>h.elim⟩,by
   intro _ b p q o s k b_ code g9 m e la mu a w _ h;exact h.elim⟩
 |n+1=>by
  obtain⟨t,d⟩:=Lv l c n;refine⟨⟨λf args H r H' h=>h.elim (c f args H r H') (Mg d),λ_ _ _ _ _ h=>BI d h⟩,?_⟩;have g:qM C _:=Mp l t d;intro _ b p q o s k b_ code g9 m e la mu a w j i u;exact g _ b p q o s k b_ code g9 m e la mu a w j i u
end
end
end Go.Am
end

import Derived.AtR
import Derived.Calls
import Derived.KernelRfl
import Derived.Laws.AppendOwn
import Derived.Laws.MakeOwn
import Derived.Laws.Tables
import Derived.Orders
import Derived.RangeFuncIn
import Derived.RangeFuncLeaves
import GoSem.Claims
set_option linter.all false
namespace Go
abbrev A9:=@List.mem_of_getElem?
abbrev y_:=@Bool.and_eq_true
abbrev D7:=@List.all_eq_true
abbrev D2:=@List.mem_range
abbrev E4:=@List.getElem?_of_mem
abbrev Fs:=@Nat.eq_of_beq_eq_true
abbrev B7:=@Nat.le_refl
abbrev FD:=@Option.map_eq_some_iff
abbrev FE:=@Nat.ble_eq_true_of_le
abbrev Gn:=@List.getElem?_eq_getElem
abbrev Ed:=@List.mem_map
abbrev Fe:=@List.cons_append
abbrev E7:=@List.nil_append
abbrev Fj:=@Option.bind_some
abbrev FG:=@Bool.false_eq_true
abbrev Eg:=@Nat.zero_le
abbrev GY:=@Option.bind_eq_some_iff
abbrev Fm:=@Option.some.inj
abbrev G_:=@List.mem_cons_of_mem
abbrev Gu:=@List.append_assoc
abbrev Fv:=@Bool.not_true
abbrev Fx:=@List.map_cons
abbrev F_:=@List.mem_append
abbrev Fy:=@List.mem_cons
abbrev GL:=@List.getElem?_map
abbrev Gv:=@List.mem_flatMap
abbrev Kh:=@List.getElem?_append_left
abbrev Ki:=@List.pairwise_iff_getElem
abbrev K0:=@List.getElem?_append_right
abbrev Ig:=@List.getElem?_eq_none
abbrev I2:=@List.mem_iff_getElem?
abbrev HN:=@List.mem_singleton
abbrev GG:=@Bool.not_false
abbrev Kw:=@List.getElem?_set_self
abbrev G9:=@Option.map_some
abbrev MD:=@Array.getElem?_eq_some_iff
abbrev K5:=@List.take_of_length_le
abbrev Hs:=@List.mem_filter
abbrev IK:=@Int.natCast_nonneg
abbrev IL:=@List.length_append
abbrev Ih:=@Option.some.injEq
abbrev K7:=@List.getElem?_set_ne
abbrev Ii:=@Bool.not_eq_true
abbrev HP:=@List.length_set
abbrev RK:=@List.drop_eq_getElem_cons
abbrev Kj:=@List.ext_getElem?
abbrev Kk:=@List.getElem?_set
abbrev EC:=@Ne.symm
abbrev Kx:=@List.take_add_one
abbrev IP:=@Bool.or_eq_true
abbrev IR:=@List.length_map
abbrev Hd:=@Nat.zero_add
abbrev KZ:=@List.pairwise_map
abbrev VM:=@List.length_eq_zero_iff
abbrev Nn:=@List.mem_append_left
abbrev Kv:=@List.append_nil
abbrev MA:=@List.mem_cons_self
abbrev MB:=@List.pairwise_cons
abbrev Np:=@List.mem_filterMap
abbrev h7:=@Array.getD_eq_getD_getElem?
abbrev Li:=@List.cons.injEq
abbrev Xi:=@List.take_append_drop
abbrev s9:=@Option.isSome_iff_exists
abbrev j2:=@List.nodup_iff_pairwise_ne
abbrev Xj:=@List.mem_of_mem_take
abbrev aE:=@Array.getElem?_setIfInBounds
abbrev Ky:=@Int.ofNat.inj
abbrev I3:=@Nat.lt_or_ge
abbrev ME:=@List.map_append
abbrev p9:=@Nat.mul_le_mul_right
abbrev t7:=@List.mem_append_right
abbrev nC:=@List.flatMap_append
abbrev u1:=@List.drop_of_length_le
abbrev w9:=@List.forall_mem_cons
abbrev RL:=@List.range_succ
abbrev Lk:=@Int.ofNat_lt
abbrev IV:=@Nat.blt_eq
abbrev ay:=@List.getElem?_replicate
abbrev kD:=@List.flatMap_cons
abbrev lD:=@List.length_range
abbrev L9:=@List.map_nil
abbrev qbt:=@List.pairwise_lt_range
abbrev p':=@List.map_congr_left
abbrev Xk:=@Nat.min_eq_left
abbrev kG:=@List.not_mem_nil
abbrev L_:=@Int.le_refl
abbrev qby:=@List.range_eq_range'
abbrev v1:=@Nat.lt_or_gt_of_ne
abbrev y6:=@List.foldl_cons
abbrev qbB:=@List.getElem?_zip_eq_some
abbrev qbC:=@List.mem_or_eq_of_mem_set
abbrev y0:=@List.take_length
abbrev jn:=@Option.getD_some
abbrev qbF:=@Array.toList_append
abbrev qbG:=@List.length_pos_iff
abbrev Lj:=@Nat.ble_eq
abbrev h9:=@Bool.eq_iff_iff
abbrev qbJ:=@List.idxOf_lt_length_of_mem
abbrev o7:=@List.nodup_cons
abbrev Nq:=@Nat.add_mul
abbrev qbM:=@Bool.or_eq_false_iff
abbrev qbN:=@List.mem_of_mem_drop
abbrev j1:=@List.length_cons
abbrev VP:=@Nat.le_trans
abbrev qbQ:=@Array.getElem?_setIfInBounds_ne
abbrev a7:=@List.idxOf_append
abbrev qbS:=@List.getElem?_eq_some_iff
abbrev y7:=@Nat.add_assoc
abbrev qbU:=@List.pairwise_flatMap
abbrev qbV:=@List.getElem?_take
abbrev e1:=@Array.toList_inj
abbrev qbX:=@List.getElem?_append
abbrev qbY:=@Int.eq_ofNat_of_zero_le
abbrev j3:=@List.all_cons
abbrev qb0:=@List.getElem?_cons_succ
abbrev x3:=@Prod.mk.injEq
abbrev x0:=@List.mapM_cons
abbrev y5:=@List.map_map
abbrev qb4:=@Bool.not_eq_true'
abbrev qb5:=@List.nodup_append
abbrev qb6:=@List.length_take
abbrev VN:=@Nat.mod_lt
abbrev qb8:=@List.findIdx?_eq_some_iff_getElem
abbrev qb9:=@List.getElem?_drop
abbrev ax:=@List.Perm.refl
abbrev an:=@List.drop_zero
abbrev qcc:=@List.mem_of_find?_eq_some
abbrev qcd:=@List.pairwise_append
abbrev qce:=@List.flatten_cons
abbrev qcf:=@Nat.le_max_left
abbrev qcg:=@Int.mul_le_mul_of_nonneg_right
abbrev v2:=@Nat.sub_self
abbrev qci:=@List.getElem?_cons_zero
abbrev qcj:=@List.idxOf?_eq_some_iff
abbrev qck:=@List.replicate_succ
abbrev qcl:=@List.take_succ_cons
abbrev u4:=@Nat.one_mul
abbrev qcn:=@List.any_eq_true
abbrev qco:=@List.drop_drop
abbrev qcp:=@List.nodup_nil
abbrev qcq:=@Nat.mul_le_mul
abbrev qcr:=@List.filter_append
abbrev qcs:=@List.filterMap_append
abbrev qct:=@List.sublist_flatten_of_mem
abbrev ag:=@Nat.zero_mul
abbrev qcv:=@Bool.false_or
abbrev qcw:=@List.foldl_append
abbrev qcx:=@List.contains_eq_mem
abbrev qcy:=@Array.getElem?_eq_getElem
abbrev qcz:=@List.flatMap_map
abbrev qcA:=@List.nodup_range
abbrev qcB:=@List.range'_succ
abbrev qcC:=@Nat.le_max_right
abbrev qcD:=@Array.getElem?_push
abbrev qcE:=@List.drop_succ_cons
abbrev e2:=@Nat.mul_one
abbrev qcG:=@List.Pairwise.imp_of_mem
abbrev qcH:=@List.idxOf_lt_length_iff
abbrev qcI:=@Array.all_eq_true'
abbrev qcJ:=@Bool.not_eq_false'
abbrev qcK:=@List.pairwise_filterMap
abbrev qcL:=@List.set_cons_succ
abbrev Xl:=@Prod.ext
abbrev qcN:=@Array.getElem?_eq_none
abbrev qcO:=@Bool.eq_false_iff
abbrev qcP:=@Nat.lt_trichotomy
abbrev qcQ:=@Array.eq_empty_of_size_eq_zero
abbrev qcR:=@List.Pairwise.and_mem
abbrev qcS:=@List.Perm.append_left
abbrev qcT:=@List.length_filter_le
abbrev qcU:=@List.length_replicate
abbrev qcV:=@List.length_singleton
abbrev qcW:=@List.set_append_right
abbrev qcX:=@List.drop_append
abbrev qcY:=@List.eq_nil_of_length_eq_zero
abbrev qcZ:=@List.filter_cons
abbrev qc0:=@List.length_drop
abbrev qc1:=@List.take_append_of_le_length
abbrev qc2:=@List.Pairwise.filter
abbrev qc3:=@List.map_eq_cons_iff
abbrev qc4:=@List.range'_append_1
abbrev qc5:=@List.set_append_left
abbrev qc6:=@List.filter_eq_self
abbrev qc7:=@List.mem_map_of_mem
abbrev qc8:=@Nat.div_le_self
abbrev qc9:=@Option.pure_def
abbrev qda:=@Array.getElem?_append_left
abbrev qdb:=@List.exists_cons_of_ne_nil
abbrev qdc:=@List.perm_ext_iff_of_nodup
abbrev qdd:=@Array.ext_getElem?
abbrev qde:=@Array.foldl_toList
abbrev qdf:=@List.find?_eq_none
abbrev qdg:=@List.zip_cons_cons
abbrev qdh:=@Nat.add_zero
abbrev qdi:=@Nat.lt_of_lt_of_le
abbrev qdj:=@Prod.ext_iff
abbrev qdk:=@Array.mapM_eq_mapM_toList
abbrev qdl:=@List.exists_mem_of_ne_nil
abbrev qdm:=@List.take_zero
abbrev qdn:=@List.eq_of_mem_replicate
abbrev qdo:=@List.filter_congr
abbrev qdp:=@List.length_filterMap_le
abbrev qdq:=@List.mem_range'_1
abbrev qdr:=@List.idxOf?_eq_none_iff
abbrev qds:=@List.mapM_nil
abbrev qdt:=@List.take_add
abbrev qdu:=@Nat.add_sub_cancel_left
abbrev qdv:=@Array.toList_map
abbrev qdw:=@List.drop_length
abbrev qdx:=@List.mem_reverse
abbrev qdy:=@List.take_append
abbrev qdz:=@Nat.min_eq_right
abbrev qdA:=@Option.getD_none
abbrev qdB:=@Int.ofNat_le
abbrev qdC:=@List.all_append
abbrev qdD:=@List.append_inj
abbrev qdE:=@List.find?_some
abbrev qdF:=@List.forIn_cons
abbrev qdG:=@List.length_nil
abbrev qdH:=@List.map_set
abbrev qdI:=@List.set_append
abbrev qdJ:=@Nat.beq_refl
abbrev qdK:=@Nat.le_of_lt
abbrev qdL:=@Nat.not_lt_zero
abbrev qdM:=@List.map_id
abbrev qdN:=@Nat.mul_pos
abbrev qdO:=@Bool.and_true
abbrev qdP:=@Nat.mod_le
abbrev Gp:=@decide_eq_true_eq
abbrev Ga:=@decide_eq_false
abbrev FX:=@decide_eq_true
abbrev rv:=@if_pos
abbrev ts:=@if_neg
end Go
noncomputable section
open Option renaming some->O,none->Q
open Bool renaming true->J,false->U
open List renaming length->W,replicate->FJ
open Go.Value renaming int->EO,slice->DW,pointer->EQ
open Go.IntKind renaming i64->DQ,u8->DU
open Go renaming Value->FO,Oper->FQ,Operand->GJ,BinOp->GO,TypeDesc->GQ,MapEntry->GU,Frame->HJ
namespace Go.Am
theorem z_{p:Prop}(h:p:=by simp;omega):p:=h
theorem k_{p:Prop}(h:p:=by simp_all):p:=h
theorem jw{p:Prop}(h:p:=by grind):p:=h
theorem d_{p:Prop}(h:p:=by simp):p:=h
theorem a_{p:Prop}(h:p:=by omega):p:=h
abbrev _root_.TV:=FO
def A_:FO:=.tuple #[.tuple #[]]
def scalar:FO->Bool
 | .bool _=>J
 | .int _ _=>J
 | .string _=>J
 | EQ Q=>J
 | .map Q=>J
 | .nilFunc=>J
 | .nilIface=>J
 | DW Q 0 0=>J
 |_=>U
def gI:FO->Bool
 | .agg cs=>cs.toList.all scalar
 |v=>scalar v
def flat:FO->Bool
 | .tuple vs=>vs.size != 1&&vs.toList.all gI
 |v=>gI v
abbrev _root_.Tl:=Array FO
def vH(cs:Tl):Option IntKind:=
 match cs.toList with
 | .int k _::_=>O k
 |_=>Q
def kf:FO->Bool
 | .tuple vs=>match vs.toList with
  | [.agg cs]=>(vH cs).isSome
  |_=>U
 |_=>U
def gR{vs:Tl}(h:kf (.tuple vs)=J):vs.size=1:=by
 simp only[kf]at h;split at h
 next e=>rw[←Array.length_toList,e];rfl
 .cases h
class El where
 num:Tl->Int
class Gc where
 Gd:Nat->Nat×Nat
instance (priority := 10) glo0 : Gc := ⟨λ_ => (0, 0)⟩
def gB:Nat:=1000000
def GA [Gc](g:Nat):Nat:=if g<gB then g else(Gc.Gd g).1
def H4 [Gc](g:Nat):Nat:=if g<gB then 0 else(Gc.Gd g).2
def Px [Gc]{g:Nat}(h:Nat.blt g gB=J):GA g=g:=rv (by rw[IV]at h;exact h)
def Py [Gc]{g:Nat}(h:Nat.blt g gB=J):H4 g=0:=rv (by rw[IV]at h;exact h)
abbrev _root_.TI:=Program
def EH{j7:Type}(P:TI):Sem j7->Option j7
 | .pure a=>O a
 | .program k=>EH P (k P)
 |_=>Q
abbrev _root_.TX:=World
def iz{j7:Type}{P:TI}{s:Sem j7}{a:j7}(h:EH P s=O a)(w:TX):s.run P w = .ok a w:=by
 induction s with
 |pure b=>simp[EH]at h;subst h;rfl
 |program k c=>exact c P h
 |_=>simp[EH]at h
structure HI where
 state:LoopState
 pending:Option Code
 fn:FuncId
 tmps:List Value
 params:List Tmp
 assign:Code
 body:Code
abbrev _root_.Tj:=List GU
abbrev _root_.Tn:=List FO
inductive wa where
 |cells (vs:Tn) (vd:Nat) (rw:Bool)
 |map (es:Tj) (clock:Nat)
 |loop (l:HI)
 |R6 (s:ByteArray) (pos:Nat)
 |dead
def wa.owned:wa->Bool
 | .cells _ _ rw=>rw
 | .dead=>U
 |_=>J
def wa.alive:wa->Bool
 | .dead=>U
 |_=>J
structure St where
 tmps:List Value
 loc:List (Option (Tn))
 heap:List wa
abbrev _root_.TT:=FuncId
structure p_ where
 P:Program
 G:Nat->Option (Tn)
 opq:TT->Bool:=λ_=>false   -- functions into whose code nobody looks
 b_:TT->List Nat        -- of each temporary that points into a local row: that row's number+2;1: into a known package-level variable;0: anything else
abbrev _root_.TM:=GJ
def ka(a:Tn):TM->FO
 | .tmp t=>a.getD t undef
 | .const v=>if flat v then v else A_
 | .global g=>if Nat.blt g gB then EQ (O ⟨g,0,O 1⟩)else A_
 | .func f=>.func (.func f) #[] #[]
abbrev _root_.Tk:=Option FO
abbrev _root_.Tu:=List wa
inductive FY where
 |val (v:Value)
 |H6 (s:Nat) (vs:Tn)
 |KR (s:Nat) (f:Tn->Tk)
 |H7 (s:Nat) (f:Tn->Option (Tn))
 |Hj (f:Tu->Tk)
 |Iy (f:Tu->Option (List wa×Value))
 |call (f:TT) (args:Tn)
 |yield (l:Nat) (args:Tn)
abbrev _root_.Tq:=Option Tmp
def St.put(g9:St)(dst:Tq)(v:FO):St:=
 match dst with
 |O d=>{ g9 with tmps:=g9.tmps.set d v }
 |Q=>g9
def aZ(g9:St):FY->Option (St×FO)
 | .val v=>O (g9,v)
 | .H6 s vs=>match g9.loc[s]? with
  |O Q=>O ({ g9 with loc:=g9.loc.set s (O vs) },EQ (O ⟨s,0,O 0⟩))
  |_=>Q
 | .KR s f=>match g9.loc[s]? with
  |O (O vs)=>(f vs).map λv=>(g9,v)
  |_=>Q
 | .H7 s f=>match g9.loc[s]? with
  |O (O vs)=>(f vs).map λa=>({ g9 with loc:=g9.loc.set s (O a) },undef)
  |_=>Q
 | .Hj f=>(f g9.heap).map λv=>(g9,v)
 | .Iy f=>(f g9.heap).map λp=>({ g9 with heap:=p.1 },p.2)
 | .call .. => Q
 | .yield .. => Q
def cut(vs:Tn)(off n:Nat):Option (Tn):=
 if off+n<=W vs then O ((vs.drop off).take n)else Q
abbrev _root_.TS:=TypeId
def dL(P:TI)(t:TS)(vs:Tn)(off:Nat):Tk:=
 match P.underlying t with
 |O (.struct _)|O (.array _ _)=>(cut vs off (P.cellsOf t)).map λa=>.agg a.toArray
 |O _=>vs[off]?
 |Q=>Q
def v_(vs:Tn)(off:Nat)(new:Tn):Option (Tn):=
 if off+W new<=W vs then O (vs.take off++new++vs.drop (off+W new))else Q
def aL:FO->Bool
 | .tuple vs=>!kf (.tuple vs)
 |_=>U
def mT(i:TypeInfo):Tk:=
 match i.zero with
 |O z=>if z.cells.size=i.size/\flat z=J/\aL z=U then O z else Q
 |Q=>Q
def fq(P:TI)(t:TS):Tk:=(P.info? t).bind mT
def bu:FO->Bool
 | EQ (O a)=>a.spot != O 0
 | DW (O a) _ _=>a.spot != O 0
 | .tuple vs=>kf (.tuple vs)
 | .agg _=>U
 | .iface _ _=>U
 | .func _ _ _=>U
 |_=>J
def bG:FO->Bool
 | .agg cs=>cs.toList.all bu
 | .func _ a b=>a.toList.all bu&&b.toList.all bu
 | .tuple vs=>vs.size==0||kf (.tuple vs)
 |v=>bu v
def aW:FO->Bool
 | .agg cs=>cs.toList.all bG
 | .func _ a b=>a.toList.all bG&&b.toList.all bG
 | .tuple vs=>vs.toList.all bG
 |v=>bG v
def q8:FO->Bool
 | .agg cs=>cs.toList.all aW
 | .func _ a b=>a.toList.all aW&&b.toList.all aW
 | .tuple vs=>vs.toList.all aW
 |v=>aW v
def aR:FO->Bool
 | .agg _=>U
 | .tuple vs=>kf (.tuple vs)
 |_=>J
def bj(v:FO):Bool:=q8 v&&aR v
def fE(P:TI)(t:TS)(v:FO)(vs:Tn)(off:Nat):Option (Tn):=
 if v.cells.size=P.cellsOf t/\(P.info? t).isSome then
  if v.cells.toList.all bj then v_ vs off v.cells.toList else Q
 else Q
abbrev _root_.Ts:=Option Nat
def le(vd:Nat):Ts:=O (vd+10)
def gw(H:Tu)(id:Nat):Option (Tn):=
 match H[id]? with
 |O (.cells a _ _)=>O a
 |_=>Q
def ep(C:p_)(H:Tu)(vd:Nat):FO->Option (List FO×Nat)
 | DW Q 0 0=>O ([],0)
 | DW (O a) len _=>
  if a.spot=O 1 then((C.G a.block).bind λvs=>cut vs a.off (len*vd)).map λx=>(x,len)
  else if a.spot=le vd then
   match H[a.block]? with
   |O (.cells vs e _)=>if e=vd then(cut vs a.off (len*vd)).map λx=>(x,len)else Q
   |_=>Q
  else Q
 | .string s=>if vd=1 then O (s.data.toList.map λb=>EO DU b.toNat,s.size)else Q
 |_=>Q
def aY(need bytes:Nat):Bool:=Nat.ble need 140737488355328&&Nat.ble (need*bytes) 140737488355328
def gH(C:p_)(k:TS)(s x:FO)(H:Tu):Option (List wa×FO):=
 match C.P.underlying k with
 |O (.slice f)=>
  match C.P.info? f with
  |Q=>Q
  |O b=>
  if b.size=0 then Q else
  if (mT b).isNone then Q else
  match ep C H b.size x with
  |Q=>Q
  |O (d,n)=>
   match s with
   | DW Q 0 0=>
    if n=0 then O (H,DW Q 0 0)
    else if aY n b.bytes then O (H++[.cells d b.size J],DW (O ⟨W H,0,le b.size⟩) n 0)else Q
   | DW (O a) c j=>
    if a.spot≠le b.size then Q else
    match H[a.block]? with
    |O (.cells i e rw)=>
     if e≠b.size then Q else
     match cut i a.off (c*b.size)with
     |Q=>Q
     |O g=>
      match j with
      |0=>
       if n=0 then O (H,DW (O a) c 0)
       else if rw&&aY (c+n) b.bytes then
        O (H.set a.block .dead++[.cells (g++d) b.size J],DW (O ⟨W H,0,le b.size⟩) (c+n) 0)
       else Q
      |cap+1=>
       if c+n<=cap then
        if rw then(v_ i (a.off+c*b.size) d).map λh=>(H.set a.block (.cells h e J),DW (O a) (c+n) (cap+1))
        else if n=0 then O (H,DW (O a) c (cap+1))else Q
       else if aY (c+n) b.bytes then
        O (H++[.cells (g++d) b.size J],DW (O ⟨W H,0,le b.size⟩) (c+n) 0)
       else Q
    |_=>Q
   |_=>Q
 |_=>Q
abbrev _root_.Tt:=Option Int
def iU:Tk->Option (Tt)
 |Q=>O Q
 |O (.int _ n)=>O (O n)
 |_=>Q
def bM(cx l:Nat):Tt->Nat
 |Q=>cx-l
 |O m=>m.toNat-l+1
def bW(len cx:Nat)(a:Tt):Tt->Prop
 |Q=>a.getD len<=(len:Int)∨(0<cx/\a.getD len<(cx:Int))
 |O m=>a.isSome=J/\a.getD len<=m/\(m<=(len:Int)∨(0<cx/\m<(cx:Int)))
instance (len cx : Nat) (hi mx : Option Int) : Decidable (bW len cx hi mx) := by cases mx<;>(unfold bW;infer_instance)
def BW(C:p_)(t:TS)(x:FO)(d e f:Tk):Tk:=
 match iU d,iU e,iU f with
 |O d,O e,O f=>
  match C.P.underlying t,x with
  |O (.slice b),DW (O a) c g=>
   if C.P.cellsOf b=0 then Q else
   if a.spot≠O 1/\a.spot≠le (C.P.cellsOf b)then Q else
   if 0<=d.getD 0/\d.getD 0<=e.getD c/\bW c g e f then
    O (DW (O { a with off:=a.off+(d.getD 0).toNat*C.P.cellsOf b }) ((e.getD c).toNat-(d.getD 0).toNat) (bM g (d.getD 0).toNat f))
   else Q
  |_,_=>Q
 |_,_,_=>Q
def mM(C:p_)(t:TS)(a:Addr)(c b d:Tk)(H:Tu):Tk:=Q
def intOf:FO->Option Int
 | .int _ n=>O n
 |_=>Q
def gN(C:p_)(t:TS)(x:FO)(f:Nat):Tk:=
 match C.P.underlying t,x with
 |O (.struct c),EQ (O a)=>
  match c[f]? with
  |O b=>if C.P.cellsOf b.type=0 then Q else O (EQ (O { a with off:=a.off+b.offset }))
  |Q=>Q
 |_,_=>Q
def fH(C:p_)(t:TS)(x i:FO):Tk:=
 match intOf i with
 |Q=>Q
 |O i=>
  match C.P.underlying t,x with
  |O (.array c b),EQ (O a)=>
   if C.P.cellsOf b=0 then Q else
   if 0<=i/\i<(c:Int)then O (EQ (O { a with off:=a.off+i.toNat*C.P.cellsOf b }))else Q
  |O (.slice b),DW (O a) c _=>
   if C.P.cellsOf b=0 then Q else
   if 0<=i/\i<(c:Int)then O (EQ (O ⟨a.block,a.off+i.toNat*C.P.cellsOf b,if a.spot=O 1 then O 1 else Q⟩))else Q
  |_,_=>Q
def zo(C:p_)(t:TS)(cs:Tl)(off:Nat):Tk:=
 match C.P.underlying t with
 |O (.struct _)|O (.array _ _)=>O (.agg (cs.extract off (off+C.P.cellsOf t)))
 |O _=>cs[off]?
 |Q=>Q
def wv(C:p_)(t:TS)(x:FO)(f:Nat):Tk:=
 match C.P.underlying t,x with
 |O (.struct c),.agg b=>(c[f]?).bind λa=>zo C a.type b a.offset
 |_,_=>Q
def oD(C:p_)(t:TS)(x i:FO):Tk:=
 match intOf i with
 |Q=>Q
 |O i=>
  match C.P.underlying t,x with
  |O (.array c a),.agg d=>if 0<=i/\i<(c:Int)then zo C a d (i.toNat*C.P.cellsOf a)else Q
  |O .string,.string s=>if 0<=i then(s[i.toNat]?).map λb=>EO DU b.toNat else Q
  |_,_=>Q
def pW(P:TI)(t:TS):Option (Nat->Option (Nat×Nat)):=
 match P.underlying t with
 |O (.struct a)=>if a.all λf=>(P.info? f.type).isSome then O λi=>(a[i]?).map λf=>(f.offset,P.cellsOf f.type)else Q
 |O (.array _ e)=>if (P.info? e).isSome then O λi=>O (i*P.cellsOf e,P.cellsOf e)else Q
 |_=>Q
def vV(C:p_)(t:TS)(a:List (Nat×FO)):Tk:=
 match fq C.P t,pW C.P t with
 |O z,O pl=>(Instr.fill pl z.cells a).map .agg
 |_,_=>Q
def aQ(z:Tn)(n:Nat):Tn:=(FJ n z).flatten
def fO(C:p_)(t:TS)(len:Nat)(b:List (Nat×FO)):Option (Nat×List FO):=
 match C.P.underlying t with
 |O (.slice e)=>
  match C.P.info? e with
  |O a=>
   if a.size=0 then Q else
   if len*a.size > 16777216 then Q else
   match mT a with
   |O z=>(Instr.fill (λi=>O (i*a.size,a.size)) (aQ z.cells.toList len).toArray b).map λc=>(a.size,c.toList)
   |Q=>Q
  |Q=>Q
 |_=>Q
def dN(C:p_)(t:TS)(len cap:FO)(H:Tu):Option (List wa×FO):=
 match intOf len,intOf cap,C.P.underlying t with
 |O l,O c,O (.slice e)=>
  match C.P.info? e with
  |O a=>
   if a.size=0 then Q else
   match mT a with
   |O z=>
    if 0<=l/\l<=c/\c<=1048576/\a.bytes<=4096 then
     O (H++[.cells (aQ z.cells.toList c.toNat) a.size J],DW (O ⟨W H,0,le a.size⟩) l.toNat (c.toNat+1))
    else Q
   |Q=>Q
  |Q=>Q
 |_,_,_=>Q
def bg:FO->Option Bool
 | DW Q 0 0=>O J
 | DW (O _) _ _=>O U
 | .map Q=>O J
 | .map (O _)=>O U
 | .nilFunc=>O J
 | .func .. => O U
 | EQ Q=>O J
 | EQ (O _)=>O U
 |_=>Q
def bF(e:GU):GU:={ key:=e.key,val:=undef,born:=0 }
def ur(P:TI)(kt:TS)(k:FO)(a:Tj):Option (Ts):=
 (EH P (Instr.findKey kt k (a.map bF))).map λr=>r.map (·.1)
def kj(P:TI)(kt:TS)(k:FO):Bool:=
 gI k&&(EH P (Instr.checkKey J 10000 kt k)).isSome&&(EH P (Instr.checkKey U 10000 kt k)).isSome&&(EH P (Op.equal kt k k)).any id
def eQ(a:Tj)(i:Nat):Tk:=(a[i]?).map (·.val)
def Ft(H:Tu)(id:Nat):Option (List GU×Nat):=
 match H[id]? with
 |O (.map a c)=>O (a,c)
 |_=>Q
def dV(C:p_)(t:TS)(m k:FO)(ok:Bool)(H:Tu):Tk:=
 match C.P.underlying t with
 |O (.map b c)=>
  if !kj C.P b k then Q else
  match fq C.P c with
  |Q=>Q
  |O z=>
   match m with
   | .map Q=>O (if ok then .tuple #[z,.bool U]else z)
   | .map (O id)=>
    match Ft H id with
    |Q=>Q
    |O (a,_)=>
     match ur C.P b k a with
     |Q=>Q
     |O Q=>O (if ok then .tuple #[z,.bool U]else z)
     |O (O i)=>(eQ a i).map λv=>if ok then .tuple #[v,.bool J]else v
   |_=>Q
 |_=>Q
def cL(C:p_)(t:TS)(m k v:FO)(H:Tu):Option (List wa×FO):=
 match C.P.underlying t,m with
 |O (.map b _),.map (O id)=>
  if !(kj C.P b k&&q8 v && !aL v)then Q else
  match Ft H id with
  |Q=>Q
  |O (a,c)=>
   match ur C.P b k a with
   |Q=>Q
   |O Q=>O (H.set id (.map (a++[{ key:=k,val:=v,born:=c }]) (c+1)),undef)
   |O (O i)=>if (a[i]?).all (λe=>Instr.sameBits 10000 e.key k)then O (H.set id (.map (a.modify i λe=>{ e with key:=k,val:=v }) c),undef)else Q
 |_,_=>Q
def jt(C:p_)(t:TS)(m k:FO)(H:Tu):Option (List wa×FO):=Q
def fT(m st v:FO)(H:Tu):Option (List wa×FO):=Q
def qu(C:p_)(t:TS)(m k:FO)(H:Tu):Option (List wa×FO):=Q
abbrev _root_.TC:=List Nat
def oV(b_:TC):TM->Nat
 | .tmp t=>b_.getD t 0
 | .global _=>1
 |_=>0
def jq:FO->Option (Nat×Nat)
 | EQ (O a)=>if a.spot.isNone then O (a.block,a.off)else Q
 |_=>Q
def ip:FO->Option (Nat×Nat)
 | EQ (O a)=>if a.spot=O 1 then O (a.block,a.off)else Q
 |_=>Q
def kI(s:Nat):FO->Option Nat
 | EQ (O a)=>if a.spot=O 0/\a.block=s then O a.off else Q
 |_=>Q
def ey(C:p_)(b_:TC)(t:TS)(a:TM)(v:FO):Option FY:=
 match oV b_ a with
 |0=>match jq v with
  |O p=>O (.Hj λH=>(gw H p.1).bind λb=>dL C.P t b p.2)
  |Q=>(ip v).map λp=>.Hj λ_=>(C.G p.1).bind λb=>dL C.P t b p.2
 |1=>(ip v).bind λp=>((C.G p.1).bind λb=>dL C.P t b p.2).map .val
 |s+2=>(kI s v).map λc=>.KR s λb=>dL C.P t b c
def kY(C:p_)(t:TS)(id off:Nat)(x:FO)(H:Tu):Option (List wa×FO):=
 match H[id]? with
 |O (.cells b e J)=>(fE C.P t x b off).map λa=>(H.set id (.cells a e J),undef)
 |_=>Q
def fC(C:p_)(b_:TC)(t:TS)(a:TM)(v x:FO):Option FY:=
 if aL x then Q else
 match oV b_ a with
 |0=>(jq v).map λp=>.Iy (kY C t p.1 p.2 x)
 |1=>Q
 |s+2=>(kI s v).map λb=>.H7 s λc=>fE C.P t x c b
def nV(P:TI)(t:TS):Nat:=
 match P.underlying t with
 |O (.array _ e)=>P.cellsOf e
 |_=>P.cellsOf t
def cM(C:p_)(b_:TC)(dst:Tq)(t:TS)(v:FO):Option FY:=
 if aL v then Q else
 match dst with
 |Q=>Q
 |O d=>
  if !(v.cells.toList.all bj)then Q
  else if b_.getD d 0=d+2 then O (.H6 d v.cells.toList)
  else
   O (.Iy λH=>O (H++[.cells v.cells.toList (nV C.P t) J],EQ (O ⟨W H,0,Q⟩)))
abbrev _root_.Tg:=GJ->FO
def cN(C:p_)(a:Tg)(o:FQ):Option FY:=
 if o.op.operands.toList.all (λx=>flat (a x))then
  match EH C.P (execOp a o)with
  |O (.value v)=>if flat v then O (.val v)else Q
  |_=>Q
 else Q
def rj(a:Tk)(b:Option FY):Option FY:=
 match a with
 |O v=>O (.val v)
 |Q=>b
def nz(x y:FO):Option Bool:=
 match bg x,bg y with
 |O J,O b=>O b
 |O b,O J=>O b
 |_,_=>Q
def dK:FO->Nat
 | .slice .. => 1
 | .map _=>2
 | .nilFunc=>3
 | .func .. => 3
 | .pointer _=>4
 |_=>0
def nB:GQ->Nat
 | .slice _=>1
 | .map _ _=>2
 | .func .. => 3
 | .pointer _=>4
 |_=>100
def uW(P:TI)(t:TS)(x y:FO):Bool:=
 match P.underlying t with
 |O d=>nB d==dK x&&nB d==dK y
 |Q=>U
def Ly(C:p_)(t:TS)(d x:FO)(H:Tu):Option (List wa×FO):=Q
def wc(C:p_)(t:TS)(x:FO)(H:Tu):Option (List wa×FO):=Q
def ba(C:p_)(a:Tg)(b:Builtin)(args:Tn)(argTypes:Array TypeId)(o:FQ):Option FY:=
 match b,args,argTypes[0]? with
 | .append,[s,x],O t=>if argTypes[1]?.any (λu=>(C.P.underlying u) matches O (.int _)|Q)||argTypes[1]?.isNone then Q else O (.Iy (gH C t s x))
 | .len,[x],O t=>
  match C.P.underlying t,x with
  |O (.slice _),.slice _ n _=>O (.val (EO DQ n))
  |O (.map _ _),.map (O id)=>O (.Hj λH=>(Ft H id).map λp=>EO DQ (W p.1))
  |O (.array n _),_=>O (.val (EO DQ n))
  |_,_=>cN C a o
 | .cap,[x],O t=>
  match C.P.underlying t,x with
  |O (.slice _),DW (O _) _ (n+1)=>O (.val (EO DQ n))
  |O (.slice _),DW Q 0 0=>O (.val (EO DQ 0))
  |O (.array n _),_=>O (.val (EO DQ n))
  |_,_=>Q
 | .copy,[d,x],O t=>O (.Iy (Ly C t d x))
 | .delete,[m,k],O t=>O (.Iy (qu C t m k))
 | .clear,[x],O t=>O (.Iy (wc C t x))
 |_,_,_=>cN C a o
def ig(C:p_)(e:Tg)(c:Call)(o:FQ):Option FY:=
 let a:=c.args.toList.map e
 match c.callee with
 | .builtin b=>ba C e b a c.argTypes o
 | .invoke _ _=>Q
 | .value f=>
  if !(a.all q8)then Q else
  match e f with
  | .func (.func g) first d=>if q8 (.func (.func g) first d)then O (.call g (first.toList++a++d.toList))else Q
  | .func (.yield l) first d=>if first.size=0/\d.size=0 then O (.yield l a)else Q
  |_=>Q
def qM(C:p_)(t:TS):Tk->Bool
 |Q=>J
 |O v=>(intOf v).isSome&&((C.P.underlying t) matches O (.map _ _))
def aA(C:p_)(b_:TC)(d:Tg)(o:FQ):Option FY:=
 match o.op with
 | .move x=>O (.val (d x))
 | .assign x=>O (.val (d x))
 | .pick c a b=>match d c with
  | .bool q=>O (.val (if q then d a else d b))
  |_=>Q
 | .alloc t=>(fq C.P t).bind λz=>cM C b_ o.dst t z
 | .box t x=>cM C b_ o.dst t (d x)
 | .build t e=>if e.toList.all (λp=>!aL (d p.2))then(vV C t (e.toList.map λp=>(p.1,d p.2))).map .val else Q
 | .buildSlice t n e=>
  if (e.toList.all λp=>(d p.2).cells.toList.all bj)then
   (fO C t n (e.toList.map λp=>(p.1,d p.2))).map λr=>
    .Iy λH=>O (H++[.cells r.2 r.1 J],DW (O ⟨W H,0,le r.1⟩) n (n+1))
  else Q
 | .load t a=>ey C b_ t a (d a)
 | .store t a x=>fC C b_ t a (d a) (d x)
 | .nilCheck x=>match d x with
  | EQ (O a)=>O (.val (EQ (O a)))
  | .func (.func f) a b=>O (.val (.func (.func f) a b))
  | .func (.yield f) a b=>O (.val (.func (.yield f) a b))
  |_=>Q
 | .binOp B t x y _=>
  match B with
  | .eql=>match nz (d x) (d y)with
   |O b=>if uW C.P t (d x) (d y)then O (.val (.bool b))else Q
   |Q=>cN C d o
  | .neq=>match nz (d x) (d y)with
   |O b=>if uW C.P t (d x) (d y)then O (.val (.bool !b))else Q
   |Q=>cN C d o
  |_=>cN C d o
 | .makeFunc fn first g=>match fn with
  | .yield _=>Q
  |fn=>O (.val (.func fn (first.map d) (g.map d)))
 | .makeMap t r=>
  if qM C t (r.map d)then
   O (.Iy λH=>O (H++[.map [] 0],.map (O (W H))))
  else Q
 | .makeSlice t l c=>O (.Iy (dN C t (d l) (d c)))
 | .slice t x j h u=>
  match d x with
  | EQ (O a)=>
   if a.spot=O 1 then(mM C t a (j.map d) (h.map d) (u.map d) []).map .val
   else O (.Hj (mM C t a (j.map d) (h.map d) (u.map d)))
  |x=>rj (BW C t x (j.map d) (h.map d) (u.map d)) (cN C d o)
 | .fieldAddr t x f=>(gN C t (d x) f).map .val
 | .indexAddr t x i=>(fH C t (d x) (d i)).map .val
 | .field t x f=>(wv C t (d x) f).map .val
 | .index t x i=>(oD C t (d x) (d i)).map .val
 | .lookup t m k w=>match d m with
  | .map Q=>(dV C t (.map Q) (d k) w []).map .val
  |m=>O (.Hj (dV C t m (d k) w))
 | .mapUpdate t m k v=>O (.Iy (cL C t (d m) (d k) (d v)))
 | .insert t m k v=>O (.Iy (cL C t (d m) (d k) (d v)))
 | .mapEntry t m k=>O (.Iy (jt C t (d m) (d k)))
 | .entryStore _ m s v=>O (.Iy (fT (d m) (d s) (d v)))
 | .extract t i=>match d t with
  | .tuple A=>if A.size<=1 then Q else(A[i]?).map .val
  |_=>Q
 | .call c=>ig C d c o
 | .unOp .. => cN C d o
 | .convert .. => cN C d o
 |_=>Q
def cR{j7:Type}{f:j7->Bool}{l:List j7}(h:l.all f=J){i:Nat}{x:j7}(a:l[i]?=O x):f x=J:=
 D7.1 h x (A9 a)
def fh{c:TV}(h:aR c=J):c.cells = #[c]:=by cases c<;>first|rfl|(simp[aR]at h)
section
variable [El]
def It:FO->FO
 | .tuple vs=>match vs.toList with
  | [.agg cs]=>match vH cs with
   |O k=>.int k (El.num cs)
   |Q=>.tuple vs
  |_=>.tuple vs
 |v=>v
def GE:FO->FO
 | .agg cs=>.agg (cs.map It)
 |v=>It v
def kL(v:FO):Bool:=scalar v||kf v
def plain:FO->Bool
 | .agg cs=>cs.toList.all kL
 |v=>kL v
def Zh:Op->Bool
 | .select .. => J
 | .defer _=>J
 |_=>U
def oP(C:p_)(a:Tn)(o:FQ)(v:FO):Prop:=
 Zh o.op=U/\o.op.operands.toList.all (λx=>plain (ka a x))=J/\plain v=J/\
  ∀w,(execOp (λx=>GE (ka a x)) o).run C.P w = .ok (.value (GE v)) w
def gG(g9 a:St):Prop:=
 a.loc=g9.loc/\a.heap=g9.heap/\a.tmps.length=W g9.tmps/\
  ∀(i:Nat) x y,g9.tmps[i]?=O x->a.tmps[i]?=O y->y=x∨(plain x=J/\plain y=J/\GE x=GE y)
abbrev _root_.To:=Array FQ
def cE(ops:To)(a:Tn)(o:FQ):Option Bool:=
 match o.guard with
 |Q=>O J
 |O (j,c)=>
  match ((ops[j]?).bind (·.dst)).bind (a[·]?)with
  |O (.bool b)=>O (b==c)
  |O (.tuple d)=>if d.size=1 then Q else O U
  |_=>O U
structure Below where
 call:TT->Tn->Tu->Value->Tu->Prop
 yield:Nat->Tn->Tu->Value->Tu->Prop
def oz(B:Below)(e:FY)(dst:Tq)(g9 a:St):Prop:=
 match e with
 | .call f args=>∃r H,B.call f args g9.heap r H/\a=({ g9 with heap:=H }:St).put dst r
 | .yield l args=>∃r H,B.yield l args g9.heap r H/\a=({ g9 with heap:=H }:St).put dst r
 |e=>∃p,aZ g9 e=O p/\a=p.1.put dst p.2
def ar(C:p_)(B:Below)(b_:TC)(ops:To)(i:Nat)(g9 a:St):Prop:=
 match ops[i]? with
 |Q=>a=g9
 |O o=>
  match cE ops g9.tmps o with
  |Q=>False
  |O U=>a=g9.put o.dst undef
  |O J=>(∃e,aA C b_ (ka g9.tmps) o=O e/\oz B e o.dst g9 a)∨(∃v,oP C g9.tmps o v/\a=g9.put o.dst v)
def bw(C:p_)(B:Below)(b_:TC)(ops:To):TC->St->St->Prop
 | [],g9,a=>a=g9
 |i::l,g9,a=>∃j9,ar C B b_ ops i g9 j9/\bw C B b_ ops l j9 a
def gc(C:p_)(B:Below)(b_:TC)(ops:To):TC->St->St->Prop
 | [],g9,a=>a=g9
 |i::l,g9,a=>∃b j9,gG g9 b/\ar C B b_ ops i b j9/\gc C B b_ ops l j9 a
inductive Fp:(Nat->Value)->Prop
 |ptr:Fp λn=>.pointer (some ⟨n,0,none⟩)
 |slice (e l c:Nat):Fp λn=>.slice (some ⟨n,0,le e⟩) l c
 |map:Fp λn=>.map (some n)
def eN(C:p_)(B:Below)(b_:TC)(ops:To)(c:Nat->Ts)(i:Nat)(g9 b:St):Prop:=
 match c i with
 |Q=>ar C B b_ ops i g9 b
 |O k=>∃o f a x mk,ops[i]?=O o/\cE ops g9.tmps o=O J/\aA C b_ (ka g9.tmps) o=O (.Iy f)/\f g9.heap=O (a++[x],mk (W g9.heap))/\
   (W a)=W g9.heap/\a[k]?=O .dead/\Fp mk/\b=({ g9 with heap:=a.set k x }:St).put o.dst (mk k)
def jS(C:p_)(B:Below)(b_:TC)(ops:To)(b:Nat->Ts):TC->St->St->Prop
 | [],g9,a=>a=g9
 |i::l,g9,a=>i∉l/\∃j9,eN C B b_ ops b i g9 j9/\jS C B b_ ops b l j9 a
def St.pad(g9:St)(n:Nat):St:={ g9 with heap:=g9.heap++FJ n .dead }
def dJ(b_:TC)(o:FQ):Bool:=
 match o.op with
 | .buildSlice _ _ _ | .makeMap _ _ | .makeSlice _ _ _=>J
 | .alloc _ | .box _ _=>match o.dst with
  |O d=>!Nat.beq (b_.getD d 0) (d+2)
  |Q=>U
 | .call c=>match c.callee with
  | .builtin .append=>J
  |_=>U
 |_=>U
def eS(C:p_)(B:Below)(b_:TC)(ops:To)(g9 b:St):Prop:=
 (∀t,bw C B b_ ops (Region.linearise .any ops t) g9 b)∨
 ∃a n,ops.toList.any (dJ b_)=J/\(∀i k,a i=O k->W g9.heap<=k/\k<W g9.heap+n)/\(∀i j k,a i=O k->a j=O k->i=j)/\
  ∀t,jS C B b_ ops a (Region.linearise .any ops t) (g9.pad n) b
def aS(b_:TC):Code->List Nat
 | .region _ ops _=>ops.toList.filterMap λo=>
  match o.op,o.dst with
  | .box ..,O d=>if b_.getD d 0=d+2 then O d else Q
  | .alloc _,O d=>if b_.getD d 0=d+2 then O d else Q
  |_,_=>Q
 | .seq a b=>aS b_ a++aS b_ b
 | .cond _ a b=>aS b_ a++aS b_ b
 | .block _ b=>aS b_ b
 | .loop b=>aS b_ b
 | .rangeFunc _ _ a b=>aS b_ a++aS b_ b
 | .scope b=>aS b_ b
 |_=>[]
def kz(b:TC)(v:FO):FO:=
 match v with
 | EQ (O a)=>if a.spot=O 0&&b.contains a.block then A_ else v
 |v=>if q8 v then v else A_
def jb(a:TC):List (Option (Tn))->Nat->List (Option (Tn))
 | [],_=>[]
 |x::l,i=>(if a.contains i then Q else x)::jb a l (i+1)
def St.clear(g9:St)(a:TC):St:=
 if a=[]then g9 else { g9 with tmps:=g9.tmps.map (kz a),loc:=jb a g9.loc 0 }
def Af(a tm:Tn):Prop:=W tm=W a/\∀(i:Nat) x,tm[i]?=O x->x=A_∨(a[i]?=O x/\q8 x=J)
def cW:List Tmp->Tn->Tn->List FO
 |t::b,v::vs,a=>cW b vs (a.set t v)
 |_,_,a=>a
def fe(H:Tu)(l:Nat):Option HI:=
 match H[l]? with
 |O (.loop r)=>O r
 |_=>Q
abbrev _root_.Tm:=Option Code
def M7:Exit->Option (Tm)
 | .normal=>O Q
 | .ret=>O (O .ret)
 | .exit id=>O (O (.exit id))
 |_=>Q
def Ay:Tm->Option Exit
 |Q=>O .normal
 |O .ret=>O .ret
 |O (.exit id)=>O (.exit id)
 |_=>Q
def gh(C:p_)(g9:St):ResultVar->Option FO
 | .tmp t=>O (g9.tmps.getD t undef)
 | .cell a t=>
  match g9.tmps.getD a undef with
  | EQ (O p)=>
   match p.spot with
   |Q=>(gw g9.heap p.block).bind λvs=>dL C.P t vs p.off
   |O 0=>match g9.loc[p.block]? with
    |O (O vs)=>dL C.P t vs p.off
    |_=>Q
   |_=>Q
  |_=>Q
def dq(C:p_)(g9:St):List ResultVar->Option (Tn)
 | []=>O []
 |r::a=>match gh C g9 r,dq C g9 a with
  |O v,O vs=>O (v::vs)
  |_,_=>Q
def gL:Tn->FO
 | [v]=>v
 |vs=>.tuple vs.toArray
def oA(a:Func)(args:Tn)(H:Tu):St:=
 { tmps:=args++FJ (a.ntmps-W args) undef,loc:=FJ a.ntmps Q,heap:=H }
structure HA extends Below where
 ex:TC->Code->St->Exit->St->Prop
def kU(id:Nat):Exit->Exit
 | .exit i=>if i=id then .normal else .exit i
 |e=>e
def qD(C:p_)(S:HA)(h:TC):Code->St->Exit->St->Prop
 | .skip,g9,e,d=>e = .normal/\d=g9
 | .label _,g9,e,d=>e = .normal/\d=g9
 | .ret,g9,e,d=>e = .ret/\d=g9
 | .exit id,g9,e,d=>e = .exit id/\d=g9
 | .goto _,_,_,_=>False
 | .refuse _,_,_,_=>False
 | .seq a b,g9,e,d=>∃i j9,S.ex h a g9 i j9/\((i = .normal/\S.ex h b j9 e d)∨(i≠.normal/\e=i/\d=j9))
 | .cond c a b,g9,e,d=>∃t,ka g9.tmps c = .bool t/\S.ex h (if t then a else b) g9 e d
 | .block id b,g9,e,d=>∃i,S.ex h b g9 i d/\e=kU id i
 | .loop b,g9,e,d=>∃i j9,S.ex h b (g9.clear (aS h b)) i j9/\((i = .normal/\S.ex h (.loop b) j9 e d)∨(i≠.normal/\e=i/\d=j9))
 | .scope b,g9,e,d=>S.ex h b g9 e d
 | .region _ ops j,g9,e,d=>e = .normal/\(if j then ∃l,gG g9 l/\eS C S.toBelow h ops l d else gc C S.toBelow h ops (List.range ops.size) g9 d)
 | .rangeFunc f params assign body,g9,e,d=>
  h≠[]/\∃g first cap A8 tm r H k,Af g9.tmps tm/\
   ka g9.tmps f = .func (.func g) first cap/\q8 (.func (.func g) first cap)=J/\
   S.call g (first.toList++[.func (.yield (W g9.heap)) #[] #[]]++cap.toList)
    (g9.heap++[.loop { state:=.ready,pending:=Q,fn:=A8,tmps:=tm,params:=params.toList,assign,body }]) r H/\
   fe H (W g9.heap)=O k/\k.state≠.busy/\Ay k.pending=O e/\
   d = { g9 with heap:=H.set (W g9.heap) (.loop { k with state:=.exhausted }) }
def pw(C:p_)(S:HA)(f:TT)(args:Tn)(H:Tu)(r:FO)(H':Tu):Prop:=
 ∃a b e g9 vs,C.P.funcs[f]?=O a/\a.body=O b/\((a.name == "runtime.NumGoroutine")||C.opq f)=U/\
  S.ex (C.b_ f) b (oA a args H) e g9/\(e = .normal∨e = .ret)/\dq C g9 a.results.toList=O vs/\
  r=gL vs/\q8 r=J/\H'=g9.heap
def mR(f:p_)(S:HA)(l:Nat)(args:Tn)(H:Tu)(r:FO)(H':Tu):Prop:=
 ∃a j9 c e b d j,fe H l=O a/\args.length=W a.params/\
  S.ex [] a.assign { tmps:=cW a.params args a.tmps,loc:=[],heap:=H } .normal j9/\
  fe j9.heap l=O c/\c.state = .ready/\
  S.ex [] a.body { j9 with heap:=j9.heap.set l (.loop { c with state:=.busy }) } e b/\M7 e=O j/\
  fe b.heap l=O d/\r = .bool j.isNone/\
  H'=b.heap.set l (.loop { d with state:=if j.isNone then .ready else .done,pending:=j })
abbrev Xv:=FuncId->Tn->Tu->FO->Tu->Prop
def VY(C:p_)(K:Xv):Nat->HA
 |0=>{ call:=K,yield:=λ_ _ _ _ _=>False,ex:=λ_ _ _ _ _=>False }
 |n+1=>{ call:=λf args H r H'=>K f args H r H'∨pw C (VY C K n) f args H r H',yield:=mR C (VY C K n),ex:=qD C (VY C K n) }
end
structure Pl where
 b:Nat
 o:Nat
 room:Nat
 vd:Nat
abbrev t0:=Nat->Option Nat
abbrev m_:=Nat->Option Pl
def Ev:t0:=λ_=>Q
section
variable [El] [Gc]
abbrev _root_.TN:=IntKind
inductive VR(la:t0)(mu:m_):Value->Value->Prop
 |A_ (c:Value):VR la mu (.tuple #[.tuple #[]]) c
 |V9 {cs:Tl} {k:TN} (h:vH cs=some k):VR la mu (.tuple #[.agg cs]) (.int k (El.num cs))
 |scalar {v:Value} (h:scalar v=true):VR la mu v v
 |agg {a c:Tl} (hs:a.size=c.size) (h:∀(i:Nat) (x y:Value),a[i]?=some x->c[i]?=some y->VR la mu x y):VR la mu (.agg a) (.agg c)
 |tuple {a c:Tl} (hn:a.size≠1) (hs:a.size=c.size) (h:∀(i:Nat) (x y:Value),a[i]?=some x->c[i]?=some y->VR la mu x y):VR la mu (.tuple a) (.tuple c)
 |func {fn:Fn} {a b a' b':Tl} (hf:∀l,fn≠.yield l) (ha:a.size=a'.size) (hb:b.size=b'.size)
   (v6:∀(i:Nat) (x y:Value),a[i]?=some x->a'[i]?=some y->VR la mu x y) (B6:∀(i:Nat) (x y:Value),b[i]?=some x->b'[i]?=some y->VR la mu x y) :
   VR la mu (.func fn a b) (.func fn a' b')
 |yield {l:Nat} {p:Pl} (h:mu l=some p):VR la mu (.func (.yield l) #[] #[]) (.func (.yield p.b) #[] #[])
 |GF {s off b:Nat} (h:la s=some b):VR la mu (.pointer (some ⟨s,off,some 0⟩)) (.pointer (some ⟨b,off,none⟩))
 |FT {id off:Nat} {p:Pl} (h:mu id=some p):VR la mu (.pointer (some ⟨id,off,none⟩)) (.pointer (some ⟨p.b,p.o+off,none⟩))
 |F1 {g off:Nat}:VR la mu (.pointer (some ⟨g,off,some 1⟩)) (.pointer (some ⟨GA g,H4 g+off,none⟩))
 |DX {id off len cap cx:Nat} {p:Pl} (h:mu id=some p) (hr:off+cap*p.vd<=p.room) (hl:len<=cap) (hx:cx=0∨cx=cap+1) :
   VR la mu (.slice (some ⟨id,off,le p.vd⟩) len cx) (.slice (some ⟨p.b,p.o+off,none⟩) len cap)
 |C_ {id off cx vd:Nat} {a:Addr} (hx:cx<=1):VR la mu (.slice (some ⟨id,off,le vd⟩) 0 cx) (.slice (some a) 0 0)
 |EF {g off len cap cx:Nat} (hl:len<=cap) (hx:cx=0∨cx=cap+1):VR la mu (.slice (some ⟨g,off,some 1⟩) len cx) (.slice (some ⟨GA g,H4 g+off,none⟩) len cap)
 |D5 {g off cx:Nat} {a:Addr} (hx:cx<=1):VR la mu (.slice (some ⟨g,off,some 1⟩) 0 cx) (.slice (some a) 0 0)
 |map {id:Nat} {p:Pl} (h:mu id=some p):VR la mu (.map (some id)) (.map (some p.b))
def VR.mono{la f:t0}{mu g:m_}{a c:TV}(h:VR la mu a c)(t:∀s b,la s=O b->f s=O b)(j:∀i p,mu i=O p->g i=O p) :
  VR f g a c:=by
 induction h with
 |A_ c=>exact .A_ c
 |V9 h=>exact .V9 h
 |scalar h=>exact .scalar h
 |agg k _ l=>exact .agg k l
 |tuple u k _ l=>exact .tuple u k l
 |func r o q _ _ m n=>exact .func r o q m n
 |yield h=>exact .yield (j _ _ h)
 |GF h=>exact .GF (t _ _ h)
 |FT h=>exact .FT (j _ _ h)
 |F1=>exact .F1
 |DX h v d e=>exact .DX (j _ _ h) v d e
 |C_ e=>exact .C_ e
 |EF d e=>exact .EF d e
 |D5 e=>exact .D5 e
 |map h=>exact .map (j _ _ h)
def VR.up{la:t0}{mu:m_}{a c:TV}(h:VR Ev mu a c):VR la mu a c:=
 h.mono (λ_ _ h=>by cases h) (λ_ _ h=>h)
def VR.undef{la:t0}{mu:m_}:VR la mu undef undef:=.tuple d_ rfl λi x y h=>by simp at h
def cO{la:t0}{mu:m_}{a c:TV}(b:scalar a=J)(h:VR la mu a c):c=a:=by cases h<;>first|rfl|(simp[Am.scalar]at b)
def pH{la:t0}{mu:m_}{a c:TV}(b:gI a=J)(h:VR la mu a c):c=a:=by
 cases a with
 |agg f=>
  cases h with
  |scalar _=>rfl
  |agg d h=>
   rename_i g
   simp only[gI]at b
   congr 1
   apply Array.ext d.symm;intro i j e;exact cO (cR (i:=i) b (by simp[e])) (h i f[i] g[i] (by simp[e]) (by simp[j]))
 |_=>exact cO b h
def uw{la:t0}{mu:m_}{a c:TV}(b:flat a=J)(h:VR la mu a c):c=a:=by
 cases a with
 |tuple f=>
  cases h with
  |A_ c=>simp[flat,gI,Am.scalar]at b
  |V9 _=>simp[flat]at b
  |scalar _=>rfl
  |tuple k d h=>
   rename_i g
   simp only[flat,y_]at b
   replace b:=b.2
   congr 1
   apply Array.ext d.symm;intro i j e;exact pH (cR (i:=i) b (by simp[e])) (h i f[i] g[i] (by simp[e]) (by simp[j]))
 |_=>exact pH b h
def VR.L2{la:t0}{mu:m_}{v:TV}(h:gI v=J):VR la mu v v:=by
 cases v with
 |agg c=>
  refine .agg rfl λi x y a b=>?_;obtain rfl:x=y:=by rw[a]at b;exact Fm b
  exact .scalar (cR (i:=i) (l:=c.toList) h (by simpa using a))
 |_=>exact .scalar h
def VR.of_flat{la:t0}{mu:m_}{v:TV}(h:flat v=J):VR la mu v v:=by
 cases v with
 |tuple c=>
  simp only[flat,y_,bne_iff_ne]at h;refine .tuple h.1 rfl λi x y a b=>?_;obtain rfl:x=y:=by rw[a]at b;exact Fm b
  exact .L2 (cR (i:=i) (l:=c.toList) h.2 (by simpa using a))
 |_=>exact .L2 h
def fY{la:t0}{mu:m_}{a c:TV}(e:bu a=J)(h:VR la mu a c):VR Ev mu a c:=by
 cases h with
 |A_ c=>simp[bu,kf]at e
 |V9 h=>exact .V9 h
 |scalar h=>exact .scalar h
 |agg _ _=>simp[bu]at e
 |tuple f _ _=>exact absurd (gR e) f
 |func _ _ _ _ _=>simp[bu]at e
 |yield h=>simp[bu]at e
 |GF h=>simp[bu]at e
 |FT h=>exact .FT h
 |F1=>exact .F1
 |DX h g b d=>exact .DX h g b d
 |C_ d=>exact .C_ d
 |EF b d=>exact .EF b d
 |D5 d=>exact .D5 d
 |map h=>exact .map h
def qx{f g:TV->Bool}{la:t0}{mu:m_}
  (n:∀a c,f a=J->VR la mu a c->VR Ev mu a c)
  (m:∀cs,g (.agg cs)=cs.toList.all f) (o:∀q a b,g (.func q a b)=(a.toList.all f&&b.toList.all f))
  (p:∀vs,g (.tuple vs)=J->vs.toList.all f=J∨kf (.tuple vs)=J)
  (r:∀v,(∀cs,v≠.agg cs)->(∀q a b,v≠.func q a b)->(∀vs,v≠.tuple vs)->g v=f v)
  {a c:TV} (e:g a=J) (h:VR la mu a c):VR Ev mu a c:=by
 cases h with
 |A_ c=>exact .A_ c
 |V9 h=>exact .V9 h
 |scalar h=>exact .scalar h
 |agg k h=>rw[m]at e;exact .agg k λi x y d l=>n _ _ (cR (i:=i) e (by simpa using d)) (h i x y d l)
 |tuple s k h=>have:=(p _ e).resolve_right λB=>s (gR B);exact .tuple s k λi x y d l=>n _ _ (cR (i:=i) this (by simpa using d)) (h i x y d l)
 |func t z A u w=>
  rw[o,y_]at e;exact .func t z A (λi x y d l=>n _ _ (cR (i:=i) e.1 (by simpa using d)) (u i x y d l))
   (λi x y d l=>n _ _ (cR (i:=i) e.2 (by simpa using d)) (w i x y d l))
 |yield h=>exact .yield h
 |GF h=>rw[r _ d_ d_ d_]at e;exact n _ _ e (.GF h)
 |FT h=>exact .FT h
 |F1=>exact .F1
 |DX h C j d=>exact .DX h C j d
 |C_ d=>exact .C_ d
 |EF j d=>exact .EF j d
 |D5 d=>exact .D5 d
 |map h=>exact .map h
def zf{la:t0}{mu:m_}{a c:TV}(k:bG a=J)(h:VR la mu a c):VR Ev mu a c:=
 qx (f:=bu) (g:=bG) (λ_ _=>fY) (λ_=>rfl) (λ_ _ _=>rfl)
  (λd h=>by
   have b:(d.size==0||kf (.tuple d))=J:=h;simp only[IP,beq_iff_eq]at b;rcases b with b|b
   .left;simp at b;simp[b]
   .exact .inr b) (λv e i j=>by cases v<;>first|rfl|exact absurd rfl (e _)|exact absurd rfl (i _ _ _)|exact absurd rfl (j _)) k h
def fZ{la:t0}{mu:m_}{a c:TV}(i:aW a=J)(h:VR la mu a c):VR Ev mu a c:=
 qx (f:=bG) (g:=aW) (λ_ _=>zf) (λ_=>rfl) (λ_ _ _=>rfl)
  (λ_ h=>.inl h) (λv b d e=>by cases v<;>first|rfl|exact absurd rfl (b _)|exact absurd rfl (d _ _ _)|exact absurd rfl (e _)) i h
def fK{la:t0}{mu:m_}{a c:TV}(i:q8 a=J)(h:VR la mu a c):VR Ev mu a c:=
 qx (f:=aW) (g:=q8) (λ_ _=>fZ) (λ_=>rfl) (λ_ _ _=>rfl)
  (λ_ h=>.inl h) (λv b d e=>by cases v<;>first|rfl|exact absurd rfl (b _)|exact absurd rfl (d _ _ _)|exact absurd rfl (e _)) i h
def yj{la:t0}{mu:m_}{a c:TV}(b:bj a=J)(h:VR la mu a c):VR Ev mu a c:=
 fK (by simp only[bj,y_]at b;exact b.1) h
def nG{la:t0}{mu:m_}{a c:TV}(b:aR a=J)(h:VR la mu a c):aR c=J:=by
 cases h with
 |A_ c=>simp[aR,kf]at b
 |V9 _=>rfl
 |tuple d _ _=>exact absurd (gR b) d
 |scalar h=>exact b
 |_=>first|rfl|(simp[aR]at b)
def zg{la:t0}{mu:m_}{a:TV}{vs:Tl}(b:aR a=J)(h:VR la mu a (.tuple vs)):False:=by
 cases h with
 |A_ c=>simp[aR,kf]at b
 |tuple d _ _=>exact absurd (gR b) d
 |scalar h=>simp[Am.scalar]at h
def A1(la:t0)(mu:m_)(vs cs:Tn):Prop:=W vs=W cs/\∀(i:Nat) (x y:FO),vs[i]?=O x->cs[i]?=O y->VR la mu x y
def A1.nil{la:t0}{mu:m_}:A1 la mu [] []:=⟨rfl,λi x y h=>by simp at h⟩
def A1.cons{la:t0}{mu:m_}{v c:TV}{vs cs:Tn}(h:VR la mu v c)(d:A1 la mu vs cs):A1 la mu (v::vs) (c::cs):=by
 refine⟨by simp[d.1],λi x y a b=>?_⟩;cases i with
 |zero=>simp at a b;subst a b;exact h
 |succ i=>exact d.2 i x y (by simpa using a) (by simpa using b)
def A1.head{la:t0}{mu:m_}{v c:TV}{vs cs:Tn}(h:A1 la mu (v::vs) (c::cs)):VR la mu v c:=h.2 0 v c rfl rfl
def A1.tail{la:t0}{mu:m_}{v c:TV}{vs cs:Tn}(h:A1 la mu (v::vs) (c::cs)):A1 la mu vs cs:=
 ⟨by have:=h.1;simpa using this,λi x y a b=>h.2 (i+1) x y (by simpa using a) (by simpa using b)⟩
def A1.Le{la:t0}{mu:m_}{v:TV}{vs cs:Tn}(h:A1 la mu (v::vs) cs):∃c a,cs=c::a/\VR la mu v c/\A1 la mu vs a:=by
 cases cs with
 |nil=>have:=h.1;simp at this
 |cons c cs=>exact⟨c,cs,rfl,h.head,h.tail⟩
def A1.unnil{la:t0}{mu:m_}{cs:Tn}(h:A1 la mu [] cs):cs=[]:=by have:=h.1;cases cs<;>simp_all
def A1.append{la:t0}{mu:m_}{vs cs c a:Tn}(h:A1 la mu vs cs)(h':A1 la mu c a):A1 la mu (vs++c) (cs++a):=by
 refine⟨by simp[h.1,h'.1],λi x y d b=>?_⟩;have e:=h.1;by_cases f:i<W vs
 .rw[Kh f]at d;rw[Kh a_]at b;exact h.2 i x y d b
 .rw[K0 a_]at d;rw[K0 a_]at b;rw[←e]at b;exact h'.2 _ x y d b
def A1.mono{la a:t0}{mu c:m_}{vs cs:Tn}(h:A1 la mu vs cs)(d:∀s b,la s=O b->a s=O b)(e:∀i p,mu i=O p->c i=O p) :
  A1 a c vs cs:=⟨h.1,λi x y f g=>(h.2 i x y f g).mono d e⟩
def A1.down{la:t0}{mu:m_}{vs cs:Tn}(b:vs.all q8=J)(h:A1 la mu vs cs):A1 Ev mu vs cs:=
 ⟨h.1,λi x y a c=>fK (cR b a) (h.2 i x y a c)⟩
def A1.LA{la:t0}{mu:m_}{vs cs:Tn}(b:vs.all bj=J)(h:A1 la mu vs cs):A1 Ev mu vs cs:=
 ⟨h.1,λi x y a c=>yj (cR b a) (h.2 i x y a c)⟩
def A1.map{la:t0}{mu:m_}{j7:Type}{f g:j7->TV}(l:List j7)(h:∀x,x∈l->VR la mu (f x) (g x)):A1 la mu (l.map f) (l.map g):=by
 induction l with
 |nil=>exact .nil
 |cons a l c=>exact .cons (h a d_) (c λx b=>h x (by simp[b]))
def A1.take{la:t0}{mu:m_}{vs cs:Tn}(h:A1 la mu vs cs)(n:Nat):A1 la mu (vs.take n) (cs.take n):=by
 refine⟨by simp[h.1],λi x y a b=>?_⟩;rw[qbV]at a b;split at a
 next c=>rw[rv c]at b;exact h.2 i x y a b
 .cases a
def A1.drop{la:t0}{mu:m_}{vs cs:Tn}(h:A1 la mu vs cs)(n:Nat):A1 la mu (vs.drop n) (cs.drop n):=by refine⟨by simp[h.1],λi x y a b=>?_⟩;rw[qb9]at a b;exact h.2 _ x y a b
def A1.set{la:t0}{mu:m_}{vs cs:Tn}(h:A1 la mu vs cs)(n:Nat){v c:TV}(f:VR la mu v c):A1 la mu (vs.set n v) (cs.set n c):=by
 refine⟨by simp[h.1],λi x y a b=>?_⟩;rw[Kk]at a b;by_cases d:n=i
 .subst d;simp only[if_true]at a b;split at a
  next e=>rw[rv (by rw[←h.1];exact e)]at b;simp at a b;subst a b;exact f
  .cases a
 .rw[ts d]at a b;exact h.2 i x y a b
def A1.replicate{la:t0}{mu:m_}(n:Nat){v c:TV}(a:VR la mu v c):A1 la mu (FJ n v) (FJ n c):=by
 induction n with
 |zero=>exact .nil
 |succ n b=>exact .cons a b
def A1.get{la:t0}{mu:m_}{vs cs:Tn}(h:A1 la mu vs cs){i:Nat}{x:TV}(a:vs[i]?=O x):∃y,cs[i]?=O y/\VR la mu x y:=by
 have c:i<W vs:=by
  rcases I3 i (W vs) with h|h
  .exact h
  .rw[Ig h]at a;cases a
 have b:i<W cs:=by have:=h.1;omega
 exact⟨cs[i],by simp[b],h.2 i x _ a (by simp[b])⟩
def A1.agg{la:t0}{mu:m_}{a c:Tl}(h:A1 la mu a.toList c.toList):VR la mu (.agg a) (.agg c):=
 .agg (by simpa using h.1) λi x y b d=>h.2 i x y (by simpa using b) (by simpa using d)
def VR.Ss{la:t0}{mu:m_}{a:Tl}{c:TV}(h:VR la mu (.agg a) c):∃d,c = .agg d/\A1 la mu a.toList d.toList:=by
 cases h with
 |scalar h=>simp[Am.scalar]at h
 |agg b h=>exact⟨_,rfl,by simpa using b,λi x y e f=>h i x y (by simpa using e) (by simpa using f)⟩
def A1.tuple{la:t0}{mu:m_}{a c:Tl}(h:A1 la mu a.toList c.toList)(b:a.size≠1:=by simp):VR la mu (.tuple a) (.tuple c):=
 .tuple b (by simpa using h.1) λi x y d e=>h.2 i x y (by simpa using d) (by simpa using e)
def VR.Sv{la:t0}{mu:m_}{a:Tl}{c:TV}(b:a.size≠1)(h:VR la mu (.tuple a) c):∃d,c = .tuple d/\A1 la mu a.toList d.toList:=by
 cases h with
 |A_ c=>simp at b
 |V9 _=>simp at b
 |scalar h=>simp[Am.scalar]at h
 |tuple _ e h=>exact⟨_,rfl,by simpa using e,λi x y f g=>h i x y (by simpa using f) (by simpa using g)⟩
def VR.cells{la:t0}{mu:m_}{a c:TV}(f:aL a=U)(h:VR la mu a c):A1 la mu a.cells.toList c.cells.toList:=by
 cases a with
 |agg i=>obtain⟨d,rfl,b⟩:=h.Ss;exact b
 |tuple g=>
  have e:aR (.tuple g)=J:=by simpa[aL,aR]using f
  rw[fh (nG e h)];exact .cons h .nil
 |_=>rw[fh (nG rfl h)];exact .cons h .nil
end
section
variable [El] [Gc]
def gr(mu:m_)(e e':GU):Prop:=e'.key=e.key/\gI e.key=J/\e'.born=e.born/\VR Ev mu e.val e'.val
def G6(mu:m_)(p:Pl)(x:Option Obj):wa->Prop
 | .cells vs vd rw=>p.vd=vd/\vs.length<=p.room/\vs.all bj=J/\∃c e fr,x=O (.cells c e fr)/\c.size=p.o+p.room/\(rw=J->fr=(0,0))/\
   ∀(i:Nat) v,vs[i]?=O v->∃v',c[p.o+i]?=O v'/\VR Ev mu v v'
 | .map d a=>∃b,x=O (.map b a)/\b.size=W d/\∀(i:Nat) e,d[i]?=O e->∃e',b[i]?=O e'/\gr mu e e'
 | .loop r=>∃L:Loop,x=O (.loop L)/\L.state=r.state/\L.pending=r.pending/\L.params.toList=r.params/\L.assign=r.assign/\L.body=r.body/\A1 Ev mu r.tmps L.tmps.toList
 | .R6 s pos=>x=O (.stringIter s pos)
 | .dead=>True
def gr.mono{mu a:m_}(b:∀i p,mu i=O p->a i=O p){e e':GU}(h:gr mu e e'):gr a e e':=
 ⟨h.1,h.2.1,h.2.2.1,h.2.2.2.mono (λ_ _ h=>h) b⟩
def G6.mono{mu j:m_}(u:∀i p,mu i=O p->j i=O p){p:Pl}{x:Option Obj}{o:wa}(h:G6 mu p x o):G6 j p x o:=by
 cases o with
 |cells C w rw=>let⟨d,f,g,c,e,y,m,n,q,t⟩:=h;exact⟨d,f,g,c,e,y,m,n,q,λi v A=>let ⟨v',a,b⟩:=t i v A;⟨v',a,b.mono (λ_ _ h=>h) u⟩⟩
 |map B k=>let⟨l,d,f,g⟩:=h;exact⟨l,d,f,λi e z=>let ⟨e',a,b⟩:=g i e z;⟨e',a,b.mono u⟩⟩
 |loop r=>let⟨L,d,f,g,m,n,q,t⟩:=h;exact⟨L,d,f,g,m,n,q,t.mono (λ_ _ h=>h) u⟩
 |R6 s pos=>exact h
 |dead=>trivial
def cF(mu:m_)(vs:Tn)(c:Tl)(o:Nat):Prop:=∀(i:Nat) v,vs[i]?=O v->∃v',c[o+i]?=O v'/\VR Ev mu v v'
def cF.mono{mu d:m_}{vs:Tn}{c:Tl}{o:Nat}(h:cF mu vs c o)(e:∀i p,mu i=O p->d i=O p):cF d vs c o:=
 λi v f=>let ⟨v',a,b⟩:=h i v f;⟨v',a,b.mono (λ_ _ h=>h) e⟩
structure WR(C:p_)(base:Nat)(mu:m_)(H:Tu)(w:TX):Prop where
 obj:∀id o,H[id]?=some o->o.alive=true->∃p,mu id=some p/\G6 mu p w.heap[p.b]? o
 inj:∀(i j:Nat) oi oj pi pj,H[i]?=some oi->H[j]?=some oj->oi.owned=true->oj.alive=true->i≠j->mu i=some pi->mu j=some pj->pi.b≠pj.b
 own:∀(i:Nat) o p,H[i]?=some o->o.owned=true->mu i=some p->base<=p.b
 ro:∀(i:Nat) o p,H[i]?=some o->o.alive=true->o.owned=false->mu i=some p->p.b<base
 Mw:∀id,H.length<=id->mu id=none
 Gd:∀g vs,C.G g=some vs->GA g<base/\vs.all bj=true/\∃c e fr,w.heap[GA g]?=some (.cells c e fr)/\cF mu vs c (H4 g)
def Mo(mu:m_)(H:Tu)(b:Nat):Prop:=∃(id:Nat) (o:wa) (p:Pl),H[id]?=O o/\o.owned=J/\mu id=O p/\p.b=b
def bQ{o:wa}(h:o.owned=J):o.alive=J:=by cases o<;>first|rfl|(simp[wa.owned]at h)
structure Gw(H:Tu)(mu:m_)(w:TX)(H':Tu)(mu':m_)(w':TX):Prop where
 len:H.length<=H'.length
 same:∀id,id<H.length->mu' id=mu id
 size:w.heap.size<=w'.heap.size
 ke:∀b,b<w.heap.size->¬Mo mu H b->w'.heap[b]?=w.heap[b]?
 Gg:∀b,Mo mu' H' b->w.heap.size<=b∨Mo mu H b
 os:w'.os=w.os
 tape:w'.tape=w.tape
 output:w'.output=w.output
 dr:w.drawn<=w'.drawn
theorem Gw.refl(H:Tu)(mu:m_)(w:TX):Gw H mu w H mu w:=
 ⟨B7 _,λ_ _=>rfl,B7 _,λ_ _ _=>rfl,λ_ h=>.inr h,rfl,rfl,rfl,B7 _⟩
def Gw.trans{e f g:Tu}{d i j:m_}{p q l:TX}(h:Gw e d p f i q)(k:Gw f i q g j l):Gw e d p g j l where
 len:=VP h.len k.len
 same:=λid n=>(k.same id (qdi n h.len)).trans (h.same id n)
 size:=VP h.size k.size
 ke:=λb a o=>(k.ke b (qdi a h.size) λc=>(h.Gg b c).elim (λm=>a_) o).trans (h.ke b a o)
 Gg:=λb a=>(k.Gg b a).elim (λm=>.inl (VP h.size m)) (h.Gg b)
 os:=k.os.trans h.os
 tape:=k.tape.trans h.tape
 output:=k.output.trans h.output
 dr:=VP h.dr k.dr
def Gw.drew{H H':Tu}{m a:m_}{w w':TX}(h:Gw H m w H' a w')(n:Nat)(b:w'.drawn<=n):Gw H m w H' a { w' with drawn:=n }:=
 ⟨h.len,h.same,h.size,h.ke,h.Gg,h.os,h.tape,h.output,VP h.dr b⟩
def WR.drew{C:p_}{a:Nat}{mu:m_}{H:Tu}{w:TX}(h:WR C a mu H w)(n:Nat):WR C a mu H { w with drawn:=n }:=
 ⟨h.obj,h.inj,h.own,h.ro,h.Mw,h.Gd⟩
def Gw.mono{C:p_}{a:Nat}{H H':Tu}{m d:m_}{w w':TX}(h:Gw H m w H' d w')(e:WR C a m H w):∀i p,m i=O p->d i=O p:=by
 intro i p c;rw[h.same i ?_];exact c;rcases I3 i (W H) with b|b
 .exact b
 .rw[e.Mw i b]at c;cases c
def Ll(mu:m_)(i:Nat)(p:Pl):m_:=λj=>if j=i then O p else mu j
def bN(mu:m_)(i:Nat)(p:Pl):Ll mu i p i=O p:=by simp[Ll]
def fg(mu:m_){i j:Nat}(p:Pl)(h:j≠i):Ll mu i p j=mu j:=by simp[Ll,h]
def mQ{C:p_}{a:Nat}{H:Tu}{m:m_}{w:TX}(d:WR C a m H w)(p:Pl):∀i q,m i=O q->Ll m (W H) p i=O q:=by
 intro i q b;by_cases c:i=W H
 .subst c;rw[d.Mw _ (B7 _)]at b;cases b
 .rw[fg _ _ c];exact b
def aM{j7:Type}{l:List j7}{x y:j7}{i:Nat}(h:(l++[x])[i]?=O y):(i<W l/\l[i]?=O y)∨(i=W l/\y=x):=by
 rcases I3 i (W l) with b|b
 .rw[Kh b]at h;exact .inl ⟨b,h⟩
 .rw[K0 b]at h;have a:i-W l=0:=by
   rcases Nat.eq_zero_or_pos (i-W l)with a|a
   .exact a
   .rw[Ig z_]at h;cases h
  rw[a]at h;exact .inr ⟨a_,by simpa using h.symm⟩
def lh{mu:m_}{p:Pl}{w:TX}{o:wa}(i:o.alive=J)(h:G6 mu p w.heap[p.b]? o):p.b<w.heap.size:=by
 rcases I3 p.b w.heap.size with d|d
 .exact d
 .rw[qcN d]at h;cases o with
  |cells l g rw=>let⟨_,_,_,c,e,k,h,_⟩:=h;cases h
  |map j a=>let⟨f,h,_⟩:=h;cases h
  |loop r=>let⟨L,h,_⟩:=h;cases h
  |R6 s pos=>cases h
  |dead=>cases i
def WR.lt{C:p_}{a:Nat}{mu:m_}{H:Tu}{w:TX}(h:WR C a mu H w){id:Nat}{o:wa}{p:Pl}(e:H[id]?=O o)(c:o.alive=J)(f:mu id=O p):p.b<w.heap.size:=by
 let⟨q,d,g⟩:=h.obj id o e c;obtain rfl:p=q:=by rw[f]at d;exact Fm d
 exact lh c g
def Old(mu a:m_)(H':Tu)(w':TX):Prop:=∀id o,H'[id]?=O o->o.alive=J->∃p,a id=O p/\G6 mu p w'.heap[p.b]? o
def WR.new{C:p_}{m:Nat}{mu:m_}{H:Tu}{w w':TX}(h:WR C m mu H w)(G:m<=w.heap.size){x:Obj}(L:w'.heap=w.heap.push x)
  (Y:w'.os=w.os) (ht:w'.tape=w.tape) (hu:w'.output=w.output) (o:wa) (p:Pl) (Z:p.b=w.heap.size) (E:G6 mu p (O x) o) (K:o.alive=J->o.owned=J) (V:w.drawn<=w'.drawn:=by exact B7 _) :
  WR C m (Ll mu (W H) p) (H++[o]) w'/\Gw H mu w (H++[o]) (Ll mu (W H) p) w'/\Old mu (Ll mu (W H) p) (H++[o]) w':=by
 have hr:G6 (Ll mu (W H) p) p (O x) o:=E.mono (mQ h p);have f:∀b,b<w.heap.size->w'.heap[b]?=w.heap[b]?:=λb G=>by rw[L,qcD,ts a_]
 have v:w'.heap[p.b]?=O x:=by rw[L,qcD,rv Z]
 have F:=mQ h p;refine⟨⟨?_,?_,?_,?_,?_,?_⟩,⟨d_,?_,by simp[L],λb G _=>f b G,?_,Y,ht,hu,V⟩,λid t j_ u=>?_⟩
 rotate_right
 .rcases aM j_ with⟨s,j_⟩|⟨rfl,rfl⟩
  .obtain⟨q,a,r⟩:=h.obj id t j_ u;exact⟨q,F _ _ a,by rw[f _ (lh u r)];exact r⟩
  .exact⟨p,bN _ _ _,by rw[v];exact E⟩
 .intro id t j_ u;rcases aM j_ with⟨s,j_⟩|⟨rfl,rfl⟩
  .obtain⟨q,a,r⟩:=h.obj id t j_ u;refine⟨q,F _ _ a,?_⟩;rw[f _ (lh u r)];exact r.mono F
  .exact⟨p,bN _ _ _,by rw[v];exact hr⟩
 .intro i j oi oj pi pj s M B D A n l;rcases aM s with⟨y,k⟩|⟨rfl,rfl⟩
  .rw[fg _ _ a_]at n;rcases aM M with⟨I,z⟩|⟨rfl,rfl⟩
   .rw[fg _ _ a_]at l;exact h.inj i j oi oj pi pj k z B D A n l
   .rw[bN]at l;obtain rfl:=Fm l;have:=h.lt k (bQ B) n;omega
  .rw[bN]at n;obtain rfl:=Fm n;rcases aM M with⟨I,z⟩|⟨rfl,rfl⟩
   .rw[fg _ _ a_]at l;have:=h.lt z D l;omega
   .exact absurd rfl A
 .intro i t q s d a;rcases aM s with⟨y,k⟩|⟨rfl,rfl⟩
  .rw[fg _ _ a_]at a;exact h.own i t q k d a
  .rw[bN]at a;obtain rfl:=Fm a;omega
 .intro i t q s u d a;rcases aM s with⟨y,k⟩|⟨rfl,rfl⟩
  .rw[fg _ _ a_]at a;exact h.ro i t q k u d a
  .rw[K u]at d;cases d
 .intro id j_;simp at j_;rw[fg _ _ a_];exact h.Mw id a_
 .intro g vs X;let⟨P,R,c,e,N,S,T⟩:=h.Gd g vs X;exact⟨P,R,c,e,N,by rw[f _ a_];exact S,T.mono F⟩
 .intro id j_;rw[fg _ _ a_]
 .rintro b ⟨id,t,q,j_,d,a,rfl⟩;rcases aM j_ with⟨y,s⟩|⟨rfl,rfl⟩
  .rw[fg _ _ a_]at a;exact .inr ⟨id,t,q,s,d,a,rfl⟩
  .rw[bN]at a;obtain rfl:=Fm a;exact .inl a_
def Ep{j7:Type}{l:List j7}{x y:j7}{i j:Nat}(h:(l.set i x)[j]?=O y):(j≠i/\l[j]?=O y)∨(j=i/\i<W l/\y=x):=by
 rw[Kk]at h;by_cases a:i=j
 .subst a;simp only[if_true]at h;split at h
  next b=>exact .inr ⟨rfl,b,by simpa using h.symm⟩
  .cases h
 .rw[ts a]at h;exact .inl ⟨λe=>a e.symm,h⟩
def WR.set{C:p_}{s:Nat}{mu:m_}{H:Tu}{w w':TX}(h:WR C s mu H w){id:Nat}{o:wa}{p:Pl}(j_:H[id]?=O o)(D:o.owned=J)
  (G:mu id=O p) {x:Obj} (hw:w'.heap=w.heap.setIfInBounds p.b x) (V:w'.os=w.os) (ht:w'.tape=w.tape) (hu:w'.output=w.output)
  (E:wa) (T:E.alive=J->E.owned=J) (hr:G6 mu p (O x) E) (hd:w.drawn<=w'.drawn:=by exact B7 _) :
  WR C s mu (H.set id E) w'/\Gw H mu w (H.set id E) mu w':=by
 have R:=h.lt j_ (bQ D) G;have M:=h.own id o p j_ D G;have A:w'.heap[p.b]?=O x:=by rw[hw];simp[R]
 have n:∀b,b≠p.b->w'.heap[b]?=w.heap[b]?:=λb L=>by rw[hw,qbQ (EC L)]
 have a:∀(j:Nat) l,(H.set id E)[j]?=O l->l.alive=J->∃f,H[j]?=O f/\f.alive=J/\(l.owned=J->f.owned=J):=by
  intro j l k u;rcases Ep k with⟨_,k⟩|⟨rfl,_,rfl⟩
  .exact⟨l,k,u,λh=>h⟩
  .exact⟨o,j_,bQ D,λ_=>D⟩
 refine⟨⟨?_,?_,?_,?_,?_,?_⟩,⟨d_,λ_ _=>rfl,by simp[hw],?_,?_,V,ht,hu,hd⟩⟩
 .intro j l k u;rcases Ep k with⟨S,k⟩|⟨rfl,_,rfl⟩
  .obtain⟨q,t,Z⟩:=h.obj j l k u;refine⟨q,t,?_⟩;rw[n q.b λe=>h.inj id j o l p q j_ k D u (EC S) G t e.symm];exact Z
  .exact⟨p,G,by rw[A];exact hr⟩
 .intro i j I l pi pj v k d r P X Y;let⟨B,y,_,m⟩:=a i I v (bQ d);let⟨f,z,K,_⟩:=a j l k r;exact h.inj i j B f pi pj y z (m d) K P X Y
 .intro i I q v d t;let⟨B,y,_,m⟩:=a i I v (bQ d);exact h.own i B q y (m d) t
 .intro i I q v u d t;rcases Ep v with⟨_,N⟩|⟨rfl,_,rfl⟩
  .exact h.ro i I q N u d t
  .rw[T u]at d;cases d
 .intro i v;exact h.Mw i (by simpa using v)
 .intro g vs hg;let⟨h1,h2,c,e,fr,h3,h4⟩:=h.Gd g vs hg;exact⟨h1,h2,c,e,fr,by rw[n _ a_];exact h3,h4⟩
 .intro b _ L;exact n b λe=>L ⟨id,o,p,j_,D,G,e.symm⟩
 .rintro b ⟨j,l,q,k,r,t,rfl⟩;let⟨f,z,_,F⟩:=a j l k (bQ r);exact .inr ⟨j,f,q,z,F r,t,rfl⟩
def WR.move{C:p_}{D:Nat}{mu:m_}{H:Tu}{w w':TX}(h:WR C D mu H w){id:Nat}{o:wa}{p:Pl}(j_:H[id]?=O o)(N:o.owned=J)
  (R:mu id=O p) {x:Obj} (hw:w'.heap=w.heap.setIfInBounds p.b x) (P:w'.os=w.os) (ht:w'.tape=w.tape) (hu:w'.output=w.output)
  (F:wa) (q:Pl) (S:q.b=p.b) (T:G6 mu q (O x) F) (ag:F.alive=J->F.owned=J) (hd:w.drawn<=w'.drawn:=by exact B7 _) :
  WR C D (Ll mu (W H) q) (H.set id .dead++[F]) w'/\Gw H mu w (H.set id .dead++[F]) (Ll mu (W H) q) w'/\Old mu (Ll mu (W H) q) (H.set id .dead++[F]) w':=by
 have hr:G6 (Ll mu (W H) q) q (O x) F:=T.mono (mQ h q);let⟨G,X⟩:=h.set j_ N R (x:=x) hw P ht hu .dead (λh=>by cases h) trivial hd;have Z:=h.lt j_ (bQ N) R;have Y:=h.own id o p j_ N R;have d:W (H.set id wa.dead)=W H:=d_;have y:w'.heap[p.b]?=O x:=by rw[hw];simp[Z]
 have V:∀i r,mu i=O r->Ll mu (W H) q i=O r:=mQ h q;have al:id<W H:=by
  rcases I3 id (W H) with K|K
  .exact K
  .rw[Ig K]at j_;cases j_
 have t:∀(j:Nat) n r,(H.set id wa.dead)[j]?=O n->n.alive=J->mu j=O r->r.b≠p.b:=by
  intro j n r s z a e;rcases Ep s with⟨ad,s⟩|⟨rfl,_,rfl⟩
  .exact h.inj id j o n p r j_ s N z (EC ad) R a e.symm
  .cases z
 refine⟨⟨?_,?_,?_,?_,?_,?_⟩,⟨d_,?_,X.size,X.ke,?_,P,ht,hu,hd⟩,λj n s z=>?_⟩
 rotate_right
 .rcases aM s with⟨A,f⟩|⟨rfl,rfl⟩
  .obtain⟨r,a,v⟩:=G.obj j n f z;exact⟨r,V _ _ a,v⟩
  .rw[d];exact⟨q,bN _ _ _,by rw[S,y];exact T⟩
 .intro j n s z;rcases aM s with⟨A,f⟩|⟨rfl,rfl⟩
  .obtain⟨r,a,v⟩:=G.obj j n f z;exact⟨r,V _ _ a,v.mono V⟩
  .rw[d];exact⟨q,bN _ _ _,by rw[S,y];exact hr⟩
 .intro i j I n pi pj E s k B M u m;rcases aM E with⟨L,l⟩|⟨rfl,rfl⟩
  .rw[fg _ _ a_]at u;rcases aM s with⟨A,f⟩|⟨rfl,rfl⟩
   .rw[fg _ _ a_]at m;exact G.inj i j I n pi pj l f k B M u m
   .rw[d,bN]at m;obtain rfl:=Fm m;rw[S];exact t i I pi l (bQ k) u
  .rw[d,bN]at u;obtain rfl:=Fm u;rcases aM s with⟨A,f⟩|⟨rfl,rfl⟩
   .rw[fg _ _ a_]at m;rw[S];exact EC (t j n pj f B m)
   .exact absurd rfl M
 .intro i I r E k a;rcases aM E with⟨L,l⟩|⟨rfl,rfl⟩
  .rw[fg _ _ a_]at a;exact G.own i I r l k a
  .rw[d,bN]at a;obtain rfl:=Fm a;omega
 .intro i I r E z k a;rcases aM E with⟨L,l⟩|⟨rfl,rfl⟩
  .rw[fg _ _ a_]at a;exact G.ro i I r l z k a
  .rw[ag z]at k;cases k
 .intro i E;simp at E;rw[fg _ _ a_];exact h.Mw i a_
 .intro g vs hg;let⟨K,h2,c,e,fr,h3,h4⟩:=G.Gd g vs hg;exact⟨K,h2,c,e,fr,h3,h4.mono V⟩
 .intro i E;rw[fg _ _ a_]
 .rintro b ⟨j,n,r,s,B,a,rfl⟩;rcases aM s with⟨A,f⟩|⟨rfl,rfl⟩
  .rw[fg _ _ a_]at a;exact X.Gg _ ⟨j,n,r,f,B,a,rfl⟩
  .rw[d,bN]at a;obtain rfl:=Fm a;exact .inr ⟨id,o,p,j_,N,R,S.symm⟩
structure SR(C:p_)(base:Nat)(la:t0)(mu:m_)(g9:St)(tmps:Tl)(w:TX):Prop where
 F7:A1 la mu g9.tmps tmps.toList
 IB:∀s b,la s=some b->∃vs,g9.loc[s]?=some (some vs)
 loc:∀(s:Nat) vs,g9.loc[s]?=some (some vs)->∃b c e,la s=some b/\base<=b/\w.heap[b]?=some (.cells c e (0,0))/\vs.all bj=true/\A1 Ev mu vs c.toList/\¬Mo mu g9.heap b
 Kc:∀s s' b,la s=some b->la s'=some b->s=s'
 wr:WR C base mu g9.heap w
def SR.F8{C:p_}{a:Nat}{la:t0}{mu f:m_}{g9:St}{d:Tl}{w w':TX}{H':Tu}(h:SR C a la mu g9 d w)
  (t:WR C a f H' w') (i:Gw g9.heap mu w H' f w'):SR C a la f { g9 with heap:=H' } d w':=by
 have k:=i.mono h.wr;refine⟨h.F7.mono (λ_ _ h=>h) k,h.IB,?_,h.Kc,t⟩;intro s u r;let⟨b,c,e,l,m,g,n,o,j⟩:=h.loc s u r;have p:b<w.heap.size:=by
  rcases I3 b w.heap.size with h|h
  .exact h
  .rw[qcN h]at g;cases g
 exact⟨b,c,e,l,m,by have:=i.ke b p j;rw[this];exact g,n,o.mono (λ_ _ h=>h) k,λq=>(i.Gg b q).elim (λv=>a_) j⟩
def SR.put{C:p_}{b:Nat}{la:t0}{mu:m_}{g9:St}{a:Tl}{w:TX}(h:SR C b la mu g9 a w)(dst:Tq){v v':TV}(c:VR la mu v v') :
  SR C b la mu (g9.put dst v) (match dst with|some d=>a.setIfInBounds d v'|none=>a) w:=by
 cases dst with
 |none=>exact h
 |some d=>refine⟨?_,h.IB,h.loc,h.Kc,h.wr⟩;have:=h.F7.set d c;simpa[St.put]using this
end
section
variable [El] [Gc]
def gj{P:TI}{t:TS}{d:GQ}(h:P.underlying t=O d):∃i,P.info? t=O i:=by
 unfold Program.underlying at h;cases a:P.info? t with
 |none=>rw[a]at h;cases h
 |some i=>exact⟨i,rfl⟩
def gp{P:TI}{t:TS}(h:P.cellsOf t≠0):∃i,P.info? t=O i:=by
 unfold Program.cellsOf at h;cases a:P.info? t with
 |none=>rw[a]at h;simp at h
 |some i=>exact⟨i,rfl⟩
def bL{P:TI}{t:TS}{i:TypeInfo}(h:P.info? t=O i)(w:TX):(sizeOf t).run P w = .ok (P.cellsOf t) w:=by simp[sizeOf,typeInfo,h,Program.cellsOf]
def sK:GQ->Bool
 | .struct _=>J
 | .array _ _=>J
 |_=>U
def xN{P:TI}{t:TS}{d:GQ}(h:P.underlying t=O d)(w:TX):(isAgg t).run P w = .ok (sK d) w:=by cases d<;>simp[isAgg,run_underlying h,sK]
def bZ{b o n:Nat}:(⟨b,o,Q⟩ : Addr).add n=⟨b,o+n,Q⟩:=by unfold Addr.add;split<;>simp_all
def aP{C:p_}{c:Nat}{la:t0}{mu:m_}{g9:St}{a:Act}{w:TX}(h:SR C c la mu g9 a.tmps w)(x:TM):VR la mu (ka g9.tmps x) (a.eval x):=by
 cases x with
 |tmp t=>
  simp only[ka,Act.eval];have e:W g9.tmps=a.tmps.size:=by simpa using h.F7.1
  rcases I3 t (W g9.tmps) with b|b
  .have d:t<a.tmps.size:=by rw[←e];exact b
   have:=h.F7.2 t g9.tmps[t] a.tmps[t] (by simp[b]) (by simp[d]);simpa[List.getD,Array.getD,b,d]using this
  .have d:a.tmps.size<=t:=by rw[←e];exact b
   simp only[List.getD,Ig b,qdA];rw[show a.tmps.getD t undef=undef by simp[Array.getD,Nat.not_lt.2 d]];exact .undef
 |const v=>
  simp only[ka,Act.eval];split
  next h=>exact .of_flat h
  .exact .A_ _
 |global g=>
  simp only[ka,Act.eval];split
  next h=>
   have:VR la mu (EQ (O ⟨g,0,O 1⟩)) (EQ (O ⟨GA g,H4 g+0,Q⟩)):=.F1
   rwa [Px h,Py h]at this
  .exact .A_ _
 |func f=>exact .func d_ rfl rfl (λi x y h=>by simp at h) (λi x y h=>by simp at h)
def uh{C:p_}{b:Nat}{la:t0}{mu:m_}{g9:St}{a:Act}{w:TX}(h:SR C b la mu g9 a.tmps w)(xs:Array GJ) :
  A1 la mu (xs.toList.map (ka g9.tmps)) (xs.map a.eval).toList:=by
 rw[qdv];exact A1.map _ λx _=>aP h x
def Vb{C:p_}{b:Nat}{la:t0}{mu:m_}{g9:St}{a:Act}{w:TX}(h:SR C b la mu g9 a.tmps w){x:TM}(c:flat (ka g9.tmps x)=J) :
  a.eval x=ka g9.tmps x:=uw c (aP h x)
def yd(P:TI)(la:t0)(mu:m_)(s:Sem Next)(w:TX)(v:FO):Prop:=∃v',s.run P w = .ok (.value v') w/\VR la mu v v'
def iJ{P:TI}{la:t0}{mu:m_}{s:Sem FO}{w:TX}{v v':TV}(h:s.run P w = .ok v' w)(a:VR la mu v v') :
  yd P la mu (do pure (.value (←s))) w v:=⟨v',by simp[h],a⟩
def Db{C:p_}{f:Nat}{la:t0}{mu:m_}{g9:St}{a:Act}{w:TX}(h:SR C f la mu g9 a.tmps w){o:FQ}{e:FY}
  (m:∀cs b,o.op≠.select cs b) (c:cN C (ka g9.tmps) o=O e):∃v,e = .val v/\yd C.P la mu (execOp a.eval o) w v:=by
 unfold cN at c;split at c
 next l=>
  have k:execOp a.eval o=execOp (ka g9.tmps) o:=execOp_congr o m λx i=>Vb h (all_get' l i);split at c
  next v n=>
   split at c
   next g=>cases c;exact⟨v,rfl,v,by rw[k];exact iz n w,.of_flat g⟩
   .cases c
  .cases c
 .cases c where
 all_get' {d:Tn} {j:Array GJ} (h:j.toList.all (λx=>flat (ka d x))=J) {x:TM} (i:x∈j):flat (ka d x)=J:=
  D7.1 h x (by simpa using i)
def Sf{v:TV}(h:kf v=J):∃cs k,v = .tuple #[.agg cs]/\vH cs=O k:=by
 unfold kf at h;split at h
 next b=>
  split at h
  next cs e=>
   let⟨k,a⟩:=s9.1 h;refine⟨cs,k,?_,a⟩
   congr 1
   exact e1.1 (by simpa using e)
  .cases h
 .cases h
def xF{la:t0}{mu:m_}{v c:TV}(hp:kL v=J)(h:VR la mu v c):c=It v:=by
 simp only[kL,IP]at hp;rcases hp with hp|hp
 .rw[cO hp h];unfold Am.scalar at hp;split at hp<;>first|rfl|cases hp
 .obtain⟨d,k,rfl,e⟩:=Sf hp;cases h with
  |scalar h=>simp[Am.scalar]at h
  |tuple b _ _=>simp at b
  |V9 a=>simp[It,a]
def tk{la:t0}{mu:m_}{v:TV}(hp:kL v=J):VR la mu v (It v):=by
 simp only[kL,IP]at hp;rcases hp with hp|hp
 .have:It v=v:=by unfold Am.scalar at hp;split at hp<;>first|rfl|cases hp
  rw[this];exact .scalar hp
 .obtain⟨b,k,rfl,a⟩:=Sf hp;simp only[It,a];exact .V9 a
def BI{la:t0}{mu:m_}{v c:TV}(e:plain v=J)(h:VR la mu v c):c=GE v:=by
 cases v with
 |agg a=>
  obtain⟨g,rfl,b,h⟩:=h.Ss;simp only[GE]
  congr 1
  apply Array.ext (by simpa using b.symm);intro i j k;have d:i<a.size:=by simpa using k
  have:=xF (cR (f:=kL) (i:=i) (x:=a[i]) e (by simp[d])) (h i a[i] g[i] (by simp[d]) (by simp[j]));simpa using this
 |_=>exact xF e h
def xG{la:t0}{mu:m_}{v:TV}(b:plain v=J):VR la mu v (GE v):=by
 cases v with
 |agg e=>simp only[GE];refine .agg d_ λi x y c d=>?_;have a:=cR (f:=kL) (i:=i) (x:=x) b (by simpa using c);rw[Array.getElem?_map,c]at d;cases d;exact tk a
 |_=>exact tk b
def V_{C:p_}{c:Nat}{la:t0}{mu:m_}{g9:St}{a:Act}{w:TX}(h:SR C c la mu g9 a.tmps w){o:FQ}{v:TV}
  (k:oP C g9.tmps o v):yd C.P la mu (execOp a.eval o) w v:=by
 let⟨d,f,g,i⟩:=k;have j:execOp a.eval o=execOp (λx=>GE (ka g9.tmps x)) o:=execOp_congr o (λm b e=>by rw[e]at d;cases d) λx l=>
  BI (D7.1 f x (by simpa using l)) (aP h x)
 exact⟨GE v,by rw[j];exact i w,xG g⟩
section
variable {C:p_} {la:t0} {mu:m_} {w:TX}
def VR.bool{b:Bool}{c:TV}(h:VR la mu (.bool b) c):c = .bool b:=cO rfl h
def VR.int{k:TN}{n:Int}{c:TV}(h:VR la mu (.int k n) c):c = .int k n:=cO rfl h
def lZ{v c:TV}{n:Int}(a:intOf v=O n)(h:VR la mu v c):∃k,c = .int k n:=by cases v<;>simp[intOf]at a;subst a;exact⟨_,h.int⟩
def BB{t:TS}{cs ds:Tl}{off:Nat}{v:TV}(c:zo C t cs off=O v)(h:A1 la mu cs.toList ds.toList) :
  ∃v',(part t ds off).run C.P w = .ok v' w/\VR la mu v v':=by
 unfold zo at c;cases g:C.P.underlying t with
 |none=>rw[g]at c;cases c
 |some d=>
  let⟨i,o⟩:=gj g;have e:=xN g w;have k:=bL o w;rw[g]at c;have j:cs.size=ds.size:=by simpa using h.1
  have f:sK d=J->O (Value.agg (cs.extract off (off+C.P.cellsOf t)))=O v->
    ∃v',(part t ds off).run C.P w = .ok v' w/\VR la mu v v':=by
   intro a l;cases l;refine⟨.agg (ds.extract off (off+C.P.cellsOf t)),by simp[part,e,a,k],A1.agg ?_⟩;simp only[Array.toList_extract,List.extract];exact(h.drop _).take _
  have b:sK d=U->cs[off]?=O v->
    ∃v',(part t ds off).run C.P w = .ok v' w/\VR la mu v v':=by
   intro a l;obtain⟨v',m,n⟩:=h.get (i:=off) (by simpa using l);exact⟨v',by simp[part,e,a,(by simpa using m:ds[off]?=O v')],n⟩
  cases d<;>first|exact f rfl c|exact b rfl c
def T9{t:TS}{x y v:TV}{f:Nat}(a:wv C t x f=O v)(h:VR la mu x y):∃v',(Instr.field t y f).run C.P w = .ok v' w/\VR la mu v v':=by
 unfold wv at a;split at a
 next d j i=>
  obtain⟨k,rfl,b⟩:=h.Ss;cases c:d[f]? with
  |none=>rw[c]at a;cases a
  |some l=>rw[c]at a;let⟨v',e,g⟩:=BB (w:=w) a b;exact⟨v',by simp[Instr.field,run_underlying i,c,asAgg,e],g⟩
 .cases a
def Vh{t:TS}{x y i j v:TV}(c:oD C t x i=O v)(h:VR la mu x y)(o:VR la mu i j):∃v',(Instr.index t y j).run C.P w = .ok v' w/\VR la mu v v':=by
 unfold oD at c;split at c
 .cases c
 next n A=>
  obtain⟨k,rfl⟩:=lZ A o;split at c
  next D e E p=>
   obtain⟨F,rfl,g⟩:=h.Ss;split at c
   next f=>
    have l:∃i,C.P.info? e=O i:=by
     unfold zo at c;cases q:C.P.underlying e with
     |none=>rw[q]at c;cases c
     |some d=>exact gj q
    let⟨i,z⟩:=l;let⟨v',r,u⟩:=BB (w:=w) c g;exact⟨v',by simp[Instr.index,asIntOf,run_underlying p,f.1,f.2,bL z,r],u⟩
   .cases c
  next s p=>
   have B:=cO (a:=.string s) rfl h;subst B;split at c
   next f=>
    cases m:s[n.toNat]? with
    |none=>rw[m]at c;cases c
    |some b=>rw[m]at c;cases c;exact⟨_,by simp[Instr.index,asIntOf,run_underlying p,f,m],.scalar rfl⟩
   .cases c
  .cases c
def VR.RH{a:Addr}{c:TV}(h:VR la mu (EQ (O a)) c)(n:Nat):∃d:Addr,c=EQ (O d)/\d.spot=Q/\VR la mu (EQ (O { a with off:=a.off+n })) (EQ (O (d.add n))):=by
 cases h with
 |scalar h=>simp[Am.scalar]at h
 |GF h=>exact⟨_,rfl,rfl,by rw[bZ];exact .GF h⟩
 |FT h=>exact⟨_,rfl,rfl,by rw[bZ,y7];exact .FT h⟩
 |F1=>exact⟨_,rfl,rfl,by rw[bZ,y7];exact .F1⟩
def um{t:TS}{x y v:TV}{f:Nat}(b:gN C t x f=O v)(h:VR la mu x y):∃v',(Instr.fieldAt t y f).run C.P w = .ok v' w/\VR la mu v v':=by
 unfold gN at b;split at b
 next n a l=>
  split at b
  next c g=>
   split at b
   .cases b
   next e=>cases b;let⟨i,j⟩:=gp e;obtain⟨d,rfl,k,m⟩:=h.RH c.offset;refine⟨EQ (O (d.add c.offset)),?_,m⟩;simp[Instr.fieldAt,run_underlying l,g,Instr.sureAddr,fieldPlace,bL j,e]
  .cases b
 .cases b
def uI{t:TS}{x y i j v:TV}(c:fH C t x i=O v)(h:VR la mu x y)(s:VR la mu i j):∃v',(Instr.indexAt t y j).run C.P w = .ok v' w/\VR la mu v v':=by
 unfold fH at c;split at c
 .cases c
 next n D=>
  obtain⟨k,rfl⟩:=lZ D s;split at c
  next A e a q=>
   split at c
   .cases c
   next z=>
    let⟨i,m⟩:=gp z;split at c
    next f=>cases c;obtain⟨d,rfl,E,F⟩:=h.RH (n.toNat*C.P.cellsOf e);exact⟨_,by simp[Instr.indexAt,asIntOf,run_underlying q,Instr.sureAddr,f.1,f.2,bL m],F⟩
    .cases c
  next e a A G q=>
   split at c
   .cases c
   next z=>
    let⟨i,m⟩:=gp z;split at c
    next f=>
     cases c;cases h with
     |scalar h=>simp[Am.scalar]at h
     |DX h H B u=>
      rename_i id l r p
      refine⟨EQ (O ⟨p.b,p.o+(l+n.toNat*C.P.cellsOf e),Q⟩),?_,by rw[ts (by simp[le])];exact .FT h⟩;simp[Instr.indexAt,asIntOf,run_underlying q,f.1,f.2,bL m,bZ,y7]
     |C_ u=>simp at f;omega
     |EF B u=>
      rename_i g l r
      refine⟨EQ (O ⟨GA g,H4 g+(l+n.toNat*C.P.cellsOf e),Q⟩),?_,by rw[rv rfl];exact .F1⟩;simp[Instr.indexAt,asIntOf,run_underlying q,f.1,f.2,bL m,bZ,y7]
     |D5 u=>simp at f;omega
    .cases c
  .cases c
end
end
section
variable [El] [Gc]
section
variable {C:p_} {la:t0} {mu:m_} {w:TX}
def HV(la:t0)(mu:m_):Tk->Tk->Prop
 |Q,Q=>True
 |O a,O b=>VR la mu a b
 |_,_=>False
abbrev _root_.Th:=Option GJ
def HV.map{f g:Tg}(x:Th)(h:∀x,VR la mu (f x) (g x)):HV la mu (x.map f) (x.map g):=by
 cases x with
 |none=>trivial
 |some x=>exact h x
def eo{x y:Tk}{r:Tt}(a:iU x=O r)(h:HV la mu x y) :
  (r=Q/\y=Q)∨(∃k n,r=O n/\y=O (.int k n)):=by
 cases x with
 |none=>
  cases y with
  |none=>simp[iU]at a;exact .inl ⟨a.symm,rfl⟩
  |some _=>exact h.elim
 |some x=>
  cases y with
  |none=>exact h.elim
  |some y=>
   cases x<;>simp[iU]at a
   rename_i k n
   have:=VR.int h;exact .inr ⟨k,n,a.symm,by rw[this]⟩
def cu{k:TN}{n:Int}{y:Nat}{code:BoundsCode}(h0:0<=n)(h1:n<=y)(w:TX):(Instr.sliceBound (.int k n) y code).run C.P w = .ok n.toNat w:=by simp[Instr.sliceBound,asIntOf,h0,h1]
def Dk{q i j:Tt}{f d g:Tk}{a:Bool}{len cap:Nat}
  (e:(q=Q/\f=Q)∨(∃k n,q=O n/\f=O (.int k n))) (p:(i=Q/\d=Q)∨(∃k n,i=O n/\d=O (.int k n)))
  (v:(j=Q/\g=Q)∨(∃k n,j=O n/\g=O (.int k n)))
  (h0:0<=q.getD 0) (h1:q.getD 0<=i.getD len) (b:i.getD len<=j.getD cap) (c:j.getD cap<=cap) (z:j.isNone∨i.isSome) (w:TX) :
  (Instr.sliceBounds a len cap f d g).run C.P w = .ok ((q.getD 0).toNat,(i.getD len).toNat,(j.getD cap).toNat) w:=by
 rcases v with⟨rfl,rfl⟩|⟨x,m,rfl,rfl⟩
 .rcases p with⟨rfl,rfl⟩|⟨r,h,rfl,rfl⟩
  .rcases e with⟨rfl,rfl⟩|⟨s,l,rfl,rfl⟩
   .simp[Instr.sliceBounds]
   .simp at h0 h1 b c;simp[Instr.sliceBounds,cu h0 h1]
  .rcases e with⟨rfl,rfl⟩|⟨s,l,rfl,rfl⟩
   .simp at h0 h1 b c;simp[Instr.sliceBounds,cu h1 b]
   .simp at h0 h1 b c;have o:=cu (C:=C) (k:=r) (code:=if a then .sliceAcap else .sliceAlen) a_ b w;have u:=cu (C:=C) (k:=s) (y:=h.toNat) (code:=.sliceB) h0 a_ w;simp[Instr.sliceBounds,o,u]
 .rcases p with⟨rfl,rfl⟩|⟨r,h,rfl,rfl⟩
  .simp at z
  .rcases e with⟨rfl,rfl⟩|⟨s,l,rfl,rfl⟩
   .simp at h0 h1 b c;have t:=cu (C:=C) (k:=x) (code:=if a then .slice3Acap else .slice3Alen) a_ c w;have o:=cu (C:=C) (k:=r) (y:=m.toNat) (code:=.slice3B) a_ a_ w;simp[Instr.sliceBounds,t,o]
   .simp at h0 h1 b c;have t:=cu (C:=C) (k:=x) (code:=if a then .slice3Acap else .slice3Alen) a_ c w;have o:=cu (C:=C) (k:=r) (n:=h) (y:=m.toNat) (code:=.slice3B) a_ a_ w;have u:=cu (C:=C) (k:=s) (y:=h.toNat) (code:=.slice3C) h0 a_ w;simp[Instr.sliceBounds,t,o,u]
def rZ{t b:TS}{a:Addr}{len cap l h m:Nat}{e d f:Tk}{i:TypeInfo}(j:C.P.underlying t=O (.slice b))(c:C.P.info? b=O i)
  (g:(Instr.sliceBounds J len cap e d f).run C.P w = .ok (l,h,m) w) :
  (Instr.sliceAt t (DW (O a) len cap) e d f).run C.P w = .ok (.slice (if m=l then O a else O (a.add (l*C.P.cellsOf b))) (h-l) (m-l)) w:=by
 simp only[Instr.sliceAt,Instr.slice,Sem.run_bind,run_underlying j,Result.andThen_ok];simp[g,bL c]
def V2{t:TS}{x y v:TV}{lo M mx D B E:Tk}(j:BW C t x lo M mx=O v)(h:VR la mu x y)
  (Z:HV la mu lo D) (T:HV la mu M B) (ad:HV la mu mx E):∃v',(Instr.sliceAt t y D B E).run C.P w = .ok v' w/\VR la mu v v':=by
 unfold BW at j;split at j
 next al H c q F e3=>
  have r1:=eo q Z;have r2:=eo F T;have r3:=eo e3 ad;split at j
  next s a len cx hu=>
   split at j
   .cases j
   next hz=>
    obtain⟨i,M⟩:=gp hz;split at j
    .cases j
    next I=>
     split at j
     next S=>
      obtain⟨X,Y,k⟩:=S;cases j;generalize V:al.getD 0=l at *;generalize G:H.getD (len:Int)=hv at *;have L:∀(d:Addr) (cap:Nat),len<=cap->(cx=0∨cx=cap+1)->
        (Instr.sliceAt t (DW (O d) len cap) D B E).run C.P w =
         .ok (.slice (if (c.getD (cap:Int)).toNat=l.toNat then O d else O (d.add (l.toNat*C.P.cellsOf s))) (hv.toNat-l.toNat) ((c.getD (cap:Int)).toNat-l.toNat)) w/\
        hv<=c.getD (cap:Int)/\c.getD (cap:Int)<=cap:=by
       intro d cap r ap;have R:hv<=c.getD (cap:Int)/\c.getD (cap:Int)<=cap:=by
        cases c with
        |none=>simp only[bW,G]at k;simp;omega
        |some m=>simp only[bW,G]at k;simp;omega
       have b3:c.isNone∨H.isSome:=by
        cases c with
        |none=>exact .inl rfl
        |some m=>exact .inr k.1
       refine⟨rZ hu M ?_,R⟩;rw[Dk (len:=len) (cap:=cap) r1 r2 r3 (by rw[V];exact X) (by rw[V,G];exact Y) (by rw[G];exact R.1) R.2 b3 w,V,G]
      cases h with
      |scalar h=>simp[Am.scalar]at h
      |DX h hr r K=>
       rename_i id f cap p
       obtain⟨e,z,A⟩:=L ⟨p.b,p.o+f,Q⟩ cap r K;refine⟨_,e,?_⟩;have ag:C.P.cellsOf s=p.vd:=by simp[le]at I;exact I.symm
       rw[ag];split
       next n=>
        have q:hv.toNat-l.toNat=0:=a_;have F:(c.getD (cap:Int)).toNat-l.toNat=0:=a_;rw[q,F];refine .C_ ?_;cases c with
        |none=>simp[bM]at n ⊢;omega
        |some m=>simp[bM]at n ⊢;omega
       next n=>
        rw[bZ,y7];refine .DX h ?_ a_ ?_
        .have:(l.toNat+((c.getD (cap:Int)).toNat-l.toNat))*p.vd<=cap*p.vd:=p9 _ a_;rw[Nq]at this;show f+l.toNat*p.vd+_<=p.room;omega
        .cases c with
         |none=>simp[bM]at n ⊢;omega
         |some m=>simp[bM]at n ⊢
      |C_ K=>
       rename_i id f an N
       obtain⟨e,z,A⟩:=L N 0 a_ a_;refine⟨_,e,?_⟩;have u:(c.getD ((0:Nat):Int)).toNat=l.toNat:=a_;have q:hv.toNat-l.toNat=0:=a_;rw[rv u,q,u,v2];refine .C_ ?_;cases c with
       |none=>simp[bM];omega
       |some m=>simp[bM]at u ⊢;omega
      |EF r K=>
       rename_i g f cap
       obtain⟨e,z,A⟩:=L ⟨GA g,H4 g+f,Q⟩ cap r K;refine⟨_,e,?_⟩;split
       next n=>
        have q:hv.toNat-l.toNat=0:=a_;have F:(c.getD (cap:Int)).toNat-l.toNat=0:=a_;rw[q,F];refine .D5 ?_;cases c with
        |none=>simp[bM]at n ⊢;omega
        |some m=>simp[bM]at n ⊢;omega
       next n=>
        rw[bZ,y7];refine .EF a_ ?_;cases c with
        |none=>simp[bM]at n ⊢;omega
        |some m=>simp[bM]at n ⊢
      |D5 K=>
       rename_i g f N
       obtain⟨e,z,A⟩:=L N 0 a_ a_;refine⟨_,e,?_⟩;have u:(c.getD ((0:Nat):Int)).toNat=l.toNat:=a_;have q:hv.toNat-l.toNat=0:=a_;rw[rv u,q,u,v2];refine .D5 ?_;cases c with
       |none=>simp[bM];omega
       |some m=>simp[bM]at u ⊢;omega
     .cases j
  .cases j
 .cases j
def Vd{vs cs:Tn}(off:Nat):∀(xs ys:Tn) (k:Nat),A1 la mu vs cs->A1 la mu xs ys->
  A1 la mu ((xs.zipIdx k).foldl (λ(a:Tl) (c,j)=>a.setIfInBounds (off+j) c) vs.toArray).toList
   ((ys.zipIdx k).foldl (λ(a:Tl) (c,j)=>a.setIfInBounds (off+j) c) cs.toArray).toList:=by
 intro xs
 induction xs generalizing vs cs with
 |nil=>intro ys k h b;obtain rfl:=b.unnil;simpa using h
 |cons x xs i=>intro ys k h b;obtain⟨y,ys,rfl,f,g⟩:=b.Le;simp only[List.zipIdx_cons,y6];have d:vs.toArray.setIfInBounds (off+k) x=(vs.set (off+k) x).toArray:=d_;have e:cs.toArray.setIfInBounds (off+k) y=(cs.set (off+k) y).toArray:=d_;rw[d,e];exact i ys (k+1) (h.set _ f) g
def Pp(pl:Nat->Option (Nat×Nat)):∀(m a:List (Nat×FO)) (vs cs r:Tl),A1 la mu vs.toList cs.toList->
  (W m=W a/\∀(i:Nat) p q,m[i]?=O p->a[i]?=O q->p.1=q.1/\aL p.2=U/\VR la mu p.2 q.2)->
  Instr.fill pl vs m=O r->∃r',Instr.fill pl cs a=O r'/\A1 la mu r.toList r'.toList:=by
 intro m
 induction m with
 |nil=>
  intro a vs cs r h l b;have:a=[]:=by have:=l.1;cases a<;>simp_all
  subst this;simp[Instr.fill]at b;subst b;exact⟨cs,by simp[Instr.fill],h⟩
 |cons p m G=>
  intro a vs cs r h l b;cases a with
  |nil=>have:=l.1;simp at this
  |cons q a=>
   let⟨D,n⟩:=l;let⟨e,z,A⟩:=n 0 p q rfl rfl;let⟨i,x⟩:=p;let⟨j,y⟩:=q;simp only at e z A;subst e;have v:=A.cells z;have o:x.cells.size=y.cells.size:=by simpa using v.1
   have s:vs.size=cs.size:=by simpa using h.1
   unfold Instr.fill at b ⊢;split at b
   .cases b
   next g B E=>
    split at b
    .cases b
    next f=>
     rw[ts (by rw[←o,←s];exact f)];refine G a _ _ r ?_ ⟨by simpa using D,λk p q l F=>n (k+1) p q (by simpa using l) (by simpa using F)⟩ b;have conv:∀(u t:Tl),(u.zipIdx.foldl (λ(d:Tl) (c,j)=>d.setIfInBounds (g+j) c) t)=u.toList.zipIdx.foldl (λ(d:Tl) (c,j)=>d.setIfInBounds (g+j) c) t:=by intro u t;rw[←qde,Array.toList_zipIdx]
     rw[conv,conv];have:=Vd (la:=la) (mu:=mu) g x.cells.toList y.cells.toList 0 h v;simpa using this
def qe{i:TypeInfo}{z:TV}(h:mT i=O z):i.zero=O z/\z.cells.size=i.size/\flat z=J/\aL z=U:=by
 unfold mT at h;split at h
 next c b=>
  split at h
  next a=>cases h;exact⟨b,a⟩
  .cases h
 .cases h
def lF{P:TI}{t:TS}{z:TV}(h:fq P t=O z):∃i,P.info? t=O i/\i.zero=O z/\z.cells.size=i.size/\flat z=J/\aL z=U:=by
 unfold fq at h;cases a:P.info? t with
 |none=>rw[a]at h;cases h
 |some i=>rw[a,Fj]at h;exact⟨i,rfl,qe h⟩
def rK{P:TI}{t:TS}{z:TV}(h:fq P t=O z):z.cells.size=P.cellsOf t/\flat z=J/\aL z=U:=by let⟨i,a,_,b,c⟩:=lF h;exact⟨by rw[b];simp[Program.cellsOf,a],c⟩
def PRel(la:t0)(mu:m_)(a b:List (Nat×FO)):Prop:=W a=W b/\∀(i:Nat) p q,a[i]?=O p->b[i]?=O q->p.1=q.1/\aL p.2=U/\VR la mu p.2 q.2
def jB(P:TI)(w:TX):∀(a:List Field),(∀f∈a,(P.info? f.type).isSome=J)->
  (a.mapM λf=>(do pure (f.offset,←sizeOf f.type):Sem (Nat×Nat))).run P w = .ok (a.map λf=>(f.offset,P.cellsOf f.type)) w
 | [],_=>d_
 |f::a,h=>by let⟨i,c⟩:=s9.1 (h f d_);have d:=jB P w a λg b=>h g (by simp[b]);simp only[x0,Sem.run_bind,bL c,Result.andThen_ok,Sem.run_pure,d,Fx]
def SN{t:TS}{m:List (Nat×FO)}{A:Array (Nat×FO)}{v:TV}(d:vV C t m=O v)(G:PRel la mu m A.toList) :
  ∃v',(Instr.build t A).run C.P w = .ok v' w/\VR la mu v v':=by
 unfold vV at d;split at d
 next z pl c a=>
  cases h:Instr.fill pl z.cells m with
  |none=>rw[h]at d;cases d
  |some r=>
   rw[h]at d;cases d;have u:A1 la mu z.cells.toList z.cells.toList:=by
    refine⟨rfl,λi x y g B=>?_⟩;obtain rfl:x=y:=by rw[g]at B;exact Fm B
    have:=(rK c).2.1;cases z with
    |agg o=>exact .scalar (cR (f:=Am.scalar) this g)
    |tuple o=>
     have E:(Value.tuple o).cells.toList=[.tuple o]:=rfl;rw[E]at g;cases i with
     |zero=>simp at g;subst g;exact .of_flat this
     |succ i=>simp at g
    |_=>
     cases i with
     |zero=>simp[Value.cells]at g;subst g;exact .of_flat this
     |succ i=>simp[Value.cells]at g
   let⟨H,l,D⟩:=Pp pl m A.toList z.cells z.cells r u G h;refine⟨.agg H,?_,D.agg⟩;have k:(zeroValue t).run C.P w = .ok z w:=by let⟨i,q,l,_⟩:=lF c;simp[zeroValue,typeInfo,q,l]
   unfold pW at a;split at a
   next p s=>
    split at a
    next b=>
     cases a;have F:=jB C.P w p.toList (λf d=>by have:=Array.all_eq_true_iff_forall_mem.1 b f (by simpa using d);simpa using this)
     have j:(λ(i:Nat)=>(((p.toList.map λ(f:Field)=>(f.offset,C.P.cellsOf f.type)).toArray)[i]?:Option (Nat×Nat)))=λ(i:Nat)=>(p[i]?).map λ(f:Field)=>(f.offset,C.P.cellsOf f.type):=by funext i;simp
     simp only[Instr.build,Sem.run_bind,k,Result.andThen_ok,run_underlying s,qdk,Sem.run_map,F];rw[j,l];rfl
    .cases a
   next n e s=>
    split at a
    next b=>cases a;let⟨i,q⟩:=s9.1 b;simp only[Instr.build,Sem.run_bind,k,Result.andThen_ok,run_underlying s,bL q];rw[l];rfl
    .cases a
   .cases a
 .cases d
end
end
section
variable [El] [Gc]
section
variable {C:p_} {la:t0} {mu:m_} {w:TX}
def cF.Ie{vs:Tn}{c:Tl}(h:A1 Ev mu vs c.toList):cF mu vs c 0:=by intro i v d;let⟨e,a,b⟩:=h.get d;exact⟨e,by simpa using a,b⟩
def cF.cut{vs xs:Tn}{c:Tl}{o off n:Nat}(h:cF mu vs c o)(e:cut vs off n=O xs) :
  ∃ys:List FO,W ys=n/\A1 Ev mu xs ys/\∀(j:Nat) y,ys[j]?=O y->c[o+off+j]?=O y:=by
 unfold Am.cut at e;split at e
 next m=>
  cases e;refine⟨(List.range n).map λj=>c.getD (o+off+j) undef,d_,⟨z_,?_⟩,?_⟩
  .intro i x y d a;have f:i<n:=by
    rcases I3 i n with h|h
    .exact h
    .rw[Ig z_]at a;cases a
   rw[qbV,rv f,qb9]at d;let⟨l,b,g⟩:=h _ x d;simp[f]at a;subst a;rw[←y7]at b;simpa[b]using g
  .intro j y a;have k:j<n:=by
    rcases I3 j n with h|h
    .exact h
    .rw[Ig z_]at a;cases a
   have d:∃x,vs[off+j]?=O x:=⟨vs[off+j]'(by omega),d_⟩;let⟨x,d⟩:=d;let⟨l,b,_⟩:=h _ x d;simp[k]at a;rw[←y7]at b;rw[b,←a];simp[b]
 .cases e
def tU{b:Nat}{c:Tl}{e:TS}{fr:Nat×Nat}(h:w.heap[b]?=O (.cells c e fr))(i:Nat):w.cell? ⟨b,i,Q⟩=c[i]?:=by simp[World.cell?,h]
def nW{vs xs:Tn}{c:Tl}{o off n b:Nat}{e:TS}{fr:Nat×Nat}(h:cF mu vs c o)(i:cut vs off n=O xs)(g:w.heap[b]?=O (.cells c e fr)) :
  ∃ys:List FO,W ys=n/\(loadCells ⟨b,o+off,Q⟩ n).run C.P w = .ok ys.toArray w/\A1 Ev mu xs ys:=by
 let⟨ys,a,d,f⟩:=h.cut i;refine⟨ys,a,?_,d⟩;rw[←a];refine run_loadCells_list w _ ys λj v k=>?_;rw[bZ,tU g];exact f j v k
def eJ{vs:Tn}{c:Tl}{o off b:Nat}{e:TS}{fr:Nat×Nat}{t:TS}{v:TV}(h:cF mu vs c o)(g:dL C.P t vs off=O v)(q:w.heap[b]?=O (.cells c e fr)) :
  ∃v',(loadVar t ⟨b,o+off,Q⟩).run C.P w = .ok v' w/\VR Ev mu v v':=by
 unfold dL at g;cases l:C.P.underlying t with
 |none=>rw[l]at g;cases g
 |some d=>
  rw[l]at g;let⟨i,u⟩:=gj l;have k:=xN l w;have n:=bL u w;have x:sK d=J->((cut vs off (C.P.cellsOf t)).map λr=>Value.agg r.toArray)=O v->∃v',(loadVar t ⟨b,o+off,Q⟩).run C.P w = .ok v' w/\VR Ev mu v v':=by
   intro f j;cases a:cut vs off (C.P.cellsOf t)with
   |none=>rw[a]at j;cases j
   |some A=>rw[a]at j;cases j;let⟨z,p,m,s⟩:=nW (C:=C) h a q;exact⟨.agg z.toArray,by simp[loadVar,k,f,n,m],A1.agg (by simpa using s)⟩
  have y:sK d=U->vs[off]?=O v->∃v',(loadVar t ⟨b,o+off,Q⟩).run C.P w = .ok v' w/\VR Ev mu v v':=by intro f j;let⟨v',p,m⟩:=h off v j;exact⟨v',by simp[loadVar,k,f,tU q,p],m⟩
  cases d<;>first|exact x rfl g|exact y rfl g
def kN{b:Nat}{c cs:Tl}{e:TS}{fr:Nat×Nat}(h:w.heap[b]?=O (.cells c e fr)):(w.setRow b cs).heap=w.heap.setIfInBounds b (.cells cs e fr):=by
 have d:b<w.heap.size:=(MD.1 h).1;apply Array.ext (by simp[World.setRow]);intro k i j;have f:(w.setRow b cs).heap[k]?=(w.heap.setIfInBounds b (.cells cs e fr))[k]?:=by
  by_cases a:k=b
  .subst a;rw[setRow_heap w k c cs e fr h];simp[d]
  .rw[setRow_other w b k cs a,qbQ (EC a)]
 have g:=qcy i;have e3:=qcy j;rw[g,e3]at f;exact Fm f
def DS(c:Tl)(at_:Nat)(ys:Tn):Tl:=(c.toList.take at_++ys++c.toList.drop (at_+W ys)).toArray
def iB{c:Tl}{at_:Nat}{ys:Tn}(h:at_+W ys<=c.size):(DS c at_ ys).size=c.size:=by simp[DS];omega
def oK{c:Tl}{at_:Nat}{ys:Tn}(h:at_+W ys<=c.size)(i:Nat) :
  (DS c at_ ys)[i]?=if at_<=i/\i<at_+W ys then ys[i-at_]? else c[i]?:=by
 have a:W (c.toList.take at_)=at_:=z_;simp only[DS,List.getElem?_toArray];by_cases b:i<at_
 .rw[Gu,Kh a_,qbV,rv b,ts a_];simp
 .rw[Gu,K0 a_,a];by_cases d:i<at_+W ys
  .rw[Kh a_,rv ⟨a_,d⟩]
  .rw[K0 a_,qb9,ts a_];have:at_+W ys+(i-at_-W ys)=i:=a_;rw[this];simp
def Dp{vs b xs:Tn}{off:Nat}(c:v_ vs off xs=O b)(i:Nat) :
  b[i]?=if off<=i/\i<off+W xs then xs[i-off]? else vs[i]?:=by
 unfold Am.v_ at c;split at c
 next f=>
  cases c;have a:W (vs.take off)=off:=z_;by_cases d:i<off
  .rw[Gu,Kh a_,qbV,rv d,ts a_]
  .rw[Gu,K0 a_,a];by_cases e:i<off+W xs
   .rw[Kh a_,rv ⟨a_,e⟩]
   .rw[K0 a_,qb9,ts a_]
    congr 1;omega
 .cases c
def iH{vs a xs:Tn}{off:Nat}(b:v_ vs off xs=O a):W a=W vs/\off+W xs<=W vs:=by
 unfold Am.v_ at b;split at b
 .cases b;simp;omega
 .cases b
def tC{f:TV->Bool}{vs a xs:Tn}{off:Nat}(b:v_ vs off xs=O a)(h1:vs.all f=J)(d:xs.all f=J):a.all f=J:=by
 unfold Am.v_ at b;split at b
 .cases b;rw[qdC,qdC,y_,y_];refine⟨⟨D7.2 λx c=>D7.1 h1 x (Xj c),d⟩,D7.2 λx c=>D7.1 h1 x (qbN c)⟩
 .cases b
def cF.v_{vs b xs ys:Tn}{c:Tl}{o off:Nat}(h:cF mu vs c o)(e:v_ vs off xs=O b)(f:A1 Ev mu xs ys)(k:o+W vs<=c.size) :
  cF mu b (DS c (o+off) ys) o:=by
 have n:=iH e;have l:=f.1;intro i v a;rw[Dp e]at a;rw[oK a_];by_cases d:off<=i/\i<off+W xs
 .rw[rv d]at a;rw[rv a_];let⟨m,g,j⟩:=f.get a;exact⟨m,by rw[show o+i-(o+off)=i-off by omega];exact g,j⟩
 .rw[ts d]at a;rw[ts a_];exact h i v a
def iw{xs ys:Tn}(e:A1 la mu xs ys)(h:xs.all bj=J):∀y∈ys,y.oneCell'=J:=by
 intro y g;let⟨i,c⟩:=E4 g;have f:i<W ys:=by
  rcases I3 i (W ys) with h|h
  .exact h
  .rw[Ig h]at c;cases c
 have b:i<W xs:=by have:=e.1;omega
 have a:=cR h (show xs[i]?=O xs[i]by simp[b]);simp only[bj,y_]at a;have d:=e.2 i xs[i] y (by simp[b]) c;have:=nG a.2 d;cases y<;>first|rfl|exact(zg a.2 d).elim|(simp[aR]at this)
def dZ{c:Tl}{e:TS}{b at_:Nat}{ys:Tn}(a:w.heap[b]?=O (.cells c e (0,0)))(d:at_+W ys<=c.size)(h1:∀y∈ys,y.oneCell'=J) :
  (storeCells ⟨b,at_,Q⟩ ys).run C.P w = .ok () (w.setRow b (DS c at_ ys)):=by
 have:=run_storeCells_at C.P b at_ e ys 0 c w a (by simpa using d) h1;simpa[DS]using this
def oN{c:Tl}{e t:TS}{b at_:Nat}{x y:TV}(l:aL x=U)(m:VR la mu x y)(j:x.cells.size=C.P.cellsOf t/\(C.P.info? t).isSome=J)(a:x.cells.toList.all bj=J)
  (g:w.heap[b]?=O (.cells c e (0,0))) (n:at_+x.cells.size<=c.size) :
  (storeVar t ⟨b,at_,Q⟩ y).run C.P w = .ok () (w.setRow b (DS c at_ y.cells.toList)):=by
 have f:=m.cells l;have k:x.cells.size=y.cells.size:=by simpa using f.1
 let⟨i,h⟩:=s9.1 j.2;have d:=dZ (C:=C) (at_:=at_) (ys:=y.cells.toList) g z_ (iw f a);simp[storeVar,bL h,show y.cells.size=C.P.cellsOf t by omega,d]
end
end
section
variable [El] [Gc]
def Lr(C:p_)(b:Nat)(mu:m_)(H:Tu)(w:TX)(s:Sem Next)(H':Tu)(v:FO):Prop:=
 ∃c v' w' a,s.run C.P w = .ok c w'/\(c = .value v'∨(c = .skip/\v'=undef))/\VR Ev a v v'/\WR C b a H' w'/\Gw H mu w H' a w'/\Old mu a H' w'
def qf(C:p_)(g:Nat)(la:t0)(mu:m_)(g9:St)(w:TX)(s:Sem Next):FY->Prop
 | .val v=>yd C.P la mu s w v
 | .H6 _ vs=>∃a e,s.run C.P w = .ok (.value (EQ (O ⟨w.heap.size,0,Q⟩))) (w.alloc (.cells a e))/\A1 Ev mu vs a.toList/\vs.all bj=J
 | .KR k f=>∀vs v,g9.loc[k]?=O (O vs)->f vs=O v->yd C.P la mu s w v
 | .H7 k f=>∀vs d,g9.loc[k]?=O (O vs)->f vs=O d->∃b c cs e,la k=O b/\w.heap[b]?=O (.cells c e (0,0))/\s.run C.P w = .ok .skip (w.setRow b cs)/\A1 Ev mu d cs.toList/\d.all bj=J
 | .Hj f=>∀v,f g9.heap=O v->yd C.P la mu s w v
 | .Iy f=>∀H' v,f g9.heap=O (H',v)->Lr C g mu g9.heap w s H' v
 | .call f args=>∃args':Array FO,A1 Ev mu args args'.toList/\s.run C.P w=(callFunc f args').run C.P w
 | .yield l args=>∃p args',mu l=O p/\A1 Ev mu args (args':Tl).toList/\s.run C.P w=(Instr.yield p.b args').run C.P w
section
variable {C:p_} {base:Nat} {la:t0} {mu:m_} {g9:St} {a:Act} {w:TX}
def sH{v c:TV}{p:Nat×Nat}(d:jq v=O p)(h:VR la mu v c):∃q,mu p.1=O q/\c=EQ (O ⟨q.b,q.o+p.2,Q⟩):=by
 unfold jq at d;split at d
 next a=>
  split at d
  next e=>
   cases d;cases h with
   |scalar h=>simp[Am.scalar]at h
   |GF h=>simp at e
   |FT h=>exact⟨_,h,rfl⟩
   |F1=>simp at e
  .cases d
 .cases d
def sF{v c:TV}{p:Nat×Nat}(b:ip v=O p)(h:VR la mu v c):c=EQ (O ⟨GA p.1,H4 p.1+p.2,Q⟩):=by
 unfold ip at b;split at b
 next a=>
  split at b
  next d=>
   cases b;cases h with
   |scalar h=>simp[Am.scalar]at h
   |GF h=>simp at d
   |FT h=>simp at d
   |F1=>rfl
  .cases b
 .cases b
def wW{v c:TV}{s off:Nat}(d:kI s v=O off)(h:VR la mu v c):∃b,la s=O b/\c=EQ (O ⟨b,off,Q⟩):=by
 unfold kI at d;split at d
 next a=>
  split at d
  next f=>
   cases d;obtain⟨e,rfl⟩:=f;cases h with
   |scalar h=>simp[Am.scalar]at h
   |GF h=>exact⟨_,h,rfl⟩
   |FT h=>simp at e
   |F1=>simp at e
  .cases d
 .cases d
def wL(l:WR C base mu g9.heap w){id:Nat}{vs:Tn}(h:gw g9.heap id=O vs){p:Pl}(j:mu id=O p) :
  ∃c e fr,w.heap[p.b]?=O (.cells c e fr)/\cF mu vs c p.o:=by
 unfold gw at h;split at h
 next n f m j_=>
  cases h;let⟨q,d,k⟩:=l.obj id _ j_ rfl;obtain rfl:p=q:=by rw[j]at d;exact Fm d
  let⟨_,_,_,c,e,fr,g,_,_,i⟩:=k;exact⟨c,e,fr,g,i⟩
 .cases h
def PB(f:WR C base mu g9.heap w){g:Nat}{vs:Tn}(h:C.G g=O vs):∃c e fr,w.heap[GA g]?=O (.cells c e fr)/\cF mu vs c (H4 g):=by let⟨_,_,c,e,fr,b,d⟩:=f.Gd g vs h;exact⟨c,e,fr,b,d⟩
def M_(h:SR C base la mu g9 a.tmps w){s b:Nat}{vs:Tn}(l:g9.loc[s]?=O (O vs))(k:la s=O b) :
  ∃c e,w.heap[b]?=O (.cells c e (0,0))/\A1 Ev mu vs c.toList/\vs.all bj=J:=by
 let⟨f,c,e,d,m,g,i,j,n⟩:=h.loc s vs l;obtain rfl:b=f:=by rw[k]at d;exact Fm d
 exact⟨c,e,g,j,i⟩
def jO{c:TV}{t:TS}{d:Addr}{v':TV}(b:c=EQ (O d))(h:(loadVar t d).run C.P w = .ok v' w):(Instr.loadAt t c).run C.P w = .ok v' w:=by subst b;simp[Instr.loadAt,Instr.sureAddr,h]
def CO(h:SR C base la mu g9 a.tmps w){b_:TC}{t:TS}{x:TM}{e:FY}(d:ey C b_ t x (ka g9.tmps x)=O e) :
  qf C base la mu g9 w (do pure (.value (←Instr.loadAt t (a.eval x)))) e:=by
 have u:=aP h x;unfold ey at d;split at d
 .cases g:jq (ka g9.tmps x)with
  |none=>
   rw[g]at d;cases r:ip (ka g9.tmps x)with
   |none=>rw[r]at d;cases d
   |some p=>
    rw[r]at d;cases d;have m:=sF r u;intro v f;simp only at f;cases o:C.G p.1 with
    |none=>rw[o]at f;cases f
    |some y=>rw[o,Fj]at f;let⟨c,e,A,i,j⟩:=PB h.wr o;let⟨z,k,l⟩:=eJ (C:=C) j f i;exact iJ (jO m k) l.up
  |some p=>
   rw[g]at d;cases d;let⟨q,D,m⟩:=sH g u;intro v f;simp only at f;cases n:gw g9.heap p.1 with
   |none=>rw[n]at f;cases f
   |some y=>rw[n]at f;let⟨c,e,A,i,j⟩:=wL h.wr n D;let⟨z,k,l⟩:=eJ (C:=C) j f i;exact iJ (jO m k) l.up
 .cases g:ip (ka g9.tmps x)with
  |none=>rw[g]at d;cases d
  |some p=>
   rw[g]at d;have m:=sF g u;cases o:C.G p.1 with
   |none=>rw[Fj,o]at d;cases d
   |some y=>
    rw[Fj,o,Fj]at d;cases f:dL C.P t y p.2 with
    |none=>rw[f]at d;cases d
    |some v=>rw[f]at d;cases d;let⟨c,e,A,i,j⟩:=PB h.wr o;let⟨z,k,l⟩:=eJ (C:=C) j f i;exact iJ (jO m k) l.up
 next s _=>
  cases g:kI s (ka g9.tmps x)with
  |none=>rw[g]at d;cases d
  |some F=>rw[g]at d;cases d;let⟨b,B,m⟩:=wW g u;intro y v E f;let⟨c,e,i,j,_⟩:=M_ h E B;let⟨z,k,l⟩:=eJ (C:=C) (cF.Ie j) f i;exact iJ (jO (by rw[m,Hd]) k) l.up
def kP{t:TS}{x:TV}{vs b:Tn}{off:Nat}(h:fE C.P t x vs off=O b) :
  (x.cells.size=C.P.cellsOf t/\(C.P.info? t).isSome=J)/\x.cells.toList.all bj=J/\v_ vs off x.cells.toList=O b:=by
 unfold fE at h;split at h
 next c=>
  split at h
  next d=>exact⟨c,d,h⟩
  .cases h
 .cases h
def rA{c y:TV}{t:TS}{d:Addr}{w':TX}(b:c=EQ (O d))(h:(storeVar t d y).run C.P w = .ok () w'):(Instr.storeAt t c y).run C.P w = .ok () w':=by subst b;simp[Instr.storeAt,Instr.sureAddr,h]
def WR.v_(k:WR C base mu g9.heap w){id:Nat}{vs d xs ys:Tn}{vd off:Nat}{p:Pl}(j_:g9.heap[id]?=O (.cells vs vd J))(i:mu id=O p)
  (g:Am.v_ vs off xs=O d) (l:A1 Ev mu xs ys) (f:xs.all bj=J) :
  ∃c e,w.heap[p.b]?=O (.cells c e (0,0))/\p.o+off+W ys<=c.size/\
   WR C base mu (g9.heap.set id (.cells d vd J)) (w.setRow p.b (DS c (p.o+off) ys))/\Gw g9.heap mu w (g9.heap.set id (.cells d vd J)) mu (w.setRow p.b (DS c (p.o+off) ys)):=by
 let⟨q,j,u⟩:=k.obj id _ j_ rfl;obtain rfl:p=q:=by rw[i]at j;exact Fm j
 let⟨m,y,n,c,e,x,h,r,s,t⟩:=u;obtain rfl:=s rfl;have z:=iH g;have v:=l.1;refine⟨c,e,h,a_,?_⟩;apply k.set j_ rfl i (kN h) rfl rfl rfl _ (λ_=>rfl);exact⟨m,a_,tC g n f,_,e,_,rfl,by rw[iB a_];exact r,λ_=>rfl,cF.v_ t g l a_⟩
def zT(h:SR C base la mu g9 a.tmps w){b_:TC}{t:TS}{x z:TM}{e:FY}(d:fC C b_ t x (ka g9.tmps x) (ka g9.tmps z)=O e) :
  qf C base la mu g9 w (do Instr.storeAt t (a.eval x) (a.eval z);pure .skip) e:=by
 have V:=aP h x;have G:=aP h z;unfold fC at d;split at d
 .cases d
 next B=>
  simp only[Ii]at B;split at d
  .cases k:jq (ka g9.tmps x)with
   |none=>rw[k]at d;cases d
   |some p=>
    rw[k]at d;cases d;let⟨q,hq,I⟩:=sH k V;intro H' v m;unfold kY at m;split at m
    next L Y j_=>
     cases g:fE C.P t (ka g9.tmps z) L p.2 with
     |none=>rw[g]at m;cases m
     |some M=>rw[g]at m;cases m;let⟨H,j,r⟩:=kP g;have f:=G.cells B;let⟨c,e,D,E,F,Z⟩:=h.wr.v_ j_ hq r (f.LA j) j;have l:=oN (C:=C) (at_:=q.o+p.2) B G H j D (by have:=f.1;simp at this E ⊢;omega);refine⟨.skip,undef,_,mu,?_,.inr ⟨rfl,rfl⟩,.undef,F,Z,F.obj⟩;simp[rA I l]
    .cases m
  .cases d
  next s _=>
   cases k:kI s (ka g9.tmps x)with
   |none=>rw[k]at d;cases d
   |some n=>
    rw[k]at d;cases d;let⟨b,R,I⟩:=wW k V;intro L M hs g;let⟨H,j,r⟩:=kP g;let⟨c,e,D,E,F⟩:=M_ h hs R;have f:=G.cells B;have T:=iH r;have ad:W L=c.size:=by simpa using E.1
    have S:(ka g9.tmps z).cells.size=(a.eval z).cells.size:=by simpa using f.1
    have l:=oN (C:=C) (at_:=n) B G H j D (by simp at T;omega);refine⟨b,c,DS c n (a.eval z).cells.toList,e,R,D,by simp[rA I l],?_,tC r F j⟩;have A:=cF.v_ (o:=0) (cF.Ie E) r (f.LA j) a_;rw[Hd]at A;have K:(DS c n (a.eval z).cells.toList).size=c.size:=iB (by simp at T ⊢;omega);refine⟨by simp[K];omega,λi u y hu X=>?_⟩;let⟨u',N,h9⟩:=A i u hu;rw[Hd]at N;obtain rfl:u'=y:=by rw[Array.getElem?_toList,N]at X;exact Fm X
    exact h9
def oG(h:SR C base la mu g9 a.tmps w)(o:base<=w.heap.size){b_:TC}{dst:Tq}{t:TS}{v c:TV}{e:FY}(q:VR la mu v c)(f:cM C b_ dst t v=O e) :
  qf C base la mu g9 w (do pure (.value (←Instr.box t c))) e:=by
 unfold cM at f;split at f
 .cases f
 next l=>
  simp only[Ii]at l;have g:=q.cells l;split at f
  .cases f
  next d=>
   split at f
   .cases f
   next b=>
    simp only[Ii,qcJ]at b;split at f
    .cases f;exact⟨c.cells,t,by simp[Instr.box,newVar,newRow],g.LA b,b⟩
    .cases f;intro s u k;cases k;have j:=h.wr.new o (w':=w.alloc (.cells c.cells t)) (x:=.cells c.cells t) rfl rfl rfl rfl (.cells v.cells.toList (nV C.P t) J) ⟨w.heap.size,0,c.cells.size,nV C.P t⟩ rfl (by
      have p:v.cells.size=c.cells.size:=by simpa using g.1
      refine⟨rfl,by simp[p],b,c.cells,t,_,rfl,d_,λ_=>rfl,λi u k=>?_⟩;let⟨r,m,n⟩:=(g.LA b).get k;exact⟨r,by simpa using m,n⟩) (λ_=>rfl)
     refine⟨.value (EQ (O ⟨w.heap.size,0,Q⟩)),_,_,_,by simp[Instr.box,newVar,newRow],.inl rfl,?_,j.1,j.2.1,j.2.2⟩;exact .FT (bN _ _ _)
end
end
section
variable [El] [Gc]
section
variable {C:p_} {base:Nat} {la:t0} {mu:m_} {g9:St} {a:Act} {w:TX}
def WR.newRow(q:WR C base mu g9.heap w)(l:base<=w.heap.size){w':TX}{vs ys:Tn}{cs:Tl}{e:TS}{vd:Nat}(h:A1 Ev mu vs ys)(c:vs.all bj=J)
  (b:∀(i:Nat) y,ys[i]?=O y->cs[i]?=O y) (g:W ys<=cs.size) (f:w'.heap=w.heap.push (.cells cs e)) (d:w'.os=w.os) (n:w'.tape=w.tape) (o:w'.output=w.output) (m:w.drawn<=w'.drawn:=by exact B7 _) :
  WR C base (Ll mu (W g9.heap) ⟨w.heap.size,0,cs.size,vd⟩) (g9.heap++[.cells vs vd J]) w'/\Gw g9.heap mu w (g9.heap++[.cells vs vd J]) (Ll mu (W g9.heap) ⟨w.heap.size,0,cs.size,vd⟩) w'/\Old mu (Ll mu (W g9.heap) ⟨w.heap.size,0,cs.size,vd⟩) (g9.heap++[.cells vs vd J]) w':=by
 refine q.new l f d n o _ _ rfl ⟨rfl,by have:=h.1;simp only;omega,c,cs,e,_,rfl,d_,λ_=>rfl,λi v p=>?_⟩ (λ_=>rfl) m;let⟨y,j,k⟩:=h.get p;exact⟨y,by simpa using b i y j,k⟩
def sE{z:TV}(b:flat z=J)(e:aL z=U):z.cells.toList.all scalar=J:=by
 cases z with
 |agg c=>exact b
 |tuple c=>
  have d:kf (.tuple c)=J:=by simpa[aL]using e
  simp[flat,gR d]at b
 |_=>simpa[Value.cells,flat,gI]using b
def iG{v:TV}(h:scalar v=J):bj v=J:=by unfold Am.scalar at h;split at h<;>first|rfl|cases h
def A1.scalars{vs:Tn}(h:vs.all scalar=J):A1 la mu vs vs:=by
 refine⟨rfl,λi x y b c=>?_⟩;obtain rfl:x=y:=by rw[b]at c;exact Fm c
 exact .scalar (cR h b)
def Ah{f g:TV->Bool}{vs:Tn}(h:vs.all f=J)(b:∀v,f v=J->g v=J):vs.all g=J:=
 D7.2 λx c=>b x (D7.1 h x c)
def Dw{z:Tn}{n i:Nat}(h:i<n*W z):(aQ z n)[i]?=z[i%z.length]?:=by
 unfold aQ
 induction n generalizing i with
 |zero=>simp at h
 |succ n d=>
  rw[qck,qce];by_cases c:i<W z
  .rw[Kh c,Nat.mod_eq_of_lt c]
  .rw[K0 a_];have e:0<W z:=by
    rcases Nat.eq_zero_or_pos (W z) with b|b
    .rw[b]at h;simp at h
    .exact b
   rw[Nq,u4]at h;rw[d a_,←Nat.mod_eq_sub_mod a_]
def fF{z:Tn}{n:Nat}:W (aQ z n)=n*W z:=by
 unfold aQ
 induction n with
 |zero=>simp
 |succ n b=>rw[qck,qce,IL,b,Nq];omega
def jW{f:TV->Bool}{z:Tn}{n:Nat}(h:z.all f=J):(aQ z n).all f=J:=by unfold aQ;rw[List.all_flatten];refine D7.2 λl b=>?_;rw[List.mem_replicate]at b;rw[b.2];exact h
def mh{z:Tl}{n m:Nat}(d:z.size≠0)(h:m=n*z.size)(i:Nat)(c:i<m):(madeCells z m)[i]?=(aQ z.toList n)[i]?:=by rw[Dw z_];have b:i%z.size<z.size:=VN _ a_;simp only[madeCells,Array.getElem?_map];rw[Array.getElem?_range,rv c];simp[b]
def uS(h:SR C base la mu g9 a.tmps w)(M:base<=w.heap.size){t:TS}{l c:TM}{H':Tu}{v:TV}
  (f:dN C t (ka g9.tmps l) (ka g9.tmps c) g9.heap=O (H',v)):Lr C base mu g9.heap w (do pure (.value (←Instr.makeSlice t (a.eval l) (a.eval c)))) H' v:=by
 unfold dN at f;split at f
 next E d g F L S=>
  split at f
  next b N=>
   split at f
   .cases f
   next R=>
    split at f
    next z k=>
     let⟨o,p,B,D⟩:=qe k
     first
     |skip
      split at f
      next u=>
       cases f;let⟨G,H,X,Y⟩:=u;let⟨V,K⟩:=lZ F (aP h l);let⟨T,I⟩:=lZ L (aP h c);have j:(b.bytes:Int)*d<=281474976710656:=by have F:(b.bytes:Int)*d<=4096*d:=qcg a_ a_;omega
       have q:=run_make (P:=C.P) w t g b z S N o V T E d G H j a_;have r:=sE B D;have m:(madeCells z.cells (d.toNat*b.size)).size=d.toNat*b.size:=by simp[madeCells]
       have s:=h.wr.newRow M (w':=w.alloc (.cells (madeCells z.cells (d.toNat*b.size)) g)) (vd:=b.size) (A1.scalars (la:=Ev) (mu:=mu) (jW (n:=d.toNat) r)) (Ah (jW r) λ_=>iG)
        (cs:=madeCells z.cells (d.toNat*b.size)) (e:=g) (λi y A=>by
         have x:i<d.toNat*b.size:=by
          rcases I3 i (d.toNat*b.size)with h|h
          .exact h
          .rw[Ig (by rw[fF];simp[p];exact h)]at A;cases A
         rw[mh (n:=d.toNat) a_ (by rw[p]) i x];exact A) (by rw[fF,m];simp[p]) rfl rfl rfl rfl
       refine⟨.value (DW (O ⟨w.heap.size,0,Q⟩) E.toNat d.toNat),_,_,_,by rw[K,I];simp[q],.inl rfl,?_,s.1,s.2.1,s.2.2⟩;have:=VR.DX (la:=Ev) (id:=W g9.heap) (off:=0) (len:=E.toNat) (cap:=d.toNat) (cx:=d.toNat+1) (bN mu (W g9.heap) ⟨w.heap.size,0,(madeCells z.cells (d.toNat*b.size)).size,b.size⟩)
        (by simp only[m];omega) a_ (.inr rfl)
       simpa using this
      .cases f
    .cases f
  .cases f
 .cases f
def T_(pl:Nat->Option (Nat×Nat)):∀(e:List (Nat×FO)) (cs r:Tl),Instr.fill pl cs e=O r->r.size=cs.size:=by
 intro e
 induction e with
 |nil=>intro cs r h;simp[Instr.fill]at h;rw[h]
 |cons p e g=>
  intro cs r h;let⟨i,x⟩:=p;unfold Instr.fill at h;split at h
  .cases h
  .split at h
   .cases h
   .rw[g _ _ h];have:∀(l:List (FO×Nat)) (b:Tl) (d:Nat),(l.foldl (λ(b:Tl) (c,j)=>b.setIfInBounds (d+j) c) b).size=b.size:=by
     intro l
     induction l with
     |nil=>intro b d;rfl
     |cons y l f=>intro b d;rw[y6,f];simp
    rw[←qde];exact this _ _ _
def Vc{f:TV->Bool}(off:Nat):∀(l:List (FO×Nat)) (b:Tl),b.toList.all f=J->(∀p∈l,f p.1=J)->
  (l.foldl (λ(b:Tl) (c,j)=>b.setIfInBounds (off+j) c) b).toList.all f=J:=by
 intro l
 induction l with
 |nil=>intro b h _;exact h
 |cons y l k=>
  intro b h e;rw[y6];refine k _ (D7.2 λx g=>?_) λp i=>e p (by simp[i]);simp only[Array.toList_setIfInBounds]at g;rcases qbC g with d|d
  .exact D7.1 h x d
  .rw[d];exact e y d_
def YR{f:TV->Bool}(pl:Nat->Option (Nat×Nat)):∀(c:List (Nat×FO)) (cs r:Tl),cs.toList.all f=J->(∀p∈c,p.2.cells.toList.all f=J)->Instr.fill pl cs c=O r->r.toList.all f=J:=by
 intro c
 induction c with
 |nil=>intro cs r h _ b;simp[Instr.fill]at b;subst b;exact h
 |cons p c n=>
  intro cs r h j b;let⟨i,x⟩:=p;unfold Instr.fill at b;split at b
  .cases b
  next g k m=>
   split at b
   .cases b
   .refine n _ r ?_ (λq d=>j q (by simp[d])) b;rw[←qde,Array.toList_zipIdx];refine Vc g _ _ h λq d=>?_;have e:=List.mem_zipIdx d;exact D7.1 (j (i,x) d_) q.1 (by let⟨_,_,l⟩:=e;rw[l];exact List.getElem_mem _)
def rP(h:SR C base la mu g9 a.tmps w)(Z:base<=w.heap.size){t:TS}{n:Nat}{q:List (Nat×FO)}{M:Array (Nat×FO)}{r:Nat×List FO}
  (hp:PRel la mu q M.toList) (F:∀p∈q,p.2.cells.toList.all bj=J) (d:fO C t n q=O r) :
  Lr C base mu g9.heap w (do pure (.value (←Instr.buildSlice t n M))) (g9.heap++[.cells r.2 r.1 J]) (DW (O ⟨W g9.heap,0,le r.1⟩) n (n+1)):=by
 unfold fO at d;split at d
 next c T=>
  split at d
  next b s=>
   split at d
   .cases d
   next E=>
    split at d
    .cases d
    next R=>
     split at d
     next z j=>
      let⟨l,o,I,L⟩:=qe j
      first
      |skip
       have u:=sE I L;cases f:Instr.fill (λi=>O (i*b.size,b.size)) (aQ z.cells.toList n).toArray q with
       |none=>rw[f]at d;cases d
       |some cs=>
        rw[f]at d;cases d;have H:A1 la mu (aQ z.cells.toList n) (aQ z.cells.toList n):=A1.scalars (jW u);let⟨v,A,Y⟩:=Pp (la:=la) (mu:=mu) _ q M.toList (aQ z.cells.toList n).toArray (aQ z.cells.toList n).toArray cs (by simpa using H) hp f;have gw:cs.toList.all bj=J:=YR _ q _ cs (by simpa using Ah (jW u) λ_=>iG) F f;have k:v.size=n*b.size:=by rw[T_ _ _ _ _ A];simp[fF,o]
        have S:¬b.size=0:=E;have g:((Array.range (n*b.size)).map (z.cells[· % z.cells.size]!))=(aQ z.cells.toList n).toArray:=by
         apply qdd;intro i;rw[show((aQ z.cells.toList n).toArray)[i]?=(aQ z.cells.toList n)[i]? from by simp];by_cases D:i<n*b.size
         .exact mh (z:=z.cells) (n:=n) (m:=n*b.size) a_ (by rw[o]) i D
         .rw[qcN z_,Ig (by simp[fF,o];omega)]
        have B:=h.wr.newRow Z (w':=w.alloc (.cells v c)) (vd:=b.size) (Y.LA gw) gw (cs:=v) (e:=c) (λi y hy=>by simpa using hy) d_ rfl rfl rfl rfl;refine⟨.value (DW (O ⟨w.heap.size,0,Q⟩) n n),_,_,_,?_,.inl rfl,?_,B.1,B.2.1,B.2.2⟩
        .have x:¬(n*C.P.cellsOf c > 2 ^ 24):=by simp only[Program.cellsOf,s,G9,jn];omega
         have e3:C.P.cellsOf c=b.size:=by simp[Program.cellsOf,s]
         have K:(zeroValue c).run C.P w = .ok z w:=by simp[zeroValue,typeInfo,s,l]
         rw[e3]at x;by_cases X:n=0
         .subst X;have G:∀N:Array FO,((Array.range (0*b.size)).map (N[· % N.size]!))=(aQ z.cells.toList 0).toArray:=λN=>by rw[ag];simp[aQ]
          simp only[Instr.buildSlice,Sem.run_bind,run_underlying T,Result.andThen_ok,bL s,e3,rv (ag b.size),ts x,Sem.run_pure,G,A];simp[newRow]
         .have V:¬(n*b.size=0):=by simp only[Nat.mul_eq_zero];omega
          simp only[Instr.buildSlice,Sem.run_bind,run_underlying T,Result.andThen_ok,bL s,e3,ts V,ts x,K,Sem.run_pure,g,A];simp[newRow]
        .have:=VR.DX (la:=Ev) (id:=W g9.heap) (off:=0) (len:=n) (cap:=n) (cx:=n+1) (bN mu (W g9.heap) ⟨w.heap.size,0,v.size,b.size⟩) (by simp only[k];omega) a_ (.inr rfl);simpa using this
     .cases d
  .cases d
 .cases d
def lK(hw:WR C base mu g9.heap w){x y:TV}{vd:Nat}{new:Tn}{n:Nat}(g:VR la mu x y)(f:ep C g9.heap vd x=O (new,n))(k:Nat)(w':TX)(ag:w'.heap=w.heap) :
  ∃ys:List FO,(Builtin.lenOf y).run C.P w' = .ok n w'/\ys.length=n*vd/\A1 Ev mu new ys/\new.all bj=J/\
   (k<=n->(Builtin.firstCells vd k y).run C.P w' = .ok (ys.take (k*vd)).toArray w'):=by
 have i:∀ {t z:Tn} {c:Tl} {o r b m:Nat} {e:TS} {A:Nat×Nat},cF mu t c o->cut t r (m*vd)=O z->w.heap[b]?=O (.cells c e A)->t.all bj=J->
   ∃ys:List FO,W ys=m*vd/\A1 Ev mu z ys/\z.all bj=J/\(k<=m->(loadCells ⟨b,o+r,Q⟩ (k*vd)).run C.P w' = .ok (ys.take (k*vd)).toArray w'):=by
  intro t z c o r b m e A hR d S B;let⟨ys,g1,g2,g3⟩:=hR.cut d;refine⟨ys,g1,g2,?_,λY=>?_⟩
  .unfold Am.cut at d;split at d
   .cases d;exact D7.2 λx g=>D7.1 B x (qbN (Xj g))
   .cases d
  .have M:k*vd<=m*vd:=p9 _ Y;have E:W (ys.take (k*vd))=k*vd:=z_;have:=run_loadCells_list (P:=C.P) w' ⟨b,o+r,Q⟩ (ys.take (k*vd)) λj v L=>by
    rw[bZ];have D:w'.heap[b]?=O (.cells c e A):=by rw[ag];exact S
    rw[tU D];apply g3 j v;rw[qbV]at L;split at L
    .exact L
    .cases L
   rw[E]at this;exact this
 unfold ep at f;split at f
 .cases f;have:=cO (a:=DW Q 0 0) rfl g;subst this;exact⟨[],by simp[Builtin.lenOf],d_,.nil,rfl,λu=>by simp[Builtin.firstCells]⟩
 next N K cx=>
  split at f
  next l=>
   cases R:C.G N.block with
   |none=>rw[R]at f;cases f
   |some t=>
    rw[R,Fj]at f;cases d:cut t N.off (K*vd)with
    |none=>rw[d]at f;cases f
    |some z=>
     rw[d]at f;cases f;let⟨al,T,c,e,A,V,X⟩:=hw.Gd _ _ R;let⟨ys,F,H,I,k4⟩:=i X d V T;cases g with
     |scalar h=>simp[Am.scalar]at h
     |DX h Z M g=>simp[le]at l
     |C_ g=>simp[le]at l
     |EF M g=>refine⟨ys,by simp[Builtin.lenOf],F,H,I,λu=>?_⟩;simpa[Builtin.firstCells]using k4 u
     |D5 g=>refine⟨ys,by simp[Builtin.lenOf],F,H,I,λu=>?_⟩;obtain rfl:k=0:=a_;simp[Builtin.firstCells,loadCells,loadCellsFrom]
  .split at f
   next l=>
    split at f
    next t e0 an j_=>
     split at f
     next he=>
      cases d:cut t N.off (K*vd)with
      |none=>rw[d]at f;cases f
      |some z=>
       rw[d]at f;cases f;let⟨q,hq,Z⟩:=hw.obj _ _ j_ rfl;let⟨o1,o2,o3,c,e,A,o4,o5,o6,o7⟩:=Z;let⟨ys,F,H,I,k4⟩:=i o7 d o4 o3;cases g with
       |scalar h=>simp[Am.scalar]at h
       | @DX _ _ _ _ _ p h Z M g=>
        obtain rfl:p=q:=by rw[h]at hq;exact Fm hq
        refine⟨ys,by simp[Builtin.lenOf],F,H,I,λu=>?_⟩;simpa[Builtin.firstCells]using k4 u
       |C_ g=>refine⟨ys,by simp[Builtin.lenOf],F,H,I,λu=>?_⟩;obtain rfl:k=0:=a_;simp[Builtin.firstCells,loadCells,loadCellsFrom]
       |EF M g=>simp[le]at l
       |D5 g=>simp[le]at l
     .cases f
    .cases f
   .cases f
 next s=>
  split at f
  next he=>
   cases f;subst he;have:=cO (a:=.string s) rfl g;subst this;refine⟨s.data.toList.map λb=>EO DU b.toNat,by simp[Builtin.lenOf],by rw[IR,e2];rfl,A1.scalars ?_,?_,λu=>?_⟩
   .exact D7.2 λx g=>by obtain⟨b,_,rfl⟩:=Ed.1 g;rfl
   .exact D7.2 λx g=>by obtain⟨b,_,rfl⟩:=Ed.1 g;rfl
   .simp only[Builtin.firstCells,Sem.run_pure,e2]
    congr 1
    apply Array.ext';simp[ByteArray.data_extract,List.extract]
  .cases f
 .cases f
end
end
section
variable [El] [Gc]
section
variable {C:p_} {base:Nat} {la:t0} {mu:m_} {g9:St} {a:Act} {w:TX}
def qQ:GQ->Bool
 | .int _=>J
 |_=>U
def cj{t h ty e:TS}{i:TypeInfo}{d:GQ}{c:Array TypeId}(h0:c[0]?=O t)(h1:c[1]?=O h)(q:C.P.underlying t=O (.slice e))(r:C.P.underlying h=O d)(j:qQ d=U)
  (m:C.P.info? e=O i) {y:TV} {n sLen sCap:Nat} {ys:Tn} {b:Option Addr} (o:(Builtin.lenOf y).run C.P w = .ok n w) (l:(Builtin.firstCells i.size n y).run C.P w = .ok ys.toArray w) (p:sLen+n<=sCap) :
  (Builtin.append_ c ty #[.slice b sLen sCap,y]).run C.P w =
   match b with
   |none=>.ok (DW Q (sLen+n) sCap) w
   |some g=>((storeCells (g.add (sLen*i.size)) ys).run C.P w).andThen λ_ w'=>.ok (DW (O g) (sLen+n) sCap) w':=by
 have f:∀k,d = .int k->False:=λk e=>by subst e;simp[qQ]at j
 cases b<;>simp[Builtin.append_,h0,h1,run_underlying q,run_underlying r,sizeOf,typeInfo,m,o,l,p]
def rX{t m ty e:TS}{i:TypeInfo}{d:GQ}{z:TV}{c:Array TypeId}(h0:c[0]?=O t)(h1:c[1]?=O m)(v:C.P.underlying t=O (.slice e))(x:C.P.underlying m=O d)(o:qQ d=U)
  (q:C.P.info? e=O i) (A:i.zero=O z) {y:TV} {n sLen sCap:Nat} {olds ys:Tn} {b:Option Addr} (r:(Builtin.lenOf y).run C.P w = .ok n w) (p:(Builtin.firstCells i.size n y).run C.P w.drew = .ok ys.toArray w.drew)
  (u:(Builtin.firstCells i.size sLen (.slice b sLen sCap)).run C.P w.drew = .ok olds.toArray w.drew)
  (D:sCap<sLen+n) (h:aY (sLen+n) i.bytes=J) :
  (Builtin.append_ c ty #[.slice b sLen sCap,y]).run C.P w =
   .ok (DW (O ⟨w.heap.size,0,Q⟩) (sLen+n) (grownCap w (sLen+n) sCap e)) (w.drew.alloc (.cells ((olds++ys).toArray++Builtin.zeroCells z.cells (grownCap w (sLen+n) sCap e-(sLen+n))) e)):=by
 simp only[aY,y_,Lj]at h;have B:(sLen+n)*i.bytes<=140737488355328:=h.2;have l:=growslice_fits (old:=sCap) (need:=sLen+n) (bytes:=i.bytes) a_ a_;have s:¬(sLen+n<=sCap):=a_;have g:¬(9223372036854775807<((sLen:Int)+(n:Int))):=a_;have f:¬(281474976710656<Builtin.nextslicecap (sLen+n) sCap*i.bytes):=a_;have j:∀k,d = .int k->False:=λk e=>by subst e;simp[qQ]at o
 simp[Builtin.append_,h0,h1,run_underlying v,run_underlying x,sizeOf,typeInfo,zeroValue,q,A,r,p,u,s,g,f,Question.forced,newRow,grownCap]
 congr 2
 apply Array.ext';simp
def uU{j7:Type}{l:List j7}{n m:Nat}{x:j7}(h:x∈(l.drop n).take m):x∈l:=qbN (Xj h)
def A2{f:TV->Bool}{vs xs:Tn}{off n:Nat}(b:cut vs off n=O xs)(h:vs.all f=J):xs.all f=J:=by
 unfold Am.cut at b;split at b
 .cases b;exact D7.2 λx c=>D7.1 h x (uU c)
 .cases b
def sw{vs xs:Tn}{off n:Nat}(b:cut vs off n=O xs):W xs=n/\off+n<=W vs:=by
 unfold Am.cut at b;split at b
 .cases b;simp;omega
 .cases b
def G'{vs old:Tn}{p:Pl}{off len vd sCap:Nat}{c:Tl}{e:TS}{fr:Nat×Nat}(l:cF mu vs c p.o)(d:cut vs off (len*vd)=O old)(f:w.heap[p.b]?=O (.cells c e fr))(w':TX)(g:w'.heap=w.heap) :
  ∃os:List FO,W os=len*vd/\A1 Ev mu old os/\(Builtin.firstCells vd len (DW (O ⟨p.b,p.o+off,Q⟩) len sCap)).run C.P w' = .ok os.toArray w'/\∀(j:Nat) y,os[j]?=O y->c[p.o+off+j]?=O y:=by
 let⟨os,h,k,i⟩:=l.cut d;refine⟨os,h,k,?_,i⟩;have:=run_loadCells_list (P:=C.P) w' ⟨p.b,p.o+off,Q⟩ os λj v m=>by rw[bZ,tU (by rw[g];exact f)];exact i j v m
 rw[h]at this;simpa[Builtin.firstCells]using this
def yJ(H:WR C base mu g9.heap w)(v:base<=w.heap.size){t u ty e:TS}{i:TypeInfo}{d:GQ}{z:TV}{c:Array TypeId}(h0:c[0]?=O t)(h1:c[1]?=O u)(G:C.P.underlying t=O (.slice e))(I:C.P.underlying u=O d)(x:qQ d=U)
  (B:C.P.info? e=O i) (K:i.zero=O z) (q:z.cells.size=i.size) {y:TV} {n sLen sCap:Nat} {old new olds ys:Tn} {b:Option Addr} (D:(Builtin.lenOf y).run C.P w = .ok n w) (A:(Builtin.firstCells i.size n y).run C.P w.drew = .ok ys.toArray w.drew)
  (E:(Builtin.firstCells i.size sLen (.slice b sLen sCap)).run C.P w.drew = .ok olds.toArray w.drew) (F:sCap<sLen+n) (p:aY (sLen+n) i.bytes=J)
  (N:A1 Ev mu old olds) (R:A1 Ev mu new ys) (L:W olds=sLen*i.size) (M:W ys=n*i.size) (r:old.all bj=J) (s:new.all bj=J) :
  Lr C base mu g9.heap w (do pure (.value (←Builtin.append_ c ty #[.slice b sLen sCap,y]))) (g9.heap++[.cells (old++new) i.size J]) (DW (O ⟨W g9.heap,0,le i.size⟩) (sLen+n) 0):=by
 have f:=rX (ty:=ty) h0 h1 G I x B K D A E F p;have l:=grownCap_ge w (sLen+n) sCap e;have k:((olds++ys).toArray++Builtin.zeroCells z.cells (grownCap w (sLen+n) sCap e-(sLen+n))).size=grownCap w (sLen+n) sCap e*i.size:=by
  simp[size_zeroCells,L,M,q];rw[←Nq,←Nq]
  congr 1;omega
 have g:=(H.drew (w.drawn+1)).newRow (C:=C) v (w':=w.drew.alloc (.cells ((olds++ys).toArray++Builtin.zeroCells z.cells (grownCap w (sLen+n) sCap e-(sLen+n))) e)) (vd:=i.size) (N.append R) (by simp[r,s]) (e:=e)
  (λj y m=>by
   have o:j<W (olds++ys):=by
    rcases I3 j (W (olds++ys)) with h|h
    .exact h
    .rw[Ig h]at m;cases m
   rw[qda (by simpa using o)];simpa using m) d_ rfl rfl rfl rfl
 refine⟨.value (DW (O ⟨w.heap.size,0,Q⟩) (sLen+n) (grownCap w (sLen+n) sCap e)),_,_,_,by simp[f],.inl rfl,?_,g.1,(Gw.refl g9.heap mu w).drew (w.drawn+1) (Nat.le_succ _) |>.trans g.2.1,g.2.2⟩;have:=VR.DX (la:=Ev) (id:=W g9.heap) (off:=0) (len:=sLen+n) (cap:=grownCap w (sLen+n) sCap e) (cx:=0) (bN mu (W g9.heap) ⟨w.heap.size,0,_,i.size⟩) (by rw[Hd];exact Nat.le_of_eq k.symm) l (.inl rfl);exact this
def Cp(h:SR C base la mu g9 a.tmps w)(hb:base<=w.heap.size){t xT ty:TS}{d:GQ}{T:Array TypeId}{s x:TM}{H':Tu}{v:TV}(h0:T[0]?=O t)(h1:T[1]?=O xT)(X:C.P.underlying xT=O d)(hd:qQ d=U)
  (m:gH C t (ka g9.tmps s) (ka g9.tmps x) g9.heap=O (H',v)):Lr C base mu g9.heap w (do pure (.value (←Builtin.append_ T ty #[a.eval s,a.eval x]))) H' v:=by
 have hs:=aP h s;have a9:=aP h x;unfold gH at m;split at m
 next b1 hu=>
  split at m
  .cases m
  next f hi=>
   split at m
   .cases m
   next b2=>
    split at m
    .cases m
    next b0=>
     obtain⟨z,bP⟩ : ∃z,mT f=O z:=by
      cases bb:mT f with
      |none=>simp[bb]at b0
      |some z=>exact⟨z,rfl⟩
     obtain⟨hz,a4,_,_⟩:=qe bP;split at m
     .cases m
     next M n a5=>
      obtain⟨ys,Y,c2,c3,c4,c5⟩:=lK h.wr a9 a5 n w rfl;obtain⟨b8,b3,ax,ay,aE,bk⟩:=lK h.wr a9 a5 n w.drew rfl;have F:=c5 (B7 _);have R:=bk (B7 _);rw[K5 a_]at F R;split at m
      · -- nil
       rename_i a1
       rw[a1]at hs;have L:=cO (a:=DW Q 0 0) rfl hs;rw[L];split at m
       next G=>cases m;subst G;have g:=cj (ty:=ty) (b:=Q) (sLen:=0) (sCap:=0) h0 h1 hu X hd hi Y F a_;exact⟨.value (DW Q 0 0),_,w,mu,by simpa using congrArg (λr:Result FO=>r.andThen λv w=>.ok (Next.value v) w) g,.inl rfl,.scalar rfl,h.wr,.refl _ _ _,h.wr.obj⟩
       next G=>
        split at m
        next y=>cases m;have:=yJ (ty:=ty) (b:=Q) (sLen:=0) (sCap:=0) (old:=[]) (olds:=[]) h.wr hb h0 h1 hu X hd hi hz a4 Y R (by simp[Builtin.firstCells]) a_ (by simpa using y) .nil ay d_ ax rfl aE;simpa using this
        .cases m
      next u len cx a1=>
       rw[a1]at hs;split at m
       .cases m
       next H=>
        simp only[ne_eq,Classical.not_not]at H;split at m
        next vs e0 b7 j_=>
         split at m
         .cases m
         next a6=>
          simp only[ne_eq,Classical.not_not]at a6;subst a6;split at m
          .cases m
          next old E=>
           obtain⟨q,hq,hr⟩:=h.wr.obj _ _ j_ rfl;obtain⟨o1,o2,o3,c,e,fr,o4,o5,o6,o7⟩:=hr;have L:(∃cap,a.eval s=DW (O ⟨q.b,q.o+u.off,Q⟩) len cap/\u.off+cap*f.size<=q.room/\len<=cap/\(cx=0∨cx=cap+1))∨(∃a',a.eval s=DW (O a') 0 0/\len=0/\cx<=1):=by
            clear m;generalize a.eval s=sv at hs;cases hs with
            |scalar h=>simp[Am.scalar]at h
            | @DX _ _ _ cap _ p hm hr hl a3=>
             obtain rfl:p=q:=by rw[hm]at hq;exact Fm hq
             rw[o1]at hr;exact .inl ⟨cap,rfl,hr,hl,a3⟩
            |C_ a3=>exact .inr ⟨_,rfl,rfl,a3⟩
            |EF hl X=>simp[le]at H
            |D5 X=>simp[le]at H
           have N:∀A,(∃b,a.eval s = .slice b len A/\(b=O ⟨q.b,q.o+u.off,Q⟩∨len=0))->A<len+n->aY (len+n) f.bytes=J->
             Lr C base mu g9.heap w (do pure (.value (←Builtin.append_ T ty #[a.eval s,a.eval x]))) (g9.heap++[.cells (old++M) f.size J]) (DW (O ⟨W g9.heap,0,le f.size⟩) (len+n) 0):=by
            rintro A ⟨b,l,bn⟩ V y;rw[l];rcases bn with rfl|rfl
            .obtain⟨os,g1,g2,g3,_⟩:=G' (C:=C) (sCap:=A) o7 E o4 w.drew rfl;exact yJ (ty:=ty) h.wr hb h0 h1 hu X hd hi hz a4 Y R g3 V y g2 ay g1 ax (A2 E o3) aE
            .have ho:old=[]:=by have:=(sw E).1;simp at this;exact this
             subst ho;exact yJ (ty:=ty) (olds:=[]) h.wr hb h0 h1 hu X hd hi hz a4 Y R (by cases b<;>simp[Builtin.firstCells,loadCells,loadCellsFrom]) V y .nil ay d_ ax rfl aE
           split at m
           · -- the capacity is not known
            split at m
            next G=>
             cases m;subst G;have I:ys=[]:=by have:=c2;simp at this;exact this
             subst I;rcases L with⟨cap,l,B,al,_⟩|⟨a',l,rfl,_⟩
             .have g:=cj (ty:=ty) (b:=O ⟨q.b,q.o+u.off,Q⟩) (sLen:=len) (sCap:=cap) h0 h1 hu X hd hi Y F a_;refine⟨.value (a.eval s),a.eval s,w,mu,?_,.inl rfl,(fY (by simp[bu,H,le]) hs),h.wr,.refl _ _ _,h.wr.obj⟩;rw[l];simp[g,storeCells]
             .have g:=cj (ty:=ty) (b:=O a') (sLen:=0) (sCap:=0) h0 h1 hu X hd hi Y F a_;refine⟨.value (a.eval s),a.eval s,w,mu,?_,.inl rfl,(fY (by simp[bu,H,le]) hs),h.wr,.refl _ _ _,h.wr.obj⟩;rw[l];simp[g,storeCells]
            next G=>
             split at m
             next y=>
              cases m;simp only[y_]at y;obtain⟨a0,y⟩:=y;subst a0;obtain rfl:=o6 rfl;have S:u.block<W g9.heap:=by
               rcases I3 u.block (W g9.heap) with h|h
               .exact h
               .rw[Ig h]at j_;cases j_
              have ap:Lr C base mu g9.heap w (do pure (.value (←Builtin.append_ T ty #[a.eval s,a.eval x]))) (g9.heap++[.cells (old++M) f.size J]) (DW (O ⟨W g9.heap,0,le f.size⟩) (len+n) 0)->
                Lr C base mu g9.heap w (do pure (.value (←Builtin.append_ T ty #[a.eval s,a.eval x]))) (g9.heap.set u.block .dead++[.cells (old++M) f.size J]) (DW (O ⟨W g9.heap,0,le f.size⟩) (len+n) 0):=by
               rintro⟨nx,v',w',bd,g1,g2,g3,g4,g5,g6⟩;have a7:bd u.block=O q:=by rw[g5.same _ S];exact hq
               have av:(g9.heap++[.cells (old++M) f.size J])[u.block]?=O (.cells vs f.size J):=by rw[Kh S];exact j_
               have V:=g4.lt av rfl a7;obtain⟨x0,bC⟩ : ∃x0,w'.heap[q.b]?=O x0:=⟨w'.heap[q.b],by simp[V]⟩;have a2:w'.heap.setIfInBounds q.b x0=w'.heap:=by
                apply qdd;intro k;by_cases hk:k=q.b
                .subst hk;rw[bC];simp[V]
                .rw[qbQ (EC hk)]
               obtain⟨k1,k2⟩:=g4.set av rfl a7 (w':=w') (x:=x0) a2.symm rfl rfl rfl .dead (λh=>by cases h) trivial;rw[qc5 _ _ S]at k1 k2;refine⟨nx,v',w',bd,g1,g2,g3,k1,g5.trans k2,λj oj hj ha=>?_⟩;rw[←qc5 _ _ S]at hj;rcases Ep hj with⟨_,hj⟩|⟨_,_,rfl⟩
               .exact g6 j oj hj ha
               .cases ha
              rcases L with⟨cap,l,B,al,_⟩|⟨a',l,rfl,_⟩
              .by_cases K:len+n<=cap
               · -- in place
                have bm:q.o+u.off+len*f.size+W ys<=c.size:=by have:(len+n)*f.size<=cap*f.size:=p9 _ K;rw[Nq]at this;omega
                have an:=dZ (C:=C) (at_:=q.o+u.off+len*f.size) (ys:=ys) o4 bm (iw c3 c4);have g:=cj (ty:=ty) (b:=O ⟨q.b,q.o+u.off,Q⟩) (sLen:=len) (sCap:=cap) h0 h1 hu X hd hi Y F K;simp only[bZ]at g;rw[an]at g;have hM:=h.wr.move j_ rfl hq (w':=w.setRow q.b (DS c (q.o+u.off+len*f.size) ys)) (kN o4) rfl rfl rfl (.cells (old++M) f.size J) ⟨q.b,q.o+u.off,q.room-u.off,f.size⟩ rfl (by
                 have b6:=sw E;have b5:=c3.1;refine⟨rfl,by simp only[IL];omega,by simp[A2 E o3,c4],_,e,_,rfl,by rw[iB a_];simp only;omega,λ_=>rfl,λi v hv=>?_⟩;obtain⟨os,k1,k2,k3⟩:=cF.cut o7 E;simp only;rw[oK a_];by_cases bs:i<W old
                 .rw[Kh bs]at hv;obtain⟨v',m1,m2⟩:=k2.get hv;rw[ts a_];exact⟨v',k3 i v' m1,m2⟩
                 .rw[K0 a_]at hv;obtain⟨v',m1,m2⟩:=c3.get hv;have b4:i-W old<W ys:=by
                   rcases I3 (i-W old) (W ys) with h|h
                   .exact h
                   .rw[Ig h]at m1;cases m1
                  rw[rv a_];exact⟨v',by rw[show q.o+u.off+i-(q.o+u.off+len*f.size)=i-W old by omega];exact m1,m2⟩) (λ_=>rfl)
                refine⟨.value (DW (O ⟨q.b,q.o+u.off,Q⟩) (len+n) cap),_,_,_,by rw[l];simp[g],.inl rfl,?_,hM.1,hM.2.1,hM.2.2⟩;have:=VR.DX (la:=Ev) (id:=W g9.heap) (off:=0) (len:=len+n) (cap:=cap) (cx:=0) (bN mu (W g9.heap) ⟨q.b,q.o+u.off,q.room-u.off,f.size⟩) (by simp only;omega) K (.inl rfl);simpa using this
               .exact ap (N cap ⟨_,l,.inl rfl⟩ a_ y)
              .exact ap (N 0 ⟨_,l,.inr rfl⟩ a_ y)
             .cases m
           · -- the capacity is known
            rename_i A
            split at m
            next K=>
             split at m
             next a0=>
              subst a0;obtain rfl:=o6 rfl;cases D:v_ vs (u.off+len*f.size) M with
              |none=>rw[D]at m;cases m
              |some be=>
               rw[D]at m;cases m;obtain⟨c',e',g1,g2,g3,g4⟩:=h.wr.v_ j_ hq D c3 c4;obtain⟨rfl,rfl⟩ : c=c'/\e=e':=by rw[g1]at o4;simp only[Ih,Obj.cells.injEq]at o4;exact⟨o4.1.symm,o4.2.1.symm⟩
               rcases L with⟨cap,l,B,al,ag⟩|⟨a',l,rfl,ag⟩
               .have Z:cap=A:=a_;subst Z;have an:=dZ (C:=C) (at_:=q.o+(u.off+len*f.size)) (ys:=ys) g1 g2 (iw c3 c4);have g:=cj (ty:=ty) (b:=O ⟨q.b,q.o+u.off,Q⟩) (sLen:=len) (sCap:=cap) h0 h1 hu X hd hi Y F K;simp only[bZ,y7]at g an;rw[an]at g;refine⟨.value (DW (O ⟨q.b,q.o+u.off,Q⟩) (len+n) cap),_,_,mu,by rw[l];simp[g],.inl rfl,?_,g3,g4,g3.obj⟩;obtain⟨bl,of,sp⟩:=u;simp only at H;subst H;rw[←o1];exact .DX hq (by rw[o1];exact B) K (.inr rfl)
               .have Z:A=0:=a_;subst Z;have G:n=0:=a_;subst G;have I:ys=[]:=by have:=c2;simp at this;exact this
                subst I;have bt:M=[]:=by have:=c3.1;simp at this;exact this
                subst bt;have g:=cj (ty:=ty) (b:=O a') (sLen:=0) (sCap:=0) h0 h1 hu X hd hi Y F a_;have bx:be=vs:=by
                 unfold Am.v_ at D;split at D
                 .cases D;simp
                 .cases D
                subst bx;have a8:g9.heap.set u.block (.cells be f.size J)=g9.heap:=by
                 apply Kj;intro k;rw[Kk];split
                 .rename_i hk;subst hk
                  split
                  .rw[j_]
                  next V=>rw[Ig a_]
                 .rfl
                rw[a8];refine⟨.value (a.eval s),a.eval s,w,mu,?_,.inl rfl,(fY (by simp[bu,H,le]) (by simpa using hs)),h.wr,.refl _ _ _,h.wr.obj⟩;rw[l];simp[g,storeCells]
             .split at m
              next G=>
               cases m;subst G;have I:ys=[]:=by have:=c2;simp at this;exact this
               subst I;refine⟨.value (a.eval s),a.eval s,w,mu,?_,.inl rfl,(fY (by simp[bu,H,le]) (by simpa using hs)),h.wr,.refl _ _ _,h.wr.obj⟩;rcases L with⟨cap,l,B,al,ag⟩|⟨a',l,rfl,ag⟩
               .have g:=cj (ty:=ty) (b:=O ⟨q.b,q.o+u.off,Q⟩) (sLen:=len) (sCap:=cap) h0 h1 hu X hd hi Y F a_;rw[l];simp[g,storeCells]
               .have g:=cj (ty:=ty) (b:=O a') (sLen:=0) (sCap:=0) h0 h1 hu X hd hi Y F a_;rw[l];simp[g,storeCells]
              .cases m
            next K=>
             split at m
             next y=>
              cases m;rcases L with⟨cap,l,B,al,ag⟩|⟨a',l,rfl,ag⟩
              .exact N cap ⟨_,l,.inl rfl⟩ a_ y
              .exact N 0 ⟨_,l,.inr rfl⟩ a_ y
             .cases m
        .cases m
      .cases m
 .cases m
end
end
section
variable [El] [Gc]
section
variable {C:p_} {base:Nat} {la:t0} {mu:m_} {g9:St} {a:Act} {w:TX}
def Yo(h:SR C base la mu g9 a.tmps w){t ty:TS}{b:Array TypeId}{d x:TM}{H':Tu}{v:TV}(h0:b[0]?=O t)
  (c:Ly C t (ka g9.tmps d) (ka g9.tmps x) g9.heap=O (H',v)):Lr C base mu g9.heap w (do pure (.value (←Builtin.copy_ b ty #[a.eval d,a.eval x]))) H' v:=by
 cases c
def SZ(h:SR C base la mu g9 a.tmps w){t ty:TS}{b:Array TypeId}{x:TM}{H':Tu}{v:TV}(h0:b[0]?=O t)
  (c:wc C t (ka g9.tmps x) g9.heap=O (H',v)):Lr C base mu g9.heap w (do pure (.value (←Builtin.clear_ b ty #[a.eval x]))) H' v:=by
 cases c
def rD(o:WR C base mu g9.heap w){t:TS}{e:Addr}{y v:TV}{g f i c b d:Tk}{H:Tu}(n:e.spot=O 1∨H=g9.heap)(j:mM C t e g f i H=O v)(h:VR la mu (EQ (O e)) y)
  (l:HV la mu g c) (k:HV la mu f b) (m:HV la mu i d):∃v',(Instr.sliceAt t y c b d).run C.P w = .ok v' w/\VR la mu v v':=by
 cases j
def pV{j7 c:Type}{P:TI}{x:Sem j7}{f:j7->Sem c}{b:c}(h:EH P (x >>= f)=O b):∃a,EH P x=O a/\EH P (f a)=O b:=by
 induction x with
 |pure a=>exact⟨a,rfl,h⟩
 |program k d=>exact d P h
 |_=>cases h
def jl{P:TI}{kt:TS}{k:TV}:∀(g c:Tj) (i:Nat) (r:Option (Nat×FO)),g.map (·.key)=c.map (·.key)->EH P (Instr.findAsking kt k g i)=O r->
  (∀w,(Instr.findAsking kt k c i).run P w = .ok (r.map λp=>(p.1,(c.getD (p.1-i) default).val)) w)/\∀p,r=O p->i<=p.1/\p.1<i+W g
 | [],c,i,r,d,h=>by
  have:c=[]:=by cases c<;>simp_all
  subst this;simp[Instr.findAsking,EH,Pure.pure]at h;subst h;exact⟨λw=>by simp[Instr.findAsking],λp j=>by cases j⟩
 |e::g,c,i,r,d,h=>by
  cases c with
  |nil=>simp at d
  |cons f c=>
   simp only[Fx,Li]at d;unfold Instr.findAsking at h;let⟨b,n,l⟩:=pV h;cases b with
   |true=>simp[EH,Pure.pure]at l;subst l;refine⟨λw=>?_,λp j=>by cases j;simp⟩;have:=iz n w;rw[d.1]at this;simp[Instr.findAsking,this]
   |false=>
    simp only[FG,if_false]at l;let⟨q,m⟩:=jl g c (i+1) r d.2 l;refine⟨λw=>?_,λp j=>by have:=m p j;simp;omega⟩;have:=iz n w;rw[d.1]at this;have o:(Instr.findAsking kt k (f::c) i).run P w=(Instr.findAsking kt k c (i+1)).run P w:=by simp[Instr.findAsking,this]
    rw[o,q w];cases r with
    |none=>rfl
    |some p=>have:=(m p rfl).1;simp only[G9];rw[show p.1-i=(p.1-(i+1))+1 by omega];rfl
def jo{kind:GQ}{k:TV}:∀(d c:Tj) (i:Nat),d.map (·.key)=c.map (·.key)->
  Instr.findNow kind k c i=(Instr.findNow kind k d i).map λr=>r.map λp=>(p.1,(c.getD (p.1-i) default).val)
 | [],c,i,g=>by
  have:c=[]:=by cases c<;>simp_all
  subst this;rfl
 |e::d,c,i,g=>by
  cases c with
  |nil=>simp at g
  |cons f c=>
   simp only[Fx,Li]at g;unfold Instr.findNow;rw[g.1];cases q:Instr.sameNow kind k f.key with
   |none=>rfl
   |some b=>
    cases b with
    |true=>simp
    |false=>
     simp only;rw[jo d c (i+1) g.2];have m:∀(l:Tj) (j:Nat) (p:Nat×FO),Instr.findNow kind k l j=O (O p)->j<=p.1:=by
      intro l
      induction l with
      |nil=>intro j p h;simp[Instr.findNow]at h
      |cons x l o=>
       intro j p h;unfold Instr.findNow at h;split at h
       .cases h;exact B7 _
       .have:=o (j+1) p h;omega
       .cases h
     cases n:Instr.findNow kind k d (i+1)with
     |none=>rfl
     |some r=>
      cases r with
      |none=>rfl
      |some p=>have:=m _ _ _ n;simp only[G9];rw[show p.1-i=(p.1-(i+1))+1 by omega];rfl
def sA{kind:GQ}{k:TV}:∀(b:Tj) (i:Nat) (p:Nat×FO),Instr.findNow kind k b i=O (O p)->i<=p.1/\p.1<i+W b
 | [],i,p,h=>by simp[Instr.findNow]at h
 |e::b,i,p,h=>by
  unfold Instr.findNow at h;split at h
  .cases h;simp
  .have:=sA b (i+1) p h;simp;omega
  .cases h
def pF{kt:TS}{k:TV}{c:Tj}{e:Tj}{r:Ts}(u:c.map (·.key)=e.map (·.key))(h:ur C.P kt k c=O r) :
  (∀w,(Instr.findKey kt k e).run C.P w = .ok (r.map λi=>(i,(e.getD i default).val)) w)/\∀i,r=O i->i<W c:=by
 unfold ur at h;have f:(c.map bF).map (·.key)=e.map (·.key):=by rw[y5,←u];rfl
 cases m:EH C.P (Instr.findKey kt k (c.map bF))with
 |none=>rw[m]at h;cases h
 |some n=>
  rw[m]at h;cases h;unfold Instr.findKey at m;let⟨d,o,g⟩:=pV m;cases l:Instr.findNow d k (c.map bF) 0 with
  |none=>
   rw[l]at g;simp only at g;let⟨s,t⟩:=jl (c.map bF) e 0 n f g;refine⟨λw=>?_,λi j=>?_⟩
   .have b:=jo (kind:=d) (k:=k) (c.map bF) e 0 f;rw[l]at b;simp only[Instr.findKey,Sem.run_bind,iz o w,Result.andThen_ok,b,Option.map_none,s w];cases n<;>simp
   .cases n with
    |none=>cases j
    |some p=>cases j;have:=(t p rfl).2;simpa using this
  |some q=>
   rw[l]at g;simp[EH,Pure.pure]at g;subst g;refine⟨λw=>?_,λi j=>?_⟩
   .have b:=jo (kind:=d) (k:=k) (c.map bF) e 0 f;rw[l]at b;simp only[Instr.findKey,Sem.run_bind,iz o w,Result.andThen_ok,b,G9,Sem.run_pure];cases q<;>simp
   .cases q with
    |none=>cases j
    |some p=>cases j;have:=(sA _ _ _ l).2;simpa using this
def yK(m:WR C base mu g9.heap w){id:Nat}{f:Tj}{c:Nat}(h:Ft g9.heap id=O (f,c)){p:Pl}(k:mu id=O p) :
  ∃d,w.heap[p.b]?=O (.map d c)/\d.size=W f/\∀(i:Nat) e,f[i]?=O e->∃e',d[i]?=O e'/\gr mu e e':=by
 unfold Ft at h;split at h
 next j n j_=>
  cases h;let⟨q,g,l⟩:=m.obj id _ j_ rfl;obtain rfl:p=q:=by rw[k]at g;exact Fm g
  exact l
 .cases h
def Y8{id:Nat}{b:Tj}{c:Nat}(h:Ft g9.heap id=O (b,c)):g9.heap[id]?=O (.map b c):=by
 unfold Ft at h;split at h
 next d e j_=>cases h;exact j_
 .cases h
def Ba{c:Tj}{b:Array GU}(j:b.size=W c)(h:∀(i:Nat) e,c[i]?=O e->∃e',b[i]?=O e'/\gr mu e e'):c.map (·.key)=b.toList.map (·.key):=by
 apply Kj;intro i;rw[GL,GL];cases d:c[i]? with
 |none=>
  have:b.toList[i]?=Q:=by rw[List.getElem?_eq_none_iff]at d ⊢;simp only[Array.length_toList];omega
  rw[this,Option.map_none]
 |some e=>let⟨e',f,g⟩:=h i e d;rw[show b.toList[i]?=O e' by simpa using f];simp[g.1]
def ff{kt:TS}{k:TV}(h:kj C.P kt k=J)(b:Bool)(w:TX):(Instr.checkKey b 10000 kt k).run C.P w = .ok () w:=by
 simp only[kj,y_]at h;cases b with
 |true=>let⟨u,c⟩:=s9.1 h.1.1.2;exact iz c w
 |false=>let⟨u,c⟩:=s9.1 h.1.2;exact iz c w
def oW{kt:TS}{k:TV}(h:kj C.P kt k=J):∃d,C.P.underlying kt=O d:=by
 simp only[kj,y_]at h;let⟨u,i⟩:=s9.1 h.1.2;have b:EH C.P (Instr.checkKey U (9999+1) kt k)=O u:=i;unfold Instr.checkKey at b;let⟨d,c,_⟩:=pV b;cases g:C.P.underlying kt with
 |some d=>exact⟨d,rfl⟩
 |none=>
  unfold underlying at c;let⟨p,e,f⟩:=pV c;have:p=C.P:=by simp[EH,program]at e;exact e.symm
  subst this;rw[g]at f;cases f
def jL{kt:TS}{k:TV}(h:kj C.P kt k=J):gI k=J:=by simp only[kj,y_]at h;exact h.1.1.1
def cC{r:Nat}{b:Array GU}{c:Nat}(h:w.heap[r]?=O (.map b c)):(getObj r).run C.P w = .ok (.map b c) w:=by simp[getObj,Sem.run,h]
def kM{r:Nat}{b:Array GU}{c:Nat}{o:Obj}(h:w.heap[r]?=O (.map b c)):(setObj r o).run C.P w = .ok () { w with heap:=w.heap.setIfInBounds r o }:=by simp[setObj,Sem.run,h]
def VR.KT{id:Nat}{c:TV}(h:VR la mu (.map (O id)) c):∃p,mu id=O p/\c = .map (O p.b):=by
 cases h with
 |scalar h=>simp[Am.scalar]at h
 |map h=>exact⟨_,h,rfl⟩
def Cm{t:TS}{z:TV}(h:fq C.P t=O z)(w:TX):(zeroValue t).run C.P w = .ok z w:=by let⟨i,b,c,_⟩:=lF h;simp[zeroValue,typeInfo,b,c]
def sP(T:WR C base mu g9.heap w){t:TS}{m K k I v:TV}{ok:Bool}{H:Tu}(N:m = .map Q∨H=g9.heap)(F:VR la mu m K)(R:VR la mu k I)(d:dV C t m k ok H=O v) :
  ∃v',(Instr.lookup t K I ok).run C.P w = .ok v' w/\VR la mu v v':=by
 unfold dV at d;split at d
 next Y X j=>
  split at d
  .cases d
  next b=>
   simp only[Ii,qcJ]at b;obtain rfl:=pH (jL b) R;split at d
   .cases d
   next z G=>
    have h:=Cm G w;have g:=(rK G).2.1;let⟨V,o⟩:=oW b;split at d
    .obtain rfl:=cO (a:=.map Q) rfl F;cases d;cases ok with
     |true=>refine⟨.tuple #[z,.bool U],?_,A1.tuple (.cons (.of_flat g) (.cons (.scalar rfl) .nil))⟩;simp[Instr.lookup,run_underlying j,ff b,Instr.findKey,run_underlying o,Instr.findNow,h]
     |false=>refine⟨z,?_,.of_flat g⟩;simp[Instr.lookup,run_underlying j,ff b,Instr.findKey,run_underlying o,Instr.findNow,h]
    next id=>
     have y:H=g9.heap:=N.resolve_left d_;subst y;obtain⟨p,S,rfl⟩:=F.KT;split at d
     .cases d
     next x c Ft=>
      let⟨l,u,L,D⟩:=yK T Ft S;have f:=Ba L D;split at d
      .cases d
      next e=>
       let⟨n,B⟩:=pF (C:=C) f e;cases d;cases ok with
       |true=>refine⟨.tuple #[z,.bool U],?_,A1.tuple (.cons (.of_flat g) (.cons (.scalar rfl) .nil))⟩;simp[Instr.lookup,run_underlying j,cC u,ff b,n w,h]
       |false=>refine⟨z,?_,.of_flat g⟩;simp[Instr.lookup,run_underlying j,cC u,ff b,n w,h]
      next i e=>
       let⟨n,B⟩:=pF (C:=C) f e;have r:=B i rfl;let⟨s,M,E⟩:=D i x[i] (by simp[r]);have q:(l.toList.getD i default).val=s.val:=by rw[List.getD,show l.toList[i]?=O s by simpa using M];rfl
       have A:eQ x i=O x[i].val:=by simp[eQ,r]
       rw[A]at d;cases d;cases ok with
       |true=>refine⟨.tuple #[s.val,.bool J],?_,A1.tuple (.cons E.2.2.2.up (.cons (.scalar rfl) .nil))⟩;simp[Instr.lookup,run_underlying j,cC u,ff b,n w,-List.getD_eq_getElem?_getD,q]
       |false=>refine⟨s.val,?_,E.2.2.2.up⟩;simp[Instr.lookup,run_underlying j,cC u,ff b,n w,-List.getD_eq_getElem?_getD,q]
    .cases d
 .cases d
def WR.setMap(m:WR C base mu g9.heap w){id:Nat}{g f:Tj}{c c1:Nat}{p:Pl}{d:Array GU}(h:Ft g9.heap id=O (g,c))(j:mu id=O p)
  (l:d.size=W f) (k:∀(i:Nat) e,f[i]?=O e->∃e',d[i]?=O e'/\gr mu e e') :
  WR C base mu (g9.heap.set id (.map f c1)) { w with heap:=w.heap.setIfInBounds p.b (.map d c1) }/\Gw g9.heap mu w (g9.heap.set id (.map f c1)) mu { w with heap:=w.heap.setIfInBounds p.b (.map d c1) }:=
 m.set (w':={ w with heap:=w.heap.setIfInBounds p.b (.map d c1) }) (x:=.map d c1) (Y8 h) rfl j rfl rfl rfl rfl (.map f c1) (λ_=>rfl) ⟨d,rfl,l,k⟩
def wq{c:Tj}{b:Array GU}{e e':GU}(f:b.size=W c)(k:∀(i:Nat) e,c[i]?=O e->∃e',b[i]?=O e'/\gr mu e e')(j:gr mu e e') :
  (b.push e').size=W (c++[e])/\∀(i:Nat) x,(c++[e])[i]?=O x->∃x',(b.push e')[i]?=O x'/\gr mu x x':=by
 refine⟨by simp[f],λi x d=>?_⟩;rcases aM d with⟨l,d⟩|⟨rfl,rfl⟩
 .obtain⟨x',g,h⟩:=k i x d;exact⟨x',by rw[qcD,ts a_];exact g,h⟩
 .exact⟨e',by rw[qcD,rv f.symm],j⟩
def rT{c:Tj}{b:Array GU}{j:Nat}{f f':GU->GU}(n:b.size=W c)(m:∀(i:Nat) e,c[i]?=O e->∃e',b[i]?=O e'/\gr mu e e')
  (l:∀e e',c[j]?=O e->gr mu e e'->gr mu (f e) (f' e')) :
  (b.modify j f').size=W (c.modify j f)/\∀(i:Nat) x,(c.modify j f)[i]?=O x->∃x',(b.modify j f')[i]?=O x'/\gr mu x x':=by
 refine⟨by simp[n],λi x d=>?_⟩;rw[List.getElem?_modify]at d;cases g:c[i]? with
 |none=>rw[g]at d;cases d
 |some e=>
  rw[g]at d;let⟨e',o,k⟩:=m i e g;simp only[Option.map_eq_map,G9,Ih]at d;refine⟨if j=i then f' e' else e',by rw[Array.getElem?_modify];split<;>simp_all,?_⟩;subst d;split
  next h=>subst h;exact l e e' g k
  .exact k
end
end
section
variable [El] [Gc]
section
variable {C:p_} {base:Nat} {la:t0} {mu:m_} {g9:St} {a:Act} {w:TX}
def AK{s:Sem Unit}{w':TX}{H':Tu}(h:s.run C.P w = .ok () w')(b:WR C base mu H' w')(c:Gw g9.heap mu w H' mu w'):Lr C base mu g9.heap w (do s;pure .skip) H' undef:=
 ⟨.skip,undef,w',mu,by simp[h],.inr ⟨rfl,rfl⟩,.undef,b,c,b.obj⟩
def mi(h:SR C base la mu g9 a.tmps w){t:TS}{m k x:TM}{H':Tu}{v:TV}(d:cL C t (ka g9.tmps m) (ka g9.tmps k) (ka g9.tmps x) g9.heap=O (H',v)) :
  Lr C base mu g9.heap w (do Instr.mapUpdate t (a.eval m) (a.eval k) (a.eval x);pure .skip) H' v:=by
 have N:=aP h m;have Y:=aP h k;have Z:=aP h x;unfold cL at d;split at d
 next kt et id P B=>
  rw[B]at N;let⟨p,E,q⟩:=N.KT;split at d
  .cases d
  next M=>
   simp only[Ii,qcJ,y_]at M;let⟨⟨l,D⟩,_⟩:=M;have n:=pH (jL l) Y;have s:=fK D Z;split at d
   .cases d
   next R c Ft=>
    let⟨S,u,A,y⟩:=yK h.wr Ft E;have g:=Ba A y;split at d
    .cases d
    next b=>let⟨z,L⟩:=pF (C:=C) g b;cases d;let⟨I,K⟩:=wq (e:={ key:=ka g9.tmps k,val:=ka g9.tmps x,born:=c }) (e':={ key:=ka g9.tmps k,val:=a.eval x,born:=c }) A y ⟨rfl,jL l,rfl,s⟩;let⟨G,H⟩:=h.wr.setMap (c1:=c+1) Ft E I K;refine AK ?_ G H;rw[q,n];simp[Instr.mapUpdate,run_underlying P,cC u,ff l,z w,kM u]
    next i b=>
     let⟨z,L⟩:=pF (C:=C) g b;have o:=L i rfl;split at d
     next F=>
      cases d;let⟨e',T,V⟩:=y i R[i] (by simp[o]);let⟨I,K⟩:=rT (j:=i) (f:=λe=>{ e with key:=ka g9.tmps k,val:=ka g9.tmps x }) (f':=λe=>{ e with key:=ka g9.tmps k,val:=a.eval x }) A y (λe e' _ X=>⟨rfl,jL l,X.2.2.1,s⟩);let⟨G,H⟩:=h.wr.setMap (c1:=c) Ft E I K;refine AK ?_ G H;have r:Instr.sameBits 10000 e'.key (ka g9.tmps k)=J:=by rw[V.1];simpa[o]using F
      rw[q,n];simp[Instr.mapUpdate,run_underlying P,cC u,ff l,z w,T,Instr.keyThatStays,r,kM u]
     .cases d
 .cases d
def xg(h:SR C base la mu g9 a.tmps w){t:TS}{m k:TM}{H':Tu}{v:TV}(b:jt C t (ka g9.tmps m) (ka g9.tmps k) g9.heap=O (H',v)) :
  Lr C base mu g9.heap w (do pure (.value (←Instr.mapEntry t (a.eval m) (a.eval k)))) H' v:=by
 cases b
def rU(h:SR C base la mu g9 a.tmps w){t:TS}{m s x:TM}{H':Tu}{v:TV}(b:fT (ka g9.tmps m) (ka g9.tmps s) (ka g9.tmps x) g9.heap=O (H',v)) :
  Lr C base mu g9.heap w (do Instr.entryStore t (a.eval m) (a.eval s) (a.eval x);pure .skip) H' v:=by
 cases b
def CC(h:SR C base la mu g9 a.tmps w){t ty:TS}{b:Array TypeId}{m k:TM}{H':Tu}{v:TV}(h0:b[0]?=O t)
  (c:qu C t (ka g9.tmps m) (ka g9.tmps k) g9.heap=O (H',v)):Lr C base mu g9.heap w (do pure (.value (←Builtin.delete_ b ty #[a.eval m,a.eval k]))) H' v:=by
 cases c
def nu(h:SR C base la mu g9 a.tmps w)(m:base<=w.heap.size){t:TS}{r:Th}
  (j:qM C t (r.map (ka g9.tmps))=J) :
  Lr C base mu g9.heap w (do pure (.value (←Instr.makeMap t (r.map a.eval)))) (g9.heap++[.map [] 0]) (.map (O (W g9.heap))):=by
 have f:=h.wr.new m (w':=w.alloc (.map #[] 0)) (x:=.map #[] 0) rfl rfl rfl rfl (.map [] 0) ⟨w.heap.size,0,0,0⟩ rfl ⟨#[],rfl,rfl,λi e h=>by simp at h⟩ (λ_=>rfl);refine⟨.value (.map (O w.heap.size)),_,_,_,?_,.inl rfl,.map (bN _ _ _),f.1,f.2.1,f.2.2⟩;cases r with
 |none=>simp[Instr.makeMap]
 |some x=>
  simp only[qM,G9,y_]at j;let⟨n,g⟩:=s9.1 j.1;let⟨k,o⟩:=lZ g (aP h x);have b:∃d c,C.P.underlying t=O (.map d c):=by
   have l:=j.2;split at l
   next d c b=>exact⟨d,c,b⟩
   .cases l
  let⟨d,c,b⟩:=b;simp[Instr.makeMap,run_underlying b,o,asInt,asIntOf]
end
end
section
variable [El] [Gc]
section
variable {C:p_} {base:Nat} {la:t0} {mu:m_} {g9:St} {a:Act} {w:TX}
def sW{v c:TV}{b:Bool}(d:bg v=O b)(h:VR la mu v c):bg c=O b/\dK c=dK v:=by
 cases h with
 |A_ c=>simp[bg]at d
 |V9 _=>simp[bg]at d
 |scalar h=>exact⟨d,rfl⟩
 |agg _ _=>simp[bg]at d
 |tuple _ _=>simp[bg]at d
 |func _ _ _ _ _=>simp[bg]at d ⊢;exact⟨d,rfl⟩
 |yield h=>simp[bg]at d ⊢;exact⟨d,rfl⟩
 |GF h=>simp[bg]at d ⊢;exact⟨d,rfl⟩
 |FT h=>simp[bg]at d ⊢;exact⟨d,rfl⟩
 |F1=>simp[bg]at d ⊢;exact⟨d,rfl⟩
 |DX h g f e=>simp[bg]at d ⊢;exact⟨d,rfl⟩
 |C_ e=>simp[bg]at d ⊢;exact⟨d,rfl⟩
 |EF f e=>simp[bg]at d ⊢;exact⟨d,rfl⟩
 |D5 e=>simp[bg]at d ⊢;exact⟨d,rfl⟩
 |map h=>simp[bg]at d ⊢;exact⟨d,rfl⟩
def fX{x y:TV}{b:Bool}(h:nz x y=O b):∃d c,bg x=O d/\bg y=O c/\((d=J/\b=c)∨(c=J/\b=d)):=by
 unfold nz at h;split at h
 next g e f=>cases h;exact⟨J,b,e,f,.inl ⟨rfl,rfl⟩⟩
 next g _ e f=>cases h;exact⟨b,J,e,f,.inr ⟨rfl,rfl⟩⟩
 .cases h
def mo{v:TV}{b:Bool}(h:bg v=O b)(e:dK v=1):(b=J/\v=DW Q 0 0)∨(b=U/\∃d n c,v=DW (O d) n c):=by unfold bg at h;split at h<;>first|(simp[dK]at e;done)|(cases h;exact .inl ⟨rfl,rfl⟩)|(cases h;exact .inr ⟨rfl,_,_,_,rfl⟩)|cases h
def re{v:TV}{b:Bool}(h:bg v=O b)(c:dK v=2):(b=J/\v = .map Q)∨(b=U/\∃r,v = .map (O r)):=by unfold bg at h;split at h<;>first|(simp[dK]at c;done)|(cases h;exact .inl ⟨rfl,rfl⟩)|(cases h;exact .inr ⟨rfl,_,rfl⟩)|cases h
def oI{v:TV}{b:Bool}(h:bg v=O b)(c:dK v=3):(b=J/\v = .nilFunc)∨(b=U/\∃f x y,v = .func f x y):=by unfold bg at h;split at h<;>first|(simp[dK]at c;done)|(cases h;exact .inl ⟨rfl,rfl⟩)|(cases h;exact .inr ⟨rfl,_,_,_,rfl⟩)|cases h
def rf{v:TV}{b:Bool}(h:bg v=O b)(c:dK v=4):(b=J/\v=EQ Q)∨(b=U/\∃r,v=EQ (O r)):=by unfold bg at h;split at h<;>first|(simp[dK]at c;done)|(cases h;exact .inl ⟨rfl,rfl⟩)|(cases h;exact .inr ⟨rfl,_,rfl⟩)|cases h
def xO{t:TS}{x y:TV}{b:Bool}(s:nz x y=O b)(j:uW C.P t x y=J):(Op.equal t x y).run C.P w = .ok b w:=by
 let⟨z,n,l,m,g⟩:=fX s;unfold uW at j;split at j
 next d q=>
  simp only[y_,beq_iff_eq]at j;let⟨c,f⟩:=j;have u:=run_underlying q w;have o:Op.equal t x y=Op.equalIn (9999+1) t x y:=rfl;rw[o];unfold Op.equalIn;rw[Sem.run_bind,u,Result.andThen_ok];cases d with
  |slice e=>have h:=mo l (by rw[←c];rfl);have i:=mo m (by rw[←f];rfl);rcases h with⟨rfl,rfl⟩|⟨rfl,_,_,_,rfl⟩<;>rcases i with⟨rfl,rfl⟩|⟨rfl,_,_,_,rfl⟩<;>simp at g<;>subst g<;>rfl
  |map k e=>have h:=re l (by rw[←c];rfl);have i:=re m (by rw[←f];rfl);rcases h with⟨rfl,rfl⟩|⟨rfl,_,rfl⟩<;>rcases i with⟨rfl,rfl⟩|⟨rfl,_,rfl⟩<;>simp at g<;>subst g<;>rfl
  |func p r v=>have h:=oI l (by rw[←c];rfl);have i:=oI m (by rw[←f];rfl);rcases h with⟨rfl,rfl⟩|⟨rfl,_,_,_,rfl⟩<;>rcases i with⟨rfl,rfl⟩|⟨rfl,_,_,_,rfl⟩<;>simp at g<;>subst g<;>rfl
  |pointer e=>have h:=rf l (by rw[←c];rfl);have i:=rf m (by rw[←f];rfl);rcases h with⟨rfl,rfl⟩|⟨rfl,_,rfl⟩<;>rcases i with⟨rfl,rfl⟩|⟨rfl,_,rfl⟩<;>simp at g<;>subst g<;>rfl
  |_=>simp only[nB]at c;cases x<;>simp[dK]at c
 .cases j
def Bk{d e c1 c:TV}{b:Bool}{t:TS}(h1:VR la mu d c1)(k:VR la mu e c)(l:nz d e=O b)(f:uW C.P t d e=J):nz c1 c=O b/\uW C.P t c1 c=J:=by
 let⟨q,g,h,i,j⟩:=fX l;let⟨m,n⟩:=sW h h1;let⟨o,p⟩:=sW i k;refine⟨?_,by unfold uW at f ⊢;rw[n,p];exact f⟩;unfold nz;rw[m,o];rcases j with⟨rfl,rfl⟩|⟨rfl,rfl⟩
 .rfl
 .cases b<;>rfl
def qA{d:GO}{t:TS}{x y:TM}{c1 c:TV}{b:Bool}(g:nz c1 c=O b):(eqGuard d t x y c1 c).run C.P w = .ok () w:=by let⟨h,e,f,i,j⟩:=fX g;cases c1<;>(try (simp[bg]at f;done))<;>cases d<;>rfl
def binOp_eql{t:TS}{c1 c:TV}{b:Bool}(g:nz c1 c=O b):binOp .eql t c1 c=(do pure (.bool (←Op.equal t c1 c))):=by let⟨h,d,e,f,i⟩:=fX g;cases c1<;>(try (simp[bg]at e;done))<;>cases c<;>(try (simp[bg]at f;done))<;>rfl
def binOp_neq{t:TS}{c1 c:TV}{b:Bool}(g:nz c1 c=O b):binOp .neq t c1 c=(do pure (.bool (!(←Op.equal t c1 c)))):=by let⟨h,d,e,f,i⟩:=fX g;cases c1<;>(try (simp[bg]at e;done))<;>cases c<;>(try (simp[bg]at f;done))<;>rfl
def VR.Ix{g:TT}{x y:Tl}{c:TV}(h:VR la mu (.func (.func g) x y) c):∃x' y',c = .func (.func g) x' y'/\A1 la mu x.toList x'.toList/\A1 la mu y.toList y'.toList:=by
 cases h with
 |scalar h=>simp[Am.scalar]at h
 |func _ j k e f=>exact⟨_,_,rfl,⟨by simpa using j,λi u v b d=>e i u v (by simpa using b) (by simpa using d)⟩,⟨by simpa using k,λi u v b d=>f i u v (by simpa using b) (by simpa using d)⟩⟩
def VR.KB{l:Nat}{x y:Tl}{c:TV}(h:VR la mu (.func (.yield l) x y) c):∃p,mu l=O p/\c = .func (.yield p.b) #[] #[]:=by
 cases h with
 |scalar h=>simp[Am.scalar]at h
 |func d _ _ _ _=>exact absurd rfl (d l)
 |yield h=>exact⟨_,h,rfl⟩
def VR.Kz{b:Option Addr}{n cx:Nat}{c:TV}(h:VR la mu (.slice b n cx) c):∃a' cap,c = .slice a' n cap/\(∀m,b.isSome->cx=m+1->cap=m):=by
 cases h with
 |scalar h=>exact⟨_,_,rfl,λm g _=>by cases b with|none=>cases g|some a=>simp[Am.scalar]at h⟩
 |DX h i f e=>exact⟨_,_,rfl,λm _ d=>a_⟩
 |C_ e=>exact⟨_,_,rfl,λm _ d=>a_⟩
 |EF f e=>exact⟨_,_,rfl,λm _ d=>a_⟩
 |D5 e=>exact⟨_,_,rfl,λm _ d=>a_⟩
def RD(h:SR C base la mu g9 a.tmps w)(c:Array (Nat×GJ))(f:∀p∈c.toList,aL (ka g9.tmps p.2)=U) :
  PRel la mu (c.toList.map λp=>(p.1,ka g9.tmps p.2)) (c.map λ(i,x)=>(i,a.eval x)).toList:=by
 rw[qdv];refine⟨d_,λi p q b d=>?_⟩;rw[GL]at b d;cases e:c.toList[i]? with
 |none=>rw[e]at b;cases b
 |some x=>rw[e]at b d;cases b;cases d;exact⟨rfl,f x (A9 e),aP h x.2⟩
def cv{c:Call}{o:FQ}{b:Builtin}(e:o.op = .call c)(g:c.callee = .builtin b) :
  execOp a.eval o=builtin b c.argTypes o.type (c.args.map λ| .const _=>J|_=>U) (c.args.map a.eval):=by
 let⟨dst,h,f,pos,d,guard⟩:=o;simp only at e;subst e;simp only[execOp,resolve,g];rfl
def tO{c:Call}{s x:TV}(h:c.args.toList.map (ka g9.tmps)=[s,x]):∃xs xx,c.args = #[xs,xx]/\s=ka g9.tmps xs/\x=ka g9.tmps xx:=by
 obtain⟨l,b⟩ : ∃l,c.args=l.toArray:=⟨c.args.toList,d_⟩;rw[b]at h
 match l,h with
 | [u,v],h=>simp at h;exact⟨u,v,by rw[b],h.1.symm,h.2.symm⟩
def tN{c:Call}{s:TV}(h:c.args.toList.map (ka g9.tmps)=[s]):∃xs,c.args = #[xs]/\s=ka g9.tmps xs:=by
 obtain⟨l,b⟩ : ∃l,c.args=l.toArray:=⟨c.args.toList,d_⟩;rw[b]at h
 match l,h with
 | [u],h=>simp at h;exact⟨u,by rw[b],h.symm⟩
def oQ{s:Sem FO}{v:TV}(h:∃v',s.run C.P w = .ok v' w/\VR la mu v v'):qf C base la mu g9 w (do pure (.value (←s))) (.val v):=by let⟨v',b,c⟩:=h;exact iJ b c
def nQ(h:SR C base la mu g9 a.tmps w){o:FQ}{e:FY}(d:∀cs b,o.op≠.select cs b)(c:cN C (ka g9.tmps) o=O e):qf C base la mu g9 w (execOp a.eval o) e:=by obtain⟨v,rfl,f⟩:=Db h d c;exact f
def tS(h:SR C base la mu g9 a.tmps w)(hb:base<=w.heap.size){c:Call}{o:FQ}{b:Builtin}{e:FY}(z:o.op = .call c)(D:c.callee = .builtin b)
  (j:ba C (ka g9.tmps) b (c.args.toList.map (ka g9.tmps)) c.argTypes o=O e):qf C base la mu g9 w (execOp a.eval o) e:=by
 have F:∀Z b,o.op≠.select Z b:=by rw[z];intro Z b h;cases h
 unfold ba at j;split at j
 next s x t f l=>
  obtain⟨G,xx,g,rfl,rfl⟩:=tO f;split at j
  .cases j
  next i=>
   cases j;simp only[IP,not_or,Ii]at i;obtain⟨H,L⟩ : ∃H,c.argTypes[1]?=O H:=by
    cases B:c.argTypes[1]? with
    |none=>simp[B]at i
    |some H=>exact⟨H,rfl⟩
   rw[L]at i;have hd:∃d,C.P.underlying H=O d/\qQ d=U:=by
    have E:=i.1;simp only[Option.any_some]at E;split at E
    .cases E
    .cases E
    next X Y=>
     cases y:C.P.underlying H with
     |none=>exact absurd y Y
     |some d=>refine⟨d,rfl,?_⟩;cases d<;>first|rfl|exact absurd y (X _)
   let⟨d,S,T⟩:=hd;intro N v A;have:=Cp (ty:=o.type) h hb l L S T A;rw[cv z D,g];simpa[builtin]using this
 next x t f l=>
  obtain⟨G,g,rfl⟩:=tN f;have B:=aP h G;split at j
  next M ad n cx y u=>cases j;rw[u]at B;let⟨a',I,r,_⟩:=B.Kz;rw[cv z D,g];exact⟨EO DQ n,by simp[builtin,Builtin.len_,l,run_underlying y,r,goInt],.scalar rfl⟩
  next kt et id y u=>
   cases j;rw[u]at B;let⟨p,hp,r⟩:=B.KT;intro v A;cases V:Ft g9.heap id with
   |none=>simp[V]at A
   |some q=>let⟨es,cl⟩:=q;simp only[V,G9,Ih]at A;subst A;let⟨R,h1,h2,h3⟩:=yK h.wr V hp;rw[cv z D,g];refine⟨EO DQ R.size,by simp[builtin,Builtin.len_,l,run_underlying y,r,cC h1,goInt],by rw[h2];exact .scalar rfl⟩
  next n M y=>cases j;rw[cv z D,g];exact⟨EO DQ n,by simp[builtin,Builtin.len_,l,run_underlying y,goInt],.scalar rfl⟩
  .exact nQ h F j
 next x t f l=>
  obtain⟨G,g,rfl⟩:=tN f;have B:=aP h G;split at j
  next M ad n cx y u=>cases j;rw[u]at B;let⟨a',I,r,K⟩:=B.Kz;have:=K cx rfl rfl;subst this;rw[cv z D,g];exact⟨EO DQ I,by simp[builtin,Builtin.cap_,l,run_underlying y,r,goInt],.scalar rfl⟩
  next M y u=>cases j;rw[u]at B;have r:=cO (a:=DW Q 0 0) rfl B;rw[cv z D,g];exact⟨EO DQ 0,by simp[builtin,Builtin.cap_,l,run_underlying y,r,goInt],.scalar rfl⟩
  next n M y=>cases j;rw[cv z D,g];exact⟨EO DQ n,by simp[builtin,Builtin.cap_,l,run_underlying y,goInt],.scalar rfl⟩
  .cases j
 next d x t f l=>obtain⟨G,xx,g,rfl,rfl⟩:=tO f;cases j;intro N v A;have:=Yo (ty:=o.type) h l A;rw[cv z D,g];simpa[builtin]using this
 next m k t f l=>obtain⟨G,xx,g,rfl,rfl⟩:=tO f;cases j;intro N v A;have:=CC (ty:=o.type) h l A;rw[cv z D,g];simpa[builtin]using this
 next x t f l=>obtain⟨G,g,rfl⟩:=tN f;cases j;intro N v A;have:=SZ (ty:=o.type) h l A;rw[cv z D,g];simpa[builtin]using this
 .exact nQ h F j
def Cv(h:SR C base la mu g9 a.tmps w)(S:base<=w.heap.size){c:Call}{o:FQ}{e:FY}(F:o.op = .call c)(d:ig C (ka g9.tmps) c o=O e):qf C base la mu g9 w (execOp a.eval o) e:=by
 unfold ig at d;simp only at d;split at d
 next b D=>exact tS h S F D d
 .cases d
 next f D=>
  split at d
  .cases d
  next k=>
   simp only[Ii,qcJ]at k;have j:=(uh h c.args).down k;have z:=aP h f;have q:∀B x y,a.eval f = .func B x y->(execOp a.eval o).run C.P w=(invoke (.fn B y) (x++c.args.map a.eval)).run C.P w:=by intro B x y m;let⟨dst,X,K,pos,A,guard⟩:=o;simp only at F;subst F;simp[execOp,resolve,D,m,Deferred.ofValue]
   split at d
   next g first r s=>
    split at d
    next E=>
     cases d;rw[s]at z;let⟨L,M,m,H,I⟩:=z.Ix;have n:first.toList.all aW=J/\r.toList.all aW=J:=by simpa[q8]using E
     have N:A1 Ev mu first.toList L.toList:=⟨H.1,λi u v t G=>fZ (cR n.1 t) (H.2 i u v t G)⟩
     have R:A1 Ev mu r.toList M.toList:=⟨I.1,λi u v t G=>fZ (cR n.2 t) (I.2 i u v t G)⟩;refine⟨L++c.args.map a.eval++M,?_,?_⟩
     .simp only[qbF];exact(N.append j).append R
     .rw[q _ _ _ m];rfl
    .cases d
   next l first r s=>
    split at d
    next V=>cases d;rw[s]at z;let⟨p,T,m⟩:=z.KB;refine⟨p,#[]++c.args.map a.eval,T,by simpa using j,?_⟩;rw[q _ _ _ m];rfl
    .cases d
   .cases d
def Au(h:SR C base la mu g9 a.tmps w)(M:base<=w.heap.size){b_:TC}{o:FQ}{e:FY}(g:aA C b_ (ka g9.tmps) o=O e):qf C base la mu g9 w (execOp a.eval o) e:=by
 let⟨dst,op,type,pos,after,guard⟩:=o;cases op with
 |move x=>simp only[aA]at g;cases g;exact⟨_,rfl,aP h x⟩
 |assign x=>simp only[aA]at g;cases g;exact⟨_,rfl,aP h x⟩
 |pick c x y=>
  simp only[aA]at g;split at g
  next q hq=>
   cases g;have N:=aP h c;rw[hq]at N;have al:=N.bool;refine⟨if q then a.eval x else a.eval y,by simp[execOp,al,asBool],?_⟩;cases q
   .exact aP h y
   .exact aP h x
  .cases g
 |alloc t=>
  simp only[aA]at g;cases hz:fq C.P t with
  |none=>rw[hz]at g;cases g
  |some z=>
   rw[hz,Fj]at g;have aE:=Cm hz w;have:=oG h M (VR.of_flat (rK hz).2.1) g;have X:(execOp a.eval { dst,op:=.alloc t,type,pos,after,guard }).run C.P w=(do pure (.value (←Instr.box t z)):Sem Next).run C.P w:=by simp[execOp,Instr.alloc,Instr.box,aE]
   revert this;cases e<;>simp only[qf,yd,Lr,X]<;>exact id
 |box t x=>simp only[aA]at g;exact oG h M (aP h x) g
 |build t R=>
  simp only[aA]at g;split at g
  next G=>
   cases E:vV C t (R.toList.map λp=>(p.1,ka g9.tmps p.2))with
   |none=>rw[E]at g;cases g
   |some v=>
    rw[E]at g;cases g;have I:=RD h R λp I=>by have:=D7.1 G p I;simpa using this
    exact oQ (SN E I)
  .cases g
 |buildSlice t n R=>
  simp only[aA]at g;split at g
  next G=>
   have ax:∀p∈R.toList,aL (ka g9.tmps p.2)=U:=λp I=>by
    have:=D7.1 G p I;cases A:ka g9.tmps p.2 with
    |tuple vs=>rw[A]at this;have:=D7.1 this (.tuple vs) (by simp[Value.cells]);simp only[bj,aR,y_]at this;simp[aL,this.2]
    |_=>rfl
   have I:=RD h R ax;cases E:fO C t n (R.toList.map λp=>(p.1,ka g9.tmps p.2))with
   |none=>rw[E]at g;cases g
   |some r=>rw[E]at g;cases g;intro L v A;cases A;exact rP h M I (λp I=>by obtain⟨q,hq,rfl⟩:=Ed.1 I;exact D7.1 G q hq) E
  .cases g
 |load t x=>simp only[aA]at g;exact CO h g
 |store t x y=>simp only[aA]at g;exact zT h g
 |nilCheck x=>
  simp only[aA]at g;have D:=aP h x;split at g
  next ad A=>
   cases g;rw[A]at D;cases N:a.eval x with
   |pointer p=>
    rw[N]at D;cases p with
    |none=>cases D
    |some p=>exact⟨_,by simp[execOp,N],D⟩
   |_=>rw[N]at D;cases D<;>(rename_i j;simp[Am.scalar]at j)
  next f u v A=>cases g;rw[A]at D;let⟨u',Y,F,_,_⟩:=D.Ix;rw[F]at D;exact⟨_,by simp[execOp,F],D⟩
  next f u v A=>cases g;rw[A]at D;let⟨p,_,F⟩:=D.KB;rw[F]at D;exact⟨_,by simp[execOp,F],D⟩
  .cases g
 |binOp op t x y yt=>
  have B:cN C (ka g9.tmps) { dst,op:=.binOp op t x y yt,type,pos,after,guard }=O e->qf C base la mu g9 w (execOp a.eval { dst,op:=.binOp op t x y yt,type,pos,after,guard }) e:=
   λg=>nQ h (by intro cs b h;cases h) g
  simp only[aA]at g;split at g
  .split at g
   next b hn=>
    split at g
    next ho=>cases g;let⟨K,n2⟩:=Bk (aP h x) (aP h y) hn ho;refine⟨.bool b,?_,.scalar rfl⟩;simp only[execOp,Sem.run_bind,qA K,Result.andThen_ok,binOp_eql K,xO K n2,Sem.run_pure]
    .cases g
   .exact B g
  .split at g
   next b hn=>
    split at g
    next ho=>cases g;let⟨K,n2⟩:=Bk (aP h x) (aP h y) hn ho;refine⟨.bool !b,?_,.scalar rfl⟩;simp only[execOp,Sem.run_bind,qA K,Result.andThen_ok,binOp_neq K,xO K n2,Sem.run_pure]
    .cases g
   .exact B g
  .exact B g
 |unOp op t x=>simp only[aA]at g;exact nQ h (by intro cs b h;cases h) g
 |convert s d x=>simp only[aA]at g;exact nQ h (by intro cs b h;cases h) g
 |makeFunc fn first S=>
  simp only[aA]at g;split at g
  .cases g
  next ap=>
   cases g;refine⟨.func fn (first.map a.eval) (S.map a.eval),by simp[execOp,Instr.makeFunc],?_⟩;have r1:=uh h first
   have r2:=uh h S;refine .func (λl hl=>ap l hl) d_ d_ (λi u v H A=>r1.2 i u v (by simpa using H) (by simpa using A)) (λi u v H A=>r2.2 i u v (by simpa using H) (by simpa using A))
 |makeMap t r=>
  simp only[aA]at g;split at g
  next hr=>cases g;intro L v A;cases A;exact nu h M hr
  .cases g
 |makeSlice t l c=>simp only[aA]at g;cases g;intro L v A;exact uS h M A
 |slice t x lo Z mx=>
  have B:cN C (ka g9.tmps) { dst,op:=.slice t x lo Z mx,type,pos,after,guard }=O e->qf C base la mu g9 w (execOp a.eval { dst,op:=.slice t x lo Z mx,type,pos,after,guard }) e:=
   λg=>nQ h (by intro cs b h;cases h) g
  have D:=aP h x;have o1:=HV.map lo λx=>aP h x;have o2:=HV.map Z λx=>aP h x;have o3:=HV.map mx λx=>aP h x;simp only[aA]at g;split at g
  next ad A=>
   rw[A]at D;split at g
   next ay=>
    cases j:mM C t ad (lo.map (ka g9.tmps)) (Z.map (ka g9.tmps)) (mx.map (ka g9.tmps)) []with
    |none=>rw[j]at g;cases g
    |some v=>rw[j]at g;cases g;exact oQ (rD h.wr (.inl ay) j D o1 o2 o3)
   .cases g;intro v A;let⟨Y,T,V⟩:=rD h.wr (.inr rfl) A D o1 o2 o3;exact iJ T V
  .unfold rj at g;split at g
   next v j=>cases g;exact oQ (V2 j D o1 o2 o3)
   .exact B g
 |fieldAddr t x f=>
  simp only[aA]at g;cases j:gN C t (ka g9.tmps x) f with
  |none=>rw[j]at g;cases g
  |some v=>rw[j]at g;cases g;exact oQ (um j (aP h x))
 |field t x f=>
  simp only[aA]at g;cases j:wv C t (ka g9.tmps x) f with
  |none=>rw[j]at g;cases g
  |some v=>rw[j]at g;cases g;exact oQ (T9 j (aP h x))
 |indexAddr t x i=>
  simp only[aA]at g;cases j:fH C t (ka g9.tmps x) (ka g9.tmps i)with
  |none=>rw[j]at g;cases g
  |some v=>rw[j]at g;cases g;exact oQ (uI j (aP h x) (aP h i))
 |index t x i=>
  simp only[aA]at g;cases j:oD C t (ka g9.tmps x) (ka g9.tmps i)with
  |none=>rw[j]at g;cases g
  |some v=>rw[j]at g;cases g;exact oQ (Vh j (aP h x) (aP h i))
 |lookup t m k ok=>
  simp only[aA]at g;have hm:=aP h m;have hk:=aP h k;split at g
  next av=>
   rw[av]at hm;cases j:dV C t (.map Q) (ka g9.tmps k) ok []with
   |none=>rw[j]at g;cases g
   |some v=>rw[j]at g;cases g;exact oQ (sP h.wr (.inl rfl) hm hk j)
  .cases g;intro v A;let⟨Y,T,V⟩:=sP h.wr (.inr rfl) hm hk A;exact iJ T V
 |mapUpdate t m k v=>simp only[aA]at g;cases g;intro L u H;exact mi h H
 |insert t m k v=>simp only[aA]at g;cases g;intro L u H;exact mi h H
 |mapEntry t m k=>simp only[aA]at g;cases g;intro L u H;exact xg h H
 |entryStore t m s v=>simp only[aA]at g;cases g;intro L u H;exact rU h H
 |extract t i=>
  simp only[aA]at g;have ht:=aP h t;split at g
  next vs A=>
   split at g
   .cases g
   next a0=>
    cases j:vs[i]? with
    |none=>rw[j]at g;cases g
    |some v=>
     rw[j]at g;cases g;rw[A]at ht;obtain⟨ds,F,an⟩:=ht.Sv a_;obtain⟨Y,T,V⟩:=an.get (i:=i) (by simpa using j);refine⟨Y,?_,V⟩;have ag:ds[i]?=O Y:=by simpa using T
     simp[execOp,Instr.extract,F,ag]
  .cases g
 |call c=>simp only[aA]at g;exact Cv h M rfl g
 |_=>simp only[aA]at g;cases g
end
end
section
variable [El]
section
variable [Gc]
def Marks(mu:m_)(H:Tu)(b w:TX)(ds:List Deferred):Prop:=
 ∃a:List Nat,ds=a.map (λr=>({ target:=.collected r,args:=#[] }:Deferred))/\a.Nodup/\∀r∈a,b.heap.size<=r/\w.heap[r]?=O (.deferred (O []))/\¬Mo mu H r
structure FI(C:p_)(base:Nat)(o8:Tu)(r9:m_)(n9:TX)(la:t0)(mu:m_)(g9:St)(a:Act)(w:TX):Prop where
 sr:SR C base la mu g9 a.tmps w
 F8:Gw o8 r9 n9 g9.heap mu w
 fresh:∀s b,la s=some b->n9.heap.size<=b
 marks:Marks mu g9.heap n9 w a.defers
 low:base<=n9.heap.size
end
def eR(C:p_)(f:TT)(args:Tn)(H:Tu)(r:FO)(H':Tu):Prop:=
 ∀(_:Gc) (a:Nat) (mu:m_) (w:TX) (args':Tl),a<=w.heap.size->A1 Ev mu args args'.toList->WR C a mu H w->∀cs,
  ∃v b w',VR Ev b r v/\WR C a b H' w'/\Gw H mu w H' b w'/\(callFunc f args').run C.P w = .ok (.enter f args') w/\
   ∃fr,Steps C.P (lone (Frame.enter C.P f args' .normal) cs w) (lone fr cs w')/\fr.fn=f/\fr.leaving C.P w' (.returned v)
def NX(C:p_)(l:Nat)(args:Tn)(H:Tu)(r:FO)(H':Tu):Prop:=
 ∀(_:Gc) (a:Nat) (mu:m_) (w:TX) (args':Tl) (p:Pl),a<=w.heap.size->mu l=O p->A1 Ev mu args args'.toList->WR C a mu H w->∀c cs,
  ∃v f w' g e assign d,VR Ev f r v/\WR C a f H' w'/\Gw H mu w H' f w'/\(Instr.yield p.b args').run C.P w = .ok (.round p.b g e assign d) w/\
   Steps C.P (lone (Frame.round p.b g e assign d .normal) (c::cs) w) (lone (c.finish v) cs w')
structure BOk(C:p_)(B:Below):Prop where
 call:∀f args H r H',B.call f args H r H'->eR C f args H r H'
 yield:∀l args H r H',B.yield l args H r H'->NX C l args H r H'
section
variable [Gc]
section machine
abbrev _root_.TB:=List Item
variable {P:TI} {b:HJ} {a:Act} {k:TB} {cs:List HJ} {w w':TX} {ops:To} {i:Nat} {rest:TC} {o:FQ}
def dM{v:TV}(f:ops[i]?=O o)(j:Region.wanted o (yielded ops a.tmps)=J)(g:∀c,o.op≠.defer c)(h:(execOp a.eval o).run P w = .ok (.value v) w') :
  step P (lone (b.atR a (.inRegion ops (i::rest)::k)) cs w) = .next (lone (b.atR (a.put o.dst v) (.inRegion ops rest::k)) cs w'):=by
 have e:=stepGR_op (P:=P) (b:=b) (k:=k) (cs:=cs) (w:=w) (rest:=rest) f j;rw[Oper.semAt_eq _ _ _ g]at e;have d:(b.atR a (.inRegion ops (i::rest)::k)).finish v=b.atR (a.put o.dst v) (.inRegion ops rest::k):=by rw[Frame.finish_atR,f];rfl
 apply step_lone_go;rw[e,←d];simp[stepG.apply,Sem.runT_eq,h]
def tD(f:ops[i]?=O o)(j:Region.wanted o (yielded ops a.tmps)=J)(g:∀c,o.op≠.defer c)(h:(execOp a.eval o).run P w = .ok .skip w') :
  step P (lone (b.atR a (.inRegion ops (i::rest)::k)) cs w) = .next (lone (b.atR (a.put o.dst undef) (.inRegion ops rest::k)) cs w'):=by
 have e:=stepGR_op (P:=P) (b:=b) (k:=k) (cs:=cs) (w:=w) (rest:=rest) f j;rw[Oper.semAt_eq _ _ _ g]at e;have d:(b.atR a (.inRegion ops (i::rest)::k)).finish undef=b.atR (a.put o.dst undef) (.inRegion ops rest::k):=by rw[Frame.finish_atR,f];rfl
 apply step_lone_go;rw[e,←d];simp[stepG.apply,Sem.runT_eq,h]
def Dq{f:TT}{args:Tl}(g:ops[i]?=O o)(j:Region.wanted o (yielded ops a.tmps)=J)(e:∀c,o.op≠.defer c)(h:(execOp a.eval o).run P w = .ok (.enter f args) w') :
  step P (lone (b.atR a (.inRegion ops (i::rest)::k)) cs w) = .next (lone (Frame.enter P f args .normal) (b.atR a (.inRegion ops (i::rest)::k)::cs) w'):=by
 have d:=stepGR_op (P:=P) (b:=b) (k:=k) (cs:=cs) (w:=w) (rest:=rest) g j;rw[Oper.semAt_eq _ _ _ e]at d;exact step_lone_go (by rw[d];simp[stepG.apply,Sem.runT_eq,h,Frame.atR])
def V8{l:Nat}{f:TT}{e:Tl}{assign d:Code}(j:ops[i]?=O o)(n:Region.wanted o (yielded ops a.tmps)=J)(h:∀c,o.op≠.defer c)
  (m:(execOp a.eval o).run P w = .ok (.round l f e assign d) w') :
  step P (lone (b.atR a (.inRegion ops (i::rest)::k)) cs w) = .next (lone (Frame.round l f e assign d .normal) (b.atR a (.inRegion ops (i::rest)::k)::cs) w'):=by
 have g:=stepGR_op (P:=P) (b:=b) (k:=k) (cs:=cs) (w:=w) (rest:=rest) j n;rw[Oper.semAt_eq _ _ _ h]at g;exact step_lone_go (by rw[g];simp[stepG.apply,Sem.runT_eq,m,Frame.atR])
def wz(c:ops[i]?=O o)(v:TV):(b.atR a (.inRegion ops (i::rest)::k)).finish v=b.atR (a.put o.dst v) (.inRegion ops rest::k):=by rw[Frame.finish_atR,c];rfl
end machine
section
variable {C:p_} {base:Nat} {o8:Tu} {r9:m_} {n9:TX} {la:t0} {mu:m_} {g9:St} {a:Act} {w:TX}
def FI.big(h:FI C base o8 r9 n9 la mu g9 a w):base<=w.heap.size:=VP h.low h.F8.size
def vR(a:Act)(dst:Tq)(v:TV):(a.put dst v).tmps=(match dst with|some d=>a.tmps.setIfInBounds d v|none=>a.tmps):=by cases dst<;>rfl
def rM(a:Act)(dst:Tq)(v:TV):(a.put dst v).defers=a.defers:=by cases dst<;>rfl
def FI.put(h:FI C base o8 r9 n9 la mu g9 a w)(dst:Tq){v v':TV}(c:VR la mu v v'):FI C base o8 r9 n9 la mu (g9.put dst v) (a.put dst v') w:=by
 have b:(g9.put dst v).heap=g9.heap:=by cases dst<;>rfl
 refine⟨?_,by rw[b];exact h.F8,h.fresh,by rw[rM,b];exact h.marks,h.low⟩;rw[vR];exact h.sr.put dst c
def Marks.F8{H H':Tu}{mu b:m_}{w w':TX}{ds:List Deferred}(h:Marks mu H n9 w ds)(d:Gw H mu w H' b w'):Marks b H' n9 w' ds:=by
 let⟨n,f,g,i⟩:=h;refine⟨n,f,g,λr k=>?_⟩;let⟨l,m,e⟩:=i r k;have c:r<w.heap.size:=by grind
 exact⟨l,by rw[d.ke r c e];exact m,λj=>(d.Gg r j).elim (λo=>a_) e⟩
def FI.heap(h:FI C base o8 r9 n9 la mu g9 a w){H':Tu}{b:m_}{w':TX}(d:WR C base b H' w')(c:Gw g9.heap mu w H' b w'):FI C base o8 r9 n9 la b { g9 with heap:=H' } a w':=
 ⟨h.sr.F8 d c,h.F8.trans c,h.fresh,h.marks.F8 c,h.low⟩
def Mo.lt{mu:m_}{H:Tu}{w:TX}(f:WR C base mu H w){b:Nat}(h:Mo mu H b):b<w.heap.size/\base<=b:=by obtain⟨id,o,p,c,d,e,rfl⟩:=h;exact⟨f.lt c (bQ d) e,f.own id o p c d e⟩
def FI.H6(h:FI C base o8 r9 n9 la mu g9 a w){s:Nat}{vs:Tn}{d:Tl}{e:TS}(L:g9.loc[s]?=O Q)(N:A1 Ev mu vs d.toList)(v:vs.all bj=J) :
  FI C base o8 r9 n9 (λk=>if k=s then O w.heap.size else la k) mu { g9 with loc:=g9.loc.set s (O vs) } a (w.alloc (.cells d e)):=by
 have l:∀b,b<w.heap.size->(w.alloc (.cells d e)).heap[b]?=w.heap[b]?:=λb r=>by
  show(w.heap.push _)[b]?=_
  grind
 have u:la s=Q:=by
  cases H:la s with
  |none=>rfl
  |some b=>let⟨i,j⟩:=h.sr.IB s b H;rw[L]at j;cases j
 have m:∀t b,la t=O b->(if t=s then O w.heap.size else la t)=O b:=λt b f=>by grind
 have D:∀t b,la t=O b->b<w.heap.size:=λt b f=>by
  let⟨i,j⟩:=h.sr.IB t b f;let⟨R,c,y,n,_,z,_⟩:=h.sr.loc t i j
  grind
 have E:s<W g9.loc:=by grind
 have A:Gw g9.heap mu w g9.heap mu (w.alloc (.cells d e)):=⟨B7 _,λ_ _=>rfl,d_,λb r _=>l b r,λb r=>.inr r,rfl,rfl,rfl,B7 _⟩;refine⟨⟨h.sr.F7.mono m λ_ _ h=>h,?_,?_,?_,?_⟩,h.F8.trans A,?_,h.marks.F8 A,h.low⟩
 .intro t b f;split at f
  .simp_all
  next M=>
   let⟨i,j⟩:=h.sr.IB t b f
   grind
 .intro t i f;rcases Ep f with⟨I,f⟩|⟨rfl,_,x⟩
  .obtain⟨b,c,y,j,n,z,F,T,V⟩:=h.sr.loc t i f
   grind
  .cases x;exact⟨w.heap.size,d,e,d_,h.big,by show(w.heap.push _)[_]?=_;simp,v,N,λK=>by have:=(Mo.lt h.sr.wr K).1;omega⟩
 .intro t P b f q;split at f<;>split at q
  .omega
  .grind
  .grind
  .exact h.sr.Kc t P b f q
 .refine⟨?_,h.sr.wr.inj,h.sr.wr.own,h.sr.wr.ro,h.sr.wr.Mw,?_⟩
  .intro id o j_ B;let⟨p,j,n⟩:=h.sr.wr.obj id o j_ B;exact⟨p,j,by rw[l _ (lh B n)];exact n⟩
  .intro g vs G;let⟨j,n,c,y,S,z,F⟩:=h.sr.wr.Gd g vs G
   grind
 .intro t b f;split at f
  .cases f;exact h.F8.size
  .exact h.fresh t b f
def FI.H7(h:FI C base o8 r9 n9 la mu g9 a w){s b:Nat}{vs j:Tn}{c cs:Tl}{e:TS}(V:g9.loc[s]?=O (O vs))(G:la s=O b)(I:w.heap[b]?=O (.cells c e (0,0)))
  (hv:A1 Ev mu j cs.toList) (T:j.all bj=J):FI C base o8 r9 n9 la mu { g9 with loc:=g9.loc.set s (O j) } a (w.setRow b cs):=by
 have H:b<w.heap.size:=(MD.1 I).1;have A:¬Mo mu g9.heap b/\base<=b:=by
  let⟨l,u,v,d,m,_,_,_,E⟩:=h.sr.loc s vs V
  simp_all
 have f:∀k,k≠b->(w.setRow b cs).heap[k]?=w.heap[k]?:=λk y=>setRow_other w b k cs y;have K:(w.setRow b cs).heap[b]?=O (.cells cs e (0,0)):=setRow_heap w b c cs e (0,0) I;have L:s<W g9.loc:=by grind
 have P:=h.fresh s b G;refine⟨⟨h.sr.F7,?_,?_,h.sr.Kc,?_⟩,?_,h.fresh,?_,h.low⟩
 .intro t l n;let⟨q,d⟩:=h.sr.IB t l n
  grind
 .intro t q n;rcases Ep n with⟨z,n⟩|⟨rfl,_,X⟩
  .obtain⟨l,u,v,d,m,x,D,N,E⟩:=h.sr.loc t q n;exact⟨l,u,v,d,m,by rw[f l λM=>z (h.sr.Kc t s l d (M▸G))];exact x,D,N,E⟩
  simp_all
 .refine⟨?_,h.sr.wr.inj,h.sr.wr.own,h.sr.wr.ro,h.sr.wr.Mw,?_⟩
  .intro id o j_ F;let⟨p,d,m⟩:=h.sr.wr.obj id o j_ F;refine⟨p,d,?_⟩;by_cases B:p.b=b
   · -- an object that is only read may lie below
    exfalso;by_cases i:o.owned=J
    .exact A.1 ⟨id,o,p,j_,i,d,B⟩
    .have:=h.sr.wr.ro id o p j_ F (by simpa using i) d;omega
   simp_all
  .intro g vs R;let⟨d,m,u,v,Z,x,D⟩:=h.sr.wr.Gd g vs R
   grind
 .refine⟨h.F8.len,h.F8.same,jw,λk y S=>?_,h.F8.Gg,h.F8.os,h.F8.tape,h.F8.output,h.F8.dr⟩;rw[f k a_];exact h.F8.ke k y S
 .obtain⟨Y,d,m,x⟩:=h.marks;refine⟨Y,d,m,λr hr=>?_⟩
  grind
end
end
end
section
variable [El] [Gc]
section
variable {C:p_} {base:Nat} {o8:Tu} {r9:m_} {n9:TX} {la:t0} {mu:m_} {g9:St} {a:Act} {w:TX}
def od{ops:To}{o:FQ}{t:Bool}(h:A1 la mu g9.tmps a.tmps.toList)(c:cE ops g9.tmps o=O t):Region.wanted o (yielded ops a.tmps)=t:=by
 unfold cE at c;unfold Region.wanted;cases n:o.guard with
 |none=>simp_all
 |some q=>
  let⟨j,k⟩:=q;rw[n]at c;simp only at c ⊢;unfold yielded;cases m:(ops[j]?).bind (·.dst)with
  |none=>simp_all
  |some d=>
   rw[m]at c;simp only[Fj]at c ⊢;cases i:g9.tmps[d]? with
   |none=>
    rw[i]at c;cases c;have:a.tmps[d]?=Q:=by
     have x:=h.1
     simp_all
    rw[this];simp
   |some v=>
    rw[i]at c;let⟨r,l,f⟩:=h.get i;rw[show a.tmps[d]?=O r by simpa using l];cases v with
    |bool b=>
     have:=f.bool
     simp_all
    |tuple y=>
     split at c
     next b e=>cases e
     next s e=>
      cases e;split at c
      .cases c
      next g=>cases c;obtain⟨u,rfl,_⟩:=f.Sv g;rfl
     simp_all
    |_=>cases c;cases f<;>first|rfl|(rename_i p;simp[Am.scalar]at p)
def je{b_:TC}{d:Tg}{o:FQ}{e:FY}(h:aA C b_ d o=O e):∀c,o.op≠.defer c:=by intro c b;unfold aA at h;rw[b]at h;cases h
structure Kept(g9:St)(mu:m_)(j6:St)(mu':m_):Prop where
 len:g9.heap.length<=j6.heap.length
 same:∀k,k<g9.heap.length->mu' k=mu k
def St.put_hp(g9:St)(d:Tq)(v:TV):(g9.put d v).heap=g9.heap:=by cases d<;>rfl
theorem Kept.refl{g9:St}{mu:m_}:Kept g9 mu g9 mu:=⟨B7 _,λ_ _=>rfl⟩
def Kept.put{g9:St}{mu:m_}{l:List (Option (Tn))}{d:Tq}{v:TV}:Kept g9 mu (({ g9 with loc:=l }:St).put d v) mu:=⟨by rw[St.put_hp];exact B7 _,λ_ _=>rfl⟩
def Kept.heap{g9:St}{mu b:m_}{w w':TX}{H:Tu}{d:Tq}{v:TV}(h:Gw g9.heap mu w H b w'):Kept g9 mu (({ g9 with heap:=H }:St).put d v) b:=⟨by rw[St.put_hp];exact h.len,h.same⟩
def xS{B:Below}(hB:BOk C B){b_:TC}{ops:To}{i:Nat}{X:St}(h:FI C base o8 r9 n9 la mu g9 a w)(G:ar C B b_ ops i g9 X)(b:HJ)(rest:TC)(k:TB)(cs:List HJ) :
  ∃a' w' Y u,FI C base o8 r9 n9 Y u X a' w'/\Kept g9 mu X u/\
   Steps C.P (lone (b.atR a (.inRegion ops (i::rest)::k)) cs w) (lone (b.atR a' (.inRegion ops rest::k)) cs w'):=by
 unfold ar at G;split at G
 next y=>subst G;refine⟨a,w,la,mu,h,.refl,.one ?_⟩;have:=stepR_op_skip (P:=C.P) (b:=b) (a:=a) (k:=k) (cs:=cs) (w:=w) (ops:=ops) (i:=i) (rest:=rest) (by simp[y]);simpa[y,Act.put]using this
 next o y=>
  split at G
  .exact G.elim
  next V=>subst G;have g:=od (a:=a) h.sr.F7 V;refine⟨a.put o.dst undef,w,la,mu,h.put o.dst .undef,.put,.one ?_⟩;have:=stepR_op_skip (P:=C.P) (b:=b) (a:=a) (k:=k) (cs:=cs) (w:=w) (ops:=ops) (i:=i) (rest:=rest) (by simp[y,g]);simpa[y]using this
  next V=>
   have g:=od (a:=a) h.sr.F7 V;rcases G with G|⟨v,hv,rfl⟩
   case inr=>let⟨v',x,n⟩:=V_ h.sr hv;refine⟨_,w,la,mu,h.put o.dst n,.put,.one (dM y g (λc N=>?_) x)⟩;have E:=hv.1;rw[N]at E;cases E
   let⟨e,he,I⟩:=G;have t:=je he;have z:=Au h.sr h.big he;cases e with
   |val v=>obtain⟨p,d,rfl⟩:=I;cases d;let⟨v',x,n⟩:=z;exact⟨_,w,la,mu,h.put o.dst n,.put,.one (dM y g t x)⟩
   |H6 s L=>
    obtain⟨p,d,rfl⟩:=I;simp only[aZ]at d;split at d
    next m=>cases d;let⟨R,e',x,n,F⟩:=z;have K:=(h.H6 (e:=e') m n F).put o.dst (v:=EQ (O ⟨s,0,O 0⟩)) (v':=EQ (O ⟨w.heap.size,0,Q⟩)) (.GF d_);exact⟨_,_,_,_,K,.put,.one (dM y g t x)⟩
    .cases d
   |KR s f=>
    obtain⟨p,d,rfl⟩:=I;simp only[aZ]at d;split at d
    next L m=>
     cases j:f L with
     |none=>simp_all
     |some v=>rw[j]at d;cases d;let⟨v',x,n⟩:=z L v m j;exact⟨_,w,la,mu,h.put o.dst n,.put,.one (dM y g t x)⟩
    .cases d
   |H7 s f=>
    obtain⟨p,d,rfl⟩:=I;simp only[aZ]at d;split at d
    next L m=>
     cases j:f L with
     |none=>simp_all
     |some Z=>rw[j]at d;cases d;let⟨bl,c,al,e',x,n,F,E,D⟩:=z L Z m j;have K:=(h.H7 m x n E D).put o.dst (v:=undef) (v':=undef) .undef;exact⟨_,_,_,_,K,.put,.one (tD y g t F)⟩
    .cases d
   |Hj f=>
    obtain⟨p,d,rfl⟩:=I;simp only[aZ]at d;cases j:f g9.heap with
    |none=>simp_all
    |some v=>rw[j]at d;cases d;let⟨v',x,n⟩:=z v j;exact⟨_,w,la,mu,h.put o.dst n,.put,.one (dM y g t x)⟩
   |Iy f=>
    obtain⟨p,d,rfl⟩:=I;simp only[aZ]at d;cases j:f g9.heap with
    |none=>simp_all
    |some q=>
     rw[j]at d;cases d;let⟨nx,v',w',u,x,n,F,E,D,_⟩:=z q.1 q.2 j;have K:=(h.heap E D).put o.dst F.up;rcases n with rfl|⟨rfl,rfl⟩
     .exact⟨_,w',la,u,K,.heap D,.one (dM y g t x)⟩
     .exact⟨_,w',la,u,K,.heap D,.one (tD y g t x)⟩
   |call f M=>obtain⟨r,H,N,rfl⟩:=I;let⟨A,x,n⟩:=z;let⟨v,u,w',F,E,D,S,T⟩:=hB.call _ _ _ _ _ N _ base mu w A h.big x h.sr.wr (b.atR a (.inRegion ops (i::rest)::k)::cs);rw[S]at n;refine⟨_,w',la,u,(h.heap E D).put o.dst F.up,.heap D,?_⟩;let⟨fr,s1,s2,s3⟩:=T;refine .head (Dq y g t n) (s1.trans (.one ?_));rw[←wz y v];exact step_leave_returned s3
   |yield l M=>obtain⟨r,H,N,rfl⟩:=I;obtain⟨p,A,d,x,n⟩:=z;obtain⟨v,u,w',fn,ag,assign,ad,F,E,D,S,T⟩:=hB.yield _ _ _ _ _ N _ base mu w A p h.big d x h.sr.wr (b.atR a (.inRegion ops (i::rest)::k)) cs;rw[S]at n;refine⟨_,w',la,u,(h.heap E D).put o.dst F.up,.heap D,?_⟩;refine .head (V8 y g t n) ?_;rw[←wz y v];exact T
def BV{B:Below}(f:BOk C B){b_:TC}{ops:To}{i:Nat}{e:St}(h:FI C base o8 r9 n9 la mu g9 a w)(g:ar C B b_ ops i g9 e)(b:HJ)(rest:TC)(k:TB)(cs:List HJ) :
  ∃a' w' c d,FI C base o8 r9 n9 c d e a' w'/\
   Steps C.P (lone (b.atR a (.inRegion ops (i::rest)::k)) cs w) (lone (b.atR a' (.inRegion ops rest::k)) cs w'):=
 let ⟨a',w',c,d,h1,_,h2⟩:=xS f h g b rest k cs
 ⟨a',w',c,d,h1,h2⟩
def FI.RR{b:St}(h:FI C base o8 r9 n9 la mu g9 a w)(n:gG g9 b):FI C base o8 r9 n9 la mu b a w:=by
 let⟨d,e,f,g⟩:=n;let⟨l,s,heap⟩:=b;simp only at d e f g;subst d e;refine⟨⟨⟨by rw[f];exact h.sr.F7.1,λi y c o m=>?_⟩,h.sr.IB,h.sr.loc,h.sr.Kc,h.sr.wr⟩,h.F8,h.fresh,h.marks,h.low⟩;have j:i<W g9.tmps:=by grind
 have k:=h.sr.F7.2 i g9.tmps[i] c (by simp[j]) m;rcases g i g9.tmps[i] y (by simp[j]) o with rfl|⟨p,q,r⟩
 .exact k
 .rw[BI p k,r];exact xG q
def BU{B:Below}(g:BOk C B){b_:TC}{ops:To}(b:HJ)(k:TB)(cs:List HJ):∀(l:TC) (g9 c:St) (a:Act) (w:TX) (la:t0) (mu:m_),FI C base o8 r9 n9 la mu g9 a w->gc C B b_ ops l g9 c->
  ∃a' w' e f,FI C base o8 r9 n9 e f c a' w'/\
   Steps C.P (lone (b.atR a (.inRegion ops l::k)) cs w) (lone (b.atR a' k) cs w')
 | [],g9,c,a,w,la,mu,h,d=>by cases d;exact⟨a,w,la,mu,h,.one stepR_region_end⟩
 |i::l,g9,c,a,w,la,mu,h,d=>by let⟨z,j9,h0,h1,p⟩:=d;let⟨q,r,u,t,j,m⟩:=BV g (h.RR h0) h1 b l k cs;let⟨x,s,y,v,n,o⟩:=BU g b k cs l j9 c q r u t j p;exact⟨x,s,y,v,n,m.trans o⟩
def R5{B:Below}(g:BOk C B){b_:TC}{ops:To}(b:HJ)(k:TB)(cs:List HJ):∀(l:TC) (g9 c:St) (a:Act) (w:TX) (la:t0) (mu:m_),FI C base o8 r9 n9 la mu g9 a w->bw C B b_ ops l g9 c->
  ∃a' w' e f,FI C base o8 r9 n9 e f c a' w'/\
   Steps C.P (lone (b.atR a (.inRegion ops l::k)) cs w) (lone (b.atR a' k) cs w')
 | [],g9,c,a,w,la,mu,h,d=>by cases d;exact⟨a,w,la,mu,h,.one stepR_region_end⟩
 |i::l,g9,c,a,w,la,mu,h,d=>by let⟨j9,h1,p⟩:=d;let⟨q,r,u,t,j,m⟩:=BV g h h1 b l k cs;let⟨x,s,y,v,n,o⟩:=R5 g b k cs l j9 c q r u t j p;exact⟨x,s,y,v,n,m.trans o⟩
def Fp.at_{mk:Nat->TV}(h:Fp mk){la:t0}{mu d:m_}{L k:Nat}{v:TV}(f:VR la mu (mk L) v)(g:∀p,mu L=O p->d k=O p):VR la d (mk k) v:=by
 cases h with
 |ptr=>
  cases f with
  |scalar h=>simp[Am.scalar]at h
  |FT h=>exact .FT (g _ h)
 |slice e l c=>
  generalize j:le e=s at f ⊢;cases f with
  |scalar h=>simp[Am.scalar]at h
  |DX h m i b=>exact .DX (g _ h) m i b
  |C_ b=>exact .C_ b
  |EF i b=>simp[le]at j
  |D5 b=>simp[le]at j
 |map=>
  cases f with
  |scalar h=>simp[Am.scalar]at h
  |map h=>exact .map (g _ h)
def dH(mu:m_)(L k:Nat):m_:=λj=>if j=k then mu L else if j=L then Q else mu j
def jQ{b:Tu}{o x:wa}{j k:Nat}(mu:m_)(h:(b.set k o)[j]?=O x):j<W b/\(b++[o])[if j=k then W b else j]?=O x/\dH mu (W b) k j=mu (if j=k then W b else j):=by
 have c:j<W b:=by grind
 refine⟨c,?_,?_⟩
 .grind
 .unfold dH
  grind
def WR.pad(h:WR C base mu g9.heap w)(n:Nat):WR C base mu (g9.pad n).heap w/\Gw g9.heap mu w (g9.pad n).heap mu w:=by
 have e:∀ {j:Nat} {x:wa},(g9.pad n).heap[j]?=O x->x.alive=J->g9.heap[j]?=O x:=by
  intro j x c d;simp only[St.pad,qbX]at c;split at c
  .exact c
  .rw[ay]at c;split at c
   .cases c;cases d
   .cases c
 refine⟨⟨λid o l d=>h.obj id o (e l d) d,λi j t u v y f c g k=>h.inj i j t u v y (e f (bQ g)) (e c k) g k,λi o p f l=>h.own i o p (e f (bQ l)) l,
  λi o p f d=>h.ro i o p (e f d) d,λid j_=>h.Mw id (by simp[St.pad]at j_;omega),h.Gd⟩,⟨by simp[St.pad],λ_ _=>rfl,B7 _,λ_ _ _=>rfl,?_,rfl,rfl,rfl,B7 _⟩⟩
 rintro b ⟨id,o,p,q,m,r,s⟩;exact .inr ⟨id,o,p,e q (bQ m),m,r,s⟩
def FI.pad(h:FI C base o8 r9 n9 la mu g9 a w)(n:Nat):FI C base o8 r9 n9 la mu (g9.pad n) a w:=h.heap (h.sr.wr.pad n).1 (h.sr.wr.pad n).2
def FI.slot(h:FI C base o8 r9 n9 la mu g9 a w){f:Tu}{o:wa}{d:m_}{w':TX}{k:Nat}(G:WR C base d (f++[o]) w')(z:Gw g9.heap mu w (f++[o]) d w')(v:Old mu d (f++[o]) w')
  (hl:W f=W g9.heap) (hk:f[k]?=O .dead) (hn:mu k=Q) (ag:W o8<=k):FI C base o8 r9 n9 la (dH d (W f) k) { g9 with heap:=f.set k o } a w':=by
 have al:k<W f:=(qbS.1 hk).1;have q:=h.F8.trans z;have F:∀i p,mu i=O p->dH d (W f) k i=O p:=by
  intro i p y;have u:i<W g9.heap:=by
   rcases I3 i (W g9.heap) with l|l
   .exact l
   .rw[h.sr.wr.Mw i l]at y;cases y
  unfold dH;rw[ts (λe=>k_),ts a_,z.same i u];exact y
 have n:∀b,Mo (dH d (W f) k) (f.set k o) b->Mo d (f++[o]) b:=by rintro b ⟨id,x,p,l,t,m,A⟩;let⟨_,S,T⟩:=jQ d l;exact⟨_,x,p,S,t,by rw[←T];exact m,A⟩
 have hW:WR C base (dH d (W f) k) (f.set k o) w':=by
  refine⟨?_,?_,?_,?_,?_,?_⟩
  .intro id x j_ H;let⟨_,S,T⟩:=jQ d j_;let⟨p,p1,p2⟩:=v _ x S H;exact⟨p,by rw[T];exact p1,p2.mono F⟩
  .intro i j oi oj pi pj u hj M N ad B D;let⟨i1,E,i3⟩:=jQ d u;let⟨j1,j2,j3⟩:=jQ d hj;rw[i3]at B;rw[j3]at D;refine G.inj _ _ oi oj pi pj E j2 M N ?_ B D
   grind
  .intro i x p u R y;let⟨_,E,i3⟩:=jQ d u;exact G.own _ x p E R (by rw[←i3];exact y)
  .intro i x p u H R y;let⟨_,E,i3⟩:=jQ d u;exact G.ro _ x p E H R (by rw[←i3];exact y)
  .intro id j_;simp at j_;unfold dH;rw[ts a_];split
   .rfl
   .exact G.Mw id z_
  .intro g V hg;let⟨l,t,c,e,Y,m,A⟩:=h.sr.wr.Gd g V hg;have L:GA g<w.heap.size:=(MD.1 m).1;exact⟨l,t,c,e,Y,by rw[z.ke _ L (λv=>by have:=(Mo.lt h.sr.wr v).2;omega)];exact m,A.mono F⟩
 have K:=h.F8.len;refine⟨⟨h.sr.F7.mono (λ_ _ h=>h) F,h.sr.IB,?_,h.sr.Kc,hW⟩,⟨z_,?_,q.size,q.ke,λb I=>q.Gg b (n b I),q.os,q.tape,q.output,q.dr⟩,h.fresh,?_,h.low⟩
 .intro s V hs;let⟨b,c,e,l,t,m,A,Z,X⟩:=h.sr.loc s V hs;have I:b<w.heap.size:=(MD.1 m).1;exact⟨b,c,e,l,t,by rw[z.ke b I X];exact m,A,Z.mono (λ_ _ h=>h) F,λv=>(z.Gg b (n b v)).elim (λhh=>a_) X⟩
 .intro id j_;unfold dH;rw[ts a_,ts a_];exact q.same id j_
 .obtain⟨rs,l,t,m⟩:=h.marks.F8 z;exact⟨rs,l,t,λr P=>⟨(m r P).1,(m r P).2.1,λv=>(m r P).2.2 (n r v)⟩⟩
def rB{B:Below}(D:BOk C B){b_:TC}{ops:To}{t:Nat->Ts}(d:∀i j k,t i=O k->t j=O k->i=j)(h0:∀i k,t i=O k->W o8<=k)(b:HJ)(k:TB)(cs:List HJ) :
  ∀(l:TC) (g9 n:St) (a:Act) (w:TX) (la:t0) (mu:m_),FI C base o8 r9 n9 la mu g9 a w->(∀i∈l,∀k,t i=O k->k<W g9.heap/\mu k=Q)->jS C B b_ ops t l g9 n->
  ∃a' w' V m,FI C base o8 r9 n9 V m n a' w'/\
   Steps C.P (lone (b.atR a (.inRegion ops l::k)) cs w) (lone (b.atR a' k) cs w')
 | [],g9,n,a,w,la,mu,h,_,M=>by cases M;exact⟨a,w,la,mu,h,.one stepR_region_end⟩
 |i::l,g9,n,a,w,la,mu,h,R,M=>by
  let⟨ad,j9,h1,h2⟩:=M;unfold eN at h1;split at h1
  .obtain⟨s9,t7,u7,u5,g1,g0,g2⟩:=xS D h h1 b l k cs;let⟨y8,Y,y9,Z,z,A⟩:=rB D d h0 b k cs l j9 n s9 t7 u7 u5 g1 (λj E k v=>by let⟨y,X⟩:=R j (G_ _ E) k v;exact⟨qdi y g0.len,by rw[g0.same k y];exact X⟩) h2
   exact⟨y8,Y,y9,Z,z,g2.trans A⟩
  next r v=>
   obtain⟨o,f,Hx,x,mk,ho,hw,he,hf,hl,hd,q,rfl⟩:=h1;have S:=od (a:=a) h.sr.F7 hw;have H:=je he;have L:=Au h.sr h.big he;let⟨nx,v',w',m,y,X,s,q4,q5,q6⟩:=L _ _ hf;let⟨u1,u2⟩:=R i d_ r v;have hS:=h.slot q4 q5 q6 hl hd u2 (h0 i r v);have G:VR Ev (dH m (W Hx) r) (mk r) v':=q.at_ s (λp hp=>by
    unfold dH
    simp_all)
   have hF:=hS.put o.dst G.up;have K:nx = .value v':=by
    rcases X with h|⟨_,rfl⟩
    .exact h
    .exfalso;cases q with
     |ptr=>cases s
     |slice e l c=>generalize g:(Value.slice (O ⟨W g9.heap,0,le e⟩) l c)=u at s;cases s<;>first|cases g|(rename_i N;subst g;simp[Am.scalar]at N)
     |map=>cases s
   subst K;let⟨y8,Y,y9,Z,z,A⟩:=rB D d h0 b k cs l _ n _ _ _ _ hF (λj E T F=>by
    let⟨p1,p2⟩:=R j (G_ _ E) T F;have I:T≠r:=λe=>by grind
    refine⟨?_,?_⟩
    .cases o.dst<;>simp[St.put,hl]<;>exact p1
    .unfold dH;rw[ts I,ts a_,q5.same T p1];exact p2) h2
   exact⟨y8,Y,y9,Z,z,(Steps.one (dM ho S H y)).trans A⟩
def c6{B:Below}(l:BOk C B){b_:TC}{ops:To}{m:St}(h:FI C base o8 r9 n9 la mu g9 a w)(f:eS C B b_ ops g9 m)(t:Nat)(b:HJ)(k:TB)(cs:List HJ) :
  ∃a' w' g j,FI C base o8 r9 n9 g j m a' w'/\
   Steps C.P (lone (b.atR a (.inRegion ops (Region.linearise .any ops t)::k)) cs w) (lone (b.atR a' k) cs w'):=by
 rcases f with f|⟨q,n,_,e,o,p⟩
 .exact R5 l b k cs _ _ _ _ _ _ _ h (f t)
 .have c:=h.F8.len;exact rB l o (λi k d=>VP c (e i k d).1) b k cs _ _ _ _ _ _ _ (h.pad n) (λi _ k d=>⟨by simpa[St.pad]using(e i k d).2,h.sr.wr.Mw k (e i k d).1⟩) (p t)
end
end
section
variable [El]
section
variable [Gc] {C:p_} {base:Nat} {o8:Tu} {r9:m_} {n9:TX} {la:t0} {mu:m_} {g9:St} {a:Act} {w:TX}
def fP(b:TC):∀(l:List (Option (Tn))) (i j:Nat),(jb b l i)[j]?=if b.contains (i+j)then(l[j]?).map (λ_=>Q)else l[j]?
 | [],i,j=>by simp[jb]
 |x::l,i,j=>by
  cases j with
  |zero=>simp only[jb,qci,qdh];split<;>rfl
  |succ j=>simp only[jb,qb0];rw[fP b l (i+1) j,show i+1+j=i+(j+1)by omega]
def S5{b:TC}{v c:TV}(h:VR la mu v c):VR (λs=>if b.contains s then Q else la s) mu (kz b v) c:=by
 unfold kz;split
 next f=>
  split
  .exact .A_ c
  next d=>
   cases h with
   |scalar h=>simp[Am.scalar]at h
   |GF h=>simp at d;exact .GF (by simp[d,h])
   |FT h=>exact .FT h
   |F1=>exact .F1
 .split
  next e=>exact(fK e h).up
  .exact .A_ c
def FI.clear(h:FI C base o8 r9 n9 la mu g9 a w)(d:TC):∃m,FI C base o8 r9 n9 m mu (g9.clear d) a w:=by
 unfold St.clear;split
 .exact⟨la,h⟩
 .refine⟨λs=>if d.contains s then Q else la s,⟨?_,?_,?_,?_,h.sr.wr⟩,h.F8,?_,h.marks,h.low⟩
  .refine⟨by simpa using h.sr.F7.1,λi x y k q=>?_⟩;rw[GL]at k;cases l:g9.tmps[i]? with
   |none=>rw[l]at k;cases k
   |some v=>rw[l]at k;cases k;exact S5 (h.sr.F7.2 i v y l q)
  .intro s b f;split at f
   .cases f
   next p=>let⟨n,o⟩:=h.sr.IB s b f;exact⟨n,by rw[fP,Hd,ts p];exact o⟩
  .intro s n g;rw[fP,Hd]at g;split at g
   .simp_all
   next p=>
    let⟨b,c,e,o,t⟩:=h.sr.loc s n g
    simp_all
  .intro s r b g j;split at g
   .cases g
   .split at j
    .cases j
    .exact h.sr.Kc s r b g j
  .intro s b f;split at f
   .cases f
   .exact h.fresh s b f
def FI.drew(h:FI C base o8 r9 n9 la mu g9 a w)(n:Nat)(b:w.drawn<=n):FI C base o8 r9 n9 la mu g9 a { w with drawn:=n }:=
 ⟨⟨h.sr.F7,h.sr.IB,h.sr.loc,h.sr.Kc,h.sr.wr.drew n⟩,h.F8.drew n b,h.fresh,h.marks,h.low⟩
def zQ{P:TI}{b:HJ}{a:Act}{k:TB}{cs:List HJ}{w:TX}{c:Code} :
  step P (lone (b.atR a (.code (.scope c)::k)) cs w) = .next (lone (b.atR a (.code c :: .inScope c::k)) cs w):=
 step_lone_go (by simp[stepG,stepG.exec,Frame.atR])
def vG{P:TI}{b:HJ}{a:Act}{k:TB}{cs:List HJ}{w:TX}{c:Code} :
  step P (lone (b.atR a (.inScope c::k)) cs w) = .next (lone (b.atR a k) cs w):=
 step_lone_go (by simp[stepG,stepG.exec,Frame.atR])
def Arr(P:TI)(b:HJ)(k:TB)(cs:List HJ)(m:Machine)(a':Act)(w':TX):Exit->Prop
 | .normal=>Steps P m (lone (b.atR a' k) cs w')
 | .ret=>∃c,Steps P m (lone (b.atR a' (.code .ret::c)) cs w')
 | .exit id=>∃c,Steps P m (lone (b.atR a' (.code (.exit id)::c)) cs w')/\exitTo id c=exitTo id k
 |_=>False
def Arr.of_steps{P:TI}{b:HJ}{k:TB}{cs:List HJ}{m d:Machine}{a':Act}{w':TX}{e:Exit}(h:Steps P m d)(h':Arr P b k cs d a' w' e):Arr P b k cs m a' w' e:=by
 cases e with
 |normal=>exact h.trans h'
 |ret=>let⟨t,h'⟩:=h';exact⟨t,h.trans h'⟩
 |exit id=>let⟨t,h',c⟩:=h';exact⟨t,h.trans h',c⟩
 |_=>exact h'.elim
def Arr.pass{P:TI}{b:HJ}{x:Item}{k:TB}{cs:List HJ}{m:Machine}{a':Act}{w':TX}{e:Exit}(g:∀id,exitTo id (x::k)=exitTo id k)(f:e≠.normal)(h:Arr P b (x::k) cs m a' w' e):Arr P b k cs m a' w' e:=by
 cases e with
 |normal=>exact absurd rfl f
 |ret=>exact h
 |exit id=>let⟨t,d,c⟩:=h;exact⟨t,d,by rw[c,g]⟩
 |_=>exact h.elim
end
def sc(C:p_)(S:HA):Prop:=
 ∀(_:Gc) (c:Nat) (i:Tu) (j:m_) (h:TX) (l:Ts) (m:TT) (b_:TC) (code:Code) (g9 g:St) (e:Exit) (la:t0) (mu:m_) (a:Act) (w:TX),(b_≠[]->l=Q)->
  S.ex b_ code g9 e g->FI C c i j h la mu g9 a w->∀(b:HJ) k cs,b.roundOf=l->b.fn=m->
  ∃a' w' d f,FI C c i j h d f g a' w'/\Arr C.P b k cs (lone (b.atR a (.code code::k)) cs w) a' w' e
section
variable [Gc] {C:p_} {base:Nat} {o8:Tu} {r9:m_} {n9:TX} {la:t0} {mu:m_} {g9:St} {a:Act} {w:TX}
def pL(e:WR C base mu g9.heap w){id:Nat}{r:HI}(h:fe g9.heap id=O r):∃p,mu id=O p/\g9.heap[id]?=O (.loop r)/\
  ∃L:Loop,w.heap[p.b]?=O (.loop L)/\L.state=r.state/\L.pending=r.pending/\L.params.toList=r.params/\L.assign=r.assign/\L.body=r.body/\A1 Ev mu r.tmps L.tmps.toList:=by
 unfold fe at h;split at h
 next f j_=>cases h;let⟨p,c,d⟩:=e.obj id _ j_ rfl;exact⟨p,c,j_,d⟩
 .cases h
def WR.K'(i:WR C base mu g9.heap w){id:Nat}{r r':HI}{p:Pl}{L':Loop}(j_:g9.heap[id]?=O (.loop r))(h:mu id=O p)
  (h1:L'.state=r'.state) (c:L'.pending=r'.pending) (d:L'.params.toList=r'.params) (e:L'.assign=r'.assign) (f:L'.body=r'.body) (g:A1 Ev mu r'.tmps L'.tmps.toList) :
  WR C base mu (g9.heap.set id (.loop r')) { w with heap:=w.heap.setIfInBounds p.b (.loop L') }/\Gw g9.heap mu w (g9.heap.set id (.loop r')) mu { w with heap:=w.heap.setIfInBounds p.b (.loop L') }:=
 i.set (w':={ w with heap:=w.heap.setIfInBounds p.b (.loop L') }) (x:=.loop L') j_ rfl h rfl rfl rfl rfl (.loop r') (λ_=>rfl) ⟨L',rfl,h1,c,d,e,f,g⟩
def V4{b tm:Tn}{cs:Tn}(c:Af b tm)(h:A1 la mu b cs):A1 Ev mu tm cs:=by
 refine⟨by rw[c.1,h.1],λi x y f g=>?_⟩;rcases c.2 i x f with rfl|⟨d,e⟩
 .exact .A_ y
 .exact fK e (h.2 i x y d g)
def WR.other(e:WR C base mu g9.heap w)(o:Obj):WR C base mu g9.heap (w.alloc o)/\Gw g9.heap mu w g9.heap mu (w.alloc o):=by
 have d:∀b,b<w.heap.size->(w.alloc o).heap[b]?=w.heap[b]?:=λb f=>by
  show(w.heap.push _)[b]?=_
  grind
 refine⟨⟨?_,e.inj,e.own,e.ro,e.Mw,?_⟩,⟨B7 _,λ_ _=>rfl,d_,λb f _=>d b f,λb f=>.inr f,rfl,rfl,rfl,B7 _⟩⟩
 .intro id x j_ j;let⟨p,i,h⟩:=e.obj id x j_ j;exact⟨p,i,by rw[d _ (lh j h)];exact h⟩
 .intro g l k;let⟨i,h,c,m,n,q,r⟩:=e.Gd g l k
  grind
def iE{l:Nat}{L:Loop}(h:w.heap[l]?=O (.loop L)):(Instr.getLoop l).run C.P w = .ok L w:=by
 have:(getObj l).run C.P w = .ok (.loop L) w:=by simp[getObj,Sem.run,h]
 simp[Instr.getLoop,this]
def lw{l:Nat}{L:Loop}{o:Obj}(h:w.heap[l]?=O (.loop L)):(setObj l o).run C.P w = .ok () { w with heap:=w.heap.setIfInBounds l o }:=by simp[setObj,Sem.run,h]
def zB{l:Nat}{L:Loop}(h:w.heap[l]?=O (.loop L))(b:L.state≠.busy) :
  (Instr.endLoop l).run C.P w = .ok L.pending { w with heap:=w.heap.setIfInBounds l (.loop { L with state:=.exhausted }) }:=by
 simp[Instr.endLoop,Sem.run_bind,iE h,lw h,Result.andThen]
 simp_all
def rY{l:Nat}{L:Loop}(h:w.heap[l]?=O (.loop L))(b:L.state = .ready) :
  (Instr.beginRound l).run C.P w = .ok () { w with heap:=w.heap.setIfInBounds l (.loop { L with state:=.busy }) }:=by
 simp[Instr.beginRound,Sem.run_bind,iE h,b,lw h,Result.andThen]
def xM{l:Nat}{L:Loop}(h:w.heap[l]?=O (.loop L))(j:Tm) :
  (Instr.endRound l j).run C.P w = .ok (.bool j.isNone) { w with heap:=w.heap.setIfInBounds l (.loop { L with state:=if j.isNone then .ready else .done,pending:=j }) }:=by
 simp[Instr.endRound,Sem.run_bind,iE h,lw h,Result.andThen]
end
section
variable {C:p_}
def S7(hm:C.P.follows .mixedOrders=J){S:HA}(hB:BOk C S.toBelow)(hS:sc C S):sc C { S with ex:=qD C S }:=by
 intro _ d o8 r9 n9 ro fn D a0 g9 j6 e V I a w B j h b k cs hb hf;cases a0 with
 |skip=>obtain⟨rfl,rfl⟩:=j;exact⟨a,w,V,I,h,.one stepR_skip⟩
 |label l=>obtain⟨rfl,rfl⟩:=j;exact⟨a,w,V,I,h,.one stepR_label⟩
 |ret=>obtain⟨rfl,rfl⟩:=j;exact⟨a,w,V,I,h,⟨k,.refl _ _⟩⟩
 |exit id=>obtain⟨rfl,rfl⟩:=j;exact⟨a,w,V,I,h,⟨k,.refl _ _,rfl⟩⟩
 |goto l=>exact j.elim
 |refuse s=>exact j.elim
 |seq x y=>
  obtain⟨t9,j9,R,h2⟩:=j;obtain⟨q,z,M,K,E,F⟩:=hS _ d o8 r9 n9 ro fn D x g9 j9 t9 V I a w B R h b (.code y::k) cs hb hf;rcases h2 with⟨rfl,h2⟩|⟨A,rfl,rfl⟩
  .obtain⟨y8,X,y9,w9,g3,g4⟩:=hS _ d o8 r9 n9 ro fn D y j9 j6 e M K q z B h2 E b k cs hb hf;exact⟨y8,X,y9,w9,g3,.of_steps (.head stepR_seq F) g4⟩
  .exact⟨q,z,M,K,E,.of_steps (.one stepR_seq) (.pass (λid=>rfl) A F)⟩
 |cond c x y=>obtain⟨t,ht,R⟩:=j;obtain⟨q,z,M,K,E,F⟩:=hS _ d o8 r9 n9 ro fn D _ g9 j6 e V I a w B R h b k cs hb hf;have hc:=aP h.sr c;rw[ht]at hc;exact⟨q,z,M,K,E,.of_steps (.one (stepR_cond hc.bool)) F⟩
 |block id x=>
  obtain⟨t9,R,rfl⟩:=j;obtain⟨q,z,M,K,E,F⟩:=hS _ d o8 r9 n9 ro fn D x g9 j6 t9 V I a w B R h b (.inBlock id::k) cs hb hf;refine⟨q,z,M,K,E,?_⟩;have g:=F;refine .of_steps (.one stepR_block) ?_;cases t9 with
  |normal=>exact Steps.trans g (.one stepR_inBlock)
  |ret=>exact g
  |exit i=>
   obtain⟨t,s1,N⟩:=g;show Arr C.P b k cs _ q z (if i=id then .normal else .exit i);by_cases hi:i=id
   .rw[rv hi];subst hi;have:exitTo i t=O k:=by rw[N];simp[exitTo]
    exact s1.trans (.one (stepR_exit this))
   .rw[ts hi];refine⟨t,s1,?_⟩;rw[N];have A:(id==i)=U:=jw;simp[exitTo,A]
  |_=>exact g.elim
 |loop x=>
  obtain⟨t9,j9,R,h2⟩:=j;obtain⟨DA,h0⟩:=h.clear (aS D x);obtain⟨q,z,M,K,E,F⟩:=hS _ d o8 r9 n9 ro fn D x _ j9 t9 DA I a w B R h0 b (.inLoop x::k) cs hb hf;rcases h2 with⟨rfl,h2⟩|⟨A,rfl,rfl⟩
  .obtain⟨y8,X,y9,w9,g3,g4⟩:=hS _ d o8 r9 n9 ro fn D (.loop x) j9 j6 e M K q z B h2 E b k cs hb hf;refine⟨y8,X,y9,w9,g3,?_⟩;have s1:Steps C.P (lone (b.atR a (.code (.loop x)::k)) cs w) (lone (b.atR q (.inLoop x::k)) cs z):=.head stepR_loop F;have N:=g4;have ay:∀Y,Steps C.P (lone (b.atR q (.code (.loop x)::k)) cs z) Y->(∃n,runN C.P (n+1) (lone (b.atR q (.code (.loop x)::k)) cs z) = .next Y)∨Y=lone (b.atR q (.code (.loop x)::k)) cs z:=by
    rintro Y ⟨n,hn⟩;cases n with
    |zero=>simp[runN]at hn;exact .inr hn.symm
    |succ n=>exact .inl ⟨n,hn⟩
   have ax:∀Y,Steps C.P (lone (b.atR q (.code (.loop x)::k)) cs z) Y->Y≠lone (b.atR q (.code (.loop x)::k)) cs z->Steps C.P (lone (b.atR q (.inLoop x::k)) cs z) Y:=by
    intro Y b0 A;rcases ay Y b0 with⟨n,hn⟩|rfl
    .refine⟨n+1,?_⟩;simp only[runN,stepR_loop,stepR_inLoop]at hn ⊢;exact hn
    .exact absurd rfl A
   have G:∀(a':Act) (t:TB) (w':TX),t≠.code (.loop x)::k->lone (b.atR a' t) cs w'≠lone (b.atR q (.code (.loop x)::k)) cs z:=by intro a' t w' A e;have e':=congrArg (λm:Machine=>(m.gs[0]?).map (λg=>g.frame.todo)) e;simp[lone,Frame.atR]at e';exact A e'
   refine .of_steps s1 ?_;cases e with
   |normal=>refine ax _ N (G _ _ _ λe=>?_);have:=congrArg List.length e;simp at this
   |ret=>obtain⟨t,N⟩:=N;exact⟨t,ax _ N (G _ _ _ λe=>by simp at e)⟩
   |exit id=>obtain⟨t,N,s3⟩:=N;exact⟨t,ax _ N (G _ _ _ λe=>by simp at e),s3⟩
   |_=>exact N.elim
  .exact⟨q,z,M,K,E,.of_steps (.one stepR_loop) (.pass (λid=>rfl) A F)⟩
 |scope x=>
  obtain⟨q,z,M,K,E,F⟩:=hS _ d o8 r9 n9 ro fn D x g9 j6 e V I a w B j h b (.inScope x::k) cs hb hf;refine⟨q,z,M,K,E,.of_steps (.one zQ) ?_⟩;have g:=F;by_cases hn:e = .normal
  .subst hn;exact Steps.trans g (.one vG)
  .exact .pass (λid=>rfl) hn g
 |region id b6 a1=>
  obtain⟨rfl,R⟩:=j;cases a1 with
  |false=>obtain⟨q,z,M,K,E,F⟩:=BU hB b k cs _ _ _ _ _ _ _ h R;exact⟨q,z,M,K,E,.head stepR_region F⟩
  |true=>have hd:FI C d o8 r9 n9 V I g9 a { w with drawn:=w.drawn+1 }:=h.drew _ (Nat.le_succ _);obtain⟨u6,h0,R⟩:=R;obtain⟨q,z,M,K,E,F⟩:=c6 hB (hd.RR h0) R (w.tape w.drawn (.order fn id)) b k cs;refine⟨q,z,M,K,E,.head stepR_region_draw ?_⟩;rw[hm,hf];exact F
 |rangeFunc f params assign body=>
  obtain⟨a9,g,first,ag,A8,tm,r,H,w0,aE,bP,b1,av,hl,ap,o,rfl⟩:=j;obtain rfl:=B a9;have a6:=aP h.sr f;rw[bP]at a6;obtain⟨x',y',bC,r1,r2⟩:=a6.Ix;have ad:first.toList.all aW=J/\ag.toList.all aW=J:=by simpa[q8]using b1
  have d1:A1 Ev I first.toList x'.toList:=⟨r1.1,λi u v hu hv=>fZ (cR ad.1 hu) (r1.2 i u v hu hv)⟩
  have d2:A1 Ev I ag.toList y'.toList:=⟨r2.1,λi u v hu hv=>fZ (cR ad.2 hu) (r2.2 i u v hu hv)⟩;obtain⟨bs,a2⟩:=h.sr.wr.other (.deferred (O []));have b4:(w.alloc (.deferred (O []))).heap[w.heap.size]?=O (.deferred (O [])):=by show(w.heap.push _)[_]?=_;simp
  have b2:¬Mo I g9.heap w.heap.size:=λho=>by have:=(Mo.lt h.sr.wr ho).1;omega
  have al:FI C d o8 r9 n9 V I g9 { a with defers:=({ target:=.collected w.heap.size,args:=#[] }:Deferred)::a.defers } (w.alloc (.deferred (O []))):=by
   have h':=h.heap bs a2;refine⟨h'.sr,h'.F8,h'.fresh,?_,h'.low⟩;obtain⟨rs,k1,k2,k3⟩:=h.marks;have a8:∀r∈rs,r<w.heap.size:=λr hr=>by grind
   refine⟨w.heap.size::rs,by rw[k1];rfl,o7.2 ⟨λhm=>by have:=a8 _ hm;omega,k2⟩,λr hr=>?_⟩;rcases Fy.1 hr with rfl|hr
   .exact⟨h.F8.size,b4,b2⟩
   .obtain⟨k4,k5,k6⟩:=k3 r hr;exact⟨k4,by rw[a2.ke r (a8 r hr) k6];exact k5,k6⟩
  have bx:d<=(w.alloc (.deferred (O []))).heap.size:=al.big
  let L:Loop:={ state:=.ready,pending:=Q,fn,tmps:=a.tmps,params,assign,body,defers:=w.heap.size }
  let X:TX:=(w.alloc (.deferred (O []))).alloc (.loop L)
  let p:Pl:=⟨(w.alloc (.deferred (O []))).heap.size,0,0,0⟩
  obtain⟨a4,be,_⟩:=al.sr.wr.new bx (w':=X) (x:=.loop L) rfl rfl rfl rfl (.loop { state:=.ready,pending:=Q,fn:=A8,tmps:=tm,params:=params.toList,assign,body }) p rfl
   ⟨L,rfl,rfl,rfl,rfl,rfl,rfl,V4 aE h.sr.F7⟩ (λ_=>rfl)
  have a3:=al.heap a4 be;have T:=mQ h.sr.wr p;have an:A1 Ev (Ll I (W g9.heap) p) (first.toList++[.func (.yield (W g9.heap)) #[] #[]]++ag.toList) (x' ++ #[Value.func (.yield p.b) #[] #[]]++y').toList:=by simp only[qbF];exact((d1.mono (λ_ _ h=>h) T).append (.cons (.yield (bN _ _ _)) .nil)).append (d2.mono (λ_ _ h=>h) T)
  obtain⟨v,bd,w',q1,q2,q3,q4,q5⟩:=hB.call _ _ _ _ _ av _ d _ X _ a3.big an a4 (b.atR { a with defers:=[({ target:=.collected w.heap.size,args:=#[] }:Deferred)]++a.defers } (.inRangeFunc p.b::k)::cs);have bl:=a3.heap q2 q3;have b5:bd (W g9.heap)=O p:=by rw[q3.same _ d_];exact bN _ _ _
  obtain⟨p',b3,j_,L',bn,e1,e2,e3,e4,e5,e6⟩:=pL (g9:={ g9 with heap:=H }) q2 hl;obtain rfl:p'=p:=k_;obtain⟨bt,bk⟩:=WR.K' (g9:={ g9 with heap:=H }) q2 j_ b3 (r':={ w0 with state:=.exhausted }) (L':={ L' with state:=.exhausted }) rfl e2 e3 e4 e5 e6;have bm:=bl.heap bt bk;refine⟨_,_,V,bd,bm,?_⟩;have Z:(Instr.enterLoop b.fn a.tmps params assign body b.roundOf).run C.P w = .ok (p.b,[({ target:=.collected w.heap.size,args:=#[] }:Deferred)]) X:=by rw[hb,hf];rfl
  have bb:(resolve a.eval (rangeCall f p.b) 0).run C.P X = .ok { target:=.fn (.func g) y',args:=x' ++ #[.func (.yield p.b) #[] #[]] } X:=by
   have Ft:Array.map a.eval #[Operand.const (Value.func (Fn.yield p.b) #[] #[])] = #[Value.func (Fn.yield p.b) #[] #[]]:=by simp[Act.eval]
   simp only[resolve,bC,Deferred.ofValue,Ft];rfl
  have a7:(invoke (.fn (.func g) y') (x' ++ #[.func (.yield p.b) #[] #[]])).run C.P X = .ok (.enter g (x' ++ #[.func (.yield p.b) #[] #[]]++y')) X:=q4;have s1:=stepR_rangeFunc (P:=C.P) (b:=b) (a:=a) (k:=k) (cs:=cs) Z bb a7;obtain⟨fr,N,_,s3⟩:=q5;have a5:(Instr.endLoop p.b).run C.P w' = .ok w0.pending { w' with heap:=w'.heap.setIfInBounds p.b (.loop { L' with state:=.exhausted }) }:=by rw[←e2];exact zB bn (by rw[e1];exact ap)
  have s4:Steps C.P (lone (b.atR a (.code (.rangeFunc f params assign body)::k)) cs w) (lone (b.atR { a with defers:=[({ target:=.collected w.heap.size,args:=#[] }:Deferred)]++a.defers } ((w0.pending.map Item.code).toList++k)) cs { w' with heap:=w'.heap.setIfInBounds p.b (.loop { L' with state:=.exhausted }) }):=by refine .head s1 (N.trans (.head ?_ (.one (stepR_endRangeFunc a5))));rw[←finish_atR_inRangeFunc p.b v];exact step_leave_returned s3
  unfold Ay at o;split at o
  next hp=>cases o;rw[hp]at s4;exact s4
  next hp=>cases o;rw[hp]at s4;exact⟨k,s4⟩
  next hp=>cases o;rw[hp]at s4;exact⟨k,s4,rfl⟩
  .cases o
end
end
section
variable [El]
section
variable [Gc] {C:p_} {base:Nat} {o8:Tu} {r9:m_} {n9:TX} {la:t0} {mu:m_} {g9:St} {a:Act} {w:TX}
def FI.shut{d:Deferred}{ds:List Deferred}(h:FI C base o8 r9 n9 la mu g9 a w)(F:a.defers=d::ds) :
  ∃r,d.target = .collected r/\(Instr.takeDeferred r).run C.P w = .ok [] { w with heap:=w.heap.setIfInBounds r (.deferred Q) }/\
   FI C base o8 r9 n9 la mu g9 { a with defers:=ds } { w with heap:=w.heap.setIfInBounds r (.deferred Q) }:=by
 let⟨v,l,B,D⟩:=h.marks;rw[F]at l;cases v with
 |nil=>cases l
 |cons r v=>
  simp only[Fx,Li]at l;obtain⟨rfl,rfl⟩:=l;let⟨R,u,L⟩:=D r d_;have H:r<w.heap.size:=(MD.1 u).1;have j:∀b,b≠r->(w.heap.setIfInBounds r (.deferred Q))[b]?=w.heap[b]?:=λb E=>qbQ (EC E);have A:=h.low;refine⟨r,rfl,?_,⟨⟨h.sr.F7,h.sr.IB,?_,h.sr.Kc,⟨?_,h.sr.wr.inj,h.sr.wr.own,h.sr.wr.ro,h.sr.wr.Mw,?_⟩⟩,?_,h.fresh,?_,h.low⟩⟩
  .have m:(getObj r).run C.P w = .ok (.deferred (O [])) w:=by simp[getObj,Sem.run,u]
   have t:(setObj r (.deferred Q)).run C.P w = .ok () { w with heap:=w.heap.setIfInBounds r (.deferred Q) }:=by simp[setObj,Sem.run,u]
   simp[Instr.takeDeferred,Sem.run_bind,m,t,Result.andThen]
  .intro s x t;let⟨b,c,e,i,y,e3,e4⟩:=h.sr.loc s x t
   grind
  .intro id o j_ z;let⟨p,i,y⟩:=h.sr.wr.obj id o j_ z;refine⟨p,i,?_⟩;show G6 mu p (w.heap.setIfInBounds r (.deferred Q))[p.b]? o;by_cases q:p.b=r
   .exfalso;by_cases f:o.owned=J
    .exact L ⟨id,o,p,j_,f,i,q⟩
    .have:=h.sr.wr.ro id o p j_ z (by simpa using f) i;omega
   simp_all
  .intro g x m;let⟨i,y,c,M,N,e3,e4⟩:=h.sr.wr.Gd g x m
   grind
  .refine⟨h.F8.len,h.F8.same,by simpa using h.F8.size,λk G I=>?_,h.F8.Gg,h.F8.os,h.F8.tape,h.F8.output,h.F8.dr⟩;rw[←h.F8.ke k G I];exact j k a_
  .have n:=o7.1 B;refine⟨v,rfl,n.2,λS K=>?_⟩
   grind
def xZ:∀(ds:List Deferred) (a:Act) (w:TX),a.defers=ds->FI C base o8 r9 n9 la mu g9 a w->
  ∃w',FI C base o8 r9 n9 la mu g9 { a with defers:=[] } w'/\
   ∀(b:HJ) (c:TB) (cs:List HJ),Steps C.P (lone { b.atR a c with mode:=.returning } cs w) (lone { b.atR { a with defers:=[] } c with mode:=.returning } cs w')
 | [],a,w,e,h=>by let⟨f,defers⟩:=a;simp only at e;subst e;exact⟨w,h,λb c cs=>.refl _ _⟩
 |d::ds,a,w,e,h=>by let⟨r,g,i,j⟩:=h.shut e;let⟨w',k,l⟩:=xZ ds { a with defers:=ds } _ rfl j;refine⟨w',k,λb c cs=>.head ?_ (l b c cs)⟩;exact step_collected (fr:={ b.atR a c with mode:=.returning }) d_ (show a.defers=d::ds from e) g i
def nU(b:Tl):ResultVar->Sem FO
 | .tmp t=>pure (b.getD t undef)
 | .cell p t=>do loadVar t (←asAddr (b.getD p undef))
def Di(c:Func)(b:Tl):results c b=(do
  let vs ←c.results.mapM (nU b)
  pure (if h:vs.size=1 then vs[0]else .tuple vs)):=by
 have:(λx=>match x with
  |ResultVar.tmp t=>pure (b.getD t undef)
  |ResultVar.cell p t=>(do loadVar t (←asAddr (b.getD p undef)):Sem FO))=nU b:=by
  funext x;cases x<;>rfl
 rw[←this];rfl
def Dg(h:SR C base la mu g9 a.tmps w){x:ResultVar}{v:TV}(b:gh C g9 x=O v) :
  ∃v',(nU a.tmps x).run C.P w = .ok v' w/\VR la mu v v':=by
 have f:∀t,VR la mu (g9.tmps.getD t undef) (a.tmps.getD t undef):=λt=>aP h (.tmp t);cases x with
 |tmp t=>simp only[gh]at b;cases b;exact⟨_,rfl,f t⟩
 |cell p t=>
  simp only[gh]at b;have j:=f p;split at b
  next u A=>
   rw[A]at j;split at b
   next d=>
    cases g:gw g9.heap u.block with
    |none=>simp_all
    |some B=>
     rw[g]at b;generalize r:a.tmps.getD p undef=y at j ⊢;cases j with
     |scalar q=>simp[Am.scalar]at q
     |GF _=>simp at d
     |F1=>simp at d
     |FT o=>let⟨c,e,D,k,l⟩:=wL h.wr g o;let⟨v',s,m⟩:=eJ (C:=C) l b k;exact⟨v',by simp only[nU,r,asAddr];exact s,m.up⟩
   next d=>
    split at b
    next B i=>
     generalize r:a.tmps.getD p undef=y at j ⊢;cases j with
     |scalar q=>simp[Am.scalar]at q
     |FT _=>simp at d
     |F1=>simp at d
     |GF n=>let⟨c,e,k,l,s⟩:=M_ h i n;let⟨v',m,z⟩:=eJ (C:=C) (cF.Ie l) b k;exact⟨v',by simp only[nU,r,asAddr];simpa using m,z.up⟩
    .cases b
   .cases b
  .cases b
def rx(h:SR C base la mu g9 a.tmps w):∀ {l:List ResultVar} {vs:Tn},dq C g9 l=O vs->
  ∃b,(l.mapM (nU a.tmps)).run C.P w = .ok b w/\A1 la mu vs b
 | [],vs,c=>by cases c;exact⟨[],d_,.nil⟩
 |x::l,vs,c=>by
  simp only[dq]at c;split at c
  next v i g d=>
   cases c;let⟨v',h1,e⟩:=Dg h g;let⟨b,j,f⟩:=rx h d;refine⟨v'::b,?_,.cons e f⟩
   simp_all
  .cases c
def Dj(h:SR C base la mu g9 a.tmps w){d:Func}{vs:Tn}(f:dq C g9 d.results.toList=O vs) :
  ∃v',(results d a.tmps).run C.P w = .ok v' w/\VR la mu (gL vs) v':=by
 let⟨c,e,b⟩:=rx h f;rw[Di,qdk,Sem.run_bind,Sem.run_map,e]
 match vs,c,b with
 | [],[],_=>exact⟨_,rfl,.undef⟩
 | [v],[v'],b=>exact⟨v',rfl,b.head⟩
 |v::u::l,v'::i::g,b=>exact⟨.tuple (v'::i::g).toArray,rfl,A1.tuple (a:=(v::u::l).toArray) a_⟩
 | [],_::_,b=>simpa using b.1
 | [_],[],b=>simpa using b.1
 | [_],_::_::_,b=>simpa using b.1
 |_::_::_,[],b=>simpa using b.1
 |_::_::_,[_],b=>simpa using b.1
end
section
variable {C:p_}
def SP{S:HA}(M:sc C S){f:TT}{args:Tn}{H:Tu}{r:TV}{H':Tu}(h:pw C S f args H r H'):eR C f args H r H':=by
 obtain⟨fn,n,e,K,vs,k,i,d,A,T,q,rfl,B,rfl⟩:=h;rw[qbM]at d
 replace d:=d.1
 intro _ m v w c R g N x
 let o:Act:={ tmps:=c++Array.replicate (fn.ntmps-c.size) undef,defers:=[] }
 have p:W args=c.size:=by simpa using g.1
 have L:FI C m H v w Ev v (oA fn args H) o w:=by
  refine⟨⟨?_,λs b h=>by simp[Ev]at h,λs vs Y=>?_,λs s' b h=>by simp[Ev]at h,N⟩,.refl _ _ _,λs b h=>by simp[Ev]at h,⟨[],rfl,d_,λr X=>by simp at X⟩,R⟩
  .simp only[oA,o,qbF,Array.toList_replicate,p];exact g.append (.replicate _ .undef)
  .simp only[oA,ay]at Y
   simp_all
 let b:HJ:={ (default:HJ)with fn:=f,kind:=.normal,roundOf:=Q }
 let⟨t,Z,u7,u5,F,G⟩:=M _ m H v w Q f _ n _ K e Ev v o w (λ_=>rfl) A L b [] x rfl rfl;let⟨u4,y,D⟩:=xZ t.defers t Z rfl F;let⟨v',E,I⟩:=Dj (a:={ t with defers:=[] }) y.sr q;refine⟨v',u5,u4,fK B I,y.sr.wr,y.F8,?_,?_⟩
 .have z:fn.body.isNone=U:=by rw[i];rfl
  have V:(program).run C.P w = .ok C.P w:=rfl;simp only[callFunc,Sem.run_bind,V,Result.andThen_ok,k,d,z];rfl
 .have j:Frame.enter C.P f c .normal=b.atR o [.code n]:=by simp[Frame.enter,Frame.atR,k,i,b,o]
  rw[j];have l:=G;rcases T with rfl|rfl
  .refine⟨{ b.atR { t with defers:=[] } []with mode:=.returning },(Steps.trans l (.one (stepR_end rfl))).trans (D b [] x),rfl,rfl,rfl,rfl,fn,k,E⟩
  .obtain⟨u,l⟩:=l;refine⟨{ b.atR { t with defers:=[] } (.code .ret::u)with mode:=.returning },(l.trans (.one (stepR_ret rfl))).trans (D b _ x),rfl,rfl,rfl,rfl,fn,k,E⟩
section
variable [Gc] {la:t0} {mu:m_}
def xI:∀(d:List Tmp) (vs cs:Tn) (b:Tn) (a:Tl),W vs=W d->A1 la mu vs cs->A1 la mu b a.toList->
  A1 la mu (cW d vs b) ((d.zip cs).foldl (λ(t:Tl) (x:Tmp×FO)=>t.setIfInBounds x.1 x.2) a).toList
 | [],vs,cs,b,a,e,h,g=>by
  cases vs with
  |nil=>simpa[cW]using g
  |cons _ _=>simp at e
 |t::d,vs,cs,b,a,e,h,g=>by
  cases vs with
  |nil=>simp at e
  |cons v vs=>obtain⟨c,f,rfl,h1,i⟩:=h.Le;simp only[cW,qdg,y6];exact xI d vs f _ _ (by simpa using e) i (by simpa using g.set t h1)
end
def Dv{S:HA}(hS:sc C S){l:Nat}{args:Tn}{H:Tu}{r:TV}{H':Tu}(h:mR C S l args H r H'):NX C l args H r H':=by
 obtain⟨d,j9,w6,e,s8,A5,j,hl,y,u,V,Y,v,E,X,rfl,rfl⟩:=h;intro _ f n w a p hb hp g hW c G;let⟨A,ag,j_,L,hL,e1,e2,e3,e4,e5,e6⟩:=pL (g9:={ tmps:=[],loc:=[],heap:=H }) hW hl;obtain rfl:A=p:=k_
 let tm:Tl:=(L.params.zip a).foldl (λtmps (x:Tmp×FO)=>tmps.setIfInBounds x.1 x.2) L.tmps
 let q:Act:={ tmps:=tm,defers:=[] }
 have ad:A1 Ev n (cW d.params args d.tmps) tm.toList:=by
  have:=xI d.params args a.toList d.tmps L.tmps y g e6;rw[←e3,←Array.toList_zip]at this
  grind
 have hF:FI C f H n w Ev n { tmps:=cW d.params args d.tmps,loc:=[],heap:=H } q w:=by refine⟨⟨ad,λs b h=>by simp[Ev]at h,λs vs hs=>by simp at hs,λs s' b h=>by simp[Ev]at h,hW⟩,.refl _ _ _,λs b h=>by simp[Ev]at h,⟨[],rfl,d_,λr hr=>by simp at hr⟩,hb⟩
 let b:HJ:={ (default:HJ)with fn:=L.fn,kind:=.normal,roundOf:=O A.b }
 let⟨s9,t7,u7,u5,B,g2⟩:=hS _ f H n w (O A.b) L.fn [] d.assign _ j9 .normal Ev n q w (λh=>absurd rfl h) u hF b [.beginRound,.code d.body] (c::G) rfl rfl;have m:∀ {z:m_} {H':Tu} {w':TX},Gw H n w H' z w'->z l=O A:=λhe=>by rw[he.same l (qbS.1 j_).1];exact hp
 let⟨F,C9,DB,DC,DD,f1,f2,f3,f4,f5,f6⟩:=pL (g9:=j9) B.sr.wr V;obtain rfl:F=A:=by rw[m B.F8]at C9;simp_all
 let⟨N,I⟩:=WR.K' (g9:=j9) B.sr.wr DB C9 (r':={ w6 with state:=.busy }) (L':={ DC with state:=.busy }) rfl f2 f3 f4 f5 f6;have M:=B.heap N I;let⟨y8,u4,y9,w9,D,g4⟩:=hS _ f H n w (O F.b) L.fn [] d.body _ s8 e u7 u5 s9 _ (λh=>absurd rfl h) v M b [] (c::G) rfl rfl;let⟨Dx,Dy,DE,DF,DG,k1,k2,k3,k4,k5,k6⟩:=pL (g9:=s8) D.sr.wr X;obtain rfl:Dx=F:=by rw[m D.F8]at Dy;simp_all
 let⟨R,K⟩:=WR.K' (g9:=s8) D.sr.wr DE Dy (r':={ A5 with state:=if j.isNone then .ready else .done,pending:=j }) (L':={ DF with state:=if j.isNone then .ready else .done,pending:=j }) rfl rfl k3 k4 k5 k6;refine⟨.bool j.isNone,w9,_,L.fn,tm,L.assign,L.body,.scalar rfl,R,D.F8.trans K,?_,?_⟩
 .have Z:a.size=L.params.size:=by
   have h1:=g.1
   grind
  simp[Instr.yield,Sem.run_bind,iE hL,Z,tm]
 .have T:Frame.round Dx.b L.fn tm L.assign L.body .normal=b.atR q [.code L.assign,.beginRound,.code L.body]:=by simp[Frame.round,Frame.atR,b,q]
  rw[T,e4,e5];have s1:Steps C.P (lone (b.atR q [.code d.assign,.beginRound,.code d.body]) (c::G) w) _:=g2;have s2:=s1.trans (.one (stepR_beginRound (k:=[.code d.body]) rfl (rY DD (by rw[f1];exact Y))));have o:=g4;have i:=xM (C:=C) DG j;cases e with
  |normal=>cases E;exact(s2.trans o).trans (.one (stepR_round_end rfl rfl i))
  |ret=>cases E;let⟨t,o⟩:=o;exact(s2.trans o).trans (.one (stepR_round_ret rfl rfl i))
  |exit id=>cases E;let⟨t,o,hx⟩:=o;exact(s2.trans o).trans (.one (stepR_round_exit rfl rfl hx i))
  |_=>cases E
def R0(l:C.P.follows .mixedOrders=J){K:Xv}(c:∀f args H r H',K f args H r H'->eR C f args H r H'):∀n,BOk C (VY C K n).toBelow/\sc C (VY C K n)
 |0=>⟨⟨c,λ_ _ _ _ _ h=>h.elim⟩,by intro _ b p q o s k b_ code g9 m e la mu a w _ h;exact h.elim⟩
 |n+1=>by let⟨t,d⟩:=R0 l c n;refine⟨⟨λf args H r H' h=>h.elim (c f args H r H') (SP d),λ_ _ _ _ _ h=>Dv d h⟩,?_⟩;have g:sc C _:=S7 l t d;intro _ b p q o s k b_ code g9 m e la mu a w j i u;exact g _ b p q o s k b_ code g9 m e la mu a w j i u
end
end
end Go.Am
end

import Derived.AtR
import Derived.Calls
import Derived.KernelRfl
import Derived.Laws.AppendOwn
import Derived.Laws.MakeOwn
import Derived.Laws.Tables
import Derived.Orders
import Derived.RangeFuncIn
import Derived.RangeFuncLeaves
import GoSem.Claims
set_option linter.all false
namespace Go
abbrev te:=@Bool.and_eq_true
abbrev Cb:=@List.mem_of_getElem?
abbrev A5:=@List.all_eq_true
abbrev Cd:=@List.mem_range
abbrev Dp:=@Nat.eq_of_beq_eq_true
abbrev Dv:=@Option.map_eq_some_iff
abbrev x5:=@Nat.le_refl
abbrev DK:=@Nat.ble_eq_true_of_le
abbrev DZ:=@List.getElem?_of_mem
abbrev Dj:=@Option.bind_some
abbrev EB:=@Option.bind_eq_some_iff
abbrev CH:=@List.mem_map
abbrev Ds:=@List.nil_append
abbrev D5:=@Bool.false_eq_true
abbrev DC:=@List.cons_append
abbrev CM:=@Nat.zero_le
abbrev FN:=@List.getElem?_eq_getElem
abbrev E2:=@List.mem_cons_of_mem
abbrev DU:=@Option.some.inj
abbrev GD:=@List.getElem?_append_left
abbrev Dy:=@List.mem_cons
abbrev EC:=@List.append_assoc
abbrev DD:=@List.map_cons
abbrev Hb:=@List.getElem?_append_right
abbrev EL:=@List.getElem?_map
abbrev Ed:=@List.mem_append
abbrev DJ:=@Bool.not_true
abbrev Gm:=@List.getElem?_eq_none
abbrev Fm:=@List.mem_singleton
abbrev EA:=@Option.map_some
abbrev GL:=@List.getElem?_set_self
abbrev Is:=@Array.getElem?_eq_some_iff
abbrev Ex:=@Bool.not_false
abbrev Ga:=@Int.natCast_nonneg
abbrev FL:=@Option.some.injEq
abbrev Ha:=@List.getElem?_set_ne
abbrev H4:=@List.take_of_length_le
abbrev GA:=@List.length_append
abbrev Fy:=@List.length_set
abbrev Gb:=@Bool.not_eq_true
abbrev Gc:=@List.mem_flatMap
abbrev GB:=@List.ext_getElem?
abbrev GC:=@List.getElem?_set
abbrev FM:=@List.length_map
abbrev M8:=@List.pairwise_iff_getElem
abbrev Gd:=@Bool.or_eq_true
abbrev Ge:=@List.mem_filter
abbrev EM:=@Nat.zero_add
abbrev Jf:=@List.mem_append_left
abbrev GM:=@List.append_nil
abbrev NE:=@List.length_eq_zero_iff
abbrev H5:=@List.take_add_one
abbrev SA:=@List.nodup_iff_pairwise_ne
abbrev Je:=@List.pairwise_cons
abbrev SB:=@List.drop_eq_getElem_cons
abbrev Wi:=@Array.getD_eq_getD_getElem?
abbrev Hq:=@List.cons.injEq
abbrev De:=@Ne.symm
abbrev xT:=@Option.isSome_iff_exists
abbrev ND:=@List.mem_of_mem_take
abbrev Yp:=@Array.getElem?_setIfInBounds
abbrev Gk:=@Nat.lt_or_ge
abbrev M9:=@List.mem_cons_self
abbrev Iu:=@List.map_append
abbrev QS:=@Nat.mul_le_mul_right
abbrev M_:=@List.pairwise_map
abbrev SE:=@List.mem_append_right
abbrev Hx:=@List.forall_mem_cons
abbrev Lb:=@List.range_succ
abbrev QT:=@List.mem_filterMap
abbrev Wp:=@List.take_append_drop
abbrev Gf:=@Nat.blt_eq
abbrev Yu:=@List.getElem?_replicate
abbrev H6:=@List.map_nil
abbrev Jg:=@Int.ofNat.inj
abbrev QU:=@Option.getD_some
abbrev SF:=@List.flatMap_cons
abbrev SG:=@List.length_range
abbrev Yv:=@List.range_eq_range'
abbrev m4:=@List.pairwise_lt_range
abbrev t3:=@List.mem_or_eq_of_mem_set
abbrev Yw:=@Array.toList_append
abbrev Yx:=@List.flatMap_append
abbrev Yy:=@List.map_congr_left
abbrev Hr:=@Nat.ble_eq
abbrev Jh:=@Nat.add_mul
abbrev SH:=@Nat.min_eq_left
abbrev F':=@Bool.or_eq_false_iff
abbrev pD:=@List.mem_of_mem_drop
abbrev Wk:=@List.length_cons
abbrev Wl:=@List.not_mem_nil
abbrev W3:=@List.drop_of_length_le
abbrev e5:=@Array.getElem?_setIfInBounds_ne
abbrev kE:=@List.length_pos_iff
abbrev It:=@Nat.mod_lt
abbrev x0:=@List.getElem?_eq_some_iff
abbrev QQ:=@Nat.add_assoc
abbrev QR:=@Prod.mk.injEq
abbrev Wm:=@Bool.eq_iff_iff
abbrev Wn:=@List.foldl_cons
abbrev NG:=@Nat.le_trans
abbrev lE:=@List.getElem?_take
abbrev u9:=@Array.toList_inj
abbrev Ys:=@List.length_take
abbrev Yt:=@List.take_length
abbrev n3:=@List.getElem?_append
abbrev yt:=@Int.eq_ofNat_of_zero_le
abbrev SC:=@List.all_cons
abbrev q6:=@List.getElem?_cons_succ
abbrev Wo:=@List.mapM_cons
abbrev qB:=@Bool.not_eq_true'
abbrev kG:=@List.nodup_append
abbrev t1:=@List.getElem?_drop
abbrev SD:=@List.map_map
abbrev Yq:=@List.Perm.refl
abbrev Yr:=@List.drop_zero
abbrev r3:=@List.mem_of_find?_eq_some
abbrev hR:=@List.pairwise_append
abbrev w5:=@List.flatten_cons
abbrev nD:=@List.nodup_cons
abbrev a8:=@Int.mul_le_mul_of_nonneg_right
abbrev Wj:=@Nat.sub_self
abbrev hB:=@List.getElem?_cons_zero
abbrev o5:=@List.replicate_succ
abbrev ih:=@List.take_succ_cons
abbrev SI:=@Nat.one_mul
abbrev FF:=@List.drop_drop
abbrev kH:=@List.nodup_nil
abbrev m0:=@Nat.mul_le_mul
abbrev r0:=@List.filter_append
abbrev ce:=@List.filterMap_append
abbrev t5:=@Nat.le_max_left
abbrev Yz:=@Nat.zero_mul
abbrev mH:=@Bool.false_or
abbrev n9:=@List.foldl_append
abbrev o1:=@Int.ofNat_eq_natCast
abbrev et:=@List.contains_eq_mem
abbrev qcn:=@Array.getElem?_eq_getElem
abbrev qco:=@List.getElem?_eq_none_iff
abbrev el:=@List.any_eq_true
abbrev y1:=@List.flatMap_map
abbrev r4:=@List.range'_succ
abbrev eC:=@Nat.le_max_right
abbrev f1:=@Array.getElem?_push
abbrev f2:=@List.drop_succ_cons
abbrev YA:=@Nat.mul_one
abbrev qcw:=@List.idxOf_lt_length_iff
abbrev w1:=@Array.all_eq_true'
abbrev ck:=@Bool.not_eq_false'
abbrev qcz:=@List.idxOf?_eq_some_iff
abbrev e6:=@List.set_cons_succ
abbrev aE:=@Array.getElem?_eq_none
abbrev ax:=@Nat.div_div_eq_div_mul
abbrev w2:=@Bool.eq_false_iff
abbrev w3:=@Int.toNat_natCast
abbrev qcF:=@Array.eq_empty_of_size_eq_zero
abbrev qcG:=@List.Pairwise.and_mem
abbrev an:=@List.Perm.append_left
abbrev qcI:=@List.length_filter_le
abbrev qcJ:=@List.length_replicate
abbrev qcK:=@List.length_singleton
abbrev ag:=@List.set_append_right
abbrev l3:=@List.drop_append
abbrev cb:=@List.length_drop
abbrev qcO:=@List.take_append_of_le_length
abbrev qcP:=@List.Pairwise.filter
abbrev qcQ:=@List.map_eq_cons_iff
abbrev qcR:=@List.range'_append_1
abbrev qcS:=@List.set_append_left
abbrev t4:=@Int.le_refl
abbrev qcU:=@List.filter_eq_self
abbrev cm:=@List.find?_some
abbrev cp:=@List.length_nil
abbrev z0:=@Nat.div_le_self
abbrev cq:=@Option.pure_def
abbrev qcZ:=@Array.getElem?_append_left
abbrev qc0:=@List.exists_cons_of_ne_nil
abbrev ad:=@Array.ext_getElem?
abbrev hm:=@Array.foldl_toList
abbrev sk:=@List.map_set
abbrev a7:=@List.zip_cons_cons
abbrev u2:=@Nat.add_zero
abbrev ay:=@Nat.lt_of_lt_of_le
abbrev Wq:=@Prod.ext
abbrev f5:=@Prod.ext_iff
abbrev qc9:=@Array.mapM_eq_mapM_toList
abbrev qda:=@List.getElem?_zip_eq_some
abbrev gx:=@List.take_zero
abbrev qdc:=@List.eq_of_mem_replicate
abbrev qdd:=@List.filter_congr
abbrev qde:=@List.mem_range'_1
abbrev qdf:=@Nat.lt_trichotomy
abbrev qdg:=@List.idxOf?_eq_none_iff
abbrev l2:=@List.mapM_nil
abbrev qdi:=@List.pairwise_filterMap
abbrev jj:=@List.take_add
abbrev qdk:=@Nat.add_sub_cancel_left
abbrev qdl:=@Array.toList_map
abbrev qdm:=@List.filter_cons
abbrev qdn:=@List.take_append
abbrev qdo:=@Option.getD_none
abbrev g5:=@Int.ofNat_le
abbrev qdq:=@List.all_append
abbrev qdr:=@List.append_inj
abbrev qds:=@List.forIn_cons
abbrev qdt:=@List.set_append
abbrev b9:=@Nat.beq_refl
abbrev cn:=@Nat.le_of_lt
abbrev qdw:=@Nat.not_lt_zero
abbrev ca:=@List.map_id
abbrev q4:=@Nat.mul_pos
abbrev qdz:=@Bool.and_true
abbrev hz:=@Nat.mod_le
abbrev Es:=@decide_eq_true_eq
abbrev Gg:=@decide_eq_false
abbrev Fo:=@decide_eq_true
abbrev n_:=@if_pos
abbrev qs:=@if_neg
end Go
noncomputable section
open List(replicate)
namespace Go.Am
abbrev _root_.TR:=Value
def vc:Value:=.tuple #[.tuple #[]]
def scalar:Value->Bool
 | .bool _=>true
 | .int _ _=>true
 | .string _=>true
 | .pointer none=>true
 | .map none=>true
 | .nilFunc=>true
 | .nilIface=>true
 | .slice none 0 0=>true
 |_=>false
def gk:Value->Bool
 | .agg cs=>cs.toList.all scalar
 |v=>scalar v
def flat:Value->Bool
 | .tuple vs=>vs.size != 1&&vs.toList.all gk
 |v=>gk v
abbrev _root_.Tl:=Array Value
def ug(cs:Tl):Option IntKind:=
 match cs.toList with
 | .int k _ :: _=>some k
 |_=>none
def jB:Value->Bool
 | .tuple vs=>match vs.toList with
  | [.agg cs]=>(ug cs).isSome
  |_=>false
 |_=>false
def gr{vs:Tl}(h:jB (.tuple vs)=true):vs.size=1:=by
 simp only[jB]at h;split at h
 next e=>rw[←Array.length_toList,e];rfl
 .cases h
class Cf where
 num:Tl->Int
class D1 where
 D2:Nat->Nat×Nat
instance (priority := 10) glo0 : D1 := ⟨λ_ => (0, 0)⟩
def gB:Nat:=1000000
def Ek [D1](g:Nat):Nat:=if g<gB then g else(D1.D2 g).1
def Ft [D1](g:Nat):Nat:=if g<gB then 0 else(D1.D2 g).2
def Kg [D1]{g:Nat}(h:Nat.blt g gB=true):Ek g=g:=n_ (by rw[Gf]at h;exact h)
def Kh [D1]{g:Nat}(h:Nat.blt g gB=true):Ft g=0:=n_ (by rw[Gf]at h;exact h)
abbrev _root_.TI:=Program
def CB{i6:Type}(P:TI):Sem i6->Option i6
 | .pure a=>some a
 | .program k=>CB P (k P)
 |_=>none
abbrev _root_.TS:=World
def gT{i6:Type}{P:TI}{s:Sem i6}{a:i6}(h:CB P s=some a)(w:TS):s.run P w = .ok a w:=by
 induction s with
 |pure b=>simp[CB]at h;subst h;rfl
 |program k c=>exact c P h
 |_=>simp[CB]at h
structure Fg where
 state:LoopState
 pending:Option Code
 fn:FuncId
 tmps:List Value
 params:List Tmp
 assign:Code
 body:Code
abbrev _root_.Tj:=List MapEntry
abbrev _root_.Tn:=List Value
inductive ra where
 |cells (vs:Tn) (p_:Nat) (rw:Bool)
 |map (es:Tj) (clock:Nat)
 |loop (l:Fg)
 |Lu (s:ByteArray) (pos:Nat)
 |dead
def ra.owned:ra->Bool
 | .cells _ _ rw=>rw
 | .dead=>false
 |_=>true
def ra.alive:ra->Bool
 | .dead=>false
 |_=>true
structure St where
 tmps:List Value
 loc:List (Option (Tn))
 heap:List ra
abbrev _root_.TQ:=FuncId
structure ke where
 P:Program
 G:Nat->Option (Tn)
 opq:TQ->Bool:=λ_=>false   -- functions into whose code nobody looks
 a_:TQ->List Nat        -- of each temporary that points into a local row: that row's number+2;1: into a known package-level variable;0: anything else
abbrev _root_.TK:=Operand
def h9(a:Tn):TK->Value
 | .tmp t=>a.getD t undef
 | .const v=>if flat v then v else vc
 | .global g=>if Nat.blt g gB then .pointer (some ⟨g,0,some 1⟩)else vc
 | .func f=>.func (.func f) #[] #[]
abbrev _root_.Tk:=Option Value
abbrev _root_.Tu:=List ra
inductive DM where
 |val (v:Value)
 |Fv (s:Nat) (vs:Tn)
 |G4 (s:Nat) (f:Tn->Tk)
 |Fw (s:Nat) (f:Tn->Option (Tn))
 |ET (f:Tu->Tk)
 |F2 (f:Tu->Option (List ra×Value))
 |call (f:TQ) (args:Tn)
 |yield (l:Nat) (args:Tn)
abbrev _root_.Tq:=Option Tmp
def St.put(g9:St)(dst:Tq)(v:Value):St:=
 match dst with
 |some d=>{ g9 with tmps:=g9.tmps.set d v }
 |none=>g9
def aW(g9:St):DM->Option (St×Value)
 | .val v=>some (g9,v)
 | .Fv s vs=>match g9.loc[s]? with
  |some none=>some ({ g9 with loc:=g9.loc.set s (some vs) },.pointer (some ⟨s,0,some 0⟩))
  |_=>none
 | .G4 s f=>match g9.loc[s]? with
  |some (some vs)=>(f vs).map λv=>(g9,v)
  |_=>none
 | .Fw s f=>match g9.loc[s]? with
  |some (some vs)=>(f vs).map λa=>({ g9 with loc:=g9.loc.set s (some a) },undef)
  |_=>none
 | .ET f=>(f g9.heap).map λv=>(g9,v)
 | .F2 f=>(f g9.heap).map λp=>({ g9 with heap:=p.1 },p.2)
 | .call .. => none
 | .yield .. => none
def cut(vs:Tn)(off n:Nat):Option (Tn):=
 if off+n<=vs.length then some ((vs.drop off).take n)else none
abbrev _root_.TP:=TypeId
def dx(P:TI)(t:TP)(vs:Tn)(off:Nat):Tk:=
 match P.underlying t with
 |some (.struct _)|some (.array _ _)=>(cut vs off (P.cellsOf t)).map λa=>.agg a.toArray
 |some _=>vs[off]?
 |none=>none
def q9(vs:Tn)(off:Nat)(new:Tn):Option (Tn):=
 if off+new.length<=vs.length then some (vs.take off++new++vs.drop (off+new.length))else none
def aD:Value->Bool
 | .tuple vs=>!jB (.tuple vs)
 |_=>false
def lN(i:TypeInfo):Tk:=
 match i.zero with
 |some z=>if z.cells.size=i.size/\flat z=true/\aD z=false then some z else none
 |none=>none
def eU(P:TI)(t:TP):Tk:=(P.info? t).bind lN
def bo:Value->Bool
 | .pointer (some a)=>a.spot != some 0
 | .slice (some a) _ _=>a.spot != some 0
 | .tuple vs=>jB (.tuple vs)
 | .agg _=>false
 | .iface _ _=>false
 | .func _ _ _=>false
 |_=>true
def bF:Value->Bool
 | .agg cs=>cs.toList.all bo
 | .func _ a b=>a.toList.all bo&&b.toList.all bo
 | .tuple vs=>vs.size==0||jB (.tuple vs)
 |v=>bo v
def aV:Value->Bool
 | .agg cs=>cs.toList.all bF
 | .func _ a b=>a.toList.all bF&&b.toList.all bF
 | .tuple vs=>vs.toList.all bF
 |v=>bF v
def l_:Value->Bool
 | .agg cs=>cs.toList.all aV
 | .func _ a b=>a.toList.all aV&&b.toList.all aV
 | .tuple vs=>vs.toList.all aV
 |v=>aV v
def aR:Value->Bool
 | .agg _=>false
 | .tuple vs=>jB (.tuple vs)
 |_=>true
def bg(v:Value):Bool:=l_ v&&aR v
def fi(P:TI)(t:TP)(v:Value)(vs:Tn)(off:Nat):Option (Tn):=
 if v.cells.size=P.cellsOf t/\(P.info? t).isSome then
  if v.cells.toList.all bg then q9 vs off v.cells.toList else none
 else none
abbrev _root_.Ts:=Option Nat
def le(p_:Nat):Ts:=some (p_+10)
def gc(H:Tu)(id:Nat):Option (Tn):=
 match H[id]? with
 |some (.cells a _ _)=>some a
 |_=>none
def dU(C:ke)(H:Tu)(p_:Nat):Value->Option (List Value×Nat)
 | .slice none 0 0=>some ([],0)
 | .slice (some a) len _=>
  if a.spot=some 1 then((C.G a.block).bind λvs=>cut vs a.off (len*p_)).map λx=>(x,len)
  else if a.spot=le p_ then
   match H[a.block]? with
   |some (.cells vs e _)=>if e=p_ then(cut vs a.off (len*p_)).map λx=>(x,len)else none
   |_=>none
  else none
 | .string s=>if p_=1 then some (s.data.toList.map λb=>.int .u8 b.toNat,s.size)else none
 |_=>none
def ba(need bytes:Nat):Bool:=Nat.ble need 140737488355328&&Nat.ble (need*bytes) 140737488355328
def gj(C:ke)(k:TP)(s x:Value)(H:Tu):Option (List ra×Value):=
 match C.P.underlying k with
 |some (.slice f)=>
  match C.P.info? f with
  |none=>none
  |some b=>
  if b.size=0 then none else
  if (lN b).isNone then none else
  match dU C H b.size x with
  |none=>none
  |some (d,n)=>
   match s with
   | .slice none 0 0=>
    if n=0 then some (H,.slice none 0 0)
    else if ba n b.bytes then some (H++[.cells d b.size true],.slice (some ⟨H.length,0,le b.size⟩) n 0)else none
   | .slice (some a) c j=>
    if a.spot≠le b.size then none else
    match H[a.block]? with
    |some (.cells i e rw)=>
     if e≠b.size then none else
     match cut i a.off (c*b.size)with
     |none=>none
     |some g=>
      match j with
      |0=>
       if n=0 then some (H,.slice (some a) c 0)
       else if rw&&ba (c+n) b.bytes then
        some (H.set a.block .dead++[.cells (g++d) b.size true],.slice (some ⟨H.length,0,le b.size⟩) (c+n) 0)
       else none
      |cap+1=>
       if c+n<=cap then
        if rw then(q9 i (a.off+c*b.size) d).map λh=>(H.set a.block (.cells h e true),.slice (some a) (c+n) (cap+1))
        else if n=0 then some (H,.slice (some a) c (cap+1))else none
       else if ba (c+n) b.bytes then
        some (H++[.cells (g++d) b.size true],.slice (some ⟨H.length,0,le b.size⟩) (c+n) 0)
       else none
    |_=>none
   |_=>none
 |_=>none
abbrev _root_.Tt:=Option Int
def iy:Tk->Option (Tt)
 |none=>some none
 |some (.int _ n)=>some (some n)
 |_=>none
def bL(cx l:Nat):Tt->Nat
 |none=>cx - l
 |some m=>m.toNat - l+1
def bT(len cx:Nat)(a:Tt):Tt->Prop
 |none=>a.getD len<=(len:Int)∨(0<cx/\a.getD len<(cx:Int))
 |some m=>a.isSome=true/\a.getD len<=m/\(m<=(len:Int)∨(0<cx/\m<(cx:Int)))
instance (len cx : Nat) (hi mx : Option Int) : Decidable (bT len cx hi mx) := by
 cases mx<;>(unfold bT;infer_instance)
def Ai(C:ke)(t:TP)(x:Value)(d e f:Tk):Tk:=
 match iy d,iy e,iy f with
 |some d,some e,some f=>
  match C.P.underlying t,x with
  |some (.slice b),.slice (some a) c g=>
   if C.P.cellsOf b=0 then none else
   if a.spot≠some 1/\a.spot≠le (C.P.cellsOf b)then none else
   if 0<=d.getD 0/\d.getD 0<=e.getD c/\bT c g e f then
    some (.slice (some { a with off:=a.off+(d.getD 0).toNat*C.P.cellsOf b }) ((e.getD c).toNat - (d.getD 0).toNat) (bL g (d.getD 0).toNat f))
   else none
  |_,_=>none
 |_,_,_=>none
def lI(C:ke)(t:TP)(a:Addr)(c b d:Tk)(H:Tu):Tk:=none
def intOf:Value->Option Int
 | .int _ n=>some n
 |_=>none
def gn(C:ke)(t:TP)(x:Value)(f:Nat):Tk:=
 match C.P.underlying t,x with
 |some (.struct c),.pointer (some a)=>
  match c[f]? with
  |some b=>if C.P.cellsOf b.type=0 then none else some (.pointer (some { a with off:=a.off+b.offset }))
  |none=>none
 |_,_=>none
def fm(C:ke)(t:TP)(x i:Value):Tk:=
 match intOf i with
 |none=>none
 |some i=>
  match C.P.underlying t,x with
  |some (.array c b),.pointer (some a)=>
   if C.P.cellsOf b=0 then none else
   if 0<=i/\i<(c:Int)then some (.pointer (some { a with off:=a.off+i.toNat*C.P.cellsOf b }))else none
  |some (.slice b),.slice (some a) c _=>
   if C.P.cellsOf b=0 then none else
   if 0<=i/\i<(c:Int)then some (.pointer (some ⟨a.block,a.off+i.toNat*C.P.cellsOf b,if a.spot=some 1 then some 1 else none⟩))else none
  |_,_=>none
def xI(C:ke)(t:TP)(cs:Tl)(off:Nat):Tk:=
 match C.P.underlying t with
 |some (.struct _)|some (.array _ _)=>some (.agg (cs.extract off (off+C.P.cellsOf t)))
 |some _=>cs[off]?
 |none=>none
def uT(C:ke)(t:TP)(x:Value)(f:Nat):Tk:=
 match C.P.underlying t,x with
 |some (.struct c),.agg b=>(c[f]?).bind λa=>xI C a.type b a.offset
 |_,_=>none
def mZ(C:ke)(t:TP)(x i:Value):Tk:=
 match intOf i with
 |none=>none
 |some i=>
  match C.P.underlying t,x with
  |some (.array c a),.agg d=>if 0<=i/\i<(c:Int)then xI C a d (i.toNat*C.P.cellsOf a)else none
  |some .string,.string s=>if 0<=i then(s[i.toNat]?).map λb=>.int .u8 b.toNat else none
  |_,_=>none
def ox(P:TI)(t:TP):Option (Nat->Option (Nat×Nat)):=
 match P.underlying t with
 |some (.struct a)=>
  if a.all λf=>(P.info? f.type).isSome then some λi=>(a[i]?).map λf=>(f.offset,P.cellsOf f.type)else none
 |some (.array _ e)=>if (P.info? e).isSome then some λi=>some (i*P.cellsOf e,P.cellsOf e)else none
 |_=>none
def ux(C:ke)(t:TP)(a:List (Nat×Value)):Tk:=
 match eU C.P t,ox C.P t with
 |some z,some pl=>(Instr.fill pl z.cells a).map .agg
 |_,_=>none
def aN(z:Tn)(n:Nat):Tn:=(replicate n z).flatten
def fz(C:ke)(t:TP)(len:Nat)(b:List (Nat×Value)):Option (Nat×List Value):=
 match C.P.underlying t with
 |some (.slice e)=>
  match C.P.info? e with
  |some a=>
   if a.size=0 then none else
   if len*a.size > 16777216 then none else
   match lN a with
   |some z=>
    (Instr.fill (λi=>some (i*a.size,a.size)) (aN z.cells.toList len).toArray b).map λc=>(a.size,c.toList)
   |none=>none
  |none=>none
 |_=>none
def dz(C:ke)(t:TP)(len cap:Value)(H:Tu):Option (List ra×Value):=
 match intOf len,intOf cap,C.P.underlying t with
 |some l,some c,some (.slice e)=>
  match C.P.info? e with
  |some a=>
   if a.size=0 then none else
   match lN a with
   |some z=>
    if 0<=l/\l<=c/\c<=1048576/\a.bytes<=4096 then
     some (H++[.cells (aN z.cells.toList c.toNat) a.size true],.slice (some ⟨H.length,0,le a.size⟩) l.toNat (c.toNat+1))
    else none
   |none=>none
  |none=>none
 |_,_,_=>none
def bc:Value->Option Bool
 | .slice none 0 0=>some true
 | .slice (some _) _ _=>some false
 | .map none=>some true
 | .map (some _)=>some false
 | .nilFunc=>some true
 | .func .. => some false
 | .pointer none=>some true
 | .pointer (some _)=>some false
 |_=>none
def bB(e:MapEntry):MapEntry:={ key:=e.key,val:=undef,born:=0 }
def sQ(P:TI)(kt:TP)(k:Value)(a:Tj):Option (Ts):=
 (CB P (Instr.findKey kt k (a.map bB))).map λr=>r.map (·.1)
def jC(P:TI)(kt:TP)(k:Value):Bool:=
 gk k&&(CB P (Instr.checkKey true 10000 kt k)).isSome&&(CB P (Instr.checkKey false 10000 kt k)).isSome&&(CB P (Op.equal kt k k)).any id
def ed(a:Tj)(i:Nat):Tk:=(a[i]?).map (·.val)
def Dq(H:Tu)(id:Nat):Option (List MapEntry×Nat):=
 match H[id]? with
 |some (.map a c)=>some (a,c)
 |_=>none
def dK(C:ke)(t:TP)(m k:Value)(ok:Bool)(H:Tu):Tk:=
 match C.P.underlying t with
 |some (.map b c)=>
  if !jC C.P b k then none else
  match eU C.P c with
  |none=>none
  |some z=>
   match m with
   | .map none=>some (if ok then .tuple #[z,.bool false]else z)
   | .map (some id)=>
    match Dq H id with
    |none=>none
    |some (a,_)=>
     match sQ C.P b k a with
     |none=>none
     |some none=>some (if ok then .tuple #[z,.bool false]else z)
     |some (some i)=>(ed a i).map λv=>if ok then .tuple #[v,.bool true]else v
   |_=>none
 |_=>none
def cG(C:ke)(t:TP)(m k v:Value)(H:Tu):Option (List ra×Value):=
 match C.P.underlying t,m with
 |some (.map b _),.map (some id)=>
  if !(jC C.P b k&&l_ v && !aD v)then none else
  match Dq H id with
  |none=>none
  |some (a,c)=>
   match sQ C.P b k a with
   |none=>none
   |some none=>some (H.set id (.map (a++[{ key:=k,val:=v,born:=c }]) (c+1)),undef)
   |some (some i)=>
    if (a[i]?).all (λe=>Instr.sameBits 10000 e.key k)then some (H.set id (.map (a.modify i λe=>{ e with key:=k,val:=v }) c),undef)else none
 |_,_=>none
def iQ(C:ke)(t:TP)(m k:Value)(H:Tu):Option (List ra×Value):=none
def fE(m st v:Value)(H:Tu):Option (List ra×Value):=none
def oR(C:ke)(t:TP)(m k:Value)(H:Tu):Option (List ra×Value):=none
abbrev _root_.TC:=List Nat
def nB(a_:TC):TK->Nat
 | .tmp t=>a_.getD t 0
 | .global _=>1
 |_=>0
def iP:Value->Option (Nat×Nat)
 | .pointer (some a)=>if a.spot.isNone then some (a.block,a.off)else none
 |_=>none
def gN:Value->Option (Nat×Nat)
 | .pointer (some a)=>if a.spot=some 1 then some (a.block,a.off)else none
 |_=>none
def jI(s:Nat):Value->Option Nat
 | .pointer (some a)=>if a.spot=some 0/\a.block=s then some a.off else none
 |_=>none
def dV(C:ke)(a_:TC)(t:TP)(a:TK)(v:Value):Option DM:=
 match nB a_ a with
 |0=>match iP v with
  |some p=>some (.ET λH=>(gc H p.1).bind λb=>dx C.P t b p.2)
  |none=>(gN v).map λp=>.ET λ_=>(C.G p.1).bind λb=>dx C.P t b p.2
 |1=>(gN v).bind λp=>((C.G p.1).bind λb=>dx C.P t b p.2).map .val
 |s+2=>(jI s v).map λc=>.G4 s λb=>dx C.P t b c
def jU(C:ke)(t:TP)(id off:Nat)(x:Value)(H:Tu):Option (List ra×Value):=
 match H[id]? with
 |some (.cells b e true)=>(fi C.P t x b off).map λa=>(H.set id (.cells a e true),undef)
 |_=>none
def fg(C:ke)(a_:TC)(t:TP)(a:TK)(v x:Value):Option DM:=
 if aD x then none else
 match nB a_ a with
 |0=>(iP v).map λp=>.F2 (jU C t p.1 p.2 x)
 |1=>none
 |s+2=>(jI s v).map λb=>.Fw s λc=>fi C.P t x c b
def mG(P:TI)(t:TP):Nat:=
 match P.underlying t with
 |some (.array _ e)=>P.cellsOf e
 |_=>P.cellsOf t
def cH(C:ke)(a_:TC)(dst:Tq)(t:TP)(v:Value):Option DM:=
 if aD v then none else
 match dst with
 |none=>none
 |some d=>
  if !(v.cells.toList.all bg)then none
  else if a_.getD d 0=d+2 then some (.Fv d v.cells.toList)
  else
   some (.F2 λH=>some (H++[.cells v.cells.toList (mG C.P t) true],.pointer (some ⟨H.length,0,none⟩)))
abbrev _root_.Tg:=Operand->Value
def cI(C:ke)(a:Tg)(o:Oper):Option DM:=
 if o.op.operands.toList.all (λx=>flat (a x))then
  match CB C.P (execOp a o)with
  |some (.value v)=>if flat v then some (.val v)else none
  |_=>none
 else none
def pQ(a:Tk)(b:Option DM):Option DM:=
 match a with
 |some v=>some (.val v)
 |none=>b
def mf(x y:Value):Option Bool:=
 match bc x,bc y with
 |some true,some b=>some b
 |some b,some true=>some b
 |_,_=>none
def dw:Value->Nat
 | .slice .. => 1
 | .map _=>2
 | .nilFunc=>3
 | .func .. => 3
 | .pointer _=>4
 |_=>0
def mg:TypeDesc->Nat
 | .slice _=>1
 | .map _ _=>2
 | .func .. => 3
 | .pointer _=>4
 |_=>100
def tD(P:TI)(t:TP)(x y:Value):Bool:=
 match P.underlying t with
 |some d=>mg d==dw x&&mg d==dw y
 |none=>false
def HD(C:ke)(t:TP)(d x:Value)(H:Tu):Option (List ra×Value):=none
def uD(C:ke)(t:TP)(x:Value)(H:Tu):Option (List ra×Value):=none
def aX(C:ke)(a:Tg)(b:Builtin)(args:Tn)(argTypes:Array TypeId)(o:Oper):Option DM:=
 match b,args,argTypes[0]? with
 | .append,[s,x],some t=>if argTypes[1]?.any (λu=>(C.P.underlying u) matches some (.int _)|none)||argTypes[1]?.isNone then none else some (.F2 (gj C t s x))
 | .len,[x],some t=>
  match C.P.underlying t,x with
  |some (.slice _),.slice _ n _=>some (.val (.int .i64 n))
  |some (.map _ _),.map (some id)=>some (.ET λH=>(Dq H id).map λp=>.int .i64 p.1.length)
  |some (.array n _),_=>some (.val (.int .i64 n))
  |_,_=>cI C a o
 | .cap,[x],some t=>
  match C.P.underlying t,x with
  |some (.slice _),.slice (some _) _ (n+1)=>some (.val (.int .i64 n))
  |some (.slice _),.slice none 0 0=>some (.val (.int .i64 0))
  |some (.array n _),_=>some (.val (.int .i64 n))
  |_,_=>none
 | .copy,[d,x],some t=>some (.F2 (HD C t d x))
 | .delete,[m,k],some t=>some (.F2 (oR C t m k))
 | .clear,[x],some t=>some (.F2 (uD C t x))
 |_,_,_=>cI C a o
def gJ(C:ke)(e:Tg)(c:Call)(o:Oper):Option DM:=
 let a:=c.args.toList.map e
 match c.callee with
 | .builtin b=>aX C e b a c.argTypes o
 | .invoke _ _=>none
 | .value f=>
  if !(a.all l_)then none else
  match e f with
  | .func (.func g) first d=>if l_ (.func (.func g) first d)then some (.call g (first.toList++a++d.toList))else none
  | .func (.yield l) first d=>if first.size=0/\d.size=0 then some (.yield l a)else none
  |_=>none
def py(C:ke)(t:TP):Tk->Bool
 |none=>true
 |some v=>(intOf v).isSome&&((C.P.underlying t) matches some (.map _ _))
def ar(C:ke)(a_:TC)(d:Tg)(o:Oper):Option DM:=
 match o.op with
 | .move x=>some (.val (d x))
 | .assign x=>some (.val (d x))
 | .pick c a b=>match d c with
  | .bool q=>some (.val (if q then d a else d b))
  |_=>none
 | .alloc t=>(eU C.P t).bind λz=>cH C a_ o.dst t z
 | .box t x=>cH C a_ o.dst t (d x)
 | .build t e=>if e.toList.all (λp=>!aD (d p.2))then(ux C t (e.toList.map λp=>(p.1,d p.2))).map .val else none
 | .buildSlice t n e=>
  if (e.toList.all λp=>(d p.2).cells.toList.all bg)then
   (fz C t n (e.toList.map λp=>(p.1,d p.2))).map λr=>
    .F2 λH=>some (H++[.cells r.2 r.1 true],.slice (some ⟨H.length,0,le r.1⟩) n (n+1))
  else none
 | .load t a=>dV C a_ t a (d a)
 | .store t a x=>fg C a_ t a (d a) (d x)
 | .nilCheck x=>match d x with
  | .pointer (some a)=>some (.val (.pointer (some a)))
  | .func (.func f) a b=>some (.val (.func (.func f) a b))
  | .func (.yield f) a b=>some (.val (.func (.yield f) a b))
  |_=>none
 | .binOp B t x y _=>
  match B with
  | .eql=>match mf (d x) (d y)with
   |some b=>if tD C.P t (d x) (d y)then some (.val (.bool b))else none
   |none=>cI C d o
  | .neq=>match mf (d x) (d y)with
   |some b=>if tD C.P t (d x) (d y)then some (.val (.bool !b))else none
   |none=>cI C d o
  |_=>cI C d o
 | .makeFunc fn first g=>match fn with
  | .yield _=>none
  |fn=>some (.val (.func fn (first.map d) (g.map d)))
 | .makeMap t r=>
  if py C t (r.map d)then
   some (.F2 λH=>some (H++[.map [] 0],.map (some H.length)))
  else none
 | .makeSlice t l c=>some (.F2 (dz C t (d l) (d c)))
 | .slice t x j h u=>
  match d x with
  | .pointer (some a)=>
   if a.spot=some 1 then(lI C t a (j.map d) (h.map d) (u.map d) []).map .val
   else some (.ET (lI C t a (j.map d) (h.map d) (u.map d)))
  |x=>pQ (Ai C t x (j.map d) (h.map d) (u.map d)) (cI C d o)
 | .fieldAddr t x f=>(gn C t (d x) f).map .val
 | .indexAddr t x i=>(fm C t (d x) (d i)).map .val
 | .field t x f=>(uT C t (d x) f).map .val
 | .index t x i=>(mZ C t (d x) (d i)).map .val
 | .lookup t m k w=>match d m with
  | .map none=>(dK C t (.map none) (d k) w []).map .val
  |m=>some (.ET (dK C t m (d k) w))
 | .mapUpdate t m k v=>some (.F2 (cG C t (d m) (d k) (d v)))
 | .insert t m k v=>some (.F2 (cG C t (d m) (d k) (d v)))
 | .mapEntry t m k=>some (.F2 (iQ C t (d m) (d k)))
 | .entryStore _ m s v=>some (.F2 (fE (d m) (d s) (d v)))
 | .extract t i=>match d t with
  | .tuple A=>if A.size<=1 then none else(A[i]?).map .val
  |_=>none
 | .call c=>gJ C d c o
 | .unOp .. => cI C d o
 | .convert .. => cI C d o
 |_=>none
def cL{i6:Type}{f:i6->Bool}{l:List i6}(h:l.all f=true){i:Nat}{x:i6}(a:l[i]?=some x):f x=true:=
 A5.1 h x (Cb a)
def eO{c:TR}(h:aR c=true):c.cells = #[c]:=by
 cases c<;>first|rfl|(simp[aR]at h)
section
variable [Cf]
def F0:Value->Value
 | .tuple vs=>match vs.toList with
  | [.agg cs]=>match ug cs with
   |some k=>.int k (Cf.num cs)
   |none=>.tuple vs
  |_=>.tuple vs
 |v=>v
def FS:Value->Value
 | .agg cs=>.agg (cs.map F0)
 |v=>F0 v
def jL(v:Value):Bool:=scalar v||jB v
def plain:Value->Bool
 | .agg cs=>cs.toList.all jL
 |v=>jL v
def Pv:Op->Bool
 | .select .. => true
 | .defer _=>true
 |_=>false
def nu(C:ke)(a:Tn)(o:Oper)(v:Value):Prop:=
 Pv o.op=false/\o.op.operands.toList.all (λx=>plain (h9 a x))=true/\plain v=true/\
  ∀w,(execOp (λx=>FS (h9 a x)) o).run C.P w = .ok (.value (FS v)) w
def gi(g9 a:St):Prop:=
 a.loc=g9.loc/\a.heap=g9.heap/\a.tmps.length=g9.tmps.length/\
  ∀(i:Nat) x y,g9.tmps[i]?=some x->a.tmps[i]?=some y->y=x∨(plain x=true/\plain y=true/\FS x=FS y)
abbrev _root_.To:=Array Oper
def cv(ops:To)(a:Tn)(o:Oper):Option Bool:=
 match o.guard with
 |none=>some true
 |some (j,c)=>
  match ((ops[j]?).bind (·.dst)).bind (a[·]?)with
  |some (.bool b)=>some (b==c)
  |some (.tuple d)=>if d.size=1 then none else some false
  |_=>some false
structure Below where
 call:TQ->Tn->Tu->Value->Tu->Prop
 yield:Nat->Tn->Tu->Value->Tu->Prop
def mV(B:Below)(e:DM)(dst:Tq)(g9 a:St):Prop:=
 match e with
 | .call f args=>∃r H,B.call f args g9.heap r H/\a=({ g9 with heap:=H }:St).put dst r
 | .yield l args=>∃r H,B.yield l args g9.heap r H/\a=({ g9 with heap:=H }:St).put dst r
 |e=>∃p,aW g9 e=some p/\a=p.1.put dst p.2
def ao(C:ke)(B:Below)(a_:TC)(ops:To)(i:Nat)(g9 a:St):Prop:=
 match ops[i]? with
 |none=>a=g9
 |some o=>
  match cv ops g9.tmps o with
  |none=>False
  |some false=>a=g9.put o.dst undef
  |some true=>(∃e,ar C a_ (h9 g9.tmps) o=some e/\mV B e o.dst g9 a)∨(∃v,nu C g9.tmps o v/\a=g9.put o.dst v)
def bp(C:ke)(B:Below)(a_:TC)(ops:To):TC->St->St->Prop
 | [],g9,a=>a=g9
 |i :: l,g9,a=>∃i9,ao C B a_ ops i g9 i9/\bp C B a_ ops l i9 a
def fM(C:ke)(B:Below)(a_:TC)(ops:To):TC->St->St->Prop
 | [],g9,a=>a=g9
 |i :: l,g9,a=>∃b i9,gi g9 b/\ao C B a_ ops i b i9/\fM C B a_ ops l i9 a
inductive Dm:(Nat->Value)->Prop
 |ptr:Dm λn=>.pointer (some ⟨n,0,none⟩)
 |slice (e l c:Nat):Dm λn=>.slice (some ⟨n,0,le e⟩) l c
 |map:Dm λn=>.map (some n)
def dY(C:ke)(B:Below)(a_:TC)(ops:To)(c:Nat->Ts)(i:Nat)(g9 b:St):Prop:=
 match c i with
 |none=>ao C B a_ ops i g9 b
 |some k=>∃o f a x mk,ops[i]?=some o/\cv ops g9.tmps o=some true/\ar C a_ (h9 g9.tmps) o=some (.F2 f)/\f g9.heap=some (a++[x],mk g9.heap.length)/\
   a.length=g9.heap.length/\a[k]?=some .dead/\Dm mk/\b=({ g9 with heap:=a.set k x }:St).put o.dst (mk k)
def jt(C:ke)(B:Below)(a_:TC)(ops:To)(b:Nat->Ts):TC->St->St->Prop
 | [],g9,a=>a=g9
 |i :: l,g9,a=>i∉l/\∃i9,dY C B a_ ops b i g9 i9/\jt C B a_ ops b l i9 a
def St.pad(g9:St)(n:Nat):St:={ g9 with heap:=g9.heap++replicate n .dead }
def dv(a_:TC)(o:Oper):Bool:=
 match o.op with
 | .buildSlice _ _ _ | .makeMap _ _ | .makeSlice _ _ _=>true
 | .alloc _ | .box _ _=>match o.dst with
  |some d=>!Nat.beq (a_.getD d 0) (d+2)
  |none=>false
 | .call c=>match c.callee with
  | .builtin .append=>true
  |_=>false
 |_=>false
def eo(C:ke)(B:Below)(a_:TC)(ops:To)(g9 b:St):Prop:=
 (∀t,bp C B a_ ops (Region.linearise .any ops t) g9 b)∨
 ∃a n,ops.toList.any (dv a_)=true/\(∀i k,a i=some k->g9.heap.length<=k/\k<g9.heap.length+n)/\(∀i j k,a i=some k->a j=some k->i=j)/\
  ∀t,jt C B a_ ops a (Region.linearise .any ops t) (g9.pad n) b
def aQ(a_:TC):Code->List Nat
 | .region _ ops _=>ops.toList.filterMap λo=>
  match o.op,o.dst with
  | .box ..,some d=>if a_.getD d 0=d+2 then some d else none
  | .alloc _,some d=>if a_.getD d 0=d+2 then some d else none
  |_,_=>none
 | .seq a b=>aQ a_ a++aQ a_ b
 | .cond _ a b=>aQ a_ a++aQ a_ b
 | .block _ b=>aQ a_ b
 | .loop b=>aQ a_ b
 | .rangeFunc _ _ a b=>aQ a_ a++aQ a_ b
 | .scope b=>aQ a_ b
 |_=>[]
def jG(b:TC)(v:Value):Value:=
 match v with
 | .pointer (some a)=>if a.spot=some 0&&b.contains a.block then vc else v
 |v=>if l_ v then v else vc
def iE(a:TC):List (Option (Tn))->Nat->List (Option (Tn))
 | [],_=>[]
 |x :: l,i=>(if a.contains i then none else x) :: iE a l (i+1)
def St.clear(g9:St)(a:TC):St:=
 if a=[]then g9 else { g9 with tmps:=g9.tmps.map (jG a),loc:=iE a g9.loc 0 }
def yu(a tm:Tn):Prop:=tm.length=a.length/\∀(i:Nat) x,tm[i]?=some x->x=vc∨(a[i]?=some x/\l_ x=true)
def cQ:List Tmp->Tn->Tn->List Value
 |t :: b,v :: vs,a=>cQ b vs (a.set t v)
 |_,_,a=>a
def eH(H:Tu)(l:Nat):Option Fg:=
 match H[l]? with
 |some (.loop r)=>some r
 |_=>none
abbrev _root_.Tm:=Option Code
def IY:Exit->Option (Tm)
 | .normal=>some none
 | .ret=>some (some .ret)
 | .exit id=>some (some (.exit id))
 |_=>none
def yP:Tm->Option Exit
 |none=>some .normal
 |some .ret=>some .ret
 |some (.exit id)=>some (.exit id)
 |_=>none
def fQ(C:ke)(g9:St):ResultVar->Option Value
 | .tmp t=>some (g9.tmps.getD t undef)
 | .cell a t=>
  match g9.tmps.getD a undef with
  | .pointer (some p)=>
   match p.spot with
   |none=>(gc g9.heap p.block).bind λvs=>dx C.P t vs p.off
   |some 0=>match g9.loc[p.block]? with
    |some (some vs)=>dx C.P t vs p.off
    |_=>none
   |_=>none
  |_=>none
def dc(C:ke)(g9:St):List ResultVar->Option (Tn)
 | []=>some []
 |r :: a=>match fQ C g9 r,dc C g9 a with
  |some v,some vs=>some (v :: vs)
  |_,_=>none
def gl:Tn->Value
 | [v]=>v
 |vs=>.tuple vs.toArray
def mW(a:Func)(args:Tn)(H:Tu):St:=
 { tmps:=args++replicate (a.ntmps - args.length) undef,loc:=replicate a.ntmps none,heap:=H }
structure E9 extends Below where
 ex:TC->Code->St->Exit->St->Prop
def jS(id:Nat):Exit->Exit
 | .exit i=>if i=id then .normal else .exit i
 |e=>e
def pe(C:ke)(S:E9)(h:TC):Code->St->Exit->St->Prop
 | .skip,g9,e,d=>e = .normal/\d=g9
 | .label _,g9,e,d=>e = .normal/\d=g9
 | .ret,g9,e,d=>e = .ret/\d=g9
 | .exit id,g9,e,d=>e = .exit id/\d=g9
 | .goto _,_,_,_=>False
 | .refuse _,_,_,_=>False
 | .seq a b,g9,e,d=>∃i i9,S.ex h a g9 i i9/\((i = .normal/\S.ex h b i9 e d)∨(i≠.normal/\e=i/\d=i9))
 | .cond c a b,g9,e,d=>∃t,h9 g9.tmps c = .bool t/\S.ex h (if t then a else b) g9 e d
 | .block id b,g9,e,d=>∃i,S.ex h b g9 i d/\e=jS id i
 | .loop b,g9,e,d=>∃i i9,S.ex h b (g9.clear (aQ h b)) i i9/\((i = .normal/\S.ex h (.loop b) i9 e d)∨(i≠.normal/\e=i/\d=i9))
 | .scope b,g9,e,d=>S.ex h b g9 e d
 | .region _ ops j,g9,e,d=>e = .normal/\(if j then ∃l,gi g9 l/\eo C S.toBelow h ops l d else fM C S.toBelow h ops (List.range ops.size) g9 d)
 | .rangeFunc f params assign body,g9,e,d=>
  h≠[]/\∃g first cap x7 tm r H k,yu g9.tmps tm/\
   h9 g9.tmps f = .func (.func g) first cap/\l_ (.func (.func g) first cap)=true/\
   S.call g (first.toList++[.func (.yield g9.heap.length) #[] #[]]++cap.toList)
    (g9.heap++[.loop { state:=.ready,pending:=none,fn:=x7,tmps:=tm,params:=params.toList,assign,body }]) r H/\
   eH H g9.heap.length=some k/\k.state≠.busy/\yP k.pending=some e/\
   d = { g9 with heap:=H.set g9.heap.length (.loop { k with state:=.exhausted }) }
def nN(C:ke)(S:E9)(f:TQ)(args:Tn)(H:Tu)(r:Value)(H':Tu):Prop:=
 ∃a b e g9 vs,C.P.funcs[f]?=some a/\a.body=some b/\((a.name == "runtime.NumGoroutine")||C.opq f)=false/\
  S.ex (C.a_ f) b (mW a args H) e g9/\(e = .normal∨e = .ret)/\dc C g9 a.results.toList=some vs/\
  r=gl vs/\l_ r=true/\H'=g9.heap
def lM(f:ke)(S:E9)(l:Nat)(args:Tn)(H:Tu)(r:Value)(H':Tu):Prop:=
 ∃a i9 c e b d j,eH H l=some a/\args.length=a.params.length/\
  S.ex [] a.assign { tmps:=cQ a.params args a.tmps,loc:=[],heap:=H } .normal i9/\
  eH i9.heap l=some c/\c.state = .ready/\
  S.ex [] a.body { i9 with heap:=i9.heap.set l (.loop { c with state:=.busy }) } e b/\IY e=some j/\
  eH b.heap l=some d/\r = .bool j.isNone/\
  H'=b.heap.set l (.loop { d with state:=if j.isNone then .ready else .done,pending:=j })
abbrev NS:=FuncId->Tn->Tu->Value->Tu->Prop
def Nd(C:ke)(K:NS):Nat->E9
 |0=>{ call:=K,yield:=λ_ _ _ _ _=>False,ex:=λ_ _ _ _ _=>False }
 |n+1=>{ call:=λf args H r H'=>K f args H r H'∨nN C (Nd C K n) f args H r H',yield:=lM C (Nd C K n),ex:=pe C (Nd C K n) }
end
structure Pl where
 b:Nat
 o:Nat
 room:Nat
 p_:Nat
abbrev o_:=Nat->Option Nat
abbrev jn:=Nat->Option Pl
def Cu:o_:=λ_=>none
section
variable [Cf] [D1]
abbrev _root_.TL:=IntKind
inductive VR(la:o_)(mu:jn):Value->Value->Prop
 |vc (c:Value):VR la mu (.tuple #[.tuple #[]]) c
 |Nr {cs:Tl} {k:TL} (h:ug cs=some k):VR la mu (.tuple #[.agg cs]) (.int k (Cf.num cs))
 |scalar {v:Value} (h:scalar v=true):VR la mu v v
 |agg {a c:Tl} (hs:a.size=c.size) (h:∀(i:Nat) (x y:Value),a[i]?=some x->c[i]?=some y->VR la mu x y):VR la mu (.agg a) (.agg c)
 |tuple {a c:Tl} (hn:a.size≠1) (hs:a.size=c.size) (h:∀(i:Nat) (x y:Value),a[i]?=some x->c[i]?=some y->VR la mu x y):VR la mu (.tuple a) (.tuple c)
 |func {fn:Fn} {a b a' b':Tl} (hf:∀l,fn≠.yield l) (ha:a.size=a'.size) (hb:b.size=b'.size)
   (u5:∀(i:Nat) (x y:Value),a[i]?=some x->a'[i]?=some y->VR la mu x y) (y8:∀(i:Nat) (x y:Value),b[i]?=some x->b'[i]?=some y->VR la mu x y) :
   VR la mu (.func fn a b) (.func fn a' b')
 |yield {l:Nat} {p:Pl} (h:mu l=some p):VR la mu (.func (.yield l) #[] #[]) (.func (.yield p.b) #[] #[])
 |En {s off b:Nat} (h:la s=some b):VR la mu (.pointer (some ⟨s,off,some 0⟩)) (.pointer (some ⟨b,off,none⟩))
 |DG {id off:Nat} {p:Pl} (h:mu id=some p):VR la mu (.pointer (some ⟨id,off,none⟩)) (.pointer (some ⟨p.b,p.o+off,none⟩))
 |DQ {g off:Nat}:VR la mu (.pointer (some ⟨g,off,some 1⟩)) (.pointer (some ⟨Ek g,Ft g+off,none⟩))
 |x9 {id off len cap cx:Nat} {p:Pl} (h:mu id=some p) (hr:off+cap*p.p_<=p.room) (hl:len<=cap) (hx:cx=0∨cx=cap+1) :
   VR la mu (.slice (some ⟨id,off,le p.p_⟩) len cx) (.slice (some ⟨p.b,p.o+off,none⟩) len cap)
 |wb {id off cx p_:Nat} {a:Addr} (hx:cx<=1):VR la mu (.slice (some ⟨id,off,le p_⟩) 0 cx) (.slice (some a) 0 0)
 |CA {g off len cap cx:Nat} (hl:len<=cap) (hx:cx=0∨cx=cap+1):VR la mu (.slice (some ⟨g,off,some 1⟩) len cx) (.slice (some ⟨Ek g,Ft g+off,none⟩) len cap)
 |y_ {g off cx:Nat} {a:Addr} (hx:cx<=1):VR la mu (.slice (some ⟨g,off,some 1⟩) 0 cx) (.slice (some a) 0 0)
 |map {id:Nat} {p:Pl} (h:mu id=some p):VR la mu (.map (some id)) (.map (some p.b))
def VR.mono{la f:o_}{mu g:jn}{a c:TR}(h:VR la mu a c)(t:∀s b,la s=some b->f s=some b)(j:∀i p,mu i=some p->g i=some p) :
  VR f g a c:=by
 induction h with
 |vc c=>exact .vc c
 |Nr h=>exact .Nr h
 |scalar h=>exact .scalar h
 |agg k _ l=>exact .agg k l
 |tuple u k _ l=>exact .tuple u k l
 |func r o q _ _ m n=>exact .func r o q m n
 |yield h=>exact .yield (j _ _ h)
 |En h=>exact .En (t _ _ h)
 |DG h=>exact .DG (j _ _ h)
 |DQ=>exact .DQ
 |x9 h v d e=>exact .x9 (j _ _ h) v d e
 |wb e=>exact .wb e
 |CA d e=>exact .CA d e
 |y_ e=>exact .y_ e
 |map h=>exact .map (j _ _ h)
def VR.up{la:o_}{mu:jn}{a c:TR}(h:VR Cu mu a c):VR la mu a c:=
 h.mono (λ_ _ h=>by cases h) (λ_ _ h=>h)
def VR.undef{la:o_}{mu:jn}:VR la mu undef undef:=.tuple (by simp) rfl λi x y h=>by simp at h
def cJ{la:o_}{mu:jn}{a c:TR}(b:scalar a=true)(h:VR la mu a c):c=a:=by
 cases h<;>first|rfl|(simp[Am.scalar]at b)
def nY{la:o_}{mu:jn}{a c:TR}(b:gk a=true)(h:VR la mu a c):c=a:=by
 cases a with
 |agg f=>
  cases h with
  |scalar _=>rfl
  |agg d h=>
   rename_i g
   simp only[gk]at b
   congr 1
   apply Array.ext d.symm;intro i j e;exact cJ (cL (i:=i) b (by simp[e])) (h i f[i] g[i] (by simp[e]) (by simp[j]))
 |_=>exact cJ b h
def sS{la:o_}{mu:jn}{a c:TR}(b:flat a=true)(h:VR la mu a c):c=a:=by
 cases a with
 |tuple f=>
  cases h with
  |vc c=>simp[flat,gk,Am.scalar]at b
  |Nr _=>simp[flat]at b
  |scalar _=>rfl
  |tuple k d h=>
   rename_i g
   simp only[flat,te]at b
   replace b:=b.2
   congr 1
   apply Array.ext d.symm;intro i j e;exact nY (cL (i:=i) b (by simp[e])) (h i f[i] g[i] (by simp[e]) (by simp[j]))
 |_=>exact nY b h
def VR.HV{la:o_}{mu:jn}{v:TR}(h:gk v=true):VR la mu v v:=by
 cases v with
 |agg c=>
  refine .agg rfl λi x y a b=>?_;obtain rfl:x=y:=by rw[a]at b;exact DU b
  exact .scalar (cL (i:=i) (l:=c.toList) h (by simpa using a))
 |_=>exact .scalar h
def VR.of_flat{la:o_}{mu:jn}{v:TR}(h:flat v=true):VR la mu v v:=by
 cases v with
 |tuple c=>
  simp only[flat,te,bne_iff_ne]at h;refine .tuple h.1 rfl λi x y a b=>?_;obtain rfl:x=y:=by rw[a]at b;exact DU b
  exact .HV (cL (i:=i) (l:=c.toList) h.2 (by simpa using a))
 |_=>exact .HV h
def fK{la:o_}{mu:jn}{a c:TR}(e:bo a=true)(h:VR la mu a c):VR Cu mu a c:=by
 cases h with
 |vc c=>simp[bo,jB]at e
 |Nr h=>exact .Nr h
 |scalar h=>exact .scalar h
 |agg _ _=>simp[bo]at e
 |tuple f _ _=>exact absurd (gr e) f
 |func _ _ _ _ _=>simp[bo]at e
 |yield h=>simp[bo]at e
 |En h=>simp[bo]at e
 |DG h=>exact .DG h
 |DQ=>exact .DQ
 |x9 h g b d=>exact .x9 h g b d
 |wb d=>exact .wb d
 |CA b d=>exact .CA b d
 |y_ d=>exact .y_ d
 |map h=>exact .map h
def oV{f g:TR->Bool}{la:o_}{mu:jn}
  (n:∀a c,f a=true->VR la mu a c->VR Cu mu a c)
  (m:∀cs,g (.agg cs)=cs.toList.all f) (o:∀q a b,g (.func q a b)=(a.toList.all f&&b.toList.all f))
  (p:∀vs,g (.tuple vs)=true->vs.toList.all f=true∨jB (.tuple vs)=true)
  (r:∀v,(∀cs,v≠.agg cs)->(∀q a b,v≠.func q a b)->(∀vs,v≠.tuple vs)->g v=f v)
  {a c:TR} (e:g a=true) (h:VR la mu a c):VR Cu mu a c:=by
 cases h with
 |vc c=>exact .vc c
 |Nr h=>exact .Nr h
 |scalar h=>exact .scalar h
 |agg k h=>
  rw[m]at e;exact .agg k λi x y d l=>n _ _ (cL (i:=i) e (by simpa using d)) (h i x y d l)
 |tuple s k h=>
  have:=(p _ e).resolve_right λB=>s (gr B);exact .tuple s k λi x y d l=>n _ _ (cL (i:=i) this (by simpa using d)) (h i x y d l)
 |func t z A u w=>
  rw[o,te]at e;exact .func t z A (λi x y d l=>n _ _ (cL (i:=i) e.1 (by simpa using d)) (u i x y d l))
   (λi x y d l=>n _ _ (cL (i:=i) e.2 (by simpa using d)) (w i x y d l))
 |yield h=>exact .yield h
 |En h=>
  rw[r _ (by simp) (by simp) (by simp)]at e;exact n _ _ e (.En h)
 |DG h=>exact .DG h
 |DQ=>exact .DQ
 |x9 h C j d=>exact .x9 h C j d
 |wb d=>exact .wb d
 |CA j d=>exact .CA j d
 |y_ d=>exact .y_ d
 |map h=>exact .map h
def xz{la:o_}{mu:jn}{a c:TR}(k:bF a=true)(h:VR la mu a c):VR Cu mu a c:=
 oV (f:=bo) (g:=bF) (λ_ _=>fK) (λ_=>rfl) (λ_ _ _=>rfl)
  (λd h=>by
   have b:(d.size==0||jB (.tuple d))=true:=h;simp only[Gd,beq_iff_eq]at b;rcases b with b|b
   .left;simp at b;simp[b]
   .exact .inr b) (λv e i j=>by cases v<;>first|rfl|exact absurd rfl (e _)|exact absurd rfl (i _ _ _)|exact absurd rfl (j _)) k h
def fL{la:o_}{mu:jn}{a c:TR}(i:aV a=true)(h:VR la mu a c):VR Cu mu a c:=
 oV (f:=bF) (g:=aV) (λ_ _=>xz) (λ_=>rfl) (λ_ _ _=>rfl)
  (λ_ h=>.inl h) (λv b d e=>by cases v<;>first|rfl|exact absurd rfl (b _)|exact absurd rfl (d _ _ _)|exact absurd rfl (e _)) i h
def ft{la:o_}{mu:jn}{a c:TR}(i:l_ a=true)(h:VR la mu a c):VR Cu mu a c:=
 oV (f:=aV) (g:=l_) (λ_ _=>fL) (λ_=>rfl) (λ_ _ _=>rfl)
  (λ_ h=>.inl h) (λv b d e=>by cases v<;>first|rfl|exact absurd rfl (b _)|exact absurd rfl (d _ _ _)|exact absurd rfl (e _)) i h
def wy{la:o_}{mu:jn}{a c:TR}(b:bg a=true)(h:VR la mu a c):VR Cu mu a c:=
 ft (by simp only[bg,te]at b;exact b.1) h
def mi{la:o_}{mu:jn}{a c:TR}(b:aR a=true)(h:VR la mu a c):aR c=true:=by
 cases h with
 |vc c=>simp[aR,jB]at b
 |Nr _=>rfl
 |tuple d _ _=>exact absurd (gr b) d
 |scalar h=>exact b
 |_=>first|rfl|(simp[aR]at b)
def xA{la:o_}{mu:jn}{a:TR}{vs:Tl}(b:aR a=true)(h:VR la mu a (.tuple vs)):False:=by
 cases h with
 |vc c=>simp[aR,jB]at b
 |tuple d _ _=>exact absurd (gr b) d
 |scalar h=>simp[Am.scalar]at h
def t0(la:o_)(mu:jn)(vs cs:Tn):Prop:=vs.length=cs.length/\∀(i:Nat) (x y:Value),vs[i]?=some x->cs[i]?=some y->VR la mu x y
def t0.nil{la:o_}{mu:jn}:t0 la mu [] []:=⟨rfl,λi x y h=>by simp at h⟩
def t0.cons{la:o_}{mu:jn}{v c:TR}{vs cs:Tn}(h:VR la mu v c)(d:t0 la mu vs cs):t0 la mu (v :: vs) (c :: cs):=by
 refine⟨by simp[d.1],λi x y a b=>?_⟩;cases i with
 |zero=>simp at a b;subst a b;exact h
 |succ i=>exact d.2 i x y (by simpa using a) (by simpa using b)
def t0.head{la:o_}{mu:jn}{v c:TR}{vs cs:Tn}(h:t0 la mu (v :: vs) (c :: cs)):VR la mu v c:=h.2 0 v c rfl rfl
def t0.tail{la:o_}{mu:jn}{v c:TR}{vs cs:Tn}(h:t0 la mu (v :: vs) (c :: cs)):t0 la mu vs cs:=
 ⟨by have:=h.1;simpa using this,λi x y a b=>h.2 (i+1) x y (by simpa using a) (by simpa using b)⟩
def t0.Hl{la:o_}{mu:jn}{v:TR}{vs cs:Tn}(h:t0 la mu (v :: vs) cs):∃c a,cs=c :: a/\VR la mu v c/\t0 la mu vs a:=by
 cases cs with
 |nil=>have:=h.1;simp at this
 |cons c cs=>exact⟨c,cs,rfl,h.head,h.tail⟩
def t0.unnil{la:o_}{mu:jn}{cs:Tn}(h:t0 la mu [] cs):cs=[]:=by
 have:=h.1;cases cs<;>simp_all
def t0.append{la:o_}{mu:jn}{vs cs c a:Tn}(h:t0 la mu vs cs)(h':t0 la mu c a):t0 la mu (vs++c) (cs++a):=by
 refine⟨by simp[h.1,h'.1],λi x y d b=>?_⟩;have e:=h.1;by_cases f:i<vs.length
 .rw[GD f]at d;rw[GD (by omega)]at b;exact h.2 i x y d b
 .rw[Hb (by omega)]at d;rw[Hb (by omega)]at b;rw[←e]at b;exact h'.2 _ x y d b
def t0.mono{la a:o_}{mu c:jn}{vs cs:Tn}(h:t0 la mu vs cs)(d:∀s b,la s=some b->a s=some b)(e:∀i p,mu i=some p->c i=some p) :
  t0 a c vs cs:=⟨h.1,λi x y f g=>(h.2 i x y f g).mono d e⟩
def t0.down{la:o_}{mu:jn}{vs cs:Tn}(b:vs.all l_=true)(h:t0 la mu vs cs):t0 Cu mu vs cs:=
 ⟨h.1,λi x y a c=>ft (cL b a) (h.2 i x y a c)⟩
def t0.HF{la:o_}{mu:jn}{vs cs:Tn}(b:vs.all bg=true)(h:t0 la mu vs cs):t0 Cu mu vs cs:=
 ⟨h.1,λi x y a c=>wy (cL b a) (h.2 i x y a c)⟩
def t0.map{la:o_}{mu:jn}{i6:Type}{f g:i6->TR}(l:List i6)(h:∀x,x∈l->VR la mu (f x) (g x)):t0 la mu (l.map f) (l.map g):=by
 induction l with
 |nil=>exact .nil
 |cons a l c=>exact .cons (h a (by simp)) (c λx b=>h x (by simp[b]))
def t0.take{la:o_}{mu:jn}{vs cs:Tn}(h:t0 la mu vs cs)(n:Nat):t0 la mu (vs.take n) (cs.take n):=by
 refine⟨by simp[h.1],λi x y a b=>?_⟩;rw[lE]at a b;split at a
 next c=>rw[n_ c]at b;exact h.2 i x y a b
 .cases a
def t0.drop{la:o_}{mu:jn}{vs cs:Tn}(h:t0 la mu vs cs)(n:Nat):t0 la mu (vs.drop n) (cs.drop n):=by
 refine⟨by simp[h.1],λi x y a b=>?_⟩;rw[t1]at a b;exact h.2 _ x y a b
def t0.set{la:o_}{mu:jn}{vs cs:Tn}(h:t0 la mu vs cs)(n:Nat){v c:TR}(f:VR la mu v c):t0 la mu (vs.set n v) (cs.set n c):=by
 refine⟨by simp[h.1],λi x y a b=>?_⟩;rw[GC]at a b;by_cases d:n=i
 .subst d;simp only[if_true]at a b;split at a
  next e=>
   rw[n_ (by rw[←h.1];exact e)]at b;simp at a b;subst a b;exact f
  .cases a
 .rw[qs d]at a b;exact h.2 i x y a b
def t0.replicate{la:o_}{mu:jn}(n:Nat){v c:TR}(a:VR la mu v c):t0 la mu (replicate n v) (replicate n c):=by
 induction n with
 |zero=>exact .nil
 |succ n b=>exact .cons a b
def t0.get{la:o_}{mu:jn}{vs cs:Tn}(h:t0 la mu vs cs){i:Nat}{x:TR}(a:vs[i]?=some x):∃y,cs[i]?=some y/\VR la mu x y:=by
 have c:i<vs.length:=by
  rcases Gk i vs.length with h|h
  .exact h
  .rw[Gm h]at a;cases a
 have b:i<cs.length:=by have:=h.1;omega
 exact⟨cs[i],by simp[b],h.2 i x _ a (by simp[b])⟩
def t0.agg{la:o_}{mu:jn}{a c:Tl}(h:t0 la mu a.toList c.toList):VR la mu (.agg a) (.agg c):=
 .agg (by simpa using h.1) λi x y b d=>h.2 i x y (by simpa using b) (by simpa using d)
def VR.LS{la:o_}{mu:jn}{a:Tl}{c:TR}(h:VR la mu (.agg a) c):∃d,c = .agg d/\t0 la mu a.toList d.toList:=by
 cases h with
 |scalar h=>simp[Am.scalar]at h
 |agg b h=>exact⟨_,rfl,by simpa using b,λi x y e f=>h i x y (by simpa using e) (by simpa using f)⟩
def t0.tuple{la:o_}{mu:jn}{a c:Tl}(h:t0 la mu a.toList c.toList)(b:a.size≠1:=by simp):VR la mu (.tuple a) (.tuple c):=
 .tuple b (by simpa using h.1) λi x y d e=>h.2 i x y (by simpa using d) (by simpa using e)
def VR.LW{la:o_}{mu:jn}{a:Tl}{c:TR}(b:a.size≠1)(h:VR la mu (.tuple a) c):∃d,c = .tuple d/\t0 la mu a.toList d.toList:=by
 cases h with
 |vc c=>simp at b
 |Nr _=>simp at b
 |scalar h=>simp[Am.scalar]at h
 |tuple _ e h=>exact⟨_,rfl,by simpa using e,λi x y f g=>h i x y (by simpa using f) (by simpa using g)⟩
def VR.cells{la:o_}{mu:jn}{a c:TR}(f:aD a=false)(h:VR la mu a c):t0 la mu a.cells.toList c.cells.toList:=by
 cases a with
 |agg i=>
  obtain⟨d,rfl,b⟩:=h.LS;exact b
 |tuple g=>
  have e:aR (.tuple g)=true:=by simpa[aD,aR]using f
  rw[eO (mi e h)];exact .cons h .nil
 |_=>
  rw[eO (mi rfl h)];exact .cons h .nil
end
section
variable [Cf] [D1]
def fZ(mu:jn)(e e':MapEntry):Prop:=e'.key=e.key/\gk e.key=true/\e'.born=e.born/\VR Cu mu e.val e'.val
def EJ(mu:jn)(p:Pl)(x:Option Obj):ra->Prop
 | .cells vs p_ rw=>p.p_=p_/\vs.length<=p.room/\vs.all bg=true/\∃c e fr,x=some (.cells c e fr)/\c.size=p.o+p.room/\(rw=true->fr=(0,0))/\
   ∀(i:Nat) v,vs[i]?=some v->∃v',c[p.o+i]?=some v'/\VR Cu mu v v'
 | .map d a=>∃b,x=some (.map b a)/\b.size=d.length/\∀(i:Nat) e,d[i]?=some e->∃e',b[i]?=some e'/\fZ mu e e'
 | .loop r=>∃L:Loop,x=some (.loop L)/\L.state=r.state/\L.pending=r.pending/\L.params.toList=r.params/\L.assign=r.assign/\L.body=r.body/\t0 Cu mu r.tmps L.tmps.toList
 | .Lu s pos=>x=some (.stringIter s pos)
 | .dead=>True
def fZ.mono{mu a:jn}(b:∀i p,mu i=some p->a i=some p){e e':MapEntry}(h:fZ mu e e'):fZ a e e':=
 ⟨h.1,h.2.1,h.2.2.1,h.2.2.2.mono (λ_ _ h=>h) b⟩
def EJ.mono{mu j:jn}(u:∀i p,mu i=some p->j i=some p){p:Pl}{x:Option Obj}{o:ra}(h:EJ mu p x o):EJ j p x o:=by
 cases o with
 |cells C w rw=>
  obtain⟨d,f,g,c,e,y,m,n,q,t⟩:=h;exact⟨d,f,g,c,e,y,m,n,q,λi v A=>let ⟨v',a,b⟩:=t i v A;⟨v',a,b.mono (λ_ _ h=>h) u⟩⟩
 |map B k=>
  obtain⟨l,d,f,g⟩:=h;exact⟨l,d,f,λi e z=>let ⟨e',a,b⟩:=g i e z;⟨e',a,b.mono u⟩⟩
 |loop r=>
  obtain⟨L,d,f,g,m,n,q,t⟩:=h;exact⟨L,d,f,g,m,n,q,t.mono (λ_ _ h=>h) u⟩
 |Lu s pos=>exact h
 |dead=>trivial
def cz(mu:jn)(vs:Tn)(c:Tl)(o:Nat):Prop:=∀(i:Nat) v,vs[i]?=some v->∃v',c[o+i]?=some v'/\VR Cu mu v v'
def cz.mono{mu d:jn}{vs:Tn}{c:Tl}{o:Nat}(h:cz mu vs c o)(e:∀i p,mu i=some p->d i=some p):cz d vs c o:=
 λi v f=>let ⟨v',a,b⟩:=h i v f;⟨v',a,b.mono (λ_ _ h=>h) e⟩
structure WR(C:ke)(base:Nat)(mu:jn)(H:Tu)(w:TS):Prop where
 obj:∀id o,H[id]?=some o->o.alive=true->∃p,mu id=some p/\EJ mu p w.heap[p.b]? o
 inj:∀(i j:Nat) oi oj pi pj,H[i]?=some oi->H[j]?=some oj->oi.owned=true->oj.alive=true->i≠j->mu i=some pi->mu j=some pj->pi.b≠pj.b
 own:∀(i:Nat) o p,H[i]?=some o->o.owned=true->mu i=some p->base<=p.b
 ro:∀(i:Nat) o p,H[i]?=some o->o.alive=true->o.owned=false->mu i=some p->p.b<base
 Im:∀id,H.length<=id->mu id=none
 D2:∀g vs,C.G g=some vs->Ek g<base/\vs.all bg=true/\∃c e fr,w.heap[Ek g]?=some (.cells c e fr)/\cz mu vs c (Ft g)
def Ij(mu:jn)(H:Tu)(b:Nat):Prop:=∃(id:Nat) (o:ra) (p:Pl),H[id]?=some o/\o.owned=true/\mu id=some p/\p.b=b
def bO{o:ra}(h:o.owned=true):o.alive=true:=by cases o<;>first|rfl|(simp[ra.owned]at h)
structure Ee(H:Tu)(mu:jn)(w:TS)(H':Tu)(mu':jn)(w':TS):Prop where
 len:H.length<=H'.length
 same:∀id,id<H.length->mu' id=mu id
 size:w.heap.size<=w'.heap.size
 i_:∀b,b<w.heap.size->¬Ij mu H b->w'.heap[b]?=w.heap[b]?
 D9:∀b,Ij mu' H' b->w.heap.size<=b∨Ij mu H b
 os:w'.os=w.os
 tape:w'.tape=w.tape
 output:w'.output=w.output
 dr:w.drawn<=w'.drawn
theorem Ee.refl(H:Tu)(mu:jn)(w:TS):Ee H mu w H mu w:=
 ⟨x5 _,λ_ _=>rfl,x5 _,λ_ _ _=>rfl,λ_ h=>.inr h,rfl,rfl,rfl,x5 _⟩
def Ee.trans{d e f:Tu}{q g i:jn}{o p j:TS}(h:Ee d q o e g p)(k:Ee e g p f i j):Ee d q o f i j where
 len:=NG h.len k.len
 same:=λid m=>(k.same id (ay m h.len)).trans (h.same id m)
 size:=NG h.size k.size
 i_:=λb a n=>(k.i_ b (ay a h.size) λc=>(h.D9 b c).elim (λl=>by omega) n).trans (h.i_ b a n)
 D9:=λb a=>(k.D9 b a).elim (λl=>.inl (NG h.size l)) (h.D9 b)
 os:=k.os.trans h.os
 tape:=k.tape.trans h.tape
 output:=k.output.trans h.output
 dr:=NG h.dr k.dr
def Ee.drew{H H':Tu}{m a:jn}{w w':TS}(h:Ee H m w H' a w')(n:Nat)(b:w'.drawn<=n):Ee H m w H' a { w' with drawn:=n }:=
 ⟨h.len,h.same,h.size,h.i_,h.D9,h.os,h.tape,h.output,NG h.dr b⟩
def WR.drew{C:ke}{a:Nat}{mu:jn}{H:Tu}{w:TS}(h:WR C a mu H w)(n:Nat):WR C a mu H { w with drawn:=n }:=
 ⟨h.obj,h.inj,h.own,h.ro,h.Im,h.D2⟩
def Ee.mono{C:ke}{a:Nat}{H H':Tu}{m d:jn}{w w':TS}(h:Ee H m w H' d w')(e:WR C a m H w):∀i p,m i=some p->d i=some p:=by
 intro i p c;rw[h.same i ?_];exact c;rcases Gk i H.length with b|b
 .exact b
 .rw[e.Im i b]at c;cases c
def Hs(mu:jn)(i:Nat)(p:Pl):jn:=λj=>if j=i then some p else mu j
def bM(mu:jn)(i:Nat)(p:Pl):Hs mu i p i=some p:=by simp[Hs]
def eN(mu:jn){i j:Nat}(p:Pl)(h:j≠i):Hs mu i p j=mu j:=by simp[Hs,h]
def lL{C:ke}{a:Nat}{H:Tu}{m:jn}{w:TS}(d:WR C a m H w)(p:Pl):∀i q,m i=some q->Hs m H.length p i=some q:=by
 intro i q b;by_cases c:i=H.length
 .subst c;rw[d.Im _ (x5 _)]at b;cases b
 .rw[eN _ _ c];exact b
def aF{i6:Type}{l:List i6}{x y:i6}{i:Nat}(h:(l++[x])[i]?=some y):(i<l.length/\l[i]?=some y)∨(i=l.length/\y=x):=by
 rcases Gk i l.length with b|b
 .rw[GD b]at h;exact .inl ⟨b,h⟩
 .rw[Hb b]at h;have a:i - l.length=0:=by
   rcases Nat.eq_zero_or_pos (i - l.length)with a|a
   .exact a
   .rw[Gm (by simp;omega)]at h;cases h
  rw[a]at h;exact .inr ⟨by omega,by simpa using h.symm⟩
def jX{mu:jn}{p:Pl}{w:TS}{o:ra}(i:o.alive=true)(h:EJ mu p w.heap[p.b]? o):p.b<w.heap.size:=by
 rcases Gk p.b w.heap.size with d|d
 .exact d
 .rw[aE d]at h;cases o with
  |cells l g rw=>obtain⟨_,_,_,c,e,k,h,_⟩:=h;cases h
  |map j a=>obtain⟨f,h,_⟩:=h;cases h
  |loop r=>obtain⟨L,h,_⟩:=h;cases h
  |Lu s pos=>cases h
  |dead=>cases i
def WR.lt{C:ke}{a:Nat}{mu:jn}{H:Tu}{w:TS}(h:WR C a mu H w){id:Nat}{o:ra}{p:Pl}(e:H[id]?=some o)(c:o.alive=true)(f:mu id=some p):p.b<w.heap.size:=by
 obtain⟨q,d,g⟩:=h.obj id o e c;obtain rfl:p=q:=by rw[f]at d;exact DU d
 exact jX c g
def kO(mu a:jn)(H':Tu)(w':TS):Prop:=∀id o,H'[id]?=some o->o.alive=true->∃p,a id=some p/\EJ mu p w'.heap[p.b]? o
def WR.new{C:ke}{m:Nat}{mu:jn}{H:Tu}{w w':TS}(h:WR C m mu H w)(G:m<=w.heap.size){x:Obj}(K:w'.heap=w.heap.push x)
  (T:w'.os=w.os) (W:w'.tape=w.tape) (X:w'.output=w.output) (o:ra) (p:Pl) (U:p.b=w.heap.size) (E:EJ mu p (some x) o) (J:o.alive=true->o.owned=true) (R:w.drawn<=w'.drawn:=by exact x5 _) :
  WR C m (Hs mu H.length p) (H++[o]) w'/\Ee H mu w (H++[o]) (Hs mu H.length p) w'/\kO mu (Hs mu H.length p) (H++[o]) w':=by
 have V:EJ (Hs mu H.length p) p (some x) o:=E.mono (lL h p);have f:∀b,b<w.heap.size->w'.heap[b]?=w.heap[b]?:=λb G=>by rw[K,f1,qs (by omega)]
 have v:w'.heap[p.b]?=some x:=by rw[K,f1,n_ U]
 have F:=lL h p;refine⟨⟨?_,?_,?_,?_,?_,?_⟩,⟨by simp,?_,by simp[K],λb G _=>f b G,?_,T,W,X,R⟩,λid t hY u=>?_⟩
 rotate_right
 .rcases aF hY with⟨s,hY⟩|⟨rfl,rfl⟩
  .obtain⟨q,a,r⟩:=h.obj id t hY u;exact⟨q,F _ _ a,by rw[f _ (jX u r)];exact r⟩
  .exact⟨p,bM _ _ _,by rw[v];exact E⟩
 .intro id t hY u;rcases aF hY with⟨s,hY⟩|⟨rfl,rfl⟩
  .obtain⟨q,a,r⟩:=h.obj id t hY u;refine⟨q,F _ _ a,?_⟩;rw[f _ (jX u r)];exact r.mono F
  .exact⟨p,bM _ _ _,by rw[v];exact V⟩
 .intro i j Y Z pi pj s L B D A n l;rcases aF s with⟨y,k⟩|⟨rfl,rfl⟩
  .rw[eN _ _ (by omega)]at n;rcases aF L with⟨I,z⟩|⟨rfl,rfl⟩
   .rw[eN _ _ (by omega)]at l;exact h.inj i j Y Z pi pj k z B D A n l
   .rw[bM]at l;obtain rfl:=DU l;have:=h.lt k (bO B) n;omega
  .rw[bM]at n;obtain rfl:=DU n;rcases aF L with⟨I,z⟩|⟨rfl,rfl⟩
   .rw[eN _ _ (by omega)]at l;have:=h.lt z D l;omega
   .exact absurd rfl A
 .intro i t q s d a;rcases aF s with⟨y,k⟩|⟨rfl,rfl⟩
  .rw[eN _ _ (by omega)]at a;exact h.own i t q k d a
  .rw[bM]at a;obtain rfl:=DU a;omega
 .intro i t q s u d a;rcases aF s with⟨y,k⟩|⟨rfl,rfl⟩
  .rw[eN _ _ (by omega)]at a;exact h.ro i t q k u d a
  .rw[J u]at d;cases d
 .intro id hY;simp at hY;rw[eN _ _ (by omega)];exact h.Im id (by omega)
 .intro g vs S;obtain⟨N,O,c,e,M,P,Q⟩:=h.D2 g vs S;exact⟨N,O,c,e,M,by rw[f _ (by omega)];exact P,Q.mono F⟩
 .intro id hY;rw[eN _ _ (by omega)]
 .rintro b ⟨id,t,q,hY,d,a,rfl⟩;rcases aF hY with⟨y,s⟩|⟨rfl,rfl⟩
  .rw[eN _ _ (by omega)]at a;exact .inr ⟨id,t,q,s,d,a,rfl⟩
  .rw[bM]at a;obtain rfl:=DU a;exact .inl (by omega)
def Cm{i6:Type}{l:List i6}{x y:i6}{i j:Nat}(h:(l.set i x)[j]?=some y):(j≠i/\l[j]?=some y)∨(j=i/\i<l.length/\y=x):=by
 rw[GC]at h;by_cases a:i=j
 .subst a;simp only[if_true]at h;split at h
  next b=>exact .inr ⟨rfl,b,by simpa using h.symm⟩
  .cases h
 .rw[qs a]at h;exact .inl ⟨λe=>a e.symm,h⟩
def WR.set{C:ke}{s:Nat}{mu:jn}{H:Tu}{w w':TS}(h:WR C s mu H w){id:Nat}{o:ra}{p:Pl}(hY:H[id]?=some o)(D:o.owned=true)
  (G:mu id=some p) {x:Obj} (V:w'.heap=w.heap.setIfInBounds p.b x) (R:w'.os=w.os) (ht:w'.tape=w.tape) (hu:w'.output=w.output)
  (E:ra) (Q:E.alive=true->E.owned=true) (hr:EJ mu p (some x) E) (hd:w.drawn<=w'.drawn:=by exact x5 _) :
  WR C s mu (H.set id E) w'/\Ee H mu w (H.set id E) mu w':=by
 have O:=h.lt hY (bO D) G;have L:=h.own id o p hY D G;have A:w'.heap[p.b]?=some x:=by rw[V];simp[O]
 have n:∀b,b≠p.b->w'.heap[b]?=w.heap[b]?:=λb K=>by rw[V,e5 (De K)]
 have a:∀(j:Nat) l,(H.set id E)[j]?=some l->l.alive=true->∃f,H[j]?=some f/\f.alive=true/\(l.owned=true->f.owned=true):=by
  intro j l k u;rcases Cm k with⟨_,k⟩|⟨rfl,_,rfl⟩
  .exact⟨l,k,u,λh=>h⟩
  .exact⟨o,hY,bO D,λ_=>D⟩
 refine⟨⟨?_,?_,?_,?_,?_,?_⟩,⟨by simp,λ_ _=>rfl,by simp[V],?_,?_,R,ht,hu,hd⟩⟩
 .intro j l k u;rcases Cm k with⟨P,k⟩|⟨rfl,_,rfl⟩
  .obtain⟨q,t,U⟩:=h.obj j l k u;refine⟨q,t,?_⟩;rw[n q.b λe=>h.inj id j o l p q hY k D u (De P) G t e.symm];exact U
  .exact⟨p,G,by rw[A];exact hr⟩
 .intro i j I l pi pj v k d r N S T;obtain⟨B,y,_,m⟩:=a i I v (bO d);obtain⟨f,z,J,_⟩:=a j l k r;exact h.inj i j B f pi pj y z (m d) J N S T
 .intro i I q v d t;obtain⟨B,y,_,m⟩:=a i I v (bO d);exact h.own i B q y (m d) t
 .intro i I q v u d t;rcases Cm v with⟨_,M⟩|⟨rfl,_,rfl⟩
  .exact h.ro i I q M u d t
  .rw[Q u]at d;cases d
 .intro i v;exact h.Im i (by simpa using v)
 .intro g vs hg;obtain⟨X,Y,c,e,W,Z,h4⟩:=h.D2 g vs hg;exact⟨X,Y,c,e,W,by rw[n _ (by omega)];exact Z,h4⟩
 .intro b _ K;exact n b λe=>K ⟨id,o,p,hY,D,G,e.symm⟩
 .rintro b ⟨j,l,q,k,r,t,rfl⟩;obtain⟨f,z,_,F⟩:=a j l k (bO r);exact .inr ⟨j,f,q,z,F r,t,rfl⟩
def WR.move{C:ke}{D:Nat}{mu:jn}{H:Tu}{w w':TS}(h:WR C D mu H w){id:Nat}{o:ra}{p:Pl}(hY:H[id]?=some o)(M:o.owned=true)
  (O:mu id=some p) {x:Obj} (hw:w'.heap=w.heap.setIfInBounds p.b x) (N:w'.os=w.os) (Z:w'.tape=w.tape) (hu:w'.output=w.output)
  (F:ra) (q:Pl) (P:q.b=p.b) (Q:EJ mu q (some x) F) (W:F.alive=true->F.owned=true) (X:w.drawn<=w'.drawn:=by exact x5 _) :
  WR C D (Hs mu H.length q) (H.set id .dead++[F]) w'/\Ee H mu w (H.set id .dead++[F]) (Hs mu H.length q) w'/\kO mu (Hs mu H.length q) (H.set id .dead++[F]) w':=by
 have hr:EJ (Hs mu H.length q) q (some x) F:=Q.mono (lL h q);obtain⟨G,S⟩:=h.set hY M O (x:=x) hw N Z hu .dead (λh=>by cases h) trivial X;have U:=h.lt hY (bO M) O;have T:=h.own id o p hY M O;have d:(H.set id ra.dead).length=H.length:=by simp
 have y:w'.heap[p.b]?=some x:=by rw[hw];simp[U]
 have R:∀i r,mu i=some r->Hs mu H.length q i=some r:=lL h q;have Y:id<H.length:=by
  rcases Gk id H.length with J|J
  .exact J
  .rw[Gm J]at hY;cases hY
 have t:∀(j:Nat) n r,(H.set id ra.dead)[j]?=some n->n.alive=true->mu j=some r->r.b≠p.b:=by
  intro j n r s z a e;rcases Cm s with⟨V,s⟩|⟨rfl,_,rfl⟩
  .exact h.inj id j o n p r hY s M z (De V) O a e.symm
  .cases z
 refine⟨⟨?_,?_,?_,?_,?_,?_⟩,⟨by simp,?_,S.size,S.i_,?_,N,Z,hu,X⟩,λj n s z=>?_⟩
 rotate_right
 .rcases aF s with⟨A,f⟩|⟨rfl,rfl⟩
  .obtain⟨r,a,v⟩:=G.obj j n f z;exact⟨r,R _ _ a,v⟩
  .rw[d];exact⟨q,bM _ _ _,by rw[P,y];exact Q⟩
 .intro j n s z;rcases aF s with⟨A,f⟩|⟨rfl,rfl⟩
  .obtain⟨r,a,v⟩:=G.obj j n f z;exact⟨r,R _ _ a,v.mono R⟩
  .rw[d];exact⟨q,bM _ _ _,by rw[P,y];exact hr⟩
 .intro i j I n pi pj E s k B L u m;rcases aF E with⟨K,l⟩|⟨rfl,rfl⟩
  .rw[eN _ _ (by omega)]at u;rcases aF s with⟨A,f⟩|⟨rfl,rfl⟩
   .rw[eN _ _ (by omega)]at m;exact G.inj i j I n pi pj l f k B L u m
   .rw[d,bM]at m;obtain rfl:=DU m;rw[P];exact t i I pi l (bO k) u
  .rw[d,bM]at u;obtain rfl:=DU u;rcases aF s with⟨A,f⟩|⟨rfl,rfl⟩
   .rw[eN _ _ (by omega)]at m;rw[P];exact De (t j n pj f B m)
   .exact absurd rfl L
 .intro i I r E k a;rcases aF E with⟨K,l⟩|⟨rfl,rfl⟩
  .rw[eN _ _ (by omega)]at a;exact G.own i I r l k a
  .rw[d,bM]at a;obtain rfl:=DU a;omega
 .intro i I r E z k a;rcases aF E with⟨K,l⟩|⟨rfl,rfl⟩
  .rw[eN _ _ (by omega)]at a;exact G.ro i I r l z k a
  .rw[W z]at k;cases k
 .intro i E;simp at E;rw[eN _ _ (by omega)];exact h.Im i (by omega)
 .intro g vs hg;obtain⟨J,h2,c,e,fr,h3,h4⟩:=G.D2 g vs hg;exact⟨J,h2,c,e,fr,h3,h4.mono R⟩
 .intro i E;rw[eN _ _ (by omega)]
 .rintro b ⟨j,n,r,s,B,a,rfl⟩;rcases aF s with⟨A,f⟩|⟨rfl,rfl⟩
  .rw[eN _ _ (by omega)]at a;exact S.D9 _ ⟨j,n,r,f,B,a,rfl⟩
  .rw[d,bM]at a;obtain rfl:=DU a;exact .inr ⟨id,o,p,hY,M,O,P.symm⟩
structure SR(C:ke)(base:Nat)(la:o_)(mu:jn)(g9:St)(tmps:Tl)(w:TS):Prop where
 DX:t0 la mu g9.tmps tmps.toList
 F4:∀s b,la s=some b->∃vs,g9.loc[s]?=some (some vs)
 loc:∀(s:Nat) vs,g9.loc[s]?=some (some vs)->∃b c e,la s=some b/\base<=b/\w.heap[b]?=some (.cells c e (0,0))/\vs.all bg=true/\t0 Cu mu vs c.toList/\¬Ij mu g9.heap b
 Gv:∀s s' b,la s=some b->la s'=some b->s=s'
 wr:WR C base mu g9.heap w
def SR.DY{C:ke}{a:Nat}{la:o_}{mu f:jn}{g9:St}{d:Tl}{w w':TS}{H':Tu}(h:SR C a la mu g9 d w)
  (t:WR C a f H' w') (i:Ee g9.heap mu w H' f w'):SR C a la f { g9 with heap:=H' } d w':=by
 have k:=i.mono h.wr;refine⟨h.DX.mono (λ_ _ h=>h) k,h.F4,?_,h.Gv,t⟩;intro s u r;obtain⟨b,c,e,l,m,g,n,o,j⟩:=h.loc s u r;have p:b<w.heap.size:=by
  rcases Gk b w.heap.size with h|h
  .exact h
  .rw[aE h]at g;cases g
 exact⟨b,c,e,l,m,by have:=i.i_ b p j;rw[this];exact g,n,o.mono (λ_ _ h=>h) k,λq=>(i.D9 b q).elim (λv=>by omega) j⟩
def SR.put{C:ke}{b:Nat}{la:o_}{mu:jn}{g9:St}{a:Tl}{w:TS}(h:SR C b la mu g9 a w)(dst:Tq){v v':TR}(c:VR la mu v v') :
  SR C b la mu (g9.put dst v) (match dst with|some d=>a.setIfInBounds d v'|none=>a) w:=by
 cases dst with
 |none=>exact h
 |some d=>
  refine⟨?_,h.F4,h.loc,h.Gv,h.wr⟩;have:=h.DX.set d c;simpa[St.put]using this
end
section
variable [Cf] [D1]
def fU{P:TI}{t:TP}{d:TypeDesc}(h:P.underlying t=some d):∃i,P.info? t=some i:=by
 unfold Program.underlying at h;cases a:P.info? t with
 |none=>rw[a]at h;cases h
 |some i=>exact⟨i,rfl⟩
def fX{P:TI}{t:TP}(h:P.cellsOf t≠0):∃i,P.info? t=some i:=by
 unfold Program.cellsOf at h;cases a:P.info? t with
 |none=>rw[a]at h;simp at h
 |some i=>exact⟨i,rfl⟩
def bK{P:TI}{t:TP}{i:TypeInfo}(h:P.info? t=some i)(w:TS):(sizeOf t).run P w = .ok (P.cellsOf t) w:=by
 simp[sizeOf,typeInfo,h,Program.cellsOf]
def re:TypeDesc->Bool
 | .struct _=>true
 | .array _ _=>true
 |_=>false
def vW{P:TI}{t:TP}{d:TypeDesc}(h:P.underlying t=some d)(w:TS):(isAgg t).run P w = .ok (re d) w:=by
 cases d<;>simp[isAgg,run_underlying h,re]
def bW{b o n:Nat}:(⟨b,o,none⟩ : Addr).add n=⟨b,o+n,none⟩:=by
 unfold Addr.add;split<;>simp_all
def aM{C:ke}{c:Nat}{la:o_}{mu:jn}{g9:St}{a:Act}{w:TS}(h:SR C c la mu g9 a.tmps w)(x:TK):VR la mu (h9 g9.tmps x) (a.eval x):=by
 cases x with
 |tmp t=>
  simp only[h9,Act.eval];have e:g9.tmps.length=a.tmps.size:=by simpa using h.DX.1
  rcases Gk t g9.tmps.length with b|b
  .have d:t<a.tmps.size:=by rw[←e];exact b
   have:=h.DX.2 t g9.tmps[t] a.tmps[t] (by simp[b]) (by simp[d]);simpa[List.getD,Array.getD,b,d]using this
  .have d:a.tmps.size<=t:=by rw[←e];exact b
   simp only[List.getD,Gm b,qdo];rw[show a.tmps.getD t undef=undef by simp[Array.getD,Nat.not_lt.2 d]];exact .undef
 |const v=>
  simp only[h9,Act.eval];split
  next h=>exact .of_flat h
  .exact .vc _
 |global g=>
  simp only[h9,Act.eval];split
  next h=>
   have:VR la mu (.pointer (some ⟨g,0,some 1⟩)) (.pointer (some ⟨Ek g,Ft g+0,none⟩)):=.DQ
   rwa [Kg h,Kh h]at this
  .exact .vc _
 |func f=>exact .func (by simp) rfl rfl (λi x y h=>by simp at h) (λi x y h=>by simp at h)
def sK{C:ke}{b:Nat}{la:o_}{mu:jn}{g9:St}{a:Act}{w:TS}(h:SR C b la mu g9 a.tmps w)(xs:Array Operand) :
  t0 la mu (xs.toList.map (h9 g9.tmps)) (xs.map a.eval).toList:=by
 rw[qdl];exact t0.map _ λx _=>aM h x
def Mz{C:ke}{b:Nat}{la:o_}{mu:jn}{g9:St}{a:Act}{w:TS}(h:SR C b la mu g9 a.tmps w){x:TK}(c:flat (h9 g9.tmps x)=true) :
  a.eval x=h9 g9.tmps x:=sS c (aM h x)
def wq(P:TI)(la:o_)(mu:jn)(s:Sem Next)(w:TS)(v:Value):Prop:=∃v',s.run P w = .ok (.value v') w/\VR la mu v v'
def ie{P:TI}{la:o_}{mu:jn}{s:Sem Value}{w:TS}{v v':TR}(h:s.run P w = .ok v' w)(a:VR la mu v v') :
  wq P la mu (do pure (.value (←s))) w v:=⟨v',by simp[h],a⟩
def Bn{C:ke}{f:Nat}{la:o_}{mu:jn}{g9:St}{a:Act}{w:TS}(h:SR C f la mu g9 a.tmps w){o:Oper}{e:DM}
  (m:∀cs b,o.op≠.select cs b) (c:cI C (h9 g9.tmps) o=some e):∃v,e = .val v/\wq C.P la mu (execOp a.eval o) w v:=by
 unfold cI at c;split at c
 next l=>
  have k:execOp a.eval o=execOp (h9 g9.tmps) o:=execOp_congr o m λx i=>Mz h (all_get' l i);split at c
  next v n=>
   split at c
   next g=>
    cases c;exact⟨v,rfl,v,by rw[k];exact gT n w,.of_flat g⟩
   .cases c
  .cases c
 .cases c where
 all_get' {d:Tn} {j:Array Operand} (h:j.toList.all (λx=>flat (h9 d x))=true) {x:TK} (i:x∈j):flat (h9 d x)=true:=
  A5.1 h x (by simpa using i)
def LH{v:TR}(h:jB v=true):∃cs k,v = .tuple #[.agg cs]/\ug cs=some k:=by
 unfold jB at h;split at h
 next b=>
  split at h
  next cs e=>
   obtain⟨k,a⟩:=xT.1 h;refine⟨cs,k,?_,a⟩
   congr 1
   exact u9.1 (by simpa using e)
  .cases h
 .cases h
def vP{la:o_}{mu:jn}{v c:TR}(hp:jL v=true)(h:VR la mu v c):c=F0 v:=by
 simp only[jL,Gd]at hp;rcases hp with hp|hp
 .rw[cJ hp h];unfold Am.scalar at hp;split at hp<;>first|rfl|cases hp
 .obtain⟨d,k,rfl,e⟩:=LH hp;cases h with
  |scalar h=>simp[Am.scalar]at h
  |tuple b _ _=>simp at b
  |Nr a=>simp[F0,a]
def rI{la:o_}{mu:jn}{v:TR}(hp:jL v=true):VR la mu v (F0 v):=by
 simp only[jL,Gd]at hp;rcases hp with hp|hp
 .have:F0 v=v:=by
   unfold Am.scalar at hp;split at hp<;>first|rfl|cases hp
  rw[this];exact .scalar hp
 .obtain⟨b,k,rfl,a⟩:=LH hp;simp only[F0,a];exact .Nr a
def zU{la:o_}{mu:jn}{v c:TR}(e:plain v=true)(h:VR la mu v c):c=FS v:=by
 cases v with
 |agg a=>
  obtain⟨g,rfl,b,h⟩:=h.LS;simp only[FS]
  congr 1
  apply Array.ext (by simpa using b.symm);intro i j k;have d:i<a.size:=by simpa using k
  have:=vP (cL (f:=jL) (i:=i) (x:=a[i]) e (by simp[d])) (h i a[i] g[i] (by simp[d]) (by simp[j]));simpa using this
 |_=>exact vP e h
def vQ{la:o_}{mu:jn}{v:TR}(b:plain v=true):VR la mu v (FS v):=by
 cases v with
 |agg e=>
  simp only[FS];refine .agg (by simp) λi x y c d=>?_;have a:=cL (f:=jL) (i:=i) (x:=x) b (by simpa using c);rw[Array.getElem?_map,c]at d;cases d;exact rI a
 |_=>exact rI b
def Ns{C:ke}{c:Nat}{la:o_}{mu:jn}{g9:St}{a:Act}{w:TS}(h:SR C c la mu g9 a.tmps w){o:Oper}{v:TR}
  (k:nu C g9.tmps o v):wq C.P la mu (execOp a.eval o) w v:=by
 obtain⟨d,f,g,i⟩:=k;have j:execOp a.eval o=execOp (λx=>FS (h9 g9.tmps x)) o:=execOp_congr o (λm b e=>by rw[e]at d;cases d) λx l=>
  zU (A5.1 f x (by simpa using l)) (aM h x)
 exact⟨FS v,by rw[j];exact i w,vQ g⟩
section
variable {C:ke} {la:o_} {mu:jn} {w:TS}
def VR.bool{b:Bool}{c:TR}(h:VR la mu (.bool b) c):c = .bool b:=cJ rfl h
def VR.int{k:TL}{n:Int}{c:TR}(h:VR la mu (.int k n) c):c = .int k n:=cJ rfl h
def kT{v c:TR}{n:Int}(a:intOf v=some n)(h:VR la mu v c):∃k,c = .int k n:=by
 cases v<;>simp[intOf]at a;subst a;exact⟨_,h.int⟩
def zL{t:TP}{cs ds:Tl}{off:Nat}{v:TR}(c:xI C t cs off=some v)(h:t0 la mu cs.toList ds.toList) :
  ∃v',(part t ds off).run C.P w = .ok v' w/\VR la mu v v':=by
 unfold xI at c;cases g:C.P.underlying t with
 |none=>rw[g]at c;cases c
 |some d=>
  obtain⟨i,o⟩:=fU g;have e:=vW g w;have k:=bK o w;rw[g]at c;have j:cs.size=ds.size:=by simpa using h.1
  have f:re d=true->some (Value.agg (cs.extract off (off+C.P.cellsOf t)))=some v->
    ∃v',(part t ds off).run C.P w = .ok v' w/\VR la mu v v':=by
   intro a l;cases l;refine⟨.agg (ds.extract off (off+C.P.cellsOf t)),by simp[part,e,a,k],t0.agg ?_⟩;simp only[Array.toList_extract,List.extract];exact(h.drop _).take _
  have b:re d=false->cs[off]?=some v->
    ∃v',(part t ds off).run C.P w = .ok v' w/\VR la mu v v':=by
   intro a l;obtain⟨v',m,n⟩:=h.get (i:=off) (by simpa using l);exact⟨v',by simp[part,e,a,(by simpa using m:ds[off]?=some v')],n⟩
  cases d<;>first|exact f rfl c|exact b rfl c
def Mx{t:TP}{x y v:TR}{f:Nat}(a:uT C t x f=some v)(h:VR la mu x y):∃v',(Instr.field t y f).run C.P w = .ok v' w/\VR la mu v v':=by
 unfold uT at a;split at a
 next d j i=>
  obtain⟨k,rfl,b⟩:=h.LS;cases c:d[f]? with
  |none=>rw[c]at a;cases a
  |some l=>
   rw[c]at a;obtain⟨v',e,g⟩:=zL (w:=w) a b;exact⟨v',by simp[Instr.field,run_underlying i,c,asAgg,e],g⟩
 .cases a
def MF{t:TP}{x y i j v:TR}(c:mZ C t x i=some v)(h:VR la mu x y)(o:VR la mu i j):∃v',(Instr.index t y j).run C.P w = .ok v' w/\VR la mu v v':=by
 unfold mZ at c;split at c
 .cases c
 next n A=>
  obtain⟨k,rfl⟩:=kT A o;split at c
  next D e E p=>
   obtain⟨F,rfl,g⟩:=h.LS;split at c
   next f=>
    have l:∃i,C.P.info? e=some i:=by
     unfold xI at c;cases q:C.P.underlying e with
     |none=>rw[q]at c;cases c
     |some d=>exact fU q
    obtain⟨i,z⟩:=l;obtain⟨v',r,u⟩:=zL (w:=w) c g;exact⟨v',by simp[Instr.index,asIntOf,run_underlying p,f.1,f.2,bK z,r],u⟩
   .cases c
  next s p=>
   have B:=cJ (a:=.string s) rfl h;subst B;split at c
   next f=>
    cases m:s[n.toNat]? with
    |none=>rw[m]at c;cases c
    |some b=>
     rw[m]at c;cases c;exact⟨_,by simp[Instr.index,asIntOf,run_underlying p,f,m],.scalar rfl⟩
   .cases c
  .cases c
def VR.K'{a:Addr}{c:TR}(h:VR la mu (.pointer (some a)) c)(n:Nat):∃d:Addr,c = .pointer (some d)/\d.spot=none/\VR la mu (.pointer (some { a with off:=a.off+n })) (.pointer (some (d.add n))):=by
 cases h with
 |scalar h=>simp[Am.scalar]at h
 |En h=>exact⟨_,rfl,rfl,by rw[bW];exact .En h⟩
 |DG h=>exact⟨_,rfl,rfl,by rw[bW,QQ];exact .DG h⟩
 |DQ=>exact⟨_,rfl,rfl,by rw[bW,QQ];exact .DQ⟩
def sN{t:TP}{x y v:TR}{f:Nat}(b:gn C t x f=some v)(h:VR la mu x y):∃v',(Instr.fieldAt t y f).run C.P w = .ok v' w/\VR la mu v v':=by
 unfold gn at b;split at b
 next n a l=>
  split at b
  next c g=>
   split at b
   .cases b
   next e=>
    cases b;obtain⟨i,j⟩:=fX e;obtain⟨d,rfl,k,m⟩:=h.K' c.offset;refine⟨.pointer (some (d.add c.offset)),?_,m⟩;simp[Instr.fieldAt,run_underlying l,g,Instr.sureAddr,fieldPlace,bK j,e]
  .cases b
 .cases b
def ti{t:TP}{x y i j v:TR}(c:fm C t x i=some v)(h:VR la mu x y)(s:VR la mu i j):∃v',(Instr.indexAt t y j).run C.P w = .ok v' w/\VR la mu v v':=by
 unfold fm at c;split at c
 .cases c
 next n D=>
  obtain⟨k,rfl⟩:=kT D s;split at c
  next A e a q=>
   split at c
   .cases c
   next z=>
    obtain⟨i,m⟩:=fX z;split at c
    next f=>
     cases c;obtain⟨d,rfl,E,F⟩:=h.K' (n.toNat*C.P.cellsOf e);exact⟨_,by simp[Instr.indexAt,asIntOf,run_underlying q,Instr.sureAddr,f.1,f.2,bK m],F⟩
    .cases c
  next e a A G q=>
   split at c
   .cases c
   next z=>
    obtain⟨i,m⟩:=fX z;split at c
    next f=>
     cases c;cases h with
     |scalar h=>simp[Am.scalar]at h
     |x9 h H B u=>
      rename_i id l r p
      refine⟨.pointer (some ⟨p.b,p.o+(l+n.toNat*C.P.cellsOf e),none⟩),?_,by rw[qs (by simp[le])];exact .DG h⟩;simp[Instr.indexAt,asIntOf,run_underlying q,f.1,f.2,bK m,bW,QQ]
     |wb u=>simp at f;omega
     |CA B u=>
      rename_i g l r
      refine⟨.pointer (some ⟨Ek g,Ft g+(l+n.toNat*C.P.cellsOf e),none⟩),?_,by rw[n_ rfl];exact .DQ⟩;simp[Instr.indexAt,asIntOf,run_underlying q,f.1,f.2,bK m,bW,QQ]
     |y_ u=>simp at f;omega
    .cases c
  .cases c
end
end
section
variable [Cf] [D1]
section
variable {C:ke} {la:o_} {mu:jn} {w:TS}
def Fq(la:o_)(mu:jn):Tk->Tk->Prop
 |none,none=>True
 |some a,some b=>VR la mu a b
 |_,_=>False
abbrev _root_.Th:=Option Operand
def Fq.map{f g:Tg}(x:Th)(h:∀x,VR la mu (f x) (g x)):Fq la mu (x.map f) (x.map g):=by
 cases x with
 |none=>trivial
 |some x=>exact h x
def dS{x y:Tk}{r:Tt}(a:iy x=some r)(h:Fq la mu x y) :
  (r=none/\y=none)∨(∃k n,r=some n/\y=some (.int k n)):=by
 cases x with
 |none=>
  cases y with
  |none=>simp[iy]at a;exact .inl ⟨a.symm,rfl⟩
  |some _=>exact h.elim
 |some x=>
  cases y with
  |none=>exact h.elim
  |some y=>
   cases x<;>simp[iy]at a
   rename_i k n
   have:=VR.int h;exact .inr ⟨k,n,a.symm,by rw[this]⟩
def bZ{k:TL}{n:Int}{y:Nat}{code:BoundsCode}(h0:0<=n)(h1:n<=y)(w:TS):(Instr.sliceBound (.int k n) y code).run C.P w = .ok n.toNat w:=by
 simp[Instr.sliceBound,asIntOf,h0,h1]
def Bw{q i j:Tt}{f d g:Tk}{a:Bool}{len cap:Nat}
  (e:(q=none/\f=none)∨(∃k n,q=some n/\f=some (.int k n))) (p:(i=none/\d=none)∨(∃k n,i=some n/\d=some (.int k n)))
  (v:(j=none/\g=none)∨(∃k n,j=some n/\g=some (.int k n)))
  (h0:0<=q.getD 0) (h1:q.getD 0<=i.getD len) (b:i.getD len<=j.getD cap) (c:j.getD cap<=cap) (z:j.isNone∨i.isSome) (w:TS) :
  (Instr.sliceBounds a len cap f d g).run C.P w = .ok ((q.getD 0).toNat,(i.getD len).toNat,(j.getD cap).toNat) w:=by
 rcases v with⟨rfl,rfl⟩|⟨x,m,rfl,rfl⟩
 .rcases p with⟨rfl,rfl⟩|⟨r,h,rfl,rfl⟩
  .rcases e with⟨rfl,rfl⟩|⟨s,l,rfl,rfl⟩
   .simp[Instr.sliceBounds]
   .simp at h0 h1 b c;simp[Instr.sliceBounds,bZ h0 h1]
  .rcases e with⟨rfl,rfl⟩|⟨s,l,rfl,rfl⟩
   .simp at h0 h1 b c;simp[Instr.sliceBounds,bZ h1 b]
   .simp at h0 h1 b c;have o:=bZ (C:=C) (k:=r) (code:=if a then .sliceAcap else .sliceAlen) (by omega) b w;have u:=bZ (C:=C) (k:=s) (y:=h.toNat) (code:=.sliceB) h0 (by omega) w;simp[Instr.sliceBounds,o,u]
 .rcases p with⟨rfl,rfl⟩|⟨r,h,rfl,rfl⟩
  .simp at z
  .rcases e with⟨rfl,rfl⟩|⟨s,l,rfl,rfl⟩
   .simp at h0 h1 b c;have t:=bZ (C:=C) (k:=x) (code:=if a then .slice3Acap else .slice3Alen) (by omega) c w;have o:=bZ (C:=C) (k:=r) (y:=m.toNat) (code:=.slice3B) (by omega) (by omega) w;simp[Instr.sliceBounds,t,o]
   .simp at h0 h1 b c;have t:=bZ (C:=C) (k:=x) (code:=if a then .slice3Acap else .slice3Alen) (by omega) c w;have o:=bZ (C:=C) (k:=r) (n:=h) (y:=m.toNat) (code:=.slice3B) (by omega) (by omega) w;have u:=bZ (C:=C) (k:=s) (y:=h.toNat) (code:=.slice3C) h0 (by omega) w;simp[Instr.sliceBounds,t,o,u]
def qD{t b:TP}{a:Addr}{len cap l h m:Nat}{e d f:Tk}{i:TypeInfo}(j:C.P.underlying t=some (.slice b))(c:C.P.info? b=some i)
  (g:(Instr.sliceBounds true len cap e d f).run C.P w = .ok (l,h,m) w) :
  (Instr.sliceAt t (.slice (some a) len cap) e d f).run C.P w = .ok (.slice (if m=l then some a else some (a.add (l*C.P.cellsOf b))) (h - l) (m - l)) w:=by
 simp only[Instr.sliceAt,Instr.slice,Sem.run_bind,run_underlying j,Result.andThen_ok];simp[g,bK c]
def Nj{t:TP}{x y v:TR}{Z L mx D B E:Tk}(j:Ai C t x Z L mx=some v)(h:VR la mu x y)
  (U:Fq la mu Z D) (Q:Fq la mu L B) (V:Fq la mu mx E):∃v',(Instr.sliceAt t y D B E).run C.P w = .ok v' w/\VR la mu v v':=by
 unfold Ai at j;split at j
 next X H c q F e3=>
  have r1:=dS q U;have r2:=dS F Q;have r3:=dS e3 V;split at j
  next s a len Y hu=>
   split at j
   .cases j
   next hz=>
    obtain⟨i,L⟩:=fX hz;split at j
    .cases j
    next I=>
     split at j
     next O=>
      obtain⟨S,T,k⟩:=O;cases j;generalize R:X.getD 0=l at *;generalize G:H.getD (len:Int)=hv at *;have K:∀(d:Addr) (cap:Nat),len<=cap->(Y=0∨Y=cap+1)->
        (Instr.sliceAt t (.slice (some d) len cap) D B E).run C.P w =
         .ok (.slice (if (c.getD (cap:Int)).toNat=l.toNat then some d else some (d.add (l.toNat*C.P.cellsOf s))) (hv.toNat - l.toNat) ((c.getD (cap:Int)).toNat - l.toNat)) w/\
        hv<=c.getD (cap:Int)/\c.getD (cap:Int)<=cap:=by
       intro d cap r ag;have N:hv<=c.getD (cap:Int)/\c.getD (cap:Int)<=cap:=by
        cases c with
        |none=>simp only[bT,G]at k;simp;omega
        |some m=>simp only[bT,G]at k;simp;omega
       have b3:c.isNone∨H.isSome:=by
        cases c with
        |none=>exact .inl rfl
        |some m=>exact .inr k.1
       refine⟨qD hu L ?_,N⟩;rw[Bw (len:=len) (cap:=cap) r1 r2 r3 (by rw[R];exact S) (by rw[R,G];exact T) (by rw[G];exact N.1) N.2 b3 w,R,G]
      cases h with
      |scalar h=>simp[Am.scalar]at h
      |x9 h hr r J=>
       rename_i id f cap p
       obtain⟨e,z,A⟩:=K ⟨p.b,p.o+f,none⟩ cap r J;refine⟨_,e,?_⟩;have W:C.P.cellsOf s=p.p_:=by simp[le]at I;exact I.symm
       rw[W];split
       next n=>
        have q:hv.toNat - l.toNat=0:=by omega
        have F:(c.getD (cap:Int)).toNat - l.toNat=0:=by omega
        rw[q,F];refine .wb ?_;cases c with
        |none=>simp[bL]at n ⊢;omega
        |some m=>simp[bL]at n ⊢;omega
       next n=>
        rw[bW,QQ];refine .x9 h ?_ (by omega) ?_
        .have:(l.toNat+((c.getD (cap:Int)).toNat - l.toNat))*p.p_<=cap*p.p_:=QS _ (by omega);rw[Jh]at this;show f+l.toNat*p.p_+_<=p.room;omega
        .cases c with
         |none=>simp[bL]at n ⊢;omega
         |some m=>simp[bL]at n ⊢
      |wb J=>
       rename_i id f ad M
       obtain⟨e,z,A⟩:=K M 0 (by omega) (by omega);refine⟨_,e,?_⟩;have u:(c.getD ((0:Nat):Int)).toNat=l.toNat:=by omega
       have q:hv.toNat - l.toNat=0:=by omega
       rw[n_ u,q,u,Wj];refine .wb ?_;cases c with
       |none=>simp[bL];omega
       |some m=>simp[bL]at u ⊢;omega
      |CA r J=>
       rename_i g f cap
       obtain⟨e,z,A⟩:=K ⟨Ek g,Ft g+f,none⟩ cap r J;refine⟨_,e,?_⟩;split
       next n=>
        have q:hv.toNat - l.toNat=0:=by omega
        have F:(c.getD (cap:Int)).toNat - l.toNat=0:=by omega
        rw[q,F];refine .y_ ?_;cases c with
        |none=>simp[bL]at n ⊢;omega
        |some m=>simp[bL]at n ⊢;omega
       next n=>
        rw[bW,QQ];refine .CA (by omega) ?_;cases c with
        |none=>simp[bL]at n ⊢;omega
        |some m=>simp[bL]at n ⊢
      |y_ J=>
       rename_i g f M
       obtain⟨e,z,A⟩:=K M 0 (by omega) (by omega);refine⟨_,e,?_⟩;have u:(c.getD ((0:Nat):Int)).toNat=l.toNat:=by omega
       have q:hv.toNat - l.toNat=0:=by omega
       rw[n_ u,q,u,Wj];refine .y_ ?_;cases c with
       |none=>simp[bL];omega
       |some m=>simp[bL]at u ⊢;omega
     .cases j
  .cases j
 .cases j
def MB{vs cs:Tn}(off:Nat):∀(xs ys:Tn) (k:Nat),t0 la mu vs cs->t0 la mu xs ys->
  t0 la mu ((xs.zipIdx k).foldl (λ(a:Tl) (c,j)=>a.setIfInBounds (off+j) c) vs.toArray).toList
   ((ys.zipIdx k).foldl (λ(a:Tl) (c,j)=>a.setIfInBounds (off+j) c) cs.toArray).toList:=by
 intro xs
 induction xs generalizing vs cs with
 |nil=>
  intro ys k h b;obtain rfl:=b.unnil;simpa using h
 |cons x xs i=>
  intro ys k h b;obtain⟨y,ys,rfl,f,g⟩:=b.Hl;simp only[List.zipIdx_cons,Wn];have d:vs.toArray.setIfInBounds (off+k) x=(vs.set (off+k) x).toArray:=by simp
  have e:cs.toArray.setIfInBounds (off+k) y=(cs.set (off+k) y).toArray:=by simp
  rw[d,e];exact i ys (k+1) (h.set _ f) g
def Kb(pl:Nat->Option (Nat×Nat)):∀(m a:List (Nat×Value)) (vs cs r:Tl),t0 la mu vs.toList cs.toList->
  (m.length=a.length/\∀(i:Nat) p q,m[i]?=some p->a[i]?=some q->p.1=q.1/\aD p.2=false/\VR la mu p.2 q.2)->
  Instr.fill pl vs m=some r->∃r',Instr.fill pl cs a=some r'/\t0 la mu r.toList r'.toList:=by
 intro m
 induction m with
 |nil=>
  intro a vs cs r h l b;have:a=[]:=by have:=l.1;cases a<;>simp_all
  subst this;simp[Instr.fill]at b;subst b;exact⟨cs,by simp[Instr.fill],h⟩
 |cons p m G=>
  intro a vs cs r h l b;cases a with
  |nil=>have:=l.1;simp at this
  |cons q a=>
   obtain⟨D,n⟩:=l;obtain⟨e,z,A⟩:=n 0 p q rfl rfl;obtain⟨i,x⟩:=p;obtain⟨j,y⟩:=q;simp only at e z A;subst e;have v:=A.cells z;have o:x.cells.size=y.cells.size:=by simpa using v.1
   have s:vs.size=cs.size:=by simpa using h.1
   unfold Instr.fill at b ⊢;split at b
   .cases b
   next g B E=>
    split at b
    .cases b
    next f=>
     rw[qs (by rw[←o,←s];exact f)];refine G a _ _ r ?_ ⟨by simpa using D,λk p q l F=>n (k+1) p q (by simpa using l) (by simpa using F)⟩ b;have conv:∀(u t:Tl),(u.zipIdx.foldl (λ(d:Tl) (c,j)=>d.setIfInBounds (g+j) c) t)=u.toList.zipIdx.foldl (λ(d:Tl) (c,j)=>d.setIfInBounds (g+j) c) t:=by
      intro u t;rw[←hm,Array.toList_zipIdx]
     rw[conv,conv];have:=MB (la:=la) (mu:=mu) g x.cells.toList y.cells.toList 0 h v;simpa using this
def oE{i:TypeInfo}{z:TR}(h:lN i=some z):i.zero=some z/\z.cells.size=i.size/\flat z=true/\aD z=false:=by
 unfold lN at h;split at h
 next c b=>
  split at h
  next a=>cases h;exact⟨b,a⟩
  .cases h
 .cases h
def ku{P:TI}{t:TP}{z:TR}(h:eU P t=some z):∃i,P.info? t=some i/\i.zero=some z/\z.cells.size=i.size/\flat z=true/\aD z=false:=by
 unfold eU at h;cases a:P.info? t with
 |none=>rw[a]at h;cases h
 |some i=>rw[a,Dj]at h;exact⟨i,rfl,oE h⟩
def qm{P:TI}{t:TP}{z:TR}(h:eU P t=some z):z.cells.size=P.cellsOf t/\flat z=true/\aD z=false:=by
 obtain⟨i,a,_,b,c⟩:=ku h;exact⟨by rw[b];simp[Program.cellsOf,a],c⟩
def YQ(la:o_)(mu:jn)(a b:List (Nat×Value)):Prop:=a.length=b.length/\∀(i:Nat) p q,a[i]?=some p->b[i]?=some q->p.1=q.1/\aD p.2=false/\VR la mu p.2 q.2
def iY(P:TI)(w:TS):∀(a:List Field),(∀f∈a,(P.info? f.type).isSome=true)->
  (a.mapM λf=>(do pure (f.offset,←sizeOf f.type):Sem (Nat×Nat))).run P w = .ok (a.map λf=>(f.offset,P.cellsOf f.type)) w
 | [],_=>by simp
 |f :: a,h=>by
  obtain⟨i,c⟩:=xT.1 (h f (by simp));have d:=iY P w a λg b=>h g (by simp[b]);simp only[Wo,Sem.run_bind,bK c,Result.andThen_ok,Sem.run_pure,d,DD]
def L8{t:TP}{m:List (Nat×Value)}{A:Array (Nat×Value)}{v:TR}(d:ux C t m=some v)(G:YQ la mu m A.toList) :
  ∃v',(Instr.build t A).run C.P w = .ok v' w/\VR la mu v v':=by
 unfold ux at d;split at d
 next z pl c a=>
  cases h:Instr.fill pl z.cells m with
  |none=>rw[h]at d;cases d
  |some r=>
   rw[h]at d;cases d;have u:t0 la mu z.cells.toList z.cells.toList:=by
    refine⟨rfl,λi x y g B=>?_⟩;obtain rfl:x=y:=by rw[g]at B;exact DU B
    have:=(qm c).2.1;cases z with
    |agg o=>exact .scalar (cL (f:=Am.scalar) this g)
    |tuple o=>
     have E:(Value.tuple o).cells.toList=[.tuple o]:=rfl;rw[E]at g;cases i with
     |zero=>simp at g;subst g;exact .of_flat this
     |succ i=>simp at g
    |_=>
     cases i with
     |zero=>simp[Value.cells]at g;subst g;exact .of_flat this
     |succ i=>simp[Value.cells]at g
   obtain⟨H,l,D⟩:=Kb pl m A.toList z.cells z.cells r u G h;refine⟨.agg H,?_,D.agg⟩;have k:(zeroValue t).run C.P w = .ok z w:=by
    obtain⟨i,q,l,_⟩:=ku c;simp[zeroValue,typeInfo,q,l]
   unfold ox at a;split at a
   next p s=>
    split at a
    next b=>
     cases a;have F:=iY C.P w p.toList (λf d=>by
      have:=Array.all_eq_true_iff_forall_mem.1 b f (by simpa using d);simpa using this)
     have j:(λ(i:Nat)=>(((p.toList.map λ(f:Field)=>(f.offset,C.P.cellsOf f.type)).toArray)[i]?:Option (Nat×Nat)))=λ(i:Nat)=>(p[i]?).map λ(f:Field)=>(f.offset,C.P.cellsOf f.type):=by
      funext i;simp
     simp only[Instr.build,Sem.run_bind,k,Result.andThen_ok,run_underlying s,qc9,Sem.run_map,F];rw[j,l];rfl
    .cases a
   next n e s=>
    split at a
    next b=>
     cases a;obtain⟨i,q⟩:=xT.1 b;simp only[Instr.build,Sem.run_bind,k,Result.andThen_ok,run_underlying s,bK q];rw[l];rfl
    .cases a
   .cases a
 .cases d
end
end
section
variable [Cf] [D1]
section
variable {C:ke} {la:o_} {mu:jn} {w:TS}
def cz.FJ{vs:Tn}{c:Tl}(h:t0 Cu mu vs c.toList):cz mu vs c 0:=by
 intro i v d;obtain⟨e,a,b⟩:=h.get d;exact⟨e,by simpa using a,b⟩
def cz.cut{vs xs:Tn}{c:Tl}{o off n:Nat}(h:cz mu vs c o)(e:cut vs off n=some xs) :
  ∃ys:List Value,ys.length=n/\t0 Cu mu xs ys/\∀(j:Nat) y,ys[j]?=some y->c[o+off+j]?=some y:=by
 unfold Am.cut at e;split at e
 next m=>
  cases e;refine⟨(List.range n).map λj=>c.getD (o+off+j) undef,by simp,⟨by simp;omega,?_⟩,?_⟩
  .intro i x y d a;have f:i<n:=by
    rcases Gk i n with h|h
    .exact h
    .rw[Gm (by simp;omega)]at a;cases a
   rw[lE,n_ f,t1]at d;obtain⟨l,b,g⟩:=h _ x d;simp[f]at a;subst a;rw[←QQ]at b;simpa[b]using g
  .intro j y a;have k:j<n:=by
    rcases Gk j n with h|h
    .exact h
    .rw[Gm (by simp;omega)]at a;cases a
   have d:∃x,vs[off+j]?=some x:=⟨vs[off+j]'(by omega),by simp⟩;obtain⟨x,d⟩:=d;obtain⟨l,b,_⟩:=h _ x d;simp[k]at a;rw[←QQ]at b;rw[b,←a];simp[b]
 .cases e
def sy{b:Nat}{c:Tl}{e:TP}{fr:Nat×Nat}(h:w.heap[b]?=some (.cells c e fr))(i:Nat):w.cell? ⟨b,i,none⟩=c[i]?:=by
 simp[World.cell?,h]
def mI{vs xs:Tn}{c:Tl}{o off n b:Nat}{e:TP}{fr:Nat×Nat}(h:cz mu vs c o)(i:cut vs off n=some xs)(g:w.heap[b]?=some (.cells c e fr)) :
  ∃ys:List Value,ys.length=n/\(loadCells ⟨b,o+off,none⟩ n).run C.P w = .ok ys.toArray w/\t0 Cu mu xs ys:=by
 obtain⟨ys,a,d,f⟩:=h.cut i;refine⟨ys,a,?_,d⟩;rw[←a];refine run_loadCells_list w _ ys λj v k=>?_;rw[bW,sy g];exact f j v k
def dX{vs:Tn}{c:Tl}{o off b:Nat}{e:TP}{fr:Nat×Nat}{t:TP}{v:TR}(h:cz mu vs c o)(g:dx C.P t vs off=some v)(q:w.heap[b]?=some (.cells c e fr)) :
  ∃v',(loadVar t ⟨b,o+off,none⟩).run C.P w = .ok v' w/\VR Cu mu v v':=by
 unfold dx at g;cases l:C.P.underlying t with
 |none=>rw[l]at g;cases g
 |some d=>
  rw[l]at g;obtain⟨i,u⟩:=fU l;have k:=vW l w;have n:=bK u w;have x:re d=true->((cut vs off (C.P.cellsOf t)).map λr=>Value.agg r.toArray)=some v->∃v',(loadVar t ⟨b,o+off,none⟩).run C.P w = .ok v' w/\VR Cu mu v v':=by
   intro f j;cases a:cut vs off (C.P.cellsOf t)with
   |none=>rw[a]at j;cases j
   |some A=>
    rw[a]at j;cases j;obtain⟨z,p,m,s⟩:=mI (C:=C) h a q;exact⟨.agg z.toArray,by simp[loadVar,k,f,n,m],t0.agg (by simpa using s)⟩
  have y:re d=false->vs[off]?=some v->∃v',(loadVar t ⟨b,o+off,none⟩).run C.P w = .ok v' w/\VR Cu mu v v':=by
   intro f j;obtain⟨v',p,m⟩:=h off v j;exact⟨v',by simp[loadVar,k,f,sy q,p],m⟩
  cases d<;>first|exact x rfl g|exact y rfl g
def jN{b:Nat}{c cs:Tl}{e:TP}{fr:Nat×Nat}(h:w.heap[b]?=some (.cells c e fr)):(w.setRow b cs).heap=w.heap.setIfInBounds b (.cells cs e fr):=by
 have d:b<w.heap.size:=(Is.1 h).1;apply Array.ext (by simp[World.setRow]);intro k i j;have f:(w.setRow b cs).heap[k]?=(w.heap.setIfInBounds b (.cells cs e fr))[k]?:=by
  by_cases a:k=b
  .subst a;rw[setRow_heap w k c cs e fr h];simp[d]
  .rw[setRow_other w b k cs a,e5 (De a)]
 have g:=qcn i;have e3:=qcn j;rw[g,e3]at f;exact DU f
def w_(c:Tl)(at_:Nat)(ys:Tn):Tl:=(c.toList.take at_++ys++c.toList.drop (at_+ys.length)).toArray
def gU{c:Tl}{at_:Nat}{ys:Tn}(h:at_+ys.length<=c.size):(w_ c at_ ys).size=c.size:=by
 simp[w_];omega
def nl{c:Tl}{at_:Nat}{ys:Tn}(h:at_+ys.length<=c.size)(i:Nat) :
  (w_ c at_ ys)[i]?=if at_<=i/\i<at_+ys.length then ys[i - at_]? else c[i]?:=by
 have a:(c.toList.take at_).length=at_:=by simp;omega
 simp only[w_,List.getElem?_toArray];by_cases b:i<at_
 .rw[EC,GD (by omega),lE,n_ b,qs (by omega)];simp
 .rw[EC,Hb (by omega),a];by_cases d:i<at_+ys.length
  .rw[GD (by omega),n_ ⟨by omega,d⟩]
  .rw[Hb (by omega),t1,qs (by omega)];have:at_+ys.length+(i - at_ - ys.length)=i:=by omega
   rw[this];simp
def BD{vs b xs:Tn}{off:Nat}(c:q9 vs off xs=some b)(i:Nat) :
  b[i]?=if off<=i/\i<off+xs.length then xs[i - off]? else vs[i]?:=by
 unfold Am.q9 at c;split at c
 next f=>
  cases c;have a:(vs.take off).length=off:=by simp;omega
  by_cases d:i<off
  .rw[EC,GD (by omega),lE,n_ d,qs (by omega)]
  .rw[EC,Hb (by omega),a];by_cases e:i<off+xs.length
   .rw[GD (by omega),n_ ⟨by omega,e⟩]
   .rw[Hb (by omega),t1,qs (by omega)]
    congr 1;omega
 .cases c
def gZ{vs a xs:Tn}{off:Nat}(b:q9 vs off xs=some a):a.length=vs.length/\off+xs.length<=vs.length:=by
 unfold Am.q9 at b;split at b
 .cases b;simp;omega
 .cases b
def rS{f:TR->Bool}{vs a xs:Tn}{off:Nat}(b:q9 vs off xs=some a)(h1:vs.all f=true)(d:xs.all f=true):a.all f=true:=by
 unfold Am.q9 at b;split at b
 .cases b;rw[qdq,qdq,te,te];refine⟨⟨A5.2 λx c=>A5.1 h1 x (ND c),d⟩,A5.2 λx c=>A5.1 h1 x (pD c)⟩
 .cases b
def cz.q9{vs b xs ys:Tn}{c:Tl}{o off:Nat}(h:cz mu vs c o)(e:q9 vs off xs=some b)(f:t0 Cu mu xs ys)(k:o+vs.length<=c.size) :
  cz mu b (w_ c (o+off) ys) o:=by
 have n:=gZ e;have l:=f.1;intro i v a;rw[BD e]at a;rw[nl (by omega)];by_cases d:off<=i/\i<off+xs.length
 .rw[n_ d]at a;rw[n_ (by omega)];obtain⟨m,g,j⟩:=f.get a;exact⟨m,by rw[show o+i - (o+off)=i - off by omega];exact g,j⟩
 .rw[qs d]at a;rw[qs (by omega)];exact h i v a
def gR{xs ys:Tn}(e:t0 la mu xs ys)(h:xs.all bg=true):∀y∈ys,y.oneCell'=true:=by
 intro y g;obtain⟨i,c⟩:=DZ g;have f:i<ys.length:=by
  rcases Gk i ys.length with h|h
  .exact h
  .rw[Gm h]at c;cases c
 have b:i<xs.length:=by have:=e.1;omega
 have a:=cL h (show xs[i]?=some xs[i]by simp[b]);simp only[bg,te]at a;have d:=e.2 i xs[i] y (by simp[b]) c;have:=mi a.2 d;cases y<;>first|rfl|exact(xA a.2 d).elim|(simp[aR]at this)
def dO{c:Tl}{e:TP}{b at_:Nat}{ys:Tn}(a:w.heap[b]?=some (.cells c e (0,0)))(d:at_+ys.length<=c.size)(h1:∀y∈ys,y.oneCell'=true) :
  (storeCells ⟨b,at_,none⟩ ys).run C.P w = .ok () (w.setRow b (w_ c at_ ys)):=by
 have:=run_storeCells_at C.P b at_ e ys 0 c w a (by simpa using d) h1;simpa[w_]using this
def nr{c:Tl}{e t:TP}{b at_:Nat}{x y:TR}(l:aD x=false)(m:VR la mu x y)(j:x.cells.size=C.P.cellsOf t/\(C.P.info? t).isSome=true)(a:x.cells.toList.all bg=true)
  (g:w.heap[b]?=some (.cells c e (0,0))) (n:at_+x.cells.size<=c.size) :
  (storeVar t ⟨b,at_,none⟩ y).run C.P w = .ok () (w.setRow b (w_ c at_ y.cells.toList)):=by
 have f:=m.cells l;have k:x.cells.size=y.cells.size:=by simpa using f.1
 obtain⟨i,h⟩:=xT.1 j.2;have d:=dO (C:=C) (at_:=at_) (ys:=y.cells.toList) g (by simp;omega) (gR f a);simp[storeVar,bK h,show y.cells.size=C.P.cellsOf t by omega,d]
end
end
section
variable [Cf] [D1]
def Hw(C:ke)(b:Nat)(mu:jn)(H:Tu)(w:TS)(s:Sem Next)(H':Tu)(v:Value):Prop:=
 ∃c v' w' a,s.run C.P w = .ok c w'/\(c = .value v'∨(c = .skip/\v'=undef))/\VR Cu a v v'/\WR C b a H' w'/\Ee H mu w H' a w'/\kO mu a H' w'
def oF(C:ke)(g:Nat)(la:o_)(mu:jn)(g9:St)(w:TS)(s:Sem Next):DM->Prop
 | .val v=>wq C.P la mu s w v
 | .Fv _ vs=>∃a e,s.run C.P w = .ok (.value (.pointer (some ⟨w.heap.size,0,none⟩))) (w.alloc (.cells a e))/\t0 Cu mu vs a.toList/\vs.all bg=true
 | .G4 k f=>∀vs v,g9.loc[k]?=some (some vs)->f vs=some v->wq C.P la mu s w v
 | .Fw k f=>∀vs d,g9.loc[k]?=some (some vs)->f vs=some d->∃b c cs e,la k=some b/\w.heap[b]?=some (.cells c e (0,0))/\s.run C.P w = .ok .skip (w.setRow b cs)/\t0 Cu mu d cs.toList/\d.all bg=true
 | .ET f=>∀v,f g9.heap=some v->wq C.P la mu s w v
 | .F2 f=>∀H' v,f g9.heap=some (H',v)->Hw C g mu g9.heap w s H' v
 | .call f args=>∃args':Array Value,t0 Cu mu args args'.toList/\s.run C.P w=(callFunc f args').run C.P w
 | .yield l args=>∃p args',mu l=some p/\t0 Cu mu args (args':Tl).toList/\s.run C.P w=(Instr.yield p.b args').run C.P w
section
variable {C:ke} {base:Nat} {la:o_} {mu:jn} {g9:St} {a:Act} {w:TS}
def qX{v c:TR}{p:Nat×Nat}(d:iP v=some p)(h:VR la mu v c):∃q,mu p.1=some q/\c = .pointer (some ⟨q.b,q.o+p.2,none⟩):=by
 unfold iP at d;split at d
 next a=>
  split at d
  next e=>
   cases d;cases h with
   |scalar h=>simp[Am.scalar]at h
   |En h=>simp at e
   |DG h=>exact⟨_,h,rfl⟩
   |DQ=>simp at e
  .cases d
 .cases d
def qV{v c:TR}{p:Nat×Nat}(b:gN v=some p)(h:VR la mu v c):c = .pointer (some ⟨Ek p.1,Ft p.1+p.2,none⟩):=by
 unfold gN at b;split at b
 next a=>
  split at b
  next d=>
   cases b;cases h with
   |scalar h=>simp[Am.scalar]at h
   |En h=>simp at d
   |DG h=>simp at d
   |DQ=>rfl
  .cases b
 .cases b
def vz{v c:TR}{s off:Nat}(d:jI s v=some off)(h:VR la mu v c):∃b,la s=some b/\c = .pointer (some ⟨b,off,none⟩):=by
 unfold jI at d;split at d
 next a=>
  split at d
  next f=>
   cases d;obtain⟨e,rfl⟩:=f;cases h with
   |scalar h=>simp[Am.scalar]at h
   |En h=>exact⟨_,h,rfl⟩
   |DG h=>simp at e
   |DQ=>simp at e
  .cases d
 .cases d
def vo(l:WR C base mu g9.heap w){id:Nat}{vs:Tn}(h:gc g9.heap id=some vs){p:Pl}(j:mu id=some p) :
  ∃c e fr,w.heap[p.b]?=some (.cells c e fr)/\cz mu vs c p.o:=by
 unfold gc at h;split at h
 next n f m hY=>
  cases h;obtain⟨q,d,k⟩:=l.obj id _ hY rfl;obtain rfl:p=q:=by rw[j]at d;exact DU d
  obtain⟨_,_,_,c,e,fr,g,_,_,i⟩:=k;exact⟨c,e,fr,g,i⟩
 .cases h
def Kj(f:WR C base mu g9.heap w){g:Nat}{vs:Tn}(h:C.G g=some vs):∃c e fr,w.heap[Ek g]?=some (.cells c e fr)/\cz mu vs c (Ft g):=by
 obtain⟨_,_,c,e,fr,b,d⟩:=f.D2 g vs h;exact⟨c,e,fr,b,d⟩
def I2(h:SR C base la mu g9 a.tmps w){s b:Nat}{vs:Tn}(l:g9.loc[s]?=some (some vs))(k:la s=some b) :
  ∃c e,w.heap[b]?=some (.cells c e (0,0))/\t0 Cu mu vs c.toList/\vs.all bg=true:=by
 obtain⟨f,c,e,d,m,g,i,j,n⟩:=h.loc s vs l;obtain rfl:b=f:=by rw[k]at d;exact DU d
 exact⟨c,e,g,j,i⟩
def jo{c:TR}{t:TP}{d:Addr}{v':TR}(b:c = .pointer (some d))(h:(loadVar t d).run C.P w = .ok v' w):(Instr.loadAt t c).run C.P w = .ok v' w:=by
 subst b;simp[Instr.loadAt,Instr.sureAddr,h]
def AZ(h:SR C base la mu g9 a.tmps w){a_:TC}{t:TP}{x:TK}{e:DM}(d:dV C a_ t x (h9 g9.tmps x)=some e) :
  oF C base la mu g9 w (do pure (.value (←Instr.loadAt t (a.eval x)))) e:=by
 have u:=aM h x;unfold dV at d;split at d
 .cases g:iP (h9 g9.tmps x)with
  |none=>
   rw[g]at d;cases r:gN (h9 g9.tmps x)with
   |none=>rw[r]at d;cases d
   |some p=>
    rw[r]at d;cases d;have m:=qV r u;intro v f;simp only at f;cases o:C.G p.1 with
    |none=>rw[o]at f;cases f
    |some y=>
     rw[o,Dj]at f;obtain⟨c,e,A,i,j⟩:=Kj h.wr o;obtain⟨z,k,l⟩:=dX (C:=C) j f i;exact ie (jo m k) l.up
  |some p=>
   rw[g]at d;cases d;obtain⟨q,D,m⟩:=qX g u;intro v f;simp only at f;cases n:gc g9.heap p.1 with
   |none=>rw[n]at f;cases f
   |some y=>
    rw[n]at f;obtain⟨c,e,A,i,j⟩:=vo h.wr n D;obtain⟨z,k,l⟩:=dX (C:=C) j f i;exact ie (jo m k) l.up
 .cases g:gN (h9 g9.tmps x)with
  |none=>rw[g]at d;cases d
  |some p=>
   rw[g]at d;have m:=qV g u;cases o:C.G p.1 with
   |none=>rw[Dj,o]at d;cases d
   |some y=>
    rw[Dj,o,Dj]at d;cases f:dx C.P t y p.2 with
    |none=>rw[f]at d;cases d
    |some v=>
     rw[f]at d;cases d;obtain⟨c,e,A,i,j⟩:=Kj h.wr o;obtain⟨z,k,l⟩:=dX (C:=C) j f i;exact ie (jo m k) l.up
 next s _=>
  cases g:jI s (h9 g9.tmps x)with
  |none=>rw[g]at d;cases d
  |some F=>
   rw[g]at d;cases d;obtain⟨b,B,m⟩:=vz g u;intro y v E f;obtain⟨c,e,i,j,_⟩:=I2 h E B;obtain⟨z,k,l⟩:=dX (C:=C) (cz.FJ j) f i;exact ie (jo (by rw[m,EM]) k) l.up
def jO{t:TP}{x:TR}{vs b:Tn}{off:Nat}(h:fi C.P t x vs off=some b) :
  (x.cells.size=C.P.cellsOf t/\(C.P.info? t).isSome=true)/\x.cells.toList.all bg=true/\q9 vs off x.cells.toList=some b:=by
 unfold fi at h;split at h
 next c=>
  split at h
  next d=>exact⟨c,d,h⟩
  .cases h
 .cases h
def qc{c y:TR}{t:TP}{d:Addr}{w':TS}(b:c = .pointer (some d))(h:(storeVar t d y).run C.P w = .ok () w'):(Instr.storeAt t c y).run C.P w = .ok () w':=by
 subst b;simp[Instr.storeAt,Instr.sureAddr,h]
def WR.q9(k:WR C base mu g9.heap w){id:Nat}{vs d xs ys:Tn}{p_ off:Nat}{p:Pl}(hY:g9.heap[id]?=some (.cells vs p_ true))(i:mu id=some p)
  (g:Am.q9 vs off xs=some d) (l:t0 Cu mu xs ys) (f:xs.all bg=true) :
  ∃c e,w.heap[p.b]?=some (.cells c e (0,0))/\p.o+off+ys.length<=c.size/\
   WR C base mu (g9.heap.set id (.cells d p_ true)) (w.setRow p.b (w_ c (p.o+off) ys))/\Ee g9.heap mu w (g9.heap.set id (.cells d p_ true)) mu (w.setRow p.b (w_ c (p.o+off) ys)):=by
 obtain⟨q,j,u⟩:=k.obj id _ hY rfl;obtain rfl:p=q:=by rw[i]at j;exact DU j
 obtain⟨m,y,n,c,e,x,h,r,s,t⟩:=u;obtain rfl:=s rfl;have z:=gZ g;have v:=l.1;refine⟨c,e,h,by omega,?_⟩;refine k.set hY rfl i (jN h) rfl rfl rfl _ (λ_=>rfl) ?_;exact⟨m,by omega,rS g n f,_,e,_,rfl,by rw[gU (by omega)];exact r,λ_=>rfl,cz.q9 t g l (by omega)⟩
def yi(h:SR C base la mu g9 a.tmps w){a_:TC}{t:TP}{x z:TK}{e:DM}(d:fg C a_ t x (h9 g9.tmps x) (h9 g9.tmps z)=some e) :
  oF C base la mu g9 w (do Instr.storeAt t (a.eval x) (a.eval z);pure .skip) e:=by
 have R:=aM h x;have G:=aM h z;unfold fg at d;split at d
 .cases d
 next B=>
  simp only[Gb]at B;split at d
  .cases k:iP (h9 g9.tmps x)with
   |none=>rw[k]at d;cases d
   |some p=>
    rw[k]at d;cases d;obtain⟨q,W,I⟩:=qX k R;intro H' v m;unfold jU at m;split at m
    next K T hY=>
     cases g:fi C.P t (h9 g9.tmps z) K p.2 with
     |none=>rw[g]at m;cases m
     |some L=>
      rw[g]at m;cases m;obtain⟨H,j,r⟩:=jO g;have f:=G.cells B;obtain⟨c,e,D,E,F,U⟩:=h.wr.q9 hY W r (f.HF j) j;have l:=nr (C:=C) (at_:=q.o+p.2) B G H j D (by have:=f.1;simp at this E ⊢;omega);refine⟨.skip,undef,_,mu,?_,.inr ⟨rfl,rfl⟩,.undef,F,U,F.obj⟩;simp[qc I l]
    .cases m
  .cases d
  next s _=>
   cases k:jI s (h9 g9.tmps x)with
   |none=>rw[k]at d;cases d
   |some n=>
    rw[k]at d;cases d;obtain⟨b,N,I⟩:=vz k R;intro K L X g;obtain⟨H,j,r⟩:=jO g;obtain⟨c,e,D,E,F⟩:=I2 h X N;have f:=G.cells B;have Q:=gZ r;have Z:K.length=c.size:=by simpa using E.1
    have O:(h9 g9.tmps z).cells.size=(a.eval z).cells.size:=by simpa using f.1
    have l:=nr (C:=C) (at_:=n) B G H j D (by simp at Q;omega);refine⟨b,c,w_ c n (a.eval z).cells.toList,e,N,D,by simp[qc I l],?_,rS r F j⟩;have A:=cz.q9 (o:=0) (cz.FJ E) r (f.HF j) (by omega);rw[EM]at A;have J:(w_ c n (a.eval z).cells.toList).size=c.size:=gU (by simp at Q ⊢;omega);refine⟨by simp[J];omega,λi u y Y S=>?_⟩;obtain⟨u',M,V⟩:=A i u Y;rw[EM]at M;obtain rfl:u'=y:=by rw[Array.getElem?_toList,M]at S;exact DU S
    exact V
def ni(h:SR C base la mu g9 a.tmps w)(o:base<=w.heap.size){a_:TC}{dst:Tq}{t:TP}{v c:TR}{e:DM}(q:VR la mu v c)(f:cH C a_ dst t v=some e) :
  oF C base la mu g9 w (do pure (.value (←Instr.box t c))) e:=by
 unfold cH at f;split at f
 .cases f
 next l=>
  simp only[Gb]at l;have g:=q.cells l;split at f
  .cases f
  next d=>
   split at f
   .cases f
   next b=>
    simp only[Gb,ck]at b;split at f
    .cases f;exact⟨c.cells,t,by simp[Instr.box,newVar,newRow],g.HF b,b⟩
    .cases f;intro s u k;cases k;have j:=h.wr.new o (w':=w.alloc (.cells c.cells t)) (x:=.cells c.cells t) rfl rfl rfl rfl (.cells v.cells.toList (mG C.P t) true) ⟨w.heap.size,0,c.cells.size,mG C.P t⟩ rfl (by
      have p:v.cells.size=c.cells.size:=by simpa using g.1
      refine⟨rfl,by simp[p],b,c.cells,t,_,rfl,by simp,λ_=>rfl,λi u k=>?_⟩;obtain⟨r,m,n⟩:=(g.HF b).get k;exact⟨r,by simpa using m,n⟩) (λ_=>rfl)
     refine⟨.value (.pointer (some ⟨w.heap.size,0,none⟩)),_,_,_,by simp[Instr.box,newVar,newRow],.inl rfl,?_,j.1,j.2.1,j.2.2⟩;exact .DG (bM _ _ _)
end
end
section
variable [Cf] [D1]
section
variable {C:ke} {base:Nat} {la:o_} {mu:jn} {g9:St} {a:Act} {w:TS}
def WR.newRow(q:WR C base mu g9.heap w)(l:base<=w.heap.size){w':TS}{vs ys:Tn}{cs:Tl}{e:TP}{p_:Nat}(h:t0 Cu mu vs ys)(c:vs.all bg=true)
  (b:∀(i:Nat) y,ys[i]?=some y->cs[i]?=some y) (g:ys.length<=cs.size) (f:w'.heap=w.heap.push (.cells cs e)) (d:w'.os=w.os) (n:w'.tape=w.tape) (o:w'.output=w.output) (m:w.drawn<=w'.drawn:=by exact x5 _) :
  WR C base (Hs mu g9.heap.length ⟨w.heap.size,0,cs.size,p_⟩) (g9.heap++[.cells vs p_ true]) w'/\Ee g9.heap mu w (g9.heap++[.cells vs p_ true]) (Hs mu g9.heap.length ⟨w.heap.size,0,cs.size,p_⟩) w'/\kO mu (Hs mu g9.heap.length ⟨w.heap.size,0,cs.size,p_⟩) (g9.heap++[.cells vs p_ true]) w':=by
 refine q.new l f d n o _ _ rfl ⟨rfl,by have:=h.1;simp only;omega,c,cs,e,_,rfl,by simp,λ_=>rfl,λi v p=>?_⟩ (λ_=>rfl) m;obtain⟨y,j,k⟩:=h.get p;exact⟨y,by simpa using b i y j,k⟩
def qU{z:TR}(b:flat z=true)(e:aD z=false):z.cells.toList.all scalar=true:=by
 cases z with
 |agg c=>exact b
 |tuple c=>
  have d:jB (.tuple c)=true:=by simpa[aD]using e
  simp[flat,gr d]at b
 |_=>simpa[Value.cells,flat,gk]using b
def gY{v:TR}(h:scalar v=true):bg v=true:=by
 unfold Am.scalar at h;split at h<;>first|rfl|cases h
def t0.scalars{vs:Tn}(h:vs.all scalar=true):t0 la mu vs vs:=by
 refine⟨rfl,λi x y b c=>?_⟩;obtain rfl:x=y:=by rw[b]at c;exact DU c
 exact .scalar (cL h b)
def yw{f g:TR->Bool}{vs:Tn}(h:vs.all f=true)(b:∀v,f v=true->g v=true):vs.all g=true:=
 A5.2 λx c=>b x (A5.1 h x c)
def BK{z:Tn}{n i:Nat}(h:i<n*z.length):(aN z n)[i]?=z[i%z.length]?:=by
 unfold aN
 induction n generalizing i with
 |zero=>simp at h
 |succ n d=>
  rw[o5,w5];by_cases c:i<z.length
  .rw[GD c,Nat.mod_eq_of_lt c]
  .rw[Hb (by omega)];have e:0<z.length:=by
    rcases Nat.eq_zero_or_pos z.length with b|b
    .rw[b]at h;simp at h
    .exact b
   rw[Jh,SI]at h;rw[d (by omega),←Nat.mod_eq_sub_mod (by omega)]
def fj{z:Tn}{n:Nat}:(aN z n).length=n*z.length:=by
 unfold aN
 induction n with
 |zero=>simp
 |succ n b=>rw[o5,w5,GA,b,Jh];omega
def jy{f:TR->Bool}{z:Tn}{n:Nat}(h:z.all f=true):(aN z n).all f=true:=by
 unfold aN;rw[List.all_flatten];refine A5.2 λl b=>?_;rw[List.mem_replicate]at b;rw[b.2];exact h
def kX{z:Tl}{n m:Nat}(d:z.size≠0)(h:m=n*z.size)(i:Nat)(c:i<m):(madeCells z m)[i]?=(aN z.toList n)[i]?:=by
 rw[BK (by simp;omega)];have b:i%z.size<z.size:=It _ (by omega);simp only[madeCells,Array.getElem?_map];rw[Array.getElem?_range,n_ c];simp[b]
def tA(h:SR C base la mu g9 a.tmps w)(L:base<=w.heap.size){t:TP}{l c:TK}{H':Tu}{v:TR}
  (f:dz C t (h9 g9.tmps l) (h9 g9.tmps c) g9.heap=some (H',v)):Hw C base mu g9.heap w (do pure (.value (←Instr.makeSlice t (a.eval l) (a.eval c)))) H' v:=by
 unfold dz at f;split at f
 next E d g F K O=>
  split at f
  next b M=>
   split at f
   .cases f
   next N=>
    split at f
    next z k=>
     obtain⟨o,p,B,D⟩:=oE k
     first
     |skip
      split at f
      next u=>
       cases f;obtain⟨G,H,S,T⟩:=u;obtain⟨R,J⟩:=kT F (aM h l);obtain⟨Q,I⟩:=kT K (aM h c);have j:(b.bytes:Int)*d<=281474976710656:=by
        have F:(b.bytes:Int)*d<=4096*d:=a8 (by omega) (by omega);omega
       have q:=run_make (P:=C.P) w t g b z O M o R Q E d G H j (by omega);have r:=qU B D;have m:(madeCells z.cells (d.toNat*b.size)).size=d.toNat*b.size:=by simp[madeCells]
       have s:=h.wr.newRow L (w':=w.alloc (.cells (madeCells z.cells (d.toNat*b.size)) g)) (p_:=b.size) (t0.scalars (la:=Cu) (mu:=mu) (jy (n:=d.toNat) r)) (yw (jy r) λ_=>gY)
        (cs:=madeCells z.cells (d.toNat*b.size)) (e:=g) (λi y A=>by
         have x:i<d.toNat*b.size:=by
          rcases Gk i (d.toNat*b.size)with h|h
          .exact h
          .rw[Gm (by rw[fj];simp[p];exact h)]at A;cases A
         rw[kX (n:=d.toNat) (by omega) (by rw[p]) i x];exact A) (by rw[fj,m];simp[p]) rfl rfl rfl rfl
       refine⟨.value (.slice (some ⟨w.heap.size,0,none⟩) E.toNat d.toNat),_,_,_,by rw[J,I];simp[q],.inl rfl,?_,s.1,s.2.1,s.2.2⟩;have:=VR.x9 (la:=Cu) (id:=g9.heap.length) (off:=0) (len:=E.toNat) (cap:=d.toNat) (cx:=d.toNat+1) (bM mu g9.heap.length ⟨w.heap.size,0,(madeCells z.cells (d.toNat*b.size)).size,b.size⟩)
        (by simp only[m];omega) (by omega) (.inr rfl)
       simpa using this
      .cases f
    .cases f
  .cases f
 .cases f
def My(pl:Nat->Option (Nat×Nat)):∀(e:List (Nat×Value)) (cs r:Tl),Instr.fill pl cs e=some r->r.size=cs.size:=by
 intro e
 induction e with
 |nil=>intro cs r h;simp[Instr.fill]at h;rw[h]
 |cons p e g=>
  intro cs r h;obtain⟨i,x⟩:=p;unfold Instr.fill at h;split at h
  .cases h
  .split at h
   .cases h
   .rw[g _ _ h];have:∀(l:List (Value×Nat)) (b:Tl) (d:Nat),(l.foldl (λ(b:Tl) (c,j)=>b.setIfInBounds (d+j) c) b).size=b.size:=by
     intro l
     induction l with
     |nil=>intro b d;rfl
     |cons y l f=>intro b d;rw[Wn,f];simp
    rw[←hm];exact this _ _ _
def MA{f:TR->Bool}(off:Nat):∀(l:List (Value×Nat)) (b:Tl),b.toList.all f=true->(∀p∈l,f p.1=true)->
  (l.foldl (λ(b:Tl) (c,j)=>b.setIfInBounds (off+j) c) b).toList.all f=true:=by
 intro l
 induction l with
 |nil=>intro b h _;exact h
 |cons y l k=>
  intro b h e;rw[Wn];refine k _ (A5.2 λx g=>?_) λp i=>e p (by simp[i]);simp only[Array.toList_setIfInBounds]at g;rcases t3 g with d|d
  .exact A5.1 h x d
  .rw[d];exact e y (by simp)
def O5{f:TR->Bool}(pl:Nat->Option (Nat×Nat)):∀(c:List (Nat×Value)) (cs r:Tl),cs.toList.all f=true->(∀p∈c,p.2.cells.toList.all f=true)->Instr.fill pl cs c=some r->r.toList.all f=true:=by
 intro c
 induction c with
 |nil=>intro cs r h _ b;simp[Instr.fill]at b;subst b;exact h
 |cons p c n=>
  intro cs r h j b;obtain⟨i,x⟩:=p;unfold Instr.fill at b;split at b
  .cases b
  next g k m=>
   split at b
   .cases b
   .refine n _ r ?_ (λq d=>j q (by simp[d])) b;rw[←hm,Array.toList_zipIdx];refine MA g _ _ h λq d=>?_;have e:=List.mem_zipIdx d;exact A5.1 (j (i,x) (by simp)) q.1 (by obtain⟨_,_,l⟩:=e;rw[l];exact List.getElem_mem _)
def qr(h:SR C base la mu g9 a.tmps w)(U:base<=w.heap.size){t:TP}{n:Nat}{q:List (Nat×Value)}{L:Array (Nat×Value)}{r:Nat×List Value}
  (V:YQ la mu q L.toList) (F:∀p∈q,p.2.cells.toList.all bg=true) (d:fz C t n q=some r) :
  Hw C base mu g9.heap w (do pure (.value (←Instr.buildSlice t n L))) (g9.heap++[.cells r.2 r.1 true]) (.slice (some ⟨g9.heap.length,0,le r.1⟩) n (n+1)):=by
 unfold fz at d;split at d
 next c Q=>
  split at d
  next b s=>
   split at d
   .cases d
   next E=>
    split at d
    .cases d
    next N=>
     split at d
     next z j=>
      obtain⟨l,o,I,K⟩:=oE j
      first
      |skip
       have u:=qU I K;cases f:Instr.fill (λi=>some (i*b.size,b.size)) (aN z.cells.toList n).toArray q with
       |none=>rw[f]at d;cases d
       |some cs=>
        rw[f]at d;cases d;have H:t0 la mu (aN z.cells.toList n) (aN z.cells.toList n):=t0.scalars (jy u);obtain⟨v,A,T⟩:=Kb (la:=la) (mu:=mu) _ q L.toList (aN z.cells.toList n).toArray (aN z.cells.toList n).toArray cs (by simpa using H) V f;have gc:cs.toList.all bg=true:=O5 _ q _ cs (by simpa using yw (jy u) λ_=>gY) F f;have k:v.size=n*b.size:=by
         rw[My _ _ _ _ A];simp[fj,o]
        have O:¬b.size=0:=E;have g:((Array.range (n*b.size)).map (z.cells[· % z.cells.size]!))=(aN z.cells.toList n).toArray:=by
         apply ad;intro i;rw[show((aN z.cells.toList n).toArray)[i]?=(aN z.cells.toList n)[i]? from by simp];by_cases D:i<n*b.size
         .exact kX (z:=z.cells) (n:=n) (m:=n*b.size) (by omega) (by rw[o]) i D
         .rw[aE (by simp;omega),Gm (by simp[fj,o];omega)]
        have B:=h.wr.newRow U (w':=w.alloc (.cells v c)) (p_:=b.size) (T.HF gc) gc (cs:=v) (e:=c) (λi y W=>by simpa using W) (by simp) rfl rfl rfl rfl;refine⟨.value (.slice (some ⟨w.heap.size,0,none⟩) n n),_,_,_,?_,.inl rfl,?_,B.1,B.2.1,B.2.2⟩
        .have x:¬(n*C.P.cellsOf c > 2 ^ 24):=by simp only[Program.cellsOf,s,EA,QU];omega
         have e3:C.P.cellsOf c=b.size:=by simp[Program.cellsOf,s]
         have J:(zeroValue c).run C.P w = .ok z w:=by simp[zeroValue,typeInfo,s,l]
         rw[e3]at x;by_cases S:n=0
         .subst S;have G:∀M:Array Value,((Array.range (0*b.size)).map (M[· % M.size]!))=(aN z.cells.toList 0).toArray:=λM=>by
           rw[Yz];simp[aN]
          simp only[Instr.buildSlice,Sem.run_bind,run_underlying Q,Result.andThen_ok,bK s,e3,n_ (Yz b.size),qs x,Sem.run_pure,G,A];simp[newRow]
         .have R:¬(n*b.size=0):=by
           simp only[Nat.mul_eq_zero];omega
          simp only[Instr.buildSlice,Sem.run_bind,run_underlying Q,Result.andThen_ok,bK s,e3,qs R,qs x,J,Sem.run_pure,g,A];simp[newRow]
        .have:=VR.x9 (la:=Cu) (id:=g9.heap.length) (off:=0) (len:=n) (cap:=n) (cx:=n+1) (bM mu g9.heap.length ⟨w.heap.size,0,v.size,b.size⟩) (by simp only[k];omega) (by omega) (.inr rfl);simpa using this
     .cases d
  .cases d
 .cases d
def kI(Y:WR C base mu g9.heap w){x y:TR}{p_:Nat}{new:Tn}{n:Nat}(g:VR la mu x y)(f:dU C g9.heap p_ x=some (new,n))(n':Nat)(w':TS)(U:w'.heap=w.heap) :
  ∃ys:List Value,(Builtin.lenOf y).run C.P w' = .ok n w'/\ys.length=n*p_/\t0 Cu mu new ys/\new.all bg=true/\
   (n'<=n->(Builtin.firstCells p_ n' y).run C.P w' = .ok (ys.take (n'*p_)).toArray w'):=by
 have i:∀ {r u:Tn} {c:Tl} {o l b m:Nat} {e:TP} {z:Nat×Nat},cz mu r c o->cut r l (m*p_)=some u->w.heap[b]?=some (.cells c e z)->r.all bg=true->
   ∃ys:List Value,ys.length=m*p_/\t0 Cu mu u ys/\u.all bg=true/\(n'<=m->(loadCells ⟨b,o+l,none⟩ (n'*p_)).run C.P w' = .ok (ys.take (n'*p_)).toArray w'):=by
  intro r u c o l b m e z hR d N A;obtain⟨ys,Z,g2,g3⟩:=hR.cut d;refine⟨ys,Z,g2,?_,λS=>?_⟩
  .unfold Am.cut at d;split at d
   .cases d;exact A5.2 λx g=>A5.1 A x (pD (ND g))
   .cases d
  .have K:n'*p_<=m*p_:=QS _ S;have D:(ys.take (n'*p_)).length=n'*p_:=by simp;omega
   have:=run_loadCells_list (P:=C.P) w' ⟨b,o+l,none⟩ (ys.take (n'*p_)) λj v J=>by
    rw[bW];have B:w'.heap[b]?=some (.cells c e z):=by rw[U];exact N
    rw[sy B];refine g3 j v ?_;rw[lE]at J;split at J
    .exact J
    .cases J
   rw[D]at this;exact this
 unfold dU at f;split at f
 .cases f;have:=cJ (a:=.slice none 0 0) rfl g;subst this;exact⟨[],by simp[Builtin.lenOf],by simp,.nil,rfl,λt=>by simp[Builtin.firstCells]⟩
 next L I cx=>
  split at f
  next k=>
   cases M:C.G L.block with
   |none=>rw[M]at f;cases f
   |some r=>
    rw[M,Dj]at f;cases d:cut r L.off (I*p_)with
    |none=>rw[d]at f;cases f
    |some u=>
     rw[d]at f;cases f;obtain⟨ag,O,c,e,z,Q,R⟩:=Y.D2 _ _ M;obtain⟨ys,E,F,H,V⟩:=i R d Q O;cases g with
     |scalar h=>simp[Am.scalar]at h
     |x9 h T K g=>simp[le]at k
     |wb g=>simp[le]at k
     |CA K g=>
      refine⟨ys,by simp[Builtin.lenOf],E,F,H,λt=>?_⟩;simpa[Builtin.firstCells]using V t
     |y_ g=>
      refine⟨ys,by simp[Builtin.lenOf],E,F,H,λt=>?_⟩;obtain rfl:n'=0:=by omega
      simp[Builtin.firstCells,loadCells,loadCellsFrom]
  .split at f
   next k=>
    split at f
    next r e0 al hY=>
     split at f
     next W=>
      cases d:cut r L.off (I*p_)with
      |none=>rw[d]at f;cases f
      |some u=>
       rw[d]at f;cases f;obtain⟨q,X,T⟩:=Y.obj _ _ hY rfl;obtain⟨o1,o2,o3,c,e,z,o4,o5,o6,o7⟩:=T;obtain⟨ys,E,F,H,V⟩:=i o7 d o4 o3;cases g with
       |scalar h=>simp[Am.scalar]at h
       | @x9 _ _ _ _ _ p h T K g=>
        obtain rfl:p=q:=by rw[h]at X;exact DU X
        refine⟨ys,by simp[Builtin.lenOf],E,F,H,λt=>?_⟩;simpa[Builtin.firstCells]using V t
       |wb g=>
        refine⟨ys,by simp[Builtin.lenOf],E,F,H,λt=>?_⟩;obtain rfl:n'=0:=by omega
        simp[Builtin.firstCells,loadCells,loadCellsFrom]
       |CA K g=>simp[le]at k
       |y_ g=>simp[le]at k
     .cases f
    .cases f
   .cases f
 next s=>
  split at f
  next W=>
   cases f;subst W;have:=cJ (a:=.string s) rfl g;subst this;refine⟨s.data.toList.map λb=>.int .u8 b.toNat,by simp[Builtin.lenOf],by rw[FM,YA];rfl,t0.scalars ?_,?_,λt=>?_⟩
   .exact A5.2 λx g=>by obtain⟨b,_,rfl⟩:=CH.1 g;rfl
   .exact A5.2 λx g=>by obtain⟨b,_,rfl⟩:=CH.1 g;rfl
   .simp only[Builtin.firstCells,Sem.run_pure,YA]
    congr 1
    apply Array.ext';simp[ByteArray.data_extract,List.extract]
  .cases f
 .cases f
end
end
section
variable [Cf] [D1]
section
variable {C:ke} {base:Nat} {la:o_} {mu:jn} {g9:St} {a:Act} {w:TS}
def pE:TypeDesc->Bool
 | .int _=>true
 |_=>false
def bY{t h ty e:TP}{i:TypeInfo}{d:TypeDesc}{c:Array TypeId}(h0:c[0]?=some t)(h1:c[1]?=some h)(q:C.P.underlying t=some (.slice e))(r:C.P.underlying h=some d)(j:pE d=false)
  (m:C.P.info? e=some i) {y:TR} {n sLen sCap:Nat} {ys:Tn} {b:Option Addr} (o:(Builtin.lenOf y).run C.P w = .ok n w) (l:(Builtin.firstCells i.size n y).run C.P w = .ok ys.toArray w) (p:sLen+n<=sCap) :
  (Builtin.append_ c ty #[.slice b sLen sCap,y]).run C.P w =
   match b with
   |none=>.ok (.slice none (sLen+n) sCap) w
   |some g=>((storeCells (g.add (sLen*i.size)) ys).run C.P w).andThen λ_ w'=>.ok (.slice (some g) (sLen+n) sCap) w':=by
 have f:∀k,d = .int k->False:=λk e=>by subst e;simp[pE]at j
 cases b<;>simp[Builtin.append_,h0,h1,run_underlying q,run_underlying r,sizeOf,typeInfo,m,o,l,p]
def qA{t m ty e:TP}{i:TypeInfo}{d:TypeDesc}{z:TR}{c:Array TypeId}(h0:c[0]?=some t)(h1:c[1]?=some m)(v:C.P.underlying t=some (.slice e))(x:C.P.underlying m=some d)(o:pE d=false)
  (q:C.P.info? e=some i) (A:i.zero=some z) {y:TR} {n sLen sCap:Nat} {olds ys:Tn} {b:Option Addr} (r:(Builtin.lenOf y).run C.P w = .ok n w) (p:(Builtin.firstCells i.size n y).run C.P w.drew = .ok ys.toArray w.drew)
  (u:(Builtin.firstCells i.size sLen (.slice b sLen sCap)).run C.P w.drew = .ok olds.toArray w.drew)
  (D:sCap<sLen+n) (h:ba (sLen+n) i.bytes=true) :
  (Builtin.append_ c ty #[.slice b sLen sCap,y]).run C.P w =
   .ok (.slice (some ⟨w.heap.size,0,none⟩) (sLen+n) (grownCap w (sLen+n) sCap e)) (w.drew.alloc (.cells ((olds++ys).toArray++Builtin.zeroCells z.cells (grownCap w (sLen+n) sCap e - (sLen+n))) e)):=by
 simp only[ba,te,Hr]at h;have B:(sLen+n)*i.bytes<=140737488355328:=h.2;have l:=growslice_fits (old:=sCap) (need:=sLen+n) (bytes:=i.bytes) (by omega) (by omega);have s:¬(sLen+n<=sCap):=by omega
 have g:¬(9223372036854775807<((sLen:Int)+(n:Int))):=by omega
 have f:¬(281474976710656<Builtin.nextslicecap (sLen+n) sCap*i.bytes):=by omega
 have j:∀k,d = .int k->False:=λk e=>by subst e;simp[pE]at o
 simp[Builtin.append_,h0,h1,run_underlying v,run_underlying x,sizeOf,typeInfo,zeroValue,q,A,r,p,u,s,g,f,Question.forced,newRow,grownCap]
 congr 2
 apply Array.ext';simp
def tC{i6:Type}{l:List i6}{n m:Nat}{x:i6}(h:x∈(l.drop n).take m):x∈l:=pD (ND h)
def t_{f:TR->Bool}{vs xs:Tn}{off n:Nat}(b:cut vs off n=some xs)(h:vs.all f=true):xs.all f=true:=by
 unfold Am.cut at b;split at b
 .cases b;exact A5.2 λx c=>A5.1 h x (tC c)
 .cases b
def qN{vs xs:Tn}{off n:Nat}(b:cut vs off n=some xs):xs.length=n/\off+n<=vs.length:=by
 unfold Am.cut at b;split at b
 .cases b;simp;omega
 .cases b
def VT{vs old:Tn}{p:Pl}{off len p_ sCap:Nat}{c:Tl}{e:TP}{fr:Nat×Nat}(l:cz mu vs c p.o)(d:cut vs off (len*p_)=some old)(f:w.heap[p.b]?=some (.cells c e fr))(w':TS)(g:w'.heap=w.heap) :
  ∃os:List Value,os.length=len*p_/\t0 Cu mu old os/\(Builtin.firstCells p_ len (.slice (some ⟨p.b,p.o+off,none⟩) len sCap)).run C.P w' = .ok os.toArray w'/\∀(j:Nat) y,os[j]?=some y->c[p.o+off+j]?=some y:=by
 obtain⟨os,h,k,i⟩:=l.cut d;refine⟨os,h,k,?_,i⟩;have:=run_loadCells_list (P:=C.P) w' ⟨p.b,p.o+off,none⟩ os λj v m=>by
  rw[bW,sy (by rw[g];exact f)];exact i j v m
 rw[h]at this;simpa[Builtin.firstCells]using this
def wR(H:WR C base mu g9.heap w)(v:base<=w.heap.size){t u ty e:TP}{i:TypeInfo}{d:TypeDesc}{z:TR}{c:Array TypeId}(h0:c[0]?=some t)(h1:c[1]?=some u)(G:C.P.underlying t=some (.slice e))(I:C.P.underlying u=some d)(x:pE d=false)
  (B:C.P.info? e=some i) (J:i.zero=some z) (q:z.cells.size=i.size) {y:TR} {n sLen sCap:Nat} {old new olds ys:Tn} {b:Option Addr} (D:(Builtin.lenOf y).run C.P w = .ok n w) (A:(Builtin.firstCells i.size n y).run C.P w.drew = .ok ys.toArray w.drew)
  (E:(Builtin.firstCells i.size sLen (.slice b sLen sCap)).run C.P w.drew = .ok olds.toArray w.drew) (F:sCap<sLen+n) (p:ba (sLen+n) i.bytes=true)
  (M:t0 Cu mu old olds) (N:t0 Cu mu new ys) (K:olds.length=sLen*i.size) (L:ys.length=n*i.size) (r:old.all bg=true) (s:new.all bg=true) :
  Hw C base mu g9.heap w (do pure (.value (←Builtin.append_ c ty #[.slice b sLen sCap,y]))) (g9.heap++[.cells (old++new) i.size true]) (.slice (some ⟨g9.heap.length,0,le i.size⟩) (sLen+n) 0):=by
 have f:=qA (ty:=ty) h0 h1 G I x B J D A E F p;have l:=grownCap_ge w (sLen+n) sCap e;have k:((olds++ys).toArray++Builtin.zeroCells z.cells (grownCap w (sLen+n) sCap e - (sLen+n))).size=grownCap w (sLen+n) sCap e*i.size:=by
  simp[size_zeroCells,K,L,q];rw[←Jh,←Jh]
  congr 1;omega
 have g:=(H.drew (w.drawn+1)).newRow (C:=C) v (w':=w.drew.alloc (.cells ((olds++ys).toArray++Builtin.zeroCells z.cells (grownCap w (sLen+n) sCap e - (sLen+n))) e)) (p_:=i.size) (M.append N) (by simp[r,s]) (e:=e)
  (λj y m=>by
   have o:j<(olds++ys).length:=by
    rcases Gk j (olds++ys).length with h|h
    .exact h
    .rw[Gm h]at m;cases m
   rw[qcZ (by simpa using o)];simpa using m) (by simp) rfl rfl rfl rfl
 refine⟨.value (.slice (some ⟨w.heap.size,0,none⟩) (sLen+n) (grownCap w (sLen+n) sCap e)),_,_,_,by simp[f],.inl rfl,?_,g.1,(Ee.refl g9.heap mu w).drew (w.drawn+1) (Nat.le_succ _) |>.trans g.2.1,g.2.2⟩;have:=VR.x9 (la:=Cu) (id:=g9.heap.length) (off:=0) (len:=sLen+n) (cap:=grownCap w (sLen+n) sCap e) (cx:=0) (bM mu g9.heap.length ⟨w.heap.size,0,_,i.size⟩) (by rw[EM];exact Nat.le_of_eq k.symm) l (.inl rfl);exact this
def AF(h:SR C base la mu g9 a.tmps w)(hb:base<=w.heap.size){t xT ty:TP}{d:TypeDesc}{Q:Array TypeId}{s x:TK}{H':Tu}{v:TR}(h0:Q[0]?=some t)(h1:Q[1]?=some xT)(S:C.P.underlying xT=some d)(W:pE d=false)
  (m:gj C t (h9 g9.tmps s) (h9 g9.tmps x) g9.heap=some (H',v)):Hw C base mu g9.heap w (do pure (.value (←Builtin.append_ Q ty #[a.eval s,a.eval x]))) H' v:=by
 have hs:=aM h s;have a8:=aM h x;unfold gj at m;split at m
 next b1 Y=>
  split at m
  .cases m
  next f X=>
   split at m
   .cases m
   next b2=>
    split at m
    .cases m
    next b0=>
     obtain⟨z,bP⟩ : ∃z,lN f=some z:=by
      cases a9:lN f with
      |none=>simp[a9]at b0
      |some z=>exact⟨z,rfl⟩
     obtain⟨hz,a3,_,_⟩:=oE bP;split at m
     .cases m
     next L n a4=>
      obtain⟨ys,T,c2,c3,c4,c5⟩:=kI h.wr a8 a4 n w rfl;obtain⟨b8,b3,av,ax,ay,bk⟩:=kI h.wr a8 a4 n w.drew rfl;have F:=c5 (x5 _);have N:=bk (x5 _);rw[H4 (by omega)]at F N;split at m
      · -- nil
       rename_i a0
       rw[a0]at hs;have K:=cJ (a:=.slice none 0 0) rfl hs;rw[K];split at m
       next G=>
        cases m;subst G;have g:=bY (ty:=ty) (b:=none) (sLen:=0) (sCap:=0) h0 h1 Y S W X T F (by omega);exact⟨.value (.slice none 0 0),_,w,mu,by simpa using congrArg (λr:Result Value=>r.andThen λv w=>.ok (Next.value v) w) g,.inl rfl,.scalar rfl,h.wr,.refl _ _ _,h.wr.obj⟩
       next G=>
        split at m
        next y=>
         cases m;have:=wR (ty:=ty) (b:=none) (sLen:=0) (sCap:=0) (old:=[]) (olds:=[]) h.wr hb h0 h1 Y S W X hz a3 T N (by simp[Builtin.firstCells]) (by omega) (by simpa using y) .nil ax (by simp) av rfl ay;simpa using this
        .cases m
      next u len cx a0=>
       rw[a0]at hs;split at m
       .cases m
       next H=>
        simp only[ne_eq,Classical.not_not]at H;split at m
        next vs e0 b7 hY=>
         split at m
         .cases m
         next a5=>
          simp only[ne_eq,Classical.not_not]at a5;subst a5;split at m
          .cases m
          next old E=>
           obtain⟨q,hq,hr⟩:=h.wr.obj _ _ hY rfl;obtain⟨o1,o2,o3,c,e,fr,o4,o5,o6,o7⟩:=hr;have K:(∃cap,a.eval s = .slice (some ⟨q.b,q.o+u.off,none⟩) len cap/\u.off+cap*f.size<=q.room/\len<=cap/\(cx=0∨cx=cap+1))∨(∃Z,a.eval s = .slice (some Z) 0 0/\len=0/\cx<=1):=by
            clear m;generalize a.eval s=sv at hs;cases hs with
            |scalar h=>simp[Am.scalar]at h
            | @x9 _ _ _ cap _ p hm hr hl a2=>
             obtain rfl:p=q:=by rw[hm]at hq;exact DU hq
             rw[o1]at hr;exact .inl ⟨cap,rfl,hr,hl,a2⟩
            |wb a2=>exact .inr ⟨_,rfl,rfl,a2⟩
            |CA hl S=>simp[le]at H
            |y_ S=>simp[le]at H
           have M:∀A,(∃b,a.eval s = .slice b len A/\(b=some ⟨q.b,q.o+u.off,none⟩∨len=0))->A<len+n->ba (len+n) f.bytes=true->
             Hw C base mu g9.heap w (do pure (.value (←Builtin.append_ Q ty #[a.eval s,a.eval x]))) (g9.heap++[.cells (old++L) f.size true]) (.slice (some ⟨g9.heap.length,0,le f.size⟩) (len+n) 0):=by
            rintro A ⟨b,l,bn⟩ R y;rw[l];rcases bn with rfl|rfl
            .obtain⟨os,g1,g2,g3,_⟩:=VT (C:=C) (sCap:=A) o7 E o4 w.drew rfl;exact wR (ty:=ty) h.wr hb h0 h1 Y S W X hz a3 T N g3 R y g2 ax g1 av (t_ E o3) ay
            .have ho:old=[]:=by
              have:=(qN E).1;simp at this;exact this
             subst ho;exact wR (ty:=ty) (olds:=[]) h.wr hb h0 h1 Y S W X hz a3 T N (by cases b<;>simp[Builtin.firstCells,loadCells,loadCellsFrom]) R y .nil ax (by simp) av rfl ay
           split at m
           · -- the capacity is not known
            split at m
            next G=>
             cases m;subst G;have I:ys=[]:=by have:=c2;simp at this;exact this
             subst I;rcases K with⟨cap,l,B,ag,_⟩|⟨Z,l,rfl,_⟩
             .have g:=bY (ty:=ty) (b:=some ⟨q.b,q.o+u.off,none⟩) (sLen:=len) (sCap:=cap) h0 h1 Y S W X T F (by omega);refine⟨.value (a.eval s),a.eval s,w,mu,?_,.inl rfl,(fK (by simp[bo,H,le]) hs),h.wr,.refl _ _ _,h.wr.obj⟩;rw[l];simp[g,storeCells]
             .have g:=bY (ty:=ty) (b:=some Z) (sLen:=0) (sCap:=0) h0 h1 Y S W X T F (by omega);refine⟨.value (a.eval s),a.eval s,w,mu,?_,.inl rfl,(fK (by simp[bo,H,le]) hs),h.wr,.refl _ _ _,h.wr.obj⟩;rw[l];simp[g,storeCells]
            next G=>
             split at m
             next y=>
              cases m;simp only[te]at y;obtain⟨aE,y⟩:=y;subst aE;obtain rfl:=o6 rfl;have O:u.block<g9.heap.length:=by
               rcases Gk u.block g9.heap.length with h|h
               .exact h
               .rw[Gm h]at hY;cases hY
              have an:Hw C base mu g9.heap w (do pure (.value (←Builtin.append_ Q ty #[a.eval s,a.eval x]))) (g9.heap++[.cells (old++L) f.size true]) (.slice (some ⟨g9.heap.length,0,le f.size⟩) (len+n) 0)->
                Hw C base mu g9.heap w (do pure (.value (←Builtin.append_ Q ty #[a.eval s,a.eval x]))) (g9.heap.set u.block .dead++[.cells (old++L) f.size true]) (.slice (some ⟨g9.heap.length,0,le f.size⟩) (len+n) 0):=by
               rintro⟨nx,v',w',bb,g1,g2,g3,g4,g5,g6⟩;have a6:bb u.block=some q:=by rw[g5.same _ O];exact hq
               have ap:(g9.heap++[.cells (old++L) f.size true])[u.block]?=some (.cells vs f.size true):=by rw[GD O];exact hY
               have R:=g4.lt ap rfl a6;obtain⟨x0,bC⟩ : ∃x0,w'.heap[q.b]?=some x0:=⟨w'.heap[q.b],by simp[R]⟩;have a1:w'.heap.setIfInBounds q.b x0=w'.heap:=by
                apply ad;intro k;by_cases hk:k=q.b
                .subst hk;rw[bC];simp[R]
                .rw[e5 (De hk)]
               obtain⟨k1,k2⟩:=g4.set ap rfl a6 (w':=w') (x:=x0) a1.symm rfl rfl rfl .dead (λh=>by cases h) trivial;rw[qcS _ _ O]at k1 k2;refine⟨nx,v',w',bb,g1,g2,g3,k1,g5.trans k2,λj oj hj ha=>?_⟩;rw[←qcS _ _ O]at hj;rcases Cm hj with⟨_,hj⟩|⟨_,_,rfl⟩
               .exact g6 j oj hj ha
               .cases ha
              rcases K with⟨cap,l,B,ag,_⟩|⟨Z,l,rfl,_⟩
              .by_cases J:len+n<=cap
               · -- in place
                have bm:q.o+u.off+len*f.size+ys.length<=c.size:=by
                 have:(len+n)*f.size<=cap*f.size:=QS _ J;rw[Jh]at this;omega
                have al:=dO (C:=C) (at_:=q.o+u.off+len*f.size) (ys:=ys) o4 bm (gR c3 c4);have g:=bY (ty:=ty) (b:=some ⟨q.b,q.o+u.off,none⟩) (sLen:=len) (sCap:=cap) h0 h1 Y S W X T F J;simp only[bW]at g;rw[al]at g;have hM:=h.wr.move hY rfl hq (w':=w.setRow q.b (w_ c (q.o+u.off+len*f.size) ys)) (jN o4) rfl rfl rfl (.cells (old++L) f.size true) ⟨q.b,q.o+u.off,q.room - u.off,f.size⟩ rfl (by
                 have b6:=qN E;have b5:=c3.1;refine⟨rfl,by simp only[GA];omega,by simp[t_ E o3,c4],_,e,_,rfl,by rw[gU (by omega)];simp only;omega,λ_=>rfl,λi v hv=>?_⟩;obtain⟨os,k1,k2,k3⟩:=cz.cut o7 E;simp only;rw[nl (by omega)];by_cases bs:i<old.length
                 .rw[GD bs]at hv;obtain⟨v',m1,m2⟩:=k2.get hv;rw[qs (by omega)];exact⟨v',k3 i v' m1,m2⟩
                 .rw[Hb (by omega)]at hv;obtain⟨v',m1,m2⟩:=c3.get hv;have b4:i - old.length<ys.length:=by
                   rcases Gk (i - old.length) ys.length with h|h
                   .exact h
                   .rw[Gm h]at m1;cases m1
                  rw[n_ (by omega)];exact⟨v',by rw[show q.o+u.off+i - (q.o+u.off+len*f.size)=i - old.length by omega];exact m1,m2⟩) (λ_=>rfl)
                refine⟨.value (.slice (some ⟨q.b,q.o+u.off,none⟩) (len+n) cap),_,_,_,by rw[l];simp[g],.inl rfl,?_,hM.1,hM.2.1,hM.2.2⟩;have:=VR.x9 (la:=Cu) (id:=g9.heap.length) (off:=0) (len:=len+n) (cap:=cap) (cx:=0) (bM mu g9.heap.length ⟨q.b,q.o+u.off,q.room - u.off,f.size⟩) (by simp only;omega) J (.inl rfl);simpa using this
               .exact an (M cap ⟨_,l,.inl rfl⟩ (by omega) y)
              .exact an (M 0 ⟨_,l,.inr rfl⟩ (by omega) y)
             .cases m
           · -- the capacity is known
            rename_i A
            split at m
            next J=>
             split at m
             next aE=>
              subst aE;obtain rfl:=o6 rfl;cases D:q9 vs (u.off+len*f.size) L with
              |none=>rw[D]at m;cases m
              |some bd=>
               rw[D]at m;cases m;obtain⟨c',e',g1,g2,g3,g4⟩:=h.wr.q9 hY hq D c3 c4;obtain⟨rfl,rfl⟩ : c=c'/\e=e':=by
                rw[g1]at o4;simp only[FL,Obj.cells.injEq]at o4;exact⟨o4.1.symm,o4.2.1.symm⟩
               rcases K with⟨cap,l,B,ag,V⟩|⟨Z,l,rfl,V⟩
               .have U:cap=A:=by omega
                subst U;have al:=dO (C:=C) (at_:=q.o+(u.off+len*f.size)) (ys:=ys) g1 g2 (gR c3 c4);have g:=bY (ty:=ty) (b:=some ⟨q.b,q.o+u.off,none⟩) (sLen:=len) (sCap:=cap) h0 h1 Y S W X T F J;simp only[bW,QQ]at g al;rw[al]at g;refine⟨.value (.slice (some ⟨q.b,q.o+u.off,none⟩) (len+n) cap),_,_,mu,by rw[l];simp[g],.inl rfl,?_,g3,g4,g3.obj⟩;obtain⟨bl,of,sp⟩:=u;simp only at H;subst H;rw[←o1];exact .x9 hq (by rw[o1];exact B) J (.inr rfl)
               .have U:A=0:=by omega
                subst U;have G:n=0:=by omega
                subst G;have I:ys=[]:=by have:=c2;simp at this;exact this
                subst I;have bt:L=[]:=by have:=c3.1;simp at this;exact this
                subst bt;have g:=bY (ty:=ty) (b:=some Z) (sLen:=0) (sCap:=0) h0 h1 Y S W X T F (by omega);have bx:bd=vs:=by
                 unfold Am.q9 at D;split at D
                 .cases D;simp
                 .cases D
                subst bx;have a7:g9.heap.set u.block (.cells bd f.size true)=g9.heap:=by
                 apply GB;intro k;rw[GC];split
                 .rename_i hk;subst hk
                  split
                  .rw[hY]
                  next R=>rw[Gm (by omega)]
                 .rfl
                rw[a7];refine⟨.value (a.eval s),a.eval s,w,mu,?_,.inl rfl,(fK (by simp[bo,H,le]) (by simpa using hs)),h.wr,.refl _ _ _,h.wr.obj⟩;rw[l];simp[g,storeCells]
             .split at m
              next G=>
               cases m;subst G;have I:ys=[]:=by have:=c2;simp at this;exact this
               subst I;refine⟨.value (a.eval s),a.eval s,w,mu,?_,.inl rfl,(fK (by simp[bo,H,le]) (by simpa using hs)),h.wr,.refl _ _ _,h.wr.obj⟩;rcases K with⟨cap,l,B,ag,V⟩|⟨Z,l,rfl,V⟩
               .have g:=bY (ty:=ty) (b:=some ⟨q.b,q.o+u.off,none⟩) (sLen:=len) (sCap:=cap) h0 h1 Y S W X T F (by omega);rw[l];simp[g,storeCells]
               .have g:=bY (ty:=ty) (b:=some Z) (sLen:=0) (sCap:=0) h0 h1 Y S W X T F (by omega);rw[l];simp[g,storeCells]
              .cases m
            next J=>
             split at m
             next y=>
              cases m;rcases K with⟨cap,l,B,ag,V⟩|⟨Z,l,rfl,V⟩
              .exact M cap ⟨_,l,.inl rfl⟩ (by omega) y
              .exact M 0 ⟨_,l,.inr rfl⟩ (by omega) y
             .cases m
        .cases m
      .cases m
 .cases m
end
end
section
variable [Cf] [D1]
section
variable {C:ke} {base:Nat} {la:o_} {mu:jn} {g9:St} {a:Act} {w:TS}
def OE(h:SR C base la mu g9 a.tmps w){t ty:TP}{b:Array TypeId}{d x:TK}{H':Tu}{v:TR}(h0:b[0]?=some t)
  (c:HD C t (h9 g9.tmps d) (h9 g9.tmps x) g9.heap=some (H',v)):Hw C base mu g9.heap w (do pure (.value (←Builtin.copy_ b ty #[a.eval d,a.eval x]))) H' v:=by
 cases c
def Md(h:SR C base la mu g9 a.tmps w){t ty:TP}{b:Array TypeId}{x:TK}{H':Tu}{v:TR}(h0:b[0]?=some t)
  (c:uD C t (h9 g9.tmps x) g9.heap=some (H',v)):Hw C base mu g9.heap w (do pure (.value (←Builtin.clear_ b ty #[a.eval x]))) H' v:=by
 cases c
def qh(o:WR C base mu g9.heap w){t:TP}{e:Addr}{y v:TR}{g f i c b d:Tk}{H:Tu}(n:e.spot=some 1∨H=g9.heap)(j:lI C t e g f i H=some v)(h:VR la mu (.pointer (some e)) y)
  (l:Fq la mu g c) (k:Fq la mu f b) (m:Fq la mu i d):∃v',(Instr.sliceAt t y c b d).run C.P w = .ok v' w/\VR la mu v v':=by
 cases j
def ou{i6 c:Type}{P:TI}{x:Sem i6}{f:i6->Sem c}{b:c}(h:CB P (x >>= f)=some b):∃a,CB P x=some a/\CB P (f a)=some b:=by
 induction x with
 |pure a=>exact⟨a,rfl,h⟩
 |program k d=>exact d P h
 |_=>cases h
def iM{P:TI}{kt:TP}{k:TR}:∀(g c:Tj) (i:Nat) (r:Option (Nat×Value)),g.map (·.key)=c.map (·.key)->CB P (Instr.findAsking kt k g i)=some r->
  (∀w,(Instr.findAsking kt k c i).run P w = .ok (r.map λp=>(p.1,(c.getD (p.1 - i) default).val)) w)/\∀p,r=some p->i<=p.1/\p.1<i+g.length
 | [],c,i,r,d,h=>by
  have:c=[]:=by cases c<;>simp_all
  subst this;simp[Instr.findAsking,CB,Pure.pure]at h;subst h;exact⟨λw=>by simp[Instr.findAsking],λp j=>by cases j⟩
 |e :: g,c,i,r,d,h=>by
  cases c with
  |nil=>simp at d
  |cons f c=>
   simp only[DD,Hq]at d;unfold Instr.findAsking at h;obtain⟨b,n,l⟩:=ou h;cases b with
   |true=>
    simp[CB,Pure.pure]at l;subst l;refine⟨λw=>?_,λp j=>by cases j;simp⟩;have:=gT n w;rw[d.1]at this;simp[Instr.findAsking,this]
   |false=>
    simp only[D5,if_false]at l;obtain⟨q,m⟩:=iM g c (i+1) r d.2 l;refine⟨λw=>?_,λp j=>by have:=m p j;simp;omega⟩;have:=gT n w;rw[d.1]at this;have o:(Instr.findAsking kt k (f :: c) i).run P w=(Instr.findAsking kt k c (i+1)).run P w:=by
     simp[Instr.findAsking,this]
    rw[o,q w];cases r with
    |none=>rfl
    |some p=>
     have:=(m p rfl).1;simp only[EA];rw[show p.1 - i=(p.1 - (i+1))+1 by omega];rfl
def iN{kind:TypeDesc}{k:TR}:∀(d c:Tj) (i:Nat),d.map (·.key)=c.map (·.key)->
  Instr.findNow kind k c i=(Instr.findNow kind k d i).map λr=>r.map λp=>(p.1,(c.getD (p.1 - i) default).val)
 | [],c,i,g=>by
  have:c=[]:=by cases c<;>simp_all
  subst this;rfl
 |e :: d,c,i,g=>by
  cases c with
  |nil=>simp at g
  |cons f c=>
   simp only[DD,Hq]at g;unfold Instr.findNow;rw[g.1];cases q:Instr.sameNow kind k f.key with
   |none=>rfl
   |some b=>
    cases b with
    |true=>simp
    |false=>
     simp only;rw[iN d c (i+1) g.2];have m:∀(l:Tj) (j:Nat) (p:Nat×Value),Instr.findNow kind k l j=some (some p)->j<=p.1:=by
      intro l
      induction l with
      |nil=>intro j p h;simp[Instr.findNow]at h
      |cons x l o=>
       intro j p h;unfold Instr.findNow at h;split at h
       .cases h;exact x5 _
       .have:=o (j+1) p h;omega
       .cases h
     cases n:Instr.findNow kind k d (i+1)with
     |none=>rfl
     |some r=>
      cases r with
      |none=>rfl
      |some p=>
       have:=m _ _ _ n;simp only[EA];rw[show p.1 - i=(p.1 - (i+1))+1 by omega];rfl
def qR{kind:TypeDesc}{k:TR}:∀(b:Tj) (i:Nat) (p:Nat×Value),Instr.findNow kind k b i=some (some p)->i<=p.1/\p.1<i+b.length
 | [],i,p,h=>by simp[Instr.findNow]at h
 |e :: b,i,p,h=>by
  unfold Instr.findNow at h;split at h
  .cases h;simp
  .have:=qR b (i+1) p h;simp;omega
  .cases h
def nW{kt:TP}{k:TR}{c:Tj}{e:Tj}{r:Ts}(u:c.map (·.key)=e.map (·.key))(h:sQ C.P kt k c=some r) :
  (∀w,(Instr.findKey kt k e).run C.P w = .ok (r.map λi=>(i,(e.getD i default).val)) w)/\∀i,r=some i->i<c.length:=by
 unfold sQ at h;have f:(c.map bB).map (·.key)=e.map (·.key):=by rw[SD,←u];rfl
 cases m:CB C.P (Instr.findKey kt k (c.map bB))with
 |none=>rw[m]at h;cases h
 |some n=>
  rw[m]at h;cases h;unfold Instr.findKey at m;obtain⟨d,o,g⟩:=ou m;cases l:Instr.findNow d k (c.map bB) 0 with
  |none=>
   rw[l]at g;simp only at g;obtain⟨s,t⟩:=iM (c.map bB) e 0 n f g;refine⟨λw=>?_,λi j=>?_⟩
   .have b:=iN (kind:=d) (k:=k) (c.map bB) e 0 f;rw[l]at b;simp only[Instr.findKey,Sem.run_bind,gT o w,Result.andThen_ok,b,Option.map_none,s w];cases n<;>simp
   .cases n with
    |none=>cases j
    |some p=>
     cases j;have:=(t p rfl).2;simpa using this
  |some q=>
   rw[l]at g;simp[CB,Pure.pure]at g;subst g;refine⟨λw=>?_,λi j=>?_⟩
   .have b:=iN (kind:=d) (k:=k) (c.map bB) e 0 f;rw[l]at b;simp only[Instr.findKey,Sem.run_bind,gT o w,Result.andThen_ok,b,EA,Sem.run_pure];cases q<;>simp
   .cases q with
    |none=>cases j
    |some p=>
     cases j;have:=(qR _ _ _ l).2;simpa using this
def wU(m:WR C base mu g9.heap w){id:Nat}{f:Tj}{c:Nat}(h:Dq g9.heap id=some (f,c)){p:Pl}(k:mu id=some p) :
  ∃d,w.heap[p.b]?=some (.map d c)/\d.size=f.length/\∀(i:Nat) e,f[i]?=some e->∃e',d[i]?=some e'/\fZ mu e e':=by
 unfold Dq at h;split at h
 next j n hY=>
  cases h;obtain⟨q,g,l⟩:=m.obj id _ hY rfl;obtain rfl:p=q:=by rw[k]at g;exact DU g
  exact l
 .cases h
def Pg{id:Nat}{b:Tj}{c:Nat}(h:Dq g9.heap id=some (b,c)):g9.heap[id]?=some (.map b c):=by
 unfold Dq at h;split at h
 next d e hY=>cases h;exact hY
 .cases h
def zo{c:Tj}{b:Array MapEntry}(j:b.size=c.length)(h:∀(i:Nat) e,c[i]?=some e->∃e',b[i]?=some e'/\fZ mu e e'):c.map (·.key)=b.toList.map (·.key):=by
 apply GB;intro i;rw[EL,EL];cases d:c[i]? with
 |none=>
  have:b.toList[i]?=none:=by
   rw[qco]at d ⊢;simp only[Array.length_toList];omega
  rw[this,Option.map_none]
 |some e=>
  obtain⟨e',f,g⟩:=h i e d;rw[show b.toList[i]?=some e' by simpa using f];simp[g.1]
def eI{kt:TP}{k:TR}(h:jC C.P kt k=true)(b:Bool)(w:TS):(Instr.checkKey b 10000 kt k).run C.P w = .ok () w:=by
 simp only[jC,te]at h;cases b with
 |true=>
  obtain⟨u,c⟩:=xT.1 h.1.1.2;exact gT c w
 |false=>
  obtain⟨u,c⟩:=xT.1 h.1.2;exact gT c w
def nC{kt:TP}{k:TR}(h:jC C.P kt k=true):∃d,C.P.underlying kt=some d:=by
 simp only[jC,te]at h;obtain⟨u,i⟩:=xT.1 h.1.2;have b:CB C.P (Instr.checkKey false (9999+1) kt k)=some u:=i;unfold Instr.checkKey at b;obtain⟨d,c,_⟩:=ou b;cases g:C.P.underlying kt with
 |some d=>exact⟨d,rfl⟩
 |none=>
  unfold underlying at c;obtain⟨p,e,f⟩:=ou c;have:p=C.P:=by simp[CB,program]at e;exact e.symm
  subst this;rw[g]at f;cases f
def jh{kt:TP}{k:TR}(h:jC C.P kt k=true):gk k=true:=by
 simp only[jC,te]at h;exact h.1.1.1
def cj{r:Nat}{b:Array MapEntry}{c:Nat}(h:w.heap[r]?=some (.map b c)):(getObj r).run C.P w = .ok (.map b c) w:=by
 simp[getObj,Sem.run,h]
def jM{r:Nat}{b:Array MapEntry}{c:Nat}{o:Obj}(h:w.heap[r]?=some (.map b c)):(setObj r o).run C.P w = .ok () { w with heap:=w.heap.setIfInBounds r o }:=by
 simp[setObj,Sem.run,h]
def VR.G6{id:Nat}{c:TR}(h:VR la mu (.map (some id)) c):∃p,mu id=some p/\c = .map (some p.b):=by
 cases h with
 |scalar h=>simp[Am.scalar]at h
 |map h=>exact⟨_,h,rfl⟩
def AD{t:TP}{z:TR}(h:eU C.P t=some z)(w:TS):(zeroValue t).run C.P w = .ok z w:=by
 obtain⟨i,b,c,_⟩:=ku h;simp[zeroValue,typeInfo,b,c]
def rj(Q:WR C base mu g9.heap w){t:TP}{m J k I v:TR}{ok:Bool}{H:Tu}(M:m = .map none∨H=g9.heap)(F:VR la mu m J)(N:VR la mu k I)(d:dK C t m k ok H=some v) :
  ∃v',(Instr.lookup t J I ok).run C.P w = .ok v' w/\VR la mu v v':=by
 unfold dK at d;split at d
 next T S j=>
  split at d
  .cases d
  next b=>
   simp only[Gb,ck]at b;obtain rfl:=nY (jh b) N;split at d
   .cases d
   next z G=>
    have h:=AD G w;have g:=(qm G).2.1;obtain⟨R,o⟩:=nC b;split at d
    .obtain rfl:=cJ (a:=.map none) rfl F;cases d;cases ok with
     |true=>
      refine⟨.tuple #[z,.bool false],?_,t0.tuple (.cons (.of_flat g) (.cons (.scalar rfl) .nil))⟩;simp[Instr.lookup,run_underlying j,eI b,Instr.findKey,run_underlying o,Instr.findNow,h]
     |false=>
      refine⟨z,?_,.of_flat g⟩;simp[Instr.lookup,run_underlying j,eI b,Instr.findKey,run_underlying o,Instr.findNow,h]
    next id=>
     have y:H=g9.heap:=M.resolve_left (by simp);subst y;obtain⟨p,O,rfl⟩:=F.G6;split at d
     .cases d
     next x c Dq=>
      obtain⟨l,u,K,D⟩:=wU Q Dq O;have f:=zo K D;split at d
      .cases d
      next e=>
       obtain⟨n,B⟩:=nW (C:=C) f e;cases d;cases ok with
       |true=>
        refine⟨.tuple #[z,.bool false],?_,t0.tuple (.cons (.of_flat g) (.cons (.scalar rfl) .nil))⟩;simp[Instr.lookup,run_underlying j,cj u,eI b,n w,h]
       |false=>
        refine⟨z,?_,.of_flat g⟩;simp[Instr.lookup,run_underlying j,cj u,eI b,n w,h]
      next i e=>
       obtain⟨n,B⟩:=nW (C:=C) f e;have r:=B i rfl;obtain⟨s,L,E⟩:=D i x[i] (by simp[r]);have q:(l.toList.getD i default).val=s.val:=by
        rw[List.getD,show l.toList[i]?=some s by simpa using L];rfl
       have A:ed x i=some x[i].val:=by simp[ed,r]
       rw[A]at d;cases d;cases ok with
       |true=>
        refine⟨.tuple #[s.val,.bool true],?_,t0.tuple (.cons E.2.2.2.up (.cons (.scalar rfl) .nil))⟩;simp[Instr.lookup,run_underlying j,cj u,eI b,n w,-List.getD_eq_getElem?_getD,q]
       |false=>
        refine⟨s.val,?_,E.2.2.2.up⟩;simp[Instr.lookup,run_underlying j,cj u,eI b,n w,-List.getD_eq_getElem?_getD,q]
    .cases d
 .cases d
def WR.Rb(m:WR C base mu g9.heap w){id:Nat}{g f:Tj}{c c1:Nat}{p:Pl}{d:Array MapEntry}(h:Dq g9.heap id=some (g,c))(j:mu id=some p)
  (l:d.size=f.length) (k:∀(i:Nat) e,f[i]?=some e->∃e',d[i]?=some e'/\fZ mu e e') :
  WR C base mu (g9.heap.set id (.map f c1)) { w with heap:=w.heap.setIfInBounds p.b (.map d c1) }/\Ee g9.heap mu w (g9.heap.set id (.map f c1)) mu { w with heap:=w.heap.setIfInBounds p.b (.map d c1) }:=
 m.set (w':={ w with heap:=w.heap.setIfInBounds p.b (.map d c1) }) (x:=.map d c1) (Pg h) rfl j rfl rfl rfl rfl (.map f c1) (λ_=>rfl) ⟨d,rfl,l,k⟩
def uP{c:Tj}{b:Array MapEntry}{e e':MapEntry}(f:b.size=c.length)(k:∀(i:Nat) e,c[i]?=some e->∃e',b[i]?=some e'/\fZ mu e e')(j:fZ mu e e') :
  (b.push e').size=(c++[e]).length/\∀(i:Nat) x,(c++[e])[i]?=some x->∃x',(b.push e')[i]?=some x'/\fZ mu x x':=by
 refine⟨by simp[f],λi x d=>?_⟩;rcases aF d with⟨l,d⟩|⟨rfl,rfl⟩
 .obtain⟨x',g,h⟩:=k i x d;exact⟨x',by rw[f1,qs (by omega)];exact g,h⟩
 .exact⟨e',by rw[f1,n_ f.symm],j⟩
def qx{c:Tj}{b:Array MapEntry}{j:Nat}{f f':MapEntry->MapEntry}(n:b.size=c.length)(m:∀(i:Nat) e,c[i]?=some e->∃e',b[i]?=some e'/\fZ mu e e')
  (l:∀e e',c[j]?=some e->fZ mu e e'->fZ mu (f e) (f' e')) :
  (b.modify j f').size=(c.modify j f).length/\∀(i:Nat) x,(c.modify j f)[i]?=some x->∃x',(b.modify j f')[i]?=some x'/\fZ mu x x':=by
 refine⟨by simp[n],λi x d=>?_⟩;rw[List.getElem?_modify]at d;cases g:c[i]? with
 |none=>rw[g]at d;cases d
 |some e=>
  rw[g]at d;obtain⟨e',o,k⟩:=m i e g;simp only[Option.map_eq_map,EA,FL]at d;refine⟨if j=i then f' e' else e',by rw[Array.getElem?_modify];split<;>simp_all,?_⟩;subst d;split
  next h=>subst h;exact l e e' g k
  .exact k
end
end
section
variable [Cf] [D1]
section
variable {C:ke} {base:Nat} {la:o_} {mu:jn} {g9:St} {a:Act} {w:TS}
def yX{s:Sem Unit}{w':TS}{H':Tu}(h:s.run C.P w = .ok () w')(b:WR C base mu H' w')(c:Ee g9.heap mu w H' mu w'):Hw C base mu g9.heap w (do s;pure .skip) H' undef:=
 ⟨.skip,undef,w',mu,by simp[h],.inr ⟨rfl,rfl⟩,.undef,b,c,b.obj⟩
def kY(h:SR C base la mu g9 a.tmps w){t:TP}{m k x:TK}{H':Tu}{v:TR}(d:cG C t (h9 g9.tmps m) (h9 g9.tmps k) (h9 g9.tmps x) g9.heap=some (H',v)) :
  Hw C base mu g9.heap w (do Instr.mapUpdate t (a.eval m) (a.eval k) (a.eval x);pure .skip) H' v:=by
 have M:=aM h m;have T:=aM h k;have U:=aM h x;unfold cG at d;split at d
 next W V id N B=>
  rw[B]at M;obtain⟨p,E,q⟩:=M.G6;split at d
  .cases d
  next L=>
   simp only[Gb,ck,te]at L;obtain⟨⟨l,D⟩,_⟩:=L;have n:=nY (jh l) T;have s:=ft D U;split at d
   .cases d
   next O c Dq=>
    obtain⟨P,u,A,y⟩:=wU h.wr Dq E;have g:=zo A y;split at d
    .cases d
    next b=>
     obtain⟨z,K⟩:=nW (C:=C) g b;cases d;obtain⟨I,J⟩:=uP (e:={ key:=h9 g9.tmps k,val:=h9 g9.tmps x,born:=c }) (e':={ key:=h9 g9.tmps k,val:=a.eval x,born:=c }) A y ⟨rfl,jh l,rfl,s⟩;obtain⟨G,H⟩:=h.wr.Rb (c1:=c+1) Dq E I J;refine yX ?_ G H;rw[q,n];simp[Instr.mapUpdate,run_underlying N,cj u,eI l,z w,jM u]
    next i b=>
     obtain⟨z,K⟩:=nW (C:=C) g b;have o:=K i rfl;split at d
     next F=>
      cases d;obtain⟨e',Q,R⟩:=y i O[i] (by simp[o]);obtain⟨I,J⟩:=qx (j:=i) (f:=λe=>{ e with key:=h9 g9.tmps k,val:=h9 g9.tmps x }) (f':=λe=>{ e with key:=h9 g9.tmps k,val:=a.eval x }) A y (λe e' _ S=>⟨rfl,jh l,S.2.2.1,s⟩);obtain⟨G,H⟩:=h.wr.Rb (c1:=c) Dq E I J;refine yX ?_ G H;have r:Instr.sameBits 10000 e'.key (h9 g9.tmps k)=true:=by
       rw[R.1];simpa[o]using F
      rw[q,n];simp[Instr.mapUpdate,run_underlying N,cj u,eI l,z w,Q,Instr.keyThatStays,r,jM u]
     .cases d
 .cases d
def vE(h:SR C base la mu g9 a.tmps w){t:TP}{m k:TK}{H':Tu}{v:TR}(b:iQ C t (h9 g9.tmps m) (h9 g9.tmps k) g9.heap=some (H',v)) :
  Hw C base mu g9.heap w (do pure (.value (←Instr.mapEntry t (a.eval m) (a.eval k)))) H' v:=by
 cases b
def qy(h:SR C base la mu g9 a.tmps w){t:TP}{m s x:TK}{H':Tu}{v:TR}(b:fE (h9 g9.tmps m) (h9 g9.tmps s) (h9 g9.tmps x) g9.heap=some (H',v)) :
  Hw C base mu g9.heap w (do Instr.entryStore t (a.eval m) (a.eval s) (a.eval x);pure .skip) H' v:=by
 cases b
def AQ(h:SR C base la mu g9 a.tmps w){t ty:TP}{b:Array TypeId}{m k:TK}{H':Tu}{v:TR}(h0:b[0]?=some t)
  (c:oR C t (h9 g9.tmps m) (h9 g9.tmps k) g9.heap=some (H',v)):Hw C base mu g9.heap w (do pure (.value (←Builtin.delete_ b ty #[a.eval m,a.eval k]))) H' v:=by
 cases c
def me(h:SR C base la mu g9 a.tmps w)(m:base<=w.heap.size){t:TP}{r:Th}
  (j:py C t (r.map (h9 g9.tmps))=true) :
  Hw C base mu g9.heap w (do pure (.value (←Instr.makeMap t (r.map a.eval)))) (g9.heap++[.map [] 0]) (.map (some g9.heap.length)):=by
 have f:=h.wr.new m (w':=w.alloc (.map #[] 0)) (x:=.map #[] 0) rfl rfl rfl rfl (.map [] 0) ⟨w.heap.size,0,0,0⟩ rfl ⟨#[],rfl,rfl,λi e h=>by simp at h⟩ (λ_=>rfl);refine⟨.value (.map (some w.heap.size)),_,_,_,?_,.inl rfl,.map (bM _ _ _),f.1,f.2.1,f.2.2⟩;cases r with
 |none=>simp[Instr.makeMap]
 |some x=>
  simp only[py,EA,te]at j;obtain⟨n,g⟩:=xT.1 j.1;obtain⟨k,o⟩:=kT g (aM h x);have b:∃d c,C.P.underlying t=some (.map d c):=by
   have l:=j.2;split at l
   next d c b=>exact⟨d,c,b⟩
   .cases l
  obtain⟨d,c,b⟩:=b;simp[Instr.makeMap,run_underlying b,o,asInt,asIntOf]
end
end
section
variable [Cf] [D1]
section
variable {C:ke} {base:Nat} {la:o_} {mu:jn} {g9:St} {a:Act} {w:TS}
def ru{v c:TR}{b:Bool}(d:bc v=some b)(h:VR la mu v c):bc c=some b/\dw c=dw v:=by
 cases h with
 |vc c=>simp[bc]at d
 |Nr _=>simp[bc]at d
 |scalar h=>exact⟨d,rfl⟩
 |agg _ _=>simp[bc]at d
 |tuple _ _=>simp[bc]at d
 |func _ _ _ _ _=>simp[bc]at d ⊢;exact⟨d,rfl⟩
 |yield h=>simp[bc]at d ⊢;exact⟨d,rfl⟩
 |En h=>simp[bc]at d ⊢;exact⟨d,rfl⟩
 |DG h=>simp[bc]at d ⊢;exact⟨d,rfl⟩
 |DQ=>simp[bc]at d ⊢;exact⟨d,rfl⟩
 |x9 h g f e=>simp[bc]at d ⊢;exact⟨d,rfl⟩
 |wb e=>simp[bc]at d ⊢;exact⟨d,rfl⟩
 |CA f e=>simp[bc]at d ⊢;exact⟨d,rfl⟩
 |y_ e=>simp[bc]at d ⊢;exact⟨d,rfl⟩
 |map h=>simp[bc]at d ⊢;exact⟨d,rfl⟩
def fJ{x y:TR}{b:Bool}(h:mf x y=some b):∃d c,bc x=some d/\bc y=some c/\((d=true/\b=c)∨(c=true/\b=d)):=by
 unfold mf at h;split at h
 next g e f=>cases h;exact⟨true,b,e,f,.inl ⟨rfl,rfl⟩⟩
 next g _ e f=>cases h;exact⟨b,true,e,f,.inr ⟨rfl,rfl⟩⟩
 .cases h
def lj{v:TR}{b:Bool}(h:bc v=some b)(e:dw v=1):(b=true/\v = .slice none 0 0)∨(b=false/\∃d n c,v = .slice (some d) n c):=by
 unfold bc at h;split at h<;>first|(simp[dw]at e;done)|(cases h;exact .inl ⟨rfl,rfl⟩)|(cases h;exact .inr ⟨rfl,_,_,_,rfl⟩)|cases h
def pM{v:TR}{b:Bool}(h:bc v=some b)(c:dw v=2):(b=true/\v = .map none)∨(b=false/\∃r,v = .map (some r)):=by
 unfold bc at h;split at h<;>first|(simp[dw]at c;done)|(cases h;exact .inl ⟨rfl,rfl⟩)|(cases h;exact .inr ⟨rfl,_,rfl⟩)|cases h
def nj{v:TR}{b:Bool}(h:bc v=some b)(c:dw v=3):(b=true/\v = .nilFunc)∨(b=false/\∃f x y,v = .func f x y):=by
 unfold bc at h;split at h<;>first|(simp[dw]at c;done)|(cases h;exact .inl ⟨rfl,rfl⟩)|(cases h;exact .inr ⟨rfl,_,_,_,rfl⟩)|cases h
def pN{v:TR}{b:Bool}(h:bc v=some b)(c:dw v=4):(b=true/\v = .pointer none)∨(b=false/\∃r,v = .pointer (some r)):=by
 unfold bc at h;split at h<;>first|(simp[dw]at c;done)|(cases h;exact .inl ⟨rfl,rfl⟩)|(cases h;exact .inr ⟨rfl,_,rfl⟩)|cases h
def vX{t:TP}{x y:TR}{b:Bool}(s:mf x y=some b)(j:tD C.P t x y=true):(Op.equal t x y).run C.P w = .ok b w:=by
 obtain⟨z,n,l,m,g⟩:=fJ s;unfold tD at j;split at j
 next d q=>
  simp only[te,beq_iff_eq]at j;obtain⟨c,f⟩:=j;have u:=run_underlying q w;have o:Op.equal t x y=Op.equalIn (9999+1) t x y:=rfl;rw[o];unfold Op.equalIn;rw[Sem.run_bind,u,Result.andThen_ok];cases d with
  |slice e=>
   have h:=lj l (by rw[←c];rfl);have i:=lj m (by rw[←f];rfl);rcases h with⟨rfl,rfl⟩|⟨rfl,_,_,_,rfl⟩<;>rcases i with⟨rfl,rfl⟩|⟨rfl,_,_,_,rfl⟩<;>simp at g<;>subst g<;>rfl
  |map k e=>
   have h:=pM l (by rw[←c];rfl);have i:=pM m (by rw[←f];rfl);rcases h with⟨rfl,rfl⟩|⟨rfl,_,rfl⟩<;>rcases i with⟨rfl,rfl⟩|⟨rfl,_,rfl⟩<;>simp at g<;>subst g<;>rfl
  |func p r v=>
   have h:=nj l (by rw[←c];rfl);have i:=nj m (by rw[←f];rfl);rcases h with⟨rfl,rfl⟩|⟨rfl,_,_,_,rfl⟩<;>rcases i with⟨rfl,rfl⟩|⟨rfl,_,_,_,rfl⟩<;>simp at g<;>subst g<;>rfl
  |pointer e=>
   have h:=pN l (by rw[←c];rfl);have i:=pN m (by rw[←f];rfl);rcases h with⟨rfl,rfl⟩|⟨rfl,_,rfl⟩<;>rcases i with⟨rfl,rfl⟩|⟨rfl,_,rfl⟩<;>simp at g<;>subst g<;>rfl
  |_=>
   simp only[mg]at c;cases x<;>simp[dw]at c
 .cases j
def zy{d e c1 c:TR}{b:Bool}{t:TP}(h1:VR la mu d c1)(k:VR la mu e c)(l:mf d e=some b)(f:tD C.P t d e=true):mf c1 c=some b/\tD C.P t c1 c=true:=by
 obtain⟨q,g,h,i,j⟩:=fJ l;obtain⟨m,n⟩:=ru h h1;obtain⟨o,p⟩:=ru i k;refine⟨?_,by unfold tD at f ⊢;rw[n,p];exact f⟩;unfold mf;rw[m,o];rcases j with⟨rfl,rfl⟩|⟨rfl,rfl⟩
 .rfl
 .cases b<;>rfl
def oY{d:BinOp}{t:TP}{x y:TK}{c1 c:TR}{b:Bool}(g:mf c1 c=some b):(eqGuard d t x y c1 c).run C.P w = .ok () w:=by
 obtain⟨h,e,f,i,j⟩:=fJ g;cases c1<;>(try (simp[bc]at f;done))<;>cases d<;>rfl
def binOp_eql{t:TP}{c1 c:TR}{b:Bool}(g:mf c1 c=some b):binOp .eql t c1 c=(do pure (.bool (←Op.equal t c1 c))):=by
 obtain⟨h,d,e,f,i⟩:=fJ g;cases c1<;>(try (simp[bc]at e;done))<;>cases c<;>(try (simp[bc]at f;done))<;>rfl
def binOp_neq{t:TP}{c1 c:TR}{b:Bool}(g:mf c1 c=some b):binOp .neq t c1 c=(do pure (.bool (!(←Op.equal t c1 c)))):=by
 obtain⟨h,d,e,f,i⟩:=fJ g;cases c1<;>(try (simp[bc]at e;done))<;>cases c<;>(try (simp[bc]at f;done))<;>rfl
def VR.F1{g:TQ}{x y:Tl}{c:TR}(h:VR la mu (.func (.func g) x y) c):∃x' y',c = .func (.func g) x' y'/\t0 la mu x.toList x'.toList/\t0 la mu y.toList y'.toList:=by
 cases h with
 |scalar h=>simp[Am.scalar]at h
 |func _ j k e f=>
  exact⟨_,_,rfl,⟨by simpa using j,λi u v b d=>e i u v (by simpa using b) (by simpa using d)⟩,⟨by simpa using k,λi u v b d=>f i u v (by simpa using b) (by simpa using d)⟩⟩
def VR.GO{l:Nat}{x y:Tl}{c:TR}(h:VR la mu (.func (.yield l) x y) c):∃p,mu l=some p/\c = .func (.yield p.b) #[] #[]:=by
 cases h with
 |scalar h=>simp[Am.scalar]at h
 |func d _ _ _ _=>exact absurd rfl (d l)
 |yield h=>exact⟨_,h,rfl⟩
def VR.GN{b:Option Addr}{n cx:Nat}{c:TR}(h:VR la mu (.slice b n cx) c):∃a' cap,c = .slice a' n cap/\(∀m,b.isSome->cx=m+1->cap=m):=by
 cases h with
 |scalar h=>exact⟨_,_,rfl,λm g _=>by cases b with|none=>cases g|some a=>simp[Am.scalar]at h⟩
 |x9 h i f e=>exact⟨_,_,rfl,λm _ d=>by omega⟩
 |wb e=>exact⟨_,_,rfl,λm _ d=>by omega⟩
 |CA f e=>exact⟨_,_,rfl,λm _ d=>by omega⟩
 |y_ e=>exact⟨_,_,rfl,λm _ d=>by omega⟩
def K9(h:SR C base la mu g9 a.tmps w)(c:Array (Nat×Operand))(f:∀p∈c.toList,aD (h9 g9.tmps p.2)=false) :
  YQ la mu (c.toList.map λp=>(p.1,h9 g9.tmps p.2)) (c.map λ(i,x)=>(i,a.eval x)).toList:=by
 rw[qdl];refine⟨by simp,λi p q b d=>?_⟩;rw[EL]at b d;cases e:c.toList[i]? with
 |none=>rw[e]at b;cases b
 |some x=>
  rw[e]at b d;cases b;cases d;exact⟨rfl,f x (Cb e),aM h x.2⟩
def cg{c:Call}{o:Oper}{b:Builtin}(e:o.op = .call c)(g:c.callee = .builtin b) :
  execOp a.eval o=builtin b c.argTypes o.type (c.args.map λ| .const _=>true|_=>false) (c.args.map a.eval):=by
 obtain⟨dst,h,f,pos,d,guard⟩:=o;simp only at e;subst e;simp only[execOp,resolve,g];rfl
def si{c:Call}{s x:TR}(h:c.args.toList.map (h9 g9.tmps)=[s,x]):∃xs xx,c.args = #[xs,xx]/\s=h9 g9.tmps xs/\x=h9 g9.tmps xx:=by
 obtain⟨l,b⟩ : ∃l,c.args=l.toArray:=⟨c.args.toList,by simp⟩;rw[b]at h
 match l,h with
 | [u,v],h=>
  simp at h;exact⟨u,v,by rw[b],h.1.symm,h.2.symm⟩
def sf{c:Call}{s:TR}(h:c.args.toList.map (h9 g9.tmps)=[s]):∃xs,c.args = #[xs]/\s=h9 g9.tmps xs:=by
 obtain⟨l,b⟩ : ∃l,c.args=l.toArray:=⟨c.args.toList,by simp⟩;rw[b]at h
 match l,h with
 | [u],h=>
  simp at h;exact⟨u,by rw[b],h.symm⟩
def ny{s:Sem Value}{v:TR}(h:∃v',s.run C.P w = .ok v' w/\VR la mu v v'):oF C base la mu g9 w (do pure (.value (←s))) (.val v):=by
 obtain⟨v',b,c⟩:=h;exact ie b c
def mt(h:SR C base la mu g9 a.tmps w){o:Oper}{e:DM}(d:∀cs b,o.op≠.select cs b)(c:cI C (h9 g9.tmps) o=some e):oF C base la mu g9 w (execOp a.eval o) e:=by
 obtain⟨v,rfl,f⟩:=Bn h d c;exact f
def su(h:SR C base la mu g9 a.tmps w)(hb:base<=w.heap.size){c:Call}{o:Oper}{b:Builtin}{e:DM}(z:o.op = .call c)(D:c.callee = .builtin b)
  (j:aX C (h9 g9.tmps) b (c.args.toList.map (h9 g9.tmps)) c.argTypes o=some e):oF C base la mu g9 w (execOp a.eval o) e:=by
 have F:∀U b,o.op≠.select U b:=by rw[z];intro U b h;cases h
 unfold aX at j;split at j
 next s x t f l=>
  obtain⟨G,xx,g,rfl,rfl⟩:=si f;split at j
  .cases j
  next i=>
   cases j;simp only[Gd,not_or,Gb]at i;obtain⟨H,K⟩ : ∃H,c.argTypes[1]?=some H:=by
    cases B:c.argTypes[1]? with
    |none=>simp[B]at i
    |some H=>exact⟨H,rfl⟩
   rw[K]at i;have hd:∃d,C.P.underlying H=some d/\pE d=false:=by
    have E:=i.1;simp only[Option.any_some]at E;split at E
    .cases E
    .cases E
    next S T=>
     cases y:C.P.underlying H with
     |none=>exact absurd y T
     |some d=>
      refine⟨d,rfl,?_⟩;cases d<;>first|rfl|exact absurd y (S _)
   obtain⟨d,O,Q⟩:=hd;intro M v A;have:=AF (ty:=o.type) h hb l K O Q A;rw[cg z D,g];simpa[builtin]using this
 next x t f l=>
  obtain⟨G,g,rfl⟩:=sf f;have B:=aM h G;split at j
  next L X n V y u=>
   cases j;rw[u]at B;obtain⟨W,I,r,_⟩:=B.GN;rw[cg z D,g];exact⟨.int .i64 n,by simp[builtin,Builtin.len_,l,run_underlying y,r,goInt],.scalar rfl⟩
  next kt et id y u=>
   cases j;rw[u]at B;obtain⟨p,hp,r⟩:=B.G6;intro v A;cases R:Dq g9.heap id with
   |none=>simp[R]at A
   |some q=>
    obtain⟨es,cl⟩:=q;simp only[R,EA,FL]at A;subst A;obtain⟨N,Y,Z,h3⟩:=wU h.wr R hp;rw[cg z D,g];refine⟨.int .i64 N.size,by simp[builtin,Builtin.len_,l,run_underlying y,r,cj Y,goInt],by rw[Z];exact .scalar rfl⟩
  next n L y=>
   cases j;rw[cg z D,g];exact⟨.int .i64 n,by simp[builtin,Builtin.len_,l,run_underlying y,goInt],.scalar rfl⟩
  .exact mt h F j
 next x t f l=>
  obtain⟨G,g,rfl⟩:=sf f;have B:=aM h G;split at j
  next L X n V y u=>
   cases j;rw[u]at B;obtain⟨W,I,r,J⟩:=B.GN;have:=J V rfl rfl;subst this;rw[cg z D,g];exact⟨.int .i64 I,by simp[builtin,Builtin.cap_,l,run_underlying y,r,goInt],.scalar rfl⟩
  next L y u=>
   cases j;rw[u]at B;have r:=cJ (a:=.slice none 0 0) rfl B;rw[cg z D,g];exact⟨.int .i64 0,by simp[builtin,Builtin.cap_,l,run_underlying y,r,goInt],.scalar rfl⟩
  next n L y=>
   cases j;rw[cg z D,g];exact⟨.int .i64 n,by simp[builtin,Builtin.cap_,l,run_underlying y,goInt],.scalar rfl⟩
  .cases j
 next d x t f l=>
  obtain⟨G,xx,g,rfl,rfl⟩:=si f;cases j;intro M v A;have:=OE (ty:=o.type) h l A;rw[cg z D,g];simpa[builtin]using this
 next m k t f l=>
  obtain⟨G,xx,g,rfl,rfl⟩:=si f;cases j;intro M v A;have:=AQ (ty:=o.type) h l A;rw[cg z D,g];simpa[builtin]using this
 next x t f l=>
  obtain⟨G,g,rfl⟩:=sf f;cases j;intro M v A;have:=Md (ty:=o.type) h l A;rw[cg z D,g];simpa[builtin]using this
 .exact mt h F j
def AJ(h:SR C base la mu g9 a.tmps w)(O:base<=w.heap.size){c:Call}{o:Oper}{e:DM}(F:o.op = .call c)(d:gJ C (h9 g9.tmps) c o=some e):oF C base la mu g9 w (execOp a.eval o) e:=by
 unfold gJ at d;simp only at d;split at d
 next b D=>
  exact su h O F D d
 .cases d
 next f D=>
  split at d
  .cases d
  next k=>
   simp only[Gb,ck]at k;have j:=(sK h c.args).down k;have z:=aM h f;have q:∀B x y,a.eval f = .func B x y->(execOp a.eval o).run C.P w=(invoke (.fn B y) (x++c.args.map a.eval)).run C.P w:=by
    intro B x y m;obtain⟨dst,S,J,pos,A,guard⟩:=o;simp only at F;subst F;simp[execOp,resolve,D,m,Deferred.ofValue]
   split at d
   next g first r s=>
    split at d
    next E=>
     cases d;rw[s]at z;obtain⟨K,L,m,H,I⟩:=z.F1;have n:first.toList.all aV=true/\r.toList.all aV=true:=by simpa[l_]using E
     have M:t0 Cu mu first.toList K.toList:=⟨H.1,λi u v t G=>fL (cL n.1 t) (H.2 i u v t G)⟩
     have N:t0 Cu mu r.toList L.toList:=⟨I.1,λi u v t G=>fL (cL n.2 t) (I.2 i u v t G)⟩;refine⟨K++c.args.map a.eval++L,?_,?_⟩
     .simp only[Yw];exact(M.append j).append N
     .rw[q _ _ _ m];rfl
    .cases d
   next l first r s=>
    split at d
    next R=>
     cases d;rw[s]at z;obtain⟨p,Q,m⟩:=z.GO;refine⟨p,#[]++c.args.map a.eval,Q,by simpa using j,?_⟩;rw[q _ _ _ m];rfl
    .cases d
   .cases d
def yL(h:SR C base la mu g9 a.tmps w)(L:base<=w.heap.size){a_:TC}{o:Oper}{e:DM}(g:ar C a_ (h9 g9.tmps) o=some e):oF C base la mu g9 w (execOp a.eval o) e:=by
 obtain⟨dst,op,type,pos,after,guard⟩:=o;cases op with
 |move x=>simp only[ar]at g;cases g;exact⟨_,rfl,aM h x⟩
 |assign x=>simp only[ar]at g;cases g;exact⟨_,rfl,aM h x⟩
 |pick c x y=>
  simp only[ar]at g;split at g
  next q hq=>
   cases g;have M:=aM h c;rw[hq]at M;have ag:=M.bool;refine⟨if q then a.eval x else a.eval y,by simp[execOp,ag,asBool],?_⟩;cases q
   .exact aM h y
   .exact aM h x
  .cases g
 |alloc t=>
  simp only[ar]at g;cases V:eU C.P t with
  |none=>rw[V]at g;cases g
  |some z=>
   rw[V,Dj]at g;have ay:=AD V w;have:=ni h L (VR.of_flat (qm V).2.1) g;have S:(execOp a.eval { dst,op:=.alloc t,type,pos,after,guard }).run C.P w=(do pure (.value (←Instr.box t z)):Sem Next).run C.P w:=by
    simp[execOp,Instr.alloc,Instr.box,ay]
   revert this;cases e<;>simp only[oF,wq,Hw,S]<;>exact id
 |box t x=>simp only[ar]at g;exact ni h L (aM h x) g
 |build t N=>
  simp only[ar]at g;split at g
  next G=>
   cases E:ux C t (N.toList.map λp=>(p.1,h9 g9.tmps p.2))with
   |none=>rw[E]at g;cases g
   |some v=>
    rw[E]at g;cases g;have I:=K9 h N λp I=>by
     have:=A5.1 G p I;simpa using this
    exact ny (L8 E I)
  .cases g
 |buildSlice t n N=>
  simp only[ar]at g;split at g
  next G=>
   have av:∀p∈N.toList,aD (h9 g9.tmps p.2)=false:=λp I=>by
    have:=A5.1 G p I;cases A:h9 g9.tmps p.2 with
    |tuple vs=>
     rw[A]at this;have:=A5.1 this (.tuple vs) (by simp[Value.cells]);simp only[bg,aR,te]at this;simp[aD,this.2]
    |_=>rfl
   have I:=K9 h N av;cases E:fz C t n (N.toList.map λp=>(p.1,h9 g9.tmps p.2))with
   |none=>rw[E]at g;cases g
   |some r=>
    rw[E]at g;cases g;intro K v A;cases A;exact qr h L I (λp I=>by
     obtain⟨q,hq,rfl⟩:=CH.1 I;exact A5.1 G q hq) E
  .cases g
 |load t x=>simp only[ar]at g;exact AZ h g
 |store t x y=>simp only[ar]at g;exact yi h g
 |nilCheck x=>
  simp only[ar]at g;have D:=aM h x;split at g
  next ad A=>
   cases g;rw[A]at D;cases M:a.eval x with
   |pointer p=>
    rw[M]at D;cases p with
    |none=>cases D
    |some p=>exact⟨_,by simp[execOp,M],D⟩
   |_=>rw[M]at D;cases D<;>(rename_i j;simp[Am.scalar]at j)
  next f u v A=>
   cases g;rw[A]at D;obtain⟨u',T,F,_,_⟩:=D.F1;rw[F]at D;exact⟨_,by simp[execOp,F],D⟩
  next f u v A=>
   cases g;rw[A]at D;obtain⟨p,_,F⟩:=D.GO;rw[F]at D;exact⟨_,by simp[execOp,F],D⟩
  .cases g
 |binOp op t x y yt=>
  have B:cI C (h9 g9.tmps) { dst,op:=.binOp op t x y yt,type,pos,after,guard }=some e->oF C base la mu g9 w (execOp a.eval { dst,op:=.binOp op t x y yt,type,pos,after,guard }) e:=
   λg=>mt h (by intro Y b h;cases h) g
  simp only[ar]at g;split at g
  .split at g
   next b hn=>
    split at g
    next ho=>
     cases g;obtain⟨J,n2⟩:=zy (aM h x) (aM h y) hn ho;refine⟨.bool b,?_,.scalar rfl⟩;simp only[execOp,Sem.run_bind,oY J,Result.andThen_ok,binOp_eql J,vX J n2,Sem.run_pure]
    .cases g
   .exact B g
  .split at g
   next b hn=>
    split at g
    next ho=>
     cases g;obtain⟨J,n2⟩:=zy (aM h x) (aM h y) hn ho;refine⟨.bool !b,?_,.scalar rfl⟩;simp only[execOp,Sem.run_bind,oY J,Result.andThen_ok,binOp_neq J,vX J n2,Sem.run_pure]
    .cases g
   .exact B g
  .exact B g
 |unOp op t x=>simp only[ar]at g;exact mt h (by intro Y b h;cases h) g
 |convert s d x=>simp only[ar]at g;exact mt h (by intro Y b h;cases h) g
 |makeFunc fn first O=>
  simp only[ar]at g;split at g
  .cases g
  next an=>
   cases g;refine⟨.func fn (first.map a.eval) (O.map a.eval),by simp[execOp,Instr.makeFunc],?_⟩;have r1:=sK h first
   have r2:=sK h O;refine .func (λl hl=>an l hl) (by simp) (by simp) (λi u v H A=>r1.2 i u v (by simpa using H) (by simpa using A)) (λi u v H A=>r2.2 i u v (by simpa using H) (by simpa using A))
 |makeMap t r=>
  simp only[ar]at g;split at g
  next hr=>
   cases g;intro K v A;cases A;exact me h L hr
  .cases g
 |makeSlice t l c=>
  simp only[ar]at g;cases g;intro K v A;exact tA h L A
 |slice t x W U X=>
  have B:cI C (h9 g9.tmps) { dst,op:=.slice t x W U X,type,pos,after,guard }=some e->oF C base la mu g9 w (execOp a.eval { dst,op:=.slice t x W U X,type,pos,after,guard }) e:=
   λg=>mt h (by intro Y b h;cases h) g
  have D:=aM h x;have o1:=Fq.map W λx=>aM h x;have o2:=Fq.map U λx=>aM h x;have o3:=Fq.map X λx=>aM h x;simp only[ar]at g;split at g
  next ad A=>
   rw[A]at D;split at g
   next ax=>
    cases j:lI C t ad (W.map (h9 g9.tmps)) (U.map (h9 g9.tmps)) (X.map (h9 g9.tmps)) []with
    |none=>rw[j]at g;cases g
    |some v=>
     rw[j]at g;cases g;exact ny (qh h.wr (.inl ax) j D o1 o2 o3)
   .cases g;intro v A;obtain⟨T,Q,R⟩:=qh h.wr (.inr rfl) A D o1 o2 o3;exact ie Q R
  .unfold pQ at g;split at g
   next v j=>
    cases g;exact ny (Nj j D o1 o2 o3)
   .exact B g
 |fieldAddr t x f=>
  simp only[ar]at g;cases j:gn C t (h9 g9.tmps x) f with
  |none=>rw[j]at g;cases g
  |some v=>rw[j]at g;cases g;exact ny (sN j (aM h x))
 |field t x f=>
  simp only[ar]at g;cases j:uT C t (h9 g9.tmps x) f with
  |none=>rw[j]at g;cases g
  |some v=>rw[j]at g;cases g;exact ny (Mx j (aM h x))
 |indexAddr t x i=>
  simp only[ar]at g;cases j:fm C t (h9 g9.tmps x) (h9 g9.tmps i)with
  |none=>rw[j]at g;cases g
  |some v=>rw[j]at g;cases g;exact ny (ti j (aM h x) (aM h i))
 |index t x i=>
  simp only[ar]at g;cases j:mZ C t (h9 g9.tmps x) (h9 g9.tmps i)with
  |none=>rw[j]at g;cases g
  |some v=>rw[j]at g;cases g;exact ny (MF j (aM h x) (aM h i))
 |lookup t m k ok=>
  simp only[ar]at g;have hm:=aM h m;have hk:=aM h k;split at g
  next ap=>
   rw[ap]at hm;cases j:dK C t (.map none) (h9 g9.tmps k) ok []with
   |none=>rw[j]at g;cases g
   |some v=>rw[j]at g;cases g;exact ny (rj h.wr (.inl rfl) hm hk j)
  .cases g;intro v A;obtain⟨T,Q,R⟩:=rj h.wr (.inr rfl) hm hk A;exact ie Q R
 |mapUpdate t m k v=>simp only[ar]at g;cases g;intro K u H;exact kY h H
 |insert t m k v=>simp only[ar]at g;cases g;intro K u H;exact kY h H
 |mapEntry t m k=>simp only[ar]at g;cases g;intro K u H;exact vE h H
 |entryStore t m s v=>simp only[ar]at g;cases g;intro K u H;exact qy h H
 |extract t i=>
  simp only[ar]at g;have ht:=aM h t;split at g
  next vs A=>
   split at g
   .cases g
   next aE=>
    cases j:vs[i]? with
    |none=>rw[j]at g;cases g
    |some v=>
     rw[j]at g;cases g;rw[A]at ht;obtain⟨ds,F,al⟩:=ht.LW (by omega);obtain⟨T,Q,R⟩:=al.get (i:=i) (by simpa using j);refine⟨T,?_,R⟩;have Z:ds[i]?=some T:=by simpa using Q
     simp[execOp,Instr.extract,F,Z]
  .cases g
 |call c=>simp only[ar]at g;exact AJ h L rfl g
 |_=>simp only[ar]at g;cases g
end
end
section
variable [Cf]
section
variable [D1]
def Marks(mu:jn)(H:Tu)(b w:TS)(ds:List Deferred):Prop:=
 ∃a:List Nat,ds=a.map (λr=>({ target:=.collected r,args:=#[] }:Deferred))/\a.Nodup/\∀r∈a,b.heap.size<=r/\w.heap[r]?=some (.deferred (some []))/\¬Ij mu H r
structure FI(C:ke)(base:Nat)(m7:Tu)(m9:jn)(j9:TS)(la:o_)(mu:jn)(g9:St)(a:Act)(w:TS):Prop where
 sr:SR C base la mu g9 a.tmps w
 DY:Ee m7 m9 j9 g9.heap mu w
 fresh:∀s b,la s=some b->j9.heap.size<=b
 marks:Marks mu g9.heap j9 w a.defers
 low:base<=j9.heap.size
end
def en(C:ke)(f:TQ)(args:Tn)(H:Tu)(r:Value)(H':Tu):Prop:=
 ∀(_:D1) (a:Nat) (mu:jn) (w:TS) (args':Tl),a<=w.heap.size->t0 Cu mu args args'.toList->WR C a mu H w->∀cs,
  ∃v b w',VR Cu b r v/\WR C a b H' w'/\Ee H mu w H' b w'/\(callFunc f args').run C.P w = .ok (.enter f args') w/\
   ∃fr,Steps C.P (lone (Frame.enter C.P f args' .normal) cs w) (lone fr cs w')/\fr.fn=f/\fr.leaving C.P w' (.returned v)
def JL(C:ke)(l:Nat)(args:Tn)(H:Tu)(r:Value)(H':Tu):Prop:=
 ∀(_:D1) (a:Nat) (mu:jn) (w:TS) (args':Tl) (p:Pl),a<=w.heap.size->mu l=some p->t0 Cu mu args args'.toList->WR C a mu H w->∀c cs,
  ∃v f w' g e assign d,VR Cu f r v/\WR C a f H' w'/\Ee H mu w H' f w'/\(Instr.yield p.b args').run C.P w = .ok (.round p.b g e assign d) w/\
   Steps C.P (lone (Frame.round p.b g e assign d .normal) (c :: cs) w) (lone (c.finish v) cs w')
structure BOk(C:ke)(B:Below):Prop where
 call:∀f args H r H',B.call f args H r H'->en C f args H r H'
 yield:∀l args H r H',B.yield l args H r H'->JL C l args H r H'
section
variable [D1]
section machine
abbrev _root_.TB:=List Item
variable {P:TI} {b:Frame} {a:Act} {k:TB} {cs:List Frame} {w w':TS} {ops:To} {i:Nat} {rest:TC} {o:Oper}
def dy{v:TR}(f:ops[i]?=some o)(j:Region.wanted o (yielded ops a.tmps)=true)(g:∀c,o.op≠.defer c)(h:(execOp a.eval o).run P w = .ok (.value v) w') :
  step P (lone (b.atR a (.inRegion ops (i :: rest) :: k)) cs w) = .next (lone (b.atR (a.put o.dst v) (.inRegion ops rest :: k)) cs w'):=by
 have e:=stepGR_op (P:=P) (b:=b) (k:=k) (cs:=cs) (w:=w) (rest:=rest) f j;rw[Oper.semAt_eq _ _ _ g]at e;have d:(b.atR a (.inRegion ops (i :: rest) :: k)).finish v=b.atR (a.put o.dst v) (.inRegion ops rest :: k):=by rw[Frame.finish_atR,f];rfl
 refine step_lone_go ?_;rw[e,←d];simp[stepG.apply,Sem.runT_eq,h]
def rT(f:ops[i]?=some o)(j:Region.wanted o (yielded ops a.tmps)=true)(g:∀c,o.op≠.defer c)(h:(execOp a.eval o).run P w = .ok .skip w') :
  step P (lone (b.atR a (.inRegion ops (i :: rest) :: k)) cs w) = .next (lone (b.atR (a.put o.dst undef) (.inRegion ops rest :: k)) cs w'):=by
 have e:=stepGR_op (P:=P) (b:=b) (k:=k) (cs:=cs) (w:=w) (rest:=rest) f j;rw[Oper.semAt_eq _ _ _ g]at e;have d:(b.atR a (.inRegion ops (i :: rest) :: k)).finish undef=b.atR (a.put o.dst undef) (.inRegion ops rest :: k):=by rw[Frame.finish_atR,f];rfl
 refine step_lone_go ?_;rw[e,←d];simp[stepG.apply,Sem.runT_eq,h]
def BE{f:TQ}{args:Tl}(g:ops[i]?=some o)(j:Region.wanted o (yielded ops a.tmps)=true)(e:∀c,o.op≠.defer c)(h:(execOp a.eval o).run P w = .ok (.enter f args) w') :
  step P (lone (b.atR a (.inRegion ops (i :: rest) :: k)) cs w) = .next (lone (Frame.enter P f args .normal) (b.atR a (.inRegion ops (i :: rest) :: k) :: cs) w'):=by
 have d:=stepGR_op (P:=P) (b:=b) (k:=k) (cs:=cs) (w:=w) (rest:=rest) g j;rw[Oper.semAt_eq _ _ _ e]at d;exact step_lone_go (by rw[d];simp[stepG.apply,Sem.runT_eq,h,Frame.atR])
def Nq{l:Nat}{f:TQ}{e:Tl}{assign d:Code}(j:ops[i]?=some o)(n:Region.wanted o (yielded ops a.tmps)=true)(h:∀c,o.op≠.defer c)
  (m:(execOp a.eval o).run P w = .ok (.round l f e assign d) w') :
  step P (lone (b.atR a (.inRegion ops (i :: rest) :: k)) cs w) = .next (lone (Frame.round l f e assign d .normal) (b.atR a (.inRegion ops (i :: rest) :: k) :: cs) w'):=by
 have g:=stepGR_op (P:=P) (b:=b) (k:=k) (cs:=cs) (w:=w) (rest:=rest) j n;rw[Oper.semAt_eq _ _ _ h]at g;exact step_lone_go (by rw[g];simp[stepG.apply,Sem.runT_eq,m,Frame.atR])
def uY(c:ops[i]?=some o)(v:TR):(b.atR a (.inRegion ops (i :: rest) :: k)).finish v=b.atR (a.put o.dst v) (.inRegion ops rest :: k):=by
 rw[Frame.finish_atR,c];rfl
end machine
section
variable {C:ke} {base:Nat} {m7:Tu} {m9:jn} {j9:TS} {la:o_} {mu:jn} {g9:St} {a:Act} {w:TS}
def FI.big(h:FI C base m7 m9 j9 la mu g9 a w):base<=w.heap.size:=NG h.low h.DY.size
def ut(a:Act)(dst:Tq)(v:TR):(a.put dst v).tmps=(match dst with|some d=>a.tmps.setIfInBounds d v|none=>a.tmps):=by cases dst<;>rfl
def qo(a:Act)(dst:Tq)(v:TR):(a.put dst v).defers=a.defers:=by cases dst<;>rfl
def FI.put(h:FI C base m7 m9 j9 la mu g9 a w)(dst:Tq){v v':TR}(c:VR la mu v v'):FI C base m7 m9 j9 la mu (g9.put dst v) (a.put dst v') w:=by
 have b:(g9.put dst v).heap=g9.heap:=by cases dst<;>rfl
 refine⟨?_,by rw[b];exact h.DY,h.fresh,by rw[qo,b];exact h.marks,h.low⟩;rw[ut];exact h.sr.put dst c
def Marks.DY{H H':Tu}{mu b:jn}{w w':TS}{ds:List Deferred}(h:Marks mu H j9 w ds)(d:Ee H mu w H' b w'):Marks b H' j9 w' ds:=by
 obtain⟨n,f,g,i⟩:=h;refine⟨n,f,g,λr k=>?_⟩;obtain⟨l,m,e⟩:=i r k;have c:r<w.heap.size:=by
  grind
 exact⟨l,by rw[d.i_ r c e];exact m,λj=>(d.D9 r j).elim (λo=>by omega) e⟩
def FI.heap(h:FI C base m7 m9 j9 la mu g9 a w){H':Tu}{b:jn}{w':TS}(d:WR C base b H' w')(c:Ee g9.heap mu w H' b w'):FI C base m7 m9 j9 la b { g9 with heap:=H' } a w':=
 ⟨h.sr.DY d c,h.DY.trans c,h.fresh,h.marks.DY c,h.low⟩
def Ij.lt{mu:jn}{H:Tu}{w:TS}(f:WR C base mu H w){b:Nat}(h:Ij mu H b):b<w.heap.size/\base<=b:=by
 obtain⟨id,o,p,c,d,e,rfl⟩:=h;exact⟨f.lt c (bO d) e,f.own id o p c d e⟩
def FI.Fv(h:FI C base m7 m9 j9 la mu g9 a w){s:Nat}{vs:Tn}{d:Tl}{e:TP}(K:g9.loc[s]?=some none)(M:t0 Cu mu vs d.toList)(v:vs.all bg=true) :
  FI C base m7 m9 j9 (λk=>if k=s then some w.heap.size else la k) mu { g9 with loc:=g9.loc.set s (some vs) } a (w.alloc (.cells d e)):=by
 have l:∀b,b<w.heap.size->(w.alloc (.cells d e)).heap[b]?=w.heap[b]?:=λb r=>by
  show(w.heap.push _)[b]?=_
  grind
 have u:la s=none:=by
  cases H:la s with
  |none=>rfl
  |some b=>obtain⟨i,j⟩:=h.sr.F4 s b H;rw[K]at j;cases j
 have m:∀t b,la t=some b->(if t=s then some w.heap.size else la t)=some b:=λt b f=>by
  grind
 have D:∀t b,la t=some b->b<w.heap.size:=λt b f=>by
  obtain⟨i,j⟩:=h.sr.F4 t b f;obtain⟨O,c,y,n,_,z,_⟩:=h.sr.loc t i j
  grind
 have E:s<g9.loc.length:=by
  grind
 have A:Ee g9.heap mu w g9.heap mu (w.alloc (.cells d e)):=⟨x5 _,λ_ _=>rfl,by simp,λb r _=>l b r,λb r=>.inr r,rfl,rfl,rfl,x5 _⟩;refine⟨⟨h.sr.DX.mono m λ_ _ h=>h,?_,?_,?_,?_⟩,h.DY.trans A,?_,h.marks.DY A,h.low⟩
 .intro t b f;split at f
  .simp_all
  next L=>
   obtain⟨i,j⟩:=h.sr.F4 t b f
   grind
 .intro t i f;rcases Cm f with⟨I,f⟩|⟨rfl,_,x⟩
  .obtain⟨b,c,y,j,n,z,F,Q,R⟩:=h.sr.loc t i f
   grind
  .cases x;exact⟨w.heap.size,d,e,by simp,h.big,by show(w.heap.push _)[_]?=_;simp,v,M,λJ=>by have:=(Ij.lt h.sr.wr J).1;omega⟩
 .intro t N b f q;split at f<;>split at q
  .omega
  .grind
  .grind
  .exact h.sr.Gv t N b f q
 .refine⟨?_,h.sr.wr.inj,h.sr.wr.own,h.sr.wr.ro,h.sr.wr.Im,?_⟩
  .intro id o hY B;obtain⟨p,j,n⟩:=h.sr.wr.obj id o hY B;exact⟨p,j,by rw[l _ (jX B n)];exact n⟩
  .intro g vs G;obtain⟨j,n,c,y,P,z,F⟩:=h.sr.wr.D2 g vs G
   grind
 .intro t b f;split at f
  .cases f;exact h.DY.size
  .exact h.fresh t b f
def FI.Fw(h:FI C base m7 m9 j9 la mu g9 a w){s b:Nat}{vs j:Tn}{c cs:Tl}{e:TP}(R:g9.loc[s]?=some (some vs))(G:la s=some b)(I:w.heap[b]?=some (.cells c e (0,0)))
  (W:t0 Cu mu j cs.toList) (Q:j.all bg=true):FI C base m7 m9 j9 la mu { g9 with loc:=g9.loc.set s (some j) } a (w.setRow b cs):=by
 have H:b<w.heap.size:=(Is.1 I).1;have A:¬Ij mu g9.heap b/\base<=b:=by
  obtain⟨l,u,v,d,m,_,_,_,E⟩:=h.sr.loc s vs R
  simp_all
 have f:∀k,k≠b->(w.setRow b cs).heap[k]?=w.heap[k]?:=λk y=>setRow_other w b k cs y;have J:(w.setRow b cs).heap[b]?=some (.cells cs e (0,0)):=setRow_heap w b c cs e (0,0) I;have K:s<g9.loc.length:=by
  grind
 have N:=h.fresh s b G;refine⟨⟨h.sr.DX,?_,?_,h.sr.Gv,?_⟩,?_,h.fresh,?_,h.low⟩
 .intro t l n;obtain⟨q,d⟩:=h.sr.F4 t l n
  grind
 .intro t q n;rcases Cm n with⟨z,n⟩|⟨rfl,_,S⟩
  .obtain⟨l,u,v,d,m,x,D,M,E⟩:=h.sr.loc t q n;exact⟨l,u,v,d,m,by rw[f l λL=>z (h.sr.Gv t s l d (L▸G))];exact x,D,M,E⟩
  simp_all
 .refine⟨?_,h.sr.wr.inj,h.sr.wr.own,h.sr.wr.ro,h.sr.wr.Im,?_⟩
  .intro id o hY F;obtain⟨p,d,m⟩:=h.sr.wr.obj id o hY F;refine⟨p,d,?_⟩;by_cases B:p.b=b
   · -- an object that is only read may lie below
    exfalso;by_cases i:o.owned=true
    .exact A.1 ⟨id,o,p,hY,i,d,B⟩
    .have:=h.sr.wr.ro id o p hY F (by simpa using i) d;omega
   simp_all
  .intro g vs O;obtain⟨d,m,u,v,U,x,D⟩:=h.sr.wr.D2 g vs O
   grind
 .refine⟨h.DY.len,h.DY.same,by grind,λk y P=>?_,h.DY.D9,h.DY.os,h.DY.tape,h.DY.output,h.DY.dr⟩;rw[f k (by omega)];exact h.DY.i_ k y P
 .obtain⟨T,d,m,x⟩:=h.marks;refine⟨T,d,m,λr V=>?_⟩
  grind
end
end
end
section
variable [Cf] [D1]
section
variable {C:ke} {base:Nat} {m7:Tu} {m9:jn} {j9:TS} {la:o_} {mu:jn} {g9:St} {a:Act} {w:TS}
def mN{ops:To}{o:Oper}{t:Bool}(h:t0 la mu g9.tmps a.tmps.toList)(c:cv ops g9.tmps o=some t):Region.wanted o (yielded ops a.tmps)=t:=by
 unfold cv at c;unfold Region.wanted;cases n:o.guard with
 |none=>simp_all
 |some q=>
  obtain⟨j,k⟩:=q;rw[n]at c;simp only at c ⊢;unfold yielded;cases m:(ops[j]?).bind (·.dst)with
  |none=>
   simp_all
  |some d=>
   rw[m]at c;simp only[Dj]at c ⊢;cases i:g9.tmps[d]? with
   |none=>
    rw[i]at c;cases c;have:a.tmps[d]?=none:=by
     have x:=h.1
     simp_all
    rw[this];simp
   |some v=>
    rw[i]at c;obtain⟨r,l,f⟩:=h.get i;rw[show a.tmps[d]?=some r by simpa using l];cases v with
    |bool b=>
     have:=f.bool
     simp_all
    |tuple y=>
     split at c
     next b e=>cases e
     next s e=>
      cases e;split at c
      .cases c
      next g=>
       cases c;obtain⟨u,rfl,_⟩:=f.LW g;rfl
     simp_all
    |_=>
     cases c;cases f<;>first|rfl|(rename_i p;simp[Am.scalar]at p)
def iI{a_:TC}{d:Tg}{o:Oper}{e:DM}(h:ar C a_ d o=some e):∀c,o.op≠.defer c:=by
 intro c b;unfold ar at h;rw[b]at h;cases h
structure Kept(g9:St)(mu:jn)(i5:St)(mu':jn):Prop where
 len:g9.heap.length<=i5.heap.length
 same:∀k,k<g9.heap.length->mu' k=mu k
def St.QP(g9:St)(d:Tq)(v:TR):(g9.put d v).heap=g9.heap:=by cases d<;>rfl
theorem Kept.refl{g9:St}{mu:jn}:Kept g9 mu g9 mu:=⟨x5 _,λ_ _=>rfl⟩
def Kept.put{g9:St}{mu:jn}{l:List (Option (Tn))}{d:Tq}{v:TR}:Kept g9 mu (({ g9 with loc:=l }:St).put d v) mu:=⟨by rw[St.QP];exact x5 _,λ_ _=>rfl⟩
def Kept.heap{g9:St}{mu b:jn}{w w':TS}{H:Tu}{d:Tq}{v:TR}(h:Ee g9.heap mu w H b w'):Kept g9 mu (({ g9 with heap:=H }:St).put d v) b:=⟨by rw[St.QP];exact h.len,h.same⟩
def we{B:Below}(X:BOk C B){a_:TC}{ops:To}{i:Nat}{S:St}(h:FI C base m7 m9 j9 la mu g9 a w)(G:ao C B a_ ops i g9 S)(b:Frame)(rest:TC)(k:TB)(cs:List Frame) :
  ∃a' w' T u,FI C base m7 m9 j9 T u S a' w'/\Kept g9 mu S u/\
   Steps C.P (lone (b.atR a (.inRegion ops (i :: rest) :: k)) cs w) (lone (b.atR a' (.inRegion ops rest :: k)) cs w'):=by
 unfold ao at G;split at G
 next y=>
  subst G;refine⟨a,w,la,mu,h,.refl,.one ?_⟩;have:=stepR_op_skip (P:=C.P) (b:=b) (a:=a) (k:=k) (cs:=cs) (w:=w) (ops:=ops) (i:=i) (rest:=rest) (by simp[y]);simpa[y,Act.put]using this
 next o y=>
  split at G
  .exact G.elim
  next R=>
   subst G;have g:=mN (a:=a) h.sr.DX R;refine⟨a.put o.dst undef,w,la,mu,h.put o.dst .undef,.put,.one ?_⟩;have:=stepR_op_skip (P:=C.P) (b:=b) (a:=a) (k:=k) (cs:=cs) (w:=w) (ops:=ops) (i:=i) (rest:=rest) (by simp[y,g]);simpa[y]using this
  next R=>
   have g:=mN (a:=a) h.sr.DX R;rcases G with G|⟨v,Z,rfl⟩
   case inr=>
    obtain⟨v',x,n⟩:=Ns h.sr Z;refine⟨_,w,la,mu,h.put o.dst n,.put,.one (dy y g (λc M=>?_) x)⟩;have E:=Z.1;rw[M]at E;cases E
   obtain⟨e,Y,I⟩:=G;have t:=iI Y;have z:=yL h.sr h.big Y;cases e with
   |val v=>
    obtain⟨p,d,rfl⟩:=I;cases d;obtain⟨v',x,n⟩:=z;exact⟨_,w,la,mu,h.put o.dst n,.put,.one (dy y g t x)⟩
   |Fv s K=>
    obtain⟨p,d,rfl⟩:=I;simp only[aW]at d;split at d
    next m=>
     cases d;obtain⟨N,W,x,n,F⟩:=z;have J:=(h.Fv (e:=W) m n F).put o.dst (v:=.pointer (some ⟨s,0,some 0⟩)) (v':=.pointer (some ⟨w.heap.size,0,none⟩)) (.En (by simp));exact⟨_,_,_,_,J,.put,.one (dy y g t x)⟩
    .cases d
   |G4 s f=>
    obtain⟨p,d,rfl⟩:=I;simp only[aW]at d;split at d
    next K m=>
     cases j:f K with
     |none=>simp_all
     |some v=>
      rw[j]at d;cases d;obtain⟨v',x,n⟩:=z K v m j;exact⟨_,w,la,mu,h.put o.dst n,.put,.one (dy y g t x)⟩
    .cases d
   |Fw s f=>
    obtain⟨p,d,rfl⟩:=I;simp only[aW]at d;split at d
    next K m=>
     cases j:f K with
     |none=>simp_all
     |some U=>
      rw[j]at d;cases d;obtain⟨bl,c,ag,W,x,n,F,E,D⟩:=z K U m j;have J:=(h.Fw m x n E D).put o.dst (v:=undef) (v':=undef) .undef;exact⟨_,_,_,_,J,.put,.one (rT y g t F)⟩
    .cases d
   |ET f=>
    obtain⟨p,d,rfl⟩:=I;simp only[aW]at d;cases j:f g9.heap with
    |none=>simp_all
    |some v=>
     rw[j]at d;cases d;obtain⟨v',x,n⟩:=z v j;exact⟨_,w,la,mu,h.put o.dst n,.put,.one (dy y g t x)⟩
   |F2 f=>
    obtain⟨p,d,rfl⟩:=I;simp only[aW]at d;cases j:f g9.heap with
    |none=>simp_all
    |some q=>
     rw[j]at d;cases d;obtain⟨nx,v',w',u,x,n,F,E,D,_⟩:=z q.1 q.2 j;have J:=(h.heap E D).put o.dst F.up;rcases n with rfl|⟨rfl,rfl⟩
     .exact⟨_,w',la,u,J,.heap D,.one (dy y g t x)⟩
     .exact⟨_,w',la,u,J,.heap D,.one (rT y g t x)⟩
   |call f L=>
    obtain⟨r,H,M,rfl⟩:=I;obtain⟨A,x,n⟩:=z;obtain⟨v,u,w',F,E,D,O,Q⟩:=X.call _ _ _ _ _ M _ base mu w A h.big x h.sr.wr (b.atR a (.inRegion ops (i :: rest) :: k) :: cs);rw[O]at n;refine⟨_,w',la,u,(h.heap E D).put o.dst F.up,.heap D,?_⟩;obtain⟨fr,s1,s2,s3⟩:=Q;refine .head (BE y g t n) (s1.trans (.one ?_));rw[←uY y v];exact step_leave_returned s3
   |yield l L=>
    obtain⟨r,H,M,rfl⟩:=I;obtain⟨p,A,d,x,n⟩:=z;obtain⟨v,u,w',fn,ad,assign,V,F,E,D,O,Q⟩:=X.yield _ _ _ _ _ M _ base mu w A p h.big d x h.sr.wr (b.atR a (.inRegion ops (i :: rest) :: k)) cs;rw[O]at n;refine⟨_,w',la,u,(h.heap E D).put o.dst F.up,.heap D,?_⟩;refine .head (Nq y g t n) ?_;rw[←uY y v];exact Q
def Ah{B:Below}(f:BOk C B){a_:TC}{ops:To}{i:Nat}{e:St}(h:FI C base m7 m9 j9 la mu g9 a w)(g:ao C B a_ ops i g9 e)(b:Frame)(rest:TC)(k:TB)(cs:List Frame) :
  ∃a' w' c d,FI C base m7 m9 j9 c d e a' w'/\
   Steps C.P (lone (b.atR a (.inRegion ops (i :: rest) :: k)) cs w) (lone (b.atR a' (.inRegion ops rest :: k)) cs w'):=
 let ⟨a',w',c,d,h1,_,h2⟩:=we f h g b rest k cs
 ⟨a',w',c,d,h1,h2⟩
def FI.Le{b:St}(h:FI C base m7 m9 j9 la mu g9 a w)(n:gi g9 b):FI C base m7 m9 j9 la mu b a w:=by
 obtain⟨d,e,f,g⟩:=n;obtain⟨l,s,heap⟩:=b;simp only at d e f g;subst d e;refine⟨⟨⟨by rw[f];exact h.sr.DX.1,λi y c o m=>?_⟩,h.sr.F4,h.sr.loc,h.sr.Gv,h.sr.wr⟩,h.DY,h.fresh,h.marks,h.low⟩;have j:i<g9.tmps.length:=by
  grind
 have k:=h.sr.DX.2 i g9.tmps[i] c (by simp[j]) m;rcases g i g9.tmps[i] y (by simp[j]) o with rfl|⟨p,q,r⟩
 .exact k
 .rw[zU p k,r];exact vQ q
def Ag{B:Below}(g:BOk C B){a_:TC}{ops:To}(b:Frame)(k:TB)(cs:List Frame):∀(l:TC) (g9 c:St) (a:Act) (w:TS) (la:o_) (mu:jn),FI C base m7 m9 j9 la mu g9 a w->fM C B a_ ops l g9 c->
  ∃a' w' e f,FI C base m7 m9 j9 e f c a' w'/\
   Steps C.P (lone (b.atR a (.inRegion ops l :: k)) cs w) (lone (b.atR a' k) cs w')
 | [],g9,c,a,w,la,mu,h,d=>by
  cases d;exact⟨a,w,la,mu,h,.one stepR_region_end⟩
 |i :: l,g9,c,a,w,la,mu,h,d=>by
  obtain⟨z,i9,h0,h1,p⟩:=d;obtain⟨q,r,u,t,j,m⟩:=Ah g (h.Le h0) h1 b l k cs;obtain⟨x,s,y,v,n,o⟩:=Ag g b k cs l i9 c q r u t j p;exact⟨x,s,y,v,n,m.trans o⟩
def Lt{B:Below}(g:BOk C B){a_:TC}{ops:To}(b:Frame)(k:TB)(cs:List Frame):∀(l:TC) (g9 c:St) (a:Act) (w:TS) (la:o_) (mu:jn),FI C base m7 m9 j9 la mu g9 a w->bp C B a_ ops l g9 c->
  ∃a' w' e f,FI C base m7 m9 j9 e f c a' w'/\
   Steps C.P (lone (b.atR a (.inRegion ops l :: k)) cs w) (lone (b.atR a' k) cs w')
 | [],g9,c,a,w,la,mu,h,d=>by
  cases d;exact⟨a,w,la,mu,h,.one stepR_region_end⟩
 |i :: l,g9,c,a,w,la,mu,h,d=>by
  obtain⟨i9,h1,p⟩:=d;obtain⟨q,r,u,t,j,m⟩:=Ah g h h1 b l k cs;obtain⟨x,s,y,v,n,o⟩:=Lt g b k cs l i9 c q r u t j p;exact⟨x,s,y,v,n,m.trans o⟩
def Dm.at_{mk:Nat->TR}(h:Dm mk){la:o_}{mu d:jn}{L k:Nat}{v:TR}(f:VR la mu (mk L) v)(g:∀p,mu L=some p->d k=some p):VR la d (mk k) v:=by
 cases h with
 |ptr=>
  cases f with
  |scalar h=>simp[Am.scalar]at h
  |DG h=>exact .DG (g _ h)
 |slice e l c=>
  generalize j:le e=s at f ⊢;cases f with
  |scalar h=>simp[Am.scalar]at h
  |x9 h m i b=>exact .x9 (g _ h) m i b
  |wb b=>exact .wb b
  |CA i b=>simp[le]at j
  |y_ b=>simp[le]at j
 |map=>
  cases f with
  |scalar h=>simp[Am.scalar]at h
  |map h=>exact .map (g _ h)
def dp(mu:jn)(L k:Nat):jn:=λj=>if j=k then mu L else if j=L then none else mu j
def jq{b:Tu}{o x:ra}{j k:Nat}(mu:jn)(h:(b.set k o)[j]?=some x):j<b.length/\(b++[o])[if j=k then b.length else j]?=some x/\dp mu b.length k j=mu (if j=k then b.length else j):=by
 have c:j<b.length:=by
  grind
 refine⟨c,?_,?_⟩
 .grind
 .unfold dp
  grind
def WR.pad(h:WR C base mu g9.heap w)(n:Nat):WR C base mu (g9.pad n).heap w/\Ee g9.heap mu w (g9.pad n).heap mu w:=by
 have e:∀ {j:Nat} {x:ra},(g9.pad n).heap[j]?=some x->x.alive=true->g9.heap[j]?=some x:=by
  intro j x c d;simp only[St.pad,n3]at c;split at c
  .exact c
  .rw[Yu]at c;split at c
   .cases c;cases d
   .cases c
 refine⟨⟨λid o l d=>h.obj id o (e l d) d,λi j t u v y f c g k=>h.inj i j t u v y (e f (bO g)) (e c k) g k,λi o p f l=>h.own i o p (e f (bO l)) l,
  λi o p f d=>h.ro i o p (e f d) d,λid hY=>h.Im id (by simp[St.pad]at hY;omega),h.D2⟩,⟨by simp[St.pad],λ_ _=>rfl,x5 _,λ_ _ _=>rfl,?_,rfl,rfl,rfl,x5 _⟩⟩
 rintro b ⟨id,o,p,q,m,r,s⟩;exact .inr ⟨id,o,p,e q (bO m),m,r,s⟩
def FI.pad(h:FI C base m7 m9 j9 la mu g9 a w)(n:Nat):FI C base m7 m9 j9 la mu (g9.pad n) a w:=h.heap (h.sr.wr.pad n).1 (h.sr.wr.pad n).2
def FI.slot(h:FI C base m7 m9 j9 la mu g9 a w){f:Tu}{o:ra}{d:jn}{w':TS}{k:Nat}(G:WR C base d (f++[o]) w')(z:Ee g9.heap mu w (f++[o]) d w')(v:kO mu d (f++[o]) w')
  (hl:f.length=g9.heap.length) (Z:f[k]?=some .dead) (hn:mu k=none) (ad:m7.length<=k):FI C base m7 m9 j9 la (dp d f.length k) { g9 with heap:=f.set k o } a w':=by
 have ag:k<f.length:=(x0.1 Z).1;have q:=h.DY.trans z;have F:∀i p,mu i=some p->dp d f.length k i=some p:=by
  intro i p y;have u:i<g9.heap.length:=by
   rcases Gk i g9.heap.length with l|l
   .exact l
   .rw[h.sr.wr.Im i l]at y;cases y
  unfold dp;rw[qs (λe=>by simp_all),qs (by omega),z.same i u];exact y
 have n:∀b,Ij (dp d f.length k) (f.set k o) b->Ij d (f++[o]) b:=by
  rintro b ⟨id,x,p,l,t,m,A⟩;obtain⟨_,P,Q⟩:=jq d l;exact⟨_,x,p,P,t,by rw[←Q];exact m,A⟩
 have V:WR C base (dp d f.length k) (f.set k o) w':=by
  refine⟨?_,?_,?_,?_,?_,?_⟩
  .intro id x hY H;obtain⟨_,P,Q⟩:=jq d hY;obtain⟨p,p1,p2⟩:=v _ x P H;exact⟨p,by rw[Q];exact p1,p2.mono F⟩
  .intro i j oi oj pi pj u Y L M X B D;obtain⟨i1,E,i3⟩:=jq d u;obtain⟨j1,j2,j3⟩:=jq d Y;rw[i3]at B;rw[j3]at D;refine G.inj _ _ oi oj pi pj E j2 L M ?_ B D
   grind
  .intro i x p u O y;obtain⟨_,E,i3⟩:=jq d u;exact G.own _ x p E O (by rw[←i3];exact y)
  .intro i x p u H O y;obtain⟨_,E,i3⟩:=jq d u;exact G.ro _ x p E H O (by rw[←i3];exact y)
  .intro id hY;simp at hY;unfold dp;rw[qs (by omega)];split
   .rfl
   .exact G.Im id (by simp;omega)
  .intro g R W;obtain⟨l,t,c,e,T,m,A⟩:=h.sr.wr.D2 g R W;have K:Ek g<w.heap.size:=(Is.1 m).1;exact⟨l,t,c,e,T,by rw[z.i_ _ K (λv=>by have:=(Ij.lt h.sr.wr v).2;omega)];exact m,A.mono F⟩
 have J:=h.DY.len;refine⟨⟨h.sr.DX.mono (λ_ _ h=>h) F,h.sr.F4,?_,h.sr.Gv,V⟩,⟨by simp;omega,?_,q.size,q.i_,λb I=>q.D9 b (n b I),q.os,q.tape,q.output,q.dr⟩,h.fresh,?_,h.low⟩
 .intro s R hs;obtain⟨b,c,e,l,t,m,A,U,S⟩:=h.sr.loc s R hs;have I:b<w.heap.size:=(Is.1 m).1;exact⟨b,c,e,l,t,by rw[z.i_ b I S];exact m,A,U.mono (λ_ _ h=>h) F,λv=>(z.D9 b (n b v)).elim (λhh=>by omega) S⟩
 .intro id hY;unfold dp;rw[qs (by omega),qs (by omega)];exact q.same id hY
 .obtain⟨rs,l,t,m⟩:=h.marks.DY z;exact⟨rs,l,t,λr N=>⟨(m r N).1,(m r N).2.1,λv=>(m r N).2.2 (n r v)⟩⟩
def qe{B:Below}(D:BOk C B){a_:TC}{ops:To}{t:Nat->Ts}(d:∀i j k,t i=some k->t j=some k->i=j)(h0:∀i k,t i=some k->m7.length<=k)(b:Frame)(k:TB)(cs:List Frame) :
  ∀(l:TC) (g9 n:St) (a:Act) (w:TS) (la:o_) (mu:jn),FI C base m7 m9 j9 la mu g9 a w->(∀i∈l,∀k,t i=some k->k<g9.heap.length/\mu k=none)->jt C B a_ ops t l g9 n->
  ∃a' w' R m,FI C base m7 m9 j9 R m n a' w'/\
   Steps C.P (lone (b.atR a (.inRegion ops l :: k)) cs w) (lone (b.atR a' k) cs w')
 | [],g9,n,a,w,la,mu,h,_,L=>by
  cases L;exact⟨a,w,la,mu,h,.one stepR_region_end⟩
 |i :: l,g9,n,a,w,la,mu,h,N,L=>by
  obtain⟨ad,i9,h1,Y⟩:=L;unfold dY at h1;split at h1
  .obtain⟨o8,o9,u0,t9,g1,X,g2⟩:=we D h h1 b l k cs;obtain⟨V,T,W,U,z,A⟩:=qe D d h0 b k cs l i9 n o8 o9 u0 t9 g1 (λj E k v=>by
    obtain⟨y,S⟩:=N j (E2 _ E) k v;exact⟨ay y X.len,by rw[X.same k y];exact S⟩) Y
   exact⟨V,T,W,U,z,g2.trans A⟩
  next r v=>
   obtain⟨o,f,Hx,x,mk,ho,hw,Z,hf,hl,hd,q,rfl⟩:=h1;have O:=mN (a:=a) h.sr.DX hw;have H:=iI Z;have K:=yL h.sr h.big Z;obtain⟨nx,v',w',m,y,S,s,q4,q5,q6⟩:=K _ _ hf;obtain⟨u1,u2⟩:=N i (by simp) r v;have hS:=h.slot q4 q5 q6 hl hd u2 (h0 i r v);have G:VR Cu (dp m Hx.length r) (mk r) v':=q.at_ s (λp hp=>by
    unfold dp
    simp_all)
   have hF:=hS.put o.dst G.up;have J:nx = .value v':=by
    rcases S with h|⟨_,rfl⟩
    .exact h
    .exfalso;cases q with
     |ptr=>cases s
     |slice e l c=>
      generalize g:(Value.slice (some ⟨g9.heap.length,0,le e⟩) l c)=u at s;cases s<;>first|cases g|(rename_i M;subst g;simp[Am.scalar]at M)
     |map=>cases s
   subst J;obtain⟨V,T,W,U,z,A⟩:=qe D d h0 b k cs l _ n _ _ _ _ hF (λj E Q F=>by
    obtain⟨p1,p2⟩:=N j (E2 _ E) Q F;have I:Q≠r:=λe=>by
     grind
    refine⟨?_,?_⟩
    .cases o.dst<;>simp[St.put,hl]<;>exact p1
    .unfold dp;rw[qs I,qs (by omega),q5.same Q p1];exact p2) Y
   exact⟨V,T,W,U,z,(Steps.one (dy ho O H y)).trans A⟩
def WA{B:Below}(l:BOk C B){a_:TC}{ops:To}{m:St}(h:FI C base m7 m9 j9 la mu g9 a w)(f:eo C B a_ ops g9 m)(t:Nat)(b:Frame)(k:TB)(cs:List Frame) :
  ∃a' w' g j,FI C base m7 m9 j9 g j m a' w'/\
   Steps C.P (lone (b.atR a (.inRegion ops (Region.linearise .any ops t) :: k)) cs w) (lone (b.atR a' k) cs w'):=by
 rcases f with f|⟨q,n,_,e,o,p⟩
 .exact Lt l b k cs _ _ _ _ _ _ _ h (f t)
 .have c:=h.DY.len;exact qe l o (λi k d=>NG c (e i k d).1) b k cs _ _ _ _ _ _ _ (h.pad n) (λi _ k d=>⟨by simpa[St.pad]using(e i k d).2,h.sr.wr.Im k (e i k d).1⟩) (p t)
end
end
section
variable [Cf]
section
variable [D1] {C:ke} {base:Nat} {m7:Tu} {m9:jn} {j9:TS} {la:o_} {mu:jn} {g9:St} {a:Act} {w:TS}
def fB(b:TC):∀(l:List (Option (Tn))) (i j:Nat),(iE b l i)[j]?=if b.contains (i+j)then(l[j]?).map (λ_=>none)else l[j]?
 | [],i,j=>by simp[iE]
 |x :: l,i,j=>by
  cases j with
  |zero=>simp only[iE,hB,u2];split<;>rfl
  |succ j=>
   simp only[iE,q6];rw[fB b l (i+1) j,show i+1+j=i+(j+1)by omega]
def Mf{b:TC}{v c:TR}(h:VR la mu v c):VR (λs=>if b.contains s then none else la s) mu (jG b v) c:=by
 unfold jG;split
 next f=>
  split
  .exact .vc c
  next d=>
   cases h with
   |scalar h=>simp[Am.scalar]at h
   |En h=>
    simp at d;exact .En (by simp[d,h])
   |DG h=>exact .DG h
   |DQ=>exact .DQ
 .split
  next e=>exact(ft e h).up
  .exact .vc c
def FI.clear(h:FI C base m7 m9 j9 la mu g9 a w)(d:TC):∃m,FI C base m7 m9 j9 m mu (g9.clear d) a w:=by
 unfold St.clear;split
 .exact⟨la,h⟩
 .refine⟨λs=>if d.contains s then none else la s,⟨?_,?_,?_,?_,h.sr.wr⟩,h.DY,?_,h.marks,h.low⟩
  .refine⟨by simpa using h.sr.DX.1,λi x y k q=>?_⟩;rw[EL]at k;cases l:g9.tmps[i]? with
   |none=>rw[l]at k;cases k
   |some v=>
    rw[l]at k;cases k;exact Mf (h.sr.DX.2 i v y l q)
  .intro s b f;split at f
   .cases f
   next p=>
    obtain⟨n,o⟩:=h.sr.F4 s b f;exact⟨n,by rw[fB,EM,qs p];exact o⟩
  .intro s n g;rw[fB,EM]at g;split at g
   .simp_all
   next p=>
    obtain⟨b,c,e,o,t⟩:=h.sr.loc s n g
    simp_all
  .intro s r b g j;split at g
   .cases g
   .split at j
    .cases j
    .exact h.sr.Gv s r b g j
  .intro s b f;split at f
   .cases f
   .exact h.fresh s b f
def FI.drew(h:FI C base m7 m9 j9 la mu g9 a w)(n:Nat)(b:w.drawn<=n):FI C base m7 m9 j9 la mu g9 a { w with drawn:=n }:=
 ⟨⟨h.sr.DX,h.sr.F4,h.sr.loc,h.sr.Gv,h.sr.wr.drew n⟩,h.DY.drew n b,h.fresh,h.marks,h.low⟩
def yh{P:TI}{b:Frame}{a:Act}{k:TB}{cs:List Frame}{w:TS}{c:Code} :
  step P (lone (b.atR a (.code (.scope c) :: k)) cs w) = .next (lone (b.atR a (.code c :: .inScope c :: k)) cs w):=
 step_lone_go (by simp[stepG,stepG.exec,Frame.atR])
def uf{P:TI}{b:Frame}{a:Act}{k:TB}{cs:List Frame}{w:TS}{c:Code} :
  step P (lone (b.atR a (.inScope c :: k)) cs w) = .next (lone (b.atR a k) cs w):=
 step_lone_go (by simp[stepG,stepG.exec,Frame.atR])
def Arr(P:TI)(b:Frame)(k:TB)(cs:List Frame)(m:Machine)(a':Act)(w':TS):Exit->Prop
 | .normal=>Steps P m (lone (b.atR a' k) cs w')
 | .ret=>∃c,Steps P m (lone (b.atR a' (.code .ret :: c)) cs w')
 | .exit id=>∃c,Steps P m (lone (b.atR a' (.code (.exit id) :: c)) cs w')/\exitTo id c=exitTo id k
 |_=>False
def Arr.of_steps{P:TI}{b:Frame}{k:TB}{cs:List Frame}{m d:Machine}{a':Act}{w':TS}{e:Exit}(h:Steps P m d)(h':Arr P b k cs d a' w' e):Arr P b k cs m a' w' e:=by
 cases e with
 |normal=>exact h.trans h'
 |ret=>obtain⟨t,h'⟩:=h';exact⟨t,h.trans h'⟩
 |exit id=>obtain⟨t,h',c⟩:=h';exact⟨t,h.trans h',c⟩
 |_=>exact h'.elim
def Arr.pass{P:TI}{b:Frame}{x:Item}{k:TB}{cs:List Frame}{m:Machine}{a':Act}{w':TS}{e:Exit}(g:∀id,exitTo id (x :: k)=exitTo id k)(f:e≠.normal)(h:Arr P b (x :: k) cs m a' w' e):Arr P b k cs m a' w' e:=by
 cases e with
 |normal=>exact absurd rfl f
 |ret=>exact h
 |exit id=>obtain⟨t,d,c⟩:=h;exact⟨t,d,by rw[c,g]⟩
 |_=>exact h.elim
end
def qF(C:ke)(S:E9):Prop:=
 ∀(_:D1) (c:Nat) (i:Tu) (j:jn) (h:TS) (l:Ts) (m:TQ) (a_:TC) (code:Code) (g9 g:St) (e:Exit) (la:o_) (mu:jn) (a:Act) (w:TS),(a_≠[]->l=none)->
  S.ex a_ code g9 e g->FI C c i j h la mu g9 a w->∀(b:Frame) k cs,b.roundOf=l->b.fn=m->
  ∃a' w' d f,FI C c i j h d f g a' w'/\Arr C.P b k cs (lone (b.atR a (.code code :: k)) cs w) a' w' e
section
variable [D1] {C:ke} {base:Nat} {m7:Tu} {m9:jn} {j9:TS} {la:o_} {mu:jn} {g9:St} {a:Act} {w:TS}
def oe(e:WR C base mu g9.heap w){id:Nat}{r:Fg}(h:eH g9.heap id=some r):∃p,mu id=some p/\g9.heap[id]?=some (.loop r)/\
  ∃L:Loop,w.heap[p.b]?=some (.loop L)/\L.state=r.state/\L.pending=r.pending/\L.params.toList=r.params/\L.assign=r.assign/\L.body=r.body/\t0 Cu mu r.tmps L.tmps.toList:=by
 unfold eH at h;split at h
 next f hY=>
  cases h;obtain⟨p,c,d⟩:=e.obj id _ hY rfl;exact⟨p,c,hY,d⟩
 .cases h
def WR.Hf(i:WR C base mu g9.heap w){id:Nat}{r r':Fg}{p:Pl}{L':Loop}(hY:g9.heap[id]?=some (.loop r))(h:mu id=some p)
  (h1:L'.state=r'.state) (c:L'.pending=r'.pending) (d:L'.params.toList=r'.params) (e:L'.assign=r'.assign) (f:L'.body=r'.body) (g:t0 Cu mu r'.tmps L'.tmps.toList) :
  WR C base mu (g9.heap.set id (.loop r')) { w with heap:=w.heap.setIfInBounds p.b (.loop L') }/\Ee g9.heap mu w (g9.heap.set id (.loop r')) mu { w with heap:=w.heap.setIfInBounds p.b (.loop L') }:=
 i.set (w':={ w with heap:=w.heap.setIfInBounds p.b (.loop L') }) (x:=.loop L') hY rfl h rfl rfl rfl rfl (.loop r') (λ_=>rfl) ⟨L',rfl,h1,c,d,e,f,g⟩
def Nl{b tm:Tn}{cs:Tn}(c:yu b tm)(h:t0 la mu b cs):t0 Cu mu tm cs:=by
 refine⟨by rw[c.1,h.1],λi x y f g=>?_⟩;rcases c.2 i x f with rfl|⟨d,e⟩
 .exact .vc y
 .exact ft e (h.2 i x y d g)
def WR.other(e:WR C base mu g9.heap w)(o:Obj):WR C base mu g9.heap (w.alloc o)/\Ee g9.heap mu w g9.heap mu (w.alloc o):=by
 have d:∀b,b<w.heap.size->(w.alloc o).heap[b]?=w.heap[b]?:=λb f=>by
  show(w.heap.push _)[b]?=_
  grind
 refine⟨⟨?_,e.inj,e.own,e.ro,e.Im,?_⟩,⟨x5 _,λ_ _=>rfl,by simp,λb f _=>d b f,λb f=>.inr f,rfl,rfl,rfl,x5 _⟩⟩
 .intro id x hY j;obtain⟨p,i,h⟩:=e.obj id x hY j;exact⟨p,i,by rw[d _ (jX j h)];exact h⟩
 .intro g l k;obtain⟨i,h,c,m,n,q,r⟩:=e.D2 g l k
  grind
def gX{l:Nat}{L:Loop}(h:w.heap[l]?=some (.loop L)):(Instr.getLoop l).run C.P w = .ok L w:=by
 have:(getObj l).run C.P w = .ok (.loop L) w:=by simp[getObj,Sem.run,h]
 simp[Instr.getLoop,this]
def ko{l:Nat}{L:Loop}{o:Obj}(h:w.heap[l]?=some (.loop L)):(setObj l o).run C.P w = .ok () { w with heap:=w.heap.setIfInBounds l o }:=by
 simp[setObj,Sem.run,h]
def xV{l:Nat}{L:Loop}(h:w.heap[l]?=some (.loop L))(b:L.state≠.busy) :
  (Instr.endLoop l).run C.P w = .ok L.pending { w with heap:=w.heap.setIfInBounds l (.loop { L with state:=.exhausted }) }:=by
 simp[Instr.endLoop,Sem.run_bind,gX h,ko h,Result.andThen]
 simp_all
def qC{l:Nat}{L:Loop}(h:w.heap[l]?=some (.loop L))(b:L.state = .ready) :
  (Instr.beginRound l).run C.P w = .ok () { w with heap:=w.heap.setIfInBounds l (.loop { L with state:=.busy }) }:=by
 simp[Instr.beginRound,Sem.run_bind,gX h,b,ko h,Result.andThen]
def vV{l:Nat}{L:Loop}(h:w.heap[l]?=some (.loop L))(j:Tm) :
  (Instr.endRound l j).run C.P w = .ok (.bool j.isNone) { w with heap:=w.heap.setIfInBounds l (.loop { L with state:=if j.isNone then .ready else .done,pending:=j }) }:=by
 simp[Instr.endRound,Sem.run_bind,gX h,ko h,Result.andThen]
end
section
variable {C:ke}
def Mh(hm:C.P.follows .mixedOrders=true){S:E9}(hB:BOk C S.toBelow)(hS:qF C S):qF C { S with ex:=pe C S }:=by
 intro _ d Y Z X ro fn D a0 g9 i5 e Q I a w B j h b k cs hb V;cases a0 with
 |skip=>
  obtain⟨rfl,rfl⟩:=j;exact⟨a,w,Q,I,h,.one stepR_skip⟩
 |label l=>
  obtain⟨rfl,rfl⟩:=j;exact⟨a,w,Q,I,h,.one stepR_label⟩
 |ret=>
  obtain⟨rfl,rfl⟩:=j;exact⟨a,w,Q,I,h,⟨k,.refl _ _⟩⟩
 |exit id=>
  obtain⟨rfl,rfl⟩:=j;exact⟨a,w,Q,I,h,⟨k,.refl _ _,rfl⟩⟩
 |goto l=>exact j.elim
 |refuse s=>exact j.elim
 |seq x y=>
  obtain⟨r9,i9,N,h2⟩:=j;obtain⟨q,z,K,J,E,F⟩:=hS _ d Y Z X ro fn D x g9 i9 r9 Q I a w B N h b (.code y :: k) cs hb V;rcases h2 with⟨rfl,h2⟩|⟨A,rfl,rfl⟩
  .obtain⟨w0,R,w6,v9,g3,g4⟩:=hS _ d Y Z X ro fn D y i9 i5 e K J q z B h2 E b k cs hb V;exact⟨w0,R,w6,v9,g3,.of_steps (.head stepR_seq F) g4⟩
  .exact⟨q,z,K,J,E,.of_steps (.one stepR_seq) (.pass (λid=>rfl) A F)⟩
 |cond c x y=>
  obtain⟨t,ht,N⟩:=j;obtain⟨q,z,K,J,E,F⟩:=hS _ d Y Z X ro fn D _ g9 i5 e Q I a w B N h b k cs hb V;have hc:=aM h.sr c;rw[ht]at hc;exact⟨q,z,K,J,E,.of_steps (.one (stepR_cond hc.bool)) F⟩
 |block id x=>
  obtain⟨r9,N,rfl⟩:=j;obtain⟨q,z,K,J,E,F⟩:=hS _ d Y Z X ro fn D x g9 i5 r9 Q I a w B N h b (.inBlock id :: k) cs hb V;refine⟨q,z,K,J,E,?_⟩;have g:=F;refine .of_steps (.one stepR_block) ?_;cases r9 with
  |normal=>exact Steps.trans g (.one stepR_inBlock)
  |ret=>exact g
  |exit i=>
   obtain⟨t,s1,M⟩:=g;show Arr C.P b k cs _ q z (if i=id then .normal else .exit i);by_cases hi:i=id
   .rw[n_ hi];subst hi;have:exitTo i t=some k:=by rw[M];simp[exitTo]
    exact s1.trans (.one (stepR_exit this))
   .rw[qs hi];refine⟨t,s1,?_⟩;rw[M];have A:(id==i)=false:=by grind
    simp[exitTo,A]
  |_=>exact g.elim
 |loop x=>
  obtain⟨r9,i9,N,h2⟩:=j;obtain⟨BR,h0⟩:=h.clear (aQ D x);obtain⟨q,z,K,J,E,F⟩:=hS _ d Y Z X ro fn D x _ i9 r9 BR I a w B N h0 b (.inLoop x :: k) cs hb V;rcases h2 with⟨rfl,h2⟩|⟨A,rfl,rfl⟩
  .obtain⟨w0,R,w6,v9,g3,g4⟩:=hS _ d Y Z X ro fn D (.loop x) i9 i5 e K J q z B h2 E b k cs hb V;refine⟨w0,R,w6,v9,g3,?_⟩;have s1:Steps C.P (lone (b.atR a (.code (.loop x) :: k)) cs w) (lone (b.atR q (.inLoop x :: k)) cs z):=.head stepR_loop F;have M:=g4;have ay:∀T,Steps C.P (lone (b.atR q (.code (.loop x) :: k)) cs z) T->(∃n,runN C.P (n+1) (lone (b.atR q (.code (.loop x) :: k)) cs z) = .next T)∨T=lone (b.atR q (.code (.loop x) :: k)) cs z:=by
    rintro T ⟨n,W⟩;cases n with
    |zero=>simp[runN]at W;exact .inr W.symm
    |succ n=>exact .inl ⟨n,W⟩
   have ax:∀T,Steps C.P (lone (b.atR q (.code (.loop x) :: k)) cs z) T->T≠lone (b.atR q (.code (.loop x) :: k)) cs z->Steps C.P (lone (b.atR q (.inLoop x :: k)) cs z) T:=by
    intro T b1 A;rcases ay T b1 with⟨n,W⟩|rfl
    .refine⟨n+1,?_⟩;simp only[runN,stepR_loop,stepR_inLoop]at W ⊢;exact W
    .exact absurd rfl A
   have G:∀(a':Act) (t:TB) (w':TS),t≠.code (.loop x) :: k->lone (b.atR a' t) cs w'≠lone (b.atR q (.code (.loop x) :: k)) cs z:=by
    intro a' t w' A e;have e':=congrArg (λm:Machine=>(m.gs[0]?).map (λg=>g.frame.todo)) e;simp[lone,Frame.atR]at e';exact A e'
   refine .of_steps s1 ?_;cases e with
   |normal=>
    refine ax _ M (G _ _ _ λe=>?_);have:=congrArg List.length e;simp at this
   |ret=>
    obtain⟨t,M⟩:=M;exact⟨t,ax _ M (G _ _ _ λe=>by simp at e)⟩
   |exit id=>
    obtain⟨t,M,s3⟩:=M;exact⟨t,ax _ M (G _ _ _ λe=>by simp at e),s3⟩
   |_=>exact M.elim
  .exact⟨q,z,K,J,E,.of_steps (.one stepR_loop) (.pass (λid=>rfl) A F)⟩
 |scope x=>
  obtain⟨q,z,K,J,E,F⟩:=hS _ d Y Z X ro fn D x g9 i5 e Q I a w B j h b (.inScope x :: k) cs hb V;refine⟨q,z,K,J,E,.of_steps (.one yh) ?_⟩;have g:=F;by_cases W:e = .normal
  .subst W;exact Steps.trans g (.one uf)
  .exact .pass (λid=>rfl) W g
 |region id b7 a1=>
  obtain⟨rfl,N⟩:=j;cases a1 with
  |false=>
   obtain⟨q,z,K,J,E,F⟩:=Ag hB b k cs _ _ _ _ _ _ _ h N;exact⟨q,z,K,J,E,.head stepR_region F⟩
  |true=>
   have hd:FI C d Y Z X Q I g9 a { w with drawn:=w.drawn+1 }:=h.drew _ (Nat.le_succ _);obtain⟨uc,h0,N⟩:=N;obtain⟨q,z,K,J,E,F⟩:=WA hB (hd.Le h0) N (w.tape w.drawn (.order fn id)) b k cs;refine⟨q,z,K,J,E,.head stepR_region_draw ?_⟩;rw[hm,V];exact F
 |rangeFunc f params assign body=>
  obtain⟨a9,g,first,ag,x7,tm,r,H,u9,aE,b0,b2,av,hl,ap,o,rfl⟩:=j;obtain rfl:=B a9;have a6:=aM h.sr f;rw[b0]at a6;obtain⟨x',y',bP,r1,r2⟩:=a6.F1;have ad:first.toList.all aV=true/\ag.toList.all aV=true:=by simpa[l_]using b2
  have d1:t0 Cu I first.toList x'.toList:=⟨r1.1,λi u v hu hv=>fL (cL ad.1 hu) (r1.2 i u v hu hv)⟩
  have d2:t0 Cu I ag.toList y'.toList:=⟨r2.1,λi u v hu hv=>fL (cL ad.2 hu) (r2.2 i u v hu hv)⟩;obtain⟨bt,a2⟩:=h.sr.wr.other (.deferred (some []));have b5:(w.alloc (.deferred (some []))).heap[w.heap.size]?=some (.deferred (some [])):=by
   show(w.heap.push _)[_]?=_;simp
  have b3:¬Ij I g9.heap w.heap.size:=λho=>by have:=(Ij.lt h.sr.wr ho).1;omega
  have al:FI C d Y Z X Q I g9 { a with defers:=({ target:=.collected w.heap.size,args:=#[] }:Deferred) :: a.defers } (w.alloc (.deferred (some []))):=by
   have h':=h.heap bt a2;refine⟨h'.sr,h'.DY,h'.fresh,?_,h'.low⟩;obtain⟨rs,k1,k2,k3⟩:=h.marks;have a8:∀r∈rs,r<w.heap.size:=λr hr=>by
    grind
   refine⟨w.heap.size :: rs,by rw[k1];rfl,nD.2 ⟨λhm=>by have:=a8 _ hm;omega,k2⟩,λr hr=>?_⟩;rcases Dy.1 hr with rfl|hr
   .exact⟨h.DY.size,b5,b3⟩
   .obtain⟨k4,k5,k6⟩:=k3 r hr;exact⟨k4,by rw[a2.i_ r (a8 r hr) k6];exact k5,k6⟩
  have bC:d<=(w.alloc (.deferred (some []))).heap.size:=al.big
  let L:Loop:={ state:=.ready,pending:=none,fn,tmps:=a.tmps,params,assign,body,defers:=w.heap.size }
  let R:TS:=(w.alloc (.deferred (some []))).alloc (.loop L)
  let p:Pl:=⟨(w.alloc (.deferred (some []))).heap.size,0,0,0⟩
  obtain⟨a4,bk,_⟩:=al.sr.wr.new bC (w':=R) (x:=.loop L) rfl rfl rfl rfl (.loop { state:=.ready,pending:=none,fn:=x7,tmps:=tm,params:=params.toList,assign,body }) p rfl
   ⟨L,rfl,rfl,rfl,rfl,rfl,rfl,Nl aE h.sr.DX⟩ (λ_=>rfl)
  have a3:=al.heap a4 bk;have O:=lL h.sr.wr p;have an:t0 Cu (Hs I g9.heap.length p) (first.toList++[.func (.yield g9.heap.length) #[] #[]]++ag.toList) (x' ++ #[Value.func (.yield p.b) #[] #[]]++y').toList:=by
   simp only[Yw];exact((d1.mono (λ_ _ h=>h) O).append (.cons (.yield (bM _ _ _)) .nil)).append (d2.mono (λ_ _ h=>h) O)
  obtain⟨v,bd,w',q1,q2,q3,q4,q5⟩:=hB.call _ _ _ _ _ av _ d _ R _ a3.big an a4 (b.atR { a with defers:=[({ target:=.collected w.heap.size,args:=#[] }:Deferred)]++a.defers } (.inRangeFunc p.b :: k) :: cs);have bm:=a3.heap q2 q3;have b6:bd g9.heap.length=some p:=by rw[q3.same _ (by simp)];exact bM _ _ _
  obtain⟨p',b4,hY,L',bs,e1,e2,e3,e4,e5,e6⟩:=oe (g9:={ g9 with heap:=H }) q2 hl;obtain rfl:p'=p:=by simp_all
  obtain⟨bx,bl⟩:=WR.Hf (g9:={ g9 with heap:=H }) q2 hY b4 (r':={ u9 with state:=.exhausted }) (L':={ L' with state:=.exhausted }) rfl e2 e3 e4 e5 e6;have bn:=bm.heap bx bl;refine⟨_,_,Q,bd,bn,?_⟩;have U:(Instr.enterLoop b.fn a.tmps params assign body b.roundOf).run C.P w = .ok (p.b,[({ target:=.collected w.heap.size,args:=#[] }:Deferred)]) R:=by
   rw[hb,V];rfl
  have bb:(resolve a.eval (rangeCall f p.b) 0).run C.P R = .ok { target:=.fn (.func g) y',args:=x' ++ #[.func (.yield p.b) #[] #[]] } R:=by
   have Dq:Array.map a.eval #[Operand.const (Value.func (Fn.yield p.b) #[] #[])] = #[Value.func (Fn.yield p.b) #[] #[]]:=by simp[Act.eval]
   simp only[resolve,bP,Deferred.ofValue,Dq];rfl
  have a7:(invoke (.fn (.func g) y') (x' ++ #[.func (.yield p.b) #[] #[]])).run C.P R = .ok (.enter g (x' ++ #[.func (.yield p.b) #[] #[]]++y')) R:=q4;have s1:=stepR_rangeFunc (P:=C.P) (b:=b) (a:=a) (k:=k) (cs:=cs) U bb a7;obtain⟨fr,M,_,s3⟩:=q5;have a5:(Instr.endLoop p.b).run C.P w' = .ok u9.pending { w' with heap:=w'.heap.setIfInBounds p.b (.loop { L' with state:=.exhausted }) }:=by
   rw[←e2];exact xV bs (by rw[e1];exact ap)
  have s4:Steps C.P (lone (b.atR a (.code (.rangeFunc f params assign body) :: k)) cs w) (lone (b.atR { a with defers:=[({ target:=.collected w.heap.size,args:=#[] }:Deferred)]++a.defers } ((u9.pending.map Item.code).toList++k)) cs { w' with heap:=w'.heap.setIfInBounds p.b (.loop { L' with state:=.exhausted }) }):=by
   refine .head s1 (M.trans (.head ?_ (.one (stepR_endRangeFunc a5))));rw[←finish_atR_inRangeFunc p.b v];exact step_leave_returned s3
  unfold yP at o;split at o
  next hp=>cases o;rw[hp]at s4;exact s4
  next hp=>cases o;rw[hp]at s4;exact⟨k,s4⟩
  next hp=>cases o;rw[hp]at s4;exact⟨k,s4,rfl⟩
  .cases o
end
end
section
variable [Cf]
section
variable [D1] {C:ke} {base:Nat} {m7:Tu} {m9:jn} {j9:TS} {la:o_} {mu:jn} {g9:St} {a:Act} {w:TS}
def FI.shut{d:Deferred}{ds:List Deferred}(h:FI C base m7 m9 j9 la mu g9 a w)(F:a.defers=d :: ds) :
  ∃r,d.target = .collected r/\(Instr.takeDeferred r).run C.P w = .ok [] { w with heap:=w.heap.setIfInBounds r (.deferred none) }/\
   FI C base m7 m9 j9 la mu g9 { a with defers:=ds } { w with heap:=w.heap.setIfInBounds r (.deferred none) }:=by
 obtain⟨v,l,B,D⟩:=h.marks;rw[F]at l;cases v with
 |nil=>cases l
 |cons r v=>
  simp only[DD,Hq]at l;obtain⟨rfl,rfl⟩:=l;obtain⟨N,u,K⟩:=D r (by simp);have H:r<w.heap.size:=(Is.1 u).1;have j:∀b,b≠r->(w.heap.setIfInBounds r (.deferred none))[b]?=w.heap[b]?:=λb E=>e5 (De E);have A:=h.low;refine⟨r,rfl,?_,⟨⟨h.sr.DX,h.sr.F4,?_,h.sr.Gv,⟨?_,h.sr.wr.inj,h.sr.wr.own,h.sr.wr.ro,h.sr.wr.Im,?_⟩⟩,?_,h.fresh,?_,h.low⟩⟩
  .have m:(getObj r).run C.P w = .ok (.deferred (some [])) w:=by simp[getObj,Sem.run,u]
   have t:(setObj r (.deferred none)).run C.P w = .ok () { w with heap:=w.heap.setIfInBounds r (.deferred none) }:=by simp[setObj,Sem.run,u]
   simp[Instr.takeDeferred,Sem.run_bind,m,t,Result.andThen]
  .intro s x t;obtain⟨b,c,e,i,y,e3,e4⟩:=h.sr.loc s x t
   grind
  .intro id o hY z;obtain⟨p,i,y⟩:=h.sr.wr.obj id o hY z;refine⟨p,i,?_⟩;show EJ mu p (w.heap.setIfInBounds r (.deferred none))[p.b]? o;by_cases q:p.b=r
   .exfalso;by_cases f:o.owned=true
    .exact K ⟨id,o,p,hY,f,i,q⟩
    .have:=h.sr.wr.ro id o p hY z (by simpa using f) i;omega
   simp_all
  .intro g x m;obtain⟨i,y,c,L,M,e3,e4⟩:=h.sr.wr.D2 g x m
   grind
  .refine⟨h.DY.len,h.DY.same,by simpa using h.DY.size,λk G I=>?_,h.DY.D9,h.DY.os,h.DY.tape,h.DY.output,h.DY.dr⟩;rw[←h.DY.i_ k G I];exact j k (by omega)
  .have n:=nD.1 B;refine⟨v,rfl,n.2,λO J=>?_⟩
   grind
def wm:∀(ds:List Deferred) (a:Act) (w:TS),a.defers=ds->FI C base m7 m9 j9 la mu g9 a w->
  ∃w',FI C base m7 m9 j9 la mu g9 { a with defers:=[] } w'/\
   ∀(b:Frame) (c:TB) (cs:List Frame),Steps C.P (lone { b.atR a c with mode:=.returning } cs w) (lone { b.atR { a with defers:=[] } c with mode:=.returning } cs w')
 | [],a,w,e,h=>by
  obtain⟨f,defers⟩:=a;simp only at e;subst e;exact⟨w,h,λb c cs=>.refl _ _⟩
 |d :: ds,a,w,e,h=>by
  obtain⟨r,g,i,j⟩:=h.shut e;obtain⟨w',k,l⟩:=wm ds { a with defers:=ds } _ rfl j;refine⟨w',k,λb c cs=>.head ?_ (l b c cs)⟩;exact step_collected (fr:={ b.atR a c with mode:=.returning }) (by simp) (show a.defers=d :: ds from e) g i
def mF(b:Tl):ResultVar->Sem Value
 | .tmp t=>pure (b.getD t undef)
 | .cell p t=>do loadVar t (←asAddr (b.getD p undef))
def Bu(c:Func)(b:Tl):results c b=(do
  let vs ←c.results.mapM (mF b)
  pure (if h:vs.size=1 then vs[0]else .tuple vs)):=by
 have:(λx=>match x with
  |ResultVar.tmp t=>pure (b.getD t undef)
  |ResultVar.cell p t=>(do loadVar t (←asAddr (b.getD p undef)):Sem Value))=mF b:=by
  funext x;cases x<;>rfl
 rw[←this];rfl
def Bs(h:SR C base la mu g9 a.tmps w){x:ResultVar}{v:TR}(b:fQ C g9 x=some v) :
  ∃v',(mF a.tmps x).run C.P w = .ok v' w/\VR la mu v v':=by
 have f:∀t,VR la mu (g9.tmps.getD t undef) (a.tmps.getD t undef):=λt=>aM h (.tmp t);cases x with
 |tmp t=>
  simp only[fQ]at b;cases b;exact⟨_,rfl,f t⟩
 |cell p t=>
  simp only[fQ]at b;have j:=f p;split at b
  next u A=>
   rw[A]at j;split at b
   next d=>
    cases g:gc g9.heap u.block with
    |none=>simp_all
    |some B=>
     rw[g]at b;generalize r:a.tmps.getD p undef=y at j ⊢;cases j with
     |scalar q=>simp[Am.scalar]at q
     |En _=>simp at d
     |DQ=>simp at d
     |DG o=>
      obtain⟨c,e,D,k,l⟩:=vo h.wr g o;obtain⟨v',s,m⟩:=dX (C:=C) l b k;exact⟨v',by simp only[mF,r,asAddr];exact s,m.up⟩
   next d=>
    split at b
    next B i=>
     generalize r:a.tmps.getD p undef=y at j ⊢;cases j with
     |scalar q=>simp[Am.scalar]at q
     |DG _=>simp at d
     |DQ=>simp at d
     |En n=>
      obtain⟨c,e,k,l,s⟩:=I2 h i n;obtain⟨v',m,z⟩:=dX (C:=C) (cz.FJ l) b k;exact⟨v',by simp only[mF,r,asAddr];simpa using m,z.up⟩
    .cases b
   .cases b
  .cases b
def pY(h:SR C base la mu g9 a.tmps w):∀ {l:List ResultVar} {vs:Tn},dc C g9 l=some vs->
  ∃b,(l.mapM (mF a.tmps)).run C.P w = .ok b w/\t0 la mu vs b
 | [],vs,c=>by
  cases c;exact⟨[],by simp,.nil⟩
 |x :: l,vs,c=>by
  simp only[dc]at c;split at c
  next v i g d=>
   cases c;obtain⟨v',h1,e⟩:=Bs h g;obtain⟨b,j,f⟩:=pY h d;refine⟨v' :: b,?_,.cons e f⟩
   simp_all
  .cases c
def Bv(h:SR C base la mu g9 a.tmps w){d:Func}{vs:Tn}(f:dc C g9 d.results.toList=some vs) :
  ∃v',(results d a.tmps).run C.P w = .ok v' w/\VR la mu (gl vs) v':=by
 obtain⟨c,e,b⟩:=pY h f;rw[Bu,qc9,Sem.run_bind,Sem.run_map,e]
 match vs,c,b with
 | [],[],_=>exact⟨_,rfl,.undef⟩
 | [v],[v'],b=>exact⟨v',rfl,b.head⟩
 |v :: u :: l,v' :: i :: g,b=>exact⟨.tuple (v' :: i :: g).toArray,rfl,t0.tuple (a:=(v :: u :: l).toArray) (by omega)⟩
 | [],_ :: _,b=>simpa using b.1
 | [_],[],b=>simpa using b.1
 | [_],_ :: _ :: _,b=>simpa using b.1
 |_ :: _ :: _,[],b=>simpa using b.1
 |_ :: _ :: _,[_],b=>simpa using b.1
end
section
variable {C:ke}
def L9{S:E9}(L:qF C S){f:TQ}{args:Tn}{H:Tu}{r:TR}{H':Tu}(h:nN C S f args H r H'):en C f args H r H':=by
 obtain⟨fn,n,e,J,Y,k,i,d,A,O,p,rfl,B,rfl⟩:=h;rw[F']at d
 replace d:=d.1
 intro _ m v w c N g M x
 let u:Act:={ tmps:=c++Array.replicate (fn.ntmps - c.size) undef,defers:=[] }
 have o:args.length=c.size:=by simpa using g.1
 have K:FI C m H v w Cu v (mW fn args H) u w:=by
  refine⟨⟨?_,λs b h=>by simp[Cu]at h,λs Y T=>?_,λs Z b h=>by simp[Cu]at h,M⟩,.refl _ _ _,λs b h=>by simp[Cu]at h,⟨[],rfl,by simp,λr R=>by simp at R⟩,N⟩
  .simp only[mW,u,Yw,Array.toList_replicate,o];exact g.append (.replicate _ .undef)
  .simp only[mW,Yu]at T
   simp_all
 let b:Frame:={ (default:Frame)with fn:=f,kind:=.normal,roundOf:=none }
 obtain⟨q,U,u0,W,F,G⟩:=L _ m H v w none f _ n _ J e Cu v u w (λ_=>rfl) A K b [] x rfl rfl;obtain⟨V,y,D⟩:=wm q.defers q U rfl F;obtain⟨X,E,I⟩:=Bv (a:={ q with defers:=[] }) y.sr p;refine⟨X,W,V,ft B I,y.sr.wr,y.DY,?_,?_⟩
 .have z:fn.body.isNone=false:=by rw[i];rfl
  have Q:(program).run C.P w = .ok C.P w:=rfl;simp only[callFunc,Sem.run_bind,Q,Result.andThen_ok,k,d,z];rfl
 .have j:Frame.enter C.P f c .normal=b.atR u [.code n]:=by simp[Frame.enter,Frame.atR,k,i,b,u]
  rw[j];have l:=G;rcases O with rfl|rfl
  .refine⟨{ b.atR { q with defers:=[] } []with mode:=.returning },(Steps.trans l (.one (stepR_end rfl))).trans (D b [] x),rfl,rfl,rfl,rfl,fn,k,E⟩
  .obtain⟨t,l⟩:=l;refine⟨{ b.atR { q with defers:=[] } (.code .ret :: t)with mode:=.returning },(l.trans (.one (stepR_ret rfl))).trans (D b _ x),rfl,rfl,rfl,rfl,fn,k,E⟩
section
variable [D1] {la:o_} {mu:jn}
def vS:∀(d:List Tmp) (vs cs:Tn) (b:Tn) (a:Tl),vs.length=d.length->t0 la mu vs cs->t0 la mu b a.toList->
  t0 la mu (cQ d vs b) ((d.zip cs).foldl (λ(t:Tl) (x:Tmp×Value)=>t.setIfInBounds x.1 x.2) a).toList
 | [],vs,cs,b,a,e,h,g=>by
  cases vs with
  |nil=>simpa[cQ]using g
  |cons _ _=>simp at e
 |t :: d,vs,cs,b,a,e,h,g=>by
  cases vs with
  |nil=>simp at e
  |cons v vs=>
   obtain⟨c,f,rfl,h1,i⟩:=h.Hl;simp only[cQ,a7,Wn];exact vS d vs f _ _ (by simpa using e) i (by simpa using g.set t h1)
end
def BJ{S:E9}(hS:qF C S){l:Nat}{args:Tn}{H:Tu}{r:TR}{H':Tu}(h:lM C S l args H r H'):JL C l args H r H':=by
 obtain⟨d,V,v6,e,W,w9,j,hl,v,q,O,R,u,E,Q,rfl,rfl⟩:=h;intro _ f n w a p hb hp g hW c F;obtain⟨z,ad,hY,L,hL,e1,e2,e3,e4,e5,e6⟩:=oe (g9:={ tmps:=[],loc:=[],heap:=H }) hW hl;obtain rfl:z=p:=by simp_all
 let tm:Tl:=(L.params.zip a).foldl (λtmps (x:Tmp×Value)=>tmps.setIfInBounds x.1 x.2) L.tmps
 let A:Act:={ tmps:=tm,defers:=[] }
 have U:t0 Cu n (cQ d.params args d.tmps) tm.toList:=by
  have:=vS d.params args a.toList d.tmps L.tmps v g e6;rw[←e3,←Array.toList_zip]at this
  grind
 have hF:FI C f H n w Cu n { tmps:=cQ d.params args d.tmps,loc:=[],heap:=H } A w:=by
  refine⟨⟨U,λs b h=>by simp[Cu]at h,λs vs hs=>by simp at hs,λs s' b h=>by simp[Cu]at h,hW⟩,.refl _ _ _,λs b h=>by simp[Cu]at h,⟨[],rfl,by simp,λr hr=>by simp at hr⟩,hb⟩
 let b:Frame:={ (default:Frame)with fn:=L.fn,kind:=.normal,roundOf:=some z.b }
 obtain⟨o8,o9,u0,t9,B,g2⟩:=hS _ f H n w (some z.b) L.fn [] d.assign _ V .normal Cu n A w (λh=>absurd rfl h) q hF b [.beginRound,.code d.body] (c :: F) rfl rfl;have m:∀ {y:jn} {H':Tu} {w':TS},Ee H n w H' y w'->y l=some z:=λhe=>by
  rw[he.same l (x0.1 hY).1];exact hp
 obtain⟨Y,Z,BS,BT,BU,f1,f2,f3,f4,f5,f6⟩:=oe (g9:=V) B.sr.wr O;obtain rfl:Y=z:=by rw[m B.DY]at Z;simp_all
 obtain⟨K,G⟩:=WR.Hf (g9:=V) B.sr.wr BS Z (r':={ v6 with state:=.busy }) (L':={ BT with state:=.busy }) rfl f2 f3 f4 f5 f6;have J:=B.heap K G;obtain⟨w0,t7,w6,v9,D,g4⟩:=hS _ f H n w (some Y.b) L.fn [] d.body _ W e u0 t9 o8 _ (λh=>absurd rfl h) u J b [] (c :: F) rfl rfl;obtain⟨BO,BP,BV,BW,BX,k1,k2,k3,k4,k5,k6⟩:=oe (g9:=W) D.sr.wr Q;obtain rfl:BO=Y:=by rw[m D.DY]at BP;simp_all
 obtain⟨M,I⟩:=WR.Hf (g9:=W) D.sr.wr BV BP (r':={ w9 with state:=if j.isNone then .ready else .done,pending:=j }) (L':={ BW with state:=if j.isNone then .ready else .done,pending:=j }) rfl rfl k3 k4 k5 k6;refine⟨.bool j.isNone,v9,_,L.fn,tm,L.assign,L.body,.scalar rfl,M,D.DY.trans I,?_,?_⟩
 .have T:a.size=L.params.size:=by
   have h1:=g.1
   grind
  simp[Instr.yield,Sem.run_bind,gX hL,T,tm]
 .have N:Frame.round BO.b L.fn tm L.assign L.body .normal=b.atR A [.code L.assign,.beginRound,.code L.body]:=by simp[Frame.round,Frame.atR,b,A]
  rw[N,e4,e5];have s1:Steps C.P (lone (b.atR A [.code d.assign,.beginRound,.code d.body]) (c :: F) w) _:=g2;have X:=s1.trans (.one (stepR_beginRound (k:=[.code d.body]) rfl (qC BU (by rw[f1];exact R))));have o:=g4;have i:=vV (C:=C) BX j;cases e with
  |normal=>
   cases E;exact(X.trans o).trans (.one (stepR_round_end rfl rfl i))
  |ret=>
   cases E;obtain⟨t,o⟩:=o;exact(X.trans o).trans (.one (stepR_round_ret rfl rfl i))
  |exit id=>
   cases E;obtain⟨t,o,hx⟩:=o;exact(X.trans o).trans (.one (stepR_round_exit rfl rfl hx i))
  |_=>cases E
def Lk(l:C.P.follows .mixedOrders=true){K:NS}(c:∀f args H r H',K f args H r H'->en C f args H r H'):∀n,BOk C (Nd C K n).toBelow/\qF C (Nd C K n)
 |0=>⟨⟨c,λ_ _ _ _ _ h=>h.elim⟩,by
   intro _ b p q o s k a_ code g9 m e la mu a w _ h;exact h.elim⟩
 |n+1=>by
  obtain⟨t,d⟩:=Lk l c n;refine⟨⟨λf args H r H' h=>h.elim (c f args H r H') (L9 d),λ_ _ _ _ _ h=>BJ d h⟩,?_⟩;have g:qF C _:=Mh l t d;intro _ b p q o s k a_ code g9 m e la mu a w j i u;exact g _ b p q o s k a_ code g9 m e la mu a w j i u
end
end
end Go.Am
end

/-
  PART 4 OF THE PROOF: Sx6e Sx6f Sx6g Sx6h Sx7 Sx7b Sx8 Sx9m Sx9 Sx9b Sx9c Sx10 Sx11 Sy1 Sy2 (no conditions).
-/
import Derived.Test.YtfbajaepoamenaaGreatDoorCR3
set_option linter.unusedSectionVars false
set_option linter.unusedSimpArgs false
set_option linter.unusedVariables false
set_option linter.constructorNameAsVariable false
set_option linter.defProp false
/-
 OPERATIONS,fifth part: addresses,parts,new rows.
-/
namespace Go.Am
namespace Sx
section
variable [Val] [Kno] {R HT:Type} {A:Alg R HT} {X:Ctxt} {Sg:FuncId→Option Sig} {holds:R→Prop} {abs:HT→List HObj}
variable {ev:Env} {σ:St} {h:HT} {o:Oper} {K:KN R HT}
theorem kC:∀(ix:List (Int×Nat)) (base:Nat) (p:Int×Nat),offX base (ix++[p])=offX base ix+p.1.toNat*p.2
 | [],_,_=>rfl
 |q :: l,base,p=>kC l (base+q.1.toNat*q.2) p
theorem gX:∀(ix:List (Int×Nat)) (base n:Nat),offX (base+n) ix=offX base ix+n
 | [],_,_=>rfl
 |q :: l,base,n=>by
  simp only[offX]
  rw[show base+n+q.1.toNat*q.2=base+q.1.toNat*q.2+n by omega]
  exact gX l _ n
theorem pG(hA:AlgOk A X.C Sg X.T holds abs)(hR:Rp ev σ)(ha:abs h=σ.heap){x:Operand}(ho:o.op = .nilCheck x)
  (hk:holds (match sval ev x with
  | .st (.leaf (.v p))=>A.opt (nilP p) fun q=>A.chk q (setD o.dst (.st (.leaf (.v q))) ev h K)
  | .lad s off=>setD o.dst (.lad s off) ev h K
  | .gad s off=>setD o.dst (.gad s off) ev h K
  |_=>A.fail)):Done X holds abs o σ K:=by
 split at hk
 ·rename_i p e
  obtain⟨h1,_⟩:=hR.sval e (by simp)
  simp only[SV.val,S0.val,SL.val]at h1
  obtain⟨q,hq,hk1⟩:=hA.opt _ _ hk
  obtain⟨hg,hk2⟩:=hA.chk _ _ hk1
  refine aw hR ha (s:=.st (.leaf (.v q))) (aA hg) ?_ hk2
  simp only[au,ho,h1]
  unfold nilP at hq
  split at hq<;>cases hq<;>rfl
 ·rename_i s off e
  obtain⟨h1,_⟩:=hR.sval e (by simp)
  exact aw hR ha (s:=.lad s off) trivial (by simp only[au,ho,h1,SV.val]) hk
 ·rename_i s off e
  obtain⟨h1,_⟩:=hR.sval e (by simp)
  exact aw hR ha (s:=.gad s off) trivial (by simp only[au,ho,h1,SV.val]) hk
 ·exact absurd hk hA.fail
theorem ol(hA:AlgOk A X.C Sg X.T holds abs)(hR:Rp ev σ)(ha:abs h=σ.heap){t:TypeId}{x:Operand}{f:Nat}(ho:o.op = .fieldAddr t x f)
  (hk:holds (io A X o.dst t x f ev h K)):Done X holds abs o σ K:=by
 unfold io at hk
 split at hk
 ·rename_i fs hu
  split at hk
  ·rename_i fd hf
   have heff:∀ {b off:Nat} {sp:Option Nat},Nat.beq (X.C.P.cellsOf fd.type) 0=false→oval σ.tmps x = .pointer (some ⟨b,off,sp⟩)→
     au X.C X.pts (oval σ.tmps) o=some (.val (.pointer (some ⟨b,off+fd.offset,sp⟩))):=by
    intro b off sp hz hx
    have hz:¬X.C.P.cellsOf fd.type=0:=fun e=>by rw[e]at hz;cases hz
    simp only[au,ho,hx,eo,hu,hf,if_neg hz,Option.map_some]
   split at hk
   ·rename_i s off hz e
    obtain⟨h1,_⟩:=hR.sval e (by simp)
    exact aw hR ha (s:=.lad s (off+fd.offset)) trivial (heff hz h1) hk
   ·rename_i s off hz e
    obtain⟨h1,_⟩:=hR.sval e (by simp)
    exact aw hR ha (s:=.gad s (off+fd.offset)) trivial (heff hz h1) hk
   ·rename_i s base ix hz e
    obtain⟨h1,_⟩:=hR.sval e (by simp)
    refine aw hR ha (s:=.ldx s (base+fd.offset) ix) trivial ?_ hk
    rw[heff hz h1,SV.val,gX]
   ·rename_i s base ix hz e
    obtain⟨h1,_⟩:=hR.sval e (by simp)
    refine aw hR ha (s:=.gdx s (base+fd.offset) ix) trivial ?_ hk
    rw[heff hz h1,SV.val,gX]
   ·rename_i p hz e
    obtain⟨h1,_⟩:=hR.sval e (by simp)
    simp only[SV.val,S0.val,SL.val]at h1
    obtain⟨q,hq,hk1⟩:=hA.opt _ _ hk
    obtain⟨hg,hk2⟩:=hA.chk _ _ hk1
    refine aw hR ha (s:=.st (.leaf (.v q))) (aA hg) ?_ hk2
    unfold fdP at hq
    split at hq
    ·rename_i a
     cases hq
     exact heff hz h1
    ·cases hq
   ·exact absurd hk hA.fail
  ·exact absurd hk hA.fail
 ·exact absurd hk hA.fail
theorem gG{i:Operand}{n:Nat}(h:constI i=some n):intOf (oval σ.tmps i)=some (n:Int):=by
 unfold constI at h
 split at h
 ·cases h
  simp[oval,flat,dY,scalar,Am.intOf]
 ·cases h
theorem ow{len:Nat}{j:Int}{u:Unit}(h:inB len j=some u):0≤j∧j<(len:Int):=by
 rw[inB_eq]at h
 split at h
 ·assumption
 ·cases h
theorem idS_ok{esz:Nat}{x q:Value}{i:Int}(h:idS esz x i=some q) :
  ∃a len cx,x = .slice (some a) len cx∧(0≤i∧i<(len:Int))∧q = .pointer (some ⟨a.block,a.off+i.toNat*esz,if a.spot=some 1 then some 1 else none⟩):=by
 rw[idS_eq]at h
 split at h
 ·rename_i a len cx
  split at h
  ·rename_i hb;cases h;exact⟨a,len,cx,rfl,hb,rfl⟩
  ·cases h
 ·cases h
theorem ox(hA:AlgOk A X.C Sg X.T holds abs)(hR:Rp ev σ)(ha:abs h=σ.heap){t:TypeId}{x i:Operand}(ho:o.op = .indexAddr t x i)
  (hk:holds (iu A X o.dst t x i ev h K)):Done X holds abs o σ K:=by
 unfold iu at hk
 split at hk
 ·rename_i len e hu
  have heff:∀ {b off:Nat} {sp:Option Nat} {j:Int},Nat.beq (X.C.P.cellsOf e) 0=false→oval σ.tmps x = .pointer (some ⟨b,off,sp⟩)→intOf (oval σ.tmps i)=some j→0≤j→j<(len:Int)→
    au X.C X.pts (oval σ.tmps) o=some (.val (.pointer (some ⟨b,off+j.toNat*X.C.P.cellsOf e,sp⟩))):=by
   intro b off sp j hz hx hi h0 h1
   have hz:¬X.C.P.cellsOf e=0:=fun e=>by rw[e]at hz;cases hz
   simp only[au,ho,hx,dG,hi,hu,if_neg hz,if_pos (And.intro h0 h1),Option.map_some]
  have hint:∀ {k:IntKind} {j:Int},sval ev i = .st (.leaf (.i k j))→intOf (oval σ.tmps i)=some j:=by
   intro k j hs
   obtain⟨h1,_⟩:=hR.sval hs (by simp)
   rw[h1];rfl
  simp only at hk
  split at hk
  ·rename_i s off n hz e1 hc
   obtain⟨h1,_⟩:=hR.sval e1 (by simp)
   split at hk
   ·rename_i hlt
    have hlt:n<len:=by simpa[Nat.blt_eq]using hlt
    refine aw hR ha (s:=.lad s (off+n*X.C.P.cellsOf e)) trivial ?_ hk
    rw[heff hz h1 (gG hc) (by omega) (by omega)];simp[SV.val]
   ·exact absurd hk hA.fail
  ·rename_i s off n hz e1 hc
   obtain⟨h1,_⟩:=hR.sval e1 (by simp)
   split at hk
   ·rename_i hlt
    have hlt:n<len:=by simpa[Nat.blt_eq]using hlt
    refine aw hR ha (s:=.gad s (off+n*X.C.P.cellsOf e)) trivial ?_ hk
    rw[heff hz h1 (gG hc) (by omega) (by omega)];simp[SV.val]
   ·exact absurd hk hA.fail
  ·rename_i s base ix n hz e1 hc
   obtain⟨h1,_⟩:=hR.sval e1 (by simp)
   split at hk
   ·rename_i hlt
    have hlt:n<len:=by simpa[Nat.blt_eq]using hlt
    refine aw hR ha (s:=.ldx s (base+n*X.C.P.cellsOf e) ix) trivial ?_ hk
    rw[heff hz h1 (gG hc) (by omega) (by omega)];simp[SV.val,gX]
   ·exact absurd hk hA.fail
  ·rename_i s base ix n hz e1 hc
   obtain⟨h1,_⟩:=hR.sval e1 (by simp)
   split at hk
   ·rename_i hlt
    have hlt:n<len:=by simpa[Nat.blt_eq]using hlt
    refine aw hR ha (s:=.gdx s (base+n*X.C.P.cellsOf e) ix) trivial ?_ hk
    rw[heff hz h1 (gG hc) (by omega) (by omega)];simp[SV.val,gX]
   ·exact absurd hk hA.fail
  ·rename_i s off k j hz e1 e2 _
   obtain⟨h1,_⟩:=hR.sval e1 (by simp)
   obtain⟨u,hu2,hk1⟩:=hA.opt _ _ hk
   obtain⟨b1,b2⟩:=ow hu2
   exact aw hR ha (s:=.ldx s off [(j,X.C.P.cellsOf e)]) trivial (by rw[heff hz h1 (hint e2) b1 b2];rfl) hk1
  ·rename_i s off k j hz e1 e2 _
   obtain⟨h1,_⟩:=hR.sval e1 (by simp)
   obtain⟨u,hu2,hk1⟩:=hA.opt _ _ hk
   obtain⟨b1,b2⟩:=ow hu2
   exact aw hR ha (s:=.gdx s off [(j,X.C.P.cellsOf e)]) trivial (by rw[heff hz h1 (hint e2) b1 b2];rfl) hk1
  ·rename_i s base ix k j hz e1 e2 _
   obtain⟨h1,_⟩:=hR.sval e1 (by simp)
   obtain⟨u,hu2,hk1⟩:=hA.opt _ _ hk
   obtain⟨b1,b2⟩:=ow hu2
   exact aw hR ha (s:=.ldx s base (ix++[(j,X.C.P.cellsOf e)])) trivial (by rw[heff hz h1 (hint e2) b1 b2,SV.val,kC]) hk1
  ·rename_i s base ix k j hz e1 e2 _
   obtain⟨h1,_⟩:=hR.sval e1 (by simp)
   obtain⟨u,hu2,hk1⟩:=hA.opt _ _ hk
   obtain⟨b1,b2⟩:=ow hu2
   exact aw hR ha (s:=.gdx s base (ix++[(j,X.C.P.cellsOf e)])) trivial (by rw[heff hz h1 (hint e2) b1 b2,SV.val,kC]) hk1
  ·rename_i p k j hz e1 e2
   obtain⟨h1,_⟩:=hR.sval e1 (by simp)
   simp only[SV.val,S0.val,SL.val]at h1
   obtain⟨q,hq,hk1⟩:=hA.opt _ _ hk
   obtain⟨hg,hk2⟩:=hA.chk _ _ hk1
   unfold idP at hq
   split at hq
   ·rename_i a
    split at hq
    ·rename_i hb
     cases hq
     exact aw hR ha (s:=.st (.leaf (.v _))) (aA hg) (heff hz h1 (hint e2) hb.1 hb.2) hk2
    ·cases hq
   ·cases hq
  ·exact absurd hk hA.fail
 ·rename_i e hu
  simp only at hk
  split at hk
  ·rename_i p k j hz e1 e2
   obtain⟨h1,_⟩:=hR.sval e1 (by simp)
   obtain⟨h2,_⟩:=hR.sval e2 (by simp)
   simp only[SV.val,S0.val,SL.val]at h1 h2
   obtain⟨q,hq,hk1⟩:=hA.opt _ _ hk
   have hz:¬X.C.P.cellsOf e=0:=fun e=>by rw[e]at hz;cases hz
   obtain⟨a,len,cx,rfl,hb,rfl⟩:=idS_ok hq
   refine aw hR ha (s:=.st (.leaf (.v _))) (aA ?_) ?_ hk1
   ·show cN _=true
    by_cases hs:a.spot=some 1<;>simp[hs,cN,noLoc,bv,cV,co,br,aT]
   ·simp only[au,ho,h1,h2,dG,Am.intOf,hu,if_neg hz,if_pos hb,Option.map_some];rfl
  ·exact absurd hk hA.fail
 ·exact absurd hk hA.fail
theorem qG{C:Cfg}{t:TypeId}{ag:Bool}{cs ds:List SL}{off:Nat}{x:S0}(hag:aggT C.P t=some ag)(hc:cutS cs off (if ag then C.P.cellsOf t else 1)=some ds)(hx:mkS0 ag ds=some x) :
  pN C t ⟨cs.map SL.val⟩ off=some x.val∧x.cells=ds:=by
 obtain⟨h1,h2⟩:=ku hx
 refine⟨?_,h1⟩
 unfold cutS at hc
 unfold aggT at hag
 unfold pN
 split at hag
 ·rename_i fs e
  cases hag
  simp only[if_true]at hc
  split at hc
  ·rename_i hle
   cases hc
   rcases h2 with⟨_,h2⟩|⟨h0,_⟩
   ·rw[e]
    simp only[h2,Option.some.injEq,Value.agg.injEq]
    apply Array.toList_inj.1
    rw[Array.toList_extract]
    simp[List.extract,List.map_take,List.map_drop]
   ·cases h0
  ·cases hc
 ·rename_i n el e
  cases hag
  simp only[if_true]at hc
  split at hc
  ·rename_i hle
   cases hc
   rcases h2 with⟨_,h2⟩|⟨h0,_⟩
   ·rw[e]
    simp only[h2,Option.some.injEq,Value.agg.injEq]
    apply Array.toList_inj.1
    rw[Array.toList_extract]
    simp[List.extract,List.map_take,List.map_drop]
   ·cases h0
  ·cases hc
 ·rename_i d h3 h4 e
  cases hag
  simp only[Bool.false_eq_true,if_false]at hc
  split at hc
  ·rename_i hle
   cases hc
   rcases h2 with⟨h0,_⟩|⟨_,h2⟩
   ·cases h0
   ·rw[e]
    have hlt:off<cs.length:=by omega
    rw[List.drop_eq_getElem_cons hlt]at h2
    simp only[List.take_succ_cons,List.take_zero,List.map_cons,List.map_nil,List.cons.injEq,and_true]at h2
    rw[←h2]
    have hlt':off<(⟨cs.map SL.val⟩ : Array Value).size:=by simpa using hlt
    have hget:(⟨cs.map SL.val⟩ : Array Value)[off]? = some cs[off].val:=by
     rw[Array.getElem?_eq_getElem hlt']
     simp
    rw[hget]
    split
    ·rename_i fs e2;exact absurd (Option.some.inj e2) (h3 _)
    ·rename_i a b e2;exact absurd (Option.some.inj e2) (h4 _ _)
    ·rfl
    ·rename_i e2;cases e2
  ·cases hc
 ·cases hag
theorem field_ok(hA:AlgOk A X.C Sg X.T holds abs)(hR:Rp ev σ)(ha:abs h=σ.heap){t:TypeId}{x:Operand}{f:Nat}(ho:o.op = .field t x f)
  (hk:holds (match X.C.P.underlying t,sval ev x with
  |some (.struct fs),.st (.agg cs)=>match fs[f]? with
   |some fd=>match (aggT X.C.P fd.type).bind (fun ag=>(cutS cs fd.offset (if ag then X.C.P.cellsOf fd.type else 1)).bind (mkS0 ag))with
    |some x=>setD o.dst (.st x) ev h K
    |none=>A.fail
   |none=>A.fail
  |_,_=>A.fail)):Done X holds abs o σ K:=by
 split at hk
 ·rename_i fs cs hu e
  obtain⟨h1,g1⟩:=hR.sval e (by simp)
  split at hk
  ·rename_i fd hf
   split at hk
   ·rename_i x' hx
    obtain⟨ag,hag,hx⟩:=Option.bind_eq_some_iff.1 hx
    obtain⟨ds,hc,hx⟩:=Option.bind_eq_some_iff.1 hx
    obtain⟨h2,h3⟩:=qG hag hc hx
    refine aw hR ha (s:=.st x') (fun l hl=>?_) ?_ hk
    ·rw[h3]at hl
     exact g1 l ((jQ hc).2 l hl)
    ·simp only[au,ho,h1,SV.val,S0.val,oh,hu,hf,Option.bind_some,h2,Option.map_some]
   ·exact absurd hk hA.fail
  ·exact absurd hk hA.fail
 ·exact absurd hk hA.fail
theorem ry(hA:AlgOk A X.C Sg X.T holds abs)(hR:Rp ev σ)(ha:abs h=σ.heap){t:Operand}{i:Nat}(ho:o.op = .extract t i)
  (hk:holds (match sval ev t with
  | .tup xs=>match xs[i]? with
   |some x=>setD o.dst (.st x) ev h K
   |none=>A.fail
  |_=>A.fail)):Done X holds abs o σ K:=by
 split at hk
 ·rename_i xs e
  obtain⟨h1,g1,g2⟩:=hR.sval e (by simp)
  split at hk
  ·rename_i x hx
   refine aw hR ha (s:=.st x) (g1 x (List.mem_of_getElem? hx)) ?_ hk
   simp only[au,ho,h1,SV.val]
   rw[if_neg (by simp;omega)]
   have:(⟨xs.map S0.val⟩ : Array Value)[i]? = some x.val:=by simp[hx]
   rw[this];rfl
  ·exact absurd hk hA.fail
 ·exact absurd hk hA.fail
theorem pF(hA:AlgOk A X.C Sg X.T holds abs)(hR:Rp ev σ)(ha:abs h=σ.heap){fn:Fn}{first cap:Array Operand}(ho:o.op = .makeFunc fn first cap)
  (hk:holds (match (generalizing:=false) fn,svals ev first.toList,svals ev cap.toList with
  | .func g,some a,some b=>A.chk (.func (.func g) ⟨ao a⟩ ⟨ao b⟩) (setD o.dst (.st (.leaf (.v (.func (.func g) ⟨ao a⟩ ⟨ao b⟩)))) ev h K)
  |_,_,_=>A.fail)):Done X holds abs o σ K:=by
 split at hk
 ·rename_i g a b _ e1 e2
  obtain⟨h1,_⟩:=hR.svals e1
  obtain⟨h2,_⟩:=hR.svals e2
  obtain⟨hg,hk1⟩:=hA.chk _ _ hk
  refine aw hR ha (s:=.st (.leaf (.v _))) (aA hg) ?_ hk1
  simp only[au,ho,SV.val,S0.val,SL.val,Option.some.injEq,Eff.val.injEq,Value.func.injEq,true_and]
  refine⟨?_,?_⟩<;>apply Array.toList_inj.1<;>simp[h1,h2]
 ·exact absurd hk hA.fail
theorem iA(hR:Rp ev σ){r:Option Operand}{x:Option Int}(h:optI ev r=some x):(r=none∧x=none)∨∃y k n,r=some y∧oval σ.tmps y = .int k n∧x=some n:=by
 unfold optI at h
 split at h
 ·cases h;exact .inl ⟨rfl,rfl⟩
 ·rename_i y
  split at h
  ·rename_i k n e
   cases h
   obtain⟨h1,_⟩:=hR.sval e (by simp)
   exact .inr ⟨y,k,n,rfl,h1,rfl⟩
  ·cases h
theorem bH(hR:Rp ev σ){r:Option Operand}{x:Option Int}(h:optI ev r=some x):cX (r.map (oval σ.tmps))=some x:=by
 rcases iA hR h with⟨rfl,rfl⟩|⟨y,k,n,rfl,h1,rfl⟩
 ·rfl
 ·simp[h1,cX]
theorem iw(hA:AlgOk A X.C Sg X.T holds abs)(hR:Rp ev σ)(ha:abs h=σ.heap){t:TypeId}{r:Option Operand}(ho:o.op = .makeMap t r)
  (hk:holds (match kg X.C t (r.map fun _=>.int .i64 0),optI ev r with
  |true,some _=>A.new (.map [] 0) h fun n h=>setD o.dst (.st (.leaf (.v (.map (some n))))) ev h K
  |_,_=>A.fail)):Done X holds abs o σ K:=by
 split at hk
 ·rename_i x hh e
  obtain⟨h',e1,hk1⟩:=hA.new _ _ _ hk
  rw[ha]at e1 hk1
  refine cM hR e1 (s:=.st (.leaf (.v (.map (some σ.heap.length))))) (aA rfl) (f:=fun H=>some (H++[.map [] 0],.map (some H.length))) ?_ rfl hk1
  have:kg X.C t (r.map (oval σ.tmps))=true:=by
   rcases iA hR e with⟨rfl,rfl⟩|⟨y,k,n,rfl,h1,rfl⟩
   ·rfl
   ·simp only[Option.map_some,kg,h1]at hh ⊢
    exact hh
  simp only[au,ho,this,if_true]
 ·exact absurd hk hA.fail
theorem rf(n esz a b:Nat):cN (.slice (some ⟨n,0,tag esz⟩) a b)=true:=by
 simp[cN,noLoc,bv,cV,co,br,aT,tag]
theorem oF(hA:AlgOk A X.C Sg X.T holds abs)(hR:Rp ev σ)(ha:abs h=σ.heap){t:TypeId}{l c:Operand}(ho:o.op = .makeSlice t l c)
  (hk:holds (match X.C.P.underlying t,sval ev l,sval ev c with
  |some (.slice e),.st (.leaf (.i _ l)),.st (.leaf (.i _ c))=>match X.C.P.info? e with
   |some info=>match Nat.beq info.size 0||Nat.blt 4096 info.bytes,(hZ info).bind s0Of with
    |false,some z=>A.opt (mkOk l c) fun _=>
      A.new (.cells (ca (z.cells.map SL.val) c.toNat) info.size true) h fun n h=>setD o.dst (.st (.leaf (.v (.slice (some ⟨n,0,tag info.size⟩) l.toNat (c.toNat+1))))) ev h K
    |_,_=>A.fail
   |none=>A.fail
  |_,_,_=>A.fail)):Done X holds abs o σ K:=by
 split at hk
 ·rename_i e k1 l' k2 c' hu e1 e2
  obtain⟨h1,_⟩:=hR.sval e1 (by simp)
  obtain⟨h2,_⟩:=hR.sval e2 (by simp)
  split at hk
  ·rename_i info hi
   split at hk
   ·rename_i z hz hz0
    obtain⟨zv,hz1,hz2⟩:=Option.bind_eq_some_iff.1 hz0
    obtain⟨z1,z2,_⟩:=ny hz2
    obtain⟨u,hm,hk1⟩:=hA.opt _ _ hk
    obtain⟨h',n1,hk2⟩:=hA.new _ _ _ hk1
    rw[ha]at n1 hk2
    unfold mkOk at hm
    split at hm
    ·rename_i hmm
     simp only[Bool.or_eq_false_iff]at hz
     have hs0:¬info.size=0:=fun e=>by rw[e]at hz;cases hz.1
     have hby:info.bytes≤4096:=by
      have:=hz.2
      rw[←Bool.not_eq_true,Nat.blt_eq]at this
      omega
     refine cM hR n1 (s:=.st (.leaf (.v _))) (aA (rf _ _ _ _)) (f:=cJ X.C t (.int k1 l') (.int k2 c')) ?_ ?_ hk2
     ·simp only[au,ho,h1,h2];rfl
     ·simp only[cJ,Am.intOf,hu,hi,if_neg hs0,hz1]
      rw[if_pos ⟨hmm.1,hmm.2.1,hmm.2.2,hby⟩,←z1,S0.cells_val z2]
      rfl
    ·cases hm
   ·exact absurd hk hA.fail
  ·exact absurd hk hA.fail
 ·exact absurd hk hA.fail
theorem mB(hA:AlgOk A X.C Sg X.T holds abs)(hR:Rp ev σ)(ha:abs h=σ.heap){t:TypeId}{n:Nat}{ps:Array (Nat×Operand)}(ho:o.op = .buildSlice t n ps)
  (hk:holds (match X.C.P.underlying t,svals ev (ps.toList.map (·.2))with
  |some (.slice e),some xs=>match X.C.P.info? e with
   |some info=>match Nat.beq info.size 0||Nat.blt 16777216 (n*info.size),(hZ info).bind s0Of with
    |false,some z=>match mR (fun i=>some (i*info.size,info.size)) (List.replicate n z.cells).flatten ((ps.toList.map (·.1)).zip xs)with
     |some cs=>A.new (.cells (cs.map SL.val) info.size true) h fun m h=>setD o.dst (.st (.leaf (.v (.slice (some ⟨m,0,tag info.size⟩) n (n+1))))) ev h K
     |none=>A.fail
    |_,_=>A.fail
   |none=>A.fail
  |_,_=>A.fail)):Done X holds abs o σ K:=by
 split at hk
 ·rename_i e xs hu e1
  split at hk
  ·rename_i info hi
   split at hk
   ·rename_i z hz hz0
    obtain⟨zv,hz1,hz2⟩:=Option.bind_eq_some_iff.1 hz0
    obtain⟨z1,z2,_⟩:=ny hz2
    split at hk
    ·rename_i cs hf
     obtain⟨h',n1,hk1⟩:=hA.new _ _ _ hk
     rw[ha]at n1 hk1
     obtain⟨hv,hg⟩:=hR.svals e1
     have hzg:∀c∈(List.replicate n z.cells).flatten,c.good:=by
      intro c hc
      obtain⟨l,hl,hc⟩:=List.mem_flatten.1 hc
      rw[List.mem_replicate]at hl
      rw[hl.2]at hc
      exact z2 c hc
     have hfill:=mS _ _ _ _ (nN (is:=ps.toList.map (·.1)) hg) hf
     simp only[Bool.or_eq_false_iff]at hz
     obtain⟨ha1,ha3⟩:=hz
     have ha1:¬info.size=0:=fun e=>by rw[e]at ha1;cases ha1
     have ha3:¬n*info.size > 16777216:=by rw[←Bool.not_eq_true,Nat.blt_eq]at ha3;omega
     refine cM hR n1 (s:=.st (.leaf (.v _))) (aA (rf _ _ _ _))
      (f:=fun H=>some (H++[.cells (cs.map SL.val) info.size true],.slice (some ⟨H.length,0,tag info.size⟩) n (n+1))) ?_ rfl hk1
     have hall:(ps.toList.all fun p=>(oval σ.tmps p.2).cells.toList.all aY)=true:=by
      rw[List.all_eq_true]
      intro p hp
      have hm:oval σ.tmps p.2∈ao xs:=by
       rw[←hv]
       exact List.mem_map.2 ⟨p.2,List.mem_map.2 ⟨p,hp,rfl⟩,rfl⟩
      simp only[ao,List.mem_map]at hm
      obtain⟨x,hx,e⟩:=hm
      rw[←e]
      exact S0.cells_ok (hg x hx)
     have hflat:(ca zv.cells.toList n).toArray=⟨((List.replicate n z.cells).flatten).map SL.val⟩:=by
      rw[←z1,S0.cells_val z2]
      simp[ca,List.map_flatten]
     simp only[au,ho,hall,if_true,dI,hu,hi]
     rw[if_neg ha1,if_neg ha3]
     simp only[hz1]
     rw[mr hv,hflat,hfill]
     rfl
    ·exact absurd hk hA.fail
   ·exact absurd hk hA.fail
  ·exact absurd hk hA.fail
 ·exact absurd hk hA.fail
end
end Sx
end Go.Am

/-
 OPERATIONS,sixth part: slices,indices,maps.
-/
namespace Go.Am
namespace Sx
section
variable [Val] [Kno] {R HT:Type} {A:Alg R HT} {X:Ctxt} {Sg:FuncId→Option Sig} {holds:R→Prop} {abs:HT→List HObj}
variable {ev:Env} {σ:St} {h:HT} {o:Oper} {K:KN R HT}
theorem cutS_len{cs ds:List SL}{off n:Nat}(h:cutS cs off n=some ds):ds.length=n:=by
 unfold cutS at h
 split at h
 ·rename_i hle;cases h;simp;omega
 ·cases h
theorem mk_any{ag:Bool}{ds:List SL}{n:Nat}(hl:ds.length=(if ag then n else 1)):∃x,mkS0 ag ds=some x:=by
 cases ag with
 |true=>exact⟨_,rfl⟩
 |false=>
  simp only[Bool.false_eq_true,if_false]at hl
  match ds,hl with
  | [d],_=>exact⟨_,rfl⟩
theorem index_ok(hA:AlgOk A X.C Sg X.T holds abs)(hR:Rp ev σ)(ha:abs h=σ.heap){t:TypeId}{x i:Operand}{hs:List SK}(ho:o.op = .index t x i)
  (hk:holds (match X.C.P.underlying t,sval ev x,sval ev i with
  |some (.array len e),.st (.agg cs),.st (.leaf (.i _ j))=>match aggT X.C.P e with
   |some ag=>match eqB ag (gy (jl hs))&&nR cs (skKs (jl hs)) 0 [(j,X.C.P.cellsOf e)]&&Nat.beq (if ag then X.C.P.cellsOf e else 1) (skKs (jl hs)).length with
    |false=>A.fail
    |true=>A.opt (inB len j) fun _=>A.opt (bC (cs.map SL.lf) 0 [(j,X.C.P.cellsOf e)] (if ag then X.C.P.cellsOf e else 1)) fun ls=>setL A o.dst (jl hs) ls ev h K
   |none=>A.fail
  |some .string,.st (.leaf (.v (.string s))),.st (.leaf (.i _ j))=>A.opt (sa s j) fun b=>setD o.dst (.st (.leaf (.i .u8 b))) ev h K
  |_,_,_=>A.fail)):Done X holds abs o σ K:=by
 split at hk
 ·rename_i len e cs k j hu e1 e2
  obtain⟨h1,g1⟩:=hR.sval e1 (by simp)
  obtain⟨h2,_⟩:=hR.sval e2 (by simp)
  split at hk
  ·rename_i ag hag
   split at hk
   ·exact absurd hk hA.fail
   ·rename_i hc
    simp only[Bool.and_eq_true]at hc
    obtain⟨⟨c1,c2⟩,c3⟩:=hc
    have c1:=eqB_eq c1
    have c3:=Nat.eq_of_beq_eq_true c3
    obtain⟨u,hb,hk1⟩:=hA.opt _ _ hk
    obtain⟨b1,b2⟩:=ow hb
    obtain⟨ls,hp,hk2⟩:=hA.opt _ _ hk1
    obtain⟨ds,hd,rfl⟩:=qH hp
    have hlen:ds.length=(if ag then X.C.P.cellsOf e else 1):=cutS_len hd
    obtain⟨y,hy⟩:=mk_any hlen
    obtain⟨p1,p2⟩:=qG hag hd hy
    obtain⟨m1,m2⟩:=ku hy
    rw[c3]at hd
    rw[c1]at m2
    obtain⟨z,hz1,hz2,hk3⟩:=setL_ok hA (jm c2 hd) (fun c hc=>g1 c ((jQ hd).2 c hc)) m2 hk2
    refine aw hR ha (s:=.st z) hz2 ?_ hk3
    have hi:iY X.C t (.agg ⟨cs.map SL.val⟩) (.int k j)=some y.val:=by
     have:offX 0 [(j,X.C.P.cellsOf e)]=j.toNat*X.C.P.cellsOf e:=by simp[offX]
     rw[this]at p1
     simp only[iY,Am.intOf,hu,if_pos (And.intro b1 b2)]
     exact p1
    have h1:oval σ.tmps x = .agg ⟨cs.map SL.val⟩:=h1
    have h2:oval σ.tmps i = .int k j:=h2
    simp only[au,ho,h1,h2,hi,Option.map_some]
    rw[←hz1];rfl
  ·exact absurd hk hA.fail
 ·rename_i s k j hu e1 e2
  obtain⟨h1,g1⟩:=hR.sval e1 (by simp)
  obtain⟨h2,_⟩:=hR.sval e2 (by simp)
  obtain⟨b,hb,hk1⟩:=hA.opt _ _ hk
  obtain⟨q1,q2⟩:=strAt_ok hb
  have h1:oval σ.tmps x = .string s:=h1
  have h2:oval σ.tmps i = .int k j:=h2
  refine aw hR ha (s:=.st (.leaf (.i .u8 b))) (fun l hl=>?_) ?_ hk1
  ·simp only[S0.cells,List.mem_singleton]at hl
   subst hl;trivial
  ·have hi:iY X.C t (.string s) (.int k j)=some (.int .u8 b):=by
    simp only[iY,Am.intOf,hu,if_pos q1]
    exact q2
   simp only[au,ho,h1,h2,hi,Option.map_some]
   rfl
 ·exact absurd hk hA.fail
theorem po{P:Program}{lo hi mx:Option Value}(h1:∀v,lo=some v→∃k,v = .int k 0)(h2:∀v,hi=some v→∃k,v = .int k 0)(h3:∀v,mx=some v→∃k,v = .int k 0)(h4:mx=none∨hi.isSome=true)(w:World) :
  (Instr.sliceBounds true 0 0 lo hi mx).run P w = .ok (0,0,0) w:=by
 have hb:∀(k:IntKind) (c:BoundsCode),(Instr.sliceBound (.int k 0) 0 c).run P w = .ok 0 w:=fun k c=>by
  simp[Instr.sliceBound,asIntOf]
 unfold Instr.sliceBounds
 cases mx with
 |none=>
  cases hi with
  |none=>
   cases lo with
   |none=>simp
   |some l=>obtain⟨k,rfl⟩:=h1 _ rfl;simp[hb]
  |some u=>
   obtain⟨k,rfl⟩:=h2 _ rfl
   cases lo with
   |none=>simp[hb]
   |some l=>obtain⟨k,rfl⟩:=h1 _ rfl;simp[hb]
 |some m=>
  obtain⟨k,rfl⟩:=h3 _ rfl
  cases hi with
  |none=>rcases h4 with h|h<;>simp at h
  |some u=>
   obtain⟨k,rfl⟩:=h2 _ rfl
   cases lo with
   |none=>simp[hb]
   |some l=>obtain⟨k,rfl⟩:=h1 _ rfl;simp[hb]
theorem sliceE_ok(hA:AlgOk A X.C Sg X.T holds abs)(hR:Rp ev σ)(ha:abs h=σ.heap){t:TypeId}{x:Operand}{lo hi mx:Option Operand}(ho:o.op = .slice t x lo hi mx)
  (hk:holds (match X.C.P.underlying t,sval ev x,optI ev lo,optI ev hi,optI ev mx with
  |some (.slice e),.st (.leaf (.v x)),some lo,some hi,some mx=>match Nat.beq (X.C.P.cellsOf e) 0 with
   |true=>A.fail
   |false=>A.opt (slS (X.C.P.cellsOf e) x lo hi mx) fun q=>A.chk q (setD o.dst (.st (.leaf (.v q))) ev h K)
  |some (.array _ e),.gad g off,some lo,some hi,some mx=>match Nat.beq (X.C.P.cellsOf e) 0 with
   |true=>A.fail
   |false=>A.opt (ch X.C t ⟨g,off,some 1⟩ (lo.map (.int .i64)) (hi.map (.int .i64)) (mx.map (.int .i64)) []) fun q=>A.chk q (setD o.dst (.st (.leaf (.v q))) ev h K)
  |_,_,_,_,_=>A.fail)):Done X holds abs o σ K:=by
 split at hk
 ·rename_i e v lo' hi' mx' hu e1 e2 e3 e4
  obtain⟨h1,_⟩:=hR.sval e1 (by simp)
  simp only[SV.val,S0.val,SL.val]at h1
  split at hk
  ·exact absurd hk hA.fail
  ·rename_i hz
   have hz:¬X.C.P.cellsOf e=0:=fun e=>by rw[e]at hz;cases hz
   obtain⟨q,hq,hk1⟩:=hA.opt _ _ hk
   obtain⟨hg,hk2⟩:=hA.chk _ _ hk1
   have b2:=bH hR e2
   have b3:=bH hR e3
   have b4:=bH hR e4
   unfold slS at hq
   split at hq
   ·rename_i a len cx
    split at hq
    ·cases hq
    ·rename_i hsp
     split at hq
     ·rename_i hb
      cases hq
      refine aw hR ha (s:=.st (.leaf (.v _))) (aA hg) ?_ hk2
      simp only[au,ho,h1,qW,b2,b3,b4,hu,if_neg hz,if_neg hsp,if_pos hb,kF]
      rfl
     ·cases hq
   ·split at hq
    ·rename_i hb
     cases hq
     have hint:∀ {r:Option Operand} {x:Option Int},optI ev r=some x→x.getD 0=0→∀v,r.map (oval σ.tmps)=some v→∃k,v = .int k 0:=by
      intro r x hx h0 v hv
      rcases iA hR hx with⟨rfl,rfl⟩|⟨y,k,n,rfl,h1,rfl⟩
      ·cases hv
      ·simp only[Option.map_some,Option.some.injEq,h1]at hv
       simp at h0
       subst h0
       exact⟨k,hv.symm⟩
     have hplain:∀ {r:Option Operand} {x:Option Int},optI ev r=some x→∀y,r=some y→plain (oval σ.tmps y)=true∧den (oval σ.tmps y)=oval σ.tmps y:=by
      intro r x hx y hy
      rcases iA hR hx with⟨rfl,rfl⟩|⟨y',k,n,rfl,h1,rfl⟩
      ·cases hy
      ·cases hy;rw[h1];exact⟨rfl,rfl⟩
     have hden:∀ {r:Option Operand} {x:Option Int},optI ev r=some x→r.map (fun y=>den (oval σ.tmps y))=r.map (oval σ.tmps):=by
      intro r x hx
      cases r with
      |none=>rfl
      |some y=>simp[(hplain hx y rfl).2]
     refine ce hR ha (s:=.st (.leaf (.v (.slice none 0 0)))) (aA rfl) ⟨by rw[ho];rfl,?_,rfl,fun w=>?_⟩ hk2
     ·rw[ho]
      simp only[Op.operands,Array.toList_append,List.all_append,Bool.and_eq_true]
      refine⟨⟨⟨by simp[h1];rfl,?_⟩,?_⟩,?_⟩
      ·cases lo with
       |none=>rfl
       |some y=>simp[(hplain e2 y rfl).1]
      ·cases hi with
       |none=>rfl
       |some y=>simp[(hplain e3 y rfl).1]
      ·cases mx with
       |none=>rfl
       |some y=>simp[(hplain e4 y rfl).1]
     ·have hm:mx.map (oval σ.tmps)=none∨(hi.map (oval σ.tmps)).isSome=true:=by
       rcases hb.2.2.2 with hm|hm
       ·left
        rcases iA hR e4 with⟨rfl,rfl⟩|⟨y',k,n,rfl,h1,rfl⟩
        ·rfl
        ·cases hm
       ·right
        rcases iA hR e3 with⟨rfl,rfl⟩|⟨y',k,n,rfl,h1,rfl⟩
        ·cases hm
        ·rfl
      have hbd:=po (P:=X.C.P) (hint e2 hb.1) (hint e3 hb.2.1) (hint e4 hb.2.2.1) hm w
      have hsz:∃i,X.C.P.info? e=some i:=by
       unfold Program.cellsOf at hz
       cases hi:X.C.P.info? e with
       |none=>rw[hi]at hz;exact absurd rfl hz
       |some i=>exact⟨i,rfl⟩
      obtain⟨i,hi⟩:=hsz
      have hd0:den (.slice none 0 0) = .slice none 0 0:=rfl
      simp only[execOp,ho,h1,hden e2,hden e3,hden e4,hd0,Instr.sliceAt,Instr.slice,Sem.run_bind,run_underlying hu,Result.andThen_ok,hbd,aW hi,Sem.run_pure]
      simp only[SV.val,S0.val,SL.val,hd0]
      simp
    ·cases hq
   ·cases hq
 ·rename_i n e g off lo' hi' mx' hu e1 e2 e3 e4
  obtain⟨h1,_⟩:=hR.sval e1 (by simp)
  simp only[SV.val]at h1
  split at hk
  ·exact absurd hk hA.fail
  ·obtain⟨q,hq,hk1⟩:=hA.opt _ _ hk
   obtain⟨hg,hk2⟩:=hA.chk _ _ hk1
   refine aw hR ha (s:=.st (.leaf (.v q))) (aA hg) ?_ hk2
   have hb:∀ {r:Option Operand} {x:Option Int},optI ev r=some x→cX (r.map (oval σ.tmps))=cX (x.map (.int .i64)):=by
    intro r x hx
    rw[bH hR hx]
    cases x<;>rfl
   have:ch X.C t ⟨g,off,some 1⟩ (lo.map (oval σ.tmps)) (hi.map (oval σ.tmps)) (mx.map (oval σ.tmps)) []=some q:=by
    rw[←hq]
    unfold ch gE
    rw[hb e2,hb e3,hb e4]
   simp only[au,ho,h1,if_true,this,Option.map_some];rfl
 ·exact absurd hk hA.fail
theorem jJ{ag:Bool}{v:Value}{cs:List Value}(h:gF ag v=some cs):mkV ag cs v:=by
 unfold gF at h
 split at h
 ·cases h;exact .inl ⟨rfl,rfl⟩
 ·cases h
 ·cases h
 ·cases h;exact .inr ⟨rfl,rfl⟩
theorem kq(H:List HObj)(id:Nat):mapG (fun i=>H[i]?) id=hmap H id:=rfl
theorem luG_ok{C:Cfg}{t kt et:TypeId}{ag ok:Bool}{z m k:Value}{H:List HObj}{cs:List Value}(hu:C.P.underlying t=some (.map kt et))(hz:dp C.P et=some z)
  (hl:luG C kt ag z m k ok (fun i=>H[i]?)=some cs):∃v b cs0,gF ag v=some cs0∧cs=cs0++(if ok then [.bool b]else [])∧bW C t m k ok H=some (if ok then .tuple #[v,.bool b]else v):=by
 unfold luG at hl
 simp only[ju]at hl
 unfold bW
 rw[hu]
 simp only
 split at hl
 ·cases hl
 ·rename_i hko
  have hko:¬(!dZ C.P kt k)=true:=by
   have:=nb (P:=C.P) (kt:=kt) (k:=k) (by simpa using hko)
   simpa using this
  rw[if_neg hko]
  simp only[hz]
  split at hl
  ·obtain⟨cs0,h1,h2⟩:=Option.map_eq_some_iff.1 hl
   exact⟨z,false,cs0,h1,h2.symm,rfl⟩
  ·rename_i id
   rw[kq]at hl
   split at hl
   ·cases hl
   ·rename_i es c hm
    simp only[hm]
    split at hl
    ·cases hl
    ·rename_i hf
     rw[hf]
     obtain⟨cs0,h1,h2⟩:=Option.map_eq_some_iff.1 hl
     exact⟨z,false,cs0,h1,h2.symm,rfl⟩
    ·rename_i i hf
     rw[hf]
     simp only
     obtain⟨cs0,h1,h2⟩:=Option.map_eq_some_iff.1 hl
     obtain⟨v,h3,h4⟩:=Option.bind_eq_some_iff.1 h1
     exact⟨v,true,cs0,h4,h2.symm,by rw[h3];rfl⟩
  ·cases hl
theorem rH{C:Cfg}{pts:List Nat}{ρ:Operand→Value}{t:TypeId}{m k:Operand}{ok:Bool}(ho:o.op = .lookup t m k ok)(H:List HObj){v:Value}(hv:bW C t (ρ m) (ρ k) ok H=some v) :
  au C pts ρ o=some (.val v)∨∃f,au C pts ρ o=some (.hget f)∧f H=some v:=by
 simp only[au,ho]
 split
 ·rename_i hm
  left
  rw[hm]at hv
  have:bW C t (.map none) (ρ k) ok []=bW C t (.map none) (ρ k) ok H:=rfl
  rw[this,hv];rfl
 ·right
  exact⟨_,rfl,hv⟩
theorem oa(hR:Rp ev σ)(ha:abs h=σ.heap){s:SV}(hs:s.gd){t:TypeId}{m k:Operand}{ok:Bool}(ho:o.op = .lookup t m k ok)
  (hv:bW X.C t (oval σ.tmps m) (oval σ.tmps k) ok σ.heap=some s.val) (hk:holds (setD o.dst s ev h K)):Done X holds abs o σ K:=by
 rcases rH (pts:=X.pts) ho σ.heap hv with h1|⟨f,h1,h2⟩
 ·exact aw hR ha hs h1 hk
 ·exact gH hR ha hs h1 h2 hk
theorem look_ok(hA:AlgOk A X.C Sg X.T holds abs)(hR:Rp ev σ)(ha:abs h=σ.heap){t:TypeId}{m k:Operand}{ok:Bool}{hs:List SK}(ho:o.op = .lookup t m k ok)
  (hk:holds (match X.C.P.underlying t,sval ev m,sval0 ev k with
  |some (.map kt et),.st (.leaf (.v m)),some k=>match dp X.C.P et with
   |some z=>match (generalizing:=false) hs,ok with
    | [sk],false=>A.peek (.fn (luG X.C kt (gy sk) z m k.val false)) h fun cs=>ucS A sk cs fun x r=>A.uc0 r (setD o.dst (.st x) ev h K)
    | [sk,.leaf .b],true=>A.peek (.fn (luG X.C kt (gy sk) z m k.val true)) h fun cs=>ucS A sk cs fun x r=>A.ucB r fun t r=>A.uc0 r (setD o.dst (.tup [x,.leaf (.b t)]) ev h K)
    |_,_=>A.fail
   |none=>A.fail
  |_,_,_=>A.fail)):Done X holds abs o σ K:=by
 split at hk
 ·rename_i kt et mv kv hu e1 e2
  obtain⟨h1,_⟩:=hR.sval e1 (by simp)
  obtain⟨h2,_⟩:=hR.sval0 e2
  simp only[SV.val,S0.val,SL.val]at h1
  split at hk
  ·rename_i z hz
   split at hk
   ·rename_i sk
    obtain⟨cs,hl,hk1⟩:=hA.peek _ _ _ hk
    simp only[Pk.run]at hl
    rw[ha]at hl
    obtain⟨v,b,cs0,q1,q2,q3⟩:=luG_ok hu hz hl
    obtain⟨x,r,r1,r2,r3,hk2⟩:=mp hA hk1
    obtain⟨hr,hk3⟩:=hA.uc0 _ _ hk2
    rw[hr,List.append_nil]at r1
    simp only[Bool.false_eq_true,if_false,List.append_nil]at q2 q3
    have hv:=jJ q1
    rw[←q2,r1]at hv
    refine oa hR ha (s:=.st x) r3 ho ?_ hk3
    rw[h1,h2,q3,←lR r2 hv];rfl
   ·rename_i sk
    obtain⟨cs,hl,hk1⟩:=hA.peek _ _ _ hk
    simp only[Pk.run]at hl
    rw[ha]at hl
    obtain⟨v,b,cs0,q1,q2,q3⟩:=luG_ok hu hz hl
    obtain⟨x,r,r1,r2,r3,hk2⟩:=mp hA hk1
    obtain⟨t',r',r4,hk3⟩:=hA.ucB _ _ hk2
    obtain⟨hr,hk4⟩:=hA.uc0 _ _ hk3
    simp only[if_true]at q2 q3
    rw[r4,hr,q2]at r1
    obtain⟨w1,w2⟩:=List.append_inj' r1 rfl
    simp only[List.cons.injEq,Value.bool.injEq,and_true]at w2
    have hv:=jJ q1
    rw[w1]at hv
    refine oa hR ha (s:=.tup [x,.leaf (.b t')]) ⟨fun y hy=>?_,Nat.le_refl 2⟩ ho ?_ hk4
    ·simp only[List.mem_cons,List.not_mem_nil,or_false]at hy
     rcases hy with rfl|rfl
     ·exact r3
     ·exact aA trivial
    ·rw[h1,h2,q3,←lR r2 hv,w2];rfl
   ·exact absurd hk hA.fail
  ·exact absurd hk hA.fail
 ·exact absurd hk hA.fail
theorem muG_ok{C:Cfg}{t kt et:TypeId}{m k v:Value}{H:List HObj}{n:Nat}{acts:List Act1}{cs:List Value}(hu:C.P.underlying t=some (.map kt et))(hv1:noLoc v=true)(hv2:aT v=false)
  (hl:muG C kt m k v (fun i=>H[i]?) n=some (acts,cs)):bL C t m k v H=some (eV H acts,undef):=by
 unfold muG at hl
 simp only[ju]at hl
 unfold bL
 split at hl
 ·rename_i id
  rw[hu]
  simp only
  split at hl
  ·cases hl
  ·rename_i hko
   have hko:dZ C.P kt k=true:=nb (by simpa using hko)
   rw[if_neg (by simp[hko,hv1,hv2])]
   rw[kq]at hl
   split at hl
   ·cases hl
   ·rename_i es c hm
    simp only[hm]
    split at hl
    ·cases hl
    ·rename_i hf
     rw[hf]
     cases hl;rfl
    ·rename_i i hf
     rw[hf]
     simp only
     split at hl
     ·rename_i hb
      rw[if_pos hb]
      cases hl;rfl
     ·cases hl
 ·cases hl
theorem qz(hA:AlgOk A X.C Sg X.T holds abs)(hR:Rp ev σ)(ha:abs h=σ.heap){t:TypeId}{m k v:Operand}(ho:o.op = .mapUpdate t m k v∨o.op = .insert t m k v)
  (hk:holds (match X.C.P.underlying t,sval ev m,sval0 ev k,sval0 ev v with
  |some (.map kt _),.st (.leaf (.v m)),some k,some v=>A.heap (.fn (muG X.C kt m k.val v.val)) h fun _ h=>setD o.dst .un ev h K
  |_,_,_,_=>A.fail)):Done X holds abs o σ K:=by
 split at hk
 ·rename_i kt et mv kv vv hu e1 e2 e3
  obtain⟨h1,_⟩:=hR.sval e1 (by simp)
  obtain⟨h2,_⟩:=hR.sval0 e2
  obtain⟨h3,g3⟩:=hR.sval0 e3
  simp only[SV.val,S0.val,SL.val]at h1
  obtain⟨acts,cs,h',q1,q2,hk1⟩:=hA.heap _ _ _ hk
  simp only[Hp.run]at q1
  rw[ha]at q1 q2
  refine cM hR q2 (s:=.un) trivial (f:=bL X.C t mv kv.val vv.val) ?_ (muG_ok hu (S0.noLoc g3) (S0.not_tuple g3) q1) hk1
  rcases ho with ho|ho<;>simp only[au,ho,h1,h2,h3]
 ·exact absurd hk hA.fail
theorem meG_ok{C:Cfg}{t kt et:TypeId}{ag:Bool}{z m k:Value}{H:List HObj}{n:Nat}{acts:List Act1}{cs:List Value}(hu:C.P.underlying t=some (.map kt et))(hz:dp C.P et=some z)
  (hl:meG C kt ag z m k (fun i=>H[i]?) n=some (acts,cs)):∃v cs0 c,gF ag v=some cs0∧cs=cs0++[.int .i64 c]∧bK C t m k H=some (eV H acts,.tuple #[v,.int .i64 c]):=by
 unfold meG at hl
 simp only[ju]at hl
 unfold bK
 split at hl
 ·rename_i id
  rw[hu]
  simp only
  split at hl
  ·cases hl
  ·rename_i hko
   have hko:¬(!dZ C.P kt k)=true:=by
    have:=nb (P:=C.P) (kt:=kt) (k:=k) (by simpa using hko)
    simpa using this
   rw[if_neg hko]
   rw[kq]at hl
   split at hl
   ·cases hl
   ·rename_i es c hm
    simp only[hm]
    split at hl
    ·cases hl
    ·rename_i hf
     rw[hf]
     simp only[hz]
     obtain⟨cs0,h1,h2⟩:=Option.map_eq_some_iff.1 hl
     cases h2
     exact⟨z,cs0,_,h1,rfl,rfl⟩
    ·rename_i i hf
     rw[hf]
     simp only
     split at hl
     ·cases hl
     ·rename_i e he
      rw[he]
      simp only
      split at hl
      ·rename_i hb
       rw[if_pos hb]
       obtain⟨cs0,h1,h2⟩:=Option.map_eq_some_iff.1 hl
       cases h2
       exact⟨e.val,cs0,_,h1,rfl,rfl⟩
      ·cases hl
 ·cases hl
theorem mapEn_ok(hA:AlgOk A X.C Sg X.T holds abs)(hR:Rp ev σ)(ha:abs h=σ.heap){t:TypeId}{m k:Operand}{hs:List SK}(ho:o.op = .mapEntry t m k)
  (hk:holds (match X.C.P.underlying t,sval ev m,sval0 ev k with
  |some (.map kt et),.st (.leaf (.v m)),some k=>match dp X.C.P et with
   |some z=>match hs with
    | [sk,.leaf (.i .i64)]=>A.heap (.fn (meG X.C kt (gy sk) z m k.val)) h fun cs h=>ucS A sk cs fun x r=>A.ucI .i64 r fun n r=>A.uc0 r (setD o.dst (.tup [x,.leaf (.i .i64 n)]) ev h K)
    |_=>A.fail
   |none=>A.fail
  |_,_,_=>A.fail)):Done X holds abs o σ K:=by
 split at hk
 ·rename_i kt et mv kv hu e1 e2
  obtain⟨h1,_⟩:=hR.sval e1 (by simp)
  obtain⟨h2,_⟩:=hR.sval0 e2
  simp only[SV.val,S0.val,SL.val]at h1
  split at hk
  ·rename_i z hz
   split at hk
   ·rename_i sk
    obtain⟨acts,cs,h',q1,q2,hk1⟩:=hA.heap _ _ _ hk
    simp only[Hp.run]at q1
    rw[ha]at q1 q2
    obtain⟨v,cs0,c,w1,w2,w3⟩:=meG_ok hu hz q1
    obtain⟨x,r,r1,r2,r3,hk2⟩:=mp hA hk1
    obtain⟨n,r',r4,hk3⟩:=hA.ucI _ _ _ hk2
    obtain⟨hr,hk4⟩:=hA.uc0 _ _ hk3
    rw[r4,hr,w2]at r1
    obtain⟨u1,u2⟩:=List.append_inj' r1 rfl
    simp only[List.cons.injEq,Value.int.injEq,true_and,and_true]at u2
    have hv:=jJ w1
    rw[u1]at hv
    refine cM hR q2 (s:=.tup [x,.leaf (.i .i64 n)]) ⟨fun y hy=>?_,Nat.le_refl 2⟩ (f:=bK X.C t mv kv.val) ?_ ?_ hk4
    ·simp only[List.mem_cons,List.not_mem_nil,or_false]at hy
     rcases hy with rfl|rfl
     ·exact r3
     ·exact aA trivial
    ·simp only[au,ho,h1,h2]
    ·rw[w3,←lR r2 hv,u2];rfl
   ·exact absurd hk hA.fail
  ·exact absurd hk hA.fail
 ·exact absurd hk hA.fail
theorem esG_ok{m v:Value}{b:Int}{k:IntKind}{H:List HObj}{n:Nat}{acts:List Act1}{cs:List Value}(hv1:noLoc v=true)(hv2:aT v=false)
  (hl:esG m b v (fun i=>H[i]?) n=some (acts,cs)):bV m (.int k b) v H=some (eV H acts,undef):=by
 unfold esG at hl
 unfold bV
 split at hl
 ·rename_i id
  simp only[Am.intOf]
  rw[if_neg (by simp[hv1,hv2])]
  rw[kq]at hl
  split at hl
  ·cases hl
  ·rename_i es c hm
   simp only[hm]
   split at hl
   ·rename_i i hf
    rw[hf]
    cases hl;rfl
   ·cases hl
 ·cases hl
theorem entSt_ok(hA:AlgOk A X.C Sg X.T holds abs)(hR:Rp ev σ)(ha:abs h=σ.heap){t:TypeId}{m s v:Operand}(ho:o.op = .entryStore t m s v)
  (hk:holds (match sval ev m,sval ev s,sval0 ev v with
  | .st (.leaf (.v m)),.st (.leaf (.i _ b)),some v=>A.heap (.fn (esG m b v.val)) h fun _ h=>setD o.dst .un ev h K
  |_,_,_=>A.fail)):Done X holds abs o σ K:=by
 split at hk
 ·rename_i mv k b vv e1 e2 e3
  obtain⟨h1,_⟩:=hR.sval e1 (by simp)
  obtain⟨h2,_⟩:=hR.sval e2 (by simp)
  obtain⟨h3,g3⟩:=hR.sval0 e3
  simp only[SV.val,S0.val,SL.val]at h1 h2
  obtain⟨acts,cs,h',q1,q2,hk1⟩:=hA.heap _ _ _ hk
  simp only[Hp.run]at q1
  rw[ha]at q1 q2
  refine cM hR q2 (s:=.un) trivial (f:=bV mv (.int k b) vv.val) ?_ (esG_ok (S0.noLoc g3) (S0.not_tuple g3) q1) hk1
  simp only[au,ho,h1,h2,h3]
 ·exact absurd hk hA.fail
theorem deG_ok{C:Cfg}{t kt et:TypeId}{m k:Value}{H:List HObj}{n:Nat}{acts:List Act1}{cs:List Value}(hu:C.P.underlying t=some (.map kt et))
  (hl:deG C kt m k (fun i=>H[i]?) n=some (acts,cs)):cY C t m k H=some (eV H acts,undef):=by
 unfold deG at hl
 simp only[ju]at hl
 unfold cY
 rw[hu]
 simp only
 split at hl
 ·cases hl
 ·rename_i hko
  have hko:¬(!dZ C.P kt k)=true:=by
   have:=nb (P:=C.P) (kt:=kt) (k:=k) (by simpa using hko)
   simpa using this
  rw[if_neg hko]
  split at hl
  ·cases hl;rfl
  ·rename_i id
   rw[kq]at hl
   split at hl
   ·cases hl
   ·rename_i es c hm
    simp only[hm]
    split at hl
    ·cases hl
    ·rename_i hf
     rw[hf];cases hl;rfl
    ·rename_i i hf
     rw[hf];cases hl;rfl
  ·cases hl
end
end Sx
end Go.Am

/-
 OPERATIONS,seventh part: builtin functions,calls;every operation.
-/
namespace Go.Am
namespace Sx
section
variable [Val] [Kno] {R HT:Type} {A:Alg R HT} {X:Ctxt} {Sg:FuncId→Option Sig} {holds:R→Prop} {abs:HT→List HObj}
variable {ev:Env} {σ:St} {h:HT} {o:Oper} {K:KN R HT}
theorem slG_at(C:Cfg)(esz:Nat)(H:List HObj)(x:Value):slG C esz (fun i=>H[i]?) x=cb C H esz x:=rfl
theorem apG_ok{C:Cfg}{t e:TypeId}{info:TypeInfo}{s x:Value}{H:List HObj}{acts:List Act1}{cs:List Value}(hu:C.P.underlying t=some (.slice e))(hi:C.P.info? e=some info)(h0:¬info.size=0)
  (hz:(hZ info).isNone=false) (hl:apG C info.size info.bytes s x (fun i=>H[i]?) H.length=some (acts,cs)):∃v,cs=[v]∧eh C t s x H=some (eV H acts,v):=by
 unfold apG at hl
 unfold eh
 simp only[hu,hi,if_neg h0,hz,Bool.false_eq_true,if_false]
 rw[slG_at]at hl
 split at hl
 ·cases hl
 ·rename_i new n hc
  simp only[hc]
  split at hl
  ·split at hl
   ·rename_i hn
    simp only[if_pos hn]
    cases hl
    exact⟨_,rfl,rfl⟩
   ·rename_i hn
    simp only[if_neg hn]
    split at hl
    ·rename_i hs
     simp only[if_pos hs]
     cases hl
     exact⟨_,rfl,rfl⟩
    ·cases hl
  ·rename_i a len cx
   split at hl
   ·cases hl
   ·rename_i hsp
    simp only[if_neg hsp]
    split at hl
    ·rename_i vs e' rw' hg
     simp only[hg]
     split at hl
     ·cases hl
     ·rename_i he
      simp only[if_neg he]
      split at hl
      ·cases hl
      ·rename_i old hcut
       simp only[hcut]
       split at hl
       ·split at hl
        ·rename_i hn
         simp only[if_pos hn]
         cases hl
         exact⟨_,rfl,rfl⟩
        ·rename_i hn
         simp only[if_neg hn]
         split at hl
         ·rename_i hb
          simp only[if_pos hb]
          cases hl
          refine⟨_,rfl,?_⟩
          simp[eV,Act1.on]
         ·cases hl
       ·rename_i cap
        split at hl
        ·rename_i hle
         simp only[if_pos hle]
         split at hl
         ·rename_i hrw
          simp only[if_pos hrw]
          obtain⟨vs',q1,q2⟩:=Option.map_eq_some_iff.1 hl
          cases q2
          exact⟨_,rfl,by simp only[q1];rfl⟩
         ·rename_i hrw
          simp only[if_neg hrw]
          split at hl
          ·rename_i hn
           simp only[if_pos hn]
           cases hl
           exact⟨_,rfl,rfl⟩
          ·cases hl
        ·rename_i hle
         simp only[if_neg hle]
         split at hl
         ·rename_i hb
          simp only[if_pos hb]
          cases hl
          exact⟨_,rfl,rfl⟩
         ·cases hl
    ·cases hl
  ·cases hl
theorem cpG_ok{C:Cfg}{t e:TypeId}{d x:Value}{H:List HObj}{n:Nat}{acts:List Act1}{cs:List Value}(hu:C.P.underlying t=some (.slice e))(h0:¬C.P.cellsOf e=0)
  (hl:cpG C (C.P.cellsOf e) d x (fun i=>H[i]?) n=some (acts,cs)):∃v,cs=[v]∧jN C t d x H=some (eV H acts,v):=by
 unfold cpG at hl
 unfold jN
 rw[hu]
 split at hl
 ·simp only[if_neg h0]
  rw[slG_at]at hl
  obtain⟨y,q1,q2⟩:=Option.map_eq_some_iff.1 hl
  cases q2
  exact⟨_,rfl,by simp only[q1];rfl⟩
 ·rename_i a dlen cx
  simp only[if_neg h0]
  split at hl
  ·cases hl
  ·rename_i hsp
   simp only[if_neg hsp]
   rw[slG_at]at hl
   split at hl
   ·rename_i new m vs e' hc hg
    simp only[hc,hg]
    split at hl
    ·cases hl
    ·rename_i he
     simp only[if_neg he]
     obtain⟨y,q1,q2⟩:=Option.map_eq_some_iff.1 hl
     cases q2
     exact⟨_,rfl,by simp only[q1];rfl⟩
   ·cases hl
 ·cases hl
theorem nD(hA:AlgOk A X.C Sg X.T holds abs){dst:Option Tmp}{sk:SK}(hs:gy sk=false){v:Value}(hk:holds (setC A dst sk [v] ev h K)):∃x:S0,x.val=v∧x.good∧holds (setD dst (.st x) ev h K):=
 iL hA (.inr ⟨hs,rfl⟩) hk
theorem rm(hA:AlgOk A X.C Sg X.T holds abs)(hR:Rp ev σ)(ha:abs h=σ.heap){c:Call}{b:Builtin}{xs:List S0}{sk:SK}(ho:o.op = .call c)(hb:c.callee = .builtin b)(hx:svals ev c.args.toList=some xs)
  (hk:holds (jp A X o.dst sk b xs c.argTypes ev h K)):Done X holds abs o σ K:=by
 obtain⟨hv,hg⟩:=hR.svals hx
 have heff:au X.C X.pts (oval σ.tmps) o=aV X.C (oval σ.tmps) b (ao xs) c.argTypes o:=by
  simp only[au,ho,eA,hb,hv]
 have hargs:∀ys:List S0,(∀y∈ys,∀l∈y.cells,l.nv)→ys=xs→c.args.toList.all (fun x=>plain (oval σ.tmps x))=true∧c.args.map (fun x=>den (oval σ.tmps x))=⟨ao xs⟩:=by
  intro ys hy e
  subst e
  have h1:∀v∈c.args.toList.map (oval σ.tmps),plain v=true∧den v=v:=by
   rw[hv]
   intro v hm
   simp only[ao,List.mem_map]at hm
   obtain⟨y,hm,rfl⟩:=hm
   exact ni (hy y hm)
  refine⟨?_,?_⟩
  ·rw[List.all_eq_true]
   intro x hx
   exact(h1 _ (List.mem_map.2 ⟨x,hx,rfl⟩)).1
  ·apply Array.toList_inj.1
   rw[Array.toList_map,←hv]
   exact List.map_congr_left fun x hx=>(h1 _ (List.mem_map.2 ⟨x,hx,rfl⟩)).2
 unfold jp at hk
 split at hk
 ·rename_i s x t ht
  split at hk
  ·rename_i e hu
   split at hk
   ·rename_i info hi
    split at hk
    ·exact absurd hk hA.fail
    ·rename_i hc
     simp only[Bool.or_eq_false_iff]at hc
     obtain⟨⟨⟨c1,c2⟩,c3⟩,c4⟩:=hc
     have c1:¬info.size=0:=fun e=>by rw[e]at c1;cases c1
     obtain⟨acts,cs,h',q1,q2,hk1⟩:=hA.heap _ _ _ hk
     simp only[Hp.run]at q1
     rw[ha]at q1 q2
     obtain⟨v,rfl,q3⟩:=apG_ok hu hi c1 c2 q1
     obtain⟨y,rfl,g,hk2⟩:=nD hA rfl hk1
     refine cM hR q2 (s:=.st y) g (f:=eh X.C t s x) ?_ q3 hk2
     rw[heff]
     simp only[aV,ao,List.map_cons,List.map_nil,S0.val,SL.val,ht]
     refine if_neg fun hcon=>?_
     have hcon:((c.argTypes[1]?.any fun u=>(X.C.P.underlying u) matches some (.int _)|none)||c.argTypes[1]?.isNone)=true:=hcon
     rw[Bool.or_eq_true]at hcon
     rcases hcon with hcon|hcon
     ·exact absurd (hcon.symm.trans c3) (by simp)
     ·exact absurd (hcon.symm.trans c4) (by simp)
   ·exact absurd hk hA.fail
  ·exact absurd hk hA.fail
 ·rename_i x t ht
  split at hk
  ·rename_i e x' hu
   obtain⟨n,hn,hk1⟩:=hA.opt _ _ hk
   unfold lenS at hn
   split at hn
   ·rename_i a m cx
    cases hn
    refine aw hR ha (s:=.st (.leaf (.i .i64 _))) (aA trivial) ?_ hk1
    rw[heff]
    simp only[aV,ao,List.map_cons,List.map_nil,S0.val,SL.val,ht,hu];rfl
   ·cases hn
  ·rename_i kt et x' hu
   obtain⟨cs,hl,hk1⟩:=hA.peek _ _ _ hk
   simp only[Pk.run]at hl
   rw[ha]at hl
   unfold lenM at hl
   split at hl
   ·rename_i id
    split at hl
    ·rename_i es ck hgt
     cases hl
     obtain⟨y,hy,g,hk2⟩:=nD hA rfl hk1
     refine gH hR ha (s:=.st y) g (f:=fun H=>(hmap H id).map fun p=>.int .i64 p.1.length) ?_ ?_ hk2
     ·rw[heff]
      simp only[aV,ao,List.map_cons,List.map_nil,S0.val,SL.val,ht,hu]
     ·simp only[hmap,hgt,Option.map_some,SV.val,hy]
    ·cases hl
   ·cases hl
  ·rename_i n el hu
   refine aw hR ha (s:=.st (.leaf (.i .i64 _))) (aA trivial) ?_ hk
   rw[heff]
   simp only[aV,ao,List.map_cons,List.map_nil,ht,hu];rfl
  ·exact absurd hk hA.fail
 ·rename_i x t ht
  split at hk
  ·rename_i e x' hu
   obtain⟨n,hn,hk1⟩:=hA.opt _ _ hk
   unfold capS at hn
   split at hn
   ·cases hn
    refine aw hR ha (s:=.st (.leaf (.i .i64 _))) (aA trivial) ?_ hk1
    rw[heff]
    simp only[aV,ao,List.map_cons,List.map_nil,S0.val,SL.val,ht,hu];rfl
   ·cases hn
    refine aw hR ha (s:=.st (.leaf (.i .i64 _))) (aA trivial) ?_ hk1
    rw[heff]
    simp only[aV,ao,List.map_cons,List.map_nil,S0.val,SL.val,ht,hu];rfl
   ·cases hn
  ·rename_i n el hu
   refine aw hR ha (s:=.st (.leaf (.i .i64 _))) (aA trivial) ?_ hk
   rw[heff]
   simp only[aV,ao,List.map_cons,List.map_nil,ht,hu];rfl
  ·exact absurd hk hA.fail
 ·rename_i s x t ht
  split at hk
  ·rename_i e hu
   split at hk
   ·exact absurd hk hA.fail
   ·rename_i hz
    have hz:¬X.C.P.cellsOf e=0:=fun e=>by rw[e]at hz;cases hz
    obtain⟨acts,cs,h',q1,q2,hk1⟩:=hA.heap _ _ _ hk
    simp only[Hp.run]at q1
    rw[ha]at q1 q2
    obtain⟨v,rfl,q3⟩:=cpG_ok hu hz q1
    obtain⟨y,rfl,g,hk2⟩:=nD hA rfl hk1
    refine cM hR q2 (s:=.st y) g (f:=jN X.C t s x) ?_ q3 hk2
    rw[heff]
    simp only[aV,ao,List.map_cons,List.map_nil,S0.val,SL.val,ht]
  ·exact absurd hk hA.fail
 ·rename_i m k t ht
  split at hk
  ·rename_i kt et hu
   obtain⟨acts,cs,h',q1,q2,hk1⟩:=hA.heap _ _ _ hk
   simp only[Hp.run]at q1
   rw[ha]at q1 q2
   refine cM hR q2 (s:=.un) trivial (f:=cY X.C t m k.val) ?_ (deG_ok hu q1) hk1
   rw[heff]
   simp only[aV,ao,List.map_cons,List.map_nil,S0.val,SL.val,ht]
  ·exact absurd hk hA.fail
 ·rename_i k a k' b'
  split at hk
  ·rename_i hkk
   have hkk:=dN hkk
   subst hkk
   obtain⟨t,h1,hk1⟩:=hA.cmp _ _ _ _ hk
   have hk2:=hA.sel _ _ _ _ hk1
   simp only[jM,Option.some.injEq]at h1
   subst h1
   obtain⟨p1,p2⟩:=hargs _ (fun y hy l hl=>by
    simp only[List.mem_cons,List.not_mem_nil,or_false]at hy
    rcases hy with rfl|rfl<;>(simp only[S0.cells,List.mem_singleton]at hl;subst hl;trivial)) rfl
   refine ce hR ha (s:=.st (.leaf (.i k _))) (aA trivial) ⟨by rw[ho];rfl,?_,rfl,fun w=>?_⟩ hk2
   ·rw[ho];simp only[Op.operands,Call.operands,hb];simpa using p1
   ·simp only[execOp,ho,resolve,hb,Sem.run_bind,p2]
    simp only[Sem.run_pure,Result.andThen_ok,invoke,builtin,ao,List.map_cons,List.map_nil,S0.val,SL.val,Sem.run_bind]
    rw[show(⟨[Value.int k a,Value.int k b']⟩ : Array Value) = #[Value.int k a,Value.int k b']from rfl,run_min_int2]
    simp[SV.val,S0.val,SL.val,den,den1]
  ·exact absurd hk hA.fail
 ·rename_i k a k' b'
  split at hk
  ·rename_i hkk
   have hkk:=dN hkk
   subst hkk
   obtain⟨t,h1,hk1⟩:=hA.cmp _ _ _ _ hk
   have hk2:=hA.sel _ _ _ _ hk1
   simp only[jM,Option.some.injEq]at h1
   subst h1
   obtain⟨p1,p2⟩:=hargs _ (fun y hy l hl=>by
    simp only[List.mem_cons,List.not_mem_nil,or_false]at hy
    rcases hy with rfl|rfl<;>(simp only[S0.cells,List.mem_singleton]at hl;subst hl;trivial)) rfl
   refine ce hR ha (s:=.st (.leaf (.i k _))) (aA trivial) ⟨by rw[ho];rfl,?_,rfl,fun w=>?_⟩ hk2
   ·rw[ho];simp only[Op.operands,Call.operands,hb];simpa using p1
   ·simp only[execOp,ho,resolve,hb,Sem.run_bind,p2]
    simp only[Sem.run_pure,Result.andThen_ok,invoke,builtin,ao,List.map_cons,List.map_nil,S0.val,SL.val,Sem.run_bind]
    rw[show(⟨[Value.int k a,Value.int k b']⟩ : Array Value) = #[Value.int k a,Value.int k b']from rfl,run_max_int2]
    simp[SV.val,S0.val,SL.val,den,den1]
  ·exact absurd hk hA.fail
 ·exact absurd hk hA.fail
end
end Sx
end Go.Am

/-
 OPERATIONS,last part: calls;every operation;lists of operations.
-/
namespace Go.Am
namespace Sx
section
variable [Val] [Kno] {R HT:Type} {A:Alg R HT} {X:Ctxt} {Sg:FuncId→Option Sig} {holds:R→Prop} {abs:HT→List HObj}
variable {ev:Env} {σ:St} {h:HT} {o:Oper} {K:KN R HT}
theorem lfsOf_one(x:S0):cj [x]=x.cells.map SL.lf:=by simp[cj]
theorem pW(hA:AlgOk A X.C Sg X.T holds abs)(hR:Rp ev σ){sks:List SK}{rs:List Lf}{ys:List S0}(hy:Told sks rs ys){H':List HObj}(ha:abs h=H')
  (hst:StepO X.C X.pts o σ (({ σ with heap:=H' }:St).put o.dst (eq (ao ys)))) (hk:holds (setR A o.dst sks rs ev h K)):Done X holds abs o σ K:=by
 obtain⟨y1,rfl,y3⟩:=hy
 unfold setR at hk
 split at hk
 ·rename_i sk
  obtain⟨x,r,e1,e2,hk1⟩:=unS_ok hA hk
  obtain⟨hr,hk2⟩:=hA.un0 _ _ hk1
  rw[hr,List.append_nil]at e1
  match ys,y1 with
  | [y],y1=>
   simp only[bX,Bool.and_true]at y1
   rw[lfsOf_one]at e1
   obtain⟨v1,v2⟩:=S0.is_val y1 e2 e1
   refine cL hR H' ha (s:=.st x) (v2 (y3 y (by simp))) ?_ hk2
   rw[show(SV.st x).val=eq (ao [y])from by simp[SV.val,ao,eq,v1]]
   exact hst
  | [],y1=>cases y1
  |_ :: _ :: _,y1=>simp[bX]at y1
 ·obtain⟨hr,hk1⟩:=hA.un0 _ _ hk
  match ys,y1 with
  | [],_=>exact cL hR H' ha (s:=.un) trivial hst hk1
  |_ :: _,y1=>cases y1
 ·rename_i h1 h2
  obtain⟨xs,r,e1,e2,hk1⟩:=kV hA hk
  obtain⟨hr,hk2⟩:=hA.un0 _ _ hk1
  rw[hr,List.append_nil]at e1
  obtain⟨v1,v2⟩:=dh y1 e2 e1
  have hlen:2≤xs.length:=by
   match xs,e2 with
   | [],e2=>cases sks with
    |nil=>exact absurd rfl h2
    |cons _ _=>cases e2
   | [x],e2=>cases sks with
    |nil=>exact absurd rfl h2
    |cons a l=>cases l with
     |nil=>exact absurd rfl (h1 _)
     |cons _ _=>simp[bX]at e2
   |_ :: _ :: _,_=>simp
  refine cL hR H' ha (s:=.tup xs) ⟨v2 y3,hlen⟩ ?_ hk2
  have:(SV.tup xs).val=eq (ao ys):=by
   rw[v1]
   match xs,hlen with
   |a :: b :: l,_=>rfl
  rw[this]
  exact hst
theorem all_noLoc{xs:List S0}(hg:∀x∈xs,x.good):(ao xs).all noLoc=true:=by
 simp only[ao,List.all_eq_true,List.mem_map]
 rintro _ ⟨x,hx,rfl⟩
 exact S0.noLoc (hg x hx)
theorem call_ok(hA:AlgOk A X.C Sg X.T holds abs)(hR:Rp ev σ)(ha:abs h=σ.heap){c:Call}{hs:List SK}(ho:o.op = .call c)
  (hk:holds (match svals ev c.args.toList with
  |some xs=>match c.callee with
   | .builtin b=>jp A X o.dst (jl hs) b xs c.argTypes ev h K
   | .value f=>match sval ev f with
    | .st (.leaf (.v v))=>match f with
     | .func g=>match Sg g with
      |some sg=>match bX xs sg.ps with
       |true=>A.call g (cj xs) h fun rs h=>setR A o.dst sg.rs rs ev h K
       |false=>A.fail
      |none=>A.fail
     |_=>A.callv v (ao xs) hs h fun rs h=>setR A o.dst hs rs ev h K
    |_=>A.fail
   |_=>A.fail
  |none=>A.fail)):Done X holds abs o σ K:=by
 split at hk
 ·rename_i xs hx
  obtain⟨hv,hg⟩:=hR.svals hx
  have hnl:=all_noLoc hg
  split at hk
  ·rename_i b hb
   exact rm hA hR ha ho hb hx hk
  ·rename_i f hc
   split at hk
   ·rename_i v hf
    obtain⟨h1,g1⟩:=hR.sval hf (by simp)
    simp only[SV.val,S0.val,SL.val]at h1
    have gv:cN v=true:=g1 (.v v) (by simp[S0.cells])
    have heff:∀ {g:FuncId} {first cap:Array Value},v = .func (.func g) first cap→au X.C X.pts (oval σ.tmps) o=some (.call g (first.toList++ao xs++cap.toList)):=by
     intro g first cap e
     subst e
     simp only[au,ho,eA,hc,hv,hnl,h1,(dj.1 gv).1,Bool.not_true,Bool.false_eq_true,if_false,if_true]
    split at hk
    ·rename_i g
     have e:v = .func (.func g) #[] #[]:=by
      have:=h1
      simp only[oval]at this
      exact this.symm
     split at hk
     ·rename_i sg hsg
      split at hk
      ·rename_i hps
       obtain⟨rs,h',⟨sg',xs',ys,c1,⟨c2,c3,c4⟩,c5,c6⟩,hk1⟩:=hA.call _ _ _ _ hk
       rw[hsg]at c1
       cases c1
       obtain⟨v1,_⟩:=dh hps c2 c3.symm
       rw[ha]at c6
       refine pW hA hR c5 rfl (.inl ⟨_,heff e,eq (ao ys),abs h',?_,rfl⟩) hk1
       rw[v1]
       show fS X.C g _ _ _ _
       simpa using c6
      ·exact absurd hk hA.fail
     ·exact absurd hk hA.fail
    ·obtain⟨rs,h',⟨ys,c1,c2⟩,hk1⟩:=hA.callv _ _ _ _ _ hk
     rw[ha]at c2
     rcases c2 with⟨g,first,cap,e,c2⟩|⟨l,e,c2⟩
     ·exact pW hA hR c1 rfl (.inl ⟨_,heff e,eq (ao ys),abs h',c2,rfl⟩) hk1
     ·have heff2:au X.C X.pts (oval σ.tmps) o=some (.yield l (ao xs)):=by
       subst e
       simp only[au,ho,eA,hc,hv,hnl,h1,Bool.not_true,Bool.false_eq_true,if_false]
       rfl
      exact pW hA hR c1 rfl (.inl ⟨_,heff2,eq (ao ys),abs h',c2,rfl⟩) hk1
   ·exact absurd hk hA.fail
  ·exact absurd hk hA.fail
 ·exact absurd hk hA.fail
theorem opE_ok(hA:AlgOk A X.C Sg X.T holds abs)(hR:Rp ev σ)(ha:abs h=σ.heap){hs:List SK}(hk:holds (opE A X Sg o hs ev h K)):Done X holds abs o σ K:=by
 unfold opE at hk
 split at hk
 ·rename_i x ho
  split at hk
  ·exact absurd hk hA.fail
  ·rename_i hn;exact move_ok hR ha (.inl ho) rfl (fun e=>hn e) hk
 ·rename_i x ho
  split at hk
  ·exact absurd hk hA.fail
  ·rename_i hn;exact move_ok hR ha (.inr ho) rfl (fun e=>hn e) hk
 ·rename_i c a b ho;exact pick_ok hA hR ha ho hk
 ·rename_i t ho
  split at hk
  ·rename_i x hx
   obtain⟨z,h1,h2,h3⟩:=ri hx
   exact newV_ok hA hR ha h3 (by simp only[au,ho,h1,Option.bind_some,h2]) (.inr ho) hk
  ·exact absurd hk hA.fail
 ·rename_i t y ho
  split at hk
  ·rename_i x hx
   obtain⟨h1,h2⟩:=hR.sval hx (by simp)
   exact newV_ok hA hR ha h2 (by simp only[au,ho,h1];rfl) (.inl ⟨y,ho⟩) hk
  ·exact absurd hk hA.fail
 ·rename_i t ps ho;exact build_ok hA hR ha ho hk
 ·rename_i t n ps ho;exact mB hA hR ha ho hk
 ·rename_i t a ho
  split at hk
  ·rename_i agg hag
   split at hk
   ·rename_i hb;exact load_ok hA hR ha ho hag (eqB_eq hb) hk
   ·exact absurd hk hA.fail
  ·exact absurd hk hA.fail
 ·rename_i t a y ho
  split at hk
  ·rename_i x hx;exact store_ok hA hR ha ho hx hk
  ·exact absurd hk hA.fail
 ·rename_i x ho;exact pG hA hR ha ho hk
 ·rename_i op t x y yt ho
  split at hk
  ·rename_i a b e1 e2;exact bin_ok hA hR ha ho e1 e2 hk
  ·exact absurd hk hA.fail
 ·rename_i op t x ho;exact un_ok hA hR ha ho hk
 ·rename_i sT dT x ho;exact conv_ok hA hR ha ho hk
 ·rename_i fn first cap ho;exact pF hA hR ha ho hk
 ·rename_i t r ho;exact iw hA hR ha ho hk
 ·rename_i t l c ho;exact oF hA hR ha ho hk
 ·rename_i t x lo hi mx ho;exact sliceE_ok hA hR ha ho hk
 ·rename_i t x f ho;exact ol hA hR ha ho hk
 ·rename_i t x i ho;exact ox hA hR ha ho hk
 ·rename_i t x f ho;exact field_ok hA hR ha ho hk
 ·rename_i t x i ho;exact index_ok hA hR ha ho hk
 ·rename_i t m k ok ho;exact look_ok hA hR ha ho hk
 ·rename_i t m k v ho;exact qz hA hR ha (.inl ho) hk
 ·rename_i t m k v ho;exact qz hA hR ha (.inr ho) hk
 ·rename_i t m k ho;exact mapEn_ok hA hR ha ho hk
 ·rename_i t m s v ho;exact entSt_ok hA hR ha ho hk
 ·rename_i t i ho;exact ry hA hR ha ho hk
 ·rename_i c ho;exact call_ok hA hR ha ho hk
 ·exact absurd hk hA.fail
def DoneI(X:Ctxt)(holds:R→Prop)(abs:HT→List HObj)(ops:Array Oper)(i:Nat)(o:Oper)(σ:St)(K:KN R HT):Prop:=
 ∃σ' ev' h',av X.C (uB X.C) X.pts ops i σ σ'∧Rp ev' σ'∧abs h'=σ'.heap∧Fr o.dst.toList (oJ X.pts o).toList (gq X.pts o).toList σ σ'∧holds (K ev' h')
theorem rp_guard(hR:Rp ev σ){d:Nat}{t:Bool}(hd:ev.tm.getD d .no = .st (.leaf (.b t))):Rp ⟨ev.tm.set d (.st (.leaf (.l t))),ev.lc⟩ σ:=by
 obtain⟨h1,_⟩:=hR.at hd (by simp)
 refine⟨by simp[hR.len],fun i x hx=>?_,hR.llen,hR.row⟩
 simp only[List.getElem?_set]at hx
 split at hx
 ·rename_i hi
  subst hi
  split at hx
  ·cases hx;exact⟨h1,aA trivial⟩
  ·cases hx
 ·exact hR.val i x hx
theorem opG_ok(hA:AlgOk A X.C Sg X.T holds abs)(hR:Rp ev σ)(ha:abs h=σ.heap){ops:Array Oper}{i:Nat}{hs:List SK}(hi:ops[i]? = some o)(hk:holds (opG A X Sg ops o hs ev h K)):DoneI X holds abs ops i o σ K:=by
 have wanted:∀ {ev:Env},Rp ev σ→bF ops σ.tmps o=some true→holds (opE A X Sg o hs ev h K)→DoneI X holds abs ops i o σ K:=by
  intro ev hR hw hk
  obtain⟨σ',ev',h',q1,q2,q3,q4,q5⟩:=opE_ok hA hR ha hk
  exact⟨σ',ev',h',by unfold av;simp only[hi,hw];exact q1,q2,q3,q4,q5⟩
 have unwanted:∀ {ev:Env},Rp ev σ→bF ops σ.tmps o=some false→holds (setD o.dst .un ev h K)→DoneI X holds abs ops i o σ K:=by
  intro ev hR hw hk
  obtain⟨ev',h1,h2⟩:=pV hR (s:=.un) trivial hk
  refine⟨σ.put o.dst undef,ev',h,by unfold av;simp only[hi,hw],h1,?_,.put _ _ _ _,h2⟩
  rw[ha];cases o.dst<;>rfl
 unfold opG at hk
 split at hk
 ·rename_i hg
  exact wanted hR (by simp only[bF,hg]) hk
 ·rename_i j want hg
  split at hk
  ·rename_i d hd
   split at hk
   ·rename_i b hb
    obtain⟨h1,_⟩:=hR.at hb (by simp)
    have hw:bF ops σ.tmps o=some (b==want):=by
     simp only[bF,hg,hd,Option.bind_some,h1];rfl
    split at hk
    ·rename_i e;exact wanted hR (by rw[hw,e]) hk
    ·rename_i e;exact unwanted hR (by rw[hw,e]) hk
   ·rename_i hb
    obtain⟨h1,_⟩:=hR.at hb (by simp)
    have hw:bF ops σ.tmps o=some false:=by
     simp only[bF,hg,hd,Option.bind_some,h1];rfl
    exact unwanted hR hw hk
   ·rename_i t hb
    obtain⟨h1,_⟩:=hR.at hb (by simp)
    have hw:bF ops σ.tmps o=some (t==want):=by
     simp only[bF,hg,hd,Option.bind_some,h1];rfl
    have hR':=rp_guard hR hb
    split at hk
    ·rcases hA.cond _ _ _ hk with⟨ht,hk1⟩|⟨ht,hk1⟩
     ·rw[setK_eq]at hk1
      subst ht
      exact wanted hR' hw hk1
     ·rw[setK_eq]at hk1
      subst ht
      exact unwanted hR' hw hk1
    ·rcases hA.cond _ _ _ hk with⟨ht,hk1⟩|⟨ht,hk1⟩
     ·rw[setK_eq]at hk1
      subst ht
      exact unwanted hR' hw hk1
     ·rw[setK_eq]at hk1
      subst ht
      exact wanted hR' hw hk1
   ·exact absurd hk hA.fail
  ·exact absurd hk hA.fail
noncomputable def wsOf(l:List Oper):List Nat:=l.filterMap (·.dst)
noncomputable def ksOf(pts:List Nat)(l:List Oper):List Nat:=l.filterMap (oJ pts)
noncomputable def rsOf(pts:List Nat)(l:List Oper):List Nat:=l.filterMap (gq pts)
theorem cy{f:Oper→Option Nat}{o:Oper}{l:List Oper}(ho:o∈l):∀i∈(f o).toList,i∈l.filterMap f:=by
 intro i hi
 rw[List.mem_filterMap]
 exact⟨o,ho,by simpa using hi⟩
theorem opsE_ok(hA:AlgOk A X.C Sg X.T holds abs){ops:Array Oper}:∀(l:List Oper) (i:Nat) (hs:List (List SK)) (ev:Env) (h:HT) (σ:St),ops.toList.drop i=l→Rp ev σ→abs h=σ.heap→holds (opsE A X Sg ops l hs ev h K)→
  ∃σ' ev' h',cf X.C (uB X.C) X.pts ops (List.range' i l.length) σ σ'∧Rp ev' σ'∧abs h'=σ'.heap∧Fr (wsOf l) (ksOf X.pts l) (rsOf X.pts l) σ σ'∧holds (K ev' h')
 | [],i,hs,ev,h,σ,_,hR,ha,hk=>⟨σ,ev,h,rfl,hR,ha,.refl _ _ _ _,hk⟩
 |o :: l,i,hs,ev,h,σ,hl,hR,ha,hk=>by
  have hi:ops[i]? = some o:=by
   have:(ops.toList.drop i)[0]? = some o:=by rw[hl];rfl
   simpa using this
  obtain⟨σ₁,ev₁,h₁,q1,q2,q3,q4,q5⟩:=opG_ok (K:=fun ev h=>opsE A X Sg ops l hs.tail ev h K) hA hR ha hi hk
  have hl':ops.toList.drop (i+1)=l:=by
   rw[←List.drop_drop,hl];rfl
  obtain⟨σ',ev',h',p1,p2,p3,p4,p5⟩:=opsE_ok hA l (i+1) hs.tail ev₁ h₁ σ₁ hl' q2 q3 q5
  refine⟨σ',ev',h',⟨σ₁,q1,p1⟩,p2,p3,?_,p5⟩
  have f1:Fr (wsOf (o :: l)) (ksOf X.pts (o :: l)) (rsOf X.pts (o :: l)) σ σ₁:=q4.mono (cy (by simp)) (cy (by simp)) (cy (by simp))
  have sub:∀(f:Oper→Option Nat) (i:Nat),i∈l.filterMap f→i∈(o :: l).filterMap f:=by
   intro f i hi
   rw[List.mem_filterMap]at hi ⊢
   obtain⟨x,hx,e⟩:=hi
   exact⟨x,by simp[hx],e⟩
  exact f1.trans (p4.mono (sub _) (sub _) (sub _))
end
end Sx
end Go.Am

/-
 CODE: what the algebra says of it,the abstract machine does.
-/
namespace Go.Am
namespace Sx
section
variable [Val] [Kno] {R HT:Type} {A:Alg R HT} {X:Ctxt} {Sg:FuncId→Option Sig} {holds:R→Prop} {abs:HT→List HObj}
theorem clrT_eq(ws ks:List Nat):∀(l:List SV) (i:Nat) (K:List SV→R),∃l',clrT ws ks l i K=K l'∧l'.length=l.length∧
  ∀(j:Nat) s,l'[j]? = some s→s = .no∨(l[j]? = some s∧¬ws.contains (i+j)=true∧s.inRows ks=false)
 | [],i,K=>⟨[],rfl,rfl,fun j s h=>by simp at h⟩
 |x :: l,i,K=>by
  obtain⟨l',h1,h2,h3⟩:=clrT_eq ws ks l (i+1) fun l=>match ws.contains i||x.inRows ks with
   |true=>K (.no :: l)
   |false=>K (x :: l)
  have hr:∀(j:Nat) s,l'[j]? = some s→s = .no∨((x :: l)[j+1]? = some s∧¬ws.contains (i+(j+1))=true∧s.inRows ks=false):=by
   intro j s hs
   have:=h3 j s hs
   rw[show i+1+j=i+(j+1)by omega]at this
   simpa using this
  have h1':clrT ws ks (x :: l) i K=(match ws.contains i||x.inRows ks with
   |true=>K (.no :: l')
   |false=>K (x :: l')):=h1
  cases hc:ws.contains i||x.inRows ks with
  |true=>
   refine⟨.no :: l',by rw[h1',hc],by simp[h2],fun j s hs=>?_⟩
   cases j with
   |zero=>simp at hs;exact .inl hs.symm
   |succ j=>exact hr j s (by simpa using hs)
  |false=>
   simp only[Bool.or_eq_false_iff]at hc
   refine⟨x :: l',by rw[h1'];simp only[hc,Bool.or_self],by simp[h2],fun j s hs=>?_⟩
   cases j with
   |zero=>
    simp at hs
    subst hs
    exact .inr ⟨rfl,by rw[Nat.add_zero,hc.1];exact Bool.false_ne_true,hc.2⟩
   |succ j=>exact hr j s (by simpa using hs)
def ns(r r0:LR):Prop:=r = .unk∨(∃n,r = .any n∧(r0 = .any n∨∃cs,r0 = .row cs∧cs.length=n))
theorem clrR_eq(ws ks:List Nat)(nw:LR):∀(l:List LR) (i:Nat) (K:List LR→R),∃l',clrR ws ks nw l i K=K l'∧l'.length=l.length∧
  ∀(j:Nat) r,l'[j]? = some r→(ks.contains (i+j)=true∧r=nw)∨(ks.contains (i+j)=false∧ws.contains (i+j)=true∧∃r0,l[j]? = some r0∧ns r r0)∨
   (ks.contains (i+j)=false∧ws.contains (i+j)=false∧l[j]? = some r)
 | [],i,K=>⟨[],rfl,rfl,fun j s h=>by simp at h⟩
 |x :: l,i,K=>by
  obtain⟨l',h1,h2,h3⟩:=clrR_eq ws ks nw l (i+1) fun l=>match ks.contains i,ws.contains i with
   |true,_=>K (nw :: l)
   |false,true=>(match x with
    | .row cs=>mV cs.length fun n=>K (.any n :: l)
    | .any n=>K (.any n :: l)
    |_=>K (.unk :: l))
   |false,false=>K (x :: l)
  have hr:∀(j:Nat) r,l'[j]? = some r→(ks.contains (i+(j+1))=true∧r=nw)∨(ks.contains (i+(j+1))=false∧ws.contains (i+(j+1))=true∧∃r0,(x :: l)[j+1]? = some r0∧ns r r0)∨
   (ks.contains (i+(j+1))=false∧ws.contains (i+(j+1))=false∧(x :: l)[j+1]? = some r):=by
   intro j s hs
   have:=h3 j s hs
   rw[show i+1+j=i+(j+1)by omega]at this
   simpa using this
  have fin:∀y:LR,clrR ws ks nw (x :: l) i K=K (y :: l')→((ks.contains i=true∧y=nw)∨(ks.contains i=false∧ws.contains i=true∧ns y x)∨(ks.contains i=false∧ws.contains i=false∧y=x))→
    ∃l',clrR ws ks nw (x :: l) i K=K l'∧l'.length=(x :: l).length∧∀(j:Nat) r,l'[j]? = some r→(ks.contains (i+j)=true∧r=nw)∨(ks.contains (i+j)=false∧ws.contains (i+j)=true∧∃r0,(x :: l)[j]? = some r0∧ns r r0)∨
     (ks.contains (i+j)=false∧ws.contains (i+j)=false∧(x :: l)[j]? = some r):=by
   intro y hy hc
   refine⟨y :: l',hy,by simp[h2],fun j r hs=>?_⟩
   cases j with
   |zero=>
    simp at hs
    subst hs
    rcases hc with hc|⟨a,b,c⟩|⟨a,b,c⟩
    ·exact .inl hc
    ·exact .inr (.inl ⟨a,b,x,rfl,c⟩)
    ·exact .inr (.inr ⟨a,b,by rw[c];rfl⟩)
   |succ j=>exact hr j r (by simpa using hs)
  cases hk:ks.contains i with
  |true=>exact fin nw (by show _=_;refine h1.trans ?_;simp only[hk]) (.inl ⟨hk,rfl⟩)
  |false=>
   cases hw:ws.contains i with
   |false=>exact fin x (by refine h1.trans ?_;simp only[hk,hw]) (.inr (.inr ⟨hk,hw,rfl⟩))
   |true=>
    cases x with
    |row cs=>exact fin (.any cs.length) (by refine h1.trans ?_;simp only[hk,hw,pz]) (.inr (.inl ⟨hk,hw,.inr ⟨_,rfl,.inr ⟨cs,rfl,rfl⟩⟩⟩))
    |any n=>exact fin (.any n) (by refine h1.trans ?_;simp only[hk,hw]) (.inr (.inl ⟨hk,hw,.inr ⟨_,rfl,.inl rfl⟩⟩))
    |unk=>exact fin .unk (by refine h1.trans ?_;simp only[hk,hw]) (.inr (.inl ⟨hk,hw,.inl rfl⟩))
    |nil=>exact fin .unk (by refine h1.trans ?_;simp only[hk,hw]) (.inr (.inl ⟨hk,hw,.inl rfl⟩))
theorem upT_ok{C:Cfg}{T:Nat→Site}(hA:AlgOk A C Sg T holds abs):∀(lv:List (Nat×SK)) (xs:List S0) (tm:List SV) (K:List SV→R),holds (upT A lv xs tm K)→bX xs (lv.map (·.2))=true→
  ∃tm',holds (K tm')∧tm'.length=tm.length∧∀(j:Nat) s,tm'[j]? = some s→tm[j]? = some s∨∃sk x,(j,sk)∈lv∧s = .st x∧((j,sk),x)∈lv.zip xs
 | [],xs,tm,K,hk,_=>⟨tm,hk,rfl,fun j s hs=>.inl hs⟩
 |p :: lv,[],tm,K,hk,h=>by cases h
 |p :: lv,x :: xs,tm,K,hk,h=>by
  simp only[List.map_cons,bX,Bool.and_eq_true]at h
  have hk':holds (setK (.st x) tm p.1 fun tm=>upT A lv xs tm K):=hk
  rw[setK_eq]at hk'
  obtain⟨tm',h1,h2,h3⟩:=upT_ok hA lv xs _ K hk' h.2
  refine⟨tm',h1,by rw[h2];simp,fun j s hs=>?_⟩
  rcases h3 j s hs with h4|⟨sk,y,h4,h5,h6⟩
  ·simp only[List.getElem?_set]at h4
   split at h4
   ·rename_i hj
    split at h4
    ·cases h4
     subst hj
     exact .inr ⟨p.2,x,by simp,rfl,by simp⟩
    ·cases h4
   ·exact .inl h4
  ·exact .inr ⟨sk,y,by simp[h4],h5,by simp[h6]⟩
theorem upR_ok{C:Cfg}{T:Nat→Site}(hA:AlgOk A C Sg T holds abs):∀(lv:List (Nat×List LK)) (ls:List Lf) (lc:List LR) (K:List LR→List Lf→R),holds (upR A lv ls lc K)→
  ∃(lc':List LR) (r:List Lf) (css:List (List SL)),holds (K lc' r)∧ls=(css.map (·.map SL.lf)).flatten++r∧css.length=lv.length∧(∀(i:Nat) p cs,lv[i]? = some p→css[i]? = some cs→aO cs p.2=true)∧lc'.length=lc.length∧
   ∀(j:Nat) s,lc'[j]? = some s→lc[j]? = some s∨∃(i:Nat) (ks:List LK) (cs:List SL),lv[i]? = some (j,ks)∧css[i]? = some cs∧s = .row cs
 | [],ls,lc,K,hk=>⟨lc,ls,[],hk,rfl,rfl,fun _ _ _ h=>by simp at h,rfl,fun j s hs=>.inl hs⟩
 |p :: lv,ls,lc,K,hk=>by
  have hk':holds (unL A p.2 ls fun cs r=>setK (.row cs) lc p.1 fun lc=>upR A lv r lc K):=hk
  obtain⟨cs,r,e1,e2,hk1⟩:=mq hA hk'
  rw[setK_eq]at hk1
  obtain⟨lc',r',css,h1,h2,h3,h4,h5,h6⟩:=upR_ok hA lv r _ K hk1
  refine⟨lc',r',cs :: css,h1,by rw[e1,h2];simp,by simp[h3],fun i q ds hq hd=>?_,by rw[h5];simp,fun j s hs=>?_⟩
  ·cases i with
   |zero=>simp at hq hd;subst hq;subst hd;exact e2
   |succ i=>exact h4 i q ds (by simpa using hq) (by simpa using hd)
  ·rcases h6 j s hs with h7|⟨i,ks,ds,h7,h8,h9⟩
   ·simp only[List.getElem?_set]at h7
    split at h7
    ·rename_i hj
     split at h7
     ·cases h7
      subst hj
      exact .inr ⟨0,p.2,cs,rfl,rfl,rfl⟩
     ·cases h7
    ·exact .inl h7
   ·exact .inr ⟨i+1,ks,ds,by simpa using h7,by simpa using h8,h9⟩
theorem pkT_ok{ev:Env}{σ:St}(hR:Rp ev σ):∀ {lv:List (Nat×SK)} {ls:List Lf},pkT ev.tm lv=some ls→
  ∃xs,cj xs=ls∧bX xs (lv.map (·.2))=true∧(∀x∈xs,x.good)∧∀p∈lv.zip xs,σ.tmps[p.1.1]? = some p.2.val
 | [],ls,h=>by cases h;exact⟨[],rfl,rfl,by simp,by simp⟩
 |(t,sk) :: lv,ls,h=>by
  simp only[pkT]at h
  split at h
  ·rename_i x ls' hx hl
   split at h
   ·rename_i his
    cases h
    obtain⟨xs,h1,h2,h3,h4⟩:=pkT_ok hR hl
    obtain⟨g1,g2⟩:=hR.at hx (by simp)
    refine⟨x :: xs,by simp[cj,h1],by simp[bX,his,h2],List.forall_mem_cons.2 ⟨g2,h3⟩,fun p hp=>?_⟩
    simp only[List.zip_cons_cons,List.mem_cons]at hp
    rcases hp with rfl|hp
    ·exact g1
    ·exact h4 p hp
   ·cases h
  ·cases h
theorem pkR_ok{ev:Env}{σ:St}(hR:Rp ev σ):∀ {lv:List (Nat×List LK)} {ls:List Lf},pkR ev.lc lv=some ls→
  ∃css:List (List SL),(css.map (·.map SL.lf)).flatten=ls∧css.length=lv.length∧(∀(i:Nat) p cs,lv[i]? = some p→css[i]? = some cs→aO cs p.2=true∧(∀c∈cs,c.good)∧σ.loc[p.1]? = some (some (cs.map SL.val)))
 | [],ls,h=>by cases h;exact⟨[],rfl,rfl,fun _ _ _ h=>by simp at h⟩
 |(s,ks) :: lv,ls,h=>by
  simp only[pkR]at h
  split at h
  ·rename_i cs ls' hx hl
   split at h
   ·rename_i his
    cases h
    obtain⟨css,h1,h2,h3⟩:=pkR_ok hR hl
    have hr:nr ev s=some cs:=by unfold nr;rw[hx]
    obtain⟨g1,g2,_⟩:=gZ hR hr
    refine⟨cs :: css,by simp[h1],by simp[h2],fun i p ds hp hd=>?_⟩
    cases i with
    |zero=>simp at hp hd;subst hp;subst hd;exact⟨his,g2,g1⟩
    |succ i=>exact h3 i p ds (by simpa using hp) (by simpa using hd)
   ·cases h
  ·cases h
theorem css_eq:∀ {lv:List (Nat×List LK)} {a b:List (List SL)} {r:List Lf},a.length=lv.length→b.length=lv.length→
  (∀(i:Nat) p cs,lv[i]? = some p→a[i]? = some cs→aO cs p.2=true)→(∀(i:Nat) p cs,lv[i]? = some p→b[i]? = some cs→aO cs p.2=true)→
  (a.map (·.map SL.lf)).flatten=(b.map (·.map SL.lf)).flatten++r→r=[]∧∀(i:Nat) x y,a[i]? = some x→b[i]? = some y→x.map SL.lf=y.map SL.lf
 | [],a,b,r,la,lb,_,_,h=>by
  have la:a=[]:=by simpa using la
  have lb:b=[]:=by simpa using lb
  subst la;subst lb
  simp at h
  exact⟨h,fun i x y hx=>by simp at hx⟩
 |p :: lv,a,b,r,la,lb,ha,hb,h=>by
  cases a with
  |nil=>simp at la
  |cons x a=>cases b with
   |nil=>simp at lb
   |cons y b=>
    simp only[List.map_cons,List.flatten_cons,List.append_assoc]at h
    have h1:=bq (ha 0 p x rfl rfl)
    have h2:=bq (hb 0 p y rfl rfl)
    obtain⟨e1,e2⟩:=List.append_inj h (by simp[h1,h2])
    obtain⟨f1,f2⟩:=css_eq (lv:=lv) (by simpa using la) (by simpa using lb) (fun i q cs hq hc=>ha (i+1) q cs (by simpa using hq) (by simpa using hc))
     (fun i q cs hq hc=>hb (i+1) q cs (by simpa using hq) (by simpa using hc)) e2
    refine⟨f1,fun i u v hu hv=>?_⟩
    cases i with
    |zero=>simp at hu hv;subst hu;subst hv;exact e1
    |succ i=>exact f2 i u v (by simpa using hu) (by simpa using hv)
theorem rJ{α β:Type}{l:List α}{m:List β}{p:α×β}(h:p∈l.zip m):∃i:Nat,l[i]? = some p.1∧m[i]? = some p.2:=by
 obtain⟨i,hi⟩:=List.getElem?_of_mem h
 rw[List.getElem?_zip_eq_some]at hi
 exact⟨i,hi⟩
theorem lN:∀ {a b:List S0} {sks:List SK},bX a sks=true→bX b sks=true→(cj a).length=(cj b).length
 | [],[],[],_,_=>rfl
 |x :: a,y :: b,k :: sks,ha,hb=>by
  simp only[bX,Bool.and_eq_true]at ha hb
  obtain⟨n,n1,n2⟩:=S0.is_len ha.1
  simp only[cj,List.length_append,List.length_map,n1,n2 y hb.1,lN ha.2 hb.2]
 | [],_ :: _,[],_,hb=>by cases hb
 | [],_,_ :: _,ha,_=>by cases ha
 |_ :: _,_,[],ha,_=>by cases ha
 |_ :: _,[],_ :: _,_,hb=>by cases hb
structure Like(ks:List Nat)(nw:LR)(σ' τ:St):Prop where
 tlen:τ.tmps.length=σ'.tmps.length
 llen:τ.loc.length=σ'.loc.length
 tm:∀(i:Nat) v,σ'.tmps[i]? = some v→noLoc v=true→τ.tmps[i]? = some v
 tp:∀(i s off:Nat),σ'.tmps[i]? = some (.pointer (some ⟨s,off,some 0⟩))→s∉ks→τ.tmps[i]? = some (.pointer (some ⟨s,off,some 0⟩))
 row:∀(s:Nat) x,σ'.loc[s]? = some x→s∉ks→τ.loc[s]? = some x
 new:∀s,s∈ks→s<τ.loc.length→nw.ok τ.loc s
theorem Like.refl(ks:List Nat)(σ:St):Like ks .unk σ σ:=⟨rfl,rfl,fun _ _ h _=>h,fun _ _ _ h _=>h,fun _ _ h _=>h,fun _ _ _=>trivial⟩
theorem reE_ok{C:Cfg}{T:Nat→Site}(hA:AlgOk A C Sg T holds abs){pts:List Nat}{c:Code}{nw:LR}{lv:Live}{ev ev':Env}{σ σ' τ:St}{ls:List Lf}{K:Env→R}
  (hR:Rp ev σ) (hR':Rp ev' σ') (hF:Fr (wrT c) (aJ pts c) (wrR pts c) σ σ') (hp:pk ev' lv=some ls) (hτ:Like (aJ pts c) nw σ' τ)
  (hlive:τ=σ'∨∀p∈lv.rows,p.1∉aJ pts c) (hk:holds (reE A pts c nw lv ev ls K)):∃ev1,Rp ev1 τ∧holds (K ev1):=by
 unfold reE at hk
 obtain⟨tm1,h1,h2,h3⟩:=clrT_eq (wrT c) (aJ pts c) ev.tm 0 fun tm=>clrR (wrR pts c) (aJ pts c) nw ev.lc 0 fun lc=>
  unSs A (lv.tm.map (·.2)) ls fun xs r=>upT A lv.tm xs tm fun tm=>upR A lv.rows r lc fun lc r=>A.un0 r (K ⟨tm,lc⟩)
 rw[h1]at hk
 obtain⟨lc1,g1,g2,g3⟩:=clrR_eq (wrR pts c) (aJ pts c) nw ev.lc 0 fun lc=>
  unSs A (lv.tm.map (·.2)) ls fun xs r=>upT A lv.tm xs tm1 fun tm=>upR A lv.rows r lc fun lc r=>A.un0 r (K ⟨tm,lc⟩)
 rw[g1]at hk
 obtain⟨xs,r,e1,e2,hk1⟩:=kV hA hk
 obtain⟨tm2,hk2,u1,u2⟩:=upT_ok hA _ _ _ _ hk1 e2
 obtain⟨lc2,r2,css,hk3,v1,v2,v3,v4,v5⟩:=upR_ok hA _ _ _ _ hk2
 obtain⟨hr2,hk4⟩:=hA.un0 _ _ hk3
 subst hr2
 rw[List.append_nil]at v1
 unfold pk at hp
 split at hp
 ·rename_i la lb hpa hpb
  cases hp
  obtain⟨ys,y1,y2,y3,y4⟩:=pkT_ok hR' hpa
  obtain⟨dss,d1,d2,d3⟩:=pkR_ok hR' hpb
  rw[←y1,←d1]at e1
  obtain⟨s1,s2⟩:=List.append_inj e1 (lN y2 e2)
  obtain⟨w1,w2⟩:=dh y2 e2 s1
  have hgood:=w2 y3
  obtain⟨_,z2⟩:=css_eq (r:=[]) d2 v2 (fun i p cs a b=>(d3 i p cs a b).1) v3 (by rw[s2,v1,List.append_nil])
  refine⟨⟨tm2,lc2⟩,⟨?_,fun i s hs=>?_,?_,fun i s hs=>?_⟩,hk4⟩
  ·show tm2.length=_
   rw[u1,h2,hR.len,hτ.tlen,hF.tlen]
  ·rcases u2 i s hs with hs1|⟨sk,x,a1,rfl,a3⟩
   ·rcases h3 i s hs1 with rfl|⟨b1,b2,b3⟩
    ·trivial
    ·have hok:=hR.val i s b1
     rw[Nat.zero_add]at b2
     have b2:i∉wrT c:=by simpa using b2
     have keepN:∀v,σ.tmps[i]? = some v→noLoc v=true→τ.tmps[i]? = some v:=fun v hv hn=>hτ.tm i v (hF.tm i v hv b2 hn) hn
     have keepP:∀s off,σ.tmps[i]? = some (.pointer (some ⟨s,off,some 0⟩))→s∉aJ pts c→τ.tmps[i]? = some (.pointer (some ⟨s,off,some 0⟩)):=fun s off hv hn=>
      hτ.tp i s off (hF.tp i s off hv b2 hn) hn
     cases s with
     |no=>trivial
     |st x=>exact⟨keepN _ hok.1 (S0.noLoc hok.2),hok.2⟩
     |tup xs=>simp[SV.inRows]at b3
     |un=>exact⟨keepN _ hok.1 rfl,trivial⟩
     |gad g off=>exact⟨keepN _ hok.1 rfl,trivial⟩
     |gdx g base ix=>exact⟨keepN _ hok.1 rfl,trivial⟩
     |lad s off=>exact⟨keepP s off hok.1 (by simpa[SV.inRows]using b3),trivial⟩
     |ldx s base ix=>exact⟨keepP s _ hok.1 (by simpa[SV.inRows]using b3),trivial⟩
   ·obtain⟨k,q1,q2⟩:=rJ a3
    simp only at q1 q2
    have hx:(ao xs)[k]? = some x.val:=by simp[ao,q2]
    rw[←w1]at hx
    simp only[ao,List.getElem?_map,Option.map_eq_some_iff]at hx
    obtain⟨y,hy1,hy2⟩:=hx
    have hm:((i,sk),y)∈lv.tm.zip ys:=by
     apply List.mem_of_getElem? (i:=k)
     rw[List.getElem?_zip_eq_some]
     exact⟨q1,hy1⟩
    have hv:=y4 _ hm
    simp only at hv
    rw[hy2]at hv
    have gx:=hgood x (List.mem_of_getElem? q2)
    exact⟨hτ.tm i _ hv (S0.noLoc gx),gx⟩
  ·show lc2.length=_
   rw[v4,g2,hR.llen,hτ.llen,hF.llen]
  ·rcases v5 i s hs with hs1|⟨k,ks,cs,a1,a2,rfl⟩
   ·rcases g3 i s hs1 with⟨b1,rfl⟩|⟨b1,b2,r0,b3,b4⟩|⟨b1,b2,b3⟩
    ·rw[Nat.zero_add]at b1
     refine hτ.new i (by simpa using b1) ?_
     rw[hτ.llen,hF.llen,←hR.llen,←g2]
     exact(List.getElem?_eq_some_iff.1 hs1).1
    ·rw[Nat.zero_add]at b1
     have hnk:i∉aJ pts c:=by simpa using b1
     have h0:=hR.row i r0 b3
     rcases b4 with rfl|⟨n,rfl,b4⟩
     ·trivial
     ·have:∃vs,σ.loc[i]? = some (some vs)∧vs.length=n:=by
       rcases b4 with rfl|⟨cs,rfl,hl⟩
       ·exact h0
       ·exact⟨_,h0.1,by simpa using hl⟩
      obtain⟨vs,c1,c2⟩:=this
      obtain⟨vs',c3,c4⟩:=hF.rlen i vs c1 hnk
      exact⟨vs',hτ.row i _ c3 hnk,c4.trans c2⟩
    ·rw[Nat.zero_add]at b1 b2
     have hnk:i∉aJ pts c:=by simpa using b1
     have hnw:i∉wrR pts c:=by simpa using b2
     have h0:=hR.row i s b3
     have keep:∀x,σ.loc[i]? = some x→τ.loc[i]? = some x:=fun x hx=>hτ.row i x (hF.row i x hx hnw) hnk
     cases s with
     |unk=>trivial
     |nil=>exact keep _ h0
     |any n=>obtain⟨vs,c1,c2⟩:=h0;exact⟨vs,keep _ c1,c2⟩
     |row cs=>exact⟨keep _ h0.1,h0.2⟩
   ·have hd:∃ds,dss[k]? = some ds:=by
     have:k<dss.length:=by rw[d2];exact(List.getElem?_eq_some_iff.1 a1).1
     exact⟨dss[k],by simp[this]⟩
    obtain⟨ds,hd⟩:=hd
    obtain⟨f1,f2,f3⟩:=d3 k _ ds a1 hd
    have f4:=v3 k _ cs a1 a2
    obtain⟨m1,m2⟩:=eX f1 f4 (z2 k ds cs hd a2)
    simp only at f3
    rw[m1]at f3
    refine⟨?_,m2 f2⟩
    rcases hlive with rfl|hlive
    ·exact f3
    ·exact hτ.row i _ f3 (hlive (i,ks) (List.mem_of_getElem? a1))
 ·cases hp
end
end Sx
end Go.Am

/-
 CODE,second part: statements.
-/
namespace Go.Am
namespace Sx
section
variable [Val] [Kno] {R HT:Type} {A:Alg R HT} {X:Ctxt} {Sg:FuncId→Option Sig} {holds:R→Prop} {abs:HT→List HObj}
noncomputable def er(X:Ctxt)(c:AC):Code:=c.erase fun κ t=>ee (X.T κ) t
def Out(X:Ctxt)(holds:R→Prop)(abs:HT→List HObj)(c:Code)(σ:St)(kn:KN R HT)(kx:Exit→KN R HT):Prop:=
 ∃e σ' ev' h',uEx X.C X.pts c σ e σ'∧Rp ev' σ'∧abs h'=σ'.heap∧Fr (wrT c) (aJ X.pts c) (wrR X.pts c) σ σ'∧((e = .normal∧holds (kn ev' h'))∨(e≠.normal∧holds (kx e ev' h')))
theorem na(hA:AlgOk A X.C Sg X.T holds abs){c:Code}{j:Option Live}{ev:Env}{σ:St}{kn:KN R HT}{main:KN R HT→R}{kx:Exit→KN R HT}{c':Code}
  (hw:wrT c'=wrT c) (hb:aJ X.pts c'=aJ X.pts c) (hr:wrR X.pts c'=wrR X.pts c)
  (hR:Rp ev σ) (hm:∀kn,holds (main kn)→Out X holds abs c' σ kn kx) (hk:holds (oy A X.pts c j ev kn main)):Out X holds abs c' σ kn kx:=by
 unfold oy at hk
 cases j with
 |none=>exact hm kn hk
 |some lv=>
  obtain⟨e,σ',ev',h',h1,h2,h3,h4,h5⟩:=hm _ (hA.join _ _ hk)
  rcases h5 with⟨rfl,h5⟩|h5
  ·simp only at h5
   split at h5
   ·rename_i ls hp
    rw[hw,hb,hr]at h4
    obtain⟨ev1,g1,g2⟩:=reE_ok hA hR h2 h4 hp (.refl _ _) (.inl rfl) h5
    exact⟨.normal,σ',ev1,h',h1,g1,h3,by rw[hw,hb,hr];exact h4,.inl ⟨rfl,g2⟩⟩
   ·exact absurd h5 hA.fail
  ·exact⟨e,σ',ev',h',h1,h2,h3,h4,.inr h5⟩
theorem box_sub(pts:List Nat):∀c:Code,∀s∈aJ pts c,s∈wrR pts c:=by
 intro c
 induction c with
 |region id ops draw=>
  intro s hs
  simp only[aJ,List.mem_filterMap]at hs
  simp only[wrR,List.mem_filterMap]
  obtain⟨o,ho,hs⟩:=hs
  refine⟨o,ho,?_⟩
  unfold gq
  split at hs
  ·rename_i e1 e2
   simp only[e1,e2]
   exact hs
  ·rename_i e1 e2
   simp only[e1,e2]
   exact hs
  ·cases hs
 |seq a b iha ihb=>intro s hs;simp only[aJ,wrR,List.mem_append]at hs ⊢;exact hs.imp (iha s) (ihb s)
 |cond c a b iha ihb=>intro s hs;simp only[aJ,wrR,List.mem_append]at hs ⊢;exact hs.imp (iha s) (ihb s)
 |block id b ih=>exact ih
 |loop b ih=>exact ih
 |scope b ih=>exact ih
 |rangeFunc f ps a b iha ihb=>intro s hs;simp only[aJ,wrR,List.mem_append]at hs ⊢;exact hs.imp (iha s) (ihb s)
 |_=>intro s hs;cases hs
theorem nZ{keys:List Nat}{v:Value}(h:noLoc v=true):fV keys v=v:=by
 unfold fV
 split
 ·rename_i a
  split
  ·rename_i hc
   simp only[Bool.and_eq_true,decide_eq_true_eq]at hc
   simp[noLoc,bv,cV,co,hc.1]at h
  ·rfl
 ·rw[if_pos h]
theorem nY{keys:List Nat}{s off:Nat}(h:s∉keys):fV keys (.pointer (some ⟨s,off,some 0⟩)) = .pointer (some ⟨s,off,some 0⟩):=by
 unfold fV
 simp[h]
theorem fC{σ:St}{keys:List Nat}{i:Nat}{v:Value}(hv:σ.tmps[i]? = some v)(hc:fV keys v=v):(σ.clear keys).tmps[i]? = some v:=by
 unfold St.clear
 split
 ·exact hv
 ·simp[hv,hc]
theorem jL{σ:St}{keys:List Nat}{s:Nat}{x:Option (List Value)}(hs:σ.loc[s]? = some x)(hn:s∉keys):(σ.clear keys).loc[s]? = some x:=by
 unfold St.clear
 split
 ·exact hs
 ·simp only
  rw[dJ,Nat.zero_add,if_neg (by simpa using hn)]
  exact hs
theorem clear_new{σ:St}{keys:List Nat}{s:Nat}(hs:s∈keys)(hl:s<σ.loc.length):(σ.clear keys).loc[s]? = some none:=by
 unfold St.clear
 split
 ·rename_i e;rw[e]at hs;cases hs
 ·simp only
  rw[dJ,Nat.zero_add,if_pos (by simpa using hs)]
  simp[hl]
theorem ly{σ:St}{keys:List Nat}:(σ.clear keys).tmps.length=σ.tmps.length:=by unfold St.clear;split<;>simp
theorem fU(keys:List Nat):∀(l:List (Option (List Value))) (i:Nat),(ff keys l i).length=l.length
 | [],_=>rfl
 |_ :: l,i=>by simp[ff,fU keys l]
theorem ii{σ:St}{keys:List Nat}:(σ.clear keys).loc.length=σ.loc.length:=by unfold St.clear;split<;>simp[fU]
theorem rq{σ:St}{keys:List Nat}:(σ.clear keys).heap=σ.heap:=by unfold St.clear;split<;>rfl
theorem rr(σ:St)(keys:List Nat):Like keys .nil σ (σ.clear keys):=
 ⟨ly,ii,fun _ _ h hn=>fC h (nZ hn),fun _ _ _ h hn=>fC h (nY hn),fun _ _ h hn=>jL h hn,fun _ h hl=>clear_new h (by rw[ii]at hl;exact hl)⟩
theorem clear_fr{σ:St}{ws keys rs:List Nat}(hsub:∀s∈keys,s∈rs):Fr ws keys rs σ (σ.clear keys):=
 ⟨ly,ii,fun _ _ h _ hn=>fC h (nZ hn),fun _ _ _ h _ hn=>fC h (nY hn),fun s _ h hn=>jL h fun hk=>hn (hsub s hk),
  fun s vs h hn=>⟨vs,jL h hn,rfl⟩⟩
theorem lw{ev:Env}{σ:St}(hR:Rp ev σ):∀ {caps:List (Nat×SK)} {vs:List Value},jI ev.tm caps=some vs→∀(nt:Nat) (tm:List Value),
  (∀(i:Nat) x,tm[i]? = some x→x=poison∨(σ.tmps[i]? = some x∧noLoc x=true))→∀(i:Nat) x,(kZ nt caps vs tm)[i]? = some x→x=poison∨(σ.tmps[i]? = some x∧noLoc x=true)
 | [],vs,h,nt,tm,ht=>by cases h;exact ht
 |(t,sk) :: caps,vs,h,nt,tm,ht=>by
  simp only[jI]at h
  split at h
  ·rename_i x vs' hx hl
   split at h
   ·cases h
    obtain⟨g1,g2⟩:=hR.at hx (by simp)
    refine lw hR hl nt _ fun i y hy=>?_
    simp only[List.getElem?_set]at hy
    split at hy
    ·rename_i hi
     subst hi
     split at hy
     ·cases hy;exact .inr ⟨g1,S0.noLoc g2⟩
     ·cases hy
    ·exact ht i y hy
   ·cases h
  ·cases h
theorem iR:∀(nt:Nat) (caps:List (Nat×SK)) (vs tm:List Value),(kZ nt caps vs tm).length=tm.length
 |_,[],_,_=>rfl
 |_,_ :: _,[],_=>rfl
 |nt,(t,_) :: caps,v :: vs,tm=>by simp[kZ,iR nt caps vs]
theorem px(hA:AlgOk A X.C Sg X.T holds abs){dr:Dr}
  (hdr:Sx.DrOk X.C dr) :
  ∀(c:AC) (ev:Env) (h:HT) (σ:St) (kn:KN R HT) (kx:Exit→KN R HT),Rp ev σ→abs h=σ.heap→holds (exec A X Sg dr c ev h kn kx)→Out X holds abs (er X c) σ kn kx:=by
 intro c
 induction c with
 |skip=>intro ev h σ kn kx hR ha hk;exact⟨.normal,σ,ev,h,.skip,hR,ha,.refl _ _ _ _,.inl ⟨rfl,hk⟩⟩
 |ret=>intro ev h σ kn kx hR ha hk;exact⟨.ret,σ,ev,h,.ret,hR,ha,.refl _ _ _ _,.inr ⟨by simp,hk⟩⟩
 |exit id=>intro ev h σ kn kx hR ha hk;exact⟨.exit id,σ,ev,h,.exit,hR,ha,.refl _ _ _ _,.inr ⟨by simp,hk⟩⟩
 |label l=>intro ev h σ kn kx hR ha hk;exact⟨.normal,σ,ev,h,.label,hR,ha,.refl _ _ _ _,.inl ⟨rfl,hk⟩⟩
 |seq a b iha ihb=>
  intro ev h σ kn kx hR ha hk
  obtain⟨e,σ₁,ev₁,h₁,q1,q2,q3,q4,q5⟩:=iha ev h σ _ _ hR ha hk
  have m1:Fr (wrT (er X (.seq a b))) (aJ X.pts (er X (.seq a b))) (wrR X.pts (er X (.seq a b))) σ σ₁:=
   q4.mono (fun i hi=>List.mem_append_left _ hi) (fun i hi=>List.mem_append_left _ hi) (fun i hi=>List.mem_append_left _ hi)
  rcases q5 with⟨rfl,q5⟩|⟨q5,q6⟩
  ·obtain⟨e',σ',ev',h',p1,p2,p3,p4,p5⟩:=ihb ev₁ h₁ σ₁ kn kx q2 q3 q5
   exact⟨e',σ',ev',h',.seq q1 p1,p2,p3,m1.trans (p4.mono (fun i hi=>List.mem_append_right _ hi) (fun i hi=>List.mem_append_right _ hi) (fun i hi=>List.mem_append_right _ hi)),p5⟩
  ·exact⟨e,σ₁,ev₁,h₁,.seqX q1 q5,q2,q3,m1,.inr ⟨q5,q6⟩⟩
 |scope b ih=>
  intro ev h σ kn kx hR ha hk
  obtain⟨e,σ₁,ev₁,h₁,q1,q⟩:=ih ev h σ kn kx hR ha hk
  exact⟨e,σ₁,ev₁,h₁,.scope q1,q⟩
 |region id ops draw hs j=>
  intro ev h σ kn kx hR ha hk
  have hk':holds (match drX dr draw X.pts ops with
   |none=>A.fail
   |some ps=>oy A X.pts (.region id ops draw) j ev kn fun kn=>opsE A X Sg ops ops.toList hs ev h (Sx.sepK A X.pts ops ps kn)):=hk
  split at hk'
  ·exact absurd hk' hA.fail
  ·rename_i ps hd
   refine na hA (c:=.region id ops draw) rfl rfl rfl hR (fun kn hk=>?_) hk'
   obtain⟨σ',ev',h',p1,p2,p3,p4,p5⟩:=opsE_ok hA ops.toList 0 hs ev h σ rfl hR ha hk
   obtain⟨p5,p6⟩:=Sx.sepK_ok hA p2 p5
   have p1:cf X.C (uB X.C) X.pts ops (List.range ops.size) σ σ':=by
    rw[List.range_eq_range'];simpa using p1
   refine⟨.normal,σ',ev',h',?_,p2,p3,p4,.inl ⟨rfl,p6⟩⟩
   cases draw with
   |false=>exact .region p1
   |true=>exact .draw (fun n hn=>hdr _ _ _ hd n _ _ hn p5) p1
 |cond c a b j iha ihb=>
  intro ev h σ kn kx hR ha hk
  have hk':holds (match sval ev c with
   | .st (.leaf (.l true))=>exec A X Sg dr a ev h kn kx
   | .st (.leaf (.l false))=>exec A X Sg dr b ev h kn kx
   | .st (.leaf (.b t))=>oy A X.pts (er X (.cond c a b j)) j ev kn fun kn=>A.cond t (exec A X Sg dr a ev h kn kx) (exec A X Sg dr b ev h kn kx)
   |_=>A.fail):=hk
  have ga:∀ {kn},oval σ.tmps c = .bool true→holds (exec A X Sg dr a ev h kn kx)→Out X holds abs (er X (.cond c a b j)) σ kn kx:=by
   intro kn hc hk
   obtain⟨e,σ₁,ev₁,h₁,q1,q2,q3,q4,q5⟩:=iha ev h σ kn kx hR ha hk
   exact⟨e,σ₁,ev₁,h₁,.cond hc q1,q2,q3,q4.mono (fun i hi=>List.mem_append_left _ hi) (fun i hi=>List.mem_append_left _ hi) (fun i hi=>List.mem_append_left _ hi),q5⟩
  have gb:∀ {kn},oval σ.tmps c = .bool false→holds (exec A X Sg dr b ev h kn kx)→Out X holds abs (er X (.cond c a b j)) σ kn kx:=by
   intro kn hc hk
   obtain⟨e,σ₁,ev₁,h₁,q1,q2,q3,q4,q5⟩:=ihb ev h σ kn kx hR ha hk
   exact⟨e,σ₁,ev₁,h₁,.cond hc (show uEx X.C X.pts (if false=true then er X a else er X b) σ e σ₁ by rw[if_neg (by simp)];exact q1),q2,q3,q4.mono (fun i hi=>List.mem_append_right _ hi) (fun i hi=>List.mem_append_right _ hi) (fun i hi=>List.mem_append_right _ hi),q5⟩
  split at hk'
  ·rename_i e;exact ga (hR.sval e (by simp)).1 hk'
  ·rename_i e;exact gb (hR.sval e (by simp)).1 hk'
  ·rename_i t e
   have h1:=(hR.sval e (by simp)).1
   refine na hA (c:=er X (.cond c a b j)) rfl rfl rfl hR (fun kn hk=>?_) hk'
   rcases hA.cond _ _ _ hk with⟨ht,hk1⟩|⟨ht,hk1⟩
   ·exact ga (by rw[h1,ht];rfl) hk1
   ·exact gb (by rw[h1,ht];rfl) hk1
  ·exact absurd hk' hA.fail
 |block id b j ih=>
  intro ev h σ kn kx hR ha hk
  refine na hA (c:=er X b) rfl rfl rfl hR (fun kn hk=>?_) (show holds (oy A X.pts (er X b) j ev kn fun kn=>exec A X Sg dr b ev h kn fun e=>match og e id with
   |true=>kn
   |false=>kx e)from hk)
  obtain⟨e,σ₁,ev₁,h₁,q1,q2,q3,q4,q5⟩:=ih ev h σ _ _ hR ha hk
  refine⟨gk id e,σ₁,ev₁,h₁,.block q1,q2,q3,q4,?_⟩
  rcases q5 with⟨rfl,q5⟩|⟨q5,q6⟩
  ·exact .inl ⟨rfl,q5⟩
  ·cases e with
   |normal=>exact absurd rfl q5
   |exit i=>
    by_cases hi:i=id
    ·subst hi
     left
     simp only[gk,if_true,true_and]
     simpa[og]using q6
    ·right
     simp only[gk,if_neg hi]
     refine⟨by simp,?_⟩
     have:Nat.beq i id=false:=by
      rw[←Bool.not_eq_true];intro h;exact hi (Nat.eq_of_beq_eq_true h)
     simpa[og,this]using q6
   |_=>exact .inr ⟨by simp[gk],by simpa[og,gk]using q6⟩
 |loop b lv ih=>
  intro ev h σ kn kx hR ha hk
  have hk':holds (match pk ev lv with
   |none=>A.fail
   |some ls=>match lv.rows.all fun p=>!(aJ X.pts (er X b)).contains p.1 with
    |false=>A.fail
    |true=>A.loop (fun self ls h=>reE A X.pts (er X b) .nil lv ev ls fun ev=>exec A X Sg dr b ev h (fun ev h=>match pk ev lv with
     |some ls=>self ls h
     |none=>A.fail) kx) ls h):=hk
  split at hk'
  ·exact absurd hk' hA.fail
  ·rename_i ls0 hp0
   split at hk'
   ·exact absurd hk' hA.fail
   ·rename_i hlv
    have hlive:∀p∈lv.rows,p.1∉aJ X.pts (er X b):=by
     intro p hp
     have:=List.all_eq_true.1 hlv p hp
     simpa using this
    obtain⟨it,i0,i1,n,hn⟩:=hA.loop _ _ _ hk'
    have main:∀(n:Nat) (ls:List Lf) (h:HT) (τ:St) (evτ:Env),Rp evτ τ→Fr (wrT (er X b)) (aJ X.pts (er X b)) (wrR X.pts (er X b)) σ τ→pk evτ lv=some ls→abs h=τ.heap→holds (it n ls h)→
      ∃e σ' ev' h',uEx X.C X.pts (.loop (er X b)) τ e σ'∧e≠.normal∧Rp ev' σ'∧abs h'=σ'.heap∧Fr (wrT (er X b)) (aJ X.pts (er X b)) (wrR X.pts (er X b)) σ σ'∧holds (kx e ev' h'):=by
     intro n
     induction n with
     |zero=>intro ls h τ evτ _ _ _ _ hh;exact absurd hh (i0 _ _)
     |succ n ihn=>
      intro ls h τ evτ hRτ hF hp haτ hh
      rw[i1]at hh
      obtain⟨ev1,g1,g2⟩:=reE_ok hA hR hRτ hF hp (rr τ _) (.inr hlive) hh
      obtain⟨e,σ₁,ev₁,h₁,q1,q2,q3,q4,q5⟩:=ih ev1 h (τ.clear (aJ X.pts (er X b))) _ _ g1 (by rw[rq];exact haτ) g2
      have hF1:Fr (wrT (er X b)) (aJ X.pts (er X b)) (wrR X.pts (er X b)) σ σ₁:=(hF.trans (clear_fr (box_sub _ _))).trans q4
      rcases q5 with⟨rfl,q5⟩|⟨q5,q6⟩
      ·simp only at q5
       split at q5
       ·rename_i ls1 hp1
        obtain⟨e',σ',ev',h',p1,p2,p3,p4,p5,p6⟩:=ihn ls1 h₁ σ₁ ev₁ q2 hF1 hp1 q3 q5
        exact⟨e',σ',ev',h',.loop q1 p1,p2,p3,p4,p5,p6⟩
       ·exact absurd q5 hA.fail
      ·exact⟨e,σ₁,ev₁,h₁,.loopX q1 q5,q5,q2,q3,hF1,q6⟩
    obtain⟨e',σ',ev',h',p1,p2,p3,p4,p5,p6⟩:=main n ls0 h σ ev hR (.refl _ _ _ _) hp0 ha hn
    exact⟨e',σ',ev',h',p1,p3,p4,p5,.inr ⟨p2,p6⟩⟩
 |rangeFunc f κ ids=>
  intro ev h σ kn kx hR ha hk
  have hk':holds (match (generalizing:=false) f,sval ev f,X.pts with
   | .tmp _,.st (.leaf (.v v)),_ :: _=>match Nat.beq ev.tm.length (X.T κ).nt,jI ev.tm (X.T κ).caps with
    |true,some vs=>A.rfun κ v vs h fun pd h=>A.pend pd (kn ev h) (kx .ret ev h) (ids.map fun id=>(id,kx (.exit id) ev h))
    |_,_=>A.fail
   |_,_,_=>A.fail):=hk
  clear hk
  cases f with
  |tmp t=>
   cases hpts:X.pts with
   |nil=>rw[hpts]at hk';split at hk'<;>first|exact absurd hk' hA.fail|(rename_i e;cases e)
   |cons p0 pr=>
    rw[hpts]at hk'
    split at hk'
    ·rename_i t2 v hd tl e0 e e1
     split at hk'
     ·rename_i vs hnt hcv
      have hnt:=Nat.eq_of_beq_eq_true hnt
      obtain⟨h1,g1⟩:=hR.sval e (by simp)
      have gv:cN v=true:=g1 (.v v) (by simp[S0.cells])
      obtain⟨g,first,cap,r,H1,lp,h2,r1,r2,r3,r4,r5,r6⟩:=hA.rfun _ _ _ _ _ hk'
      subst r1
      rw[ha]at r2 r3 r5
      have hsnap:qe σ.tmps (lpOf (X.T κ) κ vs).tmps:=by
       refine⟨by simp only[lpOf,iR,List.length_replicate];rw[←hnt,hR.len],lw hR hcv _ _ fun i x hx=>?_⟩
       rw[List.getElem?_replicate]at hx
       split at hx
       ·cases hx;exact .inl rfl
       ·cases hx
      have hpend:=hA.pend _ _ _ _ r6
      have hex:∀ {e:Exit},qo lp.pending=some e→uEx X.C X.pts (er X (.rangeFunc (.tmp t) κ ids)) σ e { σ with heap:=H1.set σ.heap.length (.loop { lp with state:=.exhausted }) }:=by
       intro e he
       have hne:X.pts≠[]:=by rw[hpts];simp
       refine uEx.rangeFunc (r:=r) (φ:=κ) (tm:=(lpOf (X.T κ) κ vs).tmps) hne hsnap h1 (dj.1 gv).1 ?_ r3 r4 he
       simpa[lpOf]using r2
      have hR':Rp ev { σ with heap:=H1.set σ.heap.length (.loop { lp with state:=.exhausted }) }:=hR.heap _
      rcases hpend with⟨p1,p2⟩|⟨p1,p2⟩|⟨id,x,p1,p2,p3⟩
      ·exact⟨.normal,_,ev,h2,hex (by rw[p1];rfl),hR',r5,(Fr.refl _ _ _ _).heap _,.inl ⟨rfl,p2⟩⟩
      ·exact⟨.ret,_,ev,h2,hex (by rw[p1];rfl),hR',r5,(Fr.refl _ _ _ _).heap _,.inr ⟨by simp,p2⟩⟩
      ·obtain⟨id',hid,he⟩:=List.mem_map.1 p2
       cases he
       exact⟨.exit id,_,ev,h2,hex (by rw[p1];rfl),hR',r5,(Fr.refl _ _ _ _).heap _,.inr ⟨by simp,p3⟩⟩
     ·exact absurd hk' hA.fail
    ·exact absurd hk' hA.fail
  |_=>exact absurd hk' hA.fail
end
end Sx
end Go.Am

/-
 FUNCTIONS AND ROUNDS: what the algebra says of them,the abstract machine does.
-/
namespace Go.Am
namespace Sx
section
variable [Val] [Kno] {R HT:Type} {A:Alg R HT} {X:Ctxt} {Sg:FuncId→Option Sig} {holds:R→Prop} {abs:HT→List HObj}
def iO(ls:List Lf):Prop:=∀l∈ls,match l with
 | .v x=>cN x=true
 |_=>True
theorem rB{xs:List S0}(h:iO (cj xs)):∀x∈xs,x.good:=by
 intro x hx l hl
 have hm:l.lf∈cj xs:=by
  induction xs with
  |nil=>cases hx
  |cons y ys ih=>
   simp only[cj,List.mem_append,List.mem_map]
   rcases List.mem_cons.1 hx with rfl|hx
   ·exact .inl ⟨l,hl,rfl⟩
   ·exact .inr (ih (fun l hl=>h l (by simp only[cj,List.mem_append];exact .inr hl)) hx)
 have:=h _ hm
 cases l<;>first|trivial|exact this
theorem lQ:∀ {xs:List S0},(∀x∈xs,x.good)→iO (cj xs)
 | [],_,l,hl=>by cases hl
 |x :: xs,h,l,hl=>by
  simp only[cj,List.mem_append,List.mem_map]at hl
  rcases hl with⟨c,hc,rfl⟩|hl
  ·have:=h x (by simp) c hc
   cases c<;>first|trivial|exact this
  ·exact lQ (fun y hy=>h y (by simp[hy])) l hl
theorem fe{C:Cfg}{T:Nat→Site}(hA:AlgOk A C Sg T holds abs):∀ {cs:List SL} {K:R},holds (chkAll A cs K)→(∀c∈cs,cV c.val=true)∧holds K
 | [],K,h=>⟨by simp,h⟩
 |c :: cs,K,h=>by
  cases c with
  |v x=>
   have h':holds (A.opt (chk2 x) fun _=>chkAll A cs K):=h
   obtain⟨u,hu,h1⟩:=hA.opt _ _ h'
   obtain⟨h2,h3⟩:=fe hA h1
   refine⟨List.forall_mem_cons.2 ⟨?_,h2⟩,h3⟩
   unfold chk2 at hu
   split at hu
   ·assumption
   ·cases hu
  |i k n=>obtain⟨h2,h3⟩:=fe (cs:=cs) (K:=K) hA h;exact⟨List.forall_mem_cons.2 ⟨rfl,h2⟩,h3⟩
  |b t=>obtain⟨h2,h3⟩:=fe (cs:=cs) (K:=K) hA h;exact⟨List.forall_mem_cons.2 ⟨rfl,h2⟩,h3⟩
  |l t=>obtain⟨h2,h3⟩:=fe (cs:=cs) (K:=K) hA h;exact⟨List.forall_mem_cons.2 ⟨rfl,h2⟩,h3⟩
theorem chkRes_ok{C:Cfg}{T:Nat→Site}(hA:AlgOk A C Sg T holds abs){many:Bool}{x:S0}{K:R}(hx:x.good)(h:holds (eP A many x K)):(many=true→bv x.val=true)∧holds K:=by
 unfold eP at h
 split at h
 ·rename_i cs
  obtain⟨h1,h2⟩:=fe hA h
  refine⟨fun _=>?_,h2⟩
  simp only[S0.val,bv,List.all_eq_true,List.mem_map]
  rintro _ ⟨c,hc,rfl⟩
  exact h1 c hc
 ·rename_i hne
  refine⟨fun hm=>?_,h⟩
  cases x with
  |agg cs=>exact absurd rfl (hne cs hm)
  |leaf l=>exact(dj.1 (SL.val_good (hx l (by simp[S0.cells])))).2.1
theorem resE_ok(hA:AlgOk A X.C Sg X.T holds abs){ev:Env}{σ:St}{h:HT}(hR:Rp ev σ)(ha:abs h=σ.heap){many:Bool}:∀(rvs:List ResultVar) (sks:List SK) (acc:List Lf) (K:List Lf→HT→R),holds (resE A X many ev h rvs sks acc K)→
  ∃ys,bX ys sks=true∧(∀y∈ys,y.good)∧(many=true→∀y∈ys,bv y.val=true)∧ys.length=rvs.length∧cu X.C σ rvs=some (ao ys)∧holds (K (acc++cj ys) h)
 | [],sks,acc,K,hk=>by
  cases sks with
  |nil=>
   have hk':holds (K acc h):=hk
   exact⟨[],rfl,by simp,by simp,rfl,rfl,by rw[cj,List.append_nil];exact hk'⟩
  |cons _ _=>exact absurd hk hA.fail
 |rv :: rvs,sks,acc,K,hk=>by
  cases sks with
  |nil=>exact absurd hk hA.fail
  |cons sk sks=>
   have fin:∀x:S0,x.is sk=true→x.good→dS X.C σ rv=some x.val→holds (eP A many x (resE A X many ev h rvs sks (acc++x.cells.map SL.lf) K))→
     ∃ys,bX ys (sk :: sks)=true∧(∀y∈ys,y.good)∧(many=true→∀y∈ys,bv y.val=true)∧ys.length=(rv :: rvs).length∧cu X.C σ (rv :: rvs)=some (ao ys)∧holds (K (acc++cj ys) h):=by
    intro x hx hg hres hk
    obtain⟨h1,h2⟩:=chkRes_ok hA hg hk
    obtain⟨ys,a1,a2,a3,a4,a5,a6⟩:=resE_ok hA hR ha rvs sks _ K h2
    refine⟨x :: ys,by simp[bX,hx,a1],List.forall_mem_cons.2 ⟨hg,a2⟩,fun hm=>List.forall_mem_cons.2 ⟨h1 hm,a3 hm⟩,by simp[a4],?_,by simpa[cj]using a6⟩
    simp only[cu,hres,a5];rfl
   cases rv with
   |tmp t=>
    have hk':holds (match ev.tm.getD t .no with
     | .st x=>match x.is sk with
      |true=>eP A many x (resE A X many ev h rvs sks (acc++x.cells.map SL.lf) K)
      |false=>A.fail
     |_=>A.fail):=hk
    split at hk'
    ·rename_i x hx
     obtain⟨g1,g2⟩:=hR.at hx (by simp)
     split at hk'
     ·rename_i his
      exact fin x his g2 (by simp[dS,List.getD_eq_getElem?_getD,g1];rfl) hk'
     ·exact absurd hk' hA.fail
    ·exact absurd hk' hA.fail
   |cell a t=>
    have hk':holds (match (generalizing:=false) aggT X.C.P t with
     |some agg=>
      let n:=if agg then X.C.P.cellsOf t else 1
      match (generalizing:=false) ev.tm.getD a .no with
      | .lad s off=>match (nr ev s).bind (fun cs=>(cutS cs off n).bind (mkS0 agg))with
       |some x=>match x.is sk with
        |true=>eP A many x (resE A X many ev h rvs sks (acc++x.cells.map SL.lf) K)
        |false=>A.fail
       |none=>A.fail
      | .st (.leaf (.v p))=>match (generalizing:=false) agg,sk with
       |true,.agg _=>A.peek (.ld n p) h fun cs=>ucS A sk cs fun x r=>A.uc0 r (eP A many x (resE A X many ev h rvs sks (acc++x.cells.map SL.lf) K))
       |false,.leaf _=>A.peek (.ld n p) h fun cs=>ucS A sk cs fun x r=>A.uc0 r (eP A many x (resE A X many ev h rvs sks (acc++x.cells.map SL.lf) K))
       |_,_=>A.fail
      |_=>A.fail
     |none=>A.fail):=hk
    clear hk
    split at hk'
    ·rename_i agg hag
     simp only at hk'
     split at hk'
     ·rename_i s off hl
      obtain⟨g1,_⟩:=hR.at hl (by simp)
      split at hk'
      ·rename_i x hx
       obtain⟨cs,hr,hx⟩:=Option.bind_eq_some_iff.1 hx
       obtain⟨ds,hd,hx⟩:=Option.bind_eq_some_iff.1 hx
       obtain⟨r1,r2,_⟩:=gZ hR hr
       obtain⟨c1,c2⟩:=jQ hd
       obtain⟨v,v1,v2⟩:=cr hag c1
       obtain⟨m1,m2⟩:=ku hx
       split at hk'
       ·rename_i his
        have hv:x.val=v:=by
         rcases m2 with⟨a1,a2⟩|⟨a1,a2⟩<;>rcases v2 with⟨b1,b2⟩|⟨b1,b2⟩
         ·rw[a2,b2]
         ·rw[a1]at b1;cases b1
         ·rw[a1]at b1;cases b1
         ·rw[a2]at b2;simpa using b2
        refine fin x his (fun l hl=>?_) ?_ hk'
        ·rw[m1]at hl;exact r2 l (c2 l hl)
        ·simp only[dS,List.getD_eq_getElem?_getD,g1,Option.getD_some,SV.val,r1,v1,hv]
       ·exact absurd hk' hA.fail
      ·exact absurd hk' hA.fail
     ·rename_i p hl
      obtain⟨g1,_⟩:=hR.at hl (by simp)
      have common:agg=gy sk→holds (A.peek (.ld (if agg then X.C.P.cellsOf t else 1) p) h fun cs=>ucS A sk cs fun x r=>A.uc0 r (eP A many x (resE A X many ev h rvs sks (acc++x.cells.map SL.lf) K)))→
        ∃ys,bX ys (sk :: sks)=true∧(∀y∈ys,y.good)∧(many=true→∀y∈ys,bv y.val=true)∧ys.length=(ResultVar.cell a t :: rvs).length∧cu X.C σ (.cell a t :: rvs)=some (ao ys)∧holds (K (acc++cj ys) h):=by
       intro hsk hk
       obtain⟨cs,h2,hk1⟩:=hA.peek _ _ _ hk
       simp only[Pk.run]at h2
       rw[ha]at h2
       obtain⟨id,off,vs,rfl,h3,h4⟩:=ldP_ok h2
       rw[nW]at h3
       obtain⟨v,h5,h6⟩:=cr hag h4
       rw[hsk]at h6
       obtain⟨x,r,q1,q2,q3,hk2⟩:=mp hA hk1
       obtain⟨hr,hk3⟩:=hA.uc0 _ _ hk2
       rw[hr,List.append_nil]at q1
       rw[q1]at h6
       refine fin x q2 q3 ?_ hk3
       rw[lR q2 h6]
       simp only[dS,List.getD_eq_getElem?_getD,g1,Option.getD_some,SV.val,S0.val,SL.val,h3,Option.bind_some,h5]
      split at hk'
      ·exact common rfl hk'
      ·exact common rfl hk'
      ·exact absurd hk' hA.fail
     ·exact absurd hk' hA.fail
    ·exact absurd hk' hA.fail
structure FnIs(X:Ctxt)(Sg:FuncId→Option Sig)(f:FuncId)(fn:Fn1):Prop where
 is:∃g,X.C.P.funcs[f]? = some g∧g.body=some (er X fn.code)∧(g.name == "runtime.NumGoroutine")=false∧g.ntmps=fn.nt∧g.results.toList=fn.rvs
 pts:X.pts=X.C.pts f
 sg:Sg f=some fn.sg
theorem pM{ys:List S0}(hg:∀y∈ys,y.good)(hm:1<ys.length→∀y∈ys,bv y.val=true):noLoc (eq (ao ys))=true:=by
 match ys with
 | []=>rfl
 | [y]=>exact S0.noLoc (hg y (by simp))
 |a :: b :: l=>
  have h:=hm (by simp)
  have e:eq (ao (a :: b :: l)) = .tuple (ao (a :: b :: l)).toArray:=rfl
  rw[e]
  simp only[Am.noLoc,List.all_eq_true]
  intro v hv
  simp only[ao,List.mem_map]at hv
  obtain⟨y,hy,rfl⟩:=hv
  exact h y hy
theorem iQ:∀ {a:List S0} {sks:List SK},bX a sks=true→a.length=sks.length
 | [],[],_=>rfl
 |x :: a,k :: sks,h=>by
  simp only[bX,Bool.and_eq_true]at h
  simp[iQ h.2]
 | [],_ :: _,h=>by cases h
 |_ :: _,[],h=>by cases h
theorem start_rp{xs:List S0}(hg:∀x∈xs,x.good)(nt:Nat)(H:List HObj) :
  Rp ⟨xs.map .st++List.replicate (nt - xs.length) .no,List.replicate nt .nil⟩ { tmps:=ao xs++List.replicate (nt - (ao xs).length) undef,loc:=List.replicate nt none,heap:=H }:=by
 refine⟨by simp[ao],fun i s hs=>?_,by simp,fun i r hr=>?_⟩
 ·rw[List.getElem?_append]at hs
  split at hs
  ·rename_i hi
   simp only[List.length_map]at hi
   simp only[List.getElem?_map,Option.map_eq_some_iff]at hs
   obtain⟨x,hx,rfl⟩:=hs
   refine⟨?_,hg x (List.mem_of_getElem? hx)⟩
   rw[List.getElem?_append_left (by simpa[ao]using hi)]
   simp[ao,hx,SV.val]
  ·rw[List.getElem?_replicate]at hs
   split at hs
   ·cases hs;trivial
   ·cases hs
 ·simp only[List.getElem?_replicate]at hr
  split at hr
  ·rename_i hi;cases hr
   simp[LR.ok,hi]
  ·cases hr
theorem qn(hA:AlgOk A X.C Sg X.T holds abs){dr:Dr}
  (hdr:Sx.DrOk X.C dr)
  {f:FuncId} {fn:Fn1} (hf:FnIs X Sg f fn) {ls:List Lf} {h:HT} {K:List Lf→HT→R} (hls:iO ls) (hk:holds (aE A X Sg dr fn ls h K)) :
  ∃rs h',dg X.C Sg f ls (abs h) rs (abs h')∧iO rs∧holds (K rs h'):=by
 obtain⟨g,f1,f2,f3,f4,f5⟩:=hf.is
 obtain⟨xs,r,e1,e2,hk1⟩:=kV hA hk
 obtain⟨hr,hk2⟩:=hA.un0 _ _ hk1
 rw[hr,List.append_nil]at e1
 subst e1
 have hg:=rB hls
 have hR:=start_rp hg fn.nt (abs h)
 obtain⟨e,σ',ev',h',q1,q2,q3,_,q5⟩:=px hA hdr fn.code _ h _ _ _ hR rfl hk2
 have main:(e = .normal∨e = .ret)→holds (resE A X (Nat.blt 1 fn.rvs.length) ev' h' fn.rvs fn.sg.rs [] K)→∃rs h',dg X.C Sg f (cj xs) (abs h) rs (abs h')∧iO rs∧holds (K rs h'):=by
  intro he hk
  obtain⟨ys,a1,a2,a3,a4,a5,a6⟩:=resE_ok hA q2 q3 fn.rvs fn.sg.rs [] K hk
  rw[List.nil_append]at a6
  refine⟨cj ys,h',⟨fn.sg,xs,ys,hf.sg,⟨e2,rfl,hg⟩,⟨a1,rfl,a2⟩,?_⟩,lQ a2,a6⟩
  rw[q3]
  refine fS.intro f1 f2 f3 ?_ he (by rw[f5];exact a5) (pM a2 fun hl=>a3 (by rw[Nat.blt_eq];omega))
  rw[hf.pts]at q1
  simpa[iU,f4]using q1
 rcases q5 with⟨rfl,q5⟩|⟨q5,q6⟩
 ·exact main (.inl rfl) q5
 ·cases e with
  |ret=>exact main (.inr rfl) q6
  |_=>exact absurd q6 hA.fail
theorem jH:∀(caps:List (Nat×SK)) (xs:List S0) (tm:List SV) (tmps:List Value),tm.length=tmps.length→(∀x∈xs,x.good)→(∀(i:Nat) s,tm[i]? = some s→s.ok tmps i)→
  (ea 0 caps xs tm).length=tm.length∧∀(i:Nat) s,(ea 0 caps xs tm)[i]? = some s→s.ok (bY (caps.map (·.1)) (ao xs) tmps) i
 | [],xs,tm,tmps,_,_,h=>⟨by simp[ea],by simpa[ea,bY]using h⟩
 |(t,sk) :: caps,[],tm,tmps,_,_,h=>⟨by simp[ea],by simpa[ea,bY,ao]using h⟩
 |(t,sk) :: caps,x :: xs,tm,tmps,hl,hg,h=>by
  have:=jH caps xs (tm.set t (.st x)) (tmps.set t x.val) (by simp[hl]) (fun y hy=>hg y (by simp[hy])) (fun i s hs=>?_)
  ·simpa[ea,bY,ao]using this
  ·simp only[List.getElem?_set]at hs
   split at hs
   ·rename_i hi
    subst hi
    split at hs
    ·rename_i hlt
     cases hs
     exact⟨by rw[List.getElem?_set_self (by omega)];rfl,hg x (by simp)⟩
    ·cases hs
   ·rename_i hi
    have:=h i s hs
    cases s<;>first|trivial|exact⟨by rw[List.getElem?_set_ne hi];exact this.1,this.2⟩
theorem eY(nt nt':Nat):∀(caps:List (Nat×SK)) (xs:List S0) (tm:List SV),ea nt caps xs tm=ea nt' caps xs tm
 | [],_,_=>rfl
 |_ :: _,[],_=>rfl
 |(t,_) :: caps,x :: xs,tm=>eY nt nt' caps xs _
theorem iS(nt:Nat):∀(caps:List (Nat×SK)) (vs tm:List Value),kZ nt caps vs tm=bY (caps.map (·.1)) vs tm
 | [],_,_=>by simp[kZ,bY]
 |_ :: _,[],_=>by simp[kZ,bY]
 |(t,_) :: caps,v :: vs,tm=>by simp only[kZ,List.map_cons,bY];exact iS nt caps vs _
theorem lU{T T':Nat→Tmp→Code}:∀ {c:AC},noRF c=true→c.erase T=c.erase T':=by
 intro c
 induction c with
 |seq a b iha ihb=>intro h;simp only[noRF,Bool.and_eq_true]at h;simp only[AC.erase,iha h.1,ihb h.2]
 |scope b ih=>intro h;simp only[AC.erase,ih h]
 |cond c a b j iha ihb=>intro h;simp only[noRF,Bool.and_eq_true]at h;simp only[AC.erase,iha h.1,ihb h.2]
 |block id b j ih=>intro h;simp only[AC.erase,ih h]
 |loop b lv ih=>intro h;simp only[AC.erase,ih h]
 |rangeFunc f κ ids=>intro h;cases h
 |_=>intro _;rfl
theorem oA:∀ {caps:List (Nat×SK)} {xs:List S0},nc caps=true→bX xs (caps.map (·.2))=true→js xs=ao xs
 | [],[],_,_=>rfl
 |p :: caps,x :: xs,h1,h2=>by
  simp only[nc,List.all_cons,Bool.and_eq_true]at h1
  simp only[List.map_cons,bX,Bool.and_eq_true]at h2
  have ih:=oA (caps:=caps) h1.2 h2.2
  obtain⟨t,sk⟩:=p
  cases sk with
  |agg ks=>cases h1.1
  |leaf k=>
   cases x with
   |agg _=>cases h2.1
   |leaf l=>
    simp only[js,List.flatMap_cons,ao,List.map_cons]at ih ⊢
    rw[ih];rfl
 | [],_ :: _,_,h=>by cases h
 |_ :: _,[],_,h=>by cases h
theorem execY_ok(hA:AlgOk A X.C Sg X.T holds abs){dr:Dr}
  (hdr:Sx.DrOk X.C dr)
  {st:Site} {vs:List Value} {l:Nat} {ls:List Lf} {h:HT} {K:List Lf→HT→R} {lp:ALoop} {ys:List S0} (h1:dw (abs h) l=some lp) (h2:lp.tmps=kZ st.nt st.caps vs (List.replicate st.nt poison))
  (h3:lp.params=st.params.map (·.1)) (h4:lp.assign=st.assign.erase lV) (h5:lp.body=st.body.erase lV) (hy:Told (st.params.map (·.2)) ls ys)
  (hk:holds (mO A X Sg dr st vs l ls h K)):∃b h',hQ X.C l (ao ys) (abs h) (.bool b) (abs h')∧holds (K [.b b] h'):=by
 unfold mO at hk
 split at hk
 ·exact absurd hk hA.fail
 ·rename_i hc
  simp only[Bool.and_eq_true]at hc
  obtain⟨⟨c1,c2⟩,c3⟩:=hc
  obtain⟨xs,r,e1,e2,e3,hk1⟩:=ucSs_ok hA hk
  obtain⟨hr,hk2⟩:=hA.uc0 _ _ hk1
  rw[hr,List.append_nil,oA c1 e2]at e1
  subst e1
  obtain⟨zs,r',d1,d2,hk3⟩:=kV hA hk2
  obtain⟨hr',hk4⟩:=hA.un0 _ _ hk3
  rw[hr',List.append_nil]at d1
  obtain⟨y1,y2,y3⟩:=hy
  obtain⟨w1,w2⟩:=dh y1 d2 (y2.trans d1)
  have hzg:=w2 y3
  let X':Ctxt:={ X with pts:=[] }
  let σ₀:St:={ tmps:=bY lp.params (ao ys) lp.tmps,loc:=[],heap:=abs h }
  have hR:Rp ⟨ea st.nt st.params zs (ea st.nt st.caps xs (List.replicate st.nt .no)),[]⟩ σ₀:=by
   have a1:=jH st.caps xs (List.replicate st.nt .no) (List.replicate st.nt poison) (by simp) e3 (fun i s hs=>by
    rw[List.getElem?_replicate]at hs;split at hs
    ·cases hs;trivial
    ·cases hs)
   have plen:∀(ts:List Tmp) (vs tm:List Value),(bY ts vs tm).length=tm.length:=by
    intro ts
    induction ts with
    |nil=>intro vs tm;simp[bY]
    |cons t ts ih=>intro vs tm;cases vs with
     |nil=>simp[bY]
     |cons v vs=>simp[bY,ih]
   have a2:=jH st.params zs _ _ (by rw[a1.1,plen];simp) hzg a1.2
   have etm:σ₀.tmps=bY (st.params.map (·.1)) (ao zs) (bY (st.caps.map (·.1)) (ao xs) (List.replicate st.nt poison)):=by
    show bY lp.params (ao ys) lp.tmps=_
    rw[h3,h2,iS,w1]
   refine⟨?_,fun i s hs=>?_,rfl,fun i r hr=>by simp at hr⟩
   ·rw[etm,plen,plen,eY st.nt 0,eY st.nt 0,a2.1,a1.1];simp
   ·rw[eY st.nt 0,eY st.nt 0]at hs
    rw[etm]
    exact a2.2 i s hs
  obtain⟨e,σ₁,ev₁,h₁,q1,q2,q3,_,q5⟩:=px (X:=X') hA hdr st.assign _ h σ₀ _ _ hR rfl hk4
  rcases q5 with⟨rfl,q5⟩|⟨_,q5⟩
  ·obtain⟨lp₁,h₂,p1,p2,p3,q6⟩:=hA.lp1 _ _ _ q5
   rw[q3]at p1 p3
   obtain⟨e,σ₂,ev₂,h₃,s1,s2,s3,_,s5⟩:=px (X:=X') hA hdr st.body ev₁ h₂ { σ₁ with heap:=σ₁.heap.set l (.loop { lp₁ with state:=.busy }) } _ _ (q2.heap _) p3 q6
   have u1:uEx X.C [] lp.assign { tmps:=bY lp.params (ao ys) lp.tmps,loc:=[],heap:=abs h } .normal σ₁:=by
    rw[h4,lU (T':=fun κ t=>ee (X.T κ) t) c2];exact q1
   have u2:uEx X.C [] lp.body { σ₁ with heap:=σ₁.heap.set l (.loop { lp₁ with state:=.busy }) } e σ₂:=by
    rw[h5,lU (T':=fun κ t=>ee (X.T κ) t) c3];exact s1
   have hlen:(ao ys).length=lp.params.length:=by
    rw[h3]
    have:=iQ y1
    simpa[ao]using this
   have fin:∀(j:Option Code) (b:Bool),jumpOf e=some j→b=j.isNone→holds (A.lp2 l j h₃ fun h=>K [.b b] h)→∃b h',hQ X.C l (ao ys) (abs h) (.bool b) (abs h')∧holds (K [.b b] h'):=by
    intro j b hj hb hk
    obtain⟨lp₂,h₄,z1,z2,z3⟩:=hA.lp2 _ _ _ _ hk
    rw[s3]at z1 z2
    refine⟨b,h₄,?_,z3⟩
    rw[z2,hb]
    exact hQ.intro h1 hlen u1 p1 p2 u2 hj z1
   rcases s5 with⟨rfl,s5⟩|⟨s5,s6⟩
   ·exact fin none true rfl rfl s5
   ·cases e with
    |ret=>exact fin (some .ret) false rfl rfl s6
    |exit id=>exact fin (some (.exit id)) false rfl rfl s6
    |_=>exact absurd s6 hA.fail
  ·exact absurd q5 hA.fail
end
end Sx
end Go.Am

/-
 AN ENTRY THAT IS MADE CHANGES NO LOOK-UP OF ITS KEY.
-/
namespace Go.Am
namespace Sx
section
variable {P:Program}
theorem ba_refl(a:ByteArray):(a==a)=true:=by
 cases a with|mk d=>show(d==d)=true;simp
theorem ba_eq{a b:ByteArray}(h:(a==b)=true):a=b:=by
 cases a with|mk d=>cases b with|mk e=>have h:(d==e)=true:=h;simp at h;rw[h]
theorem oX{d:TypeDesc}{k x:Value}{b:Bool}(h:Instr.sameNow d k x=some b):Instr.sameNow d k k=some true:=by
 unfold Instr.sameNow at h
 split at h
 ·simp[Instr.sameNow]
 ·simp[Instr.sameNow,ba_refl]
 ·simp[Instr.sameNow]
 ·cases h
theorem lW{d:TypeDesc}{k:Value}:∀(l l':List MapEntry) (i:Nat),Instr.findNow d k l i=some none→Instr.findNow d k (l++l') i=Instr.findNow d k l' (i+l.length)
 | [],l',i,h=>rfl
 |e :: l,l',i,h=>by
  unfold Instr.findNow at h
  split at h
  ·cases h
  ·rename_i e1
   show(match Instr.sameNow d k e.key with|some true=>some (some (i,e.val))|some false=>Instr.findNow d k (l++l') (i+1)|none=>none)=_
   rw[e1]
   simp only
   rw[lW l l' (i+1) h,List.length_cons]
   congr 1;omega
  ·cases h
theorem qC{d:TypeDesc}{k:Value}:∀(l l':List MapEntry) (i:Nat),Instr.findNow d k l i=none→Instr.findNow d k (l++l') i=none
 | [],l',i,h=>by cases h
 |e :: l,l',i,h=>by
  unfold Instr.findNow at h
  show(match Instr.sameNow d k e.key with|some true=>some (some (i,e.val))|some false=>Instr.findNow d k (l++l') (i+1)|none=>none)=none
  split at h
  ·cases h
  ·rename_i e1;rw[e1];exact qC l l' (i+1) h
  ·rename_i e1;rw[e1]
theorem lu{kt:TypeId}{k:Value}:∀(l l':List MapEntry) (i:Nat),pev P (Instr.findAsking kt k l i)=some none→pev P (Instr.findAsking kt k (l++l') i)=pev P (Instr.findAsking kt k l' (i+l.length))
 | [],l',i,h=>rfl
 |e :: l,l',i,h=>by
  unfold Instr.findAsking at h
  rw[aZ]at h
  show pev P (Op.equal kt k e.key >>= fun b=>if b then pure (some (i,e.val))else Instr.findAsking kt k (l++l') (i+1))=_
  rw[aZ]
  cases hq:pev P (Op.equal kt k e.key)with
  |none=>rw[hq]at h;cases h
  |some b=>
   rw[hq]at h
   simp only[Option.bind_some]at h ⊢
   cases b with
   |true=>cases h
   |false=>
    simp only[Bool.false_eq_true,if_false]at h ⊢
    rw[lu l l' (i+1) h,List.length_cons]
    congr 2;omega
theorem ask_one{kt:TypeId}{k v:Value}{b i:Nat}(h:pev P (Op.equal kt k k)=some true):pev P (Instr.findAsking kt k [⟨k,v,b⟩] i)=some (some (i,v)):=by
 show pev P (Op.equal kt k k >>= fun b=>if b then pure (some (i,v))else Instr.findAsking kt k [] (i+1))=_
 rw[aZ,h]
 rfl
theorem rz{kt:TypeId}{k:Value}{es:List MapEntry}{e:MapEntry}(he:e.key=k)(hs:pev P (Op.equal kt k k)=some true)(h:gN P kt k es=some none):gN P kt k (es++[e])=some (some es.length):=by
 unfold gN at h ⊢
 obtain⟨r,h1,h2⟩:=Option.map_eq_some_iff.1 h
 have hr:r=none:=by cases r with|none=>rfl|some p=>cases h2
 subst hr
 unfold Instr.findKey at h1 ⊢
 rw[aZ]at h1 ⊢
 cases hd:pev P (underlying kt)with
 |none=>rw[hd]at h1;cases h1
 |some d=>
  rw[hd]at h1
  simp only[Option.bind_some]at h1 ⊢
  rw[List.map_append]
  have hb:[e].map aX=[⟨k,undef,0⟩]:=by simp[aX,he]
  rw[hb]
  cases hn:Instr.findNow d k (es.map aX) 0 with
  |some r=>
   rw[hn]at h1
   simp only[eK,Option.some.injEq]at h1
   subst h1
   rw[lW _ _ _ hn,Nat.zero_add,List.length_map]
   cases hq:Instr.sameNow d k k with
   |some b=>
    have:=oX hq
    have e1:Instr.findNow d k [⟨k,undef,0⟩] es.length=some (some (es.length,undef)):=by
     unfold Instr.findNow
     rw[this]
    rw[e1]
    rfl
   |none=>
    have e1:Instr.findNow d k [⟨k,undef,0⟩] es.length=none:=by
     unfold Instr.findNow
     rw[hq]
    rw[e1]
    simp only
    cases es with
    |nil=>rw[List.map_nil,List.nil_append,ask_one hs];rfl
    |cons a l=>
     exfalso
     simp only[List.map_cons]at hn
     unfold Instr.findNow at hn
     split at hn
     ·cases hn
     ·rename_i e2
      rw[oX e2]at hq
      cases hq
     ·cases hn
  |none=>
   rw[hn]at h1
   simp only at h1
   rw[qC _ _ _ hn]
   simp only
   rw[lu _ _ _ h1,Nat.zero_add,List.length_map,ask_one hs]
   rfl
theorem jF{x y:Value}{n:Nat}(hy:scalar y=true)(h:Instr.sameBits n x y=true):x=y:=by
 cases y<;>simp only[scalar,Bool.false_eq_true]at hy<;>cases x<;>cases n<;>first|(simp_all [Instr.sameBits];done)|(rw[ba_eq (show _=true from h)])
theorem nT{n:Nat}:∀ {l m:List Value},l.length=m.length→m.all scalar=true→((l.zip m).all fun p=>Instr.sameBits n p.1 p.2)=true→l=m
 | [],[],_,_,_=>rfl
 |a :: l,b :: m,hl,hm,h=>by
  simp only[List.all_cons,Bool.and_eq_true]at hm
  simp only[List.zip_cons_cons,List.all_cons,Bool.and_eq_true]at h
  rw[jF hm.1 h.1,nT (by simpa using hl) hm.2 h.2]
 | [],_ :: _,hl,_,_=>by cases hl
 |_ :: _,[],hl,_,_=>by cases hl
theorem bits_flat{x y:Value}(hy:dY y=true)(h:Instr.sameBits 10000 x y=true):x=y:=by
 cases y with
 |agg b=>
  cases x with
  |agg a=>
   have h:(a.size==b.size&&(a.toList.zip b.toList).all fun(x,y)=>Instr.sameBits 9999 x y)=true:=h
   simp only[Bool.and_eq_true,beq_iff_eq]at h
   congr 1
   exact Array.toList_inj.1 (nT (n:=9999) (by simpa using h.1) hy h.2)
  |_=>cases h
 |_=>exact jF hy h
theorem kw{α:Type}{f:α→α}:∀(l:List α) (i:Nat) (a:α),l[i]? = some a→f a=a→l.modify i f=l
 | [],i,a,h,_=>by cases h
 |x :: l,0,a,h,hf=>by
  simp only[List.getElem?_cons_zero,Option.some.injEq]at h
  subst h
  simp[List.modify,hf]
 |x :: l,i+1,a,h,hf=>by
  simp only[List.getElem?_cons_succ]at h
  have:=kw l i a h hf
  simp[List.modify_succ_cons,this]
theorem qT{α:Type}:∀(l:List α) (i:Nat) (a:α),l[i]? = some a→l.set i a=l
 | [],i,a,h=>by cases h
 |x :: l,0,a,h=>by simp at h;simp[h]
 |x :: l,i+1,a,h=>by simp[qT l i a (by simpa using h)]
theorem oD{C:Cfg}{t:TypeId}{m k v r:Value}{H H':List HObj}(h:bK C t m k H=some (H',r))(hl:bW C t m k false H=some v):bW C t m k false H'=some v:=by
 unfold bK at h
 split at h
 ·rename_i kt et id hu
  split at h
  ·cases h
  ·rename_i hko
   have hko:dZ C.P kt k=true:=by simpa using hko
   have hko':=hko
   simp only[dZ,Bool.and_eq_true]at hko'
   have hs:pev C.P (Op.equal kt k k)=some true:=by
    have:=hko'.2
    cases hq:pev C.P (Op.equal kt k k)with
    |none=>rw[hq]at this;cases this
    |some b=>rw[hq]at this;simp at this;rw[this]
   split at h
   ·cases h
   ·rename_i es c hm
    have hid:H[id]? = some (.map es c):=by
     unfold hmap at hm
     split at hm
     ·rename_i e;cases hm;exact e
     ·cases hm
    have hlt:id<H.length:=by
     rcases Nat.lt_or_ge id H.length with h|h
     ·exact h
     ·rw[List.getElem?_eq_none h]at hid;cases hid
    split at h
    ·cases h
    ·rename_i hf
     split at h
     ·cases h
     ·rename_i z hz
      cases h
      unfold bW at hl ⊢
      rw[hu]at hl ⊢
      simp only[hko,Bool.not_true,Bool.false_eq_true,if_false,hz,hm,hf]at hl ⊢
      have hm':hmap (H.set id (.map (es++[{ key:=k,val:=z,born:=c }]) (c+1))) id=some (es++[{ key:=k,val:=z,born:=c }],c+1):=by
       unfold hmap
       rw[List.getElem?_set_self hlt]
      rw[hm']
      simp only
      rw[rz (e:={ key:=k,val:=z,born:=c }) rfl hs hf]
      simp only[gJ,List.getElem?_append_right (Nat.le_refl _),Nat.sub_self,List.getElem?_cons_zero,Option.map_some]
      exact hl
    ·rename_i i hf
     split at h
     ·cases h
     ·rename_i e he
      split at h
      ·rename_i hb
       cases h
       have hk:e.key=k:=bits_flat hko'.1.1.1 hb
       have:es.modify i (fun e=>{ e with key:=k })=es:=kw es i e he (by rw[←hk])
       rw[this,qT H id _ hid]
       exact hl
      ·cases h
 ·cases h
end
end Sx
end Go.Am

/-
 REGIONS THAT DRAW THEIR ORDER,first part: what an operation looks at.
-/
namespace Go.Am
namespace Sx
inductive MC where
 |no
 |row (s:Nat) (w:Bool)
 |hr
 |hw
 |neu (f:FuncId)
noncomputable def aG(N:FuncId→Option Nat)(pts:List Nat)(o:Oper):Option MC:=
 match o.op with
 | .move _ | .assign _ | .pick _ _ _ | .build _ _ | .nilCheck _ | .unOp _ _ _ | .convert _ _ _ | .fieldAddr _ _ _ | .field _ _ _ | .indexAddr _ _ _ | .index _ _ _ | .extract _ _=>some .no
 | .binOp _ _ _ _ _=>some .no
 | .makeFunc _ _ _=>some .no
 | .load _ a=>match ji pts a with
  |0=>some .hr
  |1=>some .no
  |s+2=>some (.row s false)
 | .store _ a _=>match ji pts a with
  |0=>some .hw
  |1=>none
  |s+2=>some (.row s true)
 | .alloc _ | .box _ _=>match o.dst with
  |some d=>if pts.getD d 0=d+2 then some (.row d true)else some .hw
  |none=>none
 | .buildSlice _ _ _ | .makeMap _ _ | .makeSlice _ _ _ | .mapUpdate _ _ _ _ | .mapEntry _ _ _ | .entryStore _ _ _ _ | .insert _ _ _ _=>some .hw
 | .lookup _ _ _ _ | .slice _ _ _ _ _=>some .hr
 | .call c=>match c.callee with
  | .builtin b=>match b with
   | .append | .copy | .delete=>some .hw
   | .len=>some .hr
   | .cap | .min | .max=>some .no
   |_=>none
  | .value f=>match f with
   | .func g=>some (if N g=some c.args.size then .neu g else .hw)
   |_=>some .hw
  |_=>none
 |_=>none
noncomputable def bD(ops:Array Oper)(o:Oper):List Nat:=
 (o.op.operands.toList.filterMap fun x=>match x with
  | .tmp t=>some t
  |_=>none) ++
 match o.guard with
 |some (j,_)=>((ops[j]?).bind (·.dst)).toList
 |none=>[]
section
variable [Val]
theorem execOp_congr{ρ ρ':Operand→Value}{o:Oper}(N:FuncId→Option Nat)(pts:List Nat)(hm:aG N pts o≠none)(h:∀x∈o.op.operands.toList,ρ x=ρ' x):execOp ρ o=execOp ρ' o:=by
 obtain⟨dst,op,ty,pos,after,guard⟩:=o
 have arr:∀ {xs:Array Operand},(∀x∈xs.toList,ρ x=ρ' x)→xs.map ρ=xs.map ρ':=by
  intro xs hx
  apply Array.toList_inj.1
  rw[Array.toList_map,Array.toList_map]
  exact List.map_congr_left hx
 have prt:∀ {xs:Array (Nat×Operand)},(∀x∈xs.toList.map (·.2),ρ x=ρ' x)→(xs.map fun(i,x)=>(i,ρ x))=(xs.map fun(i,x)=>(i,ρ' x)):=by
  intro xs hx
  apply Array.toList_inj.1
  rw[Array.toList_map,Array.toList_map]
  refine List.map_congr_left fun p hp=>?_
  show(p.1,ρ p.2)=(p.1,ρ' p.2)
  rw[hx p.2 (List.mem_map.2 ⟨p,hp,rfl⟩)]
 have opt:∀ {r:Option Operand},(∀x∈r.toArray.toList,ρ x=ρ' x)→r.map ρ=r.map ρ':=by
  intro r hx
  cases r with
  |none=>rfl
  |some y=>simp[hx y (by simp)]
 cases op<;>simp only[aG,ne_eq,not_true_eq_false,not_false_eq_true,reduceCtorEq]at hm<;>simp only[Op.operands]at h
 case move x=>simp only[execOp,h x (by simp)]
 case assign x=>simp only[execOp,h x (by simp)]
 case pick c a b=>simp only[execOp,h c (by simp),h a (by simp),h b (by simp)]
 case alloc t=>rfl
 case box t x=>simp only[execOp,h x (by simp)]
 case build t ps=>simp only[execOp,prt (by simpa using h)]
 case buildSlice t n ps=>simp only[execOp,prt (by simpa using h)]
 case load t a=>simp only[execOp,h a (by simp)]
 case store t a x=>simp only[execOp,h a (by simp),h x (by simp)]
 case nilCheck x=>simp only[execOp,h x (by simp)]
 case binOp op t x y yt=>simp only[execOp,h x (by simp),h y (by simp)]
 case unOp op t x=>simp only[execOp,h x (by simp)]
 case convert s d x=>simp only[execOp,h x (by simp)]
 case makeFunc fn a b=>simp only[execOp,arr (fun x hx=>h x (by simp;exact .inl (by simpa using hx))),arr (fun x hx=>h x (by simp;exact .inr (by simpa using hx)))]
 case makeMap t r=>simp only[execOp,opt h]
 case makeSlice t a b=>simp only[execOp,h a (by simp),h b (by simp)]
 case slice t x a b c=>
  simp only[Array.toList_append,List.mem_append]at h
  simp only[execOp,h x (by simp),opt (fun y hy=>h y (.inl (.inl (.inr hy)))),opt (fun y hy=>h y (.inl (.inr hy))),opt (fun y hy=>h y (.inr hy))]
 case fieldAddr t x f=>simp only[execOp,h x (by simp)]
 case field t x f=>simp only[execOp,h x (by simp)]
 case indexAddr t x i=>simp only[execOp,h x (by simp),h i (by simp)]
 case index t x i=>simp only[execOp,h x (by simp),h i (by simp)]
 case lookup t x i ok=>simp only[execOp,h x (by simp),h i (by simp)]
 case mapUpdate t m k v=>simp only[execOp,h m (by simp),h k (by simp),h v (by simp)]
 case insert t m k v=>simp only[execOp,h m (by simp),h k (by simp),h v (by simp)]
 case mapEntry t m k=>simp only[execOp,h m (by simp),h k (by simp)]
 case entryStore t m s v=>simp only[execOp,h m (by simp),h s (by simp),h v (by simp)]
 case extract t i=>simp only[execOp,h t (by simp)]
 case call c=>
  have hres:resolve ρ c ty=resolve ρ' c ty:=by
   unfold resolve
   simp only[Call.operands,Array.toList_append,List.mem_append]at h
   rw[arr (fun x hx=>h x (.inr hx))]
   cases hc:c.callee with
   |builtin b=>rfl
   |value f=>simp only[hc]at h ⊢;rw[h f (.inl (by simp))]
   |invoke r m=>simp only[hc]at h ⊢;rw[h r (.inl (by simp))]
  simp only[execOp,hres]
theorem gj{C:Cfg}{ρ ρ':Operand→Value}{o:Oper}(N:FuncId→Option Nat)(pts:List Nat)(hm:aG N pts o≠none)(h:∀x∈o.op.operands.toList,ρ x=ρ' x):au C pts ρ o=au C pts ρ' o:=by
 have hx:=execOp_congr N pts hm h
 have hall:∀(f:Value→Bool),(o.op.operands.toList.all fun x=>f (ρ x))=(o.op.operands.toList.all fun x=>f (ρ' x)):=by
  intro f
  rw[Bool.eq_iff_iff,List.all_eq_true,List.all_eq_true]
  exact⟨fun g x hx=>by rw[←h x hx];exact g x hx,fun g x hx=>by rw[h x hx];exact g x hx⟩
 have hp:bN C ρ o=bN C ρ' o:=by
  unfold bN
  rw[hall flat,hx]
 have opt:∀ {r:Option Operand},(∀x∈r.toArray.toList,ρ x=ρ' x)→r.map ρ=r.map ρ':=by
  intro r hx
  cases r with
  |none=>rfl
  |some y=>simp[hx y (by simp)]
 have prt:∀ {xs:Array (Nat×Operand)},(∀x∈xs.toList.map (·.2),ρ x=ρ' x)→(xs.toList.map fun p=>(p.1,ρ p.2))=(xs.toList.map fun p=>(p.1,ρ' p.2)):=by
  intro xs hx
  refine List.map_congr_left fun p hp=>?_
  rw[hx p.2 (List.mem_map.2 ⟨p,hp,rfl⟩)]
 have pal:∀(f:Value→Bool) {xs:Array (Nat×Operand)},(∀x∈xs.toList.map (·.2),ρ x=ρ' x)→(xs.toList.all fun p=>f (ρ p.2))=(xs.toList.all fun p=>f (ρ' p.2)):=by
  intro f xs hx
  rw[Bool.eq_iff_iff,List.all_eq_true,List.all_eq_true]
  have hh:∀p∈xs.toList,ρ p.2=ρ' p.2:=fun p hp=>hx p.2 (List.mem_map.2 ⟨p,hp,rfl⟩)
  exact⟨fun g p hp=>by rw[←hh p hp];exact g p hp,fun g p hp=>by rw[hh p hp];exact g p hp⟩
 obtain⟨dst,op,ty,pos,after,guard⟩:=o
 cases op<;>simp only[aG,ne_eq,not_true_eq_false,not_false_eq_true,reduceCtorEq]at hm<;>simp only[Op.operands]at h
 case move x=>simp only[au,h x (by simp)]
 case assign x=>simp only[au,h x (by simp)]
 case pick c a b=>simp only[au,h c (by simp),h a (by simp),h b (by simp)]
 case alloc t=>rfl
 case box t x=>simp only[au,h x (by simp)]
 case build t ps=>simp only[au,prt (by simpa using h),pal (fun v=>!aT v) (by simpa using h)]
 case buildSlice t n ps=>simp only[au,prt (by simpa using h),pal (fun v=>v.cells.toList.all aY) (by simpa using h)]
 case load t a=>simp only[au,h a (by simp)]
 case store t a x=>simp only[au,h a (by simp),h x (by simp)]
 case nilCheck x=>simp only[au,h x (by simp)]
 case binOp op t x y yt=>simp only[au,h x (by simp),h y (by simp),hp]
 case unOp op t x=>simp only[au,hp]
 case convert s d x=>simp only[au,hp]
 case makeFunc fn a b=>
  have e1:a.map ρ=a.map ρ':=Array.toList_inj.1 (by rw[Array.toList_map,Array.toList_map];exact List.map_congr_left fun x hx=>h x (by simp;exact .inl (by simpa using hx)))
  have e2:b.map ρ=b.map ρ':=Array.toList_inj.1 (by rw[Array.toList_map,Array.toList_map];exact List.map_congr_left fun x hx=>h x (by simp;exact .inr (by simpa using hx)))
  simp only[au,e1,e2]
 case makeMap t r=>simp only[au,opt h]
 case makeSlice t a b=>simp only[au,h a (by simp),h b (by simp)]
 case slice t x a b c=>
  simp only[Array.toList_append,List.mem_append]at h
  simp only[au,h x (by simp),opt (fun y hy=>h y (.inl (.inl (.inr hy)))),opt (fun y hy=>h y (.inl (.inr hy))),opt (fun y hy=>h y (.inr hy)),hp]
 case fieldAddr t x f=>simp only[au,h x (by simp)]
 case field t x f=>simp only[au,h x (by simp)]
 case indexAddr t x i=>simp only[au,h x (by simp),h i (by simp)]
 case index t x i=>simp only[au,h x (by simp),h i (by simp)]
 case lookup t x i ok=>simp only[au,h x (by simp),h i (by simp)]
 case mapUpdate t m k v=>simp only[au,h m (by simp),h k (by simp),h v (by simp)]
 case insert t m k v=>simp only[au,h m (by simp),h k (by simp),h v (by simp)]
 case mapEntry t m k=>simp only[au,h m (by simp),h k (by simp)]
 case entryStore t m s v=>simp only[au,h m (by simp),h s (by simp),h v (by simp)]
 case extract t i=>simp only[au,h t (by simp)]
 case call c=>
  simp only[Call.operands,Array.toList_append,List.mem_append]at h
  have e1:c.args.toList.map ρ=c.args.toList.map ρ':=List.map_congr_left fun x hx=>h x (.inr hx)
  have e2:∀b,aV C ρ b (c.args.toList.map ρ) c.argTypes ⟨dst,.call c,ty,pos,after,guard⟩=aV C ρ' b (c.args.toList.map ρ') c.argTypes ⟨dst,.call c,ty,pos,after,guard⟩:=by
   intro b
   unfold aV
   rw[e1,hp]
  simp only[au,eA]
  cases hc:c.callee with
  |builtin b=>exact e2 b
  |value f=>simp only[hc]at h ⊢;rw[e1,h f (.inl (by simp))]
  |invoke r m=>rfl
structure Ef where
 v:Value
 rw:Option (Nat×Option (List Value))
 hp:Option (List HObj)
noncomputable def Ef.on(e:Ef)(dst:Option Tmp)(σ:St):St:=
 ({ tmps:=σ.tmps,loc:=(match e.rw with|some p=>σ.loc.set p.1 p.2|none=>σ.loc),heap:=e.hp.getD σ.heap }:St).put dst e.v
def Sees(N:FuncId→Option Nat)(pts:List Nat)(ops:Array Oper)(o:Oper)(σ τ:St):Prop:=
 (∀t∈bD ops o,τ.tmps[t]? = σ.tmps[t]?)∧match aG N pts o with
 |some (.row s _)=>τ.loc[s]? = σ.loc[s]?
 |some .hr=>τ.heap=σ.heap
 |some .hw=>τ.heap=σ.heap
 |_=>True
def NeuB(N:FuncId→Option Nat)(B:Below):Prop:=∀f args H r H',N f=some args.length→B.call f args H r H'→H'=H∧∀H2,B.call f args H2 r H2
def Touch(m:Option MC)(e:Ef):Prop:=
 (∀p,e.rw=some p→m=some (.row p.1 true))∧(e.hp≠none→m=some .hw)
theorem iB{σ τ:St}{x:Operand}(h:∀t,x = .tmp t→τ.tmps[t]? = σ.tmps[t]?):oval τ.tmps x=oval σ.tmps x:=by
 cases x with
 |tmp t=>simp[oval,List.getD_eq_getElem?_getD,h t rfl]
 |_=>rfl
theorem qS{N:FuncId→Option Nat}{pts:List Nat}{ops:Array Oper}{o:Oper}{σ τ:St}(h:Sees N pts ops o σ τ):∀x∈o.op.operands.toList,oval τ.tmps x=oval σ.tmps x:=by
 intro x hx
 refine iB fun t ht=>h.1 t ?_
 subst ht
 simp only[bD,List.mem_append,List.mem_filterMap]
 exact .inl ⟨.tmp t,hx,rfl⟩
theorem jg{N:FuncId→Option Nat}{pts:List Nat}{ops:Array Oper}{o:Oper}{σ τ:St}(h:Sees N pts ops o σ τ):bF ops τ.tmps o=bF ops σ.tmps o:=by
 unfold bF
 split
 ·rfl
 ·rename_i j want hg
  cases hd:(ops[j]?).bind (·.dst)with
  |none=>rfl
  |some d=>
   simp only[Option.bind_some]
   rw[h.1 d (by simp[bD,hg,hd])]
noncomputable def Fits(N:FuncId→Option Nat)(m:Option MC):Eff→Prop
 | .val _=>True
 | .lnew s _=>m=some (.row s true)
 | .lget s _=>m=some (.row s false)
 | .lset s _=>m=some (.row s true)
 | .hget _=>m=some .hr
 | .hop _=>m=some .hw
 | .call f args=>(m=some (.neu f)∧N f=some args.length)∨m=some .hw
 | .yield _ _=>m=some .hw
theorem dv{N:FuncId→Option Nat}{m:Option MC}{x:Option Value}{e:Eff}(h:x.map Eff.val=some e):Fits N m e:=by
 obtain⟨v,_,rfl⟩:=Option.map_eq_some_iff.1 h
 trivial
theorem di{C:Cfg}{ρ:Operand→Value}{o:Oper}{N:FuncId→Option Nat}{m:Option MC}{e:Eff}(h:bN C ρ o=some e):Fits N m e:=by
 unfold bN at h
 split at h
 ·split at h
  ·split at h
   ·cases h;trivial
   ·cases h
  ·cases h
 ·cases h
theorem fits_or{N:FuncId→Option Nat}{m:Option MC}{a:Option Value}{b:Option Eff}{e:Eff}(hb:b=some e→Fits N m e)(h:kF a b=some e):Fits N m e:=by
 unfold kF at h
 split at h
 ·cases h;trivial
 ·exact hb h
theorem jX{C:Cfg}{N:FuncId→Option Nat}{pts:List Nat}{o:Oper}{t:TypeId}{v:Value}{e:Eff}(ho:(∃y,o.op = .box t y)∨o.op = .alloc t)(h:bM C pts o.dst t v=some e):Fits N (aG N pts o) e:=by
 unfold bM at h
 split at h
 ·cases h
 ·split at h
  ·cases h
  ·rename_i d hd
   split at h
   ·cases h
   ·split at h
    ·rename_i hp
     cases h
     rcases ho with⟨y,ho⟩|ho<;>(simp only[Fits,aG,ho,hd];rw[if_pos hp])
    ·rename_i hp
     cases h
     rcases ho with⟨y,ho⟩|ho<;>(simp only[Fits,aG,ho,hd];rw[if_neg hp])
theorem fo{C:Cfg}{N:FuncId→Option Nat}{pts:List Nat}{ρ:Operand→Value}{o:Oper}{e:Eff}(hρ:∀g,ρ (.func g) = .func (.func g) #[] #[])(hm:aG N pts o≠none)(he:au C pts ρ o=some e):Fits N (aG N pts o) e:=by
 unfold au at he
 split at he
 ·cases he;trivial
 ·cases he;trivial
 ·split at he
  ·cases he;trivial
  ·cases he
 ·rename_i t ho
  obtain⟨z,_,he⟩:=Option.bind_eq_some_iff.1 he
  exact jX (.inr ho) he
 ·rename_i t x ho
  exact jX (.inl ⟨x,ho⟩) he
 ·split at he
  ·exact dv he
  ·cases he
 ·rename_i t n ps ho
  split at he
  ·obtain⟨r,_,rfl⟩:=Option.map_eq_some_iff.1 he
   simp only[Fits,aG,ho]
  ·cases he
 ·rename_i t a ho
  unfold da at he
  split at he
  ·rename_i hk
   split at he
   ·cases he
    simp only[Fits,aG,ho,hk]
   ·obtain⟨p,_,rfl⟩:=Option.map_eq_some_iff.1 he
    simp only[Fits,aG,ho,hk]
  ·obtain⟨p,_,he⟩:=Option.bind_eq_some_iff.1 he
   exact dv he
  ·rename_i s hk
   obtain⟨p,_,rfl⟩:=Option.map_eq_some_iff.1 he
   simp only[Fits,aG,ho,hk]
 ·rename_i t a x ho
  unfold dC at he
  split at he
  ·cases he
  ·split at he
   ·rename_i hk
    obtain⟨p,_,rfl⟩:=Option.map_eq_some_iff.1 he
    simp only[Fits,aG,ho,hk]
   ·cases he
   ·rename_i s hk
    obtain⟨p,_,rfl⟩:=Option.map_eq_some_iff.1 he
    simp only[Fits,aG,ho,hk]
 ·split at he<;>cases he<;>trivial
 ·split at he
  ·split at he
   ·split at he
    ·cases he;trivial
    ·cases he
   ·exact di he
  ·split at he
   ·split at he
    ·cases he;trivial
    ·cases he
   ·exact di he
  ·exact di he
 ·split at he
  ·cases he
  ·cases he;trivial
 ·rename_i t r ho
  split at he
  ·cases he;simp only[Fits,aG,ho]
  ·cases he
 ·rename_i t l c ho
  cases he;simp only[Fits,aG,ho]
 ·rename_i t x lo hi mx ho
  split at he
  ·split at he
   ·exact dv he
   ·cases he;simp only[Fits,aG,ho]
  ·exact fits_or di he
 ·exact dv he
 ·exact dv he
 ·exact dv he
 ·exact dv he
 ·rename_i t m k ok ho
  split at he
  ·exact dv he
  ·cases he;simp only[Fits,aG,ho]
 ·rename_i t m k v ho
  cases he;simp only[Fits,aG,ho]
 ·rename_i t m k v ho
  cases he;simp only[Fits,aG,ho]
 ·rename_i t m k ho
  cases he;simp only[Fits,aG,ho]
 ·rename_i t m s v ho
  cases he;simp only[Fits,aG,ho]
 ·split at he
  ·split at he
   ·cases he
   ·exact dv he
  ·cases he
 ·rename_i c ho
  unfold eA at he
  simp only at he
  cases hc:c.callee with
  |invoke r m=>simp only[hc]at he;cases he
  |builtin b=>
   simp only[hc]at he
   unfold aV at he
   split at he
   ·split at he
    ·cases he
    ·cases he;simp only[Fits,aG,ho,hc]
   ·split at he
    ·cases he;trivial
    ·cases he;simp only[Fits,aG,ho,hc]
    ·cases he;trivial
    ·exact di he
   ·split at he
    ·cases he;trivial
    ·cases he;trivial
    ·cases he;trivial
    ·cases he
   ·cases he;simp only[Fits,aG,ho,hc]
   ·cases he;simp only[Fits,aG,ho,hc]
   ·exact di he
  |value f=>
   simp only[hc]at he
   split at he
   ·cases he
   ·split at he
    ·rename_i g first cap hf
     split at he
     ·cases he
      cases f with
      |func g'=>
       rw[hρ]at hf
       cases hf
       simp only[aG,ho,hc,Fits]
       by_cases hN:N g=some c.args.size
       ·rw[if_pos hN];exact .inl ⟨rfl,by rw[hN];simp⟩
       ·rw[if_neg hN];exact .inr rfl
      |_=>simp only[Fits,aG,ho,hc,or_true]
     ·cases he
    ·rename_i l first cap hf
     split at he
     ·cases he
      cases f with
      |func g'=>rw[hρ]at hf;cases hf
      |_=>simp only[Fits,aG,ho,hc]
     ·cases he
    ·cases he
 ·exact di he
 ·exact di he
 ·cases he
theorem gT{C:Cfg}{B:Below}{N:FuncId→Option Nat}(hN:NeuB N B){pts:List Nat}{ops:Array Oper}{i:Nat}{o:Oper}(hi:ops[i]? = some o)(hm:aG N pts o≠none){σ σ':St}(hs:av C B pts ops i σ σ') :
  ∃e:Ef,σ'=e.on o.dst σ∧Touch (aG N pts o) e∧∀τ,Sees N pts ops o σ τ→av C B pts ops i τ (e.on o.dst τ):=by
 unfold av at hs
 simp only[hi]at hs
 have val:∀v:Value,σ'=σ.put o.dst v→(∀τ,Sees N pts ops o σ τ→av C B pts ops i τ (τ.put o.dst v))→
   ∃e:Ef,σ'=e.on o.dst σ∧Touch (aG N pts o) e∧∀τ,Sees N pts ops o σ τ→av C B pts ops i τ (e.on o.dst τ):=by
  intro v hv h
  exact⟨⟨v,none,none⟩,hv,⟨fun p hp=>(by cases hp),fun h=>absurd rfl h⟩,h⟩
 split at hs
 ·exact hs.elim
 ·rename_i hw
  refine val undef hs fun τ hτ=>?_
  unfold av
  simp only[hi,jg hτ,hw]
 ·rename_i hw
  have step:∀ {τ τ':St},Sees N pts ops o σ τ→((∃e,au C pts (oval τ.tmps) o=some e∧gI B e o.dst τ τ')∨(∃v,gc C τ.tmps o v∧τ'=τ.put o.dst v))→av C B pts ops i τ τ':=by
   intro τ τ' hτ h
   unfold av
   simp only[hi,jg hτ,hw]
   exact h
  rcases hs with⟨e,he,hr⟩|⟨v,hv,rfl⟩
  ·have heτ:∀τ,Sees N pts ops o σ τ→au C pts (oval τ.tmps) o=some e:=fun τ hτ=>by
    rw[gj N pts hm (qS hτ)];exact he
   cases e with
   |val v=>
    obtain⟨p,hp,rfl⟩:=hr
    cases hp
    exact val v rfl fun τ hτ=>step hτ (.inl ⟨_,heτ τ hτ,_,rfl,rfl⟩)
   |lnew s vs=>
    obtain⟨p,hp,rfl⟩:=hr
    simp only[aK]at hp
    split at hp
    ·rename_i hloc
     cases hp
     have hclass:aG N pts o=some (.row s true):=fo (fun _=>rfl) hm he
     refine⟨⟨.pointer (some ⟨s,0,some 0⟩),some (s,some vs),none⟩,rfl,⟨fun p hp=>by cases hp;exact hclass,fun h=>absurd rfl h⟩,fun τ hτ=>step hτ (.inl ⟨_,heτ τ hτ,({ τ with loc:=τ.loc.set s (some vs) },.pointer (some ⟨s,0,some 0⟩)),?_,rfl⟩)⟩
     have:=hτ.2
     rw[hclass]at this
     simp only[aK,this,hloc]
    ·cases hp
   |lget s f=>
    obtain⟨p,hp,rfl⟩:=hr
    simp only[aK]at hp
    split at hp
    ·rename_i vs hloc
     obtain⟨v,hv,rfl⟩:=Option.map_eq_some_iff.1 hp
     have hclass:aG N pts o=some (.row s false):=fo (fun _=>rfl) hm he
     refine val v rfl fun τ hτ=>step hτ (.inl ⟨_,heτ τ hτ,(τ,v),?_,rfl⟩)
     have:=hτ.2
     rw[hclass]at this
     simp only[aK,this,hloc,hv,Option.map_some]
    ·cases hp
   |lset s f=>
    obtain⟨p,hp,rfl⟩:=hr
    simp only[aK]at hp
    split at hp
    ·rename_i vs hloc
     obtain⟨vs',hv,rfl⟩:=Option.map_eq_some_iff.1 hp
     have hclass:aG N pts o=some (.row s true):=fo (fun _=>rfl) hm he
     refine⟨⟨undef,some (s,some vs'),none⟩,rfl,⟨fun p hp=>by cases hp;exact hclass,fun h=>absurd rfl h⟩,fun τ hτ=>step hτ (.inl ⟨_,heτ τ hτ,({ τ with loc:=τ.loc.set s (some vs') },undef),?_,rfl⟩)⟩
     have:=hτ.2
     rw[hclass]at this
     simp only[aK,this,hloc,hv,Option.map_some]
    ·cases hp
   |hget f=>
    obtain⟨p,hp,rfl⟩:=hr
    simp only[aK]at hp
    obtain⟨v,hv,rfl⟩:=Option.map_eq_some_iff.1 hp
    have hclass:aG N pts o=some .hr:=fo (fun _=>rfl) hm he
    refine val v rfl fun τ hτ=>step hτ (.inl ⟨_,heτ τ hτ,(τ,v),?_,rfl⟩)
    have:=hτ.2
    rw[hclass]at this
    simp only[aK,this,hv,Option.map_some]
   |hop f=>
    obtain⟨p,hp,rfl⟩:=hr
    simp only[aK]at hp
    obtain⟨q,hv,rfl⟩:=Option.map_eq_some_iff.1 hp
    have hclass:aG N pts o=some .hw:=fo (fun _=>rfl) hm he
    refine⟨⟨q.2,none,some q.1⟩,rfl,⟨fun p hp=>(by cases hp),fun _=>hclass⟩,fun τ hτ=>step hτ (.inl ⟨_,heτ τ hτ,({ τ with heap:=q.1 },q.2),?_,rfl⟩)⟩
    have:=hτ.2
    rw[hclass]at this
    simp only[aK,this,hv,Option.map_some]
   |call f args=>
    obtain⟨r,H,hc,rfl⟩:=hr
    have hclass:(aG N pts o=some (.neu f)∧N f=some args.length)∨aG N pts o=some .hw:=fo (fun _=>rfl) hm he
    rcases hclass with⟨hclass,hf⟩|hclass
    ·obtain⟨rfl,h2⟩:=hN f args _ r H hf hc
     exact val r rfl fun τ hτ=>step hτ (.inl ⟨_,heτ τ hτ,r,τ.heap,h2 τ.heap,rfl⟩)
    ·refine⟨⟨r,none,some H⟩,rfl,⟨fun p hp=>(by cases hp),fun _=>hclass⟩,fun τ hτ=>step hτ (.inl ⟨_,heτ τ hτ,r,H,?_,rfl⟩)⟩
     have:=hτ.2
     rw[hclass]at this
     rw[this];exact hc
   |yield l args=>
    obtain⟨r,H,hc,rfl⟩:=hr
    have hclass:aG N pts o=some .hw:=fo (fun _=>rfl) hm he
    refine⟨⟨r,none,some H⟩,rfl,⟨fun p hp=>(by cases hp),fun _=>hclass⟩,fun τ hτ=>step hτ (.inl ⟨_,heτ τ hτ,r,H,?_,rfl⟩)⟩
    have:=hτ.2
    rw[hclass]at this
    rw[this];exact hc
  ·refine val v rfl fun τ hτ=>step hτ (.inr ⟨v,?_,rfl⟩)
   obtain⟨h1,h2,h3,h4⟩:=hv
   have hops:=qS hτ
   refine⟨h1,?_,h3,fun w=>?_⟩
   ·rw[List.all_eq_true]at h2 ⊢
    intro x hx
    rw[hops x hx];exact h2 x hx
   ·rw[execOp_congr N pts hm (ρ':=fun x=>den (oval σ.tmps x)) fun x hx=>by rw[hops x hx]]
    exact h4 w
noncomputable def MC.ok2:MC→MC→Bool
 | .no,_=>true
 |_,.no=>true
 | .row s w,.row s' w'=>!Nat.beq s s'||(!w && !w')
 | .row _ _,_=>true
 |_,.row _ _=>true
 | .neu _,_=>true
 |_,.neu _=>true
 | .hr,.hr=>true
 |_,_=>false
noncomputable def cw(d:Option Tmp)(l:List Nat):Bool:=match d with
 |some d=>!l.contains d
 |none=>true
noncomputable def cd(a b:Option Tmp):Bool:=match a,b with
 |some a,some b=>!Nat.beq a b
 |_,_=>true
noncomputable def rt(N:FuncId→Option Nat)(pts:List Nat)(ops:Array Oper)(a b:Oper):Bool:=
 match aG N pts a,aG N pts b with
 |some m,some n=>(m.ok2 n||en a b)&&cw a.dst (bD ops b)&&cw b.dst (bD ops a)&&cd a.dst b.dst
 |_,_=>false
theorem kH{σ:St}{d:Option Tmp}{v:Value}{t:Nat}(h:∀x,d=some x→x≠t):(σ.put d v).tmps[t]? = σ.tmps[t]?:=by
 cases d with
 |none=>rfl
 |some x=>simp only[St.put];rw[List.getElem?_set_ne (h x rfl)]
theorem nn{σ:St}{d:Option Tmp}{v:Value}:(σ.put d v).loc=σ.loc:=by cases d<;>rfl
theorem dy{σ:St}{d:Option Tmp}{v:Value}:(σ.put d v).heap=σ.heap:=by cases d<;>rfl
theorem np{σ:St}{d:Option Tmp}{v:Value}:(σ.put d v).tmps=(match d with|some d=>σ.tmps.set d v|none=>σ.tmps):=by cases d<;>rfl
theorem on_tmps{e:Ef}{d:Option Tmp}{σ:St}:(e.on d σ).tmps=(match d with|some d=>σ.tmps.set d e.v|none=>σ.tmps):=by unfold Ef.on;rw[np]
theorem on_loc{e:Ef}{d:Option Tmp}{σ:St}:(e.on d σ).loc=(match e.rw with|some p=>σ.loc.set p.1 p.2|none=>σ.loc):=by unfold Ef.on;rw[nn]
theorem nj{e:Ef}{d:Option Tmp}{σ:St}:(e.on d σ).heap=e.hp.getD σ.heap:=by unfold Ef.on;rw[dy]
theorem unseen{N:FuncId→Option Nat}{pts:List Nat}{ops:Array Oper}{a b:Oper}{m n:MC}(ha:aG N pts a=some m)(hb:aG N pts b=some n)(hok:m.ok2 n=true∨n.ok2 m=true)
  (hd:cw a.dst (bD ops b)=true) {e:Ef} (ht:Touch (aG N pts a) e) (σ:St):Sees N pts ops b σ (e.on a.dst σ):=by
 refine⟨fun t hr=>?_,?_⟩
 ·unfold Ef.on
  refine kH fun x hx he=>?_
  subst he
  rw[hx]at hd
  simp only[cw,Bool.not_eq_true',List.contains_eq_mem,decide_eq_false_iff_not]at hd
  exact hd hr
 ·rw[ha]at ht
  rw[hb]
  cases n with
  |no=>trivial
  |neu f=>trivial
  |row s w=>
   show(e.on a.dst σ).loc[s]? = _
   rw[on_loc]
   cases hrw:e.rw with
   |none=>rfl
   |some p=>
    have hm:=ht.1 p hrw
    cases hm
    have:p.1≠s:=by
     intro he
     subst he
     rcases hok with h|h<;>simp[MC.ok2]at h
    show(σ.loc.set p.1 p.2)[s]? = _
    rw[List.getElem?_set_ne this]
  |hr=>
   show(e.on a.dst σ).heap=_
   rw[nj]
   cases hh:e.hp with
   |none=>rfl
   |some H=>
    have hm:=ht.2 (by rw[hh];simp)
    cases hm
    rcases hok with h|h<;>cases h
  |hw=>
   show(e.on a.dst σ).heap=_
   rw[nj]
   cases hh:e.hp with
   |none=>rfl
   |some H=>
    have hm:=ht.2 (by rw[hh];simp)
    cases hm
    rcases hok with h|h<;>cases h
theorem set_comm{α:Type}(l:List α){i j:Nat}(a b:α)(h:i≠j):(l.set i a).set j b=(l.set j b).set i a:=List.set_comm _ _ h
theorem on_comm{N:FuncId→Option Nat}{pts:List Nat}{a b:Oper}{m n:MC}(ha:aG N pts a=some m)(hb:aG N pts b=some n)(hok:m.ok2 n=true)(hd:cd a.dst b.dst=true){e f:Ef}
  (ht:Touch (aG N pts a) e) (hu:Touch (aG N pts b) f) (σ:St):f.on b.dst (e.on a.dst σ)=e.on a.dst (f.on b.dst σ):=by
 have h1:(f.on b.dst (e.on a.dst σ)).tmps=(e.on a.dst (f.on b.dst σ)).tmps:=by
  simp only[on_tmps]
  cases hx:a.dst with
  |none=>rfl
  |some x=>
   cases hy:b.dst with
   |none=>rfl
   |some y=>
    rw[hx,hy]at hd
    have:x≠y:=by
     intro he;subst he;simp[cd]at hd
    exact set_comm _ _ _ this
 have h2:(f.on b.dst (e.on a.dst σ)).loc=(e.on a.dst (f.on b.dst σ)).loc:=by
  simp only[on_loc]
  cases hx:e.rw with
  |none=>rfl
  |some p=>
   cases hy:f.rw with
   |none=>rfl
   |some q=>
    have e1:=ht.1 p hx
    have e2:=hu.1 q hy
    rw[ha]at e1
    rw[hb]at e2
    cases e1;cases e2
    have:p.1≠q.1:=by
     intro he
     rw[he]at hok
     simp[MC.ok2]at hok
    exact set_comm _ _ _ this
 have h3:(f.on b.dst (e.on a.dst σ)).heap=(e.on a.dst (f.on b.dst σ)).heap:=by
  simp only[nj]
  cases hx:e.hp with
  |none=>rfl
  |some p=>
   cases hy:f.hp with
   |none=>rfl
   |some q=>
    have e1:=ht.2 (by rw[hx];simp)
    have e2:=hu.2 (by rw[hy];simp)
    rw[ha]at e1
    rw[hb]at e2
    cases e1;cases e2
    cases hok
 generalize f.on b.dst (e.on a.dst σ)=x at *
 generalize e.on a.dst (f.on b.dst σ)=y at *
 cases x;cases y
 simp only at h1 h2 h3
 subst h1;subst h2;subst h3
 rfl
theorem mj{a b:Operand}(h:nB a b=true):a=b∧∃t,a = .tmp t:=by
 cases a<;>cases b<;>simp only[nB,Bool.false_eq_true]at h
 exact⟨by rw[Nat.eq_of_beq_eq_true h],_,rfl⟩
theorem gz{ops:Array Oper}{o:Oper}{σ τ:St}(h:∀t∈bD ops o,τ.tmps[t]? = σ.tmps[t]?):bF ops τ.tmps o=bF ops σ.tmps o:=by
 unfold bF
 split
 ·rfl
 ·rename_i j want hg
  cases hd:(ops[j]?).bind (·.dst)with
  |none=>rfl
  |some d=>
   simp only[Option.bind_some]
   rw[h d (by simp[bD,hg,hd])]
theorem jA{ops:Array Oper}{o:Oper}{σ τ:St}(h:∀t∈bD ops o,τ.tmps[t]? = σ.tmps[t]?):∀x∈o.op.operands.toList,oval τ.tmps x=oval σ.tmps x:=by
 intro x hx
 refine iB fun t ht=>h t ?_
 subst ht
 simp only[bD,List.mem_append,List.mem_filterMap]
 exact .inl ⟨.tmp t,hx,rfl⟩
theorem oE{C:Cfg}{B:Below}{N:FuncId→Option Nat}{pts:List Nat}{ops:Array Oper}{i:Nat}{o:Oper}{t:TypeId}{m k:Operand}(hi:ops[i]? = some o)(ho:o.op = .lookup t m k false){σ σ':St}(hs:av C B pts ops i σ σ') :
  ∃v,σ'=σ.put o.dst v∧∀τ:St,(∀t∈bD ops o,τ.tmps[t]? = σ.tmps[t]?)→
   (∀u,bW C t (oval σ.tmps m) (oval σ.tmps k) false σ.heap=some u→bW C t (oval σ.tmps m) (oval σ.tmps k) false τ.heap=some u)→av C B pts ops i τ (τ.put o.dst v):=by
 have hmem:aG N pts o≠none:=by unfold aG;rw[ho];simp
 unfold av at hs
 simp only[hi]at hs
 split at hs
 ·exact hs.elim
 ·rename_i hw
  refine⟨undef,hs,fun τ hτ _=>?_⟩
  unfold av
  simp only[hi,gz hτ,hw]
 ·rename_i hw
  have step:∀ {τ τ':St},(∀t∈bD ops o,τ.tmps[t]? = σ.tmps[t]?)→((∃e,au C pts (oval τ.tmps) o=some e∧gI B e o.dst τ τ')∨(∃v,gc C τ.tmps o v∧τ'=τ.put o.dst v))→av C B pts ops i τ τ':=by
   intro τ τ' hτ h
   unfold av
   simp only[hi,gz hτ,hw]
   exact h
  rcases hs with⟨e,he,hr⟩|⟨v,hv,rfl⟩
  ·have heτ:∀τ:St,(∀t∈bD ops o,τ.tmps[t]? = σ.tmps[t]?)→au C pts (oval τ.tmps) o=some e:=fun τ hτ=>by
    rw[gj N pts hmem (jA hτ)];exact he
   have he':=he
   unfold au at he'
   rw[ho]at he'
   simp only at he'
   split at he'
   ·obtain⟨v,hv,rfl⟩:=Option.map_eq_some_iff.1 he'
    obtain⟨p,hp,rfl⟩:=hr
    cases hp
    exact⟨v,rfl,fun τ hτ _=>step hτ (.inl ⟨_,heτ τ hτ,_,rfl,rfl⟩)⟩
   ·cases he'
    obtain⟨p,hp,rfl⟩:=hr
    simp only[aK]at hp
    obtain⟨v,hv,rfl⟩:=Option.map_eq_some_iff.1 hp
    refine⟨v,rfl,fun τ hτ hl=>step hτ (.inl ⟨_,heτ τ hτ,(τ,v),?_,rfl⟩)⟩
    simp only[aK,hl v hv,Option.map_some]
  ·refine⟨v,rfl,fun τ hτ _=>step hτ (.inr ⟨v,?_,rfl⟩)⟩
   obtain⟨h1,h2,h3,h4⟩:=hv
   have hops:=jA hτ
   refine⟨h1,?_,h3,fun w=>?_⟩
   ·rw[List.all_eq_true]at h2 ⊢
    intro x hx
    rw[hops x hx];exact h2 x hx
   ·rw[execOp_congr N pts hmem (ρ':=fun x=>den (oval σ.tmps x)) fun x hx=>by rw[hops x hx]]
    exact h4 w
theorem rx{C:Cfg}{B:Below}{pts:List Nat}{ops:Array Oper}{i:Nat}{o:Oper}{t:TypeId}{m k:Operand}(hi:ops[i]? = some o)(ho:o.op = .mapEntry t m k){σ σ':St}(hs:av C B pts ops i σ σ') :
  σ'.heap=σ.heap∨∃r,bK C t (oval σ.tmps m) (oval σ.tmps k) σ.heap=some (σ'.heap,r):=by
 unfold av at hs
 simp only[hi]at hs
 split at hs
 ·exact hs.elim
 ·subst hs;exact .inl dy
 ·rcases hs with⟨e,he,hr⟩|⟨v,hv,rfl⟩
  ·unfold au at he
   rw[ho]at he
   simp only[Option.some.injEq]at he
   subst he
   obtain⟨p,hp,rfl⟩:=hr
   simp only[aK]at hp
   obtain⟨q,hq,rfl⟩:=Option.map_eq_some_iff.1 hp
   refine .inr ⟨q.2,?_⟩
   rw[dy]
   exact hq
  ·exact .inl dy
theorem sb{C:Cfg}{B:Below}{N:FuncId→Option Nat}(hN:NeuB N B){pts:List Nat}{ops:Array Oper}{i j:Nat}{a b:Oper}(hi:ops[i]? = some a)(hj:ops[j]? = some b)(hc:en a b=true)
  (c2:cw a.dst (bD ops b)=true) (c3:cw b.dst (bD ops a)=true) (c4:cd a.dst b.dst=true) {σ σ₁ σ':St}
  (h1:av C B pts ops i σ σ₁) (h2:av C B pts ops j σ₁ σ'):∃τ,av C B pts ops j σ τ∧av C B pts ops i τ σ':=by
 unfold en at hc
 split at hc
 ·rename_i t m k ha
  split at hc
  ·rename_i t' m' k' hb
   simp only[Bool.and_eq_true]at hc
   obtain⟨⟨e1,e2⟩,e3⟩:=hc
   have e1:=Nat.eq_of_beq_eq_true e1
   obtain⟨e2,tm,rfl⟩:=mj e2
   obtain⟨e3,tk,rfl⟩:=mj e3
   subst e1 e2 e3
   obtain⟨v,rfl,la⟩:=oE (N:=N) hi ha h1
   have hmb:aG N pts b=some .hw:=by unfold aG;rw[hb]
   obtain⟨f,rfl,tf,lf⟩:=gT hN hj (by rw[hmb];simp) h2
   have hfree:∀ {d:Option Tmp} {l:List Nat},cw d l=true→∀t∈l,∀x,d=some x→x≠t:=by
    intro d l hd t ht x hx he
    subst hx he
    simp only[cw,Bool.not_eq_true',List.contains_eq_mem,decide_eq_false_iff_not]at hd
    exact hd ht
   have s1:Sees N pts ops b (σ.put a.dst v) σ:=by
    refine⟨fun t ht=>(kH (hfree c2 t ht)).symm,?_⟩
    rw[hmb]
    exact dy.symm
   have hstep:=lf σ s1
   refine⟨f.on b.dst σ,hstep,?_⟩
   have hrd:∀t∈bD ops a,(f.on b.dst σ).tmps[t]? = σ.tmps[t]?:=by
    intro t ht
    unfold Ef.on
    rw[kH (hfree c3 t ht)]
   have hrow:f.rw=none:=by
    cases hr:f.rw with
    |none=>rfl
    |some p=>
     have:=tf.1 p hr
     rw[hmb]at this
     cases this
   have hfin:=la (f.on b.dst σ) hrd (fun u hu=>by
    rcases rx hj hb hstep with h|⟨r,h⟩
    ·rw[h];exact hu
    ·exact oD h hu)
   have hcomm:f.on b.dst (σ.put a.dst v)=(f.on b.dst σ).put a.dst v:=by
    unfold Ef.on
    rw[hrow]
    simp only
    cases hx:a.dst with
    |none=>rfl
    |some x=>
     cases hy:b.dst with
     |none=>rfl
     |some y=>
      rw[hx,hy]at c4
      have:x≠y:=by
       intro he;subst he;simp[cd]at c4
      simp only[St.put]
      rw[set_comm _ _ _ this]
   rw[hcomm]
   exact hfin
  ·cases hc
 ·cases hc
theorem swap_ok{C:Cfg}{B:Below}{N:FuncId→Option Nat}(hN:NeuB N B){pts:List Nat}{ops:Array Oper}{i j:Nat}{a b:Oper}(hi:ops[i]? = some a)(hj:ops[j]? = some b)(hc:rt N pts ops a b=true){σ σ₁ σ':St}
  (h1:av C B pts ops i σ σ₁) (h2:av C B pts ops j σ₁ σ'):∃τ,av C B pts ops j σ τ∧av C B pts ops i τ σ':=by
 unfold rt at hc
 split at hc
 ·rename_i m n hm hn
  simp only[Bool.and_eq_true]at hc
  obtain⟨⟨⟨c1,c2⟩,c3⟩,c4⟩:=hc
  rw[Bool.or_eq_true]at c1
  rcases c1 with c1|c1
  case inr=>exact sb hN hi hj c1 c2 c3 c4 h1 h2
  obtain⟨e,rfl,te,le⟩:=gT hN hi (by rw[hm];simp) h1
  obtain⟨f,rfl,tf,lf⟩:=gT hN hj (by rw[hn];simp) h2
  have s1:Sees N pts ops b (e.on a.dst σ) σ:=by
   have:=unseen hm hn (.inl c1) c2 te σ
   refine⟨fun t ht=>(this.1 t ht).symm,?_⟩
   have h:=this.2
   rw[hn]at h ⊢
   cases n<;>first|trivial|exact h.symm
  have s2:Sees N pts ops a σ (f.on b.dst σ):=unseen hn hm (.inr c1) c3 tf σ
  refine⟨f.on b.dst σ,lf σ s1,?_⟩
  rw[on_comm hm hn c1 c4 te tf σ]
  exact le _ s2
 ·cases hc
end
end Sx
end Go.Am

/-
 REGIONS THAT DRAW THEIR ORDER,second part: whatever the order.
-/
namespace Go.Am
namespace Sx
section
variable [Val] {C:Cfg} {B:Below} {N:FuncId→Option Nat} {pts:List Nat} {ops:Array Oper}
theorem lS{i:Nat}{post:List Nat}:∀(pre:List Nat),(∀k∈pre,∀σ σ₁ σ':St,av C B pts ops k σ σ₁→av C B pts ops i σ₁ σ'→∃τ,av C B pts ops i σ τ∧av C B pts ops k τ σ')→
  ∀σ σ':St,cf C B pts ops (pre++i :: post) σ σ'→cf C B pts ops (i :: (pre++post)) σ σ'
 | [],_,σ,σ',h=>h
 |k :: pre,hc,σ,σ',⟨σ₁,h1,h2⟩=>by
  obtain⟨σ₂,h3,h4⟩:=lS pre (fun k hk=>hc k (by simp[hk])) σ₁ σ' h2
  obtain⟨τ,h5,h6⟩:=hc k (by simp) σ σ₁ σ₂ h1 h3
  exact⟨τ,h5,σ₂,h6,h4⟩
inductive Anc(ops:Array Oper)(k:Nat):Nat→Prop
 |edge {i:Nat} {o:Oper} {e:Edge} (ho:ops[i]? = some o) (he:e∈o.after.toList) (hb:Region.binds .any e=true) (hk:e.on=k):Anc ops k i
 |step {i:Nat} {o:Oper} {e:Edge} (ho:ops[i]? = some o) (he:e∈o.after.toList) (hb:Region.binds .any e=true) (h:Anc ops k e.on):Anc ops k i
theorem ancOf_ok{acc:List Nat}(hacc:∀(i k:Nat),(acc.getD i 0).testBit k=true→Anc ops k i){i:Nat}{o:Oper}(ho:ops[i]? = some o){k:Nat}(h:(ancOf acc o).testBit k=true):Anc ops k i:=by
 unfold ancOf at h
 have main:∀(l:List Edge) (m:Nat),(∀e∈l,e∈o.after.toList)→(m.testBit k=true→Anc ops k i)→
   (l.foldl (fun m e=>match Region.binds .any e with
    |true=>Nat.lor (Nat.lor m (Nat.shiftLeft 1 e.on)) (acc.getD e.on 0)
    |false=>m) m).testBit k=true→Anc ops k i:=by
  intro l
  induction l with
  |nil=>intro m _ hm h;exact hm h
  |cons e l ih=>
   intro m hl hm h
   simp only[List.foldl_cons]at h
   refine ih _ (fun e he=>hl e (by simp[he])) (fun hb=>?_) h
   cases hbi:Region.binds .any e with
   |false=>simp only[hbi]at hb;exact hm hb
   |true=>
    simp only[hbi]at hb
    have hb':((m ||| (1 <<< e.on)) ||| acc.getD e.on 0).testBit k=true:=hb
    rw[Nat.testBit_or,Nat.testBit_or,Bool.or_eq_true,Bool.or_eq_true]at hb'
    rcases hb' with(hb'|hb')|hb'
    ·exact hm hb'
    ·rw[Nat.one_shiftLeft,Nat.testBit_two_pow]at hb'
     exact .edge ho (hl e (by simp)) hbi (by simpa using hb')
    ·exact .step ho (hl e (by simp)) hbi (hacc _ _ hb')
 exact main _ 0 (fun _ h=>h) (fun h=>by simp at h) h
theorem pm:∀(l:List Oper) (acc:List Nat),ops.toList.drop acc.length=l→(∀(i k:Nat),(acc.getD i 0).testBit k=true→Anc ops k i)→∀(i k:Nat),((ancs l acc).getD i 0).testBit k=true→Anc ops k i
 | [],acc,_,hacc=>hacc
 |o :: l,acc,hl,hacc=>by
  have ho:ops[acc.length]? = some o:=by
   have:(ops.toList.drop acc.length)[0]? = some o:=by rw[hl];rfl
   simpa using this
  refine pm l (acc++[ancOf acc o]) (by rw[List.length_append,←List.drop_drop,hl];rfl) fun i k h=>?_
  rw[List.getD_eq_getElem?_getD,List.getElem?_append]at h
  split at h
  ·exact hacc i k (by rw[List.getD_eq_getElem?_getD];exact h)
  ·rename_i hge
   by_cases hi:i=acc.length
   ·subst hi
    simp at h
    exact ancOf_ok hacc ho h
   ·rw[List.getElem?_eq_none (by simp;omega)]at h
    simp at h
noncomputable def fg:List Oper→Nat→Bool
 | [],_=>true
 |o :: l,i=>(o.after.toList.all fun e=>!Region.binds .any e||Nat.blt e.on i)&&fg l (i+1)
noncomputable def mG(N:FuncId→Option Nat)(pts:List Nat)(ops:Array Oper)(b:Oper)(m:Nat):List Oper→Nat→Bool
 | [],_=>true
 |a :: l,k=>(Nat.testBit m k||rt N pts ops a b)&&mG N pts ops b m l (k+1)
noncomputable def nl(N:FuncId→Option Nat)(pts:List Nat)(ops:Array Oper)(ms:List Nat):List Oper→List Oper→Nat→Bool
 |_,[],_=>true
 |pre,b :: l,i=>mG N pts ops b (ms.getD i 0) pre 0&&nl N pts ops ms (pre++[b]) l (i+1)
noncomputable def oS(N:FuncId→Option Nat)(pts:List Nat)(ops:Array Oper):Bool:=
 fg ops.toList 0&&nl N pts ops (ancs ops.toList []) [] ops.toList 0
theorem fh:∀ {l:List Oper} {i:Nat},fg l i=true→∀(j:Nat) o,l[j]? = some o→∀e∈o.after.toList,Region.binds .any e=true→e.on<i+j
 | [],i,_,j,o,h,_,_,_=>by simp at h
 |o :: l,i,h,j,p,hj,e,he,hb=>by
  simp only[fg,Bool.and_eq_true,List.all_eq_true]at h
  cases j with
  |zero=>
   simp at hj
   subst hj
   have:=h.1 e he
   rw[hb]at this
   simpa[Nat.blt_eq]using this
  |succ j=>
   have:=fh h.2 j p (by simpa using hj) e he hb
   omega
theorem lz{b:Oper}{m:Nat}:∀ {l:List Oper} {k:Nat},mG N pts ops b m l k=true→∀(j:Nat) a,l[j]? = some a→m.testBit (k+j)=true∨rt N pts ops a b=true
 | [],k,_,j,a,h=>by simp at h
 |a :: l,k,h,j,c,hj=>by
  simp only[mG,Bool.and_eq_true,Bool.or_eq_true]at h
  cases j with
  |zero=>simp at hj;subst hj;exact h.1
  |succ j=>
   have:=lz h.2 j c (by simpa using hj)
   rwa [show k+1+j=k+(j+1)by omega]at this
theorem ma{ms:List Nat}:∀ {l pre:List Oper} {i:Nat},pre.length=i→nl N pts ops ms pre l i=true→∀(j:Nat) b,l[j]? = some b→∀(k:Nat) a,k<i+j→(pre++l)[k]? = some a→(ms.getD (i+j) 0).testBit k=true∨rt N pts ops a b=true
 | [],pre,i,_,_,j,b,h,_,_,_,_=>by simp at h
 |b :: l,pre,i,hp,h,j,c,hj,k,a,hk,ha=>by
  simp only[nl,Bool.and_eq_true]at h
  cases j with
  |zero=>
   simp at hj
   subst hj
   rw[List.getElem?_append_left (by omega)]at ha
   have:=lz h.1 k a ha
   simpa using this
  |succ j=>
   have:=ma (pre:=pre++[b]) (i:=i+1) (by simp[hp]) h.2 j c (by simpa using hj) k a (by omega) (by simpa using ha)
   rwa [show i+1+j=i+(j+1)by omega]at this
theorem rR(h:oS N pts ops=true){i k:Nat}{a b:Oper}(hb:ops[i]? = some b)(ha:ops[k]? = some a)(hk:k<i):Anc ops k i∨rt N pts ops a b=true:=by
 simp only[oS,Bool.and_eq_true]at h
 have:=ma (pre:=[]) (i:=0) rfl h.2 i b (by simpa using hb) k a (by omega) (by simpa using ha)
 rw[Nat.zero_add]at this
 exact this.imp (fun h=>pm ops.toList [] rfl (fun i k h=>by simp at h) i k h) id
theorem rQ(h:oS N pts ops=true){i:Nat}{o:Oper}(ho:ops[i]? = some o){e:Edge}(he:e∈o.after.toList)(hb:Region.binds .any e=true):e.on<i:=by
 simp only[oS,Bool.and_eq_true]at h
 have:=fh h.1 i o (by simpa using ho) e he hb
 omega
noncomputable def unl(n:Nat)(listed:Array Bool):List Nat:=(List.range n).filter fun i=>!listed.getD i true
theorem lr{listed:Array Bool}(hcl:∀(x:Nat) o,listed.getD x true=true→ops[x]? = some o→∀e∈o.after.toList,Region.binds .any e=true→listed.getD e.on false=true){k i:Nat}(h:Anc ops k i)
  (hr:∀o,ops[i]? = some o→∀e∈o.after.toList,Region.binds .any e=true→listed.getD e.on false=true):listed.getD k false=true:=by
 induction h with
 |edge ho he hb hk=>rw[←hk];exact hr _ ho _ he hb
 |step ho he hb h ih=>
  have h1:=hr _ ho _ he hb
  refine ih fun o ho2 e he2 hb2=>hcl _ o ?_ ho2 e he2 hb2
  rename_i e0
  rw[Array.getD_eq_getD_getElem?]at h1 ⊢
  cases hx:listed[e0.on]? with
  |none=>rfl
  |some b=>rw[hx]at h1;exact h1
theorem fk{p:Nat→Bool}{i:Nat}:∀ {l:List Nat},l.Nodup→i∈l.filter p→∃pre post,l.filter p=pre++i :: post∧(l.filter fun j=>p j&&j != i)=pre++post∧(∀k∈pre,k∈l.filter p∧k≠i)
 | [],_,h=>by simp at h
 |x :: l,hn,h=>by
  rw[List.nodup_cons]at hn
  by_cases hx:x=i
  ·subst hx
   have hp:p x=true:=(List.mem_filter.1 h).2
   refine⟨[],l.filter p,by simp[hp],?_,by simp⟩
   simp only[List.nil_append,List.filter_cons,hp,bne_self_eq_false,Bool.and_false,Bool.false_eq_true,if_false]
   refine List.filter_congr fun j hj=>?_
   have:j≠x:=fun e=>hn.1 (e▸hj)
   simp[this]
  ·have h':i∈l.filter p:=by
    rw[List.mem_filter]at h ⊢
    exact⟨(List.mem_cons.1 h.1).resolve_left fun e=>hx e.symm,h.2⟩
   obtain⟨pre,post,e1,e2,e3⟩:=fk hn.2 h'
   by_cases hp:p x=true
   ·refine⟨x :: pre,post,by simp[List.filter_cons,hp,e1],?_,fun k hk=>?_⟩
    ·simp only[List.filter_cons,hp,Bool.true_and,List.cons_append]
     rw[if_pos (by simpa using hx),e2]
    ·rcases List.mem_cons.1 hk with rfl|hk
     ·exact⟨by simp[List.mem_filter,hp],hx⟩
     ·obtain⟨q1,q2⟩:=e3 k hk
      rw[List.mem_filter]at q1 ⊢
      exact⟨⟨by simp[q1.1],q1.2⟩,q2⟩
   ·refine⟨pre,post,by simp[List.filter_cons,hp,e1],?_,fun k hk=>?_⟩
    ·simp only[List.filter_cons,hp,Bool.false_and,Bool.false_eq_true,if_false]
     exact e2
    ·obtain⟨q1,q2⟩:=e3 k hk
     rw[List.mem_filter]at q1 ⊢
     exact⟨⟨by simp[q1.1],q1.2⟩,q2⟩
theorem iW{p:Nat→Bool}:∀ {n:Nat} {pre post:List Nat} {i:Nat},(List.range n).filter p=pre++i :: post→∀k∈pre,k<i:=by
 intro n pre post i h k hk
 have hs:((List.range n).filter p).Pairwise (· < ·):=List.Pairwise.filter _ List.pairwise_lt_range
 rw[h,List.pairwise_append]at hs
 exact hs.2.2 k hk i (by simp)
theorem go_ok(hN:NeuB N B)(hreg:oS N pts ops=true):∀(fuel t:Nat) (listed:Array Bool),listed.size=ops.size→(unl ops.size listed).length=fuel→
  (∀(x:Nat) o,listed.getD x true=true→ops[x]? = some o→∀e∈o.after.toList,Region.binds .any e=true→listed.getD e.on false=true)→
  ∀σ σ':St,cf C B pts ops (unl ops.size listed) σ σ'→cf C B pts ops (Region.linearise.go .any ops fuel t listed []) σ σ'
 |0,t,listed,_,hl,_,σ,σ',h=>by
  have:unl ops.size listed=[]:=List.length_eq_zero_iff.1 hl
  rw[this]at h
  simpa[Region.linearise.go]using h
 |fuel+1,t,listed,hsz,hl,hcl,σ,σ',h=>by
  simp only[Region.linearise.go]
  generalize hrs:((List.range ops.size).filter fun i=>!listed.getD i true&&((ops[i]?).map (·.after.all fun e=>!Region.binds .any e||listed.getD e.on false)).getD false)=rs
  have hready:∀i∈rs,i<ops.size∧listed.getD i true=false∧∀o,ops[i]? = some o→∀e∈o.after.toList,Region.binds .any e=true→listed.getD e.on false=true:=by
   intro i hi
   rw[←hrs,List.mem_filter,List.mem_range]at hi
   obtain⟨h1,h2⟩:=hi
   simp only[Bool.and_eq_true,Bool.not_eq_true']at h2
   refine⟨h1,h2.1,fun o ho e he hb=>?_⟩
   have h3:=h2.2
   rw[ho]at h3
   simp only[Option.map_some,Option.getD_some]at h3
   rw[Array.all_eq_true']at h3
   have:=h3 e (by simpa using he)
   rw[hb]at this
   simpa using this
  have hne:rs≠[]:=by
   have hu:unl ops.size listed≠[]:=by intro e;rw[e]at hl;cases hl
   obtain⟨i0,tl,hu0⟩:=List.exists_cons_of_ne_nil hu
   have hi0:i0∈unl ops.size listed:=by rw[hu0];simp
   have hi1:=hi0
   rw[unl,List.mem_filter,List.mem_range]at hi1
   have hmem:i0∈rs:=by
    rw[←hrs,List.mem_filter,List.mem_range]
    refine⟨hi1.1,?_⟩
    simp only[Bool.and_eq_true]
    refine⟨hi1.2,?_⟩
    have ho:ops[i0]? = some ops[i0]:=by simp[hi1.1]
    rw[ho]
    simp only[Option.map_some,Option.getD_some]
    rw[Array.all_eq_true']
    intro e he
    cases hb:Region.binds .any e with
    |false=>simp
    |true=>
     have hlt:=rQ hreg ho (by simpa using he) hb
     simp only[Bool.not_true,Bool.false_or]
     by_cases hlis:listed.getD e.on true=true
     ·have hs:e.on<listed.size:=by omega
      rw[Array.getD_eq_getD_getElem?]at hlis ⊢
      rw[Array.getElem?_eq_getElem hs]at hlis ⊢
      exact hlis
     ·exfalso
      have hm:e.on∈unl ops.size listed:=by
       rw[unl,List.mem_filter,List.mem_range]
       exact⟨by omega,by simpa using hlis⟩
      rw[hu0]at hm
      rcases List.mem_cons.1 hm with hm|hm
      ·omega
      ·have hs:(unl ops.size listed).Pairwise (· < ·):=List.Pairwise.filter _ List.pairwise_lt_range
       rw[hu0,List.pairwise_cons]at hs
       have:=hs.1 _ hm
       omega
   intro e;rw[e]at hmem;cases hmem
  have hlen:0<rs.length:=List.length_pos_iff.2 hne
  have hget:rs[t%rs.length]? = some (rs[t%rs.length]'(Nat.mod_lt _ hlen)):=List.getElem?_eq_getElem (Nat.mod_lt _ hlen)
  rw[hget]
  simp only
  generalize hi:rs[t%rs.length]'(Nat.mod_lt _ hlen)=i
  have hmem:i∈rs:=by rw[←hi];exact List.getElem_mem _
  obtain⟨i1,i2,i3⟩:=hready i hmem
  rw[linearise_go_acc,List.reverse_singleton,List.singleton_append]
  have hiu:i∈(List.range ops.size).filter fun j=>!listed.getD j true:=by
   rw[List.mem_filter,List.mem_range];exact⟨i1,by simp[i2]⟩
  obtain⟨pre,post,e1,e2,e3⟩:=fk List.nodup_range hiu
  have hord:=iW e1
  have hnew:unl ops.size (listed.setIfInBounds i true)=pre++post:=by
   rw[←e2]
   unfold unl
   refine List.filter_congr fun j hj=>?_
   rw[Array.getD_eq_getD_getElem?,Array.getD_eq_getD_getElem?,Array.getElem?_setIfInBounds]
   by_cases hji:i=j
   ·subst hji
    rw[if_pos rfl,if_pos (by omega)]
    simp
   ·rw[if_neg hji]
    have:(j != i)=true:=by simpa using fun e=>hji e.symm
    simp[this]
  have hmf:=lS (C:=C) (B:=B) (pts:=pts) (ops:=ops) (i:=i) (post:=post) pre (fun k hk σ σ₁ σ' s1 s2=>by
   obtain⟨m1,m2⟩:=e3 k hk
   rw[List.mem_filter,List.mem_range]at m1
   have ha:ops[k]? = some ops[k]:=by simp[m1.1]
   have hb:ops[i]? = some ops[i]:=by simp[i1]
   rcases rR hreg hb ha (hord k hk)with hanc|hcm
   ·exfalso
    have:=lr hcl hanc i3
    have m3:=m1.2
    rw[Array.getD_eq_getD_getElem?]at this m3
    rw[Array.getElem?_eq_getElem (by omega)]at this m3
    simp only[Option.getD_some]at this m3
    rw[this]at m3
    cases m3
   ·exact swap_ok hN ha hb hcm s1 s2) σ σ'
  obtain⟨σ₁,s1,s2⟩:=hmf (by rw[←e1];exact h)
  refine⟨σ₁,s1,go_ok hN hreg fuel _ _ (by simp[hsz]) ?_ ?_ σ₁ σ' (by rw[hnew];exact s2)⟩
  ·rw[hnew]
   have:(unl ops.size listed).length=(pre++post).length+1:=by
    show(List.filter _ _).length=_
    rw[e1];simp;omega
   omega
  ·intro x o hx ho e he hb
   have keep:∀y,listed.getD y false=true→(listed.setIfInBounds i true).getD y false=true:=by
    intro y hy
    rw[Array.getD_eq_getD_getElem?]at hy ⊢
    rw[Array.getElem?_setIfInBounds]
    split
    ·rename_i h1
     subst h1
     rw[if_pos (by omega)];rfl
    ·exact hy
   by_cases hxi:x=i
   ·subst hxi;exact keep _ (i3 o ho e he hb)
   ·refine keep _ (hcl x o ?_ ho e he hb)
    rw[Array.getD_eq_getD_getElem?,Array.getElem?_setIfInBounds,if_neg (fun e=>hxi e.symm)]at hx
    rw[Array.getD_eq_getD_getElem?];exact hx
theorem any_ok(hN:NeuB N B)(hreg:oS N pts ops=true){σ σ':St}(h:cf C B pts ops (List.range ops.size) σ σ'):fT C B pts ops σ σ':=by
 refine .inl fun t=>?_
 have hz:unl ops.size (Array.replicate ops.size false)=List.range ops.size:=by
  unfold unl
  rw[List.filter_eq_self]
  intro i hi
  rw[List.mem_range]at hi
  rw[Array.getD_eq_getD_getElem?,Array.getElem?_replicate,if_pos hi]
  rfl
 refine go_ok hN hreg ops.size t (Array.replicate ops.size false) (by simp) (by rw[hz];simp) (fun x o hx ho=>?_) σ σ' (by rw[hz];exact h)
 have hlt:x<ops.size:=(Array.getElem?_eq_some_iff.1 ho).1
 rw[Array.getD_eq_getD_getElem?,Array.getElem?_replicate,if_pos hlt]at hx
 cases hx
end
end Sx
end Go.Am

/-
 REGIONS THAT DRAW THEIR ORDER,third part: functions that have nothing to do with the heap.
-/
namespace Go.Am
namespace Sx
section
variable [Val] [Kno] {C:Cfg}
def Lo(v:Value):Prop:=match v with
 | .pointer (some p)=>p.spot=some 0
 |_=>True
theorem qL{v:Value}(h:plain v=true):Lo v:=by
 cases v<;>try trivial
 rename_i a
 cases a<;>first|trivial|(simp[plain,fX,scalar,fR]at h)
theorem clearV_lo{keys:List Nat}{v:Value}(h:Lo v):Lo (fV keys v):=by
 unfold fV
 repeat' split
 all_goals first|exact h|trivial
def LoS(as0:List Nat)(σ:St):Prop:=∀a∈as0,∀v,σ.tmps[a]? = some v→Lo v
noncomputable def oH(N:FuncId→Option Nat)(pts as0:List Nat)(o:Oper):Bool:=
 (match aG N pts o with
 |some .no=>true
 |some (.row _ _)=>true
 |some (.neu _)=>true
 |_=>false) &&
 match o.dst with
 |some d=>!as0.contains d||(Nat.beq (pts.getD d 0) (d+2)&&match o.op with
  | .alloc _=>true
  | .box _ _=>true
  |_=>false)
 |none=>true
noncomputable def neuC(N:FuncId→Option Nat)(pts as0:List Nat):Code→Bool
 | .skip | .label _ | .ret | .exit _=>true
 | .seq a b=>neuC N pts as0 a&&neuC N pts as0 b
 | .cond _ a b=>neuC N pts as0 a&&neuC N pts as0 b
 | .block _ b=>neuC N pts as0 b
 | .loop b=>neuC N pts as0 b
 | .scope b=>neuC N pts as0 b
 | .region _ ops _=>ops.toList.all (oH N pts as0)
 |_=>false
noncomputable def eZ(l:List ResultVar):List Nat:=l.filterMap fun r=>match r with
 | .cell a _=>some a
 | .tmp _=>none
noncomputable def neuF(N:FuncId→Option Nat)(C:Cfg)(f:FuncId)(n:Nat):Bool:=
 match C.P.funcs[f]? with
 |some fn=>match fn.body with
  |some b=>neuC N (C.pts f) (eZ fn.results.toList) b&&(eZ fn.results.toList).all fun a=>Nat.ble n a
  |none=>false
 |none=>false
theorem oI{pts:List Nat}{d:Nat}{t:TypeId}{v:Value}{e:Eff}(hp:pts.getD d 0=d+2)(he:bM C pts (some d) t v=some e):∃s vs,e = .lnew s vs:=by
 unfold bM at he
 split at he
 ·cases he
 ·simp only at he
  split at he
  ·cases he
  ·exact⟨_,_,(Option.some.inj he).symm⟩
theorem qN{as0:List Nat}{σ τ:St}{dst:Option Tmp}{v:Value}(h:LoS as0 σ)(ht:τ.tmps=σ.tmps)(hv:(∀d,dst=some d→d∉as0)∨Lo v):LoS as0 (τ.put dst v):=by
 intro a ha x hx
 cases dst with
 |none=>exact h a ha x (by rw[←ht];exact hx)
 |some d=>
  simp only[St.put,List.getElem?_set,ht]at hx
  split at hx
  ·rename_i hd
   subst hd
   split at hx
   ·cases hx
    rcases hv with hv|hv
    ·exact absurd ha (hv _ rfl)
    ·exact hv
   ·cases hx
  ·exact h a ha x hx
theorem qZ{N:FuncId→Option Nat}{B:Below}(hN:NeuB N B){pts as0:List Nat}{ops:Array Oper}(hops:ops.toList.all (oH N pts as0)=true){i:Nat}{σ σ':St}(hl:LoS as0 σ)(h:av C B pts ops i σ σ') :
  σ'.heap=σ.heap∧LoS as0 σ'∧∀H,av C B pts ops i { σ with heap:=H } { σ' with heap:=H }:=by
 cases hi:ops[i]? with
 |none=>
  have:σ'=σ:=by simpa[av,hi]using h
  subst this
  exact⟨rfl,hl,fun H=>by simp[av,hi]⟩
 |some o=>
  have ho:oH N pts as0 o=true:=List.all_eq_true.1 hops o (by
   have:=Array.mem_of_getElem? hi
   simpa using this)
  unfold oH at ho
  rw[Bool.and_eq_true]at ho
  obtain⟨o1,o2⟩:=ho
  have hm:aG N pts o≠none:=by intro e;rw[e]at o1;cases o1
  obtain⟨e,rfl,te,le⟩:=gT hN hi hm h
  have hh:e.hp=none:=by
   cases he:e.hp with
   |none=>rfl
   |some x=>
    have:=te.2 (by rw[he];simp)
    rw[this]at o1;cases o1
  refine⟨by rw[nj,hh];rfl,?_,fun H=>?_⟩
  ·by_cases hd:∀d,o.dst=some d→d∉as0
   ·unfold Ef.on
    exact qN hl rfl (.inl hd)
   · -- a local row is laid
    obtain⟨d,hd⟩:=Classical.not_forall.1 hd
    obtain⟨hdst,hd⟩:=Classical.not_imp.1 hd
    have hd:=Classical.not_not.1 hd
    rw[hdst]at o2
    simp only[List.contains_eq_mem,hd,decide_true,Bool.not_true,Bool.false_or,Bool.and_eq_true]at o2
    have hp:pts.getD d 0=d+2:=by simpa using o2.1
    unfold av at h
    simp only[hi]at h
    split at h
    ·exact h.elim
    ·rw[h];exact qN hl rfl (.inr trivial)
    ·rcases h with⟨ef,h1,h2⟩|⟨v,h1,h2⟩
     ·have hef:∃s vs,ef = .lnew s vs:=by
       have o3:=o2.2
       obtain⟨dst,op,ty,pos,after,guard⟩:=o
       simp only at hdst o3
       subst hdst
       cases op<;>first|cases o3|skip
       ·simp only[au]at h1
        obtain⟨z,_,hz⟩:=Option.bind_eq_some_iff.1 h1
        exact oI hp hz
       ·exact oI hp h1
      obtain⟨s,vs,rfl⟩:=hef
      obtain⟨p,hp1,hp2⟩:=h2
      rw[hp2]
      simp only[aK]at hp1
      split at hp1
      ·cases hp1
       exact qN hl rfl (.inr rfl)
      ·cases hp1
     ·rw[h2]
      exact qN hl rfl (.inr (qL h1.2.2.1))
  ·have hs:Sees N pts ops o σ { σ with heap:=H }:=by
    refine⟨fun t _=>rfl,?_⟩
    cases hmm:aG N pts o with
    |none=>trivial
    |some m=>rw[hmm]at o1;cases m<;>first|trivial|cases o1|rfl
   have:=le _ hs
   have e2:e.on o.dst { σ with heap:=H } = { e.on o.dst σ with heap:=H }:=by
    unfold Ef.on
    rw[hh]
    cases o.dst<;>rfl
   rw[e2]at this
   exact this
theorem pK{N:FuncId→Option Nat}{B:Below}(hN:NeuB N B){pts as0:List Nat}{ops:Array Oper}(hops:ops.toList.all (oH N pts as0)=true):∀(l:List Nat) {σ σ':St},LoS as0 σ→cf C B pts ops l σ σ'→
  σ'.heap=σ.heap∧LoS as0 σ'∧∀H,cf C B pts ops l { σ with heap:=H } { σ' with heap:=H }
 | [],σ,σ',hl,h=>by
  have:σ'=σ:=h
  subst this
  exact⟨rfl,hl,fun H=>rfl⟩
 |i :: l,σ,σ',hl,⟨σ₁,h1,h2⟩=>by
  obtain⟨a1,a2,a3⟩:=qZ hN hops hl h1
  obtain⟨b1,b2,b3⟩:=pK hN hops l a2 h2
  exact⟨b1.trans a1,b2,fun H=>⟨_,a3 H,b3 H⟩⟩
theorem mf{as0:List Nat}{σ σ':St}(hl:LoS as0 σ)(h:ey σ σ'):LoS as0 σ':=by
 intro a ha v hv
 obtain⟨_,_,h3,h4⟩:=h
 have hlt:a<σ'.tmps.length:=(List.getElem?_eq_some_iff.1 hv).1
 have hx:σ.tmps[a]? = some (σ.tmps[a]'(by omega)):=List.getElem?_eq_getElem _
 rcases h4 a _ _ hx hv with e|⟨_,h5,_⟩
 ·rw[e];exact hl a ha _ hx
 ·exact qL h5
theorem jd{σ σ':St}(h:ey σ σ')(H:List HObj):ey { σ with heap:=H } { σ' with heap:=H }:=⟨h.1,rfl,h.2.2.1,h.2.2.2⟩
theorem qD{N:FuncId→Option Nat}{B:Below}(hN:NeuB N B){pts as0:List Nat}{ops:Array Oper}(hops:ops.toList.all (oH N pts as0)=true):∀(l:List Nat) {σ σ':St},LoS as0 σ→eF C B pts ops l σ σ'→
  σ'.heap=σ.heap∧LoS as0 σ'∧∀H,eF C B pts ops l { σ with heap:=H } { σ' with heap:=H }
 | [],σ,σ',hl,h=>by
  have:σ'=σ:=h
  subst this
  exact⟨rfl,hl,fun H=>rfl⟩
 |i :: l,σ,σ',hl,⟨σ₀,σ₁,h0,h1,h2⟩=>by
  obtain⟨a1,a2,a3⟩:=qZ hN hops (mf hl h0) h1
  obtain⟨b1,b2,b3⟩:=qD hN hops l a2 h2
  exact⟨b1.trans (a1.trans h0.2.1),b2,fun H=>⟨_,_,jd h0 H,a3 H,b3 H⟩⟩
theorem clear_lo{as0:List Nat}{σ:St}{keys:List Nat}(hl:LoS as0 σ):LoS as0 (σ.clear keys):=by
 unfold St.clear
 split
 ·exact hl
 ·intro a ha v hv
  simp only[List.getElem?_map,Option.map_eq_some_iff]at hv
  obtain⟨x,hx,rfl⟩:=hv
  exact clearV_lo (hl a ha x hx)
theorem clearHp(σ:St)(keys:List Nat)(H:List HObj):St.clear { σ with heap:=H } keys = { σ.clear keys with heap:=H }:=by
 unfold St.clear
 split<;>rfl
theorem clearHp'(σ:St)(keys:List Nat):(σ.clear keys).heap=σ.heap:=by
 unfold St.clear
 split<;>rfl
theorem rT{σ:St}{r:ResultVar}{as0:List Nat}(hl:LoS as0 σ)(ha:∀a∈eZ [r],a∈as0)(H:List HObj):dS C { σ with heap:=H } r=dS C σ r:=by
 cases r with
 |tmp t=>rfl
 |cell a t=>
  have hm:a∈as0:=ha a (by simp[eZ])
  unfold dS
  simp only
  cases hv:σ.tmps[a]? with
  |none=>simp[List.getD_eq_getElem?_getD,hv,undef]
  |some v=>
   have:=hl a hm v hv
   simp only[List.getD_eq_getElem?_getD,hv,Option.getD_some]
   cases v<;>try rfl
   rename_i p
   cases p with
   |none=>rfl
   |some p=>
    have hs:p.spot=some 0:=this
    simp only[hs]
theorem kL{σ:St}{as0:List Nat}(hl:LoS as0 σ)(H:List HObj):∀(l:List ResultVar),(∀a∈eZ l,a∈as0)→cu C { σ with heap:=H } l=cu C σ l
 | [],_=>rfl
 |r :: l,ha=>by
  have h1:=rT (C:=C) (r:=r) hl (fun a h=>ha a (by cases r<;>simp[eZ]at h ⊢;exact .inl h)) H
  have h2:=kL hl H l (fun a h=>ha a (by cases r<;>simp[eZ]at h ⊢<;>first|exact h|exact .inr h))
  simp only[cu,h1,h2]
theorem new_neu{N:FuncId→Option Nat}{pts as0:List Nat}{o:Oper}(h:cO pts o=true)(hn:oH N pts as0 o=true):False:=by
 have hm:aG N pts o=some .hw:=by
  obtain⟨dst,op,ty,pos,after,guard⟩:=o
  cases op<;>simp only[cO,Bool.false_eq_true]at h<;>first|rfl|skip
  ·cases dst with
   |none=>cases h
   |some d=>
    simp only[aG]
    rw[if_neg (fun e=>by
     have h:(!Nat.beq (pts.getD d 0) (d+2))=true:=h
     rw[e,show Nat.beq (d+2) (d+2)=true from Nat.beq_refl _]at h;cases h)]
  ·cases dst with
   |none=>cases h
   |some d=>
    simp only[aG]
    rw[if_neg (fun e=>by
     have h:(!Nat.beq (pts.getD d 0) (d+2))=true:=h
     rw[e,show Nat.beq (d+2) (d+2)=true from Nat.beq_refl _]at h;cases h)]
  ·rename_i c
   simp only[aG]
   split at h
   ·rename_i hc;rw[hc]
   ·cases h
 unfold oH at hn
 rw[hm]at hn
 cases hn
theorem neu_ok{N:FuncId→Option Nat}(hN:∀f n,N f=some n→neuF N C f n=true)(hk:∀f args H r H',Kno.kh f args H r H'→N f=none):∀n,NeuB N (sm C n).toBelow∧
  ∀pts as0 c,neuC N pts as0 c=true→∀σ e σ',LoS as0 σ→(sm C n).ex pts c σ e σ'→σ'.heap=σ.heap∧LoS as0 σ'∧∀H,(sm C n).ex pts c { σ with heap:=H } e { σ' with heap:=H }
 |0=>⟨fun f args H r H' hf h=>(by
   rcases h with h|h
   ·exact⟨h.2,fun H2=>.inl ⟨h.1,rfl⟩⟩
   ·have hf:N f=some _:=hf
    rw[hk f args H r H' h]at hf;cases hf),fun _ _ _ _ _ _ _ _ h=>absurd h id⟩
 |n+1=>by
  obtain⟨ihc,ihe⟩:=neu_ok hN hk n
  refine⟨fun f args H r H' hf h=>?_,fun pts as0 c hc σ e σ' hl h=>?_⟩
  ·rcases h with h|⟨fn,b,e,σ,vs,c1,c2,c3,c4,c5,c6,c7,c8,c9⟩
   ·rcases h with h|h
    ·exact⟨h.2,fun H2=>.inl (.inl ⟨h.1,rfl⟩)⟩
    ·have hf:N f=some _:=hf
     rw[hk f args H r H' h]at hf;cases hf
   ·have hn:=hN f _ hf
    unfold neuF at hn
    simp only[c1,c2,Bool.and_eq_true,List.all_eq_true]at hn
    have hl:LoS (eZ fn.results.toList) (iU fn args H):=by
     intro a ha v hv
     have hge:args.length≤a:=by simpa using hn.2 a ha
     simp only[iU]at hv
     rw[List.getElem?_append_right hge,List.getElem?_replicate]at hv
     split at hv
     ·cases hv;trivial
     ·cases hv
    obtain⟨d1,d2,d3⟩:=ihe _ _ _ hn.1 _ _ _ hl c4
    refine⟨c9.trans d1,fun H2=>.inr ⟨fn,b,e,_,vs,c1,c2,c3,d3 H2,c5,?_,c7,c8,rfl⟩⟩
    rw[kL d2 H2 _ (fun a h=>h)]
    exact c6
  ·have h:lC C (sm C n) pts c σ e σ':=h
   show _∧_∧∀H,lC C (sm C n) pts c { σ with heap:=H } e { σ' with heap:=H }
   cases c with
   |skip=>obtain⟨rfl,rfl⟩:=h;exact⟨rfl,hl,fun H=>⟨rfl,rfl⟩⟩
   |label l=>obtain⟨rfl,rfl⟩:=h;exact⟨rfl,hl,fun H=>⟨rfl,rfl⟩⟩
   |ret=>obtain⟨rfl,rfl⟩:=h;exact⟨rfl,hl,fun H=>⟨rfl,rfl⟩⟩
   |exit id=>obtain⟨rfl,rfl⟩:=h;exact⟨rfl,hl,fun H=>⟨rfl,rfl⟩⟩
   |seq a b=>
    simp only[neuC,Bool.and_eq_true]at hc
    obtain⟨e₁,σ₁,h1,h2⟩:=h
    obtain⟨a1,a2,a3⟩:=ihe _ _ _ hc.1 _ _ _ hl h1
    rcases h2 with⟨rfl,h2⟩|⟨h2,rfl,rfl⟩
    ·obtain⟨b1,b2,b3⟩:=ihe _ _ _ hc.2 _ _ _ a2 h2
     exact⟨b1.trans a1,b2,fun H=>⟨_,_,a3 H,.inl ⟨rfl,b3 H⟩⟩⟩
    ·exact⟨a1,a2,fun H=>⟨_,_,a3 H,.inr ⟨h2,rfl,rfl⟩⟩⟩
   |cond x a b=>
    simp only[neuC,Bool.and_eq_true]at hc
    obtain⟨t,h1,h2⟩:=h
    cases t with
    |true=>
     obtain⟨b1,b2,b3⟩:=ihe _ _ _ hc.1 _ _ _ hl h2
     exact⟨b1,b2,fun H=>⟨true,h1,b3 H⟩⟩
    |false=>
     obtain⟨b1,b2,b3⟩:=ihe _ _ _ hc.2 _ _ _ hl h2
     exact⟨b1,b2,fun H=>⟨false,h1,b3 H⟩⟩
   |block id b=>
    obtain⟨e₁,h1,rfl⟩:=h
    obtain⟨b1,b2,b3⟩:=ihe pts as0 b hc _ _ _ hl h1
    exact⟨b1,b2,fun H=>⟨_,b3 H,rfl⟩⟩
   |scope b=>exact ihe pts as0 b hc _ _ _ hl h
   |loop b=>
    obtain⟨e₁,σ₁,h1,h2⟩:=h
    obtain⟨a1,a2,a3⟩:=ihe pts as0 b hc _ _ _ (clear_lo hl) h1
    rw[clearHp']at a1
    rcases h2 with⟨rfl,h2⟩|⟨h2,rfl,rfl⟩
    ·obtain⟨b1,b2,b3⟩:=ihe pts as0 (.loop b) hc _ _ _ a2 h2
     exact⟨b1.trans a1,b2,fun H=>⟨_,_,by rw[clearHp];exact a3 H,.inl ⟨rfl,b3 H⟩⟩⟩
    ·exact⟨a1,a2,fun H=>⟨_,_,by rw[clearHp];exact a3 H,.inr ⟨h2,rfl,rfl⟩⟩⟩
   |region id ops draw=>
    obtain⟨rfl,hq⟩:=h
    cases draw with
    |true=>
     obtain⟨σ₀,h0,h1⟩ : ∃σ₀,ey σ σ₀∧fT C (sm C n).toBelow pts ops σ₀ σ':=hq
     have hl0:=mf hl h0
     rcases h1 with h1|⟨sl,m,q1,_⟩
     case inr=>
      exfalso
      obtain⟨o,o1,o2⟩:=List.any_eq_true.1 q1
      exact new_neu o2 (List.all_eq_true.1 hc o o1)
     obtain⟨a1,a2,_⟩:=pK ihc hc _ hl0 (h1 0)
     refine⟨a1.trans h0.2.1,a2,fun H=>⟨rfl,⟨_,jd h0 H,.inl fun t=>?_⟩⟩⟩
     exact(pK ihc hc _ hl0 (h1 t)).2.2 H
    |false=>
     have hq:eF C (sm C n).toBelow pts ops (List.range ops.size) σ σ':=hq
     obtain⟨a1,a2,a3⟩:=qD ihc hc _ hl hq
     exact⟨a1,a2,fun H=>⟨rfl,a3 H⟩⟩
   |_=>cases hc
theorem dr_ok{N:FuncId→Option Nat}(hN:∀f n,N f=some n→neuF N C f n=true)(hk:∀f args H r H',Kno.kh f args H r H'→N f=none)(pts:List Nat)(ops:Array Oper)(h:oS N pts ops=true)(n:Nat)(σ σ':St)(hx:cf C (sm C n).toBelow pts ops (List.range ops.size) σ σ') :
  fT C (sm C n).toBelow pts ops σ σ':=any_ok (neu_ok hN hk n).1 h hx
end
end Sx
end Go.Am

/-
 THE ALGEBRA OF RUNS TELLS THE TRUTH;whole runs.
-/
namespace Go.Am
noncomputable def LK.plain:LK→Bool
 | .v=>false
 |_=>true
noncomputable def SK.plain:SK→Bool
 | .leaf k=>k.plain
 | .agg ks=>ks.all LK.plain
noncomputable def Sig.plain(s:Sig):Bool:=s.ps.all SK.plain&&s.rs.all SK.plain
namespace Sx
section
variable [Val] [Kno]
variable {w:List Lf}
theorem pL(k:IntKind)(c:Int)(K:Int→RT):outG k c K=K (k.wrap c):=by
 unfold outG
 cases e:fits k c with
 |true=>rw[ot e]
 |false=>exact il _ _
theorem out64_eq(c:Int)(K:Int→RT):ai c K=K (IntKind.wrap .i64 c):=by
 refine Eq.trans ?_ (pL .i64 c K)
 cases c<;>rfl
theorem outU8_eq(c:Int)(K:Int→RT):ek c K=K (IntKind.wrap .u8 c):=by
 refine Eq.trans ?_ (pL .u8 c K)
 cases c<;>rfl
theorem eG(k:IntKind)(c:Int)(K:Int→RT):outK k c K=K (k.wrap c):=by
 cases k<;>first|exact pL _ _ _|exact out64_eq _ _|exact outU8_eq _ _
theorem addK_eq(a b:Int)(K:Int→RT):addK a b K=K (a+b):=by
 unfold addK
 cases a with
 |ofNat m=>
  cases b with
  |ofNat n=>exact congrArg K rfl
  |negSucc n=>
   simp only[gL]
   cases e:Nat.blt n m with
   |true=>rw[Nat.blt_eq]at e;exact congrArg K (show Int.ofNat (m - (n+1))=Int.ofNat m+Int.negSucc n by simp only[Int.ofNat_eq_natCast,Int.negSucc_eq];omega)
   |false=>
    have e:¬n<m:=fun h=>by rw[←Nat.blt_eq,e]at h;cases h
    exact congrArg K (show Int.negSucc (n - m)=Int.ofNat m+Int.negSucc n by simp only[Int.ofNat_eq_natCast,Int.negSucc_eq];omega)
 |negSucc m=>
  cases b with
  |ofNat n=>
   simp only[gL]
   cases e:Nat.blt m n with
   |true=>rw[Nat.blt_eq]at e;exact congrArg K (show Int.ofNat (n - (m+1))=Int.negSucc m+Int.ofNat n by simp only[Int.ofNat_eq_natCast,Int.negSucc_eq];omega)
   |false=>
    have e:¬m<n:=fun h=>by rw[←Nat.blt_eq,e]at h;cases h
    exact congrArg K (show Int.negSucc (m - n)=Int.negSucc m+Int.ofNat n by simp only[Int.ofNat_eq_natCast,Int.negSucc_eq];omega)
  |negSucc n=>exact congrArg K (show Int.negSucc (m+n+1)=Int.negSucc m+Int.negSucc n by simp only[Int.negSucc_eq];omega)
theorem subK_eq(a b:Int)(K:Int→RT):subK a b K=K (a - b):=by
 unfold subK
 cases a with
 |ofNat m=>
  cases b with
  |ofNat n=>
   simp only[gL]
   cases e:Nat.ble n m with
   |true=>rw[Nat.ble_eq]at e;exact congrArg K (show Int.ofNat (m - n)=Int.ofNat m - Int.ofNat n by simp only[Int.ofNat_eq_natCast];omega)
   |false=>
    have e:¬n≤m:=fun h=>by rw[←Nat.ble_eq,e]at h;cases h
    exact congrArg K (show Int.negSucc (n - (m+1))=Int.ofNat m - Int.ofNat n by simp only[Int.ofNat_eq_natCast,Int.negSucc_eq];omega)
  |negSucc n=>exact congrArg K (show Int.ofNat (m+n+1)=Int.ofNat m - Int.negSucc n by simp only[Int.ofNat_eq_natCast,Int.negSucc_eq];omega)
 |negSucc m=>
  cases b with
  |ofNat n=>exact congrArg K (show Int.negSucc (m+n)=Int.negSucc m - Int.ofNat n by simp only[Int.ofNat_eq_natCast,Int.negSucc_eq];omega)
  |negSucc n=>
   simp only[gL]
   cases e:Nat.ble m n with
   |true=>rw[Nat.ble_eq]at e;exact congrArg K (show Int.ofNat (n - m)=Int.negSucc m - Int.negSucc n by simp only[Int.ofNat_eq_natCast,Int.negSucc_eq];omega)
   |false=>
    have e:¬m≤n:=fun h=>by rw[←Nat.ble_eq,e]at h;cases h
    exact congrArg K (show Int.negSucc (m - (n+1))=Int.negSucc m - Int.negSucc n by simp only[Int.negSucc_eq];omega)
theorem mulK_eq(a b:Int)(K:Int→RT):mulK a b K=K (a*b):=by
 unfold mulK
 cases a with
 |ofNat m=>
  cases b with
  |ofNat n=>exact congrArg K rfl
  |negSucc n=>
   cases m with
   |zero=>exact congrArg K (show Int.ofNat 0=Int.ofNat 0*Int.negSucc n by simp)
   |succ m=>
    refine congrArg K (show Int.negSucc ((m+1)*n+m)=Int.ofNat (m+1)*Int.negSucc n from ?_)
    simp only[Int.ofNat_eq_natCast,Int.negSucc_eq,Int.natCast_add,Int.natCast_mul]
    simp only[Int.natCast_one,Int.mul_neg,Int.mul_add,Int.add_mul]
    omega
 |negSucc m=>
  cases b with
  |ofNat n=>
   cases n with
   |zero=>exact congrArg K (show Int.ofNat 0=Int.negSucc m*Int.ofNat 0 by simp)
   |succ n=>
    refine congrArg K (show Int.negSucc (m*(n+1)+n)=Int.negSucc m*Int.ofNat (n+1)from ?_)
    simp only[Int.ofNat_eq_natCast,Int.negSucc_eq,Int.natCast_add,Int.natCast_mul]
    simp only[Int.natCast_one,Int.neg_mul,Int.mul_add,Int.add_mul]
    omega
  |negSucc n=>
   refine congrArg K (show Int.ofNat ((m+1)*(n+1))=Int.negSucc m*Int.negSucc n from ?_)
   simp only[Int.ofNat_eq_natCast,Int.negSucc_eq,Int.natCast_add,Int.natCast_mul]
   simp only[Int.natCast_one,Int.neg_mul_neg]
theorem quoK_eq(a b:Int)(K:Int→RT):quoK a b K=K (Int.tdiv a b):=by
 unfold quoK
 cases a with
 |ofNat m=>
  cases b with
  |ofNat n=>exact congrArg K rfl
  |negSucc n=>exact il _ _
 |negSucc m=>exact il _ _
theorem remK_eq(a b:Int)(K:Int→RT):remK a b K=K (Int.tmod a b):=by
 unfold remK
 cases a with
 |ofNat m=>
  cases b with
  |ofNat n=>exact congrArg K rfl
  |negSucc n=>exact il _ _
 |negSucc m=>exact il _ _
theorem gR{b:Int}(h:isZ b=false):b≠0:=by
 intro e;subst e;cases h
theorem fitsK{k:IntKind}{c:Int}{K:Int→RT}(h:outK k c K=some w):K (k.wrap c)=some w:=(eG k c K).symm.trans h
theorem ariB_ok{op:BinOp}{k:IntKind}{a b:Int}{K:Int→RT}(h:ariB op k a b K=some w):∃n,pf op k a b n∧K n=some w:=by
 cases op<;>simp only[ariB,reduceCtorEq]at h
 ·rw[addK_eq,eG]at h
  exact⟨_,fun P t w=>by simp[binOp,Op.intArith],h⟩
 ·rw[subK_eq,eG]at h
  exact⟨_,fun P t w=>by simp[binOp,Op.intArith],h⟩
 ·rw[mulK_eq,eG]at h
  exact⟨_,fun P t w=>by simp[binOp,Op.intArith],h⟩
 ·cases hb:isZ b with
  |true=>rw[hb]at h;cases h
  |false=>
   rw[hb]at h
   simp only[quoK_eq,eG]at h
   have hb:=gR hb
   exact⟨_,fun P t w=>by simp[binOp,Op.intDiv,hb],h⟩
 ·cases hb:isZ b with
  |true=>rw[hb]at h;cases h
  |false=>
   rw[hb]at h
   simp only[remK_eq]at h
   have hb:=gR hb
   exact⟨_,fun P t w=>by simp[binOp,Op.intDiv,hb],h⟩
 ·split at h
  ·rename_i hb
   have hb:=mK.1 hb
   subst hb
   rw[il]at h
   exact⟨_,kN rfl,h⟩
  ·split at h
   ·rw[il]at h
    exact⟨_,kM _ _,fitsK h⟩
   ·cases h
theorem eqI_eq(x y:Int):eqI x y=(x==y):=by rw[Bool.eq_iff_iff,mK,beq_iff_eq]
theorem mM(x y:Int):eqZK x y=(x==y):=by
 rw[←eqI_eq]
 cases x<;>cases y<;>rfl
theorem leZ_eq(x y:Int):leZ x y=decide (x≤y):=by rw[Bool.eq_iff_iff,leZ_iff,decide_eq_true_iff]
theorem notK_eq(b:Bool):notK b = !b:=by cases b<;>rfl
theorem cmpB_ok{op:BinOp}{a b:Int}{K:Bool→RT}(h:cmpB op a b K=some w):∃t,jM op a b=some t∧K t=some w:=by
 cases op<;>simp only[cmpB,reduceCtorEq,mM,leZ_eq,notK_eq]at h
 ·exact⟨_,rfl,h⟩
 ·exact⟨_,rfl,h⟩
 ·exact⟨_,rfl,by rw[show decide (a<b) = !decide (b≤a)by rw[Bool.eq_iff_iff];simp];exact h⟩
 ·exact⟨_,rfl,h⟩
 ·exact⟨_,rfl,by rw[show decide (a > b) = !decide (a≤b)by rw[Bool.eq_iff_iff];simp];exact h⟩
 ·exact⟨_,rfl,h⟩
theorem eqLf_eq(a b:Lf):eqLf a b=gK a b:=by
 cases a<;>cases b<;>try rfl
 ·exact mM _ _
 ·rename_i x y;cases x<;>cases y<;>rfl
theorem eqsV_eq(l:List (Lf×Lf)):eqsV l=cD l:=by
 unfold cD
 induction l with
 |nil=>rfl
 |cons p l ih=>
  show(Bool.rec false (eqsV l) (eqLf p.1 p.2):Bool)=_
  rw[eqLf_eq,List.all_cons,ih]
  cases gK p.1 p.2<;>rfl
theorem eqsB_ok{l:List (Lf×Lf)}{K:Bool→RT}(h:eqsB l K=some w):K (cD l)=some w:=by
 rw[←eqsV_eq];exact h
structure CallBOk(C:Cfg)(Sg:FuncId→Option Sig)(T:Nat→Site)(call:aa):Prop where
 f:∀g ls h K w,iO ls→call (.f g) ls h K=some w→∃rs h',dg C Sg g ls (absH T (toL h)) rs (absH T (toL h'))∧K rs h'=some w
 y:∀κ vs l ls h K w st pd xs,h.at l=some (.lp κ st pd vs)→Told ((T κ).params.map (·.2)) ls xs→call (.y κ vs l) ls h K=some w→
  ∃b h',hQ C l (ao xs) (absH T (toL h)) (.bool b) (absH T (toL h'))∧K [.b b] h'=some w
theorem ip(T:Nat→Site)(h:HL):getH T h=fun i=>(absH T h)[i]?:=by
 funext i
 simp only[getH,absH,List.getElem?_map]
 cases h[i]?<;>rfl
theorem getT_eq(T:Nat→Site)(h:HTr):getT T h=fun i=>(absH T (toL h))[i]?:=by
 funext i
 simp only[getT,absH,List.getElem?_map,iM,Option.map_map]
 cases h.at i<;>rfl
theorem jv(T:Nat→Site)(h:HTr):getT T h=getH T (toL h):=(getT_eq T h).trans (ip T (toL h)).symm
theorem jY{T:Nat→Site}{h:HTr}{i:Nat}{x:HOT}(e:h.at i=some x):getH T (toL h) i=some (absO T x.ho):=by
 rw[←jv];unfold getT;rw[e]
theorem gB(T:Nat→Site)(h:HL):(absH T h).length=h.length:=by simp[absH]
theorem gD(T:Nat→Site)(h:HL)(i:Nat)(o:HO):absH T (h.set i o)=(absH T h).set i (absO T o):=by simp[absH,List.map_set]
theorem gC(T:Nat→Site)(h:HL)(o:HO):absH T (h++[o])=absH T h++[absO T o]:=by simp[absH]
theorem ie(T:Nat→Site):∀(l:List Act1) (h:HL),absH T (gf h l)=eV (absH T h) l
 | [],h=>rfl
 |a :: l,h=>by
  have ih:=ie T l (a.onH h)
  show absH T (gf (a.onH h) l)=eV (a.on (absH T h)) l
  rw[ih]
  congr 1
  cases a with
  |set i o=>exact gD T h i _
  |push o=>exact gC T h _
theorem mw:∀ {l:List Act1} {h:HTr} {k:HTr→RT},rj l h k=some w→∃h',toL h'=gf (toL h) l∧k h'=some w
 | [],h,k,hk=>⟨h,rfl,hk⟩
 | .set i o :: l,h,k,hk=>by
  have hk:(oz o fun o=>putK h i o fun h=>rj l h k)=some w:=hk
  obtain⟨x,e1,e2⟩:=gS (o:=o) (k:=fun o=>putK h i o fun h=>rj l h k)
  rw[e2,ft]at hk
  obtain⟨h',e,hk⟩:=mw hk
  exact⟨h',by rw[e,fA,e1];rfl,hk⟩
 | .push o :: l,h,k,hk=>by
  have hk:(oz o fun o=>iE h o fun h=>rj l h k)=some w:=hk
  obtain⟨x,e1,e2⟩:=gS (o:=o) (k:=fun o=>iE h o fun h=>rj l h k)
  rw[e2,fH]at hk
  obtain⟨h',e,hk⟩:=mw hk
  exact⟨h',by rw[e,fO,e1];rfl,hk⟩
theorem qY(s:Option Nat):spot0 s=(s != some 0):=by
 cases s with
 |none=>rfl
 |some k=>cases k<;>rfl
theorem qt(v:Value):goodF v=cN v:=by
 unfold goodF
 split
 ·rename_i a
  rw[qY]
  simp[cN,noLoc,bv,cV,co,br,aT]
 ·rename_i a _ _
  rw[qY]
  simp[cN,noLoc,bv,cV,co,br,aT]
 ·rfl
theorem pD{α:Type}(l:List α):lenR l=l.length:=by
 induction l with
 |nil=>rfl
 |cons a l ih=>exact congrArg Nat.succ ih
theorem ldB_ok{T:Nat→Site}{n:Nat}{p:Value}{h:HTr}{K:List Value→RT}(hk:ldB n p h K=some w):∃cs,ldP n p (getH T (toL h))=some cs∧K cs=some w:=by
 unfold ldB at hk
 split at hk
 ·rename_i a
  split at hk
  ·rename_i hs
   split at hk
   ·rename_i m e rw' c hat
    split at hk
    ·rename_i hle
     rw[Nat.ble_eq]at hle
     refine⟨_,?_,hk⟩
     unfold ldP
     simp only[hs,fc,jY hat,HOT.ho,absO,Option.bind_some,cut]
     rw[if_pos (by rw[bc];exact hle),gY c n a.off m hle]
    ·cases hk
   ·cases hk
  ·cases hk
 ·cases hk
theorem lgB_ok{T:Nat→Site}{C:Cfg}{n:Nat}{p:Value}{h:HTr}{K:List Value→RT}(hk:lgB C n p h K=some w):∃cs,lgP C n p (getH T (toL h))=some cs∧K cs=some w:=by
 unfold lgB at hk
 split at hk
 ·rename_i a
  split at hk
  ·rename_i hs
   split at hk
   ·rename_i m e rw' c hat
    split at hk
    ·rename_i hle
     rw[Nat.ble_eq]at hle
     refine⟨_,?_,hk⟩
     unfold lgP
     simp only[hs,fc,jY hat,HOT.ho,absO,Option.bind_some,cut]
     rw[if_pos (by rw[bc];exact hle),gY c n a.off m hle]
    ·cases hk
   ·cases hk
  ·rename_i k hs
   split at hk
   ·rename_i hb
    split at hk
    ·rename_i vs hg
     split at hk
     ·rename_i cs hc
      refine⟨cs,?_,hk⟩
      unfold lgP
      simp only[hs,hb,hg,Option.bind_some]
      rw[jP]at hc
      exact hc
     ·cases hk
    ·cases hk
   ·cases hk
 ·cases hk
theorem stB_ok{T:Nat→Site}{p:Value}{new:List Value}{h:HTr}{K:List Value→HTr→RT}{n0:Nat}(hk:stB p new h K=some w) :
  ∃acts cs h',stP p new (getH T (toL h)) n0=some (acts,cs)∧toL h'=gf (toL h) acts∧K cs h'=some w:=by
 unfold stB at hk
 split at hk
 ·rename_i a
  split at hk
  ·rename_i hs
   split at hk
   ·rename_i m e c hat
    split at hk
    ·rename_i hle
     rw[Nat.ble_eq,pD]at hle
     rw[ki,ft]at hk
     refine⟨[.set a.block (.cells (bS (insT new a.off c) m) e true)],[],_,?_,?_,hk⟩
     ·unfold stP
      simp only[hs,jY hat,HOT.ho,absO,splice]
      rw[if_pos (by rw[bc];exact hle),lx hle]
      rfl
     ·rw[fA];rfl
    ·cases hk
   ·cases hk
  ·cases hk
 ·cases hk
theorem re{s:Option Nat}{esz:Nat}:tagB s esz=true↔s=tag esz:=by
 unfold tagB tag
 cases s with
 |none=>simp
 |some k=>simp only[Nat.beq_eq,Option.some.injEq];try rfl
theorem slB_ok{C:Cfg}{T:Nat→Site}{esz:Nat}{x:Value}{h:HTr}{K:List Value→Nat→RT}(hk:slB C T esz x h K=some w) :
  ∃l n,slG C esz (getH T (toL h)) x=some (l,n)∧K l n=some w:=by
 have gen:∀ {x:Value},(match slG C esz (getT T h) x with|some p=>K p.1 p.2|none=>none)=some w→∃l n,slG C esz (getH T (toL h)) x=some (l,n)∧K l n=some w:=by
  intro x hk
  split at hk
  ·rename_i p e
   rw[jv]at e
   exact⟨p.1,p.2,e,hk⟩
  ·cases hk
 unfold slB at hk
 split at hk
 ·rename_i a len cx
  split at hk
  ·rename_i ht
   have ht:=re.1 ht
   split at hk
   ·rename_i m e rw' c hat
    split at hk
    ·rename_i h1 h2
     have h1:=Nat.eq_of_beq_eq_true h1
     rw[Nat.ble_eq]at h2
     subst h1
     refine⟨_,_,?_,hk⟩
     unfold slG
     simp only[jY hat,HOT.ho,absO]
     rw[if_neg (by rw[ht];simp[tag]),if_pos ht]
     first|rw[if_pos rfl]|rw[if_pos trivial]
     rw[cut,if_pos (by rw[bc];exact h2),gY c _ a.off m h2]
     rfl
    ·cases hk
   ·cases hk
  ·exact gen hk
 ·exact gen hk
theorem qu{c:Tr Value}{m off wd esz:Nat}{new:List Value}{k:HOT→RT}(hle:off+wd≤m)(hk:growB c m off wd esz new k=some w) :
  ∃x:HOT,x.ho = .o (.cells (((bS c m).drop off).take wd++new) esz true)∧k x=some w:=by
 unfold growB at hk
 split at hk
 ·rename_i h1 h2
  have h1:=Nat.eq_of_beq_eq_true h1
  have h2:=Nat.eq_of_beq_eq_true h2
  subst h1 h2
  rw[ki,gL,pD]at hk
  refine⟨_,?_,hk⟩
  show HO.o (.cells (bS (insT new wd c) (wd+new.length)) esz true)=_
  rw[jK,List.drop_zero,List.take_of_length_le (by rw[bc];exact Nat.le_refl _)]
 ·rw[gY c wd off m hle]at hk
  obtain⟨x,e1,e2⟩:=gS (o:=.cells (((bS c m).drop off).take wd++new) esz true) (k:=k)
  rw[e2]at hk
  exact⟨x,e1,hk⟩
theorem apB_ok{C:Cfg}{T:Nat→Site}{esz bytes:Nat}{s x:Value}{h:HTr}{K:List Value→HTr→RT}(hk:apB T C esz bytes s x h K=some w) :
  ∃acts cs h',apG C esz bytes s x (getH T (toL h)) (toL h).length=some (acts,cs)∧toL h'=gf (toL h) acts∧K cs h'=some w:=by
 obtain⟨new,n,hsl,hk⟩:=slB_ok hk
 unfold apG
 rw[hsl,eN]
 simp only at hk ⊢
 split at hk
 ·cases n with
  |zero=>exact⟨_,_,h,rfl,rfl,hk⟩
  |succ n=>
   simp only at hk
   split at hk
   ·rename_i hz
    obtain⟨y,e1,e2⟩:=gS (o:=.cells new esz true) (k:=fun o=>iE h o fun h'=>fN (n+1) fun n=>K [.slice (some ⟨h.n,0,tag esz⟩) n 0] h')
    rw[e2,fH,gL]at hk
    refine⟨[.push (.cells new esz true)],_,_,?_,?_,hk⟩
    ·show(if n+1=0 then some ([],[Value.slice none 0 0])else if dm (n+1) bytes then _ else none)=_
     rw[if_neg (by omega),if_pos hz]
    ·rw[fO,e1];rfl
   ·cases hk
 ·rename_i a len cx _
  split at hk
  ·cases hk
  ·rename_i ht
   have ht:=re.1 ht
   split at hk
   ·rename_i m e rw' c hat
    split at hk
    ·rename_i h1 h2
     have h1:=Nat.eq_of_beq_eq_true h1
     rw[Nat.ble_eq]at h2
     subst h1
     have hb:a.off+len*e≤m:=h2
     have hcut:cut (bS c m) a.off (len*e)=some (((bS c m).drop a.off).take (len*e)):=by rw[cut,if_pos (by rw[bc];exact hb)]
     simp only[ht,ne_eq,not_true_eq_false,if_false,jY hat,HOT.ho,absO,hcut]
     cases cx with
     |zero=>
      simp only at hk ⊢
      cases n with
      |zero=>exact⟨[],_,h,by first|rw[if_pos rfl]|rw[if_pos trivial],rfl,hk⟩
      |succ n=>
       simp only at hk
       split at hk
       ·rename_i q1 q2
        obtain⟨y,e1,hk⟩:=qu hb hk
        rw[ft,fH,gL]at hk
        refine⟨[.set a.block .dead,.push (.cells (((bS c m).drop a.off).take (len*e)++new) e true)],_,_,by rw[if_neg (by omega),if_pos (by rw[q2];rfl)],?_,hk⟩
        rw[fO,fA,e1];rfl
       ·cases hk
     |succ cap=>
      simp only at hk ⊢
      split at hk
      ·rename_i q0
       rw[Nat.ble_eq]at q0
       split at hk
       ·rename_i q1 q2
        rw[Nat.ble_eq,pD]at q2
        have q2:a.off+len*e+new.length≤m:=q2
        rw[ki,ft,gL]at hk
        refine⟨[.set a.block (.cells ((bS c m).take (a.off+len*e)++new++(bS c m).drop (a.off+len*e+new.length)) e true)],_,_,by rw[if_pos q0,if_pos rfl,splice,if_pos (by rw[bc];exact q2)];rfl,?_,hk⟩
        rw[fA]
        show(toL h).set a.block (.o (.cells (bS (insT new (a.off+len*e) c) m) e true))=_
        rw[lx q2];rfl
       ·cases hk
      ·rename_i q0
       have q0:¬len+n≤cap:=fun h=>by rw[←Nat.ble_eq,q0]at h;cases h
       split at hk
       ·rename_i q1
        obtain⟨y,e1,hk⟩:=qu hb hk
        rw[fH,gL]at hk
        refine⟨[.push (.cells (((bS c m).drop a.off).take (len*e)++new) e true)],_,_,by rw[if_neg q0,if_pos q1],?_,hk⟩
        rw[fO,e1];rfl
       ·cases hk
    ·cases hk
   ·cases hk
 ·cases hk
theorem heapB_ok{T:Nat→Site}{f:Hp}{h:HTr}{K:List Value→HTr→RT}(hk:pC T f h K=some w) :
  ∃acts cs h',f.run (getH T (toL h)) (toL h).length=some (acts,cs)∧toL h'=gf (toL h) acts∧K cs h'=some w:=by
 unfold pC at hk
 cases f with
 |st p new=>exact stB_ok (n0:=(toL h).length) hk
 |ap C esz bytes s x=>exact apB_ok hk
 |fn f=>
  simp only at hk
  rw[jv]at hk
  split at hk
  ·rename_i p e
   rw[kG]at hk
   obtain⟨h',e2,hk⟩:=mw hk
   exact⟨p.1,p.2,h',by rw[eN];exact e,e2,hk⟩
  ·cases hk
theorem toSL_ok{k:LK}{v:Value}{l:SL}(h:toSL k v=some l):l.is k=true∧l.val=v∧l.good:=by
 cases k with
 |i k=>
  cases v<;>simp only[toSL]at h<;>first|cases h|skip
  split at h
  ·rename_i e;cases h;exact⟨e,rfl,trivial⟩
  ·cases h
 |b=>
  cases v<;>simp only[toSL]at h<;>cases h
  exact⟨rfl,rfl,trivial⟩
 |v=>
  simp only[toSL]at h
  split at h
  ·rename_i e;cases h;exact⟨rfl,rfl,e⟩
  ·cases h
theorem rg:∀ {ks:List LK} {vs:List Value} {xs:List SL},toSLs ks vs=some xs→aO xs ks=true∧xs.map SL.val=vs∧∀x∈xs,x.good
 | [],[],xs,h=>by cases h;exact⟨rfl,rfl,fun _ h=>by cases h⟩
 |k :: ks,v :: vs,xs,h=>by
  simp only[toSLs]at h
  split at h
  ·rename_i x e
   split at h
   ·rename_i ys e2
    cases h
    obtain⟨a1,a2,a3⟩:=toSL_ok e
    obtain⟨b1,b2,b3⟩:=rg e2
    refine⟨by simp[aO,a1,b1],by simp[a2,b2],fun y hy=>?_⟩
    rcases List.mem_cons.1 hy with rfl|hy
    ·exact a3
    ·exact b3 y hy
   ·cases h
  ·cases h
 | [],_ :: _,_,h=>by cases h
 |_ :: _,[],_,h=>by cases h
theorem toS0_ok{sk:SK}{v:Value}{x:S0}(h:toS0 sk v=some x):x.is sk=true∧x.val=v∧x.good:=by
 cases sk with
 |leaf k=>
  obtain⟨l,e,rfl⟩:=Option.map_eq_some_iff.1 h
  obtain⟨a1,a2,a3⟩:=toSL_ok e
  refine⟨a1,a2,fun y hy=>?_⟩
  simp only[S0.cells,List.mem_singleton]at hy
  subst hy;exact a3
 |agg ks=>
  cases v<;>simp only[toS0]at h<;>first|cases h|skip
  obtain⟨l,e,rfl⟩:=Option.map_eq_some_iff.1 h
  obtain⟨a1,a2,a3⟩:=rg e
  exact⟨a1,by simp[S0.val,a2],a3⟩
theorem nI:∀ {sks:List SK} {vs:List Value} {xs:List S0},toS0s sks vs=some xs→bX xs sks=true∧ao xs=vs∧∀x∈xs,x.good
 | [],[],xs,h=>by cases h;exact⟨rfl,rfl,fun _ h=>by cases h⟩
 |k :: ks,v :: vs,xs,h=>by
  simp only[toS0s]at h
  split at h
  ·rename_i x e
   split at h
   ·rename_i ys e2
    cases h
    obtain⟨a1,a2,a3⟩:=toS0_ok e
    obtain⟨b1,b2,b3⟩:=nI e2
    refine⟨by simp[bX,a1,b1],by simp only[ao,List.map_cons,a2]at b2 ⊢;rw[b2],fun y hy=>?_⟩
    rcases List.mem_cons.1 hy with rfl|hy
    ·exact a3
    ·exact b3 y hy
   ·cases h
  ·cases h
 | [],_ :: _,_,h=>by cases h
 |_ :: _,[],_,h=>by cases h
theorem eqLK_ok{a b:LK}(h:eqLK a b=true):a=b:=by
 cases a<;>cases b<;>simp only[eqLK]at h<;>first|rfl|cases h|skip
 rw[dN h]
theorem qm:∀ {a b:List LK},eqLKs a b=true→a=b
 | [],[],_=>rfl
 |a :: l,b :: m,h=>by
  simp only[eqLKs,Bool.and_eq_true]at h
  rw[eqLK_ok h.1,qm h.2]
 | [],_ :: _,h=>by cases h
 |_ :: _,[],h=>by cases h
theorem eqSK_ok{a b:SK}(h:eqSK a b=true):a=b:=by
 cases a<;>cases b<;>simp only[eqSK]at h<;>first|cases h|skip
 ·rw[eqLK_ok h]
 ·rw[qm h]
theorem mL:∀ {a b:List SK},eqSKs a b=true→a=b
 | [],[],_=>rfl
 |a :: l,b :: m,h=>by
  simp only[eqSKs,Bool.and_eq_true]at h
  rw[eqSK_ok h.1,mL h.2]
 | [],_ :: _,h=>by cases h
 |_ :: _,[],h=>by cases h
theorem fp:∀ {ls:List Lf},cU ls=true→iO ls
 | [],_=>fun _ h=>by cases h
 | .i n :: ls,h=>fun l hl=>by
  rcases List.mem_cons.1 hl with rfl|hl
  ·trivial
  ·exact fp (ls:=ls) h l hl
 | .b n :: ls,h=>fun l hl=>by
  rcases List.mem_cons.1 hl with rfl|hl
  ·trivial
  ·exact fp (ls:=ls) h l hl
 | .v n :: ls,h=>fun l hl=>by
  have h:(match goodF n with|true=>cU ls|false=>false)=true:=h
  split at h
  ·rename_i e
   rw[qt]at e
   rcases List.mem_cons.1 hl with rfl|hl
   ·exact e
   ·exact fp (ls:=ls) h l hl
  ·cases h
theorem mD{C:Cfg}{Sg:FuncId→Option Sig}{T:Nat→Site}{call:aa}(hc:CallBOk C Sg T call){g:FuncId}{ls:List Lf}{h:HTr}{K:List Lf→HTr→RT}(hk:ba call g ls h K=some w) :
  ∃rs h',dg C Sg g ls (absH T (toL h)) rs (absH T (toL h'))∧K rs h'=some w:=by
 unfold ba at hk
 split at hk
 ·rename_i e;exact hc.f g ls h K w (fp e) hk
 ·cases hk
theorem jG{C:Cfg}{Sg:FuncId→Option Sig}{T:Nat→Site}{call:aa}(hc:CallBOk C Sg T call){g:FuncId}{hs:Option (List SK)}{vals:List Value}{h:HTr}{K:List Lf→HTr→RT}(hk:jr Sg call g hs vals h K=some w) :
  ∃sg rs ys h',Sg g=some sg∧(∀x,hs=some x→sg.rs=x)∧Told sg.rs rs ys∧fS C g vals (absH T (toL h)) (eq (ao ys)) (absH T (toL h'))∧K rs h'=some w:=by
 unfold jr at hk
 split at hk
 ·cases hk
 ·rename_i sg e
  split at hk
  ·cases hk
  ·rename_i e2
   split at hk
   ·cases hk
   ·rename_i xs e3
    obtain⟨rs,h',⟨sg',xs',ys,c1,c2,c3,c4⟩,hk⟩:=mD hc hk
    rw[e]at c1
    cases c1
    obtain⟨d1,d2,d3⟩:=nI e3
    obtain⟨w1,_⟩:=dh c2.1 d1 c2.2.1
    rw[w1,d2]at c4
    refine⟨sg,rs,ys,h',e,fun x hx=>?_,c3,c4,hk⟩
    subst hx
    exact mL e2
theorem gQ{T:Nat→Site}{h:HTr}{l κ:Nat}{st:LoopState}{pd:Option Code}{vs:List Value}(e:h.at l=some (.lp κ st pd vs)):dw (absH T (toL h)) l=some { lpOf (T κ) κ vs with state:=st,pending:=pd }:=by
 unfold dw absH
 rw[List.getElem?_map,iM,e]
 rfl
theorem callvB_ok{C:Cfg}{Sg:FuncId→Option Sig}{T:Nat→Site}{call:aa}(hc:CallBOk C Sg T call){v:Value}{args:List Value}{hs:List SK}{h:HTr}{K:List Lf→HTr→RT}(hk:cT Sg T call v args hs h K=some w) :
  ∃rs h',CallV C v args hs (absH T (toL h)) rs (absH T (toL h'))∧K rs h'=some w:=by
 unfold cT at hk
 split at hk
 ·rename_i fn first cap
  split at hk
  ·rename_i g
   obtain⟨sg,rs,ys,h',c1,c2,c3,c4,c5⟩:=jG hc hk
   rw[c2 _ rfl]at c3
   exact⟨rs,h',⟨ys,c3,.inl ⟨g,first,cap,rfl,c4⟩⟩,c5⟩
  ·rename_i l
   split at hk
   ·rename_i e1 e2
    have e1:first = #[]:=Array.toList_inj.1 e1
    have e2:cap = #[]:=Array.toList_inj.1 e2
    subst e1 e2
    split at hk
    ·rename_i κ st pd vs e
     split at hk
     ·cases hk
     ·rename_i e3
      have e3:=mL e3
      subst e3
      split at hk
      ·cases hk
      ·rename_i xs e4
       split at hk
       ·rename_i e5
        obtain⟨d1,d2,d3⟩:=nI e4
        obtain⟨b,h',y1,y2⟩:=hc.y κ vs l _ h K w st pd xs e ⟨d1,rfl,d3⟩ hk
        rw[d2]at y1
        refine⟨[.b b],h',⟨[.leaf (.b b)],⟨rfl,rfl,fun x hx=>?_⟩,.inr ⟨l,rfl,y1⟩⟩,y2⟩
        simp only[List.mem_singleton]at hx
        subst hx
        intro y hy
        simp only[S0.cells,List.mem_singleton]at hy
        subst hy;trivial
       ·cases hk
    ·cases hk
   ·cases hk
  ·cases hk
 ·cases hk
theorem rfunB_ok{C:Cfg}{Sg:FuncId→Option Sig}{T:Nat→Site}{call:aa}(hc:CallBOk C Sg T call){κ:Nat}{v:Value}{vals:List Value}{h:HTr}{K:Option Code→HTr→RT}(hk:pR Sg call κ v vals h K=some w) :
  ∃g first cap r H1 lp h2,v = .func (.func g) first cap∧fS C g (first.toList++[.func (.yield (absH T (toL h)).length) #[] #[]]++cap.toList) (absH T (toL h)++[.loop (lpOf (T κ) κ vals)]) r H1∧
   dw H1 (absH T (toL h)).length=some lp∧lp.state≠.busy∧absH T (toL h2)=H1.set (absH T (toL h)).length (.loop { lp with state:=.exhausted })∧K lp.pending h2=some w:=by
 unfold pR at hk
 split at hk
 ·rename_i fn first cap
  split at hk
  ·rename_i g
   rw[fH]at hk
   obtain⟨sg,rs,ys,h',_,_,c3,c4,c5⟩:=jG hc hk
   have hlen:(absH T (toL h)).length=h.n:=by rw[gB,eN]
   split at c5
   ·rename_i κ' st pd vs e
    have hl:=gQ (T:=T) e
    rw[fO,gC]at c4
    have fin:∀(hst:st≠.busy),(putK h' h.n (.lp κ' .exhausted pd vs) fun h2=>K pd h2)=some w→∃g' first' cap' r H1 lp h2,(Value.func (.func g) first cap) = .func (.func g') first' cap'∧fS C g' (first'.toList++[.func (.yield (absH T (toL h)).length) #[] #[]]++cap'.toList) (absH T (toL h)++[.loop (lpOf (T κ) κ vals)]) r H1∧
      dw H1 (absH T (toL h)).length=some lp∧lp.state≠.busy∧absH T (toL h2)=H1.set (absH T (toL h)).length (.loop { lp with state:=.exhausted })∧K lp.pending h2=some w:=by
     intro hst hk
     rw[ft]at hk
     refine⟨g,first,cap,eq (ao ys),absH T (toL h'),{ lpOf (T κ') κ' vs with state:=st,pending:=pd },h'.put h.n (.lp κ' .exhausted pd vs),rfl,?_,?_,hst,?_,hk⟩
     ·rw[hlen];exact c4
     ·rw[hlen];exact hl
     ·rw[fA,gD,hlen];rfl
    cases st with
    |busy=>cases c5
    |_=>exact fin (by simp) c5
   ·cases c5
  ·cases hk
 ·cases hk
theorem oL{id:Nat}:∀ {ks:List (Nat×RT)},(List.rec none (fun p _ ih=>match Nat.beq p.1 id with|true=>p.2|false=>ih) ks:RT)=some w→
  ∃id' x,some (Code.exit id)=some (Code.exit id')∧(id',x)∈ks∧x=some w
 | [],h=>by cases h
 |p :: ks,h=>by
  have h:(match Nat.beq p.1 id with|true=>p.2|false=>(List.rec none (fun p _ ih=>match Nat.beq p.1 id with|true=>p.2|false=>ih) ks:RT))=some w:=h
  split at h
  ·rename_i e
   exact⟨id,p.2,rfl,by rw[←Nat.eq_of_beq_eq_true e];exact List.mem_cons_self,h⟩
  ·obtain⟨id',x,a,b,c⟩:=oL h
   exact⟨id',x,a,List.mem_cons_of_mem _ b,c⟩
theorem shfB_ok{op:BinOp}{k k':IntKind}{a b:Int}{K:Int→RT}(h:shfB op k a k' b K=some w):∃n,ShRun op k a k' b n∧K n=some w:=by
 unfold shfB at h
 split at h
 ·rename_i hb
  have hb:¬b<0:=by have:=leZ_iff.1 hb;omega
  split at h
  ·rw[il]at h
   exact⟨_,fun P t w=>by simp[binOp,Op.shift,hb],h⟩
  ·rw[il]at h
   exact⟨_,fun P t w=>by simp[binOp,Op.shift,hb],h⟩
  ·cases h
 ·cases h
theorem jh{C:Cfg}{Sg:FuncId→Option Sig}{T:Nat→Site}{call:aa}(hc:CallBOk C Sg T call):AlgOk (BA Sg T call) C Sg T (fun b=>b=some w) (fun h=>absH T (toL h)) where
 fail:=by intro h;cases h
 cond:=by
  intro b x y h
  cases b
  ·exact .inr ⟨rfl,h⟩
  ·exact .inl ⟨rfl,h⟩
 ari:=fun op k a b K h=>ariB_ok h
 shf:=fun op k a k' b K h=>shfB_ok h
 cmp:=fun op a b K h=>cmpB_ok h
 eqs:=fun l K h=>eqsB_ok h
 conv:=fun k a K h=>fitsK h
 sel:=by intro t a b K h;cases t<;>exact h
 opt:=by
  intro α o K h
  cases o with
  |none=>cases h
  |some x=>exact⟨x,rfl,h⟩
 chk:=by
  intro v K h
  have h:chkB v K=some w:=h
  unfold chkB at h
  split at h
  ·rename_i e;rw[qt]at e;exact⟨e,h⟩
  ·cases h
 unI:=by
  intro ls K h
  match ls,h with
  | .i n :: r,h=>exact⟨n,r,rfl,h⟩
 unB:=by
  intro ls K h
  match ls,h with
  | .b n :: r,h=>exact⟨n,r,rfl,h⟩
 unV:=by
  intro ls K h
  match ls,h with
  | .v n :: r,h=>exact⟨n,r,rfl,h⟩
 un0:=by
  intro ls K h
  match ls,h with
  | [],h=>exact⟨rfl,h⟩
 ucI:=by
  intro k ls K h
  match ls,h with
  | .int k' n :: r,h=>
   have h:(match eS k k' with|true=>K n r|false=>none)=some w:=h
   split at h
   ·rename_i e;rw[dN e];exact⟨n,r,rfl,h⟩
   ·cases h
 ucB:=by
  intro ls K h
  match ls,h with
  | .bool n :: r,h=>exact⟨n,r,rfl,h⟩
 ucV:=by
  intro ls K h
  match ls,h with
  |n :: r,h=>exact⟨n,r,rfl,h⟩
 uc0:=by
  intro ls K h
  match ls,h with
  | [],h=>exact⟨rfl,h⟩
 peek:=by
  intro f h K hk
  have hk:rM T f h K=some w:=hk
  unfold rM at hk
  rw[←ip]
  cases f with
  |ld n p=>exact ldB_ok hk
  |lg C n p=>exact lgB_ok hk
  |fn f=>
   simp only at hk
   rw[jv]at hk
   split at hk
   ·rename_i x e;exact⟨x,e,hk⟩
   ·cases hk
 heap:=by
  intro f h K hk
  have hk:pC T f h K=some w:=hk
  obtain⟨acts,cs,h',a1,a2,a3⟩:=heapB_ok hk
  exact⟨acts,cs,h',by rw[←ip,gB];exact a1,by rw[a2];exact ie T acts (toL h),a3⟩
 new:=by
  intro o h K hk
  have hk:newB o h K=some w:=hk
  unfold newB at hk
  obtain⟨x,e1,e2⟩:=gS (o:=o) (k:=fun o=>iE h o fun h'=>K h.n h')
  rw[e2,fH]at hk
  exact⟨h.push x,by rw[fO,e1];exact gC T (toL h) _,by rw[gB,eN];exact hk⟩
 call:=fun g ls h K hk=>mD hc hk
 callv:=fun v args hs h K hk=>callvB_ok hc hk
 join:=fun b m h=>h
 loop:=by
  intro F ls h hk
  refine⟨fun n=>Nat.rec (motive:=fun _=>List Lf→HTr→RT) (fun _ _=>none) (fun _ ih ls h=>F ih ls h) n,fun ls h=>(by simp),fun n ls h=>rfl,1000000,hk⟩
 rfun:=fun κ v vals h K hk=>rfunB_ok hc hk
 pend:=by
  intro pd kn kr ks h
  cases pd with
  |none=>exact .inl ⟨rfl,h⟩
  |some c=>
   cases c<;>first|exact .inr (.inl ⟨rfl,h⟩)|skip
   case exit id=>
    exact .inr (.inr (oL h))
   all_goals cases h
 lp1:=by
  intro l h K hk
  have hk:lp1B l h K=some w:=hk
  unfold lp1B at hk
  split at hk
  ·rename_i κ st pd vs e
   split at hk
   ·rw[ft]at hk
    exact⟨_,_,gQ e,rfl,by rw[fA];exact gD T (toL h) l _,hk⟩
   ·cases hk
  ·cases hk
 lp2:=by
  intro l j h K hk
  have hk:lp2B l j h K=some w:=hk
  unfold lp2B at hk
  split at hk
  ·rename_i κ st pd vs e
   cases j with
   |none=>
    have hk:putK h l (.lp κ .ready none vs) K=some w:=hk
    rw[ft]at hk
    exact⟨_,h.put l (.lp κ .ready none vs),gQ e,(congrArg (absH T) (fA h l (.lp κ .ready none vs))).trans (gD T (toL h) l (.lp κ .ready none vs)),hk⟩
   |some c=>
    have hk:putK h l (.lp κ .done (some c) vs) K=some w:=hk
    rw[ft]at hk
    exact⟨_,h.put l (.lp κ .done (some c) vs),gQ e,(congrArg (absH T) (fA h l (.lp κ .done (some c) vs))).trans (gD T (toL h) l (.lp κ .done (some c) vs)),hk⟩
  ·cases hk
inductive TabOk(C:Cfg)(Sg:FuncId→Option Sig)(X:Ctxt)(dr:Dr)(A:Alg RT HTr)(f:FuncId)(ls:List Lf)(h:HTr)(K:List Lf→HTr→RT)(w:List Lf):Prop
 |run (fn:Fn1) (hi:FnIs X Sg f fn) (he:aE A X Sg dr fn ls h K=some w)
 |known (rs:List Lf) (hc:∀H,dg C Sg f ls H rs H) (hk:K rs h=some w)
 |alone (fn:Fn1) (rs:List Lf) (sg:Sig) (hi:FnIs X Sg f fn) (hs:Sg f=some sg) (hp:sg.plain=true) (he:aE A X Sg dr fn ls .empty (fun rs _=>some rs)=some rs) (hk:K rs h=some w)
end
end Sx
end Go.Am

/-
 CALLS THAT LEAVE NOTHING BEHIND: a run that begins with an empty heap is a run over any heap.
-/
namespace Go.Am
namespace Sx
section
variable [Val]
theorem objR_keep{mu:HMap}{p:Pl}{x y:Option Obj}{o:HObj}(hxy:∀a,x=some a→y=some a)(h:objR mu p x o):objR mu p y o:=by
 cases o with
 |cells vs esz rw=>
  obtain⟨h1,h2,h3,c,e,fr,h4,h5⟩:=h
  exact⟨h1,h2,h3,c,e,fr,hxy _ h4,h5⟩
 |map es clock=>
  obtain⟨es',h1,h2⟩:=h
  exact⟨es',hxy _ h1,h2⟩
 |loop r=>
  obtain⟨L,h1,h2⟩:=h
  exact⟨L,hxy _ h1,h2⟩
 |siter s pos=>exact hxy _ h
 |dead=>trivial
theorem flatVRs{la:LMap}{mu mu':HMap}{vs cs:List Value}(hf:vs.all flat=true)(h:VRs la mu vs cs):VRs la mu' vs cs:=by
 refine⟨h.1,fun i x y hx hy=>?_⟩
 have h1:=h.2 i x y hx hy
 have h2:flat x=true:=List.all_eq_true.1 hf x (List.mem_of_getElem? hx)
 rw[mU h2 h1]
 exact .of_flat h2
theorem no_own{mu:HMap}{b:Nat}:¬Own mu [] b:=by
 rintro⟨id,o,p,h,_⟩
 simp at h
theorem frame_ok{C:Cfg}(hG:∀g vs,C.G g=some vs→vs.all flat=true){f:FuncId}{args:List Value}{r:Value}{H':List HObj}(h:em C f args [] r H')(ha:args.all flat=true)(hr:flat r=true)(H:List HObj):em C f args H r H:=by
 intro base mu w args' hb hargs hW
 have hW0:WR C w.heap.size (fun _=>none) [] w:=by
  refine⟨fun id o h=>by simp at h,fun i j oi oj pi pj h=>by simp at h,fun i o p h=>by simp at h,fun i o p h=>by simp at h,fun _ _=>rfl,fun g vs hg=>?_⟩
  obtain⟨h1,h2,c,e,fr,h3,h4⟩:=hW.glob g vs hg
  exact⟨by omega,h2,c,e,fr,h3,flatVRs (hG g vs hg) h4⟩
 obtain⟨v,mu',w',a1,a2,a3,a4,a5⟩:=h w.heap.size (fun _=>none) w args' (Nat.le_refl _) (flatVRs ha hargs) hW0
 have hkeep:∀(b:Nat) x,w.heap[b]? = some x→w'.heap[b]? = some x:=by
  intro b x hx
  have hlt:b<w.heap.size:=by
   rcases Nat.lt_or_ge b w.heap.size with h|h
   ·exact h
   ·rw[Array.getElem?_eq_none h]at hx;cases hx
  rw[a3.keep b hlt no_own];exact hx
 refine⟨v,mu,w',?_,?_,?_,a4,a5⟩
 ·rw[mU hr a1];exact .of_flat hr
 ·refine⟨fun id o h1 h2=>?_,hW.inj,hW.own,hW.ro,hW.dom,fun g vs hg=>?_⟩
  ·obtain⟨p,h3,h4⟩:=hW.obj id o h1 h2
   exact⟨p,h3,objR_keep (hkeep p.b) h4⟩
  ·obtain⟨h1,h2,c,e,fr,h3,h4⟩:=hW.glob g vs hg
   exact⟨h1,h2,c,e,fr,hkeep _ _ h3,h4⟩
 ·exact⟨Nat.le_refl _,fun _ _=>rfl,a3.size,fun b hb _=>a3.keep b hb no_own,fun b h=>.inr h,a3.os,a3.tape,a3.output⟩
end
section
variable [Val] [Kno]
end
end Sx
end Go.Am

/-
 WHERE AN OPERATION TOUCHES THE HEAP: at the addresses of its operands alone;a new block goes to the end.
-/
namespace Go.Am
namespace Sx
def eR(F:List Nat)(H H2:List HObj):Prop:=∀r∈F,∀x,H[r]? = some x→x.alive=true→H2[r]? = some x
structure HEff where
 set:Option (Nat×HObj)
 push:Option (HObj×(Nat→Value))
 v:Value
noncomputable def HEff.put(e:HEff)(H:List HObj):List HObj:=match e.set with
 |some p=>H.set p.1 p.2
 |none=>H
noncomputable def HEff.heap(e:HEff)(H:List HObj):List HObj:=match e.push with
 |some p=>e.put H++[p.1]
 |none=>e.put H
noncomputable def HEff.val(e:HEff)(n:Nat):Value:=match e.push with
 |some p=>p.2 n
 |none=>e.v
def LocF(nw:Prop)(F W:List Nat)(f:List HObj→Option (List HObj×Value))(H:List HObj):Prop:=
 ∀H' v,f H=some (H',v)→∃e:HEff,H'=e.heap H∧v=e.val H.length∧(∀p,e.set=some p→p.1∈W∧∃x,H[p.1]? = some x∧x.alive=true)∧(∀p,e.push=some p→nw∧Fresh p.2∧p.1.alive=true)∧
  ∀H2,eR F H H2→f H2=some (e.heap H2,e.val H2.length)
def LocG(F:List Nat)(f:List HObj→Option Value)(H:List HObj):Prop:=∀v,f H=some v→∀H2,eR F H H2→f H2=some v
theorem cW{F:List Nat}{H H2:List HObj}(h:eR F H H2){r:Nat}(hr:r∈F){vs:List Value}{e:Nat}{b:Bool}(hx:H[r]? = some (.cells vs e b)):H2[r]? = some (.cells vs e b):=h r hr _ hx rfl
theorem bG{F:List Nat}{H H2:List HObj}(h:eR F H H2){r:Nat}(hr:r∈F){es:List MapEntry}{c:Nat}(hx:hmap H r=some (es,c)):H[r]? = some (.map es c)∧hmap H2 r=some (es,c):=by
 unfold hmap at hx
 split at hx
 ·rename_i e
  cases hx
  exact⟨e,by unfold hmap;rw[h r hr _ e rfl]⟩
 ·cases hx
theorem gi{C:Cfg}{H H2:List HObj}{esz:Nat}{x:Value}{p:List Value×Nat}(hc:cb C H esz x=some p){F:List Nat}(hF:∀r∈adr x,r∈F)(h:eR F H H2):cb C H2 esz x=some p:=by
 unfold cb at hc ⊢
 split at hc
 ·exact hc
 ·rename_i a len cx
  split at hc
  ·rename_i hs;simp only[hs,if_true];exact hc
  ·rename_i hs
   split at hc
   ·rename_i ht
    simp only[hs,if_false,ht,if_true]
    split at hc
    ·rename_i vs e b hid
     have hm:a.block∈adr (.slice (some a) len cx):=by
      simp[adr,ht,tag]
     rw[cW h (hF _ hm) hid]
     exact hc
    ·cases hc
   ·cases hc
 ·exact hc
 ·cases hc
theorem pE{nw:Prop}{F W:List Nat}{H:List HObj}(hnw:nw)(x:HObj)(mk:Nat→Value)(hx:x.alive=true)(hm:Fresh mk):LocF nw F W (fun H=>some (H++[x],mk H.length)) H:=by
 intro H' v h
 cases h
 exact⟨⟨none,some (x,mk),undef⟩,rfl,rfl,fun p hp=>(by cases hp),fun p hp=>by cases hp;exact⟨hnw,hm,hx⟩,fun H2 _=>rfl⟩
theorem fG{nw:Prop}{F W:List Nat}{f:List HObj→Option (List HObj×Value)}{H:List HObj}{v:Value}(h:f H=some (H,v))(h2:∀H2,eR F H H2→f H2=some (H2,v)) :
  ∃e:HEff,H=e.heap H∧v=e.val H.length∧(∀p,e.set=some p→p.1∈W∧∃x,H[p.1]? = some x∧x.alive=true)∧(∀p,e.push=some p→nw∧Fresh p.2∧p.1.alive=true)∧∀H2,eR F H H2→f H2=some (e.heap H2,e.val H2.length):=
 ⟨⟨none,none,v⟩,rfl,rfl,fun p hp=>(by cases hp),fun p hp=>(by cases hp),h2⟩
theorem nd{nw:Prop}{F W:List Nat}{f:List HObj→Option (List HObj×Value)}{H:List HObj}{x:HObj}{mk:Nat→Value}(hnw:nw)(hx:x.alive=true)(hm:Fresh mk)(h2:∀H2,eR F H H2→f H2=some (H2++[x],mk H2.length)) :
  ∃e:HEff,H++[x]=e.heap H∧mk H.length=e.val H.length∧(∀p,e.set=some p→p.1∈W∧∃x,H[p.1]? = some x∧x.alive=true)∧(∀p,e.push=some p→nw∧Fresh p.2∧p.1.alive=true)∧∀H2,eR F H H2→f H2=some (e.heap H2,e.val H2.length):=
 ⟨⟨none,some (x,mk),undef⟩,rfl,rfl,fun p hp=>(by cases hp),fun p hp=>by cases hp;exact⟨hnw,hm,hx⟩,h2⟩
theorem eD{nw:Prop}{F W:List Nat}{f:List HObj→Option (List HObj×Value)}{H:List HObj}{i:Nat}{x y:HObj}{v:Value}(hi:i∈W)(hy:H[i]? = some y)(ha:y.alive=true)(h2:∀H2,eR F H H2→f H2=some (H2.set i x,v)) :
  ∃e:HEff,H.set i x=e.heap H∧v=e.val H.length∧(∀p,e.set=some p→p.1∈W∧∃x,H[p.1]? = some x∧x.alive=true)∧(∀p,e.push=some p→nw∧Fresh p.2∧p.1.alive=true)∧∀H2,eR F H H2→f H2=some (e.heap H2,e.val H2.length):=
 ⟨⟨some (i,x),none,v⟩,rfl,rfl,fun p hp=>by cases hp;exact⟨hi,y,hy,ha⟩,fun p hp=>(by cases hp),h2⟩
theorem rD{nw:Prop}{C:Cfg}{t:TypeId}{s x:Value}{H:List HObj}{F W:List Nat}(hnw:nw)(hs:∀r∈adr s,r∈F∧r∈W)(hx:∀r∈adr x,r∈F):LocF nw F W (eh C t s x) H:=by
 intro H' v hf
 unfold eh at hf
 split at hf
 case h_2=>cases hf
 rename_i elem hu
 split at hf
 ·cases hf
 rename_i info hi
 split at hf
 ·cases hf
 rename_i hsz
 split at hf
 ·cases hf
 rename_i hz
 split at hf
 ·cases hf
 rename_i new n hcv
 have base:∀H2,eR F H H2→eh C t s x H2=(match (motive:=Value→Option (List HObj×Value)) s with
   | .slice none 0 0=>
    if n=0 then some (H2,.slice none 0 0)
    else if dm n info.bytes then some (H2++[.cells new info.size true],.slice (some ⟨H2.length,0,tag info.size⟩) n 0)else none
   | .slice (some a) len cx=>
    if a.spot≠tag info.size then none else
    match H2[a.block]? with
    |some (.cells vs e rw)=>
     if e≠info.size then none else
     match cut vs a.off (len*info.size)with
     |none=>none
     |some old=>
      match cx with
      |0=>
       if n=0 then some (H2,.slice (some a) len 0)
       else if rw&&dm (len+n) info.bytes then
        some (H2.set a.block .dead++[.cells (old++new) info.size true],.slice (some ⟨H2.length,0,tag info.size⟩) (len+n) 0)
       else none
      |cap+1=>
       if len+n≤cap then
        if rw then(splice vs (a.off+len*info.size) new).map fun vs'=>(H2.set a.block (.cells vs' e true),.slice (some a) (len+n) (cap+1))
        else if n=0 then some (H2,.slice (some a) len (cap+1))else none
       else if dm (len+n) info.bytes then
        some (H2++[.cells (old++new) info.size true],.slice (some ⟨H2.length,0,tag info.size⟩) (len+n) 0)
       else none
    |_=>none
   |_=>none):=by
  intro H2 h2
  unfold eh
  simp only[hu,hi,hsz,if_false,hz,gi hcv hx h2]
  rfl
 split at hf
 ·split at hf
  ·rename_i hn
   cases hf
   exact fG (by rw[base H fun _ _ _ h _=>h];simp only[hn,if_true]) fun H2 h2=>by rw[base H2 h2];simp only[hn,if_true]
  ·rename_i hn
   split at hf
   ·rename_i hok
    cases hf
    exact nd (mk:=fun k=>.slice (some ⟨k,0,tag info.size⟩) n 0) hnw rfl (.slice _ _ _) fun H2 h2=>by rw[base H2 h2];simp only[hn,if_false,hok,if_true]
   ·cases hf
 ·rename_i a len cx
  split at hf
  ·cases hf
  rename_i hsp
  have hm:a.block∈adr (.slice (some a) len cx):=by
   simp only[ne_eq,Classical.not_not]at hsp
   simp[adr,hsp,tag]
  split at hf
  case h_2=>cases hf
  rename_i vs e rw0 hid
  split at hf
  ·cases hf
  rename_i he
  split at hf
  ·cases hf
  rename_i old hcut
  have hid2:∀ {H2},eR F H H2→H2[a.block]? = some (.cells vs e rw0):=fun h2=>cW h2 (hs _ hm).1 hid
  split at hf
  ·split at hf
   ·rename_i hn
    cases hf
    exact fG (by rw[base H fun _ _ _ h _=>h];simp only[hsp,hid,he,hcut,hn,if_true,if_false]) fun H2 h2=>by rw[base H2 h2];simp only[hsp,hid2 h2,he,hcut,hn,if_true,if_false]
   ·rename_i hn
    split at hf
    ·rename_i hok
     cases hf
     refine⟨⟨some (a.block,.dead),some (.cells (old++new) info.size true,fun k=>.slice (some ⟨k,0,tag info.size⟩) (len+n) 0),undef⟩,rfl,rfl,fun p hp=>by cases hp;exact⟨(hs _ hm).2,_,hid,rfl⟩,fun p hp=>by cases hp;exact⟨hnw,.slice _ _ _,rfl⟩,fun H2 h2=>?_⟩
     rw[base H2 h2];simp only[hsp,hid2 h2,he,hcut,hn,hok,if_true,if_false];rfl
    ·cases hf
  ·split at hf
   ·rename_i cap hle
    split at hf
    ·rename_i hrw
     obtain⟨vs',hspl,hq⟩:=Option.map_eq_some_iff.1 hf
     cases hq
     exact eD (hs _ hm).2 hid rfl fun H2 h2=>by rw[base H2 h2];simp only[hsp,hid2 h2,he,hcut,hle,hrw,if_true,if_false,hspl,Option.map_some]
    ·rename_i hrw
     split at hf
     ·rename_i hn
      cases hf
      exact fG (by rw[base H fun _ _ _ h _=>h];simp only[hsp,hid,he,hcut,hle,hn,hrw,if_true,if_false];simp[hn];omega) fun H2 h2=>by rw[base H2 h2];simp only[hsp,hid2 h2,he,hcut,hle,hrw,hn,if_true,if_false];simp[hn];omega
     ·cases hf
   ·rename_i cap hle
    split at hf
    ·rename_i hok
     cases hf
     exact nd (mk:=fun k=>.slice (some ⟨k,0,tag info.size⟩) (len+n) 0) hnw rfl (.slice _ _ _) fun H2 h2=>by rw[base H2 h2];simp only[hsp,hid2 h2,he,hcut,hle,hok,if_true,if_false]
    ·cases hf
 ·cases hf
theorem loc_copy{nw:Prop}{C:Cfg}{t:TypeId}{d x:Value}{H:List HObj}{F W:List Nat}(hs:∀r∈adr d,r∈F∧r∈W)(hx:∀r∈adr x,r∈F):LocF nw F W (jN C t d x) H:=by
 intro H' v hf
 unfold jN at hf
 split at hf
 ·rename_i elem hu
  split at hf
  ·cases hf
  rename_i hsz
  obtain⟨p,hp,hq⟩:=Option.map_eq_some_iff.1 hf
  cases hq
  exact fG (by unfold jN;simp only[hu,hsz,if_false,hp,Option.map_some]) fun H2 h2=>by unfold jN;simp only[hu,hsz,if_false,gi hp hx h2,Option.map_some]
 ·rename_i elem a dlen cx hu
  split at hf
  ·cases hf
  rename_i hsz
  split at hf
  ·cases hf
  rename_i hsp
  split at hf
  case h_2=>cases hf
  rename_i new n vs e hcv hid
  split at hf
  ·cases hf
  rename_i he
  obtain⟨vs',hspl,hq⟩:=Option.map_eq_some_iff.1 hf
  cases hq
  have hm:a.block∈adr (.slice (some a) dlen cx):=by
   simp only[ne_eq,Classical.not_not]at hsp
   simp[adr,hsp,tag]
  refine eD (hs _ hm).2 hid rfl fun H2 h2=>?_
  unfold jN
  simp only[hu,hsz,hsp,he,if_false,gi hcv hx h2,cW h2 (hs _ hm).1 hid,hspl,Option.map_some]
 ·cases hf
theorem loc_store{nw:Prop}{C:Cfg}{t:TypeId}{id off:Nat}{x:Value}{H:List HObj}{F W:List Nat}(h1:id∈F)(h2:id∈W):LocF nw F W (gn C t id off x) H:=by
 intro H' v hf
 unfold gn at hf
 split at hf
 ·rename_i vs e hid
  obtain⟨vs',hw,hq⟩:=Option.map_eq_some_iff.1 hf
  cases hq
  refine eD h2 hid rfl fun H2 h3=>?_
  unfold gn
  simp only[cW h3 h1 hid,hw,Option.map_some]
 ·cases hf
theorem lO{nw:Prop}{C:Cfg}{t:TypeId}{m k x:Value}{H:List HObj}{F W:List Nat}(hs:∀r∈adr m,r∈F∧r∈W):LocF nw F W (bL C t m k x) H:=by
 intro H' v hf
 unfold bL at hf
 split at hf
 case h_2=>cases hf
 rename_i kt et id hu
 split at hf
 ·cases hf
 rename_i hok
 split at hf
 ·cases hf
 rename_i es c hm
 obtain⟨f1,w1⟩:=hs id (by simp[adr])
 have g1:=(bG (fun _ _ _ h _=>h:eR F H H) f1 hm).1
 split at hf
 ·cases hf
 ·rename_i hfi
  cases hf
  refine eD w1 g1 rfl fun H2 h2=>?_
  unfold bL
  simp only[hu,hok,(bG h2 f1 hm).2,hfi]
  rfl
 ·rename_i i hfi
  split at hf
  ·rename_i hb
   cases hf
   refine eD w1 g1 rfl fun H2 h2=>?_
   unfold bL
   simp only[hu,hok,(bG h2 f1 hm).2,hfi,hb]
   rfl
  ·cases hf
theorem loc_entry{nw:Prop}{C:Cfg}{t:TypeId}{m k:Value}{H:List HObj}{F W:List Nat}(hs:∀r∈adr m,r∈F∧r∈W):LocF nw F W (bK C t m k) H:=by
 intro H' v hf
 unfold bK at hf
 split at hf
 case h_2=>cases hf
 rename_i kt et id hu
 split at hf
 ·cases hf
 rename_i hok
 split at hf
 ·cases hf
 rename_i es c hm
 obtain⟨f1,w1⟩:=hs id (by simp[adr])
 have g1:=(bG (fun _ _ _ h _=>h:eR F H H) f1 hm).1
 split at hf
 ·cases hf
 ·rename_i hfi
  split at hf
  ·cases hf
  rename_i z hz
  cases hf
  refine eD w1 g1 rfl fun H2 h2=>?_
  unfold bK
  simp only[hu,hok,(bG h2 f1 hm).2,hfi,hz]
  rfl
 ·rename_i i hfi
  split at hf
  ·cases hf
  rename_i e hei
  split at hf
  ·rename_i hb
   cases hf
   refine eD w1 g1 rfl fun H2 h2=>?_
   unfold bK
   simp only[hu,hok,(bG h2 f1 hm).2,hfi,hei,hb]
   rfl
  ·cases hf
theorem rF{nw:Prop}{m s x:Value}{H:List HObj}{F W:List Nat}(hs:∀r∈adr m,r∈F∧r∈W):LocF nw F W (bV m s x) H:=by
 intro H' v hf
 unfold bV at hf
 split at hf
 case h_2=>cases hf
 rename_i id b hb
 split at hf
 ·cases hf
 rename_i hok
 split at hf
 ·cases hf
 rename_i es c hm
 obtain⟨f1,w1⟩:=hs id (by simp[adr])
 have g1:=(bG (fun _ _ _ h _=>h:eR F H H) f1 hm).1
 split at hf
 ·rename_i i hfi
  cases hf
  refine eD w1 g1 rfl fun H2 h2=>?_
  unfold bV
  simp only[hb,hok,(bG h2 f1 hm).2,hfi]
  rfl
 ·cases hf
theorem rE{nw:Prop}{C:Cfg}{t:TypeId}{m k:Value}{H:List HObj}{F W:List Nat}(hs:∀r∈adr m,r∈F∧r∈W):LocF nw F W (cY C t m k) H:=by
 intro H' v hf
 unfold cY at hf
 split at hf
 case h_2=>cases hf
 rename_i kt et hu
 split at hf
 ·cases hf
 rename_i hok
 split at hf
 ·cases hf
  exact fG (by unfold cY;simp only[hu,hok];rfl) fun H2 h2=>by unfold cY;simp only[hu,hok];rfl
 ·rename_i id
  obtain⟨f1,w1⟩:=hs id (by simp[adr])
  split at hf
  ·cases hf
  rename_i es c hm
  have g1:=(bG (fun _ _ _ h _=>h:eR F H H) f1 hm).1
  split at hf
  ·cases hf
  ·rename_i hfi
   cases hf
   exact fG (by unfold cY;simp only[hu,hok,hm,hfi];rfl) fun H2 h2=>by unfold cY;simp only[hu,hok,(bG h2 f1 hm).2,hfi];rfl
  ·rename_i i hfi
   cases hf
   refine eD w1 g1 rfl fun H2 h2=>?_
   unfold cY
   simp only[hu,hok,(bG h2 f1 hm).2,hfi]
   rfl
 ·cases hf
theorem loc_make{nw:Prop}{C:Cfg}{t:TypeId}{l c:Value}{H:List HObj}{F W:List Nat}(hnw:nw):LocF nw F W (cJ C t l c) H:=by
 intro H' v hf
 unfold cJ at hf
 split at hf
 case h_2=>cases hf
 rename_i ln cn e h1 h2 hu
 split at hf
 case h_2=>cases hf
 rename_i info hi
 split at hf
 ·cases hf
 rename_i hsz
 split at hf
 case h_2=>cases hf
 rename_i z hz
 split at hf
 ·rename_i hb
  cases hf
  refine nd (mk:=fun k=>.slice (some ⟨k,0,tag info.size⟩) ln.toNat (cn.toNat+1)) hnw rfl (.slice _ _ _) fun H2 _=>?_
  unfold cJ
  simp only[h1,h2,hu,hi,hsz,hz,hb,and_self,if_true,if_false]
 ·cases hf
theorem rG{C:Cfg}{t:TypeId}{m k:Value}{ok:Bool}{H:List HObj}{F:List Nat}(hs:∀r∈adr m,r∈F):LocG F (bW C t m k ok) H:=by
 intro v hf H2 h2
 unfold bW at hf
 unfold bW
 split at hf
 case h_2=>cases hf
 rename_i kt et hu
 split at hf
 ·cases hf
 rename_i hok
 simp only[hok]
 split at hf
 ·cases hf
 rename_i z hz
 split at hf
 ·exact hf
 ·rename_i id
  have f1:=hs id (by simp[adr])
  split at hf
  ·cases hf
  rename_i es c hm
  simp only[(bG h2 f1 hm).2]
  exact hf
 ·cases hf
theorem loc_arr{C:Cfg}{t:TypeId}{a:Addr}{lo hi mx:Option Value}{H:List HObj}{F:List Nat}(hs:∀r∈adr (.pointer (some a)),r∈F):LocG F (ch C t a lo hi mx) H:=by
 intro v hf H2 h2
 unfold ch at hf
 unfold ch
 split at hf
 case h_2=>cases hf
 rename_i n elem hu
 split at hf
 ·cases hf
 rename_i hsz
 simp only[hsz,if_false]
 split at hf
 ·cases hf
 rename_i l h m hb
 split at hf
 ·rename_i hsp
  simp only[hsp,if_true];exact hf
 ·rename_i hsp
  simp only[hsp,if_false]
  split at hf
  ·rename_i hn
   simp only[hn,if_true]
   split at hf
   ·rename_i vs e b hid
    rw[cW h2 (hs _ (by simp[adr,hn])) hid]
    exact hf
   ·cases hf
  ·cases hf
end Sx
end Go.Am

/-
 WHAT AN OPERATION DOES WHEREVER IT STANDS,told of the blocks that it touches.
-/
namespace Go.Am
namespace Sx
noncomputable def fpo(pts:List Nat)(ρ:Operand→Value)(o:Oper):List Nat:=(cE pts o).1.flatMap fun x=>adrK (cE pts o).2 (ρ x)
noncomputable def wpo(pts:List Nat)(ρ:Operand→Value)(o:Oper):List Nat:=(dX pts o).flatMap fun x=>adr (ρ x)
noncomputable def okS(N:FuncId→Option Nat)(pts:List Nat)(o:Oper):Bool:=
 match aG N pts o with
 |some .hw=>(match o.op with
  | .call c=>(match c.callee with
   | .builtin _=>true
   |_=>false)
  |_=>true)
 |some _=>true
 |none=>false
theorem cK{C:Cfg}{ρ:Operand→Value}{o:Oper}{e:Eff}(h:bN C ρ o=some e):∃v,e = .val v:=by
 unfold bN at h
 split at h
 ·split at h
  ·split at h
   ·cases h;exact⟨_,rfl⟩
   ·cases h
  ·cases h
 ·cases h
theorem cP{x:Option Value}{e:Eff}(h:x.map Eff.val=some e):∃v,e = .val v:=by
 obtain⟨v,_,rfl⟩:=Option.map_eq_some_iff.1 h
 exact⟨v,rfl⟩
theorem nohop_or{a:Option Value}{b:Option Eff}{e:Eff}(hb:b=some e→∃v,e = .val v)(h:kF a b=some e):∃v,e = .val v:=by
 unfold kF at h
 split at h
 ·cases h;exact⟨_,rfl⟩
 ·exact hb h
def LocE(Q nw:Prop)(F W:List Nat):Eff→Prop
 | .hop f=>∀H,LocF nw F W f H
 | .hget f=>∀H,LocG F f H
 | .call _ _=>Q
 | .yield _ _=>Q
 |_=>True
theorem bu{Q nw:Prop}{F W:List Nat}{e:Eff}(h:∃v,e = .val v):LocE Q nw F W e:=by
 obtain⟨v,rfl⟩:=h;trivial
theorem gm{v:Value}{p:Nat×Nat}(h:fq v=some p):adr v=[p.1]:=by
 unfold fq at h
 split at h
 ·rename_i a
  split at h
  ·rename_i hs
   cases h
   cases hsp:a.spot with
   |none=>simp[adr,hsp]
   |some k=>rw[hsp]at hs;cases hs
  ·cases h
 ·cases h
theorem qw{Q nw:Prop}{C:Cfg}{pts:List Nat}{d:Option Tmp}{t:TypeId}{v:Value}{e:Eff}{F W:List Nat}(hnw:∀x,d=some x→pts.getD x 0≠x+2→nw)(h:bM C pts d t v=some e):LocE Q nw F W e:=by
 unfold bM at h
 split at h
 ·cases h
 ·split at h
  ·cases h
  ·split at h
   ·cases h
   ·split at h
    ·cases h;trivial
    ·rename_i hpt
     cases h
     exact fun H=>pE (hnw _ rfl hpt) (.cells v.cells.toList (iJ C.P t) true) (fun n=>.pointer (some ⟨n,0,none⟩)) rfl .ptr
theorem effOf_loc{C:Cfg}{pts:List Nat}{ρ:Operand→Value}{o:Oper}{e:Eff}(he:au C pts ρ o=some e):LocE (∃c f,o.op = .call c∧c.callee = .value f) (cO pts o=true) (fpo pts ρ o) (wpo pts ρ o) e:=by
 unfold au at he
 split at he
 ·cases he;trivial
 ·cases he;trivial
 ·split at he
  ·cases he;trivial
  ·cases he
 ·rename_i t ho
  obtain⟨z,_,he⟩:=Option.bind_eq_some_iff.1 he
  exact qw (fun x hx hp=>by simp only[cO,ho,hx];cases hb:Nat.beq (pts.getD x 0) (x+2)with
   |false=>rfl
   |true=>exact absurd (Nat.eq_of_beq_eq_true hb) hp) he
 ·rename_i t x ho
  exact qw (fun x hx hp=>by simp only[cO,ho,hx];cases hb:Nat.beq (pts.getD x 0) (x+2)with
   |false=>rfl
   |true=>exact absurd (Nat.eq_of_beq_eq_true hb) hp) he
 ·split at he
  ·exact bu (cP he)
  ·cases he
 ·rename_i t n ps ho
  split at he
  ·obtain⟨r,_,rfl⟩:=Option.map_eq_some_iff.1 he
   exact fun H=>pE (by simp only[cO,ho]) (.cells r.2 r.1 true) (fun k=>.slice (some ⟨k,0,tag r.1⟩) n (n+1)) rfl (.slice _ _ _)
  ·cases he
 ·rename_i t a ho
  unfold da at he
  split at he
  ·rename_i hk
   split at he
   ·rename_i p hp
    cases he
    intro H v hv H2 h2
    obtain⟨vs,h3,h4⟩:=Option.bind_eq_some_iff.1 hv
    have hm:p.1∈fpo pts ρ o:=by simp[fpo,cE,adrK,ho,hk,gm hp]
    refine Option.bind_eq_some_iff.2 ⟨vs,?_,h4⟩
    unfold dM at h3 ⊢
    split at h3
    ·rename_i hid;cases h3;rw[cW h2 hm hid]
    ·cases h3
   ·obtain⟨p,_,rfl⟩:=Option.map_eq_some_iff.1 he
    exact fun H v hv H2 _=>hv
  ·obtain⟨p,_,he⟩:=Option.bind_eq_some_iff.1 he
   exact bu (cP he)
  ·obtain⟨p,_,rfl⟩:=Option.map_eq_some_iff.1 he
   trivial
 ·rename_i t a x ho
  unfold dC at he
  split at he
  ·cases he
  ·split at he
   ·rename_i hk
    obtain⟨p,hp,rfl⟩:=Option.map_eq_some_iff.1 he
    exact fun H=>loc_store (by simp[fpo,cE,adrK,ho,hk,gm hp]) (by simp[wpo,dX,ho,hk,gm hp])
   ·cases he
   ·obtain⟨p,_,rfl⟩:=Option.map_eq_some_iff.1 he
    trivial
 ·split at he<;>cases he<;>trivial
 ·split at he
  ·split at he
   ·split at he
    ·cases he;trivial
    ·cases he
   ·exact bu (cK he)
  ·split at he
   ·split at he
    ·cases he;trivial
    ·cases he
   ·exact bu (cK he)
  ·exact bu (cK he)
 ·split at he
  ·cases he
  ·cases he;trivial
 ·rename_i t r ho
  split at he
  ·cases he
   exact fun H=>pE (by simp only[cO,ho]) (.map [] 0) (fun n=>.map (some n)) rfl .map
  ·cases he
 ·rename_i t l c ho
  cases he
  exact fun H=>loc_make (by simp only[cO,ho])
 ·rename_i t x lo hi mx ho
  split at he
  ·rename_i a hx
   split at he
   ·exact bu (cP he)
   ·cases he
    exact fun H=>loc_arr fun r hr=>by simp[fpo,cE,adrK,adrP,ho,hx];exact hr
  ·exact bu (nohop_or cK he)
 ·exact bu (cP he)
 ·exact bu (cP he)
 ·exact bu (cP he)
 ·exact bu (cP he)
 ·rename_i t m k ok ho
  split at he
  ·exact bu (cP he)
  ·cases he
   exact fun H=>rG fun r hr=>by simp[fpo,cE,adrK,ho];exact hr
 ·rename_i t m k v ho
  cases he
  exact fun H=>lO fun r hr=>⟨by simp[fpo,cE,adrK,ho];exact hr,by simp[wpo,dX,ho];exact hr⟩
 ·rename_i t m k v ho
  cases he
  exact fun H=>lO fun r hr=>⟨by simp[fpo,cE,adrK,ho];exact hr,by simp[wpo,dX,ho];exact hr⟩
 ·rename_i t m k ho
  cases he
  exact fun H=>loc_entry fun r hr=>⟨by simp[fpo,cE,adrK,ho];exact hr,by simp[wpo,dX,ho];exact hr⟩
 ·rename_i t m s v ho
  cases he
  exact fun H=>rF fun r hr=>⟨by simp[fpo,cE,adrK,ho];exact hr,by simp[wpo,dX,ho];exact hr⟩
 ·split at he
  ·split at he
   ·cases he
   ·exact bu (cP he)
  ·cases he
 ·rename_i c ho
  unfold eA at he
  simp only at he
  cases hc:c.callee with
  |invoke r m=>simp only[hc]at he;cases he
  |builtin b=>
   simp only[hc]at he
   unfold aV at he
   split at he
   ·rename_i s x t ha ht
    split at he
    ·cases he
    ·cases he
     have two:∃a b,c.args.toList=[a,b]∧ρ a=s∧ρ b=x:=by
      match c.args.toList,ha with
      | [a,b],ha=>simp at ha;exact⟨a,b,rfl,ha.1,ha.2⟩
     obtain⟨a,b,e1,rfl,rfl⟩:=two
     exact fun H=>rD (by simp only[cO,ho,hc]) (fun r hr=>⟨by simp[fpo,cE,adrK,ho,hc,e1,hr],by simp[wpo,dX,ho,hc,e1,hr]⟩) fun r hr=>by simp[fpo,cE,adrK,ho,hc,e1,hr]
   ·rename_i x t ha ht
    split at he
    ·cases he;trivial
    ·rename_i id hu
     cases he
     have one:∃a,c.args.toList=[a]∧ρ a = .map (some id):=by
      cases hl:c.args.toList with
      |nil=>rw[hl]at ha;cases ha
      |cons a l=>
       rw[hl]at ha
       cases l with
       |nil=>exact⟨a,rfl,by simpa using ha⟩
       |cons b l=>simp at ha
     obtain⟨a,e1,e2⟩:=one
     intro H v hv H2 h2
     obtain⟨p,h3,h4⟩:=Option.map_eq_some_iff.1 hv
     have hm:id∈fpo pts ρ o:=by simp[fpo,cE,adrK,adrM,ho,hc,e1,e2]
     exact Option.map_eq_some_iff.2 ⟨p,(bG h2 hm h3).2,h4⟩
    ·cases he;trivial
    ·exact bu (cK he)
   ·split at he
    ·cases he;trivial
    ·cases he;trivial
    ·cases he;trivial
    ·cases he
   ·rename_i d x t ha ht
    cases he
    have two:∃a b,c.args.toList=[a,b]∧ρ a=d∧ρ b=x:=by
     match c.args.toList,ha with
     | [a,b],ha=>simp at ha;exact⟨a,b,rfl,ha.1,ha.2⟩
    obtain⟨a,b,e1,rfl,rfl⟩:=two
    exact fun H=>loc_copy (fun r hr=>⟨by simp[fpo,cE,adrK,ho,hc,e1,hr],by simp[wpo,dX,ho,hc,e1,hr]⟩) fun r hr=>by simp[fpo,cE,adrK,ho,hc,e1,hr]
   ·rename_i m k t ha ht
    cases he
    have two:∃a b,c.args.toList=[a,b]∧ρ a=m∧ρ b=k:=by
     match c.args.toList,ha with
     | [a,b],ha=>simp at ha;exact⟨a,b,rfl,ha.1,ha.2⟩
    obtain⟨a,b,e1,rfl,rfl⟩:=two
    exact fun H=>rE fun r hr=>⟨by simp[fpo,cE,adrK,ho,hc,e1,hr],by simp[wpo,dX,ho,hc,e1,hr]⟩
   ·exact bu (cK he)
  |value f=>
   simp only[hc]at he
   split at he
   ·cases he
   ·split at he
    ·split at he
     ·cases he;exact⟨c,f,ho,hc⟩
     ·cases he
    ·split at he
     ·cases he;exact⟨c,f,ho,hc⟩
     ·cases he
    ·cases he
 ·exact bu (cK he)
 ·exact bu (cK he)
 ·cases he
section
variable [Val] {C:Cfg} {B:Below} {N:FuncId→Option Nat} {pts:List Nat} {ops:Array Oper}
def mt(N:FuncId→Option Nat)(pts:List Nat)(ops:Array Oper)(o:Oper)(σ τ:St):Prop:=
 (∀t∈bD ops o,τ.tmps[t]? = σ.tmps[t]?)∧(match aG N pts o with
 |some (.row s _)=>τ.loc[s]? = σ.loc[s]?
 |_=>True)∧eR (fpo pts (oval σ.tmps) o) σ.heap τ.heap
noncomputable def dK(dst:Option Tmp)(e:HEff)(rw:Option (Nat×Option (List Value)))(k:Option Nat)(τ:St):St:=
 ({ tmps:=τ.tmps,loc:=(match rw with|some p=>τ.loc.set p.1 p.2|none=>τ.loc),heap:=(match k with
  |none=>e.heap τ.heap
  |some k=>match e.push with
   |some p=>(e.put τ.heap).set k p.1
   |none=>e.put τ.heap) }:St).put dst (match k with
  |none=>e.val τ.heap.length
  |some k=>e.val k)
theorem local_okS(hN:NeuB N B){i:Nat}{o:Oper}(hi:ops[i]? = some o)(hc:okS N pts o=true){σ σ':St}(hs:av C B pts ops i σ σ') :
  ∃(e:HEff) (rw:Option (Nat×Option (List Value))),σ'=dK o.dst e rw none σ∧(∀p,rw=some p→aG N pts o=some (.row p.1 true))∧(e.push≠none→aG N pts o=some .hw)∧
   (∀p,e.set=some p→p.1∈wpo pts (oval σ.tmps) o∧∃x,σ.heap[p.1]? = some x∧x.alive=true)∧(∀p,e.push=some p→cO pts o=true∧Fresh p.2∧p.1.alive=true)∧
   ∀τ,mt N pts ops o σ τ→∀sl:Nat→Option Nat,
    (e.push=none→sl i=none→de C B pts ops sl i τ (dK o.dst e rw none τ))∧
    (∀p k,e.push=some p→sl i=some k→(e.put τ.heap)[k]? = some .dead→de C B pts ops sl i τ (dK o.dst e rw (some k) τ)):=by
 have hm:aG N pts o≠none:=by intro h;unfold okS at hc;rw[h]at hc;cases hc
 by_cases hcl:aG N pts o=some .hr∨aG N pts o=some .hw
 case neg=>
  obtain⟨e,h1,h2,h3⟩:=gT hN hi hm hs
  have hh:e.hp=none:=by
   cases he:e.hp with
   |none=>rfl
   |some x=>exact absurd (.inr (h2.2 (by rw[he];simp))) hcl
  have hon:∀τ,e.on o.dst τ=dK o.dst ⟨none,none,e.v⟩ e.rw none τ:=fun τ=>by
   unfold Ef.on dK
   rw[hh]
   rfl
  refine⟨⟨none,none,e.v⟩,e.rw,by rw[h1,hon],h2.1,fun h=>absurd rfl h,fun p hp=>(by cases hp),fun p hp=>(by cases hp),fun τ hτ sl=>⟨fun _ hsl=>?_,fun p k hp=>(by cases hp)⟩⟩
  unfold de
  rw[hsl]
  rw[←hon]
  refine h3 τ ⟨hτ.1,?_⟩
  have:=hτ.2.1
  cases hmm:aG N pts o with
  |none=>exact absurd hmm hm
  |some m=>
   rw[hmm]at this hcl
   cases m with
   |hr=>exact absurd (.inl rfl) hcl
   |hw=>exact absurd (.inr rfl) hcl
   |row s w=>exact this
   |_=>trivial
 case pos=>
  unfold av at hs
  simp only[hi]at hs
  have hwτ:∀τ,mt N pts ops o σ τ→bF ops τ.tmps o=bF ops σ.tmps o:=fun τ hτ=>gz hτ.1
  have val:∀v:Value,σ'=σ.put o.dst v→(∀τ,mt N pts ops o σ τ→av C B pts ops i τ (τ.put o.dst v))→
    ∃(e:HEff) (rw:Option (Nat×Option (List Value))),σ'=dK o.dst e rw none σ∧(∀p,rw=some p→aG N pts o=some (.row p.1 true))∧(e.push≠none→aG N pts o=some .hw)∧
     (∀p,e.set=some p→p.1∈wpo pts (oval σ.tmps) o∧∃x,σ.heap[p.1]? = some x∧x.alive=true)∧(∀p,e.push=some p→cO pts o=true∧Fresh p.2∧p.1.alive=true)∧
     ∀τ,mt N pts ops o σ τ→∀sl:Nat→Option Nat,
      (e.push=none→sl i=none→de C B pts ops sl i τ (dK o.dst e rw none τ))∧
      (∀p k,e.push=some p→sl i=some k→(e.put τ.heap)[k]? = some .dead→de C B pts ops sl i τ (dK o.dst e rw (some k) τ)):=by
   intro v hv h
   refine⟨⟨none,none,v⟩,none,hv,fun p hp=>(by cases hp),fun h=>absurd rfl h,fun p hp=>(by cases hp),fun p hp=>(by cases hp),fun τ hτ sl=>⟨fun _ hsl=>?_,fun p k hp=>(by cases hp)⟩⟩
   unfold de
   rw[hsl]
   exact h τ hτ
  split at hs
  ·exact hs.elim
  ·rename_i hw
   refine val undef hs fun τ hτ=>?_
   unfold av
   simp only[hi,hwτ τ hτ,hw]
  ·rename_i hw
   have step:∀ {τ τ':St},mt N pts ops o σ τ→((∃e,au C pts (oval τ.tmps) o=some e∧gI B e o.dst τ τ')∨(∃v,gc C τ.tmps o v∧τ'=τ.put o.dst v))→av C B pts ops i τ τ':=by
    intro τ τ' hτ h
    unfold av
    simp only[hi,hwτ τ hτ,hw]
    exact h
   rcases hs with⟨e,he,hr⟩|⟨v,hv,rfl⟩
   ·have heτ:∀τ,mt N pts ops o σ τ→au C pts (oval τ.tmps) o=some e:=fun τ hτ=>by
     rw[gj N pts hm (jA hτ.1)];exact he
    have hfit:=fo (N:=N) (fun _=>rfl) hm he
    have hloc:=effOf_loc he
    cases e with
    |val v=>
     obtain⟨p,hp,rfl⟩:=hr
     cases hp
     exact val v rfl fun τ hτ=>step hτ (.inl ⟨_,heτ τ hτ,_,rfl,rfl⟩)
    |lnew s vs=>
     have hfit:aG N pts o=some (.row s true):=hfit
     rw[hfit]at hcl;rcases hcl with h|h<;>cases h
    |lget s f=>
     have hfit:aG N pts o=some (.row s false):=hfit
     rw[hfit]at hcl;rcases hcl with h|h<;>cases h
    |lset s f=>
     have hfit:aG N pts o=some (.row s true):=hfit
     rw[hfit]at hcl;rcases hcl with h|h<;>cases h
    |hget f=>
     obtain⟨p,hp,rfl⟩:=hr
     simp only[aK]at hp
     obtain⟨v,hv,rfl⟩:=Option.map_eq_some_iff.1 hp
     refine val v rfl fun τ hτ=>step hτ (.inl ⟨_,heτ τ hτ,(τ,v),?_,rfl⟩)
     simp only[aK,hloc _ _ hv _ hτ.2.2,Option.map_some]
    |hop f=>
     obtain⟨p,hp,rfl⟩:=hr
     simp only[aK]at hp
     obtain⟨q,hv,rfl⟩:=Option.map_eq_some_iff.1 hp
     obtain⟨e,l1,l2,l3,l4,l5⟩:=hloc σ.heap q.1 q.2 hv
     refine⟨e,none,?_,fun p hp=>(by cases hp),fun _=>hfit,l3,l4,fun τ hτ sl=>⟨fun hp hsl=>?_,fun p k hp hsl hd=>?_⟩⟩
     ·unfold dK
      rw[l1,l2]
     ·unfold de
      rw[hsl]
      exact step hτ (.inl ⟨_,heτ τ hτ,({ τ with heap:=e.heap τ.heap },e.val τ.heap.length),by simp only[aK,l5 _ hτ.2.2,Option.map_some],rfl⟩)
     ·unfold de
      rw[hsl]
      refine⟨o,f,e.put τ.heap,p.1,p.2,hi,by rw[hwτ τ hτ];exact hw,heτ τ hτ,?_,?_,hd,(l4 p hp).2.1,?_⟩
      ·rw[l5 _ hτ.2.2]
       unfold HEff.heap HEff.val
       rw[hp]
      ·unfold HEff.put
       split<;>simp
      ·unfold dK HEff.val
       rw[hp]
    |call f args=>
     exfalso
     have hfit:(aG N pts o=some (.neu f)∧N f=some args.length)∨aG N pts o=some .hw:=hfit
     rcases hfit with⟨h,_⟩|h
     ·rw[h]at hcl;rcases hcl with h|h<;>cases h
     ·obtain⟨c,g,q1,q2⟩:=hloc
      unfold okS at hc
      simp only[h,q1,q2]at hc
      cases hc
    |yield l args=>
     exfalso
     have hfit:aG N pts o=some .hw:=hfit
     obtain⟨c,g,q1,q2⟩:=hloc
     unfold okS at hc
     simp only[hfit,q1,q2]at hc
     cases hc
   ·refine val v rfl fun τ hτ=>step hτ (.inr ⟨v,?_,rfl⟩)
    obtain⟨h1,h2,h3,h4⟩:=hv
    have hops:=jA hτ.1
    refine⟨h1,?_,h3,fun w=>?_⟩
    ·rw[List.all_eq_true]at h2 ⊢
     intro x hx
     rw[hops x hx];exact h2 x hx
    ·rw[execOp_congr N pts hm (ρ':=fun x=>den (oval σ.tmps x)) fun x hx=>by rw[hops x hx]]
     exact h4 w
end
end Sx
end Go.Am


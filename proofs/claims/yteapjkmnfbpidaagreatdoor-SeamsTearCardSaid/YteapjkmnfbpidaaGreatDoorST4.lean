/-
  PART 4 OF THE PROOF (no conditions).
-/
import Derived.Test.YteapjkmnfbpidaaGreatDoorST3
import Derived.Laws.Entries
import Derived.Laws.StructEq
set_option linter.unusedSectionVars false
set_option linter.unusedSimpArgs false
set_option linter.unusedVariables false
set_option linter.constructorNameAsVariable false
set_option linter.defProp false
noncomputable section
namespace Go.Am
section
variable [Val] [Kno] {R HT:Type} {A:Alg R HT} {X:Ctxt} {Sg:Tc} {holds:R->Prop} {abs:HT->Ts}
variable {ev:Env} {σ:St} {h:HT} {o:Oper} {K:KN R HT}
def StepO(C:Cfg)(pts:Tz)(o:Oper)(σ σ':St):Prop:=
 (∃e,ak C pts (oval σ.tmps) o=some e/\im (uB C) e o.dst σ σ')∨(∃v,gK C σ.tmps o v/\σ'=σ.put o.dst v)
def rp(pts:Tz)(o:Oper):Tp:=
 match o.op,o.dst with
 | .box ..,some d=>if pts.getD d 0=d+2 then some d else none
 | .alloc _,some d=>if pts.getD d 0=d+2 then some d else none
 |_,_=>none
def Done(X:Ctxt)(holds:R->Prop)(abs:HT->Ts)(o:Oper)(σ:St)(K:KN R HT):Prop:=
 ∃σ' ev' h',StepO X.C X.pts o σ σ'/\Rp ev' σ'/\abs h'=σ'.heap/\Fr o.dst.toList (rp X.pts o).toList (gV X.pts o).toList σ σ'/\holds (K ev' h')
def sS(hR:Rp ev σ){dst:Tn}{s:SV}(hs:s.gd)(hk:holds (setD dst s ev h K)):∃ev',Rp ev' (σ.put dst s.val)/\holds (K ev' h):=by
 unfold setD at hk
 cases dst with
 |none=>exact⟨ev,hR,hk⟩
 |some d=>
  simp only[setK_eq]at hk
  exact⟨_,hR.put d hs,hk⟩
def cR(hR:Rp ev σ)(H':Ts)(ha:abs h=H'){s:SV}(hs:s.gd)
  (hst:StepO X.C X.pts o σ (({ σ with heap:=H' }:St).put o.dst s.val)) (hk:holds (setD o.dst s ev h K)):Done X holds abs o σ K:=by
 obtain⟨ev',h1,h2⟩:=sS (hR.heap H') hs hk
 refine⟨_,ev',h,hst,h1,?_,?_,h2⟩
 ·rw[ha];cases o.dst<;>rfl
 ·have:=Fr.put (σ:=({ σ with heap:=H' }:St)) o.dst s.val (rp X.pts o).toList (gV X.pts o).toList
  exact⟨this.tlen,this.llen,this.tm,this.tp,this.row,this.rlen⟩
def au(hR:Rp ev σ)(ha:abs h=σ.heap){s:SV}(hs:s.gd)(he:ak X.C X.pts (oval σ.tmps) o=some (.val s.val))(hk:holds (setD o.dst s ev h K)) :
  Done X holds abs o σ K:=
 cR hR σ.heap ha hs (.inl ⟨_,he,_,rfl,rfl⟩) hk
def bG(hR:Rp ev σ)(ha:abs h=σ.heap){s:SV}(hs:s.gd)(he:gK X.C σ.tmps o s.val)(hk:holds (setD o.dst s ev h K)) :
  Done X holds abs o σ K:=
 cR hR σ.heap ha hs (.inr ⟨_,he,rfl⟩) hk
def fG(hR:Rp ev σ)(ha:abs h=σ.heap){s:SV}(hs:s.gd){f:Ts->Ti}(he:ak X.C X.pts (oval σ.tmps) o=some (.hget f))(hf:f σ.heap=some s.val)
  (hk:holds (setD o.dst s ev h K)):Done X holds abs o σ K:=
 cR hR σ.heap ha hs (.inl ⟨_,he,(σ,s.val),by simp[aA,hf],rfl⟩) hk
def cD(hR:Rp ev σ){H':Ts}(ha:abs h=H'){s:SV}(hs:s.gd){f:Ts->Option (List HObj×Value)}(he:ak X.C X.pts (oval σ.tmps) o=some (.hop f))
  (hf:f σ.heap=some (H',s.val)) (hk:holds (setD o.dst s ev h K)):Done X holds abs o σ K:=
 cR hR H' ha hs (.inl ⟨_,he,({ σ with heap:=H' },s.val),by simp[aA,hf],rfl⟩) hk
def move_ok(hR:Rp ev σ)(ha:abs h=σ.heap){x:TD}(ho:o.op = .move x∨o.op = .assign x){y:SV}(hy:sval ev x=y)(hn:y≠.no)(hk:holds (setD o.dst y ev h K)):Done X holds abs o σ K:=by
 obtain⟨h1,h2⟩:=hR.sval hy hn
 refine au hR ha h2 ?_ hk
 rcases ho with ho|ho<;>simp only[ak,ho,h1]
def pick_ok(hA:AlgOk A X.C Sg X.T holds abs)(hR:Rp ev σ)(ha:abs h=σ.heap){c a b:TD}(ho:o.op = .pick c a b)
  (hk:holds (match sval ev c,sval ev a,sval ev b with
  | .st (.leaf (.l true)),.st y,_=>setD o.dst (.st y) ev h K
  | .st (.leaf (.l false)),_,.st y=>setD o.dst (.st y) ev h K
  | .st (.leaf (.b t)),.st y,.st z=>A.cond t (setD o.dst (.st y) ev h K) (setD o.dst (.st z) ev h K)
  |_,_,_=>A.fail)):Done X holds abs o σ K:=by
 split at hk
 next y e1 e2=>
  obtain⟨h1,_⟩:=hR.sval e1 (by simp)
  obtain⟨h2,g2⟩:=hR.sval e2 (by simp)
  refine au hR ha g2 ?_ hk
  simp only[ak,ho,h1,SV.val,S0.val,SL.val,if_true,h2]
 next y e1 e2=>
  obtain⟨h1,_⟩:=hR.sval e1 (by simp)
  obtain⟨h2,g2⟩:=hR.sval e2 (by simp)
  refine au hR ha g2 ?_ hk
  simp only[ak,ho,h1,SV.val,S0.val,SL.val,h2,qaj,if_false]
 next t y z e1 e2 e3=>
  obtain⟨h1,_⟩:=hR.sval e1 (by simp)
  obtain⟨h2,g2⟩:=hR.sval e2 (by simp)
  obtain⟨h3,g3⟩:=hR.sval e3 (by simp)
  rcases hA.cond _ _ _ hk with⟨ht,hk⟩|⟨ht,hk⟩
  ·refine au hR ha g2 ?_ hk
   simp only[ak,ho,h1,SV.val,S0.val,SL.val,ht,if_true,h2]
  ·refine au hR ha g3 ?_ hk
   simp only[ak,ho,h1,SV.val,S0.val,SL.val,ht,h3,qaj,if_false]
 ·exact absurd hk hA.fail
def newV_ok(hA:AlgOk A X.C Sg X.T holds abs)(hR:Rp ev σ)(ha:abs h=σ.heap){t:TI}{x:S0}(hx:x.good)(he:ak X.C X.pts (oval σ.tmps) o=bM X.C X.pts o.dst t x.val)
  (hb:(∃y,o.op = .box t y)∨o.op = .alloc t) (hk:holds (newV A X o.dst t x ev h K)):Done X holds abs o σ K:=by
 unfold newV at hk
 split at hk
 ·exact absurd hk hA.fail
 next d hd=>
  have ea:=S0.cells_val hx
  have hok:=S0.cells_ok hx
  have hnt:=S0.not_tuple hx
  split at hk
  next hp=>
   have hp:X.pts.getD d 0=d+2:=by simpa using hp
   split at hk
   next hl=>
    rw[setK_eq,setK_eq]at hk
    have hrow:ev.lc[d]?=some .nil:=by
     rw[List.getD_eq_getElem?_getD]at hl
     cases he:ev.lc[d]? with
     |none=>rw[he]at hl;cases hl
     |some r=>rw[he]at hl;simp at hl;rw[hl]
    have hloc:σ.loc[d]?=some none:=hR.row d _ hrow
    have heff:ak X.C X.pts (oval σ.tmps) o=some (.lnew d (x.cells.map SL.val)):=by
     rw[he,hd]
     unfold bM
     simp only[hnt,qaj,if_false,ea,cells_ok' hx,qaK,hp,if_true]
    let σ₁:St:={ σ with loc:=σ.loc.set d (some (x.cells.map SL.val)) }
    have hR1:Rp ⟨ev.tm,ev.lc.set d (.row x.cells)⟩ σ₁:=by
     refine⟨hR.len,hR.val,by simp[σ₁,hR.llen],λi r hr=>?_⟩
     simp only[qaD]at hr
     split at hr
     next hi=>
      subst hi
      split at hr
      next hlt=>
       cases hr
       exact⟨by simp only[σ₁];rw[qaE (by rw[←hR.llen];exact hlt)],hx⟩
      ·cases hr
     next hi=>
      have:=hR.row i r hr
      have hne:σ₁.loc[i]?=σ.loc[i]?:=by simp only[σ₁];rw[qav hi]
      cases r<;>first|trivial|(simp only[LR.ok]at this ⊢;rw[hne];exact this)
    have hkey:rp X.pts o=some d:=by
     rcases hb with⟨y,hb⟩|hb<;>(simp only[rp,hb,hd];rw[qdq hp])
    have hrow':gV X.pts o=some d:=by
     rcases hb with⟨y,hb⟩|hb<;>(simp only[gV,hb,hd];rw[qdq hp])
    refine⟨σ₁.put o.dst (.pointer (some ⟨d,0,some 0⟩)),_,h,.inl ⟨_,heff,(σ₁,.pointer (some ⟨d,0,some 0⟩)),by simp[aA,hloc,σ₁],rfl⟩,?_,?_,?_,hk⟩
    ·rw[hd];exact hR1.put d (s:=.lad d 0) trivial
    ·rw[ha];cases o.dst<;>rfl
    ·have hf:=Fr.put (σ:=σ₁) o.dst (.pointer (some ⟨d,0,some 0⟩)) [d] [d]
     have h0:Fr o.dst.toList [d] [d] σ σ₁:=by
      refine⟨rfl,by simp[σ₁],λ_ _ h _ _=>h,λ_ _ _ h _ _=>h,λs y hs hn=>?_,λs vs hs hn=>?_⟩
      ·simp only[qay]at hn
       simp only[σ₁]
       rw[qav (λe=>hn e.symm)];exact hs
      ·simp only[qay]at hn
       refine⟨vs,?_,rfl⟩
       simp only[σ₁]
       rw[qav (λe=>hn e.symm)];exact hs
     rw[hkey,hrow']
     exact h0.trans hf
   ·exact absurd hk hA.fail
  next hp=>
   have hp:¬X.pts.getD d 0=d+2:=λe=>by rw[e]at hp;simp at hp
   obtain⟨h',e1,e2⟩:=hA.new _ _ _ hk
   rw[ha]at e1 e2
   have heff:ak X.C X.pts (oval σ.tmps) o=some (.hop λH=>some (H++[.cells x.val.cells.toList (jz X.C.P t) true],.pointer (some ⟨H.length,0,none⟩))):=by
    rw[he,hd]
    unfold bM
    simp only[hnt,qaj,if_false,hok,qaK,hp]
   rw[←hd]at e2
   refine cD (s:=.st (.leaf (.v (.pointer (some ⟨σ.heap.length,0,none⟩))))) hR e1 (λl hl=>?_) heff ?_ e2
   ·simp only[S0.cells,qay]at hl
    subst hl;rfl
   ·simp only[ea];rfl
def tq(new:Tl):∀(off k:Nat) (cs:Tl),off+k+new.length<=cs.length->
  ((new.zipIdx k).foldl (λ(acc:Tj) (p:Value×Nat)=>acc.setIfInBounds (off+p.2) p.1) cs.toArray).toList=cs.take (off+k)++new++cs.drop (off+k+new.length):=by
 induction new with
 |nil=>intro off k cs h;simp
 |cons a l ih=>
  intro off k cs h
  simp only[qaP]at h
  simp only[List.zipIdx_cons,qb1]
  have hset:(cs.toArray.setIfInBounds (off+k) a)=(cs.set (off+k) a).toArray:=by simp
  rw[hset,ih off (k+1) (cs.set (off+k) a) (by simp;omega)]
  rw[List.take_set,List.drop_set]
  have h1:(cs.take (off+(k+1))).set (off+k) a=cs.take (off+k)++[a]:=by
   rw[show off+(k+1)=(off+k)+1 from by omega]
   rw[List.take_succ_eq_append_getElem (by omega),qdh]
   simp[qbK (show off+k<=cs.length by omega)]
  rw[h1]
  rw[qdq (show off+k<off+(k+1)+l.length by omega),show off+(k+1)+l.length=off+k+(l.length+1)by omega]
  simp only[qaB,qax,qaw,qaP]
def oV(pl:Nat->Option (Nat×Nat)):∀(ps:List (Nat×S0)) (cs r:List SL),(∀p∈ps,p.2.good)->oU pl cs ps=some r->
  Instr.fill pl ⟨cs.map SL.val⟩ (ps.map λp=>(p.1,p.2.val))=some ⟨r.map SL.val⟩
 | [],cs,r,_,hf=>by cases hf;rfl
 |(i,x) :: ps,cs,r,hg,hf=>by
  simp only[oU]at hf
  split at hf
  next off n hpl=>
   split at hf
   next hn=>
    split at hf
    next cs1 hs=>
     have hn:x.cells.length=n:=by simpa using hn
     have hx:x.good:=hg (i,x) (by simp)
     have hc:=S0.cells_val hx
     unfold fW at hs
     split at hs
     next hle=>
      cases hs
      have ih:=oV pl ps _ r (λp hp=>hg p (by simp[hp])) hf
      simp only[qat,Instr.fill,hpl,hc]
      have hsz:(⟨x.cells.map SL.val⟩ : Array Value).size=n:=by simp[hn]
      rw[qdr (by
       have h2:(⟨cs.map SL.val⟩ : Array Value).size=cs.length:=by simp
       rw[hsz,h2];simp;omega)]
      rw[←ih]
      congr 1
      have hfold:=tq (x.cells.map SL.val) off 0 (cs.map SL.val) (by simp;omega)
      apply qaZ.1
      rw[←qcd,qcP]
      refine Eq.trans hfold ?_
      simp[qb5,qch]
     ·cases hs
    ·cases hf
   ·cases hf
  ·cases hf
def nm(pl:Nat->Option (Nat×Nat)):∀(ps:List (Nat×S0)) (cs r:List SL),(∀c∈cs,c.good)->(∀p∈ps,p.2.good)->oU pl cs ps=some r->∀c∈r,c.good
 | [],cs,r,hc,_,hf=>by cases hf;exact hc
 |(i,x) :: ps,cs,r,hc,hg,hf=>by
  simp only[oU]at hf
  split at hf
  ·split at hf
   ·split at hf
    next cs1 hs=>
     refine nm pl ps cs1 r (λc hm=>?_) (λp hp=>hg p (by simp[hp])) hf
     unfold fW at hs
     split at hs
     ·cases hs
      simp only[qaH]at hm
      rcases hm with(hm|hm)|hm
      ·exact hc c (qbo hm)
      ·exact hg (i,x) (by simp) c hm
      ·exact hc c (qbt hm)
     ·cases hs
    ·cases hf
   ·cases hf
  ·cases hf
def ot{ps:List (Nat×Operand)}{xs:List S0}(hv:(ps.map (·.2)).map (oval σ.tmps)=ai xs) :
  ps.map (λp=>(p.1,oval σ.tmps p.2))=((ps.map (·.1)).zip xs).map λp=>(p.1,p.2.val):=by
 induction ps generalizing xs with
 |nil=>simp
 |cons p ps ih=>
  cases xs with
  |nil=>simp[ai]at hv
  |cons x xs=>
   simp only[qat,ai,qaY]at hv
   simp only[qat,qcs,hv.1]
   rw[ih (xs:=xs) hv.2]
def qc{is:Tz}{xs:List S0}(hg:∀x∈xs,x.good):∀p∈is.zip xs,p.2.good:=λ_ hp=>hg _ (List.of_mem_zip hp).2
def qa{P:TC}{t:TI}{x:S0}(hz:tj P t=some x):∃z,cZ P t=some z/\x.val=z/\x.good:=by
 unfold tj at hz
 obtain⟨z,h1,h2⟩:=qai.1 hz
 obtain⟨h3,h4,_⟩:=pN h2
 exact⟨z,h1,h3,h4⟩
def build_ok(hA:AlgOk A X.C Sg X.T holds abs)(hR:Rp ev σ)(ha:abs h=σ.heap){t:TI}{ps:Array (Nat×Operand)}(ho:o.op = .build t ps)
  (hk:holds (match tj X.C.P t,kS X.C.P t,svals ev (ps.toList.map (·.2))with
  |some z,some pl,some xs=>match oU pl z.cells ((ps.toList.map (·.1)).zip xs)with
   |some cs=>setD o.dst (.st (.agg cs)) ev h K
   |none=>A.fail
  |_,_,_=>A.fail)):Done X holds abs o σ K:=by
 split at hk
 next z pl xs e1 e2 e3=>
  split at hk
  next cs e4=>
   obtain⟨zv,hz1,hz2,hz3⟩:=qa e1
   obtain⟨hv,hg⟩:=hR.svals e3
   have hzc:=S0.cells_val hz3
   have hfill:=oV pl _ _ _ (qc (is:=ps.toList.map (·.1)) hg) e4
   have hgood:=nm pl _ _ _ (λc hc=>hz3 c hc) (qc (is:=ps.toList.map (·.1)) hg) e4
   refine au hR ha (s:=.st (.agg cs)) hgood ?_ hk
   have hall:(ps.toList.all λp=>!aB (oval σ.tmps p.2))=true:=by
    simp only[qab,qbB]
    intro p hp
    have hm:oval σ.tmps p.2∈ai xs:=by
     rw[←hv]
     exact qaN.2 ⟨p.2,qaN.2 ⟨p,hp,rfl⟩,rfl⟩
    simp only[ai,qaN]at hm
    obtain⟨x,hx,e⟩:=hm
    rw[←e]
    exact S0.not_tuple (hg x hx)
   simp only[ak,ho,hall,if_true,ql,hz1,e2]
   rw[ot hv,←hz2,hzc,hfill]
   rfl
  ·exact absurd hk hA.fail
 ·exact absurd hk hA.fail
end
def SL.lf_val{a b:SL}{k:LK}(ha:a.is k=true)(hb:b.is k=true)(he:a.lf=b.lf):a.val=b.val/\(a.good->b.good):=by
 cases a<;>cases b<;>cases k<;>simp only[SL.lf,Lf.i.injEq,Lf.b.injEq,Lf.v.injEq,reduceCtorEq,SL.is,qaj]at he ha hb ⊢<;>try (subst he;exact⟨rfl,id⟩)
 subst he
 exact⟨by simp only[SL.val];rw[cT ha,cT hb],id⟩
def bn:∀ {cs:List SL} {ks:TE},aG cs ks=true->cs.length=ks.length
 | [],[],_=>rfl
 |c :: cs,k :: ks,h=>by
  simp only[aG,qaa]at h
  simp[bn h.2]
 | [],_ :: _,h=>by cases h
 |_ :: _,[],h=>by cases h
def fv:∀ {a b:List SL} {ks:TE},aG a ks=true->aG b ks=true->a.map SL.lf=b.map SL.lf->a.map SL.val=b.map SL.val/\((∀c∈a,c.good)->∀c∈b,c.good)
 | [],[],[],_,_,_=>⟨rfl,λ_ _ h=>by cases h⟩
 |a :: as0,b :: bs,k :: ks,ha,hb,he=>by
  simp only[aG,qaa]at ha hb
  simp only[qat,qaY]at he
  obtain⟨h1,h2⟩:=SL.lf_val ha.1 hb.1 he.1
  obtain⟨h3,h4⟩:=fv ha.2 hb.2 he.2
  refine⟨by simp[h1,h3],λhg c hc=>?_⟩
  rcases qap.1 hc with rfl|hc
  ·exact h2 (hg a (by simp))
  ·exact h4 (λc hc=>hg c (by simp[hc])) c hc
 | [],_ :: _,[],_,hb,_=>by cases hb
 | [],_,_ :: _,ha,_,_=>by cases ha
 |_ :: _,_,[],ha,_,_=>by cases ha
 |_ :: _,[],_ :: _,_,hb,_=>by cases hb
def S0.is_val{a b:S0}{sk:SK}(ha:a.is sk=true)(hb:b.is sk=true)(he:a.cells.map SL.lf=b.cells.map SL.lf):a.val=b.val/\(a.good->b.good):=by
 cases sk with
 |leaf k=>
  cases a with
  |agg _=>cases ha
  |leaf a=>
   cases b with
   |agg _=>cases hb
   |leaf b=>
    simp only[S0.cells,qat,qbc,qaY,and_true]at he
    obtain⟨h1,h2⟩:=SL.lf_val ha hb he
    refine⟨h1,λhg l hl=>?_⟩
    simp only[S0.cells,qay]at hl
    subst hl
    exact h2 (hg a (by simp[S0.cells]))
 |agg ks=>
  cases a with
  |leaf _=>cases ha
  |agg a=>
   cases b with
   |leaf _=>cases hb
   |agg b=>
    obtain⟨h1,h2⟩:=fv ha hb he
    exact⟨by simp only[S0.val,h1],h2⟩
def S0.is_len{a:S0}{sk:SK}(ha:a.is sk=true):∃n,a.cells.length=n/\∀b:S0,b.is sk=true->b.cells.length=n:=by
 refine⟨_,rfl,λb hb=>?_⟩
 cases sk with
 |leaf k=>
  cases a with
  |agg _=>cases ha
  |leaf a=>cases b with
   |agg _=>cases hb
   |leaf b=>rfl
 |agg ks=>
  cases a with
  |leaf _=>cases ha
  |agg a=>cases b with
   |leaf _=>cases hb
   |agg b=>exact(bn hb).trans (bn ha).symm
def cz:∀ {a b:List S0} {sks:TG},bO a sks=true->bO b sks=true->ca a=ca b->ai a=ai b/\((∀c∈a,c.good)->∀c∈b,c.good)
 | [],[],[],_,_,_=>⟨rfl,λ_ _ h=>by cases h⟩
 |a :: as0,b :: bs,k :: ks,ha,hb,he=>by
  simp only[bO,qaa]at ha hb
  obtain⟨n,hn1,hn2⟩:=S0.is_len ha.1
  have hn2:=hn2 b hb.1
  simp only[ca]at he
  obtain⟨he1,he2⟩:=qde he (by simp[hn1,hn2])
  obtain⟨h1,h2⟩:=S0.is_val ha.1 hb.1 he1
  obtain⟨h3,h4⟩:=cz ha.2 hb.2 he2
  refine⟨by simp only[ai,qat,h1]at h3 ⊢;rw[h3],λhg c hc=>?_⟩
  rcases qap.1 hc with rfl|hc
  ·exact h2 (hg a (by simp))
  ·exact h4 (λc hc=>hg c (by simp[hc])) c hc
 | [],_ :: _,[],_,hb,_=>by cases hb
 | [],_,_ :: _,ha,_,_=>by cases ha
 |_ :: _,_,[],ha,_,_=>by cases ha
 |_ :: _,[],_ :: _,_,hb,_=>by cases hb
section
variable [Val] [Kno] {R HT:Type} {A:Alg R HT} {X:Ctxt} {Sg:Tc} {holds:R->Prop} {abs:HT->Ts}
variable {ev:Env} {σ:St} {h:HT} {o:Oper} {K:KN R HT}
def oo{C:Cfg}{T:Tt}(hA:AlgOk A C Sg T holds abs):∀ {ks:TE} {ls:TB} {K:List SL->TB->R},holds (unL A ks ls K)->
  ∃cs r,ls=cs.map SL.lf++r/\aG cs ks=true/\holds (K cs r)
 | [],ls,K,hk=>⟨[],ls,rfl,rfl,hk⟩
 | .i k :: ks,ls,K,hk=>by
  obtain⟨n,r,rfl,hk1⟩:=hA.unI _ _ hk
  obtain⟨cs,r',rfl,h2,h3⟩:=oo hA (ks:=ks) hk1
  exact⟨.i k n :: cs,r',rfl,by simp[aG,SL.is,dd,h2],h3⟩
 | .b :: ks,ls,K,hk=>by
  obtain⟨n,r,rfl,hk1⟩:=hA.unB _ _ hk
  obtain⟨cs,r',rfl,h2,h3⟩:=oo hA (ks:=ks) hk1
  exact⟨.b n :: cs,r',rfl,by simp[aG,SL.is,h2],h3⟩
 | .v :: ks,ls,K,hk=>by
  obtain⟨n,r,rfl,hk1⟩:=hA.unV _ _ hk
  obtain⟨cs,r',rfl,h2,h3⟩:=oo hA (ks:=ks) hk1
  exact⟨.v n :: cs,r',rfl,by simp[aG,SL.is,h2],h3⟩
def unS_ok{C:Cfg}{T:Tt}(hA:AlgOk A C Sg T holds abs){sk:SK}{ls:TB}{K:S0->TB->R}(hk:holds (unS A sk ls K)) :
  ∃x r,ls=x.cells.map SL.lf++r/\x.is sk=true/\holds (K x r):=by
 cases sk with
 |leaf k=>
  cases k with
  |i k=>
   obtain⟨n,r,rfl,hk1⟩:=hA.unI _ _ hk
   exact⟨.leaf (.i k n),r,rfl,by simp[S0.is,SL.is,dd],hk1⟩
  |b=>
   obtain⟨n,r,rfl,hk1⟩:=hA.unB _ _ hk
   exact⟨.leaf (.b n),r,rfl,rfl,hk1⟩
  |v=>
   obtain⟨n,r,rfl,hk1⟩:=hA.unV _ _ hk
   exact⟨.leaf (.v n),r,rfl,rfl,hk1⟩
 |agg ks=>
  obtain⟨cs,r,h1,h2,h3⟩:=oo hA hk
  exact⟨.agg cs,r,h1,h2,h3⟩
def mG{C:Cfg}{T:Tt}(hA:AlgOk A C Sg T holds abs):∀ {sks:TG} {ls:TB} {K:List S0->TB->R},holds (unSs A sks ls K)->
  ∃xs r,ls=ca xs++r/\bO xs sks=true/\holds (K xs r)
 | [],ls,K,hk=>⟨[],ls,rfl,rfl,hk⟩
 |sk :: sks,ls,K,hk=>by
  have hk0:holds (unS A sk ls λx r=>unSs A sks r λxs r=>K (x :: xs) r):=hk
  obtain⟨x,r,rfl,h1,hk1⟩:=unS_ok hA hk0
  obtain⟨xs,r',rfl,h2,h3⟩:=mG hA (sks:=sks) hk1
  exact⟨x :: xs,r',by simp[ca],by simp[bO,h1,h2],h3⟩
def uR{C:Cfg}{T:Tt}(hA:AlgOk A C Sg T holds abs):∀ {ks:TE} {ls:Tl} {K:List SL->Tl->R},holds (ucL A ks ls K)->
  ∃cs r,ls=cs.map SL.val++r/\aG cs ks=true/\(∀c∈cs,c.good)/\holds (K cs r)
 | [],ls,K,hk=>⟨[],ls,rfl,rfl,by simp,hk⟩
 | .i k :: ks,ls,K,hk=>by
  obtain⟨n,r,rfl,hk1⟩:=hA.ucI _ _ _ hk
  obtain⟨cs,r',rfl,h2,h3,h4⟩:=uR hA (ks:=ks) hk1
  exact⟨.i k n :: cs,r',rfl,by simp[aG,SL.is,dd,h2],qbd.2 ⟨trivial,h3⟩,h4⟩
 | .b :: ks,ls,K,hk=>by
  obtain⟨n,r,rfl,hk1⟩:=hA.ucB _ _ hk
  obtain⟨cs,r',rfl,h2,h3,h4⟩:=uR hA (ks:=ks) hk1
  exact⟨.b n :: cs,r',rfl,by simp[aG,SL.is,h2],qbd.2 ⟨trivial,h3⟩,h4⟩
 | .v :: ks,ls,K,hk=>by
  obtain⟨n,r,rfl,hk1⟩:=hA.ucV _ _ hk
  obtain⟨hg,hk2⟩:=hA.chk _ _ hk1
  obtain⟨cs,r',rfl,h2,h3,h4⟩:=uR hA (ks:=ks) hk2
  exact⟨.v n :: cs,r',rfl,by simp[aG,SL.is,h2],qbd.2 ⟨hg,h3⟩,h4⟩
def mF{C:Cfg}{T:Tt}(hA:AlgOk A C Sg T holds abs){sk:SK}{ls:Tl}{K:S0->Tl->R}(hk:holds (ucS A sk ls K)) :
  ∃x r,ls=x.cells.map SL.val++r/\x.is sk=true/\x.good/\holds (K x r):=by
 cases sk with
 |leaf k=>
  cases k with
  |i k=>
   obtain⟨n,r,rfl,hk1⟩:=hA.ucI _ _ _ hk
   exact⟨.leaf (.i k n),r,rfl,by simp[S0.is,SL.is,dd],λl hl=>by simp only[S0.cells,qay]at hl;subst hl;trivial,hk1⟩
  |b=>
   obtain⟨n,r,rfl,hk1⟩:=hA.ucB _ _ hk
   exact⟨.leaf (.b n),r,rfl,rfl,λl hl=>by simp only[S0.cells,qay]at hl;subst hl;trivial,hk1⟩
  |v=>
   obtain⟨n,r,rfl,hk1⟩:=hA.ucV _ _ hk
   obtain⟨hg,hk2⟩:=hA.chk _ _ hk1
   exact⟨.leaf (.v n),r,rfl,rfl,λl hl=>by simp only[S0.cells,qay]at hl;subst hl;exact hg,hk2⟩
 |agg ks=>
  obtain⟨cs,r,h1,h2,h3,h4⟩:=uR hA hk
  exact⟨.agg cs,r,h1,h2,h3,h4⟩
def ucSs_ok{C:Cfg}{T:Tt}(hA:AlgOk A C Sg T holds abs):∀ {sks:TG} {ls:Tl} {K:List S0->Tl->R},holds (ucSs A sks ls K)->
  ∃xs r,ls=kC xs++r/\bO xs sks=true/\(∀x∈xs,x.good)/\holds (K xs r)
 | [],ls,K,hk=>⟨[],ls,rfl,rfl,by simp,hk⟩
 |sk :: sks,ls,K,hk=>by
  have hk0:holds (ucS A sk ls λx r=>ucSs A sks r λxs r=>K (x :: xs) r):=hk
  obtain⟨x,r,rfl,h1,hg,hk1⟩:=mF hA hk0
  obtain⟨xs,r',rfl,h2,h3,h4⟩:=ucSs_ok hA (sks:=sks) hk1
  refine⟨x :: xs,r',by simp[kC],by simp[bO,h1,h2],λc hc=>?_,h4⟩
  rcases qap.1 hc with rfl|hc
  ·exact hg
  ·exact h3 c hc
def mkV(agg:Bool)(cs:Tl)(v:Value):Prop:=(agg=true/\v = .agg ⟨cs⟩)∨(agg=false/\cs=[v])
def nG{x:S0}{sk:SK}(hx:x.is sk=true){v:Value}(hv:mkV (gZ sk) (x.cells.map SL.val) v):x.val=v:=by
 cases sk with
 |leaf k=>
  cases x with
  |agg _=>cases hx
  |leaf l=>
   rcases hv with⟨h,_⟩|⟨_,h⟩
   ·cases h
   ·simp only[S0.cells,qat,qbc,qaY,and_true]at h
    exact h
 |agg ks=>
  cases x with
  |leaf _=>cases hx
  |agg cs=>
   rcases hv with⟨_,h⟩|⟨h,_⟩
   ·exact h.symm
   ·cases h
def eqB_eq{a b:Bool}(h:eqB a b=true):a=b:=by cases a<;>cases b<;>first|rfl|cases h
def lS{agg:Bool}{cs:List SL}{x:S0}(hx:mkS0 agg cs=some x):x.cells=cs/\mkV agg (cs.map SL.val) x.val:=by
 unfold mkS0 at hx
 split at hx
 ·cases hx;exact⟨rfl,.inl ⟨rfl,rfl⟩⟩
 ·cases hx;exact⟨rfl,.inr ⟨rfl,rfl⟩⟩
 ·cases hx
def cu{P:TC}{t:TI}{agg:Bool}(hag:aggT P t=some agg){vs cs:Tl}{off:Nat}(hc:cut vs off (if agg then P.cellsOf t else 1)=some cs) :
  ∃v,cK P t vs off=some v/\mkV agg cs v:=by
 unfold aggT at hag
 unfold cK
 split at hag
 next fs e=>
  cases hag
  rw[e]
  simp only[if_true]at hc
  exact⟨.agg ⟨cs⟩,by simp[hc],.inl ⟨rfl,rfl⟩⟩
 next fs e=>
  cases hag
  rw[e]
  simp only[if_true]at hc
  exact⟨.agg ⟨cs⟩,by simp[hc],.inl ⟨rfl,rfl⟩⟩
 next d h1 h2 e=>
  cases hag
  rw[e]
  simp only[qaj,if_false]at hc
  unfold cut at hc
  split at hc
  next hle=>
   cases hc
   have hlt:off<vs.length:=by omega
   have hcs:(vs.drop off).take 1=[vs[off]]:=by
    rw[qbn hlt];rfl
   refine⟨vs[off],?_,.inr ⟨rfl,hcs⟩⟩
   simp[hlt]
  ·cases hc
 ·cases hag
def jB(hA:AlgOk A X.C Sg X.T holds abs){dst:Tn}{sk:SK}{cs:Tl}{v:Value}(hv:mkV (gZ sk) cs v)(hk:holds (setC A dst sk cs ev h K)) :
  ∃x:S0,x.val=v/\x.good/\holds (setD dst (.st x) ev h K):=by
 obtain⟨x,r,h1,h2,h3,hk1⟩:=mF hA hk
 obtain⟨hr,hk2⟩:=hA.uc0 _ _ hk1
 rw[hr,qa2]at h1
 subst h1
 exact⟨x,nG h2 hv,h3,hk2⟩
def ly{cs ds:List SL}{off n:Nat}(hc:cutS cs off n=some ds):cut (cs.map SL.val) off n=some (ds.map SL.val)/\(∀d∈ds,d∈cs):=by
 unfold cutS at hc
 unfold cut
 split at hc
 next hle=>
  cases hc
  rw[qdq (by simpa using hle)]
  exact⟨by simp[qch,qb5],λd hd=>qbt (qbo hd)⟩
 ·cases hc
def iJ(hR:Rp ev σ){s:Nat}{cs:List SL}(hr:pL ev s=some cs):σ.loc[s]?=some (some (cs.map SL.val))/\(∀c∈cs,c.good)/\ev.lc[s]?=some (.row cs):=by
 unfold pL at hr
 split at hr
 next ds e=>
  cases hr
  rw[List.getD_eq_getElem?_getD]at e
  cases he:ev.lc[s]? with
  |none=>rw[he]at e;cases e
  |some r=>
   rw[he]at e
   simp only[qbg]at e
   subst e
   have:=hR.row s _ he
   exact⟨this.1,this.2,rfl⟩
 ·cases hr
def um{cs:List SL}{base:Nat}{ix:List (Int×Nat)}{n:Nat}{ls:TB}(hp:mR (cs.map SL.lf) base ix n=some ls) :
  ∃ds,cutS cs (offX base ix) n=some ds/\ls=ds.map SL.lf:=by
 rw[pickL_eq]at hp
 split at hp
 next hle=>
  cases hp
  refine⟨_,by unfold cutS;rw[qdq (by simpa using hle)],by simp[qch,qb5]⟩
 ·cases hp
def offX_le:∀(ix:List (Int×Nat)) (base:Nat),base<=offX base ix
 | [],base=>qam _
 |p :: l,base=>qbO (Nat.le_add_right _ _) (offX_le l _)
def kq{cs ds:List SL}{ks:TE}:∀ {ix:List (Int×Nat)} {base:Nat},qh cs ks base ix=true->cutS cs (offX base ix) ks.length=some ds->aG ds ks=true
 | [],base,h1,h2=>by
  simp only[qh,offX]at h1 h2
  rw[h2]at h1
  exact h1
 |p :: l,base,h1,h2=>by
  simp only[qh,qaa,qab,qbB,offX]at h1 h2
  obtain⟨h0,h1⟩:=h1
  refine kq (ix:=l) (h1 p.1.toNat ?_) h2
  have hp:p.2≠0:=λe=>by rw[e]at h0;cases h0
  have hle:offX (base+p.1.toNat*p.2) l<=cs.length:=by
   unfold cutS at h2
   split at h2
   ·omega
   ·cases h2
  have:=offX_le l (base+p.1.toNat*p.2)
  have h3:p.1.toNat<=p.1.toNat*p.2:=Nat.le_mul_of_pos_right _ (Nat.pos_of_ne_zero hp)
  simp only[qah]
  omega
def is_skKs{x:S0}{sk:SK}(hx:x.is sk=true):aG x.cells (skKs sk)=true:=by
 cases sk with
 |leaf k=>
  cases x with
  |agg _=>cases hx
  |leaf l=>simp[S0.cells,skKs,aG];exact hx
 |agg ks=>
  cases x with
  |leaf _=>cases hx
  |agg cs=>exact hx
def setL_ok(hA:AlgOk A X.C Sg X.T holds abs){dst:Tn}{sk:SK}{ds:List SL}{v:Value}(hd:aG ds (skKs sk)=true)(hg:∀c∈ds,c.good)(hv:mkV (gZ sk) (ds.map SL.val) v)
  (hk:holds (setL A dst sk (ds.map SL.lf) ev h K)):∃x:S0,x.val=v/\x.good/\holds (setD dst (.st x) ev h K):=by
 obtain⟨x,r,e1,e2,hk1⟩:=unS_ok hA hk
 obtain⟨hr0,hk2⟩:=hA.un0 _ _ hk1
 rw[hr0,qa2]at e1
 obtain⟨h1,h2⟩:=fv hd (is_skKs e2) e1
 rw[h1]at hv
 exact⟨x,nG e2 hv,h2 hg,hk2⟩
def is_lk(c:SL):c.is c.lk=true:=by cases c<;>first|rfl|exact dd _
def ku:∀cs:List SL,aG cs (cs.map SL.lk)=true
 | []=>rfl
 |c :: cs=>by simp[aG,is_lk,ku cs]
def ft:∀ {a b:List SL} {ka kb:TE},aG a ka=true->aG b kb=true->aG (a++b) (ka++kb)=true
 | [],b,[],kb,_,h=>h
 |a :: as0,b,k :: ka,kb,h1,h2=>by
  simp only[aG,qaa,qax]at h1 ⊢
  exact⟨h1.1,ft h1.2 h2⟩
 | [],_,_ :: _,_,h,_=>by cases h
 |_ :: _,_,[],_,h,_=>by cases h
end
section
variable [Val] [Kno] {R HT:Type} {A:Alg R HT} {X:Ctxt} {Sg:Tc} {holds:R->Prop} {abs:HT->Ts}
variable {ev:Env} {σ:St} {h:HT} {o:Oper} {K:KN R HT}
def qn(H:Ts)(id:Nat):fA (λi=>H[i]?) id=ea H id:=rfl
def ldP_ok{n:Nat}{p:Value}{g:bR}{cs:Tl}(h:ldP n p g=some cs):∃id off vs,p = .pointer (some ⟨id,off,none⟩)/\fA g id=some vs/\cut vs off n=some cs:=by
 unfold ldP at h
 split at h
 next a=>
  split at h
  next hs=>
   obtain⟨vs,h1,h2⟩:=qai.1 h
   obtain⟨b,f,sp⟩:=a
   simp only at hs
   subst hs
   exact⟨b,f,vs,rfl,h1,h2⟩
  ·cases h
 ·cases h
def lgP_ok{C:Cfg}{n:Nat}{p:Value}{g:bR}{cs:Tl}(h:lgP C n p g=some cs):(∃id off vs,p = .pointer (some ⟨id,off,none⟩)/\fA g id=some vs/\cut vs off n=some cs)∨∃id off vs,p = .pointer (some ⟨id,off,some 1⟩)/\C.G id=some vs/\cut vs off n=some cs:=by
 unfold lgP at h
 split at h
 next a=>
  split at h
  next hs=>
   obtain⟨vs,h1,h2⟩:=qai.1 h
   obtain⟨b,f,sp⟩:=a
   simp only at hs
   subst hs
   exact .inl ⟨b,f,vs,rfl,h1,h2⟩
  next k hs=>
   split at h
   next hb=>
    obtain⟨vs,h1,h2⟩:=qai.1 h
    obtain⟨b,f,sp⟩:=a
    simp only at hs
    subst hs
    rw[qac hb]
    exact .inr ⟨b,f,vs,rfl,h1,h2⟩
   ·cases h
 ·cases h
def load_ok(hA:AlgOk A X.C Sg X.T holds abs)(hR:Rp ev σ)(ha:abs h=σ.heap){t:TI}{a:TD}{sk:SK}{agg:Bool}(ho:o.op = .load t a)(hag:aggT X.C.P t=some agg)
  (hsk:agg=gZ sk) (hk:holds (loadE A X o.dst sk agg (if agg then X.C.P.cellsOf t else 1) a ev h K)):Done X holds abs o σ K:=by
 have heff:ak X.C X.pts (oval σ.tmps) o=de X.C X.pts t a (oval σ.tmps a):=by simp only[ak,ho]
 unfold loadE at hk
 split at hk
 next p hkey he=>
  obtain⟨h1,_⟩:=hR.sval he (by simp)
  obtain⟨cs,h2,hk1⟩:=hA.peek _ _ _ hk
  simp only[Pk.run]at h2
  rw[ha]at h2
  rcases lgP_ok h2 with⟨id,off,vs,rfl,h3,h4⟩|⟨id,off,vs,rfl,h3,h4⟩
  ·rw[qn]at h3
   obtain⟨v,h5,h6⟩:=cu hag h4
   rw[hsk]at h6
   obtain⟨x,rfl,h7,hk2⟩:=jB hA h6 hk1
   refine fG hR ha (s:=.st x) h7 (f:=λH=>(ea H id).bind λvs=>cK X.C.P t vs off) ?_ ?_ hk2
   ·rw[heff,de,hkey,h1];rfl
   ·simp only[h3,qag,h5];rfl
  ·obtain⟨v,h5,h6⟩:=cu hag h4
   rw[hsk]at h6
   obtain⟨x,rfl,h7,hk2⟩:=jB hA h6 hk1
   refine fG hR ha (s:=.st x) h7 (f:=λ_=>(X.C.G id).bind λvs=>cK X.C.P t vs off) ?_ ?_ hk2
   ·rw[heff,de,hkey,h1];rfl
   ·simp only[h3,qag,h5];rfl
 next g off hkey he=>
  obtain⟨h1,_⟩:=hR.sval he (by simp)
  split at hk
  next vs hg=>
   split at hk
   next cs hc=>
    obtain⟨v,h5,h6⟩:=cu hag hc
    have hval:ak X.C X.pts (oval σ.tmps) o=some (.val v):=by
     rw[heff,de,hkey,h1]
     simp only[SV.val,eV,if_true,qag,hg,h5,qau]
    split at hk
    next x hsc hm=>
     obtain⟨hm1,hm2⟩:=lS hm
     have hcs:(cs.map slOf).map SL.val=cs:=by
      rw[qdg]
      have:(SL.val ∘ slOf)=id:=funext pS
      rw[this,List.map_id]
     rw[hcs]at hm2
     have hv:x.val=v:=by
      rcases hm2 with⟨a1,a2⟩|⟨a1,a2⟩<;>rcases h6 with⟨b1,b2⟩|⟨b1,b2⟩
      ·rw[a2,b2]
      ·rw[a1]at b1;cases b1
      ·rw[a1]at b1;cases b1
      ·rw[a2]at b2;simpa using b2
     subst hv
     refine au hR ha (s:=.st x) (λl hl=>?_) hval hk
     rw[hm1]at hl
     obtain⟨c,hc1,rfl⟩:=qaN.1 hl
     exact mr (qab.1 hsc c hc1)
    ·rw[hsk]at h6
     obtain⟨x,rfl,h7,hk⟩:=jB hA h6 hk
     exact au hR ha (s:=.st x) h7 hval hk
   ·exact absurd hk hA.fail
  ·exact absurd hk hA.fail
 next g base ix hkey he=>
  obtain⟨h1,_⟩:=hR.sval he (by simp)
  split at hk
  next vs hg=>
   obtain⟨cs,hc,hk⟩:=hA.opt _ _ hk
   obtain⟨v,h5,h6⟩:=cu hag (vs:=vs) (off:=offX base ix) ((pickV_eq _ _ _ _).symm.trans hc)
   have hval:ak X.C X.pts (oval σ.tmps) o=some (.val v):=by
    rw[heff,de,hkey,h1]
    simp only[SV.val,eV,if_true,qag,hg,h5,qau]
   rw[hsk]at h6
   obtain⟨x,rfl,h7,hk⟩:=jB hA h6 hk
   exact au hR ha (s:=.st x) h7 hval hk
  ·exact absurd hk hA.fail
 next p hkey he=>
  obtain⟨h1,_⟩:=hR.sval he (by simp)
  obtain⟨cs,hc,hk1⟩:=hA.opt _ _ hk
  unfold ldGv at hc
  split at hc
  next ad=>
   split at hc
   next hsp=>
    obtain⟨vs,hg,hc⟩:=qai.1 hc
    obtain⟨v,h5,h6⟩:=cu hag hc
    have hval:ak X.C X.pts (oval σ.tmps) o=some (.val v):=by
     rw[heff,de,hkey,h1]
     simp only[SV.val,S0.val,SL.val,eV,hsp,if_true,qag,hg,h5,qau]
    rw[hsk]at h6
    obtain⟨x,rfl,h7,hk2⟩:=jB hA h6 hk1
    exact au hR ha (s:=.st x) h7 hval hk2
   ·cases hc
  ·cases hc
 next s s' off hkey he=>
  obtain⟨h1,_⟩:=hR.sval he (by simp)
  split at hk
  next x hs hx=>
   have hs:s=s':=by simpa using hs
   subst hs
   obtain⟨cs,hr,hx⟩:=qai.1 hx
   obtain⟨ds,hd,hx⟩:=qai.1 hx
   obtain⟨r1,r2,_⟩:=iJ hR hr
   obtain⟨c1,c2⟩:=ly hd
   obtain⟨v,h5,h6⟩:=cu hag c1
   obtain⟨hm1,hm2⟩:=lS hx
   have hv:x.val=v:=by
    rcases hm2 with⟨a1,a2⟩|⟨a1,a2⟩<;>rcases h6 with⟨b1,b2⟩|⟨b1,b2⟩
    ·rw[a2,b2]
    ·rw[a1]at b1;cases b1
    ·rw[a1]at b1;cases b1
    ·rw[a2]at b2;simpa using b2
   subst hv
   refine cR hR σ.heap ha (s:=.st x) (λl hl=>?_) (.inl ⟨.lget s λvs=>cK X.C.P t vs off,?_,(σ,x.val),?_,rfl⟩) hk
   ·rw[hm1]at hl;exact r2 l (c2 l hl)
   ·rw[heff,de,hkey,h1]
    simp[SV.val,gH]
   ·simp[aA,r1,h5]
  ·exact absurd hk hA.fail
 next s s' base ix hkey he=>
  obtain⟨h1,_⟩:=hR.sval he (by simp)
  split at hk
  next cs hs hr=>
   have hs:s=s':=by simpa using hs
   subst hs
   split at hk
   next hat=>
    simp only[qaa]at hat
    obtain⟨hat,hn⟩:=hat
    have hn:=qac hn
    obtain⟨ls,hp,hk1⟩:=hA.opt _ _ hk
    obtain⟨ds,hd,rfl⟩:=um hp
    obtain⟨r1,r2,_⟩:=iJ hR hr
    obtain⟨c1,c2⟩:=ly hd
    obtain⟨v,h5,h6⟩:=cu hag c1
    rw[hsk]at h6
    rw[hn]at hd
    obtain⟨x,rfl,h7,hk2⟩:=setL_ok hA (kq hat hd) (λc hc=>r2 c (c2 c hc)) h6 hk1
    refine cR hR σ.heap ha (s:=.st x) h7 (.inl ⟨.lget s λvs=>cK X.C.P t vs (offX base ix),?_,(σ,x.val),?_,rfl⟩) hk2
    ·rw[heff,de,hkey,h1]
     simp[SV.val,gH]
    ·simp[aA,r1,h5]
   ·exact absurd hk hA.fail
  ·exact absurd hk hA.fail
 ·exact absurd hk hA.fail
def oe{cs r new:List SL}{off:Nat}(hs:fW cs off new=some r):splice (cs.map SL.val) off (new.map SL.val)=some (r.map SL.val)/\r.length=cs.length/\((∀c∈cs,c.good)->(∀c∈new,c.good)->∀c∈r,c.good):=by
 unfold fW at hs
 unfold splice
 split at hs
 next hle=>
  cases hs
  rw[qdq (by simpa using hle)]
  refine⟨by simp[qb5,qch],by simp;omega,λh1 h2 c hc=>?_⟩
  simp only[qaH]at hc
  rcases hc with(hc|hc)|hc
  ·exact h1 c (qbo hc)
  ·exact h2 c hc
  ·exact h1 c (qbt hc)
 ·cases hs
def ti{P:TC}{t:TI}{x:S0}(hx:x.good)(hlen:x.cells.length=P.cellsOf t)(hi:(P.info? t).isSome=true)(vs:Tl)(off:Nat) :
  dN P t x.val vs off=splice vs off (x.cells.map SL.val):=by
 unfold dN
 have h1:=S0.cells_val hx
 rw[qdq ⟨by rw[h1];simpa using hlen,hi⟩,qdq (S0.cells_ok hx),h1]
def oL(hR:Rp ev σ)(ha:abs h=σ.heap){s:Nat}{cs:List SL}{f:Tl->Option (Tl)}{vs:Tl}(he:ak X.C X.pts (oval σ.tmps) o=some (.lset s f))(hloc:σ.loc[s]?=some (some vs))
  (hf:f vs=some (cs.map SL.val)) (hlen:(cs.map SL.val).length=vs.length) (hg:∀c∈cs,c.good) (hrow:gV X.pts o=some s)
  (hk:holds (setD o.dst .un ⟨ev.tm,ev.lc.set s (.row cs)⟩ h K)):Done X holds abs o σ K:=by
 let σ₁:St:={ σ with loc:=σ.loc.set s (some (cs.map SL.val)) }
 have hlt:s<σ.loc.length:=(qaV.1 hloc).1
 have hR1:Rp ⟨ev.tm,ev.lc.set s (.row cs)⟩ σ₁:=by
  refine⟨hR.len,hR.val,by simp[σ₁,hR.llen],λi r hr=>?_⟩
  simp only[qaD]at hr
  split at hr
  next hi=>
   subst hi
   split at hr
   ·cases hr
    exact⟨by simp only[σ₁];rw[qaE hlt],hg⟩
   ·cases hr
  next hi=>
   have:=hR.row i r hr
   have hne:σ₁.loc[i]?=σ.loc[i]?:=by simp only[σ₁];rw[qav hi]
   cases r<;>first|trivial|(simp only[LR.ok]at this ⊢;rw[hne];exact this)
 obtain⟨ev',h1,h2⟩:=sS (dst:=o.dst) hR1 (s:=.un) trivial hk
 refine⟨σ₁.put o.dst undef,ev',h,.inl ⟨_,he,(σ₁,undef),by simp[aA,hloc,hf,σ₁],rfl⟩,h1,?_,?_,h2⟩
 ·rw[ha];cases o.dst<;>rfl
 ·have hf:=Fr.put (σ:=σ₁) o.dst undef (rp X.pts o).toList (gV X.pts o).toList
  have h0:Fr o.dst.toList (rp X.pts o).toList (gV X.pts o).toList σ σ₁:=by
   refine⟨rfl,by simp[σ₁],λ_ _ h _ _=>h,λ_ _ _ h _ _=>h,λi y hs hn=>?_,λi ws hs hn=>?_⟩
   ·rw[hrow]at hn
    simp only[Option.toList_some,qay]at hn
    simp only[σ₁]
    rw[qav (λe=>hn e.symm)];exact hs
   ·by_cases hi:i=s
    ·subst hi
     rw[hloc]at hs
     cases hs
     exact⟨_,by simp only[σ₁];rw[qaE hlt],hlen⟩
    ·exact⟨ws,by simp only[σ₁];rw[qav (λe=>hi e.symm)];exact hs,rfl⟩
  exact h0.trans hf
def stP_ok{p:Value}{new:Tl}{g:bR}{n:Nat}{acts:List Act1}{cs:Tl}(h:stP p new g n=some (acts,cs)) :
  ∃id off vs vs' e,p = .pointer (some ⟨id,off,none⟩)/\g id=some (.cells vs e true)/\splice vs off new=some vs'/\acts=[.set id (.cells vs' e true)]:=by
 unfold stP at h
 split at h
 next a=>
  split at h
  next hs=>
   split at h
   next vs e hg=>
    obtain⟨vs',h1,h2⟩:=qad.1 h
    obtain⟨b,f,sp⟩:=a
    simp only at hs
    subst hs
    cases h2
    exact⟨b,f,vs,vs',e,rfl,hg,h1,rfl⟩
   ·cases h
  ·cases h
 ·cases h
def store_ok(hA:AlgOk A X.C Sg X.T holds abs)(hR:Rp ev σ)(ha:abs h=σ.heap){t:TI}{a y:TD}{x:S0}(ho:o.op = .store t a y)(hy:sval ev y = .st x)
  (hk:holds (storeE A X o.dst t a x ev h K)):Done X holds abs o σ K:=by
 obtain⟨hy1,hx⟩:=hR.sval hy (by simp)
 have hx:x.good:=hx
 have heff:ak X.C X.pts (oval σ.tmps) o=dL X.C X.pts t a (oval σ.tmps a) x.val:=by simp only[ak,ho,hy1];rfl
 have hnt:=S0.not_tuple hx
 unfold storeE at hk
 split at hk
 ·exact absurd hk hA.fail
 next hc=>
  simp only[qaa]at hc
  obtain⟨hlen,hi⟩:=hc
  have hlen:=qac hlen
  have hw:=ti (P:=X.C.P) (t:=t) hx hlen hi
  split at hk
  next p hkey he=>
   obtain⟨h1,_⟩:=hR.sval he (by simp)
   obtain⟨acts,cs,h',h2,h3,hk1⟩:=hA.heap _ _ _ hk
   simp only[Hp.run]at h2
   rw[ha]at h2 h3
   obtain⟨id,off,vs,vs',e,rfl,g1,g2,rfl⟩:=stP_ok h2
   refine cD (s:=.un) hR (H':=σ.heap.set id (.cells vs' e true)) h3 trivial (f:=gS X.C t id off x.val) ?_ ?_ hk1
   ·rw[heff,dL,hnt,hkey,h1];rfl
   ·simp only[gS,g1,hw,g2,qau];rfl
  next s s' off hkey he=>
   obtain⟨h1,_⟩:=hR.sval he (by simp)
   have hrow:gV X.pts o=some s:=by simp only[gV,ho,hkey]
   split at hk
   next cs hs hst=>
    have hs:s=s':=by simpa using hs
    subst hs
    rw[setK_eq]at hk
    have heff2:ak X.C X.pts (oval σ.tmps) o=some (.lset s λvs=>dN X.C.P t x.val vs off):=by
     rw[heff,dL,hnt,hkey,h1]
     simp[SV.val,gH]
    have hrow0:ev.lc[s]?=some (ev.lc.getD s .unk)∨ev.lc.getD s .unk = .unk:=by
     rw[List.getD_eq_getElem?_getD]
     cases ev.lc[s]?<;>simp
    unfold storeR at hst
    split at hst
    next cs0 hl=>
     obtain⟨q1,q2,q3⟩:=oe hst
     have hlc:ev.lc[s]?=some (.row cs0):=by rcases hrow0 with h|h<;>rw[hl]at h<;>first|exact h|cases h
     have hr:=hR.row s _ hlc
     exact oL hR ha heff2 hr.1 (by rw[hw];exact q1) (by simp[q2]) (q3 hr.2 hx) hrow hk
    next n hl=>
     split at hst
     next hz=>
      cases hst
      simp only[qaa]at hz
      have hz1:=qac hz.1
      have hz2:=qac hz.2
      have hlc:ev.lc[s]?=some (.any n):=by rcases hrow0 with h|h<;>rw[hl]at h<;>first|exact h|cases h
      obtain⟨vs,hv1,hv2⟩:=hR.row s _ hlc
      refine oL hR ha heff2 hv1 ?_ (by rw[hv2,hz2];simp) hx hrow hk
      rw[hw,hz1,splice,qdq (by simp;omega)]
      simp[show vs.length<=x.cells.length by omega]
     ·cases hst
    ·cases hst
   ·exact absurd hk hA.fail
  next s s' base ix hkey he=>
   obtain⟨h1,_⟩:=hR.sval he (by simp)
   have hrow:gV X.pts o=some s:=by simp only[gV,ho,hkey]
   split at hk
   next cs hs hr=>
    have hs:s=s':=by simpa using hs
    subst hs
    split at hk
    ·exact absurd hk hA.fail
    next hat=>
     obtain⟨ls,hp,hk1⟩:=hA.opt _ _ hk
     obtain⟨cs',r,e1,e2,hk2⟩:=oo hA hk1
     obtain⟨hr0,hk3⟩:=hA.un0 _ _ hk2
     rw[hr0,qa2]at e1
     rw[setK_eq]at hk3
     obtain⟨r1,r2,_⟩:=iJ hR hr
     have heff2:ak X.C X.pts (oval σ.tmps) o=some (.lset s λvs=>dN X.C.P t x.val vs (offX base ix)):=by
      rw[heff,dL,hnt,hkey,h1]
      simp[SV.val,gH]
     rw[putL_eq]at hp
     split at hp
     next hle=>
      simp only[qbG]at hle
      let off:=offX base ix
      have hmid:cutS cs off x.cells.length=some ((cs.drop off).take x.cells.length):=by unfold cutS;rw[qdq hle]
      have hk0:aG ((cs.drop off).take x.cells.length) (x.cells.map SL.lk)=true:=kq hat (by rw[qbG];exact hmid)
      let new:=cs.take off++x.cells++cs.drop (off+x.cells.length)
      have hsp:fW cs off x.cells=some new:=by unfold fW;rw[qdq hle]
      obtain⟨q1,q2,q3⟩:=oe hsp
      have hkinds:aG new (cs.map SL.lk)=true:=by
       have hsplit:cs=cs.take off++(cs.drop off).take x.cells.length++cs.drop (off+x.cells.length):=by
        rw[qaB,←qbD,qbX,qbX]
       have hlk:∀ {a b:List SL},aG a (b.map SL.lk)=true->a.map SL.lk=b.map SL.lk:=by
        intro a b hab
        induction a generalizing b with
        |nil=>cases b with
         |nil=>rfl
         |cons _ _=>cases hab
        |cons a as0 ih=>cases b with
         |nil=>cases hab
         |cons b bs=>
          simp only[qat,aG,qaa]at hab
          simp only[qat,ih hab.2]
          have:a.lk=b.lk:=by
           have h0:=hab.1
           cases a<;>cases b<;>first|rfl|(simp[SL.is,SL.lk]at h0;done)|(simp only[SL.is,SL.lk]at h0 ⊢;rw[cT h0])
          rw[this]
       have hm:cs.map SL.lk=(cs.take off).map SL.lk++x.cells.map SL.lk++(cs.drop (off+x.cells.length)).map SL.lk:=by
        conv=>lhs;rw[hsplit]
        simp only[qb2]
        rw[hlk hk0]
       rw[hm]
       exact ft (ft (ku _) (ku _)) (ku _)
      have hlf:new.map SL.lf=cs'.map SL.lf:=by
       rw[←e1]
       cases hp
       simp[new,off,qb5,qch]
      obtain⟨v1,v2⟩:=fv hkinds e2 hlf
      refine oL hR ha heff2 r1 (by rw[hw,←v1];exact q1) (by rw[←v1];simp[q2]) (v2 (q3 r2 hx)) hrow hk3
     ·cases hp
   ·exact absurd hk hA.fail
  ·exact absurd hk hA.fail
end
section
variable {P:TC}
def aw{α β:Type}(s:Sem α)(f:α->Sem β):pev P (s >>= f)=(pev P s).bind λa=>pev P (f a):=by
 show pev P (s.bind f)=_
 induction s with
 |pure a=>rfl
 |program k ih=>exact ih P
 |_=>rfl
def eF{α:Type}(a:α):pev P (pure a:Sem α)=some a:=rfl
def jx:pev P program=some P:=rfl
def aQ{t:TI}{d:TypeDesc}(h:P.underlying t=some d):pev P (underlying t)=some d:=by
 unfold underlying
 rw[aw,jx]
 simp only[qag,h]
 rfl
def nU{d:Nat}{t:TI}{k k':TF}{a b:Int}(h:P.underlying t=some (.int k')):pev P (Op.equalIn (d+1) t (.int k a) (.int k b))=some (a==b):=by
 simp only[Op.equalIn,aw,aQ h,qag,if_true,eF]
def me{d:Nat}{t:TI}{a b:Bool}(h:P.underlying t=some .bool):pev P (Op.equalIn (d+1) t (.bool a) (.bool b))=some (a==b):=by
 simp only[Op.equalIn,aw,aQ h,qag,eF]
def uz{t:TI}{ag:Bool}(h:aggT P t=some ag):pev P (isAgg t)=some ag:=by
 unfold isAgg
 unfold aggT at h
 split at h
 next fs e=>cases h;rw[aw,aQ e];rfl
 next fs e=>cases h;rw[aw,aQ e];rfl
 next d h1 h2 e=>
  cases h
  rw[aw,aQ e]
  simp only[qag]
  rfl
 ·cases h
def iH{t:TI}{d:TypeDesc}(h:P.underlying t=some d):pev P (sizeOf t)=some (P.cellsOf t):=by
 unfold sizeOf typeInfo
 have hi:∃i,P.info? t=some i:=by
  unfold Program.underlying at h
  cases hi:P.info? t with
  |none=>simp[hi]at h
  |some i=>exact⟨i,rfl⟩
 obtain⟨i,hi⟩:=hi
 simp only[aw,jx,qag,hi]
 simp[pev,Program.cellsOf,hi]
 rfl
def jv{t:TI}{ag:Bool}(h:aggT P t=some ag){cs:Tl}{off:Nat}{ds:Tl}(hc:cut cs off (if ag then P.cellsOf t else 1)=some ds) :
  ∃v,pev P (part t ⟨cs⟩ off)=some v/\mkV ag ds v:=by
 have hu:∃d,P.underlying t=some d:=by
  unfold aggT at h
  cases hh:P.underlying t with
  |none=>rw[hh]at h;cases h
  |some d=>exact⟨d,rfl⟩
 obtain⟨d,hu⟩:=hu
 unfold part
 rw[aw,uz h]
 simp only[qag]
 unfold cut at hc
 cases ag with
 |true=>
  simp only[if_true]at hc ⊢
  split at hc
  next hle=>
   cases hc
   refine⟨.agg ⟨(cs.drop off).take (P.cellsOf t)⟩,?_,.inl ⟨rfl,rfl⟩⟩
   rw[aw,iH hu]
   simp only[qag,eF,qar,Value.agg.injEq]
   apply qaZ.1
   rw[qbY]
   simp[List.extract]
  ·cases hc
 |false=>
  simp only[qaj,if_false]at hc ⊢
  split at hc
  next hle=>
   cases hc
   have hlt:off<cs.length:=by omega
   refine⟨cs[off],?_,.inr ⟨rfl,by rw[qbn hlt];rfl⟩⟩
   have:(⟨cs⟩ : Array Value)[off]?=some cs[off]:=by simp[hlt]
   rw[this]
   rfl
  ·cases hc
def eqSL(a b:List SL):Bool:=bP ((a.map SL.lf).zip (b.map SL.lf))
def qz(a b:List (Lf×Lf)):bP (a++b)=(bP a&&bP b):=by simp[bP]
def lD{a b c d:List SL}(h:a.length=b.length):eqSL (a++c) (b++d)=(eqSL a b&&eqSL c d):=by
 unfold eqSL
 rw[qb2,qb2,List.zip_append (by simpa using h),qz]
def flatV(ag:Bool)(cs:List SL)(v:Value):Prop:=mkV ag (cs.map SL.val) v
def EqD(P:TC)(d:Nat)(t:TI)(ks:TE):Prop:=
 ∃ag,aggT P t=some ag/\(if ag then P.cellsOf t else 1)=ks.length/\∀(a b:List SL) (x y:Value),aG a ks=true->aG b ks=true->flatV ag a x->flatV ag b y->pev P (Op.equalIn d t x y)=some (eqSL a b)
def eP{cs:List SL}{ka kb:TE}(h:aG cs (ka++kb)=true):∃a b,cs=a++b/\aG a ka=true/\aG b kb=true:=by
 induction ka generalizing cs with
 |nil=>exact⟨[],cs,rfl,rfl,h⟩
 |cons k ka ih=>
  cases cs with
  |nil=>cases h
  |cons c cs=>
   simp only[qax,aG,qaa]at h
   obtain⟨a,b,rfl,h1,h2⟩:=ih h.2
   exact⟨c :: a,b,rfl,by simp[aG,h.1,h1],h2⟩
def oK{pre mid post:List SL}{n off:Nat}(ho:off=pre.length)(hn:n=mid.length):cut ((pre++mid++post).map SL.val) off n=some (mid.map SL.val):=by
 subst ho;subst hn
 unfold cut
 rw[qdq (by simp)]
 congr 1
 rw[qb2,qb2,qaB,qcE,List.take_append]
 simp
def pv_ite{α:Type}{c:Prop} [Decidable c](a b:Sem α):pev P (if c then a else b)=if c then pev P a else pev P b:=by split<;>rfl
def mj{d:Nat}{F:TI->Option (TE)}(hF:∀t ks,F t=some ks->EqD P d t ks):∀(fs:List Field) (off:Nat) (ks:TE),jN F fs off=some ks->
  ∀(pa a pb b:List SL),pa.length=off->pb.length=off->aG a ks=true->aG b ks=true->
   pev P (Op.eqFields d ⟨(pa++a).map SL.val⟩ ⟨(pb++b).map SL.val⟩ fs)=some (eqSL a b)
 | [],off,ks,h,pa,a,pb,b,_,_,ha,hb=>by
  cases h
  cases a with
  |cons _ _=>cases ha
  |nil=>cases b with
   |cons _ _=>cases hb
   |nil=>rfl
 |f :: fs,off,ks,h,pa,a,pb,b,la,lb,ha,hb=>by
  simp only[jN]at h
  split at h
  next k1 hn ho hk=>
   have hn:¬f.name = "_":=of_decide_eq_false hn
   have ho:=qac ho
   obtain⟨k2,hr,rfl⟩:=qad.1 h
   obtain⟨ag,h1,h2,h3⟩:=hF _ _ hk
   obtain⟨a1,a2,rfl,ha1,ha2⟩:=eP ha
   obtain⟨b1,b2,rfl,hb1,hb2⟩:=eP hb
   have la1:=bn ha1
   have lb1:=bn hb1
   obtain⟨x,hx1,hx2⟩:=jv h1 (cs:=(pa++(a1++a2)).map SL.val) (off:=f.offset) (ds:=a1.map SL.val) (by rw[←qaB];exact oK (by omega) (by omega))
   obtain⟨y,hy1,hy2⟩:=jv h1 (cs:=(pb++(b1++b2)).map SL.val) (off:=f.offset) (ds:=b1.map SL.val) (by rw[←qaB];exact oK (by omega) (by omega))
   have he:=h3 a1 b1 x y ha1 hb1 hx2 hy2
   have ih:=mj hF fs (off+k1.length) k2 hr (pa++a1) a2 (pb++b1) b2 (by simp;omega) (by simp;omega) ha2 hb2
   rw[qaB,qaB]at ih
   simp only[Op.eqFields,ne_eq,hn,not_false_eq_true,if_true]
   rw[aw,hx1]
   simp only[qag]
   rw[aw,hy1]
   simp only[qag]
   rw[aw,he]
   simp only[qag]
   rw[lD (by omega)]
   cases eqSL a1 b1 with
   |true=>simpa using ih
   |false=>rfl
  ·cases h
def eN(d:Nat)(t:TI)(fs:Array Field)(xs ys:Tj)(ht:P.underlying t=some (.struct fs))(hp:P.stoodInHeld t=false) :
  pev P (Op.equalIn (d+1) t (.agg xs) (.agg ys))=pev P (Op.eqFields d xs ys fs.toList):=by
 simp only[Op.equalIn,aw,aQ ht,qag,jx,hp,qaj,if_false]
 rw[←Array.forIn_toList]
 generalize fs.toList=fs
 clear ht
 induction fs with
 |nil=>simp only[List.forIn_nil,Op.eqFields];rfl
 |cons f fs ih=>
  simp only[qdf,Op.eqFields,aw,pv_ite]
  split
  ·cases h1:pev P (part f.type xs f.offset)with
   |none=>simp
   |some a=>
    cases h2:pev P (part f.type ys f.offset)with
    |none=>simp[h1,h2]
    |some b=>
     cases h3:pev P (Op.equalIn d f.type a b)with
     |none=>simp[h1,h2,h3]
     |some r=>
      cases r
      ·simp[h1,h2,h3,eF]
      ·simpa[h1,h2,h3,eF]using ih
  ·simpa[eF]using ih
def dE(d n:Nat)(e:TI)(xs ys:Tj):Tz->Sem Bool
 | []=>pure true
 |i :: is=>do
  let a ←part e xs (i*n)
  let b ←part e ys (i*n)
  let r ←Op.equalIn d e a b
  if (!r)=true then pure false else dE d n e xs ys is
def fo(d:Nat)(t e:TI)(n:Nat)(xs ys:Tj)(ht:P.underlying t=some (.array n e))(he:∃k,P.underlying e=some k) :
  pev P (Op.equalIn (d+1) t (.agg xs) (.agg ys))=pev P (dE d (P.cellsOf e) e xs ys (List.range n)):=by
 obtain⟨k,he⟩:=he
 simp only[Op.equalIn,aw,aQ ht,qag,iH he]
 rw[Std.Legacy.Range.forIn_eq_forIn_range']
 simp only[Std.Legacy.Range.size,Nat.sub_zero,qct,Nat.div_one]
 rw[qbu]
 generalize List.range' 0 n=is
 clear ht
 induction is with
 |nil=>simp only[List.forIn_nil,dE];rfl
 |cons i is ih=>
  simp only[qdf,dE,aw,pv_ite]
  cases h1:pev P (part e xs (i*P.cellsOf e))with
  |none=>simp
  |some a=>
   cases h2:pev P (part e ys (i*P.cellsOf e))with
   |none=>simp
   |some b=>
    cases h3:pev P (Op.equalIn d e a b)with
    |none=>simp[h3]
    |some r=>
     cases r
     ·simp[h3,eF]
     ·simpa[h3,eF]using ih
def nX{d:Nat}{e:TI}{ke:TE}(hE:EqD P d e ke)(hlen:ke.length=P.cellsOf e):∀(n i:Nat) (pa a pb b:List SL),pa.length=i*P.cellsOf e->pb.length=i*P.cellsOf e->
  aG a (List.replicate n ke).flatten=true->aG b (List.replicate n ke).flatten=true->
   pev P (dE d (P.cellsOf e) e ⟨(pa++a).map SL.val⟩ ⟨(pb++b).map SL.val⟩ (List.range' i n))=some (eqSL a b)
 |0,i,pa,a,pb,b,_,_,ha,hb=>by
  cases a with
  |cons _ _=>cases ha
  |nil=>cases b with
   |cons _ _=>cases hb
   |nil=>rfl
 |n+1,i,pa,a,pb,b,la,lb,ha,hb=>by
  rw[qb6,qb0]at ha hb
  obtain⟨ag,h1,h2,h3⟩:=hE
  obtain⟨a1,a2,rfl,ha1,ha2⟩:=eP ha
  obtain⟨b1,b2,rfl,hb1,hb2⟩:=eP hb
  have la1:=bn ha1
  have lb1:=bn hb1
  obtain⟨x,hx1,hx2⟩:=jv h1 (cs:=(pa++(a1++a2)).map SL.val) (off:=i*P.cellsOf e) (ds:=a1.map SL.val) (by rw[←qaB];exact oK la.symm (by omega))
  obtain⟨y,hy1,hy2⟩:=jv h1 (cs:=(pb++(b1++b2)).map SL.val) (off:=i*P.cellsOf e) (ds:=b1.map SL.val) (by rw[←qaB];exact oK lb.symm (by omega))
  have he:=h3 a1 b1 x y ha1 hb1 hx2 hy2
  have ih:=nX ⟨ag,h1,h2,h3⟩ hlen n (i+1) (pa++a1) a2 (pb++b1) b2 (by simp[qbk];omega) (by simp[qbk];omega) ha2 hb2
  rw[qaB,qaB]at ih
  simp only[qcl,dE]
  rw[aw,hx1]
  simp only[qag]
  rw[aw,hy1]
  simp only[qag]
  rw[aw,he]
  simp only[qag]
  rw[lD (by omega)]
  cases eqSL a1 b1 with
  |true=>simpa using ih
  |false=>rfl
def eq_leaf{k:LK}(hk:k≠.v){a b:List SL}(ha:aG a [k]=true)(hb:aG b [k]=true):∃x y,a=[x]/\b=[y]/\x.is k=true/\y.is k=true:=by
 cases a with
 |nil=>cases ha
 |cons x as0=>cases as0 with
  |cons _ _=>simp[aG]at ha
  |nil=>cases b with
   |nil=>cases hb
   |cons y bs=>cases bs with
    |cons _ _=>simp[aG]at hb
    |nil=>simp only[aG,qdm]at ha hb;exact⟨x,y,rfl,rfl,ha,hb⟩
def kI:∀(d:Nat) (t:TI) (ks:TE),gQ P d t=some ks->EqD P d t ks
 |0,t,ks,h=>by cases h
 |d+1,t,ks,h=>by
  simp only[gQ]at h
  split at h
  next k e=>
   cases h
   refine⟨false,by simp[aggT,e],by simp,λa b x y ha hb hx hy=>?_⟩
   obtain⟨u,v,rfl,rfl,hu,hv⟩:=eq_leaf (by simp) ha hb
   rcases hx with⟨h0,_⟩|⟨_,hx⟩
   ·cases h0
   rcases hy with⟨h0,_⟩|⟨_,hy⟩
   ·cases h0
   simp only[qat,qbc,qaY,and_true]at hx hy
   subst hx;subst hy
   cases u<;>simp only[SL.is,qaj]at hu
   cases v<;>simp only[SL.is,qaj]at hv
   have e1:=cT hu
   have e2:=cT hv
   subst e1;subst e2
   simp only[SL.val]
   rw[nU e]
   simp[eqSL,bP,SL.lf,fK]
  next e=>
   cases h
   refine⟨false,by simp[aggT,e],by simp,λa b x y ha hb hx hy=>?_⟩
   obtain⟨u,v,rfl,rfl,hu,hv⟩:=eq_leaf (by simp) ha hb
   rcases hx with⟨h0,_⟩|⟨_,hx⟩
   ·cases h0
   rcases hy with⟨h0,_⟩|⟨_,hy⟩
   ·cases h0
   simp only[qat,qbc,qaY,and_true]at hx hy
   subst hx;subst hy
   cases u<;>simp only[SL.is,qaj]at hu<;>cases v<;>simp only[SL.is,qaj]at hv<;>
   ·simp only[SL.val]
    rw[me e]
    simp[eqSL,bP,SL.lf,fK]
  next fs e=>
   split at h
   next k1 hs hf=>
    split at h
    next hl=>
     cases h
     have hl:=qac hl
     refine⟨true,by simp[aggT,e],by simp[hl],λa b x y ha hb hx hy=>?_⟩
     rcases hx with⟨_,rfl⟩|⟨h0,_⟩
     ·rcases hy with⟨_,rfl⟩|⟨h0,_⟩
      ·rw[eN d t fs _ _ e hs]
       exact mj (kI d) fs.toList 0 _ hf [] a [] b rfl rfl ha hb
      ·cases h0
     ·cases h0
    ·cases h
   ·cases h
  next n el e=>
   split at h
   next ke hk=>
    split at h
    next hl=>
     simp only[qaa]at hl
     have hl1:=qac hl.1
     have hl2:=qac hl.2
     cases h
     refine⟨true,by simp[aggT,e],by simp only[if_true];exact hl2.symm,λa b x y ha hb hx hy=>?_⟩
     rcases hx with⟨_,rfl⟩|⟨h0,_⟩
     ·rcases hy with⟨_,rfl⟩|⟨h0,_⟩
      ·have hE:=kI d el ke hk
       have hu:∃k,P.underlying el=some k:=by
        obtain⟨ag,h1,_⟩:=hE
        unfold aggT at h1
        cases hh:P.underlying el with
        |none=>rw[hh]at h1;cases h1
        |some k=>exact⟨k,rfl⟩
       rw[fo d t el n _ _ e hu,qbu]
       exact nX hE hl1 n 0 [] a [] b (by simp) (by simp) ha hb
      ·cases h0
     ·cases h0
    ·cases h
   ·cases h
  ·cases h
end
section
variable {P:TC}
def eqB_iff{a b:Bool}:eqB a b=(a==b):=by cases a<;>cases b<;>rfl
def sb{a b:Int}:eqZ a b=(a==b):=by
 rw[qby,beq_iff_eq]
 cases a<;>cases b<;>simp only[eqZ]
 ·rw[Nat.beq_eq];exact⟨λh=>by rw[h],λh=>qcO h⟩
 ·exact⟨λh=>(by cases h),λh=>(by cases h)⟩
 ·exact⟨λh=>(by cases h),λh=>(by cases h)⟩
 ·rw[Nat.beq_eq];exact⟨λh=>by rw[h],λh=>Int.negSucc.inj h⟩
def kF:∀ {ks:TE} {xs ys:Tl} {r:Bool},ip ks xs ys=some r->∃a b:List SL,a.map SL.val=xs/\b.map SL.val=ys/\aG a ks=true/\aG b ks=true/\eqSL a b=r
 | [],[],[],r,h=>by cases h;exact⟨[],[],rfl,rfl,rfl,rfl,rfl⟩
 | .i k :: ks,.int a x :: xs,.int b y :: ys,r,h=>by
  simp only[ip]at h
  split at h
  next r' e1 e2 e3=>
   obtain⟨as0',bs,h1,h2,h3,h4,h5⟩:=kF e3
   refine⟨.i a x :: as0',.i b y :: bs,by simp[SL.val,h1],by simp[SL.val,h2],by simp[aG,SL.is,e1,h3],by simp[aG,SL.is,e2,h4],?_⟩
   have he:eqSL (.i a x :: as0') (.i b y :: bs)=((x==y)&&eqSL as0' bs):=by simp[eqSL,bP,fK,SL.lf]
   rw[he,h5,←sb]
   split at h
   next e=>cases h;rw[e];rfl
   next e=>cases h;rw[e];rfl
  ·cases h
 | .b :: ks,.bool x :: xs,.bool y :: ys,r,h=>by
  simp only[ip]at h
  split at h
  next r' e3=>
   obtain⟨as0',bs,h1,h2,h3,h4,h5⟩:=kF e3
   refine⟨.b x :: as0',.b y :: bs,by simp[SL.val,h1],by simp[SL.val,h2],by simp[aG,SL.is,h3],by simp[aG,SL.is,h4],?_⟩
   have he:eqSL (.b x :: as0') (.b y :: bs)=((x==y)&&eqSL as0' bs):=by simp[eqSL,bP,fK,SL.lf]
   rw[he,h5,←eqB_iff]
   split at h
   next e=>cases h;rw[e];rfl
   next e=>cases h;rw[e];rfl
  ·cases h
def fL:∀ {ks:TE} {xs ys:Tl} {r:Bool},ip ks xs ys=some r->xs.all scalar=true
 | [],[],[],r,h=>rfl
 | .i k :: ks,.int a x :: xs,.int b y :: ys,r,h=>by
  simp only[ip]at h
  split at h
  next r' e1 e2 e3=>
   simp only[qbF,qaa]
   exact⟨rfl,fL e3⟩
  ·cases h
 | .b :: ks,.bool x :: xs,.bool y :: ys,r,h=>by
  simp only[ip]at h
  split at h
  next r' e3=>
   simp only[qbF,qaa]
   exact⟨rfl,fL e3⟩
  ·cases h
def fastK_len:∀ {ks:TE} {xs ys:Tl} {r:Bool},ip ks xs ys=some r->xs.length=ks.length:=by
 intro ks xs ys r h
 obtain⟨a,b,h1,h2,h3,h4,h5⟩:=kF h
 rw[←h1,qbG]
 exact bn h3
def jb:∀ {ks:TE} {xs:Tl} {r:Bool},ip ks xs xs=some r->r=true
 | [],[],r,h=>by cases h;rfl
 | .i k :: ks,.int a x :: xs,r,h=>by
  simp only[ip]at h
  split at h
  next r' e1 e2 e3=>
   have:eqZ x x=true:=by rw[sb];simp
   rw[this]at h
   simp only[qar]at h
   rw[←h];exact jb e3
  ·cases h
 | .b :: ks,.bool x :: xs,r,h=>by
  simp only[ip]at h
  split at h
  next r' e3=>
   have:eqB x x=true:=by cases x<;>rfl
   rw[this]at h
   simp only[qar]at h
   rw[←h];exact jb e3
  ·cases h
def pK{α:Type}{g:α->PUnit->Sem (ForInStep PUnit)}:∀(l:List α),(∀x∈l,pev P (g x PUnit.unit)=some (.yield PUnit.unit))->pev P (forIn l PUnit.unit g)=some PUnit.unit
 | [],_=>rfl
 |x :: l,h=>by
  rw[qdf,aw,h x qaQ]
  exact pK l λy hy=>h y (qao _ hy)
def ChkD(P:TC)(d:Nat)(t:TI)(ks:TE):Prop:=∃ag,aggT P t=some ag/\(if ag then P.cellsOf t else 1)=ks.length/\∀(b:Bool) (m:Nat) (cs:Tl) (v:Value),d<=m->cs.length=ks.length->mkV ag cs v->pev P (Instr.checkKey b m t v)=some ()
def qI{F:TI->Option (TE)}:∀(fs:List Field) (off:Nat) (ks:TE),jN F fs off=some ks->∀f∈fs,∃k1,F f.type=some k1/\f.offset+k1.length<=off+ks.length
 | [],off,ks,h,f,hf=>by cases hf
 |f0 :: fs,off,ks,h,f,hf=>by
  simp only[jN]at h
  split at h
  next k1 hn ho hk=>
   have ho:=qac ho
   obtain⟨k2,hr,rfl⟩:=qad.1 h
   rcases qap.1 hf with rfl|hf
   ·exact⟨k1,hk,by rw[qaG];omega⟩
   ·obtain⟨k3,a,b⟩:=qI fs _ k2 hr f hf
    exact⟨k3,a,by rw[qaG];omega⟩
  ·cases h
def chk_ok:∀(d:Nat) (t:TI) (ks:TE),gQ P d t=some ks->ChkD P d t ks
 |0,t,ks,h=>by cases h
 |d+1,t,ks,h=>by
  simp only[gQ]at h
  split at h
  next k e=>
   cases h
   refine⟨false,by simp[aggT,e],by simp,λb m cs v hm _ _=>?_⟩
   obtain⟨m,rfl⟩ : ∃m',m=m'+1:=⟨m - 1,by omega⟩
   unfold Instr.checkKey
   rw[aw,aQ e]
   rfl
  next e=>
   cases h
   refine⟨false,by simp[aggT,e],by simp,λb m cs v hm _ _=>?_⟩
   obtain⟨m,rfl⟩ : ∃m',m=m'+1:=⟨m - 1,by omega⟩
   unfold Instr.checkKey
   rw[aw,aQ e]
   rfl
  next fs e=>
   split at h
   next k1 hs hf=>
    split at h
    next hl=>
     cases h
     have hl:=qac hl
     refine⟨true,by simp[aggT,e],by simp[hl],λb m cs v hm hcl hv=>?_⟩
     obtain⟨m,rfl⟩ : ∃m',m=m'+1:=⟨m - 1,by omega⟩
     rcases hv with⟨_,rfl⟩|⟨h0,_⟩
     case inr=>cases h0
     unfold Instr.checkKey
     rw[aw,aQ e]
     simp only[qag]
     rw[←Array.forIn_toList]
     have:=pK (P:=P) (g:=λf _=>if f.name ≠ "_" then(do Instr.checkKey b m f.type (←part f.type ⟨cs⟩ f.offset);pure (ForInStep.yield PUnit.unit))else pure (ForInStep.yield PUnit.unit)) fs.toList (λf hf'=>by
      obtain⟨k2,hk,ho⟩:=qI fs.toList 0 _ hf f hf'
      rw[pv_ite]
      split
      ·obtain⟨ag,a1,a2,a3⟩:=chk_ok d f.type k2 hk
       have hc:cut cs f.offset (if ag then P.cellsOf f.type else 1)=some ((cs.drop f.offset).take k2.length):=by
        unfold cut
        rw[a2,qdq (by omega)]
       obtain⟨x,hx,hmk⟩:=jv a1 hc
       rw[aw]
       rw[hx]
       simp only[qag]
       rw[aw,a3 b m _ x (by omega) (by simp;omega) hmk]
       rfl
      ·rfl)
     rw[aw,this]
     rfl
    ·cases h
   ·cases h
  next n el e=>
   split at h
   next ke hk=>
    split at h
    next hl=>
     simp only[qaa]at hl
     have hl1:=qac hl.1
     have hl2:=qac hl.2
     cases h
     refine⟨true,by simp[aggT,e],by simp only[if_true];exact hl2.symm,λb m cs v hm hcl hv=>?_⟩
     obtain⟨m,rfl⟩ : ∃m',m=m'+1:=⟨m - 1,by omega⟩
     rcases hv with⟨_,rfl⟩|⟨h0,_⟩
     case inr=>cases h0
     obtain⟨ag,a1,a2,a3⟩:=chk_ok d el ke hk
     have hu:∃k,P.underlying el=some k:=by
      unfold aggT at a1
      cases hh:P.underlying el with
      |none=>rw[hh]at a1;cases a1
      |some k=>exact⟨k,rfl⟩
     obtain⟨kel,hu⟩:=hu
     unfold Instr.checkKey
     rw[aw,aQ e]
     simp only[qag]
     rw[Std.Legacy.Range.forIn_eq_forIn_range']
     simp only[Std.Legacy.Range.size,Nat.sub_zero,qct,Nat.div_one]
     have hcl':cs.length=n*ke.length:=by rw[hcl,List.length_flatten];simp
     have:=pK (P:=P) (g:=λi _=>(do Instr.checkKey b m el (←part el ⟨cs⟩ (i*(←sizeOf el)));pure (ForInStep.yield PUnit.unit))) (List.range' 0 n) (λi hi=>by
      have hi:i<n:=by simpa using hi
      have hle:i*P.cellsOf el+ke.length<=cs.length:=by
       rw[hcl',←hl1]
       have:=qbe ke.length (Nat.succ_le_of_lt hi)
       rw[Nat.succ_mul]at this
       exact this
      have hc:cut cs (i*P.cellsOf el) (if ag then P.cellsOf el else 1)=some ((cs.drop (i*P.cellsOf el)).take ke.length):=by
       unfold cut
       rw[a2,qdq hle]
      obtain⟨x,hx,hmk⟩:=jv a1 hc
      rw[aw,iH hu]
      simp only[qag]
      rw[aw,hx]
      simp only[qag]
      rw[aw,a3 b m _ x (by omega) (by simp;omega) hmk]
      rfl)
     rw[aw,this]
     rfl
    ·cases h
   ·cases h
  ·cases h
def pn{kt:TI}{k:Value}(h:keyF P kt k=true):eo P kt k=true:=by
 unfold keyF at h
 split at h
 next cs=>
  split at h
  next ha=>
   split at h
   next ks' h2=>
    split at h
    next r e2=>
     have hl:=fastK_len e2
     have hr:=jb e2
     subst hr
     obtain⟨ag,g1,g2,g3⟩:=kI 10000 kt ks' h2
     have hag:ag=true:=by
      rw[ha]at g1;exact(qan g1).symm
     subst hag
     obtain⟨a,c,q1,q2,q3,q4,q5⟩:=kF e2
     have heq:=g3 a c (.agg cs) (.agg cs) q3 q4 (.inl ⟨rfl,by rw[q1]⟩) (.inl ⟨rfl,by rw[q2]⟩)
     rw[q5]at heq
     have heq':pev P (Op.equal kt (.agg cs) (.agg cs))=some true:=heq
     obtain⟨ag',c1,_,c3⟩:=chk_ok 10000 kt ks' h2
     have hag':ag'=true:=by
      rw[ha]at c1;exact(qan c1).symm
     subst hag'
     unfold eo
     rw[c3 true 10000 cs.toList (.agg cs) (qam _) hl (.inl ⟨rfl,rfl⟩),c3 false 10000 cs.toList (.agg cs) (qam _) hl (.inl ⟨rfl,rfl⟩),heq']
     have:en (.agg cs)=true:=fL e2
     rw[this];rfl
    ·exact h
   ·exact h
  ·exact h
 ·exact h
def headV(ag:Bool)(xs:Tl)(x:Value):Prop:=(ag=true/\x = .agg ⟨xs⟩)∨(ag=false/\∃tl,xs=x :: tl)
def DifD(P:TC)(d:Nat)(t:TI)(ks:TE):Prop:=
 ∃ag,aggT P t=some ag/\(if ag then P.cellsOf t else 1)=ks.length/\∀(xs ys:Tl) (x y:Value) (r:Bool),difK ks xs ys=some r->headV ag xs x->headV ag ys y->pev P (Op.equalIn d t x y)=some r
def iY:∀ {k1 k2:TE} {xs ys:Tl} {r:Bool},difK (k1++k2) xs ys=some r->
  ∃r1,difK k1 (xs.take k1.length) (ys.take k1.length)=some r1/\(r1=false->r=false)/\(r1=true->difK k2 (xs.drop k1.length) (ys.drop k1.length)=some r)
 | [],k2,xs,ys,r,h=>by
  refine⟨true,by simp only[difK],(λq=>Bool.noConfusion q),λ_=>?_⟩
  simpa using h
 | .i k :: k1,k2,xs,ys,r,h=>by
  cases xs with
  |nil=>simp[difK]at h
  |cons x xs=>cases ys with
   |nil=>cases x<;>simp[difK]at h
   |cons y ys=>
    cases x<;>first|(simp[difK]at h;done)|skip
    cases y<;>first|(simp[difK]at h;done)|skip
    simp only[qax,difK]at h
    simp only[qaP,qb7,qco,difK]
    split at h
    next e1 e2=>
     split at h
     next e3=>
      exact iY h
     next e3=>
      cases h
      exact⟨false,rfl,λ_=>rfl,λq=>Bool.noConfusion q⟩
    ·cases h
 | .b :: k1,k2,xs,ys,r,h=>by
  cases xs with
  |nil=>simp[difK]at h
  |cons x xs=>cases ys with
   |nil=>cases x<;>simp[difK]at h
   |cons y ys=>
    cases x<;>first|(simp[difK]at h;done)|skip
    cases y<;>first|(simp[difK]at h;done)|skip
    simp only[qax,difK]at h
    simp only[qaP,qb7,qco,difK]
    split at h
    next e3=>
     exact iY h
    next e3=>
     cases h
     exact⟨false,rfl,λ_=>rfl,λq=>Bool.noConfusion q⟩
 | .v :: k1,k2,xs,ys,r,h=>by simp[difK]at h
def difK_ne{k:LK}{ks:TE}{xs ys:Tl}{r:Bool}(h:difK (k :: ks) xs ys=some r):∃x tl y tl',xs=x :: tl/\ys=y :: tl':=by
 cases xs with
 |nil=>cases k<;>simp[difK]at h
 |cons x xs=>cases ys with
  |nil=>cases k<;>cases x<;>simp[difK]at h
  |cons y ys=>exact⟨x,xs,y,ys,rfl,rfl⟩
def pv_head{t:TI}{ag:Bool}(h:aggT P t=some ag){cs:Tl}{off n:Nat}(hn:(if ag then P.cellsOf t else 1)=n)(hne:ag=false->∃x tl,(cs.drop off).take n=x :: tl) :
  ∃v,pev P (part t ⟨cs⟩ off)=some v/\headV ag ((cs.drop off).take n) v:=by
 have hu:∃d,P.underlying t=some d:=by
  unfold aggT at h
  cases hh:P.underlying t with
  |none=>rw[hh]at h;cases h
  |some d=>exact⟨d,rfl⟩
 obtain⟨d,hu⟩:=hu
 unfold part
 rw[aw,uz h]
 simp only[qag]
 cases ag with
 |true=>
  simp only[if_true]at hn ⊢
  subst hn
  refine⟨.agg ⟨(cs.drop off).take (P.cellsOf t)⟩,?_,.inl ⟨rfl,rfl⟩⟩
  rw[aw,iH hu]
  simp only[qag,eF,qar,Value.agg.injEq]
  apply qaZ.1
  rw[qbY]
  simp[List.extract]
 |false=>
  obtain⟨x,tl,hx⟩:=hne rfl
  simp only[qaj,if_false]at hn ⊢
  subst hn
  refine⟨x,?_,.inr ⟨rfl,tl,hx⟩⟩
  have h1:(cs.drop off)[0]?=some x:=by
   have:((cs.drop off).take 1)[0]?=some x:=by rw[hx];rfl
   rwa [qbi,qdq (by omega)]at this
  rw[qa8,qcD]at h1
  have:(⟨cs⟩ : Array Value)[off]?=some x:=by simpa using h1
  rw[this]
  rfl
def tz{d:Nat}{t:TI}{k1 k2:TE}(hD:DifD P d t k1){xs ys:Tl}{off:Nat}{r:Bool}(h:difK (k1++k2) (xs.drop off) (ys.drop off)=some r)(s:Bool->Sem Bool){r':Bool}
  (hs:difK k2 (xs.drop (off+k1.length)) (ys.drop (off+k1.length))=some r->pev P (s true)=some r) (hf:pev P (s false)=some false) (hr:r'=r) :
  (pev P (part t ⟨xs⟩ off)).bind (λa=>(pev P (part t ⟨ys⟩ off)).bind λb=>(pev P (Op.equalIn d t a b)).bind λq=>pev P (s q))=some r':=by
 subst hr
 obtain⟨ag,h1,h2,h3⟩:=hD
 obtain⟨r1,e1,e2,e3⟩:=iY h
 have hne:ag=false->(∃x tl,(xs.drop off).take k1.length=x :: tl)/\∃x tl,(ys.drop off).take k1.length=x :: tl:=by
  intro hag
  subst hag
  simp only[qaj,if_false]at h2
  cases k1 with
  |nil=>cases h2
  |cons k ks=>
   obtain⟨x,tl,y,tl',q1,q2⟩:=difK_ne e1
   exact⟨⟨x,tl,q1⟩,⟨y,tl',q2⟩⟩
 obtain⟨x,x1,x2⟩:=pv_head h1 (cs:=xs) (off:=off) h2 λh=>(hne h).1
 obtain⟨y,y1,y2⟩:=pv_head h1 (cs:=ys) (off:=off) h2 λh=>(hne h).2
 rw[x1]
 simp only[qag]
 rw[y1]
 simp only[qag]
 rw[h3 _ _ x y r1 e1 x2 y2]
 simp only[qag]
 cases r1 with
 |true=>
  refine hs ?_
  have:=e3 rfl
  rwa [qbD,qbD]at this
 |false=>rw[e2 rfl];exact hf
def jV{d:Nat}{F:TI->Option (TE)}(hF:∀t ks,F t=some ks->DifD P d t ks):∀(fs:List Field) (off:Nat) (ks:TE),jN F fs off=some ks->
  ∀(xs ys:Tl) (r:Bool),difK ks (xs.drop off) (ys.drop off)=some r->pev P (Op.eqFields d ⟨xs⟩ ⟨ys⟩ fs)=some r
 | [],off,ks,h,xs,ys,r,hd=>by
  cases h
  simp only[difK,qar]at hd
  subst hd
  rfl
 |f :: fs,off,ks,h,xs,ys,r,hd=>by
  simp only[jN]at h
  split at h
  next k1 hn ho hk=>
   have hn:¬f.name = "_":=of_decide_eq_false hn
   have ho:=qac ho
   obtain⟨k2,hr,rfl⟩:=qad.1 h
   simp only[Op.eqFields,ne_eq,hn,not_false_eq_true,if_true,aw]
   rw[ho]
   exact tz (hF _ _ hk) hd (λq=>if (!q)=true then pure false else Op.eqFields d ⟨xs⟩ ⟨ys⟩ fs) (λh=>by simpa using jV hF fs _ k2 hr xs ys r h) rfl rfl
  ·cases h
def mi{d:Nat}{e:TI}{ke:TE}(hE:DifD P d e ke)(hlen:ke.length=P.cellsOf e):∀(n i:Nat) (xs ys:Tl) (r:Bool),
  difK (List.replicate n ke).flatten (xs.drop (i*P.cellsOf e)) (ys.drop (i*P.cellsOf e))=some r->pev P (dE d (P.cellsOf e) e ⟨xs⟩ ⟨ys⟩ (List.range' i n))=some r
 |0,i,xs,ys,r,hd=>by
  simp only[List.replicate_zero,List.flatten_nil,difK,qar]at hd
  subst hd
  rfl
 |n+1,i,xs,ys,r,hd=>by
  rw[qb6,qb0]at hd
  simp only[qcl,dE,aw]
  refine tz hE hd (λq=>if (!q)=true then pure false else dE d (P.cellsOf e) e ⟨xs⟩ ⟨ys⟩ (List.range' (i+1) n)) (λh=>?_) rfl rfl
  have:=mi hE hlen n (i+1) xs ys r (by rw[qbk,qb8,←hlen];rwa [←hlen]at h)
  simpa using this
def lI:∀(d:Nat) (t:TI) (ks:TE),gQ P d t=some ks->DifD P d t ks
 |0,t,ks,h=>by cases h
 |d+1,t,ks,h=>by
  simp only[gQ]at h
  split at h
  next k e=>
   cases h
   refine⟨false,by simp[aggT,e],by simp,λxs ys x y r hd hx hy=>?_⟩
   rcases hx with⟨h0,_⟩|⟨_,tx,rfl⟩
   ·cases h0
   rcases hy with⟨h0,_⟩|⟨_,ty,rfl⟩
   ·cases h0
   cases x<;>first|(simp[difK]at hd;done)|skip
   cases y<;>first|(simp[difK]at hd;done)|skip
   simp only[difK]at hd
   split at hd
   next e1 e2=>
    have e1:=cT e1
    have e2:=cT e2
    subst e1;subst e2
    rw[nU e,←sb]
    split at hd
    next e3=>rw[e3];exact hd
    next e3=>rw[e3];exact hd
   ·cases hd
  next e=>
   cases h
   refine⟨false,by simp[aggT,e],by simp,λxs ys x y r hd hx hy=>?_⟩
   rcases hx with⟨h0,_⟩|⟨_,tx,rfl⟩
   ·cases h0
   rcases hy with⟨h0,_⟩|⟨_,ty,rfl⟩
   ·cases h0
   cases x<;>first|(simp[difK]at hd;done)|skip
   cases y<;>first|(simp[difK]at hd;done)|skip
   simp only[difK]at hd
   rw[me e,←eqB_iff]
   split at hd
   next e3=>rw[e3];exact hd
   next e3=>rw[e3];exact hd
  next fs e=>
   split at h
   next k1 hs hf=>
    split at h
    next hl=>
     cases h
     have hl:=qac hl
     refine⟨true,by simp[aggT,e],by simp[hl],λxs ys x y r hd hx hy=>?_⟩
     rcases hx with⟨_,rfl⟩|⟨h0,_⟩
     ·rcases hy with⟨_,rfl⟩|⟨h0,_⟩
      ·rw[eN d t fs _ _ e hs]
       exact jV (lI d) fs.toList 0 _ hf xs ys r hd
      ·cases h0
     ·cases h0
    ·cases h
   ·cases h
  next n el e=>
   split at h
   next ke hk=>
    split at h
    next hl=>
     simp only[qaa]at hl
     have hl1:=qac hl.1
     have hl2:=qac hl.2
     cases h
     refine⟨true,by simp[aggT,e],by simp only[if_true];exact hl2.symm,λxs ys x y r hd hx hy=>?_⟩
     rcases hx with⟨_,rfl⟩|⟨h0,_⟩
     ·rcases hy with⟨_,rfl⟩|⟨h0,_⟩
      ·have hE:=lI d el ke hk
       have hu:∃k,P.underlying el=some k:=by
        obtain⟨ag,h1,_⟩:=hE
        unfold aggT at h1
        cases hh:P.underlying el with
        |none=>rw[hh]at h1;cases h1
        |some k=>exact⟨k,rfl⟩
       rw[fo d t el n _ _ e hu,qbu]
       exact mi hE hl1 n 0 xs ys r (by simpa using hd)
      ·cases h0
     ·cases h0
    ·cases h
   ·cases h
  ·cases h
def qF{kt:TI}{ks:TE}{cs:Tj}(hE:∀(xs ys:Tl) (x y:Value) (r:Bool),difK ks xs ys=some r->headV true xs x->headV true ys y->pev P (Op.equalIn 10000 kt x y)=some r) :
  ∀(es:Th) (i:Nat) (r:Tp),lF ks cs.toList es i=some r->∃q,pev P (Instr.findAsking kt (.agg cs) (es.map aP) i)=some q/\q.map (·.1)=r
 | [],i,r,h=>by cases h;exact⟨none,rfl,rfl⟩
 |e :: es,i,r,h=>by
  simp only[lF]at h
  split at h
  next ds hd=>
   have hq:∀b,difK ks cs.toList ds.toList=some b->pev P (Op.equal kt (.agg cs) (aP e).key)=some b:=by
    intro b hb
    have:=hE cs.toList ds.toList (.agg cs) (.agg ds) b hb (.inl ⟨rfl,rfl⟩) (.inl ⟨rfl,rfl⟩)
    show pev P (Op.equalIn 10000 kt (.agg cs) e.key)=some b
    rw[hd];exact this
   have hs:pev P (Instr.findAsking kt (.agg cs) ((e :: es).map aP) i)=(pev P (Op.equal kt (.agg cs) (aP e).key)).bind λb=>pev P (if b then pure (some (i,(aP e).val))else Instr.findAsking kt (.agg cs) (es.map aP) (i+1)):=by
    show pev P (Op.equal kt (.agg cs) (aP e).key >>= λb=>if b then pure (some (i,(aP e).val))else Instr.findAsking kt (.agg cs) (es.map aP) (i+1))=_
    rw[aw]
   split at h
   next hb=>
    cases h
    refine⟨some (i,(aP e).val),?_,rfl⟩
    rw[hs,hq true hb];rfl
   next hb=>
    obtain⟨q,h1,h2⟩:=qF hE es (i+1) r h
    refine⟨q,?_,h2⟩
    rw[hs,hq false hb]
    simp only[qag,qaj,if_false]
    exact h1
   ·cases h
  ·cases h
def kG(kt:TI)(k:Value)(es:Th):qD P kt k es=iq P kt k es:=by
 unfold qD
 split
 next cs=>
  simp only[oW]
  split
  next ks ha hf=>
   split
   next r hq=>
    obtain⟨ag,g1,g2,g3⟩:=lI 10000 kt ks hf
    rw[ha]at g1
    cases g1
    obtain⟨q,h1,h2⟩:=qF (P:=P) (kt:=kt) g3 es 0 r hq
    have hd:∃d,P.underlying kt=some d/\∀x,Instr.sameNow d (.agg cs) x=none:=by
     unfold aggT at ha
     split at ha
     next fs e=>exact⟨_,e,λx=>by simp[Instr.sameNow]⟩
     next n e' e=>exact⟨_,e,λx=>by simp[Instr.sameNow]⟩
     ·cases ha
     ·cases ha
    obtain⟨d,hd,hn⟩:=hd
    unfold iq Instr.findKey
    rw[aw,aQ hd]
    simp only[qag]
    cases es with
    |nil=>
     cases hq
     rfl
    |cons e l=>
     have:Instr.findNow d (.agg cs) ((e :: l).map aP) 0=none:=by
      simp only[qat]
      unfold Instr.findNow
      rw[hn]
     rw[this]
     simp only
     rw[h1]
     simp[h2]
   ·rfl
  ·rfl
 ·rfl
end
section
variable [Val] [Kno] {R HT:Type} {A:Alg R HT} {X:Ctxt} {Sg:Tc} {holds:R->Prop} {abs:HT->Ts}
variable {ev:Env} {σ:St} {h:HT} {o:Oper} {K:KN R HT}
def SL.nv:SL->Prop
 | .v _=>False
 |_=>True
def SL.nv_scalar{l:SL}(h:l.nv):scalar l.val=true:=by cases l<;>first|rfl|exact h.elim
def SL.nv_den{l:SL}(h:l.nv):den1 l.val=l.val:=by cases l<;>first|rfl|exact h.elim
def pB{x:S0}(h:∀l∈x.cells,l.nv):plain x.val=true/\den x.val=x.val:=by
 cases x with
 |leaf l=>
  have hl:=h l (by simp[S0.cells])
  cases l<;>first|exact⟨rfl,rfl⟩|exact hl.elim
 |agg cs=>
  refine⟨?_,?_⟩
  ·simp only[S0.val,plain,qab,qaN]
   rintro _ ⟨l,hl,rfl⟩
   simp[gI,SL.nv_scalar (h l hl)]
  ·simp only[S0.val,den,Value.agg.injEq]
   apply qaZ.1
   rw[qbf,qdg]
   refine qbA λl hl=>?_
   exact SL.nv_den (h l hl)
def oy:∀ {cs:List SL} {ks:TE},aG cs ks=true->oA ks=true->∀l∈cs,l.nv
 | [],[],_,_,l,hl=>by cases hl
 |c :: cs,k :: ks,h1,h2,l,hl=>by
  simp only[aG,qaa]at h1
  simp only[oA,qbF,qaa]at h2
  rcases qap.1 hl with rfl|hl
  ·cases l<;>first|trivial|(cases k<;>first|(simp at h2;done)|(simp[SL.is]at h1;done))
  ·exact oy h1.2 h2.2 l hl
 | [],_ :: _,h,_,_,_=>by cases h
 |_ :: _,[],h,_,_,_=>by cases h
def eQ{op:BinOp}{t yt:TI}{x y:TD}{a b u:Value}(ho:o.op = .binOp op t x y yt)(hx:oval σ.tmps x=a)(hy:oval σ.tmps y=b)(pa:plain a=true/\den a=a)(pb:plain b=true/\den b=b)
  (pu:plain u=true/\den u=u) (hg:∀w,(eqGuard op t x y a b).run X.C.P w = .ok () w) (hr:∀w,(binOp op t a b).run X.C.P w = .ok u w):gK X.C σ.tmps o u:=by
 refine⟨by rw[ho];rfl,?_,pu.1,λw=>?_⟩
 ·rw[ho];simp[Op.operands,hx,hy,pa.1,pb.1]
 ·simp only[execOp,ho,hx,hy,pa.2,pb.2,Sem.run_bind,hg w,Result.andThen_ok,hr w,Sem.run_pure,pu.2]
def lM{op:BinOp}{t:TI}{x y:TD}{k k':TF}{a b:Int}{P:TC}(w:World):(eqGuard op t x y (.int k a) (.int k' b)).run P w = .ok () w:=by
 unfold eqGuard
 split<;>rfl
def nu{op:BinOp}{t:TI}{x y:TD}{a b:Bool}{P:TC}(w:World):(eqGuard op t x y (.bool a) (.bool b)).run P w = .ok () w:=by
 unfold eqGuard
 split<;>rfl
def qM{op:BinOp}{t:TI}{x y:TD}{a b:ByteArray}{P:TC}(w:World):(eqGuard op t x y (.string a) (.string b)).run P w = .ok () w:=by
 unfold eqGuard
 split<;>rfl
def str_beq(a b:ByteArray):(a.toList==b.toList)=eqBs a.data.toList b.data.toList:=by
 rw[qby,tF,beq_iff_eq,ByteArray.toList_eq,ByteArray.toList_eq]
def mw{x y:Value}{t:Bool}(h:strEq x y=some t):∃a b,x = .string a/\y = .string b/\t=eqBs a.data.toList b.data.toList:=by
 unfold strEq at h
 split at h
 ·split at h
  ·cases h;exact⟨_,_,rfl,rfl,rfl⟩
  ·cases h
 ·cases h
def cmp_run{P:TC}{op:BinOp}{k:TF}{a b:Int}{t:Bool}(h:nh op a b=some t)(hs:isShift op=false)(ty:TI)(w:World):(binOp op ty (.int k a) (.int k b)).run P w = .ok (.bool t) w:=by
 cases op<;>simp only[nh,reduceCtorEq,qar]at h<;>subst h<;>simp[binOp,Op.intCmp]
def aq{l:SL}(h:l.good):(S0.leaf l).good:=λm hm=>by
 simp only[S0.cells,qay]at hm
 subst hm;exact h
def bin_ok(hA:AlgOk A X.C Sg X.T holds abs)(hR:Rp ev σ)(ha:abs h=σ.heap){op:BinOp}{t yt:TI}{x y:TD}{a b:S0}(ho:o.op = .binOp op t x y yt)
  (hx:sval0 ev x=some a) (hy:sval0 ev y=some b) (hk:holds (binE A X o.dst op t a b ev h K)):Done X holds abs o σ K:=by
 obtain⟨h1,ga⟩:=hR.sval0 hx
 obtain⟨h2,gb⟩:=hR.sval0 hy
 unfold binE at hk
 split at hk
 next k n k' m=>
  simp only[S0.val,SL.val]at h1 h2
  have pi:∀(k:TF) (n:Int),plain (.int k n)=true/\den (.int k n) = .int k n:=λ_ _=>⟨rfl,rfl⟩
  split at hk
  ·obtain⟨r,hr,hk1⟩:=hA.shf _ _ _ _ _ _ hk
   exact bG hR ha (s:=.st (.leaf (.i k r))) (aq trivial) (eQ ho h1 h2 (pi _ _) (pi _ _) (pi _ _) (λw=>lM w) (λw=>hr _ _ w)) hk1
  next hs hk' hc=>
   have e:=cT hk'
   subst e
   obtain⟨r,hr,hk1⟩:=hA.cmp _ _ _ _ hk
   exact bG hR ha (s:=.st (.leaf (.b r))) (aq trivial) (eQ ho h1 h2 (pi _ _) (pi _ _) ⟨rfl,rfl⟩ (λw=>lM w) (λw=>cmp_run hr hs _ w)) hk1
  next hs hk' hc=>
   have e:=cT hk'
   subst e
   obtain⟨r,hr,hk1⟩:=hA.ari _ _ _ _ _ hk
   exact bG hR ha (s:=.st (.leaf (.i k r))) (aq trivial) (eQ ho h1 h2 (pi _ _) (pi _ _) (pi _ _) (λw=>lM w) (λw=>hr _ _ w)) hk1
  ·exact absurd hk hA.fail
 next cs es=>
  split at hk
  next ks hf hgt hga=>
   split at hk
   next hc=>
    simp only[qaa]at hc
    obtain⟨⟨hc1,hc2⟩,hc3⟩:=hc
    have hp1:=pB (x:=.agg cs) (oy hc1 hc3)
    have hp2:=pB (x:=.agg es) (oy hc2 hc3)
    obtain⟨ag,g1,g2,g3⟩:=kI 10000 t ks hf
    have hgd:∀w,(eqGuard op t x y (S0.val (.agg cs)) (S0.val (.agg es))).run X.C.P w = .ok () w:=λw=>run_eqGuard_agg w op t x y _ _ hgt
    have hag:ag=true:=by
     rw[hga]at g1;exact(qan g1).symm
    subst hag
    have heq:=g3 cs es _ _ hc1 hc2 (.inl ⟨rfl,rfl⟩) (.inl ⟨rfl,rfl⟩)
    split at hk
    ·have hk1:=hA.eqs _ _ hk
     refine bG hR ha (s:=.st (.leaf (.b _))) (aq trivial) (eQ ho h1 h2 hp1 hp2 ⟨rfl,rfl⟩ hgd λw=>?_) hk1
     rw[S0.val,S0.val,run_eql_struct,eZ heq]
     rfl
    ·have hk1:=hA.eqs _ _ hk
     refine bG hR ha (s:=.st (.leaf (.b _))) (aq trivial) (eQ ho h1 h2 hp1 hp2 ⟨rfl,rfl⟩ hgd λw=>?_) hk1
     rw[S0.val,S0.val,run_neq_struct,eZ heq]
     rfl
    ·exact absurd hk hA.fail
   ·exact absurd hk hA.fail
  ·exact absurd hk hA.fail
 next u v=>
  simp only[S0.val,SL.val]at h1 h2
  split at hk
  next hu=>
   split at hk
   ·obtain⟨t',hn,hk1⟩:=hA.opt _ _ hk
    obtain⟨c,d,rfl,rfl,rfl⟩:=mw hn
    refine bG hR ha (s:=.st (.leaf (.b _))) (aq trivial) (eQ ho h1 h2 ⟨rfl,rfl⟩ ⟨rfl,rfl⟩ ⟨rfl,rfl⟩ (λw=>qM w) λw=>?_) hk1
    simp only[binOp,Op.stringOp,str_beq]
    rfl
   ·obtain⟨t',hn,hk1⟩:=hA.opt _ _ hk
    obtain⟨c,d,rfl,rfl,rfl⟩:=mw hn
    refine bG hR ha (s:=.st (.leaf (.b _))) (aq trivial) (eQ ho h1 h2 ⟨rfl,rfl⟩ ⟨rfl,rfl⟩ ⟨rfl,rfl⟩ (λw=>qM w) λw=>?_) hk1
    simp only[binOp,Op.stringOp,str_beq]
    rfl
   ·exact absurd hk hA.fail
  ·split at hk
   ·obtain⟨t',hn,hk1⟩:=hA.opt _ _ hk
    obtain⟨hn,hok⟩:=rm ‹X.C.P.underlying t=some _› hn
    refine au hR ha (s:=.st (.leaf (.b t'))) (aq trivial) ?_ hk1
    simp only[ak,ho,h1,h2,hn,hok,if_true];rfl
   ·obtain⟨t',hn,hk1⟩:=hA.opt _ _ hk
    obtain⟨hn,hok⟩:=rm ‹X.C.P.underlying t=some _› hn
    refine au hR ha (s:=.st (.leaf (.b (!t')))) (aq trivial) ?_ hk1
    simp only[ak,ho,h1,h2,hn,hok,if_true];rfl
   ·exact absurd hk hA.fail
  ·exact absurd hk hA.fail
 next u v _ _=>
  split at hk
  next hb hu=>
   simp only[qaa]at hb
   have hval:∀ {l:SL},l.is .b=true->∃c,l.val = .bool c/\l.lf = .b c:=by
    intro l hl
    cases l<;>simp only[SL.is,qaj]at hl<;>exact⟨_,rfl,rfl⟩
   obtain⟨c,c1,c2⟩:=hval hb.1
   obtain⟨d,d1,d2⟩:=hval hb.2
   simp only[S0.val]at h1 h2
   rw[c1]at h1
   rw[d1]at h2
   have hq:∀w,(Op.equal t (.bool c) (.bool d)).run X.C.P w = .ok (c==d) w:=λw=>run_equal_bool w t c d hu
   split at hk
   ·have hk1:=hA.eqs _ _ hk
    rw[c2,d2]at hk1
    refine bG hR ha (s:=.st (.leaf (.b _))) (aq trivial) (eQ ho h1 h2 ⟨rfl,rfl⟩ ⟨rfl,rfl⟩ ⟨rfl,rfl⟩ (λw=>nu w) λw=>?_) hk1
    simp only[binOp,Sem.run_bind,hq w,Result.andThen_ok,Sem.run_pure]
    simp[SV.val,S0.val,SL.val,bP,fK]
   ·have hk1:=hA.eqs _ _ hk
    rw[c2,d2]at hk1
    refine bG hR ha (s:=.st (.leaf (.b _))) (aq trivial) (eQ ho h1 h2 ⟨rfl,rfl⟩ ⟨rfl,rfl⟩ ⟨rfl,rfl⟩ (λw=>nu w) λw=>?_) hk1
    simp only[binOp,Sem.run_bind,hq w,Result.andThen_ok,Sem.run_pure]
    simp[SV.val,S0.val,SL.val,bP,fK]
   ·exact absurd hk hA.fail
  ·exact absurd hk hA.fail
 ·exact absurd hk hA.fail
def un_ok(hA:AlgOk A X.C Sg X.T holds abs)(hR:Rp ev σ)(ha:abs h=σ.heap){op:UnOp}{t:TI}{x:TD}(ho:o.op = .unOp op t x)
  (hk:holds (match (generalizing:=false) op,sval ev x with
  | .not,.st (.leaf (.b t))=>setD o.dst (.st (.leaf (.b (!t)))) ev h K
  | .not,.st (.leaf (.l t))=>setD o.dst (.st (.leaf (.l (!t)))) ev h K
  | .neg,.st (.leaf (.i k n))=>A.ari .sub k 0 n λn=>setD o.dst (.st (.leaf (.i k n))) ev h K
  |_,_=>A.fail)):Done X holds abs o σ K:=by
 have hsym:∀ {a u:Value},oval σ.tmps x=a->(plain a=true/\den a=a)->(plain u=true/\den u=u)->(∀w,(Op.unary op a).run X.C.P w = .ok u w)->gK X.C σ.tmps o u:=by
  intro a u hx pa pu hr
  refine⟨by rw[ho];rfl,by rw[ho];simp[Op.operands,hx,pa.1],pu.1,λw=>?_⟩
  simp only[execOp,ho,hx,pa.2,Sem.run_bind,hr w,Result.andThen_ok,Sem.run_pure,pu.2]
 split at hk
 next t' e=>
  obtain⟨h1,_⟩:=hR.sval e (by simp)
  refine bG hR ha (s:=.st (.leaf (.b (!t')))) (aq trivial) (hsym h1 ⟨rfl,rfl⟩ ⟨rfl,rfl⟩ λw=>?_) hk
  simp[SV.val,S0.val,SL.val,Op.unary]
 next t' e=>
  obtain⟨h1,_⟩:=hR.sval e (by simp)
  refine bG hR ha (s:=.st (.leaf (.l (!t')))) (aq trivial) (hsym h1 ⟨rfl,rfl⟩ ⟨rfl,rfl⟩ λw=>?_) hk
  simp[SV.val,S0.val,SL.val,Op.unary]
 next k n e=>
  obtain⟨h1,_⟩:=hR.sval e (by simp)
  obtain⟨r,hr,hk1⟩:=hA.ari _ _ _ _ _ hk
  refine bG hR ha (s:=.st (.leaf (.i k r))) (aq trivial) (hsym h1 ⟨rfl,rfl⟩ ⟨rfl,rfl⟩ λw=>?_) hk1
  have:=hr X.C.P t w
  simp[SV.val,S0.val,SL.val,Op.unary,binOp,Op.intArith]at this ⊢
  exact this
 ·exact absurd hk hA.fail
def conv_ok(hA:AlgOk A X.C Sg X.T holds abs)(hR:Rp ev σ)(ha:abs h=σ.heap){sT dT:TI}{x:TD}(ho:o.op = .convert sT dT x)
  (hk:holds (match X.C.P.underlying sT,X.C.P.underlying dT,sval ev x with
  |some (.int _),some (.int k),.st (.leaf (.i _ n))=>A.conv k n λn=>setD o.dst (.st (.leaf (.i k n))) ev h K
  |_,_,_=>A.fail)):Done X holds abs o σ K:=by
 split at hk
 next ks k k' n hs hu e=>
  obtain⟨h1,_⟩:=hR.sval e (by simp)
  have hk1:=hA.conv _ _ _ hk
  simp only[SV.val,S0.val,SL.val]at h1
  refine bG hR ha (s:=.st (.leaf (.i k _))) (aq trivial) ⟨by rw[ho];rfl,by rw[ho];simp[Op.operands,h1];rfl,rfl,λw=>?_⟩ hk1
  simp only[execOp,ho,h1]
  simp[den,den1,convert,run_underlying hs,run_underlying hu,Conv.intToInt,SV.val,S0.val,SL.val]
 ·exact absurd hk hA.fail
end
namespace Sx
section
variable [Val] [Kno] {R HT:Type} {A:Alg R HT} {X:Ctxt} {Sg:Tc} {holds:R->Prop} {abs:HT->Ts}
variable {ev:Env} {σ:St} {h:HT} {o:Oper} {K:KN R HT}
def lZ:∀(ix:List (Int×Nat)) (base:Nat) (p:Int×Nat),offX base (ix++[p])=offX base ix+p.1.toNat*p.2
 | [],_,_=>rfl
 |q :: l,base,p=>lZ l (base+q.1.toNat*q.2) p
def iG:∀(ix:List (Int×Nat)) (base n:Nat),offX (base+n) ix=offX base ix+n
 | [],_,_=>rfl
 |q :: l,base,n=>by
  simp only[offX]
  rw[show base+n+q.1.toNat*q.2=base+q.1.toNat*q.2+n by omega]
  exact iG l _ n
def sC(hA:AlgOk A X.C Sg X.T holds abs)(hR:Rp ev σ)(ha:abs h=σ.heap){x:TD}(ho:o.op = .nilCheck x)
  (hk:holds (match sval ev x with
  | .st (.leaf (.v p))=>A.opt (nilP p) λq=>A.chk q (setD o.dst (.st (.leaf (.v q))) ev h K)
  | .lad s off=>setD o.dst (.lad s off) ev h K
  | .gad s off=>setD o.dst (.gad s off) ev h K
  |_=>A.fail)):Done X holds abs o σ K:=by
 split at hk
 next p e=>
  obtain⟨h1,_⟩:=hR.sval e (by simp)
  simp only[SV.val,S0.val,SL.val]at h1
  obtain⟨q,hq,hk1⟩:=hA.opt _ _ hk
  obtain⟨hg,hk2⟩:=hA.chk _ _ hk1
  refine au hR ha (s:=.st (.leaf (.v q))) (aq hg) ?_ hk2
  simp only[ak,ho,h1]
  unfold nilP at hq
  split at hq<;>cases hq<;>rfl
 next s off e=>
  obtain⟨h1,_⟩:=hR.sval e (by simp)
  exact au hR ha (s:=.lad s off) trivial (by simp only[ak,ho,h1,SV.val]) hk
 next s off e=>
  obtain⟨h1,_⟩:=hR.sval e (by simp)
  exact au hR ha (s:=.gad s off) trivial (by simp only[ak,ho,h1,SV.val]) hk
 ·exact absurd hk hA.fail
def qC(hA:AlgOk A X.C Sg X.T holds abs)(hR:Rp ev σ)(ha:abs h=σ.heap){t:TI}{x:TD}{f:Nat}(ho:o.op = .fieldAddr t x f)
  (hk:holds (jc A X o.dst t x f ev h K)):Done X holds abs o σ K:=by
 unfold jc at hk
 split at hk
 next fs hu=>
  split at hk
  next fd hf=>
   have heff:∀ {b off:Nat} {sp:Tp},Nat.beq (X.C.P.cellsOf fd.type) 0=false->oval σ.tmps x = .pointer (some ⟨b,off,sp⟩)->
     ak X.C X.pts (oval σ.tmps) o=some (.val (.pointer (some ⟨b,off+fd.offset,sp⟩))):=by
    intro b off sp hz hx
    have hz:¬X.C.P.cellsOf fd.type=0:=λe=>by rw[e]at hz;cases hz
    simp only[ak,ho,hx,eI,hu,hf,qdr hz,qau]
   split at hk
   next s off hz e=>
    obtain⟨h1,_⟩:=hR.sval e (by simp)
    exact au hR ha (s:=.lad s (off+fd.offset)) trivial (heff hz h1) hk
   next s off hz e=>
    obtain⟨h1,_⟩:=hR.sval e (by simp)
    exact au hR ha (s:=.gad s (off+fd.offset)) trivial (heff hz h1) hk
   next s base ix hz e=>
    obtain⟨h1,_⟩:=hR.sval e (by simp)
    refine au hR ha (s:=.ldx s (base+fd.offset) ix) trivial ?_ hk
    rw[heff hz h1,SV.val,iG]
   next s base ix hz e=>
    obtain⟨h1,_⟩:=hR.sval e (by simp)
    refine au hR ha (s:=.gdx s (base+fd.offset) ix) trivial ?_ hk
    rw[heff hz h1,SV.val,iG]
   next p hz e=>
    obtain⟨h1,_⟩:=hR.sval e (by simp)
    simp only[SV.val,S0.val,SL.val]at h1
    obtain⟨q,hq,hk1⟩:=hA.opt _ _ hk
    obtain⟨hg,hk2⟩:=hA.chk _ _ hk1
    refine au hR ha (s:=.st (.leaf (.v q))) (aq hg) ?_ hk2
    unfold fdP at hq
    split at hq
    next a=>
     cases hq
     exact heff hz h1
    ·cases hq
   ·exact absurd hk hA.fail
  ·exact absurd hk hA.fail
 ·exact absurd hk hA.fail
def il{i:TD}{n:Nat}(h:constI i=some n):intOf (oval σ.tmps i)=some (n:Int):=by
 unfold constI at h
 split at h
 ·cases h
  simp[oval,flat,en,scalar,Am.intOf]
 ·cases h
def qP{len:Nat}{j:Int}{u:Unit}(h:inB len j=some u):0<=j/\j<(len:Int):=by
 rw[inB_eq]at h
 split at h
 ·assumption
 ·cases h
def idS_ok{esz:Nat}{x q:Value}{i:Int}(h:idS esz x i=some q) :
  ∃a len cx,x = .slice (some a) len cx/\(0<=i/\i<(len:Int))/\q = .pointer (some ⟨a.block,a.off+i.toNat*esz,if a.spot=some 1 then some 1 else none⟩):=by
 rw[idS_eq]at h
 split at h
 next a len cx=>
  split at h
  next hb=>cases h;exact⟨a,len,cx,rfl,hb,rfl⟩
  ·cases h
 ·cases h
def qQ(hA:AlgOk A X.C Sg X.T holds abs)(hR:Rp ev σ)(ha:abs h=σ.heap){t:TI}{x i:TD}(ho:o.op = .indexAddr t x i)
  (hk:holds (jf A X o.dst t x i ev h K)):Done X holds abs o σ K:=by
 unfold jf at hk
 split at hk
 next len e hu=>
  have heff:∀ {b off:Nat} {sp:Tp} {j:Int},Nat.beq (X.C.P.cellsOf e) 0=false->oval σ.tmps x = .pointer (some ⟨b,off,sp⟩)->intOf (oval σ.tmps i)=some j->0<=j->j<(len:Int)->
    ak X.C X.pts (oval σ.tmps) o=some (.val (.pointer (some ⟨b,off+j.toNat*X.C.P.cellsOf e,sp⟩))):=by
   intro b off sp j hz hx hi h0 h1
   have hz:¬X.C.P.cellsOf e=0:=λe=>by rw[e]at hz;cases hz
   simp only[ak,ho,hx,dP,hi,hu,qdr hz,qdq (And.intro h0 h1),qau]
  have hint:∀ {k:TF} {j:Int},sval ev i = .st (.leaf (.i k j))->intOf (oval σ.tmps i)=some j:=by
   intro k j hs
   obtain⟨h1,_⟩:=hR.sval hs (by simp)
   rw[h1];rfl
  simp only at hk
  split at hk
  next s off n hz e1 hc=>
   obtain⟨h1,_⟩:=hR.sval e1 (by simp)
   split at hk
   next hlt=>
    have hlt:n<len:=by simpa[qaU]using hlt
    refine au hR ha (s:=.lad s (off+n*X.C.P.cellsOf e)) trivial ?_ hk
    rw[heff hz h1 (il hc) (by omega) (by omega)];simp[SV.val]
   ·exact absurd hk hA.fail
  next s off n hz e1 hc=>
   obtain⟨h1,_⟩:=hR.sval e1 (by simp)
   split at hk
   next hlt=>
    have hlt:n<len:=by simpa[qaU]using hlt
    refine au hR ha (s:=.gad s (off+n*X.C.P.cellsOf e)) trivial ?_ hk
    rw[heff hz h1 (il hc) (by omega) (by omega)];simp[SV.val]
   ·exact absurd hk hA.fail
  next s base ix n hz e1 hc=>
   obtain⟨h1,_⟩:=hR.sval e1 (by simp)
   split at hk
   next hlt=>
    have hlt:n<len:=by simpa[qaU]using hlt
    refine au hR ha (s:=.ldx s (base+n*X.C.P.cellsOf e) ix) trivial ?_ hk
    rw[heff hz h1 (il hc) (by omega) (by omega)];simp[SV.val,iG]
   ·exact absurd hk hA.fail
  next s base ix n hz e1 hc=>
   obtain⟨h1,_⟩:=hR.sval e1 (by simp)
   split at hk
   next hlt=>
    have hlt:n<len:=by simpa[qaU]using hlt
    refine au hR ha (s:=.gdx s (base+n*X.C.P.cellsOf e) ix) trivial ?_ hk
    rw[heff hz h1 (il hc) (by omega) (by omega)];simp[SV.val,iG]
   ·exact absurd hk hA.fail
  next s off k j hz e1 e2 _=>
   obtain⟨h1,_⟩:=hR.sval e1 (by simp)
   obtain⟨u,hu2,hk1⟩:=hA.opt _ _ hk
   obtain⟨b1,b2⟩:=qP hu2
   exact au hR ha (s:=.ldx s off [(j,X.C.P.cellsOf e)]) trivial (by rw[heff hz h1 (hint e2) b1 b2];rfl) hk1
  next s off k j hz e1 e2 _=>
   obtain⟨h1,_⟩:=hR.sval e1 (by simp)
   obtain⟨u,hu2,hk1⟩:=hA.opt _ _ hk
   obtain⟨b1,b2⟩:=qP hu2
   exact au hR ha (s:=.gdx s off [(j,X.C.P.cellsOf e)]) trivial (by rw[heff hz h1 (hint e2) b1 b2];rfl) hk1
  next s base ix k j hz e1 e2 _=>
   obtain⟨h1,_⟩:=hR.sval e1 (by simp)
   obtain⟨u,hu2,hk1⟩:=hA.opt _ _ hk
   obtain⟨b1,b2⟩:=qP hu2
   exact au hR ha (s:=.ldx s base (ix++[(j,X.C.P.cellsOf e)])) trivial (by rw[heff hz h1 (hint e2) b1 b2,SV.val,lZ]) hk1
  next s base ix k j hz e1 e2 _=>
   obtain⟨h1,_⟩:=hR.sval e1 (by simp)
   obtain⟨u,hu2,hk1⟩:=hA.opt _ _ hk
   obtain⟨b1,b2⟩:=qP hu2
   exact au hR ha (s:=.gdx s base (ix++[(j,X.C.P.cellsOf e)])) trivial (by rw[heff hz h1 (hint e2) b1 b2,SV.val,lZ]) hk1
  next p k j hz e1 e2=>
   obtain⟨h1,_⟩:=hR.sval e1 (by simp)
   simp only[SV.val,S0.val,SL.val]at h1
   obtain⟨q,hq,hk1⟩:=hA.opt _ _ hk
   obtain⟨hg,hk2⟩:=hA.chk _ _ hk1
   unfold idP at hq
   split at hq
   next a=>
    split at hq
    next hb=>
     cases hq
     exact au hR ha (s:=.st (.leaf (.v _))) (aq hg) (heff hz h1 (hint e2) hb.1 hb.2) hk2
    ·cases hq
   ·cases hq
  ·exact absurd hk hA.fail
 next e hu=>
  simp only at hk
  split at hk
  next p k j hz e1 e2=>
   obtain⟨h1,_⟩:=hR.sval e1 (by simp)
   obtain⟨h2,_⟩:=hR.sval e2 (by simp)
   simp only[SV.val,S0.val,SL.val]at h1 h2
   obtain⟨q,hq,hk1⟩:=hA.opt _ _ hk
   have hz:¬X.C.P.cellsOf e=0:=λe=>by rw[e]at hz;cases hz
   obtain⟨a,len,cx,rfl,hb,rfl⟩:=idS_ok hq
   refine au hR ha (s:=.st (.leaf (.v _))) (aq ?_) ?_ hk1
   ·show aY _=true
    by_cases hs:a.spot=some 1<;>simp[hs,aY,noLoc,bg,co,bF,aZ,aB]
   ·simp only[ak,ho,h1,h2,dP,Am.intOf,hu,qdr hz,qdq hb,qau];rfl
  ·exact absurd hk hA.fail
 ·exact absurd hk hA.fail
def ul{C:Cfg}{t:TI}{ag:Bool}{cs ds:List SL}{off:Nat}{x:S0}(hag:aggT C.P t=some ag)(hc:cutS cs off (if ag then C.P.cellsOf t else 1)=some ds)(hx:mkS0 ag ds=some x) :
  sL C t ⟨cs.map SL.val⟩ off=some x.val/\x.cells=ds:=by
 obtain⟨h1,h2⟩:=lS hx
 refine⟨?_,h1⟩
 unfold cutS at hc
 unfold aggT at hag
 unfold sL
 split at hag
 next fs e=>
  cases hag
  simp only[if_true]at hc
  split at hc
  next hle=>
   cases hc
   rcases h2 with⟨_,h2⟩|⟨h0,_⟩
   ·rw[e]
    simp only[h2,qar,Value.agg.injEq]
    apply qaZ.1
    rw[qbY]
    simp[List.extract,qb5,qch]
   ·cases h0
  ·cases hc
 next n el e=>
  cases hag
  simp only[if_true]at hc
  split at hc
  next hle=>
   cases hc
   rcases h2 with⟨_,h2⟩|⟨h0,_⟩
   ·rw[e]
    simp only[h2,qar,Value.agg.injEq]
    apply qaZ.1
    rw[qbY]
    simp[List.extract,qb5,qch]
   ·cases h0
  ·cases hc
 next d h3 h4 e=>
  cases hag
  simp only[qaj,if_false]at hc
  split at hc
  next hle=>
   cases hc
   rcases h2 with⟨h0,_⟩|⟨_,h2⟩
   ·cases h0
   ·rw[e]
    have hlt:off<cs.length:=by omega
    rw[qbn hlt]at h2
    simp only[qb7,qcz,qat,qbc,qaY,and_true]at h2
    rw[←h2]
    have hlt':off<(⟨cs.map SL.val⟩ : Array Value).size:=by simpa using hlt
    have hget:(⟨cs.map SL.val⟩ : Array Value)[off]?=some cs[off].val:=by
     rw[qbm hlt']
     simp
    rw[hget]
    split
    next fs e2=>exact absurd (qan e2) (h3 _)
    next a b e2=>exact absurd (qan e2) (h4 _ _)
    ·rfl
    next e2=>cases e2
  ·cases hc
 ·cases hag
def field_ok(hA:AlgOk A X.C Sg X.T holds abs)(hR:Rp ev σ)(ha:abs h=σ.heap){t:TI}{x:TD}{f:Nat}(ho:o.op = .field t x f)
  (hk:holds (match X.C.P.underlying t,sval ev x with
  |some (.struct fs),.st (.agg cs)=>match fs[f]? with
   |some fd=>match (aggT X.C.P fd.type).bind (λag=>(cutS cs fd.offset (if ag then X.C.P.cellsOf fd.type else 1)).bind (mkS0 ag))with
    |some x=>setD o.dst (.st x) ev h K
    |none=>A.fail
   |none=>A.fail
  |_,_=>A.fail)):Done X holds abs o σ K:=by
 split at hk
 next fs cs hu e=>
  obtain⟨h1,g1⟩:=hR.sval e (by simp)
  split at hk
  next fd hf=>
   split at hk
   next x' hx=>
    obtain⟨ag,hag,hx⟩:=qai.1 hx
    obtain⟨ds,hc,hx⟩:=qai.1 hx
    obtain⟨h2,h3⟩:=ul hag hc hx
    refine au hR ha (s:=.st x') (λl hl=>?_) ?_ hk
    ·rw[h3]at hl
     exact g1 l ((ly hc).2 l hl)
    ·simp only[ak,ho,h1,SV.val,S0.val,qB,hu,hf,qag,h2,qau]
   ·exact absurd hk hA.fail
  ·exact absurd hk hA.fail
 ·exact absurd hk hA.fail
def vk(hA:AlgOk A X.C Sg X.T holds abs)(hR:Rp ev σ)(ha:abs h=σ.heap){t:TD}{i:Nat}(ho:o.op = .extract t i)
  (hk:holds (match sval ev t with
  | .tup xs=>match xs[i]? with
   |some x=>setD o.dst (.st x) ev h K
   |none=>A.fail
  |_=>A.fail)):Done X holds abs o σ K:=by
 split at hk
 next xs e=>
  obtain⟨h1,g1,g2⟩:=hR.sval e (by simp)
  split at hk
  next x hx=>
   refine au hR ha (s:=.st x) (g1 x (qaq hx)) ?_ hk
   simp only[ak,ho,h1,SV.val]
   rw[qdr (by simp;omega)]
   have:(⟨xs.map S0.val⟩ : Array Value)[i]?=some x.val:=by simp[hx]
   rw[this];rfl
  ·exact absurd hk hA.fail
 ·exact absurd hk hA.fail
def sw(hA:AlgOk A X.C Sg X.T holds abs)(hR:Rp ev σ)(ha:abs h=σ.heap){fn:Fn}{first cap:Array Operand}(ho:o.op = .makeFunc fn first cap)
  (hk:holds (match (generalizing:=false) fn,svals ev first.toList,svals ev cap.toList with
  | .func g,some a,some b=>A.chk (.func (.func g) ⟨ai a⟩ ⟨ai b⟩) (setD o.dst (.st (.leaf (.v (.func (.func g) ⟨ai a⟩ ⟨ai b⟩)))) ev h K)
  |_,_,_=>A.fail)):Done X holds abs o σ K:=by
 split at hk
 next g a b _ e1 e2=>
  obtain⟨h1,_⟩:=hR.svals e1
  obtain⟨h2,_⟩:=hR.svals e2
  obtain⟨hg,hk1⟩:=hA.chk _ _ hk
  refine au hR ha (s:=.st (.leaf (.v _))) (aq hg) ?_ hk1
  simp only[ak,ho,SV.val,S0.val,SL.val,qar,Eff.val.injEq,Value.func.injEq,true_and]
  refine⟨?_,?_⟩<;>apply qaZ.1<;>simp[h1,h2]
 ·exact absurd hk hA.fail
def jm(hR:Rp ev σ){r:Tg}{x:Tq}(h:optI ev r=some x):(r=none/\x=none)∨∃y k n,r=some y/\oval σ.tmps y = .int k n/\x=some n:=by
 unfold optI at h
 split at h
 ·cases h;exact .inl ⟨rfl,rfl⟩
 next y=>
  split at h
  next k n e=>
   cases h
   obtain⟨h1,_⟩:=hR.sval e (by simp)
   exact .inr ⟨y,k,n,rfl,h1,rfl⟩
  ·cases h
def bo(hR:Rp ev σ){r:Tg}{x:Tq}(h:optI ev r=some x):cH (r.map (oval σ.tmps))=some x:=by
 rcases jm hR h with⟨rfl,rfl⟩|⟨y,k,n,rfl,h1,rfl⟩
 ·rfl
 ·simp[h1,cH]
def jg(hA:AlgOk A X.C Sg X.T holds abs)(hR:Rp ev σ)(ha:abs h=σ.heap){t:TI}{r:Tg}(ho:o.op = .makeMap t r)
  (hk:holds (match lN X.C t (r.map λ_=>.int .i64 0),optI ev r with
  |true,some _=>A.new (.map [] 0) h λn h=>setD o.dst (.st (.leaf (.v (.map (some n))))) ev h K
  |_,_=>A.fail)):Done X holds abs o σ K:=by
 split at hk
 next x hh e=>
  obtain⟨h',e1,hk1⟩:=hA.new _ _ _ hk
  rw[ha]at e1 hk1
  refine cD hR e1 (s:=.st (.leaf (.v (.map (some σ.heap.length))))) (aq rfl) (f:=λH=>some (H++[.map [] 0],.map (some H.length))) ?_ rfl hk1
  have:lN X.C t (r.map (oval σ.tmps))=true:=by
   rcases jm hR e with⟨rfl,rfl⟩|⟨y,k,n,rfl,h1,rfl⟩
   ·rfl
   ·simp only[qau,lN,h1]at hh ⊢
    exact hh
  simp only[ak,ho,this,if_true]
 ·exact absurd hk hA.fail
def uO(n esz a b:Nat):aY (.slice (some ⟨n,0,tag esz⟩) a b)=true:=by
 simp[aY,noLoc,bg,co,bF,aZ,aB,tag]
def re(hA:AlgOk A X.C Sg X.T holds abs)(hR:Rp ev σ)(ha:abs h=σ.heap){t:TI}{l c:TD}(ho:o.op = .makeSlice t l c)
  (hk:holds (match X.C.P.underlying t,sval ev l,sval ev c with
  |some (.slice e),.st (.leaf (.i _ l)),.st (.leaf (.i _ c))=>match X.C.P.info? e with
   |some info=>match Nat.beq info.size 0||Nat.blt 4096 info.bytes,(ic info).bind s0Of with
    |false,some z=>A.opt (mkOk l c) λ_=>
      A.new (.cells (aD (z.cells.map SL.val) c.toNat) info.size true) h λn h=>setD o.dst (.st (.leaf (.v (.slice (some ⟨n,0,tag info.size⟩) l.toNat (c.toNat+1))))) ev h K
    |_,_=>A.fail
   |none=>A.fail
  |_,_,_=>A.fail)):Done X holds abs o σ K:=by
 split at hk
 next e k1 l' k2 c' hu e1 e2=>
  obtain⟨h1,_⟩:=hR.sval e1 (by simp)
  obtain⟨h2,_⟩:=hR.sval e2 (by simp)
  split at hk
  next info hi=>
   split at hk
   next z hz hz0=>
    obtain⟨zv,hz1,hz2⟩:=qai.1 hz0
    obtain⟨z1,z2,_⟩:=pN hz2
    obtain⟨u,hm,hk1⟩:=hA.opt _ _ hk
    obtain⟨h',n1,hk2⟩:=hA.new _ _ _ hk1
    rw[ha]at n1 hk2
    unfold mkOk at hm
    split at hm
    next hmm=>
     simp only[qbI]at hz
     have hs0:¬info.size=0:=λe=>by rw[e]at hz;cases hz.1
     have hby:info.bytes<=4096:=by
      have:=hz.2
      rw[←qaS,qaU]at this
      omega
     refine cD hR n1 (s:=.st (.leaf (.v _))) (aq (uO _ _ _ _)) (f:=cO X.C t (.int k1 l') (.int k2 c')) ?_ ?_ hk2
     ·simp only[ak,ho,h1,h2];rfl
     ·simp only[cO,Am.intOf,hu,hi,qdr hs0,hz1]
      rw[qdq ⟨hmm.1,hmm.2.1,hmm.2.2,hby⟩,←z1,S0.cells_val z2]
      rfl
    ·cases hm
   ·exact absurd hk hA.fail
  ·exact absurd hk hA.fail
 ·exact absurd hk hA.fail
def oE(hA:AlgOk A X.C Sg X.T holds abs)(hR:Rp ev σ)(ha:abs h=σ.heap){t:TI}{n:Nat}{ps:Array (Nat×Operand)}(ho:o.op = .buildSlice t n ps)
  (hk:holds (match X.C.P.underlying t,svals ev (ps.toList.map (·.2))with
  |some (.slice e),some xs=>match X.C.P.info? e with
   |some info=>match Nat.beq info.size 0||Nat.blt 16777216 (n*info.size),(ic info).bind s0Of with
    |false,some z=>match oU (λi=>some (i*info.size,info.size)) (List.replicate n z.cells).flatten ((ps.toList.map (·.1)).zip xs)with
     |some cs=>A.new (.cells (cs.map SL.val) info.size true) h λm h=>setD o.dst (.st (.leaf (.v (.slice (some ⟨m,0,tag info.size⟩) n (n+1))))) ev h K
     |none=>A.fail
    |_,_=>A.fail
   |none=>A.fail
  |_,_=>A.fail)):Done X holds abs o σ K:=by
 split at hk
 next e xs hu e1=>
  split at hk
  next info hi=>
   split at hk
   next z hz hz0=>
    obtain⟨zv,hz1,hz2⟩:=qai.1 hz0
    obtain⟨z1,z2,_⟩:=pN hz2
    split at hk
    next cs hf=>
     obtain⟨h',n1,hk1⟩:=hA.new _ _ _ hk
     rw[ha]at n1 hk1
     obtain⟨hv,hg⟩:=hR.svals e1
     have hzg:∀c∈(List.replicate n z.cells).flatten,c.good:=by
      intro c hc
      obtain⟨l,hl,hc⟩:=List.mem_flatten.1 hc
      rw[List.mem_replicate]at hl
      rw[hl.2]at hc
      exact z2 c hc
     have hfill:=oV _ _ _ _ (qc (is:=ps.toList.map (·.1)) hg) hf
     simp only[qbI]at hz
     obtain⟨ha1,ha3⟩:=hz
     have ha1:¬info.size=0:=λe=>by rw[e]at ha1;cases ha1
     have ha3:¬n*info.size > 16777216:=by rw[←qaS,qaU]at ha3;omega
     refine cD hR n1 (s:=.st (.leaf (.v _))) (aq (uO _ _ _ _))
      (f:=λH=>some (H++[.cells (cs.map SL.val) info.size true],.slice (some ⟨H.length,0,tag info.size⟩) n (n+1))) ?_ rfl hk1
     have hall:(ps.toList.all λp=>(oval σ.tmps p.2).cells.toList.all aI)=true:=by
      rw[qab]
      intro p hp
      have hm:oval σ.tmps p.2∈ai xs:=by
       rw[←hv]
       exact qaN.2 ⟨p.2,qaN.2 ⟨p,hp,rfl⟩,rfl⟩
      simp only[ai,qaN]at hm
      obtain⟨x,hx,e⟩:=hm
      rw[←e]
      exact S0.cells_ok (hg x hx)
     have hflat:(aD zv.cells.toList n).toArray=⟨((List.replicate n z.cells).flatten).map SL.val⟩:=by
      rw[←z1,S0.cells_val z2]
      simp[aD,List.map_flatten]
     simp only[ak,ho,hall,if_true,dV,hu,hi]
     rw[qdr ha1,qdr ha3]
     simp only[hz1]
     rw[ot hv,hflat,hfill]
     rfl
    ·exact absurd hk hA.fail
   ·exact absurd hk hA.fail
  ·exact absurd hk hA.fail
 ·exact absurd hk hA.fail
end
end Sx
namespace Sx
section
variable [Val] [Kno] {R HT:Type} {A:Alg R HT} {X:Ctxt} {Sg:Tc} {holds:R->Prop} {abs:HT->Ts}
variable {ev:Env} {σ:St} {h:HT} {o:Oper} {K:KN R HT}
def cutS_len{cs ds:List SL}{off n:Nat}(h:cutS cs off n=some ds):ds.length=n:=by
 unfold cutS at h
 split at h
 next hle=>cases h;simp;omega
 ·cases h
def mk_any{ag:Bool}{ds:List SL}{n:Nat}(hl:ds.length=(if ag then n else 1)):∃x,mkS0 ag ds=some x:=by
 cases ag with
 |true=>exact⟨_,rfl⟩
 |false=>
  simp only[qaj,if_false]at hl
  match ds,hl with
  | [d],_=>exact⟨_,rfl⟩
def index_ok(hA:AlgOk A X.C Sg X.T holds abs)(hR:Rp ev σ)(ha:abs h=σ.heap){t:TI}{x i:TD}{hs:TG}(ho:o.op = .index t x i)
  (hk:holds (match X.C.P.underlying t,sval ev x,sval ev i with
  |some (.array len e),.st (.agg cs),.st (.leaf (.i _ j))=>match aggT X.C.P e with
   |some ag=>match eqB ag (gZ (kj hs))&&qh cs (skKs (kj hs)) 0 [(j,X.C.P.cellsOf e)]&&Nat.beq (if ag then X.C.P.cellsOf e else 1) (skKs (kj hs)).length with
    |false=>A.fail
    |true=>A.opt (inB len j) λ_=>A.opt (mR (cs.map SL.lf) 0 [(j,X.C.P.cellsOf e)] (if ag then X.C.P.cellsOf e else 1)) λls=>setL A o.dst (kj hs) ls ev h K
   |none=>A.fail
  |some .string,.st (.leaf (.v (.string s))),.st (.leaf (.i _ j))=>A.opt (strAt s j) λb=>setD o.dst (.st (.leaf (.i .u8 b))) ev h K
  |_,_,_=>A.fail)):Done X holds abs o σ K:=by
 split at hk
 next len e cs k j hu e1 e2=>
  obtain⟨h1,g1⟩:=hR.sval e1 (by simp)
  obtain⟨h2,_⟩:=hR.sval e2 (by simp)
  split at hk
  next ag hag=>
   split at hk
   ·exact absurd hk hA.fail
   next hc=>
    simp only[qaa]at hc
    obtain⟨⟨c1,c2⟩,c3⟩:=hc
    have c1:=eqB_eq c1
    have c3:=qac c3
    obtain⟨u,hb,hk1⟩:=hA.opt _ _ hk
    obtain⟨b1,b2⟩:=qP hb
    obtain⟨ls,hp,hk2⟩:=hA.opt _ _ hk1
    obtain⟨ds,hd,rfl⟩:=um hp
    have hlen:ds.length=(if ag then X.C.P.cellsOf e else 1):=cutS_len hd
    obtain⟨y,hy⟩:=mk_any hlen
    obtain⟨p1,p2⟩:=ul hag hd hy
    obtain⟨m1,m2⟩:=lS hy
    rw[c3]at hd
    rw[c1]at m2
    obtain⟨z,hz1,hz2,hk3⟩:=setL_ok hA (kq c2 hd) (λc hc=>g1 c ((ly hd).2 c hc)) m2 hk2
    refine au hR ha (s:=.st z) hz2 ?_ hk3
    have hi:jO X.C t (.agg ⟨cs.map SL.val⟩) (.int k j)=some y.val:=by
     have:offX 0 [(j,X.C.P.cellsOf e)]=j.toNat*X.C.P.cellsOf e:=by simp[offX]
     rw[this]at p1
     simp only[jO,Am.intOf,hu,qdq (And.intro b1 b2)]
     exact p1
    have h1:oval σ.tmps x = .agg ⟨cs.map SL.val⟩:=h1
    have h2:oval σ.tmps i = .int k j:=h2
    simp only[ak,ho,h1,h2,hi,qau]
    rw[←hz1];rfl
  ·exact absurd hk hA.fail
 next s k j hu e1 e2=>
  obtain⟨h1,g1⟩:=hR.sval e1 (by simp)
  obtain⟨h2,_⟩:=hR.sval e2 (by simp)
  obtain⟨b,hb,hk1⟩:=hA.opt _ _ hk
  obtain⟨q1,q2⟩:=strAt_ok hb
  have h1:oval σ.tmps x = .string s:=h1
  have h2:oval σ.tmps i = .int k j:=h2
  refine au hR ha (s:=.st (.leaf (.i .u8 b))) (λl hl=>?_) ?_ hk1
  ·simp only[S0.cells,qay]at hl
   subst hl;trivial
  ·have hi:jO X.C t (.string s) (.int k j)=some (.int .u8 b):=by
    simp only[jO,Am.intOf,hu,qdq q1]
    exact q2
   simp only[ak,ho,h1,h2,hi,qau]
   rfl
 ·exact absurd hk hA.fail
def rT{P:TC}{lo hi mx:Ti}(h1:∀v,lo=some v->∃k,v = .int k 0)(h2:∀v,hi=some v->∃k,v = .int k 0)(h3:∀v,mx=some v->∃k,v = .int k 0)(h4:mx=none∨hi.isSome=true)(w:World) :
  (Instr.sliceBounds true 0 0 lo hi mx).run P w = .ok (0,0,0) w:=by
 have hb:∀(k:TF) (c:BoundsCode),(Instr.sliceBound (.int k 0) 0 c).run P w = .ok 0 w:=λk c=>by
  simp[Instr.sliceBound,asIntOf]
 unfold Instr.sliceBounds
 cases mx with
 |none=>
  cases hi with
  |none=>
   cases lo with
   |none=>simp
   |some l=>obtain⟨k,rfl⟩:=h1 _ rfl;simp[hb]
  |some u=>
   obtain⟨k,rfl⟩:=h2 _ rfl
   cases lo with
   |none=>simp[hb]
   |some l=>obtain⟨k,rfl⟩:=h1 _ rfl;simp[hb]
 |some m=>
  obtain⟨k,rfl⟩:=h3 _ rfl
  cases hi with
  |none=>rcases h4 with h|h<;>simp at h
  |some u=>
   obtain⟨k,rfl⟩:=h2 _ rfl
   cases lo with
   |none=>simp[hb]
   |some l=>obtain⟨k,rfl⟩:=h1 _ rfl;simp[hb]
def sliceE_ok(hA:AlgOk A X.C Sg X.T holds abs)(hR:Rp ev σ)(ha:abs h=σ.heap){t:TI}{x:TD}{lo hi mx:Tg}(ho:o.op = .slice t x lo hi mx)
  (hk:holds (match X.C.P.underlying t,sval ev x,optI ev lo,optI ev hi,optI ev mx with
  |some (.slice e),.st (.leaf (.v x)),some lo,some hi,some mx=>match Nat.beq (X.C.P.cellsOf e) 0 with
   |true=>A.fail
   |false=>A.opt (slS (X.C.P.cellsOf e) x lo hi mx) λq=>A.chk q (setD o.dst (.st (.leaf (.v q))) ev h K)
  |some (.array _ e),.gad g off,some lo,some hi,some mx=>match Nat.beq (X.C.P.cellsOf e) 0 with
   |true=>A.fail
   |false=>A.opt (cj X.C t ⟨g,off,some 1⟩ (lo.map (.int .i64)) (hi.map (.int .i64)) (mx.map (.int .i64)) []) λq=>A.chk q (setD o.dst (.st (.leaf (.v q))) ev h K)
  |some (.array n e),.st (.leaf (.v p)),some lo,some hi,some mx=>match Nat.beq (X.C.P.cellsOf e) 0 with
   |true=>A.fail
   |false=>A.peek (.fn (slAG n (X.C.P.cellsOf e) p lo hi mx)) h λcs=>setC A o.dst (.leaf .v) cs ev h K
  |_,_,_,_,_=>A.fail)):Done X holds abs o σ K:=by
 split at hk
 next e v lo' hi' mx' hu e1 e2 e3 e4=>
  obtain⟨h1,_⟩:=hR.sval e1 (by simp)
  simp only[SV.val,S0.val,SL.val]at h1
  split at hk
  ·exact absurd hk hA.fail
  next hz=>
   have hz:¬X.C.P.cellsOf e=0:=λe=>by rw[e]at hz;cases hz
   obtain⟨q,hq,hk1⟩:=hA.opt _ _ hk
   obtain⟨hg,hk2⟩:=hA.chk _ _ hk1
   have b2:=bo hR e2
   have b3:=bo hR e3
   have b4:=bo hR e4
   unfold slS at hq
   split at hq
   next a len cx=>
    split at hq
    ·cases hq
    next hsp=>
     split at hq
     next hb=>
      cases hq
      refine au hR ha (s:=.st (.leaf (.v _))) (aq hg) ?_ hk2
      simp only[ak,ho,h1,uG,b2,b3,b4,hu,qdr hz,qdr hsp,qdq hb,mb]
      rfl
     ·cases hq
   ·split at hq
    next hb=>
     cases hq
     have hint:∀ {r:Tg} {x:Tq},optI ev r=some x->x.getD 0=0->∀v,r.map (oval σ.tmps)=some v->∃k,v = .int k 0:=by
      intro r x hx h0 v hv
      rcases jm hR hx with⟨rfl,rfl⟩|⟨y,k,n,rfl,h1,rfl⟩
      ·cases hv
      ·simp only[qau,qar,h1]at hv
       simp at h0
       subst h0
       exact⟨k,hv.symm⟩
     have hplain:∀ {r:Tg} {x:Tq},optI ev r=some x->∀y,r=some y->plain (oval σ.tmps y)=true/\den (oval σ.tmps y)=oval σ.tmps y:=by
      intro r x hx y hy
      rcases jm hR hx with⟨rfl,rfl⟩|⟨y',k,n,rfl,h1,rfl⟩
      ·cases hy
      ·cases hy;rw[h1];exact⟨rfl,rfl⟩
     have hden:∀ {r:Tg} {x:Tq},optI ev r=some x->r.map (λy=>den (oval σ.tmps y))=r.map (oval σ.tmps):=by
      intro r x hx
      cases r with
      |none=>rfl
      |some y=>simp[(hplain hx y rfl).2]
     refine bG hR ha (s:=.st (.leaf (.v (.slice none 0 0)))) (aq rfl) ⟨by rw[ho];rfl,?_,rfl,λw=>?_⟩ hk2
     ·rw[ho]
      simp only[Op.operands,qbz,qdd,qaa]
      refine⟨⟨⟨by simp[h1];rfl,?_⟩,?_⟩,?_⟩
      ·cases lo with
       |none=>rfl
       |some y=>simp[(hplain e2 y rfl).1]
      ·cases hi with
       |none=>rfl
       |some y=>simp[(hplain e3 y rfl).1]
      ·cases mx with
       |none=>rfl
       |some y=>simp[(hplain e4 y rfl).1]
     ·have hm:mx.map (oval σ.tmps)=none∨(hi.map (oval σ.tmps)).isSome=true:=by
       rcases hb.2.2.2 with hm|hm
       ·left
        rcases jm hR e4 with⟨rfl,rfl⟩|⟨y',k,n,rfl,h1,rfl⟩
        ·rfl
        ·cases hm
       ·right
        rcases jm hR e3 with⟨rfl,rfl⟩|⟨y',k,n,rfl,h1,rfl⟩
        ·cases hm
        ·rfl
      have hbd:=rT (P:=X.C.P) (hint e2 hb.1) (hint e3 hb.2.1) (hint e4 hb.2.2.1) hm w
      have hsz:∃i,X.C.P.info? e=some i:=by
       unfold Program.cellsOf at hz
       cases hi:X.C.P.info? e with
       |none=>rw[hi]at hz;exact absurd rfl hz
       |some i=>exact⟨i,rfl⟩
      obtain⟨i,hi⟩:=hsz
      have hd0:den (.slice none 0 0) = .slice none 0 0:=rfl
      simp only[execOp,ho,h1,hden e2,hden e3,hden e4,hd0,Instr.sliceAt,Instr.slice,Sem.run_bind,run_underlying hu,Result.andThen_ok,hbd,aO hi,Sem.run_pure]
      simp only[SV.val,S0.val,SL.val,hd0]
      simp
    ·cases hq
   ·cases hq
 next n e g off lo' hi' mx' hu e1 e2 e3 e4=>
  obtain⟨h1,_⟩:=hR.sval e1 (by simp)
  simp only[SV.val]at h1
  split at hk
  ·exact absurd hk hA.fail
  ·obtain⟨q,hq,hk1⟩:=hA.opt _ _ hk
   obtain⟨hg,hk2⟩:=hA.chk _ _ hk1
   refine au hR ha (s:=.st (.leaf (.v q))) (aq hg) ?_ hk2
   have hb:∀ {r:Tg} {x:Tq},optI ev r=some x->cH (r.map (oval σ.tmps))=cH (x.map (.int .i64)):=by
    intro r x hx
    rw[bo hR hx]
    cases x<;>rfl
   have:cj X.C t ⟨g,off,some 1⟩ (lo.map (oval σ.tmps)) (hi.map (oval σ.tmps)) (mx.map (oval σ.tmps)) []=some q:=by
    rw[←hq]
    unfold cj dU
    rw[hb e2,hb e3,hb e4]
   simp only[ak,ho,h1,if_true,this,qau];rfl
 next n e p lo' hi' mx' hu e1 e2 e3 e4=>
  obtain⟨h1,hgd⟩:=hR.sval e1 (by simp)
  clear hgd e1
  simp only[SV.val,S0.val,SL.val]at h1
  split at hk
  ·exact absurd hk hA.fail
  next hz=>
   have hz:¬X.C.P.cellsOf e=0:=λe=>by rw[e]at hz;cases hz
   obtain⟨cs,hl,hk1⟩:=hA.peek _ _ _ hk
   simp only[Pk.run]at hl
   rw[ha]at hl
   have hb:∀ {r:Tg} {x:Tq},optI ev r=some x->cH (r.map (oval σ.tmps))=cH (x.map (.int .i64)):=by
    intro r x hx
    rw[bo hR hx]
    cases x<;>rfl
   unfold slAG at hl
   split at hl
   next a=>
    split at hl
    next hsp=>
     split at hl
     next l hh m vs e' rw' hab hblk=>
      split at hl
      next hc=>
       simp only[qaa]at hc
       have he':=qac hc.1
       have hle:=Nat.le_of_ble_eq_true hc.2
       subst he'
       simp only[fq,qar]at hl
       subst hl
       obtain⟨x,r,r1,r2,r3,hk2⟩:=mF hA hk1
       obtain⟨hr,hk3⟩:=hA.uc0 _ _ hk2
       rw[hr,qa2]at r1
       have hx:x.val = .slice (some ⟨a.block,a.off+l*X.C.P.cellsOf e,tag (X.C.P.cellsOf e)⟩) (hh - l) (m - l+1):=by
        cases x with
        |agg _=>cases r2
        |leaf w=>simpa[S0.cells,S0.val]using r1.symm
       refine fG hR ha (s:=.st x) r3 (f:=cj X.C t a (lo.map (oval σ.tmps)) (hi.map (oval σ.tmps)) (mx.map (oval σ.tmps))) ?_ ?_ hk3
       ·simp only[ak,ho,h1]
        rw[qdr (by rw[hsp];simp)]
       ·have hab':dU n (lo.map (oval σ.tmps)) (hi.map (oval σ.tmps)) (mx.map (oval σ.tmps))=some (l,hh,m):=by
         rw[←hab]
         unfold dU
         rw[hb e2,hb e3,hb e4]
        have hblk':σ.heap[a.block]?=some (.cells vs (X.C.P.cellsOf e) rw'):=hblk
        unfold cj
        simp only[hu,qdr hz,hab']
        rw[qdr (by rw[hsp];simp),qdq hsp,hblk']
        simp only
        rw[qdq (by simpa using hle)]
        show _=some x.val
        rw[hx]
      ·cases hl
     ·cases hl
    ·cases hl
   ·cases hl
 ·exact absurd hk hA.fail
def lj{ag:Bool}{v:Value}{cs:Tl}(h:fz ag v=some cs):mkV ag cs v:=by
 unfold fz at h
 split at h
 ·cases h;exact .inl ⟨rfl,rfl⟩
 ·cases h
 ·cases h
 ·cases h;exact .inr ⟨rfl,rfl⟩
def lR(H:Ts)(id:Nat):mapG (λi=>H[i]?) id=hmap H id:=rfl
def luG_ok{C:Cfg}{t kt et:TI}{ag ok:Bool}{z m k:Value}{H:Ts}{cs:Tl}(hu:C.P.underlying t=some (.map kt et))(hz:cZ C.P et=some z)
  (hl:luG C kt ag z m k ok (λi=>H[i]?)=some cs):∃v b cs0,fz ag v=some cs0/\cs=cs0++(if ok then [.bool b]else [])/\bW C t m k ok H=some (if ok then .tuple #[v,.bool b]else v):=by
 unfold luG at hl
 simp only[kG]at hl
 unfold bW
 rw[hu]
 simp only
 split at hl
 ·cases hl
 next hko=>
  have hko:¬(!eo C.P kt k)=true:=by
   have:=pn (P:=C.P) (kt:=kt) (k:=k) (by simpa using hko)
   simpa using this
  rw[qdr hko]
  simp only[hz]
  split at hl
  ·obtain⟨cs0,h1,h2⟩:=qad.1 hl
   exact⟨z,false,cs0,h1,h2.symm,rfl⟩
  next id=>
   rw[lR]at hl
   split at hl
   ·cases hl
   next es c hm=>
    simp only[hm]
    split at hl
    ·cases hl
    next hf=>
     rw[hf]
     obtain⟨cs0,h1,h2⟩:=qad.1 hl
     exact⟨z,false,cs0,h1,h2.symm,rfl⟩
    next i hf=>
     rw[hf]
     simp only
     obtain⟨cs0,h1,h2⟩:=qad.1 hl
     obtain⟨v,h3,h4⟩:=qai.1 h1
     exact⟨v,true,cs0,h4,h2.symm,by rw[h3];rfl⟩
  ·cases hl
def vy{C:Cfg}{pts:Tz}{ρ:Tf}{t:TI}{m k:TD}{ok:Bool}(ho:o.op = .lookup t m k ok)(H:Ts){v:Value}(hv:bW C t (ρ m) (ρ k) ok H=some v) :
  ak C pts ρ o=some (.val v)∨∃f,ak C pts ρ o=some (.hget f)/\f H=some v:=by
 simp only[ak,ho]
 split
 next hm=>
  left
  rw[hm]at hv
  have:bW C t (.map none) (ρ k) ok []=bW C t (.map none) (ρ k) ok H:=rfl
  rw[this,hv];rfl
 ·right
  exact⟨_,rfl,hv⟩
def qu(hR:Rp ev σ)(ha:abs h=σ.heap){s:SV}(hs:s.gd){t:TI}{m k:TD}{ok:Bool}(ho:o.op = .lookup t m k ok)
  (hv:bW X.C t (oval σ.tmps m) (oval σ.tmps k) ok σ.heap=some s.val) (hk:holds (setD o.dst s ev h K)):Done X holds abs o σ K:=by
 rcases vy (pts:=X.pts) ho σ.heap hv with h1|⟨f,h1,h2⟩
 ·exact au hR ha hs h1 hk
 ·exact fG hR ha hs h1 h2 hk
def look_ok(hA:AlgOk A X.C Sg X.T holds abs)(hR:Rp ev σ)(ha:abs h=σ.heap){t:TI}{m k:TD}{ok:Bool}{hs:TG}(ho:o.op = .lookup t m k ok)
  (hk:holds (match X.C.P.underlying t,sval ev m,sval0 ev k with
  |some (.map kt et),.st (.leaf (.v m)),some k=>match cZ X.C.P et with
   |some z=>match (generalizing:=false) hs,ok with
    | [sk],false=>A.peek (.fn (luG X.C kt (gZ sk) z m k.val false)) h λcs=>ucS A sk cs λx r=>A.uc0 r (setD o.dst (.st x) ev h K)
    | [sk,.leaf .b],true=>A.peek (.fn (luG X.C kt (gZ sk) z m k.val true)) h λcs=>ucS A sk cs λx r=>A.ucB r λt r=>A.uc0 r (setD o.dst (.tup [x,.leaf (.b t)]) ev h K)
    |_,_=>A.fail
   |none=>A.fail
  |_,_,_=>A.fail)):Done X holds abs o σ K:=by
 split at hk
 next kt et mv kv hu e1 e2=>
  obtain⟨h1,_⟩:=hR.sval e1 (by simp)
  obtain⟨h2,_⟩:=hR.sval0 e2
  simp only[SV.val,S0.val,SL.val]at h1
  split at hk
  next z hz=>
   split at hk
   next sk=>
    obtain⟨cs,hl,hk1⟩:=hA.peek _ _ _ hk
    simp only[Pk.run]at hl
    rw[ha]at hl
    obtain⟨v,b,cs0,q1,q2,q3⟩:=luG_ok hu hz hl
    obtain⟨x,r,r1,r2,r3,hk2⟩:=mF hA hk1
    obtain⟨hr,hk3⟩:=hA.uc0 _ _ hk2
    rw[hr,qa2]at r1
    simp only[qaj,if_false,qa2]at q2 q3
    have hv:=lj q1
    rw[←q2,r1]at hv
    refine qu hR ha (s:=.st x) r3 ho ?_ hk3
    rw[h1,h2,q3,←nG r2 hv];rfl
   next sk=>
    obtain⟨cs,hl,hk1⟩:=hA.peek _ _ _ hk
    simp only[Pk.run]at hl
    rw[ha]at hl
    obtain⟨v,b,cs0,q1,q2,q3⟩:=luG_ok hu hz hl
    obtain⟨x,r,r1,r2,r3,hk2⟩:=mF hA hk1
    obtain⟨t',r',r4,hk3⟩:=hA.ucB _ _ hk2
    obtain⟨hr,hk4⟩:=hA.uc0 _ _ hk3
    simp only[if_true]at q2 q3
    rw[r4,hr,q2]at r1
    obtain⟨w1,w2⟩:=List.append_inj' r1 rfl
    simp only[qaY,Value.bool.injEq,and_true]at w2
    have hv:=lj q1
    rw[w1]at hv
    refine qu hR ha (s:=.tup [x,.leaf (.b t')]) ⟨λy hy=>?_,qam 2⟩ ho ?_ hk4
    ·simp only[qap,qcF,or_false]at hy
     rcases hy with rfl|rfl
     ·exact r3
     ·exact aq trivial
    ·rw[h1,h2,q3,←nG r2 hv,w2];rfl
   ·exact absurd hk hA.fail
  ·exact absurd hk hA.fail
 ·exact absurd hk hA.fail
def muG_ok{C:Cfg}{t kt et:TI}{m k v:Value}{H:Ts}{n:Nat}{acts:List Act1}{cs:Tl}(hu:C.P.underlying t=some (.map kt et))(hv1:noLoc v=true)(hv2:aB v=false)
  (hl:muG C kt m k v (λi=>H[i]?) n=some (acts,cs)):bL C t m k v H=some (fk H acts,undef):=by
 unfold muG at hl
 simp only[kG]at hl
 unfold bL
 split at hl
 next id=>
  rw[hu]
  simp only
  split at hl
  ·cases hl
  next hko=>
   have hko:eo C.P kt k=true:=pn (by simpa using hko)
   rw[qdr (by simp[hko,hv1,hv2])]
   rw[lR]at hl
   split at hl
   ·cases hl
   next es c hm=>
    simp only[hm]
    split at hl
    ·cases hl
    next hf=>
     rw[hf]
     cases hl;rfl
    next i hf=>
     rw[hf]
     simp only
     split at hl
     next hb=>
      rw[qdq hb]
      cases hl;rfl
     ·cases hl
 ·cases hl
def tW(hA:AlgOk A X.C Sg X.T holds abs)(hR:Rp ev σ)(ha:abs h=σ.heap){t:TI}{m k v:TD}(ho:o.op = .mapUpdate t m k v∨o.op = .insert t m k v)
  (hk:holds (match X.C.P.underlying t,sval ev m,sval0 ev k,sval0 ev v with
  |some (.map kt _),.st (.leaf (.v m)),some k,some v=>A.heap (.fn (muG X.C kt m k.val v.val)) h λ_ h=>setD o.dst .un ev h K
  |_,_,_,_=>A.fail)):Done X holds abs o σ K:=by
 split at hk
 next kt et mv kv vv hu e1 e2 e3=>
  obtain⟨h1,_⟩:=hR.sval e1 (by simp)
  obtain⟨h2,_⟩:=hR.sval0 e2
  obtain⟨h3,g3⟩:=hR.sval0 e3
  simp only[SV.val,S0.val,SL.val]at h1
  obtain⟨acts,cs,h',q1,q2,hk1⟩:=hA.heap _ _ _ hk
  simp only[Hp.run]at q1
  rw[ha]at q1 q2
  refine cD hR q2 (s:=.un) trivial (f:=bL X.C t mv kv.val vv.val) ?_ (muG_ok hu (S0.noLoc g3) (S0.not_tuple g3) q1) hk1
  rcases ho with ho|ho<;>simp only[ak,ho,h1,h2,h3]
 ·exact absurd hk hA.fail
def meG_ok{C:Cfg}{t kt et:TI}{ag:Bool}{z m k:Value}{H:Ts}{n:Nat}{acts:List Act1}{cs:Tl}(hu:C.P.underlying t=some (.map kt et))(hz:cZ C.P et=some z)
  (hl:meG C kt ag z m k (λi=>H[i]?) n=some (acts,cs)):∃v cs0 c,fz ag v=some cs0/\cs=cs0++[.int .i64 c]/\bK C t m k H=some (fk H acts,.tuple #[v,.int .i64 c]):=by
 unfold meG at hl
 simp only[kG]at hl
 unfold bK
 split at hl
 next id=>
  rw[hu]
  simp only
  split at hl
  ·cases hl
  next hko=>
   have hko:¬(!eo C.P kt k)=true:=by
    have:=pn (P:=C.P) (kt:=kt) (k:=k) (by simpa using hko)
    simpa using this
   rw[qdr hko]
   rw[lR]at hl
   split at hl
   ·cases hl
   next es c hm=>
    simp only[hm]
    split at hl
    ·cases hl
    next hf=>
     rw[hf]
     simp only[hz]
     obtain⟨cs0,h1,h2⟩:=qad.1 hl
     cases h2
     exact⟨z,cs0,_,h1,rfl,rfl⟩
    next i hf=>
     rw[hf]
     simp only
     split at hl
     ·cases hl
     next e he=>
      rw[he]
      simp only
      split at hl
      next hb=>
       rw[qdq hb]
       obtain⟨cs0,h1,h2⟩:=qad.1 hl
       cases h2
       exact⟨e.val,cs0,_,h1,rfl,rfl⟩
      ·cases hl
 ·cases hl
def mapEn_ok(hA:AlgOk A X.C Sg X.T holds abs)(hR:Rp ev σ)(ha:abs h=σ.heap){t:TI}{m k:TD}{hs:TG}(ho:o.op = .mapEntry t m k)
  (hk:holds (match X.C.P.underlying t,sval ev m,sval0 ev k with
  |some (.map kt et),.st (.leaf (.v m)),some k=>match cZ X.C.P et with
   |some z=>match hs with
    | [sk,.leaf (.i .i64)]=>A.heap (.fn (meG X.C kt (gZ sk) z m k.val)) h λcs h=>ucS A sk cs λx r=>A.ucI .i64 r λn r=>A.uc0 r (setD o.dst (.tup [x,.leaf (.i .i64 n)]) ev h K)
    |_=>A.fail
   |none=>A.fail
  |_,_,_=>A.fail)):Done X holds abs o σ K:=by
 split at hk
 next kt et mv kv hu e1 e2=>
  obtain⟨h1,_⟩:=hR.sval e1 (by simp)
  obtain⟨h2,_⟩:=hR.sval0 e2
  simp only[SV.val,S0.val,SL.val]at h1
  split at hk
  next z hz=>
   split at hk
   next sk=>
    obtain⟨acts,cs,h',q1,q2,hk1⟩:=hA.heap _ _ _ hk
    simp only[Hp.run]at q1
    rw[ha]at q1 q2
    obtain⟨v,cs0,c,w1,w2,w3⟩:=meG_ok hu hz q1
    obtain⟨x,r,r1,r2,r3,hk2⟩:=mF hA hk1
    obtain⟨n,r',r4,hk3⟩:=hA.ucI _ _ _ hk2
    obtain⟨hr,hk4⟩:=hA.uc0 _ _ hk3
    rw[r4,hr,w2]at r1
    obtain⟨u1,u2⟩:=List.append_inj' r1 rfl
    simp only[qaY,Value.int.injEq,true_and,and_true]at u2
    have hv:=lj w1
    rw[u1]at hv
    refine cD hR q2 (s:=.tup [x,.leaf (.i .i64 n)]) ⟨λy hy=>?_,qam 2⟩ (f:=bK X.C t mv kv.val) ?_ ?_ hk4
    ·simp only[qap,qcF,or_false]at hy
     rcases hy with rfl|rfl
     ·exact r3
     ·exact aq trivial
    ·simp only[ak,ho,h1,h2]
    ·rw[w3,←nG r2 hv,u2];rfl
   ·exact absurd hk hA.fail
  ·exact absurd hk hA.fail
 ·exact absurd hk hA.fail
def esG_ok{m v:Value}{b:Int}{k:TF}{H:Ts}{n:Nat}{acts:List Act1}{cs:Tl}(hv1:noLoc v=true)(hv2:aB v=false)
  (hl:esG m b v (λi=>H[i]?) n=some (acts,cs)):bV m (.int k b) v H=some (fk H acts,undef):=by
 unfold esG at hl
 unfold bV
 split at hl
 next id=>
  simp only[Am.intOf]
  rw[qdr (by simp[hv1,hv2])]
  rw[lR]at hl
  split at hl
  ·cases hl
  next es c hm=>
   simp only[hm]
   split at hl
   next i hf=>
    rw[hf]
    cases hl;rfl
   ·cases hl
 ·cases hl
def entSt_ok(hA:AlgOk A X.C Sg X.T holds abs)(hR:Rp ev σ)(ha:abs h=σ.heap){t:TI}{m s v:TD}(ho:o.op = .entryStore t m s v)
  (hk:holds (match sval ev m,sval ev s,sval0 ev v with
  | .st (.leaf (.v m)),.st (.leaf (.i _ b)),some v=>A.heap (.fn (esG m b v.val)) h λ_ h=>setD o.dst .un ev h K
  |_,_,_=>A.fail)):Done X holds abs o σ K:=by
 split at hk
 next mv k b vv e1 e2 e3=>
  obtain⟨h1,_⟩:=hR.sval e1 (by simp)
  obtain⟨h2,_⟩:=hR.sval e2 (by simp)
  obtain⟨h3,g3⟩:=hR.sval0 e3
  simp only[SV.val,S0.val,SL.val]at h1 h2
  obtain⟨acts,cs,h',q1,q2,hk1⟩:=hA.heap _ _ _ hk
  simp only[Hp.run]at q1
  rw[ha]at q1 q2
  refine cD hR q2 (s:=.un) trivial (f:=bV mv (.int k b) vv.val) ?_ (esG_ok (S0.noLoc g3) (S0.not_tuple g3) q1) hk1
  simp only[ak,ho,h1,h2,h3]
 ·exact absurd hk hA.fail
def deG_ok{C:Cfg}{t kt et:TI}{m k:Value}{H:Ts}{n:Nat}{acts:List Act1}{cs:Tl}(hu:C.P.underlying t=some (.map kt et))
  (hl:deG C kt m k (λi=>H[i]?) n=some (acts,cs)):db C t m k H=some (fk H acts,undef):=by
 unfold deG at hl
 simp only[kG]at hl
 unfold db
 rw[hu]
 simp only
 split at hl
 ·cases hl
 next hko=>
  have hko:¬(!eo C.P kt k)=true:=by
   have:=pn (P:=C.P) (kt:=kt) (k:=k) (by simpa using hko)
   simpa using this
  rw[qdr hko]
  split at hl
  ·cases hl;rfl
  next id=>
   rw[lR]at hl
   split at hl
   ·cases hl
   next es c hm=>
    simp only[hm]
    split at hl
    ·cases hl
    next hf=>
     rw[hf];cases hl;rfl
    next i hf=>
     rw[hf];cases hl;rfl
  ·cases hl
end
end Sx
namespace Sx
section
variable [Val] [Kno] {R HT:Type} {A:Alg R HT} {X:Ctxt} {Sg:Tc} {holds:R->Prop} {abs:HT->Ts}
variable {ev:Env} {σ:St} {h:HT} {o:Oper} {K:KN R HT}
def slG_at(C:Cfg)(esz:Nat)(H:Ts)(x:Value):slG C esz (λi=>H[i]?) x=ce C H esz x:=rfl
def apG_ok{C:Cfg}{t e:TI}{info:TypeInfo}{s x:Value}{H:Ts}{acts:List Act1}{cs:Tl}(hu:C.P.underlying t=some (.slice e))(hi:C.P.info? e=some info)(h0:¬info.size=0)
  (hz:(ic info).isNone=false) (hl:apG C info.size info.bytes s x (λi=>H[i]?) H.length=some (acts,cs)):∃v,cs=[v]/\eC C t s x H=some (fk H acts,v):=by
 unfold apG at hl
 unfold eC
 simp only[hu,hi,qdr h0,hz,qaj,if_false]
 rw[slG_at]at hl
 split at hl
 ·cases hl
 next new n hc=>
  simp only[hc]
  split at hl
  ·split at hl
   next hn=>
    simp only[qdq hn]
    cases hl
    exact⟨_,rfl,rfl⟩
   next hn=>
    simp only[qdr hn]
    split at hl
    next hs=>
     simp only[qdq hs]
     cases hl
     exact⟨_,rfl,rfl⟩
    ·cases hl
  next a len cx=>
   split at hl
   ·cases hl
   next hsp=>
    simp only[qdr hsp]
    split at hl
    next vs e' rw' hg=>
     simp only[hg]
     split at hl
     ·cases hl
     next he=>
      simp only[qdr he]
      split at hl
      ·cases hl
      next old hcut=>
       simp only[hcut]
       split at hl
       ·split at hl
        next hn=>
         simp only[qdq hn]
         cases hl
         exact⟨_,rfl,rfl⟩
        next hn=>
         simp only[qdr hn]
         split at hl
         next hb=>
          simp only[qdq hb]
          cases hl
          refine⟨_,rfl,?_⟩
          simp[fk,Act1.on]
         ·cases hl
       next cap=>
        split at hl
        next hle=>
         simp only[qdq hle]
         split at hl
         next hrw=>
          simp only[qdq hrw]
          obtain⟨vs',q1,q2⟩:=qad.1 hl
          cases q2
          exact⟨_,rfl,by simp only[q1];rfl⟩
         next hrw=>
          simp only[qdr hrw]
          split at hl
          next hn=>
           simp only[qdq hn]
           cases hl
           exact⟨_,rfl,rfl⟩
          ·cases hl
        next hle=>
         simp only[qdr hle]
         split at hl
         next hb=>
          simp only[qdq hb]
          cases hl
          exact⟨_,rfl,rfl⟩
         ·cases hl
    ·cases hl
  ·cases hl
def cpG_ok{C:Cfg}{t e:TI}{d x:Value}{H:Ts}{n:Nat}{acts:List Act1}{cs:Tl}(hu:C.P.underlying t=some (.slice e))(h0:¬C.P.cellsOf e=0)
  (hl:cpG C (C.P.cellsOf e) d x (λi=>H[i]?) n=some (acts,cs)):∃v,cs=[v]/\lr C t d x H=some (fk H acts,v):=by
 unfold cpG at hl
 unfold lr
 rw[hu]
 split at hl
 ·simp only[qdr h0]
  rw[slG_at]at hl
  obtain⟨y,q1,q2⟩:=qad.1 hl
  cases q2
  exact⟨_,rfl,by simp only[q1];rfl⟩
 next a dlen cx=>
  simp only[qdr h0]
  split at hl
  ·cases hl
  next hsp=>
   simp only[qdr hsp]
   rw[slG_at]at hl
   split at hl
   next new m vs e' hc hg=>
    simp only[hc,hg]
    split at hl
    ·cases hl
    next he=>
     simp only[qdr he]
     obtain⟨y,q1,q2⟩:=qad.1 hl
     cases q2
     exact⟨_,rfl,by simp only[q1];rfl⟩
   ·cases hl
 ·cases hl
def clG_ok{C:Cfg}{t e:TI}{x:Value}{z:S0}{H:Ts}{n:Nat}{acts:List Act1}{cs:Tl}(hu:C.P.underlying t=some (.slice e))(h0:¬C.P.cellsOf e=0)(hz:tj C.P e=some z)
  (hl:clG (C.P.cellsOf e) (z.cells.map SL.val) x (λi=>H[i]?) n=some (acts,cs)):fD C t x H=some (fk H acts,undef):=by
 obtain⟨zv,z1,z2,z3⟩:=qa hz
 have hzc:z.cells.map SL.val=zv.cells.toList:=by rw[←z2,S0.cells_val z3]
 unfold clG at hl
 unfold fD
 rw[hu]
 split at hl
 ·cases hl;rfl
 next a m cx=>
  simp only[qdr h0]
  split at hl
  ·cases hl
  next hsp=>
   simp only[qdr hsp]
   split at hl
   next vs e' hg=>
    simp only[hg,z1]
    split at hl
    ·cases hl
    next he=>
     simp only[qdr he]
     rw[hzc]at hl
     obtain⟨y,q1,q2⟩:=qad.1 hl
     cases q2
     simp only[q1];rfl
   ·cases hl
 ·cases hl
def pR(hA:AlgOk A X.C Sg X.T holds abs){dst:Tn}{sk:SK}(hs:gZ sk=false){v:Value}(hk:holds (setC A dst sk [v] ev h K)):∃x:S0,x.val=v/\x.good/\holds (setD dst (.st x) ev h K):=
 jB hA (.inr ⟨hs,rfl⟩) hk
def uW(hA:AlgOk A X.C Sg X.T holds abs)(hR:Rp ev σ)(ha:abs h=σ.heap){c:Call}{b:Builtin}{xs:List S0}{sk:SK}(ho:o.op = .call c)(hb:c.callee = .builtin b)(hx:svals ev c.args.toList=some xs)
  (hk:holds (kz A X o.dst sk b xs c.argTypes ev h K)):Done X holds abs o σ K:=by
 obtain⟨hv,hg⟩:=hR.svals hx
 have heff:ak X.C X.pts (oval σ.tmps) o=aJ X.C (oval σ.tmps) b (ai xs) c.argTypes o:=by
  simp only[ak,ho,eR,hb,hv]
 have hargs:∀ys:List S0,(∀y∈ys,∀l∈y.cells,l.nv)->ys=xs->c.args.toList.all (λx=>plain (oval σ.tmps x))=true/\c.args.map (λx=>den (oval σ.tmps x))=⟨ai xs⟩:=by
  intro ys hy e
  subst e
  have h1:∀v∈c.args.toList.map (oval σ.tmps),plain v=true/\den v=v:=by
   rw[hv]
   intro v hm
   simp only[ai,qaN]at hm
   obtain⟨y,hm,rfl⟩:=hm
   exact pB (hy y hm)
  refine⟨?_,?_⟩
  ·rw[qab]
   intro x hx
   exact(h1 _ (qaN.2 ⟨x,hx,rfl⟩)).1
  ·apply qaZ.1
   rw[qbf,←hv]
   exact qbA λx hx=>(h1 _ (qaN.2 ⟨x,hx,rfl⟩)).2
 unfold kz at hk
 split at hk
 next s x t ht=>
  split at hk
  next e hu=>
   split at hk
   next info hi=>
    split at hk
    ·exact absurd hk hA.fail
    next hc=>
     simp only[qbI]at hc
     obtain⟨⟨⟨c1,c2⟩,c3⟩,c4⟩:=hc
     have c1:¬info.size=0:=λe=>by rw[e]at c1;cases c1
     obtain⟨acts,cs,h',q1,q2,hk1⟩:=hA.heap _ _ _ hk
     simp only[Hp.run]at q1
     rw[ha]at q1 q2
     obtain⟨v,rfl,q3⟩:=apG_ok hu hi c1 c2 q1
     obtain⟨y,rfl,g,hk2⟩:=pR hA rfl hk1
     refine cD hR q2 (s:=.st y) g (f:=eC X.C t s x) ?_ q3 hk2
     rw[heff]
     simp only[aJ,ai,qat,qbc,S0.val,SL.val,ht]
     refine qdr λhcon=>?_
     have hcon:((c.argTypes[1]?.any λu=>(X.C.P.underlying u) matches some (.int _)|none)||c.argTypes[1]?.isNone)=true:=hcon
     rw[qaX]at hcon
     rcases hcon with hcon|hcon
     ·exact absurd (hcon.symm.trans c3) (by simp)
     ·exact absurd (hcon.symm.trans c4) (by simp)
   ·exact absurd hk hA.fail
  ·exact absurd hk hA.fail
 next x t ht=>
  split at hk
  next e x' hu=>
   obtain⟨n,hn,hk1⟩:=hA.opt _ _ hk
   unfold lenS at hn
   split at hn
   next a m cx=>
    cases hn
    refine au hR ha (s:=.st (.leaf (.i .i64 _))) (aq trivial) ?_ hk1
    rw[heff]
    simp only[aJ,ai,qat,qbc,S0.val,SL.val,ht,hu];rfl
   ·cases hn
  next kt et x' hu=>
   obtain⟨cs,hl,hk1⟩:=hA.peek _ _ _ hk
   simp only[Pk.run]at hl
   rw[ha]at hl
   unfold lenM at hl
   split at hl
   next id=>
    split at hl
    next es ck hgt=>
     cases hl
     obtain⟨y,hy,g,hk2⟩:=pR hA rfl hk1
     refine fG hR ha (s:=.st y) g (f:=λH=>(hmap H id).map λp=>.int .i64 p.1.length) ?_ ?_ hk2
     ·rw[heff]
      simp only[aJ,ai,qat,qbc,S0.val,SL.val,ht,hu]
     ·simp only[hmap,hgt,qau,SV.val,hy]
    ·cases hl
   ·cases hl
  next n el hu=>
   refine au hR ha (s:=.st (.leaf (.i .i64 _))) (aq trivial) ?_ hk
   rw[heff]
   simp only[aJ,ai,qat,qbc,ht,hu];rfl
  ·exact absurd hk hA.fail
 next x t ht=>
  split at hk
  next e x' hu=>
   obtain⟨n,hn,hk1⟩:=hA.opt _ _ hk
   unfold capS at hn
   split at hn
   ·cases hn
    refine au hR ha (s:=.st (.leaf (.i .i64 _))) (aq trivial) ?_ hk1
    rw[heff]
    simp only[aJ,ai,qat,qbc,S0.val,SL.val,ht,hu];rfl
   ·cases hn
    refine au hR ha (s:=.st (.leaf (.i .i64 _))) (aq trivial) ?_ hk1
    rw[heff]
    simp only[aJ,ai,qat,qbc,S0.val,SL.val,ht,hu];rfl
   ·cases hn
  next n el hu=>
   refine au hR ha (s:=.st (.leaf (.i .i64 _))) (aq trivial) ?_ hk
   rw[heff]
   simp only[aJ,ai,qat,qbc,ht,hu];rfl
  ·exact absurd hk hA.fail
 next s x t ht=>
  split at hk
  next e hu=>
   split at hk
   ·exact absurd hk hA.fail
   next hz=>
    have hz:¬X.C.P.cellsOf e=0:=λe=>by rw[e]at hz;cases hz
    obtain⟨acts,cs,h',q1,q2,hk1⟩:=hA.heap _ _ _ hk
    simp only[Hp.run]at q1
    rw[ha]at q1 q2
    obtain⟨v,rfl,q3⟩:=cpG_ok hu hz q1
    obtain⟨y,rfl,g,hk2⟩:=pR hA rfl hk1
    refine cD hR q2 (s:=.st y) g (f:=lr X.C t s x) ?_ q3 hk2
    rw[heff]
    simp only[aJ,ai,qat,qbc,S0.val,SL.val,ht]
  ·exact absurd hk hA.fail
 next m k t ht=>
  split at hk
  next kt et hu=>
   obtain⟨acts,cs,h',q1,q2,hk1⟩:=hA.heap _ _ _ hk
   simp only[Hp.run]at q1
   rw[ha]at q1 q2
   refine cD hR q2 (s:=.un) trivial (f:=db X.C t m k.val) ?_ (deG_ok hu q1) hk1
   rw[heff]
   simp only[aJ,ai,qat,qbc,S0.val,SL.val,ht]
  ·exact absurd hk hA.fail
 next s t ht=>
  split at hk
  next e hu=>
   split at hk
   next z hz0 hz=>
    have hz0:¬X.C.P.cellsOf e=0:=λe=>by rw[e]at hz0;cases hz0
    obtain⟨acts,cs,h',q1,q2,hk1⟩:=hA.heap _ _ _ hk
    simp only[Hp.run]at q1
    rw[ha]at q1 q2
    refine cD hR q2 (s:=.un) trivial (f:=fD X.C t s) ?_ (clG_ok hu hz0 hz q1) hk1
    rw[heff]
    simp only[aJ,ai,qat,qbc,S0.val,SL.val,ht]
   ·exact absurd hk hA.fail
  ·exact absurd hk hA.fail
 next k a k' b'=>
  split at hk
  next hkk=>
   have hkk:=cT hkk
   subst hkk
   obtain⟨t,h1,hk1⟩:=hA.cmp _ _ _ _ hk
   have hk2:=hA.sel _ _ _ _ hk1
   simp only[nh,qar]at h1
   subst h1
   obtain⟨p1,p2⟩:=hargs _ (λy hy l hl=>by
    simp only[qap,qcF,or_false]at hy
    rcases hy with rfl|rfl<;>(simp only[S0.cells,qay]at hl;subst hl;trivial)) rfl
   refine bG hR ha (s:=.st (.leaf (.i k _))) (aq trivial) ⟨by rw[ho];rfl,?_,rfl,λw=>?_⟩ hk2
   ·rw[ho];simp only[Op.operands,Call.operands,hb];simpa using p1
   ·simp only[execOp,ho,resolve,hb,Sem.run_bind,p2]
    simp only[Sem.run_pure,Result.andThen_ok,invoke,builtin,ai,qat,qbc,S0.val,SL.val,Sem.run_bind]
    rw[show(⟨[Value.int k a,Value.int k b']⟩ : Array Value) = #[Value.int k a,Value.int k b']from rfl,run_min_int2]
    simp[SV.val,S0.val,SL.val,den,den1]
  ·exact absurd hk hA.fail
 next k a k' b'=>
  split at hk
  next hkk=>
   have hkk:=cT hkk
   subst hkk
   obtain⟨t,h1,hk1⟩:=hA.cmp _ _ _ _ hk
   have hk2:=hA.sel _ _ _ _ hk1
   simp only[nh,qar]at h1
   subst h1
   obtain⟨p1,p2⟩:=hargs _ (λy hy l hl=>by
    simp only[qap,qcF,or_false]at hy
    rcases hy with rfl|rfl<;>(simp only[S0.cells,qay]at hl;subst hl;trivial)) rfl
   refine bG hR ha (s:=.st (.leaf (.i k _))) (aq trivial) ⟨by rw[ho];rfl,?_,rfl,λw=>?_⟩ hk2
   ·rw[ho];simp only[Op.operands,Call.operands,hb];simpa using p1
   ·simp only[execOp,ho,resolve,hb,Sem.run_bind,p2]
    simp only[Sem.run_pure,Result.andThen_ok,invoke,builtin,ai,qat,qbc,S0.val,SL.val,Sem.run_bind]
    rw[show(⟨[Value.int k a,Value.int k b']⟩ : Array Value) = #[Value.int k a,Value.int k b']from rfl,run_max_int2]
    simp[SV.val,S0.val,SL.val,den,den1]
  ·exact absurd hk hA.fail
 ·exact absurd hk hA.fail
end
end Sx
namespace Sx
section
variable [Val] [Kno] {R HT:Type} {A:Alg R HT} {X:Ctxt} {Sg:Tc} {holds:R->Prop} {abs:HT->Ts}
variable {ev:Env} {σ:St} {h:HT} {o:Oper} {K:KN R HT}
def lfsOf_one(x:S0):ca [x]=x.cells.map SL.lf:=by simp[ca]
def sU(hA:AlgOk A X.C Sg X.T holds abs)(hR:Rp ev σ){sks:TG}{rs:TB}{ys:List S0}(hy:Told sks rs ys){H':Ts}(ha:abs h=H')
  (hst:StepO X.C X.pts o σ (({ σ with heap:=H' }:St).put o.dst (eM (ai ys)))) (hk:holds (setR A o.dst sks rs ev h K)):Done X holds abs o σ K:=by
 obtain⟨y1,rfl,y3⟩:=hy
 unfold setR at hk
 split at hk
 next sk=>
  obtain⟨x,r,e1,e2,hk1⟩:=unS_ok hA hk
  obtain⟨hr,hk2⟩:=hA.un0 _ _ hk1
  rw[hr,qa2]at e1
  match ys,y1 with
  | [y],y1=>
   simp only[bO,qdm]at y1
   rw[lfsOf_one]at e1
   obtain⟨v1,v2⟩:=S0.is_val y1 e2 e1
   refine cR hR H' ha (s:=.st x) (v2 (y3 y (by simp))) ?_ hk2
   rw[show(SV.st x).val=eM (ai [y])from by simp[SV.val,ai,eM,v1]]
   exact hst
  | [],y1=>cases y1
  |_ :: _ :: _,y1=>simp[bO]at y1
 ·obtain⟨hr,hk1⟩:=hA.un0 _ _ hk
  match ys,y1 with
  | [],_=>exact cR hR H' ha (s:=.un) trivial hst hk1
  |_ :: _,y1=>cases y1
 next h1 h2=>
  obtain⟨xs,r,e1,e2,hk1⟩:=mG hA hk
  obtain⟨hr,hk2⟩:=hA.un0 _ _ hk1
  rw[hr,qa2]at e1
  obtain⟨v1,v2⟩:=cz y1 e2 e1
  have hlen:2<=xs.length:=by
   match xs,e2 with
   | [],e2=>cases sks with
    |nil=>exact absurd rfl h2
    |cons _ _=>cases e2
   | [x],e2=>cases sks with
    |nil=>exact absurd rfl h2
    |cons a l=>cases l with
     |nil=>exact absurd rfl (h1 _)
     |cons _ _=>simp[bO]at e2
   |_ :: _ :: _,_=>simp
  refine cR hR H' ha (s:=.tup xs) ⟨v2 y3,hlen⟩ ?_ hk2
  have:(SV.tup xs).val=eM (ai ys):=by
   rw[v1]
   match xs,hlen with
   |a :: b :: l,_=>rfl
  rw[this]
  exact hst
def all_noLoc{xs:List S0}(hg:∀x∈xs,x.good):(ai xs).all noLoc=true:=by
 simp only[ai,qab,qaN]
 rintro _ ⟨x,hx,rfl⟩
 exact S0.noLoc (hg x hx)
def call_ok(hA:AlgOk A X.C Sg X.T holds abs)(hR:Rp ev σ)(ha:abs h=σ.heap){c:Call}{hs:TG}(ho:o.op = .call c)
  (hk:holds (match svals ev c.args.toList with
  |some xs=>match c.callee with
   | .builtin b=>kz A X o.dst (kj hs) b xs c.argTypes ev h K
   | .value f=>match sval ev f with
    | .st (.leaf (.v v))=>match f with
     | .func g=>match Sg g with
      |some sg=>match bO xs sg.ps with
       |true=>A.call g (ca xs) h λrs h=>setR A o.dst sg.rs rs ev h K
       |false=>A.fail
      |none=>A.fail
     |_=>A.callv v (ai xs) hs h λrs h=>setR A o.dst hs rs ev h K
    |_=>A.fail
   |_=>A.fail
  |none=>A.fail)):Done X holds abs o σ K:=by
 split at hk
 next xs hx=>
  obtain⟨hv,hg⟩:=hR.svals hx
  have hnl:=all_noLoc hg
  split at hk
  next b hb=>
   exact uW hA hR ha ho hb hx hk
  next f hc=>
   split at hk
   next v hf=>
    obtain⟨h1,g1⟩:=hR.sval hf (by simp)
    simp only[SV.val,S0.val,SL.val]at h1
    have gv:aY v=true:=g1 (.v v) (by simp[S0.cells])
    have heff:∀ {g:TJ} {first cap:Tj},v = .func (.func g) first cap->ak X.C X.pts (oval σ.tmps) o=some (.call g (first.toList++ai xs++cap.toList)):=by
     intro g first cap e
     subst e
     simp only[ak,ho,eR,hc,hv,hnl,h1,(dt.1 gv).1,qaK,qaj,if_false,if_true]
    split at hk
    next g=>
     have e:v = .func (.func g) #[] #[]:=by
      have:=h1
      simp only[oval]at this
      exact this.symm
     split at hk
     next sg hsg=>
      split at hk
      next hps=>
       obtain⟨rs,h',⟨sg',xs',ys,c1,⟨c2,c3,c4⟩,c5,c6⟩,hk1⟩:=hA.call _ _ _ _ hk
       rw[hsg]at c1
       cases c1
       obtain⟨v1,_⟩:=cz hps c2 c3.symm
       rw[ha]at c6
       refine sU hA hR c5 rfl (.inl ⟨_,heff e,eM (ai ys),abs h',?_,rfl⟩) hk1
       rw[v1]
       show gD X.C g _ _ _ _
       simpa using c6
      ·exact absurd hk hA.fail
     ·exact absurd hk hA.fail
    ·obtain⟨rs,h',⟨ys,c1,c2⟩,hk1⟩:=hA.callv _ _ _ _ _ hk
     rw[ha]at c2
     rcases c2 with⟨g,first,cap,e,c2⟩|⟨l,e,c2⟩
     ·exact sU hA hR c1 rfl (.inl ⟨_,heff e,eM (ai ys),abs h',c2,rfl⟩) hk1
     ·have heff2:ak X.C X.pts (oval σ.tmps) o=some (.yield l (ai xs)):=by
       subst e
       simp only[ak,ho,eR,hc,hv,hnl,h1,qaK,qaj,if_false]
       rfl
      exact sU hA hR c1 rfl (.inl ⟨_,heff2,eM (ai ys),abs h',c2,rfl⟩) hk1
   ·exact absurd hk hA.fail
  ·exact absurd hk hA.fail
 ·exact absurd hk hA.fail
def opE_ok(hA:AlgOk A X.C Sg X.T holds abs)(hR:Rp ev σ)(ha:abs h=σ.heap){hs:TG}(hk:holds (opE A X Sg o hs ev h K)):Done X holds abs o σ K:=by
 unfold opE at hk
 split at hk
 next x ho=>
  split at hk
  ·exact absurd hk hA.fail
  next hn=>exact move_ok hR ha (.inl ho) rfl (λe=>hn e) hk
 next x ho=>
  split at hk
  ·exact absurd hk hA.fail
  next hn=>exact move_ok hR ha (.inr ho) rfl (λe=>hn e) hk
 next c a b ho=>exact pick_ok hA hR ha ho hk
 next t ho=>
  split at hk
  next x hx=>
   obtain⟨z,h1,h2,h3⟩:=qa hx
   exact newV_ok hA hR ha h3 (by simp only[ak,ho,h1,qag,h2]) (.inr ho) hk
  ·exact absurd hk hA.fail
 next t y ho=>
  split at hk
  next x hx=>
   obtain⟨h1,h2⟩:=hR.sval hx (by simp)
   exact newV_ok hA hR ha h2 (by simp only[ak,ho,h1];rfl) (.inl ⟨y,ho⟩) hk
  ·exact absurd hk hA.fail
 next t ps ho=>exact build_ok hA hR ha ho hk
 next t n ps ho=>exact oE hA hR ha ho hk
 next t a ho=>
  split at hk
  next agg hag=>
   split at hk
   next hb=>exact load_ok hA hR ha ho hag (eqB_eq hb) hk
   ·exact absurd hk hA.fail
  ·exact absurd hk hA.fail
 next t a y ho=>
  split at hk
  next x hx=>exact store_ok hA hR ha ho hx hk
  ·exact absurd hk hA.fail
 next x ho=>exact sC hA hR ha ho hk
 next op t x y yt ho=>
  split at hk
  next a b e1 e2=>exact bin_ok hA hR ha ho e1 e2 hk
  ·exact absurd hk hA.fail
 next op t x ho=>exact un_ok hA hR ha ho hk
 next sT dT x ho=>exact conv_ok hA hR ha ho hk
 next fn first cap ho=>exact sw hA hR ha ho hk
 next t r ho=>exact jg hA hR ha ho hk
 next t l c ho=>exact re hA hR ha ho hk
 next t x lo hi mx ho=>exact sliceE_ok hA hR ha ho hk
 next t x f ho=>exact qC hA hR ha ho hk
 next t x i ho=>exact qQ hA hR ha ho hk
 next t x f ho=>exact field_ok hA hR ha ho hk
 next t x i ho=>exact index_ok hA hR ha ho hk
 next t m k ok ho=>exact look_ok hA hR ha ho hk
 next t m k v ho=>exact tW hA hR ha (.inl ho) hk
 next t m k v ho=>exact tW hA hR ha (.inr ho) hk
 next t m k ho=>exact mapEn_ok hA hR ha ho hk
 next t m s v ho=>exact entSt_ok hA hR ha ho hk
 next t i ho=>exact vk hA hR ha ho hk
 next c ho=>exact call_ok hA hR ha ho hk
 ·exact absurd hk hA.fail
def DoneI(X:Ctxt)(holds:R->Prop)(abs:HT->Ts)(ops:Tm)(i:Nat)(o:Oper)(σ:St)(K:KN R HT):Prop:=
 ∃σ' ev' h',ae X.C (uB X.C) X.pts ops i σ σ'/\Rp ev' σ'/\abs h'=σ'.heap/\Fr o.dst.toList (rp X.pts o).toList (gV X.pts o).toList σ σ'/\holds (K ev' h')
def rp_guard(hR:Rp ev σ){d:Nat}{t:Bool}(hd:ev.tm.getD d .no = .st (.leaf (.b t))):Rp ⟨ev.tm.set d (.st (.leaf (.l t))),ev.lc⟩ σ:=by
 obtain⟨h1,_⟩:=hR.at hd (by simp)
 refine⟨by simp[hR.len],λi x hx=>?_,hR.llen,hR.row⟩
 simp only[qaD]at hx
 split at hx
 next hi=>
  subst hi
  split at hx
  ·cases hx;exact⟨h1,aq trivial⟩
  ·cases hx
 ·exact hR.val i x hx
def uh(hA:AlgOk A X.C Sg X.T holds abs)(hR:Rp ev σ)(ha:abs h=σ.heap){ops:Tm}{i:Nat}{hs:TG}(hi:ops[i]?=some o)(hk:holds (opG A X Sg ops o hs ev h K)):DoneI X holds abs ops i o σ K:=by
 have wanted:∀ {ev:Env},Rp ev σ->bD ops σ.tmps o=some true->holds (opE A X Sg o hs ev h K)->DoneI X holds abs ops i o σ K:=by
  intro ev hR hw hk
  obtain⟨σ',ev',h',q1,q2,q3,q4,q5⟩:=opE_ok hA hR ha hk
  exact⟨σ',ev',h',by unfold ae;simp only[hi,hw];exact q1,q2,q3,q4,q5⟩
 have unwanted:∀ {ev:Env},Rp ev σ->bD ops σ.tmps o=some false->holds (setD o.dst .un ev h K)->DoneI X holds abs ops i o σ K:=by
  intro ev hR hw hk
  obtain⟨ev',h1,h2⟩:=sS hR (s:=.un) trivial hk
  refine⟨σ.put o.dst undef,ev',h,by unfold ae;simp only[hi,hw],h1,?_,.put _ _ _ _,h2⟩
  rw[ha];cases o.dst<;>rfl
 unfold opG at hk
 split at hk
 next hg=>
  exact wanted hR (by simp only[bD,hg]) hk
 next j want hg=>
  split at hk
  next d hd=>
   split at hk
   next b hb=>
    obtain⟨h1,_⟩:=hR.at hb (by simp)
    have hw:bD ops σ.tmps o=some (b==want):=by
     simp only[bD,hg,hd,qag,h1];rfl
    split at hk
    next e=>exact wanted hR (by rw[hw,e]) hk
    next e=>exact unwanted hR (by rw[hw,e]) hk
   next hb=>
    obtain⟨h1,_⟩:=hR.at hb (by simp)
    have hw:bD ops σ.tmps o=some false:=by
     simp only[bD,hg,hd,qag,h1];rfl
    exact unwanted hR hw hk
   next t hb=>
    obtain⟨h1,_⟩:=hR.at hb (by simp)
    have hw:bD ops σ.tmps o=some (t==want):=by
     simp only[bD,hg,hd,qag,h1];rfl
    have hR':=rp_guard hR hb
    split at hk
    ·rcases hA.cond _ _ _ hk with⟨ht,hk1⟩|⟨ht,hk1⟩
     ·rw[setK_eq]at hk1
      subst ht
      exact wanted hR' hw hk1
     ·rw[setK_eq]at hk1
      subst ht
      exact unwanted hR' hw hk1
    ·rcases hA.cond _ _ _ hk with⟨ht,hk1⟩|⟨ht,hk1⟩
     ·rw[setK_eq]at hk1
      subst ht
      exact unwanted hR' hw hk1
     ·rw[setK_eq]at hk1
      subst ht
      exact wanted hR' hw hk1
   ·exact absurd hk hA.fail
  ·exact absurd hk hA.fail
def wsOf(l:Tv):Tz:=l.filterMap (·.dst)
def ksOf(pts:Tz)(l:Tv):Tz:=l.filterMap (rp pts)
def rsOf(pts:Tz)(l:Tv):Tz:=l.filterMap (gV pts)
def aX{f:Oper->Tp}{o:Oper}{l:Tv}(ho:o∈l):∀i∈(f o).toList,i∈l.filterMap f:=by
 intro i hi
 rw[qbj]
 exact⟨o,ho,by simpa using hi⟩
def kP(hA:AlgOk A X.C Sg X.T holds abs){ops:Tm}:∀(l:Tv) (i:Nat) (hs:List (TG)) (ev:Env) (h:HT) (σ:St),l <+: ops.toList.drop i->Rp ev σ->abs h=σ.heap->holds (opsE A X Sg ops l hs ev h K)->
  ∃σ' ev' h',aT X.C (uB X.C) X.pts ops (List.range' i l.length) σ σ'/\Rp ev' σ'/\abs h'=σ'.heap/\Fr (wsOf l) (ksOf X.pts l) (rsOf X.pts l) σ σ'/\holds (K ev' h')
 | [],i,hs,ev,h,σ,_,hR,ha,hk=>⟨σ,ev,h,rfl,hR,ha,.refl _ _ _ _,hk⟩
 |o :: l,i,hs,ev,h,σ,hl,hR,ha,hk=>by
  have hi:ops[i]?=some o:=by
   obtain⟨t,hl⟩:=hl
   have:(ops.toList.drop i)[0]?=some o:=by rw[←hl];rfl
   simpa using this
  obtain⟨σ₁,ev₁,h₁,q1,q2,q3,q4,q5⟩:=uh (K:=λev h=>opsE A X Sg ops l hs.tail ev h K) hA hR ha hi hk
  have hl':l <+: ops.toList.drop (i+1):=by
   obtain⟨t,hl⟩:=hl
   exact⟨t,by rw[←qbD,←hl];rfl⟩
  obtain⟨σ',ev',h',p1,p2,p3,p4,p5⟩:=kP hA l (i+1) hs.tail ev₁ h₁ σ₁ hl' q2 q3 q5
  refine⟨σ',ev',h',⟨σ₁,q1,p1⟩,p2,p3,?_,p5⟩
  have f1:Fr (wsOf (o :: l)) (ksOf X.pts (o :: l)) (rsOf X.pts (o :: l)) σ σ₁:=q4.mono (aX (by simp)) (aX (by simp)) (aX (by simp))
  have sub:∀(f:Oper->Tp) (i:Nat),i∈l.filterMap f->i∈(o :: l).filterMap f:=by
   intro f i hi
   rw[qbj]at hi ⊢
   obtain⟨x,hx,e⟩:=hi
   exact⟨x,by simp[hx],e⟩
  exact f1.trans (p4.mono (sub _) (sub _) (sub _))
def opsE_ok(hA:AlgOk A X.C Sg X.T holds abs){ops:Tm}(l:Tv)(i:Nat)(hs:List (TG))(ev:Env)(h:HT)(σ:St)(hl:ops.toList.drop i=l)(hR:Rp ev σ)(ha:abs h=σ.heap)(hk:holds (opsE A X Sg ops l hs ev h K)) :
  ∃σ' ev' h',aT X.C (uB X.C) X.pts ops (List.range' i l.length) σ σ'/\Rp ev' σ'/\abs h'=σ'.heap/\Fr (wsOf l) (ksOf X.pts l) (rsOf X.pts l) σ σ'/\holds (K ev' h'):=
 kP hA l i hs ev h σ (hl▸qc7 _) hR ha hk
end
end Sx
namespace Sx
section
variable [Val] [Kno] {R HT:Type} {A:Alg R HT} {X:Ctxt} {Sg:Tc} {holds:R->Prop} {abs:HT->Ts}
def clrT_eq(ws ks:Tz):∀(l:List SV) (i:Nat) (K:List SV->R),∃l',clrT ws ks l i K=K l'/\l'.length=l.length/\
  ∀(j:Nat) s,l'[j]?=some s->s = .no∨(l[j]?=some s/\¬ws.contains (i+j)=true/\s.inRows ks=false)
 | [],i,K=>⟨[],rfl,rfl,λj s h=>by simp at h⟩
 |x :: l,i,K=>by
  obtain⟨l',h1,h2,h3⟩:=clrT_eq ws ks l (i+1) λl=>match ws.contains i||x.inRows ks with
   |true=>K (.no :: l)
   |false=>K (x :: l)
  have hr:∀(j:Nat) s,l'[j]?=some s->s = .no∨((x :: l)[j+1]?=some s/\¬ws.contains (i+(j+1))=true/\s.inRows ks=false):=by
   intro j s hs
   have:=h3 j s hs
   rw[show i+1+j=i+(j+1)by omega]at this
   simpa using this
  have h1':clrT ws ks (x :: l) i K=(match ws.contains i||x.inRows ks with
   |true=>K (.no :: l')
   |false=>K (x :: l')):=h1
  cases hc:ws.contains i||x.inRows ks with
  |true=>
   refine⟨.no :: l',by rw[h1',hc],by simp[h2],λj s hs=>?_⟩
   cases j with
   |zero=>simp at hs;exact .inl hs.symm
   |succ j=>exact hr j s (by simpa using hs)
  |false=>
   simp only[qbI]at hc
   refine⟨x :: l',by rw[h1'];simp only[hc,Bool.or_self],by simp[h2],λj s hs=>?_⟩
   cases j with
   |zero=>
    simp at hs
    subst hs
    exact .inr ⟨rfl,by rw[qcD,hc.1];exact Bool.false_ne_true,hc.2⟩
   |succ j=>exact hr j s (by simpa using hs)
def pM(r r0:LR):Prop:=r = .unk∨(∃n,r = .any n/\(r0 = .any n∨∃cs,r0 = .row cs/\cs.length=n))
def clrR_eq(ws ks:Tz)(nw:LR):∀(l:List LR) (i:Nat) (K:List LR->R),∃l',clrR ws ks nw l i K=K l'/\l'.length=l.length/\
  ∀(j:Nat) r,l'[j]?=some r->(ks.contains (i+j)=true/\r=nw)∨(ks.contains (i+j)=false/\ws.contains (i+j)=true/\∃r0,l[j]?=some r0/\pM r r0)∨
   (ks.contains (i+j)=false/\ws.contains (i+j)=false/\l[j]?=some r)
 | [],i,K=>⟨[],rfl,rfl,λj s h=>by simp at h⟩
 |x :: l,i,K=>by
  obtain⟨l',h1,h2,h3⟩:=clrR_eq ws ks nw l (i+1) λl=>match ks.contains i,ws.contains i with
   |true,_=>K (nw :: l)
   |false,true=>(match x with
    | .row cs=>oZ cs.length λn=>K (.any n :: l)
    | .any n=>K (.any n :: l)
    |_=>K (.unk :: l))
   |false,false=>K (x :: l)
  have hr:∀(j:Nat) r,l'[j]?=some r->(ks.contains (i+(j+1))=true/\r=nw)∨(ks.contains (i+(j+1))=false/\ws.contains (i+(j+1))=true/\∃r0,(x :: l)[j+1]?=some r0/\pM r r0)∨
   (ks.contains (i+(j+1))=false/\ws.contains (i+(j+1))=false/\(x :: l)[j+1]?=some r):=by
   intro j s hs
   have:=h3 j s hs
   rw[show i+1+j=i+(j+1)by omega]at this
   simpa using this
  have fin:∀y:LR,clrR ws ks nw (x :: l) i K=K (y :: l')->((ks.contains i=true/\y=nw)∨(ks.contains i=false/\ws.contains i=true/\pM y x)∨(ks.contains i=false/\ws.contains i=false/\y=x))->
    ∃l',clrR ws ks nw (x :: l) i K=K l'/\l'.length=(x :: l).length/\∀(j:Nat) r,l'[j]?=some r->(ks.contains (i+j)=true/\r=nw)∨(ks.contains (i+j)=false/\ws.contains (i+j)=true/\∃r0,(x :: l)[j]?=some r0/\pM r r0)∨
     (ks.contains (i+j)=false/\ws.contains (i+j)=false/\(x :: l)[j]?=some r):=by
   intro y hy hc
   refine⟨y :: l',hy,by simp[h2],λj r hs=>?_⟩
   cases j with
   |zero=>
    simp at hs
    subst hs
    rcases hc with hc|⟨a,b,c⟩|⟨a,b,c⟩
    ·exact .inl hc
    ·exact .inr (.inl ⟨a,b,x,rfl,c⟩)
    ·exact .inr (.inr ⟨a,b,by rw[c];rfl⟩)
   |succ j=>exact hr j r (by simpa using hs)
  cases hk:ks.contains i with
  |true=>exact fin nw (by show _=_;refine h1.trans ?_;simp only[hk]) (.inl ⟨hk,rfl⟩)
  |false=>
   cases hw:ws.contains i with
   |false=>exact fin x (by refine h1.trans ?_;simp only[hk,hw]) (.inr (.inr ⟨hk,hw,rfl⟩))
   |true=>
    cases x with
    |row cs=>exact fin (.any cs.length) (by refine h1.trans ?_;simp only[hk,hw,sf]) (.inr (.inl ⟨hk,hw,.inr ⟨_,rfl,.inr ⟨cs,rfl,rfl⟩⟩⟩))
    |any n=>exact fin (.any n) (by refine h1.trans ?_;simp only[hk,hw]) (.inr (.inl ⟨hk,hw,.inr ⟨_,rfl,.inl rfl⟩⟩))
    |unk=>exact fin .unk (by refine h1.trans ?_;simp only[hk,hw]) (.inr (.inl ⟨hk,hw,.inl rfl⟩))
    |nil=>exact fin .unk (by refine h1.trans ?_;simp only[hk,hw]) (.inr (.inl ⟨hk,hw,.inl rfl⟩))
def upT_ok{C:Cfg}{T:Tt}(hA:AlgOk A C Sg T holds abs):∀(lv:List (Nat×SK)) (xs:List S0) (tm:List SV) (K:List SV->R),holds (upT A lv xs tm K)->bO xs (lv.map (·.2))=true->
  ∃tm',holds (K tm')/\tm'.length=tm.length/\∀(j:Nat) s,tm'[j]?=some s->tm[j]?=some s∨∃sk x,(j,sk)∈lv/\s = .st x/\((j,sk),x)∈lv.zip xs
 | [],xs,tm,K,hk,_=>⟨tm,hk,rfl,λj s hs=>.inl hs⟩
 |p :: lv,[],tm,K,hk,h=>by cases h
 |p :: lv,x :: xs,tm,K,hk,h=>by
  simp only[qat,bO,qaa]at h
  have hk':holds (setK (.st x) tm p.1 λtm=>upT A lv xs tm K):=hk
  rw[setK_eq]at hk'
  obtain⟨tm',h1,h2,h3⟩:=upT_ok hA lv xs _ K hk' h.2
  refine⟨tm',h1,by rw[h2];simp,λj s hs=>?_⟩
  rcases h3 j s hs with h4|⟨sk,y,h4,h5,h6⟩
  ·simp only[qaD]at h4
   split at h4
   next hj=>
    split at h4
    ·cases h4
     subst hj
     exact .inr ⟨p.2,x,by simp,rfl,by simp⟩
    ·cases h4
   ·exact .inl h4
  ·exact .inr ⟨sk,y,by simp[h4],h5,by simp[h6]⟩
def upR_ok{C:Cfg}{T:Tt}(hA:AlgOk A C Sg T holds abs):∀(lv:List (Nat×List LK)) (ls:TB) (lc:List LR) (K:List LR->TB->R),holds (upR A lv ls lc K)->
  ∃(lc':List LR) (r:TB) (css:List (List SL)),holds (K lc' r)/\ls=(css.map (·.map SL.lf)).flatten++r/\css.length=lv.length/\(∀(i:Nat) p cs,lv[i]?=some p->css[i]?=some cs->aG cs p.2=true)/\lc'.length=lc.length/\
   ∀(j:Nat) s,lc'[j]?=some s->lc[j]?=some s∨∃(i:Nat) (ks:TE) (cs:List SL),lv[i]?=some (j,ks)/\css[i]?=some cs/\s = .row cs
 | [],ls,lc,K,hk=>⟨lc,ls,[],hk,rfl,rfl,λ_ _ _ h=>by simp at h,rfl,λj s hs=>.inl hs⟩
 |p :: lv,ls,lc,K,hk=>by
  have hk':holds (unL A p.2 ls λcs r=>setK (.row cs) lc p.1 λlc=>upR A lv r lc K):=hk
  obtain⟨cs,r,e1,e2,hk1⟩:=oo hA hk'
  rw[setK_eq]at hk1
  obtain⟨lc',r',css,h1,h2,h3,h4,h5,h6⟩:=upR_ok hA lv r _ K hk1
  refine⟨lc',r',cs :: css,h1,by rw[e1,h2];simp,by simp[h3],λi q ds hq hd=>?_,by rw[h5];simp,λj s hs=>?_⟩
  ·cases i with
   |zero=>simp at hq hd;subst hq;subst hd;exact e2
   |succ i=>exact h4 i q ds (by simpa using hq) (by simpa using hd)
  ·rcases h6 j s hs with h7|⟨i,ks,ds,h7,h8,h9⟩
   ·simp only[qaD]at h7
    split at h7
    next hj=>
     split at h7
     ·cases h7
      subst hj
      exact .inr ⟨0,p.2,cs,rfl,rfl,rfl⟩
     ·cases h7
    ·exact .inl h7
   ·exact .inr ⟨i+1,ks,ds,by simpa using h7,by simpa using h8,h9⟩
def pkT_ok{ev:Env}{σ:St}(hR:Rp ev σ):∀ {lv:List (Nat×SK)} {ls:TB},pkT ev.tm lv=some ls->
  ∃xs,ca xs=ls/\bO xs (lv.map (·.2))=true/\(∀x∈xs,x.good)/\∀p∈lv.zip xs,σ.tmps[p.1.1]?=some p.2.val
 | [],ls,h=>by cases h;exact⟨[],rfl,rfl,by simp,by simp⟩
 |(t,sk) :: lv,ls,h=>by
  simp only[pkT]at h
  split at h
  next x ls' hx hl=>
   split at h
   next his=>
    cases h
    obtain⟨xs,h1,h2,h3,h4⟩:=pkT_ok hR hl
    obtain⟨g1,g2⟩:=hR.at hx (by simp)
    refine⟨x :: xs,by simp[ca,h1],by simp[bO,his,h2],qbd.2 ⟨g2,h3⟩,λp hp=>?_⟩
    simp only[qcs,qap]at hp
    rcases hp with rfl|hp
    ·exact g1
    ·exact h4 p hp
   ·cases h
  ·cases h
def pkR_ok{ev:Env}{σ:St}(hR:Rp ev σ):∀ {lv:List (Nat×List LK)} {ls:TB},pkR ev.lc lv=some ls->
  ∃css:List (List SL),(css.map (·.map SL.lf)).flatten=ls/\css.length=lv.length/\(∀(i:Nat) p cs,lv[i]?=some p->css[i]?=some cs->aG cs p.2=true/\(∀c∈cs,c.good)/\σ.loc[p.1]?=some (some (cs.map SL.val)))
 | [],ls,h=>by cases h;exact⟨[],rfl,rfl,λ_ _ _ h=>by simp at h⟩
 |(s,ks) :: lv,ls,h=>by
  simp only[pkR]at h
  split at h
  next cs ls' hx hl=>
   split at h
   next his=>
    cases h
    obtain⟨css,h1,h2,h3⟩:=pkR_ok hR hl
    have hr:pL ev s=some cs:=by unfold pL;rw[hx]
    obtain⟨g1,g2,_⟩:=iJ hR hr
    refine⟨cs :: css,by simp[h1],by simp[h2],λi p ds hp hd=>?_⟩
    cases i with
    |zero=>simp at hp hd;subst hp;subst hd;exact⟨his,g2,g1⟩
    |succ i=>exact h3 i p ds (by simpa using hp) (by simpa using hd)
   ·cases h
  ·cases h
def css_eq:∀ {lv:List (Nat×List LK)} {a b:List (List SL)} {r:TB},a.length=lv.length->b.length=lv.length->
  (∀(i:Nat) p cs,lv[i]?=some p->a[i]?=some cs->aG cs p.2=true)->(∀(i:Nat) p cs,lv[i]?=some p->b[i]?=some cs->aG cs p.2=true)->
  (a.map (·.map SL.lf)).flatten=(b.map (·.map SL.lf)).flatten++r->r=[]/\∀(i:Nat) x y,a[i]?=some x->b[i]?=some y->x.map SL.lf=y.map SL.lf
 | [],a,b,r,la,lb,_,_,h=>by
  have la:a=[]:=by simpa using la
  have lb:b=[]:=by simpa using lb
  subst la;subst lb
  simp at h
  exact⟨h,λi x y hx=>by simp at hx⟩
 |p :: lv,a,b,r,la,lb,ha,hb,h=>by
  cases a with
  |nil=>simp at la
  |cons x a=>cases b with
   |nil=>simp at lb
   |cons y b=>
    simp only[qat,qb0,qaB]at h
    have h1:=bn (ha 0 p x rfl rfl)
    have h2:=bn (hb 0 p y rfl rfl)
    obtain⟨e1,e2⟩:=qde h (by simp[h1,h2])
    obtain⟨f1,f2⟩:=css_eq (lv:=lv) (by simpa using la) (by simpa using lb) (λi q cs hq hc=>ha (i+1) q cs (by simpa using hq) (by simpa using hc))
     (λi q cs hq hc=>hb (i+1) q cs (by simpa using hq) (by simpa using hc)) e2
    refine⟨f1,λi u v hu hv=>?_⟩
    cases i with
    |zero=>simp at hu hv;subst hu;subst hv;exact e1
    |succ i=>exact f2 i u v (by simpa using hu) (by simpa using hv)
def vz{α β:Type}{l:List α}{m:List β}{p:α×β}(h:p∈l.zip m):∃i:Nat,l[i]?=some p.1/\m[i]?=some p.2:=by
 obtain⟨i,hi⟩:=qbs h
 rw[qcY]at hi
 exact⟨i,hi⟩
def nB:∀ {a b:List S0} {sks:TG},bO a sks=true->bO b sks=true->(ca a).length=(ca b).length
 | [],[],[],_,_=>rfl
 |x :: a,y :: b,k :: sks,ha,hb=>by
  simp only[bO,qaa]at ha hb
  obtain⟨n,n1,n2⟩:=S0.is_len ha.1
  simp only[ca,qaG,qbG,n1,n2 y hb.1,nB ha.2 hb.2]
 | [],_ :: _,[],_,hb=>by cases hb
 | [],_,_ :: _,ha,_=>by cases ha
 |_ :: _,_,[],ha,_=>by cases ha
 |_ :: _,[],_ :: _,_,hb=>by cases hb
structure Like(ks:Tz)(nw:LR)(σ' τ:St):Prop where
 tlen:τ.tmps.length=σ'.tmps.length
 llen:τ.loc.length=σ'.loc.length
 tm:∀(i:Nat) v,σ'.tmps[i]?=some v->noLoc v=true->τ.tmps[i]?=some v
 tp:∀(i s off:Nat),σ'.tmps[i]?=some (.pointer (some ⟨s,off,some 0⟩))->s∉ks->τ.tmps[i]?=some (.pointer (some ⟨s,off,some 0⟩))
 row:∀(s:Nat) x,σ'.loc[s]?=some x->s∉ks->τ.loc[s]?=some x
 new:∀s,s∈ks->s<τ.loc.length->nw.ok τ.loc s
def Like.refl(ks:Tz)(σ:St):Like ks .unk σ σ:=⟨rfl,rfl,λ_ _ h _=>h,λ_ _ _ h _=>h,λ_ _ h _=>h,λ_ _ _=>trivial⟩
def reE_ok{C:Cfg}{T:Tt}(hA:AlgOk A C Sg T holds abs){pts:Tz}{c:Code}{nw:LR}{lv:Live}{ev ev':Env}{σ σ' τ:St}{ls:TB}{K:Env->R}
  (hR:Rp ev σ) (hR':Rp ev' σ') (hF:Fr (wrT c) (az pts c) (wrR pts c) σ σ') (hp:pk ev' lv=some ls) (hτ:Like (az pts c) nw σ' τ)
  (hlive:τ=σ'∨∀p∈lv.rows,p.1∉az pts c) (hk:holds (reE A pts c nw lv ev ls K)):∃ev1,Rp ev1 τ/\holds (K ev1):=by
 unfold reE at hk
 obtain⟨tm1,h1,h2,h3⟩:=clrT_eq (wrT c) (az pts c) ev.tm 0 λtm=>clrR (wrR pts c) (az pts c) nw ev.lc 0 λlc=>
  unSs A (lv.tm.map (·.2)) ls λxs r=>upT A lv.tm xs tm λtm=>upR A lv.rows r lc λlc r=>A.un0 r (K ⟨tm,lc⟩)
 rw[h1]at hk
 obtain⟨lc1,g1,g2,g3⟩:=clrR_eq (wrR pts c) (az pts c) nw ev.lc 0 λlc=>
  unSs A (lv.tm.map (·.2)) ls λxs r=>upT A lv.tm xs tm1 λtm=>upR A lv.rows r lc λlc r=>A.un0 r (K ⟨tm,lc⟩)
 rw[g1]at hk
 obtain⟨xs,r,e1,e2,hk1⟩:=mG hA hk
 obtain⟨tm2,hk2,u1,u2⟩:=upT_ok hA _ _ _ _ hk1 e2
 obtain⟨lc2,r2,css,hk3,v1,v2,v3,v4,v5⟩:=upR_ok hA _ _ _ _ hk2
 obtain⟨hr2,hk4⟩:=hA.un0 _ _ hk3
 subst hr2
 rw[qa2]at v1
 unfold pk at hp
 split at hp
 next la lb hpa hpb=>
  cases hp
  obtain⟨ys,y1,y2,y3,y4⟩:=pkT_ok hR' hpa
  obtain⟨dss,d1,d2,d3⟩:=pkR_ok hR' hpb
  rw[←y1,←d1]at e1
  obtain⟨s1,s2⟩:=qde e1 (nB y2 e2)
  obtain⟨w1,w2⟩:=cz y2 e2 s1
  have hgood:=w2 y3
  obtain⟨_,z2⟩:=css_eq (r:=[]) d2 v2 (λi p cs a b=>(d3 i p cs a b).1) v3 (by rw[s2,v1,qa2])
  refine⟨⟨tm2,lc2⟩,⟨?_,λi s hs=>?_,?_,λi s hs=>?_⟩,hk4⟩
  ·show tm2.length=_
   rw[u1,h2,hR.len,hτ.tlen,hF.tlen]
  ·rcases u2 i s hs with hs1|⟨sk,x,a1,rfl,a3⟩
   ·rcases h3 i s hs1 with rfl|⟨b1,b2,b3⟩
    ·trivial
    ·have hok:=hR.val i s b1
     rw[qaF]at b2
     have b2:i∉wrT c:=by simpa using b2
     have keepN:∀v,σ.tmps[i]?=some v->noLoc v=true->τ.tmps[i]?=some v:=λv hv hn=>hτ.tm i v (hF.tm i v hv b2 hn) hn
     have keepP:∀s off,σ.tmps[i]?=some (.pointer (some ⟨s,off,some 0⟩))->s∉az pts c->τ.tmps[i]?=some (.pointer (some ⟨s,off,some 0⟩)):=λs off hv hn=>
      hτ.tp i s off (hF.tp i s off hv b2 hn) hn
     cases s with
     |no=>trivial
     |st x=>exact⟨keepN _ hok.1 (S0.noLoc hok.2),hok.2⟩
     |tup xs=>simp[SV.inRows]at b3
     |un=>exact⟨keepN _ hok.1 rfl,trivial⟩
     |gad g off=>exact⟨keepN _ hok.1 rfl,trivial⟩
     |gdx g base ix=>exact⟨keepN _ hok.1 rfl,trivial⟩
     |lad s off=>exact⟨keepP s off hok.1 (by simpa[SV.inRows]using b3),trivial⟩
     |ldx s base ix=>exact⟨keepP s _ hok.1 (by simpa[SV.inRows]using b3),trivial⟩
   ·obtain⟨k,q1,q2⟩:=vz a3
    simp only at q1 q2
    have hx:(ai xs)[k]?=some x.val:=by simp[ai,q2]
    rw[←w1]at hx
    simp only[ai,qaA,qad]at hx
    obtain⟨y,hy1,hy2⟩:=hx
    have hm:((i,sk),y)∈lv.tm.zip ys:=by
     apply qaq (i:=k)
     rw[qcY]
     exact⟨q1,hy1⟩
    have hv:=y4 _ hm
    simp only at hv
    rw[hy2]at hv
    have gx:=hgood x (qaq q2)
    exact⟨hτ.tm i _ hv (S0.noLoc gx),gx⟩
  ·show lc2.length=_
   rw[v4,g2,hR.llen,hτ.llen,hF.llen]
  ·rcases v5 i s hs with hs1|⟨k,ks,cs,a1,a2,rfl⟩
   ·rcases g3 i s hs1 with⟨b1,rfl⟩|⟨b1,b2,r0,b3,b4⟩|⟨b1,b2,b3⟩
    ·rw[qaF]at b1
     refine hτ.new i (by simpa using b1) ?_
     rw[hτ.llen,hF.llen,←hR.llen,←g2]
     exact(qaV.1 hs1).1
    ·rw[qaF]at b1
     have hnk:i∉az pts c:=by simpa using b1
     have h0:=hR.row i r0 b3
     rcases b4 with rfl|⟨n,rfl,b4⟩
     ·trivial
     ·have:∃vs,σ.loc[i]?=some (some vs)/\vs.length=n:=by
       rcases b4 with rfl|⟨cs,rfl,hl⟩
       ·exact h0
       ·exact⟨_,h0.1,by simpa using hl⟩
      obtain⟨vs,c1,c2⟩:=this
      obtain⟨vs',c3,c4⟩:=hF.rlen i vs c1 hnk
      exact⟨vs',hτ.row i _ c3 hnk,c4.trans c2⟩
    ·rw[qaF]at b1 b2
     have hnk:i∉az pts c:=by simpa using b1
     have hnw:i∉wrR pts c:=by simpa using b2
     have h0:=hR.row i s b3
     have keep:∀x,σ.loc[i]?=some x->τ.loc[i]?=some x:=λx hx=>hτ.row i x (hF.row i x hx hnw) hnk
     cases s with
     |unk=>trivial
     |nil=>exact keep _ h0
     |any n=>obtain⟨vs,c1,c2⟩:=h0;exact⟨vs,keep _ c1,c2⟩
     |row cs=>exact⟨keep _ h0.1,h0.2⟩
   ·have hd:∃ds,dss[k]?=some ds:=by
     have:k<dss.length:=by rw[d2];exact(qaV.1 a1).1
     exact⟨dss[k],by simp[this]⟩
    obtain⟨ds,hd⟩:=hd
    obtain⟨f1,f2,f3⟩:=d3 k _ ds a1 hd
    have f4:=v3 k _ cs a1 a2
    obtain⟨m1,m2⟩:=fv f1 f4 (z2 k ds cs hd a2)
    simp only at f3
    rw[m1]at f3
    refine⟨?_,m2 f2⟩
    rcases hlive with rfl|hlive
    ·exact f3
    ·exact hτ.row i _ f3 (hlive (i,ks) (qaq a1))
 ·cases hp
end
end Sx
namespace Sx
section
variable [Val] [Kno] {R HT:Type} {A:Alg R HT} {X:Ctxt} {Sg:Tc} {holds:R->Prop} {abs:HT->Ts}
def er(X:Ctxt)(c:AC):Code:=c.erase λκ t=>eA (X.T κ) t
def Out(X:Ctxt)(holds:R->Prop)(abs:HT->Ts)(c:Code)(σ:St)(kn:KN R HT)(kx:Exit->KN R HT):Prop:=
 ∃e σ' ev' h',uEx X.C X.pts c σ e σ'/\Rp ev' σ'/\abs h'=σ'.heap/\Fr (wrT c) (az X.pts c) (wrR X.pts c) σ σ'/\((e = .normal/\holds (kn ev' h'))∨(e≠.normal/\holds (kx e ev' h')))
def ph(hA:AlgOk A X.C Sg X.T holds abs){c:Code}{j:Option Live}{ev:Env}{σ:St}{kn:KN R HT}{main:KN R HT->R}{kx:Exit->KN R HT}{c':Code}
  (hw:wrT c'=wrT c) (hb:az X.pts c'=az X.pts c) (hr:wrR X.pts c'=wrR X.pts c)
  (hR:Rp ev σ) (hm:∀kn,holds (main kn)->Out X holds abs c' σ kn kx) (hk:holds (qS A X.pts c j ev kn main)):Out X holds abs c' σ kn kx:=by
 unfold qS at hk
 cases j with
 |none=>exact hm kn hk
 |some lv=>
  obtain⟨e,σ',ev',h',h1,h2,h3,h4,h5⟩:=hm _ (hA.join _ _ hk)
  rcases h5 with⟨rfl,h5⟩|h5
  ·simp only at h5
   split at h5
   next ls hp=>
    rw[hw,hb,hr]at h4
    obtain⟨ev1,g1,g2⟩:=reE_ok hA hR h2 h4 hp (.refl _ _) (.inl rfl) h5
    exact⟨.normal,σ',ev1,h',h1,g1,h3,by rw[hw,hb,hr];exact h4,.inl ⟨rfl,g2⟩⟩
   ·exact absurd h5 hA.fail
  ·exact⟨e,σ',ev',h',h1,h2,h3,h4,.inr h5⟩
def box_sub(pts:Tz):∀c:Code,∀s∈az pts c,s∈wrR pts c:=by
 intro c
 induction c with
 |region id ops draw=>
  intro s hs
  simp only[az,qbj]at hs
  simp only[wrR,qbj]
  obtain⟨o,ho,hs⟩:=hs
  refine⟨o,ho,?_⟩
  unfold gV
  split at hs
  next e1 e2=>
   simp only[e1,e2]
   exact hs
  next e1 e2=>
   simp only[e1,e2]
   exact hs
  ·cases hs
 |seq a b iha ihb=>intro s hs;simp only[az,wrR,qaH]at hs ⊢;exact hs.imp (iha s) (ihb s)
 |cond c a b iha ihb=>intro s hs;simp only[az,wrR,qaH]at hs ⊢;exact hs.imp (iha s) (ihb s)
 |block id b ih=>exact ih
 |loop b ih=>exact ih
 |scope b ih=>exact ih
 |rangeFunc f ps a b iha ihb=>intro s hs;simp only[az,wrR,qaH]at hs ⊢;exact hs.imp (iha s) (ihb s)
 |_=>intro s hs;cases hs
def qt{keys:Tz}{v:Value}(h:noLoc v=true):gF keys v=v:=by
 unfold gF
 split
 next a=>
  split
  next hc=>
   simp only[qaa,qdn]at hc
   simp[noLoc,bg,co,bF,hc.1]at h
  ·rfl
 ·rw[qdq h]
def qr{keys:Tz}{s off:Nat}(h:s∉keys):gF keys (.pointer (some ⟨s,off,some 0⟩)) = .pointer (some ⟨s,off,some 0⟩):=by
 unfold gF
 simp[h]
def fZ{σ:St}{keys:Tz}{i:Nat}{v:Value}(hv:σ.tmps[i]?=some v)(hc:gF keys v=v):(σ.clear keys).tmps[i]?=some v:=by
 unfold St.clear
 split
 ·exact hv
 ·simp[hv,hc]
def lm{σ:St}{keys:Tz}{s:Nat}{x:Option (Tl)}(hs:σ.loc[s]?=some x)(hn:s∉keys):(σ.clear keys).loc[s]?=some x:=by
 unfold St.clear
 split
 ·exact hs
 ·simp only
  rw[dW,qaF,qdr (by simpa using hn)]
  exact hs
def clear_new{σ:St}{keys:Tz}{s:Nat}(hs:s∈keys)(hl:s<σ.loc.length):(σ.clear keys).loc[s]?=some none:=by
 unfold St.clear
 split
 next e=>rw[e]at hs;cases hs
 ·simp only
  rw[dW,qaF,qdq (by simpa using hs)]
  simp[hl]
def ng{σ:St}{keys:Tz}:(σ.clear keys).tmps.length=σ.tmps.length:=by unfold St.clear;split<;>simp
def gE(keys:Tz):∀(l:List (Option (Tl))) (i:Nat),(fE keys l i).length=l.length
 | [],_=>rfl
 |_ :: l,i=>by simp[fE,gE keys l]
def iW{σ:St}{keys:Tz}:(σ.clear keys).loc.length=σ.loc.length:=by unfold St.clear;split<;>simp[gE]
def uZ{σ:St}{keys:Tz}:(σ.clear keys).heap=σ.heap:=by unfold St.clear;split<;>rfl
def va(σ:St)(keys:Tz):Like keys .nil σ (σ.clear keys):=
 ⟨ng,iW,λ_ _ h hn=>fZ h (qt hn),λ_ _ _ h hn=>fZ h (qr hn),λ_ _ h hn=>lm h hn,λ_ h hl=>clear_new h (by rw[iW]at hl;exact hl)⟩
def clear_fr{σ:St}{ws keys rs:Tz}(hsub:∀s∈keys,s∈rs):Fr ws keys rs σ (σ.clear keys):=
 ⟨ng,iW,λ_ _ h _ hn=>fZ h (qt hn),λ_ _ _ h _ hn=>fZ h (qr hn),λs _ h hn=>lm h λhk=>hn (hsub s hk),
  λs vs h hn=>⟨vs,lm h hn,rfl⟩⟩
def nd{ev:Env}{σ:St}(hR:Rp ev σ):∀ {caps:List (Nat×SK)} {vs:Tl},lh ev.tm caps=some vs->∀(nt:Nat) (tm:Tl),
  (∀(i:Nat) x,tm[i]?=some x->x=poison∨(σ.tmps[i]?=some x/\noLoc x=true))->∀(i:Nat) x,(mL nt caps vs tm)[i]?=some x->x=poison∨(σ.tmps[i]?=some x/\noLoc x=true)
 | [],vs,h,nt,tm,ht=>by cases h;exact ht
 |(t,sk) :: caps,vs,h,nt,tm,ht=>by
  simp only[lh]at h
  split at h
  next x vs' hx hl=>
   split at h
   ·cases h
    obtain⟨g1,g2⟩:=hR.at hx (by simp)
    refine nd hR hl nt _ λi y hy=>?_
    simp only[qaD]at hy
    split at hy
    next hi=>
     subst hi
     split at hy
     ·cases hy;exact .inr ⟨g1,S0.noLoc g2⟩
     ·cases hy
    ·exact ht i y hy
   ·cases h
  ·cases h
def jH:∀(nt:Nat) (caps:List (Nat×SK)) (vs tm:Tl),(mL nt caps vs tm).length=tm.length
 |_,[],_,_=>rfl
 |_,_ :: _,[],_=>rfl
 |nt,(t,_) :: caps,v :: vs,tm=>by simp[mL,jH nt caps vs]
def opsM_ok(hA:AlgOk A X.C Sg X.T holds abs){ops:Tm}:∀(l:Tv) (i:Nat) (hs:List (TG)) (ev:Env) (h:HT) (σ:St) (K:Env->HT->List HT->R),l <+: ops.toList.drop i->Rp ev σ->abs h=σ.heap->holds (Sx.opsM A X Sg ops l hs ev h K)->
  ∃σ' ev' h' hl,Sx.opsTr X.C (uB X.C) X.pts ops (List.range' i l.length) σ (hl.map abs) σ'/\Rp ev' σ'/\abs h'=σ'.heap/\Fr (wsOf l) (ksOf X.pts l) (rsOf X.pts l) σ σ'/\holds (K ev' h' hl)
 | [],i,hs,ev,h,σ,K,_,hR,ha,hk=>⟨σ,ev,h,[],⟨rfl,rfl⟩,hR,ha,.refl _ _ _ _,hk⟩
 |o :: l,i,hs,ev,h,σ,K,hl,hR,ha,hk=>by
  have hi:ops[i]?=some o:=by
   obtain⟨t,hl⟩:=hl
   have:(ops.toList.drop i)[0]?=some o:=by rw[←hl];rfl
   simpa using this
  obtain⟨σ₁,ev₁,h₁,q1,q2,q3,q4,q5⟩:=uh (K:=λev h=>Sx.opsM A X Sg ops l hs.tail ev h λev' h' hl=>K ev' h' (h :: hl)) hA hR ha hi hk
  have hl':l <+: ops.toList.drop (i+1):=by
   obtain⟨t,hl⟩:=hl
   exact⟨t,by rw[←qbD,←hl];rfl⟩
  obtain⟨σ',ev',h',ms,p1,p2,p3,p4,p5⟩:=opsM_ok hA l (i+1) hs.tail ev₁ h₁ σ₁ _ hl' q2 q3 q5
  refine⟨σ',ev',h',h₁ :: ms,⟨σ₁,ms.map abs,q1,by rw[qat,q3],p1⟩,p2,p3,?_,p5⟩
  have f1:Fr (wsOf (o :: l)) (ksOf X.pts (o :: l)) (rsOf X.pts (o :: l)) σ σ₁:=q4.mono (aX (by simp)) (aX (by simp)) (aX (by simp))
  have sub:∀(f:Oper->Tp) (i:Nat),i∈l.filterMap f->i∈(o :: l).filterMap f:=by
   intro f i hi
   rw[qbj]at hi ⊢
   obtain⟨x,hx,e⟩:=hi
   exact⟨x,by simp[hx],e⟩
  exact f1.trans (p4.mono (sub _) (sub _) (sub _))
def atM_map(h0:HT)(hl:List HT)(p:Nat×Nat):abs (Sx.atM h0 hl p)=Sx.atM (abs h0) (hl.map abs) p:=by
 unfold Sx.atM
 rw[←qat,List.getD_eq_getElem?_getD,List.getD_eq_getElem?_getD,qaA]
 cases (h0 :: hl)[match Nat.ble p.1 p.2 with|true=>p.2+1|false=>p.2]?<;>rfl
def reM_ok(hA:AlgOk A X.C Sg X.T holds abs){ops:Tm}{hs:List (TG)}{ev:Env}{h0:HT}{hl:List HT}{K:R}{σ σ':St}(hR:Rp ev σ')(h0e:abs h0=σ.heap):∀ {l:List (Nat×Nat)},holds (Sx.reM A X Sg ops hs ev h0 hl K l)->
  Sx.AgainAt X.C (uB X.C) X.pts ops σ (hl.map abs) σ' l/\holds K
 | [],h=>⟨λp hp=>(by cases hp),h⟩
 |q :: l,h=>by
  have h:holds (match ops[q.1]? with
   |some o=>match o.dst with
    |some d=>opG A X Sg ops o (hs.getD q.1 []) ev (Sx.atM h0 hl q) λev' _=>Sx.samS A (ev.tm.getD d .no) (ev'.tm.getD d .no) (Sx.reM A X Sg ops hs ev h0 hl K l)
    |none=>A.fail
   |none=>A.fail):=h
  split at h
  next o ho=>
   split at h
   next d hd=>
    obtain⟨σ₂,ev₂,h₂,q1,q2,q3,_,q5⟩:=uh (σ:={ σ' with heap:=Sx.atM σ.heap (hl.map abs) q }) hA (hR.heap _) (by rw[atM_map (abs:=abs),h0e]) ho h
    obtain⟨⟨x,s1,s2⟩,s3⟩:=Sx.samS_ok hA hR q2 q5
    obtain⟨r1,r2⟩:=reM_ok hA hR h0e s3
    refine⟨λp hp=>?_,r2⟩
    rcases qap.1 hp with rfl|hp
    ·exact⟨σ₂,q1,o,d,x,ho,hd,s1,s2⟩
    ·exact r1 p hp
   ·exact absurd h hA.fail
  ·exact absurd h hA.fail
def sd(hA:AlgOk A X.C Sg X.T holds abs){dr:Dr}
  (hdr:Sx.DrOk X.C dr) :
  ∀(c:AC) (ev:Env) (h:HT) (σ:St) (kn:KN R HT) (kx:Exit->KN R HT),Rp ev σ->abs h=σ.heap->holds (exec A X Sg dr c ev h kn kx)->Out X holds abs (er X c) σ kn kx:=by
 intro c
 induction c with
 |skip=>intro ev h σ kn kx hR ha hk;exact⟨.normal,σ,ev,h,.skip,hR,ha,.refl _ _ _ _,.inl ⟨rfl,hk⟩⟩
 |ret=>intro ev h σ kn kx hR ha hk;exact⟨.ret,σ,ev,h,.ret,hR,ha,.refl _ _ _ _,.inr ⟨by simp,hk⟩⟩
 |exit id=>intro ev h σ kn kx hR ha hk;exact⟨.exit id,σ,ev,h,.exit,hR,ha,.refl _ _ _ _,.inr ⟨by simp,hk⟩⟩
 |label l=>intro ev h σ kn kx hR ha hk;exact⟨.normal,σ,ev,h,.label,hR,ha,.refl _ _ _ _,.inl ⟨rfl,hk⟩⟩
 |seq a b iha ihb=>
  intro ev h σ kn kx hR ha hk
  obtain⟨e,σ₁,ev₁,h₁,q1,q2,q3,q4,q5⟩:=iha ev h σ _ _ hR ha hk
  have m1:Fr (wrT (er X (.seq a b))) (az X.pts (er X (.seq a b))) (wrR X.pts (er X (.seq a b))) σ σ₁:=
   q4.mono (λi hi=>qaO _ hi) (λi hi=>qaO _ hi) (λi hi=>qaO _ hi)
  rcases q5 with⟨rfl,q5⟩|⟨q5,q6⟩
  ·obtain⟨e',σ',ev',h',p1,p2,p3,p4,p5⟩:=ihb ev₁ h₁ σ₁ kn kx q2 q3 q5
   exact⟨e',σ',ev',h',.seq q1 p1,p2,p3,m1.trans (p4.mono (λi hi=>qa4 _ hi) (λi hi=>qa4 _ hi) (λi hi=>qa4 _ hi)),p5⟩
  ·exact⟨e,σ₁,ev₁,h₁,.seqX q1 q5,q2,q3,m1,.inr ⟨q5,q6⟩⟩
 |scope b ih=>
  intro ev h σ kn kx hR ha hk
  obtain⟨e,σ₁,ev₁,h₁,q1,q⟩:=ih ev h σ kn kx hR ha hk
  exact⟨e,σ₁,ev₁,h₁,.scope q1,q⟩
 |region id ops draw hs j=>
  intro ev h σ kn kx hR ha hk
  have hk':holds (match drX dr draw X.pts ops with
   |none=>A.fail
   |some ps=>qS A X.pts (.region id ops draw) j ev kn λkn=>Sx.regE A X Sg ops hs ps ev h kn):=hk
  split at hk'
  ·exact absurd hk' hA.fail
  next ps hd=>
   refine ph hA (c:=.region id ops draw) rfl rfl rfl hR (λkn hk=>?_) hk'
   unfold Sx.regE at hk
   cases hmn:Sx.manyOf ps with
   |some l=>
    rw[hmn]at hk
    simp only at hk
    obtain⟨σ',ev',h',hl,p1,p2,p3,p4,p5⟩:=opsM_ok hA ops.toList 0 hs ev h σ _ (by rw[qbq];exact qc7 _) hR ha hk
    obtain⟨p5,p6⟩:=reM_ok (σ:=σ) hA p2 ha p5
    have p1:Sx.opsTr X.C (uB X.C) X.pts ops (List.range ops.size) σ (hl.map abs) σ':=by
     rw[qbu];simpa using p1
    refine⟨.normal,σ',ev',h',?_,p2,p3,p4,.inl ⟨rfl,p6⟩⟩
    cases draw with
    |false=>cases hd;cases hmn
    |true=>
     have hq:=hdr _ _ _ hd
     rw[hmn]at hq
     obtain⟨n,g1⟩:=Sx.opsTr_at p1
     obtain⟨m,g2⟩:=Sx.again_at p5
     exact .drawA (hq (max n m) σ σ' _ (g1 _ (qcg _ _)) (g2 _ (qcm _ _)))
   |none=>
    rw[hmn]at hk
    simp only at hk
    cases hsp:Sx.splOf ps with
    |none=>
     rw[hsp]at hk
     simp only at hk
     obtain⟨σ',ev',h',p1,p2,p3,p4,p5⟩:=opsE_ok hA ops.toList 0 hs ev h σ rfl hR ha hk
     obtain⟨p5,p6⟩:=Sx.sepK_ok hA p2 p5
     have p1:aT X.C (uB X.C) X.pts ops (List.range ops.size) σ σ':=by
      rw[qbu];simpa using p1
     refine⟨.normal,σ',ev',h',?_,p2,p3,p4,.inl ⟨rfl,p6⟩⟩
     cases draw with
     |false=>exact .region p1
     |true=>
      have hq:=hdr _ _ _ hd
      rw[hmn]at hq;simp only at hq;rw[hsp]at hq
      exact .draw (λn hn=>hq n _ _ hn p5) p1
    |some q=>
     rw[hsp]at hk
     simp only at hk
     obtain⟨σ₁,ev₁,h₁,p1,p2,p3,p4,p5⟩:=kP hA (ops.toList.take (q.2+1)) 0 hs ev h σ (by rw[qbq];exact List.take_prefix _ _) hR ha hk
     unfold Sx.reK at p5
     split at p5
     next o ho=>
      split at p5
      next d hod=>
       obtain⟨σ₂,ev₂,h₂,q1,q2,q3,_,q5⟩:=uh hA p2 p3 ho p5
       simp only at q5
       split at q5
       next x y hx hy=>
        obtain⟨u,e1,e2⟩:=hA.opt _ _ q5
        have e1:=Sx.eqFn_ok e1
        subst e1
        have sm:Sx.SameAt ops q.1 σ₁ σ₂:=⟨o,d,x,ho,hod,Sx.entF_ok p2 hx,Sx.entF_ok q2 hy⟩
        obtain⟨σ',ev',h',r1,r2,r3,r4,r5⟩:=kP hA (ops.toList.drop (q.2+1)) (q.2+1) _ ev₁ h₁ σ₁ (qc7 _) p2 p3 e2
        refine⟨.normal,σ',ev',h',?_,r2,r3,?_,.inl ⟨rfl,r5⟩⟩
        ·cases draw with
         |false=>cases hd;cases hsp
         |true=>
          have hq:=hdr _ _ _ hd
          rw[hmn]at hq;simp only at hq;rw[hsp]at hq
          exact .drawS (λn h1 h2 h3=>hq n _ _ _ _ h1 h2 sm h3) p1 q1 r1
        ·refine(p4.mono (λi hi=>?_) (λi hi=>?_) (λi hi=>?_)).trans (r4.mono (λi hi=>?_) (λi hi=>?_) (λi hi=>?_))
         all_goals
          replace hi:=qbj.1 hi
          obtain⟨o,ho,e⟩:=hi
          exact qbj.2 ⟨o,(by first|exact qbo ho|exact qbt ho),e⟩
       ·exact absurd q5 hA.fail
      ·exact absurd p5 hA.fail
     ·exact absurd p5 hA.fail
 |cond c a b j iha ihb=>
  intro ev h σ kn kx hR ha hk
  have hk':holds (match sval ev c with
   | .st (.leaf (.l true))=>exec A X Sg dr a ev h kn kx
   | .st (.leaf (.l false))=>exec A X Sg dr b ev h kn kx
   | .st (.leaf (.b t))=>qS A X.pts (er X (.cond c a b j)) j ev kn λkn=>A.cond t (exec A X Sg dr a ev h kn kx) (exec A X Sg dr b ev h kn kx)
   |_=>A.fail):=hk
  have ga:∀ {kn},oval σ.tmps c = .bool true->holds (exec A X Sg dr a ev h kn kx)->Out X holds abs (er X (.cond c a b j)) σ kn kx:=by
   intro kn hc hk
   obtain⟨e,σ₁,ev₁,h₁,q1,q2,q3,q4,q5⟩:=iha ev h σ kn kx hR ha hk
   exact⟨e,σ₁,ev₁,h₁,.cond hc q1,q2,q3,q4.mono (λi hi=>qaO _ hi) (λi hi=>qaO _ hi) (λi hi=>qaO _ hi),q5⟩
  have gb:∀ {kn},oval σ.tmps c = .bool false->holds (exec A X Sg dr b ev h kn kx)->Out X holds abs (er X (.cond c a b j)) σ kn kx:=by
   intro kn hc hk
   obtain⟨e,σ₁,ev₁,h₁,q1,q2,q3,q4,q5⟩:=ihb ev h σ kn kx hR ha hk
   exact⟨e,σ₁,ev₁,h₁,.cond hc (show uEx X.C X.pts (if false=true then er X a else er X b) σ e σ₁ by rw[qdr (by simp)];exact q1),q2,q3,q4.mono (λi hi=>qa4 _ hi) (λi hi=>qa4 _ hi) (λi hi=>qa4 _ hi),q5⟩
  split at hk'
  next e=>exact ga (hR.sval e (by simp)).1 hk'
  next e=>exact gb (hR.sval e (by simp)).1 hk'
  next t e=>
   have h1:=(hR.sval e (by simp)).1
   refine ph hA (c:=er X (.cond c a b j)) rfl rfl rfl hR (λkn hk=>?_) hk'
   rcases hA.cond _ _ _ hk with⟨ht,hk1⟩|⟨ht,hk1⟩
   ·exact ga (by rw[h1,ht];rfl) hk1
   ·exact gb (by rw[h1,ht];rfl) hk1
  ·exact absurd hk' hA.fail
 |block id b j ih=>
  intro ev h σ kn kx hR ha hk
  refine ph hA (c:=er X b) rfl rfl rfl hR (λkn hk=>?_) (show holds (qS A X.pts (er X b) j ev kn λkn=>exec A X Sg dr b ev h kn λe=>match qA e id with
   |true=>kn
   |false=>kx e)from hk)
  obtain⟨e,σ₁,ev₁,h₁,q1,q2,q3,q4,q5⟩:=ih ev h σ _ _ hR ha hk
  refine⟨gP id e,σ₁,ev₁,h₁,.block q1,q2,q3,q4,?_⟩
  rcases q5 with⟨rfl,q5⟩|⟨q5,q6⟩
  ·exact .inl ⟨rfl,q5⟩
  ·cases e with
   |normal=>exact absurd rfl q5
   |exit i=>
    by_cases hi:i=id
    ·subst hi
     left
     simp only[gP,if_true,true_and]
     simpa[qA]using q6
    ·right
     simp only[gP,qdr hi]
     refine⟨by simp,?_⟩
     have:Nat.beq i id=false:=by
      rw[←qaS];intro h;exact hi (qac h)
     simpa[qA,this]using q6
   |_=>exact .inr ⟨by simp[gP],by simpa[qA,gP]using q6⟩
 |loop b lv ih=>
  intro ev h σ kn kx hR ha hk
  have hk':holds (match pk ev lv with
   |none=>A.fail
   |some ls=>match lv.rows.all λp=>!(az X.pts (er X b)).contains p.1 with
    |false=>A.fail
    |true=>A.loop (λself ls h=>reE A X.pts (er X b) .nil lv ev ls λev=>exec A X Sg dr b ev h (λev h=>match pk ev lv with
     |some ls=>self ls h
     |none=>A.fail) kx) ls h):=hk
  split at hk'
  ·exact absurd hk' hA.fail
  next ls0 hp0=>
   split at hk'
   ·exact absurd hk' hA.fail
   next hlv=>
    have hlive:∀p∈lv.rows,p.1∉az X.pts (er X b):=by
     intro p hp
     have:=qab.1 hlv p hp
     simpa using this
    obtain⟨it,i0,i1,n,hn⟩:=hA.loop _ _ _ hk'
    have main:∀(n:Nat) (ls:TB) (h:HT) (τ:St) (evτ:Env),Rp evτ τ->Fr (wrT (er X b)) (az X.pts (er X b)) (wrR X.pts (er X b)) σ τ->pk evτ lv=some ls->abs h=τ.heap->holds (it n ls h)->
      ∃e σ' ev' h',uEx X.C X.pts (.loop (er X b)) τ e σ'/\e≠.normal/\Rp ev' σ'/\abs h'=σ'.heap/\Fr (wrT (er X b)) (az X.pts (er X b)) (wrR X.pts (er X b)) σ σ'/\holds (kx e ev' h'):=by
     intro n
     induction n with
     |zero=>intro ls h τ evτ _ _ _ _ hh;exact absurd hh (i0 _ _)
     |succ n ihn=>
      intro ls h τ evτ hRτ hF hp haτ hh
      rw[i1]at hh
      obtain⟨ev1,g1,g2⟩:=reE_ok hA hR hRτ hF hp (va τ _) (.inr hlive) hh
      obtain⟨e,σ₁,ev₁,h₁,q1,q2,q3,q4,q5⟩:=ih ev1 h (τ.clear (az X.pts (er X b))) _ _ g1 (by rw[uZ];exact haτ) g2
      have hF1:Fr (wrT (er X b)) (az X.pts (er X b)) (wrR X.pts (er X b)) σ σ₁:=(hF.trans (clear_fr (box_sub _ _))).trans q4
      rcases q5 with⟨rfl,q5⟩|⟨q5,q6⟩
      ·simp only at q5
       split at q5
       next ls1 hp1=>
        obtain⟨e',σ',ev',h',p1,p2,p3,p4,p5,p6⟩:=ihn ls1 h₁ σ₁ ev₁ q2 hF1 hp1 q3 q5
        exact⟨e',σ',ev',h',.loop q1 p1,p2,p3,p4,p5,p6⟩
       ·exact absurd q5 hA.fail
      ·exact⟨e,σ₁,ev₁,h₁,.loopX q1 q5,q5,q2,q3,hF1,q6⟩
    obtain⟨e',σ',ev',h',p1,p2,p3,p4,p5,p6⟩:=main n ls0 h σ ev hR (.refl _ _ _ _) hp0 ha hn
    exact⟨e',σ',ev',h',p1,p3,p4,p5,.inr ⟨p2,p6⟩⟩
 |rangeFunc f κ ids=>
  intro ev h σ kn kx hR ha hk
  have hk':holds (match (generalizing:=false) f,sval ev f,X.pts with
   | .tmp _,.st (.leaf (.v v)),_ :: _=>match Nat.beq ev.tm.length (X.T κ).nt,lh ev.tm (X.T κ).caps with
    |true,some vs=>A.rfun κ v vs h λpd h=>A.pend pd (kn ev h) (kx .ret ev h) (ids.map λid=>(id,kx (.exit id) ev h))
    |_,_=>A.fail
   |_,_,_=>A.fail):=hk
  clear hk
  cases f with
  |tmp t=>
   cases hpts:X.pts with
   |nil=>rw[hpts]at hk';split at hk'<;>first|exact absurd hk' hA.fail|(rename_i e;cases e)
   |cons p0 pr=>
    rw[hpts]at hk'
    split at hk'
    next t2 v hd tl e0 e e1=>
     split at hk'
     next vs hnt hcv=>
      have hnt:=qac hnt
      obtain⟨h1,g1⟩:=hR.sval e (by simp)
      have gv:aY v=true:=g1 (.v v) (by simp[S0.cells])
      obtain⟨g,first,cap,r,H1,lp,h2,r1,r2,r3,r4,r5,r6⟩:=hA.rfun _ _ _ _ _ hk'
      subst r1
      rw[ha]at r2 r3 r5
      have hsnap:tr σ.tmps (lpOf (X.T κ) κ vs).tmps:=by
       refine⟨by simp only[lpOf,jH,List.length_replicate];rw[←hnt,hR.len],nd hR hcv _ _ λi x hx=>?_⟩
       rw[qaM]at hx
       split at hx
       ·cases hx;exact .inl rfl
       ·cases hx
      have hpend:=hA.pend _ _ _ _ r6
      have hex:∀ {e:Exit},tH lp.pending=some e->uEx X.C X.pts (er X (.rangeFunc (.tmp t) κ ids)) σ e { σ with heap:=H1.set σ.heap.length (.loop { lp with state:=.exhausted }) }:=by
       intro e he
       have hne:X.pts≠[]:=by rw[hpts];simp
       refine uEx.rangeFunc (r:=r) (φ:=κ) (tm:=(lpOf (X.T κ) κ vs).tmps) hne hsnap h1 (dt.1 gv).1 ?_ r3 r4 he
       simpa[lpOf]using r2
      have hR':Rp ev { σ with heap:=H1.set σ.heap.length (.loop { lp with state:=.exhausted }) }:=hR.heap _
      rcases hpend with⟨p1,p2⟩|⟨p1,p2⟩|⟨id,x,p1,p2,p3⟩
      ·exact⟨.normal,_,ev,h2,hex (by rw[p1];rfl),hR',r5,(Fr.refl _ _ _ _).heap _,.inl ⟨rfl,p2⟩⟩
      ·exact⟨.ret,_,ev,h2,hex (by rw[p1];rfl),hR',r5,(Fr.refl _ _ _ _).heap _,.inr ⟨by simp,p2⟩⟩
      ·obtain⟨id',hid,he⟩:=qaN.1 p2
       cases he
       exact⟨.exit id,_,ev,h2,hex (by rw[p1];rfl),hR',r5,(Fr.refl _ _ _ _).heap _,.inr ⟨by simp,p3⟩⟩
     ·exact absurd hk' hA.fail
    ·exact absurd hk' hA.fail
  |_=>exact absurd hk' hA.fail
end
end Sx
namespace Sx
section
variable [Val] [Kno] {R HT:Type} {A:Alg R HT} {X:Ctxt} {Sg:Tc} {holds:R->Prop} {abs:HT->Ts}
def dB(ls:TB):Prop:=∀l∈ls,match l with
 | .v x=>aY x=true
 |_=>True
def vn{xs:List S0}(h:dB (ca xs)):∀x∈xs,x.good:=by
 intro x hx l hl
 have hm:l.lf∈ca xs:=by
  induction xs with
  |nil=>cases hx
  |cons y ys ih=>
   simp only[ca,qaH,qaN]
   rcases qap.1 hx with rfl|hx
   ·exact .inl ⟨l,hl,rfl⟩
   ·exact .inr (ih (λl hl=>h l (by simp only[ca,qaH];exact .inr hl)) hx)
 have:=h _ hm
 cases l<;>first|trivial|exact this
def nE:∀ {xs:List S0},(∀x∈xs,x.good)->dB (ca xs)
 | [],_,l,hl=>by cases hl
 |x :: xs,h,l,hl=>by
  simp only[ca,qaH,qaN]at hl
  rcases hl with⟨c,hc,rfl⟩|hl
  ·have:=h x (by simp) c hc
   cases c<;>first|trivial|exact this
  ·exact nE (λy hy=>h y (by simp[hy])) l hl
def fC{C:Cfg}{T:Tt}(hA:AlgOk A C Sg T holds abs):∀ {cs:List SL} {K:R},holds (chkAll A cs K)->(∀c∈cs,co c.val=true)/\holds K
 | [],K,h=>⟨by simp,h⟩
 |c :: cs,K,h=>by
  cases c with
  |v x=>
   have h':holds (A.opt (chk2 x) λ_=>chkAll A cs K):=h
   obtain⟨u,hu,h1⟩:=hA.opt _ _ h'
   obtain⟨h2,h3⟩:=fC hA h1
   refine⟨qbd.2 ⟨?_,h2⟩,h3⟩
   unfold chk2 at hu
   split at hu
   ·assumption
   ·cases hu
  |i k n=>obtain⟨h2,h3⟩:=fC (cs:=cs) (K:=K) hA h;exact⟨qbd.2 ⟨rfl,h2⟩,h3⟩
  |b t=>obtain⟨h2,h3⟩:=fC (cs:=cs) (K:=K) hA h;exact⟨qbd.2 ⟨rfl,h2⟩,h3⟩
  |l t=>obtain⟨h2,h3⟩:=fC (cs:=cs) (K:=K) hA h;exact⟨qbd.2 ⟨rfl,h2⟩,h3⟩
def chkRes_ok{C:Cfg}{T:Tt}(hA:AlgOk A C Sg T holds abs){many:Bool}{x:S0}{K:R}(hx:x.good)(h:holds (fl A many x K)):(many=true->bg x.val=true)/\holds K:=by
 unfold fl at h
 split at h
 next cs=>
  obtain⟨h1,h2⟩:=fC hA h
  refine⟨λ_=>?_,h2⟩
  simp only[S0.val,bg,qab,qaN]
  rintro _ ⟨c,hc,rfl⟩
  exact h1 c hc
 next hne=>
  refine⟨λhm=>?_,h⟩
  cases x with
  |agg cs=>exact absurd rfl (hne cs hm)
  |leaf l=>exact(dt.1 (SL.val_good (hx l (by simp[S0.cells])))).2.1
def resE_ok(hA:AlgOk A X.C Sg X.T holds abs){ev:Env}{σ:St}{h:HT}(hR:Rp ev σ)(ha:abs h=σ.heap){many:Bool}:∀(rvs:List ResultVar) (sks:TG) (acc:TB) (K:TB->HT->R),holds (resE A X many ev h rvs sks acc K)->
  ∃ys,bO ys sks=true/\(∀y∈ys,y.good)/\(many=true->∀y∈ys,bg y.val=true)/\ys.length=rvs.length/\cv X.C σ rvs=some (ai ys)/\holds (K (acc++ca ys) h)
 | [],sks,acc,K,hk=>by
  cases sks with
  |nil=>
   have hk':holds (K acc h):=hk
   exact⟨[],rfl,by simp,by simp,rfl,rfl,by rw[ca,qa2];exact hk'⟩
  |cons _ _=>exact absurd hk hA.fail
 |rv :: rvs,sks,acc,K,hk=>by
  cases sks with
  |nil=>exact absurd hk hA.fail
  |cons sk sks=>
   have fin:∀x:S0,x.is sk=true->x.good->ej X.C σ rv=some x.val->holds (fl A many x (resE A X many ev h rvs sks (acc++x.cells.map SL.lf) K))->
     ∃ys,bO ys (sk :: sks)=true/\(∀y∈ys,y.good)/\(many=true->∀y∈ys,bg y.val=true)/\ys.length=(rv :: rvs).length/\cv X.C σ (rv :: rvs)=some (ai ys)/\holds (K (acc++ca ys) h):=by
    intro x hx hg hres hk
    obtain⟨h1,h2⟩:=chkRes_ok hA hg hk
    obtain⟨ys,a1,a2,a3,a4,a5,a6⟩:=resE_ok hA hR ha rvs sks _ K h2
    refine⟨x :: ys,by simp[bO,hx,a1],qbd.2 ⟨hg,a2⟩,λhm=>qbd.2 ⟨h1 hm,a3 hm⟩,by simp[a4],?_,by simpa[ca]using a6⟩
    simp only[cv,hres,a5];rfl
   cases rv with
   |tmp t=>
    have hk':holds (match ev.tm.getD t .no with
     | .st x=>match x.is sk with
      |true=>fl A many x (resE A X many ev h rvs sks (acc++x.cells.map SL.lf) K)
      |false=>A.fail
     |_=>A.fail):=hk
    split at hk'
    next x hx=>
     obtain⟨g1,g2⟩:=hR.at hx (by simp)
     split at hk'
     next his=>
      exact fin x his g2 (by simp[ej,List.getD_eq_getElem?_getD,g1];rfl) hk'
     ·exact absurd hk' hA.fail
    ·exact absurd hk' hA.fail
   |cell a t=>
    have hk':holds (match (generalizing:=false) aggT X.C.P t with
     |some agg=>
      let n:=if agg then X.C.P.cellsOf t else 1
      match (generalizing:=false) ev.tm.getD a .no with
      | .lad s off=>match (pL ev s).bind (λcs=>(cutS cs off n).bind (mkS0 agg))with
       |some x=>match x.is sk with
        |true=>fl A many x (resE A X many ev h rvs sks (acc++x.cells.map SL.lf) K)
        |false=>A.fail
       |none=>A.fail
      | .st (.leaf (.v p))=>match (generalizing:=false) agg,sk with
       |true,.agg _=>A.peek (.ld n p) h λcs=>ucS A sk cs λx r=>A.uc0 r (fl A many x (resE A X many ev h rvs sks (acc++x.cells.map SL.lf) K))
       |false,.leaf _=>A.peek (.ld n p) h λcs=>ucS A sk cs λx r=>A.uc0 r (fl A many x (resE A X many ev h rvs sks (acc++x.cells.map SL.lf) K))
       |_,_=>A.fail
      |_=>A.fail
     |none=>A.fail):=hk
    clear hk
    split at hk'
    next agg hag=>
     simp only at hk'
     split at hk'
     next s off hl=>
      obtain⟨g1,_⟩:=hR.at hl (by simp)
      split at hk'
      next x hx=>
       obtain⟨cs,hr,hx⟩:=qai.1 hx
       obtain⟨ds,hd,hx⟩:=qai.1 hx
       obtain⟨r1,r2,_⟩:=iJ hR hr
       obtain⟨c1,c2⟩:=ly hd
       obtain⟨v,v1,v2⟩:=cu hag c1
       obtain⟨m1,m2⟩:=lS hx
       split at hk'
       next his=>
        have hv:x.val=v:=by
         rcases m2 with⟨a1,a2⟩|⟨a1,a2⟩<;>rcases v2 with⟨b1,b2⟩|⟨b1,b2⟩
         ·rw[a2,b2]
         ·rw[a1]at b1;cases b1
         ·rw[a1]at b1;cases b1
         ·rw[a2]at b2;simpa using b2
        refine fin x his (λl hl=>?_) ?_ hk'
        ·rw[m1]at hl;exact r2 l (c2 l hl)
        ·simp only[ej,List.getD_eq_getElem?_getD,g1,qbg,SV.val,r1,v1,hv]
       ·exact absurd hk' hA.fail
      ·exact absurd hk' hA.fail
     next p hl=>
      obtain⟨g1,_⟩:=hR.at hl (by simp)
      have common:agg=gZ sk->holds (A.peek (.ld (if agg then X.C.P.cellsOf t else 1) p) h λcs=>ucS A sk cs λx r=>A.uc0 r (fl A many x (resE A X many ev h rvs sks (acc++x.cells.map SL.lf) K)))->
        ∃ys,bO ys (sk :: sks)=true/\(∀y∈ys,y.good)/\(many=true->∀y∈ys,bg y.val=true)/\ys.length=(ResultVar.cell a t :: rvs).length/\cv X.C σ (.cell a t :: rvs)=some (ai ys)/\holds (K (acc++ca ys) h):=by
       intro hsk hk
       obtain⟨cs,h2,hk1⟩:=hA.peek _ _ _ hk
       simp only[Pk.run]at h2
       rw[ha]at h2
       obtain⟨id,off,vs,rfl,h3,h4⟩:=ldP_ok h2
       rw[qn]at h3
       obtain⟨v,h5,h6⟩:=cu hag h4
       rw[hsk]at h6
       obtain⟨x,r,q1,q2,q3,hk2⟩:=mF hA hk1
       obtain⟨hr,hk3⟩:=hA.uc0 _ _ hk2
       rw[hr,qa2]at q1
       rw[q1]at h6
       refine fin x q2 q3 ?_ hk3
       rw[nG q2 h6]
       simp only[ej,List.getD_eq_getElem?_getD,g1,qbg,SV.val,S0.val,SL.val,h3,qag,h5]
      split at hk'
      ·exact common rfl hk'
      ·exact common rfl hk'
      ·exact absurd hk' hA.fail
     ·exact absurd hk' hA.fail
    ·exact absurd hk' hA.fail
structure FnIs(X:Ctxt)(Sg:Tc)(f:TJ)(fn:Fn1):Prop where
 is:∃g,X.C.P.funcs[f]?=some g/\g.body=some (er X fn.code)/\((g.name == "runtime.NumGoroutine")||X.C.opq f)=false/\g.ntmps=fn.nt/\g.results.toList=fn.rvs
 pts:X.pts=X.C.pts f
 sg:Sg f=some fn.sg
def sJ{ys:List S0}(hg:∀y∈ys,y.good)(hm:1<ys.length->∀y∈ys,bg y.val=true):noLoc (eM (ai ys))=true:=by
 match ys with
 | []=>rfl
 | [y]=>exact S0.noLoc (hg y (by simp))
 |a :: b :: l=>
  have h:=hm (by simp)
  have e:eM (ai (a :: b :: l)) = .tuple (ai (a :: b :: l)).toArray:=rfl
  rw[e]
  simp only[Am.noLoc,qab]
  intro v hv
  simp only[ai,qaN]at hv
  obtain⟨y,hy,rfl⟩:=hv
  exact h y hy
def jG:∀ {a:List S0} {sks:TG},bO a sks=true->a.length=sks.length
 | [],[],_=>rfl
 |x :: a,k :: sks,h=>by
  simp only[bO,qaa]at h
  simp[jG h.2]
 | [],_ :: _,h=>by cases h
 |_ :: _,[],h=>by cases h
def start_rp{xs:List S0}(hg:∀x∈xs,x.good)(nt:Nat)(H:Ts) :
  Rp ⟨xs.map .st++List.replicate (nt - xs.length) .no,List.replicate nt .nil⟩ { tmps:=ai xs++List.replicate (nt - (ai xs).length) undef,loc:=List.replicate nt none,heap:=H }:=by
 refine⟨by simp[ai],λi s hs=>?_,by simp,λi r hr=>?_⟩
 ·rw[qcJ]at hs
  split at hs
  next hi=>
   simp only[qbG]at hi
   simp only[qaA,qad]at hs
   obtain⟨x,hx,rfl⟩:=hs
   refine⟨?_,hg x (qaq hx)⟩
   rw[qaf (by simpa[ai]using hi)]
   simp[ai,hx,SV.val]
  ·rw[qaM]at hs
   split at hs
   ·cases hs;trivial
   ·cases hs
 ·simp only[qaM]at hr
  split at hr
  ·rename_i hi;cases hr
   simp[LR.ok,hi]
  ·cases hr
def oR(hA:AlgOk A X.C Sg X.T holds abs){dr:Dr}
  (hdr:Sx.DrOk X.C dr)
  {f:TJ} {fn:Fn1} (hf:FnIs X Sg f fn) {ls:TB} {h:HT} {K:TB->HT->R} (hls:dB ls) (hk:holds (af A X Sg dr fn ls h K)) :
  ∃rs h',aW X.C Sg f ls (abs h) rs (abs h')/\dB rs/\holds (K rs h'):=by
 obtain⟨g,f1,f2,f3,f4,f5⟩:=hf.is
 obtain⟨xs,r,e1,e2,hk1⟩:=mG hA hk
 obtain⟨hr,hk2⟩:=hA.un0 _ _ hk1
 rw[hr,qa2]at e1
 subst e1
 have hg:=vn hls
 have hR:=start_rp hg fn.nt (abs h)
 obtain⟨e,σ',ev',h',q1,q2,q3,_,q5⟩:=sd hA hdr fn.code _ h _ _ _ hR rfl hk2
 have main:(e = .normal∨e = .ret)->holds (resE A X (Nat.blt 1 fn.rvs.length) ev' h' fn.rvs fn.sg.rs [] K)->∃rs h',aW X.C Sg f (ca xs) (abs h) rs (abs h')/\dB rs/\holds (K rs h'):=by
  intro he hk
  obtain⟨ys,a1,a2,a3,a4,a5,a6⟩:=resE_ok hA q2 q3 fn.rvs fn.sg.rs [] K hk
  rw[qaw]at a6
  refine⟨ca ys,h',⟨fn.sg,xs,ys,hf.sg,⟨e2,rfl,hg⟩,⟨a1,rfl,a2⟩,?_⟩,nE a2,a6⟩
  rw[q3]
  refine gD.intro f1 f2 f3 ?_ he (by rw[f5];exact a5) (sJ a2 λhl=>a3 (by rw[qaU];omega))
  rw[hf.pts]at q1
  simpa[jK,f4]using q1
 rcases q5 with⟨rfl,q5⟩|⟨q5,q6⟩
 ·exact main (.inl rfl) q5
 ·cases e with
  |ret=>exact main (.inr rfl) q6
  |_=>exact absurd q6 hA.fail
def kZ:∀(caps:List (Nat×SK)) (xs:List S0) (tm:List SV) (tmps:Tl),tm.length=tmps.length->(∀x∈xs,x.good)->(∀(i:Nat) s,tm[i]?=some s->s.ok tmps i)->
  (ep 0 caps xs tm).length=tm.length/\∀(i:Nat) s,(ep 0 caps xs tm)[i]?=some s->s.ok (cb (caps.map (·.1)) (ai xs) tmps) i
 | [],xs,tm,tmps,_,_,h=>⟨by simp[ep],by simpa[ep,cb]using h⟩
 |(t,sk) :: caps,[],tm,tmps,_,_,h=>⟨by simp[ep],by simpa[ep,cb,ai]using h⟩
 |(t,sk) :: caps,x :: xs,tm,tmps,hl,hg,h=>by
  have:=kZ caps xs (tm.set t (.st x)) (tmps.set t x.val) (by simp[hl]) (λy hy=>hg y (by simp[hy])) (λi s hs=>?_)
  ·simpa[ep,cb,ai]using this
  ·simp only[qaD]at hs
   split at hs
   next hi=>
    subst hi
    split at hs
    next hlt=>
     cases hs
     exact⟨by rw[qaE (by omega)];rfl,hg x (by simp)⟩
    ·cases hs
   next hi=>
    have:=h i s hs
    cases s<;>first|trivial|exact⟨by rw[qav hi];exact this.1,this.2⟩
def fw(nt nt':Nat):∀(caps:List (Nat×SK)) (xs:List S0) (tm:List SV),ep nt caps xs tm=ep nt' caps xs tm
 | [],_,_=>rfl
 |_ :: _,[],_=>rfl
 |(t,_) :: caps,x :: xs,tm=>fw nt nt' caps xs _
def jI(nt:Nat):∀(caps:List (Nat×SK)) (vs tm:Tl),mL nt caps vs tm=cb (caps.map (·.1)) vs tm
 | [],_,_=>by simp[mL,cb]
 |_ :: _,[],_=>by simp[mL,cb]
 |(t,_) :: caps,v :: vs,tm=>by simp only[mL,qat,cb];exact jI nt caps vs _
def nK{T T':Nat->Tmp->Code}:∀ {c:AC},noRF c=true->c.erase T=c.erase T':=by
 intro c
 induction c with
 |seq a b iha ihb=>intro h;simp only[noRF,qaa]at h;simp only[AC.erase,iha h.1,ihb h.2]
 |scope b ih=>intro h;simp only[AC.erase,ih h]
 |cond c a b j iha ihb=>intro h;simp only[noRF,qaa]at h;simp only[AC.erase,iha h.1,ihb h.2]
 |block id b j ih=>intro h;simp only[AC.erase,ih h]
 |loop b lv ih=>intro h;simp only[AC.erase,ih h]
 |rangeFunc f κ ids=>intro h;cases h
 |_=>intro _;rfl
def qV:∀ {caps:List (Nat×SK)} {xs:List S0},pt caps=true->bO xs (caps.map (·.2))=true->kC xs=ai xs
 | [],[],_,_=>rfl
 |p :: caps,x :: xs,h1,h2=>by
  simp only[pt,qbF,qaa]at h1
  simp only[qat,bO,qaa]at h2
  have ih:=qV (caps:=caps) h1.2 h2.2
  obtain⟨t,sk⟩:=p
  cases sk with
  |agg ks=>cases h1.1
  |leaf k=>
   cases x with
   |agg _=>cases h2.1
   |leaf l=>
    simp only[kC,qbC,ai,qat]at ih ⊢
    rw[ih];rfl
 | [],_ :: _,_,h=>by cases h
 |_ :: _,[],_,h=>by cases h
def execY_ok(hA:AlgOk A X.C Sg X.T holds abs){dr:Dr}
  (hdr:Sx.DrOk X.C dr)
  {st:Site} {vs:Tl} {l:Nat} {ls:TB} {h:HT} {K:TB->HT->R} {lp:ALoop} {ys:List S0} (h1:dG (abs h) l=some lp) (h2:lp.tmps=mL st.nt st.caps vs (List.replicate st.nt poison))
  (h3:lp.params=st.params.map (·.1)) (h4:lp.assign=st.assign.erase nL) (h5:lp.body=st.body.erase nL) (hy:Told (st.params.map (·.2)) ls ys)
  (hk:holds (vj A X Sg dr st vs l ls h K)):∃b h',iQ X.C l (ai ys) (abs h) (.bool b) (abs h')/\holds (K [.b b] h'):=by
 unfold vj at hk
 split at hk
 ·exact absurd hk hA.fail
 next hc=>
  simp only[qaa]at hc
  obtain⟨⟨c1,c2⟩,c3⟩:=hc
  obtain⟨xs,r,e1,e2,e3,hk1⟩:=ucSs_ok hA hk
  obtain⟨hr,hk2⟩:=hA.uc0 _ _ hk1
  rw[hr,qa2,qV c1 e2]at e1
  subst e1
  obtain⟨zs,r',d1,d2,hk3⟩:=mG hA hk2
  obtain⟨hr',hk4⟩:=hA.un0 _ _ hk3
  rw[hr',qa2]at d1
  obtain⟨y1,y2,y3⟩:=hy
  obtain⟨w1,w2⟩:=cz y1 d2 (y2.trans d1)
  have hzg:=w2 y3
  let X':Ctxt:={ X with pts:=[] }
  let σ₀:St:={ tmps:=cb lp.params (ai ys) lp.tmps,loc:=[],heap:=abs h }
  have hR:Rp ⟨ep st.nt st.params zs (ep st.nt st.caps xs (List.replicate st.nt .no)),[]⟩ σ₀:=by
   have a1:=kZ st.caps xs (List.replicate st.nt .no) (List.replicate st.nt poison) (by simp) e3 (λi s hs=>by
    rw[qaM]at hs;split at hs
    ·cases hs;trivial
    ·cases hs)
   have plen:∀(ts:List Tmp) (vs tm:Tl),(cb ts vs tm).length=tm.length:=by
    intro ts
    induction ts with
    |nil=>intro vs tm;simp[cb]
    |cons t ts ih=>intro vs tm;cases vs with
     |nil=>simp[cb]
     |cons v vs=>simp[cb,ih]
   have a2:=kZ st.params zs _ _ (by rw[a1.1,plen];simp) hzg a1.2
   have etm:σ₀.tmps=cb (st.params.map (·.1)) (ai zs) (cb (st.caps.map (·.1)) (ai xs) (List.replicate st.nt poison)):=by
    show cb lp.params (ai ys) lp.tmps=_
    rw[h3,h2,jI,w1]
   refine⟨?_,λi s hs=>?_,rfl,λi r hr=>by simp at hr⟩
   ·rw[etm,plen,plen,fw st.nt 0,fw st.nt 0,a2.1,a1.1];simp
   ·rw[fw st.nt 0,fw st.nt 0]at hs
    rw[etm]
    exact a2.2 i s hs
  obtain⟨e,σ₁,ev₁,h₁,q1,q2,q3,_,q5⟩:=sd (X:=X') hA hdr st.assign _ h σ₀ _ _ hR rfl hk4
  rcases q5 with⟨rfl,q5⟩|⟨_,q5⟩
  ·obtain⟨lp₁,h₂,p1,p2,p3,q6⟩:=hA.lp1 _ _ _ q5
   rw[q3]at p1 p3
   obtain⟨e,σ₂,ev₂,h₃,s1,s2,s3,_,s5⟩:=sd (X:=X') hA hdr st.body ev₁ h₂ { σ₁ with heap:=σ₁.heap.set l (.loop { lp₁ with state:=.busy }) } _ _ (q2.heap _) p3 q6
   have u1:uEx X.C [] lp.assign { tmps:=cb lp.params (ai ys) lp.tmps,loc:=[],heap:=abs h } .normal σ₁:=by
    rw[h4,nK (T':=λκ t=>eA (X.T κ) t) c2];exact q1
   have u2:uEx X.C [] lp.body { σ₁ with heap:=σ₁.heap.set l (.loop { lp₁ with state:=.busy }) } e σ₂:=by
    rw[h5,nK (T':=λκ t=>eA (X.T κ) t) c3];exact s1
   have hlen:(ai ys).length=lp.params.length:=by
    rw[h3]
    have:=jG y1
    simpa[ai]using this
   have fin:∀(j:Tk) (b:Bool),jumpOf e=some j->b=j.isNone->holds (A.lp2 l j h₃ λh=>K [.b b] h)->∃b h',iQ X.C l (ai ys) (abs h) (.bool b) (abs h')/\holds (K [.b b] h'):=by
    intro j b hj hb hk
    obtain⟨lp₂,h₄,z1,z2,z3⟩:=hA.lp2 _ _ _ _ hk
    rw[s3]at z1 z2
    refine⟨b,h₄,?_,z3⟩
    rw[z2,hb]
    exact iQ.intro h1 hlen u1 p1 p2 u2 hj z1
   rcases s5 with⟨rfl,s5⟩|⟨s5,s6⟩
   ·exact fin none true rfl rfl s5
   ·cases e with
    |ret=>exact fin (some .ret) false rfl rfl s6
    |exit id=>exact fin (some (.exit id)) false rfl rfl s6
    |_=>exact absurd s6 hA.fail
  ·exact absurd q5 hA.fail
end
end Sx
namespace Sx
section
variable {P:TC}
def ba_refl(a:ByteArray):(a==a)=true:=by
 cases a with|mk d=>show(d==d)=true;simp
def ba_eq{a b:ByteArray}(h:(a==b)=true):a=b:=by
 cases a with|mk d=>cases b with|mk e=>have h:(d==e)=true:=h;simp at h;rw[h]
def rE{d:TypeDesc}{k x:Value}{b:Bool}(h:Instr.sameNow d k x=some b):Instr.sameNow d k k=some true:=by
 unfold Instr.sameNow at h
 split at h
 ·simp[Instr.sameNow]
 ·simp[Instr.sameNow,ba_refl]
 ·simp[Instr.sameNow]
 ·cases h
def nM{d:TypeDesc}{k:Value}:∀(l l':Th) (i:Nat),Instr.findNow d k l i=some none->Instr.findNow d k (l++l') i=Instr.findNow d k l' (i+l.length)
 | [],l',i,h=>rfl
 |e :: l,l',i,h=>by
  unfold Instr.findNow at h
  split at h
  ·cases h
  next e1=>
   show(match Instr.sameNow d k e.key with|some true=>some (some (i,e.val))|some false=>Instr.findNow d k (l++l') (i+1)|none=>none)=_
   rw[e1]
   simp only
   rw[nM l l' (i+1) h,qaP]
   congr 1;omega
  ·cases h
def ue{d:TypeDesc}{k:Value}:∀(l l':Th) (i:Nat),Instr.findNow d k l i=none->Instr.findNow d k (l++l') i=none
 | [],l',i,h=>by cases h
 |e :: l,l',i,h=>by
  unfold Instr.findNow at h
  show(match Instr.sameNow d k e.key with|some true=>some (some (i,e.val))|some false=>Instr.findNow d k (l++l') (i+1)|none=>none)=none
  split at h
  ·cases h
  next e1=>rw[e1];exact ue l l' (i+1) h
  next e1=>rw[e1]
def mZ{kt:TI}{k:Value}:∀(l l':Th) (i:Nat),pev P (Instr.findAsking kt k l i)=some none->pev P (Instr.findAsking kt k (l++l') i)=pev P (Instr.findAsking kt k l' (i+l.length))
 | [],l',i,h=>rfl
 |e :: l,l',i,h=>by
  unfold Instr.findAsking at h
  rw[aw]at h
  show pev P (Op.equal kt k e.key >>= λb=>if b then pure (some (i,e.val))else Instr.findAsking kt k (l++l') (i+1))=_
  rw[aw]
  cases hq:pev P (Op.equal kt k e.key)with
  |none=>rw[hq]at h;cases h
  |some b=>
   rw[hq]at h
   simp only[qag]at h ⊢
   cases b with
   |true=>cases h
   |false=>
    simp only[qaj,if_false]at h ⊢
    rw[mZ l l' (i+1) h,qaP]
    congr 2;omega
def ask_one{kt:TI}{k v:Value}{b i:Nat}(h:pev P (Op.equal kt k k)=some true):pev P (Instr.findAsking kt k [⟨k,v,b⟩] i)=some (some (i,v)):=by
 show pev P (Op.equal kt k k >>= λb=>if b then pure (some (i,v))else Instr.findAsking kt k [] (i+1))=_
 rw[aw,h]
 rfl
def vl{kt:TI}{k:Value}{es:Th}{e:MapEntry}(he:e.key=k)(hs:pev P (Op.equal kt k k)=some true)(h:iq P kt k es=some none):iq P kt k (es++[e])=some (some es.length):=by
 unfold iq at h ⊢
 obtain⟨r,h1,h2⟩:=qad.1 h
 have hr:r=none:=by cases r with|none=>rfl|some p=>cases h2
 subst hr
 unfold Instr.findKey at h1 ⊢
 rw[aw]at h1 ⊢
 cases hd:pev P (underlying kt)with
 |none=>rw[hd]at h1;cases h1
 |some d=>
  rw[hd]at h1
  simp only[qag]at h1 ⊢
  rw[qb2]
  have hb:[e].map aP=[⟨k,undef,0⟩]:=by simp[aP,he]
  rw[hb]
  cases hn:Instr.findNow d k (es.map aP) 0 with
  |some r=>
   rw[hn]at h1
   simp only[eF,qar]at h1
   subst h1
   rw[nM _ _ _ hn,qaF,qbG]
   cases hq:Instr.sameNow d k k with
   |some b=>
    have:=rE hq
    have e1:Instr.findNow d k [⟨k,undef,0⟩] es.length=some (some (es.length,undef)):=by
     unfold Instr.findNow
     rw[this]
    rw[e1]
    rfl
   |none=>
    have e1:Instr.findNow d k [⟨k,undef,0⟩] es.length=none:=by
     unfold Instr.findNow
     rw[hq]
    rw[e1]
    simp only
    cases es with
    |nil=>rw[qbc,qaw,ask_one hs];rfl
    |cons a l=>
     exfalso
     simp only[qat]at hn
     unfold Instr.findNow at hn
     split at hn
     ·cases hn
     next e2=>
      rw[rE e2]at hq
      cases hq
     ·cases hn
  |none=>
   rw[hn]at h1
   simp only at h1
   rw[ue _ _ _ hn]
   simp only
   rw[mZ _ _ _ h1,qaF,qbG,ask_one hs]
   rfl
def kW{x y:Value}{n:Nat}(hy:scalar y=true)(h:Instr.sameBits n x y=true):x=y:=by
 cases y<;>simp only[scalar,qaj]at hy<;>cases x<;>cases n<;>first|(simp_all [Instr.sameBits];done)|(rw[ba_eq (show _=true from h)])
def qk{n:Nat}:∀ {l m:Tl},l.length=m.length->m.all scalar=true->((l.zip m).all λp=>Instr.sameBits n p.1 p.2)=true->l=m
 | [],[],_,_,_=>rfl
 |a :: l,b :: m,hl,hm,h=>by
  simp only[qbF,qaa]at hm
  simp only[qcs,qbF,qaa]at h
  rw[kW hm.1 h.1,qk (by simpa using hl) hm.2 h.2]
 | [],_ :: _,hl,_,_=>by cases hl
 |_ :: _,[],hl,_,_=>by cases hl
def bits_flat{x y:Value}(hy:en y=true)(h:Instr.sameBits 10000 x y=true):x=y:=by
 cases y with
 |agg b=>
  cases x with
  |agg a=>
   have h:(a.size==b.size&&(a.toList.zip b.toList).all λ(x,y)=>Instr.sameBits 9999 x y)=true:=h
   simp only[qaa,beq_iff_eq]at h
   congr 1
   exact qaZ.1 (qk (n:=9999) (by simpa using h.1) hy h.2)
  |_=>cases h
 |_=>exact kW hy h
def lT{α:Type}{f:α->α}:∀(l:List α) (i:Nat) (a:α),l[i]?=some a->f a=a->l.modify i f=l
 | [],i,a,h,_=>by cases h
 |x :: l,0,a,h,hf=>by
  simp only[qa7,qar]at h
  subst h
  simp[List.modify,hf]
 |x :: l,i+1,a,h,hf=>by
  simp only[qa6]at h
  have:=lT l i a h hf
  simp[List.modify_succ_cons,this]
def set_same{α:Type}:∀(l:List α) (i:Nat) (a:α),l[i]?=some a->l.set i a=l
 | [],i,a,h=>by cases h
 |x :: l,0,a,h=>by simp at h;simp[h]
 |x :: l,i+1,a,h=>by simp[set_same l i a (by simpa using h)]
def qY{C:Cfg}{t:TI}{m k v r:Value}{H H':Ts}(h:bK C t m k H=some (H',r))(hl:bW C t m k false H=some v):bW C t m k false H'=some v:=by
 unfold bK at h
 split at h
 next kt et id hu=>
  split at h
  ·cases h
  next hko=>
   have hko:eo C.P kt k=true:=by simpa using hko
   have hko':=hko
   simp only[eo,qaa]at hko'
   have hs:pev C.P (Op.equal kt k k)=some true:=by
    have:=hko'.2
    cases hq:pev C.P (Op.equal kt k k)with
    |none=>rw[hq]at this;cases this
    |some b=>rw[hq]at this;simp at this;rw[this]
   split at h
   ·cases h
   next es c hm=>
    have hid:H[id]?=some (.map es c):=by
     unfold hmap at hm
     split at hm
     next e=>cases hm;exact e
     ·cases hm
    have hlt:id<H.length:=by
     rcases qaC id H.length with h|h
     ·exact h
     ·rw[qae h]at hid;cases hid
    split at h
    ·cases h
    next hf=>
     split at h
     ·cases h
     next z hz=>
      cases h
      unfold bW at hl ⊢
      rw[hu]at hl ⊢
      simp only[hko,qaK,qaj,if_false,hz,hm,hf]at hl ⊢
      have hm':hmap (H.set id (.map (es++[{ key:=k,val:=z,born:=c }]) (c+1))) id=some (es++[{ key:=k,val:=z,born:=c }],c+1):=by
       unfold hmap
       rw[qaE hlt]
      rw[hm']
      simp only
      rw[vl (e:={ key:=k,val:=z,born:=c }) rfl hs hf]
      simp only[eU,qak (qam _),qbv,qa7,qau]
      exact hl
    next i hf=>
     split at h
     ·cases h
     next e he=>
      split at h
      next hb=>
       cases h
       have hk:e.key=k:=bits_flat hko'.1.1.1 hb
       have:es.modify i (λe=>{ e with key:=k })=es:=lT es i e he (by rw[←hk])
       rw[this,set_same H id _ hid]
       exact hl
      ·cases h
 ·cases h
end
end Sx
namespace Sx
inductive MC where
 |no
 |row (s:Nat) (w:Bool)
 |hr
 |hw
 |neu (f:TJ)
abbrev _root_.Tb:=FuncId->Option Nat
def al(N:Tb)(pts:Tz)(o:Oper):Option MC:=
 match o.op with
 | .move _ | .assign _ | .pick _ _ _ | .build _ _ | .nilCheck _ | .unOp _ _ _ | .convert _ _ _ | .fieldAddr _ _ _ | .field _ _ _ | .indexAddr _ _ _ | .index _ _ _ | .extract _ _=>some .no
 | .binOp _ _ _ _ _=>some .no
 | .makeFunc _ _ _=>some .no
 | .load _ a=>match kg pts a with
  |0=>some .hr
  |1=>some .no
  |s+2=>some (.row s false)
 | .store _ a _=>match kg pts a with
  |0=>some .hw
  |1=>none
  |s+2=>some (.row s true)
 | .alloc _ | .box _ _=>match o.dst with
  |some d=>if pts.getD d 0=d+2 then some (.row d true)else some .hw
  |none=>none
 | .buildSlice _ _ _ | .makeMap _ _ | .makeSlice _ _ _ | .mapUpdate _ _ _ _ | .mapEntry _ _ _ | .entryStore _ _ _ _ | .insert _ _ _ _=>some .hw
 | .lookup _ _ _ _ | .slice _ _ _ _ _=>some .hr
 | .call c=>match c.callee with
  | .builtin b=>match b with
   | .append | .copy | .delete | .clear=>some .hw
   | .len=>some .hr
   | .cap | .min | .max=>some .no
   |_=>none
  | .value f=>match f with
   | .func g=>some (if N g=some (2*c.args.size)then .neu g else if N g=some (2*c.args.size+1)then .hr else .hw)
   |_=>some .hw
  |_=>none
 |_=>none
def aF(ops:Tm)(o:Oper):Tz:=
 (o.op.operands.toList.filterMap λx=>match x with
  | .tmp t=>some t
  |_=>none) ++
 match o.guard with
 |some (j,_)=>((ops[j]?).bind (·.dst)).toList
 |none=>[]
section
variable [Val]
def execOp_congr{ρ ρ':Tf}{o:Oper}(N:Tb)(pts:Tz)(hm:al N pts o≠none)(h:∀x∈o.op.operands.toList,ρ x=ρ' x):execOp ρ o=execOp ρ' o:=by
 obtain⟨dst,op,ty,pos,after,guard⟩:=o
 have arr:∀ {xs:Array Operand},(∀x∈xs.toList,ρ x=ρ' x)->xs.map ρ=xs.map ρ':=by
  intro xs hx
  apply qaZ.1
  rw[qbf,qbf]
  exact qbA hx
 have prt:∀ {xs:Array (Nat×Operand)},(∀x∈xs.toList.map (·.2),ρ x=ρ' x)->(xs.map λ(i,x)=>(i,ρ x))=(xs.map λ(i,x)=>(i,ρ' x)):=by
  intro xs hx
  apply qaZ.1
  rw[qbf,qbf]
  refine qbA λp hp=>?_
  show(p.1,ρ p.2)=(p.1,ρ' p.2)
  rw[hx p.2 (qaN.2 ⟨p,hp,rfl⟩)]
 have opt:∀ {r:Tg},(∀x∈r.toArray.toList,ρ x=ρ' x)->r.map ρ=r.map ρ':=by
  intro r hx
  cases r with
  |none=>rfl
  |some y=>simp[hx y (by simp)]
 cases op<;>simp only[al,ne_eq,not_true_eq_false,not_false_eq_true,reduceCtorEq]at hm<;>simp only[Op.operands]at h
 case move x=>simp only[execOp,h x (by simp)]
 case assign x=>simp only[execOp,h x (by simp)]
 case pick c a b=>simp only[execOp,h c (by simp),h a (by simp),h b (by simp)]
 case alloc t=>rfl
 case box t x=>simp only[execOp,h x (by simp)]
 case build t ps=>simp only[execOp,prt (by simpa using h)]
 case buildSlice t n ps=>simp only[execOp,prt (by simpa using h)]
 case load t a=>simp only[execOp,h a (by simp)]
 case store t a x=>simp only[execOp,h a (by simp),h x (by simp)]
 case nilCheck x=>simp only[execOp,h x (by simp)]
 case binOp op t x y yt=>simp only[execOp,h x (by simp),h y (by simp)]
 case unOp op t x=>simp only[execOp,h x (by simp)]
 case convert s d x=>simp only[execOp,h x (by simp)]
 case makeFunc fn a b=>simp only[execOp,arr (λx hx=>h x (by simp;exact .inl (by simpa using hx))),arr (λx hx=>h x (by simp;exact .inr (by simpa using hx)))]
 case makeMap t r=>simp only[execOp,opt h]
 case makeSlice t a b=>simp only[execOp,h a (by simp),h b (by simp)]
 case slice t x a b c=>
  simp only[qbz,qaH]at h
  simp only[execOp,h x (by simp),opt (λy hy=>h y (.inl (.inl (.inr hy)))),opt (λy hy=>h y (.inl (.inr hy))),opt (λy hy=>h y (.inr hy))]
 case fieldAddr t x f=>simp only[execOp,h x (by simp)]
 case field t x f=>simp only[execOp,h x (by simp)]
 case indexAddr t x i=>simp only[execOp,h x (by simp),h i (by simp)]
 case index t x i=>simp only[execOp,h x (by simp),h i (by simp)]
 case lookup t x i ok=>simp only[execOp,h x (by simp),h i (by simp)]
 case mapUpdate t m k v=>simp only[execOp,h m (by simp),h k (by simp),h v (by simp)]
 case insert t m k v=>simp only[execOp,h m (by simp),h k (by simp),h v (by simp)]
 case mapEntry t m k=>simp only[execOp,h m (by simp),h k (by simp)]
 case entryStore t m s v=>simp only[execOp,h m (by simp),h s (by simp),h v (by simp)]
 case extract t i=>simp only[execOp,h t (by simp)]
 case call c=>
  have hres:resolve ρ c ty=resolve ρ' c ty:=by
   unfold resolve
   simp only[Call.operands,qbz,qaH]at h
   rw[arr (λx hx=>h x (.inr hx))]
   cases hc:c.callee with
   |builtin b=>rfl
   |value f=>simp only[hc]at h ⊢;rw[h f (.inl (by simp))]
   |invoke r m=>simp only[hc]at h ⊢;rw[h r (.inl (by simp))]
  simp only[execOp,hres]
def gO{C:Cfg}{ρ ρ':Tf}{o:Oper}(N:Tb)(pts:Tz)(hm:al N pts o≠none)(h:∀x∈o.op.operands.toList,ρ x=ρ' x):ak C pts ρ o=ak C pts ρ' o:=by
 have hx:=execOp_congr N pts hm h
 have hall:∀(f:Value->Bool),(o.op.operands.toList.all λx=>f (ρ x))=(o.op.operands.toList.all λx=>f (ρ' x)):=by
  intro f
  rw[qby,qab,qab]
  exact⟨λg x hx=>by rw[←h x hx];exact g x hx,λg x hx=>by rw[h x hx];exact g x hx⟩
 have hp:bN C ρ o=bN C ρ' o:=by
  unfold bN
  rw[hall flat,hx]
 have opt:∀ {r:Tg},(∀x∈r.toArray.toList,ρ x=ρ' x)->r.map ρ=r.map ρ':=by
  intro r hx
  cases r with
  |none=>rfl
  |some y=>simp[hx y (by simp)]
 have prt:∀ {xs:Array (Nat×Operand)},(∀x∈xs.toList.map (·.2),ρ x=ρ' x)->(xs.toList.map λp=>(p.1,ρ p.2))=(xs.toList.map λp=>(p.1,ρ' p.2)):=by
  intro xs hx
  refine qbA λp hp=>?_
  rw[hx p.2 (qaN.2 ⟨p,hp,rfl⟩)]
 have pal:∀(f:Value->Bool) {xs:Array (Nat×Operand)},(∀x∈xs.toList.map (·.2),ρ x=ρ' x)->(xs.toList.all λp=>f (ρ p.2))=(xs.toList.all λp=>f (ρ' p.2)):=by
  intro f xs hx
  rw[qby,qab,qab]
  have hh:∀p∈xs.toList,ρ p.2=ρ' p.2:=λp hp=>hx p.2 (qaN.2 ⟨p,hp,rfl⟩)
  exact⟨λg p hp=>by rw[←hh p hp];exact g p hp,λg p hp=>by rw[hh p hp];exact g p hp⟩
 obtain⟨dst,op,ty,pos,after,guard⟩:=o
 cases op<;>simp only[al,ne_eq,not_true_eq_false,not_false_eq_true,reduceCtorEq]at hm<;>simp only[Op.operands]at h
 case move x=>simp only[ak,h x (by simp)]
 case assign x=>simp only[ak,h x (by simp)]
 case pick c a b=>simp only[ak,h c (by simp),h a (by simp),h b (by simp)]
 case alloc t=>rfl
 case box t x=>simp only[ak,h x (by simp)]
 case build t ps=>simp only[ak,prt (by simpa using h),pal (λv=>!aB v) (by simpa using h)]
 case buildSlice t n ps=>simp only[ak,prt (by simpa using h),pal (λv=>v.cells.toList.all aI) (by simpa using h)]
 case load t a=>simp only[ak,h a (by simp)]
 case store t a x=>simp only[ak,h a (by simp),h x (by simp)]
 case nilCheck x=>simp only[ak,h x (by simp)]
 case binOp op t x y yt=>simp only[ak,h x (by simp),h y (by simp),hp]
 case unOp op t x=>simp only[ak,hp]
 case convert s d x=>simp only[ak,hp]
 case makeFunc fn a b=>
  have e1:a.map ρ=a.map ρ':=qaZ.1 (by rw[qbf,qbf];exact qbA λx hx=>h x (by simp;exact .inl (by simpa using hx)))
  have e2:b.map ρ=b.map ρ':=qaZ.1 (by rw[qbf,qbf];exact qbA λx hx=>h x (by simp;exact .inr (by simpa using hx)))
  simp only[ak,e1,e2]
 case makeMap t r=>simp only[ak,opt h]
 case makeSlice t a b=>simp only[ak,h a (by simp),h b (by simp)]
 case slice t x a b c=>
  simp only[qbz,qaH]at h
  simp only[ak,h x (by simp),opt (λy hy=>h y (.inl (.inl (.inr hy)))),opt (λy hy=>h y (.inl (.inr hy))),opt (λy hy=>h y (.inr hy)),hp]
 case fieldAddr t x f=>simp only[ak,h x (by simp)]
 case field t x f=>simp only[ak,h x (by simp)]
 case indexAddr t x i=>simp only[ak,h x (by simp),h i (by simp)]
 case index t x i=>simp only[ak,h x (by simp),h i (by simp)]
 case lookup t x i ok=>simp only[ak,h x (by simp),h i (by simp)]
 case mapUpdate t m k v=>simp only[ak,h m (by simp),h k (by simp),h v (by simp)]
 case insert t m k v=>simp only[ak,h m (by simp),h k (by simp),h v (by simp)]
 case mapEntry t m k=>simp only[ak,h m (by simp),h k (by simp)]
 case entryStore t m s v=>simp only[ak,h m (by simp),h s (by simp),h v (by simp)]
 case extract t i=>simp only[ak,h t (by simp)]
 case call c=>
  simp only[Call.operands,qbz,qaH]at h
  have e1:c.args.toList.map ρ=c.args.toList.map ρ':=qbA λx hx=>h x (.inr hx)
  have e2:∀b,aJ C ρ b (c.args.toList.map ρ) c.argTypes ⟨dst,.call c,ty,pos,after,guard⟩=aJ C ρ' b (c.args.toList.map ρ') c.argTypes ⟨dst,.call c,ty,pos,after,guard⟩:=by
   intro b
   unfold aJ
   rw[e1,hp]
  simp only[ak,eR]
  cases hc:c.callee with
  |builtin b=>exact e2 b
  |value f=>simp only[hc]at h ⊢;rw[e1,h f (.inl (by simp))]
  |invoke r m=>rfl
structure Ef where
 v:Value
 rw:Option (Nat×Option (Tl))
 hp:Option (Ts)
def Ef.on(e:Ef)(dst:Tn)(σ:St):St:=
 ({ tmps:=σ.tmps,loc:=(match e.rw with|some p=>σ.loc.set p.1 p.2|none=>σ.loc),heap:=e.hp.getD σ.heap }:St).put dst e.v
def Sees(N:Tb)(pts:Tz)(ops:Tm)(o:Oper)(σ τ:St):Prop:=
 (∀t∈aF ops o,τ.tmps[t]?=σ.tmps[t]?)/\match al N pts o with
 |some (.row s _)=>τ.loc[s]?=σ.loc[s]?
 |some .hr=>τ.heap=σ.heap
 |some .hw=>τ.heap=σ.heap
 |_=>True
def NeuB(N:Tb)(B:Below):Prop:=(∀f args H r H',N f=some (2*args.length)->B.call f args H r H'->H'=H/\∀H2,B.call f args H2 r H2)/\
 ∀f args H r H',N f=some (2*args.length+1)->B.call f args H r H'->H'=H
def qf(m:Option MC)(e:Ef):Prop:=
 (∀p,e.rw=some p->m=some (.row p.1 true))/\(e.hp≠none->m=some .hw)
def jo{σ τ:St}{x:TD}(h:∀t,x = .tmp t->τ.tmps[t]?=σ.tmps[t]?):oval τ.tmps x=oval σ.tmps x:=by
 cases x with
 |tmp t=>simp[oval,List.getD_eq_getElem?_getD,h t rfl]
 |_=>rfl
def uD{N:Tb}{pts:Tz}{ops:Tm}{o:Oper}{σ τ:St}(h:Sees N pts ops o σ τ):∀x∈o.op.operands.toList,oval τ.tmps x=oval σ.tmps x:=by
 intro x hx
 refine jo λt ht=>h.1 t ?_
 subst ht
 simp only[aF,qaH,qbj]
 exact .inl ⟨.tmp t,hx,rfl⟩
def jZ{N:Tb}{pts:Tz}{ops:Tm}{o:Oper}{σ τ:St}(h:Sees N pts ops o σ τ):bD ops τ.tmps o=bD ops σ.tmps o:=by
 unfold bD
 split
 ·rfl
 next j want hg=>
  cases hd:(ops[j]?).bind (·.dst)with
  |none=>rfl
  |some d=>
   simp only[qag]
   rw[h.1 d (by simp[aF,hg,hd])]
def Fits(N:Tb)(m:Option MC):Eff->Prop
 | .val _=>True
 | .lnew s _=>m=some (.row s true)
 | .lget s _=>m=some (.row s false)
 | .lset s _=>m=some (.row s true)
 | .hget _=>m=some .hr
 | .hop _=>m=some .hw
 | .call f args=>(m=some (.neu f)/\N f=some (2*args.length))∨(m=some .hr/\N f=some (2*args.length+1))∨m=some .hw
 | .yield _ _=>m=some .hw
def dF{N:Tb}{m:Option MC}{x:Ti}{e:Eff}(h:x.map Eff.val=some e):Fits N m e:=by
 obtain⟨v,_,rfl⟩:=qad.1 h
 trivial
def dq{C:Cfg}{ρ:Tf}{o:Oper}{N:Tb}{m:Option MC}{e:Eff}(h:bN C ρ o=some e):Fits N m e:=by
 unfold bN at h
 split at h
 ·split at h
  ·split at h
   ·cases h;trivial
   ·cases h
  ·cases h
 ·cases h
def fits_or{N:Tb}{m:Option MC}{a:Ti}{b:Option Eff}{e:Eff}(hb:b=some e->Fits N m e)(h:mb a b=some e):Fits N m e:=by
 unfold mb at h
 split at h
 ·cases h;trivial
 ·exact hb h
def lH{C:Cfg}{N:Tb}{pts:Tz}{o:Oper}{t:TI}{v:Value}{e:Eff}(ho:(∃y,o.op = .box t y)∨o.op = .alloc t)(h:bM C pts o.dst t v=some e):Fits N (al N pts o) e:=by
 unfold bM at h
 split at h
 ·cases h
 ·split at h
  ·cases h
  next d hd=>
   split at h
   ·cases h
   ·split at h
    next hp=>
     cases h
     rcases ho with⟨y,ho⟩|ho<;>(simp only[Fits,al,ho,hd];rw[qdq hp])
    next hp=>
     cases h
     rcases ho with⟨y,ho⟩|ho<;>(simp only[Fits,al,ho,hd];rw[qdr hp])
def fQ{C:Cfg}{N:Tb}{pts:Tz}{ρ:Tf}{o:Oper}{e:Eff}(hρ:∀g,ρ (.func g) = .func (.func g) #[] #[])(hm:al N pts o≠none)(he:ak C pts ρ o=some e):Fits N (al N pts o) e:=by
 unfold ak at he
 split at he
 ·cases he;trivial
 ·cases he;trivial
 ·split at he
  ·cases he;trivial
  ·cases he
 next t ho=>
  obtain⟨z,_,he⟩:=qai.1 he
  exact lH (.inr ho) he
 next t x ho=>
  exact lH (.inl ⟨x,ho⟩) he
 ·split at he
  ·exact dF he
  ·cases he
 next t n ps ho=>
  split at he
  ·obtain⟨r,_,rfl⟩:=qad.1 he
   simp only[Fits,al,ho]
  ·cases he
 next t a ho=>
  unfold de at he
  split at he
  next hk=>
   split at he
   ·cases he
    simp only[Fits,al,ho,hk]
   ·obtain⟨p,_,rfl⟩:=qad.1 he
    simp only[Fits,al,ho,hk]
  ·obtain⟨p,_,he⟩:=qai.1 he
   exact dF he
  next s hk=>
   obtain⟨p,_,rfl⟩:=qad.1 he
   simp only[Fits,al,ho,hk]
 next t a x ho=>
  unfold dL at he
  split at he
  ·cases he
  ·split at he
   next hk=>
    obtain⟨p,_,rfl⟩:=qad.1 he
    simp only[Fits,al,ho,hk]
   ·cases he
   next s hk=>
    obtain⟨p,_,rfl⟩:=qad.1 he
    simp only[Fits,al,ho,hk]
 ·split at he<;>cases he<;>trivial
 ·split at he
  ·split at he
   ·split at he
    ·cases he;trivial
    ·cases he
   ·exact dq he
  ·split at he
   ·split at he
    ·cases he;trivial
    ·cases he
   ·exact dq he
  ·exact dq he
 ·split at he
  ·cases he
  ·cases he;trivial
 next t r ho=>
  split at he
  ·cases he;simp only[Fits,al,ho]
  ·cases he
 next t l c ho=>
  cases he;simp only[Fits,al,ho]
 next t x lo hi mx ho=>
  split at he
  ·split at he
   ·exact dF he
   ·cases he;simp only[Fits,al,ho]
  ·exact fits_or dq he
 ·exact dF he
 ·exact dF he
 ·exact dF he
 ·exact dF he
 next t m k ok ho=>
  split at he
  ·exact dF he
  ·cases he;simp only[Fits,al,ho]
 next t m k v ho=>
  cases he;simp only[Fits,al,ho]
 next t m k v ho=>
  cases he;simp only[Fits,al,ho]
 next t m k ho=>
  cases he;simp only[Fits,al,ho]
 next t m s v ho=>
  cases he;simp only[Fits,al,ho]
 ·split at he
  ·split at he
   ·cases he
   ·exact dF he
  ·cases he
 next c ho=>
  unfold eR at he
  simp only at he
  cases hc:c.callee with
  |invoke r m=>simp only[hc]at he;cases he
  |builtin b=>
   simp only[hc]at he
   unfold aJ at he
   split at he
   ·split at he
    ·cases he
    ·cases he;simp only[Fits,al,ho,hc]
   ·split at he
    ·cases he;trivial
    ·cases he;simp only[Fits,al,ho,hc]
    ·cases he;trivial
    ·exact dq he
   ·split at he
    ·cases he;trivial
    ·cases he;trivial
    ·cases he;trivial
    ·cases he
   ·cases he;simp only[Fits,al,ho,hc]
   ·cases he;simp only[Fits,al,ho,hc]
   ·cases he;simp only[Fits,al,ho,hc]
   ·exact dq he
  |value f=>
   simp only[hc]at he
   split at he
   ·cases he
   ·split at he
    next g first cap hf=>
     split at he
     ·cases he
      cases f with
      |func g'=>
       rw[hρ]at hf
       cases hf
       simp only[al,ho,hc,Fits]
       by_cases hN:N g=some (2*c.args.size)
       ·rw[qdq hN];exact .inl ⟨rfl,by rw[hN];simp⟩
       ·rw[qdr hN]
        by_cases hN2:N g=some (2*c.args.size+1)
        ·rw[qdq hN2];exact .inr (.inl ⟨rfl,by rw[hN2];simp⟩)
        ·rw[qdr hN2];exact .inr (.inr rfl)
      |_=>simp only[Fits,al,ho,hc,or_true]
     ·cases he
    next l first cap hf=>
     split at he
     ·cases he
      cases f with
      |func g'=>rw[hρ]at hf;cases hf
      |_=>simp only[Fits,al,ho,hc]
     ·cases he
    ·cases he
 ·exact dq he
 ·exact dq he
 ·cases he
def eX{C:Cfg}{B:Below}{N:Tb}(hN:NeuB N B){pts:Tz}{ops:Tm}{i:Nat}{o:Oper}(hi:ops[i]?=some o)(hm:al N pts o≠none){σ σ':St}(hs:ae C B pts ops i σ σ') :
  ∃e:Ef,σ'=e.on o.dst σ/\qf (al N pts o) e/\∀τ,Sees N pts ops o σ τ->ae C B pts ops i τ (e.on o.dst τ):=by
 unfold ae at hs
 simp only[hi]at hs
 have val:∀v:Value,σ'=σ.put o.dst v->(∀τ,Sees N pts ops o σ τ->ae C B pts ops i τ (τ.put o.dst v))->
   ∃e:Ef,σ'=e.on o.dst σ/\qf (al N pts o) e/\∀τ,Sees N pts ops o σ τ->ae C B pts ops i τ (e.on o.dst τ):=by
  intro v hv h
  exact⟨⟨v,none,none⟩,hv,⟨λp hp=>(by cases hp),λh=>absurd rfl h⟩,h⟩
 split at hs
 ·exact hs.elim
 next hw=>
  refine val undef hs λτ hτ=>?_
  unfold ae
  simp only[hi,jZ hτ,hw]
 next hw=>
  have step:∀ {τ τ':St},Sees N pts ops o σ τ->((∃e,ak C pts (oval τ.tmps) o=some e/\im B e o.dst τ τ')∨(∃v,gK C τ.tmps o v/\τ'=τ.put o.dst v))->ae C B pts ops i τ τ':=by
   intro τ τ' hτ h
   unfold ae
   simp only[hi,jZ hτ,hw]
   exact h
  rcases hs with⟨e,he,hr⟩|⟨v,hv,rfl⟩
  ·have heτ:∀τ,Sees N pts ops o σ τ->ak C pts (oval τ.tmps) o=some e:=λτ hτ=>by
    rw[gO N pts hm (uD hτ)];exact he
   cases e with
   |val v=>
    obtain⟨p,hp,rfl⟩:=hr
    cases hp
    exact val v rfl λτ hτ=>step hτ (.inl ⟨_,heτ τ hτ,_,rfl,rfl⟩)
   |lnew s vs=>
    obtain⟨p,hp,rfl⟩:=hr
    simp only[aA]at hp
    split at hp
    next hloc=>
     cases hp
     have hclass:al N pts o=some (.row s true):=fQ (λ_=>rfl) hm he
     refine⟨⟨.pointer (some ⟨s,0,some 0⟩),some (s,some vs),none⟩,rfl,⟨λp hp=>by cases hp;exact hclass,λh=>absurd rfl h⟩,λτ hτ=>step hτ (.inl ⟨_,heτ τ hτ,({ τ with loc:=τ.loc.set s (some vs) },.pointer (some ⟨s,0,some 0⟩)),?_,rfl⟩)⟩
     have:=hτ.2
     rw[hclass]at this
     simp only[aA,this,hloc]
    ·cases hp
   |lget s f=>
    obtain⟨p,hp,rfl⟩:=hr
    simp only[aA]at hp
    split at hp
    next vs hloc=>
     obtain⟨v,hv,rfl⟩:=qad.1 hp
     have hclass:al N pts o=some (.row s false):=fQ (λ_=>rfl) hm he
     refine val v rfl λτ hτ=>step hτ (.inl ⟨_,heτ τ hτ,(τ,v),?_,rfl⟩)
     have:=hτ.2
     rw[hclass]at this
     simp only[aA,this,hloc,hv,qau]
    ·cases hp
   |lset s f=>
    obtain⟨p,hp,rfl⟩:=hr
    simp only[aA]at hp
    split at hp
    next vs hloc=>
     obtain⟨vs',hv,rfl⟩:=qad.1 hp
     have hclass:al N pts o=some (.row s true):=fQ (λ_=>rfl) hm he
     refine⟨⟨undef,some (s,some vs'),none⟩,rfl,⟨λp hp=>by cases hp;exact hclass,λh=>absurd rfl h⟩,λτ hτ=>step hτ (.inl ⟨_,heτ τ hτ,({ τ with loc:=τ.loc.set s (some vs') },undef),?_,rfl⟩)⟩
     have:=hτ.2
     rw[hclass]at this
     simp only[aA,this,hloc,hv,qau]
    ·cases hp
   |hget f=>
    obtain⟨p,hp,rfl⟩:=hr
    simp only[aA]at hp
    obtain⟨v,hv,rfl⟩:=qad.1 hp
    have hclass:al N pts o=some .hr:=fQ (λ_=>rfl) hm he
    refine val v rfl λτ hτ=>step hτ (.inl ⟨_,heτ τ hτ,(τ,v),?_,rfl⟩)
    have:=hτ.2
    rw[hclass]at this
    simp only[aA,this,hv,qau]
   |hop f=>
    obtain⟨p,hp,rfl⟩:=hr
    simp only[aA]at hp
    obtain⟨q,hv,rfl⟩:=qad.1 hp
    have hclass:al N pts o=some .hw:=fQ (λ_=>rfl) hm he
    refine⟨⟨q.2,none,some q.1⟩,rfl,⟨λp hp=>(by cases hp),λ_=>hclass⟩,λτ hτ=>step hτ (.inl ⟨_,heτ τ hτ,({ τ with heap:=q.1 },q.2),?_,rfl⟩)⟩
    have:=hτ.2
    rw[hclass]at this
    simp only[aA,this,hv,qau]
   |call f args=>
    obtain⟨r,H,hc,rfl⟩:=hr
    have hclass:(al N pts o=some (.neu f)/\N f=some (2*args.length))∨(al N pts o=some .hr/\N f=some (2*args.length+1))∨al N pts o=some .hw:=fQ (λ_=>rfl) hm he
    rcases hclass with⟨hclass,hf⟩|⟨hclass,hf⟩|hclass
    ·obtain⟨rfl,h2⟩:=hN.1 f args _ r H hf hc
     exact val r rfl λτ hτ=>step hτ (.inl ⟨_,heτ τ hτ,r,τ.heap,h2 τ.heap,rfl⟩)
    ·obtain rfl:=hN.2 f args _ r H hf hc
     refine val r rfl λτ hτ=>step hτ (.inl ⟨_,heτ τ hτ,r,τ.heap,?_,rfl⟩)
     have:=hτ.2
     rw[hclass]at this
     rw[this];exact hc
    ·refine⟨⟨r,none,some H⟩,rfl,⟨λp hp=>(by cases hp),λ_=>hclass⟩,λτ hτ=>step hτ (.inl ⟨_,heτ τ hτ,r,H,?_,rfl⟩)⟩
     have:=hτ.2
     rw[hclass]at this
     rw[this];exact hc
   |yield l args=>
    obtain⟨r,H,hc,rfl⟩:=hr
    have hclass:al N pts o=some .hw:=fQ (λ_=>rfl) hm he
    refine⟨⟨r,none,some H⟩,rfl,⟨λp hp=>(by cases hp),λ_=>hclass⟩,λτ hτ=>step hτ (.inl ⟨_,heτ τ hτ,r,H,?_,rfl⟩)⟩
    have:=hτ.2
    rw[hclass]at this
    rw[this];exact hc
  ·refine val v rfl λτ hτ=>step hτ (.inr ⟨v,?_,rfl⟩)
   obtain⟨h1,h2,h3,h4⟩:=hv
   have hops:=uD hτ
   refine⟨h1,?_,h3,λw=>?_⟩
   ·rw[qab]at h2 ⊢
    intro x hx
    rw[hops x hx];exact h2 x hx
   ·rw[execOp_congr N pts hm (ρ':=λx=>den (oval σ.tmps x)) λx hx=>by rw[hops x hx]]
    exact h4 w
def MC.ok2:MC->MC->Bool
 | .no,_=>true
 |_,.no=>true
 | .row s w,.row s' w'=>!Nat.beq s s'||(!w && !w')
 | .row _ _,_=>true
 |_,.row _ _=>true
 | .neu _,_=>true
 |_,.neu _=>true
 | .hr,.hr=>true
 |_,_=>false
def aR(d:Tn)(l:Tz):Bool:=match d with
 |some d=>!l.contains d
 |none=>true
def aK(a b:Tn):Bool:=match a,b with
 |some a,some b=>!Nat.beq a b
 |_,_=>true
def vc(N:Tb)(pts:Tz)(ops:Tm)(a b:Oper):Bool:=
 match al N pts a,al N pts b with
 |some m,some n=>(m.ok2 n||eH a b)&&aR a.dst (aF ops b)&&aR b.dst (aF ops a)&&aK a.dst b.dst
 |_,_=>false
def ju{σ:St}{d:Tn}{v:Value}{t:Nat}(h:∀x,d=some x->x≠t):(σ.put d v).tmps[t]?=σ.tmps[t]?:=by
 cases d with
 |none=>rfl
 |some x=>simp only[St.put];rw[qav (h x rfl)]
def pI{σ:St}{d:Tn}{v:Value}:(σ.put d v).loc=σ.loc:=by cases d<;>rfl
def dI{σ:St}{d:Tn}{v:Value}:(σ.put d v).heap=σ.heap:=by cases d<;>rfl
def pJ{σ:St}{d:Tn}{v:Value}:(σ.put d v).tmps=(match d with|some d=>σ.tmps.set d v|none=>σ.tmps):=by cases d<;>rfl
def jj{e:Ef}{d:Tn}{σ:St}:(e.on d σ).tmps=(match d with|some d=>σ.tmps.set d e.v|none=>σ.tmps):=by unfold Ef.on;rw[pJ]
def ug{e:Ef}{d:Tn}{σ:St}:(e.on d σ).loc=(match e.rw with|some p=>σ.loc.set p.1 p.2|none=>σ.loc):=by unfold Ef.on;rw[pI]
def dg{e:Ef}{d:Tn}{σ:St}:(e.on d σ).heap=e.hp.getD σ.heap:=by unfold Ef.on;rw[dI]
def uS{N:Tb}{pts:Tz}{ops:Tm}{a b:Oper}{m n:MC}(ha:al N pts a=some m)(hb:al N pts b=some n)(hok:m.ok2 n=true∨n.ok2 m=true)
  (hd:aR a.dst (aF ops b)=true) {e:Ef} (ht:qf (al N pts a) e) (σ:St):Sees N pts ops b σ (e.on a.dst σ):=by
 refine⟨λt hr=>?_,?_⟩
 ·unfold Ef.on
  refine ju λx hx he=>?_
  subst he
  rw[hx]at hd
  simp only[aR,qbB,qbZ,decide_eq_false_iff_not]at hd
  exact hd hr
 ·rw[ha]at ht
  rw[hb]
  cases n with
  |no=>trivial
  |neu f=>trivial
  |row s w=>
   show(e.on a.dst σ).loc[s]?=_
   rw[ug]
   cases hrw:e.rw with
   |none=>rfl
   |some p=>
    have hm:=ht.1 p hrw
    cases hm
    have:p.1≠s:=by
     intro he
     subst he
     rcases hok with h|h<;>simp[MC.ok2]at h
    show(σ.loc.set p.1 p.2)[s]?=_
    rw[qav this]
  |hr=>
   show(e.on a.dst σ).heap=_
   rw[dg]
   cases hh:e.hp with
   |none=>rfl
   |some H=>
    have hm:=ht.2 (by rw[hh];simp)
    cases hm
    rcases hok with h|h<;>cases h
  |hw=>
   show(e.on a.dst σ).heap=_
   rw[dg]
   cases hh:e.hp with
   |none=>rfl
   |some H=>
    have hm:=ht.2 (by rw[hh];simp)
    cases hm
    rcases hok with h|h<;>cases h
def set_comm{α:Type}(l:List α){i j:Nat}(a b:α)(h:i≠j):(l.set i a).set j b=(l.set j b).set i a:=List.set_comm _ _ h
def on_comm{N:Tb}{pts:Tz}{a b:Oper}{m n:MC}(ha:al N pts a=some m)(hb:al N pts b=some n)(hok:m.ok2 n=true)(hd:aK a.dst b.dst=true){e f:Ef}
  (ht:qf (al N pts a) e) (hu:qf (al N pts b) f) (σ:St):f.on b.dst (e.on a.dst σ)=e.on a.dst (f.on b.dst σ):=by
 have h1:(f.on b.dst (e.on a.dst σ)).tmps=(e.on a.dst (f.on b.dst σ)).tmps:=by
  simp only[jj]
  cases hx:a.dst with
  |none=>rfl
  |some x=>
   cases hy:b.dst with
   |none=>rfl
   |some y=>
    rw[hx,hy]at hd
    have:x≠y:=by
     intro he;subst he;simp[aK]at hd
    exact set_comm _ _ _ this
 have h2:(f.on b.dst (e.on a.dst σ)).loc=(e.on a.dst (f.on b.dst σ)).loc:=by
  simp only[ug]
  cases hx:e.rw with
  |none=>rfl
  |some p=>
   cases hy:f.rw with
   |none=>rfl
   |some q=>
    have e1:=ht.1 p hx
    have e2:=hu.1 q hy
    rw[ha]at e1
    rw[hb]at e2
    cases e1;cases e2
    have:p.1≠q.1:=by
     intro he
     rw[he]at hok
     simp[MC.ok2]at hok
    exact set_comm _ _ _ this
 have h3:(f.on b.dst (e.on a.dst σ)).heap=(e.on a.dst (f.on b.dst σ)).heap:=by
  simp only[dg]
  cases hx:e.hp with
  |none=>rfl
  |some p=>
   cases hy:f.hp with
   |none=>rfl
   |some q=>
    have e1:=ht.2 (by rw[hx];simp)
    have e2:=hu.2 (by rw[hy];simp)
    rw[ha]at e1
    rw[hb]at e2
    cases e1;cases e2
    cases hok
 generalize f.on b.dst (e.on a.dst σ)=x at *
 generalize e.on a.dst (f.on b.dst σ)=y at *
 cases x;cases y
 simp only at h1 h2 h3
 subst h1;subst h2;subst h3
 rfl
def oc{a b:TD}(h:pO a b=true):a=b/\∃t,a = .tmp t:=by
 cases a<;>cases b<;>simp only[pO,qaj]at h
 exact⟨by rw[qac h],_,rfl⟩
def hQ{ops:Tm}{o:Oper}{σ τ:St}(h:∀t∈aF ops o,τ.tmps[t]?=σ.tmps[t]?):bD ops τ.tmps o=bD ops σ.tmps o:=by
 unfold bD
 split
 ·rfl
 next j want hg=>
  cases hd:(ops[j]?).bind (·.dst)with
  |none=>rfl
  |some d=>
   simp only[qag]
   rw[h d (by simp[aF,hg,hd])]
def kQ{ops:Tm}{o:Oper}{σ τ:St}(h:∀t∈aF ops o,τ.tmps[t]?=σ.tmps[t]?):∀x∈o.op.operands.toList,oval τ.tmps x=oval σ.tmps x:=by
 intro x hx
 refine jo λt ht=>h t ?_
 subst ht
 simp only[aF,qaH,qbj]
 exact .inl ⟨.tmp t,hx,rfl⟩
def qZ{C:Cfg}{B:Below}{N:Tb}{pts:Tz}{ops:Tm}{i:Nat}{o:Oper}{t:TI}{m k:TD}(hi:ops[i]?=some o)(ho:o.op = .lookup t m k false){σ σ':St}(hs:ae C B pts ops i σ σ') :
  ∃v,σ'=σ.put o.dst v/\∀τ:St,(∀t∈aF ops o,τ.tmps[t]?=σ.tmps[t]?)->
   (∀u,bW C t (oval σ.tmps m) (oval σ.tmps k) false σ.heap=some u->bW C t (oval σ.tmps m) (oval σ.tmps k) false τ.heap=some u)->ae C B pts ops i τ (τ.put o.dst v):=by
 have hmem:al N pts o≠none:=by unfold al;rw[ho];simp
 unfold ae at hs
 simp only[hi]at hs
 split at hs
 ·exact hs.elim
 next hw=>
  refine⟨undef,hs,λτ hτ _=>?_⟩
  unfold ae
  simp only[hi,hQ hτ,hw]
 next hw=>
  have step:∀ {τ τ':St},(∀t∈aF ops o,τ.tmps[t]?=σ.tmps[t]?)->((∃e,ak C pts (oval τ.tmps) o=some e/\im B e o.dst τ τ')∨(∃v,gK C τ.tmps o v/\τ'=τ.put o.dst v))->ae C B pts ops i τ τ':=by
   intro τ τ' hτ h
   unfold ae
   simp only[hi,hQ hτ,hw]
   exact h
  rcases hs with⟨e,he,hr⟩|⟨v,hv,rfl⟩
  ·have heτ:∀τ:St,(∀t∈aF ops o,τ.tmps[t]?=σ.tmps[t]?)->ak C pts (oval τ.tmps) o=some e:=λτ hτ=>by
    rw[gO N pts hmem (kQ hτ)];exact he
   have he':=he
   unfold ak at he'
   rw[ho]at he'
   simp only at he'
   split at he'
   ·obtain⟨v,hv,rfl⟩:=qad.1 he'
    obtain⟨p,hp,rfl⟩:=hr
    cases hp
    exact⟨v,rfl,λτ hτ _=>step hτ (.inl ⟨_,heτ τ hτ,_,rfl,rfl⟩)⟩
   ·cases he'
    obtain⟨p,hp,rfl⟩:=hr
    simp only[aA]at hp
    obtain⟨v,hv,rfl⟩:=qad.1 hp
    refine⟨v,rfl,λτ hτ hl=>step hτ (.inl ⟨_,heτ τ hτ,(τ,v),?_,rfl⟩)⟩
    simp only[aA,hl v hv,qau]
  ·refine⟨v,rfl,λτ hτ _=>step hτ (.inr ⟨v,?_,rfl⟩)⟩
   obtain⟨h1,h2,h3,h4⟩:=hv
   have hops:=kQ hτ
   refine⟨h1,?_,h3,λw=>?_⟩
   ·rw[qab]at h2 ⊢
    intro x hx
    rw[hops x hx];exact h2 x hx
   ·rw[execOp_congr N pts hmem (ρ':=λx=>den (oval σ.tmps x)) λx hx=>by rw[hops x hx]]
    exact h4 w
def vh{C:Cfg}{B:Below}{pts:Tz}{ops:Tm}{i:Nat}{o:Oper}{t:TI}{m k:TD}(hi:ops[i]?=some o)(ho:o.op = .mapEntry t m k){σ σ':St}(hs:ae C B pts ops i σ σ') :
  σ'.heap=σ.heap∨∃r,bK C t (oval σ.tmps m) (oval σ.tmps k) σ.heap=some (σ'.heap,r):=by
 unfold ae at hs
 simp only[hi]at hs
 split at hs
 ·exact hs.elim
 ·subst hs;exact .inl dI
 ·rcases hs with⟨e,he,hr⟩|⟨v,hv,rfl⟩
  ·unfold ak at he
   rw[ho]at he
   simp only[qar]at he
   subst he
   obtain⟨p,hp,rfl⟩:=hr
   simp only[aA]at hp
   obtain⟨q,hq,rfl⟩:=qad.1 hp
   refine .inr ⟨q.2,?_⟩
   rw[dI]
   exact hq
  ·exact .inl dI
def vT{C:Cfg}{B:Below}{N:Tb}(hN:NeuB N B){pts:Tz}{ops:Tm}{i j:Nat}{a b:Oper}(hi:ops[i]?=some a)(hj:ops[j]?=some b)(hc:eH a b=true)
  (c2:aR a.dst (aF ops b)=true) (c3:aR b.dst (aF ops a)=true) (c4:aK a.dst b.dst=true) {σ σ₁ σ':St}
  (h1:ae C B pts ops i σ σ₁) (h2:ae C B pts ops j σ₁ σ'):∃τ,ae C B pts ops j σ τ/\ae C B pts ops i τ σ':=by
 unfold eH at hc
 split at hc
 next t m k ha=>
  split at hc
  next t' m' k' hb=>
   simp only[qaa]at hc
   obtain⟨⟨e1,e2⟩,e3⟩:=hc
   have e1:=qac e1
   obtain⟨e2,tm,rfl⟩:=oc e2
   obtain⟨e3,tk,rfl⟩:=oc e3
   subst e1 e2 e3
   obtain⟨v,rfl,la⟩:=qZ (N:=N) hi ha h1
   have hmb:al N pts b=some .hw:=by unfold al;rw[hb]
   obtain⟨f,rfl,tf,lf⟩:=eX hN hj (by rw[hmb];simp) h2
   have hfree:∀ {d:Tn} {l:Tz},aR d l=true->∀t∈l,∀x,d=some x->x≠t:=by
    intro d l hd t ht x hx he
    subst hx he
    simp only[aR,qbB,qbZ,decide_eq_false_iff_not]at hd
    exact hd ht
   have s1:Sees N pts ops b (σ.put a.dst v) σ:=by
    refine⟨λt ht=>(ju (hfree c2 t ht)).symm,?_⟩
    rw[hmb]
    exact dI.symm
   have hstep:=lf σ s1
   refine⟨f.on b.dst σ,hstep,?_⟩
   have hrd:∀t∈aF ops a,(f.on b.dst σ).tmps[t]?=σ.tmps[t]?:=by
    intro t ht
    unfold Ef.on
    rw[ju (hfree c3 t ht)]
   have hrow:f.rw=none:=by
    cases hr:f.rw with
    |none=>rfl
    |some p=>
     have:=tf.1 p hr
     rw[hmb]at this
     cases this
   have hfin:=la (f.on b.dst σ) hrd (λu hu=>by
    rcases vh hj hb hstep with h|⟨r,h⟩
    ·rw[h];exact hu
    ·exact qY h hu)
   have hcomm:f.on b.dst (σ.put a.dst v)=(f.on b.dst σ).put a.dst v:=by
    unfold Ef.on
    rw[hrow]
    simp only
    cases hx:a.dst with
    |none=>rfl
    |some x=>
     cases hy:b.dst with
     |none=>rfl
     |some y=>
      rw[hx,hy]at c4
      have:x≠y:=by
       intro he;subst he;simp[aK]at c4
      simp only[St.put]
      rw[set_comm _ _ _ this]
   rw[hcomm]
   exact hfin
  ·cases hc
 ·cases hc
def swap_ok{C:Cfg}{B:Below}{N:Tb}(hN:NeuB N B){pts:Tz}{ops:Tm}{i j:Nat}{a b:Oper}(hi:ops[i]?=some a)(hj:ops[j]?=some b)(hc:vc N pts ops a b=true){σ σ₁ σ':St}
  (h1:ae C B pts ops i σ σ₁) (h2:ae C B pts ops j σ₁ σ'):∃τ,ae C B pts ops j σ τ/\ae C B pts ops i τ σ':=by
 unfold vc at hc
 split at hc
 next m n hm hn=>
  simp only[qaa]at hc
  obtain⟨⟨⟨c1,c2⟩,c3⟩,c4⟩:=hc
  rw[qaX]at c1
  rcases c1 with c1|c1
  case inr=>exact vT hN hi hj c1 c2 c3 c4 h1 h2
  obtain⟨e,rfl,te,le⟩:=eX hN hi (by rw[hm];simp) h1
  obtain⟨f,rfl,tf,lf⟩:=eX hN hj (by rw[hn];simp) h2
  have s1:Sees N pts ops b (e.on a.dst σ) σ:=by
   have:=uS hm hn (.inl c1) c2 te σ
   refine⟨λt ht=>(this.1 t ht).symm,?_⟩
   have h:=this.2
   rw[hn]at h ⊢
   cases n<;>first|trivial|exact h.symm
  have s2:Sees N pts ops a σ (f.on b.dst σ):=uS hn hm (.inr c1) c3 tf σ
  refine⟨f.on b.dst σ,lf σ s1,?_⟩
  rw[on_comm hm hn c1 c4 te tf σ]
  exact le _ s2
 ·cases hc
end
end Sx
end Go.Am
end

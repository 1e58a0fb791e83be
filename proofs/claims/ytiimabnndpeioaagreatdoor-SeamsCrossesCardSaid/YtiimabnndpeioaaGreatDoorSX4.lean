/-
  PART 4 OF THE PROOF (no conditions).
-/
import Derived.Test.YtiimabnndpeioaaGreatDoorSX3
import Derived.Laws.Entries
import Derived.Laws.StructEq
set_option linter.unusedSectionVars false
set_option linter.unusedSimpArgs false
set_option linter.unusedVariables false
set_option linter.constructorNameAsVariable false
set_option linter.defProp false
noncomputable section
namespace Go.Am
section
variable [Val] [Kno] {R HT:Type} {A:Alg R HT} {X:Ctxt} {Sg:Tc} {holds:R->Prop} {abs:HT->Tp}
variable {ev:Env} {σ:St} {h:HT} {o:Oper} {K:KN R HT}
def tL(H:Tp)(id:Nat):gT (λi=>H[i]?) id=fj H id:=rfl
def Uj{n:Nat}{p:Value}{g:cO}{cs:Tk}(h:ldP n p g=some cs):∃id off vs,p = .pointer (some ⟨id,off,none⟩)/\gT g id=some vs/\cut vs off n=some cs:=by
 unfold ldP at h;split at h
 next a=>
  split at h
  next c=>
   obtain⟨vs,d,e⟩:=qaA.1 h;obtain⟨b,f,i⟩:=a;simp only at c;subst c;exact⟨b,f,vs,rfl,d,e⟩
  ·cases h
 ·cases h
def Un{C:Cfg}{n:Nat}{p:Value}{g:cO}{cs:Tk}(h:VP C n p g=some cs):(∃id off vs,p = .pointer (some ⟨id,off,none⟩)/\gT g id=some vs/\cut vs off n=some cs)∨∃id off vs,p = .pointer (some ⟨id,off,some 1⟩)/\C.G id=some vs/\cut vs off n=some cs:=by
 unfold VP at h;split at h
 next a=>
  split at h
  next c=>
   obtain⟨vs,d,e⟩:=qaA.1 h;obtain⟨b,f,j⟩:=a;simp only at c;subst c;exact .inl ⟨b,f,vs,rfl,d,e⟩
  next k c=>
   split at h
   next i=>
    obtain⟨vs,d,e⟩:=qaA.1 h;obtain⟨b,f,j⟩:=a;simp only at c;subst c;rw[AW i];exact .inr ⟨b,f,vs,rfl,d,e⟩
   ·cases h
 ·cases h
def O6(hA:AlgOk A X.C Sg X.T holds abs)(k:Rp ev σ)(J:abs h=σ.heap){t:TJ}{a:TG}{sk:SK}{F:Bool}(ho:o.op = .load t a)(m:Ao X.C.P t=some F)
  (w:F=jz sk) (d:holds (KI A X o.dst sk F (if F then X.C.P.cellsOf t else 1) a ev h K)):AD X holds abs o σ K:=by
 have e:aq X.C X.pts (ke σ.tmps) o=dV X.C X.pts t a (ke σ.tmps a):=by simp only[aq,ho]
 unfold KI at d;split at d
 next p b E=>
  obtain⟨y,_⟩:=k.sval E (by simp);obtain⟨Q,h2,u⟩:=hA.peek _ _ _ d;simp only[Pk.run]at h2;rw[J]at h2;rcases Un h2 with⟨id,off,vs,rfl,h3,h4⟩|⟨id,off,vs,rfl,h3,h4⟩
  ·rw[tL]at h3;obtain⟨v,r,i⟩:=da m h4;rw[w]at i;obtain⟨x,rfl,D,n⟩:=lP hA i u;refine jG k J (s:=.st x) D (f:=λH=>(fj H id).bind λvs=>dv X.C.P t vs off) ?_ ?_ n
   ·rw[e,dV,b,y];rfl
   ·simp only[h3,A7,r];rfl
  ·obtain⟨v,r,i⟩:=da m h4;rw[w]at i;obtain⟨x,rfl,D,n⟩:=lP hA i u;refine jG k J (s:=.st x) D (f:=λ_=>(X.C.G id).bind λvs=>dv X.C.P t vs off) ?_ ?_ n
   ·rw[e,dV,b,y];rfl
   ·simp only[h3,A7,r];rfl
 next g off b E=>
  obtain⟨y,_⟩:=k.sval E (by simp);split at d
  next vs W=>
   split at d
   next Q q=>
    obtain⟨v,r,i⟩:=da m q;have j:aq X.C X.pts (ke σ.tmps) o=some (.val v):=by
     rw[e,dV,b,y];simp only[SV.val,gi,if_true,A7,W,r,BP]
    split at d
    next x ap hm=>
     obtain⟨S,M⟩:=oJ hm;have an:(Q.map Ei).map SL.val=Q:=by
      rw[Ep];have:(SL.val ∘ Ei)=id:=funext tb;rw[this,qd5]
     rw[an]at M;have hv:x.val=v:=by
      rcases M with⟨N,O⟩|⟨N,O⟩<;>rcases i with⟨z,I⟩|⟨z,I⟩
      ·rw[O,I]
      ·rw[N]at z;cases z
      ·rw[N]at z;cases z
      ·rw[O]at I;simpa using I
     subst hv;refine aF k J (s:=.st x) (λl Y=>?_) j d;rw[S]at Y;obtain⟨c,ag,rfl⟩:=qax.1 Y;exact px (qac.1 ap c ag)
    ·rw[w]at i;obtain⟨x,rfl,D,d⟩:=lP hA i d;exact aF k J (s:=.st x) D j d
   ·exact absurd d hA.fail
  ·exact absurd d hA.fail
 next g B ix b E=>
  obtain⟨y,_⟩:=k.sval E (by simp);split at d
  next vs W=>
   obtain⟨Q,q,d⟩:=hA.opt _ _ d;obtain⟨v,r,i⟩:=da m (vs:=vs) (off:=A1 B ix) ((LD _ _ _ _).symm.trans q);have j:aq X.C X.pts (ke σ.tmps) o=some (.val v):=by
    rw[e,dV,b,y];simp only[SV.val,gi,if_true,A7,W,r,BP]
   rw[w]at i;obtain⟨x,rfl,D,d⟩:=lP hA i d;exact aF k J (s:=.st x) D j d
  ·exact absurd d hA.fail
 next p b E=>
  obtain⟨y,_⟩:=k.sval E (by simp);obtain⟨Q,q,u⟩:=hA.opt _ _ d;unfold ldGv at q;split at q
  next ad=>
   split at q
   next ar=>
    obtain⟨vs,W,q⟩:=qaA.1 q;obtain⟨v,r,i⟩:=da m q;have j:aq X.C X.pts (ke σ.tmps) o=some (.val v):=by
     rw[e,dV,b,y];simp only[SV.val,S0.val,SL.val,gi,ar,if_true,A7,W,r,BP]
    rw[w]at i;obtain⟨x,rfl,D,n⟩:=lP hA i u;exact aF k J (s:=.st x) D j n
   ·cases q
  ·cases q
 next s s' off b E=>
  obtain⟨y,_⟩:=k.sval E (by simp);split at d
  next x U Z=>
   have U:s=s':=by simpa using U
   subst U;obtain⟨Q,hr,Z⟩:=qaA.1 Z;obtain⟨ds,V,Z⟩:=qaA.1 Z;obtain⟨r1,r2,_⟩:=kw k hr;obtain⟨c1,c2⟩:=nN V;obtain⟨v,r,i⟩:=da m c1;obtain⟨S,M⟩:=oJ Z;have hv:x.val=v:=by
    rcases M with⟨N,O⟩|⟨N,O⟩<;>rcases i with⟨z,I⟩|⟨z,I⟩
    ·rw[O,I]
    ·rw[N]at z;cases z
    ·rw[N]at z;cases z
    ·rw[O]at I;simpa using I
   subst hv;refine dE k σ.heap J (s:=.st x) (λl Y=>?_) (.inl ⟨.lget s λvs=>dv X.C.P t vs off,?_,(σ,x.val),?_,rfl⟩) d
   ·rw[S]at Y;exact r2 l (c2 l Y)
   ·rw[e,dV,b,y];simp[SV.val,jc]
   ·simp[aY,r1,r]
  ·exact absurd d hA.fail
 next s s' B ix b E=>
  obtain⟨y,_⟩:=k.sval E (by simp);split at d
  next Q U hr=>
   have U:s=s':=by simpa using U
   subst U;split at d
   next L=>
    simp only[wa]at L;obtain⟨L,hn⟩:=L;have hn:=AW hn;obtain⟨ls,hp,u⟩:=hA.opt _ _ d;obtain⟨ds,V,rfl⟩:=ya hp;obtain⟨r1,r2,_⟩:=kw k hr;obtain⟨c1,c2⟩:=nN V;obtain⟨v,r,i⟩:=da m c1;rw[w]at i;rw[hn]at V;obtain⟨x,rfl,D,n⟩:=Gy hA (mO L V) (λc q=>r2 c (c2 c q)) i u;refine dE k σ.heap J (s:=.st x) D (.inl ⟨.lget s λvs=>dv X.C.P t vs (A1 B ix),?_,(σ,x.val),?_,rfl⟩) n
    ·rw[e,dV,b,y];simp[SV.val,jc]
    ·simp[aY,r1,r]
   ·exact absurd d hA.fail
  ·exact absurd d hA.fail
 ·exact absurd d hA.fail
def qV{cs r new:List SL}{off:Nat}(b:iH cs off new=some r):splice (cs.map SL.val) off (new.map SL.val)=some (r.map SL.val)/\r.length=cs.length/\((∀c∈cs,c.good)->(∀c∈new,c.good)->∀c∈r,c.good):=by
 unfold iH at b;unfold splice;split at b
 next d=>
  cases b;rw[mc (by simpa using d)];refine⟨by simp[R1,Ve],by simp;omega,λe f c a=>?_⟩;simp only[qar]at a;rcases a with(a|a)|a
  ·exact e c (IM a)
  ·exact f c a
  ·exact e c (LX a)
 ·cases b
def wJ{P:TD}{t:TJ}{x:S0}(c:x.good)(a:x.cells.length=P.cellsOf t)(d:(P.info? t).isSome=true)(vs:Tk)(off:Nat) :
  eP P t x.val vs off=splice vs off (x.cells.map SL.val):=by
 unfold eP;have b:=S0.cells_val c;rw[mc ⟨by rw[b];simpa using a,d⟩,mc (S0.cells_ok c),b]
def rE(m:Rp ev σ)(z:abs h=σ.heap){s:Nat}{cs:List SL}{f:Tk->Option (Tk)}{vs:Tk}(B:aq X.C X.pts (ke σ.tmps) o=some (.lset s f))(a:σ.loc[s]?=some (some vs))
  (t:f vs=some (cs.map SL.val)) (g:(cs.map SL.val).length=vs.length) (hg:∀c∈cs,c.good) (k:jt X.pts o=some s)
  (D:holds (my o.dst .un ⟨ev.tm,ev.lc.set s (.row cs)⟩ h K)):AD X holds abs o σ K:=by
 let σ₁:St:={ σ with loc:=σ.loc.set s (some (cs.map SL.val)) }
 have j:s<σ.loc.length:=(qbg.1 a).1;have q:Rp ⟨ev.tm,ev.lc.set s (.row cs)⟩ σ₁:=by
  refine⟨m.len,m.val,by simp[σ₁,m.llen],λi r d=>?_⟩;simp only[Eb]at d;split at d
  next b=>
   subst b;split at d
   ·cases d;exact⟨by simp only[σ₁];rw[C2 j],hg⟩
   ·cases d
  next b=>
   have:=m.row i r d;have u:σ₁.loc[i]?=σ.loc[i]?:=by simp only[σ₁];rw[B5 b]
   cases r<;>first|trivial|(simp only[LR.ok]at this ⊢;rw[u];exact this)
 obtain⟨p,w,x⟩:=wv (dst:=o.dst) q (s:=.un) trivial D;refine⟨σ₁.put o.dst undef,p,h,.inl ⟨_,B,(σ₁,undef),by simp[aY,a,t,σ₁],rfl⟩,w,?_,?_,x⟩
 ·rw[z];cases o.dst<;>rfl
 ·have t:=Fr.put (σ:=σ₁) o.dst undef (uN X.pts o).toList (jt X.pts o).toList;have v:Fr o.dst.toList (uN X.pts o).toList (jt X.pts o).toList σ σ₁:=by
   refine⟨rfl,by simp[σ₁],λ_ _ h _ _=>h,λ_ _ _ h _ _=>h,λi y l n=>?_,λi E l n=>?_⟩
   ·rw[k]at n;simp only[VY,qav]at n;simp only[σ₁];rw[B5 (λe=>n e.symm)];exact l
   ·by_cases b:i=s
    ·subst b;rw[a]at l;cases l;exact⟨_,by simp only[σ₁];rw[C2 j],g⟩
    ·exact⟨E,by simp only[σ₁];rw[B5 (λe=>b e.symm)];exact l,rfl⟩
  exact v.trans t
def Vu{p:Value}{new:Tk}{g:cO}{n:Nat}{d:List Act1}{cs:Tk}(h:E5 p new g n=some (d,cs)) :
  ∃id off vs c e,p = .pointer (some ⟨id,off,none⟩)/\g id=some (.cells vs e true)/\splice vs off new=some c/\d=[.set id (.cells c e true)]:=by
 unfold E5 at h;split at h
 next a=>
  split at h
  next i=>
   split at h
   next vs e l=>
    obtain⟨c,j,k⟩:=qag.1 h;obtain⟨b,f,m⟩:=a;simp only at i;subst i;cases k;exact⟨b,f,vs,c,e,rfl,l,j,rfl⟩
   ·cases h
  ·cases h
 ·cases h
def MB(hA:AlgOk A X.C Sg X.T holds abs)(m:Rp ev σ)(U:abs h=σ.heap){t:TJ}{a y:TG}{x:S0}(ho:o.op = .store t a y)(hy:sval ev y = .st x)
  (j:holds (E6 A X o.dst t a x ev h K)):AD X holds abs o σ K:=by
 obtain⟨a2,L⟩:=m.sval hy (by simp);have L:x.good:=L;have u:aq X.C X.pts (ke σ.tmps) o=eN X.C X.pts t a (ke σ.tmps a) x.val:=by simp only[aq,ho,a2];rfl
 have I:=S0.not_tuple L;unfold E6 at j;split at j
 ·exact absurd j hA.fail
 next hc=>
  simp only[wa]at hc;obtain⟨v,hi⟩:=hc;have v:=AW v;have Y:=wJ (P:=X.C.P) (t:=t) L v hi;split at j
  next p d O=>
   obtain⟨N,_⟩:=m.sval O (by simp);obtain⟨a6,i,h',h2,h3,F⟩:=hA.heap _ _ _ j;simp only[Hp.run]at h2;rw[U]at h2 h3;obtain⟨id,c,M,a5,e,rfl,g1,g2,rfl⟩:=Vu h2;refine dj (s:=.un) m (H':=σ.heap.set id (.cells a5 e true)) h3 trivial (f:=jm X.C t id c x.val) ?_ ?_ F
   ·rw[u,eN,I,d,N];rfl
   ·simp only[jm,g1,Y,g2,BP];rfl
  next s s' c d O=>
   obtain⟨N,_⟩:=m.sval O (by simp);have l:jt X.pts o=some s:=by simp only[jt,ho,d]
   split at j
   next i J k=>
    have J:s=s':=by simpa using J
    subst J;rw[setK_eq]at j;have g:aq X.C X.pts (ke σ.tmps) o=some (.lset s λM=>eP X.C.P t x.val M c):=by
     rw[u,eN,I,d,N];simp[SV.val,jc]
    have w:ev.lc[s]?=some (ev.lc.getD s .unk)∨ev.lc.getD s .unk = .unk:=by
     rw[List.getD_eq_getElem?_getD];cases ev.lc[s]?<;>simp
    unfold MA at k;split at k
    next ad hl=>
     obtain⟨q1,q2,q3⟩:=qV k;have G:ev.lc[s]?=some (.row ad):=by rcases w with h|h<;>rw[hl]at h<;>first|exact h|cases h
     have W:=m.row s _ G;exact rE m U g W.1 (by rw[Y];exact q1) (by simp[q2]) (q3 W.2 L) l j
    next n hl=>
     split at k
     next hz=>
      cases k;simp only[wa]at hz;have a3:=AW hz.1;have a4:=AW hz.2;have G:ev.lc[s]?=some (.any n):=by rcases w with h|h<;>rw[hl]at h<;>first|exact h|cases h
      obtain⟨M,a0,a1⟩:=m.row s _ G;refine rE m U g a0 ?_ (by rw[a1,a4];simp) L l j;rw[Y,a3,splice,mc (by simp;omega)];simp[show M.length<=x.cells.length by omega]
     ·cases k
    ·cases k
   ·exact absurd j hA.fail
  next s s' E ix d O=>
   obtain⟨N,_⟩:=m.sval O (by simp);have l:jt X.pts o=some s:=by simp only[jt,ho,d]
   split at j
   next i J W=>
    have J:s=s':=by simpa using J
    subst J;split at j
    ·exact absurd j hA.fail
    next ag=>
     obtain⟨ls,V,F⟩:=hA.opt _ _ j;obtain⟨Z,r,e1,e2,ap⟩:=qZ hA F;obtain⟨ay,Q⟩:=hA.un0 _ _ ap;rw[ay,Cx]at e1;rw[setK_eq]at Q;obtain⟨r1,r2,_⟩:=kw m W;have g:aq X.C X.pts (ke σ.tmps) o=some (.lset s λM=>eP X.C.P t x.val M (A1 E ix)):=by
      rw[u,eN,I,d,N];simp[SV.val,jc]
     rw[PV]at V;split at V
     next H=>
      simp only[A9]at H
      let c:=A1 E ix
      have S:BM i c x.cells.length=some ((i.drop c).take x.cells.length):=by unfold BM;rw[mc H]
      have an:aZ ((i.drop c).take x.cells.length) (x.cells.map SL.lk)=true:=mO ag (by rw[A9];exact S)
      let D:=i.take c++x.cells++i.drop (c+x.cells.length)
      have aE:iH i c x.cells=some D:=by unfold iH;rw[mc H]
      obtain⟨q1,q2,q3⟩:=qV aE;have z:aZ D (i.map SL.lk)=true:=by
       have B:i=i.take c++(i.drop c).take x.cells.length++i.drop (c+x.cells.length):=by
        rw[A6,←LS,LW,LW]
       have ax:∀ {a b:List SL},aZ a (b.map SL.lk)=true->a.map SL.lk=b.map SL.lk:=by
        intro a b q
        induction a generalizing b with
        |nil=>cases b with
         |nil=>rfl
         |cons _ _=>cases q
        |cons a a7 ih=>cases b with
         |nil=>cases q
         |cons b bs=>
          simp only[A5,aZ,wa]at q;simp only[A5,ih q.2];have:a.lk=b.lk:=by
           have h0:=q.1;cases a<;>cases b<;>first|rfl|(simp[SL.is,SL.lk]at h0;done)|(simp only[SL.is,SL.lk]at h0 ⊢;rw[dF h0])
          rw[this]
       have hm:i.map SL.lk=(i.take c).map SL.lk++x.cells.map SL.lk++(i.drop (c+x.cells.length)).map SL.lk:=by
        conv=>lhs;rw[B]
        simp only[CA];rw[ax an]
       rw[hm];exact gO (gO (mP _) (mP _)) (mP _)
      have ar:D.map SL.lf=Z.map SL.lf:=by
       rw[←e1];cases V;simp[D,c,R1,Ve]
      obtain⟨v1,v2⟩:=gP z e2 ar;refine rE m U g r1 (by rw[Y,←v1];exact q1) (by rw[←v1];simp[q2]) (v2 (q3 r2 L)) l Q
     ·cases V
   ·exact absurd j hA.fail
  ·exact absurd j hA.fail
end
section
variable {P:TD}
def aT{α β:Type}(s:Sem α)(f:α->Sem β):AE P (s >>= f)=(AE P s).bind λa=>AE P (f a):=by
 show AE P (s.bind f)=_
 induction s with
 |pure a=>rfl
 |program k b=>exact b P
 |_=>rfl
def gw{α:Type}(a:α):AE P (pure a:Sem α)=some a:=rfl
def lI:AE P program=some P:=rfl
def bo{t:TJ}{d:TypeDesc}(h:P.underlying t=some d):AE P (underlying t)=some d:=by
 unfold underlying;rw[aT,lI];simp only[A7,h];rfl
def qJ{d:Nat}{t:TJ}{k c:TF}{a b:Int}(h:P.underlying t=some (.int c)):AE P (Op.equalIn (d+1) t (.int k a) (.int k b))=some (a==b):=by
 simp only[Op.equalIn,aT,bo h,A7,if_true,gw]
def oW{d:Nat}{t:TJ}{a b:Bool}(h:P.underlying t=some .bool):AE P (Op.equalIn (d+1) t (.bool a) (.bool b))=some (a==b):=by
 simp only[Op.equalIn,aT,bo h,A7,gw]
def yj{t:TJ}{a:Bool}(h:Ao P t=some a):AE P (isAgg t)=some a:=by
 unfold isAgg;unfold Ao at h;split at h
 next b e=>cases h;rw[aT,bo e];rfl
 next b e=>cases h;rw[aT,bo e];rfl
 next d c f e=>
  cases h;rw[aT,bo e];simp only[A7];rfl
 ·cases h
def kr{t:TJ}{d:TypeDesc}(h:P.underlying t=some d):AE P (sizeOf t)=some (P.cellsOf t):=by
 unfold sizeOf typeInfo;have a:∃i,P.info? t=some i:=by
  unfold Program.underlying at h;cases a:P.info? t with
  |none=>simp[a]at h
  |some i=>exact⟨i,rfl⟩
 obtain⟨i,a⟩:=a;simp only[aT,lI,A7,a];simp[AE,Program.cellsOf,a];rfl
def lH{t:TJ}{c:Bool}(h:Ao P t=some c){cs:Tk}{off:Nat}{ds:Tk}(a:cut cs off (if c then P.cellsOf t else 1)=some ds) :
  ∃v,AE P (part t ⟨cs⟩ off)=some v/\Pg c ds v:=by
 have f:∃d,P.underlying t=some d:=by
  unfold Ao at h;cases g:P.underlying t with
  |none=>rw[g]at h;cases h
  |some d=>exact⟨d,rfl⟩
 obtain⟨d,f⟩:=f;unfold part;rw[aT,yj h];simp only[A7];unfold cut at a;cases c with
 |true=>
  simp only[if_true]at a ⊢;split at a
  next e=>
   cases a;refine⟨.agg ⟨(cs.drop off).take (P.cellsOf t)⟩,?_,.inl ⟨rfl,rfl⟩⟩;rw[aT,kr f];simp only[A7,gw,B7,Value.agg.injEq];apply qbj.1;rw[qcv];simp[List.extract]
  ·cases a
 |false=>
  simp only[Bq,if_false]at a ⊢;split at a
  next e=>
   cases a;have b:off<cs.length:=by omega
   refine⟨cs[off],?_,.inr ⟨rfl,by rw[M8 b];rfl⟩⟩;have:(⟨cs⟩ : Array Value)[off]?=some cs[off]:=by simp[b]
   rw[this];rfl
  ·cases a
def BN(a b:List SL):Bool:=cp ((a.map SL.lf).zip (b.map SL.lf))
def tZ(a b:List (Lf×Lf)):cp (a++b)=(cp a&&cp b):=by simp[cp]
def nY{a b c d:List SL}(h:a.length=b.length):BN (a++c) (b++d)=(BN a b&&BN c d):=by
 unfold BN;rw[CA,CA,List.zip_append (by simpa using h),tZ]
def Rq(a:Bool)(cs:List SL)(v:Value):Prop:=Pg a (cs.map SL.val) v
def EqD(P:TD)(d:Nat)(t:TJ)(ks:TE):Prop:=
 ∃c,Ao P t=some c/\(if c then P.cellsOf t else 1)=ks.length/\∀(a b:List SL) (x y:Value),aZ a ks=true->aZ b ks=true->Rq c a x->Rq c b y->AE P (Op.equalIn d t x y)=some (BN a b)
def fZ{cs:List SL}{d kb:TE}(h:aZ cs (d++kb)=true):∃a b,cs=a++b/\aZ a d=true/\aZ b kb=true:=by
 induction d generalizing cs with
 |nil=>exact⟨[],cs,rfl,rfl,h⟩
 |cons k d g=>
  cases cs with
  |nil=>cases h
  |cons c cs=>
   simp only[AO,aZ,wa]at h;obtain⟨a,b,rfl,e,f⟩:=g h.2;exact⟨c :: a,b,rfl,by simp[aZ,h.1,e],f⟩
def rB{pre a post:List SL}{n off:Nat}(c:off=pre.length)(b:n=a.length):cut ((pre++a++post).map SL.val) off n=some (a.map SL.val):=by
 subst c;subst b;unfold cut;rw[mc (by simp)]
 congr 1
 rw[CA,CA,A6,VU,qdl];simp
def EY{α:Type}{c:Prop} [Decidable c](a b:Sem α):AE P (if c then a else b)=if c then AE P a else AE P b:=by split<;>rfl
def oZ{d:Nat}{F:TJ->Option (TE)}(B:∀t ks,F t=some ks->EqD P d t ks):∀(l:List Field) (off:Nat) (ks:TE),lY F l off=some ks->
  ∀(c a e b:List SL),c.length=off->e.length=off->aZ a ks=true->aZ b ks=true->
   AE P (Op.eqFields d ⟨(c++a).map SL.val⟩ ⟨(e++b).map SL.val⟩ l)=some (BN a b)
 | [],off,ks,h,c,a,e,b,_,_,m,o=>by
  cases h;cases a with
  |cons _ _=>cases m
  |nil=>cases b with
   |cons _ _=>cases o
   |nil=>rfl
 |f :: l,off,ks,h,c,a,e,b,la,lb,m,o=>by
  simp only[lY]at h;split at h
  next J q C H=>
   have q:¬f.name = "_":=of_decide_eq_false q
   have C:=AW C;obtain⟨K,I,rfl⟩:=qag.1 h;obtain⟨N,A,O,E⟩:=B _ _ H;obtain⟨g,w,rfl,j,n⟩:=fZ m;obtain⟨i,z,rfl,k,p⟩:=fZ o;have L:=bM j;have M:=bM k;obtain⟨x,r,s⟩:=lH A (cs:=(c++(g++w)).map SL.val) (off:=f.offset) (ds:=g.map SL.val) (by rw[←A6];exact rB (by omega) (by omega));obtain⟨y,u,v⟩:=lH A (cs:=(e++(i++z)).map SL.val) (off:=f.offset) (ds:=i.map SL.val) (by rw[←A6];exact rB (by omega) (by omega));have G:=E g i x y j k s v;have D:=oZ B l (off+J.length) K I (c++g) w (e++i) z (by simp;omega) (by simp;omega) n p;rw[A6,A6]at D;simp only[Op.eqFields,ne_eq,q,not_false_eq_true,if_true];rw[aT,r];simp only[A7];rw[aT,u];simp only[A7];rw[aT,G];simp only[A7];rw[nY (by omega)];cases BN g i with
   |true=>simpa using D
   |false=>rfl
  ·cases h
def fV(d:Nat)(t:TJ)(c:Array Field)(xs ys:Tj)(i:P.underlying t=some (.struct c))(k:P.stoodInHeld t=false) :
  AE P (Op.equalIn (d+1) t (.agg xs) (.agg ys))=AE P (Op.eqFields d xs ys c.toList):=by
 simp only[Op.equalIn,aT,bo i,A7,lI,k,Bq,if_false];rw[←Array.forIn_toList];generalize c.toList=c;clear i
 induction c with
 |nil=>simp only[List.forIn_nil,Op.eqFields];rfl
 |cons f c j=>
  simp only[qdY,Op.eqFields,aT,EY];split
  ·cases e:AE P (part f.type xs f.offset)with
   |none=>simp
   |some a=>
    cases g:AE P (part f.type ys f.offset)with
    |none=>simp[e,g]
    |some b=>
     cases h:AE P (Op.equalIn d f.type a b)with
     |none=>simp[e,g,h]
     |some r=>
      cases r
      ·simp[e,g,h,gw]
      ·simpa[e,g,h,gw]using j
  ·simpa[gw]using j
def eG(d n:Nat)(e:TJ)(xs ys:Tj):Tx->Sem Bool
 | []=>pure true
 |i :: is=>do
  let a ←part e xs (i*n)
  let b ←part e ys (i*n)
  let r ←Op.equalIn d e a b
  if (!r)=true then pure false else eG d n e xs ys is
def gH(d:Nat)(t e:TJ)(n:Nat)(xs ys:Tj)(g:P.underlying t=some (.array n e))(f:∃k,P.underlying e=some k) :
  AE P (Op.equalIn (d+1) t (.agg xs) (.agg ys))=AE P (eG d (P.cellsOf e) e xs ys (List.range n)):=by
 obtain⟨k,f⟩:=f;simp only[Op.equalIn,aT,bo g,A7,kr f];rw[Std.Legacy.Range.forIn_eq_forIn_range'];simp only[Std.Legacy.Range.size,Nat.sub_zero,qc2,Nat.div_one];rw[U9];generalize List.range' 0 n=is;clear g
 induction is with
 |nil=>simp only[List.forIn_nil,eG];rfl
 |cons i is h=>
  simp only[qdY,eG,aT,EY];cases j:AE P (part e xs (i*P.cellsOf e))with
  |none=>simp
  |some a=>
   cases l:AE P (part e ys (i*P.cellsOf e))with
   |none=>simp
   |some b=>
    cases c:AE P (Op.equalIn d e a b)with
    |none=>simp[c]
    |some r=>
     cases r
     ·simp[c,gw]
     ·simpa[c,gw]using h
def qL{d:Nat}{e:TJ}{p:TE}(E:EqD P d e p)(l:p.length=P.cellsOf e):∀(n i:Nat) (c a f b:List SL),c.length=i*P.cellsOf e->f.length=i*P.cellsOf e->
  aZ a (List.replicate n p).flatten=true->aZ b (List.replicate n p).flatten=true->
   AE P (eG d (P.cellsOf e) e ⟨(c++a).map SL.val⟩ ⟨(f++b).map SL.val⟩ (List.range' i n))=some (BN a b)
 |0,i,c,a,f,b,_,_,m,o=>by
  cases a with
  |cons _ _=>cases m
  |nil=>cases b with
   |cons _ _=>cases o
   |nil=>rfl
 |n+1,i,c,a,f,b,la,lb,m,o=>by
  rw[qcE,VZ]at m o;obtain⟨C,h1,D,A⟩:=E;obtain⟨g,w,rfl,j,q⟩:=fZ m;obtain⟨h,z,rfl,k,r⟩:=fZ o;have G:=bM j;have H:=bM k;obtain⟨x,s,t⟩:=lH h1 (cs:=(c++(g++w)).map SL.val) (off:=i*P.cellsOf e) (ds:=g.map SL.val) (by rw[←A6];exact rB la.symm (by omega));obtain⟨y,u,v⟩:=lH h1 (cs:=(f++(h++z)).map SL.val) (off:=i*P.cellsOf e) (ds:=h.map SL.val) (by rw[←A6];exact rB lb.symm (by omega));have F:=A g h x y j k t v;have B:=qL ⟨C,h1,D,A⟩ l n (i+1) (c++g) w (f++h) z (by simp[Dg];omega) (by simp[Dg];omega) q r;rw[A6,A6]at B;simp only[qdk,eG];rw[aT,s];simp only[A7];rw[aT,u];simp only[A7];rw[aT,F];simp only[A7];rw[nY (by omega)];cases BN g h with
  |true=>simpa using B
  |false=>rfl
def Fx{k:LK}(g:k≠.v){a b:List SL}(c:aZ a [k]=true)(d:aZ b [k]=true):∃x y,a=[x]/\b=[y]/\x.is k=true/\y.is k=true:=by
 cases a with
 |nil=>cases c
 |cons x e=>cases e with
  |cons _ _=>simp[aZ]at c
  |nil=>cases b with
   |nil=>cases d
   |cons y f=>cases f with
    |cons _ _=>simp[aZ]at d
    |nil=>simp only[aZ,qd6]at c d;exact⟨x,y,rfl,rfl,c,d⟩
def nj:∀(d:Nat) (t:TJ) (ks:TE),flatK P d t=some ks->EqD P d t ks
 |0,t,ks,h=>by cases h
 |d+1,t,ks,h=>by
  simp only[flatK]at h;split at h
  next k e=>
   cases h;refine⟨false,by simp[Ao,e],by simp,λa b x y i j f g=>?_⟩;obtain⟨u,v,rfl,rfl,m,p⟩:=Fx (by simp) i j;rcases f with⟨c,_⟩|⟨_,f⟩
   ·cases c
   rcases g with⟨c,_⟩|⟨_,g⟩
   ·cases c
   simp only[A5,Dk,Dt,and_true]at f g;subst f;subst g;cases u<;>simp only[SL.is,Bq]at m;cases v<;>simp only[SL.is,Bq]at p;have A:=dF m;have B:=dF p;subst A;subst B;simp only[SL.val];rw[qJ e];simp[BN,cp,SL.lf,gJ]
  next e=>
   cases h;refine⟨false,by simp[Ao,e],by simp,λa b x y i j f g=>?_⟩;obtain⟨u,v,rfl,rfl,m,p⟩:=Fx (by simp) i j;rcases f with⟨c,_⟩|⟨_,f⟩
   ·cases c
   rcases g with⟨c,_⟩|⟨_,g⟩
   ·cases c
   simp only[A5,Dk,Dt,and_true]at f g;subst f;subst g;cases u<;>simp only[SL.is,Bq]at m<;>cases v<;>simp only[SL.is,Bq]at p<;>
   ·simp only[SL.val];rw[oW e];simp[BN,cp,SL.lf,gJ]
  next w e=>
   split at h
   next I F C=>
    split at h
    next l=>
     cases h;have l:=AW l;refine⟨true,by simp[Ao,e],by simp[l],λa b x y i j f g=>?_⟩;rcases f with⟨_,rfl⟩|⟨c,_⟩
     ·rcases g with⟨_,rfl⟩|⟨c,_⟩
      ·rw[fV d t w _ _ e F];exact oZ (nj d) w.toList 0 _ C [] a [] b rfl rfl i j
      ·cases c
     ·cases c
    ·cases h
   ·cases h
  next n o e=>
   split at h
   next G E=>
    split at h
    next l=>
     simp only[wa]at l;have r:=AW l.1;have s:=AW l.2;cases h;refine⟨true,by simp[Ao,e],by simp only[if_true];exact s.symm,λa b x y i j f g=>?_⟩;rcases f with⟨_,rfl⟩|⟨c,_⟩
     ·rcases g with⟨_,rfl⟩|⟨c,_⟩
      ·have z:=nj d o G E;have m:∃k,P.underlying o=some k:=by
        obtain⟨H,q,_⟩:=z;unfold Ao at q;cases D:P.underlying o with
        |none=>rw[D]at q;cases q
        |some k=>exact⟨k,rfl⟩
       rw[gH d t o n _ _ e m,U9];exact qL z r n 0 [] a [] b (by simp) (by simp) i j
      ·cases c
     ·cases c
    ·cases h
   ·cases h
  ·cases h
end
section
variable {P:TD}
def Fs{a b:Bool}:JM a b=(a==b):=by cases a<;>cases b<;>rfl
def vC{a b:Int}:Om a b=(a==b):=by
 rw[IK,beq_iff_eq];cases a<;>cases b<;>simp only[Om]
 ·rw[Nat.beq_eq];exact⟨λh=>by rw[h],λh=>Du h⟩
 ·exact⟨λh=>(by cases h),λh=>(by cases h)⟩
 ·exact⟨λh=>(by cases h),λh=>(by cases h)⟩
 ·rw[Nat.beq_eq];exact⟨λh=>by rw[h],λh=>Int.negSucc.inj h⟩
def mZ:∀ {ks:TE} {xs ys:Tk} {r:Bool},gK ks xs ys=some r->∃a b:List SL,a.map SL.val=xs/\b.map SL.val=ys/\aZ a ks=true/\aZ b ks=true/\BN a b=r
 | [],[],[],r,h=>by cases h;exact⟨[],[],rfl,rfl,rfl,rfl,rfl⟩
 | .i k :: ks,.int a x :: xs,.int b y :: ys,r,h=>by
  simp only[gK]at h;split at h
  next p n o d=>
   obtain⟨c,bs,h1,f,g,j,l⟩:=mZ d;refine⟨.i a x :: c,.i b y :: bs,by simp[SL.val,h1],by simp[SL.val,f],by simp[aZ,SL.is,n,g],by simp[aZ,SL.is,o,j],?_⟩;have m:BN (.i a x :: c) (.i b y :: bs)=((x==y)&&BN c bs):=by simp[BN,cp,gJ,SL.lf]
   rw[m,l,←vC];split at h
   next e=>cases h;rw[e];rfl
   next e=>cases h;rw[e];rfl
  ·cases h
 | .b :: ks,.bool x :: xs,.bool y :: ys,r,h=>by
  simp only[gK]at h;split at h
  next p d=>
   obtain⟨c,bs,h1,f,g,j,l⟩:=mZ d;refine⟨.b x :: c,.b y :: bs,by simp[SL.val,h1],by simp[SL.val,f],by simp[aZ,SL.is,g],by simp[aZ,SL.is,j],?_⟩;have m:BN (.b x :: c) (.b y :: bs)=((x==y)&&BN c bs):=by simp[BN,cp,gJ,SL.lf]
   rw[m,l,←Fs];split at h
   next e=>cases h;rw[e];rfl
   next e=>cases h;rw[e];rfl
  ·cases h
def ic:∀ {ks:TE} {xs ys:Tk} {r:Bool},gK ks xs ys=some r->xs.all scalar=true
 | [],[],[],r,h=>rfl
 | .i k :: ks,.int a x :: xs,.int b y :: ys,r,h=>by
  simp only[gK]at h;split at h
  next d e f c=>
   simp only[PY,wa];exact⟨rfl,ic c⟩
  ·cases h
 | .b :: ks,.bool x :: xs,.bool y :: ys,r,h=>by
  simp only[gK]at h;split at h
  next d c=>
   simp only[PY,wa];exact⟨rfl,ic c⟩
  ·cases h
def Ht:∀ {ks:TE} {xs ys:Tk} {r:Bool},gK ks xs ys=some r->xs.length=ks.length:=by
 intro ks xs ys r h;obtain⟨a,b,c,e,d,f,g⟩:=mZ h;rw[←c,A9];exact bM d
def kV:∀ {ks:TE} {xs:Tk} {r:Bool},gK ks xs xs=some r->r=true
 | [],[],r,h=>by cases h;rfl
 | .i k :: ks,.int a x :: xs,r,h=>by
  simp only[gK]at h;split at h
  next d e f c=>
   have:Om x x=true:=by rw[vC];simp
   rw[this]at h;simp only[B7]at h;rw[←h];exact kV c
  ·cases h
 | .b :: ks,.bool x :: xs,r,h=>by
  simp only[gK]at h;split at h
  next d c=>
   have:JM x x=true:=by cases x<;>rfl
   rw[this]at h;simp only[B7]at h;rw[←h];exact kV c
  ·cases h
def sR{α:Type}{g:α->PUnit->Sem (ForInStep PUnit)}:∀(l:List α),(∀x∈l,AE P (g x PUnit.unit)=some (.yield PUnit.unit))->AE P (forIn l PUnit.unit g)=some PUnit.unit
 | [],_=>rfl
 |x :: l,h=>by
  rw[qdY,aT,h x Cw];exact sR l λy a=>h y (BF _ a)
def ChkD(P:TD)(d:Nat)(t:TJ)(ks:TE):Prop:=∃a,Ao P t=some a/\(if a then P.cellsOf t else 1)=ks.length/\∀(b:Bool) (m:Nat) (cs:Tk) (v:Value),d<=m->cs.length=ks.length->Pg a cs v->AE P (Instr.checkKey b m t v)=some ()
def ul{F:TJ->Option (TE)}:∀(d:List Field) (off:Nat) (ks:TE),lY F d off=some ks->∀f∈d,∃e,F f.type=some e/\f.offset+e.length<=off+ks.length
 | [],off,ks,h,f,c=>by cases c
 |m :: d,off,ks,h,f,c=>by
  simp only[lY]at h;split at h
  next e n g i=>
   have g:=AW g;obtain⟨k,j,rfl⟩:=qag.1 h;rcases qas.1 c with rfl|c
   ·exact⟨e,i,by rw[Bv];omega⟩
   ·obtain⟨l,a,b⟩:=ul d _ k j f c;exact⟨l,a,by rw[Bv];omega⟩
  ·cases h
def Ez:∀(d:Nat) (t:TJ) (ks:TE),flatK P d t=some ks->ChkD P d t ks
 |0,t,ks,h=>by cases h
 |d+1,t,ks,h=>by
  simp only[flatK]at h;split at h
  next k e=>
   cases h;refine⟨false,by simp[Ao,e],by simp,λb m cs v G _ _=>?_⟩;obtain⟨m,rfl⟩ : ∃l,m=l+1:=⟨m - 1,by omega⟩;unfold Instr.checkKey;rw[aT,bo e];rfl
  next e=>
   cases h;refine⟨false,by simp[Ao,e],by simp,λb m cs v G _ _=>?_⟩;obtain⟨m,rfl⟩ : ∃l,m=l+1:=⟨m - 1,by omega⟩;unfold Instr.checkKey;rw[aT,bo e];rfl
  next K e=>
   split at h
   next S R M=>
    split at h
    next c=>
     cases h;have c:=AW c;refine⟨true,by simp[Ao,e],by simp[c],λb m cs v G p I=>?_⟩;obtain⟨m,rfl⟩ : ∃l,m=l+1:=⟨m - 1,by omega⟩;rcases I with⟨_,rfl⟩|⟨y,_⟩
     case inr=>cases y
     unfold Instr.checkKey;rw[aT,bo e];simp only[A7];rw[←Array.forIn_toList];have:=sR (P:=P) (g:=λf _=>if f.name ≠ "_" then(do Instr.checkKey b m f.type (←part f.type ⟨cs⟩ f.offset);pure (ForInStep.yield PUnit.unit))else pure (ForInStep.yield PUnit.unit)) K.toList (λf A=>by
      obtain⟨L,C,Q⟩:=ul K.toList 0 _ M f A;rw[EY];split
      ·obtain⟨w,o,s,u⟩:=Ez d f.type L C;have z:cut cs f.offset (if w then P.cellsOf f.type else 1)=some ((cs.drop f.offset).take L.length):=by
        unfold cut;rw[s,mc (by omega)]
       obtain⟨x,J,j⟩:=lH o z;rw[aT];rw[J];simp only[A7];rw[aT,u b m _ x (by omega) (by simp;omega) j];rfl
      ·rfl)
     rw[aT,this];rfl
    ·cases h
   ·cases h
  next n a e=>
   split at h
   next r C=>
    split at h
    next c=>
     simp only[wa]at c;have D:=AW c.1;have E:=AW c.2;cases h;refine⟨true,by simp[Ao,e],by simp only[if_true];exact E.symm,λb m cs v G p I=>?_⟩;obtain⟨m,rfl⟩ : ∃l,m=l+1:=⟨m - 1,by omega⟩;rcases I with⟨_,rfl⟩|⟨y,_⟩
     case inr=>cases y
     obtain⟨w,o,s,u⟩:=Ez d a r C;have H:∃k,P.underlying a=some k:=by
      unfold Ao at o;cases N:P.underlying a with
      |none=>rw[N]at o;cases o
      |some k=>exact⟨k,rfl⟩
     obtain⟨O,H⟩:=H;unfold Instr.checkKey;rw[aT,bo e];simp only[A7];rw[Std.Legacy.Range.forIn_eq_forIn_range'];simp only[Std.Legacy.Range.size,Nat.sub_zero,qc2,Nat.div_one];have q:cs.length=n*r.length:=by rw[p,List.length_flatten];simp
     have:=sR (P:=P) (g:=λi _=>(do Instr.checkKey b m a (←part a ⟨cs⟩ (i*(←sizeOf a)));pure (ForInStep.yield PUnit.unit))) (List.range' 0 n) (λi B=>by
      have B:i<n:=by simpa using B
      have F:i*P.cellsOf a+r.length<=cs.length:=by
       rw[q,←D];have:=LY r.length (Nat.succ_le_of_lt B);rw[Nat.succ_mul]at this;exact this
      have z:cut cs (i*P.cellsOf a) (if w then P.cellsOf a else 1)=some ((cs.drop (i*P.cellsOf a)).take r.length):=by
       unfold cut;rw[s,mc F]
      obtain⟨x,J,j⟩:=lH o z;rw[aT,kr H];simp only[A7];rw[aT,J];simp only[A7];rw[aT,u b m _ x (by omega) (by simp;omega) j];rfl)
     rw[aT,this];rfl
    ·cases h
   ·cases h
  ·cases h
def FS{kt:TJ}{k:Value}(h:DV P kt k=true):iZ P kt k=true:=by
 unfold DV at h;split at h
 next b=>
  split at h
  next p=>
   split at h
   next g o=>
    split at h
    next r i=>
     have q:=Ht i;have u:=kV i;subst u;obtain⟨s,n,A,t⟩:=nj 10000 kt g o;have l:s=true:=by
      rw[p]at n;exact(AR n).symm
     subst l;obtain⟨a,c,v,w,x,y,z⟩:=mZ i;have e:=t a c (.agg b) (.agg b) x y (.inl ⟨rfl,by rw[v]⟩) (.inl ⟨rfl,by rw[w]⟩);rw[z]at e;have f:AE P (Op.equal kt (.agg b) (.agg b))=some true:=e;obtain⟨j,m,_,c3⟩:=Ez 10000 kt g o;have d:j=true:=by
      rw[p]at m;exact(AR m).symm
     subst d;unfold iZ;rw[c3 true 10000 b.toList (.agg b) (Ah _) q (.inl ⟨rfl,rfl⟩),c3 false 10000 b.toList (.agg b) (Ah _) q (.inl ⟨rfl,rfl⟩),f];have:fL (.agg b)=true:=ic i;rw[this];rfl
    ·exact h
   ·exact h
  ·exact h
 ·exact h
def DU(a:Bool)(xs:Tk)(x:Value):Prop:=(a=true/\x = .agg ⟨xs⟩)∨(a=false/\∃b,xs=x :: b)
def Ng(P:TD)(d:Nat)(t:TJ)(ks:TE):Prop:=
 ∃a,Ao P t=some a/\(if a then P.cellsOf t else 1)=ks.length/\∀(xs ys:Tk) (x y:Value) (r:Bool),Ak ks xs ys=some r->DU a xs x->DU a ys y->AE P (Op.equalIn d t x y)=some r
def kQ:∀ {a c:TE} {xs ys:Tk} {r:Bool},Ak (a++c) xs ys=some r->
  ∃e,Ak a (xs.take a.length) (ys.take a.length)=some e/\(e=false->r=false)/\(e=true->Ak c (xs.drop a.length) (ys.drop a.length)=some r)
 | [],c,xs,ys,r,h=>by
  refine⟨true,by simp only[Ak],(λq=>Bool.noConfusion q),λ_=>?_⟩;simpa using h
 | .i k :: a,c,xs,ys,r,h=>by
  cases xs with
  |nil=>simp[Ak]at h
  |cons x xs=>cases ys with
   |nil=>cases x<;>simp[Ak]at h
   |cons y ys=>
    cases x<;>first|(simp[Ak]at h;done)|skip
    cases y<;>first|(simp[Ak]at h;done)|skip
    simp only[AO,Ak]at h;simp only[C6,qcF,qcU,Ak];split at h
    next f g=>
     split at h
     next d=>
      exact kQ h
     next d=>
      cases h;exact⟨false,rfl,λ_=>rfl,λq=>Bool.noConfusion q⟩
    ·cases h
 | .b :: a,c,xs,ys,r,h=>by
  cases xs with
  |nil=>simp[Ak]at h
  |cons x xs=>cases ys with
   |nil=>cases x<;>simp[Ak]at h
   |cons y ys=>
    cases x<;>first|(simp[Ak]at h;done)|skip
    cases y<;>first|(simp[Ak]at h;done)|skip
    simp only[AO,Ak]at h;simp only[C6,qcF,qcU,Ak];split at h
    next d=>
     exact kQ h
    next d=>
     cases h;exact⟨false,rfl,λ_=>rfl,λq=>Bool.noConfusion q⟩
 | .v :: a,c,xs,ys,r,h=>by simp[Ak]at h
def N3{k:LK}{ks:TE}{xs ys:Tk}{r:Bool}(h:Ak (k :: ks) xs ys=some r):∃x b y a,xs=x :: b/\ys=y :: a:=by
 cases xs with
 |nil=>cases k<;>simp[Ak]at h
 |cons x xs=>cases ys with
  |nil=>cases k<;>cases x<;>simp[Ak]at h
  |cons y ys=>exact⟨x,xs,y,ys,rfl,rfl⟩
def Gk{t:TJ}{a:Bool}(h:Ao P t=some a){cs:Tk}{off n:Nat}(b:(if a then P.cellsOf t else 1)=n)(c:a=false->∃x f,(cs.drop off).take n=x :: f) :
  ∃v,AE P (part t ⟨cs⟩ off)=some v/\DU a ((cs.drop off).take n) v:=by
 have e:∃d,P.underlying t=some d:=by
  unfold Ao at h;cases j:P.underlying t with
  |none=>rw[j]at h;cases h
  |some d=>exact⟨d,rfl⟩
 obtain⟨d,e⟩:=e;unfold part;rw[aT,yj h];simp only[A7];cases a with
 |true=>
  simp only[if_true]at b ⊢;subst b;refine⟨.agg ⟨(cs.drop off).take (P.cellsOf t)⟩,?_,.inl ⟨rfl,rfl⟩⟩;rw[aT,kr e];simp only[A7,gw,B7,Value.agg.injEq];apply qbj.1;rw[qcv];simp[List.extract]
 |false=>
  obtain⟨x,f,i⟩:=c rfl;simp only[Bq,if_false]at b ⊢;subst b;refine⟨x,?_,.inr ⟨rfl,f,i⟩⟩;have g:(cs.drop off)[0]?=some x:=by
   have:((cs.drop off).take 1)[0]?=some x:=by rw[i];rfl
   rwa [Ij,mc (by omega)]at this
  rw[Ii,Vf]at g;have:(⟨cs⟩ : Array Value)[off]?=some x:=by simpa using g
  rw[this];rfl
def wU{d:Nat}{t:TJ}{c n:TE}(A:Ng P d t c){xs ys:Tk}{off:Nat}{r:Bool}(h:Ak (c++n) (xs.drop off) (ys.drop off)=some r)(s:Bool->Sem Bool){o:Bool}
  (D:Ak n (xs.drop (off+c.length)) (ys.drop (off+c.length))=some r->AE P (s true)=some r) (B:AE P (s false)=some false) (C:o=r) :
  (AE P (part t ⟨xs⟩ off)).bind (λa=>(AE P (part t ⟨ys⟩ off)).bind λb=>(AE P (Op.equalIn d t a b)).bind λq=>AE P (s q))=some o:=by
 subst C;obtain⟨u,m,g,z⟩:=A;obtain⟨p,l,v,w⟩:=kQ h;have e:u=false->(∃x f,(xs.drop off).take c.length=x :: f)/\∃x f,(ys.drop off).take c.length=x :: f:=by
  intro i;subst i;simp only[Bq,if_false]at g;cases c with
  |nil=>cases g
  |cons k K=>
   obtain⟨x,f,y,j,E,F⟩:=N3 l;exact⟨⟨x,f,E⟩,⟨y,j,F⟩⟩
 obtain⟨x,G,H⟩:=Gk m (cs:=xs) (off:=off) g λh=>(e h).1;obtain⟨y,I,J⟩:=Gk m (cs:=ys) (off:=off) g λh=>(e h).2;rw[G];simp only[A7];rw[I];simp only[A7];rw[z _ _ x y p l H J];simp only[A7];cases p with
 |true=>
  refine D ?_;have:=w rfl
  rwa [LS,LS]at this
 |false=>rw[v rfl];exact B
def mj{d:Nat}{F:TJ->Option (TE)}(g:∀t ks,F t=some ks->Ng P d t ks):∀(a:List Field) (off:Nat) (ks:TE),lY F a off=some ks->
  ∀(xs ys:Tk) (r:Bool),Ak ks (xs.drop off) (ys.drop off)=some r->AE P (Op.eqFields d ⟨xs⟩ ⟨ys⟩ a)=some r
 | [],off,ks,h,xs,ys,r,b=>by
  cases h;simp only[Ak,B7]at b;subst b;rfl
 |f :: a,off,ks,h,xs,ys,r,b=>by
  simp only[lY]at h;split at h
  next l c e i=>
   have c:¬f.name = "_":=of_decide_eq_false c
   have e:=AW e;obtain⟨k,j,rfl⟩:=qag.1 h;simp only[Op.eqFields,ne_eq,c,not_false_eq_true,if_true,aT];rw[e];exact wU (g _ _ i) b (λq=>if (!q)=true then pure false else Op.eqFields d ⟨xs⟩ ⟨ys⟩ a) (λh=>by simpa using mj g a _ k j xs ys r h) rfl rfl
  ·cases h
def oY{d:Nat}{e:TJ}{c:TE}(f:Ng P d e c)(a:c.length=P.cellsOf e):∀(n i:Nat) (xs ys:Tk) (r:Bool),
  Ak (List.replicate n c).flatten (xs.drop (i*P.cellsOf e)) (ys.drop (i*P.cellsOf e))=some r->AE P (eG d (P.cellsOf e) e ⟨xs⟩ ⟨ys⟩ (List.range' i n))=some r
 |0,i,xs,ys,r,b=>by
  simp only[List.replicate_zero,List.flatten_nil,Ak,B7]at b;subst b;rfl
 |n+1,i,xs,ys,r,b=>by
  rw[qcE,VZ]at b;simp only[qdk,eG,aT];refine wU f b (λq=>if (!q)=true then pure false else eG d (P.cellsOf e) e ⟨xs⟩ ⟨ys⟩ (List.range' (i+1) n)) (λh=>?_) rfl rfl;have:=oY f a n (i+1) xs ys r (by rw[Dg,Ik,←a];rwa [←a]at h);simpa using this
def oh:∀(d:Nat) (t:TJ) (ks:TE),flatK P d t=some ks->Ng P d t ks
 |0,t,ks,h=>by cases h
 |d+1,t,ks,h=>by
  simp only[flatK]at h;split at h
  next k e=>
   cases h;refine⟨false,by simp[Ao,e],by simp,λxs ys x y r a f g=>?_⟩;rcases f with⟨h0,_⟩|⟨_,C,rfl⟩
   ·cases h0
   rcases g with⟨h0,_⟩|⟨_,ty,rfl⟩
   ·cases h0
   cases x<;>first|(simp[Ak]at a;done)|skip
   cases y<;>first|(simp[Ak]at a;done)|skip
   simp only[Ak]at a;split at a
   next j l=>
    have j:=dF j;have l:=dF l;subst j;subst l;rw[qJ e,←vC];split at a
    next b=>rw[b];exact a
    next b=>rw[b];exact a
   ·cases a
  next e=>
   cases h;refine⟨false,by simp[Ao,e],by simp,λxs ys x y r a f g=>?_⟩;rcases f with⟨h0,_⟩|⟨_,C,rfl⟩
   ·cases h0
   rcases g with⟨h0,_⟩|⟨_,ty,rfl⟩
   ·cases h0
   cases x<;>first|(simp[Ak]at a;done)|skip
   cases y<;>first|(simp[Ak]at a;done)|skip
   simp only[Ak]at a;rw[oW e,←Fs];split at a
   next b=>rw[b];exact a
   next b=>rw[b];exact a
  next q e=>
   split at h
   next E z u=>
    split at h
    next c=>
     cases h;have c:=AW c;refine⟨true,by simp[Ao,e],by simp[c],λxs ys x y r a f g=>?_⟩;rcases f with⟨_,rfl⟩|⟨h0,_⟩
     ·rcases g with⟨_,rfl⟩|⟨h0,_⟩
      ·rw[fV d t q _ _ e z];exact mj (oh d) q.toList 0 _ u xs ys r a
      ·cases h0
     ·cases h0
    ·cases h
   ·cases h
  next n i e=>
   split at h
   next B w=>
    split at h
    next c=>
     simp only[wa]at c;have o:=AW c.1;have p:=AW c.2;cases h;refine⟨true,by simp[Ao,e],by simp only[if_true];exact p.symm,λxs ys x y r a f g=>?_⟩;rcases f with⟨_,rfl⟩|⟨h0,_⟩
     ·rcases g with⟨_,rfl⟩|⟨h0,_⟩
      ·have s:=oh d i B w;have A:∃k,P.underlying i=some k:=by
        obtain⟨D,m,_⟩:=s;unfold Ao at m;cases v:P.underlying i with
        |none=>rw[v]at m;cases m
        |some k=>exact⟨k,rfl⟩
       rw[gH d t i n _ _ e A,U9];exact oY s o n 0 xs ys r (by simpa using a)
      ·cases h0
     ·cases h0
    ·cases h
   ·cases h
  ·cases h
def uh{kt:TJ}{ks:TE}{cs:Tj}(d:∀(xs ys:Tk) (x y:Value) (r:Bool),Ak ks xs ys=some r->DU true xs x->DU true ys y->AE P (Op.equalIn 10000 kt x y)=some r) :
  ∀(a:Th) (i:Nat) (r:To),iW ks cs.toList a i=some r->∃q,AE P (Instr.findAsking kt (.agg cs) (a.map bA) i)=some q/\q.map (·.1)=r
 | [],i,r,h=>by cases h;exact⟨none,rfl,rfl⟩
 |e :: a,i,r,h=>by
  simp only[iW]at h;split at h
  next ds l=>
   have f:∀b,Ak ks cs.toList ds.toList=some b->AE P (Op.equal kt (.agg cs) (bA e).key)=some b:=by
    intro b c;have:=d cs.toList ds.toList (.agg cs) (.agg ds) b c (.inl ⟨rfl,rfl⟩) (.inl ⟨rfl,rfl⟩);show AE P (Op.equalIn 10000 kt (.agg cs) e.key)=some b;rw[l];exact this
   have g:AE P (Instr.findAsking kt (.agg cs) ((e :: a).map bA) i)=(AE P (Op.equal kt (.agg cs) (bA e).key)).bind λb=>AE P (if b then pure (some (i,(bA e).val))else Instr.findAsking kt (.agg cs) (a.map bA) (i+1)):=by
    show AE P (Op.equal kt (.agg cs) (bA e).key >>= λb=>if b then pure (some (i,(bA e).val))else Instr.findAsking kt (.agg cs) (a.map bA) (i+1))=_;rw[aT]
   split at h
   next c=>
    cases h;refine⟨some (i,(bA e).val),?_,rfl⟩;rw[g,f true c];rfl
   next c=>
    obtain⟨q,j,k⟩:=uh d a (i+1) r h;refine⟨q,?_,k⟩;rw[g,f false c];simp only[A7,Bq,if_false];exact j
   ·cases h
  ·cases h
def xe(kt:TJ)(k:Value)(b:Th):ug P kt k b=rQ P kt k b:=by
 unfold ug;split
 next f=>
  simp only[nh];split
  next s a o=>
   split
   next r h=>
    obtain⟨t,g,w,i⟩:=oh 10000 kt s o;rw[a]at g;cases g;obtain⟨q,j,m⟩:=uh (P:=P) (kt:=kt) i b 0 r h;have c:∃d,P.underlying kt=some d/\∀x,Instr.sameNow d (.agg f) x=none:=by
     unfold Ao at a;split at a
     next v e=>exact⟨_,e,λx=>by simp[Instr.sameNow]⟩
     next n u e=>exact⟨_,e,λx=>by simp[Instr.sameNow]⟩
     ·cases a
     ·cases a
    obtain⟨d,c,p⟩:=c;unfold rQ Instr.findKey;rw[aT,bo c];simp only[A7];cases b with
    |nil=>
     cases h;rfl
    |cons e l=>
     have:Instr.findNow d (.agg f) ((e :: l).map bA) 0=none:=by
      simp only[A5];unfold Instr.findNow;rw[p]
     rw[this];simp only;rw[j];simp[m]
   ·rfl
  ·rfl
 ·rfl
end
section
variable [Val] [Kno] {R HT:Type} {A:Alg R HT} {X:Ctxt} {Sg:Tc} {holds:R->Prop} {abs:HT->Tp}
variable {ev:Env} {σ:St} {h:HT} {o:Oper} {K:KN R HT}
def SL.nv:SL->Prop
 | .v _=>False
 |_=>True
def SL.nv_scalar{l:SL}(h:l.nv):scalar l.val=true:=by cases l<;>first|rfl|exact h.elim
def SL.nv_den{l:SL}(h:l.nv):CT l.val=l.val:=by cases l<;>first|rfl|exact h.elim
def sF{x:S0}(h:∀l∈x.cells,l.nv):plain x.val=true/\Cu x.val=x.val:=by
 cases x with
 |leaf l=>
  have a:=h l (by simp[S0.cells]);cases l<;>first|exact⟨rfl,rfl⟩|exact a.elim
 |agg b=>
  refine⟨?_,?_⟩
  ·simp only[S0.val,plain,qac,qax];rintro _ ⟨l,a,rfl⟩;simp[jd,SL.nv_scalar (h l a)]
  ·simp only[S0.val,Cu,Value.agg.injEq];apply qbj.1;rw[II,Ep];refine Ea λl a=>?_;exact SL.nv_den (h l a)
def rj:∀ {cs:List SL} {ks:TE},aZ cs ks=true->rl ks=true->∀l∈cs,l.nv
 | [],[],_,_,l,hl=>by cases hl
 |c :: cs,k :: ks,h1,a,l,hl=>by
  simp only[aZ,wa]at h1;simp only[rl,PY,wa]at a;rcases qas.1 hl with rfl|hl
  ·cases l<;>first|trivial|(cases k<;>first|(simp at a;done)|(simp[SL.is]at h1;done))
  ·exact rj h1.2 a.2 l hl
 | [],_ :: _,h,_,_,_=>by cases h
 |_ :: _,[],h,_,_,_=>by cases h
def gc{d:BinOp}{t l:TJ}{x y:TG}{a b u:Value}(c:o.op = .binOp d t x y l)(e:ke σ.tmps x=a)(f:ke σ.tmps y=b)(g:plain a=true/\Cu a=a)(i:plain b=true/\Cu b=b)
  (j:plain u=true/\Cu u=u) (hg:∀w,(eqGuard d t x y a b).run X.C.P w = .ok () w) (k:∀w,(binOp d t a b).run X.C.P w = .ok u w):kI X.C σ.tmps o u:=by
 refine⟨by rw[c];rfl,?_,j.1,λw=>?_⟩
 ·rw[c];simp[Op.operands,e,f,g.1,i.1]
 ·simp only[execOp,c,e,f,g.2,i.2,Sem.run_bind,hg w,Result.andThen_ok,k w,Sem.run_pure,j.2]
def oz{d:BinOp}{t:TJ}{x y:TG}{k c:TF}{a b:Int}{P:TD}(w:World):(eqGuard d t x y (.int k a) (.int c b)).run P w = .ok () w:=by
 unfold eqGuard;split<;>rfl
def qn{c:BinOp}{t:TJ}{x y:TG}{a b:Bool}{P:TD}(w:World):(eqGuard c t x y (.bool a) (.bool b)).run P w = .ok () w:=by
 unfold eqGuard;split<;>rfl
def uq{c:BinOp}{t:TJ}{x y:TG}{a b:ByteArray}{P:TD}(w:World):(eqGuard c t x y (.string a) (.string b)).run P w = .ok () w:=by
 unfold eqGuard;split<;>rfl
def GI(a b:ByteArray):(a.toList==b.toList)=Hl a.data.toList b.data.toList:=by
 rw[IK,xa,beq_iff_eq,ByteArray.toList_eq,ByteArray.toList_eq]
def pA{x y:Value}{t:Bool}(h:GH x y=some t):∃a b,x = .string a/\y = .string b/\t=Hl a.data.toList b.data.toList:=by
 unfold GH at h;split at h
 ·split at h
  ·cases h;exact⟨_,_,rfl,rfl,rfl⟩
  ·cases h
 ·cases h
def NX{P:TD}{c:BinOp}{k:TF}{a b:Int}{t:Bool}(h:qc c a b=some t)(d:FR c=false)(ty:TJ)(w:World):(binOp c ty (.int k a) (.int k b)).run P w = .ok (.bool t) w:=by
 cases c<;>simp only[qc,reduceCtorEq,B7]at h<;>subst h<;>simp[binOp,Op.intCmp]
def aB{l:SL}(h:l.good):(S0.leaf l).good:=λm a=>by
 simp only[S0.cells,qav]at a;subst a;exact h
def SI(hA:AlgOk A X.C Sg X.T holds abs)(q:Rp ev σ)(z:abs h=σ.heap){W:BinOp}{t yt:TJ}{x y:TG}{a b:S0}(D:o.op = .binOp W t x y yt)
  (hx:sval0 ev x=some a) (hy:sval0 ev y=some b) (g:holds (SH A X o.dst W t a b ev h K)):AD X holds abs o σ K:=by
 obtain⟨j,ga⟩:=q.sval0 hx;obtain⟨p,gb⟩:=q.sval0 hy;unfold SH at g;split at g
 next k n k' m=>
  simp only[S0.val,SL.val]at j p;have F:∀(k:TF) (n:Int),plain (.int k n)=true/\Cu (.int k n) = .int k n:=λ_ _=>⟨rfl,rfl⟩;split at g
  ·obtain⟨r,S,f⟩:=hA.shf _ _ _ _ _ _ g;exact cE q z (s:=.st (.leaf (.i k r))) (aB trivial) (gc D j p (F _ _) (F _ _) (F _ _) (λw=>oz w) (λw=>S _ _ w)) f
  next hs G V=>
   have e:=dF G;subst e;obtain⟨r,S,f⟩:=hA.cmp _ _ _ _ g;exact cE q z (s:=.st (.leaf (.b r))) (aB trivial) (gc D j p (F _ _) (F _ _) ⟨rfl,rfl⟩ (λw=>oz w) (λw=>NX S hs _ w)) f
  next hs G V=>
   have e:=dF G;subst e;obtain⟨r,S,f⟩:=hA.ari _ _ _ _ _ g;exact cE q z (s:=.st (.leaf (.i k r))) (aB trivial) (gc D j p (F _ _) (F _ _) (F _ _) (λw=>oz w) (λw=>S _ _ w)) f
  ·exact absurd g hA.fail
 next Y Z=>
  split at g
  next ks hf ap an=>
   split at g
   next V=>
    simp only[wa]at V;obtain⟨⟨I,J⟩,L⟩:=V;have O:=sF (x:=.agg Y) (rj I L);have Q:=sF (x:=.agg Z) (rj J L);obtain⟨ag,g1,g2,g3⟩:=nj 10000 t ks hf;have N:∀w,(eqGuard W t x y (S0.val (.agg Y)) (S0.val (.agg Z))).run X.C.P w = .ok () w:=λw=>run_eqGuard_agg w W t x y _ _ ap;have ad:ag=true:=by
     rw[an]at g1;exact(AR g1).symm
    subst ad;have M:=g3 Y Z _ _ I J (.inl ⟨rfl,rfl⟩) (.inl ⟨rfl,rfl⟩);split at g
    ·have f:=hA.eqs _ _ g;refine cE q z (s:=.st (.leaf (.b _))) (aB trivial) (gc D j p O Q ⟨rfl,rfl⟩ N λw=>?_) f;rw[S0.val,S0.val,run_eql_struct,gr M];rfl
    ·have f:=hA.eqs _ _ g;refine cE q z (s:=.st (.leaf (.b _))) (aB trivial) (gc D j p O Q ⟨rfl,rfl⟩ N λw=>?_) f;rw[S0.val,S0.val,run_neq_struct,gr M];rfl
    ·exact absurd g hA.fail
   ·exact absurd g hA.fail
  ·exact absurd g hA.fail
 next u v=>
  simp only[S0.val,SL.val]at j p;split at g
  next hu=>
   split at g
   ·obtain⟨U,B,f⟩:=hA.opt _ _ g;obtain⟨c,d,rfl,rfl,rfl⟩:=pA B;refine cE q z (s:=.st (.leaf (.b _))) (aB trivial) (gc D j p ⟨rfl,rfl⟩ ⟨rfl,rfl⟩ ⟨rfl,rfl⟩ (λw=>uq w) λw=>?_) f;simp only[binOp,Op.stringOp,GI];rfl
   ·obtain⟨U,B,f⟩:=hA.opt _ _ g;obtain⟨c,d,rfl,rfl,rfl⟩:=pA B;refine cE q z (s:=.st (.leaf (.b _))) (aB trivial) (gc D j p ⟨rfl,rfl⟩ ⟨rfl,rfl⟩ ⟨rfl,rfl⟩ (λw=>uq w) λw=>?_) f;simp only[binOp,Op.stringOp,GI];rfl
   ·exact absurd g hA.fail
  ·split at g
   ·obtain⟨U,B,f⟩:=hA.opt _ _ g;obtain⟨B,H⟩:=uL ‹X.C.P.underlying t=some _› B;refine aF q z (s:=.st (.leaf (.b U))) (aB trivial) ?_ f;simp only[aq,D,j,p,B,H,if_true];rfl
   ·obtain⟨U,B,f⟩:=hA.opt _ _ g;obtain⟨B,H⟩:=uL ‹X.C.P.underlying t=some _› B;refine aF q z (s:=.st (.leaf (.b (!U)))) (aB trivial) ?_ f;simp only[aq,D,j,p,B,H,if_true];rfl
   ·exact absurd g hA.fail
  ·exact absurd g hA.fail
 next u v _ _=>
  split at g
  next hb hu=>
   simp only[wa]at hb;have E:∀ {l:SL},l.is .b=true->∃c,l.val = .bool c/\l.lf = .b c:=by
    intro l hl;cases l<;>simp only[SL.is,Bq]at hl<;>exact⟨_,rfl,rfl⟩
   obtain⟨c,c1,c2⟩:=E hb.1;obtain⟨d,d1,d2⟩:=E hb.2;simp only[S0.val]at j p;rw[c1]at j;rw[d1]at p;have hq:∀w,(Op.equal t (.bool c) (.bool d)).run X.C.P w = .ok (c==d) w:=λw=>run_equal_bool w t c d hu;split at g
   ·have f:=hA.eqs _ _ g;rw[c2,d2]at f;refine cE q z (s:=.st (.leaf (.b _))) (aB trivial) (gc D j p ⟨rfl,rfl⟩ ⟨rfl,rfl⟩ ⟨rfl,rfl⟩ (λw=>qn w) λw=>?_) f;simp only[binOp,Sem.run_bind,hq w,Result.andThen_ok,Sem.run_pure];simp[SV.val,S0.val,SL.val,cp,gJ]
   ·have f:=hA.eqs _ _ g;rw[c2,d2]at f;refine cE q z (s:=.st (.leaf (.b _))) (aB trivial) (gc D j p ⟨rfl,rfl⟩ ⟨rfl,rfl⟩ ⟨rfl,rfl⟩ (λw=>qn w) λw=>?_) f;simp only[binOp,Sem.run_bind,hq w,Result.andThen_ok,Sem.run_pure];simp[SV.val,S0.val,SL.val,cp,gJ]
   ·exact absurd g hA.fail
  ·exact absurd g hA.fail
 ·exact absurd g hA.fail
def un_ok(hA:AlgOk A X.C Sg X.T holds abs)(d:Rp ev σ)(j:abs h=σ.heap){v:UnOp}{t:TJ}{x:TG}(p:o.op = .unOp v t x)
  (g:holds (match (generalizing:=false) v,sval ev x with
  | .not,.st (.leaf (.b t))=>my o.dst (.st (.leaf (.b (!t)))) ev h K
  | .not,.st (.leaf (.l t))=>my o.dst (.st (.leaf (.l (!t)))) ev h K
  | .neg,.st (.leaf (.i k n))=>A.ari .sub k 0 n λn=>my o.dst (.st (.leaf (.i k n))) ev h K
  |_,_=>A.fail)):AD X holds abs o σ K:=by
 have c:∀ {a u:Value},ke σ.tmps x=a->(plain a=true/\Cu a=a)->(plain u=true/\Cu u=u)->(∀w,(Op.unary v a).run X.C.P w = .ok u w)->kI X.C σ.tmps o u:=by
  intro a u z B D q;refine⟨by rw[p];rfl,by rw[p];simp[Op.operands,z,B.1],D.1,λw=>?_⟩;simp only[execOp,p,z,B.2,Sem.run_bind,q w,Result.andThen_ok,Sem.run_pure,D.2]
 split at g
 next y e=>
  obtain⟨f,_⟩:=d.sval e (by simp);refine cE d j (s:=.st (.leaf (.b (!y)))) (aB trivial) (c f ⟨rfl,rfl⟩ ⟨rfl,rfl⟩ λw=>?_) g;simp[SV.val,S0.val,SL.val,Op.unary]
 next y e=>
  obtain⟨f,_⟩:=d.sval e (by simp);refine cE d j (s:=.st (.leaf (.l (!y)))) (aB trivial) (c f ⟨rfl,rfl⟩ ⟨rfl,rfl⟩ λw=>?_) g;simp[SV.val,S0.val,SL.val,Op.unary]
 next k n e=>
  obtain⟨f,_⟩:=d.sval e (by simp);obtain⟨r,q,m⟩:=hA.ari _ _ _ _ _ g;refine cE d j (s:=.st (.leaf (.i k r))) (aB trivial) (c f ⟨rfl,rfl⟩ ⟨rfl,rfl⟩ λw=>?_) m;have:=q X.C.P t w;simp[SV.val,S0.val,SL.val,Op.unary,binOp,Op.intArith]at this ⊢;exact this
 ·exact absurd g hA.fail
def NZ(hA:AlgOk A X.C Sg X.T holds abs)(g:Rp ev σ)(l:abs h=σ.heap){j f:TJ}{x:TG}(d:o.op = .convert j f x)
  (b:holds (match X.C.P.underlying j,X.C.P.underlying f,sval ev x with
  |some (.int _),some (.int k),.st (.leaf (.i _ n))=>A.conv k n λn=>my o.dst (.st (.leaf (.i k n))) ev h K
  |_,_,_=>A.fail)):AD X holds abs o σ K:=by
 split at b
 next r k q n m p e=>
  obtain⟨a,_⟩:=g.sval e (by simp);have c:=hA.conv _ _ _ b
  simp only[SV.val,S0.val,SL.val]at a;refine cE g l (s:=.st (.leaf (.i k _))) (aB trivial) ⟨by rw[d];rfl,by rw[d];simp[Op.operands,a];rfl,rfl,λw=>?_⟩ c;simp only[execOp,d,a];simp[Cu,CT,convert,run_underlying m,run_underlying p,Conv.intToInt,SV.val,S0.val,SL.val]
 ·exact absurd b hA.fail
end
namespace Sx
section
variable [Val] [Kno] {R HT:Type} {A:Alg R HT} {X:Ctxt} {Sg:Tc} {holds:R->Prop} {abs:HT->Tp}
variable {ev:Env} {σ:St} {h:HT} {o:Oper} {K:KN R HT}
def oP:∀(ix:List (Int×Nat)) (a:Nat) (p:Int×Nat),A1 a (ix++[p])=A1 a ix+p.1.toNat*p.2
 | [],_,_=>rfl
 |q :: l,a,p=>oP l (a+q.1.toNat*q.2) p
def jZ:∀(ix:List (Int×Nat)) (a n:Nat),A1 (a+n) ix=A1 a ix+n
 | [],_,_=>rfl
 |q :: l,a,n=>by
  simp only[A1];rw[show a+n+q.1.toNat*q.2=a+q.1.toNat*q.2+n by omega];exact jZ l _ n
def vZ(hA:AlgOk A X.C Sg X.T holds abs)(b:Rp ev σ)(d:abs h=σ.heap){x:TG}(i:o.op = .nilCheck x)
  (c:holds (match sval ev x with
  | .st (.leaf (.v p))=>A.opt (Ae p) λq=>A.chk q (my o.dst (.st (.leaf (.v q))) ev h K)
  | .lad s off=>my o.dst (.lad s off) ev h K
  | .gad s off=>my o.dst (.gad s off) ev h K
  |_=>A.fail)):AD X holds abs o σ K:=by
 split at c
 next p e=>
  obtain⟨a,_⟩:=b.sval e (by simp);simp only[SV.val,S0.val,SL.val]at a;obtain⟨q,j,f⟩:=hA.opt _ _ c;obtain⟨k,g⟩:=hA.chk _ _ f;refine aF b d (s:=.st (.leaf (.v q))) (aB k) ?_ g;simp only[aq,i,a];unfold Ae at j;split at j<;>cases j<;>rfl
 next s off e=>
  obtain⟨a,_⟩:=b.sval e (by simp);exact aF b d (s:=.lad s off) trivial (by simp only[aq,i,a,SV.val]) c
 next s off e=>
  obtain⟨a,_⟩:=b.sval e (by simp);exact aF b d (s:=.gad s off) trivial (by simp only[aq,i,a,SV.val]) c
 ·exact absurd c hA.fail
def uf(hA:AlgOk A X.C Sg X.T holds abs)(l:Rp ev σ)(n:abs h=σ.heap){t:TJ}{x:TG}{f:Nat}(E:o.op = .fieldAddr t x f)
  (i:holds (kW A X o.dst t x f ev h K)):AD X holds abs o σ K:=by
 unfold kW at i;split at i
 next H F=>
  split at i
  next m B=>
   have c:∀ {b d:Nat} {z:To},Nat.beq (X.C.P.cellsOf m.type) 0=false->ke σ.tmps x = .pointer (some ⟨b,d,z⟩)->
     aq X.C X.pts (ke σ.tmps) o=some (.val (.pointer (some ⟨b,d+m.offset,z⟩))):=by
    intro b d z g G;have g:¬X.C.P.cellsOf m.type=0:=λe=>by rw[e]at g;cases g
    simp only[aq,E,G,fR,F,B,ra g,BP]
   split at i
   next s d g e=>
    obtain⟨k,_⟩:=l.sval e (by simp);exact aF l n (s:=.lad s (d+m.offset)) trivial (c g k) i
   next s d g e=>
    obtain⟨k,_⟩:=l.sval e (by simp);exact aF l n (s:=.gad s (d+m.offset)) trivial (c g k) i
   next s j y g e=>
    obtain⟨k,_⟩:=l.sval e (by simp);refine aF l n (s:=.ldx s (j+m.offset) y) trivial ?_ i;rw[c g k,SV.val,jZ]
   next s j y g e=>
    obtain⟨k,_⟩:=l.sval e (by simp);refine aF l n (s:=.gdx s (j+m.offset) y) trivial ?_ i;rw[c g k,SV.val,jZ]
   next p g e=>
    obtain⟨k,_⟩:=l.sval e (by simp);simp only[SV.val,S0.val,SL.val]at k;obtain⟨q,r,u⟩:=hA.opt _ _ i;obtain⟨D,w⟩:=hA.chk _ _ u;refine aF l n (s:=.st (.leaf (.v q))) (aB D) ?_ w;unfold Aw at r;split at r
    next a=>
     cases r;exact c g k
    ·cases r
   ·exact absurd i hA.fail
  ·exact absurd i hA.fail
 ·exact absurd i hA.fail
def jF{i:TG}{n:Nat}(h:EB i=some n):intOf (ke σ.tmps i)=some (n:Int):=by
 unfold EB at h;split at h
 ·cases h;simp[ke,flat,fL,scalar,Am.intOf]
 ·cases h
def uv{len:Nat}{j:Int}{u:Unit}(h:Cf len j=some u):0<=j/\j<(len:Int):=by
 rw[Kq]at h;split at h
 ·assumption
 ·cases h
def Uc{esz:Nat}{x q:Value}{i:Int}(h:Ax esz x i=some q) :
  ∃a len cx,x = .slice (some a) len cx/\(0<=i/\i<(len:Int))/\q = .pointer (some ⟨a.block,a.off+i.toNat*esz,if a.spot=some 1 then some 1 else none⟩):=by
 rw[ut]at h;split at h
 next a len cx=>
  split at h
  next b=>cases h;exact⟨a,len,cx,rfl,b,rfl⟩
  ·cases h
 ·cases h
def uw(hA:AlgOk A X.C Sg X.T holds abs)(y:Rp ev σ)(G:abs h=σ.heap){t:TJ}{x i:TG}(W:o.op = .indexAddr t x i)
  (d:holds (kZ A X o.dst t x i ev h K)):AD X holds abs o σ K:=by
 unfold kZ at d;split at d
 next E e S=>
  have c:∀ {b w:Nat} {U:To} {j:Int},Nat.beq (X.C.P.cellsOf e) 0=false->ke σ.tmps x = .pointer (some ⟨b,w,U⟩)->intOf (ke σ.tmps i)=some j->0<=j->j<(E:Int)->
    aq X.C X.pts (ke σ.tmps) o=some (.val (.pointer (some ⟨b,w+j.toNat*X.C.P.cellsOf e,U⟩))):=by
   intro b w U j f hx hi Y g;have f:¬X.C.P.cellsOf e=0:=λe=>by rw[e]at f;cases f
   simp only[aq,W,hx,eS,hi,S,ra f,mc (And.intro Y g),BP]
  have B:∀ {k:TF} {j:Int},sval ev i = .st (.leaf (.i k j))->intOf (ke σ.tmps i)=some j:=by
   intro k j Q;obtain⟨g,_⟩:=y.sval Q (by simp);rw[g];rfl
  simp only at d;split at d
  next s w n f z L=>
   obtain⟨g,_⟩:=y.sval z (by simp);split at d
   next r=>
    have r:n<E:=by simpa[BW]using r
    refine aF y G (s:=.lad s (w+n*X.C.P.cellsOf e)) trivial ?_ d;rw[c f g (jF L) (by omega) (by omega)];simp[SV.val]
   ·exact absurd d hA.fail
  next s w n f z L=>
   obtain⟨g,_⟩:=y.sval z (by simp);split at d
   next r=>
    have r:n<E:=by simpa[BW]using r
    refine aF y G (s:=.gad s (w+n*X.C.P.cellsOf e)) trivial ?_ d;rw[c f g (jF L) (by omega) (by omega)];simp[SV.val]
   ·exact absurd d hA.fail
  next s l M n f z L=>
   obtain⟨g,_⟩:=y.sval z (by simp);split at d
   next r=>
    have r:n<E:=by simpa[BW]using r
    refine aF y G (s:=.ldx s (l+n*X.C.P.cellsOf e) M) trivial ?_ d;rw[c f g (jF L) (by omega) (by omega)];simp[SV.val,jZ]
   ·exact absurd d hA.fail
  next s l M n f z L=>
   obtain⟨g,_⟩:=y.sval z (by simp);split at d
   next r=>
    have r:n<E:=by simpa[BW]using r
    refine aF y G (s:=.gdx s (l+n*X.C.P.cellsOf e) M) trivial ?_ d;rw[c f g (jF L) (by omega) (by omega)];simp[SV.val,jZ]
   ·exact absurd d hA.fail
  next s w k j f z F _=>
   obtain⟨g,_⟩:=y.sval z (by simp);obtain⟨u,D,m⟩:=hA.opt _ _ d;obtain⟨I,J⟩:=uv D;exact aF y G (s:=.ldx s w [(j,X.C.P.cellsOf e)]) trivial (by rw[c f g (B F) I J];rfl) m
  next s w k j f z F _=>
   obtain⟨g,_⟩:=y.sval z (by simp);obtain⟨u,D,m⟩:=hA.opt _ _ d;obtain⟨I,J⟩:=uv D;exact aF y G (s:=.gdx s w [(j,X.C.P.cellsOf e)]) trivial (by rw[c f g (B F) I J];rfl) m
  next s l M k j f z F _=>
   obtain⟨g,_⟩:=y.sval z (by simp);obtain⟨u,D,m⟩:=hA.opt _ _ d;obtain⟨I,J⟩:=uv D;exact aF y G (s:=.ldx s l (M++[(j,X.C.P.cellsOf e)])) trivial (by rw[c f g (B F) I J,SV.val,oP]) m
  next s l M k j f z F _=>
   obtain⟨g,_⟩:=y.sval z (by simp);obtain⟨u,D,m⟩:=hA.opt _ _ d;obtain⟨I,J⟩:=uv D;exact aF y G (s:=.gdx s l (M++[(j,X.C.P.cellsOf e)])) trivial (by rw[c f g (B F) I J,SV.val,oP]) m
  next p k j f z F=>
   obtain⟨g,_⟩:=y.sval z (by simp);simp only[SV.val,S0.val,SL.val]at g;obtain⟨q,H,m⟩:=hA.opt _ _ d;obtain⟨Z,O⟩:=hA.chk _ _ m;unfold OT at H;split at H
   next a=>
    split at H
    next N=>
     cases H;exact aF y G (s:=.st (.leaf (.v _))) (aB Z) (c f g (B F) N.1 N.2) O
    ·cases H
   ·cases H
  ·exact absurd d hA.fail
 next e S=>
  simp only at d;split at d
  next p k j f z F=>
   obtain⟨g,_⟩:=y.sval z (by simp);obtain⟨V,_⟩:=y.sval F (by simp);simp only[SV.val,S0.val,SL.val]at g V;obtain⟨q,H,m⟩:=hA.opt _ _ d;have f:¬X.C.P.cellsOf e=0:=λe=>by rw[e]at f;cases f
   obtain⟨a,E,cx,rfl,N,rfl⟩:=Uc H;refine aF y G (s:=.st (.leaf (.v _))) (aB ?_) ?_ m
   ·show aC _=true;by_cases Q:a.spot=some 1<;>simp[Q,aC,noLoc,aR,bh,aX,aJ,aA]
   ·simp only[aq,W,g,V,eS,Am.intOf,S,ra f,mc N,BP];rfl
  ·exact absurd d hA.fail
 ·exact absurd d hA.fail
def xX{C:Cfg}{t:TJ}{q:Bool}{cs ds:List SL}{off:Nat}{x:S0}(c:Ao C.P t=some q)(f:BM cs off (if q then C.P.cellsOf t else 1)=some ds)(w:Db q ds=some x) :
  wk C t ⟨cs.map SL.val⟩ off=some x.val/\x.cells=ds:=by
 obtain⟨s,g⟩:=oJ w;refine⟨?_,s⟩;unfold BM at f;unfold Ao at c;unfold wk;split at c
 next r e=>
  cases c;simp only[if_true]at f;split at f
  next l=>
   cases f;rcases g with⟨_,g⟩|⟨j,_⟩
   ·rw[e];simp only[g,B7,Value.agg.injEq];apply qbj.1;rw[qcv];simp[List.extract,R1,Ve]
   ·cases j
  ·cases f
 next n y e=>
  cases c;simp only[if_true]at f;split at f
  next l=>
   cases f;rcases g with⟨_,g⟩|⟨j,_⟩
   ·rw[e];simp only[g,B7,Value.agg.injEq];apply qbj.1;rw[qcv];simp[List.extract,R1,Ve]
   ·cases j
  ·cases f
 next d u v e=>
  cases c;simp only[Bq,if_false]at f;split at f
  next l=>
   cases f;rcases g with⟨j,_⟩|⟨_,g⟩
   ·cases j
   ·rw[e];have m:off<cs.length:=by omega
    rw[M8 m]at g;simp only[qcF,VW,A5,Dk,Dt,and_true]at g;rw[←g];have p:off<(⟨cs.map SL.val⟩ : Array Value).size:=by simpa using m
    have k:(⟨cs.map SL.val⟩ : Array Value)[off]?=some cs[off].val:=by
     rw[M7 p];simp
    rw[k];split
    next r i=>exact absurd (AR i) (u _)
    next a b i=>exact absurd (AR i) (v _ _)
    ·rfl
    next i=>cases i
  ·cases f
 ·cases c
def J6(hA:AlgOk A X.C Sg X.T holds abs)(j:Rp ev σ)(u:abs h=σ.heap){t:TJ}{x:TG}{f:Nat}(w:o.op = .field t x f)
  (a:holds (match X.C.P.underlying t,sval ev x with
  |some (.struct i),.st (.agg cs)=>match i[f]? with
   |some c=>match (Ao X.C.P c.type).bind (λd=>(BM cs c.offset (if d then X.C.P.cellsOf c.type else 1)).bind (Db d))with
    |some x=>my o.dst (.st x) ev h K
    |none=>A.fail
   |none=>A.fail
  |_,_=>A.fail)):AD X holds abs o σ K:=by
 split at a
 next i cs y e=>
  obtain⟨p,n⟩:=j.sval e (by simp);split at a
  next c v=>
   split at a
   next z b=>
    obtain⟨d,g,b⟩:=qaA.1 b;obtain⟨B,k,b⟩:=qaA.1 b;obtain⟨q,r⟩:=xX g k b;refine aF j u (s:=.st z) (λl m=>?_) ?_ a
    ·rw[r]at m;exact n l ((nN k).2 l m)
    ·simp only[aq,w,p,SV.val,S0.val,ue,y,v,A7,q,BP]
   ·exact absurd a hA.fail
  ·exact absurd a hA.fail
 ·exact absurd a hA.fail
def yY(hA:AlgOk A X.C Sg X.T holds abs)(b:Rp ev σ)(g:abs h=σ.heap){t:TG}{i:Nat}(j:o.op = .extract t i)
  (a:holds (match sval ev t with
  | .tup xs=>match xs[i]? with
   |some x=>my o.dst (.st x) ev h K
   |none=>A.fail
  |_=>A.fail)):AD X holds abs o σ K:=by
 split at a
 next xs e=>
  obtain⟨f,d,k⟩:=b.sval e (by simp);split at a
  next x c=>
   refine aF b g (s:=.st x) (d x (Ap c)) ?_ a;simp only[aq,j,f,SV.val];rw[ra (by simp;omega)];have:(⟨xs.map S0.val⟩ : Array Value)[i]?=some x.val:=by simp[c]
   rw[this];rfl
  ·exact absurd a hA.fail
 ·exact absurd a hA.fail
def vR(hA:AlgOk A X.C Sg X.T holds abs)(c:Rp ev σ)(m:abs h=σ.heap){f:Fn}{first cap:Array Operand}(p:o.op = .makeFunc f first cap)
  (d:holds (match (generalizing:=false) f,svals ev first.toList,svals ev cap.toList with
  | .func g,some a,some b=>A.chk (.func (.func g) ⟨av a⟩ ⟨av b⟩) (my o.dst (.st (.leaf (.v (.func (.func g) ⟨av a⟩ ⟨av b⟩)))) ev h K)
  |_,_,_=>A.fail)):AD X holds abs o σ K:=by
 split at d
 next g a b _ i j=>
  obtain⟨k,_⟩:=c.svals i;obtain⟨l,_⟩:=c.svals j;obtain⟨n,e⟩:=hA.chk _ _ d;refine aF c m (s:=.st (.leaf (.v _))) (aB n) ?_ e;simp only[aq,p,SV.val,S0.val,SL.val,B7,Eff.val.injEq,Value.func.injEq,true_and];refine⟨?_,?_⟩<;>apply qbj.1<;>simp[k,l]
 ·exact absurd d hA.fail
def lu(b:Rp ev σ){r:Tg}{x:Option Int}(h:Cq ev r=some x):(r=none/\x=none)∨∃y k n,r=some y/\ke σ.tmps y = .int k n/\x=some n:=by
 unfold Cq at h;split at h
 ·cases h;exact .inl ⟨rfl,rfl⟩
 next y=>
  split at h
  next k n e=>
   cases h;obtain⟨a,_⟩:=b.sval e (by simp);exact .inr ⟨y,k,n,rfl,a,rfl⟩
  ·cases h
def dR(b:Rp ev σ){r:Tg}{x:Option Int}(h:Cq ev r=some x):gQ (r.map (ke σ.tmps))=some x:=by
 rcases lu b h with⟨rfl,rfl⟩|⟨y,k,n,rfl,a,rfl⟩
 ·rfl
 ·simp[a,gQ]
def ll(hA:AlgOk A X.C Sg X.T holds abs)(d:Rp ev σ)(j:abs h=σ.heap){t:TJ}{r:Tg}(l:o.op = .makeMap t r)
  (b:holds (match oA X.C t (r.map λ_=>.int .i64 0),Cq ev r with
  |true,some _=>A.new (.map [] 0) h λn h=>my o.dst (.st (.leaf (.v (.map (some n))))) ev h K
  |_,_=>A.fail)):AD X holds abs o σ K:=by
 split at b
 next x g e=>
  obtain⟨m,c,a⟩:=hA.new _ _ _ b;rw[j]at c a;refine dj d c (s:=.st (.leaf (.v (.map (some σ.heap.length))))) (aB rfl) (f:=λH=>some (H++[.map [] 0],.map (some H.length))) ?_ rfl a;have:oA X.C t (r.map (ke σ.tmps))=true:=by
   rcases lu d e with⟨rfl,rfl⟩|⟨y,k,n,rfl,i,rfl⟩
   ·rfl
   ·simp only[BP,oA,i]at g ⊢;exact g
  simp only[aq,l,this,if_true]
 ·exact absurd b hA.fail
def yz(n esz a b:Nat):aC (.slice (some ⟨n,0,qs esz⟩) a b)=true:=by
 simp[aC,noLoc,aR,bh,aX,aJ,aA,qs]
def uD(hA:AlgOk A X.C Sg X.T holds abs)(k:Rp ev σ)(I:abs h=σ.heap){t:TJ}{l c:TG}(L:o.op = .makeSlice t l c)
  (b:holds (match X.C.P.underlying t,sval ev l,sval ev c with
  |some (.slice e),.st (.leaf (.i _ l)),.st (.leaf (.i _ c))=>match X.C.P.info? e with
   |some a=>match Nat.beq a.size 0||Nat.blt 4096 a.bytes,(kN a).bind Dw with
    |false,some z=>A.opt (Cp l c) λ_=>
      A.new (.cells (bk (z.cells.map SL.val) c.toNat) a.size true) h λn h=>my o.dst (.st (.leaf (.v (.slice (some ⟨n,0,qs a.size⟩) l.toNat (c.toNat+1))))) ev h K
    |_,_=>A.fail
   |none=>A.fail
  |_,_,_=>A.fail)):AD X holds abs o σ K:=by
 split at b
 next e N Q O D M E F=>
  obtain⟨G,_⟩:=k.sval E (by simp);obtain⟨H,_⟩:=k.sval F (by simp);split at b
  next a J=>
   split at b
   next z j w=>
    obtain⟨W,x,y⟩:=qaA.1 w;obtain⟨S,U,_⟩:=sX y;obtain⟨u,q,p⟩:=hA.opt _ _ b;obtain⟨V,B,g⟩:=hA.new _ _ _ p;rw[I]at B g;unfold Cp at q;split at q
    next d=>
     simp only[qb5]at j;have r:¬a.size=0:=λe=>by rw[e]at j;cases j.1
     have m:a.bytes<=4096:=by
      have:=j.2;rw[←CO,BW]at this;omega
     refine dj k B (s:=.st (.leaf (.v _))) (aB (yz _ _ _ _)) (f:=dx X.C t (.int N Q) (.int O D)) ?_ ?_ g
     ·simp only[aq,L,G,H];rfl
     ·simp only[dx,Am.intOf,M,J,ra r,x];rw[mc ⟨d.1,d.2.1,d.2.2,m⟩,←S,S0.cells_val U];rfl
    ·cases q
   ·exact absurd b hA.fail
  ·exact absurd b hA.fail
 ·exact absurd b hA.fail
def rr(hA:AlgOk A X.C Sg X.T holds abs)(E:Rp ev σ)(Q:abs h=σ.heap){t:TJ}{n:Nat}{u:Array (Nat×Operand)}(V:o.op = .buildSlice t n u)
  (d:holds (match X.C.P.underlying t,svals ev (u.toList.map (·.2))with
  |some (.slice e),some xs=>match X.C.P.info? e with
   |some a=>match Nat.beq a.size 0||Nat.blt 16777216 (n*a.size),(kN a).bind Dw with
    |false,some z=>match rO (λi=>some (i*a.size,a.size)) (List.replicate n z.cells).flatten ((u.toList.map (·.1)).zip xs)with
     |some cs=>A.new (.cells (cs.map SL.val) a.size true) h λm h=>my o.dst (.st (.leaf (.v (.slice (some ⟨m,0,qs a.size⟩) n (n+1))))) ev h K
     |none=>A.fail
    |_,_=>A.fail
   |none=>A.fail
  |_,_=>A.fail)):AD X holds abs o σ K:=by
 split at d
 next e xs Y O=>
  split at d
  next a U=>
   split at d
   next z L y=>
    obtain⟨zv,B,D⟩:=qaA.1 y;obtain⟨z1,N,_⟩:=sX D;split at d
    next cs S=>
     obtain⟨h',M,r⟩:=hA.new _ _ _ d;rw[Q]at M r;obtain⟨J,F⟩:=E.svals O;have ad:∀c∈(List.replicate n z.cells).flatten,c.good:=by
      intro c w;obtain⟨l,G,w⟩:=List.mem_flatten.1 w;rw[List.mem_replicate]at G;rw[G.2]at w;exact N c w
     have j:=rP _ _ _ _ (tz (is:=u.toList.map (·.1)) F) S;simp only[qb5]at L;obtain⟨b,g⟩:=L;have b:¬a.size=0:=λe=>by rw[e]at b;cases b
     have g:¬n*a.size > 16777216:=by rw[←CO,BW]at g;omega
     refine dj E M (s:=.st (.leaf (.v _))) (aB (yz _ _ _ _))
      (f:=λH=>some (H++[.cells (cs.map SL.val) a.size true],.slice (some ⟨H.length,0,qs a.size⟩) n (n+1))) ?_ rfl r
     have q:(u.toList.all λp=>(ke σ.tmps p.2).cells.toList.all bg)=true:=by
      rw[qac];intro p W;have I:ke σ.tmps p.2∈av xs:=by
       rw[←J];exact qax.2 ⟨p.2,qax.2 ⟨p,W,rfl⟩,rfl⟩
      simp only[av,qax]at I;obtain⟨x,Z,e⟩:=I;rw[←e];exact S0.cells_ok (F x Z)
     have k:(bk zv.cells.toList n).toArray=⟨((List.replicate n z.cells).flatten).map SL.val⟩:=by
      rw[←z1,S0.cells_val N];simp[bk,List.map_flatten]
     simp only[aq,V,q,if_true,eY,Y,U];rw[ra b,ra g];simp only[B];rw[re J,k,j];rfl
    ·exact absurd d hA.fail
   ·exact absurd d hA.fail
  ·exact absurd d hA.fail
 ·exact absurd d hA.fail
end
end Sx
namespace Sx
section
variable [Val] [Kno] {R HT:Type} {A:Alg R HT} {X:Ctxt} {Sg:Tc} {holds:R->Prop} {abs:HT->Tp}
variable {ev:Env} {σ:St} {h:HT} {o:Oper} {K:KN R HT}
def JB{cs ds:List SL}{off n:Nat}(h:BM cs off n=some ds):ds.length=n:=by
 unfold BM at h;split at h
 next a=>cases h;simp;omega
 ·cases h
def Ux{a:Bool}{ds:List SL}{n:Nat}(b:ds.length=(if a then n else 1)):∃x,Db a ds=some x:=by
 cases a with
 |true=>exact⟨_,rfl⟩
 |false=>
  simp only[Bq,if_false]at b
  match ds,b with
  | [d],_=>exact⟨_,rfl⟩
def Kr(hA:AlgOk A X.C Sg X.T holds abs)(m:Rp ev σ)(Q:abs h=σ.heap){t:TJ}{x i:TG}{w:TH}(U:o.op = .index t x i)
  (a:holds (match X.C.P.underlying t,sval ev x,sval ev i with
  |some (.array len e),.st (.agg cs),.st (.leaf (.i _ j))=>match Ao X.C.P e with
   |some n=>match JM n (jz (mK w))&&tH cs (Dy (mK w)) 0 [(j,X.C.P.cellsOf e)]&&Nat.beq (if n then X.C.P.cellsOf e else 1) (Dy (mK w)).length with
    |false=>A.fail
    |true=>A.opt (Cf len j) λ_=>A.opt (mG (cs.map SL.lf) 0 [(j,X.C.P.cellsOf e)] (if n then X.C.P.cellsOf e else 1)) λls=>Mc A o.dst (mK w) ls ev h K
   |none=>A.fail
  |some .string,.st (.leaf (.v (.string s))),.st (.leaf (.i _ j))=>A.opt (Ej s j) λb=>my o.dst (.st (.leaf (.i .u8 b))) ev h K
  |_,_,_=>A.fail)):AD X holds abs o σ K:=by
 split at a
 next len e cs k j L D E=>
  obtain⟨d,O⟩:=m.sval D (by simp);obtain⟨f,_⟩:=m.sval E (by simp);split at a
  next n F=>
   split at a
   ·exact absurd a hA.fail
   next r=>
    simp only[wa]at r;obtain⟨⟨B,c2⟩,c3⟩:=r;have B:=JN B;have c3:=AW c3;obtain⟨u,G,g⟩:=hA.opt _ _ a;obtain⟨Z,b2⟩:=uv G;obtain⟨ls,hp,I⟩:=hA.opt _ _ g;obtain⟨ds,p,rfl⟩:=ya hp;have q:ds.length=(if n then X.C.P.cellsOf e else 1):=JB p;obtain⟨y,V⟩:=Ux q;obtain⟨Y,p2⟩:=xX F p V;obtain⟨m1,W⟩:=oJ V;rw[c3]at p;rw[B]at W;obtain⟨z,M,N,J⟩:=Gy hA (mO c2 p) (λc r=>O c ((nN p).2 c r)) W I;refine aF m Q (s:=.st z) N ?_ J;have H:lZ X.C t (.agg ⟨cs.map SL.val⟩) (.int k j)=some y.val:=by
     have:A1 0 [(j,X.C.P.cellsOf e)]=j.toNat*X.C.P.cellsOf e:=by simp[A1]
     rw[this]at Y;simp only[lZ,Am.intOf,L,mc (And.intro Z b2)];exact Y
    have d:ke σ.tmps x = .agg ⟨cs.map SL.val⟩:=d;have f:ke σ.tmps i = .int k j:=f;simp only[aq,U,d,f,H,BP];rw[←M];rfl
  ·exact absurd a hA.fail
 next s k j L D E=>
  obtain⟨d,O⟩:=m.sval D (by simp);obtain⟨f,_⟩:=m.sval E (by simp);obtain⟨b,G,g⟩:=hA.opt _ _ a;obtain⟨q1,q2⟩:=MD G;have d:ke σ.tmps x = .string s:=d;have f:ke σ.tmps i = .int k j:=f;refine aF m Q (s:=.st (.leaf (.i .u8 b))) (λl S=>?_) ?_ g
  ·simp only[S0.cells,qav]at S;subst S;trivial
  ·have H:lZ X.C t (.string s) (.int k j)=some (.int .u8 b):=by
    simp only[lZ,Am.intOf,L,mc q1];exact q2
   simp only[aq,U,d,f,H,BP];rfl
 ·exact absurd a hA.fail
def vq{P:TD}{d b e:Ti}(h1:∀v,d=some v->∃k,v = .int k 0)(f:∀v,b=some v->∃k,v = .int k 0)(g:∀v,e=some v->∃k,v = .int k 0)(i:e=none∨b.isSome=true)(w:World) :
  (Instr.sliceBounds true 0 0 d b e).run P w = .ok (0,0,0) w:=by
 have a:∀(k:TF) (c:BoundsCode),(Instr.sliceBound (.int k 0) 0 c).run P w = .ok 0 w:=λk c=>by
  simp[Instr.sliceBound,asIntOf]
 unfold Instr.sliceBounds;cases e with
 |none=>
  cases b with
  |none=>
   cases d with
   |none=>simp
   |some l=>obtain⟨k,rfl⟩:=h1 _ rfl;simp[a]
  |some u=>
   obtain⟨k,rfl⟩:=f _ rfl;cases d with
   |none=>simp[a]
   |some l=>obtain⟨k,rfl⟩:=h1 _ rfl;simp[a]
 |some m=>
  obtain⟨k,rfl⟩:=g _ rfl;cases b with
  |none=>rcases i with h|h<;>simp at h
  |some u=>
   obtain⟨k,rfl⟩:=f _ rfl;cases d with
   |none=>simp[a]
   |some l=>obtain⟨k,rfl⟩:=h1 _ rfl;simp[a]
def Iv(hA:AlgOk A X.C Sg X.T holds abs)(j:Rp ev σ)(U:abs h=σ.heap){t:TJ}{x:TG}{H l u:Tg}(J:o.op = .slice t x H l u)
  (D:holds (match X.C.P.underlying t,sval ev x,Cq ev H,Cq ev l,Cq ev u with
  |some (.slice e),.st (.leaf (.v x)),some H,some l,some u=>match Nat.beq (X.C.P.cellsOf e) 0 with
   |true=>A.fail
   |false=>A.opt (C3 (X.C.P.cellsOf e) x H l u) λq=>A.chk q (my o.dst (.st (.leaf (.v q))) ev h K)
  |_,_,_,_,_=>A.fail)):AD X holds abs o σ K:=by
 split at D
 next e v an ad ap V e1 I z e4=>
  obtain⟨g,_⟩:=j.sval e1 (by simp);simp only[SV.val,S0.val,SL.val]at g;split at D
  ·exact absurd D hA.fail
  next m=>
   have m:¬X.C.P.cellsOf e=0:=λe=>by rw[e]at m;cases m
   obtain⟨q,f,M⟩:=hA.opt _ _ D;obtain⟨hg,E⟩:=hA.chk _ _ M;have Z:=dR j I;have b3:=dR j z;have b4:=dR j e4;unfold C3 at f;split at f
   next a ag cx=>
    split at f
    ·cases f
    next N=>
     split at f
     next p=>
      cases f;refine aF j U (s:=.st (.leaf (.v _))) (aB hg) ?_ E;simp only[aq,J,g,yr,Z,b3,b4,V,ra m,ra N,mc p,oR];rfl
     ·cases f
   ·split at f
    next p=>
     cases f;have d:∀ {r:Tg} {x:Option Int},Cq ev r=some x->x.getD 0=0->∀v,r.map (ke σ.tmps)=some v->∃k,v = .int k 0:=by
      intro r x G S v Q;rcases lu j G with⟨rfl,rfl⟩|⟨y,k,n,rfl,g,rfl⟩
      ·cases Q
      ·simp only[BP,B7,g]at Q;simp at S;subst S;exact⟨k,Q.symm⟩
     have b:∀ {r:Tg} {x:Option Int},Cq ev r=some x->∀y,r=some y->plain (ke σ.tmps y)=true/\Cu (ke σ.tmps y)=ke σ.tmps y:=by
      intro r x G y W;rcases lu j G with⟨rfl,rfl⟩|⟨Y,k,n,rfl,g,rfl⟩
      ·cases W
      ·cases W;rw[g];exact⟨rfl,rfl⟩
     have c:∀ {r:Tg} {x:Option Int},Cq ev r=some x->r.map (λy=>Cu (ke σ.tmps y))=r.map (ke σ.tmps):=by
      intro r x G;cases r with
      |none=>rfl
      |some y=>simp[(b G y rfl).2]
     refine cE j U (s:=.st (.leaf (.v (.slice none 0 0)))) (aB rfl) ⟨by rw[J];rfl,?_,rfl,λw=>?_⟩ E
     ·rw[J];simp only[Op.operands,Vh,qdW,wa];refine⟨⟨⟨by simp[g];rfl,?_⟩,?_⟩,?_⟩
      ·cases H with
       |none=>rfl
       |some y=>simp[(b I y rfl).1]
      ·cases l with
       |none=>rfl
       |some y=>simp[(b z y rfl).1]
      ·cases u with
       |none=>rfl
       |some y=>simp[(b e4 y rfl).1]
     ·have F:u.map (ke σ.tmps)=none∨(l.map (ke σ.tmps)).isSome=true:=by
       rcases p.2.2.2 with F|F
       ·left;rcases lu j e4 with⟨rfl,rfl⟩|⟨Y,k,n,rfl,g,rfl⟩
        ·rfl
        ·cases F
       ·right;rcases lu j z with⟨rfl,rfl⟩|⟨Y,k,n,rfl,g,rfl⟩
        ·cases F
        ·rfl
      have L:=vq (P:=X.C.P) (d I p.1) (d z p.2.1) (d e4 p.2.2.1) F w;have O:∃i,X.C.P.info? e=some i:=by
       unfold Program.cellsOf at m;cases l:X.C.P.info? e with
       |none=>rw[l]at m;exact absurd rfl m
       |some i=>exact⟨i,rfl⟩
      obtain⟨i,l⟩:=O;have B:Cu (.slice none 0 0) = .slice none 0 0:=rfl;simp only[execOp,J,g,c I,c z,c e4,B,Instr.sliceAt,Instr.slice,Sem.run_bind,run_underlying V,Result.andThen_ok,L,bF l,Sem.run_pure];simp only[SV.val,S0.val,SL.val,B];simp
    ·cases f
   ·cases f
 ·exact absurd D hA.fail
def nG{a:Bool}{v:Value}{cs:Tk}(h:gS a v=some cs):Pg a cs v:=by
 unfold gS at h;split at h
 ·cases h;exact .inl ⟨rfl,rfl⟩
 ·cases h
 ·cases h
 ·cases h;exact .inr ⟨rfl,rfl⟩
def F3(H:Tp)(id:Nat):Dp (λi=>H[i]?) id=A8 H id:=rfl
def KP{C:Cfg}{t kt n:TJ}{l ok:Bool}{z m k:Value}{H:Tp}{cs:Tk}(s:C.P.underlying t=some (.map kt n))(u:eE C.P n=some z)
  (d:DZ C kt l z m k ok (λi=>H[i]?)=some cs):∃v b a,gS l v=some a/\cs=a++(if ok then [.bool b]else [])/\dI C t m k ok H=some (if ok then .tuple #[v,.bool b]else v):=by
 unfold DZ at d;simp only[xe]at d;unfold dI;rw[s];simp only;split at d
 ·cases d
 next e=>
  have e:¬(!iZ C.P kt k)=true:=by
   have:=FS (P:=C.P) (kt:=kt) (k:=k) (by simpa using e);simpa using this
  rw[ra e];simp only[u];split at d
  ·obtain⟨a,f,g⟩:=qag.1 d;exact⟨z,false,a,f,g.symm,rfl⟩
  next id=>
   rw[F3]at d;split at d
   ·cases d
   next w c r=>
    simp only[r];split at d
    ·cases d
    next j=>
     rw[j];obtain⟨a,f,g⟩:=qag.1 d;exact⟨z,false,a,f,g.symm,rfl⟩
    next i j=>
     rw[j];simp only;obtain⟨a,f,g⟩:=qag.1 d;obtain⟨v,p,q⟩:=qaA.1 f;exact⟨v,true,a,q,g.symm,by rw[p];rfl⟩
  ·cases d
def zo{C:Cfg}{pts:Tx}{ρ:Tf}{t:TJ}{m k:TG}{ok:Bool}(c:o.op = .lookup t m k ok)(H:Tp){v:Value}(a:dI C t (ρ m) (ρ k) ok H=some v) :
  aq C pts ρ o=some (.val v)∨∃f,aq C pts ρ o=some (.hget f)/\f H=some v:=by
 simp only[aq,c];split
 next b=>
  left;rw[b]at a;have:dI C t (.map none) (ρ k) ok []=dI C t (.map none) (ρ k) ok H:=rfl;rw[this,a];rfl
 ·right;exact⟨_,rfl,a⟩
def tT(b:Rp ev σ)(c:abs h=σ.heap){s:SV}(e:s.gd){t:TJ}{m k:TG}{ok:Bool}(i:o.op = .lookup t m k ok)
  (j:dI X.C t (ke σ.tmps m) (ke σ.tmps k) ok σ.heap=some s.val) (d:holds (my o.dst s ev h K)):AD X holds abs o σ K:=by
 rcases zo (pts:=X.pts) i σ.heap j with a|⟨f,a,g⟩
 ·exact aF b c e a d
 ·exact jG b c e a g d
def O8(hA:AlgOk A X.C Sg X.T holds abs)(p:Rp ev σ)(q:abs h=σ.heap){t:TJ}{m k:TG}{ok:Bool}{U:TH}(J:o.op = .lookup t m k ok)
  (a:holds (match X.C.P.underlying t,sval ev m,sval0 ev k with
  |some (.map kt H),.st (.leaf (.v m)),some k=>match eE X.C.P H with
   |some z=>match (generalizing:=false) U,ok with
    | [g],false=>A.peek (.fn (DZ X.C kt (jz g) z m k.val false)) h λcs=>IC A g cs λx r=>A.uc0 r (my o.dst (.st x) ev h K)
    | [g,.leaf .b],true=>A.peek (.fn (DZ X.C kt (jz g) z m k.val true)) h λcs=>IC A g cs λx r=>A.ucB r λt r=>A.uc0 r (my o.dst (.tup [x,.leaf (.b t)]) ev h K)
    |_,_=>A.fail
   |none=>A.fail
  |_,_,_=>A.fail)):AD X holds abs o σ K:=by
 split at a
 next kt H mv Z L Q S=>
  obtain⟨w,_⟩:=p.sval Q (by simp);obtain⟨I,_⟩:=p.sval0 S;simp only[SV.val,S0.val,SL.val]at w;split at a
  next z N=>
   split at a
   next g=>
    obtain⟨cs,f,c⟩:=hA.peek _ _ _ a;simp only[Pk.run]at f;rw[q]at f;obtain⟨v,b,u,E,j,l⟩:=KP L N f;obtain⟨x,r,n,F,G,d⟩:=vh hA c;obtain⟨D,e⟩:=hA.uc0 _ _ d;rw[D,Cx]at n;simp only[Bq,if_false,Cx]at j l;have i:=nG E;rw[←j,n]at i;refine tT p q (s:=.st x) G J ?_ e;rw[w,I,l,←qz F i];rfl
   next g=>
    obtain⟨cs,f,c⟩:=hA.peek _ _ _ a;simp only[Pk.run]at f;rw[q]at f;obtain⟨v,b,u,E,j,l⟩:=KP L N f;obtain⟨x,r,n,F,G,d⟩:=vh hA c;obtain⟨W,r',V,e⟩:=hA.ucB _ _ d;obtain⟨D,B⟩:=hA.uc0 _ _ e;simp only[if_true]at j l;rw[V,D,j]at n;obtain⟨Y,O⟩:=List.append_inj' n rfl;simp only[Dt,Value.bool.injEq,and_true]at O;have i:=nG E;rw[Y]at i;refine tT p q (s:=.tup [x,.leaf (.b W)]) ⟨λy M=>?_,Ah 2⟩ J ?_ B
    ·simp only[qas,PX,or_false]at M;rcases M with rfl|rfl
     ·exact G
     ·exact aB trivial
    ·rw[w,I,l,←qz F i,O];rfl
   ·exact absurd a hA.fail
  ·exact absurd a hA.fail
 ·exact absurd a hA.fail
def Uz{C:Cfg}{t kt j:TJ}{m k v:Value}{H:Tp}{n:Nat}{b:List Act1}{cs:Tk}(q:C.P.underlying t=some (.map kt j))(f:noLoc v=true)(g:aA v=false)
  (a:HX C kt m k v (λi=>H[i]?) n=some (b,cs)):cH C t m k v H=some (gE H b,undef):=by
 unfold HX at a;simp only[xe]at a;unfold cH;split at a
 next id=>
  rw[q];simp only;split at a
  ·cases a
  next d=>
   have d:iZ C.P kt k=true:=FS (by simpa using d);rw[ra (by simp[d,f,g])];rw[F3]at a;split at a
   ·cases a
   next r c p=>
    simp only[p];split at a
    ·cases a
    next e=>
     rw[e];cases a;rfl
    next i e=>
     rw[e];simp only;split at a
     next l=>
      rw[mc l];cases a;rfl
     ·cases a
 ·cases a
def xA(hA:AlgOk A X.C Sg X.T holds abs)(a:Rp ev σ)(u:abs h=σ.heap){t:TJ}{m k v:TG}(ho:o.op = .mapUpdate t m k v∨o.op = .insert t m k v)
  (b:holds (match X.C.P.underlying t,sval ev m,sval0 ev k,sval0 ev v with
  |some (.map kt _),.st (.leaf (.v m)),some k,some v=>A.heap (.fn (HX X.C kt m k.val v.val)) h λ_ h=>my o.dst .un ev h K
  |_,_,_,_=>A.fail)):AD X holds abs o σ K:=by
 split at b
 next kt D y x z w l n p=>
  obtain⟨i,_⟩:=a.sval l (by simp);obtain⟨q,_⟩:=a.sval0 n;obtain⟨r,g⟩:=a.sval0 p;simp only[SV.val,S0.val,SL.val]at i;obtain⟨e,B,E,d,j,c⟩:=hA.heap _ _ _ b;simp only[Hp.run]at d;rw[u]at d j;refine dj a j (s:=.un) trivial (f:=cH X.C t y x.val z.val) ?_ (Uz w (S0.noLoc g) (S0.not_tuple g) d) c;rcases ho with ho|ho<;>simp only[aq,ho,i,q,r]
 ·exact absurd b hA.fail
def Us{C:Cfg}{t kt e:TJ}{d:Bool}{z m k:Value}{H:Tp}{n:Nat}{a:List Act1}{cs:Tk}(g:C.P.underlying t=some (.map kt e))(j:eE C.P e=some z)
  (f:meG C kt d z m k (λi=>H[i]?) n=some (a,cs)):∃v b c,gS d v=some b/\cs=b++[.int .i64 c]/\iw C t m k H=some (gE H a,.tuple #[v,.int .i64 c]):=by
 cases f
def KR(hA:AlgOk A X.C Sg X.T holds abs)(b:Rp ev σ)(M:abs h=σ.heap){t:TJ}{m k:TG}{Q:TH}(N:o.op = .mapEntry t m k)
  (a:holds (match X.C.P.underlying t,sval ev m,sval0 ev k with
  |some (.map kt u),.st (.leaf (.v m)),some k=>match eE X.C.P u with
   |some z=>match Q with
    | [p,.leaf (.i .i64)]=>A.heap (.fn (meG X.C kt (jz p) z m k.val)) h λcs h=>IC A p cs λx r=>A.ucI .i64 r λn r=>A.uc0 r (my o.dst (.tup [x,.leaf (.i .i64 n)]) ev h K)
    |_=>A.fail
   |none=>A.fail
  |_,_,_=>A.fail)):AD X holds abs o σ K:=by
 split at a
 next kt u W V S I J=>
  obtain⟨w,_⟩:=b.sval I (by simp);obtain⟨L,_⟩:=b.sval0 J;simp only[SV.val,S0.val,SL.val]at w;split at a
  next z U=>
   split at a
   next p=>
    obtain⟨q,cs,h',l,E,d⟩:=hA.heap _ _ _ a;simp only[Hp.run]at l;rw[M]at l E;obtain⟨v,H,c,w1,w2,w3⟩:=Us S U l;obtain⟨x,r,F,Y,Z,e⟩:=vh hA d;obtain⟨n,r',r4,g⟩:=hA.ucI _ _ _ e;obtain⟨O,j⟩:=hA.uc0 _ _ g;rw[r4,O,w2]at F;obtain⟨u1,G⟩:=List.append_inj' F rfl;simp only[Dt,Value.int.injEq,true_and,and_true]at G;have B:=nG w1;rw[u1]at B;refine dj b E (s:=.tup [x,.leaf (.i .i64 n)]) ⟨λy D=>?_,Ah 2⟩ (f:=iw X.C t W V.val) ?_ ?_ j
    ·simp only[qas,PX,or_false]at D;rcases D with rfl|rfl
     ·exact Z
     ·exact aB trivial
    ·simp only[aq,N,w,L]
    ·rw[w3,←qz Y B,G];rfl
   ·exact absurd a hA.fail
  ·exact absurd a hA.fail
 ·exact absurd a hA.fail
def TT{m v:Value}{b:Int}{k:TF}{H:Tp}{n:Nat}{a:List Act1}{cs:Tk}(d:noLoc v=true)(e:aA v=false)
  (c:esG m b v (λi=>H[i]?) n=some (a,cs)):fg m (.int k b) v H=some (gE H a,undef):=by
 cases c
def JL(hA:AlgOk A X.C Sg X.T holds abs)(a:Rp ev σ)(x:abs h=σ.heap){t:TJ}{m s v:TG}(y:o.op = .entryStore t m s v)
  (c:holds (match sval ev m,sval ev s,sval0 ev v with
  | .st (.leaf (.v m)),.st (.leaf (.i _ b)),some v=>A.heap (.fn (esG m b v.val)) h λ_ h=>my o.dst .un ev h K
  |_,_,_=>A.fail)):AD X holds abs o σ K:=by
 split at c
 next z k b B q r u=>
  obtain⟨l,_⟩:=a.sval q (by simp);obtain⟨n,_⟩:=a.sval r (by simp);obtain⟨w,j⟩:=a.sval0 u;simp only[SV.val,S0.val,SL.val]at l n;obtain⟨g,D,E,e,p,d⟩:=hA.heap _ _ _ c;simp only[Hp.run]at e;rw[x]at e p;refine dj a p (s:=.un) trivial (f:=fg z (.int k b) B.val) ?_ (TT (S0.noLoc j) (S0.not_tuple j) e) d;simp only[aq,y,l,n,w]
 ·exact absurd c hA.fail
def S4{C:Cfg}{t kt b:TJ}{m k:Value}{H:Tp}{n:Nat}{a:List Act1}{cs:Tk}(d:C.P.underlying t=some (.map kt b))
  (c:deG C kt m k (λi=>H[i]?) n=some (a,cs)):nP C t m k H=some (gE H a,undef):=by
 cases c
end
end Sx
namespace Sx
section
variable [Val] [Kno] {R HT:Type} {A:Alg R HT} {X:Ctxt} {Sg:Tc} {holds:R->Prop} {abs:HT->Tp}
variable {ev:Env} {σ:St} {h:HT} {o:Oper} {K:KN R HT}
def Vp(C:Cfg)(esz:Nat)(H:Tp)(x:Value):IQ C esz (λi=>H[i]?) x=dS C H esz x:=rfl
def Ss{C:Cfg}{t e:TJ}{c:TypeInfo}{s x:Value}{H:Tp}{f:List Act1}{cs:Tk}(z:C.P.underlying t=some (.slice e))(w:C.P.info? e=some c)(h0:¬c.size=0)
  (B:(kN c).isNone=false) (b:Cd C c.size c.bytes s x (λi=>H[i]?) H.length=some (f,cs)):∃v,cs=[v]/\fK C t s x H=some (gE H f,v):=by
 unfold Cd at b;unfold fK;simp only[z,w,ra h0,B,Bq,if_false];rw[Vp]at b;split at b
 ·cases b
 next E n q=>
  simp only[q];split at b
  ·split at b
   next d=>
    simp only[mc d];cases b;exact⟨_,rfl,rfl⟩
   next d=>
    simp only[ra d];split at b
    next y=>
     simp only[mc y];cases b;exact⟨_,rfl,rfl⟩
    ·cases b
  next a D M=>
   split at b
   ·cases b
   next m=>
    simp only[ra m];split at b
    next O N J u=>
     simp only[u];split at b
     ·cases b
     next r=>
      simp only[ra r];split at b
      ·cases b
      next F k=>
       simp only[k];split at b
       ·split at b
        next d=>
         simp only[mc d];cases b;exact⟨_,rfl,rfl⟩
        next d=>
         simp only[ra d];split at b
         next l=>
          simp only[mc l];cases b;refine⟨_,rfl,?_⟩;simp[gE,Act1.on]
         ·cases b
       next p=>
        split at b
        next g=>
         simp only[mc g];split at b
         next j=>
          simp only[mc j];obtain⟨L,G,I⟩:=qag.1 b;cases I;exact⟨_,rfl,by simp only[G];rfl⟩
         next j=>
          simp only[ra j];split at b
          next d=>
           simp only[mc d];cases b;exact⟨_,rfl,rfl⟩
          ·cases b
        next g=>
         simp only[ra g];split at b
         next l=>
          simp only[mc l];cases b;exact⟨_,rfl,rfl⟩
         ·cases b
    ·cases b
  ·cases b
def S2{C:Cfg}{t e:TJ}{d x:Value}{H:Tp}{n:Nat}{a:List Act1}{cs:Tk}(c:C.P.underlying t=some (.slice e))(h0:¬C.P.cellsOf e=0)
  (b:cpG C (C.P.cellsOf e) d x (λi=>H[i]?) n=some (a,cs)):∃v,cs=[v]/\DO C t d x H=some (gE H a,v):=by
 cases b
def SQ{C:Cfg}{t e:TJ}{x:Value}{z:S0}{H:Tp}{n:Nat}{a:List Act1}{cs:Tk}(c:C.P.underlying t=some (.slice e))(h0:¬C.P.cellsOf e=0)(d:wK C.P e=some z)
  (b:clG (C.P.cellsOf e) (z.cells.map SL.val) x (λi=>H[i]?) n=some (a,cs)):tO C t x H=some (gE H a,undef):=by
 cases b
def ta(hA:AlgOk A X.C Sg X.T holds abs){dst:Tn}{a:SK}(c:jz a=false){v:Value}(b:holds (Dx A dst a [v] ev h K)):∃x:S0,x.val=v/\x.good/\holds (my dst (.st x) ev h K):=
 lP hA (.inr ⟨c,rfl⟩) b
def yN(hA:AlgOk A X.C Sg X.T holds abs)(J:Rp ev σ)(L:abs h=σ.heap){c:Call}{b:Builtin}{xs:List S0}{sk:SK}(W:o.op = .call c)(hb:c.callee = .builtin b)(hx:svals ev c.args.toList=some xs)
  (d:holds (mT A X o.dst sk b xs c.argTypes ev h K)):AD X holds abs o σ K:=by
 obtain⟨hv,hg⟩:=J.svals hx;have q:aq X.C X.pts (ke σ.tmps) o=bc X.C (ke σ.tmps) b (av xs) c.argTypes o:=by
  simp only[aq,W,ge,hb,hv]
 have N:∀ys:List S0,(∀y∈ys,∀l∈y.cells,l.nv)->ys=xs->c.args.toList.all (λx=>plain (ke σ.tmps x))=true/\c.args.map (λx=>Cu (ke σ.tmps x))=⟨av xs⟩:=by
  intro ys S e;subst e;have V:∀v∈c.args.toList.map (ke σ.tmps),plain v=true/\Cu v=v:=by
   rw[hv];intro v hm;simp only[av,qax]at hm;obtain⟨y,hm,rfl⟩:=hm;exact sF (S y hm)
  refine⟨?_,?_⟩
  ·rw[qac];intro x hx;exact(V _ (qax.2 ⟨x,hx,rfl⟩)).1
  ·apply qbj.1;rw[II,←hv];exact Ea λx hx=>(V _ (qax.2 ⟨x,hx,rfl⟩)).2
 unfold mT at d;split at d
 next s x t F=>
  split at d
  next e D=>
   split at d
   next ad hi=>
    split at d
    ·exact absurd d hA.fail
    next hc=>
     simp only[qb5]at hc;obtain⟨⟨⟨c1,c2⟩,c3⟩,c4⟩:=hc;have c1:¬ad.size=0:=λe=>by rw[e]at c1;cases c1
     obtain⟨M,cs,h',G,O,j⟩:=hA.heap _ _ _ d;simp only[Hp.run]at G;rw[L]at G O;obtain⟨v,rfl,q3⟩:=Ss D hi c1 c2 G;obtain⟨y,rfl,g,B⟩:=ta hA rfl j;refine dj J O (s:=.st y) g (f:=fK X.C t s x) ?_ q3 B;rw[q];simp only[bc,av,A5,Dk,S0.val,SL.val,F];refine ra λr=>?_;have r:((c.argTypes[1]?.any λu=>(X.C.P.underlying u) matches some (.int _)|none)||c.argTypes[1]?.isNone)=true:=r;rw[Cz]at r;rcases r with r|r
     ·exact absurd (r.symm.trans c3) (by simp)
     ·exact absurd (r.symm.trans c4) (by simp)
   ·exact absurd d hA.fail
  ·exact absurd d hA.fail
 next x t F=>
  split at d
  next e x' D=>
   obtain⟨n,Q,j⟩:=hA.opt _ _ d;unfold DX at Q;split at Q
   next a m cx=>
    cases Q;refine aF J L (s:=.st (.leaf (.i .i64 _))) (aB trivial) ?_ j;rw[q];simp only[bc,av,A5,Dk,S0.val,SL.val,F,D];rfl
   ·cases Q
  next kt et x' D=>
   obtain⟨cs,I,j⟩:=hA.peek _ _ _ d;simp only[Pk.run]at I;rw[L]at I;unfold lenM at I;split at I
   next id=>
    split at I
    next es ck ag=>
     cases I;obtain⟨y,S,g,B⟩:=ta hA rfl j;refine jG J L (s:=.st y) g (f:=λH=>(A8 H id).map λp=>.int .i64 p.1.length) ?_ ?_ B
     ·rw[q];simp only[bc,av,A5,Dk,S0.val,SL.val,F,D]
     ·simp only[A8,ag,BP,SV.val,S]
    ·cases I
   ·cases I
  next n el D=>
   refine aF J L (s:=.st (.leaf (.i .i64 _))) (aB trivial) ?_ d;rw[q];simp only[bc,av,A5,Dk,F,D];rfl
  ·exact absurd d hA.fail
 next x t F=>
  split at d
  next e x' D=>
   obtain⟨n,Q,j⟩:=hA.opt _ _ d;unfold NR at Q;split at Q
   ·cases Q;refine aF J L (s:=.st (.leaf (.i .i64 _))) (aB trivial) ?_ j;rw[q];simp only[bc,av,A5,Dk,S0.val,SL.val,F,D];rfl
   ·cases Q;refine aF J L (s:=.st (.leaf (.i .i64 _))) (aB trivial) ?_ j;rw[q];simp only[bc,av,A5,Dk,S0.val,SL.val,F,D];rfl
   ·cases Q
  next n el D=>
   refine aF J L (s:=.st (.leaf (.i .i64 _))) (aB trivial) ?_ d;rw[q];simp only[bc,av,A5,Dk,F,D];rfl
  ·exact absurd d hA.fail
 next s x t F=>
  split at d
  next e D=>
   split at d
   ·exact absurd d hA.fail
   next Y=>
    have Y:¬X.C.P.cellsOf e=0:=λe=>by rw[e]at Y;cases Y
    obtain⟨M,cs,h',G,O,j⟩:=hA.heap _ _ _ d;simp only[Hp.run]at G;rw[L]at G O;obtain⟨v,rfl,q3⟩:=S2 D Y G;obtain⟨y,rfl,g,B⟩:=ta hA rfl j;refine dj J O (s:=.st y) g (f:=DO X.C t s x) ?_ q3 B;rw[q];simp only[bc,av,A5,Dk,S0.val,SL.val,F]
  ·exact absurd d hA.fail
 next m k t F=>
  split at d
  next kt et D=>
   obtain⟨M,cs,h',G,O,j⟩:=hA.heap _ _ _ d;simp only[Hp.run]at G;rw[L]at G O;refine dj J O (s:=.un) trivial (f:=nP X.C t m k.val) ?_ (S4 D G) j;rw[q];simp only[bc,av,A5,Dk,S0.val,SL.val,F]
  ·exact absurd d hA.fail
 next s t F=>
  split at d
  next e D=>
   split at d
   next z U Y=>
    have U:¬X.C.P.cellsOf e=0:=λe=>by rw[e]at U;cases U
    obtain⟨M,cs,h',G,O,j⟩:=hA.heap _ _ _ d;simp only[Hp.run]at G;rw[L]at G O;refine dj J O (s:=.un) trivial (f:=tO X.C t s) ?_ (SQ D U Y G) j;rw[q];simp only[bc,av,A5,Dk,S0.val,SL.val,F]
   ·exact absurd d hA.fail
  ·exact absurd d hA.fail
 next k a k' Z=>
  split at d
  next E=>
   have E:=dF E;subst E;obtain⟨t,V,j⟩:=hA.cmp _ _ _ _ d;have B:=hA.sel _ _ _ _ j;simp only[qc,B7]at V;subst V;obtain⟨p1,p2⟩:=N _ (λy S l I=>by
    simp only[qas,PX,or_false]at S;rcases S with rfl|rfl<;>(simp only[S0.cells,qav]at I;subst I;trivial)) rfl
   refine cE J L (s:=.st (.leaf (.i k _))) (aB trivial) ⟨by rw[W];rfl,?_,rfl,λw=>?_⟩ B
   ·rw[W];simp only[Op.operands,Call.operands,hb];simpa using p1
   ·simp only[execOp,W,resolve,hb,Sem.run_bind,p2];simp only[Sem.run_pure,Result.andThen_ok,invoke,builtin,av,A5,Dk,S0.val,SL.val,Sem.run_bind];rw[show(⟨[Value.int k a,Value.int k Z]⟩ : Array Value) = #[Value.int k a,Value.int k Z]from rfl,run_min_int2];simp[SV.val,S0.val,SL.val,Cu,CT]
  ·exact absurd d hA.fail
 next k a k' Z=>
  split at d
  next E=>
   have E:=dF E;subst E;obtain⟨t,V,j⟩:=hA.cmp _ _ _ _ d;have B:=hA.sel _ _ _ _ j;simp only[qc,B7]at V;subst V;obtain⟨p1,p2⟩:=N _ (λy S l I=>by
    simp only[qas,PX,or_false]at S;rcases S with rfl|rfl<;>(simp only[S0.cells,qav]at I;subst I;trivial)) rfl
   refine cE J L (s:=.st (.leaf (.i k _))) (aB trivial) ⟨by rw[W];rfl,?_,rfl,λw=>?_⟩ B
   ·rw[W];simp only[Op.operands,Call.operands,hb];simpa using p1
   ·simp only[execOp,W,resolve,hb,Sem.run_bind,p2];simp only[Sem.run_pure,Result.andThen_ok,invoke,builtin,av,A5,Dk,S0.val,SL.val,Sem.run_bind];rw[show(⟨[Value.int k a,Value.int k Z]⟩ : Array Value) = #[Value.int k a,Value.int k Z]from rfl,run_max_int2];simp[SV.val,S0.val,SL.val,Cu,CT]
  ·exact absurd d hA.fail
 ·exact absurd d hA.fail
end
end Sx
namespace Sx
section
variable [Val] [Kno] {R HT:Type} {A:Alg R HT} {X:Ctxt} {Sg:Tc} {holds:R->Prop} {abs:HT->Tp}
variable {ev:Env} {σ:St} {h:HT} {o:Oper} {K:KN R HT}
def HP(x:S0):cR [x]=x.cells.map SL.lf:=by simp[cR]
def ww(hA:AlgOk A X.C Sg X.T holds abs)(p:Rp ev σ){sks:TH}{w:TB}{ys:List S0}(D:Told sks w ys){H':Tp}(q:abs h=H')
  (i:I0 X.C X.pts o σ (({ σ with heap:=H' }:St).put o.dst (gq (av ys)))) (k:holds (It A o.dst sks w ev h K)):AD X holds abs o σ K:=by
 obtain⟨c,rfl,z⟩:=D;unfold It at k;split at k
 next E=>
  obtain⟨x,r,j,e,d⟩:=E8 hA k;obtain⟨n,g⟩:=hA.un0 _ _ d;rw[n,Cx]at j
  match ys,c with
  | [y],c=>
   simp only[cZ,qd6]at c;rw[HP]at j;obtain⟨t,u⟩:=S0.is_val c e j;refine dE p H' q (s:=.st x) (u (z y (by simp))) ?_ g;rw[show(SV.st x).val=gq (av [y])from by simp[SV.val,av,gq,t]];exact i
  | [],c=>cases c
  |_ :: _ :: _,c=>simp[cZ]at c
 ·obtain⟨n,d⟩:=hA.un0 _ _ k
  match ys,c with
  | [],_=>exact dE p H' q (s:=.un) trivial i d
  |_ :: _,c=>cases c
 next B v=>
  obtain⟨m,r,j,e,d⟩:=tt hA k;obtain⟨n,g⟩:=hA.un0 _ _ d;rw[n,Cx]at j;obtain⟨t,u⟩:=dz c e j;have f:2<=m.length:=by
   match m,e with
   | [],e=>cases sks with
    |nil=>exact absurd rfl v
    |cons _ _=>cases e
   | [x],e=>cases sks with
    |nil=>exact absurd rfl v
    |cons a l=>cases l with
     |nil=>exact absurd rfl (B _)
     |cons _ _=>simp[cZ]at e
   |_ :: _ :: _,_=>simp
  refine dE p H' q (s:=.tup m) ⟨u z,f⟩ ?_ g;have:(SV.tup m).val=gq (av ys):=by
   rw[t]
   match m,f with
   |a :: b :: l,_=>rfl
  rw[this];exact i
def GV{xs:List S0}(hg:∀x∈xs,x.good):(av xs).all noLoc=true:=by
 simp only[av,qac,qax];rintro _ ⟨x,a,rfl⟩;exact S0.noLoc (hg x a)
def NQ(hA:AlgOk A X.C Sg X.T holds abs)(m:Rp ev σ)(u:abs h=σ.heap){c:Call}{y:TH}(w:o.op = .call c)
  (a:holds (match svals ev c.args.toList with
  |some xs=>match c.callee with
   | .builtin b=>mT A X o.dst (mK y) b xs c.argTypes ev h K
   | .value f=>match sval ev f with
    | .st (.leaf (.v v))=>match f with
     | .func g=>match Sg g with
      |some sg=>match cZ xs sg.ps with
       |true=>A.call g (cR xs) h λq h=>It A o.dst sg.rs q ev h K
       |false=>A.fail
      |none=>A.fail
     |_=>A.callv v (av xs) y h λq h=>It A o.dst y q ev h K
    |_=>A.fail
   |_=>A.fail
  |none=>A.fail)):AD X holds abs o σ K:=by
 split at a
 next xs E=>
  obtain⟨D,J⟩:=m.svals E;have p:=GV J;split at a
  next b H=>
   exact yN hA m u w H E a
  next f B=>
   split at a
   next v I=>
    obtain⟨s,F⟩:=m.sval I (by simp);simp only[SV.val,S0.val,SL.val]at s;have G:aC v=true:=F (.v v) (by simp[S0.cells]);have j:∀ {g:TK} {first d:Tj},v = .func (.func g) first d->aq X.C X.pts (ke σ.tmps) o=some (.call g (first.toList++av xs++d.toList)):=by
     intro g first d e
     subst e;simp only[aq,w,ge,B,D,p,s,(fi.1 G).1,BS,Bq,if_false,if_true]
    split at a
    next g=>
     have e:v = .func (.func g) #[] #[]:=by
      have:=s;simp only[ke]at this;exact this.symm
     split at a
     next sg z=>
      split at a
      next x=>
       obtain⟨q,r,⟨L,N,t,n,⟨c2,c3,c4⟩,c5,c6⟩,i⟩:=hA.call _ _ _ _ a;rw[z]at n;cases n;obtain⟨M,_⟩:=dz x c2 c3.symm;rw[u]at c6;refine ww hA m c5 rfl (.inl ⟨_,j e,gq (av t),abs r,?_,rfl⟩) i;rw[M];show pV X.C g _ _ _ _;simpa using c6
      ·exact absurd a hA.fail
     ·exact absurd a hA.fail
    ·obtain⟨q,r,⟨t,n,c2⟩,i⟩:=hA.callv _ _ _ _ _ a;rw[u]at c2;rcases c2 with⟨g,first,d,e,c2⟩|⟨l,e,c2⟩
     ·exact ww hA m n rfl (.inl ⟨_,j e,gq (av t),abs r,c2,rfl⟩) i
     ·have k:aq X.C X.pts (ke σ.tmps) o=some (.yield l (av xs)):=by
       subst e;simp only[aq,w,ge,B,D,p,s,BS,Bq,if_false];rfl
      exact ww hA m n rfl (.inl ⟨_,k,gq (av t),abs r,c2,rfl⟩) i
   ·exact absurd a hA.fail
  ·exact absurd a hA.fail
 ·exact absurd a hA.fail
def US(hA:AlgOk A X.C Sg X.T holds abs)(j:Rp ev σ)(p:abs h=σ.heap){L:TH}(g:holds (UR A X Sg o L ev h K)):AD X holds abs o σ K:=by
 unfold UR at g;split at g
 next x d=>
  split at g
  ·exact absurd g hA.fail
  next D=>exact F7 j p (.inl d) rfl (λe=>D e) g
 next x d=>
  split at g
  ·exact absurd g hA.fail
  next D=>exact F7 j p (.inr d) rfl (λe=>D e) g
 next c a b d=>exact PN hA j p d g
 next t d=>
  split at g
  next x q=>
   obtain⟨z,u,w,I⟩:=yH q;exact F9 hA j p I (by simp only[aq,d,u,A7,w]) (.inr d) g
  ·exact absurd g hA.fail
 next t y d=>
  split at g
  next x q=>
   obtain⟨u,w⟩:=j.sval q (by simp);exact F9 hA j p w (by simp only[aq,d,u];rfl) (.inl ⟨y,d⟩) g
  ·exact absurd g hA.fail
 next t N d=>exact Jl hA j p d g
 next t n N d=>exact rr hA j p d g
 next t a d=>
  split at g
  next E B=>
   split at g
   next J=>exact O6 hA j p d B (JN J) g
   ·exact absurd g hA.fail
  ·exact absurd g hA.fail
 next t a y d=>
  split at g
  next x q=>exact MB hA j p d q g
  ·exact absurd g hA.fail
 next x d=>exact vZ hA j p d g
 next M t x y Y d=>
  split at g
  next a b G H=>exact SI hA j p d G H g
  ·exact absurd g hA.fail
 next M t x d=>exact un_ok hA j p d g
 next W O x d=>exact NZ hA j p d g
 next P first F d=>exact vR hA j p d g
 next t r d=>exact ll hA j p d g
 next t l c d=>exact uD hA j p d g
 next t x S Q U d=>exact Iv hA j p d g
 next t x f d=>exact uf hA j p d g
 next t x i d=>exact uw hA j p d g
 next t x f d=>exact J6 hA j p d g
 next t x i d=>exact Kr hA j p d g
 next t m k V d=>exact O8 hA j p d g
 next t m k v d=>exact xA hA j p (.inl d) g
 next t m k v d=>exact xA hA j p (.inr d) g
 next t m k d=>exact KR hA j p d g
 next t m s v d=>exact JL hA j p d g
 next t i d=>exact yY hA j p d g
 next c d=>exact NQ hA j p d g
 ·exact absurd g hA.fail
def IV(X:Ctxt)(holds:R->Prop)(abs:HT->Tp)(ops:Tl)(i:Nat)(o:Oper)(σ:St)(K:KN R HT):Prop:=
 ∃σ' ev' h',aj X.C (uB X.C) X.pts ops i σ σ'/\Rp ev' σ'/\abs h'=σ'.heap/\Fr o.dst.toList (uN X.pts o).toList (jt X.pts o).toList σ σ'/\holds (K ev' h')
def L6(c:Rp ev σ){d:Nat}{t:Bool}(f:ev.tm.getD d .no = .st (.leaf (.b t))):Rp ⟨ev.tm.set d (.st (.leaf (.l t))),ev.lc⟩ σ:=by
 obtain⟨e,_⟩:=c.at f (by simp);refine⟨by simp[c.len],λi x a=>?_,c.llen,c.row⟩;simp only[Eb]at a;split at a
 next g=>
  subst g;split at a
  ·cases a;exact⟨e,aB trivial⟩
  ·cases a
 ·exact c.val i x a
def xO(hA:AlgOk A X.C Sg X.T holds abs)(l:Rp ev σ)(x:abs h=σ.heap){ops:Tl}{i:Nat}{z:TH}(y:ops[i]?=some o)(g:holds (UT A X Sg ops o z ev h K)):IV X holds abs ops i o σ K:=by
 have c:∀ {ev:Env},Rp ev σ->cw ops σ.tmps o=some true->holds (UR A X Sg o z ev h K)->IV X holds abs ops i o σ K:=by
  intro ev l k g;obtain⟨σ',p,B,E,F,G,H,I⟩:=US hA l x g;exact⟨σ',p,B,by unfold aj;simp only[y,k];exact E,F,G,H,I⟩
 have a:∀ {ev:Env},Rp ev σ->cw ops σ.tmps o=some false->holds (my o.dst .un ev h K)->IV X holds abs ops i o σ K:=by
  intro ev l k g;obtain⟨p,q,D⟩:=wv l (s:=.un) trivial g;refine⟨σ.put o.dst undef,p,h,by unfold aj;simp only[y,k],q,?_,.put _ _ _ _,D⟩;rw[x];cases o.dst<;>rfl
 unfold UT at g;split at g
 next v=>
  exact c l (by simp only[cw,v]) g
 next j n v=>
  split at g
  next d w=>
   split at g
   next b u=>
    obtain⟨q,_⟩:=l.at u (by simp);have k:cw ops σ.tmps o=some (b==n):=by
     simp only[cw,v,w,A7,q];rfl
    split at g
    next e=>exact c l (by rw[k,e]) g
    next e=>exact a l (by rw[k,e]) g
   next u=>
    obtain⟨q,_⟩:=l.at u (by simp);have k:cw ops σ.tmps o=some false:=by
     simp only[cw,v,w,A7,q];rfl
    exact a l k g
   next t u=>
    obtain⟨q,_⟩:=l.at u (by simp);have k:cw ops σ.tmps o=some (t==n):=by
     simp only[cw,v,w,A7,q];rfl
    have m:=L6 l u;split at g
    ·rcases hA.cond _ _ _ g with⟨r,f⟩|⟨r,f⟩
     ·rw[setK_eq]at f;subst r;exact c m k f
     ·rw[setK_eq]at f;subst r;exact a m k f
    ·rcases hA.cond _ _ _ g with⟨r,f⟩|⟨r,f⟩
     ·rw[setK_eq]at f;subst r;exact a m k f
     ·rw[setK_eq]at f;subst r;exact c m k f
   ·exact absurd g hA.fail
  ·exact absurd g hA.fail
def MW(l:Tu):Tx:=l.filterMap (·.dst)
def KA(pts:Tx)(l:Tu):Tx:=l.filterMap (uN pts)
def L7(pts:Tx)(l:Tu):Tx:=l.filterMap (jt pts)
def bv{f:Oper->To}{o:Oper}{l:Tu}(b:o∈l):∀i∈(f o).toList,i∈l.filterMap f:=by
 intro i a;rw[qaH];exact⟨o,b,by simpa using a⟩
def nq(hA:AlgOk A X.C Sg X.T holds abs){ops:Tl}:∀(l:Tu) (i:Nat) (d:List (TH)) (ev:Env) (h:HT) (σ:St),l <+: ops.toList.drop i->Rp ev σ->abs h=σ.heap->holds (H5 A X Sg ops l d ev h K)->
  ∃σ' a g,bJ X.C (uB X.C) X.pts ops (List.range' i l.length) σ σ'/\Rp a σ'/\abs g=σ'.heap/\Fr (MW l) (KA X.pts l) (L7 X.pts l) σ σ'/\holds (K a g)
 | [],i,d,ev,h,σ,_,k,m,n=>⟨σ,ev,h,rfl,k,m,.refl _ _ _ _,n⟩
 |o :: l,i,d,ev,h,σ,c,k,m,n=>by
  have j:ops[i]?=some o:=by
   obtain⟨t,c⟩:=c;have:(ops.toList.drop i)[0]?=some o:=by rw[←c];rfl
   simpa using this
  obtain⟨σ₁,ev₁,h₁,z,B,D,E,F⟩:=xO (K:=λev h=>H5 A X Sg ops l d.tail ev h K) hA k m j n;have p:l <+: ops.toList.drop (i+1):=by
   obtain⟨t,c⟩:=c;exact⟨t,by rw[←LS,←c];rfl⟩
  obtain⟨σ',a,g,s,u,v,w,y⟩:=nq hA l (i+1) d.tail ev₁ h₁ σ₁ p B D F;refine⟨σ',a,g,⟨σ₁,z,s⟩,u,v,?_,y⟩;have q:Fr (MW (o :: l)) (KA X.pts (o :: l)) (L7 X.pts (o :: l)) σ σ₁:=E.mono (bv (by simp)) (bv (by simp)) (bv (by simp));have b:∀(f:Oper->To) (i:Nat),i∈l.filterMap f->i∈(o :: l).filterMap f:=by
   intro f i j;rw[qaH]at j ⊢;obtain⟨x,r,e⟩:=j;exact⟨x,by simp[r],e⟩
  exact q.trans (w.mono (b _) (b _) (b _))
def Pz(hA:AlgOk A X.C Sg X.T holds abs){ops:Tl}(l:Tu)(i:Nat)(a:List (TH))(ev:Env)(h:HT)(σ:St)(e:ops.toList.drop i=l)(b:Rp ev σ)(c:abs h=σ.heap)(d:holds (H5 A X Sg ops l a ev h K)) :
  ∃σ' ev' h',bJ X.C (uB X.C) X.pts ops (List.range' i l.length) σ σ'/\Rp ev' σ'/\abs h'=σ'.heap/\Fr (MW l) (KA X.pts l) (L7 X.pts l) σ σ'/\holds (K ev' h'):=
 nq hA l i a ev h σ (e▸qdS _) b c d
end
end Sx
namespace Sx
section
variable [Val] [Kno] {R HT:Type} {A:Alg R HT} {X:Ctxt} {Sg:Tc} {holds:R->Prop} {abs:HT->Tp}
def Fm(b ks:Tx):∀(l:List SV) (i:Nat) (K:List SV->R),∃l',SU b ks l i K=K l'/\l'.length=l.length/\
  ∀(j:Nat) s,l'[j]?=some s->s = .no∨(l[j]?=some s/\¬b.contains (i+j)=true/\s.inRows ks=false)
 | [],i,K=>⟨[],rfl,rfl,λj s h=>by simp at h⟩
 |x :: l,i,K=>by
  obtain⟨l',h1,e,g⟩:=Fm b ks l (i+1) λl=>match b.contains i||x.inRows ks with
   |true=>K (.no :: l)
   |false=>K (x :: l)
  have f:∀(j:Nat) s,l'[j]?=some s->s = .no∨((x :: l)[j+1]?=some s/\¬b.contains (i+(j+1))=true/\s.inRows ks=false):=by
   intro j s a;have:=g j s a;rw[show i+1+j=i+(j+1)by omega]at this;simpa using this
  have c:SU b ks (x :: l) i K=(match b.contains i||x.inRows ks with
   |true=>K (.no :: l')
   |false=>K (x :: l')):=h1
  cases d:b.contains i||x.inRows ks with
  |true=>
   refine⟨.no :: l',by rw[c,d],by simp[e],λj s a=>?_⟩;cases j with
   |zero=>simp at a;exact .inl a.symm
   |succ j=>exact f j s (by simpa using a)
  |false=>
   simp only[qb5]at d;refine⟨x :: l',by rw[c];simp only[d,Bool.or_self],by simp[e],λj s a=>?_⟩;cases j with
   |zero=>
    simp at a;subst a;exact .inr ⟨rfl,by rw[Vf,d.1];exact Bool.false_ne_true,d.2⟩
   |succ j=>exact f j s (by simpa using a)
def sW(r r0:LR):Prop:=r = .unk∨(∃n,r = .any n/\(r0 = .any n∨∃cs,r0 = .row cs/\cs.length=n))
def Fk(d ks:Tx)(k:LR):∀(l:List LR) (i:Nat) (K:List LR->R),∃l',Js d ks k l i K=K l'/\l'.length=l.length/\
  ∀(j:Nat) r,l'[j]?=some r->(ks.contains (i+j)=true/\r=k)∨(ks.contains (i+j)=false/\d.contains (i+j)=true/\∃r0,l[j]?=some r0/\sW r r0)∨
   (ks.contains (i+j)=false/\d.contains (i+j)=false/\l[j]?=some r)
 | [],i,K=>⟨[],rfl,rfl,λj s h=>by simp at h⟩
 |x :: l,i,K=>by
  obtain⟨l',h1,q,t⟩:=Fk d ks k l (i+1) λl=>match ks.contains i,d.contains i with
   |true,_=>K (k :: l)
   |false,true=>(match x with
    | .row o=>rV o.length λn=>K (.any n :: l)
    | .any n=>K (.any n :: l)
    |_=>K (.unk :: l))
   |false,false=>K (x :: l)
  have u:∀(j:Nat) r,l'[j]?=some r->(ks.contains (i+(j+1))=true/\r=k)∨(ks.contains (i+(j+1))=false/\d.contains (i+(j+1))=true/\∃r0,(x :: l)[j+1]?=some r0/\sW r r0)∨
   (ks.contains (i+(j+1))=false/\d.contains (i+(j+1))=false/\(x :: l)[j+1]?=some r):=by
   intro j s m;have:=t j s m;rw[show i+1+j=i+(j+1)by omega]at this;simpa using this
  have e:∀y:LR,Js d ks k (x :: l) i K=K (y :: l')->((ks.contains i=true/\y=k)∨(ks.contains i=false/\d.contains i=true/\sW y x)∨(ks.contains i=false/\d.contains i=false/\y=x))->
    ∃l',Js d ks k (x :: l) i K=K l'/\l'.length=(x :: l).length/\∀(j:Nat) r,l'[j]?=some r->(ks.contains (i+j)=true/\r=k)∨(ks.contains (i+j)=false/\d.contains (i+j)=true/\∃r0,(x :: l)[j]?=some r0/\sW r r0)∨
     (ks.contains (i+j)=false/\d.contains (i+j)=false/\(x :: l)[j]?=some r):=by
   intro y v p;refine⟨y :: l',v,by simp[q],λj r m=>?_⟩;cases j with
   |zero=>
    simp at m;subst m;rcases p with p|⟨a,b,c⟩|⟨a,b,c⟩
    ·exact .inl p
    ·exact .inr (.inl ⟨a,b,x,rfl,c⟩)
    ·exact .inr (.inr ⟨a,b,by rw[c];rfl⟩)
   |succ j=>exact u j r (by simpa using m)
  cases f:ks.contains i with
  |true=>exact e k (by show _=_;refine h1.trans ?_;simp only[f]) (.inl ⟨f,rfl⟩)
  |false=>
   cases g:d.contains i with
   |false=>exact e x (by refine h1.trans ?_;simp only[f,g]) (.inr (.inr ⟨f,g,rfl⟩))
   |true=>
    cases x with
    |row o=>exact e (.any o.length) (by refine h1.trans ?_;simp only[f,g,vI]) (.inr (.inl ⟨f,g,.inr ⟨_,rfl,.inr ⟨o,rfl,rfl⟩⟩⟩))
    |any n=>exact e (.any n) (by refine h1.trans ?_;simp only[f,g]) (.inr (.inl ⟨f,g,.inr ⟨_,rfl,.inl rfl⟩⟩))
    |unk=>exact e .unk (by refine h1.trans ?_;simp only[f,g]) (.inr (.inl ⟨f,g,.inl rfl⟩))
    |nil=>exact e .unk (by refine h1.trans ?_;simp only[f,g]) (.inr (.inl ⟨f,g,.inl rfl⟩))
def MT{C:Cfg}{T:Tq}(hA:AlgOk A C Sg T holds abs):∀(lv:List (Nat×SK)) (xs:List S0) (tm:List SV) (K:List SV->R),holds (upT A lv xs tm K)->cZ xs (lv.map (·.2))=true->
  ∃a,holds (K a)/\a.length=tm.length/\∀(j:Nat) s,a[j]?=some s->tm[j]?=some s∨∃e x,(j,e)∈lv/\s = .st x/\((j,e),x)∈lv.zip xs
 | [],xs,tm,K,d,_=>⟨tm,d,rfl,λj s f=>.inl f⟩
 |p :: lv,[],tm,K,d,h=>by cases h
 |p :: lv,x :: xs,tm,K,d,h=>by
  simp only[A5,cZ,wa]at h;have c:holds (setK (.st x) tm p.1 λtm=>upT A lv xs tm K):=d;rw[setK_eq]at c;obtain⟨a,g,i,k⟩:=MT hA lv xs _ K c h.2;refine⟨a,g,by rw[i];simp,λj s f=>?_⟩;rcases k j s f with b|⟨e,y,b,l,m⟩
  ·simp only[Eb]at b;split at b
   next n=>
    split at b
    ·cases b;subst n;exact .inr ⟨p.2,x,by simp,rfl,by simp⟩
    ·cases b
   ·exact .inl b
  ·exact .inr ⟨e,y,by simp[b],l,by simp[m]⟩
def MS{C:Cfg}{T:Tq}(hA:AlgOk A C Sg T holds abs):∀(lv:List (Nat×List LK)) (ls:TB) (c:List LR) (K:List LR->TB->R),holds (upR A lv ls c K)->
  ∃(b:List LR) (r:TB) (a:List (List SL)),holds (K b r)/\ls=(a.map (·.map SL.lf)).flatten++r/\a.length=lv.length/\(∀(i:Nat) p cs,lv[i]?=some p->a[i]?=some cs->aZ cs p.2=true)/\b.length=c.length/\
   ∀(j:Nat) s,b[j]?=some s->c[j]?=some s∨∃(i:Nat) (ks:TE) (cs:List SL),lv[i]?=some (j,ks)/\a[i]?=some cs/\s = .row cs
 | [],ls,c,K,k=>⟨c,ls,[],k,rfl,rfl,λ_ _ _ h=>by simp at h,rfl,λj s n=>.inl n⟩
 |p :: lv,ls,c,K,k=>by
  have l:holds (IR A p.2 ls λcs r=>setK (.row cs) c p.1 λc=>upR A lv r c K):=k;obtain⟨cs,r,o,t,e⟩:=qZ hA l;rw[setK_eq]at e;obtain⟨b,F,a,u,v,w,x,y,z⟩:=MS hA lv r _ K e;refine⟨b,F,cs :: a,u,by rw[o,v];simp,by simp[w],λi q f m g=>?_,by rw[y];simp,λj s n=>?_⟩
  ·cases i with
   |zero=>simp at m g;subst m;subst g;exact t
   |succ i=>exact x i q f (by simpa using m) (by simpa using g)
  ·rcases z j s n with d|⟨i,ks,f,d,B,D⟩
   ·simp only[Eb]at d;split at d
    next E=>
     split at d
     ·cases d;subst E;exact .inr ⟨0,p.2,cs,rfl,rfl,rfl⟩
     ·cases d
    ·exact .inl d
   ·exact .inr ⟨i+1,ks,f,by simpa using d,by simpa using B,D⟩
def LG{b:Env}{σ:St}(c:Rp b σ):∀ {lv:List (Nat×SK)} {ls:TB},pkT b.tm lv=some ls->
  ∃xs,cR xs=ls/\cZ xs (lv.map (·.2))=true/\(∀x∈xs,x.good)/\∀p∈lv.zip xs,σ.tmps[p.1.1]?=some p.2.val
 | [],ls,h=>by cases h;exact⟨[],rfl,rfl,by simp,by simp⟩
 |(t,m) :: lv,ls,h=>by
  simp only[pkT]at h;split at h
  next x l k j=>
   split at h
   next a=>
    cases h;obtain⟨xs,h1,f,g,i⟩:=LG c j;obtain⟨d,e⟩:=c.at k (by simp);refine⟨x :: xs,by simp[cR,h1],by simp[cZ,a,f],qbA.2 ⟨e,g⟩,λp hp=>?_⟩;simp only[List.zip_cons_cons,qas]at hp;rcases hp with rfl|hp
    ·exact d
    ·exact i p hp
   ·cases h
  ·cases h
def LF{b:Env}{σ:St}(g:Rp b σ):∀ {lv:List (Nat×List LK)} {ls:TB},pkR b.lc lv=some ls->
  ∃a:List (List SL),(a.map (·.map SL.lf)).flatten=ls/\a.length=lv.length/\(∀(i:Nat) p cs,lv[i]?=some p->a[i]?=some cs->aZ cs p.2=true/\(∀c∈cs,c.good)/\σ.loc[p.1]?=some (some (cs.map SL.val)))
 | [],ls,h=>by cases h;exact⟨[],rfl,rfl,λ_ _ _ h=>by simp at h⟩
 |(s,ks) :: lv,ls,h=>by
  simp only[pkR]at h;split at h
  next cs t r o=>
   split at h
   next e=>
    cases h;obtain⟨a,h1,m,n⟩:=LF g o;have q:sV b s=some cs:=by unfold sV;rw[r]
    obtain⟨k,l,_⟩:=kw g q;refine⟨cs :: a,by simp[h1],by simp[m],λi p j f d=>?_⟩;cases i with
    |zero=>simp at f d;subst f;subst d;exact⟨e,l,k⟩
    |succ i=>exact n i p j (by simpa using f) (by simpa using d)
   ·cases h
  ·cases h
def JA:∀ {lv:List (Nat×List LK)} {a b:List (List SL)} {r:TB},a.length=lv.length->b.length=lv.length->
  (∀(i:Nat) p c,lv[i]?=some p->a[i]?=some c->aZ c p.2=true)->(∀(i:Nat) p c,lv[i]?=some p->b[i]?=some c->aZ c p.2=true)->
  (a.map (·.map SL.lf)).flatten=(b.map (·.map SL.lf)).flatten++r->r=[]/\∀(i:Nat) x y,a[i]?=some x->b[i]?=some y->x.map SL.lf=y.map SL.lf
 | [],a,b,r,la,lb,_,_,h=>by
  have la:a=[]:=by simpa using la
  have lb:b=[]:=by simpa using lb
  subst la;subst lb;simp at h;exact⟨h,λi x y w=>by simp at w⟩
 |p :: lv,a,b,r,la,lb,j,k,h=>by
  cases a with
  |nil=>simp at la
  |cons x a=>cases b with
   |nil=>simp at lb
   |cons y b=>
    simp only[A5,VZ,A6]at h;have s:=bM (j 0 p x rfl rfl);have t:=bM (k 0 p y rfl rfl);obtain⟨l,m⟩:=qdX h (by simp[s,t]);obtain⟨n,o⟩:=JA (lv:=lv) (by simpa using la) (by simpa using lb) (λi q c e d=>j (i+1) q c (by simpa using e) (by simpa using d))
     (λi q c e d=>k (i+1) q c (by simpa using e) (by simpa using d)) m
    refine⟨n,λi u v f g=>?_⟩;cases i with
    |zero=>simp at f g;subst f;subst g;exact l
    |succ i=>exact o i u v (by simpa using f) (by simpa using g)
def zp{α β:Type}{l:List α}{m:List β}{p:α×β}(h:p∈l.zip m):∃i:Nat,l[i]?=some p.1/\m[i]?=some p.2:=by
 obtain⟨i,a⟩:=BK h;rw[qdI]at a;exact⟨i,a⟩
def qu:∀ {a b:List S0} {sks:TH},cZ a sks=true->cZ b sks=true->(cR a).length=(cR b).length
 | [],[],[],_,_=>rfl
 |x :: a,y :: b,k :: sks,c,d=>by
  simp only[cZ,wa]at c d;obtain⟨n,e,f⟩:=S0.is_len c.1;simp only[cR,Bv,A9,e,f y d.1,qu c.2 d.2]
 | [],_ :: _,[],_,d=>by cases d
 | [],_,_ :: _,c,_=>by cases c
 |_ :: _,_,[],c,_=>by cases c
 |_ :: _,[],_ :: _,_,d=>by cases d
structure Like(ks:Tx)(nw:LR)(σ' τ:St):Prop where
 tlen:τ.tmps.length=σ'.tmps.length
 llen:τ.loc.length=σ'.loc.length
 tm:∀(i:Nat) v,σ'.tmps[i]?=some v->noLoc v=true->τ.tmps[i]?=some v
 tp:∀(i s off:Nat),σ'.tmps[i]?=some (.pointer (some ⟨s,off,some 0⟩))->s∉ks->τ.tmps[i]?=some (.pointer (some ⟨s,off,some 0⟩))
 row:∀(s:Nat) x,σ'.loc[s]?=some x->s∉ks->τ.loc[s]?=some x
 new:∀s,s∈ks->s<τ.loc.length->nw.ok τ.loc s
theorem Like.refl(ks:Tx)(σ:St):Like ks .unk σ σ:=⟨rfl,rfl,λ_ _ h _=>h,λ_ _ _ h _=>h,λ_ _ h _=>h,λ_ _ _=>trivial⟩
def L4{C:Cfg}{T:Tq}(hA:AlgOk A C Sg T holds abs){pts:Tx}{c:Code}{nw:LR}{lv:Live}{O P:Env}{σ σ' τ:St}{ls:TB}{K:Env->R}
  (I:Rp O σ) (S:Rp P σ') (D:Fr (DD c) (aQ pts c) (CB pts c) σ σ') (hp:pk P lv=some ls) (hτ:Like (aQ pts c) nw σ' τ)
  (j:τ=σ'∨∀p∈lv.rows,p.1∉aQ pts c) (hk:holds (reE A pts c nw lv O ls K)):∃Q,Rp Q τ/\holds (K Q):=by
 unfold reE at hk;obtain⟨a5,h1,h2,h3⟩:=Fm (DD c) (aQ pts c) O.tm 0 λtm=>Js (CB pts c) (aQ pts c) nw O.lc 0 λG=>
  E9 A (lv.tm.map (·.2)) ls λL r=>upT A lv.tm L tm λtm=>upR A lv.rows r G λG r=>A.un0 r (K ⟨tm,G⟩)
 rw[h1]at hk;obtain⟨a8,g1,g2,g3⟩:=Fk (CB pts c) (aQ pts c) nw O.lc 0 λG=>
  E9 A (lv.tm.map (·.2)) ls λL r=>upT A lv.tm L a5 λtm=>upR A lv.rows r G λG r=>A.un0 r (K ⟨tm,G⟩)
 rw[g1]at hk;obtain⟨L,r,e1,e2,ad⟩:=tt hA hk;obtain⟨Y,ag,u1,u2⟩:=MT hA _ _ _ _ ad e2;obtain⟨W,r2,a7,an,v1,v2,v3,v4,v5⟩:=MS hA _ _ _ _ ag;obtain⟨aE,ap⟩:=hA.un0 _ _ an;subst aE;rw[Cx]at v1;unfold pk at hp;split at hp
 next la lb ax ay=>
  cases hp;obtain⟨ys,y1,y2,y3,y4⟩:=LG S ax;obtain⟨z,d1,d2,d3⟩:=LF S ay;rw[←y1,←d1]at e1;obtain⟨s1,s2⟩:=qdX e1 (qu y2 e2);obtain⟨w1,w2⟩:=dz y2 e2 s1;have E:=w2 y3;obtain⟨_,z2⟩:=JA (r:=[]) d2 v2 (λi p H a b=>(d3 i p H a b).1) v3 (by rw[s2,v1,Cx]);refine⟨⟨Y,W⟩,⟨?_,λi s hs=>?_,?_,λi s hs=>?_⟩,ap⟩
  ·show Y.length=_;rw[u1,h2,I.len,hτ.tlen,D.tlen]
  ·rcases u2 i s hs with u|⟨sk,x,M,rfl,a3⟩
   ·rcases h3 i s u with rfl|⟨o,q,w⟩
    ·trivial
    ·have e:=I.val i s o;rw[BT]at q;have q:i∉DD c:=by simpa using q
     have d:∀v,σ.tmps[i]?=some v->noLoc v=true->τ.tmps[i]?=some v:=λv F U=>hτ.tm i v (D.tm i v F q U) U;have m:∀s f,σ.tmps[i]?=some (.pointer (some ⟨s,f,some 0⟩))->s∉aQ pts c->τ.tmps[i]?=some (.pointer (some ⟨s,f,some 0⟩)):=λs f F U=>
      hτ.tp i s f (D.tp i s f F q U) U
     cases s with
     |no=>trivial
     |st x=>exact⟨d _ e.1 (S0.noLoc e.2),e.2⟩
     |tup L=>simp[SV.inRows]at w
     |un=>exact⟨d _ e.1 rfl,trivial⟩
     |gad g f=>exact⟨d _ e.1 rfl,trivial⟩
     |gdx g N ix=>exact⟨d _ e.1 rfl,trivial⟩
     |lad s f=>exact⟨m s f e.1 (by simpa[SV.inRows]using w),trivial⟩
     |ldx s N ix=>exact⟨m s _ e.1 (by simpa[SV.inRows]using w),trivial⟩
   ·obtain⟨k,q1,q2⟩:=zp a3;simp only at q1 q2;have V:(av L)[k]?=some x.val:=by simp[av,q2]
    rw[←w1]at V;simp only[av,AX,qag]at V;obtain⟨y,a0,a4⟩:=V;have hm:((i,sk),y)∈lv.tm.zip ys:=by
     apply Ap (i:=k);rw[qdI];exact⟨q1,a0⟩
    have F:=y4 _ hm;simp only at F;rw[a4]at F;have gx:=E x (Ap q2);exact⟨hτ.tm i _ F (S0.noLoc gx),gx⟩
  ·show W.length=_;rw[v4,g2,I.llen,hτ.llen,D.llen]
  ·rcases v5 i s hs with u|⟨k,ks,H,M,a2,rfl⟩
   ·rcases g3 i s u with⟨o,rfl⟩|⟨o,q,r0,w,b4⟩|⟨o,q,w⟩
    ·rw[BT]at o;refine hτ.new i (by simpa using o) ?_;rw[hτ.llen,D.llen,←I.llen,←g2];exact(qbg.1 u).1
    ·rw[BT]at o;have t:i∉aQ pts c:=by simpa using o
     have B:=I.row i r0 w;rcases b4 with rfl|⟨n,rfl,b4⟩
     ·trivial
     ·have:∃J,σ.loc[i]?=some (some J)/\J.length=n:=by
       rcases b4 with rfl|⟨H,rfl,hl⟩
       ·exact B
       ·exact⟨_,B.1,by simpa using hl⟩
      obtain⟨J,c1,c2⟩:=this;obtain⟨a6,c3,c4⟩:=D.rlen i J c1 t;exact⟨a6,hτ.row i _ c3 t,c4.trans c2⟩
    ·rw[BT]at o q;have t:i∉aQ pts c:=by simpa using o
     have ar:i∉CB pts c:=by simpa using q
     have B:=I.row i s w;have l:∀x,σ.loc[i]?=some x->τ.loc[i]?=some x:=λx V=>hτ.row i x (D.row i x V ar) t;cases s with
     |unk=>trivial
     |nil=>exact l _ B
     |any n=>obtain⟨J,c1,c2⟩:=B;exact⟨J,l _ c1,c2⟩
     |row H=>exact⟨l _ B.1,B.2⟩
   ·have hd:∃Z,z[k]?=some Z:=by
     have:k<z.length:=by rw[d2];exact(qbg.1 M).1
     exact⟨z[k],by simp[this]⟩
    obtain⟨Z,hd⟩:=hd;obtain⟨f1,f2,f3⟩:=d3 k _ Z M hd;have f4:=v3 k _ H M a2;obtain⟨m1,m2⟩:=gP f1 f4 (z2 k Z H hd a2);simp only at f3;rw[m1]at f3;refine⟨?_,m2 f2⟩;rcases j with rfl|j
    ·exact f3
    ·exact hτ.row i _ f3 (j (i,ks) (Ap M))
 ·cases hp
end
end Sx
namespace Sx
section
variable [Val] [Kno] {R HT:Type} {A:Alg R HT} {X:Ctxt} {Sg:Tc} {holds:R->Prop} {abs:HT->Tp}
def er(X:Ctxt)(c:AC):Code:=c.erase λκ t=>iR (X.T κ) t
def V6(X:Ctxt)(holds:R->Prop)(abs:HT->Tp)(c:Code)(σ:St)(a:KN R HT)(b:Exit->KN R HT):Prop:=
 ∃e σ' ev' h',uEx X.C X.pts c σ e σ'/\Rp ev' σ'/\abs h'=σ'.heap/\Fr (DD c) (aQ X.pts c) (CB X.pts c) σ σ'/\((e = .normal/\holds (a ev' h'))∨(e≠.normal/\holds (b e ev' h')))
def si(hA:AlgOk A X.C Sg X.T holds abs){c:Code}{j:Option Live}{l:Env}{σ:St}{d:KN R HT}{b:KN R HT->R}{u:Exit->KN R HT}{f:Code}
  (t:DD f=DD c) (q:aQ X.pts f=aQ X.pts c) (s:CB X.pts f=CB X.pts c)
  (x:Rp l σ) (r:∀d,holds (b d)->V6 X holds abs f σ d u) (k:holds (uy A X.pts c j l d b)):V6 X holds abs f σ d u:=by
 unfold uy at k;cases j with
 |none=>exact r d k
 |some lv=>
  obtain⟨e,σ',h,m,n,o,p,g,a⟩:=r _ (hA.join _ _ k);rcases a with⟨rfl,a⟩|a
  ·simp only at a;split at a
   next z y=>
    rw[t,q,s]at g;obtain⟨i,v,w⟩:=L4 hA x o g y (.refl _ _) (.inl rfl) a;exact⟨.normal,σ',i,m,n,v,p,by rw[t,q,s];exact g,.inl ⟨rfl,w⟩⟩
   ·exact absurd a hA.fail
  ·exact⟨e,σ',h,m,n,o,p,g,.inr a⟩
def NP(pts:Tx):∀c:Code,∀s∈aQ pts c,s∈CB pts c:=by
 intro c
 induction c with
 |region id m k=>
  intro s d;simp only[aQ,qaH]at d;simp only[CB,qaH];obtain⟨o,l,d⟩:=d;refine⟨o,l,?_⟩;unfold jt;split at d
  next i j=>
   simp only[i,j];exact d
  next i j=>
   simp only[i,j];exact d
  ·cases d
 |seq a b e g=>intro s d;simp only[aQ,CB,qar]at d ⊢;exact d.imp (e s) (g s)
 |cond c a b e g=>intro s d;simp only[aQ,CB,qar]at d ⊢;exact d.imp (e s) (g s)
 |block id b h=>exact h
 |loop b h=>exact h
 |scope b h=>exact h
 |rangeFunc f n a b e g=>intro s d;simp only[aQ,CB,qar]at d ⊢;exact d.imp (e s) (g s)
 |_=>intro s d;cases d
def tQ{b:Tx}{v:Value}(h:noLoc v=true):jb b v=v:=by
 unfold jb;split
 next a=>
  split
  next c=>
   simp only[wa,BQ]at c;simp[noLoc,aR,bh,aX,c.1]at h
  ·rfl
 ·rw[mc h]
def tP{a:Tx}{s off:Nat}(h:s∉a):jb a (.pointer (some ⟨s,off,some 0⟩)) = .pointer (some ⟨s,off,some 0⟩):=by
 unfold jb;simp[h]
def iL{σ:St}{a:Tx}{i:Nat}{v:Value}(b:σ.tmps[i]?=some v)(c:jb a v=v):(σ.clear a).tmps[i]?=some v:=by
 unfold St.clear;split
 ·exact b
 ·simp[b,c]
def nJ{σ:St}{a:Tx}{s:Nat}{x:Option (Tk)}(b:σ.loc[s]?=some x)(c:s∉a):(σ.clear a).loc[s]?=some x:=by
 unfold St.clear;split
 ·exact b
 ·simp only;rw[eZ,BT,ra (by simpa using c)];exact b
def G9{σ:St}{a:Tx}{s:Nat}(b:s∈a)(c:s<σ.loc.length):(σ.clear a).loc[s]?=some none:=by
 unfold St.clear;split
 next e=>rw[e]at b;cases b
 ·simp only;rw[eZ,BT,mc (by simpa using b)];simp[c]
def pZ{σ:St}{a:Tx}:(σ.clear a).tmps.length=σ.tmps.length:=by unfold St.clear;split<;>simp
def ja(a:Tx):∀(l:List (Option (Tk))) (i:Nat),(gV a l i).length=l.length
 | [],_=>rfl
 |_ :: l,i=>by simp[gV,ja a l]
def kP{σ:St}{a:Tx}:(σ.clear a).loc.length=σ.loc.length:=by unfold St.clear;split<;>simp[ja]
def yQ{σ:St}{a:Tx}:(σ.clear a).heap=σ.heap:=by unfold St.clear;split<;>rfl
def yR(σ:St)(a:Tx):Like a .nil σ (σ.clear a):=
 ⟨pZ,kP,λ_ _ h b=>iL h (tQ b),λ_ _ _ h b=>iL h (tP b),λ_ _ h b=>nJ h b,λ_ h c=>G9 h (by rw[kP]at c;exact c)⟩
def Jq{σ:St}{g a d:Tx}(c:∀s∈a,s∈d):Fr g a d σ (σ.clear a):=
 ⟨pZ,kP,λ_ _ h _ b=>iL h (tQ b),λ_ _ _ h _ b=>iL h (tP b),λs _ h b=>nJ h λe=>b (c s e),
  λs f h b=>⟨f,nJ h b,rfl⟩⟩
def Gd(hA:AlgOk A X.C Sg X.T holds abs){ops:Tl}:∀(l:Tu) (i:Nat) (j:List (TH)) (c:Env) (h:HT) (σ:St) (K:Env->HT->List HT->R),l <+: ops.toList.drop i->Rp c σ->abs h=σ.heap->holds (Sx.opsM A X Sg ops l j c h K)->
  ∃σ' a g b,Sx.opsTr X.C (uB X.C) X.pts ops (List.range' i l.length) σ (b.map abs) σ'/\Rp a σ'/\abs g=σ'.heap/\Fr (MW l) (KA X.pts l) (L7 X.pts l) σ σ'/\holds (K a g b)
 | [],i,j,c,h,σ,K,_,m,n,p=>⟨σ,c,h,[],⟨rfl,rfl⟩,m,n,.refl _ _ _ _,p⟩
 |o :: l,i,j,c,h,σ,K,b,m,n,p=>by
  have k:ops[i]?=some o:=by
   obtain⟨t,b⟩:=b;have:(ops.toList.drop i)[0]?=some o:=by rw[←b];rfl
   simpa using this
  obtain⟨σ₁,c₁,h₁,E,F,s,G,H⟩:=xO (K:=λc h=>Sx.opsM A X Sg ops l j.tail c h λa g b=>K a g (h :: b)) hA m n k p;have q:l <+: ops.toList.drop (i+1):=by
   obtain⟨t,b⟩:=b;exact⟨t,by rw[←LS,←b];rfl⟩
  obtain⟨σ',a,g,r,w,y,z,B,D⟩:=Gd hA l (i+1) j.tail c₁ h₁ σ₁ _ q F s H;refine⟨σ',a,g,h₁ :: r,⟨σ₁,r.map abs,E,by rw[A5,s],w⟩,y,z,?_,D⟩;have u:Fr (MW (o :: l)) (KA X.pts (o :: l)) (L7 X.pts (o :: l)) σ σ₁:=G.mono (bv (by simp)) (bv (by simp)) (bv (by simp));have d:∀(f:Oper->To) (i:Nat),i∈l.filterMap f->i∈(o :: l).filterMap f:=by
   intro f i k;rw[qaH]at k ⊢;obtain⟨x,v,e⟩:=k;exact⟨x,by simp[v],e⟩
  exact u.trans (B.mono (d _) (d _) (d _))
def Nr(h0:HT)(a:List HT)(p:Nat×Nat):abs (Sx.atM h0 a p)=Sx.atM (abs h0) (a.map abs) p:=by
 unfold Sx.atM;rw[←A5,List.getD_eq_getElem?_getD,List.getD_eq_getElem?_getD,AX];cases (h0 :: a)[match Nat.ble p.1 p.2 with|true=>p.2+1|false=>p.2]?<;>rfl
def L5(hA:AlgOk A X.C Sg X.T holds abs){ops:Tl}{g:List (TH)}{a:Env}{h0:HT}{c:List HT}{K:R}{σ σ':St}(f:Rp a σ')(b:abs h0=σ.heap):∀ {l:List (Nat×Nat)},holds (Sx.reM A X Sg ops g a h0 c K l)->
  Sx.AgainAt X.C (uB X.C) X.pts ops σ (c.map abs) σ' l/\holds K
 | [],h=>⟨λp hp=>(by cases hp),h⟩
 |q :: l,h=>by
  have h:holds (match ops[q.1]? with
   |some o=>match o.dst with
    |some d=>UT A X Sg ops o (g.getD q.1 []) a (Sx.atM h0 c q) λe _=>Sx.samS A (a.tm.getD d .no) (e.tm.getD d .no) (Sx.reM A X Sg ops g a h0 c K l)
    |none=>A.fail
   |none=>A.fail):=h
  split at h
  next o i=>
   split at h
   next d j=>
    obtain⟨σ₂,a₂,h₂,k,m,w,_,n⟩:=xO (σ:={ σ' with heap:=Sx.atM σ.heap (c.map abs) q }) hA (f.heap _) (by rw[Nr (abs:=abs),b]) i h;obtain⟨⟨x,t,u⟩,v⟩:=Sx.samS_ok hA f m n;obtain⟨r,s⟩:=L5 hA f b v;refine⟨λp hp=>?_,s⟩;rcases qas.1 hp with rfl|hp
    ·exact⟨σ₂,k,o,d,x,i,j,t,u⟩
    ·exact r p hp
   ·exact absurd h hA.fail
  ·exact absurd h hA.fail
def Ot(hA:AlgOk A X.C Sg X.T holds abs){P:Dr}
  (W:Sx.DrOk X.C P) :
  ∀(c:AC) (g:Env) (h:HT) (σ:St) (r:KN R HT) (B:Exit->KN R HT),Rp g σ->abs h=σ.heap->holds (exec A X Sg P c g h r B)->V6 X holds abs (er X c) σ r B:=by
 intro c
 induction c with
 |skip=>intro g h σ r B hR ha k;exact⟨.normal,σ,g,h,.skip,hR,ha,.refl _ _ _ _,.inl ⟨rfl,k⟩⟩
 |ret=>intro g h σ r B hR ha k;exact⟨.ret,σ,g,h,.ret,hR,ha,.refl _ _ _ _,.inr ⟨by simp,k⟩⟩
 |exit id=>intro g h σ r B hR ha k;exact⟨.exit id,σ,g,h,.exit,hR,ha,.refl _ _ _ _,.inr ⟨by simp,k⟩⟩
 |label l=>intro g h σ r B hR ha k;exact⟨.normal,σ,g,h,.label,hR,ha,.refl _ _ _ _,.inl ⟨rfl,k⟩⟩
 |seq a b ad ag=>
  intro g h σ r B hR ha k;obtain⟨e,σ₁,g₁,h₁,I,L,O,V,w⟩:=ad g h σ _ _ hR ha k;have m1:Fr (DD (er X (.seq a b))) (aQ X.pts (er X (.seq a b))) (CB X.pts (er X (.seq a b))) σ σ₁:=
   V.mono (λi s=>D9 _ s) (λi s=>D9 _ s) (λi s=>D9 _ s)
  rcases w with⟨rfl,w⟩|⟨w,q6⟩
  ·obtain⟨e',σ',z,J,G,H,N,S,F⟩:=ag g₁ h₁ σ₁ r B L O w;exact⟨e',σ',z,J,.seq I G,H,N,m1.trans (S.mono (λi s=>LV _ s) (λi s=>LV _ s) (λi s=>LV _ s)),F⟩
  ·exact⟨e,σ₁,g₁,h₁,.seqX I w,L,O,m1,.inr ⟨w,q6⟩⟩
 |scope b ih=>
  intro g h σ r B hR ha k;obtain⟨e,σ₁,g₁,h₁,I,q⟩:=ih g h σ r B hR ha k;exact⟨e,σ₁,g₁,h₁,.scope I,q⟩
 |region id D E hs j=>
  intro g h σ r B hR ha k;have v:holds (match drX P E X.pts D with
   |none=>A.fail
   |some ps=>uy A X.pts (.region id D E) j g r λr=>Sx.regE A X Sg D hs ps g h r):=k
  split at v
  ·exact absurd v hA.fail
  next ps hd=>
   refine si hA (c:=.region id D E) rfl rfl rfl hR (λr k=>?_) v;unfold Sx.regE at k;cases K:Sx.manyOf ps with
   |some l=>
    rw[K]at k;simp only at k;obtain⟨σ',z,J,hl,G,H,N,S,F⟩:=Gd hA D.toList 0 hs g h σ _ (by rw[Gl];exact qdS _) hR ha k;obtain⟨F,p6⟩:=L5 (σ:=σ) hA H ha F;have G:Sx.opsTr X.C (uB X.C) X.pts D (List.range D.size) σ (hl.map abs) σ':=by
     rw[U9];simpa using G
    refine⟨.normal,σ',z,J,?_,H,N,S,.inl ⟨rfl,p6⟩⟩;cases E with
    |false=>cases hd;cases K
    |true=>
     have M:=W _ _ _ hd;rw[K]at M;obtain⟨n,g1⟩:=Sx.opsTr_at G;obtain⟨m,g2⟩:=Sx.again_at F;exact .drawA (M (max n m) σ σ' _ (g1 _ (VV _ _)) (g2 _ (qdm _ _)))
   |none=>
    rw[K]at k;simp only at k;cases Q:Sx.splOf ps with
    |none=>
     rw[Q]at k;simp only at k;obtain⟨σ',z,J,G,H,N,S,F⟩:=Pz hA D.toList 0 hs g h σ rfl hR ha k;obtain⟨F,p6⟩:=Sx.sepK_ok hA H F;have G:bJ X.C (uB X.C) X.pts D (List.range D.size) σ σ':=by
      rw[U9];simpa using G
     refine⟨.normal,σ',z,J,?_,H,N,S,.inl ⟨rfl,p6⟩⟩;cases E with
     |false=>exact .region G
     |true=>
      have M:=W _ _ _ hd;rw[K]at M;simp only at M;rw[Q]at M;exact .draw (λn hn=>M n _ _ hn F) G
    |some q=>
     rw[Q]at k;simp only at k;obtain⟨σ₁,g₁,h₁,G,H,N,S,F⟩:=nq hA (D.toList.take (q.2+1)) 0 hs g h σ (by rw[Gl];exact List.take_prefix _ _) hR ha k;unfold Sx.reK at F;split at F
     next o ho=>
      split at F
      next d aE=>
       obtain⟨σ₂,g₂,h₂,I,L,O,_,w⟩:=xO hA H N ho F;simp only at w;split at w
       next x y hx hy=>
        obtain⟨u,e1,e2⟩:=hA.opt _ _ w;have e1:=Sx.eqFn_ok e1;subst e1;have sm:Sx.SameAt D q.1 σ₁ σ₂:=⟨o,d,x,ho,aE,Sx.entF_ok H hx,Sx.entF_ok L hy⟩;obtain⟨σ',z,J,r1,r2,r3,r4,r5⟩:=nq hA (D.toList.drop (q.2+1)) (q.2+1) _ g₁ h₁ σ₁ (qdS _) H N e2;refine⟨.normal,σ',z,J,?_,r2,r3,?_,.inl ⟨rfl,r5⟩⟩
        ·cases E with
         |false=>cases hd;cases Q
         |true=>
          have M:=W _ _ _ hd;rw[K]at M;simp only at M;rw[Q]at M;exact .drawS (λn h1 h2 h3=>M n _ _ _ _ h1 h2 sm h3) G I r1
        ·refine(S.mono (λi s=>?_) (λi s=>?_) (λi s=>?_)).trans (r4.mono (λi s=>?_) (λi s=>?_) (λi s=>?_))
         all_goals
          replace s:=qaH.1 s
          obtain⟨o,ho,e⟩:=s;exact qaH.2 ⟨o,(by first|exact IM ho|exact LX ho),e⟩
       ·exact absurd w hA.fail
      ·exact absurd F hA.fail
     ·exact absurd F hA.fail
 |cond c a b j ad ag=>
  intro g h σ r B hR ha k;have v:holds (match sval g c with
   | .st (.leaf (.l true))=>exec A X Sg P a g h r B
   | .st (.leaf (.l false))=>exec A X Sg P b g h r B
   | .st (.leaf (.b t))=>uy A X.pts (er X (.cond c a b j)) j g r λr=>A.cond t (exec A X Sg P a g h r B) (exec A X Sg P b g h r B)
   |_=>A.fail):=k
  have ga:∀ {r},ke σ.tmps c = .bool true->holds (exec A X Sg P a g h r B)->V6 X holds abs (er X (.cond c a b j)) σ r B:=by
   intro r hc k;obtain⟨e,σ₁,g₁,h₁,I,L,O,V,w⟩:=ad g h σ r B hR ha k;exact⟨e,σ₁,g₁,h₁,.cond hc I,L,O,V.mono (λi s=>D9 _ s) (λi s=>D9 _ s) (λi s=>D9 _ s),w⟩
  have gb:∀ {r},ke σ.tmps c = .bool false->holds (exec A X Sg P b g h r B)->V6 X holds abs (er X (.cond c a b j)) σ r B:=by
   intro r hc k;obtain⟨e,σ₁,g₁,h₁,I,L,O,V,w⟩:=ag g h σ r B hR ha k;exact⟨e,σ₁,g₁,h₁,.cond hc (show uEx X.C X.pts (if false=true then er X a else er X b) σ e σ₁ by rw[ra (by simp)];exact I),L,O,V.mono (λi s=>LV _ s) (λi s=>LV _ s) (λi s=>LV _ s),w⟩
  split at v
  next e=>exact ga (hR.sval e (by simp)).1 v
  next e=>exact gb (hR.sval e (by simp)).1 v
  next t e=>
   have h1:=(hR.sval e (by simp)).1;refine si hA (c:=er X (.cond c a b j)) rfl rfl rfl hR (λr k=>?_) v;rcases hA.cond _ _ _ k with⟨ht,Y⟩|⟨ht,Y⟩
   ·exact ga (by rw[h1,ht];rfl) Y
   ·exact gb (by rw[h1,ht];rfl) Y
  ·exact absurd v hA.fail
 |block id b j ih=>
  intro g h σ r B hR ha k;refine si hA (c:=er X b) rfl rfl rfl hR (λr k=>?_) (show holds (uy A X.pts (er X b) j g r λr=>exec A X Sg P b g h r λe=>match ud e id with
   |true=>r
   |false=>B e)from k)
  obtain⟨e,σ₁,g₁,h₁,I,L,O,V,w⟩:=ih g h σ _ _ hR ha k;refine⟨jk id e,σ₁,g₁,h₁,.block I,L,O,V,?_⟩;rcases w with⟨rfl,w⟩|⟨w,q6⟩
  ·exact .inl ⟨rfl,w⟩
  ·cases e with
   |normal=>exact absurd rfl w
   |exit i=>
    by_cases s:i=id
    ·subst s;left;simp only[jk,if_true,true_and];simpa[ud]using q6
    ·right;simp only[jk,ra s];refine⟨by simp,?_⟩;have:Nat.beq i id=false:=by
      rw[←CO];intro h;exact s (AW h)
     simpa[ud,this]using q6
   |_=>exact .inr ⟨by simp[jk],by simpa[ud,jk]using q6⟩
 |loop b lv ih=>
  intro g h σ r B hR ha k;have v:holds (match pk g lv with
   |none=>A.fail
   |some U=>match lv.rows.all λp=>!(aQ X.pts (er X b)).contains p.1 with
    |false=>A.fail
    |true=>A.loop (λar U h=>reE A X.pts (er X b) .nil lv g U λg=>exec A X Sg P b g h (λg h=>match pk g lv with
     |some U=>ar U h
     |none=>A.fail) B) U h):=k
  split at v
  ·exact absurd v hA.fail
  next a3 a0=>
   split at v
   ·exact absurd v hA.fail
   next ay=>
    have Z:∀p∈lv.rows,p.1∉aQ X.pts (er X b):=by
     intro p hp;have:=qac.1 ay p hp;simpa using this
    obtain⟨it,i0,i1,n,hn⟩:=hA.loop _ _ _ v;have ap:∀(n:Nat) (U:TB) (h:HT) (τ:St) (gτ:Env),Rp gτ τ->Fr (DD (er X b)) (aQ X.pts (er X b)) (CB X.pts (er X b)) σ τ->pk gτ lv=some U->abs h=τ.heap->holds (it n U h)->
      ∃e σ' z J,uEx X.C X.pts (.loop (er X b)) τ e σ'/\e≠.normal/\Rp z σ'/\abs J=σ'.heap/\Fr (DD (er X b)) (aQ X.pts (er X b)) (CB X.pts (er X b)) σ σ'/\holds (B e z J):=by
     intro n
     induction n with
     |zero=>intro U h τ gτ _ _ _ _ hh;exact absurd hh (i0 _ _)
     |succ n a2=>
      intro U h τ gτ hRτ hF hp haτ hh;rw[i1]at hh;obtain⟨ax,g1,g2⟩:=L4 hA hR hRτ hF hp (yR τ _) (.inr Z) hh;obtain⟨e,σ₁,g₁,h₁,I,L,O,V,w⟩:=ih ax h (τ.clear (aQ X.pts (er X b))) _ _ g1 (by rw[yQ];exact haτ) g2;have an:Fr (DD (er X b)) (aQ X.pts (er X b)) (CB X.pts (er X b)) σ σ₁:=(hF.trans (Jq (NP _ _))).trans V;rcases w with⟨rfl,w⟩|⟨w,q6⟩
      ·simp only at w;split at w
       next a4 a1=>
        obtain⟨e',σ',z,J,G,H,N,S,F,p6⟩:=a2 a4 h₁ σ₁ g₁ L an a1 O w;exact⟨e',σ',z,J,.loop I G,H,N,S,F,p6⟩
       ·exact absurd w hA.fail
      ·exact⟨e,σ₁,g₁,h₁,.loopX I w,w,L,O,an,q6⟩
    obtain⟨e',σ',z,J,G,H,N,S,F,p6⟩:=ap n a3 h σ g hR (.refl _ _ _ _) a0 ha hn;exact⟨e',σ',z,J,G,N,S,F,.inr ⟨H,p6⟩⟩
 |rangeFunc f κ a5=>
  intro g h σ r B hR ha k;exact absurd k hA.fail
end
end Sx
namespace Sx
section
variable [Val] [Kno] {R HT:Type} {A:Alg R HT} {X:Ctxt} {Sg:Tc} {holds:R->Prop} {abs:HT->Tp}
def dQ(ls:TB):Prop:=∀l∈ls,match l with
 | .v x=>aC x=true
 |_=>True
def zd{xs:List S0}(h:dQ (cR xs)):∀x∈xs,x.good:=by
 intro x a l b;have c:l.lf∈cR xs:=by
  induction xs with
  |nil=>cases a
  |cons y e d=>
   simp only[cR,qar,qax];rcases qas.1 a with rfl|a
   ·exact .inl ⟨l,b,rfl⟩
   ·exact .inr (d (λl b=>h l (by simp only[cR,qar];exact .inr b)) a)
 have:=h _ c;cases l<;>first|trivial|exact this
def qx:∀ {xs:List S0},(∀x∈xs,x.good)->dQ (cR xs)
 | [],_,l,hl=>by cases hl
 |x :: xs,h,l,hl=>by
  simp only[cR,qar,qax]at hl;rcases hl with⟨c,a,rfl⟩|hl
  ·have:=h x (by simp) c a;cases c<;>first|trivial|exact this
  ·exact qx (λy b=>h y (by simp[b])) l hl
def gU{C:Cfg}{T:Tq}(hA:AlgOk A C Sg T holds abs):∀ {cs:List SL} {K:R},holds (Ey A cs K)->(∀c∈cs,bh c.val=true)/\holds K
 | [],K,h=>⟨by simp,h⟩
 |c :: cs,K,h=>by
  cases c with
  |v x=>
   have h':holds (A.opt (BL x) λ_=>Ey A cs K):=h;obtain⟨u,e,f⟩:=hA.opt _ _ h';obtain⟨a,d⟩:=gU hA f;refine⟨qbA.2 ⟨?_,a⟩,d⟩;unfold BL at e;split at e
   ·assumption
   ·cases e
  |i k n=>obtain⟨a,d⟩:=gU (cs:=cs) (K:=K) hA h;exact⟨qbA.2 ⟨rfl,a⟩,d⟩
  |b t=>obtain⟨a,d⟩:=gU (cs:=cs) (K:=K) hA h;exact⟨qbA.2 ⟨rfl,a⟩,d⟩
  |l t=>obtain⟨a,d⟩:=gU (cs:=cs) (K:=K) hA h;exact⟨qbA.2 ⟨rfl,a⟩,d⟩
def G5{C:Cfg}{T:Tq}(hA:AlgOk A C Sg T holds abs){a:Bool}{x:S0}{K:R}(j:x.good)(h:holds (gF A a x K)):(a=true->aR x.val=true)/\holds K:=by
 unfold gF at h;split at h
 next d=>
  obtain⟨e,f⟩:=gU hA h;refine⟨λ_=>?_,f⟩;simp only[S0.val,aR,qac,qax];rintro _ ⟨c,g,rfl⟩;exact e c g
 next b=>
  refine⟨λi=>?_,h⟩;cases x with
  |agg d=>exact absurd rfl (b d i)
  |leaf l=>exact(fi.1 (SL.val_good (j l (by simp[S0.cells])))).2.1
def Gs(hA:AlgOk A X.C Sg X.T holds abs){i:Env}{σ:St}{h:HT}(H:Rp i σ)(Y:abs h=σ.heap){b:Bool}:∀(d:List ResultVar) (sks:TH) (e:TB) (K:TB->HT->R),holds (Dh A X b i h d sks e K)->
  ∃ys,cZ ys sks=true/\(∀y∈ys,y.good)/\(b=true->∀y∈ys,aR y.val=true)/\ys.length=d.length/\db X.C σ d=some (av ys)/\holds (K (e++cR ys) h)
 | [],sks,e,K,j=>by
  cases sks with
  |nil=>
   have c:holds (K e h):=j;exact⟨[],rfl,by simp,by simp,rfl,rfl,by rw[cR,Cx];exact c⟩
  |cons _ _=>exact absurd j hA.fail
 |M :: d,sks,e,K,j=>by
  cases sks with
  |nil=>exact absurd j hA.fail
  |cons k sks=>
   have q:∀x:S0,x.is k=true->x.good->fq X.C σ M=some x.val->holds (gF A b x (Dh A X b i h d sks (e++x.cells.map SL.lf) K))->
     ∃ys,cZ ys (k :: sks)=true/\(∀y∈ys,y.good)/\(b=true->∀y∈ys,aR y.val=true)/\ys.length=(M :: d).length/\db X.C σ (M :: d)=some (av ys)/\holds (K (e++cR ys) h):=by
    intro x o Z J j;obtain⟨h1,G⟩:=G5 hA Z j;obtain⟨ys,B,D,a3,a4,a5,a6⟩:=Gs hA H Y d sks _ K G;refine⟨x :: ys,by simp[cZ,o,B],qbA.2 ⟨Z,D⟩,λhm=>qbA.2 ⟨h1 hm,a3 hm⟩,by simp[a4],?_,by simpa[cR]using a6⟩;simp only[db,J,a5];rfl
   cases M with
   |tmp t=>
    have c:holds (match i.tm.getD t .no with
     | .st x=>match x.is k with
      |true=>gF A b x (Dh A X b i h d sks (e++x.cells.map SL.lf) K)
      |false=>A.fail
     |_=>A.fail):=j
    split at c
    next x o=>
     obtain⟨F,g2⟩:=H.at o (by simp);split at c
     next u=>
      exact q x u g2 (by simp[fq,List.getD_eq_getElem?_getD,F];rfl) c
     ·exact absurd c hA.fail
    ·exact absurd c hA.fail
   |cell a t=>
    have c:holds (match (generalizing:=false) Ao X.C.P t with
     |some g=>
      let n:=if g then X.C.P.cellsOf t else 1
      match (generalizing:=false) i.tm.getD a .no with
      | .lad s w=>match (sV i s).bind (λm=>(BM m w n).bind (Db g))with
       |some x=>match x.is k with
        |true=>gF A b x (Dh A X b i h d sks (e++x.cells.map SL.lf) K)
        |false=>A.fail
       |none=>A.fail
      | .st (.leaf (.v p))=>match (generalizing:=false) g,k with
       |true,.agg _=>A.peek (.ld n p) h λm=>IC A k m λx r=>A.uc0 r (gF A b x (Dh A X b i h d sks (e++x.cells.map SL.lf) K))
       |false,.leaf _=>A.peek (.ld n p) h λm=>IC A k m λx r=>A.uc0 r (gF A b x (Dh A X b i h d sks (e++x.cells.map SL.lf) K))
       |_,_=>A.fail
      |_=>A.fail
     |none=>A.fail):=j
    clear j;split at c
    next g I=>
     simp only at c;split at c
     next s w z=>
      obtain⟨F,_⟩:=H.at z (by simp);split at c
      next x o=>
       obtain⟨m,U,o⟩:=qaA.1 o;obtain⟨ds,hd,o⟩:=qaA.1 o;obtain⟨r1,r2,_⟩:=kw H U;obtain⟨c1,c2⟩:=nN hd;obtain⟨v,v1,v2⟩:=da I c1;obtain⟨m1,m2⟩:=oJ o;split at c
       next u=>
        have hv:x.val=v:=by
         rcases m2 with⟨B,D⟩|⟨B,D⟩<;>rcases v2 with⟨E,L⟩|⟨E,L⟩
         ·rw[D,L]
         ·rw[B]at E;cases E
         ·rw[B]at E;cases E
         ·rw[D]at L;simpa using L
        refine q x u (λl z=>?_) ?_ c
        ·rw[m1]at z;exact r2 l (c2 l z)
        ·simp only[fq,List.getD_eq_getElem?_getD,F,Ie,SV.val,r1,v1,hv]
       ·exact absurd c hA.fail
      ·exact absurd c hA.fail
     next p z=>
      obtain⟨F,_⟩:=H.at z (by simp);have f:g=jz k->holds (A.peek (.ld (if g then X.C.P.cellsOf t else 1) p) h λm=>IC A k m λx r=>A.uc0 r (gF A b x (Dh A X b i h d sks (e++x.cells.map SL.lf) K)))->
        ∃ys,cZ ys (k :: sks)=true/\(∀y∈ys,y.good)/\(b=true->∀y∈ys,aR y.val=true)/\ys.length=(ResultVar.cell a t :: d).length/\db X.C σ (.cell a t :: d)=some (av ys)/\holds (K (e++cR ys) h):=by
       intro V j;obtain⟨m,G,O⟩:=hA.peek _ _ _ j;simp only[Pk.run]at G;rw[Y]at G;obtain⟨id,w,vs,rfl,W,h4⟩:=Uj G;rw[tL]at W;obtain⟨v,h5,N⟩:=da I h4;rw[V]at N;obtain⟨x,r,q1,q2,q3,Q⟩:=vh hA O;obtain⟨U,S⟩:=hA.uc0 _ _ Q;rw[U,Cx]at q1;rw[q1]at N;refine q x q2 q3 ?_ S;rw[qz q2 N];simp only[fq,List.getD_eq_getElem?_getD,F,Ie,SV.val,S0.val,SL.val,W,A7,h5]
      split at c
      ·exact f rfl c
      ·exact f rfl c
      ·exact absurd c hA.fail
     ·exact absurd c hA.fail
    ·exact absurd c hA.fail
structure FnIs(X:Ctxt)(Sg:Tc)(f:TK)(fn:Fn1):Prop where
 is:∃g,X.C.P.funcs[f]?=some g/\g.body=some (er X fn.code)/\((g.name == "runtime.NumGoroutine")||X.C.opq f)=false/\g.ntmps=fn.nt/\g.results.toList=fn.rvs
 pts:X.pts=X.C.pts f
 sg:Sg f=some fn.sg
def wj{ys:List S0}(hg:∀y∈ys,y.good)(d:1<ys.length->∀y∈ys,aR y.val=true):noLoc (gq (av ys))=true:=by
 match ys with
 | []=>rfl
 | [y]=>exact S0.noLoc (hg y (by simp))
 |a :: b :: l=>
  have h:=d (by simp);have e:gq (av (a :: b :: l)) = .tuple (av (a :: b :: l)).toArray:=rfl;rw[e];simp only[Am.noLoc,qac];intro v c;simp only[av,qax]at c;obtain⟨y,f,rfl⟩:=c;exact h y f
def Mu{xs:List S0}(hg:∀x∈xs,x.good)(d:Nat)(H:Tp) :
  Rp ⟨xs.map .st++List.replicate (d - xs.length) .no,List.replicate d .nil⟩ { tmps:=av xs++List.replicate (d - (av xs).length) undef,loc:=List.replicate d none,heap:=H }:=by
 refine⟨by simp[av],λi s a=>?_,by simp,λi r c=>?_⟩
 ·rw[qdp]at a;split at a
  next b=>
   simp only[A9]at b;simp only[AX,qag]at a;obtain⟨x,e,rfl⟩:=a;refine⟨?_,hg x (Ap e)⟩;rw[BZ (by simpa[av]using b)];simp[av,e,SV.val]
  ·rw[IG]at a;split at a
   ·cases a;trivial
   ·cases a
 ·simp only[IG]at c;split at c
  ·rename_i b;cases c
   simp[LR.ok,b]
  ·cases c
def rL(hA:AlgOk A X.C Sg X.T holds abs){s:Dr}
  (k:Sx.DrOk X.C s)
  {f:TK} {a:Fn1} (l:FnIs X Sg f a) {ls:TB} {h:HT} {K:TB->HT->R} (p:dQ ls) (m:holds (ak A X Sg s a ls h K)) :
  ∃c h',aD X.C Sg f ls (abs h) c (abs h')/\dQ c/\holds (K c h'):=by
 obtain⟨g,G,H,I,f4,J⟩:=l.is;obtain⟨y,r,t,F,n⟩:=tt hA m;obtain⟨N,o⟩:=hA.un0 _ _ n;rw[N,Cx]at t;subst t;have u:=zd p;have L:=Mu u a.nt (abs h);obtain⟨e,σ',j,h',v,O,w,_,d⟩:=Ot hA k a.code _ h _ _ _ L rfl o;have b:(e = .normal∨e = .ret)->holds (Dh A X (Nat.blt 1 a.rvs.length) j h' a.rvs a.sg.rs [] K)->∃c h',aD X.C Sg f (cR y) (abs h) c (abs h')/\dQ c/\holds (K c h'):=by
  intro M m;obtain⟨z,B,i,D,P,E,q⟩:=Gs hA O w a.rvs a.sg.rs [] K m;rw[AG]at q;refine⟨cR z,h',⟨a.sg,y,z,l.sg,⟨F,rfl,u⟩,⟨B,rfl,i⟩,?_⟩,qx i,q⟩;rw[w];refine pV.intro G H I ?_ M (by rw[J];exact E) (wj i λQ=>D (by rw[BW];omega));rw[l.pts]at v;simpa[lW,f4]using v
 rcases d with⟨rfl,d⟩|⟨d,x⟩
 ·exact b (.inl rfl) d
 ·cases e with
  |ret=>exact b (.inr rfl) x
  |_=>exact absurd x hA.fail
end
end Sx
namespace Sx
section
variable {P:TD}
end
end Sx
namespace Sx
inductive MC where
 |no
 |row (s:Nat) (w:Bool)
 |hr
 |hw
 |neu (f:TK)
abbrev _root_.Tb:=FuncId->Option Nat
def aw(N:Tb)(pts:Tx)(o:Oper):Option MC:=
 match o.op with
 | .move _ | .assign _ | .pick _ _ _ | .build _ _ | .nilCheck _ | .unOp _ _ _ | .convert _ _ _ | .fieldAddr _ _ _ | .field _ _ _ | .indexAddr _ _ _ | .index _ _ _ | .extract _ _=>some .no
 | .binOp _ _ _ _ _=>some .no
 | .makeFunc _ _ _=>some .no
 | .load _ a=>match mE pts a with
  |0=>some .hr
  |1=>some .no
  |s+2=>some (.row s false)
 | .store _ a _=>match mE pts a with
  |0=>some .hw
  |1=>none
  |s+2=>some (.row s true)
 | .alloc _ | .box _ _=>match o.dst with
  |some d=>if pts.getD d 0=d+2 then some (.row d true)else some .hw
  |none=>none
 | .buildSlice _ _ _ | .makeMap _ _ | .makeSlice _ _ _ | .mapUpdate _ _ _ _ | .mapEntry _ _ _ | .entryStore _ _ _ _ | .insert _ _ _ _=>some .hw
 | .lookup _ _ _ _ | .slice _ _ _ _ _=>some .hr
 | .call c=>match c.callee with
  | .builtin b=>match b with
   | .append | .copy | .delete | .clear=>some .hw
   | .len=>some .hr
   | .cap | .min | .max=>some .no
   |_=>none
  | .value f=>match f with
   | .func g=>some (if N g=some (2*c.args.size)then .neu g else if N g=some (2*c.args.size+1)then .hr else .hw)
   |_=>some .hw
  |_=>none
 |_=>none
def bj(ops:Tl)(o:Oper):Tx:=
 (o.op.operands.toList.filterMap λx=>match x with
  | .tmp t=>some t
  |_=>none) ++
 match o.guard with
 |some (j,_)=>((ops[j]?).bind (·.dst)).toList
 |none=>[]
section
variable [Val]
def execOp_congr{ρ ρ':Tf}{o:Oper}(N:Tb)(pts:Tx)(D:aw N pts o≠none)(h:∀x∈o.op.operands.toList,ρ x=ρ' x):execOp ρ o=execOp ρ' o:=by
 obtain⟨dst,A,C,pos,z,guard⟩:=o;have l:∀ {j:Array Operand},(∀x∈j.toList,ρ x=ρ' x)->j.map ρ=j.map ρ':=by
  intro j e;apply qbj.1;rw[II,II];exact Ea e
 have w:∀ {j:Array (Nat×Operand)},(∀x∈j.toList.map (·.2),ρ x=ρ' x)->(j.map λ(i,x)=>(i,ρ x))=(j.map λ(i,x)=>(i,ρ' x)):=by
  intro j e;apply qbj.1;rw[II,II];refine Ea λp E=>?_;show(p.1,ρ p.2)=(p.1,ρ' p.2);rw[e p.2 (qax.2 ⟨p,E,rfl⟩)]
 have g:∀ {r:Tg},(∀x∈r.toArray.toList,ρ x=ρ' x)->r.map ρ=r.map ρ':=by
  intro r e;cases r with
  |none=>rfl
  |some y=>simp[e y (by simp)]
 cases A<;>simp only[aw,ne_eq,not_true_eq_false,not_false_eq_true,reduceCtorEq]at D<;>simp only[Op.operands]at h
 case move x=>simp only[execOp,h x (by simp)]
 case assign x=>simp only[execOp,h x (by simp)]
 case pick c a b=>simp only[execOp,h c (by simp),h a (by simp),h b (by simp)]
 case alloc t=>rfl
 case box t x=>simp only[execOp,h x (by simp)]
 case build t ps=>simp only[execOp,w (by simpa using h)]
 case buildSlice t n ps=>simp only[execOp,w (by simpa using h)]
 case load t a=>simp only[execOp,h a (by simp)]
 case store t a x=>simp only[execOp,h a (by simp),h x (by simp)]
 case nilCheck x=>simp only[execOp,h x (by simp)]
 case binOp A t x y yt=>simp only[execOp,h x (by simp),h y (by simp)]
 case unOp A t x=>simp only[execOp,h x (by simp)]
 case convert s d x=>simp only[execOp,h x (by simp)]
 case makeFunc fn a b=>simp only[execOp,l (λx e=>h x (by simp;exact .inl (by simpa using e))),l (λx e=>h x (by simp;exact .inr (by simpa using e)))]
 case makeMap t r=>simp only[execOp,g h]
 case makeSlice t a b=>simp only[execOp,h a (by simp),h b (by simp)]
 case slice t x a b c=>
  simp only[Vh,qar]at h;simp only[execOp,h x (by simp),g (λy u=>h y (.inl (.inl (.inr u)))),g (λy u=>h y (.inl (.inr u))),g (λy u=>h y (.inr u))]
 case fieldAddr t x f=>simp only[execOp,h x (by simp)]
 case field t x f=>simp only[execOp,h x (by simp)]
 case indexAddr t x i=>simp only[execOp,h x (by simp),h i (by simp)]
 case index t x i=>simp only[execOp,h x (by simp),h i (by simp)]
 case lookup t x i ok=>simp only[execOp,h x (by simp),h i (by simp)]
 case mapUpdate t m k v=>simp only[execOp,h m (by simp),h k (by simp),h v (by simp)]
 case insert t m k v=>simp only[execOp,h m (by simp),h k (by simp),h v (by simp)]
 case mapEntry t m k=>simp only[execOp,h m (by simp),h k (by simp)]
 case entryStore t m s v=>simp only[execOp,h m (by simp),h s (by simp),h v (by simp)]
 case extract t i=>simp only[execOp,h t (by simp)]
 case call c=>
  have q:resolve ρ c C=resolve ρ' c C:=by
   unfold resolve;simp only[Call.operands,Vh,qar]at h;rw[l (λx e=>h x (.inr e))];cases B:c.callee with
   |builtin b=>rfl
   |value f=>simp only[B]at h ⊢;rw[h f (.inl (by simp))]
   |invoke r m=>simp only[B]at h ⊢;rw[h r (.inl (by simp))]
  simp only[execOp,q]
def nU{C:Cfg}{ρ ρ':Tf}{o:Oper}(N:Tb)(pts:Tx)(H:aw N pts o≠none)(h:∀x∈o.op.operands.toList,ρ x=ρ' x):aq C pts ρ o=aq C pts ρ' o:=by
 have e:=execOp_congr N pts H h;have w:∀(f:Value->Bool),(o.op.operands.toList.all λx=>f (ρ x))=(o.op.operands.toList.all λx=>f (ρ' x)):=by
  intro f;rw[IK,qac,qac];exact⟨λg x e=>by rw[←h x e];exact g x e,λg x e=>by rw[h x e];exact g x e⟩
 have j:cJ C ρ o=cJ C ρ' o:=by
  unfold cJ;rw[w flat,e]
 have u:∀ {r:Tg},(∀x∈r.toArray.toList,ρ x=ρ' x)->r.map ρ=r.map ρ':=by
  intro r e;cases r with
  |none=>rfl
  |some y=>simp[e y (by simp)]
 have B:∀ {q:Array (Nat×Operand)},(∀x∈q.toList.map (·.2),ρ x=ρ' x)->(q.toList.map λp=>(p.1,ρ p.2))=(q.toList.map λp=>(p.1,ρ' p.2)):=by
  intro q e;refine Ea λp j=>?_;rw[e p.2 (qax.2 ⟨p,j,rfl⟩)]
 have A:∀(f:Value->Bool) {q:Array (Nat×Operand)},(∀x∈q.toList.map (·.2),ρ x=ρ' x)->(q.toList.all λp=>f (ρ p.2))=(q.toList.all λp=>f (ρ' p.2)):=by
  intro f q e;rw[IK,qac,qac];have G:∀p∈q.toList,ρ p.2=ρ' p.2:=λp j=>e p.2 (qax.2 ⟨p,j,rfl⟩);exact⟨λg p j=>by rw[←G p j];exact g p j,λg p j=>by rw[G p j];exact g p j⟩
 obtain⟨dst,F,I,pos,l,guard⟩:=o;cases F<;>simp only[aw,ne_eq,not_true_eq_false,not_false_eq_true,reduceCtorEq]at H<;>simp only[Op.operands]at h
 case move x=>simp only[aq,h x (by simp)]
 case assign x=>simp only[aq,h x (by simp)]
 case pick c a b=>simp only[aq,h c (by simp),h a (by simp),h b (by simp)]
 case alloc t=>rfl
 case box t x=>simp only[aq,h x (by simp)]
 case build t ps=>simp only[aq,B (by simpa using h),A (λv=>!aA v) (by simpa using h)]
 case buildSlice t n ps=>simp only[aq,B (by simpa using h),A (λv=>v.cells.toList.all bg) (by simpa using h)]
 case load t a=>simp only[aq,h a (by simp)]
 case store t a x=>simp only[aq,h a (by simp),h x (by simp)]
 case nilCheck x=>simp only[aq,h x (by simp)]
 case binOp F t x y yt=>simp only[aq,h x (by simp),h y (by simp),j]
 case unOp F t x=>simp only[aq,j]
 case convert s d x=>simp only[aq,j]
 case makeFunc fn a b=>
  have D:a.map ρ=a.map ρ':=qbj.1 (by rw[II,II];exact Ea λx e=>h x (by simp;exact .inl (by simpa using e)));have E:b.map ρ=b.map ρ':=qbj.1 (by rw[II,II];exact Ea λx e=>h x (by simp;exact .inr (by simpa using e)));simp only[aq,D,E]
 case makeMap t r=>simp only[aq,u h]
 case makeSlice t a b=>simp only[aq,h a (by simp),h b (by simp)]
 case slice t x a b c=>
  simp only[Vh,qar]at h;simp only[aq,h x (by simp),u (λy z=>h y (.inl (.inl (.inr z)))),u (λy z=>h y (.inl (.inr z))),u (λy z=>h y (.inr z)),j]
 case fieldAddr t x f=>simp only[aq,h x (by simp)]
 case field t x f=>simp only[aq,h x (by simp)]
 case indexAddr t x i=>simp only[aq,h x (by simp),h i (by simp)]
 case index t x i=>simp only[aq,h x (by simp),h i (by simp)]
 case lookup t x i ok=>simp only[aq,h x (by simp),h i (by simp)]
 case mapUpdate t m k v=>simp only[aq,h m (by simp),h k (by simp),h v (by simp)]
 case insert t m k v=>simp only[aq,h m (by simp),h k (by simp),h v (by simp)]
 case mapEntry t m k=>simp only[aq,h m (by simp),h k (by simp)]
 case entryStore t m s v=>simp only[aq,h m (by simp),h s (by simp),h v (by simp)]
 case extract t i=>simp only[aq,h t (by simp)]
 case call c=>
  simp only[Call.operands,Vh,qar]at h;have D:c.args.toList.map ρ=c.args.toList.map ρ':=Ea λx e=>h x (.inr e);have E:∀b,bc C ρ b (c.args.toList.map ρ) c.argTypes ⟨dst,.call c,I,pos,l,guard⟩=bc C ρ' b (c.args.toList.map ρ') c.argTypes ⟨dst,.call c,I,pos,l,guard⟩:=by
   intro b;unfold bc;rw[D,j]
  simp only[aq,ge];cases J:c.callee with
  |builtin b=>exact E b
  |value f=>simp only[J]at h ⊢;rw[D,h f (.inl (by simp))]
  |invoke r m=>rfl
structure Ef where
 v:Value
 rw:Option (Nat×Option (Tk))
 hp:Option (Tp)
def Ef.on(e:Ef)(dst:Tn)(σ:St):St:=
 ({ tmps:=σ.tmps,loc:=(match e.rw with|some p=>σ.loc.set p.1 p.2|none=>σ.loc),heap:=e.hp.getD σ.heap }:St).put dst e.v
def AL(N:Tb)(pts:Tx)(ops:Tl)(o:Oper)(σ τ:St):Prop:=
 (∀t∈bj ops o,τ.tmps[t]?=σ.tmps[t]?)/\match aw N pts o with
 |some (.row s _)=>τ.loc[s]?=σ.loc[s]?
 |some .hr=>τ.heap=σ.heap
 |some .hw=>τ.heap=σ.heap
 |_=>True
def BH(N:Tb)(B:Below):Prop:=(∀f args H r H',N f=some (2*args.length)->B.call f args H r H'->H'=H/\∀a,B.call f args a r a)/\
 ∀f args H r H',N f=some (2*args.length+1)->B.call f args H r H'->H'=H
def tD(m:Option MC)(e:Ef):Prop:=
 (∀p,e.rw=some p->m=some (.row p.1 true))/\(e.hp≠none->m=some .hw)
def lw{σ τ:St}{x:TG}(h:∀t,x = .tmp t->τ.tmps[t]?=σ.tmps[t]?):ke τ.tmps x=ke σ.tmps x:=by
 cases x with
 |tmp t=>simp[ke,List.getD_eq_getElem?_getD,h t rfl]
 |_=>rfl
def ym{N:Tb}{pts:Tx}{ops:Tl}{o:Oper}{σ τ:St}(h:AL N pts ops o σ τ):∀x∈o.op.operands.toList,ke τ.tmps x=ke σ.tmps x:=by
 intro x b;refine lw λt a=>h.1 t ?_;subst a;simp only[bj,qar,qaH];exact .inl ⟨.tmp t,b,rfl⟩
def mr{N:Tb}{pts:Tx}{ops:Tl}{o:Oper}{σ τ:St}(h:AL N pts ops o σ τ):cw ops τ.tmps o=cw ops σ.tmps o:=by
 unfold cw;split
 ·rfl
 next j a c=>
  cases b:(ops[j]?).bind (·.dst)with
  |none=>rfl
  |some d=>
   simp only[A7];rw[h.1 d (by simp[bj,c,b])]
def AY(N:Tb)(m:Option MC):Eff->Prop
 | .val _=>True
 | .lnew s _=>m=some (.row s true)
 | .lget s _=>m=some (.row s false)
 | .lset s _=>m=some (.row s true)
 | .hget _=>m=some .hr
 | .hop _=>m=some .hw
 | .call f args=>(m=some (.neu f)/\N f=some (2*args.length))∨(m=some .hr/\N f=some (2*args.length+1))∨m=some .hw
 | .yield _ _=>m=some .hw
def eH{N:Tb}{m:Option MC}{x:Ti}{e:Eff}(h:x.map Eff.val=some e):AY N m e:=by
 obtain⟨v,_,rfl⟩:=qag.1 h;trivial
def eh{C:Cfg}{ρ:Tf}{o:Oper}{N:Tb}{m:Option MC}{e:Eff}(h:cJ C ρ o=some e):AY N m e:=by
 unfold cJ at h;split at h
 ·split at h
  ·split at h
   ·cases h;trivial
   ·cases h
  ·cases h
 ·cases h
def OK{N:Tb}{m:Option MC}{a:Ti}{b:Option Eff}{e:Eff}(c:b=some e->AY N m e)(h:oR a b=some e):AY N m e:=by
 unfold oR at h;split at h
 ·cases h;trivial
 ·exact c h
def og{C:Cfg}{N:Tb}{pts:Tx}{o:Oper}{t:TJ}{v:Value}{e:Eff}(ho:(∃y,o.op = .box t y)∨o.op = .alloc t)(h:cI C pts o.dst t v=some e):AY N (aw N pts o) e:=by
 unfold cI at h;split at h
 ·cases h
 ·split at h
  ·cases h
  next d b=>
   split at h
   ·cases h
   ·split at h
    next a=>
     cases h;rcases ho with⟨y,ho⟩|ho<;>(simp only[AY,aw,ho,b];rw[mc a])
    next a=>
     cases h;rcases ho with⟨y,ho⟩|ho<;>(simp only[AY,aw,ho,b];rw[ra a])
def ij{C:Cfg}{N:Tb}{pts:Tx}{ρ:Tf}{o:Oper}{e:Eff}(hρ:∀g,ρ (.func g) = .func (.func g) #[] #[])(E:aw N pts o≠none)(d:aq C pts ρ o=some e):AY N (aw N pts o) e:=by
 unfold aq at d;split at d
 ·cases d;trivial
 ·cases d;trivial
 ·split at d
  ·cases d;trivial
  ·cases d
 next t i=>
  obtain⟨z,_,d⟩:=qaA.1 d;exact og (.inr i) d
 next t x i=>
  exact og (.inl ⟨x,i⟩) d
 ·split at d
  ·exact eH d
  ·cases d
 next t n I i=>
  split at d
  ·obtain⟨r,_,rfl⟩:=qag.1 d;simp only[AY,aw,i]
  ·cases d
 next t a i=>
  unfold dV at d;split at d
  next q=>
   split at d
   ·cases d;simp only[AY,aw,i,q]
   ·obtain⟨p,_,rfl⟩:=qag.1 d;simp only[AY,aw,i,q]
  ·obtain⟨p,_,d⟩:=qaA.1 d;exact eH d
  next s q=>
   obtain⟨p,_,rfl⟩:=qag.1 d;simp only[AY,aw,i,q]
 next t a x i=>
  unfold eN at d;split at d
  ·cases d
  ·split at d
   next q=>
    obtain⟨p,_,rfl⟩:=qag.1 d;simp only[AY,aw,i,q]
   ·cases d
   next s q=>
    obtain⟨p,_,rfl⟩:=qag.1 d;simp only[AY,aw,i,q]
 ·split at d<;>cases d<;>trivial
 ·split at d
  ·split at d
   ·split at d
    ·cases d;trivial
    ·cases d
   ·exact eh d
  ·split at d
   ·split at d
    ·cases d;trivial
    ·cases d
   ·exact eh d
  ·exact eh d
 ·split at d
  ·cases d
  ·cases d;trivial
 next t r i=>
  split at d
  ·cases d;simp only[AY,aw,i]
  ·cases d
 next t l c i=>
  cases d;simp only[AY,aw,i]
 next t x F D G i=>
  split at d
  ·split at d
   ·exact eH d
   ·cases d;simp only[AY,aw,i]
  ·exact OK eh d
 ·exact eH d
 ·exact eH d
 ·exact eH d
 ·exact eH d
 next t m k H i=>
  split at d
  ·exact eH d
  ·cases d;simp only[AY,aw,i]
 next t m k v i=>
  cases d;simp only[AY,aw,i]
 next t m k v i=>
  cases d;simp only[AY,aw,i]
 next t m k i=>
  cases d;simp only[AY,aw,i]
 next t m s v i=>
  cases d;simp only[AY,aw,i]
 ·split at d
  ·split at d
   ·cases d
   ·exact eH d
  ·cases d
 next c i=>
  unfold ge at d;simp only at d;cases j:c.callee with
  |invoke r m=>simp only[j]at d;cases d
  |builtin b=>
   simp only[j]at d;unfold bc at d;split at d
   ·split at d
    ·cases d
    ·cases d;simp only[AY,aw,i,j]
   ·split at d
    ·cases d;trivial
    ·cases d;simp only[AY,aw,i,j]
    ·cases d;trivial
    ·exact eh d
   ·split at d
    ·cases d;trivial
    ·cases d;trivial
    ·cases d;trivial
    ·cases d
   ·cases d;simp only[AY,aw,i,j]
   ·cases d;simp only[AY,aw,i,j]
   ·cases d;simp only[AY,aw,i,j]
   ·exact eh d
  |value f=>
   simp only[j]at d;split at d
   ·cases d
   ·split at d
    next g first y w=>
     split at d
     ·cases d;cases f with
      |func B=>
       rw[hρ]at w;cases w;simp only[aw,i,j,AY];by_cases A:N g=some (2*c.args.size)
       ·rw[mc A];exact .inl ⟨rfl,by rw[A];simp⟩
       ·rw[ra A];by_cases u:N g=some (2*c.args.size+1)
        ·rw[mc u];exact .inr (.inl ⟨rfl,by rw[u];simp⟩)
        ·rw[ra u];exact .inr (.inr rfl)
      |_=>simp only[AY,aw,i,j,or_true]
     ·cases d
    next l first y w=>
     split at d
     ·cases d;cases f with
      |func B=>rw[hρ]at w;cases w
      |_=>simp only[AY,aw,i,j]
     ·cases d
    ·cases d
 ·exact eh d
 ·exact eh d
 ·cases d
def iN{C:Cfg}{B:Below}{N:Tb}(I:BH N B){pts:Tx}{ops:Tl}{i:Nat}{o:Oper}(F:ops[i]?=some o)(k:aw N pts o≠none){σ σ':St}(u:aj C B pts ops i σ σ') :
  ∃e:Ef,σ'=e.on o.dst σ/\tD (aw N pts o) e/\∀τ,AL N pts ops o σ τ->aj C B pts ops i τ (e.on o.dst τ):=by
 unfold aj at u;simp only[F]at u;have val:∀v:Value,σ'=σ.put o.dst v->(∀τ,AL N pts ops o σ τ->aj C B pts ops i τ (τ.put o.dst v))->
   ∃e:Ef,σ'=e.on o.dst σ/\tD (aw N pts o) e/\∀τ,AL N pts ops o σ τ->aj C B pts ops i τ (e.on o.dst τ):=by
  intro v j h;exact⟨⟨v,none,none⟩,j,⟨λp b=>(by cases b),λh=>absurd rfl h⟩,h⟩
 split at u
 ·exact u.elim
 next G=>
  refine val undef u λτ hτ=>?_;unfold aj;simp only[F,mr hτ,G]
 next G=>
  have step:∀ {τ τ':St},AL N pts ops o σ τ->((∃e,aq C pts (ke τ.tmps) o=some e/\lV B e o.dst τ τ')∨(∃v,kI C τ.tmps o v/\τ'=τ.put o.dst v))->aj C B pts ops i τ τ':=by
   intro τ τ' hτ h;unfold aj;simp only[F,mr hτ,G];exact h
  rcases u with⟨e,c,n⟩|⟨v,j,rfl⟩
  ·have cτ:∀τ,AL N pts ops o σ τ->aq C pts (ke τ.tmps) o=some e:=λτ hτ=>by
    rw[nU N pts k (ym hτ)];exact c
   cases e with
   |val v=>
    obtain⟨p,b,rfl⟩:=n;cases b;exact val v rfl λτ hτ=>step hτ (.inl ⟨_,cτ τ hτ,_,rfl,rfl⟩)
   |lnew s D=>
    obtain⟨p,b,rfl⟩:=n;simp only[aY]at b;split at b
    next g=>
     cases b;have a:aw N pts o=some (.row s true):=ij (λ_=>rfl) k c;refine⟨⟨.pointer (some ⟨s,0,some 0⟩),some (s,some D),none⟩,rfl,⟨λp b=>by cases b;exact a,λh=>absurd rfl h⟩,λτ hτ=>step hτ (.inl ⟨_,cτ τ hτ,({ τ with loc:=τ.loc.set s (some D) },.pointer (some ⟨s,0,some 0⟩)),?_,rfl⟩)⟩;have:=hτ.2;rw[a]at this;simp only[aY,this,g]
    ·cases b
   |lget s f=>
    obtain⟨p,b,rfl⟩:=n;simp only[aY]at b;split at b
    next D g=>
     obtain⟨v,j,rfl⟩:=qag.1 b;have a:aw N pts o=some (.row s false):=ij (λ_=>rfl) k c;refine val v rfl λτ hτ=>step hτ (.inl ⟨_,cτ τ hτ,(τ,v),?_,rfl⟩);have:=hτ.2;rw[a]at this;simp only[aY,this,g,j,BP]
    ·cases b
   |lset s f=>
    obtain⟨p,b,rfl⟩:=n;simp only[aY]at b;split at b
    next D g=>
     obtain⟨y,j,rfl⟩:=qag.1 b;have a:aw N pts o=some (.row s true):=ij (λ_=>rfl) k c;refine⟨⟨undef,some (s,some y),none⟩,rfl,⟨λp b=>by cases b;exact a,λh=>absurd rfl h⟩,λτ hτ=>step hτ (.inl ⟨_,cτ τ hτ,({ τ with loc:=τ.loc.set s (some y) },undef),?_,rfl⟩)⟩;have:=hτ.2;rw[a]at this;simp only[aY,this,g,j,BP]
    ·cases b
   |hget f=>
    obtain⟨p,b,rfl⟩:=n;simp only[aY]at b;obtain⟨v,j,rfl⟩:=qag.1 b;have a:aw N pts o=some .hr:=ij (λ_=>rfl) k c;refine val v rfl λτ hτ=>step hτ (.inl ⟨_,cτ τ hτ,(τ,v),?_,rfl⟩);have:=hτ.2;rw[a]at this;simp only[aY,this,j,BP]
   |hop f=>
    obtain⟨p,b,rfl⟩:=n;simp only[aY]at b;obtain⟨q,j,rfl⟩:=qag.1 b;have a:aw N pts o=some .hw:=ij (λ_=>rfl) k c;refine⟨⟨q.2,none,some q.1⟩,rfl,⟨λp b=>(by cases b),λ_=>a⟩,λτ hτ=>step hτ (.inl ⟨_,cτ τ hτ,({ τ with heap:=q.1 },q.2),?_,rfl⟩)⟩;have:=hτ.2;rw[a]at this;simp only[aY,this,j,BP]
   |call f d=>
    obtain⟨r,H,t,rfl⟩:=n;have a:(aw N pts o=some (.neu f)/\N f=some (2*d.length))∨(aw N pts o=some .hr/\N f=some (2*d.length+1))∨aw N pts o=some .hw:=ij (λ_=>rfl) k c;rcases a with⟨a,E⟩|⟨a,E⟩|a
    ·obtain⟨rfl,z⟩:=I.1 f d _ r H E t;exact val r rfl λτ hτ=>step hτ (.inl ⟨_,cτ τ hτ,r,τ.heap,z τ.heap,rfl⟩)
    ·obtain rfl:=I.2 f d _ r H E t;refine val r rfl λτ hτ=>step hτ (.inl ⟨_,cτ τ hτ,r,τ.heap,?_,rfl⟩);have:=hτ.2;rw[a]at this;rw[this];exact t
    ·refine⟨⟨r,none,some H⟩,rfl,⟨λp b=>(by cases b),λ_=>a⟩,λτ hτ=>step hτ (.inl ⟨_,cτ τ hτ,r,H,?_,rfl⟩)⟩;have:=hτ.2;rw[a]at this;rw[this];exact t
   |yield l d=>
    obtain⟨r,H,t,rfl⟩:=n;have a:aw N pts o=some .hw:=ij (λ_=>rfl) k c;refine⟨⟨r,none,some H⟩,rfl,⟨λp b=>(by cases b),λ_=>a⟩,λτ hτ=>step hτ (.inl ⟨_,cτ τ hτ,r,H,?_,rfl⟩)⟩;have:=hτ.2;rw[a]at this;rw[this];exact t
  ·refine val v rfl λτ hτ=>step hτ (.inr ⟨v,?_,rfl⟩);obtain⟨J,z,K,L⟩:=j;have m:=ym hτ;refine⟨J,?_,K,λw=>?_⟩
   ·rw[qac]at z ⊢;intro x A;rw[m x A];exact z x A
   ·rw[execOp_congr N pts k (ρ':=λx=>Cu (ke σ.tmps x)) λx A=>by rw[m x A]];exact L w
def MC.ok2:MC->MC->Bool
 | .no,_=>true
 |_,.no=>true
 | .row s w,.row a w'=>!Nat.beq s a||(!w && !w')
 | .row _ _,_=>true
 |_,.row _ _=>true
 | .neu _,_=>true
 |_,.neu _=>true
 | .hr,.hr=>true
 |_,_=>false
def bw(d:Tn)(l:Tx):Bool:=match d with
 |some d=>!l.contains d
 |none=>true
def bi(a b:Tn):Bool:=match a,b with
 |some a,some b=>!Nat.beq a b
 |_,_=>true
def yT(N:Tb)(pts:Tx)(ops:Tl)(a b:Oper):Bool:=
 match aw N pts a,aw N pts b with
 |some m,some n=>(m.ok2 n||gZ a b)&&bw a.dst (bj ops b)&&bw b.dst (bj ops a)&&bi a.dst b.dst
 |_,_=>false
def sO{σ:St}{d:Tn}{v:Value}{t:Nat}(h:∀x,d=some x->x≠t):(σ.put d v).tmps[t]?=σ.tmps[t]?:=by
 cases d with
 |none=>rfl
 |some x=>simp only[St.put];rw[B5 (h x rfl)]
def sP{σ:St}{d:Tn}{v:Value}:(σ.put d v).loc=σ.loc:=by cases d<;>rfl
def kq{σ:St}{d:Tn}{v:Value}:(σ.put d v).heap=σ.heap:=by cases d<;>rfl
def sQ{σ:St}{d:Tn}{v:Value}:(σ.put d v).tmps=(match d with|some d=>σ.tmps.set d v|none=>σ.tmps):=by cases d<;>rfl
def sG{e:Ef}{d:Tn}{σ:St}:(e.on d σ).tmps=(match d with|some d=>σ.tmps.set d e.v|none=>σ.tmps):=by unfold Ef.on;rw[sQ]
def xN{e:Ef}{d:Tn}{σ:St}:(e.on d σ).loc=(match e.rw with|some p=>σ.loc.set p.1 p.2|none=>σ.loc):=by unfold Ef.on;rw[sP]
def dW{e:Ef}{d:Tn}{σ:St}:(e.on d σ).heap=e.hp.getD σ.heap:=by unfold Ef.on;rw[kq]
def yG{N:Tb}{pts:Tx}{ops:Tl}{a b:Oper}{m n:MC}(o:aw N pts a=some m)(q:aw N pts b=some n)(c:m.ok2 n=true∨n.ok2 m=true)
  (i:bw a.dst (bj ops b)=true) {e:Ef} (g:tD (aw N pts a) e) (σ:St):AL N pts ops b σ (e.on a.dst σ):=by
 refine⟨λt hr=>?_,?_⟩
 ·unfold Ef.on;refine sO λx r j=>?_;subst j;rw[r]at i;simp only[bw,R2,qcQ,decide_eq_false_iff_not]at i;exact i hr
 ·rw[o]at g;rw[q];cases n with
  |no=>trivial
  |neu f=>trivial
  |row s w=>
   show(e.on a.dst σ).loc[s]?=_;rw[xN];cases l:e.rw with
   |none=>rfl
   |some p=>
    have d:=g.1 p l;cases d;have:p.1≠s:=by
     intro j;subst j;rcases c with h|h<;>simp[MC.ok2]at h
    show(σ.loc.set p.1 p.2)[s]?=_;rw[B5 this]
  |hr=>
   show(e.on a.dst σ).heap=_;rw[dW];cases k:e.hp with
   |none=>rfl
   |some H=>
    have d:=g.2 (by rw[k];simp);cases d;rcases c with h|h<;>cases h
  |hw=>
   show(e.on a.dst σ).heap=_;rw[dW];cases k:e.hp with
   |none=>rfl
   |some H=>
    have d:=g.2 (by rw[k];simp);cases d;rcases c with h|h<;>cases h
def set_comm{α:Type}(l:List α){i j:Nat}(a b:α)(h:i≠j):(l.set i a).set j b=(l.set j b).set i a:=List.set_comm _ _ h
def Gc{N:Tb}{pts:Tx}{a b:Oper}{m n:MC}(r:aw N pts a=some m)(s:aw N pts b=some n)(c:m.ok2 n=true)(t:bi a.dst b.dst=true){e f:Ef}
  (u:tD (aw N pts a) e) (v:tD (aw N pts b) f) (σ:St):f.on b.dst (e.on a.dst σ)=e.on a.dst (f.on b.dst σ):=by
 have k:(f.on b.dst (e.on a.dst σ)).tmps=(e.on a.dst (f.on b.dst σ)).tmps:=by
  simp only[sG];cases h:a.dst with
  |none=>rfl
  |some x=>
   cases i:b.dst with
   |none=>rfl
   |some y=>
    rw[h,i]at t;have:x≠y:=by
     intro j;subst j;simp[bi]at t
    exact set_comm _ _ _ this
 have l:(f.on b.dst (e.on a.dst σ)).loc=(e.on a.dst (f.on b.dst σ)).loc:=by
  simp only[xN];cases h:e.rw with
  |none=>rfl
  |some p=>
   cases i:f.rw with
   |none=>rfl
   |some q=>
    have d:=u.1 p h;have g:=v.1 q i;rw[r]at d;rw[s]at g;cases d;cases g;have:p.1≠q.1:=by
     intro j;rw[j]at c;simp[MC.ok2]at c
    exact set_comm _ _ _ this
 have o:(f.on b.dst (e.on a.dst σ)).heap=(e.on a.dst (f.on b.dst σ)).heap:=by
  simp only[dW];cases h:e.hp with
  |none=>rfl
  |some p=>
   cases i:f.hp with
   |none=>rfl
   |some q=>
    have d:=u.2 (by rw[h];simp);have g:=v.2 (by rw[i];simp);rw[r]at d;rw[s]at g;cases d;cases g;cases c
 generalize f.on b.dst (e.on a.dst σ)=x at *;generalize e.on a.dst (f.on b.dst σ)=y at *;cases x;cases y;simp only at k l o;subst k;subst l;subst o;rfl
def wH{ops:Tl}{o:Oper}{σ τ:St}(h:∀t∈bj ops o,τ.tmps[t]?=σ.tmps[t]?):cw ops τ.tmps o=cw ops σ.tmps o:=by
 unfold cw;split
 ·rfl
 next j a c=>
  cases b:(ops[j]?).bind (·.dst)with
  |none=>rfl
  |some d=>
   simp only[A7];rw[h d (by simp[bj,c,b])]
def xQ{ops:Tl}{o:Oper}{σ τ:St}(h:∀t∈bj ops o,τ.tmps[t]?=σ.tmps[t]?):∀x∈o.op.operands.toList,ke τ.tmps x=ke σ.tmps x:=by
 intro x b;refine lw λt a=>h t ?_;subst a;simp only[bj,qar,qaH];exact .inl ⟨.tmp t,b,rfl⟩
def zX{C:Cfg}{B:Below}{N:Tb}(e:BH N B){pts:Tx}{ops:Tl}{i j:Nat}{a b:Oper}(f:ops[i]?=some a)(g:ops[j]?=some b)(c:gZ a b=true)
  (c2:bw a.dst (bj ops b)=true) (c3:bw b.dst (bj ops a)=true) (c4:bi a.dst b.dst=true) {σ σ₁ σ':St}
  (h1:aj C B pts ops i σ σ₁) (d:aj C B pts ops j σ₁ σ'):∃τ,aj C B pts ops j σ τ/\aj C B pts ops i τ σ':=by
 cases c
def Qn{C:Cfg}{B:Below}{N:Tb}(l:BH N B){pts:Tx}{ops:Tl}{i j:Nat}{a b:Oper}(p:ops[i]?=some a)(q:ops[j]?=some b)(d:yT N pts ops a b=true){σ σ₁ σ':St}
  (h1:aj C B pts ops i σ σ₁) (o:aj C B pts ops j σ₁ σ'):∃τ,aj C B pts ops j σ τ/\aj C B pts ops i τ σ':=by
 unfold yT at d;split at d
 next m n k g=>
  simp only[wa]at d;obtain⟨⟨⟨c,c2⟩,c3⟩,c4⟩:=d;rw[Cz]at c;rcases c with c|c
  case inr=>exact zX l p q c c2 c3 c4 h1 o
  obtain⟨e,rfl,r,v⟩:=iN l p (by rw[k];simp) h1;obtain⟨f,rfl,s,w⟩:=iN l q (by rw[g];simp) o;have x:AL N pts ops b (e.on a.dst σ) σ:=by
   have:=yG k g (.inl c) c2 r σ;refine⟨λt u=>(this.1 t u).symm,?_⟩;have h:=this.2;rw[g]at h ⊢;cases n<;>first|trivial|exact h.symm
  have y:AL N pts ops a σ (f.on b.dst σ):=yG g k (.inr c) c3 s σ;refine⟨f.on b.dst σ,w σ x,?_⟩;rw[Gc k g c c4 r s σ];exact v _ y
 ·cases d
end
end Sx
namespace Sx
section
variable [Val] {C:Cfg} {B:Below} {N:Tb} {pts:Tx} {ops:Tl}
def qA{i:Nat}{post:Tx}:∀(pre:Tx),(∀k∈pre,∀σ σ₁ σ':St,aj C B pts ops k σ σ₁->aj C B pts ops i σ₁ σ'->∃τ,aj C B pts ops i σ τ/\aj C B pts ops k τ σ')->
  ∀σ σ':St,bJ C B pts ops (pre++i :: post) σ σ'->bJ C B pts ops (i :: (pre++post)) σ σ'
 | [],_,σ,σ',h=>h
 |k :: pre,a,σ,σ',⟨σ₁,h1,b⟩=>by
  obtain⟨σ₂,c,d⟩:=qA pre (λk g=>a k (by simp[g])) σ₁ σ' b;obtain⟨τ,e,f⟩:=a k (by simp) σ σ₁ σ₂ h1 c;exact⟨τ,e,σ₂,f,d⟩
inductive Anc(ops:Tl)(k:Nat):Nat->Prop
 |edge {i:Nat} {o:Oper} {e:Edge} (ho:ops[i]?=some o) (he:e∈o.after.toList) (hb:Region.binds .any e=true) (hk:e.on=k):Anc ops k i
 |step {i:Nat} {o:Oper} {e:Edge} (ho:ops[i]?=some o) (he:e∈o.after.toList) (hb:Region.binds .any e=true) (h:Anc ops k e.on):Anc ops k i
def I3{b:Tx}(d:∀(i k:Nat),(b.getD i 0).testBit k=true->Anc ops k i){i:Nat}{o:Oper}(p:ops[i]?=some o){k:Nat}(h:(Fg b o).testBit k=true):Anc ops k i:=by
 unfold Fg at h;have f:∀(l:List Edge) (m:Nat),(∀e∈l,e∈o.after.toList)->(m.testBit k=true->Anc ops k i)->
   (l.foldl (λm e=>match Region.binds .any e with
    |true=>Nat.lor (Nat.lor m (Nat.shiftLeft 1 e.on)) (b.getD e.on 0)
    |false=>m) m).testBit k=true->Anc ops k i:=by
  intro l
  induction l with
  |nil=>intro m _ j h;exact j h
  |cons e l r=>
   intro m n j h;simp only[IL]at h;refine r _ (λe q=>n e (by simp[q])) (λg=>?_) h;cases c:Region.binds .any e with
   |false=>simp only[c]at g;exact j g
   |true=>
    simp only[c]at g;have a:((m ||| (1 <<< e.on)) ||| b.getD e.on 0).testBit k=true:=g;rw[Nat.testBit_or,Nat.testBit_or,Cz,Cz]at a;rcases a with(a|a)|a
    ·exact j a
    ·rw[Nat.one_shiftLeft,Nat.testBit_two_pow]at a;exact .edge p (n e (by simp)) c (by simpa using a)
    ·exact .step p (n e (by simp)) c (d _ _ a)
 exact f _ 0 (λ_ h=>h) (λh=>by simp at h) h
def rn:∀(l:Tu) (a:Tx),ops.toList.drop a.length=l->(∀(i k:Nat),(a.getD i 0).testBit k=true->Anc ops k i)->∀(i k:Nat),((CR l a).getD i 0).testBit k=true->Anc ops k i
 | [],a,_,b=>b
 |o :: l,a,c,b=>by
  have f:ops[a.length]?=some o:=by
   have:(ops.toList.drop a.length)[0]?=some o:=by rw[c];rfl
   simpa using this
  refine rn l (a++[Fg a o]) (by rw[Bv,←LS,c];rfl) λi k h=>?_;rw[List.getD_eq_getElem?_getD,qdp]at h;split at h
  ·exact b i k (by rw[List.getD_eq_getElem?_getD];exact h)
  next d=>
   by_cases e:i=a.length
   ·subst e;simp at h;exact I3 b f h
   ·rw[Bp (by simp;omega)]at h;simp at h
def fM:Tu->Nat->Bool
 | [],_=>true
 |o :: l,i=>(o.after.toList.all λe=>!Region.binds .any e||Nat.blt e.on i)&&fM l (i+1)
def rA(N:Tb)(pts:Tx)(ops:Tl)(b:Oper)(m:Nat):Tu->Nat->Bool
 | [],_=>true
 |a :: l,k=>(Nat.testBit m k||yT N pts ops a b)&&rA N pts ops b m l (k+1)
def sJ(N:Tb)(pts:Tx)(ops:Tl)(ms:Tx):Tu->Tu->Nat->Bool
 |_,[],_=>true
 |pre,b :: l,i=>rA N pts ops b (ms.getD i 0) pre 0&&sJ N pts ops ms (pre++[b]) l (i+1)
def uS(N:Tb)(pts:Tx)(ops:Tl):Bool:=
 fM ops.toList 0&&sJ N pts ops (CR ops.toList []) [] ops.toList 0
def fD:∀ {l:Tu} {i:Nat},fM l i=true->∀(j:Nat) o,l[j]?=some o->∀e∈o.after.toList,Region.binds .any e=true->e.on<i+j
 | [],i,_,j,o,h,_,_,_=>by simp at h
 |o :: l,i,h,j,p,a,e,c,b=>by
  simp only[fM,wa,qac]at h;cases j with
  |zero=>
   simp at a;subst a;have:=h.1 e c;rw[b]at this;simpa[BW]using this
  |succ j=>
   have:=fD h.2 j p (by simpa using a) e c b;omega
def qd{b:Oper}{m:Nat}:∀ {l:Tu} {k:Nat},rA N pts ops b m l k=true->∀(j:Nat) a,l[j]?=some a->m.testBit (k+j)=true∨yT N pts ops a b=true
 | [],k,_,j,a,h=>by simp at h
 |a :: l,k,h,j,c,d=>by
  simp only[rA,wa,Cz]at h;cases j with
  |zero=>simp at d;subst d;exact h.1
  |succ j=>
   have:=qd h.2 j c (by simpa using d)
   rwa [show k+1+j=k+(j+1)by omega]at this
def qH{ms:Tx}:∀ {l pre:Tu} {i:Nat},pre.length=i->sJ N pts ops ms pre l i=true->∀(j:Nat) b,l[j]?=some b->∀(k:Nat) a,k<i+j->(pre++l)[k]?=some a->(ms.getD (i+j) 0).testBit k=true∨yT N pts ops a b=true
 | [],pre,i,_,_,j,b,h,_,_,_,_=>by simp at h
 |b :: l,pre,i,f,h,j,c,e,k,a,g,d=>by
  simp only[sJ,wa]at h;cases j with
  |zero=>
   simp at e;subst e;rw[BZ (by omega)]at d;have:=qd h.1 k a d;simpa using this
  |succ j=>
   have:=qH (pre:=pre++[b]) (i:=i+1) (by simp[f]) h.2 j c (by simpa using e) k a (by omega) (by simpa using d)
   rwa [show i+1+j=i+(j+1)by omega]at this
def zF(h:uS N pts ops=true){i k:Nat}{a b:Oper}(d:ops[i]?=some b)(c:ops[k]?=some a)(e:k<i):Anc ops k i∨yT N pts ops a b=true:=by
 simp only[uS,wa]at h;have:=qH (pre:=[]) (i:=0) rfl h.2 i b (by simpa using d) k a (by omega) (by simpa using c);rw[BT]at this;exact this.imp (λh=>rn ops.toList [] rfl (λi k h=>by simp at h) i k h) id
def zD(h:uS N pts ops=true){i:Nat}{o:Oper}(c:ops[i]?=some o){e:Edge}(b:e∈o.after.toList)(a:Region.binds .any e=true):e.on<i:=by
 simp only[uS,wa]at h;have:=fD h.1 i o (by simpa using c) e b a;omega
def Ci(n:Nat)(a:Array Bool):Tx:=(List.range n).filter λi=>!a.getD i true
def pW{a:Array Bool}(g:∀(x:Nat) o,a.getD x true=true->ops[x]?=some o->∀e∈o.after.toList,Region.binds .any e=true->a.getD e.on false=true){k i:Nat}(h:Anc ops k i)
  (p:∀o,ops[i]?=some o->∀e∈o.after.toList,Region.binds .any e=true->a.getD e.on false=true):a.getD k false=true:=by
 induction h with
 |edge m j d r=>rw[←r];exact p _ m _ j d
 |step m j d h t=>
  have c:=p _ m _ j d;refine t λo n e l f=>g _ o ?_ n e l f
  rename_i q
  rw[C1]at c ⊢;cases s:a[q.on]? with
  |none=>rfl
  |some b=>rw[s]at c;exact c
abbrev _root_.Tt:=Nat->Bool
def ie{p:Tt}{i:Nat}:∀ {l:Tx},l.Nodup->i∈l.filter p->∃pre post,l.filter p=pre++i :: post/\(l.filter λj=>p j&&j != i)=pre++post/\(∀k∈pre,k∈l.filter p/\k≠i)
 | [],_,h=>by simp at h
 |x :: l,f,h=>by
  rw[qbU]at f;by_cases d:x=i
  ·subst d;have a:p x=true:=(qaO.1 h).2;refine⟨[],l.filter p,by simp[a],?_,by simp⟩;simp only[AG,M5,a,bne_self_eq_false,Bool.and_false,Bq,if_false];refine qdK λj r=>?_;have:j≠x:=λe=>f.1 (e▸r);simp[this]
  ·have q:i∈l.filter p:=by
    rw[qaO]at h ⊢;exact⟨(qas.1 h.1).resolve_left λe=>d e.symm,h.2⟩
   obtain⟨pre,post,m,n,o⟩:=ie f.2 q;by_cases a:p x=true
   ·refine⟨x :: pre,post,by simp[M5,a,m],?_,λk c=>?_⟩
    ·simp only[M5,a,qds,AO];rw[mc (by simpa using d),n]
    ·rcases qas.1 c with rfl|c
     ·exact⟨by simp[qaO,a],d⟩
     ·obtain⟨b,g⟩:=o k c;rw[qaO]at b ⊢;exact⟨⟨by simp[b.1],b.2⟩,g⟩
   ·refine⟨pre,post,by simp[M5,a,m],?_,λk c=>?_⟩
    ·simp only[M5,a,qd3,Bq,if_false];exact n
    ·obtain⟨b,g⟩:=o k c;rw[qaO]at b ⊢;exact⟨⟨by simp[b.1],b.2⟩,g⟩
def lX{p:Tt}:∀ {n:Nat} {pre post:Tx} {i:Nat},(List.range n).filter p=pre++i :: post->∀k∈pre,k<i:=by
 intro n pre post i h k b;have a:((List.range n).filter p).Pairwise (· < ·):=qcP _ RX;rw[h,U8]at a;exact a.2.2 k b i (by simp)
def Rr(hN:BH N B)(f:uS N pts ops=true):∀(fuel t:Nat) (a:Array Bool),a.size=ops.size->(Ci ops.size a).length=fuel->
  (∀(x:Nat) o,a.getD x true=true->ops[x]?=some o->∀e∈o.after.toList,Region.binds .any e=true->a.getD e.on false=true)->
  ∀σ σ':St,bJ C B pts ops (Ci ops.size a) σ σ'->bJ C B pts ops (Region.linearise.go .any ops fuel t a []) σ σ'
 |0,t,a,_,K,_,σ,σ',h=>by
  have:Ci ops.size a=[]:=qa6.1 K;rw[this]at h;simpa[Region.linearise.go]using h
 |fuel+1,t,a,W,K,z,σ,σ',h=>by
  simp only[Region.linearise.go];generalize F:((List.range ops.size).filter λi=>!a.getD i true&&((ops[i]?).map (·.after.all λe=>!Region.binds .any e||a.getD e.on false)).getD false)=rs;have m:∀i∈rs,i<ops.size/\a.getD i true=false/\∀o,ops[i]?=some o->∀e∈o.after.toList,Region.binds .any e=true->a.getD e.on false=true:=by
   intro i J;rw[←F,qaO,qad]at J;obtain⟨P,Q⟩:=J;simp only[wa,R2]at Q;refine⟨P,Q.1,λo r e v g=>?_⟩;have I:=Q.2;rw[r]at I;simp only[BP,Ie]at I;rw[qcY]at I;have:=I e (by simpa using v);rw[g]at this;simpa using this
  have V:rs≠[]:=by
   have hu:Ci ops.size a≠[]:=by intro e;rw[e]at K;cases K
   obtain⟨M,tl,s⟩:=qdA hu;have S:M∈Ci ops.size a:=by rw[s];simp
   have l:=S;rw[Ci,qaO,qad]at l;have c:M∈rs:=by
    rw[←F,qaO,qad];refine⟨l.1,?_⟩;simp only[wa];refine⟨l.2,?_⟩;have r:ops[M]?=some ops[M]:=by simp[l.1]
    rw[r];simp only[BP,Ie];rw[qcY];intro e v;cases g:Region.binds .any e with
    |false=>simp
    |true=>
     have ad:=zD f r (by simpa using v) g;simp only[BS,qdN];by_cases b:a.getD e.on true=true
     ·have L:e.on<a.size:=by omega
      rw[C1]at b ⊢;rw[M7 L]at b ⊢;exact b
     ·exfalso;have D:e.on∈Ci ops.size a:=by
       rw[Ci,qaO,qad];exact⟨by omega,by simpa using b⟩
      rw[s]at D;rcases qas.1 D with D|D
      ·omega
      ·have L:(Ci ops.size a).Pairwise (· < ·):=qcP _ RX;rw[s,qba]at L;have:=L.1 _ D;omega
   intro e;rw[e]at c;cases c
  have d:0<rs.length:=qbl.2 V;have A:rs[t%rs.length]?=some (rs[t%rs.length]'(Il _ d)):=Be (Il _ d);rw[A];simp only;generalize J:rs[t%rs.length]'(Il _ d)=i;have c:i∈rs:=by rw[←J];exact qdj _
  obtain⟨i1,i2,i3⟩:=m i c;rw[linearise_go_acc,List.reverse_singleton,List.singleton_append];have T:i∈(List.range ops.size).filter λj=>!a.getD j true:=by
   rw[qaO,qad];exact⟨i1,by simp[i2]⟩
  obtain⟨u,post,O,e2,e3⟩:=ie qcT T;have E:=lX O;have n:Ci ops.size (a.setIfInBounds i true)=u++post:=by
   rw[←e2];unfold Ci;refine qdK λj hj=>?_;rw[C1,C1,RZ];by_cases q:i=j
   ·subst q;rw[mc rfl,mc (by omega)];simp
   ·rw[ra q];have:(j != i)=true:=by simpa using λe=>q e.symm
    simp[this]
  have U:=qA (C:=C) (B:=B) (pts:=pts) (ops:=ops) (i:=i) (post:=post) u (λk hk σ σ₁ σ' Y Z=>by
   obtain⟨X,m2⟩:=e3 k hk;rw[qaO,qad]at X;have ha:ops[k]?=some ops[k]:=by simp[X.1]
   have g:ops[i]?=some ops[i]:=by simp[i1]
   rcases zF f g ha (E k hk)with w|R
   ·exfalso;have:=pW z w i3;have H:=X.2;rw[C1]at this H;rw[M7 (by omega)]at this H;simp only[Ie]at this H;rw[this]at H;cases H
   ·exact Qn hN ha g R Y Z) σ σ'
  obtain⟨σ₁,Y,Z⟩:=U (by rw[←O];exact h);refine⟨σ₁,Y,Rr hN f fuel _ _ (by simp[W]) ?_ ?_ σ₁ σ' (by rw[n];exact Z)⟩
  ·rw[n];have:(Ci ops.size a).length=(u++post).length+1:=by
    show(List.filter _ _).length=_;rw[O];simp;omega
   omega
  ·intro x o hx r e v g;have p:∀y,a.getD y false=true->(a.setIfInBounds i true).getD y false=true:=by
    intro y hy;rw[C1]at hy ⊢;rw[RZ];split
    next P=>
     subst P;rw[mc (by omega)];rfl
    ·exact hy
   by_cases G:x=i
   ·subst G;exact p _ (i3 o r e v g)
   ·refine p _ (z x o ?_ r e v g);rw[C1,RZ,ra (λe=>G e.symm)]at hx;rw[C1];exact hx
def Sq(f:BH N B)(a:uS N pts ops=true){σ σ':St}(h:bJ C B pts ops (List.range ops.size) σ σ'):eD C B pts ops σ σ':=by
 refine .inl λt=>?_;have e:Ci ops.size (Array.replicate ops.size false)=List.range ops.size:=by
  unfold Ci;rw[qdv];intro i c;rw[qad]at c;rw[C1,VT,mc c];rfl
 refine Rr f a ops.size t (Array.replicate ops.size false) (by simp) (by rw[e];simp) (λx o d g=>?_) σ σ' (by rw[e];exact h);have b:x<ops.size:=(qaQ.1 g).1;rw[C1,VT,mc b]at d;cases d
end
end Sx
namespace Sx
section
variable [Val] [Kno] {C:Cfg}
def Lo(v:Value):Prop:=match v with
 | .pointer (some p)=>p.spot=some 0
 |_=>True
def ye{v:Value}(h:plain v=true):Lo v:=by
 cases v<;>try trivial
 rename_i a
 cases a<;>first|trivial|(simp[plain,jd,scalar,iY]at h)
def G7{a:Tx}{v:Value}(h:Lo v):Lo (jb a v):=by
 unfold jb
 repeat' split
 all_goals first|exact h|trivial
def DF(b:Tx)(σ:St):Prop:=∀a∈b,∀v,σ.tmps[a]?=some v->Lo v
def uJ(N:Tb)(pts a:Tx)(o:Oper):Bool:=
 (match aw N pts o with
 |some .no=>true
 |some (.row _ _)=>true
 |some (.neu _)=>true
 |_=>false) &&
 match o.dst with
 |some d=>!a.contains d||(Nat.beq (pts.getD d 0) (d+2)&&match o.op with
  | .alloc _=>true
  | .box _ _=>true
  |_=>false)
 |none=>true
def CX(N:Tb)(pts c:Tx):Code->Bool
 | .skip | .label _ | .ret | .exit _=>true
 | .seq a b=>CX N pts c a&&CX N pts c b
 | .cond _ a b=>CX N pts c a&&CX N pts c b
 | .block _ b=>CX N pts c b
 | .loop b=>CX N pts c b
 | .scope b=>CX N pts c b
 | .region _ ops _=>ops.toList.all (uJ N pts c)
 |_=>false
def Dv(N:Tb)(pts:Tx)(o:Oper):Bool:=match aw N pts o with
 |some .no=>true
 |some (.row _ _)=>true
 |some (.neu _)=>true
 |some .hr=>true
 |_=>false
def L2(N:Tb)(pts:Tx):Code->Bool
 | .skip | .label _ | .ret | .exit _=>true
 | .seq a b=>L2 N pts a&&L2 N pts b
 | .cond _ a b=>L2 N pts a&&L2 N pts b
 | .block _ b=>L2 N pts b
 | .loop b=>L2 N pts b
 | .scope b=>L2 N pts b
 | .region _ ops _=>ops.toList.all (Dv N pts)
 |_=>false
def gR(l:List ResultVar):Tx:=l.filterMap λr=>match r with
 | .cell a _=>some a
 | .tmp _=>none
def ET(N:Tb)(C:Cfg)(f:TK)(n:Nat):Bool:=
 match C.P.funcs[f]? with
 |some c=>match c.body with
  |some b=>match Nat.beq (n%2) 0 with
   |true=>CX N (C.pts f) (gR c.results.toList) b&&(gR c.results.toList).all λa=>Nat.ble (n / 2) a
   |false=>C.opq f||L2 N (C.pts f) b
  |none=>false
 |none=>false
def uK{pts:Tx}{d:Nat}{t:TJ}{v:Value}{e:Eff}(b:pts.getD d 0=d+2)(a:cI C pts (some d) t v=some e):∃s vs,e = .lnew s vs:=by
 unfold cI at a;split at a
 ·cases a
 ·simp only at a;split at a
  ·cases a
  ·exact⟨_,_,(AR a).symm⟩
def yi{b:Tx}{σ τ:St}{dst:Tn}{v:Value}(h:DF b σ)(g:τ.tmps=σ.tmps)(e:(∀d,dst=some d->d∉b)∨Lo v):DF b (τ.put dst v):=by
 intro a f x c;cases dst with
 |none=>exact h a f x (by rw[←g];exact c)
 |some d=>
  simp only[St.put,Eb,g]at c;split at c
  next i=>
   subst i;split at c
   ·cases c;rcases e with e|e
    ·exact absurd f (e _ rfl)
    ·exact e
   ·cases c
  ·exact h a f x c
def yx{N:Tb}{B:Below}(L:BH N B){pts b:Tx}{ops:Tl}(q:ops.toList.all (uJ N pts b)=true){i:Nat}{σ σ':St}(n:DF b σ)(h:aj C B pts ops i σ σ') :
  σ'.heap=σ.heap/\DF b σ'/\∀H,aj C B pts ops i { σ with heap:=H } { σ' with heap:=H }:=by
 cases l:ops[i]? with
 |none=>
  have:σ'=σ:=by simpa[aj,l]using h
  subst this;exact⟨rfl,n,λH=>by simp[aj,l]⟩
 |some o=>
  have D:uJ N pts b o=true:=qac.1 q o (by
   have:=qdb l;simpa using this)
  unfold uJ at D;rw[wa]at D;obtain⟨j,r⟩:=D;have O:aw N pts o≠none:=by intro e;rw[e]at j;cases j
  obtain⟨e,rfl,T,R⟩:=iN L l O h;have F:e.hp=none:=by
   cases M:e.hp with
   |none=>rfl
   |some x=>
    have:=T.2 (by rw[M];simp);rw[this]at j;cases j
  refine⟨by rw[dW,F];rfl,?_,λH=>?_⟩
  ·by_cases g:∀d,o.dst=some d->d∉b
   ·unfold Ef.on;exact yi n rfl (.inl g)
   · -- a local row is laid
    obtain⟨d,g⟩:=Classical.not_forall.1 g;obtain⟨c,g⟩:=Classical.not_imp.1 g;have g:=Classical.not_not.1 g;rw[c]at r;simp only[qcQ,g,decide_true,BS,qdN,wa]at r;have G:pts.getD d 0=d+2:=by simpa using r.1
    unfold aj at h;simp only[l]at h;split at h
    ·exact h.elim
    ·rw[h];exact yi n rfl (.inr trivial)
    ·rcases h with⟨K,k,w⟩|⟨v,k,w⟩
     ·have y:∃s I,K = .lnew s I:=by
       have o3:=r.2;obtain⟨dst,S,U,pos,u,guard⟩:=o;simp only at c o3;subst c;cases S<;>first|cases o3|skip
       ·simp only[aq]at k;obtain⟨z,_,Q⟩:=qaA.1 k;exact uK G Q
       ·exact uK G k
      obtain⟨s,I,rfl⟩:=y;obtain⟨p,f,E⟩:=w;rw[E];simp only[aY]at f;split at f
      ·cases f;exact yi n rfl (.inr rfl)
      ·cases f
     ·rw[w];exact yi n rfl (.inr (ye k.2.2.1))
  ·have P:AL N pts ops o σ { σ with heap:=H }:=by
    refine⟨λt _=>rfl,?_⟩;cases A:aw N pts o with
    |none=>trivial
    |some m=>rw[A]at j;cases m<;>first|trivial|cases j|rfl
   have:=R _ P;have J:e.on o.dst { σ with heap:=H } = { e.on o.dst σ with heap:=H }:=by
    unfold Ef.on;rw[F];cases o.dst<;>rfl
   rw[J]at this;exact this
def wg{N:Tb}{B:Below}(d:BH N B){pts b:Tx}{ops:Tl}(a:ops.toList.all (uJ N pts b)=true):∀(l:Tx) {σ σ':St},DF b σ->bJ C B pts ops l σ σ'->
  σ'.heap=σ.heap/\DF b σ'/\∀H,bJ C B pts ops l { σ with heap:=H } { σ' with heap:=H }
 | [],σ,σ',c,h=>by
  have:σ'=σ:=h;subst this;exact⟨rfl,c,λH=>rfl⟩
 |i :: l,σ,σ',c,⟨σ₁,n,o⟩=>by
  obtain⟨e,f,g⟩:=yx d a c n;obtain⟨j,k,m⟩:=wg d a l f o;exact⟨j.trans e,k,λH=>⟨_,g H,m H⟩⟩
def qN{b:Tx}{σ σ':St}(j:DF b σ)(h:fJ σ σ'):DF b σ':=by
 intro a i v c;obtain⟨_,_,l,f⟩:=h;have k:a<σ'.tmps.length:=(qbg.1 c).1;have d:σ.tmps[a]?=some (σ.tmps[a]'(by omega)):=Be _;rcases f a _ _ d c with e|⟨_,g,_⟩
 ·rw[e];exact j a i _ d
 ·exact ye g
def ml{σ σ':St}(h:fJ σ σ')(H:Tp):fJ { σ with heap:=H } { σ' with heap:=H }:=⟨h.1,rfl,h.2.2.1,h.2.2.2⟩
def xP{N:Tb}{B:Below}(e:BH N B){pts b:Tx}{ops:Tl}(a:ops.toList.all (uJ N pts b)=true):∀(l:Tx) {σ σ':St},DF b σ->fo C B pts ops l σ σ'->
  σ'.heap=σ.heap/\DF b σ'/\∀H,fo C B pts ops l { σ with heap:=H } { σ' with heap:=H }
 | [],σ,σ',d,h=>by
  have:σ'=σ:=h;subst this;exact⟨rfl,d,λH=>rfl⟩
 |i :: l,σ,σ',d,⟨σ₀,σ₁,c,o,p⟩=>by
  obtain⟨f,g,j⟩:=yx e a (qN d c) o;obtain⟨k,m,n⟩:=xP e a l g p;exact⟨k.trans (f.trans c.2.1),m,λH=>⟨_,_,ml c H,j H,n H⟩⟩
def Jr{b:Tx}{σ:St}{c:Tx}(d:DF b σ):DF b (σ.clear c):=by
 unfold St.clear;split
 ·exact d
 ·intro a f v e;simp only[AX,qag]at e;obtain⟨x,g,rfl⟩:=e;exact G7 (d a f x g)
def Fj(σ:St)(a:Tx)(H:Tp):St.clear { σ with heap:=H } a = { σ.clear a with heap:=H }:=by
 unfold St.clear;split<;>rfl
def wR(σ:St)(a:Tx):(σ.clear a).heap=σ.heap:=by
 unfold St.clear;split<;>rfl
def zI{σ:St}{r:ResultVar}{b:Tx}(e:DF b σ)(d:∀a∈gR [r],a∈b)(H:Tp):fq C { σ with heap:=H } r=fq C σ r:=by
 cases r with
 |tmp t=>rfl
 |cell a t=>
  have f:a∈b:=d a (by simp[gR]);unfold fq;simp only;cases c:σ.tmps[a]? with
  |none=>simp[List.getD_eq_getElem?_getD,c,undef]
  |some v=>
   have:=e a f v c;simp only[List.getD_eq_getElem?_getD,c,Ie];cases v<;>try rfl
   rename_i p
   cases p with
   |none=>rfl
   |some p=>
    have g:p.spot=some 0:=this;simp only[g]
def pg{σ:St}{b:Tx}(d:DF b σ)(H:Tp):∀(l:List ResultVar),(∀a∈gR l,a∈b)->db C { σ with heap:=H } l=db C σ l
 | [],_=>rfl
 |r :: l,c=>by
  have e:=zI (C:=C) (r:=r) d (λa h=>c a (by cases r<;>simp[gR]at h ⊢;exact .inl h)) H;have f:=pg d H l (λa h=>c a (by cases r<;>simp[gR]at h ⊢<;>first|exact h|exact .inr h));simp only[db,e,f]
def Pt{N:Tb}{pts b:Tx}{o:Oper}(h:dt pts o=true)(f:uJ N pts b o=true):False:=by
 have i:aw N pts o=some .hw:=by
  obtain⟨dst,j,k,pos,a,guard⟩:=o;cases j<;>simp only[dt,Bq]at h<;>first|rfl|skip
  ·cases dst with
   |none=>cases h
   |some d=>
    simp only[aw];rw[ra (λe=>by
     have h:(!Nat.beq (pts.getD d 0) (d+2))=true:=h;rw[e,show Nat.beq (d+2) (d+2)=true from Er _]at h;cases h)]
  ·cases dst with
   |none=>cases h
   |some d=>
    simp only[aw];rw[ra (λe=>by
     have h:(!Nat.beq (pts.getD d 0) (d+2))=true:=h;rw[e,show Nat.beq (d+2) (d+2)=true from Er _]at h;cases h)]
  next c=>
   simp only[aw];split at h
   next g=>rw[g]
   ·cases h
 unfold uJ at f;rw[i]at f;cases f
def GG{N:Tb}{B:Below}(d:BH N B){pts:Tx}{ops:Tl}(b:ops.toList.all (Dv N pts)=true){i:Nat}{σ σ':St}(h:aj C B pts ops i σ σ'):σ'.heap=σ.heap:=by
 cases c:ops[i]? with
 |none=>
  have:σ'=σ:=by simpa[aj,c]using h
  rw[this]
 |some o=>
  have a:Dv N pts o=true:=qac.1 b o (by
   have:=qdb c;simpa using this)
  have j:aw N pts o≠none:=by intro e;unfold Dv at a;rw[e]at a;cases a
  obtain⟨e,rfl,k,_⟩:=iN d c j h;have g:e.hp=none:=by
   cases f:e.hp with
   |none=>rfl
   |some x=>
    have:=k.2 (by rw[f];simp);unfold Dv at a;rw[this]at a;cases a
  rw[dW,g];rfl
def Lh{N:Tb}{B:Below}(b:BH N B){pts:Tx}{ops:Tl}(a:ops.toList.all (Dv N pts)=true):∀(l:Tx) {σ σ':St},bJ C B pts ops l σ σ'->σ'.heap=σ.heap
 | [],_,_,h=>by cases h;rfl
 |_ :: l,_,_,⟨_,h1,c⟩=>(Lh b a l c).trans (GG b a h1)
def Ge{N:Tb}{B:Below}(b:BH N B){pts:Tx}{ops:Tl}(a:ops.toList.all (Dv N pts)=true):∀(l:Tx) {σ σ':St},fo C B pts ops l σ σ'->σ'.heap=σ.heap
 | [],_,_,h=>by cases h;rfl
 |_ :: l,_,_,⟨_,_,h0,h1,c⟩=>(Ge b a l c).trans ((GG b a h1).trans h0.2.1)
def UK{N:Tb}{pts:Tx}{o:Oper}(h:dt pts o=true)(b:Dv N pts o=true):False:=by
 have g:aw N pts o=some .hw:=by
  obtain⟨dst,i,j,pos,a,guard⟩:=o;cases i<;>simp only[dt,Bq]at h<;>first|rfl|skip
  ·cases dst with
   |none=>cases h
   |some d=>
    simp only[aw];rw[ra (λe=>by
     have h:(!Nat.beq (pts.getD d 0) (d+2))=true:=h;rw[e,show Nat.beq (d+2) (d+2)=true from Er _]at h;cases h)]
  ·cases dst with
   |none=>cases h
   |some d=>
    simp only[aw];rw[ra (λe=>by
     have h:(!Nat.beq (pts.getD d 0) (d+2))=true:=h;rw[e,show Nat.beq (d+2) (d+2)=true from Er _]at h;cases h)]
  next c=>
   simp only[aw];split at h
   next f=>rw[f]
   ·cases h
 unfold Dv at b;rw[g]at b;cases b
def xH{N:Tb}(T:∀f n,N f=some n->ET N C f n=true)(K:∀f args H r H',Kno.kh f args H r H'->N f=none∨(N f=some (2*args.length+1)/\H'=H)):∀n,(BH N (sm C n).toBelow/\∀pts c,L2 N pts c=true->∀σ e σ',(sm C n).ex pts c σ e σ'->σ'.heap=σ.heap)/\
  ∀pts s c,CX N pts s c=true->∀σ e σ',DF s σ->(sm C n).ex pts c σ e σ'->σ'.heap=σ.heap/\DF s σ'/\∀H,(sm C n).ex pts c { σ with heap:=H } e { σ' with heap:=H }
 |0=>⟨⟨⟨λf args H r H' i h=>(by
   rcases h with h|h
   ·exact⟨h.2,λP=>.inl ⟨h.1,rfl⟩⟩
   ·have i:N f=some (2*args.length):=i;rcases K f args H r H' h with e|⟨e,_⟩
    ·rw[e]at i;cases i
    ·rw[e]at i;have:=AR i;omega),λf args H r H' i h=>(by
   rcases h with h|h
   ·exact h.2
   ·have i:N f=some (2*args.length+1):=i;rcases K f args H r H' h with e|⟨_,e⟩
    ·rw[e]at i;cases i
    ·exact e)⟩,λ_ _ _ _ _ _ h=>absurd h id⟩,λ_ _ _ _ _ _ _ _ h=>absurd h id⟩
 |n+1=>by
  obtain⟨⟨z,p⟩,k⟩:=xH T K n;refine⟨⟨⟨λf args H r H' i h=>?_,λf args H r H' i h=>?_⟩,λpts c d σ e σ' h=>?_⟩,λpts s c d σ e σ' w h=>?_⟩
  rotate_left
  ·rcases h with h|⟨R,b,e,σ,Z,Q,c2,c3,c4,c5,c6,c7,c8,c9⟩
   ·rcases h with h|h
    ·exact h.2
    ·have i:N f=some (2*args.length+1):=i;rcases K f args H r H' h with e|⟨_,e⟩
     ·rw[e]at i;cases i
     ·exact e
   ·have G:=T f _ i;have S:=(qb5.1 c3).2;unfold ET at G;have M:Nat.beq ((2*args.length+1)%2) 0=false:=by
     rw[show(2*args.length+1)%2=1 by omega];rfl
    simp only[Q,c2,M,S,qdN]at G;exact c9.trans (p _ _ G _ _ _ c4)
  ·have h:ob C (sm C n) pts c σ e σ':=h;cases c with
   |skip=>obtain⟨rfl,rfl⟩:=h;rfl
   |label l=>obtain⟨rfl,rfl⟩:=h;rfl
   |ret=>obtain⟨rfl,rfl⟩:=h;rfl
   |exit id=>obtain⟨rfl,rfl⟩:=h;rfl
   |seq a b=>
    simp only[L2,wa]at d;obtain⟨e₁,σ₁,j,g⟩:=h;have q:=p _ _ d.1 _ _ _ j;rcases g with⟨rfl,g⟩|⟨g,rfl,rfl⟩
    ·exact(p _ _ d.2 _ _ _ g).trans q
    ·exact q
   |cond x a b=>
    simp only[L2,wa]at d;obtain⟨t,j,g⟩:=h;cases t with
    |true=>exact p _ _ d.1 _ _ _ g
    |false=>exact p _ _ d.2 _ _ _ g
   |block id b=>
    obtain⟨e₁,j,rfl⟩:=h;exact p pts b d _ _ _ j
   |scope b=>exact p pts b d _ _ _ h
   |loop b=>
    obtain⟨e₁,σ₁,j,g⟩:=h;have q:=p pts b d _ _ _ j;rw[wR]at q;rcases g with⟨rfl,g⟩|⟨g,rfl,rfl⟩
    ·exact(p pts (.loop b) d _ _ _ g).trans q
    ·exact q
   |region id u y=>
    obtain⟨rfl,F⟩:=h;cases y with
    |true=>
     obtain⟨σ₀,J,j⟩ : ∃σ₀,fJ σ σ₀/\eD C (sm C n).toBelow pts u σ₀ σ':=F;rcases j with j|⟨sl,m,Y,_⟩
     ·exact(Lh z d _ (j 0)).trans J.2.1
     ·exfalso;obtain⟨o,W,X⟩:=qcn.1 Y;exact UK X (qac.1 d o W)
    |false=>
     have F:fo C (sm C n).toBelow pts u (List.range u.size) σ σ':=F;exact Ge z d _ F
   |_=>cases d
  rotate_right
  ·rcases h with h|⟨R,b,e,σ,Z,Q,c2,c3,c4,c5,c6,c7,c8,c9⟩
   ·rcases h with h|h
    ·exact⟨h.2,λP=>.inl (.inl ⟨h.1,rfl⟩)⟩
    ·have i:N f=some (2*args.length):=i;rcases K f args H r H' h with e|⟨e,_⟩
     ·rw[e]at i;cases i
     ·rw[e]at i;have:=AR i;omega
   ·have G:=T f _ i;unfold ET at G;have U:Nat.beq (2*args.length%2) 0=true:=by
     rw[show 2*args.length%2=0 by omega];rfl
    simp only[Q,c2,U,wa,qac,show 2*args.length / 2=args.length by omega]at G;have w:DF (gR R.results.toList) (lW R args H):=by
     intro a ha v O;have V:args.length<=a:=by simpa using G.2 a ha
     simp only[lW]at O;rw[Cv V,IG]at O;split at O
     ·cases O;trivial
     ·cases O
    obtain⟨d1,d2,d3⟩:=k _ _ _ G.1 _ _ _ w c4;refine⟨c9.trans d1,λP=>.inr ⟨R,b,e,_,Z,Q,c2,c3,d3 P,c5,?_,c7,c8,rfl⟩⟩;rw[pg d2 P _ (λa h=>h)];exact c6
  ·have h:ob C (sm C n) pts c σ e σ':=h;show _/\_/\∀H,ob C (sm C n) pts c { σ with heap:=H } e { σ' with heap:=H };cases c with
   |skip=>obtain⟨rfl,rfl⟩:=h;exact⟨rfl,w,λH=>⟨rfl,rfl⟩⟩
   |label l=>obtain⟨rfl,rfl⟩:=h;exact⟨rfl,w,λH=>⟨rfl,rfl⟩⟩
   |ret=>obtain⟨rfl,rfl⟩:=h;exact⟨rfl,w,λH=>⟨rfl,rfl⟩⟩
   |exit id=>obtain⟨rfl,rfl⟩:=h;exact⟨rfl,w,λH=>⟨rfl,rfl⟩⟩
   |seq a b=>
    simp only[CX,wa]at d;obtain⟨e₁,σ₁,j,g⟩:=h;obtain⟨q,A,I⟩:=k _ _ _ d.1 _ _ _ w j;rcases g with⟨rfl,g⟩|⟨g,rfl,rfl⟩
    ·obtain⟨B,D,E⟩:=k _ _ _ d.2 _ _ _ A g;exact⟨B.trans q,D,λH=>⟨_,_,I H,.inl ⟨rfl,E H⟩⟩⟩
    ·exact⟨q,A,λH=>⟨_,_,I H,.inr ⟨g,rfl,rfl⟩⟩⟩
   |cond x a b=>
    simp only[CX,wa]at d;obtain⟨t,j,g⟩:=h;cases t with
    |true=>
     obtain⟨B,D,E⟩:=k _ _ _ d.1 _ _ _ w g;exact⟨B,D,λH=>⟨true,j,E H⟩⟩
    |false=>
     obtain⟨B,D,E⟩:=k _ _ _ d.2 _ _ _ w g;exact⟨B,D,λH=>⟨false,j,E H⟩⟩
   |block id b=>
    obtain⟨e₁,j,rfl⟩:=h;obtain⟨B,D,E⟩:=k pts s b d _ _ _ w j;exact⟨B,D,λH=>⟨_,E H,rfl⟩⟩
   |scope b=>exact k pts s b d _ _ _ w h
   |loop b=>
    obtain⟨e₁,σ₁,j,g⟩:=h;obtain⟨q,A,I⟩:=k pts s b d _ _ _ (Jr w) j;rw[wR]at q;rcases g with⟨rfl,g⟩|⟨g,rfl,rfl⟩
    ·obtain⟨B,D,E⟩:=k pts s (.loop b) d _ _ _ A g;exact⟨B.trans q,D,λH=>⟨_,_,by rw[Fj];exact I H,.inl ⟨rfl,E H⟩⟩⟩
    ·exact⟨q,A,λH=>⟨_,_,by rw[Fj];exact I H,.inr ⟨g,rfl,rfl⟩⟩⟩
   |region id u y=>
    obtain⟨rfl,F⟩:=h;cases y with
    |true=>
     obtain⟨σ₀,J,j⟩ : ∃σ₀,fJ σ σ₀/\eD C (sm C n).toBelow pts u σ₀ σ':=F;have L:=qN w J;rcases j with j|⟨sl,m,Y,_⟩
     case inr=>
      exfalso;obtain⟨o,W,X⟩:=qcn.1 Y;exact Pt X (qac.1 d o W)
     obtain⟨q,A,_⟩:=wg z d _ L (j 0);refine⟨q.trans J.2.1,A,λH=>⟨rfl,⟨_,ml J H,.inl λt=>?_⟩⟩⟩;exact(wg z d _ L (j t)).2.2 H
    |false=>
     have F:fo C (sm C n).toBelow pts u (List.range u.size) σ σ':=F;obtain⟨q,A,I⟩:=xP z d _ w F;exact⟨q,A,λH=>⟨rfl,I H⟩⟩
   |_=>cases d
def X7{N:Tb}(a:∀f n,N f=some n->ET N C f n=true)(b:∀f args H r H',Kno.kh f args H r H'->N f=none∨(N f=some (2*args.length+1)/\H'=H))(pts:Tx)(ops:Tl)(h:uS N pts ops=true)(n:Nat)(σ σ':St)(c:bJ C (sm C n).toBelow pts ops (List.range ops.size) σ σ') :
  eD C (sm C n).toBelow pts ops σ σ':=Sq (xH a b n).1.1 h c
end
end Sx
def LK.plain:LK->Bool
 | .v=>false
 |_=>true
def SK.plain:SK->Bool
 | .leaf k=>k.plain
 | .agg ks=>ks.all LK.plain
def Sig.plain(s:Sig):Bool:=s.ps.all SK.plain&&s.rs.all SK.plain
namespace Sx
section
variable [Val] [Kno]
variable {w:TB}
def wh(k:TF)(c:Int)(K:Int->RT):D3 k c K=K (k.wrap c):=by
 unfold D3;cases e:Hy k c with
 |true=>rw[uk e]
 |false=>exact jJ _ _
def Lj(c:Int)(K:Int->RT):RF c K=K (IntKind.wrap .i64 c):=by
 refine Eq.trans ?_ (wh .i64 c K);cases c<;>rfl
def Lk(c:Int)(K:Int->RT):RG c K=K (IntKind.wrap .u8 c):=by
 refine Eq.trans ?_ (wh .u8 c K);cases c<;>rfl
def oT(k:TF)(c:Int)(K:Int->RT):De k c K=K (k.wrap c):=by
 cases k<;>first|exact wh _ _ _|exact Lj _ _|exact Lk _ _
def Nk(a b:Int)(K:Int->RT):Sp a b K=K (a+b):=by
 unfold Sp;cases a with
 |ofNat m=>
  cases b with
  |ofNat n=>exact congrArg K rfl
  |negSucc n=>
   simp only[fQ];cases e:Nat.blt n m with
   |true=>rw[BW]at e;exact congrArg K (show Int.ofNat (m - (n+1))=Int.ofNat m+Int.negSucc n by simp only[Eo,Ig];omega)
   |false=>
    have e:¬n<m:=λh=>by rw[←BW,e]at h;cases h
    exact congrArg K (show Int.negSucc (n - m)=Int.ofNat m+Int.negSucc n by simp only[Eo,Ig];omega)
 |negSucc m=>
  cases b with
  |ofNat n=>
   simp only[fQ];cases e:Nat.blt m n with
   |true=>rw[BW]at e;exact congrArg K (show Int.ofNat (n - (m+1))=Int.negSucc m+Int.ofNat n by simp only[Eo,Ig];omega)
   |false=>
    have e:¬m<n:=λh=>by rw[←BW,e]at h;cases h
    exact congrArg K (show Int.negSucc (m - n)=Int.negSucc m+Int.ofNat n by simp only[Eo,Ig];omega)
  |negSucc n=>exact congrArg K (show Int.negSucc (m+n+1)=Int.negSucc m+Int.negSucc n by simp only[Ig];omega)
def Ql(a b:Int)(K:Int->RT):Vv a b K=K (a - b):=by
 unfold Vv;cases a with
 |ofNat m=>
  cases b with
  |ofNat n=>
   simp only[fQ];cases e:Nat.ble n m with
   |true=>rw[Ds]at e;exact congrArg K (show Int.ofNat (m - n)=Int.ofNat m - Int.ofNat n by simp only[Eo];omega)
   |false=>
    have e:¬n<=m:=λh=>by rw[←Ds,e]at h;cases h
    exact congrArg K (show Int.negSucc (n - (m+1))=Int.ofNat m - Int.ofNat n by simp only[Eo,Ig];omega)
  |negSucc n=>exact congrArg K (show Int.ofNat (m+n+1)=Int.ofNat m - Int.negSucc n by simp only[Eo,Ig];omega)
 |negSucc m=>
  cases b with
  |ofNat n=>exact congrArg K (show Int.negSucc (m+n)=Int.negSucc m - Int.ofNat n by simp only[Eo,Ig];omega)
  |negSucc n=>
   simp only[fQ];cases e:Nat.ble m n with
   |true=>rw[Ds]at e;exact congrArg K (show Int.ofNat (n - m)=Int.negSucc m - Int.negSucc n by simp only[Eo,Ig];omega)
   |false=>
    have e:¬m<=n:=λh=>by rw[←Ds,e]at h;cases h
    exact congrArg K (show Int.negSucc (m - (n+1))=Int.negSucc m - Int.negSucc n by simp only[Ig];omega)
def Pj(a b:Int)(K:Int->RT):UB a b K=K (a*b):=by
 unfold UB;cases a with
 |ofNat m=>
  cases b with
  |ofNat n=>exact congrArg K rfl
  |negSucc n=>
   cases m with
   |zero=>exact congrArg K (show Int.ofNat 0=Int.ofNat 0*Int.negSucc n by simp)
   |succ m=>
    refine congrArg K (show Int.negSucc ((m+1)*n+m)=Int.ofNat (m+1)*Int.negSucc n from ?_);simp only[Eo,Ig,qdT,qdU];simp only[qdV,Int.mul_neg,Int.mul_add,Int.add_mul];omega
 |negSucc m=>
  cases b with
  |ofNat n=>
   cases n with
   |zero=>exact congrArg K (show Int.ofNat 0=Int.negSucc m*Int.ofNat 0 by simp)
   |succ n=>
    refine congrArg K (show Int.negSucc (m*(n+1)+n)=Int.negSucc m*Int.ofNat (n+1)from ?_);simp only[Eo,Ig,qdT,qdU];simp only[qdV,Int.neg_mul,Int.mul_add,Int.add_mul];omega
  |negSucc n=>
   refine congrArg K (show Int.ofNat ((m+1)*(n+1))=Int.negSucc m*Int.negSucc n from ?_);simp only[Eo,Ig,qdT,qdU];simp only[qdV,Int.neg_mul_neg]
def P0(a b:Int)(K:Int->RT):Vk a b K=K (Int.tdiv a b):=by
 unfold Vk;cases a with
 |ofNat m=>
  cases b with
  |ofNat n=>exact congrArg K rfl
  |negSucc n=>exact jJ _ _
 |negSucc m=>exact jJ _ _
def P3(a b:Int)(K:Int->RT):Vn a b K=K (Int.tmod a b):=by
 unfold Vn;cases a with
 |ofNat m=>
  cases b with
  |ofNat n=>exact congrArg K rfl
  |negSucc n=>exact jJ _ _
 |negSucc m=>exact jJ _ _
def ux{b:Int}(h:isZ b=false):b≠0:=by
 intro e;subst e;cases h
def FC{k:TF}{c:Int}{K:Int->RT}(h:De k c K=some w):K (k.wrap c)=some w:=(oT k c K).symm.trans h
def Np{d:BinOp}{k:TF}{a b:Int}{K:Int->RT}(h:Sv d k a b K=some w):∃n,rf d k a b n/\K n=some w:=by
 cases d<;>simp only[Sv,reduceCtorEq]at h
 ·rw[Nk,oT]at h;exact⟨_,λP t w=>by simp[binOp,Op.intArith],h⟩
 ·rw[Ql,oT]at h;exact⟨_,λP t w=>by simp[binOp,Op.intArith],h⟩
 ·rw[Pj,oT]at h;exact⟨_,λP t w=>by simp[binOp,Op.intArith],h⟩
 ·cases c:isZ b with
  |true=>rw[c]at h;cases h
  |false=>
   rw[c]at h;simp only[P0,oT]at h;have c:=ux c;exact⟨_,λP t w=>by simp[binOp,Op.intDiv,c],h⟩
 ·cases c:isZ b with
  |true=>rw[c]at h;cases h
  |false=>
   rw[c]at h;simp only[P3]at h;have c:=ux c;exact⟨_,λP t w=>by simp[binOp,Op.intDiv,c],h⟩
 ·split at h
  next c=>
   have c:=eqI_iff.1 c;subst c;rw[jJ]at h;exact⟨_,pr rfl,h⟩
  ·split at h
   ·rw[jJ]at h;exact⟨_,wq _ _,FC h⟩
   ·cases h
 ·split at h
  ·rw[jJ]at h;exact⟨_,zM _ _,FC h⟩
  ·cases h
 ·split at h
  ·rw[jJ]at h;exact⟨_,wt _ _,FC h⟩
  ·cases h
def TM(x y:Int):eqI x y=(x==y):=by rw[IK,eqI_iff,beq_iff_eq]
def vB(x y:Int):JO x y=(x==y):=by
 rw[←TM];cases x<;>cases y<;>rfl
def Uk(x y:Int):O2 x y=decide (x<=y):=by rw[IK,leZ_iff,decide_eq_true_iff]
def Pu(b:Bool):Lc b = !b:=by cases b<;>rfl
def NV{c:BinOp}{a b:Int}{K:Bool->RT}(h:SY c a b K=some w):∃t,qc c a b=some t/\K t=some w:=by
 cases c<;>simp only[SY,reduceCtorEq,vB,Uk,Pu]at h
 ·exact⟨_,rfl,h⟩
 ·exact⟨_,rfl,h⟩
 ·exact⟨_,rfl,by rw[show decide (a<b) = !decide (b<=a)by rw[IK];simp];exact h⟩
 ·exact⟨_,rfl,h⟩
 ·exact⟨_,rfl,by rw[show decide (a > b) = !decide (a<=b)by rw[IK];simp];exact h⟩
 ·exact⟨_,rfl,h⟩
def Og(a b:Lf):EG a b=gJ a b:=by
 cases a<;>cases b<;>try rfl
 ·exact vB _ _
 next x y=>cases x<;>cases y<;>rfl
def Oq(l:List (Lf×Lf)):TS l=cp l:=by
 unfold cp
 induction l with
 |nil=>rfl
 |cons p l a=>
  show(Bool.rec false (TS l) (EG p.1 p.2):Bool)=_;rw[Og,PY,a];cases gJ p.1 p.2<;>rfl
def Oo{l:List (Lf×Lf)}{K:Bool->RT}(h:YH l K=some w):K (cp l)=some w:=by
 rw[←Oq];exact h
structure CallBOk(C:Cfg)(Sg:Tc)(T:Tq)(call:gM):Prop where
 f:∀g ls h K w,dQ ls->call (.f g) ls h K=some w->∃rs h',aD C Sg g ls (ka T (Br h)) rs (ka T (Br h'))/\K rs h'=some w
def ow(T:Tq)(h:HL):zz T h=λi=>(ka T h)[i]?:=by
 funext i
 simp only[zz,ka,AX];cases h[i]?<;>rfl
def ON(T:Tq)(h:HTr):Dn T h=λi=>(ka T (Br h))[i]?:=by
 funext i
 simp only[Dn,ka,AX,pG,Option.map_map];cases h.at i<;>rfl
def nk(T:Tq)(h:HTr):Dn T h=zz T (Br h):=(ON T h).trans (ow T (Br h)).symm
def ou{T:Tq}{h:HTr}{i:Nat}{x:HOT}(e:h.at i=some x):zz T (Br h) i=some (Cb T x.ho):=by
 rw[←nk];unfold Dn;rw[e]
def mM(T:Tq)(h:HL):(ka T h).length=h.length:=by simp[ka]
def I1(T:Tq)(h:HL)(i:Nat)(o:HO):ka T (h.set i o)=(ka T h).set i (Cb T o):=by simp[ka,LZ]
def nE(T:Tq)(h:HL)(o:HO):ka T (h++[o])=ka T h++[Cb T o]:=by simp[ka]
def kO(T:Tq):∀(l:List Act1) (h:HL),ka T (bK h l)=gE (ka T h) l
 | [],h=>rfl
 |a :: l,h=>by
  have b:=kO T l (a.onH h);show ka T (bK (a.onH h) l)=gE (a.on (ka T h)) l;rw[b]
  congr 1
  cases a with
  |set i o=>exact I1 T h i _
  |push o=>exact nE T h _
def ri:∀ {l:List Act1} {h:HTr} {k:HTr->RT},yJ l h k=some w->∃h',Br h'=bK (Br h) l/\k h'=some w
 | [],h,k,a=>⟨h,rfl,a⟩
 | .set i o :: l,h,k,a=>by
  have a:(uz o λo=>D8 h i o λh=>yJ l h k)=some w:=a;obtain⟨x,b,c⟩:=jS (o:=o) (k:=λo=>D8 h i o λh=>yJ l h k);rw[c,sN]at a;obtain⟨h',e,a⟩:=ri a;exact⟨h',by rw[e,tr,b];rfl,a⟩
 | .push o :: l,h,k,a=>by
  have a:(uz o λo=>mJ h o λh=>yJ l h k)=some w:=a;obtain⟨x,b,c⟩:=jS (o:=o) (k:=λo=>mJ h o λh=>yJ l h k);rw[c,ko]at a;obtain⟨h',e,a⟩:=ri a;exact⟨h',by rw[e,kM,b];rfl,a⟩
def yw(s:To):Mp s=(s != some 0):=by
 cases s with
 |none=>rfl
 |some k=>cases k<;>rfl
def xi(v:Value):DT v=aC v:=by
 unfold DT;split
 next a=>
  rw[yw];simp[aC,noLoc,aR,bh,aX,aJ,aA]
 next a _ _=>
  rw[yw];simp[aC,noLoc,aR,bh,aX,aJ,aA]
 ·rfl
def vN{α:Type}(l:List α):O3 l=l.length:=by
 induction l with
 |nil=>rfl
 |cons a l b=>exact congrArg Nat.succ b
def Ui{T:Tq}{n:Nat}{p:Value}{h:HTr}{K:Tk->RT}(b:ldB n p h K=some w):∃cs,ldP n p (zz T (Br h))=some cs/\K cs=some w:=by
 unfold ldB at b;split at b
 next a=>
  split at b
  next g=>
   split at b
   next m e i c f=>
    split at b
    next d=>
     rw[Ds]at d;refine⟨_,?_,b⟩;unfold ldP;simp only[g,gT,ou f,HOT.ho,Cb,A7,cut];rw[mc (by rw[bp];exact d),ku c n a.off m d]
    ·cases b
   ·cases b
  ·cases b
 ·cases b
def Um{T:Tq}{C:Cfg}{n:Nat}{p:Value}{h:HTr}{K:Tk->RT}(b:lgB C n p h K=some w):∃cs,VP C n p (zz T (Br h))=some cs/\K cs=some w:=by
 unfold lgB at b;split at b
 next a=>
  split at b
  next g=>
   split at b
   next m e o c f=>
    split at b
    next d=>
     rw[Ds]at d;refine⟨_,?_,b⟩;unfold VP;simp only[g,gT,ou f,HOT.ho,Cb,A7,cut];rw[mc (by rw[bp];exact d),ku c n a.off m d]
    ·cases b
   ·cases b
  next k g=>
   split at b
   next j=>
    split at b
    next q l=>
     split at b
     next cs i=>
      refine⟨cs,?_,b⟩;unfold VP;simp only[g,j,l,A7];rw[nM]at i;exact i
     ·cases b
    ·cases b
   ·cases b
 ·cases b
def Vt{T:Tq}{p:Value}{new:Tk}{h:HTr}{K:Tk->HTr->RT}{n0:Nat}(b:stB p new h K=some w) :
  ∃d cs h',E5 p new (zz T (Br h)) n0=some (d,cs)/\Br h'=bK (Br h) d/\K cs h'=some w:=by
 unfold stB at b;split at b
 next a=>
  split at b
  next i=>
   split at b
   next m e c g=>
    split at b
    next f=>
     rw[Ds,vN]at f;rw[oE,sN]at b;refine⟨[.set a.block (.cells (cM (CU new a.off c) m) e true)],[],_,?_,?_,b⟩
     ·unfold E5;simp only[i,ou g,HOT.ho,Cb,splice];rw[mc (by rw[bp];exact f),pY f];rfl
     ·rw[tr];rfl
    ·cases b
   ·cases b
  ·cases b
 ·cases b
def yy{s:To}{esz:Nat}:MM s esz=true↔s=qs esz:=by
 unfold MM qs;cases s with
 |none=>simp
 |some k=>simp only[Nat.beq_eq,B7];try rfl
def Vo{C:Cfg}{T:Tq}{esz:Nat}{x:Value}{h:HTr}{K:Tk->Nat->RT}(b:slB C T esz x h K=some w) :
  ∃l n,IQ C esz (zz T (Br h)) x=some (l,n)/\K l n=some w:=by
 have d:∀ {x:Value},(match IQ C esz (Dn T h) x with|some p=>K p.1 p.2|none=>none)=some w->∃l n,IQ C esz (zz T (Br h)) x=some (l,n)/\K l n=some w:=by
  intro x b;split at b
  next p e=>
   rw[nk]at e;exact⟨p.1,p.2,e,b⟩
  ·cases b
 unfold slB at b;split at b
 next a k q=>
  split at b
  next f=>
   have f:=yy.1 f;split at b
   next m e o c j=>
    split at b
    next g i=>
     have g:=AW g;rw[Ds]at i;subst g;refine⟨_,_,?_,b⟩;unfold IQ;simp only[ou j,HOT.ho,Cb];rw[ra (by rw[f];simp[qs]),mc f]
     first|rw[mc rfl]|rw[mc trivial]
     rw[cut,mc (by rw[bp];exact i),ku c _ a.off m i];rfl
    ·cases b
   ·cases b
  ·exact d b
 ·exact d b
def xj{c:Tr Value}{m off b esz:Nat}{new:Tk}{k:HOT->RT}(f:off+b<=m)(a:FG c m off b esz new k=some w) :
  ∃x:HOT,x.ho = .o (.cells (((cM c m).drop off).take b++new) esz true)/\k x=some w:=by
 unfold FG at a;split at a
 next d e=>
  have d:=AW d;have e:=AW e;subst d e;rw[oE,fQ,vN]at a;refine⟨_,?_,a⟩;show HO.o (.cells (cM (CU new b c) (b+new.length)) esz true)=_;rw[nI,Gl,CJ (by rw[bp];exact Ah _)]
 ·rw[ku c b off m f]at a;obtain⟨x,g,h⟩:=jS (o:=.cells (((cM c m).drop off).take b++new) esz true) (k:=k);rw[h]at a;exact⟨x,g,a⟩
def Sr{C:Cfg}{T:Tq}{esz bytes:Nat}{s x:Value}{h:HTr}{K:Tk->HTr->RT}(b:apB T C esz bytes s x h K=some w) :
  ∃g cs h',Cd C esz bytes s x (zz T (Br h)) (Br h).length=some (g,cs)/\Br h'=bK (Br h) g/\K cs h'=some w:=by
 obtain⟨f,n,v,b⟩:=Vo b;unfold Cd;rw[v,iI];simp only at b ⊢;split at b
 ·cases n with
  |zero=>exact⟨_,_,h,rfl,rfl,b⟩
  |succ n=>
   simp only at b;split at b
   next F=>
    obtain⟨y,l,E⟩:=jS (o:=.cells f esz true) (k:=λo=>mJ h o λh'=>fN (n+1) λn=>K [.slice (some ⟨h.n,0,qs esz⟩) n 0] h');rw[E,ko,fQ]at b;refine⟨[.push (.cells f esz true)],_,_,?_,?_,b⟩
    ·show(if n+1=0 then some ([],[Value.slice none 0 0])else if bb (n+1) bytes then _ else none)=_;rw[ra (by omega),mc F]
    ·rw[kM,l];rfl
   ·cases b
 next a d D _=>
  split at b
  ·cases b
  next z=>
   have z:=yy.1 z;split at b
   next m e G c t=>
    split at b
    next r B=>
     have r:=AW r;rw[Ds]at B;subst r;have u:a.off+d*e<=m:=B;have p:cut (cM c m) a.off (d*e)=some (((cM c m).drop a.off).take (d*e)):=by rw[cut,mc (by rw[bp];exact u)]
     simp only[z,ne_eq,not_true_eq_false,if_false,ou t,HOT.ho,Cb,p];cases D with
     |zero=>
      simp only at b ⊢;cases n with
      |zero=>exact⟨[],_,h,by first|rw[mc rfl]|rw[mc trivial],rfl,b⟩
      |succ n=>
       simp only at b;split at b
       next A i=>
        obtain⟨y,l,b⟩:=xj u b;rw[sN,ko,fQ]at b;refine⟨[.set a.block .dead,.push (.cells (((cM c m).drop a.off).take (d*e)++f) e true)],_,_,by rw[ra (by omega),mc (by rw[i];rfl)],?_,b⟩;rw[kM,tr,l];rfl
       ·cases b
     |succ q=>
      simp only at b ⊢;split at b
      next j=>
       rw[Ds]at j;split at b
       next A i=>
        rw[Ds,vN]at i;have i:a.off+d*e+f.length<=m:=i;rw[oE,sN,fQ]at b;refine⟨[.set a.block (.cells ((cM c m).take (a.off+d*e)++f++(cM c m).drop (a.off+d*e+f.length)) e true)],_,_,by rw[mc j,mc rfl,splice,mc (by rw[bp];exact i)];rfl,?_,b⟩;rw[tr];show(Br h).set a.block (.o (.cells (cM (CU f (a.off+d*e) c) m) e true))=_;rw[pY i];rfl
       ·cases b
      next j=>
       have j:¬d+n<=q:=λh=>by rw[←Ds,j]at h;cases h
       split at b
       next A=>
        obtain⟨y,l,b⟩:=xj u b;rw[ko,fQ]at b;refine⟨[.push (.cells (((cM c m).drop a.off).take (d*e)++f) e true)],_,_,by rw[ra j,mc A],?_,b⟩;rw[kM,l];rfl
       ·cases b
    ·cases b
   ·cases b
 ·cases b
def Kn{T:Tq}{f:Hp}{h:HTr}{K:Tk->HTr->RT}(a:FK T f h K=some w) :
  ∃b cs h',f.run (zz T (Br h)) (Br h).length=some (b,cs)/\Br h'=bK (Br h) b/\K cs h'=some w:=by
 unfold FK at a;cases f with
 |st p g=>exact Vt (n0:=(Br h).length) a
 |ap C d bytes s x=>exact Sr a
 |fn f=>
  simp only at a;rw[nk]at a;split at a
  next p e=>
   rw[oX]at a;obtain⟨h',c,a⟩:=ri a;exact⟨p.1,p.2,h',by rw[iI];exact e,c,a⟩
  ·cases a
def GQ{k:LK}{v:Value}{l:SL}(h:IB k v=some l):l.is k=true/\l.val=v/\l.good:=by
 cases k with
 |i k=>
  cases v<;>simp only[IB]at h<;>first|cases h|skip
  split at h
  next e=>cases h;exact⟨e,rfl,trivial⟩
  ·cases h
 |b=>
  cases v<;>simp only[IB]at h<;>cases h;exact⟨rfl,rfl,trivial⟩
 |v=>
  simp only[IB]at h;split at h
  next e=>cases h;exact⟨rfl,rfl,e⟩
  ·cases h
def yD:∀ {ks:TE} {vs:Tk} {xs:List SL},GR ks vs=some xs->aZ xs ks=true/\xs.map SL.val=vs/\∀x∈xs,x.good
 | [],[],xs,h=>by cases h;exact⟨rfl,rfl,λ_ h=>by cases h⟩
 |k :: ks,v :: vs,xs,h=>by
  simp only[GR]at h;split at h
  next x e=>
   split at h
   next ys j=>
    cases h;obtain⟨b,c,d⟩:=GQ e;obtain⟨f,g,i⟩:=yD j;refine⟨by simp[aZ,b,f],by simp[c,g],λy a=>?_⟩;rcases qas.1 a with rfl|a
    ·exact d
    ·exact i y a
   ·cases h
  ·cases h
 | [],_ :: _,_,h=>by cases h
 |_ :: _,[],_,h=>by cases h
def Qr{d:SK}{v:Value}{x:S0}(h:Vz d v=some x):x.is d=true/\x.val=v/\x.good:=by
 cases d with
 |leaf k=>
  obtain⟨l,e,rfl⟩:=qag.1 h;obtain⟨a,b,c⟩:=GQ e;refine⟨a,b,λy f=>?_⟩;simp only[S0.cells,qav]at f;subst f;exact c
 |agg g=>
  cases v<;>simp only[Vz]at h<;>first|cases h|skip
  obtain⟨l,e,rfl⟩:=qag.1 h;obtain⟨a,b,c⟩:=yD e;exact⟨a,by simp[S0.val,b],c⟩
def yC:∀ {sks:TH} {vs:Tk} {xs:List S0},GP sks vs=some xs->cZ xs sks=true/\av xs=vs/\∀x∈xs,x.good
 | [],[],xs,h=>by cases h;exact⟨rfl,rfl,λ_ h=>by cases h⟩
 |k :: ks,v :: vs,xs,h=>by
  simp only[GP]at h;split at h
  next x e=>
   split at h
   next ys j=>
    cases h;obtain⟨c,d,f⟩:=Qr e;obtain⟨g,b,i⟩:=yC j;refine⟨by simp[cZ,c,g],by simp only[av,A5,d]at b ⊢;rw[b],λy a=>?_⟩;rcases qas.1 a with rfl|a
    ·exact f
    ·exact i y a
   ·cases h
  ·cases h
 | [],_ :: _,_,h=>by cases h
 |_ :: _,[],_,h=>by cases h
def Ft{a b:LK}(h:Of a b=true):a=b:=by
 cases a<;>cases b<;>simp only[Of]at h<;>first|rfl|cases h|skip
 rw[dF h]
def xb:∀ {a b:TE},Fu a b=true->a=b
 | [],[],_=>rfl
 |a :: l,b :: m,h=>by
  simp only[Fu,wa]at h;rw[Ft h.1,xb h.2]
 | [],_ :: _,h=>by cases h
 |_ :: _,[],h=>by cases h
def Oj{a b:SK}(h:TO a b=true):a=b:=by
 cases a<;>cases b<;>simp only[TO]at h<;>first|cases h|skip
 ·rw[Ft h]
 ·rw[xb h]
def xd:∀ {a b:TH},Fv a b=true->a=b
 | [],[],_=>rfl
 |a :: l,b :: m,h=>by
  simp only[Fv,wa]at h;rw[Oj h.1,xd h.2]
 | [],_ :: _,h=>by cases h
 |_ :: _,[],h=>by cases h
def fS:∀ {ls:TB},jO ls=true->dQ ls
 | [],_=>λ_ h=>by cases h
 | .i n :: ls,h=>λl hl=>by
  rcases qas.1 hl with rfl|hl
  ·trivial
  ·exact fS (ls:=ls) h l hl
 | .b n :: ls,h=>λl hl=>by
  rcases qas.1 hl with rfl|hl
  ·trivial
  ·exact fS (ls:=ls) h l hl
 | .v n :: ls,h=>λl hl=>by
  have h:(match DT n with|true=>jO ls|false=>false)=true:=h;split at h
  next e=>
   rw[xi]at e;rcases qas.1 hl with rfl|hl
   ·exact e
   ·exact fS (ls:=ls) h l hl
  ·cases h
def wO{C:Cfg}{Sg:Tc}{T:Tq}{call:gM}(c:CallBOk C Sg T call){g:TK}{ls:TB}{h:HTr}{K:TB->HTr->RT}(a:Fh call g ls h K=some w) :
  ∃b h',aD C Sg g ls (ka T (Br h)) b (ka T (Br h'))/\K b h'=some w:=by
 unfold Fh at a;split at a
 next e=>exact c.f g ls h K w (fS e) a
 ·cases a
def vr{C:Cfg}{Sg:Tc}{T:Tq}{call:gM}(m:CallBOk C Sg T call){g:TK}{f:Option (TH)}{b:Tk}{h:HTr}{K:TB->HTr->RT}(a:ry Sg call g f b h K=some w) :
  ∃sg c ys h',Sg g=some sg/\(∀x,f=some x->sg.rs=x)/\Told sg.rs c ys/\pV C g b (ka T (Br h)) (gq (av ys)) (ka T (Br h'))/\K c h'=some w:=by
 unfold ry at a;split at a
 ·cases a
 next sg e=>
  split at a
  ·cases a
  next k=>
   split at a
   ·cases a
   next s l=>
    obtain⟨c,h',⟨o,q,ys,d,c2,c3,c4⟩,a⟩:=wO m a;rw[e]at d;cases d;obtain⟨i,j,r⟩:=yC l;obtain⟨p,_⟩:=dz c2.1 i c2.2.1;rw[p,j]at c4;refine⟨sg,c,ys,h',e,λx n=>?_,c3,c4,a⟩;subst n;exact xd k
def G2{C:Cfg}{Sg:Tc}{T:Tq}{call:gM}(e:CallBOk C Sg T call){v:Value}{args:Tk}{d:TH}{h:HTr}{K:TB->HTr->RT}(a:Ew Sg call v args d h K=some w) :
  ∃b h',tB C v args d (ka T (Br h)) b (ka T (Br h'))/\K b h'=some w:=by
 unfold Ew at a;split at a
 next j first c=>
  split at a
  next g=>
   obtain⟨k,b,f,h',i,c2,c3,c4,c5⟩:=vr e a;rw[c2 _ rfl]at c3;exact⟨b,h',⟨f,c3,.inl ⟨g,first,c,rfl,c4⟩⟩,c5⟩
  ·cases a
 ·cases a
def Gz{e:BinOp}{k d:TF}{a b:Int}{K:Int->RT}(h:Md e k a d b K=some w):∃n,Fe e k a d b n/\K n=some w:=by
 unfold Md at h;split at h
 next c=>
  have c:¬b<0:=by have:=leZ_iff.1 c;omega
  split at h
  ·rw[jJ]at h;exact⟨_,λP t w=>by simp[binOp,Op.shift,c],h⟩
  ·rw[jJ]at h;exact⟨_,λP t w=>by simp[binOp,Op.shift,c],h⟩
  ·cases h
 ·cases h
def V4{C:Cfg}{Sg:Tc}{T:Tq}{call:gM}(u:CallBOk C Sg T call):AlgOk (BA Sg T call) C Sg T (λb=>b=some w) (λh=>ka T (Br h)) where
 fail:=by intro h;cases h
 cond:=by
  intro b x y h;cases b
  ·exact .inr ⟨rfl,h⟩
  ·exact .inl ⟨rfl,h⟩
 ari:=λA k a b K h=>Np h
 shf:=λA k a z b K h=>Gz h
 cmp:=λA a b K h=>NV h
 eqs:=λl K h=>Oo h
 conv:=λk a K h=>FC h
 sel:=by intro t a b K h;cases t<;>exact h
 opt:=by
  intro α o K h;cases o with
  |none=>cases h
  |some x=>exact⟨x,rfl,h⟩
 chk:=by
  intro v K h;have h:SP v K=some w:=h;unfold SP at h;split at h
  next e=>rw[xi]at e;exact⟨e,h⟩
  ·cases h
 unI:=by
  intro d K h
  match d,h with
  | .i n :: r,h=>exact⟨n,r,rfl,h⟩
 unB:=by
  intro d K h
  match d,h with
  | .b n :: r,h=>exact⟨n,r,rfl,h⟩
 unV:=by
  intro d K h
  match d,h with
  | .v n :: r,h=>exact⟨n,r,rfl,h⟩
 un0:=by
  intro d K h
  match d,h with
  | [],h=>exact⟨rfl,h⟩
 ucI:=by
  intro k d K h
  match d,h with
  | .int z n :: r,h=>
   have h:(match dG k z with|true=>K n r|false=>none)=some w:=h;split at h
   next e=>rw[dF e];exact⟨n,r,rfl,h⟩
   ·cases h
 ucB:=by
  intro d K h
  match d,h with
  | .bool n :: r,h=>exact⟨n,r,rfl,h⟩
 ucV:=by
  intro d K h
  match d,h with
  |n :: r,h=>exact⟨n,r,rfl,h⟩
 uc0:=by
  intro d K h
  match d,h with
  | [],h=>exact⟨rfl,h⟩
 peek:=by
  intro f h K c;have c:LB T f h K=some w:=c;unfold LB at c;rw[←ow];cases f with
  |ld n p=>exact Ui c
  |lg C n p=>exact Um c
  |fn f=>
   simp only at c;rw[nk]at c;split at c
   next x e=>exact⟨x,e,c⟩
   ·cases c
 heap:=by
  intro f h K c;have c:FK T f h K=some w:=c;obtain⟨j,G,q,B,D,E⟩:=Kn c;exact⟨j,G,q,by rw[←ow,mM];exact B,by rw[D];exact kO T j (Br h),E⟩
 new:=by
  intro o h K c;have c:UI o h K=some w:=c;unfold UI at c;obtain⟨x,H,I⟩:=jS (o:=o) (k:=λo=>mJ h o λq=>K h.n q);rw[I,ko]at c;exact⟨h.push x,by rw[kM,H];exact nE T (Br h) _,by rw[mM,iI];exact c⟩
 call:=λg d h K c=>wO u c
 callv:=λv s L h K c=>G2 u c
 join:=λb m h=>h
 loop:=by
  intro F d h c;refine⟨λn=>Nat.rec (motive:=λ_=>TB->HTr->RT) (λ_ _=>none) (λ_ J d h=>F J d h) n,λd h=>(by simp),λn d h=>rfl,1000000,c⟩
inductive TabOk(C:Cfg)(Sg:Tc)(X:Ctxt)(dr:Dr)(A:Alg RT HTr)(f:TK)(ls:TB)(h:HTr)(K:TB->HTr->RT)(w:TB):Prop
 |run (fn:Fn1) (hi:FnIs X Sg f fn) (he:ak A X Sg dr fn ls h K=some w)
 |known (rs:TB) (hc:∀H,aD C Sg f ls H rs H) (hk:K rs h=some w)
 |alone (fn:Fn1) (rs:TB) (sg:Sig) (hi:FnIs X Sg f fn) (hs:Sg f=some sg) (hp:sg.plain=true) (he:ak A X Sg dr fn ls .empty (λrs _=>some rs)=some rs) (hk:K rs h=some w)
end
end Sx
namespace Sx
def MZ(v:Value):Bool:=match v with
 | .pointer (some a)=>a.spot==some 1
 | .slice (some a) _ _=>a.spot==some 1
 |v=>scalar v
section
variable [Val]
def H0 [Glo]{mu:kx}{p:Pl}{x y:Option Obj}{o:HObj}(b:∀a,x=some a->y=some a)(h:objR mu p x o):objR mu p y o:=by
 cases o with
 |cells t j rw=>
  obtain⟨d,f,l,c,e,k,m,n⟩:=h;exact⟨d,f,l,c,e,k,b _ m,n⟩
 |map q g=>
  obtain⟨i,d,f⟩:=h;exact⟨i,b _ d,f⟩
 |loop r=>
  obtain⟨L,d,f⟩:=h;exact⟨L,b _ d,f⟩
 |siter s pos=>exact b _ h
 |dead=>trivial
def OM [Glo]{la:tf}{mu a:kx}{vs cs:Tk}(e:vs.all flat=true)(h:VRs la mu vs cs):VRs la a vs cs:=by
 refine⟨h.1,λi x y c f=>?_⟩;have d:=h.2 i x y c f;have b:flat x=true:=qac.1 e x (Ap c);rw[rT b d];exact .of_flat b
def Zo [Glo]{la d:tf}{mu e:kx}{v c:Value}(a:MZ v=true)(h:VR la mu v c):VR d e v c:=by
 cases h with
 |poison c=>cases a
 |sym h=>cases a
 |scalar h=>exact .scalar h
 |agg _ _=>cases a
 |tuple _ _ _=>cases a
 |func _ _ _ _ _=>cases a
 |yield _=>cases a
 |lptr _=>cases a
 |hptr _=>cases a
 |gptr=>exact .gptr
 |hslice _ _ _ _=>simp[MZ,qs]at a
 |hslice0 _=>simp[MZ,qs]at a
 |gslice f b=>exact .gslice f b
 |gslice0 b=>exact .gslice0 b
 |map _=>cases a
def xh [Glo]{mu a:kx}{vs:Tk}{c:Tj}{o:Nat}(f:vs.all MZ=true)(h:cz mu vs c o):cz a vs c o:=by
 intro i v b;obtain⟨g,d,e⟩:=h i v b;exact⟨g,d,Zo (qac.1 f v (Ap b)) e⟩
def La{mu:kx}{b:Nat}:¬Own mu [] b:=by
 rintro⟨id,o,p,h,_⟩;simp at h
def Kh{C:Cfg}(N:∀g vs,C.G g=some vs->vs.all MZ=true){f:TK}{args:Tk}{r:Value}{H':Tp}(h:dP C f args [] r H')(O:args.all flat=true)(F:flat r=true)(H:Tp):dP C f args H r H:=by
 intro _ D P w k E m l M;have z:WR C w.heap.size (λ_=>none) [] w:=by
  refine⟨λid o h=>by simp at h,λi j S T U V h=>by simp at h,λi o p h=>by simp at h,λi o p h=>by simp at h,λ_ _=>rfl,λg vs u=>?_⟩;obtain⟨t,n,c,e,y,q,s⟩:=l.glob g vs u;exact⟨by omega,n,c,e,y,q,xh (N g vs u) s⟩
 obtain⟨v,Q,I,J,R,d,K,L⟩:=h _ w.heap.size (λ_=>none) w k (Ah _) (OM O m) z M;have a:∀(b:Nat) x,w.heap[b]?=some x->I.heap[b]?=some x:=by
  intro b x B;have A:b<w.heap.size:=by
   rcases Bu b w.heap.size with h|h
   ·exact h
   ·rw[RV h]at B;cases B
  rw[d.keep b A La];exact B
 refine⟨v,P,I,?_,?_,?_,K,L⟩
 ·rw[rT F J];exact .of_flat F
 ·refine⟨λid o t n=>?_,l.inj,l.own,l.ro,l.dom,λg vs u=>?_⟩
  ·obtain⟨p,q,s⟩:=l.obj id o t n;exact⟨p,q,H0 (a p.b) s⟩
  ·obtain⟨t,n,c,e,y,q,s⟩:=l.glob g vs u;exact⟨t,n,c,e,y,a _ _ q,s⟩
 ·exact⟨Ah _,λ_ _=>rfl,d.size,λb E _=>d.keep b E La,λb h=>.inr h,d.os,d.tape,d.output,d.dr⟩
end
section
variable [Val] [Kno]
end
end Sx
end Go.Am
end

/-
  PART 4 OF THE PROOF (no conditions).
-/
import Derived.Test.YtiimabnndpeioaaGreatDoorSK3
import Derived.Laws.Entries
import Derived.Laws.StructEq
set_option linter.unusedSectionVars false
set_option linter.unusedSimpArgs false
set_option linter.unusedVariables false
set_option linter.constructorNameAsVariable false
set_option linter.defProp false
noncomputable section
namespace Go.Am
def SL.lf_val{a b:SL}{k:LK}(d:a.is k=true)(e:b.is k=true)(c:a.lf=b.lf):a.val=b.val/\(a.good->b.good):=by
 cases a<;>cases b<;>cases k<;>simp only[SL.lf,Lf.i.injEq,Lf.b.injEq,Lf.v.injEq,reduceCtorEq,SL.is,qar]at c d e ⊢<;>try (subst c;exact⟨rfl,id⟩)
 subst c;exact⟨by simp only[SL.val];rw[dF d,dF e],id⟩
def bO:∀ {cs:List SL} {ks:TE},bb cs ks=true->cs.length=ks.length
 | [],[],_=>rfl
 |c :: cs,k :: ks,h=>by
  simp only[bb,qaa]at h;simp[bO h.2]
 | [],_ :: _,h=>by cases h
 |_ :: _,[],h=>by cases h
def gL:∀ {a b:List SL} {ks:TE},bb a ks=true->bb b ks=true->a.map SL.lf=b.map SL.lf->a.map SL.val=b.map SL.val/\((∀c∈a,c.good)->∀c∈b,c.good)
 | [],[],[],_,_,_=>⟨rfl,λ_ _ h=>by cases h⟩
 |a :: j,b :: bs,k :: ks,d,e,g=>by
  simp only[bb,qaa]at d e;simp only[qaF,qa9]at g;obtain⟨h1,l⟩:=SL.lf_val d.1 e.1 g.1;obtain⟨m,n⟩:=gL d.2 e.2 g.2;refine⟨by simp[h1,m],λi c f=>?_⟩;rcases qax.1 f with rfl|f
  ·exact l (i a (by simp))
  ·exact n (λc f=>i c (by simp[f])) c f
 | [],_ :: _,[],_,e,_=>by cases e
 | [],_,_ :: _,d,_,_=>by cases d
 |_ :: _,_,[],d,_,_=>by cases d
 |_ :: _,[],_ :: _,_,e,_=>by cases e
def S0.is_val{a b:S0}{h:SK}(c:a.is h=true)(d:b.is h=true)(g:a.cells.map SL.lf=b.cells.map SL.lf):a.val=b.val/\(a.good->b.good):=by
 cases h with
 |leaf k=>
  cases a with
  |agg _=>cases c
  |leaf a=>
   cases b with
   |agg _=>cases d
   |leaf b=>
    simp only[S0.cells,qaF,qbA,qa9,and_true]at g;obtain⟨e,f⟩:=SL.lf_val c d g;refine⟨e,λj l i=>?_⟩;simp only[S0.cells,qaq]at i;subst i;exact f (j a (by simp[S0.cells]))
 |agg m=>
  cases a with
  |leaf _=>cases c
  |agg a=>
   cases b with
   |leaf _=>cases d
   |agg b=>
    obtain⟨e,f⟩:=gL c d g;exact⟨by simp only[S0.val,e],f⟩
def S0.is_len{a:S0}{e:SK}(c:a.is e=true):∃n,a.cells.length=n/\∀b:S0,b.is e=true->b.cells.length=n:=by
 refine⟨_,rfl,λb d=>?_⟩;cases e with
 |leaf k=>
  cases a with
  |agg _=>cases c
  |leaf a=>cases b with
   |agg _=>cases d
   |leaf b=>rfl
 |agg f=>
  cases a with
  |leaf _=>cases c
  |agg a=>cases b with
   |leaf _=>cases d
   |agg b=>exact(bO d).trans (bO c).symm
def dz:∀ {a b:List S0} {sks:TH},db a sks=true->db b sks=true->cX a=cX b->aq a=aq b/\((∀c∈a,c.good)->∀c∈b,c.good)
 | [],[],[],_,_,_=>⟨rfl,λ_ _ h=>by cases h⟩
 |a :: q,b :: bs,k :: ks,d,e,o=>by
  simp only[db,qaa]at d e;obtain⟨n,l,f⟩:=S0.is_len d.1;have f:=f b e.1;simp only[cX]at o;obtain⟨i,j⟩:=qdM o (by simp[l,f]);obtain⟨r,s⟩:=S0.is_val d.1 e.1 i;obtain⟨m,t⟩:=dz d.2 e.2 j;refine⟨by simp only[aq,qaF,r]at m ⊢;rw[m],λp c g=>?_⟩;rcases qax.1 g with rfl|g
  ·exact s (p a (by simp))
  ·exact t (λc g=>p c (by simp[g])) c g
 | [],_ :: _,[],_,e,_=>by cases e
 | [],_,_ :: _,d,_,_=>by cases d
 |_ :: _,_,[],d,_,_=>by cases d
 |_ :: _,[],_ :: _,_,e,_=>by cases e
section
variable [Val] [Kno] {R HT:Type} {A:Alg R HT} {X:Ctxt} {Sg:Tc} {holds:R->Prop} {abs:HT->Tp}
variable {ev:Env} {σ:St} {h:HT} {o:Oper} {K:KN R HT}
def qR{C:Cfg}{T:Tq}(hA:AlgOk A C Sg T holds abs):∀ {ks:TE} {ls:TB} {K:List SL->TB->R},holds (unL A ks ls K)->
  ∃cs r,ls=cs.map SL.lf++r/\bb cs ks=true/\holds (K cs r)
 | [],ls,K,c=>⟨[],ls,rfl,rfl,c⟩
 | .i k :: ks,ls,K,c=>by
  obtain⟨n,r,rfl,a⟩:=hA.unI _ _ c;obtain⟨cs,f,rfl,d,e⟩:=qR hA (ks:=ks) a;exact⟨.i k n :: cs,f,rfl,by simp[bb,SL.is,eO,d],e⟩
 | .b :: ks,ls,K,c=>by
  obtain⟨n,r,rfl,a⟩:=hA.unB _ _ c;obtain⟨cs,f,rfl,d,e⟩:=qR hA (ks:=ks) a;exact⟨.b n :: cs,f,rfl,by simp[bb,SL.is,d],e⟩
 | .v :: ks,ls,K,c=>by
  obtain⟨n,r,rfl,a⟩:=hA.unV _ _ c;obtain⟨cs,f,rfl,d,e⟩:=qR hA (ks:=ks) a;exact⟨.v n :: cs,f,rfl,by simp[bb,SL.is,d],e⟩
def unS_ok{C:Cfg}{T:Tq}(hA:AlgOk A C Sg T holds abs){d:SK}{ls:TB}{K:S0->TB->R}(c:holds (unS A d ls K)) :
  ∃x r,ls=x.cells.map SL.lf++r/\x.is d=true/\holds (K x r):=by
 cases d with
 |leaf k=>
  cases k with
  |i k=>
   obtain⟨n,r,rfl,a⟩:=hA.unI _ _ c;exact⟨.leaf (.i k n),r,rfl,by simp[S0.is,SL.is,eO],a⟩
  |b=>
   obtain⟨n,r,rfl,a⟩:=hA.unB _ _ c;exact⟨.leaf (.b n),r,rfl,rfl,a⟩
  |v=>
   obtain⟨n,r,rfl,a⟩:=hA.unV _ _ c;exact⟨.leaf (.v n),r,rfl,rfl,a⟩
 |agg l=>
  obtain⟨e,r,f,g,j⟩:=qR hA c;exact⟨.agg e,r,f,g,j⟩
def sV{C:Cfg}{T:Tq}(hA:AlgOk A C Sg T holds abs):∀ {sks:TH} {ls:TB} {K:List S0->TB->R},holds (unSs A sks ls K)->
  ∃xs r,ls=cX xs++r/\db xs sks=true/\holds (K xs r)
 | [],ls,K,a=>⟨[],ls,rfl,rfl,a⟩
 |i :: sks,ls,K,a=>by
  have b:holds (unS A i ls λx r=>unSs A sks r λxs r=>K (x :: xs) r):=a;obtain⟨x,r,rfl,d,c⟩:=unS_ok hA b;obtain⟨xs,g,rfl,e,f⟩:=sV hA (sks:=sks) c;exact⟨x :: xs,g,by simp[cX],by simp[db,d,e],f⟩
def yo{C:Cfg}{T:Tq}(hA:AlgOk A C Sg T holds abs):∀ {ks:TE} {ls:Tk} {K:List SL->Tk->R},holds (ucL A ks ls K)->
  ∃cs r,ls=cs.map SL.val++r/\bb cs ks=true/\(∀c∈cs,c.good)/\holds (K cs r)
 | [],ls,K,d=>⟨[],ls,rfl,rfl,by simp,d⟩
 | .i k :: ks,ls,K,d=>by
  obtain⟨n,r,rfl,a⟩:=hA.ucI _ _ _ d;obtain⟨cs,j,rfl,e,f,g⟩:=yo hA (ks:=ks) a;exact⟨.i k n :: cs,j,rfl,by simp[bb,SL.is,eO,e],qbx.2 ⟨trivial,f⟩,g⟩
 | .b :: ks,ls,K,d=>by
  obtain⟨n,r,rfl,a⟩:=hA.ucB _ _ d;obtain⟨cs,j,rfl,e,f,g⟩:=yo hA (ks:=ks) a;exact⟨.b n :: cs,j,rfl,by simp[bb,SL.is,e],qbx.2 ⟨trivial,f⟩,g⟩
 | .v :: ks,ls,K,d=>by
  obtain⟨n,r,rfl,a⟩:=hA.ucV _ _ d;obtain⟨m,l⟩:=hA.chk _ _ a;obtain⟨cs,j,rfl,e,f,g⟩:=yo hA (ks:=ks) l;exact⟨.v n :: cs,j,rfl,by simp[bb,SL.is,e],qbx.2 ⟨m,f⟩,g⟩
def uW{C:Cfg}{T:Tq}(hA:AlgOk A C Sg T holds abs){f:SK}{ls:Tk}{K:S0->Tk->R}(d:holds (ucS A f ls K)) :
  ∃x r,ls=x.cells.map SL.val++r/\x.is f=true/\x.good/\holds (K x r):=by
 cases f with
 |leaf k=>
  cases k with
  |i k=>
   obtain⟨n,r,rfl,a⟩:=hA.ucI _ _ _ d;exact⟨.leaf (.i k n),r,rfl,by simp[S0.is,SL.is,eO],λl c=>by simp only[S0.cells,qaq]at c;subst c;trivial,a⟩
  |b=>
   obtain⟨n,r,rfl,a⟩:=hA.ucB _ _ d;exact⟨.leaf (.b n),r,rfl,rfl,λl c=>by simp only[S0.cells,qaq]at c;subst c;trivial,a⟩
  |v=>
   obtain⟨n,r,rfl,a⟩:=hA.ucV _ _ d;obtain⟨s,e⟩:=hA.chk _ _ a;exact⟨.leaf (.v n),r,rfl,rfl,λl c=>by simp only[S0.cells,qaq]at c;subst c;exact s,e⟩
 |agg t=>
  obtain⟨g,r,j,m,p,q⟩:=yo hA d;exact⟨.agg g,r,j,m,p,q⟩
def mkV(a:Bool)(cs:Tk)(v:Value):Prop:=(a=true/\v = .agg ⟨cs⟩)∨(a=false/\cs=[v])
def qr{x:S0}{a:SK}(c:x.is a=true){v:Value}(b:mkV (jF a) (x.cells.map SL.val) v):x.val=v:=by
 cases a with
 |leaf k=>
  cases x with
  |agg _=>cases c
  |leaf l=>
   rcases b with⟨h,_⟩|⟨_,h⟩
   ·cases h
   ·simp only[S0.cells,qaF,qbA,qa9,and_true]at h;exact h
 |agg e=>
  cases x with
  |leaf _=>cases c
  |agg d=>
   rcases b with⟨_,h⟩|⟨h,_⟩
   ·exact h.symm
   ·cases h
def eqB_eq{a b:Bool}(h:eqB a b=true):a=b:=by cases a<;>cases b<;>first|rfl|cases h
def ou{a:Bool}{cs:List SL}{x:S0}(b:mkS0 a cs=some x):x.cells=cs/\mkV a (cs.map SL.val) x.val:=by
 unfold mkS0 at b;split at b
 ·cases b;exact⟨rfl,.inl ⟨rfl,rfl⟩⟩
 ·cases b;exact⟨rfl,.inr ⟨rfl,rfl⟩⟩
 ·cases b
def dd{P:TD}{t:TJ}{c:Bool}(a:aggT P t=some c){vs cs:Tk}{off:Nat}(b:cut vs off (if c then P.cellsOf t else 1)=some cs) :
  ∃v,du P t vs off=some v/\mkV c cs v:=by
 unfold aggT at a;unfold du;split at a
 next i e=>
  cases a;rw[e];simp only[if_true]at b;exact⟨.agg ⟨cs⟩,by simp[b],.inl ⟨rfl,rfl⟩⟩
 next i e=>
  cases a;rw[e];simp only[if_true]at b;exact⟨.agg ⟨cs⟩,by simp[b],.inl ⟨rfl,rfl⟩⟩
 next d k l e=>
  cases a;rw[e];simp only[qar,if_false]at b;unfold cut at b;split at b
  next j=>
   cases b;have f:off<vs.length:=by omega
   have g:(vs.drop off).take 1=[vs[off]]:=by
    rw[qbf f];rfl
   refine⟨vs[off],?_,.inr ⟨rfl,g⟩⟩;simp[f]
  ·cases b
 ·cases a
def lO(hA:AlgOk A X.C Sg X.T holds abs){dst:Tn}{d:SK}{cs:Tk}{v:Value}(j:mkV (jF d) cs v)(g:holds (setC A dst d cs ev h K)) :
  ∃x:S0,x.val=v/\x.good/\holds (setD dst (.st x) ev h K):=by
 obtain⟨x,r,c,e,f,a⟩:=uW hA g;obtain⟨i,b⟩:=hA.uc0 _ _ a;rw[i,qaZ]at c;subst c;exact⟨x,qr e j,f,b⟩
def nD{cs ds:List SL}{off n:Nat}(a:cutS cs off n=some ds):cut (cs.map SL.val) off n=some (ds.map SL.val)/\(∀d∈ds,d∈cs):=by
 unfold cutS at a;unfold cut;split at a
 next b=>
  cases a;rw[qd0 (by simpa using b)];exact⟨by simp[qcG,qcv],λd c=>qbs (qbm c)⟩
 ·cases a
def kz(d:Rp ev σ){s:Nat}{cs:List SL}(a:sI ev s=some cs):σ.loc[s]?=some (some (cs.map SL.val))/\(∀c∈cs,c.good)/\ev.lc[s]?=some (.row cs):=by
 unfold sI at a;split at a
 next f e=>
  cases a;rw[List.getD_eq_getElem?_getD]at e;cases b:ev.lc[s]? with
  |none=>rw[b]at e;cases e
  |some r=>
   rw[b]at e;simp only[qby]at e;subst e;have:=d.row s _ b;exact⟨this.1,this.2,rfl⟩
 ·cases a
def xO{cs:List SL}{a:Nat}{ix:List (Int×Nat)}{n:Nat}{ls:TB}(b:oN (cs.map SL.lf) a ix n=some ls) :
  ∃ds,cutS cs (offX a ix) n=some ds/\ls=ds.map SL.lf:=by
 rw[pickL_eq]at b;split at b
 next c=>
  cases b;refine⟨_,by unfold cutS;rw[qd0 (by simpa using c)],by simp[qcG,qcv]⟩
 ·cases b
def offX_le:∀(ix:List (Int×Nat)) (a:Nat),a<=offX a ix
 | [],a=>qaj _
 |p :: l,a=>qbN (Nat.le_add_right _ _) (offX_le l _)
def mG{cs ds:List SL}{ks:TE}:∀ {ix:List (Int×Nat)} {a:Nat},tq cs ks a ix=true->cutS cs (offX a ix) ks.length=some ds->bb ds ks=true
 | [],a,h1,b=>by
  simp only[tq,offX]at h1 b;rw[b]at h1;exact h1
 |p :: l,a,h1,b=>by
  simp only[tq,qaa,qac,qb9,offX]at h1 b;obtain⟨h0,h1⟩:=h1;refine mG (ix:=l) (h1 p.1.toNat ?_) b;have d:p.2≠0:=λe=>by rw[e]at h0;cases h0
  have c:offX (a+p.1.toNat*p.2) l<=cs.length:=by
   unfold cutS at b;split at b
   ·omega
   ·cases b
  have:=offX_le l (a+p.1.toNat*p.2);have f:p.1.toNat<=p.1.toNat*p.2:=Nat.le_mul_of_pos_right _ (Nat.pos_of_ne_zero d);simp only[qae];omega
def is_skKs{x:S0}{b:SK}(a:x.is b=true):bb x.cells (skKs b)=true:=by
 cases b with
 |leaf k=>
  cases x with
  |agg _=>cases a
  |leaf l=>simp[S0.cells,skKs,bb];exact a
 |agg d=>
  cases x with
  |leaf _=>cases a
  |agg c=>exact a
def setL_ok(hA:AlgOk A X.C Sg X.T holds abs){dst:Tn}{e:SK}{ds:List SL}{v:Value}(l:bb ds (skKs e)=true)(hg:∀c∈ds,c.good)(i:mkV (jF e) (ds.map SL.val) v)
  (m:holds (setL A dst e (ds.map SL.lf) ev h K)):∃x:S0,x.val=v/\x.good/\holds (setD dst (.st x) ev h K):=by
 obtain⟨x,r,f,g,a⟩:=unS_ok hA m;obtain⟨d,b⟩:=hA.un0 _ _ a;rw[d,qaZ]at f;obtain⟨j,k⟩:=gL l (is_skKs g) f;rw[j]at i;exact⟨x,qr g i,k hg,b⟩
def is_lk(c:SL):c.is c.lk=true:=by cases c<;>first|rfl|exact eO _
def mI:∀cs:List SL,bb cs (cs.map SL.lk)=true
 | []=>rfl
 |c :: cs=>by simp[bb,is_lk,mI cs]
def gK:∀ {a b:List SL} {c kb:TE},bb a c=true->bb b kb=true->bb (a++b) (c++kb)=true
 | [],b,[],kb,_,h=>h
 |a :: d,b,k :: c,kb,h1,e=>by
  simp only[bb,qaa,qag]at h1 ⊢;exact⟨h1.1,gK h1.2 e⟩
 | [],_,_ :: _,_,h,_=>by cases h
 |_ :: _,_,[],_,h,_=>by cases h
end
section
variable [Val] [Kno] {R HT:Type} {A:Alg R HT} {X:Ctxt} {Sg:Tc} {holds:R->Prop} {abs:HT->Tp}
variable {ev:Env} {σ:St} {h:HT} {o:Oper} {K:KN R HT}
def tz(H:Tp)(id:Nat):jH (λi=>H[i]?) id=ff H id:=rfl
def ldP_ok{n:Nat}{p:Value}{g:cR}{cs:Tk}(h:ldP n p g=some cs):∃id off vs,p = .pointer (some ⟨id,off,none⟩)/\jH g id=some vs/\cut vs off n=some cs:=by
 unfold ldP at h;split at h
 next a=>
  split at h
  next c=>
   obtain⟨vs,d,e⟩:=qas.1 h;obtain⟨b,f,i⟩:=a;simp only at c;subst c;exact⟨b,f,vs,rfl,d,e⟩
  ·cases h
 ·cases h
def lgP_ok{C:Cfg}{n:Nat}{p:Value}{g:cR}{cs:Tk}(h:lgP C n p g=some cs):(∃id off vs,p = .pointer (some ⟨id,off,none⟩)/\jH g id=some vs/\cut vs off n=some cs)∨∃id off vs,p = .pointer (some ⟨id,off,some 1⟩)/\C.G id=some vs/\cut vs off n=some cs:=by
 unfold lgP at h;split at h
 next a=>
  split at h
  next c=>
   obtain⟨vs,d,e⟩:=qas.1 h;obtain⟨b,f,j⟩:=a;simp only at c;subst c;exact .inl ⟨b,f,vs,rfl,d,e⟩
  next k c=>
   split at h
   next i=>
    obtain⟨vs,d,e⟩:=qas.1 h;obtain⟨b,f,j⟩:=a;simp only at c;subst c;rw[qad i];exact .inr ⟨b,f,vs,rfl,d,e⟩
   ·cases h
 ·cases h
def load_ok(hA:AlgOk A X.C Sg X.T holds abs)(k:Rp ev σ)(J:abs h=σ.heap){t:TJ}{a:TG}{sk:SK}{F:Bool}(ho:o.op = .load t a)(m:aggT X.C.P t=some F)
  (w:F=jF sk) (d:holds (loadE A X o.dst sk F (if F then X.C.P.cellsOf t else 1) a ev h K)):Done X holds abs o σ K:=by
 have e:am X.C X.pts (oval σ.tmps) o=dU X.C X.pts t a (oval σ.tmps a):=by simp only[am,ho]
 unfold loadE at d;split at d
 next p b E=>
  obtain⟨y,_⟩:=k.sval E (by simp);obtain⟨Q,h2,u⟩:=hA.peek _ _ _ d;simp only[Pk.run]at h2;rw[J]at h2;rcases lgP_ok h2 with⟨id,off,vs,rfl,h3,h4⟩|⟨id,off,vs,rfl,h3,h4⟩
  ·rw[tz]at h3;obtain⟨v,r,i⟩:=dd m h4;rw[w]at i;obtain⟨x,rfl,D,n⟩:=lO hA i u;refine jK k J (s:=.st x) D (f:=λH=>(ff H id).bind λvs=>du X.C.P t vs off) ?_ ?_ n
   ·rw[e,dU,b,y];rfl
   ·simp only[h3,qao,r];rfl
  ·obtain⟨v,r,i⟩:=dd m h4;rw[w]at i;obtain⟨x,rfl,D,n⟩:=lO hA i u;refine jK k J (s:=.st x) D (f:=λ_=>(X.C.G id).bind λvs=>du X.C.P t vs off) ?_ ?_ n
   ·rw[e,dU,b,y];rfl
   ·simp only[h3,qao,r];rfl
 next g off b E=>
  obtain⟨y,_⟩:=k.sval E (by simp);split at d
  next vs W=>
   split at d
   next Q q=>
    obtain⟨v,r,i⟩:=dd m q;have j:am X.C X.pts (oval σ.tmps) o=some (.val v):=by
     rw[e,dU,b,y];simp only[SV.val,gc,if_true,qao,W,r,qaJ]
    split at d
    next x ap hm=>
     obtain⟨S,M⟩:=ou hm;have an:(Q.map slOf).map SL.val=Q:=by
      rw[qbU];have:(SL.val ∘ slOf)=id:=funext sO;rw[this,qdU]
     rw[an]at M;have hv:x.val=v:=by
      rcases M with⟨N,O⟩|⟨N,O⟩<;>rcases i with⟨z,I⟩|⟨z,I⟩
      ·rw[O,I]
      ·rw[N]at z;cases z
      ·rw[N]at z;cases z
      ·rw[O]at I;simpa using I
     subst hv;refine aF k J (s:=.st x) (λl Y=>?_) j d;rw[S]at Y;obtain⟨c,ag,rfl⟩:=qaA.1 Y;exact pn (qac.1 ap c ag)
    ·rw[w]at i;obtain⟨x,rfl,D,d⟩:=lO hA i d;exact aF k J (s:=.st x) D j d
   ·exact absurd d hA.fail
  ·exact absurd d hA.fail
 next g B ix b E=>
  obtain⟨y,_⟩:=k.sval E (by simp);split at d
  next vs W=>
   obtain⟨Q,q,d⟩:=hA.opt _ _ d;obtain⟨v,r,i⟩:=dd m (vs:=vs) (off:=offX B ix) ((pickV_eq _ _ _ _).symm.trans q);have j:am X.C X.pts (oval σ.tmps) o=some (.val v):=by
    rw[e,dU,b,y];simp only[SV.val,gc,if_true,qao,W,r,qaJ]
   rw[w]at i;obtain⟨x,rfl,D,d⟩:=lO hA i d;exact aF k J (s:=.st x) D j d
  ·exact absurd d hA.fail
 next p b E=>
  obtain⟨y,_⟩:=k.sval E (by simp);obtain⟨Q,q,u⟩:=hA.opt _ _ d;unfold ldGv at q;split at q
  next ad=>
   split at q
   next ar=>
    obtain⟨vs,W,q⟩:=qas.1 q;obtain⟨v,r,i⟩:=dd m q;have j:am X.C X.pts (oval σ.tmps) o=some (.val v):=by
     rw[e,dU,b,y];simp only[SV.val,S0.val,SL.val,gc,ar,if_true,qao,W,r,qaJ]
    rw[w]at i;obtain⟨x,rfl,D,n⟩:=lO hA i u;exact aF k J (s:=.st x) D j n
   ·cases q
  ·cases q
 next s s' off b E=>
  obtain⟨y,_⟩:=k.sval E (by simp);split at d
  next x U Z=>
   have U:s=s':=by simpa using U
   subst U;obtain⟨Q,hr,Z⟩:=qas.1 Z;obtain⟨ds,V,Z⟩:=qas.1 Z;obtain⟨r1,r2,_⟩:=kz k hr;obtain⟨c1,c2⟩:=nD V;obtain⟨v,r,i⟩:=dd m c1;obtain⟨S,M⟩:=ou Z;have hv:x.val=v:=by
    rcases M with⟨N,O⟩|⟨N,O⟩<;>rcases i with⟨z,I⟩|⟨z,I⟩
    ·rw[O,I]
    ·rw[N]at z;cases z
    ·rw[N]at z;cases z
    ·rw[O]at I;simpa using I
   subst hv;refine dE k σ.heap J (s:=.st x) (λl Y=>?_) (.inl ⟨.lget s λvs=>du X.C.P t vs off,?_,(σ,x.val),?_,rfl⟩) d
   ·rw[S]at Y;exact r2 l (c2 l Y)
   ·rw[e,dU,b,y];simp[SV.val,jf]
   ·simp[aW,r1,r]
  ·exact absurd d hA.fail
 next s s' B ix b E=>
  obtain⟨y,_⟩:=k.sval E (by simp);split at d
  next Q U hr=>
   have U:s=s':=by simpa using U
   subst U;split at d
   next L=>
    simp only[qaa]at L;obtain⟨L,hn⟩:=L;have hn:=qad hn;obtain⟨ls,hp,u⟩:=hA.opt _ _ d;obtain⟨ds,V,rfl⟩:=xO hp;obtain⟨r1,r2,_⟩:=kz k hr;obtain⟨c1,c2⟩:=nD V;obtain⟨v,r,i⟩:=dd m c1;rw[w]at i;rw[hn]at V;obtain⟨x,rfl,D,n⟩:=setL_ok hA (mG L V) (λc q=>r2 c (c2 c q)) i u;refine dE k σ.heap J (s:=.st x) D (.inl ⟨.lget s λvs=>du X.C.P t vs (offX B ix),?_,(σ,x.val),?_,rfl⟩) n
    ·rw[e,dU,b,y];simp[SV.val,jf]
    ·simp[aW,r1,r]
   ·exact absurd d hA.fail
  ·exact absurd d hA.fail
 ·exact absurd d hA.fail
def qN{cs r new:List SL}{off:Nat}(b:iG cs off new=some r):splice (cs.map SL.val) off (new.map SL.val)=some (r.map SL.val)/\r.length=cs.length/\((∀c∈cs,c.good)->(∀c∈new,c.good)->∀c∈r,c.good):=by
 unfold iG at b;unfold splice;split at b
 next d=>
  cases b;rw[qd0 (by simpa using d)];refine⟨by simp[qcv,qcG],by simp;omega,λe f c a=>?_⟩;simp only[qaz]at a;rcases a with(a|a)|a
  ·exact e c (qbm a)
  ·exact f c a
  ·exact e c (qbs a)
 ·cases b
def wB{P:TD}{t:TJ}{x:S0}(c:x.good)(a:x.cells.length=P.cellsOf t)(d:(P.info? t).isSome=true)(vs:Tk)(off:Nat) :
  eI P t x.val vs off=splice vs off (x.cells.map SL.val):=by
 unfold eI;have b:=S0.cells_val c;rw[qd0 ⟨by rw[b];simpa using a,d⟩,qd0 (S0.cells_ok c),b]
def rx(m:Rp ev σ)(z:abs h=σ.heap){s:Nat}{cs:List SL}{f:Tk->Option (Tk)}{vs:Tk}(B:am X.C X.pts (oval σ.tmps) o=some (.lset s f))(a:σ.loc[s]?=some (some vs))
  (t:f vs=some (cs.map SL.val)) (g:(cs.map SL.val).length=vs.length) (hg:∀c∈cs,c.good) (k:jB X.pts o=some s)
  (D:holds (setD o.dst .un ⟨ev.tm,ev.lc.set s (.row cs)⟩ h K)):Done X holds abs o σ K:=by
 let σ₁:St:={ σ with loc:=σ.loc.set s (some (cs.map SL.val)) }
 have j:s<σ.loc.length:=(qbg.1 a).1;have q:Rp ⟨ev.tm,ev.lc.set s (.row cs)⟩ σ₁:=by
  refine⟨m.len,m.val,by simp[σ₁,m.llen],λi r d=>?_⟩;simp only[qa2]at d;split at d
  next b=>
   subst b;split at d
   ·cases d;exact⟨by simp only[σ₁];rw[qaK j],hg⟩
   ·cases d
  next b=>
   have:=m.row i r d;have u:σ₁.loc[i]?=σ.loc[i]?:=by simp only[σ₁];rw[qaD b]
   cases r<;>first|trivial|(simp only[LR.ok]at this ⊢;rw[u];exact this)
 obtain⟨p,w,x⟩:=wl (dst:=o.dst) q (s:=.un) trivial D;refine⟨σ₁.put o.dst undef,p,h,.inl ⟨_,B,(σ₁,undef),by simp[aW,a,t,σ₁],rfl⟩,w,?_,?_,x⟩
 ·rw[z];cases o.dst<;>rfl
 ·have t:=Fr.put (σ:=σ₁) o.dst undef (uA X.pts o).toList (jB X.pts o).toList;have v:Fr o.dst.toList (uA X.pts o).toList (jB X.pts o).toList σ σ₁:=by
   refine⟨rfl,by simp[σ₁],λ_ _ h _ _=>h,λ_ _ _ h _ _=>h,λi y l n=>?_,λi E l n=>?_⟩
   ·rw[k]at n;simp only[qco,qaq]at n;simp only[σ₁];rw[qaD (λe=>n e.symm)];exact l
   ·by_cases b:i=s
    ·subst b;rw[a]at l;cases l;exact⟨_,by simp only[σ₁];rw[qaK j],g⟩
    ·exact⟨E,by simp only[σ₁];rw[qaD (λe=>b e.symm)];exact l,rfl⟩
  exact v.trans t
def stP_ok{p:Value}{new:Tk}{g:cR}{n:Nat}{d:List Act1}{cs:Tk}(h:stP p new g n=some (d,cs)) :
  ∃id off vs c e,p = .pointer (some ⟨id,off,none⟩)/\g id=some (.cells vs e true)/\splice vs off new=some c/\d=[.set id (.cells c e true)]:=by
 unfold stP at h;split at h
 next a=>
  split at h
  next i=>
   split at h
   next vs e l=>
    obtain⟨c,j,k⟩:=qah.1 h;obtain⟨b,f,m⟩:=a;simp only at i;subst i;cases k;exact⟨b,f,vs,c,e,rfl,l,j,rfl⟩
   ·cases h
  ·cases h
 ·cases h
def store_ok(hA:AlgOk A X.C Sg X.T holds abs)(m:Rp ev σ)(U:abs h=σ.heap){t:TJ}{a y:TG}{x:S0}(ho:o.op = .store t a y)(hy:sval ev y = .st x)
  (j:holds (storeE A X o.dst t a x ev h K)):Done X holds abs o σ K:=by
 obtain⟨a2,L⟩:=m.sval hy (by simp);have L:x.good:=L;have u:am X.C X.pts (oval σ.tmps) o=eG X.C X.pts t a (oval σ.tmps a) x.val:=by simp only[am,ho,a2];rfl
 have I:=S0.not_tuple L;unfold storeE at j;split at j
 ·exact absurd j hA.fail
 next hc=>
  simp only[qaa]at hc;obtain⟨v,hi⟩:=hc;have v:=qad v;have Y:=wB (P:=X.C.P) (t:=t) L v hi;split at j
  next p d O=>
   obtain⟨N,_⟩:=m.sval O (by simp);obtain⟨a6,i,h',h2,h3,F⟩:=hA.heap _ _ _ j;simp only[Hp.run]at h2;rw[U]at h2 h3;obtain⟨id,c,M,a5,e,rfl,g1,g2,rfl⟩:=stP_ok h2;refine dj (s:=.un) m (H':=σ.heap.set id (.cells a5 e true)) h3 trivial (f:=jy X.C t id c x.val) ?_ ?_ F
   ·rw[u,eG,I,d,N];rfl
   ·simp only[jy,g1,Y,g2,qaJ];rfl
  next s s' c d O=>
   obtain⟨N,_⟩:=m.sval O (by simp);have l:jB X.pts o=some s:=by simp only[jB,ho,d]
   split at j
   next i J k=>
    have J:s=s':=by simpa using J
    subst J;rw[eo]at j;have g:am X.C X.pts (oval σ.tmps) o=some (.lset s λM=>eI X.C.P t x.val M c):=by
     rw[u,eG,I,d,N];simp[SV.val,jf]
    have w:ev.lc[s]?=some (ev.lc.getD s .unk)∨ev.lc.getD s .unk = .unk:=by
     rw[List.getD_eq_getElem?_getD];cases ev.lc[s]?<;>simp
    unfold storeR at k;split at k
    next ad hl=>
     obtain⟨q1,q2,q3⟩:=qN k;have G:ev.lc[s]?=some (.row ad):=by rcases w with h|h<;>rw[hl]at h<;>first|exact h|cases h
     have W:=m.row s _ G;exact rx m U g W.1 (by rw[Y];exact q1) (by simp[q2]) (q3 W.2 L) l j
    next n hl=>
     split at k
     next hz=>
      cases k;simp only[qaa]at hz;have a3:=qad hz.1;have a4:=qad hz.2;have G:ev.lc[s]?=some (.any n):=by rcases w with h|h<;>rw[hl]at h<;>first|exact h|cases h
      obtain⟨M,a0,a1⟩:=m.row s _ G;refine rx m U g a0 ?_ (by rw[a1,a4];simp) L l j;rw[Y,a3,splice,qd0 (by simp;omega)];simp[show M.length<=x.cells.length by omega]
     ·cases k
    ·cases k
   ·exact absurd j hA.fail
  next s s' E ix d O=>
   obtain⟨N,_⟩:=m.sval O (by simp);have l:jB X.pts o=some s:=by simp only[jB,ho,d]
   split at j
   next i J W=>
    have J:s=s':=by simpa using J
    subst J;split at j
    ·exact absurd j hA.fail
    next ag=>
     obtain⟨ls,V,F⟩:=hA.opt _ _ j;obtain⟨Z,r,e1,e2,ap⟩:=qR hA F;obtain⟨ay,Q⟩:=hA.un0 _ _ ap;rw[ay,qaZ]at e1;rw[eo]at Q;obtain⟨r1,r2,_⟩:=kz m W;have g:am X.C X.pts (oval σ.tmps) o=some (.lset s λM=>eI X.C.P t x.val M (offX E ix)):=by
      rw[u,eG,I,d,N];simp[SV.val,jf]
     rw[putL_eq]at V;split at V
     next H=>
      simp only[qaB]at H
      let c:=offX E ix
      have S:cutS i c x.cells.length=some ((i.drop c).take x.cells.length):=by unfold cutS;rw[qd0 H]
      have an:bb ((i.drop c).take x.cells.length) (x.cells.map SL.lk)=true:=mG ag (by rw[qaB];exact S)
      let D:=i.take c++x.cells++i.drop (c+x.cells.length)
      have aE:iG i c x.cells=some D:=by unfold iG;rw[qd0 H]
      obtain⟨q1,q2,q3⟩:=qN aE;have z:bb D (i.map SL.lk)=true:=by
       have B:i=i.take c++(i.drop c).take x.cells.length++i.drop (c+x.cells.length):=by
        rw[qai,←qbW,qbv,qbv]
       have ax:∀ {a b:List SL},bb a (b.map SL.lk)=true->a.map SL.lk=b.map SL.lk:=by
        intro a b q
        induction a generalizing b with
        |nil=>cases b with
         |nil=>rfl
         |cons _ _=>cases q
        |cons a a7 ih=>cases b with
         |nil=>cases q
         |cons b bs=>
          simp only[qaF,bb,qaa]at q;simp only[qaF,ih q.2];have:a.lk=b.lk:=by
           have h0:=q.1;cases a<;>cases b<;>first|rfl|(simp[SL.is,SL.lk]at h0;done)|(simp only[SL.is,SL.lk]at h0 ⊢;rw[dF h0])
          rw[this]
       have hm:i.map SL.lk=(i.take c).map SL.lk++x.cells.map SL.lk++(i.drop (c+x.cells.length)).map SL.lk:=by
        conv=>lhs;rw[B]
        simp only[qa3];rw[ax an]
       rw[hm];exact gK (gK (mI _) (mI _)) (mI _)
      have ar:D.map SL.lf=Z.map SL.lf:=by
       rw[←e1];cases V;simp[D,c,qcv,qcG]
      obtain⟨v1,v2⟩:=gL z e2 ar;refine rx m U g r1 (by rw[Y,←v1];exact q1) (by rw[←v1];simp[q2]) (v2 (q3 r2 L)) l Q
     ·cases V
   ·exact absurd j hA.fail
  ·exact absurd j hA.fail
end
section
variable {P:TD}
def aU{α β:Type}(s:Sem α)(f:α->Sem β):pev P (s >>= f)=(pev P s).bind λa=>pev P (f a):=by
 show pev P (s.bind f)=_
 induction s with
 |pure a=>rfl
 |program k b=>exact b P
 |_=>rfl
def gp{α:Type}(a:α):pev P (pure a:Sem α)=some a:=rfl
def lI:pev P program=some P:=rfl
def bk{t:TJ}{d:TypeDesc}(h:P.underlying t=some d):pev P (underlying t)=some d:=by
 unfold underlying;rw[aU,lI];simp only[qao,h];rfl
def qD{d:Nat}{t:TJ}{k c:TF}{a b:Int}(h:P.underlying t=some (.int c)):pev P (Op.equalIn (d+1) t (.int k a) (.int k b))=some (a==b):=by
 simp only[Op.equalIn,aU,bk h,qao,if_true,gp]
def oM{d:Nat}{t:TJ}{a b:Bool}(h:P.underlying t=some .bool):pev P (Op.equalIn (d+1) t (.bool a) (.bool b))=some (a==b):=by
 simp only[Op.equalIn,aU,bk h,qao,gp]
def xY{t:TJ}{a:Bool}(h:aggT P t=some a):pev P (isAgg t)=some a:=by
 unfold isAgg;unfold aggT at h;split at h
 next b e=>cases h;rw[aU,bk e];rfl
 next b e=>cases h;rw[aU,bk e];rfl
 next d c f e=>
  cases h;rw[aU,bk e];simp only[qao];rfl
 ·cases h
def ku{t:TJ}{d:TypeDesc}(h:P.underlying t=some d):pev P (sizeOf t)=some (P.cellsOf t):=by
 unfold sizeOf typeInfo;have a:∃i,P.info? t=some i:=by
  unfold Program.underlying at h;cases a:P.info? t with
  |none=>simp[a]at h
  |some i=>exact⟨i,rfl⟩
 obtain⟨i,a⟩:=a;simp only[aU,lI,qao,a];simp[pev,Program.cellsOf,a];rfl
def lH{t:TJ}{c:Bool}(h:aggT P t=some c){cs:Tk}{off:Nat}{ds:Tk}(a:cut cs off (if c then P.cellsOf t else 1)=some ds) :
  ∃v,pev P (part t ⟨cs⟩ off)=some v/\mkV c ds v:=by
 have f:∃d,P.underlying t=some d:=by
  unfold aggT at h;cases g:P.underlying t with
  |none=>rw[g]at h;cases h
  |some d=>exact⟨d,rfl⟩
 obtain⟨d,f⟩:=f;unfold part;rw[aU,xY h];simp only[qao];unfold cut at a;cases c with
 |true=>
  simp only[if_true]at a ⊢;split at a
  next e=>
   cases a;refine⟨.agg ⟨(cs.drop off).take (P.cellsOf t)⟩,?_,.inl ⟨rfl,rfl⟩⟩;rw[aU,ku f];simp only[qao,gp,qaI,Value.agg.injEq];apply qbk.1;rw[qcq];simp[List.extract]
  ·cases a
 |false=>
  simp only[qar,if_false]at a ⊢;split at a
  next e=>
   cases a;have b:off<cs.length:=by omega
   refine⟨cs[off],?_,.inr ⟨rfl,by rw[qbf b];rfl⟩⟩;have:(⟨cs⟩ : Array Value)[off]?=some cs[off]:=by simp[b]
   rw[this];rfl
  ·cases a
def eqSL(a b:List SL):Bool:=cw ((a.map SL.lf).zip (b.map SL.lf))
def tN(a b:List (Lf×Lf)):cw (a++b)=(cw a&&cw b):=by simp[cw]
def nP{a b c d:List SL}(h:a.length=b.length):eqSL (a++c) (b++d)=(eqSL a b&&eqSL c d):=by
 unfold eqSL;rw[qa3,qa3,List.zip_append (by simpa using h),tN]
def flatV(a:Bool)(cs:List SL)(v:Value):Prop:=mkV a (cs.map SL.val) v
def EqD(P:TD)(d:Nat)(t:TJ)(ks:TE):Prop:=
 ∃c,aggT P t=some c/\(if c then P.cellsOf t else 1)=ks.length/\∀(a b:List SL) (x y:Value),bb a ks=true->bb b ks=true->flatV c a x->flatV c b y->pev P (Op.equalIn d t x y)=some (eqSL a b)
def fR{cs:List SL}{d kb:TE}(h:bb cs (d++kb)=true):∃a b,cs=a++b/\bb a d=true/\bb b kb=true:=by
 induction d generalizing cs with
 |nil=>exact⟨[],cs,rfl,rfl,h⟩
 |cons k d g=>
  cases cs with
  |nil=>cases h
  |cons c cs=>
   simp only[qag,bb,qaa]at h;obtain⟨a,b,rfl,e,f⟩:=g h.2;exact⟨c :: a,b,rfl,by simp[bb,h.1,e],f⟩
def rr{pre a post:List SL}{n off:Nat}(c:off=pre.length)(b:n=a.length):cut ((pre++a++post).map SL.val) off n=some (a.map SL.val):=by
 subst c;subst b;unfold cut;rw[qd0 (by simp)]
 congr 1
 rw[qa3,qa3,qai,qcy,qda];simp
def pv_ite{α:Type}{c:Prop} [Decidable c](a b:Sem α):pev P (if c then a else b)=if c then pev P a else pev P b:=by split<;>rfl
def oR{d:Nat}{F:TJ->Option (TE)}(B:∀t ks,F t=some ks->EqD P d t ks):∀(l:List Field) (off:Nat) (ks:TE),lX F l off=some ks->
  ∀(c a e b:List SL),c.length=off->e.length=off->bb a ks=true->bb b ks=true->
   pev P (Op.eqFields d ⟨(c++a).map SL.val⟩ ⟨(e++b).map SL.val⟩ l)=some (eqSL a b)
 | [],off,ks,h,c,a,e,b,_,_,m,o=>by
  cases h;cases a with
  |cons _ _=>cases m
  |nil=>cases b with
   |cons _ _=>cases o
   |nil=>rfl
 |f :: l,off,ks,h,c,a,e,b,la,lb,m,o=>by
  simp only[lX]at h;split at h
  next J q C H=>
   have q:¬f.name = "_":=of_decide_eq_false q
   have C:=qad C;obtain⟨K,I,rfl⟩:=qah.1 h;obtain⟨N,A,O,E⟩:=B _ _ H;obtain⟨g,w,rfl,j,n⟩:=fR m;obtain⟨i,z,rfl,k,p⟩:=fR o;have L:=bO j;have M:=bO k;obtain⟨x,r,s⟩:=lH A (cs:=(c++(g++w)).map SL.val) (off:=f.offset) (ds:=g.map SL.val) (by rw[←qai];exact rr (by omega) (by omega));obtain⟨y,u,v⟩:=lH A (cs:=(e++(i++z)).map SL.val) (off:=f.offset) (ds:=i.map SL.val) (by rw[←qai];exact rr (by omega) (by omega));have G:=E g i x y j k s v;have D:=oR B l (off+J.length) K I (c++g) w (e++i) z (by simp;omega) (by simp;omega) n p;rw[qai,qai]at D;simp only[Op.eqFields,ne_eq,q,not_false_eq_true,if_true];rw[aU,r];simp only[qao];rw[aU,u];simp only[qao];rw[aU,G];simp only[qao];rw[nP (by omega)];cases eqSL g i with
   |true=>simpa using D
   |false=>rfl
  ·cases h
def fO(d:Nat)(t:TJ)(c:Array Field)(xs ys:Tj)(i:P.underlying t=some (.struct c))(k:P.stoodInHeld t=false) :
  pev P (Op.equalIn (d+1) t (.agg xs) (.agg ys))=pev P (Op.eqFields d xs ys c.toList):=by
 simp only[Op.equalIn,aU,bk i,qao,lI,k,qar,if_false];rw[←Array.forIn_toList];generalize c.toList=c;clear i
 induction c with
 |nil=>simp only[List.forIn_nil,Op.eqFields];rfl
 |cons f c j=>
  simp only[qdO,Op.eqFields,aU,pv_ite];split
  ·cases e:pev P (part f.type xs f.offset)with
   |none=>simp
   |some a=>
    cases g:pev P (part f.type ys f.offset)with
    |none=>simp[e,g]
    |some b=>
     cases h:pev P (Op.equalIn d f.type a b)with
     |none=>simp[e,g,h]
     |some r=>
      cases r
      ·simp[e,g,h,gp]
      ·simpa[e,g,h,gp]using j
  ·simpa[gp]using j
def ez(d n:Nat)(e:TJ)(xs ys:Tj):Tx->Sem Bool
 | []=>pure true
 |i :: is=>do
  let a ←part e xs (i*n)
  let b ←part e ys (i*n)
  let r ←Op.equalIn d e a b
  if (!r)=true then pure false else ez d n e xs ys is
def gE(d:Nat)(t e:TJ)(n:Nat)(xs ys:Tj)(g:P.underlying t=some (.array n e))(f:∃k,P.underlying e=some k) :
  pev P (Op.equalIn (d+1) t (.agg xs) (.agg ys))=pev P (ez d (P.cellsOf e) e xs ys (List.range n)):=by
 obtain⟨k,f⟩:=f;simp only[Op.equalIn,aU,bk g,qao,ku f];rw[Std.Legacy.Range.forIn_eq_forIn_range'];simp only[Std.Legacy.Range.size,Nat.sub_zero,qcS,Nat.div_one];rw[qb3];generalize List.range' 0 n=is;clear g
 induction is with
 |nil=>simp only[List.forIn_nil,ez];rfl
 |cons i is h=>
  simp only[qdO,ez,aU,pv_ite];cases j:pev P (part e xs (i*P.cellsOf e))with
  |none=>simp
  |some a=>
   cases l:pev P (part e ys (i*P.cellsOf e))with
   |none=>simp
   |some b=>
    cases c:pev P (Op.equalIn d e a b)with
    |none=>simp[c]
    |some r=>
     cases r
     ·simp[c,gp]
     ·simpa[c,gp]using h
def qF{d:Nat}{e:TJ}{p:TE}(E:EqD P d e p)(l:p.length=P.cellsOf e):∀(n i:Nat) (c a f b:List SL),c.length=i*P.cellsOf e->f.length=i*P.cellsOf e->
  bb a (List.replicate n p).flatten=true->bb b (List.replicate n p).flatten=true->
   pev P (ez d (P.cellsOf e) e ⟨(c++a).map SL.val⟩ ⟨(f++b).map SL.val⟩ (List.range' i n))=some (eqSL a b)
 |0,i,c,a,f,b,_,_,m,o=>by
  cases a with
  |cons _ _=>cases m
  |nil=>cases b with
   |cons _ _=>cases o
   |nil=>rfl
 |n+1,i,c,a,f,b,la,lb,m,o=>by
  rw[qcw,qcr]at m o;obtain⟨C,h1,D,A⟩:=E;obtain⟨g,w,rfl,j,q⟩:=fR m;obtain⟨h,z,rfl,k,r⟩:=fR o;have G:=bO j;have H:=bO k;obtain⟨x,s,t⟩:=lH h1 (cs:=(c++(g++w)).map SL.val) (off:=i*P.cellsOf e) (ds:=g.map SL.val) (by rw[←qai];exact rr la.symm (by omega));obtain⟨y,u,v⟩:=lH h1 (cs:=(f++(h++z)).map SL.val) (off:=i*P.cellsOf e) (ds:=h.map SL.val) (by rw[←qai];exact rr lb.symm (by omega));have F:=A g h x y j k t v;have B:=qF ⟨C,h1,D,A⟩ l n (i+1) (c++g) w (f++h) z (by simp[qbz];omega) (by simp[qbz];omega) q r;rw[qai,qai]at B;simp only[qc9,ez];rw[aU,s];simp only[qao];rw[aU,u];simp only[qao];rw[aU,F];simp only[qao];rw[nP (by omega)];cases eqSL g h with
  |true=>simpa using B
  |false=>rfl
def eq_leaf{k:LK}(g:k≠.v){a b:List SL}(c:bb a [k]=true)(d:bb b [k]=true):∃x y,a=[x]/\b=[y]/\x.is k=true/\y.is k=true:=by
 cases a with
 |nil=>cases c
 |cons x e=>cases e with
  |cons _ _=>simp[bb]at c
  |nil=>cases b with
   |nil=>cases d
   |cons y f=>cases f with
    |cons _ _=>simp[bb]at d
    |nil=>simp only[bb,qdV]at c d;exact⟨x,y,rfl,rfl,c,d⟩
def mU:∀(d:Nat) (t:TJ) (ks:TE),flatK P d t=some ks->EqD P d t ks
 |0,t,ks,h=>by cases h
 |d+1,t,ks,h=>by
  simp only[flatK]at h;split at h
  next k e=>
   cases h;refine⟨false,by simp[aggT,e],by simp,λa b x y i j f g=>?_⟩;obtain⟨u,v,rfl,rfl,m,p⟩:=eq_leaf (by simp) i j;rcases f with⟨c,_⟩|⟨_,f⟩
   ·cases c
   rcases g with⟨c,_⟩|⟨_,g⟩
   ·cases c
   simp only[qaF,qbA,qa9,and_true]at f g;subst f;subst g;cases u<;>simp only[SL.is,qar]at m;cases v<;>simp only[SL.is,qar]at p;have A:=dF m;have B:=dF p;subst A;subst B;simp only[SL.val];rw[qD e];simp[eqSL,cw,SL.lf,gG]
  next e=>
   cases h;refine⟨false,by simp[aggT,e],by simp,λa b x y i j f g=>?_⟩;obtain⟨u,v,rfl,rfl,m,p⟩:=eq_leaf (by simp) i j;rcases f with⟨c,_⟩|⟨_,f⟩
   ·cases c
   rcases g with⟨c,_⟩|⟨_,g⟩
   ·cases c
   simp only[qaF,qbA,qa9,and_true]at f g;subst f;subst g;cases u<;>simp only[SL.is,qar]at m<;>cases v<;>simp only[SL.is,qar]at p<;>
   ·simp only[SL.val];rw[oM e];simp[eqSL,cw,SL.lf,gG]
  next w e=>
   split at h
   next I F C=>
    split at h
    next l=>
     cases h;have l:=qad l;refine⟨true,by simp[aggT,e],by simp[l],λa b x y i j f g=>?_⟩;rcases f with⟨_,rfl⟩|⟨c,_⟩
     ·rcases g with⟨_,rfl⟩|⟨c,_⟩
      ·rw[fO d t w _ _ e F];exact oR (mU d) w.toList 0 _ C [] a [] b rfl rfl i j
      ·cases c
     ·cases c
    ·cases h
   ·cases h
  next n o e=>
   split at h
   next G E=>
    split at h
    next l=>
     simp only[qaa]at l;have r:=qad l.1;have s:=qad l.2;cases h;refine⟨true,by simp[aggT,e],by simp only[if_true];exact s.symm,λa b x y i j f g=>?_⟩;rcases f with⟨_,rfl⟩|⟨c,_⟩
     ·rcases g with⟨_,rfl⟩|⟨c,_⟩
      ·have z:=mU d o G E;have m:∃k,P.underlying o=some k:=by
        obtain⟨H,q,_⟩:=z;unfold aggT at q;cases D:P.underlying o with
        |none=>rw[D]at q;cases q
        |some k=>exact⟨k,rfl⟩
       rw[gE d t o n _ _ e m,qb3];exact qF z r n 0 [] a [] b (by simp) (by simp) i j
      ·cases c
     ·cases c
    ·cases h
   ·cases h
  ·cases h
end
section
variable {P:TD}
def eqB_iff{a b:Bool}:eqB a b=(a==b):=by cases a<;>cases b<;>rfl
def vr{a b:Int}:eqZ a b=(a==b):=by
 rw[qbH,beq_iff_eq];cases a<;>cases b<;>simp only[eqZ]
 ·rw[Nat.beq_eq];exact⟨λh=>by rw[h],λh=>qbw h⟩
 ·exact⟨λh=>(by cases h),λh=>(by cases h)⟩
 ·exact⟨λh=>(by cases h),λh=>(by cases h)⟩
 ·rw[Nat.beq_eq];exact⟨λh=>by rw[h],λh=>Int.negSucc.inj h⟩
def mP:∀ {ks:TE} {xs ys:Tk} {r:Bool},gH ks xs ys=some r->∃a b:List SL,a.map SL.val=xs/\b.map SL.val=ys/\bb a ks=true/\bb b ks=true/\eqSL a b=r
 | [],[],[],r,h=>by cases h;exact⟨[],[],rfl,rfl,rfl,rfl,rfl⟩
 | .i k :: ks,.int a x :: xs,.int b y :: ys,r,h=>by
  simp only[gH]at h;split at h
  next p n o d=>
   obtain⟨c,bs,h1,f,g,j,l⟩:=mP d;refine⟨.i a x :: c,.i b y :: bs,by simp[SL.val,h1],by simp[SL.val,f],by simp[bb,SL.is,n,g],by simp[bb,SL.is,o,j],?_⟩;have m:eqSL (.i a x :: c) (.i b y :: bs)=((x==y)&&eqSL c bs):=by simp[eqSL,cw,gG,SL.lf]
   rw[m,l,←vr];split at h
   next e=>cases h;rw[e];rfl
   next e=>cases h;rw[e];rfl
  ·cases h
 | .b :: ks,.bool x :: xs,.bool y :: ys,r,h=>by
  simp only[gH]at h;split at h
  next p d=>
   obtain⟨c,bs,h1,f,g,j,l⟩:=mP d;refine⟨.b x :: c,.b y :: bs,by simp[SL.val,h1],by simp[SL.val,f],by simp[bb,SL.is,g],by simp[bb,SL.is,j],?_⟩;have m:eqSL (.b x :: c) (.b y :: bs)=((x==y)&&eqSL c bs):=by simp[eqSL,cw,gG,SL.lf]
   rw[m,l,←eqB_iff];split at h
   next e=>cases h;rw[e];rfl
   next e=>cases h;rw[e];rfl
  ·cases h
def gY:∀ {ks:TE} {xs ys:Tk} {r:Bool},gH ks xs ys=some r->xs.all scalar=true
 | [],[],[],r,h=>rfl
 | .i k :: ks,.int a x :: xs,.int b y :: ys,r,h=>by
  simp only[gH]at h;split at h
  next d e f c=>
   simp only[qcn,qaa];exact⟨rfl,gY c⟩
  ·cases h
 | .b :: ks,.bool x :: xs,.bool y :: ys,r,h=>by
  simp only[gH]at h;split at h
  next d c=>
   simp only[qcn,qaa];exact⟨rfl,gY c⟩
  ·cases h
def fastK_len:∀ {ks:TE} {xs ys:Tk} {r:Bool},gH ks xs ys=some r->xs.length=ks.length:=by
 intro ks xs ys r h;obtain⟨a,b,c,e,d,f,g⟩:=mP h;rw[←c,qaB];exact bO d
def kW:∀ {ks:TE} {xs:Tk} {r:Bool},gH ks xs xs=some r->r=true
 | [],[],r,h=>by cases h;rfl
 | .i k :: ks,.int a x :: xs,r,h=>by
  simp only[gH]at h;split at h
  next d e f c=>
   have:eqZ x x=true:=by rw[vr];simp
   rw[this]at h;simp only[qaI]at h;rw[←h];exact kW c
  ·cases h
 | .b :: ks,.bool x :: xs,r,h=>by
  simp only[gH]at h;split at h
  next d c=>
   have:eqB x x=true:=by cases x<;>rfl
   rw[this]at h;simp only[qaI]at h;rw[←h];exact kW c
  ·cases h
def sG{α:Type}{g:α->PUnit->Sem (ForInStep PUnit)}:∀(l:List α),(∀x∈l,pev P (g x PUnit.unit)=some (.yield PUnit.unit))->pev P (forIn l PUnit.unit g)=some PUnit.unit
 | [],_=>rfl
 |x :: l,h=>by
  rw[qdO,aU,h x qaN];exact sG l λy a=>h y (qav _ a)
def ChkD(P:TD)(d:Nat)(t:TJ)(ks:TE):Prop:=∃a,aggT P t=some a/\(if a then P.cellsOf t else 1)=ks.length/\∀(b:Bool) (m:Nat) (cs:Tk) (v:Value),d<=m->cs.length=ks.length->mkV a cs v->pev P (Instr.checkKey b m t v)=some ()
def tV{F:TJ->Option (TE)}:∀(d:List Field) (off:Nat) (ks:TE),lX F d off=some ks->∀f∈d,∃e,F f.type=some e/\f.offset+e.length<=off+ks.length
 | [],off,ks,h,f,c=>by cases c
 |m :: d,off,ks,h,f,c=>by
  simp only[lX]at h;split at h
  next e n g i=>
   have g:=qad g;obtain⟨k,j,rfl⟩:=qah.1 h;rcases qax.1 c with rfl|c
   ·exact⟨e,i,by rw[qau];omega⟩
   ·obtain⟨l,a,b⟩:=tV d _ k j f c;exact⟨l,a,by rw[qau];omega⟩
  ·cases h
def chk_ok:∀(d:Nat) (t:TJ) (ks:TE),flatK P d t=some ks->ChkD P d t ks
 |0,t,ks,h=>by cases h
 |d+1,t,ks,h=>by
  simp only[flatK]at h;split at h
  next k e=>
   cases h;refine⟨false,by simp[aggT,e],by simp,λb m cs v G _ _=>?_⟩;obtain⟨m,rfl⟩ : ∃l,m=l+1:=⟨m - 1,by omega⟩;unfold Instr.checkKey;rw[aU,bk e];rfl
  next e=>
   cases h;refine⟨false,by simp[aggT,e],by simp,λb m cs v G _ _=>?_⟩;obtain⟨m,rfl⟩ : ∃l,m=l+1:=⟨m - 1,by omega⟩;unfold Instr.checkKey;rw[aU,bk e];rfl
  next K e=>
   split at h
   next S R M=>
    split at h
    next c=>
     cases h;have c:=qad c;refine⟨true,by simp[aggT,e],by simp[c],λb m cs v G p I=>?_⟩;obtain⟨m,rfl⟩ : ∃l,m=l+1:=⟨m - 1,by omega⟩;rcases I with⟨_,rfl⟩|⟨y,_⟩
     case inr=>cases y
     unfold Instr.checkKey;rw[aU,bk e];simp only[qao];rw[←Array.forIn_toList];have:=sG (P:=P) (g:=λf _=>if f.name ≠ "_" then(do Instr.checkKey b m f.type (←part f.type ⟨cs⟩ f.offset);pure (ForInStep.yield PUnit.unit))else pure (ForInStep.yield PUnit.unit)) K.toList (λf A=>by
      obtain⟨L,C,Q⟩:=tV K.toList 0 _ M f A;rw[pv_ite];split
      ·obtain⟨w,o,s,u⟩:=chk_ok d f.type L C;have z:cut cs f.offset (if w then P.cellsOf f.type else 1)=some ((cs.drop f.offset).take L.length):=by
        unfold cut;rw[s,qd0 (by omega)]
       obtain⟨x,J,j⟩:=lH o z;rw[aU];rw[J];simp only[qao];rw[aU,u b m _ x (by omega) (by simp;omega) j];rfl
      ·rfl)
     rw[aU,this];rfl
    ·cases h
   ·cases h
  next n a e=>
   split at h
   next r C=>
    split at h
    next c=>
     simp only[qaa]at c;have D:=qad c.1;have E:=qad c.2;cases h;refine⟨true,by simp[aggT,e],by simp only[if_true];exact E.symm,λb m cs v G p I=>?_⟩;obtain⟨m,rfl⟩ : ∃l,m=l+1:=⟨m - 1,by omega⟩;rcases I with⟨_,rfl⟩|⟨y,_⟩
     case inr=>cases y
     obtain⟨w,o,s,u⟩:=chk_ok d a r C;have H:∃k,P.underlying a=some k:=by
      unfold aggT at o;cases N:P.underlying a with
      |none=>rw[N]at o;cases o
      |some k=>exact⟨k,rfl⟩
     obtain⟨O,H⟩:=H;unfold Instr.checkKey;rw[aU,bk e];simp only[qao];rw[Std.Legacy.Range.forIn_eq_forIn_range'];simp only[Std.Legacy.Range.size,Nat.sub_zero,qcS,Nat.div_one];have q:cs.length=n*r.length:=by rw[p,List.length_flatten];simp
     have:=sG (P:=P) (g:=λi _=>(do Instr.checkKey b m a (←part a ⟨cs⟩ (i*(←sizeOf a)));pure (ForInStep.yield PUnit.unit))) (List.range' 0 n) (λi B=>by
      have B:i<n:=by simpa using B
      have F:i*P.cellsOf a+r.length<=cs.length:=by
       rw[q,←D];have:=qbt r.length (Nat.succ_le_of_lt B);rw[Nat.succ_mul]at this;exact this
      have z:cut cs (i*P.cellsOf a) (if w then P.cellsOf a else 1)=some ((cs.drop (i*P.cellsOf a)).take r.length):=by
       unfold cut;rw[s,qd0 F]
      obtain⟨x,J,j⟩:=lH o z;rw[aU,ku H];simp only[qao];rw[aU,J];simp only[qao];rw[aU,u b m _ x (by omega) (by simp;omega) j];rfl)
     rw[aU,this];rfl
    ·cases h
   ·cases h
  ·cases h
def keyF_ok{kt:TJ}{k:Value}(h:keyF P kt k=true):iZ P kt k=true:=by
 unfold keyF at h;split at h
 next b=>
  split at h
  next p=>
   split at h
   next g o=>
    split at h
    next r i=>
     have q:=fastK_len i;have u:=kW i;subst u;obtain⟨s,n,A,t⟩:=mU 10000 kt g o;have l:s=true:=by
      rw[p]at n;exact(qat n).symm
     subst l;obtain⟨a,c,v,w,x,y,z⟩:=mP i;have e:=t a c (.agg b) (.agg b) x y (.inl ⟨rfl,by rw[v]⟩) (.inl ⟨rfl,by rw[w]⟩);rw[z]at e;have f:pev P (Op.equal kt (.agg b) (.agg b))=some true:=e;obtain⟨j,m,_,c3⟩:=chk_ok 10000 kt g o;have d:j=true:=by
      rw[p]at m;exact(qat m).symm
     subst d;unfold iZ;rw[c3 true 10000 b.toList (.agg b) (qaj _) q (.inl ⟨rfl,rfl⟩),c3 false 10000 b.toList (.agg b) (qaj _) q (.inl ⟨rfl,rfl⟩),f];have:fD (.agg b)=true:=gY i;rw[this];rfl
    ·exact h
   ·exact h
  ·exact h
 ·exact h
def headV(a:Bool)(xs:Tk)(x:Value):Prop:=(a=true/\x = .agg ⟨xs⟩)∨(a=false/\∃b,xs=x :: b)
def DifD(P:TD)(d:Nat)(t:TJ)(ks:TE):Prop:=
 ∃a,aggT P t=some a/\(if a then P.cellsOf t else 1)=ks.length/\∀(xs ys:Tk) (x y:Value) (r:Bool),difK ks xs ys=some r->headV a xs x->headV a ys y->pev P (Op.equalIn d t x y)=some r
def kS:∀ {a c:TE} {xs ys:Tk} {r:Bool},difK (a++c) xs ys=some r->
  ∃e,difK a (xs.take a.length) (ys.take a.length)=some e/\(e=false->r=false)/\(e=true->difK c (xs.drop a.length) (ys.drop a.length)=some r)
 | [],c,xs,ys,r,h=>by
  refine⟨true,by simp only[difK],(λq=>Bool.noConfusion q),λ_=>?_⟩;simpa using h
 | .i k :: a,c,xs,ys,r,h=>by
  cases xs with
  |nil=>simp[difK]at h
  |cons x xs=>cases ys with
   |nil=>cases x<;>simp[difK]at h
   |cons y ys=>
    cases x<;>first|(simp[difK]at h;done)|skip
    cases y<;>first|(simp[difK]at h;done)|skip
    simp only[qag,difK]at h;simp only[qa0,qcx,qcK,difK];split at h
    next f g=>
     split at h
     next d=>
      exact kS h
     next d=>
      cases h;exact⟨false,rfl,λ_=>rfl,λq=>Bool.noConfusion q⟩
    ·cases h
 | .b :: a,c,xs,ys,r,h=>by
  cases xs with
  |nil=>simp[difK]at h
  |cons x xs=>cases ys with
   |nil=>cases x<;>simp[difK]at h
   |cons y ys=>
    cases x<;>first|(simp[difK]at h;done)|skip
    cases y<;>first|(simp[difK]at h;done)|skip
    simp only[qag,difK]at h;simp only[qa0,qcx,qcK,difK];split at h
    next d=>
     exact kS h
    next d=>
     cases h;exact⟨false,rfl,λ_=>rfl,λq=>Bool.noConfusion q⟩
 | .v :: a,c,xs,ys,r,h=>by simp[difK]at h
def difK_ne{k:LK}{ks:TE}{xs ys:Tk}{r:Bool}(h:difK (k :: ks) xs ys=some r):∃x b y a,xs=x :: b/\ys=y :: a:=by
 cases xs with
 |nil=>cases k<;>simp[difK]at h
 |cons x xs=>cases ys with
  |nil=>cases k<;>cases x<;>simp[difK]at h
  |cons y ys=>exact⟨x,xs,y,ys,rfl,rfl⟩
def pv_head{t:TJ}{a:Bool}(h:aggT P t=some a){cs:Tk}{off n:Nat}(b:(if a then P.cellsOf t else 1)=n)(c:a=false->∃x f,(cs.drop off).take n=x :: f) :
  ∃v,pev P (part t ⟨cs⟩ off)=some v/\headV a ((cs.drop off).take n) v:=by
 have e:∃d,P.underlying t=some d:=by
  unfold aggT at h;cases j:P.underlying t with
  |none=>rw[j]at h;cases h
  |some d=>exact⟨d,rfl⟩
 obtain⟨d,e⟩:=e;unfold part;rw[aU,xY h];simp only[qao];cases a with
 |true=>
  simp only[if_true]at b ⊢;subst b;refine⟨.agg ⟨(cs.drop off).take (P.cellsOf t)⟩,?_,.inl ⟨rfl,rfl⟩⟩;rw[aU,ku e];simp only[qao,gp,qaI,Value.agg.injEq];apply qbk.1;rw[qcq];simp[List.extract]
 |false=>
  obtain⟨x,f,i⟩:=c rfl;simp only[qar,if_false]at b ⊢;subst b;refine⟨x,?_,.inr ⟨rfl,f,i⟩⟩;have g:(cs.drop off)[0]?=some x:=by
   have:((cs.drop off).take 1)[0]?=some x:=by rw[i];rfl
   rwa [qbu,qd0 (by omega)]at this
  rw[qbq,qcM]at g;have:(⟨cs⟩ : Array Value)[off]?=some x:=by simpa using g
  rw[this];rfl
def wL{d:Nat}{t:TJ}{c n:TE}(A:DifD P d t c){xs ys:Tk}{off:Nat}{r:Bool}(h:difK (c++n) (xs.drop off) (ys.drop off)=some r)(s:Bool->Sem Bool){o:Bool}
  (D:difK n (xs.drop (off+c.length)) (ys.drop (off+c.length))=some r->pev P (s true)=some r) (B:pev P (s false)=some false) (C:o=r) :
  (pev P (part t ⟨xs⟩ off)).bind (λa=>(pev P (part t ⟨ys⟩ off)).bind λb=>(pev P (Op.equalIn d t a b)).bind λq=>pev P (s q))=some o:=by
 subst C;obtain⟨u,m,g,z⟩:=A;obtain⟨p,l,v,w⟩:=kS h;have e:u=false->(∃x f,(xs.drop off).take c.length=x :: f)/\∃x f,(ys.drop off).take c.length=x :: f:=by
  intro i;subst i;simp only[qar,if_false]at g;cases c with
  |nil=>cases g
  |cons k K=>
   obtain⟨x,f,y,j,E,F⟩:=difK_ne l;exact⟨⟨x,f,E⟩,⟨y,j,F⟩⟩
 obtain⟨x,G,H⟩:=pv_head m (cs:=xs) (off:=off) g λh=>(e h).1;obtain⟨y,I,J⟩:=pv_head m (cs:=ys) (off:=off) g λh=>(e h).2;rw[G];simp only[qao];rw[I];simp only[qao];rw[z _ _ x y p l H J];simp only[qao];cases p with
 |true=>
  refine D ?_;have:=w rfl
  rwa [qbW,qbW]at this
 |false=>rw[v rfl];exact B
def mg{d:Nat}{F:TJ->Option (TE)}(g:∀t ks,F t=some ks->DifD P d t ks):∀(a:List Field) (off:Nat) (ks:TE),lX F a off=some ks->
  ∀(xs ys:Tk) (r:Bool),difK ks (xs.drop off) (ys.drop off)=some r->pev P (Op.eqFields d ⟨xs⟩ ⟨ys⟩ a)=some r
 | [],off,ks,h,xs,ys,r,b=>by
  cases h;simp only[difK,qaI]at b;subst b;rfl
 |f :: a,off,ks,h,xs,ys,r,b=>by
  simp only[lX]at h;split at h
  next l c e i=>
   have c:¬f.name = "_":=of_decide_eq_false c
   have e:=qad e;obtain⟨k,j,rfl⟩:=qah.1 h;simp only[Op.eqFields,ne_eq,c,not_false_eq_true,if_true,aU];rw[e];exact wL (g _ _ i) b (λq=>if (!q)=true then pure false else Op.eqFields d ⟨xs⟩ ⟨ys⟩ a) (λh=>by simpa using mg g a _ k j xs ys r h) rfl rfl
  ·cases h
def oQ{d:Nat}{e:TJ}{c:TE}(f:DifD P d e c)(a:c.length=P.cellsOf e):∀(n i:Nat) (xs ys:Tk) (r:Bool),
  difK (List.replicate n c).flatten (xs.drop (i*P.cellsOf e)) (ys.drop (i*P.cellsOf e))=some r->pev P (ez d (P.cellsOf e) e ⟨xs⟩ ⟨ys⟩ (List.range' i n))=some r
 |0,i,xs,ys,r,b=>by
  simp only[List.replicate_zero,List.flatten_nil,difK,qaI]at b;subst b;rfl
 |n+1,i,xs,ys,r,b=>by
  rw[qcw,qcr]at b;simp only[qc9,ez,aU];refine wL f b (λq=>if (!q)=true then pure false else ez d (P.cellsOf e) e ⟨xs⟩ ⟨ys⟩ (List.range' (i+1) n)) (λh=>?_) rfl rfl;have:=oQ f a n (i+1) xs ys r (by rw[qbz,qce,←a];rwa [←a]at h);simpa using this
def nV:∀(d:Nat) (t:TJ) (ks:TE),flatK P d t=some ks->DifD P d t ks
 |0,t,ks,h=>by cases h
 |d+1,t,ks,h=>by
  simp only[flatK]at h;split at h
  next k e=>
   cases h;refine⟨false,by simp[aggT,e],by simp,λxs ys x y r a f g=>?_⟩;rcases f with⟨h0,_⟩|⟨_,C,rfl⟩
   ·cases h0
   rcases g with⟨h0,_⟩|⟨_,ty,rfl⟩
   ·cases h0
   cases x<;>first|(simp[difK]at a;done)|skip
   cases y<;>first|(simp[difK]at a;done)|skip
   simp only[difK]at a;split at a
   next j l=>
    have j:=dF j;have l:=dF l;subst j;subst l;rw[qD e,←vr];split at a
    next b=>rw[b];exact a
    next b=>rw[b];exact a
   ·cases a
  next e=>
   cases h;refine⟨false,by simp[aggT,e],by simp,λxs ys x y r a f g=>?_⟩;rcases f with⟨h0,_⟩|⟨_,C,rfl⟩
   ·cases h0
   rcases g with⟨h0,_⟩|⟨_,ty,rfl⟩
   ·cases h0
   cases x<;>first|(simp[difK]at a;done)|skip
   cases y<;>first|(simp[difK]at a;done)|skip
   simp only[difK]at a;rw[oM e,←eqB_iff];split at a
   next b=>rw[b];exact a
   next b=>rw[b];exact a
  next q e=>
   split at h
   next E z u=>
    split at h
    next c=>
     cases h;have c:=qad c;refine⟨true,by simp[aggT,e],by simp[c],λxs ys x y r a f g=>?_⟩;rcases f with⟨_,rfl⟩|⟨h0,_⟩
     ·rcases g with⟨_,rfl⟩|⟨h0,_⟩
      ·rw[fO d t q _ _ e z];exact mg (nV d) q.toList 0 _ u xs ys r a
      ·cases h0
     ·cases h0
    ·cases h
   ·cases h
  next n i e=>
   split at h
   next B w=>
    split at h
    next c=>
     simp only[qaa]at c;have o:=qad c.1;have p:=qad c.2;cases h;refine⟨true,by simp[aggT,e],by simp only[if_true];exact p.symm,λxs ys x y r a f g=>?_⟩;rcases f with⟨_,rfl⟩|⟨h0,_⟩
     ·rcases g with⟨_,rfl⟩|⟨h0,_⟩
      ·have s:=nV d i B w;have A:∃k,P.underlying i=some k:=by
        obtain⟨D,m,_⟩:=s;unfold aggT at m;cases v:P.underlying i with
        |none=>rw[v]at m;cases m
        |some k=>exact⟨k,rfl⟩
       rw[gE d t i n _ _ e A,qb3];exact oQ s o n 0 xs ys r (by simpa using a)
      ·cases h0
     ·cases h0
    ·cases h
   ·cases h
  ·cases h
def tS{kt:TJ}{ks:TE}{cs:Tj}(d:∀(xs ys:Tk) (x y:Value) (r:Bool),difK ks xs ys=some r->headV true xs x->headV true ys y->pev P (Op.equalIn 10000 kt x y)=some r) :
  ∀(a:Th) (i:Nat) (r:To),iW ks cs.toList a i=some r->∃q,pev P (Instr.findAsking kt (.agg cs) (a.map bA) i)=some q/\q.map (·.1)=r
 | [],i,r,h=>by cases h;exact⟨none,rfl,rfl⟩
 |e :: a,i,r,h=>by
  simp only[iW]at h;split at h
  next ds l=>
   have f:∀b,difK ks cs.toList ds.toList=some b->pev P (Op.equal kt (.agg cs) (bA e).key)=some b:=by
    intro b c;have:=d cs.toList ds.toList (.agg cs) (.agg ds) b c (.inl ⟨rfl,rfl⟩) (.inl ⟨rfl,rfl⟩);show pev P (Op.equalIn 10000 kt (.agg cs) e.key)=some b;rw[l];exact this
   have g:pev P (Instr.findAsking kt (.agg cs) ((e :: a).map bA) i)=(pev P (Op.equal kt (.agg cs) (bA e).key)).bind λb=>pev P (if b then pure (some (i,(bA e).val))else Instr.findAsking kt (.agg cs) (a.map bA) (i+1)):=by
    show pev P (Op.equal kt (.agg cs) (bA e).key >>= λb=>if b then pure (some (i,(bA e).val))else Instr.findAsking kt (.agg cs) (a.map bA) (i+1))=_;rw[aU]
   split at h
   next c=>
    cases h;refine⟨some (i,(bA e).val),?_,rfl⟩;rw[g,f true c];rfl
   next c=>
    obtain⟨q,j,k⟩:=tS d a (i+1) r h;refine⟨q,?_,k⟩;rw[g,f false c];simp only[qao,qar,if_false];exact j
   ·cases h
  ·cases h
def wU(kt:TJ)(k:Value)(b:Th):tR P kt k b=rH P kt k b:=by
 unfold tR;split
 next f=>
  simp only[mR];split
  next s a o=>
   split
   next r h=>
    obtain⟨t,g,w,i⟩:=nV 10000 kt s o;rw[a]at g;cases g;obtain⟨q,j,m⟩:=tS (P:=P) (kt:=kt) i b 0 r h;have c:∃d,P.underlying kt=some d/\∀x,Instr.sameNow d (.agg f) x=none:=by
     unfold aggT at a;split at a
     next v e=>exact⟨_,e,λx=>by simp[Instr.sameNow]⟩
     next n u e=>exact⟨_,e,λx=>by simp[Instr.sameNow]⟩
     ·cases a
     ·cases a
    obtain⟨d,c,p⟩:=c;unfold rH Instr.findKey;rw[aU,bk c];simp only[qao];cases b with
    |nil=>
     cases h;rfl
    |cons e l=>
     have:Instr.findNow d (.agg f) ((e :: l).map bA) 0=none:=by
      simp only[qaF];unfold Instr.findNow;rw[p]
     rw[this];simp only;rw[j];simp[m]
   ·rfl
  ·rfl
 ·rfl
end
section
variable [Val] [Kno] {R HT:Type} {A:Alg R HT} {X:Ctxt} {Sg:Tc} {holds:R->Prop} {abs:HT->Tp}
variable {ev:Env} {σ:St} {h:HT} {o:Oper} {K:KN R HT}
def SL.nv:SL->Prop
 | .v _=>False
 |_=>True
def SL.nv_scalar{l:SL}(h:l.nv):scalar l.val=true:=by cases l<;>first|rfl|exact h.elim
def SL.nv_den{l:SL}(h:l.nv):den1 l.val=l.val:=by cases l<;>first|rfl|exact h.elim
def sj{x:S0}(h:∀l∈x.cells,l.nv):plain x.val=true/\den x.val=x.val:=by
 cases x with
 |leaf l=>
  have a:=h l (by simp[S0.cells]);cases l<;>first|exact⟨rfl,rfl⟩|exact a.elim
 |agg b=>
  refine⟨?_,?_⟩
  ·simp only[S0.val,plain,qac,qaA];rintro _ ⟨l,a,rfl⟩;simp[jg,SL.nv_scalar (h l a)]
  ·simp only[S0.val,den,Value.agg.injEq];apply qbk.1;rw[qbC,qbU];refine qbl λl a=>?_;exact SL.nv_den (h l a)
def qY:∀ {cs:List SL} {ks:TE},bb cs ks=true->qZ ks=true->∀l∈cs,l.nv
 | [],[],_,_,l,hl=>by cases hl
 |c :: cs,k :: ks,h1,a,l,hl=>by
  simp only[bb,qaa]at h1;simp only[qZ,qcn,qaa]at a;rcases qax.1 hl with rfl|hl
  ·cases l<;>first|trivial|(cases k<;>first|(simp at a;done)|(simp[SL.is]at h1;done))
  ·exact qY h1.2 a.2 l hl
 | [],_ :: _,h,_,_,_=>by cases h
 |_ :: _,[],h,_,_,_=>by cases h
def fS{d:BinOp}{t l:TJ}{x y:TG}{a b u:Value}(c:o.op = .binOp d t x y l)(e:oval σ.tmps x=a)(f:oval σ.tmps y=b)(g:plain a=true/\den a=a)(i:plain b=true/\den b=b)
  (j:plain u=true/\den u=u) (hg:∀w,(eqGuard d t x y a b).run X.C.P w = .ok () w) (k:∀w,(binOp d t a b).run X.C.P w = .ok u w):kL X.C σ.tmps o u:=by
 refine⟨by rw[c];rfl,?_,j.1,λw=>?_⟩
 ·rw[c];simp[Op.operands,e,f,g.1,i.1]
 ·simp only[execOp,c,e,f,g.2,i.2,Sem.run_bind,hg w,Result.andThen_ok,k w,Sem.run_pure,j.2]
def nZ{d:BinOp}{t:TJ}{x y:TG}{k c:TF}{a b:Int}{P:TD}(w:World):(eqGuard d t x y (.int k a) (.int c b)).run P w = .ok () w:=by
 unfold eqGuard;split<;>rfl
def qg{c:BinOp}{t:TJ}{x y:TG}{a b:Bool}{P:TD}(w:World):(eqGuard c t x y (.bool a) (.bool b)).run P w = .ok () w:=by
 unfold eqGuard;split<;>rfl
def tY{c:BinOp}{t:TJ}{x y:TG}{a b:ByteArray}{P:TD}(w:World):(eqGuard c t x y (.string a) (.string b)).run P w = .ok () w:=by
 unfold eqGuard;split<;>rfl
def str_beq(a b:ByteArray):(a.toList==b.toList)=eqBs a.data.toList b.data.toList:=by
 rw[qbH,wR,beq_iff_eq,ByteArray.toList_eq,ByteArray.toList_eq]
def pt{x y:Value}{t:Bool}(h:strEq x y=some t):∃a b,x = .string a/\y = .string b/\t=eqBs a.data.toList b.data.toList:=by
 unfold strEq at h;split at h
 ·split at h
  ·cases h;exact⟨_,_,rfl,rfl,rfl⟩
  ·cases h
 ·cases h
def cmp_run{P:TD}{c:BinOp}{k:TF}{a b:Int}{t:Bool}(h:pV c a b=some t)(d:isShift c=false)(ty:TJ)(w:World):(binOp c ty (.int k a) (.int k b)).run P w = .ok (.bool t) w:=by
 cases c<;>simp only[pV,reduceCtorEq,qaI]at h<;>subst h<;>simp[binOp,Op.intCmp]
def aA{l:SL}(h:l.good):(S0.leaf l).good:=λm a=>by
 simp only[S0.cells,qaq]at a;subst a;exact h
def bin_ok(hA:AlgOk A X.C Sg X.T holds abs)(q:Rp ev σ)(z:abs h=σ.heap){W:BinOp}{t yt:TJ}{x y:TG}{a b:S0}(D:o.op = .binOp W t x y yt)
  (hx:sval0 ev x=some a) (hy:sval0 ev y=some b) (g:holds (binE A X o.dst W t a b ev h K)):Done X holds abs o σ K:=by
 obtain⟨j,ga⟩:=q.sval0 hx;obtain⟨p,gb⟩:=q.sval0 hy;unfold binE at g;split at g
 next k n k' m=>
  simp only[S0.val,SL.val]at j p;have F:∀(k:TF) (n:Int),plain (.int k n)=true/\den (.int k n) = .int k n:=λ_ _=>⟨rfl,rfl⟩;split at g
  ·obtain⟨r,S,f⟩:=hA.shf _ _ _ _ _ _ g;exact cG q z (s:=.st (.leaf (.i k r))) (aA trivial) (fS D j p (F _ _) (F _ _) (F _ _) (λw=>nZ w) (λw=>S _ _ w)) f
  next hs G V=>
   have e:=dF G;subst e;obtain⟨r,S,f⟩:=hA.cmp _ _ _ _ g;exact cG q z (s:=.st (.leaf (.b r))) (aA trivial) (fS D j p (F _ _) (F _ _) ⟨rfl,rfl⟩ (λw=>nZ w) (λw=>cmp_run S hs _ w)) f
  next hs G V=>
   have e:=dF G;subst e;obtain⟨r,S,f⟩:=hA.ari _ _ _ _ _ g;exact cG q z (s:=.st (.leaf (.i k r))) (aA trivial) (fS D j p (F _ _) (F _ _) (F _ _) (λw=>nZ w) (λw=>S _ _ w)) f
  ·exact absurd g hA.fail
 next Y Z=>
  split at g
  next ks hf ap an=>
   split at g
   next V=>
    simp only[qaa]at V;obtain⟨⟨I,J⟩,L⟩:=V;have O:=sj (x:=.agg Y) (qY I L);have Q:=sj (x:=.agg Z) (qY J L);obtain⟨ag,g1,g2,g3⟩:=mU 10000 t ks hf;have N:∀w,(eqGuard W t x y (S0.val (.agg Y)) (S0.val (.agg Z))).run X.C.P w = .ok () w:=λw=>run_eqGuard_agg w W t x y _ _ ap;have ad:ag=true:=by
     rw[an]at g1;exact(qat g1).symm
    subst ad;have M:=g3 Y Z _ _ I J (.inl ⟨rfl,rfl⟩) (.inl ⟨rfl,rfl⟩);split at g
    ·have f:=hA.eqs _ _ g;refine cG q z (s:=.st (.leaf (.b _))) (aA trivial) (fS D j p O Q ⟨rfl,rfl⟩ N λw=>?_) f;rw[S0.val,S0.val,run_eql_struct,gk M];rfl
    ·have f:=hA.eqs _ _ g;refine cG q z (s:=.st (.leaf (.b _))) (aA trivial) (fS D j p O Q ⟨rfl,rfl⟩ N λw=>?_) f;rw[S0.val,S0.val,run_neq_struct,gk M];rfl
    ·exact absurd g hA.fail
   ·exact absurd g hA.fail
  ·exact absurd g hA.fail
 next u v=>
  simp only[S0.val,SL.val]at j p;split at g
  next hu=>
   split at g
   ·obtain⟨U,B,f⟩:=hA.opt _ _ g;obtain⟨c,d,rfl,rfl,rfl⟩:=pt B;refine cG q z (s:=.st (.leaf (.b _))) (aA trivial) (fS D j p ⟨rfl,rfl⟩ ⟨rfl,rfl⟩ ⟨rfl,rfl⟩ (λw=>tY w) λw=>?_) f;simp only[binOp,Op.stringOp,str_beq];rfl
   ·obtain⟨U,B,f⟩:=hA.opt _ _ g;obtain⟨c,d,rfl,rfl,rfl⟩:=pt B;refine cG q z (s:=.st (.leaf (.b _))) (aA trivial) (fS D j p ⟨rfl,rfl⟩ ⟨rfl,rfl⟩ ⟨rfl,rfl⟩ (λw=>tY w) λw=>?_) f;simp only[binOp,Op.stringOp,str_beq];rfl
   ·exact absurd g hA.fail
  ·split at g
   ·obtain⟨U,B,f⟩:=hA.opt _ _ g;obtain⟨B,H⟩:=ux ‹X.C.P.underlying t=some _› B;refine aF q z (s:=.st (.leaf (.b U))) (aA trivial) ?_ f;simp only[am,D,j,p,B,H,if_true];rfl
   ·obtain⟨U,B,f⟩:=hA.opt _ _ g;obtain⟨B,H⟩:=ux ‹X.C.P.underlying t=some _› B;refine aF q z (s:=.st (.leaf (.b (!U)))) (aA trivial) ?_ f;simp only[am,D,j,p,B,H,if_true];rfl
   ·exact absurd g hA.fail
  ·exact absurd g hA.fail
 next u v _ _=>
  split at g
  next hb hu=>
   simp only[qaa]at hb;have E:∀ {l:SL},l.is .b=true->∃c,l.val = .bool c/\l.lf = .b c:=by
    intro l hl;cases l<;>simp only[SL.is,qar]at hl<;>exact⟨_,rfl,rfl⟩
   obtain⟨c,c1,c2⟩:=E hb.1;obtain⟨d,d1,d2⟩:=E hb.2;simp only[S0.val]at j p;rw[c1]at j;rw[d1]at p;have hq:∀w,(Op.equal t (.bool c) (.bool d)).run X.C.P w = .ok (c==d) w:=λw=>run_equal_bool w t c d hu;split at g
   ·have f:=hA.eqs _ _ g;rw[c2,d2]at f;refine cG q z (s:=.st (.leaf (.b _))) (aA trivial) (fS D j p ⟨rfl,rfl⟩ ⟨rfl,rfl⟩ ⟨rfl,rfl⟩ (λw=>qg w) λw=>?_) f;simp only[binOp,Sem.run_bind,hq w,Result.andThen_ok,Sem.run_pure];simp[SV.val,S0.val,SL.val,cw,gG]
   ·have f:=hA.eqs _ _ g;rw[c2,d2]at f;refine cG q z (s:=.st (.leaf (.b _))) (aA trivial) (fS D j p ⟨rfl,rfl⟩ ⟨rfl,rfl⟩ ⟨rfl,rfl⟩ (λw=>qg w) λw=>?_) f;simp only[binOp,Sem.run_bind,hq w,Result.andThen_ok,Sem.run_pure];simp[SV.val,S0.val,SL.val,cw,gG]
   ·exact absurd g hA.fail
  ·exact absurd g hA.fail
 ·exact absurd g hA.fail
def un_ok(hA:AlgOk A X.C Sg X.T holds abs)(d:Rp ev σ)(j:abs h=σ.heap){v:UnOp}{t:TJ}{x:TG}(p:o.op = .unOp v t x)
  (g:holds (match (generalizing:=false) v,sval ev x with
  | .not,.st (.leaf (.b t))=>setD o.dst (.st (.leaf (.b (!t)))) ev h K
  | .not,.st (.leaf (.l t))=>setD o.dst (.st (.leaf (.l (!t)))) ev h K
  | .neg,.st (.leaf (.i k n))=>A.ari .sub k 0 n λn=>setD o.dst (.st (.leaf (.i k n))) ev h K
  |_,_=>A.fail)):Done X holds abs o σ K:=by
 have c:∀ {a u:Value},oval σ.tmps x=a->(plain a=true/\den a=a)->(plain u=true/\den u=u)->(∀w,(Op.unary v a).run X.C.P w = .ok u w)->kL X.C σ.tmps o u:=by
  intro a u z B D q;refine⟨by rw[p];rfl,by rw[p];simp[Op.operands,z,B.1],D.1,λw=>?_⟩;simp only[execOp,p,z,B.2,Sem.run_bind,q w,Result.andThen_ok,Sem.run_pure,D.2]
 split at g
 next y e=>
  obtain⟨f,_⟩:=d.sval e (by simp);refine cG d j (s:=.st (.leaf (.b (!y)))) (aA trivial) (c f ⟨rfl,rfl⟩ ⟨rfl,rfl⟩ λw=>?_) g;simp[SV.val,S0.val,SL.val,Op.unary]
 next y e=>
  obtain⟨f,_⟩:=d.sval e (by simp);refine cG d j (s:=.st (.leaf (.l (!y)))) (aA trivial) (c f ⟨rfl,rfl⟩ ⟨rfl,rfl⟩ λw=>?_) g;simp[SV.val,S0.val,SL.val,Op.unary]
 next k n e=>
  obtain⟨f,_⟩:=d.sval e (by simp);obtain⟨r,q,m⟩:=hA.ari _ _ _ _ _ g;refine cG d j (s:=.st (.leaf (.i k r))) (aA trivial) (c f ⟨rfl,rfl⟩ ⟨rfl,rfl⟩ λw=>?_) m;have:=q X.C.P t w;simp[SV.val,S0.val,SL.val,Op.unary,binOp,Op.intArith]at this ⊢;exact this
 ·exact absurd g hA.fail
def conv_ok(hA:AlgOk A X.C Sg X.T holds abs)(g:Rp ev σ)(l:abs h=σ.heap){j f:TJ}{x:TG}(d:o.op = .convert j f x)
  (b:holds (match X.C.P.underlying j,X.C.P.underlying f,sval ev x with
  |some (.int _),some (.int k),.st (.leaf (.i _ n))=>A.conv k n λn=>setD o.dst (.st (.leaf (.i k n))) ev h K
  |_,_,_=>A.fail)):Done X holds abs o σ K:=by
 split at b
 next r k q n m p e=>
  obtain⟨a,_⟩:=g.sval e (by simp);have c:=hA.conv _ _ _ b
  simp only[SV.val,S0.val,SL.val]at a;refine cG g l (s:=.st (.leaf (.i k _))) (aA trivial) ⟨by rw[d];rfl,by rw[d];simp[Op.operands,a];rfl,rfl,λw=>?_⟩ c;simp only[execOp,d,a];simp[den,den1,convert,run_underlying m,run_underlying p,Conv.intToInt,SV.val,S0.val,SL.val]
 ·exact absurd b hA.fail
end
namespace Sx
section
variable [Val] [Kno] {R HT:Type} {A:Alg R HT} {X:Ctxt} {Sg:Tc} {holds:R->Prop} {abs:HT->Tp}
variable {ev:Env} {σ:St} {h:HT} {o:Oper} {K:KN R HT}
def oA:∀(ix:List (Int×Nat)) (a:Nat) (p:Int×Nat),offX a (ix++[p])=offX a ix+p.1.toNat*p.2
 | [],_,_=>rfl
 |q :: l,a,p=>oA l (a+q.1.toNat*q.2) p
def kg:∀(ix:List (Int×Nat)) (a n:Nat),offX (a+n) ix=offX a ix+n
 | [],_,_=>rfl
 |q :: l,a,n=>by
  simp only[offX];rw[show a+n+q.1.toNat*q.2=a+q.1.toNat*q.2+n by omega];exact kg l _ n
def vQ(hA:AlgOk A X.C Sg X.T holds abs)(b:Rp ev σ)(d:abs h=σ.heap){x:TG}(i:o.op = .nilCheck x)
  (c:holds (match sval ev x with
  | .st (.leaf (.v p))=>A.opt (nilP p) λq=>A.chk q (setD o.dst (.st (.leaf (.v q))) ev h K)
  | .lad s off=>setD o.dst (.lad s off) ev h K
  | .gad s off=>setD o.dst (.gad s off) ev h K
  |_=>A.fail)):Done X holds abs o σ K:=by
 split at c
 next p e=>
  obtain⟨a,_⟩:=b.sval e (by simp);simp only[SV.val,S0.val,SL.val]at a;obtain⟨q,j,f⟩:=hA.opt _ _ c;obtain⟨k,g⟩:=hA.chk _ _ f;refine aF b d (s:=.st (.leaf (.v q))) (aA k) ?_ g;simp only[am,i,a];unfold nilP at j;split at j<;>cases j<;>rfl
 next s off e=>
  obtain⟨a,_⟩:=b.sval e (by simp);exact aF b d (s:=.lad s off) trivial (by simp only[am,i,a,SV.val]) c
 next s off e=>
  obtain⟨a,_⟩:=b.sval e (by simp);exact aF b d (s:=.gad s off) trivial (by simp only[am,i,a,SV.val]) c
 ·exact absurd c hA.fail
def tQ(hA:AlgOk A X.C Sg X.T holds abs)(l:Rp ev σ)(n:abs h=σ.heap){t:TJ}{x:TG}{f:Nat}(E:o.op = .fieldAddr t x f)
  (i:holds (kX A X o.dst t x f ev h K)):Done X holds abs o σ K:=by
 unfold kX at i;split at i
 next H F=>
  split at i
  next m B=>
   have c:∀ {b d:Nat} {z:To},Nat.beq (X.C.P.cellsOf m.type) 0=false->oval σ.tmps x = .pointer (some ⟨b,d,z⟩)->
     am X.C X.pts (oval σ.tmps) o=some (.val (.pointer (some ⟨b,d+m.offset,z⟩))):=by
    intro b d z g G;have g:¬X.C.P.cellsOf m.type=0:=λe=>by rw[e]at g;cases g
    simp only[am,E,G,fJ,F,B,qd1 g,qaJ]
   split at i
   next s d g e=>
    obtain⟨k,_⟩:=l.sval e (by simp);exact aF l n (s:=.lad s (d+m.offset)) trivial (c g k) i
   next s d g e=>
    obtain⟨k,_⟩:=l.sval e (by simp);exact aF l n (s:=.gad s (d+m.offset)) trivial (c g k) i
   next s j y g e=>
    obtain⟨k,_⟩:=l.sval e (by simp);refine aF l n (s:=.ldx s (j+m.offset) y) trivial ?_ i;rw[c g k,SV.val,kg]
   next s j y g e=>
    obtain⟨k,_⟩:=l.sval e (by simp);refine aF l n (s:=.gdx s (j+m.offset) y) trivial ?_ i;rw[c g k,SV.val,kg]
   next p g e=>
    obtain⟨k,_⟩:=l.sval e (by simp);simp only[SV.val,S0.val,SL.val]at k;obtain⟨q,r,u⟩:=hA.opt _ _ i;obtain⟨D,w⟩:=hA.chk _ _ u;refine aF l n (s:=.st (.leaf (.v q))) (aA D) ?_ w;unfold fdP at r;split at r
    next a=>
     cases r;exact c g k
    ·cases r
   ·exact absurd i hA.fail
  ·exact absurd i hA.fail
 ·exact absurd i hA.fail
def jJ{i:TG}{n:Nat}(h:constI i=some n):intOf (oval σ.tmps i)=some (n:Int):=by
 unfold constI at h;split at h
 ·cases h;simp[oval,flat,fD,scalar,Am.intOf]
 ·cases h
def ue{len:Nat}{j:Int}{u:Unit}(h:inB len j=some u):0<=j/\j<(len:Int):=by
 rw[inB_eq]at h;split at h
 ·assumption
 ·cases h
def idS_ok{esz:Nat}{x q:Value}{i:Int}(h:idS esz x i=some q) :
  ∃a len cx,x = .slice (some a) len cx/\(0<=i/\i<(len:Int))/\q = .pointer (some ⟨a.block,a.off+i.toNat*esz,if a.spot=some 1 then some 1 else none⟩):=by
 rw[ud]at h;split at h
 next a len cx=>
  split at h
  next b=>cases h;exact⟨a,len,cx,rfl,b,rfl⟩
  ·cases h
 ·cases h
def uf(hA:AlgOk A X.C Sg X.T holds abs)(y:Rp ev σ)(G:abs h=σ.heap){t:TJ}{x i:TG}(W:o.op = .indexAddr t x i)
  (d:holds (kZ A X o.dst t x i ev h K)):Done X holds abs o σ K:=by
 unfold kZ at d;split at d
 next E e S=>
  have c:∀ {b w:Nat} {U:To} {j:Int},Nat.beq (X.C.P.cellsOf e) 0=false->oval σ.tmps x = .pointer (some ⟨b,w,U⟩)->intOf (oval σ.tmps i)=some j->0<=j->j<(E:Int)->
    am X.C X.pts (oval σ.tmps) o=some (.val (.pointer (some ⟨b,w+j.toNat*X.C.P.cellsOf e,U⟩))):=by
   intro b w U j f hx hi Y g;have f:¬X.C.P.cellsOf e=0:=λe=>by rw[e]at f;cases f
   simp only[am,W,hx,eN,hi,S,qd1 f,qd0 (And.intro Y g),qaJ]
  have B:∀ {k:TF} {j:Int},sval ev i = .st (.leaf (.i k j))->intOf (oval σ.tmps i)=some j:=by
   intro k j Q;obtain⟨g,_⟩:=y.sval Q (by simp);rw[g];rfl
  simp only at d;split at d
  next s w n f z L=>
   obtain⟨g,_⟩:=y.sval z (by simp);split at d
   next r=>
    have r:n<E:=by simpa[qa5]using r
    refine aF y G (s:=.lad s (w+n*X.C.P.cellsOf e)) trivial ?_ d;rw[c f g (jJ L) (by omega) (by omega)];simp[SV.val]
   ·exact absurd d hA.fail
  next s w n f z L=>
   obtain⟨g,_⟩:=y.sval z (by simp);split at d
   next r=>
    have r:n<E:=by simpa[qa5]using r
    refine aF y G (s:=.gad s (w+n*X.C.P.cellsOf e)) trivial ?_ d;rw[c f g (jJ L) (by omega) (by omega)];simp[SV.val]
   ·exact absurd d hA.fail
  next s l M n f z L=>
   obtain⟨g,_⟩:=y.sval z (by simp);split at d
   next r=>
    have r:n<E:=by simpa[qa5]using r
    refine aF y G (s:=.ldx s (l+n*X.C.P.cellsOf e) M) trivial ?_ d;rw[c f g (jJ L) (by omega) (by omega)];simp[SV.val,kg]
   ·exact absurd d hA.fail
  next s l M n f z L=>
   obtain⟨g,_⟩:=y.sval z (by simp);split at d
   next r=>
    have r:n<E:=by simpa[qa5]using r
    refine aF y G (s:=.gdx s (l+n*X.C.P.cellsOf e) M) trivial ?_ d;rw[c f g (jJ L) (by omega) (by omega)];simp[SV.val,kg]
   ·exact absurd d hA.fail
  next s w k j f z F _=>
   obtain⟨g,_⟩:=y.sval z (by simp);obtain⟨u,D,m⟩:=hA.opt _ _ d;obtain⟨I,J⟩:=ue D;exact aF y G (s:=.ldx s w [(j,X.C.P.cellsOf e)]) trivial (by rw[c f g (B F) I J];rfl) m
  next s w k j f z F _=>
   obtain⟨g,_⟩:=y.sval z (by simp);obtain⟨u,D,m⟩:=hA.opt _ _ d;obtain⟨I,J⟩:=ue D;exact aF y G (s:=.gdx s w [(j,X.C.P.cellsOf e)]) trivial (by rw[c f g (B F) I J];rfl) m
  next s l M k j f z F _=>
   obtain⟨g,_⟩:=y.sval z (by simp);obtain⟨u,D,m⟩:=hA.opt _ _ d;obtain⟨I,J⟩:=ue D;exact aF y G (s:=.ldx s l (M++[(j,X.C.P.cellsOf e)])) trivial (by rw[c f g (B F) I J,SV.val,oA]) m
  next s l M k j f z F _=>
   obtain⟨g,_⟩:=y.sval z (by simp);obtain⟨u,D,m⟩:=hA.opt _ _ d;obtain⟨I,J⟩:=ue D;exact aF y G (s:=.gdx s l (M++[(j,X.C.P.cellsOf e)])) trivial (by rw[c f g (B F) I J,SV.val,oA]) m
  next p k j f z F=>
   obtain⟨g,_⟩:=y.sval z (by simp);simp only[SV.val,S0.val,SL.val]at g;obtain⟨q,H,m⟩:=hA.opt _ _ d;obtain⟨Z,O⟩:=hA.chk _ _ m;unfold idP at H;split at H
   next a=>
    split at H
    next N=>
     cases H;exact aF y G (s:=.st (.leaf (.v _))) (aA Z) (c f g (B F) N.1 N.2) O
    ·cases H
   ·cases H
  ·exact absurd d hA.fail
 next e S=>
  simp only at d;split at d
  next p k j f z F=>
   obtain⟨g,_⟩:=y.sval z (by simp);obtain⟨V,_⟩:=y.sval F (by simp);simp only[SV.val,S0.val,SL.val]at g V;obtain⟨q,H,m⟩:=hA.opt _ _ d;have f:¬X.C.P.cellsOf e=0:=λe=>by rw[e]at f;cases f
   obtain⟨a,E,cx,rfl,N,rfl⟩:=idS_ok H;refine aF y G (s:=.st (.leaf (.v _))) (aA ?_) ?_ m
   ·show az _=true;by_cases Q:a.spot=some 1<;>simp[Q,az,noLoc,aR,aZ,aT,aI,av]
   ·simp only[am,W,g,V,eN,Am.intOf,S,qd1 f,qd0 N,qaJ];rfl
  ·exact absurd d hA.fail
 ·exact absurd d hA.fail
def xL{C:Cfg}{t:TJ}{q:Bool}{cs ds:List SL}{off:Nat}{x:S0}(c:aggT C.P t=some q)(f:cutS cs off (if q then C.P.cellsOf t else 1)=some ds)(w:mkS0 q ds=some x) :
  vY C t ⟨cs.map SL.val⟩ off=some x.val/\x.cells=ds:=by
 obtain⟨s,g⟩:=ou w;refine⟨?_,s⟩;unfold cutS at f;unfold aggT at c;unfold vY;split at c
 next r e=>
  cases c;simp only[if_true]at f;split at f
  next l=>
   cases f;rcases g with⟨_,g⟩|⟨j,_⟩
   ·rw[e];simp only[g,qaI,Value.agg.injEq];apply qbk.1;rw[qcq];simp[List.extract,qcv,qcG]
   ·cases j
  ·cases f
 next n y e=>
  cases c;simp only[if_true]at f;split at f
  next l=>
   cases f;rcases g with⟨_,g⟩|⟨j,_⟩
   ·rw[e];simp only[g,qaI,Value.agg.injEq];apply qbk.1;rw[qcq];simp[List.extract,qcv,qcG]
   ·cases j
  ·cases f
 next d u v e=>
  cases c;simp only[qar,if_false]at f;split at f
  next l=>
   cases f;rcases g with⟨j,_⟩|⟨_,g⟩
   ·cases j
   ·rw[e];have m:off<cs.length:=by omega
    rw[qbf m]at g;simp only[qcx,qcJ,qaF,qbA,qa9,and_true]at g;rw[←g];have p:off<(⟨cs.map SL.val⟩ : Array Value).size:=by simpa using m
    have k:(⟨cs.map SL.val⟩ : Array Value)[off]?=some cs[off].val:=by
     rw[qbe p];simp
    rw[k];split
    next r i=>exact absurd (qat i) (u _)
    next a b i=>exact absurd (qat i) (v _ _)
    ·rfl
    next i=>cases i
  ·cases f
 ·cases c
def field_ok(hA:AlgOk A X.C Sg X.T holds abs)(j:Rp ev σ)(u:abs h=σ.heap){t:TJ}{x:TG}{f:Nat}(w:o.op = .field t x f)
  (a:holds (match X.C.P.underlying t,sval ev x with
  |some (.struct i),.st (.agg cs)=>match i[f]? with
   |some c=>match (aggT X.C.P c.type).bind (λd=>(cutS cs c.offset (if d then X.C.P.cellsOf c.type else 1)).bind (mkS0 d))with
    |some x=>setD o.dst (.st x) ev h K
    |none=>A.fail
   |none=>A.fail
  |_,_=>A.fail)):Done X holds abs o σ K:=by
 split at a
 next i cs y e=>
  obtain⟨p,n⟩:=j.sval e (by simp);split at a
  next c v=>
   split at a
   next z b=>
    obtain⟨d,g,b⟩:=qas.1 b;obtain⟨B,k,b⟩:=qas.1 b;obtain⟨q,r⟩:=xL g k b;refine aF j u (s:=.st z) (λl m=>?_) ?_ a
    ·rw[r]at m;exact n l ((nD k).2 l m)
    ·simp only[am,w,p,SV.val,S0.val,tP,y,v,qao,q,qaJ]
   ·exact absurd a hA.fail
  ·exact absurd a hA.fail
 ·exact absurd a hA.fail
def yJ(hA:AlgOk A X.C Sg X.T holds abs)(b:Rp ev σ)(g:abs h=σ.heap){t:TG}{i:Nat}(j:o.op = .extract t i)
  (a:holds (match sval ev t with
  | .tup xs=>match xs[i]? with
   |some x=>setD o.dst (.st x) ev h K
   |none=>A.fail
  |_=>A.fail)):Done X holds abs o σ K:=by
 split at a
 next xs e=>
  obtain⟨f,d,k⟩:=b.sval e (by simp);split at a
  next x c=>
   refine aF b g (s:=.st x) (d x (qab c)) ?_ a;simp only[am,j,f,SV.val];rw[qd1 (by simp;omega)];have:(⟨xs.map S0.val⟩ : Array Value)[i]?=some x.val:=by simp[c]
   rw[this];rfl
  ·exact absurd a hA.fail
 ·exact absurd a hA.fail
def vH(hA:AlgOk A X.C Sg X.T holds abs)(c:Rp ev σ)(m:abs h=σ.heap){f:Fn}{first cap:Array Operand}(p:o.op = .makeFunc f first cap)
  (d:holds (match (generalizing:=false) f,svals ev first.toList,svals ev cap.toList with
  | .func g,some a,some b=>A.chk (.func (.func g) ⟨aq a⟩ ⟨aq b⟩) (setD o.dst (.st (.leaf (.v (.func (.func g) ⟨aq a⟩ ⟨aq b⟩)))) ev h K)
  |_,_,_=>A.fail)):Done X holds abs o σ K:=by
 split at d
 next g a b _ i j=>
  obtain⟨k,_⟩:=c.svals i;obtain⟨l,_⟩:=c.svals j;obtain⟨n,e⟩:=hA.chk _ _ d;refine aF c m (s:=.st (.leaf (.v _))) (aA n) ?_ e;simp only[am,p,SV.val,S0.val,SL.val,qaI,Eff.val.injEq,Value.func.injEq,true_and];refine⟨?_,?_⟩<;>apply qbk.1<;>simp[k,l]
 ·exact absurd d hA.fail
def lw(b:Rp ev σ){r:Tg}{x:Option Int}(h:optI ev r=some x):(r=none/\x=none)∨∃y k n,r=some y/\oval σ.tmps y = .int k n/\x=some n:=by
 unfold optI at h;split at h
 ·cases h;exact .inl ⟨rfl,rfl⟩
 next y=>
  split at h
  next k n e=>
   cases h;obtain⟨a,_⟩:=b.sval e (by simp);exact .inr ⟨y,k,n,rfl,a,rfl⟩
  ·cases h
def dR(b:Rp ev σ){r:Tg}{x:Option Int}(h:optI ev r=some x):gM (r.map (oval σ.tmps))=some x:=by
 rcases lw b h with⟨rfl,rfl⟩|⟨y,k,n,rfl,a,rfl⟩
 ·rfl
 ·simp[a,gM]
def lm(hA:AlgOk A X.C Sg X.T holds abs)(d:Rp ev σ)(j:abs h=σ.heap){t:TJ}{r:Tg}(l:o.op = .makeMap t r)
  (b:holds (match ob X.C t (r.map λ_=>.int .i64 0),optI ev r with
  |true,some _=>A.new (.map [] 0) h λn h=>setD o.dst (.st (.leaf (.v (.map (some n))))) ev h K
  |_,_=>A.fail)):Done X holds abs o σ K:=by
 split at b
 next x g e=>
  obtain⟨m,c,a⟩:=hA.new _ _ _ b;rw[j]at c a;refine dj d c (s:=.st (.leaf (.v (.map (some σ.heap.length))))) (aA rfl) (f:=λH=>some (H++[.map [] 0],.map (some H.length))) ?_ rfl a;have:ob X.C t (r.map (oval σ.tmps))=true:=by
   rcases lw d e with⟨rfl,rfl⟩|⟨y,k,n,rfl,i,rfl⟩
   ·rfl
   ·simp only[qaJ,ob,i]at g ⊢;exact g
  simp only[am,l,this,if_true]
 ·exact absurd b hA.fail
def yj(n esz a b:Nat):az (.slice (some ⟨n,0,tag esz⟩) a b)=true:=by
 simp[az,noLoc,aR,aZ,aT,aI,av,tag]
def ul(hA:AlgOk A X.C Sg X.T holds abs)(k:Rp ev σ)(I:abs h=σ.heap){t:TJ}{l c:TG}(L:o.op = .makeSlice t l c)
  (b:holds (match X.C.P.underlying t,sval ev l,sval ev c with
  |some (.slice e),.st (.leaf (.i _ l)),.st (.leaf (.i _ c))=>match X.C.P.info? e with
   |some a=>match Nat.beq a.size 0||Nat.blt 4096 a.bytes,(kP a).bind s0Of with
    |false,some z=>A.opt (mkOk l c) λ_=>
      A.new (.cells (bc (z.cells.map SL.val) c.toNat) a.size true) h λn h=>setD o.dst (.st (.leaf (.v (.slice (some ⟨n,0,tag a.size⟩) l.toNat (c.toNat+1))))) ev h K
    |_,_=>A.fail
   |none=>A.fail
  |_,_,_=>A.fail)):Done X holds abs o σ K:=by
 split at b
 next e N Q O D M E F=>
  obtain⟨G,_⟩:=k.sval E (by simp);obtain⟨H,_⟩:=k.sval F (by simp);split at b
  next a J=>
   split at b
   next z j w=>
    obtain⟨W,x,y⟩:=qas.1 w;obtain⟨S,U,_⟩:=sL y;obtain⟨u,q,p⟩:=hA.opt _ _ b;obtain⟨V,B,g⟩:=hA.new _ _ _ p;rw[I]at B g;unfold mkOk at q;split at q
    next d=>
     simp only[qb2]at j;have r:¬a.size=0:=λe=>by rw[e]at j;cases j.1
     have m:a.bytes<=4096:=by
      have:=j.2;rw[←qaU,qa5]at this;omega
     refine dj k B (s:=.st (.leaf (.v _))) (aA (yj _ _ _ _)) (f:=dx X.C t (.int N Q) (.int O D)) ?_ ?_ g
     ·simp only[am,L,G,H];rfl
     ·simp only[dx,Am.intOf,M,J,qd1 r,x];rw[qd0 ⟨d.1,d.2.1,d.2.2,m⟩,←S,S0.cells_val U];rfl
    ·cases q
   ·exact absurd b hA.fail
  ·exact absurd b hA.fail
 ·exact absurd b hA.fail
def rh(hA:AlgOk A X.C Sg X.T holds abs)(E:Rp ev σ)(Q:abs h=σ.heap){t:TJ}{n:Nat}{u:Array (Nat×Operand)}(V:o.op = .buildSlice t n u)
  (d:holds (match X.C.P.underlying t,svals ev (u.toList.map (·.2))with
  |some (.slice e),some xs=>match X.C.P.info? e with
   |some a=>match Nat.beq a.size 0||Nat.blt 16777216 (n*a.size),(kP a).bind s0Of with
    |false,some z=>match rF (λi=>some (i*a.size,a.size)) (List.replicate n z.cells).flatten ((u.toList.map (·.1)).zip xs)with
     |some cs=>A.new (.cells (cs.map SL.val) a.size true) h λm h=>setD o.dst (.st (.leaf (.v (.slice (some ⟨m,0,tag a.size⟩) n (n+1))))) ev h K
     |none=>A.fail
    |_,_=>A.fail
   |none=>A.fail
  |_,_=>A.fail)):Done X holds abs o σ K:=by
 split at d
 next e xs Y O=>
  split at d
  next a U=>
   split at d
   next z L y=>
    obtain⟨zv,B,D⟩:=qas.1 y;obtain⟨z1,N,_⟩:=sL D;split at d
    next cs S=>
     obtain⟨h',M,r⟩:=hA.new _ _ _ d;rw[Q]at M r;obtain⟨J,F⟩:=E.svals O;have ad:∀c∈(List.replicate n z.cells).flatten,c.good:=by
      intro c w;obtain⟨l,G,w⟩:=List.mem_flatten.1 w;rw[List.mem_replicate]at G;rw[G.2]at w;exact N c w
     have j:=rG _ _ _ _ (sY (is:=u.toList.map (·.1)) F) S;simp only[qb2]at L;obtain⟨b,g⟩:=L;have b:¬a.size=0:=λe=>by rw[e]at b;cases b
     have g:¬n*a.size > 16777216:=by rw[←qaU,qa5]at g;omega
     refine dj E M (s:=.st (.leaf (.v _))) (aA (yj _ _ _ _))
      (f:=λH=>some (H++[.cells (cs.map SL.val) a.size true],.slice (some ⟨H.length,0,tag a.size⟩) n (n+1))) ?_ rfl r
     have q:(u.toList.all λp=>(oval σ.tmps p.2).cells.toList.all bg)=true:=by
      rw[qac];intro p W;have I:oval σ.tmps p.2∈aq xs:=by
       rw[←J];exact qaA.2 ⟨p.2,qaA.2 ⟨p,W,rfl⟩,rfl⟩
      simp only[aq,qaA]at I;obtain⟨x,Z,e⟩:=I;rw[←e];exact S0.cells_ok (F x Z)
     have k:(bc zv.cells.toList n).toArray=⟨((List.replicate n z.cells).flatten).map SL.val⟩:=by
      rw[←z1,S0.cells_val N];simp[bc,List.map_flatten]
     simp only[am,V,q,if_true,eS,Y,U];rw[qd1 b,qd1 g];simp only[B];rw[qS J,k,j];rfl
    ·exact absurd d hA.fail
   ·exact absurd d hA.fail
  ·exact absurd d hA.fail
 ·exact absurd d hA.fail
end
end Sx
namespace Sx
section
variable [Val] [Kno] {R HT:Type} {A:Alg R HT} {X:Ctxt} {Sg:Tc} {holds:R->Prop} {abs:HT->Tp}
variable {ev:Env} {σ:St} {h:HT} {o:Oper} {K:KN R HT}
def cutS_len{cs ds:List SL}{off n:Nat}(h:cutS cs off n=some ds):ds.length=n:=by
 unfold cutS at h;split at h
 next a=>cases h;simp;omega
 ·cases h
def mk_any{a:Bool}{ds:List SL}{n:Nat}(b:ds.length=(if a then n else 1)):∃x,mkS0 a ds=some x:=by
 cases a with
 |true=>exact⟨_,rfl⟩
 |false=>
  simp only[qar,if_false]at b
  match ds,b with
  | [d],_=>exact⟨_,rfl⟩
def index_ok(hA:AlgOk A X.C Sg X.T holds abs)(m:Rp ev σ)(Q:abs h=σ.heap){t:TJ}{x i:TG}{w:TH}(U:o.op = .index t x i)
  (a:holds (match X.C.P.underlying t,sval ev x,sval ev i with
  |some (.array len e),.st (.agg cs),.st (.leaf (.i _ j))=>match aggT X.C.P e with
   |some n=>match eqB n (jF (mz w))&&tq cs (skKs (mz w)) 0 [(j,X.C.P.cellsOf e)]&&Nat.beq (if n then X.C.P.cellsOf e else 1) (skKs (mz w)).length with
    |false=>A.fail
    |true=>A.opt (inB len j) λ_=>A.opt (oN (cs.map SL.lf) 0 [(j,X.C.P.cellsOf e)] (if n then X.C.P.cellsOf e else 1)) λls=>setL A o.dst (mz w) ls ev h K
   |none=>A.fail
  |some .string,.st (.leaf (.v (.string s))),.st (.leaf (.i _ j))=>A.opt (strAt s j) λb=>setD o.dst (.st (.leaf (.i .u8 b))) ev h K
  |_,_,_=>A.fail)):Done X holds abs o σ K:=by
 split at a
 next len e cs k j L D E=>
  obtain⟨d,O⟩:=m.sval D (by simp);obtain⟨f,_⟩:=m.sval E (by simp);split at a
  next n F=>
   split at a
   ·exact absurd a hA.fail
   next r=>
    simp only[qaa]at r;obtain⟨⟨B,c2⟩,c3⟩:=r;have B:=eqB_eq B;have c3:=qad c3;obtain⟨u,G,g⟩:=hA.opt _ _ a;obtain⟨Z,b2⟩:=ue G;obtain⟨ls,hp,I⟩:=hA.opt _ _ g;obtain⟨ds,p,rfl⟩:=xO hp;have q:ds.length=(if n then X.C.P.cellsOf e else 1):=cutS_len p;obtain⟨y,V⟩:=mk_any q;obtain⟨Y,p2⟩:=xL F p V;obtain⟨m1,W⟩:=ou V;rw[c3]at p;rw[B]at W;obtain⟨z,M,N,J⟩:=setL_ok hA (mG c2 p) (λc r=>O c ((nD p).2 c r)) W I;refine aF m Q (s:=.st z) N ?_ J;have H:lY X.C t (.agg ⟨cs.map SL.val⟩) (.int k j)=some y.val:=by
     have:offX 0 [(j,X.C.P.cellsOf e)]=j.toNat*X.C.P.cellsOf e:=by simp[offX]
     rw[this]at Y;simp only[lY,Am.intOf,L,qd0 (And.intro Z b2)];exact Y
    have d:oval σ.tmps x = .agg ⟨cs.map SL.val⟩:=d;have f:oval σ.tmps i = .int k j:=f;simp only[am,U,d,f,H,qaJ];rw[←M];rfl
  ·exact absurd a hA.fail
 next s k j L D E=>
  obtain⟨d,O⟩:=m.sval D (by simp);obtain⟨f,_⟩:=m.sval E (by simp);obtain⟨b,G,g⟩:=hA.opt _ _ a;obtain⟨q1,q2⟩:=strAt_ok G;have d:oval σ.tmps x = .string s:=d;have f:oval σ.tmps i = .int k j:=f;refine aF m Q (s:=.st (.leaf (.i .u8 b))) (λl S=>?_) ?_ g
  ·simp only[S0.cells,qaq]at S;subst S;trivial
  ·have H:lY X.C t (.string s) (.int k j)=some (.int .u8 b):=by
    simp only[lY,Am.intOf,L,qd0 q1];exact q2
   simp only[am,U,d,f,H,qaJ];rfl
 ·exact absurd a hA.fail
def vd{P:TD}{d b e:Ti}(h1:∀v,d=some v->∃k,v = .int k 0)(f:∀v,b=some v->∃k,v = .int k 0)(g:∀v,e=some v->∃k,v = .int k 0)(i:e=none∨b.isSome=true)(w:World) :
  (Instr.sliceBounds true 0 0 d b e).run P w = .ok (0,0,0) w:=by
 have a:∀(k:TF) (c:BoundsCode),(Instr.sliceBound (.int k 0) 0 c).run P w = .ok 0 w:=λk c=>by
  simp[Instr.sliceBound,asIntOf]
 unfold Instr.sliceBounds;cases e with
 |none=>
  cases b with
  |none=>
   cases d with
   |none=>simp
   |some l=>obtain⟨k,rfl⟩:=h1 _ rfl;simp[a]
  |some u=>
   obtain⟨k,rfl⟩:=f _ rfl;cases d with
   |none=>simp[a]
   |some l=>obtain⟨k,rfl⟩:=h1 _ rfl;simp[a]
 |some m=>
  obtain⟨k,rfl⟩:=g _ rfl;cases b with
  |none=>rcases i with h|h<;>simp at h
  |some u=>
   obtain⟨k,rfl⟩:=f _ rfl;cases d with
   |none=>simp[a]
   |some l=>obtain⟨k,rfl⟩:=h1 _ rfl;simp[a]
def sliceE_ok(hA:AlgOk A X.C Sg X.T holds abs)(j:Rp ev σ)(V:abs h=σ.heap){t:TJ}{x:TG}{I l u:Tg}(L:o.op = .slice t x I l u)
  (E:holds (match X.C.P.underlying t,sval ev x,optI ev I,optI ev l,optI ev u with
  |some (.slice e),.st (.leaf (.v x)),some I,some l,some u=>match Nat.beq (X.C.P.cellsOf e) 0 with
   |true=>A.fail
   |false=>A.opt (slS (X.C.P.cellsOf e) x I l u) λq=>A.chk q (setD o.dst (.st (.leaf (.v q))) ev h K)
  |_,_,_,_,_=>A.fail)):Done X holds abs o σ K:=by
 split at E
 next e v an ad ap W e1 J z B=>
  obtain⟨g,_⟩:=j.sval e1 (by simp);simp only[SV.val,S0.val,SL.val]at g;split at E
  ·exact absurd E hA.fail
  next m=>
   have m:¬X.C.P.cellsOf e=0:=λe=>by rw[e]at m;cases m
   obtain⟨q,f,N⟩:=hA.opt _ _ E;obtain⟨hg,F⟩:=hA.chk _ _ N;have b2:=dR j J;have b3:=dR j z;have b4:=dR j B;unfold slS at f;split at f
   next a ag cx=>
    split at f
    ·cases f
    next O=>
     split at f
     next p=>
      cases f;refine aF j V (s:=.st (.leaf (.v _))) (aA hg) ?_ F;simp only[am,L,g,ye,b2,b3,b4,W,qd1 m,qd1 O,qd0 p,oF];rfl
     ·cases f
   ·split at f
    next p=>
     cases f;have d:∀ {r:Tg} {x:Option Int},optI ev r=some x->x.getD 0=0->∀v,r.map (oval σ.tmps)=some v->∃k,v = .int k 0:=by
      intro r x H U v S;rcases lw j H with⟨rfl,rfl⟩|⟨y,k,n,rfl,g,rfl⟩
      ·cases S
      ·simp only[qaJ,qaI,g]at S;simp at U;subst U;exact⟨k,S.symm⟩
     have b:∀ {r:Tg} {x:Option Int},optI ev r=some x->∀y,r=some y->plain (oval σ.tmps y)=true/\den (oval σ.tmps y)=oval σ.tmps y:=by
      intro r x H y Y;rcases lw j H with⟨rfl,rfl⟩|⟨Z,k,n,rfl,g,rfl⟩
      ·cases Y
      ·cases Y;rw[g];exact⟨rfl,rfl⟩
     have c:∀ {r:Tg} {x:Option Int},optI ev r=some x->r.map (λy=>den (oval σ.tmps y))=r.map (oval σ.tmps):=by
      intro r x H;cases r with
      |none=>rfl
      |some y=>simp[(b H y rfl).2]
     refine cG j V (s:=.st (.leaf (.v (.slice none 0 0)))) (aA rfl) ⟨by rw[L];rfl,?_,rfl,λw=>?_⟩ F
     ·rw[L];simp only[Op.operands,qb8,qdL,qaa];refine⟨⟨⟨by simp[g];rfl,?_⟩,?_⟩,?_⟩
      ·cases I with
       |none=>rfl
       |some y=>simp[(b J y rfl).1]
      ·cases l with
       |none=>rfl
       |some y=>simp[(b z y rfl).1]
      ·cases u with
       |none=>rfl
       |some y=>simp[(b B y rfl).1]
     ·have G:u.map (oval σ.tmps)=none∨(l.map (oval σ.tmps)).isSome=true:=by
       rcases p.2.2.2 with G|G
       ·left;rcases lw j B with⟨rfl,rfl⟩|⟨Z,k,n,rfl,g,rfl⟩
        ·rfl
        ·cases G
       ·right;rcases lw j z with⟨rfl,rfl⟩|⟨Z,k,n,rfl,g,rfl⟩
        ·cases G
        ·rfl
      have M:=vd (P:=X.C.P) (d J p.1) (d z p.2.1) (d B p.2.2.1) G w;have Q:∃i,X.C.P.info? e=some i:=by
       unfold Program.cellsOf at m;cases l:X.C.P.info? e with
       |none=>rw[l]at m;exact absurd rfl m
       |some i=>exact⟨i,rfl⟩
      obtain⟨i,l⟩:=Q;have D:den (.slice none 0 0) = .slice none 0 0:=rfl;simp only[execOp,L,g,c J,c z,c B,D,Instr.sliceAt,Instr.slice,Sem.run_bind,run_underlying W,Result.andThen_ok,M,bJ l,Sem.run_pure];simp only[SV.val,S0.val,SL.val,D];simp
    ·cases f
   ·cases f
 ·exact absurd E hA.fail
def ns{a:Bool}{v:Value}{cs:Tk}(h:gO a v=some cs):mkV a cs v:=by
 unfold gO at h;split at h
 ·cases h;exact .inl ⟨rfl,rfl⟩
 ·cases h
 ·cases h
 ·cases h;exact .inr ⟨rfl,rfl⟩
def mapG_at(H:Tp)(id:Nat):mapG (λi=>H[i]?) id=hmap H id:=rfl
def luG_ok{C:Cfg}{t kt n:TJ}{l ok:Bool}{z m k:Value}{H:Tp}{cs:Tk}(s:C.P.underlying t=some (.map kt n))(u:ew C.P n=some z)
  (d:luG C kt l z m k ok (λi=>H[i]?)=some cs):∃v b a,gO l v=some a/\cs=a++(if ok then [.bool b]else [])/\dH C t m k ok H=some (if ok then .tuple #[v,.bool b]else v):=by
 unfold luG at d;simp only[wU]at d;unfold dH;rw[s];simp only;split at d
 ·cases d
 next e=>
  have e:¬(!iZ C.P kt k)=true:=by
   have:=keyF_ok (P:=C.P) (kt:=kt) (k:=k) (by simpa using e);simpa using this
  rw[qd1 e];simp only[u];split at d
  ·obtain⟨a,f,g⟩:=qah.1 d;exact⟨z,false,a,f,g.symm,rfl⟩
  next id=>
   rw[mapG_at]at d;split at d
   ·cases d
   next w c r=>
    simp only[r];split at d
    ·cases d
    next j=>
     rw[j];obtain⟨a,f,g⟩:=qah.1 d;exact⟨z,false,a,f,g.symm,rfl⟩
    next i j=>
     rw[j];simp only;obtain⟨a,f,g⟩:=qah.1 d;obtain⟨v,p,q⟩:=qas.1 f;exact⟨v,true,a,q,g.symm,by rw[p];rfl⟩
  ·cases d
def yW{C:Cfg}{pts:Tx}{ρ:Tf}{t:TJ}{m k:TG}{ok:Bool}(c:o.op = .lookup t m k ok)(H:Tp){v:Value}(a:dH C t (ρ m) (ρ k) ok H=some v) :
  am C pts ρ o=some (.val v)∨∃f,am C pts ρ o=some (.hget f)/\f H=some v:=by
 simp only[am,c];split
 next b=>
  left;rw[b]at a;have:dH C t (.map none) (ρ k) ok []=dH C t (.map none) (ρ k) ok H:=rfl;rw[this,a];rfl
 ·right;exact⟨_,rfl,a⟩
def tH(b:Rp ev σ)(c:abs h=σ.heap){s:SV}(e:s.gd){t:TJ}{m k:TG}{ok:Bool}(i:o.op = .lookup t m k ok)
  (j:dH X.C t (oval σ.tmps m) (oval σ.tmps k) ok σ.heap=some s.val) (d:holds (setD o.dst s ev h K)):Done X holds abs o σ K:=by
 rcases yW (pts:=X.pts) i σ.heap j with a|⟨f,a,g⟩
 ·exact aF b c e a d
 ·exact jK b c e a g d
def look_ok(hA:AlgOk A X.C Sg X.T holds abs)(p:Rp ev σ)(q:abs h=σ.heap){t:TJ}{m k:TG}{ok:Bool}{U:TH}(J:o.op = .lookup t m k ok)
  (a:holds (match X.C.P.underlying t,sval ev m,sval0 ev k with
  |some (.map kt H),.st (.leaf (.v m)),some k=>match ew X.C.P H with
   |some z=>match (generalizing:=false) U,ok with
    | [g],false=>A.peek (.fn (luG X.C kt (jF g) z m k.val false)) h λcs=>ucS A g cs λx r=>A.uc0 r (setD o.dst (.st x) ev h K)
    | [g,.leaf .b],true=>A.peek (.fn (luG X.C kt (jF g) z m k.val true)) h λcs=>ucS A g cs λx r=>A.ucB r λt r=>A.uc0 r (setD o.dst (.tup [x,.leaf (.b t)]) ev h K)
    |_,_=>A.fail
   |none=>A.fail
  |_,_,_=>A.fail)):Done X holds abs o σ K:=by
 split at a
 next kt H mv Z L Q S=>
  obtain⟨w,_⟩:=p.sval Q (by simp);obtain⟨I,_⟩:=p.sval0 S;simp only[SV.val,S0.val,SL.val]at w;split at a
  next z N=>
   split at a
   next g=>
    obtain⟨cs,f,c⟩:=hA.peek _ _ _ a;simp only[Pk.run]at f;rw[q]at f;obtain⟨v,b,u,E,j,l⟩:=luG_ok L N f;obtain⟨x,r,n,F,G,d⟩:=uW hA c;obtain⟨D,e⟩:=hA.uc0 _ _ d;rw[D,qaZ]at n;simp only[qar,if_false,qaZ]at j l;have i:=ns E;rw[←j,n]at i;refine tH p q (s:=.st x) G J ?_ e;rw[w,I,l,←qr F i];rfl
   next g=>
    obtain⟨cs,f,c⟩:=hA.peek _ _ _ a;simp only[Pk.run]at f;rw[q]at f;obtain⟨v,b,u,E,j,l⟩:=luG_ok L N f;obtain⟨x,r,n,F,G,d⟩:=uW hA c;obtain⟨W,r',V,e⟩:=hA.ucB _ _ d;obtain⟨D,B⟩:=hA.uc0 _ _ e;simp only[if_true]at j l;rw[V,D,j]at n;obtain⟨Y,O⟩:=List.append_inj' n rfl;simp only[qa9,Value.bool.injEq,and_true]at O;have i:=ns E;rw[Y]at i;refine tH p q (s:=.tup [x,.leaf (.b W)]) ⟨λy M=>?_,qaj 2⟩ J ?_ B
    ·simp only[qax,qb5,or_false]at M;rcases M with rfl|rfl
     ·exact G
     ·exact aA trivial
    ·rw[w,I,l,←qr F i,O];rfl
   ·exact absurd a hA.fail
  ·exact absurd a hA.fail
 ·exact absurd a hA.fail
def muG_ok{C:Cfg}{t kt j:TJ}{m k v:Value}{H:Tp}{n:Nat}{b:List Act1}{cs:Tk}(q:C.P.underlying t=some (.map kt j))(f:noLoc v=true)(g:av v=false)
  (a:muG C kt m k v (λi=>H[i]?) n=some (b,cs)):cI C t m k v H=some (gu H b,undef):=by
 unfold muG at a;simp only[wU]at a;unfold cI;split at a
 next id=>
  rw[q];simp only;split at a
  ·cases a
  next d=>
   have d:iZ C.P kt k=true:=keyF_ok (by simpa using d);rw[qd1 (by simp[d,f,g])];rw[mapG_at]at a;split at a
   ·cases a
   next r c p=>
    simp only[p];split at a
    ·cases a
    next e=>
     rw[e];cases a;rfl
    next i e=>
     rw[e];simp only;split at a
     next l=>
      rw[qd0 l];cases a;rfl
     ·cases a
 ·cases a
def xm(hA:AlgOk A X.C Sg X.T holds abs)(a:Rp ev σ)(u:abs h=σ.heap){t:TJ}{m k v:TG}(ho:o.op = .mapUpdate t m k v∨o.op = .insert t m k v)
  (b:holds (match X.C.P.underlying t,sval ev m,sval0 ev k,sval0 ev v with
  |some (.map kt _),.st (.leaf (.v m)),some k,some v=>A.heap (.fn (muG X.C kt m k.val v.val)) h λ_ h=>setD o.dst .un ev h K
  |_,_,_,_=>A.fail)):Done X holds abs o σ K:=by
 split at b
 next kt D y x z w l n p=>
  obtain⟨i,_⟩:=a.sval l (by simp);obtain⟨q,_⟩:=a.sval0 n;obtain⟨r,g⟩:=a.sval0 p;simp only[SV.val,S0.val,SL.val]at i;obtain⟨e,B,E,d,j,c⟩:=hA.heap _ _ _ b;simp only[Hp.run]at d;rw[u]at d j;refine dj a j (s:=.un) trivial (f:=cI X.C t y x.val z.val) ?_ (muG_ok w (S0.noLoc g) (S0.not_tuple g) d) c;rcases ho with ho|ho<;>simp only[am,ho,i,q,r]
 ·exact absurd b hA.fail
def meG_ok{C:Cfg}{t kt e:TJ}{d:Bool}{z m k:Value}{H:Tp}{n:Nat}{a:List Act1}{cs:Tk}(g:C.P.underlying t=some (.map kt e))(j:ew C.P e=some z)
  (f:meG C kt d z m k (λi=>H[i]?) n=some (a,cs)):∃v b c,gO d v=some b/\cs=b++[.int .i64 c]/\iu C t m k H=some (gu H a,.tuple #[v,.int .i64 c]):=by
 cases f
def mapEn_ok(hA:AlgOk A X.C Sg X.T holds abs)(b:Rp ev σ)(M:abs h=σ.heap){t:TJ}{m k:TG}{Q:TH}(N:o.op = .mapEntry t m k)
  (a:holds (match X.C.P.underlying t,sval ev m,sval0 ev k with
  |some (.map kt u),.st (.leaf (.v m)),some k=>match ew X.C.P u with
   |some z=>match Q with
    | [p,.leaf (.i .i64)]=>A.heap (.fn (meG X.C kt (jF p) z m k.val)) h λcs h=>ucS A p cs λx r=>A.ucI .i64 r λn r=>A.uc0 r (setD o.dst (.tup [x,.leaf (.i .i64 n)]) ev h K)
    |_=>A.fail
   |none=>A.fail
  |_,_,_=>A.fail)):Done X holds abs o σ K:=by
 split at a
 next kt u W V S I J=>
  obtain⟨w,_⟩:=b.sval I (by simp);obtain⟨L,_⟩:=b.sval0 J;simp only[SV.val,S0.val,SL.val]at w;split at a
  next z U=>
   split at a
   next p=>
    obtain⟨q,cs,h',l,E,d⟩:=hA.heap _ _ _ a;simp only[Hp.run]at l;rw[M]at l E;obtain⟨v,H,c,w1,w2,w3⟩:=meG_ok S U l;obtain⟨x,r,F,Y,Z,e⟩:=uW hA d;obtain⟨n,r',r4,g⟩:=hA.ucI _ _ _ e;obtain⟨O,j⟩:=hA.uc0 _ _ g;rw[r4,O,w2]at F;obtain⟨u1,G⟩:=List.append_inj' F rfl;simp only[qa9,Value.int.injEq,true_and,and_true]at G;have B:=ns w1;rw[u1]at B;refine dj b E (s:=.tup [x,.leaf (.i .i64 n)]) ⟨λy D=>?_,qaj 2⟩ (f:=iu X.C t W V.val) ?_ ?_ j
    ·simp only[qax,qb5,or_false]at D;rcases D with rfl|rfl
     ·exact Z
     ·exact aA trivial
    ·simp only[am,N,w,L]
    ·rw[w3,←qr Y B,G];rfl
   ·exact absurd a hA.fail
  ·exact absurd a hA.fail
 ·exact absurd a hA.fail
def esG_ok{m v:Value}{b:Int}{k:TF}{H:Tp}{n:Nat}{a:List Act1}{cs:Tk}(d:noLoc v=true)(e:av v=false)
  (c:esG m b v (λi=>H[i]?) n=some (a,cs)):eZ m (.int k b) v H=some (gu H a,undef):=by
 cases c
def entSt_ok(hA:AlgOk A X.C Sg X.T holds abs)(a:Rp ev σ)(x:abs h=σ.heap){t:TJ}{m s v:TG}(y:o.op = .entryStore t m s v)
  (c:holds (match sval ev m,sval ev s,sval0 ev v with
  | .st (.leaf (.v m)),.st (.leaf (.i _ b)),some v=>A.heap (.fn (esG m b v.val)) h λ_ h=>setD o.dst .un ev h K
  |_,_,_=>A.fail)):Done X holds abs o σ K:=by
 split at c
 next z k b B q r u=>
  obtain⟨l,_⟩:=a.sval q (by simp);obtain⟨n,_⟩:=a.sval r (by simp);obtain⟨w,j⟩:=a.sval0 u;simp only[SV.val,S0.val,SL.val]at l n;obtain⟨g,D,E,e,p,d⟩:=hA.heap _ _ _ c;simp only[Hp.run]at e;rw[x]at e p;refine dj a p (s:=.un) trivial (f:=eZ z (.int k b) B.val) ?_ (esG_ok (S0.noLoc j) (S0.not_tuple j) e) d;simp only[am,y,l,n,w]
 ·exact absurd c hA.fail
def deG_ok{C:Cfg}{t kt b:TJ}{m k:Value}{H:Tp}{n:Nat}{a:List Act1}{cs:Tk}(d:C.P.underlying t=some (.map kt b))
  (c:deG C kt m k (λi=>H[i]?) n=some (a,cs)):nG C t m k H=some (gu H a,undef):=by
 cases c
end
end Sx
namespace Sx
section
variable [Val] [Kno] {R HT:Type} {A:Alg R HT} {X:Ctxt} {Sg:Tc} {holds:R->Prop} {abs:HT->Tp}
variable {ev:Env} {σ:St} {h:HT} {o:Oper} {K:KN R HT}
def slG_at(C:Cfg)(esz:Nat)(H:Tp)(x:Value):slG C esz (λi=>H[i]?) x=dS C H esz x:=rfl
def apG_ok{C:Cfg}{t e:TJ}{c:TypeInfo}{s x:Value}{H:Tp}{f:List Act1}{cs:Tk}(z:C.P.underlying t=some (.slice e))(w:C.P.info? e=some c)(h0:¬c.size=0)
  (B:(kP c).isNone=false) (b:apG C c.size c.bytes s x (λi=>H[i]?) H.length=some (f,cs)):∃v,cs=[v]/\fC C t s x H=some (gu H f,v):=by
 unfold apG at b;unfold fC;simp only[z,w,qd1 h0,B,qar,if_false];rw[slG_at]at b;split at b
 ·cases b
 next E n q=>
  simp only[q];split at b
  ·split at b
   next d=>
    simp only[qd0 d];cases b;exact⟨_,rfl,rfl⟩
   next d=>
    simp only[qd1 d];split at b
    next y=>
     simp only[qd0 y];cases b;exact⟨_,rfl,rfl⟩
    ·cases b
  next a D M=>
   split at b
   ·cases b
   next m=>
    simp only[qd1 m];split at b
    next O N J u=>
     simp only[u];split at b
     ·cases b
     next r=>
      simp only[qd1 r];split at b
      ·cases b
      next F k=>
       simp only[k];split at b
       ·split at b
        next d=>
         simp only[qd0 d];cases b;exact⟨_,rfl,rfl⟩
        next d=>
         simp only[qd1 d];split at b
         next l=>
          simp only[qd0 l];cases b;refine⟨_,rfl,?_⟩;simp[gu,Act1.on]
         ·cases b
       next p=>
        split at b
        next g=>
         simp only[qd0 g];split at b
         next j=>
          simp only[qd0 j];obtain⟨L,G,I⟩:=qah.1 b;cases I;exact⟨_,rfl,by simp only[G];rfl⟩
         next j=>
          simp only[qd1 j];split at b
          next d=>
           simp only[qd0 d];cases b;exact⟨_,rfl,rfl⟩
          ·cases b
        next g=>
         simp only[qd1 g];split at b
         next l=>
          simp only[qd0 l];cases b;exact⟨_,rfl,rfl⟩
         ·cases b
    ·cases b
  ·cases b
def cpG_ok{C:Cfg}{t e:TJ}{d x:Value}{H:Tp}{n:Nat}{a:List Act1}{cs:Tk}(c:C.P.underlying t=some (.slice e))(h0:¬C.P.cellsOf e=0)
  (b:cpG C (C.P.cellsOf e) d x (λi=>H[i]?) n=some (a,cs)):∃v,cs=[v]/\copyA C t d x H=some (gu H a,v):=by
 cases b
def clG_ok{C:Cfg}{t e:TJ}{x:Value}{z:S0}{H:Tp}{n:Nat}{a:List Act1}{cs:Tk}(c:C.P.underlying t=some (.slice e))(h0:¬C.P.cellsOf e=0)(d:wC C.P e=some z)
  (b:clG (C.P.cellsOf e) (z.cells.map SL.val) x (λi=>H[i]?) n=some (a,cs)):tC C t x H=some (gu H a,undef):=by
 cases b
def sN(hA:AlgOk A X.C Sg X.T holds abs){dst:Tn}{a:SK}(c:jF a=false){v:Value}(b:holds (setC A dst a [v] ev h K)):∃x:S0,x.val=v/\x.good/\holds (setD dst (.st x) ev h K):=
 lO hA (.inr ⟨c,rfl⟩) b
def yz(hA:AlgOk A X.C Sg X.T holds abs)(J:Rp ev σ)(L:abs h=σ.heap){c:Call}{b:Builtin}{xs:List S0}{sk:SK}(W:o.op = .call c)(hb:c.callee = .builtin b)(hx:svals ev c.args.toList=some xs)
  (d:holds (mL A X o.dst sk b xs c.argTypes ev h K)):Done X holds abs o σ K:=by
 obtain⟨hv,hg⟩:=J.svals hx;have q:am X.C X.pts (oval σ.tmps) o=ba X.C (oval σ.tmps) b (aq xs) c.argTypes o:=by
  simp only[am,W,fT,hb,hv]
 have N:∀ys:List S0,(∀y∈ys,∀l∈y.cells,l.nv)->ys=xs->c.args.toList.all (λx=>plain (oval σ.tmps x))=true/\c.args.map (λx=>den (oval σ.tmps x))=⟨aq xs⟩:=by
  intro ys S e;subst e;have V:∀v∈c.args.toList.map (oval σ.tmps),plain v=true/\den v=v:=by
   rw[hv];intro v hm;simp only[aq,qaA]at hm;obtain⟨y,hm,rfl⟩:=hm;exact sj (S y hm)
  refine⟨?_,?_⟩
  ·rw[qac];intro x hx;exact(V _ (qaA.2 ⟨x,hx,rfl⟩)).1
  ·apply qbk.1;rw[qbC,←hv];exact qbl λx hx=>(V _ (qaA.2 ⟨x,hx,rfl⟩)).2
 unfold mL at d;split at d
 next s x t F=>
  split at d
  next e D=>
   split at d
   next ad hi=>
    split at d
    ·exact absurd d hA.fail
    next hc=>
     simp only[qb2]at hc;obtain⟨⟨⟨c1,c2⟩,c3⟩,c4⟩:=hc;have c1:¬ad.size=0:=λe=>by rw[e]at c1;cases c1
     obtain⟨M,cs,h',G,O,j⟩:=hA.heap _ _ _ d;simp only[Hp.run]at G;rw[L]at G O;obtain⟨v,rfl,q3⟩:=apG_ok D hi c1 c2 G;obtain⟨y,rfl,g,B⟩:=sN hA rfl j;refine dj J O (s:=.st y) g (f:=fC X.C t s x) ?_ q3 B;rw[q];simp only[ba,aq,qaF,qbA,S0.val,SL.val,F];refine qd1 λr=>?_;have r:((c.argTypes[1]?.any λu=>(X.C.P.underlying u) matches some (.int _)|none)||c.argTypes[1]?.isNone)=true:=r;rw[qaS]at r;rcases r with r|r
     ·exact absurd (r.symm.trans c3) (by simp)
     ·exact absurd (r.symm.trans c4) (by simp)
   ·exact absurd d hA.fail
  ·exact absurd d hA.fail
 next x t F=>
  split at d
  next e x' D=>
   obtain⟨n,Q,j⟩:=hA.opt _ _ d;unfold lenS at Q;split at Q
   next a m cx=>
    cases Q;refine aF J L (s:=.st (.leaf (.i .i64 _))) (aA trivial) ?_ j;rw[q];simp only[ba,aq,qaF,qbA,S0.val,SL.val,F,D];rfl
   ·cases Q
  next kt et x' D=>
   obtain⟨cs,I,j⟩:=hA.peek _ _ _ d;simp only[Pk.run]at I;rw[L]at I;unfold lenM at I;split at I
   next id=>
    split at I
    next es ck ag=>
     cases I;obtain⟨y,S,g,B⟩:=sN hA rfl j;refine jK J L (s:=.st y) g (f:=λH=>(hmap H id).map λp=>.int .i64 p.1.length) ?_ ?_ B
     ·rw[q];simp only[ba,aq,qaF,qbA,S0.val,SL.val,F,D]
     ·simp only[hmap,ag,qaJ,SV.val,S]
    ·cases I
   ·cases I
  next n el D=>
   refine aF J L (s:=.st (.leaf (.i .i64 _))) (aA trivial) ?_ d;rw[q];simp only[ba,aq,qaF,qbA,F,D];rfl
  ·exact absurd d hA.fail
 next x t F=>
  split at d
  next e x' D=>
   obtain⟨n,Q,j⟩:=hA.opt _ _ d;unfold capS at Q;split at Q
   ·cases Q;refine aF J L (s:=.st (.leaf (.i .i64 _))) (aA trivial) ?_ j;rw[q];simp only[ba,aq,qaF,qbA,S0.val,SL.val,F,D];rfl
   ·cases Q;refine aF J L (s:=.st (.leaf (.i .i64 _))) (aA trivial) ?_ j;rw[q];simp only[ba,aq,qaF,qbA,S0.val,SL.val,F,D];rfl
   ·cases Q
  next n el D=>
   refine aF J L (s:=.st (.leaf (.i .i64 _))) (aA trivial) ?_ d;rw[q];simp only[ba,aq,qaF,qbA,F,D];rfl
  ·exact absurd d hA.fail
 next s x t F=>
  split at d
  next e D=>
   split at d
   ·exact absurd d hA.fail
   next Y=>
    have Y:¬X.C.P.cellsOf e=0:=λe=>by rw[e]at Y;cases Y
    obtain⟨M,cs,h',G,O,j⟩:=hA.heap _ _ _ d;simp only[Hp.run]at G;rw[L]at G O;obtain⟨v,rfl,q3⟩:=cpG_ok D Y G;obtain⟨y,rfl,g,B⟩:=sN hA rfl j;refine dj J O (s:=.st y) g (f:=copyA X.C t s x) ?_ q3 B;rw[q];simp only[ba,aq,qaF,qbA,S0.val,SL.val,F]
  ·exact absurd d hA.fail
 next m k t F=>
  split at d
  next kt et D=>
   obtain⟨M,cs,h',G,O,j⟩:=hA.heap _ _ _ d;simp only[Hp.run]at G;rw[L]at G O;refine dj J O (s:=.un) trivial (f:=nG X.C t m k.val) ?_ (deG_ok D G) j;rw[q];simp only[ba,aq,qaF,qbA,S0.val,SL.val,F]
  ·exact absurd d hA.fail
 next s t F=>
  split at d
  next e D=>
   split at d
   next z U Y=>
    have U:¬X.C.P.cellsOf e=0:=λe=>by rw[e]at U;cases U
    obtain⟨M,cs,h',G,O,j⟩:=hA.heap _ _ _ d;simp only[Hp.run]at G;rw[L]at G O;refine dj J O (s:=.un) trivial (f:=tC X.C t s) ?_ (clG_ok D U Y G) j;rw[q];simp only[ba,aq,qaF,qbA,S0.val,SL.val,F]
   ·exact absurd d hA.fail
  ·exact absurd d hA.fail
 next k a k' Z=>
  split at d
  next E=>
   have E:=dF E;subst E;obtain⟨t,V,j⟩:=hA.cmp _ _ _ _ d;have B:=hA.sel _ _ _ _ j;simp only[pV,qaI]at V;subst V;obtain⟨p1,p2⟩:=N _ (λy S l I=>by
    simp only[qax,qb5,or_false]at S;rcases S with rfl|rfl<;>(simp only[S0.cells,qaq]at I;subst I;trivial)) rfl
   refine cG J L (s:=.st (.leaf (.i k _))) (aA trivial) ⟨by rw[W];rfl,?_,rfl,λw=>?_⟩ B
   ·rw[W];simp only[Op.operands,Call.operands,hb];simpa using p1
   ·simp only[execOp,W,resolve,hb,Sem.run_bind,p2];simp only[Sem.run_pure,Result.andThen_ok,invoke,builtin,aq,qaF,qbA,S0.val,SL.val,Sem.run_bind];rw[show(⟨[Value.int k a,Value.int k Z]⟩ : Array Value) = #[Value.int k a,Value.int k Z]from rfl,run_min_int2];simp[SV.val,S0.val,SL.val,den,den1]
  ·exact absurd d hA.fail
 next k a k' Z=>
  split at d
  next E=>
   have E:=dF E;subst E;obtain⟨t,V,j⟩:=hA.cmp _ _ _ _ d;have B:=hA.sel _ _ _ _ j;simp only[pV,qaI]at V;subst V;obtain⟨p1,p2⟩:=N _ (λy S l I=>by
    simp only[qax,qb5,or_false]at S;rcases S with rfl|rfl<;>(simp only[S0.cells,qaq]at I;subst I;trivial)) rfl
   refine cG J L (s:=.st (.leaf (.i k _))) (aA trivial) ⟨by rw[W];rfl,?_,rfl,λw=>?_⟩ B
   ·rw[W];simp only[Op.operands,Call.operands,hb];simpa using p1
   ·simp only[execOp,W,resolve,hb,Sem.run_bind,p2];simp only[Sem.run_pure,Result.andThen_ok,invoke,builtin,aq,qaF,qbA,S0.val,SL.val,Sem.run_bind];rw[show(⟨[Value.int k a,Value.int k Z]⟩ : Array Value) = #[Value.int k a,Value.int k Z]from rfl,run_max_int2];simp[SV.val,S0.val,SL.val,den,den1]
  ·exact absurd d hA.fail
 ·exact absurd d hA.fail
end
end Sx
namespace Sx
section
variable [Val] [Kno] {R HT:Type} {A:Alg R HT} {X:Ctxt} {Sg:Tc} {holds:R->Prop} {abs:HT->Tp}
variable {ev:Env} {σ:St} {h:HT} {o:Oper} {K:KN R HT}
def lfsOf_one(x:S0):cX [x]=x.cells.map SL.lf:=by simp[cX]
def wm(hA:AlgOk A X.C Sg X.T holds abs)(p:Rp ev σ){sks:TH}{w:TB}{ys:List S0}(D:Told sks w ys){H':Tp}(q:abs h=H')
  (i:StepO X.C X.pts o σ (({ σ with heap:=H' }:St).put o.dst (gj (aq ys)))) (k:holds (setR A o.dst sks w ev h K)):Done X holds abs o σ K:=by
 obtain⟨c,rfl,z⟩:=D;unfold setR at k;split at k
 next E=>
  obtain⟨x,r,j,e,d⟩:=unS_ok hA k;obtain⟨n,g⟩:=hA.un0 _ _ d;rw[n,qaZ]at j
  match ys,c with
  | [y],c=>
   simp only[db,qdV]at c;rw[lfsOf_one]at j;obtain⟨t,u⟩:=S0.is_val c e j;refine dE p H' q (s:=.st x) (u (z y (by simp))) ?_ g;rw[show(SV.st x).val=gj (aq [y])from by simp[SV.val,aq,gj,t]];exact i
  | [],c=>cases c
  |_ :: _ :: _,c=>simp[db]at c
 ·obtain⟨n,d⟩:=hA.un0 _ _ k
  match ys,c with
  | [],_=>exact dE p H' q (s:=.un) trivial i d
  |_ :: _,c=>cases c
 next B v=>
  obtain⟨m,r,j,e,d⟩:=sV hA k;obtain⟨n,g⟩:=hA.un0 _ _ d;rw[n,qaZ]at j;obtain⟨t,u⟩:=dz c e j;have f:2<=m.length:=by
   match m,e with
   | [],e=>cases sks with
    |nil=>exact absurd rfl v
    |cons _ _=>cases e
   | [x],e=>cases sks with
    |nil=>exact absurd rfl v
    |cons a l=>cases l with
     |nil=>exact absurd rfl (B _)
     |cons _ _=>simp[db]at e
   |_ :: _ :: _,_=>simp
  refine dE p H' q (s:=.tup m) ⟨u z,f⟩ ?_ g;have:(SV.tup m).val=gj (aq ys):=by
   rw[t]
   match m,f with
   |a :: b :: l,_=>rfl
  rw[this];exact i
def all_noLoc{xs:List S0}(hg:∀x∈xs,x.good):(aq xs).all noLoc=true:=by
 simp only[aq,qac,qaA];rintro _ ⟨x,a,rfl⟩;exact S0.noLoc (hg x a)
def call_ok(hA:AlgOk A X.C Sg X.T holds abs)(m:Rp ev σ)(u:abs h=σ.heap){c:Call}{y:TH}(w:o.op = .call c)
  (a:holds (match svals ev c.args.toList with
  |some xs=>match c.callee with
   | .builtin b=>mL A X o.dst (mz y) b xs c.argTypes ev h K
   | .value f=>match sval ev f with
    | .st (.leaf (.v v))=>match f with
     | .func g=>match Sg g with
      |some sg=>match db xs sg.ps with
       |true=>A.call g (cX xs) h λq h=>setR A o.dst sg.rs q ev h K
       |false=>A.fail
      |none=>A.fail
     |_=>A.callv v (aq xs) y h λq h=>setR A o.dst y q ev h K
    |_=>A.fail
   |_=>A.fail
  |none=>A.fail)):Done X holds abs o σ K:=by
 split at a
 next xs E=>
  obtain⟨D,J⟩:=m.svals E;have p:=all_noLoc J;split at a
  next b H=>
   exact yz hA m u w H E a
  next f B=>
   split at a
   next v I=>
    obtain⟨s,F⟩:=m.sval I (by simp);simp only[SV.val,S0.val,SL.val]at s;have G:az v=true:=F (.v v) (by simp[S0.cells]);have j:∀ {g:TK} {first d:Tj},v = .func (.func g) first d->am X.C X.pts (oval σ.tmps) o=some (.call g (first.toList++aq xs++d.toList)):=by
     intro g first d e
     subst e;simp only[am,w,fT,B,D,p,s,(fe.1 G).1,qaQ,qar,if_false,if_true]
    split at a
    next g=>
     have e:v = .func (.func g) #[] #[]:=by
      have:=s;simp only[oval]at this;exact this.symm
     split at a
     next sg z=>
      split at a
      next x=>
       obtain⟨q,r,⟨L,N,t,n,⟨c2,c3,c4⟩,c5,c6⟩,i⟩:=hA.call _ _ _ _ a;rw[z]at n;cases n;obtain⟨M,_⟩:=dz x c2 c3.symm;rw[u]at c6;refine wm hA m c5 rfl (.inl ⟨_,j e,gj (aq t),abs r,?_,rfl⟩) i;rw[M];show pQ X.C g _ _ _ _;simpa using c6
      ·exact absurd a hA.fail
     ·exact absurd a hA.fail
    ·obtain⟨q,r,⟨t,n,c2⟩,i⟩:=hA.callv _ _ _ _ _ a;rw[u]at c2;rcases c2 with⟨g,first,d,e,c2⟩|⟨l,e,c2⟩
     ·exact wm hA m n rfl (.inl ⟨_,j e,gj (aq t),abs r,c2,rfl⟩) i
     ·have k:am X.C X.pts (oval σ.tmps) o=some (.yield l (aq xs)):=by
       subst e;simp only[am,w,fT,B,D,p,s,qaQ,qar,if_false];rfl
      exact wm hA m n rfl (.inl ⟨_,k,gj (aq t),abs r,c2,rfl⟩) i
   ·exact absurd a hA.fail
  ·exact absurd a hA.fail
 ·exact absurd a hA.fail
def opE_ok(hA:AlgOk A X.C Sg X.T holds abs)(j:Rp ev σ)(p:abs h=σ.heap){L:TH}(g:holds (opE A X Sg o L ev h K)):Done X holds abs o σ K:=by
 unfold opE at g;split at g
 next x d=>
  split at g
  ·exact absurd g hA.fail
  next D=>exact move_ok j p (.inl d) rfl (λe=>D e) g
 next x d=>
  split at g
  ·exact absurd g hA.fail
  next D=>exact move_ok j p (.inr d) rfl (λe=>D e) g
 next c a b d=>exact pick_ok hA j p d g
 next t d=>
  split at g
  next x q=>
   obtain⟨z,u,w,I⟩:=yr q;exact newV_ok hA j p I (by simp only[am,d,u,qao,w]) (.inr d) g
  ·exact absurd g hA.fail
 next t y d=>
  split at g
  next x q=>
   obtain⟨u,w⟩:=j.sval q (by simp);exact newV_ok hA j p w (by simp only[am,d,u];rfl) (.inl ⟨y,d⟩) g
  ·exact absurd g hA.fail
 next t N d=>exact build_ok hA j p d g
 next t n N d=>exact rh hA j p d g
 next t a d=>
  split at g
  next E B=>
   split at g
   next J=>exact load_ok hA j p d B (eqB_eq J) g
   ·exact absurd g hA.fail
  ·exact absurd g hA.fail
 next t a y d=>
  split at g
  next x q=>exact store_ok hA j p d q g
  ·exact absurd g hA.fail
 next x d=>exact vQ hA j p d g
 next M t x y Y d=>
  split at g
  next a b G H=>exact bin_ok hA j p d G H g
  ·exact absurd g hA.fail
 next M t x d=>exact un_ok hA j p d g
 next W O x d=>exact conv_ok hA j p d g
 next P first F d=>exact vH hA j p d g
 next t r d=>exact lm hA j p d g
 next t l c d=>exact ul hA j p d g
 next t x S Q U d=>exact sliceE_ok hA j p d g
 next t x f d=>exact tQ hA j p d g
 next t x i d=>exact uf hA j p d g
 next t x f d=>exact field_ok hA j p d g
 next t x i d=>exact index_ok hA j p d g
 next t m k V d=>exact look_ok hA j p d g
 next t m k v d=>exact xm hA j p (.inl d) g
 next t m k v d=>exact xm hA j p (.inr d) g
 next t m k d=>exact mapEn_ok hA j p d g
 next t m s v d=>exact entSt_ok hA j p d g
 next t i d=>exact yJ hA j p d g
 next c d=>exact call_ok hA j p d g
 ·exact absurd g hA.fail
def DoneI(X:Ctxt)(holds:R->Prop)(abs:HT->Tp)(ops:Tl)(i:Nat)(o:Oper)(σ:St)(K:KN R HT):Prop:=
 ∃σ' ev' h',ak X.C (uB X.C) X.pts ops i σ σ'/\Rp ev' σ'/\abs h'=σ'.heap/\Fr o.dst.toList (uA X.pts o).toList (jB X.pts o).toList σ σ'/\holds (K ev' h')
def rp_guard(c:Rp ev σ){d:Nat}{t:Bool}(f:ev.tm.getD d .no = .st (.leaf (.b t))):Rp ⟨ev.tm.set d (.st (.leaf (.l t))),ev.lc⟩ σ:=by
 obtain⟨e,_⟩:=c.at f (by simp);refine⟨by simp[c.len],λi x a=>?_,c.llen,c.row⟩;simp only[qa2]at a;split at a
 next g=>
  subst g;split at a
  ·cases a;exact⟨e,aA trivial⟩
  ·cases a
 ·exact c.val i x a
def xD(hA:AlgOk A X.C Sg X.T holds abs)(l:Rp ev σ)(x:abs h=σ.heap){ops:Tl}{i:Nat}{z:TH}(y:ops[i]?=some o)(g:holds (opG A X Sg ops o z ev h K)):DoneI X holds abs ops i o σ K:=by
 have c:∀ {ev:Env},Rp ev σ->cE ops σ.tmps o=some true->holds (opE A X Sg o z ev h K)->DoneI X holds abs ops i o σ K:=by
  intro ev l k g;obtain⟨σ',p,B,E,F,G,H,I⟩:=opE_ok hA l x g;exact⟨σ',p,B,by unfold ak;simp only[y,k];exact E,F,G,H,I⟩
 have a:∀ {ev:Env},Rp ev σ->cE ops σ.tmps o=some false->holds (setD o.dst .un ev h K)->DoneI X holds abs ops i o σ K:=by
  intro ev l k g;obtain⟨p,q,D⟩:=wl l (s:=.un) trivial g;refine⟨σ.put o.dst undef,p,h,by unfold ak;simp only[y,k],q,?_,.put _ _ _ _,D⟩;rw[x];cases o.dst<;>rfl
 unfold opG at g;split at g
 next v=>
  exact c l (by simp only[cE,v]) g
 next j n v=>
  split at g
  next d w=>
   split at g
   next b u=>
    obtain⟨q,_⟩:=l.at u (by simp);have k:cE ops σ.tmps o=some (b==n):=by
     simp only[cE,v,w,qao,q];rfl
    split at g
    next e=>exact c l (by rw[k,e]) g
    next e=>exact a l (by rw[k,e]) g
   next u=>
    obtain⟨q,_⟩:=l.at u (by simp);have k:cE ops σ.tmps o=some false:=by
     simp only[cE,v,w,qao,q];rfl
    exact a l k g
   next t u=>
    obtain⟨q,_⟩:=l.at u (by simp);have k:cE ops σ.tmps o=some (t==n):=by
     simp only[cE,v,w,qao,q];rfl
    have m:=rp_guard l u;split at g
    ·rcases hA.cond _ _ _ g with⟨r,f⟩|⟨r,f⟩
     ·rw[eo]at f;subst r;exact c m k f
     ·rw[eo]at f;subst r;exact a m k f
    ·rcases hA.cond _ _ _ g with⟨r,f⟩|⟨r,f⟩
     ·rw[eo]at f;subst r;exact a m k f
     ·rw[eo]at f;subst r;exact c m k f
   ·exact absurd g hA.fail
  ·exact absurd g hA.fail
def wsOf(l:Tu):Tx:=l.filterMap (·.dst)
def ksOf(pts:Tx)(l:Tu):Tx:=l.filterMap (uA pts)
def rsOf(pts:Tx)(l:Tu):Tx:=l.filterMap (jB pts)
def bu{f:Oper->To}{o:Oper}{l:Tu}(b:o∈l):∀i∈(f o).toList,i∈l.filterMap f:=by
 intro i a;rw[qba];exact⟨o,b,by simpa using a⟩
def mZ(hA:AlgOk A X.C Sg X.T holds abs){ops:Tl}:∀(l:Tu) (i:Nat) (d:List (TH)) (ev:Env) (h:HT) (σ:St),l <+: ops.toList.drop i->Rp ev σ->abs h=σ.heap->holds (opsE A X Sg ops l d ev h K)->
  ∃σ' a g,bL X.C (uB X.C) X.pts ops (List.range' i l.length) σ σ'/\Rp a σ'/\abs g=σ'.heap/\Fr (wsOf l) (ksOf X.pts l) (rsOf X.pts l) σ σ'/\holds (K a g)
 | [],i,d,ev,h,σ,_,k,m,n=>⟨σ,ev,h,rfl,k,m,.refl _ _ _ _,n⟩
 |o :: l,i,d,ev,h,σ,c,k,m,n=>by
  have j:ops[i]?=some o:=by
   obtain⟨t,c⟩:=c;have:(ops.toList.drop i)[0]?=some o:=by rw[←c];rfl
   simpa using this
  obtain⟨σ₁,ev₁,h₁,z,B,D,E,F⟩:=xD (K:=λev h=>opsE A X Sg ops l d.tail ev h K) hA k m j n;have p:l <+: ops.toList.drop (i+1):=by
   obtain⟨t,c⟩:=c;exact⟨t,by rw[←qbW,←c];rfl⟩
  obtain⟨σ',a,g,s,u,v,w,y⟩:=mZ hA l (i+1) d.tail ev₁ h₁ σ₁ p B D F;refine⟨σ',a,g,⟨σ₁,z,s⟩,u,v,?_,y⟩;have q:Fr (wsOf (o :: l)) (ksOf X.pts (o :: l)) (rsOf X.pts (o :: l)) σ σ₁:=E.mono (bu (by simp)) (bu (by simp)) (bu (by simp));have b:∀(f:Oper->To) (i:Nat),i∈l.filterMap f->i∈(o :: l).filterMap f:=by
   intro f i j;rw[qba]at j ⊢;obtain⟨x,r,e⟩:=j;exact⟨x,by simp[r],e⟩
  exact q.trans (w.mono (b _) (b _) (b _))
def opsE_ok(hA:AlgOk A X.C Sg X.T holds abs){ops:Tl}(l:Tu)(i:Nat)(a:List (TH))(ev:Env)(h:HT)(σ:St)(e:ops.toList.drop i=l)(b:Rp ev σ)(c:abs h=σ.heap)(d:holds (opsE A X Sg ops l a ev h K)) :
  ∃σ' ev' h',bL X.C (uB X.C) X.pts ops (List.range' i l.length) σ σ'/\Rp ev' σ'/\abs h'=σ'.heap/\Fr (wsOf l) (ksOf X.pts l) (rsOf X.pts l) σ σ'/\holds (K ev' h'):=
 mZ hA l i a ev h σ (e▸qdH _) b c d
end
end Sx
namespace Sx
section
variable [Val] [Kno] {R HT:Type} {A:Alg R HT} {X:Ctxt} {Sg:Tc} {holds:R->Prop} {abs:HT->Tp}
def clrT_eq(b ks:Tx):∀(l:List SV) (i:Nat) (K:List SV->R),∃l',clrT b ks l i K=K l'/\l'.length=l.length/\
  ∀(j:Nat) s,l'[j]?=some s->s = .no∨(l[j]?=some s/\¬b.contains (i+j)=true/\s.inRows ks=false)
 | [],i,K=>⟨[],rfl,rfl,λj s h=>by simp at h⟩
 |x :: l,i,K=>by
  obtain⟨l',h1,e,g⟩:=clrT_eq b ks l (i+1) λl=>match b.contains i||x.inRows ks with
   |true=>K (.no :: l)
   |false=>K (x :: l)
  have f:∀(j:Nat) s,l'[j]?=some s->s = .no∨((x :: l)[j+1]?=some s/\¬b.contains (i+(j+1))=true/\s.inRows ks=false):=by
   intro j s a;have:=g j s a;rw[show i+1+j=i+(j+1)by omega]at this;simpa using this
  have c:clrT b ks (x :: l) i K=(match b.contains i||x.inRows ks with
   |true=>K (.no :: l')
   |false=>K (x :: l')):=h1
  cases d:b.contains i||x.inRows ks with
  |true=>
   refine⟨.no :: l',by rw[c,d],by simp[e],λj s a=>?_⟩;cases j with
   |zero=>simp at a;exact .inl a.symm
   |succ j=>exact f j s (by simpa using a)
  |false=>
   simp only[qb2]at d;refine⟨x :: l',by rw[c];simp only[d,Bool.or_self],by simp[e],λj s a=>?_⟩;cases j with
   |zero=>
    simp at a;subst a;exact .inr ⟨rfl,by rw[qcM,d.1];exact Bool.false_ne_true,d.2⟩
   |succ j=>exact f j s (by simpa using a)
def sJ(r r0:LR):Prop:=r = .unk∨(∃n,r = .any n/\(r0 = .any n∨∃cs,r0 = .row cs/\cs.length=n))
def clrR_eq(d ks:Tx)(k:LR):∀(l:List LR) (i:Nat) (K:List LR->R),∃l',clrR d ks k l i K=K l'/\l'.length=l.length/\
  ∀(j:Nat) r,l'[j]?=some r->(ks.contains (i+j)=true/\r=k)∨(ks.contains (i+j)=false/\d.contains (i+j)=true/\∃r0,l[j]?=some r0/\sJ r r0)∨
   (ks.contains (i+j)=false/\d.contains (i+j)=false/\l[j]?=some r)
 | [],i,K=>⟨[],rfl,rfl,λj s h=>by simp at h⟩
 |x :: l,i,K=>by
  obtain⟨l',h1,q,t⟩:=clrR_eq d ks k l (i+1) λl=>match ks.contains i,d.contains i with
   |true,_=>K (k :: l)
   |false,true=>(match x with
    | .row o=>rM o.length λn=>K (.any n :: l)
    | .any n=>K (.any n :: l)
    |_=>K (.unk :: l))
   |false,false=>K (x :: l)
  have u:∀(j:Nat) r,l'[j]?=some r->(ks.contains (i+(j+1))=true/\r=k)∨(ks.contains (i+(j+1))=false/\d.contains (i+(j+1))=true/\∃r0,(x :: l)[j+1]?=some r0/\sJ r r0)∨
   (ks.contains (i+(j+1))=false/\d.contains (i+(j+1))=false/\(x :: l)[j+1]?=some r):=by
   intro j s m;have:=t j s m;rw[show i+1+j=i+(j+1)by omega]at this;simpa using this
  have e:∀y:LR,clrR d ks k (x :: l) i K=K (y :: l')->((ks.contains i=true/\y=k)∨(ks.contains i=false/\d.contains i=true/\sJ y x)∨(ks.contains i=false/\d.contains i=false/\y=x))->
    ∃l',clrR d ks k (x :: l) i K=K l'/\l'.length=(x :: l).length/\∀(j:Nat) r,l'[j]?=some r->(ks.contains (i+j)=true/\r=k)∨(ks.contains (i+j)=false/\d.contains (i+j)=true/\∃r0,(x :: l)[j]?=some r0/\sJ r r0)∨
     (ks.contains (i+j)=false/\d.contains (i+j)=false/\(x :: l)[j]?=some r):=by
   intro y v p;refine⟨y :: l',v,by simp[q],λj r m=>?_⟩;cases j with
   |zero=>
    simp at m;subst m;rcases p with p|⟨a,b,c⟩|⟨a,b,c⟩
    ·exact .inl p
    ·exact .inr (.inl ⟨a,b,x,rfl,c⟩)
    ·exact .inr (.inr ⟨a,b,by rw[c];rfl⟩)
   |succ j=>exact u j r (by simpa using m)
  cases f:ks.contains i with
  |true=>exact e k (by show _=_;refine h1.trans ?_;simp only[f]) (.inl ⟨f,rfl⟩)
  |false=>
   cases g:d.contains i with
   |false=>exact e x (by refine h1.trans ?_;simp only[f,g]) (.inr (.inr ⟨f,g,rfl⟩))
   |true=>
    cases x with
    |row o=>exact e (.any o.length) (by refine h1.trans ?_;simp only[f,g,vz]) (.inr (.inl ⟨f,g,.inr ⟨_,rfl,.inr ⟨o,rfl,rfl⟩⟩⟩))
    |any n=>exact e (.any n) (by refine h1.trans ?_;simp only[f,g]) (.inr (.inl ⟨f,g,.inr ⟨_,rfl,.inl rfl⟩⟩))
    |unk=>exact e .unk (by refine h1.trans ?_;simp only[f,g]) (.inr (.inl ⟨f,g,.inl rfl⟩))
    |nil=>exact e .unk (by refine h1.trans ?_;simp only[f,g]) (.inr (.inl ⟨f,g,.inl rfl⟩))
def upT_ok{C:Cfg}{T:Tq}(hA:AlgOk A C Sg T holds abs):∀(lv:List (Nat×SK)) (xs:List S0) (tm:List SV) (K:List SV->R),holds (upT A lv xs tm K)->db xs (lv.map (·.2))=true->
  ∃a,holds (K a)/\a.length=tm.length/\∀(j:Nat) s,a[j]?=some s->tm[j]?=some s∨∃e x,(j,e)∈lv/\s = .st x/\((j,e),x)∈lv.zip xs
 | [],xs,tm,K,d,_=>⟨tm,d,rfl,λj s f=>.inl f⟩
 |p :: lv,[],tm,K,d,h=>by cases h
 |p :: lv,x :: xs,tm,K,d,h=>by
  simp only[qaF,db,qaa]at h;have c:holds (setK (.st x) tm p.1 λtm=>upT A lv xs tm K):=d;rw[eo]at c;obtain⟨a,g,i,k⟩:=upT_ok hA lv xs _ K c h.2;refine⟨a,g,by rw[i];simp,λj s f=>?_⟩;rcases k j s f with b|⟨e,y,b,l,m⟩
  ·simp only[qa2]at b;split at b
   next n=>
    split at b
    ·cases b;subst n;exact .inr ⟨p.2,x,by simp,rfl,by simp⟩
    ·cases b
   ·exact .inl b
  ·exact .inr ⟨e,y,by simp[b],l,by simp[m]⟩
def upR_ok{C:Cfg}{T:Tq}(hA:AlgOk A C Sg T holds abs):∀(lv:List (Nat×List LK)) (ls:TB) (c:List LR) (K:List LR->TB->R),holds (upR A lv ls c K)->
  ∃(b:List LR) (r:TB) (a:List (List SL)),holds (K b r)/\ls=(a.map (·.map SL.lf)).flatten++r/\a.length=lv.length/\(∀(i:Nat) p cs,lv[i]?=some p->a[i]?=some cs->bb cs p.2=true)/\b.length=c.length/\
   ∀(j:Nat) s,b[j]?=some s->c[j]?=some s∨∃(i:Nat) (ks:TE) (cs:List SL),lv[i]?=some (j,ks)/\a[i]?=some cs/\s = .row cs
 | [],ls,c,K,k=>⟨c,ls,[],k,rfl,rfl,λ_ _ _ h=>by simp at h,rfl,λj s n=>.inl n⟩
 |p :: lv,ls,c,K,k=>by
  have l:holds (unL A p.2 ls λcs r=>setK (.row cs) c p.1 λc=>upR A lv r c K):=k;obtain⟨cs,r,o,t,e⟩:=qR hA l;rw[eo]at e;obtain⟨b,F,a,u,v,w,x,y,z⟩:=upR_ok hA lv r _ K e;refine⟨b,F,cs :: a,u,by rw[o,v];simp,by simp[w],λi q f m g=>?_,by rw[y];simp,λj s n=>?_⟩
  ·cases i with
   |zero=>simp at m g;subst m;subst g;exact t
   |succ i=>exact x i q f (by simpa using m) (by simpa using g)
  ·rcases z j s n with d|⟨i,ks,f,d,B,D⟩
   ·simp only[qa2]at d;split at d
    next E=>
     split at d
     ·cases d;subst E;exact .inr ⟨0,p.2,cs,rfl,rfl,rfl⟩
     ·cases d
    ·exact .inl d
   ·exact .inr ⟨i+1,ks,f,by simpa using d,by simpa using B,D⟩
def pkT_ok{b:Env}{σ:St}(c:Rp b σ):∀ {lv:List (Nat×SK)} {ls:TB},pkT b.tm lv=some ls->
  ∃xs,cX xs=ls/\db xs (lv.map (·.2))=true/\(∀x∈xs,x.good)/\∀p∈lv.zip xs,σ.tmps[p.1.1]?=some p.2.val
 | [],ls,h=>by cases h;exact⟨[],rfl,rfl,by simp,by simp⟩
 |(t,m) :: lv,ls,h=>by
  simp only[pkT]at h;split at h
  next x l k j=>
   split at h
   next a=>
    cases h;obtain⟨xs,h1,f,g,i⟩:=pkT_ok c j;obtain⟨d,e⟩:=c.at k (by simp);refine⟨x :: xs,by simp[cX,h1],by simp[db,a,f],qbx.2 ⟨e,g⟩,λp hp=>?_⟩;simp only[List.zip_cons_cons,qax]at hp;rcases hp with rfl|hp
    ·exact d
    ·exact i p hp
   ·cases h
  ·cases h
def pkR_ok{b:Env}{σ:St}(g:Rp b σ):∀ {lv:List (Nat×List LK)} {ls:TB},pkR b.lc lv=some ls->
  ∃a:List (List SL),(a.map (·.map SL.lf)).flatten=ls/\a.length=lv.length/\(∀(i:Nat) p cs,lv[i]?=some p->a[i]?=some cs->bb cs p.2=true/\(∀c∈cs,c.good)/\σ.loc[p.1]?=some (some (cs.map SL.val)))
 | [],ls,h=>by cases h;exact⟨[],rfl,rfl,λ_ _ _ h=>by simp at h⟩
 |(s,ks) :: lv,ls,h=>by
  simp only[pkR]at h;split at h
  next cs t r o=>
   split at h
   next e=>
    cases h;obtain⟨a,h1,m,n⟩:=pkR_ok g o;have q:sI b s=some cs:=by unfold sI;rw[r]
    obtain⟨k,l,_⟩:=kz g q;refine⟨cs :: a,by simp[h1],by simp[m],λi p j f d=>?_⟩;cases i with
    |zero=>simp at f d;subst f;subst d;exact⟨e,l,k⟩
    |succ i=>exact n i p j (by simpa using f) (by simpa using d)
   ·cases h
  ·cases h
def css_eq:∀ {lv:List (Nat×List LK)} {a b:List (List SL)} {r:TB},a.length=lv.length->b.length=lv.length->
  (∀(i:Nat) p c,lv[i]?=some p->a[i]?=some c->bb c p.2=true)->(∀(i:Nat) p c,lv[i]?=some p->b[i]?=some c->bb c p.2=true)->
  (a.map (·.map SL.lf)).flatten=(b.map (·.map SL.lf)).flatten++r->r=[]/\∀(i:Nat) x y,a[i]?=some x->b[i]?=some y->x.map SL.lf=y.map SL.lf
 | [],a,b,r,la,lb,_,_,h=>by
  have la:a=[]:=by simpa using la
  have lb:b=[]:=by simpa using lb
  subst la;subst lb;simp at h;exact⟨h,λi x y w=>by simp at w⟩
 |p :: lv,a,b,r,la,lb,j,k,h=>by
  cases a with
  |nil=>simp at la
  |cons x a=>cases b with
   |nil=>simp at lb
   |cons y b=>
    simp only[qaF,qcr,qai]at h;have s:=bO (j 0 p x rfl rfl);have t:=bO (k 0 p y rfl rfl);obtain⟨l,m⟩:=qdM h (by simp[s,t]);obtain⟨n,o⟩:=css_eq (lv:=lv) (by simpa using la) (by simpa using lb) (λi q c e d=>j (i+1) q c (by simpa using e) (by simpa using d))
     (λi q c e d=>k (i+1) q c (by simpa using e) (by simpa using d)) m
    refine⟨n,λi u v f g=>?_⟩;cases i with
    |zero=>simp at f g;subst f;subst g;exact l
    |succ i=>exact o i u v (by simpa using f) (by simpa using g)
def yX{α β:Type}{l:List α}{m:List β}{p:α×β}(h:p∈l.zip m):∃i:Nat,l[i]?=some p.1/\m[i]?=some p.2:=by
 obtain⟨i,a⟩:=qaT h;rw[qdv]at a;exact⟨i,a⟩
def qm:∀ {a b:List S0} {sks:TH},db a sks=true->db b sks=true->(cX a).length=(cX b).length
 | [],[],[],_,_=>rfl
 |x :: a,y :: b,k :: sks,c,d=>by
  simp only[db,qaa]at c d;obtain⟨n,e,f⟩:=S0.is_len c.1;simp only[cX,qau,qaB,e,f y d.1,qm c.2 d.2]
 | [],_ :: _,[],_,d=>by cases d
 | [],_,_ :: _,c,_=>by cases c
 |_ :: _,_,[],c,_=>by cases c
 |_ :: _,[],_ :: _,_,d=>by cases d
structure Like(ks:Tx)(nw:LR)(σ' τ:St):Prop where
 tlen:τ.tmps.length=σ'.tmps.length
 llen:τ.loc.length=σ'.loc.length
 tm:∀(i:Nat) v,σ'.tmps[i]?=some v->noLoc v=true->τ.tmps[i]?=some v
 tp:∀(i s off:Nat),σ'.tmps[i]?=some (.pointer (some ⟨s,off,some 0⟩))->s∉ks->τ.tmps[i]?=some (.pointer (some ⟨s,off,some 0⟩))
 row:∀(s:Nat) x,σ'.loc[s]?=some x->s∉ks->τ.loc[s]?=some x
 new:∀s,s∈ks->s<τ.loc.length->nw.ok τ.loc s
theorem Like.refl(ks:Tx)(σ:St):Like ks .unk σ σ:=⟨rfl,rfl,λ_ _ h _=>h,λ_ _ _ h _=>h,λ_ _ h _=>h,λ_ _ _=>trivial⟩
def reE_ok{C:Cfg}{T:Tq}(hA:AlgOk A C Sg T holds abs){pts:Tx}{c:Code}{nw:LR}{lv:Live}{O P:Env}{σ σ' τ:St}{ls:TB}{K:Env->R}
  (I:Rp O σ) (S:Rp P σ') (D:Fr (wrT c) (aP pts c) (wrR pts c) σ σ') (hp:pk P lv=some ls) (hτ:Like (aP pts c) nw σ' τ)
  (j:τ=σ'∨∀p∈lv.rows,p.1∉aP pts c) (hk:holds (reE A pts c nw lv O ls K)):∃Q,Rp Q τ/\holds (K Q):=by
 unfold reE at hk;obtain⟨a5,h1,h2,h3⟩:=clrT_eq (wrT c) (aP pts c) O.tm 0 λtm=>clrR (wrR pts c) (aP pts c) nw O.lc 0 λG=>
  unSs A (lv.tm.map (·.2)) ls λL r=>upT A lv.tm L tm λtm=>upR A lv.rows r G λG r=>A.un0 r (K ⟨tm,G⟩)
 rw[h1]at hk;obtain⟨a8,g1,g2,g3⟩:=clrR_eq (wrR pts c) (aP pts c) nw O.lc 0 λG=>
  unSs A (lv.tm.map (·.2)) ls λL r=>upT A lv.tm L a5 λtm=>upR A lv.rows r G λG r=>A.un0 r (K ⟨tm,G⟩)
 rw[g1]at hk;obtain⟨L,r,e1,e2,ad⟩:=sV hA hk;obtain⟨Y,ag,u1,u2⟩:=upT_ok hA _ _ _ _ ad e2;obtain⟨W,r2,a7,an,v1,v2,v3,v4,v5⟩:=upR_ok hA _ _ _ _ ag;obtain⟨aE,ap⟩:=hA.un0 _ _ an;subst aE;rw[qaZ]at v1;unfold pk at hp;split at hp
 next la lb ax ay=>
  cases hp;obtain⟨ys,y1,y2,y3,y4⟩:=pkT_ok S ax;obtain⟨z,d1,d2,d3⟩:=pkR_ok S ay;rw[←y1,←d1]at e1;obtain⟨s1,s2⟩:=qdM e1 (qm y2 e2);obtain⟨w1,w2⟩:=dz y2 e2 s1;have E:=w2 y3;obtain⟨_,z2⟩:=css_eq (r:=[]) d2 v2 (λi p H a b=>(d3 i p H a b).1) v3 (by rw[s2,v1,qaZ]);refine⟨⟨Y,W⟩,⟨?_,λi s hs=>?_,?_,λi s hs=>?_⟩,ap⟩
  ·show Y.length=_;rw[u1,h2,I.len,hτ.tlen,D.tlen]
  ·rcases u2 i s hs with u|⟨sk,x,M,rfl,a3⟩
   ·rcases h3 i s u with rfl|⟨o,q,w⟩
    ·trivial
    ·have e:=I.val i s o;rw[qaR]at q;have q:i∉wrT c:=by simpa using q
     have d:∀v,σ.tmps[i]?=some v->noLoc v=true->τ.tmps[i]?=some v:=λv F U=>hτ.tm i v (D.tm i v F q U) U;have m:∀s f,σ.tmps[i]?=some (.pointer (some ⟨s,f,some 0⟩))->s∉aP pts c->τ.tmps[i]?=some (.pointer (some ⟨s,f,some 0⟩)):=λs f F U=>
      hτ.tp i s f (D.tp i s f F q U) U
     cases s with
     |no=>trivial
     |st x=>exact⟨d _ e.1 (S0.noLoc e.2),e.2⟩
     |tup L=>simp[SV.inRows]at w
     |un=>exact⟨d _ e.1 rfl,trivial⟩
     |gad g f=>exact⟨d _ e.1 rfl,trivial⟩
     |gdx g N ix=>exact⟨d _ e.1 rfl,trivial⟩
     |lad s f=>exact⟨m s f e.1 (by simpa[SV.inRows]using w),trivial⟩
     |ldx s N ix=>exact⟨m s _ e.1 (by simpa[SV.inRows]using w),trivial⟩
   ·obtain⟨k,q1,q2⟩:=yX a3;simp only at q1 q2;have V:(aq L)[k]?=some x.val:=by simp[aq,q2]
    rw[←w1]at V;simp only[aq,qan,qah]at V;obtain⟨y,a0,a4⟩:=V;have hm:((i,sk),y)∈lv.tm.zip ys:=by
     apply qab (i:=k);rw[qdv];exact⟨q1,a0⟩
    have F:=y4 _ hm;simp only at F;rw[a4]at F;have gx:=E x (qab q2);exact⟨hτ.tm i _ F (S0.noLoc gx),gx⟩
  ·show W.length=_;rw[v4,g2,I.llen,hτ.llen,D.llen]
  ·rcases v5 i s hs with u|⟨k,ks,H,M,a2,rfl⟩
   ·rcases g3 i s u with⟨o,rfl⟩|⟨o,q,r0,w,b4⟩|⟨o,q,w⟩
    ·rw[qaR]at o;refine hτ.new i (by simpa using o) ?_;rw[hτ.llen,D.llen,←I.llen,←g2];exact(qbg.1 u).1
    ·rw[qaR]at o;have t:i∉aP pts c:=by simpa using o
     have B:=I.row i r0 w;rcases b4 with rfl|⟨n,rfl,b4⟩
     ·trivial
     ·have:∃J,σ.loc[i]?=some (some J)/\J.length=n:=by
       rcases b4 with rfl|⟨H,rfl,hl⟩
       ·exact B
       ·exact⟨_,B.1,by simpa using hl⟩
      obtain⟨J,c1,c2⟩:=this;obtain⟨a6,c3,c4⟩:=D.rlen i J c1 t;exact⟨a6,hτ.row i _ c3 t,c4.trans c2⟩
    ·rw[qaR]at o q;have t:i∉aP pts c:=by simpa using o
     have ar:i∉wrR pts c:=by simpa using q
     have B:=I.row i s w;have l:∀x,σ.loc[i]?=some x->τ.loc[i]?=some x:=λx V=>hτ.row i x (D.row i x V ar) t;cases s with
     |unk=>trivial
     |nil=>exact l _ B
     |any n=>obtain⟨J,c1,c2⟩:=B;exact⟨J,l _ c1,c2⟩
     |row H=>exact⟨l _ B.1,B.2⟩
   ·have hd:∃Z,z[k]?=some Z:=by
     have:k<z.length:=by rw[d2];exact(qbg.1 M).1
     exact⟨z[k],by simp[this]⟩
    obtain⟨Z,hd⟩:=hd;obtain⟨f1,f2,f3⟩:=d3 k _ Z M hd;have f4:=v3 k _ H M a2;obtain⟨m1,m2⟩:=gL f1 f4 (z2 k Z H hd a2);simp only at f3;rw[m1]at f3;refine⟨?_,m2 f2⟩;rcases j with rfl|j
    ·exact f3
    ·exact hτ.row i _ f3 (j (i,ks) (qab M))
 ·cases hp
end
end Sx
namespace Sx
section
variable [Val] [Kno] {R HT:Type} {A:Alg R HT} {X:Ctxt} {Sg:Tc} {holds:R->Prop} {abs:HT->Tp}
def er(X:Ctxt)(c:AC):Code:=c.erase λκ t=>iQ (X.T κ) t
def Out(X:Ctxt)(holds:R->Prop)(abs:HT->Tp)(c:Code)(σ:St)(a:KN R HT)(b:Exit->KN R HT):Prop:=
 ∃e σ' ev' h',uEx X.C X.pts c σ e σ'/\Rp ev' σ'/\abs h'=σ'.heap/\Fr (wrT c) (aP X.pts c) (wrR X.pts c) σ σ'/\((e = .normal/\holds (a ev' h'))∨(e≠.normal/\holds (b e ev' h')))
def rV(hA:AlgOk A X.C Sg X.T holds abs){c:Code}{j:Option Live}{l:Env}{σ:St}{d:KN R HT}{b:KN R HT->R}{u:Exit->KN R HT}{f:Code}
  (t:wrT f=wrT c) (q:aP X.pts f=aP X.pts c) (s:wrR X.pts f=wrR X.pts c)
  (x:Rp l σ) (r:∀d,holds (b d)->Out X holds abs f σ d u) (k:holds (uh A X.pts c j l d b)):Out X holds abs f σ d u:=by
 unfold uh at k;cases j with
 |none=>exact r d k
 |some lv=>
  obtain⟨e,σ',h,m,n,o,p,g,a⟩:=r _ (hA.join _ _ k);rcases a with⟨rfl,a⟩|a
  ·simp only at a;split at a
   next z y=>
    rw[t,q,s]at g;obtain⟨i,v,w⟩:=reE_ok hA x o g y (.refl _ _) (.inl rfl) a;exact⟨.normal,σ',i,m,n,v,p,by rw[t,q,s];exact g,.inl ⟨rfl,w⟩⟩
   ·exact absurd a hA.fail
  ·exact⟨e,σ',h,m,n,o,p,g,.inr a⟩
def box_sub(pts:Tx):∀c:Code,∀s∈aP pts c,s∈wrR pts c:=by
 intro c
 induction c with
 |region id m k=>
  intro s d;simp only[aP,qba]at d;simp only[wrR,qba];obtain⟨o,l,d⟩:=d;refine⟨o,l,?_⟩;unfold jB;split at d
  next i j=>
   simp only[i,j];exact d
  next i j=>
   simp only[i,j];exact d
  ·cases d
 |seq a b e g=>intro s d;simp only[aP,wrR,qaz]at d ⊢;exact d.imp (e s) (g s)
 |cond c a b e g=>intro s d;simp only[aP,wrR,qaz]at d ⊢;exact d.imp (e s) (g s)
 |block id b h=>exact h
 |loop b h=>exact h
 |scope b h=>exact h
 |rangeFunc f n a b e g=>intro s d;simp only[aP,wrR,qaz]at d ⊢;exact d.imp (e s) (g s)
 |_=>intro s d;cases d
def tE{b:Tx}{v:Value}(h:noLoc v=true):je b v=v:=by
 unfold je;split
 next a=>
  split
  next c=>
   simp only[qaa,qdX]at c;simp[noLoc,aR,aZ,aT,c.1]at h
  ·rfl
 ·rw[qd0 h]
def tD{a:Tx}{s off:Nat}(h:s∉a):je a (.pointer (some ⟨s,off,some 0⟩)) = .pointer (some ⟨s,off,some 0⟩):=by
 unfold je;simp[h]
def iJ{σ:St}{a:Tx}{i:Nat}{v:Value}(b:σ.tmps[i]?=some v)(c:je a v=v):(σ.clear a).tmps[i]?=some v:=by
 unfold St.clear;split
 ·exact b
 ·simp[b,c]
def ny{σ:St}{a:Tx}{s:Nat}{x:Option (Tk)}(b:σ.loc[s]?=some x)(c:s∉a):(σ.clear a).loc[s]?=some x:=by
 unfold St.clear;split
 ·exact b
 ·simp only;rw[eU,qaR,qd1 (by simpa using c)];exact b
def clear_new{σ:St}{a:Tx}{s:Nat}(b:s∈a)(c:s<σ.loc.length):(σ.clear a).loc[s]?=some none:=by
 unfold St.clear;split
 next e=>rw[e]at b;cases b
 ·simp only;rw[eU,qaR,qd0 (by simpa using b)];simp[c]
def pU{σ:St}{a:Tx}:(σ.clear a).tmps.length=σ.tmps.length:=by unfold St.clear;split<;>simp
def jd(a:Tx):∀(l:List (Option (Tk))) (i:Nat),(gQ a l i).length=l.length
 | [],_=>rfl
 |_ :: l,i=>by simp[gQ,jd a l]
def kR{σ:St}{a:Tx}:(σ.clear a).loc.length=σ.loc.length:=by unfold St.clear;split<;>simp[jd]
def yC{σ:St}{a:Tx}:(σ.clear a).heap=σ.heap:=by unfold St.clear;split<;>rfl
def yD(σ:St)(a:Tx):Like a .nil σ (σ.clear a):=
 ⟨pU,kR,λ_ _ h b=>iJ h (tE b),λ_ _ _ h b=>iJ h (tD b),λ_ _ h b=>ny h b,λ_ h c=>clear_new h (by rw[kR]at c;exact c)⟩
def clear_fr{σ:St}{g a d:Tx}(c:∀s∈a,s∈d):Fr g a d σ (σ.clear a):=
 ⟨pU,kR,λ_ _ h _ b=>iJ h (tE b),λ_ _ _ h _ b=>iJ h (tD b),λs _ h b=>ny h λe=>b (c s e),
  λs f h b=>⟨f,ny h b,rfl⟩⟩
def opsM_ok(hA:AlgOk A X.C Sg X.T holds abs){ops:Tl}:∀(l:Tu) (i:Nat) (j:List (TH)) (c:Env) (h:HT) (σ:St) (K:Env->HT->List HT->R),l <+: ops.toList.drop i->Rp c σ->abs h=σ.heap->holds (Sx.opsM A X Sg ops l j c h K)->
  ∃σ' a g b,Sx.opsTr X.C (uB X.C) X.pts ops (List.range' i l.length) σ (b.map abs) σ'/\Rp a σ'/\abs g=σ'.heap/\Fr (wsOf l) (ksOf X.pts l) (rsOf X.pts l) σ σ'/\holds (K a g b)
 | [],i,j,c,h,σ,K,_,m,n,p=>⟨σ,c,h,[],⟨rfl,rfl⟩,m,n,.refl _ _ _ _,p⟩
 |o :: l,i,j,c,h,σ,K,b,m,n,p=>by
  have k:ops[i]?=some o:=by
   obtain⟨t,b⟩:=b;have:(ops.toList.drop i)[0]?=some o:=by rw[←b];rfl
   simpa using this
  obtain⟨σ₁,c₁,h₁,E,F,s,G,H⟩:=xD (K:=λc h=>Sx.opsM A X Sg ops l j.tail c h λa g b=>K a g (h :: b)) hA m n k p;have q:l <+: ops.toList.drop (i+1):=by
   obtain⟨t,b⟩:=b;exact⟨t,by rw[←qbW,←b];rfl⟩
  obtain⟨σ',a,g,r,w,y,z,B,D⟩:=opsM_ok hA l (i+1) j.tail c₁ h₁ σ₁ _ q F s H;refine⟨σ',a,g,h₁ :: r,⟨σ₁,r.map abs,E,by rw[qaF,s],w⟩,y,z,?_,D⟩;have u:Fr (wsOf (o :: l)) (ksOf X.pts (o :: l)) (rsOf X.pts (o :: l)) σ σ₁:=G.mono (bu (by simp)) (bu (by simp)) (bu (by simp));have d:∀(f:Oper->To) (i:Nat),i∈l.filterMap f->i∈(o :: l).filterMap f:=by
   intro f i k;rw[qba]at k ⊢;obtain⟨x,v,e⟩:=k;exact⟨x,by simp[v],e⟩
  exact u.trans (B.mono (d _) (d _) (d _))
def atM_map(h0:HT)(a:List HT)(p:Nat×Nat):abs (Sx.atM h0 a p)=Sx.atM (abs h0) (a.map abs) p:=by
 unfold Sx.atM;rw[←qaF,List.getD_eq_getElem?_getD,List.getD_eq_getElem?_getD,qan];cases (h0 :: a)[match Nat.ble p.1 p.2 with|true=>p.2+1|false=>p.2]?<;>rfl
def reM_ok(hA:AlgOk A X.C Sg X.T holds abs){ops:Tl}{g:List (TH)}{a:Env}{h0:HT}{c:List HT}{K:R}{σ σ':St}(f:Rp a σ')(b:abs h0=σ.heap):∀ {l:List (Nat×Nat)},holds (Sx.reM A X Sg ops g a h0 c K l)->
  Sx.AgainAt X.C (uB X.C) X.pts ops σ (c.map abs) σ' l/\holds K
 | [],h=>⟨λp hp=>(by cases hp),h⟩
 |q :: l,h=>by
  have h:holds (match ops[q.1]? with
   |some o=>match o.dst with
    |some d=>opG A X Sg ops o (g.getD q.1 []) a (Sx.atM h0 c q) λe _=>Sx.samS A (a.tm.getD d .no) (e.tm.getD d .no) (Sx.reM A X Sg ops g a h0 c K l)
    |none=>A.fail
   |none=>A.fail):=h
  split at h
  next o i=>
   split at h
   next d j=>
    obtain⟨σ₂,a₂,h₂,k,m,w,_,n⟩:=xD (σ:={ σ' with heap:=Sx.atM σ.heap (c.map abs) q }) hA (f.heap _) (by rw[atM_map (abs:=abs),b]) i h;obtain⟨⟨x,t,u⟩,v⟩:=Sx.samS_ok hA f m n;obtain⟨r,s⟩:=reM_ok hA f b v;refine⟨λp hp=>?_,s⟩;rcases qax.1 hp with rfl|hp
    ·exact⟨σ₂,k,o,d,x,i,j,t,u⟩
    ·exact r p hp
   ·exact absurd h hA.fail
  ·exact absurd h hA.fail
def exec_ok(hA:AlgOk A X.C Sg X.T holds abs){P:Dr}
  (W:Sx.DrOk X.C P) :
  ∀(c:AC) (g:Env) (h:HT) (σ:St) (r:KN R HT) (B:Exit->KN R HT),Rp g σ->abs h=σ.heap->holds (exec A X Sg P c g h r B)->Out X holds abs (er X c) σ r B:=by
 intro c
 induction c with
 |skip=>intro g h σ r B hR ha k;exact⟨.normal,σ,g,h,.skip,hR,ha,.refl _ _ _ _,.inl ⟨rfl,k⟩⟩
 |ret=>intro g h σ r B hR ha k;exact⟨.ret,σ,g,h,.ret,hR,ha,.refl _ _ _ _,.inr ⟨by simp,k⟩⟩
 |exit id=>intro g h σ r B hR ha k;exact⟨.exit id,σ,g,h,.exit,hR,ha,.refl _ _ _ _,.inr ⟨by simp,k⟩⟩
 |label l=>intro g h σ r B hR ha k;exact⟨.normal,σ,g,h,.label,hR,ha,.refl _ _ _ _,.inl ⟨rfl,k⟩⟩
 |seq a b ad ag=>
  intro g h σ r B hR ha k;obtain⟨e,σ₁,g₁,h₁,I,L,O,V,w⟩:=ad g h σ _ _ hR ha k;have m1:Fr (wrT (er X (.seq a b))) (aP X.pts (er X (.seq a b))) (wrR X.pts (er X (.seq a b))) σ σ₁:=
   V.mono (λi s=>qaW _ s) (λi s=>qaW _ s) (λi s=>qaW _ s)
  rcases w with⟨rfl,w⟩|⟨w,q6⟩
  ·obtain⟨e',σ',z,J,G,H,N,S,F⟩:=ag g₁ h₁ σ₁ r B L O w;exact⟨e',σ',z,J,.seq I G,H,N,m1.trans (S.mono (λi s=>qbo _ s) (λi s=>qbo _ s) (λi s=>qbo _ s)),F⟩
  ·exact⟨e,σ₁,g₁,h₁,.seqX I w,L,O,m1,.inr ⟨w,q6⟩⟩
 |scope b ih=>
  intro g h σ r B hR ha k;obtain⟨e,σ₁,g₁,h₁,I,q⟩:=ih g h σ r B hR ha k;exact⟨e,σ₁,g₁,h₁,.scope I,q⟩
 |region id D E hs j=>
  intro g h σ r B hR ha k;have v:holds (match drX P E X.pts D with
   |none=>A.fail
   |some ps=>uh A X.pts (.region id D E) j g r λr=>Sx.regE A X Sg D hs ps g h r):=k
  split at v
  ·exact absurd v hA.fail
  next ps hd=>
   refine rV hA (c:=.region id D E) rfl rfl rfl hR (λr k=>?_) v;unfold Sx.regE at k;cases K:Sx.manyOf ps with
   |some l=>
    rw[K]at k;simp only at k;obtain⟨σ',z,J,hl,G,H,N,S,F⟩:=opsM_ok hA D.toList 0 hs g h σ _ (by rw[qbE];exact qdH _) hR ha k;obtain⟨F,p6⟩:=reM_ok (σ:=σ) hA H ha F;have G:Sx.opsTr X.C (uB X.C) X.pts D (List.range D.size) σ (hl.map abs) σ':=by
     rw[qb3];simpa using G
    refine⟨.normal,σ',z,J,?_,H,N,S,.inl ⟨rfl,p6⟩⟩;cases E with
    |false=>cases hd;cases K
    |true=>
     have M:=W _ _ _ hd;rw[K]at M;obtain⟨n,g1⟩:=Sx.opsTr_at G;obtain⟨m,g2⟩:=Sx.again_at F;exact .drawA (M (max n m) σ σ' _ (g1 _ (qcD _ _)) (g2 _ (qdb _ _)))
   |none=>
    rw[K]at k;simp only at k;cases Q:Sx.splOf ps with
    |none=>
     rw[Q]at k;simp only at k;obtain⟨σ',z,J,G,H,N,S,F⟩:=opsE_ok hA D.toList 0 hs g h σ rfl hR ha k;obtain⟨F,p6⟩:=Sx.sepK_ok hA H F;have G:bL X.C (uB X.C) X.pts D (List.range D.size) σ σ':=by
      rw[qb3];simpa using G
     refine⟨.normal,σ',z,J,?_,H,N,S,.inl ⟨rfl,p6⟩⟩;cases E with
     |false=>exact .region G
     |true=>
      have M:=W _ _ _ hd;rw[K]at M;simp only at M;rw[Q]at M;exact .draw (λn hn=>M n _ _ hn F) G
    |some q=>
     rw[Q]at k;simp only at k;obtain⟨σ₁,g₁,h₁,G,H,N,S,F⟩:=mZ hA (D.toList.take (q.2+1)) 0 hs g h σ (by rw[qbE];exact List.take_prefix _ _) hR ha k;unfold Sx.reK at F;split at F
     next o ho=>
      split at F
      next d aE=>
       obtain⟨σ₂,g₂,h₂,I,L,O,_,w⟩:=xD hA H N ho F;simp only at w;split at w
       next x y hx hy=>
        obtain⟨u,e1,e2⟩:=hA.opt _ _ w;have e1:=Sx.eqFn_ok e1;subst e1;have sm:Sx.SameAt D q.1 σ₁ σ₂:=⟨o,d,x,ho,aE,Sx.entF_ok H hx,Sx.entF_ok L hy⟩;obtain⟨σ',z,J,r1,r2,r3,r4,r5⟩:=mZ hA (D.toList.drop (q.2+1)) (q.2+1) _ g₁ h₁ σ₁ (qdH _) H N e2;refine⟨.normal,σ',z,J,?_,r2,r3,?_,.inl ⟨rfl,r5⟩⟩
        ·cases E with
         |false=>cases hd;cases Q
         |true=>
          have M:=W _ _ _ hd;rw[K]at M;simp only at M;rw[Q]at M;exact .drawS (λn h1 h2 h3=>M n _ _ _ _ h1 h2 sm h3) G I r1
        ·refine(S.mono (λi s=>?_) (λi s=>?_) (λi s=>?_)).trans (r4.mono (λi s=>?_) (λi s=>?_) (λi s=>?_))
         all_goals
          replace s:=qba.1 s
          obtain⟨o,ho,e⟩:=s;exact qba.2 ⟨o,(by first|exact qbm ho|exact qbs ho),e⟩
       ·exact absurd w hA.fail
      ·exact absurd F hA.fail
     ·exact absurd F hA.fail
 |cond c a b j ad ag=>
  intro g h σ r B hR ha k;have v:holds (match sval g c with
   | .st (.leaf (.l true))=>exec A X Sg P a g h r B
   | .st (.leaf (.l false))=>exec A X Sg P b g h r B
   | .st (.leaf (.b t))=>uh A X.pts (er X (.cond c a b j)) j g r λr=>A.cond t (exec A X Sg P a g h r B) (exec A X Sg P b g h r B)
   |_=>A.fail):=k
  have ga:∀ {r},oval σ.tmps c = .bool true->holds (exec A X Sg P a g h r B)->Out X holds abs (er X (.cond c a b j)) σ r B:=by
   intro r hc k;obtain⟨e,σ₁,g₁,h₁,I,L,O,V,w⟩:=ad g h σ r B hR ha k;exact⟨e,σ₁,g₁,h₁,.cond hc I,L,O,V.mono (λi s=>qaW _ s) (λi s=>qaW _ s) (λi s=>qaW _ s),w⟩
  have gb:∀ {r},oval σ.tmps c = .bool false->holds (exec A X Sg P b g h r B)->Out X holds abs (er X (.cond c a b j)) σ r B:=by
   intro r hc k;obtain⟨e,σ₁,g₁,h₁,I,L,O,V,w⟩:=ag g h σ r B hR ha k;exact⟨e,σ₁,g₁,h₁,.cond hc (show uEx X.C X.pts (if false=true then er X a else er X b) σ e σ₁ by rw[qd1 (by simp)];exact I),L,O,V.mono (λi s=>qbo _ s) (λi s=>qbo _ s) (λi s=>qbo _ s),w⟩
  split at v
  next e=>exact ga (hR.sval e (by simp)).1 v
  next e=>exact gb (hR.sval e (by simp)).1 v
  next t e=>
   have h1:=(hR.sval e (by simp)).1;refine rV hA (c:=er X (.cond c a b j)) rfl rfl rfl hR (λr k=>?_) v;rcases hA.cond _ _ _ k with⟨ht,Y⟩|⟨ht,Y⟩
   ·exact ga (by rw[h1,ht];rfl) Y
   ·exact gb (by rw[h1,ht];rfl) Y
  ·exact absurd v hA.fail
 |block id b j ih=>
  intro g h σ r B hR ha k;refine rV hA (c:=er X b) rfl rfl rfl hR (λr k=>?_) (show holds (uh A X.pts (er X b) j g r λr=>exec A X Sg P b g h r λe=>match tO e id with
   |true=>r
   |false=>B e)from k)
  obtain⟨e,σ₁,g₁,h₁,I,L,O,V,w⟩:=ih g h σ _ _ hR ha k;refine⟨ju id e,σ₁,g₁,h₁,.block I,L,O,V,?_⟩;rcases w with⟨rfl,w⟩|⟨w,q6⟩
  ·exact .inl ⟨rfl,w⟩
  ·cases e with
   |normal=>exact absurd rfl w
   |exit i=>
    by_cases s:i=id
    ·subst s;left;simp only[ju,if_true,true_and];simpa[tO]using q6
    ·right;simp only[ju,qd1 s];refine⟨by simp,?_⟩;have:Nat.beq i id=false:=by
      rw[←qaU];intro h;exact s (qad h)
     simpa[tO,this]using q6
   |_=>exact .inr ⟨by simp[ju],by simpa[tO,ju]using q6⟩
 |loop b lv ih=>
  intro g h σ r B hR ha k;have v:holds (match pk g lv with
   |none=>A.fail
   |some U=>match lv.rows.all λp=>!(aP X.pts (er X b)).contains p.1 with
    |false=>A.fail
    |true=>A.loop (λar U h=>reE A X.pts (er X b) .nil lv g U λg=>exec A X Sg P b g h (λg h=>match pk g lv with
     |some U=>ar U h
     |none=>A.fail) B) U h):=k
  split at v
  ·exact absurd v hA.fail
  next a3 a0=>
   split at v
   ·exact absurd v hA.fail
   next ay=>
    have Z:∀p∈lv.rows,p.1∉aP X.pts (er X b):=by
     intro p hp;have:=qac.1 ay p hp;simpa using this
    obtain⟨it,i0,i1,n,hn⟩:=hA.loop _ _ _ v;have ap:∀(n:Nat) (U:TB) (h:HT) (τ:St) (gτ:Env),Rp gτ τ->Fr (wrT (er X b)) (aP X.pts (er X b)) (wrR X.pts (er X b)) σ τ->pk gτ lv=some U->abs h=τ.heap->holds (it n U h)->
      ∃e σ' z J,uEx X.C X.pts (.loop (er X b)) τ e σ'/\e≠.normal/\Rp z σ'/\abs J=σ'.heap/\Fr (wrT (er X b)) (aP X.pts (er X b)) (wrR X.pts (er X b)) σ σ'/\holds (B e z J):=by
     intro n
     induction n with
     |zero=>intro U h τ gτ _ _ _ _ hh;exact absurd hh (i0 _ _)
     |succ n a2=>
      intro U h τ gτ hRτ hF hp haτ hh;rw[i1]at hh;obtain⟨ax,g1,g2⟩:=reE_ok hA hR hRτ hF hp (yD τ _) (.inr Z) hh;obtain⟨e,σ₁,g₁,h₁,I,L,O,V,w⟩:=ih ax h (τ.clear (aP X.pts (er X b))) _ _ g1 (by rw[yC];exact haτ) g2;have an:Fr (wrT (er X b)) (aP X.pts (er X b)) (wrR X.pts (er X b)) σ σ₁:=(hF.trans (clear_fr (box_sub _ _))).trans V;rcases w with⟨rfl,w⟩|⟨w,q6⟩
      ·simp only at w;split at w
       next a4 a1=>
        obtain⟨e',σ',z,J,G,H,N,S,F,p6⟩:=a2 a4 h₁ σ₁ g₁ L an a1 O w;exact⟨e',σ',z,J,.loop I G,H,N,S,F,p6⟩
       ·exact absurd w hA.fail
      ·exact⟨e,σ₁,g₁,h₁,.loopX I w,w,L,O,an,q6⟩
    obtain⟨e',σ',z,J,G,H,N,S,F,p6⟩:=ap n a3 h σ g hR (.refl _ _ _ _) a0 ha hn;exact⟨e',σ',z,J,G,N,S,F,.inr ⟨H,p6⟩⟩
 |rangeFunc f κ a5=>
  intro g h σ r B hR ha k;exact absurd k hA.fail
end
end Sx
namespace Sx
section
variable [Val] [Kno] {R HT:Type} {A:Alg R HT} {X:Ctxt} {Sg:Tc} {holds:R->Prop} {abs:HT->Tp}
def dQ(ls:TB):Prop:=∀l∈ls,match l with
 | .v x=>az x=true
 |_=>True
def yM{xs:List S0}(h:dQ (cX xs)):∀x∈xs,x.good:=by
 intro x a l b;have c:l.lf∈cX xs:=by
  induction xs with
  |nil=>cases a
  |cons y e d=>
   simp only[cX,qaz,qaA];rcases qax.1 a with rfl|a
   ·exact .inl ⟨l,b,rfl⟩
   ·exact .inr (d (λl b=>h l (by simp only[cX,qaz];exact .inr b)) a)
 have:=h _ c;cases l<;>first|trivial|exact this
def qp:∀ {xs:List S0},(∀x∈xs,x.good)->dQ (cX xs)
 | [],_,l,hl=>by cases hl
 |x :: xs,h,l,hl=>by
  simp only[cX,qaz,qaA]at hl;rcases hl with⟨c,a,rfl⟩|hl
  ·have:=h x (by simp) c a;cases c<;>first|trivial|exact this
  ·exact qp (λy b=>h y (by simp[b])) l hl
def gP{C:Cfg}{T:Tq}(hA:AlgOk A C Sg T holds abs):∀ {cs:List SL} {K:R},holds (chkAll A cs K)->(∀c∈cs,aZ c.val=true)/\holds K
 | [],K,h=>⟨by simp,h⟩
 |c :: cs,K,h=>by
  cases c with
  |v x=>
   have h':holds (A.opt (chk2 x) λ_=>chkAll A cs K):=h;obtain⟨u,e,f⟩:=hA.opt _ _ h';obtain⟨a,d⟩:=gP hA f;refine⟨qbx.2 ⟨?_,a⟩,d⟩;unfold chk2 at e;split at e
   ·assumption
   ·cases e
  |i k n=>obtain⟨a,d⟩:=gP (cs:=cs) (K:=K) hA h;exact⟨qbx.2 ⟨rfl,a⟩,d⟩
  |b t=>obtain⟨a,d⟩:=gP (cs:=cs) (K:=K) hA h;exact⟨qbx.2 ⟨rfl,a⟩,d⟩
  |l t=>obtain⟨a,d⟩:=gP (cs:=cs) (K:=K) hA h;exact⟨qbx.2 ⟨rfl,a⟩,d⟩
def chkRes_ok{C:Cfg}{T:Tq}(hA:AlgOk A C Sg T holds abs){a:Bool}{x:S0}{K:R}(j:x.good)(h:holds (gw A a x K)):(a=true->aR x.val=true)/\holds K:=by
 unfold gw at h;split at h
 next d=>
  obtain⟨e,f⟩:=gP hA h;refine⟨λ_=>?_,f⟩;simp only[S0.val,aR,qac,qaA];rintro _ ⟨c,g,rfl⟩;exact e c g
 next b=>
  refine⟨λi=>?_,h⟩;cases x with
  |agg d=>exact absurd rfl (b d i)
  |leaf l=>exact(fe.1 (SL.val_good (j l (by simp[S0.cells])))).2.1
def resE_ok(hA:AlgOk A X.C Sg X.T holds abs){i:Env}{σ:St}{h:HT}(H:Rp i σ)(Y:abs h=σ.heap){b:Bool}:∀(d:List ResultVar) (sks:TH) (e:TB) (K:TB->HT->R),holds (resE A X b i h d sks e K)->
  ∃ys,db ys sks=true/\(∀y∈ys,y.good)/\(b=true->∀y∈ys,aR y.val=true)/\ys.length=d.length/\de X.C σ d=some (aq ys)/\holds (K (e++cX ys) h)
 | [],sks,e,K,j=>by
  cases sks with
  |nil=>
   have c:holds (K e h):=j;exact⟨[],rfl,by simp,by simp,rfl,rfl,by rw[cX,qaZ];exact c⟩
  |cons _ _=>exact absurd j hA.fail
 |M :: d,sks,e,K,j=>by
  cases sks with
  |nil=>exact absurd j hA.fail
  |cons k sks=>
   have q:∀x:S0,x.is k=true->x.good->fk X.C σ M=some x.val->holds (gw A b x (resE A X b i h d sks (e++x.cells.map SL.lf) K))->
     ∃ys,db ys (k :: sks)=true/\(∀y∈ys,y.good)/\(b=true->∀y∈ys,aR y.val=true)/\ys.length=(M :: d).length/\de X.C σ (M :: d)=some (aq ys)/\holds (K (e++cX ys) h):=by
    intro x o Z J j;obtain⟨h1,G⟩:=chkRes_ok hA Z j;obtain⟨ys,B,D,a3,a4,a5,a6⟩:=resE_ok hA H Y d sks _ K G;refine⟨x :: ys,by simp[db,o,B],qbx.2 ⟨Z,D⟩,λhm=>qbx.2 ⟨h1 hm,a3 hm⟩,by simp[a4],?_,by simpa[cX]using a6⟩;simp only[de,J,a5];rfl
   cases M with
   |tmp t=>
    have c:holds (match i.tm.getD t .no with
     | .st x=>match x.is k with
      |true=>gw A b x (resE A X b i h d sks (e++x.cells.map SL.lf) K)
      |false=>A.fail
     |_=>A.fail):=j
    split at c
    next x o=>
     obtain⟨F,g2⟩:=H.at o (by simp);split at c
     next u=>
      exact q x u g2 (by simp[fk,List.getD_eq_getElem?_getD,F];rfl) c
     ·exact absurd c hA.fail
    ·exact absurd c hA.fail
   |cell a t=>
    have c:holds (match (generalizing:=false) aggT X.C.P t with
     |some g=>
      let n:=if g then X.C.P.cellsOf t else 1
      match (generalizing:=false) i.tm.getD a .no with
      | .lad s w=>match (sI i s).bind (λm=>(cutS m w n).bind (mkS0 g))with
       |some x=>match x.is k with
        |true=>gw A b x (resE A X b i h d sks (e++x.cells.map SL.lf) K)
        |false=>A.fail
       |none=>A.fail
      | .st (.leaf (.v p))=>match (generalizing:=false) g,k with
       |true,.agg _=>A.peek (.ld n p) h λm=>ucS A k m λx r=>A.uc0 r (gw A b x (resE A X b i h d sks (e++x.cells.map SL.lf) K))
       |false,.leaf _=>A.peek (.ld n p) h λm=>ucS A k m λx r=>A.uc0 r (gw A b x (resE A X b i h d sks (e++x.cells.map SL.lf) K))
       |_,_=>A.fail
      |_=>A.fail
     |none=>A.fail):=j
    clear j;split at c
    next g I=>
     simp only at c;split at c
     next s w z=>
      obtain⟨F,_⟩:=H.at z (by simp);split at c
      next x o=>
       obtain⟨m,U,o⟩:=qas.1 o;obtain⟨ds,hd,o⟩:=qas.1 o;obtain⟨r1,r2,_⟩:=kz H U;obtain⟨c1,c2⟩:=nD hd;obtain⟨v,v1,v2⟩:=dd I c1;obtain⟨m1,m2⟩:=ou o;split at c
       next u=>
        have hv:x.val=v:=by
         rcases m2 with⟨B,D⟩|⟨B,D⟩<;>rcases v2 with⟨E,L⟩|⟨E,L⟩
         ·rw[D,L]
         ·rw[B]at E;cases E
         ·rw[B]at E;cases E
         ·rw[D]at L;simpa using L
        refine q x u (λl z=>?_) ?_ c
        ·rw[m1]at z;exact r2 l (c2 l z)
        ·simp only[fk,List.getD_eq_getElem?_getD,F,qby,SV.val,r1,v1,hv]
       ·exact absurd c hA.fail
      ·exact absurd c hA.fail
     next p z=>
      obtain⟨F,_⟩:=H.at z (by simp);have f:g=jF k->holds (A.peek (.ld (if g then X.C.P.cellsOf t else 1) p) h λm=>ucS A k m λx r=>A.uc0 r (gw A b x (resE A X b i h d sks (e++x.cells.map SL.lf) K)))->
        ∃ys,db ys (k :: sks)=true/\(∀y∈ys,y.good)/\(b=true->∀y∈ys,aR y.val=true)/\ys.length=(ResultVar.cell a t :: d).length/\de X.C σ (.cell a t :: d)=some (aq ys)/\holds (K (e++cX ys) h):=by
       intro V j;obtain⟨m,G,O⟩:=hA.peek _ _ _ j;simp only[Pk.run]at G;rw[Y]at G;obtain⟨id,w,vs,rfl,W,h4⟩:=ldP_ok G;rw[tz]at W;obtain⟨v,h5,N⟩:=dd I h4;rw[V]at N;obtain⟨x,r,q1,q2,q3,Q⟩:=uW hA O;obtain⟨U,S⟩:=hA.uc0 _ _ Q;rw[U,qaZ]at q1;rw[q1]at N;refine q x q2 q3 ?_ S;rw[qr q2 N];simp only[fk,List.getD_eq_getElem?_getD,F,qby,SV.val,S0.val,SL.val,W,qao,h5]
      split at c
      ·exact f rfl c
      ·exact f rfl c
      ·exact absurd c hA.fail
     ·exact absurd c hA.fail
    ·exact absurd c hA.fail
structure FnIs(X:Ctxt)(Sg:Tc)(f:TK)(fn:Fn1):Prop where
 is:∃g,X.C.P.funcs[f]?=some g/\g.body=some (er X fn.code)/\((g.name == "runtime.NumGoroutine")||X.C.opq f)=false/\g.ntmps=fn.nt/\g.results.toList=fn.rvs
 pts:X.pts=X.C.pts f
 sg:Sg f=some fn.sg
def vX{ys:List S0}(hg:∀y∈ys,y.good)(d:1<ys.length->∀y∈ys,aR y.val=true):noLoc (gj (aq ys))=true:=by
 match ys with
 | []=>rfl
 | [y]=>exact S0.noLoc (hg y (by simp))
 |a :: b :: l=>
  have h:=d (by simp);have e:gj (aq (a :: b :: l)) = .tuple (aq (a :: b :: l)).toArray:=rfl;rw[e];simp only[Am.noLoc,qac];intro v c;simp only[aq,qaA]at c;obtain⟨y,f,rfl⟩:=c;exact h y f
def start_rp{xs:List S0}(hg:∀x∈xs,x.good)(d:Nat)(H:Tp) :
  Rp ⟨xs.map .st++List.replicate (d - xs.length) .no,List.replicate d .nil⟩ { tmps:=aq xs++List.replicate (d - (aq xs).length) undef,loc:=List.replicate d none,heap:=H }:=by
 refine⟨by simp[aq],λi s a=>?_,by simp,λi r c=>?_⟩
 ·rw[qde]at a;split at a
  next b=>
   simp only[qaB]at b;simp only[qan,qah]at a;obtain⟨x,e,rfl⟩:=a;refine⟨?_,hg x (qab e)⟩;rw[qam (by simpa[aq]using b)];simp[aq,e,SV.val]
  ·rw[qa7]at a;split at a
   ·cases a;trivial
   ·cases a
 ·simp only[qa7]at c;split at c
  ·rename_i b;cases c
   simp[LR.ok,b]
  ·cases c
def rD(hA:AlgOk A X.C Sg X.T holds abs){s:Dr}
  (k:Sx.DrOk X.C s)
  {f:TK} {a:Fn1} (l:FnIs X Sg f a) {ls:TB} {h:HT} {K:TB->HT->R} (p:dQ ls) (m:holds (aj A X Sg s a ls h K)) :
  ∃c h',aB X.C Sg f ls (abs h) c (abs h')/\dQ c/\holds (K c h'):=by
 obtain⟨g,G,H,I,J,f5⟩:=l.is;obtain⟨y,r,t,F,n⟩:=sV hA m;obtain⟨N,o⟩:=hA.un0 _ _ n;rw[N,qaZ]at t;subst t;have u:=yM p;have L:=start_rp u a.nt (abs h);obtain⟨e,σ',j,h',v,O,w,_,d⟩:=exec_ok hA k a.code _ h _ _ _ L rfl o;have b:(e = .normal∨e = .ret)->holds (resE A X (Nat.blt 1 a.rvs.length) j h' a.rvs a.sg.rs [] K)->∃c h',aB X.C Sg f (cX y) (abs h) c (abs h')/\dQ c/\holds (K c h'):=by
  intro M m;obtain⟨z,B,i,D,P,E,q⟩:=resE_ok hA O w a.rvs a.sg.rs [] K m;rw[qaf]at q;refine⟨cX z,h',⟨a.sg,y,z,l.sg,⟨F,rfl,u⟩,⟨B,rfl,i⟩,?_⟩,qp i,q⟩;rw[w];refine pQ.intro G H I ?_ M (by rw[f5];exact E) (vX i λQ=>D (by rw[qa5];omega));rw[l.pts]at v;simpa[lV,J]using v
 rcases d with⟨rfl,d⟩|⟨d,x⟩
 ·exact b (.inl rfl) d
 ·cases e with
  |ret=>exact b (.inr rfl) x
  |_=>exact absurd x hA.fail
end
end Sx
namespace Sx
section
variable {P:TD}
end
end Sx
namespace Sx
inductive MC where
 |no
 |row (s:Nat) (w:Bool)
 |hr
 |hw
 |neu (f:TK)
abbrev _root_.Tb:=FuncId->Option Nat
def au(N:Tb)(pts:Tx)(o:Oper):Option MC:=
 match o.op with
 | .move _ | .assign _ | .pick _ _ _ | .build _ _ | .nilCheck _ | .unOp _ _ _ | .convert _ _ _ | .fieldAddr _ _ _ | .field _ _ _ | .indexAddr _ _ _ | .index _ _ _ | .extract _ _=>some .no
 | .binOp _ _ _ _ _=>some .no
 | .makeFunc _ _ _=>some .no
 | .load _ a=>match mq pts a with
  |0=>some .hr
  |1=>some .no
  |s+2=>some (.row s false)
 | .store _ a _=>match mq pts a with
  |0=>some .hw
  |1=>none
  |s+2=>some (.row s true)
 | .alloc _ | .box _ _=>match o.dst with
  |some d=>if pts.getD d 0=d+2 then some (.row d true)else some .hw
  |none=>none
 | .buildSlice _ _ _ | .makeMap _ _ | .makeSlice _ _ _ | .mapUpdate _ _ _ _ | .mapEntry _ _ _ | .entryStore _ _ _ _ | .insert _ _ _ _=>some .hw
 | .lookup _ _ _ _ | .slice _ _ _ _ _=>some .hr
 | .call c=>match c.callee with
  | .builtin b=>match b with
   | .append | .copy | .delete | .clear=>some .hw
   | .len=>some .hr
   | .cap | .min | .max=>some .no
   |_=>none
  | .value f=>match f with
   | .func g=>some (if N g=some (2*c.args.size)then .neu g else if N g=some (2*c.args.size+1)then .hr else .hw)
   |_=>some .hw
  |_=>none
 |_=>none
def bj(ops:Tl)(o:Oper):Tx:=
 (o.op.operands.toList.filterMap λx=>match x with
  | .tmp t=>some t
  |_=>none) ++
 match o.guard with
 |some (j,_)=>((ops[j]?).bind (·.dst)).toList
 |none=>[]
section
variable [Val]
def execOp_congr{ρ ρ':Tf}{o:Oper}(N:Tb)(pts:Tx)(D:au N pts o≠none)(h:∀x∈o.op.operands.toList,ρ x=ρ' x):execOp ρ o=execOp ρ' o:=by
 obtain⟨dst,A,C,pos,z,guard⟩:=o;have l:∀ {j:Array Operand},(∀x∈j.toList,ρ x=ρ' x)->j.map ρ=j.map ρ':=by
  intro j e;apply qbk.1;rw[qbC,qbC];exact qbl e
 have w:∀ {j:Array (Nat×Operand)},(∀x∈j.toList.map (·.2),ρ x=ρ' x)->(j.map λ(i,x)=>(i,ρ x))=(j.map λ(i,x)=>(i,ρ' x)):=by
  intro j e;apply qbk.1;rw[qbC,qbC];refine qbl λp E=>?_;show(p.1,ρ p.2)=(p.1,ρ' p.2);rw[e p.2 (qaA.2 ⟨p,E,rfl⟩)]
 have g:∀ {r:Tg},(∀x∈r.toArray.toList,ρ x=ρ' x)->r.map ρ=r.map ρ':=by
  intro r e;cases r with
  |none=>rfl
  |some y=>simp[e y (by simp)]
 cases A<;>simp only[au,ne_eq,not_true_eq_false,not_false_eq_true,reduceCtorEq]at D<;>simp only[Op.operands]at h
 case move x=>simp only[execOp,h x (by simp)]
 case assign x=>simp only[execOp,h x (by simp)]
 case pick c a b=>simp only[execOp,h c (by simp),h a (by simp),h b (by simp)]
 case alloc t=>rfl
 case box t x=>simp only[execOp,h x (by simp)]
 case build t ps=>simp only[execOp,w (by simpa using h)]
 case buildSlice t n ps=>simp only[execOp,w (by simpa using h)]
 case load t a=>simp only[execOp,h a (by simp)]
 case store t a x=>simp only[execOp,h a (by simp),h x (by simp)]
 case nilCheck x=>simp only[execOp,h x (by simp)]
 case binOp A t x y yt=>simp only[execOp,h x (by simp),h y (by simp)]
 case unOp A t x=>simp only[execOp,h x (by simp)]
 case convert s d x=>simp only[execOp,h x (by simp)]
 case makeFunc fn a b=>simp only[execOp,l (λx e=>h x (by simp;exact .inl (by simpa using e))),l (λx e=>h x (by simp;exact .inr (by simpa using e)))]
 case makeMap t r=>simp only[execOp,g h]
 case makeSlice t a b=>simp only[execOp,h a (by simp),h b (by simp)]
 case slice t x a b c=>
  simp only[qb8,qaz]at h;simp only[execOp,h x (by simp),g (λy u=>h y (.inl (.inl (.inr u)))),g (λy u=>h y (.inl (.inr u))),g (λy u=>h y (.inr u))]
 case fieldAddr t x f=>simp only[execOp,h x (by simp)]
 case field t x f=>simp only[execOp,h x (by simp)]
 case indexAddr t x i=>simp only[execOp,h x (by simp),h i (by simp)]
 case index t x i=>simp only[execOp,h x (by simp),h i (by simp)]
 case lookup t x i ok=>simp only[execOp,h x (by simp),h i (by simp)]
 case mapUpdate t m k v=>simp only[execOp,h m (by simp),h k (by simp),h v (by simp)]
 case insert t m k v=>simp only[execOp,h m (by simp),h k (by simp),h v (by simp)]
 case mapEntry t m k=>simp only[execOp,h m (by simp),h k (by simp)]
 case entryStore t m s v=>simp only[execOp,h m (by simp),h s (by simp),h v (by simp)]
 case extract t i=>simp only[execOp,h t (by simp)]
 case call c=>
  have q:resolve ρ c C=resolve ρ' c C:=by
   unfold resolve;simp only[Call.operands,qb8,qaz]at h;rw[l (λx e=>h x (.inr e))];cases B:c.callee with
   |builtin b=>rfl
   |value f=>simp only[B]at h ⊢;rw[h f (.inl (by simp))]
   |invoke r m=>simp only[B]at h ⊢;rw[h r (.inl (by simp))]
  simp only[execOp,q]
def nL{C:Cfg}{ρ ρ':Tf}{o:Oper}(N:Tb)(pts:Tx)(H:au N pts o≠none)(h:∀x∈o.op.operands.toList,ρ x=ρ' x):am C pts ρ o=am C pts ρ' o:=by
 have e:=execOp_congr N pts H h;have w:∀(f:Value->Bool),(o.op.operands.toList.all λx=>f (ρ x))=(o.op.operands.toList.all λx=>f (ρ' x)):=by
  intro f;rw[qbH,qac,qac];exact⟨λg x e=>by rw[←h x e];exact g x e,λg x e=>by rw[h x e];exact g x e⟩
 have j:cL C ρ o=cL C ρ' o:=by
  unfold cL;rw[w flat,e]
 have u:∀ {r:Tg},(∀x∈r.toArray.toList,ρ x=ρ' x)->r.map ρ=r.map ρ':=by
  intro r e;cases r with
  |none=>rfl
  |some y=>simp[e y (by simp)]
 have B:∀ {q:Array (Nat×Operand)},(∀x∈q.toList.map (·.2),ρ x=ρ' x)->(q.toList.map λp=>(p.1,ρ p.2))=(q.toList.map λp=>(p.1,ρ' p.2)):=by
  intro q e;refine qbl λp j=>?_;rw[e p.2 (qaA.2 ⟨p,j,rfl⟩)]
 have A:∀(f:Value->Bool) {q:Array (Nat×Operand)},(∀x∈q.toList.map (·.2),ρ x=ρ' x)->(q.toList.all λp=>f (ρ p.2))=(q.toList.all λp=>f (ρ' p.2)):=by
  intro f q e;rw[qbH,qac,qac];have G:∀p∈q.toList,ρ p.2=ρ' p.2:=λp j=>e p.2 (qaA.2 ⟨p,j,rfl⟩);exact⟨λg p j=>by rw[←G p j];exact g p j,λg p j=>by rw[G p j];exact g p j⟩
 obtain⟨dst,F,I,pos,l,guard⟩:=o;cases F<;>simp only[au,ne_eq,not_true_eq_false,not_false_eq_true,reduceCtorEq]at H<;>simp only[Op.operands]at h
 case move x=>simp only[am,h x (by simp)]
 case assign x=>simp only[am,h x (by simp)]
 case pick c a b=>simp only[am,h c (by simp),h a (by simp),h b (by simp)]
 case alloc t=>rfl
 case box t x=>simp only[am,h x (by simp)]
 case build t ps=>simp only[am,B (by simpa using h),A (λv=>!av v) (by simpa using h)]
 case buildSlice t n ps=>simp only[am,B (by simpa using h),A (λv=>v.cells.toList.all bg) (by simpa using h)]
 case load t a=>simp only[am,h a (by simp)]
 case store t a x=>simp only[am,h a (by simp),h x (by simp)]
 case nilCheck x=>simp only[am,h x (by simp)]
 case binOp F t x y yt=>simp only[am,h x (by simp),h y (by simp),j]
 case unOp F t x=>simp only[am,j]
 case convert s d x=>simp only[am,j]
 case makeFunc fn a b=>
  have D:a.map ρ=a.map ρ':=qbk.1 (by rw[qbC,qbC];exact qbl λx e=>h x (by simp;exact .inl (by simpa using e)));have E:b.map ρ=b.map ρ':=qbk.1 (by rw[qbC,qbC];exact qbl λx e=>h x (by simp;exact .inr (by simpa using e)));simp only[am,D,E]
 case makeMap t r=>simp only[am,u h]
 case makeSlice t a b=>simp only[am,h a (by simp),h b (by simp)]
 case slice t x a b c=>
  simp only[qb8,qaz]at h;simp only[am,h x (by simp),u (λy z=>h y (.inl (.inl (.inr z)))),u (λy z=>h y (.inl (.inr z))),u (λy z=>h y (.inr z)),j]
 case fieldAddr t x f=>simp only[am,h x (by simp)]
 case field t x f=>simp only[am,h x (by simp)]
 case indexAddr t x i=>simp only[am,h x (by simp),h i (by simp)]
 case index t x i=>simp only[am,h x (by simp),h i (by simp)]
 case lookup t x i ok=>simp only[am,h x (by simp),h i (by simp)]
 case mapUpdate t m k v=>simp only[am,h m (by simp),h k (by simp),h v (by simp)]
 case insert t m k v=>simp only[am,h m (by simp),h k (by simp),h v (by simp)]
 case mapEntry t m k=>simp only[am,h m (by simp),h k (by simp)]
 case entryStore t m s v=>simp only[am,h m (by simp),h s (by simp),h v (by simp)]
 case extract t i=>simp only[am,h t (by simp)]
 case call c=>
  simp only[Call.operands,qb8,qaz]at h;have D:c.args.toList.map ρ=c.args.toList.map ρ':=qbl λx e=>h x (.inr e);have E:∀b,ba C ρ b (c.args.toList.map ρ) c.argTypes ⟨dst,.call c,I,pos,l,guard⟩=ba C ρ' b (c.args.toList.map ρ') c.argTypes ⟨dst,.call c,I,pos,l,guard⟩:=by
   intro b;unfold ba;rw[D,j]
  simp only[am,fT];cases J:c.callee with
  |builtin b=>exact E b
  |value f=>simp only[J]at h ⊢;rw[D,h f (.inl (by simp))]
  |invoke r m=>rfl
structure Ef where
 v:Value
 rw:Option (Nat×Option (Tk))
 hp:Option (Tp)
def Ef.on(e:Ef)(dst:Tn)(σ:St):St:=
 ({ tmps:=σ.tmps,loc:=(match e.rw with|some p=>σ.loc.set p.1 p.2|none=>σ.loc),heap:=e.hp.getD σ.heap }:St).put dst e.v
def Sees(N:Tb)(pts:Tx)(ops:Tl)(o:Oper)(σ τ:St):Prop:=
 (∀t∈bj ops o,τ.tmps[t]?=σ.tmps[t]?)/\match au N pts o with
 |some (.row s _)=>τ.loc[s]?=σ.loc[s]?
 |some .hr=>τ.heap=σ.heap
 |some .hw=>τ.heap=σ.heap
 |_=>True
def NeuB(N:Tb)(B:Below):Prop:=(∀f args H r H',N f=some (2*args.length)->B.call f args H r H'->H'=H/\∀a,B.call f args a r a)/\
 ∀f args H r H',N f=some (2*args.length+1)->B.call f args H r H'->H'=H
def th(m:Option MC)(e:Ef):Prop:=
 (∀p,e.rw=some p->m=some (.row p.1 true))/\(e.hp≠none->m=some .hw)
def lz{σ τ:St}{x:TG}(h:∀t,x = .tmp t->τ.tmps[t]?=σ.tmps[t]?):oval τ.tmps x=oval σ.tmps x:=by
 cases x with
 |tmp t=>simp[oval,List.getD_eq_getElem?_getD,h t rfl]
 |_=>rfl
def yb{N:Tb}{pts:Tx}{ops:Tl}{o:Oper}{σ τ:St}(h:Sees N pts ops o σ τ):∀x∈o.op.operands.toList,oval τ.tmps x=oval σ.tmps x:=by
 intro x b;refine lz λt a=>h.1 t ?_;subst a;simp only[bj,qaz,qba];exact .inl ⟨.tmp t,b,rfl⟩
def ml{N:Tb}{pts:Tx}{ops:Tl}{o:Oper}{σ τ:St}(h:Sees N pts ops o σ τ):cE ops τ.tmps o=cE ops σ.tmps o:=by
 unfold cE;split
 ·rfl
 next j a c=>
  cases b:(ops[j]?).bind (·.dst)with
  |none=>rfl
  |some d=>
   simp only[qao];rw[h.1 d (by simp[bj,c,b])]
def Fits(N:Tb)(m:Option MC):Eff->Prop
 | .val _=>True
 | .lnew s _=>m=some (.row s true)
 | .lget s _=>m=some (.row s false)
 | .lset s _=>m=some (.row s true)
 | .hget _=>m=some .hr
 | .hop _=>m=some .hw
 | .call f args=>(m=some (.neu f)/\N f=some (2*args.length))∨(m=some .hr/\N f=some (2*args.length+1))∨m=some .hw
 | .yield _ _=>m=some .hw
def eA{N:Tb}{m:Option MC}{x:Ti}{e:Eff}(h:x.map Eff.val=some e):Fits N m e:=by
 obtain⟨v,_,rfl⟩:=qah.1 h;trivial
def ed{C:Cfg}{ρ:Tf}{o:Oper}{N:Tb}{m:Option MC}{e:Eff}(h:cL C ρ o=some e):Fits N m e:=by
 unfold cL at h;split at h
 ·split at h
  ·split at h
   ·cases h;trivial
   ·cases h
  ·cases h
 ·cases h
def fits_or{N:Tb}{m:Option MC}{a:Ti}{b:Option Eff}{e:Eff}(c:b=some e->Fits N m e)(h:oF a b=some e):Fits N m e:=by
 unfold oF at h;split at h
 ·cases h;trivial
 ·exact c h
def nU{C:Cfg}{N:Tb}{pts:Tx}{o:Oper}{t:TJ}{v:Value}{e:Eff}(ho:(∃y,o.op = .box t y)∨o.op = .alloc t)(h:cJ C pts o.dst t v=some e):Fits N (au N pts o) e:=by
 unfold cJ at h;split at h
 ·cases h
 ·split at h
  ·cases h
  next d b=>
   split at h
   ·cases h
   ·split at h
    next a=>
     cases h;rcases ho with⟨y,ho⟩|ho<;>(simp only[Fits,au,ho,b];rw[qd0 a])
    next a=>
     cases h;rcases ho with⟨y,ho⟩|ho<;>(simp only[Fits,au,ho,b];rw[qd1 a])
def ig{C:Cfg}{N:Tb}{pts:Tx}{ρ:Tf}{o:Oper}{e:Eff}(hρ:∀g,ρ (.func g) = .func (.func g) #[] #[])(E:au N pts o≠none)(d:am C pts ρ o=some e):Fits N (au N pts o) e:=by
 unfold am at d;split at d
 ·cases d;trivial
 ·cases d;trivial
 ·split at d
  ·cases d;trivial
  ·cases d
 next t i=>
  obtain⟨z,_,d⟩:=qas.1 d;exact nU (.inr i) d
 next t x i=>
  exact nU (.inl ⟨x,i⟩) d
 ·split at d
  ·exact eA d
  ·cases d
 next t n I i=>
  split at d
  ·obtain⟨r,_,rfl⟩:=qah.1 d;simp only[Fits,au,i]
  ·cases d
 next t a i=>
  unfold dU at d;split at d
  next q=>
   split at d
   ·cases d;simp only[Fits,au,i,q]
   ·obtain⟨p,_,rfl⟩:=qah.1 d;simp only[Fits,au,i,q]
  ·obtain⟨p,_,d⟩:=qas.1 d;exact eA d
  next s q=>
   obtain⟨p,_,rfl⟩:=qah.1 d;simp only[Fits,au,i,q]
 next t a x i=>
  unfold eG at d;split at d
  ·cases d
  ·split at d
   next q=>
    obtain⟨p,_,rfl⟩:=qah.1 d;simp only[Fits,au,i,q]
   ·cases d
   next s q=>
    obtain⟨p,_,rfl⟩:=qah.1 d;simp only[Fits,au,i,q]
 ·split at d<;>cases d<;>trivial
 ·split at d
  ·split at d
   ·split at d
    ·cases d;trivial
    ·cases d
   ·exact ed d
  ·split at d
   ·split at d
    ·cases d;trivial
    ·cases d
   ·exact ed d
  ·exact ed d
 ·split at d
  ·cases d
  ·cases d;trivial
 next t r i=>
  split at d
  ·cases d;simp only[Fits,au,i]
  ·cases d
 next t l c i=>
  cases d;simp only[Fits,au,i]
 next t x F D G i=>
  split at d
  ·split at d
   ·exact eA d
   ·cases d;simp only[Fits,au,i]
  ·exact fits_or ed d
 ·exact eA d
 ·exact eA d
 ·exact eA d
 ·exact eA d
 next t m k H i=>
  split at d
  ·exact eA d
  ·cases d;simp only[Fits,au,i]
 next t m k v i=>
  cases d;simp only[Fits,au,i]
 next t m k v i=>
  cases d;simp only[Fits,au,i]
 next t m k i=>
  cases d;simp only[Fits,au,i]
 next t m s v i=>
  cases d;simp only[Fits,au,i]
 ·split at d
  ·split at d
   ·cases d
   ·exact eA d
  ·cases d
 next c i=>
  unfold fT at d;simp only at d;cases j:c.callee with
  |invoke r m=>simp only[j]at d;cases d
  |builtin b=>
   simp only[j]at d;unfold ba at d;split at d
   ·split at d
    ·cases d
    ·cases d;simp only[Fits,au,i,j]
   ·split at d
    ·cases d;trivial
    ·cases d;simp only[Fits,au,i,j]
    ·cases d;trivial
    ·exact ed d
   ·split at d
    ·cases d;trivial
    ·cases d;trivial
    ·cases d;trivial
    ·cases d
   ·cases d;simp only[Fits,au,i,j]
   ·cases d;simp only[Fits,au,i,j]
   ·cases d;simp only[Fits,au,i,j]
   ·exact ed d
  |value f=>
   simp only[j]at d;split at d
   ·cases d
   ·split at d
    next g first y w=>
     split at d
     ·cases d;cases f with
      |func B=>
       rw[hρ]at w;cases w;simp only[au,i,j,Fits];by_cases A:N g=some (2*c.args.size)
       ·rw[qd0 A];exact .inl ⟨rfl,by rw[A];simp⟩
       ·rw[qd1 A];by_cases u:N g=some (2*c.args.size+1)
        ·rw[qd0 u];exact .inr (.inl ⟨rfl,by rw[u];simp⟩)
        ·rw[qd1 u];exact .inr (.inr rfl)
      |_=>simp only[Fits,au,i,j,or_true]
     ·cases d
    next l first y w=>
     split at d
     ·cases d;cases f with
      |func B=>rw[hρ]at w;cases w
      |_=>simp only[Fits,au,i,j]
     ·cases d
    ·cases d
 ·exact ed d
 ·exact ed d
 ·cases d
def iL{C:Cfg}{B:Below}{N:Tb}(I:NeuB N B){pts:Tx}{ops:Tl}{i:Nat}{o:Oper}(F:ops[i]?=some o)(k:au N pts o≠none){σ σ':St}(u:ak C B pts ops i σ σ') :
  ∃e:Ef,σ'=e.on o.dst σ/\th (au N pts o) e/\∀τ,Sees N pts ops o σ τ->ak C B pts ops i τ (e.on o.dst τ):=by
 unfold ak at u;simp only[F]at u;have val:∀v:Value,σ'=σ.put o.dst v->(∀τ,Sees N pts ops o σ τ->ak C B pts ops i τ (τ.put o.dst v))->
   ∃e:Ef,σ'=e.on o.dst σ/\th (au N pts o) e/\∀τ,Sees N pts ops o σ τ->ak C B pts ops i τ (e.on o.dst τ):=by
  intro v j h;exact⟨⟨v,none,none⟩,j,⟨λp b=>(by cases b),λh=>absurd rfl h⟩,h⟩
 split at u
 ·exact u.elim
 next G=>
  refine val undef u λτ hτ=>?_;unfold ak;simp only[F,ml hτ,G]
 next G=>
  have step:∀ {τ τ':St},Sees N pts ops o σ τ->((∃e,am C pts (oval τ.tmps) o=some e/\lU B e o.dst τ τ')∨(∃v,kL C τ.tmps o v/\τ'=τ.put o.dst v))->ak C B pts ops i τ τ':=by
   intro τ τ' hτ h;unfold ak;simp only[F,ml hτ,G];exact h
  rcases u with⟨e,c,n⟩|⟨v,j,rfl⟩
  ·have cτ:∀τ,Sees N pts ops o σ τ->am C pts (oval τ.tmps) o=some e:=λτ hτ=>by
    rw[nL N pts k (yb hτ)];exact c
   cases e with
   |val v=>
    obtain⟨p,b,rfl⟩:=n;cases b;exact val v rfl λτ hτ=>step hτ (.inl ⟨_,cτ τ hτ,_,rfl,rfl⟩)
   |lnew s D=>
    obtain⟨p,b,rfl⟩:=n;simp only[aW]at b;split at b
    next g=>
     cases b;have a:au N pts o=some (.row s true):=ig (λ_=>rfl) k c;refine⟨⟨.pointer (some ⟨s,0,some 0⟩),some (s,some D),none⟩,rfl,⟨λp b=>by cases b;exact a,λh=>absurd rfl h⟩,λτ hτ=>step hτ (.inl ⟨_,cτ τ hτ,({ τ with loc:=τ.loc.set s (some D) },.pointer (some ⟨s,0,some 0⟩)),?_,rfl⟩)⟩;have:=hτ.2;rw[a]at this;simp only[aW,this,g]
    ·cases b
   |lget s f=>
    obtain⟨p,b,rfl⟩:=n;simp only[aW]at b;split at b
    next D g=>
     obtain⟨v,j,rfl⟩:=qah.1 b;have a:au N pts o=some (.row s false):=ig (λ_=>rfl) k c;refine val v rfl λτ hτ=>step hτ (.inl ⟨_,cτ τ hτ,(τ,v),?_,rfl⟩);have:=hτ.2;rw[a]at this;simp only[aW,this,g,j,qaJ]
    ·cases b
   |lset s f=>
    obtain⟨p,b,rfl⟩:=n;simp only[aW]at b;split at b
    next D g=>
     obtain⟨y,j,rfl⟩:=qah.1 b;have a:au N pts o=some (.row s true):=ig (λ_=>rfl) k c;refine⟨⟨undef,some (s,some y),none⟩,rfl,⟨λp b=>by cases b;exact a,λh=>absurd rfl h⟩,λτ hτ=>step hτ (.inl ⟨_,cτ τ hτ,({ τ with loc:=τ.loc.set s (some y) },undef),?_,rfl⟩)⟩;have:=hτ.2;rw[a]at this;simp only[aW,this,g,j,qaJ]
    ·cases b
   |hget f=>
    obtain⟨p,b,rfl⟩:=n;simp only[aW]at b;obtain⟨v,j,rfl⟩:=qah.1 b;have a:au N pts o=some .hr:=ig (λ_=>rfl) k c;refine val v rfl λτ hτ=>step hτ (.inl ⟨_,cτ τ hτ,(τ,v),?_,rfl⟩);have:=hτ.2;rw[a]at this;simp only[aW,this,j,qaJ]
   |hop f=>
    obtain⟨p,b,rfl⟩:=n;simp only[aW]at b;obtain⟨q,j,rfl⟩:=qah.1 b;have a:au N pts o=some .hw:=ig (λ_=>rfl) k c;refine⟨⟨q.2,none,some q.1⟩,rfl,⟨λp b=>(by cases b),λ_=>a⟩,λτ hτ=>step hτ (.inl ⟨_,cτ τ hτ,({ τ with heap:=q.1 },q.2),?_,rfl⟩)⟩;have:=hτ.2;rw[a]at this;simp only[aW,this,j,qaJ]
   |call f d=>
    obtain⟨r,H,t,rfl⟩:=n;have a:(au N pts o=some (.neu f)/\N f=some (2*d.length))∨(au N pts o=some .hr/\N f=some (2*d.length+1))∨au N pts o=some .hw:=ig (λ_=>rfl) k c;rcases a with⟨a,E⟩|⟨a,E⟩|a
    ·obtain⟨rfl,z⟩:=I.1 f d _ r H E t;exact val r rfl λτ hτ=>step hτ (.inl ⟨_,cτ τ hτ,r,τ.heap,z τ.heap,rfl⟩)
    ·obtain rfl:=I.2 f d _ r H E t;refine val r rfl λτ hτ=>step hτ (.inl ⟨_,cτ τ hτ,r,τ.heap,?_,rfl⟩);have:=hτ.2;rw[a]at this;rw[this];exact t
    ·refine⟨⟨r,none,some H⟩,rfl,⟨λp b=>(by cases b),λ_=>a⟩,λτ hτ=>step hτ (.inl ⟨_,cτ τ hτ,r,H,?_,rfl⟩)⟩;have:=hτ.2;rw[a]at this;rw[this];exact t
   |yield l d=>
    obtain⟨r,H,t,rfl⟩:=n;have a:au N pts o=some .hw:=ig (λ_=>rfl) k c;refine⟨⟨r,none,some H⟩,rfl,⟨λp b=>(by cases b),λ_=>a⟩,λτ hτ=>step hτ (.inl ⟨_,cτ τ hτ,r,H,?_,rfl⟩)⟩;have:=hτ.2;rw[a]at this;rw[this];exact t
  ·refine val v rfl λτ hτ=>step hτ (.inr ⟨v,?_,rfl⟩);obtain⟨J,z,K,L⟩:=j;have m:=yb hτ;refine⟨J,?_,K,λw=>?_⟩
   ·rw[qac]at z ⊢;intro x A;rw[m x A];exact z x A
   ·rw[execOp_congr N pts k (ρ':=λx=>den (oval σ.tmps x)) λx A=>by rw[m x A]];exact L w
def MC.ok2:MC->MC->Bool
 | .no,_=>true
 |_,.no=>true
 | .row s w,.row a w'=>!Nat.beq s a||(!w && !w')
 | .row _ _,_=>true
 |_,.row _ _=>true
 | .neu _,_=>true
 |_,.neu _=>true
 | .hr,.hr=>true
 |_,_=>false
def bv(d:Tn)(l:Tx):Bool:=match d with
 |some d=>!l.contains d
 |none=>true
def bi(a b:Tn):Bool:=match a,b with
 |some a,some b=>!Nat.beq a b
 |_,_=>true
def yF(N:Tb)(pts:Tx)(ops:Tl)(a b:Oper):Bool:=
 match au N pts a,au N pts b with
 |some m,some n=>(m.ok2 n||gW a b)&&bv a.dst (bj ops b)&&bv b.dst (bj ops a)&&bi a.dst b.dst
 |_,_=>false
def sA{σ:St}{d:Tn}{v:Value}{t:Nat}(h:∀x,d=some x->x≠t):(σ.put d v).tmps[t]?=σ.tmps[t]?:=by
 cases d with
 |none=>rfl
 |some x=>simp only[St.put];rw[qaD (h x rfl)]
def sE{σ:St}{d:Tn}{v:Value}:(σ.put d v).loc=σ.loc:=by cases d<;>rfl
def kr{σ:St}{d:Tn}{v:Value}:(σ.put d v).heap=σ.heap:=by cases d<;>rfl
def sF{σ:St}{d:Tn}{v:Value}:(σ.put d v).tmps=(match d with|some d=>σ.tmps.set d v|none=>σ.tmps):=by cases d<;>rfl
def sn{e:Ef}{d:Tn}{σ:St}:(e.on d σ).tmps=(match d with|some d=>σ.tmps.set d e.v|none=>σ.tmps):=by unfold Ef.on;rw[sF]
def xC{e:Ef}{d:Tn}{σ:St}:(e.on d σ).loc=(match e.rw with|some p=>σ.loc.set p.1 p.2|none=>σ.loc):=by unfold Ef.on;rw[sE]
def dV{e:Ef}{d:Tn}{σ:St}:(e.on d σ).heap=e.hp.getD σ.heap:=by unfold Ef.on;rw[kr]
def yq{N:Tb}{pts:Tx}{ops:Tl}{a b:Oper}{m n:MC}(o:au N pts a=some m)(q:au N pts b=some n)(c:m.ok2 n=true∨n.ok2 m=true)
  (i:bv a.dst (bj ops b)=true) {e:Ef} (g:th (au N pts a) e) (σ:St):Sees N pts ops b σ (e.on a.dst σ):=by
 refine⟨λt hr=>?_,?_⟩
 ·unfold Ef.on;refine sA λx r j=>?_;subst j;rw[r]at i;simp only[bv,qb9,qcI,decide_eq_false_iff_not]at i;exact i hr
 ·rw[o]at g;rw[q];cases n with
  |no=>trivial
  |neu f=>trivial
  |row s w=>
   show(e.on a.dst σ).loc[s]?=_;rw[xC];cases l:e.rw with
   |none=>rfl
   |some p=>
    have d:=g.1 p l;cases d;have:p.1≠s:=by
     intro j;subst j;rcases c with h|h<;>simp[MC.ok2]at h
    show(σ.loc.set p.1 p.2)[s]?=_;rw[qaD this]
  |hr=>
   show(e.on a.dst σ).heap=_;rw[dV];cases k:e.hp with
   |none=>rfl
   |some H=>
    have d:=g.2 (by rw[k];simp);cases d;rcases c with h|h<;>cases h
  |hw=>
   show(e.on a.dst σ).heap=_;rw[dV];cases k:e.hp with
   |none=>rfl
   |some H=>
    have d:=g.2 (by rw[k];simp);cases d;rcases c with h|h<;>cases h
def set_comm{α:Type}(l:List α){i j:Nat}(a b:α)(h:i≠j):(l.set i a).set j b=(l.set j b).set i a:=List.set_comm _ _ h
def on_comm{N:Tb}{pts:Tx}{a b:Oper}{m n:MC}(r:au N pts a=some m)(s:au N pts b=some n)(c:m.ok2 n=true)(t:bi a.dst b.dst=true){e f:Ef}
  (u:th (au N pts a) e) (v:th (au N pts b) f) (σ:St):f.on b.dst (e.on a.dst σ)=e.on a.dst (f.on b.dst σ):=by
 have k:(f.on b.dst (e.on a.dst σ)).tmps=(e.on a.dst (f.on b.dst σ)).tmps:=by
  simp only[sn];cases h:a.dst with
  |none=>rfl
  |some x=>
   cases i:b.dst with
   |none=>rfl
   |some y=>
    rw[h,i]at t;have:x≠y:=by
     intro j;subst j;simp[bi]at t
    exact set_comm _ _ _ this
 have l:(f.on b.dst (e.on a.dst σ)).loc=(e.on a.dst (f.on b.dst σ)).loc:=by
  simp only[xC];cases h:e.rw with
  |none=>rfl
  |some p=>
   cases i:f.rw with
   |none=>rfl
   |some q=>
    have d:=u.1 p h;have g:=v.1 q i;rw[r]at d;rw[s]at g;cases d;cases g;have:p.1≠q.1:=by
     intro j;rw[j]at c;simp[MC.ok2]at c
    exact set_comm _ _ _ this
 have o:(f.on b.dst (e.on a.dst σ)).heap=(e.on a.dst (f.on b.dst σ)).heap:=by
  simp only[dV];cases h:e.hp with
  |none=>rfl
  |some p=>
   cases i:f.hp with
   |none=>rfl
   |some q=>
    have d:=u.2 (by rw[h];simp);have g:=v.2 (by rw[i];simp);rw[r]at d;rw[s]at g;cases d;cases g;cases c
 generalize f.on b.dst (e.on a.dst σ)=x at *;generalize e.on a.dst (f.on b.dst σ)=y at *;cases x;cases y;simp only at k l o;subst k;subst l;subst o;rfl
def wz{ops:Tl}{o:Oper}{σ τ:St}(h:∀t∈bj ops o,τ.tmps[t]?=σ.tmps[t]?):cE ops τ.tmps o=cE ops σ.tmps o:=by
 unfold cE;split
 ·rfl
 next j a c=>
  cases b:(ops[j]?).bind (·.dst)with
  |none=>rfl
  |some d=>
   simp only[qao];rw[h d (by simp[bj,c,b])]
def xF{ops:Tl}{o:Oper}{σ τ:St}(h:∀t∈bj ops o,τ.tmps[t]?=σ.tmps[t]?):∀x∈o.op.operands.toList,oval τ.tmps x=oval σ.tmps x:=by
 intro x b;refine lz λt a=>h t ?_;subst a;simp only[bj,qaz,qba];exact .inl ⟨.tmp t,b,rfl⟩
def zD{C:Cfg}{B:Below}{N:Tb}(e:NeuB N B){pts:Tx}{ops:Tl}{i j:Nat}{a b:Oper}(f:ops[i]?=some a)(g:ops[j]?=some b)(c:gW a b=true)
  (c2:bv a.dst (bj ops b)=true) (c3:bv b.dst (bj ops a)=true) (c4:bi a.dst b.dst=true) {σ σ₁ σ':St}
  (h1:ak C B pts ops i σ σ₁) (d:ak C B pts ops j σ₁ σ'):∃τ,ak C B pts ops j σ τ/\ak C B pts ops i τ σ':=by
 cases c
def swap_ok{C:Cfg}{B:Below}{N:Tb}(l:NeuB N B){pts:Tx}{ops:Tl}{i j:Nat}{a b:Oper}(p:ops[i]?=some a)(q:ops[j]?=some b)(d:yF N pts ops a b=true){σ σ₁ σ':St}
  (h1:ak C B pts ops i σ σ₁) (o:ak C B pts ops j σ₁ σ'):∃τ,ak C B pts ops j σ τ/\ak C B pts ops i τ σ':=by
 unfold yF at d;split at d
 next m n k g=>
  simp only[qaa]at d;obtain⟨⟨⟨c,c2⟩,c3⟩,c4⟩:=d;rw[qaS]at c;rcases c with c|c
  case inr=>exact zD l p q c c2 c3 c4 h1 o
  obtain⟨e,rfl,r,v⟩:=iL l p (by rw[k];simp) h1;obtain⟨f,rfl,s,w⟩:=iL l q (by rw[g];simp) o;have x:Sees N pts ops b (e.on a.dst σ) σ:=by
   have:=yq k g (.inl c) c2 r σ;refine⟨λt u=>(this.1 t u).symm,?_⟩;have h:=this.2;rw[g]at h ⊢;cases n<;>first|trivial|exact h.symm
  have y:Sees N pts ops a σ (f.on b.dst σ):=yq g k (.inr c) c3 s σ;refine⟨f.on b.dst σ,w σ x,?_⟩;rw[on_comm k g c c4 r s σ];exact v _ y
 ·cases d
end
end Sx
namespace Sx
section
variable [Val] {C:Cfg} {B:Below} {N:Tb} {pts:Tx} {ops:Tl}
def qt{i:Nat}{post:Tx}:∀(pre:Tx),(∀k∈pre,∀σ σ₁ σ':St,ak C B pts ops k σ σ₁->ak C B pts ops i σ₁ σ'->∃τ,ak C B pts ops i σ τ/\ak C B pts ops k τ σ')->
  ∀σ σ':St,bL C B pts ops (pre++i :: post) σ σ'->bL C B pts ops (i :: (pre++post)) σ σ'
 | [],_,σ,σ',h=>h
 |k :: pre,a,σ,σ',⟨σ₁,h1,b⟩=>by
  obtain⟨σ₂,c,d⟩:=qt pre (λk g=>a k (by simp[g])) σ₁ σ' b;obtain⟨τ,e,f⟩:=a k (by simp) σ σ₁ σ₂ h1 c;exact⟨τ,e,σ₂,f,d⟩
inductive Anc(ops:Tl)(k:Nat):Nat->Prop
 |edge {i:Nat} {o:Oper} {e:Edge} (ho:ops[i]?=some o) (he:e∈o.after.toList) (hb:Region.binds .any e=true) (hk:e.on=k):Anc ops k i
 |step {i:Nat} {o:Oper} {e:Edge} (ho:ops[i]?=some o) (he:e∈o.after.toList) (hb:Region.binds .any e=true) (h:Anc ops k e.on):Anc ops k i
def ancOf_ok{b:Tx}(d:∀(i k:Nat),(b.getD i 0).testBit k=true->Anc ops k i){i:Nat}{o:Oper}(p:ops[i]?=some o){k:Nat}(h:(ancOf b o).testBit k=true):Anc ops k i:=by
 unfold ancOf at h;have f:∀(l:List Edge) (m:Nat),(∀e∈l,e∈o.after.toList)->(m.testBit k=true->Anc ops k i)->
   (l.foldl (λm e=>match Region.binds .any e with
    |true=>Nat.lor (Nat.lor m (Nat.shiftLeft 1 e.on)) (b.getD e.on 0)
    |false=>m) m).testBit k=true->Anc ops k i:=by
  intro l
  induction l with
  |nil=>intro m _ j h;exact j h
  |cons e l r=>
   intro m n j h;simp only[qb0]at h;refine r _ (λe q=>n e (by simp[q])) (λg=>?_) h;cases c:Region.binds .any e with
   |false=>simp only[c]at g;exact j g
   |true=>
    simp only[c]at g;have a:((m ||| (1 <<< e.on)) ||| b.getD e.on 0).testBit k=true:=g;rw[Nat.testBit_or,Nat.testBit_or,qaS,qaS]at a;rcases a with(a|a)|a
    ·exact j a
    ·rw[Nat.one_shiftLeft,Nat.testBit_two_pow]at a;exact .edge p (n e (by simp)) c (by simpa using a)
    ·exact .step p (n e (by simp)) c (d _ _ a)
 exact f _ 0 (λ_ h=>h) (λh=>by simp at h) h
def re:∀(l:Tu) (a:Tx),ops.toList.drop a.length=l->(∀(i k:Nat),(a.getD i 0).testBit k=true->Anc ops k i)->∀(i k:Nat),((ancs l a).getD i 0).testBit k=true->Anc ops k i
 | [],a,_,b=>b
 |o :: l,a,c,b=>by
  have f:ops[a.length]?=some o:=by
   have:(ops.toList.drop a.length)[0]?=some o:=by rw[c];rfl
   simpa using this
  refine re l (a++[ancOf a o]) (by rw[qau,←qbW,c];rfl) λi k h=>?_;rw[List.getD_eq_getElem?_getD,qde]at h;split at h
  ·exact b i k (by rw[List.getD_eq_getElem?_getD];exact h)
  next d=>
   by_cases e:i=a.length
   ·subst e;simp at h;exact ancOf_ok b f h
   ·rw[qak (by simp;omega)]at h;simp at h
def fF:Tu->Nat->Bool
 | [],_=>true
 |o :: l,i=>(o.after.toList.all λe=>!Region.binds .any e||Nat.blt e.on i)&&fF l (i+1)
def rq(N:Tb)(pts:Tx)(ops:Tl)(b:Oper)(m:Nat):Tu->Nat->Bool
 | [],_=>true
 |a :: l,k=>(Nat.testBit m k||yF N pts ops a b)&&rq N pts ops b m l (k+1)
def su(N:Tb)(pts:Tx)(ops:Tl)(ms:Tx):Tu->Tu->Nat->Bool
 |_,[],_=>true
 |pre,b :: l,i=>rq N pts ops b (ms.getD i 0) pre 0&&su N pts ops ms (pre++[b]) l (i+1)
def uH(N:Tb)(pts:Tx)(ops:Tl):Bool:=
 fF ops.toList 0&&su N pts ops (ancs ops.toList []) [] ops.toList 0
def fw:∀ {l:Tu} {i:Nat},fF l i=true->∀(j:Nat) o,l[j]?=some o->∀e∈o.after.toList,Region.binds .any e=true->e.on<i+j
 | [],i,_,j,o,h,_,_,_=>by simp at h
 |o :: l,i,h,j,p,a,e,c,b=>by
  simp only[fF,qaa,qac]at h;cases j with
  |zero=>
   simp at a;subst a;have:=h.1 e c;rw[b]at this;simpa[qa5]using this
  |succ j=>
   have:=fw h.2 j p (by simpa using a) e c b;omega
def pW{b:Oper}{m:Nat}:∀ {l:Tu} {k:Nat},rq N pts ops b m l k=true->∀(j:Nat) a,l[j]?=some a->m.testBit (k+j)=true∨yF N pts ops a b=true
 | [],k,_,j,a,h=>by simp at h
 |a :: l,k,h,j,c,d=>by
  simp only[rq,qaa,qaS]at h;cases j with
  |zero=>simp at d;subst d;exact h.1
  |succ j=>
   have:=pW h.2 j c (by simpa using d)
   rwa [show k+1+j=k+(j+1)by omega]at this
def qB{ms:Tx}:∀ {l pre:Tu} {i:Nat},pre.length=i->su N pts ops ms pre l i=true->∀(j:Nat) b,l[j]?=some b->∀(k:Nat) a,k<i+j->(pre++l)[k]?=some a->(ms.getD (i+j) 0).testBit k=true∨yF N pts ops a b=true
 | [],pre,i,_,_,j,b,h,_,_,_,_=>by simp at h
 |b :: l,pre,i,f,h,j,c,e,k,a,g,d=>by
  simp only[su,qaa]at h;cases j with
  |zero=>
   simp at e;subst e;rw[qam (by omega)]at d;have:=pW h.1 k a d;simpa using this
  |succ j=>
   have:=qB (pre:=pre++[b]) (i:=i+1) (by simp[f]) h.2 j c (by simpa using e) k a (by omega) (by simpa using d)
   rwa [show i+1+j=i+(j+1)by omega]at this
def zk(h:uH N pts ops=true){i k:Nat}{a b:Oper}(d:ops[i]?=some b)(c:ops[k]?=some a)(e:k<i):Anc ops k i∨yF N pts ops a b=true:=by
 simp only[uH,qaa]at h;have:=qB (pre:=[]) (i:=0) rfl h.2 i b (by simpa using d) k a (by omega) (by simpa using c);rw[qaR]at this;exact this.imp (λh=>re ops.toList [] rfl (λi k h=>by simp at h) i k h) id
def zj(h:uH N pts ops=true){i:Nat}{o:Oper}(c:ops[i]?=some o){e:Edge}(b:e∈o.after.toList)(a:Region.binds .any e=true):e.on<i:=by
 simp only[uH,qaa]at h;have:=fw h.1 i o (by simpa using c) e b a;omega
def unl(n:Nat)(a:Array Bool):Tx:=(List.range n).filter λi=>!a.getD i true
def pR{a:Array Bool}(g:∀(x:Nat) o,a.getD x true=true->ops[x]?=some o->∀e∈o.after.toList,Region.binds .any e=true->a.getD e.on false=true){k i:Nat}(h:Anc ops k i)
  (p:∀o,ops[i]?=some o->∀e∈o.after.toList,Region.binds .any e=true->a.getD e.on false=true):a.getD k false=true:=by
 induction h with
 |edge m j d r=>rw[←r];exact p _ m _ j d
 |step m j d h t=>
  have c:=p _ m _ j d;refine t λo n e l f=>g _ o ?_ n e l f
  rename_i q
  rw[qaE]at c ⊢;cases s:a[q.on]? with
  |none=>rfl
  |some b=>rw[s]at c;exact c
abbrev _root_.Tt:=Nat->Bool
def gZ{p:Tt}{i:Nat}:∀ {l:Tx},l.Nodup->i∈l.filter p->∃pre post,l.filter p=pre++i :: post/\(l.filter λj=>p j&&j != i)=pre++post/\(∀k∈pre,k∈l.filter p/\k≠i)
 | [],_,h=>by simp at h
 |x :: l,f,h=>by
  rw[qcC]at f;by_cases d:x=i
  ·subst d;have a:p x=true:=(qaM.1 h).2;refine⟨[],l.filter p,by simp[a],?_,by simp⟩;simp only[qaf,qcc,a,bne_self_eq_false,Bool.and_false,qar,if_false];refine qdz λj r=>?_;have:j≠x:=λe=>f.1 (e▸r);simp[this]
  ·have q:i∈l.filter p:=by
    rw[qaM]at h ⊢;exact⟨(qax.1 h.1).resolve_left λe=>d e.symm,h.2⟩
   obtain⟨pre,post,m,n,o⟩:=gZ f.2 q;by_cases a:p x=true
   ·refine⟨x :: pre,post,by simp[qcc,a,m],?_,λk c=>?_⟩
    ·simp only[qcc,a,qdh,qag];rw[qd0 (by simpa using d),n]
    ·rcases qax.1 c with rfl|c
     ·exact⟨by simp[qaM,a],d⟩
     ·obtain⟨b,g⟩:=o k c;rw[qaM]at b ⊢;exact⟨⟨by simp[b.1],b.2⟩,g⟩
   ·refine⟨pre,post,by simp[qcc,a,m],?_,λk c=>?_⟩
    ·simp only[qcc,a,qdS,qar,if_false];exact n
    ·obtain⟨b,g⟩:=o k c;rw[qaM]at b ⊢;exact⟨⟨by simp[b.1],b.2⟩,g⟩
def lW{p:Tt}:∀ {n:Nat} {pre post:Tx} {i:Nat},(List.range n).filter p=pre++i :: post->∀k∈pre,k<i:=by
 intro n pre post i h k b;have a:((List.range n).filter p).Pairwise (· < ·):=qdd _ qbO;rw[h,qcf]at a;exact a.2.2 k b i (by simp)
def go_ok(hN:NeuB N B)(f:uH N pts ops=true):∀(fuel t:Nat) (a:Array Bool),a.size=ops.size->(unl ops.size a).length=fuel->
  (∀(x:Nat) o,a.getD x true=true->ops[x]?=some o->∀e∈o.after.toList,Region.binds .any e=true->a.getD e.on false=true)->
  ∀σ σ':St,bL C B pts ops (unl ops.size a) σ σ'->bL C B pts ops (Region.linearise.go .any ops fuel t a []) σ σ'
 |0,t,a,_,K,_,σ,σ',h=>by
  have:unl ops.size a=[]:=qaY.1 K;rw[this]at h;simpa[Region.linearise.go]using h
 |fuel+1,t,a,W,K,z,σ,σ',h=>by
  simp only[Region.linearise.go];generalize F:((List.range ops.size).filter λi=>!a.getD i true&&((ops[i]?).map (·.after.all λe=>!Region.binds .any e||a.getD e.on false)).getD false)=rs;have m:∀i∈rs,i<ops.size/\a.getD i true=false/\∀o,ops[i]?=some o->∀e∈o.after.toList,Region.binds .any e=true->a.getD e.on false=true:=by
   intro i J;rw[←F,qaM,qae]at J;obtain⟨P,Q⟩:=J;simp only[qaa,qb9]at Q;refine⟨P,Q.1,λo r e v g=>?_⟩;have I:=Q.2;rw[r]at I;simp only[qaJ,qby]at I;rw[qcN]at I;have:=I e (by simpa using v);rw[g]at this;simpa using this
  have V:rs≠[]:=by
   have hu:unl ops.size a≠[]:=by intro e;rw[e]at K;cases K
   obtain⟨M,tl,s⟩:=qdo hu;have S:M∈unl ops.size a:=by rw[s];simp
   have l:=S;rw[unl,qaM,qae]at l;have c:M∈rs:=by
    rw[←F,qaM,qae];refine⟨l.1,?_⟩;simp only[qaa];refine⟨l.2,?_⟩;have r:ops[M]?=some ops[M]:=by simp[l.1]
    rw[r];simp only[qaJ,qby];rw[qcN];intro e v;cases g:Region.binds .any e with
    |false=>simp
    |true=>
     have ad:=zj f r (by simpa using v) g;simp only[qaQ,qdC];by_cases b:a.getD e.on true=true
     ·have L:e.on<a.size:=by omega
      rw[qaE]at b ⊢;rw[qbe L]at b ⊢;exact b
     ·exfalso;have D:e.on∈unl ops.size a:=by
       rw[unl,qaM,qae];exact⟨by omega,by simpa using b⟩
      rw[s]at D;rcases qax.1 D with D|D
      ·omega
      ·have L:(unl ops.size a).Pairwise (· < ·):=qdd _ qbO;rw[s,qbb]at L;have:=L.1 _ D;omega
   intro e;rw[e]at c;cases c
  have d:0<rs.length:=qbd.2 V;have A:rs[t%rs.length]?=some (rs[t%rs.length]'(qck _ d)):=qap (qck _ d);rw[A];simp only;generalize J:rs[t%rs.length]'(qck _ d)=i;have c:i∈rs:=by rw[←J];exact qc8 _
  obtain⟨i1,i2,i3⟩:=m i c;rw[linearise_go_acc,List.reverse_singleton,List.singleton_append];have T:i∈(List.range ops.size).filter λj=>!a.getD j true:=by
   rw[qaM,qae];exact⟨i1,by simp[i2]⟩
  obtain⟨u,post,O,e2,e3⟩:=gZ List.nodup_range T;have E:=lW O;have n:unl ops.size (a.setIfInBounds i true)=u++post:=by
   rw[←e2];unfold unl;refine qdz λj hj=>?_;rw[qaE,qaE,qbn];by_cases q:i=j
   ·subst q;rw[qd0 rfl,qd0 (by omega)];simp
   ·rw[qd1 q];have:(j != i)=true:=by simpa using λe=>q e.symm
    simp[this]
  have U:=qt (C:=C) (B:=B) (pts:=pts) (ops:=ops) (i:=i) (post:=post) u (λk hk σ σ₁ σ' Y Z=>by
   obtain⟨X,m2⟩:=e3 k hk;rw[qaM,qae]at X;have ha:ops[k]?=some ops[k]:=by simp[X.1]
   have g:ops[i]?=some ops[i]:=by simp[i1]
   rcases zk f g ha (E k hk)with w|R
   ·exfalso;have:=pR z w i3;have H:=X.2;rw[qaE]at this H;rw[qbe (by omega)]at this H;simp only[qby]at this H;rw[this]at H;cases H
   ·exact swap_ok hN ha g R Y Z) σ σ'
  obtain⟨σ₁,Y,Z⟩:=U (by rw[←O];exact h);refine⟨σ₁,Y,go_ok hN f fuel _ _ (by simp[W]) ?_ ?_ σ₁ σ' (by rw[n];exact Z)⟩
  ·rw[n];have:(unl ops.size a).length=(u++post).length+1:=by
    show(List.filter _ _).length=_;rw[O];simp;omega
   omega
  ·intro x o hx r e v g;have p:∀y,a.getD y false=true->(a.setIfInBounds i true).getD y false=true:=by
    intro y hy;rw[qaE]at hy ⊢;rw[qbn];split
    next P=>
     subst P;rw[qd0 (by omega)];rfl
    ·exact hy
   by_cases G:x=i
   ·subst G;exact p _ (i3 o r e v g)
   ·refine p _ (z x o ?_ r e v g);rw[qaE,qbn,qd1 (λe=>G e.symm)]at hx;rw[qaE];exact hx
def any_ok(f:NeuB N B)(a:uH N pts ops=true){σ σ':St}(h:bL C B pts ops (List.range ops.size) σ σ'):ep C B pts ops σ σ':=by
 refine .inl λt=>?_;have e:unl ops.size (Array.replicate ops.size false)=List.range ops.size:=by
  unfold unl;rw[qdk];intro i c;rw[qae]at c;rw[qaE,qbS,qd0 c];rfl
 refine go_ok f a ops.size t (Array.replicate ops.size false) (by simp) (by rw[e];simp) (λx o d g=>?_) σ σ' (by rw[e];exact h);have b:x<ops.size:=(qaO.1 g).1;rw[qaE,qbS,qd0 b]at d;cases d
end
end Sx
namespace Sx
section
variable [Val] [Kno] {C:Cfg}
def Lo(v:Value):Prop:=match v with
 | .pointer (some p)=>p.spot=some 0
 |_=>True
def xS{v:Value}(h:plain v=true):Lo v:=by
 cases v<;>try trivial
 rename_i a
 cases a<;>first|trivial|(simp[plain,jg,scalar,iY]at h)
def clearV_lo{a:Tx}{v:Value}(h:Lo v):Lo (je a v):=by
 unfold je
 repeat' split
 all_goals first|exact h|trivial
def LoS(b:Tx)(σ:St):Prop:=∀a∈b,∀v,σ.tmps[a]?=some v->Lo v
def uv(N:Tb)(pts a:Tx)(o:Oper):Bool:=
 (match au N pts o with
 |some .no=>true
 |some (.row _ _)=>true
 |some (.neu _)=>true
 |_=>false) &&
 match o.dst with
 |some d=>!a.contains d||(Nat.beq (pts.getD d 0) (d+2)&&match o.op with
  | .alloc _=>true
  | .box _ _=>true
  |_=>false)
 |none=>true
def neuC(N:Tb)(pts c:Tx):Code->Bool
 | .skip | .label _ | .ret | .exit _=>true
 | .seq a b=>neuC N pts c a&&neuC N pts c b
 | .cond _ a b=>neuC N pts c a&&neuC N pts c b
 | .block _ b=>neuC N pts c b
 | .loop b=>neuC N pts c b
 | .scope b=>neuC N pts c b
 | .region _ ops _=>ops.toList.all (uv N pts c)
 |_=>false
def rdOp(N:Tb)(pts:Tx)(o:Oper):Bool:=match au N pts o with
 |some .no=>true
 |some (.row _ _)=>true
 |some (.neu _)=>true
 |some .hr=>true
 |_=>false
def rdC(N:Tb)(pts:Tx):Code->Bool
 | .skip | .label _ | .ret | .exit _=>true
 | .seq a b=>rdC N pts a&&rdC N pts b
 | .cond _ a b=>rdC N pts a&&rdC N pts b
 | .block _ b=>rdC N pts b
 | .loop b=>rdC N pts b
 | .scope b=>rdC N pts b
 | .region _ ops _=>ops.toList.all (rdOp N pts)
 |_=>false
def gN(l:List ResultVar):Tx:=l.filterMap λr=>match r with
 | .cell a _=>some a
 | .tmp _=>none
def neuF(N:Tb)(C:Cfg)(f:TK)(n:Nat):Bool:=
 match C.P.funcs[f]? with
 |some c=>match c.body with
  |some b=>match Nat.beq (n%2) 0 with
   |true=>neuC N (C.pts f) (gN c.results.toList) b&&(gN c.results.toList).all λa=>Nat.ble (n / 2) a
   |false=>C.opq f||rdC N (C.pts f) b
  |none=>false
 |none=>false
def uw{pts:Tx}{d:Nat}{t:TJ}{v:Value}{e:Eff}(b:pts.getD d 0=d+2)(a:cJ C pts (some d) t v=some e):∃s vs,e = .lnew s vs:=by
 unfold cJ at a;split at a
 ·cases a
 ·simp only at a;split at a
  ·cases a
  ·exact⟨_,_,(qat a).symm⟩
def xX{b:Tx}{σ τ:St}{dst:Tn}{v:Value}(h:LoS b σ)(g:τ.tmps=σ.tmps)(e:(∀d,dst=some d->d∉b)∨Lo v):LoS b (τ.put dst v):=by
 intro a f x c;cases dst with
 |none=>exact h a f x (by rw[←g];exact c)
 |some d=>
  simp only[St.put,qa2,g]at c;split at c
  next i=>
   subst i;split at c
   ·cases c;rcases e with e|e
    ·exact absurd f (e _ rfl)
    ·exact e
   ·cases c
  ·exact h a f x c
def yh{N:Tb}{B:Below}(L:NeuB N B){pts b:Tx}{ops:Tl}(q:ops.toList.all (uv N pts b)=true){i:Nat}{σ σ':St}(n:LoS b σ)(h:ak C B pts ops i σ σ') :
  σ'.heap=σ.heap/\LoS b σ'/\∀H,ak C B pts ops i { σ with heap:=H } { σ' with heap:=H }:=by
 cases l:ops[i]? with
 |none=>
  have:σ'=σ:=by simpa[ak,l]using h
  subst this;exact⟨rfl,n,λH=>by simp[ak,l]⟩
 |some o=>
  have D:uv N pts b o=true:=qac.1 q o (by
   have:=qc1 l;simpa using this)
  unfold uv at D;rw[qaa]at D;obtain⟨j,r⟩:=D;have O:au N pts o≠none:=by intro e;rw[e]at j;cases j
  obtain⟨e,rfl,T,R⟩:=iL L l O h;have F:e.hp=none:=by
   cases M:e.hp with
   |none=>rfl
   |some x=>
    have:=T.2 (by rw[M];simp);rw[this]at j;cases j
  refine⟨by rw[dV,F];rfl,?_,λH=>?_⟩
  ·by_cases g:∀d,o.dst=some d->d∉b
   ·unfold Ef.on;exact xX n rfl (.inl g)
   · -- a local row is laid
    obtain⟨d,g⟩:=Classical.not_forall.1 g;obtain⟨c,g⟩:=Classical.not_imp.1 g;have g:=Classical.not_not.1 g;rw[c]at r;simp only[qcI,g,decide_true,qaQ,qdC,qaa]at r;have G:pts.getD d 0=d+2:=by simpa using r.1
    unfold ak at h;simp only[l]at h;split at h
    ·exact h.elim
    ·rw[h];exact xX n rfl (.inr trivial)
    ·rcases h with⟨K,k,w⟩|⟨v,k,w⟩
     ·have y:∃s I,K = .lnew s I:=by
       have o3:=r.2;obtain⟨dst,S,U,pos,u,guard⟩:=o;simp only at c o3;subst c;cases S<;>first|cases o3|skip
       ·simp only[am]at k;obtain⟨z,_,Q⟩:=qas.1 k;exact uw G Q
       ·exact uw G k
      obtain⟨s,I,rfl⟩:=y;obtain⟨p,f,E⟩:=w;rw[E];simp only[aW]at f;split at f
      ·cases f;exact xX n rfl (.inr rfl)
      ·cases f
     ·rw[w];exact xX n rfl (.inr (xS k.2.2.1))
  ·have P:Sees N pts ops o σ { σ with heap:=H }:=by
    refine⟨λt _=>rfl,?_⟩;cases A:au N pts o with
    |none=>trivial
    |some m=>rw[A]at j;cases m<;>first|trivial|cases j|rfl
   have:=R _ P;have J:e.on o.dst { σ with heap:=H } = { e.on o.dst σ with heap:=H }:=by
    unfold Ef.on;rw[F];cases o.dst<;>rfl
   rw[J]at this;exact this
def vU{N:Tb}{B:Below}(d:NeuB N B){pts b:Tx}{ops:Tl}(a:ops.toList.all (uv N pts b)=true):∀(l:Tx) {σ σ':St},LoS b σ->bL C B pts ops l σ σ'->
  σ'.heap=σ.heap/\LoS b σ'/\∀H,bL C B pts ops l { σ with heap:=H } { σ' with heap:=H }
 | [],σ,σ',c,h=>by
  have:σ'=σ:=h;subst this;exact⟨rfl,c,λH=>rfl⟩
 |i :: l,σ,σ',c,⟨σ₁,n,o⟩=>by
  obtain⟨e,f,g⟩:=yh d a c n;obtain⟨j,k,m⟩:=vU d a l f o;exact⟨j.trans e,k,λH=>⟨_,g H,m H⟩⟩
def qH{b:Tx}{σ σ':St}(j:LoS b σ)(h:fA σ σ'):LoS b σ':=by
 intro a i v c;obtain⟨_,_,l,f⟩:=h;have k:a<σ'.tmps.length:=(qbg.1 c).1;have d:σ.tmps[a]?=some (σ.tmps[a]'(by omega)):=qap _;rcases f a _ _ d c with e|⟨_,g,_⟩
 ·rw[e];exact j a i _ d
 ·exact xS g
def mh{σ σ':St}(h:fA σ σ')(H:Tp):fA { σ with heap:=H } { σ' with heap:=H }:=⟨h.1,rfl,h.2.2.1,h.2.2.2⟩
def xE{N:Tb}{B:Below}(e:NeuB N B){pts b:Tx}{ops:Tl}(a:ops.toList.all (uv N pts b)=true):∀(l:Tx) {σ σ':St},LoS b σ->fi C B pts ops l σ σ'->
  σ'.heap=σ.heap/\LoS b σ'/\∀H,fi C B pts ops l { σ with heap:=H } { σ' with heap:=H }
 | [],σ,σ',d,h=>by
  have:σ'=σ:=h;subst this;exact⟨rfl,d,λH=>rfl⟩
 |i :: l,σ,σ',d,⟨σ₀,σ₁,c,o,p⟩=>by
  obtain⟨f,g,j⟩:=yh e a (qH d c) o;obtain⟨k,m,n⟩:=xE e a l g p;exact⟨k.trans (f.trans c.2.1),m,λH=>⟨_,_,mh c H,j H,n H⟩⟩
def clear_lo{b:Tx}{σ:St}{c:Tx}(d:LoS b σ):LoS b (σ.clear c):=by
 unfold St.clear;split
 ·exact d
 ·intro a f v e;simp only[qan,qah]at e;obtain⟨x,g,rfl⟩:=e;exact clearV_lo (d a f x g)
def clearHp(σ:St)(a:Tx)(H:Tp):St.clear { σ with heap:=H } a = { σ.clear a with heap:=H }:=by
 unfold St.clear;split<;>rfl
def wJ(σ:St)(a:Tx):(σ.clear a).heap=σ.heap:=by
 unfold St.clear;split<;>rfl
def zo{σ:St}{r:ResultVar}{b:Tx}(e:LoS b σ)(d:∀a∈gN [r],a∈b)(H:Tp):fk C { σ with heap:=H } r=fk C σ r:=by
 cases r with
 |tmp t=>rfl
 |cell a t=>
  have f:a∈b:=d a (by simp[gN]);unfold fk;simp only;cases c:σ.tmps[a]? with
  |none=>simp[List.getD_eq_getElem?_getD,c,undef]
  |some v=>
   have:=e a f v c;simp only[List.getD_eq_getElem?_getD,c,qby];cases v<;>try rfl
   rename_i p
   cases p with
   |none=>rfl
   |some p=>
    have g:p.spot=some 0:=this;simp only[g]
def oV{σ:St}{b:Tx}(d:LoS b σ)(H:Tp):∀(l:List ResultVar),(∀a∈gN l,a∈b)->de C { σ with heap:=H } l=de C σ l
 | [],_=>rfl
 |r :: l,c=>by
  have e:=zo (C:=C) (r:=r) d (λa h=>c a (by cases r<;>simp[gN]at h ⊢;exact .inl h)) H;have f:=oV d H l (λa h=>c a (by cases r<;>simp[gN]at h ⊢<;>first|exact h|exact .inr h));simp only[de,e,f]
def new_neu{N:Tb}{pts b:Tx}{o:Oper}(h:dq pts o=true)(f:uv N pts b o=true):False:=by
 have i:au N pts o=some .hw:=by
  obtain⟨dst,j,k,pos,a,guard⟩:=o;cases j<;>simp only[dq,qar]at h<;>first|rfl|skip
  ·cases dst with
   |none=>cases h
   |some d=>
    simp only[au];rw[qd1 (λe=>by
     have h:(!Nat.beq (pts.getD d 0) (d+2))=true:=h;rw[e,show Nat.beq (d+2) (d+2)=true from qbK _]at h;cases h)]
  ·cases dst with
   |none=>cases h
   |some d=>
    simp only[au];rw[qd1 (λe=>by
     have h:(!Nat.beq (pts.getD d 0) (d+2))=true:=h;rw[e,show Nat.beq (d+2) (d+2)=true from qbK _]at h;cases h)]
  next c=>
   simp only[au];split at h
   next g=>rw[g]
   ·cases h
 unfold uv at f;rw[i]at f;cases f
def step_rd{N:Tb}{B:Below}(d:NeuB N B){pts:Tx}{ops:Tl}(b:ops.toList.all (rdOp N pts)=true){i:Nat}{σ σ':St}(h:ak C B pts ops i σ σ'):σ'.heap=σ.heap:=by
 cases c:ops[i]? with
 |none=>
  have:σ'=σ:=by simpa[ak,c]using h
  rw[this]
 |some o=>
  have a:rdOp N pts o=true:=qac.1 b o (by
   have:=qc1 c;simpa using this)
  have j:au N pts o≠none:=by intro e;unfold rdOp at a;rw[e]at a;cases a
  obtain⟨e,rfl,k,_⟩:=iL d c j h;have g:e.hp=none:=by
   cases f:e.hp with
   |none=>rfl
   |some x=>
    have:=k.2 (by rw[f];simp);unfold rdOp at a;rw[this]at a;cases a
  rw[dV,g];rfl
def ops_rd{N:Tb}{B:Below}(b:NeuB N B){pts:Tx}{ops:Tl}(a:ops.toList.all (rdOp N pts)=true):∀(l:Tx) {σ σ':St},bL C B pts ops l σ σ'->σ'.heap=σ.heap
 | [],_,_,h=>by cases h;rfl
 |_ :: l,_,_,⟨_,h1,c⟩=>(ops_rd b a l c).trans (step_rd b a h1)
def opsR_rd{N:Tb}{B:Below}(b:NeuB N B){pts:Tx}{ops:Tl}(a:ops.toList.all (rdOp N pts)=true):∀(l:Tx) {σ σ':St},fi C B pts ops l σ σ'->σ'.heap=σ.heap
 | [],_,_,h=>by cases h;rfl
 |_ :: l,_,_,⟨_,_,h0,h1,c⟩=>(opsR_rd b a l c).trans ((step_rd b a h1).trans h0.2.1)
def new_rd{N:Tb}{pts:Tx}{o:Oper}(h:dq pts o=true)(b:rdOp N pts o=true):False:=by
 have g:au N pts o=some .hw:=by
  obtain⟨dst,i,j,pos,a,guard⟩:=o;cases i<;>simp only[dq,qar]at h<;>first|rfl|skip
  ·cases dst with
   |none=>cases h
   |some d=>
    simp only[au];rw[qd1 (λe=>by
     have h:(!Nat.beq (pts.getD d 0) (d+2))=true:=h;rw[e,show Nat.beq (d+2) (d+2)=true from qbK _]at h;cases h)]
  ·cases dst with
   |none=>cases h
   |some d=>
    simp only[au];rw[qd1 (λe=>by
     have h:(!Nat.beq (pts.getD d 0) (d+2))=true:=h;rw[e,show Nat.beq (d+2) (d+2)=true from qbK _]at h;cases h)]
  next c=>
   simp only[au];split at h
   next f=>rw[f]
   ·cases h
 unfold rdOp at b;rw[g]at b;cases b
def xv{N:Tb}(T:∀f n,N f=some n->neuF N C f n=true)(K:∀f args H r H',Kno.kh f args H r H'->N f=none∨(N f=some (2*args.length+1)/\H'=H)):∀n,(NeuB N (sm C n).toBelow/\∀pts c,rdC N pts c=true->∀σ e σ',(sm C n).ex pts c σ e σ'->σ'.heap=σ.heap)/\
  ∀pts s c,neuC N pts s c=true->∀σ e σ',LoS s σ->(sm C n).ex pts c σ e σ'->σ'.heap=σ.heap/\LoS s σ'/\∀H,(sm C n).ex pts c { σ with heap:=H } e { σ' with heap:=H }
 |0=>⟨⟨⟨λf args H r H' i h=>(by
   rcases h with h|h
   ·exact⟨h.2,λP=>.inl ⟨h.1,rfl⟩⟩
   ·have i:N f=some (2*args.length):=i;rcases K f args H r H' h with e|⟨e,_⟩
    ·rw[e]at i;cases i
    ·rw[e]at i;have:=qat i;omega),λf args H r H' i h=>(by
   rcases h with h|h
   ·exact h.2
   ·have i:N f=some (2*args.length+1):=i;rcases K f args H r H' h with e|⟨_,e⟩
    ·rw[e]at i;cases i
    ·exact e)⟩,λ_ _ _ _ _ _ h=>absurd h id⟩,λ_ _ _ _ _ _ _ _ h=>absurd h id⟩
 |n+1=>by
  obtain⟨⟨z,p⟩,k⟩:=xv T K n;refine⟨⟨⟨λf args H r H' i h=>?_,λf args H r H' i h=>?_⟩,λpts c d σ e σ' h=>?_⟩,λpts s c d σ e σ' w h=>?_⟩
  rotate_left
  ·rcases h with h|⟨R,b,e,σ,Z,Q,c2,c3,c4,c5,c6,c7,c8,c9⟩
   ·rcases h with h|h
    ·exact h.2
    ·have i:N f=some (2*args.length+1):=i;rcases K f args H r H' h with e|⟨_,e⟩
     ·rw[e]at i;cases i
     ·exact e
   ·have G:=T f _ i;have S:=(qb2.1 c3).2;unfold neuF at G;have M:Nat.beq ((2*args.length+1)%2) 0=false:=by
     rw[show(2*args.length+1)%2=1 by omega];rfl
    simp only[Q,c2,M,S,qdC]at G;exact c9.trans (p _ _ G _ _ _ c4)
  ·have h:nR C (sm C n) pts c σ e σ':=h;cases c with
   |skip=>obtain⟨rfl,rfl⟩:=h;rfl
   |label l=>obtain⟨rfl,rfl⟩:=h;rfl
   |ret=>obtain⟨rfl,rfl⟩:=h;rfl
   |exit id=>obtain⟨rfl,rfl⟩:=h;rfl
   |seq a b=>
    simp only[rdC,qaa]at d;obtain⟨e₁,σ₁,j,g⟩:=h;have q:=p _ _ d.1 _ _ _ j;rcases g with⟨rfl,g⟩|⟨g,rfl,rfl⟩
    ·exact(p _ _ d.2 _ _ _ g).trans q
    ·exact q
   |cond x a b=>
    simp only[rdC,qaa]at d;obtain⟨t,j,g⟩:=h;cases t with
    |true=>exact p _ _ d.1 _ _ _ g
    |false=>exact p _ _ d.2 _ _ _ g
   |block id b=>
    obtain⟨e₁,j,rfl⟩:=h;exact p pts b d _ _ _ j
   |scope b=>exact p pts b d _ _ _ h
   |loop b=>
    obtain⟨e₁,σ₁,j,g⟩:=h;have q:=p pts b d _ _ _ j;rw[wJ]at q;rcases g with⟨rfl,g⟩|⟨g,rfl,rfl⟩
    ·exact(p pts (.loop b) d _ _ _ g).trans q
    ·exact q
   |region id u y=>
    obtain⟨rfl,F⟩:=h;cases y with
    |true=>
     obtain⟨σ₀,J,j⟩ : ∃σ₀,fA σ σ₀/\ep C (sm C n).toBelow pts u σ₀ σ':=F;rcases j with j|⟨sl,m,Y,_⟩
     ·exact(ops_rd z d _ (j 0)).trans J.2.1
     ·exfalso;obtain⟨o,W,X⟩:=qci.1 Y;exact new_rd X (qac.1 d o W)
    |false=>
     have F:fi C (sm C n).toBelow pts u (List.range u.size) σ σ':=F;exact opsR_rd z d _ F
   |_=>cases d
  rotate_right
  ·rcases h with h|⟨R,b,e,σ,Z,Q,c2,c3,c4,c5,c6,c7,c8,c9⟩
   ·rcases h with h|h
    ·exact⟨h.2,λP=>.inl (.inl ⟨h.1,rfl⟩)⟩
    ·have i:N f=some (2*args.length):=i;rcases K f args H r H' h with e|⟨e,_⟩
     ·rw[e]at i;cases i
     ·rw[e]at i;have:=qat i;omega
   ·have G:=T f _ i;unfold neuF at G;have U:Nat.beq (2*args.length%2) 0=true:=by
     rw[show 2*args.length%2=0 by omega];rfl
    simp only[Q,c2,U,qaa,qac,show 2*args.length / 2=args.length by omega]at G;have w:LoS (gN R.results.toList) (lV R args H):=by
     intro a ha v O;have V:args.length<=a:=by simpa using G.2 a ha
     simp only[lV]at O;rw[qaw V,qa7]at O;split at O
     ·cases O;trivial
     ·cases O
    obtain⟨d1,d2,d3⟩:=k _ _ _ G.1 _ _ _ w c4;refine⟨c9.trans d1,λP=>.inr ⟨R,b,e,_,Z,Q,c2,c3,d3 P,c5,?_,c7,c8,rfl⟩⟩;rw[oV d2 P _ (λa h=>h)];exact c6
  ·have h:nR C (sm C n) pts c σ e σ':=h;show _/\_/\∀H,nR C (sm C n) pts c { σ with heap:=H } e { σ' with heap:=H };cases c with
   |skip=>obtain⟨rfl,rfl⟩:=h;exact⟨rfl,w,λH=>⟨rfl,rfl⟩⟩
   |label l=>obtain⟨rfl,rfl⟩:=h;exact⟨rfl,w,λH=>⟨rfl,rfl⟩⟩
   |ret=>obtain⟨rfl,rfl⟩:=h;exact⟨rfl,w,λH=>⟨rfl,rfl⟩⟩
   |exit id=>obtain⟨rfl,rfl⟩:=h;exact⟨rfl,w,λH=>⟨rfl,rfl⟩⟩
   |seq a b=>
    simp only[neuC,qaa]at d;obtain⟨e₁,σ₁,j,g⟩:=h;obtain⟨q,A,I⟩:=k _ _ _ d.1 _ _ _ w j;rcases g with⟨rfl,g⟩|⟨g,rfl,rfl⟩
    ·obtain⟨B,D,E⟩:=k _ _ _ d.2 _ _ _ A g;exact⟨B.trans q,D,λH=>⟨_,_,I H,.inl ⟨rfl,E H⟩⟩⟩
    ·exact⟨q,A,λH=>⟨_,_,I H,.inr ⟨g,rfl,rfl⟩⟩⟩
   |cond x a b=>
    simp only[neuC,qaa]at d;obtain⟨t,j,g⟩:=h;cases t with
    |true=>
     obtain⟨B,D,E⟩:=k _ _ _ d.1 _ _ _ w g;exact⟨B,D,λH=>⟨true,j,E H⟩⟩
    |false=>
     obtain⟨B,D,E⟩:=k _ _ _ d.2 _ _ _ w g;exact⟨B,D,λH=>⟨false,j,E H⟩⟩
   |block id b=>
    obtain⟨e₁,j,rfl⟩:=h;obtain⟨B,D,E⟩:=k pts s b d _ _ _ w j;exact⟨B,D,λH=>⟨_,E H,rfl⟩⟩
   |scope b=>exact k pts s b d _ _ _ w h
   |loop b=>
    obtain⟨e₁,σ₁,j,g⟩:=h;obtain⟨q,A,I⟩:=k pts s b d _ _ _ (clear_lo w) j;rw[wJ]at q;rcases g with⟨rfl,g⟩|⟨g,rfl,rfl⟩
    ·obtain⟨B,D,E⟩:=k pts s (.loop b) d _ _ _ A g;exact⟨B.trans q,D,λH=>⟨_,_,by rw[clearHp];exact I H,.inl ⟨rfl,E H⟩⟩⟩
    ·exact⟨q,A,λH=>⟨_,_,by rw[clearHp];exact I H,.inr ⟨g,rfl,rfl⟩⟩⟩
   |region id u y=>
    obtain⟨rfl,F⟩:=h;cases y with
    |true=>
     obtain⟨σ₀,J,j⟩ : ∃σ₀,fA σ σ₀/\ep C (sm C n).toBelow pts u σ₀ σ':=F;have L:=qH w J;rcases j with j|⟨sl,m,Y,_⟩
     case inr=>
      exfalso;obtain⟨o,W,X⟩:=qci.1 Y;exact new_neu X (qac.1 d o W)
     obtain⟨q,A,_⟩:=vU z d _ L (j 0);refine⟨q.trans J.2.1,A,λH=>⟨rfl,⟨_,mh J H,.inl λt=>?_⟩⟩⟩;exact(vU z d _ L (j t)).2.2 H
    |false=>
     have F:fi C (sm C n).toBelow pts u (List.range u.size) σ σ':=F;obtain⟨q,A,I⟩:=xE z d _ w F;exact⟨q,A,λH=>⟨rfl,I H⟩⟩
   |_=>cases d
def dr_ok{N:Tb}(a:∀f n,N f=some n->neuF N C f n=true)(b:∀f args H r H',Kno.kh f args H r H'->N f=none∨(N f=some (2*args.length+1)/\H'=H))(pts:Tx)(ops:Tl)(h:uH N pts ops=true)(n:Nat)(σ σ':St)(c:bL C (sm C n).toBelow pts ops (List.range ops.size) σ σ') :
  ep C (sm C n).toBelow pts ops σ σ':=any_ok (xv a b n).1.1 h c
end
end Sx
end Go.Am
end

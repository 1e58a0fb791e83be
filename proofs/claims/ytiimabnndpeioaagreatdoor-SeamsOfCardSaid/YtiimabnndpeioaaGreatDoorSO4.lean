/-
  PART 4 OF THE PROOF (no conditions).
-/
import Derived.Test.YtiimabnndpeioaaGreatDoorSO3
import Derived.Laws.Entries
import Derived.Laws.StructEq
set_option linter.unusedSectionVars false
set_option linter.unusedSimpArgs false
set_option linter.unusedVariables false
set_option linter.constructorNameAsVariable false
set_option linter.defProp false
noncomputable section
namespace Go.Am
def SL.lf_val{a b:SL}{k:LK}(d:a.is k=true)(e:b.is k=true)(c:a.lf=b.lf):a.val=b.val/\(a.good->b.good):=by
 cases a<;>cases b<;>cases k<;>simp only[SL.lf,Lf.i.injEq,Lf.b.injEq,Lf.v.injEq,reduceCtorEq,SL.is,Bf]at c d e ⊢<;>try (subst c;exact⟨rfl,id⟩)
 subst c;exact⟨by simp only[SL.val];rw[dE d,dE e],id⟩
def bN:∀ {cs:List SL} {ks:TE},aZ cs ks=true->cs.length=ks.length
 | [],[],_=>rfl
 |c :: cs,k :: ks,h=>by
  simp only[aZ,uc]at h;simp[bN h.2]
 | [],_ :: _,h=>by cases h
 |_ :: _,[],h=>by cases h
def gM:∀ {a b:List SL} {ks:TE},aZ a ks=true->aZ b ks=true->a.map SL.lf=b.map SL.lf->a.map SL.val=b.map SL.val/\((∀c∈a,c.good)->∀c∈b,c.good)
 | [],[],[],_,_,_=>⟨rfl,λ_ _ h=>by cases h⟩
 |a :: j,b :: bs,k :: ks,d,e,g=>by
  simp only[aZ,uc]at d e;simp only[AL,Df]at g;obtain⟨h1,l⟩:=SL.lf_val d.1 e.1 g.1;obtain⟨m,n⟩:=gM d.2 e.2 g.2;refine⟨by simp[h1,m],λi c f=>?_⟩;rcases qar.1 f with rfl|f
  ·exact l (i a (by simp))
  ·exact n (λc f=>i c (by simp[f])) c f
 | [],_ :: _,[],_,e,_=>by cases e
 | [],_,_ :: _,d,_,_=>by cases d
 |_ :: _,_,[],d,_,_=>by cases d
 |_ :: _,[],_ :: _,_,e,_=>by cases e
def S0.is_val{a b:S0}{h:SK}(c:a.is h=true)(d:b.is h=true)(g:a.cells.map SL.lf=b.cells.map SL.lf):a.val=b.val/\(a.good->b.good):=by
 cases h with
 |leaf k=>
  cases a with
  |agg _=>cases c
  |leaf a=>
   cases b with
   |agg _=>cases d
   |leaf b=>
    simp only[S0.cells,AL,C7,Df,and_true]at g;obtain⟨e,f⟩:=SL.lf_val c d g;refine⟨e,λj l i=>?_⟩;simp only[S0.cells,qav]at i;subst i;exact f (j a (by simp[S0.cells]))
 |agg m=>
  cases a with
  |leaf _=>cases c
  |agg a=>
   cases b with
   |leaf _=>cases d
   |agg b=>
    obtain⟨e,f⟩:=gM c d g;exact⟨by simp only[S0.val,e],f⟩
def S0.is_len{a:S0}{e:SK}(c:a.is e=true):∃n,a.cells.length=n/\∀b:S0,b.is e=true->b.cells.length=n:=by
 refine⟨_,rfl,λb d=>?_⟩;cases e with
 |leaf k=>
  cases a with
  |agg _=>cases c
  |leaf a=>cases b with
   |agg _=>cases d
   |leaf b=>rfl
 |agg f=>
  cases a with
  |leaf _=>cases c
  |agg a=>cases b with
   |leaf _=>cases d
   |agg b=>exact(bN d).trans (bN c).symm
def dy:∀ {a b:List S0} {sks:TH},cX a sks=true->cX b sks=true->cP a=cP b->au a=au b/\((∀c∈a,c.good)->∀c∈b,c.good)
 | [],[],[],_,_,_=>⟨rfl,λ_ _ h=>by cases h⟩
 |a :: q,b :: bs,k :: ks,d,e,o=>by
  simp only[cX,uc]at d e;obtain⟨n,l,f⟩:=S0.is_len d.1;have f:=f b e.1;simp only[cP]at o;obtain⟨i,j⟩:=qdW o (by simp[l,f]);obtain⟨r,s⟩:=S0.is_val d.1 e.1 i;obtain⟨m,t⟩:=dy d.2 e.2 j;refine⟨by simp only[au,AL,r]at m ⊢;rw[m],λp c g=>?_⟩;rcases qar.1 g with rfl|g
  ·exact s (p a (by simp))
  ·exact t (λc g=>p c (by simp[g])) c g
 | [],_ :: _,[],_,e,_=>by cases e
 | [],_,_ :: _,d,_,_=>by cases d
 |_ :: _,_,[],d,_,_=>by cases d
 |_ :: _,[],_ :: _,_,e,_=>by cases e
section
variable [Val] [Kno] {R HT:Type} {A:Alg R HT} {X:Ctxt} {Sg:Tc} {holds:R->Prop} {abs:HT->Tp}
variable {ev:Env} {σ:St} {h:HT} {o:Oper} {K:KN R HT}
def qM{C:Cfg}{T:Tq}(hA:AlgOk A C Sg T holds abs):∀ {ks:TE} {ls:TB} {K:List SL->TB->R},holds (Iz A ks ls K)->
  ∃cs r,ls=cs.map SL.lf++r/\aZ cs ks=true/\holds (K cs r)
 | [],ls,K,c=>⟨[],ls,rfl,rfl,c⟩
 | .i k :: ks,ls,K,c=>by
  obtain⟨n,r,rfl,a⟩:=hA.unI _ _ c;obtain⟨cs,f,rfl,d,e⟩:=qM hA (ks:=ks) a;exact⟨.i k n :: cs,f,rfl,by simp[aZ,SL.is,dS,d],e⟩
 | .b :: ks,ls,K,c=>by
  obtain⟨n,r,rfl,a⟩:=hA.unB _ _ c;obtain⟨cs,f,rfl,d,e⟩:=qM hA (ks:=ks) a;exact⟨.b n :: cs,f,rfl,by simp[aZ,SL.is,d],e⟩
 | .v :: ks,ls,K,c=>by
  obtain⟨n,r,rfl,a⟩:=hA.unV _ _ c;obtain⟨cs,f,rfl,d,e⟩:=qM hA (ks:=ks) a;exact⟨.v n :: cs,f,rfl,by simp[aZ,SL.is,d],e⟩
def EV{C:Cfg}{T:Tq}(hA:AlgOk A C Sg T holds abs){d:SK}{ls:TB}{K:S0->TB->R}(c:holds (unS A d ls K)) :
  ∃x r,ls=x.cells.map SL.lf++r/\x.is d=true/\holds (K x r):=by
 cases d with
 |leaf k=>
  cases k with
  |i k=>
   obtain⟨n,r,rfl,a⟩:=hA.unI _ _ c;exact⟨.leaf (.i k n),r,rfl,by simp[S0.is,SL.is,dS],a⟩
  |b=>
   obtain⟨n,r,rfl,a⟩:=hA.unB _ _ c;exact⟨.leaf (.b n),r,rfl,rfl,a⟩
  |v=>
   obtain⟨n,r,rfl,a⟩:=hA.unV _ _ c;exact⟨.leaf (.v n),r,rfl,rfl,a⟩
 |agg l=>
  obtain⟨e,r,f,g,j⟩:=qM hA c;exact⟨.agg e,r,f,g,j⟩
def sU{C:Cfg}{T:Tq}(hA:AlgOk A C Sg T holds abs):∀ {sks:TH} {ls:TB} {K:List S0->TB->R},holds (EW A sks ls K)->
  ∃xs r,ls=cP xs++r/\cX xs sks=true/\holds (K xs r)
 | [],ls,K,a=>⟨[],ls,rfl,rfl,a⟩
 |i :: sks,ls,K,a=>by
  have b:holds (unS A i ls λx r=>EW A sks r λxs r=>K (x :: xs) r):=a;obtain⟨x,r,rfl,d,c⟩:=EV hA b;obtain⟨xs,g,rfl,e,f⟩:=sU hA (sks:=sks) c;exact⟨x :: xs,g,by simp[cP],by simp[cX,d,e],f⟩
def yo{C:Cfg}{T:Tq}(hA:AlgOk A C Sg T holds abs):∀ {ks:TE} {ls:Tk} {K:List SL->Tk->R},holds (ucL A ks ls K)->
  ∃cs r,ls=cs.map SL.val++r/\aZ cs ks=true/\(∀c∈cs,c.good)/\holds (K cs r)
 | [],ls,K,d=>⟨[],ls,rfl,rfl,by simp,d⟩
 | .i k :: ks,ls,K,d=>by
  obtain⟨n,r,rfl,a⟩:=hA.ucI _ _ _ d;obtain⟨cs,j,rfl,e,f,g⟩:=yo hA (ks:=ks) a;exact⟨.i k n :: cs,j,rfl,by simp[aZ,SL.is,dS,e],qbz.2 ⟨trivial,f⟩,g⟩
 | .b :: ks,ls,K,d=>by
  obtain⟨n,r,rfl,a⟩:=hA.ucB _ _ d;obtain⟨cs,j,rfl,e,f,g⟩:=yo hA (ks:=ks) a;exact⟨.b n :: cs,j,rfl,by simp[aZ,SL.is,e],qbz.2 ⟨trivial,f⟩,g⟩
 | .v :: ks,ls,K,d=>by
  obtain⟨n,r,rfl,a⟩:=hA.ucV _ _ d;obtain⟨m,l⟩:=hA.chk _ _ a;obtain⟨cs,j,rfl,e,f,g⟩:=yo hA (ks:=ks) l;exact⟨.v n :: cs,j,rfl,by simp[aZ,SL.is,e],qbz.2 ⟨m,f⟩,g⟩
def uR{C:Cfg}{T:Tq}(hA:AlgOk A C Sg T holds abs){f:SK}{ls:Tk}{K:S0->Tk->R}(d:holds (Il A f ls K)) :
  ∃x r,ls=x.cells.map SL.val++r/\x.is f=true/\x.good/\holds (K x r):=by
 cases f with
 |leaf k=>
  cases k with
  |i k=>
   obtain⟨n,r,rfl,a⟩:=hA.ucI _ _ _ d;exact⟨.leaf (.i k n),r,rfl,by simp[S0.is,SL.is,dS],λl c=>by simp only[S0.cells,qav]at c;subst c;trivial,a⟩
  |b=>
   obtain⟨n,r,rfl,a⟩:=hA.ucB _ _ d;exact⟨.leaf (.b n),r,rfl,rfl,λl c=>by simp only[S0.cells,qav]at c;subst c;trivial,a⟩
  |v=>
   obtain⟨n,r,rfl,a⟩:=hA.ucV _ _ d;obtain⟨s,e⟩:=hA.chk _ _ a;exact⟨.leaf (.v n),r,rfl,rfl,λl c=>by simp only[S0.cells,qav]at c;subst c;exact s,e⟩
 |agg t=>
  obtain⟨g,r,j,m,p,q⟩:=yo hA d;exact⟨.agg g,r,j,m,p,q⟩
def OS(a:Bool)(cs:Tk)(v:Value):Prop:=(a=true/\v = .agg ⟨cs⟩)∨(a=false/\cs=[v])
def ql{x:S0}{a:SK}(c:x.is a=true){v:Value}(b:OS (ju a) (x.cells.map SL.val) v):x.val=v:=by
 cases a with
 |leaf k=>
  cases x with
  |agg _=>cases c
  |leaf l=>
   rcases b with⟨h,_⟩|⟨_,h⟩
   ·cases h
   ·simp only[S0.cells,AL,C7,Df,and_true]at h;exact h
 |agg e=>
  cases x with
  |leaf _=>cases c
  |agg d=>
   rcases b with⟨_,h⟩|⟨h,_⟩
   ·exact h.symm
   ·cases h
def Jz{a b:Bool}(h:Jy a b=true):a=b:=by cases a<;>cases b<;>first|rfl|cases h
def oh{a:Bool}{cs:List SL}{x:S0}(b:CX a cs=some x):x.cells=cs/\OS a (cs.map SL.val) x.val:=by
 unfold CX at b;split at b
 ·cases b;exact⟨rfl,.inl ⟨rfl,rfl⟩⟩
 ·cases b;exact⟨rfl,.inr ⟨rfl,rfl⟩⟩
 ·cases b
def cZ{P:TD}{t:TJ}{c:Bool}(a:zZ P t=some c){vs cs:Tk}{off:Nat}(b:cut vs off (if c then P.cellsOf t else 1)=some cs) :
  ∃v,du P t vs off=some v/\OS c cs v:=by
 unfold zZ at a;unfold du;split at a
 next i e=>
  cases a;rw[e];simp only[if_true]at b;exact⟨.agg ⟨cs⟩,by simp[b],.inl ⟨rfl,rfl⟩⟩
 next i e=>
  cases a;rw[e];simp only[if_true]at b;exact⟨.agg ⟨cs⟩,by simp[b],.inl ⟨rfl,rfl⟩⟩
 next d k l e=>
  cases a;rw[e];simp only[Bf,if_false]at b;unfold cut at b;split at b
  next j=>
   cases b;have f:off<vs.length:=by omega
   have g:(vs.drop off).take 1=[vs[off]]:=by
    rw[MO f];rfl
   refine⟨vs[off],?_,.inr ⟨rfl,g⟩⟩;simp[f]
  ·cases b
 ·cases a
def lF(hA:AlgOk A X.C Sg X.T holds abs){dst:Tn}{d:SK}{cs:Tk}{v:Value}(j:OS (ju d) cs v)(g:holds (Di A dst d cs ev h K)) :
  ∃x:S0,x.val=v/\x.good/\holds (oo dst (.st x) ev h K):=by
 obtain⟨x,r,c,e,f,a⟩:=uR hA g;obtain⟨i,b⟩:=hA.uc0 _ _ a;rw[i,Ci]at c;subst c;exact⟨x,ql e j,f,b⟩
def ny{cs ds:List SL}{off n:Nat}(a:Bu cs off n=some ds):cut (cs.map SL.val) off n=some (ds.map SL.val)/\(∀d∈ds,d∈cs):=by
 unfold Bu at a;unfold cut;split at a
 next b=>
  cases a;rw[mc (by simpa using b)];exact⟨by simp[UL,Rx],λd c=>LA (Iv c)⟩
 ·cases a
def kg(d:Rp ev σ){s:Nat}{cs:List SL}(a:sG ev s=some cs):σ.loc[s]?=some (some (cs.map SL.val))/\(∀c∈cs,c.good)/\ev.lc[s]?=some (.row cs):=by
 unfold sG at a;split at a
 next f e=>
  cases a;rw[List.getD_eq_getElem?_getD]at e;cases b:ev.lc[s]? with
  |none=>rw[b]at e;cases e
  |some r=>
   rw[b]at e;simp only[HV]at e;subst e;have:=d.row s _ b;exact⟨this.1,this.2,rfl⟩
 ·cases a
def xN{cs:List SL}{a:Nat}{ix:List (Int×Nat)}{n:Nat}{ls:TB}(b:iW (cs.map SL.lf) a ix n=some ls) :
  ∃ds,Bu cs (AH a ix) n=some ds/\ls=ds.map SL.lf:=by
 rw[Li]at b;split at b
 next c=>
  cases b;refine⟨_,by unfold Bu;rw[mc (by simpa using c)],by simp[UL,Rx]⟩
 ·cases b
def FV:∀(ix:List (Int×Nat)) (a:Nat),a<=AH a ix
 | [],a=>zY _
 |p :: l,a=>EL (qdR _ _) (FV l _)
def mq{cs ds:List SL}{ks:TE}:∀ {ix:List (Int×Nat)} {a:Nat},tj cs ks a ix=true->Bu cs (AH a ix) ks.length=some ds->aZ ds ks=true
 | [],a,h1,b=>by
  simp only[tj,AH]at h1 b;rw[b]at h1;exact h1
 |p :: l,a,h1,b=>by
  simp only[tj,uc,qab,Ry,AH]at h1 b;obtain⟨h0,h1⟩:=h1;refine mq (ix:=l) (h1 p.1.toNat ?_) b;have d:p.2≠0:=λe=>by rw[e]at h0;cases h0
  have c:AH (a+p.1.toNat*p.2) l<=cs.length:=by
   unfold Bu at b;split at b
   ·omega
   ·cases b
  have:=FV l (a+p.1.toNat*p.2);have f:p.1.toNat<=p.1.toNat*p.2:=Nat.le_mul_of_pos_right _ (Nat.pos_of_ne_zero d);simp only[qad];omega
def Oy{x:S0}{b:SK}(a:x.is b=true):aZ x.cells (Dj b)=true:=by
 cases b with
 |leaf k=>
  cases x with
  |agg _=>cases a
  |leaf l=>simp[S0.cells,Dj,aZ];exact a
 |agg d=>
  cases x with
  |leaf _=>cases a
  |agg c=>exact a
def Gk(hA:AlgOk A X.C Sg X.T holds abs){dst:Tn}{e:SK}{ds:List SL}{v:Value}(l:aZ ds (Dj e)=true)(hg:∀c∈ds,c.good)(i:OS (ju e) (ds.map SL.val) v)
  (m:holds (LQ A dst e (ds.map SL.lf) ev h K)):∃x:S0,x.val=v/\x.good/\holds (oo dst (.st x) ev h K):=by
 obtain⟨x,r,f,g,a⟩:=EV hA m;obtain⟨d,b⟩:=hA.un0 _ _ a;rw[d,Ci]at f;obtain⟨j,k⟩:=gM l (Oy g) f;rw[j]at i;exact⟨x,ql g i,k hg,b⟩
def ZO(c:SL):c.is c.lk=true:=by cases c<;>first|rfl|exact dS _
def mr:∀cs:List SL,aZ cs (cs.map SL.lk)=true
 | []=>rfl
 |c :: cs=>by simp[aZ,ZO,mr cs]
def gL:∀ {a b:List SL} {c kb:TE},aZ a c=true->aZ b kb=true->aZ (a++b) (c++kb)=true
 | [],b,[],kb,_,h=>h
 |a :: d,b,k :: c,kb,h1,e=>by
  simp only[aZ,uc,Aw]at h1 ⊢;exact⟨h1.1,gL h1.2 e⟩
 | [],_,_ :: _,_,h,_=>by cases h
 |_ :: _,_,[],_,h,_=>by cases h
end
section
variable [Val] [Kno] {R HT:Type} {A:Alg R HT} {X:Ctxt} {Sg:Tc} {holds:R->Prop} {abs:HT->Tp}
variable {ev:Env} {σ:St} {h:HT} {o:Oper} {K:KN R HT}
def tt(H:Tp)(id:Nat):gQ (λi=>H[i]?) id=ff H id:=rfl
def TN{n:Nat}{p:Value}{g:cL}{cs:Tk}(h:ZR n p g=some cs):∃id off vs,p = .pointer (some ⟨id,off,none⟩)/\gQ g id=some vs/\cut vs off n=some cs:=by
 unfold ZR at h;split at h
 next a=>
  split at h
  next c=>
   obtain⟨vs,d,e⟩:=qay.1 h;obtain⟨b,f,i⟩:=a;simp only at c;subst c;exact⟨b,f,vs,rfl,d,e⟩
  ·cases h
 ·cases h
def TS{C:Cfg}{n:Nat}{p:Value}{g:cL}{cs:Tk}(h:Vk C n p g=some cs):(∃id off vs,p = .pointer (some ⟨id,off,none⟩)/\gQ g id=some vs/\cut vs off n=some cs)∨∃id off vs,p = .pointer (some ⟨id,off,some 1⟩)/\C.G id=some vs/\cut vs off n=some cs:=by
 unfold Vk at h;split at h
 next a=>
  split at h
  next c=>
   obtain⟨vs,d,e⟩:=qay.1 h;obtain⟨b,f,j⟩:=a;simp only at c;subst c;exact .inl ⟨b,f,vs,rfl,d,e⟩
  next k c=>
   split at h
   next i=>
    obtain⟨vs,d,e⟩:=qay.1 h;obtain⟨b,f,j⟩:=a;simp only at c;subst c;rw[AE i];exact .inr ⟨b,f,vs,rfl,d,e⟩
   ·cases h
 ·cases h
def OI(hA:AlgOk A X.C Sg X.T holds abs)(k:Rp ev σ)(J:abs h=σ.heap){t:TJ}{a:TG}{sk:SK}{F:Bool}(ho:o.op = .load t a)(m:zZ X.C.P t=some F)
  (w:F=ju sk) (d:holds (Kr A X o.dst sk F (if F then X.C.P.cellsOf t else 1) a ev h K)):Aq X holds abs o σ K:=by
 have e:ao X.C X.pts (ke σ.tmps) o=dU X.C X.pts t a (ke σ.tmps a):=by simp only[ao,ho]
 unfold Kr at d;split at d
 next p b E=>
  obtain⟨y,_⟩:=k.sval E (by simp);obtain⟨Q,h2,u⟩:=hA.peek _ _ _ d;simp only[Pk.run]at h2;rw[J]at h2;rcases TS h2 with⟨id,off,vs,rfl,h3,h4⟩|⟨id,off,vs,rfl,h3,h4⟩
  ·rw[tt]at h3;obtain⟨v,r,i⟩:=cZ m h4;rw[w]at i;obtain⟨x,rfl,D,n⟩:=lF hA i u;refine jB k J (s:=.st x) D (f:=λH=>(ff H id).bind λvs=>du X.C.P t vs off) ?_ ?_ n
   ·rw[e,dU,b,y];rfl
   ·simp only[h3,AP,r];rfl
  ·obtain⟨v,r,i⟩:=cZ m h4;rw[w]at i;obtain⟨x,rfl,D,n⟩:=lF hA i u;refine jB k J (s:=.st x) D (f:=λ_=>(X.C.G id).bind λvs=>du X.C.P t vs off) ?_ ?_ n
   ·rw[e,dU,b,y];rfl
   ·simp only[h3,AP,r];rfl
 next g off b E=>
  obtain⟨y,_⟩:=k.sval E (by simp);split at d
  next vs W=>
   split at d
   next Q q=>
    obtain⟨v,r,i⟩:=cZ m q;have j:ao X.C X.pts (ke σ.tmps) o=some (.val v):=by
     rw[e,dU,b,y];simp only[SV.val,fZ,if_true,AP,W,r,BB]
    split at d
    next x an hm=>
     obtain⟨S,M⟩:=oh hm;have ag:(Q.map D2).map SL.val=Q:=by
      rw[D9];have:(SL.val ∘ D2)=id:=funext sN;rw[this,qd4]
     rw[ag]at M;have hv:x.val=v:=by
      rcases M with⟨N,O⟩|⟨N,O⟩<;>rcases i with⟨z,I⟩|⟨z,I⟩
      ·rw[O,I]
      ·rw[N]at z;cases z
      ·rw[N]at z;cases z
      ·rw[O]at I;simpa using I
     subst hv;refine aC k J (s:=.st x) (λl Y=>?_) j d;rw[S]at Y;obtain⟨c,af,rfl⟩:=qaz.1 Y;exact oW (qab.1 an c af)
    ·rw[w]at i;obtain⟨x,rfl,D,d⟩:=lF hA i d;exact aC k J (s:=.st x) D j d
   ·exact absurd d hA.fail
  ·exact absurd d hA.fail
 next g B ix b E=>
  obtain⟨y,_⟩:=k.sval E (by simp);split at d
  next vs W=>
   obtain⟨Q,q,d⟩:=hA.opt _ _ d;obtain⟨v,r,i⟩:=cZ m (vs:=vs) (off:=AH B ix) ((Lj _ _ _ _).symm.trans q);have j:ao X.C X.pts (ke σ.tmps) o=some (.val v):=by
    rw[e,dU,b,y];simp only[SV.val,fZ,if_true,AP,W,r,BB]
   rw[w]at i;obtain⟨x,rfl,D,d⟩:=lF hA i d;exact aC k J (s:=.st x) D j d
  ·exact absurd d hA.fail
 next p b E=>
  obtain⟨y,_⟩:=k.sval E (by simp);obtain⟨Q,q,u⟩:=hA.opt _ _ d;unfold ZQ at q;split at q
  next ad=>
   split at q
   next ap=>
    obtain⟨vs,W,q⟩:=qay.1 q;obtain⟨v,r,i⟩:=cZ m q;have j:ao X.C X.pts (ke σ.tmps) o=some (.val v):=by
     rw[e,dU,b,y];simp only[SV.val,S0.val,SL.val,fZ,ap,if_true,AP,W,r,BB]
    rw[w]at i;obtain⟨x,rfl,D,n⟩:=lF hA i u;exact aC k J (s:=.st x) D j n
   ·cases q
  ·cases q
 next s s' off b E=>
  obtain⟨y,_⟩:=k.sval E (by simp);split at d
  next x U Z=>
   have U:s=s':=by simpa using U
   subst U;obtain⟨Q,hr,Z⟩:=qay.1 Z;obtain⟨ds,V,Z⟩:=qay.1 Z;obtain⟨r1,r2,_⟩:=kg k hr;obtain⟨c1,c2⟩:=ny V;obtain⟨v,r,i⟩:=cZ m c1;obtain⟨S,M⟩:=oh Z;have hv:x.val=v:=by
    rcases M with⟨N,O⟩|⟨N,O⟩<;>rcases i with⟨z,I⟩|⟨z,I⟩
    ·rw[O,I]
    ·rw[N]at z;cases z
    ·rw[N]at z;cases z
    ·rw[O]at I;simpa using I
   subst hv;refine dz k σ.heap J (s:=.st x) (λl Y=>?_) (.inl ⟨.lget s λvs=>du X.C.P t vs off,?_,(σ,x.val),?_,rfl⟩) d
   ·rw[S]at Y;exact r2 l (c2 l Y)
   ·rw[e,dU,b,y];simp[SV.val,ja]
   ·simp[aX,r1,r]
  ·exact absurd d hA.fail
 next s s' B ix b E=>
  obtain⟨y,_⟩:=k.sval E (by simp);split at d
  next Q U hr=>
   have U:s=s':=by simpa using U
   subst U;split at d
   next L=>
    simp only[uc]at L;obtain⟨L,hn⟩:=L;have hn:=AE hn;obtain⟨ls,hp,u⟩:=hA.opt _ _ d;obtain⟨ds,V,rfl⟩:=xN hp;obtain⟨r1,r2,_⟩:=kg k hr;obtain⟨c1,c2⟩:=ny V;obtain⟨v,r,i⟩:=cZ m c1;rw[w]at i;rw[hn]at V;obtain⟨x,rfl,D,n⟩:=Gk hA (mq L V) (λc q=>r2 c (c2 c q)) i u;refine dz k σ.heap J (s:=.st x) D (.inl ⟨.lget s λvs=>du X.C.P t vs (AH B ix),?_,(σ,x.val),?_,rfl⟩) n
    ·rw[e,dU,b,y];simp[SV.val,ja]
    ·simp[aX,r1,r]
   ·exact absurd d hA.fail
  ·exact absurd d hA.fail
 ·exact absurd d hA.fail
def qI{cs r new:List SL}{off:Nat}(b:iD cs off new=some r):splice (cs.map SL.val) off (new.map SL.val)=some (r.map SL.val)/\r.length=cs.length/\((∀c∈cs,c.good)->(∀c∈new,c.good)->∀c∈r,c.good):=by
 unfold iD at b;unfold splice;split at b
 next d=>
  cases b;rw[mc (by simpa using d)];refine⟨by simp[Rx,UL],by simp;omega,λe f c a=>?_⟩;simp only[qas]at a;rcases a with(a|a)|a
  ·exact e c (Iv a)
  ·exact f c a
  ·exact e c (LA a)
 ·cases b
def wv{P:TD}{t:TJ}{x:S0}(c:x.good)(a:x.cells.length=P.cellsOf t)(d:(P.info? t).isSome=true)(vs:Tk)(off:Nat) :
  eM P t x.val vs off=splice vs off (x.cells.map SL.val):=by
 unfold eM;have b:=S0.cells_val c;rw[mc ⟨by rw[b];simpa using a,d⟩,mc (S0.cells_ok c),b]
def rp(m:Rp ev σ)(z:abs h=σ.heap){s:Nat}{cs:List SL}{f:Tk->Option (Tk)}{vs:Tk}(B:ao X.C X.pts (ke σ.tmps) o=some (.lset s f))(a:σ.loc[s]?=some (some vs))
  (t:f vs=some (cs.map SL.val)) (g:(cs.map SL.val).length=vs.length) (hg:∀c∈cs,c.good) (k:jq X.pts o=some s)
  (D:holds (oo o.dst .un ⟨ev.tm,ev.lc.set s (.row cs)⟩ h K)):Aq X holds abs o σ K:=by
 let σ₁:St:={ σ with loc:=σ.loc.set s (some (cs.map SL.val)) }
 have j:s<σ.loc.length:=(qbh.1 a).1;have q:Rp ⟨ev.tm,ev.lc.set s (.row cs)⟩ σ₁:=by
  refine⟨m.len,m.val,by simp[σ₁,m.llen],λi r d=>?_⟩;simp only[DX]at d;split at d
  next b=>
   subst b;split at d
   ·cases d;exact⟨by simp only[σ₁];rw[CQ j],hg⟩
   ·cases d
  next b=>
   have:=m.row i r d;have u:σ₁.loc[i]?=σ.loc[i]?:=by simp only[σ₁];rw[BL b]
   cases r<;>first|trivial|(simp only[LR.ok]at this ⊢;rw[u];exact this)
 obtain⟨p,w,x⟩:=wg (dst:=o.dst) q (s:=.un) trivial D;refine⟨σ₁.put o.dst undef,p,h,.inl ⟨_,B,(σ₁,undef),by simp[aX,a,t,σ₁],rfl⟩,w,?_,?_,x⟩
 ·rw[z];cases o.dst<;>rfl
 ·have t:=Fr.put (σ:=σ₁) o.dst undef (ux X.pts o).toList (jq X.pts o).toList;have v:Fr o.dst.toList (ux X.pts o).toList (jq X.pts o).toList σ σ₁:=by
   refine⟨rfl,by simp[σ₁],λ_ _ h _ _=>h,λ_ _ _ h _ _=>h,λi y l n=>?_,λi E l n=>?_⟩
   ·rw[k]at n;simp only[Vs,qav]at n;simp only[σ₁];rw[BL (λe=>n e.symm)];exact l
   ·by_cases b:i=s
    ·subst b;rw[a]at l;cases l;exact⟨_,by simp only[σ₁];rw[CQ j],g⟩
    ·exact⟨E,by simp only[σ₁];rw[BL (λe=>b e.symm)];exact l,rfl⟩
  exact v.trans t
def U0{p:Value}{new:Tk}{g:cL}{n:Nat}{d:List Act1}{cs:Tk}(h:ES p new g n=some (d,cs)) :
  ∃id off vs c e,p = .pointer (some ⟨id,off,none⟩)/\g id=some (.cells vs e true)/\splice vs off new=some c/\d=[.set id (.cells c e true)]:=by
 unfold ES at h;split at h
 next a=>
  split at h
  next i=>
   split at h
   next vs e l=>
    obtain⟨c,j,k⟩:=qag.1 h;obtain⟨b,f,m⟩:=a;simp only at i;subst i;cases k;exact⟨b,f,vs,c,e,rfl,l,j,rfl⟩
   ·cases h
  ·cases h
 ·cases h
def Me(hA:AlgOk A X.C Sg X.T holds abs)(m:Rp ev σ)(U:abs h=σ.heap){t:TJ}{a y:TG}{x:S0}(ho:o.op = .store t a y)(hy:sval ev y = .st x)
  (j:holds (ET A X o.dst t a x ev h K)):Aq X holds abs o σ K:=by
 obtain⟨a1,L⟩:=m.sval hy (by simp);have L:x.good:=L;have u:ao X.C X.pts (ke σ.tmps) o=eI X.C X.pts t a (ke σ.tmps a) x.val:=by simp only[ao,ho,a1];rfl
 have I:=S0.not_tuple L;unfold ET at j;split at j
 ·exact absurd j hA.fail
 next hc=>
  simp only[uc]at hc;obtain⟨v,hi⟩:=hc;have v:=AE v;have Y:=wv (P:=X.C.P) (t:=t) L v hi;split at j
  next p d O=>
   obtain⟨N,_⟩:=m.sval O (by simp);obtain⟨a5,i,h',h2,h3,F⟩:=hA.heap _ _ _ j;simp only[Hp.run]at h2;rw[U]at h2 h3;obtain⟨id,c,M,a4,e,rfl,g1,g2,rfl⟩:=U0 h2;refine di (s:=.un) m (H':=σ.heap.set id (.cells a4 e true)) h3 trivial (f:=jl X.C t id c x.val) ?_ ?_ F
   ·rw[u,eI,I,d,N];rfl
   ·simp only[jl,g1,Y,g2,BB];rfl
  next s s' c d O=>
   obtain⟨N,_⟩:=m.sval O (by simp);have l:jq X.pts o=some s:=by simp only[jq,ho,d]
   split at j
   next i J k=>
    have J:s=s':=by simpa using J
    subst J;rw[setK_eq]at j;have g:ao X.C X.pts (ke σ.tmps) o=some (.lset s λM=>eM X.C.P t x.val M c):=by
     rw[u,eI,I,d,N];simp[SV.val,ja]
    have w:ev.lc[s]?=some (ev.lc.getD s .unk)∨ev.lc.getD s .unk = .unk:=by
     rw[List.getD_eq_getElem?_getD];cases ev.lc[s]?<;>simp
    unfold Md at k;split at k
    next ad hl=>
     obtain⟨q1,q2,q3⟩:=qI k;have G:ev.lc[s]?=some (.row ad):=by rcases w with h|h<;>rw[hl]at h<;>first|exact h|cases h
     have W:=m.row s _ G;exact rp m U g W.1 (by rw[Y];exact q1) (by simp[q2]) (q3 W.2 L) l j
    next n hl=>
     split at k
     next hz=>
      cases k;simp only[uc]at hz;have a2:=AE hz.1;have a3:=AE hz.2;have G:ev.lc[s]?=some (.any n):=by rcases w with h|h<;>rw[hl]at h<;>first|exact h|cases h
      obtain⟨M,aE,a0⟩:=m.row s _ G;refine rp m U g aE ?_ (by rw[a0,a3];simp) L l j;rw[Y,a2,splice,mc (by simp;omega)];simp[show M.length<=x.cells.length by omega]
     ·cases k
    ·cases k
   ·exact absurd j hA.fail
  next s s' E ix d O=>
   obtain⟨N,_⟩:=m.sval O (by simp);have l:jq X.pts o=some s:=by simp only[jq,ho,d]
   split at j
   next i J W=>
    have J:s=s':=by simpa using J
    subst J;split at j
    ·exact absurd j hA.fail
    next af=>
     obtain⟨ls,V,F⟩:=hA.opt _ _ j;obtain⟨Z,r,e1,e2,an⟩:=qM hA F;obtain⟨ax,Q⟩:=hA.un0 _ _ an;rw[ax,Ci]at e1;rw[setK_eq]at Q;obtain⟨r1,r2,_⟩:=kg m W;have g:ao X.C X.pts (ke σ.tmps) o=some (.lset s λM=>eM X.C.P t x.val M (AH E ix)):=by
      rw[u,eI,I,d,N];simp[SV.val,ja]
     rw[Pv]at V;split at V
     next H=>
      simp only[AZ]at H
      let c:=AH E ix
      have S:Bu i c x.cells.length=some ((i.drop c).take x.cells.length):=by unfold Bu;rw[mc H]
      have ag:aZ ((i.drop c).take x.cells.length) (x.cells.map SL.lk)=true:=mq af (by rw[AZ];exact S)
      let D:=i.take c++x.cells++i.drop (c+x.cells.length)
      have ay:iD i c x.cells=some D:=by unfold iD;rw[mc H]
      obtain⟨q1,q2,q3⟩:=qI ay;have z:aZ D (i.map SL.lk)=true:=by
       have B:i=i.take c++(i.drop c).take x.cells.length++i.drop (c+x.cells.length):=by
        rw[AN,←Lw,Iu,Iu]
       have ar:∀ {a b:List SL},aZ a (b.map SL.lk)=true->a.map SL.lk=b.map SL.lk:=by
        intro a b q
        induction a generalizing b with
        |nil=>cases b with
         |nil=>rfl
         |cons _ _=>cases q
        |cons a a6 ih=>cases b with
         |nil=>cases q
         |cons b bs=>
          simp only[AL,aZ,uc]at q;simp only[AL,ih q.2];have:a.lk=b.lk:=by
           have h0:=q.1;cases a<;>cases b<;>first|rfl|(simp[SL.is,SL.lk]at h0;done)|(simp only[SL.is,SL.lk]at h0 ⊢;rw[dE h0])
          rw[this]
       have hm:i.map SL.lk=(i.take c).map SL.lk++x.cells.map SL.lk++(i.drop (c+x.cells.length)).map SL.lk:=by
        conv=>lhs;rw[B]
        simp only[Cw];rw[ar ag]
       rw[hm];exact gL (gL (mr _) (mr _)) (mr _)
      have ap:D.map SL.lf=Z.map SL.lf:=by
       rw[←e1];cases V;simp[D,c,Rx,UL]
      obtain⟨v1,v2⟩:=gM z e2 ap;refine rp m U g r1 (by rw[Y,←v1];exact q1) (by rw[←v1];simp[q2]) (v2 (q3 r2 L)) l Q
     ·cases V
   ·exact absurd j hA.fail
  ·exact absurd j hA.fail
end
section
variable {P:TD}
def aT{α β:Type}(s:Sem α)(f:α->Sem β):As P (s >>= f)=(As P s).bind λa=>As P (f a):=by
 show As P (s.bind f)=_
 induction s with
 |pure a=>rfl
 |program k b=>exact b P
 |_=>rfl
def gr{α:Type}(a:α):As P (pure a:Sem α)=some a:=rfl
def lq:As P program=some P:=rfl
def bo{t:TJ}{d:TypeDesc}(h:P.underlying t=some d):As P (underlying t)=some d:=by
 unfold underlying;rw[aT,lq];simp only[AP,h];rfl
def qx{d:Nat}{t:TJ}{k c:TF}{a b:Int}(h:P.underlying t=some (.int c)):As P (Op.equalIn (d+1) t (.int k a) (.int k b))=some (a==b):=by
 simp only[Op.equalIn,aT,bo h,AP,if_true,gr]
def oG{d:Nat}{t:TJ}{a b:Bool}(h:P.underlying t=some .bool):As P (Op.equalIn (d+1) t (.bool a) (.bool b))=some (a==b):=by
 simp only[Op.equalIn,aT,bo h,AP,gr]
def xX{t:TJ}{a:Bool}(h:zZ P t=some a):As P (isAgg t)=some a:=by
 unfold isAgg;unfold zZ at h;split at h
 next b e=>cases h;rw[aT,bo e];rfl
 next b e=>cases h;rw[aT,bo e];rfl
 next d c f e=>
  cases h;rw[aT,bo e];simp only[AP];rfl
 ·cases h
def jY{t:TJ}{d:TypeDesc}(h:P.underlying t=some d):As P (sizeOf t)=some (P.cellsOf t):=by
 unfold sizeOf typeInfo;have a:∃i,P.info? t=some i:=by
  unfold Program.underlying at h;cases a:P.info? t with
  |none=>simp[a]at h
  |some i=>exact⟨i,rfl⟩
 obtain⟨i,a⟩:=a;simp only[aT,lq,AP,a];simp[As,Program.cellsOf,a];rfl
def lm{t:TJ}{c:Bool}(h:zZ P t=some c){cs:Tk}{off:Nat}{ds:Tk}(a:cut cs off (if c then P.cellsOf t else 1)=some ds) :
  ∃v,As P (part t ⟨cs⟩ off)=some v/\OS c ds v:=by
 have f:∃d,P.underlying t=some d:=by
  unfold zZ at h;cases g:P.underlying t with
  |none=>rw[g]at h;cases h
  |some d=>exact⟨d,rfl⟩
 obtain⟨d,f⟩:=f;unfold part;rw[aT,xX h];simp only[AP];unfold cut at a;cases c with
 |true=>
  simp only[if_true]at a ⊢;split at a
  next e=>
   cases a;refine⟨.agg ⟨(cs.drop off).take (P.cellsOf t)⟩,?_,.inl ⟨rfl,rfl⟩⟩;rw[aT,jY f];simp only[AP,gr,BP,Value.agg.injEq];apply qbk.1;rw[qcu];simp[List.extract]
  ·cases a
 |false=>
  simp only[Bf,if_false]at a ⊢;split at a
  next e=>
   cases a;have b:off<cs.length:=by omega
   refine⟨cs[off],?_,.inr ⟨rfl,by rw[MO b];rfl⟩⟩;have:(⟨cs⟩ : Array Value)[off]?=some cs[off]:=by simp[b]
   rw[this];rfl
  ·cases a
def Bw(a b:List SL):Bool:=cj ((a.map SL.lf).zip (b.map SL.lf))
def tK(a b:List (Lf×Lf)):cj (a++b)=(cj a&&cj b):=by simp[cj]
def nM{a b c d:List SL}(h:a.length=b.length):Bw (a++c) (b++d)=(Bw a b&&Bw c d):=by
 unfold Bw;rw[Cw,Cw,List.zip_append (by simpa using h),tK]
def QV(a:Bool)(cs:List SL)(v:Value):Prop:=OS a (cs.map SL.val) v
def EqD(P:TD)(d:Nat)(t:TJ)(ks:TE):Prop:=
 ∃c,zZ P t=some c/\(if c then P.cellsOf t else 1)=ks.length/\∀(a b:List SL) (x y:Value),aZ a ks=true->aZ b ks=true->QV c a x->QV c b y->As P (Op.equalIn d t x y)=some (Bw a b)
def fT{cs:List SL}{d kb:TE}(h:aZ cs (d++kb)=true):∃a b,cs=a++b/\aZ a d=true/\aZ b kb=true:=by
 induction d generalizing cs with
 |nil=>exact⟨[],cs,rfl,rfl,h⟩
 |cons k d g=>
  cases cs with
  |nil=>cases h
  |cons c cs=>
   simp only[Aw,aZ,uc]at h;obtain⟨a,b,rfl,e,f⟩:=g h.2;exact⟨c :: a,b,rfl,by simp[aZ,h.1,e],f⟩
def rj{pre a post:List SL}{n off:Nat}(c:off=pre.length)(b:n=a.length):cut ((pre++a++post).map SL.val) off n=some (a.map SL.val):=by
 subst c;subst b;unfold cut;rw[mc (by simp)]
 congr 1
 rw[Cw,Cw,AN,Vo,qdi];simp
def EJ{α:Type}{c:Prop} [Decidable c](a b:Sem α):As P (if c then a else b)=if c then As P a else As P b:=by split<;>rfl
def oL{d:Nat}{F:TJ->Option (TE)}(B:∀t ks,F t=some ks->EqD P d t ks):∀(l:List Field) (off:Nat) (ks:TE),lO F l off=some ks->
  ∀(c a e b:List SL),c.length=off->e.length=off->aZ a ks=true->aZ b ks=true->
   As P (Op.eqFields d ⟨(c++a).map SL.val⟩ ⟨(e++b).map SL.val⟩ l)=some (Bw a b)
 | [],off,ks,h,c,a,e,b,_,_,m,o=>by
  cases h;cases a with
  |cons _ _=>cases m
  |nil=>cases b with
   |cons _ _=>cases o
   |nil=>rfl
 |f :: l,off,ks,h,c,a,e,b,la,lb,m,o=>by
  simp only[lO]at h;split at h
  next J q C H=>
   have q:¬f.name = "_":=of_decide_eq_false q
   have C:=AE C;obtain⟨K,I,rfl⟩:=qag.1 h;obtain⟨N,A,O,E⟩:=B _ _ H;obtain⟨g,w,rfl,j,n⟩:=fT m;obtain⟨i,z,rfl,k,p⟩:=fT o;have L:=bN j;have M:=bN k;obtain⟨x,r,s⟩:=lm A (cs:=(c++(g++w)).map SL.val) (off:=f.offset) (ds:=g.map SL.val) (by rw[←AN];exact rj (by omega) (by omega));obtain⟨y,u,v⟩:=lm A (cs:=(e++(i++z)).map SL.val) (off:=f.offset) (ds:=i.map SL.val) (by rw[←AN];exact rj (by omega) (by omega));have G:=E g i x y j k s v;have D:=oL B l (off+J.length) K I (c++g) w (e++i) z (by simp;omega) (by simp;omega) n p;rw[AN,AN]at D;simp only[Op.eqFields,ne_eq,q,not_false_eq_true,if_true];rw[aT,r];simp only[AP];rw[aT,u];simp only[AP];rw[aT,G];simp only[AP];rw[nM (by omega)];cases Bw g i with
   |true=>simpa using D
   |false=>rfl
  ·cases h
def fP(d:Nat)(t:TJ)(c:Array Field)(xs ys:Tj)(i:P.underlying t=some (.struct c))(k:P.stoodInHeld t=false) :
  As P (Op.equalIn (d+1) t (.agg xs) (.agg ys))=As P (Op.eqFields d xs ys c.toList):=by
 simp only[Op.equalIn,aT,bo i,AP,lq,k,Bf,if_false];rw[←Array.forIn_toList];generalize c.toList=c;clear i
 induction c with
 |nil=>simp only[List.forIn_nil,Op.eqFields];rfl
 |cons f c j=>
  simp only[qdX,Op.eqFields,aT,EJ];split
  ·cases e:As P (part f.type xs f.offset)with
   |none=>simp
   |some a=>
    cases g:As P (part f.type ys f.offset)with
    |none=>simp[e,g]
    |some b=>
     cases h:As P (Op.equalIn d f.type a b)with
     |none=>simp[e,g,h]
     |some r=>
      cases r
      ·simp[e,g,h,gr]
      ·simpa[e,g,h,gr]using j
  ·simpa[gr]using j
def eC(d n:Nat)(e:TJ)(xs ys:Tj):Tx->Sem Bool
 | []=>pure true
 |i :: is=>do
  let a ←part e xs (i*n)
  let b ←part e ys (i*n)
  let r ←Op.equalIn d e a b
  if (!r)=true then pure false else eC d n e xs ys is
def gE(d:Nat)(t e:TJ)(n:Nat)(xs ys:Tj)(g:P.underlying t=some (.array n e))(f:∃k,P.underlying e=some k) :
  As P (Op.equalIn (d+1) t (.agg xs) (.agg ys))=As P (eC d (P.cellsOf e) e xs ys (List.range n)):=by
 obtain⟨k,f⟩:=f;simp only[Op.equalIn,aT,bo g,AP,jY f];rw[Std.Legacy.Range.forIn_eq_forIn_range'];simp only[Std.Legacy.Range.size,Nat.sub_zero,qc2,Nat.div_one];rw[UF];generalize List.range' 0 n=is;clear g
 induction is with
 |nil=>simp only[List.forIn_nil,eC];rfl
 |cons i is h=>
  simp only[qdX,eC,aT,EJ];cases j:As P (part e xs (i*P.cellsOf e))with
  |none=>simp
  |some a=>
   cases l:As P (part e ys (i*P.cellsOf e))with
   |none=>simp
   |some b=>
    cases c:As P (Op.equalIn d e a b)with
    |none=>simp[c]
    |some r=>
     cases r
     ·simp[c,gr]
     ·simpa[c,gr]using h
def qz{d:Nat}{e:TJ}{p:TE}(E:EqD P d e p)(l:p.length=P.cellsOf e):∀(n i:Nat) (c a f b:List SL),c.length=i*P.cellsOf e->f.length=i*P.cellsOf e->
  aZ a (List.replicate n p).flatten=true->aZ b (List.replicate n p).flatten=true->
   As P (eC d (P.cellsOf e) e ⟨(c++a).map SL.val⟩ ⟨(f++b).map SL.val⟩ (List.range' i n))=some (Bw a b)
 |0,i,c,a,f,b,_,_,m,o=>by
  cases a with
  |cons _ _=>cases m
  |nil=>cases b with
   |cons _ _=>cases o
   |nil=>rfl
 |n+1,i,c,a,f,b,la,lb,m,o=>by
  rw[qcD,Vt]at m o;obtain⟨C,h1,D,A⟩:=E;obtain⟨g,w,rfl,j,q⟩:=fT m;obtain⟨h,z,rfl,k,r⟩:=fT o;have G:=bN j;have H:=bN k;obtain⟨x,s,t⟩:=lm h1 (cs:=(c++(g++w)).map SL.val) (off:=i*P.cellsOf e) (ds:=g.map SL.val) (by rw[←AN];exact rj la.symm (by omega));obtain⟨y,u,v⟩:=lm h1 (cs:=(f++(h++z)).map SL.val) (off:=i*P.cellsOf e) (ds:=h.map SL.val) (by rw[←AN];exact rj lb.symm (by omega));have F:=A g h x y j k t v;have B:=qz ⟨C,h1,D,A⟩ l n (i+1) (c++g) w (f++h) z (by simp[C3];omega) (by simp[C3];omega) q r;rw[AN,AN]at B;simp only[qdh,eC];rw[aT,s];simp only[AP];rw[aT,u];simp only[AP];rw[aT,F];simp only[AP];rw[nM (by omega)];cases Bw g h with
  |true=>simpa using B
  |false=>rfl
def Fh{k:LK}(g:k≠.v){a b:List SL}(c:aZ a [k]=true)(d:aZ b [k]=true):∃x y,a=[x]/\b=[y]/\x.is k=true/\y.is k=true:=by
 cases a with
 |nil=>cases c
 |cons x e=>cases e with
  |cons _ _=>simp[aZ]at c
  |nil=>cases b with
   |nil=>cases d
   |cons y f=>cases f with
    |cons _ _=>simp[aZ]at d
    |nil=>simp only[aZ,qd5]at c d;exact⟨x,y,rfl,rfl,c,d⟩
def mN:∀(d:Nat) (t:TJ) (ks:TE),flatK P d t=some ks->EqD P d t ks
 |0,t,ks,h=>by cases h
 |d+1,t,ks,h=>by
  simp only[flatK]at h;split at h
  next k e=>
   cases h;refine⟨false,by simp[zZ,e],by simp,λa b x y i j f g=>?_⟩;obtain⟨u,v,rfl,rfl,m,p⟩:=Fh (by simp) i j;rcases f with⟨c,_⟩|⟨_,f⟩
   ·cases c
   rcases g with⟨c,_⟩|⟨_,g⟩
   ·cases c
   simp only[AL,C7,Df,and_true]at f g;subst f;subst g;cases u<;>simp only[SL.is,Bf]at m;cases v<;>simp only[SL.is,Bf]at p;have A:=dE m;have B:=dE p;subst A;subst B;simp only[SL.val];rw[qx e];simp[Bw,cj,SL.lf,gG]
  next e=>
   cases h;refine⟨false,by simp[zZ,e],by simp,λa b x y i j f g=>?_⟩;obtain⟨u,v,rfl,rfl,m,p⟩:=Fh (by simp) i j;rcases f with⟨c,_⟩|⟨_,f⟩
   ·cases c
   rcases g with⟨c,_⟩|⟨_,g⟩
   ·cases c
   simp only[AL,C7,Df,and_true]at f g;subst f;subst g;cases u<;>simp only[SL.is,Bf]at m<;>cases v<;>simp only[SL.is,Bf]at p<;>
   ·simp only[SL.val];rw[oG e];simp[Bw,cj,SL.lf,gG]
  next w e=>
   split at h
   next I F C=>
    split at h
    next l=>
     cases h;have l:=AE l;refine⟨true,by simp[zZ,e],by simp[l],λa b x y i j f g=>?_⟩;rcases f with⟨_,rfl⟩|⟨c,_⟩
     ·rcases g with⟨_,rfl⟩|⟨c,_⟩
      ·rw[fP d t w _ _ e F];exact oL (mN d) w.toList 0 _ C [] a [] b rfl rfl i j
      ·cases c
     ·cases c
    ·cases h
   ·cases h
  next n o e=>
   split at h
   next G E=>
    split at h
    next l=>
     simp only[uc]at l;have r:=AE l.1;have s:=AE l.2;cases h;refine⟨true,by simp[zZ,e],by simp only[if_true];exact s.symm,λa b x y i j f g=>?_⟩;rcases f with⟨_,rfl⟩|⟨c,_⟩
     ·rcases g with⟨_,rfl⟩|⟨c,_⟩
      ·have z:=mN d o G E;have m:∃k,P.underlying o=some k:=by
        obtain⟨H,q,_⟩:=z;unfold zZ at q;cases D:P.underlying o with
        |none=>rw[D]at q;cases q
        |some k=>exact⟨k,rfl⟩
       rw[gE d t o n _ _ e m,UF];exact qz z r n 0 [] a [] b (by simp) (by simp) i j
      ·cases c
     ·cases c
    ·cases h
   ·cases h
  ·cases h
end
section
variable {P:TD}
def Fb{a b:Bool}:Jy a b=(a==b):=by cases a<;>cases b<;>rfl
def vi{a b:Int}:NY a b=(a==b):=by
 rw[Ir,beq_iff_eq];cases a<;>cases b<;>simp only[NY]
 ·rw[Nat.beq_eq];exact⟨λh=>by rw[h],λh=>Dn h⟩
 ·exact⟨λh=>(by cases h),λh=>(by cases h)⟩
 ·exact⟨λh=>(by cases h),λh=>(by cases h)⟩
 ·rw[Nat.beq_eq];exact⟨λh=>by rw[h],λh=>Int.negSucc.inj h⟩
def mI:∀ {ks:TE} {xs ys:Tk} {r:Bool},gH ks xs ys=some r->∃a b:List SL,a.map SL.val=xs/\b.map SL.val=ys/\aZ a ks=true/\aZ b ks=true/\Bw a b=r
 | [],[],[],r,h=>by cases h;exact⟨[],[],rfl,rfl,rfl,rfl,rfl⟩
 | .i k :: ks,.int a x :: xs,.int b y :: ys,r,h=>by
  simp only[gH]at h;split at h
  next o m n e3=>
   obtain⟨c,bs,h1,d,f,g,j⟩:=mI e3;refine⟨.i a x :: c,.i b y :: bs,by simp[SL.val,h1],by simp[SL.val,d],by simp[aZ,SL.is,m,f],by simp[aZ,SL.is,n,g],?_⟩;have l:Bw (.i a x :: c) (.i b y :: bs)=((x==y)&&Bw c bs):=by simp[Bw,cj,gG,SL.lf]
   rw[l,j,←vi];split at h
   next e=>cases h;rw[e];rfl
   next e=>cases h;rw[e];rfl
  ·cases h
 | .b :: ks,.bool x :: xs,.bool y :: ys,r,h=>by
  simp only[gH]at h;split at h
  next o e3=>
   obtain⟨c,bs,h1,d,f,g,j⟩:=mI e3;refine⟨.b x :: c,.b y :: bs,by simp[SL.val,h1],by simp[SL.val,d],by simp[aZ,SL.is,f],by simp[aZ,SL.is,g],?_⟩;have l:Bw (.b x :: c) (.b y :: bs)=((x==y)&&Bw c bs):=by simp[Bw,cj,gG,SL.lf]
   rw[l,j,←Fb];split at h
   next e=>cases h;rw[e];rfl
   next e=>cases h;rw[e];rfl
  ·cases h
def gZ:∀ {ks:TE} {xs ys:Tk} {r:Bool},gH ks xs ys=some r->xs.all scalar=true
 | [],[],[],r,h=>rfl
 | .i k :: ks,.int a x :: xs,.int b y :: ys,r,h=>by
  simp only[gH]at h;split at h
  next c d e e3=>
   simp only[Py,uc];exact⟨rfl,gZ e3⟩
  ·cases h
 | .b :: ks,.bool x :: xs,.bool y :: ys,r,h=>by
  simp only[gH]at h;split at h
  next c e3=>
   simp only[Py,uc];exact⟨rfl,gZ e3⟩
  ·cases h
def Hd:∀ {ks:TE} {xs ys:Tk} {r:Bool},gH ks xs ys=some r->xs.length=ks.length:=by
 intro ks xs ys r h;obtain⟨a,b,c,e,d,f,g⟩:=mI h;rw[←c,AZ];exact bN d
def kN:∀ {ks:TE} {xs:Tk} {r:Bool},gH ks xs xs=some r->r=true
 | [],[],r,h=>by cases h;rfl
 | .i k :: ks,.int a x :: xs,r,h=>by
  simp only[gH]at h;split at h
  next c d e e3=>
   have:NY x x=true:=by rw[vi];simp
   rw[this]at h;simp only[BP]at h;rw[←h];exact kN e3
  ·cases h
 | .b :: ks,.bool x :: xs,r,h=>by
  simp only[gH]at h;split at h
  next c e3=>
   have:Jy x x=true:=by cases x<;>rfl
   rw[this]at h;simp only[BP]at h;rw[←h];exact kN e3
  ·cases h
def sE{α:Type}{g:α->PUnit->Sem (ForInStep PUnit)}:∀(l:List α),(∀x∈l,As P (g x PUnit.unit)=some (.yield PUnit.unit))->As P (forIn l PUnit.unit g)=some PUnit.unit
 | [],_=>rfl
 |x :: l,h=>by
  rw[qdX,aT,h x Ch];exact sE l λy a=>h y (Bo _ a)
def ChkD(P:TD)(d:Nat)(t:TJ)(ks:TE):Prop:=∃a,zZ P t=some a/\(if a then P.cellsOf t else 1)=ks.length/\∀(b:Bool) (m:Nat) (cs:Tk) (v:Value),d<=m->cs.length=ks.length->OS a cs v->As P (Instr.checkKey b m t v)=some ()
def tS{F:TJ->Option (TE)}:∀(d:List Field) (off:Nat) (ks:TE),lO F d off=some ks->∀f∈d,∃e,F f.type=some e/\f.offset+e.length<=off+ks.length
 | [],off,ks,h,f,c=>by cases c
 |m :: d,off,ks,h,f,c=>by
  simp only[lO]at h;split at h
  next e n g i=>
   have g:=AE g;obtain⟨k,j,rfl⟩:=qag.1 h;rcases qar.1 c with rfl|c
   ·exact⟨e,i,by rw[A5];omega⟩
   ·obtain⟨l,a,b⟩:=tS d _ k j f c;exact⟨l,a,by rw[A5];omega⟩
  ·cases h
def Ei:∀(d:Nat) (t:TJ) (ks:TE),flatK P d t=some ks->ChkD P d t ks
 |0,t,ks,h=>by cases h
 |d+1,t,ks,h=>by
  simp only[flatK]at h;split at h
  next k e=>
   cases h;refine⟨false,by simp[zZ,e],by simp,λb m cs v G _ _=>?_⟩;obtain⟨m,rfl⟩ : ∃l,m=l+1:=⟨m - 1,by omega⟩;unfold Instr.checkKey;rw[aT,bo e];rfl
  next e=>
   cases h;refine⟨false,by simp[zZ,e],by simp,λb m cs v G _ _=>?_⟩;obtain⟨m,rfl⟩ : ∃l,m=l+1:=⟨m - 1,by omega⟩;unfold Instr.checkKey;rw[aT,bo e];rfl
  next K e=>
   split at h
   next S R M=>
    split at h
    next c=>
     cases h;have c:=AE c;refine⟨true,by simp[zZ,e],by simp[c],λb m cs v G p I=>?_⟩;obtain⟨m,rfl⟩ : ∃l,m=l+1:=⟨m - 1,by omega⟩;rcases I with⟨_,rfl⟩|⟨y,_⟩
     case inr=>cases y
     unfold Instr.checkKey;rw[aT,bo e];simp only[AP];rw[←Array.forIn_toList];have:=sE (P:=P) (g:=λf _=>if f.name ≠ "_" then(do Instr.checkKey b m f.type (←part f.type ⟨cs⟩ f.offset);pure (ForInStep.yield PUnit.unit))else pure (ForInStep.yield PUnit.unit)) K.toList (λf A=>by
      obtain⟨L,C,Q⟩:=tS K.toList 0 _ M f A;rw[EJ];split
      ·obtain⟨w,o,s,u⟩:=Ei d f.type L C;have z:cut cs f.offset (if w then P.cellsOf f.type else 1)=some ((cs.drop f.offset).take L.length):=by
        unfold cut;rw[s,mc (by omega)]
       obtain⟨x,J,j⟩:=lm o z;rw[aT];rw[J];simp only[AP];rw[aT,u b m _ x (by omega) (by simp;omega) j];rfl
      ·rfl)
     rw[aT,this];rfl
    ·cases h
   ·cases h
  next n a e=>
   split at h
   next r C=>
    split at h
    next c=>
     simp only[uc]at c;have D:=AE c.1;have E:=AE c.2;cases h;refine⟨true,by simp[zZ,e],by simp only[if_true];exact E.symm,λb m cs v G p I=>?_⟩;obtain⟨m,rfl⟩ : ∃l,m=l+1:=⟨m - 1,by omega⟩;rcases I with⟨_,rfl⟩|⟨y,_⟩
     case inr=>cases y
     obtain⟨w,o,s,u⟩:=Ei d a r C;have H:∃k,P.underlying a=some k:=by
      unfold zZ at o;cases N:P.underlying a with
      |none=>rw[N]at o;cases o
      |some k=>exact⟨k,rfl⟩
     obtain⟨O,H⟩:=H;unfold Instr.checkKey;rw[aT,bo e];simp only[AP];rw[Std.Legacy.Range.forIn_eq_forIn_range'];simp only[Std.Legacy.Range.size,Nat.sub_zero,qc2,Nat.div_one];have q:cs.length=n*r.length:=by rw[p,List.length_flatten];simp
     have:=sE (P:=P) (g:=λi _=>(do Instr.checkKey b m a (←part a ⟨cs⟩ (i*(←sizeOf a)));pure (ForInStep.yield PUnit.unit))) (List.range' 0 n) (λi B=>by
      have B:i<n:=by simpa using B
      have F:i*P.cellsOf a+r.length<=cs.length:=by
       rw[q,←D];have:=LB r.length (Nat.succ_le_of_lt B);rw[Nat.succ_mul]at this;exact this
      have z:cut cs (i*P.cellsOf a) (if w then P.cellsOf a else 1)=some ((cs.drop (i*P.cellsOf a)).take r.length):=by
       unfold cut;rw[s,mc F]
      obtain⟨x,J,j⟩:=lm o z;rw[aT,jY H];simp only[AP];rw[aT,J];simp only[AP];rw[aT,u b m _ x (by omega) (by simp;omega) j];rfl)
     rw[aT,this];rfl
    ·cases h
   ·cases h
  ·cases h
def FD{kt:TJ}{k:Value}(h:DH P kt k=true):iV P kt k=true:=by
 unfold DH at h;split at h
 next b=>
  split at h
  next p=>
   split at h
   next g o=>
    split at h
    next r i=>
     have q:=Hd i;have u:=kN i;subst u;obtain⟨s,n,A,t⟩:=mN 10000 kt g o;have l:s=true:=by
      rw[p]at n;exact(AD n).symm
     subst l;obtain⟨a,c,v,w,x,y,z⟩:=mI i;have e:=t a c (.agg b) (.agg b) x y (.inl ⟨rfl,by rw[v]⟩) (.inl ⟨rfl,by rw[w]⟩);rw[z]at e;have f:As P (Op.equal kt (.agg b) (.agg b))=some true:=e;obtain⟨j,m,_,c3⟩:=Ei 10000 kt g o;have d:j=true:=by
      rw[p]at m;exact(AD m).symm
     subst d;unfold iV;rw[c3 true 10000 b.toList (.agg b) (zY _) q (.inl ⟨rfl,rfl⟩),c3 false 10000 b.toList (.agg b) (zY _) q (.inl ⟨rfl,rfl⟩),f];have:fF (.agg b)=true:=gZ i;rw[this];rfl
    ·exact h
   ·exact h
  ·exact h
 ·exact h
def DG(a:Bool)(xs:Tk)(x:Value):Prop:=(a=true/\x = .agg ⟨xs⟩)∨(a=false/\∃b,xs=x :: b)
def MU(P:TD)(d:Nat)(t:TJ)(ks:TE):Prop:=
 ∃a,zZ P t=some a/\(if a then P.cellsOf t else 1)=ks.length/\∀(xs ys:Tk) (x y:Value) (r:Bool),zW ks xs ys=some r->DG a xs x->DG a ys y->As P (Op.equalIn d t x y)=some r
def kI:∀ {a c:TE} {xs ys:Tk} {r:Bool},zW (a++c) xs ys=some r->
  ∃d,zW a (xs.take a.length) (ys.take a.length)=some d/\(d=false->r=false)/\(d=true->zW c (xs.drop a.length) (ys.drop a.length)=some r)
 | [],c,xs,ys,r,h=>by
  refine⟨true,by simp only[zW],(λq=>Bool.noConfusion q),λ_=>?_⟩;simpa using h
 | .i k :: a,c,xs,ys,r,h=>by
  cases xs with
  |nil=>simp[zW]at h
  |cons x xs=>cases ys with
   |nil=>cases x<;>simp[zW]at h
   |cons y ys=>
    cases x<;>first|(simp[zW]at h;done)|skip
    cases y<;>first|(simp[zW]at h;done)|skip
    simp only[Aw,zW]at h;simp only[CT,qcE,qcU,zW];split at h
    next e f=>
     split at h
     next e3=>
      exact kI h
     next e3=>
      cases h;exact⟨false,rfl,λ_=>rfl,λq=>Bool.noConfusion q⟩
    ·cases h
 | .b :: a,c,xs,ys,r,h=>by
  cases xs with
  |nil=>simp[zW]at h
  |cons x xs=>cases ys with
   |nil=>cases x<;>simp[zW]at h
   |cons y ys=>
    cases x<;>first|(simp[zW]at h;done)|skip
    cases y<;>first|(simp[zW]at h;done)|skip
    simp only[Aw,zW]at h;simp only[CT,qcE,qcU,zW];split at h
    next e3=>
     exact kI h
    next e3=>
     cases h;exact⟨false,rfl,λ_=>rfl,λq=>Bool.noConfusion q⟩
 | .v :: a,c,xs,ys,r,h=>by simp[zW]at h
def NG{k:LK}{ks:TE}{xs ys:Tk}{r:Bool}(h:zW (k :: ks) xs ys=some r):∃x b y a,xs=x :: b/\ys=y :: a:=by
 cases xs with
 |nil=>cases k<;>simp[zW]at h
 |cons x xs=>cases ys with
  |nil=>cases k<;>cases x<;>simp[zW]at h
  |cons y ys=>exact⟨x,xs,y,ys,rfl,rfl⟩
def F7{t:TJ}{a:Bool}(h:zZ P t=some a){cs:Tk}{off n:Nat}(b:(if a then P.cellsOf t else 1)=n)(c:a=false->∃x f,(cs.drop off).take n=x :: f) :
  ∃v,As P (part t ⟨cs⟩ off)=some v/\DG a ((cs.drop off).take n) v:=by
 have e:∃d,P.underlying t=some d:=by
  unfold zZ at h;cases j:P.underlying t with
  |none=>rw[j]at h;cases h
  |some d=>exact⟨d,rfl⟩
 obtain⟨d,e⟩:=e;unfold part;rw[aT,xX h];simp only[AP];cases a with
 |true=>
  simp only[if_true]at b ⊢;subst b;refine⟨.agg ⟨(cs.drop off).take (P.cellsOf t)⟩,?_,.inl ⟨rfl,rfl⟩⟩;rw[aT,jY e];simp only[AP,gr,BP,Value.agg.injEq];apply qbk.1;rw[qcu];simp[List.extract]
 |false=>
  obtain⟨x,f,i⟩:=c rfl;simp only[Bf,if_false]at b ⊢;subst b;refine⟨x,?_,.inr ⟨rfl,f,i⟩⟩;have g:(cs.drop off)[0]?=some x:=by
   have:((cs.drop off).take 1)[0]?=some x:=by rw[i];rfl
   rwa [Iw,mc (by omega)]at this
  rw[HY,UM]at g;have:(⟨cs⟩ : Array Value)[off]?=some x:=by simpa using g
  rw[this];rfl
def wF{d:Nat}{t:TJ}{c n:TE}(z:MU P d t c){xs ys:Tk}{off:Nat}{r:Bool}(h:zW (c++n) (xs.drop off) (ys.drop off)=some r)(s:Bool->Sem Bool){o:Bool}
  (C:zW n (xs.drop (off+c.length)) (ys.drop (off+c.length))=some r->As P (s true)=some r) (A:As P (s false)=some false) (B:o=r) :
  (As P (part t ⟨xs⟩ off)).bind (λa=>(As P (part t ⟨ys⟩ off)).bind λb=>(As P (Op.equalIn d t a b)).bind λq=>As P (s q))=some o:=by
 subst B;obtain⟨u,m,g,w⟩:=z;obtain⟨p,l,v,e3⟩:=kI h;have e:u=false->(∃x f,(xs.drop off).take c.length=x :: f)/\∃x f,(ys.drop off).take c.length=x :: f:=by
  intro i;subst i;simp only[Bf,if_false]at g;cases c with
  |nil=>cases g
  |cons k J=>
   obtain⟨x,f,y,j,D,E⟩:=NG l;exact⟨⟨x,f,D⟩,⟨y,j,E⟩⟩
 obtain⟨x,F,G⟩:=F7 m (cs:=xs) (off:=off) g λh=>(e h).1;obtain⟨y,H,I⟩:=F7 m (cs:=ys) (off:=off) g λh=>(e h).2;rw[F];simp only[AP];rw[H];simp only[AP];rw[w _ _ x y p l G I];simp only[AP];cases p with
 |true=>
  refine C ?_;have:=e3 rfl
  rwa [Lw,Lw]at this
 |false=>rw[v rfl];exact A
def lW{d:Nat}{F:TJ->Option (TE)}(g:∀t ks,F t=some ks->MU P d t ks):∀(a:List Field) (off:Nat) (ks:TE),lO F a off=some ks->
  ∀(xs ys:Tk) (r:Bool),zW ks (xs.drop off) (ys.drop off)=some r->As P (Op.eqFields d ⟨xs⟩ ⟨ys⟩ a)=some r
 | [],off,ks,h,xs,ys,r,b=>by
  cases h;simp only[zW,BP]at b;subst b;rfl
 |f :: a,off,ks,h,xs,ys,r,b=>by
  simp only[lO]at h;split at h
  next l c e i=>
   have c:¬f.name = "_":=of_decide_eq_false c
   have e:=AE e;obtain⟨k,j,rfl⟩:=qag.1 h;simp only[Op.eqFields,ne_eq,c,not_false_eq_true,if_true,aT];rw[e];exact wF (g _ _ i) b (λq=>if (!q)=true then pure false else Op.eqFields d ⟨xs⟩ ⟨ys⟩ a) (λh=>by simpa using lW g a _ k j xs ys r h) rfl rfl
  ·cases h
def oJ{d:Nat}{e:TJ}{c:TE}(f:MU P d e c)(a:c.length=P.cellsOf e):∀(n i:Nat) (xs ys:Tk) (r:Bool),
  zW (List.replicate n c).flatten (xs.drop (i*P.cellsOf e)) (ys.drop (i*P.cellsOf e))=some r->As P (eC d (P.cellsOf e) e ⟨xs⟩ ⟨ys⟩ (List.range' i n))=some r
 |0,i,xs,ys,r,b=>by
  simp only[List.replicate_zero,List.flatten_nil,zW,BP]at b;subst b;rfl
 |n+1,i,xs,ys,r,b=>by
  rw[qcD,Vt]at b;simp only[qdh,eC,aT];refine wF f b (λq=>if (!q)=true then pure false else eC d (P.cellsOf e) e ⟨xs⟩ ⟨ys⟩ (List.range' (i+1) n)) (λh=>?_) rfl rfl;have:=oJ f a n (i+1) xs ys r (by rw[C3,H0,←a];rwa [←a]at h);simpa using this
def nR:∀(d:Nat) (t:TJ) (ks:TE),flatK P d t=some ks->MU P d t ks
 |0,t,ks,h=>by cases h
 |d+1,t,ks,h=>by
  simp only[flatK]at h;split at h
  next k e=>
   cases h;refine⟨false,by simp[zZ,e],by simp,λxs ys x y r a c f=>?_⟩;rcases c with⟨h0,_⟩|⟨_,B,rfl⟩
   ·cases h0
   rcases f with⟨h0,_⟩|⟨_,ty,rfl⟩
   ·cases h0
   cases x<;>first|(simp[zW]at a;done)|skip
   cases y<;>first|(simp[zW]at a;done)|skip
   simp only[zW]at a;split at a
   next i j=>
    have i:=dE i;have j:=dE j;subst i;subst j;rw[qx e,←vi];split at a
    next e3=>rw[e3];exact a
    next e3=>rw[e3];exact a
   ·cases a
  next e=>
   cases h;refine⟨false,by simp[zZ,e],by simp,λxs ys x y r a c f=>?_⟩;rcases c with⟨h0,_⟩|⟨_,B,rfl⟩
   ·cases h0
   rcases f with⟨h0,_⟩|⟨_,ty,rfl⟩
   ·cases h0
   cases x<;>first|(simp[zW]at a;done)|skip
   cases y<;>first|(simp[zW]at a;done)|skip
   simp only[zW]at a;rw[oG e,←Fb];split at a
   next e3=>rw[e3];exact a
   next e3=>rw[e3];exact a
  next p e=>
   split at h
   next D w s=>
    split at h
    next b=>
     cases h;have b:=AE b;refine⟨true,by simp[zZ,e],by simp[b],λxs ys x y r a c f=>?_⟩;rcases c with⟨_,rfl⟩|⟨h0,_⟩
     ·rcases f with⟨_,rfl⟩|⟨h0,_⟩
      ·rw[fP d t p _ _ e w];exact lW (nR d) p.toList 0 _ s xs ys r a
      ·cases h0
     ·cases h0
    ·cases h
   ·cases h
  next n g e=>
   split at h
   next A v=>
    split at h
    next b=>
     simp only[uc]at b;have m:=AE b.1;have o:=AE b.2;cases h;refine⟨true,by simp[zZ,e],by simp only[if_true];exact o.symm,λxs ys x y r a c f=>?_⟩;rcases c with⟨_,rfl⟩|⟨h0,_⟩
     ·rcases f with⟨_,rfl⟩|⟨h0,_⟩
      ·have q:=nR d g A v;have z:∃k,P.underlying g=some k:=by
        obtain⟨C,l,_⟩:=q;unfold zZ at l;cases u:P.underlying g with
        |none=>rw[u]at l;cases l
        |some k=>exact⟨k,rfl⟩
       rw[gE d t g n _ _ e z,UF];exact oJ q m n 0 xs ys r (by simpa using a)
      ·cases h0
     ·cases h0
    ·cases h
   ·cases h
  ·cases h
def tP{kt:TJ}{ks:TE}{cs:Tj}(d:∀(xs ys:Tk) (x y:Value) (r:Bool),zW ks xs ys=some r->DG true xs x->DG true ys y->As P (Op.equalIn 10000 kt x y)=some r) :
  ∀(a:Th) (i:Nat) (r:To),iT ks cs.toList a i=some r->∃q,As P (Instr.findAsking kt (.agg cs) (a.map bz) i)=some q/\q.map (·.1)=r
 | [],i,r,h=>by cases h;exact⟨none,rfl,rfl⟩
 |e :: a,i,r,h=>by
  simp only[iT]at h;split at h
  next ds l=>
   have f:∀b,zW ks cs.toList ds.toList=some b->As P (Op.equal kt (.agg cs) (bz e).key)=some b:=by
    intro b c;have:=d cs.toList ds.toList (.agg cs) (.agg ds) b c (.inl ⟨rfl,rfl⟩) (.inl ⟨rfl,rfl⟩);show As P (Op.equalIn 10000 kt (.agg cs) e.key)=some b;rw[l];exact this
   have g:As P (Instr.findAsking kt (.agg cs) ((e :: a).map bz) i)=(As P (Op.equal kt (.agg cs) (bz e).key)).bind λb=>As P (if b then pure (some (i,(bz e).val))else Instr.findAsking kt (.agg cs) (a.map bz) (i+1)):=by
    show As P (Op.equal kt (.agg cs) (bz e).key >>= λb=>if b then pure (some (i,(bz e).val))else Instr.findAsking kt (.agg cs) (a.map bz) (i+1))=_;rw[aT]
   split at h
   next c=>
    cases h;refine⟨some (i,(bz e).val),?_,rfl⟩;rw[g,f true c];rfl
   next c=>
    obtain⟨q,j,k⟩:=tP d a (i+1) r h;refine⟨q,?_,k⟩;rw[g,f false c];simp only[AP,Bf,if_false];exact j
   ·cases h
  ·cases h
def wP(kt:TJ)(k:Value)(b:Th):tO P kt k b=rE P kt k b:=by
 unfold tO;split
 next f=>
  simp only[mK];split
  next s a o=>
   split
   next r h=>
    obtain⟨t,g,w,i⟩:=nR 10000 kt s o;rw[a]at g;cases g;obtain⟨q,j,m⟩:=tP (P:=P) (kt:=kt) i b 0 r h;have c:∃d,P.underlying kt=some d/\∀x,Instr.sameNow d (.agg f) x=none:=by
     unfold zZ at a;split at a
     next v e=>exact⟨_,e,λx=>by simp[Instr.sameNow]⟩
     next n u e=>exact⟨_,e,λx=>by simp[Instr.sameNow]⟩
     ·cases a
     ·cases a
    obtain⟨d,c,p⟩:=c;unfold rE Instr.findKey;rw[aT,bo c];simp only[AP];cases b with
    |nil=>
     cases h;rfl
    |cons e l=>
     have:Instr.findNow d (.agg f) ((e :: l).map bz) 0=none:=by
      simp only[AL];unfold Instr.findNow;rw[p]
     rw[this];simp only;rw[j];simp[m]
   ·rfl
  ·rfl
 ·rfl
end
section
variable [Val] [Kno] {R HT:Type} {A:Alg R HT} {X:Ctxt} {Sg:Tc} {holds:R->Prop} {abs:HT->Tp}
variable {ev:Env} {σ:St} {h:HT} {o:Oper} {K:KN R HT}
def SL.nv:SL->Prop
 | .v _=>False
 |_=>True
def SL.nv_scalar{l:SL}(h:l.nv):scalar l.val=true:=by cases l<;>first|rfl|exact h.elim
def SL.nv_den{l:SL}(h:l.nv):CE l.val=l.val:=by cases l<;>first|rfl|exact h.elim
def sc{x:S0}(h:∀l∈x.cells,l.nv):plain x.val=true/\Cf x.val=x.val:=by
 cases x with
 |leaf l=>
  have a:=h l (by simp[S0.cells]);cases l<;>first|exact⟨rfl,rfl⟩|exact a.elim
 |agg b=>
  refine⟨?_,?_⟩
  ·simp only[S0.val,plain,qab,qaz];rintro _ ⟨l,a,rfl⟩;simp[jb,SL.nv_scalar (h l a)]
  ·simp only[S0.val,Cf,Value.agg.injEq];apply qbk.1;rw[Iq,D9];refine DV λl a=>?_;exact SL.nv_den (h l a)
def qS:∀ {cs:List SL} {ks:TE},aZ cs ks=true->qU ks=true->∀l∈cs,l.nv
 | [],[],_,_,l,hl=>by cases hl
 |c :: cs,k :: ks,h1,a,l,hl=>by
  simp only[aZ,uc]at h1;simp only[qU,Py,uc]at a;rcases qar.1 hl with rfl|hl
  ·cases l<;>first|trivial|(cases k<;>first|(simp at a;done)|(simp[SL.is]at h1;done))
  ·exact qS h1.2 a.2 l hl
 | [],_ :: _,h,_,_,_=>by cases h
 |_ :: _,[],h,_,_,_=>by cases h
def fU{d:BinOp}{t l:TJ}{x y:TG}{a b u:Value}(c:o.op = .binOp d t x y l)(e:ke σ.tmps x=a)(f:ke σ.tmps y=b)(g:plain a=true/\Cf a=a)(i:plain b=true/\Cf b=b)
  (j:plain u=true/\Cf u=u) (hg:∀w,(eqGuard d t x y a b).run X.C.P w = .ok () w) (k:∀w,(binOp d t a b).run X.C.P w = .ok u w):ku X.C σ.tmps o u:=by
 refine⟨by rw[c];rfl,?_,j.1,λw=>?_⟩
 ·rw[c];simp[Op.operands,e,f,g.1,i.1]
 ·simp only[execOp,c,e,f,g.2,i.2,Sem.run_bind,hg w,Result.andThen_ok,k w,Sem.run_pure,j.2]
def nY{d:BinOp}{t:TJ}{x y:TG}{k c:TF}{a b:Int}{P:TD}(w:World):(eqGuard d t x y (.int k a) (.int c b)).run P w = .ok () w:=by
 unfold eqGuard;split<;>rfl
def qb{c:BinOp}{t:TJ}{x y:TG}{a b:Bool}{P:TD}(w:World):(eqGuard c t x y (.bool a) (.bool b)).run P w = .ok () w:=by
 unfold eqGuard;split<;>rfl
def tV{c:BinOp}{t:TJ}{x y:TG}{a b:ByteArray}{P:TD}(w:World):(eqGuard c t x y (.string a) (.string b)).run P w = .ok () w:=by
 unfold eqGuard;split<;>rfl
def Gv(a b:ByteArray):(a.toList==b.toList)=G6 a.data.toList b.data.toList:=by
 rw[Ir,wM,beq_iff_eq,ByteArray.toList_eq,ByteArray.toList_eq]
def pf{x y:Value}{t:Bool}(h:Gu x y=some t):∃a b,x = .string a/\y = .string b/\t=G6 a.data.toList b.data.toList:=by
 unfold Gu at h;split at h
 ·split at h
  ·cases h;exact⟨_,_,rfl,rfl,rfl⟩
  ·cases h
 ·cases h
def NC{P:TD}{c:BinOp}{k:TF}{a b:Int}{t:Bool}(h:pP c a b=some t)(d:FC c=false)(ty:TJ)(w:World):(binOp c ty (.int k a) (.int k b)).run P w = .ok (.bool t) w:=by
 cases c<;>simp only[pP,reduceCtorEq,BP]at h<;>subst h<;>simp[binOp,Op.intCmp]
def az{l:SL}(h:l.good):(S0.leaf l).good:=λm a=>by
 simp only[S0.cells,qav]at a;subst a;exact h
def R8(hA:AlgOk A X.C Sg X.T holds abs)(q:Rp ev σ)(z:abs h=σ.heap){W:BinOp}{t yt:TJ}{x y:TG}{a b:S0}(D:o.op = .binOp W t x y yt)
  (hx:sval0 ev x=some a) (hy:sval0 ev y=some b) (g:holds (R7 A X o.dst W t a b ev h K)):Aq X holds abs o σ K:=by
 obtain⟨j,ga⟩:=q.sval0 hx;obtain⟨p,gb⟩:=q.sval0 hy;unfold R7 at g;split at g
 next k n k' m=>
  simp only[S0.val,SL.val]at j p;have F:∀(k:TF) (n:Int),plain (.int k n)=true/\Cf (.int k n) = .int k n:=λ_ _=>⟨rfl,rfl⟩;split at g
  ·obtain⟨r,S,f⟩:=hA.shf _ _ _ _ _ _ g;exact cz q z (s:=.st (.leaf (.i k r))) (az trivial) (fU D j p (F _ _) (F _ _) (F _ _) (λw=>nY w) (λw=>S _ _ w)) f
  next hs G V=>
   have e:=dE G;subst e;obtain⟨r,S,f⟩:=hA.cmp _ _ _ _ g;exact cz q z (s:=.st (.leaf (.b r))) (az trivial) (fU D j p (F _ _) (F _ _) ⟨rfl,rfl⟩ (λw=>nY w) (λw=>NC S hs _ w)) f
  next hs G V=>
   have e:=dE G;subst e;obtain⟨r,S,f⟩:=hA.ari _ _ _ _ _ g;exact cz q z (s:=.st (.leaf (.i k r))) (az trivial) (fU D j p (F _ _) (F _ _) (F _ _) (λw=>nY w) (λw=>S _ _ w)) f
  ·exact absurd g hA.fail
 next Y Z=>
  split at g
  next ks hf an af=>
   split at g
   next V=>
    simp only[uc]at V;obtain⟨⟨I,J⟩,L⟩:=V;have O:=sc (x:=.agg Y) (qS I L);have Q:=sc (x:=.agg Z) (qS J L);obtain⟨ag,g1,g2,g3⟩:=mN 10000 t ks hf;have N:∀w,(eqGuard W t x y (S0.val (.agg Y)) (S0.val (.agg Z))).run X.C.P w = .ok () w:=λw=>run_eqGuard_agg w W t x y _ _ an;have ad:ag=true:=by
     rw[af]at g1;exact(AD g1).symm
    subst ad;have M:=g3 Y Z _ _ I J (.inl ⟨rfl,rfl⟩) (.inl ⟨rfl,rfl⟩);split at g
    ·have f:=hA.eqs _ _ g;refine cz q z (s:=.st (.leaf (.b _))) (az trivial) (fU D j p O Q ⟨rfl,rfl⟩ N λw=>?_) f;rw[S0.val,S0.val,run_eql_struct,gm M];rfl
    ·have f:=hA.eqs _ _ g;refine cz q z (s:=.st (.leaf (.b _))) (az trivial) (fU D j p O Q ⟨rfl,rfl⟩ N λw=>?_) f;rw[S0.val,S0.val,run_neq_struct,gm M];rfl
    ·exact absurd g hA.fail
   ·exact absurd g hA.fail
  ·exact absurd g hA.fail
 next u v=>
  simp only[S0.val,SL.val]at j p;split at g
  next hu=>
   split at g
   ·obtain⟨U,B,f⟩:=hA.opt _ _ g;obtain⟨c,d,rfl,rfl,rfl⟩:=pf B;refine cz q z (s:=.st (.leaf (.b _))) (az trivial) (fU D j p ⟨rfl,rfl⟩ ⟨rfl,rfl⟩ ⟨rfl,rfl⟩ (λw=>tV w) λw=>?_) f;simp only[binOp,Op.stringOp,Gv];rfl
   ·obtain⟨U,B,f⟩:=hA.opt _ _ g;obtain⟨c,d,rfl,rfl,rfl⟩:=pf B;refine cz q z (s:=.st (.leaf (.b _))) (az trivial) (fU D j p ⟨rfl,rfl⟩ ⟨rfl,rfl⟩ ⟨rfl,rfl⟩ (λw=>tV w) λw=>?_) f;simp only[binOp,Op.stringOp,Gv];rfl
   ·exact absurd g hA.fail
  ·split at g
   ·obtain⟨U,B,f⟩:=hA.opt _ _ g;obtain⟨B,H⟩:=uv ‹X.C.P.underlying t=some _› B;refine aC q z (s:=.st (.leaf (.b U))) (az trivial) ?_ f;simp only[ao,D,j,p,B,H,if_true];rfl
   ·obtain⟨U,B,f⟩:=hA.opt _ _ g;obtain⟨B,H⟩:=uv ‹X.C.P.underlying t=some _› B;refine aC q z (s:=.st (.leaf (.b (!U)))) (az trivial) ?_ f;simp only[ao,D,j,p,B,H,if_true];rfl
   ·exact absurd g hA.fail
  ·exact absurd g hA.fail
 next u v _ _=>
  split at g
  next hb hu=>
   simp only[uc]at hb;have E:∀ {l:SL},l.is .b=true->∃c,l.val = .bool c/\l.lf = .b c:=by
    intro l hl;cases l<;>simp only[SL.is,Bf]at hl<;>exact⟨_,rfl,rfl⟩
   obtain⟨c,c1,c2⟩:=E hb.1;obtain⟨d,d1,d2⟩:=E hb.2;simp only[S0.val]at j p;rw[c1]at j;rw[d1]at p;have hq:∀w,(Op.equal t (.bool c) (.bool d)).run X.C.P w = .ok (c==d) w:=λw=>run_equal_bool w t c d hu;split at g
   ·have f:=hA.eqs _ _ g;rw[c2,d2]at f;refine cz q z (s:=.st (.leaf (.b _))) (az trivial) (fU D j p ⟨rfl,rfl⟩ ⟨rfl,rfl⟩ ⟨rfl,rfl⟩ (λw=>qb w) λw=>?_) f;simp only[binOp,Sem.run_bind,hq w,Result.andThen_ok,Sem.run_pure];simp[SV.val,S0.val,SL.val,cj,gG]
   ·have f:=hA.eqs _ _ g;rw[c2,d2]at f;refine cz q z (s:=.st (.leaf (.b _))) (az trivial) (fU D j p ⟨rfl,rfl⟩ ⟨rfl,rfl⟩ ⟨rfl,rfl⟩ (λw=>qb w) λw=>?_) f;simp only[binOp,Sem.run_bind,hq w,Result.andThen_ok,Sem.run_pure];simp[SV.val,S0.val,SL.val,cj,gG]
   ·exact absurd g hA.fail
  ·exact absurd g hA.fail
 ·exact absurd g hA.fail
def un_ok(hA:AlgOk A X.C Sg X.T holds abs)(d:Rp ev σ)(j:abs h=σ.heap){v:UnOp}{t:TJ}{x:TG}(p:o.op = .unOp v t x)
  (g:holds (match (generalizing:=false) v,sval ev x with
  | .not,.st (.leaf (.b t))=>oo o.dst (.st (.leaf (.b (!t)))) ev h K
  | .not,.st (.leaf (.l t))=>oo o.dst (.st (.leaf (.l (!t)))) ev h K
  | .neg,.st (.leaf (.i k n))=>A.ari .sub k 0 n λn=>oo o.dst (.st (.leaf (.i k n))) ev h K
  |_,_=>A.fail)):Aq X holds abs o σ K:=by
 have c:∀ {a u:Value},ke σ.tmps x=a->(plain a=true/\Cf a=a)->(plain u=true/\Cf u=u)->(∀w,(Op.unary v a).run X.C.P w = .ok u w)->ku X.C σ.tmps o u:=by
  intro a u z B D q;refine⟨by rw[p];rfl,by rw[p];simp[Op.operands,z,B.1],D.1,λw=>?_⟩;simp only[execOp,p,z,B.2,Sem.run_bind,q w,Result.andThen_ok,Sem.run_pure,D.2]
 split at g
 next y e=>
  obtain⟨f,_⟩:=d.sval e (by simp);refine cz d j (s:=.st (.leaf (.b (!y)))) (az trivial) (c f ⟨rfl,rfl⟩ ⟨rfl,rfl⟩ λw=>?_) g;simp[SV.val,S0.val,SL.val,Op.unary]
 next y e=>
  obtain⟨f,_⟩:=d.sval e (by simp);refine cz d j (s:=.st (.leaf (.l (!y)))) (az trivial) (c f ⟨rfl,rfl⟩ ⟨rfl,rfl⟩ λw=>?_) g;simp[SV.val,S0.val,SL.val,Op.unary]
 next k n e=>
  obtain⟨f,_⟩:=d.sval e (by simp);obtain⟨r,q,m⟩:=hA.ari _ _ _ _ _ g;refine cz d j (s:=.st (.leaf (.i k r))) (az trivial) (c f ⟨rfl,rfl⟩ ⟨rfl,rfl⟩ λw=>?_) m;have:=q X.C.P t w;simp[SV.val,S0.val,SL.val,Op.unary,binOp,Op.intArith]at this ⊢;exact this
 ·exact absurd g hA.fail
def NE(hA:AlgOk A X.C Sg X.T holds abs)(g:Rp ev σ)(l:abs h=σ.heap){j f:TJ}{x:TG}(d:o.op = .convert j f x)
  (b:holds (match X.C.P.underlying j,X.C.P.underlying f,sval ev x with
  |some (.int _),some (.int k),.st (.leaf (.i _ n))=>A.conv k n λn=>oo o.dst (.st (.leaf (.i k n))) ev h K
  |_,_,_=>A.fail)):Aq X holds abs o σ K:=by
 split at b
 next r k q n m p e=>
  obtain⟨a,_⟩:=g.sval e (by simp);have c:=hA.conv _ _ _ b
  simp only[SV.val,S0.val,SL.val]at a;refine cz g l (s:=.st (.leaf (.i k _))) (az trivial) ⟨by rw[d];rfl,by rw[d];simp[Op.operands,a];rfl,rfl,λw=>?_⟩ c;simp only[execOp,d,a];simp[Cf,CE,convert,run_underlying m,run_underlying p,Conv.intToInt,SV.val,S0.val,SL.val]
 ·exact absurd b hA.fail
end
namespace Sx
section
variable [Val] [Kno] {R HT:Type} {A:Alg R HT} {X:Ctxt} {Sg:Tc} {holds:R->Prop} {abs:HT->Tp}
variable {ev:Env} {σ:St} {h:HT} {o:Oper} {K:KN R HT}
def ow:∀(ix:List (Int×Nat)) (a:Nat) (p:Int×Nat),AH a (ix++[p])=AH a ix+p.1.toNat*p.2
 | [],_,_=>rfl
 |q :: l,a,p=>ow l (a+q.1.toNat*q.2) p
def jT:∀(ix:List (Int×Nat)) (a n:Nat),AH (a+n) ix=AH a ix+n
 | [],_,_=>rfl
 |q :: l,a,n=>by
  simp only[AH];rw[show a+n+q.1.toNat*q.2=a+q.1.toNat*q.2+n by omega];exact jT l _ n
def vL(hA:AlgOk A X.C Sg X.T holds abs)(b:Rp ev σ)(d:abs h=σ.heap){x:TG}(i:o.op = .nilCheck x)
  (c:holds (match sval ev x with
  | .st (.leaf (.v p))=>A.opt (zN p) λq=>A.chk q (oo o.dst (.st (.leaf (.v q))) ev h K)
  | .lad s off=>oo o.dst (.lad s off) ev h K
  | .gad s off=>oo o.dst (.gad s off) ev h K
  |_=>A.fail)):Aq X holds abs o σ K:=by
 split at c
 next p e=>
  obtain⟨a,_⟩:=b.sval e (by simp);simp only[SV.val,S0.val,SL.val]at a;obtain⟨q,j,f⟩:=hA.opt _ _ c;obtain⟨k,g⟩:=hA.chk _ _ f;refine aC b d (s:=.st (.leaf (.v q))) (az k) ?_ g;simp only[ao,i,a];unfold zN at j;split at j<;>cases j<;>rfl
 next s off e=>
  obtain⟨a,_⟩:=b.sval e (by simp);exact aC b d (s:=.lad s off) trivial (by simp only[ao,i,a,SV.val]) c
 next s off e=>
  obtain⟨a,_⟩:=b.sval e (by simp);exact aC b d (s:=.gad s off) trivial (by simp only[ao,i,a,SV.val]) c
 ·exact absurd c hA.fail
def tN(hA:AlgOk A X.C Sg X.T holds abs)(l:Rp ev σ)(n:abs h=σ.heap){t:TJ}{x:TG}{f:Nat}(E:o.op = .fieldAddr t x f)
  (i:holds (kO A X o.dst t x f ev h K)):Aq X holds abs o σ K:=by
 unfold kO at i;split at i
 next H F=>
  split at i
  next m B=>
   have c:∀ {b d:Nat} {z:To},Nat.beq (X.C.P.cellsOf m.type) 0=false->ke σ.tmps x = .pointer (some ⟨b,d,z⟩)->
     ao X.C X.pts (ke σ.tmps) o=some (.val (.pointer (some ⟨b,d+m.offset,z⟩))):=by
    intro b d z g G;have g:¬X.C.P.cellsOf m.type=0:=λe=>by rw[e]at g;cases g
    simp only[ao,E,G,fK,F,B,po g,BB]
   split at i
   next s d g e=>
    obtain⟨k,_⟩:=l.sval e (by simp);exact aC l n (s:=.lad s (d+m.offset)) trivial (c g k) i
   next s d g e=>
    obtain⟨k,_⟩:=l.sval e (by simp);exact aC l n (s:=.gad s (d+m.offset)) trivial (c g k) i
   next s j y g e=>
    obtain⟨k,_⟩:=l.sval e (by simp);refine aC l n (s:=.ldx s (j+m.offset) y) trivial ?_ i;rw[c g k,SV.val,jT]
   next s j y g e=>
    obtain⟨k,_⟩:=l.sval e (by simp);refine aC l n (s:=.gdx s (j+m.offset) y) trivial ?_ i;rw[c g k,SV.val,jT]
   next p g e=>
    obtain⟨k,_⟩:=l.sval e (by simp);simp only[SV.val,S0.val,SL.val]at k;obtain⟨q,r,u⟩:=hA.opt _ _ i;obtain⟨D,w⟩:=hA.chk _ _ u;refine aC l n (s:=.st (.leaf (.v q))) (az D) ?_ w;unfold Ag at r;split at r
    next a=>
     cases r;exact c g k
    ·cases r
   ·exact absurd i hA.fail
  ·exact absurd i hA.fail
 ·exact absurd i hA.fail
def jA{i:TG}{n:Nat}(h:Ek i=some n):intOf (ke σ.tmps i)=some (n:Int):=by
 unfold Ek at h;split at h
 ·cases h;simp[ke,flat,fF,scalar,Am.intOf]
 ·cases h
def tY{len:Nat}{j:Int}{u:Unit}(h:BM len j=some u):0<=j/\j<(len:Int):=by
 rw[Kb]at h;split at h
 ·assumption
 ·cases h
def S4{esz:Nat}{x q:Value}{i:Int}(h:Ah esz x i=some q) :
  ∃a len cx,x = .slice (some a) len cx/\(0<=i/\i<(len:Int))/\q = .pointer (some ⟨a.block,a.off+i.toNat*esz,if a.spot=some 1 then some 1 else none⟩):=by
 rw[tX]at h;split at h
 next a len cx=>
  split at h
  next b=>cases h;exact⟨a,len,cx,rfl,b,rfl⟩
  ·cases h
 ·cases h
def tZ(hA:AlgOk A X.C Sg X.T holds abs)(y:Rp ev σ)(G:abs h=σ.heap){t:TJ}{x i:TG}(W:o.op = .indexAddr t x i)
  (d:holds (kQ A X o.dst t x i ev h K)):Aq X holds abs o σ K:=by
 unfold kQ at d;split at d
 next E e S=>
  have c:∀ {b w:Nat} {U:To} {j:Int},Nat.beq (X.C.P.cellsOf e) 0=false->ke σ.tmps x = .pointer (some ⟨b,w,U⟩)->intOf (ke σ.tmps i)=some j->0<=j->j<(E:Int)->
    ao X.C X.pts (ke σ.tmps) o=some (.val (.pointer (some ⟨b,w+j.toNat*X.C.P.cellsOf e,U⟩))):=by
   intro b w U j f hx hi Y g;have f:¬X.C.P.cellsOf e=0:=λe=>by rw[e]at f;cases f
   simp only[ao,W,hx,eP,hi,S,po f,mc (And.intro Y g),BB]
  have B:∀ {k:TF} {j:Int},sval ev i = .st (.leaf (.i k j))->intOf (ke σ.tmps i)=some j:=by
   intro k j Q;obtain⟨g,_⟩:=y.sval Q (by simp);rw[g];rfl
  simp only at d;split at d
  next s w n f z L=>
   obtain⟨g,_⟩:=y.sval z (by simp);split at d
   next r=>
    have r:n<E:=by simpa[BH]using r
    refine aC y G (s:=.lad s (w+n*X.C.P.cellsOf e)) trivial ?_ d;rw[c f g (jA L) (by omega) (by omega)];simp[SV.val]
   ·exact absurd d hA.fail
  next s w n f z L=>
   obtain⟨g,_⟩:=y.sval z (by simp);split at d
   next r=>
    have r:n<E:=by simpa[BH]using r
    refine aC y G (s:=.gad s (w+n*X.C.P.cellsOf e)) trivial ?_ d;rw[c f g (jA L) (by omega) (by omega)];simp[SV.val]
   ·exact absurd d hA.fail
  next s l M n f z L=>
   obtain⟨g,_⟩:=y.sval z (by simp);split at d
   next r=>
    have r:n<E:=by simpa[BH]using r
    refine aC y G (s:=.ldx s (l+n*X.C.P.cellsOf e) M) trivial ?_ d;rw[c f g (jA L) (by omega) (by omega)];simp[SV.val,jT]
   ·exact absurd d hA.fail
  next s l M n f z L=>
   obtain⟨g,_⟩:=y.sval z (by simp);split at d
   next r=>
    have r:n<E:=by simpa[BH]using r
    refine aC y G (s:=.gdx s (l+n*X.C.P.cellsOf e) M) trivial ?_ d;rw[c f g (jA L) (by omega) (by omega)];simp[SV.val,jT]
   ·exact absurd d hA.fail
  next s w k j f z F _=>
   obtain⟨g,_⟩:=y.sval z (by simp);obtain⟨u,D,m⟩:=hA.opt _ _ d;obtain⟨I,J⟩:=tY D;exact aC y G (s:=.ldx s w [(j,X.C.P.cellsOf e)]) trivial (by rw[c f g (B F) I J];rfl) m
  next s w k j f z F _=>
   obtain⟨g,_⟩:=y.sval z (by simp);obtain⟨u,D,m⟩:=hA.opt _ _ d;obtain⟨I,J⟩:=tY D;exact aC y G (s:=.gdx s w [(j,X.C.P.cellsOf e)]) trivial (by rw[c f g (B F) I J];rfl) m
  next s l M k j f z F _=>
   obtain⟨g,_⟩:=y.sval z (by simp);obtain⟨u,D,m⟩:=hA.opt _ _ d;obtain⟨I,J⟩:=tY D;exact aC y G (s:=.ldx s l (M++[(j,X.C.P.cellsOf e)])) trivial (by rw[c f g (B F) I J,SV.val,ow]) m
  next s l M k j f z F _=>
   obtain⟨g,_⟩:=y.sval z (by simp);obtain⟨u,D,m⟩:=hA.opt _ _ d;obtain⟨I,J⟩:=tY D;exact aC y G (s:=.gdx s l (M++[(j,X.C.P.cellsOf e)])) trivial (by rw[c f g (B F) I J,SV.val,ow]) m
  next p k j f z F=>
   obtain⟨g,_⟩:=y.sval z (by simp);simp only[SV.val,S0.val,SL.val]at g;obtain⟨q,H,m⟩:=hA.opt _ _ d;obtain⟨Z,O⟩:=hA.chk _ _ m;unfold Ov at H;split at H
   next a=>
    split at H
    next N=>
     cases H;exact aC y G (s:=.st (.leaf (.v _))) (az Z) (c f g (B F) N.1 N.2) O
    ·cases H
   ·cases H
  ·exact absurd d hA.fail
 next e S=>
  simp only at d;split at d
  next p k j f z F=>
   obtain⟨g,_⟩:=y.sval z (by simp);obtain⟨V,_⟩:=y.sval F (by simp);simp only[SV.val,S0.val,SL.val]at g V;obtain⟨q,H,m⟩:=hA.opt _ _ d;have f:¬X.C.P.cellsOf e=0:=λe=>by rw[e]at f;cases f
   obtain⟨a,E,cx,rfl,N,rfl⟩:=S4 H;refine aC y G (s:=.st (.leaf (.v _))) (az ?_) ?_ m
   ·show aB _=true;by_cases Q:a.spot=some 1<;>simp[Q,aB,noLoc,aP,bg,aW,aG,aw]
   ·simp only[ao,W,g,V,eP,Am.intOf,S,po f,mc N,BB];rfl
  ·exact absurd d hA.fail
 ·exact absurd d hA.fail
def xJ{C:Cfg}{t:TJ}{q:Bool}{cs ds:List SL}{off:Nat}{x:S0}(c:zZ C.P t=some q)(f:Bu cs off (if q then C.P.cellsOf t else 1)=some ds)(w:CX q ds=some x) :
  vS C t ⟨cs.map SL.val⟩ off=some x.val/\x.cells=ds:=by
 obtain⟨s,g⟩:=oh w;refine⟨?_,s⟩;unfold Bu at f;unfold zZ at c;unfold vS;split at c
 next r e=>
  cases c;simp only[if_true]at f;split at f
  next l=>
   cases f;rcases g with⟨_,g⟩|⟨j,_⟩
   ·rw[e];simp only[g,BP,Value.agg.injEq];apply qbk.1;rw[qcu];simp[List.extract,Rx,UL]
   ·cases j
  ·cases f
 next n y e=>
  cases c;simp only[if_true]at f;split at f
  next l=>
   cases f;rcases g with⟨_,g⟩|⟨j,_⟩
   ·rw[e];simp only[g,BP,Value.agg.injEq];apply qbk.1;rw[qcu];simp[List.extract,Rx,UL]
   ·cases j
  ·cases f
 next d u v e=>
  cases c;simp only[Bf,if_false]at f;split at f
  next l=>
   cases f;rcases g with⟨j,_⟩|⟨_,g⟩
   ·cases j
   ·rw[e];have m:off<cs.length:=by omega
    rw[MO m]at g;simp only[qcE,Vq,AL,C7,Df,and_true]at g;rw[←g];have p:off<(⟨cs.map SL.val⟩ : Array Value).size:=by simpa using m
    have k:(⟨cs.map SL.val⟩ : Array Value)[off]?=some cs[off].val:=by
     rw[MN p];simp
    rw[k];split
    next r i=>exact absurd (AD i) (u _)
    next a b i=>exact absurd (AD i) (v _ _)
    ·rfl
    next i=>cases i
  ·cases f
 ·cases c
def JR(hA:AlgOk A X.C Sg X.T holds abs)(j:Rp ev σ)(u:abs h=σ.heap){t:TJ}{x:TG}{f:Nat}(w:o.op = .field t x f)
  (a:holds (match X.C.P.underlying t,sval ev x with
  |some (.struct i),.st (.agg cs)=>match i[f]? with
   |some c=>match (zZ X.C.P c.type).bind (λd=>(Bu cs c.offset (if d then X.C.P.cellsOf c.type else 1)).bind (CX d))with
    |some x=>oo o.dst (.st x) ev h K
    |none=>A.fail
   |none=>A.fail
  |_,_=>A.fail)):Aq X holds abs o σ K:=by
 split at a
 next i cs y e=>
  obtain⟨p,n⟩:=j.sval e (by simp);split at a
  next c v=>
   split at a
   next z b=>
    obtain⟨d,g,b⟩:=qay.1 b;obtain⟨B,k,b⟩:=qay.1 b;obtain⟨q,r⟩:=xJ g k b;refine aC j u (s:=.st z) (λl m=>?_) ?_ a
    ·rw[r]at m;exact n l ((ny k).2 l m)
    ·simp only[ao,w,p,SV.val,S0.val,tM,y,v,AP,q,BB]
   ·exact absurd a hA.fail
  ·exact absurd a hA.fail
 ·exact absurd a hA.fail
def yJ(hA:AlgOk A X.C Sg X.T holds abs)(b:Rp ev σ)(g:abs h=σ.heap){t:TG}{i:Nat}(j:o.op = .extract t i)
  (a:holds (match sval ev t with
  | .tup xs=>match xs[i]? with
   |some x=>oo o.dst (.st x) ev h K
   |none=>A.fail
  |_=>A.fail)):Aq X holds abs o σ K:=by
 split at a
 next xs e=>
  obtain⟨f,d,k⟩:=b.sval e (by simp);split at a
  next x c=>
   refine aC b g (s:=.st x) (d x (Af c)) ?_ a;simp only[ao,j,f,SV.val];rw[po (by simp;omega)];have:(⟨xs.map S0.val⟩ : Array Value)[i]?=some x.val:=by simp[c]
   rw[this];rfl
  ·exact absurd a hA.fail
 ·exact absurd a hA.fail
def vC(hA:AlgOk A X.C Sg X.T holds abs)(c:Rp ev σ)(m:abs h=σ.heap){f:Fn}{first cap:Array Operand}(p:o.op = .makeFunc f first cap)
  (d:holds (match (generalizing:=false) f,svals ev first.toList,svals ev cap.toList with
  | .func g,some a,some b=>A.chk (.func (.func g) ⟨au a⟩ ⟨au b⟩) (oo o.dst (.st (.leaf (.v (.func (.func g) ⟨au a⟩ ⟨au b⟩)))) ev h K)
  |_,_,_=>A.fail)):Aq X holds abs o σ K:=by
 split at d
 next g a b _ i j=>
  obtain⟨k,_⟩:=c.svals i;obtain⟨l,_⟩:=c.svals j;obtain⟨n,e⟩:=hA.chk _ _ d;refine aC c m (s:=.st (.leaf (.v _))) (az n) ?_ e;simp only[ao,p,SV.val,S0.val,SL.val,BP,Eff.val.injEq,Value.func.injEq,true_and];refine⟨?_,?_⟩<;>apply qbk.1<;>simp[k,l]
 ·exact absurd d hA.fail
def kX(b:Rp ev σ){r:Tg}{x:Option Int}(h:B8 ev r=some x):(r=none/\x=none)∨∃y k n,r=some y/\ke σ.tmps y = .int k n/\x=some n:=by
 unfold B8 at h;split at h
 ·cases h;exact .inl ⟨rfl,rfl⟩
 next y=>
  split at h
  next k n e=>
   cases h;obtain⟨a,_⟩:=b.sval e (by simp);exact .inr ⟨y,k,n,rfl,a,rfl⟩
  ·cases h
def dQ(b:Rp ev σ){r:Tg}{x:Option Int}(h:B8 ev r=some x):gN (r.map (ke σ.tmps))=some x:=by
 rcases kX b h with⟨rfl,rfl⟩|⟨y,k,n,rfl,a,rfl⟩
 ·rfl
 ·simp[a,gN]
def kT(hA:AlgOk A X.C Sg X.T holds abs)(d:Rp ev σ)(j:abs h=σ.heap){t:TJ}{r:Tg}(l:o.op = .makeMap t r)
  (b:holds (match nZ X.C t (r.map λ_=>.int .i64 0),B8 ev r with
  |true,some _=>A.new (.map [] 0) h λn h=>oo o.dst (.st (.leaf (.v (.map (some n))))) ev h K
  |_,_=>A.fail)):Aq X holds abs o σ K:=by
 split at b
 next x g e=>
  obtain⟨m,c,a⟩:=hA.new _ _ _ b;rw[j]at c a;refine di d c (s:=.st (.leaf (.v (.map (some σ.heap.length))))) (az rfl) (f:=λH=>some (H++[.map [] 0],.map (some H.length))) ?_ rfl a;have:nZ X.C t (r.map (ke σ.tmps))=true:=by
   rcases kX d e with⟨rfl,rfl⟩|⟨y,k,n,rfl,i,rfl⟩
   ·rfl
   ·simp only[BB,nZ,i]at g ⊢;exact g
  simp only[ao,l,this,if_true]
 ·exact absurd b hA.fail
def yj(n esz a b:Nat):aB (.slice (some ⟨n,0,pu esz⟩) a b)=true:=by
 simp[aB,noLoc,aP,bg,aW,aG,aw,pu]
def uj(hA:AlgOk A X.C Sg X.T holds abs)(k:Rp ev σ)(I:abs h=σ.heap){t:TJ}{l c:TG}(L:o.op = .makeSlice t l c)
  (b:holds (match X.C.P.underlying t,sval ev l,sval ev c with
  |some (.slice e),.st (.leaf (.i _ l)),.st (.leaf (.i _ c))=>match X.C.P.info? e with
   |some a=>match Nat.beq a.size 0||Nat.blt 4096 a.bytes,(kE a).bind Dh with
    |false,some z=>A.opt (B7 l c) λ_=>
      A.new (.cells (bk (z.cells.map SL.val) c.toNat) a.size true) h λn h=>oo o.dst (.st (.leaf (.v (.slice (some ⟨n,0,pu a.size⟩) l.toNat (c.toNat+1))))) ev h K
    |_,_=>A.fail
   |none=>A.fail
  |_,_,_=>A.fail)):Aq X holds abs o σ K:=by
 split at b
 next e N Q O D M E F=>
  obtain⟨G,_⟩:=k.sval E (by simp);obtain⟨H,_⟩:=k.sval F (by simp);split at b
  next a J=>
   split at b
   next z j w=>
    obtain⟨W,x,y⟩:=qay.1 w;obtain⟨S,U,_⟩:=sI y;obtain⟨u,q,p⟩:=hA.opt _ _ b;obtain⟨V,B,g⟩:=hA.new _ _ _ p;rw[I]at B g;unfold B7 at q;split at q
    next d=>
     simp only[qb5]at j;have r:¬a.size=0:=λe=>by rw[e]at j;cases j.1
     have m:a.bytes<=4096:=by
      have:=j.2;rw[←Cz,BH]at this;omega
     refine di k B (s:=.st (.leaf (.v _))) (az (yj _ _ _ _)) (f:=dw X.C t (.int N Q) (.int O D)) ?_ ?_ g
     ·simp only[ao,L,G,H];rfl
     ·simp only[dw,Am.intOf,M,J,po r,x];rw[mc ⟨d.1,d.2.1,d.2.2,m⟩,←S,S0.cells_val U];rfl
    ·cases q
   ·exact absurd b hA.fail
  ·exact absurd b hA.fail
 ·exact absurd b hA.fail
def qY(hA:AlgOk A X.C Sg X.T holds abs)(E:Rp ev σ)(Q:abs h=σ.heap){t:TJ}{n:Nat}{u:Array (Nat×Operand)}(V:o.op = .buildSlice t n u)
  (d:holds (match X.C.P.underlying t,svals ev (u.toList.map (·.2))with
  |some (.slice e),some xs=>match X.C.P.info? e with
   |some a=>match Nat.beq a.size 0||Nat.blt 16777216 (n*a.size),(kE a).bind Dh with
    |false,some z=>match rC (λi=>some (i*a.size,a.size)) (List.replicate n z.cells).flatten ((u.toList.map (·.1)).zip xs)with
     |some cs=>A.new (.cells (cs.map SL.val) a.size true) h λm h=>oo o.dst (.st (.leaf (.v (.slice (some ⟨m,0,pu a.size⟩) n (n+1))))) ev h K
     |none=>A.fail
    |_,_=>A.fail
   |none=>A.fail
  |_,_=>A.fail)):Aq X holds abs o σ K:=by
 split at d
 next e xs Y O=>
  split at d
  next a U=>
   split at d
   next z L y=>
    obtain⟨zv,B,D⟩:=qay.1 y;obtain⟨z1,N,_⟩:=sI D;split at d
    next cs S=>
     obtain⟨h',M,r⟩:=hA.new _ _ _ d;rw[Q]at M r;obtain⟨J,F⟩:=E.svals O;have ad:∀c∈(List.replicate n z.cells).flatten,c.good:=by
      intro c w;obtain⟨l,G,w⟩:=List.mem_flatten.1 w;rw[List.mem_replicate]at G;rw[G.2]at w;exact N c w
     have j:=rD _ _ _ _ (sX (is:=u.toList.map (·.1)) F) S;simp only[qb5]at L;obtain⟨b,g⟩:=L;have b:¬a.size=0:=λe=>by rw[e]at b;cases b
     have g:¬n*a.size > 16777216:=by rw[←Cz,BH]at g;omega
     refine di E M (s:=.st (.leaf (.v _))) (az (yj _ _ _ _))
      (f:=λH=>some (H++[.cells (cs.map SL.val) a.size true],.slice (some ⟨H.length,0,pu a.size⟩) n (n+1))) ?_ rfl r
     have q:(u.toList.all λp=>(ke σ.tmps p.2).cells.toList.all bf)=true:=by
      rw[qab];intro p W;have I:ke σ.tmps p.2∈au xs:=by
       rw[←J];exact qaz.2 ⟨p.2,qaz.2 ⟨p,W,rfl⟩,rfl⟩
      simp only[au,qaz]at I;obtain⟨x,Z,e⟩:=I;rw[←e];exact S0.cells_ok (F x Z)
     have k:(bk zv.cells.toList n).toArray=⟨((List.replicate n z.cells).flatten).map SL.val⟩:=by
      rw[←z1,S0.cells_val N];simp[bk,List.map_flatten]
     simp only[ao,V,q,if_true,eU,Y,U];rw[po b,po g];simp only[B];rw[qN J,k,j];rfl
    ·exact absurd d hA.fail
   ·exact absurd d hA.fail
  ·exact absurd d hA.fail
 ·exact absurd d hA.fail
end
end Sx
namespace Sx
section
variable [Val] [Kno] {R HT:Type} {A:Alg R HT} {X:Ctxt} {Sg:Tc} {holds:R->Prop} {abs:HT->Tp}
variable {ev:Env} {σ:St} {h:HT} {o:Oper} {K:KN R HT}
def Jn{cs ds:List SL}{off n:Nat}(h:Bu cs off n=some ds):ds.length=n:=by
 unfold Bu at h;split at h
 next a=>cases h;simp;omega
 ·cases h
def T4{a:Bool}{ds:List SL}{n:Nat}(b:ds.length=(if a then n else 1)):∃x,CX a ds=some x:=by
 cases a with
 |true=>exact⟨_,rfl⟩
 |false=>
  simp only[Bf,if_false]at b
  match ds,b with
  | [d],_=>exact⟨_,rfl⟩
def Kc(hA:AlgOk A X.C Sg X.T holds abs)(m:Rp ev σ)(Q:abs h=σ.heap){t:TJ}{x i:TG}{w:TH}(U:o.op = .index t x i)
  (a:holds (match X.C.P.underlying t,sval ev x,sval ev i with
  |some (.array len e),.st (.agg cs),.st (.leaf (.i _ j))=>match zZ X.C.P e with
   |some n=>match Jy n (ju (mj w))&&tj cs (Dj (mj w)) 0 [(j,X.C.P.cellsOf e)]&&Nat.beq (if n then X.C.P.cellsOf e else 1) (Dj (mj w)).length with
    |false=>A.fail
    |true=>A.opt (BM len j) λ_=>A.opt (iW (cs.map SL.lf) 0 [(j,X.C.P.cellsOf e)] (if n then X.C.P.cellsOf e else 1)) λls=>LQ A o.dst (mj w) ls ev h K
   |none=>A.fail
  |some .string,.st (.leaf (.v (.string s))),.st (.leaf (.i _ j))=>A.opt (D3 s j) λb=>oo o.dst (.st (.leaf (.i .u8 b))) ev h K
  |_,_,_=>A.fail)):Aq X holds abs o σ K:=by
 split at a
 next len e cs k j L D E=>
  obtain⟨d,O⟩:=m.sval D (by simp);obtain⟨f,_⟩:=m.sval E (by simp);split at a
  next n F=>
   split at a
   ·exact absurd a hA.fail
   next r=>
    simp only[uc]at r;obtain⟨⟨B,c2⟩,c3⟩:=r;have B:=Jz B;have c3:=AE c3;obtain⟨u,G,g⟩:=hA.opt _ _ a;obtain⟨Z,b2⟩:=tY G;obtain⟨ls,hp,I⟩:=hA.opt _ _ g;obtain⟨ds,p,rfl⟩:=xN hp;have q:ds.length=(if n then X.C.P.cellsOf e else 1):=Jn p;obtain⟨y,V⟩:=T4 q;obtain⟨Y,p2⟩:=xJ F p V;obtain⟨m1,W⟩:=oh V;rw[c3]at p;rw[B]at W;obtain⟨z,M,N,J⟩:=Gk hA (mq c2 p) (λc r=>O c ((ny p).2 c r)) W I;refine aC m Q (s:=.st z) N ?_ J;have H:lP X.C t (.agg ⟨cs.map SL.val⟩) (.int k j)=some y.val:=by
     have:AH 0 [(j,X.C.P.cellsOf e)]=j.toNat*X.C.P.cellsOf e:=by simp[AH]
     rw[this]at Y;simp only[lP,Am.intOf,L,mc (And.intro Z b2)];exact Y
    have d:ke σ.tmps x = .agg ⟨cs.map SL.val⟩:=d;have f:ke σ.tmps i = .int k j:=f;simp only[ao,U,d,f,H,BB];rw[←M];rfl
  ·exact absurd a hA.fail
 next s k j L D E=>
  obtain⟨d,O⟩:=m.sval D (by simp);obtain⟨f,_⟩:=m.sval E (by simp);obtain⟨b,G,g⟩:=hA.opt _ _ a;obtain⟨q1,q2⟩:=Mf G;have d:ke σ.tmps x = .string s:=d;have f:ke σ.tmps i = .int k j:=f;refine aC m Q (s:=.st (.leaf (.i .u8 b))) (λl S=>?_) ?_ g
  ·simp only[S0.cells,qav]at S;subst S;trivial
  ·have H:lP X.C t (.string s) (.int k j)=some (.int .u8 b):=by
    simp only[lP,Am.intOf,L,mc q1];exact q2
   simp only[ao,U,d,f,H,BB];rfl
 ·exact absurd a hA.fail
def uX{P:TD}{d b e:Ti}(h1:∀v,d=some v->∃k,v = .int k 0)(f:∀v,b=some v->∃k,v = .int k 0)(g:∀v,e=some v->∃k,v = .int k 0)(i:e=none∨b.isSome=true)(w:World) :
  (Instr.sliceBounds true 0 0 d b e).run P w = .ok (0,0,0) w:=by
 have a:∀(k:TF) (c:BoundsCode),(Instr.sliceBound (.int k 0) 0 c).run P w = .ok 0 w:=λk c=>by
  simp[Instr.sliceBound,asIntOf]
 unfold Instr.sliceBounds;cases e with
 |none=>
  cases b with
  |none=>
   cases d with
   |none=>simp
   |some l=>obtain⟨k,rfl⟩:=h1 _ rfl;simp[a]
  |some u=>
   obtain⟨k,rfl⟩:=f _ rfl;cases d with
   |none=>simp[a]
   |some l=>obtain⟨k,rfl⟩:=h1 _ rfl;simp[a]
 |some m=>
  obtain⟨k,rfl⟩:=g _ rfl;cases b with
  |none=>rcases i with h|h<;>simp at h
  |some u=>
   obtain⟨k,rfl⟩:=f _ rfl;cases d with
   |none=>simp[a]
   |some l=>obtain⟨k,rfl⟩:=h1 _ rfl;simp[a]
def Ic(hA:AlgOk A X.C Sg X.T holds abs)(j:Rp ev σ)(U:abs h=σ.heap){t:TJ}{x:TG}{H l u:Tg}(J:o.op = .slice t x H l u)
  (D:holds (match X.C.P.underlying t,sval ev x,B8 ev H,B8 ev l,B8 ev u with
  |some (.slice e),.st (.leaf (.v x)),some H,some l,some u=>match Nat.beq (X.C.P.cellsOf e) 0 with
   |true=>A.fail
   |false=>A.opt (CR (X.C.P.cellsOf e) x H l u) λq=>A.chk q (oo o.dst (.st (.leaf (.v q))) ev h K)
  |_,_,_,_,_=>A.fail)):Aq X holds abs o σ K:=by
 split at D
 next e v ag ad an V e1 I e3 z=>
  obtain⟨g,_⟩:=j.sval e1 (by simp);simp only[SV.val,S0.val,SL.val]at g;split at D
  ·exact absurd D hA.fail
  next m=>
   have m:¬X.C.P.cellsOf e=0:=λe=>by rw[e]at m;cases m
   obtain⟨q,f,M⟩:=hA.opt _ _ D;obtain⟨hg,E⟩:=hA.chk _ _ M;have Z:=dQ j I;have b3:=dQ j e3;have b4:=dQ j z;unfold CR at f;split at f
   next a af cx=>
    split at f
    ·cases f
    next N=>
     split at f
     next p=>
      cases f;refine aC j U (s:=.st (.leaf (.v _))) (az hg) ?_ E;simp only[ao,J,g,yd,Z,b3,b4,V,po m,po N,mc p,oz];rfl
     ·cases f
   ·split at f
    next p=>
     cases f;have d:∀ {r:Tg} {x:Option Int},B8 ev r=some x->x.getD 0=0->∀v,r.map (ke σ.tmps)=some v->∃k,v = .int k 0:=by
      intro r x G S v Q;rcases kX j G with⟨rfl,rfl⟩|⟨y,k,n,rfl,g,rfl⟩
      ·cases Q
      ·simp only[BB,BP,g]at Q;simp at S;subst S;exact⟨k,Q.symm⟩
     have b:∀ {r:Tg} {x:Option Int},B8 ev r=some x->∀y,r=some y->plain (ke σ.tmps y)=true/\Cf (ke σ.tmps y)=ke σ.tmps y:=by
      intro r x G y W;rcases kX j G with⟨rfl,rfl⟩|⟨Y,k,n,rfl,g,rfl⟩
      ·cases W
      ·cases W;rw[g];exact⟨rfl,rfl⟩
     have c:∀ {r:Tg} {x:Option Int},B8 ev r=some x->r.map (λy=>Cf (ke σ.tmps y))=r.map (ke σ.tmps):=by
      intro r x G;cases r with
      |none=>rfl
      |some y=>simp[(b G y rfl).2]
     refine cz j U (s:=.st (.leaf (.v (.slice none 0 0)))) (az rfl) ⟨by rw[J];rfl,?_,rfl,λw=>?_⟩ E
     ·rw[J];simp only[Op.operands,UN,qdV,uc];refine⟨⟨⟨by simp[g];rfl,?_⟩,?_⟩,?_⟩
      ·cases H with
       |none=>rfl
       |some y=>simp[(b I y rfl).1]
      ·cases l with
       |none=>rfl
       |some y=>simp[(b e3 y rfl).1]
      ·cases u with
       |none=>rfl
       |some y=>simp[(b z y rfl).1]
     ·have F:u.map (ke σ.tmps)=none∨(l.map (ke σ.tmps)).isSome=true:=by
       rcases p.2.2.2 with F|F
       ·left;rcases kX j z with⟨rfl,rfl⟩|⟨Y,k,n,rfl,g,rfl⟩
        ·rfl
        ·cases F
       ·right;rcases kX j e3 with⟨rfl,rfl⟩|⟨Y,k,n,rfl,g,rfl⟩
        ·cases F
        ·rfl
      have L:=uX (P:=X.C.P) (d I p.1) (d e3 p.2.1) (d z p.2.2.1) F w;have O:∃i,X.C.P.info? e=some i:=by
       unfold Program.cellsOf at m;cases l:X.C.P.info? e with
       |none=>rw[l]at m;exact absurd rfl m
       |some i=>exact⟨i,rfl⟩
      obtain⟨i,l⟩:=O;have B:Cf (.slice none 0 0) = .slice none 0 0:=rfl;simp only[execOp,J,g,c I,c e3,c z,B,Instr.sliceAt,Instr.slice,Sem.run_bind,run_underlying V,Result.andThen_ok,L,bH l,Sem.run_pure];simp only[SV.val,S0.val,SL.val,B];simp
    ·cases f
   ·cases f
 ·exact absurd D hA.fail
def nm{a:Bool}{v:Value}{cs:Tk}(h:gP a v=some cs):OS a cs v:=by
 unfold gP at h;split at h
 ·cases h;exact .inl ⟨rfl,rfl⟩
 ·cases h
 ·cases h
 ·cases h;exact .inr ⟨rfl,rfl⟩
def FN(H:Tp)(id:Nat):Db (λi=>H[i]?) id=AQ H id:=rfl
def Ky{C:Cfg}{t kt n:TJ}{l ok:Bool}{z m k:Value}{H:Tp}{cs:Tk}(s:C.P.underlying t=some (.map kt n))(u:ey C.P n=some z)
  (d:DL C kt l z m k ok (λi=>H[i]?)=some cs):∃v b a,gP l v=some a/\cs=a++(if ok then [.bool b]else [])/\dH C t m k ok H=some (if ok then .tuple #[v,.bool b]else v):=by
 unfold DL at d;simp only[wP]at d;unfold dH;rw[s];simp only;split at d
 ·cases d
 next e=>
  have e:¬(!iV C.P kt k)=true:=by
   have:=FD (P:=C.P) (kt:=kt) (k:=k) (by simpa using e);simpa using this
  rw[po e];simp only[u];split at d
  ·obtain⟨a,f,g⟩:=qag.1 d;exact⟨z,false,a,f,g.symm,rfl⟩
  next id=>
   rw[FN]at d;split at d
   ·cases d
   next w c r=>
    simp only[r];split at d
    ·cases d
    next j=>
     rw[j];obtain⟨a,f,g⟩:=qag.1 d;exact⟨z,false,a,f,g.symm,rfl⟩
    next i j=>
     rw[j];simp only;obtain⟨a,f,g⟩:=qag.1 d;obtain⟨v,p,q⟩:=qay.1 f;exact⟨v,true,a,q,g.symm,by rw[p];rfl⟩
  ·cases d
def yW{C:Cfg}{pts:Tx}{ρ:Tf}{t:TJ}{m k:TG}{ok:Bool}(c:o.op = .lookup t m k ok)(H:Tp){v:Value}(a:dH C t (ρ m) (ρ k) ok H=some v) :
  ao C pts ρ o=some (.val v)∨∃f,ao C pts ρ o=some (.hget f)/\f H=some v:=by
 simp only[ao,c];split
 next b=>
  left;rw[b]at a;have:dH C t (.map none) (ρ k) ok []=dH C t (.map none) (ρ k) ok H:=rfl;rw[this,a];rfl
 ·right;exact⟨_,rfl,a⟩
def tE(b:Rp ev σ)(c:abs h=σ.heap){s:SV}(e:s.gd){t:TJ}{m k:TG}{ok:Bool}(i:o.op = .lookup t m k ok)
  (j:dH X.C t (ke σ.tmps m) (ke σ.tmps k) ok σ.heap=some s.val) (d:holds (oo o.dst s ev h K)):Aq X holds abs o σ K:=by
 rcases yW (pts:=X.pts) i σ.heap j with a|⟨f,a,g⟩
 ·exact aC b c e a d
 ·exact jB b c e a g d
def OK(hA:AlgOk A X.C Sg X.T holds abs)(p:Rp ev σ)(q:abs h=σ.heap){t:TJ}{m k:TG}{ok:Bool}{U:TH}(J:o.op = .lookup t m k ok)
  (a:holds (match X.C.P.underlying t,sval ev m,sval0 ev k with
  |some (.map kt H),.st (.leaf (.v m)),some k=>match ey X.C.P H with
   |some z=>match (generalizing:=false) U,ok with
    | [g],false=>A.peek (.fn (DL X.C kt (ju g) z m k.val false)) h λcs=>Il A g cs λx r=>A.uc0 r (oo o.dst (.st x) ev h K)
    | [g,.leaf .b],true=>A.peek (.fn (DL X.C kt (ju g) z m k.val true)) h λcs=>Il A g cs λx r=>A.ucB r λt r=>A.uc0 r (oo o.dst (.tup [x,.leaf (.b t)]) ev h K)
    |_,_=>A.fail
   |none=>A.fail
  |_,_,_=>A.fail)):Aq X holds abs o σ K:=by
 split at a
 next kt H mv Z L Q S=>
  obtain⟨w,_⟩:=p.sval Q (by simp);obtain⟨I,_⟩:=p.sval0 S;simp only[SV.val,S0.val,SL.val]at w;split at a
  next z N=>
   split at a
   next g=>
    obtain⟨cs,f,c⟩:=hA.peek _ _ _ a;simp only[Pk.run]at f;rw[q]at f;obtain⟨v,b,u,E,j,l⟩:=Ky L N f;obtain⟨x,r,n,F,G,d⟩:=uR hA c;obtain⟨D,e⟩:=hA.uc0 _ _ d;rw[D,Ci]at n;simp only[Bf,if_false,Ci]at j l;have i:=nm E;rw[←j,n]at i;refine tE p q (s:=.st x) G J ?_ e;rw[w,I,l,←ql F i];rfl
   next g=>
    obtain⟨cs,f,c⟩:=hA.peek _ _ _ a;simp only[Pk.run]at f;rw[q]at f;obtain⟨v,b,u,E,j,l⟩:=Ky L N f;obtain⟨x,r,n,F,G,d⟩:=uR hA c;obtain⟨W,r',V,e⟩:=hA.ucB _ _ d;obtain⟨D,B⟩:=hA.uc0 _ _ e;simp only[if_true]at j l;rw[V,D,j]at n;obtain⟨Y,O⟩:=List.append_inj' n rfl;simp only[Df,Value.bool.injEq,and_true]at O;have i:=nm E;rw[Y]at i;refine tE p q (s:=.tup [x,.leaf (.b W)]) ⟨λy M=>?_,zY 2⟩ J ?_ B
    ·simp only[qar,Px,or_false]at M;rcases M with rfl|rfl
     ·exact G
     ·exact az trivial
    ·rw[w,I,l,←ql F i,O];rfl
   ·exact absurd a hA.fail
  ·exact absurd a hA.fail
 ·exact absurd a hA.fail
def T6{C:Cfg}{t kt j:TJ}{m k v:Value}{H:Tp}{n:Nat}{b:List Act1}{cs:Tk}(q:C.P.underlying t=some (.map kt j))(f:noLoc v=true)(g:aw v=false)
  (a:HF C kt m k v (λi=>H[i]?) n=some (b,cs)):cF C t m k v H=some (gA H b,undef):=by
 unfold HF at a;simp only[wP]at a;unfold cF;split at a
 next id=>
  rw[q];simp only;split at a
  ·cases a
  next d=>
   have d:iV C.P kt k=true:=FD (by simpa using d);rw[po (by simp[d,f,g])];rw[FN]at a;split at a
   ·cases a
   next r c p=>
    simp only[p];split at a
    ·cases a
    next e=>
     rw[e];cases a;rfl
    next i e=>
     rw[e];simp only;split at a
     next l=>
      rw[mc l];cases a;rfl
     ·cases a
 ·cases a
def xj(hA:AlgOk A X.C Sg X.T holds abs)(a:Rp ev σ)(r:abs h=σ.heap){t:TJ}{m k v:TG}(ho:o.op = .mapUpdate t m k v∨o.op = .insert t m k v)
  (b:holds (match X.C.P.underlying t,sval ev m,sval0 ev k,sval0 ev v with
  |some (.map kt _),.st (.leaf (.v m)),some k,some v=>A.heap (.fn (HF X.C kt m k.val v.val)) h λ_ h=>oo o.dst .un ev h K
  |_,_,_,_=>A.fail)):Aq X holds abs o σ K:=by
 split at b
 next kt B x w y u l n e3=>
  obtain⟨i,_⟩:=a.sval l (by simp);obtain⟨p,_⟩:=a.sval0 n;obtain⟨q,g⟩:=a.sval0 e3;simp only[SV.val,S0.val,SL.val]at i;obtain⟨e,z,D,d,j,c⟩:=hA.heap _ _ _ b;simp only[Hp.run]at d;rw[r]at d j;refine di a j (s:=.un) trivial (f:=cF X.C t x w.val y.val) ?_ (T6 u (S0.noLoc g) (S0.not_tuple g) d) c;rcases ho with ho|ho<;>simp only[ao,ho,i,p,q]
 ·exact absurd b hA.fail
def TY{C:Cfg}{t kt e:TJ}{d:Bool}{z m k:Value}{H:Tp}{n:Nat}{a:List Act1}{cs:Tk}(g:C.P.underlying t=some (.map kt e))(j:ey C.P e=some z)
  (f:meG C kt d z m k (λi=>H[i]?) n=some (a,cs)):∃v b c,gP d v=some b/\cs=b++[.int .i64 c]/\iq C t m k H=some (gA H a,.tuple #[v,.int .i64 c]):=by
 cases f
def KA(hA:AlgOk A X.C Sg X.T holds abs)(b:Rp ev σ)(M:abs h=σ.heap){t:TJ}{m k:TG}{Q:TH}(N:o.op = .mapEntry t m k)
  (a:holds (match X.C.P.underlying t,sval ev m,sval0 ev k with
  |some (.map kt u),.st (.leaf (.v m)),some k=>match ey X.C.P u with
   |some z=>match Q with
    | [p,.leaf (.i .i64)]=>A.heap (.fn (meG X.C kt (ju p) z m k.val)) h λcs h=>Il A p cs λx r=>A.ucI .i64 r λn r=>A.uc0 r (oo o.dst (.tup [x,.leaf (.i .i64 n)]) ev h K)
    |_=>A.fail
   |none=>A.fail
  |_,_,_=>A.fail)):Aq X holds abs o σ K:=by
 split at a
 next kt u W V S I J=>
  obtain⟨w,_⟩:=b.sval I (by simp);obtain⟨L,_⟩:=b.sval0 J;simp only[SV.val,S0.val,SL.val]at w;split at a
  next z U=>
   split at a
   next p=>
    obtain⟨q,cs,h',l,E,d⟩:=hA.heap _ _ _ a;simp only[Hp.run]at l;rw[M]at l E;obtain⟨v,H,c,w1,w2,w3⟩:=TY S U l;obtain⟨x,r,F,Y,Z,e⟩:=uR hA d;obtain⟨n,r',r4,g⟩:=hA.ucI _ _ _ e;obtain⟨O,j⟩:=hA.uc0 _ _ g;rw[r4,O,w2]at F;obtain⟨u1,G⟩:=List.append_inj' F rfl;simp only[Df,Value.int.injEq,true_and,and_true]at G;have B:=nm w1;rw[u1]at B;refine di b E (s:=.tup [x,.leaf (.i .i64 n)]) ⟨λy D=>?_,zY 2⟩ (f:=iq X.C t W V.val) ?_ ?_ j
    ·simp only[qar,Px,or_false]at D;rcases D with rfl|rfl
     ·exact Z
     ·exact az trivial
    ·simp only[ao,N,w,L]
    ·rw[w3,←ql Y B,G];rfl
   ·exact absurd a hA.fail
  ·exact absurd a hA.fail
 ·exact absurd a hA.fail
def SG{m v:Value}{b:Int}{k:TF}{H:Tp}{n:Nat}{a:List Act1}{cs:Tk}(d:noLoc v=true)(e:aw v=false)
  (c:esG m b v (λi=>H[i]?) n=some (a,cs)):eZ m (.int k b) v H=some (gA H a,undef):=by
 cases c
def Jx(hA:AlgOk A X.C Sg X.T holds abs)(a:Rp ev σ)(w:abs h=σ.heap){t:TJ}{m s v:TG}(x:o.op = .entryStore t m s v)
  (c:holds (match sval ev m,sval ev s,sval0 ev v with
  | .st (.leaf (.v m)),.st (.leaf (.i _ b)),some v=>A.heap (.fn (esG m b v.val)) h λ_ h=>oo o.dst .un ev h K
  |_,_,_=>A.fail)):Aq X holds abs o σ K:=by
 split at c
 next y k b z q r e3=>
  obtain⟨l,_⟩:=a.sval q (by simp);obtain⟨n,_⟩:=a.sval r (by simp);obtain⟨u,j⟩:=a.sval0 e3;simp only[SV.val,S0.val,SL.val]at l n;obtain⟨g,B,D,e,p,d⟩:=hA.heap _ _ _ c;simp only[Hp.run]at e;rw[w]at e p;refine di a p (s:=.un) trivial (f:=eZ y (.int k b) z.val) ?_ (SG (S0.noLoc j) (S0.not_tuple j) e) d;simp only[ao,x,l,n,u]
 ·exact absurd c hA.fail
def Sr{C:Cfg}{t kt b:TJ}{m k:Value}{H:Tp}{n:Nat}{a:List Act1}{cs:Tk}(d:C.P.underlying t=some (.map kt b))
  (c:deG C kt m k (λi=>H[i]?) n=some (a,cs)):nC C t m k H=some (gA H a,undef):=by
 cases c
end
end Sx
namespace Sx
section
variable [Val] [Kno] {R HT:Type} {A:Alg R HT} {X:Ctxt} {Sg:Tc} {holds:R->Prop} {abs:HT->Tp}
variable {ev:Env} {σ:St} {h:HT} {o:Oper} {K:KN R HT}
def UW(C:Cfg)(esz:Nat)(H:Tp)(x:Value):Iy C esz (λi=>H[i]?) x=dR C H esz x:=rfl
def RV{C:Cfg}{t e:TJ}{c:TypeInfo}{s x:Value}{H:Tp}{f:List Act1}{cs:Tk}(z:C.P.underlying t=some (.slice e))(w:C.P.info? e=some c)(h0:¬c.size=0)
  (B:(kE c).isNone=false) (b:BS C c.size c.bytes s x (λi=>H[i]?) H.length=some (f,cs)):∃v,cs=[v]/\fE C t s x H=some (gA H f,v):=by
 unfold BS at b;unfold fE;simp only[z,w,po h0,B,Bf,if_false];rw[UW]at b;split at b
 ·cases b
 next E n q=>
  simp only[q];split at b
  ·split at b
   next d=>
    simp only[mc d];cases b;exact⟨_,rfl,rfl⟩
   next d=>
    simp only[po d];split at b
    next y=>
     simp only[mc y];cases b;exact⟨_,rfl,rfl⟩
    ·cases b
  next a D M=>
   split at b
   ·cases b
   next m=>
    simp only[po m];split at b
    next O N J u=>
     simp only[u];split at b
     ·cases b
     next r=>
      simp only[po r];split at b
      ·cases b
      next F k=>
       simp only[k];split at b
       ·split at b
        next d=>
         simp only[mc d];cases b;exact⟨_,rfl,rfl⟩
        next d=>
         simp only[po d];split at b
         next l=>
          simp only[mc l];cases b;refine⟨_,rfl,?_⟩;simp[gA,Act1.on]
         ·cases b
       next p=>
        split at b
        next g=>
         simp only[mc g];split at b
         next j=>
          simp only[mc j];obtain⟨L,G,I⟩:=qag.1 b;cases I;exact⟨_,rfl,by simp only[G];rfl⟩
         next j=>
          simp only[po j];split at b
          next d=>
           simp only[mc d];cases b;exact⟨_,rfl,rfl⟩
          ·cases b
        next g=>
         simp only[po g];split at b
         next l=>
          simp only[mc l];cases b;exact⟨_,rfl,rfl⟩
         ·cases b
    ·cases b
  ·cases b
def Sq{C:Cfg}{t e:TJ}{d x:Value}{H:Tp}{n:Nat}{a:List Act1}{cs:Tk}(c:C.P.underlying t=some (.slice e))(h0:¬C.P.cellsOf e=0)
  (b:cpG C (C.P.cellsOf e) d x (λi=>H[i]?) n=some (a,cs)):∃v,cs=[v]/\DA C t d x H=some (gA H a,v):=by
 cases b
def Sf{C:Cfg}{t e:TJ}{x:Value}{z:S0}{H:Tp}{n:Nat}{a:List Act1}{cs:Tk}(c:C.P.underlying t=some (.slice e))(h0:¬C.P.cellsOf e=0)(d:ww C.P e=some z)
  (b:clG (C.P.cellsOf e) (z.cells.map SL.val) x (λi=>H[i]?) n=some (a,cs)):tz C t x H=some (gA H a,undef):=by
 cases b
def sM(hA:AlgOk A X.C Sg X.T holds abs){dst:Tn}{a:SK}(c:ju a=false){v:Value}(b:holds (Di A dst a [v] ev h K)):∃x:S0,x.val=v/\x.good/\holds (oo dst (.st x) ev h K):=
 lF hA (.inr ⟨c,rfl⟩) b
def yz(hA:AlgOk A X.C Sg X.T holds abs)(J:Rp ev σ)(L:abs h=σ.heap){c:Call}{b:Builtin}{xs:List S0}{sk:SK}(W:o.op = .call c)(hb:c.callee = .builtin b)(hx:svals ev c.args.toList=some xs)
  (d:holds (mz A X o.dst sk b xs c.argTypes ev h K)):Aq X holds abs o σ K:=by
 obtain⟨hv,hg⟩:=J.svals hx;have q:ao X.C X.pts (ke σ.tmps) o=bb X.C (ke σ.tmps) b (au xs) c.argTypes o:=by
  simp only[ao,W,fV,hb,hv]
 have N:∀ys:List S0,(∀y∈ys,∀l∈y.cells,l.nv)->ys=xs->c.args.toList.all (λx=>plain (ke σ.tmps x))=true/\c.args.map (λx=>Cf (ke σ.tmps x))=⟨au xs⟩:=by
  intro ys S e;subst e;have V:∀v∈c.args.toList.map (ke σ.tmps),plain v=true/\Cf v=v:=by
   rw[hv];intro v hm;simp only[au,qaz]at hm;obtain⟨y,hm,rfl⟩:=hm;exact sc (S y hm)
  refine⟨?_,?_⟩
  ·rw[qab];intro x hx;exact(V _ (qaz.2 ⟨x,hx,rfl⟩)).1
  ·apply qbk.1;rw[Iq,←hv];exact DV λx hx=>(V _ (qaz.2 ⟨x,hx,rfl⟩)).2
 unfold mz at d;split at d
 next s x t F=>
  split at d
  next e D=>
   split at d
   next ad hi=>
    split at d
    ·exact absurd d hA.fail
    next hc=>
     simp only[qb5]at hc;obtain⟨⟨⟨c1,c2⟩,c3⟩,c4⟩:=hc;have c1:¬ad.size=0:=λe=>by rw[e]at c1;cases c1
     obtain⟨M,cs,h',G,O,j⟩:=hA.heap _ _ _ d;simp only[Hp.run]at G;rw[L]at G O;obtain⟨v,rfl,q3⟩:=RV D hi c1 c2 G;obtain⟨y,rfl,g,B⟩:=sM hA rfl j;refine di J O (s:=.st y) g (f:=fE X.C t s x) ?_ q3 B;rw[q];simp only[bb,au,AL,C7,S0.val,SL.val,F];refine po λr=>?_;have r:((c.argTypes[1]?.any λu=>(X.C.P.underlying u) matches some (.int _)|none)||c.argTypes[1]?.isNone)=true:=r;rw[Ck]at r;rcases r with r|r
     ·exact absurd (r.symm.trans c3) (by simp)
     ·exact absurd (r.symm.trans c4) (by simp)
   ·exact absurd d hA.fail
  ·exact absurd d hA.fail
 next x t F=>
  split at d
  next e x' D=>
   obtain⟨n,Q,j⟩:=hA.opt _ _ d;unfold DJ at Q;split at Q
   next a m cx=>
    cases Q;refine aC J L (s:=.st (.leaf (.i .i64 _))) (az trivial) ?_ j;rw[q];simp only[bb,au,AL,C7,S0.val,SL.val,F,D];rfl
   ·cases Q
  next kt et x' D=>
   obtain⟨cs,I,j⟩:=hA.peek _ _ _ d;simp only[Pk.run]at I;rw[L]at I;unfold ZS at I;split at I
   next id=>
    split at I
    next es ck af=>
     cases I;obtain⟨y,S,g,B⟩:=sM hA rfl j;refine jB J L (s:=.st y) g (f:=λH=>(AQ H id).map λp=>.int .i64 p.1.length) ?_ ?_ B
     ·rw[q];simp only[bb,au,AL,C7,S0.val,SL.val,F,D]
     ·simp only[AQ,af,BB,SV.val,S]
    ·cases I
   ·cases I
  next n el D=>
   refine aC J L (s:=.st (.leaf (.i .i64 _))) (az trivial) ?_ d;rw[q];simp only[bb,au,AL,C7,F,D];rfl
  ·exact absurd d hA.fail
 next x t F=>
  split at d
  next e x' D=>
   obtain⟨n,Q,j⟩:=hA.opt _ _ d;unfold I6 at Q;split at Q
   ·cases Q;refine aC J L (s:=.st (.leaf (.i .i64 _))) (az trivial) ?_ j;rw[q];simp only[bb,au,AL,C7,S0.val,SL.val,F,D];rfl
   ·cases Q;refine aC J L (s:=.st (.leaf (.i .i64 _))) (az trivial) ?_ j;rw[q];simp only[bb,au,AL,C7,S0.val,SL.val,F,D];rfl
   ·cases Q
  next n el D=>
   refine aC J L (s:=.st (.leaf (.i .i64 _))) (az trivial) ?_ d;rw[q];simp only[bb,au,AL,C7,F,D];rfl
  ·exact absurd d hA.fail
 next s x t F=>
  split at d
  next e D=>
   split at d
   ·exact absurd d hA.fail
   next Y=>
    have Y:¬X.C.P.cellsOf e=0:=λe=>by rw[e]at Y;cases Y
    obtain⟨M,cs,h',G,O,j⟩:=hA.heap _ _ _ d;simp only[Hp.run]at G;rw[L]at G O;obtain⟨v,rfl,q3⟩:=Sq D Y G;obtain⟨y,rfl,g,B⟩:=sM hA rfl j;refine di J O (s:=.st y) g (f:=DA X.C t s x) ?_ q3 B;rw[q];simp only[bb,au,AL,C7,S0.val,SL.val,F]
  ·exact absurd d hA.fail
 next m k t F=>
  split at d
  next kt et D=>
   obtain⟨M,cs,h',G,O,j⟩:=hA.heap _ _ _ d;simp only[Hp.run]at G;rw[L]at G O;refine di J O (s:=.un) trivial (f:=nC X.C t m k.val) ?_ (Sr D G) j;rw[q];simp only[bb,au,AL,C7,S0.val,SL.val,F]
  ·exact absurd d hA.fail
 next s t F=>
  split at d
  next e D=>
   split at d
   next z U Y=>
    have U:¬X.C.P.cellsOf e=0:=λe=>by rw[e]at U;cases U
    obtain⟨M,cs,h',G,O,j⟩:=hA.heap _ _ _ d;simp only[Hp.run]at G;rw[L]at G O;refine di J O (s:=.un) trivial (f:=tz X.C t s) ?_ (Sf D U Y G) j;rw[q];simp only[bb,au,AL,C7,S0.val,SL.val,F]
   ·exact absurd d hA.fail
  ·exact absurd d hA.fail
 next k a k' Z=>
  split at d
  next E=>
   have E:=dE E;subst E;obtain⟨t,V,j⟩:=hA.cmp _ _ _ _ d;have B:=hA.sel _ _ _ _ j;simp only[pP,BP]at V;subst V;obtain⟨p1,p2⟩:=N _ (λy S l I=>by
    simp only[qar,Px,or_false]at S;rcases S with rfl|rfl<;>(simp only[S0.cells,qav]at I;subst I;trivial)) rfl
   refine cz J L (s:=.st (.leaf (.i k _))) (az trivial) ⟨by rw[W];rfl,?_,rfl,λw=>?_⟩ B
   ·rw[W];simp only[Op.operands,Call.operands,hb];simpa using p1
   ·simp only[execOp,W,resolve,hb,Sem.run_bind,p2];simp only[Sem.run_pure,Result.andThen_ok,invoke,builtin,au,AL,C7,S0.val,SL.val,Sem.run_bind];rw[show(⟨[Value.int k a,Value.int k Z]⟩ : Array Value) = #[Value.int k a,Value.int k Z]from rfl,run_min_int2];simp[SV.val,S0.val,SL.val,Cf,CE]
  ·exact absurd d hA.fail
 next k a k' Z=>
  split at d
  next E=>
   have E:=dE E;subst E;obtain⟨t,V,j⟩:=hA.cmp _ _ _ _ d;have B:=hA.sel _ _ _ _ j;simp only[pP,BP]at V;subst V;obtain⟨p1,p2⟩:=N _ (λy S l I=>by
    simp only[qar,Px,or_false]at S;rcases S with rfl|rfl<;>(simp only[S0.cells,qav]at I;subst I;trivial)) rfl
   refine cz J L (s:=.st (.leaf (.i k _))) (az trivial) ⟨by rw[W];rfl,?_,rfl,λw=>?_⟩ B
   ·rw[W];simp only[Op.operands,Call.operands,hb];simpa using p1
   ·simp only[execOp,W,resolve,hb,Sem.run_bind,p2];simp only[Sem.run_pure,Result.andThen_ok,invoke,builtin,au,AL,C7,S0.val,SL.val,Sem.run_bind];rw[show(⟨[Value.int k a,Value.int k Z]⟩ : Array Value) = #[Value.int k a,Value.int k Z]from rfl,run_max_int2];simp[SV.val,S0.val,SL.val,Cf,CE]
  ·exact absurd d hA.fail
 ·exact absurd d hA.fail
end
end Sx
namespace Sx
section
variable [Val] [Kno] {R HT:Type} {A:Alg R HT} {X:Ctxt} {Sg:Tc} {holds:R->Prop} {abs:HT->Tp}
variable {ev:Env} {σ:St} {h:HT} {o:Oper} {K:KN R HT}
def Hy(x:S0):cP [x]=x.cells.map SL.lf:=by simp[cP]
def wh(hA:AlgOk A X.C Sg X.T holds abs)(p:Rp ev σ){sks:TH}{w:TB}{ys:List S0}(D:Told sks w ys){H':Tp}(q:abs h=H')
  (i:IG X.C X.pts o σ (({ σ with heap:=H' }:St).put o.dst (gk (au ys)))) (k:holds (Ia A o.dst sks w ev h K)):Aq X holds abs o σ K:=by
 obtain⟨c,rfl,z⟩:=D;unfold Ia at k;split at k
 next E=>
  obtain⟨x,r,j,e,d⟩:=EV hA k;obtain⟨n,g⟩:=hA.un0 _ _ d;rw[n,Ci]at j
  match ys,c with
  | [y],c=>
   simp only[cX,qd5]at c;rw[Hy]at j;obtain⟨t,u⟩:=S0.is_val c e j;refine dz p H' q (s:=.st x) (u (z y (by simp))) ?_ g;rw[show(SV.st x).val=gk (au [y])from by simp[SV.val,au,gk,t]];exact i
  | [],c=>cases c
  |_ :: _ :: _,c=>simp[cX]at c
 ·obtain⟨n,d⟩:=hA.un0 _ _ k
  match ys,c with
  | [],_=>exact dz p H' q (s:=.un) trivial i d
  |_ :: _,c=>cases c
 next B v=>
  obtain⟨m,r,j,e,d⟩:=sU hA k;obtain⟨n,g⟩:=hA.un0 _ _ d;rw[n,Ci]at j;obtain⟨t,u⟩:=dy c e j;have f:2<=m.length:=by
   match m,e with
   | [],e=>cases sks with
    |nil=>exact absurd rfl v
    |cons _ _=>cases e
   | [x],e=>cases sks with
    |nil=>exact absurd rfl v
    |cons a l=>cases l with
     |nil=>exact absurd rfl (B _)
     |cons _ _=>simp[cX]at e
   |_ :: _ :: _,_=>simp
  refine dz p H' q (s:=.tup m) ⟨u z,f⟩ ?_ g;have:(SV.tup m).val=gk (au ys):=by
   rw[t]
   match m,f with
   |a :: b :: l,_=>rfl
  rw[this];exact i
def GI{xs:List S0}(hg:∀x∈xs,x.good):(au xs).all noLoc=true:=by
 simp only[au,qab,qaz];rintro _ ⟨x,a,rfl⟩;exact S0.noLoc (hg x a)
def Nw(hA:AlgOk A X.C Sg X.T holds abs)(m:Rp ev σ)(u:abs h=σ.heap){c:Call}{y:TH}(w:o.op = .call c)
  (a:holds (match svals ev c.args.toList with
  |some xs=>match c.callee with
   | .builtin b=>mz A X o.dst (mj y) b xs c.argTypes ev h K
   | .value f=>match sval ev f with
    | .st (.leaf (.v v))=>match f with
     | .func g=>match Sg g with
      |some sg=>match cX xs sg.ps with
       |true=>A.call g (cP xs) h λq h=>Ia A o.dst sg.rs q ev h K
       |false=>A.fail
      |none=>A.fail
     |_=>A.callv v (au xs) y h λq h=>Ia A o.dst y q ev h K
    |_=>A.fail
   |_=>A.fail
  |none=>A.fail)):Aq X holds abs o σ K:=by
 split at a
 next xs E=>
  obtain⟨D,J⟩:=m.svals E;have p:=GI J;split at a
  next b H=>
   exact yz hA m u w H E a
  next f B=>
   split at a
   next v I=>
    obtain⟨s,F⟩:=m.sval I (by simp);simp only[SV.val,S0.val,SL.val]at s;have G:aB v=true:=F (.v v) (by simp[S0.cells]);have j:∀ {g:TK} {first d:Tj},v = .func (.func g) first d->ao X.C X.pts (ke σ.tmps) o=some (.call g (first.toList++au xs++d.toList)):=by
     intro g first d e
     subst e;simp only[ao,w,fV,B,D,p,s,(fe.1 G).1,Bs,Bf,if_false,if_true]
    split at a
    next g=>
     have e:v = .func (.func g) #[] #[]:=by
      have:=s;simp only[ke]at this;exact this.symm
     split at a
     next sg z=>
      split at a
      next x=>
       obtain⟨q,r,⟨L,N,t,n,⟨c2,c3,c4⟩,c5,c6⟩,i⟩:=hA.call _ _ _ _ a;rw[z]at n;cases n;obtain⟨M,_⟩:=dy x c2 c3.symm;rw[u]at c6;refine wh hA m c5 rfl (.inl ⟨_,j e,gk (au t),abs r,?_,rfl⟩) i;rw[M];show pJ X.C g _ _ _ _;simpa using c6
      ·exact absurd a hA.fail
     ·exact absurd a hA.fail
    ·obtain⟨q,r,⟨t,n,c2⟩,i⟩:=hA.callv _ _ _ _ _ a;rw[u]at c2;rcases c2 with⟨g,first,d,e,c2⟩|⟨l,e,c2⟩
     ·exact wh hA m n rfl (.inl ⟨_,j e,gk (au t),abs r,c2,rfl⟩) i
     ·have k:ao X.C X.pts (ke σ.tmps) o=some (.yield l (au xs)):=by
       subst e;simp only[ao,w,fV,B,D,p,s,Bs,Bf,if_false];rfl
      exact wh hA m n rfl (.inl ⟨_,k,gk (au t),abs r,c2,rfl⟩) i
   ·exact absurd a hA.fail
  ·exact absurd a hA.fail
 ·exact absurd a hA.fail
def Uo(hA:AlgOk A X.C Sg X.T holds abs)(j:Rp ev σ)(p:abs h=σ.heap){L:TH}(g:holds (Un A X Sg o L ev h K)):Aq X holds abs o σ K:=by
 unfold Un at g;split at g
 next x d=>
  split at g
  ·exact absurd g hA.fail
  next D=>exact FS j p (.inl d) rfl (λe=>D e) g
 next x d=>
  split at g
  ·exact absurd g hA.fail
  next D=>exact FS j p (.inr d) rfl (λe=>D e) g
 next c a b d=>exact Pm hA j p d g
 next t d=>
  split at g
  next x q=>
   obtain⟨z,u,w,I⟩:=yr q;exact FU hA j p I (by simp only[ao,d,u,AP,w]) (.inr d) g
  ·exact absurd g hA.fail
 next t y d=>
  split at g
  next x q=>
   obtain⟨u,w⟩:=j.sval q (by simp);exact FU hA j p w (by simp only[ao,d,u];rfl) (.inl ⟨y,d⟩) g
  ·exact absurd g hA.fail
 next t N d=>exact I5 hA j p d g
 next t n N d=>exact qY hA j p d g
 next t a d=>
  split at g
  next E B=>
   split at g
   next J=>exact OI hA j p d B (Jz J) g
   ·exact absurd g hA.fail
  ·exact absurd g hA.fail
 next t a y d=>
  split at g
  next x q=>exact Me hA j p d q g
  ·exact absurd g hA.fail
 next x d=>exact vL hA j p d g
 next M t x y Y d=>
  split at g
  next a b G H=>exact R8 hA j p d G H g
  ·exact absurd g hA.fail
 next M t x d=>exact un_ok hA j p d g
 next W O x d=>exact NE hA j p d g
 next P first F d=>exact vC hA j p d g
 next t r d=>exact kT hA j p d g
 next t l c d=>exact uj hA j p d g
 next t x S Q U d=>exact Ic hA j p d g
 next t x f d=>exact tN hA j p d g
 next t x i d=>exact tZ hA j p d g
 next t x f d=>exact JR hA j p d g
 next t x i d=>exact Kc hA j p d g
 next t m k V d=>exact OK hA j p d g
 next t m k v d=>exact xj hA j p (.inl d) g
 next t m k v d=>exact xj hA j p (.inr d) g
 next t m k d=>exact KA hA j p d g
 next t m s v d=>exact Jx hA j p d g
 next t i d=>exact yJ hA j p d g
 next c d=>exact Nw hA j p d g
 ·exact absurd g hA.fail
def IB(X:Ctxt)(holds:R->Prop)(abs:HT->Tp)(ops:Tl)(i:Nat)(o:Oper)(σ:St)(K:KN R HT):Prop:=
 ∃σ' ev' h',aj X.C (uB X.C) X.pts ops i σ σ'/\Rp ev' σ'/\abs h'=σ'.heap/\Fr o.dst.toList (ux X.pts o).toList (jq X.pts o).toList σ σ'/\holds (K ev' h')
def LL(c:Rp ev σ){d:Nat}{t:Bool}(f:ev.tm.getD d .no = .st (.leaf (.b t))):Rp ⟨ev.tm.set d (.st (.leaf (.l t))),ev.lc⟩ σ:=by
 obtain⟨e,_⟩:=c.at f (by simp);refine⟨by simp[c.len],λi x a=>?_,c.llen,c.row⟩;simp only[DX]at a;split at a
 next g=>
  subst g;split at a
  ·cases a;exact⟨e,az trivial⟩
  ·cases a
 ·exact c.val i x a
def xC(hA:AlgOk A X.C Sg X.T holds abs)(l:Rp ev σ)(x:abs h=σ.heap){ops:Tl}{i:Nat}{z:TH}(y:ops[i]?=some o)(g:holds (Up A X Sg ops o z ev h K)):IB X holds abs ops i o σ K:=by
 have c:∀ {ev:Env},Rp ev σ->cv ops σ.tmps o=some true->holds (Un A X Sg o z ev h K)->IB X holds abs ops i o σ K:=by
  intro ev l k g;obtain⟨σ',p,B,E,F,G,H,I⟩:=Uo hA l x g;exact⟨σ',p,B,by unfold aj;simp only[y,k];exact E,F,G,H,I⟩
 have a:∀ {ev:Env},Rp ev σ->cv ops σ.tmps o=some false->holds (oo o.dst .un ev h K)->IB X holds abs ops i o σ K:=by
  intro ev l k g;obtain⟨p,q,D⟩:=wg l (s:=.un) trivial g;refine⟨σ.put o.dst undef,p,h,by unfold aj;simp only[y,k],q,?_,.put _ _ _ _,D⟩;rw[x];cases o.dst<;>rfl
 unfold Up at g;split at g
 next v=>
  exact c l (by simp only[cv,v]) g
 next j n v=>
  split at g
  next d w=>
   split at g
   next b u=>
    obtain⟨q,_⟩:=l.at u (by simp);have k:cv ops σ.tmps o=some (b==n):=by
     simp only[cv,v,w,AP,q];rfl
    split at g
    next e=>exact c l (by rw[k,e]) g
    next e=>exact a l (by rw[k,e]) g
   next u=>
    obtain⟨q,_⟩:=l.at u (by simp);have k:cv ops σ.tmps o=some false:=by
     simp only[cv,v,w,AP,q];rfl
    exact a l k g
   next t u=>
    obtain⟨q,_⟩:=l.at u (by simp);have k:cv ops σ.tmps o=some (t==n):=by
     simp only[cv,v,w,AP,q];rfl
    have m:=LL l u;split at g
    ·rcases hA.cond _ _ _ g with⟨r,f⟩|⟨r,f⟩
     ·rw[setK_eq]at f;subst r;exact c m k f
     ·rw[setK_eq]at f;subst r;exact a m k f
    ·rcases hA.cond _ _ _ g with⟨r,f⟩|⟨r,f⟩
     ·rw[setK_eq]at f;subst r;exact a m k f
     ·rw[setK_eq]at f;subst r;exact c m k f
   ·exact absurd g hA.fail
  ·exact absurd g hA.fail
def MD(l:Tu):Tx:=l.filterMap (·.dst)
def Kk(pts:Tx)(l:Tu):Tx:=l.filterMap (ux pts)
def LM(pts:Tx)(l:Tu):Tx:=l.filterMap (jq pts)
def bu{f:Oper->To}{o:Oper}{l:Tu}(b:o∈l):∀i∈(f o).toList,i∈l.filterMap f:=by
 intro i a;rw[qaG];exact⟨o,b,by simpa using a⟩
def mR(hA:AlgOk A X.C Sg X.T holds abs){ops:Tl}:∀(l:Tu) (i:Nat) (d:List (TH)) (ev:Env) (h:HT) (σ:St),l <+: ops.toList.drop i->Rp ev σ->abs h=σ.heap->holds (HM A X Sg ops l d ev h K)->
  ∃σ' a g,bK X.C (uB X.C) X.pts ops (List.range' i l.length) σ σ'/\Rp a σ'/\abs g=σ'.heap/\Fr (MD l) (Kk X.pts l) (LM X.pts l) σ σ'/\holds (K a g)
 | [],i,d,ev,h,σ,_,k,m,n=>⟨σ,ev,h,rfl,k,m,.refl _ _ _ _,n⟩
 |o :: l,i,d,ev,h,σ,c,k,m,n=>by
  have j:ops[i]?=some o:=by
   obtain⟨t,c⟩:=c;have:(ops.toList.drop i)[0]?=some o:=by rw[←c];rfl
   simpa using this
  obtain⟨σ₁,ev₁,h₁,z,B,D,E,F⟩:=xC (K:=λev h=>HM A X Sg ops l d.tail ev h K) hA k m j n;have p:l <+: ops.toList.drop (i+1):=by
   obtain⟨t,c⟩:=c;exact⟨t,by rw[←Lw,←c];rfl⟩
  obtain⟨σ',a,g,s,u,v,w,y⟩:=mR hA l (i+1) d.tail ev₁ h₁ σ₁ p B D F;refine⟨σ',a,g,⟨σ₁,z,s⟩,u,v,?_,y⟩;have q:Fr (MD (o :: l)) (Kk X.pts (o :: l)) (LM X.pts (o :: l)) σ σ₁:=E.mono (bu (by simp)) (bu (by simp)) (bu (by simp));have b:∀(f:Oper->To) (i:Nat),i∈l.filterMap f->i∈(o :: l).filterMap f:=by
   intro f i j;rw[qaG]at j ⊢;obtain⟨x,r,e⟩:=j;exact⟨x,by simp[r],e⟩
  exact q.trans (w.mono (b _) (b _) (b _))
def O8(hA:AlgOk A X.C Sg X.T holds abs){ops:Tl}(l:Tu)(i:Nat)(a:List (TH))(ev:Env)(h:HT)(σ:St)(e:ops.toList.drop i=l)(b:Rp ev σ)(c:abs h=σ.heap)(d:holds (HM A X Sg ops l a ev h K)) :
  ∃σ' ev' h',bK X.C (uB X.C) X.pts ops (List.range' i l.length) σ σ'/\Rp ev' σ'/\abs h'=σ'.heap/\Fr (MD l) (Kk X.pts l) (LM X.pts l) σ σ'/\holds (K ev' h'):=
 mR hA l i a ev h σ (e▸qdQ _) b c d
end
end Sx
namespace Sx
section
variable [Val] [Kno] {R HT:Type} {A:Alg R HT} {X:Ctxt} {Sg:Tc} {holds:R->Prop} {abs:HT->Tp}
def E7(b ks:Tx):∀(l:List SV) (i:Nat) (K:List SV->R),∃l',Sj b ks l i K=K l'/\l'.length=l.length/\
  ∀(j:Nat) s,l'[j]?=some s->s = .no∨(l[j]?=some s/\¬b.contains (i+j)=true/\s.inRows ks=false)
 | [],i,K=>⟨[],rfl,rfl,λj s h=>by simp at h⟩
 |x :: l,i,K=>by
  obtain⟨l',h1,e,g⟩:=E7 b ks l (i+1) λl=>match b.contains i||x.inRows ks with
   |true=>K (.no :: l)
   |false=>K (x :: l)
  have f:∀(j:Nat) s,l'[j]?=some s->s = .no∨((x :: l)[j+1]?=some s/\¬b.contains (i+(j+1))=true/\s.inRows ks=false):=by
   intro j s a;have:=g j s a;rw[show i+1+j=i+(j+1)by omega]at this;simpa using this
  have c:Sj b ks (x :: l) i K=(match b.contains i||x.inRows ks with
   |true=>K (.no :: l')
   |false=>K (x :: l')):=h1
  cases d:b.contains i||x.inRows ks with
  |true=>
   refine⟨.no :: l',by rw[c,d],by simp[e],λj s a=>?_⟩;cases j with
   |zero=>simp at a;exact .inl a.symm
   |succ j=>exact f j s (by simpa using a)
  |false=>
   simp only[qb5]at d;refine⟨x :: l',by rw[c];simp only[d,Bool.or_self],by simp[e],λj s a=>?_⟩;cases j with
   |zero=>
    simp at a;subst a;exact .inr ⟨rfl,by rw[UM,d.1];exact Bool.false_ne_true,d.2⟩
   |succ j=>exact f j s (by simpa using a)
def sH(r r0:LR):Prop:=r = .unk∨(∃n,r = .any n/\(r0 = .any n∨∃cs,r0 = .row cs/\cs.length=n))
def E6(d ks:Tx)(k:LR):∀(l:List LR) (i:Nat) (K:List LR->R),∃l',Jd d ks k l i K=K l'/\l'.length=l.length/\
  ∀(j:Nat) r,l'[j]?=some r->(ks.contains (i+j)=true/\r=k)∨(ks.contains (i+j)=false/\d.contains (i+j)=true/\∃r0,l[j]?=some r0/\sH r r0)∨
   (ks.contains (i+j)=false/\d.contains (i+j)=false/\l[j]?=some r)
 | [],i,K=>⟨[],rfl,rfl,λj s h=>by simp at h⟩
 |x :: l,i,K=>by
  obtain⟨l',h1,q,t⟩:=E6 d ks k l (i+1) λl=>match ks.contains i,d.contains i with
   |true,_=>K (k :: l)
   |false,true=>(match x with
    | .row o=>rI o.length λn=>K (.any n :: l)
    | .any n=>K (.any n :: l)
    |_=>K (.unk :: l))
   |false,false=>K (x :: l)
  have u:∀(j:Nat) r,l'[j]?=some r->(ks.contains (i+(j+1))=true/\r=k)∨(ks.contains (i+(j+1))=false/\d.contains (i+(j+1))=true/\∃r0,(x :: l)[j+1]?=some r0/\sH r r0)∨
   (ks.contains (i+(j+1))=false/\d.contains (i+(j+1))=false/\(x :: l)[j+1]?=some r):=by
   intro j s m;have:=t j s m;rw[show i+1+j=i+(j+1)by omega]at this;simpa using this
  have e:∀y:LR,Jd d ks k (x :: l) i K=K (y :: l')->((ks.contains i=true/\y=k)∨(ks.contains i=false/\d.contains i=true/\sH y x)∨(ks.contains i=false/\d.contains i=false/\y=x))->
    ∃l',Jd d ks k (x :: l) i K=K l'/\l'.length=(x :: l).length/\∀(j:Nat) r,l'[j]?=some r->(ks.contains (i+j)=true/\r=k)∨(ks.contains (i+j)=false/\d.contains (i+j)=true/\∃r0,(x :: l)[j]?=some r0/\sH r r0)∨
     (ks.contains (i+j)=false/\d.contains (i+j)=false/\(x :: l)[j]?=some r):=by
   intro y v p;refine⟨y :: l',v,by simp[q],λj r m=>?_⟩;cases j with
   |zero=>
    simp at m;subst m;rcases p with p|⟨a,b,c⟩|⟨a,b,c⟩
    ·exact .inl p
    ·exact .inr (.inl ⟨a,b,x,rfl,c⟩)
    ·exact .inr (.inr ⟨a,b,by rw[c];rfl⟩)
   |succ j=>exact u j r (by simpa using m)
  cases f:ks.contains i with
  |true=>exact e k (by show _=_;refine h1.trans ?_;simp only[f]) (.inl ⟨f,rfl⟩)
  |false=>
   cases g:d.contains i with
   |false=>exact e x (by refine h1.trans ?_;simp only[f,g]) (.inr (.inr ⟨f,g,rfl⟩))
   |true=>
    cases x with
    |row o=>exact e (.any o.length) (by refine h1.trans ?_;simp only[f,g,vt]) (.inr (.inl ⟨f,g,.inr ⟨_,rfl,.inr ⟨o,rfl,rfl⟩⟩⟩))
    |any n=>exact e (.any n) (by refine h1.trans ?_;simp only[f,g]) (.inr (.inl ⟨f,g,.inr ⟨_,rfl,.inl rfl⟩⟩))
    |unk=>exact e .unk (by refine h1.trans ?_;simp only[f,g]) (.inr (.inl ⟨f,g,.inl rfl⟩))
    |nil=>exact e .unk (by refine h1.trans ?_;simp only[f,g]) (.inr (.inl ⟨f,g,.inl rfl⟩))
def Mz{C:Cfg}{T:Tq}(hA:AlgOk A C Sg T holds abs):∀(lv:List (Nat×SK)) (xs:List S0) (tm:List SV) (K:List SV->R),holds (upT A lv xs tm K)->cX xs (lv.map (·.2))=true->
  ∃a,holds (K a)/\a.length=tm.length/\∀(j:Nat) s,a[j]?=some s->tm[j]?=some s∨∃e x,(j,e)∈lv/\s = .st x/\((j,e),x)∈lv.zip xs
 | [],xs,tm,K,d,_=>⟨tm,d,rfl,λj s f=>.inl f⟩
 |p :: lv,[],tm,K,d,h=>by cases h
 |p :: lv,x :: xs,tm,K,d,h=>by
  simp only[AL,cX,uc]at h;have c:holds (setK (.st x) tm p.1 λtm=>upT A lv xs tm K):=d;rw[setK_eq]at c;obtain⟨a,g,i,k⟩:=Mz hA lv xs _ K c h.2;refine⟨a,g,by rw[i];simp,λj s f=>?_⟩;rcases k j s f with b|⟨e,y,b,l,m⟩
  ·simp only[DX]at b;split at b
   next n=>
    split at b
    ·cases b;subst n;exact .inr ⟨p.2,x,by simp,rfl,by simp⟩
    ·cases b
   ·exact .inl b
  ·exact .inr ⟨e,y,by simp[b],l,by simp[m]⟩
def My{C:Cfg}{T:Tq}(hA:AlgOk A C Sg T holds abs):∀(lv:List (Nat×List LK)) (ls:TB) (c:List LR) (K:List LR->TB->R),holds (upR A lv ls c K)->
  ∃(b:List LR) (r:TB) (a:List (List SL)),holds (K b r)/\ls=(a.map (·.map SL.lf)).flatten++r/\a.length=lv.length/\(∀(i:Nat) p cs,lv[i]?=some p->a[i]?=some cs->aZ cs p.2=true)/\b.length=c.length/\
   ∀(j:Nat) s,b[j]?=some s->c[j]?=some s∨∃(i:Nat) (ks:TE) (cs:List SL),lv[i]?=some (j,ks)/\a[i]?=some cs/\s = .row cs
 | [],ls,c,K,k=>⟨c,ls,[],k,rfl,rfl,λ_ _ _ h=>by simp at h,rfl,λj s n=>.inl n⟩
 |p :: lv,ls,c,K,k=>by
  have l:holds (Iz A p.2 ls λcs r=>setK (.row cs) c p.1 λc=>upR A lv r c K):=k;obtain⟨cs,r,o,t,e⟩:=qM hA l;rw[setK_eq]at e;obtain⟨b,F,a,u,v,w,x,y,z⟩:=My hA lv r _ K e;refine⟨b,F,cs :: a,u,by rw[o,v];simp,by simp[w],λi q f m g=>?_,by rw[y];simp,λj s n=>?_⟩
  ·cases i with
   |zero=>simp at m g;subst m;subst g;exact t
   |succ i=>exact x i q f (by simpa using m) (by simpa using g)
  ·rcases z j s n with d|⟨i,ks,f,d,B,D⟩
   ·simp only[DX]at d;split at d
    next E=>
     split at d
     ·cases d;subst E;exact .inr ⟨0,p.2,cs,rfl,rfl,rfl⟩
     ·cases d
    ·exact .inl d
   ·exact .inr ⟨i+1,ks,f,by simpa using d,by simpa using B,D⟩
def Ll{b:Env}{σ:St}(c:Rp b σ):∀ {lv:List (Nat×SK)} {ls:TB},pkT b.tm lv=some ls->
  ∃xs,cP xs=ls/\cX xs (lv.map (·.2))=true/\(∀x∈xs,x.good)/\∀p∈lv.zip xs,σ.tmps[p.1.1]?=some p.2.val
 | [],ls,h=>by cases h;exact⟨[],rfl,rfl,by simp,by simp⟩
 |(t,m) :: lv,ls,h=>by
  simp only[pkT]at h;split at h
  next x l k j=>
   split at h
   next a=>
    cases h;obtain⟨xs,h1,f,g,i⟩:=Ll c j;obtain⟨d,e⟩:=c.at k (by simp);refine⟨x :: xs,by simp[cP,h1],by simp[cX,a,f],qbz.2 ⟨e,g⟩,λp hp=>?_⟩;simp only[List.zip_cons_cons,qar]at hp;rcases hp with rfl|hp
    ·exact d
    ·exact i p hp
   ·cases h
  ·cases h
def Lk{b:Env}{σ:St}(g:Rp b σ):∀ {lv:List (Nat×List LK)} {ls:TB},pkR b.lc lv=some ls->
  ∃a:List (List SL),(a.map (·.map SL.lf)).flatten=ls/\a.length=lv.length/\(∀(i:Nat) p cs,lv[i]?=some p->a[i]?=some cs->aZ cs p.2=true/\(∀c∈cs,c.good)/\σ.loc[p.1]?=some (some (cs.map SL.val)))
 | [],ls,h=>by cases h;exact⟨[],rfl,rfl,λ_ _ _ h=>by simp at h⟩
 |(s,ks) :: lv,ls,h=>by
  simp only[pkR]at h;split at h
  next cs t r o=>
   split at h
   next e=>
    cases h;obtain⟨a,h1,m,n⟩:=Lk g o;have q:sG b s=some cs:=by unfold sG;rw[r]
    obtain⟨k,l,_⟩:=kg g q;refine⟨cs :: a,by simp[h1],by simp[m],λi p j f d=>?_⟩;cases i with
    |zero=>simp at f d;subst f;subst d;exact⟨e,l,k⟩
    |succ i=>exact n i p j (by simpa using f) (by simpa using d)
   ·cases h
  ·cases h
def Jm:∀ {lv:List (Nat×List LK)} {a b:List (List SL)} {r:TB},a.length=lv.length->b.length=lv.length->
  (∀(i:Nat) p c,lv[i]?=some p->a[i]?=some c->aZ c p.2=true)->(∀(i:Nat) p c,lv[i]?=some p->b[i]?=some c->aZ c p.2=true)->
  (a.map (·.map SL.lf)).flatten=(b.map (·.map SL.lf)).flatten++r->r=[]/\∀(i:Nat) x y,a[i]?=some x->b[i]?=some y->x.map SL.lf=y.map SL.lf
 | [],a,b,r,la,lb,_,_,h=>by
  have la:a=[]:=by simpa using la
  have lb:b=[]:=by simpa using lb
  subst la;subst lb;simp at h;exact⟨h,λi x y w=>by simp at w⟩
 |p :: lv,a,b,r,la,lb,j,k,h=>by
  cases a with
  |nil=>simp at la
  |cons x a=>cases b with
   |nil=>simp at lb
   |cons y b=>
    simp only[AL,Vt,AN]at h;have s:=bN (j 0 p x rfl rfl);have t:=bN (k 0 p y rfl rfl);obtain⟨l,m⟩:=qdW h (by simp[s,t]);obtain⟨n,o⟩:=Jm (lv:=lv) (by simpa using la) (by simpa using lb) (λi q c e d=>j (i+1) q c (by simpa using e) (by simpa using d))
     (λi q c e d=>k (i+1) q c (by simpa using e) (by simpa using d)) m
    refine⟨n,λi u v f g=>?_⟩;cases i with
    |zero=>simp at f g;subst f;subst g;exact l
    |succ i=>exact o i u v (by simpa using f) (by simpa using g)
def yX{α β:Type}{l:List α}{m:List β}{p:α×β}(h:p∈l.zip m):∃i:Nat,l[i]?=some p.1/\m[i]?=some p.2:=by
 obtain⟨i,a⟩:=Dd h;rw[qdH]at a;exact⟨i,a⟩
def qg:∀ {a b:List S0} {sks:TH},cX a sks=true->cX b sks=true->(cP a).length=(cP b).length
 | [],[],[],_,_=>rfl
 |x :: a,y :: b,k :: sks,c,d=>by
  simp only[cX,uc]at c d;obtain⟨n,e,f⟩:=S0.is_len c.1;simp only[cP,A5,AZ,e,f y d.1,qg c.2 d.2]
 | [],_ :: _,[],_,d=>by cases d
 | [],_,_ :: _,c,_=>by cases c
 |_ :: _,_,[],c,_=>by cases c
 |_ :: _,[],_ :: _,_,d=>by cases d
structure Like(ks:Tx)(nw:LR)(σ' τ:St):Prop where
 tlen:τ.tmps.length=σ'.tmps.length
 llen:τ.loc.length=σ'.loc.length
 tm:∀(i:Nat) v,σ'.tmps[i]?=some v->noLoc v=true->τ.tmps[i]?=some v
 tp:∀(i s off:Nat),σ'.tmps[i]?=some (.pointer (some ⟨s,off,some 0⟩))->s∉ks->τ.tmps[i]?=some (.pointer (some ⟨s,off,some 0⟩))
 row:∀(s:Nat) x,σ'.loc[s]?=some x->s∉ks->τ.loc[s]?=some x
 new:∀s,s∈ks->s<τ.loc.length->nw.ok τ.loc s
theorem Like.refl(ks:Tx)(σ:St):Like ks .unk σ σ:=⟨rfl,rfl,λ_ _ h _=>h,λ_ _ _ h _=>h,λ_ _ h _=>h,λ_ _ _=>trivial⟩
def LI{C:Cfg}{T:Tq}(hA:AlgOk A C Sg T holds abs){pts:Tx}{c:Code}{nw:LR}{lv:Live}{O P:Env}{σ σ' τ:St}{ls:TB}{K:Env->R}
  (I:Rp O σ) (S:Rp P σ') (D:Fr (Dq c) (aO pts c) (Cm pts c) σ σ') (hp:pk P lv=some ls) (hτ:Like (aO pts c) nw σ' τ)
  (j:τ=σ'∨∀p∈lv.rows,p.1∉aO pts c) (hk:holds (reE A pts c nw lv O ls K)):∃Q,Rp Q τ/\holds (K Q):=by
 unfold reE at hk;obtain⟨a4,h1,h2,h3⟩:=E7 (Dq c) (aO pts c) O.tm 0 λtm=>Jd (Cm pts c) (aO pts c) nw O.lc 0 λG=>
  EW A (lv.tm.map (·.2)) ls λL r=>upT A lv.tm L tm λtm=>upR A lv.rows r G λG r=>A.un0 r (K ⟨tm,G⟩)
 rw[h1]at hk;obtain⟨a7,g1,g2,g3⟩:=E6 (Cm pts c) (aO pts c) nw O.lc 0 λG=>
  EW A (lv.tm.map (·.2)) ls λL r=>upT A lv.tm L a4 λtm=>upR A lv.rows r G λG r=>A.un0 r (K ⟨tm,G⟩)
 rw[g1]at hk;obtain⟨L,r,e1,e2,ad⟩:=sU hA hk;obtain⟨Y,af,u1,u2⟩:=Mz hA _ _ _ _ ad e2;obtain⟨W,r2,a6,ag,v1,v2,v3,v4,v5⟩:=My hA _ _ _ _ af;obtain⟨ay,an⟩:=hA.un0 _ _ ag;subst ay;rw[Ci]at v1;unfold pk at hp;split at hp
 next la lb ar ax=>
  cases hp;obtain⟨ys,y1,y2,y3,y4⟩:=Ll S ar;obtain⟨z,d1,d2,d3⟩:=Lk S ax;rw[←y1,←d1]at e1;obtain⟨s1,s2⟩:=qdW e1 (qg y2 e2);obtain⟨w1,w2⟩:=dy y2 e2 s1;have E:=w2 y3;obtain⟨_,z2⟩:=Jm (r:=[]) d2 v2 (λi p H a b=>(d3 i p H a b).1) v3 (by rw[s2,v1,Ci]);refine⟨⟨Y,W⟩,⟨?_,λi s hs=>?_,?_,λi s hs=>?_⟩,an⟩
  ·show Y.length=_;rw[u1,h2,I.len,hτ.tlen,D.tlen]
  ·rcases u2 i s hs with u|⟨sk,x,M,rfl,a3⟩
   ·rcases h3 i s u with rfl|⟨o,q,w⟩
    ·trivial
    ·have e:=I.val i s o;rw[Br]at q;have q:i∉Dq c:=by simpa using q
     have d:∀v,σ.tmps[i]?=some v->noLoc v=true->τ.tmps[i]?=some v:=λv F U=>hτ.tm i v (D.tm i v F q U) U;have m:∀s f,σ.tmps[i]?=some (.pointer (some ⟨s,f,some 0⟩))->s∉aO pts c->τ.tmps[i]?=some (.pointer (some ⟨s,f,some 0⟩)):=λs f F U=>
      hτ.tp i s f (D.tp i s f F q U) U
     cases s with
     |no=>trivial
     |st x=>exact⟨d _ e.1 (S0.noLoc e.2),e.2⟩
     |tup L=>simp[SV.inRows]at w
     |un=>exact⟨d _ e.1 rfl,trivial⟩
     |gad g f=>exact⟨d _ e.1 rfl,trivial⟩
     |gdx g N ix=>exact⟨d _ e.1 rfl,trivial⟩
     |lad s f=>exact⟨m s f e.1 (by simpa[SV.inRows]using w),trivial⟩
     |ldx s N ix=>exact⟨m s _ e.1 (by simpa[SV.inRows]using w),trivial⟩
   ·obtain⟨k,q1,q2⟩:=yX a3;simp only at q1 q2;have V:(au L)[k]?=some x.val:=by simp[au,q2]
    rw[←w1]at V;simp only[au,AU,qag]at V;obtain⟨y,aE,a0⟩:=V;have hm:((i,sk),y)∈lv.tm.zip ys:=by
     apply Af (i:=k);rw[qdH];exact⟨q1,aE⟩
    have F:=y4 _ hm;simp only at F;rw[a0]at F;have gx:=E x (Af q2);exact⟨hτ.tm i _ F (S0.noLoc gx),gx⟩
  ·show W.length=_;rw[v4,g2,I.llen,hτ.llen,D.llen]
  ·rcases v5 i s hs with u|⟨k,ks,H,M,a2,rfl⟩
   ·rcases g3 i s u with⟨o,rfl⟩|⟨o,q,r0,w,b4⟩|⟨o,q,w⟩
    ·rw[Br]at o;refine hτ.new i (by simpa using o) ?_;rw[hτ.llen,D.llen,←I.llen,←g2];exact(qbh.1 u).1
    ·rw[Br]at o;have t:i∉aO pts c:=by simpa using o
     have B:=I.row i r0 w;rcases b4 with rfl|⟨n,rfl,b4⟩
     ·trivial
     ·have:∃J,σ.loc[i]?=some (some J)/\J.length=n:=by
       rcases b4 with rfl|⟨H,rfl,hl⟩
       ·exact B
       ·exact⟨_,B.1,by simpa using hl⟩
      obtain⟨J,c1,c2⟩:=this;obtain⟨a5,c3,c4⟩:=D.rlen i J c1 t;exact⟨a5,hτ.row i _ c3 t,c4.trans c2⟩
    ·rw[Br]at o q;have t:i∉aO pts c:=by simpa using o
     have ap:i∉Cm pts c:=by simpa using q
     have B:=I.row i s w;have l:∀x,σ.loc[i]?=some x->τ.loc[i]?=some x:=λx V=>hτ.row i x (D.row i x V ap) t;cases s with
     |unk=>trivial
     |nil=>exact l _ B
     |any n=>obtain⟨J,c1,c2⟩:=B;exact⟨J,l _ c1,c2⟩
     |row H=>exact⟨l _ B.1,B.2⟩
   ·have hd:∃Z,z[k]?=some Z:=by
     have:k<z.length:=by rw[d2];exact(qbh.1 M).1
     exact⟨z[k],by simp[this]⟩
    obtain⟨Z,hd⟩:=hd;obtain⟨f1,f2,f3⟩:=d3 k _ Z M hd;have f4:=v3 k _ H M a2;obtain⟨m1,m2⟩:=gM f1 f4 (z2 k Z H hd a2);simp only at f3;rw[m1]at f3;refine⟨?_,m2 f2⟩;rcases j with rfl|j
    ·exact f3
    ·exact hτ.row i _ f3 (j (i,ks) (Af M))
 ·cases hp
end
end Sx
namespace Sx
section
variable [Val] [Kno] {R HT:Type} {A:Alg R HT} {X:Ctxt} {Sg:Tc} {holds:R->Prop} {abs:HT->Tp}
def er(X:Ctxt)(c:AC):Code:=c.erase λκ t=>iO (X.T κ) t
def VA(X:Ctxt)(holds:R->Prop)(abs:HT->Tp)(c:Code)(σ:St)(a:KN R HT)(b:Exit->KN R HT):Prop:=
 ∃e σ' ev' h',uEx X.C X.pts c σ e σ'/\Rp ev' σ'/\abs h'=σ'.heap/\Fr (Dq c) (aO X.pts c) (Cm X.pts c) σ σ'/\((e = .normal/\holds (a ev' h'))∨(e≠.normal/\holds (b e ev' h')))
def rR(hA:AlgOk A X.C Sg X.T holds abs){c:Code}{j:Option Live}{l:Env}{σ:St}{d:KN R HT}{b:KN R HT->R}{u:Exit->KN R HT}{f:Code}
  (t:Dq f=Dq c) (q:aO X.pts f=aO X.pts c) (s:Cm X.pts f=Cm X.pts c)
  (x:Rp l σ) (r:∀d,holds (b d)->VA X holds abs f σ d u) (k:holds (ue A X.pts c j l d b)):VA X holds abs f σ d u:=by
 unfold ue at k;cases j with
 |none=>exact r d k
 |some lv=>
  obtain⟨e,σ',h,m,n,o,p,g,a⟩:=r _ (hA.join _ _ k);rcases a with⟨rfl,a⟩|a
  ·simp only at a;split at a
   next z y=>
    rw[t,q,s]at g;obtain⟨i,v,w⟩:=LI hA x o g y (.refl _ _) (.inl rfl) a;exact⟨.normal,σ',i,m,n,v,p,by rw[t,q,s];exact g,.inl ⟨rfl,w⟩⟩
   ·exact absurd a hA.fail
  ·exact⟨e,σ',h,m,n,o,p,g,.inr a⟩
def Nv(pts:Tx):∀c:Code,∀s∈aO pts c,s∈Cm pts c:=by
 intro c
 induction c with
 |region id m k=>
  intro s d;simp only[aO,qaG]at d;simp only[Cm,qaG];obtain⟨o,l,d⟩:=d;refine⟨o,l,?_⟩;unfold jq;split at d
  next i j=>
   simp only[i,j];exact d
  next i j=>
   simp only[i,j];exact d
  ·cases d
 |seq a b e g=>intro s d;simp only[aO,Cm,qas]at d ⊢;exact d.imp (e s) (g s)
 |cond c a b e g=>intro s d;simp only[aO,Cm,qas]at d ⊢;exact d.imp (e s) (g s)
 |block id b h=>exact h
 |loop b h=>exact h
 |scope b h=>exact h
 |rangeFunc f n a b e g=>intro s d;simp only[aO,Cm,qas]at d ⊢;exact d.imp (e s) (g s)
 |_=>intro s d;cases d
def tB{b:Tx}{v:Value}(h:noLoc v=true):iZ b v=v:=by
 unfold iZ;split
 next a=>
  split
  next c=>
   simp only[uc,BF]at c;simp[noLoc,aP,bg,aW,c.1]at h
  ·rfl
 ·rw[mc h]
def tA{a:Tx}{s off:Nat}(h:s∉a):iZ a (.pointer (some ⟨s,off,some 0⟩)) = .pointer (some ⟨s,off,some 0⟩):=by
 unfold iZ;simp[h]
def iI{σ:St}{a:Tx}{i:Nat}{v:Value}(b:σ.tmps[i]?=some v)(c:iZ a v=v):(σ.clear a).tmps[i]?=some v:=by
 unfold St.clear;split
 ·exact b
 ·simp[b,c]
def nq{σ:St}{a:Tx}{s:Nat}{x:Option (Tk)}(b:σ.loc[s]?=some x)(c:s∉a):(σ.clear a).loc[s]?=some x:=by
 unfold St.clear;split
 ·exact b
 ·simp only;rw[eV,Br,po (by simpa using c)];exact b
def GV{σ:St}{a:Tx}{s:Nat}(b:s∈a)(c:s<σ.loc.length):(σ.clear a).loc[s]?=some none:=by
 unfold St.clear;split
 next e=>rw[e]at b;cases b
 ·simp only;rw[eV,Br,mc (by simpa using b)];simp[c]
def pO{σ:St}{a:Tx}:(σ.clear a).tmps.length=σ.tmps.length:=by unfold St.clear;split<;>simp
def iY(a:Tx):∀(l:List (Option (Tk))) (i:Nat),(gS a l i).length=l.length
 | [],_=>rfl
 |_ :: l,i=>by simp[gS,iY a l]
def kG{σ:St}{a:Tx}:(σ.clear a).loc.length=σ.loc.length:=by unfold St.clear;split<;>simp[iY]
def yC{σ:St}{a:Tx}:(σ.clear a).heap=σ.heap:=by unfold St.clear;split<;>rfl
def yD(σ:St)(a:Tx):Like a .nil σ (σ.clear a):=
 ⟨pO,kG,λ_ _ h b=>iI h (tB b),λ_ _ _ h b=>iI h (tA b),λ_ _ h b=>nq h b,λ_ h c=>GV h (by rw[kG]at c;exact c)⟩
def Jb{σ:St}{g a d:Tx}(c:∀s∈a,s∈d):Fr g a d σ (σ.clear a):=
 ⟨pO,kG,λ_ _ h _ b=>iI h (tB b),λ_ _ _ h _ b=>iI h (tA b),λs _ h b=>nq h λe=>b (c s e),
  λs f h b=>⟨f,nq h b,rfl⟩⟩
def FZ(hA:AlgOk A X.C Sg X.T holds abs){ops:Tl}:∀(l:Tu) (i:Nat) (j:List (TH)) (c:Env) (h:HT) (σ:St) (K:Env->HT->List HT->R),l <+: ops.toList.drop i->Rp c σ->abs h=σ.heap->holds (Sx.opsM A X Sg ops l j c h K)->
  ∃σ' a g b,Sx.opsTr X.C (uB X.C) X.pts ops (List.range' i l.length) σ (b.map abs) σ'/\Rp a σ'/\abs g=σ'.heap/\Fr (MD l) (Kk X.pts l) (LM X.pts l) σ σ'/\holds (K a g b)
 | [],i,j,c,h,σ,K,_,m,n,p=>⟨σ,c,h,[],⟨rfl,rfl⟩,m,n,.refl _ _ _ _,p⟩
 |o :: l,i,j,c,h,σ,K,b,m,n,p=>by
  have k:ops[i]?=some o:=by
   obtain⟨t,b⟩:=b;have:(ops.toList.drop i)[0]?=some o:=by rw[←b];rfl
   simpa using this
  obtain⟨σ₁,c₁,h₁,E,F,s,G,H⟩:=xC (K:=λc h=>Sx.opsM A X Sg ops l j.tail c h λa g b=>K a g (h :: b)) hA m n k p;have q:l <+: ops.toList.drop (i+1):=by
   obtain⟨t,b⟩:=b;exact⟨t,by rw[←Lw,←b];rfl⟩
  obtain⟨σ',a,g,r,w,y,z,B,D⟩:=FZ hA l (i+1) j.tail c₁ h₁ σ₁ _ q F s H;refine⟨σ',a,g,h₁ :: r,⟨σ₁,r.map abs,E,by rw[AL,s],w⟩,y,z,?_,D⟩;have u:Fr (MD (o :: l)) (Kk X.pts (o :: l)) (LM X.pts (o :: l)) σ σ₁:=G.mono (bu (by simp)) (bu (by simp)) (bu (by simp));have d:∀(f:Oper->To) (i:Nat),i∈l.filterMap f->i∈(o :: l).filterMap f:=by
   intro f i k;rw[qaG]at k ⊢;obtain⟨x,v,e⟩:=k;exact⟨x,by simp[v],e⟩
  exact u.trans (B.mono (d _) (d _) (d _))
def M5(h0:HT)(a:List HT)(p:Nat×Nat):abs (Sx.atM h0 a p)=Sx.atM (abs h0) (a.map abs) p:=by
 unfold Sx.atM;rw[←AL,List.getD_eq_getElem?_getD,List.getD_eq_getElem?_getD,AU];cases (h0 :: a)[match Nat.ble p.1 p.2 with|true=>p.2+1|false=>p.2]?<;>rfl
def LJ(hA:AlgOk A X.C Sg X.T holds abs){ops:Tl}{g:List (TH)}{a:Env}{h0:HT}{c:List HT}{K:R}{σ σ':St}(f:Rp a σ')(b:abs h0=σ.heap):∀ {l:List (Nat×Nat)},holds (Sx.reM A X Sg ops g a h0 c K l)->
  Sx.AgainAt X.C (uB X.C) X.pts ops σ (c.map abs) σ' l/\holds K
 | [],h=>⟨λp hp=>(by cases hp),h⟩
 |q :: l,h=>by
  have h:holds (match ops[q.1]? with
   |some o=>match o.dst with
    |some d=>Up A X Sg ops o (g.getD q.1 []) a (Sx.atM h0 c q) λe _=>Sx.samS A (a.tm.getD d .no) (e.tm.getD d .no) (Sx.reM A X Sg ops g a h0 c K l)
    |none=>A.fail
   |none=>A.fail):=h
  split at h
  next o i=>
   split at h
   next d j=>
    obtain⟨σ₂,a₂,h₂,k,m,w,_,n⟩:=xC (σ:={ σ' with heap:=Sx.atM σ.heap (c.map abs) q }) hA (f.heap _) (by rw[M5 (abs:=abs),b]) i h;obtain⟨⟨x,t,u⟩,v⟩:=Sx.samS_ok hA f m n;obtain⟨r,s⟩:=LJ hA f b v;refine⟨λp hp=>?_,s⟩;rcases qar.1 hp with rfl|hp
    ·exact⟨σ₂,k,o,d,x,i,j,t,u⟩
    ·exact r p hp
   ·exact absurd h hA.fail
  ·exact absurd h hA.fail
def N2(hA:AlgOk A X.C Sg X.T holds abs){P:Dr}
  (W:Sx.DrOk X.C P) :
  ∀(c:AC) (g:Env) (h:HT) (σ:St) (r:KN R HT) (B:Exit->KN R HT),Rp g σ->abs h=σ.heap->holds (exec A X Sg P c g h r B)->VA X holds abs (er X c) σ r B:=by
 intro c
 induction c with
 |skip=>intro g h σ r B hR ha k;exact⟨.normal,σ,g,h,.skip,hR,ha,.refl _ _ _ _,.inl ⟨rfl,k⟩⟩
 |ret=>intro g h σ r B hR ha k;exact⟨.ret,σ,g,h,.ret,hR,ha,.refl _ _ _ _,.inr ⟨by simp,k⟩⟩
 |exit id=>intro g h σ r B hR ha k;exact⟨.exit id,σ,g,h,.exit,hR,ha,.refl _ _ _ _,.inr ⟨by simp,k⟩⟩
 |label l=>intro g h σ r B hR ha k;exact⟨.normal,σ,g,h,.label,hR,ha,.refl _ _ _ _,.inl ⟨rfl,k⟩⟩
 |seq a b ad af=>
  intro g h σ r B hR ha k;obtain⟨e,σ₁,g₁,h₁,I,L,O,V,w⟩:=ad g h σ _ _ hR ha k;have m1:Fr (Dq (er X (.seq a b))) (aO X.pts (er X (.seq a b))) (Cm X.pts (er X (.seq a b))) σ σ₁:=
   V.mono (λi s=>DW _ s) (λi s=>DW _ s) (λi s=>DW _ s)
  rcases w with⟨rfl,w⟩|⟨w,q6⟩
  ·obtain⟨e',σ',z,J,G,H,N,S,F⟩:=af g₁ h₁ σ₁ r B L O w;exact⟨e',σ',z,J,.seq I G,H,N,m1.trans (S.mono (λi s=>Lz _ s) (λi s=>Lz _ s) (λi s=>Lz _ s)),F⟩
  ·exact⟨e,σ₁,g₁,h₁,.seqX I w,L,O,m1,.inr ⟨w,q6⟩⟩
 |scope b ih=>
  intro g h σ r B hR ha k;obtain⟨e,σ₁,g₁,h₁,I,q⟩:=ih g h σ r B hR ha k;exact⟨e,σ₁,g₁,h₁,.scope I,q⟩
 |region id D E hs j=>
  intro g h σ r B hR ha k;have v:holds (match drX P E X.pts D with
   |none=>A.fail
   |some ps=>ue A X.pts (.region id D E) j g r λr=>Sx.regE A X Sg D hs ps g h r):=k
  split at v
  ·exact absurd v hA.fail
  next ps hd=>
   refine rR hA (c:=.region id D E) rfl rfl rfl hR (λr k=>?_) v;unfold Sx.regE at k;cases K:Sx.manyOf ps with
   |some l=>
    rw[K]at k;simp only at k;obtain⟨σ',z,J,hl,G,H,N,S,F⟩:=FZ hA D.toList 0 hs g h σ _ (by rw[F9];exact qdQ _) hR ha k;obtain⟨F,p6⟩:=LJ (σ:=σ) hA H ha F;have G:Sx.opsTr X.C (uB X.C) X.pts D (List.range D.size) σ (hl.map abs) σ':=by
     rw[UF];simpa using G
    refine⟨.normal,σ',z,J,?_,H,N,S,.inl ⟨rfl,p6⟩⟩;cases E with
    |false=>cases hd;cases K
    |true=>
     have M:=W _ _ _ hd;rw[K]at M;obtain⟨n,g1⟩:=Sx.opsTr_at G;obtain⟨m,g2⟩:=Sx.again_at F;exact .drawA (M (max n m) σ σ' _ (g1 _ (Vp _ _)) (g2 _ (qdj _ _)))
   |none=>
    rw[K]at k;simp only at k;cases Q:Sx.splOf ps with
    |none=>
     rw[Q]at k;simp only at k;obtain⟨σ',z,J,G,H,N,S,F⟩:=O8 hA D.toList 0 hs g h σ rfl hR ha k;obtain⟨F,p6⟩:=Sx.sepK_ok hA H F;have G:bK X.C (uB X.C) X.pts D (List.range D.size) σ σ':=by
      rw[UF];simpa using G
     refine⟨.normal,σ',z,J,?_,H,N,S,.inl ⟨rfl,p6⟩⟩;cases E with
     |false=>exact .region G
     |true=>
      have M:=W _ _ _ hd;rw[K]at M;simp only at M;rw[Q]at M;exact .draw (λn hn=>M n _ _ hn F) G
    |some q=>
     rw[Q]at k;simp only at k;obtain⟨σ₁,g₁,h₁,G,H,N,S,F⟩:=mR hA (D.toList.take (q.2+1)) 0 hs g h σ (by rw[F9];exact List.take_prefix _ _) hR ha k;unfold Sx.reK at F;split at F
     next o ho=>
      split at F
      next d ay=>
       obtain⟨σ₂,g₂,h₂,I,L,O,_,w⟩:=xC hA H N ho F;simp only at w;split at w
       next x y hx hy=>
        obtain⟨u,e1,e2⟩:=hA.opt _ _ w;have e1:=Sx.eqFn_ok e1;subst e1;have sm:Sx.SameAt D q.1 σ₁ σ₂:=⟨o,d,x,ho,ay,Sx.entF_ok H hx,Sx.entF_ok L hy⟩;obtain⟨σ',z,J,r1,r2,r3,r4,r5⟩:=mR hA (D.toList.drop (q.2+1)) (q.2+1) _ g₁ h₁ σ₁ (qdQ _) H N e2;refine⟨.normal,σ',z,J,?_,r2,r3,?_,.inl ⟨rfl,r5⟩⟩
        ·cases E with
         |false=>cases hd;cases Q
         |true=>
          have M:=W _ _ _ hd;rw[K]at M;simp only at M;rw[Q]at M;exact .drawS (λn h1 h2 h3=>M n _ _ _ _ h1 h2 sm h3) G I r1
        ·refine(S.mono (λi s=>?_) (λi s=>?_) (λi s=>?_)).trans (r4.mono (λi s=>?_) (λi s=>?_) (λi s=>?_))
         all_goals
          replace s:=qaG.1 s
          obtain⟨o,ho,e⟩:=s;exact qaG.2 ⟨o,(by first|exact Iv ho|exact LA ho),e⟩
       ·exact absurd w hA.fail
      ·exact absurd F hA.fail
     ·exact absurd F hA.fail
 |cond c a b j ad af=>
  intro g h σ r B hR ha k;have v:holds (match sval g c with
   | .st (.leaf (.l true))=>exec A X Sg P a g h r B
   | .st (.leaf (.l false))=>exec A X Sg P b g h r B
   | .st (.leaf (.b t))=>ue A X.pts (er X (.cond c a b j)) j g r λr=>A.cond t (exec A X Sg P a g h r B) (exec A X Sg P b g h r B)
   |_=>A.fail):=k
  have ga:∀ {r},ke σ.tmps c = .bool true->holds (exec A X Sg P a g h r B)->VA X holds abs (er X (.cond c a b j)) σ r B:=by
   intro r hc k;obtain⟨e,σ₁,g₁,h₁,I,L,O,V,w⟩:=ad g h σ r B hR ha k;exact⟨e,σ₁,g₁,h₁,.cond hc I,L,O,V.mono (λi s=>DW _ s) (λi s=>DW _ s) (λi s=>DW _ s),w⟩
  have gb:∀ {r},ke σ.tmps c = .bool false->holds (exec A X Sg P b g h r B)->VA X holds abs (er X (.cond c a b j)) σ r B:=by
   intro r hc k;obtain⟨e,σ₁,g₁,h₁,I,L,O,V,w⟩:=af g h σ r B hR ha k;exact⟨e,σ₁,g₁,h₁,.cond hc (show uEx X.C X.pts (if false=true then er X a else er X b) σ e σ₁ by rw[po (by simp)];exact I),L,O,V.mono (λi s=>Lz _ s) (λi s=>Lz _ s) (λi s=>Lz _ s),w⟩
  split at v
  next e=>exact ga (hR.sval e (by simp)).1 v
  next e=>exact gb (hR.sval e (by simp)).1 v
  next t e=>
   have h1:=(hR.sval e (by simp)).1;refine rR hA (c:=er X (.cond c a b j)) rfl rfl rfl hR (λr k=>?_) v;rcases hA.cond _ _ _ k with⟨ht,Y⟩|⟨ht,Y⟩
   ·exact ga (by rw[h1,ht];rfl) Y
   ·exact gb (by rw[h1,ht];rfl) Y
  ·exact absurd v hA.fail
 |block id b j ih=>
  intro g h σ r B hR ha k;refine rR hA (c:=er X b) rfl rfl rfl hR (λr k=>?_) (show holds (ue A X.pts (er X b) j g r λr=>exec A X Sg P b g h r λe=>match tL e id with
   |true=>r
   |false=>B e)from k)
  obtain⟨e,σ₁,g₁,h₁,I,L,O,V,w⟩:=ih g h σ _ _ hR ha k;refine⟨jh id e,σ₁,g₁,h₁,.block I,L,O,V,?_⟩;rcases w with⟨rfl,w⟩|⟨w,q6⟩
  ·exact .inl ⟨rfl,w⟩
  ·cases e with
   |normal=>exact absurd rfl w
   |exit i=>
    by_cases s:i=id
    ·subst s;left;simp only[jh,if_true,true_and];simpa[tL]using q6
    ·right;simp only[jh,po s];refine⟨by simp,?_⟩;have:Nat.beq i id=false:=by
      rw[←Cz];intro h;exact s (AE h)
     simpa[tL,this]using q6
   |_=>exact .inr ⟨by simp[jh],by simpa[tL,jh]using q6⟩
 |loop b lv ih=>
  intro g h σ r B hR ha k;have v:holds (match pk g lv with
   |none=>A.fail
   |some U=>match lv.rows.all λp=>!(aO X.pts (er X b)).contains p.1 with
    |false=>A.fail
    |true=>A.loop (λap U h=>reE A X.pts (er X b) .nil lv g U λg=>exec A X Sg P b g h (λg h=>match pk g lv with
     |some U=>ap U h
     |none=>A.fail) B) U h):=k
  split at v
  ·exact absurd v hA.fail
  next a2 aE=>
   split at v
   ·exact absurd v hA.fail
   next ax=>
    have Z:∀p∈lv.rows,p.1∉aO X.pts (er X b):=by
     intro p hp;have:=qab.1 ax p hp;simpa using this
    obtain⟨it,i0,i1,n,hn⟩:=hA.loop _ _ _ v;have an:∀(n:Nat) (U:TB) (h:HT) (τ:St) (gτ:Env),Rp gτ τ->Fr (Dq (er X b)) (aO X.pts (er X b)) (Cm X.pts (er X b)) σ τ->pk gτ lv=some U->abs h=τ.heap->holds (it n U h)->
      ∃e σ' z J,uEx X.C X.pts (.loop (er X b)) τ e σ'/\e≠.normal/\Rp z σ'/\abs J=σ'.heap/\Fr (Dq (er X b)) (aO X.pts (er X b)) (Cm X.pts (er X b)) σ σ'/\holds (B e z J):=by
     intro n
     induction n with
     |zero=>intro U h τ gτ _ _ _ _ hh;exact absurd hh (i0 _ _)
     |succ n a1=>
      intro U h τ gτ hRτ hF hp haτ hh;rw[i1]at hh;obtain⟨ar,g1,g2⟩:=LI hA hR hRτ hF hp (yD τ _) (.inr Z) hh;obtain⟨e,σ₁,g₁,h₁,I,L,O,V,w⟩:=ih ar h (τ.clear (aO X.pts (er X b))) _ _ g1 (by rw[yC];exact haτ) g2;have ag:Fr (Dq (er X b)) (aO X.pts (er X b)) (Cm X.pts (er X b)) σ σ₁:=(hF.trans (Jb (Nv _ _))).trans V;rcases w with⟨rfl,w⟩|⟨w,q6⟩
      ·simp only at w;split at w
       next a3 a0=>
        obtain⟨e',σ',z,J,G,H,N,S,F,p6⟩:=a1 a3 h₁ σ₁ g₁ L ag a0 O w;exact⟨e',σ',z,J,.loop I G,H,N,S,F,p6⟩
       ·exact absurd w hA.fail
      ·exact⟨e,σ₁,g₁,h₁,.loopX I w,w,L,O,ag,q6⟩
    obtain⟨e',σ',z,J,G,H,N,S,F,p6⟩:=an n a2 h σ g hR (.refl _ _ _ _) aE ha hn;exact⟨e',σ',z,J,G,N,S,F,.inr ⟨H,p6⟩⟩
 |rangeFunc f κ a4=>
  intro g h σ r B hR ha k;exact absurd k hA.fail
end
end Sx
namespace Sx
section
variable [Val] [Kno] {R HT:Type} {A:Alg R HT} {X:Ctxt} {Sg:Tc} {holds:R->Prop} {abs:HT->Tp}
def dP(ls:TB):Prop:=∀l∈ls,match l with
 | .v x=>aB x=true
 |_=>True
def yL{xs:List S0}(h:dP (cP xs)):∀x∈xs,x.good:=by
 intro x a l b;have c:l.lf∈cP xs:=by
  induction xs with
  |nil=>cases a
  |cons y e d=>
   simp only[cP,qas,qaz];rcases qar.1 a with rfl|a
   ·exact .inl ⟨l,b,rfl⟩
   ·exact .inr (d (λl b=>h l (by simp only[cP,qas];exact .inr b)) a)
 have:=h _ c;cases l<;>first|trivial|exact this
def qj:∀ {xs:List S0},(∀x∈xs,x.good)->dP (cP xs)
 | [],_,l,hl=>by cases hl
 |x :: xs,h,l,hl=>by
  simp only[cP,qas,qaz]at hl;rcases hl with⟨c,a,rfl⟩|hl
  ·have:=h x (by simp) c a;cases c<;>first|trivial|exact this
  ·exact qj (λy b=>h y (by simp[b])) l hl
def gR{C:Cfg}{T:Tq}(hA:AlgOk A C Sg T holds abs):∀ {cs:List SL} {K:R},holds (Eh A cs K)->(∀c∈cs,bg c.val=true)/\holds K
 | [],K,h=>⟨by simp,h⟩
 |c :: cs,K,h=>by
  cases c with
  |v x=>
   have h':holds (A.opt (Bt x) λ_=>Eh A cs K):=h;obtain⟨u,e,f⟩:=hA.opt _ _ h';obtain⟨a,d⟩:=gR hA f;refine⟨qbz.2 ⟨?_,a⟩,d⟩;unfold Bt at e;split at e
   ·assumption
   ·cases e
  |i k n=>obtain⟨a,d⟩:=gR (cs:=cs) (K:=K) hA h;exact⟨qbz.2 ⟨rfl,a⟩,d⟩
  |b t=>obtain⟨a,d⟩:=gR (cs:=cs) (K:=K) hA h;exact⟨qbz.2 ⟨rfl,a⟩,d⟩
  |l t=>obtain⟨a,d⟩:=gR (cs:=cs) (K:=K) hA h;exact⟨qbz.2 ⟨rfl,a⟩,d⟩
def GR{C:Cfg}{T:Tq}(hA:AlgOk A C Sg T holds abs){a:Bool}{x:S0}{K:R}(j:x.good)(h:holds (gC A a x K)):(a=true->aP x.val=true)/\holds K:=by
 unfold gC at h;split at h
 next d=>
  obtain⟨e,f⟩:=gR hA h;refine⟨λ_=>?_,f⟩;simp only[S0.val,aP,qab,qaz];rintro _ ⟨c,g,rfl⟩;exact e c g
 next b=>
  refine⟨λi=>?_,h⟩;cases x with
  |agg d=>exact absurd rfl (b d i)
  |leaf l=>exact(fe.1 (SL.val_good (j l (by simp[S0.cells])))).2.1
def Ge(hA:AlgOk A X.C Sg X.T holds abs){i:Env}{σ:St}{h:HT}(H:Rp i σ)(Y:abs h=σ.heap){b:Bool}:∀(d:List ResultVar) (sks:TH) (e:TB) (K:TB->HT->R),holds (C4 A X b i h d sks e K)->
  ∃ys,cX ys sks=true/\(∀y∈ys,y.good)/\(b=true->∀y∈ys,aP y.val=true)/\ys.length=d.length/\da X.C σ d=some (au ys)/\holds (K (e++cP ys) h)
 | [],sks,e,K,j=>by
  cases sks with
  |nil=>
   have c:holds (K e h):=j;exact⟨[],rfl,by simp,by simp,rfl,rfl,by rw[cP,Ci];exact c⟩
  |cons _ _=>exact absurd j hA.fail
 |M :: d,sks,e,K,j=>by
  cases sks with
  |nil=>exact absurd j hA.fail
  |cons k sks=>
   have q:∀x:S0,x.is k=true->x.good->fl X.C σ M=some x.val->holds (gC A b x (C4 A X b i h d sks (e++x.cells.map SL.lf) K))->
     ∃ys,cX ys (k :: sks)=true/\(∀y∈ys,y.good)/\(b=true->∀y∈ys,aP y.val=true)/\ys.length=(M :: d).length/\da X.C σ (M :: d)=some (au ys)/\holds (K (e++cP ys) h):=by
    intro x o Z J j;obtain⟨h1,G⟩:=GR hA Z j;obtain⟨ys,B,D,a3,a4,a5,a6⟩:=Ge hA H Y d sks _ K G;refine⟨x :: ys,by simp[cX,o,B],qbz.2 ⟨Z,D⟩,λhm=>qbz.2 ⟨h1 hm,a3 hm⟩,by simp[a4],?_,by simpa[cP]using a6⟩;simp only[da,J,a5];rfl
   cases M with
   |tmp t=>
    have c:holds (match i.tm.getD t .no with
     | .st x=>match x.is k with
      |true=>gC A b x (C4 A X b i h d sks (e++x.cells.map SL.lf) K)
      |false=>A.fail
     |_=>A.fail):=j
    split at c
    next x o=>
     obtain⟨F,g2⟩:=H.at o (by simp);split at c
     next u=>
      exact q x u g2 (by simp[fl,List.getD_eq_getElem?_getD,F];rfl) c
     ·exact absurd c hA.fail
    ·exact absurd c hA.fail
   |cell a t=>
    have c:holds (match (generalizing:=false) zZ X.C.P t with
     |some g=>
      let n:=if g then X.C.P.cellsOf t else 1
      match (generalizing:=false) i.tm.getD a .no with
      | .lad s w=>match (sG i s).bind (λm=>(Bu m w n).bind (CX g))with
       |some x=>match x.is k with
        |true=>gC A b x (C4 A X b i h d sks (e++x.cells.map SL.lf) K)
        |false=>A.fail
       |none=>A.fail
      | .st (.leaf (.v p))=>match (generalizing:=false) g,k with
       |true,.agg _=>A.peek (.ld n p) h λm=>Il A k m λx r=>A.uc0 r (gC A b x (C4 A X b i h d sks (e++x.cells.map SL.lf) K))
       |false,.leaf _=>A.peek (.ld n p) h λm=>Il A k m λx r=>A.uc0 r (gC A b x (C4 A X b i h d sks (e++x.cells.map SL.lf) K))
       |_,_=>A.fail
      |_=>A.fail
     |none=>A.fail):=j
    clear j;split at c
    next g I=>
     simp only at c;split at c
     next s w z=>
      obtain⟨F,_⟩:=H.at z (by simp);split at c
      next x o=>
       obtain⟨m,U,o⟩:=qay.1 o;obtain⟨ds,hd,o⟩:=qay.1 o;obtain⟨r1,r2,_⟩:=kg H U;obtain⟨c1,c2⟩:=ny hd;obtain⟨v,v1,v2⟩:=cZ I c1;obtain⟨m1,m2⟩:=oh o;split at c
       next u=>
        have hv:x.val=v:=by
         rcases m2 with⟨B,D⟩|⟨B,D⟩<;>rcases v2 with⟨E,L⟩|⟨E,L⟩
         ·rw[D,L]
         ·rw[B]at E;cases E
         ·rw[B]at E;cases E
         ·rw[D]at L;simpa using L
        refine q x u (λl z=>?_) ?_ c
        ·rw[m1]at z;exact r2 l (c2 l z)
        ·simp only[fl,List.getD_eq_getElem?_getD,F,HV,SV.val,r1,v1,hv]
       ·exact absurd c hA.fail
      ·exact absurd c hA.fail
     next p z=>
      obtain⟨F,_⟩:=H.at z (by simp);have f:g=ju k->holds (A.peek (.ld (if g then X.C.P.cellsOf t else 1) p) h λm=>Il A k m λx r=>A.uc0 r (gC A b x (C4 A X b i h d sks (e++x.cells.map SL.lf) K)))->
        ∃ys,cX ys (k :: sks)=true/\(∀y∈ys,y.good)/\(b=true->∀y∈ys,aP y.val=true)/\ys.length=(ResultVar.cell a t :: d).length/\da X.C σ (.cell a t :: d)=some (au ys)/\holds (K (e++cP ys) h):=by
       intro V j;obtain⟨m,G,O⟩:=hA.peek _ _ _ j;simp only[Pk.run]at G;rw[Y]at G;obtain⟨id,w,vs,rfl,W,h4⟩:=TN G;rw[tt]at W;obtain⟨v,h5,N⟩:=cZ I h4;rw[V]at N;obtain⟨x,r,q1,q2,q3,Q⟩:=uR hA O;obtain⟨U,S⟩:=hA.uc0 _ _ Q;rw[U,Ci]at q1;rw[q1]at N;refine q x q2 q3 ?_ S;rw[ql q2 N];simp only[fl,List.getD_eq_getElem?_getD,F,HV,SV.val,S0.val,SL.val,W,AP,h5]
      split at c
      ·exact f rfl c
      ·exact f rfl c
      ·exact absurd c hA.fail
     ·exact absurd c hA.fail
    ·exact absurd c hA.fail
structure FnIs(X:Ctxt)(Sg:Tc)(f:TK)(fn:Fn1):Prop where
 is:∃g,X.C.P.funcs[f]?=some g/\g.body=some (er X fn.code)/\((g.name == "runtime.NumGoroutine")||X.C.opq f)=false/\g.ntmps=fn.nt/\g.results.toList=fn.rvs
 pts:X.pts=X.C.pts f
 sg:Sg f=some fn.sg
def vR{ys:List S0}(hg:∀y∈ys,y.good)(d:1<ys.length->∀y∈ys,aP y.val=true):noLoc (gk (au ys))=true:=by
 match ys with
 | []=>rfl
 | [y]=>exact S0.noLoc (hg y (by simp))
 |a :: b :: l=>
  have h:=d (by simp);have e:gk (au (a :: b :: l)) = .tuple (au (a :: b :: l)).toArray:=rfl;rw[e];simp only[Am.noLoc,qab];intro v c;simp only[au,qaz]at c;obtain⟨y,f,rfl⟩:=c;exact h y f
def L7{xs:List S0}(hg:∀x∈xs,x.good)(d:Nat)(H:Tp) :
  Rp ⟨xs.map .st++List.replicate (d - xs.length) .no,List.replicate d .nil⟩ { tmps:=au xs++List.replicate (d - (au xs).length) undef,loc:=List.replicate d none,heap:=H }:=by
 refine⟨by simp[au],λi s a=>?_,by simp,λi r c=>?_⟩
 ·rw[qdl]at a;split at a
  next b=>
   simp only[AZ]at b;simp only[AU,qag]at a;obtain⟨x,e,rfl⟩:=a;refine⟨?_,hg x (Af e)⟩;rw[BE (by simpa[au]using b)];simp[au,e,SV.val]
  ·rw[It]at a;split at a
   ·cases a;trivial
   ·cases a
 ·simp only[It]at c;split at c
  ·rename_i b;cases c
   simp[LR.ok,b]
  ·cases c
def rA(hA:AlgOk A X.C Sg X.T holds abs){s:Dr}
  (k:Sx.DrOk X.C s)
  {f:TK} {a:Fn1} (l:FnIs X Sg f a) {ls:TB} {h:HT} {K:TB->HT->R} (p:dP ls) (m:holds (ak A X Sg s a ls h K)) :
  ∃c h',aD X.C Sg f ls (abs h) c (abs h')/\dP c/\holds (K c h'):=by
 obtain⟨g,G,H,f3,I,J⟩:=l.is;obtain⟨y,r,t,F,n⟩:=sU hA m;obtain⟨N,o⟩:=hA.un0 _ _ n;rw[N,Ci]at t;subst t;have u:=yL p;have L:=L7 u a.nt (abs h);obtain⟨e,σ',j,h',v,O,w,_,d⟩:=N2 hA k a.code _ h _ _ _ L rfl o;have b:(e = .normal∨e = .ret)->holds (C4 A X (Nat.blt 1 a.rvs.length) j h' a.rvs a.sg.rs [] K)->∃c h',aD X.C Sg f (cP y) (abs h) c (abs h')/\dP c/\holds (K c h'):=by
  intro M m;obtain⟨z,B,i,D,P,E,q⟩:=Ge hA O w a.rvs a.sg.rs [] K m;rw[Ap]at q;refine⟨cP z,h',⟨a.sg,y,z,l.sg,⟨F,rfl,u⟩,⟨B,rfl,i⟩,?_⟩,qj i,q⟩;rw[w];refine pJ.intro G H f3 ?_ M (by rw[J];exact E) (vR i λQ=>D (by rw[BH];omega));rw[l.pts]at v;simpa[lM,I]using v
 rcases d with⟨rfl,d⟩|⟨d,x⟩
 ·exact b (.inl rfl) d
 ·cases e with
  |ret=>exact b (.inr rfl) x
  |_=>exact absurd x hA.fail
end
end Sx
namespace Sx
section
variable {P:TD}
end
end Sx
namespace Sx
inductive MC where
 |no
 |row (s:Nat) (w:Bool)
 |hr
 |hw
 |neu (f:TK)
abbrev _root_.Tb:=FuncId->Option Nat
def av(N:Tb)(pts:Tx)(o:Oper):Option MC:=
 match o.op with
 | .move _ | .assign _ | .pick _ _ _ | .build _ _ | .nilCheck _ | .unOp _ _ _ | .convert _ _ _ | .fieldAddr _ _ _ | .field _ _ _ | .indexAddr _ _ _ | .index _ _ _ | .extract _ _=>some .no
 | .binOp _ _ _ _ _=>some .no
 | .makeFunc _ _ _=>some .no
 | .load _ a=>match mf pts a with
  |0=>some .hr
  |1=>some .no
  |s+2=>some (.row s false)
 | .store _ a _=>match mf pts a with
  |0=>some .hw
  |1=>none
  |s+2=>some (.row s true)
 | .alloc _ | .box _ _=>match o.dst with
  |some d=>if pts.getD d 0=d+2 then some (.row d true)else some .hw
  |none=>none
 | .buildSlice _ _ _ | .makeMap _ _ | .makeSlice _ _ _ | .mapUpdate _ _ _ _ | .mapEntry _ _ _ | .entryStore _ _ _ _ | .insert _ _ _ _=>some .hw
 | .lookup _ _ _ _ | .slice _ _ _ _ _=>some .hr
 | .call c=>match c.callee with
  | .builtin b=>match b with
   | .append | .copy | .delete | .clear=>some .hw
   | .len=>some .hr
   | .cap | .min | .max=>some .no
   |_=>none
  | .value f=>match f with
   | .func g=>some (if N g=some (2*c.args.size)then .neu g else if N g=some (2*c.args.size+1)then .hr else .hw)
   |_=>some .hw
  |_=>none
 |_=>none
def bj(ops:Tl)(o:Oper):Tx:=
 (o.op.operands.toList.filterMap λx=>match x with
  | .tmp t=>some t
  |_=>none) ++
 match o.guard with
 |some (j,_)=>((ops[j]?).bind (·.dst)).toList
 |none=>[]
section
variable [Val]
def execOp_congr{ρ ρ':Tf}{o:Oper}(N:Tb)(pts:Tx)(D:av N pts o≠none)(h:∀x∈o.op.operands.toList,ρ x=ρ' x):execOp ρ o=execOp ρ' o:=by
 obtain⟨dst,A,C,pos,z,guard⟩:=o;have l:∀ {j:Array Operand},(∀x∈j.toList,ρ x=ρ' x)->j.map ρ=j.map ρ':=by
  intro j e;apply qbk.1;rw[Iq,Iq];exact DV e
 have w:∀ {j:Array (Nat×Operand)},(∀x∈j.toList.map (·.2),ρ x=ρ' x)->(j.map λ(i,x)=>(i,ρ x))=(j.map λ(i,x)=>(i,ρ' x)):=by
  intro j e;apply qbk.1;rw[Iq,Iq];refine DV λp E=>?_;show(p.1,ρ p.2)=(p.1,ρ' p.2);rw[e p.2 (qaz.2 ⟨p,E,rfl⟩)]
 have g:∀ {r:Tg},(∀x∈r.toArray.toList,ρ x=ρ' x)->r.map ρ=r.map ρ':=by
  intro r e;cases r with
  |none=>rfl
  |some y=>simp[e y (by simp)]
 cases A<;>simp only[av,ne_eq,not_true_eq_false,not_false_eq_true,reduceCtorEq]at D<;>simp only[Op.operands]at h
 case move x=>simp only[execOp,h x (by simp)]
 case assign x=>simp only[execOp,h x (by simp)]
 case pick c a b=>simp only[execOp,h c (by simp),h a (by simp),h b (by simp)]
 case alloc t=>rfl
 case box t x=>simp only[execOp,h x (by simp)]
 case build t ps=>simp only[execOp,w (by simpa using h)]
 case buildSlice t n ps=>simp only[execOp,w (by simpa using h)]
 case load t a=>simp only[execOp,h a (by simp)]
 case store t a x=>simp only[execOp,h a (by simp),h x (by simp)]
 case nilCheck x=>simp only[execOp,h x (by simp)]
 case binOp A t x y yt=>simp only[execOp,h x (by simp),h y (by simp)]
 case unOp A t x=>simp only[execOp,h x (by simp)]
 case convert s d x=>simp only[execOp,h x (by simp)]
 case makeFunc fn a b=>simp only[execOp,l (λx e=>h x (by simp;exact .inl (by simpa using e))),l (λx e=>h x (by simp;exact .inr (by simpa using e)))]
 case makeMap t r=>simp only[execOp,g h]
 case makeSlice t a b=>simp only[execOp,h a (by simp),h b (by simp)]
 case slice t x a b c=>
  simp only[UN,qas]at h;simp only[execOp,h x (by simp),g (λy u=>h y (.inl (.inl (.inr u)))),g (λy u=>h y (.inl (.inr u))),g (λy u=>h y (.inr u))]
 case fieldAddr t x f=>simp only[execOp,h x (by simp)]
 case field t x f=>simp only[execOp,h x (by simp)]
 case indexAddr t x i=>simp only[execOp,h x (by simp),h i (by simp)]
 case index t x i=>simp only[execOp,h x (by simp),h i (by simp)]
 case lookup t x i ok=>simp only[execOp,h x (by simp),h i (by simp)]
 case mapUpdate t m k v=>simp only[execOp,h m (by simp),h k (by simp),h v (by simp)]
 case insert t m k v=>simp only[execOp,h m (by simp),h k (by simp),h v (by simp)]
 case mapEntry t m k=>simp only[execOp,h m (by simp),h k (by simp)]
 case entryStore t m s v=>simp only[execOp,h m (by simp),h s (by simp),h v (by simp)]
 case extract t i=>simp only[execOp,h t (by simp)]
 case call c=>
  have q:resolve ρ c C=resolve ρ' c C:=by
   unfold resolve;simp only[Call.operands,UN,qas]at h;rw[l (λx e=>h x (.inr e))];cases B:c.callee with
   |builtin b=>rfl
   |value f=>simp only[B]at h ⊢;rw[h f (.inl (by simp))]
   |invoke r m=>simp only[B]at h ⊢;rw[h r (.inl (by simp))]
  simp only[execOp,q]
def nI{C:Cfg}{ρ ρ':Tf}{o:Oper}(N:Tb)(pts:Tx)(H:av N pts o≠none)(h:∀x∈o.op.operands.toList,ρ x=ρ' x):ao C pts ρ o=ao C pts ρ' o:=by
 have e:=execOp_congr N pts H h;have w:∀(f:Value->Bool),(o.op.operands.toList.all λx=>f (ρ x))=(o.op.operands.toList.all λx=>f (ρ' x)):=by
  intro f;rw[Ir,qab,qab];exact⟨λg x e=>by rw[←h x e];exact g x e,λg x e=>by rw[h x e];exact g x e⟩
 have j:cH C ρ o=cH C ρ' o:=by
  unfold cH;rw[w flat,e]
 have u:∀ {r:Tg},(∀x∈r.toArray.toList,ρ x=ρ' x)->r.map ρ=r.map ρ':=by
  intro r e;cases r with
  |none=>rfl
  |some y=>simp[e y (by simp)]
 have B:∀ {q:Array (Nat×Operand)},(∀x∈q.toList.map (·.2),ρ x=ρ' x)->(q.toList.map λp=>(p.1,ρ p.2))=(q.toList.map λp=>(p.1,ρ' p.2)):=by
  intro q e;refine DV λp j=>?_;rw[e p.2 (qaz.2 ⟨p,j,rfl⟩)]
 have A:∀(f:Value->Bool) {q:Array (Nat×Operand)},(∀x∈q.toList.map (·.2),ρ x=ρ' x)->(q.toList.all λp=>f (ρ p.2))=(q.toList.all λp=>f (ρ' p.2)):=by
  intro f q e;rw[Ir,qab,qab];have G:∀p∈q.toList,ρ p.2=ρ' p.2:=λp j=>e p.2 (qaz.2 ⟨p,j,rfl⟩);exact⟨λg p j=>by rw[←G p j];exact g p j,λg p j=>by rw[G p j];exact g p j⟩
 obtain⟨dst,F,I,pos,l,guard⟩:=o;cases F<;>simp only[av,ne_eq,not_true_eq_false,not_false_eq_true,reduceCtorEq]at H<;>simp only[Op.operands]at h
 case move x=>simp only[ao,h x (by simp)]
 case assign x=>simp only[ao,h x (by simp)]
 case pick c a b=>simp only[ao,h c (by simp),h a (by simp),h b (by simp)]
 case alloc t=>rfl
 case box t x=>simp only[ao,h x (by simp)]
 case build t ps=>simp only[ao,B (by simpa using h),A (λv=>!aw v) (by simpa using h)]
 case buildSlice t n ps=>simp only[ao,B (by simpa using h),A (λv=>v.cells.toList.all bf) (by simpa using h)]
 case load t a=>simp only[ao,h a (by simp)]
 case store t a x=>simp only[ao,h a (by simp),h x (by simp)]
 case nilCheck x=>simp only[ao,h x (by simp)]
 case binOp F t x y yt=>simp only[ao,h x (by simp),h y (by simp),j]
 case unOp F t x=>simp only[ao,j]
 case convert s d x=>simp only[ao,j]
 case makeFunc fn a b=>
  have D:a.map ρ=a.map ρ':=qbk.1 (by rw[Iq,Iq];exact DV λx e=>h x (by simp;exact .inl (by simpa using e)));have E:b.map ρ=b.map ρ':=qbk.1 (by rw[Iq,Iq];exact DV λx e=>h x (by simp;exact .inr (by simpa using e)));simp only[ao,D,E]
 case makeMap t r=>simp only[ao,u h]
 case makeSlice t a b=>simp only[ao,h a (by simp),h b (by simp)]
 case slice t x a b c=>
  simp only[UN,qas]at h;simp only[ao,h x (by simp),u (λy z=>h y (.inl (.inl (.inr z)))),u (λy z=>h y (.inl (.inr z))),u (λy z=>h y (.inr z)),j]
 case fieldAddr t x f=>simp only[ao,h x (by simp)]
 case field t x f=>simp only[ao,h x (by simp)]
 case indexAddr t x i=>simp only[ao,h x (by simp),h i (by simp)]
 case index t x i=>simp only[ao,h x (by simp),h i (by simp)]
 case lookup t x i ok=>simp only[ao,h x (by simp),h i (by simp)]
 case mapUpdate t m k v=>simp only[ao,h m (by simp),h k (by simp),h v (by simp)]
 case insert t m k v=>simp only[ao,h m (by simp),h k (by simp),h v (by simp)]
 case mapEntry t m k=>simp only[ao,h m (by simp),h k (by simp)]
 case entryStore t m s v=>simp only[ao,h m (by simp),h s (by simp),h v (by simp)]
 case extract t i=>simp only[ao,h t (by simp)]
 case call c=>
  simp only[Call.operands,UN,qas]at h;have D:c.args.toList.map ρ=c.args.toList.map ρ':=DV λx e=>h x (.inr e);have E:∀b,bb C ρ b (c.args.toList.map ρ) c.argTypes ⟨dst,.call c,I,pos,l,guard⟩=bb C ρ' b (c.args.toList.map ρ') c.argTypes ⟨dst,.call c,I,pos,l,guard⟩:=by
   intro b;unfold bb;rw[D,j]
  simp only[ao,fV];cases J:c.callee with
  |builtin b=>exact E b
  |value f=>simp only[J]at h ⊢;rw[D,h f (.inl (by simp))]
  |invoke r m=>rfl
structure Ef where
 v:Value
 rw:Option (Nat×Option (Tk))
 hp:Option (Tp)
def Ef.on(e:Ef)(dst:Tn)(σ:St):St:=
 ({ tmps:=σ.tmps,loc:=(match e.rw with|some p=>σ.loc.set p.1 p.2|none=>σ.loc),heap:=e.hp.getD σ.heap }:St).put dst e.v
def Ax(N:Tb)(pts:Tx)(ops:Tl)(o:Oper)(σ τ:St):Prop:=
 (∀t∈bj ops o,τ.tmps[t]?=σ.tmps[t]?)/\match av N pts o with
 |some (.row s _)=>τ.loc[s]?=σ.loc[s]?
 |some .hr=>τ.heap=σ.heap
 |some .hw=>τ.heap=σ.heap
 |_=>True
def Bq(N:Tb)(B:Below):Prop:=(∀f args H r H',N f=some (2*args.length)->B.call f args H r H'->H'=H/\∀a,B.call f args a r a)/\
 ∀f args H r H',N f=some (2*args.length+1)->B.call f args H r H'->H'=H
def tb(m:Option MC)(e:Ef):Prop:=
 (∀p,e.rw=some p->m=some (.row p.1 true))/\(e.hp≠none->m=some .hw)
def kY{σ τ:St}{x:TG}(h:∀t,x = .tmp t->τ.tmps[t]?=σ.tmps[t]?):ke τ.tmps x=ke σ.tmps x:=by
 cases x with
 |tmp t=>simp[ke,List.getD_eq_getElem?_getD,h t rfl]
 |_=>rfl
def ya{N:Tb}{pts:Tx}{ops:Tl}{o:Oper}{σ τ:St}(h:Ax N pts ops o σ τ):∀x∈o.op.operands.toList,ke τ.tmps x=ke σ.tmps x:=by
 intro x b;refine kY λt a=>h.1 t ?_;subst a;simp only[bj,qas,qaG];exact .inl ⟨.tmp t,b,rfl⟩
def ma{N:Tb}{pts:Tx}{ops:Tl}{o:Oper}{σ τ:St}(h:Ax N pts ops o σ τ):cv ops τ.tmps o=cv ops σ.tmps o:=by
 unfold cv;split
 ·rfl
 next j a c=>
  cases b:(ops[j]?).bind (·.dst)with
  |none=>rfl
  |some d=>
   simp only[AP];rw[h.1 d (by simp[bj,c,b])]
def AF(N:Tb)(m:Option MC):Eff->Prop
 | .val _=>True
 | .lnew s _=>m=some (.row s true)
 | .lget s _=>m=some (.row s false)
 | .lset s _=>m=some (.row s true)
 | .hget _=>m=some .hr
 | .hop _=>m=some .hw
 | .call f args=>(m=some (.neu f)/\N f=some (2*args.length))∨(m=some .hr/\N f=some (2*args.length+1))∨m=some .hw
 | .yield _ _=>m=some .hw
def eD{N:Tb}{m:Option MC}{x:Ti}{e:Eff}(h:x.map Eff.val=some e):AF N m e:=by
 obtain⟨v,_,rfl⟩:=qag.1 h;trivial
def dZ{C:Cfg}{ρ:Tf}{o:Oper}{N:Tb}{m:Option MC}{e:Eff}(h:cH C ρ o=some e):AF N m e:=by
 unfold cH at h;split at h
 ·split at h
  ·split at h
   ·cases h;trivial
   ·cases h
  ·cases h
 ·cases h
def Oi{N:Tb}{m:Option MC}{a:Ti}{b:Option Eff}{e:Eff}(c:b=some e->AF N m e)(h:oz a b=some e):AF N m e:=by
 unfold oz at h;split at h
 ·cases h;trivial
 ·exact c h
def nQ{C:Cfg}{N:Tb}{pts:Tx}{o:Oper}{t:TJ}{v:Value}{e:Eff}(ho:(∃y,o.op = .box t y)∨o.op = .alloc t)(h:cG C pts o.dst t v=some e):AF N (av N pts o) e:=by
 unfold cG at h;split at h
 ·cases h
 ·split at h
  ·cases h
  next d b=>
   split at h
   ·cases h
   ·split at h
    next a=>
     cases h;rcases ho with⟨y,ho⟩|ho<;>(simp only[AF,av,ho,b];rw[mc a])
    next a=>
     cases h;rcases ho with⟨y,ho⟩|ho<;>(simp only[AF,av,ho,b];rw[po a])
def ii{C:Cfg}{N:Tb}{pts:Tx}{ρ:Tf}{o:Oper}{e:Eff}(hρ:∀g,ρ (.func g) = .func (.func g) #[] #[])(E:av N pts o≠none)(d:ao C pts ρ o=some e):AF N (av N pts o) e:=by
 unfold ao at d;split at d
 ·cases d;trivial
 ·cases d;trivial
 ·split at d
  ·cases d;trivial
  ·cases d
 next t i=>
  obtain⟨z,_,d⟩:=qay.1 d;exact nQ (.inr i) d
 next t x i=>
  exact nQ (.inl ⟨x,i⟩) d
 ·split at d
  ·exact eD d
  ·cases d
 next t n I i=>
  split at d
  ·obtain⟨r,_,rfl⟩:=qag.1 d;simp only[AF,av,i]
  ·cases d
 next t a i=>
  unfold dU at d;split at d
  next q=>
   split at d
   ·cases d;simp only[AF,av,i,q]
   ·obtain⟨p,_,rfl⟩:=qag.1 d;simp only[AF,av,i,q]
  ·obtain⟨p,_,d⟩:=qay.1 d;exact eD d
  next s q=>
   obtain⟨p,_,rfl⟩:=qag.1 d;simp only[AF,av,i,q]
 next t a x i=>
  unfold eI at d;split at d
  ·cases d
  ·split at d
   next q=>
    obtain⟨p,_,rfl⟩:=qag.1 d;simp only[AF,av,i,q]
   ·cases d
   next s q=>
    obtain⟨p,_,rfl⟩:=qag.1 d;simp only[AF,av,i,q]
 ·split at d<;>cases d<;>trivial
 ·split at d
  ·split at d
   ·split at d
    ·cases d;trivial
    ·cases d
   ·exact dZ d
  ·split at d
   ·split at d
    ·cases d;trivial
    ·cases d
   ·exact dZ d
  ·exact dZ d
 ·split at d
  ·cases d
  ·cases d;trivial
 next t r i=>
  split at d
  ·cases d;simp only[AF,av,i]
  ·cases d
 next t l c i=>
  cases d;simp only[AF,av,i]
 next t x F D G i=>
  split at d
  ·split at d
   ·exact eD d
   ·cases d;simp only[AF,av,i]
  ·exact Oi dZ d
 ·exact eD d
 ·exact eD d
 ·exact eD d
 ·exact eD d
 next t m k H i=>
  split at d
  ·exact eD d
  ·cases d;simp only[AF,av,i]
 next t m k v i=>
  cases d;simp only[AF,av,i]
 next t m k v i=>
  cases d;simp only[AF,av,i]
 next t m k i=>
  cases d;simp only[AF,av,i]
 next t m s v i=>
  cases d;simp only[AF,av,i]
 ·split at d
  ·split at d
   ·cases d
   ·exact eD d
  ·cases d
 next c i=>
  unfold fV at d;simp only at d;cases j:c.callee with
  |invoke r m=>simp only[j]at d;cases d
  |builtin b=>
   simp only[j]at d;unfold bb at d;split at d
   ·split at d
    ·cases d
    ·cases d;simp only[AF,av,i,j]
   ·split at d
    ·cases d;trivial
    ·cases d;simp only[AF,av,i,j]
    ·cases d;trivial
    ·exact dZ d
   ·split at d
    ·cases d;trivial
    ·cases d;trivial
    ·cases d;trivial
    ·cases d
   ·cases d;simp only[AF,av,i,j]
   ·cases d;simp only[AF,av,i,j]
   ·cases d;simp only[AF,av,i,j]
   ·exact dZ d
  |value f=>
   simp only[j]at d;split at d
   ·cases d
   ·split at d
    next g first y w=>
     split at d
     ·cases d;cases f with
      |func B=>
       rw[hρ]at w;cases w;simp only[av,i,j,AF];by_cases A:N g=some (2*c.args.size)
       ·rw[mc A];exact .inl ⟨rfl,by rw[A];simp⟩
       ·rw[po A];by_cases u:N g=some (2*c.args.size+1)
        ·rw[mc u];exact .inr (.inl ⟨rfl,by rw[u];simp⟩)
        ·rw[po u];exact .inr (.inr rfl)
      |_=>simp only[AF,av,i,j,or_true]
     ·cases d
    next l first y w=>
     split at d
     ·cases d;cases f with
      |func B=>rw[hρ]at w;cases w
      |_=>simp only[AF,av,i,j]
     ·cases d
    ·cases d
 ·exact dZ d
 ·exact dZ d
 ·cases d
def iK{C:Cfg}{B:Below}{N:Tb}(I:Bq N B){pts:Tx}{ops:Tl}{i:Nat}{o:Oper}(F:ops[i]?=some o)(k:av N pts o≠none){σ σ':St}(u:aj C B pts ops i σ σ') :
  ∃e:Ef,σ'=e.on o.dst σ/\tb (av N pts o) e/\∀τ,Ax N pts ops o σ τ->aj C B pts ops i τ (e.on o.dst τ):=by
 unfold aj at u;simp only[F]at u;have val:∀v:Value,σ'=σ.put o.dst v->(∀τ,Ax N pts ops o σ τ->aj C B pts ops i τ (τ.put o.dst v))->
   ∃e:Ef,σ'=e.on o.dst σ/\tb (av N pts o) e/\∀τ,Ax N pts ops o σ τ->aj C B pts ops i τ (e.on o.dst τ):=by
  intro v j h;exact⟨⟨v,none,none⟩,j,⟨λp b=>(by cases b),λh=>absurd rfl h⟩,h⟩
 split at u
 ·exact u.elim
 next G=>
  refine val undef u λτ hτ=>?_;unfold aj;simp only[F,ma hτ,G]
 next G=>
  have step:∀ {τ τ':St},Ax N pts ops o σ τ->((∃e,ao C pts (ke τ.tmps) o=some e/\lL B e o.dst τ τ')∨(∃v,ku C τ.tmps o v/\τ'=τ.put o.dst v))->aj C B pts ops i τ τ':=by
   intro τ τ' hτ h;unfold aj;simp only[F,ma hτ,G];exact h
  rcases u with⟨e,c,n⟩|⟨v,j,rfl⟩
  ·have cτ:∀τ,Ax N pts ops o σ τ->ao C pts (ke τ.tmps) o=some e:=λτ hτ=>by
    rw[nI N pts k (ya hτ)];exact c
   cases e with
   |val v=>
    obtain⟨p,b,rfl⟩:=n;cases b;exact val v rfl λτ hτ=>step hτ (.inl ⟨_,cτ τ hτ,_,rfl,rfl⟩)
   |lnew s D=>
    obtain⟨p,b,rfl⟩:=n;simp only[aX]at b;split at b
    next g=>
     cases b;have a:av N pts o=some (.row s true):=ii (λ_=>rfl) k c;refine⟨⟨.pointer (some ⟨s,0,some 0⟩),some (s,some D),none⟩,rfl,⟨λp b=>by cases b;exact a,λh=>absurd rfl h⟩,λτ hτ=>step hτ (.inl ⟨_,cτ τ hτ,({ τ with loc:=τ.loc.set s (some D) },.pointer (some ⟨s,0,some 0⟩)),?_,rfl⟩)⟩;have:=hτ.2;rw[a]at this;simp only[aX,this,g]
    ·cases b
   |lget s f=>
    obtain⟨p,b,rfl⟩:=n;simp only[aX]at b;split at b
    next D g=>
     obtain⟨v,j,rfl⟩:=qag.1 b;have a:av N pts o=some (.row s false):=ii (λ_=>rfl) k c;refine val v rfl λτ hτ=>step hτ (.inl ⟨_,cτ τ hτ,(τ,v),?_,rfl⟩);have:=hτ.2;rw[a]at this;simp only[aX,this,g,j,BB]
    ·cases b
   |lset s f=>
    obtain⟨p,b,rfl⟩:=n;simp only[aX]at b;split at b
    next D g=>
     obtain⟨y,j,rfl⟩:=qag.1 b;have a:av N pts o=some (.row s true):=ii (λ_=>rfl) k c;refine⟨⟨undef,some (s,some y),none⟩,rfl,⟨λp b=>by cases b;exact a,λh=>absurd rfl h⟩,λτ hτ=>step hτ (.inl ⟨_,cτ τ hτ,({ τ with loc:=τ.loc.set s (some y) },undef),?_,rfl⟩)⟩;have:=hτ.2;rw[a]at this;simp only[aX,this,g,j,BB]
    ·cases b
   |hget f=>
    obtain⟨p,b,rfl⟩:=n;simp only[aX]at b;obtain⟨v,j,rfl⟩:=qag.1 b;have a:av N pts o=some .hr:=ii (λ_=>rfl) k c;refine val v rfl λτ hτ=>step hτ (.inl ⟨_,cτ τ hτ,(τ,v),?_,rfl⟩);have:=hτ.2;rw[a]at this;simp only[aX,this,j,BB]
   |hop f=>
    obtain⟨p,b,rfl⟩:=n;simp only[aX]at b;obtain⟨q,j,rfl⟩:=qag.1 b;have a:av N pts o=some .hw:=ii (λ_=>rfl) k c;refine⟨⟨q.2,none,some q.1⟩,rfl,⟨λp b=>(by cases b),λ_=>a⟩,λτ hτ=>step hτ (.inl ⟨_,cτ τ hτ,({ τ with heap:=q.1 },q.2),?_,rfl⟩)⟩;have:=hτ.2;rw[a]at this;simp only[aX,this,j,BB]
   |call f d=>
    obtain⟨r,H,t,rfl⟩:=n;have a:(av N pts o=some (.neu f)/\N f=some (2*d.length))∨(av N pts o=some .hr/\N f=some (2*d.length+1))∨av N pts o=some .hw:=ii (λ_=>rfl) k c;rcases a with⟨a,E⟩|⟨a,E⟩|a
    ·obtain⟨rfl,z⟩:=I.1 f d _ r H E t;exact val r rfl λτ hτ=>step hτ (.inl ⟨_,cτ τ hτ,r,τ.heap,z τ.heap,rfl⟩)
    ·obtain rfl:=I.2 f d _ r H E t;refine val r rfl λτ hτ=>step hτ (.inl ⟨_,cτ τ hτ,r,τ.heap,?_,rfl⟩);have:=hτ.2;rw[a]at this;rw[this];exact t
    ·refine⟨⟨r,none,some H⟩,rfl,⟨λp b=>(by cases b),λ_=>a⟩,λτ hτ=>step hτ (.inl ⟨_,cτ τ hτ,r,H,?_,rfl⟩)⟩;have:=hτ.2;rw[a]at this;rw[this];exact t
   |yield l d=>
    obtain⟨r,H,t,rfl⟩:=n;have a:av N pts o=some .hw:=ii (λ_=>rfl) k c;refine⟨⟨r,none,some H⟩,rfl,⟨λp b=>(by cases b),λ_=>a⟩,λτ hτ=>step hτ (.inl ⟨_,cτ τ hτ,r,H,?_,rfl⟩)⟩;have:=hτ.2;rw[a]at this;rw[this];exact t
  ·refine val v rfl λτ hτ=>step hτ (.inr ⟨v,?_,rfl⟩);obtain⟨J,z,K,L⟩:=j;have m:=ya hτ;refine⟨J,?_,K,λw=>?_⟩
   ·rw[qab]at z ⊢;intro x A;rw[m x A];exact z x A
   ·rw[execOp_congr N pts k (ρ':=λx=>Cf (ke σ.tmps x)) λx A=>by rw[m x A]];exact L w
def MC.ok2:MC->MC->Bool
 | .no,_=>true
 |_,.no=>true
 | .row s w,.row a w'=>!Nat.beq s a||(!w && !w')
 | .row _ _,_=>true
 |_,.row _ _=>true
 | .neu _,_=>true
 |_,.neu _=>true
 | .hr,.hr=>true
 |_,_=>false
def bv(d:Tn)(l:Tx):Bool:=match d with
 |some d=>!l.contains d
 |none=>true
def bi(a b:Tn):Bool:=match a,b with
 |some a,some b=>!Nat.beq a b
 |_,_=>true
def yF(N:Tb)(pts:Tx)(ops:Tl)(a b:Oper):Bool:=
 match av N pts a,av N pts b with
 |some m,some n=>(m.ok2 n||gY a b)&&bv a.dst (bj ops b)&&bv b.dst (bj ops a)&&bi a.dst b.dst
 |_,_=>false
def sx{σ:St}{d:Tn}{v:Value}{t:Nat}(h:∀x,d=some x->x≠t):(σ.put d v).tmps[t]?=σ.tmps[t]?:=by
 cases d with
 |none=>rfl
 |some x=>simp only[St.put];rw[BL (h x rfl)]
def sy{σ:St}{d:Tn}{v:Value}:(σ.put d v).loc=σ.loc:=by cases d<;>rfl
def jX{σ:St}{d:Tn}{v:Value}:(σ.put d v).heap=σ.heap:=by cases d<;>rfl
def sA{σ:St}{d:Tn}{v:Value}:(σ.put d v).tmps=(match d with|some d=>σ.tmps.set d v|none=>σ.tmps):=by cases d<;>rfl
def sf{e:Ef}{d:Tn}{σ:St}:(e.on d σ).tmps=(match d with|some d=>σ.tmps.set d e.v|none=>σ.tmps):=by unfold Ef.on;rw[sA]
def xB{e:Ef}{d:Tn}{σ:St}:(e.on d σ).loc=(match e.rw with|some p=>σ.loc.set p.1 p.2|none=>σ.loc):=by unfold Ef.on;rw[sy]
def dV{e:Ef}{d:Tn}{σ:St}:(e.on d σ).heap=e.hp.getD σ.heap:=by unfold Ef.on;rw[jX]
def yq{N:Tb}{pts:Tx}{ops:Tl}{a b:Oper}{m n:MC}(o:av N pts a=some m)(q:av N pts b=some n)(c:m.ok2 n=true∨n.ok2 m=true)
  (i:bv a.dst (bj ops b)=true) {e:Ef} (g:tb (av N pts a) e) (σ:St):Ax N pts ops b σ (e.on a.dst σ):=by
 refine⟨λt hr=>?_,?_⟩
 ·unfold Ef.on;refine sx λx r j=>?_;subst j;rw[r]at i;simp only[bv,Ry,qcQ,decide_eq_false_iff_not]at i;exact i hr
 ·rw[o]at g;rw[q];cases n with
  |no=>trivial
  |neu f=>trivial
  |row s w=>
   show(e.on a.dst σ).loc[s]?=_;rw[xB];cases l:e.rw with
   |none=>rfl
   |some p=>
    have d:=g.1 p l;cases d;have:p.1≠s:=by
     intro j;subst j;rcases c with h|h<;>simp[MC.ok2]at h
    show(σ.loc.set p.1 p.2)[s]?=_;rw[BL this]
  |hr=>
   show(e.on a.dst σ).heap=_;rw[dV];cases k:e.hp with
   |none=>rfl
   |some H=>
    have d:=g.2 (by rw[k];simp);cases d;rcases c with h|h<;>cases h
  |hw=>
   show(e.on a.dst σ).heap=_;rw[dV];cases k:e.hp with
   |none=>rfl
   |some H=>
    have d:=g.2 (by rw[k];simp);cases d;rcases c with h|h<;>cases h
def set_comm{α:Type}(l:List α){i j:Nat}(a b:α)(h:i≠j):(l.set i a).set j b=(l.set j b).set i a:=List.set_comm _ _ h
def FY{N:Tb}{pts:Tx}{a b:Oper}{m n:MC}(r:av N pts a=some m)(s:av N pts b=some n)(c:m.ok2 n=true)(t:bi a.dst b.dst=true){e f:Ef}
  (u:tb (av N pts a) e) (v:tb (av N pts b) f) (σ:St):f.on b.dst (e.on a.dst σ)=e.on a.dst (f.on b.dst σ):=by
 have k:(f.on b.dst (e.on a.dst σ)).tmps=(e.on a.dst (f.on b.dst σ)).tmps:=by
  simp only[sf];cases h:a.dst with
  |none=>rfl
  |some x=>
   cases i:b.dst with
   |none=>rfl
   |some y=>
    rw[h,i]at t;have:x≠y:=by
     intro j;subst j;simp[bi]at t
    exact set_comm _ _ _ this
 have l:(f.on b.dst (e.on a.dst σ)).loc=(e.on a.dst (f.on b.dst σ)).loc:=by
  simp only[xB];cases h:e.rw with
  |none=>rfl
  |some p=>
   cases i:f.rw with
   |none=>rfl
   |some q=>
    have d:=u.1 p h;have g:=v.1 q i;rw[r]at d;rw[s]at g;cases d;cases g;have:p.1≠q.1:=by
     intro j;rw[j]at c;simp[MC.ok2]at c
    exact set_comm _ _ _ this
 have o:(f.on b.dst (e.on a.dst σ)).heap=(e.on a.dst (f.on b.dst σ)).heap:=by
  simp only[dV];cases h:e.hp with
  |none=>rfl
  |some p=>
   cases i:f.hp with
   |none=>rfl
   |some q=>
    have d:=u.2 (by rw[h];simp);have g:=v.2 (by rw[i];simp);rw[r]at d;rw[s]at g;cases d;cases g;cases c
 generalize f.on b.dst (e.on a.dst σ)=x at *;generalize e.on a.dst (f.on b.dst σ)=y at *;cases x;cases y;simp only at k l o;subst k;subst l;subst o;rfl
def wu{ops:Tl}{o:Oper}{σ τ:St}(h:∀t∈bj ops o,τ.tmps[t]?=σ.tmps[t]?):cv ops τ.tmps o=cv ops σ.tmps o:=by
 unfold cv;split
 ·rfl
 next j a c=>
  cases b:(ops[j]?).bind (·.dst)with
  |none=>rfl
  |some d=>
   simp only[AP];rw[h d (by simp[bj,c,b])]
def xE{ops:Tl}{o:Oper}{σ τ:St}(h:∀t∈bj ops o,τ.tmps[t]?=σ.tmps[t]?):∀x∈o.op.operands.toList,ke τ.tmps x=ke σ.tmps x:=by
 intro x b;refine kY λt a=>h t ?_;subst a;simp only[bj,qas,qaG];exact .inl ⟨.tmp t,b,rfl⟩
def zJ{C:Cfg}{B:Below}{N:Tb}(e:Bq N B){pts:Tx}{ops:Tl}{i j:Nat}{a b:Oper}(f:ops[i]?=some a)(g:ops[j]?=some b)(c:gY a b=true)
  (c2:bv a.dst (bj ops b)=true) (c3:bv b.dst (bj ops a)=true) (c4:bi a.dst b.dst=true) {σ σ₁ σ':St}
  (h1:aj C B pts ops i σ σ₁) (d:aj C B pts ops j σ₁ σ'):∃τ,aj C B pts ops j σ τ/\aj C B pts ops i τ σ':=by
 cases c
def PX{C:Cfg}{B:Below}{N:Tb}(l:Bq N B){pts:Tx}{ops:Tl}{i j:Nat}{a b:Oper}(p:ops[i]?=some a)(q:ops[j]?=some b)(d:yF N pts ops a b=true){σ σ₁ σ':St}
  (h1:aj C B pts ops i σ σ₁) (o:aj C B pts ops j σ₁ σ'):∃τ,aj C B pts ops j σ τ/\aj C B pts ops i τ σ':=by
 unfold yF at d;split at d
 next m n k g=>
  simp only[uc]at d;obtain⟨⟨⟨c,c2⟩,c3⟩,c4⟩:=d;rw[Ck]at c;rcases c with c|c
  case inr=>exact zJ l p q c c2 c3 c4 h1 o
  obtain⟨e,rfl,r,v⟩:=iK l p (by rw[k];simp) h1;obtain⟨f,rfl,s,w⟩:=iK l q (by rw[g];simp) o;have x:Ax N pts ops b (e.on a.dst σ) σ:=by
   have:=yq k g (.inl c) c2 r σ;refine⟨λt u=>(this.1 t u).symm,?_⟩;have h:=this.2;rw[g]at h ⊢;cases n<;>first|trivial|exact h.symm
  have y:Ax N pts ops a σ (f.on b.dst σ):=yq g k (.inr c) c3 s σ;refine⟨f.on b.dst σ,w σ x,?_⟩;rw[FY k g c c4 r s σ];exact v _ y
 ·cases d
end
end Sx
namespace Sx
section
variable [Val] {C:Cfg} {B:Below} {N:Tb} {pts:Tx} {ops:Tl}
def qm{i:Nat}{post:Tx}:∀(pre:Tx),(∀k∈pre,∀σ σ₁ σ':St,aj C B pts ops k σ σ₁->aj C B pts ops i σ₁ σ'->∃τ,aj C B pts ops i σ τ/\aj C B pts ops k τ σ')->
  ∀σ σ':St,bK C B pts ops (pre++i :: post) σ σ'->bK C B pts ops (i :: (pre++post)) σ σ'
 | [],_,σ,σ',h=>h
 |k :: pre,a,σ,σ',⟨σ₁,h1,b⟩=>by
  obtain⟨σ₂,c,d⟩:=qm pre (λk g=>a k (by simp[g])) σ₁ σ' b;obtain⟨τ,e,f⟩:=a k (by simp) σ σ₁ σ₂ h1 c;exact⟨τ,e,σ₂,f,d⟩
inductive Anc(ops:Tl)(k:Nat):Nat->Prop
 |edge {i:Nat} {o:Oper} {e:Edge} (ho:ops[i]?=some o) (he:e∈o.after.toList) (hb:Region.binds .any e=true) (hk:e.on=k):Anc ops k i
 |step {i:Nat} {o:Oper} {e:Edge} (ho:ops[i]?=some o) (he:e∈o.after.toList) (hb:Region.binds .any e=true) (h:Anc ops k e.on):Anc ops k i
def IJ{b:Tx}(d:∀(i k:Nat),(b.getD i 0).testBit k=true->Anc ops k i){i:Nat}{o:Oper}(p:ops[i]?=some o){k:Nat}(h:(E2 b o).testBit k=true):Anc ops k i:=by
 unfold E2 at h;have f:∀(l:List Edge) (m:Nat),(∀e∈l,e∈o.after.toList)->(m.testBit k=true->Anc ops k i)->
   (l.foldl (λm e=>match Region.binds .any e with
    |true=>Nat.lor (Nat.lor m (Nat.shiftLeft 1 e.on)) (b.getD e.on 0)
    |false=>m) m).testBit k=true->Anc ops k i:=by
  intro l
  induction l with
  |nil=>intro m _ j h;exact j h
  |cons e l r=>
   intro m n j h;simp only[Is]at h;refine r _ (λe q=>n e (by simp[q])) (λg=>?_) h;cases c:Region.binds .any e with
   |false=>simp only[c]at g;exact j g
   |true=>
    simp only[c]at g;have a:((m ||| (1 <<< e.on)) ||| b.getD e.on 0).testBit k=true:=g;rw[Nat.testBit_or,Nat.testBit_or,Ck,Ck]at a;rcases a with(a|a)|a
    ·exact j a
    ·rw[Nat.one_shiftLeft,Nat.testBit_two_pow]at a;exact .edge p (n e (by simp)) c (by simpa using a)
    ·exact .step p (n e (by simp)) c (d _ _ a)
 exact f _ 0 (λ_ h=>h) (λh=>by simp at h) h
def qV:∀(l:Tu) (a:Tx),ops.toList.drop a.length=l->(∀(i k:Nat),(a.getD i 0).testBit k=true->Anc ops k i)->∀(i k:Nat),((CC l a).getD i 0).testBit k=true->Anc ops k i
 | [],a,_,b=>b
 |o :: l,a,c,b=>by
  have f:ops[a.length]?=some o:=by
   have:(ops.toList.drop a.length)[0]?=some o:=by rw[c];rfl
   simpa using this
  refine qV l (a++[E2 a o]) (by rw[A5,←Lw,c];rfl) λi k h=>?_;rw[List.getD_eq_getElem?_getD,qdl]at h;split at h
  ·exact b i k (by rw[List.getD_eq_getElem?_getD];exact h)
  next d=>
   by_cases e:i=a.length
   ·subst e;simp at h;exact IJ b f h
   ·rw[Bd (by simp;omega)]at h;simp at h
def fG:Tu->Nat->Bool
 | [],_=>true
 |o :: l,i=>(o.after.toList.all λe=>!Region.binds .any e||Nat.blt e.on i)&&fG l (i+1)
def ri(N:Tb)(pts:Tx)(ops:Tl)(b:Oper)(m:Nat):Tu->Nat->Bool
 | [],_=>true
 |a :: l,k=>(Nat.testBit m k||yF N pts ops a b)&&ri N pts ops b m l (k+1)
def sn(N:Tb)(pts:Tx)(ops:Tl)(ms:Tx):Tu->Tu->Nat->Bool
 |_,[],_=>true
 |pre,b :: l,i=>ri N pts ops b (ms.getD i 0) pre 0&&sn N pts ops ms (pre++[b]) l (i+1)
def uD(N:Tb)(pts:Tx)(ops:Tl):Bool:=
 fG ops.toList 0&&sn N pts ops (CC ops.toList []) [] ops.toList 0
def fy:∀ {l:Tu} {i:Nat},fG l i=true->∀(j:Nat) o,l[j]?=some o->∀e∈o.after.toList,Region.binds .any e=true->e.on<i+j
 | [],i,_,j,o,h,_,_,_=>by simp at h
 |o :: l,i,h,j,p,a,e,c,b=>by
  simp only[fG,uc,qab]at h;cases j with
  |zero=>
   simp at a;subst a;have:=h.1 e c;rw[b]at this;simpa[BH]using this
  |succ j=>
   have:=fy h.2 j p (by simpa using a) e c b;omega
def pQ{b:Oper}{m:Nat}:∀ {l:Tu} {k:Nat},ri N pts ops b m l k=true->∀(j:Nat) a,l[j]?=some a->m.testBit (k+j)=true∨yF N pts ops a b=true
 | [],k,_,j,a,h=>by simp at h
 |a :: l,k,h,j,c,d=>by
  simp only[ri,uc,Ck]at h;cases j with
  |zero=>simp at d;subst d;exact h.1
  |succ j=>
   have:=pQ h.2 j c (by simpa using d)
   rwa [show k+1+j=k+(j+1)by omega]at this
def qv{ms:Tx}:∀ {l pre:Tu} {i:Nat},pre.length=i->sn N pts ops ms pre l i=true->∀(j:Nat) b,l[j]?=some b->∀(k:Nat) a,k<i+j->(pre++l)[k]?=some a->(ms.getD (i+j) 0).testBit k=true∨yF N pts ops a b=true
 | [],pre,i,_,_,j,b,h,_,_,_,_=>by simp at h
 |b :: l,pre,i,f,h,j,c,e,k,a,g,d=>by
  simp only[sn,uc]at h;cases j with
  |zero=>
   simp at e;subst e;rw[BE (by omega)]at d;have:=pQ h.1 k a d;simpa using this
  |succ j=>
   have:=qv (pre:=pre++[b]) (i:=i+1) (by simp[f]) h.2 j c (by simpa using e) k a (by omega) (by simpa using d)
   rwa [show i+1+j=i+(j+1)by omega]at this
def zp(h:uD N pts ops=true){i k:Nat}{a b:Oper}(d:ops[i]?=some b)(c:ops[k]?=some a)(e:k<i):Anc ops k i∨yF N pts ops a b=true:=by
 simp only[uD,uc]at h;have:=qv (pre:=[]) (i:=0) rfl h.2 i b (by simpa using d) k a (by omega) (by simpa using c);rw[Br]at this;exact this.imp (λh=>qV ops.toList [] rfl (λi k h=>by simp at h) i k h) id
def zo(h:uD N pts ops=true){i:Nat}{o:Oper}(c:ops[i]?=some o){e:Edge}(b:e∈o.after.toList)(a:Region.binds .any e=true):e.on<i:=by
 simp only[uD,uc]at h;have:=fy h.1 i o (by simpa using c) e b a;omega
def BX(n:Nat)(a:Array Bool):Tx:=(List.range n).filter λi=>!a.getD i true
def pL{a:Array Bool}(g:∀(x:Nat) o,a.getD x true=true->ops[x]?=some o->∀e∈o.after.toList,Region.binds .any e=true->a.getD e.on false=true){k i:Nat}(h:Anc ops k i)
  (p:∀o,ops[i]?=some o->∀e∈o.after.toList,Region.binds .any e=true->a.getD e.on false=true):a.getD k false=true:=by
 induction h with
 |edge m j d r=>rw[←r];exact p _ m _ j d
 |step m j d h t=>
  have c:=p _ m _ j d;refine t λo n e l f=>g _ o ?_ n e l f
  rename_i q
  rw[CP]at c ⊢;cases s:a[q.on]? with
  |none=>rfl
  |some b=>rw[s]at c;exact c
abbrev _root_.Tt:=Nat->Bool
def ic{p:Tt}{i:Nat}:∀ {l:Tx},l.Nodup->i∈l.filter p->∃pre post,l.filter p=pre++i :: post/\(l.filter λj=>p j&&j != i)=pre++post/\(∀k∈pre,k∈l.filter p/\k≠i)
 | [],_,h=>by simp at h
 |x :: l,f,h=>by
  rw[qbU]at f;by_cases d:x=i
  ·subst d;have a:p x=true:=(qaN.1 h).2;refine⟨[],l.filter p,by simp[a],?_,by simp⟩;simp only[Ap,ML,a,bne_self_eq_false,Bool.and_false,Bf,if_false];refine qdJ λj q=>?_;have:j≠x:=λe=>f.1 (e▸q);simp[this]
  ·have o:i∈l.filter p:=by
    rw[qaN]at h ⊢;exact⟨(qar.1 h.1).resolve_left λe=>d e.symm,h.2⟩
   obtain⟨pre,post,m,n,e3⟩:=ic f.2 o;by_cases a:p x=true
   ·refine⟨x :: pre,post,by simp[ML,a,m],?_,λk c=>?_⟩
    ·simp only[ML,a,qdo,Aw];rw[mc (by simpa using d),n]
    ·rcases qar.1 c with rfl|c
     ·exact⟨by simp[qaN,a],d⟩
     ·obtain⟨b,g⟩:=e3 k c;rw[qaN]at b ⊢;exact⟨⟨by simp[b.1],b.2⟩,g⟩
   ·refine⟨pre,post,by simp[ML,a,m],?_,λk c=>?_⟩
    ·simp only[ML,a,qd2,Bf,if_false];exact n
    ·obtain⟨b,g⟩:=e3 k c;rw[qaN]at b ⊢;exact⟨⟨by simp[b.1],b.2⟩,g⟩
def lN{p:Tt}:∀ {n:Nat} {pre post:Tx} {i:Nat},(List.range n).filter p=pre++i :: post->∀k∈pre,k<i:=by
 intro n pre post i h k b;have a:((List.range n).filter p).Pairwise (· < ·):=qcP _ Rt;rw[h,UE]at a;exact a.2.2 k b i (by simp)
def QW(hN:Bq N B)(f:uD N pts ops=true):∀(fuel t:Nat) (a:Array Bool),a.size=ops.size->(BX ops.size a).length=fuel->
  (∀(x:Nat) o,a.getD x true=true->ops[x]?=some o->∀e∈o.after.toList,Region.binds .any e=true->a.getD e.on false=true)->
  ∀σ σ':St,bK C B pts ops (BX ops.size a) σ σ'->bK C B pts ops (Region.linearise.go .any ops fuel t a []) σ σ'
 |0,t,a,_,K,_,σ,σ',h=>by
  have:BX ops.size a=[]:=qa5.1 K;rw[this]at h;simpa[Region.linearise.go]using h
 |fuel+1,t,a,W,K,z,σ,σ',h=>by
  simp only[Region.linearise.go];generalize F:((List.range ops.size).filter λi=>!a.getD i true&&((ops[i]?).map (·.after.all λe=>!Region.binds .any e||a.getD e.on false)).getD false)=rs;have m:∀i∈rs,i<ops.size/\a.getD i true=false/\∀o,ops[i]?=some o->∀e∈o.after.toList,Region.binds .any e=true->a.getD e.on false=true:=by
   intro i J;rw[←F,qaN,qad]at J;obtain⟨P,Q⟩:=J;simp only[uc,Ry]at Q;refine⟨P,Q.1,λo r e v g=>?_⟩;have I:=Q.2;rw[r]at I;simp only[BB,HV]at I;rw[qcY]at I;have:=I e (by simpa using v);rw[g]at this;simpa using this
  have V:rs≠[]:=by
   have hu:BX ops.size a≠[]:=by intro e;rw[e]at K;cases K
   obtain⟨M,tl,s⟩:=qdw hu;have S:M∈BX ops.size a:=by rw[s];simp
   have l:=S;rw[BX,qaN,qad]at l;have c:M∈rs:=by
    rw[←F,qaN,qad];refine⟨l.1,?_⟩;simp only[uc];refine⟨l.2,?_⟩;have r:ops[M]?=some ops[M]:=by simp[l.1]
    rw[r];simp only[BB,HV];rw[qcY];intro e v;cases g:Region.binds .any e with
    |false=>simp
    |true=>
     have ad:=zo f r (by simpa using v) g;simp only[Bs,qdL];by_cases b:a.getD e.on true=true
     ·have L:e.on<a.size:=by omega
      rw[CP]at b ⊢;rw[MN L]at b ⊢;exact b
     ·exfalso;have D:e.on∈BX ops.size a:=by
       rw[BX,qaN,qad];exact⟨by omega,by simpa using b⟩
      rw[s]at D;rcases qar.1 D with D|D
      ·omega
      ·have L:(BX ops.size a).Pairwise (· < ·):=qcP _ Rt;rw[s,qbb]at L;have:=L.1 _ D;omega
   intro e;rw[e]at c;cases c
  have d:0<rs.length:=qbe.2 V;have A:rs[t%rs.length]?=some (rs[t%rs.length]'(H3 _ d)):=A4 (H3 _ d);rw[A];simp only;generalize J:rs[t%rs.length]'(H3 _ d)=i;have c:i∈rs:=by rw[←J];exact qdg _
  obtain⟨i1,i2,i3⟩:=m i c;rw[linearise_go_acc,List.reverse_singleton,List.singleton_append];have T:i∈(List.range ops.size).filter λj=>!a.getD j true:=by
   rw[qaN,qad];exact⟨i1,by simp[i2]⟩
  obtain⟨u,post,O,e2,e3⟩:=ic qcT T;have E:=lN O;have n:BX ops.size (a.setIfInBounds i true)=u++post:=by
   rw[←e2];unfold BX;refine qdJ λj hj=>?_;rw[CP,CP,Rv];by_cases q:i=j
   ·subst q;rw[mc rfl,mc (by omega)];simp
   ·rw[po q];have:(j != i)=true:=by simpa using λe=>q e.symm
    simp[this]
  have U:=qm (C:=C) (B:=B) (pts:=pts) (ops:=ops) (i:=i) (post:=post) u (λk hk σ σ₁ σ' Y Z=>by
   obtain⟨X,m2⟩:=e3 k hk;rw[qaN,qad]at X;have ha:ops[k]?=some ops[k]:=by simp[X.1]
   have g:ops[i]?=some ops[i]:=by simp[i1]
   rcases zp f g ha (E k hk)with w|R
   ·exfalso;have:=pL z w i3;have H:=X.2;rw[CP]at this H;rw[MN (by omega)]at this H;simp only[HV]at this H;rw[this]at H;cases H
   ·exact PX hN ha g R Y Z) σ σ'
  obtain⟨σ₁,Y,Z⟩:=U (by rw[←O];exact h);refine⟨σ₁,Y,QW hN f fuel _ _ (by simp[W]) ?_ ?_ σ₁ σ' (by rw[n];exact Z)⟩
  ·rw[n];have:(BX ops.size a).length=(u++post).length+1:=by
    show(List.filter _ _).length=_;rw[O];simp;omega
   omega
  ·intro x o hx r e v g;have p:∀y,a.getD y false=true->(a.setIfInBounds i true).getD y false=true:=by
    intro y hy;rw[CP]at hy ⊢;rw[Rv];split
    next P=>
     subst P;rw[mc (by omega)];rfl
    ·exact hy
   by_cases G:x=i
   ·subst G;exact p _ (i3 o r e v g)
   ·refine p _ (z x o ?_ r e v g);rw[CP,Rv,po (λe=>G e.symm)]at hx;rw[CP];exact hx
def RR(f:Bq N B)(a:uD N pts ops=true){σ σ':St}(h:bK C B pts ops (List.range ops.size) σ σ'):ew C B pts ops σ σ':=by
 refine .inl λt=>?_;have e:BX ops.size (Array.replicate ops.size false)=List.range ops.size:=by
  unfold BX;rw[qdr];intro i c;rw[qad]at c;rw[CP,Vn,mc c];rfl
 refine QW f a ops.size t (Array.replicate ops.size false) (by simp) (by rw[e];simp) (λx o d g=>?_) σ σ' (by rw[e];exact h);have b:x<ops.size:=(qaP.1 g).1;rw[CP,Vn,mc b]at d;cases d
end
end Sx
namespace Sx
section
variable [Val] [Kno] {C:Cfg}
def Lo(v:Value):Prop:=match v with
 | .pointer (some p)=>p.spot=some 0
 |_=>True
def xR{v:Value}(h:plain v=true):Lo v:=by
 cases v<;>try trivial
 rename_i a
 cases a<;>first|trivial|(simp[plain,jb,scalar,iU]at h)
def GT{a:Tx}{v:Value}(h:Lo v):Lo (iZ a v):=by
 unfold iZ
 repeat' split
 all_goals first|exact h|trivial
def Dt(b:Tx)(σ:St):Prop:=∀a∈b,∀v,σ.tmps[a]?=some v->Lo v
def ur(N:Tb)(pts a:Tx)(o:Oper):Bool:=
 (match av N pts o with
 |some .no=>true
 |some (.row _ _)=>true
 |some (.neu _)=>true
 |_=>false) &&
 match o.dst with
 |some d=>!a.contains d||(Nat.beq (pts.getD d 0) (d+2)&&match o.op with
  | .alloc _=>true
  | .box _ _=>true
  |_=>false)
 |none=>true
def CJ(N:Tb)(pts c:Tx):Code->Bool
 | .skip | .label _ | .ret | .exit _=>true
 | .seq a b=>CJ N pts c a&&CJ N pts c b
 | .cond _ a b=>CJ N pts c a&&CJ N pts c b
 | .block _ b=>CJ N pts c b
 | .loop b=>CJ N pts c b
 | .scope b=>CJ N pts c b
 | .region _ ops _=>ops.toList.all (ur N pts c)
 |_=>false
def Dg(N:Tb)(pts:Tx)(o:Oper):Bool:=match av N pts o with
 |some .no=>true
 |some (.row _ _)=>true
 |some (.neu _)=>true
 |some .hr=>true
 |_=>false
def LG(N:Tb)(pts:Tx):Code->Bool
 | .skip | .label _ | .ret | .exit _=>true
 | .seq a b=>LG N pts a&&LG N pts b
 | .cond _ a b=>LG N pts a&&LG N pts b
 | .block _ b=>LG N pts b
 | .loop b=>LG N pts b
 | .scope b=>LG N pts b
 | .region _ ops _=>ops.toList.all (Dg N pts)
 |_=>false
def gO(l:List ResultVar):Tx:=l.filterMap λr=>match r with
 | .cell a _=>some a
 | .tmp _=>none
def EE(N:Tb)(C:Cfg)(f:TK)(n:Nat):Bool:=
 match C.P.funcs[f]? with
 |some c=>match c.body with
  |some b=>match Nat.beq (n%2) 0 with
   |true=>CJ N (C.pts f) (gO c.results.toList) b&&(gO c.results.toList).all λa=>Nat.ble (n / 2) a
   |false=>C.opq f||LG N (C.pts f) b
  |none=>false
 |none=>false
def ut{pts:Tx}{d:Nat}{t:TJ}{v:Value}{e:Eff}(b:pts.getD d 0=d+2)(a:cG C pts (some d) t v=some e):∃s vs,e = .lnew s vs:=by
 unfold cG at a;split at a
 ·cases a
 ·simp only at a;split at a
  ·cases a
  ·exact⟨_,_,(AD a).symm⟩
def xW{b:Tx}{σ τ:St}{dst:Tn}{v:Value}(h:Dt b σ)(g:τ.tmps=σ.tmps)(e:(∀d,dst=some d->d∉b)∨Lo v):Dt b (τ.put dst v):=by
 intro a f x c;cases dst with
 |none=>exact h a f x (by rw[←g];exact c)
 |some d=>
  simp only[St.put,DX,g]at c;split at c
  next i=>
   subst i;split at c
   ·cases c;rcases e with e|e
    ·exact absurd f (e _ rfl)
    ·exact e
   ·cases c
  ·exact h a f x c
def yh{N:Tb}{B:Below}(L:Bq N B){pts b:Tx}{ops:Tl}(q:ops.toList.all (ur N pts b)=true){i:Nat}{σ σ':St}(n:Dt b σ)(h:aj C B pts ops i σ σ') :
  σ'.heap=σ.heap/\Dt b σ'/\∀H,aj C B pts ops i { σ with heap:=H } { σ' with heap:=H }:=by
 cases l:ops[i]? with
 |none=>
  have:σ'=σ:=by simpa[aj,l]using h
  subst this;exact⟨rfl,n,λH=>by simp[aj,l]⟩
 |some o=>
  have D:ur N pts b o=true:=qab.1 q o (by
   have:=qda l;simpa using this)
  unfold ur at D;rw[uc]at D;obtain⟨j,r⟩:=D;have O:av N pts o≠none:=by intro e;rw[e]at j;cases j
  obtain⟨e,rfl,T,R⟩:=iK L l O h;have F:e.hp=none:=by
   cases M:e.hp with
   |none=>rfl
   |some x=>
    have:=T.2 (by rw[M];simp);rw[this]at j;cases j
  refine⟨by rw[dV,F];rfl,?_,λH=>?_⟩
  ·by_cases g:∀d,o.dst=some d->d∉b
   ·unfold Ef.on;exact xW n rfl (.inl g)
   · -- a local row is laid
    obtain⟨d,g⟩:=Classical.not_forall.1 g;obtain⟨c,g⟩:=Classical.not_imp.1 g;have g:=Classical.not_not.1 g;rw[c]at r;simp only[qcQ,g,decide_true,Bs,qdL,uc]at r;have G:pts.getD d 0=d+2:=by simpa using r.1
    unfold aj at h;simp only[l]at h;split at h
    ·exact h.elim
    ·rw[h];exact xW n rfl (.inr trivial)
    ·rcases h with⟨K,k,w⟩|⟨v,k,w⟩
     ·have y:∃s I,K = .lnew s I:=by
       have o3:=r.2;obtain⟨dst,S,U,pos,u,guard⟩:=o;simp only at c o3;subst c;cases S<;>first|cases o3|skip
       ·simp only[ao]at k;obtain⟨z,_,Q⟩:=qay.1 k;exact ut G Q
       ·exact ut G k
      obtain⟨s,I,rfl⟩:=y;obtain⟨p,f,E⟩:=w;rw[E];simp only[aX]at f;split at f
      ·cases f;exact xW n rfl (.inr rfl)
      ·cases f
     ·rw[w];exact xW n rfl (.inr (xR k.2.2.1))
  ·have P:Ax N pts ops o σ { σ with heap:=H }:=by
    refine⟨λt _=>rfl,?_⟩;cases A:av N pts o with
    |none=>trivial
    |some m=>rw[A]at j;cases m<;>first|trivial|cases j|rfl
   have:=R _ P;have J:e.on o.dst { σ with heap:=H } = { e.on o.dst σ with heap:=H }:=by
    unfold Ef.on;rw[F];cases o.dst<;>rfl
   rw[J]at this;exact this
def vO{N:Tb}{B:Below}(d:Bq N B){pts b:Tx}{ops:Tl}(a:ops.toList.all (ur N pts b)=true):∀(l:Tx) {σ σ':St},Dt b σ->bK C B pts ops l σ σ'->
  σ'.heap=σ.heap/\Dt b σ'/\∀H,bK C B pts ops l { σ with heap:=H } { σ' with heap:=H }
 | [],σ,σ',c,h=>by
  have:σ'=σ:=h;subst this;exact⟨rfl,c,λH=>rfl⟩
 |i :: l,σ,σ',c,⟨σ₁,n,o⟩=>by
  obtain⟨e,f,g⟩:=yh d a c n;obtain⟨j,k,m⟩:=vO d a l f o;exact⟨j.trans e,k,λH=>⟨_,g H,m H⟩⟩
def qB{b:Tx}{σ σ':St}(j:Dt b σ)(h:fD σ σ'):Dt b σ':=by
 intro a i v c;obtain⟨_,_,l,f⟩:=h;have k:a<σ'.tmps.length:=(qbh.1 c).1;have d:σ.tmps[a]?=some (σ.tmps[a]'(by omega)):=A4 _;rcases f a _ _ d c with e|⟨_,g,_⟩
 ·rw[e];exact j a i _ d
 ·exact xR g
def lX{σ σ':St}(h:fD σ σ')(H:Tp):fD { σ with heap:=H } { σ' with heap:=H }:=⟨h.1,rfl,h.2.2.1,h.2.2.2⟩
def xD{N:Tb}{B:Below}(e:Bq N B){pts b:Tx}{ops:Tl}(a:ops.toList.all (ur N pts b)=true):∀(l:Tx) {σ σ':St},Dt b σ->fj C B pts ops l σ σ'->
  σ'.heap=σ.heap/\Dt b σ'/\∀H,fj C B pts ops l { σ with heap:=H } { σ' with heap:=H }
 | [],σ,σ',d,h=>by
  have:σ'=σ:=h;subst this;exact⟨rfl,d,λH=>rfl⟩
 |i :: l,σ,σ',d,⟨σ₀,σ₁,c,o,p⟩=>by
  obtain⟨f,g,j⟩:=yh e a (qB d c) o;obtain⟨k,m,n⟩:=xD e a l g p;exact⟨k.trans (f.trans c.2.1),m,λH=>⟨_,_,lX c H,j H,n H⟩⟩
def Jc{b:Tx}{σ:St}{c:Tx}(d:Dt b σ):Dt b (σ.clear c):=by
 unfold St.clear;split
 ·exact d
 ·intro a f v e;simp only[AU,qag]at e;obtain⟨x,g,rfl⟩:=e;exact GT (d a f x g)
def E5(σ:St)(a:Tx)(H:Tp):St.clear { σ with heap:=H } a = { σ.clear a with heap:=H }:=by
 unfold St.clear;split<;>rfl
def wD(σ:St)(a:Tx):(σ.clear a).heap=σ.heap:=by
 unfold St.clear;split<;>rfl
def zt{σ:St}{r:ResultVar}{b:Tx}(e:Dt b σ)(d:∀a∈gO [r],a∈b)(H:Tp):fl C { σ with heap:=H } r=fl C σ r:=by
 cases r with
 |tmp t=>rfl
 |cell a t=>
  have f:a∈b:=d a (by simp[gO]);unfold fl;simp only;cases c:σ.tmps[a]? with
  |none=>simp[List.getD_eq_getElem?_getD,c,undef]
  |some v=>
   have:=e a f v c;simp only[List.getD_eq_getElem?_getD,c,HV];cases v<;>try rfl
   rename_i p
   cases p with
   |none=>rfl
   |some p=>
    have g:p.spot=some 0:=this;simp only[g]
def oN{σ:St}{b:Tx}(d:Dt b σ)(H:Tp):∀(l:List ResultVar),(∀a∈gO l,a∈b)->da C { σ with heap:=H } l=da C σ l
 | [],_=>rfl
 |r :: l,c=>by
  have e:=zt (C:=C) (r:=r) d (λa h=>c a (by cases r<;>simp[gO]at h ⊢;exact .inl h)) H;have f:=oN d H l (λa h=>c a (by cases r<;>simp[gO]at h ⊢<;>first|exact h|exact .inr h));simp only[da,e,f]
def O2{N:Tb}{pts b:Tx}{o:Oper}(h:dq pts o=true)(f:ur N pts b o=true):False:=by
 have i:av N pts o=some .hw:=by
  obtain⟨dst,j,k,pos,a,guard⟩:=o;cases j<;>simp only[dq,Bf]at h<;>first|rfl|skip
  ·cases dst with
   |none=>cases h
   |some d=>
    simp only[av];rw[po (λe=>by
     have h:(!Nat.beq (pts.getD d 0) (d+2))=true:=h;rw[e,show Nat.beq (d+2) (d+2)=true from Ea _]at h;cases h)]
  ·cases dst with
   |none=>cases h
   |some d=>
    simp only[av];rw[po (λe=>by
     have h:(!Nat.beq (pts.getD d 0) (d+2))=true:=h;rw[e,show Nat.beq (d+2) (d+2)=true from Ea _]at h;cases h)]
  next c=>
   simp only[av];split at h
   next g=>rw[g]
   ·cases h
 unfold ur at f;rw[i]at f;cases f
def Gt{N:Tb}{B:Below}(d:Bq N B){pts:Tx}{ops:Tl}(b:ops.toList.all (Dg N pts)=true){i:Nat}{σ σ':St}(h:aj C B pts ops i σ σ'):σ'.heap=σ.heap:=by
 cases c:ops[i]? with
 |none=>
  have:σ'=σ:=by simpa[aj,c]using h
  rw[this]
 |some o=>
  have a:Dg N pts o=true:=qab.1 b o (by
   have:=qda c;simpa using this)
  have j:av N pts o≠none:=by intro e;unfold Dg at a;rw[e]at a;cases a
  obtain⟨e,rfl,k,_⟩:=iK d c j h;have g:e.hp=none:=by
   cases f:e.hp with
   |none=>rfl
   |some x=>
    have:=k.2 (by rw[f];simp);unfold Dg at a;rw[this]at a;cases a
  rw[dV,g];rfl
def KY{N:Tb}{B:Below}(b:Bq N B){pts:Tx}{ops:Tl}(a:ops.toList.all (Dg N pts)=true):∀(l:Tx) {σ σ':St},bK C B pts ops l σ σ'->σ'.heap=σ.heap
 | [],_,_,h=>by cases h;rfl
 |_ :: l,_,_,⟨_,h1,c⟩=>(KY b a l c).trans (Gt b a h1)
def F0{N:Tb}{B:Below}(b:Bq N B){pts:Tx}{ops:Tl}(a:ops.toList.all (Dg N pts)=true):∀(l:Tx) {σ σ':St},fj C B pts ops l σ σ'->σ'.heap=σ.heap
 | [],_,_,h=>by cases h;rfl
 |_ :: l,_,_,⟨_,_,h0,h1,c⟩=>(F0 b a l c).trans ((Gt b a h1).trans h0.2.1)
def Ug{N:Tb}{pts:Tx}{o:Oper}(h:dq pts o=true)(b:Dg N pts o=true):False:=by
 have g:av N pts o=some .hw:=by
  obtain⟨dst,i,j,pos,a,guard⟩:=o;cases i<;>simp only[dq,Bf]at h<;>first|rfl|skip
  ·cases dst with
   |none=>cases h
   |some d=>
    simp only[av];rw[po (λe=>by
     have h:(!Nat.beq (pts.getD d 0) (d+2))=true:=h;rw[e,show Nat.beq (d+2) (d+2)=true from Ea _]at h;cases h)]
  ·cases dst with
   |none=>cases h
   |some d=>
    simp only[av];rw[po (λe=>by
     have h:(!Nat.beq (pts.getD d 0) (d+2))=true:=h;rw[e,show Nat.beq (d+2) (d+2)=true from Ea _]at h;cases h)]
  next c=>
   simp only[av];split at h
   next f=>rw[f]
   ·cases h
 unfold Dg at b;rw[g]at b;cases b
def xu{N:Tb}(T:∀f n,N f=some n->EE N C f n=true)(K:∀f args H r H',Kno.kh f args H r H'->N f=none∨(N f=some (2*args.length+1)/\H'=H)):∀n,(Bq N (sm C n).toBelow/\∀pts c,LG N pts c=true->∀σ e σ',(sm C n).ex pts c σ e σ'->σ'.heap=σ.heap)/\
  ∀pts s c,CJ N pts s c=true->∀σ e σ',Dt s σ->(sm C n).ex pts c σ e σ'->σ'.heap=σ.heap/\Dt s σ'/\∀H,(sm C n).ex pts c { σ with heap:=H } e { σ' with heap:=H }
 |0=>⟨⟨⟨λf args H r H' i h=>(by
   rcases h with h|h
   ·exact⟨h.2,λP=>.inl ⟨h.1,rfl⟩⟩
   ·have i:N f=some (2*args.length):=i;rcases K f args H r H' h with e|⟨e,_⟩
    ·rw[e]at i;cases i
    ·rw[e]at i;have:=AD i;omega),λf args H r H' i h=>(by
   rcases h with h|h
   ·exact h.2
   ·have i:N f=some (2*args.length+1):=i;rcases K f args H r H' h with e|⟨_,e⟩
    ·rw[e]at i;cases i
    ·exact e)⟩,λ_ _ _ _ _ _ h=>absurd h id⟩,λ_ _ _ _ _ _ _ _ h=>absurd h id⟩
 |n+1=>by
  obtain⟨⟨z,p⟩,k⟩:=xu T K n;refine⟨⟨⟨λf args H r H' i h=>?_,λf args H r H' i h=>?_⟩,λpts c d σ e σ' h=>?_⟩,λpts s c d σ e σ' w h=>?_⟩
  rotate_left
  ·rcases h with h|⟨R,b,e,σ,Z,Q,c2,c3,c4,c5,c6,c7,c8,c9⟩
   ·rcases h with h|h
    ·exact h.2
    ·have i:N f=some (2*args.length+1):=i;rcases K f args H r H' h with e|⟨_,e⟩
     ·rw[e]at i;cases i
     ·exact e
   ·have G:=T f _ i;have S:=(qb5.1 c3).2;unfold EE at G;have M:Nat.beq ((2*args.length+1)%2) 0=false:=by
     rw[show(2*args.length+1)%2=1 by omega];rfl
    simp only[Q,c2,M,S,qdL]at G;exact c9.trans (p _ _ G _ _ _ c4)
  ·have h:nO C (sm C n) pts c σ e σ':=h;cases c with
   |skip=>obtain⟨rfl,rfl⟩:=h;rfl
   |label l=>obtain⟨rfl,rfl⟩:=h;rfl
   |ret=>obtain⟨rfl,rfl⟩:=h;rfl
   |exit id=>obtain⟨rfl,rfl⟩:=h;rfl
   |seq a b=>
    simp only[LG,uc]at d;obtain⟨e₁,σ₁,j,g⟩:=h;have q:=p _ _ d.1 _ _ _ j;rcases g with⟨rfl,g⟩|⟨g,rfl,rfl⟩
    ·exact(p _ _ d.2 _ _ _ g).trans q
    ·exact q
   |cond x a b=>
    simp only[LG,uc]at d;obtain⟨t,j,g⟩:=h;cases t with
    |true=>exact p _ _ d.1 _ _ _ g
    |false=>exact p _ _ d.2 _ _ _ g
   |block id b=>
    obtain⟨e₁,j,rfl⟩:=h;exact p pts b d _ _ _ j
   |scope b=>exact p pts b d _ _ _ h
   |loop b=>
    obtain⟨e₁,σ₁,j,g⟩:=h;have q:=p pts b d _ _ _ j;rw[wD]at q;rcases g with⟨rfl,g⟩|⟨g,rfl,rfl⟩
    ·exact(p pts (.loop b) d _ _ _ g).trans q
    ·exact q
   |region id u y=>
    obtain⟨rfl,F⟩:=h;cases y with
    |true=>
     obtain⟨σ₀,J,j⟩ : ∃σ₀,fD σ σ₀/\ew C (sm C n).toBelow pts u σ₀ σ':=F;rcases j with j|⟨sl,m,Y,_⟩
     ·exact(KY z d _ (j 0)).trans J.2.1
     ·exfalso;obtain⟨o,W,X⟩:=qcm.1 Y;exact Ug X (qab.1 d o W)
    |false=>
     have F:fj C (sm C n).toBelow pts u (List.range u.size) σ σ':=F;exact F0 z d _ F
   |_=>cases d
  rotate_right
  ·rcases h with h|⟨R,b,e,σ,Z,Q,c2,c3,c4,c5,c6,c7,c8,c9⟩
   ·rcases h with h|h
    ·exact⟨h.2,λP=>.inl (.inl ⟨h.1,rfl⟩)⟩
    ·have i:N f=some (2*args.length):=i;rcases K f args H r H' h with e|⟨e,_⟩
     ·rw[e]at i;cases i
     ·rw[e]at i;have:=AD i;omega
   ·have G:=T f _ i;unfold EE at G;have U:Nat.beq (2*args.length%2) 0=true:=by
     rw[show 2*args.length%2=0 by omega];rfl
    simp only[Q,c2,U,uc,qab,show 2*args.length / 2=args.length by omega]at G;have w:Dt (gO R.results.toList) (lM R args H):=by
     intro a ha v O;have V:args.length<=a:=by simpa using G.2 a ha
     simp only[lM]at O;rw[Cd V,It]at O;split at O
     ·cases O;trivial
     ·cases O
    obtain⟨d1,d2,d3⟩:=k _ _ _ G.1 _ _ _ w c4;refine⟨c9.trans d1,λP=>.inr ⟨R,b,e,_,Z,Q,c2,c3,d3 P,c5,?_,c7,c8,rfl⟩⟩;rw[oN d2 P _ (λa h=>h)];exact c6
  ·have h:nO C (sm C n) pts c σ e σ':=h;show _/\_/\∀H,nO C (sm C n) pts c { σ with heap:=H } e { σ' with heap:=H };cases c with
   |skip=>obtain⟨rfl,rfl⟩:=h;exact⟨rfl,w,λH=>⟨rfl,rfl⟩⟩
   |label l=>obtain⟨rfl,rfl⟩:=h;exact⟨rfl,w,λH=>⟨rfl,rfl⟩⟩
   |ret=>obtain⟨rfl,rfl⟩:=h;exact⟨rfl,w,λH=>⟨rfl,rfl⟩⟩
   |exit id=>obtain⟨rfl,rfl⟩:=h;exact⟨rfl,w,λH=>⟨rfl,rfl⟩⟩
   |seq a b=>
    simp only[CJ,uc]at d;obtain⟨e₁,σ₁,j,g⟩:=h;obtain⟨q,A,I⟩:=k _ _ _ d.1 _ _ _ w j;rcases g with⟨rfl,g⟩|⟨g,rfl,rfl⟩
    ·obtain⟨B,D,E⟩:=k _ _ _ d.2 _ _ _ A g;exact⟨B.trans q,D,λH=>⟨_,_,I H,.inl ⟨rfl,E H⟩⟩⟩
    ·exact⟨q,A,λH=>⟨_,_,I H,.inr ⟨g,rfl,rfl⟩⟩⟩
   |cond x a b=>
    simp only[CJ,uc]at d;obtain⟨t,j,g⟩:=h;cases t with
    |true=>
     obtain⟨B,D,E⟩:=k _ _ _ d.1 _ _ _ w g;exact⟨B,D,λH=>⟨true,j,E H⟩⟩
    |false=>
     obtain⟨B,D,E⟩:=k _ _ _ d.2 _ _ _ w g;exact⟨B,D,λH=>⟨false,j,E H⟩⟩
   |block id b=>
    obtain⟨e₁,j,rfl⟩:=h;obtain⟨B,D,E⟩:=k pts s b d _ _ _ w j;exact⟨B,D,λH=>⟨_,E H,rfl⟩⟩
   |scope b=>exact k pts s b d _ _ _ w h
   |loop b=>
    obtain⟨e₁,σ₁,j,g⟩:=h;obtain⟨q,A,I⟩:=k pts s b d _ _ _ (Jc w) j;rw[wD]at q;rcases g with⟨rfl,g⟩|⟨g,rfl,rfl⟩
    ·obtain⟨B,D,E⟩:=k pts s (.loop b) d _ _ _ A g;exact⟨B.trans q,D,λH=>⟨_,_,by rw[E5];exact I H,.inl ⟨rfl,E H⟩⟩⟩
    ·exact⟨q,A,λH=>⟨_,_,by rw[E5];exact I H,.inr ⟨g,rfl,rfl⟩⟩⟩
   |region id u y=>
    obtain⟨rfl,F⟩:=h;cases y with
    |true=>
     obtain⟨σ₀,J,j⟩ : ∃σ₀,fD σ σ₀/\ew C (sm C n).toBelow pts u σ₀ σ':=F;have L:=qB w J;rcases j with j|⟨sl,m,Y,_⟩
     case inr=>
      exfalso;obtain⟨o,W,X⟩:=qcm.1 Y;exact O2 X (qab.1 d o W)
     obtain⟨q,A,_⟩:=vO z d _ L (j 0);refine⟨q.trans J.2.1,A,λH=>⟨rfl,⟨_,lX J H,.inl λt=>?_⟩⟩⟩;exact(vO z d _ L (j t)).2.2 H
    |false=>
     have F:fj C (sm C n).toBelow pts u (List.range u.size) σ σ':=F;obtain⟨q,A,I⟩:=xD z d _ w F;exact⟨q,A,λH=>⟨rfl,I H⟩⟩
   |_=>cases d
def XA{N:Tb}(a:∀f n,N f=some n->EE N C f n=true)(b:∀f args H r H',Kno.kh f args H r H'->N f=none∨(N f=some (2*args.length+1)/\H'=H))(pts:Tx)(ops:Tl)(h:uD N pts ops=true)(n:Nat)(σ σ':St)(c:bK C (sm C n).toBelow pts ops (List.range ops.size) σ σ') :
  ew C (sm C n).toBelow pts ops σ σ':=RR (xu a b n).1.1 h c
end
end Sx
end Go.Am
end

/-
  PART 6 OF THE PROOF (no conditions).
-/
import Derived.Test.YtoeibflkihlloaaGreatDoorCE5
import Derived.Shelf.SlSortCmp.WholeK
set_option linter.unusedSectionVars false
set_option linter.unusedSimpArgs false
set_option linter.unusedVariables false
set_option linter.constructorNameAsVariable false
set_option linter.defProp false
noncomputable section
set_option maxRecDepth 100000
set_option maxHeartbeats 16000000
namespace Go.Am
open Sx Go.Proofs
namespace St
def tG{α:Type}{e:Nat}{enc:α->Tl}(henc:∀a,(enc a).length=e){h:HL}{id cx len:Nat}{l:List α}{i:Nat}{a:α}{n:Int}{new:Tl}{K:Ta}(hg:h[id]?=some (.o (.cells (l.flatMap enc) e true)))(hn:n=Int.ofNat i)(hi:i<l.length)(hlen:l.length=len)(hnew:new=enc a)(hk:K [] (putE h id e enc (l.set i a))) :
  P1.opt (idS e (.slice (some ⟨id,0,tag e⟩) len cx) n) (@hid _ ⟨λx=>P1.heap (.st x new) h (@hid _ ⟨K⟩)⟩):=by
 have hp:putE h id e enc l=h:=eK hg
 have:=r_set (C:=cc) (Sg:=ab) (T:=aa) (h:=h) (id:=id) (cx:=cx) (len:=len) (l:=l) henc (av hg) hn hi hlen hnew hk
 rw[hp]at this
 exact this
def dj{α:Type}{h:HL}{id e j:Nat}{enc:α->Tl}{l:List α}(hj:j≠id):(putE h id e enc l)[j]?=h[j]?:=by
 unfold putE
 rw[qaA (qcs hj)]
def encN(n:Nat):Tl:=[.int .i64 (Int.ofNat n)]
def vw(n:Nat):(encN n).length=1:=rfl
def encT(t:Bool):Tl:=[.bool t]
def lX(t:Bool):(encT t).length=1:=rfl
def jq(q:TB):(q.flatMap encN).length=q.length:=by
 rw[aD (e:=1) (enc:=encN) λa _=>vw a,qcg]
def WQ(b:Nat)(h:HL)(v:Value)(q:TB):Prop:=∃id off cx vs,v = .slice (some ⟨id,off,tag 1⟩) q.length cx/\b<=id/\h[id]?=some (.o (.cells vs 1 true))/\cut vs off (q.length*1)=some (q.flatMap encN)/\(cx=0∨cx=q.length+1)
def WQ.ls{b:Nat}{h:HL}{v:Value}{q:TB}(hw:WQ b h v q):LsH h v 1 encN q:=by
 obtain⟨id,off,cx,vs,rfl,h1,h2,h3,_⟩:=hw
 exact⟨λa _=>vw a,by rw[jq,qcg],.inr ⟨id,off,cx,vs,true,rfl,h2,h3⟩⟩
def WQ.good{b:Nat}{h:HL}{v:Value}{q:TB}(hw:WQ b h v q):aS v=true:=hw.ls.good
def WQ.keep{b:Nat}{h h':HL}{v:Value}{q:TB}(hw:WQ b h v q)(hk:∀(j:Nat) o,b<=j->h[j]?=some o->h'[j]?=some o):WQ b h' v q:=by
 obtain⟨id,off,cx,vs,h0,h1,h2,h3⟩:=hw
 exact⟨id,off,cx,vs,h0,h1,hk _ _ h1 h2,h3⟩
def r_tail{b:Nat}{h:HL}{v:Value}{a:Nat}{q:TB}{K:Value->Prop}(hw:WQ b h v (a :: q))(hk:∀v',WQ b h v' q->aS v'=true->K v'):P1.opt (slS 1 v (some 1) none none) (@hid _ ⟨K⟩):=by
 obtain⟨id,off,cx,vs,rfl,h1,h2,h3,h4⟩:=hw
 have hr:slS 1 (.slice (some ⟨id,off,tag 1⟩) (a :: q).length cx) (some 1) none none=some (.slice (some ⟨id,off+1,tag 1⟩) q.length (cx - 1)):=by
  unfold slS
  have e1:¬(tag 1≠some 1/\tag 1≠tag 1):=by simp
  simp only[qdE e1]
  have e2:(0:Int)<=(some (1:Int)).getD 0/\(some (1:Int)).getD 0<=(none:Tq).getD ((a :: q).length:Int)/\bR (a :: q).length cx none none:=by
   refine⟨by simp,?_,?_⟩
   ·simp only[qby,qdo,qaD];omega
   ·unfold bR
    left;simp
  rw[qdD e2]
  rw[df,df,df]
  simp[bE]
 refine af hr (hk _ ⟨id,off+1,cx - 1,vs,rfl,h1,h2,?_,?_⟩ ?_)
 ·have:=mN (h3:cut vs off ((a :: q).length*1)=some _) (o:=1) (k:=q.length*1) (by simp only[qaD];omega)
  rw[this]
  simp only[qbz,encN,qa8,qa3,qbr,qaV,qcg]
  rw[←jq q]
  congr 1
  exact qbJ
 ·rcases h4 with h4|h4
  ·left;omega
  ·right;simp only[qaD]at h4;omega
 ·simp[aS,noLoc,aZ,bz,bp,aR,aI,tag]
def r_apQ{b:Nat}{h:HL}{v:Value}{q:TB}{n m:Nat}{new:Tl}{K:Ta}(hw:WQ b h v q)(hbh:b<=h.length)(hm:m=h.length)(hnew:new=encN n)(hq:q.length<=1000)
  (hk:∀v' h',WQ b h' v' (q++[n])->aS v'=true->(∀(j:Nat) o,j<b->h[j]?=some o->h'[j]?=some o)->h.length<=h'.length->K [v'] h') :
  P1.heap (.ap cc 1 8 v (.slice (some ⟨m,0,some 11⟩) 1 2)) (h++[.o (.cells new 1 true)]) (@hid _ ⟨K⟩):=by
 subst hm hnew
 obtain⟨id,off,cx,vs,rfl,h1,h2,h3,h4⟩:=hw
 have hlt:=av h2
 have hx:SlC (h++[HO.o (.cells (encN n) 1 true)]) (.slice (some ⟨h.length,0,tag 1⟩) 1 2) 1 1 (encN n):=⟨rfl,.inr ⟨h.length,0,2,encN n,true,rfl,by simp,Sx.cut_all rfl⟩⟩
 have hg:(h++[HO.o (.cells (encN n) 1 true)])[id]?=some (.o (.cells vs 1 true)):=by rw[qah hlt];exact h2
 have hsz:bJ (q.length+1) 8=true:=by
  unfold bJ
  rw[qaZ (by omega),qaZ (by omega)];rfl
 have gd:∀i,aS (.slice (some ⟨i,0,tag 1⟩) (q.length+1) 0)=true:=λi=>by simp[aS,noLoc,aZ,bz,bp,aR,aI,tag]
 have hcl:(q.flatMap encN++encN n)=(q++[n]).flatMap encN:=by simp
 have hlen:(q++[n]).length=q.length+1:=by simp
 rcases h4 with rfl|rfl
 ·have hrun:apG cc 1 8 (.slice (some ⟨id,off,tag 1⟩) q.length 0) (.slice (some ⟨h.length,0,tag 1⟩) 1 2) (getH aa (h++[HO.o (.cells (encN n) 1 true)])) (h++[HO.o (.cells (encN n) 1 true)]).length=some ([.set id .dead,.push (.cells (q.flatMap encN++encN n) 1 true)],[.slice (some ⟨(h++[HO.o (.cells (encN n) 1 true)]).length,0,tag 1⟩) (q.length+1) 0]):=by
   unfold apG
   rw[tS hx]
   simp only[ne_eq,not_true_eq_false,if_false]
   rw[bB hg]
   simp only[ne_eq,not_true_eq_false,if_false]
   rw[h3]
   simp only[qdk]
   rw[qdE (by omega),qdD hsz]
  refine bC (show(Hp.ap cc 1 8 (.slice (some ⟨id,off,tag 1⟩) q.length 0) (.slice (some ⟨h.length,0,tag 1⟩) 1 2)).run _ _=_ from hrun) ?_
  refine hk _ _ ⟨(h++[HO.o (.cells (encN n) 1 true)]).length,0,0,q.flatMap encN++encN n,by rw[hlen],by simp;omega,?_,?_,.inl rfl⟩ (gd _) (λj o hj ho=>?_) ?_
  ·show(((h++[HO.o (.cells (encN n) 1 true)]).set id (.o .dead))++[HO.o (.cells (q.flatMap encN++encN n) 1 true)])[_]?=_
   rw[qan (by simp)]
   simp
  ·rw[hcl,hlen]
   exact Sx.cut_all (by rw[jq,hlen,qcg])
  ·show(((h++[HO.o (.cells (encN n) 1 true)]).set id (.o .dead))++[HO.o (.cells (q.flatMap encN++encN n) 1 true)])[j]?=_
   have:=av ho
   rw[qah (by simp;omega),qaA (by omega),qah this]
   exact ho
  ·show h.length<=(((h++[HO.o (.cells (encN n) 1 true)]).set id (.o .dead))++[HO.o (.cells (q.flatMap encN++encN n) 1 true)]).length
   simp;omega
 ·have hrun:apG cc 1 8 (.slice (some ⟨id,off,tag 1⟩) q.length (q.length+1)) (.slice (some ⟨h.length,0,tag 1⟩) 1 2) (getH aa (h++[HO.o (.cells (encN n) 1 true)])) (h++[HO.o (.cells (encN n) 1 true)]).length=some ([.push (.cells (q.flatMap encN++encN n) 1 true)],[.slice (some ⟨(h++[HO.o (.cells (encN n) 1 true)]).length,0,tag 1⟩) (q.length+1) 0]):=by
   unfold apG
   rw[tS hx]
   simp only[ne_eq,not_true_eq_false,if_false]
   rw[bB hg]
   simp only[ne_eq,not_true_eq_false,if_false]
   rw[h3]
   simp only
   rw[qdE (by omega),qdD hsz]
  refine bC (show(Hp.ap cc 1 8 (.slice (some ⟨id,off,tag 1⟩) q.length (q.length+1)) (.slice (some ⟨h.length,0,tag 1⟩) 1 2)).run _ _=_ from hrun) ?_
  refine hk _ _ ⟨(h++[HO.o (.cells (encN n) 1 true)]).length,0,0,q.flatMap encN++encN n,by rw[hlen],by simp;omega,?_,?_,.inl rfl⟩ (gd _) (λj o hj ho=>?_) ?_
  ·show((h++[HO.o (.cells (encN n) 1 true)])++[HO.o (.cells (q.flatMap encN++encN n) 1 true)])[_]?=_
   rw[qan (by simp)]
   simp
  ·rw[hcl,hlen]
   exact Sx.cut_all (by rw[jq,hlen,qcg])
  ·show((h++[HO.o (.cells (encN n) 1 true)])++[HO.o (.cells (q.flatMap encN++encN n) 1 true)])[j]?=_
   have:=av ho
   rw[qah (by simp;omega),qah this]
   exact ho
  ·show h.length<=((h++[HO.o (.cells (encN n) 1 true)])++[HO.o (.cells (q.flatMap encN++encN n) 1 true)]).length
   simp
abbrev _root_.Tz:=List Bool
structure RS(H h:HL)(w v:Nat)(x:Value)(l:TD)(A:List Mv)(B:Tz):Prop where
 pre:Pre H h
 len:H.length+6<=h.length
 p:h[H.length]?=some (.o (.cells [.int .i64 (.ofNat w),.int .i64 (.ofNat v),x] 3 true))
 mp:SetM h (H.length+1) l
 mv:h[H.length+2]?=some (.o (.cells [.map (some (H.length+1))] 1 true))
 ol:h[H.length+3]?=some (.o (.cells (A.flatMap encM) 3 true))
 ov:h[H.length+4]?=some (.o (.cells [.slice (some ⟨H.length+3,0,tag 3⟩) (4*w*v) (4*w*v+1)] 1 true))
 kn:h[H.length+5]?=some (.o (.cells (B.flatMap encT) 1 true))
 la:A.length=4*w*v
 lb:B.length=4*w*v
section
variable {H h:HL} {w v:Nat} {x:Value} {l:TD} {A:List Mv} {B:Tz}
abbrev ptrB(b:Nat):Value:=.pointer (some ⟨b,0,none⟩)
def RS.lsA(hr:RS H h w v x l A B):LsH h (.slice (some ⟨H.length+3,0,tag 3⟩) (4*w*v) (4*w*v+1)) 3 encM A:=by
 have hl:=aD (e:=3) (enc:=encM) (l:=A) λa _=>fJ a
 rw[←hr.la]
 exact⟨λa _=>fJ a,hl,.inr ⟨_,0,_,_,true,rfl,hr.ol,Sx.cut_all hl⟩⟩
def RS.lsB(hr:RS H h w v x l A B):LsH h (.slice (some ⟨H.length+5,0,tag 1⟩) (4*w*v) (4*w*v+1)) 1 encT B:=by
 have hl:=aD (e:=1) (enc:=encT) (l:=B) λa _=>lX a
 rw[←hr.lb]
 exact⟨λa _=>lX a,hl,.inr ⟨_,0,_,_,true,rfl,hr.kn,Sx.cut_all hl⟩⟩
def RS.keep{h':HL}(hr:RS H h w v x l A B)(hk:∀(j:Nat) o,j<H.length+6->h[j]?=some o->h'[j]?=some o)(hl:h.length<=h'.length):RS H h' w v x l A B:=by
 obtain⟨es,c,m1,m2⟩:=hr.mp
 refine⟨?_,qbh hr.len hl,hk _ _ (by omega) hr.p,⟨es,c,hk _ _ (by omega) m1,m2⟩,hk _ _ (by omega) hr.mv,hk _ _ (by omega) hr.ol,hk _ _ (by omega) hr.ov,hk _ _ (by omega) hr.kn,hr.la,hr.lb⟩
 have hpre:=hr.pre
 refine⟨h'.drop H.length,?_⟩
 apply qa0
 intro i
 rcases qaQ i H.length with hi|hi
 ·rw[qah hi]
  have e1:H[i]?=some H[i]:=qai hi
  rw[e1]
  exact hk _ _ (by omega) (hpre.get e1)
 ·rw[qan hi,qaX,Nat.add_sub_cancel' hi]
def rx{α:Type}{id e:Nat}{enc:α->Tl}{L:List α}(hp:Pre H h)(hid:H.length<=id):Pre H (putE h id e enc L):=hp.set hid _
def wn{α:Type}{h:HL}{id e:Nat}{enc:α->Tl}{L:List α}:(putE h id e enc L).length=h.length:=by simp[putE]
def RS.putA(hr:RS H h w v x l A B){A':List Mv}(ha:A'.length=A.length):RS H (putE h (H.length+3) 3 encM A') w v x l A' B:=by
 obtain⟨es,c,m1,m2⟩:=hr.mp
 have hl:=hr.len
 exact⟨rx hr.pre (by omega),by rw[wn];exact hl,by rw[dj (by omega)];exact hr.p,⟨es,c,by rw[dj (by omega)];exact m1,m2⟩,by rw[dj (by omega)];exact hr.mv,dN (by omega),by rw[dj (by omega)];exact hr.ov,by rw[dj (by omega)];exact hr.kn,by rw[ha];exact hr.la,hr.lb⟩
def RS.putB(hr:RS H h w v x l A B){B':Tz}(hb:B'.length=B.length):RS H (putE h (H.length+5) 1 encT B') w v x l A B':=by
 obtain⟨es,c,m1,m2⟩:=hr.mp
 have hl:=hr.len
 exact⟨rx hr.pre (by omega),by rw[wn];exact hl,by rw[dj (by omega)];exact hr.p,⟨es,c,by rw[dj (by omega)];exact m1,m2⟩,by rw[dj (by omega)];exact hr.mv,by rw[dj (by omega)];exact hr.ol,by rw[dj (by omega)];exact hr.ov,dN (by omega),hr.la,by rw[hb];exact hr.lb⟩
end
end St
namespace St
def qj(w v:Nat)(l:TD)(G:Nat->Mv):Prop:=∀c e n,c<4*w*v->e<3->nbr w v c e=some n->G n=acM w l (G c) c n e
def cntT:Tz->Nat
 | []=>0
 |b :: l=>(if b then 1 else 0)+cntT l
def mI:∀l:List Bool,cntT l<=l.length
 | []=>qaf _
 |b :: l=>by
  have:=mI l
  simp only[cntT,qaD]
  split<;>omega
def lV:∀ {l:Tz} {n:Nat},l[n]?=some false->cntT (l.set n true)=cntT l+1
 | [],n,h=>by simp at h
 |b :: l,0,h=>by
  simp only[qaR,qaq]at h
  subst h
  simp[cntT];omega
 |b :: l,n+1,h=>by
  simp only[qbf]at h
  have:=lV h
  simp only[List.set_cons_succ,cntT,this];omega
structure JS(w v:Nat)(l:TD)(A:List Mv)(B:Tz)(q:TB)(D:Nat->Nat->Prop):Prop where
 a0:A[0]?=some idM
 b0:B[0]?=some true
 q1:∀c∈q,B[c]?=some true
 dn:∀c e n,D c e->c<4*w*v->e<3->nbr w v c e=some n->B[c]?=some true->c∉q->B[n]?=some true/\∃a,A[c]?=some a/\A[n]?=some (acM w l a c n e)
 bd:∀(c:Nat) a,B[c]?=some true->A[c]?=some a->okM 400 a
 un:∀G,qj w v l G->G 0=idM->∀(c:Nat) a,B[c]?=some true->A[c]?=some a->a=G c
structure GoodA(w v:Nat)(l:TD)(A:List Mv):Prop where
 len:A.length=4*w*v
 a0:A[0]?=some idM
 ok:∀a∈A,okM 400 a
 cons:∀c e n a,c<4*w*v->e<3->nbr w v c e=some n->A[c]?=some a->A[n]?=some (acM w l a c n e)
section
variable {w v:Nat} {l:TD} {A:List Mv} {B:Tz} {q:TB}
def JS.start(hs:Sh w v):JS w v l (List.replicate (4*w*v) idM) ((List.replicate (4*w*v) false).set 0 true) [0] λ_ _=>True:=by
 have hN:0<4*w*v:=by
  obtain⟨h1,h2,rfl⟩:=hs
  omega
 have kn:∀c,((List.replicate (4*w*v) false).set 0 true)[c]?=some true->c=0:=by
  intro c hc
  by_cases h0:c=0
  ·exact h0
  ·rw[qaA (qcs h0),qa1]at hc
   split at hc<;>cases hc
 refine⟨by rw[qa1,qdD hN],by rw[qaH (by simpa using hN)],λc hc=>?_,λc e n _ _ _ _ hb hq=>?_,λc a hb ha=>?_,λG hG h0 c a hb ha=>?_⟩
 ·simp only[qam]at hc
  subst hc
  rw[qaH (by simpa using hN)]
 ·exact absurd (by rw[kn c hb];simp) hq
 ·have:=kn c hb
  subst this
  rw[qa1,qdD hN]at ha
  cases ha
  exact okM_id (by omega)
 ·have:=kn c hb
  subst this
  rw[qa1,qdD hN]at ha
  cases ha
  exact h0.symm
def JS.pop{c0:Nat}(h:JS w v l A B (c0 :: q) λ_ _=>True):JS w v l A B q λc e=>c=c0->e<0:=by
 refine⟨h.a0,h.b0,λc hc=>h.q1 c (qap _ hc),λc e n hd hc he hn hb hq=>?_,h.bd,h.un⟩
 by_cases hcc:c=c0
 ·have:=hd hcc;omega
 ·exact h.dn c e n trivial hc he hn hb λhm=>by
   rcases qal.1 hm with hm|hm
   ·exact hcc hm
   ·exact hq hm
def JS.skip{c0 j:Nat}(h:JS w v l A B q λc e=>c=c0->e<j)(hn:nbr w v c0 j=none):JS w v l A B q λc e=>c=c0->e<j+1:=by
 refine⟨h.a0,h.b0,h.q1,λc e n hd hc he hn' hb hq=>?_,h.bd,h.un⟩
 refine h.dn c e n (λhcc=>?_) hc he hn' hb hq
 have:=hd hcc
 rcases qaQ e j with hlt|hge
 ·exact hlt
 ·obtain rfl:e=j:=by omega
  subst hcc
  rw[hn]at hn';cases hn'
def JS.seen{c0 j n:Nat}{a:Mv}(h:JS w v l A B q λc e=>c=c0->e<j)(hn:nbr w v c0 j=some n)(hb:B[n]?=some true)(ha:A[c0]?=some a)(hm:A[n]?=some (acM w l a c0 n j)):JS w v l A B q λc e=>c=c0->e<j+1:=by
 refine⟨h.a0,h.b0,h.q1,λc e n' hd hc he hn' hb' hq=>?_,h.bd,h.un⟩
 by_cases hcc:c=c0/\e=j
 ·obtain⟨rfl,rfl⟩:=hcc
  rw[hn]at hn';cases hn'
  exact⟨hb,a,ha,hm⟩
 ·exact h.dn c e n' (λhc'=>by have:=hd hc';have:e≠j:=λhe'=>hcc ⟨hc',he'⟩;omega) hc he hn' hb' hq
def JS.fresh(hs:Sh w v){c0 j n:Nat}{a:Mv}(h:JS w v l A B q λc e=>c=c0->e<j)(hla:A.length=4*w*v)(hlb:B.length=4*w*v)(hc0:c0<4*w*v)(hj:j<3)(hn:nbr w v c0 j=some n)(hb0:B[c0]?=some true)(hb:B[n]?=some false)(ha:A[c0]?=some a)(hbd:okM 400 (acM w l a c0 n j)) :
  JS w v l (A.set n (acM w l a c0 n j)) (B.set n true) (q++[n]) λc e=>c=c0->e<j+1:=by
 obtain⟨g1,_,_,_,g5⟩:=nb_ok hs hc0 hj hn
 have hBn:(B.set n true)[n]?=some true:=qaH (by omega)
 have hAn:(A.set n (acM w l a c0 n j))[n]?=some (acM w l a c0 n j):=qaH (by omega)
 have hB:∀c,c≠n->(B.set n true)[c]?=B[c]?:=λc hc=>qaA (qcs hc)
 have hA:∀c,c≠n->(A.set n (acM w l a c0 n j))[c]?=A[c]?:=λc hc=>qaA (qcs hc)
 have h0n:(0:Nat)≠n:=λe=>by have:=h.b0;rw[e,hb]at this;cases this
 refine⟨by rw[hA 0 h0n];exact h.a0,by rw[hB 0 h0n];exact h.b0,λc hc=>?_,λc e n' hd hc he hn' hbc hq=>?_,λc a' hbc hac=>?_,λG hG hG0 c a' hbc hac=>?_⟩
 ·rcases qau.1 hc with hc|hc
  ·have:=h.q1 c hc
   by_cases hcn:c=n
   ·rw[hcn];exact hBn
   ·rw[hB c hcn];exact this
  ·simp only[qam]at hc
   rw[hc];exact hBn
 ·have hcn:c≠n:=λe=>hq (by rw[e];simp)
  have hcq:c∉q:=λhm=>hq (qaF _ hm)
  rw[hB c hcn]at hbc
  by_cases hcc:c=c0/\e=j
  ·obtain⟨rfl,rfl⟩:=hcc
   rw[hn]at hn';cases hn'
   exact⟨hBn,a,by rw[hA c hcn];exact ha,hAn⟩
  ·obtain⟨d1,a1,d2,d3⟩:=h.dn c e n' (λhc'=>by have:=hd hc';have:e≠j:=λhe'=>hcc ⟨hc',he'⟩;omega) hc he hn' hbc hcq
   have hnn:n'≠n:=λe'=>by rw[e',hb]at d1;cases d1
   exact⟨by rw[hB n' hnn];exact d1,a1,by rw[hA c hcn];exact d2,by rw[hA n' hnn];exact d3⟩
 ·by_cases hcn:c=n
  ·rw[hcn,hAn]at hac
   cases hac
   exact hbd
  ·rw[hB c hcn]at hbc
   rw[hA c hcn]at hac
   exact h.bd c a' hbc hac
 ·by_cases hcn:c=n
  ·rw[hcn,hAn]at hac
   cases hac
   rw[hcn,hG c0 j n hc0 hj hn,←h.un G hG hG0 c0 a hb0 ha]
  ·rw[hB c hcn]at hbc
   rw[hA c hcn]at hac
   exact h.un G hG hG0 c a' hbc hac
def JS.done{c0:Nat}(h:JS w v l A B q λc e=>c=c0->e<3):JS w v l A B q λ_ _=>True:=
 ⟨h.a0,h.b0,h.q1,λc e n _ hc he hn hb hq=>h.dn c e n (λ_=>he) hc he hn hb hq,h.bd,h.un⟩
def sh_N(hs:Sh w v):0<4*w*v/\4*w*v<=240:=by
 obtain⟨h1,h2,rfl⟩:=hs
 omega
def JS.good(hs:Sh w v)(h:JS w v l A B [] λ_ _=>True)(hla:A.length=4*w*v)(hlb:B.length=4*w*v):GoodA w v l A:=by
 have hall:∀n,n<4*w*v->B[n]?=some true:=net_all hs h.b0 λc e n hc he hn hb=>(h.dn c e n trivial hc he hn hb (by simp)).1
 have hN:=sh_N hs
 have hcnt:=mI B
 refine⟨hla,h.a0,λa hm=>?_,λc e n a hc he hn ha=>?_⟩
 ·obtain⟨i,hi⟩:=qaM hm
  have:=av hi
  exact h.bd i a (hall i (by omega)) hi
 ·obtain⟨_,a',g1,g2⟩:=h.dn c e n trivial hc he hn (hall c hc) (by simp)
  rw[ha]at g1;cases g1
  exact g2
def JS.tear(hs:Sh w v){c0 j n:Nat}{a b:Mv}{D:Nat->Nat->Prop}(h:JS w v l A B q D)(hc0:c0<4*w*v)(hj:j<3)(hn:nbr w v c0 j=some n)(hb0:B[c0]?=some true)(hb:B[n]?=some true)(ha:A[c0]?=some a)(hbn:A[n]?=some b)(hne:b≠acM w l a c0 n j):¬ ∃G,qj w v l G/\G 0=idM:=by
 rintro⟨G,hG,hG0⟩
 refine hne ?_
 rw[h.un G hG hG0 n b hb hbn,hG c0 j n hc0 hj hn,←h.un G hG hG0 c0 a hb0 ha]
end
def left(B:Tz)(q:TB):Nat:=q.length+(B.length - cntT B)
end St
namespace St
def cnt_c{w v:Nat}(h:Sh w v):Cc 103 [.i (.ofNat w),.i (.ofNat v)] [.i (.ofNat (4*w*v))]:=by
 obtain⟨h1,h2,rfl⟩:=h
 rw[qcg]
 exact count_c ⟨h1,h2⟩
def eqsM{a b:Mv}{K:Tn}:P1.eqs [(.i (Int.ofNat a.1),.i (Int.ofNat b.1)),(.i a.2.1,.i b.2.1),(.i a.2.2,.i b.2.2)] (@hid _ ⟨K⟩)=K (decide (a=b)):=by
 show K (ch _)=_
 have e:ch [(.i (Int.ofNat a.1),.i (Int.ofNat b.1)),(.i a.2.1,.i b.2.1),(.i a.2.2,.i b.2.2)]=decide (a=b):=by
  rw[qbM]
  simp[ch,gF,Prod.ext_iff]
  intro _ _
  omega
 rw[e]
def RelOk(w v:Nat)(l:TD)(H:HL)(rs:TE)(h':HL):Prop:=
 Pre H h'/\((∃A id,rs=[.v (.slice (some ⟨id,0,tag 3⟩) (4*w*v) (4*w*v+1)),.i 0]/\H.length<=id/\h'[id]?=some (.o (.cells (A.flatMap encM) 3 true))/\GoodA w v l A)∨
  (rs=[.v (.slice none 0 0),.i 11]/\¬ ∃G,qj w v l G/\G 0=idM))
def xF{w v:Nat}(hs:Sh w v){l:TD}(hk:(l.map cK).Nodup)(hl0:l.length<=1000){H:HL}{x:Value}(hl:LsH H x 3 encC l){G:Nat->Mv}(hG:qj w v l G)(hG0:G 0=idM)(hGb:∀c,c<4*w*v->okM 400 (G c)) :
  ∃rs h',aw cc ab 71 [.i (.ofNat w),.i (.ofNat v),.v x] (absH aa H) rs (absH aa h')/\RelOk w v l H rs h':=by
 have hN:=sh_N hs
 obtain⟨rs,h',h1,h2⟩:=x71 (K:=λrs h'=>RelOk w v l H rs h') (H:=H) (glsI (glsI (glsV hl.good gls0))) (by
  unfold f71;simp only[qxh]
  repeat (first|simp(disch:=omega)only[↓qXX]|refine cL (bv aH) rfl ?_|refine ak hl.good ?_)
  obtain⟨M,hcr,hSM⟩:=creased_c (w:=.ofNat w) (v:=.ofNat v) (hl.pre (h':=H++[HO.o (.cells [.int .i64 (.ofNat w),.int .i64 (.ofNat v),x] 3 true)]) ⟨_,rfl⟩) hk hl0
  rw[show(H++[HO.o (.cells [.int .i64 (.ofNat w),.int .i64 (.ofNat v),x] 3 true)]).length=H.length+1 by simp]at hcr hSM
  have k0:(H++[HO.o (.cells [.int .i64 (.ofNat w),.int .i64 (.ofNat v),x] 3 true)]++[M]).length=H.length+2:=by simp
  have kp:(H++[HO.o (.cells [.int .i64 (.ofNat w),.int .i64 (.ofNat v),x] 3 true)]++[M])[H.length]?=some (HO.o (.cells [.int .i64 (.ofNat w),.int .i64 (.ofNat v),x] 3 true)):=by simp
  have kH:Pre H (H++[HO.o (.cells [.int .i64 (.ofNat w),.int .i64 (.ofNat v),x] 3 true)]++[M]):=⟨_,qaJ ..⟩
  refine ah hcr ?_
  clear hcr
  generalize H++[HO.o (.cells [.int .i64 (.ofNat w),.int .i64 (.ofNat v),x] 3 true)]++[M]=h2 at *
  refine p_x ?_
  refine gi aH rfl ?_
  rw[dD]
  have m0:(h2++[HO.o (.cells [.map (some (H.length+1))] 1 true)]).length=H.length+3:=by simp[k0]
  have mp:=kp |> (Pre.get (b:=h2++[HO.o (.cells [.map (some (H.length+1))] 1 true)]) ⟨_,rfl⟩)
  have mv:(h2++[HO.o (.cells [.map (some (H.length+1))] 1 true)])[H.length+2]?=some (HO.o (.cells [.map (some (H.length+1))] 1 true)):=by rw[←k0];exact aH
  have mH:Pre H (h2++[HO.o (.cells [.map (some (H.length+1))] 1 true)]):=kH.app _
  have mS:SetM (h2++[HO.o (.cells [.map (some (H.length+1))] 1 true)]) (H.length+1) l:=by
   obtain⟨es,c,a1,a2⟩:=hSM
   exact⟨es,c,Pre.get ⟨_,rfl⟩ a1,a2⟩
  rw[k0]
  generalize h2++[HO.o (.cells [.map (some (H.length+1))] 1 true)]=h3 at *
  clear kp kH hSM k0
  repeat (first|simp(disch:=omega)only[↓qXX]|refine vZ (p:=ptrB H.length) (cs:=[.int .i64 (.ofNat w),.int .i64 (.ofNat v),x]) (ds:=[.int .i64 (.ofNat w),.int .i64 (.ofNat v)]) (bv mp) (by simp) rfl ?_|refine ac (cnt_c hs) ?_|refine af (rh (by omega)) ?_)
  rw[show(Int.ofNat (4*w*v)).toNat=4*w*v from rfl]
  have z0:HO.o (.cells (bi [.int .u8 0,.int .i64 0,.int .i64 0] (4*w*v)) 3 true)=HO.o (.cells ((List.replicate (4*w*v) idM).flatMap encM) 3 true):=by
   rw[←ir (enc:=encM) (z:=idM) (n:=4*w*v)]
   rfl
  rw[z0,m0]
  have n0:(h3++[HO.o (.cells ((List.replicate (4*w*v) idM).flatMap encM) 3 true)]).length=H.length+4:=by simp[m0]
  have np:=mp |> (Pre.get (b:=h3++[HO.o (.cells ((List.replicate (4*w*v) idM).flatMap encM) 3 true)]) ⟨_,rfl⟩)
  have nv:=mv |> (Pre.get (b:=h3++[HO.o (.cells ((List.replicate (4*w*v) idM).flatMap encM) 3 true)]) ⟨_,rfl⟩)
  have na:(h3++[HO.o (.cells ((List.replicate (4*w*v) idM).flatMap encM) 3 true)])[H.length+3]?=some (HO.o (.cells ((List.replicate (4*w*v) idM).flatMap encM) 3 true)):=by rw[←m0];exact aH
  have nH:Pre H (h3++[HO.o (.cells ((List.replicate (4*w*v) idM).flatMap encM) 3 true)]):=mH.app _
  have nS:SetM (h3++[HO.o (.cells ((List.replicate (4*w*v) idM).flatMap encM) 3 true)]) (H.length+1) l:=by
   obtain⟨es,c,a1,a2⟩:=mS
   exact⟨es,c,Pre.get ⟨_,rfl⟩ a1,a2⟩
  generalize h3++[HO.o (.cells ((List.replicate (4*w*v) idM).flatMap encM) 3 true)]=h4 at *
  clear mp mv mH mS m0
  refine gi aH rfl ?_
  rw[dD]
  try simp(disch:=omega)only[↓qXX]
  refine cL (bv aH) rfl ?_
  refine p_x ?_
  refine ak (by simp[aS,noLoc,aZ,bz,bp,aR,aI]) ?_
  refine p_x ?_
  refine af (x:=Int.ofNat (4*w*v)) rfl ?_
  refine af (rh (by omega)) ?_
  refine p_x ?_
  rw[n0,show(Int.ofNat (4*w*v)).toNat=4*w*v from rfl]
  refine ak (by simp[aS,noLoc,aZ,bz,bp,aR,aI]) ?_
  have o0:(h4++[HO.o (.cells [.slice (some ⟨H.length+3,0,some 13⟩) (4*w*v) (4*w*v+1)] 1 true)]).length=H.length+5:=by simp[n0]
  have op:=np |> (Pre.get (b:=h4++[HO.o (.cells [.slice (some ⟨H.length+3,0,some 13⟩) (4*w*v) (4*w*v+1)] 1 true)]) ⟨_,rfl⟩)
  have om:=nv |> (Pre.get (b:=h4++[HO.o (.cells [.slice (some ⟨H.length+3,0,some 13⟩) (4*w*v) (4*w*v+1)] 1 true)]) ⟨_,rfl⟩)
  have oa:=na |> (Pre.get (b:=h4++[HO.o (.cells [.slice (some ⟨H.length+3,0,some 13⟩) (4*w*v) (4*w*v+1)] 1 true)]) ⟨_,rfl⟩)
  have ov:(h4++[HO.o (.cells [.slice (some ⟨H.length+3,0,some 13⟩) (4*w*v) (4*w*v+1)] 1 true)])[H.length+4]?=some (HO.o (.cells [.slice (some ⟨H.length+3,0,some 13⟩) (4*w*v) (4*w*v+1)] 1 true)):=by rw[←n0];exact aH
  have oH:Pre H (h4++[HO.o (.cells [.slice (some ⟨H.length+3,0,some 13⟩) (4*w*v) (4*w*v+1)] 1 true)]):=nH.app _
  have oS:SetM (h4++[HO.o (.cells [.slice (some ⟨H.length+3,0,some 13⟩) (4*w*v) (4*w*v+1)] 1 true)]) (H.length+1) l:=by
   obtain⟨es,c,a1,a2⟩:=nS
   exact⟨es,c,Pre.get ⟨_,rfl⟩ a1,a2⟩
  generalize h4++[HO.o (.cells [.slice (some ⟨H.length+3,0,some 13⟩) (4*w*v) (4*w*v+1)] 1 true)]=h5 at *
  clear np nv na nH nS n0
  have z1:HO.o (.cells (bi [.bool false] (4*w*v)) 1 true)=HO.o (.cells ((List.replicate (4*w*v) false).flatMap encT) 1 true):=by
   rw[←ir (enc:=encT) (z:=false) (n:=4*w*v)]
   rfl
  rw[z1,o0]
  have r0:RS H (h5++[HO.o (.cells ((List.replicate (4*w*v) false).flatMap encT) 1 true)]) w v x l (List.replicate (4*w*v) idM) (List.replicate (4*w*v) false):=by
   obtain⟨es,c,a1,a2⟩:=oS
   exact⟨oH.app _,by simp[o0],Pre.get ⟨_,rfl⟩ op,⟨es,c,Pre.get ⟨_,rfl⟩ a1,a2⟩,Pre.get ⟨_,rfl⟩ om,Pre.get ⟨_,rfl⟩ oa,Pre.get ⟨_,rfl⟩ ov,by rw[←o0];exact aH,by simp,by simp⟩
  generalize h5++[HO.o (.cells ((List.replicate (4*w*v) false).flatMap encT) 1 true)]=h6 at *
  clear op om oa ov oH oS o0
  refine tG (enc:=encT) (l:=List.replicate (4*w*v) false) (i:=0) (a:=true) lX r0.kn rfl (by simpa using hN.1) (by simp) rfl ?_
  have r1:=r0.putB (B':=(List.replicate (4*w*v) false).set 0 true) (by simp)
  generalize putE h6 (H.length+5) 1 encT ((List.replicate (4*w*v) false).set 0 true)=h7 at *
  try simp(disch:=omega)only[↓qXX]
  have r2:RS H (h7++[HO.o (.cells [.int .i64 0] 1 true)]) w v x l (List.replicate (4*w*v) idM) ((List.replicate (4*w*v) false).set 0 true):=r1.keep (λj o _ ho=>Pre.get ⟨_,rfl⟩ ho) (by simp)
  have hw0:WQ (H.length+6) (h7++[HO.o (.cells [.int .i64 0] 1 true)]) (.slice (some ⟨h7.length,0,some 11⟩) 1 2) [0]:=⟨h7.length,0,2,_,rfl,r1.len,aH,Sx.cut_all rfl,.inr rfl⟩
  have hj0:=JS.start (l:=l) hs
  have hc0:[0].length<=cntT ((List.replicate (4*w*v) false).set 0 true):=by
   rw[lV (by rw[qa1,qdD hN.1])]
   simp
  generalize h7++[HO.o (.cells [.int .i64 0] 1 true)]=h8 at *
  generalize Value.slice (some ⟨h7.length,0,some 11⟩) 1 2=v8 at *
  generalize List.replicate (4*w*v) idM=A0 at *
  generalize (List.replicate (4*w*v) false).set 0 true=B0 at *
  clear r0 r1
  refine fw (m:=left B0 [0]) (λm ls h'=>∃A B q vv,ls=[.v vv]/\RS H h' w v x l A B/\WQ (H.length+6) h' vv q/\JS w v l A B q (λ_ _=>True)/\q.length<=cntT B/\m=left B q) ⟨A0,B0,[0],v8,rfl,r2,hw0,hj0,hc0,rfl⟩ ?_
  clear r2 hw0 hj0 hc0
  rintro m ls h' ⟨A,B,q,vv,rfl,hr,hw,hj,hql,rfl⟩ self hself
  refine hidL ?_
  refine p_x ?_
  refine bI hw.ls ?_
  cases q with
  |nil=>
   rw[p_gtr_f (by show((List.length ([]:TB):Nat):Int)<=0;simp)]
   repeat (first|simp(disch:=omega)only[↓qXX]|refine cL (bv hr.ov) rfl ?_|refine ak hr.lsA.good ?_)
   exact⟨hr.pre,.inl ⟨A,H.length+3,rfl,by omega,hr.ol,hj.good hs hr.la hr.lb⟩⟩
  |cons c0 q=>
   rw[p_gtr_t (by show(0:Int)<((List.length (c0 :: q):Nat):Int);simp only[qaD];omega)]
   refine p_x ?_
   refine bQ hw.ls (i:=0) rfl rfl ?_
   unfold encN
   refine p_x ?_
   refine r_tail hw ?_
   intro v1 hw1 hv1
   refine ak hv1 ?_
   have hb0:B[c0]?=some true:=hj.q1 c0 qaE
   have hcN:c0<4*w*v:=by have:=av hb0;have:=hr.lb;omega
   have hcl:=mI B
   refine bG (σ:=Value×HL×List Mv×List Bool×List Nat) 3 (λj s=>[.v s.1,.i (Int.ofNat j)]) (λ_ s=>s.2.1) (λj s=>RS H s.2.1 w v x l s.2.2.1 s.2.2.2.1/\WQ (H.length+6) s.2.1 s.1 s.2.2.2.2/\JS w v l s.2.2.1 s.2.2.2.1 s.2.2.2.2 (λc e=>c=c0->e<j)/\s.2.2.2.2.length<=cntT s.2.2.2.1/\left s.2.2.2.1 s.2.2.2.2=left B q/\s.2.2.2.1[c0]?=some true) (j0:=0) (s0:=(v1,h',A,B,q)) rfl rfl (by omega) ⟨hr,hw1,hj.pop,by show q.length<=cntT B;simp only[qaD]at hql;omega,rfl,hb0⟩ ?_
   clear hr hw hj hw1 hv1 hb0
   rintro j ⟨v2,h2',A2,B2,q2⟩ hj3 ⟨hr,hw,hj,hq2,hleft,hb0⟩ self2 hself2
   simp only at hr hw hj hq2 hleft hb0 hself2
   refine p_x ?_
   by_cases hlt:j<3
   case neg=>
    obtain rfl:j=3:=by omega
    rw[p_lss_f (by show(3:Int)<=((3:Nat):Int);omega)]
    refine p_x ?_
    refine hself (left B q) _ _ ?_ ⟨A2,B2,q2,v2,rfl,hr,hw,hj.done,hq2,hleft.symm⟩
    unfold left
    simp only[qaD];omega
   rw[p_lss_t (by show((j:Nat):Int)<3;omega)]
   refine p_x ?_
   have next:∀(v3:Value) (h3':HL) (A3:List Mv) (B3:Tz) (q3:TB),RS H h3' w v x l A3 B3->WQ (H.length+6) h3' v3 q3->JS w v l A3 B3 q3 (λc e=>c=c0->e<j+1)->q3.length<=cntT B3->left B3 q3=left B q->B3[c0]?=some true->self2 [.v v3,.i (Int.ofNat j+1)] h3':=λv3 h3' A3 B3 q3 a1 a2 a3 a4 a5 a6=>hself2 (v3,h3',A3,B3,q3) hlt ⟨a1,a2,a3,a4,a5,a6⟩
   have hadd:∀K:Int->Prop,P1.ari .add .u8 (Int.ofNat j) 1 (@hid _ ⟨K⟩)=K (Int.ofNat j+1):=λK=>p_add8 (by show(0:Int)<=(j:Int)+1;omega) (by show(j:Int)+1<=255;omega)
   refine vZ (p:=ptrB H.length) (cs:=[.int .i64 (.ofNat w),.int .i64 (.ofNat v),x]) (ds:=[.int .i64 (.ofNat w),.int .i64 (.ofNat v)]) (bv hr.p) (by simp) rfl ?_
   refine p_x ?_
   refine ac (nb_c hs hcN hlt) ?_
   have hcl2:=mI B2
   have hlb2:=hr.lb
   cases hnb:nbr w v c0 j with
   |none=>
    unfold aY
    rw[hnb]
    refine p_x ?_
    rw[hadd]
    exact next _ _ _ _ _ hr hw (hj.skip hnb) hq2 hleft hb0
   |some n=>
    unfold aY
    rw[hnb]
    refine p_x ?_
    obtain⟨a,ha⟩:=aP (l:=A2) (i:=c0) (by rw[hr.la];exact hcN)
    have hok:=hj.bd c0 a hb0 ha
    have hac:=across_c hs (bv hr.p) (bv hr.mv) hr.mp (bv hr.ov) hr.lsA hcN hlt hnb ha hok (by omega)
    refine fl (gr (args:=[.int .i64 (Int.ofNat c0),.int .u8 (Int.ofNat j)]) hac rfl [.leaf (.i .i64 (Int.ofNat c0)),.leaf (.i .u8 (Int.ofNat j)),.leaf (.v (ptrB H.length)),.leaf (.v (ptrB (H.length+2))),.leaf (.v (ptrB (H.length+4)))] rfl rfl rfl) ?_
    have hnN:=(nb_ok hs hcN hlt hnb).1
    have hnc:=(nb_ok hs hcN hlt hnb).2.2.2.2
    generalize hm:acM w l a c0 n j=m at *
    simp only[mvl]
    refine p_x ?_
    obtain⟨t,ht⟩:=aP (l:=B2) (i:=n) (by rw[hr.lb];exact hnN)
    refine bQ hr.lsB rfl ht ?_
    unfold encT
    refine p_x ?_
    cases t with
    |true=>
     repeat (first|simp(disch:=omega)only[↓qXX,qaI]|refine cL (bv hr.ov) rfl ?_|refine ak hr.lsA.good ?_)
     obtain⟨b,hb⟩:=aP (l:=A2) (i:=n) (by rw[hr.la];exact hnN)
     refine bQ hr.lsA rfl hb ?_
     unfold encM
     refine p_x ?_
     rw[eqsM]
     by_cases hbm:b=m
     ·rw[qdC hbm]
      simp(disch:=omega)only[↓qXX,qaI]
      rw[hadd]
      exact next _ _ _ _ _ hr hw (hj.seen hnb ht ha (by rw[hb,hbm,hm])) hq2 hleft hb0
     ·rw[qdB hbm]
      simp(disch:=omega)only[↓qXX,qba]
      exact⟨hr.pre,.inr ⟨rfl,hj.tear hs hcN hlt hnb hb0 ht ha hb (by rw[hm];exact hbm)⟩⟩
    |false=>
     repeat (first|simp(disch:=omega)only[↓qXX,qba]|refine cL (bv hr.ov) rfl ?_|refine ak hr.lsA.good ?_)
     refine tG (enc:=encM) (l:=A2) (i:=n) (a:=m) fJ hr.ol rfl (by rw[hr.la];exact hnN) hr.la rfl ?_
     have hrA:=hr.putA (A':=A2.set n m) (by simp)
     have hwA:=hw.keep (h':=putE h2' (H.length+3) 3 encM (A2.set n m)) (λj o hjb ho=>by rw[dj (by omega)];exact ho)
     generalize putE h2' (H.length+3) 3 encM (A2.set n m)=h3' at *
     try simp(disch:=omega)only[↓qXX]
     refine tG (enc:=encT) (l:=B2) (i:=n) (a:=true) lX hrA.kn rfl (by rw[hr.lb];exact hnN) hr.lb rfl ?_
     have hrB:=hrA.putB (B':=B2.set n true) (by simp)
     have hwB:=hwA.keep (h':=putE h3' (H.length+5) 1 encT (B2.set n true)) (λj o hjb ho=>by rw[dj (by omega)];exact ho)
     generalize putE h3' (H.length+5) 1 encT (B2.set n true)=h4' at *
     try simp(disch:=omega)only[↓qXX]
     refine r_apQ (n:=n) hwB hrB.len rfl rfl (by omega) ?_
     intro v5 h5' hw5 hv5 hk5 hl5
     have hr5:=hrB.keep hk5 hl5
     repeat (first|simp(disch:=omega)only[↓qXX]|refine ak hv5 ?_|refine cL (bv hr5.ov) rfl ?_|refine ak hr5.lsA.good ?_)
     refine bQ hr5.lsA (a:=m) rfl (qaH (by rw[hr.la];exact hnN)) ?_
     unfold encM
     simp(disch:=omega)only[↓qXX]
     try rw[eqsM,qdC rfl]
     simp(disch:=omega)only[↓qXX,qaI]
     rw[hadd]
     refine next _ _ _ _ _ hr5 hw5 ?_ ?_ ?_ ?_
     ·rw[←hm]
      exact hj.fresh hs hr.la hr.lb hcN hlt hnb hb0 ht ha (by rw[hj.un G hG hG0 c0 a hb0 ha,←hG c0 j n hcN hlt hnb];exact hGb n hnN)
     ·rw[lV ht];simp;omega
     ·rw[←hleft]
      have:=mI (B2.set n true)
      unfold left
      rw[lV ht]at this ⊢
      simp only[qaB,qaD,qbA,qbl]at this ⊢
      omega
     ·rw[qaA hnc];exact hb0)
 exact⟨rs,h',h1,h2⟩
end St
namespace St
def aG(c:Cl):Tl:=[.int .i64 c.1,.int .i64 c.2.1,.int .u8 (Int.ofNat c.2.2)]
def bP(c:Cl):(aG c).length=3:=rfl
def moveC_rng{m:Mv}{n:Int}(hm:okM n m){c:Cl}{k:Int}(hc:-k<=c.1/\c.1<=k/\-k<=c.2.1/\c.2.1<=k):-(n+k+1)<=(iR m c).1/\(iR m c).1<=n+k+1/\-(n+k+1)<=(iR m c).2.1/\(iR m c).2.1<=n+k+1/\(iR m c).2.2<4:=by
 have h1:=lin_rng hm.1 hc
 have h2:=hm.2
 unfold iR
 simp only
 refine⟨?_,?_,?_,?_,qT_lt⟩<;>split<;>omega
def move_c{m:Mv}(hm:okM 3000 m){c:Cl}(hc:-1000<=c.1/\c.1<=1000/\-1000<=c.2.1/\c.2.1<=1000/\c.2.2<4):Cc 74 (mvl m++cll c) (cll (iR m c)++[.i 0]):=by
 have h1:=moveC_rng hm (k:=1000) ⟨hc.1,hc.2.1,hc.2.2.1,hc.2.2.2.1⟩
 refine q74 rfl ?_;unfold f74;simp only[qxh]
 simp only[mvl,cll,qa8,qa3]
 refine p_x ?_
 refine ac (xy hm (by omega)) ?_
 refine p_x ?_
 refine ac (sj (c:=c) ⟨by omega,by omega,by omega,by omega,hc.2.2.2.2⟩) ?_
 refine p_x ?_
 refine ac (moved_c (ii hm (by omega)) hc) ?_
 simp only[cll]
 refine p_x ?_
 refine ac (sj (c:=iR m c) ⟨by omega,by omega,by omega,by omega,h1.2.2.2.2⟩) ?_
 refine p_x ?_
 rfl
def GoodA.eq{w v:Nat}{l:TD}{A:List Mv}(hs:Sh w v)(hA:GoodA w v l A){G:Nat->Mv}(hG:qj w v l G)(h0:G 0=idM):∀c,c<4*w*v->A[c]?=some (G c):=
 net_all hs (by rw[h0];exact hA.a0) λc e n hc he hn h=>by rw[hG c e n hc he hn];exact hA.cons c e n _ hc he hn h
def plL(w v:Nat)(G:Nat->Mv)(r:Mv):List Mv:=(List.range (4*w*v)).map λc=>cE (G c) r
abbrev _root_.TK:=List Cl
def imL(w v:Nat)(G:Nat->Mv)(r:Mv):TK:=(List.range (4*w*v)).map λc=>iR (cE (G c) r) (clN w c)
def plL_get{w v:Nat}{G:Nat->Mv}{r:Mv}{c:Nat}(h:c<4*w*v):(plL w v G r)[c]?=some (cE (G c) r):=by
 unfold plL
 rw[qaz,qcn h];rfl
def imL_get{w v:Nat}{G:Nat->Mv}{r:Mv}{c:Nat}(h:c<4*w*v):(imL w v G r)[c]?=some (iR (cE (G c) r) (clN w c)):=by
 unfold imL
 rw[qaz,qcn h];rfl
def take_set{α:Type}{L A:List α}{j:Nat}{a:α}(hL:L[j]?=some a)(hlen:L.length=A.length):(L.take j++A.drop j).set j a=L.take (j+1)++A.drop (j+1):=by
 have hj:=av hL
 have h1:(L.take j).length=j:=by rw[qaG];omega
 rw[qb4 _ _ (by omega),h1,qbu,qa9 (by omega),qda,qbC,hL]
 simp
def mid_get{α:Type}{L A:List α}{j:Nat}{a:α}(hA:A[j]?=some a)(hlen:L.length=A.length):(L.take j++A.drop j)[j]?=some a:=by
 have hj:=av hA
 rw[qan (by rw[qaG];omega),qaG,qa5 (by omega),qbu,qaX,qca]
 exact hA
def uH{α:Type}{L A:List α}{j:Nat}(hlen:L.length=A.length)(hj:j<=L.length):(L.take j++A.drop j).length=A.length:=by
 rw[qaB,qaG,qbO];omega
def kB{α:Type}{e cx n:Nat}{enc:α->Tl}(henc:∀a,(enc a).length=e){h:HL}{id:Nat}{L:List α}(hg:h[id]?=some (.o (.cells (L.flatMap enc) e true)))(hn:n=L.length):LsH h (.slice (some ⟨id,0,tag e⟩) n cx) e enc L:=by
 subst hn
 have hl:=aD (e:=e) (enc:=enc) (l:=L) λa _=>henc a
 exact⟨λa _=>henc a,hl,.inr ⟨id,0,cx,_,true,rfl,hg,Sx.cut_all hl⟩⟩
def cell_v{w v:Nat}(h:Sh w v){c:Nat}(hc:c<4*w*v):Cc 72 [.i (.ofNat w),.i (.ofNat v),.i (.ofNat c)] [.i (.ofNat (c / 4%w)),.i (.ofNat (c / 4 / w)),.i (.ofNat (c%4)),.i 0]:=by
 obtain⟨h1,h2,rfl⟩:=h
 exact cell_c ⟨h1,h2⟩ (by omega)
def both_c{w v:Nat}(hs:Sh w v){l:TD}(hk:(l.map cK).Nodup)(hl0:l.length<=1000){H:HL}{x:Value}(hl:LsH H x 3 encC l)(hck:aw cc ab 69 [.i (.ofNat w),.i (.ofNat v),.v x] (absH aa H) [.i 0] (absH aa H))
  {G:Nat->Mv} (hG:qj w v l G) (h0:G 0=idM) (hGb:∀c,c<4*w*v->okM 400 (G c)) {r:Mv} (hr:okM 900 r) :
  ∃lx ix h',aw cc ab 63 ([.i (.ofNat w),.i (.ofNat v),.v x]++mvl r) (absH aa H) [.v lx,.v ix,.i 0] (absH aa h')/\Pre H h'/\LsH h' lx 3 encM (plL w v G r)/\LsH h' ix 3 aG (imL w v G r):=by
 have hN:=sh_N hs
 obtain⟨rs1,h1,c1,hpre1,hrel⟩:=xF hs hk hl0 hl hG h0 hGb
 rcases hrel with⟨A,id,rfl,hid,hol,hA⟩|⟨_,hno⟩
 case inr=>exact absurd ⟨G,hG,h0⟩ hno
 have hAG:=hA.eq hs hG h0
 have hP:(plL w v G r).length=A.length:=by rw[hA.len];simp[plL]
 have hI:(imL w v G r).length=4*w*v:=by simp[imL]
 have hidl:=av hol
 obtain⟨rs,h',hc,lx,ix,rfl,hpre,hp1,hp2⟩:=x63 (ls:=[.i (.ofNat w),.i (.ofNat v),.v x,.i (Int.ofNat r.1),.i r.2.1,.i r.2.2]) (K:=λrs h'=>∃lx ix,rs=[.v lx,.v ix,.i 0]/\Pre H h'/\LsH h' lx 3 encM (plL w v G r)/\LsH h' ix 3 aG (imL w v G r)) (H:=H) (glsI (glsI (glsV hl.good (glsI (glsI (glsI gls0)))))) (by
  unfold f63;simp only[qxh]
  refine p_x ?_
  refine ah hck ?_
  refine p_x ?_
  refine ac (xy hr (by omega)) ?_
  refine p_x ?_
  refine ah c1 ?_
  refine p_x ?_
  refine af (x:=Int.ofNat (4*w*v)) rfl ?_
  refine af (rh (by omega)) ?_
  refine p_x ?_
  rw[show(Int.ofNat (4*w*v)).toNat=4*w*v from rfl]
  have z0:HO.o (.cells (bi [.int .i64 0,.int .i64 0,.int .u8 0] (4*w*v)) 3 true)=HO.o (.cells ((List.replicate (4*w*v) ((0,0,0):Cl)).flatMap aG) 3 true):=by
   rw[←ir (enc:=aG) (z:=((0,0,0):Cl)) (n:=4*w*v)]
   rfl
  rw[z0]
  refine af (x:=Int.ofNat (4*w*v)) rfl ?_
  have hZ:(imL w v G r).length=(List.replicate (4*w*v) ((0,0,0):Cl)).length:=by rw[hI];simp
  have s1:(h1++[HO.o (.cells ((List.replicate (4*w*v) ((0,0,0):Cl)).flatMap aG) 3 true)])[id]?=some (.o (.cells (A.flatMap encM) 3 true)):=Pre.get ⟨_,rfl⟩ hol
  have s2:(h1++[HO.o (.cells ((List.replicate (4*w*v) ((0,0,0):Cl)).flatMap aG) 3 true)])[h1.length]?=some (HO.o (.cells ((List.replicate (4*w*v) ((0,0,0):Cl)).flatMap aG) 3 true)):=aH
  have s3:Pre H (h1++[HO.o (.cells ((List.replicate (4*w*v) ((0,0,0):Cl)).flatMap aG) 3 true)]):=hpre1.app _
  have hix:h1.length≠id:=by omega
  have hHi:H.length<=h1.length:=hpre1.len
  generalize List.replicate (4*w*v) ((0,0,0):Cl)=Z at *
  generalize h1++[HO.o (.cells (Z.flatMap aG) 3 true)]=h2 at *
  generalize h1.length=iX at *
  refine bG (σ:=HL) (4*w*v) (λj _=>[.i (Int.ofNat j)]) (λ_ s=>s) (λj s=>Pre H s/\s[id]?=some (.o (.cells (((plL w v G r).take j++A.drop j).flatMap encM) 3 true))/\s[iX]?=some (.o (.cells (((imL w v G r).take j++Z.drop j).flatMap aG) 3 true))) (j0:=0) (s0:=h2) rfl rfl (qaO _) ⟨s3,by simpa using s1,by simpa using s2⟩ ?_
  clear s1 s2 s3
  rintro j h hj ⟨s3,s1,s2⟩ self hself
  refine p_x ?_
  by_cases hlt:j<4*w*v
  ·rw[bf hlt]
   refine p_x ?_
   have ha:=hAG j hlt
   have hLj:=plL_get (G:=G) (r:=r) hlt
   have hIj:=imL_get (G:=G) (r:=r) hlt
   have lenP:=uH (j:=j) hP (by rw[hP,hA.len];omega)
   have lenI:=uH (j:=j) hZ (by rw[hI];omega)
   refine bQ (kB fJ s1 (by rw[lenP,hA.len])) rfl (mid_get ha hP) ?_
   unfold encM
   refine p_x ?_
   refine ac (cell_v hs hlt) ?_
   refine p_x ?_
   have okG:okM 400 (G j):=hA.ok _ (qab ha)
   have okT:=rl okG hr
   refine ac (then_c okG hr (by omega)) ?_
   generalize cE (G j) r=m at *
   simp only[mvl,qa8,qa3]
   refine p_x ?_
   refine tG (enc:=encM) (l:=(plL w v G r).take j++A.drop j) (i:=j) (a:=m) fJ s1 rfl (by rw[lenP,hA.len];exact hlt) (by rw[lenP,hA.len]) rfl ?_
   rw[take_set hLj hP]
   have s1':(putE h id 3 encM ((plL w v G r).take (j+1)++A.drop (j+1)))[id]?=some (.o (.cells (((plL w v G r).take (j+1)++A.drop (j+1)).flatMap encM) 3 true)):=dN (av s1)
   have s2':(putE h id 3 encM ((plL w v G r).take (j+1)++A.drop (j+1)))[iX]?=some (.o (.cells (((imL w v G r).take j++Z.drop j).flatMap aG) 3 true)):=by rw[dj hix];exact s2
   have s3':Pre H (putE h id 3 encM ((plL w v G r).take (j+1)++A.drop (j+1))):=rx s3 hid
   generalize putE h id 3 encM ((plL w v G r).take (j+1)++A.drop (j+1))=h3 at *
   refine p_x ?_
   have lenP1:=uH (j:=j+1) hP (by rw[hP,hA.len];omega)
   refine bQ (a:=m) (kB fJ s1' (by rw[lenP1,hA.len])) rfl ?_ ?_
   ·rw[qah (by rw[qaG,hP,hA.len];omega),qaT,qdD (by omega)]
    exact hLj
   unfold encM
   refine p_x ?_
   have hcell:-1000<=(clN w j).1/\(clN w j).1<=1000/\-1000<=(clN w j).2.1/\(clN w j).2.1<=1000/\(clN w j).2.2<4:=by
    have d1:j / 4%w<=j / 4:=Nat.mod_le _ _
    have d2:j / 4 / w<=j / 4:=Nat.div_le_self _ _
    refine⟨?_,?_,?_,?_,qbD _ (by omega)⟩
    ·exact Int.le_trans (show(-1000:Int)<=0 by decide) (qat _)
    ·exact Int.ofNat_le.2 (show j / 4%w<=1000 by omega)
    ·exact Int.le_trans (show(-1000:Int)<=0 by decide) (qat _)
    ·exact Int.ofNat_le.2 (show j / 4 / w<=1000 by omega)
   refine ac (move_c (c:=clN w j) (ii okT (by omega)) hcell) ?_
   generalize iR m (clN w j)=ci at *
   simp only[cll,qa8,qa3]
   refine p_x ?_
   refine tG (enc:=aG) (l:=(imL w v G r).take j++Z.drop j) (i:=j) (a:=ci) bP s2' rfl (by rw[lenI,←hZ,hI];exact hlt) (by rw[lenI,←hZ,hI]) rfl ?_
   rw[take_set hIj hZ]
   refine p_x ?_
   rw[bg (by omega)]
   refine hself _ hlt ⟨rx s3' hHi,by rw[dj (qcs hix)];exact s1',dN (av s2')⟩
  ·obtain rfl:j=4*w*v:=by omega
   rw[bj (qaf _)]
   refine p_x ?_
   rw[qaS (by rw[hP,hA.len];exact qaf _),qbL (by rw[hA.len];exact qaf _),qa6]at s1
   rw[qaS (by rw[hI];exact qaf _),qbL (by rw[←hZ,hI];exact qaf _),qa6]at s2
   exact⟨_,_,rfl,s3,kB fJ s1 (by rw[hP,hA.len]),kB bP s2 (by rw[hI])⟩)
 exact⟨lx,ix,h',hc,hpre,hp1,hp2⟩
def images_c{w v:Nat}(hs:Sh w v){l:TD}(hk:(l.map cK).Nodup)(hl0:l.length<=1000){H:HL}{x:Value}(hl:LsH H x 3 encC l)(hck:aw cc ab 69 [.i (.ofNat w),.i (.ofNat v),.v x] (absH aa H) [.i 0] (absH aa H))
  {G:Nat->Mv} (hG:qj w v l G) (h0:G 0=idM) (hGb:∀c,c<4*w*v->okM 400 (G c)) {r:Mv} (hr:okM 900 r) :
  ∃ix h',aw cc ab 50 ([.i (.ofNat w),.i (.ofNat v),.v x]++mvl r) (absH aa H) [.v ix,.i 0] (absH aa h')/\Pre H h'/\LsH h' ix 3 aG (imL w v G r):=by
 obtain⟨lx,ix,h1,c1,p1,p2,p3⟩:=both_c hs hk hl0 hl hck hG h0 hGb hr
 obtain⟨rs,h',hc,rfl,rfl⟩:=x50 (ls:=[.i (.ofNat w),.i (.ofNat v),.v x,.i (Int.ofNat r.1),.i r.2.1,.i r.2.2]) (K:=λrs h'=>rs=[.v ix,.i 0]/\h'=h1) (H:=H) (glsI (glsI (glsV hl.good (glsI (glsI (glsI gls0)))))) (by
  unfold f50;simp only[qxh]
  refine p_x ?_
  refine ah c1 ?_
  simp(disch:=omega)only[↓qXX]
  trivial)
 exact⟨ix,_,hc,p1,p3⟩
end St
namespace St
def dX(t:Nat):Int:=if mA t+mB t=1 then 0 else 1
def dY(t:Nat):Int:=if mC t+mD t=1 then 0 else 1
def Pm(t s:Nat)(x y:Int):Mv:=(t,x - mA t*(s:Int)+dX t,y - mC t*(s:Int)+dY t)
def Pm_fwd{t s:Nat}{x y:Int}(ht:t<8):Pm t (s+1) (x+mA t) (y+mC t)=Pm t s x y:=by
 unfold Pm dX dY
 rcases t8 ht with rfl|rfl|rfl|rfl|rfl|rfl|rfl|rfl<;>simp[mA,mB,mC,mD]<;>omega
def Pm_V{t s:Nat}{x y:Int}(ht:t<8):cE (ofM (1,Int.ofNat s+1)) (Pm t s x y)=Pm (mulT 4 t) (s+1) x y:=by
 unfold Pm dX dY cE ofM
 rcases t8 ht with rfl|rfl|rfl|rfl|rfl|rfl|rfl|rfl<;>simp[mulT,mA,mB,mC,mD]<;>omega
def Pm_D{t s:Nat}{x y:Int}(ht:t<8):cE (ofM (4,0 - Int.ofNat s)) (Pm t s x y)=Pm (mulT 7 t) s x y:=by
 unfold Pm dX dY cE ofM
 rcases t8 ht with rfl|rfl|rfl|rfl|rfl|rfl|rfl|rfl<;>simp[mulT,mA,mB,mC,mD]<;>omega
def Pm_U{t s:Nat}{x y:Int}(ht:t<8):cE (ofM (3,Int.ofNat s+0+1)) (Pm t s x y)=Pm (mulT 5 t) s x y:=by
 unfold Pm dX dY cE ofM
 rcases t8 ht with rfl|rfl|rfl|rfl|rfl|rfl|rfl|rfl<;>simp[mulT,mA,mB,mC,mD]<;>omega
def Pm_cell{t s q:Nat}{x y:Int}(ht:t<8):iR (Pm t s x y) (Int.ofNat s,0,q)=(x,y,qT t q):=by
 unfold Pm dX dY iR
 rcases t8 ht with rfl|rfl|rfl|rfl|rfl|rfl|rfl|rfl<;>simp[mA,mB,mC,mD]<;>omega
def Pm_id:Pm 0 0 0 0=idM:=by simp[Pm,dX,dY,idM,mA,mB,mC,mD]
def two7{t:Nat}(ht:t<8):mulT 7 (mulT 7 t)=t:=by
 rcases t8 ht with rfl|rfl|rfl|rfl|rfl|rfl|rfl|rfl<;>rfl
def two5{t:Nat}(ht:t<8):mulT 5 (mulT 5 t)=t:=by
 rcases t8 ht with rfl|rfl|rfl|rfl|rfl|rfl|rfl|rfl<;>rfl
def ex(f t:Nat):Nat:=if f=1 then mulT 7 t else if f=2 then mulT 5 t else t
def jX{f t:Nat}(ht:t<8):ex f t<8:=by
 unfold ex
 split
 ·exact kE
 ·split
  ·exact kE
  ·exact ht
def half(f q:Nat):Bool:=(decide (f=1)&&decide (q<2))||(decide (f=2)&&(decide (q=1)||decide (q=2)))
structure Rib(w:Nat)(f:TC)(b:Ty)(t:TC)(x y:Nat->Int):Prop where
 t0:t 0=0
 x0:x 0=0
 y0:y 0=0
 nt:∀s,s+1<w->t (s+1)=if b s then mulT 4 (ex (f s) (t s))else ex (f s) (t s)
 nx:∀s,s+1<w->x (s+1)=if b s then x s else x s+mA (ex (f s) (t s))
 ny:∀s,s+1<w->y (s+1)=if b s then y s else y s+mC (ex (f s) (t s))
structure CrOf(w:Nat)(l:TD)(f:TC)(b:Ty):Prop where
 d0:∀s,s<w->isCr l (4*s+0) 2=decide (f s=1)
 d1:∀s,s<w->isCr l (4*s+1) 2=decide (f s=1)
 u0:∀s,s<w->isCr l (4*s+0) 1=decide (f s=2)
 u2:∀s,s<w->isCr l (4*s+2) 1=decide (f s=2)
 v:∀s,s+1<w->isCr l (4*s+1) 0=b s
def GA(f t:TC)(x y:Nat->Int)(c:Nat):Mv:=Pm (if half (f (c / 4)) (c%4)then ex (f (c / 4)) (t (c / 4))else t (c / 4)) (c / 4) (x (c / 4)) (y (c / 4))
section
variable {w:Nat} {l:TD} {f t:TC} {b:Ty} {x y:Nat->Int}
def GA_q{s q:Nat}(hq:q<4):GA f t x y (4*s+q)=Pm (if half (f s) q then ex (f s) (t s)else t s) s (x s) (y s):=by
 unfold GA
 rw[show(4*s+q) / 4=s by omega,show(4*s+q)%4=q by omega]
def Rib.lt(h:Rib w f b t x y):∀s,s<w->t s<8:=by
 intro s
 induction s with
 |zero=>intro _;rw[h.t0];omega
 |succ s ih=>
  intro hs
  rw[h.nt s hs]
  have:=ih (by omega)
  split
  ·exact kE
  ·exact jX this
def GA_lt(h:Rib w f b t x y){c:Nat}(hc:c / 4<w):(GA f t x y c).1<8:=by
 have:=h.lt _ hc
 unfold GA Pm
 simp only
 split
 ·exact jX this
 ·exact this
def gC(h:Rib w f b t x y){s q p e z:Nat}(hs:s<w)(hq:q<4)(hp:p<4)(hz:(e=1/\z=2)∨(e=2/\z=1))(hqp:half z q = !half z p)(hsame:∀g,g≠z->half g q=half g p) :
  GA f t x y (4*s+p)=if decide (f s=z)then cE (ofM (lnC3 (Int.ofNat s,0,q) e)) (GA f t x y (4*s+q))else GA f t x y (4*s+q):=by
 have ht:=h.lt s hs
 have hex:=jX (f:=f s) ht
 rw[GA_q hp,GA_q hq]
 by_cases hf:f s=z
 ·rw[qdC hf,qdD rfl,hf]
  rcases hz with⟨rfl,rfl⟩|⟨rfl,rfl⟩
  ·show _=cE (ofM (3,Int.ofNat s+0+1)) _
   cases h1:half 2 q with
   |true=>
    rw[h1]at hqp
    have h2:half 2 p=false:=by cases h3:half 2 p with|true=>rw[h3]at hqp;cases hqp|false=>rfl
    rw[h2,qdD rfl,qdE (by simp),Pm_U (jX ht)]
    show Pm (t s) s _ _=Pm (mulT 5 (mulT 5 (t s))) s _ _
    rw[two5 ht]
   |false=>
    rw[h1]at hqp
    have h2:half 2 p=true:=by cases h3:half 2 p with|false=>rw[h3]at hqp;cases hqp|true=>rfl
    rw[h2,qdD rfl,qdE (by simp),Pm_U ht]
    rfl
  ·show _=cE (ofM (4,0 - Int.ofNat s)) _
   cases h1:half 1 q with
   |true=>
    rw[h1]at hqp
    have h2:half 1 p=false:=by cases h3:half 1 p with|true=>rw[h3]at hqp;cases hqp|false=>rfl
    rw[h2,qdD rfl,qdE (by simp),Pm_D (jX ht)]
    show Pm (t s) s _ _=Pm (mulT 7 (mulT 7 (t s))) s _ _
    rw[two7 ht]
   |false=>
    rw[h1]at hqp
    have h2:half 1 p=true:=by cases h3:half 1 p with|false=>rw[h3]at hqp;cases hqp|true=>rfl
    rw[h2,qdD rfl,qdE (by simp),Pm_D ht]
    rfl
 ·rw[qdB hf]
  simp only[qao,if_false,hsame _ hf]
def half3(g:Nat):half g 3=false:=by simp[half]
def half1(h:t 0=t 0){s:Nat}:(if half (f s) 1 then ex (f s) (t s)else t s)=ex (f s) (t s):=by
 unfold half ex
 by_cases h1:f s=1
 ·simp[h1]
 ·by_cases h2:f s=2
  ·simp[h2]
  ·simp[h1,h2]
def cons(h:Rib w f b t x y)(hw:1<=w/\w<=60)(hC:CrOf w l f b):qj w 1 l (GA f t x y):=by
 have hSh:Sh w 1:=⟨hw.1,hw.2,rfl⟩
 intro c e n hc he hn
 obtain⟨_,hln⟩:=name_nb hSh hc he hn
 unfold acM
 rw[hln]
 obtain⟨_,_,s,q,rfl,hs,hq⟩:=hSh.q hc
 rw[clS hs hq]
 rw[eQ hs hq]at hn
 have he':e=0∨e=1∨e=2:=by omega
 rcases q4 hq with rfl|rfl|rfl|rfl<;>rcases he' with rfl|rfl|rfl<;>unfold nbrQ at hn<;>simp only at hn
 ·cases hn
 ·obtain rfl:=qae hn
  rw[qa5 (by omega),hC.u0 s hs]
  exact gC h hs (by omega) (by omega) (.inl ⟨rfl,rfl⟩) rfl λg hg=>by simp[half,hg]
 ·obtain rfl:=qae hn
  rw[qa5 (by omega),hC.d0 s hs]
  exact gC h hs (by omega) (by omega) (.inr ⟨rfl,rfl⟩) rfl λg hg=>by simp[half,hg]
 ·split at hn
  next h1=>
   obtain rfl:=qae hn
   rw[qa5 (by omega),hC.v s h1,GA_q (by omega),GA_q (by omega),half3,half1 rfl,h.nt s h1,h.nx s h1,h.ny s h1]
   simp only[qao,if_false]
   show _=if b s then cE (ofM (1,Int.ofNat s+1)) _ else _
   have hex:=jX (f:=f s) (h.lt s hs)
   cases b s with
   |true=>
    simp only[if_true]
    rw[Pm_V hex]
   |false=>
    simp only[qao,if_false]
    rw[Pm_fwd hex]
  ·cases hn
 ·obtain rfl:=qae hn
  rw[qbZ (by omega),hC.u0 s hs]
  exact gC h hs (by omega) (by omega) (.inl ⟨rfl,rfl⟩) rfl λg hg=>by simp[half,hg]
 ·obtain rfl:=qae hn
  rw[qa5 (by omega),hC.d1 s hs]
  exact gC h hs (by omega) (by omega) (.inr ⟨rfl,rfl⟩) rfl λg hg=>by simp[half,hg]
 ·cases hn
 ·obtain rfl:=qae hn
  rw[qa5 (by omega),hC.u2 s hs]
  exact gC h hs (by omega) (by omega) (.inl ⟨rfl,rfl⟩) rfl λg hg=>by simp[half,hg]
 ·obtain rfl:=qae hn
  rw[qbZ (by omega),hC.d1 s hs]
  exact gC h hs (by omega) (by omega) (.inr ⟨rfl,rfl⟩) rfl λg hg=>by simp[half,hg]
 ·split at hn
  next h1=>
   obtain rfl:=qae hn
   obtain⟨u,rfl⟩ : ∃u,s=u+1:=⟨s - 1,by omega⟩
   rw[show u+1 - 1=u by omega,qbZ (by omega),hC.v u hs,GA_q (by omega),GA_q (by omega),half3,half1 rfl,h.nt u hs,h.nx u hs,h.ny u hs]
   simp only[qao,if_false]
   show _=if b u then cE (ofM (1,Int.ofNat (u+1))) _ else _
   have hex:=jX (f:=f u) (h.lt u (by omega))
   cases b u with
   |true=>
    simp only[if_true]
    rw[←Pm_V hex,←iZ (by simp[ofM]) (by simp[ofM]) (by exact hex),show Int.ofNat (u+1)=Int.ofNat u+1 from rfl,ofM_twice,id_thenM (by exact hex)]
   |false=>
    simp only[qao,if_false]
    rw[Pm_fwd hex]
  ·cases hn
 ·obtain rfl:=qae hn
  rw[qbZ (by omega),hC.u2 s hs]
  exact gC h hs (by omega) (by omega) (.inl ⟨rfl,rfl⟩) rfl λg hg=>by simp[half,hg]
 ·obtain rfl:=qae hn
  rw[qbZ (by omega),hC.d0 s hs]
  exact gC h hs (by omega) (by omega) (.inr ⟨rfl,rfl⟩) rfl λg hg=>by simp[half,hg]
end
end St
namespace St
def evn(m:Mv):Prop:=(m.2.1+m.2.2)%2=0
def qJ{a b:Mv}(hb:b.1<8)(ha:evn a)(hb':evn b):evn (cE a b):=by
 obtain⟨at',ax,ay⟩:=a
 obtain⟨bt,bx,by'⟩:=b
 unfold evn cE at *
 simp only at *
 rcases t8 hb with rfl|rfl|rfl|rfl|rfl|rfl|rfl|rfl<;>simp only[mA,mB,mC,mD]<;>omega
def evn_of(k:Nat)(c:Int):evn (ofM (k,c)):=by
 unfold evn ofM
 split<;>simp only<;>omega
section
variable {w:Nat} {l:TD} {f t:TC} {b:Ty} {x y:Nat->Int}
def ex_evn{g t s:Nat}{x y:Int}(ht:t<8)(h:evn (Pm t s x y)):evn (Pm (ex g t) s x y):=by
 unfold ex
 split
 ·rw[←Pm_D ht]
  exact qJ ht (evn_of _ _) h
 ·split
  ·rw[←Pm_U ht]
   exact qJ ht (evn_of _ _) h
  ·exact h
def Rib.evn(h:Rib w f b t x y):∀s,s<w->evn (Pm (t s) s (x s) (y s)):=by
 intro s
 induction s with
 |zero=>
  intro _
  rw[h.t0,h.x0,h.y0,Pm_id]
  rfl
 |succ s ih=>
  intro hs
  have ht:=h.lt s (by omega)
  have h1:=ex_evn (g:=f s) ht (ih (by omega))
  rw[h.nt s hs,h.nx s hs,h.ny s hs]
  cases b s with
  |true=>
   simp only[if_true]
   rw[←Pm_V (jX ht)]
   exact qJ (jX ht) (evn_of _ _) h1
  |false=>
   simp only[qao,if_false]
   rw[Pm_fwd (jX ht)]
   exact h1
def mA_rng(t:Nat):-1<=mA t/\mA t<=1:=by unfold mA;split<;>omega
def mC_rng(t:Nat):-1<=mC t/\mC t<=1:=by unfold mC;split<;>omega
def Rib.rng(h:Rib w f b t x y):∀s,s<w->(-(s:Int)<=x s/\x s<=s)/\-(s:Int)<=y s/\y s<=s:=by
 intro s
 induction s with
 |zero=>
  intro _
  rw[h.x0,h.y0]
  simp
 |succ s ih=>
  intro hs
  have h1:=ih (by omega)
  have h2:=mA_rng (ex (f s) (t s))
  have h3:=mC_rng (ex (f s) (t s))
  rw[h.nx s hs,h.ny s hs]
  split<;>omega
def Pm_ok{t s:Nat}{x y:Int}{n:Int}(ht:t<8)(hx:(-n<=x/\x<=n)/\-n<=y/\y<=n)(hs:(s:Int)<=n)(he:evn (Pm t s x y)):okM (2*n+1) (Pm t s x y):=by
 unfold okM
 refine⟨ht,?_⟩
 unfold evn at he
 have hd1:dX t=0∨dX t=1:=by unfold dX;split<;>simp
 have hd2:dY t=0∨dY t=1:=by unfold dY;split<;>simp
 refine⟨?_,?_,?_,?_,he⟩<;>unfold Pm<;>simp only<;>rcases t8 ht with rfl|rfl|rfl|rfl|rfl|rfl|rfl|rfl<;>simp only[mA,mC]<;>omega
def GA_ok(h:Rib w f b t x y)(hw:w<=60){c:Nat}(hc:c / 4<w):okM 121 (GA f t x y c):=by
 have ht:=h.lt _ hc
 have hr:=h.rng _ hc
 have he:=h.evn _ hc
 have hx:(-(60:Int)<=x (c / 4)/\x (c / 4)<=60)/\-(60:Int)<=y (c / 4)/\y (c / 4)<=60:=by omega
 unfold GA
 split
 ·exact Pm_ok (n:=60) (jX ht) hx (by omega) (ex_evn ht he)
 ·exact Pm_ok (n:=60) ht hx (by omega) he
def jF(g:Nat):Mv:=if g=1 then(7,0,0)else(0,0,0)
def rE(g:Nat):okM 0 (jF g):=by
 unfold jF okM
 split<;>simp
def rD(g:Nat):(jF g).1<8:=(rE g).1
def tJ(g:Nat):cE (jF g) (jF g)=idM:=by
 unfold jF
 split<;>simp[cE,mulT,mA,mB,mC,mD,idM]
def GA_0(h:Rib w f b t x y):GA f t x y 0=jF (f 0):=by
 unfold GA jF
 simp only[Nat.zero_div,Nat.zero_mod]
 rw[h.t0,h.x0,h.y0]
 by_cases h1:f 0=1
 ·rw[h1]
  simp[half,ex,mulT,Pm,dX,dY,mA,mB,mC,mD]
 ·by_cases h2:f 0=2
  ·rw[h2]
   simp[half,Pm,dX,dY,mA,mB,mC,mD]
  ·simp[half,h1,h2,Pm,dX,dY,mA,mB,mC,mD]
def GR(f t:TC)(x y:Nat->Int)(c:Nat):Mv:=cE (GA f t x y c) (jF (f 0))
def GR_0(h:Rib w f b t x y):GR f t x y 0=idM:=by
 unfold GR
 rw[GA_0 h,tJ]
def GR_ok(h:Rib w f b t x y)(hw:w<=60){c:Nat}(hc:c<4*w*1):okM 400 (GR f t x y c):=
 ii (rl (GA_ok h hw (by omega)) (rE _)) (by omega)
def GR_cons(h:Rib w f b t x y)(hw:1<=w/\w<=60)(hC:CrOf w l f b):qj w 1 l (GR f t x y):=by
 intro c e n hc he hn
 have h1:=cons h hw hC c e n hc he hn
 unfold GR
 rw[h1]
 unfold acM
 split
 ·rw[iZ (ofM_lt _) (GA_lt h (by omega)) (rD _)]
 ·rfl
def GR_root(h:Rib w f b t x y){c:Nat}(hc:c / 4<w):cE (GR f t x y c) (jF (f 0))=GA f t x y c:=by
 unfold GR
 rw[iZ (GA_lt h hc) (rD _) (rD _),tJ,thenM_id (GA_lt h hc)]
def imC(f t:TC)(x y:Nat->Int)(c:Nat):Cl:=(x (c / 4),y (c / 4),qT (if half (f (c / 4)) (c%4)then ex (f (c / 4)) (t (c / 4))else t (c / 4)) (c%4))
def im_eq(h:Rib w f b t x y):imL w 1 (GR f t x y) (jF (f 0))=(List.range (4*w*1)).map (imC f t x y):=by
 unfold imL
 refine qbF λc hc=>?_
 have hc:=qaN.1 hc
 have hlt:c / 4<w:=by omega
 rw[GR_root h hlt]
 have e:clN w c=(Int.ofNat (c / 4),0,c%4):=by
  have:=clS (w:=w) (s:=c / 4) (q:=c%4) hlt (qbD _ (by omega))
  rwa [show 4*(c / 4)+c%4=c by omega]at this
 rw[e]
 unfold GA imC
 have ht:=h.lt _ hlt
 rw[Pm_cell]
 split
 ·exact jX ht
 ·exact ht
end
end St
end Go.Am
namespace Go.Am
namespace Tw
open Sx
abbrev Sq:=Int×Int
def bes(c:Sq)(k:Nat):Sq:=match k with
 |0=>(c.1+1,c.2)
 |1=>(c.1,c.2+1)
 |2=>(c.1 - 1,c.2)
 |_=>(c.1,c.2 - 1)
def vi(c:Sq){k:Nat}(hk:k<4):bes (bes c k) ((k+2)%4)=c:=by
 have:k=0∨k=1∨k=2∨k=3:=by omega
 obtain⟨x,y⟩:=c
 rcases this with rfl|rfl|rfl|rfl<;>simp[bes]
def wayN:Nat->List Nat
 |0=>[1]
 |1=>[2,4,1]
 |2=>[2,1]
 |_=>[2,3,1]
structure TS where
 been:List Sq
 steps:List Nat
 head:Nat
 last:Nat
def goT(s:TS)(k:Nat):TS:={ s with steps:=s.steps++wayN ((k+4 - s.head)%4),head:=k }
def rndT(v:Sq->TS->TS)(L:List Sq)(c:Sq)(s:TS)(k:Nat):TS:=
 if bes c k∈L/\bes c k∉s.been then goT (v (bes c k) (goT s k)) ((k+2)%4)else s
def rnds(v:Sq->TS->TS)(L:List Sq)(c:Sq)(s:TS):Nat->TS
 |0=>s
 |j+1=>rndT v L c (rnds v L c s j) j
def inT(s:TS)(c:Sq):TS:={ s with been:=s.been++[c],last:=s.steps.length }
def visT(L:List Sq):Nat->Sq->TS->TS
 |0,_,s=>s
 |n+1,c,s=>rnds (visT L n) L c (inT s c) 4
def Ok3(l:TB):Prop:=∀(i a b:Nat),l[i]?=some a->l[i+1]?=some b->¬(3<=a/\3<=b)
def wP(d:Nat):Ok3 (wayN d)/\(∀a∈wayN d,1<=a/\a<=4)/\(wayN d).length<=3/\∃a r,wayN d=a :: r/\a<3:=by
 match d with
 |0=>exact⟨λi a b h1 h2=>by simp[wayN]at h2,by simp[wayN],by simp[wayN],1,[],rfl,by omega⟩
 |1=>exact⟨λi a b h1 h2=>by
   match i with
   |0=>simp[wayN]at h1 h2;omega
   |1=>simp[wayN]at h1 h2;omega
   |i+2=>simp[wayN]at h2,by simp[wayN],by simp[wayN],2,[4,1],rfl,by omega⟩
 |2=>exact⟨λi a b h1 h2=>by
   match i with
   |0=>simp[wayN]at h1 h2;omega
   |i+1=>simp[wayN]at h2,by simp[wayN],by simp[wayN],2,[1],rfl,by omega⟩
 |d+3=>exact⟨λi a b h1 h2=>by
   match i with
   |0=>simp[wayN]at h1 h2;omega
   |1=>simp[wayN]at h1 h2;omega
   |i+2=>simp[wayN]at h2,by simp[wayN],by simp[wayN],2,[3,1],rfl,by omega⟩
def Ok3.way{l:TB}(h:Ok3 l)(d:Nat):Ok3 (l++wayN d):=by
 obtain⟨w1,_,_,a0,r,w4,w5⟩:=wP d
 intro i a b h1 h2
 by_cases e1:i+1<l.length
 ·rw[qah (by omega)]at h1
  rw[qah e1]at h2
  exact h i a b h1 h2
 ·rw[qan (by omega)]at h2
  by_cases e2:i+1=l.length
  ·rw[e2,qbu,w4]at h2
   simp only[qaR,qaq]at h2
   omega
  ·rw[qan (by omega)]at h1
   rw[show i+1 - l.length=i - l.length+1 by omega]at h2
   exact w1 _ a b h1 h2
def Ok3.take{l:TB}(h:Ok3 l)(n:Nat):Ok3 (l.take n):=by
 intro i a b h1 h2
 rw[qaT]at h1 h2
 split at h1
 ·split at h2
  ·exact h i a b h1 h2
  ·cases h2
 ·cases h1
def free(L been:List Sq):Nat:=(L.filter λx=>decide (x∉been)).length
def gL{L b b':List Sq}(h:∀x∈b,x∈b'):free L b'<=free L b:=by
 unfold free
 induction L with
 |nil=>simp
 |cons x L ih=>
  simp only[qb6]
  by_cases h1:x∈b'
  ·by_cases h2:x∈b
   ·simpa[h1,h2]using ih
   ·simp[h1,h2];simp at ih;omega
  ·have h2:x∉b:=λh2=>h1 (h x h2)
   simpa[h1,h2]using ih
def nb{L b b':List Sq}(h:∀x∈b,x∈b'){c:Sq}(hc:c∈L)(h1:c∉b)(h2:c∈b'):free L b'<free L b:=by
 unfold free
 induction L with
 |nil=>cases hc
 |cons x L ih=>
  simp only[qb6]
  by_cases hx:x=c
  ·subst hx
   have:=gL (L:=L) h
   unfold free at this
   simp[h1,h2];simp at this;omega
  ·have hc':c∈L:=by
    rcases qal.1 hc with e|e
    ·exact absurd e.symm hx
    ·exact e
   have ih:=ih hc'
   by_cases g1:x∈b'
   ·by_cases g2:x∈b
    ·simpa[g1,g2]using ih
    ·simp[g1,g2];simp at ih;omega
   ·have g2:x∉b:=λg2=>g1 (h x g2)
    simpa[g1,g2]using ih
structure Ev(L:List Sq)(s t:TS):Prop where
 g:∃G,t.been=s.been++G
 nd:t.been.Nodup
 sub:∀x∈t.been,x∈L
 hd:t.head<4
 st:∀a∈t.steps,1<=a/\a<=4
 ok:Ok3 t.steps
 la:t.last<=t.steps.length
 le:t.steps.length+6*s.been.length<=s.steps.length+6*t.been.length
def Ev.self{L:List Sq}{s t:TS}(h:Ev L s t):Ev L t t:=⟨⟨[],by simp⟩,h.nd,h.sub,h.hd,h.st,h.ok,h.la,qaf _⟩
def Ev.trans{L:List Sq}{s t u:TS}(h:Ev L s t)(k:Ev L t u):Ev L s u:=by
 obtain⟨G,hG⟩:=h.g
 obtain⟨G',hG'⟩:=k.g
 have:=h.le
 have:=k.le
 exact⟨⟨G++G',by rw[hG',hG,qaJ]⟩,k.nd,k.sub,k.hd,k.st,k.ok,k.la,by omega⟩
def Ev.mem{L:List Sq}{s t:TS}(h:Ev L s t){x:Sq}(hx:x∈s.been):x∈t.been:=by
 obtain⟨G,hG⟩:=h.g
 rw[hG];exact qaF _ hx
def bu{α:Type} [DecidableEq α]:∀ {a b:List α},a.Nodup->(∀x∈a,x∈b)->a.length<=b.length
 | [],b,_,_=>qaO _
 |x :: a,b,h,hs=>by
  rw[qbX]at h
  have hx:=hs x qaE
  have:=bu (a:=a) (b:=b.erase x) h.2 (λy hy=>by
   have hne:y≠x:=λe=>h.1 (e▸hy)
   exact(List.mem_erase_of_ne hne).2 (hs y (qap _ hy)))
  rw[List.length_erase_of_mem hx]at this
  have:0<b.length:=List.length_pos_of_mem hx
  simp only[qaD];omega
def Ev.small{L:List Sq}{s t:TS}(h:Ev L s t):t.been.length<=L.length:=bu h.nd h.sub
def go_ev{L:List Sq}{s t:TS}(h:Ev L s t){k:Nat}(hk:k<4):(goT t k).been=t.been/\(goT t k).steps.length<=t.steps.length+3/\(∀a∈(goT t k).steps,1<=a/\a<=4)/\Ok3 (goT t k).steps/\(goT t k).last<=(goT t k).steps.length/\(goT t k).head<4:=by
 obtain⟨w1,w2,w3,_⟩:=wP ((k+4 - t.head)%4)
 have:=h.la
 refine⟨rfl,?_,?_,h.ok.way _,?_,hk⟩
 ·show(t.steps++wayN _).length<=_
  rw[qaB];omega
 ·intro a ha
  rcases qau.1 ha with ha|ha
  ·exact h.st a ha
  ·exact w2 a ha
 ·show t.last<=(t.steps++wayN _).length
  rw[qaB];omega
def VOk(L:List Sq)(n:Nat)(v:Sq->TS->TS):Prop:=∀d t,Ev L t t->d∈L->d∉t.been->free L t.been<=n->Ev L t (v d t)/\(v d t).steps.length+6*t.been.length+6<=t.steps.length+6*(v d t).been.length
def rnd_ev{L:List Sq}{n:Nat}{v:Sq->TS->TS}(hv:VOk L n v){s:TS}{c:Sq}(hs:Ev L s s)(hf:free L s.been<=n){k:Nat}(hk:k<4):Ev L s (rndT v L c s k):=by
 unfold rndT
 split
 next h=>
  obtain⟨a1,a2,a3,a4,a5,a6⟩:=go_ev hs hk
  have hg:Ev L (goT s k) (goT s k):=⟨⟨[],by simp⟩,hs.nd,hs.sub,a6,a3,a4,a5,qaf _⟩
  obtain⟨b1,b2⟩:=hv (bes c k) (goT s k) hg h.1 h.2 hf
  obtain⟨c1,c2,c3,c4,c5,c6⟩:=go_ev b1 (k:=(k+2)%4) (by omega)
  refine⟨?_,b1.nd,b1.sub,c6,c3,c4,c5,?_⟩
  ·obtain⟨G,hG⟩:=b1.g
   exact⟨G,hG⟩
  ·rw[a1]at b2
   have e:(goT (v (bes c k) (goT s k)) ((k+2)%4)).been.length=(v (bes c k) (goT s k)).been.length:=rfl
   rw[e]
   omega
 ·exact hs
def nQ{L:List Sq}{n:Nat}{v:Sq->TS->TS}(hv:VOk L n v){s:TS}{c:Sq}(hs:Ev L s s)(hf:free L s.been<=n):∀j,j<=4->Ev L s (rnds v L c s j)
 |0,_=>hs
 |j+1,hj=>by
  have h:=nQ hv (c:=c) hs hf j (by omega)
  exact h.trans (rnd_ev hv h.self (qbh (gL λx hx=>h.mem hx) hf) (by omega))
def in_ev{L:List Sq}{s:TS}{c:Sq}(hs:Ev L s s)(hc:c∈L)(hn:c∉s.been):Ev L (inT s c) (inT s c):=by
 refine⟨⟨[],by simp⟩,?_,?_,hs.hd,hs.st,hs.ok,qaf _,qaf _⟩
 ·show(s.been++[c]).Nodup
  rw[qb2]
  refine⟨hs.nd,by simp,?_⟩
  intro a ha b hb
  simp only[qam]at hb
  subst hb
  exact λe=>hn (e▸ha)
 ·intro x hx
  rcases qau.1 hx with hx|hx
  ·exact hs.sub x hx
  ·simp only[qam]at hx
   subst hx;exact hc
def uD{L:List Sq}{s:TS}{c:Sq}(hc:c∈L)(hn:c∉s.been):free L (inT s c).been<free L s.been:=nb (λx hx=>qaF _ hx) hc hn (qaK _ (by simp))
def iI(L:List Sq):∀n,VOk L n (visT L n)
 |0=>λd t _ hd hn hf=>by
  have:=nb (L:=L) (b:=t.been) (b':=t.been++[d]) (λx hx=>qaF _ hx) hd hn (qaK _ (by simp))
  omega
 |n+1=>λd t ht hd hn hf=>by
  have h1:=in_ev ht hd hn
  have h2:=uD (s:=t) hd hn
  have h3:=nQ (iI L n) (c:=d) h1 (by omega) 4 (by omega)
  have h4:=h3.le
  have e1:(inT t d).been.length=t.been.length+1:=by
   show(t.been++[d]).length=_
   simp
  have e2:(inT t d).steps=t.steps:=rfl
  rw[e1,e2]at h4
  show Ev L t (rnds (visT L n) L d (inT t d) 4)/\(rnds (visT L n) L d (inT t d) 4).steps.length+6*t.been.length+6<=t.steps.length+6*(rnds (visT L n) L d (inT t d) 4).been.length
  refine⟨⟨?_,h3.nd,h3.sub,h3.hd,h3.st,h3.ok,h3.la,by omega⟩,by omega⟩
  obtain⟨G,hG⟩:=h3.g
  exact⟨d :: G,by rw[hG];show(t.been++[d])++G=_;simp⟩
def Con(L:List Sq):Prop:=∀(i:Nat) (c:Sq),L[i]?=some c->0<i->∃(j:Nat) (d:Sq) (k:Nat),j<i/\L[j]?=some d/\k<4/\bes d k=c
def con_all{L:List Sq}(hL:Con L){S:List Sq}(hs:∀x∈S,x∈L)(hne:∃x,x∈S)(hcl:∀x∈S,∀k,k<4->bes x k∈L->bes x k∈S):∀x∈L,x∈S:=by
 have h0:∀(i:Nat) (c:Sq),L[i]?=some c->c∈S->∃c0,L[0]?=some c0/\c0∈S:=by
  intro i
  induction i using Nat.strongRecOn with
  |ind i ih=>
   intro c hc hm
   by_cases hi:i=0
   ·subst hi
    exact⟨c,hc,hm⟩
   ·obtain⟨j,d,k,hj,hd,hk,e⟩:=hL i c hc (by omega)
    have hdS:d∈S:=by
     have hb:=vi d hk
     rw[e]at hb
     rw[←hb]
     exact hcl c hm _ (by omega) (by rw[hb];exact qab hd)
    exact ih j hj d hd hdS
 obtain⟨x,hx⟩:=hne
 obtain⟨i,hi⟩:=qaM (hs x hx)
 obtain⟨c0,hc0,hm0⟩:=h0 i x hi hx
 have h1:∀(i:Nat) (c:Sq),L[i]?=some c->c∈S:=by
  intro i
  induction i using Nat.strongRecOn with
  |ind i ih=>
   intro c hc
   by_cases hi:i=0
   ·subst hi
    rw[hc0]at hc
    cases hc
    exact hm0
   ·obtain⟨j,d,k,hj,hd,hk,e⟩:=hL i c hc (by omega)
    rw[←e]
    exact hcl d (ih j hj d hd) k hk (by rw[e];exact qab hc)
 intro y hy
 obtain⟨i,hi⟩:=qaM hy
 exact h1 i y hi
end Tw
namespace Tw
open Sx
def qd(c:Sq)(a:K3):Prop:=(a.1,a.2.1)=c/\a.2.2<4
def qc(p:Sq)(head q:Nat):K3:=(p.1,p.2,(head+q+1)%4)
def iw:Nat->List Nat
 |0=>[0,1,2,3]
 |1=>[1,2]
 |_=>[2,3]
def hdN:Nat->Nat
 |0=>0
 |1=>1
 |_=>3
def Cv(p:Sq)(head t:Nat)(cov:K3->Prop):K3->Prop:=λa=>cov a∨∃q,q∈iw t/\a=qc p head q
def AllC(L:List Sq)(cov:K3->Prop):Prop:=∀a:K3,(a.1,a.2.1)∈L->a.2.2<4->cov a
def LP(L:List Sq):Nat->Sq->Nat->(K3->Prop)->Prop
 |0,p,head,cov=>∃t,t<3/\AllC L (Cv p head t cov)
 |m+1,p,head,cov=>∃t,t<3/\(AllC L (Cv p head t cov)∨(bes p ((head+hdN t)%4)∈L/\LP L m (bes p ((head+hdN t)%4)) ((head+hdN t)%4) (Cv p head t cov))∨LP L m p (((head+hdN t)%4+2)%4) (Cv p head t cov))
def cv0{p:Sq}{head:Nat}{cov:K3->Prop}:Cv p head 0 cov=λa=>cov a∨qd p a:=by
 funext a
 apply propext
 obtain⟨x,y,r⟩:=a
 obtain⟨u,v⟩:=p
 unfold Cv qd qc iw
 simp only[qbY]
 constructor
 ·rintro(h|⟨q,_,rfl,rfl,rfl⟩)
  ·exact .inl h
  ·exact .inr ⟨⟨rfl,rfl⟩,qbD _ (by omega)⟩
 ·rintro(h|⟨⟨rfl,rfl⟩,hr⟩)
  ·exact .inl h
  ·refine .inr ⟨(r+7 - head%4)%4,?_,rfl,rfl,by omega⟩
   have:(r+7 - head%4)%4<4:=qbD _ (by omega)
   simp;omega
def cv_t{p:Sq}{head t:Nat}{cov:K3->Prop}:Cv p head t (λa=>cov a∨qd p a)=λa=>cov a∨qd p a:=by
 funext a
 apply propext
 constructor
 ·rintro(h|⟨q,_,rfl⟩)
  ·exact h
  ·exact .inr ⟨rfl,qbD _ (by omega)⟩
 ·exact λh=>.inl h
def nmv(l:TB):Nat:=(l.filter λa=>decide (a<3)).length
def nmv_app(a b:TB):nmv (a++b)=nmv a+nmv b:=by simp[nmv]
def way_lp{L:List Sq}{p:Sq}{k head m:Nat}{cov:K3->Prop}(hk:k<4)(hh:head<4)(hn:bes p k∈L)(h:LP L m (bes p k) k λa=>cov a∨qd p a):LP L (m+nmv (wayN ((k+4 - head)%4))) p head cov:=by
 have hd:(k+4 - head)%4=0∨(k+4 - head)%4=1∨(k+4 - head)%4=2∨(k+4 - head)%4=3:=by omega
 rcases hd with e|e|e|e<;>rw[e]
 ·have e1:(head+hdN 0)%4=k:=by simp only[hdN];omega
  refine⟨0,by omega,.inr (.inl ?_)⟩
  rw[e1,cv0]
  exact⟨hn,h⟩
 ·have e1:((head+hdN 0)%4+2)%4=(k+1)%4:=by simp only[hdN];omega
  have e2:((k+1)%4+hdN 2)%4=k:=by simp only[hdN];omega
  refine⟨0,by omega,.inr (.inr ?_)⟩
  rw[e1,cv0]
  refine⟨2,by omega,.inr (.inl ?_)⟩
  rw[e2,cv_t]
  exact⟨hn,h⟩
 ·have e1:((head+hdN 0)%4+2)%4=k:=by simp only[hdN];omega
  have e2:(k+hdN 0)%4=k:=by simp only[hdN];omega
  refine⟨0,by omega,.inr (.inr ?_)⟩
  rw[e1,cv0]
  refine⟨0,by omega,.inr (.inl ?_)⟩
  rw[e2,cv_t]
  exact⟨hn,h⟩
 ·have e1:((head+hdN 0)%4+2)%4=(k+3)%4:=by simp only[hdN];omega
  have e2:((k+3)%4+hdN 1)%4=k:=by simp only[hdN];omega
  refine⟨0,by omega,.inr (.inr ?_)⟩
  rw[e1,cv0]
  refine⟨1,by omega,.inr (.inl ?_)⟩
  rw[e2,cv_t]
  exact⟨hn,h⟩
def Fol(L:List Sq)(c0:Sq)(ws:TB)(p:Sq)(hd:Nat)(cov:K3->Prop):Prop:=∀m,LP L m p hd cov->LP L (m+nmv ws) c0 0 λ_=>False
def Good(L:List Sq)(c0:Sq)(s:TS)(p:Sq):Prop:=∃cov,Fol L c0 s.steps p s.head cov/\∀b∈s.been,b≠p->∀a,qd b a->cov a
def GLast(L:List Sq)(c0:Sq)(s:TS):Prop:=∃p hd cov,Fol L c0 (s.steps.take s.last) p hd cov/\∀b∈s.been,b≠p->∀a,qd b a->cov a
def good_go{L:List Sq}{c0 p:Sq}{s:TS}{k:Nat}(hk:k<4)(hh:s.head<4)(hn:bes p k∈L)(h:Good L c0 s p):Good L c0 (goT s k) (bes p k):=by
 obtain⟨cov,h1,h2⟩:=h
 refine⟨λa=>cov a∨qd p a,λm hm=>?_,λb hb hne a ha=>?_⟩
 ·have:=h1 _ (way_lp hk hh hn hm)
  show LP L (m+nmv (s.steps++wayN ((k+4 - s.head)%4))) c0 0 _
  rw[nmv_app,show m+(nmv s.steps+nmv (wayN ((k+4 - s.head)%4)))=m+nmv (wayN ((k+4 - s.head)%4))+nmv s.steps by omega]
  exact this
 ·by_cases hp:b=p
  ·exact .inr (hp▸ha)
  ·exact .inl (h2 b hb hp a ha)
def last_go{L:List Sq}{c0:Sq}{s:TS}{k:Nat}(hl:s.last<=s.steps.length)(h:GLast L c0 s):GLast L c0 (goT s k):=by
 obtain⟨p,hd,cov,h1,h2⟩:=h
 refine⟨p,hd,cov,?_,h2⟩
 show Fol L c0 ((s.steps++wayN _).take s.last) p hd cov
 rw[qcq hl]
 exact h1
def VGood(L:List Sq)(c0:Sq)(n:Nat)(v:Sq->TS->TS):Prop:=∀d t,Ev L t t->d∈L->d∉t.been->free L t.been<=n->Good L c0 t d->
 Good L c0 (v d t) d/\GLast L c0 (v d t)/\d∈(v d t).been/\∀x∈(v d t).been,x∉t.been->∀k,k<4->bes x k∈L->bes x k∈(v d t).been
def wN(L:List Sq)(c0:Sq):∀n,VGood L c0 n (visT L n)
 |0=>λd t _ hd hn hf _=>by
  have:=nb (L:=L) (b:=t.been) (b':=t.been++[d]) (λx hx=>qaF _ hx) hd hn (qaK _ (by simp))
  omega
 |n+1=>λd t ht hd hn hf hg=>by
  have h1:=in_ev ht hd hn
  have h2:=uD (s:=t) hd hn
  have key:∀j,j<=4->Good L c0 (rnds (visT L n) L d (inT t d) j) d/\GLast L c0 (rnds (visT L n) L d (inT t d) j)/\(∀x∈(rnds (visT L n) L d (inT t d) j).been,x∉(inT t d).been->∀k,k<4->bes x k∈L->bes x k∈(rnds (visT L n) L d (inT t d) j).been)/\∀k,k<j->bes d k∈L->bes d k∈(rnds (visT L n) L d (inT t d) j).been:=by
   intro j
   induction j with
   |zero=>
    intro _
    obtain⟨cov,g1,g2⟩:=hg
    have hb:∀b∈(inT t d).been,b≠d->∀a,qd b a->cov a:=λb hb hne a ha=>by
     rcases qau.1 hb with hb|hb
     ·exact g2 b hb hne a ha
     ·exact absurd (by simpa using hb) hne
    refine⟨⟨cov,g1,hb⟩,⟨d,t.head,cov,?_,hb⟩,λx hx hn=>absurd hx hn,λk hk=>by omega⟩
    show Fol L c0 (t.steps.take t.steps.length) d t.head cov
    rw[qbJ]
    exact g1
   |succ j ih=>
    intro hj
    obtain⟨i1,i2,i3,i4⟩:=ih (by omega)
    have e1:=nQ (iI L n) (c:=d) h1 (by omega) j (by omega)
    show Good L c0 (rndT (visT L n) L d (rnds (visT L n) L d (inT t d) j) j) d/\GLast L c0 (rndT (visT L n) L d (rnds (visT L n) L d (inT t d) j) j)/\(∀x∈(rndT (visT L n) L d (rnds (visT L n) L d (inT t d) j) j).been,x∉(inT t d).been->∀k,k<4->bes x k∈L->bes x k∈(rndT (visT L n) L d (rnds (visT L n) L d (inT t d) j) j).been)/\∀k,k<j+1->bes d k∈L->bes d k∈(rndT (visT L n) L d (rnds (visT L n) L d (inT t d) j) j).been
    have hf:free L (rnds (visT L n) L d (inT t d) j).been<=n:=qbh (gL λy hy=>e1.mem hy) (by omega)
    generalize rnds (visT L n) L d (inT t d) j=u at *
    unfold rndT
    split
    next hc=>
     have e2:=e1.self
     have hj4:j<4:=by omega
     obtain⟨g1,g2,g3,g4,g5,g6⟩:=go_ev e2 hj4
     have hev:Ev L (goT u j) (goT u j):=⟨⟨[],by simp⟩,e2.nd,e2.sub,g6,g3,g4,g5,qaf _⟩
     have hv:=iI L n (bes d j) (goT u j) hev hc.1 hc.2 hf
     obtain⟨v1,v2,v3,v4⟩:=wN L c0 n (bes d j) (goT u j) hev hc.1 hc.2 hf (good_go hj4 e2.hd hc.1 i1)
     have hb:=vi d hj4
     have hsub:∀x∈u.been,x∈(visT L n (bes d j) (goT u j)).been:=λx hx=>hv.1.mem hx
     refine⟨?_,last_go hv.1.la v2,λx hx hnx k hk hbk=>?_,λk hk hbk=>?_⟩
     ·have:=good_go (k:=(j+2)%4) (qbD _ (by omega)) hv.1.hd (by rw[hb];exact hd) v1
      rw[hb]at this
      exact this
     ·by_cases hxu:x∈u.been
      ·exact hsub _ (i3 x hxu hnx k hk hbk)
      ·exact v4 x hx hxu k hk hbk
     ·by_cases hkj:k=j
      ·subst hkj
       exact v3
      ·exact hsub _ (i4 k (by omega) hbk)
    next hc=>
     refine⟨i1,i2,i3,λk hk hbk=>?_⟩
     by_cases hkj:k=j
     ·subst hkj
      exact Decidable.byContradiction λh=>hc ⟨hbk,h⟩
     ·exact i4 k (by omega) hbk
  obtain⟨k1,k2,k3,k4⟩:=key 4 (by omega)
  have e3:=nQ (iI L n) (c:=d) h1 (by omega) 4 (by omega)
  refine⟨k1,k2,e3.mem (qaK _ (by simp)),λx hx hnx k hk hbk=>?_⟩
  show bes x k∈(rnds (visT L n) L d (inT t d) 4).been
  by_cases hxd:x=d
  ·subst hxd
   exact k4 k hk hbk
  ·refine k3 x hx (λe=>?_) k hk hbk
   rcases qau.1 e with e|e
   ·exact hnx e
   ·exact hxd (by simpa using e)
def ev0{L:List Sq}:Ev L ⟨[],[],0,0⟩ ⟨[],[],0,0⟩:=⟨⟨[],rfl⟩,qdf,λx hx=>(by cases hx),(by show 0<4;omega),λa ha=>(by cases ha),λi a b h=>(by simp at h),qaf _,qaf _⟩
def topT(L:List Sq)(c:Sq):TS:=visT L (free L []) c ⟨[],[],0,0⟩
def top_all{L:List Sq}{c:Sq}(hc:c∈L)(hL:Con L):(∀x∈L,x∈(topT L c).been)/\LP L (nmv ((topT L c).steps.take (topT L c).last)) c 0 λ_=>False:=by
 obtain⟨h1,h2,h3,h4⟩:=wN L c (free L []) c ⟨[],[],0,0⟩ ev0 hc (by simp) (qaf _) ⟨λ_=>False,λm hm=>hm,λb hb=>(by cases hb)⟩
 have hev:=(iI L (free L []) c ⟨[],[],0,0⟩ ev0 hc (by simp) (qaf _)).1
 have hall:=con_all hL hev.sub ⟨c,h3⟩ λx hx k hk hb=>h4 x hx (by simp) k hk hb
 refine⟨hall,?_⟩
 obtain⟨p,hd,cov,f1,f2⟩:=h2
 have:=f1 0 ⟨0,by omega,λa ha ha4=>?_⟩
 ·rw[qaL]at this
  exact this
 ·rw[cv0]
  by_cases hp:(a.1,a.2.1)=p
  ·exact .inr ⟨hp,ha4⟩
  ·exact .inl (f2 _ (hall _ ha) hp a ⟨rfl,ha4⟩)
end Tw
end Go.Am
namespace Go.Am
open Sx Go.Proofs Tw
namespace St
abbrev SqD:=Nat×Bool×Nat×Int×Int
def ribL:TB->Nat->Nat->Int->Int->List SqD
 | [],f,t,x,y=>[(f,false,t,x,y)]
 |z :: ws,f,t,x,y=>
  if z=1 then(f,false,t,x,y) :: ribL ws 0 (ex f t) (x+mA (ex f t)) (y+mC (ex f t))
  else if z=2 then(f,true,t,x,y) :: ribL ws 0 (mulT 4 (ex f t)) x y
  else ribL ws (if decide (z=3)=decide (t<4)then 1 else 2) t x y
def fW:∀(ws:TB) (f t:Nat) (x y:Int),(∀z∈ws,1<=z/\z<=4)->(ribL ws f t x y).length=1+nmv ws
 | [],_,_,_,_,_=>rfl
 |z :: ws,f,t,x,y,h=>by
  have hz:=h z qaE
  have ih:=λf t x y=>fW ws f t x y λa ha=>h a (qap _ ha)
  have hn:nmv (z :: ws)=(if z<3 then 1 else 0)+nmv ws:=by
   unfold nmv
   rw[qb6]
   by_cases h3:z<3
   ·simp[h3];omega
   ·simp[h3]
  unfold ribL
  rw[hn]
  split
  ·rw[qaD,ih,qdD (by omega)];omega
  ·split
   ·rw[qaD,ih,qdD (by omega)];omega
   ·rw[ih,qdE (by omega)];omega
def jD:∀(ws:TB) (f t:Nat) (x y:Int) (d:SqD),(ribL ws f t x y)[0]?=some d->d.2.2=(t,x,y)
 | [],f,t,x,y,d,h=>by
  simp only[ribL,qaR,qaq]at h
  subst h;rfl
 |z :: ws,f,t,x,y,d,h=>by
  unfold ribL at h
  split at h
  ·simp only[qaR,qaq]at h
   subst h;rfl
  ·split at h
   ·simp only[qaR,qaq]at h
    subst h;rfl
   ·exact jD ws _ t x y d h
def Nxt(d e:SqD):Prop:=e.2.2.1=(if d.2.1 then mulT 4 (ex d.1 d.2.2.1)else ex d.1 d.2.2.1)/\e.2.2.2.1=(if d.2.1 then d.2.2.2.1 else d.2.2.2.1+mA (ex d.1 d.2.2.1))/\e.2.2.2.2=(if d.2.1 then d.2.2.2.2 else d.2.2.2.2+mC (ex d.1 d.2.2.1))
def mn:∀(ws:TB) (f t:Nat) (x y:Int) (s:Nat) (d e:SqD),(ribL ws f t x y)[s]?=some d->(ribL ws f t x y)[s+1]?=some e->Nxt d e
 | [],f,t,x,y,s,d,e,_,h2=>by simp[ribL]at h2
 |z :: ws,f,t,x,y,s,d,e,h1,h2=>by
  unfold ribL at h1 h2
  split at h1
  next hz=>
   rw[qdD hz]at h2
   rw[qbf]at h2
   cases s with
   |zero=>
    simp only[qaR,qaq]at h1
    have:=jD ws _ _ _ _ e h2
    subst h1
    exact⟨by rw[this];rfl,by rw[this];rfl,by rw[this];rfl⟩
   |succ s=>
    rw[qbf]at h1
    exact mn ws _ _ _ _ s d e h1 h2
  next hz=>
   rw[qdE hz]at h2
   split at h1
   next hz2=>
    rw[qdD hz2]at h2
    rw[qbf]at h2
    cases s with
    |zero=>
     simp only[qaR,qaq]at h1
     have:=jD ws _ _ _ _ e h2
     subst h1
     exact⟨by rw[this];rfl,by rw[this];rfl,by rw[this];rfl⟩
    |succ s=>
     rw[qbf]at h1
     exact mn ws _ _ _ _ s d e h1 h2
   next hz2=>
    rw[qdE hz2]at h2
    exact mn ws _ _ _ _ s d e h1 h2
def dAt(L:List SqD)(s:Nat):SqD:=(L[s]?).getD (0,false,0,0,0)
def mO{L:List SqD}{s:Nat}(h:s<L.length):L[s]?=some (dAt L s):=by
 unfold dAt
 rw[qai h];rfl
def rib_of(ws:TB):Rib (ribL ws 0 0 0 0).length (λs=>(dAt (ribL ws 0 0 0 0) s).1) (λs=>(dAt (ribL ws 0 0 0 0) s).2.1) (λs=>(dAt (ribL ws 0 0 0 0) s).2.2.1) (λs=>(dAt (ribL ws 0 0 0 0) s).2.2.2.1) (λs=>(dAt (ribL ws 0 0 0 0) s).2.2.2.2):=by
 have hpos:0<(ribL ws 0 0 0 0).length:=by
  have:∀(ws:TB) (f t:Nat) (x y:Int),0<(ribL ws f t x y).length:=by
   intro ws
   induction ws with
   |nil=>intro f t x y;simp[ribL]
   |cons z ws ih=>
    intro f t x y
    unfold ribL
    split
    ·simp
    ·split
     ·simp
     ·exact ih _ _ _ _
  exact this _ _ _ _ _
 have h0:=jD ws 0 0 0 0 _ (mO hpos)
 have hn:∀s,s+1<(ribL ws 0 0 0 0).length->Nxt (dAt (ribL ws 0 0 0 0) s) (dAt (ribL ws 0 0 0 0) (s+1)):=λs hs=>mn ws 0 0 0 0 s _ _ (mO (by omega)) (mO hs)
 exact⟨by rw[h0],by rw[h0],by rw[h0],λs hs=>(hn s hs).1,λs hs=>(hn s hs).2.1,λs hs=>(hn s hs).2.2⟩
def ok3_tail{z:Nat}{ws:TB}(h:Ok3 (z :: ws)):Ok3 ws:=λi a b h1 h2=>h (i+1) a b (by simpa using h1) (by simpa using h2)
def rk{z:Nat}{ws:TB}(h:Ok3 (z :: ws))(hz:3<=z):∀a,ws.head? = some a->a<3:=λa ha=>by
 have:=h 0 z a rfl (by cases ws with|nil=>simp at ha|cons b ws=>simpa using ha)
 omega
end St
end Go.Am
namespace Go.Am
open Sx Go.Proofs
namespace St
def unit_c(c:Crs):Cc 99 [.i c.1,.i c.2.1,.i c.2.2] [.i c.1,.i c.2.1]:=by
 refine q99 rfl ?_;unfold f99;simp only[qxh]
 simp(disch:=omega)only[↓qXX]
def order_c{a b:Crs}(h:0<=a.1/\a.1<=1000/\0<=b.1/\b.1<=1000/\0<=a.2.1/\a.2.1<=255/\0<=b.2.1/\b.2.1<=255):∃d:Int,Cc 100 [.i a.1,.i a.2.1,.i b.1,.i b.2.1] [.i d]/\(d<0↔ltC a b=true):=by
 by_cases h1:a.1=b.1
 ·refine⟨a.2.1 - b.2.1,?_,by simp only[ltC,qbs,qaa,qdA];omega⟩
  refine q100 rfl ?_;unfold f100;simp only[qxh]
  simp(disch:=omega)only[↓qXX]
 ·refine⟨a.1 - b.1,?_,by simp only[ltC,qbs,qaa,qdA];omega⟩
  refine q100 rfl ?_;unfold f100;simp only[qxh]
  simp(disch:=omega)only[↓qXX]
def okU(w:Nat)(c:Crs):Prop:=(∃u e:Nat,c.1=Int.ofNat u/\c.2.1=Int.ofNat e/\(u,e)∈jN w 1)/\1<=c.2.2/\c.2.2<=3
def okU.rng{w:Nat}(hw:w<=60){c:Crs}(h:okU w c):0<=c.1/\c.1<=1000/\0<=c.2.1/\c.2.1<=2:=by
 obtain⟨⟨u,e,h1,h2,h3⟩,_⟩:=h
 obtain⟨a1,a2,_⟩:=wL h3
 rw[h1,h2]
 refine⟨qat _,?_,qat _,?_⟩
 ·show(u:Int)<=1000;omega
 ·show(e:Int)<=2;omega
def check_c{w:Nat}(hw:1<=w/\w<=60){h:HL}{x:Value}{l:TD}(hl:LsH h x 3 encC l)(hk:∀c∈l,okU w c)(hasc:l.Pairwise λa b=>ltC a b=true)(hn:l.length<=1000) :
  aw cc ab 69 [.i (.ofNat w),.i 1,.v x] (absH aa h) [.i 0] (absH aa h):=by
 have hSh:Sh w 1:=⟨hw.1,hw.2,rfl⟩
 have hb:l.all isK=true:=qag.2 λc hc=>by
  have:=(hk c hc).2
  unfold isK
  rw[qdC this.1,qdC this.2];rfl
 obtain⟨rs,h',h3,rfl,rfl⟩:=x69 (K:=λrs h'=>rs=[.i 0]/\h'=h) (H:=h) (glsI (glsI (glsV hl.good gls0))) (by
  unfold f69;simp only[qxh]
  refine p_x ?_
  refine ac (kU hw) ?_
  refine p_x ?_
  refine ah (xd hl (by omega)) ?_
  rw[hb]
  simp(disch:=omega)only[↓qXX,qaI]
  refine bI hl ?_
  refine dg l.length (λj=>True) rfl (qaO _) trivial ?_
  intro j hj _ self hself
  refine p_x ?_
  by_cases hlt:j<l.length
  ·rw[bf hlt]
   refine p_x ?_
   obtain⟨c,hc⟩:=aP hlt
   have hmem:=qab hc
   obtain⟨u,e,h1,h2,h3⟩:=(hk c hmem).1
   obtain⟨a1,a2,n,a3,a4⟩:=wL h3
   have hnm:=name_c hSh a1 a2 a3
   rw[qa5 (by omega),←h1,←h2]at hnm
   refine bQ hl rfl hc ?_
   unfold encC
   refine p_x ?_
   refine ac hnm ?_
   repeat (first|simp(disch:=omega)only[↓qXX]|refine ac (unit_c c) ?_)
   simp(disch:=omega)only[↓qXX,qaI]
   rw[bg (by omega)]
   exact hself hlt trivial
  ·obtain rfl:j=l.length:=by omega
   rw[bj (qaf _)]
   refine p_x ?_
   refine dg (j0:=1) (max 1 l.length) (λj=>1<=j) rfl (qcO _ _) (qaf _) ?_
   intro j hj' h1 self hself
   refine p_x ?_
   refine bI hl ?_
   by_cases hlt:j<l.length
   ·rw[bf hlt]
    refine p_x ?_
    rw[oB h1 (by omega)]
    obtain⟨c,hc⟩:=aP (l:=l) (i:=j - 1) (by omega)
    obtain⟨d,hd⟩:=aP hlt
    have hc1:=(hk c (qab hc)).rng hw.2
    have hd1:=(hk d (qab hd)).rng hw.2
    refine bQ hl rfl hc ?_
    unfold encC
    repeat (first|simp(disch:=omega)only[↓qXX]|refine ac (unit_c c) ?_)
    refine bQ hl rfl hd ?_
    unfold encC
    repeat (first|simp(disch:=omega)only[↓qXX]|refine ac (unit_c d) ?_)
    obtain⟨o,ho,hoi⟩:=order_c (a:=c) (b:=d) (by omega)
    refine ac ho ?_
    refine p_x ?_
    have hlo:o<0:=hoi.2 (by
     have hlc:=av hc
     rw[qai hlc]at hc
     rw[qai hlt]at hd
     have:=qbK.1 hasc (j - 1) j hlc hlt (by omega)
     rw[qae hc,qae hd]at this
     exact this)
    refine p_x ?_
    rw[bg (by omega)]
    exact hself (by omega) (by omega)
   ·rw[bj (by omega)]
    simp(disch:=omega)only[↓qXX]
    trivial)
 exact h3
end St
end Go.Am
namespace Go.Am
open Sx Go.Proofs Tw
namespace St
def kd(up:Bool):Int:=if up then 2 else 1
def outW:TB->Nat->Bool->List Crs
 | [],_,_=>[]
 |z :: ws,s,up=>
  if z=1 then outW ws (s+1) up
  else if z=2 then(Int.ofNat (4*s+1),0,kd up) :: outW ws (s+1) (!up)
  else if decide (z=3)=up then(Int.ofNat (4*s),2,kd up) :: (Int.ofNat (4*s+1),2,kd up) :: outW ws s (!up)
  else(Int.ofNat (4*s),1,kd up) :: (Int.ofNat (4*s+2),1,kd up) :: outW ws s (!up)
def oy(s f:Nat):List Ku:=if f=1 then [(Int.ofNat (4*s),2),(Int.ofNat (4*s+1),2)]else if f=2 then [(Int.ofNat (4*s),1),(Int.ofNat (4*s+2),1)]else []
def keyD(s:Nat)(d:SqD):List Ku:=oy s d.1++if d.2.1 then [(Int.ofNat (4*s+1),0)]else []
def ky:List SqD->Nat->List Ku
 | [],_=>[]
 |d :: L,s=>keyD s d++ky L (s+1)
def up_b{t:Nat}(ht:t<8):decide (mulT 4 t<4) = !decide (t<4):=by
 rcases t8 ht with rfl|rfl|rfl|rfl|rfl|rfl|rfl|rfl<;>rfl
def up_f{f t:Nat}(ht:t<8)(hf:f=1∨f=2):decide (ex f t<4) = !decide (t<4):=by
 rcases hf with rfl|rfl<;>rcases t8 ht with rfl|rfl|rfl|rfl|rfl|rfl|rfl|rfl<;>rfl
def ex0(t:Nat):ex 0 t=t:=rfl
def vW:∀(ws:TB),(∀z∈ws,1<=z/\z<=4)->Ok3 ws->∀(s f t:Nat) (x y:Int),t<8->(f=0∨(f=1∨f=2)/\∀z,ws.head? = some z->z<3)->
  oy s f++(outW ws s (decide (ex f t<4))).map cK=ky (ribL ws f t x y) s
 | [],_,_,s,f,t,x,y,ht,hf=>by simp[outW,ribL,ky,keyD]
 |z :: ws,hok,h3,s,f,t,x,y,ht,hf=>by
  have hz:=hok z qaE
  have hex:=jX (f:=f) ht
  have ih:=vW ws (λb hb=>hok b (qap _ hb)) (ok3_tail h3)
  have z4:z=1∨z=2∨z=3∨z=4:=by omega
  rcases z4 with rfl|rfl|hz3
  ·have h1:=ih (s+1) 0 (ex f t) (x+mA (ex f t)) (y+mC (ex f t)) hex (.inl rfl)
   simp only[outW,ribL,if_true,ky,keyD,qao,if_false,qa6]
   rw[←h1,ex0]
   simp[oy]
  ·have h1:=ih (s+1) 0 (mulT 4 (ex f t)) x y kE (.inl rfl)
   simp only[outW,ribL,Nat.reduceEqDiff,if_true,if_false,ky,keyD,qas]
   rw[←h1,ex0,up_b hex]
   simp[oy,cK]
  ·have h0:f=0:=by
    rcases hf with hf|⟨_,hf⟩
    ·exact hf
    ·have:=hf z rfl
     omega
   subst h0
   rw[ex0]
   have hf':(if decide (z=3)=decide (t<4)then 1 else 2)=1∨(if decide (z=3)=decide (t<4)then 1 else 2)=2:=by split<;>simp
   have h1:=ih s (if decide (z=3)=decide (t<4)then 1 else 2) t x y ht (.inr ⟨hf',rk h3 (by omega)⟩)
   rw[up_f ht hf']at h1
   have hr:ribL (z :: ws) 0 t x y=ribL ws (if decide (z=3)=decide (t<4)then 1 else 2) t x y:=by
    conv=>lhs;unfold ribL
    rw[qdE (by omega),qdE (by omega)]
   have ho:outW (z :: ws) s (decide (t<4))=if decide (z=3)=decide (t<4)then(Int.ofNat (4*s),2,kd (decide (t<4))) :: (Int.ofNat (4*s+1),2,kd (decide (t<4))) :: outW ws s (!decide (t<4))else(Int.ofNat (4*s),1,kd (decide (t<4))) :: (Int.ofNat (4*s+2),1,kd (decide (t<4))) :: outW ws s (!decide (t<4)):=by
    conv=>lhs;unfold outW
    rw[qdE (by omega),qdE (by omega)]
   rw[hr,←h1,ho]
   by_cases hc:decide (z=3)=decide (t<4)
   ·rw[qdD hc,qdD hc]
    simp[oy,cK]
   ·rw[qdE hc,qdE hc]
    simp[oy,cK]
def jv:∀ {L:List SqD} {s0:Nat} {k:Ku},k∈ky L s0↔∃i d,L[i]?=some d/\k∈keyD (s0+i) d
 | [],s0,k=>by simp[ky]
 |d :: L,s0,k=>by
  unfold ky
  rw[qau,jv (L:=L)]
  constructor
  ·rintro(h|⟨i,e,h1,h2⟩)
   ·exact⟨0,d,rfl,h⟩
   ·exact⟨i+1,e,by simpa using h1,by rw[show s0+(i+1)=s0+1+i by omega];exact h2⟩
  ·rintro⟨i,e,h1,h2⟩
   cases i with
   |zero=>
    simp only[qaR,qaq]at h1
    subst h1
    exact .inl h2
   |succ i=>exact .inr ⟨i,e,by simpa using h1,by rw[show s0+1+i=s0+(i+1)by omega];exact h2⟩
def kw{s:Nat}{d:SqD}{u:Nat}{e:Int}:((Int.ofNat u,e):Ku)∈keyD s d↔(d.1=1/\e=2/\(u=4*s∨u=4*s+1))∨(d.1=2/\e=1/\(u=4*s∨u=4*s+2))∨(d.2.1=true/\e=0/\u=4*s+1):=by
 have hi:∀a b:Nat,(Int.ofNat a=Int.ofNat b)↔a=b:=λa b=>⟨λh=>qbP h,λh=>by rw[h]⟩
 unfold keyD oy
 by_cases h1:d.1=1
 ·cases hb:d.2.1<;>simp[h1,hi]<;>omega
 ·by_cases h2:d.1=2
  ·cases hb:d.2.1<;>simp[h2,hi]<;>omega
  ·cases hb:d.2.1<;>simp[h1,h2,hi]<;>omega
def key_sq{s:Nat}{d:SqD}{k:Ku}(h:k∈keyD s d):∃u:Nat,k.1=Int.ofNat u/\u / 4=s:=by
 unfold keyD oy at h
 rw[qau]at h
 rcases h with h|h
 ·split at h
  ·simp only[qal,qbx,or_false]at h
   rcases h with rfl|rfl
   ·exact⟨_,rfl,by omega⟩
   ·exact⟨_,rfl,by omega⟩
  ·split at h
   ·simp only[qal,qbx,or_false]at h
    rcases h with rfl|rfl
    ·exact⟨_,rfl,by omega⟩
    ·exact⟨_,rfl,by omega⟩
   ·cases h
 ·split at h
  ·simp only[qam]at h
   subst h
   exact⟨_,rfl,by omega⟩
  ·cases h
def keyD_nd(s:Nat)(d:SqD):(keyD s d).Nodup:=by
 have hi:∀a b:Nat,(Int.ofNat a=Int.ofNat b)↔a=b:=λa b=>⟨λh=>qbP h,λh=>by rw[h]⟩
 unfold keyD oy
 by_cases h1:d.1=1
 ·cases hb:d.2.1<;>simp[h1,hi]<;>omega
 ·by_cases h2:d.1=2
  ·cases hb:d.2.1<;>simp[h2,hi]<;>omega
  ·cases hb:d.2.1<;>simp[h1,h2]
def vJ:∀(L:List SqD) (s:Nat),(ky L s).Nodup
 | [],_=>qdf
 |d :: L,s=>by
  unfold ky
  rw[qb2]
  refine⟨keyD_nd s d,vJ L (s+1),λa ha b hb e=>?_⟩
  subst e
  obtain⟨u,h1,h2⟩:=key_sq ha
  obtain⟨i,e,_,h3⟩:=jv.1 hb
  obtain⟨v,h4,h5⟩:=key_sq h3
  rw[h1]at h4
  have:=qbP h4
  omega
def crof{ws:TB}{l:TD}(hl:∀k,k∈l.map cK↔k∈ky (ribL ws 0 0 0 0) 0):CrOf (ribL ws 0 0 0 0).length l (λs=>(dAt (ribL ws 0 0 0 0) s).1) (λs=>(dAt (ribL ws 0 0 0 0) s).2.1):=by
 have key:∀(s u e:Nat),s<(ribL ws 0 0 0 0).length->u / 4=s->isCr l u e=decide (((Int.ofNat u,Int.ofNat e):Ku)∈keyD s (dAt (ribL ws 0 0 0 0) s)):=by
  intro s u e hs hu
  unfold isCr
  rw[decide_eq_decide,hl,jv]
  constructor
  ·rintro⟨i,d,h1,h2⟩
   obtain⟨v,h3,h4⟩:=key_sq h2
   have h5:u=v:=qbP h3
   have hi:i=s:=by omega
   subst hi
   rw[mO hs]at h1
   cases h1
   rwa [qaL]at h2
  ·intro h
   exact⟨s,_,mO hs,by rwa [qaL]⟩
 refine⟨λs hs=>?_,λs hs=>?_,λs hs=>?_,λs hs=>?_,λs hs=>?_⟩
 ·rw[key s _ _ hs (by omega),decide_eq_decide,kw]
  constructor
  ·rintro(h|h|h)
   ·exact h.1
   ·exact absurd h.2.1 (by decide)
   ·exact absurd h.2.1 (by decide)
  ·exact λh=>.inl ⟨h,rfl,.inl rfl⟩
 ·rw[key s _ _ hs (by omega),decide_eq_decide,kw]
  constructor
  ·rintro(h|h|h)
   ·exact h.1
   ·exact absurd h.2.1 (by decide)
   ·exact absurd h.2.1 (by decide)
  ·exact λh=>.inl ⟨h,rfl,.inr rfl⟩
 ·rw[key s _ _ hs (by omega),decide_eq_decide,kw]
  constructor
  ·rintro(h|h|h)
   ·exact absurd h.2.1 (by decide)
   ·exact h.1
   ·exact absurd h.2.1 (by decide)
  ·exact λh=>.inr (.inl ⟨h,rfl,.inl rfl⟩)
 ·rw[key s _ _ hs (by omega),decide_eq_decide,kw]
  constructor
  ·rintro(h|h|h)
   ·exact absurd h.2.1 (by decide)
   ·exact h.1
   ·exact absurd h.2.1 (by decide)
  ·exact λh=>.inr (.inl ⟨h,rfl,.inr rfl⟩)
 ·rw[key s _ _ (by omega) (by omega)]
  cases hb:(dAt (ribL ws 0 0 0 0) s).2.1 with
  |true=>
   rw[qdA,kw]
   exact .inr (.inr ⟨hb,rfl,rfl⟩)
  |false=>
   rw[decide_eq_false_iff_not,kw]
   rintro(h|h|h)
   ·exact absurd h.2.1 (by decide)
   ·exact absurd h.2.1 (by decide)
   ·rw[hb]at h
    exact absurd h.1 (by simp)
end St
namespace St
def jE:∀(ws:TB) (f t:Nat) (x y:Int) (i:Nat) (d:SqD),(ribL ws f t x y)[i]?=some d->d.2.1=true->i+1<(ribL ws f t x y).length
 | [],f,t,x,y,i,d,h,hb=>by
  have hi:=av h
  simp only[ribL,qaD,qbA]at hi
  obtain rfl:i=0:=by omega
  simp only[ribL,qaR,qaq]at h
  subst h
  cases hb
 |z :: ws,f,t,x,y,i,d,h,hb=>by
  have hpos:∀(ws:TB) (f t:Nat) (x y:Int),0<(ribL ws f t x y).length:=by
   intro ws
   induction ws with
   |nil=>intro f t x y;simp[ribL]
   |cons z ws ih=>
    intro f t x y
    unfold ribL
    split
    ·simp
    ·split
     ·simp
     ·exact ih _ _ _ _
  unfold ribL at h ⊢
  split at h
  next hz=>
   rw[qdD hz,qaD]
   cases i with
   |zero=>have:=hpos ws 0 (ex f t) (x+mA (ex f t)) (y+mC (ex f t));omega
   |succ i=>
    rw[qbf]at h
    have:=jE ws _ _ _ _ i d h hb
    omega
  next hz=>
   rw[qdE hz]
   split at h
   next hz2=>
    rw[qdD hz2,qaD]
    cases i with
    |zero=>have:=hpos ws 0 (mulT 4 (ex f t)) x y;omega
    |succ i=>
     rw[qbf]at h
     have:=jE ws _ _ _ _ i d h hb
     omega
   next hz2=>
    rw[qdE hz2]
    exact jE ws _ _ _ _ i d h hb
def jA:∀(ws:TB) (s:Nat) (up:Bool) (c:Crs),c∈outW ws s up->1<=c.2.2/\c.2.2<=3
 | [],_,_,c,h=>by cases h
 |z :: ws,s,up,c,h=>by
  have hk:∀up,1<=kd up/\kd up<=3:=λup=>by cases up<;>simp[kd]
  unfold outW at h
  split at h
  ·exact jA ws _ _ c h
  ·split at h
   ·rcases qal.1 h with rfl|h
    ·exact hk _
    ·exact jA ws _ _ c h
   ·split at h
    ·rcases qal.1 h with rfl|h
     ·exact hk _
     ·rcases qal.1 h with rfl|h
      ·exact hk _
      ·exact jA ws _ _ c h
    ·rcases qal.1 h with rfl|h
     ·exact hk _
     ·rcases qal.1 h with rfl|h
      ·exact hk _
      ·exact jA ws _ _ c h
def key_un{w i:Nat}{d:SqD}{k:Ku}(h:k∈keyD i d)(hi:i<w)(hl:d.2.1=true->i+1<w):∃u e:Nat,k.1=Int.ofNat u/\k.2=Int.ofNat e/\(u,e)∈jN w 1:=by
 have un:∀q e p,q<4->e<3->nbr w 1 (4*i+q) e=some (4*i+p)->q<p->(4*i+q,e)∈jN w 1:=λq e p hq he hn hp=>vQ (by omega) he hn (by omega)
 unfold keyD oy at h
 rw[qau]at h
 rcases h with h|h
 ·split at h
  ·simp only[qal,qbx,or_false]at h
   rcases h with rfl|rfl
   ·exact⟨4*i+0,2,rfl,rfl,un 0 2 3 (by omega) (by omega) (by rw[eQ hi (by omega)];rfl) (by omega)⟩
   ·exact⟨4*i+1,2,rfl,rfl,un 1 2 2 (by omega) (by omega) (by rw[eQ hi (by omega)];rfl) (by omega)⟩
  ·split at h
   ·simp only[qal,qbx,or_false]at h
    rcases h with rfl|rfl
    ·exact⟨4*i+0,1,rfl,rfl,un 0 1 1 (by omega) (by omega) (by rw[eQ hi (by omega)];rfl) (by omega)⟩
    ·exact⟨4*i+2,1,rfl,rfl,un 2 1 3 (by omega) (by omega) (by rw[eQ hi (by omega)];rfl) (by omega)⟩
   ·cases h
 ·split at h
  next hb=>
   simp only[qam]at h
   subst h
   have hw:=hl hb
   refine⟨4*i+1,0,rfl,rfl,vQ (by omega) (by omega) (n:=4*(i+1)+3) ?_ (by omega)⟩
   rw[eQ hi (by omega)]
   exact qdD hw
  ·cases h
def nJ{ws:TB}(hok:∀z∈ws,1<=z/\z<=4)(h3:Ok3 ws):(outW ws 0 true).map cK=ky (ribL ws 0 0 0 0) 0:=by
 have:=vW ws hok h3 0 0 0 0 0 (by omega) (.inl rfl)
 exact this
def out_ok{ws:TB}(hok:∀z∈ws,1<=z/\z<=4)(h3:Ok3 ws){c:Crs}(hc:c∈outW ws 0 true):okU (ribL ws 0 0 0 0).length c:=by
 have hm:cK c∈ky (ribL ws 0 0 0 0) 0:=by
  rw[←nJ hok h3]
  exact qco hc
 obtain⟨i,d,h1,h2⟩:=jv.1 hm
 rw[qaL]at h2
 exact⟨key_un h2 (av h1) (jE ws _ _ _ _ i d h1),jA ws _ _ c hc⟩
def pat_ok{ws:TB}(hok:∀z∈ws,1<=z/\z<=4)(h3:Ok3 ws){l:TD}(hp:l.Perm (outW ws 0 true)) :
  (∀c∈l,okU (ribL ws 0 0 0 0).length c)/\(l.map cK).Nodup/\CrOf (ribL ws 0 0 0 0).length l (λs=>(dAt (ribL ws 0 0 0 0) s).1) (λs=>(dAt (ribL ws 0 0 0 0) s).2.1):=by
 refine⟨λc hc=>out_ok hok h3 (hp.mem_iff.1 hc),?_,crof λk=>?_⟩
 ·rw[(hp.map cK).nodup_iff,nJ hok h3]
  exact vJ _ _
 ·rw[(hp.map cK).mem_iff,nJ hok h3]
end St
end Go.Am
namespace Go.Am
open Sx Go.Proofs Go.Shelf Go.Lib Go.Sort
section
variable [Val]
def wr_below [Glo]{C:Cfg}{base:Nat}{mu:HMap}{H:Ts}{w w':World}(h:WR C base mu H w)(hb:Go.RowKit.Below w.heap.size w w')(hd:w.drawn<=w'.drawn):WR C base mu H w'/\Evo H mu w H mu w':=by
 refine⟨⟨λid o h1 h2=>?_,h.inj,h.own,h.ro,h.dom,λg vs hg=>?_⟩,⟨qaf _,λ_ _=>rfl,hb.size,λb hb' _=>hb.block b hb',λb h=>.inr h,hb.os,hb.tape,hb.output,hd⟩⟩
 ·obtain⟨p,h3,h4⟩:=h.obj id o h1 h2
  exact⟨p,h3,by rw[hb.block _ (gP h2 h4)];exact h4⟩
 ·obtain⟨h1,h2,c,e,fr,h3,h4⟩:=h.glob g vs hg
  exact⟨h1,h2,c,e,fr,by rw[hb.block _ (qav.1 h3).1];exact h3,h4⟩
def xQ{W w':World}(h1:w'.os=W.os)(h2:w'.tape=W.tape)(h3:w'.output=W.output)(h4:W.drawn<=w'.drawn)(h5:W.heap.size<=w'.heap.size)(h6:∀b,b<W.heap.size->w'.heap[b]?=W.heap[b]?):∃q os',w'=grow (W.drewN q) os':=by
 refine⟨w'.drawn - W.drawn,w'.heap.extract W.heap.size w'.heap.size,?_⟩
 have e:w'.heap=W.heap++w'.heap.extract W.heap.size w'.heap.size:=by
  apply qcG
  intro i
  rw[Array.getElem?_append]
  split
  next hi=>exact h6 i hi
  next hi=>
   rw[Array.getElem?_extract]
   split
   ·congr 1;omega
   ·rw[qbc (by omega)]
 obtain⟨hp,tp,dr,os,out⟩:=w'
 simp only at h1 h2 h3 h4 e
 subst h1 h2 h3
 unfold grow World.drewN
 simp only
 rw[←e,show W.drawn+(dr - W.drawn)=dr by omega]
def vC{α:Type} [Inhabited α]{enc:α->Tl}{e:Nat}(hk:∀x,(enc x).length=e){l:List α}{t:Nat}(ht:t<l.length*e):(l.flatMap enc)[t]?=some (Go.Sort.flatK enc e l.toArray)[t]!:=by
 rw[Go.Sort.get_flatK enc e l.toArray t (by simpa using ht)]
 have he:0<e:=by
  rcases qcN e with h|h
  ·subst h;simp at ht
  ·exact h
 have hq:t / e<l.length:=Nat.div_lt_of_lt_mul (by rw[Nat.mul_comm];exact ht)
 have h1:=kg (e:=e) (enc:=enc) (l:=l) (λa _=>hk a) (i:=t / e) (a:=l[t / e]) (qai hq)
 have hr:=qbD t he
 have e1:t=t / e*e+t%e:=by rw[Nat.mul_comm];exact(Nat.div_add_mod t e).symm
 have h2:((l.flatMap enc).drop (t / e*e))[t%e]?=(enc l[t / e])[t%e]?:=by
  rw[←h1,qaT,qdD hr]
 rw[qaX,←e1]at h2
 rw[h2]
 have h3:(l.toArray)[t / e]! = l[t / e]:=by simp[hq]
 rw[h3,qai (by rw[hk];exact hr),List.getElem!_eq_getElem?_getD,qai (by rw[hk];exact hr)]
 rfl
def holds_of{α:Type} [Inhabited α]{enc:α->Tl}{e:Nat}(hk:∀x,(enc x).length=e)(hs:∀x,∀v∈enc x,Am.scalar v=true) [Glo]{mu:HMap}{p:Pl}{w:World}{l:List α}(hr:objR mu p w.heap[p.b]? (.cells (l.flatMap enc) e true)):HoldsK enc e w p.b p.o l.toArray:=by
 obtain⟨_,_,_,c,t,fr,h4,h5,h6,h7⟩:=hr
 obtain rfl:=h6 rfl
 intro j hj
 rw[Go.Sort.size_flatK]at hj
 have h1:=vC (enc:=enc) hk (l:=l) (t:=j) (by simpa using hj)
 obtain⟨v',h8,h9⟩:=h7 j _ h1
 have hsc:Am.scalar (Go.Sort.flatK enc e l.toArray)[j]! = true:=by
  have hm:=qab h1
  obtain⟨a,_,ha⟩:=qbI.1 hm
  exact hs a _ ha
 have:=bq hsc h9
 subst this
 exact⟨by simp[World.cell?,h4,h8],by simp[World.frozen?,h4]⟩
def xM{C:Cfg}{base:Nat}{mu:HMap}{H:Ts}{w:World} [Glo](hW:WR C base mu H w){α:Type} [Inhabited α]{enc:α->Tl}{e:Nat}(hk:∀x,(enc x).length=e)(hs:∀x,∀v∈enc x,Am.scalar v=true){id:Nat}{p:Pl}{l l':List α}
  (hid:H[id]?=some (.cells (l.flatMap enc) e true)) (hp:mu id=some p) (hl:l'.length=l.length) (n:Nat) (os:Array Obj) :
  WR C base mu (H.set id (.cells (l'.flatMap enc) e true)) (sortWorldK enc e w p.b p.o n l'.toArray os)/\Evo H mu w (H.set id (.cells (l'.flatMap enc) e true)) mu (sortWorldK enc e w p.b p.o n l'.toArray os):=by
 obtain⟨p',hp',hr⟩:=hW.obj id _ hid rfl
 rw[hp]at hp'
 cases hp'
 obtain⟨h1,h2,h3,c,t,fr,h4,h5,h6,h7⟩:=hr
 have hll:(l'.flatMap enc).length=l'.length*e:=aD λa _=>hk a
 have hl0:(l.flatMap enc).length=l.length*e:=aD λa _=>hk a
 have hset:=hW.set (w':=Go.Sort.putRowK enc e (Go.Sort.ahead w n) p.b p.o l'.toArray) (x:=.cells (Go.Sort.putCells (λv:Value=>v) p.o (Go.Sort.flatK enc e l'.toArray) c) t fr) hid rfl hp (by
   apply qcG
   intro i
   show(w.heap.modify p.b _)[i]?=_
   rw[qcS,qbo]
   split
   next hi=>
    subst hi
    rw[h4,qdD (qav.1 h4).1]
    rfl
   ·rfl) rfl rfl rfl (.cells (l'.flatMap enc) e true) (λ_=>rfl) ⟨h1,by rw[hll,hl,←hl0];exact h2,by
    rw[qag]
    intro v hv
    obtain⟨a,_,ha⟩:=qbI.1 hv
    exact ej (hs a v ha),_,t,fr,rfl,by simp[Go.Sort.putCells,h5],h6,λi v hv=>by
    have hi:i<l'.length*e:=by rw[←hll];exact(qaP.1 hv).1
    have hF:=vC (enc:=enc) hk (l:=l') hi
    rw[hv]at hF
    obtain⟨u,hu⟩ : ∃u,c[p.o+i]?=some u:=⟨c[p.o+i]'(by rw[h5];rw[hl0]at h2;rw[hl]at hi;omega),qbp _⟩
    refine⟨v,?_,?_⟩
    ·simp only[Go.Sort.putCells,Array.getElem?_mapIdx,hu,qaC]
     rw[qdD ⟨by omega,by rw[Go.Sort.size_flatK];simpa using hi⟩,show p.o+i - p.o=i by omega,←qae hF]
    ·obtain⟨a,_,ha⟩:=qbI.1 (qab hv)
     exact .scalar (hs a v ha)⟩ (Nat.le_add_right _ _)
 obtain⟨a1,a2⟩:=hset
 obtain⟨b1,b2⟩:=wr_below (w':=sortWorldK enc e w p.b p.o n l'.toArray os) a1 ⟨rfl,rfl,rfl,by unfold sortWorldK grow;simp,λk hk=>by
  unfold sortWorldK grow
  simp only
  rw[qcz hk]⟩ (qaf _)
 exact⟨b1,a2.trans b2⟩
def cmp_lays{C:Cfg}(hG:∀g vs,C.G g=some vs->vs.all gfl=true){α:Type} [Inhabited α]{enc:α->Tl}{e:Nat}{cf:α->α->Int}{g:TN}(hs:∀x,∀v∈enc x,Am.scalar v=true)
  (hc:∀x y,cM C g [.agg ⟨enc x⟩,.agg ⟨enc y⟩] [] (.int .i64 (cf x y)) []) [glo:Glo] {base:Nat} {mu:HMap} {H:Ts} {w:World} (hW:WR C base mu H w) {blk:Nat} (hblk:base<=blk) (off n:Nat):CmpLays C.P g #[] enc e cf blk off n w:=by
 intro m os dk _ x y cs
 have hsame:∀b t,b<base->w.heap[b]?=some t->(sortWorldK enc e w blk off m dk os).heap[b]?=some t:=λb t hb' ht=>by
  unfold sortWorldK grow
  simp only
  rw[qcz (by rw[show(Go.Sort.putRowK enc e (Go.Sort.ahead w m) blk off dk).heap.size=w.heap.size from Go.Sort.size_putRow _ _ _ _ _];exact(qav.1 ht).1)]
  show(w.heap.modify blk _)[b]?=_
  rw[qcS,qdE (by omega)]
  exact ht
 generalize sortWorldK enc e w blk off m dk os=W at *
 have hW0:WR C W.heap.size (λ_=>none) [] W:=
  ⟨λid o h=>by simp at h,λi j oi oj pi pj h=>by simp at h,λi o p h=>by simp at h,λi o p h=>by simp at h,λ_ _=>rfl,λg vs hg=>by
   obtain⟨h1,h2,c,t,fr,h3,h4⟩:=hW.glob g vs hg
   have h5:=hsame _ _ h1 h3
   exact⟨(qav.1 h5).1,h2,c,t,fr,h5,me (hG g vs hg) h4⟩⟩
 have hag:∀x:α,VR noL (λ_=>none) (.agg ⟨enc x⟩) (.agg ⟨enc x⟩):=λx=>.agg rfl λi u v hu hv=>by
  rw[hu]at hv
  cases hv
  exact .scalar (hs x u (qab (by simpa using hu)))
 obtain⟨v,mu',w',a1,a2,a3,a4,fr,b1,b2,b3⟩:=hc x y glo W.heap.size (λ_=>none) W #[.agg (enc x).toArray,.agg (enc y).toArray] (qaf _) (VRs.cons (hag x) (VRs.cons (hag y) .nil)) hW0 cs
 rw[show(#[Value.agg (enc x).toArray,Value.agg (enc y).toArray] ++ #[]) = #[Value.agg (enc x).toArray,Value.agg (enc y).toArray]by simp]
 exact⟨.returned v,w',fr,⟨by rw[bq rfl a1],xQ a3.os a3.tape a3.output a3.dr a3.size λb hb=>a3.keep b hb no_own⟩,b1,b2,b3⟩
def srt{α:Type} [Inhabited α](cf:α->α->Int)(l:List α):List α:=(pdq (ltOf cf) l.toArray 0 l.length (Lib.bitLen l.length) true true).toList
def tV{α:Type} [Inhabited α]{cf:α->α->Int}(hO:SWO (ltOf cf))(l:List α):PermIn 0 l.length l.toArray (srt cf l).toArray/\SortedIn (ltOf cf) 0 l.length (srt cf l).toArray:=by
 have h:=pdq_sorts (ltOf cf) hO l.toArray 0 l.length (Lib.bitLen l.length) true true (qaO _) (by simp) (Or.inl rfl)
 unfold srt
 simpa using h
def wD{α:Type} [Inhabited α]{cf:α->α->Int}(hO:SWO (ltOf cf))(l:List α):(srt cf l).Perm l:=by
 have h:=(tV hO l).1.2.2
 have hl:(srt cf l).length=l.length:=by
  have:=(tV hO l).1.1
  simpa using this
 simpa[List.extract_eq_take_drop,hl,qaS]using h
def wC{α:Type} [Inhabited α]{cf:α->α->Int}(hO:SWO (ltOf cf))(l:List α):(srt cf l).Pairwise λx y=>ltOf cf y x=false:=by
 have hl:(srt cf l).length=l.length:=by
  have:=(tV hO l).1.1
  simpa using this
 rw[qbK]
 intro i j hi hj hij
 have h:=(tV hO l).2 i j (qaO _) hij (by omega)
 simpa[hi,hj]using h
def nY{C:Cfg}(hG:∀g vs,C.G g=some vs->vs.all gfl=true){ρ:Ren}(L:SlLaysF0.n6 C.P ρ){α:Type} [Inhabited α]{enc:α->Tl}{e:Nat}(aE:∀w,(isAgg (ρ.t 24)).run C.P w = .ok true w)(zE:∀w,(Go.sizeOf (ρ.t 24)).run C.P w = .ok e w)
  (hk:∀x,(enc x).length=e) (hs:∀x,∀v∈enc x,Am.scalar v=true) {cf:α->α->Int} (hO:SWO (ltOf cf)) {g:TN} (eg:∀args w,(callFunc g args).run C.P w = .ok (.enter g args) w)
  (hc:∀x y,cM C g [.agg ⟨enc x⟩,.agg ⟨enc y⟩] [] (.int .i64 (cf x y)) []) {H:Ts} {id n cx:Nat} {l:List α} (hid:H[id]?=some (.cells (l.flatMap enc) e true)) (hn:n=l.length) (h0:0<n) (hl:n<4611686018427387904) :
  cM C (ρ.f 6) [.slice (some ⟨id,0,tag e⟩) n cx,.func (.func g) ⟨[]⟩ ⟨[]⟩] H (.tuple #[]) (H.set id (.cells ((srt cf l).flatMap enc) e true)):=by
 subst hn
 intro glo base mu w args' hb hargs hW cs
 obtain⟨v1,vs1,h1,h2,h3⟩:=hargs.uncons
 obtain⟨v2,vs2,rfl,h5,h6⟩:=h3.uncons
 obtain rfl:=h6.unnil
 have hargs':args' = #[v1,v2]:=qa7.1 h1
 subst hargs'
 obtain⟨p,cap,hp,rfl⟩ : ∃p cap,mu id=some p/\v1 = .slice (some ⟨p.b,p.o,none⟩) l.length cap:=by
  clear hid hl
  generalize l.length=N at *
  cases h2 with
  |scalar h=>simp[Am.scalar]at h
  |hslice h hr hl' hx=>exact⟨_,_,h,rfl⟩
  |hslice0 hx=>omega
 obtain⟨a',b',rfl,ha,hb'⟩ : ∃a' b',v2 = .func (.func g) a' b'/\a'.size=0/\b'.size=0:=by
  cases h5 with
  |scalar h=>simp[Am.scalar]at h
  |func hf ha hb _ _=>exact⟨_,_,rfl,ha.symm,hb.symm⟩
 obtain rfl:=qcR ha
 obtain rfl:=qcR hb'
 obtain⟨p',hp',hr⟩:=hW.obj id _ hid rfl
 rw[hp]at hp'
 cases hp'
 have hcon:=AnyQ.slices_SortFunc_eq L e aE zE enc hk (λx v hv=>by
  have:=hs x v hv
  unfold Am.scalar at this
  split at this<;>first|rfl|cases this) cf hO g #[] p.b p.o cap l.toArray w eg (cmp_lays hG hs hc hW (hW.own id _ p hid rfl hp) p.o l.toArray.size) (holds_of hk hs hr) (gP rfl hr) (by simpa using hl)
 obtain⟨e',w',fr,⟨rfl,n,os,rfl⟩,b1,b2,b3⟩:=hcon cs
 have hlen:(srt cf l).length=l.length:=by
  have:=(tV hO l).1.1
  simpa using this
 obtain⟨c1,c2⟩:=xM (l':=srt cf l) hW hk hs hid hp hlen n os
 have e2:(pdq (ltOf cf) l.toArray 0 l.toArray.size (Lib.bitLen l.toArray.size) true true)=(srt cf l).toArray:=by simp[srt]
 rw[e2]at b1 b3
 exact⟨.tuple #[],mu,_,.tuple (by simp) rfl (λi x y h=>by simp at h),c1,c2,L.f6.enters rfl _ _,fr,b1,b2,b3⟩
end
def renS:Ren:=⟨fun|6=>52|15=>65|14=>64|28=>83|29=>84|20=>75|21=>76|22=>77|23=>78|24=>79|25=>80|26=>81|27=>82|46=>114|47=>115|48=>116|49=>117|50=>118|57=>129|n=>n,
 fun|22=>25|24=>30|25=>68|39=>127|53=>148|55=>150|46=>141|45=>140|50=>145|66=>185|70=>189|76=>207|77=>176|n=>n,λn=>n⟩
def nmOf(P:TF)(f:TN):String:=match P.funcs[f]? with
 |some g=>g.name
 |none => ""
def vh {P:TF} {f:TN} {B:Func} (h1:(nmOf P f == "runtime.NumGoroutine")=false) (h2:P.funcs[f]?=some { B with name:=nmOf P f }):Bears P f B:=⟨_,h1,h2⟩
def layS:SlLaysF0.n6 Tryz.prog renS:=by
 constructor
 all_goals first
  |kernel_rfl
  |exact vh (by kernel_rfl) (by kernel_rfl)
  |exact λ_=>by kernel_rfl
def renC:Ren:=⟨fun|6=>59|15=>65|14=>68|28=>83|29=>84|20=>86|21=>87|22=>88|23=>89|24=>90|25=>91|26=>92|27=>93|46=>119|47=>115|48=>116|49=>120|50=>121|57=>130|n=>n,
 fun|22=>89|24=>117|25=>119|39=>127|53=>148|55=>150|46=>141|45=>140|50=>145|66=>185|70=>189|76=>207|77=>176|n=>n,λn=>n⟩
def layC:SlLaysF0.n6 Tryz.prog renC:=by
 constructor
 all_goals first
  |kernel_rfl
  |exact vh (by kernel_rfl) (by kernel_rfl)
  |exact λ_=>by kernel_rfl
end Go.Am
namespace Go.Am
namespace Sx
open Go.ChangeShapes Go.WideShapes Go.ChangeAt Go.WideMaps Go.WideElems Go.RowKit
def FitC:TG->Tl->Prop
 | [],[]=>True
 | .i k :: ks,v :: vs=>(∃n,v = .int k n/\(Lit.int k n).wf=true)/\FitC ks vs
 | .b :: ks,v :: vs=>(∃t,v = .bool t)/\FitC ks vs
 |_,_=>False
def FitL:TG->TE->Prop
 | [],[]=>True
 | .i k :: ks,.i n :: ls=>(Lit.int k n).wf=true/\FitL ks ls
 | .b :: ks,.b _ :: ls=>FitL ks ls
 |_,_=>False
def FitC.len:∀ {ks:TG} {vs:Tl},FitC ks vs->vs.length=ks.length
 | [],[],_=>rfl
 | .i k :: ks,v :: vs,h=>by simp[FitC.len h.2]
 | .b :: ks,v :: vs,h=>by simp[FitC.len h.2]
 | .v :: _,_,h=>by cases h
 | [],_ :: _,h=>by cases h
 | .i _ :: _,[],h=>by cases h
 | .b :: _,[],h=>by cases h
def FitC.app:∀ {ks ks':TG} {vs vs':Tl},FitC ks vs->FitC ks' vs'->FitC (ks++ks') (vs++vs')
 | [],_,[],_,_,h=>h
 | .i k :: ks,_,v :: vs,_,h,h'=>⟨h.1,FitC.app h.2 h'⟩
 | .b :: ks,_,v :: vs,_,h,h'=>⟨h.1,FitC.app h.2 h'⟩
 | .v :: _,_,_,_,h,_=>by cases h
 | [],_,_ :: _,_,h,_=>by cases h
 | .i _ :: _,_,[],_,h,_=>by cases h
 | .b :: _,_,[],_,h,_=>by cases h
def FitL.app:∀ {ks ks':TG} {vs vs':TE},FitL ks vs->FitL ks' vs'->FitL (ks++ks') (vs++vs')
 | [],_,[],_,_,h=>h
 | .i k :: ks,_,.i v :: vs,_,h,h'=>⟨h.1,FitL.app h.2 h'⟩
 | .b :: ks,_,.b v :: vs,_,h,h'=>FitL.app (ks:=ks) h h'
 | .v :: _,_,_,_,h,_=>by cases h
 | [],_,_ :: _,_,h,_=>by cases h
 | .i _ :: _,_,[],_,h,_=>by cases h
 | .b :: _,_,[],_,h,_=>by cases h
 | .i _ :: _,_,.b _ :: _,_,h,_=>by cases h
 | .i _ :: _,_,.v _ :: _,_,h,_=>by cases h
 | .b :: _,_,.i _ :: _,_,h,_=>by cases h
 | .b :: _,_,.v _ :: _,_,h,_=>by cases h
def FitC.sl:∀ {ks:TG} {vs:Tl},FitC ks vs->∃xs:List SL,xs.map SL.val=vs/\aT xs ks=true/\(∀x∈xs,x.good)/\FitL ks (xs.map SL.lf)
 | [],[],_=>⟨[],rfl,rfl,λ_ h=>(by cases h),trivial⟩
 | .i k :: ks,v :: vs,h=>by
  obtain⟨⟨n,rfl,hw⟩,h2⟩:=h
  obtain⟨xs,a,b,c,d⟩:=FitC.sl h2
  exact⟨.i k n :: xs,by simp[a,SL.val],by simp[aT,b,SL.is,dI],λx hx=>by
   rcases qal.1 hx with rfl|hx
   ·trivial
   ·exact c x hx,hw,d⟩
 | .b :: ks,v :: vs,h=>by
  obtain⟨⟨n,rfl⟩,h2⟩:=h
  obtain⟨xs,a,b,c,d⟩:=FitC.sl h2
  exact⟨.b n :: xs,by simp[a,SL.val],by simp[aT,b,SL.is],λx hx=>by
   rcases qal.1 hx with rfl|hx
   ·trivial
   ·exact c x hx,d⟩
 | .v :: _,_,h=>by cases h
 | [],_ :: _,h=>by cases h
 | .i _ :: _,[],h=>by cases h
 | .b :: _,[],h=>by cases h
def flatF(F:TM->Option (TG)):List Field->Nat->Option (TG)
 | [],_=>some []
 |f :: fs,off=>match Nat.beq f.offset off,F f.type with
  |true,some ks=>(flatF F fs (off+ks.length)).map (ks ++ ·)
  |_,_=>none
def xm(P:TF):Nat->TM->Option (TG)
 |0,_=>none
 |d+1,t=>match P.underlying t with
  |some (.int k)=>some [.i k]
  |some .bool=>some [.b]
  |some (.struct fs)=>match flatF (xm P d) fs.toList 0 with
   |some ks=>match Nat.beq ks.length (P.cellsOf t)with
    |true=>some ks
    |false=>none
   |none=>none
  |some (.array n e)=>match xm P d e with
   |some ks=>match Nat.beq (P.cellsOf e) ks.length&&Nat.beq (P.cellsOf t) (n*ks.length)with
    |true=>some (List.replicate n ks).flatten
    |false=>none
   |none=>none
  |_=>none
section
variable {H:Type} {enc:TypeId×Value->H} {P:TF}
def jK{α:Type}(l:List α)(c:Nat):l.take (l.take c).length=l.take c:=by
 rw[qaG]
 rcases Nat.le_total c l.length with h|h
 ·rw[qa5 h]
 ·rw[qbZ h,qaS h,qaS (qaf _)]
def vB{F:TM->Option (TG)}{w:World}{base:Nat}{sp:Ty}{held:Bool}{fuel:Nat}
  (hF:∀t ks,F t=some ks->∀cs (x:DataW H×List MemPlace),DataW.trod enc P w base sp held fuel t cs=some x->x.2=[]/\FitC ks cs/\∀w' b' s' h',DataW.trod enc P w' b' s' h' fuel t cs=some x) (cs:Tl) :
  ∀(fs:List Field) (off:Nat) (ks:TG) (xs:List (DataW H×List MemPlace)),flatF F fs off=some ks->fs.mapM (λf=>DataW.trod enc P w base sp held fuel f.type ((cs.drop f.offset).take (P.cellsOf f.type)))=some xs->
   xs.flatMap (·.2)=[]/\FitC ks ((cs.drop off).take ks.length)/\∀w' b' s' h',fs.mapM (λf=>DataW.trod enc P w' b' s' h' fuel f.type ((cs.drop f.offset).take (P.cellsOf f.type)))=some xs
 | [],off,ks,xs,h1,h2=>by
  simp only[flatF,qaq]at h1
  subst h1
  simp only[qdl,qc7,qaq]at h2
  subst h2
  refine⟨rfl,by simp[FitC],λ_ _ _ _=>by simp⟩
 |f :: fs,off,ks,xs,h1,h2=>by
  simp only[flatF]at h1
  split at h1
  next k1 e1 e2=>
   obtain⟨k2,e3,rfl⟩:=qad.1 h1
   have e1:=qac e1
   rw[qbV]at h2
   obtain⟨x,h3,h2⟩:=qar.1 h2
   obtain⟨ys,h4,h2⟩:=qar.1 h2
   cases h2
   obtain⟨a1,a2,a3⟩:=hF _ _ e2 _ _ h3
   obtain⟨b1,b2,b3⟩:=vB hF cs fs _ k2 ys e3 h4
   refine⟨by simp[a1,b1],?_,λw' b' s' h'=>?_⟩
   ·rw[qaB,qdm]
    refine FitC.app ?_ (by rw[qbU];exact b2)
    have hl:=FitC.len a2
    rw[e1]at a2 hl
    rw[←hl,jK]
    exact a2
   ·rw[qbV,a3 w' b' s' h',b3 w' b' s' h']
    rfl
  ·cases h1
def arr_ok{w:World}{base:Nat}{sp:Ty}{held:Bool}{fuel c:Nat}{e:TM}{ks:TG}(hc:c=ks.length)
  (hF:∀cs (x:DataW H×List MemPlace),DataW.trod enc P w base sp held fuel e cs=some x->x.2=[]/\FitC ks cs/\∀w' b' s' h',DataW.trod enc P w' b' s' h' fuel e cs=some x) (cs:Tl) :
  ∀(n:Nat) (xs:List (DataW H×List MemPlace)),(List.range n).mapM (λi=>DataW.trod enc P w base sp held fuel e ((cs.drop (i*c)).take c))=some xs->
   xs.flatMap (·.2)=[]/\FitC (List.replicate n ks).flatten (cs.take (n*c))/\∀w' b' s' h',(List.range n).mapM (λi=>DataW.trod enc P w' b' s' h' fuel e ((cs.drop (i*c)).take c))=some xs
 |0,xs,h=>by
  simp only[List.range_zero,qdl,qc7,qaq]at h
  subst h
  exact⟨rfl,by simp[FitC],λ_ _ _ _=>by simp⟩
 |n+1,xs,h=>by
  rw[List.range_succ,List.mapM_append]at h
  obtain⟨ys,h1,h⟩:=qar.1 h
  obtain⟨zs,h2,h⟩:=qar.1 h
  cases h
  rw[qbV]at h2
  obtain⟨z,h3,h2⟩:=qar.1 h2
  cases h2
  obtain⟨a1,a2,a3⟩:=arr_ok hc hF cs n ys h1
  obtain⟨b1,b2,b3⟩:=hF _ _ h3
  refine⟨by simp[a1,b1],?_,λw' b' s' h'=>?_⟩
  ·rw[List.replicate_succ',List.flatten_append,qbH,qcd,qdm]
   refine FitC.app a2 ?_
   simpa using b2
  ·rw[List.range_succ,List.mapM_append,a3 w' b' s' h',qbV,b3 w' b' s' h']
   rfl
def mb:∀(d:Nat) (t:TM) (ks:TG),xm P d t=some ks->∀(w:World) (base:Nat) (sp:Ty) (held:Bool) (fuel:Nat) (cs:Tl) (x:DataW H×List MemPlace),DataW.trod enc P w base sp held fuel t cs=some x->
  x.2=[]/\FitC ks cs/\∀w' b' s' h',DataW.trod enc P w' b' s' h' fuel t cs=some x
 |0,_,_,h=>by cases h
 |d+1,t,ks,h=>by
  intro w base sp held fuel cs x hx
  simp only[xm]at h
  split at h
  next k e=>
   cases h
   obtain⟨n,rfl,rfl,hw⟩:=DataW.trod_int e hx
   refine⟨rfl,⟨⟨n,rfl,hw⟩,trivial⟩,λw' b' s' h'=>?_⟩
   cases fuel with
   |zero=>simp[DataW.trod]at hx
   |succ m=>simp[DataW.trod,e,hw]
  next e=>
   cases h
   obtain⟨n,rfl,rfl⟩:=DataW.trod_bool e hx
   refine⟨rfl,⟨⟨n,rfl⟩,trivial⟩,λw' b' s' h'=>?_⟩
   cases fuel with
   |zero=>simp[DataW.trod]at hx
   |succ m=>simp[DataW.trod,e]
  next fs e=>
   split at h
   next k2 e2=>
    split at h
    next e3=>
     cases h
     have e3:=qac e3
     cases fuel with
     |zero=>simp[DataW.trod]at hx
     |succ m=>
      simp only[DataW.trod,e]at hx
      split at hx
      next hl=>
       obtain⟨xs,h5,rfl⟩:=qad.1 hx
       obtain⟨a1,a2,a3⟩:=vB (λt ks h cs x hx=>mb d t ks h w base sp held m cs x hx) cs fs.toList 0 ks xs e2 h5
       rw[qaV,qaS (by omega)]at a2
       refine⟨a1,a2,λw' b' s' h'=>?_⟩
       simp only[DataW.trod,e,hl,if_true]
       rw[a3 w' b' s' h']
       rfl
      ·cases hx
    ·cases h
   ·cases h
  next n e e1=>
   split at h
   next k2 e2=>
    split at h
    next e3=>
     cases h
     rw[qaa]at e3
     have e4:=qac e3.1
     have e5:=qac e3.2
     cases fuel with
     |zero=>simp[DataW.trod]at hx
     |succ m=>
      simp only[DataW.trod,e1]at hx
      split at hx
      next hl=>
       obtain⟨xs,h5,rfl⟩:=qad.1 hx
       obtain⟨a1,a2,a3⟩:=arr_ok e4 (λcs x hx=>mb d e k2 e2 w base sp held m cs x hx) cs n xs h5
       rw[qaS (by rw[hl,e5,e4];exact qaf _)]at a2
       refine⟨a1,a2,λw' b' s' h'=>?_⟩
       simp only[DataW.trod,e1,hl,if_true]
       rw[a3 w' b' s' h']
       rfl
      ·cases hx
    ·cases h
   ·cases h
  ·cases h
end
section
variable [Val]
end
end Sx
end Go.Am
namespace Go.Am
namespace Sx
def FitL.i{k:TI}{ks:TG}{ls:TE}(h:FitL (.i k :: ks) ls):∃n r,ls = .i n :: r/\(Lit.int k n).wf=true/\FitL ks r:=by
 match ls,h with
 | .i n :: r,h=>exact⟨n,r,rfl,h.1,h.2⟩
def FitL.b{ks:TG}{ls:TE}(h:FitL (.b :: ks) ls):∃n r,ls = .b n :: r/\FitL ks r:=by
 match ls,h with
 | .b n :: r,h=>exact⟨n,r,rfl,h⟩
def FitL.nil{ls:TE}(h:FitL [] ls):ls=[]:=by
 match ls,h with
 | [],_=>rfl
def vc{n:Int}(h:(Lit.int .u8 n).wf=true):0<=n/\n<=255:=by
 simp only[Lit.wf,qaa,qdA]at h
 exact h
def oc{H:Type}{enc:TypeId×Value->H}{P:TF}{w:World}{base:Nat}{sp:Ty}{held:Bool}:∀ {ts:List TypeId} {vs:Tl} {ds:List (DataW H)} {ps:List MemPlace},DataW.TrodAll enc P w base sp held ts vs ds ps->ds.length=ts.length
 | [],[],[],_,_=>rfl
 |_ :: _,_ :: _,_ :: _,_,h=>by
  obtain⟨p,q,_,h2,_⟩:=h
  simp[oc h2]
 | [],_ :: _,_,_,h=>by cases h
 | [],[],_ :: _,_,h=>by cases h
 |_ :: _,[],_,_,h=>by cases h
 |_ :: _,_ :: _,[],_,h=>by cases h
end Sx
namespace Sx
open Go.ChangeShapes Go.WideShapes Go.ChangeAt Go.WideMaps Go.WideElems Go.RowKit
inductive CK2 where
 |i (k:TI)
 |b
 |s (ks:TG)
def CK2.lk:CK2->LK
 | .i k=>.i k
 | .b=>.b
 | .s _=>.v
def SlFit(w:World)(ks:TG)(v:Value):Prop:=
 v = .slice none 0 0∨∃(a:Addr) (len cap:Nat) (c:Tj) (t:TM) (fr:Nat×Nat) (cells:Tl),v = .slice (some a) len cap/\a.spot=none/\len<=cap/\cap<=maxLen/\
  w.heap[a.block]?=some (.cells c t fr)/\(cap=0∨a.off+cap*ks.length<=c.size)/\cells.length=len*ks.length/\(∀(i:Nat) v,cells[i]?=some v->c[a.off+i]?=some v)/\
  ∀i,i<len->FitC ks ((cells.drop (i*ks.length)).take ks.length)
def CellFit(w:World):CK2->Value->Prop
 | .i k,v=>∃n,v = .int k n/\(Lit.int k n).wf=true
 | .b,v=>∃t,v = .bool t
 | .s ks,v=>SlFit w ks v
def dO(w:World):List CK2->Tl->Prop
 | [],[]=>True
 |k :: ks,v :: vs=>CellFit w k v/\dO w ks vs
 |_,_=>False
def bm(h:HL):List CK2->TE->Prop
 | [],[]=>True
 | .i k :: ks,.i n :: ls=>(Lit.int k n).wf=true/\bm h ks ls
 | .b :: ks,.b _ :: ls=>bm h ks ls
 | .s es :: ks,.v x :: ls=>(∃n cells,SlC h x es.length n cells/\n<=maxLen/\∀i,i<n->FitC es ((cells.drop (i*es.length)).take es.length))/\bm h ks ls
 |_,_=>False
def dO.len{w:World}:∀ {ks:List CK2} {vs:Tl},dO w ks vs->vs.length=ks.length
 | [],[],_=>rfl
 |_ :: _,_ :: _,h=>by simp[dO.len h.2]
 | [],_ :: _,h=>by cases h
 |_ :: _,[],h=>by cases h
def dO.app{w:World}:∀ {ks ks':List CK2} {vs vs':Tl},dO w ks vs->dO w ks' vs'->dO w (ks++ks') (vs++vs')
 | [],_,[],_,_,h=>h
 |_ :: _,_,_ :: _,_,h,h'=>⟨h.1,dO.app h.2 h'⟩
 | [],_,_ :: _,_,h,_=>by cases h
 |_ :: _,_,[],_,h,_=>by cases h
def bm.app{h:HL}:∀ {ks ks':List CK2} {vs vs':TE},bm h ks vs->bm h ks' vs'->bm h (ks++ks') (vs++vs')
 | [],_,[],_,_,h=>h
 | .i _ :: ks,_,.i _ :: _,_,h,h'=>⟨h.1,bm.app (ks:=ks) h.2 h'⟩
 | .b :: ks,_,.b _ :: _,_,h,h'=>bm.app (ks:=ks) h h'
 | .s _ :: ks,_,.v _ :: _,_,h,h'=>⟨h.1,bm.app (ks:=ks) h.2 h'⟩
 | [],_,_ :: _,_,h,_=>by cases h
 | .i _ :: _,_,[],_,h,_=>by cases h
 | .b :: _,_,[],_,h,_=>by cases h
 | .s _ :: _,_,[],_,h,_=>by cases h
 | .i _ :: _,_,.b _ :: _,_,h,_=>by cases h
 | .i _ :: _,_,.v _ :: _,_,h,_=>by cases h
 | .b :: _,_,.i _ :: _,_,h,_=>by cases h
 | .b :: _,_,.v _ :: _,_,h,_=>by cases h
 | .s _ :: _,_,.i _ :: _,_,h,_=>by cases h
 | .s _ :: _,_,.b _ :: _,_,h,_=>by cases h
def ckF(F:TM->Option (List CK2)):List Field->Nat->Option (List CK2)
 | [],_=>some []
 |f :: fs,off=>match Nat.beq f.offset off,F f.type with
  |true,some ks=>(ckF F fs (off+ks.length)).map (ks ++ ·)
  |_,_=>none
def kby:LK->Nat
 | .i .i64=>8
 |_=>0
def kbs:TG->Nat
 | []=>0
 |k :: ks=>kby k+kbs ks
def ckT(P:TF):Nat->TM->Option (List CK2)
 |0,_=>none
 |d+1,t=>match P.underlying t with
  |some (.int k)=>some [.i k]
  |some .bool=>some [.b]
  |some (.slice e)=>match xm P 20 e with
   |some ks=>match Nat.beq (P.cellsOf e) ks.length&&Nat.blt 0 ks.length&&Nat.ble (kbs ks) (P.bytesOf e)with
    |true=>some [.s ks]
    |false=>none
   |none=>none
  |some (.struct fs)=>match ckF (ckT P d) fs.toList 0 with
   |some ks=>match Nat.beq ks.length (P.cellsOf t)with
    |true=>some ks
    |false=>none
   |none=>none
  |_=>none
section
variable {H:Type} {enc:TypeId×Value->H} {P:TF}
def Lies(w:World)(v:Value):Prop:=∀a len cap,v = .slice (some a) len cap->a.spot=none/\∃c t fr,w.heap[a.block]?=some (.cells c t fr)
def iQ{α β:Type}{f g:α->Option β}:∀ {l:List α},(∀x∈l,f x=g x)->l.mapM f=l.mapM g
 | [],_=>rfl
 |a :: l,h=>by
  rw[qbV,qbV,h a qaE,iQ λx hx=>h x (qap _ hx)]
def bK{a:Addr}(h:a.spot=none)(i:Nat):a.add i=⟨a.block,a.off+i,none⟩:=by
 obtain⟨b,o,s⟩:=a
 cases h
 unfold Addr.add
 simp
def slice_ok{w:World}{t e:TM}{ks:TG}(ht:P.underlying t=some (.slice e))(he:xm P 20 e=some ks)(hc:P.cellsOf e=ks.length)(h0:0<ks.length){base:Nat}(hbase:base=0){held:Bool}{fuel:Nat}{cs:Tl}{x:DataW H×List MemPlace}
  (hx:DataW.trod enc P w base (λ_=>true) held fuel t cs=some x) (hl:∀v∈cs,Lies w v) :
  ∃v,cs=[v]/\SlFit w ks v/\∀(w':World) (s':Ty),(∀b,b<w.heap.size->w'.heap[b]?=w.heap[b]?)->(∀b,b<w.heap.size->s' b=true)->DataW.trod enc P w' base s' held fuel t cs=some x:=by
 subst hbase
 have hx0:=hx
 rcases DataW.trod_slice ht hx with⟨rfl,rfl⟩|⟨a,len,cap,elems,rest,n,rfl,rfl,rfl,hb,hlc,hm,hlen,hel,hsp,_⟩
 ·refine⟨_,rfl,.inl rfl,λw' s' _ _=>?_⟩
  cases fuel with
  |zero=>simp[DataW.trod]at hx
  |succ m=>simp[DataW.trod,ht]
 ·obtain⟨hs,c,t',fr,hblk⟩:=hl _ qaE a len cap rfl
  obtain⟨hrl,hr⟩:=hsp rfl
  rw[hc]at hel hr
  have hlt:a.block<w.heap.size:=by
   rcases qaQ a.block w.heap.size with h|h
   ·exact h
   ·rw[qbc h]at hblk;cases hblk
  have each:∀i,i<cap->∃ci y,w.cells? 0 (a.add (i*ks.length)) ks.length=some ci/\DataW.trod enc P w 0 (λ_=>true) held n e ci=some y/\(elems++rest)[i]?=some y:=by
   intro i hi
   by_cases h1:i<len
   ·have h2:=hel i h1
    have h3:elems[i]?=some elems[i]:=qai (by omega)
    rw[h3]at h2
    obtain⟨ci,h4,h5⟩:=qar.1 h2
    exact⟨ci,_,h4,h5,by rw[qah (by omega)];exact h3⟩
   ·have h2:=hr (i - len) (by omega)
    rw[show len+(i - len)=i by omega]at h2
    have h3:rest[i - len]?=some (rest[i - len]'(by omega)):=qai (by omega)
    rw[h3]at h2
    obtain⟨ci,h4,h5⟩:=qar.1 h2
    exact⟨ci,_,h4,h5,by rw[qan (by omega),hlen];exact h3⟩
  have rd:∀i,i<cap->∀j,j<ks.length->∀ci,w.cells? 0 (a.add (i*ks.length)) ks.length=some ci->c[a.off+i*ks.length+j]?=ci[j]?:=by
   intro i hi j hj ci hci
   have h1:=(World.cells?_some hci).2.2 j hj
   rw[bK hs,bK rfl]at h1
   rw[←h1]
   unfold World.cell?
   simp[hblk]
  have hsz:cap=0∨a.off+cap*ks.length<=c.size:=by
   by_cases hcap:cap=0
   ·exact .inl hcap
   ·right
    obtain⟨ci,y,h1,_,_⟩:=each (cap - 1) (by omega)
    have h2:=rd (cap - 1) (by omega) (ks.length - 1) (by omega) ci h1
    have hcl:=(World.cells?_some h1).2.1
    rw[qai (by omega)]at h2
    have h3:=(qav.1 h2).1
    have h4:cap*ks.length=(cap - 1)*ks.length+ks.length:=by
     rw[←Nat.succ_mul];congr 1;omega
    omega
  have hsz2:a.off+len*ks.length<=c.size∨len=0:=by
   rcases hsz with h|h
   ·right;omega
   ·left
    have:=qbn ks.length hlc
    omega
  refine⟨_,rfl,.inr ⟨a,len,cap,c,t',fr,(c.toList.drop a.off).take (len*ks.length),rfl,hs,hlc,hm,hblk,hsz,?_,?_,?_⟩,?_⟩
  ·rw[qaG,qbO]
   have hcz:c.toList.length=c.size:=qcD
   rcases hsz2 with h|h
   ·omega
   ·subst h;omega
  ·intro i v hv
   rw[qaT]at hv
   split at hv
   ·rw[qaX]at hv
    simpa using hv
   ·cases hv
  ·intro i hi
   obtain⟨ci,y,h1,h2,_⟩:=each i (by omega)
   obtain⟨_,h3,_⟩:=mb 20 e ks he w 0 _ held n ci y h2
   have hcl:=(World.cells?_some h1).2.1
   have:(((c.toList.drop a.off).take (len*ks.length)).drop (i*ks.length)).take ks.length=ci:=by
    apply qa0
    intro j
    by_cases hj:j<ks.length
    ·have hle:i*ks.length+ks.length<=len*ks.length:=by
      have:=qbn ks.length (show i+1<=len by omega)
      rw[qbH,qcd]at this;exact this
     rw[qaT,qdD hj,qaX,qaT,qdD (by omega),qaX,←rd i (by omega) j hj ci h1]
     rw[qcT,qbG]
    ·rw[qaj (by rw[qaG];omega),qaj (by omega)]
   rw[this];exact h3
  ·intro w' s' hw hs'
   have hcell:∀i,i<cap->w'.cells? 0 (a.add (i*ks.length)) ks.length=w.cells? 0 (a.add (i*ks.length)) ks.length:=by
    intro i hi
    unfold World.cells?
    have:∀j,w'.cell? ((a.add (i*ks.length)).add j)=w.cell? ((a.add (i*ks.length)).add j):=by
     intro j
     rw[bK hs,bK rfl]
     unfold World.cell?
     rw[hw _ hlt]
    simp only[this]
   have el:∀i,i<cap->(w'.cells? 0 (a.add (i*P.cellsOf e)) (P.cellsOf e)).bind (DataW.trod enc P w' 0 s' held n e)=(elems++rest)[i]?:=by
    intro i hi
    rw[hc,hcell i hi]
    obtain⟨ci,y,h1,h2,h3⟩:=each i hi
    rw[h1,h3,qak]
    exact(mb 20 e ks he w 0 _ held n ci y h2).2.2 w' 0 s' held
   have el0:∀i,i<cap->(w.cells? 0 (a.add (i*P.cellsOf e)) (P.cellsOf e)).bind (DataW.trod enc P w 0 (λ_=>true) held n e)=(elems++rest)[i]?:=by
    intro i hi
    rw[hc]
    obtain⟨ci,y,h1,h2,h3⟩:=each i hi
    rw[h1,h3,qak]
    exact h2
   unfold DataW.trod at hx0 ⊢
   simp only[ht]at hx0 ⊢
   rw[qdD ⟨qaO _,hlc,hm⟩]at hx0 ⊢
   rw[iQ (λi hi=>(el i (by have:=qaN.1 hi;omega)).trans (el0 i (by have:=qaN.1 hi;omega)).symm)]
   rw[iQ (l:=List.range (cap - len)) (λj hj=>(el (len+j) (by have:=qaN.1 hj;omega)).trans (el0 (len+j) (by have:=qaN.1 hj;omega)).symm)]
   rw[hs' _ hlt]
   exact hx0
def ckF_ok{F:TM->Option (List CK2)}{w:World}{held:Bool}{fuel:Nat}(cs:Tl)(hl:∀v∈cs,Lies w v)
  (hF:∀t ks,F t=some ks->∀cs (x:DataW H×List MemPlace),(∀v∈cs,Lies w v)->DataW.trod enc P w 0 (λ_=>true) held fuel t cs=some x->dO w ks cs/\∀(w':World) (s':Ty),(∀b,b<w.heap.size->w'.heap[b]?=w.heap[b]?)->(∀b,b<w.heap.size->s' b=true)->DataW.trod enc P w' 0 s' held fuel t cs=some x) :
  ∀(fs:List Field) (off:Nat) (ks:List CK2) (xs:List (DataW H×List MemPlace)),ckF F fs off=some ks->fs.mapM (λf=>DataW.trod enc P w 0 (λ_=>true) held fuel f.type ((cs.drop f.offset).take (P.cellsOf f.type)))=some xs->
   dO w ks ((cs.drop off).take ks.length)/\∀(w':World) (s':Ty),(∀b,b<w.heap.size->w'.heap[b]?=w.heap[b]?)->(∀b,b<w.heap.size->s' b=true)->fs.mapM (λf=>DataW.trod enc P w' 0 s' held fuel f.type ((cs.drop f.offset).take (P.cellsOf f.type)))=some xs
 | [],off,ks,xs,h1,h2=>by
  simp only[ckF,qaq]at h1
  subst h1
  simp only[qdl,qc7,qaq]at h2
  subst h2
  refine⟨by simp[dO],λ_ _ _ _=>by simp⟩
 |f :: fs,off,ks,xs,h1,h2=>by
  simp only[ckF]at h1
  split at h1
  next k1 e1 e2=>
   obtain⟨k2,e3,rfl⟩:=qad.1 h1
   have e1:=qac e1
   rw[qbV]at h2
   obtain⟨x,h3,h2⟩:=qar.1 h2
   obtain⟨ys,h4,h2⟩:=qar.1 h2
   cases h2
   obtain⟨a2,a3⟩:=hF _ _ e2 _ _ (λv hv=>hl v (qbQ (qbm hv))) h3
   obtain⟨b2,b3⟩:=ckF_ok cs hl hF fs _ k2 ys e3 h4
   refine⟨?_,λw' s' hw hs'=>?_⟩
   ·rw[qaB,qdm]
    refine dO.app ?_ (by rw[qbU];exact b2)
    have hl:=dO.len a2
    rw[e1]at a2 hl
    rw[←hl,jK]
    exact a2
   ·rw[qbV,a3 w' s' hw hs',b3 w' s' hw hs']
    rfl
  ·cases h1
def ckT_ok:∀(d:Nat) (t:TM) (ks:List CK2),ckT P d t=some ks->∀(w:World) (held:Bool) (fuel:Nat) (cs:Tl) (x:DataW H×List MemPlace),(∀v∈cs,Lies w v)->DataW.trod enc P w 0 (λ_=>true) held fuel t cs=some x->
  dO w ks cs/\∀(w':World) (s':Ty),(∀b,b<w.heap.size->w'.heap[b]?=w.heap[b]?)->(∀b,b<w.heap.size->s' b=true)->DataW.trod enc P w' 0 s' held fuel t cs=some x
 |0,_,_,h=>by cases h
 |d+1,t,ks,h=>by
  intro w held fuel cs x hl hx
  simp only[ckT]at h
  split at h
  next k e=>
   cases h
   obtain⟨n,rfl,rfl,hw⟩:=DataW.trod_int e hx
   refine⟨⟨⟨n,rfl,hw⟩,trivial⟩,λw' s' _ _=>?_⟩
   cases fuel with
   |zero=>simp[DataW.trod]at hx
   |succ m=>simp[DataW.trod,e,hw]
  next e=>
   cases h
   obtain⟨n,rfl,rfl⟩:=DataW.trod_bool e hx
   refine⟨⟨⟨n,rfl⟩,trivial⟩,λw' s' _ _=>?_⟩
   cases fuel with
   |zero=>simp[DataW.trod]at hx
   |succ m=>simp[DataW.trod,e]
  next e e0=>
   split at h
   next k2 e2=>
    split at h
    next e3=>
     cases h
     simp only[qaa,qbd]at e3
     obtain⟨v,rfl,a2,a3⟩:=slice_ok e0 e2 (qac e3.1.1) e3.1.2 rfl hx hl
     exact⟨⟨a2,trivial⟩,a3⟩
    ·cases h
   ·cases h
  next fs e=>
   split at h
   next k2 e2=>
    split at h
    next e3=>
     cases h
     have e3:=qac e3
     cases fuel with
     |zero=>simp[DataW.trod]at hx
     |succ m=>
      simp only[DataW.trod,e]at hx
      split at hx
      next hlen=>
       obtain⟨xs,h5,rfl⟩:=qad.1 hx
       obtain⟨a2,a3⟩:=ckF_ok cs hl (λt ks h cs x hl hx=>ckT_ok d t ks h w held m cs x hl hx) fs.toList 0 ks xs e2 h5
       rw[qaV,qaS (by omega)]at a2
       refine⟨a2,λw' s' hw hs'=>?_⟩
       simp only[DataW.trod,e,hlen,if_true]
       rw[a3 w' s' hw hs']
       rfl
      ·cases hx
    ·cases h
   ·cases h
  ·cases h
abbrev Blk2:=HObj×Option Pl
def rX(w:World)(b:Blk2):Prop:=b.1 = .dead∨∃vs e p c t fr,b.1 = .cells vs e false/\b.2=some p/\p.esz=e/\vs.all flat=true/\vs.all aU=true/\vs.length<=p.room/\w.heap[p.b]?=some (.cells c t fr)/\c.size=p.o+p.room/\∀(i:Nat) v,vs[i]?=some v->c[p.o+i]?=some v
def mX:∀ {ks:TG} {vs:Tl},FitC ks vs->vs.all flat=true/\vs.all aU=true
 | [],[],_=>⟨rfl,rfl⟩
 | .i k :: ks,v :: vs,h=>by
  obtain⟨⟨n,rfl,_⟩,h2⟩:=h
  obtain⟨a,b⟩:=mX h2
  exact⟨by simp[a,flat,eO,scalar],by simp[b];rfl⟩
 | .b :: ks,v :: vs,h=>by
  obtain⟨⟨n,rfl⟩,h2⟩:=h
  obtain⟨a,b⟩:=mX h2
  exact⟨by simp[a,flat,eO,scalar],by simp[b];rfl⟩
 | .v :: _,_,h=>by cases h
 | [],_ :: _,h=>by cases h
 | .i _ :: _,[],h=>by cases h
 | .b :: _,[],h=>by cases h
def uj{ks:TG}(hk:0<ks.length){cells:Tl}{n:Nat}(hl:cells.length=n*ks.length)(h:∀i,i<n->FitC ks ((cells.drop (i*ks.length)).take ks.length)):cells.all flat=true/\cells.all aU=true:=by
 have main:∀j,j<cells.length->∃v,cells[j]?=some v/\flat v=true/\aU v=true:=by
  intro j hj
  have h1:j / ks.length<n:=by
   rw[Nat.div_lt_iff_lt_mul hk];omega
  obtain⟨a,b⟩:=mX (h _ h1)
  have hm:=qbD j hk
  have hd:=Nat.div_add_mod j ks.length
  have hmem:((cells.drop (j / ks.length*ks.length)).take ks.length)[j%ks.length]?=some cells[j]:=by
   rw[qaT,qdD hm,qaX]
   rw[show j / ks.length*ks.length+j%ks.length=j by rw[Nat.mul_comm];exact hd]
   exact qai hj
  exact⟨_,qai hj,qag.1 a _ (qab hmem),qag.1 b _ (qab hmem)⟩
 constructor<;>
 ·rw[qag]
  intro v hv
  obtain⟨j,hj⟩:=qaM hv
  have hlt:j<cells.length:=by
   rcases qaQ j cells.length with h|h
   ·exact h
   ·rw[qaj h]at hj;cases hj
  obtain⟨v',h1,h2,h3⟩:=main j hlt
  rw[hj]at h1
  cases h1
  first|exact h2|exact h3
section
variable [Val] [Glo]
def cell_abs{w:World}{ck:CK2}{v:Value}(hp:∀ks,ck = .s ks->0<ks.length)(h:CellFit w ck v)(n0:Nat):∃(x:SL) (bl:List Blk2),(∀b∈bl,rX w b)/\x.is ck.lk=true/\x.good/\
  (∀mu:HMap,(∀(i:Nat) b,bl[i]?=some b->mu (n0+i)=b.2)->VR noL mu x.val v)/\∀hp:HL,(∀(i:Nat) b,bl[i]?=some b->hp[n0+i]?=some (.o b.1))->bm hp [ck] [x.lf]:=by
 cases ck with
 |i k=>
  obtain⟨n,rfl,hw⟩:=h
  exact⟨.i k n,[],by simp,by simp[SL.is,CK2.lk,dI],trivial,λmu _=>.scalar rfl,λhp _=>⟨hw,trivial⟩⟩
 |b=>
  obtain⟨t,rfl⟩:=h
  exact⟨.b t,[],by simp,rfl,trivial,λmu _=>.scalar rfl,λhp _=>trivial⟩
 |s ks=>
  have hk:=hp ks rfl
  rcases h with rfl|⟨a,len,cap,c,t,fr,cells,rfl,hs,hlc,hm,hblk,hsz,hcl,hget,hfit⟩
  ·refine⟨.v (.slice none 0 0),[],by simp,rfl,rfl,λmu _=>.scalar rfl,λhp _=>⟨⟨0,[],⟨by simp,.inl ⟨rfl,rfl⟩⟩,qaO _,λi hi=>by omega⟩,trivial⟩⟩
  ·obtain⟨hf1,hf2⟩:=uj hk hcl hfit
   have gd:aS (.slice (some ⟨n0,0,tag ks.length⟩) len 0)=true:=by simp[aS,noLoc,aZ,bz,bp,aR,aI,tag]
   have ha:a=⟨a.block,a.off,none⟩:=by cases a;cases hs;rfl
   have fit:∀hp:HL,hp[n0]?=some (.o (.cells cells ks.length false))->bm hp [.s ks] [.v (.slice (some ⟨n0,0,tag ks.length⟩) len 0)]:=λhp h1=>
    ⟨⟨len,cells,⟨hcl,.inr ⟨n0,0,0,cells,false,rfl,h1,cut_all hcl⟩⟩,by omega,hfit⟩,trivial⟩
   by_cases hcap:cap=0
   ·subst hcap
    obtain rfl:len=0:=by omega
    have hce:cells=[]:=List.eq_nil_of_length_eq_zero (by omega)
    subst hce
    refine⟨.v (.slice (some ⟨n0,0,tag ks.length⟩) 0 0),[(.cells [] ks.length false,some ⟨a.block,c.size,0,ks.length⟩)],λb hb=>?_,rfl,gd,λmu _=>.hslice0 (qaO _),λhp h1=>fit hp (h1 0 _ rfl)⟩
    simp only[qam]at hb
    subst hb
    exact .inr ⟨[],ks.length,_,c,t,fr,rfl,rfl,rfl,rfl,rfl,qaO _,hblk,by simp,λi v hv=>by simp at hv⟩
   ·have hsz:a.off+cap*ks.length<=c.size:=hsz.resolve_left hcap
    have hle:=qbn ks.length hlc
    refine⟨.v (.slice (some ⟨n0,0,tag ks.length⟩) len 0),[(.cells cells ks.length false,some ⟨a.block,a.off,c.size - a.off,ks.length⟩)],λb hb=>?_,rfl,gd,λmu h1=>?_,λhp h1=>fit hp (h1 0 _ rfl)⟩
    ·simp only[qam]at hb
     subst hb
     exact .inr ⟨cells,ks.length,_,c,t,fr,rfl,rfl,rfl,hf1,hf2,by show cells.length<=c.size - a.off;omega,hblk,by show c.size=a.off+(c.size - a.off);omega,hget⟩
    ·have h2:=h1 0 _ rfl
     rw[ha]
     have:=VR.hslice (la:=noL) (mu:=mu) (id:=n0) (off:=0) (len:=len) (cap:=cap) (cx:=0) h2 (by show 0+cap*ks.length<=c.size - a.off;omega) hlc (.inl rfl)
     exact this
def ss{w:World}:∀ {cks:List CK2} {vs:Tl},(∀ks,CK2.s ks∈cks->0<ks.length)->dO w cks vs->∀n0,∃(xs:List SL) (bl:List Blk2),(∀b∈bl,rX w b)/\aT xs (cks.map CK2.lk)=true/\(∀x∈xs,x.good)/\xs.length=vs.length/\
  (∀mu:HMap,(∀(i:Nat) b,bl[i]?=some b->mu (n0+i)=b.2)->VRs noL mu (xs.map SL.val) vs)/\∀hp:HL,(∀(i:Nat) b,bl[i]?=some b->hp[n0+i]?=some (.o b.1))->bm hp cks (xs.map SL.lf)
 | [],[],_,_,n0=>⟨[],[],by simp,rfl,by simp,rfl,λmu _=>⟨rfl,λi x y h=>by simp at h⟩,λhp _=>trivial⟩
 |ck :: cks,v :: vs,hp,h,n0=>by
  obtain⟨x,bl,a1,a2,a3,a4,a5⟩:=cell_abs (λks e=>hp ks (by rw[e];exact qaE)) h.1 n0
  obtain⟨xs,bl',b1,b2,b3,b4,b5,b6⟩:=ss (λks e=>hp ks (qap _ e)) h.2 (n0+bl.length)
  have g1:∀ {α:Type} {f:Nat->α} {g:Blk2->α},(∀(i:Nat) b,(bl++bl')[i]?=some b->f (n0+i)=g b)->(∀(i:Nat) b,bl[i]?=some b->f (n0+i)=g b)/\∀(i:Nat) b,bl'[i]?=some b->f (n0+bl.length+i)=g b:=by
   intro α f g h
   refine⟨λi b hb=>h i b ?_,λi b hb=>?_⟩
   ·rw[qah (by
     rcases qaQ i bl.length with h|h
     ·exact h
     ·rw[qaj h]at hb;cases hb)];exact hb
   ·rw[qbG]
    refine h _ b ?_
    rw[qan (by omega),qcM];exact hb
  refine⟨x :: xs,bl++bl',λb hb=>?_,by simp[aT,a2,b2],λy hy=>?_,by simp[b4],λmu hmu=>?_,λhp hh=>?_⟩
  ·rcases qau.1 hb with h|h
   ·exact a1 b h
   ·exact b1 b h
  ·rcases qal.1 hy with rfl|hy
   ·exact a3
   ·exact b3 y hy
  ·obtain⟨h1,h2⟩:=g1 (f:=mu) (g:=λb=>b.2) hmu
   have c1:=a4 mu h1
   obtain⟨c2,c3⟩:=b5 mu h2
   refine⟨by simpa using c2,λi p q hi hj=>?_⟩
   cases i with
   |zero=>
    simp only[qas,qaR,qaq]at hi hj
    subst hi hj;exact c1
   |succ i=>exact c3 i p q (by simpa using hi) (by simpa using hj)
  ·obtain⟨h1,h2⟩:=g1 (f:=λi=>hp[i]?) (g:=λb=>some (HO.o b.1)) hh
   exact bm.app (a5 hp h1) (b6 hp h2)
 | [],_ :: _,_,h,_=>by cases h
 |_ :: _,[],_,h,_=>by cases h
end
end
end Sx
namespace Sx
open Go.ChangeShapes Go.WideShapes Go.ChangeAt Go.WideMaps Go.WideElems Go.RowKit
section
variable {H:Type} {enc:TypeId×Value->H} {P:TF}
def nm{w:World}{r:Reach}{b0:Nat}{u:TM}{v:Value}(h:Cell.okWide P w r b0 u v):Lies w v:=by
 rintro a len cap rfl
 have h1:∃e,w.has P r b0 a e cap:=by
  unfold Cell.okWide at h
  split at h<;>first|(rename_i e1 e2;cases e2;done)|(rename_i e1;cases e1;done)|skip
  all_goals
   unfold Cell.ok at h
   split at h<;>first|(cases h;done)|(rename_i e1 e2;cases e2;done)|skip
   all_goals first|(rename_i heq;injection heq with q1 q2 q3;subst q2 q3;cases q1;exact⟨_,h.2.2⟩)|skip
 obtain⟨e,_,h2,row,cells,h3,_⟩:=h1
 refine⟨h2,?_⟩
 unfold World.shape? at h3
 split at h3
 next c el fr e1=>
  exact⟨c,el,fr,e1⟩
 ·cases h3
def lies_val{w:World}{r:Reach}{b0:Nat}{t:TM}{v:Value}(h:Value.okWide P w r b0 t v):∀x∈v.cells.toList,Lies w x:=by
 intro x hx
 unfold Value.okWide at h
 split at h
 ·obtain⟨cs,rfl,_,ts,_,_,h2⟩:=h
  obtain⟨i,hi⟩:=qaM hx
  obtain⟨u,_,h3⟩:=h2 i x (by simpa[Value.cells]using hi)
  exact nm h3
 ·obtain⟨cs,rfl,_,ts,_,_,h2⟩:=h
  obtain⟨i,hi⟩:=qaM hx
  obtain⟨u,_,h3⟩:=h2 i x (by simpa[Value.cells]using hi)
  exact nm h3
 ·have:x=v∨∃cs,v = .agg cs:=by
   cases v<;>first|(right;exact⟨_,rfl⟩)|(left;simpa[Value.cells]using hx)
  rcases this with rfl|⟨cs,rfl⟩
  ·exact nm h
  ·exfalso
   unfold Cell.okWide at h
   split at h<;>first|(rename_i e1 e2;cases e2;done)|(rename_i e1;cases e1;done)|skip
   all_goals
    unfold Cell.ok at h
    split at h<;>first|(cases h;done)|(rename_i e1 e2;cases e2;done)|skip
def skC(P:TF)(t:TM)(cks:List CK2):Option SK:=
 match P.underlying t,cks with
 |some (.struct _),cks=>some (.agg (cks.map CK2.lk))
 |some (.int _),[k]=>some (.leaf k.lk)
 |some .bool,[k]=>some (.leaf k.lk)
 |some (.slice _),[k]=>some (.leaf k.lk)
 |_,_=>none
def posK(cks:List CK2):Bool:=cks.all λk=>match k with
 | .s ks=>Nat.blt 0 ks.length
 |_=>true
def posK_ok{cks:List CK2}(h:posK cks=true):∀ks,CK2.s ks∈cks->0<ks.length:=by
 intro ks hk
 have:=qag.1 h _ hk
 simpa[qbd]using this
section
variable [Val] [Glo]
structure Abs(W:World)(n0:Nat)(bl:List Blk2):Prop where
 ok:∀b∈bl,rX W b
abbrev MuAt(mu:HMap)(n0:Nat)(bl:List Blk2):Prop:=∀(i:Nat) b,bl[i]?=some b->mu (n0+i)=b.2
abbrev HpAt(hp:HL)(n0:Nat)(bl:List Blk2):Prop:=∀(i:Nat) b,bl[i]?=some b->hp[n0+i]?=some (.o b.1)
abbrev Stays(W W':World):Prop:=∀b,b<W.heap.size->W'.heap[b]?=W.heap[b]?
def open_arg2{W:World}{r:Reach}{b0:Nat}{held:Bool}{t:TM}{cks:List CK2}{sk:SK}{v:Value}{d:DataW H}{ps:List MemPlace}(h:ckT P 20 t=some cks)(hsk:skC P t cks=some sk)(hpos:posK cks=true)(hval:Value.okWide P W r b0 t v)(hd:DataW.Trod enc P W 0 (λ_=>true) held t v d ps)(n0:Nat) :
  ∃(x:S0) (bl:List Blk2),(∀b∈bl,rX W b)/\x.is sk=true/\x.good/\(∀mu:HMap,MuAt mu n0 bl->VR noL mu x.val v)/\(∀hp:HL,HpAt hp n0 bl->bm hp cks (x.cells.map SL.lf))/\
   ∀(W':World) (s':Ty),Stays W W'->(∀b,b<W.heap.size->s' b=true)->DataW.Trod enc P W' 0 s' held t v d ps:=by
 obtain⟨fuel,hf⟩:=hd
 obtain⟨a1,a2⟩:=ckT_ok 20 t cks h W held fuel _ _ (lies_val hval) hf
 obtain⟨xs,bl,b1,b2,b3,b4,b5,b6⟩:=ss (posK_ok hpos) a1 n0
 have close:∀(W':World) (s':Ty),Stays W W'->(∀b,b<W.heap.size->s' b=true)->DataW.Trod enc P W' 0 s' held t v d ps:=λW' s' h1 h2=>⟨fuel,a2 W' s' h1 h2⟩
 have leaf:(∀fs,P.underlying t≠some (.struct fs))->(∀n e,P.underlying t≠some (.array n e))->∀k,cks=[k]->sk = .leaf k.lk->∃(x:S0) (bl:List Blk2),(∀b∈bl,rX W b)/\x.is sk=true/\x.good/\(∀mu:HMap,MuAt mu n0 bl->VR noL mu x.val v)/\(∀hp:HL,HpAt hp n0 bl->bm hp cks (x.cells.map SL.lf))/\
   ∀(W':World) (s':Ty),Stays W W'->(∀b,b<W.heap.size->s' b=true)->DataW.Trod enc P W' 0 s' held t v d ps:=by
  rintro hs1 hs2 k rfl rfl
  have hv:v.cells.toList=[v]:=by
   have h1:=dO.len a1
   cases v with
   |agg cs=>
    exfalso
    unfold Value.okWide at hval
    split at hval
    next e=>exact hs1 _ e
    next e=>exact hs2 _ _ e
    ·unfold Cell.okWide at hval
     split at hval<;>first|(rename_i e1 e2;cases e2;done)|(rename_i e1;cases e1;done)|skip
     all_goals
      unfold Cell.ok at hval
      split at hval<;>first|(cases hval;done)|(rename_i e1 e2;cases e2;done)|skip
   |_=>simp[Value.cells]
  rw[hv]at a1 b4 b5
  obtain⟨x,rfl⟩ : ∃x,xs=[x]:=List.length_eq_one_iff.1 b4
  refine⟨.leaf x,bl,b1,?_,λl hl=>?_,λmu hmu=>?_,λhp hh=>b6 hp hh,close⟩
  ·show x.is k.lk=true
   simpa[aT]using b2
  ·simp only[S0.cells,qam]at hl
   subst hl;exact b3 _ qaE
  ·exact(b5 mu hmu).2 0 _ _ rfl rfl
 unfold skC at hsk
 split at hsk
 next fs e=>
  cases hsk
  obtain⟨cs,rfl,_⟩:=okWide_struct e hval
  refine⟨.agg xs,bl,b1,b2,b3,λmu hmu=>?_,λhp hh=>b6 hp hh,close⟩
  obtain⟨c1,c2⟩:=b5 mu hmu
  refine .agg (by simpa[Value.cells]using c1) λi x y hx hy=>c2 i x y (by simpa using hx) (by simpa[Value.cells]using hy)
 next k e=>cases hsk;exact leaf (λ_ h=>by rw[e]at h;cases h) (λ_ _ h=>by rw[e]at h;cases h) _ rfl rfl
 next e=>cases hsk;exact leaf (λ_ h=>by rw[e]at h;cases h) (λ_ _ h=>by rw[e]at h;cases h) _ rfl rfl
 next e' e=>cases hsk;exact leaf (λ_ h=>by rw[e]at h;cases h) (λ_ _ h=>by rw[e]at h;cases h) _ rfl rfl
 ·cases hsk
def argK(P:TF):List TypeId->Option (List (List CK2)×List SK)
 | []=>some ([],[])
 |t :: ts=>match ckT P 20 t,argK P ts with
  |some cks,some (l,sks)=>match skC P t cks,posK cks with
   |some sk,true=>some (cks :: l,sk :: sks)
   |_,_=>none
  |_,_=>none
def at_app{α:Type}{bl bl':List Blk2}{f:Nat->α}{g:Blk2->α}{n0:Nat}(h:∀(i:Nat) b,(bl++bl')[i]?=some b->f (n0+i)=g b):(∀(i:Nat) b,bl[i]?=some b->f (n0+i)=g b)/\∀(i:Nat) b,bl'[i]?=some b->f (n0+bl.length+i)=g b:=by
 refine⟨λi b hb=>h i b ?_,λi b hb=>?_⟩
 ·rw[qah (by
   rcases qaQ i bl.length with h|h
   ·exact h
   ·rw[qaj h]at hb;cases hb)];exact hb
 ·rw[qbG]
  refine h _ b ?_
  rw[qan (by omega),qcM];exact hb
def pG{W:World}{r:Reach}{b0:Nat}{held:Bool}:∀(ts:List TypeId) (l:List (List CK2)) (sks:TJ) (vs:Tl) (ds:List (DataW H)) (ps:List MemPlace) (n0:Nat),argK P ts=some (l,sks)->
  (∀(j:Nat) t v,ts[j]?=some t->vs[j]?=some v->Value.okWide P W r b0 t v)->DataW.TrodAll enc P W 0 (λ_=>true) held ts vs ds ps->
  ∃(xs:List S0) (bl:List Blk2),(∀b∈bl,rX W b)/\bZ xs sks=true/\(∀x∈xs,x.good)/\(∀mu:HMap,MuAt mu n0 bl->VRs noL mu (ai xs) vs)/\(∀hp:HL,HpAt hp n0 bl->bm hp l.flatten (cb xs))/\
   ∀(W':World) (s':Ty),Stays W W'->(∀b,b<W.heap.size->s' b=true)->DataW.TrodAll enc P W' 0 s' held ts vs ds ps
 | [],l,sks,[],[],ps,n0,h,_,ht=>by
  cases h
  exact⟨[],[],by simp,rfl,by simp,λmu _=>⟨rfl,λi x y h=>by simp[ai]at h⟩,λhp _=>trivial,λ_ _ _ _=>ht⟩
 |t :: ts,l,sks,v :: vs,d :: ds,ps,n0,h,hv,ht=>by
  simp only[argK]at h
  split at h
  next cks l' sks' e1 e2=>
   split at h
   next sk e3 e4=>
    cases h
    obtain⟨p,q,h1,h2,rfl⟩:=ht
    obtain⟨x,bl,a1,a2,a3,a4,a5,a6⟩:=open_arg2 e1 e3 e4 (hv 0 t v rfl rfl) h1 n0
    obtain⟨xs,bl',b1,b2,b3,b4,b5,b6⟩:=pG ts l' sks' vs ds q (n0+bl.length) e2 (λj t v h1 h2=>hv (j+1) t v h1 h2) h2
    refine⟨x :: xs,bl++bl',λb hb=>?_,by simp[bZ,a2,b2],λy hy=>?_,λmu hmu=>?_,λhp hh=>?_,λW' s' h1 h2=>⟨p,q,a6 W' s' h1 h2,b6 W' s' h1 h2,rfl⟩⟩
    ·rcases qau.1 hb with h|h
     ·exact a1 b h
     ·exact b1 b h
    ·rcases qal.1 hy with rfl|hy
     ·exact a3
     ·exact b3 y hy
    ·obtain⟨h1,h2⟩:=at_app (f:=mu) (g:=λb=>b.2) hmu
     have c1:=a4 mu h1
     obtain⟨c2,c3⟩:=b4 mu h2
     refine⟨by simpa[ai]using c2,λi p q hi hj=>?_⟩
     cases i with
     |zero=>
      simp only[ai,qas,qaR,qaq]at hi hj
      subst hi hj;exact c1
     |succ i=>exact c3 i p q (by simpa[ai]using hi) (by simpa using hj)
    ·obtain⟨h1,h2⟩:=at_app (f:=λi=>hp[i]?) (g:=λb=>some (HO.o b.1)) hh
     rw[qck]
     exact bm.app (a5 hp h1) (b5 hp h2)
   ·cases h
  ·cases h
 | [],_,_,_ :: _,_,_,_,_,_,ht=>by cases ht
 | [],_,_,[],_ :: _,_,_,_,_,ht=>by cases ht
 |_ :: _,_,_,[],_,_,_,_,_,ht=>by cases ht
 |_ :: _,_,_,_ :: _,[],_,_,_,_,ht=>by cases ht
def uh{C:Cfg}{f:TN}{args:Tl}{r:Value}{H':Ts}{bl:List Blk2}{W:World}(hbl:∀b∈bl,rX W b)(h:cM C f args (bl.map (·.1)) r H'){args':Tj}(hargs:∀mu:HMap,MuAt mu 0 bl->VRs noL mu args args'.toList)(hr:flat r=true)
  (hG:∀g vs,C.G g=some vs->gBlk g<W.heap.size/\vs.all aU=true/\∃c e fr,W.heap[gBlk g]?=some (.cells c e fr)/\bO (λ_=>none) vs c (gOff g)) (hf:∀g vs,C.G g=some vs->vs.all gfl=true) :
  Calls C.P f args' W λe W'=>e = .returned r/\W'.os=W.os/\W'.output=W.output/\W'.tape=W.tape/\∀b,b<W.heap.size->W'.heap[b]?=W.heap[b]?:=by
 let mu:HMap:=λid=>(bl[id]?).bind (·.2)
 have hmu:MuAt mu 0 bl:=λi b hb=>by simp only[mu,qaL,hb,qak]
 have hob:∀(id:Nat) o,(bl.map (·.1))[id]?=some o->∃b,bl[id]?=some b/\o=b.1/\rX W b:=by
  intro id o ho
  rw[qaz]at ho
  obtain⟨b,h1,rfl⟩:=qad.1 ho
  exact⟨b,h1,rfl,hbl b (qab h1)⟩
 have hun:∀(id:Nat) o,(bl.map (·.1))[id]?=some o->o.owned=false:=by
  intro id o ho
  obtain⟨b,_,rfl,h3⟩:=hob id o ho
  rcases h3 with h3|⟨vs,e,p,c,t,fr,h3,_⟩<;>rw[h3]<;>rfl
 have hno:∀b,¬Own mu (bl.map (·.1)) b:=by
  rintro b ⟨id,o,p,h1,h2,_⟩
  rw[hun id o h1]at h2;cases h2
 have hW0:WR C W.heap.size mu (bl.map (·.1)) W:=by
  refine⟨λid o h1 h2=>?_,λi j oi oj pi pj h1 h2 h3=>?_,λi o p h1 h2=>?_,λi o p h1 h2 _ h4=>?_,λid h1=>?_,λg vs hg=>?_⟩
  ·obtain⟨b,q1,rfl,q3⟩:=hob id o h1
   rcases q3 with q3|⟨vs,e,p,c,t,fr,q3,q4,q5,q6,q7,q8,q9,q10,q11⟩
   ·rw[q3]at h2;cases h2
   ·refine⟨p,by simp only[mu,q1,qak,q4],?_⟩
    rw[q3]
    refine⟨q5,q8,q7,c,t,fr,q9,q10,λh=>by(cases h),λi v hv=>⟨v,q11 i v hv,.of_flat (qag.1 q6 v (qab hv))⟩⟩
  ·rw[hun i oi h1]at h3;cases h3
  ·rw[hun i o h1]at h2;cases h2
  ·obtain⟨b,q1,rfl,q3⟩:=hob i o h1
   rcases q3 with q3|⟨vs,e,p',c,t,fr,q3,q4,q5,q6,q7,q8,q9,q10,q11⟩
   ·rw[q3]at h2;cases h2
   ·simp only[mu,q1,qak,q4,qaq]at h4
    subst h4
    rcases qaQ p'.b W.heap.size with h|h
    ·exact h
    ·rw[qbc h]at q9;cases q9
  ·simp only[mu]
   rw[qaj (by simpa using h1)];rfl
  ·obtain⟨h1,h2,c,e,fr,h4,h5⟩:=hG g vs hg
   exact⟨h1,h2,c,e,fr,h4,me (hf g vs hg) h5⟩
 intro cs
 obtain⟨v,mu',w',a1,a2,a3,_,a5⟩:=h _ W.heap.size mu W args' (qaf _) (hargs mu hmu) hW0 cs
 rw[fj hr a1]at a5
 obtain⟨fr,b1,b2,b3⟩:=a5
 exact⟨.returned r,w',fr,⟨rfl,a3.os,a3.output,a3.tape,λb hb=>a3.keep b hb (hno b)⟩,b1,b2,b3⟩
def post_sl{P:TF}{f:Func}{s:ChangeSpec}{apart fresh handsOn:Bool}{W W':World}{args:Tj}{v:Value}{ds gs:List (DataW H)}{before pa:List MemPlace}
  (hW:DataW.Whole enc P f.params.toList s.vars apart W args.toList ds gs before)
  (hres:∀(b:Nat) (sp:Ty) (hd:Bool),DataW.TrodAll enc P W' b sp hd f.resultTypes.toList (v.resultList f.resultTypes.size) (s.fn H (ds++gs)).results [])
  (hargs:DataW.TrodAll enc P W' 0 (λb=>decide (b<W.heap.size)) true f.params.toList args.toList (s.fn H (ds++gs)).args pa)
  (hvars:∀sp:Nat->Bool,DataW.TrodVars enc P W' sp s.vars (s.fn H (ds++gs)).vars [])
  (h1:W'.os=W.os) (h2:W'.output=W.output) (h3:∀b,b<W.heap.size->W'.heap[b]?=W.heap[b]?) :
  s.post enc P f apart fresh handsOn false W args v W':=
 ⟨ds,gs,before,[],pa,[],hW,hres _ _ _,hargs,hvars _,kept_of h1 h2 h3 _,λh=>by cases h⟩
end
end
section
variable [Val]
def gp{C:Cfg}{N:Tc}{Sg:Tb}(hm:C.P.follows .mixedOrders=true){g:TN}{sg:Sig}(hs:Sg g=some sg){ls rs:TE}{H H':Ts}(hc:let _:Kno:=KnoC C N;aw C Sg g ls H rs H'){xs ys:List S0}(h1:bZ xs sg.ps=true)(h2:cb xs=ls)(h3:bZ ys sg.rs=true)(h4:cb ys=rs) :
  cM C g (ai xs) H (fz (ai ys)) H':=by
 let _:Kno:=KnoC C N
 obtain⟨sg',xs',ys',c1,c2,c3,c4⟩:=hc
 rw[hs]at c1
 cases c1
 obtain⟨w1,_⟩:=cF c2.1 h1 (c2.2.1.trans h2.symm)
 obtain⟨w2,_⟩:=cF c3.1 h3 (c3.2.1.trans h4.symm)
 rw[w1,w2]at c4
 exact jL hm c4
end
end Sx
end Go.Am
namespace Go.Am
open Sx Go.Proofs Go.Shelf Go.Lib Go.Sort
namespace St
abbrev C5:=Fin 1024×Fin 3×Fin 4
def crF(a:C5):Crs:=(Int.ofNat a.1.val,Int.ofNat a.2.1.val,Int.ofNat a.2.2.val)
def enc5(a:C5):Tl:=encC (crF a)
def k5(a:C5):Int:=4*Int.ofNat a.1.val+Int.ofNat a.2.1.val
def cf5(a b:C5):Int:=k5 a - k5 b
def lt5(a b:C5):Go.Proofs.ltOf cf5 a b=decide (k5 a<k5 b):=by
 unfold Go.Proofs.ltOf cf5
 rw[decide_eq_decide]
 omega
def swo5:Go.Sort.SWO (Go.Proofs.ltOf cf5) where
 irrefl x:=by rw[lt5,qdB];omega
 trans x y z h1 h2:=by
  rw[lt5,qdA]at *
  omega
 ntrans x y z h1 h2:=by
  rw[lt5,decide_eq_false_iff_not]at *
  omega
def pat1_c{a b c a' b' c':Int}(h:0<=a/\a<=1023/\0<=b/\b<=2/\0<=a'/\a'<=1023/\0<=b'/\b'<=2):Cc 60 [.i a,.i b,.i c,.i a',.i b',.i c'] [.i (4*a+b - (4*a'+b'))]:=by
 refine q60 rfl ?_;unfold f60;simp only[qxh]
 repeat (first|simp(disch:=omega)only[↓qXX]|rw[p_sub (by omega) (by omega)]|rw[p_mul (by omega) (by omega)]|rw[p_add (by omega) (by omega)]|rw[p_conv (by omega) (by omega)])
 simp only[qax,Lf.i.injEq,and_true]
 omega
def cmp5(a b:C5):cM cc 60 [.agg ⟨enc5 a⟩,.agg ⟨enc5 b⟩] [] (.int .i64 (cf5 a b)) []:=by
 have ha:=a.1.isLt
 have hb:=b.1.isLt
 have ha2:=a.2.1.isLt
 have hb2:=b.2.1.isLt
 have hc:=pat1_c (a:=Int.ofNat a.1.val) (b:=Int.ofNat a.2.1.val) (c:=Int.ofNat a.2.2.val) (a':=Int.ofNat b.1.val) (b':=Int.ofNat b.2.1.val) (c':=Int.ofNat b.2.2.val) (by simp only[qaY];omega) []
 exact gp (N:=neuN) mixed (Sg:=ab) (sg:=⟨[.agg [.i .i64,.i .u8,.i .u8],.agg [.i .i64,.i .u8,.i .u8]],[li]⟩) rfl hc (xs:=[.agg [.i .i64 (Int.ofNat a.1.val),.i .u8 (Int.ofNat a.2.1.val),.i .u8 (Int.ofNat a.2.2.val)],.agg [.i .i64 (Int.ofNat b.1.val),.i .u8 (Int.ofNat b.2.1.val),.i .u8 (Int.ofNat b.2.2.val)]]) rfl rfl (ys:=[.leaf (.i .i64 (cf5 a b))]) rfl rfl
abbrev xa:Value:=.func (.func 60) ⟨[]⟩ ⟨[]⟩
def sort5_c{H:HL}{id cx:Nat}{J:List C5}(hid:H[id]?=some (.o (.cells ((J.map crF).flatMap encC) 3 true)))(h0:0<J.length)(hl:J.length<=100000) :
  ∃D:List C5,D.Perm J/\(D.Pairwise λx y=>¬k5 y<k5 x)/\aw cc ab 59 [.v (.slice (some ⟨id,0,tag 3⟩) J.length cx),.v xa] (absH aa H) [] (absH aa (putE H id 3 encC (D.map crF))):=by
 have e1:∀L:List C5,(L.map crF).flatMap encC=L.flatMap enc5:=λL=>by rw[List.flatMap_map];rfl
 refine⟨srt cf5 J,wD swo5 J,?_,?_⟩
 ·refine(wC swo5 J).imp λ{x y} h=>?_
  rw[lt5,decide_eq_false_iff_not]at h
  exact h
 ·have hid2:(absH aa H)[id]?=some (.cells (J.flatMap enc5) 3 true):=by
   rw[←e1]
   unfold absH
   rw[qaz,hid]
   rfl
  have hok:=nY (C:=cc) gM layC (enc:=enc5) (e:=3) (λw=>by kernel_rfl) (λw=>by kernel_rfl) (λ_=>rfl) (λx v hv=>by
   simp only[enc5,encC,qal,qbx,or_false]at hv
   rcases hv with rfl|rfl|rfl<;>rfl) swo5 (g:=60) (λargs w=>by kernel_rfl) cmp5 (cx:=cx) hid2 rfl h0 (by omega)
  have hset:(absH aa H).set id (.cells ((srt cf5 J).flatMap enc5) 3 true)=absH aa (putE H id 3 encC ((srt cf5 J).map crF)):=by
   unfold putE
   rw[e1,rY]
   rfl
  rw[hset]at hok
  exact⟨⟨[lv,lv],[]⟩,[.leaf (.v (.slice (some ⟨id,0,tag 3⟩) J.length cx)),.leaf (.v xa)],[],rfl,⟨rfl,rfl,λy hy=>by
   simp only[qal,qbx,or_false]at hy
   rcases hy with rfl|rfl
   ·exact au (show aS (.slice (some ⟨id,0,tag 3⟩) J.length cx)=true by simp[aS,noLoc,aZ,bz,bp,aR,aI,tag])
   ·exact au rfl⟩,⟨rfl,rfl,λy hy=>by cases hy⟩,⟨0,.inr ⟨.inl (by kernel_rfl),hok⟩⟩⟩
end St
end Go.Am
namespace Go.Am
open Sx Go.Proofs Tw
def has_c{h:HL}{x:Value}{l:List K3}(hl:LsH h x 3 cc3 l)(hn:l.length<=100000)(a:K3){p q r:Int}(ha:p=a.1/\q=a.2.1/\r=Int.ofNat a.2.2) :
  aw cc ab 18 [.v x,.i p,.i q,.i r] (absH aa h) [.b (decide (a∈l))] (absH aa h):=by
 obtain⟨rfl,rfl,rfl⟩:=ha
 exact xK x18 (glsV hl.good (glsI (glsI (glsI gls0)))) (by
  unfold f18;simp only[qxh]
  refine p_x ?_
  refine dg l.length (λj=>∀i,i<j->l[i]?≠some a) (j0:=0) rfl (qaO _) (λi hi=>by omega) ?_
  intro j hj he self hself
  refine p_x ?_
  refine bI hl ?_
  by_cases hlt:j<l.length
  ·rw[bf hlt]
   refine p_x ?_
   obtain⟨b,hb⟩:=aP hlt
   refine bQ hl rfl hb ?_
   unfold cc3
   refine p_x ?_
   rw[eqs3]
   by_cases hba:b=a
   ·subst hba
    rw[qdC rfl]
    refine p_x ?_
    exact⟨by rw[qdC (qab hb)],by trivial⟩
   ·rw[qdB hba]
    refine p_x ?_
    rw[bg (by omega)]
    refine hself hlt λi hi=>?_
    by_cases hij:i=j
    ·subst hij
     rw[hb]
     exact λe=>hba (qae e)
    ·exact he i (by omega)
  ·rw[bj (by omega)]
   refine p_x ?_
   refine⟨?_,by trivial⟩
   rw[qdB]
   intro hm
   obtain⟨i,hi⟩:=qaM hm
   exact he i (by have:=av hi;omega) hi)
def sqC(c:Sq):K3:=(c.1,c.2,0)
def nZ{a b:Sq}(h:sqC a=sqC b):a=b:=by
 unfold sqC at h
 simp only[qbY,and_true]at h
 exact qcC h.1 h.2
def iY{a:Sq}{l:List Sq}:sqC a∈l.map sqC↔a∈l:=by
 rw[qaU]
 constructor
 ·rintro⟨b,hb,e⟩
  exact nZ e▸hb
 ·exact λh=>⟨a,h,rfl⟩
structure Grown(b:Int)(L:List Sq):Prop where
 ne:0<L.length
 le:L.length<=12
 nd:L.Nodup
 con:Con L
 bd:∀c∈L,-b<=c.1/\c.1<=b/\-b<=c.2/\c.2<=b
def Grown.mono{b b':Int}{L:List Sq}(h:Grown b L)(hb:b<=b'):Grown b' L:=⟨h.ne,h.le,h.nd,h.con,λc hc=>by have:=h.bd c hc;omega⟩
def Grown.push{b:Int}{L:List Sq}(h:Grown b L){d:Sq}{k:Nat}(hd:d∈L)(hk:k<4)(hn:bes d k∉L)(hl:L.length<12):Grown (b+1) (L++[bes d k]):=by
 refine⟨by simp,by simp;omega,?_,?_,?_⟩
 ·rw[qb2]
  refine⟨h.nd,by simp,?_⟩
  intro a ha c hc
  simp only[qam]at hc
  subst hc
  exact λe=>hn (e▸ha)
 ·intro i c hi h0
  by_cases hlt:i<L.length
  ·rw[qah hlt]at hi
   obtain⟨j,d',k',a1,a2,a3,a4⟩:=h.con i c hi h0
   exact⟨j,d',k',a1,by rw[qah (av a2)];exact a2,a3,a4⟩
  ·have hi':=av hi
   simp only[qaB,qaD,qbA]at hi'
   obtain rfl:i=L.length:=by omega
   rw[qan (qaf _),qbu]at hi
   simp only[qaR,qaq]at hi
   obtain⟨j,hj⟩:=qaM hd
   exact⟨j,d,k,av hj,by rw[qah (av hj)];exact hj,hk,hi⟩
 ·intro c hc
  rcases qau.1 hc with hc|hc
  ·have:=h.bd c hc;omega
  ·simp only[qam]at hc
   subst hc
   have:=h.bd d hd
   have hk':k=0∨k=1∨k=2∨k=3:=by omega
   rcases hk' with rfl|rfl|rfl|rfl<;>simp only[bes]<;>omega
def OwnL.lenB{α:Type}{n0 e:Nat}{enc:α->Tl}{l:List α}{h:HL}{v:Value}(ho:OwnL n0 h v e enc l):lenS v=some (.ofNat l.length):=by
 rcases ho with⟨rfl,rfl⟩|⟨id,cx,rfl,_⟩<;>rfl
def size3{n:Nat}(h:n<=1000000):bJ n 24=true:=by
 unfold bJ
 rw[qaZ (by omega),qaZ (by omega)];rfl
def ou(p:Int×Int):Tl:=[.int .u8 p.1,.int .u8 p.2]
def sF(p:Int×Int):(ou p).length=2:=rfl
def r_idx{h:HL}{v:Value}{l:List (Int×Int)}{i o:Nat}{a:Int×Int}{n:Int}{cs:Tl}{K:Te}(hs:LsH h v 2 ou l)(hn:n=Int.ofNat i)(hi:l[i]?=some a)(ho:o<2)(hcs:cs=((ou a).drop o).take 1)(hk:K cs) :
  P1.opt (idS 2 v n) (@hid _ ⟨λx=>P1.opt (idP 2 1 x (Int.ofNat o)) (@hid _ ⟨λy=>P1.chk y (@hid _ ⟨P1.peek (.lg cc 1 y) h (@hid _ ⟨K⟩)⟩)⟩)⟩):=by
 subst hn hcs
 obtain⟨p,h1,h2⟩:=hs.at hi
 obtain⟨q,h3,h4⟩:=h2.fd o 1 (by rw[sF];omega)
 refine af h1 (af (x:=q) ?_ (ak h4.good (dc (h4.lg ?_) hk)))
 ·obtain⟨id,o',vs,e,rw',rfl,_,_⟩:=h2
  have ho':o=0∨o=1:=by omega
  rcases ho' with rfl|rfl<;>· rw[←h3];rfl
 ·rw[qaG,qbO,sF];omega
def rem_nat{k:TI}{a b:Nat}{K:Tu}(hb:0<b):P1.ari .rem k (Int.ofNat a) (Int.ofNat b) (@hid _ ⟨K⟩)=K (Int.ofNat (a%b)):=by
 rw[p_rem_nn (show(0:Int)<=Int.ofNat a from qat a) (by show(0:Int)<(b:Int);omega)]
 rfl
def OfOk(H:HL)(rs:TE)(h':HL):Prop:=∃v L,rs=[.v v]/\Grown 43 L/\OwnL H.length h' v 3 cc3 (L.map sqC)/\Low H.length H h'/\H.length<=h'.length
def of_c{H:HL}{x:Value}{G:List (Int×Int)}(hG:LsH H x 2 ou G)(hb:∀a∈G,(0<=a.1/\a.1<=255)/\0<=a.2/\a.2<=255){X Y:Int}(hX:0<=X/\X<=255)(hY:0<=Y/\Y<=255) :
  ∃rs h',aw cc ab 5 [.i X,.i Y,.v x] (absH aa H) rs (absH aa h')/\OfOk H rs h':=by
 exact x5 (K:=OfOk H) (glsI (glsI (glsV hG.good gls0))) (by
  unfold f5;simp only[qxh]
  refine p_x ?_
  have hx7:0<=X%7/\X%7<7:=by omega
  have hy7:0<=Y%7/\Y%7<7:=by omega
  generalize X%7=x7 at *
  generalize Y%7=y7 at *
  refine bG (σ:=Value×HL×List Sq) G.length (λj s=>[.v s.1,.i (Int.ofNat j)]) (λ_ s=>s.2.1) (λj s=>OwnL H.length s.2.1 s.1 3 cc3 (s.2.2.map sqC)/\Grown (3+Int.ofNat (min j 40)) s.2.2/\Low H.length H s.2.1/\H.length<=s.2.1.length) (j0:=0)
   (s0:=(.slice (some ⟨H.length,0,some 13⟩) 1 2,H++[.o (.cells [.int .i64 (x7 - 3),.int .i64 (y7 - 3),.int .u8 0] 3 true)],[(x7 - 3,y7 - 3)])) rfl rfl (qaO _) ⟨.inr ⟨H.length,2,rfl,qaf _,aH,.inr rfl⟩,⟨by simp,by simp,by simp,λi c hi h0=>by
    have:=av hi
    simp only[qaD,qbA]at this
    omega,λc hc=>by
    simp only[qam]at hc
    subst hc
    simp only[qaO,qa5]
    show -(3+((0:Nat):Int))<=x7 - 3/\x7 - 3<=3+((0:Nat):Int)/\-(3+((0:Nat):Int))<=y7 - 3/\y7 - 3<=3+((0:Nat):Int)
    omega⟩,(Low.refl H).app _,by simp⟩ ?_
  rintro j ⟨v,h,L⟩ hj ⟨ho,hg,hlow,hlen⟩ self hself
  simp only at ho hg hlow hlen hself
  have hfin:OfOk H [.v v] h:=⟨v,L,rfl,hg.mono (by
   have:=Nat.min_le_right j 40
   show 3+((min j 40:Nat):Int)<=43
   omega),ho,hlow,hlen⟩
  refine p_x ?_
  refine bI (hG.low hlow) ?_
  by_cases hlt:j<G.length
  case neg=>
   rw[bj (by omega)]
   refine p_x ?_
   exact hfin
  rw[bf hlt]
  refine p_x ?_
  refine af ho.lenB ?_
  rw[qay]
  by_cases h12:L.length<12
  case neg=>
   rw[p_lss_f (by show(12:Int)<=(L.length:Int);omega)]
   refine p_x ?_
   exact hfin
  rw[p_lss_t (by show(L.length:Int)<12;omega)]
  refine p_x ?_
  by_cases h40:j<40
  case neg=>
   rw[p_lss_f (by show(40:Int)<=(j:Int);omega)]
   refine p_x ?_
   exact hfin
  rw[p_lss_t (by show(j:Int)<40;omega)]
  refine p_x ?_
  obtain⟨a,ha⟩:=aP hlt
  obtain⟨⟨a1,a2⟩,a3,a4⟩:=hb a (qab ha)
  refine r_idx (o:=0) (hG.low hlow) rfl ha (by omega) rfl ?_
  simp only[ou,qaV,qaW,qbb]
  refine p_x ?_
  refine af ho.lenB ?_
  rw[qay]
  obtain⟨u,hu⟩ : ∃u:Nat,a.1=Int.ofNat u:=⟨a.1.toNat,by show a.1=((a.1.toNat:Nat):Int);omega⟩
  rw[hu,rem_nat hg.ne]
  have hlt2:u%L.length<L.length:=qbD _ hg.ne
  obtain⟨c,hc⟩:=aP hlt2
  refine bQ (ho.ls cB) rfl (by rw[qaz,hc];rfl) ?_
  simp only[sqC,cc3]
  refine p_x ?_
  refine r_idx (o:=1) (hG.low hlow) rfl ha (by omega) rfl ?_
  simp only[ou,qbr,qaV,qaW,qbb]
  refine p_x ?_
  have hcm:=qab hc
  have hcb:=hg.bd c hcm
  have hmn:Int.ofNat (min j 40)=(j:Int):=by
   rw[qa5 (by omega)];rfl
  have hm1:Int.ofNat (min (j+1) 40)=(j:Int)+1:=by
   rw[qa5 (by omega)];rfl
  rw[hmn]at hg hcb
  have body:∀k,k<4->∀v',(bes c k∉L->∀h',OwnL H.length h' v' 3 cc3 ((L++[bes c k]).map sqC)->Low H.length H h'->H.length<=h'.length->self [.v v',.i (Int.ofNat j+1)] h')/\(bes c k∈L->self [.v v,.i (Int.ofNat j+1)] h):=λk hk v'=>⟨λhn h' b1 b2 b3=>hself (v',h',L++[bes c k]) hlt ⟨b1,by
   rw[hm1]
   have:=hg.push hcm hk hn h12
   exact this.mono (by omega),b2,b3⟩,λ_=>hself (v,h,L) hlt ⟨ho,by rw[hm1];exact hg.mono (by omega),hlow,hlen⟩⟩
  refine vX λt ht=>?_
  refine ij (λl' h'=>∃k,k<4/\l'=[.i (bes c k).1,.i (bes c k).2,.i 0]/\h'=h) ?_ ?_
  ·rintro _ _ ⟨k,hk,rfl,rfl⟩
   refine p_x ?_
   refine ah (has_c (ho.ls cB) (by rw[qay];have:=hg.le;omega) (sqC (bes c k)) ⟨rfl,rfl,rfl⟩) ?_
   refine p_x ?_
   by_cases hm:bes c k∈L
   ·rw[qdC (iY.2 hm)]
    simp(disch:=omega)only[↓qXX,qaI]
    rw[bg (by omega)]
    exact(body k hk v).2 hm
   ·rw[qdB (λe=>hm (iY.1 e))]
    simp(disch:=omega)only[↓qXX,qba]
    refine ho.ap1 (a:=sqC (bes c k)) cB hlen rfl rfl rfl (size3 (by rw[qay];omega)) λv' h' b1 b2 b3 b4 b5=>?_
    refine p_x ?_
    refine ak b2 ?_
    refine p_x ?_
    rw[bg (by omega)]
    refine(body k hk v').1 hm h' (by rw[qbB];exact b1) (λi o hi hoo=>b3 i o (hlow i o hi hoo) λe=>?_) (by omega)
    have:=ho.blk e
    omega
  ·intro jn hjn
   have e4:a.2%4=0∨a.2%4=1∨a.2%4=2∨a.2%4=3:=by omega
   have k0:=hjn _ _ ⟨0,by omega,rfl,rfl⟩
   have k1:=hjn _ _ ⟨1,by omega,rfl,rfl⟩
   have k2:=hjn _ _ ⟨2,by omega,rfl,rfl⟩
   have k3:=hjn _ _ ⟨3,by omega,rfl,rfl⟩
   simp only[bes]at k0 k1 k2 k3
   rcases e4 with e|e|e|e<;>rw[e]at ht ⊢
   ·obtain rfl:t=true:=ht
    refine p_x ?_
    exact k0
   ·obtain rfl:t=false:=ht
    refine p_x ?_
    exact k1
   ·obtain rfl:t=false:=ht
    refine p_x ?_
    exact k2
   ·obtain rfl:t=false:=ht
    refine p_x ?_
    exact k3)
end Go.Am
namespace Go.Am
open Sx Go.Proofs
section
variable {α:Type} {key:α->Int}
def SP(a b:Nat)(l l':List α):Prop:=l'.Perm l/\∀i,(i<a∨b<=i)->l'[i]?=l[i]?
def SP.refl(a b:Nat)(l:List α):SP a b l l:=⟨List.Perm.refl _,λ_ _=>rfl⟩
def SP.len{a b:Nat}{l l':List α}(h:SP a b l l'):l'.length=l.length:=h.1.length_eq
def SP.trans{a b:Nat}{l l' l'':List α}(h:SP a b l l')(k:SP a b l' l''):SP a b l l'':=⟨k.1.trans h.1,λi hi=>(k.2 i hi).trans (h.2 i hi)⟩
def SP.mono{a b a' b':Nat}{l l':List α}(h:SP a b l l')(ha:a'<=a)(hb:b<=b'):SP a' b' l l':=⟨h.1,λi hi=>h.2 i (by omega)⟩
def get_eq{l:List α}{i:Nat}{x:α}(h:l[i]?=some x):∃hi:i<l.length,l[i]=x:=qaP.1 h
def SP.swap{a b i j:Nat}{l:List α}{x y:α}(hx:l[i]?=some x)(hy:l[j]?=some y)(hi:a<=i/\i<b)(hj:a<=j/\j<b):SP a b l ((l.set i y).set j x):=by
 obtain⟨h1,e1⟩:=get_eq hx
 obtain⟨h2,e2⟩:=get_eq hy
 refine⟨?_,λk hk=>?_⟩
 ·have:=@List.set_set_perm α l i j h1 h2
  rw[e1,e2]at this
  exact this
 ·rw[qaA (by omega),qaA (by omega)]
def wF{l:List α}{i j k:Nat}{x y:α}(hx:l[i]?=some x)(hy:l[j]?=some y):((l.set i y).set j x)[k]?=if k=j then some x else if k=i then some y else l[k]?:=by
 have h1:=av hx
 have h2:=av hy
 by_cases hj:k=j
 ·subst hj
  rw[qdD rfl,qaH (by rw[qbl];exact h2)]
 ·rw[qdE hj,qaA (qcs hj)]
  by_cases hi:k=i
  ·subst hi
   rw[qdD rfl,qaH h1]
  ·rw[qdE hi,qaA (qcs hi)]
def seg_eq{a b:Nat}{l:List α}(hab:a<=b):l=l.take a++((l.drop a).take (b - a)++l.drop b):=by
 have h1:=qbt a l
 have h2:=qbt (b - a) (l.drop a)
 rw[qbU,show a+(b - a)=b by omega]at h2
 rw[h2,h1]
def SP.mem{a b:Nat}{l l':List α}(h:SP a b l l')(hab:a<=b)(hb:b<=l.length){i:Nat}{x:α}(hi:a<=i/\i<b)(hx:l'[i]?=some x):∃j,a<=j/\j<b/\l[j]?=some x:=by
 have e1:l'.take a=l.take a:=by
  apply qa0
  intro k
  rw[qaT,qaT]
  split
  ·exact h.2 k (.inl (by omega))
  ·rfl
 have e2:l'.drop b=l.drop b:=by
  apply qa0
  intro k
  rw[qaX,qaX]
  exact h.2 _ (.inr (by omega))
 have hp:=h.1
 rw[seg_eq (l:=l) hab,seg_eq (l:=l') hab,e1,e2,List.perm_append_left_iff,List.perm_append_right_iff]at hp
 have hm:x∈(l'.drop a).take (b - a):=by
  refine qab (i:=i - a) ?_
  rw[qaT,qdD (by omega),qaX,show a+(i - a)=i by omega]
  exact hx
 obtain⟨k,hk⟩:=qaM (hp.mem_iff.1 hm)
 rw[qaT]at hk
 split at hk
 ·rw[qaX]at hk
  exact⟨a+k,by omega,by omega,hk⟩
 ·cases hk
def SS(key:α->Int)(a b:Nat)(l:List α):Prop:=∀i j x y,a<=i->i<j->j<b->l[i]?=some x->l[j]?=some y->key x<=key y
def SS.one{a b:Nat}{l:List α}(h:b<=a+1):SS key a b l:=λi j x y h1 h2 h3=>by omega
def BL(key:α->Int)(a b c d:Nat)(l:List α):Prop:=∀i j x y,a<=i->i<b->c<=j->j<d->l[i]?=some x->l[j]?=some y->key x<=key y
def SS.join{a m b:Nat}{l:List α}(h1:SS key a m l)(h2:SS key m b l)(h:BL key a m m b l):SS key a b l:=by
 intro i j x y hi hij hj hx hy
 by_cases h3:j<m
 ·exact h1 i j x y hi hij h3 hx hy
 ·by_cases h4:m<=i
  ·exact h2 i j x y h4 hij hj hx hy
  ·exact h i j x y hi (by omega) (by omega) hj hx hy
def SS.keep{a b c d:Nat}{l l':List α}(h:SS key a b l)(hp:SP c d l l')(hd:b<=c∨d<=a):SS key a b l':=by
 intro i j x y hi hij hj hx hy
 rw[hp.2 i (by omega)]at hx
 rw[hp.2 j (by omega)]at hy
 exact h i j x y hi hij hj hx hy
def BL.keep{a b c d p q:Nat}{l l':List α}(h:BL key a b c d l)(hp:SP p q l l')(hpq:p<=q/\q<=l.length)(h1:(a<=p/\q<=b)∨b<=p∨q<=a)(h2:(c<=p/\q<=d)∨d<=p∨q<=c):BL key a b c d l':=by
 intro i j x y hi hib hj hjd hx hy
 have fx:∃i',a<=i'/\i'<b/\l[i']?=some x:=by
  by_cases hin:p<=i/\i<q
  ·obtain⟨k,k1,k2,k3⟩:=hp.mem hpq.1 hpq.2 hin hx
   exact⟨k,by omega,by omega,k3⟩
  ·rw[hp.2 i (by omega)]at hx
   exact⟨i,hi,hib,hx⟩
 have fy:∃j',c<=j'/\j'<d/\l[j']?=some y:=by
  by_cases hin:p<=j/\j<q
  ·obtain⟨k,k1,k2,k3⟩:=hp.mem hpq.1 hpq.2 hin hy
   exact⟨k,by omega,by omega,k3⟩
  ·rw[hp.2 j (by omega)]at hy
   exact⟨j,hj,hjd,hy⟩
 obtain⟨i',i1,i2,i3⟩:=fx
 obtain⟨j',j1,j2,j3⟩:=fy
 exact h i' j' x y i1 i2 j1 j2 i3 j3
structure InsI(key:α->Int)(a i j:Nat)(l:List α):Prop where
 srt:∀p q x y,a<=p->p<q->q<=i->p≠j->q≠j->l[p]?=some x->l[q]?=some y->key x<=key y
 low:∀q x y,j<q->q<=i->l[j]?=some x->l[q]?=some y->key x<=key y
def InsI.start{a i:Nat}{l:List α}(h:SS key a i l):InsI key a i i l:=⟨λp q x y h1 h2 h3 h4 h5=>h p q x y h1 h2 (by omega),λq x y h1 h2=>by omega⟩
def InsI.done{a i j:Nat}{l:List α}(h:InsI key a i j l)(hj:a<=j/\j<=i)(hl:j=a∨∃x y,l[j]?=some x/\l[j - 1]?=some y/\key y<=key x):SS key a (i+1) l:=by
 intro p q x y hp hpq hq hx hy
 by_cases h1:p=j
 ·subst h1
  exact h.low q x y hpq (by omega) hx hy
 ·by_cases h2:q=j
  ·subst h2
   rcases hl with hl|⟨u,v,hu,hv,huv⟩
   ·omega
   ·rw[hy]at hu
    cases hu
    by_cases h3:p=q - 1
    ·subst h3
     rw[hx]at hv
     cases hv
     exact huv
    ·have:=h.srt p (q - 1) x v hp (by omega) (by omega) h1 (by omega) hx hv
     omega
  ·exact h.srt p q x y hp hpq (by omega) h1 h2 hx hy
def InsI.step{a i j:Nat}{l:List α}{x y:α}(h:InsI key a i j l)(hj:a<j/\j<=i)(hx:l[j]?=some x)(hy:l[j - 1]?=some y)(hlt:key x<key y):InsI key a i (j - 1) ((l.set j y).set (j - 1) x):=by
 have g:∀k,((l.set j y).set (j - 1) x)[k]?=if k=j - 1 then some x else if k=j then some y else l[k]?:=λk=>wF hx hy
 refine⟨λp q u v hp hpq hq h1 h2 hu hv=>?_,λq u v hq hqi hu hv=>?_⟩
 ·rw[g,qdE h1]at hu
  rw[g,qdE h2]at hv
  by_cases hpj:p=j
  ·rw[qdD hpj]at hu
   cases hu
   rw[qdE (by omega)]at hv
   exact h.srt (j - 1) q y v (by omega) (by omega) hq (by omega) (by omega) hy hv
  ·rw[qdE hpj]at hu
   by_cases hqj:q=j
   ·rw[qdD hqj]at hv
    cases hv
    exact h.srt p (j - 1) u y hp (by omega) (by omega) (by omega) (by omega) hu hy
   ·rw[qdE hqj]at hv
    exact h.srt p q u v hp hpq hq hpj hqj hu hv
 ·rw[g,qdD rfl]at hu
  cases hu
  rw[g,qdE (by omega)]at hv
  by_cases hqj:q=j
  ·rw[qdD hqj]at hv
   cases hv
   omega
  ·rw[qdE hqj]at hv
   exact h.low q x v (by omega) hqi hx hv
def HpX(key:α->Int)(lo hi f r:Nat)(l:List α):Prop:=∀k c x y,lo<=k->k≠r->(c=2*k+1∨c=2*k+2)->c<hi->l[f+k]?=some x->l[f+c]?=some y->key y<=key x
def Hp1(key:α->Int)(lo hi f:Nat)(l:List α):Prop:=∀k c x y,lo<=k->(c=2*k+1∨c=2*k+2)->c<hi->l[f+k]?=some x->l[f+c]?=some y->key y<=key x
def HpP(key:α->Int)(lo hi f r:Nat)(l:List α):Prop:=∀k c x y,lo<=k->(r=2*k+1∨r=2*k+2)->(c=2*r+1∨c=2*r+2)->c<hi->l[f+k]?=some x->l[f+c]?=some y->key y<=key x
def Hp1.max{hi f:Nat}{l:List α}(h:Hp1 key 0 hi f l)(hl:f+hi<=l.length){x:α}(hx:l[f]?=some x):∀(i:Nat) y,i<hi->l[f+i]?=some y->key y<=key x:=by
 intro i
 induction i using Nat.strongRecOn with
 |ind i ih=>
  intro y hi' hy
  by_cases h0:i=0
  ·subst h0
   rw[qca,hx]at hy
   cases hy
   exact qdy _
  ·obtain⟨z,hz⟩:=aP (l:=l) (i:=f+(i - 1) / 2) (by omega)
   have h1:=ih ((i - 1) / 2) (by omega) z (by omega) hz
   have h2:=h ((i - 1) / 2) i z y (qaO _) (by omega) hi' hz hy
   omega
def HpX.done{lo hi f r:Nat}{l:List α}(h:HpX key lo hi f r l)(hr:∀c x y,(c=2*r+1∨c=2*r+2)->c<hi->l[f+r]?=some x->l[f+c]?=some y->key y<=key x):Hp1 key lo hi f l:=by
 intro k c x y hk hc hch hx hy
 by_cases e:k=r
 ·subst e
  exact hr c x y hc hch hx hy
 ·exact h k c x y hk e hc hch hx hy
def HpX.step{lo hi f r c:Nat}{l:List α}{x y:α}(h:HpX key lo hi f r l)(hp:HpP key lo hi f r l)(hr:lo<=r)(hc:c=2*r+1∨c=2*r+2)(hch:c<hi)(hx:l[f+r]?=some x)(hy:l[f+c]?=some y)(hxy:key x<key y)
  (hmax:∀d z,(d=2*r+1∨d=2*r+2)->d<hi->l[f+d]?=some z->key z<=key y):HpX key lo hi f c ((l.set (f+r) y).set (f+c) x)/\HpP key lo hi f c ((l.set (f+r) y).set (f+c) x):=by
 have g:∀k,((l.set (f+r) y).set (f+c) x)[f+k]?=if k=c then some x else if k=r then some y else l[f+k]?:=λk=>by
  rw[wF hx hy]
  simp only[Nat.add_left_cancel_iff]
 refine⟨λk d u v hk hkc hd hdh hu hv=>?_,λk d u v hk hkc hd hdh hu hv=>?_⟩
 ·rw[g,qdE hkc]at hu
  rw[g]at hv
  by_cases hkr:k=r
  ·rw[qdD hkr]at hu
   cases hu
   by_cases hdc:d=c
   ·rw[qdD hdc]at hv
    cases hv
    omega
   ·rw[qdE hdc,qdE (by omega)]at hv
    exact hmax d v (by omega) hdh hv
  ·rw[qdE hkr]at hu
   by_cases hdc:d=c
   ·omega
   ·rw[qdE hdc]at hv
    by_cases hdr:d=r
    ·rw[qdD hdr]at hv
     cases hv
     exact hp k c u y hk (by omega) hc hch hu hy
    ·rw[qdE hdr]at hv
     exact h k d u v hk hkr hd hdh hu hv
 ·rw[g]at hu hv
  have hkr:k=r:=by omega
  rw[qdE (by omega),qdD hkr]at hu
  cases hu
  rw[qdE (by omega),qdE (by omega)]at hv
  exact h c d y v (by omega) (by omega) hd hdh hy hv
end
end Go.Am
namespace Go.Am
open Sx Go.Proofs Tw
def OwnL.set{α:Type}{n0 e:Nat}{enc:α->Tl}{l:List α}{h:HL}{v:Value}(henc:∀a,(enc a).length=e)(ho:OwnL n0 h v e enc l){i:Nat}{a:α}{n:Int}{new:Tl}{K:Ta}(hn:n=Int.ofNat i)(hi:i<l.length)(hnew:new=enc a)
  (hk:∀h',OwnL n0 h' v e enc (l.set i a)->(∀(j:Nat) o,h[j]?=some o->Sx.blk v≠some j->h'[j]?=some o)->h'.length=h.length->K [] h'):P1.opt (idS e v n) (@hid _ ⟨λx=>P1.heap (.st x new) h (@hid _ ⟨K⟩)⟩):=by
 rcases ho with⟨rfl,rfl⟩|⟨id,cx,rfl,h1,h2,h3⟩
 ·simp at hi
 ·have hp:putE h id e enc l=h:=by
   unfold putE
   exact eK h2
  have:=r_set (C:=cc) (Sg:=ab) (T:=aa) (h:=h) (id:=id) (cx:=cx) (len:=l.length) (l:=l) (K:=K) henc (av h2) hn hi rfl hnew (hk (putE h id e enc (l.set i a)) (.inr ⟨id,cx,by rw[qbl],h1,dN (av h2),by rw[qbl];exact h3⟩) (λj o hj hb=>by
   unfold putE
   rw[qaA (λe=>hb (by subst e;rfl))]
   exact hj) (by simp[putE]))
  rw[hp]at this
  exact this
def quad(c:Sq):List K3:=[(c.1,c.2,0),(c.1,c.2,1),(c.1,c.2,2),(c.1,c.2,3)]
def rB{c:Sq}{a:K3}:a∈quad c↔(a.1,a.2.1)=c/\a.2.2<4:=by
 obtain⟨x,y,q⟩:=a
 obtain⟨u,v⟩:=c
 simp only[quad,qal,qbx,or_false,qbY]
 omega
def quad_take{c:Sq}{q:Nat}(hq:q<4):(quad c).take (q+1)=(quad c).take q++[(c.1,c.2,q)]:=by
 have:q=0∨q=1∨q=2∨q=3:=by omega
 rcases this with rfl|rfl|rfl|rfl<;>rfl
def eI(L:List Sq):(L.flatMap quad).length=4*L.length:=by
 induction L with
 |nil=>rfl
 |cons a L ih=>rw[qbz,qaB,ih,qaD];show 4+_=_;omega
def ik{L:List Sq}(h:L.Nodup):(L.flatMap quad).Nodup:=by
 induction L with
 |nil=>simp
 |cons a L ih=>
  rw[qbX]at h
  rw[qbz,qb2]
  refine⟨by simp[quad],ih h.2,?_⟩
  intro x hx y hy e
  subst e
  obtain⟨b,hb,hxb⟩:=qbI.1 hy
  rw[rB]at hx hxb
  exact h.1 (hx.1.symm.trans hxb.1▸hb)
def cX{L:List Sq}{a:K3}:a∈L.flatMap quad↔(a.1,a.2.1)∈L/\a.2.2<4:=by
 rw[qbI]
 constructor
 ·rintro⟨c,hc,h⟩
  rw[rB]at h
  exact⟨h.1▸hc,h.2⟩
 ·rintro⟨h1,h2⟩
  exact⟨_,h1,rB.2 ⟨rfl,h2⟩⟩
def keyC(a:K3):Int:=(a.2.1*10000+a.1)*4+Int.ofNat a.2.2
def inC(a:K3):Prop:=(-4096<=a.1/\a.1<=4096)/\(-4096<=a.2.1/\a.2.1<=4096)/\a.2.2<4
def ltC3(a b:K3):Prop:=a.2.1<b.2.1∨(a.2.1=b.2.1/\(a.1<b.1∨(a.1=b.1/\a.2.2<b.2.2)))
instance (a b : K3) : Decidable (ltC3 a b) := by unfold ltC3; exact inferInstance
def key_lt{a b:K3}(ha:inC a)(hb:inC b):keyC a<keyC b↔ltC3 a b:=by
 obtain⟨⟨a1,a2⟩,⟨a3,a4⟩,a5⟩:=ha
 obtain⟨⟨b1,b2⟩,⟨b3,b4⟩,b5⟩:=hb
 unfold keyC ltC3
 show(a.2.1*10000+a.1)*4+((a.2.2:Nat):Int)<(b.2.1*10000+b.1)*4+((b.2.2:Nat):Int)↔_
 omega
def before_c{a b:K3}(ha:inC a)(hb:inC b){p q r p' q' r':Int}(h1:p=a.1/\q=a.2.1/\r=Int.ofNat a.2.2)(h2:p'=b.1/\q'=b.2.1/\r'=Int.ofNat b.2.2):Cc 19 [.i p,.i q,.i r,.i p',.i q',.i r'] [.b (decide (keyC a<keyC b))]:=by
 obtain⟨rfl,rfl,rfl⟩:=h1
 obtain⟨rfl,rfl,rfl⟩:=h2
 rw[show decide (keyC a<keyC b)=decide (ltC3 a b)from decide_eq_decide.2 (key_lt ha hb)]
 have hq:∀u w:Nat,(Int.ofNat u<Int.ofNat w)=(u<w):=λu w=>by
  show((u:Int)<(w:Int))=_
  simp
 refine q19 rfl ?_;unfold f19;simp only[qxh]
 unfold ltC3
 by_cases hy:a.2.1=b.2.1
 ·by_cases hx:a.1=b.1
  ·by_cases hz:a.2.2<b.2.2
   ·have hz':Int.ofNat a.2.2<Int.ofNat b.2.2:=by rw[hq];exact hz
    refine p_x ?_
    simp[hx,hy,hz]
   ·have hz':¬Int.ofNat a.2.2<Int.ofNat b.2.2:=by rw[hq];exact hz
    refine p_x ?_
    simp[hx,hy,hz]
  ·by_cases hz:a.1<b.1
   ·simp(disch:=omega)only[↓qXX]
    simp[hx,hy,hz]
   ·simp(disch:=omega)only[↓qXX]
    simp[hx,hy,hz]
 ·by_cases hz:a.2.1<b.2.1
  ·simp(disch:=omega)only[↓qXX]
   simp[hy,hz]
  ·simp(disch:=omega)only[↓qXX]
   simp[hy,hz]
structure SetOf(L:List Sq)(D:List K3):Prop where
 perm:D.Perm (L.flatMap quad)
 srt:∀(i j:Nat) x y,i<j->D[i]?=some x->D[j]?=some y->ltC3 x y
def SetOf.mem{L:List Sq}{D:List K3}(h:SetOf L D){a:K3}:a∈D↔(a.1,a.2.1)∈L/\a.2.2<4:=h.perm.mem_iff.trans cX
def SetOf.len{L:List Sq}{D:List K3}(h:SetOf L D):D.length=4*L.length:=h.perm.length_eq.trans (eI L)
def set_of{L:List Sq}{D:List K3}(hL:L.Nodup)(hb:∀c∈L,-4096<=c.1/\c.1<=4096/\-4096<=c.2/\c.2<=4096)(hp:D.Perm (L.flatMap quad))(hs:SS keyC 0 D.length D):SetOf L D:=by
 refine⟨hp,λi j x y hij hx hy=>?_⟩
 have hin:∀a∈D,inC a:=λa ha=>by
  have h:=cX.1 (hp.mem_iff.1 ha)
  have:=hb _ h.1
  exact⟨⟨this.1,this.2.1⟩,⟨this.2.2.1,this.2.2.2⟩,h.2⟩
 have hx':=hin x (qab hx)
 have hy':=hin y (qab hy)
 have hle:=hs i j x y (qaO _) hij (av hy) hx hy
 rw[←key_lt hx' hy']
 have hne:x≠y:=by
  have hnd:D.Nodup:=hp.nodup_iff.2 (ik hL)
  intro e
  subst e
  have h1:=av hx
  have h2:=av hy
  rw[qai h1]at hx
  rw[qai h2]at hy
  exact qbK.1 hnd i j h1 h2 hij ((qae hx).trans (qae hy).symm)
 have:¬keyC x=keyC y:=by
  intro e
  apply hne
  obtain⟨⟨a1,a2⟩,⟨a3,a4⟩,a5⟩:=hx'
  obtain⟨⟨b1,b2⟩,⟨b3,b4⟩,b5⟩:=hy'
  have e':(x.2.1*10000+x.1)*4+((x.2.2:Nat):Int)=(y.2.1*10000+y.1)*4+((y.2.2:Nat):Int):=e
  exact qcC (by omega) (qcC (by omega) (by omega))
 omega
def SetOk(H:HL)(L:List Sq)(rs:TE)(h':HL):Prop:=∃v D,rs=[.v v]/\SetOf L D/\OwnL H.length h' v 3 cc3 D/\Low H.length H h'/\H.length<=h'.length
def set_c{H:HL}{x:Value}{L:List Sq}(hG:LsH H x 3 cc3 (L.map sqC))(h0:0<L.length)(hn:L.length<=1000)(hnd:L.Nodup)(hb:∀c∈L,-4096<=c.1/\c.1<=4096/\-4096<=c.2/\c.2<=4096) :
  ∃rs h',aw cc ab 6 [.v x] (absH aa H) rs (absH aa h')/\SetOk H L rs h':=by
 exact x6 (K:=SetOk H L) (glsV hG.good gls0) (by
  unfold f6;simp only[qxh]
  refine p_x ?_
  refine bG (σ:=Value×HL) L.length (λj s=>[.v s.1,.i (Int.ofNat j)]) (λ_ s=>s.2) (λj s=>OwnL H.length s.2 s.1 3 cc3 ((L.take j).flatMap quad)/\Low H.length H s.2/\H.length<=s.2.length) (j0:=0) (s0:=(.slice none 0 0,H)) rfl rfl (qaO _) ⟨OwnL.nil _ _ _ _,Low.refl H,qaf _⟩ ?_
  rintro j ⟨v,h⟩ hj ⟨ho,hlow,hlen⟩ self hself
  simp only at ho hlow hlen hself
  have hGh:=hG.low hlow
  refine p_x ?_
  refine bI hGh ?_
  rw[qay]
  by_cases hlt:j<L.length
  ·rw[bf hlt]
   refine p_x ?_
   obtain⟨c,hc⟩:=aP hlt
   refine bG (σ:=Value×HL) 4 (λq s=>[.v s.1,.i (Int.ofNat q)]) (λ_ s=>s.2) (λq s=>OwnL H.length s.2 s.1 3 cc3 ((L.take j).flatMap quad++(quad c).take q)/\Low H.length H s.2/\H.length<=s.2.length) (j0:=0) (s0:=(v,h)) rfl rfl (qaO _) ⟨by simpa using ho,hlow,hlen⟩ ?_
   rintro q ⟨v2,h2⟩ hq ⟨ho2,hlow2,hlen2⟩ self2 hself2
   simp only at ho2 hlow2 hlen2 hself2
   have hG2:=hG.low hlow2
   refine p_x ?_
   by_cases hq4:q<4
   ·rw[p_lss_t (by show(q:Int)<4;omega)]
    refine p_x ?_
    refine lK (o:=0) (k:=1) (a:=sqC c) hG2 rfl (by rw[qaz,hc];rfl) rfl (by omega) ?_
    simp only[sqC,cc3,qaV,qaW,qbb]
    refine p_x ?_
    refine lK (o:=1) (k:=1) (a:=sqC c) hG2 rfl (by rw[qaz,hc];rfl) rfl (by omega) ?_
    simp only[sqC,cc3,qbr,qaV,qaW,qbb]
    refine p_x ?_
    refine ho2.ap1 (a:=(c.1,c.2,q)) cB hlen2 rfl rfl rfl (size3 ?_) λv' h' b1 b2 b3 b4 b5=>?_
    ·have:=eI (L.take j)
     rw[qaB,this,qaG,qaG]
     have:=Nat.min_le_left q (quad c).length
     omega
    refine p_x ?_
    refine ak b2 ?_
    refine p_x ?_
    rw[p_add8 (by show(0:Int)<=(q:Int)+1;omega) (by show(q:Int)+1<=255;omega)]
    refine hself2 (v',h') hq4 ⟨?_,λi o hi hoo=>b3 i o (hlow2 i o hi hoo) λe=>?_,by show H.length<=h'.length;omega⟩
    ·rw[quad_take hq4,←qaJ]
     exact b1
    ·have:=ho2.blk e
     omega
   ·obtain rfl:q=4:=by omega
    rw[p_lss_f (by show(4:Int)<=((4:Nat):Int);omega)]
    refine p_x ?_
    rw[bg (by omega)]
    refine hself (v2,h2) hlt ⟨?_,hlow2,hlen2⟩
    have e1:(L.take (j+1)).flatMap quad=(L.take j).flatMap quad++quad c:=by
     rw[qbC,hc,qcc]
     simp
    rw[e1]
    exact ho2
  ·obtain rfl:j=L.length:=by omega
   rw[bj (qaf _)]
   refine p_x ?_
   rw[qbJ]at ho
   have hD:=eI L
   refine bG (σ:=HL×List K3) (4*L.length) (λi _=>[.i (Int.ofNat i)]) (λ_ s=>s.1) (λi s=>OwnL H.length s.1 v 3 cc3 s.2/\Low H.length H s.1/\H.length<=s.1.length/\s.2.Perm (L.flatMap quad)/\SS keyC 0 i s.2) (j0:=1) (s0:=(h,L.flatMap quad)) rfl rfl (by omega) ⟨ho,hlow,hlen,List.Perm.refl _,SS.one (by omega)⟩ ?_
   clear ho hlow hlen hself hGh
   rintro i ⟨h,D⟩ hi ⟨ho,hlow,hlen,hp,hs⟩ self hself
   simp only at ho hlow hlen hp hs hself
   have hDl:D.length=4*L.length:=hp.length_eq.trans hD
   refine p_x ?_
   refine af ho.lenB ?_
   rw[hDl]
   by_cases hlt:i<4*L.length
   case neg=>
    obtain rfl:i=4*L.length:=by omega
    rw[bj (qaf _)]
    refine p_x ?_
    exact⟨v,D,rfl,set_of hnd hb hp (by rw[hDl];exact hs),ho,hlow,hlen⟩
   rw[bf hlt]
   simp only[p_cond_t]
   refine ij (λl' h'=>l'=[]/\∃D',OwnL H.length h' v 3 cc3 D'/\Low H.length H h'/\H.length<=h'.length/\D'.Perm (L.flatMap quad)/\SS keyC 0 (i+1) D') ?_ ?_
   ·rintro _ h' ⟨rfl,D',b1,b2,b3,b4,b5⟩
    refine p_x ?_
    rw[bg (by omega)]
    exact hself (h',D') hlt ⟨b1,b2,b3,b4,b5⟩
   ·intro jn hjn
    refine fw (m:=i) (λm ls h'=>∃k D',ls=[.i (Int.ofNat k)]/\k=m/\k<=i/\OwnL H.length h' v 3 cc3 D'/\Low H.length H h'/\H.length<=h'.length/\D'.Perm (L.flatMap quad)/\InsI keyC 0 i k D') ⟨i,D,rfl,rfl,qaf _,ho,hlow,hlen,hp,InsI.start hs⟩ ?_
    clear ho hlow hlen hp hs hDl
    rintro m ls h' ⟨k,D',rfl,rfl,hki,ho,hlow,hlen,hp,hI⟩ self2 hself2
    have hDl:D'.length=4*L.length:=hp.length_eq.trans hD
    have hin:∀a∈D',inC a:=λa ha=>by
     have h:=cX.1 (hp.mem_iff.1 ha)
     have:=hb _ h.1
     exact⟨⟨this.1,this.2.1⟩,⟨this.2.2.1,this.2.2.2⟩,h.2⟩
    refine hidL ?_
    refine p_x ?_
    by_cases hk0:k=0
    ·subst hk0
     rw[p_gtr_f (by show((0:Nat):Int)<=0;omega)]
     refine p_x ?_
     exact hjn _ _ ⟨rfl,D',ho,hlow,hlen,hp,hI.done ⟨qaf _,by omega⟩ (.inl rfl)⟩
    ·rw[p_gtr_t (by show(0:Int)<(k:Int);omega)]
     refine p_x ?_
     obtain⟨a,ha⟩:=aP (l:=D') (i:=k) (by omega)
     obtain⟨b,hb'⟩:=aP (l:=D') (i:=k - 1) (by omega)
     have hia:=hin a (qab ha)
     have hib:=hin b (qab hb')
     refine bQ (ho.ls cB) rfl ha ?_
     simp only[cc3]
     refine p_x ?_
     rw[oB (by omega) (by omega)]
     refine bQ (ho.ls cB) rfl hb' ?_
     simp only[cc3]
     refine p_x ?_
     refine ac (before_c (a:=a) (b:=b) hia hib ⟨rfl,rfl,rfl⟩ ⟨rfl,rfl,rfl⟩) ?_
     refine p_x ?_
     by_cases hlt2:keyC a<keyC b
     ·rw[qdC hlt2]
      refine p_x ?_
      rw[oB (by omega) (by omega)]
      try rw[oB (by omega) (by omega)]
      refine bQ (ho.ls cB) rfl hb' ?_
      simp only[cc3]
      refine p_x ?_
      refine bQ (ho.ls cB) rfl ha ?_
      simp only[cc3]
      refine p_x ?_
      refine ho.set (i:=k) (a:=b) cB rfl (by omega) rfl λh3 c1 c2 c3=>?_
      try simp(disch:=omega)only[↓qXX]
      refine c1.set (i:=k - 1) (a:=a) cB rfl (by rw[qbl];omega) rfl λh4 d1 d2 d3=>?_
      try simp(disch:=omega)only[↓qXX]
      try rw[oB (by omega) (by omega)]
      refine hself2 (k - 1) _ _ (by omega) ⟨k - 1,_,rfl,rfl,by omega,d1,λi' o hi' hoo=>d2 i' o (c2 i' o (hlow i' o hi' hoo) λe=>?_) λe=>?_,by omega,?_,hI.step ⟨by omega,hki⟩ ha hb' hlt2⟩
      ·have:=ho.blk e;omega
      ·have:=ho.blk e;omega
      ·exact(SP.swap (a:=0) (b:=4*L.length) ha hb' (by omega) (by omega)).1.trans hp
     ·rw[qdB hlt2]
      refine p_x ?_
      exact hjn _ _ ⟨rfl,D',ho,hlow,hlen,hp,hI.done ⟨qaO _,hki⟩ (.inr ⟨a,b,ha,hb',by omega⟩)⟩)
def cmpI(a b:Int):Int:=if a<b then -1 else if b<a then 1 else 0
def orI:List Int->Int
 | []=>0
 |a :: l=>if a=0 then orI l else a
theorem cmpI_0{a b:Int}:cmpI a b=0↔a=b:=by
 unfold cmpI
 split
 ·constructor
  ·intro h;omega
  ·intro h;omega
 ·split
  ·constructor
   ·intro h;omega
   ·intro h;omega
  ·constructor
   ·intro _;omega
   ·intro _;rfl
def encQ(p:Int×Int):Tl:=[.int .i64 p.1,.int .i64 p.2]
def encQ_len(p:Int×Int):(encQ p).length=2:=rfl
def nan_c(a:Int):Cc 67 [.i a] [.b false]:=by
 refine q67 rfl ?_;unfold f67;simp only[qxh]
 simp(disch:=omega)only[↓qXX]
def cmp_c(a b:Int):Cc 58 [.i a,.i b] [.i (cmpI a b)]:=by
 refine q58 rfl ?_;unfold f58;simp only[qxh]
 repeat (first|simp(disch:=omega)only[↓qXX]|refine ac (nan_c a) ?_|refine ac (nan_c b) ?_)
 unfold cmpI
 by_cases h1:a<b
 ·simp(disch:=omega)only[↓qXX]
  simp[h1]
 ·by_cases h2:b<a
  ·simp(disch:=omega)only[↓qXX]
   simp[h1,h2]
  ·simp(disch:=omega)only[↓qXX]
   simp[h1,h2]
def orI_drop{l:List Int}{j:Nat}{a:Int}(ha:l[j]?=some a):orI (l.drop j)=if a=0 then orI (l.drop (j+1))else a:=by
 rw[qa9 (av ha)]
 have h1:l[j]'(av ha)=a:=by rw[qai (av ha)]at ha;exact qae ha
 rw[h1]
 rfl
def ord_c{h:HL}{x:Value}{l:List (Int×Int)}(hl:LsH h x 2 encQ l)(hb:l.length<=1000) :
  aw cc ab 44 [.v x] (absH aa h) [.i (orI (l.map λp=>cmpI p.1 p.2))] (absH aa h):=by
 exact xK x44 (glsV hl.good gls0) (by
  unfold f44;simp only[qxh]
  refine p_x ?_
  refine bI hl ?_
  refine dg l.length (λj=>orI (l.map λp=>cmpI p.1 p.2)=orI ((l.map λp=>cmpI p.1 p.2).drop j)) (j0:=0) rfl (qaO _) rfl ?_
  intro j hj he self hself
  refine p_x ?_
  by_cases hlt:j<l.length
  ·rw[bf hlt]
   refine p_x ?_
   obtain⟨p,hp⟩:=aP hlt
   refine bQ hl rfl hp ?_
   unfold encQ
   repeat (first|simp(disch:=omega)only[↓qXX]|refine ac (cmp_c p.1 p.2) ?_)
   rw[orI_drop (a:=cmpI p.1 p.2) (by rw[qaz,hp];rfl)]at he
   by_cases h0:cmpI p.1 p.2=0
   ·rw[p_neq_f h0]
    refine p_x ?_
    rw[bg (by omega)]
    rw[qdD h0]at he
    exact hself hlt he
   ·rw[p_neq_t h0]
    refine p_x ?_
    rw[qdE h0]at he
    exact⟨by rw[he],by trivial⟩
  ·obtain rfl:j=l.length:=by omega
   rw[bj (qaf _)]
   refine p_x ?_
   refine⟨?_,by trivial⟩
   rw[he,qbL (by rw[qay];exact qaf _)]
   rfl)
def cell_c{x y q x' y' q':Int}(hq:0<=q/\q<=255)(hq':0<=q'/\q'<=255):Cc 30 [.i x,.i y,.i q,.i x',.i y',.i q'] [.i (orI [cmpI y y',cmpI x x',cmpI q q'])]:=by
 refine q30 rfl ?_;unfold f30;simp only[qxh]
 refine p_x ?_
 refine ah (h':=[]++[HO.o (.cells [.int .i64 y,.int .i64 y',.int .i64 x,.int .i64 x',.int .i64 q,.int .i64 q'] 2 true)]) (ord_c (l:=[(y,y'),(x,x'),(q,q')]) ?_ (by simp)) ?_
 ·exact newE_ls (h:=[]) (e:=2) (enc:=encQ) (l:=[(y,y'),(x,x'),(q,q')]) encQ_len (by rfl)
 ·simp(disch:=omega)only[↓qXX]
  rfl
abbrev cloW:Value:=.func (.func 42) ⟨[]⟩ ⟨[]⟩
def sj{a:K3}(h:inC a):Cc 43 [.i a.1,.i a.2.1,.i (Int.ofNat a.2.2)] [.i 0]:=by
 obtain⟨⟨a1,a2⟩,⟨a3,a4⟩,a5⟩:=h
 have hq:Int.ofNat a.2.2<=3:=by show((a.2.2:Nat):Int)<=3;omega
 refine q43 rfl ?_;unfold f43;simp only[qxh]
 simp(disch:=omega)only[↓qXX]
def wrong1_c{a:K3}(h:inC a):Cc 42 [.i a.1,.i a.2.1,.i (Int.ofNat a.2.2)] [.b false]:=by
 refine q42 rfl ?_;unfold f42;simp only[qxh]
 refine p_x ?_
 refine ac (sj h) ?_
 simp(disch:=omega)only[↓qXX]
def indexW_c{h:HL}{x:Value}{l:List K3}(hl:LsH h x 3 cc3 l)(hok:∀c∈l,inC c)(hn:l.length<=100000):aw cc ab 57 [.v x,.v cloW] (absH aa h) [.i (-1)] (absH aa h):=by
 exact xK x57 (glsV hl.good (glsV rfl gls0)) (by
  unfold f57;simp only[qxh]
  refine p_x ?_
  refine bI hl ?_
  refine dg l.length (λ_=>True) rfl (qaO _) trivial ?_
  intro j hj _ self hself
  refine p_x ?_
  by_cases hlt:j<l.length
  ·rw[bf hlt]
   refine p_x ?_
   obtain⟨c,hc⟩:=aP hlt
   refine bQ hl rfl hc ?_
   unfold cc3
   repeat (first|simp(disch:=omega)only[↓qXX]|refine fl (jg (wrong1_c (hok c (qab hc)) _) rfl [.agg [.i .i64 c.1,.i .i64 c.2.1,.i .u8 (Int.ofNat c.2.2)]] rfl rfl) ?_)
   rw[bg (by omega)]
   exact hself hlt trivial
  ·rw[bj (by omega)]
   simp(disch:=omega)only[↓qXX]
   trivial)
def wrong_c{h:HL}{x:Value}{l:List K3}(hl:LsH h x 3 cc3 l)(hok:∀c∈l,inC c)(hn:l.length<=100000):aw cc ab 29 [.v x] (absH aa h) [.b false] (absH aa h):=by
 have h1:=indexW_c hl hok hn
 have h3:aw cc ab 41 [.v x,.v cloW] (absH aa h) [.b false] (absH aa h):=xK x41 (glsV hl.good (glsV rfl gls0)) (by
  unfold f41;simp only[qxh]
  repeat (first|simp(disch:=omega)only[↓qXX]|refine ah h1 ?_)
  trivial)
 exact xK x29 (glsV hl.good gls0) (by
  unfold f29;simp only[qxh]
  repeat (first|simp(disch:=omega)only[↓qXX]|refine ak rfl ?_|refine ah h3 ?_)
  trivial)
def eR:aggT cc.P 30=some true:=by kernel_rfl
def dQ:flatK cc.P 10000 30=some kk3:=by kernel_rfl
def pY{H:HL}{x:Value}{D:List K3}(hl:LsH H x 3 cc3 D)(hn:D.length<=1000) :
  ∃rs h',aw cc ab 20 [.v x] (absH aa H) rs (absH aa h')/\∃o ks,rs=[.v (.map (some H.length))]/\h'=H++[o]/\Set3 h' H.length ks/\ks.Nodup/\∀a,a∈ks↔∃d,d∈D/\a=sqC (d.1,d.2.1):=by
 exact x20 (K:=λrs h'=>∃o ks,rs=[.v (.map (some H.length))]/\h'=H++[o]/\Set3 h' H.length ks/\ks.Nodup/\∀a,a∈ks↔∃d,d∈D/\a=sqC (d.1,d.2.1)) (glsV hl.good gls0) (by
  unfold f20;simp only[qxh]
  refine p_x ?_
  refine bI hl ?_
  refine bG (σ:=HO×List K3) D.length (λj _=>[.i (Int.ofNat j)]) (λ_ s=>H++[s.1]) (λj s=>Set3 (H++[s.1]) H.length s.2/\s.2.Nodup/\∀a,a∈s.2↔∃d i,i<j/\D[i]?=some d/\a=sqC (d.1,d.2.1)) (j0:=0) (s0:=(.o (.map [] 0),[])) rfl rfl (qaO _) ⟨⟨[],0,aH,rfl,λe he=>by cases he⟩,qdf,λa=>⟨λh=>(by cases h),λ⟨d,i,hi,_⟩=>(by omega)⟩⟩ ?_
  rintro j ⟨o,ks⟩ hj ⟨hs,hnd,hm⟩ self hself
  simp only at hs hnd hm hself
  refine p_x ?_
  by_cases hlt:j<D.length
  ·rw[bf hlt]
   refine p_x ?_
   obtain⟨d,hd⟩:=aP hlt
   refine bQ (hl.pre (h':=H++[o]) ⟨_,rfl⟩) rfl hd ?_
   unfold cc3
   refine p_x ?_
   refine r_mu3 (kt:=30) eR dQ hs (sqC (d.1,d.2.1)) λo' hs'=>?_
   have e1:(H++[o]).set H.length o'=H++[o']:=dD
   rw[e1]at hs' ⊢
   rw[bg (by omega)]
   generalize hke:(if sqC (d.1,d.2.1)∈ks then ks else ks++[sqC (d.1,d.2.1)])=ks' at hs'
   refine hself (o',ks') hlt ⟨hs',?_,λa=>?_⟩
   ·show ks'.Nodup
    rw[←hke]
    split
    ·exact hnd
    next hk=>
     rw[qb2]
     refine⟨hnd,by simp,λa ha b hb=>?_⟩
     simp only[qam]at hb
     subst hb
     exact λe=>hk (e▸ha)
   ·show a∈ks'↔_
    rw[←hke]
    have e2:a∈(if sqC (d.1,d.2.1)∈ks then ks else ks++[sqC (d.1,d.2.1)])↔a∈ks∨a=sqC (d.1,d.2.1):=by
     split
     next hk=>
      exact⟨.inl,λh=>h.elim id λe=>e▸hk⟩
     ·simp
    rw[e2,hm]
    constructor
    ·rintro(⟨d',i,hi,h1,h2⟩|h)
     ·exact⟨d',i,by omega,h1,h2⟩
     ·exact⟨d,j,by omega,hd,h⟩
    ·rintro⟨d',i,hi,h1,h2⟩
     by_cases hij:i=j
     ·subst hij
      rw[hd]at h1
      cases h1
      exact .inr h2
     ·exact .inl ⟨d',i,by omega,h1,h2⟩
  ·obtain rfl:j=D.length:=by omega
   rw[bj (qaf _)]
   refine p_x ?_
   refine⟨o,ks,by trivial,by trivial,hs,hnd,λa=>(hm a).trans ⟨?_,?_⟩⟩
   ·rintro⟨d,i,_,h1,h2⟩
    exact⟨d,qab h1,h2⟩
   ·rintro⟨d,hd,h2⟩
    obtain⟨i,hi⟩:=qaM hd
    exact⟨_,i,av hi,hi,h2⟩)
def squares_c{H:HL}{x:Value}{L:List Sq}{D:List K3}(hD:SetOf L D)(hl:LsH H x 3 cc3 D)(hn:D.length<=1000) :
  ∃rs h',aw cc ab 20 [.v x] (absH aa H) rs (absH aa h')/\∃o ks,rs=[.v (.map (some H.length))]/\h'=H++[o]/\Set3 h' H.length ks/\ks.Nodup/\∀a,a∈ks↔∃c,c∈L/\a=sqC c:=by
 obtain⟨rs,h',h1,o,ks,h2,h3,h4,h5,h6⟩:=pY hl hn
 refine⟨rs,h',h1,o,ks,h2,h3,h4,h5,λa=>(h6 a).trans ⟨?_,?_⟩⟩
 ·rintro⟨d,hd,rfl⟩
  exact⟨_,(hD.mem.1 hd).1,rfl⟩
 ·rintro⟨c,hc,rfl⟩
  exact⟨(c.1,c.2,0),hD.mem.2 ⟨hc,by show 0<4;omega⟩,rfl⟩
instance (a : K3) : Decidable (inC a) := by unfold inC; exact inferInstance
def cchkA_c(a:K3):Cc 43 [.i a.1,.i a.2.1,.i (Int.ofNat a.2.2)] [.i (if inC a then 0 else 1)]:=by
 by_cases h:inC a
 ·rw[qdD h]
  exact sj h
 ·rw[qdE h]
  unfold inC at h
  refine q43 rfl ?_;unfold f43;simp only[qxh]
  refine p_x ?_
  by_cases h1:a.1 < -4096
  ·repeat (first|simp(disch:=omega)only[↓qXX])
   try rfl
  by_cases h2:4096<a.1
  ·repeat (first|simp(disch:=omega)only[↓qXX])
   try rfl
  by_cases h3:a.2.1 < -4096
  ·repeat (first|simp(disch:=omega)only[↓qXX])
   try rfl
  by_cases h4:4096<a.2.1
  ·repeat (first|simp(disch:=omega)only[↓qXX])
   try rfl
  ·have h5:(3:Int)<Int.ofNat a.2.2:=by show(3:Int)<((a.2.2:Nat):Int);omega
   repeat (first|simp(disch:=omega)only[↓qXX])
   try rfl
def wrong1A_c(a:K3):Cc 42 [.i a.1,.i a.2.1,.i (Int.ofNat a.2.2)] [.b (!decide (inC a))]:=by
 refine q42 rfl ?_;unfold f42;simp only[qxh]
 refine p_x ?_
 refine ac (cchkA_c a) ?_
 by_cases h:inC a
 ·rw[qdD h]
  refine p_x ?_
  rw[qdC h];rfl
 ·rw[qdE h]
  refine p_x ?_
  rw[qdB h];rfl
def indexWA_c{h:HL}{x:Value}{l:List K3}(hl:LsH h x 3 cc3 l)(hn:l.length<=100000):∃n:Int,aw cc ab 57 [.v x,.v cloW] (absH aa h) [.i n] (absH aa h)/\((n = -1/\∀a∈l,inC a)∨∃i:Nat,n=Int.ofNat i/\∃a∈l,¬inC a):=by
 obtain⟨rs,h',h1,n,rfl,rfl,h2⟩:=x57 (ls:=[.v x,.v cloW]) (H:=h) (K:=λrs h'=>∃n:Int,rs=[.i n]/\h'=h/\((n = -1/\∀a∈l,inC a)∨∃i:Nat,n=Int.ofNat i/\∃a∈l,¬inC a)) (glsV hl.good (glsV rfl gls0)) (by
  unfold f57;simp only[qxh]
  refine p_x ?_
  refine bI hl ?_
  refine dg l.length (λj=>∀i a,i<j->l[i]?=some a->inC a) (j0:=0) rfl (qaO _) (λi a hi=>by omega) ?_
  intro j hj he self hself
  refine p_x ?_
  by_cases hlt:j<l.length
  ·rw[bf hlt]
   refine p_x ?_
   obtain⟨c,hc⟩:=aP hlt
   refine bQ hl rfl hc ?_
   unfold cc3
   repeat (first|simp(disch:=omega)only[↓qXX]|refine fl (jg (wrong1A_c c _) rfl [.agg [.i .i64 c.1,.i .i64 c.2.1,.i .u8 (Int.ofNat c.2.2)]] rfl rfl) ?_)
   by_cases hi:inC c
   ·rw[qdC hi]
    simp(disch:=omega)only[↓qXX,qaI]
    rw[bg (by omega)]
    refine hself hlt λi a hij ha=>?_
    by_cases e:i=j
    ·subst e
     rw[hc]at ha
     cases ha
     exact hi
    ·exact he i a (by omega) ha
   ·rw[qdB hi]
    simp(disch:=omega)only[↓qXX,qba]
    exact⟨_,rfl,by trivial,.inr ⟨j,rfl,c,qab hc,hi⟩⟩
  ·rw[bj (by omega)]
   refine p_x ?_
   refine⟨_,rfl,by trivial,.inl ⟨rfl,λa ha=>?_⟩⟩
   obtain⟨i,hi⟩:=qaM ha
   exact he i a (by have:=av hi;omega) hi)
 exact⟨n,h1,h2⟩
def wR{h:HL}{x:Value}{l:List K3}(hl:LsH h x 3 cc3 l)(hn:l.length<=100000):∃b:Bool,aw cc ab 29 [.v x] (absH aa h) [.b b] (absH aa h)/\(b=false↔∀a∈l,inC a):=by
 obtain⟨n,h1,h2⟩:=indexWA_c hl hn
 obtain⟨b,hb,h3⟩ : ∃b:Bool,(b=false↔∀a∈l,inC a)/\aw cc ab 41 [.v x,.v cloW] (absH aa h) [.b b] (absH aa h):=by
  rcases h2 with⟨rfl,h2⟩|⟨i,rfl,a,ha,hia⟩
  ·refine⟨false,⟨λ_=>h2,λ_=>rfl⟩,xK x41 (glsV hl.good (glsV rfl gls0)) ?_⟩
   unfold f41;simp only[qxh]
   repeat (first|simp(disch:=omega)only[↓qXX]|refine ah h1 ?_)
   trivial
  ·refine⟨true,⟨λe=>(by cases e),λe=>absurd (e a ha) hia⟩,xK x41 (glsV hl.good (glsV rfl gls0)) ?_⟩
   unfold f41;simp only[qxh]
   refine p_x ?_
   refine ah h1 ?_
   refine p_x ?_
   rw[p_geq_t (by show(0:Int)<=(i:Int);omega)]
   trivial
 refine⟨b,xK x29 (glsV hl.good gls0) ?_,hb⟩
 unfold f29;simp only[qxh]
 repeat (first|simp(disch:=omega)only[↓qXX]|refine ak rfl ?_|refine ah h3 ?_)
 trivial
def AscC(l:List K3):Prop:=∀(i j:Nat) a b,i<j->l[i]?=some a->l[j]?=some b->ltC3 a b
def ltC_tr{a b c:K3}(h:ltC3 a b)(k:ltC3 b c):ltC3 a c:=by
 unfold ltC3 at *
 omega
def asc_adj{l:List K3}(h:∀(i:Nat) a b,l[i]?=some a->l[i+1]?=some b->ltC3 a b):AscC l:=by
 intro i j a b hij ha hb
 obtain⟨k,rfl⟩ : ∃k,j=i+1+k:=⟨j - (i+1),by omega⟩
 clear hij
 induction k generalizing b with
 |zero=>exact h i a b ha hb
 |succ k ih=>
  obtain⟨c,hc⟩:=aP (l:=l) (i:=i+1+k) (by have:=av hb;omega)
  exact ltC_tr (ih c hc) (h (i+1+k) c b hc hb)
def cmp_geq{a b:K3}:0<=orI [cmpI a.2.1 b.2.1,cmpI a.1 b.1,cmpI (Int.ofNat a.2.2) (Int.ofNat b.2.2)]↔¬ltC3 a b:=by
 have e3:(Int.ofNat a.2.2<Int.ofNat b.2.2)=(a.2.2<b.2.2):=by
  show((a.2.2:Int)<(b.2.2:Int))=_
  simp
 have e4:(Int.ofNat b.2.2<Int.ofNat a.2.2)=(b.2.2<a.2.2):=by
  show((b.2.2:Int)<(a.2.2:Int))=_
  simp
 unfold ltC3
 simp only[orI,cmpI,e3,e4]
 repeat' split
 all_goals omega
open Classical in
def chkS(l:List K3):Int:=if ∀a∈l,inC a then(if AscC l then 0 else 6)else 1
def oN{l:List K3}:chkS l=0↔(∀a∈l,inC a)/\AscC l:=by
 unfold chkS
 split
 next h=>
  split
  next k=>
   exact⟨λ_=>⟨h,k⟩,λ_=>rfl⟩
  next k=>
   exact⟨λe=>by omega,λe=>absurd e.2 k⟩
 next h=>
  exact⟨λe=>by omega,λe=>absurd e.1 h⟩
def chkS_1{l:List K3}(h:¬ ∀a∈l,inC a):chkS l=1:=by
 unfold chkS
 rw[qdE h]
def chkS_6{l:List K3}(h:∀a∈l,inC a)(k:¬AscC l):chkS l=6:=by
 unfold chkS
 rw[qdD h,qdE k]
def tP{h:HL}{x:Value}{l:List K3}(hl:LsH h x 3 cc3 l)(hn:l.length<=1000)(hq:∀a∈l,a.2.2<=255):aw cc ab 13 [.v x] (absH aa h) [.i (chkS l)] (absH aa h):=by
 obtain⟨b,hw,hb⟩:=wR hl (by omega)
 exact xK x13 (glsV hl.good gls0) (by
  unfold f13;simp only[qxh]
  refine p_x ?_
  refine bI hl ?_
  rw[p_gtr_f (by show(l.length:Int)<=1024;omega)]
  refine p_x ?_
  refine ah hw ?_
  refine p_x ?_
  cases b with
  |true=>
   refine p_x ?_
   rw[chkS_1 λe=>by
    have:=hb.2 e
    cases this]
   trivial
  |false=>
  refine p_x ?_
  have hin:=hb.1 rfl
  refine fw (m:=l.length) (λm ls h'=>h'=h/\∃j:Nat,ls=[.i (Int.ofNat j)]/\1<=j/\m=l.length+1 - j/\j<=l.length+1/\∀(i:Nat) a b,i+1<j->l[i]?=some a->l[i+1]?=some b->ltC3 a b) ⟨rfl,1,rfl,qaf _,by omega,by omega,λi a b hi=>by omega⟩ ?_
  rintro m ls _ ⟨rfl,j,rfl,hj1,rfl,hj2,hadj⟩ self hself
  refine hidL ?_
  refine p_x ?_
  refine bI hl ?_
  by_cases hlt:j<l.length
  ·rw[bf hlt]
   refine p_x ?_
   obtain⟨a,ha⟩:=aP (l:=l) (i:=j - 1) (by omega)
   obtain⟨b,hb⟩:=aP hlt
   rw[oB hj1 (by omega)]
   refine bQ hl rfl ha ?_
   unfold cc3
   refine p_x ?_
   refine bQ hl rfl hb ?_
   unfold cc3
   refine p_x ?_
   have hqa:=hq a (qab ha)
   have hqb:=hq b (qab hb)
   refine ac (cell_c (x:=a.1) (y:=a.2.1) (q:=Int.ofNat a.2.2) (x':=b.1) (y':=b.2.1) (q':=Int.ofNat b.2.2) (by show(0:Int)<=((a.2.2:Nat):Int)/\((a.2.2:Nat):Int)<=255;omega) (by show(0:Int)<=((b.2.2:Nat):Int)/\((b.2.2:Nat):Int)<=255;omega)) ?_
   refine p_x ?_
   by_cases hg:ltC3 a b
   ·have hneg:¬0<=orI [cmpI a.2.1 b.2.1,cmpI a.1 b.1,cmpI (Int.ofNat a.2.2) (Int.ofNat b.2.2)]:=λe=>cmp_geq.1 e hg
    rw[p_geq_f (by omega)]
    refine p_x ?_
    rw[bg (by omega)]
    refine hself _ _ _ (by omega) ⟨rfl,j+1,rfl,by omega,rfl,by omega,λi a' b' hi h1 h2=>?_⟩
    by_cases e:i+1<j
    ·exact hadj i a' b' e h1 h2
    ·obtain rfl:i=j - 1:=by omega
     rw[show j - 1+1=j by omega,hb]at h2
     rw[ha]at h1
     cases h1
     cases h2
     exact hg
   ·have hpos:=cmp_geq.2 hg
    rw[p_geq_t hpos]
    refine p_x ?_
    rw[chkS_6 hin λe=>hg (e (j - 1) j a b (by omega) ha hb)]
    trivial
  ·rw[bj (by omega)]
   refine p_x ?_
   rw[oN.2 ⟨hin,asc_adj λi a b h1 h2=>hadj i a b (by have:=av h2;omega) h1 h2⟩]
   trivial)
def qw{c:Sq}{k:Nat}(hk:k<4)(hc:(-10000<=c.1/\c.1<=10000)/\-10000<=c.2/\c.2<=10000){q:Int}:Cc 22 [.i c.1,.i c.2,.i q,.i (Int.ofNat k)] [.i (bes c k).1,.i (bes c k).2,.i 0]:=by
 have hk':k=0∨k=1∨k=2∨k=3:=by omega
 refine q22 rfl ?_;unfold f22;simp only[qxh]
 rcases hk' with rfl|rfl|rfl|rfl
 ·try simp(disch:=omega)only[↓qXX]
  try refine af (x:=()) (by kernel_rfl) ?_
  refine af (x:=[.int .i64 1]) (by kernel_rfl) ?_
  simp(disch:=omega)only[↓qXX]
  try refine af (x:=()) (by kernel_rfl) ?_
  refine af (x:=[.int .i64 0]) (by kernel_rfl) ?_
  refine p_x ?_
  simp[bes]
  try omega
 ·try simp(disch:=omega)only[↓qXX]
  try refine af (x:=()) (by kernel_rfl) ?_
  refine af (x:=[.int .i64 0]) (by kernel_rfl) ?_
  simp(disch:=omega)only[↓qXX]
  try refine af (x:=()) (by kernel_rfl) ?_
  refine af (x:=[.int .i64 1]) (by kernel_rfl) ?_
  refine p_x ?_
  simp[bes]
  try omega
 ·try simp(disch:=omega)only[↓qXX]
  try refine af (x:=()) (by kernel_rfl) ?_
  refine af (x:=[.int .i64 (-1)]) (by kernel_rfl) ?_
  simp(disch:=omega)only[↓qXX]
  try refine af (x:=()) (by kernel_rfl) ?_
  refine af (x:=[.int .i64 0]) (by kernel_rfl) ?_
  refine p_x ?_
  simp[bes]
  try omega
 ·try simp(disch:=omega)only[↓qXX]
  try refine af (x:=()) (by kernel_rfl) ?_
  refine af (x:=[.int .i64 0]) (by kernel_rfl) ?_
  simp(disch:=omega)only[↓qXX]
  try refine af (x:=()) (by kernel_rfl) ?_
  refine af (x:=[.int .i64 (-1)]) (by kernel_rfl) ?_
  refine p_x ?_
  simp[bes]
  try omega
def bes_bd{c:Sq}{k:Nat}(hk:k<4){b:Int}(hc:(-b<=c.1/\c.1<=b)/\-b<=c.2/\c.2<=b):(-(b+1)<=(bes c k).1/\(bes c k).1<=b+1)/\-(b+1)<=(bes c k).2/\(bes c k).2<=b+1:=by
 have hk':k=0∨k=1∨k=2∨k=3:=by omega
 rcases hk' with rfl|rfl|rfl|rfl<;>simp only[bes]<;>omega
def Keys(L:List Sq)(ks:List K3):Prop:=ks.Nodup/\∀a,a∈ks↔∃c,c∈L/\a=sqC c
def Keys.sq{L:List Sq}{ks:List K3}(h:Keys L ks){c:Sq}:sqC c∈ks↔c∈L:=by
 rw[h.2]
 exact⟨λ⟨d,hd,e⟩=>nZ e▸hd,λhc=>⟨c,hc,rfl⟩⟩
def Keys.len{L:List Sq}{ks:List K3}(h:Keys L ks)(hL:L.Nodup):ks.length=L.length:=by
 have h1:(L.map sqC).Nodup:=by
  exact qcl.2 (List.Pairwise.imp (λh e=>h (nZ e)) hL)
 have h2:=bu (a:=ks) (b:=L.map sqC) h.1 λa ha=>by
  obtain⟨c,hc,rfl⟩:=(h.2 a).1 ha
  exact qco hc
 have h3:=bu (a:=L.map sqC) (b:=ks) h1 λa ha=>by
  obtain⟨c,hc,rfl⟩:=qaU.1 ha
  exact(h.2 _).2 ⟨c,hc,rfl⟩
 simp only[qay]at h2 h3
 omega
abbrev cloK(b:Nat):Value:=.func (.func 33) ⟨[]⟩ ⟨[ptrB (b+1),ptrB (b+3),ptrB (b+4)]⟩
structure CS(b:Nat)(L:List Sq)(h:HL)(S:List Sq):Prop where
 al:∃ks,Set3 h b ks/\Keys L ks
 pa:h[b+1]?=some (.o (.cells [.map (some b)] 1 true))
 st:Set3 h (b+2) (S.map sqC)
 ps:h[b+3]?=some (.o (.cells [.map (some (b+2))] 1 true))
 pv:h[b+4]?=some (.o (.cells [cloK b] 1 true))
def CS.put{b:Nat}{L:List Sq}{h:HL}{S S':List Sq}(hc:CS b L h S){o:HO}(hs:Set3 (h.set (b+2) o) (b+2) (S'.map sqC)):CS b L (h.set (b+2) o) S':=by
 obtain⟨ks,h1,h2⟩:=hc.al
 exact⟨⟨ks,h1.keep λo' ho=>bn ho (by omega),h2⟩,bn hc.pa (by omega),hs,bn hc.ps (by omega),bn hc.pv (by omega)⟩
def Upto(L:List Sq)(c:Sq)(S S':List Sq):Prop:=∀P:Sq->Prop,(c∈L->P c)->(∀x k,P x->k<4->bes x k∈L->P (bes x k))->∀x∈S',x∈S∨P x
def seen_c{b:Nat}{L:List Sq}(hL:∀c∈L,(-4096<=c.1/\c.1<=4096)/\-4096<=c.2/\c.2<=4096):∀n,∀(c:Sq) (h:HL) (S:List Sq),CS b L h S->S.Nodup->(∀x∈S,x∈L)->((-4200<=c.1/\c.1<=4200)/\-4200<=c.2/\c.2<=4200)->free L S<=n->
  ∃rs h',aw cc ab 33 [.i c.1,.i c.2,.i 0,.v (ptrB (b+1)),.v (ptrB (b+3)),.v (ptrB (b+4))] (absH aa h) rs (absH aa h')/\rs=[]/\
   ∃S',CS b L h' S'/\Low b h h'/\h'.length=h.length/\(∀x∈S,x∈S')/\S'.Nodup/\(∀x∈S',x∈L)/\(c∈L->c∈S')/\(∀x∈S',x∉S->∀k,k<4->bes x k∈L->bes x k∈S')/\Upto L c S S':=by
 intro n
 induction n using Nat.strongRecOn with
 |ind n ih=>
  intro c h S hS hnd hsub hc hf
  refine x33 (K:=λrs h'=>rs=[]/\∃S',CS b L h' S'/\Low b h h'/\h'.length=h.length/\(∀x∈S,x∈S')/\S'.Nodup/\(∀x∈S',x∈L)/\(c∈L->c∈S')/\(∀x∈S',x∉S->∀k,k<4->bes x k∈L->bes x k∈S')/\Upto L c S S') (glsI (glsI (glsI (glsV (eY _) (glsV (eY _) (glsV (eY _) gls0)))))) ?_
  obtain⟨ks,hall,hkeys⟩:=hS.al
  unfold f33;simp only[qxh]
  refine p_x ?_
  refine cL (bv hS.pa) rfl ?_
  refine p_x ?_
  refine ak rfl ?_
  refine p_x ?_
  refine r_lu3 (kt:=30) eR dQ hall (sqC c) ?_
  refine p_x ?_
  by_cases hcL:c∈L
  case neg=>
   rw[qdB (λe=>hcL (hkeys.sq.1 e))]
   simp(disch:=omega)only[↓qXX,qba]
   exact⟨trivial,S,hS,Low.refl _,by trivial,λx hx=>hx,hnd,hsub,λe=>absurd e hcL,λx hx hn=>absurd hx hn,λP _ _ x hx=>.inl hx⟩
  rw[qdC (hkeys.sq.2 hcL)]
  simp(disch:=omega)only[↓qXX,qaI]
  refine cL (bv hS.ps) rfl ?_
  refine p_x ?_
  refine ak rfl ?_
  refine p_x ?_
  refine r_lu3 (kt:=30) eR dQ hS.st (sqC c) ?_
  refine p_x ?_
  by_cases hcS:c∈S
  ·rw[qdC (iY.2 hcS)]
   refine p_x ?_
   exact⟨trivial,S,hS,Low.refl _,by trivial,λx hx=>hx,hnd,hsub,λ_=>hcS,λx hx hn=>absurd hx hn,λP _ _ x hx=>.inl hx⟩
  rw[qdB (λe=>hcS (iY.1 e))]
  refine p_x ?_
  refine cL (bv hS.ps) rfl ?_
  refine p_x ?_
  refine ak rfl ?_
  refine p_x ?_
  refine r_mu3 (kt:=30) eR dQ hS.st (sqC c) λo ho=>?_
  rw[qdE (λe=>hcS (iY.1 e))]at ho
  have ho':Set3 (h.set (b+2) o) (b+2) ((S++[c]).map sqC):=by rw[qbB];exact ho
  have hS1:=hS.put ho'
  have hf1:free L (S++[c])<free L S:=nb (λx hx=>qaF _ hx) hcL hcS (qaK _ (by simp))
  have hnd1:(S++[c]).Nodup:=by
   rw[qb2]
   refine⟨hnd,by simp,λa ha d hd=>?_⟩
   simp only[qam]at hd
   subst hd
   exact λe=>hcS (e▸ha)
  have hsub1:∀x∈S++[c],x∈L:=λx hx=>by
   rcases qau.1 hx with hx|hx
   ·exact hsub x hx
   ·simp only[qam]at hx
    subst hx;exact hcL
  have hcb:=hL c hcL
  refine bG (σ:=HL×List Sq) 4 (λj _=>[.i (Int.ofNat j)]) (λ_ s=>s.1) (λj s=>CS b L s.1 s.2/\Low b h s.1/\s.1.length=h.length/\(∀x∈S++[c],x∈s.2)/\s.2.Nodup/\(∀x∈s.2,x∈L)/\(∀x∈s.2,x∉S++[c]->∀k,k<4->bes x k∈L->bes x k∈s.2)/\(∀k,k<j->bes c k∈L->bes c k∈s.2)/\∀P:Sq->Prop,P c->(∀x k,P x->k<4->bes x k∈L->P (bes x k))->∀x∈s.2,x∈S++[c]∨P x) (j0:=0) (s0:=(h.set (b+2) o,S++[c])) rfl rfl (qaO _) ⟨hS1,(Low.refl h).set (by omega) _,by simp,λx hx=>hx,hnd1,hsub1,λx hx hn=>absurd hx hn,λk hk=>by omega,λP _ _ x hx=>.inl hx⟩ ?_
  rintro j ⟨h2,S2⟩ hj ⟨hS2,hlow,hlen,hin,hnd2,hsub2,hcl,hdone,hup⟩ self hself
  simp only at hS2 hlow hlen hin hnd2 hsub2 hcl hdone hup hself
  refine p_x ?_
  by_cases hlt:j<4
  ·rw[p_lss_t (by show(j:Int)<4;omega)]
   refine p_x ?_
   refine cL (bv hS2.pv) rfl ?_
   refine p_x ?_
   refine ak rfl ?_
   refine p_x ?_
   refine ac (qw (c:=c) hlt ⟨by omega,by omega⟩) ?_
   refine p_x ?_
   have hbb:=bes_bd hlt hcb
   obtain⟨rs,h3,hcall,rfl,S3,hS3,hlow3,hlen3,hin3,hnd3,hsub3,hc3,hcl3,hup3⟩:=ih (free L (S++[c])) (by omega) (bes c j) h2 S2 hS2 hnd2 hsub2 ⟨by omega,by omega⟩ (gL hin)
   refine fl (gr (args:=[.agg ⟨cc3 (sqC (bes c j))⟩]) hcall rfl [.agg [.i .i64 (bes c j).1,.i .i64 (bes c j).2,.i .u8 0],.leaf (.v (ptrB (b+1))),.leaf (.v (ptrB (b+3))),.leaf (.v (ptrB (b+4)))] rfl rfl rfl) ?_
   refine p_x ?_
   rw[bg (by omega)]
   refine hself (h3,S3) hlt ⟨hS3,hlow.trans hlow3,by show h3.length=h.length;omega,λx hx=>hin3 x (hin x hx),hnd3,hsub3,λx hx hn k hk hb=>?_,λk hk hb=>?_,λP p1 p2 x hx=>(hup3 P (λhb=>p2 c j p1 hlt hb) p2 x hx).elim (hup P p1 p2 x) .inr⟩
   ·by_cases hx2:x∈S2
    ·exact hin3 _ (hcl x hx2 hn k hk hb)
    ·exact hcl3 x hx hx2 k hk hb
   ·by_cases hkj:k=j
    ·subst hkj
     exact hc3 hb
    ·exact hin3 _ (hdone k (by omega) hb)
  ·obtain rfl:j=4:=by omega
   rw[p_lss_f (by show(4:Int)<=((4:Nat):Int);omega)]
   refine p_x ?_
   refine⟨trivial,S2,hS2,hlow,hlen,λx hx=>hin x (qaF _ hx),hnd2,hsub2,λ_=>hin c (qaK _ (by simp)),λx hx hn k hk hb=>?_,λP p1 p2 x hx=>?_⟩
   rotate_left
   ·rcases hup P (p1 hcL) p2 x hx with h|h
    ·rcases qau.1 h with h|h
     ·exact .inl h
     ·rw[qam]at h
      exact .inr (h▸p1 hcL)
    ·exact .inr h
   by_cases hxc:x=c
   ·subst hxc
    exact hdone k hk hb
   ·exact hcl x hx (λe=>by
     rcases qau.1 e with e|e
     ·exact hn e
     ·exact hxc (by simpa using e)) k hk hb
inductive Rch(M:Sq->Prop)(c0:Sq):Sq->Prop
 |base:Rch M c0 c0
 |step {d:Sq} {k:Nat}:Rch M c0 d->k<4->M (bes d k)->Rch M c0 (bes d k)
def SqM(D:List K3)(c:Sq):Prop:=∃d,d∈D/\c=(d.1,d.2.1)
def Full(D:List K3):Prop:=∀d∈D,∀q,q<4->(d.1,d.2.1,q)∈D
def One(D:List K3):Prop:=∀a0,D[0]?=some a0->∀c,SqM D c->Rch (SqM D) (a0.1,a0.2.1) c
open Classical in
def chkC(D:List K3):Int:=if chkS D≠0 then chkS D else if D=[]then 7 else if ¬Full D then 1 else if One D then 0 else 14
def vl{D:List K3}(h:chkS D≠0):chkC D=chkS D:=by
 unfold chkC
 rw[qdD h]
def chkC_7{D:List K3}(h:chkS D=0)(h0:D=[]):chkC D=7:=by
 unfold chkC
 rw[qdE (by simp[h]),qdD h0]
def chkC_1{D:List K3}(h:chkS D=0)(h0:D≠[])(hf:¬Full D):chkC D=1:=by
 unfold chkC
 rw[qdE (by simp[h]),qdE h0,qdD hf]
def chkC_14{D:List K3}(h:chkS D=0)(h0:D≠[])(hf:Full D)(ho:¬One D):chkC D=14:=by
 unfold chkC
 rw[qdE (by simp[h]),qdE h0,qdE (by simp[hf]),qdE ho]
def chkC_0{D:List K3}(h:chkS D=0)(h0:D≠[])(hf:Full D)(ho:One D):chkC D=0:=by
 unfold chkC
 rw[qdE (by simp[h]),qdE h0,qdE (by simp[hf]),qdD ho]
def asc_nd{D:List K3}(h:AscC D):D.Nodup:=by
 refine qbK.2 λi j hi hj hij e=>?_
 have:=h i j _ _ hij (qai hi) (qai hj)
 rw[e]at this
 unfold ltC3 at this
 omega
def SqL(D:List K3)(L:List Sq):Prop:=L.Nodup/\∀c,c∈L↔SqM D c
def vD{D:List K3}{L:List Sq}(hL:SqL D L)(hin:∀a∈D,inC a)(ha:AscC D):4*L.length=D.length↔Full D:=by
 have h1:∀a∈D,a∈L.flatMap quad:=λa h=>cX.2 ⟨(hL.2 _).2 ⟨a,h,rfl⟩,(hin a h).2.2⟩
 have hnd:=asc_nd ha
 constructor
 ·intro he d hd q hq
  refine Decidable.byContradiction λhn=>?_
  have:=bu (a:=(d.1,d.2.1,q) :: D) (b:=L.flatMap quad) (qbX.2 ⟨hn,hnd⟩) λa h=>by
   rcases qal.1 h with rfl|h
   ·exact cX.2 ⟨(hL.2 _).2 ⟨d,hd,rfl⟩,hq⟩
   ·exact h1 a h
  rw[eI,qaD]at this
  omega
 ·intro hf
  have h2:=bu hnd h1
  have h3:=bu (ik hL.1) λa h=>by
   obtain⟨h4,h5⟩:=cX.1 h
   obtain⟨d,hd,e⟩:=(hL.2 _).1 h4
   have:=hf d hd a.2.2 h5
   have e1:a.1=d.1:=(qcQ e).1
   have e2:a.2.1=d.2.1:=(qcQ e).2
   rw[←e1,←e2]at this
   exact this
  rw[eI]at h2 h3
  omega
def jh{H:HL}{x:Value}{D:List K3}(hl:LsH H x 3 cc3 D)(hn:D.length<=800)(hq:∀a∈D,a.2.2<=255) :
  ∃h',aw cc ab 16 [.v x] (absH aa H) [.i (chkC D)] (absH aa h')/\Low H.length H h'/\H.length<=h'.length:=by
 obtain⟨rs,h',e1,rfl,e2⟩:=x16 (ls:=[.v x]) (H:=H) (K:=λrs h'=>rs=[.i (chkC D)]/\Low H.length H h'/\H.length<=h'.length) (glsV hl.good gls0) (by
  unfold f16;simp only[qxh]
  refine p_x ?_
  refine ah (tP hl (by omega) hq) ?_
  refine p_x ?_
  by_cases hS:chkS D=0
  case neg=>
   rw[p_neq_t hS]
   refine p_x ?_
   exact⟨by rw[vl hS],Low.refl _,qaf _⟩
  rw[p_neq_f hS]
  refine p_x ?_
  obtain⟨hin,hasc⟩:=oN.1 hS
  refine bI hl ?_
  by_cases h0:D=[]
  ·rw[p_eql_t (by rw[h0];rfl)]
   refine p_x ?_
   exact⟨by rw[chkC_7 hS h0],Low.refl _,qaf _⟩
  have hpos:0<D.length:=qcE.2 h0
  rw[p_eql_f (by show((D.length:Nat):Int)≠0;omega)]
  refine p_x ?_
  obtain⟨a0,ha0⟩:=aP (l:=D) (i:=0) hpos
  have ham:=qab ha0
  have hb0:=hin _ ham
  obtain⟨rs,h1,hcall,o,ks,rfl,rfl,hset,hknd,hkm⟩:=pY hl (by omega)
  refine ah hcall ?_
  obtain⟨L,hLe⟩ : ∃L:List Sq,L=ks.map λa=>(a.1,a.2.1):=⟨_,rfl⟩
  have hLm:∀c,c∈L↔SqM D c:=λc=>by
   rw[hLe,qaU]
   constructor
   ·rintro⟨a,ha,rfl⟩
    obtain⟨d,hd,rfl⟩:=(hkm a).1 ha
    exact⟨d,hd,rfl⟩
   ·rintro⟨d,hd,rfl⟩
    exact⟨sqC (d.1,d.2.1),(hkm _).2 ⟨d,hd,rfl⟩,rfl⟩
  have hkq:∀a∈ks,a=sqC (a.1,a.2.1):=λa ha=>by
   obtain⟨d,hd,rfl⟩:=(hkm a).1 ha
   rfl
  have hLnd:L.Nodup:=by
   rw[hLe]
   refine qcl.2 (qdh (λ{a b} ha hb h e=>h ?_) hknd)
   rw[hkq a ha,hkq b hb,e]
  have hSL:SqL D L:=⟨hLnd,hLm⟩
  have hLl:L.length=ks.length:=by rw[hLe,qay]
  have hkeys:Keys L ks:=⟨hknd,λa=>(hkm a).trans ⟨λ⟨d,hd,e⟩=>⟨_,(hLm _).2 ⟨d,hd,rfl⟩,e⟩,λ⟨c,hc,e⟩=>by
   obtain⟨d,hd,rfl⟩:=(hLm c).1 hc
   exact⟨d,hd,e⟩⟩⟩
  have hbL:∀c∈L,(-4096<=c.1/\c.1<=4096)/\-4096<=c.2/\c.2<=4096:=λc hc=>by
   obtain⟨d,hd,rfl⟩:=(hLm c).1 hc
   have:=hin d hd
   exact⟨this.1,this.2.1⟩
  have hLle:L.length<=D.length:=by
   have:∀c∈L,c∈D.map λd=>(d.1,d.2.1):=λc hc=>by
    obtain⟨d,hd,rfl⟩:=(hLm c).1 hc
    exact qaU.2 ⟨d,hd,rfl⟩
   have:=bu hLnd this
   rw[qay]at this
   exact this
  clear hLe hkm
  refine p_x ?_
  have g0:(H++[o]).length=H.length+1:=by simp
  refine gi aH rfl ?_
  rw[dD,g0]
  try simp(disch:=omega)only[↓qXX]
  refine cL (bv (h:=H++[o]++[HO.o (.cells [.map (some H.length)] 1 true)]) (b:=H.length+1) (by rw[←g0];exact aH)) rfl ?_
  refine p_x ?_
  refine ak rfl ?_
  refine p_x ?_
  have hset2:Set3 (H++[o]++[HO.o (.cells [.map (some H.length)] 1 true)]) H.length ks:=hset.keep λ_ ho=>bo ho
  refine r_len3 hset2 ?_
  refine p_x ?_
  rw[hkeys.len hLnd]
  rw[p_mul (by show(-9223372036854775808:Int)<=4*(L.length:Int);omega) (by show 4*(L.length:Int)<=9223372036854775807;omega)]
  refine bI (hl.pre (h':=H++[o]++[HO.o (.cells [.map (some H.length)] 1 true)]) ((Pre.refl H).app _ |>.app _)) ?_
  by_cases hF:Full D
  case neg=>
   rw[p_neq_t (λe=>hF ((vD hSL hin hasc).1 (by
    have e':4*(L.length:Int)=(D.length:Int):=e
    omega)))]
   refine p_x ?_
   exact⟨by rw[chkC_1 hS h0 hF],((Low.refl H).app _).app _,by simp⟩
  rw[p_neq_f (by
   have:=(vD hSL hin hasc).2 hF
   show 4*(L.length:Int)=(D.length:Int)
   omega)]
  refine p_x ?_
  have hp1:(H++[o]++[HO.o (.cells [.map (some H.length)] 1 true)])[H.length+1]?=some (.o (.cells [.map (some H.length)] 1 true)):=by rw[←g0];exact aH
  have hP1:Pre H (H++[o]++[HO.o (.cells [.map (some H.length)] 1 true)]):=(Pre.refl H).app _ |>.app _
  have g1:(H++[o]++[HO.o (.cells [.map (some H.length)] 1 true)]).length=H.length+2:=by simp
  generalize H++[o]++[HO.o (.cells [.map (some H.length)] 1 true)]=h1 at *
  have g2:(h1++[HO.o (.map [] 0)]).length=H.length+3:=by simp[g1]
  rw[g1,g2]
  refine gi (vs:=[.map none]) (by rw[←g2];exact aH) rfl ?_
  rw[←g2,dD,g2]
  try simp(disch:=omega)only[↓qXX]
  have g3:(h1++[HO.o (.map [] 0)]++[HO.o (.cells [.map (some (H.length+2))] 1 true)]).length=H.length+4:=by simp[g1]
  have hS0:Set3 (h1++[HO.o (.map [] 0)]++[HO.o (.cells [.map (some (H.length+2))] 1 true)]) (H.length+2) []:=⟨[],0,bo (by rw[←g1];exact aH),rfl,λe he=>by cases he⟩
  have hA:Set3 (h1++[HO.o (.map [] 0)]++[HO.o (.cells [.map (some (H.length+2))] 1 true)]) H.length ks:=hset2.keep λ_ ho=>bo (bo ho)
  have hp1':(h1++[HO.o (.map [] 0)]++[HO.o (.cells [.map (some (H.length+2))] 1 true)])[H.length+1]?=some (.o (.cells [.map (some H.length)] 1 true)):=bo (bo hp1)
  have hp3:(h1++[HO.o (.map [] 0)]++[HO.o (.cells [.map (some (H.length+2))] 1 true)])[H.length+3]?=some (.o (.cells [.map (some (H.length+2))] 1 true)):=by rw[←g2];exact aH
  have hP2:Pre H (h1++[HO.o (.map [] 0)]++[HO.o (.cells [.map (some (H.length+2))] 1 true)]):=(hP1.app _).app _
  generalize h1++[HO.o (.map [] 0)]++[HO.o (.cells [.map (some (H.length+2))] 1 true)]=h2 at *
  clear hset2 hp1 hP1 g1 g2
  rw[g3]
  refine ak rfl ?_
  refine gi (vs:=[.nilFunc]) (by rw[←g3];exact aH) rfl ?_
  rw[←g3,dD,g3]
  try simp(disch:=omega)only[↓qXX]
  have hv:(h2++[HO.o (.cells [cloK H.length] 1 true)])[H.length+4]?=some (.o (.cells [cloK H.length] 1 true)):=by rw[←g3];exact aH
  have hCS:CS H.length L (h2++[HO.o (.cells [cloK H.length] 1 true)]) []:=⟨⟨ks,hA.keep λ_ ho=>bo ho,hkeys⟩,bo hp1',hS0.keep λ_ ho=>bo ho,bo hp3,hv⟩
  have hP3:Pre H (h2++[HO.o (.cells [cloK H.length] 1 true)]):=hP2.app _
  refine cL (bv hv) rfl ?_
  refine p_x ?_
  refine ak rfl ?_
  refine p_x ?_
  refine lK (o:=0) (k:=1) (a:=a0) (i:=0) (hl.pre hP3) rfl ha0 rfl (by omega) ?_
  simp only[cc3,qaV,qaW,qbb]
  refine p_x ?_
  refine lK (o:=1) (k:=1) (a:=a0) (i:=0) (hl.pre hP3) rfl ha0 rfl (by omega) ?_
  simp only[cc3,qbr,qaV,qaW,qbb]
  refine p_x ?_
  obtain⟨rs,h3,hcall,rfl,S3,hS3,hlow3,hlen3,hin3,hnd3,hsub3,hc3,hcl3,hup3⟩:=seen_c (b:=H.length) hbL (free L []) (a0.1,a0.2.1) _ [] hCS qdf (λx hx=>by cases hx) ⟨by have:=hb0.1;simp only;omega,by have:=hb0.2.1;simp only;omega⟩ (qaf _)
  refine fl (gr (args:=[.agg ⟨cc3 (sqC (a0.1,a0.2.1))⟩]) hcall rfl [.agg [.i .i64 a0.1,.i .i64 a0.2.1,.i .u8 0],.leaf (.v (ptrB (H.length+1))),.leaf (.v (ptrB (H.length+3))),.leaf (.v (ptrB (H.length+4)))] rfl rfl rfl) ?_
  refine p_x ?_
  have hm0:(a0.1,a0.2.1)∈L:=(hLm _).2 ⟨a0,ham,rfl⟩
  have hone:S3.length=L.length↔One D:=by
   constructor
   ·intro he b0 hb0 c hc
    rw[ha0]at hb0
    cases hb0
    have hcS:c∈S3:=by
     refine Decidable.byContradiction λhn=>?_
     have:=bu (a:=c :: S3) (b:=L) (qbX.2 ⟨hn,hnd3⟩) λa h=>by
      rcases qal.1 h with rfl|h
      ·exact(hLm _).2 hc
      ·exact hsub3 a h
     rw[qaD]at this
     omega
    exact(hup3 (Rch (SqM D) (a0.1,a0.2.1)) (λ_=>.base) (λx k hx hk hb=>.step hx hk ((hLm _).1 hb)) c hcS).resolve_left (by simp)
   ·intro ho
    refine Nat.le_antisymm (bu hnd3 hsub3) (bu hLnd λc hc=>?_)
    have hr:=ho a0 ha0 c ((hLm c).1 hc)
    induction hr with
    |base=>exact hc3 hm0
    |step hd hk hM ih=>exact hcl3 _ (ih (by
      cases hd with
      |base=>exact hm0
      |step _ _ h=>exact(hLm _).2 h)) (by simp) _ hk hc
  obtain⟨ks3,hall3,hkeys3⟩:=hS3.al
  refine cL (bv hS3.ps) rfl ?_
  refine p_x ?_
  refine ak rfl ?_
  refine p_x ?_
  refine r_len3 hS3.st ?_
  refine p_x ?_
  refine cL (bv hS3.pa) rfl ?_
  refine p_x ?_
  refine ak rfl ?_
  refine p_x ?_
  refine r_len3 hall3 ?_
  refine p_x ?_
  rw[qay,hkeys3.len hLnd]
  have hlowF:Low H.length H h3:=λj o hj ho=>hlow3 j o hj (hP3.get ho)
  have hleF:H.length<=h3.length:=by
   rw[hlen3]
   exact hP3.len
  by_cases hO:One D
  ·rw[p_neq_f (by rw[hone.2 hO])]
   refine p_x ?_
   exact⟨by rw[chkC_0 hS h0 hF hO],hlowF,hleF⟩
  ·rw[p_neq_t (λe=>hO (hone.1 (qbP e)))]
   refine p_x ?_
   exact⟨by rw[chkC_14 hS h0 hF hO],hlowF,hleF⟩)
 exact⟨h',e1,e2⟩
def con_rch{L:List Sq}(hc:Con L){M:Sq->Prop}(hM:∀c∈L,M c){c0:Sq}(h0:c0∈L):∀c∈L,Rch M c0 c:=by
 have key:∀S:List Sq,(∀x,x∈S↔x∈L/\Rch M c0 x)->∀c∈L,Rch M c0 c:=λS hS c hcL=>by
  have:=con_all hc (S:=S) (λx hx=>((hS x).1 hx).1) ⟨c0,(hS c0).2 ⟨h0,.base⟩⟩ (λx hx k hk hb=>(hS _).2 ⟨hb,.step ((hS x).1 hx).2 hk (hM _ hb)⟩) c hcL
  exact((hS c).1 this).2
 classical
 exact key (L.filter λx=>decide (Rch M c0 x)) λx=>by simp
def chkC_set{L:List Sq}{D:List K3}(hD:SetOf L D)(h0:0<L.length)(hcon:Con L)(hb:∀c∈L,(-4096<=c.1/\c.1<=4096)/\-4096<=c.2/\c.2<=4096):chkC D=0:=by
 have hDl:=hD.len
 have hM:∀c,SqM D c↔c∈L:=λc=>⟨λ⟨d,hd,e⟩=>e▸(hD.mem.1 hd).1,λhc=>⟨(c.1,c.2,0),hD.mem.2 ⟨hc,by show 0<4;omega⟩,rfl⟩⟩
 refine chkC_0 (oN.2 ⟨λa ha=>?_,hD.srt⟩) (λe=>by rw[e]at hDl;simp at hDl;omega) (λd hd q hq=>hD.mem.2 ⟨(hD.mem.1 hd).1,hq⟩) λa0 ha0 c hc=>con_rch hcon (λc hc=>(hM c).2 hc) (hD.mem.1 (qab ha0)).1 c ((hM c).1 hc)
 have h:=hD.mem.1 ha
 have:=hb _ h.1
 exact⟨this.1,this.2,h.2⟩
def check_c{H:HL}{x:Value}{L:List Sq}{D:List K3}(hl:LsH H x 3 cc3 D)(hD:SetOf L D)(h0:0<L.length)(hn:L.length<=200)(hnd:L.Nodup)(hcon:Con L)(hb:∀c∈L,(-4096<=c.1/\c.1<=4096)/\-4096<=c.2/\c.2<=4096) :
  ∃h',aw cc ab 16 [.v x] (absH aa H) [.i 0] (absH aa h')/\Low H.length H h'/\H.length<=h'.length:=by
 have hDl:=hD.len
 have:=jh hl (by omega) λa ha=>by
  have:=(hD.mem.1 ha).2
  omega
 rw[chkC_set hD h0 hcon hb]at this
 exact this
def encS(z:Nat):Tl:=[.int .u8 (Int.ofNat z)]
def fK(z:Nat):(encS z).length=1:=rfl
def rem4{a:Nat}{K:Tu}:P1.ari .rem .i64 (Int.ofNat a) 4 (@hid _ ⟨K⟩)=K (Int.ofNat (a%4)):=by
 rw[p_rem_nn (show(0:Int)<=Int.ofNat a from qat a) (by omega)]
 rfl
def size1{n:Nat}(h:n<=1000000):bJ n 1=true:=by
 unfold bJ
 rw[qaZ (by omega),qaZ (by omega)];rfl
def waySl(d:Nat):Value:=.slice (some ⟨1000000+d,0,some 1⟩) (wayN d).length 0
def wQ{d:Nat}(hd:d<4){K:Unit->Prop}{K2:Te}(hK:K ()):P1.opt (inB 4 (Int.ofNat d)) (@hid _ ⟨K⟩):=by
 refine af (x:=()) ?_ hK
 rw[inB_eq,qdD ⟨qat d,by show(d:Int)<((4:Nat):Int);omega⟩]
def tX{d:Nat}(hd:d<4):cW gl0 0 [(Int.ofNat d,1)] 1=some [waySl d]:=by
 have:d=0∨d=1∨d=2∨d=3:=by omega
 rcases this with rfl|rfl|rfl|rfl<;>rfl
def wO(d:Nat):aS (waySl d)=true:=by simp[waySl,aS,noLoc,aZ,bz,bp,aR,aI]
def way_slG{d:Nat}(hd:d<4)(g:bU):slG cc 1 g (waySl d)=some ((wayN d).flatMap encS,(wayN d).length):=by
 have h0:cc.G 1000000=some gl4:=by kernel_rfl
 have h1:cc.G 1000001=some gl5:=by kernel_rfl
 have h2:cc.G 1000002=some gl6:=by kernel_rfl
 have h3:cc.G 1000003=some gl7:=by kernel_rfl
 have:d=0∨d=1∨d=2∨d=3:=by omega
 rcases this with rfl|rfl|rfl|rfl
 ·show(((cc.G 1000000).bind λvs=>cut vs 0 (1*1)).map λx=>(x,1))=_
  rw[h0];rfl
 ·show(((cc.G 1000001).bind λvs=>cut vs 0 (3*1)).map λx=>(x,3))=_
  rw[h1];rfl
 ·show(((cc.G 1000002).bind λvs=>cut vs 0 (2*1)).map λx=>(x,2))=_
  rw[h2];rfl
 ·show(((cc.G 1000003).bind λvs=>cut vs 0 (3*1)).map λx=>(x,3))=_
  rw[h3];rfl
abbrev cloV(bw b:Nat):Value:=.func (.func 21) ⟨[]⟩ ⟨[ptrB (b+1),ptrB bw,ptrB (b+3),ptrB (b+2),ptrB (b+4)]⟩
structure WS(bw b:Nat)(L:List Sq)(h:HL)(s:TS)(x:Value):Prop where
 lt:bw<b
 mp:∃ks,Set3 h b ks/\ks.Nodup/\∀a,a∈ks↔∃c,c∈L/\c∉s.been/\a=sqC c
 pl:h[b+1]?=some (.o (.cells [.map (some b)] 1 true))
 pw:h[bw]?=some (.o (.cells [x] 1 true))
 ow:OwnL (b+5) h x 1 encS s.steps
 ph:h[b+2]?=some (.o (.cells [.int .i64 (.ofNat s.head)] 1 true))
 pt:h[b+3]?=some (.o (.cells [.int .i64 (.ofNat s.last)] 1 true))
 pv:h[b+4]?=some (.o (.cells [cloV bw b] 1 true))
 ln:b+5<=h.length
section
variable {bw b:Nat} {L:List Sq} {h:HL} {s:TS} {x:Value}
def WS.has(hw:WS bw b L h s x):∃ks,Set3 h b ks/\∀c,sqC c∈ks↔c∈L/\c∉s.been:=by
 obtain⟨ks,h1,_,h2⟩:=hw.mp
 exact⟨ks,h1,λc=>(h2 _).trans ⟨λ⟨d,h3,h4,e⟩=>nZ e▸⟨h3,h4⟩,λ⟨h3,h4⟩=>⟨c,h3,h4,rfl⟩⟩⟩
def WS.go(hw:WS bw b L h s x){k:Nat}{h':HL}{x':Value}(ho:OwnL (b+5) h' x' 1 encS (s.steps++wayN ((k+4 - s.head)%4)))(hk:∀(j:Nat) o,h[j]?=some o->blk x≠some j->h'[j]?=some o)(hl:h.length<=h'.length) :
  WS bw b L ((h'.set bw (.o (.cells [x'] 1 true))).set (b+2) (.o (.cells [.int .i64 (.ofNat k)] 1 true))) (goT s k) x':=by
 have hlt:=hw.lt
 have hln:=hw.ln
 have old:∀(j:Nat) o,j<b+5->h[j]?=some o->h'[j]?=some o:=λj o hj ho'=>hk j o ho' λe=>by
  have:=(hw.ow.blk e).1
  omega
 obtain⟨ks,m1,m2,m3⟩:=hw.mp
 refine⟨hlt,⟨ks,(m1.keep λo ho'=>bn (bn (old _ _ (by omega) ho') (by omega)) (by omega)),m2,m3⟩,bn (bn (old _ _ (by omega) hw.pl) (by omega)) (by omega),bn (nc (old _ _ (by omega) hw.pw)) (by omega),?_,nc (bn (old _ _ (by omega) hw.ph) (by omega)),bn (bn (old _ _ (by omega) hw.pt) (by omega)) (by omega),bn (bn (old _ _ (by omega) hw.pv) (by omega)) (by omega),by simp;omega⟩
 refine ho.keep λj o hj hb=>?_
 have:=(ho.blk hb).1
 exact bn (bn hj (by omega)) (by omega)
def WS.go_low(hw:WS bw b L h s x){h':HL}{o1 o2:HO}(hk:∀(j:Nat) o,h[j]?=some o->blk x≠some j->h'[j]?=some o):Low bw h ((h'.set bw o1).set (b+2) o2):=by
 have hlt:=hw.lt
 intro j o hj ho
 refine bn (bn (hk j o ho λe=>?_) (by omega)) (by omega)
 have:=(hw.ow.blk e).1
 omega
def WS.vis(hw:WS bw b L h s x){c:Sq}{ks:List K3}(hks:ks.Nodup/\∀a,a∈ks↔∃c,c∈L/\c∉s.been/\a=sqC c){h':HL}(h1:h'=h∨∃o,h'=h.set b o)(h2:Set3 h' b (ks.erase (sqC c))) :
  WS bw b L (h'.set (b+3) (.o (.cells [.int .i64 (.ofNat s.steps.length)] 1 true))) (inT s c) x/\Low bw h (h'.set (b+3) (.o (.cells [.int .i64 (.ofNat s.steps.length)] 1 true))):=by
 have hlt:=hw.lt
 have hln:=hw.ln
 have old:∀(j:Nat) o,j≠b->h[j]?=some o->h'[j]?=some o:=λj o hj ho=>by
  rcases h1 with rfl|⟨o',rfl⟩
  ·exact ho
  ·exact bn ho (by omega)
 have hlen:h'.length=h.length:=by
  rcases h1 with rfl|⟨o',rfl⟩
  ·rfl
  ·simp
 refine⟨⟨hlt,⟨ks.erase (sqC c),h2.keep λo ho'=>bn ho' (by omega),hks.1.erase _,λa=>?_⟩,bn (old _ _ (by omega) hw.pl) (by omega),bn (old _ _ (by omega) hw.pw) (by omega),?_,bn (old _ _ (by omega) hw.ph) (by omega),nc (old _ _ (by omega) hw.pt),bn (old _ _ (by omega) hw.pv) (by omega),by simp;omega⟩,λj o hj ho=>bn (old j o (by omega) ho) (by omega)⟩
 ·rw[hks.1.mem_erase_iff,hks.2]
  constructor
  ·rintro⟨hne,d,hd,hn,rfl⟩
   refine⟨d,hd,λhm=>?_,rfl⟩
   rcases qau.1 hm with hm|hm
   ·exact hn hm
   ·simp only[qam]at hm
    exact hne (hm▸rfl)
  ·rintro⟨d,hd,hn,rfl⟩
   refine⟨λe=>hn (qaK _ ?_),d,hd,λhm=>hn (qaF _ hm),rfl⟩
   rw[nZ e]
   exact List.mem_singleton_self _
 ·refine hw.ow.keep λj o hj hb=>?_
  have:=(hw.ow.blk hb).1
  exact bn (old j o (by omega) hj) (by omega)
end
def sub4{a b:Nat}(hb:b<4)(ha:a<=100):Int.ofNat a - Int.ofNat b+4=Int.ofNat (a+4 - b):=by
 show((a:Nat):Int) - ((b:Nat):Int)+4=((a+4 - b:Nat):Int)
 omega
def walk1_c{bw b:Nat}{L:List Sq}(hL:∀c∈L,(-4096<=c.1/\c.1<=4096)/\-4096<=c.2/\c.2<=4096)(hLn:L.length<=1000):∀n,∀(c:Sq) (h:HL) (s:TS) (x:Value),WS bw b L h s x->Ev L s s->s.steps.length<=6*s.been.length->c∈L->c∉s.been->free L s.been<=n->
  ∃rs h',aw cc ab 21 [.i c.1,.i c.2,.i 0,.v (ptrB (b+1)),.v (ptrB bw),.v (ptrB (b+3)),.v (ptrB (b+2)),.v (ptrB (b+4))] (absH aa h) rs (absH aa h')/\rs=[]/\
   ∃x',WS bw b L h' (visT L n c s) x'/\Low bw h h':=by
 intro n
 induction n with
 |zero=>
  intro c h s x _ _ _ hc hn hf
  have:=nb (L:=L) (b:=s.been) (b':=s.been++[c]) (λx hx=>qaF _ hx) hc hn (qaK _ (by simp))
  omega
 |succ n ih=>
  intro c h s x hw hev hbd hc hn hf
  refine x21 (K:=λrs h'=>rs=[]/\∃x',WS bw b L h' (visT L (n+1) c s) x'/\Low bw h h') (glsI (glsI (glsI (glsV (eY _) (glsV (eY _) (glsV (eY _) (glsV (eY _) (glsV (eY _) gls0)))))))) ?_
  have hlt:=hw.lt
  have hsm:=hev.small
  have hcb:=hL c hc
  obtain⟨ks,hset,hks⟩:=hw.mp
  unfold f21;simp only[qxh]
  refine p_x ?_
  refine cL (bv hw.pl) rfl ?_
  refine p_x ?_
  refine ak rfl ?_
  refine p_x ?_
  refine r_de3 (kt:=30) eR dQ hset (sqC c) λh1 e1 hs1=>?_
  obtain⟨hw1,hlow1⟩:=hw.vis hks e1 hs1
  have hpw1:h1[bw]?=some (.o (.cells [x] 1 true)):=by
   rcases e1 with rfl|⟨o',rfl⟩
   ·exact hw.pw
   ·exact bn hw.pw (by omega)
  have hpt1:h1[b+3]?=some (.o (.cells [.int .i64 (.ofNat s.last)] 1 true)):=by
   rcases e1 with rfl|⟨o',rfl⟩
   ·exact hw.pt
   ·exact bn hw.pt (by omega)
  refine cL (bv hpw1) rfl ?_
  refine p_x ?_
  refine ak (hw.ow.good fK) ?_
  refine p_x ?_
  refine af hw.ow.lenB ?_
  refine gi hpt1 rfl ?_
  try simp(disch:=omega)only[↓qXX]
  generalize h1.set (b+3) (.o (.cells [.int .i64 (.ofNat s.steps.length)] 1 true))=h2 at *
  clear hset hks hpw1 hpt1 hs1 e1
  have hev1:=in_ev hev hc hn
  have hfr1:=uD (L:=L) (s:=s) hc hn
  have hbd1:(inT s c).steps.length+6<=6*(inT s c).been.length:=by
   show s.steps.length+6<=6*(s.been++[c]).length
   simp;omega
  refine bG (σ:=HL×Value) 4 (λj _=>[.i (Int.ofNat j)]) (λ_ s=>s.1) (λj t=>WS bw b L t.1 (rnds (visT L n) L c (inT s c) j) t.2/\Low bw h t.1) (j0:=0) (s0:=(h2,x)) rfl rfl (qaO _) ⟨hw1,hlow1⟩ ?_
  rintro j ⟨h3,x3⟩ hj ⟨hw3,hlow3⟩ self hself
  simp only at hw3 hlow3 hself
  have hev3:=nQ (iI L n) (c:=c) hev1 (by omega) j hj
  have hbd3:(rnds (visT L n) L c (inT s c) j).steps.length+6<=6*(rnds (visT L n) L c (inT s c) j).been.length:=by
   have:=hev3.le
   omega
  refine p_x ?_
  by_cases hj4:j<4
  case neg=>
   obtain rfl:j=4:=by omega
   rw[p_lss_f (by show(4:Int)<=((4:Nat):Int);omega)]
   refine p_x ?_
   exact⟨trivial,x3,hw3,hlow3⟩
  rw[p_lss_t (by show(j:Int)<4;omega)]
  have hstep:∀(h':HL) (x':Value),WS bw b L h' (rndT (visT L n) L c (rnds (visT L n) L c (inT s c) j) j) x'->Low bw h h'->self [.i (Int.ofNat j+1)] h':=λh' x' a1 a2=>hself (h',x') hj4 ⟨a1,a2⟩
  have hfj:free L (rnds (visT L n) L c (inT s c) j).been<=n:=qbh (gL λy hy=>hev3.mem hy) (by omega)
  generalize rnds (visT L n) L c (inT s c) j=t at *
  clear hself hw1 hlow1 hev1 hbd1
  simp only[p_cond_t]
  refine ij (λl' h'=>l'=[]/\∃x',WS bw b L h' (rndT (visT L n) L c t j) x'/\Low bw h h') ?_ ?_
  ·rintro _ h' ⟨rfl,x',a1,a2⟩
   refine p_x ?_
   rw[bg (by omega)]
   exact hstep h' x' a1 a2
  intro jn hjn
  refine p_x ?_
  refine ac (qw (c:=c) hj4 ⟨by omega,by omega⟩) ?_
  refine p_x ?_
  obtain⟨ks,hset,hks⟩:=hw3.has
  refine cL (bv hw3.pl) rfl ?_
  refine p_x ?_
  refine ak rfl ?_
  refine p_x ?_
  refine r_lu3 (kt:=30) eR dQ hset (sqC (bes c j)) ?_
  refine p_x ?_
  by_cases hnew:bes c j∈L/\bes c j∉t.been
  case neg=>
   rw[qdB (λe=>hnew ((hks _).1 e))]
   simp(disch:=omega)only[↓qXX,qba]
   exact hjn _ _ ⟨rfl,x3,by unfold rndT;rw[qdE hnew];exact hw3,hlow3⟩
  rw[qdC ((hks _).2 hnew)]
  simp(disch:=omega)only[↓qXX,qaI]
  unfold rndT at hjn
  rw[qdD hnew]at hjn
  have hev4:=hev3.self
  have hsm4:=hev4.small
  have hhd:=hev4.hd
  refine cL (bv hw3.pw) rfl ?_
  refine p_x ?_
  refine ak (hw3.ow.good fK) ?_
  refine p_x ?_
  refine cL (bv hw3.ph) rfl ?_
  refine p_x ?_
  rw[p_sub (by show(-9223372036854775808:Int)<=((j:Nat):Int) - ((t.head:Nat):Int);omega) (by show((j:Nat):Int) - ((t.head:Nat):Int)<=9223372036854775807;omega),p_add (by show(-9223372036854775808:Int)<=((j:Nat):Int) - ((t.head:Nat):Int)+4;omega) (by show((j:Nat):Int) - ((t.head:Nat):Int)+4<=9223372036854775807;omega),sub4 hhd (by omega),rem4]
  have hd4:(j+4 - t.head)%4<4:=qbD _ (by omega)
  refine wQ (K2:=λ_=>True) hd4 ?_
  refine af (tX hd4) ?_
  refine p_x ?_
  refine ak (wO _) ?_
  refine p_x ?_
  have hw4len:=(wP ((j+4 - t.head)%4)).2.2.1
  refine hw3.ow.ap (k:=(wayN ((j+4 - t.head)%4)).length) (new:=wayN ((j+4 - t.head)%4)) fK hw3.ln (way_slG hd4 _) rfl (size1 (by omega)) λx4 h4 b1 b2 b3 b4 b5=>?_
  refine p_x ?_
  refine ak b2 ?_
  refine p_x ?_
  have hw5:=hw3.go (k:=j) b1 b3 b4
  have hlow5:=hlow3.trans (hw3.go_low (o1:=.o (.cells [x4] 1 true)) (o2:=.o (.cells [.int .i64 (.ofNat j)] 1 true)) b3)
  have old4:∀(i:Nat) o,i<b+5->h3[i]?=some o->h4[i]?=some o:=λi o hi ho=>b3 i o ho λe=>by
   have:=(hw3.ow.blk e).1
   omega
  refine gi (old4 _ _ (by omega) hw3.pw) rfl ?_
  try simp(disch:=omega)only[↓qXX]
  refine gi (bn (old4 _ _ (by omega) hw3.ph) (by omega)) rfl ?_
  try simp(disch:=omega)only[↓qXX]
  generalize (h4.set bw (.o (.cells [x4] 1 true))).set (b+2) (.o (.cells [.int .i64 (.ofNat j)] 1 true))=h5 at *
  clear old4 b1 b2 b3 b4 b5 hset hks
  refine cL (bv hw5.pv) rfl ?_
  refine p_x ?_
  refine ak rfl ?_
  refine p_x ?_
  obtain⟨g1,g2,g3,g4,g5,g6⟩:=go_ev hev4 hj4
  have hev5:Ev L (goT t j) (goT t j):=⟨⟨[],by simp⟩,hev4.nd,hev4.sub,g6,g3,g4,g5,qaf _⟩
  have hbd5:(goT t j).steps.length<=6*(goT t j).been.length:=by
   rw[g1]
   omega
  have hev6:=(iI L n (bes c j) (goT t j) hev5 hnew.1 hnew.2 hfj).1
  have hbd6:(visT L n (bes c j) (goT t j)).steps.length<=6*(visT L n (bes c j) (goT t j)).been.length:=by
   have:=hev6.le
   omega
  have key:=ih (bes c j) h5 (goT t j) x4 hw5 hev5 hbd5 hnew.1 hnew.2 hfj
  obtain⟨rs,h6,hcall,rfl,x6,hw6,hlow6⟩:=key
  refine fl (gr (args:=[.agg ⟨cc3 (sqC (bes c j))⟩]) hcall rfl [.agg [.i .i64 (bes c j).1,.i .i64 (bes c j).2,.i .u8 0],.leaf (.v (ptrB (b+1))),.leaf (.v (ptrB bw)),.leaf (.v (ptrB (b+3))),.leaf (.v (ptrB (b+2))),.leaf (.v (ptrB (b+4)))] rfl rfl rfl) ?_
  refine p_x ?_
  have hsm6:=hev6.small
  have hhd6:=hev6.hd
  generalize visT L n (bes c j) (goT t j)=u at *
  have hlow6':=hlow5.trans hlow6
  clear hw5 hev5 ih
  have e2:Int.ofNat j+2=Int.ofNat (j+2):=rfl
  rw[p_add (by show(-9223372036854775808:Int)<=((j:Nat):Int)+2;omega) (by show((j:Nat):Int)+2<=9223372036854775807;omega),e2,rem4]
  have hk4:(j+2)%4<4:=qbD _ (by omega)
  generalize (j+2)%4=k at *
  refine cL (bv hw6.pw) rfl ?_
  refine p_x ?_
  refine ak (hw6.ow.good fK) ?_
  refine p_x ?_
  refine cL (bv hw6.ph) rfl ?_
  refine p_x ?_
  rw[p_sub (by show(-9223372036854775808:Int)<=((k:Nat):Int) - ((u.head:Nat):Int);omega) (by show((k:Nat):Int) - ((u.head:Nat):Int)<=9223372036854775807;omega),p_add (by show(-9223372036854775808:Int)<=((k:Nat):Int) - ((u.head:Nat):Int)+4;omega) (by show((k:Nat):Int) - ((u.head:Nat):Int)+4<=9223372036854775807;omega),sub4 hhd6 (by omega),rem4]
  have hd4':(k+4 - u.head)%4<4:=qbD _ (by omega)
  refine wQ (K2:=λ_=>True) hd4' ?_
  refine af (tX hd4') ?_
  refine p_x ?_
  refine ak (wO _) ?_
  refine p_x ?_
  have hw4len':=(wP ((k+4 - u.head)%4)).2.2.1
  refine hw6.ow.ap (k:=(wayN ((k+4 - u.head)%4)).length) (new:=wayN ((k+4 - u.head)%4)) fK hw6.ln (way_slG hd4' _) rfl (size1 (by omega)) λx7 h7 b1 b2 b3 b4 b5=>?_
  refine p_x ?_
  refine ak b2 ?_
  refine p_x ?_
  have hw8:=hw6.go (k:=k) b1 b3 b4
  have hlow8:=hlow6'.trans (hw6.go_low (o1:=.o (.cells [x7] 1 true)) (o2:=.o (.cells [.int .i64 (.ofNat k)] 1 true)) b3)
  have old7:∀(i:Nat) o,i<b+5->h6[i]?=some o->h7[i]?=some o:=λi o hi ho=>b3 i o ho λe=>by
   have:=(hw6.ow.blk e).1
   omega
  refine gi (old7 _ _ (by omega) hw6.pw) rfl ?_
  try simp(disch:=omega)only[↓qXX]
  refine gi (bn (old7 _ _ (by omega) hw6.ph) (by omega)) rfl ?_
  try simp(disch:=omega)only[↓qXX]
  exact hjn _ _ ⟨rfl,x7,hw8,hlow8⟩
end Go.Am
end

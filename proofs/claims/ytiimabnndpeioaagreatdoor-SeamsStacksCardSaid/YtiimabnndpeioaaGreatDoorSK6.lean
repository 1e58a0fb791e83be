/-
  PART 6 OF THE PROOF (no conditions).
-/
import Derived.Test.YtiimabnndpeioaaGreatDoorSK5
set_option linter.unusedSectionVars false
set_option linter.unusedSimpArgs false
set_option linter.unusedVariables false
set_option linter.constructorNameAsVariable false
set_option linter.defProp false
noncomputable section
set_option maxRecDepth 100000
set_option maxHeartbeats 16000000
namespace Go.Am
open Sx Go.Proofs
def nr{g:TK}{sg:Sig}{cap:Tk}{ls b:TB}{H H':Tp}{args:Tk}(e:aB cc ab g ls H b H')(f:ab g=some sg)(xs:List S0)(h1:db xs sg.ps=true)(c:cX xs=ls)(d:aq xs=args++cap) :
  ta cc (.func (.func g) ⟨[]⟩ ⟨cap⟩) args sg.rs H b H':=by
 obtain⟨h,j,k,a,c2,c3,c4⟩:=e;rw[f]at a;cases a;obtain⟨i,_⟩:=dz c2.1 h1 (c2.2.1.trans c.symm);rw[i,d]at c4;exact⟨k,c3,.inl ⟨g,⟨[]⟩,⟨cap⟩,rfl,by simpa using c4⟩⟩
abbrev ptrB(b:Nat):Value:=.pointer (some ⟨b,0,none⟩)
def dK{h:HL}{b e:Nat}{cs:Tk}(a:h[b]?=some (.o (.cells cs e true))):Ptr h (ptrB b) cs:=⟨b,0,cs,e,true,rfl,a,Sx.cut_all rfl⟩
def aX(b:Nat):az (ptrB b)=true:=by simp[az,noLoc,aR,aZ,aT,aI,av]
def cN{h:HL}{p:Value}{cs:Tk}{K:Te}{n:Nat}(c:Ptr h p cs)(b:cs.length=n)(a:K cs):P1.peek (.lg cc n p) h (@hid _ ⟨K⟩):=gi (c.lg b) a
def iB{h:HL}{p:Value}{cs ds:Tk}{K:Te}{o n:Nat}(f:Ptr h p cs)(e:o+n<=cs.length)(c:ds=(cs.drop o).take n)(d:K ds) :
  P1.opt (fdP o p) (@hid _ ⟨λy=>P1.chk y (@hid _ ⟨P1.peek (.lg cc n y) h (@hid _ ⟨K⟩)⟩)⟩):=by
 subst c;obtain⟨q,b,a⟩:=f.fd o n e;refine ae b (ac a.good (gi (a.lg ?_) d));rw[qaL,qbQ];omega
def dW{h:HL}{b e:Nat}{cs ds:Tk}{K:Te}{o n:Nat}(a:h[b]?=some (.o (.cells cs e true)))(f:o+n<=cs.length)(c:ds=(cs.drop o).take n)(d:K ds) :
  P1.opt (nilP (ptrB b)) (@hid _ ⟨λx=>P1.chk x (@hid _ ⟨P1.opt (fdP o x) (@hid _ ⟨λy=>P1.chk y (@hid _ ⟨P1.peek (.lg cc n y) h (@hid _ ⟨K⟩)⟩)⟩)⟩)⟩):=
 ae (x:=ptrB b) rfl (ac (aX b) (iB (dK a) f c d))
def ki{h:HL}{b e:Nat}{cs new:Tk}{K:Ta}{o:Nat}(c:h[b]?=some (.o (.cells cs e true)))(f:o+new.length<=cs.length)(d:K [] (h.set b (.o (.cells (cs.take o++new++cs.drop (o+new.length)) e true)))) :
  P1.opt (nilP (ptrB b)) (@hid _ ⟨λx=>P1.chk x (@hid _ ⟨P1.opt (fdP o x) (@hid _ ⟨λy=>P1.chk y (@hid _ ⟨P1.heap (.st y new) h (@hid _ ⟨K⟩)⟩)⟩)⟩)⟩):=by
 refine ae (x:=ptrB b) rfl (ac (aX b) (ae (x:=.pointer (some ⟨b,0+o,none⟩)) rfl (ac (by simp[az,noLoc,aR,aZ,aT,aI,av]) ?_)));have a:(Hp.st (.pointer (some ⟨b,0+o,none⟩)) new).run (getH aa h) h.length=some ([.set b (.cells (cs.take o++new++cs.drop (o+new.length)) e true)],[]):=by
  show stP (.pointer (some ⟨b,0+o,none⟩)) new (getH aa h) h.length=_;unfold stP;simp only;rw[bN c];simp only;unfold splice;rw[qaR,qd0 f];rfl
 exact cj a d
def wc{h:HL}{b e:Nat}{vs new:Tk}{K:Ta}(c:h[b]?=some (.o (.cells vs e true)))(f:new.length=vs.length)(d:K [] (h.set b (.o (.cells new e true)))):P1.heap (.st (ptrB b) new) h (@hid _ ⟨K⟩):=by
 have a:(Hp.st (ptrB b) new).run (getH aa h) h.length=some ([.set b (.cells new e true)],[]):=by
  show stP (ptrB b) new (getH aa h) h.length=_;unfold stP;simp only;rw[bN c];simp only;unfold splice;rw[qd0 (by omega)];simp[f]
 exact cj a d
def iM{b:Td}{m:(TB->HL->Prop)->Prop}(P:Td)(h1:∀l h,P l h->b l h)(a:∀j:TB->HL->Prop,(∀l h,P l h->j l h)->m j):P1.join (@hid _ ⟨b⟩) (@hid _ ⟨m⟩):=a _ h1
def qz{a b:Int}{K:Tm}(h:∀t,t=decide (a=b)->K t):P1.cmp .eql a b (@hid _ ⟨K⟩):=by
 show K (a==b);exact h _ (by rw[qbH];simp)
def dp{h:HL}{a b:HO}:(h++[a]).set h.length b=h++[b]:=by simp
def ao{h:HL}{a:HO}:(h++[a])[h.length]?=some a:=by simp
def jv{h:HL}{a:HO}{i:Nat}{o:HO}(b:h[i]?=some o):(h++[a])[i]?=some o:=Pre.get ⟨_,rfl⟩ b
def aV{h:HL}{a:HO}{i j:Nat}{o:HO}(c:h[i]?=some o)(b:j≠i):(h.set j a)[i]?=some o:=by
 rw[qaD b];exact c
def fc{h:HL}{a b:HO}{i:Nat}(c:h[i]?=some a):(h.set i b)[i]?=some b:=qaK (aw c)
def Low(n0:Nat)(h h':HL):Prop:=∀(j:Nat) o,j<n0->h[j]?=some o->h'[j]?=some o
def Sx.LsH.blkLt{α:Type}{h:HL}{v:Value}{e:Nat}{enc:α->Tk}{l:List α}(c:LsH h v e enc l){i:Nat}(a:blk v=some i):i<h.length:=by
 obtain⟨_,_,⟨rfl,_⟩|⟨id,d,g,j,f,rfl,b,_⟩⟩:=c
 ·cases a
 ·cases a;exact aw b
def OwnL{α:Type}(n0:Nat)(h:HL)(v:Value)(e:Nat)(enc:α->Tk)(l:List α):Prop:=
 (v = .slice none 0 0/\l=[])∨∃id cx,v = .slice (some ⟨id,0,tag e⟩) l.length cx/\n0<=id/\h[id]?=some (.o (.cells (l.flatMap enc) e true))/\(cx=0∨cx=l.length+1)
section
variable {α:Type} {n0 e:Nat} {enc:α->Tk} {l:List α} {h:HL} {v:Value}
def OwnL.nil(n0:Nat)(h:HL)(e:Nat)(enc:α->Tk):OwnL n0 h (.slice none 0 0) e enc []:=.inl ⟨rfl,rfl⟩
def OwnL.ls(b:∀a,(enc a).length=e)(g:OwnL n0 h v e enc l):LsH h v e enc l:=by
 have c:=aY (e:=e) (enc:=enc) (l:=l) λa _=>b a;rcases g with⟨rfl,rfl⟩|⟨id,d,rfl,_,f,_⟩
 ·exact LsH.nil h e enc
 ·exact⟨λa _=>b a,c,.inr ⟨id,0,d,_,true,rfl,f,Sx.cut_all c⟩⟩
def OwnL.keep{h':HL}(i:OwnL n0 h v e enc l)(g:∀(j:Nat) o,h[j]?=some o->blk v=some j->h'[j]?=some o):OwnL n0 h' v e enc l:=by
 rcases i with b|⟨id,a,rfl,c,d,f⟩
 ·exact .inl b
 ·exact .inr ⟨id,a,rfl,c,g _ _ d rfl,f⟩
def OwnL.app(a:OwnL n0 h v e enc l)(G:HL):OwnL n0 (h++G) v e enc l:=a.keep λ_ _ h _=>Pre.get ⟨_,rfl⟩ h
def OwnL.blk(d:OwnL n0 h v e enc l){j:Nat}(a:blk v=some j):n0<=j/\j<h.length:=by
 rcases d with⟨rfl,_⟩|⟨id,f,rfl,b,c,_⟩
 ·cases a
 ·cases a;exact⟨b,aw c⟩
def OwnL.good(b:∀a,(enc a).length=e)(c:OwnL n0 h v e enc l):az v=true:=(c.ls b).good
def OwnL.ap{bytes k:Nat}{x:Value}{new:List α}{K:Ta}(q:∀a,(enc a).length=e)(H:OwnL n0 h v e enc l)(r:n0<=h.length)(t:slG cc e (getH aa h) x=some (new.flatMap enc,k))(B:k=new.length)(z:bh (l.length+k) bytes=true)
  (s:∀v' h',OwnL n0 h' v' e enc (l++new)->az v'=true->(∀(j:Nat) o,h[j]?=some o->Sx.blk v≠some j->h'[j]?=some o)->h.length<=h'.length->(Sx.blk v'=Sx.blk v∨∃j,Sx.blk v'=some j/\h.length<=j)->K [v'] h') :
  P1.heap (.ap cc e bytes v x) h (@hid _ ⟨K⟩):=by
 subst B;have y:(l++new).length=l.length+new.length:=qau;have w:l.flatMap enc++new.flatMap enc=(l++new).flatMap enc:=by simp
 have u:∀i n c,az (.slice (some ⟨i,0,tag e⟩) n c)=true:=λi n c=>by simp[az,noLoc,aR,aZ,aT,aI,av,tag]
 rcases H with⟨rfl,rfl⟩|⟨id,I,rfl,C,p,D⟩
 ·by_cases f:new.length=0
  ·have d:new=[]:=qaY.1 f;subst d;have b:(Hp.ap cc e bytes (.slice none 0 0) x).run (getH aa h) h.length=some ([],[.slice none 0 0]):=by
    show apG cc e bytes (.slice none 0 0) x (getH aa h) h.length=_;unfold apG;rw[t];rfl
   exact cj b (s _ _ (.inl ⟨rfl,rfl⟩) rfl (λj o m _=>m) (qaj _) (.inl rfl))
  ·have b:(Hp.ap cc e bytes (.slice none 0 0) x).run (getH aa h) h.length=some ([.push (.cells (new.flatMap enc) e true)],[.slice (some ⟨h.length,0,tag e⟩) new.length 0]):=by
    show apG cc e bytes (.slice none 0 0) x (getH aa h) h.length=_;unfold apG;rw[t];simp only[qd1 f];rw[qbI,qaR]at z;rw[qd0 z]
   refine cj b (s _ _ (.inr ⟨h.length,0,by simp,r,by simp[bM,Act1.onH],.inl rfl⟩) (u _ _ _) (λj o m _=>Pre.get ⟨_,rfl⟩ m) (by simp[bM,Act1.onH]) (.inr ⟨h.length,rfl,qaj _⟩))
 ·have g:cut (l.flatMap enc) 0 (l.length*e)=some (l.flatMap enc):=Sx.cut_all (aY λa _=>q a);have G:=aw p;rcases D with rfl|rfl
  ·by_cases f:new.length=0
   ·have d:new=[]:=qaY.1 f;subst d;have b:(Hp.ap cc e bytes (.slice (some ⟨id,0,tag e⟩) l.length 0) x).run (getH aa h) h.length=some ([],[.slice (some ⟨id,0,tag e⟩) l.length 0]):=by
     show apG cc e bytes (.slice (some ⟨id,0,tag e⟩) l.length 0) x (getH aa h) h.length=_;unfold apG;rw[t];simp only[ne_eq,not_true_eq_false,if_false];rw[bN p];simp only[ne_eq,not_true_eq_false,if_false];rw[g];rfl
    exact cj b (s _ _ (.inr ⟨id,0,by simp,C,by simpa[bM]using p,.inl rfl⟩) (u _ _ _) (λj o m _=>m) (qaj _) (.inl rfl))
   ·have b:(Hp.ap cc e bytes (.slice (some ⟨id,0,tag e⟩) l.length 0) x).run (getH aa h) h.length=some ([.set id .dead,.push (.cells ((l++new).flatMap enc) e true)],[.slice (some ⟨h.length,0,tag e⟩) (l.length+new.length) 0]):=by
     show apG cc e bytes (.slice (some ⟨id,0,tag e⟩) l.length 0) x (getH aa h) h.length=_;unfold apG;rw[t];simp only[ne_eq,not_true_eq_false,if_false];rw[bN p];simp only[ne_eq,not_true_eq_false,if_false];rw[g];simp only[qd1 f,qdh];rw[qd0 z,w]
    have A:bM h [.set id .dead,.push (.cells ((l++new).flatMap enc) e true)]=h.set id (.o .dead)++[.o (.cells ((l++new).flatMap enc) e true)]:=rfl;refine cj b ?_;rw[A];refine s _ _ (.inr ⟨h.length,0,by rw[y],r,?_,.inl rfl⟩) (u _ _ _) (λj o m E=>?_) (by simp) (.inr ⟨h.length,rfl,qaj _⟩)
    ·rw[qaw (by simp)];simp
    ·exact jv (aV m λe=>E (by subst e;rfl))
  ·by_cases f:l.length+new.length<=l.length
   ·have d:new=[]:=qaY.1 (by omega);subst d;have b:(Hp.ap cc e bytes (.slice (some ⟨id,0,tag e⟩) l.length (l.length+1)) x).run (getH aa h) h.length=some ([.set id (.cells (l.flatMap enc) e true)],[.slice (some ⟨id,0,tag e⟩) l.length (l.length+1)]):=by
     show apG cc e bytes (.slice (some ⟨id,0,tag e⟩) l.length (l.length+1)) x (getH aa h) h.length=_;unfold apG;rw[t];simp only[ne_eq,not_true_eq_false,if_false];rw[bN p];simp only[ne_eq,not_true_eq_false,if_false];rw[g];simp only[qbI,qcM,qaj,if_true];unfold splice;have F:=aY (e:=e) (enc:=enc) (l:=l) λa _=>q a;simp[F]
    have A:bM h [.set id (.cells (l.flatMap enc) e true)]=h:=bD p;refine cj b ?_;rw[A];exact s _ _ (.inr ⟨id,l.length+1,by simp,C,by simpa using p,.inr (by simp)⟩) (u _ _ _) (λj o m _=>m) (qaj _) (.inl rfl)
   ·have b:(Hp.ap cc e bytes (.slice (some ⟨id,0,tag e⟩) l.length (l.length+1)) x).run (getH aa h) h.length=some ([.push (.cells ((l++new).flatMap enc) e true)],[.slice (some ⟨h.length,0,tag e⟩) (l.length+new.length) 0]):=by
     show apG cc e bytes (.slice (some ⟨id,0,tag e⟩) l.length (l.length+1)) x (getH aa h) h.length=_;unfold apG;rw[t];simp only[ne_eq,not_true_eq_false,if_false];rw[bN p];simp only[ne_eq,not_true_eq_false,if_false];rw[g];simp only[qd1 f];rw[qd0 z,w]
    refine cj b (s _ _ (.inr ⟨h.length,0,by rw[y],r,by simp[bM,Act1.onH],.inl rfl⟩) (u _ _ _) (λj o m _=>Pre.get ⟨_,rfl⟩ m) (by simp[bM,Act1.onH]) (.inr ⟨h.length,rfl,qaj _⟩))
def OwnL.ap1{bytes m:Nat}{a:α}{new:Tk}{n:To}{K:Ta}(b:∀a,(enc a).length=e)(A:OwnL n0 h v e enc l)(z:n0<=h.length)(y:m=h.length)(c:new=enc a)(i:n=some (e+10))(B:bh (l.length+1) bytes=true)
  (x:∀v' h',OwnL n0 h' v' e enc (l++[a])->az v'=true->(∀(j:Nat) o,h[j]?=some o->Sx.blk v≠some j->h'[j]?=some o)->h.length<=h'.length->(Sx.blk v'=Sx.blk v∨∃j,Sx.blk v'=some j/\h.length<=j)->K [v'] h') :
  P1.heap (.ap cc e bytes v (.slice (some ⟨m,0,n⟩) 1 2)) (h++[.o (.cells new e true)]) (@hid _ ⟨K⟩):=by
 subst y c i;have g:OwnL n0 (h++[HO.o (.cells (enc a) e true)]) v e enc l:=A.app _;refine g.ap (new:=[a]) (k:=1) b (by simp;omega) ?_ rfl B λv' h' p q r s d=>x v' h' p q (λj o w u=>r j o (jv w) u) (by simp at s;omega) ?_
 ·have C:SlC (h++[HO.o (.cells (enc a) e true)]) (.slice (some ⟨h.length,0,tag e⟩) 1 2) e 1 (enc a):=⟨by rw[b,qce],.inr ⟨h.length,0,2,enc a,true,rfl,ao,Sx.cut_all (by rw[b,qce])⟩⟩;have f:slG cc e (getH aa (h++[HO.o (.cells (enc a) e true)])) (.slice (some ⟨h.length,0,tag e⟩) 1 2)=some ([a].flatMap enc,1):=by
   rw[qL C];simp
  exact f
 ·rcases d with d|⟨j,f,t⟩
  ·exact .inl d
  ·exact .inr ⟨j,f,by simp at t;omega⟩
end
def x5:XG 5 (f5 (hA P1)):=xx i5 e5
def x6:XG 6 (f6 (hA P1)):=xx i6 e6
def x7:XG 7 (f7 (hA P1)):=xx i7 e7
def u8:UG 8 (f8 (hA P1)):=uu i8 e8
def x8:XG 8 (f8 (hA P1)):=xx i8 e8
def x9:XG 9 (f9 (hA P1)):=xx i9 e9
def x10:XG 10 (f10 (hA P1)):=xx i10 e10
def x14:XG 14 (f14 (hA P1)):=xx i14 e14
def u16:UG 16 (f16 (hA P1)):=uu i16 e16
def x16:XG 16 (f16 (hA P1)):=xx i16 e16
def x17:XG 17 (f17 (hA P1)):=xx i17 e17
def u18:UG 18 (f18 (hA P1)):=uu i18 e18
def q18:QG 18 (f18 (hA P1)):=qq u18 rfl (by kernel_rfl)
def x19:XG 19 (f19 (hA P1)):=xx i19 e19
def u20:UG 20 (f20 (hA P1)):=uu i20 e20
def x21:XG 21 (f21 (hA P1)):=xx i21 e21
def x22:XG 22 (f22 (hA P1)):=xx i22 e22
def x24:XG 24 (f24 (hA P1)):=xx i24 e24
def x25:XG 25 (f25 (hA P1)):=xx i25 e25
def x26:XG 26 (f26 (hA P1)):=xx i26 e26
def x27:XG 27 (f27 (hA P1)):=xx i27 e27
def u28:UG 28 (f28 (hA P1)):=uu i28 e28
def q28:QG 28 (f28 (hA P1)):=qq u28 rfl (by kernel_rfl)
def x29:XG 29 (f29 (hA P1)):=xx i29 e29
def u30:UG 30 (f30 (hA P1)):=uu i30 e30
def q30:QG 30 (f30 (hA P1)):=qq u30 rfl (by kernel_rfl)
def x31:XG 31 (f31 (hA P1)):=xx i31 e31
def u33:UG 33 (f33 (hA P1)):=uu i33 e33
def q33:QG 33 (f33 (hA P1)):=qq u33 rfl (by kernel_rfl)
def u34:UG 34 (f34 (hA P1)):=uu i34 e34
def q34:QG 34 (f34 (hA P1)):=qq u34 rfl (by kernel_rfl)
def x37:XG 37 (f37 (hA P1)):=xx i37 e37
def u38:UG 38 (f38 (hA P1)):=uu i38 e38
def q38:QG 38 (f38 (hA P1)):=qq u38 rfl (by kernel_rfl)
def u39:UG 39 (f39 (hA P1)):=uu i39 e39
def q39:QG 39 (f39 (hA P1)):=qq u39 rfl (by kernel_rfl)
def x41:XG 41 (f41 (hA P1)):=xx i41 e41
def x42:XG 42 (f42 (hA P1)):=xx i42 e42
def u47:UG 47 (f47 (hA P1)):=uu i47 e47
def q47:QG 47 (f47 (hA P1)):=qq u47 rfl (by kernel_rfl)
def x48:XG 48 (f48 (hA P1)):=xx i48 e48
def x49:XG 49 (f49 (hA P1)):=xx i49 e49
def x50:XG 50 (f50 (hA P1)):=xx i50 e50
def u51:UG 51 (f51 (hA P1)):=uu i51 e51
def q51:QG 51 (f51 (hA P1)):=qq u51 rfl (by kernel_rfl)
def u53:UG 53 (f53 (hA P1)):=uu i53 e53
def q53:QG 53 (f53 (hA P1)):=qq u53 rfl (by kernel_rfl)
def x54:XG 54 (f54 (hA P1)):=xx i54 e54
def u55:UG 55 (f55 (hA P1)):=uu i55 e55
def q55:QG 55 (f55 (hA P1)):=qq u55 rfl (by kernel_rfl)
def x56:XG 56 (f56 (hA P1)):=xx i56 e56
def u57:UG 57 (f57 (hA P1)):=uu i57 e57
def q57:QG 57 (f57 (hA P1)):=qq u57 rfl (by kernel_rfl)
def u58:UG 58 (f58 (hA P1)):=uu i58 e58
def q58:QG 58 (f58 (hA P1)):=qq u58 rfl (by kernel_rfl)
def x59:XG 59 (f59 (hA P1)):=xx i59 e59
def x61:XG 61 (f61 (hA P1)):=xx i61 e61
def u62:UG 62 (f62 (hA P1)):=uu i62 e62
def q62:QG 62 (f62 (hA P1)):=qq u62 rfl (by kernel_rfl)
def x63:XG 63 (f63 (hA P1)):=xx i63 e63
def u64:UG 64 (f64 (hA P1)):=uu i64 e64
def q64:QG 64 (f64 (hA P1)):=qq u64 rfl (by kernel_rfl)
def u65:UG 65 (f65 (hA P1)):=uu i65 e65
def q65:QG 65 (f65 (hA P1)):=qq u65 rfl (by kernel_rfl)
def x66:XG 66 (f66 (hA P1)):=xx i66 e66
def u67:UG 67 (f67 (hA P1)):=uu i67 e67
def q67:QG 67 (f67 (hA P1)):=qq u67 rfl (by kernel_rfl)
def x68:XG 68 (f68 (hA P1)):=xx i68 e68
def x69:XG 69 (f69 (hA P1)):=xx i69 e69
def x71:XG 71 (f71 (hA P1)):=xx i71 e71
def x72:XG 72 (f72 (hA P1)):=xx i72 e72
def x73:XG 73 (f73 (hA P1)):=xx i73 e73
def x74:XG 74 (f74 (hA P1)):=xx i74 e74
def x75:XG 75 (f75 (hA P1)):=xx i75 e75
def u76:UG 76 (f76 (hA P1)):=uu i76 e76
def q76:QG 76 (f76 (hA P1)):=qq u76 rfl (by kernel_rfl)
def x77:XG 77 (f77 (hA P1)):=xx i77 e77
def x78:XG 78 (f78 (hA P1)):=xx i78 e78
def x79:XG 79 (f79 (hA P1)):=xx i79 e79
def x80:XG 80 (f80 (hA P1)):=xx i80 e80
def x81:XG 81 (f81 (hA P1)):=xx i81 e81
def x82:XG 82 (f82 (hA P1)):=xx i82 e82
def x83:XG 83 (f83 (hA P1)):=xx i83 e83
def u84:UG 84 (f84 (hA P1)):=uu i84 e84
def q84:QG 84 (f84 (hA P1)):=qq u84 rfl (by kernel_rfl)
def u85:UG 85 (f85 (hA P1)):=uu i85 e85
def q85:QG 85 (f85 (hA P1)):=qq u85 rfl (by kernel_rfl)
def u86:UG 86 (f86 (hA P1)):=uu i86 e86
def q86:QG 86 (f86 (hA P1)):=qq u86 rfl (by kernel_rfl)
def u87:UG 87 (f87 (hA P1)):=uu i87 e87
def q87:QG 87 (f87 (hA P1)):=qq u87 rfl (by kernel_rfl)
def u88:UG 88 (f88 (hA P1)):=uu i88 e88
def q88:QG 88 (f88 (hA P1)):=qq u88 rfl (by kernel_rfl)
def u92:UG 92 (f92 (hA P1)):=uu i92 e92
def q92:QG 92 (f92 (hA P1)):=qq u92 rfl (by kernel_rfl)
def x93:XG 93 (f93 (hA P1)):=xx i93 e93
def u94:UG 94 (f94 (hA P1)):=uu i94 e94
def q94:QG 94 (f94 (hA P1)):=qq u94 rfl (by kernel_rfl)
def x95:XG 95 (f95 (hA P1)):=xx i95 e95
def u96:UG 96 (f96 (hA P1)):=uu i96 e96
def q96:QG 96 (f96 (hA P1)):=qq u96 rfl (by kernel_rfl)
def u97:UG 97 (f97 (hA P1)):=uu i97 e97
def q97:QG 97 (f97 (hA P1)):=qq u97 rfl (by kernel_rfl)
def u98:UG 98 (f98 (hA P1)):=uu i98 e98
def q98:QG 98 (f98 (hA P1)):=qq u98 rfl (by kernel_rfl)
def x99:XG 99 (f99 (hA P1)):=xx i99 e99
def x100:XG 100 (f100 (hA P1)):=xx i100 e100
def u101:UG 101 (f101 (hA P1)):=uu i101 e101
def q101:QG 101 (f101 (hA P1)):=qq u101 rfl (by kernel_rfl)
def u102:UG 102 (f102 (hA P1)):=uu i102 e102
def q102:QG 102 (f102 (hA P1)):=qq u102 rfl (by kernel_rfl)
def u104:UG 104 (f104 (hA P1)):=uu i104 e104
def q104:QG 104 (f104 (hA P1)):=qq u104 rfl (by kernel_rfl)
def x106:XG 106 (f106 (hA P1)):=xx i106 e106
def x107:XG 107 (f107 (hA P1)):=xx i107 e107
def x117:XG 117 (f117 (hA P1)):=xx i117 e117
def x118:XG 118 (f118 (hA P1)):=xx i118 e118
def u119:UG 119 (f119 (hA P1)):=uu i119 e119
def q119:QG 119 (f119 (hA P1)):=qq u119 rfl (by kernel_rfl)
def x120:XG 120 (f120 (hA P1)):=xx i120 e120
def u121:UG 121 (f121 (hA P1)):=uu i121 e121
def q121:QG 121 (f121 (hA P1)):=qq u121 rfl (by kernel_rfl)
def x122:XG 122 (f122 (hA P1)):=xx i122 e122
def u123:UG 123 (f123 (hA P1)):=uu i123 e123
def q123:QG 123 (f123 (hA P1)):=qq u123 rfl (by kernel_rfl)
def u124:UG 124 (f124 (hA P1)):=uu i124 e124
def q124:QG 124 (f124 (hA P1)):=qq u124 rfl (by kernel_rfl)
def u125:UG 125 (f125 (hA P1)):=uu i125 e125
def q125:QG 125 (f125 (hA P1)):=qq u125 rfl (by kernel_rfl)
def u126:UG 126 (f126 (hA P1)):=uu i126 e126
def q126:QG 126 (f126 (hA P1)):=qq u126 rfl (by kernel_rfl)
def u127:UG 127 (f127 (hA P1)):=uu i127 e127
def q127:QG 127 (f127 (hA P1)):=qq u127 rfl (by kernel_rfl)
def x128:XG 128 (f128 (hA P1)):=xx i128 e128
def x129:XG 129 (f129 (hA P1)):=xx i129 e129
def u131:UG 131 (f131 (hA P1)):=uu i131 e131
def q131:QG 131 (f131 (hA P1)):=qq u131 rfl (by kernel_rfl)
def u132:UG 132 (f132 (hA P1)):=uu i132 e132
def q132:QG 132 (f132 (hA P1)):=qq u132 rfl (by kernel_rfl)
def u133:UG 133 (f133 (hA P1)):=uu i133 e133
def q133:QG 133 (f133 (hA P1)):=qq u133 rfl (by kernel_rfl)
def u136:UG 136 (f136 (hA P1)):=uu i136 e136
def q136:QG 136 (f136 (hA P1)):=qq u136 rfl (by kernel_rfl)
def u137:UG 137 (f137 (hA P1)):=uu i137 e137
def q137:QG 137 (f137 (hA P1)):=qq u137 rfl (by kernel_rfl)
def x138:XG 138 (f138 (hA P1)):=xx i138 e138
def x144:XG 144 (f144 (hA P1)):=xx i144 e144
def x152:XG 152 (f152 (hA P1)):=xx i152 e152
def x160:XG 160 (f160 (hA P1)):=xx i160 e160
def x169:XG 169 (f169 (hA P1)):=xx i169 e169
def u172:UG 172 (f172 (hA P1)):=uu i172 e172
def q172:QG 172 (f172 (hA P1)):=qq u172 rfl (by kernel_rfl)
def u173:UG 173 (f173 (hA P1)):=uu i173 e173
def q173:QG 173 (f173 (hA P1)):=qq u173 rfl (by kernel_rfl)
def x174:XG 174 (f174 (hA P1)):=xx i174 e174
def u175:UG 175 (f175 (hA P1)):=uu i175 e175
def q175:QG 175 (f175 (hA P1)):=qq u175 rfl (by kernel_rfl)
end Go.Am
namespace Go.Am
namespace Sx
section
variable [Val]
end
section
variable [Val]
end
end Sx
end Go.Am
namespace Go.Am
open Sx Go.Proofs
def known_val{g n:Nat}{ls a:TB}{sg:Sig}(e:ab g=some sg)(d:sg.plain=true)(hg:jR ls=true)(h:runF n (.f g) ls .empty tell=some a):∀H,aB cc ab g ls H a H:=by
 obtain⟨i,j,c,b⟩:=(wh n).f g ls .empty tell a (fK hg) h;rw[tell_eq]at b;cases b;exact xU g sg ls _ _ e d c
def isAns(a:TB):Option (TB)->Bool:=λo=>@Option.rec _ (λ_=>Bool) false (λb=>eqLs b a) o
def io{g n:Nat}{ls a:TB}{sg:Sig}(d:ab g=some sg)(c:sg.plain=true)(hg:jR ls=true)(h:isAns a (runF n (.f g) ls .empty tell)=true):∀H,aB cc ab g ls H a H:=by
 cases e:runF n (.f g) ls .empty tell with
 |none=>rw[e]at h;cases h
 |some b=>
  rw[e]at h;have h:eqLs b a=true:=h;rw[pZ h]at e;exact known_val d c hg e
end Go.Am
namespace Go.Am
open Sx
def mA(t:Nat):Int:=match t with
 |0=>1|1=>0|2=>-1|3=>0|4=>-1|5=>0|6=>1|_=>0
def mB(t:Nat):Int:=match t with
 |0=>0|1=>-1|2=>0|3=>1|4=>0|5=>-1|6=>0|_=>1
def mC(t:Nat):Int:=match t with
 |0=>0|1=>1|2=>0|3=>-1|4=>0|5=>-1|6=>0|_=>1
def mD(t:Nat):Int:=match t with
 |0=>1|1=>0|2=>-1|3=>0|4=>1|5=>0|6=>-1|_=>0
def mulT(s t:Nat):Nat:=if s<4 then(if t<4 then(s+t)%4 else 4+(t+4 - s)%4)else(if t<4 then 4+(s+t)%4 else(t+8 - s)%4)
abbrev Mv:=Nat×Int×Int
def af(a b:Mv):Mv:=(mulT a.1 b.1,mA b.1*a.2.1+mB b.1*a.2.2+b.2.1,mC b.1*a.2.1+mD b.1*a.2.2+b.2.2)
def idM:Mv:=(0,0,0)
def okM(n:Int)(m:Mv):Prop:=m.1<8/\-n<=m.2.1/\m.2.1<=n/\-n<=m.2.2/\m.2.2<=n/\(m.2.1+m.2.2)%2=0
def t8{t:Nat}(h:t<8):t=0∨t=1∨t=2∨t=3∨t=4∨t=5∨t=6∨t=7:=by omega
def fE{s t:Nat}:mulT s t<8:=by
 unfold mulT
 repeat' split
 all_goals omega
def zb{a b c:Nat}(h:a<8)(i:b<8)(j:c<8):mulT (mulT a b) c=mulT a (mulT b c):=by
 have d:((List.range 8).all λa=>(List.range 8).all λb=>(List.range 8).all λc=>mulT (mulT a b) c==mulT a (mulT b c))=true:=by decide +kernel
 have e:=qac.1 d a (qae.2 h);have f:=qac.1 e b (qae.2 i);have g:=qac.1 f c (qae.2 j);simpa using g
def cQ{a b c:Mv}(d:a.1<8)(e:b.1<8)(f:c.1<8):af (af a b) c=af a (af b c):=by
 obtain⟨g,i,j⟩:=a;obtain⟨k,l,h⟩:=b;obtain⟨m,n,o⟩:=c;simp only at d e f;unfold af;refine qcY (zb d e f) ?_;simp only;clear d;rcases t8 e with rfl|rfl|rfl|rfl|rfl|rfl|rfl|rfl<;>rcases t8 f with rfl|rfl|rfl|rfl|rfl|rfl|rfl|rfl<;>
  (refine qcY ?_ ?_<;>simp[mulT,mA,mB,mC,mD]<;>omega)
def nj{a:Mv}(b:a.1<8):af a idM=a:=by
 obtain⟨t,x,y⟩:=a;have b:t<8:=b;unfold af idM;simp only[mA,mB,mC,mD];refine qcY ?_ (qcY (by simp) (by simp));rcases t8 b with rfl|rfl|rfl|rfl|rfl|rfl|rfl|rfl<;>simp[mulT]
def jS{a:Mv}(b:a.1<8):af idM a=a:=by
 obtain⟨t,x,y⟩:=a;have b:t<8:=b;unfold af idM;refine qcY ?_ (qcY (by simp) (by simp));rcases t8 b with rfl|rfl|rfl|rfl|rfl|rfl|rfl|rfl<;>simp[mulT]
def invT(t:Nat):Nat:=match t with
 |1=>3|3=>1|n=>n
def invM(m:Mv):Mv:=(invT m.1,-(mA (invT m.1)*m.2.1+mB (invT m.1)*m.2.2),-(mC (invT m.1)*m.2.1+mD (invT m.1)*m.2.2))
def inv_id{m:Mv}(h:m.1<8):af m (invM m)=idM:=by
 obtain⟨t,x,y⟩:=m;have h:t<8:=h;unfold af invM idM;rcases t8 h with rfl|rfl|rfl|rfl|rfl|rfl|rfl|rfl<;>simp[mulT,mA,mB,mC,mD,invT]<;>omega
def aO{n k:Int}{m:Mv}(h:okM n m)(a:n<=k):okM k m:=by
 unfold okM at *;omega
def xB{n:Int}(h:0<=n):okM n idM:=by
 unfold okM idM;simp only;omega
def dJ{n k:Int}{a b:Mv}(g:okM n a)(h:okM k b):okM (n+k) (af a b):=by
 obtain⟨d,j,l⟩:=a;obtain⟨o,p,f⟩:=b;unfold okM af at *;simp only at *;obtain⟨c,i⟩:=g;obtain⟨e,m⟩:=h;refine⟨fE,?_⟩;clear c;rcases t8 e with rfl|rfl|rfl|rfl|rfl|rfl|rfl|rfl<;>simp only[mA,mB,mC,mD]<;>omega
def okM_inv{n:Int}{a:Mv}(d:okM n a):okM n (invM a):=by
 obtain⟨c,f,g⟩:=a;unfold okM invM at *;simp only at *;obtain⟨b,e⟩:=d;rcases t8 b with rfl|rfl|rfl|rfl|rfl|rfl|rfl|rfl<;>simp[mA,mB,mC,mD,invT]<;>omega
abbrev Ln:=Nat×Int
def ofM(l:Ln):Mv:=match l.1 with
 |1=>(4,2*l.2,0)
 |2=>(6,0,2*l.2)
 |3=>(5,l.2,l.2)
 |_=>(7,-l.2,l.2)
def xA{l:Ln}{n:Int}(h:-n<=l.2/\l.2<=n):okM (2*n) (ofM l):=by
 obtain⟨k,c⟩:=l;unfold ofM okM;simp only at h ⊢;split<;>simp only<;>omega
def uz(l:Ln):(ofM l).1<8:=by
 unfold ofM;split<;>simp
def ofM_twice(l:Ln):af (ofM l) (ofM l)=idM:=by
 obtain⟨k,c⟩:=l;unfold ofM af idM;simp only;split<;>simp[mulT,mA,mB,mC,mD]<;>omega
abbrev Cl:=Int×Int×Nat
def lnC3(c:Cl)(e:Nat):Ln:=match e with
 |0=>(match c.2.2 with
  |0=>(2,c.2.1)
  |1=>(1,c.1+1)
  |2=>(2,c.2.1+1)
  |_=>(1,c.1))
 |1=>(3,c.1+c.2.1+1)
 |_=>(4,c.2.1 - c.1)
def nbC(c:Cl)(e:Nat):Cl:=match e with
 |0=>(match c.2.2 with
  |0=>(c.1,c.2.1 - 1,2)
  |1=>(c.1+1,c.2.1,3)
  |2=>(c.1,c.2.1+1,0)
  |_=>(c.1 - 1,c.2.1,1))
 |1=>(c.1,c.2.1,[1,0,3,2].getD c.2.2 0)
 |_=>(c.1,c.2.1,[3,2,1,0].getD c.2.2 0)
def qT(t q:Nat):Nat:=if t<4 then(q+t)%4 else([0,3,2,1].getD ((q+t)%4) 0+(if t%2=0 then 0 else 2))%4
def al(m:Mv)(c:Cl):Cl:=(mA m.1*c.1+mB m.1*c.2.1+m.2.1 - (if mA m.1+mB m.1=1 then 0 else 1),mC m.1*c.1+mD m.1*c.2.1+m.2.2 - (if mC m.1+mD m.1=1 then 0 else 1),qT m.1 c.2.2)
def di(l:Ln)(c:Cl):Bool:=match l.1 with
 |1=>decide (l.2<=c.1)
 |2=>decide (l.2<=c.2.1)
 |3=>decide (l.2<=c.1+c.2.1+(if c.2.2=1∨c.2.2=2 then 1 else 0))
 |_=>decide (l.2<=c.2.1 - c.1 - (if c.2.2=2∨c.2.2=3 then 0 else 1))
def vZ{l:Ln}{c:Cl}{e:Nat}(a:1<=l.1/\l.1<=4)(b:c.2.2<4)(d:e<3)(h:di l c≠di l (nbC c e)):l=lnC3 c e:=by
 obtain⟨k,n⟩:=l;obtain⟨x,y,q⟩:=c;simp only at a b;obtain rfl|rfl|rfl|rfl:q=0∨q=1∨q=2∨q=3:=by omega
 all_goals obtain rfl|rfl|rfl:e=0∨e=1∨e=2:=by omega
 all_goals obtain rfl|rfl|rfl|rfl:k=1∨k=2∨k=3∨k=4:=by omega
 all_goals
  simp[di,nbC,lnC3]at h ⊢
 all_goals first|done|omega|(exfalso;omega)
def eT(t e:Nat):Nat:=if e=0 then 0 else if t%2=0/\t<4∨t=5∨t=7 then e else 3 - e
def iw{m:Mv}{c:Cl}{e:Nat}(a:m.1<8)(b:c.2.2<4)(d:e<3):al m (nbC c e)=nbC (al m c) (eT m.1 e):=by
 obtain⟨t,f,g⟩:=m;obtain⟨x,y,q⟩:=c;simp only at a b;rcases t8 a with rfl|rfl|rfl|rfl|rfl|rfl|rfl|rfl
 all_goals obtain rfl|rfl|rfl|rfl:q=0∨q=1∨q=2∨q=3:=by omega
 all_goals obtain rfl|rfl|rfl:e=0∨e=1∨e=2:=by omega
 all_goals simp[al,nbC,eT,qT,mA,mB,mC,mD]
 all_goals first|done|omega|(constructor<;>omega)
def move_ln{m:Mv}{c:Cl}{e:Nat}(a:m.1<8)(b:c.2.2<4)(d:e<3):af m (ofM (lnC3 (al m c) (eT m.1 e)))=af (ofM (lnC3 c e)) m:=by
 obtain⟨t,f,g⟩:=m;obtain⟨x,y,q⟩:=c;simp only at a b;rcases t8 a with rfl|rfl|rfl|rfl|rfl|rfl|rfl|rfl
 all_goals obtain rfl|rfl|rfl|rfl:q=0∨q=1∨q=2∨q=3:=by omega
 all_goals obtain rfl|rfl|rfl:e=0∨e=1∨e=2:=by omega
 all_goals simp[al,eT,qT,mA,mB,mC,mD,af,ofM,lnC3,mulT]
 all_goals first|done|omega|(constructor<;>omega)
def pJ{t e:Nat}(a:e<3):eT t e<3:=by
 unfold eT
 repeat' split
 all_goals omega
def jb{t q:Nat}:qT t q<4:=by
 unfold qT;split<;>omega
def part_fold{g:Mv}{l:Ln}{c:Cl}{e:Nat}(hg:g.1<8)(d:1<=l.1/\l.1<=4)(b:c.2.2<4)(a:e<3)(h:di l (al g c)≠di l (al g (nbC c e))):af g (ofM l)=af (ofM (lnC3 c e)) g:=by
 rw[iw hg b a]at h;have:=vZ d jb (pJ a) h;rw[this];exact move_ln hg b a
def ot{g:Mv}{c:Cl}{e:Nat}(hg:g.1<8)(a:c.2.2<4)(b:e<3):al (af (ofM (lnC3 c e)) g) (nbC c e)=al g c:=by
 obtain⟨t,d,f⟩:=g;obtain⟨x,y,q⟩:=c;simp only at hg a;rcases t8 hg with rfl|rfl|rfl|rfl|rfl|rfl|rfl|rfl
 all_goals obtain rfl|rfl|rfl|rfl:q=0∨q=1∨q=2∨q=3:=by omega
 all_goals obtain rfl|rfl|rfl:e=0∨e=1∨e=2:=by omega
 all_goals simp[al,nbC,qT,mA,mB,mC,mD,af,ofM,lnC3,mulT]
 all_goals first|done|omega|(constructor<;>omega)
end Go.Am
namespace Go.Am
open Sx Go.Proofs
def jc(f:TK)(ls a:TB):Bool:=isAns a (runF 60 (.f f) ls .empty tell)
def dw{f:TK}{ls a:TB}{sg:Sig}(h:jc f ls a=true)(c:ab f=some sg)(b:sg.plain=true)(hg:jR ls=true):Cc f ls a:=io (n:=60) c b hg h
abbrev mvl(m:Mv):TB:=[.i (Int.ofNat m.1),.i m.2.1,.i m.2.2]
abbrev cll(c:Cl):TB:=[.i c.1,.i c.2.1,.i (Int.ofNat c.2.2)]
def mK{n:Int}(h:-16384<=n/\n<=16384):Cc 53 [.i n] [.b false]:=by
 refine q53 rfl ?_;unfold f53;simp only[qxh]
 repeat (first|simp(disch:=omega)only[↓qXX])
 try rfl
def mchk_c{t x y:Int}(f:0<=t/\t<8)(b:-16384<=x/\x<=16384)(c:-16384<=y/\y<=16384)(e:(x+y)%2=0):Cc 18 [.i t,.i x,.i y] [.i 0]:=by
 refine q18 rfl ?_;unfold f18;simp only[qxh];rcases Int.le_total 0 (x+y)with a|a
 ·repeat (first|simp(disch:=omega)only[↓qXX]|refine ah (mK b) ?_|refine ah (mK c) ?_|rw[p_rem_nn a (by omega)])
 ·have d:-(-(x+y)%2)=0:=by omega
  repeat (first|simp(disch:=omega)only[↓qXX]|refine ah (mK b) ?_|refine ah (mK c) ?_|rw[p_rem_np a (by omega)])
def uo{n:Int}{m:Mv}(h:okM n m)(g:n<=16384):Cc 18 (mvl m) [.i 0]:=by
 obtain⟨b,c,d,e,f,a⟩:=h;exact mchk_c ⟨qaG _,by show(m.1:Int)<8;omega⟩ (by omega) (by omega) a
def uE{t:Nat}(h:t<8):mt gl1 0 [(Int.ofNat t,4)] 4=some [.int .i64 (mA t),.int .i64 (mB t),.int .i64 (mC t),.int .i64 (mD t)]:=by
 rcases t8 h with rfl|rfl|rfl|rfl|rfl|rfl|rfl|rfl<;>kernel_rfl
def yQ{n t:Nat}(h:t<n):inB n (Int.ofNat t)=some ():=by
 show(match Nat.blt t n with
  |true=>some ()
  |false=>none)=some ()
 rw[show Nat.blt t n=true by rw[qa5];exact h]
def mof_c{t:Nat}(a:t<8){x y:Int}(h:-200000<=x/\x<=200000/\-200000<=y/\y<=200000):Cc 132 [.i (mA t),.i (mB t),.i (mC t),.i (mD t),.i x,.i y] [.i (mA t*x+mB t*y),.i (mC t*x+mD t*y)]:=by
 rcases t8 a with rfl|rfl|rfl|rfl|rfl|rfl|rfl|rfl
 all_goals
  simp only[mA,mB,mC,mD];refine q132 rfl ?_;unfold f132;simp only[qxh]
  repeat (first|simp(disch:=omega)only[↓qXX])
  (try simp only[qa9,Lf.i.injEq,and_true,true_and]);(try omega)
def thenT(s t:Nat):Bool:=jc 135 [.i (mA s),.i (mB s),.i (mC s),.i (mD s),.i (mA t),.i (mB t),.i (mC t),.i (mD t)] [.i (mA (mulT s t)),.i (mB (mulT s t)),.i (mC (mulT s t)),.i (mD (mulT s t))]
def numT(t:Nat):Bool:=jc 134 [.i (mA t),.i (mB t),.i (mC t),.i (mD t)] [.i (.ofNat t)]
def yl:((List.range 8).all λs=>numT s&&(List.range 8).all λt=>thenT s t)=true:=by kernel_rfl
def thenT_c{s t:Nat}(a:s<8)(b:t<8):Cc 135 [.i (mA s),.i (mB s),.i (mC s),.i (mD s),.i (mA t),.i (mB t),.i (mC t),.i (mD t)] [.i (mA (mulT s t)),.i (mB (mulT s t)),.i (mC (mulT s t)),.i (mD (mulT s t))]:=by
 have h:=qac.1 yl s (qae.2 a);rw[qaa]at h;exact dw (qac.1 h.2 t (qae.2 b)) rfl (by kernel_rfl) rfl
def numT_c{t:Nat}(a:t<8):Cc 134 [.i (mA t),.i (mB t),.i (mC t),.i (mD t)] [.i (.ofNat t)]:=by
 have h:=qac.1 yl t (qae.2 a);rw[qaa]at h;exact dw h.1 rfl (by kernel_rfl) rfl
def limited_c{m:Mv}{n:Int}(h:okM n m)(a:n<=16384):Cc 133 (mvl m) (mvl m++[.i 0]):=by
 refine q133 rfl ?_;unfold f133;simp only[qxh]
 repeat (first|simp(disch:=omega)only[↓qXX]|refine ah (uo h a) ?_)
 rfl
def then_c{a b:Mv}{n k:Int}(c:okM n a)(d:okM k b)(p:0<=n/\0<=k/\n+k<=16384):Cc 101 (mvl a++mvl b) (mvl (af a b)++[.i 0]):=by
 have j:=dJ c d;refine q101 rfl ?_;unfold f101;simp only[qxh];simp only[mvl,qag,qaf]
 repeat (first|simp(disch:=omega)only[↓qXX]|refine ah (uo c (by omega)) ?_|refine ah (uo d (by omega)) ?_|refine ae (yQ d.1) ?_|refine ae (uE d.1) ?_|refine ah (mof_c d.1 ⟨by have:=c.2;omega,by have:=c.2;omega,by have:=c.2;omega,by have:=c.2;omega⟩) ?_|refine ae (yQ c.1) ?_|refine ae (uE c.1) ?_|refine ah (thenT_c c.1 d.1) ?_|refine ah (numT_c fE) ?_)
 have q:∀z:Int,(-n<=z/\z<=n)∨True:=λ_=>.inr trivial;obtain⟨l,e,f,g,h,o⟩:=j;unfold af at e f g h;simp only at e f g h;rw[p_add (by omega) (by omega),p_add (by omega) (by omega)];refine ah (limited_c (m:=af a b) ⟨l,e,f,g,h,o⟩ (by omega)) ?_;simp only[mvl,qag,qaf];refine p_x ?_;rfl
def lchk_c{k c:Int}(b:1<=k/\k<=4)(a:-4096<=c/\c<=4096):Cc 172 [.i k,.i c] [.i 0]:=by
 refine q172 rfl ?_;unfold f172;simp only[qxh]
 repeat (first|simp(disch:=omega)only[↓qXX])
 try rfl
def of1_c{k c:Int}{m:Mv}(d:1<=k/\k<=4)(b:-4096<=c/\c<=4096)(a:m=ofM (k.toNat,c)):Cc 131 [.i k,.i c] (mvl m++[.i 0]):=by
 subst a;obtain rfl|rfl|rfl|rfl:k=1∨k=2∨k=3∨k=4:=by omega
 all_goals
  refine q131 rfl ?_;unfold f131;simp only[qxh]
  repeat (first|simp(disch:=omega)only[↓qXX]|refine ah (lchk_c (by omega) (by omega)) ?_)
  simp[ofM]
def mlof_c{l:Ln}(b:1<=l.1/\l.1<=4)(a:-4096<=l.2/\l.2<=4096):Cc 131 [.i (Int.ofNat l.1),.i l.2] (mvl (ofM l)++[.i 0]):=
 of1_c (k:=Int.ofNat l.1) ⟨by show(1:Int)<=(l.1:Int);omega,by show(l.1:Int)<=4;omega⟩ a rfl
def pchk_c{x y:Int}(h:-65536<=x/\x<=65536/\-65536<=y/\y<=65536):Cc 173 [.i x,.i y] [.i 0]:=by
 refine q173 rfl ?_;unfold f173;simp only[qxh]
 repeat (first|simp(disch:=omega)only[↓qXX])
 try rfl
def ptM(m:Mv)(x y:Int):Int×Int:=(mA m.1*x+mB m.1*y+2*m.2.1,mC m.1*x+mD m.1*y+2*m.2.2)
def lin_rng{t:Nat}(a:t<8){n x y:Int}(h:-n<=x/\x<=n/\-n<=y/\y<=n):-n<=mA t*x+mB t*y/\mA t*x+mB t*y<=n/\-n<=mC t*x+mD t*y/\mC t*x+mD t*y<=n:=by
 rcases t8 a with rfl|rfl|rfl|rfl|rfl|rfl|rfl|rfl<;>simp only[mA,mB,mC,mD]<;>omega
def point_c{m:Mv}(a:okM 16384 m){x y:Int}(h:-8000<=x/\x<=8000/\-8000<=y/\y<=8000):Cc 137 (mvl m++[.i x,.i y]) [.i (ptM m x y).1,.i (ptM m x y).2,.i 0]:=by
 have c:=lin_rng a.1 h;have b:=a.2;refine q137 rfl ?_;unfold f137;simp only[qxh];simp only[mvl,qag,qaf]
 repeat (first|simp(disch:=omega)only[↓qXX]|refine ah (uo a (by omega)) ?_|refine ah (pchk_c (by omega)) ?_|refine ae (yQ a.1) ?_|refine ae (uE a.1) ?_|refine ah (mof_c a.1 (by omega)) ?_)
 rfl
def wI{c:Cl}(h:-4096<=c.1/\c.1<=4096/\-4096<=c.2.1/\c.2.1<=4096/\c.2.2<4):Cc 94 (cll c) [.i 0]:=by
 have a:(Int.ofNat c.2.2)<=3:=by show(c.2.2:Int)<=3;omega
 refine q94 rfl ?_;unfold f94;simp only[qxh]
 repeat (first|simp(disch:=omega)only[↓qXX])
 try rfl
def middle_c{x y q:Int}(h:-1000000<=x/\x<=1000000/\-1000000<=y/\y<=1000000):Cc 136 [.i x,.i y,.i q] [.i (2*x+1),.i (2*y+1)]:=by
 refine q136 rfl ?_;unfold f136;simp only[qxh]
 repeat (first|simp(disch:=omega)only[↓qXX])
 (try simp only[qa9,Lf.i.injEq,and_true,true_and]);(try omega)
def sdX(q:Nat):Int:=[0,1,0,-1].getD q 0
def sdY(q:Nat):Int:=[-1,0,1,0].getD q 0
def pick_q{q:Nat}(h:q<4):mt gl0 0 [(Int.ofNat q,17)] 2=some [.int .i64 (sdX q),.int .i64 (sdY q)]:=by
 obtain rfl|rfl|rfl|rfl:q=0∨q=1∨q=2∨q=3:=by omega
 all_goals kernel_rfl
def moved_c{m:Mv}(e:okM 16384 m){c:Cl}(d:-1000<=c.1/\c.1<=1000/\-1000<=c.2.1/\c.2.1<=1000/\c.2.2<4):Cc 104 (mvl m++cll c) (cll (al m c)):=by
 obtain⟨t,n,o⟩:=m;obtain⟨x,y,q⟩:=c;have i:okM 16384 (t,0,0):=⟨e.1,by simp,by simp,by simp,by simp,by simp⟩;have a:=point_c (aO e (by omega)) (x:=2*x+1) (y:=2*y+1) (by simp only at d;omega);have b:=point_c (aO i (by omega)) (x:=sdX q) (y:=sdY q) (by
  have j:q<4:=d.2.2.2.2;obtain rfl|rfl|rfl|rfl:q=0∨q=1∨q=2∨q=3:=by omega
  all_goals simp[sdX,sdY])
 obtain⟨X,k⟩ : ∃X,(ptM (t,n,o) (2*x+1) (2*y+1)).1=X:=⟨_,rfl⟩;obtain⟨Y,l⟩ : ∃Y,(ptM (t,n,o) (2*x+1) (2*y+1)).2=Y:=⟨_,rfl⟩;obtain⟨U,f⟩ : ∃U,(ptM (t,0,0) (sdX q) (sdY q)).1=U:=⟨_,rfl⟩;obtain⟨V,g⟩ : ∃V,(ptM (t,0,0) (sdX q) (sdY q)).2=V:=⟨_,rfl⟩;rw[k,l]at a;rw[f,g]at b;have h:=e.2;have p:t<8:=e.1;have j:q<4:=d.2.2.2.2;simp only at h d;refine q104 rfl ?_;unfold f104;simp only[qxh];simp only[mvl,cll,qag,qaf]
 repeat (first|simp(disch:=omega)only[↓qXX]|refine ah (middle_c (by omega)) ?_|refine ae (yQ j) ?_|refine ae (pick_q j) ?_|refine ah a ?_|refine ah b ?_)
 rcases t8 p with rfl|rfl|rfl|rfl|rfl|rfl|rfl|rfl
 all_goals obtain rfl|rfl|rfl|rfl:q=0∨q=1∨q=2∨q=3:=by omega
 all_goals
  simp[ptM,mA,mB,mC,mD,sdX,sdY]at k l f g;subst f g
  repeat (first|simp(disch:=omega)only[↓qXX]|refine ae (by simp only[oN,putL,offX,Int.reduceToNat,Int.reduceAdd,Int.reduceMul,Int.reduceMod,Int.reduceSub,Int.reduceNeg,Int.reduceDiv,Nat.reduceAdd,Nat.reduceMul,Nat.reduceLeDiff,qa0,qbI,↓reduceIte,qcK,qbE,qcx,qcJ,qag,qaf,qaR,Int.toNat_zero,qch,qcM,Int.zero_add];exact rfl) ?_|refine gz 6 ?_)
  try simp[al,mA,mB,mC,mD,qT]
  try omega
abbrev Crs:=Int×Int×Int
def encC(c:Crs):Tk:=[.int .i64 c.1,.int .u8 c.2.1,.int .u8 c.2.2]
def okC(c:Crs):Prop:=-9223372036854775808<=c.1/\c.1<=9223372036854775807/\0<=c.2.1/\c.2.1<=255/\0<=c.2.2/\c.2.2<=255
def isK(c:Crs):Bool:=decide (1<=c.2.2)&&decide (c.2.2<=3)
def isKind_c(k:Int):Cc 124 [.i k] [.b (decide (1<=k)&&decide (k<=3))]:=by
 refine q124 rfl ?_;unfold f124;simp only[qxh];by_cases a:1<=k
 ·by_cases c:k<=3
  ·simp(disch:=omega)only[↓qXX];simp[a,c]
  ·simp(disch:=omega)only[↓qXX];simp[a,c]
 ·simp(disch:=omega)only[↓qXX];simp[a]
def chk1_c(c:Crs):Cc 123 [.i c.1,.i c.2.1,.i c.2.2] [.b (!isK c)]:=by
 refine q123 rfl ?_;unfold f123;simp only[qxh]
 repeat (first|simp(disch:=omega)only[↓qXX]|refine ah (isKind_c c.2.2) ?_)
 simp[isK]
abbrev clo1:Value:=.func (.func 123) ⟨[]⟩ ⟨[]⟩
def good1:az clo1=true:=rfl
abbrev _root_.Ty:=List Crs
def index_c{h:HL}{x:Value}{l:Ty}(o:LsH h x 3 encC l)(z:l.length<=4294967296):∃n:Int,aB cc ab 169 [.v x,.v clo1] (absH aa h) [.i n] (absH aa h)/\(0<=n↔∃c∈l,isK c=false):=by
 obtain⟨r,p,u,n,rfl,rfl,w⟩:=x169 (K:=λr p=>∃n:Int,r=[.i n]/\p=h/\(0<=n↔∃c∈l,isK c=false)) (H:=h) (glsV o.good (glsV good1 gls0)) (by
  unfold f169;simp only[qxh];refine p_x ?_;refine br o ?_;refine ce l.length (λj=>∀i,i<j->∀c,l[i]?=some c->isK c=true) rfl (qaC _) (λi k=>absurd k (qdR _)) ?_;intro j y k s d;refine p_x ?_;by_cases g:j<l.length
  ·have m:Int.ofNat j<Int.ofNat l.length:=by show(j:Int)<l.length;omega
   rw[p_lss_t m];refine p_x ?_;obtain⟨c,e⟩ : ∃c,l[j]?=some c:=⟨_,qap g⟩;refine aQ o rfl e ?_;unfold encC
   repeat (first|simp(disch:=omega)only[↓qXX]|refine oJ (rn (chk1_c c _) rfl [.agg [.i .i64 c.1,.i .u8 c.2.1,.i .u8 c.2.2]] rfl rfl) ?_)
   cases f:isK c with
   |true=>
    show P1.cond false _ _;refine p_x ?_;rw[p_add (by show -9223372036854775808<=(j:Int)+1;omega) (by show(j:Int)+1<=9223372036854775807;omega)];refine d g λi a t b=>?_;rcases qaP i j with h|h
    ·exact k i h t b
    ·obtain rfl:i=j:=by omega
     rw[e]at b;cases b;exact f
   |false=>
    show P1.cond true _ _;refine p_x ?_;exact⟨_,rfl,by trivial,λ_=>⟨c,qab e,f⟩,λ_=>qaG j⟩
  ·have m:Int.ofNat l.length<=Int.ofNat j:=by show(l.length:Int)<=j;omega
   rw[p_lss_f m];refine p_x ?_;refine⟨_,rfl,by trivial,λh=>by omega,λ⟨c,e,f⟩=>?_⟩;obtain⟨i,a⟩:=qaT e;have q:i<l.length:=by
    rcases qaP i l.length with h|h
    ·exact h
    ·rw[qak h]at a;cases a
   rw[k i (by omega) c a]at f;cases f)
 exact⟨n,u,w⟩
def yG{h:HL}{x:Value}{l:Ty}(i:LsH h x 3 encC l)(o:l.length<=4294967296):aB cc ab 122 [.v x,.v clo1] (absH aa h) [.b (!l.all isK)] (absH aa h):=by
 obtain⟨n,k,f⟩:=index_c i o;obtain⟨j,e,m,rfl,rfl⟩:=x122 (K:=λj e=>j=[.b (!l.all isK)]/\e=h) (H:=h) (glsV i.good (glsV good1 gls0)) (by
  unfold f122;simp only[qxh]
  repeat (first|simp(disch:=omega)only[↓qXX]|refine ai k ?_)
  cases g:l.all isK with
  |true=>
   have:¬0<=n:=λh=>by
    obtain⟨c,d,a⟩:=f.1 h;rw[qac.1 g c d]at a;cases a
   simp(disch:=omega)only[↓qXX];trivial
  |false=>
   have:0<=n:=f.2 (by
    obtain⟨c,d,a⟩:=List.all_eq_false.1 g;exact⟨c,d,by simpa using a⟩)
   simp(disch:=omega)only[↓qXX];trivial)
 exact m
def nbr(w v c e:Nat):To:=
 match e,c%4 with
 |0,0=>if 0<c / 4 / w then some (c+2 - 4*w)else none
 |0,1=>if c / 4%w+1<w then some (c+6)else none
 |0,2=>if c / 4 / w+1<v then some (c+4*w - 2)else none
 |0,_=>if 0<c / 4%w then some (c - 6)else none
 |1,0=>some (c+1)
 |1,1=>some (c - 1)
 |1,2=>some (c+1)
 |1,_=>some (c - 1)
 |2,0=>some (c+3)
 |2,1=>some (c+1)
 |2,2=>some (c - 1)
 |2,_=>some (c - 3)
 |_,_=>none
def nameN(w v c e:Nat):TB:=match nbr w v c e with
 |some n=>[.i (.ofNat (min c n)),.i (.ofNat e),.i 0]
 |none=>[.i 0,.i 0,.i 7]
def cellN(w c:Nat):TB:=[.i (.ofNat (c / 4%w)),.i (.ofNat (c / 4 / w)),.i (.ofNat (c%4)),.i 0]
def tabName(w v:Nat):Bool:=(List.range (4*w*v)).all λc=>(List.range 3).all λe=>isAns (nameN w v c e) (runF 60 (.f 125) [.i (.ofNat w),.i (.ofNat v),.i (.ofNat c),.i (.ofNat e)] .empty tell)
def tabCell(w v:Nat):Bool:=(List.range (4*w*v)).all λc=>isAns (cellN w c) (runF 60 (.f 64) [.i (.ofNat w),.i (.ofNat v),.i (.ofNat c)] .empty tell)
def uX(w v:Nat):List (Nat×Nat):=(List.range (4*w*v)).flatMap λc=>(List.range 3).filterMap λe=>match nbr w v c e with
 |some n=>if c<n then some (c,e)else none
 |none=>none
def tab5(w v:Nat):Bool:=tabName w v&&tabCell w v
def qQ:∀w v:Nat,1<=w->w<=5->1<=v->v<=5->tab5 w v=true:=by
 have a:((List.range 5).all λw=>(List.range 5).all λv=>tab5 (w+1) (v+1))=true:=by kernel_rfl
 intro w v f g h i;have e:=qac.1 a (w - 1) (qae.2 (by omega));have b:=qac.1 e (v - 1) (qae.2 (by omega));have c:w - 1+1=w:=by omega
 have d:v - 1+1=v:=by omega
 rw[c,d]at b;exact b
def nbr_ne{w v c e n:Nat}(d:1<=w)(h:nbr w v c e=some n):n≠c:=by
 have f:c / 4%w<=c / 4:=qdW _ _;have g:c / 4 / w<=c / 4:=qdl _ _;have b:c%4=0∨c%4=1∨c%4=2∨c%4=3:=by omega
 rcases e with _|_|_|e<;>rcases b with a|a|a|a<;>simp only[nbr,a]at h<;>
  first
  |(split at h<;>first|(simp only[qaI]at h;omega)|(cases h;done))
  |(simp only[qaI]at h;omega)
  |(cases h;done)
def tab5_ok{w v:Nat}(h:tab5 w v=true):tabName w v=true/\tabCell w v=true:=by
 unfold tab5 at h;simp only[qaa]at h;exact h
def nameIn{w v:Nat}(f:tab5 w v=true){c e:Nat}(b:c<4*w*v)(d:e<3):Cc 125 [.i (.ofNat w),.i (.ofNat v),.i (.ofNat c),.i (.ofNat e)] (nameN w v c e):=by
 have a:=qac.1 (tab5_ok f).1 c (qae.2 b);exact io (n:=60) rfl (by kernel_rfl) rfl (qac.1 a e (qae.2 d))
def cellIn{w v:Nat}(b:tab5 w v=true){c:Nat}(a:c<4*w*v):Cc 64 [.i (.ofNat w),.i (.ofNat v),.i (.ofNat c)] (cellN w c):=
 io (n:=60) rfl (by kernel_rfl) rfl (qac.1 (tab5_ok b).2 c (qae.2 a))
def valS(w v:Int):Prop:=1<=w/\1<=v/\w<=256/\v<=256/\w*v<=256
instance (w v : Int) : Decidable (valS w v) := by unfold valS; infer_instance
def mul_bd{w v a b:Int}(h:0<=w/\w<=a/\0<=v/\v<=b):0<=w*v/\w*v<=a*b:=
 ⟨Int.mul_nonneg h.1 h.2.2.1,Int.mul_le_mul h.2.1 h.2.2.2 h.2.2.1 (by omega)⟩
def shCheck(w v:Int):Cc 62 [.i w,.i v] [.i (if valS w v then 0 else 1)]:=by
 refine q62 rfl ?_;unfold f62;simp only[qxh];by_cases c:1<=w
 ·by_cases d:1<=v
  ·by_cases e:w<=256
   ·by_cases f:v<=256
    ·have h:=mul_bd (w:=w) (v:=v) (a:=256) (b:=256) (by omega);by_cases g:w*v<=256
     ·simp(disch:=omega)only[↓qXX];simp[valS,c,d,e,f,g]
     ·simp(disch:=omega)only[↓qXX];simp[valS,g]
    ·simp(disch:=omega)only[↓qXX];simp[valS,f]
   ·simp(disch:=omega)only[↓qXX];simp[valS,e]
  ·simp(disch:=omega)only[↓qXX];simp[valS,d]
 ·simp(disch:=omega)only[↓qXX];simp[valS,c]
def lP{w v:Int}(h:valS w v):Cc 62 [.i w,.i v] [.i 0]:=by
 have:=shCheck w v;rw[qd0 h]at this;exact this
def smS(w v:Int):Prop:=1<=w/\w<=5/\1<=v/\v<=5
def wp{w v:Int}(h:smS w v):valS w v:=by
 unfold smS at h;have:=mul_bd (w:=w) (v:=v) (a:=5) (b:=5) (by omega);unfold valS;omega
def sm4{w v:Int}(h:smS w v):4<=4*w*v/\4*w*v<=100:=by
 unfold smS at h;have c:=mul_bd (w:=4*w) (v:=v) (a:=20) (b:=5) (by omega);have d:4*w<=4*w*v:=by
  have:=Int.mul_le_mul_of_nonneg_left h.2.2.1 (show 0<=4*w by omega);rw[Int.mul_one]at this;exact this
 omega
def has_c{w v:Int}(h:smS w v)(c:Int):Cc 102 [.i w,.i v,.i c] [.b (decide (0<=c)&&decide (c<4*w*v))]:=by
 have e:=sm4 h;unfold smS at h;refine q102 rfl ?_;unfold f102;simp only[qxh];by_cases a:0<=c
 ·by_cases d:c<4*w*v
  ·simp(disch:=omega)only[↓qXX];simp[a,d]
  ·simp(disch:=omega)only[↓qXX];simp[a,d]
 ·simp(disch:=omega)only[↓qXX];simp[a]
def zw{w v c:Int}(h:smS w v)(a:¬(0<=c/\c<4*w*v)):Cc 64 [.i w,.i v,.i c] [.i 0,.i 0,.i 0,.i 7]:=by
 refine q64 rfl ?_;unfold f64;simp only[qxh]
 repeat (first|simp(disch:=omega)only[↓qXX]|refine ah (lP (wp h)) ?_)
 have e:(decide (0<=c)&&decide (c<4*w*v))=false:=by simp;omega
 refine ah (e▸has_c h c) ?_;simp(disch:=omega)only[↓qXX,qaX]
def wo{w v c e:Int}(h:smS w v)(a:¬(0<=c/\c<4*w*v)):Cc 67 [.i w,.i v,.i c,.i e] [.i 0,.i 7]:=by
 refine q67 rfl ?_;unfold f67;simp only[qxh]
 repeat (first|simp(disch:=omega)only[↓qXX]|refine ah (zw h a) ?_)
def zx{w v c e:Int}(h:smS w v)(a:¬(0<=c/\c<4*w*v)):Cc 125 [.i w,.i v,.i c,.i e] [.i 0,.i 0,.i 7]:=by
 refine q125 rfl ?_;unfold f125;simp only[qxh]
 repeat (first|simp(disch:=omega)only[↓qXX]|refine ah (wo h a) ?_)
def tv{x y q:Int}(h:-4096<=x/\x<=4096/\-4096<=y/\y<=4096/\q<=3):Cc 94 [.i x,.i y,.i q] [.i 0]:=by
 refine q94 rfl ?_;unfold f94;simp only[qxh];simp(disch:=omega)only[↓qXX]
def pH{x y q e:Int}(h:-4096<=x/\x<=4096/\-4096<=y/\y<=4096/\q<=3)(a:2<e):Cc 51 [.i x,.i y,.i q,.i e] [.i 0,.i 0,.i 0,.i 1]:=by
 refine q51 rfl ?_;unfold f51;simp only[qxh]
 repeat (first|simp(disch:=omega)only[↓qXX]|refine ah (tv h) ?_)
def toNat2{w v:Int}(h:smS w v):∃a b:Nat,w = .ofNat a/\v = .ofNat b/\1<=a/\a<=5/\1<=b/\b<=5:=by
 unfold smS at h;obtain⟨a,rfl⟩:=qbY (show 0<=w by omega);obtain⟨b,rfl⟩:=qbY (show 0<=v by omega);exact⟨a,b,rfl,rfl,by omega,by omega,by omega,by omega⟩
def lt_nat{a b c:Nat}(h:(c:Int)<4*(a:Int)*(b:Int)):c<4*a*b:=by
 have:(4*(a:Int)*(b:Int))=((4*a*b:Nat):Int):=by simp
 rw[this]at h;omega
def uO{w v c e:Int}(h:smS w v)(g:0<=c/\c<4*w*v)(l:2<e):Cc 67 [.i w,.i v,.i c,.i e] [.i 0,.i 1]:=by
 have j:=sm4 h;obtain⟨a,b,rfl,rfl,d⟩:=toNat2 h;obtain⟨k,rfl⟩:=qbY g.1;have m:k<4*a*b:=lt_nat g.2;have n:4*a*b<=100:=by
  have:(4*(a:Int)*(b:Int))=((4*a*b:Nat):Int):=by simp
  have f:=j.2;change 4*(a:Int)*(b:Int)<=100 at f;rw[this]at f;omega
 refine q67 rfl ?_;unfold f67;simp only[qxh];refine p_x ?_;refine ah (cellIn (qQ a b d.1 d.2.1 d.2.2.1 d.2.2.2) m) ?_;unfold cellN;refine p_x ?_;have o:k / 4%a<=k / 4:=qdW _ _;have p:k / 4 / a<=k / 4:=qdl _ _;have r:(0:Int)<=((k / 4 / a:Nat):Int):=qaG _;have f:(0:Int)<=((k / 4%a:Nat):Int):=qaG _;refine ah (pH (x:=Int.ofNat (k / 4%a)) (y:=Int.ofNat (k / 4 / a)) (q:=Int.ofNat (k%4)) (by simp only[qa1];omega) l) ?_;simp(disch:=omega)only[↓qXX]
def wn{w v c e:Int}(h:smS w v)(a:0<=c/\c<4*w*v)(b:2<e):Cc 125 [.i w,.i v,.i c,.i e] [.i 0,.i 0,.i 1]:=by
 refine q125 rfl ?_;unfold f125;simp only[qxh]
 repeat (first|simp(disch:=omega)only[↓qXX]|refine ah (uO h a b) ?_)
def isUn(w v c e:Int):Bool:=decide (0<=c)&&decide (c<4*w*v)&&decide (e<=2)&&(match nbr w.toNat v.toNat c.toNat e.toNat with
 |some n=>Nat.blt c.toNat n
 |none=>false)
def name_c{w v c e:Int}(h:smS w v)(p:0<=e):∃a b r:Int,Cc 125 [.i w,.i v,.i c,.i e] [.i a,.i b,.i r]/\(isUn w v c e=true↔r=0/\a=c/\b=e):=by
 by_cases d:0<=c/\c<4*w*v
 ·by_cases o:e<=2
  ·obtain⟨a,b,rfl,rfl,f⟩:=toNat2 h;obtain⟨k,rfl⟩:=qbY d.1;obtain⟨j,rfl⟩:=qbY p;have q:k<4*a*b:=lt_nat d.2;have g:=nameIn (qQ a b f.1 f.2.1 f.2.2.1 f.2.2.2) q (e:=j) (by omega);unfold nameN at g;cases e:nbr a b k j with
   |none=>
    rw[e]at g;refine⟨_,_,_,g,?_⟩;have:isUn (.ofNat a) (.ofNat b) (k:Int) (j:Int)=false:=by
     unfold isUn;have l:nbr (Int.ofNat a).toNat (Int.ofNat b).toNat (k:Int).toNat (j:Int).toNat=none:=e;rw[l];simp
    rw[this];simp
   |some n=>
    rw[e]at g;refine⟨_,_,_,g,?_⟩;have s:=nbr_ne f.1 e;have l:nbr (Int.ofNat a).toNat (Int.ofNat b).toNat (k:Int).toNat (j:Int).toNat=some n:=e;unfold isUn;rw[l];simp only[qaa,qdX,qa5,qcW];constructor
    ·rintro⟨_,m⟩;exact⟨by trivial,by show((min k n:Nat):Int)=k;omega,by trivial⟩
    ·rintro⟨_,m,_⟩;have m:((min k n:Nat):Int)=k:=m;exact⟨⟨⟨d.1,d.2⟩,o⟩,by omega⟩
  ·refine⟨_,_,_,wn h d (by omega),?_⟩;have:isUn w v c e=false:=by unfold isUn;simp[o]
   rw[this];simp
 ·refine⟨_,_,_,zx h d,?_⟩;have:isUn w v c e=false:=by
   unfold isUn;have:(decide (0<=c)&&decide (c<4*w*v))=false:=by simp;omega
   rw[this];simp
  rw[this];simp
def xb{w v c e:Int}(h:isUn w v c e=true):0<=c/\c<4*w*v/\e<=2:=by
 unfold isUn at h;simp only[qaa,qdX]at h;exact⟨h.1.1.1,h.1.1.2,h.1.2⟩
def ltC(a b:Crs):Bool:=decide (a.1<b.1)||(decide (a.1=b.1)&&decide (a.2.1<b.2.1))
def ascC:Ty->Bool
 |a :: b :: l=>ltC a b&&ascC (b :: l)
 |_=>true
def iI:∀ {l:Ty},ascC l=true↔∀(i:Nat) a b,l[i]?=some a->l[i+1]?=some b->ltC a b=true
 | []=>by simp[ascC]
 | [a]=>by simp[ascC]
 |a :: b :: l=>by
  simp only[ascC,qaa];rw[iI (l:=b :: l)];constructor
  ·rintro⟨h1,e⟩ i x y c d;cases i with
   |zero=>
    simp only[qbM,qaI,qa6]at c d;subst c d;exact h1
   |succ i=>exact e i x y (by simpa using c) (by simpa using d)
  ·intro h;exact⟨h 0 a b rfl rfl,λi x y c d=>h (i+1) x y (by simpa using c) (by simpa using d)⟩
def unC(w v:Int)(c:Crs):Bool:=isUn w v c.1 c.2.1
def chkC(w v:Int)(l:Ty):Int:=if l.all isK=false then 1 else if l.all (unC w v)=false then 7 else if ascC l=true then 0 else 6
def yp(c:Crs):Cc 126 [.i c.1,.i c.2.1,.i c.2.2] [.i c.1,.i c.2.1]:=by
 refine q126 rfl ?_;unfold f126;simp only[qxh];simp(disch:=omega)only[↓qXX]
def order_c{a b:Crs}(h:0<=a.1/\a.1<=1000/\0<=b.1/\b.1<=1000/\0<=a.2.1/\a.2.1<=255/\0<=b.2.1/\b.2.1<=255):∃d:Int,Cc 127 [.i a.1,.i a.2.1,.i b.1,.i b.2.1] [.i d]/\(d<0↔ltC a b=true):=by
 by_cases c:a.1=b.1
 ·refine⟨a.2.1 - b.2.1,?_,by simp only[ltC,qaS,qaa,qdX];omega⟩;refine q127 rfl ?_;unfold f127;simp only[qxh];simp(disch:=omega)only[↓qXX]
 ·refine⟨a.1 - b.1,?_,by simp only[ltC,qaS,qaa,qdX];omega⟩;refine q127 rfl ?_;unfold f127;simp only[qxh];simp(disch:=omega)only[↓qXX]
def check_c{w v:Int}(Q:smS w v){h:HL}{x:Value}{l:Ty}(z:LsH h x 3 encC l)(M:∀c∈l,okC c)(hn:l.length<=4294967296) :
  aB cc ab 99 [.i w,.i v,.v x] (absH aa h) [.i (chkC w v l)] (absH aa h):=by
 obtain⟨T,R,X,rfl,rfl⟩:=x99 (K:=λT R=>T=[.i (chkC w v l)]/\R=h) (H:=h) (glsI (glsI (glsV z.good gls0))) (by
  unfold f99;simp only[qxh]
  repeat (first|simp(disch:=omega)only[↓qXX]|refine ah (lP (wp Q)) ?_|refine ai (yG z hn) ?_)
  cases I:l.all isK with
  |false=>
   simp(disch:=omega)only[↓qXX,qaX];exact⟨by simp[chkC,I],by trivial⟩
  |true=>
   simp(disch:=omega)only[↓qXX,qaQ];refine br z ?_;refine ce l.length (λj=>∀i,i<j->∀c,l[i]?=some c->unC w v c=true) rfl (qaC _) (λi D=>absurd D (qdR _)) ?_;intro j hj D G g;refine p_x ?_;by_cases m:j<l.length
   ·rw[aD m];refine p_x ?_;obtain⟨c,n⟩:=aH m;have t:=qab n;have P:=M c t;unfold okC at P;have A:unC w v c=false->chkC w v l=7:=λf=>by
     have:l.all (unC w v)=false:=List.all_eq_false.2 ⟨c,t,by simp[f]⟩;simp[chkC,I,this]
    refine aQ z rfl n ?_;unfold encC;refine p_x ?_;obtain⟨a,b,r,O,p⟩:=name_c (c:=c.1) (e:=c.2.1) Q (by omega);refine ah O ?_;refine p_x ?_;by_cases S:r=0
    ·subst S
     repeat (first|simp(disch:=omega)only[↓qXX]|refine ah (yp c) ?_)
     by_cases q:a=c.1/\b=c.2.1
     ·have f:unC w v c=true:=p.2 ⟨rfl,q.1,q.2⟩;simp(disch:=omega)only[↓qXX,qaQ];rw[aL (by omega)];refine g m λi s U y=>?_;rcases qaP i j with h|h
      ·exact D i h U y
      ·obtain rfl:i=j:=by omega
       rw[n]at y;cases y;exact f
     ·have f:unC w v c=false:=by
       rw[←qaU];intro f;have:=p.1 f;exact q ⟨this.2.1,this.2.2⟩
      rw[p_eqs2_f q];simp(disch:=omega)only[↓qXX,qaX];exact⟨by rw[A f],by trivial⟩
    ·have f:unC w v c=false:=by
      rw[←qaU];intro f;exact S (p.1 f).1
     refine p_x ?_;exact⟨by rw[A f],by trivial⟩
   ·obtain rfl:j=l.length:=by omega
    rw[aC (qaj _)];refine p_x ?_;have f:l.all (unC w v)=true:=qac.2 λc n=>by
     obtain⟨i,s⟩:=qaT n;exact D i (aw s) c s
    refine ce (j0:=1) (max 1 l.length) (λj=>1<=j/\∀(i:Nat) a b,i+1<j->l[i]?=some a->l[i+1]?=some b->ltC a b=true) rfl (qcD _ _) ⟨qaj _,λi a b D=>by omega⟩ ?_;intro j ad ⟨h1,hi2⟩ G g;refine p_x ?_;refine br z ?_;by_cases m:j<l.length
    ·rw[aD m];refine p_x ?_;rw[ja h1 (by omega)];obtain⟨c,n⟩:=aH (l:=l) (i:=j - 1) (by omega);obtain⟨d,C⟩:=aH m;have J:=M c (qab n);have L:=M d (qab C);have Y:=xb (qac.1 f c (qab n));have Z:=xb (qac.1 f d (qab C));have h4:=sm4 Q;unfold okC at J L;refine aQ z rfl n ?_;unfold encC
     repeat (first|simp(disch:=omega)only[↓qXX]|refine ah (yp c) ?_)
     refine aQ z rfl C ?_;unfold encC
     repeat (first|simp(disch:=omega)only[↓qXX]|refine ah (yp d) ?_)
     obtain⟨o,ho,F⟩:=order_c (a:=c) (b:=d) (by omega);refine ah ho ?_;refine p_x ?_;by_cases E:o<0
     ·simp(disch:=omega)only[↓qXX];rw[aL (by omega)];refine g (by omega) ⟨by omega,λi a b s u k=>?_⟩;rcases qaP (i+1) j with h|h
      ·exact hi2 i a b h u k
      ·have V:i=j - 1:=by omega
       have W:i+1=j:=by omega
       rw[W,C]at k;rw[V,n]at u;cases u;cases k;exact F.1 E
     ·have N:ascC l=false:=by
       rw[←qaU,iI];intro B;have:=B (j - 1) c d n (by rw[show j - 1+1=j by omega];exact C);exact E (F.2 this)
      refine p_x ?_;exact⟨by simp[chkC,I,f,N],by trivial⟩
    ·rw[aC (by omega)];refine p_x ?_;have u:ascC l=true:=iI.2 λi a b u k=>hi2 i a b (by have:=aw k;omega) u k;exact⟨by simp[chkC,I,f,u],by trivial⟩)
 exact X
def clN(w n:Nat):Cl:=(Int.ofNat (n / 4%w),Int.ofNat (n / 4 / w),n%4)
def rkN(w n:Nat):Nat:=10*(n / 4%w+n / 4 / w)+(if n / 4 / w=0/\n / 4%w≠0 then [1,2,1,0]else [0,1,2,1]).getD (n%4) 0
def ut(w v c e:Nat):TB:=match nbr w v c e with
 |some n=>[.i (.ofNat n),.i 0]
 |none=>[.i 0,.i 7]
def tabNb(w v:Nat):Bool:=(List.range (4*w*v)).all λc=>(List.range 3).all λe=>jc 67 [.i (.ofNat w),.i (.ofNat v),.i (.ofNat c),.i (.ofNat e)] (ut w v c e)
def tabLn(w v:Nat):Bool:=(uX w v).all λu=>jc 130 [.i (.ofNat w),.i (.ofNat v),.i (.ofNat u.1),.i (.ofNat u.2)] [.i (.ofNat (lnC3 (clN w u.1) u.2).1),.i (lnC3 (clN w u.1) u.2).2,.i 0]
def eqLn(a b:Ln):Bool:=Nat.beq a.1 b.1&&decide (a.2=b.2)
def eqLn_iff{a b:Ln}:eqLn a b=true↔a=b:=by
 unfold eqLn;rw[qaa,qdX,qds];exact⟨λh=>⟨qad h.1,h.2⟩,λh=>⟨by rw[h.1];exact qbK _,h.2⟩⟩
def eqCl(a b:Cl):Bool:=decide (a.1=b.1)&&(decide (a.2.1=b.2.1)&&Nat.beq a.2.2 b.2.2)
def eqCl_iff{a b:Cl}:eqCl a b=true↔a=b:=by
 unfold eqCl;rw[qaa,qaa,qdX,qdX,qds,qds];exact⟨λh=>⟨h.1,h.2.1,qad h.2.2⟩,λh=>⟨h.1,h.2.1,by rw[h.2.2];exact qbK _⟩⟩
def nbT(w v c e:Nat):Bool:=match nbr w v c e with
 |some n=>Nat.blt n (4*w*v)&&((match nbr w v n e with
  |some m=>Nat.beq m c
  |none=>false)&&(eqLn (lnC3 (clN w c) e) (lnC3 (clN w n) e)&&(eqCl (clN w n) (nbC (clN w c) e) && !Nat.beq n c)))
 |none=>true
def lnRng(w c e:Nat):Bool:=Nat.ble 1 (lnC3 (clN w c) e).1&&(Nat.ble (lnC3 (clN w c) e).1 4&&(decide (-10<=(lnC3 (clN w c) e).2)&&decide ((lnC3 (clN w c) e).2<=10)))
def wayT(w v n:Nat):Bool:=Nat.beq n 0||(List.range 3).any λe=>match nbr w v n e with
 |some m=>Nat.blt (rkN w m) (rkN w n)
 |none=>false
def tabNet(w v:Nat):Bool:=(List.range (4*w*v)).all λc=>wayT w v c&&(List.range 3).all λe=>nbT w v c e&&lnRng w c e
def tab71(w v:Nat):Bool:=tabNb w v&&(tabLn w v&&tabNet w v)
def all71:∀w v:Nat,1<=w->w<=5->1<=v->v<=5->tab71 w v=true:=by
 have a:((List.range 5).all λw=>(List.range 5).all λv=>tab71 (w+1) (v+1))=true:=by kernel_rfl
 intro w v d e f g;have c:=qac.1 a (w - 1) (qae.2 (by omega));have b:=qac.1 c (v - 1) (qae.2 (by omega));rw[show w - 1+1=w by omega,show v - 1+1=v by omega]at b;exact b
def Sh(w v:Nat):Prop:=1<=w/\w<=5/\1<=v/\v<=5
section
variable {w v:Nat}
def sS(h:Sh w v):tabNb w v=true/\tabLn w v=true/\tabNet w v=true:=by
 have:=all71 w v h.1 h.2.1 h.2.2.1 h.2.2.2;unfold tab71 at this;simpa only[qaa]using this
def nb_c(h:Sh w v){c e:Nat}(a:c<4*w*v)(b:e<3):Cc 67 [.i (.ofNat w),.i (.ofNat v),.i (.ofNat c),.i (.ofNat e)] (ut w v c e):=
 dw (qac.1 (qac.1 (sS h).1 c (qae.2 a)) e (qae.2 b)) rfl (by kernel_rfl) rfl
def ln_c(h:Sh w v){u e:Nat}(a:(u,e)∈uX w v):Cc 130 [.i (.ofNat w),.i (.ofNat v),.i (.ofNat u),.i (.ofNat e)] [.i (.ofNat (lnC3 (clN w u) e).1),.i (lnC3 (clN w u) e).2,.i 0]:=
 dw (qac.1 (sS h).2.1 (u,e) a) rfl (by kernel_rfl) rfl
def net_ok(h:Sh w v){c:Nat}(a:c<4*w*v):wayT w v c=true/\∀e,e<3->nbT w v c e=true/\lnRng w c e=true:=by
 have:=qac.1 (sS h).2.2 c (qae.2 a);rw[qaa]at this;refine⟨this.1,λe b=>?_⟩;have:=qac.1 this.2 e (qae.2 b)
 rwa [qaa]at this
def eC(h:Sh w v){c e n:Nat}(i:c<4*w*v)(j:e<3)(l:nbr w v c e=some n):n<4*w*v/\nbr w v n e=some c/\lnC3 (clN w c) e=lnC3 (clN w n) e/\clN w n=nbC (clN w c) e/\n≠c:=by
 have:=((net_ok h i).2 e j).1;unfold nbT at this;rw[l]at this;simp only[qaa]at this;obtain⟨d,a,f,g,b⟩:=this;refine⟨by simpa[qa5]using d,?_,eqLn_iff.1 f,eqCl_iff.1 g,λe=>?_⟩
 ·split at a
  next m k=>
   rw[k,qad a]
  ·cases a
 ·subst e;rw[show Nat.beq n n=true from qbK n]at b;cases b
def ln_ok(h:Sh w v){c e:Nat}(a:c<4*w*v)(b:e<3):1<=(lnC3 (clN w c) e).1/\(lnC3 (clN w c) e).1<=4/\-10<=(lnC3 (clN w c) e).2/\(lnC3 (clN w c) e).2<=10:=by
 have:=((net_ok h a).2 e b).2;unfold lnRng at this;simp only[qaa,qbP,qdX]at this;exact this
def vO(h:Sh w v){P:Nat->Prop}(h0:P 0)(o:∀c e n,c<4*w*v->e<3->nbr w v c e=some n->P c->P n):∀n,n<4*w*v->P n:=by
 have a:∀k n,n<4*w*v->rkN w n<k->P n:=by
  intro k
  induction k with
  |zero=>intro n _ l;omega
  |succ k p=>
   intro n d l;have hw:=(net_ok h d).1;unfold wayT at hw;rw[qaS]at hw;rcases hw with hw|hw
   ·rw[qad hw];exact h0
   ·obtain⟨e,b,f⟩:=qci.1 hw;have b:=qae.1 b;split at f
    next m g=>
     rw[qa5]at f;obtain⟨i,j,_⟩:=eC h d b g;exact o m e n i b j (p m i (by omega))
    ·cases f
 intro n d;exact a (rkN w n+1) n d (by omega)
def mem_un{c e n:Nat}(b:c<4*w*v)(d:e<3)(f:nbr w v c e=some n)(a:c<n):(c,e)∈uX w v:=by
 unfold uX;rw[qa8];refine⟨c,qae.2 b,qba.2 ⟨e,qae.2 d,?_⟩⟩;simp[f,a]
def vM(h:Sh w v){c e n:Nat}(f:c<4*w*v)(a:e<3)(g:nbr w v c e=some n):(min c n,e)∈uX w v/\lnC3 (clN w (min c n)) e=lnC3 (clN w c) e:=by
 obtain⟨i,j,k,_,l⟩:=eC h f a g;rcases qaP c n with d|b
 ·rw[qa4 (by omega)];exact⟨mem_un f a g d,rfl⟩
 ·rw[qcd b];exact⟨mem_un i a j (by omega),k.symm⟩
end
def bR(c:Crs):Ku:=(c.1,c.2.1)
def isCr(l:Ty)(u e:Nat):Bool:=decide (((Int.ofNat u,Int.ofNat e):Ku)∈l.map bR)
def SetM(H:HL)(id:Nat)(l:Ty):Prop:=∃a c,H[id]?=some (.o (.map a c))/\EntS a (l.map bR)
def lh{l:Ty}(h:l.Pairwise λa b=>ltC a b=true):(l.map bR).Nodup:=by
 rw[List.Nodup,qbp];refine h.imp λ{a b} c e=>?_;unfold ltC at c;simp only[qaS,qaa,qdX]at c;unfold bR at e;simp only[qcp]at e;omega
def creased_c{H:HL}{w v:Int}{x:Value}{l:Ty}(m:LsH H x 3 encC l)(E:(l.map bR).Nodup)(I:l.length<=1000) :
  ∃G,aB cc ab 128 [.i w,.i v,.v x] (absH aa H) [.v (.map (some H.length))] (absH aa (H++[G]))/\SetM (H++[G]) H.length l:=by
 obtain⟨u,h',z,rfl,G,rfl,B⟩:=x128 (K:=λu h'=>u=[.v (.map (some H.length))]/\∃G,h'=H++[G]/\SetM h' H.length l) (H:=H) (glsI (glsI (glsV m.good gls0))) (by
  unfold f128;simp only[qxh];refine p_x ?_;refine br m ?_;refine p_x ?_;refine br m ?_;refine aS (σ:=HO) l.length (λj _=>[.i (Int.ofNat j)]) (λ_ G=>H++[G]) (λj G=>SetM (H++[G]) H.length (l.take j)) (j0:=0) (s0:=.o (.map [] 0)) rfl rfl (qaC _) ⟨[],0,by simp,rfl,λe h=>(by cases h)⟩ ?_;rintro j G J ⟨g,c,r,k⟩ y d;refine p_x ?_;by_cases b:j<l.length
  ·rw[aD b];refine p_x ?_;obtain⟨a,p⟩:=aH b;have q:=m.pre (h':=H++[G]) ⟨[G],rfl⟩;refine aQ q rfl p ?_;unfold encC;refine p_x ?_;have D:bR a∉(l.take j).map bR:=by
    intro t;rw[qcv]at t;have f:=E;have s:(l.map bR)[j]?=some (bR a):=by rw[qan,p];rfl
    have A:l.map bR=(l.map bR).take j++bR a :: (l.map bR).drop (j+1):=by
     conv=>lhs;rw[←qbv j (l.map bR)]
     rw[qbf (by rw[qaB];exact b)]
     congr 2
     rw[qap (by rw[qaB];exact b)]at s;exact qat s
    rw[A,qbV]at f;exact f.2.2 _ t _ qaN rfl
   refine cj (mu_set (C:=cc) (T:=aa) (n:=(H++[G]).length) (by kernel_rfl) (by kernel_rfl) r k D) ?_;rw[aL (by omega)];have e:bM (H++[G]) [.set H.length (.map (g++[{ key:=kvU (bR a),val:=.bool true,born:=c }]) (c+1))]=H++[.o (.map (g++[{ key:=kvU (bR a),val:=.bool true,born:=c }]) (c+1))]:=by
    show(H++[G]).set H.length _=_;simp
   rw[e];refine d _ b ⟨g++[{ key:=kvU (bR a),val:=.bool true,born:=c }],c+1,by simp,?_⟩;have F:(l.take (j+1)).map bR=(l.take j).map bR++[bR a]:=by
    rw[qbj,p,qa3];rfl
   rw[F];exact k.push _ _
  ·obtain rfl:j=l.length:=by omega
   rw[aC (qaj _)];refine p_x ?_;refine⟨by trivial,G,rfl,?_⟩;rw[qbD]at k;exact⟨g,c,r,k⟩)
 exact⟨G,z,B⟩
def encM(m:Mv):Tk:=[.int .u8 (Int.ofNat m.1),.int .i64 m.2.1,.int .i64 m.2.2]
def bW(m:Mv):(encM m).length=3:=rfl
def acM(w:Nat)(l:Ty)(g:Mv)(c n e:Nat):Mv:=if isCr l (min c n) e then af (ofM (lnC3 (clN w (min c n)) e)) g else g
def wE{w v:Nat}(h:Sh w v){l:Ty}{c e n:Nat}(a:c<4*w*v)(b:e<3)(i:nbr w v c e=some n){k:Int}{g:Mv}(hg:okM k g)(j:0<=k):okM (k+20) (acM w l g c n e):=by
 unfold acM;obtain⟨_,f⟩:=vM h a b i;split
 ·rw[f];have d:=ln_ok h a b;have:=dJ (xA (n:=10) ⟨d.2.2.1,d.2.2.2⟩) hg;exact aO this (by omega)
 ·exact aO hg (by omega)
abbrev _root_.TI:=List Mv
def across_c{w v:Nat}(d:Sh w v){l:Ty}{h:HL}{x A y z B:Value}{j:Nat}{G:TI}(p:Ptr h A [.int .i64 (.ofNat w),.int .i64 (.ofNat v),x])(t:Ptr h y [.map (some j)])(D:SetM h j l)(o:Ptr h z [B])(m:LsH h B 3 encM G)
  {c e n:Nat} (q:c<4*w*v) (r:e<3) (u:nbr w v c e=some n) {g:Mv} (hg:G[c]?=some g) {k:Int} (E:okM k g) (F:0<=k/\k<=16000) :
  aB cc ab 129 [.i (.ofNat c),.i (.ofNat e),.v A,.v y,.v z] (absH aa h) (mvl (acM w l g c n e)) (absH aa h):=by
 obtain⟨M,L,J,K⟩:=D;have H:=qQ w v d.1 d.2.1 d.2.2.1 d.2.2.2;obtain⟨I,s⟩:=vM d q r u;have b:=ln_ok d q r;rw[←s]at b;have a:=nameIn H q r;unfold nameN at a;rw[u]at a;simp only at a;exact xK x129 (glsI (glsI (glsV p.good (glsV t.good (glsV o.good gls0))))) (by
  unfold f129;simp only[qxh]
  repeat (first|simp(disch:=omega)only[↓qXX]|refine iB (ds:=[.int .i64 (.ofNat w),.int .i64 (.ofNat v)]) p (by simp) rfl ?_|refine ah a ?_|refine cN t rfl ?_|refine ac rfl ?_|refine gi (lu_set (C:=cc) (T:=aa) (by kernel_rfl) (by kernel_rfl) J K (Int.ofNat (min c n),Int.ofNat e)) ?_)
  unfold acM isCr;by_cases f:((Int.ofNat (min c n),Int.ofNat e):Ku)∈l.map bR
  ·rw[qdZ f]
   repeat (first|simp(disch:=omega)only[↓qXX,qaQ,if_true]|refine iB (ds:=[.int .i64 (.ofNat w),.int .i64 (.ofNat v)]) p (by simp) rfl ?_|refine ah (ln_c d I) ?_)
   refine ah (mlof_c ⟨b.1,b.2.1⟩ ⟨by omega,by omega⟩) ?_;simp only[mvl,qag,qaf]
   repeat (first|simp(disch:=omega)only[↓qXX]|refine cN o rfl ?_|refine ac m.good ?_)
   refine aQ m rfl hg ?_;unfold encM;refine p_x ?_;refine ah (then_c (xA (n:=10) ⟨b.2.2.1,b.2.2.2⟩) E (by omega)) ?_;simp only[mvl,qag,qaf];simp(disch:=omega)only[↓qXX];trivial
  ·rw[qdY f]
   repeat (first|simp(disch:=omega)only[↓qXX,qaX,qar,if_false]|refine cN o rfl ?_|refine ac m.good ?_)
   refine aQ m rfl hg ?_;unfold encM;simp(disch:=omega)only[↓qXX];trivial)
def cW{α:Type}{e:Nat}{enc:α->Tk}(b:∀a,(enc a).length=e){h:HL}{id cx len:Nat}{l:List α}{i:Nat}{a:α}{n:Int}{new:Tk}{K:Ta}(hg:h[id]?=some (.o (.cells (l.flatMap enc) e true)))(j:n=Int.ofNat i)(f:i<l.length)(c:l.length=len)(d:new=enc a)(g:K [] (putE h id e enc (l.set i a))) :
  P1.opt (idS e (.slice (some ⟨id,0,tag e⟩) len cx) n) (@hid _ ⟨λx=>P1.heap (.st x new) h (@hid _ ⟨K⟩)⟩):=by
 have k:putE h id e enc l=h:=bD hg;have:=r_set (C:=cc) (Sg:=ab) (T:=aa) (h:=h) (id:=id) (cx:=cx) (len:=len) (l:=l) b (aw hg) j f c d g;rw[k]at this;exact this
def cP{α:Type}{h:HL}{id e j:Nat}{enc:α->Tk}{l:List α}(a:j≠id):(putE h id e enc l)[j]?=h[j]?:=by
 unfold putE;rw[qaD (qbR a)]
def encN(n:Nat):Tk:=[.int .i64 (Int.ofNat n)]
def aG(n:Nat):(encN n).length=1:=rfl
def encT(t:Bool):Tk:=[.bool t]
def ey(t:Bool):(encT t).length=1:=rfl
def jO(q:Tx):(q.flatMap encN).length=q.length:=by
 rw[aY (e:=1) (enc:=encN) λa _=>aG a,qcX]
def WQ(b:Nat)(h:HL)(v:Value)(q:Tx):Prop:=∃id off cx vs,v = .slice (some ⟨id,off,tag 1⟩) q.length cx/\b<=id/\h[id]?=some (.o (.cells vs 1 true))/\cut vs off (q.length*1)=some (q.flatMap encN)/\(cx=0∨cx=q.length+1)
def WQ.ls{b:Nat}{h:HL}{v:Value}{q:Tx}(g:WQ b h v q):LsH h v 1 encN q:=by
 obtain⟨id,c,d,i,rfl,j,e,f,_⟩:=g;exact⟨λa _=>aG a,by rw[jO,qcX],.inr ⟨id,c,d,i,true,rfl,e,f⟩⟩
def WQ.keep{b:Nat}{h h':HL}{v:Value}{q:Tx}(k:WQ b h v q)(i:∀(j:Nat) o,b<=j->h[j]?=some o->h'[j]?=some o):WQ b h' v q:=by
 obtain⟨id,a,d,l,e,c,f,g⟩:=k;exact⟨id,a,d,l,e,c,i _ _ c f,g⟩
def r_tail{b:Nat}{h:HL}{v:Value}{a:Nat}{q:Tx}{K:Value->Prop}(r:WQ b h v (a :: q))(n:∀v',WQ b h v' q->az v'=true->K v'):P1.opt (slS 1 v (some 1) none none) (@hid _ ⟨K⟩):=by
 obtain⟨id,c,d,f,rfl,j,l,m,e⟩:=r;have p:slS 1 (.slice (some ⟨id,c,tag 1⟩) (a :: q).length d) (some 1) none none=some (.slice (some ⟨id,c+1,tag 1⟩) q.length (d - 1)):=by
  unfold slS;have g:¬(tag 1≠some 1/\tag 1≠tag 1):=by simp
  simp only[qd1 g];have i:(0:Int)<=(some (1:Int)).getD 0/\(some (1:Int)).getD 0<=(none:Option Int).getD ((a :: q).length:Int)/\cZ (a :: q).length d none none:=by
   refine⟨by simp,?_,?_⟩
   ·simp only[qby,qdc,qa0];omega
   ·unfold cZ;left;simp
  rw[qd0 i];rw[fH,fH,fH];simp[bY]
 refine ae p (n _ ⟨id,c+1,d - 1,f,rfl,j,l,?_,?_⟩ ?_)
 ·have:=nE (m:cut f c ((a :: q).length*1)=some _) (o:=1) (k:=q.length*1) (by simp only[qa0];omega);rw[this];simp only[qaV,encN,qag,qaf,qcK,qbE,qcX];rw[←jO q]
  congr 1
  exact qbD
 ·rcases e with e|e
  ·left;omega
  ·right;simp only[qa0]at e;omega
 ·simp[az,noLoc,aR,aZ,aT,aI,av,tag]
def r_apQ{b:Nat}{h:HL}{v:Value}{q:Tx}{n m:Nat}{new:Tk}{K:Ta}(B:WQ b h v q)(y:b<=h.length)(A:m=h.length)(f:new=encN n)(F:q.length<=1000)
  (u:∀v' h',WQ b h' v' (q++[n])->az v'=true->(∀(j:Nat) o,j<b->h[j]?=some o->h'[j]?=some o)->h.length<=h'.length->K [v'] h') :
  P1.heap (.ap cc 1 8 v (.slice (some ⟨m,0,some 11⟩) 1 2)) (h++[.o (.cells new 1 true)]) (@hid _ ⟨K⟩):=by
 subst A f;obtain⟨id,d,D,C,rfl,E,r,s,x⟩:=B;have l:=aw r;have w:SlC (h++[HO.o (.cells (encN n) 1 true)]) (.slice (some ⟨h.length,0,tag 1⟩) 1 2) 1 1 (encN n):=⟨rfl,.inr ⟨h.length,0,2,encN n,true,rfl,by simp,Sx.cut_all rfl⟩⟩;have t:(h++[HO.o (.cells (encN n) 1 true)])[id]?=some (.o (.cells C 1 true)):=by rw[qam l];exact r
 have k:bh (q.length+1) 8=true:=by
  unfold bh;rw[qal (by omega),qal (by omega)];rfl
 have p:∀i,az (.slice (some ⟨i,0,tag 1⟩) (q.length+1) 0)=true:=λi=>by simp[az,noLoc,aR,aZ,aT,aI,av,tag]
 have e:(q.flatMap encN++encN n)=(q++[n]).flatMap encN:=by simp
 have a:(q++[n]).length=q.length+1:=by simp
 rcases x with rfl|rfl
 ·have c:apG cc 1 8 (.slice (some ⟨id,d,tag 1⟩) q.length 0) (.slice (some ⟨h.length,0,tag 1⟩) 1 2) (getH aa (h++[HO.o (.cells (encN n) 1 true)])) (h++[HO.o (.cells (encN n) 1 true)]).length=some ([.set id .dead,.push (.cells (q.flatMap encN++encN n) 1 true)],[.slice (some ⟨(h++[HO.o (.cells (encN n) 1 true)]).length,0,tag 1⟩) (q.length+1) 0]):=by
   unfold apG;rw[qL w];simp only[ne_eq,not_true_eq_false,if_false];rw[bN t];simp only[ne_eq,not_true_eq_false,if_false];rw[s];simp only[qdh];rw[qd1 (by omega),qd0 k]
  refine cj (show(Hp.ap cc 1 8 (.slice (some ⟨id,d,tag 1⟩) q.length 0) (.slice (some ⟨h.length,0,tag 1⟩) 1 2)).run _ _=_ from c) ?_;refine u _ _ ⟨(h++[HO.o (.cells (encN n) 1 true)]).length,0,0,q.flatMap encN++encN n,by rw[a],by simp;omega,?_,?_,.inl rfl⟩ (p _) (λj o z g=>?_) ?_
  ·show(((h++[HO.o (.cells (encN n) 1 true)]).set id (.o .dead))++[HO.o (.cells (q.flatMap encN++encN n) 1 true)])[_]?=_;rw[qaw (by simp)];simp
  ·rw[e,a];exact Sx.cut_all (by rw[jO,a,qcX])
  ·show(((h++[HO.o (.cells (encN n) 1 true)]).set id (.o .dead))++[HO.o (.cells (q.flatMap encN++encN n) 1 true)])[j]?=_;have:=aw g;rw[qam (by simp;omega),qaD (by omega),qam this];exact g
  ·show h.length<=(((h++[HO.o (.cells (encN n) 1 true)]).set id (.o .dead))++[HO.o (.cells (q.flatMap encN++encN n) 1 true)]).length;simp;omega
 ·have c:apG cc 1 8 (.slice (some ⟨id,d,tag 1⟩) q.length (q.length+1)) (.slice (some ⟨h.length,0,tag 1⟩) 1 2) (getH aa (h++[HO.o (.cells (encN n) 1 true)])) (h++[HO.o (.cells (encN n) 1 true)]).length=some ([.push (.cells (q.flatMap encN++encN n) 1 true)],[.slice (some ⟨(h++[HO.o (.cells (encN n) 1 true)]).length,0,tag 1⟩) (q.length+1) 0]):=by
   unfold apG;rw[qL w];simp only[ne_eq,not_true_eq_false,if_false];rw[bN t];simp only[ne_eq,not_true_eq_false,if_false];rw[s];simp only;rw[qd1 (by omega),qd0 k]
  refine cj (show(Hp.ap cc 1 8 (.slice (some ⟨id,d,tag 1⟩) q.length (q.length+1)) (.slice (some ⟨h.length,0,tag 1⟩) 1 2)).run _ _=_ from c) ?_;refine u _ _ ⟨(h++[HO.o (.cells (encN n) 1 true)]).length,0,0,q.flatMap encN++encN n,by rw[a],by simp;omega,?_,?_,.inl rfl⟩ (p _) (λj o z g=>?_) ?_
  ·show((h++[HO.o (.cells (encN n) 1 true)])++[HO.o (.cells (q.flatMap encN++encN n) 1 true)])[_]?=_;rw[qaw (by simp)];simp
  ·rw[e,a];exact Sx.cut_all (by rw[jO,a,qcX])
  ·show((h++[HO.o (.cells (encN n) 1 true)])++[HO.o (.cells (q.flatMap encN++encN n) 1 true)])[j]?=_;have:=aw g;rw[qam (by simp;omega),qam this];exact g
  ·show h.length<=((h++[HO.o (.cells (encN n) 1 true)])++[HO.o (.cells (q.flatMap encN++encN n) 1 true)]).length;simp
abbrev _root_.Tv:=List Bool
structure RS(H h:HL)(w v:Nat)(x:Value)(l:Ty)(A:TI)(B:Tv):Prop where
 pre:Pre H h
 len:H.length+6<=h.length
 p:h[H.length]?=some (.o (.cells [.int .i64 (.ofNat w),.int .i64 (.ofNat v),x] 3 true))
 mp:SetM h (H.length+1) l
 mv:h[H.length+2]?=some (.o (.cells [.map (some (H.length+1))] 1 true))
 ol:h[H.length+3]?=some (.o (.cells (A.flatMap encM) 3 true))
 ov:h[H.length+4]?=some (.o (.cells [.slice (some ⟨H.length+3,0,tag 3⟩) (4*w*v) (4*w*v+1)] 1 true))
 kn:h[H.length+5]?=some (.o (.cells (B.flatMap encT) 1 true))
 la:A.length=4*w*v
 lb:B.length=4*w*v
section
variable {H h:HL} {w v:Nat} {x:Value} {l:Ty} {A:TI} {B:Tv}
def RS.lsA(c:RS H h w v x l A B):LsH h (.slice (some ⟨H.length+3,0,tag 3⟩) (4*w*v) (4*w*v+1)) 3 encM A:=by
 have b:=aY (e:=3) (enc:=encM) (l:=A) λa _=>bW a;rw[←c.la];exact⟨λa _=>bW a,b,.inr ⟨_,0,_,_,true,rfl,c.ol,Sx.cut_all b⟩⟩
def RS.lsB(c:RS H h w v x l A B):LsH h (.slice (some ⟨H.length+5,0,tag 1⟩) (4*w*v) (4*w*v+1)) 1 encT B:=by
 have b:=aY (e:=1) (enc:=encT) (l:=B) λa _=>ey a;rw[←c.lb];exact⟨λa _=>ey a,b,.inr ⟨_,0,_,_,true,rfl,c.kn,Sx.cut_all b⟩⟩
def RS.keep{h':HL}(a:RS H h w v x l A B)(b:∀(j:Nat) o,j<H.length+6->h[j]?=some o->h'[j]?=some o)(k:h.length<=h'.length):RS H h' w v x l A B:=by
 obtain⟨g,c,m,n⟩:=a.mp;refine⟨?_,qbN a.len k,b _ _ (by omega) a.p,⟨g,c,b _ _ (by omega) m,n⟩,b _ _ (by omega) a.mv,b _ _ (by omega) a.ol,b _ _ (by omega) a.ov,b _ _ (by omega) a.kn,a.la,a.lb⟩;have e:=a.pre;refine⟨h'.drop H.length,?_⟩;apply qbi;intro i;rcases qaP i H.length with d|d
 ·rw[qam d];have f:H[i]?=some H[i]:=qap d;rw[f];exact b _ _ (by omega) (e.get f)
 ·rw[qaw d,qbq,Nat.add_sub_cancel' d]
def gm{α:Type}{id e:Nat}{enc:α->Tk}{L:List α}(a:Pre H h)(hid:H.length<=id):Pre H (putE h id e enc L):=a.set hid _
def sx{α:Type}{h:HL}{id e:Nat}{enc:α->Tk}{L:List α}:(putE h id e enc L).length=h.length:=by simp[putE]
def RS.putA(a:RS H h w v x l A B){A':TI}(d:A'.length=A.length):RS H (putE h (H.length+3) 3 encM A') w v x l A' B:=by
 obtain⟨b,c,f,g⟩:=a.mp;have e:=a.len;exact⟨gm a.pre (by omega),by rw[sx];exact e,by rw[cP (by omega)];exact a.p,⟨b,c,by rw[cP (by omega)];exact f,g⟩,by rw[cP (by omega)];exact a.mv,bF (by omega),by rw[cP (by omega)];exact a.ov,by rw[cP (by omega)];exact a.kn,by rw[d];exact a.la,a.lb⟩
def RS.putB(a:RS H h w v x l A B){B':Tv}(d:B'.length=B.length):RS H (putE h (H.length+5) 1 encT B') w v x l A B':=by
 obtain⟨b,c,f,g⟩:=a.mp;have e:=a.len;exact⟨gm a.pre (by omega),by rw[sx];exact e,by rw[cP (by omega)];exact a.p,⟨b,c,by rw[cP (by omega)];exact f,g⟩,by rw[cP (by omega)];exact a.mv,by rw[cP (by omega)];exact a.ol,by rw[cP (by omega)];exact a.ov,bF (by omega),a.la,by rw[d];exact a.lb⟩
end
abbrev _root_.TC:=Nat->Mv
def mo(w v:Nat)(l:Ty)(G:TC):Prop:=∀c e n,c<4*w*v->e<3->nbr w v c e=some n->G n=acM w l (G c) c n e
def cntT:Tv->Nat
 | []=>0
 |b :: l=>(if b then 1 else 0)+cntT l
def gS:∀l:List Bool,cntT l<=l.length
 | []=>qaj _
 |b :: l=>by
  have:=gS l;simp only[cntT,qa0];split<;>omega
def fV:∀ {l:Tv} {n:Nat},l[n]?=some false->cntT (l.set n true)=cntT l+1
 | [],n,h=>by simp at h
 |b :: l,0,h=>by
  simp only[qbM,qaI]at h;subst h;simp[cntT];omega
 |b :: l,n+1,h=>by
  simp only[qa6]at h;have:=fV h;simp only[qcB,cntT,this];omega
structure JS(w v:Nat)(l:Ty)(A:TI)(B:Tv)(q:Tx)(D:Nat->Nat->Prop):Prop where
 a0:A[0]?=some idM
 b0:B[0]?=some true
 q1:∀c∈q,B[c]?=some true
 dn:∀c e n,D c e->c<4*w*v->e<3->nbr w v c e=some n->B[c]?=some true->c∉q->B[n]?=some true/\∃a,A[c]?=some a/\A[n]?=some (acM w l a c n e)
 bd:∀(c:Nat) a,B[c]?=some true->A[c]?=some a->okM (20*(cntT B:Int)) a
 un:∀G,mo w v l G->G 0=idM->∀(c:Nat) a,B[c]?=some true->A[c]?=some a->a=G c
structure GoodA(w v:Nat)(l:Ty)(A:TI):Prop where
 len:A.length=4*w*v
 a0:A[0]?=some idM
 ok:∀a∈A,okM 2000 a
 cons:∀c e n a,c<4*w*v->e<3->nbr w v c e=some n->A[c]?=some a->A[n]?=some (acM w l a c n e)
section
variable {w v:Nat} {l:Ty} {A:TI} {B:Tv} {q:Tx}
def JS.start(j:Sh w v):JS w v l (List.replicate (4*w*v) idM) ((List.replicate (4*w*v) false).set 0 true) [0] λ_ _=>True:=by
 have d:0<4*w*v:=by
  have k:=j.1;have m:=j.2.2.1;have:0<w*v:=Nat.mul_pos k m;rw[qcg];omega
 have i:∀c,((List.replicate (4*w*v) false).set 0 true)[c]?=some true->c=0:=by
  intro c b;by_cases h:c=0
  ·exact h
  ·rw[qaD (qbR h),qa7]at b;split at b<;>cases b
 refine⟨by rw[qa7,qd0 d],by rw[qaK (by simpa using d)],λc b=>?_,λc e n _ _ _ _ g o=>?_,λc a g f=>?_,λG p h c a g f=>?_⟩
 ·simp only[qaq]at b;subst b;rw[qaK (by simpa using d)]
 ·exact absurd (by rw[i c g];simp) o
 ·have:=i c g;subst this;rw[qa7,qd0 d]at f;cases f;exact xB (by omega)
 ·have:=i c g;subst this;rw[qa7,qd0 d]at f;cases f;exact h.symm
def JS.pop{c0:Nat}(h:JS w v l A B (c0 :: q) λ_ _=>True):JS w v l A B q λc e=>c=c0->e<0:=by
 refine⟨h.a0,h.b0,λc d=>h.q1 c (qav _ d),λc e n g d i j f k=>?_,h.bd,h.un⟩;by_cases a:c=c0
 ·have:=g a;omega
 ·exact h.dn c e n trivial d i j f λb=>by
   rcases qax.1 b with b|b
   ·exact a b
   ·exact k b
def JS.skip{c0 j:Nat}(h:JS w v l A B q λc e=>c=c0->e<j)(o:nbr w v c0 j=none):JS w v l A B q λc e=>c=c0->e<j+1:=by
 refine⟨h.a0,h.b0,h.q1,λc e n i g k a f p=>?_,h.bd,h.un⟩;refine h.dn c e n (λb=>?_) g k a f p;have:=i b;rcases qaP e j with d|m
 ·exact d
 ·obtain rfl:e=j:=by omega
  subst b;rw[o]at a;cases a
def JS.seen{c0 j n:Nat}{a:Mv}(h:JS w v l A B q λc e=>c=c0->e<j)(t:nbr w v c0 j=some n)(m:B[n]?=some true)(k:A[c0]?=some a)(s:A[n]?=some (acM w l a c0 n j)):JS w v l A B q λc e=>c=c0->e<j+1:=by
 refine⟨h.a0,h.b0,h.q1,λc e x p o r b g u=>?_,h.bd,h.un⟩;by_cases f:c=c0/\e=j
 ·obtain⟨rfl,rfl⟩:=f;rw[t]at b;cases b;exact⟨m,a,k,s⟩
 ·exact h.dn c e x (λd=>by have:=p d;have:e≠j:=λi=>f ⟨d,i⟩;omega) o r b g u
def JS.fresh(O:Sh w v){c0 j n:Nat}{a:Mv}(h:JS w v l A B q λc e=>c=c0->e<j)(V:A.length=4*w*v)(W:B.length=4*w*v)(m:c0<4*w*v)(L:j<3)(z:nbr w v c0 j=some n)(t:B[c0]?=some true)(I:B[n]?=some false)(H:A[c0]?=some a) :
  JS w v l (A.set n (acM w l a c0 n j)) (B.set n true) (q++[n]) λc e=>c=c0->e<j+1:=by
 obtain⟨Y,_,_,_,Z⟩:=eC O m L z;have k:(B.set n true)[n]?=some true:=qaK (by omega);have i:(A.set n (acM w l a c0 n j))[n]?=some (acM w l a c0 n j):=qaK (by omega);have p:∀c,c≠n->(B.set n true)[c]?=B[c]?:=λc g=>qaD (qbR g);have hA:∀c,c≠n->(A.set n (acM w l a c0 n j))[c]?=A[c]?:=λc g=>qaD (qbR g);have r:(0:Nat)≠n:=λe=>by have:=h.b0;rw[e,I]at this;cases this
 have M:okM (20*(cntT B:Int)) a:=h.bd c0 a t H;refine⟨by rw[hA 0 r];exact h.a0,by rw[p 0 r];exact h.b0,λc g=>?_,λc e C T g U o f N=>?_,λc D f d=>?_,λG F s c D f d=>?_⟩
 ·rcases qaz.1 g with g|g
  ·have:=h.q1 c g;by_cases b:c=n
   ·rw[b];exact k
   ·rw[p c b];exact this
  ·simp only[qaq]at g;rw[g];exact k
 ·have b:c≠n:=λe=>N (by rw[e];simp);have J:c∉q:=λX=>N (qaW _ X);rw[p c b]at f;by_cases x:c=c0/\e=j
  ·obtain⟨rfl,rfl⟩:=x;rw[z]at o;cases o;exact⟨k,a,by rw[hA c b];exact H,i⟩
  ·obtain⟨E,P,Q,R⟩:=h.dn c e C (λu=>by have:=T u;have:e≠j:=λK=>x ⟨u,K⟩;omega) g U o f J;have y:C≠n:=λS=>by rw[S,I]at E;cases E
   exact⟨by rw[p C y];exact E,P,by rw[hA c b];exact Q,by rw[hA C y];exact R⟩
 ·rw[fV I];by_cases b:c=n
  ·rw[b,i]at d;cases d;exact aO (wE O m L z M (by omega)) (by omega)
  ·rw[p c b]at f;rw[hA c b]at d;exact aO (h.bd c D f d) (by omega)
 ·by_cases b:c=n
  ·rw[b,i]at d;cases d;rw[b,F c0 j n m L z,←h.un G F s c0 a t H]
  ·rw[p c b]at f;rw[hA c b]at d;exact h.un G F s c D f d
def JS.done{c0:Nat}(h:JS w v l A B q λc e=>c=c0->e<3):JS w v l A B q λ_ _=>True:=
 ⟨h.a0,h.b0,h.q1,λc e n _ d a f b g=>h.dn c e n (λ_=>a) d a f b g,h.bd,h.un⟩
def sh_N(a:Sh w v):0<4*w*v/\4*w*v<=100:=by
 have b:1*1<=w*v:=qdT a.1 a.2.2.1;have c:w*v<=5*5:=qdT a.2.1 a.2.2.2;rw[qcg];omega
def JS.good(p:Sh w v)(h:JS w v l A B [] λ_ _=>True)(g:A.length=4*w*v)(u:B.length=4*w*v):GoodA w v l A:=by
 have b:∀n,n<4*w*v->B[n]?=some true:=vO p h.b0 λc e n d f j t=>(h.dn c e n trivial d f j t (by simp)).1;have z:=sh_N p;have m:=gS B;refine⟨g,h.a0,λa x=>?_,λc e n a d f j s=>?_⟩
 ·obtain⟨i,o⟩:=qaT x;have:=aw o;exact aO (h.bd i a (b i (by omega)) o) (by omega)
 ·obtain⟨_,y,k,r⟩:=h.dn c e n trivial d f j (b c d) (by simp);rw[s]at k;cases k;exact r
def JS.tear(r:Sh w v){c0 j n:Nat}{a b:Mv}{D:Nat->Nat->Prop}(h:JS w v l A B q D)(g:c0<4*w*v)(o:j<3)(p:nbr w v c0 j=some n)(e:B[c0]?=some true)(m:B[n]?=some true)(k:A[c0]?=some a)(f:A[n]?=some b)(i:b≠acM w l a c0 n j):¬ ∃G,mo w v l G/\G 0=idM:=by
 rintro⟨G,d,c⟩;refine i ?_;rw[h.un G d c n b m f,d c0 j n g o p,←h.un G d c c0 a e k]
end
def left(B:Tv)(q:Tx):Nat:=q.length+(B.length - cntT B)
def tabCnt:Bool:=(List.range 5).all λw=>(List.range 5).all λv=>jc 23 [.i (.ofNat (w+1)),.i (.ofNat (v+1))] [.i (.ofNat (4*(w+1)*(v+1)))]
def cnt_all:tabCnt=true:=by kernel_rfl
def cnt_c{w v:Nat}(h:Sh w v):Cc 23 [.i (.ofNat w),.i (.ofNat v)] [.i (.ofNat (4*w*v))]:=by
 have b:=qac.1 cnt_all (w - 1) (qae.2 (by have:=h.2.1;have:=h.1;omega));have a:=qac.1 b (v - 1) (qae.2 (by have:=h.2.2.1;have:=h.2.2.2;omega));rw[show w - 1+1=w by have:=h.1;omega,show v - 1+1=v by have:=h.2.2.1;omega]at a;exact dw a rfl (by kernel_rfl) rfl
def eqsM{a b:Mv}{K:Tm}:P1.eqs [(.i (Int.ofNat a.1),.i (Int.ofNat b.1)),(.i a.2.1,.i b.2.1),(.i a.2.2,.i b.2.2)] (@hid _ ⟨K⟩)=K (decide (a=b)):=by
 show K (cw _)=_;have e:cw [(.i (Int.ofNat a.1),.i (Int.ofNat b.1)),(.i a.2.1,.i b.2.1),(.i a.2.2,.i b.2.2)]=decide (a=b):=by
  rw[qbH];simp[cw,gG,qds];intro _ _;omega
 rw[e]
def RelOk(w v:Nat)(l:Ty)(H:HL)(a:TB)(h':HL):Prop:=
 Pre H h'/\((∃A id,a=[.v (.slice (some ⟨id,0,tag 3⟩) (4*w*v) (4*w*v+1)),.i 0]/\H.length<=id/\h'[id]?=some (.o (.cells (A.flatMap encM) 3 true))/\GoodA w v l A)∨
  (a=[.v (.slice none 0 0),.i 11]/\¬ ∃G,mo w v l G/\G 0=idM))
def zm{w v:Nat}(G:Sh w v){l:Ty}(hk:(l.map bR).Nodup)(a9:l.length<=1000){H:HL}{x:Value}(hl:LsH H x 3 encC l) :
  ∃rs h',aB cc ab 100 [.i (.ofNat w),.i (.ofNat v),.v x] (absH aa H) rs (absH aa h')/\RelOk w v l H rs h':=by
 have hN:=sh_N G;obtain⟨rs,h',h1,R⟩:=x100 (K:=λrs h'=>RelOk w v l H rs h') (H:=H) (glsI (glsI (glsV hl.good gls0))) (by
  unfold f100;simp only[qxh]
  repeat (first|simp(disch:=omega)only[↓qXX]|refine cN (dK ao) rfl ?_|refine ac hl.good ?_)
  obtain⟨M,W,V⟩:=creased_c (w:=.ofNat w) (v:=.ofNat v) (hl.pre (h':=H++[HO.o (.cells [.int .i64 (.ofNat w),.int .i64 (.ofNat v),x] 3 true)]) ⟨_,rfl⟩) hk a9;rw[show(H++[HO.o (.cells [.int .i64 (.ofNat w),.int .i64 (.ofNat v),x] 3 true)]).length=H.length+1 by simp]at W V;have k0:(H++[HO.o (.cells [.int .i64 (.ofNat w),.int .i64 (.ofNat v),x] 3 true)]++[M]).length=H.length+2:=by simp
  have kp:(H++[HO.o (.cells [.int .i64 (.ofNat w),.int .i64 (.ofNat v),x] 3 true)]++[M])[H.length]?=some (HO.o (.cells [.int .i64 (.ofNat w),.int .i64 (.ofNat v),x] 3 true)):=by simp
  have kH:Pre H (H++[HO.o (.cells [.int .i64 (.ofNat w),.int .i64 (.ofNat v),x] 3 true)]++[M]):=⟨_,qai ..⟩;refine ai W ?_;clear W;generalize H++[HO.o (.cells [.int .i64 (.ofNat w),.int .i64 (.ofNat v),x] 3 true)]++[M]=R at *;refine p_x ?_;refine wc ao rfl ?_;rw[dp];have m0:(R++[HO.o (.cells [.map (some (H.length+1))] 1 true)]).length=H.length+3:=by simp[k0]
  have mp:=kp |> (Pre.get (b:=R++[HO.o (.cells [.map (some (H.length+1))] 1 true)]) ⟨_,rfl⟩)
  have mv:(R++[HO.o (.cells [.map (some (H.length+1))] 1 true)])[H.length+2]?=some (HO.o (.cells [.map (some (H.length+1))] 1 true)):=by rw[←k0];exact ao
  have mH:Pre H (R++[HO.o (.cells [.map (some (H.length+1))] 1 true)]):=kH.app _;have mS:SetM (R++[HO.o (.cells [.map (some (H.length+1))] 1 true)]) (H.length+1) l:=by
   obtain⟨U,c,J,L⟩:=V;exact⟨U,c,Pre.get ⟨_,rfl⟩ J,L⟩
  rw[k0];generalize R++[HO.o (.cells [.map (some (H.length+1))] 1 true)]=h3 at *;clear kp kH V k0
  repeat (first|simp(disch:=omega)only[↓qXX]|refine iB (p:=ptrB H.length) (cs:=[.int .i64 (.ofNat w),.int .i64 (.ofNat v),x]) (ds:=[.int .i64 (.ofNat w),.int .i64 (.ofNat v)]) (dK mp) (by simp) rfl ?_|refine ah (cnt_c G) ?_|refine ae (dZ (by omega)) ?_)
  rw[show(Int.ofNat (4*w*v)).toNat=4*w*v from rfl];have z0:HO.o (.cells (bc [.int .u8 0,.int .i64 0,.int .i64 0] (4*w*v)) 3 true)=HO.o (.cells ((List.replicate (4*w*v) idM).flatMap encM) 3 true):=by
   rw[←cU (enc:=encM) (z:=idM) (n:=4*w*v)];rfl
  rw[z0,m0];have n0:(h3++[HO.o (.cells ((List.replicate (4*w*v) idM).flatMap encM) 3 true)]).length=H.length+4:=by simp[m0]
  have np:=mp |> (Pre.get (b:=h3++[HO.o (.cells ((List.replicate (4*w*v) idM).flatMap encM) 3 true)]) ⟨_,rfl⟩)
  have nv:=mv |> (Pre.get (b:=h3++[HO.o (.cells ((List.replicate (4*w*v) idM).flatMap encM) 3 true)]) ⟨_,rfl⟩)
  have na:(h3++[HO.o (.cells ((List.replicate (4*w*v) idM).flatMap encM) 3 true)])[H.length+3]?=some (HO.o (.cells ((List.replicate (4*w*v) idM).flatMap encM) 3 true)):=by rw[←m0];exact ao
  have nH:Pre H (h3++[HO.o (.cells ((List.replicate (4*w*v) idM).flatMap encM) 3 true)]):=mH.app _;have nS:SetM (h3++[HO.o (.cells ((List.replicate (4*w*v) idM).flatMap encM) 3 true)]) (H.length+1) l:=by
   obtain⟨U,c,J,L⟩:=mS;exact⟨U,c,Pre.get ⟨_,rfl⟩ J,L⟩
  generalize h3++[HO.o (.cells ((List.replicate (4*w*v) idM).flatMap encM) 3 true)]=h4 at *;clear mp mv mH mS m0;refine wc ao rfl ?_;rw[dp];refine p_y ?_;refine cN (dK ao) rfl ?_;refine p_x ?_;refine ac (by simp[az,noLoc,aR,aZ,aT,aI,av]) ?_;refine p_x ?_;refine ae (x:=Int.ofNat (4*w*v)) rfl ?_;refine ae (dZ (by omega)) ?_;refine p_x ?_;rw[n0,show(Int.ofNat (4*w*v)).toNat=4*w*v from rfl];refine ac (by simp[az,noLoc,aR,aZ,aT,aI,av]) ?_;have o0:(h4++[HO.o (.cells [.slice (some ⟨H.length+3,0,some 13⟩) (4*w*v) (4*w*v+1)] 1 true)]).length=H.length+5:=by simp[n0]
  have op:=np |> (Pre.get (b:=h4++[HO.o (.cells [.slice (some ⟨H.length+3,0,some 13⟩) (4*w*v) (4*w*v+1)] 1 true)]) ⟨_,rfl⟩)
  have om:=nv |> (Pre.get (b:=h4++[HO.o (.cells [.slice (some ⟨H.length+3,0,some 13⟩) (4*w*v) (4*w*v+1)] 1 true)]) ⟨_,rfl⟩)
  have oa:=na |> (Pre.get (b:=h4++[HO.o (.cells [.slice (some ⟨H.length+3,0,some 13⟩) (4*w*v) (4*w*v+1)] 1 true)]) ⟨_,rfl⟩)
  have ov:(h4++[HO.o (.cells [.slice (some ⟨H.length+3,0,some 13⟩) (4*w*v) (4*w*v+1)] 1 true)])[H.length+4]?=some (HO.o (.cells [.slice (some ⟨H.length+3,0,some 13⟩) (4*w*v) (4*w*v+1)] 1 true)):=by rw[←n0];exact ao
  have oH:Pre H (h4++[HO.o (.cells [.slice (some ⟨H.length+3,0,some 13⟩) (4*w*v) (4*w*v+1)] 1 true)]):=nH.app _;have oS:SetM (h4++[HO.o (.cells [.slice (some ⟨H.length+3,0,some 13⟩) (4*w*v) (4*w*v+1)] 1 true)]) (H.length+1) l:=by
   obtain⟨U,c,J,L⟩:=nS;exact⟨U,c,Pre.get ⟨_,rfl⟩ J,L⟩
  generalize h4++[HO.o (.cells [.slice (some ⟨H.length+3,0,some 13⟩) (4*w*v) (4*w*v+1)] 1 true)]=h5 at *;clear np nv na nH nS n0;have z1:HO.o (.cells (bc [.bool false] (4*w*v)) 1 true)=HO.o (.cells ((List.replicate (4*w*v) false).flatMap encT) 1 true):=by
   rw[←cU (enc:=encT) (z:=false) (n:=4*w*v)];rfl
  rw[z1,o0];have r0:RS H (h5++[HO.o (.cells ((List.replicate (4*w*v) false).flatMap encT) 1 true)]) w v x l (List.replicate (4*w*v) idM) (List.replicate (4*w*v) false):=by
   obtain⟨U,c,J,L⟩:=oS;exact⟨oH.app _,by simp[o0],Pre.get ⟨_,rfl⟩ op,⟨U,c,Pre.get ⟨_,rfl⟩ J,L⟩,Pre.get ⟨_,rfl⟩ om,Pre.get ⟨_,rfl⟩ oa,Pre.get ⟨_,rfl⟩ ov,by rw[←o0];exact ao,by simp,by simp⟩
  generalize h5++[HO.o (.cells ((List.replicate (4*w*v) false).flatMap encT) 1 true)]=h6 at *;clear op om oa ov oH oS o0;refine cW (enc:=encT) (l:=List.replicate (4*w*v) false) (i:=0) (a:=true) ey r0.kn rfl (by simpa using hN.1) (by simp) rfl ?_;have r1:=r0.putB (B':=(List.replicate (4*w*v) false).set 0 true) (by simp);generalize putE h6 (H.length+5) 1 encT ((List.replicate (4*w*v) false).set 0 true)=h7 at *;refine p_y ?_;have r2:RS H (h7++[HO.o (.cells [.int .i64 0] 1 true)]) w v x l (List.replicate (4*w*v) idM) ((List.replicate (4*w*v) false).set 0 true):=r1.keep (λj o _ ho=>Pre.get ⟨_,rfl⟩ ho) (by simp);have ay:WQ (H.length+6) (h7++[HO.o (.cells [.int .i64 0] 1 true)]) (.slice (some ⟨h7.length,0,some 11⟩) 1 2) [0]:=⟨h7.length,0,2,_,rfl,r1.len,ao,Sx.cut_all rfl,.inr rfl⟩;have an:=JS.start (l:=l) G;have ag:[0].length<=cntT ((List.replicate (4*w*v) false).set 0 true):=by
   rw[fV (by rw[qa7,qd0 hN.1])];simp
  generalize h7++[HO.o (.cells [.int .i64 0] 1 true)]=h8 at *;generalize Value.slice (some ⟨h7.length,0,some 11⟩) 1 2=v8 at *;generalize List.replicate (4*w*v) idM=A0 at *;generalize (List.replicate (4*w*v) false).set 0 true=B0 at *;clear r0 r1;refine eP (m:=left B0 [0]) (λm ls h'=>∃A B q vv,ls=[.v vv]/\RS H h' w v x l A B/\WQ (H.length+6) h' vv q/\JS w v l A B q (λ_ _=>True)/\q.length<=cntT B/\m=left B q) ⟨A0,B0,[0],v8,rfl,r2,ay,an,ag,rfl⟩ ?_;clear r2 ay an ag;rintro m ls h' ⟨A,B,q,vv,rfl,d,I,D,bn,rfl⟩ bU X;refine hidL ?_;refine p_x ?_;refine br I.ls ?_;cases q with
  |nil=>
   rw[p_gtr_f (by show((List.length ([]:Tx):Nat):Int)<=0;simp)]
   repeat (first|simp(disch:=omega)only[↓qXX]|refine cN (dK d.ov) rfl ?_|refine ac d.lsA.good ?_)
   exact⟨d.pre,.inl ⟨A,H.length+3,rfl,by omega,d.ol,D.good G d.la d.lb⟩⟩
  |cons y q=>
   rw[p_gtr_t (by show(0:Int)<((List.length (y :: q):Nat):Int);simp only[qa0];omega)];refine p_x ?_;refine aQ I.ls (i:=0) rfl rfl ?_;unfold encN;refine p_x ?_;refine r_tail I ?_;intro v1 aE ax;refine ac ax ?_;have f:B[y]?=some true:=D.q1 y qaN;have r:y<4*w*v:=by have:=aw f;have:=d.lb;omega
   have b0:=gS B;refine aS (σ:=Value×HL×List Mv×List Bool×List Nat) 3 (λj s=>[.v s.1,.i (Int.ofNat j)]) (λ_ s=>s.2.1) (λj s=>RS H s.2.1 w v x l s.2.2.1 s.2.2.2.1/\WQ (H.length+6) s.2.1 s.1 s.2.2.2.2/\JS w v l s.2.2.1 s.2.2.2.1 s.2.2.2.2 (λc e=>c=y->e<j)/\s.2.2.2.2.length<=cntT s.2.2.2.1/\left s.2.2.2.1 s.2.2.2.2=left B q/\s.2.2.2.1[y]?=some true) (j0:=0) (s0:=(v1,h',A,B,q)) rfl rfl (by omega) ⟨d,aE,D.pop,by show q.length<=cntT B;simp only[qa0]at bn;omega,rfl,f⟩ ?_;clear d I D aE ax f;rintro j ⟨v2,ad,S,Q,q2⟩ b1 ⟨d,I,D,O,g,f⟩ Y C;simp only at d I D O g f C;refine p_x ?_;by_cases u:j<3
   case neg=>
    obtain rfl:j=3:=by omega
    rw[p_lss_f (by show(3:Int)<=((3:Nat):Int);omega)];refine p_x ?_;refine X (left B q) _ _ ?_ ⟨S,Q,q2,v2,rfl,d,I,D.done,O,g.symm⟩;unfold left;simp only[qa0];omega
   rw[p_lss_t (by show((j:Nat):Int)<3;omega)];refine p_x ?_;have next:∀(v3:Value) (k:HL) (A3:TI) (T:Tv) (q3:Tx),RS H k w v x l A3 T->WQ (H.length+6) k v3 q3->JS w v l A3 T q3 (λc e=>c=y->e<j+1)->q3.length<=cntT T->left T q3=left B q->T[y]?=some true->Y [.v v3,.i (Int.ofNat j+1)] k:=λv3 k A3 T q3 J L a3 a4 a5 a6=>C (v3,k,A3,T,q3) u ⟨J,L,a3,a4,a5,a6⟩
   have E:∀K:Int->Prop,P1.ari .add .u8 (Int.ofNat j) 1 (@hid _ ⟨K⟩)=K (Int.ofNat j+1):=λK=>p_add8 (by show(0:Int)<=(j:Int)+1;omega) (by show(j:Int)+1<=255;omega);refine iB (p:=ptrB H.length) (cs:=[.int .i64 (.ofNat w),.int .i64 (.ofNat v),x]) (ds:=[.int .i64 (.ofNat w),.int .i64 (.ofNat v)]) (dK d.p) (by simp) rfl ?_;refine p_x ?_;refine ah (nb_c G r u) ?_;have bP:=gS Q;have bS:=d.lb;cases h:nbr w v y j with
   |none=>
    unfold ut;rw[h];refine p_x ?_;rw[E];exact next _ _ _ _ _ d I (D.skip h) O g f
   |some n=>
    unfold ut;rw[h];refine p_x ?_;obtain⟨a,ha⟩:=aH (l:=S) (i:=y) (by rw[d.la];exact r);have bm:=D.bd y a f ha;have a0:=across_c G (dK d.p) (dK d.mv) d.mp (dK d.ov) d.lsA r u h ha bm (by omega);refine oJ (nr (args:=[.int .i64 (Int.ofNat y),.int .u8 (Int.ofNat j)]) a0 rfl [.leaf (.i .i64 (Int.ofNat y)),.leaf (.i .u8 (Int.ofNat j)),.leaf (.v (ptrB H.length)),.leaf (.v (ptrB (H.length+2))),.leaf (.v (ptrB (H.length+4)))] rfl rfl rfl) ?_;have F:=(eC G r u h).1;have bl:=(eC G r u h).2.2.2.2;generalize hm:acM w l a y n j=m at *;simp only[mvl];refine p_x ?_;obtain⟨t,Z⟩:=aH (l:=Q) (i:=n) (by rw[d.lb];exact F);refine aQ d.lsB rfl Z ?_;unfold encT;refine p_x ?_;cases t with
    |true=>
     repeat (first|simp(disch:=omega)only[↓qXX,qaQ]|refine cN (dK d.ov) rfl ?_|refine ac d.lsA.good ?_)
     obtain⟨b,hb⟩:=aH (l:=S) (i:=n) (by rw[d.la];exact F);refine aQ d.lsA rfl hb ?_;unfold encM;refine p_x ?_;rw[eqsM];by_cases N:b=m
     ·rw[qdZ N];simp(disch:=omega)only[↓qXX,qaQ];rw[E];exact next _ _ _ _ _ d I (D.seen h Z ha (by rw[hb,N,hm])) O g f
     ·rw[qdY N];simp(disch:=omega)only[↓qXX,qaX];exact⟨d.pre,.inr ⟨rfl,D.tear G r u h f Z ha hb (by rw[hm];exact N)⟩⟩
    |false=>
     repeat (first|simp(disch:=omega)only[↓qXX,qaX]|refine cN (dK d.ov) rfl ?_|refine ac d.lsA.good ?_)
     refine cW (enc:=encM) (l:=S) (i:=n) (a:=m) bW d.ol rfl (by rw[d.la];exact F) d.la rfl ?_;have ap:=d.putA (A':=S.set n m) (by simp);have bx:=I.keep (h':=putE ad (H.length+3) 3 encM (S.set n m)) (λj o a7 ho=>by rw[cP (by omega)];exact ho);generalize putE ad (H.length+3) 3 encM (S.set n m)=k at *;refine p_y ?_;refine cW (enc:=encT) (l:=Q) (i:=n) (a:=true) ey ap.kn rfl (by rw[d.lb];exact F) d.lb rfl ?_;have ar:=ap.putB (B':=Q.set n true) (by simp);have bI:=bx.keep (h':=putE k (H.length+5) 1 encT (Q.set n true)) (λj o a7 ho=>by rw[cP (by omega)];exact ho);generalize putE k (H.length+5) 1 encT (Q.set n true)=h4' at *;refine p_y ?_;refine r_apQ (n:=n) bI ar.len rfl rfl (by omega) ?_;intro v5 bX bt bs a8 be;have P:=ar.keep a8 be
     repeat (first|simp(disch:=omega)only[↓qXX]|refine ac bs ?_|refine cN (dK P.ov) rfl ?_|refine ac P.lsA.good ?_)
     refine aQ P.lsA (a:=m) rfl (qaK (by rw[d.la];exact F)) ?_;unfold encM;simp(disch:=omega)only[↓qXX]
     try rw[eqsM,qdZ rfl]
     simp(disch:=omega)only[↓qXX,qaQ];rw[E];refine next _ _ _ _ _ P bt ?_ ?_ ?_ ?_
     ·rw[←hm];exact D.fresh G d.la d.lb r u h f Z ha
     ·rw[fV Z];simp;omega
     ·rw[←g];have:=gS (Q.set n true);unfold left;rw[fV Z]at this ⊢;simp only[qau,qa0,qbI,qay]at this ⊢;omega
     ·rw[qaD bl];exact f)
 exact⟨rs,h',h1,R⟩
def bw(c:Cl):Tk:=[.int .i64 c.1,.int .i64 c.2.1,.int .u8 (Int.ofNat c.2.2)]
def eW(c:Cl):(bw c).length=3:=rfl
def uq{m:Mv}{n:Int}(a:okM n m){c:Cl}{k:Int}(b:-k<=c.1/\c.1<=k/\-k<=c.2.1/\c.2.1<=k):-(n+k+1)<=(al m c).1/\(al m c).1<=n+k+1/\-(n+k+1)<=(al m c).2.1/\(al m c).2.1<=n+k+1/\(al m c).2.2<4:=by
 have d:=lin_rng a.1 b;have e:=a.2;unfold al;simp only;refine⟨?_,?_,?_,?_,jb⟩<;>split<;>omega
def vMv(m:Mv):Bool:=decide (-16384<=m.2.1/\m.2.1<=16384/\-16384<=m.2.2/\m.2.2<=16384)
def vCl(c:Cl):Bool:=decide (-4096<=c.1/\c.1<=4096/\-4096<=c.2.1/\c.2.1<=4096)
def vMv_ok{n:Int}{m:Mv}(h:okM n m)(a:vMv m=true):okM 16384 m:=by
 unfold vMv at a;rw[qdX]at a;exact⟨h.1,a.1,a.2.1,a.2.2.1,a.2.2.2,h.2.2.2.2.2⟩
def vMI(t x y:Int):Bool:=decide (t<8/\(-16384<=x/\x<=16384)/\(-16384<=y/\y<=16384)/\(x+y)%2=0)
def pS{n:Int}:Cc 53 [.i n] [.b (!decide (-16384<=n/\n<=16384))]:=by
 refine q53 rfl ?_;unfold f53;simp only[qxh];refine p_x ?_;by_cases a:n < -16384
 ·rw[p_lss_t (show n < -16384 by omega)];refine p_x ?_;rw[qdY (by omega)]
  try rfl
 ·rw[p_lss_f (show(-16384:Int)<=n by omega)];refine p_x ?_;by_cases c:n<=16384
  ·rw[p_gtr_f (by omega)];refine p_x ?_;rw[qdZ (by omega)]
   try rfl
  ·rw[p_gtr_t (by omega)];refine p_x ?_;rw[qdY (by omega)]
   try rfl
def sc{t x y:Int}(g:0<=t/\t<=255):Cc 18 [.i t,.i x,.i y] [.i (if vMI t x y then 0 else 1)]:=by
 by_cases a:vMI t x y=true
 ·rw[qd0 a];unfold vMI at a;rw[qdX]at a;exact mchk_c ⟨g.1,a.1⟩ a.2.1 a.2.2.1 a.2.2.2
 ·rw[qd1 a];unfold vMI at a;rw[qdX]at a;refine q18 rfl ?_;unfold f18;simp only[qxh];refine p_x ?_;by_cases f:8<=t
  ·rw[p_geq_t f];simp(disch:=omega)only[↓qXX]
   try rfl
  rw[p_geq_f (by omega)]
  repeat (first|simp(disch:=omega)only[↓qXX]|refine ah pS ?_)
  by_cases b:-16384<=x/\x<=16384
  case neg=>
   rw[qdY b];simp(disch:=omega)only[↓qXX,qaX]
   try rfl
  rw[qdZ b]
  repeat (first|simp(disch:=omega)only[↓qXX,qaQ]|refine ah pS ?_)
  by_cases c:-16384<=y/\y<=16384
  case neg=>
   rw[qdY c];simp(disch:=omega)only[↓qXX,qaX]
   try rfl
  rw[qdZ c];simp(disch:=omega)only[↓qXX,qaQ];have j:(x+y)%2≠0:=λe=>a ⟨by omega,b,c,e⟩;rcases Int.le_total 0 (x+y)with d|d
  ·repeat (first|simp(disch:=omega)only[↓qXX]|rw[p_rem_nn d (by omega)])
   try rfl
  ·have h:-(-(x+y)%2)≠0:=by omega
   repeat (first|simp(disch:=omega)only[↓qXX]|rw[p_rem_np d (by omega)])
   try rfl
def limited_w{m:Mv}{n:Int}(h:okM n m)(c:n<=100000):Cc 133 (mvl m) (if vMv m then mvl m++[.i 0]else [.i 0,.i 0,.i 0,.i 3]):=by
 refine q133 rfl ?_;unfold f133;simp only[qxh]
 repeat (first|simp(disch:=omega)only[↓qXX]|refine ah (sc (by have:=h.1;show 0<=(m.1:Int)/\(m.1:Int)<=255;omega)) ?_)
 have e:vMI (Int.ofNat m.1) m.2.1 m.2.2=vMv m:=by
  have a:=h.1;have b:=h.2.2.2.2.2;unfold vMI vMv;rw[decide_eq_decide];show((m.1:Int)<8/\_)↔_;omega
 rw[e];cases vMv m with
 |true=>
  simp only[if_true];simp(disch:=omega)only[↓qXX]
  try rfl
 |false=>
  simp only[qar,if_false];simp(disch:=omega)only[↓qXX]
  try rfl
def then_w{a b:Mv}(c:okM 2000 a)(d:okM 16384 b):Cc 101 (mvl a++mvl b) (if vMv (af a b)then mvl (af a b)++[.i 0]else [.i 0,.i 0,.i 0,.i 3]):=by
 have e:=dJ c d;refine q101 rfl ?_;unfold f101;simp only[qxh];simp only[mvl,qag,qaf]
 repeat (first|simp(disch:=omega)only[↓qXX]|refine ah (uo c (by omega)) ?_|refine ah (uo d (by omega)) ?_|refine ae (yQ d.1) ?_|refine ae (uE d.1) ?_|refine ah (mof_c d.1 ⟨by have:=c.2;omega,by have:=c.2;omega,by have:=c.2;omega,by have:=c.2;omega⟩) ?_|refine ae (yQ c.1) ?_|refine ae (uE c.1) ?_|refine ah (thenT_c c.1 d.1) ?_|refine ah (numT_c fE) ?_)
 have k:=e;obtain⟨_,f,g,h,j,_⟩:=k;unfold af at f g h j;simp only at f g h j;rw[p_add (by omega) (by omega),p_add (by omega) (by omega)];refine ah (limited_w (m:=af a b) e (by omega)) ?_;cases vMv (af a b)with
 |true=>
  simp only[if_true];simp only[mvl,qag,qaf];simp(disch:=omega)only[↓qXX]
  try rfl
 |false=>
  simp only[qar,if_false];simp(disch:=omega)only[↓qXX]
  try rfl
def wH{c:Cl}(b:c.2.2<4):Cc 94 (cll c) [.i (if vCl c then 0 else 1)]:=by
 by_cases a:vCl c=true
 ·rw[qd0 a];unfold vCl at a;rw[qdX]at a;exact wI ⟨a.1,a.2.1,a.2.2.1,a.2.2.2,b⟩
 ·rw[qd1 a];unfold vCl at a;rw[qdX]at a;refine q94 rfl ?_;unfold f94;simp only[qxh];simp only[cll];refine p_x ?_;by_cases d:c.1 < -4096
  ·repeat (first|simp(disch:=omega)only[↓qXX])
   try rfl
  by_cases e:4096<c.1
  ·repeat (first|simp(disch:=omega)only[↓qXX])
   try rfl
  by_cases f:c.2.1 < -4096
  ·repeat (first|simp(disch:=omega)only[↓qXX])
   try rfl
  ·have g:4096<c.2.1:=by omega
   repeat (first|simp(disch:=omega)only[↓qXX])
   try rfl
def move_w{m:Mv}(b:okM 16384 m){c:Cl}(a:-1000<=c.1/\c.1<=1000/\-1000<=c.2.1/\c.2.1<=1000/\c.2.2<4):Cc 65 (mvl m++cll c) (if vCl (al m c)then cll (al m c)++[.i 0]else [.i 0,.i 0,.i 0,.i 3]):=by
 have d:=uq b (k:=1000) ⟨a.1,a.2.1,a.2.2.1,a.2.2.2.1⟩;refine q65 rfl ?_;unfold f65;simp only[qxh];simp only[mvl,cll,qag,qaf]
 repeat (first|simp(disch:=omega)only[↓qXX]|refine ah (uo b (by omega)) ?_|refine ah (wI (c:=c) ⟨by omega,by omega,by omega,by omega,a.2.2.2.2⟩) ?_)
 refine ah (moved_c b a) ?_;simp only[cll];refine p_x ?_;refine ah (wH (c:=al m c) d.2.2.2.2) ?_;cases vCl (al m c)with
 |true=>
  simp only[if_true];simp(disch:=omega)only[↓qXX]
  try rfl
 |false=>
  simp only[qar,if_false];simp(disch:=omega)only[↓qXX]
  try rfl
def GoodA.eq{w v:Nat}{l:Ty}{A:TI}(g:Sh w v)(hA:GoodA w v l A){G:TC}(f:mo w v l G)(h0:G 0=idM):∀c,c<4*w*v->A[c]?=some (G c):=
 vO g (by rw[h0];exact hA.a0) λc e n a b d h=>by rw[f c e n a b d];exact hA.cons c e n _ a b d h
def plL(w v:Nat)(G:TC)(r:Mv):TI:=(List.range (4*w*v)).map λc=>af (G c) r
def imL(w v:Nat)(G:TC)(r:Mv):List Cl:=(List.range (4*w*v)).map λc=>al (af (G c) r) (clN w c)
def iC{w v:Nat}{G:TC}{r:Mv}{c:Nat}(h:c<4*w*v):(plL w v G r)[c]?=some (af (G c) r):=by
 unfold plL;rw[qan,qbc h];rfl
def rR{w v:Nat}{G:TC}{r:Mv}{c:Nat}(h:c<4*w*v):(imL w v G r)[c]?=some (al (af (G c) r) (clN w c)):=by
 unfold imL;rw[qan,qbc h];rfl
def take_set{α:Type}{L A:List α}{j:Nat}{a:α}(b:L[j]?=some a)(c:L.length=A.length):(L.take j++A.drop j).set j a=L.take (j+1)++A.drop (j+1):=by
 have e:=aw b;have d:(L.take j).length=j:=by rw[qaL];omega
 rw[qbJ _ _ (by omega),d,qb6,qbf (by omega),qcR,qbj,b];simp
def mid_get{α:Type}{L A:List α}{j:Nat}{a:α}(hA:A[j]?=some a)(b:L.length=A.length):(L.take j++A.drop j)[j]?=some a:=by
 have c:=aw hA;rw[qaw (by rw[qaL];omega),qaL,qa4 (by omega),qb6,qbq,qcM];exact hA
def vJ{α:Type}{L A:List α}{j:Nat}(a:L.length=A.length)(b:j<=L.length):(L.take j++A.drop j).length=A.length:=by
 rw[qau,qaL,qbQ];omega
def bT{α:Type}{e cx n:Nat}{enc:α->Tk}(b:∀a,(enc a).length=e){h:HL}{id:Nat}{L:List α}(hg:h[id]?=some (.o (.cells (L.flatMap enc) e true)))(d:n=L.length):LsH h (.slice (some ⟨id,0,tag e⟩) n cx) e enc L:=by
 subst d;have c:=aY (e:=e) (enc:=enc) (l:=L) λa _=>b a;exact⟨λa _=>b a,c,.inr ⟨id,0,cx,_,true,rfl,hg,Sx.cut_all c⟩⟩
def Ful{α:Type}(h:HL)(x:Value)(e:Nat)(enc:α->Tk)(l:List α):Prop:=∃id,x = .slice (some ⟨id,0,tag e⟩) l.length (l.length+1)/\h[id]?=some (.o (.cells (l.flatMap enc) e true))
def Ful.ls{α:Type}{h:HL}{x:Value}{e:Nat}{enc:α->Tk}{l:List α}(b:∀a,(enc a).length=e)(d:Ful h x e enc l):LsH h x e enc l:=by
 obtain⟨id,rfl,c⟩:=d;exact bT b c rfl
abbrev dN:Value:=.slice none 0 0
def allV(w:Nat)(G:TC)(r:Mv)(n:Nat):Prop:=∀c,c<n->vMv (af (G c) r)=true/\vCl (al (af (G c) r) (clN w c))=true
def allV.succ{w:Nat}{G:TC}{r:Mv}{n:Nat}(h:allV w G r n)(h1:vMv (af (G n) r)=true)(a:vCl (al (af (G n) r) (clN w n))=true):allV w G r (n+1):=λc b=>by
 by_cases e:c=n
 ·subst e;exact⟨h1,a⟩
 ·exact h c (by omega)
structure ConsO(w v:Nat)(l:Ty)(G:TC):Prop where
 g:mo w v l G
 z:G 0=idM
 ok:∀c,c<4*w*v->okM 2000 (G c)
def GoodA.consO{w v:Nat}(k:Sh w v){l:Ty}{A:TI}(h:GoodA w v l A):ConsO w v l (λc=>A.getD c idM):=by
 have o:=sh_N k;have f:∀c,c<4*w*v->A[c]?=some (A.getD c idM):=λc b=>by
  obtain⟨a,m⟩:=aH (l:=A) (i:=c) (by rw[h.len];exact b);rw[List.getD_eq_getElem?_getD,m];rfl
 refine⟨λc e n b g j=>?_,?_,λc b=>h.ok _ (qab (f c b))⟩
 ·have d:=h.cons c e n _ b g j (f c b);rw[f n (eC k b g j).1]at d;exact qat d
 ·have d:=h.a0;rw[f 0 (by omega)]at d;exact qat d
def dc{w v:Nat}(a:Sh w v){j:Nat}(e:j<4*w*v):-1000<=(clN w j).1/\(clN w j).1<=1000/\-1000<=(clN w j).2.1/\(clN w j).2.1<=1000/\(clN w j).2.2<4:=by
 have d:=sh_N a;have b:j / 4%w<=j / 4:=qdW _ _;have c:j / 4 / w<=j / 4:=qdl _ _;refine⟨?_,?_,?_,?_,qck _ (by omega)⟩
 ·exact Int.le_trans (show(-1000:Int)<=0 by decide) (qaG _)
 ·exact qdp.2 (show j / 4%w<=1000 by omega)
 ·exact Int.le_trans (show(-1000:Int)<=0 by decide) (qaG _)
 ·exact qdp.2 (show j / 4 / w<=1000 by omega)
def BothR(w v:Nat)(l:Ty)(r:Mv)(a:TB)(h':HL):Prop:=
 (a=[.v dN,.v dN,.i 11]/\¬ ∃G,mo w v l G/\G 0=idM)∨
 ∃G,ConsO w v l G/\((a=[.v dN,.v dN,.i 3]/\¬allV w G r (4*w*v))∨
  (∃b ix,a=[.v b,.v ix,.i 0]/\allV w G r (4*w*v)/\Ful h' b 3 encM (plL w v G r)/\Ful h' ix 3 bw (imL w v G r)))
def both_c{w v:Nat}(t:Sh w v){l:Ty}(hk:(l.map bR).Nodup)(ax:l.length<=1000){H:HL}{x:Value}(hl:LsH H x 3 encC l)(ar:aB cc ab 99 [.i (.ofNat w),.i (.ofNat v),.v x] (absH aa H) [.i 0] (absH aa H))
  {r:Mv} (hr:okM 16384 r) :
  ∃N h',aB cc ab 63 ([.i (.ofNat w),.i (.ofNat v),.v x]++mvl r) (absH aa H) N (absH aa h')/\Pre H h'/\BothR w v l r N h':=by
 have hN:=sh_N t;obtain⟨a5,y,c1,e,U⟩:=zm t hk ax hl;have a0:=x63 (ls:=[.i (.ofNat w),.i (.ofNat v),.v x,.i (Int.ofNat r.1),.i r.2.1,.i r.2.2]) (K:=λN h'=>Pre H h'/\BothR w v l r N h') (H:=H) (glsI (glsI (glsV hl.good (glsI (glsI (glsI gls0)))))) (by
  unfold f63;simp only[qxh]
  repeat (first|simp(disch:=omega)only[↓qXX]|refine ai ar ?_|refine ah (uo hr (by omega)) ?_)
  refine ai c1 ?_;rcases U with⟨A,id,rfl,hid,T,hA⟩|⟨rfl,ay⟩
  case inr=>
   refine p_x ?_;exact⟨e,.inl ⟨by trivial,ay⟩⟩
  refine p_x ?_;have M:=hA.consO t;generalize a4:(λc=>A.getD c idM)=G at M;have ag:=hA.eq t M.g M.z;have p:(plL w v G r).length=A.length:=by rw[hA.len];simp[plL]
  have k:(imL w v G r).length=4*w*v:=by simp[imL]
  have a2:=aw T;refine ae (x:=Int.ofNat (4*w*v)) rfl ?_;refine ae (dZ (by omega)) ?_;refine p_x ?_;rw[show(Int.ofNat (4*w*v)).toNat=4*w*v from rfl];have z0:HO.o (.cells (bc [.int .i64 0,.int .i64 0,.int .u8 0] (4*w*v)) 3 true)=HO.o (.cells ((List.replicate (4*w*v) ((0,0,0):Cl)).flatMap bw) 3 true):=by
   rw[←cU (enc:=bw) (z:=((0,0,0):Cl)) (n:=4*w*v)];rfl
  rw[z0];refine ae (x:=Int.ofNat (4*w*v)) rfl ?_;have D:(imL w v G r).length=(List.replicate (4*w*v) ((0,0,0):Cl)).length:=by rw[k];simp
  have u:(y++[HO.o (.cells ((List.replicate (4*w*v) ((0,0,0):Cl)).flatMap bw) 3 true)])[id]?=some (.o (.cells (A.flatMap encM) 3 true)):=Pre.get ⟨_,rfl⟩ T;have O:(y++[HO.o (.cells ((List.replicate (4*w*v) ((0,0,0):Cl)).flatMap bw) 3 true)])[y.length]?=some (HO.o (.cells ((List.replicate (4*w*v) ((0,0,0):Cl)).flatMap bw) 3 true)):=ao;have P:Pre H (y++[HO.o (.cells ((List.replicate (4*w*v) ((0,0,0):Cl)).flatMap bw) 3 true)]):=e.app _;have S:y.length≠id:=by omega
  have Q:H.length<=y.length:=e.len;generalize List.replicate (4*w*v) ((0,0,0):Cl)=Z at *;generalize y++[HO.o (.cells (Z.flatMap bw) 3 true)]=h2 at *;generalize y.length=iX at *;refine aS (σ:=HL) (4*w*v) (λj _=>[.i (Int.ofNat j)]) (λ_ s=>s) (λj s=>Pre H s/\s[id]?=some (.o (.cells (((plL w v G r).take j++A.drop j).flatMap encM) 3 true))/\s[iX]?=some (.o (.cells (((imL w v G r).take j++Z.drop j).flatMap bw) 3 true))/\allV w G r j) (j0:=0) (s0:=h2) rfl rfl (qaC _) ⟨P,by simpa using u,by simpa using O,λc hc=>by omega⟩ ?_;clear u O P;rintro j h hj ⟨P,u,O,B⟩ a3 F;refine p_x ?_;by_cases b:j<4*w*v
  ·rw[aD b];refine p_x ?_;have ha:=ag j b;have R:=iC (G:=G) (r:=r) b;have an:=rR (G:=G) (r:=r) b;have d:=vJ (j:=j) p (by rw[p,hA.len];omega);have f:=vJ (j:=j) D (by rw[k];omega);refine aQ (bT bW u (by rw[d,hA.len])) rfl (mid_get ha p) ?_;unfold encM;refine p_x ?_;refine ah (cellIn (qQ w v t.1 t.2.1 t.2.2.1 t.2.2.2) b) ?_;unfold cellN;refine p_x ?_;have W:okM 2000 (G j):=hA.ok _ (qab ha);have a1:=dJ W hr;refine ah (then_w W hr) ?_;cases I:vMv (af (G j) r)with
   |false=>
    simp only[qar,if_false]
    repeat (first|simp(disch:=omega)only[↓qXX]|refine cW (enc:=encM) (l:=(plL w v G r).take j++A.drop j) (i:=j) (a:=idM) bW u rfl (by rw[d,hA.len];exact b) (by rw[d,hA.len]) rfl ?_)
    exact⟨gm P hid,.inr ⟨G,M,.inl ⟨by trivial,λq=>by rw[(q j b).1]at I;cases I⟩⟩⟩
   |true=>
   simp only[if_true];have C:vMv (af (G j) r)=true:=I;have X:=vMv_ok a1 C;have E:=dc t b;have aE:=C;generalize hm:af (G j) r=m at *;simp only[mvl,qag,qaf];refine p_x ?_;refine cW (enc:=encM) (l:=(plL w v G r).take j++A.drop j) (i:=j) (a:=m) bW u rfl (by rw[d,hA.len];exact b) (by rw[d,hA.len]) rfl ?_;rw[take_set R p];have Y:(putE h id 3 encM ((plL w v G r).take (j+1)++A.drop (j+1)))[id]?=some (.o (.cells (((plL w v G r).take (j+1)++A.drop (j+1)).flatMap encM) 3 true)):=bF (aw u);have L:(putE h id 3 encM ((plL w v G r).take (j+1)++A.drop (j+1)))[iX]?=some (.o (.cells (((imL w v G r).take j++Z.drop j).flatMap bw) 3 true)):=by rw[cP S];exact O
   have ad:Pre H (putE h id 3 encM ((plL w v G r).take (j+1)++A.drop (j+1))):=gm P hid;generalize putE h id 3 encM ((plL w v G r).take (j+1)++A.drop (j+1))=h3 at *;refine p_x ?_;have J:=vJ (j:=j+1) p (by rw[p,hA.len];omega);refine aQ (a:=m) (bT bW Y (by rw[J,hA.len])) rfl ?_ ?_
   ·rw[qam (by rw[qaL,p,hA.len];omega),qbu,qd0 (by omega)];exact R
   unfold encM;refine p_x ?_;refine ah (move_w (c:=clN w j) X E) ?_;cases V:vCl (al m (clN w j))with
   |false=>
    simp only[qar,if_false]
    repeat (first|simp(disch:=omega)only[↓qXX]|refine cW (enc:=bw) (l:=(imL w v G r).take j++Z.drop j) (i:=j) (a:=((0,0,0):Cl)) eW L rfl (by rw[f,←D,k];exact b) (by rw[f,←D,k]) rfl ?_)
    exact⟨gm ad Q,.inr ⟨G,M,.inl ⟨by trivial,λq=>by
     have:=(q j b).2;rw[hm,V]at this;cases this⟩⟩⟩
   |true=>
   simp only[if_true];generalize ap:al m (clN w j)=ci at *;simp only[cll,qag,qaf];refine p_x ?_;refine cW (enc:=bw) (l:=(imL w v G r).take j++Z.drop j) (i:=j) (a:=ci) eW L rfl (by rw[f,←D,k];exact b) (by rw[f,←D,k]) rfl ?_;rw[take_set an D];refine p_x ?_;rw[aL (by omega)];refine F _ b ⟨gm ad Q,by rw[cP (qbR S)];exact Y,bF (aw L),B.succ (by rw[hm];exact aE) (by rw[hm,ap];exact V)⟩
  ·obtain rfl:j=4*w*v:=by omega
   rw[aC (qaj _)];refine p_x ?_;rw[qaH (by rw[p,hA.len];exact qaj _),qbG (by rw[hA.len];exact qaj _),qaZ]at u;rw[qaH (by rw[k];exact qaj _),qbG (by rw[←D,k];exact qaj _),qaZ]at O;have e1:(plL w v G r).length=4*w*v:=by rw[p,hA.len]
   refine⟨P,.inr ⟨G,M,.inr ⟨_,_,rfl,B,⟨id,?_,u⟩,⟨iX,?_,O⟩⟩⟩⟩
   ·rw[e1]
   ·rw[k];rfl)
 obtain⟨N,h',h2,h3,h4⟩:=a0;exact⟨N,h',h2,h3,h4⟩
section
variable {w v:Nat} {l:Ty} {A:TI} {B:Tv} {q:Tx}
def JS.begin{c0:Nat}(h:JS w v l A B q λ_ _=>True):JS w v l A B (q.filter λc=>!Nat.beq c c0) λc e=>c=c0->False:=by
 refine⟨h.a0,h.b0,λc a=>h.q1 c (qaM.1 a).1,λc e n d a f i b j=>?_,h.bd,h.un⟩;refine h.dn c e n trivial a f i b λg=>j ?_;rw[qaM];refine⟨g,?_⟩;rw[qb9,qcE];exact λe=>d (qad e)
def JS.skipP{c0 j:Nat}{P:Nat->Prop}(h:JS w v l A B q λc e=>c=c0->P e)(k:nbr w v c0 j=none):JS w v l A B q λc e=>c=c0->P e∨e=j:=by
 refine⟨h.a0,h.b0,h.q1,λc e n g f i a d o=>?_,h.bd,h.un⟩;refine h.dn c e n (λb=>?_) f i a d o;rcases g b with m|rfl
 ·exact m
 ·subst b;rw[k]at a;cases a
def JS.seenP{c0 j n:Nat}{a:Mv}{P:Nat->Prop}(h:JS w v l A B q λc e=>c=c0->P e)(t:nbr w v c0 j=some n)(m:B[n]?=some true)(k:A[c0]?=some a)(s:A[n]?=some (acM w l a c0 n j)):JS w v l A B q λc e=>c=c0->P e∨e=j:=by
 refine⟨h.a0,h.b0,h.q1,λc e x p o r b g u=>?_,h.bd,h.un⟩;by_cases f:c=c0/\e=j
 ·obtain⟨rfl,rfl⟩:=f;rw[t]at b;cases b;exact⟨m,a,k,s⟩
 ·exact h.dn c e x (λd=>(p d).resolve_right λi=>f ⟨d,i⟩) o r b g u
def JS.freshP(O:Sh w v){c0 j n:Nat}{a:Mv}{P:Nat->Prop}(h:JS w v l A B q λc e=>c=c0->P e)(W:A.length=4*w*v)(X:B.length=4*w*v)(m:c0<4*w*v)(L:j<3)(z:nbr w v c0 j=some n)(t:B[c0]?=some true)(I:B[n]?=some false)(H:A[c0]?=some a) :
  JS w v l (A.set n (acM w l a c0 n j)) (B.set n true) (q++[n]) λc e=>c=c0->P e∨e=j:=by
 obtain⟨Z,_,_,_,g5⟩:=eC O m L z;have k:(B.set n true)[n]?=some true:=qaK (by omega);have i:(A.set n (acM w l a c0 n j))[n]?=some (acM w l a c0 n j):=qaK (by omega);have p:∀c,c≠n->(B.set n true)[c]?=B[c]?:=λc g=>qaD (qbR g);have hA:∀c,c≠n->(A.set n (acM w l a c0 n j))[c]?=A[c]?:=λc g=>qaD (qbR g);have r:(0:Nat)≠n:=λe=>by have:=h.b0;rw[e,I]at this;cases this
 have M:okM (20*(cntT B:Int)) a:=h.bd c0 a t H;refine⟨by rw[hA 0 r];exact h.a0,by rw[p 0 r];exact h.b0,λc g=>?_,λc e C U g V o f N=>?_,λc D f d=>?_,λG F s c D f d=>?_⟩
 ·rcases qaz.1 g with g|g
  ·have:=h.q1 c g;by_cases b:c=n
   ·rw[b];exact k
   ·rw[p c b];exact this
  ·simp only[qaq]at g;rw[g];exact k
 ·have b:c≠n:=λe=>N (by rw[e];simp);have J:c∉q:=λY=>N (qaW _ Y);rw[p c b]at f;by_cases x:c=c0/\e=j
  ·obtain⟨rfl,rfl⟩:=x;rw[z]at o;cases o;exact⟨k,a,by rw[hA c b];exact H,i⟩
  ·obtain⟨E,Q,R,S⟩:=h.dn c e C (λu=>(U u).resolve_right λK=>x ⟨u,K⟩) g V o f J;have y:C≠n:=λT=>by rw[T,I]at E;cases E
   exact⟨by rw[p C y];exact E,Q,by rw[hA c b];exact R,by rw[hA C y];exact S⟩
 ·rw[fV I];by_cases b:c=n
  ·rw[b,i]at d;cases d;exact aO (wE O m L z M (by omega)) (by omega)
  ·rw[p c b]at f;rw[hA c b]at d;exact aO (h.bd c D f d) (by omega)
 ·by_cases b:c=n
  ·rw[b,i]at d;cases d;rw[b,F c0 j n m L z,←h.un G F s c0 a t H]
  ·rw[p c b]at f;rw[hA c b]at d;exact h.un G F s c D f d
def JS.doneP{c0:Nat}{P:Nat->Prop}(h:JS w v l A B q λc e=>c=c0->P e)(g:∀e,e<3->P e):JS w v l A B q λ_ _=>True:=
 ⟨h.a0,h.b0,h.q1,λc e n _ d a f b i=>h.dn c e n (λ_=>g e a) d a f b i,h.bd,h.un⟩
def JS.monoP{c0:Nat}{P Q:Nat->Prop}(h:JS w v l A B q λc e=>c=c0->P e)(i:∀e,Q e->P e):JS w v l A B q λc e=>c=c0->Q e:=
 ⟨h.a0,h.b0,h.q1,λc e n d a f g b j=>h.dn c e n (λa=>i e (d a)) a f g b j,h.bd,h.un⟩
end
def eK(q k:Nat):Nat:=if k=0 then 0 else if decide (q%2=0)=decide (k=1)then 1 else 2
def fW(q k:Nat):eK q k<3:=by
 unfold eK
 repeat' split
 all_goals omega
def eK_all{q:Nat}(e:Nat)(c:e<3):∃k,k<3/\eK q k=e:=by
 have a:q%2=0∨q%2=1:=by omega
 have b:e=0∨e=1∨e=2:=by omega
 rcases a with a|a<;>rcases b with rfl|rfl|rfl
 ·exact⟨0,by omega,rfl⟩
 ·exact⟨1,by omega,by simp[eK,a]⟩
 ·exact⟨2,by omega,by simp[eK,a]⟩
 ·exact⟨0,by omega,rfl⟩
 ·exact⟨2,by omega,by simp[eK,a]⟩
 ·exact⟨1,by omega,by simp[eK,a]⟩
def goP(m:Mv)(p:Int×Int):Int×Int:=(mA m.1*p.1+mB m.1*p.2+6*m.2.1,mC m.1*p.1+mD m.1*p.2+6*m.2.2)
def inX(q:Nat):Int:=match q with
 |0=>3
 |1=>5
 |2=>3
 |_=>1
def inY(q:Nat):Int:=match q with
 |0=>1
 |1=>3
 |2=>5
 |_=>3
def insP(c:Cl):Int×Int:=(6*c.1+inX c.2.2,6*c.2.1+inY c.2.2)
def atQ(x y:Int):Nat:=if y<x/\x+y<6 then 0 else if y<x then 1 else if 6<x+y then 2 else 3
def atP(p:Int×Int):Cl:=(p.1 / 6,p.2 / 6,atQ (p.1 - 6*(p.1 / 6)) (p.2 - 6*(p.2 / 6)))
def quad{q:Nat}(h:q<4):q=0∨q=1∨q=2∨q=3:=by omega
def at_go{m:Mv}{c:Cl}(a:m.1<8)(b:c.2.2<4):atP (goP m (insP c))=al m c:=by
 obtain⟨t,X,Y⟩:=m;obtain⟨x,y,q⟩:=c;simp only at a b;rcases t8 a with rfl|rfl|rfl|rfl|rfl|rfl|rfl|rfl<;>rcases quad b with rfl|rfl|rfl|rfl
 all_goals
  simp only[atP,goP,insP,inX,inY,mA,mB,mC,mD,al,qT];refine qcY ?_ (qcY ?_ ?_)
  ·simp;omega
  ·simp;omega
  ·simp only[atQ]
   repeat' split
   all_goals first|rfl|(exfalso;omega)|(exfalso;rename_i h;exact h trivial)
end Go.Am
namespace Go.Am
open Sx
def go_then{a b:Mv}(c:a.1<8)(d:b.1<8)(p:Int×Int):goP b (goP a p)=goP (af a b) p:=by
 obtain⟨s,X,Y⟩:=a;obtain⟨t,U,V⟩:=b;obtain⟨x,y⟩:=p;simp only at c d;rcases t8 c with rfl|rfl|rfl|rfl|rfl|rfl|rfl|rfl<;>rcases t8 d with rfl|rfl|rfl|rfl|rfl|rfl|rfl|rfl
 all_goals
  simp[goP,af,mulT,mA,mB,mC,mD];omega
def mat_inj{s t:Nat}(d:s<8)(e:t<8)(h1:mA s=mA t)(a:mC s=mC t)(b:mB s=mB t)(c:mD s=mD t):s=t:=by
 rcases t8 d with rfl|rfl|rfl|rfl|rfl|rfl|rfl|rfl<;>rcases t8 e with rfl|rfl|rfl|rfl|rfl|rfl|rfl|rfl
 all_goals first
  |rfl
  |(exfalso;simp[mA,mB,mC,mD]at h1 a b c)
end Go.Am
namespace Go.Am
open Sx Go.Proofs
def nbI(w v c k:Nat):Int:=match nbr w v c (eK (c%4) k)with
 |some n=>Int.ofNat n
 |none=>-1
def mirT(w v c k:Nat):Bool:=match nbr w v c (eK (c%4) k)with
 |some n=>jc 34 (cll (clN w c)++cll (clN w n)) (mvl (ofM (lnC3 (clN w c) (eK (c%4) k))))
 |none=>true
def zF(w v c k:Nat):Bool:=jc 32 [.i (.ofNat w),.i (.ofNat v),.i (.ofNat c),.i (.ofNat k)] [.i (nbI w v c k)]&&(jc 39 (cll (clN w c)++[.i (.ofNat k)]) (cll (nbC (clN w c) (eK (c%4) k)))&&(jc 36 [.i (.ofNat w),.i (.ofNat v),.i (.ofNat c),.i (.ofNat k)] [.i (.ofNat (eK (c%4) k))]&&mirT w v c k))
def tab4(w v:Nat):Bool:=(List.range (4*w*v)).all λc=>jc 35 [.i (.ofNat w),.i (.ofNat v),.i (.ofNat c)] (cll (clN w c))&&(List.range 3).all λk=>zF w v c k
def all4:∀w v:Nat,1<=w->w<=3->1<=v->v<=3->tab4 w v=true:=by
 have a:((List.range 3).all λw=>(List.range 3).all λv=>tab4 (w+1) (v+1))=true:=by kernel_rfl
 intro w v d e f g;have c:=qac.1 a (w - 1) (qae.2 (by omega));have b:=qac.1 c (v - 1) (qae.2 (by omega));rw[show w - 1+1=w by omega,show v - 1+1=v by omega]at b;exact b
def S3(w v:Nat):Prop:=1<=w/\w<=3/\1<=v/\v<=3
def S3.sh{w v:Nat}(h:S3 w v):Sh w v:=⟨h.1,by have:=h.2.1;omega,h.2.2.1,by have:=h.2.2.2;omega⟩
section
variable {w v c k:Nat}
def pv(h:S3 w v)(a:c<4*w*v):jc 35 [.i (.ofNat w),.i (.ofNat v),.i (.ofNat c)] (cll (clN w c))=true/\∀k,k<3->zF w v c k=true:=by
 have:=qac.1 (all4 w v h.1 h.2.1 h.2.2.1 h.2.2.2) c (qae.2 a);rw[qaa]at this;exact⟨this.1,λk b=>qac.1 this.2 k (qae.2 b)⟩
def fU(h:S3 w v)(a:c<4*w*v):Cc 35 [.i (.ofNat w),.i (.ofNat v),.i (.ofNat c)] (cll (clN w c)):=dw (pv h a).1 rfl (by kernel_rfl) rfl
def ur(h:S3 w v)(a:c<4*w*v)(b:k<3):Cc 32 [.i (.ofNat w),.i (.ofNat v),.i (.ofNat c),.i (.ofNat k)] [.i (nbI w v c k)]:=by
 have:=(pv h a).2 k b;unfold zF at this;rw[qaa]at this;exact dw this.1 rfl (by kernel_rfl) rfl
def yy(h:S3 w v)(a:c<4*w*v)(b:k<3):Cc 39 (cll (clN w c)++[.i (.ofNat k)]) (cll (nbC (clN w c) (eK (c%4) k))):=by
 have:=(pv h a).2 k b;unfold zF at this;rw[qaa,qaa]at this;exact dw this.2.1 rfl (by kernel_rfl) rfl
def edge25_c(h:S3 w v)(a:c<4*w*v)(b:k<3):Cc 36 [.i (.ofNat w),.i (.ofNat v),.i (.ofNat c),.i (.ofNat k)] [.i (.ofNat (eK (c%4) k))]:=by
 have:=(pv h a).2 k b;unfold zF at this;rw[qaa,qaa,qaa]at this;exact dw this.2.2.1 rfl (by kernel_rfl) rfl
def mir25_c(h:S3 w v)(a:c<4*w*v)(b:k<3){n:Nat}(d:nbr w v c (eK (c%4) k)=some n):Cc 34 (cll (clN w c)++cll (clN w n)) (mvl (ofM (lnC3 (clN w c) (eK (c%4) k)))):=by
 have:=(pv h a).2 k b;unfold zF mirT at this;rw[qaa,qaa,qaa,d]at this;exact dw this.2.2.2 rfl (by kernel_rfl) rfl
end
def of0:Int.ofNat 0=0:=rfl
def of1:Int.ofNat 1=1:=rfl
def of2:Int.ofNat 2=2:=rfl
def of3:Int.ofNat 3=3:=rfl
def of4:Int.ofNat 4=4:=rfl
def of5:Int.ofNat 5=5:=rfl
def of6:Int.ofNat 6=6:=rfl
def of7:Int.ofNat 7=7:=rfl
def tX{m:Mv}{x y:Int}(a:m.1<8)(b:-100000<=m.2.1/\m.2.1<=100000/\-100000<=m.2.2/\m.2.2<=100000)(c:-10000000<=x/\x<=10000000/\-10000000<=y/\y<=10000000):Cc 84 (mvl m++[.i x,.i y]) [.i (goP m (x,y)).1,.i (goP m (x,y)).2]:=by
 obtain⟨t,X,Y⟩:=m;simp only at a b;refine q84 rfl ?_;unfold f84;simp only[qxh];simp only[mvl,qag,qaf];rcases t8 a with rfl|rfl|rfl|rfl|rfl|rfl|rfl|rfl
 all_goals
  simp only[of0,of1,of2,of3,of4,of5,of6,of7]
  repeat (first|simp(disch:=omega)only[↓qXX]|refine gz 5 ?_)
  simp only[goP,mA,mB,mC,mD,qa9,Lf.i.injEq,and_true];constructor<;>omega
def qi{c:Cl}(a:c.2.2<4)(b:-100000<=c.1/\c.1<=100000/\-100000<=c.2.1/\c.2.1<=100000):Cc 88 (cll c) [.i (insP c).1,.i (insP c).2]:=by
 obtain⟨x,y,q⟩:=c;simp only at a b;refine q88 rfl ?_;unfold f88;simp only[qxh];simp only[cll];have d:Cc 121 [.i x,.i y,.i (Int.ofNat q)] (match q with
  |0=>[.i (6*x+3),.i (6*y+3),.i (6*x),.i (6*y),.i (6*x+6),.i (6*y)]
  |1=>[.i (6*x+3),.i (6*y+3),.i (6*x+6),.i (6*y),.i (6*x+6),.i (6*y+6)]
  |2=>[.i (6*x+3),.i (6*y+3),.i (6*x+6),.i (6*y+6),.i (6*x),.i (6*y+6)]
  |_=>[.i (6*x+3),.i (6*y+3),.i (6*x),.i (6*y+6),.i (6*x),.i (6*y)]):=by
  refine q121 rfl ?_;unfold f121;simp only[qxh];rcases quad a with rfl|rfl|rfl|rfl
  all_goals
   simp only[of0,of1,of2,of3,of4,of5,of6,of7]
   repeat (first|simp(disch:=omega)only[↓qXX] )
 rcases quad a with rfl|rfl|rfl|rfl
 all_goals
  repeat (first|simp(disch:=omega)only[↓qXX]|refine ah d ?_)
  simp only[insP,inX,inY,qa9,Lf.i.injEq,and_true];constructor<;>omega
def ry{a:Int}(h:-100000000<=a/\a<=100000000):Cc 85 [.i a,.i 6] [.i (a / 6)]:=by
 refine q85 rfl ?_;unfold f85;simp only[qxh];by_cases b:a<0
 ·repeat (first|simp(disch:=omega)only[↓qXX]|rw[p_quo_nn (by omega) (by omega) (by omega)])
  simp only[qa9,Lf.i.injEq,and_true];omega
 ·repeat (first|simp(disch:=omega)only[↓qXX]|rw[p_quo_nn (by omega) (by omega) (by omega)])
def at25_c{x y:Int}(h:-100000000<=x/\x<=100000000/\-100000000<=y/\y<=100000000):Cc 87 [.i x,.i y] (cll (atP (x,y))):=by
 refine q87 rfl ?_;unfold f87;simp only[qxh]
 repeat (first|simp(disch:=omega)only[↓qXX]|refine ah (ry (by omega)) ?_)
 have e:cll (atP (x,y))=[.i (x / 6),.i (y / 6),.i (Int.ofNat (atQ (x - 6*(x / 6)) (y - 6*(y / 6))))]:=rfl;rw[e];have g:0<=x - 6*(x / 6)/\x - 6*(x / 6)<=5:=by omega
 have j:0<=y - 6*(y / 6)/\y - 6*(y / 6)<=5:=by omega
 generalize x / 6=a at *;generalize y / 6=b at *;by_cases c:y - 6*b<x - 6*a<;>by_cases d:x - 6*a+(y - 6*b)<6<;>by_cases f:6<x - 6*a+(y - 6*b)
 all_goals
  first|(exfalso;omega)|skip
  repeat (first|simp(disch:=omega)only[↓qXX])
  try simp only[atQ,c,d,f,and_true,and_false,true_and,false_and,if_true,if_false]
  try rfl
def ik{m:Mv}{c:Cl}(a:m.1<8)(f:-100000<=m.2.1/\m.2.1<=100000/\-100000<=m.2.2/\m.2.2<=100000)(b:c.2.2<4)(g:-100000<=c.1/\c.1<=100000/\-100000<=c.2.1/\c.2.1<=100000):Cc 38 (mvl m++cll c) (cll (al m c)):=by
 refine q38 rfl ?_;unfold f38;simp only[qxh];have e:=at_go a b;have l:-1000000<=(insP c).1/\(insP c).1<=1000000/\-1000000<=(insP c).2/\(insP c).2<=1000000:=by
  obtain⟨x,y,q⟩:=c;simp only at b g;rcases quad b with rfl|rfl|rfl|rfl<;>simp only[insP,inX,inY]<;>omega
 have k:-100000000<=(goP m (insP c)).1/\(goP m (insP c)).1<=100000000/\-100000000<=(goP m (insP c)).2/\(goP m (insP c)).2<=100000000:=by
  generalize insP c=p at *;obtain⟨t,X,Y⟩:=m;obtain⟨x,y⟩:=p;simp only at a f l;rcases t8 a with rfl|rfl|rfl|rfl|rfl|rfl|rfl|rfl<;>simp only[goP,mA,mB,mC,mD]<;>omega
 have h:=qi b g;have i:=tX (m:=m) (x:=(insP c).1) (y:=(insP c).2) a f (by omega);have d:=at25_c (x:=(goP m (insP c)).1) (y:=(goP m (insP c)).2) k;have j:atP ((goP m (insP c)).1,(goP m (insP c)).2)=al m c:=e;rw[j]at d;simp only[mvl,cll,qag,qaf]at h i d ⊢
 repeat (first|simp(disch:=omega)only[↓qXX]|refine ah h ?_|refine ah i ?_|refine ah d ?_)
def eqs2I{a b c d:Int}{K:Tm}:P1.eqs [(.i a,.i b),(.i c,.i d)] (@hid _ ⟨K⟩)=K (decide (a=b/\c=d)):=by
 show K (cw _)=_;have e:cw [(.i a,.i b),(.i c,.i d)]=decide (a=b/\c=d):=by
  rw[qbH];simp[cw,gG]
 rw[e]
def yk{a b:Mv}(ha:okM 30000 a)(hb:okM 30000 b):Cc 33 (mvl a++mvl b) (mvl (af a b)):=by
 obtain⟨d,D,E,F,H,U⟩:=ha;obtain⟨q,V,W,Z,b5,b6⟩:=hb;have r:=dJ (n:=30000) (k:=30000) ⟨d,D,E,F,H,U⟩ ⟨q,V,W,Z,b5,b6⟩;obtain⟨P,g2,g3,g4,g5,_⟩:=r;refine q33 rfl ?_;unfold f33;simp only[qxh];have I:∀(x y:Int),(0<=x/\x<=6/\0<=y/\y<=6)->-1000000<=(goP a (x,y)).1/\(goP a (x,y)).1<=1000000/\-1000000<=(goP a (x,y)).2/\(goP a (x,y)).2<=1000000:=by
  intro x y h;obtain⟨t,X,Y⟩:=a;simp only at d D E F H;rcases t8 d with rfl|rfl|rfl|rfl|rfl|rfl|rfl|rfl<;>simp only[goP,mA,mB,mC,mD]<;>omega
 have o:∀(x y:Int),(0<=x/\x<=6/\0<=y/\y<=6)->Cc 84 (mvl a++[.i x,.i y]) [.i (goP a (x,y)).1,.i (goP a (x,y)).2]:=λx y h=>tX d (by omega) (by omega);have p:∀(x y:Int),(0<=x/\x<=6/\0<=y/\y<=6)->Cc 84 (mvl b++[.i (goP a (x,y)).1,.i (goP a (x,y)).2]) [.i (goP (af a b) (x,y)).1,.i (goP (af a b) (x,y)).2]:=λx y h=>by
  have:=tX (m:=b) (x:=(goP a (x,y)).1) (y:=(goP a (x,y)).2) q (by omega) (by have:=I x y h;omega);rw[show goP b ((goP a (x,y)).1,(goP a (x,y)).2)=goP (af a b) (x,y)from go_then d q (x,y)]at this;exact this
 generalize af a b=G at *;have M:goP G (0,0)=(6*G.2.1,6*G.2.2):=by simp[goP]
 have N:∀t X Y,goP (t,X,Y) (6,0)=(mA t*6+6*X,mC t*6+6*Y):=λt X Y=>by simp[goP]
 have O:∀t X Y,goP (t,X,Y) (0,6)=(mB t*6+6*X,mD t*6+6*Y):=λt X Y=>by simp[goP]
 have R:=o 0 0 (by omega);have S:=o 6 0 (by omega);have T:=o 0 6 (by omega);have w:=p 0 0 (by omega);have z:=p 6 0 (by omega);have A:=p 0 6 (by omega);obtain⟨t,X,Y⟩:=G;simp only at P g2 g3 g4 g5 M;rw[M]at w;rw[N t X Y]at z;rw[O t X Y]at A;simp only[mvl,qag,qaf]at R S T w z A ⊢;clear I o p;generalize goP a (0,0)=q0 at *;generalize goP a (6,0)=q1 at *;generalize goP a (0,6)=q2 at *
 repeat (first|simp(disch:=omega)only[↓qXX]|refine ah R ?_|refine ah S ?_|refine ah T ?_|refine ah w ?_|refine ah z ?_|refine ah A ?_)
 refine aS (σ:=Unit) 8 (λj _=>[.i (Int.ofNat j)]) (λ_ _=>_) (λj _=>j<=t) (j0:=0) (s0:=()) rfl rfl (qaC _) (qaC _) ?_;intro j _ ad ag g c;have u:j<8:=by omega
 have B:=tX (m:=(j,X,Y)) (x:=6) (y:=0) u (by show -100000<=X/\X<=100000/\-100000<=Y/\Y<=100000;omega) (by omega);have C:=tX (m:=(j,X,Y)) (x:=0) (y:=6) u (by show -100000<=X/\X<=100000/\-100000<=Y/\Y<=100000;omega) (by omega);rw[N]at B;rw[O]at C;have J:=ry (a:=6*X) (by omega);have K:=ry (a:=6*Y) (by omega);rw[show 6*X / 6=X by omega]at J;rw[show 6*Y / 6=Y by omega]at K;simp only[mvl,qag,qaf]at B C;have hn:(0:Int)<=Int.ofNat j/\Int.ofNat j<=7:=⟨qaG _,by show(j:Int)<=7;omega⟩;have Q:j≠t->g [.i (Int.ofNat j+1)] []:=λh=>c () (by omega) (by omega);have v:=λh1 h2 h3 h4=>mat_inj (s:=j) (t:=t) u P h1 h2 h3 h4
 repeat (first|simp(disch:=omega)only[↓qXX]|refine ah J ?_|refine ah K ?_|refine ah B ?_)
 by_cases f:mA j=mA t/\mC j=mC t
 ·obtain⟨f,L⟩:=f;rw[←f,←L]
  repeat (first|simp(disch:=omega)only[↓qXX]|refine ah C ?_)
  by_cases l:mB j=mB t/\mD j=mD t
  ·obtain⟨l,e4⟩:=l;obtain rfl:=v f L l e4
   repeat (first|simp(disch:=omega)only[↓qXX])
  ·rw[eqs2I,qdY (by omega)]
   repeat (first|simp(disch:=omega)only[↓qXX])
   exact Q λe=>l (by rw[e];exact⟨rfl,rfl⟩)
 ·rw[eqs2I,qdY (by omega)]
  repeat (first|simp(disch:=omega)only[↓qXX])
  exact Q λe=>f (by rw[e];exact⟨rfl,rfl⟩)
def pI{q k:Nat}(h:k<3):eK q (eK q k)=k:=by
 have b:k=0∨k=1∨k=2:=by omega
 have a:q%2=0∨q%2=1:=by omega
 rcases a with a|a<;>rcases b with rfl|rfl|rfl<;>simp[eK,a]
def nbC_inj{c:Cl}{e f:Nat}(a:c.2.2<4)(g:e<3)(i:f<3)(h:nbC c e=nbC c f):e=f:=by
 obtain⟨x,y,q⟩:=c;simp only at a;have b:e=0∨e=1∨e=2:=by omega
 have d:f=0∨f=1∨f=2:=by omega
 rcases quad a with rfl|rfl|rfl|rfl<;>rcases b with rfl|rfl|rfl<;>rcases d with rfl|rfl|rfl
 all_goals first
  |rfl
  |(exfalso;simp[nbC]at h;done)
  |(exfalso;simp[nbC]at h;omega)
def nbr_inj{w v:Nat}(i:Sh w v){c e f n:Nat}(d:c<4*w*v)(g:e<3)(h:f<3)(h1:nbr w v c e=some n)(j:nbr w v c f=some n):e=f:=by
 obtain⟨_,_,_,a,_⟩:=eC i d g h1;obtain⟨_,_,_,b,_⟩:=eC i d h j;exact nbC_inj (c:=clN w c) (qck _ (by omega)) g h (a.symm.trans b)
def kOf(l:Ty)(u e:Nat):Int:=l.foldl (λa c=>if bR c=((Int.ofNat u,Int.ofNat e):Ku)then c.2.2 else a) 0
def vD{l:Ty}{c:Crs}{u e:Nat}:kOf (l++[c]) u e=if bR c=((Int.ofNat u,Int.ofNat e):Ku)then c.2.2 else kOf l u e:=by
 unfold kOf;rw[qcF];rfl
def qk{l:Ty}(j:∀c∈l,c.2.2≠0){u e:Nat}:kOf l u e≠0↔isCr l u e=true:=by
 have f:∀(l:Ty) (a:Int),(∀c∈l,c.2.2≠0)->(l.foldl (λa c=>if bR c=((Int.ofNat u,Int.ofNat e):Ku)then c.2.2 else a) a≠0↔a≠0∨((Int.ofNat u,Int.ofNat e):Ku)∈l.map bR):=by
  intro l
  induction l with
  |nil=>intro a _;simp
  |cons c l k=>
   intro a h;rw[qb0,k _ λd i=>h d (qav _ i),qaF,qax];have g:=h c (by simp);by_cases b:bR c=((Int.ofNat u,Int.ofNat e):Ku)
   ·rw[qd0 b];exact⟨λ_=>.inr (.inl b.symm),λ_=>.inl g⟩
   ·rw[qd1 b];exact⟨λh=>h.imp id .inr,λh=>h.imp id λh=>h.resolve_left λe=>b e.symm⟩
 unfold isCr kOf;rw[qdX,f l 0 j];simp
def kAt(w v:Nat)(l:Ty)(c k:Nat):Int:=match nbr w v c (eK (c%4) k)with
 |some n=>kOf l (min c n) (eK (c%4) k)
 |none=>0
def tabL(w v:Nat)(l:Ty):Tz:=(List.range (12*w*v)).map λi=>kAt w v l (i / 3) (i%3)
def iU{w v:Nat}{l:Ty}:(tabL w v l).length=12*w*v:=by simp[tabL]
def kM{w v:Nat}{l:Ty}{c k:Nat}(a:c<4*w*v)(b:k<3):(tabL w v l)[3*c+k]?=some (kAt w v l c k):=by
 have:12*w*v=3*(4*w*v):=by rw[show 12*w*v=3*4*w*v by rfl,qcg 3 4 w,qcg 3 (4*w) v]
 unfold tabL;rw[qan,qbc (by omega)];show some (kAt w v l ((3*c+k) / 3) ((3*c+k)%3))=_;rw[show(3*c+k) / 3=c by omega,show(3*c+k)%3=k by omega]
def tabL_nil{w v:Nat}:tabL w v []=List.replicate (12*w*v) 0:=by
 unfold tabL;rw[qc3];refine⟨by simp,λx a=>?_⟩;obtain⟨i,_,rfl⟩:=qaA.1 a;unfold kAt;split<;>rfl
def tab_step{w v:Nat}(x:Sh w v){l:Ty}{u e n:Nat}{kd:Int}(G:u<4*w*v)(g:e<3)(p:nbr w v u e=some n)(E:u<n) :
  tabL w v (l++[(Int.ofNat u,Int.ofNat e,kd)])=((tabL w v l).set (3*u+eK (u%4) e) kd).set (3*n+eK (n%4) e) kd:=by
 obtain⟨J,A,_,_,K⟩:=eC x G g p;have M:=fW (u%4) e;have N:=fW (n%4) e;have H:=pI (q:=u%4) g;have I:=pI (q:=n%4) g;have B:12*w*v=3*(4*w*v):=by rw[show 12*w*v=3*4*w*v by rfl,qcg 3 4 w,qcg 3 (4*w) v]
 refine qbi λi=>?_;by_cases L:i<12*w*v
 case neg=>rw[qak (by rw[iU];omega),qak (by rw[qay,qay,iU];omega)]
 obtain⟨c,k,j,o,rfl⟩ : ∃c k,c<4*w*v/\k<3/\i=3*c+k:=⟨i / 3,i%3,by omega,by omega,by omega⟩;rw[kM j o,qa2,qa2,qay,iU,kM j o,qd0 (show 3*n+eK (n%4) e<12*w*v by omega),qd0 (show 3*u+eK (u%4) e<12*w*v by omega)];have b:∀a f:Nat,bR (Int.ofNat u,Int.ofNat e,kd)=((Int.ofNat a,Int.ofNat f):Ku)↔u=a/\e=f:=by
  intro a f;unfold bR;rw[qcp];exact⟨λh=>⟨qbw h.1,qbw h.2⟩,λh=>⟨by rw[h.1],by rw[h.2]⟩⟩
 have d:=pI (q:=c%4) o;have D:=fW (c%4) k;unfold kAt;by_cases s:3*n+eK (n%4) e=3*c+k
 ·obtain rfl:c=n:=by omega
  have:eK (c%4) k=e:=by rw[show k=eK (c%4) e by omega,I]
  rw[qd0 s,this,A];simp only;rw[vD,qd0 ((b _ _).2 ⟨by omega,rfl⟩)]
 ·rw[qd1 s];by_cases t:3*u+eK (u%4) e=3*c+k
  ·obtain rfl:c=u:=by omega
   have:eK (c%4) k=e:=by rw[show k=eK (c%4) e by omega,H]
   rw[qd0 t,this,p];simp only;rw[vD,qd0 ((b _ _).2 ⟨by omega,rfl⟩)]
  ·rw[qd1 t];cases y:nbr w v c (eK (c%4) k)with
   |none=>rfl
   |some m=>
    simp only;rw[vD,qd1 ?_];rw[b];rintro⟨O,z⟩;rw[←z]at y;have d:eK (c%4) e=k:=by rw[z];exact d
    by_cases C:c<=m
    ·have:c=u:=by omega
     subst this;omega
    ·have F:m=u:=by omega
     subst F;obtain⟨_,r,_⟩:=eC x j g y;rw[p]at r;cases r;omega
def qu{a b:Nat}{K:Ts}(h:a*b<=1000000000):P1.ari .mul .i64 (Int.ofNat a) (Int.ofNat b) (@hid _ ⟨K⟩)=K (Int.ofNat (a*b)):=by
 have e:Int.ofNat a*Int.ofNat b=Int.ofNat (a*b):=rfl;rw[p_mul (by rw[e];show(-9223372036854775808:Int)<=((a*b:Nat):Int);omega) (by rw[e];show((a*b:Nat):Int)<=9223372036854775807;omega),e]
def mul_3{b:Nat}{K:Ts}(h:b<=100000000):P1.ari .mul .i64 3 (Int.ofNat b) (@hid _ ⟨K⟩)=K (Int.ofNat (3*b)):=qu (a:=3) (by omega)
def mul_4{b:Nat}{K:Ts}(h:b<=100000000):P1.ari .mul .i64 4 (Int.ofNat b) (@hid _ ⟨K⟩)=K (Int.ofNat (4*b)):=qu (a:=4) (by omega)
def mul_12{b:Nat}{K:Ts}(h:b<=10000000):P1.ari .mul .i64 12 (Int.ofNat b) (@hid _ ⟨K⟩)=K (Int.ofNat (12*b)):=qu (a:=12) (by omega)
def tk{a b:Nat}{K:Ts}(h:a+b<=1000000000):P1.ari .add .i64 (Int.ofNat a) (Int.ofNat b) (@hid _ ⟨K⟩)=K (Int.ofNat (a+b)):=by
 have e:Int.ofNat a+Int.ofNat b=Int.ofNat (a+b):=rfl;rw[p_add (by rw[e];show(-9223372036854775808:Int)<=((a+b:Nat):Int);omega) (by rw[e];show((a+b:Nat):Int)<=9223372036854775807;omega),e]
def enc8(k:Int):Tk:=[.int .u8 k]
def jL(k:Int):(enc8 k).length=1:=rfl
def VC(w v:Nat)(c:Crs):Prop:=∃u e n:Nat,c.1=Int.ofNat u/\c.2.1=Int.ofNat e/\u<4*w*v/\e<3/\nbr w v u e=some n/\u<n/\0<=c.2.2/\c.2.2<=255
abbrev tblk(T:Tz):HO:=.o (.cells (T.flatMap enc8) 1 true)
def S3.n{w v:Nat}(h:S3 w v):4*w<=12/\4*w*v<=36/\12*w*v<=108/\w*v<=9:=by
 obtain⟨c,a,d,b⟩:=h;have:w*v<=3*3:=qdT a b;rw[qcg,qcg];omega
def if_skip{α:Type}{j k:Nat}{a b:α}(h:j≠k):(if j+1<=k then a else b)=if j<=k then a else b:=by
 by_cases c:j+1<=k
 ·rw[qd0 c,qd0 (by omega)]
 ·rw[qd1 c,qd1 (by omega)]
def pw{w v:Nat}(F:S3 w v){l:Ty}{H:HL}{x:Value}(O:LsH H x 3 encC l)(hv:∀c∈l,VC w v c)(hn:l.length<=1000) :
  aB cc ab 9 [.i (.ofNat w),.i (.ofNat v),.v x] (absH aa H) [.v (.slice (some ⟨H.length,0,tag 1⟩) (12*w*v) (12*w*v+1))] (absH aa (H++[tblk (tabL w v l)])):=by
 have S:=F.sh;obtain⟨b1,b2,b3,b4⟩:=F.n;exact xK x9 (glsI (glsI (glsV O.good gls0))) (by
  unfold f9;simp only[qxh];refine p_x ?_;rw[mul_12 (by omega)];refine p_y ?_;rw[qu (by omega)];refine p_y ?_;refine ae (dZ (by omega)) ?_;refine p_x ?_;rw[show(Int.ofNat (12*w*v)).toNat=12*w*v from rfl];have z0:HO.o (.cells (bc [.int .u8 0] (12*w*v)) 1 true)=tblk (tabL w v (l.take 0)):=by
   rw[qcJ,tabL_nil];unfold tblk;rw[←cU (enc:=enc8) (z:=0) (n:=12*w*v)];rfl
  rw[z0];refine aS (σ:=Unit) l.length (λj _=>[.i (Int.ofNat j)]) (λj _=>H++[tblk (tabL w v (l.take j))]) (λ_ _=>True) (j0:=0) (s0:=()) rfl rfl (qaC _) trivial ?_;intro i _ hi _ L b;refine p_x ?_;refine br O ?_;by_cases C:i<l.length
  case neg=>
   obtain rfl:i=l.length:=by omega
   rw[aC (qaj _)];refine p_x ?_;exact⟨by trivial,by rw[qbD]⟩
  rw[aD C];refine p_x ?_;obtain⟨c,N⟩:=aH C;have P:=O.pre (h':=H++[tblk (tabL w v (l.take i))]) ⟨_,rfl⟩;refine aQ P rfl N ?_;obtain⟨u,e,n,Z,q2,M,G,y,U,q3,q4⟩:=hv c (qab N);have s:tabL w v (l.take (i+1))=((tabL w v (l.take i)).set (3*u+eK (u%4) e) c.2.2).set (3*n+eK (n%4) e) c.2.2:=by
   rw[qbj,N];have:=tab_step (l:=l.take i) (kd:=c.2.2) S M G y U;rw[←this];show tabL w v (l.take i++[c])=_;rw[←Z,←q2]
  obtain⟨W,X,_,_,g5⟩:=eC S M G y;unfold encC;refine p_x ?_;rw[Z,q2];have an:=fW (u%4) e;have ar:=fW (n%4) e;have B:=pI (q:=u%4) G;have R:=pI (q:=n%4) G;have Y:(tabL w v (l.take i)).length=12*w*v:=iU;have b:L [.i (Int.ofNat i+1)] (H++[tblk (tabL w v (l.take (i+1)))]):=b () C trivial;generalize tabL w v (l.take i)=T at *;generalize tabL w v (l.take (i+1))=T' at *;have ad:12*w*v=3*(4*w*v):=by rw[show 12*w*v=3*4*w*v by rfl,qcg 3 4 w,qcg 3 (4*w) v]
  have eu:Int.ofNat e<=255/\(0:Int)<=Int.ofNat e:=⟨by show(e:Int)<=255;omega,qaG _⟩;refine aS (σ:=Unit) 3 (λj _=>[.i (Int.ofNat j)]) (λj _=>H++[tblk (if j<=eK (u%4) e then T else T')]) (λ_ _=>True) (j0:=0) (s0:=()) rfl (by rw[qd0 (qaC _)]) (qaC _) trivial ?_;intro j _ hj _ E f;refine p_x ?_;by_cases p:j<3
  case neg=>
   obtain rfl:j=3:=by omega
   rw[p_lss_f (show(3:Int)<=Int.ofNat 3 from qbZ _)];refine p_x ?_;rw[aL (by omega),qd1 (by omega)];exact b
  rw[p_lss_t (show Int.ofNat j<3 by show(j:Int)<3;omega)];refine p_x ?_;refine ah (ur F M p) ?_;have r:j≠eK (u%4) e->E [.i (Int.ofNat j+1)] (H++[tblk (if j<=eK (u%4) e then T else T')]):=by
   intro D;have:=f () p trivial;rw[if_skip D]at this;exact this
  cases J:nbr w v u (eK (u%4) j)with
  |none=>
   rw[show nbI w v u j = -1 by unfold nbI;rw[J]];refine p_x ?_;rw[aL (by omega)];refine r λe=>?_;rw[e,B,y]at J;cases J
  |some m=>
   rw[show nbI w v u j=Int.ofNat m by unfold nbI;rw[J]];refine p_x ?_;rw[p_lss_f (show(0:Int)<=Int.ofNat m from qaG m)];refine p_x ?_;refine ah (edge25_c F M p) ?_;refine p_x ?_;by_cases I:j=eK (u%4) e
   case neg=>
    rw[p_neq_t (λh=>I (by rw[←qbw h,pI p]))];refine p_x ?_;rw[aL (by omega)];exact r I
   rw[p_neq_f (by rw[I,B])];refine p_x ?_;have K:=J;rw[I,B,y]at K;cases K;rw[mul_3 (by omega)];refine p_y ?_;rw[tk (by omega)];refine p_y ?_;rw[qd0 (by omega)];have A:(H++[tblk T])[H.length]?=some (tblk T):=ao;refine cW (enc:=enc8) (l:=T) (i:=3*u+j) (a:=c.2.2) jL A rfl (by omega) Y rfl ?_;unfold putE;rw[dp];refine p_y ?_;have Q:(T.set (3*u+j) c.2.2).length=12*w*v:=by rw[qay,Y]
   rw[←I]at s;generalize ag:T.set (3*u+j) c.2.2=T1 at *;refine aS (σ:=Unit) 3 (λj _=>[.i (Int.ofNat j)]) (λj _=>H++[tblk (if j<=eK (n%4) e then T1 else T')]) (λ_ _=>True) (j0:=0) (s0:=()) rfl (by rw[qd0 (qaC _)]) (qaC _) trivial ?_;intro k _ ap _ V g;refine p_x ?_;by_cases d:k<3
   case neg=>
    obtain rfl:k=3:=by omega
    rw[p_lss_f (show(3:Int)<=Int.ofNat 3 from qbZ _)];refine p_x ?_;rw[aL (by omega),qd1 (by omega)];have:=f () p trivial;rw[qd1 (by omega)]at this;exact this
   rw[p_lss_t (show Int.ofNat k<3 by show(k:Int)<3;omega)];refine p_x ?_;refine ah (ur F W d) ?_;by_cases t:k=eK (n%4) e
   ·rw[show nbI w v n k=Int.ofNat u by unfold nbI;rw[t,R,X]];refine p_x ?_;rw[mul_3 (by omega)];refine p_y ?_;rw[tk (by omega)];refine p_y ?_;rw[qd0 (by omega)];have A:(H++[tblk T1])[H.length]?=some (tblk T1):=ao;refine cW (enc:=enc8) (l:=T1) (i:=3*n+k) (a:=c.2.2) jL A rfl (by omega) Q rfl ?_;unfold putE;rw[dp];refine p_y ?_;rw[aL (by omega)];have:=g () d trivial;rw[qd1 (by omega),s,←t]at this;exact this
   ·have D:nbI w v n k≠Int.ofNat u:=by
     unfold nbI;cases hy:nbr w v n (eK (n%4) k)with
     |none=>exact λh=>by cases h
     |some z=>
      intro h;obtain rfl:=qbw h;have:=nbr_inj S W (fW _ _) G hy X;exact t (by rw[←this,pI d])
    simp(disch:=omega)only[↓qXX]
    try rw[p_eql_f D]
    refine p_y ?_;rw[aL (by omega)];have:=g () d trivial;rw[if_skip t]at this;exact this)
def wy{k:Int}{a b r:Mv}(d:a.1<8)(e:b.1<8)(c:okM k r)(h:af a r=af b r):a=b:=by
 have f:(invM r).1<8:=(okM_inv c).1;have this:af (af a r) (invM r)=af (af b r) (invM r):=by rw[h]
 rw[cQ d c.1 f,cQ e c.1 f,inv_id c.1,nj d,nj e]at this;exact this
structure PS(w v:Nat)(l:Ty)(r:Mv)(O A:TI)(B:Tv)(q:Tx)(D:Nat->Nat->Prop):Prop where
 js:JS w v l A B q D
 la:A.length=4*w*v
 lb:B.length=4*w*v
 lo:O.length=4*w*v
 rel:∀(c:Nat) a,B[c]?=some true->A[c]?=some a->O[c]?=some (af a r)
def Fl(b:Bool)(q:Tx)(B:Tv)(j a:Nat):Prop:=(b=false->(∀c∈q,j<=c)/\cntT B=a)/\(b=true->a<cntT B)
abbrev o3(H:HL)(O:TI)(B:Tv)(T:Tz):HL:=H++[.o (.cells (O.flatMap encM) 3 true),.o (.cells (B.flatMap encT) 1 true),tblk T]
def o3_0{H:HL}{O:TI}{B:Tv}{T:Tz}:(o3 H O B T)[H.length]?=some (.o (.cells (O.flatMap encM) 3 true)):=by simp
def o3_1{H:HL}{O:TI}{B:Tv}{T:Tz}:(o3 H O B T)[H.length+1]?=some (.o (.cells (B.flatMap encT) 1 true)):=by simp
def o3_2{H:HL}{O:TI}{B:Tv}{T:Tz}:(o3 H O B T)[H.length+2]?=some (tblk T):=by simp
def o3_s0{H:HL}{O a:TI}{B:Tv}{T:Tz}:putE (o3 H O B T) H.length 3 encM a=o3 H a B T:=by simp[putE]
def o3_s1{H:HL}{O:TI}{B B':Tv}{T:Tz}:putE (o3 H O B T) (H.length+1) 1 encT B'=o3 H O B' T:=by
 simp[putE,qdP]
def PlR(w v:Nat)(l:Ty)(r:Mv)(H:HL)(a:TB)(h':HL):Prop:=
 (a=[.v dN,.i 0]/\¬ ∃G,mo w v l G/\G 0=idM)∨∃G T,ConsO w v l G/\a=[.v (.slice (some ⟨H.length,0,tag 3⟩) (4*w*v) (4*w*v+1)),.i 1]/\∃B,h'=o3 H (plL w v G r) B T
def PS.restart{w v:Nat}{l:Ty}{r:Mv}{O A:TI}{B:Tv}{q:Tx}{D:Nat->Nat->Prop}(h:PS w v l r O A B q D):∃q',PS w v l r O A B q' (λ_ _=>True):=by
 refine⟨(List.range (4*w*v)).filter λc=>B.getD c false,⟨h.js.a0,h.js.b0,λc a=>?_,λc e n _ a _ _ f g=>absurd ?_ g,h.js.bd,h.js.un⟩,h.la,h.lb,h.lo,h.rel⟩
 ·obtain⟨b,d⟩:=qaM.1 a;rw[qae]at b;have:c<B.length:=by rw[h.lb];exact b
  rw[List.getD_eq_getElem?_getD,qap this]at d;rw[qap this];exact congrArg some d
 ·rw[qaM,qae,List.getD_eq_getElem?_getD,f];exact⟨a,rfl⟩
def lF{w v:Nat}(U:S3 w v){l:Ty}{H:HL}{x:Value}(hl:LsH H x 3 encC l)(hv:∀c∈l,VC w v c)(a7:∀c∈l,c.2.2≠0)(hn:l.length<=1000){r:Mv}(hr:okM 20000 r) :
  ∃rs h',aB cc ab 8 ([.i (.ofNat w),.i (.ofNat v),.v x]++mvl r) (absH aa H) rs (absH aa h')/\PlR w v l r H rs h'/\Pre H h':=by
 have Q:=U.sh;obtain⟨b1,b2,b3,b4⟩:=U.n;have hN:=sh_N Q;have bn:=x8 (ls:=[.i (.ofNat w),.i (.ofNat v),.v x,.i (Int.ofNat r.1),.i r.2.1,.i r.2.2]) (K:=λrs h'=>PlR w v l r H rs h'/\Pre H h') (H:=H) (glsI (glsI (glsV hl.good (glsI (glsI (glsI gls0)))))) (by
  unfold f8;simp only[qxh];refine p_x ?_;rw[mul_4 (by omega)];refine p_y ?_;rw[qu (by omega)];refine p_y ?_;refine ae (dZ (by omega)) ?_;refine p_x ?_;rw[show(Int.ofNat (4*w*v)).toNat=4*w*v from rfl];have z0:HO.o (.cells (bc [.int .u8 0,.int .i64 0,.int .i64 0] (4*w*v)) 3 true)=HO.o (.cells ((List.replicate (4*w*v) idM).flatMap encM) 3 true):=by
   rw[←cU (enc:=encM) (z:=idM) (n:=4*w*v)];rfl
  have z1:HO.o (.cells (bc [.bool false] (4*w*v)) 1 true)=HO.o (.cells ((List.replicate (4*w*v) false).flatMap encT) 1 true):=by
   rw[←cU (enc:=encT) (z:=false) (n:=4*w*v)];rfl
  rw[z0];refine ae (dZ (by omega)) ?_;refine p_x ?_;rw[z1,p_lss_f (show(1:Int)<=Int.ofNat (4*w*v)by show(1:Int)<=((4*w*v:Nat):Int);omega)];refine p_x ?_;have V:((List.replicate (4*w*v) idM)).length=4*w*v:=by simp
  have ar:((List.replicate (4*w*v) false)).length=4*w*v:=by simp
  have e2:((H++[HO.o (.cells ((List.replicate (4*w*v) idM).flatMap encM) 3 true)])++[HO.o (.cells ((List.replicate (4*w*v) false).flatMap encT) 1 true)])=H++[HO.o (.cells ((List.replicate (4*w*v) idM).flatMap encM) 3 true),HO.o (.cells ((List.replicate (4*w*v) false).flatMap encT) 1 true)]:=by simp
  have m1:(H++[HO.o (.cells ((List.replicate (4*w*v) idM).flatMap encM) 3 true)]).length=H.length+1:=by simp
  rw[e2,m1];generalize hA:List.replicate (4*w*v) idM=A0 at *;generalize hB:List.replicate (4*w*v) false=B0 at *;refine cW (enc:=encM) (l:=A0) (i:=0) (a:=r) bW (by simp) rfl (by omega) V rfl ?_;have p0:putE (H++[HO.o (.cells (A0.flatMap encM) 3 true),HO.o (.cells (B0.flatMap encT) 1 true)]) H.length 3 encM (A0.set 0 r)=H++[HO.o (.cells ((A0.set 0 r).flatMap encM) 3 true),HO.o (.cells (B0.flatMap encT) 1 true)]:=by simp[putE]
  rw[p0];refine p_y ?_;refine cW (enc:=encT) (l:=B0) (i:=0) (a:=true) ey (by simp) rfl (by omega) ar rfl ?_;have p1:putE (H++[HO.o (.cells ((A0.set 0 r).flatMap encM) 3 true),HO.o (.cells (B0.flatMap encT) 1 true)]) (H.length+1) 1 encT (B0.set 0 true)=H++[HO.o (.cells ((A0.set 0 r).flatMap encM) 3 true),HO.o (.cells ((B0.set 0 true).flatMap encT) 1 true)]:=by simp[putE,qdP]
  rw[p1];refine p_y ?_;have hT:=pw U (hl.pre (h':=H++[HO.o (.cells ((A0.set 0 r).flatMap encM) 3 true),HO.o (.cells ((B0.set 0 true).flatMap encT) 1 true)]) ⟨_,rfl⟩) hv hn;have e3:(H++[HO.o (.cells ((A0.set 0 r).flatMap encM) 3 true),HO.o (.cells ((B0.set 0 true).flatMap encT) 1 true)])++[tblk (tabL w v l)]=o3 H (A0.set 0 r) (B0.set 0 true) (tabL w v l):=by simp
  have m2:(H++[HO.o (.cells ((A0.set 0 r).flatMap encM) 3 true),HO.o (.cells ((B0.set 0 true).flatMap encT) 1 true)]).length=H.length+2:=by simp
  rw[e3,m2]at hT;refine ai hT ?_;refine p_x ?_;have bl:PS w v l r (A0.set 0 r) A0 (B0.set 0 true) [0] λ_ _=>True:=by
   have js:=JS.start (l:=l) Q;rw[hA,hB]at js;refine⟨js,V,by rw[qay,ar],by rw[qay,V],λc a M L=>?_⟩;have N:c=0:=by
    by_cases h0:c=0
    ·exact h0
    ·rw[qaD (qbR h0),←hB,qa7]at M;split at M<;>cases M
   subst N;rw[qaK (by omega)];rw[js.a0]at L;cases L;rw[jS hr.1]
  generalize A0.set 0 r=O0 at *;generalize B0.set 0 true=B1 at *;clear p0 p1 e2 e3 m1 m2 hT z0 z1 hA hB V ar;refine eP (m:=4*w*v - cntT B1+1) (λm ls h=>∃f O A B q,ls=[.b f]/\h=o3 H O B (tabL w v l)/\PS w v l r O A B q (λ_ _=>True)/\((f=true/\m=4*w*v - cntT B+1)∨(f=false/\q=[]))) ⟨true,O0,A0,B1,[0],rfl,rfl,bl,.inl ⟨rfl,rfl⟩⟩ ?_;rintro m ls h ⟨f,O,A,B,q,rfl,rfl,d,hm⟩ bP R;refine hidL ?_;refine p_x ?_;rcases hm with⟨rfl,rfl⟩|⟨rfl,rfl⟩
  case inr=>
   refine p_x ?_;have hA:=d.js.good Q d.la d.lb;have a5:∀n,n<4*w*v->B[n]?=some true:=vO Q d.js.b0 λc e n N he hn M=>(d.js.dn c e n trivial N he hn M (by simp)).1;have hO:O=plL w v (λc=>A.getD c idM) r:=by
    refine qbi λi=>?_;by_cases hi:i<4*w*v
    ·rw[iC hi];obtain⟨a,L⟩:=aH (l:=A) (i:=i) (by rw[d.la];exact hi);rw[d.rel i a (a5 i hi) L,List.getD_eq_getElem?_getD,L];rfl
    ·rw[qak (by rw[d.lo];omega),qak (by simp[plL];omega)]
   refine⟨.inr ⟨_,tabL w v l,hA.consO Q,rfl,B,by rw[hO]⟩,⟨_,rfl⟩⟩
  refine p_x ?_;generalize an:cntT B=cnt0 at *;have a2:∃A q,PS w v l r O A B q (λ_ _=>True)/\Fl false q B 0 cnt0:=⟨A,q,d,⟨λ_=>⟨λ_ _=>qaC _,an⟩,λh=>by cases h⟩⟩;refine aS (σ:=List Mv×List Bool×Bool) (4*w*v) (λj s=>[.b s.2.2,.i (Int.ofNat j)]) (λj s=>o3 H s.1 s.2.1 (tabL w v l)) (λj s=>∃A q,PS w v l r s.1 A s.2.1 q (λ_ _=>True)/\Fl s.2.2 q s.2.1 j cnt0) (j0:=0) (s0:=(O,B,false)) rfl rfl (qaC _) a2 ?_;clear a2 d an;rintro j ⟨O,B,f⟩ hj ⟨A,q,d,y⟩ bx G;simp only at d y ⊢;refine p_x ?_;by_cases g:j<4*w*v
  case neg=>
   obtain rfl:j=4*w*v:=by omega
   rw[aC (qaj _)];refine p_x ?_;cases f with
   |false=>
    have hq:q=[]:=by
     rw[List.eq_nil_iff_forall_not_mem];intro c N;have h1:=(y.1 rfl).1 c N;have D:=aw (d.js.q1 c N);rw[d.lb]at D;omega
    subst hq;exact R 0 _ _ (by omega) ⟨false,O,A,B,[],rfl,rfl,d,.inr ⟨rfl,rfl⟩⟩
   |true=>
    obtain⟨q',be⟩:=d.restart;have h1:=y.2 rfl;have D:=gS B;rw[d.lb]at D;exact R _ _ _ (by omega) ⟨true,O,A,B,q',rfl,rfl,be,.inl ⟨rfl,rfl⟩⟩
  rw[aD g];refine p_x ?_;obtain⟨t,I⟩:=aH (l:=B) (i:=j) (by rw[d.lb];exact g);have T:∀(O:TI) (B:Tv),B.length=4*w*v->LsH (o3 H O B (tabL w v l)) (.slice (some ⟨H.length+1,0,tag 1⟩) (4*w*v) (4*w*v+1)) 1 encT B:=λO B M=>bT ey o3_1 M.symm;have ay:∀(O:TI) (B:Tv),O.length=4*w*v->LsH (o3 H O B (tabL w v l)) (.slice (some ⟨H.length,0,tag 3⟩) (4*w*v) (4*w*v+1)) 3 encM O:=λO B M=>bT bW o3_0 M.symm;have bs:∀(O:TI) (B:Tv),LsH (o3 H O B (tabL w v l)) (.slice (some ⟨H.length+2,0,tag 1⟩) (12*w*v) (12*w*v+1)) 1 enc8 (tabL w v l):=λO B=>bT jL o3_2 iU.symm;cases t with
  |false=>
   refine gz 2 ?_;refine p_x ?_;refine aQ (T O B d.lb) rfl I ?_;unfold encT;refine p_x ?_;rw[aL (by omega)];refine G (O,B,f) g ⟨A,q,d,⟨λh=>⟨λc N=>?_,(y.1 h).2⟩,y.2⟩⟩;have h1:=(y.1 h).1 c N;have D:=d.js.q1 c N;have:c≠j:=λe=>by rw[e,I]at D;cases D
   omega
  |true=>
  have a3:∃A q,PS w v l r O A B q (λc e=>c=j->∃F,F<0/\eK (j%4) F=e)/\Fl f q B (j+1) cnt0/\B[j]?=some true:=by
   refine⟨A,q.filter λc=>!Nat.beq c j,⟨(d.js.begin (c0:=j)).monoP λe h=>?_,d.la,d.lb,d.lo,d.rel⟩,⟨λh=>⟨λc N=>?_,(y.1 h).2⟩,y.2⟩,I⟩
   ·obtain⟨F,h,_⟩:=h;omega
   ·obtain⟨h1,D⟩:=qaM.1 N;have U:=(y.1 h).1 c h1;have:c≠j:=λe=>by subst e;simp at D
    omega
  refine aS (σ:=List Mv×List Bool×Bool) 3 (λk s=>[.b s.2.2,.i (Int.ofNat k)]) (λk s=>o3 H s.1 s.2.1 (tabL w v l)) (λk s=>∃A q,PS w v l r s.1 A s.2.1 q (λc e=>c=j->∃F,F<k/\eK (j%4) F=e)/\Fl s.2.2 q s.2.1 (j+1) cnt0/\s.2.1[j]?=some true) (j0:=0) (s0:=(O,B,f)) rfl rfl (qaC _) a3 ?_;clear a3 I d y;rintro k ⟨O,B,f⟩ hk ⟨A,q,d,y,I⟩ bI u;simp only at d y I ⊢;refine p_x ?_;by_cases J:k<3
  case neg=>
   obtain rfl:k=3:=by omega
   rw[p_lss_f (show(3:Int)<=Int.ofNat 3 from qbZ _)];refine p_x ?_;rw[aL (by omega)];exact G (O,B,f) g ⟨A,q,⟨d.js.doneP λe he=>by obtain⟨k,h1,D⟩:=eK_all (q:=j%4) e he;exact⟨k,h1,D⟩,d.la,d.lb,d.lo,d.rel⟩,y⟩
  rw[p_lss_t (show Int.ofNat k<3 by show(k:Int)<3;omega)];refine p_x ?_;refine aQ (T O B d.lb) rfl I ?_;unfold encT;refine p_x ?_;refine ah (ur U g J) ?_;have C:=fW (j%4) k;have E:∀(P:Nat->Prop),(∀e,P e↔(∃F,F<k/\eK (j%4) F=e)∨e=eK (j%4) k)->∀e,(∃F,F<k+1/\eK (j%4) F=e)->P e:=by
   rintro P d e ⟨F,h1,D⟩;refine(d e).2 ?_;by_cases C:F=k
   ·subst C;exact .inr D.symm
   ·exact .inl ⟨F,by omega,D⟩
  cases S:nbr w v j (eK (j%4) k)with
  |none=>
   rw[show nbI w v j k = -1 by unfold nbI;rw[S]];refine p_x ?_;rw[aL (by omega)];exact u (O,B,f) J ⟨A,q,⟨(d.js.skipP S).monoP (E _ λ_=>Iff.rfl),d.la,d.lb,d.lo,d.rel⟩,y,I⟩
  |some n=>
  rw[show nbI w v j k=Int.ofNat n by unfold nbI;rw[S]];obtain⟨g1,g2,g3,g4,g5⟩:=eC Q g C S;refine p_x ?_;rw[p_lss_f (show(0:Int)<=Int.ofNat n from qaG n)];refine p_x ?_;obtain⟨a,L⟩:=aH (l:=A) (i:=j) (by rw[d.la];exact g);have a4:=d.rel j a I L;have aE:okM 2000 a:=aO (d.js.bd j a I L) (by have:=gS B;rw[d.lb]at this;omega);refine aQ (ay O B d.lo) rfl a4 ?_;unfold encM;refine p_x ?_;rw[mul_3 (by omega)];refine p_y ?_;rw[tk (by omega)];refine p_y ?_;refine aQ (bs O B) rfl (kM g J) ?_;unfold enc8;refine p_x ?_;have a1:kAt w v l j k=kOf l (min j n) (eK (j%4) k):=by unfold kAt;rw[S]
  have a9:okM 30000 (af a r):=aO (dJ aE hr) (by omega);have a8:okM 3000 (acM w l a j n (eK (j%4) k)):=aO (wE Q g C S aE (by omega)) (by omega);obtain⟨W,hW⟩ : ∃W,W=af (acM w l a j n (eK (j%4) k)) r:=⟨_,rfl⟩;obtain⟨tn,p⟩:=aH (l:=B) (i:=n) (by rw[d.lb];exact g1);obtain⟨b,X⟩:=aH (l:=A) (i:=n) (by rw[d.la];exact g1);by_cases ad:kAt w v l j k=0
  case' pos=>
   have ax:isCr l (min j n) (eK (j%4) k)=false:=by
    rw[←qaU,←qk a7,←a1];exact λh=>h ad
   have e1:af a r=W:=by rw[hW];unfold acM;rw[qd1 (by rw[ax];simp)]
   rw[p_neq_f ad,e1];simp(disch:=omega)only[↓qXX]
  case' neg=>
   have ax:isCr l (min j n) (eK (j%4) k)=true:=by
    rw[←qk a7,←a1];exact ad
   have e1:af (ofM (lnC3 (clN w j) (eK (j%4) k))) (af a r)=W:=by
    rw[hW];unfold acM;rw[qd0 ax,(vM Q g C S).2,cQ (uz _) aE.1 hr.1]
   have ap:=ln_ok Q g C;have c1:=fU U g;have c2:=fU U g1;have c3:=mir25_c U g J S;have c4:=yk (aO (xA (n:=10) ⟨ap.2.2.1,ap.2.2.2⟩) (by omega)) a9;rw[e1]at c4;simp only[mvl,cll,qag,qaf]at c1 c2 c3 c4;rw[p_neq_t ad];refine p_x ?_;refine ah c1 ?_;refine p_x ?_;refine ah c2 ?_;refine p_x ?_;refine ah c3 ?_;refine p_x ?_;refine aQ (ay O B d.lo) rfl a4 ?_;unfold encM;refine p_x ?_;refine ah c4 ?_;simp(disch:=omega)only[↓qXX]
  all_goals
   refine aQ (T O B d.lb) rfl p ?_;unfold encT;cases tn with
   |true=>
    simp(disch:=omega)only[↓qXX,qaQ,qaX];refine aQ (ay O B d.lo) rfl (d.rel n b p X) ?_;unfold encM;simp(disch:=omega)only[↓qXX,qaQ,qaX];rw[eqsM];have bt:okM 2000 b:=aO (d.js.bd n b p X) (by have:=gS B;rw[d.lb]at this;omega);by_cases Z:af b r=W
    ·have M:b=acM w l a j n (eK (j%4) k):=wy bt.1 a8.1 hr (Z.trans hW);rw[qdZ Z];simp(disch:=omega)only[↓qXX,qaQ,qaX];refine aQ (T O B d.lb) rfl p ?_;unfold encT;simp(disch:=omega)only[↓qXX,qaQ,qaX];rw[aL (by omega)];exact u (O,B,f) J ⟨A,q,⟨(d.js.seenP S p L (by rw[←M];exact X)).monoP (E _ λ_=>Iff.rfl),d.la,d.lb,d.lo,d.rel⟩,y,I⟩
    ·rw[qdY Z];simp(disch:=omega)only[↓qXX,qaQ,qaX];refine⟨.inl ⟨by trivial,?_⟩,⟨_,rfl⟩⟩;exact d.js.tear Q g C S I p L X λh=>Z (by rw[h,hW])
   |false=>
    simp(disch:=omega)only[↓qXX,qaQ,qaX];refine aQ (T O B d.lb) rfl p ?_;unfold encT;simp(disch:=omega)only[↓qXX,qaQ,qaX];refine cW (enc:=encM) (l:=O) (i:=n) (a:=W) bW o3_0 rfl (by rw[d.lo];exact g1) d.lo rfl ?_;rw[o3_s0]
    try simp(disch:=omega)only[↓qXX,qaQ,qaX]
    refine cW (enc:=encT) (l:=B) (i:=n) (a:=true) ey o3_1 rfl (by rw[d.lb];exact g1) d.lb rfl ?_;rw[o3_s1]
    try simp(disch:=omega)only[↓qXX,qaQ,qaX]
    rw[aL (by omega)];have bm:=fV p;refine u (O.set n W,B.set n true,true) J ⟨A.set n (acM w l a j n (eK (j%4) k)),q++[n],⟨(d.js.freshP Q d.la d.lb g C S I p L).monoP (E _ λ_=>Iff.rfl),by rw[qay,d.la],by rw[qay,d.lb],by rw[qay,d.lo],λc a' a6 Y=>?_⟩,⟨λh=>(by cases h),λ_=>?_⟩,?_⟩
    ·by_cases ag:n=c
     ·subst ag;rw[qaK (by rw[d.la];exact g1)]at Y;rw[qaK (by rw[d.lo];exact g1)];cases Y;rw[hW]
     ·rw[qaD ag]at a6 Y ⊢;exact d.rel c a' a6 Y
    ·show cnt0<cntT (B.set n true);rw[bm];cases f with
     |false=>have:=(y.1 rfl).2;omega
     |true=>have:=y.2 rfl;omega
    ·show(B.set n true)[j]?=some true;rw[qaD g5];exact I)
 obtain⟨rs,h',D,U,h4⟩:=bn;exact⟨rs,h',D,U,h4⟩
abbrev Stk:=Cl×Value
def enc4(s:Stk):Tk:=bw s.1++[s.2]
def mO(s:Stk):(enc4 s).length=4:=rfl
def StL(h:HL)(x:Value)(L:List (Cl×List Nat)):Prop:=∃M:List Stk,LsH h x 4 enc4 M/\M.length=L.length/\∀(i:Nat) m,M[i]?=some m->∃l,L[i]?=some (m.1,l)/\LsH h m.2 1 encN l
def StL.pre{h h':HL}{x:Value}{L:List (Cl×List Nat)}(j:StL h x L)(a:Pre h h'):StL h' x L:=by
 obtain⟨M,b,c,d⟩:=j;refine⟨M,b.pre a,c,λi m g=>?_⟩;obtain⟨l,e,f⟩:=d i m g;exact⟨l,e,f.pre a⟩
def rK(w v:Nat):List (Cl×List Nat):=(List.range (4*w*v)).map λi=>(clN w i,[i])
def flatL_get{w v i:Nat}(h:i<4*w*v):(rK w v)[i]?=some (clN w i,[i]):=by
 unfold rK;rw[qan,qbc h];rfl
def tabEk(w v c k:Nat):Bool:=match nbr w v c (eK (c%4) k)with
 |some n=>jc 60 [.i (.ofNat w),.i (.ofNat v),.i (.ofNat c),.i (.ofNat n)] [.i (.ofNat (eK (c%4) k))]
 |none=>true
def allE:∀w v:Nat,1<=w->w<=3->1<=v->v<=3->((List.range (4*w*v)).all λc=>(List.range 3).all λk=>tabEk w v c k)=true:=by
 have a:((List.range 3).all λw=>(List.range 3).all λv=>(List.range (4*(w+1)*(v+1))).all λc=>(List.range 3).all λk=>tabEk (w+1) (v+1) c k)=true:=by kernel_rfl
 intro w v e f g h;have d:=qac.1 a (w - 1) (qae.2 (by omega));have b:=qac.1 d (v - 1) (qae.2 (by omega));rw[show w - 1+1=w by omega,show v - 1+1=v by omega]at b;exact b
def edge28_c{w v c k n:Nat}(h:S3 w v)(a:c<4*w*v)(b:k<3)(d:nbr w v c (eK (c%4) k)=some n):Cc 60 [.i (.ofNat w),.i (.ofNat v),.i (.ofNat c),.i (.ofNat n)] [.i (.ofNat (eK (c%4) k))]:=by
 have:=qac.1 (qac.1 (allE w v h.1 h.2.1 h.2.2.1 h.2.2.2) c (qae.2 a)) k (qae.2 b);unfold tabEk at this;rw[d]at this;exact dw this rfl (by kernel_rfl) rfl
def gtC(a b:Crs):Bool:=decide (b.1<a.1)||(decide (a.1=b.1)&&decide (b.2.1<a.2.1))
def SorC(l:Ty):Prop:=l.Pairwise λa b=>gtC a b=false
def yN{a b:Crs}:gtC a b=false↔a.1<b.1∨(a.1=b.1/\a.2.1<=b.2.1):=by
 unfold gtC;rw[qb2,Bool.and_eq_false_iff];simp only[decide_eq_false_iff_not];omega
def gtC_t{a b:Crs}:gtC a b=true↔b.1<a.1∨(a.1=b.1/\b.2.1<a.2.1):=by
 unfold gtC;rw[qaS,qaa];simp only[qdX]
def sor_ins{A B:Ty}{x:Crs}(h:SorC (A++B))(h1:∀a∈A,gtC a x=false)(e:∀b∈B,gtC b x=true):SorC (A++x :: B):=by
 unfold SorC at *;rw[qcf]at h ⊢;refine⟨h.1,qbb.2 ⟨λb c=>?_,h.2.1⟩,λa d b c=>?_⟩
 ·have:=gtC_t.1 (e b c);exact yN.2 (by omega)
 ·rcases qax.1 c with rfl|c
  ·exact h1 a d
  ·exact h.2.2 a d b c
def ej{α:Type}{h:HL}{id e:Nat}{enc:α->Tk}{l l':List α}:putE (putE h id e enc l) id e enc l'=putE h id e enc l':=by
 unfold putE;rw[qdQ]
def ordered_c{H:HL}{id cx:Nat}{l:Ty}(hid:H[id]?=some (.o (.cells (l.flatMap encC) 3 true)))(hn:l.length<=1000) :
  ∃l',aB cc ab 61 [.v (.slice (some ⟨id,0,tag 3⟩) l.length cx)] (absH aa H) [.v (.slice (some ⟨id,0,tag 3⟩) l.length cx)] (absH aa (putE H id 3 encC l'))/\l'.Perm l/\SorC l':=by
 have w:=aw hid;have s:∀c:Crs,(encC c).length=3:=λ_=>rfl;have N:∀L:List Crs,L.length=l.length->LsH (putE H id 3 encC L) (.slice (some ⟨id,0,tag 3⟩) l.length cx) 3 encC L:=λL h=>bT s (bF w) h.symm;have W:=x61 (ls:=[.v (.slice (some ⟨id,0,tag 3⟩) l.length cx)]) (K:=λrs Y=>rs=[.v (.slice (some ⟨id,0,tag 3⟩) l.length cx)]/\∃l',Y=putE H id 3 encC l'/\l'.Perm l/\SorC l') (H:=H) (glsV (bT s hid rfl).good gls0) (by
  unfold f61;simp only[qxh];refine p_x ?_;have U:putE H id 3 encC l=H:=bD hid;refine aS (σ:=List Crs) (max 1 l.length) (λj _=>[.i (Int.ofNat j)]) (λ_ L=>putE H id 3 encC L) (λj L=>L.Perm l/\1<=j/\SorC (L.take j)) (j0:=1) (s0:=l) rfl U.symm (by omega) ⟨qca _,qaj _,?_⟩ ?_
  ·cases l with
   |nil=>exact .nil
   |cons a l=>exact qbb.2 ⟨λ_ h=>(by cases h),.nil⟩
  intro i L hi ⟨p,hi1,k⟩ self hself;have D:L.length=l.length:=p.length_eq;refine p_x ?_;refine br (N L D) ?_;rw[D];by_cases T:i<l.length
  case neg=>
   rw[aC (by omega)];refine p_x ?_;rw[qaH (by omega)]at k;exact⟨by trivial,L,rfl,p,k⟩
  rw[aD T];refine p_x ?_;obtain⟨X,G⟩:=aH (l:=L) (i:=i) (by omega);have n:L=L.take i++X :: []++L.drop (i+1):=by
   conv=>lhs;rw[←qbv i L]
   rw[qbf (by omega)];have:L[i]'(by omega)=X:=by rw[qap (by omega)]at G;exact qat G
   rw[this];simp
  refine eP (m:=i) (λm ls h=>∃(A:Ty) (x:Crs) (B R:Ty),ls=[.i (Int.ofNat A.length)]/\m=A.length/\h=putE H id 3 encC (A++x :: B++R)/\(A++x :: B++R).Perm l/\SorC (A++B)/\(∀b∈B,gtC b x=true)/\A.length+B.length=i)
   ⟨L.take i,X,[],L.drop (i+1),by rw[qaL,qa4 (by omega)],by rw[qaL,qa4 (by omega)],by rw[←n],by rw[←n];exact p,by simpa using k,λb M=>(by cases M),by rw[qaL,qa4 (by omega)];rfl⟩ ?_
  clear n G k p D;rintro m ls h ⟨A,x,B,R,rfl,rfl,rfl,p,k,Z,P⟩ I t;refine hidL ?_;refine p_x ?_;have D:(A++x :: B++R).length=l.length:=p.length_eq;have q:(∀a∈A,gtC a x=false)->self [.i (Int.ofNat i+1)] (putE H id 3 encC (A++x :: B++R)):=λh=>hself _ (by omega) ⟨p,by omega,by
   rw[qcz (by simp;omega),qaH (by simp;omega)];exact sor_ins k h Z⟩
  rcases List.eq_nil_or_concat A with rfl|⟨d,y,rfl⟩
  ·rw[p_gtr_f (show Int.ofNat ([]:Ty).length<=0 from qbZ _)];refine p_x ?_;rw[aL (by omega)];exact q λa E=>(by cases E)
  rw[List.concat_eq_append]at *;have hk:(d++[y]).length=d.length+1:=by simp
  rw[hk]at P t ⊢;have u:gtC y x=false->∀a∈d++[y],gtC a x=false:=by
   intro h a E;rcases qaz.1 E with E|E
   ·have J:gtC a y=false:=by
     unfold SorC at k;rw[qai,qcf]at k;exact k.2.2 a E y (by simp)
    have J:=yN.1 J;have h:=yN.1 h;exact yN.2 (by omega)
   ·rw[qaq.1 E];exact h
  have C:(d++[y]++x :: B++R)[d.length]?=some y:=by simp
  have z:(d++[y]++x :: B++R)[d.length+1]?=some x:=by
   rw[qai,qaw (by simp)];simp
  have g:=N _ D;have hg:=bF (l:=d++[y]++x :: B++R) (e:=3) (enc:=encC) w;rw[p_gtr_t (show(0:Int)<Int.ofNat (d.length+1)by show(0:Int)<((d.length+1:Nat):Int);omega)];have f:d.length+1<=4294967296:=by omega
  refine p_x ?_;rw[ja (by omega) f];refine p_y ?_;refine bp (cs:=[.int .i64 y.1]) g rfl C rfl (by omega) ?_;refine p_x ?_;refine bp (cs:=[.int .i64 x.1]) g rfl z rfl (by omega) ?_;refine p_x ?_;have F:gtC y x=true->I [.i (Int.ofNat d.length)] (putE H id 3 encC (d++x :: (y :: B)++R)):=λh=>t d.length _ _ (by omega) ⟨d,x,y :: B,R,rfl,rfl,rfl,by
   refine List.Perm.trans ?_ p;simp only[qai,qag,qaf];exact qcm _ (List.Perm.swap _ _ _),by rw[qai]at k;exact k,λb M=>by
   rcases qax.1 M with rfl|M
   ·exact h
   ·exact Z b M,by simp;omega⟩
  have V:((d++[y]++x :: B++R).set d.length x).set (d.length+1) y=d++x :: (y :: B)++R:=by
   simp only[qai,qag,qaf];rw[qbJ _ _ (qaj _),qbJ _ _ (by omega),qb6,show d.length+1 - d.length=1 by omega];rfl
  have S:((d++[y]++x :: B++R).set d.length x).length=l.length:=by rw[qay,D]
  have ad:=aw z;have Q:(putE (putE H id 3 encC (d++[y]++x :: B++R)) id 3 encC ((d++[y]++x :: B++R).set d.length x))[id]?=some (.o (.cells (((d++[y]++x :: B++R).set d.length x).flatMap encC) 3 true)):=by
   rw[ej];exact bF w
  by_cases r:gtC y x=true
  case neg=>
   have r:=qcE.2 r;rcases yN.1 r with J|⟨J,O⟩
   ·rw[p_gtr_f (by omega)];refine p_x ?_;rw[ja (by omega) f];refine p_y ?_;refine bp (cs:=[.int .i64 y.1]) g rfl C rfl (by omega) ?_;refine p_x ?_;refine bp (cs:=[.int .i64 x.1]) g rfl z rfl (by omega) ?_;simp(disch:=omega)only[↓qXX]
    try rw[p_eql_f (by omega)]
    refine p_y ?_;rw[aL (by omega)];exact q (u r)
   ·rw[p_gtr_f (by omega)];refine p_x ?_;rw[ja (by omega) f];refine p_y ?_;refine bp (cs:=[.int .i64 y.1]) g rfl C rfl (by omega) ?_;refine p_x ?_;refine bp (cs:=[.int .i64 x.1]) g rfl z rfl (by omega) ?_;simp(disch:=omega)only[↓qXX]
    try rw[p_eql_t (by omega)]
    refine p_y ?_;rw[ja (by omega) f];refine p_y ?_;refine bp (cs:=[.int .u8 y.2.1]) g rfl C rfl (by omega) ?_;refine p_x ?_;refine bp (cs:=[.int .u8 x.2.1]) g rfl z rfl (by omega) ?_;simp(disch:=omega)only[↓qXX]
    try rw[p_gtr_f (by omega)]
    refine p_y ?_;rw[aL (by omega)];exact q (u r)
  rcases gtC_t.1 r with J|⟨J,O⟩
  case' inl=>
   rw[p_gtr_t (by omega)];simp(disch:=omega)only[↓qXX]
  case' inr=>
   rw[p_gtr_f (by omega)];refine p_x ?_;rw[ja (by omega) f];refine p_y ?_;refine bp (cs:=[.int .i64 y.1]) g rfl C rfl (by omega) ?_;refine p_x ?_;refine bp (cs:=[.int .i64 x.1]) g rfl z rfl (by omega) ?_;simp(disch:=omega)only[↓qXX]
   try rw[p_eql_t (by omega)]
   refine p_y ?_;rw[ja (by omega) f];refine p_y ?_;refine bp (cs:=[.int .u8 y.2.1]) g rfl C rfl (by omega) ?_;refine p_x ?_;refine bp (cs:=[.int .u8 x.2.1]) g rfl z rfl (by omega) ?_;simp(disch:=omega)only[↓qXX]
   try rw[p_gtr_t (by omega)]
   try simp(disch:=omega)only[↓qXX]
  all_goals
   rw[ja (by omega) f];refine p_y ?_;refine aQ g rfl z ?_;rw[show encC x=[.int .i64 x.1,.int .u8 x.2.1,.int .u8 x.2.2]from rfl];refine p_x ?_;rw[ja (by omega) f];refine p_y ?_;refine aQ g rfl C ?_;rw[show encC y=[.int .i64 y.1,.int .u8 y.2.1,.int .u8 y.2.2]from rfl];refine p_x ?_;refine cW (enc:=encC) (i:=d.length) (a:=x) s hg rfl (by omega) D rfl ?_;refine p_y ?_;refine cW (enc:=encC) (i:=d.length+1) (a:=y) s Q rfl (by omega) S rfl ?_;rw[ej,ej,V];refine p_y ?_;rw[ja (by omega) f];rw[qcS];exact F r)
 obtain⟨rs,Y,O,rfl,l',rfl,h3,h4⟩:=W;exact⟨l',O,h3,h4⟩
abbrev Tr8:=Int×Int×Int
def pL(p:Tr8):Tk:=[.int .u8 p.1,.int .u8 p.2.1,.int .u8 p.2.2]
def tL(p:Tr8):(pL p).length=3:=rfl
def okT8(p:Tr8):Prop:=0<=p.1/\p.1<=255/\0<=p.2.1/\p.2.1<=255/\0<=p.2.2/\p.2.2<=255
def qG{h:HL}{v:Value}{l:List Tr8}{i o:Nat}{a:Tr8}{n:Int}{cs:Tk}{K:Te}(s:LsH h v 3 pL l)(r:n=Int.ofNat i)(k:l[i]?=some a)(u:o<3)(b:cs=((pL a).drop o).take 1)(m:K cs) :
  P1.opt (idS 3 v n) (@hid _ ⟨λx=>P1.opt (idP 3 1 x (Int.ofNat o)) (@hid _ ⟨λy=>P1.chk y (@hid _ ⟨P1.peek (.lg cc 1 y) h (@hid _ ⟨K⟩)⟩)⟩)⟩):=by
 subst r b;obtain⟨p,g,d⟩:=s.at k;obtain⟨q,j,f⟩:=d.fd o 1 (by rw[tL];omega);refine ae g (ae (x:=q) ?_ (ac f.good (gi (f.lg ?_) m)))
 ·obtain⟨id,w,z,e,t,rfl,_,_⟩:=d;have c:o=0∨o=1∨o=2:=by omega
  rcases c with rfl|rfl|rfl<;>· rw[←j];rfl
 ·rw[qaL,qbQ,tL];omega
def VK(w v:Nat)(c:Crs):Prop:=VC w v c/\1<=c.2.2/\c.2.2<=3
def uM{w v:Nat}(k:Sh w v){l:Ty}{G m:TC}(h:ConsO w v l G)(d:ConsO w v l m){c:Nat}(b:c<4*w*v):G c=m c:=by
 have r:=sh_N k;have hA:GoodA w v l ((List.range (4*w*v)).map G):=by
  have j:∀c,c<4*w*v->((List.range (4*w*v)).map G)[c]?=some (G c):=λc b=>by rw[qan,qbc b];rfl
  refine⟨by simp,by rw[j 0 (by omega),h.z],λa f=>?_,λc e n a b o p f=>?_⟩
  ·obtain⟨i,q,rfl⟩:=qaA.1 f;exact h.ok i (qae.1 q)
  ·rw[j c b]at f;cases f;rw[j n (eC k b o p).1,h.g c e n b o p]
 have:=hA.eq k d.g d.z c b;rw[qan,qbc b]at this;exact qat this
def chkC_ok{w v:Nat}{l:Ty}(m:∀c∈l,VK w v c)(d:l.Pairwise λa b=>ltC a b=true):chkC (Int.ofNat w) (Int.ofNat v) l=0:=by
 have s:l.all isK=true:=qac.2 λc h=>by
  have:=(m c h).2;unfold isK;rw[qaa];exact⟨qdZ this.1,qdZ this.2⟩
 have t:l.all (unC (Int.ofNat w) (Int.ofNat v))=true:=qac.2 λc h=>by
  obtain⟨u,e,n,y,z,B,A,r,d,_⟩:=(m c h).1;unfold unC isUn;rw[y,z];have o:(0:Int)<=Int.ofNat u:=qaG u;have p:Int.ofNat u<4*Int.ofNat w*Int.ofNat v:=show(u:Int)<((4*w*v:Nat):Int)by omega
  have q:Int.ofNat e<=2:=by show(e:Int)<=2;omega
  rw[qdZ o,qdZ p,qdZ q];show(match nbr w v u e with
   |some n=>Nat.blt u n
   |none=>false)=true
  rw[r];simpa[qa5]using d
 have x:ascC l=true:=iI.2 λi a b f g=>by
  rw[qdx]at d;have j:=aw f;have k:=aw g;rw[qap j]at f;rw[qap k]at g;cases f;cases g;exact d i (i+1) j k (by omega)
 unfold chkC;rw[s,t,x];rfl
def smS_val3{w v:Nat}(h:S3 w v):smS (Int.ofNat w) (Int.ofNat v):=by
 obtain⟨a,b,c,d⟩:=h;refine⟨?_,?_,?_,?_⟩
 ·show(1:Int)<=(w:Int);omega
 ·show(w:Int)<=5;omega
 ·show(1:Int)<=(v:Int);omega
 ·show(v:Int)<=5;omega
end Go.Am
namespace Go.Am
namespace Sx
open Go.ChangeShapes Go.WideShapes Go.ChangeAt Go.WideMaps Go.WideElems Go.RowKit
def FitC:TE->Tk->Prop
 | [],[]=>True
 | .i k :: ks,v :: vs=>(∃n,v = .int k n/\(Lit.int k n).wf=true)/\FitC ks vs
 | .b :: ks,v :: vs=>(∃t,v = .bool t)/\FitC ks vs
 |_,_=>False
def FitL:TE->TB->Prop
 | [],[]=>True
 | .i k :: ks,.i n :: ls=>(Lit.int k n).wf=true/\FitL ks ls
 | .b :: ks,.b _ :: ls=>FitL ks ls
 |_,_=>False
def FitC.len:∀ {ks:TE} {vs:Tk},FitC ks vs->vs.length=ks.length
 | [],[],_=>rfl
 | .i k :: ks,v :: vs,h=>by simp[FitC.len h.2]
 | .b :: ks,v :: vs,h=>by simp[FitC.len h.2]
 | .v :: _,_,h=>by cases h
 | [],_ :: _,h=>by cases h
 | .i _ :: _,[],h=>by cases h
 | .b :: _,[],h=>by cases h
def FitC.app:∀ {ks a:TE} {vs c:Tk},FitC ks vs->FitC a c->FitC (ks++a) (vs++c)
 | [],_,[],_,_,h=>h
 | .i k :: ks,_,v :: vs,_,h,h'=>⟨h.1,FitC.app h.2 h'⟩
 | .b :: ks,_,v :: vs,_,h,h'=>⟨h.1,FitC.app h.2 h'⟩
 | .v :: _,_,_,_,h,_=>by cases h
 | [],_,_ :: _,_,h,_=>by cases h
 | .i _ :: _,_,[],_,h,_=>by cases h
 | .b :: _,_,[],_,h,_=>by cases h
def flatF(F:TJ->Option (TE)):List Field->Nat->Option (TE)
 | [],_=>some []
 |f :: a,off=>match Nat.beq f.offset off,F f.type with
  |true,some ks=>(flatF F a (off+ks.length)).map (ks ++ ·)
  |_,_=>none
def vx(P:TD):Nat->TJ->Option (TE)
 |0,_=>none
 |d+1,t=>match P.underlying t with
  |some (.int k)=>some [.i k]
  |some .bool=>some [.b]
  |some (.struct a)=>match flatF (vx P d) a.toList 0 with
   |some ks=>match Nat.beq ks.length (P.cellsOf t)with
    |true=>some ks
    |false=>none
   |none=>none
  |some (.array n e)=>match vx P d e with
   |some ks=>match Nat.beq (P.cellsOf e) ks.length&&Nat.beq (P.cellsOf t) (n*ks.length)with
    |true=>some (List.replicate n ks).flatten
    |false=>none
   |none=>none
  |_=>none
section
variable {H:Type} {enc:TypeId×Value->H} {P:TD}
def kN{α:Type}(l:List α)(c:Nat):l.take (l.take c).length=l.take c:=by
 rw[qaL];rcases qc7 c l.length with h|h
 ·rw[qa4 h]
 ·rw[qcd h,qaH h,qaH (qaj _)]
def wV{F:TJ->Option (TE)}{w:World}{b:Nat}{l:Tt}{c:Bool}{fuel:Nat}
  (j:∀t ks,F t=some ks->∀cs (x:DataW H×List MemPlace),DataW.trod enc P w b l c fuel t cs=some x->x.2=[]/\FitC ks cs/\∀w' d e h',DataW.trod enc P w' d e h' fuel t cs=some x) (cs:Tk) :
  ∀(g:List Field) (off:Nat) (ks:TE) (xs:List (DataW H×List MemPlace)),flatF F g off=some ks->g.mapM (λf=>DataW.trod enc P w b l c fuel f.type ((cs.drop f.offset).take (P.cellsOf f.type)))=some xs->
   xs.flatMap (·.2)=[]/\FitC ks ((cs.drop off).take ks.length)/\∀w' d e h',g.mapM (λf=>DataW.trod enc P w' d e h' fuel f.type ((cs.drop f.offset).take (P.cellsOf f.type)))=some xs
 | [],off,ks,xs,h1,a=>by
  simp only[flatF,qaI]at h1;subst h1;simp only[qdE,qdm,qaI]at a;subst a;refine⟨rfl,by simp[FitC],λ_ _ _ _=>by simp⟩
 |f :: g,off,ks,xs,h1,a=>by
  simp only[flatF]at h1;split at h1
  next A i r=>
   obtain⟨y,s,rfl⟩:=qah.1 h1;have i:=qad i;rw[qbX]at a;obtain⟨x,u,a⟩:=qas.1 a;obtain⟨z,v,a⟩:=qas.1 a;cases a;obtain⟨m,h,n⟩:=j _ _ r _ _ u;obtain⟨o,p,q⟩:=wV j cs g _ y z s v;refine⟨by simp[m,o],?_,λw' d e h'=>?_⟩
   ·rw[qau,qdF];refine FitC.app ?_ (by rw[qbW];exact p);have k:=FitC.len h;rw[i]at h k;rw[←k,kN];exact h
   ·rw[qbX,n w' d e h',q w' d e h'];rfl
  ·cases h1
def arr_ok{w:World}{a:Nat}{k:Tt}{b:Bool}{fuel c:Nat}{e:TJ}{ks:TE}(t:c=ks.length)
  (j:∀cs (x:DataW H×List MemPlace),DataW.trod enc P w a k b fuel e cs=some x->x.2=[]/\FitC ks cs/\∀w' d f h',DataW.trod enc P w' d f h' fuel e cs=some x) (cs:Tk) :
  ∀(n:Nat) (xs:List (DataW H×List MemPlace)),(List.range n).mapM (λi=>DataW.trod enc P w a k b fuel e ((cs.drop (i*c)).take c))=some xs->
   xs.flatMap (·.2)=[]/\FitC (List.replicate n ks).flatten (cs.take (n*c))/\∀w' d f h',(List.range n).mapM (λi=>DataW.trod enc P w' d f h' fuel e ((cs.drop (i*c)).take c))=some xs
 |0,xs,h=>by
  simp only[List.range_zero,qdE,qdm,qaI]at h;subst h;exact⟨rfl,by simp[FitC],λ_ _ _ _=>by simp⟩
 |n+1,xs,h=>by
  rw[qcs,List.mapM_append]at h;obtain⟨ys,h1,h⟩:=qas.1 h;obtain⟨u,g,h⟩:=qas.1 h;cases h;rw[qbX]at g;obtain⟨z,s,g⟩:=qas.1 g;cases g;obtain⟨l,m,o⟩:=arr_ok t j cs n ys h1;obtain⟨p,q,r⟩:=j _ _ s;refine⟨by simp[l,p],?_,λw' d f h'=>?_⟩
  ·rw[List.replicate_succ',List.flatten_append,qbz,qce,qdF];refine FitC.app m ?_;simpa using q
  ·rw[qcs,List.mapM_append,o w' d f h',qbX,r w' d f h'];rfl
def jP:∀(d:Nat) (t:TJ) (ks:TE),vx P d t=some ks->∀(w:World) (b:Nat) (o:Tt) (c:Bool) (fuel:Nat) (cs:Tk) (x:DataW H×List MemPlace),DataW.trod enc P w b o c fuel t cs=some x->
  x.2=[]/\FitC ks cs/\∀w' f g h',DataW.trod enc P w' f g h' fuel t cs=some x
 |0,_,_,h=>by cases h
 |d+1,t,ks,h=>by
  intro w b o c fuel cs x a;simp only[vx]at h;split at h
  next k e=>
   cases h;obtain⟨n,rfl,rfl,z⟩:=DataW.trod_int e a;refine⟨rfl,⟨⟨n,rfl,z⟩,trivial⟩,λw' f g h'=>?_⟩;cases fuel with
   |zero=>simp[DataW.trod]at a
   |succ m=>simp[DataW.trod,e,z]
  next e=>
   cases h;obtain⟨n,rfl,rfl⟩:=DataW.trod_bool e a;refine⟨rfl,⟨⟨n,rfl⟩,trivial⟩,λw' f g h'=>?_⟩;cases fuel with
   |zero=>simp[DataW.trod]at a
   |succ m=>simp[DataW.trod,e]
  next B e=>
   split at h
   next A r=>
    split at h
    next i=>
     cases h;have i:=qad i;cases fuel with
     |zero=>simp[DataW.trod]at a
     |succ m=>
      simp only[DataW.trod,e]at a;split at a
      next l=>
       obtain⟨u,s,rfl⟩:=qah.1 a;obtain⟨p,j,q⟩:=wV (λt ks h cs x a=>jP d t ks h w b o c m cs x a) cs B.toList 0 ks u r s;rw[qbE,qaH (by omega)]at j;refine⟨p,j,λw' f g h'=>?_⟩;simp only[DataW.trod,e,l,if_true];rw[q w' f g h'];rfl
      ·cases a
    ·cases h
   ·cases h
  next n e v=>
   split at h
   next A r=>
    split at h
    next i=>
     cases h;rw[qaa]at i;have y:=qad i.1;have e5:=qad i.2;cases fuel with
     |zero=>simp[DataW.trod]at a
     |succ m=>
      simp only[DataW.trod,v]at a;split at a
      next l=>
       obtain⟨u,s,rfl⟩:=qah.1 a;obtain⟨p,j,q⟩:=arr_ok y (λcs x a=>jP d e A r w b o c m cs x a) cs n u s;rw[qaH (by rw[l,e5,y];exact qaj _)]at j;refine⟨p,j,λw' f g h'=>?_⟩;simp only[DataW.trod,v,l,if_true];rw[q w' f g h'];rfl
      ·cases a
    ·cases h
   ·cases h
  ·cases h
end
section
variable [Val]
end
end Sx
end Go.Am
namespace Go.Am
namespace Sx
def uZ{n:Int}(h:(Lit.int .u8 n).wf=true):0<=n/\n<=255:=by
 simp only[Lit.wf,qaa,qdX]at h;exact h
def pz{H:Type}{enc:TypeId×Value->H}{P:TD}{w:World}{a:Nat}{f:Tt}{b:Bool}:∀ {c:List TypeId} {vs:Tk} {ds:List (DataW H)} {e:List MemPlace},DataW.TrodAll enc P w a f b c vs ds e->ds.length=c.length
 | [],[],[],_,_=>rfl
 |_ :: _,_ :: _,_ :: _,_,h=>by
  obtain⟨p,q,_,d,_⟩:=h;simp[pz d]
 | [],_ :: _,_,_,h=>by cases h
 | [],[],_ :: _,_,h=>by cases h
 |_ :: _,[],_,_,h=>by cases h
 |_ :: _,_ :: _,[],_,h=>by cases h
end Sx
namespace Sx
open Go.ChangeShapes Go.WideShapes Go.ChangeAt Go.WideMaps Go.WideElems Go.RowKit
inductive CK2 where
 |i (k:TF)
 |b
 |s (ks:TE)
def CK2.lk:CK2->LK
 | .i k=>.i k
 | .b=>.b
 | .s _=>.v
def SlFit(w:World)(ks:TE)(v:Value):Prop:=
 v = .slice none 0 0∨∃(a:Addr) (len cap:Nat) (c:Tj) (t:TJ) (fr:Nat×Nat) (b:Tk),v = .slice (some a) len cap/\a.spot=none/\len<=cap/\cap<=maxLen/\
  w.heap[a.block]?=some (.cells c t fr)/\(cap=0∨a.off+cap*ks.length<=c.size)/\b.length=len*ks.length/\(∀(i:Nat) v,b[i]?=some v->c[a.off+i]?=some v)/\
  ∀i,i<len->FitC ks ((b.drop (i*ks.length)).take ks.length)
def CellFit(w:World):CK2->Value->Prop
 | .i k,v=>∃n,v = .int k n/\(Lit.int k n).wf=true
 | .b,v=>∃t,v = .bool t
 | .s ks,v=>SlFit w ks v
def dO(w:World):List CK2->Tk->Prop
 | [],[]=>True
 |k :: ks,v :: vs=>CellFit w k v/\dO w ks vs
 |_,_=>False
def bE(h:HL):List CK2->TB->Prop
 | [],[]=>True
 | .i k :: ks,.i n :: ls=>(Lit.int k n).wf=true/\bE h ks ls
 | .b :: ks,.b _ :: ls=>bE h ks ls
 | .s c :: ks,.v x :: ls=>(∃n a,SlC h x c.length n a/\n<=maxLen/\∀i,i<n->FitC c ((a.drop (i*c.length)).take c.length))/\bE h ks ls
 |_,_=>False
def dO.len{w:World}:∀ {ks:List CK2} {vs:Tk},dO w ks vs->vs.length=ks.length
 | [],[],_=>rfl
 |_ :: _,_ :: _,h=>by simp[dO.len h.2]
 | [],_ :: _,h=>by cases h
 |_ :: _,[],h=>by cases h
def dO.app{w:World}:∀ {ks a:List CK2} {vs b:Tk},dO w ks vs->dO w a b->dO w (ks++a) (vs++b)
 | [],_,[],_,_,h=>h
 |_ :: _,_,_ :: _,_,h,h'=>⟨h.1,dO.app h.2 h'⟩
 | [],_,_ :: _,_,h,_=>by cases h
 |_ :: _,_,[],_,h,_=>by cases h
def bE.app{h:HL}:∀ {ks a:List CK2} {vs c:TB},bE h ks vs->bE h a c->bE h (ks++a) (vs++c)
 | [],_,[],_,_,h=>h
 | .i _ :: ks,_,.i _ :: _,_,h,h'=>⟨h.1,bE.app (ks:=ks) h.2 h'⟩
 | .b :: ks,_,.b _ :: _,_,h,h'=>bE.app (ks:=ks) h h'
 | .s _ :: ks,_,.v _ :: _,_,h,h'=>⟨h.1,bE.app (ks:=ks) h.2 h'⟩
 | [],_,_ :: _,_,h,_=>by cases h
 | .i _ :: _,_,[],_,h,_=>by cases h
 | .b :: _,_,[],_,h,_=>by cases h
 | .s _ :: _,_,[],_,h,_=>by cases h
 | .i _ :: _,_,.b _ :: _,_,h,_=>by cases h
 | .i _ :: _,_,.v _ :: _,_,h,_=>by cases h
 | .b :: _,_,.i _ :: _,_,h,_=>by cases h
 | .b :: _,_,.v _ :: _,_,h,_=>by cases h
 | .s _ :: _,_,.i _ :: _,_,h,_=>by cases h
 | .s _ :: _,_,.b _ :: _,_,h,_=>by cases h
def ckF(F:TJ->Option (List CK2)):List Field->Nat->Option (List CK2)
 | [],_=>some []
 |f :: a,off=>match Nat.beq f.offset off,F f.type with
  |true,some ks=>(ckF F a (off+ks.length)).map (ks ++ ·)
  |_,_=>none
def kby:LK->Nat
 | .i .i64=>8
 |_=>0
def kbs:TE->Nat
 | []=>0
 |k :: ks=>kby k+kbs ks
def ck2L:TE->Option (List CK2)
 | []=>some []
 | .i k :: ks=>(ck2L ks).map (.i k :: ·)
 | .b :: ks=>(ck2L ks).map (.b :: ·)
 | .v :: _=>none
def vm{w:World}:∀ {ks:TE} {cs:Tk} {c2:List CK2},ck2L ks=some c2->FitC ks cs->dO w c2 cs
 | [],[],_,h,_=>by cases h;exact trivial
 | .i k :: ks,v :: vs,_,h,a=>by
  obtain⟨l,h1,rfl⟩:=qah.1 h;exact⟨a.1,vm h1 a.2⟩
 | .b :: ks,v :: vs,_,h,a=>by
  obtain⟨l,h1,rfl⟩:=qah.1 h;exact⟨a.1,vm h1 a.2⟩
 | .v :: _,_,_,h,_=>by cases h
 | [],_ :: _,_,_,a=>by cases a
 | .i _ :: _,[],_,_,a=>by cases a
 | .b :: _,[],_,_,a=>by cases a
def ckT(P:TD):Nat->TJ->Option (List CK2)
 |0,_=>none
 |d+1,t=>match P.underlying t with
  |some (.int k)=>some [.i k]
  |some .bool=>some [.b]
  |some (.slice e)=>match vx P 20 e with
   |some ks=>match Nat.beq (P.cellsOf e) ks.length&&Nat.blt 0 ks.length&&Nat.ble (kbs ks) (P.bytesOf e)with
    |true=>some [.s ks]
    |false=>none
   |none=>none
  |some (.struct a)=>match ckF (ckT P d) a.toList 0 with
   |some ks=>match Nat.beq ks.length (P.cellsOf t)with
    |true=>some ks
    |false=>none
   |none=>none
  |some (.array _ _)=>match vx P 20 t with
   |some ks=>ck2L ks
   |none=>none
  |_=>none
section
variable {H:Type} {enc:TypeId×Value->H} {P:TD}
def Lies(w:World)(v:Value):Prop:=∀a len cap,v = .slice (some a) len cap->a.spot=none/\∃c t fr,w.heap[a.block]?=some (.cells c t fr)
def jz{α β:Type}{f g:α->Option β}:∀ {l:List α},(∀x∈l,f x=g x)->l.mapM f=l.mapM g
 | [],_=>rfl
 |a :: l,h=>by
  rw[qbX,qbX,h a qaN,jz λx b=>h x (qav _ b)]
def cg{a:Addr}(h:a.spot=none)(i:Nat):a.add i=⟨a.block,a.off+i,none⟩:=by
 obtain⟨b,o,s⟩:=a;cases h;unfold Addr.add;simp
def slice_ok{w:World}{t e:TJ}{ks:TE}(ht:P.underlying t=some (.slice e))(he:vx P 20 e=some ks)(U:P.cellsOf e=ks.length)(h0:0<ks.length){A:Nat}(D:A=0){g:Bool}{fuel:Nat}{cs:Tk}{x:DataW H×List MemPlace}
  (hx:DataW.trod enc P w A (λ_=>true) g fuel t cs=some x) (hl:∀v∈cs,Lies w v) :
  ∃v,cs=[v]/\SlFit w ks v/\∀(w':World) (I:Tt),(∀b,b<w.heap.size->w'.heap[b]?=w.heap[b]?)->(∀b,b<w.heap.size->I b=true)->DataW.trod enc P w' A I g fuel t cs=some x:=by
 subst D;have C:=hx;rcases DataW.trod_slice ht hx with⟨rfl,rfl⟩|⟨a,d,f,k,p,n,rfl,rfl,rfl,hb,G,hm,M,L,Z,_⟩
 ·refine⟨_,rfl,.inl rfl,λw' I _ _=>?_⟩;cases fuel with
  |zero=>simp[DataW.trod]at hx
  |succ m=>simp[DataW.trod,ht]
 ·obtain⟨X,c,t',fr,u⟩:=hl _ qaN a d f rfl;obtain⟨an,hr⟩:=Z rfl;rw[U]at L hr;have N:a.block<w.heap.size:=by
   rcases qaP a.block w.heap.size with h|h
   ·exact h
   ·rw[qbF h]at u;cases u
  have r:∀i,i<f->∃o y,w.cells? 0 (a.add (i*ks.length)) ks.length=some o/\DataW.trod enc P w 0 (λ_=>true) g n e o=some y/\(k++p)[i]?=some y:=by
   intro i B;by_cases s:i<d
   ·have q:=L i s;have z:k[i]?=some k[i]:=qap (by omega);rw[z]at q;obtain⟨o,S,T⟩:=qas.1 q;exact⟨o,_,S,T,by rw[qam (by omega)];exact z⟩
   ·have q:=hr (i - d) (by omega);rw[show d+(i - d)=i by omega]at q;have z:p[i - d]?=some (p[i - d]'(by omega)):=qap (by omega);rw[z]at q;obtain⟨o,S,T⟩:=qas.1 q;exact⟨o,_,S,T,by rw[qaw (by omega),M];exact z⟩
  have rd:∀i,i<f->∀j,j<ks.length->∀o,w.cells? 0 (a.add (i*ks.length)) ks.length=some o->c[a.off+i*ks.length+j]?=o[j]?:=by
   intro i B j F o V;have s:=(World.cells?_some V).2.2 j F;rw[cg X,cg rfl]at s;rw[←s];unfold World.cell?;simp[u]
  have O:f=0∨a.off+f*ks.length<=c.size:=by
   by_cases K:f=0
   ·exact .inl K
   ·right;obtain⟨o,y,s,_,_⟩:=r (f - 1) (by omega);have q:=rd (f - 1) (by omega) (ks.length - 1) (by omega) o s;have W:=(World.cells?_some s).2.1;rw[qap (by omega)]at q;have z:=(qaO.1 q).1;have S:f*ks.length=(f - 1)*ks.length+ks.length:=by
     rw[←Nat.succ_mul];congr 1;omega
    omega
  have Q:a.off+d*ks.length<=c.size∨d=0:=by
   rcases O with h|h
   ·right;omega
   ·left;have:=qbt ks.length G;omega
  refine⟨_,rfl,.inr ⟨a,d,f,c,t',fr,(c.toList.drop a.off).take (d*ks.length),rfl,X,G,hm,u,O,?_,?_,?_⟩,?_⟩
  ·rw[qaL,qbQ];have ad:c.toList.length=c.size:=qdi;rcases Q with h|h
   ·omega
   ·subst h;omega
  ·intro i v R;rw[qbu]at R;split at R
   ·rw[qbq]at R;simpa using R
   ·cases R
  ·intro i B;obtain⟨o,y,s,q,_⟩:=r i (by omega);obtain⟨_,z,_⟩:=jP 20 e ks he w 0 _ g n o y q;have W:=(World.cells?_some s).2.1;have:(((c.toList.drop a.off).take (d*ks.length)).drop (i*ks.length)).take ks.length=o:=by
    apply qbi;intro j;by_cases F:j<ks.length
    ·have ag:i*ks.length+ks.length<=d*ks.length:=by
      have:=qbt ks.length (show i+1<=d by omega);rw[qbz,qce]at this;exact this
     rw[qbu,qd0 F,qbq,qbu,qd0 (by omega),qbq,←rd i (by omega) j F o s];rw[qc0,qb1]
    ·rw[qak (by rw[qaL];omega),qak (by omega)]
   rw[this];exact z
  ·intro w' I hw Y;have E:∀i,i<f->w'.cells? 0 (a.add (i*ks.length)) ks.length=w.cells? 0 (a.add (i*ks.length)) ks.length:=by
    intro i B;unfold World.cells?;have:∀j,w'.cell? ((a.add (i*ks.length)).add j)=w.cell? ((a.add (i*ks.length)).add j):=by
     intro j;rw[cg X,cg rfl];unfold World.cell?;rw[hw _ N]
    simp only[this]
   have el:∀i,i<f->(w'.cells? 0 (a.add (i*P.cellsOf e)) (P.cellsOf e)).bind (DataW.trod enc P w' 0 I g n e)=(k++p)[i]?:=by
    intro i B;rw[U,E i B];obtain⟨o,y,s,q,z⟩:=r i B;rw[s,z,qao];exact(jP 20 e ks he w 0 _ g n o y q).2.2 w' 0 I g
   have J:∀i,i<f->(w.cells? 0 (a.add (i*P.cellsOf e)) (P.cellsOf e)).bind (DataW.trod enc P w 0 (λ_=>true) g n e)=(k++p)[i]?:=by
    intro i B;rw[U];obtain⟨o,y,s,q,z⟩:=r i B;rw[s,z,qao];exact q
   unfold DataW.trod at C ⊢;simp only[ht]at C ⊢;rw[qd0 ⟨qaC _,G,hm⟩]at C ⊢;rw[jz (λi B=>(el i (by have:=qae.1 B;omega)).trans (J i (by have:=qae.1 B;omega)).symm)];rw[jz (l:=List.range (f - d)) (λj F=>(el (d+j) (by have:=qae.1 F;omega)).trans (J (d+j) (by have:=qae.1 F;omega)).symm)];rw[Y _ N];exact C
def ckF_ok{F:TJ->Option (List CK2)}{w:World}{a:Bool}{fuel:Nat}(cs:Tk)(g:∀v∈cs,Lies w v)
  (k:∀t ks,F t=some ks->∀cs (x:DataW H×List MemPlace),(∀v∈cs,Lies w v)->DataW.trod enc P w 0 (λ_=>true) a fuel t cs=some x->dO w ks cs/\∀(w':World) (d:Tt),(∀b,b<w.heap.size->w'.heap[b]?=w.heap[b]?)->(∀b,b<w.heap.size->d b=true)->DataW.trod enc P w' 0 d a fuel t cs=some x) :
  ∀(e:List Field) (off:Nat) (ks:List CK2) (xs:List (DataW H×List MemPlace)),ckF F e off=some ks->e.mapM (λf=>DataW.trod enc P w 0 (λ_=>true) a fuel f.type ((cs.drop f.offset).take (P.cellsOf f.type)))=some xs->
   dO w ks ((cs.drop off).take ks.length)/\∀(w':World) (d:Tt),(∀b,b<w.heap.size->w'.heap[b]?=w.heap[b]?)->(∀b,b<w.heap.size->d b=true)->e.mapM (λf=>DataW.trod enc P w' 0 d a fuel f.type ((cs.drop f.offset).take (P.cellsOf f.type)))=some xs
 | [],off,ks,xs,h1,c=>by
  simp only[ckF,qaI]at h1;subst h1;simp only[qdE,qdm,qaI]at c;subst c;refine⟨by simp[dO],λ_ _ _ _=>by simp⟩
 |f :: e,off,ks,xs,h1,c=>by
  simp only[ckF]at h1;split at h1
  next A j p=>
   obtain⟨y,q,rfl⟩:=qah.1 h1;have j:=qad j;rw[qbX]at c;obtain⟨x,r,c⟩:=qas.1 c;obtain⟨z,s,c⟩:=qas.1 c;cases c;obtain⟨i,m⟩:=k _ _ p _ _ (λv u=>g v (qbs (qbm u))) r;obtain⟨n,o⟩:=ckF_ok cs g k e _ y z q s;refine⟨?_,λw' d l h=>?_⟩
   ·rw[qau,qdF];refine dO.app ?_ (by rw[qbW];exact n);have g:=dO.len i;rw[j]at i g;rw[←g,kN];exact i
   ·rw[qbX,m w' d l h,o w' d l h];rfl
  ·cases h1
def ckT_ok:∀(d:Nat) (t:TJ) (ks:List CK2),ckT P d t=some ks->∀(w:World) (a:Bool) (fuel:Nat) (cs:Tk) (x:DataW H×List MemPlace),(∀v∈cs,Lies w v)->DataW.trod enc P w 0 (λ_=>true) a fuel t cs=some x->
  dO w ks cs/\∀(w':World) (f:Tt),(∀b,b<w.heap.size->w'.heap[b]?=w.heap[b]?)->(∀b,b<w.heap.size->f b=true)->DataW.trod enc P w' 0 f a fuel t cs=some x
 |0,_,_,h=>by cases h
 |d+1,t,ks,h=>by
  intro w a fuel cs x p c;simp only[ckT]at h;split at h
  next k e=>
   cases h;obtain⟨n,rfl,rfl,q⟩:=DataW.trod_int e c;refine⟨⟨⟨n,rfl,q⟩,trivial⟩,λw' f _ _=>?_⟩;cases fuel with
   |zero=>simp[DataW.trod]at c
   |succ m=>simp[DataW.trod,e,q]
  next e=>
   cases h;obtain⟨n,rfl,rfl⟩:=DataW.trod_bool e c;refine⟨⟨⟨n,rfl⟩,trivial⟩,λw' f _ _=>?_⟩;cases fuel with
   |zero=>simp[DataW.trod]at c
   |succ m=>simp[DataW.trod,e]
  next e u=>
   split at h
   next A l=>
    split at h
    next i=>
     cases h;simp only[qaa,qa5]at i;obtain⟨v,rfl,g,j⟩:=slice_ok u l (qad i.1.1) i.1.2 rfl c p;exact⟨⟨g,trivial⟩,j⟩
    ·cases h
   ·cases h
  next y e=>
   split at h
   next A l=>
    split at h
    next i=>
     cases h;have i:=qad i;cases fuel with
     |zero=>simp[DataW.trod]at c
     |succ m=>
      simp only[DataW.trod,e]at c;split at c
      next o=>
       obtain⟨B,z,rfl⟩:=qah.1 c;obtain⟨g,j⟩:=ckF_ok cs p (λt ks h cs x p c=>ckT_ok d t ks h w a m cs x p c) y.toList 0 ks B l z;rw[qbE,qaH (by omega)]at g;refine⟨g,λw' f q r=>?_⟩;simp only[DataW.trod,e,o,if_true];rw[j w' f q r];rfl
      ·cases c
    ·cases h
   ·cases h
  ·split at h
   next s l=>
    obtain⟨_,g,j⟩:=jP 20 t s l w 0 _ a fuel cs x c;exact⟨vm h g,λw' f _ _=>j w' 0 f a⟩
   ·cases h
  ·cases h
abbrev Blk2:=HObj×Option Pl
def sZ(w:World)(b:Blk2):Prop:=b.1 = .dead∨∃vs e p c t fr,b.1 = .cells vs e false/\b.2=some p/\p.esz=e/\vs.all flat=true/\vs.all bg=true/\vs.length<=p.room/\w.heap[p.b]?=some (.cells c t fr)/\c.size=p.o+p.room/\∀(i:Nat) v,vs[i]?=some v->c[p.o+i]?=some v
def nT:∀ {ks:TE} {vs:Tk},FitC ks vs->vs.all flat=true/\vs.all bg=true
 | [],[],_=>⟨rfl,rfl⟩
 | .i k :: ks,v :: vs,h=>by
  obtain⟨⟨n,rfl,_⟩,c⟩:=h;obtain⟨a,b⟩:=nT c;exact⟨by simp[a,flat,fD,scalar],by simp[b];rfl⟩
 | .b :: ks,v :: vs,h=>by
  obtain⟨⟨n,rfl⟩,c⟩:=h;obtain⟨a,b⟩:=nT c;exact⟨by simp[a,flat,fD,scalar],by simp[b];rfl⟩
 | .v :: _,_,h=>by cases h
 | [],_ :: _,h=>by cases h
 | .i _ :: _,[],h=>by cases h
 | .b :: _,[],h=>by cases h
def vj{ks:TE}(l:0<ks.length){c:Tk}{n:Nat}(s:c.length=n*ks.length)(h:∀i,i<n->FitC ks ((c.drop (i*ks.length)).take ks.length)):c.all flat=true/\c.all bg=true:=by
 have f:∀j,j<c.length->∃v,c[j]?=some v/\flat v=true/\bg v=true:=by
  intro j e;have g:j / ks.length<n:=by
   rw[Nat.div_lt_iff_lt_mul l];omega
  obtain⟨a,b⟩:=nT (h _ g);have q:=qck j l;have p:=Nat.div_add_mod j ks.length;have d:((c.drop (j / ks.length*ks.length)).take ks.length)[j%ks.length]?=some c[j]:=by
   rw[qbu,qd0 q,qbq];rw[show j / ks.length*ks.length+j%ks.length=j by rw[Nat.mul_comm];exact p];exact qap e
  exact⟨_,qap e,qac.1 a _ (qab d),qac.1 b _ (qab d)⟩
 constructor<;>
 ·rw[qac];intro v r;obtain⟨j,e⟩:=qaT r;have k:j<c.length:=by
   rcases qaP j c.length with h|h
   ·exact h
   ·rw[qak h]at e;cases e
  obtain⟨t,g,m,o⟩:=f j k;rw[e]at g;cases g
  first|exact m|exact o
section
variable [Val] [Glo]
def cell_abs{w:World}{p:CK2}{v:Value}(e:∀ks,p = .s ks->0<ks.length)(h:CellFit w p v)(n0:Nat):∃(x:SL) (A:List Blk2),(∀b∈A,sZ w b)/\x.is p.lk=true/\x.good/\
  (∀mu:HMap,(∀(i:Nat) b,A[i]?=some b->mu (n0+i)=b.2)->VR noL mu x.val v)/\∀e:HL,(∀(i:Nat) b,A[i]?=some b->e[n0+i]?=some (.o b.1))->bE e [p] [x.lf]:=by
 cases p with
 |i k=>
  obtain⟨n,rfl,N⟩:=h;exact⟨.i k n,[],by simp,by simp[SL.is,CK2.lk,eO],trivial,λmu _=>.scalar rfl,λe _=>⟨N,trivial⟩⟩
 |b=>
  obtain⟨t,rfl⟩:=h;exact⟨.b t,[],by simp,rfl,trivial,λmu _=>.scalar rfl,λe _=>trivial⟩
 |s ks=>
  have J:=e ks rfl;rcases h with rfl|⟨a,len,cap,c,t,E,d,rfl,L,y,Q,f,z,m,u,j⟩
  ·refine⟨.v (.slice none 0 0),[],by simp,rfl,rfl,λmu _=>.scalar rfl,λe _=>⟨⟨0,[],⟨by simp,.inl ⟨rfl,rfl⟩⟩,qaC _,λi O=>by omega⟩,trivial⟩⟩
  ·obtain⟨C,D⟩:=vj J m j;have F:az (.slice (some ⟨n0,0,tag ks.length⟩) len 0)=true:=by simp[az,noLoc,aR,aZ,aT,aI,av,tag]
   have I:a=⟨a.block,a.off,none⟩:=by cases a;cases L;rfl
   have q:∀e:HL,e[n0]?=some (.o (.cells d ks.length false))->bE e [.s ks] [.v (.slice (some ⟨n0,0,tag ks.length⟩) len 0)]:=λe l=>
    ⟨⟨len,d,⟨m,.inr ⟨n0,0,0,d,false,rfl,l,cut_all m⟩⟩,by omega,j⟩,trivial⟩
   by_cases g:cap=0
   ·subst g;obtain rfl:len=0:=by omega
    have B:d=[]:=List.eq_nil_of_length_eq_zero (by omega);subst B;refine⟨.v (.slice (some ⟨n0,0,tag ks.length⟩) 0 0),[(.cells [] ks.length false,some ⟨a.block,c.size,0,ks.length⟩)],λb r=>?_,rfl,F,λmu _=>.hslice0 (qaC _),λe l=>q e (l 0 _ rfl)⟩;simp only[qaq]at r;subst r;exact .inr ⟨[],ks.length,_,c,t,E,rfl,rfl,rfl,rfl,rfl,qaC _,f,by simp,λi v M=>by simp at M⟩
   ·have z:a.off+cap*ks.length<=c.size:=z.resolve_left g;have K:=qbt ks.length y;refine⟨.v (.slice (some ⟨n0,0,tag ks.length⟩) len 0),[(.cells d ks.length false,some ⟨a.block,a.off,c.size - a.off,ks.length⟩)],λb r=>?_,rfl,F,λmu l=>?_,λe l=>q e (l 0 _ rfl)⟩
    ·simp only[qaq]at r;subst r;exact .inr ⟨d,ks.length,_,c,t,E,rfl,rfl,rfl,C,D,by show d.length<=c.size - a.off;omega,f,by show c.size=a.off+(c.size - a.off);omega,u⟩
    ·have G:=l 0 _ rfl;rw[I];have:=VR.hslice (la:=noL) (mu:=mu) (id:=n0) (off:=0) (len:=len) (cap:=cap) (cx:=0) G (by show 0+cap*ks.length<=c.size - a.off;omega) y (.inl rfl);exact this
def tA{w:World}:∀ {a:List CK2} {vs:Tk},(∀ks,CK2.s ks∈a->0<ks.length)->dO w a vs->∀n0,∃(xs:List SL) (c:List Blk2),(∀b∈c,sZ w b)/\bb xs (a.map CK2.lk)=true/\(∀x∈xs,x.good)/\xs.length=vs.length/\
  (∀mu:HMap,(∀(i:Nat) b,c[i]?=some b->mu (n0+i)=b.2)->VRs noL mu (xs.map SL.val) vs)/\∀d:HL,(∀(i:Nat) b,c[i]?=some b->d[n0+i]?=some (.o b.1))->bE d a (xs.map SL.lf)
 | [],[],_,_,n0=>⟨[],[],by simp,rfl,by simp,rfl,λmu _=>⟨rfl,λi x y h=>by simp at h⟩,λd _=>trivial⟩
 |O :: a,v :: vs,d,h,n0=>by
  obtain⟨x,c,A,B,C,D,E⟩:=cell_abs (λks e=>d ks (by rw[e];exact qaN)) h.1 n0;obtain⟨xs,j,F,G,I,J,K,L⟩:=tA (λks e=>d ks (qav _ e)) h.2 (n0+c.length);have z:∀ {α:Type} {f:Nat->α} {g:Blk2->α},(∀(i:Nat) b,(c++j)[i]?=some b->f (n0+i)=g b)->(∀(i:Nat) b,c[i]?=some b->f (n0+i)=g b)/\∀(i:Nat) b,j[i]?=some b->f (n0+c.length+i)=g b:=by
   intro α f g h;refine⟨λi b k=>h i b ?_,λi b k=>?_⟩
   ·rw[qam (by
     rcases qaP i c.length with h|h
     ·exact h
     ·rw[qak h]at k;cases k)];exact k
   ·rw[qb1];refine h _ b ?_;rw[qaw (by omega),qcT];exact k
  refine⟨x :: xs,c++j,λb k=>?_,by simp[bb,B,G],λy u=>?_,by simp[J],λmu t=>?_,λd N=>?_⟩
  ·rcases qaz.1 k with h|h
   ·exact A b h
   ·exact F b h
  ·rcases qax.1 u with rfl|u
   ·exact C
   ·exact I y u
  ·obtain⟨l,m⟩:=z (f:=mu) (g:=λb=>b.2) t;have M:=D mu l;obtain⟨c2,c3⟩:=K mu m;refine⟨by simpa using c2,λi p q n r=>?_⟩;cases i with
   |zero=>
    simp only[qaF,qbM,qaI]at n r;subst n r;exact M
   |succ i=>exact c3 i p q (by simpa using n) (by simpa using r)
  ·obtain⟨l,m⟩:=z (f:=λi=>d[i]?) (g:=λb=>some (HO.o b.1)) N;exact bE.app (E d l) (L d m)
 | [],_ :: _,_,h,_=>by cases h
 |_ :: _,[],_,h,_=>by cases h
end
end
end Sx
namespace Sx
open Go.ChangeShapes Go.WideShapes Go.ChangeAt Go.WideMaps Go.WideElems Go.RowKit
section
variable {H:Type} {enc:TypeId×Value->H} {P:TD}
def oq{w:World}{r:Reach}{k:Nat}{u:TJ}{v:Value}(h:Cell.okWide P w r k u v):Lies w v:=by
 rintro a p d rfl;have n:∃e,w.has P r k a e d:=by
  unfold Cell.okWide at h;split at h<;>first|(rename_i b g;cases g;done)|(rename_i b;cases b;done)|skip
  all_goals
   unfold Cell.ok at h;split at h<;>first|(cases h;done)|(rename_i b g;cases g;done)|skip
   all_goals first|(rename_i j;injection j with q s t;subst s t;cases q;exact⟨_,h.2.2⟩)|skip
 obtain⟨e,_,o,x,f,i,_⟩:=n;refine⟨o,?_⟩;unfold World.shape? at i;split at i
 next c l m b=>
  exact⟨c,l,m,b⟩
 ·cases i
def lies_val{w:World}{r:Reach}{j:Nat}{t:TJ}{v:Value}(h:Value.okWide P w r j t v):∀x∈v.cells.toList,Lies w x:=by
 intro x g;unfold Value.okWide at h;split at h
 ·obtain⟨a,rfl,_,k,_,_,d⟩:=h;obtain⟨i,f⟩:=qaT g;obtain⟨u,_,e⟩:=d i x (by simpa[Value.cells]using f);exact oq e
 ·obtain⟨a,rfl,_,k,_,_,d⟩:=h;obtain⟨i,f⟩:=qaT g;obtain⟨u,_,e⟩:=d i x (by simpa[Value.cells]using f);exact oq e
 ·have:x=v∨∃a,v = .agg a:=by
   cases v<;>first|(right;exact⟨_,rfl⟩)|(left;simpa[Value.cells]using g)
  rcases this with rfl|⟨a,rfl⟩
  ·exact oq h
  ·exfalso;unfold Cell.okWide at h;split at h<;>first|(rename_i b c;cases c;done)|(rename_i b;cases b;done)|skip
   all_goals
    unfold Cell.ok at h;split at h<;>first|(cases h;done)|(rename_i b c;cases c;done)|skip
def skC(P:TD)(t:TJ)(a:List CK2):Option SK:=
 match P.underlying t,a with
 |some (.struct _),a=>some (.agg (a.map CK2.lk))
 |some (.array _ _),a=>some (.agg (a.map CK2.lk))
 |some (.int _),[k]=>some (.leaf k.lk)
 |some .bool,[k]=>some (.leaf k.lk)
 |some (.slice _),[k]=>some (.leaf k.lk)
 |_,_=>none
def posK(a:List CK2):Bool:=a.all λk=>match k with
 | .s b=>Nat.blt 0 b.length
 |_=>true
def posK_ok{a:List CK2}(h:posK a=true):∀ks,CK2.s ks∈a->0<ks.length:=by
 intro ks b;have:=qac.1 h _ b;simpa[qa5]using this
section
variable [Val] [Glo]
structure Abs(W:World)(n0:Nat)(bl:List Blk2):Prop where
 ok:∀b∈bl,sZ W b
abbrev MuAt(mu:HMap)(n0:Nat)(a:List Blk2):Prop:=∀(i:Nat) b,a[i]?=some b->mu (n0+i)=b.2
abbrev HpAt(c:HL)(n0:Nat)(a:List Blk2):Prop:=∀(i:Nat) b,a[i]?=some b->c[n0+i]?=some (.o b.1)
abbrev Stays(W a:World):Prop:=∀b,b<W.heap.size->a.heap[b]?=W.heap[b]?
def ze{W:World}{r:Reach}{a:Nat}{t:TJ}{n:Nat}{e:TJ}{v:Value}(c:P.underlying t=some (.array n e))(h:Value.okWide P W r a t v):∃cs,v = .agg cs:=by
 simp only[Value.okWide,c]at h;obtain⟨cs,b,_⟩:=h;exact⟨cs,b⟩
def open_arg2{W:World}{r:Reach}{b0:Nat}{c:Bool}{t:TJ}{g:List CK2}{D:SK}{v:Value}{d:DataW H}{C:List MemPlace}(h:ckT P 20 t=some g)(f:skC P t g=some D)(A:posK g=true)(a:Value.okWide P W r b0 t v)(hd:DataW.Trod enc P W 0 (λ_=>true) c t v d C)(n0:Nat) :
  ∃(x:S0) (m:List Blk2),(∀b∈m,sZ W b)/\x.is D=true/\x.good/\(∀mu:HMap,MuAt mu n0 m->VR noL mu x.val v)/\(∀p:HL,HpAt p n0 m->bE p g (x.cells.map SL.lf))/\
   ∀(s:World) (u:Tt),Stays W s->(∀b,b<W.heap.size->u b=true)->DataW.Trod enc P s 0 u c t v d C:=by
 obtain⟨w,hf⟩:=hd;obtain⟨E,Z⟩:=ckT_ok 20 t g h W c w _ _ (lies_val a) hf;obtain⟨S,m,F,G,I,T,B,J⟩:=tA (posK_ok A) E n0;have j:∀(s:World) (u:Tt),Stays W s->(∀b,b<W.heap.size->u b=true)->DataW.Trod enc P s 0 u c t v d C:=λs u X h2=>⟨w,Z s u X h2⟩;have q:(∀V,P.underlying t≠some (.struct V))->(∀n e,P.underlying t≠some (.array n e))->∀k,g=[k]->D = .leaf k.lk->∃(x:S0) (m:List Blk2),(∀b∈m,sZ W b)/\x.is D=true/\x.good/\(∀mu:HMap,MuAt mu n0 m->VR noL mu x.val v)/\(∀p:HL,HpAt p n0 m->bE p g (x.cells.map SL.lf))/\
   ∀(s:World) (u:Tt),Stays W s->(∀b,b<W.heap.size->u b=true)->DataW.Trod enc P s 0 u c t v d C:=by
  rintro N O k rfl rfl;have hv:v.cells.toList=[v]:=by
   have X:=dO.len E;cases v with
   |agg U=>
    exfalso;unfold Value.okWide at a;split at a
    next e=>exact N _ e
    next e=>exact O _ _ e
    ·unfold Cell.okWide at a;split at a<;>first|(rename_i L M;cases M;done)|(rename_i L;cases L;done)|skip
     all_goals
      unfold Cell.ok at a;split at a<;>first|(cases a;done)|(rename_i L M;cases M;done)|skip
   |_=>simp[Value.cells]
  rw[hv]at E T B;obtain⟨x,rfl⟩ : ∃x,S=[x]:=List.length_eq_one_iff.1 T;refine⟨.leaf x,m,F,?_,λl Y=>?_,λmu o=>?_,λp z=>J p z,j⟩
  ·show x.is k.lk=true;simpa[bb]using G
  ·simp only[S0.cells,qaq]at Y;subst Y;exact I _ qaN
  ·exact(B mu o).2 0 _ _ rfl rfl
 unfold skC at f;split at f
 next V e=>
  cases f;obtain⟨U,rfl,_⟩:=okWide_struct e a;refine⟨.agg S,m,F,G,I,λmu o=>?_,λp z=>J p z,j⟩;obtain⟨K,c2⟩:=B mu o;refine .agg (by simpa[Value.cells]using K) λi x y Q R=>c2 i x y (by simpa using Q) (by simpa[Value.cells]using R)
 next n' e' e=>
  cases f;obtain⟨U,rfl⟩:=ze e a;refine⟨.agg S,m,F,G,I,λmu o=>?_,λp z=>J p z,j⟩;obtain⟨K,c2⟩:=B mu o;refine .agg (by simpa[Value.cells]using K) λi x y Q R=>c2 i x y (by simpa using Q) (by simpa[Value.cells]using R)
 next k e=>cases f;exact q (λ_ h=>by rw[e]at h;cases h) (λ_ _ h=>by rw[e]at h;cases h) _ rfl rfl
 next e=>cases f;exact q (λ_ h=>by rw[e]at h;cases h) (λ_ _ h=>by rw[e]at h;cases h) _ rfl rfl
 next e' e=>cases f;exact q (λ_ h=>by rw[e]at h;cases h) (λ_ _ h=>by rw[e]at h;cases h) _ rfl rfl
 ·cases f
def argK(P:TD):List TypeId->Option (List (List CK2)×List SK)
 | []=>some ([],[])
 |t :: c=>match ckT P 20 t,argK P c with
  |some a,some (l,sks)=>match skC P t a,posK a with
   |some b,true=>some (a :: l,b :: sks)
   |_,_=>none
  |_,_=>none
def at_app{α:Type}{d a:List Blk2}{f:Nat->α}{g:Blk2->α}{n0:Nat}(h:∀(i:Nat) b,(d++a)[i]?=some b->f (n0+i)=g b):(∀(i:Nat) b,d[i]?=some b->f (n0+i)=g b)/\∀(i:Nat) b,a[i]?=some b->f (n0+d.length+i)=g b:=by
 refine⟨λi b c=>h i b ?_,λi b c=>?_⟩
 ·rw[qam (by
   rcases qaP i d.length with h|h
   ·exact h
   ·rw[qak h]at c;cases c)];exact c
 ·rw[qb1];refine h _ b ?_;rw[qaw (by omega),qcT];exact c
def qw{W:World}{r:Reach}{N:Nat}{e:Bool}:∀(n:List TypeId) (l:List (List CK2)) (sks:TH) (vs:Tk) (ds:List (DataW H)) (z:List MemPlace) (n0:Nat),argK P n=some (l,sks)->
  (∀(j:Nat) t v,n[j]?=some t->vs[j]?=some v->Value.okWide P W r N t v)->DataW.TrodAll enc P W 0 (λ_=>true) e n vs ds z->
  ∃(xs:List S0) (m:List Blk2),(∀b∈m,sZ W b)/\db xs sks=true/\(∀x∈xs,x.good)/\(∀mu:HMap,MuAt mu n0 m->VRs noL mu (aq xs) vs)/\(∀k:HL,HpAt k n0 m->bE k l.flatten (cX xs))/\
   ∀(s:World) (u:Tt),Stays W s->(∀b,b<W.heap.size->u b=true)->DataW.TrodAll enc P s 0 u e n vs ds z
 | [],l,sks,[],[],z,n0,h,_,a=>by
  cases h;exact⟨[],[],by simp,rfl,by simp,λmu _=>⟨rfl,λi x y h=>by simp[aq]at h⟩,λk _=>trivial,λ_ _ _ _=>a⟩
 |t :: n,l,sks,v :: vs,d :: ds,z,n0,h,F,a=>by
  simp only[argK]at h;split at h
  next X l' w Y Z=>
   split at h
   next sk e3 e4=>
    cases h;obtain⟨p,q,h1,c,rfl⟩:=a;obtain⟨x,m,G,I,J,K,L,M⟩:=open_arg2 Y e3 e4 (F 0 t v rfl rfl) h1 n0;obtain⟨xs,A,O,Q,R,S,T,U⟩:=qw n l' w vs ds q (n0+m.length) Z (λj t v h1 c=>F (j+1) t v h1 c) c;refine⟨x :: xs,m++A,λb hb=>?_,by simp[db,I,Q],λy E=>?_,λmu D=>?_,λk hh=>?_,λs u h1 c=>⟨p,q,M s u h1 c,U s u h1 c,rfl⟩⟩
    ·rcases qaz.1 hb with h|h
     ·exact G b h
     ·exact O b h
    ·rcases qax.1 E with rfl|E
     ·exact J
     ·exact R y E
    ·obtain⟨h1,c⟩:=at_app (f:=mu) (g:=λb=>b.2) D;have V:=K mu h1;obtain⟨c2,c3⟩:=S mu c;refine⟨by simpa[aq]using c2,λi p q B C=>?_⟩;cases i with
     |zero=>
      simp only[aq,qaF,qbM,qaI]at B C;subst B C;exact V
     |succ i=>exact c3 i p q (by simpa[aq]using B) (by simpa using C)
    ·obtain⟨h1,c⟩:=at_app (f:=λi=>k[i]?) (g:=λb=>some (HO.o b.1)) hh;rw[qcr];exact bE.app (L k h1) (T k c)
   ·cases h
  ·cases h
 | [],_,_,_ :: _,_,_,_,_,_,a=>by cases a
 | [],_,_,[],_ :: _,_,_,_,_,a=>by cases a
 |_ :: _,_,_,[],_,_,_,_,_,a=>by cases a
 |_ :: _,_,_,_ :: _,[],_,_,_,_,a=>by cases a
def vg{C:Cfg}{f:TK}{args:Tk}{r:Value}{H':Tp}{k:List Blk2}{W:World}(F:∀b∈k,sZ W b)(h:dP C f args (k.map (·.1)) r H'){args':Tj}(n:∀mu:HMap,MuAt mu 0 k->VRs noL mu args args'.toList)(hr:flat r=true)
  (hG:∀g vs,C.G g=some vs->gBlk g<W.heap.size/\vs.all bg=true/\∃c e fr,W.heap[gBlk g]?=some (.cells c e fr)/\cF (λ_=>none) vs c (gOff g)) (hf:∀g vs,C.G g=some vs->vs.all gfl=true) :
  Calls C.P f args' W λe x=>e = .returned r/\x.os=W.os/\x.output=W.output/\x.tape=W.tape/\∀b,b<W.heap.size->x.heap[b]?=W.heap[b]?:=by
 let mu:HMap:=λid=>(k[id]?).bind (·.2)
 have I:MuAt mu 0 k:=λi b E=>by simp only[mu,qaR,E,qao]
 have q:∀(id:Nat) o,(k.map (·.1))[id]?=some o->∃b,k[id]?=some b/\o=b.1/\sZ W b:=by
  intro id o A;rw[qan]at A;obtain⟨b,a,rfl⟩:=qah.1 A;exact⟨b,a,rfl,F b (qab a)⟩
 have s:∀(id:Nat) o,(k.map (·.1))[id]?=some o->o.owned=false:=by
  intro id o A;obtain⟨b,_,rfl,m⟩:=q id o A;rcases m with m|⟨vs,e,p,c,t,fr,m,_⟩<;>rw[m]<;>rfl
 have J:∀b,¬Own mu (k.map (·.1)) b:=by
  rintro b ⟨id,o,p,a,d,_⟩;rw[s id o a]at d;cases d
 have D:WR C W.heap.size mu (k.map (·.1)) W:=by
  refine⟨λid o a d=>?_,λi j oi oj pi pj a d m=>?_,λi o p a d=>?_,λi o p a d _ z=>?_,λid a=>?_,λg vs N=>?_⟩
  ·obtain⟨b,K,rfl,l⟩:=q id o a;rcases l with l|⟨vs,e,p,c,t,fr,l,L,Q,R,S,T,B,u,w⟩
   ·rw[l]at d;cases d
   ·refine⟨p,by simp only[mu,K,qao,L],?_⟩;rw[l];refine⟨Q,T,S,c,t,fr,B,u,λh=>by(cases h),λi v O=>⟨v,w i v O,.of_flat (qac.1 R v (qab O))⟩⟩
  ·rw[s i oi a]at m;cases m
  ·rw[s i o a]at d;cases d
  ·obtain⟨b,K,rfl,l⟩:=q i o a;rcases l with l|⟨vs,e,p',c,t,fr,l,L,Q,R,S,T,B,u,w⟩
   ·rw[l]at d;cases d
   ·simp only[mu,K,qao,L,qaI]at z;subst z;rcases qaP p'.b W.heap.size with h|h
    ·exact h
    ·rw[qbF h]at B;cases B
  ·simp only[mu];rw[qak (by simpa using a)];rfl
  ·obtain⟨a,d,c,e,fr,z,h5⟩:=hG g vs N;exact⟨a,d,c,e,fr,z,wW (hf g vs N) h5⟩
 intro Z;obtain⟨v,ad,w',U,a2,y,_,M⟩:=h _ W.heap.size mu W args' (qaj _) (n mu I) D Z;rw[rL hr U]at M;obtain⟨fr,V,X,Y⟩:=M;exact⟨.returned r,w',fr,⟨rfl,y.os,y.output,y.tape,λb E=>y.keep b E (J b)⟩,V,X,Y⟩
def post_sl{P:TD}{f:Func}{s:ChangeSpec}{c g d:Bool}{W e:World}{args:Tj}{v:Value}{ds k:List (DataW H)}{a n:List MemPlace}
  (q:DataW.Whole enc P f.params.toList s.vars c W args.toList ds k a)
  (l:∀(b:Nat) (m:Tt) (r:Bool),DataW.TrodAll enc P e b m r f.resultTypes.toList (v.resultList f.resultTypes.size) (s.fn H (ds++k)).results [])
  (i:DataW.TrodAll enc P e 0 (λb=>decide (b<W.heap.size)) true f.params.toList args.toList (s.fn H (ds++k)).args n)
  (j:∀m:Nat->Bool,DataW.TrodVars enc P e m s.vars (s.fn H (ds++k)).vars [])
  (h1:e.os=W.os) (o:e.output=W.output) (p:∀b,b<W.heap.size->e.heap[b]?=W.heap[b]?) :
  s.post enc P f c g d false W args v e:=
 ⟨ds,k,a,[],n,[],q,l _ _ _,i,j _,kept_of h1 o p _,λh=>by cases h⟩
end
end
section
variable [Val]
def ft{C:Cfg}{N:Tb}{Sg:Tc}(h:C.P.follows .mixedOrders=true){g:TK}{sg:Sig}(i:Sg g=some sg){ls b:TB}{H H':Tp}(f:let _:Kno:=KnoC C N;aB C Sg g ls H b H'){xs ys:List S0}(h1:db xs sg.ps=true)(c:cX xs=ls)(d:db ys sg.rs=true)(e:cX ys=b) :
  dP C g (aq xs) H (gj (aq ys)) H':=by
 let _:Kno:=KnoC C N
 obtain⟨j,m,n,a,c2,c3,c4⟩:=f;rw[i]at a;cases a;obtain⟨k,_⟩:=dz c2.1 h1 (c2.2.1.trans c.symm);obtain⟨l,_⟩:=dz c3.1 d (c3.2.1.trans e.symm);rw[k,l]at c4;exact uV h c4
end
end Sx
namespace Sx
def tB{α:Type}{ks:TE}{enc:α->Tk}{ok:α->Prop}(d:∀cs,FitC ks cs->∃a,enc a=cs/\ok a):∀(n:Nat) (c:Tk),c.length=n*ks.length->(∀i,i<n->FitC ks ((c.drop (i*ks.length)).take ks.length))->∃l:List α,l.length=n/\l.flatMap enc=c/\∀a∈l,ok a
 |0,c,e,_=>⟨[],rfl,by
   simp only[qch,qaY]at e;rw[e];rfl,λ_ h=>by cases h⟩
 |n+1,c,e,g=>by
  obtain⟨a,h1,j⟩:=d _ (by have:=g 0 (by omega);rw[qch,qbE]at this;exact this);obtain⟨l,k,m,o⟩:=tB d n (c.drop ks.length) (by rw[qbQ,e,qbz];omega) (λi p=>by
   have:=g (i+1) (by omega);rw[qbW];rw[qbz,qce,Nat.add_comm]at this;exact this)
  refine⟨a :: l,by simp[k],?_,λb f=>?_⟩
  ·rw[qaV,h1,m,qbv]
  ·rcases qax.1 f with rfl|f
   ·exact j
   ·exact o b f
def ls_of{α:Type}{ks:TE}{enc:α->Tk}{ok:α->Prop}(c:∀a,(enc a).length=ks.length)(d:∀cs,FitC ks cs->∃a,enc a=cs/\ok a){h:HL}{x:Value}{n:Nat}{b:Tk}(f:SlC h x ks.length n b)(k:∀i,i<n->FitC ks ((b.drop (i*ks.length)).take ks.length)) :
  ∃l:List α,LsH h x ks.length enc l/\l.length=n/\∀a∈l,ok a:=by
 obtain⟨l,e,g,j⟩:=tB d n b f.1 k;refine⟨l,⟨λa _=>c a,?_⟩,e,j⟩;rw[e,g];exact f
def bE.i{h:HL}{k:TF}{ks:List CK2}{ls:TB}(a:bE h (.i k :: ks) ls):∃n r,ls = .i n :: r/\(Lit.int k n).wf=true/\bE h ks r:=by
 match ls,a with
 | .i n :: r,a=>exact⟨n,r,rfl,a.1,a.2⟩
def bE.s{h:HL}{b:TE}{ks:List CK2}{ls:TB}(g:bE h (.s b :: ks) ls):∃x r n a,ls = .v x :: r/\SlC h x b.length n a/\n<=maxLen/\(∀i,i<n->FitC b ((a.drop (i*b.length)).take b.length))/\bE h ks r:=by
 match ls,g with
 | .v x :: r,⟨⟨n,a,c,d,e⟩,f⟩=>exact⟨x,r,n,a,rfl,c,d,e,f⟩
def bE.nil{h:HL}{ls:TB}(a:bE h [] ls):ls=[]:=by
 match ls,a with
 | [],_=>rfl
def hp_at(a:List Blk2):HpAt (a.map λb=>HO.o b.1) 0 a:=λi b c=>by
 rw[qaR,qan,c];rfl
def absH_bl(T:Tq)(a:List Blk2):absH T (a.map λb=>HO.o b.1)=a.map (·.1):=by
 induction a with
 |nil=>rfl
 |cons b l c=>show absO T (.o b.1) :: absH T (l.map λb=>HO.o b.1)=_;rw[c];rfl
end Sx
end Go.Am
namespace Go.Am
open Sx Go.Proofs
def dec8(cs:Tk)(h:FitC [.i .u8,.i .u8,.i .u8] cs):∃a:Tr8,pL a=cs/\okT8 a:=by
 obtain⟨d,e,f,rfl⟩ : ∃d e f,cs=[d,e,f]:=by
  have o:=FitC.len h
  match cs,o with
  | [d,e,f],_=>exact⟨d,e,f,rfl⟩
 obtain⟨⟨a,rfl,l⟩,⟨b,rfl,m⟩,⟨c,rfl,n⟩,_⟩:=h;have g:=uZ l;have j:=uZ m;have k:=uZ n;exact⟨(a,b,c),rfl,g.1,g.2,j.1,j.2,k.1,k.2⟩
structure BothC(ls:TB)(H:HL)(lx ix:Value)(e:Int)(h1:HL):Prop where
 c:aB cc ab 63 ls (absH aa H) [.v lx,.v ix,.i e] (absH aa h1)
 p:Pre H h1
 g1:az lx=true
 g2:az ix=true
section
variable {w v t a b e:Int} {x lx ix:Value} {H h1:HL} (hx:az x=true) (hb:BothC [.i w,.i v,.v x,.i t,.i a,.i b] H lx ix e h1)
include hx hb
theorem places_b:aB cc ab 24 [.i w,.i v,.v x,.i t,.i a,.i b] (absH aa H) [.v lx,.i e] (absH aa h1):=by
 exact xK x24 (glsI (glsI (glsV hx (glsI (glsI (glsI gls0)))))) (by
  unfold f24;simp only[qxh]
  repeat (first|simp(disch:=omega)only[↓qXX]|refine ai hb.c ?_)
  trivial)
theorem mW:aB cc ab 25 [.i w,.i v,.v x,.i t,.i a,.i b] (absH aa H) [.v ix,.i e] (absH aa h1):=by
 exact xK x25 (glsI (glsI (glsV hx (glsI (glsI (glsI gls0)))))) (by
  unfold f25;simp only[qxh]
  repeat (first|simp(disch:=omega)only[↓qXX]|refine ai hb.c ?_)
  trivial)
end
def encI64(n:Int):Tk:=[.int .i64 n]
def yY{l:Ln}(c:1<=l.1/\l.1<=4)(b:-100000<=l.2/\l.2<=100000):Cc 57 [.i (.ofNat l.1),.i l.2] (mvl (ofM l)):=by
 obtain⟨k,n⟩:=l;simp only at c b;refine q57 rfl ?_;unfold f57;simp only[qxh];have a:k=1∨k=2∨k=3∨k=4:=by omega
 rcases a with rfl|rfl|rfl|rfl
 all_goals
  simp only[of0,of1,of2,of3,of4,of5,of6,of7]
  repeat (first|simp(disch:=omega)only[↓qXX])
  try simp[ofM,mvl]
def side28_c{l:Ln}{c:Cl}(u:1<=l.1/\l.1<=4)(v:-100000<=l.2/\l.2<=100000)(j:c.2.2<4)(r:-100000<=c.1/\c.1<=100000/\-100000<=c.2.1/\c.2.1<=100000):Cc 58 ([.i (.ofNat l.1),.i l.2]++cll c) [.i (if di l c then 1 else 0)]:=by
 obtain⟨k,n⟩:=l;simp only at u v;have s:=qi j r;have w:-1000000<=(insP c).1/\(insP c).1<=1000000/\-1000000<=(insP c).2/\(insP c).2<=1000000:=by
  obtain⟨x,y,q⟩:=c;simp only at j r;rcases quad j with rfl|rfl|rfl|rfl<;>simp only[insP,inX,inY]<;>omega
 have b:∀d:Int,(match k with|1=>(insP c).1|2=>(insP c).2|3=>(insP c).1+(insP c).2|_=>(insP c).2 - (insP c).1)=d->(di (k,n) c=true↔¬d<6*n):=by
  intro d t;subst t;obtain⟨x,y,q⟩:=c;simp only at j;have m:k=1∨k=2∨k=3∨k=4:=by omega
  rcases m with rfl|rfl|rfl|rfl<;>rcases quad j with rfl|rfl|rfl|rfl
  all_goals
   simp[di,insP,inX,inY];omega
 refine q58 rfl ?_;unfold f58;simp only[qxh];simp only[cll,qag,qaf]at s ⊢;generalize insP c=p at *
 let L:Tz:=[0,p.1,p.2,p.1+p.2,p.2 - p.1]
 have f:LsH [HO.o (.cells [.int .i64 0,.int .i64 p.1,.int .i64 p.2,.int .i64 (p.1+p.2),.int .i64 (p.2 - p.1)] 1 true)] (.slice (some ⟨([]:HL).length,0,tag 1⟩) 5 6) 1 encI64 L:=bT (enc:=encI64) (e:=1) (L:=L) (λ_=>rfl) rfl rfl;have m:k=1∨k=2∨k=3∨k=4:=by omega
 rcases m with rfl|rfl|rfl|rfl
 all_goals
  have b:=b _ rfl;simp only at b;simp only[of0,of1,of2,of3,of4,of5,of6,of7]
  repeat (first|simp(disch:=omega)only[↓qXX]|refine ah s ?_)
 case' inl=>refine aQ (i:=1) (a:=p.1) f rfl rfl ?_
 case' inr.inl=>refine aQ (i:=2) (a:=p.2) f rfl rfl ?_
 case' inr.inr.inl=>refine aQ (i:=3) (a:=p.1+p.2) f rfl rfl ?_
 case' inr.inr.inr=>refine aQ (i:=4) (a:=p.2 - p.1) f rfl rfl ?_
 all_goals
  unfold encI64;refine p_x ?_;cases g:di _ c with
  |true=>
   have:=b.1 g
   try rw[p_lss_f (by omega)]
   try simp(disch:=omega)only[↓qXX]
   try rfl
  |false=>
   have:¬ ¬_:=λh=>by rw[b.2 h]at g;cases g
   try rw[p_lss_t (by omega)]
   try simp(disch:=omega)only[↓qXX]
   try rfl
def larger_c{a b:Int}:Cc 86 [.i a,.i b] [.i (max a b)]:=by
 refine q86 rfl ?_;unfold f86;simp only[qxh];refine p_x ?_;by_cases h:b<a
 ·rw[p_gtr_t h];refine p_x ?_;rw[show max a b=a by omega]
 ·rw[p_gtr_f (by omega)];refine p_x ?_;rw[show max a b=b by omega]
def mirG_c{c:Cl}{e:Nat}(a:c.2.2<4)(f:e<3)(d:-100000<=c.1/\c.1<=100000/\-100000<=c.2.1/\c.2.1<=100000):Cc 34 (cll c++cll (nbC c e)) (mvl (ofM (lnC3 c e))):=by
 obtain⟨x,y,q⟩:=c;simp only at a d;have b:e=0∨e=1∨e=2:=by omega
 refine q34 rfl ?_;unfold f34;simp only[qxh];rcases quad a with rfl|rfl|rfl|rfl<;>rcases b with rfl|rfl|rfl
 all_goals
  simp only[nbC,cll,qag,qaf,show [1,0,3,2].getD 0 0=1 from rfl,show [1,0,3,2].getD 1 0=0 from rfl,show [1,0,3,2].getD 2 0=3 from rfl,show [1,0,3,2].getD 3 0=2 from rfl,show [3,2,1,0].getD 0 0=3 from rfl,show [3,2,1,0].getD 1 0=2 from rfl,show [3,2,1,0].getD 2 0=1 from rfl,show [3,2,1,0].getD 3 0=0 from rfl,of0,of1,of2,of3]
  repeat (first|simp(disch:=omega)only[↓qXX]|refine ah larger_c ?_)
  try (simp[ofM,lnC3,mvl];done)
  try (simp[ofM,lnC3,mvl];omega)
def between_c{c:Cl}{e:Nat}(a:c.2.2<4)(h:e<3)(d:-100000<=c.1/\c.1<=100000/\-100000<=c.2.1/\c.2.1<=100000):Cc 97 (cll c++cll (nbC c e)) [.i (.ofNat (lnC3 c e).1),.i (lnC3 c e).2]:=by
 have b:=mirG_c a h d;refine q97 rfl ?_;unfold f97;simp only[qxh];simp only[cll,qag,qaf]at b ⊢;have f:((lnC3 c e).1=1∨(lnC3 c e).1=2∨(lnC3 c e).1=3∨(lnC3 c e).1=4)/\-300000<=(lnC3 c e).2/\(lnC3 c e).2<=300000:=by
  obtain⟨x,y,q⟩:=c;simp only at a d;have g:e=0∨e=1∨e=2:=by omega
  rcases quad a with rfl|rfl|rfl|rfl<;>rcases g with rfl|rfl|rfl<;>simp[lnC3]<;>omega
 generalize lnC3 c e=l at *;obtain⟨k,n⟩:=l;simp only at f;obtain⟨rfl|rfl|rfl|rfl,j,m⟩:=f
 all_goals
  simp only[ofM,mvl,of4,of5,of6,of7]at b
  repeat (first|simp(disch:=omega)only[↓qXX]|refine ah b ?_)
  try (show [Lf.i 1,Lf.i _]=[Lf.i 1,Lf.i _];rw[show 2*n / 2=n by omega])
  try (show [Lf.i 2,Lf.i _]=[Lf.i 2,Lf.i _];rw[show 2*n / 2=n by omega])
  try rfl
abbrev Pas:=Nat×Nat×Ln
def encP(p:Pas):Tk:=[.int .i64 (Int.ofNat p.1),.int .i64 (Int.ofNat p.2.1),.int .u8 (Int.ofNat p.2.2.1),.int .i64 p.2.2.2]
def pasK(w v:Nat)(l:Ty)(G:TC)(r:Mv)(a k:Nat):Option Pas:=match nbr w v a (eK (a%4) k)with
 |some b=>if a<b/\kAt w v l a k=0 then some (a,b,lnC3 (al (af (G a) r) (clN w a)) (eT (af (G a) r).1 (eK (a%4) k)))else none
 |none=>none
def pasA(w v:Nat)(l:Ty)(G:TC)(r:Mv)(a:Nat):List Pas:=(List.range 3).filterMap (pasK w v l G r a)
def pasL(w v:Nat)(l:Ty)(G:TC)(r:Mv)(n:Nat):List Pas:=(List.range n).flatMap (pasA w v l G r)
def uD{w v:Nat}{l:Ty}{G:TC}{r:Mv}{n:Nat}:pasL w v l G r (n+1)=pasL w v l G r n++pasA w v l G r n:=by
 unfold pasL;rw[qcs,qbB];simp
def xM{w v:Nat}{l:Ty}{G:TC}{r:Mv}{a k:Nat}:((List.range k).filterMap (pasK w v l G r a)).length<=k:=qbN (qdB _ _) (by simp)
def ko{w v:Nat}{l:Ty}{G:TC}{r:Mv}:∀ {n:Nat},(pasL w v l G r n).length<=3*n
 |0=>by simp[pasL]
 |n+1=>by
  rw[uD,qau];have a:=ko (w:=w) (v:=v) (l:=l) (G:=G) (r:=r) (n:=n);have b:(pasA w v l G r n).length<=3:=xM;omega
def jN{α:Type}{f:Nat->Option α}{k:Nat}:(List.range (k+1)).filterMap f=(List.range k).filterMap f++(f k).toList:=by
 rw[qcs,List.filterMap_append];cases h:f k<;>simp[h]
def xN{w v:Nat}(L:S3 w v){l:Ty}{H:HL}{x xs:Value}(hl:LsH H x 3 encC l)(ay:az xs=true)(hv:∀c∈l,VC w v c)(W:∀c∈l,c.2.2≠0)(hn:l.length<=1000){r:Mv}(hr:okM 10000 r){G:TC}(V:ConsO w v l G) :
  ∃z h',aB cc ab 56 ([.i (.ofNat w),.i (.ofNat v),.v x]++mvl r++[.v xs]) (absH aa H) [.v z] (absH aa h')/\Pre H h'/\az z=true/\LsH h' z 4 encP (pasL w v l G r (4*w*v)):=by
 have Y:=L.sh;obtain⟨b1,b2,b3,b4⟩:=L.n;have hN:=sh_N Y;obtain⟨a8,h1,c1,a3,N⟩:=lF L hl hv W hn (r:=r) (aO hr (by omega));have a4:=x56 (ls:=[.i (.ofNat w),.i (.ofNat v),.v x,.i (Int.ofNat r.1),.i r.2.1,.i r.2.2,.v xs]) (K:=λrs h'=>∃z,rs=[.v z]/\Pre H h'/\az z=true/\LsH h' z 4 encP (pasL w v l G r (4*w*v))) (H:=H) (glsI (glsI (glsV hl.good (glsI (glsI (glsI (glsV ay gls0))))))) (by
  unfold f56;simp only[qxh];refine p_x ?_;refine ai c1 ?_;rcases a3 with⟨rfl,M⟩|⟨G',T,ad,rfl,B,rfl⟩
  ·exact absurd ⟨G,V.g,V.z⟩ M
  refine p_x ?_;have ag:plL w v G' r=plL w v G r:=by
   unfold plL;refine qbl λc hc=>?_;rw[uM Y ad V (qae.1 hc)]
  have a0:LsH (o3 H (plL w v G r) B T) (.slice (some ⟨H.length,0,tag 3⟩) (4*w*v) (4*w*v+1)) 3 encM (plL w v G r):=bT bW o3_0 (by simp[plL]);rw[ag]at N ⊢;have c3:=pw L (hl.pre N) hv hn;refine ai c3 ?_;refine p_x ?_;generalize o3 H (plL w v G r) B T=J at *;have aE:LsH (J++[tblk (tabL w v l)]) (.slice (some ⟨J.length,0,tag 1⟩) (12*w*v) (12*w*v+1)) 1 enc8 (tabL w v l):=bT jL ao iU.symm;have X:Pre J (J++[tblk (tabL w v l)]):=⟨_,rfl⟩;have A:=a0.pre X;have a2:=N.trans X;generalize J++[tblk (tabL w v l)]=I at *;refine aS (σ:=HL×Value) (4*w*v) (λj s=>[.v s.2,.i (Int.ofNat j)]) (λ_ s=>s.1) (λj s=>Pre I s.1/\az s.2=true/\MkL I.length s.1 s.2 4 encP (pasL w v l G r j)) (j0:=0) (s0:=(I,.slice none 0 0)) rfl rfl (qaC _) ⟨.refl _,rfl,.nil _ _ _ _⟩ ?_;rintro a ⟨h,z⟩ ha ⟨f,p,C⟩ a6 O;simp only at f p C ⊢;refine p_x ?_;refine br (A.pre f) ?_;rw[show(plL w v G r).length=4*w*v by simp[plL]];by_cases o:a<4*w*v
  case neg=>
   obtain rfl:a=4*w*v:=by omega
   rw[aC (qaj _)];refine p_x ?_;exact⟨z,rfl,a2.trans f,p,C.ls⟩
  rw[aD o];refine p_x ?_;refine aS (σ:=HL×Value) 3 (λk s=>[.v s.2,.i (Int.ofNat k)]) (λ_ s=>s.1) (λk s=>Pre I s.1/\az s.2=true/\MkL I.length s.1 s.2 4 encP (pasL w v l G r a++(List.range k).filterMap (pasK w v l G r a))) (j0:=0) (s0:=(h,z)) rfl rfl (qaC _) ⟨f,p,by simpa using C⟩ ?_;clear f p C;rintro k ⟨h,z⟩ hk ⟨f,p,C⟩ R t;simp only at f p C ⊢;refine p_x ?_;by_cases D:k<3
  case neg=>
   obtain rfl:k=3:=by omega
   rw[p_lss_f (show(3:Int)<=Int.ofNat 3 from qbZ _)];refine p_x ?_;rw[aL (by omega)];exact O (h,z) o ⟨f,p,by rw[uD];exact C⟩
  rw[p_lss_t (show Int.ofNat k<3 by show(k:Int)<3;omega)];refine p_x ?_;refine ah (ur L o D) ?_;have q:pasK w v l G r a k=none->R [.v z,.i (Int.ofNat k+1)] h:=λM=>t (h,z) D ⟨f,p,by rw[jN,M];simpa using C⟩;have E:=fW (a%4) k;cases F:nbr w v a (eK (a%4) k)with
  |none=>
   rw[show nbI w v a k = -1 by unfold nbI;rw[F]];refine p_x ?_;rw[p_lss_t (show(-1:Int)<Int.ofNat a by have:=qaG a;show(-1:Int)<(a:Int);omega)];refine p_x ?_;rw[aL (by omega)];exact q (by unfold pasK;rw[F])
  |some b=>
  rw[show nbI w v a k=Int.ofNat b by unfold nbI;rw[F]];obtain⟨U,g2,g3,g4,g5⟩:=eC Y o E F;refine p_x ?_;by_cases ar:b<a
  ·rw[aD ar];refine p_x ?_;rw[aL (by omega)];exact q (by unfold pasK;rw[F];simp only;rw[qd1 (by omega)])
  rw[aC (by omega)];refine p_x ?_;rw[mul_3 (by omega)];refine p_y ?_;rw[tk (by omega)];refine p_y ?_;refine aQ (aE.pre f) rfl (kM o D) ?_;rw[show enc8 (kAt w v l a k)=[.int .u8 (kAt w v l a k)]from rfl];refine p_x ?_;by_cases u:kAt w v l a k=0
  case neg=>
   rw[p_neq_t u];refine p_x ?_;rw[aL (by omega)];exact q (by unfold pasK;rw[F];simp only;rw[qd1 (by omega)])
  rw[p_neq_f u];refine p_x ?_;have ax:isCr l (min a b) (eK (a%4) k)=false:=by
   rw[←qaU,←qk W];intro h;refine h ?_;unfold kAt at u;rw[F]at u;exact u
  have an:G b=G a:=by
   rw[V.g a _ b o E F];unfold acM;rw[qd1 (by rw[ax];simp)]
  have y:okM 20000 (af (G a) r):=aO (dJ (V.ok a o) hr) (by omega);have S:=dc Y o;have rb:=dc Y U;have pa:=iC (G:=G) (r:=r) o;have pb:=iC (G:=G) (r:=r) U;rw[an]at pb;have P:pasK w v l G r a k=some (a,b,lnC3 (al (af (G a) r) (clN w a)) (eT (af (G a) r).1 (eK (a%4) k))):=by
   unfold pasK;rw[F];simp only;rw[qd0 ⟨by omega,u⟩]
  generalize af (G a) r=m at *;have rm:=uq y (c:=clN w a) (k:=1000) ⟨S.1,S.2.1,S.2.2.1,S.2.2.2.1⟩;have Z:=ik (m:=m) (c:=clN w a) y.1 (by obtain⟨_,U,g2,g3,g4,_⟩:=y;omega) S.2.2.2.2 (by omega);have Q:=ik (m:=m) (c:=clN w b) y.1 (by obtain⟨_,U,g2,g3,g4,_⟩:=y;omega) rb.2.2.2.2 (by omega);rw[g4,iw y.1 S.2.2.2.2 E]at Q;have bt:=between_c (c:=al m (clN w a)) (e:=eT m.1 (eK (a%4) k)) rm.2.2.2.2 (pJ E) (by omega);have k1:=fU L o;have k2:=fU L U;rw[g4]at k2;generalize nbC (al m (clN w a)) (eT m.1 (eK (a%4) k))=d at *;generalize lnC3 (al m (clN w a)) (eT m.1 (eK (a%4) k))=ln at *;simp only[cll,mvl,qag,qaf]at k1 k2 Z Q bt;refine aQ (A.pre f) rfl pa ?_;rw[show encM m=[.int .u8 (Int.ofNat m.1),.int .i64 m.2.1,.int .i64 m.2.2]from rfl];refine p_x ?_;refine ah k1 ?_;refine p_x ?_;refine ah Z ?_;refine p_x ?_;refine aQ (A.pre f) rfl pb ?_;rw[show encM m=[.int .u8 (Int.ofNat m.1),.int .i64 m.2.1,.int .i64 m.2.2]from rfl];refine p_x ?_;refine ah k2 ?_;refine p_x ?_;refine ah Q ?_;refine p_x ?_;refine ah bt ?_;refine p_x ?_;have a7:=ko (w:=w) (v:=v) (l:=l) (G:=G) (r:=r) (n:=a);have a5:=xM (w:=w) (v:=v) (l:=l) (G:=G) (r:=r) (a:=a) (k:=k)
  refine p_app1 (h0:=I) (a:=((a,b,ln):Pas)) f C rfl rfl rfl rfl (by
   unfold bh;rw[qau,qal (by omega),qal (by omega)];rfl) ?_
  intro z' h' a1 ap hg _ _;refine p_x ?_;refine ac hg ?_;refine p_y ?_;rw[aL (by omega)];exact t (h',z') D ⟨a1,hg,by rw[jN,P,←qai];exact ap⟩)
 obtain⟨rs,h',J,z,rfl,I,h5,h6⟩:=a4;exact⟨z,h',J,I,h5,h6⟩
end Go.Am
end

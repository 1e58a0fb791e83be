/-
  PART 6 OF THE PROOF (no conditions).
-/
import Derived.Test.YtiimabnndpeioaaGreatDoorSO5
set_option linter.unusedSectionVars false
set_option linter.unusedSimpArgs false
set_option linter.unusedVariables false
set_option linter.constructorNameAsVariable false
set_option linter.defProp false
noncomputable section
set_option maxRecDepth 100000
set_option maxHeartbeats 16000000
namespace Go.Am
open Sx Go.Proofs
def nk{g:TK}{sg:Sig}{cap:Tk}{ls b:TB}{H H':Tp}{args:Tk}(e:aD cc ab g ls H b H')(f:ab g=some sg)(xs:List S0)(h1:cX xs sg.ps=true)(c:cP xs=ls)(d:au xs=args++cap) :
  sZ cc (.func (.func g) ⟨[]⟩ ⟨cap⟩) args sg.rs H b H':=by
 obtain⟨h,j,k,a,c2,c3,c4⟩:=e;rw[f]at a;cases a;obtain⟨i,_⟩:=dy c2.1 h1 (c2.2.1.trans c.symm);rw[i,d]at c4;exact⟨k,c3,.inl ⟨g,⟨[]⟩,⟨cap⟩,rfl,by simpa using c4⟩⟩
abbrev te(b:Nat):Value:=.pointer (some ⟨b,0,none⟩)
def dK{h:HL}{b e:Nat}{cs:Tk}(a:h[b]?=some (.o (.cells cs e true))):Ptr h (te b) cs:=⟨b,0,cs,e,true,rfl,a,Sx.cut_all rfl⟩
def aY(b:Nat):aB (te b)=true:=by simp[aB,noLoc,aP,bg,aW,aG,aw]
def cQ{h:HL}{p:Value}{cs:Tk}{K:Te}{n:Nat}(c:Ptr h p cs)(b:cs.length=n)(a:K cs):P1.peek (.lg cc n p) h (@hid _ ⟨K⟩):=gj (c.lg b) a
def iz{h:HL}{p:Value}{cs ds:Tk}{K:Te}{o n:Nat}(f:Ptr h p cs)(e:o+n<=cs.length)(c:ds=(cs.drop o).take n)(d:K ds) :
  P1.opt (Ag o p) (@hid _ ⟨λy=>P1.chk y (@hid _ ⟨P1.peek (.lg cc n y) h (@hid _ ⟨K⟩)⟩)⟩):=by
 subst c;obtain⟨q,b,a⟩:=f.fd o n e;refine ah b (ac a.good (gj (a.lg ?_) d));rw[BN,MM];omega
def dW{h:HL}{b e:Nat}{cs ds:Tk}{K:Te}{o n:Nat}(a:h[b]?=some (.o (.cells cs e true)))(f:o+n<=cs.length)(c:ds=(cs.drop o).take n)(d:K ds) :
  P1.opt (zN (te b)) (@hid _ ⟨λx=>P1.chk x (@hid _ ⟨P1.opt (Ag o x) (@hid _ ⟨λy=>P1.chk y (@hid _ ⟨P1.peek (.lg cc n y) h (@hid _ ⟨K⟩)⟩)⟩)⟩)⟩):=
 ah (x:=te b) rfl (ac (aY b) (iz (dK a) f c d))
def jU{h:HL}{b e:Nat}{cs new:Tk}{K:Ta}{o:Nat}(c:h[b]?=some (.o (.cells cs e true)))(f:o+new.length<=cs.length)(d:K [] (h.set b (.o (.cells (cs.take o++new++cs.drop (o+new.length)) e true)))) :
  P1.opt (zN (te b)) (@hid _ ⟨λx=>P1.chk x (@hid _ ⟨P1.opt (Ag o x) (@hid _ ⟨λy=>P1.chk y (@hid _ ⟨P1.heap (.st y new) h (@hid _ ⟨K⟩)⟩)⟩)⟩)⟩):=by
 refine ah (x:=te b) rfl (ac (aY b) (ah (x:=.pointer (some ⟨b,0+o,none⟩)) rfl (ac (by simp[aB,noLoc,aP,bg,aW,aG,aw]) ?_)));have a:(Hp.st (.pointer (some ⟨b,0+o,none⟩)) new).run (wb aa h) h.length=some ([.set b (.cells (cs.take o++new++cs.drop (o+new.length)) e true)],[]):=by
  show ES (.pointer (some ⟨b,0+o,none⟩)) new (wb aa h) h.length=_;unfold ES;simp only;rw[bF c];simp only;unfold splice;rw[Br,mc f];rfl
 exact bZ a d
def zm{h:HL}{b e:Nat}{vs new:Tk}{K:Ta}(c:h[b]?=some (.o (.cells vs e true)))(f:new.length=vs.length)(d:K [] (h.set b (.o (.cells new e true)))):P1.heap (.st (te b) new) h (@hid _ ⟨K⟩):=by
 have a:(Hp.st (te b) new).run (wb aa h) h.length=some ([.set b (.cells new e true)],[]):=by
  show ES (te b) new (wb aa h) h.length=_;unfold ES;simp only;rw[bF c];simp only;unfold splice;rw[mc (by omega)];simp[f]
 exact bZ a d
def mT{b:Td}{m:(TB->HL->Prop)->Prop}(P:Td)(h1:∀l h,P l h->b l h)(a:∀j:TB->HL->Prop,(∀l h,P l h->j l h)->m j):P1.join (@hid _ ⟨b⟩) (@hid _ ⟨m⟩):=a _ h1
def EH{a b:Int}{K:Tm}(h:∀t,t=decide (a=b)->K t):P1.cmp .eql a b (@hid _ ⟨K⟩):=by
 show K (a==b);exact h _ (by rw[Ir];simp)
def eG{h:HL}{a b:HO}:(h++[a]).set h.length b=h++[b]:=by simp
def aA{h:HL}{a:HO}:(h++[a])[h.length]?=some a:=by simp
def ji{h:HL}{a:HO}{i:Nat}{o:HO}(b:h[i]?=some o):(h++[a])[i]?=some o:=Pre.get ⟨_,rfl⟩ b
def aV{h:HL}{a:HO}{i j:Nat}{o:HO}(c:h[i]?=some o)(b:j≠i):(h.set j a)[i]?=some o:=by
 rw[BL b];exact c
def fc{h:HL}{a b:HO}{i:Nat}(c:h[i]?=some a):(h.set i b)[i]?=some b:=CQ (aq c)
def Low(n0:Nat)(h h':HL):Prop:=∀(j:Nat) o,j<n0->h[j]?=some o->h'[j]?=some o
theorem Low.refl{n0:Nat}(h:HL):Low n0 h h:=λ_ _ _ h=>h
def Low.trans{n0:Nat}{a b c:HL}(h:Low n0 a b)(k:Low n0 b c):Low n0 a c:=λj o d e=>k j o d (h j o d e)
def Low.app{n0:Nat}{a b:HL}(h:Low n0 a b)(G:HL):Low n0 a (b++G):=λj o c d=>Pre.get ⟨_,rfl⟩ (h j o c d)
def Low.set{n0:Nat}{a b:HL}(h:Low n0 a b){i:Nat}(f:n0<=i)(o:HO):Low n0 a (b.set i o):=λj e c d=>aV (h j e c d) (by omega)
def Low.le{n0 c:Nat}{a b:HL}(h:Low n0 a b)(f:c<=n0):Low c a b:=λj o e d=>h j o (by omega) d
def Low.ls{α:Type}{n0:Nat}{h h':HL}(c:Low n0 h h'){v:Value}{e:Nat}{enc:α->Tk}{l:List α}(f:LsH h v e enc l)(a:∀i,blk v=some i->i<n0):LsH h' v e enc l:=f.keep λj o d b=>c j o (a j b) d
def Sx.LsH.blkLt{α:Type}{h:HL}{v:Value}{e:Nat}{enc:α->Tk}{l:List α}(c:LsH h v e enc l){i:Nat}(a:blk v=some i):i<h.length:=by
 obtain⟨_,_,⟨rfl,_⟩|⟨id,d,g,j,f,rfl,b,_⟩⟩:=c
 ·cases a
 ·cases a;exact aq b
def Sx.LsH.low{α:Type}{h h':HL}{v:Value}{e:Nat}{enc:α->Tk}{l:List α}(a:LsH h v e enc l)(c:Low h.length h h'):LsH h' v e enc l:=c.ls a λ_ b=>a.blkLt b
def OwnL{α:Type}(n0:Nat)(h:HL)(v:Value)(e:Nat)(enc:α->Tk)(l:List α):Prop:=
 (v = .slice none 0 0/\l=[])∨∃id cx,v = .slice (some ⟨id,0,pu e⟩) l.length cx/\n0<=id/\h[id]?=some (.o (.cells (l.flatMap enc) e true))/\(cx=0∨cx=l.length+1)
section
variable {α:Type} {n0 e:Nat} {enc:α->Tk} {l:List α} {h:HL} {v:Value}
def OwnL.nil(n0:Nat)(h:HL)(e:Nat)(enc:α->Tk):OwnL n0 h (.slice none 0 0) e enc []:=.inl ⟨rfl,rfl⟩
def OwnL.ls(b:∀a,(enc a).length=e)(g:OwnL n0 h v e enc l):LsH h v e enc l:=by
 have c:=ba (e:=e) (enc:=enc) (l:=l) λa _=>b a;rcases g with⟨rfl,rfl⟩|⟨id,d,rfl,_,f,_⟩
 ·exact LsH.nil h e enc
 ·exact⟨λa _=>b a,c,.inr ⟨id,0,d,_,true,rfl,f,Sx.cut_all c⟩⟩
def OwnL.keep{h':HL}(i:OwnL n0 h v e enc l)(g:∀(j:Nat) o,h[j]?=some o->blk v=some j->h'[j]?=some o):OwnL n0 h' v e enc l:=by
 rcases i with b|⟨id,a,rfl,c,d,f⟩
 ·exact .inl b
 ·exact .inr ⟨id,a,rfl,c,g _ _ d rfl,f⟩
def OwnL.app(a:OwnL n0 h v e enc l)(G:HL):OwnL n0 (h++G) v e enc l:=a.keep λ_ _ h _=>Pre.get ⟨_,rfl⟩ h
def OwnL.blk(d:OwnL n0 h v e enc l){j:Nat}(a:blk v=some j):n0<=j/\j<h.length:=by
 rcases d with⟨rfl,_⟩|⟨id,f,rfl,b,c,_⟩
 ·cases a
 ·cases a;exact⟨b,aq c⟩
def OwnL.good(b:∀a,(enc a).length=e)(c:OwnL n0 h v e enc l):aB v=true:=(c.ls b).good
def OwnL.ap{bytes k:Nat}{x:Value}{new:List α}{K:Ta}(q:∀a,(enc a).length=e)(H:OwnL n0 h v e enc l)(r:n0<=h.length)(t:Iy cc e (wb aa h) x=some (new.flatMap enc,k))(B:k=new.length)(z:bh (l.length+k) bytes=true)
  (s:∀v' h',OwnL n0 h' v' e enc (l++new)->aB v'=true->(∀(j:Nat) o,h[j]?=some o->Sx.blk v≠some j->h'[j]?=some o)->h.length<=h'.length->(Sx.blk v'=Sx.blk v∨∃j,Sx.blk v'=some j/\h.length<=j)->K [v'] h') :
  P1.heap (.ap cc e bytes v x) h (@hid _ ⟨K⟩):=by
 subst B;have y:(l++new).length=l.length+new.length:=A5;have w:l.flatMap enc++new.flatMap enc=(l++new).flatMap enc:=by simp
 have u:∀i n c,aB (.slice (some ⟨i,0,pu e⟩) n c)=true:=λi n c=>by simp[aB,noLoc,aP,bg,aW,aG,aw,pu]
 rcases H with⟨rfl,rfl⟩|⟨id,I,rfl,C,p,D⟩
 ·by_cases f:new.length=0
  ·have d:new=[]:=qa5.1 f;subst d;have b:(Hp.ap cc e bytes (.slice none 0 0) x).run (wb aa h) h.length=some ([],[.slice none 0 0]):=by
    show BS cc e bytes (.slice none 0 0) x (wb aa h) h.length=_;unfold BS;rw[t];rfl
   exact bZ b (s _ _ (.inl ⟨rfl,rfl⟩) rfl (λj o m _=>m) (zY _) (.inl rfl))
  ·have b:(Hp.ap cc e bytes (.slice none 0 0) x).run (wb aa h) h.length=some ([.push (.cells (new.flatMap enc) e true)],[.slice (some ⟨h.length,0,pu e⟩) new.length 0]):=by
    show BS cc e bytes (.slice none 0 0) x (wb aa h) h.length=_;unfold BS;rw[t];simp only[po f];rw[UP,Br]at z;rw[mc z]
   refine bZ b (s _ _ (.inr ⟨h.length,0,by simp,r,by simp[bL,Act1.onH],.inl rfl⟩) (u _ _ _) (λj o m _=>Pre.get ⟨_,rfl⟩ m) (by simp[bL,Act1.onH]) (.inr ⟨h.length,rfl,zY _⟩))
 ·have g:cut (l.flatMap enc) 0 (l.length*e)=some (l.flatMap enc):=Sx.cut_all (ba λa _=>q a);have G:=aq p;rcases D with rfl|rfl
  ·by_cases f:new.length=0
   ·have d:new=[]:=qa5.1 f;subst d;have b:(Hp.ap cc e bytes (.slice (some ⟨id,0,pu e⟩) l.length 0) x).run (wb aa h) h.length=some ([],[.slice (some ⟨id,0,pu e⟩) l.length 0]):=by
     show BS cc e bytes (.slice (some ⟨id,0,pu e⟩) l.length 0) x (wb aa h) h.length=_;unfold BS;rw[t];simp only[ne_eq,not_true_eq_false,if_false];rw[bF p];simp only[ne_eq,not_true_eq_false,if_false];rw[g];rfl
    exact bZ b (s _ _ (.inr ⟨id,0,by simp,C,by simpa[bL]using p,.inl rfl⟩) (u _ _ _) (λj o m _=>m) (zY _) (.inl rfl))
   ·have b:(Hp.ap cc e bytes (.slice (some ⟨id,0,pu e⟩) l.length 0) x).run (wb aa h) h.length=some ([.set id .dead,.push (.cells ((l++new).flatMap enc) e true)],[.slice (some ⟨h.length,0,pu e⟩) (l.length+new.length) 0]):=by
     show BS cc e bytes (.slice (some ⟨id,0,pu e⟩) l.length 0) x (wb aa h) h.length=_;unfold BS;rw[t];simp only[ne_eq,not_true_eq_false,if_false];rw[bF p];simp only[ne_eq,not_true_eq_false,if_false];rw[g];simp only[po f,qdo];rw[mc z,w]
    have A:bL h [.set id .dead,.push (.cells ((l++new).flatMap enc) e true)]=h.set id (.o .dead)++[.o (.cells ((l++new).flatMap enc) e true)]:=rfl;refine bZ b ?_;rw[A];refine s _ _ (.inr ⟨h.length,0,by rw[y],r,?_,.inl rfl⟩) (u _ _ _) (λj o m E=>?_) (by simp) (.inr ⟨h.length,rfl,zY _⟩)
    ·rw[Cd (by simp)];simp
    ·exact ji (aV m λe=>E (by subst e;rfl))
  ·by_cases f:l.length+new.length<=l.length
   ·have d:new=[]:=qa5.1 (by omega);subst d;have b:(Hp.ap cc e bytes (.slice (some ⟨id,0,pu e⟩) l.length (l.length+1)) x).run (wb aa h) h.length=some ([.set id (.cells (l.flatMap enc) e true)],[.slice (some ⟨id,0,pu e⟩) l.length (l.length+1)]):=by
     show BS cc e bytes (.slice (some ⟨id,0,pu e⟩) l.length (l.length+1)) x (wb aa h) h.length=_;unfold BS;rw[t];simp only[ne_eq,not_true_eq_false,if_false];rw[bF p];simp only[ne_eq,not_true_eq_false,if_false];rw[g];simp only[UP,UM,zY,if_true];unfold splice;have F:=ba (e:=e) (enc:=enc) (l:=l) λa _=>q a;simp[F]
    have A:bL h [.set id (.cells (l.flatMap enc) e true)]=h:=bC p;refine bZ b ?_;rw[A];exact s _ _ (.inr ⟨id,l.length+1,by simp,C,by simpa using p,.inr (by simp)⟩) (u _ _ _) (λj o m _=>m) (zY _) (.inl rfl)
   ·have b:(Hp.ap cc e bytes (.slice (some ⟨id,0,pu e⟩) l.length (l.length+1)) x).run (wb aa h) h.length=some ([.push (.cells ((l++new).flatMap enc) e true)],[.slice (some ⟨h.length,0,pu e⟩) (l.length+new.length) 0]):=by
     show BS cc e bytes (.slice (some ⟨id,0,pu e⟩) l.length (l.length+1)) x (wb aa h) h.length=_;unfold BS;rw[t];simp only[ne_eq,not_true_eq_false,if_false];rw[bF p];simp only[ne_eq,not_true_eq_false,if_false];rw[g];simp only[po f];rw[mc z,w]
    refine bZ b (s _ _ (.inr ⟨h.length,0,by rw[y],r,by simp[bL,Act1.onH],.inl rfl⟩) (u _ _ _) (λj o m _=>Pre.get ⟨_,rfl⟩ m) (by simp[bL,Act1.onH]) (.inr ⟨h.length,rfl,zY _⟩))
def OwnL.ap1{bytes m:Nat}{a:α}{new:Tk}{n:To}{K:Ta}(b:∀a,(enc a).length=e)(A:OwnL n0 h v e enc l)(z:n0<=h.length)(y:m=h.length)(c:new=enc a)(i:n=some (e+10))(B:bh (l.length+1) bytes=true)
  (x:∀v' h',OwnL n0 h' v' e enc (l++[a])->aB v'=true->(∀(j:Nat) o,h[j]?=some o->Sx.blk v≠some j->h'[j]?=some o)->h.length<=h'.length->(Sx.blk v'=Sx.blk v∨∃j,Sx.blk v'=some j/\h.length<=j)->K [v'] h') :
  P1.heap (.ap cc e bytes v (.slice (some ⟨m,0,n⟩) 1 2)) (h++[.o (.cells new e true)]) (@hid _ ⟨K⟩):=by
 subst y c i;have g:OwnL n0 (h++[HO.o (.cells (enc a) e true)]) v e enc l:=A.app _;refine g.ap (new:=[a]) (k:=1) b (by simp;omega) ?_ rfl B λv' h' p q r s d=>x v' h' p q (λj o w u=>r j o (ji w) u) (by simp at s;omega) ?_
 ·have C:SlC (h++[HO.o (.cells (enc a) e true)]) (.slice (some ⟨h.length,0,pu e⟩) 1 2) e 1 (enc a):=⟨by rw[b,H0],.inr ⟨h.length,0,2,enc a,true,rfl,aA,Sx.cut_all (by rw[b,H0])⟩⟩;have f:Iy cc e (wb aa (h++[HO.o (.cells (enc a) e true)])) (.slice (some ⟨h.length,0,pu e⟩) 1 2)=some ([a].flatMap enc,1):=by
   rw[qG C];simp
  exact f
 ·rcases d with d|⟨j,f,t⟩
  ·exact .inl d
  ·exact .inr ⟨j,f,by simp at t;omega⟩
end
def u3:UG 3 (f3 (hA P1)):=uu i3 e3
def x3:XG 3 (f3 (hA P1)):=xx i3 e3
def x6:XG 6 (f6 (hA P1)):=xx i6 e6
def x7:XG 7 (f7 (hA P1)):=xx i7 e7
def u8:UG 8 (f8 (hA P1)):=uu i8 e8
def x8:XG 8 (f8 (hA P1)):=xx i8 e8
def x9:XG 9 (f9 (hA P1)):=xx i9 e9
def x10:XG 10 (f10 (hA P1)):=xx Q0 e10
def x11:XG 11 (f11 (hA P1)):=xx i11 e11
def u12:UG 12 (Yh (hA P1)):=uu i12 e12
def q12:QG 12 (Yh (hA P1)):=qq u12 rfl (by kernel_rfl)
def u16:UG 16 (Yl (hA P1)):=uu i16 e16
def x16:XG 16 (Yl (hA P1)):=xx i16 e16
def u18:UG 18 (Vd (hA P1)):=uu i18 e18
def q18:QG 18 (Vd (hA P1)):=qq u18 rfl (by kernel_rfl)
def u20:UG 20 (f20 (hA P1)):=uu i20 e20
def x21:XG 21 (f21 (hA P1)):=xx i21 e21
def x22:XG 22 (f22 (hA P1)):=xx i22 e22
def x24:XG 24 (f24 (hA P1)):=xx i24 e24
def x25:XG 25 (f25 (hA P1)):=xx i25 e25
def x26:XG 26 (f26 (hA P1)):=xx i26 e26
def x27:XG 27 (f27 (hA P1)):=xx i27 e27
def u28:UG 28 (Yp (hA P1)):=uu i28 e28
def q28:QG 28 (Yp (hA P1)):=qq u28 rfl (by kernel_rfl)
def x29:XG 29 (f29 (hA P1)):=xx i29 e29
def u30:UG 30 (Yq (hA P1)):=uu i30 e30
def q30:QG 30 (Yq (hA P1)):=qq u30 rfl (by kernel_rfl)
def x31:XG 31 (f31 (hA P1)):=xx i31 e31
def u33:UG 33 (Yr (hA P1)):=uu i33 e33
def q33:QG 33 (Yr (hA P1)):=qq u33 rfl (by kernel_rfl)
def u34:UG 34 (Ys (hA P1)):=uu i34 e34
def q34:QG 34 (Ys (hA P1)):=qq u34 rfl (by kernel_rfl)
def x37:XG 37 (f37 (hA P1)):=xx i37 e37
def u38:UG 38 (Yt (hA P1)):=uu i38 e38
def q38:QG 38 (Yt (hA P1)):=qq u38 rfl (by kernel_rfl)
def x40:XG 40 (f40 (hA P1)):=xx i40 e40
def u47:UG 47 (Yu (hA P1)):=uu i47 e47
def q47:QG 47 (Yu (hA P1)):=qq u47 rfl (by kernel_rfl)
def x48:XG 48 (f48 (hA P1)):=xx i48 e48
def x49:XG 49 (f49 (hA P1)):=xx i49 e49
def x50:XG 50 (f50 (hA P1)):=xx i50 e50
def u51:UG 51 (Ve (hA P1)):=uu i51 e51
def q51:QG 51 (Ve (hA P1)):=qq u51 rfl (by kernel_rfl)
def u53:UG 53 (Vf (hA P1)):=uu i53 e53
def q53:QG 53 (Vf (hA P1)):=qq u53 rfl (by kernel_rfl)
def x56:XG 56 (f56 (hA P1)):=xx i56 e56
def u57:UG 57 (Yv (hA P1)):=uu i57 e57
def q57:QG 57 (Yv (hA P1)):=qq u57 rfl (by kernel_rfl)
def u58:UG 58 (Yw (hA P1)):=uu i58 e58
def q58:QG 58 (Yw (hA P1)):=qq u58 rfl (by kernel_rfl)
def x59:XG 59 (f59 (hA P1)):=xx i59 e59
def x61:XG 61 (Yx (hA P1)):=xx i61 e61
def u62:UG 62 (Yy (hA P1)):=uu i62 e62
def q62:QG 62 (Yy (hA P1)):=qq u62 rfl (by kernel_rfl)
def x63:XG 63 (f63 (hA P1)):=xx i63 e63
def u64:UG 64 (Yz (hA P1)):=uu i64 e64
def q64:QG 64 (Yz (hA P1)):=qq u64 rfl (by kernel_rfl)
def u65:UG 65 (YA (hA P1)):=uu i65 e65
def q65:QG 65 (YA (hA P1)):=qq u65 rfl (by kernel_rfl)
def x66:XG 66 (f66 (hA P1)):=xx i66 e66
def u67:UG 67 (Vg (hA P1)):=uu i67 e67
def q67:QG 67 (Vg (hA P1)):=qq u67 rfl (by kernel_rfl)
def x68:XG 68 (f68 (hA P1)):=xx i68 e68
def x69:XG 69 (f69 (hA P1)):=xx i69 e69
def x71:XG 71 (f71 (hA P1)):=xx i71 e71
def x72:XG 72 (f72 (hA P1)):=xx i72 e72
def x73:XG 73 (f73 (hA P1)):=xx i73 e73
def x74:XG 74 (f74 (hA P1)):=xx i74 e74
def x75:XG 75 (f75 (hA P1)):=xx i75 e75
def u76:UG 76 (YB (hA P1)):=uu i76 e76
def q76:QG 76 (YB (hA P1)):=qq u76 rfl (by kernel_rfl)
def x77:XG 77 (f77 (hA P1)):=xx i77 e77
def x78:XG 78 (YC (hA P1)):=xx i78 e78
def x79:XG 79 (YD (hA P1)):=xx i79 e79
def x80:XG 80 (YE (hA P1)):=xx i80 e80
def x81:XG 81 (YF (hA P1)):=xx i81 e81
def x82:XG 82 (YG (hA P1)):=xx i82 e82
def x83:XG 83 (YH (hA P1)):=xx i83 e83
def u84:UG 84 (YI (hA P1)):=uu i84 e84
def q84:QG 84 (YI (hA P1)):=qq u84 rfl (by kernel_rfl)
def u85:UG 85 (YJ (hA P1)):=uu i85 e85
def q85:QG 85 (YJ (hA P1)):=qq u85 rfl (by kernel_rfl)
def u86:UG 86 (YK (hA P1)):=uu i86 e86
def q86:QG 86 (YK (hA P1)):=qq u86 rfl (by kernel_rfl)
def u87:UG 87 (YL (hA P1)):=uu i87 e87
def q87:QG 87 (YL (hA P1)):=qq u87 rfl (by kernel_rfl)
def u88:UG 88 (YM (hA P1)):=uu i88 e88
def q88:QG 88 (YM (hA P1)):=qq u88 rfl (by kernel_rfl)
def u92:UG 92 (YN (hA P1)):=uu i92 e92
def q92:QG 92 (YN (hA P1)):=qq u92 rfl (by kernel_rfl)
def x93:XG 93 (f93 (hA P1)):=xx i93 e93
def u94:UG 94 (SH (hA P1)):=uu i94 e94
def q94:QG 94 (SH (hA P1)):=qq u94 rfl (by kernel_rfl)
def x95:XG 95 (f95 (hA P1)):=xx i95 e95
def u97:UG 97 (YO (hA P1)):=uu i97 e97
def q97:QG 97 (YO (hA P1)):=qq u97 rfl (by kernel_rfl)
def u98:UG 98 (YP (hA P1)):=uu i98 e98
def q98:QG 98 (YP (hA P1)):=qq u98 rfl (by kernel_rfl)
def x99:XG 99 (f99 (hA P1)):=xx i99 e99
def x100:XG 100 (N3 (hA P1)):=xx Zf XB
def u101:UG 101 (Ha (hA P1)):=uu Zg XC
def q101:QG 101 (Ha (hA P1)):=qq u101 rfl (by kernel_rfl)
def u102:UG 102 (JB (hA P1)):=uu Zh XD
def q102:QG 102 (JB (hA P1)):=qq u102 rfl (by kernel_rfl)
def u104:UG 104 (JC (hA P1)):=uu Zi XE
def q104:QG 104 (JC (hA P1)):=qq u104 rfl (by kernel_rfl)
def x106:XG 106 (N4 (hA P1)):=xx Zj XF
def x107:XG 107 (N5 (hA P1)):=xx Zk XH
def x117:XG 117 (N6 (hA P1)):=xx Zl XI
def x118:XG 118 (N7 (hA P1)):=xx Zm XJ
def u119:UG 119 (JD (hA P1)):=uu Zn XK
def q119:QG 119 (JD (hA P1)):=qq u119 rfl (by kernel_rfl)
def x120:XG 120 (N8 (hA P1)):=xx Zo XL
def u121:UG 121 (JE (hA P1)):=uu Zp XM
def q121:QG 121 (JE (hA P1)):=qq u121 rfl (by kernel_rfl)
def x122:XG 122 (N9 (hA P1)):=xx Zq XN
def u123:UG 123 (JF (hA P1)):=uu Zr XO
def q123:QG 123 (JF (hA P1)):=qq u123 rfl (by kernel_rfl)
def u124:UG 124 (JG (hA P1)):=uu Zs XP
def q124:QG 124 (JG (hA P1)):=qq u124 rfl (by kernel_rfl)
def u125:UG 125 (Hb (hA P1)):=uu Zt XQ
def q125:QG 125 (Hb (hA P1)):=qq u125 rfl (by kernel_rfl)
def u126:UG 126 (JH (hA P1)):=uu Zu XR
def q126:QG 126 (JH (hA P1)):=qq u126 rfl (by kernel_rfl)
def u127:UG 127 (DD (hA P1)):=uu Zv XT
def Pw:QG 127 (DD (hA P1)):=qq u127 rfl (by kernel_rfl)
def x128:XG 128 (Oa (hA P1)):=xx Zw XU
def x129:XG 129 (Ob (hA P1)):=xx Zx XV
def u131:UG 131 (JI (hA P1)):=uu Zy XW
def q131:QG 131 (JI (hA P1)):=qq u131 rfl (by kernel_rfl)
def u132:UG 132 (JJ (hA P1)):=uu Zz XX
def q132:QG 132 (JJ (hA P1)):=qq u132 rfl (by kernel_rfl)
def u133:UG 133 (Hc (hA P1)):=uu ZA XY
def q133:QG 133 (Hc (hA P1)):=qq u133 rfl (by kernel_rfl)
def u136:UG 136 (JK (hA P1)):=uu ZB XZ
def q136:QG 136 (JK (hA P1)):=qq u136 rfl (by kernel_rfl)
def u137:UG 137 (JL (hA P1)):=uu ZC X0
def q137:QG 137 (JL (hA P1)):=qq u137 rfl (by kernel_rfl)
def x138:XG 138 (Oc (hA P1)):=xx ZD X1
def x144:XG 144 (Od (hA P1)):=xx ZE X2
def x152:XG 152 (Oe (hA P1)):=xx ZF X3
def x160:XG 160 (Of (hA P1)):=xx ZG X4
def x169:XG 169 (Og (hA P1)):=xx ZH X5
def u172:UG 172 (JM (hA P1)):=uu ZI X7
def q172:QG 172 (JM (hA P1)):=qq u172 rfl (by kernel_rfl)
def u173:UG 173 (JN (hA P1)):=uu ZJ X8
def q173:QG 173 (JN (hA P1)):=qq u173 rfl (by kernel_rfl)
def x174:XG 174 (Oh (hA P1)):=xx ZK X9
def u175:UG 175 (JO (hA P1)):=uu ZL Ya
def q175:QG 175 (JO (hA P1)):=qq u175 rfl (by kernel_rfl)
end Go.Am
namespace Go.Am
namespace Sx
section
variable [Val]
end
section
variable [Val]
end
end Sx
end Go.Am
namespace Go.Am
open Sx Go.Proofs
def Hv{g n:Nat}{ls a:TB}{sg:Sig}(e:ab g=some sg)(d:sg.plain=true)(hg:jI ls=true)(h:D1 n (.f g) ls .empty Dl=some a):∀H,aD cc ab g ls H a H:=by
 obtain⟨i,j,c,b⟩:=(vX n).f g ls .empty Dl a (fL hg) h;rw[GA]at b;cases b;exact xS g sg ls _ _ e d c
def FA(a:TB):Option (TB)->Bool:=λo=>@Option.rec _ (λ_=>Bool) false (λb=>NU b a) o
def io{g n:Nat}{ls a:TB}{sg:Sig}(d:ab g=some sg)(c:sg.plain=true)(hg:jI ls=true)(h:FA a (D1 n (.f g) ls .empty Dl)=true):∀H,aD cc ab g ls H a H:=by
 cases e:D1 n (.f g) ls .empty Dl with
 |none=>rw[e]at h;cases h
 |some b=>
  rw[e]at h;have h:NU b a=true:=h;rw[pT h]at e;exact Hv d c hg e
end Go.Am
namespace Go.Am
open Sx
def mA(t:Nat):Int:=match t with
 |0=>1|1=>0|2=>-1|3=>0|4=>-1|5=>0|6=>1|_=>0
def mB(t:Nat):Int:=match t with
 |0=>0|1=>-1|2=>0|3=>1|4=>0|5=>-1|6=>0|_=>1
def mC(t:Nat):Int:=match t with
 |0=>0|1=>1|2=>0|3=>-1|4=>0|5=>-1|6=>0|_=>1
def mD(t:Nat):Int:=match t with
 |0=>1|1=>0|2=>-1|3=>0|4=>1|5=>0|6=>-1|_=>0
def AK(s t:Nat):Nat:=if s<4 then(if t<4 then(s+t)%4 else 4+(t+4 - s)%4)else(if t<4 then 4+(s+t)%4 else(t+8 - s)%4)
abbrev Mv:=Nat×Int×Int
def ae(a b:Mv):Mv:=(AK a.1 b.1,mA b.1*a.2.1+mB b.1*a.2.2+b.2.1,mC b.1*a.2.1+mD b.1*a.2.2+b.2.2)
def AG:Mv:=(0,0,0)
def Av(n:Int)(m:Mv):Prop:=m.1<8/\-n<=m.2.1/\m.2.1<=n/\-n<=m.2.2/\m.2.2<=n/\(m.2.1+m.2.2)%2=0
def t8{t:Nat}(h:t<8):t=0∨t=1∨t=2∨t=3∨t=4∨t=5∨t=6∨t=7:=by omega
def fg{s t:Nat}:AK s t<8:=by
 unfold AK
 repeat' split
 all_goals omega
def zd{a b c:Nat}(h:a<8)(i:b<8)(j:c<8):AK (AK a b) c=AK a (AK b c):=by
 have d:((List.range 8).all λa=>(List.range 8).all λb=>(List.range 8).all λc=>AK (AK a b) c==AK a (AK b c))=true:=by decide +kernel
 have e:=qab.1 d a (qad.2 h);have f:=qab.1 e b (qad.2 i);have g:=qab.1 f c (qad.2 j);simpa using g
def cu{a b c:Mv}(d:a.1<8)(e:b.1<8)(f:c.1<8):ae (ae a b) c=ae a (ae b c):=by
 obtain⟨g,i,j⟩:=a;obtain⟨k,l,h⟩:=b;obtain⟨m,n,o⟩:=c;simp only at d e f;unfold ae;refine DY (zd d e f) ?_;simp only;clear d;rcases t8 e with rfl|rfl|rfl|rfl|rfl|rfl|rfl|rfl<;>rcases t8 f with rfl|rfl|rfl|rfl|rfl|rfl|rfl|rfl<;>
  (refine DY ?_ ?_<;>simp[AK,mA,mB,mC,mD]<;>omega)
def mX{a:Mv}(b:a.1<8):ae a AG=a:=by
 obtain⟨t,x,y⟩:=a;have b:t<8:=b;unfold ae AG;simp only[mA,mB,mC,mD];refine DY ?_ (DY (by simp) (by simp));rcases t8 b with rfl|rfl|rfl|rfl|rfl|rfl|rfl|rfl<;>simp[AK]
def jJ{a:Mv}(b:a.1<8):ae AG a=a:=by
 obtain⟨t,x,y⟩:=a;have b:t<8:=b;unfold ae AG;refine DY ?_ (DY (by simp) (by simp));rcases t8 b with rfl|rfl|rfl|rfl|rfl|rfl|rfl|rfl<;>simp[AK]
def CW(t:Nat):Nat:=match t with
 |1=>3|3=>1|n=>n
def B5(m:Mv):Mv:=(CW m.1,-(mA (CW m.1)*m.2.1+mB (CW m.1)*m.2.2),-(mC (CW m.1)*m.2.1+mD (CW m.1)*m.2.2))
def Kd{m:Mv}(h:m.1<8):ae m (B5 m)=AG:=by
 obtain⟨t,x,y⟩:=m;have h:t<8:=h;unfold ae B5 AG;rcases t8 h with rfl|rfl|rfl|rfl|rfl|rfl|rfl|rfl<;>simp[AK,mA,mB,mC,mD,CW]<;>omega
def aN{n k:Int}{m:Mv}(h:Av n m)(a:n<=k):Av k m:=by
 unfold Av at *;omega
def xA{n:Int}(h:0<=n):Av n AG:=by
 unfold Av AG;simp only;omega
def dm{n k:Int}{a b:Mv}(g:Av n a)(h:Av k b):Av (n+k) (ae a b):=by
 obtain⟨d,j,l⟩:=a;obtain⟨o,p,f⟩:=b;unfold Av ae at *;simp only at *;obtain⟨c,i⟩:=g;obtain⟨e,m⟩:=h;refine⟨fg,?_⟩;clear c;rcases t8 e with rfl|rfl|rfl|rfl|rfl|rfl|rfl|rfl<;>simp only[mA,mB,mC,mD]<;>omega
def O5{n:Int}{a:Mv}(d:Av n a):Av n (B5 a):=by
 obtain⟨c,f,g⟩:=a;unfold Av B5 at *;simp only at *;obtain⟨b,e⟩:=d;rcases t8 b with rfl|rfl|rfl|rfl|rfl|rfl|rfl|rfl<;>simp[mA,mB,mC,mD,CW]<;>omega
abbrev Ln:=Nat×Int
def Bb(l:Ln):Mv:=match l.1 with
 |1=>(4,2*l.2,0)
 |2=>(6,0,2*l.2)
 |3=>(5,l.2,l.2)
 |_=>(7,-l.2,l.2)
def xz{l:Ln}{n:Int}(h:-n<=l.2/\l.2<=n):Av (2*n) (Bb l):=by
 obtain⟨k,c⟩:=l;unfold Bb Av;simp only at h ⊢;split<;>simp only<;>omega
def uw(l:Ln):(Bb l).1<8:=by
 unfold Bb;split<;>simp
def HJ(l:Ln):ae (Bb l) (Bb l)=AG:=by
 obtain⟨k,c⟩:=l;unfold Bb ae AG;simp only;split<;>simp[AK,mA,mB,mC,mD]<;>omega
abbrev Cl:=Int×Int×Nat
def ua(c:Cl)(e:Nat):Ln:=match e with
 |0=>(match c.2.2 with
  |0=>(2,c.2.1)
  |1=>(1,c.1+1)
  |2=>(2,c.2.1+1)
  |_=>(1,c.1))
 |1=>(3,c.1+c.2.1+1)
 |_=>(4,c.2.1 - c.1)
def AB(c:Cl)(e:Nat):Cl:=match e with
 |0=>(match c.2.2 with
  |0=>(c.1,c.2.1 - 1,2)
  |1=>(c.1+1,c.2.1,3)
  |2=>(c.1,c.2.1+1,0)
  |_=>(c.1 - 1,c.2.1,1))
 |1=>(c.1,c.2.1,[1,0,3,2].getD c.2.2 0)
 |_=>(c.1,c.2.1,[3,2,1,0].getD c.2.2 0)
def qT(t q:Nat):Nat:=if t<4 then(q+t)%4 else([0,3,2,1].getD ((q+t)%4) 0+(if t%2=0 then 0 else 2))%4
def am(m:Mv)(c:Cl):Cl:=(mA m.1*c.1+mB m.1*c.2.1+m.2.1 - (if mA m.1+mB m.1=1 then 0 else 1),mC m.1*c.1+mD m.1*c.2.1+m.2.2 - (if mC m.1+mD m.1=1 then 0 else 1),qT m.1 c.2.2)
def dg(l:Ln)(c:Cl):Bool:=match l.1 with
 |1=>decide (l.2<=c.1)
 |2=>decide (l.2<=c.2.1)
 |3=>decide (l.2<=c.1+c.2.1+(if c.2.2=1∨c.2.2=2 then 1 else 0))
 |_=>decide (l.2<=c.2.1 - c.1 - (if c.2.2=2∨c.2.2=3 then 0 else 1))
def vT{l:Ln}{c:Cl}{e:Nat}(a:1<=l.1/\l.1<=4)(b:c.2.2<4)(d:e<3)(h:dg l c≠dg l (AB c e)):l=ua c e:=by
 obtain⟨k,n⟩:=l;obtain⟨x,y,q⟩:=c;simp only at a b;obtain rfl|rfl|rfl|rfl:q=0∨q=1∨q=2∨q=3:=by omega
 all_goals obtain rfl|rfl|rfl:e=0∨e=1∨e=2:=by omega
 all_goals obtain rfl|rfl|rfl|rfl:k=1∨k=2∨k=3∨k=4:=by omega
 all_goals
  simp[dg,AB,ua]at h ⊢
 all_goals first|done|omega|(exfalso;omega)
def eT(t e:Nat):Nat:=if e=0 then 0 else if t%2=0/\t<4∨t=5∨t=7 then e else 3 - e
def ge{m:Mv}{c:Cl}{e:Nat}(a:m.1<8)(b:c.2.2<4)(d:e<3):am m (AB c e)=AB (am m c) (eT m.1 e):=by
 obtain⟨t,f,g⟩:=m;obtain⟨x,y,q⟩:=c;simp only at a b;rcases t8 a with rfl|rfl|rfl|rfl|rfl|rfl|rfl|rfl
 all_goals obtain rfl|rfl|rfl|rfl:q=0∨q=1∨q=2∨q=3:=by omega
 all_goals obtain rfl|rfl|rfl:e=0∨e=1∨e=2:=by omega
 all_goals simp[am,AB,eT,qT,mA,mB,mC,mD]
 all_goals first|done|omega|(constructor<;>omega)
def OT{m:Mv}{c:Cl}{e:Nat}(a:m.1<8)(b:c.2.2<4)(d:e<3):ae m (Bb (ua (am m c) (eT m.1 e)))=ae (Bb (ua c e)) m:=by
 obtain⟨t,f,g⟩:=m;obtain⟨x,y,q⟩:=c;simp only at a b;rcases t8 a with rfl|rfl|rfl|rfl|rfl|rfl|rfl|rfl
 all_goals obtain rfl|rfl|rfl|rfl:q=0∨q=1∨q=2∨q=3:=by omega
 all_goals obtain rfl|rfl|rfl:e=0∨e=1∨e=2:=by omega
 all_goals simp[am,eT,qT,mA,mB,mC,mD,ae,Bb,ua,AK]
 all_goals first|done|omega|(constructor<;>omega)
def kJ{t e:Nat}(a:e<3):eT t e<3:=by
 unfold eT
 repeat' split
 all_goals omega
def gI{t q:Nat}:qT t q<4:=by
 unfold qT;split<;>omega
def HR{g:Mv}{l:Ln}{c:Cl}{e:Nat}(hg:g.1<8)(d:1<=l.1/\l.1<=4)(b:c.2.2<4)(a:e<3)(h:dg l (am g c)≠dg l (am g (AB c e))):ae g (Bb l)=ae (Bb (ua c e)) g:=by
 rw[ge hg b a]at h;have:=vT d gI (kJ a) h;rw[this];exact OT hg b a
def gc{g:Mv}{c:Cl}{e:Nat}(hg:g.1<8)(a:c.2.2<4)(b:e<3):am (ae (Bb (ua c e)) g) (AB c e)=am g c:=by
 obtain⟨t,d,f⟩:=g;obtain⟨x,y,q⟩:=c;simp only at hg a;rcases t8 hg with rfl|rfl|rfl|rfl|rfl|rfl|rfl|rfl
 all_goals obtain rfl|rfl|rfl|rfl:q=0∨q=1∨q=2∨q=3:=by omega
 all_goals obtain rfl|rfl|rfl:e=0∨e=1∨e=2:=by omega
 all_goals simp[am,AB,qT,mA,mB,mC,mD,ae,Bb,ua,AK]
 all_goals first|done|omega|(constructor<;>omega)
end Go.Am
namespace Go.Am
open Sx Go.Proofs
def jv(f:TK)(ls a:TB):Bool:=FA a (D1 60 (.f f) ls .empty Dl)
def ep{f:TK}{ls a:TB}{sg:Sig}(h:jv f ls a=true)(c:ab f=some sg)(b:sg.plain=true)(hg:jI ls=true):Cc f ls a:=io (n:=60) c b hg h
abbrev Al(m:Mv):TB:=[.i (Int.ofNat m.1),.i m.2.1,.i m.2.2]
abbrev Ab(c:Cl):TB:=[.i c.1,.i c.2.1,.i (Int.ofNat c.2.2)]
def mw{n:Int}(h:-16384<=n/\n<=16384):Cc 53 [.i n] [.b false]:=by
 refine q53 rfl ?_;unfold Vf;simp only[xp]
 repeat (first|simp(disch:=omega)only[↓my])
 try rfl
def KC{t x y:Int}(f:0<=t/\t<8)(b:-16384<=x/\x<=16384)(c:-16384<=y/\y<=16384)(e:(x+y)%2=0):Cc 18 [.i t,.i x,.i y] [.i 0]:=by
 refine q18 rfl ?_;unfold Vd;simp only[xp];rcases Int.le_total 0 (x+y)with a|a
 ·repeat (first|simp(disch:=omega)only[↓my]|refine ai (mw b) ?_|refine ai (mw c) ?_|rw[A2 a (by omega)])
 ·have d:-(-(x+y)%2)=0:=by omega
  repeat (first|simp(disch:=omega)only[↓my]|refine ai (mw b) ?_|refine ai (mw c) ?_|rw[CN a (by omega)])
def ul{n:Int}{m:Mv}(h:Av n m)(g:n<=16384):Cc 18 (Al m) [.i 0]:=by
 obtain⟨b,c,d,e,f,a⟩:=h;exact KC ⟨Cb _,by show(m.1:Int)<8;omega⟩ (by omega) (by omega) a
def uz{t:Nat}(h:t<8):mh SO 0 [(Int.ofNat t,4)] 4=some [.int .i64 (mA t),.int .i64 (mB t),.int .i64 (mC t),.int .i64 (mD t)]:=by
 rcases t8 h with rfl|rfl|rfl|rfl|rfl|rfl|rfl|rfl<;>kernel_rfl
def yQ{n t:Nat}(h:t<n):BM n (Int.ofNat t)=some ():=by
 show(match Nat.blt t n with
  |true=>some ()
  |false=>none)=some ()
 rw[show Nat.blt t n=true by rw[BH];exact h]
def KJ{t:Nat}(a:t<8){x y:Int}(h:-200000<=x/\x<=200000/\-200000<=y/\y<=200000):Cc 132 [.i (mA t),.i (mB t),.i (mC t),.i (mD t),.i x,.i y] [.i (mA t*x+mB t*y),.i (mC t*x+mD t*y)]:=by
 rcases t8 a with rfl|rfl|rfl|rfl|rfl|rfl|rfl|rfl
 all_goals
  simp only[mA,mB,mC,mD];refine q132 rfl ?_;unfold JJ;simp only[xp]
  repeat (first|simp(disch:=omega)only[↓my])
  (try simp only[Df,Lf.i.injEq,and_true,true_and]);(try omega)
def thenT(s t:Nat):Bool:=jv 135 [.i (mA s),.i (mB s),.i (mC s),.i (mD s),.i (mA t),.i (mB t),.i (mC t),.i (mD t)] [.i (mA (AK s t)),.i (mB (AK s t)),.i (mC (AK s t)),.i (mD (AK s t))]
def numT(t:Nat):Bool:=jv 134 [.i (mA t),.i (mB t),.i (mC t),.i (mD t)] [.i (.ofNat t)]
def yl:((List.range 8).all λs=>numT s&&(List.range 8).all λt=>thenT s t)=true:=by kernel_rfl
def GB{s t:Nat}(a:s<8)(b:t<8):Cc 135 [.i (mA s),.i (mB s),.i (mC s),.i (mD s),.i (mA t),.i (mB t),.i (mC t),.i (mD t)] [.i (mA (AK s t)),.i (mB (AK s t)),.i (mC (AK s t)),.i (mD (AK s t))]:=by
 have h:=qab.1 yl s (qad.2 a);rw[uc]at h;exact ep (qab.1 h.2 t (qad.2 b)) rfl (by kernel_rfl) rfl
def KV{t:Nat}(a:t<8):Cc 134 [.i (mA t),.i (mB t),.i (mC t),.i (mD t)] [.i (.ofNat t)]:=by
 have h:=qab.1 yl t (qad.2 a);rw[uc]at h;exact ep h.1 rfl (by kernel_rfl) rfl
def Hz{m:Mv}{n:Int}(h:Av n m)(a:n<=16384):Cc 133 (Al m) (Al m++[.i 0]):=by
 refine q133 rfl ?_;unfold Hc;simp only[xp]
 repeat (first|simp(disch:=omega)only[↓my]|refine ai (ul h a) ?_)
 rfl
def U3{a b:Mv}{n k:Int}(c:Av n a)(d:Av k b)(p:0<=n/\0<=k/\n+k<=16384):Cc 101 (Al a++Al b) (Al (ae a b)++[.i 0]):=by
 have j:=dm c d;refine q101 rfl ?_;unfold Ha;simp only[xp];simp only[Al,Aw,Ap]
 repeat (first|simp(disch:=omega)only[↓my]|refine ai (ul c (by omega)) ?_|refine ai (ul d (by omega)) ?_|refine ah (yQ d.1) ?_|refine ah (uz d.1) ?_|refine ai (KJ d.1 ⟨by have:=c.2;omega,by have:=c.2;omega,by have:=c.2;omega,by have:=c.2;omega⟩) ?_|refine ah (yQ c.1) ?_|refine ah (uz c.1) ?_|refine ai (GB c.1 d.1) ?_|refine ai (KV fg) ?_)
 have q:∀z:Int,(-n<=z/\z<=n)∨True:=λ_=>.inr trivial;obtain⟨l,e,f,g,h,o⟩:=j;unfold ae at e f g h;simp only at e f g h;rw[B9 (by omega) (by omega),B9 (by omega) (by omega)];refine ai (Hz (m:=ae a b) ⟨l,e,f,g,h,o⟩ (by omega)) ?_;simp only[Al,Aw,Ap];refine jw ?_;rfl
def S8{k c:Int}(b:1<=k/\k<=4)(a:-4096<=c/\c<=4096):Cc 172 [.i k,.i c] [.i 0]:=by
 refine q172 rfl ?_;unfold JM;simp only[xp]
 repeat (first|simp(disch:=omega)only[↓my])
 try rfl
def Z8{k c:Int}{m:Mv}(d:1<=k/\k<=4)(b:-4096<=c/\c<=4096)(a:m=Bb (k.toNat,c)):Cc 131 [.i k,.i c] (Al m++[.i 0]):=by
 subst a;obtain rfl|rfl|rfl|rfl:k=1∨k=2∨k=3∨k=4:=by omega
 all_goals
  refine q131 rfl ?_;unfold JI;simp only[xp]
  repeat (first|simp(disch:=omega)only[↓my]|refine ai (S8 (by omega) (by omega)) ?_)
  simp[Bb]
def T5{l:Ln}(b:1<=l.1/\l.1<=4)(a:-4096<=l.2/\l.2<=4096):Cc 131 [.i (Int.ofNat l.1),.i l.2] (Al (Bb l)++[.i 0]):=
 Z8 (k:=Int.ofNat l.1) ⟨by show(1:Int)<=(l.1:Int);omega,by show(l.1:Int)<=4;omega⟩ a rfl
def Uz{x y:Int}(h:-65536<=x/\x<=65536/\-65536<=y/\y<=65536):Cc 173 [.i x,.i y] [.i 0]:=by
 refine q173 rfl ?_;unfold JN;simp only[xp]
 repeat (first|simp(disch:=omega)only[↓my])
 try rfl
def UD(m:Mv)(x y:Int):Int×Int:=(mA m.1*x+mB m.1*y+2*m.2.1,mC m.1*x+mD m.1*y+2*m.2.2)
def FG{t:Nat}(a:t<8){n x y:Int}(h:-n<=x/\x<=n/\-n<=y/\y<=n):-n<=mA t*x+mB t*y/\mA t*x+mB t*y<=n/\-n<=mC t*x+mD t*y/\mC t*x+mD t*y<=n:=by
 rcases t8 a with rfl|rfl|rfl|rfl|rfl|rfl|rfl|rfl<;>simp only[mA,mB,mC,mD]<;>omega
def F5{m:Mv}(a:Av 16384 m){x y:Int}(h:-8000<=x/\x<=8000/\-8000<=y/\y<=8000):Cc 137 (Al m++[.i x,.i y]) [.i (UD m x y).1,.i (UD m x y).2,.i 0]:=by
 have c:=FG a.1 h;have b:=a.2;refine q137 rfl ?_;unfold JL;simp only[xp];simp only[Al,Aw,Ap]
 repeat (first|simp(disch:=omega)only[↓my]|refine ai (ul a (by omega)) ?_|refine ai (Uz (by omega)) ?_|refine ah (yQ a.1) ?_|refine ah (uz a.1) ?_|refine ai (KJ a.1 (by omega)) ?_)
 rfl
def wC{c:Cl}(h:-4096<=c.1/\c.1<=4096/\-4096<=c.2.1/\c.2.1<=4096/\c.2.2<4):Cc 94 (Ab c) [.i 0]:=by
 have a:(Int.ofNat c.2.2)<=3:=by show(c.2.2:Int)<=3;omega
 refine q94 rfl ?_;unfold SH;simp only[xp]
 repeat (first|simp(disch:=omega)only[↓my])
 try rfl
def KI{x y q:Int}(h:-1000000<=x/\x<=1000000/\-1000000<=y/\y<=1000000):Cc 136 [.i x,.i y,.i q] [.i (2*x+1),.i (2*y+1)]:=by
 refine q136 rfl ?_;unfold JK;simp only[xp]
 repeat (first|simp(disch:=omega)only[↓my])
 (try simp only[Df,Lf.i.injEq,and_true,true_and]);(try omega)
def Vv(q:Nat):Int:=[0,1,0,-1].getD q 0
def Vw(q:Nat):Int:=[-1,0,1,0].getD q 0
def UB{q:Nat}(h:q<4):mh SN 0 [(Int.ofNat q,17)] 2=some [.int .i64 (Vv q),.int .i64 (Vw q)]:=by
 obtain rfl|rfl|rfl|rfl:q=0∨q=1∨q=2∨q=3:=by omega
 all_goals kernel_rfl
def OU{m:Mv}(e:Av 16384 m){c:Cl}(d:-1000<=c.1/\c.1<=1000/\-1000<=c.2.1/\c.2.1<=1000/\c.2.2<4):Cc 104 (Al m++Ab c) (Ab (am m c)):=by
 obtain⟨t,n,o⟩:=m;obtain⟨x,y,q⟩:=c;have i:Av 16384 (t,0,0):=⟨e.1,by simp,by simp,by simp,by simp,by simp⟩;have a:=F5 (aN e (by omega)) (x:=2*x+1) (y:=2*y+1) (by simp only at d;omega);have b:=F5 (aN i (by omega)) (x:=Vv q) (y:=Vw q) (by
  have j:q<4:=d.2.2.2.2;obtain rfl|rfl|rfl|rfl:q=0∨q=1∨q=2∨q=3:=by omega
  all_goals simp[Vv,Vw])
 obtain⟨X,k⟩ : ∃X,(UD (t,n,o) (2*x+1) (2*y+1)).1=X:=⟨_,rfl⟩;obtain⟨Y,l⟩ : ∃Y,(UD (t,n,o) (2*x+1) (2*y+1)).2=Y:=⟨_,rfl⟩;obtain⟨U,f⟩ : ∃U,(UD (t,0,0) (Vv q) (Vw q)).1=U:=⟨_,rfl⟩;obtain⟨V,g⟩ : ∃V,(UD (t,0,0) (Vv q) (Vw q)).2=V:=⟨_,rfl⟩;rw[k,l]at a;rw[f,g]at b;have h:=e.2;have p:t<8:=e.1;have j:q<4:=d.2.2.2.2;simp only at h d;refine q104 rfl ?_;unfold JC;simp only[xp];simp only[Al,Ab,Aw,Ap]
 repeat (first|simp(disch:=omega)only[↓my]|refine ai (KI (by omega)) ?_|refine ah (yQ j) ?_|refine ah (UB j) ?_|refine ai a ?_|refine ai b ?_)
 rcases t8 p with rfl|rfl|rfl|rfl|rfl|rfl|rfl|rfl
 all_goals obtain rfl|rfl|rfl|rfl:q=0∨q=1∨q=2∨q=3:=by omega
 all_goals
  simp[UD,mA,mB,mC,mD,Vv,Vw]at k l f g;subst f g
  repeat (first|simp(disch:=omega)only[↓my]|refine ah (by simp only[iW,Pu,AH,Int.reduceToNat,Int.reduceAdd,Int.reduceMul,Int.reduceMod,Int.reduceSub,Int.reduceNeg,Int.reduceDiv,Nat.reduceAdd,Nat.reduceMul,Nat.reduceLeDiff,CT,UP,↓reduceIte,qcU,F9,qcE,Vq,Aw,Ap,Br,Int.toNat_zero,LD,UM,Int.zero_add];exact rfl) ?_|refine gD 6 ?_)
  try simp[am,mA,mB,mC,mD,qT]
  try omega
abbrev BJ:=Int×Int×Int
def zz(c:BJ):Tk:=[.int .i64 c.1,.int .u8 c.2.1,.int .u8 c.2.2]
def okC(c:BJ):Prop:=-9223372036854775808<=c.1/\c.1<=9223372036854775807/\0<=c.2.1/\c.2.1<=255/\0<=c.2.2/\c.2.2<=255
def Hu(c:BJ):Bool:=decide (1<=c.2.2)&&decide (c.2.2<=3)
def Ke(k:Int):Cc 124 [.i k] [.b (decide (1<=k)&&decide (k<=3))]:=by
 refine q124 rfl ?_;unfold JG;simp only[xp];by_cases a:1<=k
 ·by_cases c:k<=3
  ·simp(disch:=omega)only[↓my];simp[a,c]
  ·simp(disch:=omega)only[↓my];simp[a,c]
 ·simp(disch:=omega)only[↓my];simp[a]
def Sc(c:BJ):Cc 123 [.i c.1,.i c.2.1,.i c.2.2] [.b (!Hu c)]:=by
 refine q123 rfl ?_;unfold JF;simp only[xp]
 repeat (first|simp(disch:=omega)only[↓my]|refine ai (Ke c.2.2) ?_)
 simp[Hu]
abbrev Si:Value:=.func (.func 123) ⟨[]⟩ ⟨[]⟩
def QX:aB Si=true:=rfl
abbrev _root_.Ty:=List BJ
def Ow{h:HL}{x:Value}{l:Ty}(o:LsH h x 3 zz l)(z:l.length<=4294967296):∃n:Int,aD cc ab 169 [.v x,.v Si] (ka aa h) [.i n] (ka aa h)/\(0<=n↔∃c∈l,Hu c=false):=by
 obtain⟨r,p,u,n,rfl,rfl,w⟩:=x169 (K:=λr p=>∃n:Int,r=[.i n]/\p=h/\(0<=n↔∃c∈l,Hu c=false)) (H:=h) (rv o.good (rv QX ub)) (by
  unfold Og;simp only[xp];refine jw ?_;refine br o ?_;refine eo l.length (λj=>∀i,i<j->∀c,l[i]?=some c->Hu c=true) rfl (AM _) (λi k=>absurd k (qd1 _)) ?_;intro j y k s d;refine jw ?_;by_cases g:j<l.length
  ·have m:Int.ofNat j<Int.ofNat l.length:=by show(j:Int)<l.length;omega
   rw[zV m];refine jw ?_;obtain⟨c,e⟩ : ∃c,l[j]?=some c:=⟨_,A4 g⟩;refine aQ o rfl e ?_;unfold zz
   repeat (first|simp(disch:=omega)only[↓my]|refine oE (rg (Sc c _) rfl [.agg [.i .i64 c.1,.i .u8 c.2.1,.i .u8 c.2.2]] rfl rfl) ?_)
   cases f:Hu c with
   |true=>
    show P1.cond false _ _;refine jw ?_;rw[B9 (by show -9223372036854775808<=(j:Int)+1;omega) (by show(j:Int)+1<=9223372036854775807;omega)];refine d g λi a t b=>?_;rcases Bi i j with h|h
    ·exact k i h t b
    ·obtain rfl:i=j:=by omega
     rw[e]at b;cases b;exact f
   |false=>
    show P1.cond true _ _;refine jw ?_;exact⟨_,rfl,by trivial,λ_=>⟨c,Af e,f⟩,λ_=>Cb j⟩
  ·have m:Int.ofNat l.length<=Int.ofNat j:=by show(l.length:Int)<=j;omega
   rw[zQ m];refine jw ?_;refine⟨_,rfl,by trivial,λh=>by omega,λ⟨c,e,f⟩=>?_⟩;obtain⟨i,a⟩:=Dd e;have q:i<l.length:=by
    rcases Bi i l.length with h|h
    ·exact h
    ·rw[Bd h]at a;cases a
   rw[k i (by omega) c a]at f;cases f)
 exact⟨n,u,w⟩
def yG{h:HL}{x:Value}{l:Ty}(i:LsH h x 3 zz l)(o:l.length<=4294967296):aD cc ab 122 [.v x,.v Si] (ka aa h) [.b (!l.all Hu)] (ka aa h):=by
 obtain⟨n,k,f⟩:=Ow i o;obtain⟨j,e,m,rfl,rfl⟩:=x122 (K:=λj e=>j=[.b (!l.all Hu)]/\e=h) (H:=h) (rv i.good (rv QX ub)) (by
  unfold N9;simp only[xp]
  repeat (first|simp(disch:=omega)only[↓my]|refine al k ?_)
  cases g:l.all Hu with
  |true=>
   have:¬0<=n:=λh=>by
    obtain⟨c,d,a⟩:=f.1 h;rw[qab.1 g c d]at a;cases a
   simp(disch:=omega)only[↓my];trivial
  |false=>
   have:0<=n:=f.2 (by
    obtain⟨c,d,a⟩:=List.all_eq_false.1 g;exact⟨c,d,by simpa using a⟩)
   simp(disch:=omega)only[↓my];trivial)
 exact m
def Aa(w v c e:Nat):To:=
 match e,c%4 with
 |0,0=>if 0<c / 4 / w then some (c+2 - 4*w)else none
 |0,1=>if c / 4%w+1<w then some (c+6)else none
 |0,2=>if c / 4 / w+1<v then some (c+4*w - 2)else none
 |0,_=>if 0<c / 4%w then some (c - 6)else none
 |1,0=>some (c+1)
 |1,1=>some (c - 1)
 |1,2=>some (c+1)
 |1,_=>some (c - 1)
 |2,0=>some (c+3)
 |2,1=>some (c+1)
 |2,2=>some (c - 1)
 |2,_=>some (c - 3)
 |_,_=>none
def DO(w v c e:Nat):TB:=match Aa w v c e with
 |some n=>[.i (.ofNat (min c n)),.i (.ofNat e),.i 0]
 |none=>[.i 0,.i 0,.i 7]
def Dz(w c:Nat):TB:=[.i (.ofNat (c / 4%w)),.i (.ofNat (c / 4 / w)),.i (.ofNat (c%4)),.i 0]
def Gz(w v:Nat):Bool:=(List.range (4*w*v)).all λc=>(List.range 3).all λe=>FA (DO w v c e) (D1 60 (.f 125) [.i (.ofNat w),.i (.ofNat v),.i (.ofNat c),.i (.ofNat e)] .empty Dl)
def Gy(w v:Nat):Bool:=(List.range (4*w*v)).all λc=>FA (Dz w c) (D1 60 (.f 64) [.i (.ofNat w),.i (.ofNat v),.i (.ofNat c)] .empty Dl)
def uS(w v:Nat):List (Nat×Nat):=(List.range (4*w*v)).flatMap λc=>(List.range 3).filterMap λe=>match Aa w v c e with
 |some n=>if c<n then some (c,e)else none
 |none=>none
def Ii(w v:Nat):Bool:=Gz w v&&Gy w v
def qL:∀w v:Nat,1<=w->w<=5->1<=v->v<=5->Ii w v=true:=by
 have a:((List.range 5).all λw=>(List.range 5).all λv=>Ii (w+1) (v+1))=true:=by kernel_rfl
 intro w v f g h i;have e:=qab.1 a (w - 1) (qad.2 (by omega));have b:=qab.1 e (v - 1) (qad.2 (by omega));have c:w - 1+1=w:=by omega
 have d:v - 1+1=v:=by omega
 rw[c,d]at b;exact b
def Ub{w v c e n:Nat}(d:1<=w)(h:Aa w v c e=some n):n≠c:=by
 have f:c / 4%w<=c / 4:=qd7 _ _;have g:c / 4 / w<=c / 4:=qdt _ _;have b:c%4=0∨c%4=1∨c%4=2∨c%4=3:=by omega
 rcases e with _|_|_|e<;>rcases b with a|a|a|a<;>simp only[Aa,a]at h<;>
  first
  |(split at h<;>first|(simp only[BP]at h;omega)|(cases h;done))
  |(simp only[BP]at h;omega)
  |(cases h;done)
def Gx{w v:Nat}(h:Ii w v=true):Gz w v=true/\Gy w v=true:=by
 unfold Ii at h;simp only[uc]at h;exact h
def EC{w v:Nat}(f:Ii w v=true){c e:Nat}(b:c<4*w*v)(d:e<3):Cc 125 [.i (.ofNat w),.i (.ofNat v),.i (.ofNat c),.i (.ofNat e)] (DO w v c e):=by
 have a:=qab.1 (Gx f).1 c (qad.2 b);exact io (n:=60) rfl (by kernel_rfl) rfl (qab.1 a e (qad.2 d))
def Eg{w v:Nat}(b:Ii w v=true){c:Nat}(a:c<4*w*v):Cc 64 [.i (.ofNat w),.i (.ofNat v),.i (.ofNat c)] (Dz w c):=
 io (n:=60) rfl (by kernel_rfl) rfl (qab.1 (Gx b).2 c (qad.2 a))
def Cj(w v:Int):Prop:=1<=w/\1<=v/\w<=256/\v<=256/\w*v<=256
instance (w v : Int) : Decidable (Cj w v) := by unfold Cj; infer_instance
def EB{w v a b:Int}(h:0<=w/\w<=a/\0<=v/\v<=b):0<=w*v/\w*v<=a*b:=
 ⟨Int.mul_nonneg h.1 h.2.2.1,Int.mul_le_mul h.2.1 h.2.2.2 h.2.2.1 (by omega)⟩
def PF(w v:Int):Cc 62 [.i w,.i v] [.i (if Cj w v then 0 else 1)]:=by
 refine q62 rfl ?_;unfold Yy;simp only[xp];by_cases c:1<=w
 ·by_cases d:1<=v
  ·by_cases e:w<=256
   ·by_cases f:v<=256
    ·have h:=EB (w:=w) (v:=v) (a:=256) (b:=256) (by omega);by_cases g:w*v<=256
     ·simp(disch:=omega)only[↓my];simp[Cj,c,d,e,f,g]
     ·simp(disch:=omega)only[↓my];simp[Cj,g]
    ·simp(disch:=omega)only[↓my];simp[Cj,f]
   ·simp(disch:=omega)only[↓my];simp[Cj,e]
  ·simp(disch:=omega)only[↓my];simp[Cj,d]
 ·simp(disch:=omega)only[↓my];simp[Cj,c]
def lG{w v:Int}(h:Cj w v):Cc 62 [.i w,.i v] [.i 0]:=by
 have:=PF w v;rw[mc h]at this;exact this
def Do(w v:Int):Prop:=1<=w/\w<=5/\1<=v/\v<=5
def wk{w v:Int}(h:Do w v):Cj w v:=by
 unfold Do at h;have:=EB (w:=w) (v:=v) (a:=5) (b:=5) (by omega);unfold Cj;omega
def sm4{w v:Int}(h:Do w v):4<=4*w*v/\4*w*v<=100:=by
 unfold Do at h;have c:=EB (w:=4*w) (v:=v) (a:=20) (b:=5) (by omega);have d:4*w<=4*w*v:=by
  have:=Int.mul_le_mul_of_nonneg_left h.2.2.1 (show 0<=4*w by omega);rw[Int.mul_one]at this;exact this
 omega
def Zb{w v:Int}(h:Do w v)(c:Int):Cc 102 [.i w,.i v,.i c] [.b (decide (0<=c)&&decide (c<4*w*v))]:=by
 have e:=sm4 h;unfold Do at h;refine q102 rfl ?_;unfold JB;simp only[xp];by_cases a:0<=c
 ·by_cases d:c<4*w*v
  ·simp(disch:=omega)only[↓my];simp[a,d]
  ·simp(disch:=omega)only[↓my];simp[a,d]
 ·simp(disch:=omega)only[↓my];simp[a]
def zC{w v c:Int}(h:Do w v)(a:¬(0<=c/\c<4*w*v)):Cc 64 [.i w,.i v,.i c] [.i 0,.i 0,.i 0,.i 7]:=by
 refine q64 rfl ?_;unfold Yz;simp only[xp]
 repeat (first|simp(disch:=omega)only[↓my]|refine ai (lG (wk h)) ?_)
 have e:(decide (0<=c)&&decide (c<4*w*v))=false:=by simp;omega
 refine ai (e▸Zb h c) ?_;simp(disch:=omega)only[↓my,Cv]
def wj{w v c e:Int}(h:Do w v)(a:¬(0<=c/\c<4*w*v)):Cc 67 [.i w,.i v,.i c,.i e] [.i 0,.i 7]:=by
 refine q67 rfl ?_;unfold Vg;simp only[xp]
 repeat (first|simp(disch:=omega)only[↓my]|refine ai (zC h a) ?_)
def zD{w v c e:Int}(h:Do w v)(a:¬(0<=c/\c<4*w*v)):Cc 125 [.i w,.i v,.i c,.i e] [.i 0,.i 0,.i 7]:=by
 refine q125 rfl ?_;unfold Hb;simp only[xp]
 repeat (first|simp(disch:=omega)only[↓my]|refine ai (wj h a) ?_)
def tr{x y q:Int}(h:-4096<=x/\x<=4096/\-4096<=y/\y<=4096/\q<=3):Cc 94 [.i x,.i y,.i q] [.i 0]:=by
 refine q94 rfl ?_;unfold SH;simp only[xp];simp(disch:=omega)only[↓my]
def py{x y q e:Int}(h:-4096<=x/\x<=4096/\-4096<=y/\y<=4096/\q<=3)(a:2<e):Cc 51 [.i x,.i y,.i q,.i e] [.i 0,.i 0,.i 0,.i 1]:=by
 refine q51 rfl ?_;unfold Ve;simp only[xp]
 repeat (first|simp(disch:=omega)only[↓my]|refine ai (tr h) ?_)
def Mq{w v:Int}(h:Do w v):∃a b:Nat,w = .ofNat a/\v = .ofNat b/\1<=a/\a<=5/\1<=b/\b<=5:=by
 unfold Do at h;obtain⟨a,rfl⟩:=Vm (show 0<=w by omega);obtain⟨b,rfl⟩:=Vm (show 0<=v by omega);exact⟨a,b,rfl,rfl,by omega,by omega,by omega,by omega⟩
def Kw{a b c:Nat}(h:(c:Int)<4*(a:Int)*(b:Int)):c<4*a*b:=by
 have:(4*(a:Int)*(b:Int))=((4*a*b:Nat):Int):=by simp
 rw[this]at h;omega
def uJ{w v c e:Int}(h:Do w v)(g:0<=c/\c<4*w*v)(l:2<e):Cc 67 [.i w,.i v,.i c,.i e] [.i 0,.i 1]:=by
 have j:=sm4 h;obtain⟨a,b,rfl,rfl,d⟩:=Mq h;obtain⟨k,rfl⟩:=Vm g.1;have m:k<4*a*b:=Kw g.2;have n:4*a*b<=100:=by
  have:(4*(a:Int)*(b:Int))=((4*a*b:Nat):Int):=by simp
  have f:=j.2;change 4*(a:Int)*(b:Int)<=100 at f;rw[this]at f;omega
 refine q67 rfl ?_;unfold Vg;simp only[xp];refine jw ?_;refine ai (Eg (qL a b d.1 d.2.1 d.2.2.1 d.2.2.2) m) ?_;unfold Dz;refine jw ?_;have o:k / 4%a<=k / 4:=qd7 _ _;have p:k / 4 / a<=k / 4:=qdt _ _;have r:(0:Int)<=((k / 4 / a:Nat):Int):=Cb _;have f:(0:Int)<=((k / 4%a:Nat):Int):=Cb _;refine ai (py (x:=Int.ofNat (k / 4%a)) (y:=Int.ofNat (k / 4 / a)) (q:=Int.ofNat (k%4)) (by simp only[D8];omega) l) ?_;simp(disch:=omega)only[↓my]
def wi{w v c e:Int}(h:Do w v)(a:0<=c/\c<4*w*v)(b:2<e):Cc 125 [.i w,.i v,.i c,.i e] [.i 0,.i 0,.i 1]:=by
 refine q125 rfl ?_;unfold Hb;simp only[xp]
 repeat (first|simp(disch:=omega)only[↓my]|refine ai (uJ h a b) ?_)
def Cs(w v c e:Int):Bool:=decide (0<=c)&&decide (c<4*w*v)&&decide (e<=2)&&(match Aa w.toNat v.toNat c.toNat e.toNat with
 |some n=>Nat.blt c.toNat n
 |none=>false)
def Ua{w v c e:Int}(h:Do w v)(p:0<=e):∃a b r:Int,Cc 125 [.i w,.i v,.i c,.i e] [.i a,.i b,.i r]/\(Cs w v c e=true↔r=0/\a=c/\b=e):=by
 by_cases d:0<=c/\c<4*w*v
 ·by_cases o:e<=2
  ·obtain⟨a,b,rfl,rfl,f⟩:=Mq h;obtain⟨k,rfl⟩:=Vm d.1;obtain⟨j,rfl⟩:=Vm p;have q:k<4*a*b:=Kw d.2;have g:=EC (qL a b f.1 f.2.1 f.2.2.1 f.2.2.2) q (e:=j) (by omega);unfold DO at g;cases e:Aa a b k j with
   |none=>
    rw[e]at g;refine⟨_,_,_,g,?_⟩;have:Cs (.ofNat a) (.ofNat b) (k:Int) (j:Int)=false:=by
     unfold Cs;have l:Aa (Int.ofNat a).toNat (Int.ofNat b).toNat (k:Int).toNat (j:Int).toNat=none:=e;rw[l];simp
    rw[this];simp
   |some n=>
    rw[e]at g;refine⟨_,_,_,g,?_⟩;have s:=Ub f.1 e;have l:Aa (Int.ofNat a).toNat (Int.ofNat b).toNat (k:Int).toNat (j:Int).toNat=some n:=e;unfold Cs;rw[l];simp only[uc,BF,BH,qc5];constructor
    ·rintro⟨_,m⟩;exact⟨by trivial,by show((min k n:Nat):Int)=k;omega,by trivial⟩
    ·rintro⟨_,m,_⟩;have m:((min k n:Nat):Int)=k:=m;exact⟨⟨⟨d.1,d.2⟩,o⟩,by omega⟩
  ·refine⟨_,_,_,wi h d (by omega),?_⟩;have:Cs w v c e=false:=by unfold Cs;simp[o]
   rw[this];simp
 ·refine⟨_,_,_,zD h d,?_⟩;have:Cs w v c e=false:=by
   unfold Cs;have:(decide (0<=c)&&decide (c<4*w*v))=false:=by simp;omega
   rw[this];simp
  rw[this];simp
def wY{w v c e:Int}(h:Cs w v c e=true):0<=c/\c<4*w*v/\e<=2:=by
 unfold Cs at h;simp only[uc,BF]at h;exact⟨h.1.1.1,h.1.1.2,h.1.2⟩
def Da(a b:BJ):Bool:=decide (a.1<b.1)||(decide (a.1=b.1)&&decide (a.2.1<b.2.1))
def BT:Ty->Bool
 |a :: b :: l=>Da a b&&BT (b :: l)
 |_=>true
def iG:∀ {l:Ty},BT l=true↔∀(i:Nat) a b,l[i]?=some a->l[i+1]?=some b->Da a b=true
 | []=>by simp[BT]
 | [a]=>by simp[BT]
 |a :: b :: l=>by
  simp only[BT,uc];rw[iG (l:=b :: l)];constructor
  ·rintro⟨h1,e⟩ i x y c d;cases i with
   |zero=>
    simp only[UH,BP,Ip]at c d;subst c d;exact h1
   |succ i=>exact e i x y (by simpa using c) (by simpa using d)
  ·intro h;exact⟨h 0 a b rfl rfl,λi x y c d=>h (i+1) x y (by simpa using c) (by simpa using d)⟩
def MS(w v:Int)(c:BJ):Bool:=Cs w v c.1 c.2.1
def CD(w v:Int)(l:Ty):Int:=if l.all Hu=false then 1 else if l.all (MS w v)=false then 7 else if BT l=true then 0 else 6
def yp(c:BJ):Cc 126 [.i c.1,.i c.2.1,.i c.2.2] [.i c.1,.i c.2.1]:=by
 refine q126 rfl ?_;unfold JH;simp only[xp];simp(disch:=omega)only[↓my]
def O9{a b:BJ}(h:0<=a.1/\a.1<=1000/\0<=b.1/\b.1<=1000/\0<=a.2.1/\a.2.1<=255/\0<=b.2.1/\b.2.1<=255):∃d:Int,Cc 127 [.i a.1,.i a.2.1,.i b.1,.i b.2.1] [.i d]/\(d<0↔Da a b=true):=by
 by_cases c:a.1=b.1
 ·refine⟨a.2.1 - b.2.1,?_,by simp only[Da,Ck,uc,BF];omega⟩;refine Pw rfl ?_;unfold DD;simp only[xp];simp(disch:=omega)only[↓my]
 ·refine⟨a.1 - b.1,?_,by simp only[Da,Ck,uc,BF];omega⟩;refine Pw rfl ?_;unfold DD;simp only[xp];simp(disch:=omega)only[↓my]
def Nx{w v:Int}(Q:Do w v){h:HL}{x:Value}{l:Ty}(z:LsH h x 3 zz l)(M:∀c∈l,okC c)(hn:l.length<=4294967296) :
  aD cc ab 99 [.i w,.i v,.v x] (ka aa h) [.i (CD w v l)] (ka aa h):=by
 obtain⟨T,R,X,rfl,rfl⟩:=x99 (K:=λT R=>T=[.i (CD w v l)]/\R=h) (H:=h) (kx (kx (rv z.good ub))) (by
  unfold f99;simp only[xp]
  repeat (first|simp(disch:=omega)only[↓my]|refine ai (lG (wk Q)) ?_|refine al (yG z hn) ?_)
  cases I:l.all Hu with
  |false=>
   simp(disch:=omega)only[↓my,Cv];exact⟨by simp[CD,I],by trivial⟩
  |true=>
   simp(disch:=omega)only[↓my,Bs];refine br z ?_;refine eo l.length (λj=>∀i,i<j->∀c,l[i]?=some c->MS w v c=true) rfl (AM _) (λi D=>absurd D (qd1 _)) ?_;intro j hj D G g;refine jw ?_;by_cases m:j<l.length
   ·rw[aJ m];refine jw ?_;obtain⟨c,n⟩:=aL m;have t:=Af n;have P:=M c t;unfold okC at P;have A:MS w v c=false->CD w v l=7:=λf=>by
     have:l.all (MS w v)=false:=List.all_eq_false.2 ⟨c,t,by simp[f]⟩;simp[CD,I,this]
    refine aQ z rfl n ?_;unfold zz;refine jw ?_;obtain⟨a,b,r,O,p⟩:=Ua (c:=c.1) (e:=c.2.1) Q (by omega);refine ai O ?_;refine jw ?_;by_cases S:r=0
    ·subst S
     repeat (first|simp(disch:=omega)only[↓my]|refine ai (yp c) ?_)
     by_cases q:a=c.1/\b=c.2.1
     ·have f:MS w v c=true:=p.2 ⟨rfl,q.1,q.2⟩;simp(disch:=omega)only[↓my,Bs];rw[aS (by omega)];refine g m λi s U y=>?_;rcases Bi i j with h|h
      ·exact D i h U y
      ·obtain rfl:i=j:=by omega
       rw[n]at y;cases y;exact f
     ·have f:MS w v c=false:=by
       rw[←Cz];intro f;have:=p.1 f;exact q ⟨this.2.1,this.2.2⟩
      rw[CL q];simp(disch:=omega)only[↓my,Cv];exact⟨by rw[A f],by trivial⟩
    ·have f:MS w v c=false:=by
      rw[←Cz];intro f;exact S (p.1 f).1
     refine jw ?_;exact⟨by rw[A f],by trivial⟩
   ·obtain rfl:j=l.length:=by omega
    rw[aM (zY _)];refine jw ?_;have f:l.all (MS w v)=true:=qab.2 λc n=>by
     obtain⟨i,s⟩:=Dd n;exact D i (aq s) c s
    refine eo (j0:=1) (max 1 l.length) (λj=>1<=j/\∀(i:Nat) a b,i+1<j->l[i]?=some a->l[i+1]?=some b->Da a b=true) rfl (Vp _ _) ⟨zY _,λi a b D=>by omega⟩ ?_;intro j ad ⟨h1,hi2⟩ G g;refine jw ?_;refine br z ?_;by_cases m:j<l.length
    ·rw[aJ m];refine jw ?_;rw[gf h1 (by omega)];obtain⟨c,n⟩:=aL (l:=l) (i:=j - 1) (by omega);obtain⟨d,C⟩:=aL m;have J:=M c (Af n);have L:=M d (Af C);have Y:=wY (qab.1 f c (Af n));have Z:=wY (qab.1 f d (Af C));have h4:=sm4 Q;unfold okC at J L;refine aQ z rfl n ?_;unfold zz
     repeat (first|simp(disch:=omega)only[↓my]|refine ai (yp c) ?_)
     refine aQ z rfl C ?_;unfold zz
     repeat (first|simp(disch:=omega)only[↓my]|refine ai (yp d) ?_)
     obtain⟨o,ho,F⟩:=O9 (a:=c) (b:=d) (by omega);refine ai ho ?_;refine jw ?_;by_cases E:o<0
     ·simp(disch:=omega)only[↓my];rw[aS (by omega)];refine g (by omega) ⟨by omega,λi a b s u k=>?_⟩;rcases Bi (i+1) j with h|h
      ·exact hi2 i a b h u k
      ·have V:i=j - 1:=by omega
       have W:i+1=j:=by omega
       rw[W,C]at k;rw[V,n]at u;cases u;cases k;exact F.1 E
     ·have N:BT l=false:=by
       rw[←Cz,iG];intro B;have:=B (j - 1) c d n (by rw[show j - 1+1=j by omega];exact C);exact E (F.2 this)
      refine jw ?_;exact⟨by simp[CD,I,f,N],by trivial⟩
    ·rw[aM (by omega)];refine jw ?_;have u:BT l=true:=iG.2 λi a b u k=>hi2 i a b (by have:=aq k;omega) u k;exact⟨by simp[CD,I,f,u],by trivial⟩)
 exact X
def sd(w n:Nat):Cl:=(Int.ofNat (n / 4%w),Int.ofNat (n / 4 / w),n%4)
def rkN(w n:Nat):Nat:=10*(n / 4%w+n / 4 / w)+(if n / 4 / w=0/\n / 4%w≠0 then [1,2,1,0]else [0,1,2,1]).getD (n%4) 0
def uq(w v c e:Nat):TB:=match Aa w v c e with
 |some n=>[.i (.ofNat n),.i 0]
 |none=>[.i 0,.i 7]
def RI(w v:Nat):Bool:=(List.range (4*w*v)).all λc=>(List.range 3).all λe=>jv 67 [.i (.ofNat w),.i (.ofNat v),.i (.ofNat c),.i (.ofNat e)] (uq w v c e)
def RH(w v:Nat):Bool:=(uS w v).all λu=>jv 130 [.i (.ofNat w),.i (.ofNat v),.i (.ofNat u.1),.i (.ofNat u.2)] [.i (.ofNat (ua (sd w u.1) u.2).1),.i (ua (sd w u.1) u.2).2,.i 0]
def SA(a b:Ln):Bool:=Nat.beq a.1 b.1&&decide (a.2=b.2)
def eqLn_iff{a b:Ln}:SA a b=true↔a=b:=by
 unfold SA;rw[uc,BF,qdD];exact⟨λh=>⟨AE h.1,h.2⟩,λh=>⟨by rw[h.1];exact Ea _,h.2⟩⟩
def Sy(a b:Cl):Bool:=decide (a.1=b.1)&&(decide (a.2.1=b.2.1)&&Nat.beq a.2.2 b.2.2)
def eqCl_iff{a b:Cl}:Sy a b=true↔a=b:=by
 unfold Sy;rw[uc,uc,BF,BF,qdD,qdD];exact⟨λh=>⟨h.1,h.2.1,AE h.2.2⟩,λh=>⟨h.1,h.2.1,by rw[h.2.2];exact Ea _⟩⟩
def nbT(w v c e:Nat):Bool:=match Aa w v c e with
 |some n=>Nat.blt n (4*w*v)&&((match Aa w v n e with
  |some m=>Nat.beq m c
  |none=>false)&&(SA (ua (sd w c) e) (ua (sd w n) e)&&(Sy (sd w n) (AB (sd w c) e) && !Nat.beq n c)))
 |none=>true
def Kp(w c e:Nat):Bool:=Nat.ble 1 (ua (sd w c) e).1&&(Nat.ble (ua (sd w c) e).1 4&&(decide (-10<=(ua (sd w c) e).2)&&decide ((ua (sd w c) e).2<=10)))
def Va(w v n:Nat):Bool:=Nat.beq n 0||(List.range 3).any λe=>match Aa w v n e with
 |some m=>Nat.blt (rkN w m) (rkN w n)
 |none=>false
def Mn(w v:Nat):Bool:=(List.range (4*w*v)).all λc=>Va w v c&&(List.range 3).all λe=>nbT w v c e&&Kp w c e
def Mj(w v:Nat):Bool:=RI w v&&(RH w v&&Mn w v)
def VF:∀w v:Nat,1<=w->w<=5->1<=v->v<=5->Mj w v=true:=by
 have a:((List.range 5).all λw=>(List.range 5).all λv=>Mj (w+1) (v+1))=true:=by kernel_rfl
 intro w v d e f g;have c:=qab.1 a (w - 1) (qad.2 (by omega));have b:=qab.1 c (v - 1) (qad.2 (by omega));rw[show w - 1+1=w by omega,show v - 1+1=v by omega]at b;exact b
def Sh(w v:Nat):Prop:=1<=w/\w<=5/\1<=v/\v<=5
section
variable {w v:Nat}
def sR(h:Sh w v):RI w v=true/\RH w v=true/\Mn w v=true:=by
 have:=VF w v h.1 h.2.1 h.2.2.1 h.2.2.2;unfold Mj at this;simpa only[uc]using this
def ZZ(h:Sh w v){c e:Nat}(a:c<4*w*v)(b:e<3):Cc 67 [.i (.ofNat w),.i (.ofNat v),.i (.ofNat c),.i (.ofNat e)] (uq w v c e):=
 ep (qab.1 (qab.1 (sR h).1 c (qad.2 a)) e (qad.2 b)) rfl (by kernel_rfl) rfl
def ln_c(h:Sh w v){u e:Nat}(a:(u,e)∈uS w v):Cc 130 [.i (.ofNat w),.i (.ofNat v),.i (.ofNat u),.i (.ofNat e)] [.i (.ofNat (ua (sd w u) e).1),.i (ua (sd w u) e).2,.i 0]:=
 ep (qab.1 (sR h).2.1 (u,e) a) rfl (by kernel_rfl) rfl
def ED(h:Sh w v){c:Nat}(a:c<4*w*v):Va w v c=true/\∀e,e<3->nbT w v c e=true/\Kp w c e=true:=by
 have:=qab.1 (sR h).2.2 c (qad.2 a);rw[uc]at this;refine⟨this.1,λe b=>?_⟩;have:=qab.1 this.2 e (qad.2 b)
 rwa [uc]at this
def dI(h:Sh w v){c e n:Nat}(i:c<4*w*v)(j:e<3)(l:Aa w v c e=some n):n<4*w*v/\Aa w v n e=some c/\ua (sd w c) e=ua (sd w n) e/\sd w n=AB (sd w c) e/\n≠c:=by
 have:=((ED h i).2 e j).1;unfold nbT at this;rw[l]at this;simp only[uc]at this;obtain⟨d,a,f,g,b⟩:=this;refine⟨by simpa[BH]using d,?_,eqLn_iff.1 f,eqCl_iff.1 g,λe=>?_⟩
 ·split at a
  next m k=>
   rw[k,AE a]
  ·cases a
 ·subst e;rw[show Nat.beq n n=true from Ea n]at b;cases b
def FJ(h:Sh w v){c e:Nat}(a:c<4*w*v)(b:e<3):1<=(ua (sd w c) e).1/\(ua (sd w c) e).1<=4/\-10<=(ua (sd w c) e).2/\(ua (sd w c) e).2<=10:=by
 have:=((ED h a).2 e b).2;unfold Kp at this;simp only[uc,De,BF]at this;exact this
def vJ(h:Sh w v){P:Nat->Prop}(h0:P 0)(o:∀c e n,c<4*w*v->e<3->Aa w v c e=some n->P c->P n):∀n,n<4*w*v->P n:=by
 have a:∀k n,n<4*w*v->rkN w n<k->P n:=by
  intro k
  induction k with
  |zero=>intro n _ l;omega
  |succ k p=>
   intro n d l;have hw:=(ED h d).1;unfold Va at hw;rw[Ck]at hw;rcases hw with hw|hw
   ·rw[AE hw];exact h0
   ·obtain⟨e,b,f⟩:=qcm.1 hw;have b:=qad.1 b;split at f
    next m g=>
     rw[BH]at f;obtain⟨i,j,_⟩:=dI h d b g;exact o m e n i b j (p m i (by omega))
    ·cases f
 intro n d;exact a (rkN w n+1) n d (by omega)
def KG{c e n:Nat}(b:c<4*w*v)(d:e<3)(f:Aa w v c e=some n)(a:c<n):(c,e)∈uS w v:=by
 unfold uS;rw[qa1];refine⟨c,qad.2 b,qaG.2 ⟨e,qad.2 d,?_⟩⟩;simp[f,a]
def rZ(h:Sh w v){c e n:Nat}(f:c<4*w*v)(a:e<3)(g:Aa w v c e=some n):(min c n,e)∈uS w v/\ua (sd w (min c n)) e=ua (sd w c) e:=by
 obtain⟨i,j,k,_,l⟩:=dI h f a g;rcases Bi c n with d|b
 ·rw[C1 (by omega)];exact⟨KG f a g d,rfl⟩
 ·rw[Rz b];exact⟨KG i a j (by omega),k.symm⟩
end
def bD(c:BJ):Ku:=(c.1,c.2.1)
def AW(l:Ty)(u e:Nat):Bool:=decide (((Int.ofNat u,Int.ofNat e):Ku)∈l.map bD)
def Du(H:HL)(id:Nat)(l:Ty):Prop:=∃a c,H[id]?=some (.o (.map a c))/\EntS a (l.map bD)
def kR{l:Ty}(h:l.Pairwise λa b=>Da a b=true):(l.map bD).Nodup:=by
 rw[List.Nodup,qbj];refine h.imp λ{a b} c e=>?_;unfold Da at c;simp only[Ck,uc,BF]at c;unfold bD at e;simp only[Pz]at e;omega
def GY{H:HL}{w v:Int}{x:Value}{l:Ty}(m:LsH H x 3 zz l)(E:(l.map bD).Nodup)(I:l.length<=1000) :
  ∃G,aD cc ab 128 [.i w,.i v,.v x] (ka aa H) [.v (.map (some H.length))] (ka aa (H++[G]))/\Du (H++[G]) H.length l:=by
 obtain⟨u,h',z,rfl,G,rfl,B⟩:=x128 (K:=λu h'=>u=[.v (.map (some H.length))]/\∃G,h'=H++[G]/\Du h' H.length l) (H:=H) (kx (kx (rv m.good ub))) (by
  unfold Oa;simp only[xp];refine jw ?_;refine br m ?_;refine jw ?_;refine br m ?_;refine aR (σ:=HO) l.length (λj _=>[.i (Int.ofNat j)]) (λ_ G=>H++[G]) (λj G=>Du (H++[G]) H.length (l.take j)) (j0:=0) (s0:=.o (.map [] 0)) rfl rfl (AM _) ⟨[],0,by simp,rfl,λe h=>(by cases h)⟩ ?_;rintro j G J ⟨g,c,r,k⟩ y d;refine jw ?_;by_cases b:j<l.length
  ·rw[aJ b];refine jw ?_;obtain⟨a,p⟩:=aL b;have q:=m.pre (h':=H++[G]) ⟨[G],rfl⟩;refine aQ q rfl p ?_;unfold zz;refine jw ?_;have D:bD a∉(l.take j).map bD:=by
    intro t;rw[Rx]at t;have f:=E;have s:(l.map bD)[j]?=some (bD a):=by rw[AU,p];rfl
    have A:l.map bD=(l.map bD).take j++bD a :: (l.map bD).drop (j+1):=by
     conv=>lhs;rw[←Iu j (l.map bD)]
     rw[MO (by rw[AZ];exact b)]
     congr 2
     rw[A4 (by rw[AZ];exact b)]at s;exact AD s
    rw[A,qb0]at f;exact f.2.2 _ t _ Ch rfl
   refine bZ (T7 (C:=cc) (T:=aa) (n:=(H++[G]).length) (by kernel_rfl) (by kernel_rfl) r k D) ?_;rw[aS (by omega)];have e:bL (H++[G]) [.set H.length (.map (g++[{ key:=Hw (bD a),val:=.bool true,born:=c }]) (c+1))]=H++[.o (.map (g++[{ key:=Hw (bD a),val:=.bool true,born:=c }]) (c+1))]:=by
    show(H++[G]).set H.length _=_;simp
   rw[e];refine d _ b ⟨g++[{ key:=Hw (bD a),val:=.bool true,born:=c }],c+1,by simp,?_⟩;have F:(l.take (j+1)).map bD=(l.take j).map bD++[bD a]:=by
    rw[Dm,p,Cw];rfl
   rw[F];exact k.push _ _
  ·obtain rfl:j=l.length:=by omega
   rw[aM (zY _)];refine jw ?_;refine⟨by trivial,G,rfl,?_⟩;rw[Ly]at k;exact⟨g,c,r,k⟩)
 exact⟨G,z,B⟩
def tx(m:Mv):Tk:=[.int .u8 (Int.ofNat m.1),.int .i64 m.2.1,.int .i64 m.2.2]
def bR(m:Mv):(tx m).length=3:=rfl
def BK(w:Nat)(l:Ty)(g:Mv)(c n e:Nat):Mv:=if AW l (min c n) e then ae (Bb (ua (sd w (min c n)) e)) g else g
def wy{w v:Nat}(h:Sh w v){l:Ty}{c e n:Nat}(a:c<4*w*v)(b:e<3)(i:Aa w v c e=some n){k:Int}{g:Mv}(hg:Av k g)(j:0<=k):Av (k+20) (BK w l g c n e):=by
 unfold BK;obtain⟨_,f⟩:=rZ h a b i;split
 ·rw[f];have d:=FJ h a b;have:=dm (xz (n:=10) ⟨d.2.2.1,d.2.2.2⟩) hg;exact aN this (by omega)
 ·exact aN hg (by omega)
abbrev _root_.TI:=List Mv
def II{w v:Nat}(d:Sh w v){l:Ty}{h:HL}{x A y z B:Value}{j:Nat}{G:TI}(p:Ptr h A [.int .i64 (.ofNat w),.int .i64 (.ofNat v),x])(t:Ptr h y [.map (some j)])(D:Du h j l)(o:Ptr h z [B])(m:LsH h B 3 tx G)
  {c e n:Nat} (q:c<4*w*v) (r:e<3) (u:Aa w v c e=some n) {g:Mv} (hg:G[c]?=some g) {k:Int} (E:Av k g) (F:0<=k/\k<=16000) :
  aD cc ab 129 [.i (.ofNat c),.i (.ofNat e),.v A,.v y,.v z] (ka aa h) (Al (BK w l g c n e)) (ka aa h):=by
 obtain⟨M,L,J,K⟩:=D;have H:=qL w v d.1 d.2.1 d.2.2.1 d.2.2.2;obtain⟨I,s⟩:=rZ d q r u;have b:=FJ d q r;rw[←s]at b;have a:=EC H q r;unfold DO at a;rw[u]at a;simp only at a;exact xK x129 (kx (kx (rv p.good (rv t.good (rv o.good ub))))) (by
  unfold Ob;simp only[xp]
  repeat (first|simp(disch:=omega)only[↓my]|refine iz (ds:=[.int .i64 (.ofNat w),.int .i64 (.ofNat v)]) p (by simp) rfl ?_|refine ai a ?_|refine cQ t rfl ?_|refine ac rfl ?_|refine gj (TT (C:=cc) (T:=aa) (by kernel_rfl) (by kernel_rfl) J K (Int.ofNat (min c n),Int.ofNat e)) ?_)
  unfold BK AW;by_cases f:((Int.ofNat (min c n),Int.ofNat e):Ku)∈l.map bD
  ·rw[Bp f]
   repeat (first|simp(disch:=omega)only[↓my,Bs,if_true]|refine iz (ds:=[.int .i64 (.ofNat w),.int .i64 (.ofNat v)]) p (by simp) rfl ?_|refine ai (ln_c d I) ?_)
   refine ai (T5 ⟨b.1,b.2.1⟩ ⟨by omega,by omega⟩) ?_;simp only[Al,Aw,Ap]
   repeat (first|simp(disch:=omega)only[↓my]|refine cQ o rfl ?_|refine ac m.good ?_)
   refine aQ m rfl hg ?_;unfold tx;refine jw ?_;refine ai (U3 (xz (n:=10) ⟨b.2.2.1,b.2.2.2⟩) E (by omega)) ?_;simp only[Al,Aw,Ap];simp(disch:=omega)only[↓my];trivial
  ·rw[BV f]
   repeat (first|simp(disch:=omega)only[↓my,Cv,Bf,if_false]|refine cQ o rfl ?_|refine ac m.good ?_)
   refine aQ m rfl hg ?_;unfold tx;simp(disch:=omega)only[↓my];trivial)
def dd{α:Type}{e:Nat}{enc:α->Tk}(b:∀a,(enc a).length=e){h:HL}{id cx len:Nat}{l:List α}{i:Nat}{a:α}{n:Int}{new:Tk}{K:Ta}(hg:h[id]?=some (.o (.cells (l.flatMap enc) e true)))(j:n=Int.ofNat i)(f:i<l.length)(c:l.length=len)(d:new=enc a)(g:K [] (td h id e enc (l.set i a))) :
  P1.opt (Ah e (.slice (some ⟨id,0,pu e⟩) len cx) n) (@hid _ ⟨λx=>P1.heap (.st x new) h (@hid _ ⟨K⟩)⟩):=by
 have k:td h id e enc l=h:=bC hg;have:=r_set (C:=cc) (Sg:=ab) (T:=aa) (h:=h) (id:=id) (cx:=cx) (len:=len) (l:=l) b (aq hg) j f c d g;rw[k]at this;exact this
def cU{α:Type}{h:HL}{id e j:Nat}{enc:α->Tk}{l:List α}(a:j≠id):(td h id e enc l)[j]?=h[j]?:=by
 unfold td;rw[BL (BO a)]
def km(n:Nat):Tk:=[.int .i64 (Int.ofNat n)]
def aU(n:Nat):(km n).length=1:=rfl
def zX(t:Bool):Tk:=[.bool t]
def ez(t:Bool):(zX t).length=1:=rfl
def jF(q:Tx):(q.flatMap km).length=q.length:=by
 rw[ba (e:=1) (enc:=km) λa _=>aU a,UK]
def WQ(b:Nat)(h:HL)(v:Value)(q:Tx):Prop:=∃id off cx vs,v = .slice (some ⟨id,off,pu 1⟩) q.length cx/\b<=id/\h[id]?=some (.o (.cells vs 1 true))/\cut vs off (q.length*1)=some (q.flatMap km)/\(cx=0∨cx=q.length+1)
def WQ.ls{b:Nat}{h:HL}{v:Value}{q:Tx}(g:WQ b h v q):LsH h v 1 km q:=by
 obtain⟨id,c,d,i,rfl,j,e,f,_⟩:=g;exact⟨λa _=>aU a,by rw[jF,UK],.inr ⟨id,c,d,i,true,rfl,e,f⟩⟩
def WQ.good{b:Nat}{h:HL}{v:Value}{q:Tx}(a:WQ b h v q):aB v=true:=a.ls.good
def WQ.keep{b:Nat}{h h':HL}{v:Value}{q:Tx}(k:WQ b h v q)(i:∀(j:Nat) o,b<=j->h[j]?=some o->h'[j]?=some o):WQ b h' v q:=by
 obtain⟨id,a,d,l,e,c,f,g⟩:=k;exact⟨id,a,d,l,e,c,i _ _ c f,g⟩
def UT{b:Nat}{h:HL}{v:Value}{a:Nat}{q:Tx}{K:Value->Prop}(r:WQ b h v (a :: q))(n:∀v',WQ b h v' q->aB v'=true->K v'):P1.opt (CR 1 v (some 1) none none) (@hid _ ⟨K⟩):=by
 obtain⟨id,c,d,f,rfl,j,l,m,e⟩:=r;have p:CR 1 (.slice (some ⟨id,c,pu 1⟩) (a :: q).length d) (some 1) none none=some (.slice (some ⟨id,c+1,pu 1⟩) q.length (d - 1)):=by
  unfold CR;have g:¬(pu 1≠some 1/\pu 1≠pu 1):=by simp
  simp only[po g];have i:(0:Int)<=(some (1:Int)).getD 0/\(some (1:Int)).getD 0<=(none:Option Int).getD ((a :: q).length:Int)/\cV (a :: q).length d none none:=by
   refine⟨by simp,?_,?_⟩
   ·simp only[HV,qdk,CT];omega
   ·unfold cV;left;simp
  rw[mc i];rw[fJ,fJ,fJ];simp[bT]
 refine ah p (n _ ⟨id,c+1,d - 1,f,rfl,j,l,?_,?_⟩ ?_)
 ·have:=nz (m:cut f c ((a :: q).length*1)=some _) (o:=1) (k:=q.length*1) (by simp only[CT];omega);rw[this];simp only[C2,km,Aw,Ap,qcU,F9,UK];rw[←jF q]
  congr 1
  exact Ly
 ·rcases e with e|e
  ·left;omega
  ·right;simp only[CT]at e;omega
 ·simp[aB,noLoc,aP,bg,aW,aG,aw,pu]
def r_apQ{b:Nat}{h:HL}{v:Value}{q:Tx}{n m:Nat}{new:Tk}{K:Ta}(B:WQ b h v q)(y:b<=h.length)(A:m=h.length)(f:new=km n)(F:q.length<=1000)
  (u:∀v' h',WQ b h' v' (q++[n])->aB v'=true->(∀(j:Nat) o,j<b->h[j]?=some o->h'[j]?=some o)->h.length<=h'.length->K [v'] h') :
  P1.heap (.ap cc 1 8 v (.slice (some ⟨m,0,some 11⟩) 1 2)) (h++[.o (.cells new 1 true)]) (@hid _ ⟨K⟩):=by
 subst A f;obtain⟨id,d,D,C,rfl,E,r,s,x⟩:=B;have l:=aq r;have w:SlC (h++[HO.o (.cells (km n) 1 true)]) (.slice (some ⟨h.length,0,pu 1⟩) 1 2) 1 1 (km n):=⟨rfl,.inr ⟨h.length,0,2,km n,true,rfl,by simp,Sx.cut_all rfl⟩⟩;have t:(h++[HO.o (.cells (km n) 1 true)])[id]?=some (.o (.cells C 1 true)):=by rw[BE l];exact r
 have k:bh (q.length+1) 8=true:=by
  unfold bh;rw[Be (by omega),Be (by omega)];rfl
 have p:∀i,aB (.slice (some ⟨i,0,pu 1⟩) (q.length+1) 0)=true:=λi=>by simp[aB,noLoc,aP,bg,aW,aG,aw,pu]
 have e:(q.flatMap km++km n)=(q++[n]).flatMap km:=by simp
 have a:(q++[n]).length=q.length+1:=by simp
 rcases x with rfl|rfl
 ·have c:BS cc 1 8 (.slice (some ⟨id,d,pu 1⟩) q.length 0) (.slice (some ⟨h.length,0,pu 1⟩) 1 2) (wb aa (h++[HO.o (.cells (km n) 1 true)])) (h++[HO.o (.cells (km n) 1 true)]).length=some ([.set id .dead,.push (.cells (q.flatMap km++km n) 1 true)],[.slice (some ⟨(h++[HO.o (.cells (km n) 1 true)]).length,0,pu 1⟩) (q.length+1) 0]):=by
   unfold BS;rw[qG w];simp only[ne_eq,not_true_eq_false,if_false];rw[bF t];simp only[ne_eq,not_true_eq_false,if_false];rw[s];simp only[qdo];rw[po (by omega),mc k]
  refine bZ (show(Hp.ap cc 1 8 (.slice (some ⟨id,d,pu 1⟩) q.length 0) (.slice (some ⟨h.length,0,pu 1⟩) 1 2)).run _ _=_ from c) ?_;refine u _ _ ⟨(h++[HO.o (.cells (km n) 1 true)]).length,0,0,q.flatMap km++km n,by rw[a],by simp;omega,?_,?_,.inl rfl⟩ (p _) (λj o z g=>?_) ?_
  ·show(((h++[HO.o (.cells (km n) 1 true)]).set id (.o .dead))++[HO.o (.cells (q.flatMap km++km n) 1 true)])[_]?=_;rw[Cd (by simp)];simp
  ·rw[e,a];exact Sx.cut_all (by rw[jF,a,UK])
  ·show(((h++[HO.o (.cells (km n) 1 true)]).set id (.o .dead))++[HO.o (.cells (q.flatMap km++km n) 1 true)])[j]?=_;have:=aq g;rw[BE (by simp;omega),BL (by omega),BE this];exact g
  ·show h.length<=(((h++[HO.o (.cells (km n) 1 true)]).set id (.o .dead))++[HO.o (.cells (q.flatMap km++km n) 1 true)]).length;simp;omega
 ·have c:BS cc 1 8 (.slice (some ⟨id,d,pu 1⟩) q.length (q.length+1)) (.slice (some ⟨h.length,0,pu 1⟩) 1 2) (wb aa (h++[HO.o (.cells (km n) 1 true)])) (h++[HO.o (.cells (km n) 1 true)]).length=some ([.push (.cells (q.flatMap km++km n) 1 true)],[.slice (some ⟨(h++[HO.o (.cells (km n) 1 true)]).length,0,pu 1⟩) (q.length+1) 0]):=by
   unfold BS;rw[qG w];simp only[ne_eq,not_true_eq_false,if_false];rw[bF t];simp only[ne_eq,not_true_eq_false,if_false];rw[s];simp only;rw[po (by omega),mc k]
  refine bZ (show(Hp.ap cc 1 8 (.slice (some ⟨id,d,pu 1⟩) q.length (q.length+1)) (.slice (some ⟨h.length,0,pu 1⟩) 1 2)).run _ _=_ from c) ?_;refine u _ _ ⟨(h++[HO.o (.cells (km n) 1 true)]).length,0,0,q.flatMap km++km n,by rw[a],by simp;omega,?_,?_,.inl rfl⟩ (p _) (λj o z g=>?_) ?_
  ·show((h++[HO.o (.cells (km n) 1 true)])++[HO.o (.cells (q.flatMap km++km n) 1 true)])[_]?=_;rw[Cd (by simp)];simp
  ·rw[e,a];exact Sx.cut_all (by rw[jF,a,UK])
  ·show((h++[HO.o (.cells (km n) 1 true)])++[HO.o (.cells (q.flatMap km++km n) 1 true)])[j]?=_;have:=aq g;rw[BE (by simp;omega),BE this];exact g
  ·show h.length<=((h++[HO.o (.cells (km n) 1 true)])++[HO.o (.cells (q.flatMap km++km n) 1 true)]).length;simp
abbrev _root_.Tv:=List Bool
structure RS(H h:HL)(w v:Nat)(x:Value)(l:Ty)(A:TI)(B:Tv):Prop where
 pre:Pre H h
 len:H.length+6<=h.length
 p:h[H.length]?=some (.o (.cells [.int .i64 (.ofNat w),.int .i64 (.ofNat v),x] 3 true))
 mp:Du h (H.length+1) l
 mv:h[H.length+2]?=some (.o (.cells [.map (some (H.length+1))] 1 true))
 ol:h[H.length+3]?=some (.o (.cells (A.flatMap tx) 3 true))
 ov:h[H.length+4]?=some (.o (.cells [.slice (some ⟨H.length+3,0,pu 3⟩) (4*w*v) (4*w*v+1)] 1 true))
 kn:h[H.length+5]?=some (.o (.cells (B.flatMap zX) 1 true))
 la:A.length=4*w*v
 lb:B.length=4*w*v
section
variable {H h:HL} {w v:Nat} {x:Value} {l:Ty} {A:TI} {B:Tv}
def RS.lsA(c:RS H h w v x l A B):LsH h (.slice (some ⟨H.length+3,0,pu 3⟩) (4*w*v) (4*w*v+1)) 3 tx A:=by
 have b:=ba (e:=3) (enc:=tx) (l:=A) λa _=>bR a;rw[←c.la];exact⟨λa _=>bR a,b,.inr ⟨_,0,_,_,true,rfl,c.ol,Sx.cut_all b⟩⟩
def RS.lsB(c:RS H h w v x l A B):LsH h (.slice (some ⟨H.length+5,0,pu 1⟩) (4*w*v) (4*w*v+1)) 1 zX B:=by
 have b:=ba (e:=1) (enc:=zX) (l:=B) λa _=>ez a;rw[←c.lb];exact⟨λa _=>ez a,b,.inr ⟨_,0,_,_,true,rfl,c.kn,Sx.cut_all b⟩⟩
def RS.keep{h':HL}(a:RS H h w v x l A B)(b:∀(j:Nat) o,j<H.length+6->h[j]?=some o->h'[j]?=some o)(k:h.length<=h'.length):RS H h' w v x l A B:=by
 obtain⟨g,c,m,n⟩:=a.mp;refine⟨?_,EL a.len k,b _ _ (by omega) a.p,⟨g,c,b _ _ (by omega) m,n⟩,b _ _ (by omega) a.mv,b _ _ (by omega) a.ol,b _ _ (by omega) a.ov,b _ _ (by omega) a.kn,a.la,a.lb⟩;have e:=a.pre;refine⟨h'.drop H.length,?_⟩;apply Ga;intro i;rcases Bi i H.length with d|d
 ·rw[BE d];have f:H[i]?=some H[i]:=A4 d;rw[f];exact b _ _ (by omega) (e.get f)
 ·rw[Cd d,HY,Nat.add_sub_cancel' d]
def gn{α:Type}{id e:Nat}{enc:α->Tk}{L:List α}(a:Pre H h)(hid:H.length<=id):Pre H (td h id e enc L):=a.set hid _
def su{α:Type}{h:HL}{id e:Nat}{enc:α->Tk}{L:List α}:(td h id e enc L).length=h.length:=by simp[td]
def RS.putA(a:RS H h w v x l A B){A':TI}(d:A'.length=A.length):RS H (td h (H.length+3) 3 tx A') w v x l A' B:=by
 obtain⟨b,c,f,g⟩:=a.mp;have e:=a.len;exact⟨gn a.pre (by omega),by rw[su];exact e,by rw[cU (by omega)];exact a.p,⟨b,c,by rw[cU (by omega)];exact f,g⟩,by rw[cU (by omega)];exact a.mv,bM (by omega),by rw[cU (by omega)];exact a.ov,by rw[cU (by omega)];exact a.kn,by rw[d];exact a.la,a.lb⟩
def RS.putB(a:RS H h w v x l A B){B':Tv}(d:B'.length=B.length):RS H (td h (H.length+5) 1 zX B') w v x l A B':=by
 obtain⟨b,c,f,g⟩:=a.mp;have e:=a.len;exact⟨gn a.pre (by omega),by rw[su];exact e,by rw[cU (by omega)];exact a.p,⟨b,c,by rw[cU (by omega)];exact f,g⟩,by rw[cU (by omega)];exact a.mv,by rw[cU (by omega)];exact a.ol,by rw[cU (by omega)];exact a.ov,bM (by omega),a.la,by rw[d];exact a.lb⟩
end
abbrev _root_.TC:=Nat->Mv
def nc(w v:Nat)(l:Ty)(G:TC):Prop:=∀c e n,c<4*w*v->e<3->Aa w v c e=some n->G n=BK w l (G c) c n e
def A6:Tv->Nat
 | []=>0
 |b :: l=>(if b then 1 else 0)+A6 l
def gT:∀l:List Bool,A6 l<=l.length
 | []=>zY _
 |b :: l=>by
  have:=gT l;simp only[A6,CT];split<;>omega
def fW:∀ {l:Tv} {n:Nat},l[n]?=some false->A6 (l.set n true)=A6 l+1
 | [],n,h=>by simp at h
 |b :: l,0,h=>by
  simp only[UH,BP]at h;subst h;simp[A6];omega
 |b :: l,n+1,h=>by
  simp only[Ip]at h;have:=fW h;simp only[qcJ,A6,this];omega
structure JS(w v:Nat)(l:Ty)(A:TI)(B:Tv)(q:Tx)(D:Nat->Nat->Prop):Prop where
 a0:A[0]?=some AG
 b0:B[0]?=some true
 q1:∀c∈q,B[c]?=some true
 dn:∀c e n,D c e->c<4*w*v->e<3->Aa w v c e=some n->B[c]?=some true->c∉q->B[n]?=some true/\∃a,A[c]?=some a/\A[n]?=some (BK w l a c n e)
 bd:∀(c:Nat) a,B[c]?=some true->A[c]?=some a->Av (20*(A6 B:Int)) a
 un:∀G,nc w v l G->G 0=AG->∀(c:Nat) a,B[c]?=some true->A[c]?=some a->a=G c
structure GoodA(w v:Nat)(l:Ty)(A:TI):Prop where
 len:A.length=4*w*v
 a0:A[0]?=some AG
 ok:∀a∈A,Av 2000 a
 cons:∀c e n a,c<4*w*v->e<3->Aa w v c e=some n->A[c]?=some a->A[n]?=some (BK w l a c n e)
section
variable {w v:Nat} {l:Ty} {A:TI} {B:Tv} {q:Tx}
def JS.start(j:Sh w v):JS w v l (List.replicate (4*w*v) AG) ((List.replicate (4*w*v) false).set 0 true) [0] λ_ _=>True:=by
 have d:0<4*w*v:=by
  have k:=j.1;have m:=j.2.2.1;have:0<w*v:=Nat.mul_pos k m;rw[MQ];omega
 have i:∀c,((List.replicate (4*w*v) false).set 0 true)[c]?=some true->c=0:=by
  intro c b;by_cases h:c=0
  ·exact h
  ·rw[BL (BO h),It]at b;split at b<;>cases b
 refine⟨by rw[It,mc d],by rw[CQ (by simpa using d)],λc b=>?_,λc e n _ _ _ _ g o=>?_,λc a g f=>?_,λG p h c a g f=>?_⟩
 ·simp only[qav]at b;subst b;rw[CQ (by simpa using d)]
 ·exact absurd (by rw[i c g];simp) o
 ·have:=i c g;subst this;rw[It,mc d]at f;cases f;exact xA (by omega)
 ·have:=i c g;subst this;rw[It,mc d]at f;cases f;exact h.symm
def JS.pop{c0:Nat}(h:JS w v l A B (c0 :: q) λ_ _=>True):JS w v l A B q λc e=>c=c0->e<0:=by
 refine⟨h.a0,h.b0,λc d=>h.q1 c (Bo _ d),λc e n g d i j f k=>?_,h.bd,h.un⟩;by_cases a:c=c0
 ·have:=g a;omega
 ·exact h.dn c e n trivial d i j f λb=>by
   rcases qar.1 b with b|b
   ·exact a b
   ·exact k b
def JS.skip{c0 j:Nat}(h:JS w v l A B q λc e=>c=c0->e<j)(o:Aa w v c0 j=none):JS w v l A B q λc e=>c=c0->e<j+1:=by
 refine⟨h.a0,h.b0,h.q1,λc e n i g k a f p=>?_,h.bd,h.un⟩;refine h.dn c e n (λb=>?_) g k a f p;have:=i b;rcases Bi e j with d|m
 ·exact d
 ·obtain rfl:e=j:=by omega
  subst b;rw[o]at a;cases a
def JS.seen{c0 j n:Nat}{a:Mv}(h:JS w v l A B q λc e=>c=c0->e<j)(t:Aa w v c0 j=some n)(m:B[n]?=some true)(k:A[c0]?=some a)(s:A[n]?=some (BK w l a c0 n j)):JS w v l A B q λc e=>c=c0->e<j+1:=by
 refine⟨h.a0,h.b0,h.q1,λc e x p o r b g u=>?_,h.bd,h.un⟩;by_cases f:c=c0/\e=j
 ·obtain⟨rfl,rfl⟩:=f;rw[t]at b;cases b;exact⟨m,a,k,s⟩
 ·exact h.dn c e x (λd=>by have:=p d;have:e≠j:=λi=>f ⟨d,i⟩;omega) o r b g u
def JS.fresh(O:Sh w v){c0 j n:Nat}{a:Mv}(h:JS w v l A B q λc e=>c=c0->e<j)(V:A.length=4*w*v)(W:B.length=4*w*v)(m:c0<4*w*v)(L:j<3)(z:Aa w v c0 j=some n)(t:B[c0]?=some true)(I:B[n]?=some false)(H:A[c0]?=some a) :
  JS w v l (A.set n (BK w l a c0 n j)) (B.set n true) (q++[n]) λc e=>c=c0->e<j+1:=by
 obtain⟨Y,_,_,_,Z⟩:=dI O m L z;have k:(B.set n true)[n]?=some true:=CQ (by omega);have i:(A.set n (BK w l a c0 n j))[n]?=some (BK w l a c0 n j):=CQ (by omega);have p:∀c,c≠n->(B.set n true)[c]?=B[c]?:=λc g=>BL (BO g);have hA:∀c,c≠n->(A.set n (BK w l a c0 n j))[c]?=A[c]?:=λc g=>BL (BO g);have r:(0:Nat)≠n:=λe=>by have:=h.b0;rw[e,I]at this;cases this
 have M:Av (20*(A6 B:Int)) a:=h.bd c0 a t H;refine⟨by rw[hA 0 r];exact h.a0,by rw[p 0 r];exact h.b0,λc g=>?_,λc e C T g U o f N=>?_,λc D f d=>?_,λG F s c D f d=>?_⟩
 ·rcases qas.1 g with g|g
  ·have:=h.q1 c g;by_cases b:c=n
   ·rw[b];exact k
   ·rw[p c b];exact this
  ·simp only[qav]at g;rw[g];exact k
 ·have b:c≠n:=λe=>N (by rw[e];simp);have J:c∉q:=λX=>N (DW _ X);rw[p c b]at f;by_cases x:c=c0/\e=j
  ·obtain⟨rfl,rfl⟩:=x;rw[z]at o;cases o;exact⟨k,a,by rw[hA c b];exact H,i⟩
  ·obtain⟨E,P,Q,R⟩:=h.dn c e C (λu=>by have:=T u;have:e≠j:=λK=>x ⟨u,K⟩;omega) g U o f J;have y:C≠n:=λS=>by rw[S,I]at E;cases E
   exact⟨by rw[p C y];exact E,P,by rw[hA c b];exact Q,by rw[hA C y];exact R⟩
 ·rw[fW I];by_cases b:c=n
  ·rw[b,i]at d;cases d;exact aN (wy O m L z M (by omega)) (by omega)
  ·rw[p c b]at f;rw[hA c b]at d;exact aN (h.bd c D f d) (by omega)
 ·by_cases b:c=n
  ·rw[b,i]at d;cases d;rw[b,F c0 j n m L z,←h.un G F s c0 a t H]
  ·rw[p c b]at f;rw[hA c b]at d;exact h.un G F s c D f d
def JS.done{c0:Nat}(h:JS w v l A B q λc e=>c=c0->e<3):JS w v l A B q λ_ _=>True:=
 ⟨h.a0,h.b0,h.q1,λc e n _ d a f b g=>h.dn c e n (λ_=>a) d a f b g,h.bd,h.un⟩
def Bj(a:Sh w v):0<4*w*v/\4*w*v<=100:=by
 have b:1*1<=w*v:=qd3 a.1 a.2.2.1;have c:w*v<=5*5:=qd3 a.2.1 a.2.2.2;rw[MQ];omega
def JS.good(p:Sh w v)(h:JS w v l A B [] λ_ _=>True)(g:A.length=4*w*v)(u:B.length=4*w*v):GoodA w v l A:=by
 have b:∀n,n<4*w*v->B[n]?=some true:=vJ p h.b0 λc e n d f j t=>(h.dn c e n trivial d f j t (by simp)).1;have z:=Bj p;have m:=gT B;refine⟨g,h.a0,λa x=>?_,λc e n a d f j s=>?_⟩
 ·obtain⟨i,o⟩:=Dd x;have:=aq o;exact aN (h.bd i a (b i (by omega)) o) (by omega)
 ·obtain⟨_,y,k,r⟩:=h.dn c e n trivial d f j (b c d) (by simp);rw[s]at k;cases k;exact r
def JS.tear(r:Sh w v){c0 j n:Nat}{a b:Mv}{D:Nat->Nat->Prop}(h:JS w v l A B q D)(g:c0<4*w*v)(o:j<3)(p:Aa w v c0 j=some n)(e:B[c0]?=some true)(m:B[n]?=some true)(k:A[c0]?=some a)(f:A[n]?=some b)(i:b≠BK w l a c0 n j):¬ ∃G,nc w v l G/\G 0=AG:=by
 rintro⟨G,d,c⟩;refine i ?_;rw[h.un G d c n b m f,d c0 j n g o p,←h.un G d c c0 a e k]
end
def left(B:Tv)(q:Tx):Nat:=q.length+(B.length - A6 B)
def U2:Bool:=(List.range 5).all λw=>(List.range 5).all λv=>jv 23 [.i (.ofNat (w+1)),.i (.ofNat (v+1))] [.i (.ofNat (4*(w+1)*(v+1)))]
def ND:U2=true:=by kernel_rfl
def Jh{w v:Nat}(h:Sh w v):Cc 23 [.i (.ofNat w),.i (.ofNat v)] [.i (.ofNat (4*w*v))]:=by
 have b:=qab.1 ND (w - 1) (qad.2 (by have:=h.2.1;have:=h.1;omega));have a:=qab.1 b (v - 1) (qad.2 (by have:=h.2.2.1;have:=h.2.2.2;omega));rw[show w - 1+1=w by have:=h.1;omega,show v - 1+1=v by have:=h.2.2.1;omega]at a;exact ep a rfl (by kernel_rfl) rfl
def SE{a b:Mv}{K:Tm}:P1.eqs [(.i (Int.ofNat a.1),.i (Int.ofNat b.1)),(.i a.2.1,.i b.2.1),(.i a.2.2,.i b.2.2)] (@hid _ ⟨K⟩)=K (decide (a=b)):=by
 show K (cj _)=_;have e:cj [(.i (Int.ofNat a.1),.i (Int.ofNat b.1)),(.i a.2.1,.i b.2.1),(.i a.2.2,.i b.2.2)]=decide (a=b):=by
  rw[Ir];simp[cj,gG,qdD];intro _ _;omega
 rw[e]
def P5(w v:Nat)(l:Ty)(H:HL)(a:TB)(h':HL):Prop:=
 Pre H h'/\((∃A id,a=[.v (.slice (some ⟨id,0,pu 3⟩) (4*w*v) (4*w*v+1)),.i 0]/\H.length<=id/\h'[id]?=some (.o (.cells (A.flatMap tx) 3 true))/\GoodA w v l A)∨
  (a=[.v (.slice none 0 0),.i 11]/\¬ ∃G,nc w v l G/\G 0=AG))
def zq{w v:Nat}(G:Sh w v){l:Ty}(hk:(l.map bD).Nodup)(a8:l.length<=1000){H:HL}{x:Value}(hl:LsH H x 3 zz l) :
  ∃rs h',aD cc ab 100 [.i (.ofNat w),.i (.ofNat v),.v x] (ka aa H) rs (ka aa h')/\P5 w v l H rs h':=by
 have hN:=Bj G;obtain⟨rs,h',h1,R⟩:=x100 (K:=λrs h'=>P5 w v l H rs h') (H:=H) (kx (kx (rv hl.good ub))) (by
  unfold N3;simp only[xp]
  repeat (first|simp(disch:=omega)only[↓my]|refine cQ (dK aA) rfl ?_|refine ac hl.good ?_)
  obtain⟨M,W,V⟩:=GY (w:=.ofNat w) (v:=.ofNat v) (hl.pre (h':=H++[HO.o (.cells [.int .i64 (.ofNat w),.int .i64 (.ofNat v),x] 3 true)]) ⟨_,rfl⟩) hk a8;rw[show(H++[HO.o (.cells [.int .i64 (.ofNat w),.int .i64 (.ofNat v),x] 3 true)]).length=H.length+1 by simp]at W V;have k0:(H++[HO.o (.cells [.int .i64 (.ofNat w),.int .i64 (.ofNat v),x] 3 true)]++[M]).length=H.length+2:=by simp
  have kp:(H++[HO.o (.cells [.int .i64 (.ofNat w),.int .i64 (.ofNat v),x] 3 true)]++[M])[H.length]?=some (HO.o (.cells [.int .i64 (.ofNat w),.int .i64 (.ofNat v),x] 3 true)):=by simp
  have kH:Pre H (H++[HO.o (.cells [.int .i64 (.ofNat w),.int .i64 (.ofNat v),x] 3 true)]++[M]):=⟨_,AN ..⟩;refine al W ?_;clear W;generalize H++[HO.o (.cells [.int .i64 (.ofNat w),.int .i64 (.ofNat v),x] 3 true)]++[M]=R at *;refine jw ?_;refine zm aA rfl ?_;rw[eG];have m0:(R++[HO.o (.cells [.map (some (H.length+1))] 1 true)]).length=H.length+3:=by simp[k0]
  have mp:=kp |> (Pre.get (b:=R++[HO.o (.cells [.map (some (H.length+1))] 1 true)]) ⟨_,rfl⟩)
  have mv:(R++[HO.o (.cells [.map (some (H.length+1))] 1 true)])[H.length+2]?=some (HO.o (.cells [.map (some (H.length+1))] 1 true)):=by rw[←k0];exact aA
  have mH:Pre H (R++[HO.o (.cells [.map (some (H.length+1))] 1 true)]):=kH.app _;have mS:Du (R++[HO.o (.cells [.map (some (H.length+1))] 1 true)]) (H.length+1) l:=by
   obtain⟨U,c,J,L⟩:=V;exact⟨U,c,Pre.get ⟨_,rfl⟩ J,L⟩
  rw[k0];generalize R++[HO.o (.cells [.map (some (H.length+1))] 1 true)]=h3 at *;clear kp kH V k0
  repeat (first|simp(disch:=omega)only[↓my]|refine iz (p:=te H.length) (cs:=[.int .i64 (.ofNat w),.int .i64 (.ofNat v),x]) (ds:=[.int .i64 (.ofNat w),.int .i64 (.ofNat v)]) (dK mp) (by simp) rfl ?_|refine ai (Jh G) ?_|refine ah (eE (by omega)) ?_)
  rw[show(Int.ofNat (4*w*v)).toNat=4*w*v from rfl];have z0:HO.o (.cells (bk [.int .u8 0,.int .i64 0,.int .i64 0] (4*w*v)) 3 true)=HO.o (.cells ((List.replicate (4*w*v) AG).flatMap tx) 3 true):=by
   rw[←dc (enc:=tx) (z:=AG) (n:=4*w*v)];rfl
  rw[z0,m0];have n0:(h3++[HO.o (.cells ((List.replicate (4*w*v) AG).flatMap tx) 3 true)]).length=H.length+4:=by simp[m0]
  have np:=mp |> (Pre.get (b:=h3++[HO.o (.cells ((List.replicate (4*w*v) AG).flatMap tx) 3 true)]) ⟨_,rfl⟩)
  have nv:=mv |> (Pre.get (b:=h3++[HO.o (.cells ((List.replicate (4*w*v) AG).flatMap tx) 3 true)]) ⟨_,rfl⟩)
  have na:(h3++[HO.o (.cells ((List.replicate (4*w*v) AG).flatMap tx) 3 true)])[H.length+3]?=some (HO.o (.cells ((List.replicate (4*w*v) AG).flatMap tx) 3 true)):=by rw[←m0];exact aA
  have nH:Pre H (h3++[HO.o (.cells ((List.replicate (4*w*v) AG).flatMap tx) 3 true)]):=mH.app _;have nS:Du (h3++[HO.o (.cells ((List.replicate (4*w*v) AG).flatMap tx) 3 true)]) (H.length+1) l:=by
   obtain⟨U,c,J,L⟩:=mS;exact⟨U,c,Pre.get ⟨_,rfl⟩ J,L⟩
  generalize h3++[HO.o (.cells ((List.replicate (4*w*v) AG).flatMap tx) 3 true)]=h4 at *;clear mp mv mH mS m0;refine zm aA rfl ?_;rw[eG];refine qs ?_;refine cQ (dK aA) rfl ?_;refine jw ?_;refine ac (by simp[aB,noLoc,aP,bg,aW,aG,aw]) ?_;refine jw ?_;refine ah (x:=Int.ofNat (4*w*v)) rfl ?_;refine ah (eE (by omega)) ?_;refine jw ?_;rw[n0,show(Int.ofNat (4*w*v)).toNat=4*w*v from rfl];refine ac (by simp[aB,noLoc,aP,bg,aW,aG,aw]) ?_;have o0:(h4++[HO.o (.cells [.slice (some ⟨H.length+3,0,some 13⟩) (4*w*v) (4*w*v+1)] 1 true)]).length=H.length+5:=by simp[n0]
  have op:=np |> (Pre.get (b:=h4++[HO.o (.cells [.slice (some ⟨H.length+3,0,some 13⟩) (4*w*v) (4*w*v+1)] 1 true)]) ⟨_,rfl⟩)
  have om:=nv |> (Pre.get (b:=h4++[HO.o (.cells [.slice (some ⟨H.length+3,0,some 13⟩) (4*w*v) (4*w*v+1)] 1 true)]) ⟨_,rfl⟩)
  have oa:=na |> (Pre.get (b:=h4++[HO.o (.cells [.slice (some ⟨H.length+3,0,some 13⟩) (4*w*v) (4*w*v+1)] 1 true)]) ⟨_,rfl⟩)
  have ov:(h4++[HO.o (.cells [.slice (some ⟨H.length+3,0,some 13⟩) (4*w*v) (4*w*v+1)] 1 true)])[H.length+4]?=some (HO.o (.cells [.slice (some ⟨H.length+3,0,some 13⟩) (4*w*v) (4*w*v+1)] 1 true)):=by rw[←n0];exact aA
  have oH:Pre H (h4++[HO.o (.cells [.slice (some ⟨H.length+3,0,some 13⟩) (4*w*v) (4*w*v+1)] 1 true)]):=nH.app _;have oS:Du (h4++[HO.o (.cells [.slice (some ⟨H.length+3,0,some 13⟩) (4*w*v) (4*w*v+1)] 1 true)]) (H.length+1) l:=by
   obtain⟨U,c,J,L⟩:=nS;exact⟨U,c,Pre.get ⟨_,rfl⟩ J,L⟩
  generalize h4++[HO.o (.cells [.slice (some ⟨H.length+3,0,some 13⟩) (4*w*v) (4*w*v+1)] 1 true)]=h5 at *;clear np nv na nH nS n0;have z1:HO.o (.cells (bk [.bool false] (4*w*v)) 1 true)=HO.o (.cells ((List.replicate (4*w*v) false).flatMap zX) 1 true):=by
   rw[←dc (enc:=zX) (z:=false) (n:=4*w*v)];rfl
  rw[z1,o0];have r0:RS H (h5++[HO.o (.cells ((List.replicate (4*w*v) false).flatMap zX) 1 true)]) w v x l (List.replicate (4*w*v) AG) (List.replicate (4*w*v) false):=by
   obtain⟨U,c,J,L⟩:=oS;exact⟨oH.app _,by simp[o0],Pre.get ⟨_,rfl⟩ op,⟨U,c,Pre.get ⟨_,rfl⟩ J,L⟩,Pre.get ⟨_,rfl⟩ om,Pre.get ⟨_,rfl⟩ oa,Pre.get ⟨_,rfl⟩ ov,by rw[←o0];exact aA,by simp,by simp⟩
  generalize h5++[HO.o (.cells ((List.replicate (4*w*v) false).flatMap zX) 1 true)]=h6 at *;clear op om oa ov oH oS o0;refine dd (enc:=zX) (l:=List.replicate (4*w*v) false) (i:=0) (a:=true) ez r0.kn rfl (by simpa using hN.1) (by simp) rfl ?_;have r1:=r0.putB (B':=(List.replicate (4*w*v) false).set 0 true) (by simp);generalize td h6 (H.length+5) 1 zX ((List.replicate (4*w*v) false).set 0 true)=h7 at *;refine qs ?_;have r2:RS H (h7++[HO.o (.cells [.int .i64 0] 1 true)]) w v x l (List.replicate (4*w*v) AG) ((List.replicate (4*w*v) false).set 0 true):=r1.keep (λj o _ ho=>Pre.get ⟨_,rfl⟩ ho) (by simp);have ax:WQ (H.length+6) (h7++[HO.o (.cells [.int .i64 0] 1 true)]) (.slice (some ⟨h7.length,0,some 11⟩) 1 2) [0]:=⟨h7.length,0,2,_,rfl,r1.len,aA,Sx.cut_all rfl,.inr rfl⟩;have ag:=JS.start (l:=l) G;have af:[0].length<=A6 ((List.replicate (4*w*v) false).set 0 true):=by
   rw[fW (by rw[It,mc hN.1])];simp
  generalize h7++[HO.o (.cells [.int .i64 0] 1 true)]=h8 at *;generalize Value.slice (some ⟨h7.length,0,some 11⟩) 1 2=v8 at *;generalize List.replicate (4*w*v) AG=A0 at *;generalize (List.replicate (4*w*v) false).set 0 true=B0 at *;clear r0 r1;refine eQ (m:=left B0 [0]) (λm ls h'=>∃A B q vv,ls=[.v vv]/\RS H h' w v x l A B/\WQ (H.length+6) h' vv q/\JS w v l A B q (λ_ _=>True)/\q.length<=A6 B/\m=left B q) ⟨A0,B0,[0],v8,rfl,r2,ax,ag,af,rfl⟩ ?_;clear r2 ax ag af;rintro m ls h' ⟨A,B,q,vv,rfl,d,I,D,bm,rfl⟩ bS X;refine Hs ?_;refine jw ?_;refine br I.ls ?_;cases q with
  |nil=>
   rw[zU (by show((List.length ([]:Tx):Nat):Int)<=0;simp)]
   repeat (first|simp(disch:=omega)only[↓my]|refine cQ (dK d.ov) rfl ?_|refine ac d.lsA.good ?_)
   exact⟨d.pre,.inl ⟨A,H.length+3,rfl,by omega,d.ol,D.good G d.la d.lb⟩⟩
  |cons y q=>
   rw[Ad (by show(0:Int)<((List.length (y :: q):Nat):Int);simp only[CT];omega)];refine jw ?_;refine aQ I.ls (i:=0) rfl rfl ?_;unfold km;refine jw ?_;refine UT I ?_;intro v1 ay ar;refine ac ar ?_;have f:B[y]?=some true:=D.q1 y Ch;have r:y<4*w*v:=by have:=aq f;have:=d.lb;omega
   have b0:=gT B;refine aR (σ:=Value×HL×List Mv×List Bool×List Nat) 3 (λj s=>[.v s.1,.i (Int.ofNat j)]) (λ_ s=>s.2.1) (λj s=>RS H s.2.1 w v x l s.2.2.1 s.2.2.2.1/\WQ (H.length+6) s.2.1 s.1 s.2.2.2.2/\JS w v l s.2.2.1 s.2.2.2.1 s.2.2.2.2 (λc e=>c=y->e<j)/\s.2.2.2.2.length<=A6 s.2.2.2.1/\left s.2.2.2.1 s.2.2.2.2=left B q/\s.2.2.2.1[y]?=some true) (j0:=0) (s0:=(v1,h',A,B,q)) rfl rfl (by omega) ⟨d,ay,D.pop,by show q.length<=A6 B;simp only[CT]at bm;omega,rfl,f⟩ ?_;clear d I D ay ar f;rintro j ⟨v2,ad,S,Q,q2⟩ b1 ⟨d,I,D,O,g,f⟩ Y C;simp only at d I D O g f C;refine jw ?_;by_cases u:j<3
   case neg=>
    obtain rfl:j=3:=by omega
    rw[zQ (by show(3:Int)<=((3:Nat):Int);omega)];refine jw ?_;refine X (left B q) _ _ ?_ ⟨S,Q,q2,v2,rfl,d,I,D.done,O,g.symm⟩;unfold left;simp only[CT];omega
   rw[zV (by show((j:Nat):Int)<3;omega)];refine jw ?_;have next:∀(v3:Value) (k:HL) (A3:TI) (T:Tv) (q3:Tx),RS H k w v x l A3 T->WQ (H.length+6) k v3 q3->JS w v l A3 T q3 (λc e=>c=y->e<j+1)->q3.length<=A6 T->left T q3=left B q->T[y]?=some true->Y [.v v3,.i (Int.ofNat j+1)] k:=λv3 k A3 T q3 J L a3 a4 a5 a6=>C (v3,k,A3,T,q3) u ⟨J,L,a3,a4,a5,a6⟩
   have E:∀K:Int->Prop,P1.ari .add .u8 (Int.ofNat j) 1 (@hid _ ⟨K⟩)=K (Int.ofNat j+1):=λK=>Dc (by show(0:Int)<=(j:Int)+1;omega) (by show(j:Int)+1<=255;omega);refine iz (p:=te H.length) (cs:=[.int .i64 (.ofNat w),.int .i64 (.ofNat v),x]) (ds:=[.int .i64 (.ofNat w),.int .i64 (.ofNat v)]) (dK d.p) (by simp) rfl ?_;refine jw ?_;refine ai (ZZ G r u) ?_;have bI:=gT Q;have bP:=d.lb;cases h:Aa w v y j with
   |none=>
    unfold uq;rw[h];refine jw ?_;rw[E];exact next _ _ _ _ _ d I (D.skip h) O g f
   |some n=>
    unfold uq;rw[h];refine jw ?_;obtain⟨a,ha⟩:=aL (l:=S) (i:=y) (by rw[d.la];exact r);have bl:=D.bd y a f ha;have aE:=II G (dK d.p) (dK d.mv) d.mp (dK d.ov) d.lsA r u h ha bl (by omega);refine oE (nk (args:=[.int .i64 (Int.ofNat y),.int .u8 (Int.ofNat j)]) aE rfl [.leaf (.i .i64 (Int.ofNat y)),.leaf (.i .u8 (Int.ofNat j)),.leaf (.v (te H.length)),.leaf (.v (te (H.length+2))),.leaf (.v (te (H.length+4)))] rfl rfl rfl) ?_;have F:=(dI G r u h).1;have be:=(dI G r u h).2.2.2.2;generalize hm:BK w l a y n j=m at *;simp only[Al];refine jw ?_;obtain⟨t,Z⟩:=aL (l:=Q) (i:=n) (by rw[d.lb];exact F);refine aQ d.lsB rfl Z ?_;unfold zX;refine jw ?_;cases t with
    |true=>
     repeat (first|simp(disch:=omega)only[↓my,Bs]|refine cQ (dK d.ov) rfl ?_|refine ac d.lsA.good ?_)
     obtain⟨b,hb⟩:=aL (l:=S) (i:=n) (by rw[d.la];exact F);refine aQ d.lsA rfl hb ?_;unfold tx;refine jw ?_;rw[SE];by_cases N:b=m
     ·rw[Bp N];simp(disch:=omega)only[↓my,Bs];rw[E];exact next _ _ _ _ _ d I (D.seen h Z ha (by rw[hb,N,hm])) O g f
     ·rw[BV N];simp(disch:=omega)only[↓my,Cv];exact⟨d.pre,.inr ⟨rfl,D.tear G r u h f Z ha hb (by rw[hm];exact N)⟩⟩
    |false=>
     repeat (first|simp(disch:=omega)only[↓my,Cv]|refine cQ (dK d.ov) rfl ?_|refine ac d.lsA.good ?_)
     refine dd (enc:=tx) (l:=S) (i:=n) (a:=m) bR d.ol rfl (by rw[d.la];exact F) d.la rfl ?_;have an:=d.putA (A':=S.set n m) (by simp);have bt:=I.keep (h':=td ad (H.length+3) 3 tx (S.set n m)) (λj o a0 ho=>by rw[cU (by omega)];exact ho);generalize td ad (H.length+3) 3 tx (S.set n m)=k at *;refine qs ?_;refine dd (enc:=zX) (l:=Q) (i:=n) (a:=true) ez an.kn rfl (by rw[d.lb];exact F) d.lb rfl ?_;have ap:=an.putB (B':=Q.set n true) (by simp);have bx:=bt.keep (h':=td k (H.length+5) 1 zX (Q.set n true)) (λj o a0 ho=>by rw[cU (by omega)];exact ho);generalize td k (H.length+5) 1 zX (Q.set n true)=h4' at *;refine qs ?_;refine r_apQ (n:=n) bx ap.len rfl rfl (by omega) ?_;intro v5 bX bs bn a7 a9;have P:=ap.keep a7 a9
     repeat (first|simp(disch:=omega)only[↓my]|refine ac bn ?_|refine cQ (dK P.ov) rfl ?_|refine ac P.lsA.good ?_)
     refine aQ P.lsA (a:=m) rfl (CQ (by rw[d.la];exact F)) ?_;unfold tx;simp(disch:=omega)only[↓my]
     try rw[SE,Bp rfl]
     simp(disch:=omega)only[↓my,Bs];rw[E];refine next _ _ _ _ _ P bs ?_ ?_ ?_ ?_
     ·rw[←hm];exact D.fresh G d.la d.lb r u h f Z ha
     ·rw[fW Z];simp;omega
     ·rw[←g];have:=gT (Q.set n true);unfold left;rw[fW Z]at this ⊢;simp only[A5,CT,UP,Bc]at this ⊢;omega
     ·rw[BL be];exact f)
 exact⟨rs,h',h1,R⟩
def bw(c:Cl):Tk:=[.int .i64 c.1,.int .i64 c.2.1,.int .u8 (Int.ofNat c.2.2)]
def eX(c:Cl):(bw c).length=3:=rfl
def um{m:Mv}{n:Int}(a:Av n m){c:Cl}{k:Int}(b:-k<=c.1/\c.1<=k/\-k<=c.2.1/\c.2.1<=k):-(n+k+1)<=(am m c).1/\(am m c).1<=n+k+1/\-(n+k+1)<=(am m c).2.1/\(am m c).2.1<=n+k+1/\(am m c).2.2<4:=by
 have d:=FG a.1 b;have e:=a.2;unfold am;simp only;refine⟨?_,?_,?_,?_,gI⟩<;>split<;>omega
def Im(m:Mv):Bool:=decide (-16384<=m.2.1/\m.2.1<=16384/\-16384<=m.2.2/\m.2.2<=16384)
def D4(c:Cl):Bool:=decide (-4096<=c.1/\c.1<=4096/\-4096<=c.2.1/\c.2.1<=4096)
def U9{n:Int}{m:Mv}(h:Av n m)(a:Im m=true):Av 16384 m:=by
 unfold Im at a;rw[BF]at a;exact⟨h.1,a.1,a.2.1,a.2.2.1,a.2.2.2,h.2.2.2.2.2⟩
def P3(t x y:Int):Bool:=decide (t<8/\(-16384<=x/\x<=16384)/\(-16384<=y/\y<=16384)/\(x+y)%2=0)
def pM{n:Int}:Cc 53 [.i n] [.b (!decide (-16384<=n/\n<=16384))]:=by
 refine q53 rfl ?_;unfold Vf;simp only[xp];refine jw ?_;by_cases a:n < -16384
 ·rw[zV (show n < -16384 by omega)];refine jw ?_;rw[BV (by omega)]
  try rfl
 ·rw[zQ (show(-16384:Int)<=n by omega)];refine jw ?_;by_cases c:n<=16384
  ·rw[zU (by omega)];refine jw ?_;rw[Bp (by omega)]
   try rfl
  ·rw[Ad (by omega)];refine jw ?_;rw[BV (by omega)]
   try rfl
def KB{t x y:Int}(g:0<=t/\t<=255):Cc 18 [.i t,.i x,.i y] [.i (if P3 t x y then 0 else 1)]:=by
 by_cases a:P3 t x y=true
 ·rw[mc a];unfold P3 at a;rw[BF]at a;exact KC ⟨g.1,a.1⟩ a.2.1 a.2.2.1 a.2.2.2
 ·rw[po a];unfold P3 at a;rw[BF]at a;refine q18 rfl ?_;unfold Vd;simp only[xp];refine jw ?_;by_cases f:8<=t
  ·rw[Ca f];simp(disch:=omega)only[↓my]
   try rfl
  rw[AY (by omega)]
  repeat (first|simp(disch:=omega)only[↓my]|refine ai pM ?_)
  by_cases b:-16384<=x/\x<=16384
  case neg=>
   rw[BV b];simp(disch:=omega)only[↓my,Cv]
   try rfl
  rw[Bp b]
  repeat (first|simp(disch:=omega)only[↓my,Bs]|refine ai pM ?_)
  by_cases c:-16384<=y/\y<=16384
  case neg=>
   rw[BV c];simp(disch:=omega)only[↓my,Cv]
   try rfl
  rw[Bp c];simp(disch:=omega)only[↓my,Bs];have j:(x+y)%2≠0:=λe=>a ⟨by omega,b,c,e⟩;rcases Int.le_total 0 (x+y)with d|d
  ·repeat (first|simp(disch:=omega)only[↓my]|rw[A2 d (by omega)])
   try rfl
  ·have h:-(-(x+y)%2)≠0:=by omega
   repeat (first|simp(disch:=omega)only[↓my]|rw[CN d (by omega)])
   try rfl
def HA{m:Mv}{n:Int}(h:Av n m)(c:n<=100000):Cc 133 (Al m) (if Im m then Al m++[.i 0]else [.i 0,.i 0,.i 0,.i 3]):=by
 refine q133 rfl ?_;unfold Hc;simp only[xp]
 repeat (first|simp(disch:=omega)only[↓my]|refine ai (KB (by have:=h.1;show 0<=(m.1:Int)/\(m.1:Int)<=255;omega)) ?_)
 have e:P3 (Int.ofNat m.1) m.2.1 m.2.2=Im m:=by
  have a:=h.1;have b:=h.2.2.2.2.2;unfold P3 Im;rw[decide_eq_decide];show((m.1:Int)<8/\_)↔_;omega
 rw[e];cases Im m with
 |true=>
  simp only[if_true];simp(disch:=omega)only[↓my]
  try rfl
 |false=>
  simp only[Bf,if_false];simp(disch:=omega)only[↓my]
  try rfl
def U4{a b:Mv}(c:Av 2000 a)(d:Av 16384 b):Cc 101 (Al a++Al b) (if Im (ae a b)then Al (ae a b)++[.i 0]else [.i 0,.i 0,.i 0,.i 3]):=by
 have e:=dm c d;refine q101 rfl ?_;unfold Ha;simp only[xp];simp only[Al,Aw,Ap]
 repeat (first|simp(disch:=omega)only[↓my]|refine ai (ul c (by omega)) ?_|refine ai (ul d (by omega)) ?_|refine ah (yQ d.1) ?_|refine ah (uz d.1) ?_|refine ai (KJ d.1 ⟨by have:=c.2;omega,by have:=c.2;omega,by have:=c.2;omega,by have:=c.2;omega⟩) ?_|refine ah (yQ c.1) ?_|refine ah (uz c.1) ?_|refine ai (GB c.1 d.1) ?_|refine ai (KV fg) ?_)
 have k:=e;obtain⟨_,f,g,h,j,_⟩:=k;unfold ae at f g h j;simp only at f g h j;rw[B9 (by omega) (by omega),B9 (by omega) (by omega)];refine ai (HA (m:=ae a b) e (by omega)) ?_;cases Im (ae a b)with
 |true=>
  simp only[if_true];simp only[Al,Aw,Ap];simp(disch:=omega)only[↓my]
  try rfl
 |false=>
  simp only[Bf,if_false];simp(disch:=omega)only[↓my]
  try rfl
def wB{c:Cl}(b:c.2.2<4):Cc 94 (Ab c) [.i (if D4 c then 0 else 1)]:=by
 by_cases a:D4 c=true
 ·rw[mc a];unfold D4 at a;rw[BF]at a;exact wC ⟨a.1,a.2.1,a.2.2.1,a.2.2.2,b⟩
 ·rw[po a];unfold D4 at a;rw[BF]at a;refine q94 rfl ?_;unfold SH;simp only[xp];simp only[Ab];refine jw ?_;by_cases d:c.1 < -4096
  ·repeat (first|simp(disch:=omega)only[↓my])
   try rfl
  by_cases e:4096<c.1
  ·repeat (first|simp(disch:=omega)only[↓my])
   try rfl
  by_cases f:c.2.1 < -4096
  ·repeat (first|simp(disch:=omega)only[↓my])
   try rfl
  ·have g:4096<c.2.1:=by omega
   repeat (first|simp(disch:=omega)only[↓my])
   try rfl
def KL{m:Mv}(b:Av 16384 m){c:Cl}(a:-1000<=c.1/\c.1<=1000/\-1000<=c.2.1/\c.2.1<=1000/\c.2.2<4):Cc 65 (Al m++Ab c) (if D4 (am m c)then Ab (am m c)++[.i 0]else [.i 0,.i 0,.i 0,.i 3]):=by
 have d:=um b (k:=1000) ⟨a.1,a.2.1,a.2.2.1,a.2.2.2.1⟩;refine q65 rfl ?_;unfold YA;simp only[xp];simp only[Al,Ab,Aw,Ap]
 repeat (first|simp(disch:=omega)only[↓my]|refine ai (ul b (by omega)) ?_|refine ai (wC (c:=c) ⟨by omega,by omega,by omega,by omega,a.2.2.2.2⟩) ?_)
 refine ai (OU b a) ?_;simp only[Ab];refine jw ?_;refine ai (wB (c:=am m c) d.2.2.2.2) ?_;cases D4 (am m c)with
 |true=>
  simp only[if_true];simp(disch:=omega)only[↓my]
  try rfl
 |false=>
  simp only[Bf,if_false];simp(disch:=omega)only[↓my]
  try rfl
def GoodA.eq{w v:Nat}{l:Ty}{A:TI}(g:Sh w v)(hA:GoodA w v l A){G:TC}(f:nc w v l G)(h0:G 0=AG):∀c,c<4*w*v->A[c]?=some (G c):=
 vJ g (by rw[h0];exact hA.a0) λc e n a b d h=>by rw[f c e n a b d];exact hA.cons c e n _ a b d h
def A8(w v:Nat)(G:TC)(r:Mv):TI:=(List.range (4*w*v)).map λc=>ae (G c) r
def Fz(w v:Nat)(G:TC)(r:Mv):List Cl:=(List.range (4*w*v)).map λc=>am (ae (G c) r) (sd w c)
def iA{w v:Nat}{G:TC}{r:Mv}{c:Nat}(h:c<4*w*v):(A8 w v G r)[c]?=some (ae (G c) r):=by
 unfold A8;rw[AU,HX h];rfl
def rL{w v:Nat}{G:TC}{r:Mv}{c:Nat}(h:c<4*w*v):(Fz w v G r)[c]?=some (am (ae (G c) r) (sd w c)):=by
 unfold Fz;rw[AU,HX h];rfl
def take_set{α:Type}{L A:List α}{j:Nat}{a:α}(b:L[j]?=some a)(c:L.length=A.length):(L.take j++A.drop j).set j a=L.take (j+1)++A.drop (j+1):=by
 have e:=aq b;have d:(L.take j).length=j:=by rw[BN];omega
 rw[Ru _ _ (by omega),d,F8,MO (by omega),qc1,Dm,b];simp
def OQ{α:Type}{L A:List α}{j:Nat}{a:α}(hA:A[j]?=some a)(b:L.length=A.length):(L.take j++A.drop j)[j]?=some a:=by
 have c:=aq hA;rw[Cd (by rw[BN];omega),BN,C1 (by omega),F8,HY,UM];exact hA
def vE{α:Type}{L A:List α}{j:Nat}(a:L.length=A.length)(b:j<=L.length):(L.take j++A.drop j).length=A.length:=by
 rw[A5,BN,MM];omega
def cp{α:Type}{e cx n:Nat}{enc:α->Tk}(b:∀a,(enc a).length=e){h:HL}{id:Nat}{L:List α}(hg:h[id]?=some (.o (.cells (L.flatMap enc) e true)))(d:n=L.length):LsH h (.slice (some ⟨id,0,pu e⟩) n cx) e enc L:=by
 subst d;have c:=ba (e:=e) (enc:=enc) (l:=L) λa _=>b a;exact⟨λa _=>b a,c,.inr ⟨id,0,cx,_,true,rfl,hg,Sx.cut_all c⟩⟩
def Ful{α:Type}(h:HL)(x:Value)(e:Nat)(enc:α->Tk)(l:List α):Prop:=∃id,x = .slice (some ⟨id,0,pu e⟩) l.length (l.length+1)/\h[id]?=some (.o (.cells (l.flatMap enc) e true))
def Ful.ls{α:Type}{h:HL}{x:Value}{e:Nat}{enc:α->Tk}{l:List α}(b:∀a,(enc a).length=e)(d:Ful h x e enc l):LsH h x e enc l:=by
 obtain⟨id,rfl,c⟩:=d;exact cp b c rfl
def Ful.pre{α:Type}{h h':HL}{x:Value}{e:Nat}{enc:α->Tk}{l:List α}(b:Ful h x e enc l)(c:Pre h h'):Ful h' x e enc l:=by
 obtain⟨id,rfl,a⟩:=b;exact⟨id,rfl,c.get a⟩
def Ful.cap{α:Type}{h:HL}{x:Value}{e:Nat}{enc:α->Tk}{l:List α}(a:Ful h x e enc l):I6 x=some (Int.ofNat l.length):=by
 obtain⟨id,rfl,b⟩:=a;exact I7
abbrev jo:Value:=.slice none 0 0
def allV(w:Nat)(G:TC)(r:Mv)(n:Nat):Prop:=∀c,c<n->Im (ae (G c) r)=true/\D4 (am (ae (G c) r) (sd w c))=true
def allV.succ{w:Nat}{G:TC}{r:Mv}{n:Nat}(h:allV w G r n)(h1:Im (ae (G n) r)=true)(a:D4 (am (ae (G n) r) (sd w n))=true):allV w G r (n+1):=λc b=>by
 by_cases e:c=n
 ·subst e;exact⟨h1,a⟩
 ·exact h c (by omega)
structure ConsO(w v:Nat)(l:Ty)(G:TC):Prop where
 g:nc w v l G
 z:G 0=AG
 ok:∀c,c<4*w*v->Av 2000 (G c)
def GoodA.consO{w v:Nat}(k:Sh w v){l:Ty}{A:TI}(h:GoodA w v l A):ConsO w v l (λc=>A.getD c AG):=by
 have o:=Bj k;have f:∀c,c<4*w*v->A[c]?=some (A.getD c AG):=λc b=>by
  obtain⟨a,m⟩:=aL (l:=A) (i:=c) (by rw[h.len];exact b);rw[List.getD_eq_getElem?_getD,m];rfl
 refine⟨λc e n b g j=>?_,?_,λc b=>h.ok _ (Af (f c b))⟩
 ·have d:=h.cons c e n _ b g j (f c b);rw[f n (dI k b g j).1]at d;exact AD d
 ·have d:=h.a0;rw[f 0 (by omega)]at d;exact AD d
def dh{w v:Nat}(a:Sh w v){j:Nat}(e:j<4*w*v):-1000<=(sd w j).1/\(sd w j).1<=1000/\-1000<=(sd w j).2.1/\(sd w j).2.1<=1000/\(sd w j).2.2<4:=by
 have d:=Bj a;have b:j / 4%w<=j / 4:=qd7 _ _;have c:j / 4 / w<=j / 4:=qdt _ _;refine⟨?_,?_,?_,?_,H3 _ (by omega)⟩
 ·exact Int.le_trans (show(-1000:Int)<=0 by decide) (Cb _)
 ·exact qdy.2 (show j / 4%w<=1000 by omega)
 ·exact Int.le_trans (show(-1000:Int)<=0 by decide) (Cb _)
 ·exact qdy.2 (show j / 4 / w<=1000 by omega)
def IA(w v:Nat)(l:Ty)(r:Mv)(a:TB)(h':HL):Prop:=
 (a=[.v jo,.v jo,.i 11]/\¬ ∃G,nc w v l G/\G 0=AG)∨
 ∃G,ConsO w v l G/\((a=[.v jo,.v jo,.i 3]/\¬allV w G r (4*w*v))∨
  (∃b ix,a=[.v b,.v ix,.i 0]/\allV w G r (4*w*v)/\Ful h' b 3 tx (A8 w v G r)/\Ful h' ix 3 bw (Fz w v G r)))
def Ed{w v:Nat}(t:Sh w v){l:Ty}(hk:(l.map bD).Nodup)(ar:l.length<=1000){H:HL}{x:Value}(hl:LsH H x 3 zz l)(ap:aD cc ab 99 [.i (.ofNat w),.i (.ofNat v),.v x] (ka aa H) [.i 0] (ka aa H))
  {r:Mv} (hr:Av 16384 r) :
  ∃N h',aD cc ab 63 ([.i (.ofNat w),.i (.ofNat v),.v x]++Al r) (ka aa H) N (ka aa h')/\Pre H h'/\IA w v l r N h':=by
 have hN:=Bj t;obtain⟨a4,y,c1,e,U⟩:=zq t hk ar hl;have aE:=x63 (ls:=[.i (.ofNat w),.i (.ofNat v),.v x,.i (Int.ofNat r.1),.i r.2.1,.i r.2.2]) (K:=λN h'=>Pre H h'/\IA w v l r N h') (H:=H) (kx (kx (rv hl.good (kx (kx (kx ub)))))) (by
  unfold f63;simp only[xp]
  repeat (first|simp(disch:=omega)only[↓my]|refine al ap ?_|refine ai (ul hr (by omega)) ?_)
  refine al c1 ?_;rcases U with⟨A,id,rfl,hid,T,hA⟩|⟨rfl,ax⟩
  case inr=>
   refine jw ?_;exact⟨e,.inl ⟨by trivial,ax⟩⟩
  refine jw ?_;have M:=hA.consO t;generalize a3:(λc=>A.getD c AG)=G at M;have af:=hA.eq t M.g M.z;have p:(A8 w v G r).length=A.length:=by rw[hA.len];simp[A8]
  have k:(Fz w v G r).length=4*w*v:=by simp[Fz]
  have a1:=aq T;refine ah (x:=Int.ofNat (4*w*v)) rfl ?_;refine ah (eE (by omega)) ?_;refine jw ?_;rw[show(Int.ofNat (4*w*v)).toNat=4*w*v from rfl];have z0:HO.o (.cells (bk [.int .i64 0,.int .i64 0,.int .u8 0] (4*w*v)) 3 true)=HO.o (.cells ((List.replicate (4*w*v) ((0,0,0):Cl)).flatMap bw) 3 true):=by
   rw[←dc (enc:=bw) (z:=((0,0,0):Cl)) (n:=4*w*v)];rfl
  rw[z0];refine ah (x:=Int.ofNat (4*w*v)) rfl ?_;have D:(Fz w v G r).length=(List.replicate (4*w*v) ((0,0,0):Cl)).length:=by rw[k];simp
  have u:(y++[HO.o (.cells ((List.replicate (4*w*v) ((0,0,0):Cl)).flatMap bw) 3 true)])[id]?=some (.o (.cells (A.flatMap tx) 3 true)):=Pre.get ⟨_,rfl⟩ T;have O:(y++[HO.o (.cells ((List.replicate (4*w*v) ((0,0,0):Cl)).flatMap bw) 3 true)])[y.length]?=some (HO.o (.cells ((List.replicate (4*w*v) ((0,0,0):Cl)).flatMap bw) 3 true)):=aA;have P:Pre H (y++[HO.o (.cells ((List.replicate (4*w*v) ((0,0,0):Cl)).flatMap bw) 3 true)]):=e.app _;have S:y.length≠id:=by omega
  have Q:H.length<=y.length:=e.len;generalize List.replicate (4*w*v) ((0,0,0):Cl)=Z at *;generalize y++[HO.o (.cells (Z.flatMap bw) 3 true)]=h2 at *;generalize y.length=iX at *;refine aR (σ:=HL) (4*w*v) (λj _=>[.i (Int.ofNat j)]) (λ_ s=>s) (λj s=>Pre H s/\s[id]?=some (.o (.cells (((A8 w v G r).take j++A.drop j).flatMap tx) 3 true))/\s[iX]?=some (.o (.cells (((Fz w v G r).take j++Z.drop j).flatMap bw) 3 true))/\allV w G r j) (j0:=0) (s0:=h2) rfl rfl (AM _) ⟨P,by simpa using u,by simpa using O,λc hc=>by omega⟩ ?_;clear u O P;rintro j h hj ⟨P,u,O,B⟩ a2 F;refine jw ?_;by_cases b:j<4*w*v
  ·rw[aJ b];refine jw ?_;have ha:=af j b;have R:=iA (G:=G) (r:=r) b;have ag:=rL (G:=G) (r:=r) b;have d:=vE (j:=j) p (by rw[p,hA.len];omega);have f:=vE (j:=j) D (by rw[k];omega);refine aQ (cp bR u (by rw[d,hA.len])) rfl (OQ ha p) ?_;unfold tx;refine jw ?_;refine ai (Eg (qL w v t.1 t.2.1 t.2.2.1 t.2.2.2) b) ?_;unfold Dz;refine jw ?_;have W:Av 2000 (G j):=hA.ok _ (Af ha);have a0:=dm W hr;refine ai (U4 W hr) ?_;cases I:Im (ae (G j) r)with
   |false=>
    simp only[Bf,if_false]
    repeat (first|simp(disch:=omega)only[↓my]|refine dd (enc:=tx) (l:=(A8 w v G r).take j++A.drop j) (i:=j) (a:=AG) bR u rfl (by rw[d,hA.len];exact b) (by rw[d,hA.len]) rfl ?_)
    exact⟨gn P hid,.inr ⟨G,M,.inl ⟨by trivial,λq=>by rw[(q j b).1]at I;cases I⟩⟩⟩
   |true=>
   simp only[if_true];have C:Im (ae (G j) r)=true:=I;have X:=U9 a0 C;have E:=dh t b;have ay:=C;generalize hm:ae (G j) r=m at *;simp only[Al,Aw,Ap];refine jw ?_;refine dd (enc:=tx) (l:=(A8 w v G r).take j++A.drop j) (i:=j) (a:=m) bR u rfl (by rw[d,hA.len];exact b) (by rw[d,hA.len]) rfl ?_;rw[take_set R p];have Y:(td h id 3 tx ((A8 w v G r).take (j+1)++A.drop (j+1)))[id]?=some (.o (.cells (((A8 w v G r).take (j+1)++A.drop (j+1)).flatMap tx) 3 true)):=bM (aq u);have L:(td h id 3 tx ((A8 w v G r).take (j+1)++A.drop (j+1)))[iX]?=some (.o (.cells (((Fz w v G r).take j++Z.drop j).flatMap bw) 3 true)):=by rw[cU S];exact O
   have ad:Pre H (td h id 3 tx ((A8 w v G r).take (j+1)++A.drop (j+1))):=gn P hid;generalize td h id 3 tx ((A8 w v G r).take (j+1)++A.drop (j+1))=h3 at *;refine jw ?_;have J:=vE (j:=j+1) p (by rw[p,hA.len];omega);refine aQ (a:=m) (cp bR Y (by rw[J,hA.len])) rfl ?_ ?_
   ·rw[BE (by rw[BN,p,hA.len];omega),Iw,mc (by omega)];exact R
   unfold tx;refine jw ?_;refine ai (KL (c:=sd w j) X E) ?_;cases V:D4 (am m (sd w j))with
   |false=>
    simp only[Bf,if_false]
    repeat (first|simp(disch:=omega)only[↓my]|refine dd (enc:=bw) (l:=(Fz w v G r).take j++Z.drop j) (i:=j) (a:=((0,0,0):Cl)) eX L rfl (by rw[f,←D,k];exact b) (by rw[f,←D,k]) rfl ?_)
    exact⟨gn ad Q,.inr ⟨G,M,.inl ⟨by trivial,λq=>by
     have:=(q j b).2;rw[hm,V]at this;cases this⟩⟩⟩
   |true=>
   simp only[if_true];generalize an:am m (sd w j)=ci at *;simp only[Ab,Aw,Ap];refine jw ?_;refine dd (enc:=bw) (l:=(Fz w v G r).take j++Z.drop j) (i:=j) (a:=ci) eX L rfl (by rw[f,←D,k];exact b) (by rw[f,←D,k]) rfl ?_;rw[take_set ag D];refine jw ?_;rw[aS (by omega)];refine F _ b ⟨gn ad Q,by rw[cU (BO S)];exact Y,bM (aq L),B.succ (by rw[hm];exact ay) (by rw[hm,an];exact V)⟩
  ·obtain rfl:j=4*w*v:=by omega
   rw[aM (zY _)];refine jw ?_;rw[Cg (by rw[p,hA.len];exact zY _),Rs (by rw[hA.len];exact zY _),Ci]at u;rw[Cg (by rw[k];exact zY _),Rs (by rw[←D,k];exact zY _),Ci]at O;have e1:(A8 w v G r).length=4*w*v:=by rw[p,hA.len]
   refine⟨P,.inr ⟨G,M,.inr ⟨_,_,rfl,B,⟨id,?_,u⟩,⟨iX,?_,O⟩⟩⟩⟩
   ·rw[e1]
   ·rw[k];rfl)
 obtain⟨N,h',h2,h3,h4⟩:=aE;exact⟨N,h',h2,h3,h4⟩
section
variable {w v:Nat} {l:Ty} {A:TI} {B:Tv} {q:Tx}
def JS.begin{c0:Nat}(h:JS w v l A B q λ_ _=>True):JS w v l A B (q.filter λc=>!Nat.beq c c0) λc e=>c=c0->False:=by
 refine⟨h.a0,h.b0,λc a=>h.q1 c (qaN.1 a).1,λc e n d a f i b j=>?_,h.bd,h.un⟩;refine h.dn c e n trivial a f i b λg=>j ?_;rw[qaN];refine⟨g,?_⟩;rw[Ry,qcw];exact λe=>d (AE e)
def JS.skipP{c0 j:Nat}{P:Nat->Prop}(h:JS w v l A B q λc e=>c=c0->P e)(k:Aa w v c0 j=none):JS w v l A B q λc e=>c=c0->P e∨e=j:=by
 refine⟨h.a0,h.b0,h.q1,λc e n g f i a d o=>?_,h.bd,h.un⟩;refine h.dn c e n (λb=>?_) f i a d o;rcases g b with m|rfl
 ·exact m
 ·subst b;rw[k]at a;cases a
def JS.seenP{c0 j n:Nat}{a:Mv}{P:Nat->Prop}(h:JS w v l A B q λc e=>c=c0->P e)(t:Aa w v c0 j=some n)(m:B[n]?=some true)(k:A[c0]?=some a)(s:A[n]?=some (BK w l a c0 n j)):JS w v l A B q λc e=>c=c0->P e∨e=j:=by
 refine⟨h.a0,h.b0,h.q1,λc e x p o r b g u=>?_,h.bd,h.un⟩;by_cases f:c=c0/\e=j
 ·obtain⟨rfl,rfl⟩:=f;rw[t]at b;cases b;exact⟨m,a,k,s⟩
 ·exact h.dn c e x (λd=>(p d).resolve_right λi=>f ⟨d,i⟩) o r b g u
def JS.freshP(O:Sh w v){c0 j n:Nat}{a:Mv}{P:Nat->Prop}(h:JS w v l A B q λc e=>c=c0->P e)(W:A.length=4*w*v)(X:B.length=4*w*v)(m:c0<4*w*v)(L:j<3)(z:Aa w v c0 j=some n)(t:B[c0]?=some true)(I:B[n]?=some false)(H:A[c0]?=some a) :
  JS w v l (A.set n (BK w l a c0 n j)) (B.set n true) (q++[n]) λc e=>c=c0->P e∨e=j:=by
 obtain⟨Z,_,_,_,g5⟩:=dI O m L z;have k:(B.set n true)[n]?=some true:=CQ (by omega);have i:(A.set n (BK w l a c0 n j))[n]?=some (BK w l a c0 n j):=CQ (by omega);have p:∀c,c≠n->(B.set n true)[c]?=B[c]?:=λc g=>BL (BO g);have hA:∀c,c≠n->(A.set n (BK w l a c0 n j))[c]?=A[c]?:=λc g=>BL (BO g);have r:(0:Nat)≠n:=λe=>by have:=h.b0;rw[e,I]at this;cases this
 have M:Av (20*(A6 B:Int)) a:=h.bd c0 a t H;refine⟨by rw[hA 0 r];exact h.a0,by rw[p 0 r];exact h.b0,λc g=>?_,λc e C U g V o f N=>?_,λc D f d=>?_,λG F s c D f d=>?_⟩
 ·rcases qas.1 g with g|g
  ·have:=h.q1 c g;by_cases b:c=n
   ·rw[b];exact k
   ·rw[p c b];exact this
  ·simp only[qav]at g;rw[g];exact k
 ·have b:c≠n:=λe=>N (by rw[e];simp);have J:c∉q:=λY=>N (DW _ Y);rw[p c b]at f;by_cases x:c=c0/\e=j
  ·obtain⟨rfl,rfl⟩:=x;rw[z]at o;cases o;exact⟨k,a,by rw[hA c b];exact H,i⟩
  ·obtain⟨E,Q,R,S⟩:=h.dn c e C (λu=>(U u).resolve_right λK=>x ⟨u,K⟩) g V o f J;have y:C≠n:=λT=>by rw[T,I]at E;cases E
   exact⟨by rw[p C y];exact E,Q,by rw[hA c b];exact R,by rw[hA C y];exact S⟩
 ·rw[fW I];by_cases b:c=n
  ·rw[b,i]at d;cases d;exact aN (wy O m L z M (by omega)) (by omega)
  ·rw[p c b]at f;rw[hA c b]at d;exact aN (h.bd c D f d) (by omega)
 ·by_cases b:c=n
  ·rw[b,i]at d;cases d;rw[b,F c0 j n m L z,←h.un G F s c0 a t H]
  ·rw[p c b]at f;rw[hA c b]at d;exact h.un G F s c D f d
def JS.doneP{c0:Nat}{P:Nat->Prop}(h:JS w v l A B q λc e=>c=c0->P e)(g:∀e,e<3->P e):JS w v l A B q λ_ _=>True:=
 ⟨h.a0,h.b0,h.q1,λc e n _ d a f b i=>h.dn c e n (λ_=>g e a) d a f b i,h.bd,h.un⟩
def JS.monoP{c0:Nat}{P Q:Nat->Prop}(h:JS w v l A B q λc e=>c=c0->P e)(i:∀e,Q e->P e):JS w v l A B q λc e=>c=c0->Q e:=
 ⟨h.a0,h.b0,h.q1,λc e n d a f g b j=>h.dn c e n (λa=>i e (d a)) a f g b j,h.bd,h.un⟩
end
def eK(q k:Nat):Nat:=if k=0 then 0 else if decide (q%2=0)=decide (k=1)then 1 else 2
def fq(q k:Nat):eK q k<3:=by
 unfold eK
 repeat' split
 all_goals omega
def Jr{q:Nat}(e:Nat)(c:e<3):∃k,k<3/\eK q k=e:=by
 have a:q%2=0∨q%2=1:=by omega
 have b:e=0∨e=1∨e=2:=by omega
 rcases a with a|a<;>rcases b with rfl|rfl|rfl
 ·exact⟨0,by omega,rfl⟩
 ·exact⟨1,by omega,by simp[eK,a]⟩
 ·exact⟨2,by omega,by simp[eK,a]⟩
 ·exact⟨0,by omega,rfl⟩
 ·exact⟨2,by omega,by simp[eK,a]⟩
 ·exact⟨1,by omega,by simp[eK,a]⟩
def Ba(m:Mv)(p:Int×Int):Int×Int:=(mA m.1*p.1+mB m.1*p.2+6*m.2.1,mC m.1*p.1+mD m.1*p.2+6*m.2.2)
def Vi(q:Nat):Int:=match q with
 |0=>3
 |1=>5
 |2=>3
 |_=>1
def Vj(q:Nat):Int:=match q with
 |0=>1
 |1=>3
 |2=>5
 |_=>3
def Au(c:Cl):Int×Int:=(6*c.1+Vi c.2.2,6*c.2.1+Vj c.2.2)
def atQ(x y:Int):Nat:=if y<x/\x+y<6 then 0 else if y<x then 1 else if 6<x+y then 2 else 3
def W8(p:Int×Int):Cl:=(p.1 / 6,p.2 / 6,atQ (p.1 - 6*(p.1 / 6)) (p.2 - 6*(p.2 / 6)))
def BD{q:Nat}(h:q<4):q=0∨q=1∨q=2∨q=3:=by omega
def W9{m:Mv}{c:Cl}(a:m.1<8)(b:c.2.2<4):W8 (Ba m (Au c))=am m c:=by
 obtain⟨t,X,Y⟩:=m;obtain⟨x,y,q⟩:=c;simp only at a b;rcases t8 a with rfl|rfl|rfl|rfl|rfl|rfl|rfl|rfl<;>rcases BD b with rfl|rfl|rfl|rfl
 all_goals
  simp only[W8,Ba,Au,Vi,Vj,mA,mB,mC,mD,am,qT];refine DY ?_ (DY ?_ ?_)
  ·simp;omega
  ·simp;omega
  ·simp only[atQ]
   repeat' split
   all_goals first|rfl|(exfalso;omega)|(exfalso;rename_i h;exact h trivial)
end Go.Am
namespace Go.Am
open Sx
def Oo{a b:Mv}(c:a.1<8)(d:b.1<8)(p:Int×Int):Ba b (Ba a p)=Ba (ae a b) p:=by
 obtain⟨s,X,Y⟩:=a;obtain⟨t,U,V⟩:=b;obtain⟨x,y⟩:=p;simp only at c d;rcases t8 c with rfl|rfl|rfl|rfl|rfl|rfl|rfl|rfl<;>rcases t8 d with rfl|rfl|rfl|rfl|rfl|rfl|rfl|rfl
 all_goals
  simp[Ba,ae,AK,mA,mB,mC,mD];omega
def ON{s t:Nat}(d:s<8)(e:t<8)(h1:mA s=mA t)(a:mC s=mC t)(b:mB s=mB t)(c:mD s=mD t):s=t:=by
 rcases t8 d with rfl|rfl|rfl|rfl|rfl|rfl|rfl|rfl<;>rcases t8 e with rfl|rfl|rfl|rfl|rfl|rfl|rfl|rfl
 all_goals first
  |rfl
  |(exfalso;simp[mA,mB,mC,mD]at h1 a b c)
end Go.Am
namespace Go.Am
open Sx Go.Proofs
def CY(w v c k:Nat):Int:=match Aa w v c (eK (c%4) k)with
 |some n=>Int.ofNat n
 |none=>-1
def ZW(w v c k:Nat):Bool:=match Aa w v c (eK (c%4) k)with
 |some n=>jv 34 (Ab (sd w c)++Ab (sd w n)) (Al (Bb (ua (sd w c) (eK (c%4) k))))
 |none=>true
def zK(w v c k:Nat):Bool:=jv 32 [.i (.ofNat w),.i (.ofNat v),.i (.ofNat c),.i (.ofNat k)] [.i (CY w v c k)]&&(jv 39 (Ab (sd w c)++[.i (.ofNat k)]) (Ab (AB (sd w c) (eK (c%4) k)))&&(jv 36 [.i (.ofNat w),.i (.ofNat v),.i (.ofNat c),.i (.ofNat k)] [.i (.ofNat (eK (c%4) k))]&&ZW w v c k))
def tab4(w v:Nat):Bool:=(List.range (4*w*v)).all λc=>jv 35 [.i (.ofNat w),.i (.ofNat v),.i (.ofNat c)] (Ab (sd w c))&&(List.range 3).all λk=>zK w v c k
def all4:∀w v:Nat,1<=w->w<=3->1<=v->v<=3->tab4 w v=true:=by
 have a:((List.range 3).all λw=>(List.range 3).all λv=>tab4 (w+1) (v+1))=true:=by kernel_rfl
 intro w v d e f g;have c:=qab.1 a (w - 1) (qad.2 (by omega));have b:=qab.1 c (v - 1) (qad.2 (by omega));rw[show w - 1+1=w by omega,show v - 1+1=v by omega]at b;exact b
def S3(w v:Nat):Prop:=1<=w/\w<=3/\1<=v/\v<=3
def S3.sh{w v:Nat}(h:S3 w v):Sh w v:=⟨h.1,by have:=h.2.1;omega,h.2.2.1,by have:=h.2.2.2;omega⟩
section
variable {w v c k:Nat}
def pg(h:S3 w v)(a:c<4*w*v):jv 35 [.i (.ofNat w),.i (.ofNat v),.i (.ofNat c)] (Ab (sd w c))=true/\∀k,k<3->zK w v c k=true:=by
 have:=qab.1 (all4 w v h.1 h.2.1 h.2.2.1 h.2.2.2) c (qad.2 a);rw[uc]at this;exact⟨this.1,λk b=>qab.1 this.2 k (qad.2 b)⟩
def iH(h:S3 w v)(a:c<4*w*v):Cc 35 [.i (.ofNat w),.i (.ofNat v),.i (.ofNat c)] (Ab (sd w c)):=ep (pg h a).1 rfl (by kernel_rfl) rfl
def uo(h:S3 w v)(a:c<4*w*v)(b:k<3):Cc 32 [.i (.ofNat w),.i (.ofNat v),.i (.ofNat c),.i (.ofNat k)] [.i (CY w v c k)]:=by
 have:=(pg h a).2 k b;unfold zK at this;rw[uc]at this;exact ep this.1 rfl (by kernel_rfl) rfl
def yy(h:S3 w v)(a:c<4*w*v)(b:k<3):Cc 39 (Ab (sd w c)++[.i (.ofNat k)]) (Ab (AB (sd w c) (eK (c%4) k))):=by
 have:=(pg h a).2 k b;unfold zK at this;rw[uc,uc]at this;exact ep this.2.1 rfl (by kernel_rfl) rfl
def Jt(h:S3 w v)(a:c<4*w*v)(b:k<3):Cc 36 [.i (.ofNat w),.i (.ofNat v),.i (.ofNat c),.i (.ofNat k)] [.i (.ofNat (eK (c%4) k))]:=by
 have:=(pg h a).2 k b;unfold zK at this;rw[uc,uc,uc]at this;exact ep this.2.2.1 rfl (by kernel_rfl) rfl
def OR(h:S3 w v)(a:c<4*w*v)(b:k<3){n:Nat}(d:Aa w v c (eK (c%4) k)=some n):Cc 34 (Ab (sd w c)++Ab (sd w n)) (Al (Bb (ua (sd w c) (eK (c%4) k)))):=by
 have:=(pg h a).2 k b;unfold zK ZW at this;rw[uc,uc,uc,d]at this;exact ep this.2.2.2 rfl (by kernel_rfl) rfl
end
def Z6:Int.ofNat 0=0:=rfl
def Z7:Int.ofNat 1=1:=rfl
def Z9:Int.ofNat 2=2:=rfl
def of3:Int.ofNat 3=3:=rfl
def of4:Int.ofNat 4=4:=rfl
def of5:Int.ofNat 5=5:=rfl
def of6:Int.ofNat 6=6:=rfl
def of7:Int.ofNat 7=7:=rfl
def tU{m:Mv}{x y:Int}(a:m.1<8)(b:-100000<=m.2.1/\m.2.1<=100000/\-100000<=m.2.2/\m.2.2<=100000)(c:-10000000<=x/\x<=10000000/\-10000000<=y/\y<=10000000):Cc 84 (Al m++[.i x,.i y]) [.i (Ba m (x,y)).1,.i (Ba m (x,y)).2]:=by
 obtain⟨t,X,Y⟩:=m;simp only at a b;refine q84 rfl ?_;unfold YI;simp only[xp];simp only[Al,Aw,Ap];rcases t8 a with rfl|rfl|rfl|rfl|rfl|rfl|rfl|rfl
 all_goals
  simp only[Z6,Z7,Z9,of3,of4,of5,of6,of7]
  repeat (first|simp(disch:=omega)only[↓my]|refine gD 5 ?_)
  simp only[Ba,mA,mB,mC,mD,Df,Lf.i.injEq,and_true];constructor<;>omega
def qd{c:Cl}(a:c.2.2<4)(b:-100000<=c.1/\c.1<=100000/\-100000<=c.2.1/\c.2.1<=100000):Cc 88 (Ab c) [.i (Au c).1,.i (Au c).2]:=by
 obtain⟨x,y,q⟩:=c;simp only at a b;refine q88 rfl ?_;unfold YM;simp only[xp];simp only[Ab];have d:Cc 121 [.i x,.i y,.i (Int.ofNat q)] (match q with
  |0=>[.i (6*x+3),.i (6*y+3),.i (6*x),.i (6*y),.i (6*x+6),.i (6*y)]
  |1=>[.i (6*x+3),.i (6*y+3),.i (6*x+6),.i (6*y),.i (6*x+6),.i (6*y+6)]
  |2=>[.i (6*x+3),.i (6*y+3),.i (6*x+6),.i (6*y+6),.i (6*x),.i (6*y+6)]
  |_=>[.i (6*x+3),.i (6*y+3),.i (6*x),.i (6*y+6),.i (6*x),.i (6*y)]):=by
  refine q121 rfl ?_;unfold JE;simp only[xp];rcases BD a with rfl|rfl|rfl|rfl
  all_goals
   simp only[Z6,Z7,Z9,of3,of4,of5,of6,of7]
   repeat (first|simp(disch:=omega)only[↓my] )
 rcases BD a with rfl|rfl|rfl|rfl
 all_goals
  repeat (first|simp(disch:=omega)only[↓my]|refine ai d ?_)
  simp only[Au,Vi,Vj,Df,Lf.i.injEq,and_true];constructor<;>omega
def rq{a:Int}(h:-100000000<=a/\a<=100000000):Cc 85 [.i a,.i 6] [.i (a / 6)]:=by
 refine q85 rfl ?_;unfold YJ;simp only[xp];by_cases b:a<0
 ·repeat (first|simp(disch:=omega)only[↓my]|rw[CM (by omega) (by omega) (by omega)])
  simp only[Df,Lf.i.injEq,and_true];omega
 ·repeat (first|simp(disch:=omega)only[↓my]|rw[CM (by omega) (by omega) (by omega)])
def RZ{x y:Int}(h:-100000000<=x/\x<=100000000/\-100000000<=y/\y<=100000000):Cc 87 [.i x,.i y] (Ab (W8 (x,y))):=by
 refine q87 rfl ?_;unfold YL;simp only[xp]
 repeat (first|simp(disch:=omega)only[↓my]|refine ai (rq (by omega)) ?_)
 have e:Ab (W8 (x,y))=[.i (x / 6),.i (y / 6),.i (Int.ofNat (atQ (x - 6*(x / 6)) (y - 6*(y / 6))))]:=rfl;rw[e];have g:0<=x - 6*(x / 6)/\x - 6*(x / 6)<=5:=by omega
 have j:0<=y - 6*(y / 6)/\y - 6*(y / 6)<=5:=by omega
 generalize x / 6=a at *;generalize y / 6=b at *;by_cases c:y - 6*b<x - 6*a<;>by_cases d:x - 6*a+(y - 6*b)<6<;>by_cases f:6<x - 6*a+(y - 6*b)
 all_goals
  first|(exfalso;omega)|skip
  repeat (first|simp(disch:=omega)only[↓my])
  try simp only[atQ,c,d,f,and_true,and_false,true_and,false_and,if_true,if_false]
  try rfl
def jK{m:Mv}{c:Cl}(a:m.1<8)(f:-100000<=m.2.1/\m.2.1<=100000/\-100000<=m.2.2/\m.2.2<=100000)(b:c.2.2<4)(g:-100000<=c.1/\c.1<=100000/\-100000<=c.2.1/\c.2.1<=100000):Cc 38 (Al m++Ab c) (Ab (am m c)):=by
 refine q38 rfl ?_;unfold Yt;simp only[xp];have e:=W9 a b;have l:-1000000<=(Au c).1/\(Au c).1<=1000000/\-1000000<=(Au c).2/\(Au c).2<=1000000:=by
  obtain⟨x,y,q⟩:=c;simp only at b g;rcases BD b with rfl|rfl|rfl|rfl<;>simp only[Au,Vi,Vj]<;>omega
 have k:-100000000<=(Ba m (Au c)).1/\(Ba m (Au c)).1<=100000000/\-100000000<=(Ba m (Au c)).2/\(Ba m (Au c)).2<=100000000:=by
  generalize Au c=p at *;obtain⟨t,X,Y⟩:=m;obtain⟨x,y⟩:=p;simp only at a f l;rcases t8 a with rfl|rfl|rfl|rfl|rfl|rfl|rfl|rfl<;>simp only[Ba,mA,mB,mC,mD]<;>omega
 have h:=qd b g;have i:=tU (m:=m) (x:=(Au c).1) (y:=(Au c).2) a f (by omega);have d:=RZ (x:=(Ba m (Au c)).1) (y:=(Ba m (Au c)).2) k;have j:W8 ((Ba m (Au c)).1,(Ba m (Au c)).2)=am m c:=e;rw[j]at d;simp only[Al,Ab,Aw,Ap]at h i d ⊢
 repeat (first|simp(disch:=omega)only[↓my]|refine ai h ?_|refine ai i ?_|refine ai d ?_)
def QU{a b c d:Int}{K:Tm}:P1.eqs [(.i a,.i b),(.i c,.i d)] (@hid _ ⟨K⟩)=K (decide (a=b/\c=d)):=by
 show K (cj _)=_;have e:cj [(.i a,.i b),(.i c,.i d)]=decide (a=b/\c=d):=by
  rw[Ir];simp[cj,gG]
 rw[e]
def yk{a b:Mv}(ha:Av 30000 a)(hb:Av 30000 b):Cc 33 (Al a++Al b) (Al (ae a b)):=by
 obtain⟨d,C,D,E,F,T⟩:=ha;obtain⟨p,U,V,W,Z,b6⟩:=hb;have q:=dm (n:=30000) (k:=30000) ⟨d,C,D,E,F,T⟩ ⟨p,U,V,W,Z,b6⟩;obtain⟨O,g2,g3,g4,g5,_⟩:=q;refine q33 rfl ?_;unfold Yr;simp only[xp];have H:∀(x y:Int),(0<=x/\x<=6/\0<=y/\y<=6)->-1000000<=(Ba a (x,y)).1/\(Ba a (x,y)).1<=1000000/\-1000000<=(Ba a (x,y)).2/\(Ba a (x,y)).2<=1000000:=by
  intro x y h;obtain⟨t,X,Y⟩:=a;simp only at d C D E F;rcases t8 d with rfl|rfl|rfl|rfl|rfl|rfl|rfl|rfl<;>simp only[Ba,mA,mB,mC,mD]<;>omega
 have l:∀(x y:Int),(0<=x/\x<=6/\0<=y/\y<=6)->Cc 84 (Al a++[.i x,.i y]) [.i (Ba a (x,y)).1,.i (Ba a (x,y)).2]:=λx y h=>tU d (by omega) (by omega);have o:∀(x y:Int),(0<=x/\x<=6/\0<=y/\y<=6)->Cc 84 (Al b++[.i (Ba a (x,y)).1,.i (Ba a (x,y)).2]) [.i (Ba (ae a b) (x,y)).1,.i (Ba (ae a b) (x,y)).2]:=λx y h=>by
  have:=tU (m:=b) (x:=(Ba a (x,y)).1) (y:=(Ba a (x,y)).2) p (by omega) (by have:=H x y h;omega);rw[show Ba b ((Ba a (x,y)).1,(Ba a (x,y)).2)=Ba (ae a b) (x,y)from Oo d p (x,y)]at this;exact this
 generalize ae a b=G at *;have L:Ba G (0,0)=(6*G.2.1,6*G.2.2):=by simp[Ba]
 have M:∀t X Y,Ba (t,X,Y) (6,0)=(mA t*6+6*X,mC t*6+6*Y):=λt X Y=>by simp[Ba]
 have N:∀t X Y,Ba (t,X,Y) (0,6)=(mB t*6+6*X,mD t*6+6*Y):=λt X Y=>by simp[Ba]
 have Q:=l 0 0 (by omega);have R:=l 6 0 (by omega);have S:=l 0 6 (by omega);have v:=o 0 0 (by omega);have w:=o 6 0 (by omega);have z:=o 0 6 (by omega);obtain⟨t,X,Y⟩:=G;simp only at O g2 g3 g4 g5 L;rw[L]at v;rw[M t X Y]at w;rw[N t X Y]at z;simp only[Al,Aw,Ap]at Q R S v w z ⊢;clear H l o;generalize Ba a (0,0)=q0 at *;generalize Ba a (6,0)=q1 at *;generalize Ba a (0,6)=q2 at *
 repeat (first|simp(disch:=omega)only[↓my]|refine ai Q ?_|refine ai R ?_|refine ai S ?_|refine ai v ?_|refine ai w ?_|refine ai z ?_)
 refine aR (σ:=Unit) 8 (λj _=>[.i (Int.ofNat j)]) (λ_ _=>_) (λj _=>j<=t) (j0:=0) (s0:=()) rfl rfl (AM _) (AM _) ?_;intro j _ ad af g c;have r:j<8:=by omega
 have A:=tU (m:=(j,X,Y)) (x:=6) (y:=0) r (by show -100000<=X/\X<=100000/\-100000<=Y/\Y<=100000;omega) (by omega);have B:=tU (m:=(j,X,Y)) (x:=0) (y:=6) r (by show -100000<=X/\X<=100000/\-100000<=Y/\Y<=100000;omega) (by omega);rw[M]at A;rw[N]at B;have I:=rq (a:=6*X) (by omega);have J:=rq (a:=6*Y) (by omega);rw[show 6*X / 6=X by omega]at I;rw[show 6*Y / 6=Y by omega]at J;simp only[Al,Aw,Ap]at A B;have hn:(0:Int)<=Int.ofNat j/\Int.ofNat j<=7:=⟨Cb _,by show(j:Int)<=7;omega⟩;have P:j≠t->g [.i (Int.ofNat j+1)] []:=λh=>c () (by omega) (by omega);have u:=λh1 h2 h3 h4=>ON (s:=j) (t:=t) r O h1 h2 h3 h4
 repeat (first|simp(disch:=omega)only[↓my]|refine ai I ?_|refine ai J ?_|refine ai A ?_)
 by_cases f:mA j=mA t/\mC j=mC t
 ·obtain⟨f,K⟩:=f;rw[←f,←K]
  repeat (first|simp(disch:=omega)only[↓my]|refine ai B ?_)
  by_cases e3:mB j=mB t/\mD j=mD t
  ·obtain⟨e3,e4⟩:=e3;obtain rfl:=u f K e3 e4
   repeat (first|simp(disch:=omega)only[↓my])
  ·rw[QU,BV (by omega)]
   repeat (first|simp(disch:=omega)only[↓my])
   exact P λe=>e3 (by rw[e];exact⟨rfl,rfl⟩)
 ·rw[QU,BV (by omega)]
  repeat (first|simp(disch:=omega)only[↓my])
  exact P λe=>f (by rw[e];exact⟨rfl,rfl⟩)
def md{q k:Nat}(h:k<3):eK q (eK q k)=k:=by
 have b:k=0∨k=1∨k=2:=by omega
 have a:q%2=0∨q%2=1:=by omega
 rcases a with a|a<;>rcases b with rfl|rfl|rfl<;>simp[eK,a]
def vH{c:Cl}{e f:Nat}(a:c.2.2<4)(g:e<3)(i:f<3)(h:AB c e=AB c f):e=f:=by
 obtain⟨x,y,q⟩:=c;simp only at a;have b:e=0∨e=1∨e=2:=by omega
 have d:f=0∨f=1∨f=2:=by omega
 rcases BD a with rfl|rfl|rfl|rfl<;>rcases b with rfl|rfl|rfl<;>rcases d with rfl|rfl|rfl
 all_goals first
  |rfl
  |(exfalso;simp[AB]at h;done)
  |(exfalso;simp[AB]at h;omega)
def OX{w v:Nat}(i:Sh w v){c e f n:Nat}(d:c<4*w*v)(g:e<3)(h:f<3)(h1:Aa w v c e=some n)(j:Aa w v c f=some n):e=f:=by
 obtain⟨_,_,_,a,_⟩:=dI i d g h1;obtain⟨_,_,_,b,_⟩:=dI i d h j;exact vH (c:=sd w c) (H3 _ (by omega)) g h (a.symm.trans b)
def B6(l:Ty)(u e:Nat):Int:=l.foldl (λa c=>if bD c=((Int.ofNat u,Int.ofNat e):Ku)then c.2.2 else a) 0
def vy{l:Ty}{c:BJ}{u e:Nat}:B6 (l++[c]) u e=if bD c=((Int.ofNat u,Int.ofNat e):Ku)then c.2.2 else B6 l u e:=by
 unfold B6;rw[qcM];rfl
def lQ{l:Ty}(j:∀c∈l,c.2.2≠0){u e:Nat}:B6 l u e≠0↔AW l u e=true:=by
 have f:∀(l:Ty) (a:Int),(∀c∈l,c.2.2≠0)->(l.foldl (λa c=>if bD c=((Int.ofNat u,Int.ofNat e):Ku)then c.2.2 else a) a≠0↔a≠0∨((Int.ofNat u,Int.ofNat e):Ku)∈l.map bD):=by
  intro l
  induction l with
  |nil=>intro a _;simp
  |cons c l k=>
   intro a h;rw[Is,k _ λd i=>h d (Bo _ i),AL,qar];have g:=h c (by simp);by_cases b:bD c=((Int.ofNat u,Int.ofNat e):Ku)
   ·rw[mc b];exact⟨λ_=>.inr (.inl b.symm),λ_=>.inl g⟩
   ·rw[po b];exact⟨λh=>h.imp id .inr,λh=>h.imp id λh=>h.resolve_left λe=>b e.symm⟩
 unfold AW B6;rw[BF,f l 0 j];simp
def CH(w v:Nat)(l:Ty)(c k:Nat):Int:=match Aa w v c (eK (c%4) k)with
 |some n=>B6 l (min c n) (eK (c%4) k)
 |none=>0
def Ak(w v:Nat)(l:Ty):TA:=(List.range (12*w*v)).map λi=>CH w v l (i / 3) (i%3)
def gw{w v:Nat}{l:Ty}:(Ak w v l).length=12*w*v:=by simp[Ak]
def kw{w v:Nat}{l:Ty}{c k:Nat}(a:c<4*w*v)(b:k<3):(Ak w v l)[3*c+k]?=some (CH w v l c k):=by
 have:12*w*v=3*(4*w*v):=by rw[show 12*w*v=3*4*w*v by rfl,MQ 3 4 w,MQ 3 (4*w) v]
 unfold Ak;rw[AU,HX (by omega)];show some (CH w v l ((3*c+k) / 3) ((3*c+k)%3))=_;rw[show(3*c+k) / 3=c by omega,show(3*c+k)%3=k by omega]
def Mm{w v:Nat}:Ak w v []=List.replicate (12*w*v) 0:=by
 unfold Ak;rw[List.eq_replicate_iff];refine⟨by simp,λx a=>?_⟩;obtain⟨i,_,rfl⟩:=qaz.1 a;unfold CH;split<;>rfl
def Mo{w v:Nat}(x:Sh w v){l:Ty}{u e n:Nat}{kd:Int}(G:u<4*w*v)(g:e<3)(p:Aa w v u e=some n)(E:u<n) :
  Ak w v (l++[(Int.ofNat u,Int.ofNat e,kd)])=((Ak w v l).set (3*u+eK (u%4) e) kd).set (3*n+eK (n%4) e) kd:=by
 obtain⟨J,A,_,_,K⟩:=dI x G g p;have M:=fq (u%4) e;have N:=fq (n%4) e;have H:=md (q:=u%4) g;have I:=md (q:=n%4) g;have B:12*w*v=3*(4*w*v):=by rw[show 12*w*v=3*4*w*v by rfl,MQ 3 4 w,MQ 3 (4*w) v]
 refine Ga λi=>?_;by_cases L:i<12*w*v
 case neg=>rw[Bd (by rw[gw];omega),Bd (by rw[Bc,Bc,gw];omega)]
 obtain⟨c,k,j,o,rfl⟩ : ∃c k,c<4*w*v/\k<3/\i=3*c+k:=⟨i / 3,i%3,by omega,by omega,by omega⟩;rw[kw j o,DX,DX,Bc,gw,kw j o,mc (show 3*n+eK (n%4) e<12*w*v by omega),mc (show 3*u+eK (u%4) e<12*w*v by omega)];have b:∀a f:Nat,bD (Int.ofNat u,Int.ofNat e,kd)=((Int.ofNat a,Int.ofNat f):Ku)↔u=a/\e=f:=by
  intro a f;unfold bD;rw[Pz];exact⟨λh=>⟨Dn h.1,Dn h.2⟩,λh=>⟨by rw[h.1],by rw[h.2]⟩⟩
 have d:=md (q:=c%4) o;have D:=fq (c%4) k;unfold CH;by_cases s:3*n+eK (n%4) e=3*c+k
 ·obtain rfl:c=n:=by omega
  have:eK (c%4) k=e:=by rw[show k=eK (c%4) e by omega,I]
  rw[mc s,this,A];simp only;rw[vy,mc ((b _ _).2 ⟨by omega,rfl⟩)]
 ·rw[po s];by_cases t:3*u+eK (u%4) e=3*c+k
  ·obtain rfl:c=u:=by omega
   have:eK (c%4) k=e:=by rw[show k=eK (c%4) e by omega,H]
   rw[mc t,this,p];simp only;rw[vy,mc ((b _ _).2 ⟨by omega,rfl⟩)]
  ·rw[po t];cases y:Aa w v c (eK (c%4) k)with
   |none=>rfl
   |some m=>
    simp only;rw[vy,po ?_];rw[b];rintro⟨O,z⟩;rw[←z]at y;have d:eK (c%4) e=k:=by rw[z];exact d
    by_cases C:c<=m
    ·have:c=u:=by omega
     subst this;omega
    ·have F:m=u:=by omega
     subst F;obtain⟨_,r,_⟩:=dI x j g y;rw[p]at r;cases r;omega
def qn{a b:Nat}{K:Ts}(h:a*b<=1000000000):P1.ari .mul .i64 (Int.ofNat a) (Int.ofNat b) (@hid _ ⟨K⟩)=K (Int.ofNat (a*b)):=by
 have e:Int.ofNat a*Int.ofNat b=Int.ofNat (a*b):=rfl;rw[Rf (by rw[e];show(-9223372036854775808:Int)<=((a*b:Nat):Int);omega) (by rw[e];show((a*b:Nat):Int)<=9223372036854775807;omega),e]
def ze{b:Nat}{K:Ts}(h:b<=100000000):P1.ari .mul .i64 3 (Int.ofNat b) (@hid _ ⟨K⟩)=K (Int.ofNat (3*b)):=qn (a:=3) (by omega)
def Q8{b:Nat}{K:Ts}(h:b<=100000000):P1.ari .mul .i64 4 (Int.ofNat b) (@hid _ ⟨K⟩)=K (Int.ofNat (4*b)):=qn (a:=4) (by omega)
def T9{b:Nat}{K:Ts}(h:b<=10000000):P1.ari .mul .i64 12 (Int.ofNat b) (@hid _ ⟨K⟩)=K (Int.ofNat (12*b)):=qn (a:=12) (by omega)
def lI{a b:Nat}{K:Ts}(h:a+b<=1000000000):P1.ari .add .i64 (Int.ofNat a) (Int.ofNat b) (@hid _ ⟨K⟩)=K (Int.ofNat (a+b)):=by
 have e:Int.ofNat a+Int.ofNat b=Int.ofNat (a+b):=rfl;rw[B9 (by rw[e];show(-9223372036854775808:Int)<=((a+b:Nat):Int);omega) (by rw[e];show((a+b:Nat):Int)<=9223372036854775807;omega),e]
def Cp(k:Int):Tk:=[.int .u8 k]
def jC(k:Int):(Cp k).length=1:=rfl
def VC(w v:Nat)(c:BJ):Prop:=∃u e n:Nat,c.1=Int.ofNat u/\c.2.1=Int.ofNat e/\u<4*w*v/\e<3/\Aa w v u e=some n/\u<n/\0<=c.2.2/\c.2.2<=255
abbrev A9(T:TA):HO:=.o (.cells (T.flatMap Cp) 1 true)
def S3.n{w v:Nat}(h:S3 w v):4*w<=12/\4*w*v<=36/\12*w*v<=108/\w*v<=9:=by
 obtain⟨c,a,d,b⟩:=h;have:w*v<=3*3:=qd3 a b;rw[MQ,MQ];omega
def Fy{α:Type}{j k:Nat}{a b:α}(h:j≠k):(if j+1<=k then a else b)=if j<=k then a else b:=by
 by_cases c:j+1<=k
 ·rw[mc c,mc (by omega)]
 ·rw[po c,po (by omega)]
def ph{w v:Nat}(F:S3 w v){l:Ty}{H:HL}{x:Value}(O:LsH H x 3 zz l)(hv:∀c∈l,VC w v c)(hn:l.length<=1000) :
  aD cc ab 9 [.i (.ofNat w),.i (.ofNat v),.v x] (ka aa H) [.v (.slice (some ⟨H.length,0,pu 1⟩) (12*w*v) (12*w*v+1))] (ka aa (H++[A9 (Ak w v l)])):=by
 have S:=F.sh;obtain⟨b1,b2,b3,b4⟩:=F.n;exact xK x9 (kx (kx (rv O.good ub))) (by
  unfold f9;simp only[xp];refine jw ?_;rw[T9 (by omega)];refine qs ?_;rw[qn (by omega)];refine qs ?_;refine ah (eE (by omega)) ?_;refine jw ?_;rw[show(Int.ofNat (12*w*v)).toNat=12*w*v from rfl];have z0:HO.o (.cells (bk [.int .u8 0] (12*w*v)) 1 true)=A9 (Ak w v (l.take 0)):=by
   rw[Vq,Mm];unfold A9;rw[←dc (enc:=Cp) (z:=0) (n:=12*w*v)];rfl
  rw[z0];refine aR (σ:=Unit) l.length (λj _=>[.i (Int.ofNat j)]) (λj _=>H++[A9 (Ak w v (l.take j))]) (λ_ _=>True) (j0:=0) (s0:=()) rfl rfl (AM _) trivial ?_;intro i _ hi _ L b;refine jw ?_;refine br O ?_;by_cases C:i<l.length
  case neg=>
   obtain rfl:i=l.length:=by omega
   rw[aM (zY _)];refine jw ?_;exact⟨by trivial,by rw[Ly]⟩
  rw[aJ C];refine jw ?_;obtain⟨c,N⟩:=aL C;have P:=O.pre (h':=H++[A9 (Ak w v (l.take i))]) ⟨_,rfl⟩;refine aQ P rfl N ?_;obtain⟨u,e,n,Z,q2,M,G,y,U,q3,q4⟩:=hv c (Af N);have s:Ak w v (l.take (i+1))=((Ak w v (l.take i)).set (3*u+eK (u%4) e) c.2.2).set (3*n+eK (n%4) e) c.2.2:=by
   rw[Dm,N];have:=Mo (l:=l.take i) (kd:=c.2.2) S M G y U;rw[←this];show Ak w v (l.take i++[c])=_;rw[←Z,←q2]
  obtain⟨W,X,_,_,g5⟩:=dI S M G y;unfold zz;refine jw ?_;rw[Z,q2];have ag:=fq (u%4) e;have ap:=fq (n%4) e;have B:=md (q:=u%4) G;have R:=md (q:=n%4) G;have Y:(Ak w v (l.take i)).length=12*w*v:=gw;have b:L [.i (Int.ofNat i+1)] (H++[A9 (Ak w v (l.take (i+1)))]):=b () C trivial;generalize Ak w v (l.take i)=T at *;generalize Ak w v (l.take (i+1))=T' at *;have ad:12*w*v=3*(4*w*v):=by rw[show 12*w*v=3*4*w*v by rfl,MQ 3 4 w,MQ 3 (4*w) v]
  have eu:Int.ofNat e<=255/\(0:Int)<=Int.ofNat e:=⟨by show(e:Int)<=255;omega,Cb _⟩;refine aR (σ:=Unit) 3 (λj _=>[.i (Int.ofNat j)]) (λj _=>H++[A9 (if j<=eK (u%4) e then T else T')]) (λ_ _=>True) (j0:=0) (s0:=()) rfl (by rw[mc (AM _)]) (AM _) trivial ?_;intro j _ hj _ E f;refine jw ?_;by_cases p:j<3
  case neg=>
   obtain rfl:j=3:=by omega
   rw[zQ (show(3:Int)<=Int.ofNat 3 from HZ _)];refine jw ?_;rw[aS (by omega),po (by omega)];exact b
  rw[zV (show Int.ofNat j<3 by show(j:Int)<3;omega)];refine jw ?_;refine ai (uo F M p) ?_;have r:j≠eK (u%4) e->E [.i (Int.ofNat j+1)] (H++[A9 (if j<=eK (u%4) e then T else T')]):=by
   intro D;have:=f () p trivial;rw[Fy D]at this;exact this
  cases J:Aa w v u (eK (u%4) j)with
  |none=>
   rw[show CY w v u j = -1 by unfold CY;rw[J]];refine jw ?_;rw[aS (by omega)];refine r λe=>?_;rw[e,B,y]at J;cases J
  |some m=>
   rw[show CY w v u j=Int.ofNat m by unfold CY;rw[J]];refine jw ?_;rw[zQ (show(0:Int)<=Int.ofNat m from Cb m)];refine jw ?_;refine ai (Jt F M p) ?_;refine jw ?_;by_cases I:j=eK (u%4) e
   case neg=>
    rw[AR (λh=>I (by rw[←Dn h,md p]))];refine jw ?_;rw[aS (by omega)];exact r I
   rw[Aj (by rw[I,B])];refine jw ?_;have K:=J;rw[I,B,y]at K;cases K;rw[ze (by omega)];refine qs ?_;rw[lI (by omega)];refine qs ?_;rw[mc (by omega)];have A:(H++[A9 T])[H.length]?=some (A9 T):=aA;refine dd (enc:=Cp) (l:=T) (i:=3*u+j) (a:=c.2.2) jC A rfl (by omega) Y rfl ?_;unfold td;rw[eG];refine qs ?_;have Q:(T.set (3*u+j) c.2.2).length=12*w*v:=by rw[Bc,Y]
   rw[←I]at s;generalize af:T.set (3*u+j) c.2.2=T1 at *;refine aR (σ:=Unit) 3 (λj _=>[.i (Int.ofNat j)]) (λj _=>H++[A9 (if j<=eK (n%4) e then T1 else T')]) (λ_ _=>True) (j0:=0) (s0:=()) rfl (by rw[mc (AM _)]) (AM _) trivial ?_;intro k _ an _ V g;refine jw ?_;by_cases d:k<3
   case neg=>
    obtain rfl:k=3:=by omega
    rw[zQ (show(3:Int)<=Int.ofNat 3 from HZ _)];refine jw ?_;rw[aS (by omega),po (by omega)];have:=f () p trivial;rw[po (by omega)]at this;exact this
   rw[zV (show Int.ofNat k<3 by show(k:Int)<3;omega)];refine jw ?_;refine ai (uo F W d) ?_;by_cases t:k=eK (n%4) e
   ·rw[show CY w v n k=Int.ofNat u by unfold CY;rw[t,R,X]];refine jw ?_;rw[ze (by omega)];refine qs ?_;rw[lI (by omega)];refine qs ?_;rw[mc (by omega)];have A:(H++[A9 T1])[H.length]?=some (A9 T1):=aA;refine dd (enc:=Cp) (l:=T1) (i:=3*n+k) (a:=c.2.2) jC A rfl (by omega) Q rfl ?_;unfold td;rw[eG];refine qs ?_;rw[aS (by omega)];have:=g () d trivial;rw[po (by omega),s,←t]at this;exact this
   ·have D:CY w v n k≠Int.ofNat u:=by
     unfold CY;cases hy:Aa w v n (eK (n%4) k)with
     |none=>exact λh=>by cases h
     |some z=>
      intro h;obtain rfl:=Dn h;have:=OX S W (fq _ _) G hy X;exact t (by rw[←this,md d])
    simp(disch:=omega)only[↓my]
    try rw[zO D]
    refine qs ?_;rw[aS (by omega)];have:=g () d trivial;rw[Fy t]at this;exact this)
def wt{k:Int}{a b r:Mv}(d:a.1<8)(e:b.1<8)(c:Av k r)(h:ae a r=ae b r):a=b:=by
 have f:(B5 r).1<8:=(O5 c).1;have this:ae (ae a r) (B5 r)=ae (ae b r) (B5 r):=by rw[h]
 rw[cu d c.1 f,cu e c.1 f,Kd c.1,mX d,mX e]at this;exact this
structure PS(w v:Nat)(l:Ty)(r:Mv)(O A:TI)(B:Tv)(q:Tx)(D:Nat->Nat->Prop):Prop where
 js:JS w v l A B q D
 la:A.length=4*w*v
 lb:B.length=4*w*v
 lo:O.length=4*w*v
 rel:∀(c:Nat) a,B[c]?=some true->A[c]?=some a->O[c]?=some (ae a r)
def Fl(b:Bool)(q:Tx)(B:Tv)(j a:Nat):Prop:=(b=false->(∀c∈q,j<=c)/\A6 B=a)/\(b=true->a<A6 B)
abbrev o3(H:HL)(O:TI)(B:Tv)(T:TA):HL:=H++[.o (.cells (O.flatMap tx) 3 true),.o (.cells (B.flatMap zX) 1 true),A9 T]
def KW{H:HL}{O:TI}{B:Tv}{T:TA}:(o3 H O B T)[H.length]?=some (.o (.cells (O.flatMap tx) 3 true)):=by simp
def Z3{H:HL}{O:TI}{B:Tv}{T:TA}:(o3 H O B T)[H.length+1]?=some (.o (.cells (B.flatMap zX) 1 true)):=by simp
def o3_2{H:HL}{O:TI}{B:Tv}{T:TA}:(o3 H O B T)[H.length+2]?=some (A9 T):=by simp
def Z4{H:HL}{O a:TI}{B:Tv}{T:TA}:td (o3 H O B T) H.length 3 tx a=o3 H a B T:=by simp[td]
def Z5{H:HL}{O:TI}{B B':Tv}{T:TA}:td (o3 H O B T) (H.length+1) 1 zX B'=o3 H O B' T:=by
 simp[td,qdZ]
def PlR(w v:Nat)(l:Ty)(r:Mv)(H:HL)(a:TB)(h':HL):Prop:=
 (a=[.v jo,.i 0]/\¬ ∃G,nc w v l G/\G 0=AG)∨∃G T,ConsO w v l G/\a=[.v (.slice (some ⟨H.length,0,pu 3⟩) (4*w*v) (4*w*v+1)),.i 1]/\∃B,h'=o3 H (A8 w v G r) B T
def PS.restart{w v:Nat}{l:Ty}{r:Mv}{O A:TI}{B:Tv}{q:Tx}{D:Nat->Nat->Prop}(h:PS w v l r O A B q D):∃q',PS w v l r O A B q' (λ_ _=>True):=by
 refine⟨(List.range (4*w*v)).filter λc=>B.getD c false,⟨h.js.a0,h.js.b0,λc a=>?_,λc e n _ a _ _ f g=>absurd ?_ g,h.js.bd,h.js.un⟩,h.la,h.lb,h.lo,h.rel⟩
 ·obtain⟨b,d⟩:=qaN.1 a;rw[qad]at b;have:c<B.length:=by rw[h.lb];exact b
  rw[List.getD_eq_getElem?_getD,A4 this]at d;rw[A4 this];exact congrArg some d
 ·rw[qaN,qad,List.getD_eq_getElem?_getD,f];exact⟨a,rfl⟩
def lj{w v:Nat}(U:S3 w v){l:Ty}{H:HL}{x:Value}(hl:LsH H x 3 zz l)(hv:∀c∈l,VC w v c)(a6:∀c∈l,c.2.2≠0)(hn:l.length<=1000){r:Mv}(hr:Av 20000 r) :
  ∃rs h',aD cc ab 8 ([.i (.ofNat w),.i (.ofNat v),.v x]++Al r) (ka aa H) rs (ka aa h')/\PlR w v l r H rs h'/\Pre H h':=by
 have Q:=U.sh;obtain⟨b1,b2,b3,b4⟩:=U.n;have hN:=Bj Q;have bm:=x8 (ls:=[.i (.ofNat w),.i (.ofNat v),.v x,.i (Int.ofNat r.1),.i r.2.1,.i r.2.2]) (K:=λrs h'=>PlR w v l r H rs h'/\Pre H h') (H:=H) (kx (kx (rv hl.good (kx (kx (kx ub)))))) (by
  unfold f8;simp only[xp];refine jw ?_;rw[Q8 (by omega)];refine qs ?_;rw[qn (by omega)];refine qs ?_;refine ah (eE (by omega)) ?_;refine jw ?_;rw[show(Int.ofNat (4*w*v)).toNat=4*w*v from rfl];have z0:HO.o (.cells (bk [.int .u8 0,.int .i64 0,.int .i64 0] (4*w*v)) 3 true)=HO.o (.cells ((List.replicate (4*w*v) AG).flatMap tx) 3 true):=by
   rw[←dc (enc:=tx) (z:=AG) (n:=4*w*v)];rfl
  have z1:HO.o (.cells (bk [.bool false] (4*w*v)) 1 true)=HO.o (.cells ((List.replicate (4*w*v) false).flatMap zX) 1 true):=by
   rw[←dc (enc:=zX) (z:=false) (n:=4*w*v)];rfl
  rw[z0];refine ah (eE (by omega)) ?_;refine jw ?_;rw[z1,zQ (show(1:Int)<=Int.ofNat (4*w*v)by show(1:Int)<=((4*w*v:Nat):Int);omega)];refine jw ?_;have V:((List.replicate (4*w*v) AG)).length=4*w*v:=by simp
  have ap:((List.replicate (4*w*v) false)).length=4*w*v:=by simp
  have e2:((H++[HO.o (.cells ((List.replicate (4*w*v) AG).flatMap tx) 3 true)])++[HO.o (.cells ((List.replicate (4*w*v) false).flatMap zX) 1 true)])=H++[HO.o (.cells ((List.replicate (4*w*v) AG).flatMap tx) 3 true),HO.o (.cells ((List.replicate (4*w*v) false).flatMap zX) 1 true)]:=by simp
  have m1:(H++[HO.o (.cells ((List.replicate (4*w*v) AG).flatMap tx) 3 true)]).length=H.length+1:=by simp
  rw[e2,m1];generalize hA:List.replicate (4*w*v) AG=A0 at *;generalize hB:List.replicate (4*w*v) false=B0 at *;refine dd (enc:=tx) (l:=A0) (i:=0) (a:=r) bR (by simp) rfl (by omega) V rfl ?_;have p0:td (H++[HO.o (.cells (A0.flatMap tx) 3 true),HO.o (.cells (B0.flatMap zX) 1 true)]) H.length 3 tx (A0.set 0 r)=H++[HO.o (.cells ((A0.set 0 r).flatMap tx) 3 true),HO.o (.cells (B0.flatMap zX) 1 true)]:=by simp[td]
  rw[p0];refine qs ?_;refine dd (enc:=zX) (l:=B0) (i:=0) (a:=true) ez (by simp) rfl (by omega) ap rfl ?_;have p1:td (H++[HO.o (.cells ((A0.set 0 r).flatMap tx) 3 true),HO.o (.cells (B0.flatMap zX) 1 true)]) (H.length+1) 1 zX (B0.set 0 true)=H++[HO.o (.cells ((A0.set 0 r).flatMap tx) 3 true),HO.o (.cells ((B0.set 0 true).flatMap zX) 1 true)]:=by simp[td,qdZ]
  rw[p1];refine qs ?_;have hT:=ph U (hl.pre (h':=H++[HO.o (.cells ((A0.set 0 r).flatMap tx) 3 true),HO.o (.cells ((B0.set 0 true).flatMap zX) 1 true)]) ⟨_,rfl⟩) hv hn;have e3:(H++[HO.o (.cells ((A0.set 0 r).flatMap tx) 3 true),HO.o (.cells ((B0.set 0 true).flatMap zX) 1 true)])++[A9 (Ak w v l)]=o3 H (A0.set 0 r) (B0.set 0 true) (Ak w v l):=by simp
  have m2:(H++[HO.o (.cells ((A0.set 0 r).flatMap tx) 3 true),HO.o (.cells ((B0.set 0 true).flatMap zX) 1 true)]).length=H.length+2:=by simp
  rw[e3,m2]at hT;refine al hT ?_;refine jw ?_;have be:PS w v l r (A0.set 0 r) A0 (B0.set 0 true) [0] λ_ _=>True:=by
   have js:=JS.start (l:=l) Q;rw[hA,hB]at js;refine⟨js,V,by rw[Bc,ap],by rw[Bc,V],λc a M L=>?_⟩;have N:c=0:=by
    by_cases h0:c=0
    ·exact h0
    ·rw[BL (BO h0),←hB,It]at M;split at M<;>cases M
   subst N;rw[CQ (by omega)];rw[js.a0]at L;cases L;rw[jJ hr.1]
  generalize A0.set 0 r=O0 at *;generalize B0.set 0 true=B1 at *;clear p0 p1 e2 e3 m1 m2 hT z0 z1 hA hB V ap;refine eQ (m:=4*w*v - A6 B1+1) (λm ls h=>∃f O A B q,ls=[.b f]/\h=o3 H O B (Ak w v l)/\PS w v l r O A B q (λ_ _=>True)/\((f=true/\m=4*w*v - A6 B+1)∨(f=false/\q=[]))) ⟨true,O0,A0,B1,[0],rfl,rfl,be,.inl ⟨rfl,rfl⟩⟩ ?_;rintro m ls h ⟨f,O,A,B,q,rfl,rfl,d,hm⟩ bI R;refine Hs ?_;refine jw ?_;rcases hm with⟨rfl,rfl⟩|⟨rfl,rfl⟩
  case inr=>
   refine jw ?_;have hA:=d.js.good Q d.la d.lb;have a4:∀n,n<4*w*v->B[n]?=some true:=vJ Q d.js.b0 λc e n N he hn M=>(d.js.dn c e n trivial N he hn M (by simp)).1;have hO:O=A8 w v (λc=>A.getD c AG) r:=by
    refine Ga λi=>?_;by_cases hi:i<4*w*v
    ·rw[iA hi];obtain⟨a,L⟩:=aL (l:=A) (i:=i) (by rw[d.la];exact hi);rw[d.rel i a (a4 i hi) L,List.getD_eq_getElem?_getD,L];rfl
    ·rw[Bd (by rw[d.lo];omega),Bd (by simp[A8];omega)]
   refine⟨.inr ⟨_,Ak w v l,hA.consO Q,rfl,B,by rw[hO]⟩,⟨_,rfl⟩⟩
  refine jw ?_;generalize ag:A6 B=cnt0 at *;have a1:∃A q,PS w v l r O A B q (λ_ _=>True)/\Fl false q B 0 cnt0:=⟨A,q,d,⟨λ_=>⟨λ_ _=>AM _,ag⟩,λh=>by cases h⟩⟩;refine aR (σ:=List Mv×List Bool×Bool) (4*w*v) (λj s=>[.b s.2.2,.i (Int.ofNat j)]) (λj s=>o3 H s.1 s.2.1 (Ak w v l)) (λj s=>∃A q,PS w v l r s.1 A s.2.1 q (λ_ _=>True)/\Fl s.2.2 q s.2.1 j cnt0) (j0:=0) (s0:=(O,B,false)) rfl rfl (AM _) a1 ?_;clear a1 d ag;rintro j ⟨O,B,f⟩ hj ⟨A,q,d,y⟩ bt G;simp only at d y ⊢;refine jw ?_;by_cases g:j<4*w*v
  case neg=>
   obtain rfl:j=4*w*v:=by omega
   rw[aM (zY _)];refine jw ?_;cases f with
   |false=>
    have hq:q=[]:=by
     rw[List.eq_nil_iff_forall_not_mem];intro c N;have h1:=(y.1 rfl).1 c N;have D:=aq (d.js.q1 c N);rw[d.lb]at D;omega
    subst hq;exact R 0 _ _ (by omega) ⟨false,O,A,B,[],rfl,rfl,d,.inr ⟨rfl,rfl⟩⟩
   |true=>
    obtain⟨q',a9⟩:=d.restart;have h1:=y.2 rfl;have D:=gT B;rw[d.lb]at D;exact R _ _ _ (by omega) ⟨true,O,A,B,q',rfl,rfl,a9,.inl ⟨rfl,rfl⟩⟩
  rw[aJ g];refine jw ?_;obtain⟨t,I⟩:=aL (l:=B) (i:=j) (by rw[d.lb];exact g);have T:∀(O:TI) (B:Tv),B.length=4*w*v->LsH (o3 H O B (Ak w v l)) (.slice (some ⟨H.length+1,0,pu 1⟩) (4*w*v) (4*w*v+1)) 1 zX B:=λO B M=>cp ez Z3 M.symm;have ax:∀(O:TI) (B:Tv),O.length=4*w*v->LsH (o3 H O B (Ak w v l)) (.slice (some ⟨H.length,0,pu 3⟩) (4*w*v) (4*w*v+1)) 3 tx O:=λO B M=>cp bR KW M.symm;have bn:∀(O:TI) (B:Tv),LsH (o3 H O B (Ak w v l)) (.slice (some ⟨H.length+2,0,pu 1⟩) (12*w*v) (12*w*v+1)) 1 Cp (Ak w v l):=λO B=>cp jC o3_2 gw.symm;cases t with
  |false=>
   refine gD 2 ?_;refine jw ?_;refine aQ (T O B d.lb) rfl I ?_;unfold zX;refine jw ?_;rw[aS (by omega)];refine G (O,B,f) g ⟨A,q,d,⟨λh=>⟨λc N=>?_,(y.1 h).2⟩,y.2⟩⟩;have h1:=(y.1 h).1 c N;have D:=d.js.q1 c N;have:c≠j:=λe=>by rw[e,I]at D;cases D
   omega
  |true=>
  have a2:∃A q,PS w v l r O A B q (λc e=>c=j->∃F,F<0/\eK (j%4) F=e)/\Fl f q B (j+1) cnt0/\B[j]?=some true:=by
   refine⟨A,q.filter λc=>!Nat.beq c j,⟨(d.js.begin (c0:=j)).monoP λe h=>?_,d.la,d.lb,d.lo,d.rel⟩,⟨λh=>⟨λc N=>?_,(y.1 h).2⟩,y.2⟩,I⟩
   ·obtain⟨F,h,_⟩:=h;omega
   ·obtain⟨h1,D⟩:=qaN.1 N;have U:=(y.1 h).1 c h1;have:c≠j:=λe=>by subst e;simp at D
    omega
  refine aR (σ:=List Mv×List Bool×Bool) 3 (λk s=>[.b s.2.2,.i (Int.ofNat k)]) (λk s=>o3 H s.1 s.2.1 (Ak w v l)) (λk s=>∃A q,PS w v l r s.1 A s.2.1 q (λc e=>c=j->∃F,F<k/\eK (j%4) F=e)/\Fl s.2.2 q s.2.1 (j+1) cnt0/\s.2.1[j]?=some true) (j0:=0) (s0:=(O,B,f)) rfl rfl (AM _) a2 ?_;clear a2 I d y;rintro k ⟨O,B,f⟩ hk ⟨A,q,d,y,I⟩ bx u;simp only at d y I ⊢;refine jw ?_;by_cases J:k<3
  case neg=>
   obtain rfl:k=3:=by omega
   rw[zQ (show(3:Int)<=Int.ofNat 3 from HZ _)];refine jw ?_;rw[aS (by omega)];exact G (O,B,f) g ⟨A,q,⟨d.js.doneP λe he=>by obtain⟨k,h1,D⟩:=Jr (q:=j%4) e he;exact⟨k,h1,D⟩,d.la,d.lb,d.lo,d.rel⟩,y⟩
  rw[zV (show Int.ofNat k<3 by show(k:Int)<3;omega)];refine jw ?_;refine aQ (T O B d.lb) rfl I ?_;unfold zX;refine jw ?_;refine ai (uo U g J) ?_;have C:=fq (j%4) k;have E:∀(P:Nat->Prop),(∀e,P e↔(∃F,F<k/\eK (j%4) F=e)∨e=eK (j%4) k)->∀e,(∃F,F<k+1/\eK (j%4) F=e)->P e:=by
   rintro P d e ⟨F,h1,D⟩;refine(d e).2 ?_;by_cases C:F=k
   ·subst C;exact .inr D.symm
   ·exact .inl ⟨F,by omega,D⟩
  cases S:Aa w v j (eK (j%4) k)with
  |none=>
   rw[show CY w v j k = -1 by unfold CY;rw[S]];refine jw ?_;rw[aS (by omega)];exact u (O,B,f) J ⟨A,q,⟨(d.js.skipP S).monoP (E _ λ_=>Iff.rfl),d.la,d.lb,d.lo,d.rel⟩,y,I⟩
  |some n=>
  rw[show CY w v j k=Int.ofNat n by unfold CY;rw[S]];obtain⟨g1,g2,g3,g4,g5⟩:=dI Q g C S;refine jw ?_;rw[zQ (show(0:Int)<=Int.ofNat n from Cb n)];refine jw ?_;obtain⟨a,L⟩:=aL (l:=A) (i:=j) (by rw[d.la];exact g);have a3:=d.rel j a I L;have ay:Av 2000 a:=aN (d.js.bd j a I L) (by have:=gT B;rw[d.lb]at this;omega);refine aQ (ax O B d.lo) rfl a3 ?_;unfold tx;refine jw ?_;rw[ze (by omega)];refine qs ?_;rw[lI (by omega)];refine qs ?_;refine aQ (bn O B) rfl (kw g J) ?_;unfold Cp;refine jw ?_;have aE:CH w v l j k=B6 l (min j n) (eK (j%4) k):=by unfold CH;rw[S]
  have a8:Av 30000 (ae a r):=aN (dm ay hr) (by omega);have a7:Av 3000 (BK w l a j n (eK (j%4) k)):=aN (wy Q g C S ay (by omega)) (by omega);obtain⟨W,hW⟩ : ∃W,W=ae (BK w l a j n (eK (j%4) k)) r:=⟨_,rfl⟩;obtain⟨tn,p⟩:=aL (l:=B) (i:=n) (by rw[d.lb];exact g1);obtain⟨b,X⟩:=aL (l:=A) (i:=n) (by rw[d.la];exact g1);by_cases ad:CH w v l j k=0
  case' pos=>
   have ar:AW l (min j n) (eK (j%4) k)=false:=by
    rw[←Cz,←lQ a6,←aE];exact λh=>h ad
   have e1:ae a r=W:=by rw[hW];unfold BK;rw[po (by rw[ar];simp)]
   rw[Aj ad,e1];simp(disch:=omega)only[↓my]
  case' neg=>
   have ar:AW l (min j n) (eK (j%4) k)=true:=by
    rw[←lQ a6,←aE];exact ad
   have e1:ae (Bb (ua (sd w j) (eK (j%4) k))) (ae a r)=W:=by
    rw[hW];unfold BK;rw[mc ar,(rZ Q g C S).2,cu (uw _) ay.1 hr.1]
   have an:=FJ Q g C;have c1:=iH U g;have c2:=iH U g1;have c3:=OR U g J S;have c4:=yk (aN (xz (n:=10) ⟨an.2.2.1,an.2.2.2⟩) (by omega)) a8;rw[e1]at c4;simp only[Al,Ab,Aw,Ap]at c1 c2 c3 c4;rw[AR ad];refine jw ?_;refine ai c1 ?_;refine jw ?_;refine ai c2 ?_;refine jw ?_;refine ai c3 ?_;refine jw ?_;refine aQ (ax O B d.lo) rfl a3 ?_;unfold tx;refine jw ?_;refine ai c4 ?_;simp(disch:=omega)only[↓my]
  all_goals
   refine aQ (T O B d.lb) rfl p ?_;unfold zX;cases tn with
   |true=>
    simp(disch:=omega)only[↓my,Bs,Cv];refine aQ (ax O B d.lo) rfl (d.rel n b p X) ?_;unfold tx;simp(disch:=omega)only[↓my,Bs,Cv];rw[SE];have bs:Av 2000 b:=aN (d.js.bd n b p X) (by have:=gT B;rw[d.lb]at this;omega);by_cases Z:ae b r=W
    ·have M:b=BK w l a j n (eK (j%4) k):=wt bs.1 a7.1 hr (Z.trans hW);rw[Bp Z];simp(disch:=omega)only[↓my,Bs,Cv];refine aQ (T O B d.lb) rfl p ?_;unfold zX;simp(disch:=omega)only[↓my,Bs,Cv];rw[aS (by omega)];exact u (O,B,f) J ⟨A,q,⟨(d.js.seenP S p L (by rw[←M];exact X)).monoP (E _ λ_=>Iff.rfl),d.la,d.lb,d.lo,d.rel⟩,y,I⟩
    ·rw[BV Z];simp(disch:=omega)only[↓my,Bs,Cv];refine⟨.inl ⟨by trivial,?_⟩,⟨_,rfl⟩⟩;exact d.js.tear Q g C S I p L X λh=>Z (by rw[h,hW])
   |false=>
    simp(disch:=omega)only[↓my,Bs,Cv];refine aQ (T O B d.lb) rfl p ?_;unfold zX;simp(disch:=omega)only[↓my,Bs,Cv];refine dd (enc:=tx) (l:=O) (i:=n) (a:=W) bR KW rfl (by rw[d.lo];exact g1) d.lo rfl ?_;rw[Z4]
    try simp(disch:=omega)only[↓my,Bs,Cv]
    refine dd (enc:=zX) (l:=B) (i:=n) (a:=true) ez Z3 rfl (by rw[d.lb];exact g1) d.lb rfl ?_;rw[Z5]
    try simp(disch:=omega)only[↓my,Bs,Cv]
    rw[aS (by omega)];have bl:=fW p;refine u (O.set n W,B.set n true,true) J ⟨A.set n (BK w l a j n (eK (j%4) k)),q++[n],⟨(d.js.freshP Q d.la d.lb g C S I p L).monoP (E _ λ_=>Iff.rfl),by rw[Bc,d.la],by rw[Bc,d.lb],by rw[Bc,d.lo],λc a' a5 Y=>?_⟩,⟨λh=>(by cases h),λ_=>?_⟩,?_⟩
    ·by_cases af:n=c
     ·subst af;rw[CQ (by rw[d.la];exact g1)]at Y;rw[CQ (by rw[d.lo];exact g1)];cases Y;rw[hW]
     ·rw[BL af]at a5 Y ⊢;exact d.rel c a' a5 Y
    ·show cnt0<A6 (B.set n true);rw[bl];cases f with
     |false=>have:=(y.1 rfl).2;omega
     |true=>have:=y.2 rfl;omega
    ·show(B.set n true)[j]?=some true;rw[BL g5];exact I)
 obtain⟨rs,h',D,U,h4⟩:=bm;exact⟨rs,h',D,U,h4⟩
abbrev Dw:=Cl×Value
def Ao(s:Dw):Tk:=bw s.1++[s.2]
def mG(s:Dw):(Ao s).length=4:=rfl
def StL(h:HL)(x:Value)(L:List (Cl×List Nat)):Prop:=∃M:List Dw,LsH h x 4 Ao M/\M.length=L.length/\∀(i:Nat) m,M[i]?=some m->∃l,L[i]?=some (m.1,l)/\LsH h m.2 1 km l
def StL.pre{h h':HL}{x:Value}{L:List (Cl×List Nat)}(j:StL h x L)(a:Pre h h'):StL h' x L:=by
 obtain⟨M,b,c,d⟩:=j;refine⟨M,b.pre a,c,λi m g=>?_⟩;obtain⟨l,e,f⟩:=d i m g;exact⟨l,e,f.pre a⟩
def me(w v:Nat):List (Cl×List Nat):=(List.range (4*w*v)).map λi=>(sd w i,[i])
def Hk{w v i:Nat}(h:i<4*w*v):(me w v)[i]?=some (sd w i,[i]):=by
 unfold me;rw[AU,HX h];rfl
def Ml(w v c k:Nat):Bool:=match Aa w v c (eK (c%4) k)with
 |some n=>jv 60 [.i (.ofNat w),.i (.ofNat v),.i (.ofNat c),.i (.ofNat n)] [.i (.ofNat (eK (c%4) k))]
 |none=>true
def allE:∀w v:Nat,1<=w->w<=3->1<=v->v<=3->((List.range (4*w*v)).all λc=>(List.range 3).all λk=>Ml w v c k)=true:=by
 have a:((List.range 3).all λw=>(List.range 3).all λv=>(List.range (4*(w+1)*(v+1))).all λc=>(List.range 3).all λk=>Ml (w+1) (v+1) c k)=true:=by kernel_rfl
 intro w v e f g h;have d:=qab.1 a (w - 1) (qad.2 (by omega));have b:=qab.1 d (v - 1) (qad.2 (by omega));rw[show w - 1+1=w by omega,show v - 1+1=v by omega]at b;exact b
def Ju{w v c k n:Nat}(h:S3 w v)(a:c<4*w*v)(b:k<3)(d:Aa w v c (eK (c%4) k)=some n):Cc 60 [.i (.ofNat w),.i (.ofNat v),.i (.ofNat c),.i (.ofNat n)] [.i (.ofNat (eK (c%4) k))]:=by
 have:=qab.1 (qab.1 (allE w v h.1 h.2.1 h.2.2.1 h.2.2.2) c (qad.2 a)) k (qad.2 b);unfold Ml at this;rw[d]at this;exact ep this rfl (by kernel_rfl) rfl
def Ft(a b:BJ):Bool:=decide (b.1<a.1)||(decide (a.1=b.1)&&decide (b.2.1<a.2.1))
def Cn(l:Ty):Prop:=l.Pairwise λa b=>Ft a b=false
def yM{a b:BJ}:Ft a b=false↔a.1<b.1∨(a.1=b.1/\a.2.1<=b.2.1):=by
 unfold Ft;rw[qb5,Bool.and_eq_false_iff];simp only[decide_eq_false_iff_not];omega
def gtC_t{a b:BJ}:Ft a b=true↔b.1<a.1∨(a.1=b.1/\b.2.1<a.2.1):=by
 unfold Ft;rw[Ck,uc];simp only[BF]
def PM{A B:Ty}{x:BJ}(h:Cn (A++B))(h1:∀a∈A,Ft a x=false)(e:∀b∈B,Ft b x=true):Cn (A++x :: B):=by
 unfold Cn at *;rw[UE]at h ⊢;refine⟨h.1,qbb.2 ⟨λb c=>?_,h.2.1⟩,λa d b c=>?_⟩
 ·have:=gtC_t.1 (e b c);exact yM.2 (by omega)
 ·rcases qar.1 c with rfl|c
  ·exact h1 a d
  ·exact h.2.2 a d b c
def eh{α:Type}{h:HL}{id e:Nat}{enc:α->Tk}{l l':List α}:td (td h id e enc l) id e enc l'=td h id e enc l':=by
 unfold td;rw[qd0]
def HN{H:HL}{id cx:Nat}{l:Ty}(hid:H[id]?=some (.o (.cells (l.flatMap zz) 3 true)))(hn:l.length<=1000) :
  ∃l',aD cc ab 61 [.v (.slice (some ⟨id,0,pu 3⟩) l.length cx)] (ka aa H) [.v (.slice (some ⟨id,0,pu 3⟩) l.length cx)] (ka aa (td H id 3 zz l'))/\l'.Perm l/\Cn l':=by
 have w:=aq hid;have s:∀c:BJ,(zz c).length=3:=λ_=>rfl;have N:∀L:List BJ,L.length=l.length->LsH (td H id 3 zz L) (.slice (some ⟨id,0,pu 3⟩) l.length cx) 3 zz L:=λL h=>cp s (bM w) h.symm;have W:=x61 (ls:=[.v (.slice (some ⟨id,0,pu 3⟩) l.length cx)]) (K:=λrs Y=>rs=[.v (.slice (some ⟨id,0,pu 3⟩) l.length cx)]/\∃l',Y=td H id 3 zz l'/\l'.Perm l/\Cn l') (H:=H) (rv (cp s hid rfl).good ub) (by
  unfold Yx;simp only[xp];refine jw ?_;have U:td H id 3 zz l=H:=bC hid;refine aR (σ:=List BJ) (max 1 l.length) (λj _=>[.i (Int.ofNat j)]) (λ_ L=>td H id 3 zz L) (λj L=>L.Perm l/\1<=j/\Cn (L.take j)) (j0:=1) (s0:=l) rfl U.symm (by omega) ⟨MP _,zY _,?_⟩ ?_
  ·cases l with
   |nil=>exact .nil
   |cons a l=>exact qbb.2 ⟨λ_ h=>(by cases h),.nil⟩
  intro i L hi ⟨p,hi1,k⟩ self hself;have D:L.length=l.length:=p.length_eq;refine jw ?_;refine br (N L D) ?_;rw[D];by_cases T:i<l.length
  case neg=>
   rw[aM (by omega)];refine jw ?_;rw[Cg (by omega)]at k;exact⟨by trivial,L,rfl,p,k⟩
  rw[aJ T];refine jw ?_;obtain⟨X,G⟩:=aL (l:=L) (i:=i) (by omega);have n:L=L.take i++X :: []++L.drop (i+1):=by
   conv=>lhs;rw[←Iu i L]
   rw[MO (by omega)];have:L[i]'(by omega)=X:=by rw[A4 (by omega)]at G;exact AD G
   rw[this];simp
  refine eQ (m:=i) (λm ls h=>∃(A:Ty) (x:BJ) (B R:Ty),ls=[.i (Int.ofNat A.length)]/\m=A.length/\h=td H id 3 zz (A++x :: B++R)/\(A++x :: B++R).Perm l/\Cn (A++B)/\(∀b∈B,Ft b x=true)/\A.length+B.length=i)
   ⟨L.take i,X,[],L.drop (i+1),by rw[BN,C1 (by omega)],by rw[BN,C1 (by omega)],by rw[←n],by rw[←n];exact p,by simpa using k,λb M=>(by cases M),by rw[BN,C1 (by omega)];rfl⟩ ?_
  clear n G k p D;rintro m ls h ⟨A,x,B,R,rfl,rfl,rfl,p,k,Z,P⟩ I t;refine Hs ?_;refine jw ?_;have D:(A++x :: B++R).length=l.length:=p.length_eq;have q:(∀a∈A,Ft a x=false)->self [.i (Int.ofNat i+1)] (td H id 3 zz (A++x :: B++R)):=λh=>hself _ (by omega) ⟨p,by omega,by
   rw[qcH (by simp;omega),Cg (by simp;omega)];exact PM k h Z⟩
  rcases List.eq_nil_or_concat A with rfl|⟨d,y,rfl⟩
  ·rw[zU (show Int.ofNat ([]:Ty).length<=0 from HZ _)];refine jw ?_;rw[aS (by omega)];exact q λa E=>(by cases E)
  rw[List.concat_eq_append]at *;have hk:(d++[y]).length=d.length+1:=by simp
  rw[hk]at P t ⊢;have u:Ft y x=false->∀a∈d++[y],Ft a x=false:=by
   intro h a E;rcases qas.1 E with E|E
   ·have J:Ft a y=false:=by
     unfold Cn at k;rw[AN,UE]at k;exact k.2.2 a E y (by simp)
    have J:=yM.1 J;have h:=yM.1 h;exact yM.2 (by omega)
   ·rw[qav.1 E];exact h
  have C:(d++[y]++x :: B++R)[d.length]?=some y:=by simp
  have z:(d++[y]++x :: B++R)[d.length+1]?=some x:=by
   rw[AN,Cd (by simp)];simp
  have g:=N _ D;have hg:=bM (l:=d++[y]++x :: B++R) (e:=3) (enc:=zz) w;rw[Ad (show(0:Int)<Int.ofNat (d.length+1)by show(0:Int)<((d.length+1:Nat):Int);omega)];have f:d.length+1<=4294967296:=by omega
  refine jw ?_;rw[gf (by omega) f];refine qs ?_;refine bB (cs:=[.int .i64 y.1]) g rfl C rfl (by omega) ?_;refine jw ?_;refine bB (cs:=[.int .i64 x.1]) g rfl z rfl (by omega) ?_;refine jw ?_;have F:Ft y x=true->I [.i (Int.ofNat d.length)] (td H id 3 zz (d++x :: (y :: B)++R)):=λh=>t d.length _ _ (by omega) ⟨d,x,y :: B,R,rfl,rfl,rfl,by
   refine List.Perm.trans ?_ p;simp only[AN,Aw,Ap];exact qcp _ (List.Perm.swap _ _ _),by rw[AN]at k;exact k,λb M=>by
   rcases qar.1 M with rfl|M
   ·exact h
   ·exact Z b M,by simp;omega⟩
  have V:((d++[y]++x :: B++R).set d.length x).set (d.length+1) y=d++x :: (y :: B)++R:=by
   simp only[AN,Aw,Ap];rw[Ru _ _ (zY _),Ru _ _ (by omega),F8,show d.length+1 - d.length=1 by omega];rfl
  have S:((d++[y]++x :: B++R).set d.length x).length=l.length:=by rw[Bc,D]
  have ad:=aq z;have Q:(td (td H id 3 zz (d++[y]++x :: B++R)) id 3 zz ((d++[y]++x :: B++R).set d.length x))[id]?=some (.o (.cells (((d++[y]++x :: B++R).set d.length x).flatMap zz) 3 true)):=by
   rw[eh];exact bM w
  by_cases r:Ft y x=true
  case neg=>
   have r:=qcw.2 r;rcases yM.1 r with J|⟨J,O⟩
   ·rw[zU (by omega)];refine jw ?_;rw[gf (by omega) f];refine qs ?_;refine bB (cs:=[.int .i64 y.1]) g rfl C rfl (by omega) ?_;refine jw ?_;refine bB (cs:=[.int .i64 x.1]) g rfl z rfl (by omega) ?_;simp(disch:=omega)only[↓my]
    try rw[zO (by omega)]
    refine qs ?_;rw[aS (by omega)];exact q (u r)
   ·rw[zU (by omega)];refine jw ?_;rw[gf (by omega) f];refine qs ?_;refine bB (cs:=[.int .i64 y.1]) g rfl C rfl (by omega) ?_;refine jw ?_;refine bB (cs:=[.int .i64 x.1]) g rfl z rfl (by omega) ?_;simp(disch:=omega)only[↓my]
    try rw[zT (by omega)]
    refine qs ?_;rw[gf (by omega) f];refine qs ?_;refine bB (cs:=[.int .u8 y.2.1]) g rfl C rfl (by omega) ?_;refine jw ?_;refine bB (cs:=[.int .u8 x.2.1]) g rfl z rfl (by omega) ?_;simp(disch:=omega)only[↓my]
    try rw[zU (by omega)]
    refine qs ?_;rw[aS (by omega)];exact q (u r)
  rcases gtC_t.1 r with J|⟨J,O⟩
  case' inl=>
   rw[Ad (by omega)];simp(disch:=omega)only[↓my]
  case' inr=>
   rw[zU (by omega)];refine jw ?_;rw[gf (by omega) f];refine qs ?_;refine bB (cs:=[.int .i64 y.1]) g rfl C rfl (by omega) ?_;refine jw ?_;refine bB (cs:=[.int .i64 x.1]) g rfl z rfl (by omega) ?_;simp(disch:=omega)only[↓my]
   try rw[zT (by omega)]
   refine qs ?_;rw[gf (by omega) f];refine qs ?_;refine bB (cs:=[.int .u8 y.2.1]) g rfl C rfl (by omega) ?_;refine jw ?_;refine bB (cs:=[.int .u8 x.2.1]) g rfl z rfl (by omega) ?_;simp(disch:=omega)only[↓my]
   try rw[Ad (by omega)]
   try simp(disch:=omega)only[↓my]
  all_goals
   rw[gf (by omega) f];refine qs ?_;refine aQ g rfl z ?_;rw[show zz x=[.int .i64 x.1,.int .u8 x.2.1,.int .u8 x.2.2]from rfl];refine jw ?_;rw[gf (by omega) f];refine qs ?_;refine aQ g rfl C ?_;rw[show zz y=[.int .i64 y.1,.int .u8 y.2.1,.int .u8 y.2.2]from rfl];refine jw ?_;refine dd (enc:=zz) (i:=d.length) (a:=x) s hg rfl (by omega) D rfl ?_;refine qs ?_;refine dd (enc:=zz) (i:=d.length+1) (a:=y) s Q rfl (by omega) S rfl ?_;rw[eh,eh,V];refine qs ?_;rw[gf (by omega) f];rw[qc2];exact F r)
 obtain⟨rs,Y,O,rfl,l',rfl,h3,h4⟩:=W;exact⟨l',O,h3,h4⟩
abbrev P7:=Int×Int×Int
def pz(p:P7):Tk:=[.int .u8 p.1,.int .u8 p.2.1,.int .u8 p.2.2]
def tI(p:P7):(pz p).length=3:=rfl
def EG(p:P7):Prop:=0<=p.1/\p.1<=255/\0<=p.2.1/\p.2.1<=255/\0<=p.2.2/\p.2.2<=255
def qA{h:HL}{v:Value}{l:List P7}{i o:Nat}{a:P7}{n:Int}{cs:Tk}{K:Te}(s:LsH h v 3 pz l)(r:n=Int.ofNat i)(k:l[i]?=some a)(u:o<3)(b:cs=((pz a).drop o).take 1)(m:K cs) :
  P1.opt (Ah 3 v n) (@hid _ ⟨λx=>P1.opt (Ov 3 1 x (Int.ofNat o)) (@hid _ ⟨λy=>P1.chk y (@hid _ ⟨P1.peek (.lg cc 1 y) h (@hid _ ⟨K⟩)⟩)⟩)⟩):=by
 subst r b;obtain⟨p,g,d⟩:=s.at k;obtain⟨q,j,f⟩:=d.fd o 1 (by rw[tI];omega);refine ah g (ah (x:=q) ?_ (ac f.good (gj (f.lg ?_) m)))
 ·obtain⟨id,w,z,e,t,rfl,_,_⟩:=d;have c:o=0∨o=1∨o=2:=by omega
  rcases c with rfl|rfl|rfl<;>· rw[←j];rfl
 ·rw[BN,MM,tI];omega
def VK(w v:Nat)(c:BJ):Prop:=VC w v c/\1<=c.2.2/\c.2.2<=3
def qD{w v:Nat}(k:Sh w v){l:Ty}{G m:TC}(h:ConsO w v l G)(d:ConsO w v l m){c:Nat}(b:c<4*w*v):G c=m c:=by
 have r:=Bj k;have hA:GoodA w v l ((List.range (4*w*v)).map G):=by
  have j:∀c,c<4*w*v->((List.range (4*w*v)).map G)[c]?=some (G c):=λc b=>by rw[AU,HX b];rfl
  refine⟨by simp,by rw[j 0 (by omega),h.z],λa f=>?_,λc e n a b o p f=>?_⟩
  ·obtain⟨i,q,rfl⟩:=qaz.1 f;exact h.ok i (qad.1 q)
  ·rw[j c b]at f;cases f;rw[j n (dI k b o p).1,h.g c e n b o p]
 have:=hA.eq k d.g d.z c b;rw[AU,HX b]at this;exact AD this
def Ny{w v:Nat}{l:Ty}(m:∀c∈l,VK w v c)(d:l.Pairwise λa b=>Da a b=true):CD (Int.ofNat w) (Int.ofNat v) l=0:=by
 have s:l.all Hu=true:=qab.2 λc h=>by
  have:=(m c h).2;unfold Hu;rw[uc];exact⟨Bp this.1,Bp this.2⟩
 have t:l.all (MS (Int.ofNat w) (Int.ofNat v))=true:=qab.2 λc h=>by
  obtain⟨u,e,n,y,z,B,A,r,d,_⟩:=(m c h).1;unfold MS Cs;rw[y,z];have o:(0:Int)<=Int.ofNat u:=Cb u;have p:Int.ofNat u<4*Int.ofNat w*Int.ofNat v:=show(u:Int)<((4*w*v:Nat):Int)by omega
  have q:Int.ofNat e<=2:=by show(e:Int)<=2;omega
  rw[Bp o,Bp p,Bp q];show(match Aa w v u e with
   |some n=>Nat.blt u n
   |none=>false)=true
  rw[r];simpa[BH]using d
 have x:BT l=true:=iG.2 λi a b f g=>by
  rw[qby]at d;have j:=aq f;have k:=aq g;rw[A4 j]at f;rw[A4 k]at g;cases f;cases g;exact d i (i+1) j k (by omega)
 unfold CD;rw[s,t,x];rfl
def LW{w v:Nat}(h:S3 w v):Do (Int.ofNat w) (Int.ofNat v):=by
 obtain⟨a,b,c,d⟩:=h;refine⟨?_,?_,?_,?_⟩
 ·show(1:Int)<=(w:Int);omega
 ·show(w:Int)<=5;omega
 ·show(1:Int)<=(v:Int);omega
 ·show(v:Int)<=5;omega
end Go.Am
namespace Go.Am
namespace Sx
open Go.ChangeShapes Go.WideShapes Go.ChangeAt Go.WideMaps Go.WideElems Go.RowKit
def FitC:TE->Tk->Prop
 | [],[]=>True
 | .i k :: ks,v :: vs=>(∃n,v = .int k n/\(Lit.int k n).wf=true)/\FitC ks vs
 | .b :: ks,v :: vs=>(∃t,v = .bool t)/\FitC ks vs
 |_,_=>False
def FitL:TE->TB->Prop
 | [],[]=>True
 | .i k :: ks,.i n :: ls=>(Lit.int k n).wf=true/\FitL ks ls
 | .b :: ks,.b _ :: ls=>FitL ks ls
 |_,_=>False
def FitC.len:∀ {ks:TE} {vs:Tk},FitC ks vs->vs.length=ks.length
 | [],[],_=>rfl
 | .i k :: ks,v :: vs,h=>by simp[FitC.len h.2]
 | .b :: ks,v :: vs,h=>by simp[FitC.len h.2]
 | .v :: _,_,h=>by cases h
 | [],_ :: _,h=>by cases h
 | .i _ :: _,[],h=>by cases h
 | .b :: _,[],h=>by cases h
def FitC.app:∀ {ks a:TE} {vs c:Tk},FitC ks vs->FitC a c->FitC (ks++a) (vs++c)
 | [],_,[],_,_,h=>h
 | .i k :: ks,_,v :: vs,_,h,h'=>⟨h.1,FitC.app h.2 h'⟩
 | .b :: ks,_,v :: vs,_,h,h'=>⟨h.1,FitC.app h.2 h'⟩
 | .v :: _,_,_,_,h,_=>by cases h
 | [],_,_ :: _,_,h,_=>by cases h
 | .i _ :: _,_,[],_,h,_=>by cases h
 | .b :: _,_,[],_,h,_=>by cases h
def FitL.app:∀ {ks a:TE} {vs c:TB},FitL ks vs->FitL a c->FitL (ks++a) (vs++c)
 | [],_,[],_,_,h=>h
 | .i k :: ks,_,.i v :: vs,_,h,h'=>⟨h.1,FitL.app h.2 h'⟩
 | .b :: ks,_,.b v :: vs,_,h,h'=>FitL.app (ks:=ks) h h'
 | .v :: _,_,_,_,h,_=>by cases h
 | [],_,_ :: _,_,h,_=>by cases h
 | .i _ :: _,_,[],_,h,_=>by cases h
 | .b :: _,_,[],_,h,_=>by cases h
 | .i _ :: _,_,.b _ :: _,_,h,_=>by cases h
 | .i _ :: _,_,.v _ :: _,_,h,_=>by cases h
 | .b :: _,_,.i _ :: _,_,h,_=>by cases h
 | .b :: _,_,.v _ :: _,_,h,_=>by cases h
def FitC.sl:∀ {ks:TE} {vs:Tk},FitC ks vs->∃xs:List SL,xs.map SL.val=vs/\aZ xs ks=true/\(∀x∈xs,x.good)/\FitL ks (xs.map SL.lf)
 | [],[],_=>⟨[],rfl,rfl,λ_ h=>(by cases h),trivial⟩
 | .i k :: ks,v :: vs,h=>by
  obtain⟨⟨n,rfl,g⟩,f⟩:=h;obtain⟨xs,a,b,c,d⟩:=FitC.sl f;exact⟨.i k n :: xs,by simp[a,SL.val],by simp[aZ,b,SL.is,dS],λx e=>by
   rcases qar.1 e with rfl|e
   ·trivial
   ·exact c x e,g,d⟩
 | .b :: ks,v :: vs,h=>by
  obtain⟨⟨n,rfl⟩,f⟩:=h;obtain⟨xs,a,b,c,d⟩:=FitC.sl f;exact⟨.b n :: xs,by simp[a,SL.val],by simp[aZ,b,SL.is],λx e=>by
   rcases qar.1 e with rfl|e
   ·trivial
   ·exact c x e,d⟩
 | .v :: _,_,h=>by cases h
 | [],_ :: _,h=>by cases h
 | .i _ :: _,[],h=>by cases h
 | .b :: _,[],h=>by cases h
def DE(F:TJ->Option (TE)):List Field->Nat->Option (TE)
 | [],_=>some []
 |f :: a,off=>match Nat.beq f.offset off,F f.type with
  |true,some ks=>(DE F a (off+ks.length)).map (ks ++ ·)
  |_,_=>none
def vo(P:TD):Nat->TJ->Option (TE)
 |0,_=>none
 |d+1,t=>match P.underlying t with
  |some (.int k)=>some [.i k]
  |some .bool=>some [.b]
  |some (.struct a)=>match DE (vo P d) a.toList 0 with
   |some ks=>match Nat.beq ks.length (P.cellsOf t)with
    |true=>some ks
    |false=>none
   |none=>none
  |some (.array n e)=>match vo P d e with
   |some ks=>match Nat.beq (P.cellsOf e) ks.length&&Nat.beq (P.cellsOf t) (n*ks.length)with
    |true=>some (List.replicate n ks).flatten
    |false=>none
   |none=>none
  |_=>none
section
variable {H:Type} {enc:TypeId×Value->H} {P:TD}
def kz{α:Type}(l:List α)(c:Nat):l.take (l.take c).length=l.take c:=by
 rw[BN];rcases Vu c l.length with h|h
 ·rw[C1 h]
 ·rw[Rz h,Cg h,Cg (zY _)]
def wQ{F:TJ->Option (TE)}{w:World}{b:Nat}{l:Tt}{c:Bool}{fuel:Nat}
  (j:∀t ks,F t=some ks->∀cs (x:DataW H×List MemPlace),DataW.trod enc P w b l c fuel t cs=some x->x.2=[]/\FitC ks cs/\∀w' d e h',DataW.trod enc P w' d e h' fuel t cs=some x) (cs:Tk) :
  ∀(g:List Field) (off:Nat) (ks:TE) (xs:List (DataW H×List MemPlace)),DE F g off=some ks->g.mapM (λf=>DataW.trod enc P w b l c fuel f.type ((cs.drop f.offset).take (P.cellsOf f.type)))=some xs->
   xs.flatMap (·.2)=[]/\FitC ks ((cs.drop off).take ks.length)/\∀w' d e h',g.mapM (λf=>DataW.trod enc P w' d e h' fuel f.type ((cs.drop f.offset).take (P.cellsOf f.type)))=some xs
 | [],off,ks,xs,h1,a=>by
  simp only[DE,BP]at h1;subst h1;simp only[qdN,qdu,BP]at a;subst a;refine⟨rfl,by simp[FitC],λ_ _ _ _=>by simp⟩
 |f :: g,off,ks,xs,h1,a=>by
  simp only[DE]at h1;split at h1
  next z i r=>
   obtain⟨v,e3,rfl⟩:=qag.1 h1;have i:=AE i;rw[Lx]at a;obtain⟨x,s,a⟩:=qay.1 a;obtain⟨y,u,a⟩:=qay.1 a;cases a;obtain⟨m,h,n⟩:=j _ _ r _ _ s;obtain⟨o,p,q⟩:=wQ j cs g _ v y e3 u;refine⟨by simp[m,o],?_,λw' d e h'=>?_⟩
   ·rw[A5,qdO];refine FitC.app ?_ (by rw[Lw];exact p);have k:=FitC.len h;rw[i]at h k;rw[←k,kz];exact h
   ·rw[Lx,n w' d e h',q w' d e h'];rfl
  ·cases h1
def IK{w:World}{a:Nat}{k:Tt}{b:Bool}{fuel c:Nat}{e:TJ}{ks:TE}(t:c=ks.length)
  (j:∀cs (x:DataW H×List MemPlace),DataW.trod enc P w a k b fuel e cs=some x->x.2=[]/\FitC ks cs/\∀w' d f h',DataW.trod enc P w' d f h' fuel e cs=some x) (cs:Tk) :
  ∀(n:Nat) (xs:List (DataW H×List MemPlace)),(List.range n).mapM (λi=>DataW.trod enc P w a k b fuel e ((cs.drop (i*c)).take c))=some xs->
   xs.flatMap (·.2)=[]/\FitC (List.replicate n ks).flatten (cs.take (n*c))/\∀w' d f h',(List.range n).mapM (λi=>DataW.trod enc P w' d f h' fuel e ((cs.drop (i*c)).take c))=some xs
 |0,xs,h=>by
  simp only[qdY,qdN,qdu,BP]at h;subst h;exact⟨rfl,by simp[FitC],λ_ _ _ _=>by simp⟩
 |n+1,xs,h=>by
  rw[UQ,List.mapM_append]at h;obtain⟨ys,h1,h⟩:=qay.1 h;obtain⟨u,g,h⟩:=qay.1 h;cases h;rw[Lx]at g;obtain⟨z,s,g⟩:=qay.1 g;cases g;obtain⟨l,m,o⟩:=IK t j cs n ys h1;obtain⟨p,q,r⟩:=j _ _ s;refine⟨by simp[l,p],?_,λw' d f h'=>?_⟩
  ·rw[List.replicate_succ',List.flatten_append,C3,H0,qdO];refine FitC.app m ?_;simpa using q
  ·rw[UQ,List.mapM_append,o w' d f h',Lx,r w' d f h'];rfl
def jG:∀(d:Nat) (t:TJ) (ks:TE),vo P d t=some ks->∀(w:World) (b:Nat) (l:Tt) (c:Bool) (fuel:Nat) (cs:Tk) (x:DataW H×List MemPlace),DataW.trod enc P w b l c fuel t cs=some x->
  x.2=[]/\FitC ks cs/\∀w' f g h',DataW.trod enc P w' f g h' fuel t cs=some x
 |0,_,_,h=>by cases h
 |d+1,t,ks,h=>by
  intro w b l c fuel cs x a;simp only[vo]at h;split at h
  next k e=>
   cases h;obtain⟨n,rfl,rfl,y⟩:=DataW.trod_int e a;refine⟨rfl,⟨⟨n,rfl,y⟩,trivial⟩,λw' f g h'=>?_⟩;cases fuel with
   |zero=>simp[DataW.trod]at a
   |succ m=>simp[DataW.trod,e,y]
  next e=>
   cases h;obtain⟨n,rfl,rfl⟩:=DataW.trod_bool e a;refine⟨rfl,⟨⟨n,rfl⟩,trivial⟩,λw' f g h'=>?_⟩;cases fuel with
   |zero=>simp[DataW.trod]at a
   |succ m=>simp[DataW.trod,e]
  next B e=>
   split at h
   next z q=>
    split at h
    next e3=>
     cases h;have e3:=AE e3;cases fuel with
     |zero=>simp[DataW.trod]at a
     |succ m=>
      simp only[DataW.trod,e]at a;split at a
      next j=>
       obtain⟨s,r,rfl⟩:=qag.1 a;obtain⟨o,i,p⟩:=wQ (λt ks h cs x a=>jG d t ks h w b l c m cs x a) cs B.toList 0 ks s q r;rw[F9,Cg (by omega)]at i;refine⟨o,i,λw' f g h'=>?_⟩;simp only[DataW.trod,e,j,if_true];rw[p w' f g h'];rfl
      ·cases a
    ·cases h
   ·cases h
  next n e u=>
   split at h
   next z q=>
    split at h
    next e3=>
     cases h;rw[uc]at e3;have v:=AE e3.1;have A:=AE e3.2;cases fuel with
     |zero=>simp[DataW.trod]at a
     |succ m=>
      simp only[DataW.trod,u]at a;split at a
      next j=>
       obtain⟨s,r,rfl⟩:=qag.1 a;obtain⟨o,i,p⟩:=IK v (λcs x a=>jG d e z q w b l c m cs x a) cs n s r;rw[Cg (by rw[j,A,v];exact zY _)]at i;refine⟨o,i,λw' f g h'=>?_⟩;simp only[DataW.trod,u,j,if_true];rw[p w' f g h'];rfl
      ·cases a
    ·cases h
   ·cases h
  ·cases h
end
section
variable [Val]
end
end Sx
end Go.Am
namespace Go.Am
namespace Sx
def FitL.i{k:TF}{ks:TE}{ls:TB}(h:FitL (.i k :: ks) ls):∃n r,ls = .i n :: r/\(Lit.int k n).wf=true/\FitL ks r:=by
 match ls,h with
 | .i n :: r,h=>exact⟨n,r,rfl,h.1,h.2⟩
def FitL.b{ks:TE}{ls:TB}(h:FitL (.b :: ks) ls):∃n r,ls = .b n :: r/\FitL ks r:=by
 match ls,h with
 | .b n :: r,h=>exact⟨n,r,rfl,h⟩
def FitL.nil{ls:TB}(h:FitL [] ls):ls=[]:=by
 match ls,h with
 | [],_=>rfl
def D5{n:Int}(h:(Lit.int .u8 n).wf=true):0<=n/\n<=255:=by
 simp only[Lit.wf,uc,BF]at h;exact h
def pr{H:Type}{enc:TypeId×Value->H}{P:TD}{w:World}{a:Nat}{f:Tt}{b:Bool}:∀ {c:List TypeId} {vs:Tk} {ds:List (DataW H)} {e:List MemPlace},DataW.TrodAll enc P w a f b c vs ds e->ds.length=c.length
 | [],[],[],_,_=>rfl
 |_ :: _,_ :: _,_ :: _,_,h=>by
  obtain⟨p,q,_,d,_⟩:=h;simp[pr d]
 | [],_ :: _,_,_,h=>by cases h
 | [],[],_ :: _,_,h=>by cases h
 |_ :: _,[],_,_,h=>by cases h
 |_ :: _,_ :: _,[],_,h=>by cases h
end Sx
namespace Sx
open Go.ChangeShapes Go.WideShapes Go.ChangeAt Go.WideMaps Go.WideElems Go.RowKit
inductive CK2 where
 |i (k:TF)
 |b
 |s (ks:TE)
def CK2.lk:CK2->LK
 | .i k=>.i k
 | .b=>.b
 | .s _=>.v
def P6(w:World)(ks:TE)(v:Value):Prop:=
 v = .slice none 0 0∨∃(a:Addr) (len cap:Nat) (c:Tj) (t:TJ) (fr:Nat×Nat) (b:Tk),v = .slice (some a) len cap/\a.spot=none/\len<=cap/\cap<=maxLen/\
  w.heap[a.block]?=some (.cells c t fr)/\(cap=0∨a.off+cap*ks.length<=c.size)/\b.length=len*ks.length/\(∀(i:Nat) v,b[i]?=some v->c[a.off+i]?=some v)/\
  ∀i,i<len->FitC ks ((b.drop (i*ks.length)).take ks.length)
def EY(w:World):CK2->Value->Prop
 | .i k,v=>∃n,v = .int k n/\(Lit.int k n).wf=true
 | .b,v=>∃t,v = .bool t
 | .s ks,v=>P6 w ks v
def dN(w:World):List CK2->Tk->Prop
 | [],[]=>True
 |k :: ks,v :: vs=>EY w k v/\dN w ks vs
 |_,_=>False
def bq(h:HL):List CK2->TB->Prop
 | [],[]=>True
 | .i k :: ks,.i n :: ls=>(Lit.int k n).wf=true/\bq h ks ls
 | .b :: ks,.b _ :: ls=>bq h ks ls
 | .s c :: ks,.v x :: ls=>(∃n a,SlC h x c.length n a/\n<=maxLen/\∀i,i<n->FitC c ((a.drop (i*c.length)).take c.length))/\bq h ks ls
 |_,_=>False
def dN.len{w:World}:∀ {ks:List CK2} {vs:Tk},dN w ks vs->vs.length=ks.length
 | [],[],_=>rfl
 |_ :: _,_ :: _,h=>by simp[dN.len h.2]
 | [],_ :: _,h=>by cases h
 |_ :: _,[],h=>by cases h
def dN.app{w:World}:∀ {ks a:List CK2} {vs b:Tk},dN w ks vs->dN w a b->dN w (ks++a) (vs++b)
 | [],_,[],_,_,h=>h
 |_ :: _,_,_ :: _,_,h,h'=>⟨h.1,dN.app h.2 h'⟩
 | [],_,_ :: _,_,h,_=>by cases h
 |_ :: _,_,[],_,h,_=>by cases h
def bq.app{h:HL}:∀ {ks a:List CK2} {vs c:TB},bq h ks vs->bq h a c->bq h (ks++a) (vs++c)
 | [],_,[],_,_,h=>h
 | .i _ :: ks,_,.i _ :: _,_,h,h'=>⟨h.1,bq.app (ks:=ks) h.2 h'⟩
 | .b :: ks,_,.b _ :: _,_,h,h'=>bq.app (ks:=ks) h h'
 | .s _ :: ks,_,.v _ :: _,_,h,h'=>⟨h.1,bq.app (ks:=ks) h.2 h'⟩
 | [],_,_ :: _,_,h,_=>by cases h
 | .i _ :: _,_,[],_,h,_=>by cases h
 | .b :: _,_,[],_,h,_=>by cases h
 | .s _ :: _,_,[],_,h,_=>by cases h
 | .i _ :: _,_,.b _ :: _,_,h,_=>by cases h
 | .i _ :: _,_,.v _ :: _,_,h,_=>by cases h
 | .b :: _,_,.i _ :: _,_,h,_=>by cases h
 | .b :: _,_,.v _ :: _,_,h,_=>by cases h
 | .s _ :: _,_,.i _ :: _,_,h,_=>by cases h
 | .s _ :: _,_,.b _ :: _,_,h,_=>by cases h
def Xr(F:TJ->Option (List CK2)):List Field->Nat->Option (List CK2)
 | [],_=>some []
 |f :: a,off=>match Nat.beq f.offset off,F f.type with
  |true,some ks=>(Xr F a (off+ks.length)).map (ks ++ ·)
  |_,_=>none
def kby:LK->Nat
 | .i .i64=>8
 |_=>0
def kbs:TE->Nat
 | []=>0
 |k :: ks=>kby k+kbs ks
def Nz:TE->Option (List CK2)
 | []=>some []
 | .i k :: ks=>(Nz ks).map (.i k :: ·)
 | .b :: ks=>(Nz ks).map (.b :: ·)
 | .v :: _=>none
def vd{w:World}:∀ {ks:TE} {cs:Tk} {c2:List CK2},Nz ks=some c2->FitC ks cs->dN w c2 cs
 | [],[],_,h,_=>by cases h;exact trivial
 | .i k :: ks,v :: vs,_,h,a=>by
  obtain⟨l,h1,rfl⟩:=qag.1 h;exact⟨a.1,vd h1 a.2⟩
 | .b :: ks,v :: vs,_,h,a=>by
  obtain⟨l,h1,rfl⟩:=qag.1 h;exact⟨a.1,vd h1 a.2⟩
 | .v :: _,_,_,h,_=>by cases h
 | [],_ :: _,_,_,a=>by cases a
 | .i _ :: _,[],_,_,a=>by cases a
 | .b :: _,[],_,_,a=>by cases a
def Xs(P:TD):Nat->TJ->Option (List CK2)
 |0,_=>none
 |d+1,t=>match P.underlying t with
  |some (.int k)=>some [.i k]
  |some .bool=>some [.b]
  |some (.slice e)=>match vo P 20 e with
   |some ks=>match Nat.beq (P.cellsOf e) ks.length&&Nat.blt 0 ks.length&&Nat.ble (kbs ks) (P.bytesOf e)with
    |true=>some [.s ks]
    |false=>none
   |none=>none
  |some (.struct a)=>match Xr (Xs P d) a.toList 0 with
   |some ks=>match Nat.beq ks.length (P.cellsOf t)with
    |true=>some ks
    |false=>none
   |none=>none
  |some (.array _ _)=>match vo P 20 t with
   |some ks=>Nz ks
   |none=>none
  |_=>none
section
variable {H:Type} {enc:TypeId×Value->H} {P:TD}
def GG(w:World)(v:Value):Prop:=∀a len cap,v = .slice (some a) len cap->a.spot=none/\∃c t fr,w.heap[a.block]?=some (.cells c t fr)
def jm{α β:Type}{f g:α->Option β}:∀ {l:List α},(∀x∈l,f x=g x)->l.mapM f=l.mapM g
 | [],_=>rfl
 |a :: l,h=>by
  rw[Lx,Lx,h a Ch,jm λx b=>h x (Bo _ b)]
def bW{a:Addr}(h:a.spot=none)(i:Nat):a.add i=⟨a.block,a.off+i,none⟩:=by
 obtain⟨b,o,s⟩:=a;cases h;unfold Addr.add;simp
def LV{w:World}{t e:TJ}{ks:TE}(ht:P.underlying t=some (.slice e))(he:vo P 20 e=some ks)(U:P.cellsOf e=ks.length)(h0:0<ks.length){A:Nat}(D:A=0){g:Bool}{fuel:Nat}{cs:Tk}{x:DataW H×List MemPlace}
  (hx:DataW.trod enc P w A (λ_=>true) g fuel t cs=some x) (hl:∀v∈cs,GG w v) :
  ∃v,cs=[v]/\P6 w ks v/\∀(w':World) (I:Tt),(∀b,b<w.heap.size->w'.heap[b]?=w.heap[b]?)->(∀b,b<w.heap.size->I b=true)->DataW.trod enc P w' A I g fuel t cs=some x:=by
 subst D;have C:=hx;rcases DataW.trod_slice ht hx with⟨rfl,rfl⟩|⟨a,d,f,k,p,n,rfl,rfl,rfl,hb,G,hm,M,L,Z,_⟩
 ·refine⟨_,rfl,.inl rfl,λw' I _ _=>?_⟩;cases fuel with
  |zero=>simp[DataW.trod]at hx
  |succ m=>simp[DataW.trod,ht]
 ·obtain⟨X,c,t',fr,u⟩:=hl _ Ch a d f rfl;obtain⟨ag,hr⟩:=Z rfl;rw[U]at L hr;have N:a.block<w.heap.size:=by
   rcases Bi a.block w.heap.size with h|h
   ·exact h
   ·rw[Rr h]at u;cases u
  have r:∀i,i<f->∃o y,w.cells? 0 (a.add (i*ks.length)) ks.length=some o/\DataW.trod enc P w 0 (λ_=>true) g n e o=some y/\(k++p)[i]?=some y:=by
   intro i B;by_cases s:i<d
   ·have q:=L i s;have z:k[i]?=some k[i]:=A4 (by omega);rw[z]at q;obtain⟨o,S,T⟩:=qay.1 q;exact⟨o,_,S,T,by rw[BE (by omega)];exact z⟩
   ·have q:=hr (i - d) (by omega);rw[show d+(i - d)=i by omega]at q;have z:p[i - d]?=some (p[i - d]'(by omega)):=A4 (by omega);rw[z]at q;obtain⟨o,S,T⟩:=qay.1 q;exact⟨o,_,S,T,by rw[Cd (by omega),M];exact z⟩
  have rd:∀i,i<f->∀j,j<ks.length->∀o,w.cells? 0 (a.add (i*ks.length)) ks.length=some o->c[a.off+i*ks.length+j]?=o[j]?:=by
   intro i B j F o V;have s:=(World.cells?_some V).2.2 j F;rw[bW X,bW rfl]at s;rw[←s];unfold World.cell?;simp[u]
  have O:f=0∨a.off+f*ks.length<=c.size:=by
   by_cases K:f=0
   ·exact .inl K
   ·right;obtain⟨o,y,s,_,_⟩:=r (f - 1) (by omega);have q:=rd (f - 1) (by omega) (ks.length - 1) (by omega) o s;have W:=(World.cells?_some s).2.1;rw[A4 (by omega)]at q;have z:=(qaP.1 q).1;have S:f*ks.length=(f - 1)*ks.length+ks.length:=by
     rw[←Nat.succ_mul];congr 1;omega
    omega
  have Q:a.off+d*ks.length<=c.size∨d=0:=by
   rcases O with h|h
   ·right;omega
   ·left;have:=LB ks.length G;omega
  refine⟨_,rfl,.inr ⟨a,d,f,c,t',fr,(c.toList.drop a.off).take (d*ks.length),rfl,X,G,hm,u,O,?_,?_,?_⟩,?_⟩
  ·rw[BN,MM];have ad:c.toList.length=c.size:=qdp;rcases Q with h|h
   ·omega
   ·subst h;omega
  ·intro i v R;rw[Iw]at R;split at R
   ·rw[HY]at R;simpa using R
   ·cases R
  ·intro i B;obtain⟨o,y,s,q,_⟩:=r i (by omega);obtain⟨_,z,_⟩:=jG 20 e ks he w 0 _ g n o y q;have W:=(World.cells?_some s).2.1;have:(((c.toList.drop a.off).take (d*ks.length)).drop (i*ks.length)).take ks.length=o:=by
    apply Ga;intro j;by_cases F:j<ks.length
    ·have af:i*ks.length+ks.length<=d*ks.length:=by
      have:=LB ks.length (show i+1<=d by omega);rw[C3,H0]at this;exact this
     rw[Iw,mc F,HY,Iw,mc (by omega),HY,←rd i (by omega) j F o s];rw[qc9,EK]
    ·rw[Bd (by rw[BN];omega),Bd (by omega)]
   rw[this];exact z
  ·intro w' I hw Y;have E:∀i,i<f->w'.cells? 0 (a.add (i*ks.length)) ks.length=w.cells? 0 (a.add (i*ks.length)) ks.length:=by
    intro i B;unfold World.cells?;have:∀j,w'.cell? ((a.add (i*ks.length)).add j)=w.cell? ((a.add (i*ks.length)).add j):=by
     intro j;rw[bW X,bW rfl];unfold World.cell?;rw[hw _ N]
    simp only[this]
   have el:∀i,i<f->(w'.cells? 0 (a.add (i*P.cellsOf e)) (P.cellsOf e)).bind (DataW.trod enc P w' 0 I g n e)=(k++p)[i]?:=by
    intro i B;rw[U,E i B];obtain⟨o,y,s,q,z⟩:=r i B;rw[s,z,AP];exact(jG 20 e ks he w 0 _ g n o y q).2.2 w' 0 I g
   have J:∀i,i<f->(w.cells? 0 (a.add (i*P.cellsOf e)) (P.cellsOf e)).bind (DataW.trod enc P w 0 (λ_=>true) g n e)=(k++p)[i]?:=by
    intro i B;rw[U];obtain⟨o,y,s,q,z⟩:=r i B;rw[s,z,AP];exact q
   unfold DataW.trod at C ⊢;simp only[ht]at C ⊢;rw[mc ⟨AM _,G,hm⟩]at C ⊢;rw[jm (λi B=>(el i (by have:=qad.1 B;omega)).trans (J i (by have:=qad.1 B;omega)).symm)];rw[jm (l:=List.range (f - d)) (λj F=>(el (d+j) (by have:=qad.1 F;omega)).trans (J (d+j) (by have:=qad.1 F;omega)).symm)];rw[Y _ N];exact C
def I9{F:TJ->Option (List CK2)}{w:World}{a:Bool}{fuel:Nat}(cs:Tk)(g:∀v∈cs,GG w v)
  (k:∀t ks,F t=some ks->∀cs (x:DataW H×List MemPlace),(∀v∈cs,GG w v)->DataW.trod enc P w 0 (λ_=>true) a fuel t cs=some x->dN w ks cs/\∀(w':World) (d:Tt),(∀b,b<w.heap.size->w'.heap[b]?=w.heap[b]?)->(∀b,b<w.heap.size->d b=true)->DataW.trod enc P w' 0 d a fuel t cs=some x) :
  ∀(e:List Field) (off:Nat) (ks:List CK2) (xs:List (DataW H×List MemPlace)),Xr F e off=some ks->e.mapM (λf=>DataW.trod enc P w 0 (λ_=>true) a fuel f.type ((cs.drop f.offset).take (P.cellsOf f.type)))=some xs->
   dN w ks ((cs.drop off).take ks.length)/\∀(w':World) (d:Tt),(∀b,b<w.heap.size->w'.heap[b]?=w.heap[b]?)->(∀b,b<w.heap.size->d b=true)->e.mapM (λf=>DataW.trod enc P w' 0 d a fuel f.type ((cs.drop f.offset).take (P.cellsOf f.type)))=some xs
 | [],off,ks,xs,h1,c=>by
  simp only[Xr,BP]at h1;subst h1;simp only[qdN,qdu,BP]at c;subst c;refine⟨by simp[dN],λ_ _ _ _=>by simp⟩
 |f :: e,off,ks,xs,h1,c=>by
  simp only[Xr]at h1;split at h1
  next z j p=>
   obtain⟨u,e3,rfl⟩:=qag.1 h1;have j:=AE j;rw[Lx]at c;obtain⟨x,q,c⟩:=qay.1 c;obtain⟨y,r,c⟩:=qay.1 c;cases c;obtain⟨i,m⟩:=k _ _ p _ _ (λv s=>g v (LA (Iv s))) q;obtain⟨n,o⟩:=I9 cs g k e _ u y e3 r;refine⟨?_,λw' d l h=>?_⟩
   ·rw[A5,qdO];refine dN.app ?_ (by rw[Lw];exact n);have g:=dN.len i;rw[j]at i g;rw[←g,kz];exact i
   ·rw[Lx,m w' d l h,o w' d l h];rfl
  ·cases h1
def Ja:∀(d:Nat) (t:TJ) (ks:List CK2),Xs P d t=some ks->∀(w:World) (a:Bool) (fuel:Nat) (cs:Tk) (x:DataW H×List MemPlace),(∀v∈cs,GG w v)->DataW.trod enc P w 0 (λ_=>true) a fuel t cs=some x->
  dN w ks cs/\∀(w':World) (f:Tt),(∀b,b<w.heap.size->w'.heap[b]?=w.heap[b]?)->(∀b,b<w.heap.size->f b=true)->DataW.trod enc P w' 0 f a fuel t cs=some x
 |0,_,_,h=>by cases h
 |d+1,t,ks,h=>by
  intro w a fuel cs x o c;simp only[Xs]at h;split at h
  next k e=>
   cases h;obtain⟨n,rfl,rfl,p⟩:=DataW.trod_int e c;refine⟨⟨⟨n,rfl,p⟩,trivial⟩,λw' f _ _=>?_⟩;cases fuel with
   |zero=>simp[DataW.trod]at c
   |succ m=>simp[DataW.trod,e,p]
  next e=>
   cases h;obtain⟨n,rfl,rfl⟩:=DataW.trod_bool e c;refine⟨⟨⟨n,rfl⟩,trivial⟩,λw' f _ _=>?_⟩;cases fuel with
   |zero=>simp[DataW.trod]at c
   |succ m=>simp[DataW.trod,e]
  next e s=>
   split at h
   next z j=>
    split at h
    next e3=>
     cases h;simp only[uc,BH]at e3;obtain⟨v,rfl,g,i⟩:=LV s j (AE e3.1.1) e3.1.2 rfl c o;exact⟨⟨g,trivial⟩,i⟩
    ·cases h
   ·cases h
  next u e=>
   split at h
   next z j=>
    split at h
    next e3=>
     cases h;have e3:=AE e3;cases fuel with
     |zero=>simp[DataW.trod]at c
     |succ m=>
      simp only[DataW.trod,e]at c;split at c
      next l=>
       obtain⟨A,y,rfl⟩:=qag.1 c;obtain⟨g,i⟩:=I9 cs o (λt ks h cs x o c=>Ja d t ks h w a m cs x o c) u.toList 0 ks A j y;rw[F9,Cg (by omega)]at g;refine⟨g,λw' f p q=>?_⟩;simp only[DataW.trod,e,l,if_true];rw[i w' f p q];rfl
      ·cases c
    ·cases h
   ·cases h
  ·split at h
   next r j=>
    obtain⟨_,g,i⟩:=jG 20 t r j w 0 _ a fuel cs x c;exact⟨vd h g,λw' f _ _=>i w' 0 f a⟩
   ·cases h
  ·cases h
abbrev BQ:=HObj×Option Pl
def sY(w:World)(b:BQ):Prop:=b.1 = .dead∨∃vs e p c t fr,b.1 = .cells vs e false/\b.2=some p/\p.esz=e/\vs.all flat=true/\vs.all bf=true/\vs.length<=p.room/\w.heap[p.b]?=some (.cells c t fr)/\c.size=p.o+p.room/\∀(i:Nat) v,vs[i]?=some v->c[p.o+i]?=some v
def nP:∀ {ks:TE} {vs:Tk},FitC ks vs->vs.all flat=true/\vs.all bf=true
 | [],[],_=>⟨rfl,rfl⟩
 | .i k :: ks,v :: vs,h=>by
  obtain⟨⟨n,rfl,_⟩,c⟩:=h;obtain⟨a,b⟩:=nP c;exact⟨by simp[a,flat,fF,scalar],by simp[b];rfl⟩
 | .b :: ks,v :: vs,h=>by
  obtain⟨⟨n,rfl⟩,c⟩:=h;obtain⟨a,b⟩:=nP c;exact⟨by simp[a,flat,fF,scalar],by simp[b];rfl⟩
 | .v :: _,_,h=>by cases h
 | [],_ :: _,h=>by cases h
 | .i _ :: _,[],h=>by cases h
 | .b :: _,[],h=>by cases h
def vc{ks:TE}(l:0<ks.length){c:Tk}{n:Nat}(s:c.length=n*ks.length)(h:∀i,i<n->FitC ks ((c.drop (i*ks.length)).take ks.length)):c.all flat=true/\c.all bf=true:=by
 have f:∀j,j<c.length->∃v,c[j]?=some v/\flat v=true/\bf v=true:=by
  intro j e;have g:j / ks.length<n:=by
   rw[Nat.div_lt_iff_lt_mul l];omega
  obtain⟨a,b⟩:=nP (h _ g);have q:=H3 j l;have p:=Nat.div_add_mod j ks.length;have d:((c.drop (j / ks.length*ks.length)).take ks.length)[j%ks.length]?=some c[j]:=by
   rw[Iw,mc q,HY];rw[show j / ks.length*ks.length+j%ks.length=j by rw[Nat.mul_comm];exact p];exact A4 e
  exact⟨_,A4 e,qab.1 a _ (Af d),qab.1 b _ (Af d)⟩
 constructor<;>
 ·rw[qab];intro v r;obtain⟨j,e⟩:=Dd r;have k:j<c.length:=by
   rcases Bi j c.length with h|h
   ·exact h
   ·rw[Bd h]at e;cases e
  obtain⟨t,g,m,o⟩:=f j k;rw[e]at g;cases g
  first|exact m|exact o
section
variable [Val] [Glo]
def I8{w:World}{p:CK2}{v:Value}(e:∀ks,p = .s ks->0<ks.length)(h:EY w p v)(n0:Nat):∃(x:SL) (A:List BQ),(∀b∈A,sY w b)/\x.is p.lk=true/\x.good/\
  (∀mu:kl,(∀(i:Nat) b,A[i]?=some b->mu (n0+i)=b.2)->VR Az mu x.val v)/\∀e:HL,(∀(i:Nat) b,A[i]?=some b->e[n0+i]?=some (.o b.1))->bq e [p] [x.lf]:=by
 cases p with
 |i k=>
  obtain⟨n,rfl,N⟩:=h;exact⟨.i k n,[],by simp,by simp[SL.is,CK2.lk,dS],trivial,λmu _=>.scalar rfl,λe _=>⟨N,trivial⟩⟩
 |b=>
  obtain⟨t,rfl⟩:=h;exact⟨.b t,[],by simp,rfl,trivial,λmu _=>.scalar rfl,λe _=>trivial⟩
 |s ks=>
  have J:=e ks rfl;rcases h with rfl|⟨a,len,cap,c,t,E,d,rfl,L,y,Q,f,z,m,u,j⟩
  ·refine⟨.v (.slice none 0 0),[],by simp,rfl,rfl,λmu _=>.scalar rfl,λe _=>⟨⟨0,[],⟨by simp,.inl ⟨rfl,rfl⟩⟩,AM _,λi O=>by omega⟩,trivial⟩⟩
  ·obtain⟨C,D⟩:=vc J m j;have F:aB (.slice (some ⟨n0,0,pu ks.length⟩) len 0)=true:=by simp[aB,noLoc,aP,bg,aW,aG,aw,pu]
   have I:a=⟨a.block,a.off,none⟩:=by cases a;cases L;rfl
   have q:∀e:HL,e[n0]?=some (.o (.cells d ks.length false))->bq e [.s ks] [.v (.slice (some ⟨n0,0,pu ks.length⟩) len 0)]:=λe l=>
    ⟨⟨len,d,⟨m,.inr ⟨n0,0,0,d,false,rfl,l,cut_all m⟩⟩,by omega,j⟩,trivial⟩
   by_cases g:cap=0
   ·subst g;obtain rfl:len=0:=by omega
    have B:d=[]:=List.eq_nil_of_length_eq_zero (by omega);subst B;refine⟨.v (.slice (some ⟨n0,0,pu ks.length⟩) 0 0),[(.cells [] ks.length false,some ⟨a.block,c.size,0,ks.length⟩)],λb r=>?_,rfl,F,λmu _=>.hslice0 (AM _),λe l=>q e (l 0 _ rfl)⟩;simp only[qav]at r;subst r;exact .inr ⟨[],ks.length,_,c,t,E,rfl,rfl,rfl,rfl,rfl,AM _,f,by simp,λi v M=>by simp at M⟩
   ·have z:a.off+cap*ks.length<=c.size:=z.resolve_left g;have K:=LB ks.length y;refine⟨.v (.slice (some ⟨n0,0,pu ks.length⟩) len 0),[(.cells d ks.length false,some ⟨a.block,a.off,c.size - a.off,ks.length⟩)],λb r=>?_,rfl,F,λmu l=>?_,λe l=>q e (l 0 _ rfl)⟩
    ·simp only[qav]at r;subst r;exact .inr ⟨d,ks.length,_,c,t,E,rfl,rfl,rfl,C,D,by show d.length<=c.size - a.off;omega,f,by show c.size=a.off+(c.size - a.off);omega,u⟩
    ·have G:=l 0 _ rfl;rw[I];have:=VR.hslice (la:=Az) (mu:=mu) (id:=n0) (off:=0) (len:=len) (cap:=cap) (cx:=0) G (by show 0+cap*ks.length<=c.size - a.off;omega) y (.inl rfl);exact this
def tu{w:World}:∀ {a:List CK2} {vs:Tk},(∀ks,CK2.s ks∈a->0<ks.length)->dN w a vs->∀n0,∃(xs:List SL) (c:List BQ),(∀b∈c,sY w b)/\aZ xs (a.map CK2.lk)=true/\(∀x∈xs,x.good)/\xs.length=vs.length/\
  (∀mu:kl,(∀(i:Nat) b,c[i]?=some b->mu (n0+i)=b.2)->VRs Az mu (xs.map SL.val) vs)/\∀d:HL,(∀(i:Nat) b,c[i]?=some b->d[n0+i]?=some (.o b.1))->bq d a (xs.map SL.lf)
 | [],[],_,_,n0=>⟨[],[],by simp,rfl,by simp,rfl,λmu _=>⟨rfl,λi x y h=>by simp at h⟩,λd _=>trivial⟩
 |O :: a,v :: vs,d,h,n0=>by
  obtain⟨x,c,A,B,C,D,E⟩:=I8 (λks e=>d ks (by rw[e];exact Ch)) h.1 n0;obtain⟨xs,j,F,G,I,J,K,L⟩:=tu (λks e=>d ks (Bo _ e)) h.2 (n0+c.length);have z:∀ {α:Type} {f:Nat->α} {g:BQ->α},(∀(i:Nat) b,(c++j)[i]?=some b->f (n0+i)=g b)->(∀(i:Nat) b,c[i]?=some b->f (n0+i)=g b)/\∀(i:Nat) b,j[i]?=some b->f (n0+c.length+i)=g b:=by
   intro α f g h;refine⟨λi b k=>h i b ?_,λi b k=>?_⟩
   ·rw[BE (by
     rcases Bi i c.length with h|h
     ·exact h
     ·rw[Bd h]at k;cases k)];exact k
   ·rw[EK];refine h _ b ?_;rw[Cd (by omega),qcF];exact k
  refine⟨x :: xs,c++j,λb k=>?_,by simp[aZ,B,G],λy u=>?_,by simp[J],λmu t=>?_,λd N=>?_⟩
  ·rcases qas.1 k with h|h
   ·exact A b h
   ·exact F b h
  ·rcases qar.1 u with rfl|u
   ·exact C
   ·exact I y u
  ·obtain⟨l,m⟩:=z (f:=mu) (g:=λb=>b.2) t;have M:=D mu l;obtain⟨c2,c3⟩:=K mu m;refine⟨by simpa using c2,λi p q n r=>?_⟩;cases i with
   |zero=>
    simp only[AL,UH,BP]at n r;subst n r;exact M
   |succ i=>exact c3 i p q (by simpa using n) (by simpa using r)
  ·obtain⟨l,m⟩:=z (f:=λi=>d[i]?) (g:=λb=>some (HO.o b.1)) N;exact bq.app (E d l) (L d m)
 | [],_ :: _,_,h,_=>by cases h
 |_ :: _,[],_,h,_=>by cases h
end
end
end Sx
namespace Sx
open Go.ChangeShapes Go.WideShapes Go.ChangeAt Go.WideMaps Go.WideElems Go.RowKit
section
variable {H:Type} {enc:TypeId×Value->H} {P:TD}
def og{w:World}{r:Reach}{k:Nat}{u:TJ}{v:Value}(h:Cell.okWide P w r k u v):GG w v:=by
 rintro a p d rfl;have n:∃e,w.has P r k a e d:=by
  unfold Cell.okWide at h;split at h<;>first|(rename_i b g;cases g;done)|(rename_i b;cases b;done)|skip
  all_goals
   unfold Cell.ok at h;split at h<;>first|(cases h;done)|(rename_i b g;cases g;done)|skip
   all_goals first|(rename_i j;injection j with q s t;subst s t;cases q;exact⟨_,h.2.2⟩)|skip
 obtain⟨e,_,o,x,f,i,_⟩:=n;refine⟨o,?_⟩;unfold World.shape? at i;split at i
 next c l m b=>
  exact⟨c,l,m,b⟩
 ·cases i
def Ko{w:World}{r:Reach}{j:Nat}{t:TJ}{v:Value}(h:Value.okWide P w r j t v):∀x∈v.cells.toList,GG w x:=by
 intro x g;unfold Value.okWide at h;split at h
 ·obtain⟨a,rfl,_,k,_,_,d⟩:=h;obtain⟨i,f⟩:=Dd g;obtain⟨u,_,e⟩:=d i x (by simpa[Value.cells]using f);exact og e
 ·obtain⟨a,rfl,_,k,_,_,d⟩:=h;obtain⟨i,f⟩:=Dd g;obtain⟨u,_,e⟩:=d i x (by simpa[Value.cells]using f);exact og e
 ·have:x=v∨∃a,v = .agg a:=by
   cases v<;>first|(right;exact⟨_,rfl⟩)|(left;simpa[Value.cells]using g)
  rcases this with rfl|⟨a,rfl⟩
  ·exact og h
  ·exfalso;unfold Cell.okWide at h;split at h<;>first|(rename_i b c;cases c;done)|(rename_i b;cases b;done)|skip
   all_goals
    unfold Cell.ok at h;split at h<;>first|(cases h;done)|(rename_i b c;cases c;done)|skip
def skC(P:TD)(t:TJ)(a:List CK2):Option SK:=
 match P.underlying t,a with
 |some (.struct _),a=>some (.agg (a.map CK2.lk))
 |some (.array _ _),a=>some (.agg (a.map CK2.lk))
 |some (.int _),[k]=>some (.leaf k.lk)
 |some .bool,[k]=>some (.leaf k.lk)
 |some (.slice _),[k]=>some (.leaf k.lk)
 |_,_=>none
def UC(a:List CK2):Bool:=a.all λk=>match k with
 | .s b=>Nat.blt 0 b.length
 |_=>true
def Pn{a:List CK2}(h:UC a=true):∀ks,CK2.s ks∈a->0<ks.length:=by
 intro ks b;have:=qab.1 h _ b;simpa[BH]using this
section
variable [Val] [Glo]
structure Abs(W:World)(n0:Nat)(bl:List BQ):Prop where
 ok:∀b∈bl,sY W b
abbrev IF(mu:kl)(n0:Nat)(a:List BQ):Prop:=∀(i:Nat) b,a[i]?=some b->mu (n0+i)=b.2
abbrev MV(c:HL)(n0:Nat)(a:List BQ):Prop:=∀(i:Nat) b,a[i]?=some b->c[n0+i]?=some (.o b.1)
abbrev E1(W a:World):Prop:=∀b,b<W.heap.size->a.heap[b]?=W.heap[b]?
def zg{W:World}{r:Reach}{a:Nat}{t:TJ}{n:Nat}{e:TJ}{v:Value}(c:P.underlying t=some (.array n e))(h:Value.okWide P W r a t v):∃cs,v = .agg cs:=by
 simp only[Value.okWide,c]at h;obtain⟨cs,b,_⟩:=h;exact⟨cs,b⟩
def HK{W:World}{r:Reach}{b0:Nat}{c:Bool}{t:TJ}{g:List CK2}{D:SK}{v:Value}{d:DataW H}{C:List MemPlace}(h:Xs P 20 t=some g)(f:skC P t g=some D)(A:UC g=true)(a:Value.okWide P W r b0 t v)(hd:DataW.Trod enc P W 0 (λ_=>true) c t v d C)(n0:Nat) :
  ∃(x:S0) (m:List BQ),(∀b∈m,sY W b)/\x.is D=true/\x.good/\(∀mu:kl,IF mu n0 m->VR Az mu x.val v)/\(∀p:HL,MV p n0 m->bq p g (x.cells.map SL.lf))/\
   ∀(s:World) (u:Tt),E1 W s->(∀b,b<W.heap.size->u b=true)->DataW.Trod enc P s 0 u c t v d C:=by
 obtain⟨w,hf⟩:=hd;obtain⟨E,Z⟩:=Ja 20 t g h W c w _ _ (Ko a) hf;obtain⟨S,m,F,G,I,T,B,J⟩:=tu (Pn A) E n0;have j:∀(s:World) (u:Tt),E1 W s->(∀b,b<W.heap.size->u b=true)->DataW.Trod enc P s 0 u c t v d C:=λs u X h2=>⟨w,Z s u X h2⟩;have q:(∀V,P.underlying t≠some (.struct V))->(∀n e,P.underlying t≠some (.array n e))->∀k,g=[k]->D = .leaf k.lk->∃(x:S0) (m:List BQ),(∀b∈m,sY W b)/\x.is D=true/\x.good/\(∀mu:kl,IF mu n0 m->VR Az mu x.val v)/\(∀p:HL,MV p n0 m->bq p g (x.cells.map SL.lf))/\
   ∀(s:World) (u:Tt),E1 W s->(∀b,b<W.heap.size->u b=true)->DataW.Trod enc P s 0 u c t v d C:=by
  rintro N O k rfl rfl;have hv:v.cells.toList=[v]:=by
   have X:=dN.len E;cases v with
   |agg U=>
    exfalso;unfold Value.okWide at a;split at a
    next e=>exact N _ e
    next e=>exact O _ _ e
    ·unfold Cell.okWide at a;split at a<;>first|(rename_i L M;cases M;done)|(rename_i L;cases L;done)|skip
     all_goals
      unfold Cell.ok at a;split at a<;>first|(cases a;done)|(rename_i L M;cases M;done)|skip
   |_=>simp[Value.cells]
  rw[hv]at E T B;obtain⟨x,rfl⟩ : ∃x,S=[x]:=List.length_eq_one_iff.1 T;refine⟨.leaf x,m,F,?_,λl Y=>?_,λmu o=>?_,λp z=>J p z,j⟩
  ·show x.is k.lk=true;simpa[aZ]using G
  ·simp only[S0.cells,qav]at Y;subst Y;exact I _ Ch
  ·exact(B mu o).2 0 _ _ rfl rfl
 unfold skC at f;split at f
 next V e=>
  cases f;obtain⟨U,rfl,_⟩:=okWide_struct e a;refine⟨.agg S,m,F,G,I,λmu o=>?_,λp z=>J p z,j⟩;obtain⟨K,c2⟩:=B mu o;refine .agg (by simpa[Value.cells]using K) λi x y Q R=>c2 i x y (by simpa using Q) (by simpa[Value.cells]using R)
 next n' e' e=>
  cases f;obtain⟨U,rfl⟩:=zg e a;refine⟨.agg S,m,F,G,I,λmu o=>?_,λp z=>J p z,j⟩;obtain⟨K,c2⟩:=B mu o;refine .agg (by simpa[Value.cells]using K) λi x y Q R=>c2 i x y (by simpa using Q) (by simpa[Value.cells]using R)
 next k e=>cases f;exact q (λ_ h=>by rw[e]at h;cases h) (λ_ _ h=>by rw[e]at h;cases h) _ rfl rfl
 next e=>cases f;exact q (λ_ h=>by rw[e]at h;cases h) (λ_ _ h=>by rw[e]at h;cases h) _ rfl rfl
 next e' e=>cases f;exact q (λ_ h=>by rw[e]at h;cases h) (λ_ _ h=>by rw[e]at h;cases h) _ rfl rfl
 ·cases f
def RW(P:TD):List TypeId->Option (List (List CK2)×List SK)
 | []=>some ([],[])
 |t :: c=>match Xs P 20 t,RW P c with
  |some a,some (l,sks)=>match skC P t a,UC a with
   |some b,true=>some (a :: l,b :: sks)
   |_,_=>none
  |_,_=>none
def IM{α:Type}{d a:List BQ}{f:Nat->α}{g:BQ->α}{n0:Nat}(h:∀(i:Nat) b,(d++a)[i]?=some b->f (n0+i)=g b):(∀(i:Nat) b,d[i]?=some b->f (n0+i)=g b)/\∀(i:Nat) b,a[i]?=some b->f (n0+d.length+i)=g b:=by
 refine⟨λi b c=>h i b ?_,λi b c=>?_⟩
 ·rw[BE (by
   rcases Bi i d.length with h|h
   ·exact h
   ·rw[Bd h]at c;cases c)];exact c
 ·rw[EK];refine h _ b ?_;rw[Cd (by omega),qcF];exact c
def qp{W:World}{r:Reach}{N:Nat}{e:Bool}:∀(n:List TypeId) (l:List (List CK2)) (sks:TH) (vs:Tk) (ds:List (DataW H)) (z:List MemPlace) (n0:Nat),RW P n=some (l,sks)->
  (∀(j:Nat) t v,n[j]?=some t->vs[j]?=some v->Value.okWide P W r N t v)->DataW.TrodAll enc P W 0 (λ_=>true) e n vs ds z->
  ∃(xs:List S0) (m:List BQ),(∀b∈m,sY W b)/\cX xs sks=true/\(∀x∈xs,x.good)/\(∀mu:kl,IF mu n0 m->VRs Az mu (au xs) vs)/\(∀k:HL,MV k n0 m->bq k l.flatten (cP xs))/\
   ∀(s:World) (u:Tt),E1 W s->(∀b,b<W.heap.size->u b=true)->DataW.TrodAll enc P s 0 u e n vs ds z
 | [],l,sks,[],[],z,n0,h,_,a=>by
  cases h;exact⟨[],[],by simp,rfl,by simp,λmu _=>⟨rfl,λi x y h=>by simp[au]at h⟩,λk _=>trivial,λ_ _ _ _=>a⟩
 |t :: n,l,sks,v :: vs,d :: ds,z,n0,h,F,a=>by
  simp only[RW]at h;split at h
  next X l' w Y Z=>
   split at h
   next sk e3 e4=>
    cases h;obtain⟨p,q,h1,c,rfl⟩:=a;obtain⟨x,m,G,I,J,K,L,M⟩:=HK Y e3 e4 (F 0 t v rfl rfl) h1 n0;obtain⟨xs,A,O,Q,R,S,T,U⟩:=qp n l' w vs ds q (n0+m.length) Z (λj t v h1 c=>F (j+1) t v h1 c) c;refine⟨x :: xs,m++A,λb hb=>?_,by simp[cX,I,Q],λy E=>?_,λmu D=>?_,λk hh=>?_,λs u h1 c=>⟨p,q,M s u h1 c,U s u h1 c,rfl⟩⟩
    ·rcases qas.1 hb with h|h
     ·exact G b h
     ·exact O b h
    ·rcases qar.1 E with rfl|E
     ·exact J
     ·exact R y E
    ·obtain⟨h1,c⟩:=IM (f:=mu) (g:=λb=>b.2) D;have V:=K mu h1;obtain⟨c2,c3⟩:=S mu c;refine⟨by simpa[au]using c2,λi p q B C=>?_⟩;cases i with
     |zero=>
      simp only[au,AL,UH,BP]at B C;subst B C;exact V
     |succ i=>exact c3 i p q (by simpa[au]using B) (by simpa using C)
    ·obtain⟨h1,c⟩:=IM (f:=λi=>k[i]?) (g:=λb=>some (HO.o b.1)) hh;rw[Vt];exact bq.app (L k h1) (T k c)
   ·cases h
  ·cases h
 | [],_,_,_ :: _,_,_,_,_,_,a=>by cases a
 | [],_,_,[],_ :: _,_,_,_,_,a=>by cases a
 |_ :: _,_,_,[],_,_,_,_,_,a=>by cases a
 |_ :: _,_,_,_ :: _,[],_,_,_,_,a=>by cases a
def uZ{C:Cfg}{f:TK}{args:Tk}{r:Value}{H':Tp}{k:List BQ}{W:World}(F:∀b∈k,sY W b)(h:dO C f args (k.map (·.1)) r H'){args':Tj}(n:∀mu:kl,IF mu 0 k->VRs Az mu args args'.toList)(hr:flat r=true)
  (hG:∀g vs,C.G g=some vs->BG g<W.heap.size/\vs.all bf=true/\∃c e fr,W.heap[BG g]?=some (.cells c e fr)/\cw (λ_=>none) vs c (Cq g)) (hf:∀g vs,C.G g=some vs->vs.all MG=true) :
  Calls C.P f args' W λe x=>e = .returned r/\x.os=W.os/\x.output=W.output/\x.tape=W.tape/\∀b,b<W.heap.size->x.heap[b]?=W.heap[b]?:=by
 let mu:kl:=λid=>(k[id]?).bind (·.2)
 have I:IF mu 0 k:=λi b E=>by simp only[mu,Br,E,AP]
 have q:∀(id:Nat) o,(k.map (·.1))[id]?=some o->∃b,k[id]?=some b/\o=b.1/\sY W b:=by
  intro id o A;rw[AU]at A;obtain⟨b,a,rfl⟩:=qag.1 A;exact⟨b,a,rfl,F b (Af a)⟩
 have s:∀(id:Nat) o,(k.map (·.1))[id]?=some o->o.owned=false:=by
  intro id o A;obtain⟨b,_,rfl,m⟩:=q id o A;rcases m with m|⟨vs,e,p,c,t,fr,m,_⟩<;>rw[m]<;>rfl
 have J:∀b,¬Own mu (k.map (·.1)) b:=by
  rintro b ⟨id,o,p,a,d,_⟩;rw[s id o a]at d;cases d
 have D:WR C W.heap.size mu (k.map (·.1)) W:=by
  refine⟨λid o a d=>?_,λi j oi oj pi pj a d m=>?_,λi o p a d=>?_,λi o p a d _ z=>?_,λid a=>?_,λg vs N=>?_⟩
  ·obtain⟨b,K,rfl,l⟩:=q id o a;rcases l with l|⟨vs,e,p,c,t,fr,l,L,Q,R,S,T,B,u,w⟩
   ·rw[l]at d;cases d
   ·refine⟨p,by simp only[mu,K,AP,L],?_⟩;rw[l];refine⟨Q,T,S,c,t,fr,B,u,λh=>by(cases h),λi v O=>⟨v,w i v O,.of_flat (qab.1 R v (Af O))⟩⟩
  ·rw[s i oi a]at m;cases m
  ·rw[s i o a]at d;cases d
  ·obtain⟨b,K,rfl,l⟩:=q i o a;rcases l with l|⟨vs,e,p',c,t,fr,l,L,Q,R,S,T,B,u,w⟩
   ·rw[l]at d;cases d
   ·simp only[mu,K,AP,L,BP]at z;subst z;rcases Bi p'.b W.heap.size with h|h
    ·exact h
    ·rw[Rr h]at B;cases B
  ·simp only[mu];rw[Bd (by simpa using a)];rfl
  ·obtain⟨a,d,c,e,fr,z,h5⟩:=hG g vs N;exact⟨a,d,c,e,fr,z,wS (hf g vs N) h5⟩
 intro Z;obtain⟨v,ad,w',U,a2,y,_,M⟩:=h _ W.heap.size mu W args' (zY _) (n mu I) D Z;rw[rH hr U]at M;obtain⟨fr,V,X,Y⟩:=M;exact⟨.returned r,w',fr,⟨rfl,y.os,y.output,y.tape,λb E=>y.keep b E (J b)⟩,V,X,Y⟩
def Po{P:TD}{f:Func}{s:ChangeSpec}{c g d:Bool}{W e:World}{args:Tj}{v:Value}{ds k:List (DataW H)}{a n:List MemPlace}
  (q:DataW.Whole enc P f.params.toList s.vars c W args.toList ds k a)
  (l:∀(b:Nat) (m:Tt) (r:Bool),DataW.TrodAll enc P e b m r f.resultTypes.toList (v.resultList f.resultTypes.size) (s.fn H (ds++k)).results [])
  (i:DataW.TrodAll enc P e 0 (λb=>decide (b<W.heap.size)) true f.params.toList args.toList (s.fn H (ds++k)).args n)
  (j:∀m:Nat->Bool,DataW.TrodVars enc P e m s.vars (s.fn H (ds++k)).vars [])
  (h1:e.os=W.os) (o:e.output=W.output) (p:∀b,b<W.heap.size->e.heap[b]?=W.heap[b]?) :
  s.post enc P f c g d false W args v e:=
 ⟨ds,k,a,[],n,[],q,l _ _ _,i,j _,Oz h1 o p _,λh=>by cases h⟩
end
end
section
variable [Val]
def fv{C:Cfg}{N:Tb}{Sg:Tc}(h:C.P.follows .mixedOrders=true){g:TK}{sg:Sig}(i:Sg g=some sg){ls b:TB}{H H':Tp}(f:let _:Kno:=KnoC C N;aD C Sg g ls H b H'){xs ys:List S0}(h1:cX xs sg.ps=true)(c:cP xs=ls)(d:cX ys sg.rs=true)(e:cP ys=b) :
  dO C g (au xs) H (gk (au ys)) H':=by
 let _:Kno:=KnoC C N
 obtain⟨j,m,n,a,c2,c3,c4⟩:=f;rw[i]at a;cases a;obtain⟨k,_⟩:=dy c2.1 h1 (c2.2.1.trans c.symm);obtain⟨l,_⟩:=dy c3.1 d (c3.2.1.trans e.symm);rw[k,l]at c4;exact uQ h c4
end
end Sx
namespace Sx
def tv{α:Type}{ks:TE}{enc:α->Tk}{ok:α->Prop}(d:∀cs,FitC ks cs->∃a,enc a=cs/\ok a):∀(n:Nat) (c:Tk),c.length=n*ks.length->(∀i,i<n->FitC ks ((c.drop (i*ks.length)).take ks.length))->∃l:List α,l.length=n/\l.flatMap enc=c/\∀a∈l,ok a
 |0,c,e,_=>⟨[],rfl,by
   simp only[LD,qa5]at e;rw[e];rfl,λ_ h=>by cases h⟩
 |n+1,c,e,g=>by
  obtain⟨a,h1,j⟩:=d _ (by have:=g 0 (by omega);rw[LD,F9]at this;exact this);obtain⟨l,k,m,o⟩:=tv d n (c.drop ks.length) (by rw[MM,e,C3];omega) (λi p=>by
   have:=g (i+1) (by omega);rw[Lw];rw[C3,H0,Nat.add_comm]at this;exact this)
  refine⟨a :: l,by simp[k],?_,λb f=>?_⟩
  ·rw[C2,h1,m,Iu]
  ·rcases qar.1 f with rfl|f
   ·exact j
   ·exact o b f
def Q7{α:Type}{ks:TE}{enc:α->Tk}{ok:α->Prop}(c:∀a,(enc a).length=ks.length)(d:∀cs,FitC ks cs->∃a,enc a=cs/\ok a){h:HL}{x:Value}{n:Nat}{b:Tk}(f:SlC h x ks.length n b)(k:∀i,i<n->FitC ks ((b.drop (i*ks.length)).take ks.length)) :
  ∃l:List α,LsH h x ks.length enc l/\l.length=n/\∀a∈l,ok a:=by
 obtain⟨l,e,g,j⟩:=tv d n b f.1 k;refine⟨l,⟨λa _=>c a,?_⟩,e,j⟩;rw[e,g];exact f
def bq.i{h:HL}{k:TF}{ks:List CK2}{ls:TB}(a:bq h (.i k :: ks) ls):∃n r,ls = .i n :: r/\(Lit.int k n).wf=true/\bq h ks r:=by
 match ls,a with
 | .i n :: r,a=>exact⟨n,r,rfl,a.1,a.2⟩
def bq.b{h:HL}{ks:List CK2}{ls:TB}(a:bq h (.b :: ks) ls):∃n r,ls = .b n :: r/\bq h ks r:=by
 match ls,a with
 | .b n :: r,a=>exact⟨n,r,rfl,a⟩
def bq.s{h:HL}{b:TE}{ks:List CK2}{ls:TB}(g:bq h (.s b :: ks) ls):∃x r n a,ls = .v x :: r/\SlC h x b.length n a/\n<=maxLen/\(∀i,i<n->FitC b ((a.drop (i*b.length)).take b.length))/\bq h ks r:=by
 match ls,g with
 | .v x :: r,⟨⟨n,a,c,d,e⟩,f⟩=>exact⟨x,r,n,a,rfl,c,d,e,f⟩
def bq.nil{h:HL}{ls:TB}(a:bq h [] ls):ls=[]:=by
 match ls,a with
 | [],_=>rfl
def Ze(a:List BQ):MV (a.map λb=>HO.o b.1) 0 a:=λi b c=>by
 rw[Br,AU,c];rfl
def MX(T:Tq)(a:List BQ):ka T (a.map λb=>HO.o b.1)=a.map (·.1):=by
 induction a with
 |nil=>rfl
 |cons b l c=>show BR T (.o b.1) :: ka T (l.map λb=>HO.o b.1)=_;rw[c];rfl
end Sx
end Go.Am
namespace Go.Am
open Sx Go.Proofs
def Xz(cs:Tk)(h:FitC [.i .u8,.i .u8,.i .u8] cs):∃a:P7,pz a=cs/\EG a:=by
 obtain⟨d,e,f,rfl⟩ : ∃d e f,cs=[d,e,f]:=by
  have o:=FitC.len h
  match cs,o with
  | [d,e,f],_=>exact⟨d,e,f,rfl⟩
 obtain⟨⟨a,rfl,l⟩,⟨b,rfl,m⟩,⟨c,rfl,n⟩,_⟩:=h;have g:=D5 l;have j:=D5 m;have k:=D5 n;exact⟨(a,b,c),rfl,g.1,g.2,j.1,j.2,k.1,k.2⟩
structure BothC(ls:TB)(H:HL)(lx ix:Value)(e:Int)(h1:HL):Prop where
 c:aD cc ab 63 ls (ka aa H) [.v lx,.v ix,.i e] (ka aa h1)
 p:Pre H h1
 g1:aB lx=true
 g2:aB ix=true
section
variable {w v t a b e:Int} {x lx ix:Value} {H h1:HL} (hx:aB x=true) (hb:BothC [.i w,.i v,.v x,.i t,.i a,.i b] H lx ix e h1)
include hx hb
theorem Lm:aD cc ab 24 [.i w,.i v,.v x,.i t,.i a,.i b] (ka aa H) [.v lx,.i e] (ka aa h1):=by
 exact xK x24 (kx (kx (rv hx (kx (kx (kx ub)))))) (by
  unfold f24;simp only[xp]
  repeat (first|simp(disch:=omega)only[↓my]|refine al hb.c ?_)
  trivial)
theorem rM:aD cc ab 25 [.i w,.i v,.v x,.i t,.i a,.i b] (ka aa H) [.v ix,.i e] (ka aa h1):=by
 exact xK x25 (kx (kx (rv hx (kx (kx (kx ub)))))) (by
  unfold f25;simp only[xp]
  repeat (first|simp(disch:=omega)only[↓my]|refine al hb.c ?_)
  trivial)
end
def Ep(n:Int):Tk:=[.int .i64 n]
def yY{l:Ln}(c:1<=l.1/\l.1<=4)(b:-100000<=l.2/\l.2<=100000):Cc 57 [.i (.ofNat l.1),.i l.2] (Al (Bb l)):=by
 obtain⟨k,n⟩:=l;simp only at c b;refine q57 rfl ?_;unfold Yv;simp only[xp];have a:k=1∨k=2∨k=3∨k=4:=by omega
 rcases a with rfl|rfl|rfl|rfl
 all_goals
  simp only[Z6,Z7,Z9,of3,of4,of5,of6,of7]
  repeat (first|simp(disch:=omega)only[↓my])
  try simp[Bb,Al]
def LU{l:Ln}{c:Cl}(u:1<=l.1/\l.1<=4)(v:-100000<=l.2/\l.2<=100000)(j:c.2.2<4)(r:-100000<=c.1/\c.1<=100000/\-100000<=c.2.1/\c.2.1<=100000):Cc 58 ([.i (.ofNat l.1),.i l.2]++Ab c) [.i (if dg l c then 1 else 0)]:=by
 obtain⟨k,n⟩:=l;simp only at u v;have s:=qd j r;have w:-1000000<=(Au c).1/\(Au c).1<=1000000/\-1000000<=(Au c).2/\(Au c).2<=1000000:=by
  obtain⟨x,y,q⟩:=c;simp only at j r;rcases BD j with rfl|rfl|rfl|rfl<;>simp only[Au,Vi,Vj]<;>omega
 have b:∀d:Int,(match k with|1=>(Au c).1|2=>(Au c).2|3=>(Au c).1+(Au c).2|_=>(Au c).2 - (Au c).1)=d->(dg (k,n) c=true↔¬d<6*n):=by
  intro d t;subst t;obtain⟨x,y,q⟩:=c;simp only at j;have m:k=1∨k=2∨k=3∨k=4:=by omega
  rcases m with rfl|rfl|rfl|rfl<;>rcases BD j with rfl|rfl|rfl|rfl
  all_goals
   simp[dg,Au,Vi,Vj];omega
 refine q58 rfl ?_;unfold Yw;simp only[xp];simp only[Ab,Aw,Ap]at s ⊢;generalize Au c=p at *
 let L:TA:=[0,p.1,p.2,p.1+p.2,p.2 - p.1]
 have f:LsH [HO.o (.cells [.int .i64 0,.int .i64 p.1,.int .i64 p.2,.int .i64 (p.1+p.2),.int .i64 (p.2 - p.1)] 1 true)] (.slice (some ⟨([]:HL).length,0,pu 1⟩) 5 6) 1 Ep L:=cp (enc:=Ep) (e:=1) (L:=L) (λ_=>rfl) rfl rfl;have m:k=1∨k=2∨k=3∨k=4:=by omega
 rcases m with rfl|rfl|rfl|rfl
 all_goals
  have b:=b _ rfl;simp only at b;simp only[Z6,Z7,Z9,of3,of4,of5,of6,of7]
  repeat (first|simp(disch:=omega)only[↓my]|refine ai s ?_)
 case' inl=>refine aQ (i:=1) (a:=p.1) f rfl rfl ?_
 case' inr.inl=>refine aQ (i:=2) (a:=p.2) f rfl rfl ?_
 case' inr.inr.inl=>refine aQ (i:=3) (a:=p.1+p.2) f rfl rfl ?_
 case' inr.inr.inr=>refine aQ (i:=4) (a:=p.2 - p.1) f rfl rfl ?_
 all_goals
  unfold Ep;refine jw ?_;cases g:dg _ c with
  |true=>
   have:=b.1 g
   try rw[zQ (by omega)]
   try simp(disch:=omega)only[↓my]
   try rfl
  |false=>
   have:¬ ¬_:=λh=>by rw[b.2 h]at g;cases g
   try rw[zV (by omega)]
   try simp(disch:=omega)only[↓my]
   try rfl
def Kl{a b:Int}:Cc 86 [.i a,.i b] [.i (max a b)]:=by
 refine q86 rfl ?_;unfold YK;simp only[xp];refine jw ?_;by_cases h:b<a
 ·rw[Ad h];refine jw ?_;rw[show max a b=a by omega]
 ·rw[zU (by omega)];refine jw ?_;rw[show max a b=b by omega]
def T3{c:Cl}{e:Nat}(a:c.2.2<4)(f:e<3)(d:-100000<=c.1/\c.1<=100000/\-100000<=c.2.1/\c.2.1<=100000):Cc 34 (Ab c++Ab (AB c e)) (Al (Bb (ua c e))):=by
 obtain⟨x,y,q⟩:=c;simp only at a d;have b:e=0∨e=1∨e=2:=by omega
 refine q34 rfl ?_;unfold Ys;simp only[xp];rcases BD a with rfl|rfl|rfl|rfl<;>rcases b with rfl|rfl|rfl
 all_goals
  simp only[AB,Ab,Aw,Ap,show [1,0,3,2].getD 0 0=1 from rfl,show [1,0,3,2].getD 1 0=0 from rfl,show [1,0,3,2].getD 2 0=3 from rfl,show [1,0,3,2].getD 3 0=2 from rfl,show [3,2,1,0].getD 0 0=3 from rfl,show [3,2,1,0].getD 1 0=2 from rfl,show [3,2,1,0].getD 2 0=1 from rfl,show [3,2,1,0].getD 3 0=0 from rfl,Z6,Z7,Z9,of3]
  repeat (first|simp(disch:=omega)only[↓my]|refine ai Kl ?_)
  try (simp[Bb,ua,Al];done)
  try (simp[Bb,ua,Al];omega)
def GL{c:Cl}{e:Nat}(a:c.2.2<4)(h:e<3)(d:-100000<=c.1/\c.1<=100000/\-100000<=c.2.1/\c.2.1<=100000):Cc 97 (Ab c++Ab (AB c e)) [.i (.ofNat (ua c e).1),.i (ua c e).2]:=by
 have b:=T3 a h d;refine q97 rfl ?_;unfold YO;simp only[xp];simp only[Ab,Aw,Ap]at b ⊢;have f:((ua c e).1=1∨(ua c e).1=2∨(ua c e).1=3∨(ua c e).1=4)/\-300000<=(ua c e).2/\(ua c e).2<=300000:=by
  obtain⟨x,y,q⟩:=c;simp only at a d;have g:e=0∨e=1∨e=2:=by omega
  rcases BD a with rfl|rfl|rfl|rfl<;>rcases g with rfl|rfl|rfl<;>simp[ua]<;>omega
 generalize ua c e=l at *;obtain⟨k,n⟩:=l;simp only at f;obtain⟨rfl|rfl|rfl|rfl,j,m⟩:=f
 all_goals
  simp only[Bb,Al,of4,of5,of6,of7]at b
  repeat (first|simp(disch:=omega)only[↓my]|refine ai b ?_)
  try (show [Lf.i 1,Lf.i _]=[Lf.i 1,Lf.i _];rw[show 2*n / 2=n by omega])
  try (show [Lf.i 2,Lf.i _]=[Lf.i 2,Lf.i _];rw[show 2*n / 2=n by omega])
  try rfl
end Go.Am
end

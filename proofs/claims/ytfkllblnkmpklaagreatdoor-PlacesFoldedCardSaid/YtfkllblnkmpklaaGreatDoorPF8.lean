/-
  PART 8 OF THE PROOF (no conditions).
-/
import Derived.Test.YtfkllblnkmpklaaGreatDoorPF7
import Derived.SevenTiedAt
import Derived.Test.YtfkllblnkmpklaaGreatDoorCards
import Derived.Test.YtfkllblnkmpklaaGreatDoorTie
set_option linter.unusedSectionVars false
set_option linter.unusedSimpArgs false
set_option linter.unusedVariables false
set_option linter.constructorNameAsVariable false
set_option linter.defProp false
noncomputable section
set_option maxRecDepth 100000
set_option maxHeartbeats 16000000
namespace Go.Am
open Sx Go.Proofs
abbrev Ray:=Int×Int
def encR(r:Ray):Tl:=[.int .i64 r.1,.int .u8 r.2]
def gp(r:Ray):(encR r).length=2:=rfl
def rngR(r:Ray):Prop:=0<=r.1/\r.1<=100/\0<=r.2/\r.2<=255
abbrev _root_.TD:=List Ray
def insR(e:Ray):TD->List Ray
 | []=>[e]
 |p :: P=>if e.1<p.1 then p :: insR e P else e :: p :: P
def kG:TD->TD->List Ray
 | [],P=>P
 |e :: r,P=>kG r (insR e P)
def gK(l:TD):TD:=(kG l []).reverse
def ni(e:Ray):∀P,(insR e P).length=P.length+1
 | []=>rfl
 |p :: P=>by
  unfold insR
  split
  ·simp[ni e P]
  ·simp
def xn{e:Ray}:∀ {P:TD} {r:Ray},r∈insR e P->r=e∨r∈P
 | [],r,h=>by simpa[insR]using h
 |p :: P,r,h=>by
  unfold insR at h
  split at h
  ·rcases qak.1 h with h|h
   ·exact .inr (by simp[h])
   ·rcases xn h with h|h
    ·exact .inl h
    ·exact .inr (by simp[h])
  ·rcases qak.1 h with h|h
   ·exact .inl h
   ·exact .inr h
def get_mid{α:Type}(A:List α)(x:α)(R:List α):(A++x :: R)[A.length]?=some x:=by simp
def get_mid1{α:Type}(A:List α)(x y:α)(R:List α):(A++x :: y :: R)[A.length+1]?=some y:=by
 rw[qal (by omega)]
 simp
def set_mid{α:Type}(A:List α)(x y:α)(R:List α):(A++x :: R).set A.length y=A++y :: R:=by simp
def set_mid1{α:Type}(A:List α)(x y z:α)(R:List α):(A++x :: y :: R).set (A.length+1) z=A++x :: z :: R:=by
 rw[qbA _ _ (by omega)]
 simp
def cmpR_c{a b:Ray}(ha:rngR a)(hb:rngR b):Cc 80 [.i a.1,.i a.2,.i b.1,.i b.2] [.i (a.1 - b.1)]:=by
 unfold rngR at ha hb
 refine q80 rfl ?_;unfold f80;simp only[qxh]
 simp(disch:=omega)only[↓qXX]
abbrev cloR:Value:=.func (.func 80) ⟨[]⟩ ⟨[]⟩
def yP:aT cloR=true:=rfl
def ins_c{h:HL}{id cx:Nat}{l:TD}(hlt:id<h.length)(hr:∀r∈l,rngR r)(hn:l.length<=1000) :
  aw cc ac 142 [.v (.slice (some ⟨id,0,tag 2⟩) l.length cx),.i 0,.i (Int.ofNat l.length),.v cloR] (absH aa (putE h id 2 encR l)) [] (absH aa (putE h id 2 encR (gK l))):=by
 have hgood:aT (.slice (some ⟨id,0,tag 2⟩) l.length cx)=true:=(lI (cx:=cx) gp hlt (l:=l)).good
 obtain⟨rs,h',h1,e1,e2⟩:=x142 (ls:=[.v (.slice (some ⟨id,0,tag 2⟩) l.length cx),.i 0,.i (Int.ofNat l.length),.v cloR]) (K:=λrs h'=>rs=[]/\h'=putE h id 2 encR (gK l)) (H:=putE h id 2 encR l) (glsV hgood (glsI (glsI (glsV yP gls0)))) (by
  unfold f142;simp only[qxh]
  refine p_x ?_
  cases hl:l with
  |nil=>
   refine cY (m:=0) (λ_ ls h'=>ls=[.i 1]/\h'=putE h id 2 encR []) ⟨rfl,rfl⟩ ?_
   rintro m ls h' ⟨rfl,rfl⟩ self hself
   refine hidL ?_
   refine p_x ?_
   rw[p_lss_f (by decide)]
   refine p_x ?_
   exact⟨by trivial,rfl⟩
  |cons e0 r0=>
   rw[hl]at hr hn hgood
   refine cY (m:=r0.length) (λm ls h'=>∃P rest,ls=[.i (Int.ofNat P.length)]/\h'=putE h id 2 encR (P.reverse++rest)/\P.length+rest.length=(e0 :: r0).length/\m=rest.length/\kG rest P=kG (e0 :: r0) []/\(∀r∈P,rngR r)/\∀r∈rest,rngR r)
    ⟨[e0],r0,rfl,rfl,by simp;omega,rfl,rfl,λr hr'=>hr r (by simp at hr';simp[hr']),λr hr'=>hr r (by simp[hr'])⟩ ?_
   rintro m ls h' ⟨P,rest,rfl,rfl,hlen,rfl,hs,hP,hR⟩ self hself
   refine hidL ?_
   refine p_x ?_
   cases hrest:rest with
   |nil=>
    rw[hrest]at hlen hs
    rw[aX (by simp only[qbp]at hlen;omega)]
    refine p_x ?_
    refine⟨by trivial,?_⟩
    show putE h id 2 encR (P.reverse++[])=putE h id 2 encR (gK (e0 :: r0))
    have:gK (e0 :: r0)=P.reverse:=by
     unfold gK
     rw[←hs]
     rfl
    rw[this,qaU]
   |cons e rest=>
    rw[hrest]at hlen hs hR hself
    have he:rngR e:=hR e qay
    rw[aU (by simp only[qaE]at hlen ⊢;omega)]
    refine p_x ?_
    refine cY (m:=P.length) (λm ls h'=>∃A B,ls=[.i (Int.ofNat A.length)]/\h'=putE h id 2 encR (A.reverse++e :: (B++rest))/\m=A.length/\(insR e A).reverse++B=(insR e P).reverse/\(∀r∈A,rngR r)/\A.length+B.length=P.length)
     ⟨P,[],rfl,by simp,rfl,by simp,hP,by simp⟩ ?_
    rintro m ls h' ⟨A,B,rfl,rfl,rfl,hins,hA,hAB⟩ self2 hself2
    refine hidL ?_
    refine p_x ?_
    have fin:A.reverse++e :: B=(insR e P).reverse->self [.i (Int.ofNat P.length+1)] (putE h id 2 encR (A.reverse++e :: (B++rest))):=by
     intro hq
     refine hself rest.length _ _ (by simp) ⟨insR e P,rest,?_,?_,?_,rfl,hs,λr hr'=>?_,λr hr'=>hR r (by simp[hr'])⟩
     ·rw[ni];rfl
     ·rw[←hq];simp
     ·rw[ni];simp only[qaE]at hlen ⊢;omega
     ·rcases xn hr' with h|h
      ·rw[h];exact he
      ·exact hP r h
    have hPl:P.length<=1000:=by simp only[qaE]at hlen hn;omega
    cases hA':A with
    |nil=>
     rw[hA']at hins
     have hq:(A.reverse++e :: B)=(insR e P).reverse:=by rw[hA',←hins];rfl
     have:=fin hq
     rw[hA']at this
     rw[p_gtr_f (by simp)]
     refine p_x ?_
     rw[bB (by omega)]
     exact this
    |cons p A2=>
     rw[hA']at hins hA hAB
     have hp:rngR p:=hA p qay
     have hL:∀R,(p :: A2).reverse++R=A2.reverse++p :: R:=λR=>by simp
     have hrl:A2.reverse.length=A2.length:=qdm
     have hlenL:(A2.reverse++p :: e :: (B++rest)).length=(e0 :: r0).length:=by
      simp only[qaC,qaE,qdm]at hlen hAB ⊢
      omega
     rw[p_gtr_t (by simp only[qaE,qar];omega)]
     refine p_x ?_
     rw[hL]
     have hls:LsH (putE h id 2 encR (A2.reverse++p :: e :: (B++rest))) (.slice (some ⟨id,0,tag 2⟩) (e0 :: r0).length cx) 2 encR (A2.reverse++p :: e :: (B++rest)):=by
      rw[←hlenL]
      exact lI gp hlt
     have g1:(A2.reverse++p :: e :: (B++rest))[A2.length+1]?=some e:=by rw[←hrl];exact get_mid1 _ _ _ _
     have g0:(A2.reverse++p :: e :: (B++rest))[A2.length]?=some p:=by rw[←hrl];exact get_mid _ _ _
     refine aQ hls (by simp) g1 ?_
     unfold encR
     refine p_x ?_
     rw[n_sub (by simp) (by simp only[qaE]at hAB ⊢;omega)]
     refine aQ hls (by simp) g0 ?_
     unfold encR
     repeat (first|simp(disch:=omega)only[↓qXX]|refine iE (jS (cmpR_c he hp _) rfl [.agg [.i .i64 e.1,.i .u8 e.2],.agg [.i .i64 p.1,.i .u8 p.2]] rfl rfl) ?_)
     by_cases hcmp:e.1<p.1
     ·rw[p_lss_t (by omega)]
      refine p_x ?_
      have sub1:∀K:Int->Prop,P1.ari .sub .i64 (Int.ofNat (p :: A2).length) 1 (@hid _ ⟨K⟩)=K (Int.ofNat ((p :: A2).length - 1)):=λK=>n_sub (by simp) (by simp only[qaE]at hAB ⊢;omega)
      rw[sub1]
      rw[sub1]
      refine aQ hls (by simp) g0 ?_
      unfold encR
      refine p_x ?_
      refine aQ hls (by simp) g1 ?_
      unfold encR
      refine p_x ?_
      refine r_set gp (a:=p) (i:=A2.length+1) hlt (by simp) (by simp) hlenL rfl ?_
      have s1:(A2.reverse++p :: e :: (B++rest)).set (A2.length+1) p=A2.reverse++p :: p :: (B++rest):=by rw[←hrl];exact set_mid1 _ _ _ _ _
      rw[s1]
      refine r_set gp (a:=e) (i:=A2.length) hlt (by simp) (by simp) (by rw[←hlenL];simp) rfl ?_
      have s2:(A2.reverse++p :: p :: (B++rest)).set A2.length e=A2.reverse++e :: p :: (B++rest):=by rw[←hrl];exact set_mid _ _ _ _
      rw[s2]
      rw[sub1]
      refine hself2 A2.length _ _ (by rw[hA'];simp) ⟨A2,p :: B,by simp,by simp,rfl,?_,λr hr'=>hA r (by simp[hr']),by simp only[qaE]at hAB ⊢;omega⟩
      rw[←hins]
      have:insR e (p :: A2)=p :: insR e A2:=by
       show(if e.1<p.1 then p :: insR e A2 else e :: p :: A2)=_
       rw[qd7 hcmp]
      rw[this]
      simp
     ·rw[p_lss_f (by omega)]
      refine p_x ?_
      rw[bB (by omega)]
      have hq:(A.reverse++e :: B)=(insR e P).reverse:=by
       rw[hA',←hins]
       unfold insR
       rw[qd8 hcmp]
       simp
      have:=fin hq
      rw[hA',hL]at this
      exact this)
 rw[e1,e2]at h1
 exact h1
def lenB(n:Nat):Nat:=if n=0 then 0 else Nat.log2 n+1
def len_tab:((List.range 13).all λn=>yT [.i (.ofNat (lenB n))] (runF 60 (.f 122) [.i (.ofNat n)] .empty tell))=true:=by kernel_rfl
def len_c{n:Nat}(h:n<=12):Cc 122 [.i (.ofNat n)] [.i (.ofNat (lenB n))]:=
 fW (n:=60) rfl (by kernel_rfl) rfl (qab.1 len_tab n (qae.2 (by omega)))
def pdq_c{h:HL}{id cx:Nat}{l:TD}(hlt:id<h.length)(hr:∀r∈l,rngR r)(hn:l.length<=12)(k:Int) :
  aw cc ac 121 [.v (.slice (some ⟨id,0,tag 2⟩) l.length cx),.i 0,.i (Int.ofNat l.length),.i k,.v cloR] (absH aa (putE h id 2 encR l)) [] (absH aa (putE h id 2 encR (gK l))):=by
 have hgood:aT (.slice (some ⟨id,0,tag 2⟩) l.length cx)=true:=(lI (cx:=cx) gp hlt (l:=l)).good
 obtain⟨rs,h',h1,e1,e2⟩:=x121 (ls:=[.v (.slice (some ⟨id,0,tag 2⟩) l.length cx),.i 0,.i (Int.ofNat l.length),.i k,.v cloR]) (K:=λrs h'=>rs=[]/\h'=putE h id 2 encR (gK l)) (H:=putE h id 2 encR l) (glsV hgood (glsI (glsI (glsI (glsV yP gls0))))) (by
  unfold f121;simp only[qxh]
  refine p_x ?_
  refine⟨1,?_⟩
  refine hidL ?_
  refine p_x ?_
  have e:Int.ofNat l.length - 0=Int.ofNat l.length:=by omega
  rw[p_sub (by show -9223372036854775808<=(l.length:Int) - 0;omega) (by show(l.length:Int) - 0<=9223372036854775807;omega),e]
  rw[p_leq_t (by show(l.length:Int)<=12;omega)]
  repeat (first|simp(disch:=omega)only[↓qXX]|refine ai (ins_c hlt hr (by omega)) ?_)
  trivial)
 rw[e1,e2]at h1
 exact h1
def sortR_c{h:HL}{id cx:Nat}{l:TD}(hlt:id<h.length)(hr:∀r∈l,rngR r)(hn:l.length<=12) :
  aw cc ac 79 [.v (.slice (some ⟨id,0,tag 2⟩) l.length cx),.v cloR] (absH aa (putE h id 2 encR l)) [] (absH aa (putE h id 2 encR (gK l))):=by
 have hls:=lI (cx:=cx) gp hlt (l:=l)
 obtain⟨rs,h',h1,e1,e2⟩:=x79 (ls:=[.v (.slice (some ⟨id,0,tag 2⟩) l.length cx),.v cloR]) (K:=λrs h'=>rs=[]/\h'=putE h id 2 encR (gK l)) (H:=putE h id 2 encR l) (glsV hls.good (glsV yP gls0)) (by
  unfold f79;simp only[qxh]
  repeat (first|simp(disch:=omega)only[↓qXX]|refine bv hls ?_|refine vW (by show 0<=(l.length:Int);omega) (by show(l.length:Int)<=9223372036854775807;omega) ?_|refine af (len_c hn) ?_|refine ai (pdq_c hlt hr hn _) ?_)
  trivial)
 rw[e1,e2]at h1
 exact h1
def sort0_c(H:HL):aw cc ac 79 [.v (.slice none 0 0),.v cloR] (absH aa H) [] (absH aa H):=by
 obtain⟨rs,h',h1,e1,e2⟩:=x79 (ls:=[.v (.slice none 0 0),.v cloR]) (K:=λrs h'=>rs=[]/\h'=H) (H:=H) (glsV rfl (glsV yP gls0)) (by
  unfold f79;simp only[qxh]
  repeat (first|simp(disch:=omega)only[↓qXX]|refine au (x:=(0:Int)) rfl ?_|refine vW (by omega) (by omega) ?_|refine af (len_c (n:=0) (by omega)) ?_)
  obtain⟨rs,h',g1,g2,g3⟩:=x121 (ls:=[.v (.slice none 0 0),.i 0,.i 0,.i (.ofNat (lenB 0)),.v cloR]) (K:=λrs h'=>rs=[]/\h'=H) (H:=H) (glsV rfl (glsI (glsI (glsI (glsV yP gls0))))) (by
   unfold f121;simp only[qxh]
   refine p_x ?_
   refine⟨1,?_⟩
   refine hidL ?_
   refine p_x ?_
   obtain⟨rs,h',g1,g2,g3⟩:=x142 (ls:=[.v (.slice none 0 0),.i 0,.i 0,.v cloR]) (K:=λrs h'=>rs=[]/\h'=H) (H:=H) (glsV rfl (glsI (glsI (glsV yP gls0)))) (by
    unfold f142;simp only[qxh]
    refine p_x ?_
    refine⟨1,?_⟩
    refine hidL ?_
    simp(disch:=omega)only[↓qXX]
    trivial)
   rw[g2,g3]at g1
   refine ai g1 ?_
   simp(disch:=omega)only[↓qXX]
   trivial)
  rw[g2,g3]at g1
  refine ai g1 ?_
  simp(disch:=omega)only[↓qXX]
  trivial)
 rw[e1,e2]at h1
 exact h1
def dQ{h:HL}{p:Value}{cs:Tl}{n:Nat}{K:Te}(hp:Ptr h p cs)(hn:cs.length=n)(hk:K cs):P1.peek (.lg cc n p) h (@hid _ ⟨K⟩):=eG (hp.lg hn) hk
def fQ{h:HL}{p:Value}{cs ds:Tl}{o k:Nat}{K:Te}(hp:Ptr h p cs)(hok:o+k<=cs.length)(hd:ds=(cs.drop o).take k)(hk:K ds) :
  P1.opt (fdP o p) (@hid _ ⟨λy=>P1.chk y (@hid _ ⟨P1.peek (.lg cc k y) h (@hid _ ⟨K⟩)⟩)⟩):=by
 obtain⟨q,h3,h4⟩:=hp.fd o k hok
 subst hd
 have hlen:((cs.drop o).take k).length=k:=by rw[qaL,qbI];omega
 refine au h3 ?_
 show aT q=true/\_
 exact⟨h4.good,eG (h4.lg hlen) hk⟩
def wK(x y:Nat):bi x y (many x)=bi x y 0:=by
 unfold bi
 rw[Nat.mod_self,Nat.zero_mod]
def ne8{j:Nat}(x y:Nat)(h1:0<j)(h2:j<many x)(hx:0<x)(hy:0<y)(hxy:x%2=y%2):bi x y j≠bi x y 0:=by
 unfold bi many ring at *
 by_cases hp:x%2=1
 ·simp only[hp,if_true]at h2 ⊢
  have:j=1∨j=2∨j=3:=by omega
  rcases this with rfl|rfl|rfl<;>simp
 ·simp only[hp,if_false]at h2 ⊢
  have:j=1∨j=2∨j=3∨j=4∨j=5∨j=6∨j=7:=by omega
  rcases this with rfl|rfl|rfl|rfl|rfl|rfl|rfl<;>simp<;>omega
abbrev spkL(w x y j:Nat):List S0:=[.leaf (.i .i64 (.ofNat (idOf w (bi x y j)))),.agg [.i .i64 (.ofNat (jU x j)),.i .i64 (.ofNat (min (idOf w (bi x y j)) (idOf w (bi x y (j+1))))),.i .u8 (.ofNat (cV x j))]]
def start_at{x y:Nat}:bi x y 0=(x / 2,y / 2,if x%2=1 then 2 else 0):=by
 unfold bi many ring
 by_cases hp:x%2=1<;>simp[hp]
def many_pos(x:Nat):0<many x:=by unfold many;split<;>omega
def eqs3_t{a b c:Int}{K:Tn}:P1.eqs [(.i a,.i a),(.i b,.i b),(.i c,.i c)] (@hid _ ⟨K⟩)=K true:=by
 show K (ch _)=K true
 simp[ch,gY]
def cel_ext{c d:Cel}(h:Int.ofNat c.1=Int.ofNat d.1/\Int.ofNat c.2.1=Int.ofNat d.2.1/\Int.ofNat c.2.2=Int.ofNat d.2.2):c=d:=by
 obtain⟨h1,h2,h3⟩:=h
 exact qdj (qcC h1) (qdj (qcC h2) (qcC h3))
def walk_c{w v x y:Nat}(hsh:1<=w/\w<=4/\1<=v/\v<=4)(hcor:fl w v x y=true){l:Nat}{pa ps:Value}(J:Nat->HL->Prop)
  (hP:∀j h,J j h->Ptr h pa [.int .i64 (.ofNat x),.int .i64 (.ofNat y)]/\Ptr h ps [.int .i64 (.ofNat w),.int .i64 (.ofNat v)])
  (hY:∀j,j<many x->∀h,J j h->∃h',fZ cc l (ah (spkL w x y j)) (absH aa h) (.bool true) (absH aa h')/\J (j+1) h') {h0:HL} (h0J:J 0 h0) :
  ∃h',aw cc ac 116 [.v (.func (.yield l) #[] #[]),.v pa,.v ps] (absH aa h0) [] (absH aa h')/\J (many x) h':=by
 have hc2:=hcor
 unfold fl at hc2
 simp only[qaa,qaO]at hc2
 obtain⟨hx0,hy0,hx1,hy1,hxy⟩:=hc2
 have hxy:=qac hxy
 obtain⟨rs,h',h1,rfl,hJ⟩:=x116 (ls:=[.v (.func (.yield l) #[] #[]),.v pa,.v ps]) (K:=λrs h'=>rs=[]/\J (many x) h') (H:=h0) (glsV rfl (glsV (hP 0 h0 h0J).1.good (glsV (hP 0 h0 h0J).2.good gls0))) (by
  unfold f116;simp only[qxh]
  have hpa:=(hP 0 h0 h0J).1
  repeat (first|simp(disch:=omega)only[↓qXX]|refine fQ hpa (o:=0) (k:=1) (ds:=[.int .i64 (.ofNat x)]) (by simp) rfl ?_)
  rw[p_quo_nn (by simp) (by decide) (by simp only[qar];omega)]
  refine fQ hpa (o:=1) (k:=1) (ds:=[.int .i64 (.ofNat y)]) (by simp) rfl ?_
  refine p_x ?_
  rw[p_quo_nn (by simp) (by decide) (by simp only[qar];omega)]
  refine fQ hpa (o:=0) (k:=1) (ds:=[.int .i64 (.ofNat x)]) (by simp) rfl ?_
  refine p_x ?_
  rw[p_rem_nn (by simp) (by decide)]
  have key:∀B:TE->HL->Prop,B [.i (Int.ofNat (bi x y 0).1),.i (Int.ofNat (bi x y 0).2.1),.i (Int.ofNat (bi x y 0).2.2)] h0->P1.cmp .neq (Int.ofNat x%2) 0 (@hid _ ⟨λt27=>P1.join (@hid _ ⟨B⟩) (@hid _ ⟨λj191=>P1.cond t27 (@hid _ ⟨j191 [(.i (Int.ofNat x / 2)),(.i (Int.ofNat y / 2)),(.i 2)] h0⟩) (@hid _ ⟨j191 [(.i (Int.ofNat x / 2)),(.i (Int.ofNat y / 2)),(.i 0)] h0⟩)⟩)⟩):=by
   intro B hB
   rw[start_at]at hB
   by_cases hp:x%2=1
   ·rw[qd7 hp]at hB
    rw[p_neq_t (by simp only[qar];omega)]
    exact⟨λ_=>hB,λh=>by cases h⟩
   ·rw[qd8 hp]at hB
    rw[p_neq_f (by simp only[qar];omega)]
    exact⟨λh=>(by cases h),λ_=>hB⟩
  refine key _ ?_
  refine p_x ?_
  refine cY (m:=many x) (λm ls h=>∃j,j<many x/\m=many x - j/\ls=[.i (Int.ofNat (mw x j)),.i (Int.ofNat (bi x y j).1),.i (Int.ofNat (bi x y j).2.1),.i (Int.ofNat (bi x y j).2.2)]/\J j h) ⟨0,many_pos x,rfl,rfl,h0J⟩ ?_
  rintro m ls H ⟨j,hj,rfl,rfl,hJ⟩ self hself
  refine hidL ?_
  have st:=yl hsh hcor hj
  repeat (first|simp(disch:=omega)only[↓qXX]|refine dQ (hP j H hJ).2 rfl ?_|refine af st.id ?_)
  refine cY (m:=cV x j) (λm ls h=>∃k,k<=cV x j/\m=cV x j - k/\ls=[.i (Int.ofNat (mw x j)),.i (Int.ofNat k),.i (Int.ofNat (bi x y j).1),.i (Int.ofNat (bi x y j).2.1),.i (Int.ofNat (bi x y j).2.2)]/\h=H) ⟨0,qaS _,rfl,rfl,rfl⟩ ?_
  rintro m2 ls2 h2 ⟨k,hk,rfl,rfl,rfl⟩ self2 hself2
  refine hidL ?_
  have hle:=st.le
  refine p_x ?_
  rw[p_lss_t (by simp only[qar];omega)]
  repeat (first|simp(disch:=omega)only[↓qXX]|refine dQ (hP j h2 hJ).1 rfl ?_)
  by_cases hkl:k<cV x j
  ·have again:self2 [.i (Int.ofNat (mw x j)),.i (Int.ofNat k+1),.i (Int.ofNat (bi x y j).1),.i (Int.ofNat (bi x y j).2.1),.i (Int.ofNat (bi x y j).2.2)] h2:=hself2 (cV x j - (k+1)) _ _ (by omega) ⟨k+1,by omega,rfl,rfl,rfl⟩
   have add1:∀K:Int->Prop,P1.ari .add .u8 (Int.ofNat k) 1 (@hid _ ⟨K⟩)=K (Int.ofNat k+1):=λK=>p_add8 (by simp only[qar];omega) (by simp only[qar];omega)
   rcases st.skip k hkl with ht|⟨ht,hs⟩
   ·refine af ht ?_
    simp(disch:=omega)only[↓qXX,qbF]
    rw[add1]
    exact again
   ·refine af ht ?_
    simp(disch:=omega)only[↓qXX,qaF]
    by_cases hkk:k=mw x j
    ·rw[p_eql_t (by rw[hkk])]
     refine p_x ?_
     rw[add1]
     exact again
    ·have h3:mw x j=3/\Cc 118 [.i (.ofNat (bi x y j).1),.i (.ofNat (bi x y j).2.1),.i (.ofNat (bi x y j).2.2),.i (.ofNat k),.i (.ofNat x),.i (.ofNat y)] [.b false]:=by
      rcases hs with hs|hs
      ·exact absurd hs hkk
      ·exact hs
     rw[p_eql_f (by simp only[qar];omega)]
     refine p_x ?_
     rw[p_eql_t (by rw[h3.1];rfl)]
     repeat (first|simp(disch:=omega)only[↓qXX,qbF]|refine dQ (hP j h2 hJ).1 rfl ?_|refine af h3.2 ?_)
     rw[add1]
     exact again
  ·obtain rfl:k=cV x j:=by omega
   refine af st.take ?_
   simp(disch:=omega)only[↓qXX,qaF]
   have hne:=st.ne
   rw[p_eql_f (by simp only[qar];omega)]
   refine p_x ?_
   by_cases h3:mw x j=3
   ·rw[p_eql_t (by rw[h3];rfl)]
    repeat (first|simp(disch:=omega)only[↓qXX,qaF]|refine dQ (hP j h2 hJ).1 rfl ?_|refine af (st.lv h3) ?_|refine dQ (hP j h2 hJ).2 rfl ?_|refine af st.name ?_|refine af st.dir ?_)
    obtain⟨H',hu,hJ'⟩:=hY j hj h2 hJ
    repeat (first|simp(disch:=omega)only[↓qXX,qaF]|refine p_callY (ys:=spkL w x y j) hu ?_|refine af st.next ?_)
    by_cases hlast:j+1=many x
    ·rw[hlast,wK]
     rw[eqs3_t]
     refine p_x ?_
     refine⟨by trivial,?_⟩
     rw[←hlast];exact hJ'
    ·have hne:bi x y (j+1)≠bi x y 0:=ne8 x y (by omega) (by omega) hx0 hy0 hxy
     rw[p_eqs3_f (λhq=>hne (cel_ext hq))]
     refine p_x ?_
     exact hself (many x - (j+1)) _ _ (by omega) ⟨j+1,by omega,rfl,rfl,hJ'⟩
   ·rw[p_eql_f (by simp only[qar];omega)]
    repeat (first|simp(disch:=omega)only[↓qXX]|refine dQ (hP j h2 hJ).2 rfl ?_|refine af st.name ?_|refine dQ (hP j h2 hJ).1 rfl ?_|refine af st.dir ?_)
    obtain⟨H',hu,hJ'⟩:=hY j hj h2 hJ
    repeat (first|simp(disch:=omega)only[↓qXX,qaF]|refine p_callY (ys:=spkL w x y j) hu ?_|refine af st.next ?_)
    by_cases hlast:j+1=many x
    ·rw[hlast,wK]
     rw[eqs3_t]
     refine p_x ?_
     refine⟨by trivial,?_⟩
     rw[←hlast];exact hJ'
    ·have hne:bi x y (j+1)≠bi x y 0:=ne8 x y (by omega) (by omega) hx0 hy0 hxy
     rw[p_eqs3_f (λhq=>hne (cel_ext hq))]
     refine p_x ?_
     exact hself (many x - (j+1)) _ _ (by omega) ⟨j+1,by omega,rfl,rfl,hJ'⟩ )
 exact⟨h',h1,hJ⟩
def mG(l:TA)(d u e:Nat):TD:=if je l (.ofNat u) (.ofNat e)=0 then []else [(.ofNat d,je l (.ofNat u) (.ofNat e))]
structure RF(H:HL)(n0 a b L w v:Nat)(x:Value)(l:TA):Prop where
 len:H.length=n0
 ha:H[a]?=some (.o (.cells [.int .i64 (.ofNat w),.int .i64 (.ofNat v),x] 3 true))
 hx:LsH H x 3 encC l
 xb:blk x≠some b
 xL:blk x≠some L
 ab:a≠b
 aL:a≠L
 bL:b≠L
 lt:a<n0/\b<n0/\L<n0
structure RSr(H:HL)(n0 a b L:Nat)(R:TD)(h:HL):Prop where
 old:∀(i:Nat) o,i≠b->i≠L->H[i]?=some o->h[i]?=some o
 len:n0<=h.length
 out:∃xo,h[b]?=some (.o (.cells [xo] 1 true))/\MkL n0 h xo 2 encR R/\aT xo=true
 lp:h[L]?=some (.lp 864 .ready none [.pointer (some ⟨a,0,none⟩),.pointer (some ⟨b,0,none⟩)])
def dF{h:HL}{a:Nat}{cs:Tl}{e:Nat}{rw':Bool}(ha:h[a]?=some (.o (.cells cs e rw'))):Ptr h (.pointer (some ⟨a,0,none⟩)) cs:=
 ⟨a,0,cs,e,rw',rfl,ha,cut_some.2 ⟨by omega,by simp⟩⟩
def st_run{h:HL}{id e:Nat}{cs new:Tl}(hg:h[id]?=some (.o (.cells cs e true)))(hl:new.length=cs.length):(Hp.st (.pointer (some ⟨id,0,none⟩)) new).run (getH aa h) h.length=some ([.set id (.cells new e true)],[]):=by
 show stP (.pointer (some ⟨id,0,none⟩)) new (getH aa h) h.length=_
 unfold stP
 simp only
 rw[cp hg]
 simp only
 unfold splice
 rw[qd7 (by omega)]
 simp[hl]
def round_c{H:HL}{n0 a b L w v:Nat}{x:Value}{l:TA}(hF:RF H n0 a b L w v x l)(hp:Pat w v l){R:TD}(hR:R.length<=100){h:HL}(hS:RSr H n0 a b L R h){c d u e n:Nat}(hc:u<4*w*v)(he:e<3)(hn:nbr w v u e=some n)(hun:u<n)(hn2:n<=1000) :
  ∃h',fZ cc L (ah [.leaf (.i .i64 (.ofNat c)),.agg [.i .i64 (.ofNat d),.i .i64 (.ofNat u),.i .u8 (.ofNat e)]]) (absH aa h) (.bool true) (absH aa h')/\RSr H n0 a b L (R++mG l d u e) h':=by
 obtain⟨xo,hb,hmk,hgx⟩:=hS.out
 have hx2:aT x=true:=hF.hx.good
 obtain⟨bb,h',hu,hK1,hK2⟩:=xy864 (K:=λrs h'=>rs=[.b true]/\RSr H n0 a b L (R++mG l d u e) h') (ys:=[.leaf (.i .i64 (.ofNat c)),.agg [.i .i64 (.ofNat d),.i .i64 (.ofNat u),.i .u8 (.ofNat e)]]) (ls:=[.i (.ofNat c),.i (.ofNat d),.i (.ofNat u),.i (.ofNat e)]) hS.lp ⟨rfl,rfl,by
   intro y hy z hz
   simp only[qak,qbf,or_false]at hy
   rcases hy with rfl|rfl<;>simp only[S0.cells,qak,qbf,or_false]at hz
   ·subst hz;trivial
   ·rcases hz with rfl|rfl|rfl<;>trivial⟩ (by
  unfold y864;simp only[qxh]
  repeat (first|simp(disch:=omega)only[↓qXX]|refine aH rfl ?_)
  have hnew:(h++[HO.o (.cells [.int .i64 0,.int .i64 0,.int .u8 0] 3 true)])[h.length]?=some (.o (.cells [.int .i64 0,.int .i64 0,.int .u8 0] 3 true)):=by simp
  refine cU (acts:=[.set h.length (.cells [.int .i64 (.ofNat d),.int .i64 (.ofNat u),.int .u8 (.ofNat e)] 3 true)]) (cs:=[]) (st_run hnew rfl) ?_
  have e1:bS (h++[HO.o (.cells [.int .i64 0,.int .i64 0,.int .u8 0] 3 true)]) [.set h.length (.cells [.int .i64 (.ofNat d),.int .i64 (.ofNat u),.int .u8 (.ofNat e)] 3 true)]=h++[HO.o (.cells [.int .i64 (.ofNat d),.int .i64 (.ofNat u),.int .u8 (.ofNat e)] 3 true)]:=by
   show(h++[_]).set h.length _=_
   simp
  rw[e1]
  have hLlt:L<h.length:=aM hS.lp
  refine p_lp1 (κ:=864) (pd:=none) (vs:=[.pointer (some ⟨a,0,none⟩),.pointer (some ⟨b,0,none⟩)]) (by rw[qag hLlt];exact hS.lp) ?_
  have facts:∃h3,h3=(h++[HO.o (.cells [.int .i64 (.ofNat d),.int .i64 (.ofNat u),.int .u8 (.ofNat e)] 3 true)]).set L (.lp 864 .busy none [.pointer (some ⟨a,0,none⟩),.pointer (some ⟨b,0,none⟩)])/\(∀(i:Nat) o,i≠L->h[i]?=some o->h3[i]?=some o)/\h3[h.length]?=some (.o (.cells [.int .i64 (.ofNat d),.int .i64 (.ofNat u),.int .u8 (.ofNat e)] 3 true))/\h3[L]?=some (.lp 864 .busy none [.pointer (some ⟨a,0,none⟩),.pointer (some ⟨b,0,none⟩)])/\h3.length=h.length+1:=by
   refine⟨_,rfl,λi o hi ho=>?_,?_,?_,by simp⟩
   ·rw[qai (qbE hi),qag (aM ho)];exact ho
   ·rw[qai (by omega)];simp
   ·rw[qaA (by simp;omega)]
  obtain⟨h3,hh3,f1,f2,f3,f4⟩:=facts
  rw[←hh3]
  have ha3:=f1 a _ hF.aL (hS.old a _ hF.ab hF.aL hF.ha)
  repeat (first|simp(disch:=omega)only[↓qXX]|refine dQ (dF ha3) rfl ?_|refine aH hx2 ?_)
  obtain⟨q,q1,q2⟩:=(dF f2).fd 1 2 (by simp)
  refine au q1 (aH q2.good ?_)
  refine fQ q2 (o:=0) (k:=1) (ds:=[.int .i64 (.ofNat u)]) (by simp) rfl ?_
  refine p_x ?_
  refine au q1 (aH q2.good ?_)
  refine fQ q2 (o:=1) (k:=1) (ds:=[.int .u8 (.ofNat e)]) (by simp) rfl ?_
  refine p_x ?_
  have hls3:LsH h3 x 3 encC l:=hF.hx.keep λj o hj hbj=>f1 j o (λq=>hF.xL (by rw[hbj,q])) (hS.old j o (λq=>hF.xb (by rw[hbj,q])) (λq=>hF.xL (by rw[hbj,q])) hj)
  have hkd:=kind_c hp hls3 hc he hn hn2
  rw[qbW (by omega:u<=n)]at hkd
  refine ai hkd ?_
  refine p_x ?_
  by_cases hk0:je l (.ofNat u) (.ofNat e)=0
  ·rw[p_neq_f hk0]
   refine p_x ?_
   refine p_lp2 f3 ?_
   try simp(disch:=omega)only[↓qXX]
   refine⟨by trivial,?_⟩
   have hray:mG l d u e=[]:=qd7 hk0
   rw[hray,qaU]
   refine⟨λi o hi1 hi2 ho=>?_,by rw[qbD,f4];have:=hS.len;omega,⟨xo,?_,hmk.keep λj o hj hbj=>?_,hgx⟩,?_⟩
   ·rw[qai (qbE hi2)];exact f1 i o hi2 (hS.old i o hi1 hi2 ho)
   ·rw[qai (qbE hF.bL)];exact f1 b _ hF.bL hb
   ·have:=(wG hmk.2 hbj).1
    have hLn:=hF.lt.2.2
    rw[qai (by omega)];exact f1 j o (by omega) hj
   ·rw[qaA (by rw[f4];omega)]
  ·rw[p_neq_t hk0]
   refine p_x ?_
   have hb3:=f1 b _ hF.bL hb
   repeat (first|simp(disch:=omega)only[↓qXX]|refine dQ (dF hb3) rfl ?_|refine aH hgx ?_|refine fQ (dF f2) (o:=0) (k:=1) (ds:=[.int .i64 (.ofNat d)]) (by simp) rfl ?_)
   have hl0:(h3.take n0).length=n0:=by rw[qaL,f4];have:=hS.len;omega
   have hmk3:MkL (h3.take n0).length h3 xo 2 encR R:=by
    rw[hl0]
    exact hmk.keep λj o hj hbj=>f1 j o (by have:=(wG hmk.2 hbj).1;have:=hF.lt.2.2;omega) hj
   refine ky (h0:=h3.take n0) (a:=(.ofNat d,je l (.ofNat u) (.ofNat e))) ⟨h3.drop n0,by simp⟩ hmk3 rfl rfl rfl rfl (by
    unfold ca
    rw[qaa,qbb,qbb]
    omega) λv' h' hp' hm' hg' hold hblk=>?_
   have nb:∀i,i<n0->blk xo≠some i:=λi hi hq=>by have:=(wG hmk.2 hq).1;omega
   repeat (first|simp(disch:=omega)only[↓qXX]|refine aH hg' ?_)
   have hb':=hold b _ hb3 (nb b hF.lt.2.1)
   refine cU (st_run hb' rfl) ?_
   have e2:bS h' [.set b (.cells [v'] 1 true)]=h'.set b (.o (.cells [v'] 1 true)):=rfl
   rw[e2]
   refine p_x ?_
   have hL':=hold L _ f3 (nb L hF.lt.2.2)
   refine p_lp2 (by rw[qai hF.bL];exact hL') ?_
   try simp(disch:=omega)only[↓qXX]
   refine⟨by trivial,?_⟩
   have hray:mG l d u e=[(.ofNat d,je l (.ofNat u) (.ofNat e))]:=qd8 hk0
   rw[hray]
   rw[hl0]at hm'
   have hbl:=aM hb'
   have hLl:=aM hL'
   have hlen':n0<=h'.length:=by have:=hp'.len;rw[hl0]at this;exact this
   refine⟨λi o hi1 hi2 ho=>?_,by rw[qbD,qbD];exact hlen',⟨v',?_,hm'.keep λj o hj hbj=>?_,hg'⟩,?_⟩
   ·rw[qai (qbE hi2),qai (qbE hi1)]
    have hin:i<n0:=by have:=aM ho;rw[hF.len]at this;exact this
    exact hold i o (f1 i o hi2 (hS.old i o hi1 hi2 ho)) (nb i hin)
   ·rw[qai (qbE hF.bL),qaA hbl]
   ·have h5:=(wG hm'.2 hbj).1
    have h6:=hF.lt
    rw[qai (by omega),qai (by omega)];exact hj
   ·rw[qaA (by rw[qbD];exact hLl)])
 cases hK1
 exact⟨h',hu,hK2⟩
abbrev cloV(n:Nat):Value:=.func (.func 116) ⟨[]⟩ ⟨[.pointer (some ⟨n+1,0,none⟩),.pointer (some ⟨n,0,none⟩)]⟩
def walkF_c(H:HL)(w v x y:Int):aw cc ac 77 [.i w,.i v,.i x,.i y] (absH aa H) [.v (cloV H.length)] (absH aa (H++[.o (.cells [.int .i64 w,.int .i64 v] 2 true),.o (.cells [.int .i64 x,.int .i64 y] 2 true)])):=by
 obtain⟨rs,h',h1,e1,e2⟩:=u77 (ls:=[.i w,.i v,.i x,.i y]) (K:=λrs h'=>rs=[.v (cloV H.length)]/\h'=H++[.o (.cells [.int .i64 w,.int .i64 v] 2 true),.o (.cells [.int .i64 x,.int .i64 y] 2 true)]) (H:=H) rfl (by
  unfold f77;simp only[qxh]
  refine p_x ?_
  refine aH rfl ?_
  refine⟨?_,?_⟩
  ·simp
  ·simp)
 rw[e1,e2]at h1
 exact h1
def corner_i{w v x y:Int}(h:1<=w/\w<=4/\1<=v/\v<=4/\0<x/\x<2*w/\0<y/\y<2*v/\x%2=y%2):Cc 76 [.i w,.i v,.i x,.i y] [.i 0]:=by
 refine q76 rfl ?_;unfold f76;simp only[qxh]
 repeat (first|simp(disch:=omega)only[↓qXX]|refine af (lR (wq (by unfold smS;omega))) ?_)
def corner_c{w v x y:Nat}(hsh:1<=w/\w<=4/\1<=v/\v<=4)(hcor:fl w v x y=true):Cc 76 [.i (.ofNat w),.i (.ofNat v),.i (.ofNat x),.i (.ofNat y)] [.i 0]:=by
 have hc2:=hcor
 unfold fl at hc2
 simp only[qaa,qaO]at hc2
 obtain⟨hx0,hy0,hx1,hy1,hxy⟩:=hc2
 have hxy:=qac hxy
 exact corner_i (by simp only[qar];omega)
def gZ(w x y j:Nat):Nat:=min (idOf w (bi x y j)) (idOf w (bi x y (j+1)))
def uniT(w v x y j:Nat):Bool:=match nbr w v (gZ w x y j) (cV x j)with
 |some n=>Nat.blt (gZ w x y j) n&&(Nat.blt (gZ w x y j) (4*w*v)&&Nat.ble n 1000)
 |none=>false
def uniAll(w v:Nat):Bool:=(List.range (2*w)).all λx=>(List.range (2*v)).all λy=>!(fl w v x y)||(List.range (many x)).all λj=>uniT w v x y j
def uni_all:∀w v:Nat,1<=w->w<=4->1<=v->v<=4->uniAll w v=true:=by
 have key:((List.range 4).all λw=>(List.range 4).all λv=>uniAll (w+1) (v+1))=true:=by kernel_rfl
 intro w v h1 h2 h3 h4
 have h5:=qab.1 key (w - 1) (qae.2 (by omega))
 have h6:=qab.1 h5 (v - 1) (qae.2 (by omega))
 have e1:w - 1+1=w:=by omega
 have e2:v - 1+1=v:=by omega
 rw[e1,e2]at h6
 exact h6
def uni_of{w v x y:Nat}(h1:1<=w/\w<=4/\1<=v/\v<=4)(h2:fl w v x y=true){j:Nat}(hj:j<many x):∃n,nbr w v (gZ w x y j) (cV x j)=some n/\gZ w x y j<n/\gZ w x y j<4*w*v/\n<=1000:=by
 have h:=uni_all w v h1.1 h1.2.1 h1.2.2.1 h1.2.2.2
 have h3:=h2
 unfold fl at h3
 simp only[qaa,qaO]at h3
 have h4:=qab.1 (qab.1 h x (qae.2 (by omega))) y (qae.2 (by omega))
 rw[h2]at h4
 simp only[qaF,qbO]at h4
 have h5:=qab.1 h4 j (qae.2 hj)
 unfold uniT at h5
 split at h5
 next n e=>
  simp only[qaa,qaO,qbb]at h5
  exact⟨n,e,h5.1,h5.2.1,h5.2.2⟩
 ·cases h5
def dG(l:TA)(w x y:Nat):Nat->List Ray
 |0=>[]
 |j+1=>dG l w x y j++mG l (jU x j) (gZ w x y j) (cV x j)
def uO(l:TA)(d u e:Nat):(mG l d u e).length<=1:=by
 unfold mG
 split<;>simp
def iW(l:TA)(w x y:Nat):∀j,(dG l w x y j).length<=j
 |0=>qao _
 |j+1=>by
  unfold dG
  rw[qaC]
  have:=iW l w x y j
  have:=uO l (jU x j) (gZ w x y j) (cV x j)
  omega
def walkR_c{w v x y:Nat}(hsh:1<=w/\w<=4/\1<=v/\v<=4)(hcor:fl w v x y=true){l:TA}(hp:Pat w v l){H:HL}{n0 a b L pa ps:Nat}{xv:Value}(hF:RF H n0 a b L w v xv l)
  (hpa:H[pa]?=some (.o (.cells [.int .i64 (.ofNat x),.int .i64 (.ofNat y)] 2 true))) (hps:H[ps]?=some (.o (.cells [.int .i64 (.ofNat w),.int .i64 (.ofNat v)] 2 true))) (d1:pa≠b/\pa≠L/\ps≠b/\ps≠L) (hS:RSr H n0 a b L [] H) :
  ∃h',aw cc ac 116 [.v (.func (.yield L) #[] #[]),.v (.pointer (some ⟨pa,0,none⟩)),.v (.pointer (some ⟨ps,0,none⟩))] (absH aa H) [] (absH aa h')/\RSr H n0 a b L (dG l w x y (many x)) h':=by
 refine walk_c hsh hcor (λj h=>RSr H n0 a b L (dG l w x y j) h) (λj h hj=>⟨dF (hj.old pa _ d1.1 d1.2.1 hpa),dF (hj.old ps _ d1.2.2.1 d1.2.2.2 hps)⟩) (λj hj h hJ=>?_) hS
 obtain⟨n,u1,u2,u3,u4⟩:=uni_of hsh hcor hj
 have hm:many x<=8:=by unfold many;split<;>omega
 exact round_c hF hp (by have:=iW l w x y j;omega) hJ u3 (by have:=(yl hsh hcor hj).le;omega) u1 u2 u4
def pre_of{H h:HL}(hk:∀(i:Nat) o,H[i]?=some o->h[i]?=some o):Pre H h:=by
 refine⟨h.drop H.length,?_⟩
 conv=>lhs;rw[←qbG H.length h]
 congr 1
 apply qaR
 intro i
 rw[qa4]
 by_cases hi:i<H.length
 ·rw[qd7 hi,hk i _ (qau hi),qau hi]
 ·rw[qd8 hi,qah (by omega)]
def putE_self{h:HL}{id:Nat}{R:TD}(hg:h[id]?=some (.o (.cells (R.flatMap encR) 2 true))):putE h id 2 encR R=h:=by
 unfold putE
 apply qaR
 intro i
 by_cases hi:id=i
 ·subst hi
  rw[qaA (aM hg),hg]
 ·rw[qai hi]
def clipR_c(H:HL){id n:Nat}:aw cc ac 81 [.v (.slice (some ⟨id,0,tag 2⟩) n 0)] (absH aa H) [.v (.slice (some ⟨id,0,tag 2⟩) n (n+1))] (absH aa H):=by
 obtain⟨rs,h',h1,e1,e2⟩:=x81 (ls:=[.v (.slice (some ⟨id,0,tag 2⟩) n 0)]) (K:=λrs h'=>rs=[.v (.slice (some ⟨id,0,tag 2⟩) n (n+1))]/\h'=H) (H:=H) (glsV rfl gls0) (by
  unfold f81;simp only[qxh]
  refine p_x ?_
  refine au (x:=Int.ofNat n) rfl ?_
  refine au (x:=Int.ofNat n) rfl ?_
  have e:slS 2 (.slice (some ⟨id,0,tag 2⟩) n 0) none (some (Int.ofNat n)) (some (Int.ofNat n))=some (.slice (some ⟨id,0,tag 2⟩) n (n+1)):=by
   unfold slS
   simp only
   rw[qd8 (by simp),qd7 (by simp[cO])]
   simp[eo,bK]
  refine au e ?_
  refine aH rfl ?_
  trivial)
 rw[e1,e2]at h1
 exact h1
def ve:∀(l P:TD),(kG l P).length=l.length+P.length
 | [],P=>by simp[kG]
 |e :: r,P=>by
  rw[show kG (e :: r) P=kG r (insR e P)from rfl,ve r,ni]
  simp only[qaE]
  omega
def pn(l:TD):(gK l).length=l.length:=by
 unfold gK
 rw[qdm,ve]
 simp
def kindU_rng{l:TA}(hr:∀c∈l,rngC c)(a b:Int):0<=je l a b/\je l a b<=255:=by
 unfold je
 split
 next c hf=>
  have:=hr c (qcg hf)
  unfold rngC at this
  omega
 ·omega
def qH{l:TA}(hr:∀c∈l,rngC c)(w x y:Nat):∀j,∀r∈dG l w x y j,rngR r
 |0,r,h=>by cases h
 |j+1,r,h=>by
  unfold dG at h
  rcases qaJ.1 h with h|h
  ·exact qH hr w x y j r h
  ·unfold mG at h
   split at h
   ·cases h
   ·have e:=qaw.1 h
    subst e
    have hd:jU x j<8:=by unfold jU;split<;>omega
    have:=kindU_rng hr (Int.ofNat (gZ w x y j)) (Int.ofNat (cV x j))
    unfold rngR
    simp only[qar]at this ⊢
    omega
def clip0_c(H:HL):aw cc ac 81 [.v (.slice none 0 0)] (absH aa H) [.v (.slice none 0 0)] (absH aa H):=by
 obtain⟨rs,h',h1,e1,e2⟩:=x81 (ls:=[.v (.slice none 0 0)]) (K:=λrs h'=>rs=[.v (.slice none 0 0)]/\h'=H) (H:=H) (glsV rfl gls0) (by
  unfold f81;simp only[qxh]
  refine p_x ?_
  refine au (x:=(0:Int)) rfl ?_
  refine au (x:=(0:Int)) rfl ?_
  refine au (x:=.slice none 0 0) rfl ?_
  refine aH rfl ?_
  trivial)
 rw[e1,e2]at h1
 exact h1
def p_pend{kn kr:Prop}{ks:List (Nat×Prop)}(hk:kn):P1.pend none (@hid _ ⟨kn⟩) kr ks:=hk
def creases_c{w v x y:Nat}(hsh:1<=w/\w<=4/\1<=v/\v<=4)(hcor:fl w v x y=true){l:TA}(hp:Pat w v l){H:HL}{xv:Value}(hl:LsH H xv 3 encC l) :
  ∃G rx,aw cc ac 54 [.i (.ofNat w),.i (.ofNat v),.v xv,.i (.ofNat x),.i (.ofNat y)] (absH aa H) [.v rx,.i 0] (absH aa (H++G))/\LsH (H++G) rx 2 encR (gK (dG l w x y (many x)))/\capS rx=some (Int.ofNat (gK (dG l w x y (many x))).length):=by
 obtain⟨rs,h',h1,rx,e1,hpre,hrx,hcap⟩:=x54 (ls:=[.i (.ofNat w),.i (.ofNat v),.v xv,.i (.ofNat x),.i (.ofNat y)]) (K:=λrs h'=>∃rx,rs=[.v rx,.i 0]/\Pre H h'/\LsH h' rx 2 encR (gK (dG l w x y (many x)))/\capS rx=some (Int.ofNat (gK (dG l w x y (many x))).length)) (H:=H) (glsI (glsI (glsV hl.good (glsI (glsI gls0))))) (by
  unfold f54;simp only[qxh]
  refine p_x ?_
  have a1:(H++[HO.o (.cells [.int .i64 (.ofNat w),.int .i64 (.ofNat v),xv] 3 true)])[H.length]?=some (.o (.cells [.int .i64 (.ofNat w),.int .i64 (.ofNat v),xv] 3 true)):=by simp
  repeat (first|simp(disch:=omega)only[↓qXX]|refine dQ (dF a1) rfl ?_|refine aH hl.good ?_|refine ai (hp.check (hl.pre ⟨_,rfl⟩)) ?_|refine fQ (dF a1) (o:=0) (k:=2) (ds:=[.int .i64 (.ofNat w),.int .i64 (.ofNat v)]) (by simp) rfl ?_|refine af (corner_c hsh hcor) ?_)
  obtain⟨hA,ehA⟩ : ∃hA,hA=H++[HO.o (.cells [.int .i64 (.ofNat w),.int .i64 (.ofNat v),xv] 3 true)]++[HO.o (.cells [.slice none 0 0] 1 true)]:=⟨_,rfl⟩
  have lA:hA.length=H.length+2:=by rw[ehA];simp
  have gA:hA[H.length]?=some (.o (.cells [.int .i64 (.ofNat w),.int .i64 (.ofNat v),xv] 3 true)):=by rw[ehA];simp
  have gB:hA[H.length+1]?=some (.o (.cells [.slice none 0 0] 1 true)):=by rw[ehA];simp
  have pA:Pre H hA:=⟨_,by rw[ehA,qaH]⟩
  have e2:(H++[HO.o (.cells [.int .i64 (.ofNat w),.int .i64 (.ofNat v),xv] 3 true)]).length=H.length+1:=by simp
  rw[e2,←ehA]
  repeat (first|simp(disch:=omega)only[↓qXX]|refine fQ (dF gA) (o:=0) (k:=2) (ds:=[.int .i64 (.ofNat w),.int .i64 (.ofNat v)]) (by simp) rfl ?_|refine ai (walkF_c hA _ _ _ _) ?_)
  obtain⟨hB,ehB⟩ : ∃hB,hB=hA++[HO.o (.cells [.int .i64 (.ofNat w),.int .i64 (.ofNat v)] 2 true),HO.o (.cells [.int .i64 (.ofNat x),.int .i64 (.ofNat y)] 2 true)]:=⟨_,rfl⟩
  rw[←ehB]
  have lB:hB.length=H.length+4:=by rw[ehB];simp;omega
  have pB:Pre hA hB:=⟨_,ehB⟩
  have gs:hB[hA.length]?=some (.o (.cells [.int .i64 (.ofNat w),.int .i64 (.ofNat v)] 2 true)):=by rw[ehB];simp
  have ga:hB[hA.length+1]?=some (.o (.cells [.int .i64 (.ofNat x),.int .i64 (.ofNat y)] 2 true)):=by rw[ehB];simp
  obtain⟨hC,ehC⟩ : ∃hC,hC=hB++[HO.lp 864 .ready none [.pointer (some ⟨H.length,0,none⟩),.pointer (some ⟨H.length+1,0,none⟩)]]:=⟨_,rfl⟩
  have pC:Pre hB hC:=⟨_,ehC⟩
  have lC:hC.length=H.length+5:=by rw[ehC];simp;omega
  have gl:hC[hB.length]?=some (.lp 864 .ready none [.pointer (some ⟨H.length,0,none⟩),.pointer (some ⟨H.length+1,0,none⟩)]):=by rw[ehC];simp
  have hxC:LsH hC xv 3 encC l:=((hl.pre pA).pre pB).pre pC
  have hxb:∀i,H.length<=i->blk xv≠some i:=λi hi hq=>by
   obtain⟨_,_,⟨rfl,_⟩|⟨id,off,cx,vs,rw',rfl,h2,_⟩⟩:=hl
   ·cases hq
   ·have e:id=i:=qap hq
    have:=aM h2
    omega
  have hF:RF hC (H.length+5) H.length (H.length+1) hB.length w v xv l:=⟨lC,pC.get (pB.get gA),hxC,hxb _ (by omega),hxb _ (by omega),by omega,by omega,by omega,by omega⟩
  have hS:RSr hC (H.length+5) H.length (H.length+1) hB.length [] hC:=⟨λ_ _ _ _ h=>h,by omega,⟨_,pC.get (pB.get gB),MkL.nil _ _ _ _,rfl⟩,gl⟩
  obtain⟨h5,c5,s5⟩:=walkR_c hsh hcor hp hF (pC.get ga) (pC.get gs) (by omega) hS
  rw[ehC]at c5
  refine p_rfun (sg:=⟨[lv,lv,lv],[]⟩) (xs:=[.leaf (.v (.func (.yield hB.length) #[] #[])),.leaf (.v (.pointer (some ⟨hA.length+1,0,none⟩))),.leaf (.v (.pointer (some ⟨hA.length,0,none⟩)))]) c5 rfl rfl rfl rfl s5.lp (by simp) ?_
  refine p_pend ?_
  obtain⟨xo,gx,mk,ggx⟩:=s5.out
  have hbl:H.length+1≠hB.length:=by omega
  have gx2:(h5.set hB.length (.lp 864 .exhausted none [.pointer (some ⟨H.length,0,none⟩),.pointer (some ⟨H.length+1,0,none⟩)]))[H.length+1]?=some (.o (.cells [xo] 1 true)):=by rw[qai (qbE hbl)];exact gx
  repeat (first|simp(disch:=omega)only[↓qXX]|refine dQ (dF gx2) rfl ?_|refine aH ggx ?_)
  obtain⟨h6,eh6⟩ : ∃h6,h6=h5.set hB.length (.lp 864 .exhausted none [.pointer (some ⟨H.length,0,none⟩),.pointer (some ⟨H.length+1,0,none⟩)]):=⟨_,rfl⟩
  rw[←eh6]at gx2 ⊢
  have o6:∀(i:Nat) o,i≠hB.length->h5[i]?=some o->h6[i]?=some o:=λi o hi ho=>by rw[eh6,qai (qbE hi)];exact ho
  have oH:∀(i:Nat) o,H[i]?=some o->h6[i]?=some o:=λi o ho=>by
   have:=aM ho
   exact o6 i o (by omega) (s5.old i o (by omega) (by omega) (pC.get (pB.get (pA.get ho))))
  have hm8:many x<=8:=by unfold many;split<;>omega
  have hrl:=iW l w x y (many x)
  have hrr:=qH hp.rng w x y (many x)
  obtain⟨m1,m2,⟨rfl,hn⟩|⟨id,hid0,rfl,hg⟩⟩:=mk
  ·have hnil:dG l w x y (many x)=[]:=qbi.1 hn
   repeat (first|simp(disch:=omega)only[↓qXX]|refine ai (sort0_c h6) ?_|refine dQ (dF gx2) rfl ?_|refine aH rfl ?_|refine ai (clip0_c h6) ?_)
   exact⟨_,by trivial,pre_of oH,by rw[hnil];exact LsH.nil _ _ _,by rw[hnil];rfl⟩
  ·have hg6:=o6 id _ (by omega) hg
   have hs:=sortR_c (h:=h6) (cx:=0) (aM hg6) hrr (by omega)
   rw[putE_self hg6]at hs
   refine ai hs ?_
   refine p_x ?_
   have gx7:(putE h6 id 2 encR (gK (dG l w x y (many x))))[H.length+1]?=some (.o (.cells [.slice (some ⟨id,0,tag 2⟩) (dG l w x y (many x)).length 0] 1 true)):=by
    unfold putE
    rw[qai (by omega)];exact gx2
   repeat (first|simp(disch:=omega)only[↓qXX]|refine dQ (dF gx7) rfl ?_|refine aH ggx ?_|refine ai (clipR_c _) ?_)
   refine⟨_,by trivial,pre_of λi o ho=>?_,?_,by rw[pn];rfl⟩
   ·unfold putE
    have:=aM ho
    rw[qai (by omega)];exact oH i o ho
   ·rw[←pn]
    exact lI gp (aM hg6))
 obtain⟨G,rfl⟩:=hpre
 rw[e1]at h1
 exact⟨G,rx,h1,hrx,hcap⟩
def rysC(l:TA)(w x y:Nat):TD:=gK (dG l w x y (many x))
def plainR{l:TE}{σ:TB}(hl:l.all (λl=>match l with | .v _=>false|_=>true)=true):l.map (renL σ)=l:=by
 induction l with
 |nil=>rfl
 |cons a l ih=>
  simp only[qbK,qaa]at hl
  rw[qav,ih hl.2]
  cases a<;>first|rfl|(simp at hl)
def isYes(x:RT):Bool:=match x with
 |some []=>true
 |_=>false
def isYes_ok{x:RT}(h:isYes x=true):x=yes:=by
 unfold isYes at h
 split at h
 ·rfl
 ·cases h
def spkJ(x d:Nat):Tp:=if x%2=1 then(if d%2=1 then some ((d+5) / 2%4)else none)else some ((d+7)%8)
section
variable {w v:Nat} (hsh:1<=w/\w<=4/\1<=v/\v<=4)
include hsh
end
def dirR(l:TA)(w x y d:Nat):TD:=match spkJ x d with
 |some j=>mG l d (gZ w x y j) (cV x j)
 |none=>[]
def refR(l:TA)(w x y:Nat):TD:=(List.range 8).flatMap (dirR l w x y)
def ru{l:TA}{w x y d:Nat}{r:Ray}(h:r∈dirR l w x y d):r.1=Int.ofNat d:=by
 unfold dirR at h
 split at h
 ·unfold mG at h
  split at h
  ·cases h
  ·rw[qaw]at h;subst h;rfl
 ·cases h
def ry{l:TA}{w x y d:Nat}:(dirR l w x y d).length<=1:=by
 unfold dirR
 split
 ·exact uO _ _ _ _
 ·simp
def pair1{l:TD}(h:l.length<=1):l.Pairwise λa b=>a.1<b.1:=by
 rcases l with _|⟨a,_|⟨b,l⟩⟩
 ·exact .nil
 ·exact qcs _ _
 ·simp at h
def tG{l:TA}{w x y:Nat}:∀ {ds:Tz},(ds.Pairwise λa b=>a<b)->(ds.flatMap (dirR l w x y)).Pairwise λa b=>a.1<b.1
 | [],_=>.nil
 |d :: ds,h=>by
  obtain⟨h1,h2⟩:=qa9.1 h
  rw[qby,qcH]
  refine⟨pair1 ry,tG h2,λa ha b hb=>?_⟩
  obtain⟨d',hd',hb⟩:=qbn.1 hb
  rw[ru ha,ru hb]
  have:=h1 d' hd'
  show(d:Int)<d'
  omega
def xm{e:Ray}:∀ {P:TD},(∀p∈P,e.1<p.1)->insR e P=P++[e]
 | [],_=>rfl
 |p :: P,h=>by
  unfold insR
  rw[qd7 (h p qay),xm λq hq=>h q (qas _ hq)]
  rfl
def insR_head{e:Ray}{P:TD}(h:∀p∈P,p.1<e.1):insR e P=e :: P:=by
 cases P with
 |nil=>rfl
 |cons p P=>
  have:=h p qay
  unfold insR
  rw[qd8 (by omega)]
def vd:∀ {A P:TD},(A.Pairwise λa b=>a.1<b.1)->(∀a∈A,∀p∈P,p.1<a.1)->kG A P=A.reverse++P
 | [],P,_,_=>rfl
 |a :: A,P,h,hp=>by
  obtain⟨h1,h2⟩:=qa9.1 h
  show kG A (insR a P)=_
  rw[insR_head (hp a qay),vd h2 (λb hb p hq=>by
   rcases qak.1 hq with rfl|hq
   ·exact h1 b hb
   ·exact hp b (qas _ hb) p hq)]
  simp
def vc:∀(A B P:TD),kG (A++B) P=kG B (kG A P)
 | [],_,_=>rfl
 |a :: A,B,P=>by
  show kG (A++B) (insR a P)=_
  rw[vc A B];rfl
def vf{A B:TD}(h:(B++A).Pairwise λa b=>a.1<b.1)(hB:B.length<=1):gK (A++B)=B++A:=by
 obtain⟨h1,h2,h3⟩:=qcH.1 h
 unfold gK
 rw[vc,vd h2 (λa _ p hp=>by cases hp),qaU]
 rcases B with _|⟨b,_|⟨b',B⟩⟩
 ·show A.reverse.reverse=_
  simp
 ·show(insR b A.reverse).reverse=_
  rw[xm λp hp=>h3 b qay p (List.mem_reverse.1 hp)]
  simp
 ·simp at hB
def rays_odd{l:TA}{w x y:Nat}(h:x%2=1):dG l w x y (many x)=dirR l w x y 3++dirR l w x y 5++dirR l w x y 7++dirR l w x y 1:=by
 have e:many x=4:=qd7 h
 rw[e]
 simp[dG,dirR,spkJ,h,jU]
def rays_even{l:TA}{w x y:Nat}(h:¬x%2=1):dG l w x y (many x)=dirR l w x y 1++dirR l w x y 2++dirR l w x y 3++dirR l w x y 4++dirR l w x y 5++dirR l w x y 6++dirR l w x y 7++dirR l w x y 0:=by
 have e:many x=8:=qd8 h
 rw[e]
 simp[dG,dirR,spkJ,h,jU]
def refR_pair(l:TA)(w x y:Nat):(refR l w x y).Pairwise λa b=>a.1<b.1:=tG qb1
def sI(l:TA)(w x y:Nat):rysC l w x y=refR l w x y:=by
 have hp:=refR_pair l w x y
 have hr:refR l w x y=dirR l w x y 0++(dirR l w x y 1++(dirR l w x y 2++(dirR l w x y 3++(dirR l w x y 4++(dirR l w x y 5++(dirR l w x y 6++dirR l w x y 7)))))):=by
  unfold refR
  show List.flatMap _ [0,1,2,3,4,5,6,7]=_
  simp
 rw[hr]at hp ⊢
 unfold rysC
 by_cases h:x%2=1
 ·rw[rays_odd h]
  have z:∀d,d%2=0->dirR l w x y d=[]:=λd hd=>by simp[dirR,spkJ,h,hd]
  rw[z 0 rfl,z 2 rfl,z 4 rfl,z 6 rfl]at hp ⊢
  simp only[qaG]at hp ⊢
  have:=vf (A:=dirR l w x y 3++(dirR l w x y 5++dirR l w x y 7)) (B:=dirR l w x y 1) hp ry
  simpa[qaH]using this
 ·rw[rays_even h]
  have:=vf (A:=dirR l w x y 1++(dirR l w x y 2++(dirR l w x y 3++(dirR l w x y 4++(dirR l w x y 5++(dirR l w x y 6++dirR l w x y 7)))))) (B:=dirR l w x y 0) hp ry
  simpa[qaH]using this
def refR_len(l:TA)(w x y:Nat):(refR l w x y).length<=8:=by
 rw[←sI]
 unfold rysC
 rw[pn]
 have:=iW l w x y (many x)
 have hm:many x<=8:=by unfold many;split<;>omega
 omega
def encP(p:Nat×Nat):Tl:=[.int .i64 (.ofNat p.1),.int .i64 (.ofNat p.2)]
def encP_len(p:Nat×Nat):(encP p).length=2:=rfl
def corL(w v:Nat):List (Nat×Nat):=(List.range (2*v)).flatMap λy=>(List.range (2*w)).filterMap λx=>if fl w v x y then some (x,y)else none
def wM{w v:Nat}{p:Nat×Nat}(h:p∈corL w v):fl w v p.1 p.2=true:=by
 unfold corL at h
 obtain⟨y,_,h⟩:=qbn.1 h
 obtain⟨x,_,h⟩:=qa8.1 h
 split at h
 ·cases h;assumption
 ·cases h
def ym(w v:Nat):Bool:=isYes (runF 60 (.f 20) [.i (.ofNat w),.i (.ofNat v)] .empty (λrs h=>match rs with
   | .v x :: r=>ans (eqLs r [.i 0]&&isSl h x 2 (corL w v).length ((corL w v).flatMap encP))
   |_=>none))&&(Nat.blt 0 (corL w v).length&&Nat.ble (corL w v).length 100)
def cor_all:∀w v:Nat,1<=w->w<=4->1<=v->v<=4->ym w v=true:=by
 have key:((List.range 4).all λw=>(List.range 4).all λv=>ym (w+1) (v+1))=true:=by kernel_rfl
 intro w v h1 h2 h3 h4
 have h5:=qab.1 key (w - 1) (qae.2 (by omega))
 have h6:=qab.1 h5 (v - 1) (qae.2 (by omega))
 have e1:w - 1+1=w:=by omega
 have e2:v - 1+1=v:=by omega
 rw[e1,e2]at h6
 exact h6
def cor_len{w v:Nat}(hsh:1<=w/\w<=4/\1<=v/\v<=4):0<(corL w v).length/\(corL w v).length<=100:=by
 have h:=cor_all w v hsh.1 hsh.2.1 hsh.2.2.1 hsh.2.2.2
 unfold ym at h
 rw[qaa,qaa,qaO,qbb]at h
 exact h.2
def all_c{w v:Nat}(hsh:1<=w/\w<=4/\1<=v/\v<=4)(H:HL):∃ax G,aw cc ac 20 [.i (.ofNat w),.i (.ofNat v)] (absH aa H) [.v ax,.i 0] (absH aa (H++G))/\LsH (H++G) ax 2 encP (corL w v):=by
 have h:=cor_all w v hsh.1 hsh.2.1 hsh.2.2.1 hsh.2.2.2
 unfold ym at h
 rw[qaa]at h
 obtain⟨s,G,c1,c2⟩:=made (g:=20) (rest:=[.i 0]) rfl (by kernel_rfl) rfl rfl (isYes_ok h.1) H
 exact⟨s,G,c1,λu _=>encP_len u,c2⟩
def callv_cf{g:TQ}{sg:Sig}{p:Value}{ls rs:TE}{H H':Ts}(hc:aw cc ac g (.v p :: ls) H rs H')(hs:ac g=some sg)(xs:List S0)(h1:bQ (.leaf (.v p) :: xs) sg.ps=true)(h2:bT (.leaf (.v p) :: xs) = .v p :: ls) :
  th cc (.func (.func g) ⟨[p]⟩ ⟨[]⟩) (ah xs) sg.rs H rs H':=by
 obtain⟨sg',xs',ys,c1,c2,c3,c4⟩:=hc
 rw[hs]at c1
 cases c1
 obtain⟨w1,_⟩:=cM c2.1 h1 (c2.2.1.trans h2.symm)
 rw[w1]at c4
 have e:(⟨[p]⟩ : Array Value).toList++ah xs++(⟨[]⟩ : Array Value).toList=ah (.leaf (.v p) :: xs):=by
  show [p]++ah xs++[]=p :: ah xs
  simp
 exact⟨ys,c3,.inl ⟨g,⟨[p]⟩,⟨[]⟩,rfl,by rw[e];exact c4⟩⟩
def n_rem{k:TH}{d:Nat}{m:Int}(n:Nat)(hm:m=Int.ofNat n)(hn:0<n){K:Tu}:P1.ari .rem k (Int.ofNat d) m (@hid _ ⟨K⟩)=K (Int.ofNat (d%n)):=by
 subst hm
 rw[p_rem_nn (show 0<=Int.ofNat d from qaY d) (show(0:Int)<Int.ofNat n by simp only[qar];omega)]
 rfl
def mvC(t x y:Nat):Tl:=[.int .u8 (.ofNat t),.int .i64 (mvX t x y),.int .i64 (mvY t x y)]
def add_c{H:HL}{a t k x y:Nat}(hr:Refl x y k)(ht:t<8)(hto:iC x t=true)(ha:H[a]?=some (.o (.cells (mvC t x y) 3 true))) :
  aw cc ac 55 [.v (.pointer (some ⟨a,0,none⟩)),.i (.ofNat (lnK k)),.i (lnC k x y)] (absH aa H) [] (absH aa (H.set a (.o (.cells (mvC (tn t k) x y) 3 true)))):=by
 obtain⟨rs,h',h1,e1,e2⟩:=x55 (ls:=[.v (.pointer (some ⟨a,0,none⟩)),.i (.ofNat (lnK k)),.i (lnC k x y)]) (K:=λrs h'=>rs=[]/\h'=H.set a (.o (.cells (mvC (tn t k) x y) 3 true))) (H:=H) (glsV rfl (glsI (glsI gls0))) (by
  unfold f55;simp only[qxh]
  repeat (first|simp(disch:=omega)only[↓qXX]|refine af hr.mof ?_)
  refine au (x:=.pointer (some ⟨a,0,none⟩)) rfl ?_
  refine aH rfl ?_
  refine fQ (dF ha) (o:=0) (k:=3) (ds:=mvC t x y) (by simp[mvC]) rfl ?_
  unfold mvC
  repeat (first|simp(disch:=omega)only[↓qXX]|refine af (hr.thn t ht hto) ?_)
  refine au (x:=.pointer (some ⟨a,0,none⟩)) rfl ?_
  refine aH rfl ?_
  refine au (x:=.pointer (some ⟨a,0,none⟩)) rfl ?_
  refine aH rfl ?_
  refine cU (st_run ha rfl) ?_
  trivial)
 rw[e1,e2]at h1
 exact h1
def ident_c:Cc 40 [] [.i 0,.i 0,.i 0]:=by
 refine q40 rfl ?_;unfold f40;simp only[qxh]
 simp(disch:=omega)only[↓qXX]
def okRd(x:Nat)(R:TD):Prop:=∀r∈R,∃d:Nat,r.1=Int.ofNat d/\d<8/\ss x (d%4)=true
def turnD_lt(D:TC):ei D<8:=by
 unfold ei
 suffices ∀(D:TC) (t:Nat),t<8->D.foldl (λt d=>tn t (d.toNat%4)) t<8 from this D 0 (by omega)
 intro D
 induction D with
 |nil=>intro t h;exact h
 |cons d D ih=>intro t _;exact ih _ (tn_lt _ _)
def turnD_app(D:TC)(d:Int):ei (D++[d])=tn (ei D) (d.toNat%4):=by
 unfold ei
 rw[List.foldl_append];rfl
def okTurn_tn{x t k:Nat}(h:iC x t=true)(hd:ss x k=true)(ht:t<8):iC x (tn t k)=true:=by
 unfold iC ss tn at *
 simp only[qaP,qcm]at h hd ⊢
 rcases h with h|h
 ·exact .inl h
 ·rcases hd with hd|hd
  ·exact .inl hd
  ·right
   have:t=0∨t=1∨t=2∨t=3∨t=4∨t=5∨t=6∨t=7:=by omega
   rcases this with rfl|rfl|rfl|rfl|rfl|rfl|rfl|rfl<;>simp[Nat.blt]at h ⊢<;>(split<;>simp[Nat.blt]at *<;>omega)
def xF{x:Nat}:∀(D:TC) (t:Nat),(∀d∈D,ss x (d.toNat%4)=true)->t<8->iC x t=true->iC x (D.foldl (λt d=>tn t (d.toNat%4)) t)=true
 | [],_,_,_,h=>h
 |d :: D,t,hd,ht,h=>xF D _ (λe he=>hd e (qas _ he)) (tn_lt _ _) (okTurn_tn h (hd d qay) ht)
def okTurn_d{x:Nat}{D:TC}(hD:∀d∈D,∃k:Nat,d=Int.ofNat k/\k<8/\ss x (k%4)=true):iC x (ei D)=true:=by
 refine xF D 0 (λd hd=>?_) (by omega) (by unfold iC;simp[Nat.blt])
 obtain⟨k,rfl,_,h⟩:=hD d hd
 exact h
def lnK_pick{k:Nat}(hk:k<4):eu [(.i 2),(.i 4),(.i 1),(.i 3)] 0 [(Int.ofNat k,1)] 1=some [.i (.ofNat (lnK k))]:=by
 have:k=0∨k=1∨k=2∨k=3:=by omega
 rcases this with rfl|rfl|rfl|rfl<;>rfl
def take_map{R:TD}{j:Nat}{r:Ray}(h:R[j]?=some r):(R.take (j+1)).map (·.1)=(R.take j).map (·.1)++[r.1]:=by
 rw[qba,h,qbN];rfl
def closes_c{w v x y:Nat}(hsh:1<=w/\w<=4/\1<=v/\v<=4)(hcor:fl w v x y=true){l:TA}(hp:Pat w v l)(hR:okRd x (rysC l w x y))(hn:(rysC l w x y).length<=8){H:HL}{xv:Value}(hl:LsH H xv 3 encC l) :
  ∃G,aw cc ac 23 [.i (.ofNat w),.i (.ofNat v),.v xv,.i (.ofNat x),.i (.ofNat y)] (absH aa H) [.b (Nat.beq (ei ((rysC l w x y).map (·.1))) 0),.i 0] (absH aa (H++G)):=by
 obtain⟨G1,rx,hc1,hls,_⟩:=creases_c hsh hcor hp hl
 change LsH _ rx 2 encR (rysC l w x y)at hls
 have hc2:=hcor
 unfold fl at hc2
 simp only[qaa,qaO,qcm]at hc2
 generalize rysC l w x y=R at hls hR hn ⊢
 obtain⟨rs,h',h1,e1,G,rfl⟩:=x23 (ls:=[.i (.ofNat w),.i (.ofNat v),.v xv,.i (.ofNat x),.i (.ofNat y)]) (K:=λrs h'=>rs=[.b (Nat.beq (ei (R.map (·.1))) 0),.i 0]/\Pre H h') (H:=H) (glsI (glsI (glsV hl.good (glsI (glsI gls0))))) (by
  unfold f23;simp only[qxh]
  repeat (first|simp(disch:=omega)only[↓qXX]|refine ai hc1 ?_)
  refine aH rfl ?_
  refine bv hls ?_
  generalize hHc:H++G1=Hc at hls ⊢
  have hpre:Pre H Hc:=⟨G1,hHc.symm⟩
  refine bz R.length (λj (_:Unit)=>[.i (Int.ofNat j)]) (λj _=>Hc++[HO.o (.cells (mvC (ei ((R.take j).map (·.1))) x y) 3 true)]) (λ_ _=>True) (j0:=0) (s0:=()) rfl rfl (qaS _) trivial ?_
  intro j _ hj _ self hself
  have hls2:LsH (Hc++[HO.o (.cells (mvC (ei ((R.take j).map (·.1))) x y) 3 true)]) rx 2 encR R:=hls.pre ⟨_,rfl⟩
  have hblk:(Hc++[HO.o (.cells (mvC (ei ((R.take j).map (·.1))) x y) 3 true)])[Hc.length]?=some (.o (.cells (mvC (ei ((R.take j).map (·.1))) x y) 3 true)):=by simp
  refine p_x ?_
  by_cases hlt:j<R.length
  ·rw[aU hlt]
   refine p_x ?_
   obtain⟨r,hr⟩:=aK hlt
   obtain⟨d,e,hd8,hdk⟩:=hR r (qad hr)
   refine aQ hls2 rfl hr ?_
   unfold encR
   refine p_x ?_
   rw[e]
   rw[n_rem 4 (show(4:Int)=Int.ofNat 4 from rfl) (by omega)]
   have hk:d%4<4:=qbS _ (by omega)
   rw[p_inB (show 0<=Int.ofNat (d%4)from qaY _) (by show((d%4:Nat):Int)<((4:Nat):Int);omega)]
   refine au (lnK_pick hk) ?_
   refine p_x ?_
   have hrf:=refl_of (x:=x) (y:=y) (k:=d%4) (by omega) hk hdk
   refine af hrf.thr ?_
   refine p_x ?_
   have hadd:=add_c hrf (turnD_lt _) (okTurn_d λd hd=>by
    obtain⟨q,hq,rfl⟩:=qaK.1 hd
    exact hR q (qbv hq)) hblk
   have hset:(Hc++[HO.o (.cells (mvC (ei ((R.take j).map (·.1))) x y) 3 true)]).set Hc.length (.o (.cells (mvC (tn (ei ((R.take j).map (·.1))) (d%4)) x y) 3 true))=Hc++[HO.o (.cells (mvC (ei ((R.take (j+1)).map (·.1))) x y) 3 true)]:=by
    rw[take_map hr,turnD_app,e]
    simp
   rw[hset]at hadd
   refine iE (callv_cf hadd rfl [.agg [.i .u8 (.ofNat (lnK (d%4))),.i .i64 (lnC (d%4) x y)]] rfl rfl) ?_
   refine p_x ?_
   rw[bB (by omega)]
   exact hself () hlt trivial
  ·obtain rfl:j=R.length:=by omega
   rw[aX (qao _)]
   refine p_x ?_
   refine fQ (dF hblk) (o:=0) (k:=3) (ds:=mvC (ei ((R.take R.length).map (·.1))) x y) (by simp[mvC]) rfl ?_
   unfold mvC
   repeat (first|simp(disch:=omega)only[↓qXX]|refine af ident_c ?_)
   rw[qbk]
   by_cases h0:ei (R.map (·.1))=0
   ·rw[h0]
    rw[p_eqs_t (show Int.ofNat 0=0 from rfl),p_eqs_t (show mvX 0 x y=0 from rfl),p_eqs_t (show mvY 0 x y=0 from rfl),p_eqs0]
    exact⟨by trivial,hpre.trans ⟨_,rfl⟩⟩
   ·rw[p_eqs_f (show ¬Int.ofNat (ei (R.map (·.1)))=0 from λq=>h0 (qcC q))]
    refine⟨?_,hpre.trans ⟨_,rfl⟩⟩
    rw[show Nat.beq (ei (R.map (·.1))) 0=false by rw[←qaT,qcm];exact h0])
 rw[e1]at h1
 exact⟨G,h1⟩
def wkT(g:Nat):List (Bool×Nat)->Nat
 | []=>g
 |(b,k) :: l=>wkT (if b then mulT (tn 0 k) g else g) l
def bs2:Tx:=[false,true]
def oddT:Bool:=(List.range 8).all λg=>bs2.all λb0=>bs2.all λb1=>bs2.all λb2=>bs2.all λb3=>
 !(Nat.beq (wkT g [(b0,3),(b1,1),(b2,3),(b3,1)]) g)||Nat.beq (ei (bD b3 1++(bD b0 3++(bD b1 5++bD b2 7)))) 0
def evenT:Bool:=(List.range 8).all λg=>bs2.all λb0=>bs2.all λb1=>bs2.all λb2=>bs2.all λb3=>bs2.all λb4=>bs2.all λb5=>bs2.all λb6=>bs2.all λb7=>
 !(Nat.beq (wkT g [(b0,1),(b1,2),(b2,3),(b3,0),(b4,1),(b5,2),(b6,3),(b7,0)]) g)||Nat.beq (ei (bD b7 0++(bD b0 1++(bD b1 2++(bD b2 3++(bD b3 4++(bD b4 5++(bD b5 6++bD b6 7)))))))) 0
def odd_all:oddT=true:=by kernel_rfl
def even_all:evenT=true:=by kernel_rfl
def mem2(b:Bool):b∈bs2:=by cases b<;>simp[bs2]
def odd_of{g:Nat}(hg:g<8)(b0 b1 b2 b3:Bool)(h:wkT g [(b0,3),(b1,1),(b2,3),(b3,1)]=g):ei (bD b3 1++(bD b0 3++(bD b1 5++bD b2 7)))=0:=by
 have:=qab.1 odd_all g (qae.2 hg)
 have:=qab.1 (qab.1 (qab.1 (qab.1 this b0 (mem2 _)) b1 (mem2 _)) b2 (mem2 _)) b3 (mem2 _)
 rw[h,qbR]at this
 simpa using this
def even_of{g:Nat}(hg:g<8)(b0 b1 b2 b3 b4 b5 b6 b7:Bool)(h:wkT g [(b0,1),(b1,2),(b2,3),(b3,0),(b4,1),(b5,2),(b6,3),(b7,0)]=g):ei (bD b7 0++(bD b0 1++(bD b1 2++(bD b2 3++(bD b3 4++(bD b4 5++(bD b5 6++bD b6 7)))))))=0:=by
 have:=qab.1 even_all g (qae.2 hg)
 have:=qab.1 (qab.1 (qab.1 (qab.1 (qab.1 (qab.1 (qab.1 (qab.1 this b0 (mem2 _)) b1 (mem2 _)) b2 (mem2 _)) b3 (mem2 _)) b4 (mem2 _)) b5 (mem2 _)) b6 (mem2 _)) b7 (mem2 _)
 rw[h,qbR]at this
 simpa using this
def idC(w x y j:Nat):Nat:=idOf w (bi x y j)
def ringT(w v x y j:Nat):Bool:=Nat.blt (idC w x y j) (4*w*v)&&(Nat.blt (cV x j) 3&&((match nbr w v (idC w x y j) (cV x j)with
 |some n=>Nat.beq n (idC w x y (j+1))
 |none=>false)&&Nat.beq (ofM (lnC3 (clN w (gZ w x y j)) (cV x j))).1 (tn 0 (jU x j%4))))
def ringAll(w v:Nat):Bool:=(List.range (2*w)).all λx=>(List.range (2*v)).all λy=>!(fl w v x y)||(List.range (many x)).all λj=>ringT w v x y j
def ring_all:∀w v:Nat,1<=w->w<=4->1<=v->v<=4->ringAll w v=true:=by
 have key:((List.range 4).all λw=>(List.range 4).all λv=>ringAll (w+1) (v+1))=true:=by kernel_rfl
 intro w v h1 h2 h3 h4
 have h5:=qab.1 key (w - 1) (qae.2 (by omega))
 have h6:=qab.1 h5 (v - 1) (qae.2 (by omega))
 rw[show w - 1+1=w by omega,show v - 1+1=v by omega]at h6
 exact h6
section
variable {w v x y:Nat} (hs:Sh4 w v) (hc:fl w v x y=true)
include hs hc
theorem ring_of{j:Nat}(hj:j<many x):idC w x y j<4*w*v/\cV x j<3/\nbr w v (idC w x y j) (cV x j)=some (idC w x y (j+1))/\(ofM (lnC3 (clN w (gZ w x y j)) (cV x j))).1=tn 0 (jU x j%4):=by
 have h:=ring_all w v hs.1 hs.2.1 hs.2.2.1 hs.2.2.2
 have h3:=hc
 unfold fl at h3
 simp only[qaa,qaO]at h3
 have h4:=qab.1 (qab.1 h x (qae.2 (by omega))) y (qae.2 (by omega))
 rw[hc]at h4
 simp only[qaF,qbO]at h4
 have h5:=qab.1 h4 j (qae.2 hj)
 unfold ringT at h5
 simp only[qaa,qaO,qcm]at h5
 obtain⟨q1,q2,q3,q4⟩:=h5
 refine⟨q1,q2,?_,q4⟩
 split at q3
 next n hn=>
  rw[hn,qac q3]
 ·cases q3
def crJ(l:TA)(w x y j:Nat):Bool:=isCr l (gZ w x y j) (cV x j)
theorem ring_step{l:TA}{G:TO}(hG:eA w v l G){j:Nat}(hj:j<many x):(G (idC w x y (j+1))).1=if crJ l w x y j then mulT (tn 0 (jU x j%4)) (G (idC w x y j)).1 else(G (idC w x y j)).1:=by
 obtain⟨h1,h2,h3,h4⟩:=ring_of hs hc hj
 rw[hG _ _ _ h1 h2 h3]
 unfold acM crJ
 have e:min (idC w x y j) (idC w x y (j+1))=gZ w x y j:=rfl
 rw[e,←h4]
 split<;>rfl
end
def idC_many{w x y:Nat}:idC w x y (many x)=idC w x y 0:=by
 unfold idC bi
 rw[Nat.mod_self,Nat.zero_mod]
def uj{l:TA}(hk:∀c∈l,1<=c.2.2/\c.2.2<=3){u e:Nat}:je l (.ofNat u) (.ofNat e)=0↔isCr l u e=false:=by
 unfold je isCr
 rw[decide_eq_false_iff_not]
 constructor
 ·intro h hm
  obtain⟨c,h1,h2⟩:=qaK.1 hm
  unfold cv at h2
  simp only[qbY]at h2
  split at h
  next c' hf=>
   have:=hk c' (qcg hf)
   omega
  next hf=>
   have:=qcS.1 hf c h1
   unfold eqU at this
   simp[h2.1,h2.2]at this
 ·intro h
  split
  next c hf=>
   have h1:=qcg hf
   have h2:=List.find?_some hf
   unfold eqU at h2
   exfalso
   apply h
   refine qaK.2 ⟨c,h1,?_⟩
   unfold cv
   simp only[qaa,qd4]at h2
   rw[h2.1,h2.2]
  ·rfl
def dirR_bits{l:TA}(hk:∀c∈l,1<=c.2.2/\c.2.2<=3){w x y d:Nat}:(dirR l w x y d).map (·.1)=match spkJ x d with
  |some j=>bD (crJ l w x y j) d
  |none=>[]:=by
 unfold dirR
 cases hj:spkJ x d with
 |none=>rfl
 |some j=>
  show(mG l d (gZ w x y j) (cV x j)).map (·.1)=bD (isCr l (gZ w x y j) (cV x j)) d
  unfold mG
  by_cases h:je l (.ofNat (gZ w x y j)) (.ofNat (cV x j))=0
  ·rw[qd7 h,(uj hk).1 h];rfl
  ·rw[qd8 h]
   have:isCr l (gZ w x y j) (cV x j)=true:=by
    rw[←Bool.not_eq_false]
    exact λq=>h ((uj hk).2 q)
   rw[this];rfl
def close_of{w v x y:Nat}(hs:Sh4 w v)(hc:fl w v x y=true){l:TA}(hk:∀c∈l,1<=c.2.2/\c.2.2<=3){G:TO}(hG:eA w v l G)(h0:G 0=idM)(h8:∀c,c<4*w*v->(G c).1<8):ei ((refR l w x y).map (·.1))=0:=by
 have hr:(refR l w x y).map (·.1)=(dirR l w x y 0).map (·.1)++((dirR l w x y 1).map (·.1)++((dirR l w x y 2).map (·.1)++((dirR l w x y 3).map (·.1)++((dirR l w x y 4).map (·.1)++((dirR l w x y 5).map (·.1)++((dirR l w x y 6).map (·.1)++(dirR l w x y 7).map (·.1))))))):=by
  unfold refR
  show(List.flatMap _ [0,1,2,3,4,5,6,7]).map _=_
  simp
 rw[hr]
 simp only[dirR_bits hk]
 have hm0:=ring_of hs hc (j:=0) (by unfold many;split<;>omega)
 have hg:=h8 _ hm0.1
 have st:=λj hj=>ring_step hs hc hG (j:=j) hj
 have hend:(G (idC w x y (many x))).1=(G (idC w x y 0)).1:=by rw[idC_many]
 by_cases ho:x%2=1
 ·have em:many x=4:=qd7 ho
  rw[em]at st hend
  simp only[spkJ,qd7 ho]
  simp only[Nat.reduceMod,Nat.reduceAdd,Nat.reduceDiv,Nat.one_ne_zero,Nat.zero_ne_one,if_true,if_false,qaG]
  refine odd_of hg (crJ l w x y 0) (crJ l w x y 1) (crJ l w x y 2) (crJ l w x y 3) ?_
  have s0:=st 0 (by omega)
  have s1:=st 1 (by omega)
  have s2:=st 2 (by omega)
  have s3:=st 3 (by omega)
  simp only[jU,qd7 ho,Nat.reduceMul,Nat.reduceAdd,Nat.reduceMod]at s0 s1 s2 s3
  simp only[wkT]
  rw[←s0,←s1,←s2,←s3]
  exact hend
 ·have em:many x=8:=qd8 ho
  rw[em]at st hend
  simp only[spkJ,qd8 ho]
  simp only[Nat.reduceMod,Nat.reduceAdd]
  refine even_of hg (crJ l w x y 0) (crJ l w x y 1) (crJ l w x y 2) (crJ l w x y 3) (crJ l w x y 4) (crJ l w x y 5) (crJ l w x y 6) (crJ l w x y 7) ?_
  have s0:=st 0 (by omega)
  have s1:=st 1 (by omega)
  have s2:=st 2 (by omega)
  have s3:=st 3 (by omega)
  have s4:=st 4 (by omega)
  have s5:=st 5 (by omega)
  have s6:=st 6 (by omega)
  have s7:=st 7 (by omega)
  simp only[jU,qd8 ho,Nat.reduceAdd,Nat.reduceMod]at s0 s1 s2 s3 s4 s5 s6 s7
  simp only[wkT]
  rw[←s0,←s1,←s2,←s3,←s4,←s5,←s6,←s7]
  exact hend
def coS(w v x y:Int):Prop:=0<x/\0<y/\x<2*w/\y<2*v/\x%2=y%2
instance (w v x y : Int) : Decidable (coS w v x y) := by unfold coS; infer_instance
def refR_dirs{l:TA}{w x y:Nat}{r:Ray}(h:r∈refR l w x y):∃d:Nat,r.1=Int.ofNat d/\d<8/\ss x (d%4)=true:=by
 obtain⟨d,hd,hm⟩:=qbn.1 h
 rw[qae]at hd
 refine⟨d,ru hm,hd,?_⟩
 unfold dirR at hm
 split at hm
 next j hj=>
  unfold spkJ at hj
  unfold ss
  rw[qaP,qcm,qcm]
  split at hj
  ·split at hj
   ·omega
   ·cases hj
  ·omega
 ·cases hm
def closes_f{w v x y:Nat}(hsh:1<=w/\w<=4/\1<=v/\v<=4)(hcor:fl w v x y=true){l:TA}(hF:PatF w v l){H:HL}{xv:Value}(hl:LsH H xv 3 encC l) :
  ∃G,aw cc ac 23 [.i (.ofNat w),.i (.ofNat v),.v xv,.i (.ofNat x),.i (.ofNat y)] (absH aa H) [.b (Nat.beq (ei ((refR l w x y).map (·.1))) 0),.i 0] (absH aa (H++G)):=by
 rw[←sI]
 exact closes_c hsh hcor hF.pat (λr hr=>by rw[sI]at hr;exact refR_dirs hr) (by rw[sI];exact refR_len l w x y) hl
def opnC(l:TA)(w:Nat)(p:Nat×Nat):Bool:=!(Nat.beq (ei ((refR l w p.1 p.2).map (·.1))) 0)
def open1_c{w v:Nat}(hs:Sh4 w v){l:TA}(hP:PatF w v l){H:HL}{xv:Value}{b:Nat}(hl:LsH H xv 3 encC l)(hb:H[b]?=some (.o (.cells [.int .i64 (.ofNat w),.int .i64 (.ofNat v),xv] 3 true))){p:Nat×Nat}(hp:fl w v p.1 p.2=true) :
  ∃G,aw cc ac 22 [.i (.ofNat p.1),.i (.ofNat p.2),.v (ptrB b)] (absH aa H) [.b (opnC l w p)] (absH aa (H++G)):=by
 obtain⟨G1,c1⟩:=closes_f hs hp hP hl
 obtain⟨rs,h',h1,rfl,G,rfl⟩:=x22 (ls:=[.i (.ofNat p.1),.i (.ofNat p.2),.v (ptrB b)]) (K:=λrs h'=>rs=[.b (opnC l w p)]/\Pre H h') (H:=H) (glsI (glsI (glsV (fz hb).good gls0))) (by
  unfold f22;simp only[qxh]
  repeat (first|simp(disch:=omega)only[↓qXX]|refine oO (fz hb) rfl ?_|refine aH hl.good ?_|refine ai c1 ?_)
  exact⟨rfl,⟨_,rfl⟩⟩)
 exact⟨G,h1⟩
def idxI(P:List (Nat×Nat))(t:Nat×Nat->Bool):Int:=match P.findIdx? t with
 |some i=>Int.ofNat i
 |none=>-1
def pidx_c{w v:Nat}(hs:Sh4 w v){l:TA}(hP:PatF w v l){H:HL}{xv av:Value}{b:Nat}(hl:LsH H xv 3 encC l)(hb:H[b]?=some (.o (.cells [.int .i64 (.ofNat w),.int .i64 (.ofNat v),xv] 3 true))){P:List (Nat×Nat)}(ha:LsH H av 2 encP P)(hcor:∀p∈P,fl w v p.1 p.2=true)(hPl:P.length<=100) :
  ∃G,aw cc ac 21 [.v av,.v (.func (.func 22) ⟨[]⟩ ⟨[ptrB b]⟩)] (absH aa H) [.i (idxI P (opnC l w))] (absH aa (H++G)):=by
 have hgc:aT (.func (.func 22) ⟨[]⟩ ⟨[ptrB b]⟩)=true:=rfl
 obtain⟨rs,h',h1,rfl,G,rfl⟩:=x21 (ls:=[.v av,.v (.func (.func 22) ⟨[]⟩ ⟨[ptrB b]⟩)]) (K:=λrs h'=>rs=[.i (idxI P (opnC l w))]/\Pre H h') (H:=H) (glsV ha.good (glsV hgc gls0)) (by
  unfold f21;simp only[qxh]
  refine p_x ?_
  refine bv ha ?_
  refine bz (σ:=HL) P.length (λj _=>[.i (Int.ofNat j)]) (λ_ s=>s) (λj s=>Pre H s/\∀p∈P.take j,opnC l w p=false) (j0:=0) (s0:=H) rfl rfl (qaS _) ⟨Pre.refl _,λp hp=>by simp at hp⟩ ?_
  rintro j s hj ⟨hps,hno⟩ self hself
  refine p_x ?_
  by_cases hlt:j<P.length
  ·rw[aU hlt]
   refine p_x ?_
   obtain⟨p,hp⟩:=aK hlt
   refine aQ (ha.pre hps) rfl hp ?_
   unfold encP
   refine p_x ?_
   obtain⟨G1,c1⟩:=open1_c hs hP (hl.pre hps) (hps.get hb) (hcor p (qad hp))
   refine iE (tz (args:=[.agg #[.int .i64 (Int.ofNat p.1),.int .i64 (Int.ofNat p.2)]]) c1 rfl [.agg [.i .i64 (Int.ofNat p.1),.i .i64 (Int.ofNat p.2)],.leaf (.v (ptrB b))] rfl rfl rfl) ?_
   have tk:P.take (j+1)=P.take j++[p]:=by rw[qba,hp];rfl
   cases ht:opnC l w p
   ·simp(disch:=omega)only[↓qXX]
    rw[bB (by omega)]
    refine hself _ hlt ⟨hps.app G1,λq hq=>?_⟩
    rw[tk]at hq
    rcases qaJ.1 hq with hq|hq
    ·exact hno q hq
    ·rw[qaw]at hq
     subst hq;exact ht
   ·simp(disch:=omega)only[↓qXX]
    refine⟨?_,hps.app G1⟩
    have:P.findIdx? (opnC l w)=some j:=by
     rw[qcf]
     refine⟨hlt,?_,λi hi=>?_⟩
     ·rw[qau hlt]at hp
      rw[qap hp];exact ht
     ·have:=hno P[i] (qad (i:=i) (by rw[qa4,qd7 hi];exact qau _))
      rw[this];simp
    unfold idxI
    rw[this]
  ·obtain rfl:j=P.length:=by omega
   rw[aX (qao _)]
   refine p_x ?_
   refine⟨?_,hps⟩
   rw[qbk]at hno
   unfold idxI
   rw[qdv.2 hno])
 exact⟨G,h1⟩
def opnL(l:TA)(w v:Nat):Option (Nat×Nat):=(corL w v).find? (opnC l w)
def open_c{w v:Nat}(hs:Sh4 w v){l:TA}(hP:PatF w v l){H:HL}{xv:Value}(hl:LsH H xv 3 encC l) :
  ∃G,aw cc ac 6 [.i (.ofNat w),.i (.ofNat v),.v xv] (absH aa H) (match opnL l w v with
   |some p=>[.i (.ofNat p.1),.i (.ofNat p.2),.b true,.i 0]
   |none=>[.i 0,.i 0,.b false,.i 0]) (absH aa (H++G)):=by
 obtain⟨rs,h',h1,rfl,G,rfl⟩:=x6 (ls:=[.i (.ofNat w),.i (.ofNat v),.v xv]) (K:=λrs h'=>rs=(match opnL l w v with
   |some p=>[.i (.ofNat p.1),.i (.ofNat p.2),.b true,.i 0]
   |none=>[.i 0,.i 0,.b false,.i 0])/\Pre H h') (H:=H) (glsI (glsI (glsV hl.good gls0))) (by
  unfold f6;simp only[qxh]
  refine p_x ?_
  have b1:(H++[HO.o (.cells [.int .i64 (.ofNat w),.int .i64 (.ofNat v),xv] 3 true)])[H.length]?=some (.o (.cells [.int .i64 (.ofNat w),.int .i64 (.ofNat v),xv] 3 true)):=bq
  repeat (first|simp(disch:=omega)only[↓qXX]|refine oO (fz b1) rfl ?_|refine aH hl.good ?_)
  have hl1:=hl.pre (h':=H++[HO.o (.cells [.int .i64 (.ofNat w),.int .i64 (.ofNat v),xv] 3 true)]) ⟨_,rfl⟩
  have hp1:Pre H (H++[HO.o (.cells [.int .i64 (.ofNat w),.int .i64 (.ofNat v),xv] 3 true)]):=⟨_,rfl⟩
  repeat (first|simp(disch:=omega)only[↓qXX]|refine ai (hP.pat.check hl1) ?_|refine uE (ds:=[.int .i64 (.ofNat w),.int .i64 (.ofNat v)]) (fz b1) (by simp) rfl ?_)
  generalize H++[HO.o (.cells [.int .i64 (.ofNat w),.int .i64 (.ofNat v),xv] 3 true)]=h1 at *
  obtain⟨ax,G1,c1,hax⟩:=all_c hs h1
  refine ai c1 ?_
  refine p_x ?_
  refine aH rfl ?_
  have hp2:Pre h1 (h1++G1):=⟨_,rfl⟩
  obtain⟨G2,c2⟩:=pidx_c hs hP (hl1.pre hp2) (hp2.get b1) hax (λp hp=>wM hp) (cor_len hs).2
  refine ai c2 ?_
  refine p_x ?_
  have hp3:Pre H (h1++G1++G2):=(hp1.app G1).app G2
  unfold idxI opnL
  cases hf:(corL w v).findIdx? (opnC l w)with
  |none=>
   have:(corL w v).find? (opnC l w)=none:=by
    rw[qcS]
    intro p hp
    rw[qdv.1 hf p hp]
    exact qdr
   rw[this]
   simp only
   rw[p_geq_f (show(-1:Int)<0 by decide)]
   refine p_x ?_
   exact⟨by trivial,hp3⟩
  |some i=>
   obtain⟨h2,h3,h4⟩:=qcf.1 hf
   have:(corL w v).find? (opnC l w)=some (corL w v)[i]:=by
    rw[List.find?_eq_some_iff_getElem]
    exact⟨h3,i,h2,rfl,λj hj=>by simpa using h4 j hj⟩
   rw[this]
   simp only
   rw[p_geq_t (show(0:Int)<=Int.ofNat i from qaY _)]
   refine p_x ?_
   refine aQ (hax.pre (h':=h1++G1++G2) ⟨_,rfl⟩) rfl (qau h2) ?_
   unfold encP
   refine p_x ?_
   exact⟨by trivial,hp3⟩)
 exact⟨G,h1⟩
abbrev Bls:=List (Nat×List Value)
def blH(bl:Bls):Ts:=bl.map λb=>.cells b.2 b.1 false
structure KR1 where
 f:Nat
 ls:List Lf
 bl:Bls
 rs:List Lf
def KROk(p:KR1):Prop:=∃sg H',ac p.f=some sg/\sg.rs.all SK.plain=true/\neuN p.f=none/\aw cc ac p.f p.ls (blH p.bl) p.rs H'
def AllR(l:List KR1):Prop:=∀p∈l,KROk p
def AllR.nil:AllR []:=λ_ h=>by cases h
def AllR.cons{p:KR1}{l:List KR1}(h:KROk p)(hl:AllR l):AllR (p :: l):=λq hq=>by
 rcases qak.1 hq with rfl|hq
 ·exact h
 ·exact hl q hq
def AllR.app{l m:List KR1}(h:AllR l)(hm:AllR m):AllR (l++m):=λp hp=>by
 rcases qaJ.1 hp with hp|hp
 ·exact h p hp
 ·exact hm p hp
end Go.Am
namespace Go.Am
namespace Sx
section
variable [Val] {C:Cfg} {B:Below} {pts:Tz} {ops:Tm}
def updB(bs:Tv)(i:Nat):Nat->Bool:=λj=>if j=i then true else bs j
def go_by{sl:Nat->Tp}{st:(Nat->Bool)->St}
  (hback:∀(i:Nat) o,ops[i]?=some o->∀e∈o.after.toList,Region.binds .any e=true->e.on<i)
  (hst:∀(bs:Tv) (i:Nat) o,ops[i]?=some o->bs i=false->(∀e∈o.after.toList,Region.binds .any e=true->bs e.on=true)->bM C B pts ops sl i (st bs) (st (updB bs i))) :
  ∀(fuel t:Nat) (listed:Array Bool),listed.size=ops.size->(unl ops.size listed).length=fuel->
   dS C B pts ops sl (Region.linearise.go .any ops fuel t listed []) (st λj=>listed.getD j false) (st λj=>decide (j<ops.size))/\
   ∀x∈Region.linearise.go .any ops fuel t listed [],listed.getD x true=false
 |0,t,listed,hsz,hl=>by
  have h0:unl ops.size listed=[]:=qbi.1 hl
  have:(λj=>listed.getD j false)=λj=>decide (j<ops.size):=by
   funext j
   by_cases hj:j<ops.size
   ·have hn:j∉unl ops.size listed:=by rw[h0];simp
    rw[unl,qa0,qae]at hn
    have hn2:listed.getD j true=true:=by
     cases e:listed.getD j true with
     |true=>rfl
     |false=>exact absurd ⟨hj,by simp[e]⟩ hn
    rw[qaj]at hn2 ⊢
    rw[qa7 (by omega)]at hn2 ⊢
    simp only[qbh]at hn2 ⊢
    rw[hn2];simp[hj]
   ·rw[qaj,qa6 (by omega)]
    simp[hj]
  rw[this]
  simp[Region.linearise.go,dS]
 |fuel+1,t,listed,hsz,hl=>by
  simp only[Region.linearise.go]
  generalize hrs:((List.range ops.size).filter λi=>!listed.getD i true&&((ops[i]?).map (·.after.all λe=>!Region.binds .any e||listed.getD e.on false)).getD false)=rs
  have hready:∀i∈rs,i<ops.size/\listed.getD i true=false/\∀o,ops[i]?=some o->∀e∈o.after.toList,Region.binds .any e=true->listed.getD e.on false=true:=by
   intro i hi
   rw[←hrs,qa0,qae]at hi
   obtain⟨h1,h2⟩:=hi
   simp only[qaa,qbJ]at h2
   refine⟨h1,h2.1,λo ho e he hb=>?_⟩
   have h3:=h2.2
   rw[ho]at h3
   simp only[qax,qbh]at h3
   rw[qce]at h3
   have:=h3 e (by simpa using he)
   rw[hb]at this
   simpa using this
  have hne:rs≠[]:=by
   have hu:unl ops.size listed≠[]:=by intro e;rw[e]at hl;cases hl
   obtain⟨i0,tl,hu0⟩:=qcF hu
   have hi0:i0∈unl ops.size listed:=by rw[hu0];simp
   have hi1:=hi0
   rw[unl,qa0,qae]at hi1
   have hmem:i0∈rs:=by
    rw[←hrs,qa0,qae]
    refine⟨hi1.1,?_⟩
    simp only[qaa]
    refine⟨hi1.2,?_⟩
    have ho:ops[i0]?=some ops[i0]:=by simp[hi1.1]
    rw[ho]
    simp only[qax,qbh]
    rw[qce]
    intro e he
    cases hb:Region.binds .any e with
    |false=>simp
    |true=>
     have hlt:=hback i0 _ ho e (by simpa using he) hb
     simp only[qaF,qbO]
     by_cases hlis:listed.getD e.on true=true
     ·have hs:e.on<listed.size:=by omega
      rw[qaj]at hlis ⊢
      rw[qa7 hs]at hlis ⊢
      exact hlis
     ·exfalso
      have hm:e.on∈unl ops.size listed:=by
       rw[unl,qa0,qae]
       exact⟨by omega,by simpa using hlis⟩
      rw[hu0]at hm
      rcases qak.1 hm with hm|hm
      ·omega
      ·have hs:(unl ops.size listed).Pairwise (· < ·):=qcG _ qb1
       rw[hu0,qa9]at hs
       have:=hs.1 _ hm
       omega
   intro e;rw[e]at hmem;cases hmem
  have hlen:0<rs.length:=qdl.2 hne
  have hget:rs[t%rs.length]?=some (rs[t%rs.length]'(qbS _ hlen)):=qau (qbS _ hlen)
  rw[hget]
  simp only
  generalize hi:rs[t%rs.length]'(qbS _ hlen)=i
  have hmem:i∈rs:=by rw[←hi];exact qcL _
  obtain⟨i1,i2,i3⟩:=hready i hmem
  rw[linearise_go_acc,qcX,qc8]
  have hiu:i∈(List.range ops.size).filter λj=>!listed.getD j true:=by
   rw[qa0,qae];exact⟨i1,by simp[i2]⟩
  obtain⟨pre,post,e1,e2,e3⟩:=fJ qdF hiu
  have hnew:unl ops.size (listed.setIfInBounds i true)=pre++post:=by
   rw[←e2]
   unfold unl
   refine qc0 λj hj=>?_
   rw[qaj,qaj,qa3]
   by_cases hji:i=j
   ·subst hji
    rw[qd7 rfl,qd7 (by omega)]
    simp
   ·rw[qd8 hji]
    have:(j != i)=true:=by simpa using λe=>hji e.symm
    simp[this]
  obtain⟨r1,r2⟩:=go_by hback hst fuel (t / rs.length) (listed.setIfInBounds i true) (by simp[hsz]) (by
    rw[hnew]
    have:(unl ops.size listed).length=(pre++post).length+1:=by
     show(List.filter _ _).length=_
     rw[e1];simp;omega
    omega)
  have hupd:(λj=>(listed.setIfInBounds i true).getD j false)=updB (λj=>listed.getD j false) i:=by
   funext j
   unfold updB
   rw[qaj,qa3]
   by_cases hji:i=j
   ·subst hji
    rw[qd7 rfl,qd7 (by omega),qd7 rfl];rfl
   ·rw[qd8 hji,qd8 (λe=>hji e.symm)]
    exact(qaj ..).symm
  have hout:∀x∈Region.linearise.go .any ops fuel (t / rs.length) (listed.setIfInBounds i true) [],x≠i/\listed.getD x true=false:=by
   intro x hx
   have:=r2 x hx
   rw[qaj,qa3]at this
   by_cases hxi:i=x
   ·subst hxi
    rw[qd7 rfl,qd7 (by omega)]at this
    cases this
   ·rw[qd8 hxi]at this
    exact⟨qbE hxi,by rw[qaj];exact this⟩
  have ho:ops[i]?=some ops[i]:=by simp[i1]
  have hi2:listed.getD i false=false:=by
   rw[qaj]at i2 ⊢
   rw[qa7 (by omega)]at i2 ⊢
   exact i2
  have hstep:=hst (λj=>listed.getD j false) i _ ho hi2 (i3 _ ho)
  rw[hupd]at r1
  refine⟨⟨λhm=>(hout i hm).1 rfl,_,hstep,r1⟩,λx hx=>?_⟩
  rcases qak.1 hx with rfl|hx
  ·exact i2
  ·exact(hout x hx).2
def any_by{sl:Nat->Tp}{st:(Nat->Bool)->St}
  (hback:∀(i:Nat) o,ops[i]?=some o->∀e∈o.after.toList,Region.binds .any e=true->e.on<i)
  (hst:∀(bs:Tv) (i:Nat) o,ops[i]?=some o->bs i=false->(∀e∈o.after.toList,Region.binds .any e=true->bs e.on=true)->bM C B pts ops sl i (st bs) (st (updB bs i))) (t:Nat) :
  dS C B pts ops sl (Region.linearise .any ops t) (st λ_=>false) (st λj=>decide (j<ops.size)):=by
 have hz:(unl ops.size (Array.replicate ops.size false)).length=ops.size:=by
  have:unl ops.size (Array.replicate ops.size false)=List.range ops.size:=by
   unfold unl
   rw[qcO]
   intro i hi
   rw[qae]at hi
   rw[qaj,qbx,qd7 hi]
   rfl
  rw[this];simp
 have:=(go_by hback hst ops.size t (Array.replicate ops.size false) (by simp) hz).1
 have e:(λj=>(Array.replicate ops.size false).getD j false)=λ_=>false:=by
  funext j
  rw[qaj,qbx]
  split<;>rfl
 rw[e]at this
 exact this
end
end Sx
end Go.Am
namespace Go.Am
open Sx Go.Proofs
def nFl:Fn1:=fn1 cc.P 15 ((ac 15).getD ⟨[],[]⟩) an15
abbrev ptFl:Tz:=ptsTab.getD 15 []
def cFl:Code:=er (xc 15) nFl.code
def sqA:Code->Code
 | .seq a _=>a
 |c=>c
def sqB:Code->Code
 | .seq _ b=>b
 |c=>c
def rgO:Code->Array Oper
 | .region _ ops _=>ops
 |_=>#[]
def opA:Tm:=rgO (sqA cFl)
def opF:Tm:=rgO (sqA (sqB cFl))
def cFl_eq:cFl = .seq (.region 0 opA false) (.seq (.region 1 opF true) .ret):=by kernel_rfl
def iFl:FnIs (xc 15) ac 15 nFl:=⟨⟨Tryz.f15,Tryz.func15,by kernel_rfl,by kernel_rfl,by kernel_rfl,by kernel_rfl⟩,rfl,by kernel_rfl⟩
def dfO:Oper:={ dst:=none,op:=.move (.const undef),type:=0,pos:=default,after:=#[],guard:=none }
def oI(i:Nat):Oper:=opF.toList.getD i dfO
def wN(o:Oper):Tz:=(o.after.toList.filter (Region.binds .any)).map (·.on)
def agF(w v:Nat):Value:=.agg #[.int .i64 (.ofNat w),.int .i64 (.ofNat v)]
def nlF:Value:=.slice none 0 0
def s1F(L n:Nat):Value:=.slice (some ⟨L,0,some 13⟩) n (n+1)
def s2F(L m:Nat):Value:=.slice (some ⟨L+1,0,some 11⟩) m (m+1)
def rrF(L m:Nat):Value:=.slice (some ⟨L+2+(2*m - 1),0,some 12⟩) m 0
def TF(L w v n m:Nat):Tl:=
 [agF w v,.pointer (some ⟨1,0,some 0⟩),s1F L n,s2F L m,.pointer (some ⟨1,0,some 0⟩),.int .i64 (.ofNat w),.int .i64 (.ofNat (4*w)),.pointer (some ⟨1,1,some 0⟩),.int .i64 (.ofNat v),.int .i64 (.ofNat n),s1F L n,agF w v,rrF L m,.int .i64 (.ofNat m),s2F L m]
def dstF(i:Nat):Nat:=if i=11 then 2 else if i=12 then 3 else i+4
def srcF(t:Nat):Nat:=if t=2 then 11 else if t=3 then 12 else t - 4
def tmF(b:Tv)(L w v n m:Nat):Tl:=(List.range 15).map λt=>if t<2∨b (srcF t)=true then(TF L w v n m).getD t undef else if t<4 then nlF else undef
def lcF(w v:Nat):List (Option (Tl)):=none :: some [.int .i64 (.ofNat w),.int .i64 (.ofNat v)] :: List.replicate 13 none
def ifO(b:Bool)(x:HObj):HObj:=match b with
 |true=>x
 |false=>.dead
def zMv(n:Nat):Tl:=@Nat.rec (λ_=>Tl) [] (λ_ ih=>.int .u8 (.ofNat 0) :: .int .i64 (.ofNat 0) :: .int .i64 (.ofNat 0) :: ih) n
def zKd(n:Nat):Tl:=@Nat.rec (λ_=>Tl) [] (λ_ ih=>.int .u8 (.ofNat 0) :: ih) n
def b1F(n:Nat):HObj:=.cells (zMv n) 3 true
def b2F(m:Nat):HObj:=.cells (zKd m) 1 true
def hpF(H:Ts)(b6 b8 b10:Bool)(n m:Nat):Ts:=H++ifO b6 (b1F n) :: ifO b10 (b2F m) :: List.replicate (match b8 with|true=>2*m|false=>0) .dead
def stF(H:Ts)(w v n m:Nat)(b:Tv):St:=⟨tmF b H.length w v n m,lcF w v,hpF H (b 6) (b 8) (b 10) n m⟩
def slF(L:Nat)(i:Nat):Tp:=match i with
 |6=>some L
 |10=>some (L+1)
 |_=>none
def flVal:Option Eff->Option Value
 |some (.val x)=>some x
 |_=>none
def flVal_ok{e:Option Eff}{x:Value}(h:flVal e=some x):e=some (.val x):=by
 unfold flVal at h
 split at h
 ·cases h;rfl
 ·cases h
def flLg(row:Tl):Option Eff->Option Value
 |some (.lget 1 f)=>f row
 |_=>none
def flLg_ok{row:Tl}{e:Option Eff}{x:Value}(h:flLg row e=some x):∃f,e=some (.lget 1 f)/\f row=some x:=by
 unfold flLg at h
 split at h
 ·exact⟨_,rfl,h⟩
 ·cases h
def flHp(H:Ts):Option Eff->Option (List HObj×Value)
 |some (.hop f)=>f H
 |_=>none
def flHp_ok{e:Option Eff}{r:Ts->Option (List HObj×Value)}(h:(λH=>flHp H e)=r)(hr:∃p,r []=some p):∃f,e=some (.hop f)/\f=r:=by
 match e with
 |some (.hop f)=>exact⟨f,rfl,h⟩
 |none|some (.val _)|some (.lnew _ _)|some (.lget _ _)|some (.lset _ _)|some (.hget _)|some (.call _ _)|some (.yield _ _)=>
  obtain⟨p,hp⟩:=hr
  rw[←h]at hp
  cases hp
structure FF(w v n m:Nat):Prop where
 eV:∀L,[0,2,3,5,9,11,12].map (λi=>flVal (am cc ptFl (oval (TF L w v n m)) (oI i)))=[0,2,3,5,9,11,12].map λi=>some ((TF L w v n m).getD (dstF i) undef)
 eL:∀L,[1,4,7].map (λi=>flLg [.int .i64 (.ofNat w),.int .i64 (.ofNat v)] (am cc ptFl (oval (TF L w v n m)) (oI i)))=[1,4,7].map λi=>some ((TF L w v n m).getD (dstF i) undef)
 e6:∀L,(λH=>flHp H (am cc ptFl (oval (TF L w v n m)) (oI 6)))=λH=>some (H++[b1F n],.slice (some ⟨H.length,0,tag 3⟩) n (n+1))
 e8:∀L,am cc ptFl (oval (TF L w v n m)) (oI 8)=some (.call 10 [agF w v])
 e10:∀L,(λH=>flHp H (am cc ptFl (oval (TF L w v n m)) (oI 10)))=λH=>some (H++[b2F m],.slice (some ⟨H.length,0,tag 1⟩) m (m+1))
 a0:∀H,(am cc ptFl (oval (ir Tryz.f15 [agF w v] H).tmps) (opA.toList.getD 0 dfO))=some (.lnew 1 [.int .i64 (.ofNat w),.int .i64 (.ofNat v)])
def wantF{i:Nat}(h:(oI i).guard=none)(T:Tl):bu opF T (oI i)=some true:=by unfold bu;rw[h]
def opdF(i:Nat):TJ->Bool
 | .tmp t=>Nat.ble t 1||(wN (oI i)).any λd=>Nat.blt d 13&&Nat.beq (dstF d) t
 |_=>true
def chkF(i:Nat):Bool:=(oI i).guard.isNone&&((aA neuN ptFl (oI i)).isSome&&((match (oI i).dst with
 |some d=>Nat.beq d (dstF i)
 |none=>false)&&(oI i).op.operands.toList.all (opdF i)))
def chkF_all:(List.range 13).all chkF=true:=by kernel_rfl
def UnF(w v m:Nat):Prop:=∀H:List HObj,dc cc 10 [agF w v] H (.slice (some ⟨H.length+(2*m - 1),0,some 12⟩) m 0) (H++List.replicate (2*m) .dead)
section
variable {B:Below} {H:Ts} {w v n m:Nat}
def sV(b:Tv)(i:Nat):updB b i i=true:=by unfold updB;rw[qd7 rfl]
def sW(b:Tv){i j:Nat}(h:j≠i):updB b i j=b j:=by unfold updB;rw[qd8 h]
def effF{T:Tl}{i:Nat}{L:Nat}(hm:aA neuN ptFl (oI i)≠none)(h:∀x∈(oI i).op.operands.toList,oval T x=oval (TF L w v n m) x):am cc ptFl (oval T) (oI i)=am cc ptFl (oval (TF L w v n m)) (oI i):=gk neuN ptFl hm h
def stepV{i d:Nat}{x:Value}{σ σ':St}(hi:opF[i]?=some (oI i))(hs:slF H.length i=none)(hg:(oI i).guard=none)(hd:(oI i).dst=some d)(he:am cc ptFl (oval σ.tmps) (oI i)=some (.val x))(hp:σ.put (some d) x=σ'):bM cc B ptFl opF (slF H.length) i σ σ':=by
 unfold bM
 rw[hs]
 simp only[aj,hi,wantF hg]
 exact .inl ⟨_,he,(σ,x),rfl,by rw[hd];exact hp.symm⟩
def stepL{i d:Nat}{x:Value}{σ σ':St}{row:Tl}{f:Tl->Ti}(hi:opF[i]?=some (oI i))(hs:slF H.length i=none)(hg:(oI i).guard=none)(hd:(oI i).dst=some d)(he:am cc ptFl (oval σ.tmps) (oI i)=some (.lget 1 f))(hr:σ.loc[1]?=some (some row))(hf:f row=some x)(hp:σ.put (some d) x=σ'):bM cc B ptFl opF (slF H.length) i σ σ':=by
 unfold bM
 rw[hs]
 simp only[aj,hi,wantF hg]
 refine .inl ⟨_,he,(σ,x),?_,by rw[hd];exact hp.symm⟩
 simp only[aR,hr,hf,qax]
def stepH{i d k:Nat}{σ σ':St}{f:Ts->Option (List HObj×Value)}{x:HObj}{mk:Nat->Value}(hi:opF[i]?=some (oI i))(hs:slF H.length i=some k)(hg:(oI i).guard=none)(hd:(oI i).dst=some d)(he:am cc ptFl (oval σ.tmps) (oI i)=some (.hop f))(hf:f σ.heap=some (σ.heap++[x],mk σ.heap.length))(hk:σ.heap[k]?=some .dead)(hm:Fresh mk)
  (hp:({ σ with heap:=σ.heap.set k x }:St).put (some d) (mk k)=σ'):bM cc B ptFl opF (slF H.length) i σ σ':=by
 unfold bM
 rw[hs]
 exact⟨oI i,f,σ.heap,x,mk,hi,wantF hg _,he,hf,rfl,hk,hm,by rw[hd];exact hp.symm⟩
def stepC{i d:Nat}{σ σ':St}{g:TQ}{args:Tl}{r:Value}{H':Ts}(hi:opF[i]?=some (oI i))(hs:slF H.length i=none)(hg:(oI i).guard=none)(hd:(oI i).dst=some d)(he:am cc ptFl (oval σ.tmps) (oI i)=some (.call g args))(hc:B.call g args σ.heap r H')
  (hp:({ σ with heap:=H' }:St).put (some d) r=σ'):bM cc B ptFl opF (slF H.length) i σ σ':=by
 unfold bM
 rw[hs]
 simp only[aj,hi,wantF hg]
 exact .inl ⟨_,he,r,H',hc,by rw[hd];exact hp.symm⟩
def hp_get0{b6 b8 b10:Bool}:(hpF H b6 b8 b10 n m)[H.length]?=some (ifO b6 (b1F n)):=by
 unfold hpF
 rw[qal (qao _),qbB];rfl
def hp_get1{b6 b8 b10:Bool}:(hpF H b6 b8 b10 n m)[H.length+1]?=some (ifO b10 (b2F m)):=by
 unfold hpF
 rw[qal (by omega),show H.length+1 - H.length=1 by omega];rfl
def hp_set0{b6 b8 b10:Bool}:(hpF H b6 b8 b10 n m).set H.length (b1F n)=hpF H true b8 b10 n m:=by
 unfold hpF
 rw[qbA _ _ (qao _),qbB];rfl
def hp_set1{b6 b8 b10:Bool}:(hpF H b6 b8 b10 n m).set (H.length+1) (b2F m)=hpF H b6 b8 true n m:=by
 unfold hpF
 rw[qbA _ _ (by omega),show H.length+1 - H.length=1 by omega];rfl
def hp_len{b6 b10:Bool}:(hpF H b6 false b10 n m).length=H.length+2:=by unfold hpF;simp
def hp_call{b6 b10:Bool}:hpF H b6 false b10 n m++List.replicate (2*m) .dead=hpF H b6 true b10 n m:=by
 unfold hpF
 simp
def notS{i:Nat}(h6:i≠6)(h10:i≠10):slF H.length i=none:=by
 unfold slF
 split<;>first|(exact absurd rfl h6)|(exact absurd rfl h10)|rfl
def dst_lt{i:Nat}(h:i<13):2<=dstF i/\dstF i<15/\srcF (dstF i)=i:=by
 unfold dstF
 split
 ·subst_vars;decide
 ·split
  ·subst_vars;decide
  ·unfold srcF
   rw[qd8 (by omega),qd8 (by omega)]
   omega
def src_inj{t i:Nat}(h:t<15)(h2:2<=t)(e:srcF t=i):t=dstF i:=by
 subst e
 have:∀t,t<15->2<=t->t=dstF (srcF t):=by decide
 exact this t h h2
def tm_get{b:Tv}{L t:Nat}(ht:t<15)(h:t<2∨b (srcF t)=true):(tmF b L w v n m).getD t undef=(TF L w v n m).getD t undef:=by
 unfold tmF
 rw[List.getD_eq_getElem?_getD,qan,qbe ht]
 show(if _ then _ else _)=_
 rw[qd7 h]
def tm_set{b:Tv}{L i:Nat}(hi:i<13):(tmF b L w v n m).set (dstF i) ((TF L w v n m).getD (dstF i) undef)=tmF (updB b i) L w v n m:=by
 obtain⟨h1,h2,h3⟩:=dst_lt hi
 refine qaR λt=>?_
 unfold tmF
 by_cases e:t=dstF i
 ·subst e
  rw[qaA (by simpa using h2),qan,qbe h2]
  show _=some (if _ then _ else _)
  rw[qd7 (.inr (by rw[h3];exact sV b i))]
 ·rw[qai (qbE e),qan,qan]
  by_cases ht:t<15
  ·rw[qbe ht]
   by_cases h2':t<2
   ·show some (if _ then _ else _)=some (if _ then _ else _)
    rw[qd7 (.inl h2'),qd7 (.inl h2')]
   ·show some (if _ then _ else _)=some (if _ then _ else _)
    rw[sW b λq=>e (src_inj ht (by omega) q)]
  ·rw[qah (by simpa using ht)];rfl
def stepFl(hF:FF w v n m)(hB:∀H:List HObj,B.call 10 [agF w v] H (.slice (some ⟨H.length+(2*m - 1),0,some 12⟩) m 0) (H++List.replicate (2*m) .dead)){b:Tv}{i:Nat}(hi:i<13)(ho:opF[i]?=some (oI i))(hb:b i=false)(hd:∀d∈wN (oI i),b d=true):bM cc B ptFl opF (slF H.length) i (stF H w v n m b) (stF H w v n m (updB b i)):=by
 have hc:=qab.1 chkF_all i (qae.2 hi)
 unfold chkF at hc
 simp only[qaa,Option.isNone_iff_eq_none]at hc
 obtain⟨c1,c2,c3,c4⟩:=hc
 have c2:aA neuN ptFl (oI i)≠none:=λh=>by rw[h]at c2;cases c2
 have c3:(oI i).dst=some (dstF i):=by
  split at c3
  next d hd=>rw[hd,qac c3]
  ·cases c3
 have hop:∀x∈(oI i).op.operands.toList,oval (tmF b H.length w v n m) x=oval (TF H.length w v n m) x:=λx hx=>by
  have h:=qab.1 c4 x hx
  cases x with
  |tmp t=>
   have h:(Nat.ble t 1||(wN (oI i)).any λd=>Nat.blt d 13&&Nat.beq (dstF d) t)=true:=h
   rw[qaP,qbb]at h
   rcases h with h|h
   ·exact tm_get (by omega) (.inl (by omega))
   ·obtain⟨d,h1,h2⟩:=qda.1 h
    rw[qaa,qaO,qcm]at h2
    obtain⟨q1,q2,q3⟩:=dst_lt h2.1
    rw[←h2.2]
    exact tm_get q2 (.inr (by rw[q3];exact hd d h1))
  |_=>rfl
 have he:=effF c2 hop
 have ht:=tm_set (w:=w) (v:=v) (n:=n) (m:=m) (L:=H.length) (b:=b) hi
 have u6:i≠6->updB b i 6=b 6:=λh=>sW b (qbE h)
 have u8:i≠8->updB b i 8=b 8:=λh=>sW b (qbE h)
 have u10:i≠10->updB b i 10=b 10:=λh=>sW b (qbE h)
 by_cases e6:i=6
 ·subst e6
  obtain⟨f,f1,f2⟩:=flHp_ok (hF.e6 H.length) ⟨_,rfl⟩
  refine stepH (k:=H.length) ho rfl c1 c3 (he.trans f1) (congrFun f2 _) ?_ (.slice 3 n (n+1)) ?_
  ·show(hpF H (b 6) (b 8) (b 10) n m)[H.length]?=_
   rw[hp_get0,hb];rfl
  ·show(⟨(tmF b H.length w v n m).set (dstF 6) _,lcF w v,(hpF H (b 6) (b 8) (b 10) n m).set H.length _⟩ : St)=⟨_,_,hpF H (updB b 6 6) (updB b 6 8) (updB b 6 10) n m⟩
   rw[hp_set0,u8 (by decide),u10 (by decide),sV,←ht];rfl
 by_cases e10:i=10
 ·subst e10
  obtain⟨f,f1,f2⟩:=flHp_ok (hF.e10 H.length) ⟨_,rfl⟩
  refine stepH (k:=H.length+1) ho rfl c1 c3 (he.trans f1) (congrFun f2 _) ?_ (.slice 1 m (m+1)) ?_
  ·show(hpF H (b 6) (b 8) (b 10) n m)[H.length+1]?=_
   rw[hp_get1,hb];rfl
  ·show(⟨(tmF b H.length w v n m).set (dstF 10) _,lcF w v,(hpF H (b 6) (b 8) (b 10) n m).set (H.length+1) _⟩ : St)=⟨_,_,hpF H (updB b 10 6) (updB b 10 8) (updB b 10 10) n m⟩
   rw[hp_set1,u6 (by decide),u8 (by decide),sV,←ht];rfl
 by_cases e8:i=8
 ·subst e8
  have hl:(stF H w v n m b).heap.length=H.length+2:=by
   show(hpF H (b 6) (b 8) (b 10) n m).length=_
   rw[hb,hp_len]
  have hc:=hB (stF H w v n m b).heap
  rw[hl]at hc
  refine stepC ho (notS (by decide) (by decide)) c1 c3 (he.trans (hF.e8 _)) hc ?_
  show(⟨(tmF b H.length w v n m).set (dstF 8) _,lcF w v,hpF H (b 6) (b 8) (b 10) n m++List.replicate (2*m) .dead⟩ : St)=⟨_,_,hpF H (updB b 8 6) (updB b 8 8) (updB b 8 10) n m⟩
  rw[hb,hp_call,u6 (by decide),u10 (by decide),sV,←ht];rfl
 have hst:(⟨(tmF b H.length w v n m).set (dstF i) ((TF H.length w v n m).getD (dstF i) undef),lcF w v,hpF H (b 6) (b 8) (b 10) n m⟩ : St)=stF H w v n m (updB b i):=by
  unfold stF
  rw[ht,u6 e6,u8 e8,u10 e10]
 by_cases hl:i=1∨i=4∨i=7
 ·obtain⟨f,f1,f2⟩:=flLg_ok (List.map_inj_left.1 (hF.eL H.length) i (by simpa using hl))
  exact stepL ho (notS e6 e10) c1 c3 (he.trans f1) rfl f2 hst
 ·exact stepV ho (notS e6 e10) c1 c3 (he.trans (flVal_ok (List.map_inj_left.1 (hF.eV H.length) i (by simp only[qak,qbf,or_false];omega)))) hst
end
def mem13{i:Nat}{o:Oper}(h:opF[i]?=some o):i<13/\o=oI i:=by
 have hs:opF.size=13:=by kernel_rfl
 obtain⟨h1,h2⟩:=qaD.1 h
 refine⟨by omega,?_⟩
 unfold oI
 rw[List.getD_eq_getElem?_getD,qcy,h];rfl
def deps_of{o:Oper}{l:Tz}{b:Tv}(h:wN o=l)(hd:∀e∈o.after.toList,Region.binds .any e=true->b e.on=true):∀d∈l,b d=true:=by
 intro d hd'
 rw[←h]at hd'
 obtain⟨e,h1,rfl⟩:=qaK.1 hd'
 obtain⟨h1,h2⟩:=qa0.1 h1
 exact hd e h1 h2
def backF:∀(i:Nat) o,opF[i]?=some o->∀e∈o.after.toList,Region.binds .any e=true->e.on<i:=by
 have hb:ff opF.toList 0=true:=by kernel_rfl
 intro i o h e he hx
 have:=dW hb i o (by simpa using h) e he hx
 omega
section
variable {B:Below} {H:Ts} {w v n m:Nat}
def allF(hF:FF w v n m)(hB:∀H:List HObj,B.call 10 [agF w v] H (.slice (some ⟨H.length+(2*m - 1),0,some 12⟩) m 0) (H++List.replicate (2*m) .dead))(t:Nat) :
  dS cc B ptFl opF (slF H.length) (Region.linearise .any opF t) (stF H w v n m λ_=>false) (stF H w v n m λj=>decide (j<opF.size)):=by
 refine any_by backF (λb i o ho hb hd=>?_) t
 obtain⟨hi,rfl⟩:=mem13 ho
 exact stepFl hF hB hi ho hb (deps_of rfl hd)
def anyF(hF:FF w v n m)(hB:∀H:List HObj,B.call 10 [agF w v] H (.slice (some ⟨H.length+(2*m - 1),0,some 12⟩) m 0) (H++List.replicate (2*m) .dead)){σ:St}(hσ:σ.pad 2=stF H w v n m λ_=>false)(hl:σ.heap.length=H.length) :
  eW cc B ptFl opF σ (stF H w v n m λj=>decide (j<opF.size)):=by
 refine .inr ⟨slF H.length,2,by kernel_rfl,λi k hk=>?_,λi j k h1 h2=>?_,λt=>?_⟩
 ·unfold slF at hk
  split at hk<;>first|(cases hk;omega)|cases hk
 ·unfold slF at h1 h2
  split at h1<;>split at h2<;>first|(cases h1;cases h2;rfl)|(cases h1;cases h2;omega)|(cases h1;done)|(cases h2;done)|(cases h1;simp at h2)
 ·rw[hσ];exact allF hF hB t
end
def flat_call{w v n m:Nat}(hF:FF w v n m)(hU:UnF w v m)(H:Ts):iO cc 15 [agF w v] H (.tuple #[s1F H.length n,s2F H.length m]) (H++b1F n :: b2F m :: List.replicate (2*m) .dead):=by
 have hB:∀(k:Nat) (H:Ts),(sm cc k).call 10 [agF w v] H (.slice (some ⟨H.length+(2*m - 1),0,some 12⟩) m 0) (H++List.replicate (2*m) .dead):=λk H=>by
  have hk:noK 10 [agF w v] H (.slice (some ⟨H.length+(2*m - 1),0,some 12⟩) m 0) (H++List.replicate (2*m) .dead):=.inr ⟨.inl (by kernel_rfl),hU H⟩
  cases k with
  |zero=>exact hk
  |succ k=>exact .inl hk
 refine⟨5,.inr ⟨Tryz.f15,cFl,.ret,stF H w v n m (λj=>decide (j<opF.size)),[s1F H.length n,s2F H.length m],Tryz.func15,?_,by kernel_rfl,?_,.inr rfl,?_,rfl,by rfl,?_⟩⟩
 ·obtain⟨g,h1,h2,_⟩:=iFl.is
  obtain rfl:Tryz.f15=g:=qap (Tryz.func15.symm.trans h1)
  exact h2
 ·rw[cFl_eq]
  have hpts:cc.pts 15=ptFl:=rfl
  rw[hpts]
  refine⟨.normal,⟨tmF (λ_=>false) H.length w v n m,lcF w v,H⟩,?_,.inl ⟨rfl,?_⟩⟩
  ·refine⟨rfl,?_⟩
   show ep cc _ ptFl opA (List.range opA.size) _ _
   have hsz:List.range opA.size=[0,1,2]:=by kernel_rfl
   rw[hsz]
   have r0:∀σ:St,eU σ σ:=λσ=>⟨rfl,rfl,rfl,λi x y h1 h2=>.inl (qap (h2.symm.trans h1))⟩
   have z0:opA[0]?=some (opA.toList.getD 0 dfO):=by kernel_rfl
   have z1:opA[1]?=some (opA.toList.getD 1 dfO):=by kernel_rfl
   have z2:opA[2]?=some (opA.toList.getD 2 dfO):=by kernel_rfl
   have w0:(λT=>bu opA T (opA.toList.getD 0 dfO))=λ_=>some true:=by kernel_rfl
   have w1:(λT=>bu opA T (opA.toList.getD 1 dfO))=λ_=>some true:=by kernel_rfl
   have w2:(λT=>bu opA T (opA.toList.getD 2 dfO))=λ_=>some true:=by kernel_rfl
   have u0:(opA.toList.getD 0 dfO).dst=some 1:=by kernel_rfl
   have u1:(opA.toList.getD 1 dfO).dst=some 2:=by kernel_rfl
   have u2:(opA.toList.getD 2 dfO).dst=some 3:=by kernel_rfl
   have c1:(λρ=>am cc ptFl ρ (opA.toList.getD 1 dfO))=λρ=>some (.val (ρ (.const nlF))):=by kernel_rfl
   have c2:(λρ=>am cc ptFl ρ (opA.toList.getD 2 dfO))=λρ=>some (.val (ρ (.const nlF))):=by kernel_rfl
   refine⟨_,⟨[agF w v,.pointer (some ⟨1,0,some 0⟩),undef,undef,undef,undef,undef,undef,undef,undef,undef,undef,undef,undef,undef],lcF w v,H⟩,r0 _,?_,_,⟨[agF w v,.pointer (some ⟨1,0,some 0⟩),nlF,undef,undef,undef,undef,undef,undef,undef,undef,undef,undef,undef,undef],lcF w v,H⟩,r0 _,?_,_,_,r0 _,?_,rfl⟩
   ·have hw:=congrFun w0 (ir Tryz.f15 [agF w v] H).tmps
    simp only[aj,z0]
    rw[hw]
    refine .inl ⟨_,hF.a0 H,(⟨(ir Tryz.f15 [agF w v] H).tmps,lcF w v,H⟩,.pointer (some ⟨1,0,some 0⟩)),?_,?_⟩
    ·rfl
    ·rw[u0];rfl
   ·simp only[aj,z1]
    rw[show bu opA _ (opA.toList.getD 1 dfO)=some true from congrFun w1 _]
    refine .inl ⟨_,congrFun c1 _,(_,nlF),rfl,?_⟩
    rw[u1];rfl
   ·simp only[aj,z2]
    rw[show bu opA _ (opA.toList.getD 2 dfO)=some true from congrFun w2 _]
    refine .inl ⟨_,congrFun c2 _,(_,nlF),rfl,?_⟩
    rw[u2];rfl
  ·refine⟨.normal,stF H w v n m (λj=>decide (j<opF.size)),⟨rfl,?_⟩,.inl ⟨rfl,rfl,rfl⟩⟩
   rw[qd7 rfl]
   refine⟨_,⟨rfl,rfl,rfl,λi x y h1 h2=>.inl (qap (h2.symm.trans h1))⟩,?_⟩
   exact anyF hF (hB _) rfl rfl
 ·have hr:(Tryz.f15).results.toList=[.tmp 2,.tmp 3]:=by kernel_rfl
  rw[hr]
  have hs:opF.size=13:=by kernel_rfl
  rw[hs];rfl
 ·have hs:opF.size=13:=by kernel_rfl
  rw[hs];rfl
def isUnF(m:Nat)(rs:TE)(h:HTr):Bool:=match rs with
 | [.v (.slice (some a) k 0)]=>Nat.beq a.block (2*m - 1)&&(Nat.beq a.off 0&&(tagB a.spot 2&&(Nat.beq k m&&(Nat.beq h.n (2*m)&&Nat.ble 1 m))))
 |_=>false
def is_one{x:S0}{a b:Int}(h:x.is (.agg [.i .i64,.i .i64])=true)(hl:x.cells.map SL.lf=[.i a,.i b]):x.val = .agg #[.int .i64 a,.int .i64 b]:=by
 match x,h,hl with
 | .agg [.i k n,.i k' n'],h,hl=>
  simp only[S0.is,aW,SL.is,qaa,qdA]at h
  have h1:=dd h.1
  have h2:=dd h.2
  subst h1 h2
  simp only[S0.cells,qav,qbl,SL.lf,qaV,Lf.i.injEq,and_true]at hl
  rw[←hl.1,←hl.2];rfl
def tr{k:SK}:∀ {xs:List S0},bQ xs [k]=true->∃x,xs=[x]/\x.is k=true
 | [],h=>by
  have h:false=true:=h
  cases h
 | [x],h=>⟨x,rfl,by
  have h:(x.is k&&true)=true:=h
  simpa using h⟩
 |x :: y :: l,h=>by
  have h:(x.is k&&false)=true:=h
  simp at h
def un_of{w v m:Nat}(h:runF 60 (.f 10) [.i (.ofNat w),.i (.ofNat v)] .empty (λrs h=>ans (isUnF m rs h))=yes):UnF w v m:=by
 intro H
 obtain⟨rs,h',a1,a0⟩:=(oZ 60).f 10 [.i (.ofNat w),.i (.ofNat v)] .empty _ [] (dY rfl) h
 have a2:=ans_yes a0
 clear a0
 unfold isUnF at a2
 split at a2
 next a k=>
  simp only[qaa]at a2
  obtain⟨b1,b2,b3,b4,b5,b6⟩:=a2
  have b1:=qac b1
  have b2:=qac b2
  have b3:=kI.1 b3
  have b4:=qac b4
  have b5:=qac b5
  rw[qbb]at b6
  have e0:absH aa (toL HTr.empty)=[]:=rfl
  rw[e0]at a1
  have ha:a=⟨2*m - 1,0,tag 2⟩:=by cases a;simp_all
  subst ha b4
  have hlen:(absH aa (toL h')).length=2*k:=by rw[cT,dv,b5]
  have key:=wI (N:=neuN) (λ_=>.dead) (λ_ h=>by cases h) mixed jz (by kernel_rfl) (H:=H) id a1 (λj o hj=>by simp at hj) (λl hl=>by
   simp only[qak,qbf,or_false]at hl
   rcases hl with rfl|rfl<;>trivial) (λl hl=>by
   simp only[qak,qbf,or_false]at hl
   subst hl
   exact .inr ⟨2*k - 1,0,k,0,2,by rw[hlen];omega,rfl⟩)
  obtain⟨sg,xs,ys,s1,⟨t1,t2,t3⟩,⟨u1,u2,u3⟩,hc⟩:=key
  cases s1
  have hx:ah xs=[agF w v]:=by
   obtain⟨x,rfl,q1⟩:=tr t1
   ·have t2:x.cells.map SL.lf++[]=[.i (.ofNat w),.i (.ofNat v)]:=t2
    rw[qaU]at t2
    show [x.val]=_
    rw[is_one q1 t2];rfl
  have hy:eH (ah ys) = .slice (some ⟨H.length+(2*k - 1),0,some 12⟩) k 0:=by
   obtain⟨x,rfl,q1⟩:=tr u1
   ·cases x with
    |agg cs=>have q1:false=true:=q1;cases q1
    |leaf l=>
    cases l with
    |i _ _=>have q1:false=true:=q1;cases q1
    |b _=>have q1:false=true:=q1;cases q1
    |l _=>have q1:false=true:=q1;cases q1
    |v y=>
    have u2:[Lf.v y]=[Lf.v (.slice (some ⟨jm 0 H.length id (2*k - 1),0,tag 2⟩) k 0)]:=u2
    simp only[qaV,Lf.v.injEq,and_true]at u2
    show y=_
    rw[u2]
    unfold jm
    rw[qd8 (qbX _),qdV];rfl
  rw[hx,hy]at hc
  have hc:=iP mixed hc
  have hd:((absH aa (toL h')).drop ([]:Ts).length).map (λ_=>HObj.dead)=List.replicate (2*k) .dead:=by
   rw[qbp,qbj,List.map_const',hlen]
  rw[hd]at hc
  exact hc
 ·cases a2
def ff_ok{w v n m:Nat}(h1:1<=w)(h2:w<=4)(h3:1<=v)(h4:v<=4)(hn:n=4*w*v)(hm:m=6*w*v - w - v):FF w v n m/\UnF w v m:=by
 subst hn hm
 obtain rfl|rfl|rfl|rfl:w=1∨w=2∨w=3∨w=4:=by omega
 all_goals obtain rfl|rfl|rfl|rfl:v=1∨v=2∨v=3∨v=4:=by omega
 all_goals exact⟨by constructor<;>intro<;>kernel_rfl,un_of (by kernel_rfl)⟩
def flat_cl{w v n m:Nat}(hF:FF w v n m)(hU:UnF w v m)(H:Ts):aw cc ac 15 [.i (.ofNat w),.i (.ofNat v)] H [.v (s1F H.length n),.v (s2F H.length m)] (H++b1F n :: b2F m :: List.replicate (2*m) .dead):=by
 refine⟨_,[.agg [.i .i64 (.ofNat w),.i .i64 (.ofNat v)]],[.leaf (.v (s1F H.length n)),.leaf (.v (s2F H.length m))],rfl,⟨rfl,rfl,λx hx l hl=>?_⟩,⟨rfl,rfl,λx hx l hl=>?_⟩,flat_call hF hU H⟩
 ·simp only[qak,qbf,or_false]at hx
  subst hx
  simp only[S0.cells,qak,qbf,or_false]at hl
  rcases hl with rfl|rfl<;>trivial
 ·simp only[qak,qbf,or_false]at hx
  rcases hx with rfl|rfl<;>(simp only[S0.cells,qak,qbf,or_false]at hl;subst hl;rfl)
section
variable {w v:Nat}
def zMv_eq(n:Nat):zMv n=(List.replicate n idM).flatMap encM:=by
 induction n with
 |zero=>rfl
 |succ n ih=>rw[qbQ,qby,←ih];rfl
def zKd_eq(n:Nat):zKd n=(List.replicate n (0:Int)).flatMap enc8:=by
 induction n with
 |zero=>rfl
 |succ n ih=>rw[qbQ,qby,←ih];rfl
def flat_c(hs:Sh4 w v)(h:HL):∃x k G,aw cc ac 15 [.i (.ofNat w),.i (.ofNat v)] (absH aa h) [.v x,.v k] (absH aa (h++G))/\LsH (h++G) x 3 encM (List.replicate (4*w*v) idM)/\LsH (h++G) k 1 enc8 (List.replicate (ao w v).length 0):=by
 obtain⟨hF,hU⟩:=ff_ok hs.1 hs.2.1 hs.2.2.1 hs.2.2.2 rfl rfl
 have hc:=flat_cl hF hU (absH aa h)
 rw[←(nz hs.sh).2.2]at hc
 generalize (ao w v).length=m at hc ⊢
 rw[cT]at hc
 refine⟨s1F h.length (4*w*v),s2F h.length m,(b1F (4*w*v) :: b2F m :: List.replicate (2*m) .dead).map .o,?_,?_,?_⟩
 ·rw[wE,absH_o];exact hc
 ·refine dO bC (id:=h.length) ?_ (by simp)
  rw[qal (qao _),qbB,←zMv_eq];rfl
 ·refine dO gm (id:=h.length+1) ?_ (by simp)
  rw[qal (by omega),show h.length+1 - h.length=1 by omega,←zKd_eq];rfl
end
def fdM(l:Ln)(s:Int)(g:Mv)(c:Cl):Mv:=if (if ee l (aZ g c)then(1:Int)else 0)=s then aG g (ofM l)else g
def fdL(w:Nat)(l:Ln)(s:Int)(A:TN):TN:=(List.range A.length).map λc=>fdM l s (A.getD c idM) (clN w c)
def jy{w:Nat}{l:Ln}{s:Int}{A:TN}{c:Nat}{g:Mv}(h:A[c]?=some g):(fdL w l s A)[c]?=some (fdM l s g (clN w c)):=by
 unfold fdL
 rw[qan,qbe (aM h)]
 simp[List.getD,h]
def fdL_len{w:Nat}{l:Ln}{s:Int}{A:TN}:(fdL w l s A).length=A.length:=by simp[fdL]
def fdM_ok{l:Ln}{s:Int}{g:Mv}{c:Cl}{k:Int}(hg:okM k g)(hc:-8<=l.2/\l.2<=8)(hk:0<=k):okM (k+16) (fdM l s g c):=by
 unfold fdM
 by_cases c1:(if ee l (aZ g c)then(1:Int)else 0)=s
 ·rw[qd7 c1]
  have:=cq hg (qw (n:=8) hc)
  exact br this (by omega)
 ·rw[qd8 c1]
  exact br hg (show k<=k+16 by omega)
structure FInv(w v:Nat)(k:Int)(A:TN)(ks:TC):Prop where
 la:A.length=4*w*v
 lk:ks.length=(ao w v).length
 ok:∀m∈A,okM k m
 kn:∀z∈ks,0<=z/\z<=2
 un:∀(i c e n:Nat) (kk:Int) (g g':Mv),(ao w v)[i]?=some (c,e)->nbr w v c e=some n->ks[i]?=some kk->A[c]?=some g->A[n]?=some g'->g'=if kk=0 then g else aG (ofM (lnC3 (clN w c) e)) g
def KR(kk kk':Int)(g g':Mv):Prop:=(kk≠0->kk'=kk)/\(kk=0->g=g'->kk'=0)/\(kk=0->g≠g'->kk'=1∨kk'=2)
def FInv.fold{w v:Nat}(hs:Sh4 w v){k:Int}(hk:0<=k){A:TN}{ks ks':TC}(hI:FInv w v k A ks){l:Ln}{s:Int}(hl:1<=l.1/\l.1<=4)(hc:-8<=l.2/\l.2<=8)(hlen:ks'.length=ks.length)
  (hks:∀(i c e n:Nat) (kk:Int) (g g':Mv),(ao w v)[i]?=some (c,e)->nbr w v c e=some n->ks[i]?=some kk->(fdL w l s A)[c]?=some g->(fdL w l s A)[n]?=some g'->∃kk',ks'[i]?=some kk'/\KR kk kk' g g') :
  FInv w v (k+16) (fdL w l s A) ks':=by
 have getA:∀c,c<4*w*v->∃g,A[c]?=some g:=λc hc=>aK (by rw[hI.la];exact hc)
 refine⟨by rw[fdL_len];exact hI.la,by rw[hlen];exact hI.lk,λm hm=>?_,λz hz=>?_,λi c e n kk' g1 g1' hu hn hkk hg1 hg1'=>?_⟩
 ·unfold fdL at hm
  obtain⟨c,hc',rfl⟩:=qaK.1 hm
  have hc':=qae.1 hc'
  obtain⟨g,hg⟩:=getA c (by rw[←hI.la];exact hc')
  refine fdM_ok (hI.ok _ ?_) hc hk
  rw[show A.getD c idM=g by simp[List.getD,hg]]
  exact qad hg
 ·obtain⟨i,hi⟩:=qaW hz
  have hil:=aM hi
  obtain⟨kk,hkk⟩:=aK (l:=ks) (i:=i) (by omega)
  obtain⟨⟨c,e⟩,hu⟩:=aK (l:=ao w v) (i:=i) (by rw[←hI.lk];omega)
  obtain⟨hcN,he,n,hn,_⟩:=lS (qad hu)
  obtain⟨hnN,_⟩:=iB hs.sh hcN he hn
  obtain⟨g,hg⟩:=getA c hcN
  obtain⟨g',hg'⟩:=getA n hnN
  obtain⟨z',hz',r1,r2,r3⟩:=hks i c e n kk _ _ hu hn hkk (jy hg) (jy hg')
  rw[hi]at hz'
  obtain rfl:=qap hz'
  have:=hI.kn kk (qad hkk)
  by_cases h0:kk=0
  ·by_cases h1:fdM l s g (clN w c)=fdM l s g' (clN w n)
   ·have:=r2 h0 h1;omega
   ·have:=r3 h0 h1;omega
  ·have:=r1 h0;omega
 ·have hil:=aM hkk
  obtain⟨kk,hkk0⟩:=aK (l:=ks) (i:=i) (by omega)
  obtain⟨hcN,he,n',hn',_⟩:=lS (qad hu)
  obtain⟨hnN,_,_,hcl,_⟩:=iB hs.sh hcN he hn
  obtain⟨g,hg⟩:=getA c hcN
  obtain⟨g',hg'⟩:=getA n hnN
  have hgok:=hI.ok g (qad hg)
  have hun:=hI.un i c e n kk g g' hu hn hkk0 hg hg'
  obtain⟨z',hz',r1,r2,r3⟩:=hks i c e n kk _ _ hu hn hkk0 (jy hg) (jy hg')
  rw[hkk]at hz'
  obtain rfl:=qap hz'
  rw[jy hg]at hg1
  rw[jy hg']at hg1'
  have hg1:=qap hg1
  have hg1':=qap hg1'
  rw[←hg1,←hg1']
  have hq:(clN w c).2.2<4:=(kQ hs.sh hcN).2.2.2.2
  rw[hcl]at r2 r3 ⊢
  by_cases h0:kk=0
  ·rw[qd7 h0]at hun
   subst hun
   by_cases h1:fdM l s g' (clN w c)=fdM l s g' (nbC (clN w c) e)
   ·rw[qd7 (r2 h0 h1)]
    exact h1.symm
   ·have h3:kk'≠0:=by have:=r3 h0 h1;omega
    rw[qd8 h3]
    have hsd:ee l (aZ g' (clN w c))≠ee l (aZ g' (nbC (clN w c) e)):=by
     intro h4
     apply h1
     unfold fdM
     rw[h4]
    have hp:=part_fold hgok.1 hl hq he hsd
    have hid:aG (ofM (lnC3 (clN w c) e)) (aG (ofM (lnC3 (clN w c) e)) g')=g':=by
     rw[←cL (gS _) (gS _) hgok.1,oJ,nh hgok.1]
    unfold fdM at h1 ⊢
    by_cases c1:(if ee l (aZ g' (clN w c))then(1:Int)else 0)=s
    ·by_cases c2:(if ee l (aZ g' (nbC (clN w c) e))then(1:Int)else 0)=s
     ·rw[qd7 c1,qd7 c2]at h1
      exact absurd rfl h1
     ·rw[qd7 c1,qd8 c2,hp];exact hid.symm
    ·by_cases c2:(if ee l (aZ g' (nbC (clN w c) e))then(1:Int)else 0)=s
     ·rw[qd8 c1,qd7 c2];exact hp
     ·rw[qd8 c1,qd8 c2]at h1
      exact absurd rfl h1
  ·rw[qd8 h0]at hun
   rw[r1 h0,qd8 h0]
   subst hun
   unfold fdM
   rw[oy hgok.1 hq he]
   by_cases c1:(if ee l (aZ g (clN w c))then(1:Int)else 0)=s
   ·rw[qd7 c1,qd7 c1,cL (gS _) hgok.1 (gS _)]
   ·rw[qd8 c1,qd8 c1]
def p_gtr_d{a b:Int}{K:Tn}(h1:K true)(h2:K false):P1.cmp .gtr a b (@hid _ ⟨K⟩):=by
 rcases Int.lt_or_le b a with h|h
 ·rw[p_gtr_t h];exact h1
 ·rw[p_gtr_f h];exact h2
def KP(w v:Nat)(A':TN)(ks:TC)(j:Nat)(ks':TC):Prop:=ks'.length=ks.length/\(∀i:Nat,j<=i->ks'[i]?=ks[i]?)/\∀(i c e n:Nat) (kk:Int) (g g':Mv),i<j->(ao w v)[i]?=some (c,e)->nbr w v c e=some n->ks[i]?=some kk->A'[c]?=some g->A'[n]?=some g'->∃kk',ks'[i]?=some kk'/\KR kk kk' g g'
def KP.step{w v:Nat}{A':TN}{ks ks':TC}{j:Nat}(h:KP w v A' ks j ks'){c e n:Nat}{kk kk':Int}{g g':Mv}(hu:(ao w v)[j]?=some (c,e))(hn:nbr w v c e=some n)(hk:ks[j]?=some kk)(hg:A'[c]?=some g)(hg':A'[n]?=some g')(hr:KR kk kk' g g'):KP w v A' ks (j+1) (ks'.set j kk'):=by
 obtain⟨h1,h2,h3⟩:=h
 refine⟨by rw[qbD];exact h1,λi hi=>?_,λi c1 e1 n1 kk1 g1 g1' hi hu1 hn1 hk1 hg1 hg1'=>?_⟩
 ·rw[qai (by omega)]
  exact h2 i (by omega)
 ·by_cases hij:i=j
  ·subst hij
   rw[hu]at hu1
   cases hu1
   rw[hn]at hn1
   cases hn1
   rw[hk]at hk1
   cases hk1
   rw[hg]at hg1
   cases hg1
   rw[hg']at hg1'
   cases hg1'
   exact⟨kk',by rw[qaA (by rw[h1];exact aM hk)],hr⟩
  ·obtain⟨z,z1,z2⟩:=h3 i c1 e1 n1 kk1 g1 g1' (by omega) hu1 hn1 hk1 hg1 hg1'
   exact⟨z,by rw[qai (qbE hij)];exact z1,z2⟩
def KP.same{w v:Nat}{A':TN}{ks ks':TC}{j:Nat}(h:KP w v A' ks j ks'){c e n:Nat}{kk:Int}{g g':Mv}(hu:(ao w v)[j]?=some (c,e))(hn:nbr w v c e=some n)(hk:ks[j]?=some kk)(hg:A'[c]?=some g)(hg':A'[n]?=some g')(hr:KR kk kk g g'):KP w v A' ks (j+1) ks':=by
 have:=h.step hu hn hk hg hg' hr
 rwa [ed (by rw[h.2.1 j (qao _)];exact hk)]at this
def fold_c{w v:Nat}(hs:Sh4 w v){H:HL}{x y:Value}{A:TN}{ks:TC}{k:Int}(hk:0<=k/\k<=700)(hA:LsH H x 3 encM A)(hK:LsH H y 1 enc8 ks)(hI:FInv w v k A ks){l:Ln}(hl:1<=l.1/\l.1<=4)(hc:-8<=l.2/\l.2<=8)(s o:Int) :
  ∃x' y' h' ks',aw cc ac 16 [.i (.ofNat w),.i (.ofNat v),.v x,.v y,.i (.ofNat l.1),.i l.2,.i s,.i o] (absH aa H) [.v x',.v y'] (absH aa h')/\Pre H h'/\LsH h' x' 3 encM (fdL w l s A)/\LsH h' y' 1 enc8 ks'/\FInv w v (k+16) (fdL w l s A) ks':=by
 have hN:=hs.N
 have hfl:(fdL w l s A).length=A.length:=fdL_len
 have hla:=hI.la
 obtain⟨sc,G1,cc1,hC⟩:=vx hs.sh H
 obtain⟨su,G2,cu1,hU⟩:=py hs.sh.1 hs.sh.2.1 hs.sh.2.2.1 hs.sh.2.2.2 (H++G1)
 have hul:=(gM (gW w v hs.sh.1 hs.sh.2.1 hs.sh.2.2.1 hs.sh.2.2.2)).2.2.2.2
 have hul0:0<(ao w v).length:=by
  obtain⟨h1,h2,h3,h4⟩:=hs
  rw[(nz (Sh4.sh ⟨h1,h2,h3,h4⟩)).2.2]
  obtain rfl|rfl|rfl|rfl:w=1∨w=2∨w=3∨w=4:=by omega
  all_goals omega
 have hkl:=hI.lk
 obtain⟨rs,h',hcall,x',y',ks',rfl,hpre,p1,p2,p3⟩:=x16 (ls:=[.i (.ofNat w),.i (.ofNat v),.v x,.v y,.i (.ofNat l.1),.i l.2,.i s,.i o]) (K:=λrs h'=>∃x' y' ks',rs=[.v x',.v y']/\Pre H h'/\LsH h' x' 3 encM (fdL w l s A)/\LsH h' y' 1 enc8 ks'/\FInv w v (k+16) (fdL w l s A) ks') (H:=H) (glsI (glsI (glsV hA.good (glsV hK.good (glsI (glsI (glsI (glsI gls0)))))))) (by
  unfold f16;simp only[qxh]
  repeat (first|simp(disch:=omega)only[↓qXX]|refine ai cc1 ?_|refine ai cu1 ?_)
  have prm:Pre H (H++G1++G2):=by rw[qaH];exact⟨_,rfl⟩
  have hC:=hC.pre (h':=H++G1++G2) ⟨_,rfl⟩
  have hA:=hA.pre prm
  have hK:=hK.pre prm
  generalize H++G1++G2=Hm at *
  repeat (first|simp(disch:=omega)only[↓qXX]|refine r_apE (e:=3) (kb:=24) bq (hA.pre ⟨_,rfl⟩) (by omega) (by omega) (by omega) ?_|refine aH (by simp[aT,noLoc,bn,bP,bw,aY,aJ,tag]) ?_)
  have i1:(Hm++[HO.o (.cells [] 3 true)]).length=Hm.length+1:=by simp
  rw[i1]
  have j1:(Hm++[HO.o (.cells [] 3 true)]++[HO.o (.cells (A.flatMap encM) 3 true)])[Hm.length+1]?=some (.o (.cells (A.flatMap encM) 3 true)):=by rw[←i1];exact bq
  have j2:Pre Hm (Hm++[HO.o (.cells [] 3 true)]++[HO.o (.cells (A.flatMap encM) 3 true)]):=by rw[qaH];exact⟨_,rfl⟩
  generalize Hm++[HO.o (.cells [] 3 true)]++[HO.o (.cells (A.flatMap encM) 3 true)]=h1 at *
  clear i1 cc1 cu1
  refine bz (σ:=HL) (4*w*v) (λj _=>[.i (Int.ofNat j)]) (λ_ s=>s) (λj h=>Pre Hm h/\h[Hm.length+1]?=some (.o (.cells (((fdL w l s A).take j++A.drop j).flatMap encM) 3 true))) (j0:=0) (s0:=h1) rfl rfl (qaS _) ⟨j2,by simpa using j1⟩ ?_
  clear j1 j2
  rintro j h hj ⟨j2,j1⟩ self hself
  refine p_x ?_
  refine bv (hC.pre j2) ?_
  by_cases hlt:j<4*w*v
  ·rw[aU (by rw[fS];exact hlt)]
   refine p_x ?_
   obtain⟨g,hg⟩:=aK (l:=A) (i:=j) (by omega)
   have hgo:=hI.ok g (qad hg)
   refine aQ (hA.pre j2) rfl hg ?_
   unfold encM
   refine p_x ?_
   refine aQ (hC.pre j2) rfl (iR hlt) ?_
   unfold aB
   refine p_x ?_
   have hcl:=kQ hs.sh hlt
   refine af (rmove_c (m:=g) (c:=clN w j) (br hgo (by omega)) hcl) ?_
   have hmr:=fp hgo (c:=clN w j) (k:=100) ⟨hcl.1,hcl.2.1,hcl.2.2.1,hcl.2.2.2.1⟩
   simp only[mvl,cll,qaI,qaG]
   repeat (first|simp(disch:=omega)only[↓qXX]|refine af (rside_c (l:=l) (c:=aZ g (clN w j)) hl (by omega) ⟨by omega,by omega,by omega,by omega,hmr.2.2.2.2⟩) ?_)
   have hset:=take_set (jy (w:=w) (l:=l) (s:=s) hg) hfl
   have hml:=sf (j:=j) hfl (by omega)
   refine sy (λhe=>?_) (λhe=>?_)
   ·simp(disch:=omega)only[↓qXX]
    refine aQ (hA.pre j2) rfl hg ?_
    unfold encM
    refine p_x ?_
    refine af (rof_c (l:=l) hl (by omega)) ?_
    simp only[mvl,qaI,qaG]
    refine p_x ?_
    refine af (rthen_c (a:=g) (b:=ofM l) hgo (qw (n:=8) hc) (by omega)) ?_
    simp only[mvl,qaI,qaG]
    refine p_x ?_
    refine fA (enc:=encM) (l:=(fdL w l s A).take j++A.drop j) (i:=j) (a:=aG g (ofM l)) bC j1 rfl (by omega) (by omega) rfl ?_
    rw[show aG g (ofM l)=fdM l s g (clN w j)by unfold fdM;rw[qd7 he],hset]
    refine p_x ?_
    rw[bB (by omega)]
    exact hself _ hlt ⟨cQ j2 (by omega),bW (aM j1)⟩
   ·simp(disch:=omega)only[↓qXX]
    rw[bB (by omega)]
    refine hself _ hlt ⟨j2,?_⟩
    rw[←hset,show fdM l s g (clN w j)=g by unfold fdM;rw[qd8 he],ed (mid_get hg hfl)]
    exact j1
  ·obtain rfl:j=4*w*v:=by omega
   rw[aX (by rw[fS];exact qao _)]
   refine p_x ?_
   rw[qaM (by omega),qbs (by omega),qaU]at j1
   clear hself hj hlt
   repeat (first|simp(disch:=omega)only[↓qXX]|refine r_apE (e:=1) (kb:=1) bq ((hK.pre j2).pre ⟨_,rfl⟩) (by omega) (by omega) (by omega) ?_|refine aH (by simp[aT,noLoc,bn,bP,bw,aY,aJ,tag]) ?_)
   have hidm:Hm.length+1<h.length:=aM j1
   have i1:(h++[HO.o (.cells [] 1 true)]).length=h.length+1:=by simp
   rw[i1]
   have k1:(h++[HO.o (.cells [] 1 true)]++[HO.o (.cells (ks.flatMap enc8) 1 true)])[h.length+1]?=some (.o (.cells (ks.flatMap enc8) 1 true)):=by rw[←i1];exact bq
   have k2:Pre Hm (h++[HO.o (.cells [] 1 true)]++[HO.o (.cells (ks.flatMap enc8) 1 true)]):=(j2.app _).app _
   have k3:(h++[HO.o (.cells [] 1 true)]++[HO.o (.cells (ks.flatMap enc8) 1 true)])[Hm.length+1]?=some (.o (.cells ((fdL w l s A).flatMap encM) 3 true)):=by
    rw[qaH,qag hidm];exact j1
   generalize h++[HO.o (.cells [] 1 true)]++[HO.o (.cells (ks.flatMap enc8) 1 true)]=h2 at *
   have hik:Hm.length+1≠h.length+1:=by omega
   have hml:Hm.length<=h.length+1:=by omega
   generalize h.length+1=iK at *
   clear j1 j2 i1 hidm
   refine bz (σ:=HL) (ao w v).length (λj _=>[.i (Int.ofNat j)]) (λ_ s=>s) (λj h=>Pre Hm h/\h[Hm.length+1]?=some (.o (.cells ((fdL w l s A).flatMap encM) 3 true))/\∃ks',h[iK]?=some (.o (.cells (ks'.flatMap enc8) 1 true))/\KP w v (fdL w l s A) ks j ks') (j0:=0) (s0:=h2) rfl rfl (qaS _) ⟨k2,k3,ks,k1,rfl,λ_ _=>rfl,λi _ _ _ _ _ _ h=>absurd h (qbX _)⟩ ?_
   clear k1 k2 k3
   rintro j h hj ⟨k2,k3,ks',k1,hP⟩ self hself
   have hA':=dO (cx:=0) (n:=A.length) bC k3 (by omega)
   refine p_x ?_
   refine bv (hU.pre k2) ?_
   by_cases hlt:j<(ao w v).length
   ·rw[aU hlt]
    refine p_x ?_
    obtain⟨⟨c,e⟩,hu⟩:=aK hlt
    have hum:=qad hu
    obtain⟨hcN,he,n,hn,_⟩:=lS hum
    obtain⟨hnN,_⟩:=iB hs.sh hcN he hn
    obtain⟨kk,hkk⟩:=aK (l:=ks) (i:=j) (by omega)
    obtain⟨gc,hgc0⟩:=aK (l:=A) (i:=c) (by omega)
    obtain⟨g,hg⟩:=aK (l:=fdL w l s A) (i:=c) (by omega)
    obtain⟨g',hg'⟩:=aK (l:=fdL w l s A) (i:=n) (by omega)
    repeat (first|simp(disch:=omega)only[↓qXX]|refine ew (o:=0) (k:=1) (cs:=[.int .i64 (.ofNat c)]) (hU.pre k2) rfl hu rfl (by omega) ?_|refine ew (o:=1) (k:=1) (cs:=[.int .u8 (.ofNat e)]) (hU.pre k2) rfl hu rfl (by omega) ?_)
    rw[p_conv (by show(-9223372036854775808:Int)<=(e:Int);omega) (by show(e:Int)<=9223372036854775807;omega)]
    refine af (rnb_c hs.sh hum hn) ?_
    refine p_x ?_
    refine aQ (hK.pre k2) rfl hkk ?_
    unfold enc8
    refine p_x ?_
    by_cases hk0:kk=0
    ·rw[p_neq_f hk0]
     refine p_x ?_
     refine aQ hA' rfl hg ?_
     unfold encM
     refine p_x ?_
     refine aQ hA' rfl hg' ?_
     unfold encM
     refine p_x ?_
     rw[eqsM]
     by_cases hgg:g=g'
     ·rw[qd6 hgg]
      refine p_x ?_
      rw[bB (by omega)]
      exact hself _ hlt ⟨k2,k3,ks',k1,hP.same hu hn hkk hg hg' ⟨λ_=>rfl,λ_ _=>hk0,λ_ h=>absurd hgg h⟩⟩
     ·rw[qd5 hgg]
      refine p_x ?_
      refine aQ hA' rfl hg ?_
      unfold encM
      refine p_x ?_
      refine aQ (hA.pre k2) rfl hgc0 ?_
      unfold encM
      refine p_x ?_
      rw[eqsM]
      refine nq (P:=λls h'=>h=h'/\∃q,q<4*w*v/\ls=[.i (Int.ofNat q)]) ?_ ?_
      rotate_left
      ·intro jj hjj
       by_cases hz:g=gc
       ·rw[qd6 hz]
        simp(disch:=omega)only[↓qXX,qaF,if_true]
        exact hjj _ _ ⟨rfl,c,hcN,rfl⟩
       ·rw[qd5 hz]
        simp(disch:=omega)only[↓qXX,qbF,qaq,if_false]
        exact hjj _ _ ⟨rfl,n,hnN,rfl⟩
      rintro ls hq0 ⟨rfl,q,hq,rfl⟩
      obtain⟨gq,hgq⟩:=aK (l:=fdL w l s A) (i:=q) (by omega)
      repeat (first|simp(disch:=omega)only[↓qXX]|refine ew (o:=0) (k:=1) (cs:=[.int .u8 (Int.ofNat gq.1)]) hA' rfl hgq rfl (by omega) ?_)
      have s1:=hP.step (kk':=1) hu hn hkk hg hg' ⟨λh=>absurd hk0 h,λ_ h=>absurd h hgg,λ_ _=>.inl rfl⟩
      have s2:=hP.step (kk':=2) hu hn hkk hg hg' ⟨λh=>absurd hk0 h,λ_ h=>absurd h hgg,λ_ _=>.inr rfl⟩
      have hjl:j<ks'.length:=by rw[hP.1];omega
      have hkl':ks'.length=ks.length:=hP.1
      refine p_gtr_d ?_ ?_
      all_goals
       refine nq (P:=λls h2=>h=h2/\∃z:Int,ls=[.i z]) ?_ (λjj hjj=>by first|exact hjj _ _ ⟨rfl,_,rfl⟩|(simp(disch:=omega)only[↓qXX];exact hjj _ _ ⟨rfl,_,rfl⟩))
       rintro ls hh ⟨rfl,z,rfl⟩
       refine p_x ?_
       refine fA (enc:=enc8) (l:=ks') (i:=j) (a:=(1:Int)) gm k1 rfl hjl hkl' rfl ?_
       have q1:(putE h iK 1 enc8 (ks'.set j 1))[iK]?=some (.o (.cells ((ks'.set j 1).flatMap enc8) 1 true)):=bW (aM k1)
       have q2:Pre Hm (putE h iK 1 enc8 (ks'.set j 1)):=cQ k2 hml
       have q3:(putE h iK 1 enc8 (ks'.set j 1))[Hm.length+1]?=some (.o (.cells ((fdL w l s A).flatMap encM) 3 true)):=by rw[cR hik];exact k3
       generalize putE h iK 1 enc8 (ks'.set j 1)=h3 at *
       refine sy (λhe=>?_) (λhe=>?_)
       ·simp(disch:=omega)only[↓qXX]
        refine fA (enc:=enc8) (l:=ks'.set j 1) (i:=j) (a:=(2:Int)) gm q1 rfl (by rw[qbD];exact hjl) (by rw[qbD];exact hkl') rfl ?_
        rw[List.set_set]
        refine p_x ?_
        rw[bB (by omega)]
        exact hself _ hlt ⟨cQ q2 hml,by rw[cR hik];exact q3,_,bW (aM q1),s2⟩
       ·simp(disch:=omega)only[↓qXX]
        rw[bB (by omega)]
        exact hself _ hlt ⟨q2,q3,_,q1,s1⟩
    ·rw[p_neq_t hk0]
     refine p_x ?_
     rw[bB (by omega)]
     exact hself _ hlt ⟨k2,k3,ks',k1,hP.same hu hn hkk hg hg' ⟨λ_=>rfl,λh=>absurd h hk0,λh=>absurd h hk0⟩⟩
   ·obtain rfl:j=(ao w v).length:=by omega
    rw[aX (qao _)]
    refine p_x ?_
    refine⟨_,_,ks',rfl,prm.trans k2,hA',dO gm k1 (by rw[hP.1]),hI.fold hs hk.1 hl hc hP.1 λi c e n kk g g' hu hn hkk hg hg'=>hP.2.2 i c e n kk g g' (aM hu) hu hn hkk hg hg'⟩)
 exact⟨x',y',h',ks',hcall,hpre,p1,p2,p3⟩
def PatF.keys{w v:Nat}{l l':TA}(h:PatF w v l)(hk:l'.map cv=l.map cv)(hd:∀c∈l',1<=c.2.2/\c.2.2<=3):PatF w v l':=by
 have hun:∀c∈l',∃u e:Nat,(u,e)∈ao w v/\c.1 = .ofNat u/\c.2.1 = .ofNat e:=λc hc=>by
  have:cv c∈l.map cv:=by rw[←hk];exact qdn hc
  obtain⟨c0,h0,h1⟩:=qaK.1 this
  obtain⟨u,e,h2,h3,h4⟩:=h.un c0 h0
  unfold cv at h1
  simp only[qbY]at h1
  exact⟨u,e,h2,by rw[←h1.1,h3],by rw[←h1.2,h4]⟩
 have hlen:l'.length=l.length:=by
  have:=congrArg List.length hk
  simpa using this
 have hp:l'.Pairwise λa b=>ltC a b=true:=by
  have h1:(l.map cv).Pairwise λa b=>(decide (a.1<b.1)||(decide (a.1=b.1)&&decide (a.2<b.2)))=true:=qc2.2 h.pair
  rw[←hk]at h1
  exact qc2.1 h1
 have key:∀c∈l',rngC c/\isK c=true/\unC (.ofNat w) (.ofNat v) c=true:=λc hc=>by
  obtain⟨x,y,m1,m2,m3⟩:=hun c hc
  have hd:=hd c hc
  obtain⟨c1,c2,k⟩:=c
  simp only at m2 m3 hd
  subst m2 m3
  have hmu:=ow.1 m1
  have hwv:4*w*v<=100:=by
   have:=qdx (show 4*w<=20 by have:=h.pat.sheet;omega) h.pat.sheet.2.2.2
   omega
  refine⟨?_,?_,unC_of m1⟩
  ·unfold rngC
   simp only[qar]
   omega
  ·unfold isK
   simp only[qaa,qd4]
   omega
 refine⟨⟨h.pat.sheet,λc hc=>(key c hc).1,by rw[hlen];exact h.pat.len,?_⟩,hp,hd,hun,by rw[hlen];exact h.len⟩
 unfold chkC
 have a1:l'.all isK=true:=qab.2 λc hc=>(key c hc).2.1
 have a2:l'.all (unC (.ofNat w) (.ofNat v))=true:=qab.2 λc hc=>(key c hc).2.2
 rw[a1,a2,jq hp]
 rfl
def eA.keys{w v:Nat}{l l':TA}{G:TO}(hG:eA w v l G)(hk:l'.map cv=l.map cv):eA w v l' G:=by
 intro c e n hc he hn
 have:=hG c e n hc he hn
 unfold acM isCr at this ⊢
 rw[hk]
 exact this
def xp{us:List (Nat×Nat)}{ks:TC}{u e:Nat}:isCr (patL us ks) u e=true↔∃(i:Nat) (k:Int),us[i]?=some (u,e)/\ks[i]?=some k/\k≠0:=by
 unfold isCr
 rw[qd4]
 constructor
 ·intro h
  obtain⟨c,h1,h2⟩:=qaK.1 h
  unfold patL at h1
  obtain⟨⟨⟨x,y⟩,k⟩,h3,h4⟩:=qa8.1 h1
  obtain⟨i,hi⟩:=qaW h3
  rw[qb5]at hi
  unfold kT at h4
  split at h4
  ·cases h4
  next hk=>
   cases h4
   unfold cv at h2
   simp only[qbY,qar]at h2
   obtain⟨q1,q2⟩:=h2
   have q1:x=u:=by omega
   have q2:y=e:=by omega
   subst q1 q2
   exact⟨i,k,hi.1,hi.2,hk⟩
 ·rintro⟨i,k,h1,h2,h3⟩
  refine qaK.2 ⟨(.ofNat u,.ofNat e,k),?_,rfl⟩
  unfold patL
  refine qa8.2 ⟨((u,e),k),qad (i:=i) (qb5.2 ⟨h1,h2⟩),?_⟩
  unfold kT
  rw[qd8 h3]
def plG(A:TN)(c:Nat):Mv:=aG (A.getD c idM) (invM (A.getD 0 idM))
def FInv.cons{w v:Nat}(hs:Sh4 w v){k:Int}{A:TN}{ks:TC}(hI:FInv w v k A ks):eA w v (patL (ao w v) ks) (plG A)/\plG A 0=idM/\∀c,c<4*w*v->okM (k+k) (plG A c):=by
 have hN:=hs.N
 have getA:∀c,c<4*w*v->A[c]?=some (A.getD c idM):=λc hc=>by
  obtain⟨g,hg⟩:=aK (l:=A) (i:=c) (by rw[hI.la];exact hc)
  rw[show A.getD c idM=g by simp[List.getD,hg]]
  exact hg
 have okA:∀c,c<4*w*v->okM k (A.getD c idM):=λc hc=>hI.ok _ (qad (getA c hc))
 have h0:=okA 0 (by omega)
 refine⟨λc e n hc he hn=>?_,inv_id h0.1,λc hc=>cq (okA c hc) (okM_inv h0)⟩
 obtain⟨hm,hln⟩:=si hs.sh hc he hn
 obtain⟨hnN,hnb,_,_,hne⟩:=iB hs.sh hc he hn
 have hr:(invM (A.getD 0 idM)).1<8:=(okM_inv h0).1
 have main:A.getD n idM=acM w (patL (ao w v) ks) (A.getD c idM) c n e:=by
  unfold acM
  rw[hln]
  have use:∀(i:Nat) (kk:Int),(ao w v)[i]?=some (min c n,e)->ks[i]?=some kk->A.getD n idM=if kk=0 then A.getD c idM else aG (ofM (lnC3 (clN w c) e)) (A.getD c idM):=λi kk hu hk=>by
   rcases qaB c n with hlt|hge
   ·rw[qbW (by omega)]at hu
    exact hI.un i c e n kk _ _ hu hn hk (getA c hc) (getA n hnN)
   ·rw[qcM hge]at hu
    have:=hI.un i n e c kk _ _ hu hnb hk (getA n hnN) (getA c hc)
    rw[←hln,qcM hge]
    by_cases hk0:kk=0
    ·rw[qd7 hk0]at this ⊢
     exact this.symm
    ·rw[qd8 hk0]at this ⊢
     rw[this,←cL (gS _) (gS _) (okA n hnN).1,oJ,nh (okA n hnN).1]
  by_cases hcr:isCr (patL (ao w v) ks) (min c n) e=true
  ·rw[qd7 hcr]
   obtain⟨i,kk,h1,h2,h3⟩:=xp.1 hcr
   have:=use i kk h1 h2
   rwa [qd8 h3]at this
  ·rw[qd8 hcr]
   obtain⟨i,hi⟩:=qaW hm
   obtain⟨kk,hkk⟩:=aK (l:=ks) (i:=i) (by rw[hI.lk];exact aM hi)
   have:=use i kk hi hkk
   by_cases hk0:kk=0
   ·rwa [qd7 hk0]at this
   ·exact absurd (xp.2 ⟨i,kk,hi,hkk,hk0⟩) hcr
 unfold plG
 rw[main]
 unfold acM
 split
 ·rw[cL (gS _) (okA c hc).1 hr]
 ·rfl
def FInv.flat{w v:Nat}:FInv w v 0 (List.replicate (4*w*v) idM) (List.replicate (ao w v).length 0):=by
 refine⟨by simp,by simp,λm hm=>?_,λz hz=>?_,λi c e n kk g g' _ _ hk hg hg'=>?_⟩
 ·rw[qb8 hm]
  exact okM_id (qd1 0)
 ·rw[qb8 hz];decide
 ·have h1:=qb8 (qad hk)
  have h2:=qb8 (qad hg)
  have h3:=qb8 (qad hg')
  rw[h1,qd7 rfl,h2,h3]
def line_c{a b:Int}(ha:0<=a/\a<=255)(hb:-128<=b/\b<=127):∃l:Ln,(1<=l.1/\l.1<=4)/\(-8<=l.2/\l.2<=8)/\Cc 17 [.i a,.i b] [.i (.ofNat l.1),.i l.2]:=by
 have e:Int.ofNat (1+a%4).toNat=1+a%4:=qcc (by omega)
 rcases qcn 0 b with h|h
 ·refine⟨((1+a%4).toNat,b%9),⟨by omega,by omega⟩,⟨by show -8<=b%9;omega,by show b%9<=8;omega⟩,?_⟩
  show Cc _ _ [.i (Int.ofNat (1+a%4).toNat),.i (b%9)]
  rw[e]
  refine q17 rfl ?_;unfold f17;simp only[qxh]
  simp(disch:=omega)only[↓qXX]
  try rfl
 ·refine⟨((1+a%4).toNat,-((-b)%9)),⟨by omega,by omega⟩,⟨by show -8<=-((-b)%9);omega,by show -((-b)%9)<=8;omega⟩,?_⟩
  show Cc _ _ [.i (Int.ofNat (1+a%4).toNat),.i (-((-b)%9))]
  rw[e]
  refine q17 rfl ?_;unfold f17;simp only[qxh]
  repeat (first|simp(disch:=omega)only[↓qXX]|rw[p_rem_np h (by omega)])
  try rfl
def r_setfG{α:Type}{e cx len:Nat}{enc:α->Tl}(henc:∀a,(enc a).length=e){h:HL}{id:Nat}{l:List α}{i o:Nat}{a a':α}{n:Int}{new:Tl}{K:Ta}(hg:h[id]?=some (.o (.cells (l.flatMap enc) e true)))(hn:n=Int.ofNat i)(hi:l[i]?=some a)(hlen:l.length=len)(ho:o+new.length<=e)
  (hnew:enc a'=(enc a).take o++new++(enc a).drop (o+new.length)) (hk:K [] (putE h id e enc (l.set i a'))) :
  P1.opt (idS e (.slice (some ⟨id,0,tag e⟩) len cx) n) (@hid _ ⟨λx=>P1.opt (fdP o x) (@hid _ ⟨λy=>P1.chk y (@hid _ ⟨P1.heap (.st y new) h (@hid _ ⟨K⟩)⟩)⟩)⟩):=by
 subst hn hlen
 have hlt:=aM hi
 have hx:idS e (.slice (some ⟨id,0,tag e⟩) l.length cx) (Int.ofNat i)=some (.pointer (some ⟨id,i*e,none⟩)):=by
  rw[xk]
  have hh:0<=Int.ofNat i/\Int.ofNat i<(l.length:Int):=⟨qaY i,by show(i:Int)<l.length;omega⟩
  simp only[qd7 hh]
  have:¬(tag e=some 1):=by simp[tag]
  simp only[qd8 this,qaN]
  rfl
 refine au hx ?_
 refine au (x:=.pointer (some ⟨id,i*e+o,none⟩)) rfl ?_
 refine aH (by simp[aT,noLoc,bn,bP,bw,aY,aJ]) ?_
 have hl:=aO (e:=e) (enc:=enc) (l:=l) λa _=>henc a
 have hle:i*e+e<=l.length*e:=by
  have:=qbm e (show i+1<=l.length by omega)
  rw[qbz,qch]at this;exact this
 have e1:=gu henc (l:=l) (i:=i) a hlt
 rw[ed hi]at e1
 have e2:=gu henc (l:=l) (i:=i) a' hlt
 have hA:((l.flatMap enc).take (i*e)).length=i*e:=by rw[qaL];omega
 have hB:=henc a
 have key:(l.flatMap enc).take (i*e+o)++new++(l.flatMap enc).drop (i*e+o+new.length)=(l.set i a').flatMap enc:=by
  rw[←e2,hnew]
  have t1:(l.flatMap enc).take (i*e+o)=(l.flatMap enc).take (i*e)++(enc a).take o:=by
   conv=>lhs;rw[←e1,qaH]
   rw[qdc,qaM (by omega),hA,show i*e+o - i*e=o by omega,qdc,show o - (enc a).length=0 by omega,qcu,qaU]
  have t2:(l.flatMap enc).drop (i*e+o+new.length)=(enc a).drop (o+new.length)++(l.flatMap enc).drop (i*e+e):=by
   conv=>lhs;rw[←e1,qaH]
   rw[qct,qbs (by omega),qaG,hA,show i*e+o+new.length - i*e=o+new.length by omega,qct,show o+new.length - (enc a).length=0 by omega,qbj]
  rw[t1,t2]
  simp only[qaH]
 have hrun:(Hp.st (.pointer (some ⟨id,i*e+o,none⟩)) new).run (getH aa h) h.length=some ([.set id (.cells ((l.set i a').flatMap enc) e true)],[]):=by
  show stP (.pointer (some ⟨id,i*e+o,none⟩)) new (getH aa h) h.length=_
  unfold stP
  simp only
  rw[cp hg]
  simp only
  unfold splice
  rw[hl,qd7 (by omega),key]
  rfl
 exact cU hrun hk
def sz{j n:Nat}{K:Tn}(h1:j<n->K true)(h2:n<=j->K false):P1.cmp .lss (Int.ofNat j) (Int.ofNat n) (@hid _ ⟨K⟩):=by
 rcases qaB j n with h|h
 ·rw[aU h];exact h1 h
 ·rw[aX h];exact h2 h
def p_gtr_n{n:Nat}{K:Tn}(h1:0<n->K true)(h2:n=0->K false):P1.cmp .gtr (Int.ofNat n) (Int.ofNat 0) (@hid _ ⟨K⟩):=by
 rcases qcx n with h|h
 ·rw[p_gtr_f (show Int.ofNat n<=Int.ofNat 0 by rw[h];exact qd1 _)];exact h2 h
 ·rw[p_gtr_t (show Int.ofNat 0<Int.ofNat n from qcp.2 h)];exact h1 h
abbrev Fo:=Int×Int×Bool×Bool
def encFo(f:Fo):Tl:=[.int .u8 f.1,.int .i8 f.2.1,.bool f.2.2.1,.bool f.2.2.2]
def okFo(f:Fo):Prop:=(0<=f.1/\f.1<=255)/\(-128<=f.2.1/\f.2.1<=127)
def fof_c{a b:Int}(ha:0<=a/\a<=255)(hb:0<=b/\b<=255){H:HL}{xf xa:Value}{fs:List Fo}{an:TC}(hF:LsH H xf 4 encFo fs)(hfs:∀f∈fs,okFo f)(hA:LsH H xa 1 enc8 an)(han:∀z∈an,0<=z/\z<=255)(hal:an.length<=9223372036854775807) :
  ∃(w v:Nat) (rx:Value) (h':HL) (l:TA) (G:TO),Sh4 w v/\aw cc ac 4 [.i a,.i b,.v xf,.v xa] (absH aa H) [.i (.ofNat w),.i (.ofNat v),.v rx] (absH aa h')/\LsH h' rx 3 encC l/\PatF w v l/\eA w v l G/\G 0=idM/\∀c,c<4*w*v->okM 200 (G c):=by
 obtain⟨w,hw⟩ : ∃w:Nat,Int.ofNat w=1+a%4:=⟨(1+a%4).toNat,qcc (by omega)⟩
 obtain⟨v,hv⟩ : ∃v:Nat,Int.ofNat v=1+b%4:=⟨(1+b%4).toNat,qcc (by omega)⟩
 have hw':(w:Int)=1+a%4:=hw
 have hv':(v:Int)=1+b%4:=hv
 have hs:Sh4 w v:=⟨by omega,by omega,by omega,by omega⟩
 have hul:=pz hs
 obtain⟨fx,fk,G0,hcF,hfA,hfK⟩:=flat_c hs H
 obtain⟨rs,h',hc,rx,l,rfl,hl,hP,G,hG,hG0,hGk⟩:=x4 (ls:=[.i a,.i b,.v xf,.v xa]) (K:=λrs h'=>∃rx l',rs=[.i (.ofNat w),.i (.ofNat v),.v rx]/\LsH h' rx 3 encC l'/\PatF w v l'/\∃G,eA w v l' G/\G 0=idM/\∀c,c<4*w*v->okM 200 (G c)) (H:=H) (glsI (glsI (glsV hF.good (glsV hA.good gls0)))) (by
  unfold f4;simp only[qxh]
  refine p_x ?_
  rw[←hw,←hv]
  refine ai hcF ?_
  refine p_x ?_
  have hp0:Pre H (H++G0):=⟨_,rfl⟩
  generalize H++G0=h1 at *
  clear hcF
  refine bz (σ:=Value×Value×HL) (min fs.length 6) (λj s=>[.v s.1,.v s.2.1,.i (Int.ofNat j)]) (λ_ s=>s.2.2) (λj s=>Pre H s.2.2/\∃A ks,LsH s.2.2 s.1 3 encM A/\LsH s.2.2 s.2.1 1 enc8 ks/\FInv w v (16*(j:Int)) A ks) (j0:=0) (s0:=(fx,fk,h1)) rfl rfl (qaS _) ⟨hp0,_,_,hfA,hfK,FInv.flat⟩ ?_
  clear hfA hfK hp0
  rintro j ⟨xv,kv,sh⟩ hj ⟨hpre,A,ks,hL,hK,hI⟩ self hself
  simp only at hpre hL hK ⊢
  refine p_x ?_
  refine bv (hF.pre hpre) ?_
  by_cases hlt:j<min fs.length 6
  ·rw[aU (by omega)]
   refine p_x ?_
   refine sz (j:=j) (n:=6) (λ_=>?_) (λh6=>by omega)
   obtain⟨⟨fk,fc,fh,fo⟩,hf⟩:=aK (l:=fs) (i:=j) (by omega)
   have hfo:=hfs _ (qad hf)
   unfold okFo at hfo
   simp only at hfo
   obtain⟨l,hl1,hl2,hlc⟩:=line_c hfo.1 hfo.2
   have hfc:=fold_c hs (k:=16*(j:Int)) ⟨by omega,by omega⟩ hL hK hI hl1 hl2
   obtain⟨x',y',h',ks',c1,c2,c3,c4,c5⟩:=hfc (bif fh then 1 else 0) (bif fo then 1 else 0)
   refine p_x ?_
   refine ew (o:=2) (k:=1) (cs:=[.bool fh]) (hF.pre hpre) rfl hf rfl (by omega) ?_
   rcases fh with _|_
   all_goals
    refine p_x ?_
    refine ew (o:=3) (k:=1) (cs:=[.bool fo]) (hF.pre hpre) rfl hf rfl (by omega) ?_
    rcases fo with _|_
    all_goals
     repeat (first|simp(disch:=omega)only[↓qXX]|refine ew (o:=0) (k:=1) (cs:=[.int .u8 fk]) (hF.pre hpre) rfl hf rfl (by omega) ?_|refine ew (o:=1) (k:=1) (cs:=[.int .i8 fc]) (hF.pre hpre) rfl hf rfl (by omega) ?_|refine af hlc ?_|refine ai c1 ?_)
     rw[bB (by omega)]
     refine hself (x',y',h') hlt ⟨hpre.trans c2,_,ks',c3,c4,?_⟩
     rw[show(16:Int)*((j+1:Nat):Int)=16*(j:Int)+16 by omega]
     exact c5
  ·have hex:fs.length<=j∨(j<fs.length/\j=6):=by omega
   rcases hex with hx|⟨hx,hx6⟩
   ·rw[aX hx]
    refine p_x ?_
    obtain⟨G1,rx,hcW,hmk0⟩:=with_c (w:=w) (v:=v) hs.sh.1 hs.sh.2.1 hs.sh.2.2.1 hs.sh.2.2.2 hK (by have:=hI.lk;omega)
    refine ai hcW ?_
    refine p_x ?_
    have hpF:PatF w v (patL (ao w v) ks):=patF_of hs λk hk=>by have:=hI.kn k hk;omega
    obtain⟨hG,hG0,hGk⟩:=hI.cons hs
    have hpr1:Pre H (sh++G1):=hpre.trans ⟨G1,rfl⟩
    have hmk1:MkL H.length (sh++G1) rx 3 encC (patL (ao w v) ks):=⟨hmk0.1,hmk0.2.1,hmk0.2.2.imp id λ⟨id,h1,h2⟩=>⟨id,qbt hpre.len h1,h2⟩⟩
    generalize patL (ao w v) ks=l at *
    generalize sh++G1=h2 at *
    clear hcW hmk0
    refine bz (σ:=HL) an.length (λj _=>[.i (Int.ofNat j)]) (λ_ s=>s) (λj s=>Pre H s/\∃l':List Crs,l'.map cv=l.map cv/\(∀c∈l',1<=c.2.2/\c.2.2<=3)/\MkL H.length s rx 3 encC l') (j0:=0) (s0:=h2) rfl rfl (qaS _) ⟨hpr1,l,rfl,hpF.kd,hmk1⟩ ?_
    clear hself hmk1 hpr1
    rintro j s hj ⟨hps,l',hkey,hkd,hmk⟩ self hself
    have fin:∀K0:TE->HL->Prop,K0=(λrs h'=>∃rx l',rs=[.i (.ofNat w),.i (.ofNat v),.v rx]/\LsH h' rx 3 encC l'/\PatF w v l'/\∃G,eA w v l' G/\G 0=idM/\∀c,c<4*w*v->okM 200 (G c))->K0 [.i (.ofNat w),.i (.ofNat v),.v rx] s:=by
     rintro K0 rfl
     exact⟨rx,l',rfl,hmk.ls,hpF.keys hkey hkd,_,hG.keys hkey,hG0,λc hc=>br (hGk c hc) (by omega)⟩
    refine p_x ?_
    refine bv (hA.pre hps) ?_
    refine sz (λhlt=>?_) (λ_=>?_)
    ·simp(disch:=omega)only[↓qXX]
     refine bv hmk.ls ?_
     refine p_gtr_n (λhpos=>?_) (λ_=>?_)
     ·simp(disch:=omega)only[↓qXX]
      obtain⟨a,ha⟩:=aK hlt
      have har:=han a (qad ha)
      refine aQ (hA.pre hps) rfl ha ?_
      unfold enc8
      refine p_x ?_
      refine bv hmk.ls ?_
      rw[p_rem_nn har.1 (show(0:Int)<Int.ofNat l'.length from qcp.2 hpos)]
      have hm0:0<=a%Int.ofNat l'.length:=qdJ _ (by show((l'.length:Nat):Int)≠0;omega)
      have hm1:a%Int.ofNat l'.length<Int.ofNat l'.length:=Int.emod_lt_of_pos _ (qcp.2 hpos)
      obtain⟨i,hi⟩ : ∃i:Nat,a%Int.ofNat l'.length=Int.ofNat i:=⟨(a%Int.ofNat l'.length).toNat,(qcc hm0).symm⟩
      rw[hi]at hm1
      have hil:i<l'.length:=qcp.1 hm1
      obtain⟨c,hc⟩:=aK hil
      obtain⟨hm2,hm3,hm4⟩:=id hmk
      rcases hm4 with⟨_,hz⟩|⟨id,hid,rfl,hget⟩
      ·omega
      refine r_setfG mU (l:=l') (i:=i) (o:=2) (a:=c) (a':=(c.1,c.2.1,3)) hget hi hc rfl (by simp) (by simp[encC]) ?_
      rw[p_add (by show -9223372036854775808<=(j:Int)+1;omega) (by show(j:Int)+1<=9223372036854775807;omega)]
      refine hself _ hlt ⟨cQ hps hid,l'.set i (c.1,c.2.1,3),?_,λc' hc'=>?_,λc' _=>rfl,?_,.inr ⟨id,hid,by rw[qbD],bW (aM hget)⟩⟩
      ·rw[qc7,←hkey]
       exact ed (by rw[qan,hc];rfl)
      ·rcases qcJ hc' with h|h
       ·exact hkd c' h
       ·subst h;exact⟨by show(1:Int)<=3;decide,by show(3:Int)<=3;decide⟩
      ·exact aO λa _=>mU a
     ·simp(disch:=omega)only[↓qXX]
      exact fin _ rfl
    ·simp(disch:=omega)only[↓qXX]
     exact fin _ rfl
   ·rw[aU hx]
    refine p_x ?_
    refine sz (j:=j) (n:=6) (λh6=>by omega) (λ_=>?_)
    refine p_x ?_
    obtain⟨G1,rx,hcW,hmk0⟩:=with_c (w:=w) (v:=v) hs.sh.1 hs.sh.2.1 hs.sh.2.2.1 hs.sh.2.2.2 hK (by have:=hI.lk;omega)
    refine ai hcW ?_
    refine p_x ?_
    have hpF:PatF w v (patL (ao w v) ks):=patF_of hs λk hk=>by have:=hI.kn k hk;omega
    obtain⟨hG,hG0,hGk⟩:=hI.cons hs
    have hpr1:Pre H (sh++G1):=hpre.trans ⟨G1,rfl⟩
    have hmk1:MkL H.length (sh++G1) rx 3 encC (patL (ao w v) ks):=⟨hmk0.1,hmk0.2.1,hmk0.2.2.imp id λ⟨id,h1,h2⟩=>⟨id,qbt hpre.len h1,h2⟩⟩
    generalize patL (ao w v) ks=l at *
    generalize sh++G1=h2 at *
    clear hcW hmk0
    refine bz (σ:=HL) an.length (λj _=>[.i (Int.ofNat j)]) (λ_ s=>s) (λj s=>Pre H s/\∃l':List Crs,l'.map cv=l.map cv/\(∀c∈l',1<=c.2.2/\c.2.2<=3)/\MkL H.length s rx 3 encC l') (j0:=0) (s0:=h2) rfl rfl (qaS _) ⟨hpr1,l,rfl,hpF.kd,hmk1⟩ ?_
    clear hself hmk1 hpr1
    rintro j s hj ⟨hps,l',hkey,hkd,hmk⟩ self hself
    have fin:∀K0:TE->HL->Prop,K0=(λrs h'=>∃rx l',rs=[.i (.ofNat w),.i (.ofNat v),.v rx]/\LsH h' rx 3 encC l'/\PatF w v l'/\∃G,eA w v l' G/\G 0=idM/\∀c,c<4*w*v->okM 200 (G c))->K0 [.i (.ofNat w),.i (.ofNat v),.v rx] s:=by
     rintro K0 rfl
     exact⟨rx,l',rfl,hmk.ls,hpF.keys hkey hkd,_,hG.keys hkey,hG0,λc hc=>br (hGk c hc) (by omega)⟩
    refine p_x ?_
    refine bv (hA.pre hps) ?_
    refine sz (λhlt=>?_) (λ_=>?_)
    ·simp(disch:=omega)only[↓qXX]
     refine bv hmk.ls ?_
     refine p_gtr_n (λhpos=>?_) (λ_=>?_)
     ·simp(disch:=omega)only[↓qXX]
      obtain⟨a,ha⟩:=aK hlt
      have har:=han a (qad ha)
      refine aQ (hA.pre hps) rfl ha ?_
      unfold enc8
      refine p_x ?_
      refine bv hmk.ls ?_
      rw[p_rem_nn har.1 (show(0:Int)<Int.ofNat l'.length from qcp.2 hpos)]
      have hm0:0<=a%Int.ofNat l'.length:=qdJ _ (by show((l'.length:Nat):Int)≠0;omega)
      have hm1:a%Int.ofNat l'.length<Int.ofNat l'.length:=Int.emod_lt_of_pos _ (qcp.2 hpos)
      obtain⟨i,hi⟩ : ∃i:Nat,a%Int.ofNat l'.length=Int.ofNat i:=⟨(a%Int.ofNat l'.length).toNat,(qcc hm0).symm⟩
      rw[hi]at hm1
      have hil:i<l'.length:=qcp.1 hm1
      obtain⟨c,hc⟩:=aK hil
      obtain⟨hm2,hm3,hm4⟩:=id hmk
      rcases hm4 with⟨_,hz⟩|⟨id,hid,rfl,hget⟩
      ·omega
      refine r_setfG mU (l:=l') (i:=i) (o:=2) (a:=c) (a':=(c.1,c.2.1,3)) hget hi hc rfl (by simp) (by simp[encC]) ?_
      rw[p_add (by show -9223372036854775808<=(j:Int)+1;omega) (by show(j:Int)+1<=9223372036854775807;omega)]
      refine hself _ hlt ⟨cQ hps hid,l'.set i (c.1,c.2.1,3),?_,λc' hc'=>?_,λc' _=>rfl,?_,.inr ⟨id,hid,by rw[qbD],bW (aM hget)⟩⟩
      ·rw[qc7,←hkey]
       exact ed (by rw[qan,hc];rfl)
      ·rcases qcJ hc' with h|h
       ·exact hkd c' h
       ·subst h;exact⟨by show(1:Int)<=3;decide,by show(3:Int)<=3;decide⟩
      ·exact aO λa _=>mU a
     ·simp(disch:=omega)only[↓qXX]
      exact fin _ rfl
    ·simp(disch:=omega)only[↓qXX]
     exact fin _ rfl)
 exact⟨w,v,rx,h',l,G,hs,hc,hl,hP,hG,hG0,hGk⟩
def mo_c{t x y:Int}(ht:0<=t/\t<=255)(hx:-128<=x/\x<=127)(hy:-128<=y/\y<=127):∃m:Mv,okM 200 m/\Cc 5 [.i t,.i x,.i y] (mvl m):=by
 have e:Int.ofNat (t%8).toNat=t%8:=qcc (by omega)
 have et:(t%8).toNat<8:=by omega
 by_cases h0:(x+y)%2=0
 ·refine⟨((t%8).toNat,x,y),⟨et,by simp only;omega⟩,?_⟩
  show Cc _ _ [.i (Int.ofNat (t%8).toNat),.i x,.i y]
  rw[e]
  refine q5 rfl ?_;unfold f5;simp only[qxh]
  rcases qcn 0 (x+y)with h|h
  ·repeat (first|simp(disch:=omega)only[↓qXX]|rw[p_rem_nn h (by omega)]|rw[p_neq_f h0])
   try rfl
  ·repeat (first|simp(disch:=omega)only[↓qXX]|rw[p_rem_np h (by omega)]|rw[p_neq_f (show -(-(x+y)%2)=0 by omega)])
   try rfl
 ·refine⟨((t%8).toNat,x,y+1),⟨et,by simp only;omega⟩,?_⟩
  show Cc _ _ [.i (Int.ofNat (t%8).toNat),.i x,.i (y+1)]
  rw[e]
  refine q5 rfl ?_;unfold f5;simp only[qxh]
  rcases qcn 0 (x+y)with h|h
  ·repeat (first|simp(disch:=omega)only[↓qXX]|rw[p_rem_nn h (by omega)]|rw[p_neq_t h0])
   try rfl
  ·repeat (first|simp(disch:=omega)only[↓qXX]|rw[p_rem_np h (by omega)]|rw[p_neq_t (show -(-(x+y)%2)≠0 by omega)])
   try rfl
def mul_half:∀s,s<8->∀t,t<8->4<=s->(mulT s t<4↔¬t<4):=by decide
def ofM_4(l:Ln):4<=(ofM l).1:=by
 unfold ofM
 split<;>simp
def up_mirror{l:Ln}{g:Mv}(hg:g.1<8):upB (aG (ofM l) g) = !upB g:=by
 have h:(aG (ofM l) g).1<4↔¬g.1<4:=mul_half (ofM l).1 (gS l) g.1 hg (ofM_4 l)
 unfold upB
 by_cases h4:g.1<4
 ·rw[qd6 h4,qd5 (λq=>(h.1 q) h4)];rfl
 ·rw[qd5 h4,qd6 (h.2 h4)];rfl
def nbC_inj{c:Cl}(hq:c.2.2<4){k k':Nat}(hk:k<3)(hk':k'<3)(h:nbC c k=nbC c k'):k=k':=by
 obtain⟨x,y,q⟩:=c
 simp only at hq
 obtain rfl|rfl|rfl|rfl:q=0∨q=1∨q=2∨q=3:=by omega
 all_goals obtain rfl|rfl|rfl:k=0∨k=1∨k=2:=by omega
 all_goals obtain rfl|rfl|rfl:k'=0∨k'=1∨k'=2:=by omega
 all_goals first|rfl|(simp[nbC]at h;done)|(simp[nbC]at h;omega)
def eqsBd{a b:Bool}{K:Tn}:P1.eqs [(.b a,.b b)] (@hid _ ⟨K⟩)=K (decide (a=b)):=by
 cases a<;>cases b<;>first|(rw[p_eqsb_t rfl,p_eqs0];rfl)|exact p_eqsb_tf|exact p_eqsb_ft
def n3_lss{j:Nat}(h:j<3){K:Tn}:P1.cmp .lss (Int.ofNat j) 3 (@hid _ ⟨K⟩)=K true:=p_lss_t (by show(j:Int)<3;omega)
section
variable {w v:Nat} {l:TA} {G:TO} {r:Mv} (hs:Sh4 w v) (hG:eA w v l G) (hk:∀c,c<4*w*v->okM 200 (G c)) (hr:okM 200 r)
include hs hk hr
theorem all_in:allV w G r (4*w*v):=λc hc=>by
 have h1:=cq (hk c hc) hr
 have h2:=fp h1 (c:=clN w c) (k:=100) (by have:=kQ hs.sh hc;omega)
 unfold vMv vCl
 refine⟨qd6 ⟨by have:=h1.2.1;omega,by have:=h1.2.2.1;omega,by have:=h1.2.2.2.1;omega,by have:=h1.2.2.2.2.1;omega⟩,qd6 ⟨by omega,by omega,by omega,by omega⟩⟩
include hG
theorem pair_of{a e b:Nat}(hu:(a,e)∈ao w v)(hb:nbr w v a e=some b) :
  (isCr l a e=true->aZ (aG (G b) r) (clN w b)=aZ (aG (G a) r) (clN w a)/\upB (aG (G b) r) = !upB (aG (G a) r))/\
  (isCr l a e=false->(∃k,k<3/\aZ (aG (G b) r) (clN w b)=nbC (aZ (aG (G a) r) (clN w a)) k)/\upB (aG (G b) r)=upB (aG (G a) r)):=by
 obtain⟨haN,he,b',hb',hlt⟩:=lS hu
 rw[hb]at hb';cases hb'
 obtain⟨_,_,_,hcl,_⟩:=iB hs.sh haN he hb
 have hq:=(kQ hs.sh haN).2.2.2.2
 have hstep:=hG a e b haN he hb
 unfold acM at hstep
 rw[show min a b=a by omega]at hstep
 have h8:(aG (G a) r).1<8:=oD
 constructor
 ·intro hc
  rw[qd7 hc]at hstep
  have e1:aG (G b) r=aG (ofM (lnC3 (clN w a) e)) (aG (G a) r):=by rw[hstep,cL (gS _) (hk a haN).1 hr.1]
  rw[e1,hcl]
  exact⟨oy h8 hq he,up_mirror h8⟩
 ·intro hc
  rw[qd8 (by rw[hc];exact qdr)]at hstep
  rw[hstep,hcl,move_nb h8 hq he]
  exact⟨⟨_,eT_lt he,rfl⟩,rfl⟩
end
def mz(e j:Nat):Int:=if e<j then 1 else 0
def mF{a b t p q:Int}(ha:0<=a/\a<=255)(hb:0<=b/\b<=255)(ht:0<=t/\t<=255)(hp:-128<=p/\p<=127)(hq:-128<=q/\q<=127){H:HL}{xf xa:Value}{fs:List Fo}{an:TC}(hF:LsH H xf 4 encFo fs)(hfs:∀f∈fs,okFo f)(hA:LsH H xa 1 enc8 an)(han:∀z∈an,0<=z/\z<=255)(hal:an.length<=9223372036854775807) :
  ∃h',aw cc ac 3 [.i a,.i b,.v xf,.v xa,.i t,.i p,.i q] (absH aa H) [.b true] (absH aa h'):=by
 obtain⟨w,v,rx,h1,l,G,hs,hcF,hl,hP,hG,hG0,hGk⟩:=fof_c ha hb hF hfs hA han hal
 obtain⟨r,hr,cm⟩:=mo_c ht hp hq
 have hr2:=br hr (k:=16384) (by decide)
 have hGO:ConsO w v l G:=⟨hG,hG0,λc hc=>br (hGk c hc) (by decide)⟩
 have hall:=all_in hs hGk hr
 have hop:opnL l w v=none:=by
  unfold opnL
  rw[qcS]
  intro z hz
  have:=close_of hs (wM hz) hP.kd hG hG0 λc hc=>(hGk c hc).1
  unfold opnC
  rw[this]
  simp
 obtain⟨G2,co⟩:=open_c hs hP hl
 rw[hop]at co
 simp only at co
 have hl2:=hl.pre (h':=h1++G2) ⟨_,rfl⟩
 generalize h1++G2=h2 at *
 have hvp:VP w v l rx h2:=⟨hs.sh,yV hP.pair,by have:=hP.len;omega,hP.kd,hl2,λh' hp=>hP.pat.check (hl2.pre hp)⟩
 obtain⟨l3,i3,h3,b3,_,g3⟩:=jr hvp hr2 hGO hall
 have hvp3:=hvp.pre b3.p
 obtain⟨l4,i4,h4,b4,fa4,_⟩:=jr hvp3 hr2 hGO hall
 have lenA:(plL w v G r).length=4*w*v:=by simp[plL]
 have lenI:(imL w v G r).length=4*w*v:=by simp[imL]
 have hN:=hs.N
 have okA:∀m∈plL w v G r,okM 16384 m:=λm hm=>by
  unfold plL at hm
  obtain⟨c,hc,rfl⟩:=qaK.1 hm
  exact br (cq (hGk c (qae.1 hc)) hr) (by decide)
 obtain⟨u4,G4,c4,fu4⟩:=up_c hvp3.ls.good b4 fa4 okA (by rw[lenA];omega)
 have p34:Pre h3 (h4++G4):=b4.p.app G4
 have gI:=g3.pre p34
 have hvp4:=hvp3.pre p34
 generalize h4++G4=h5 at *
 obtain⟨h6,c6,p56⟩:=checked_c hvp4 (t:=.ofNat r.1) (a:=r.2.1) (b:=r.2.2) ⟨qaY _,by have:=hr.1;show(r.1:Int)<=255;omega⟩
 obtain⟨su,G7,cu7,hU⟩:=py hs.sh.1 hs.sh.2.1 hs.sh.2.2.1 hs.sh.2.2.2 h6
 have p67:Pre h6 (h6++G7):=⟨_,rfl⟩
 obtain⟨ks,id,h8,ck,pk,hid,hks,hkl,hkp⟩:=kinds_c hs.sh hP.kd (by have:=hP.len;omega) ((hvp4.ls.pre p56).pre p67)
 have hU:=hU.pre pk
 have gI:=((gI.pre p56).pre p67).pre pk
 have gU:=((fu4.pre p56).pre p67).pre pk
 have LI:=gI.ls bG
 have LU:=gU.ls gr
 have LK:=dO (cx:=(ao w v).length+1) (n:=(ao w v).length) gm hks hkl.symm
 have hul:=pz hs
 have e4:(4:Int)*Int.ofNat w=Int.ofNat (4*w):=rfl
 have e5:Int.ofNat (4*w)*Int.ofNat v=Int.ofNat (4*w*v):=rfl
 have hb1:(4:Int)*Int.ofNat w<=1000/\0<=(4:Int)*Int.ofNat w:=by have h1:=hs.1;have h2:=hs.2.1;constructor<;>(show _<=_;simp only[qar];omega)
 obtain⟨rs,h',hc,rfl⟩:=x3 (ls:=[.i a,.i b,.v xf,.v xa,.i t,.i p,.i q]) (K:=λrs h'=>rs=[.b true]) (H:=H) (glsI (glsI (glsV hF.good (glsV hA.good (glsI (glsI (glsI gls0))))))) (by
  unfold f3;simp only[qxh]
  refine p_x ?_
  refine ai hcF ?_
  refine p_x ?_
  refine af cm ?_
  simp only[mvl]
  refine p_x ?_
  refine ai co ?_
  refine p_x ?_
  refine ai (gy hvp.ls.good b3) ?_
  refine p_x ?_
  refine ai c4 ?_
  refine p_x ?_
  rw[e4,p_mul (by rw[e5];show(-9223372036854775808:Int)<=((4*w*v:Nat):Int);omega) (by rw[e5];show((4*w*v:Nat):Int)<=9223372036854775807;omega),e5]
  refine p_x ?_
  refine bv LI ?_
  rw[lenI,p_neq_f rfl]
  refine p_x ?_
  refine bv LU ?_
  rw[qa2,lenA,p_neq_f rfl]
  refine p_x ?_
  refine ai c6 ?_
  simp(disch:=omega)only[↓qXX,qaF]
  refine ai cu7 ?_
  refine p_x ?_
  refine ai ck ?_
  refine p_x ?_
  refine fm (ao w v).length (λ_=>True) (j0:=0) rfl (qaS _) trivial ?_
  intro j hj _ self hself
  refine p_x ?_
  refine bv hU ?_
  by_cases hlt:j<(ao w v).length
  case neg=>
   obtain rfl:j=(ao w v).length:=by omega
   rw[aX (qao _)]
   refine p_x ?_
   refine ai (lives10 _) ?_
   simp(disch:=omega)only[↓qXX]
  rw[aU hlt]
  refine p_x ?_
  obtain⟨⟨c,e⟩,hu⟩:=aK hlt
  obtain⟨k,hk⟩:=aK (l:=ks) (i:=j) (by omega)
  have hum:=qad hu
  obtain⟨hcN,he,n,hn,hlt2⟩:=lS hum
  obtain⟨hnN,_⟩:=iB hs.sh hcN he hn
  obtain⟨hkr,hki⟩:=hkp j (c,e) k hu hk
  have hp:=pair_of hs hG hGk hr hum hn
  have gc:(imL w v G r)[c]?=some (aZ (aG (G c) r) (clN w c)):=by unfold imL;rw[qan,qbe hcN];rfl
  have gn:(imL w v G r)[n]?=some (aZ (aG (G n) r) (clN w n)):=by unfold imL;rw[qan,qbe hnN];rfl
  have uc:((plL w v G r).map upB)[c]?=some (upB (aG (G c) r)):=by unfold plL;rw[qan,qan,qbe hcN];rfl
  have un:((plL w v G r).map upB)[n]?=some (upB (aG (G n) r)):=by unfold plL;rw[qan,qan,qbe hnN];rfl
  have rC:=fp (cq (hGk c hcN) hr) (c:=clN w c) (k:=100) (by have:=kQ hs.sh hcN;omega)
  generalize aZ (aG (G c) r) (clN w c)=C at *
  generalize aZ (aG (G n) r) (clN w n)=D at *
  generalize upB (aG (G c) r)=B at *
  generalize upB (aG (G n) r)=E at *
  have fin:=hself hlt trivial
  refine ew hU rfl hu (cs:=[.int .i64 (.ofNat c)]) rfl (by decide) ?_
  refine p_x ?_
  refine ew hU rfl hu (cs:=[.int .u8 (.ofNat e)]) rfl (by decide) ?_
  refine p_x ?_
  rw[cvN (show e<=1000000 by omega)]
  refine af (rnb_c hs.sh hum hn) ?_
  refine p_x ?_
  refine aQ LK rfl hk ?_
  unfold enc8
  refine p_x ?_
  by_cases hk0:k=0
  ·rw[p_neq_f hk0]
   refine p_x ?_
   have hc0:isCr l c e=false:=by
    rw[←qaT]
    exact λq=>hki.2 q hk0
   obtain⟨⟨k',hk3,rfl⟩,rfl⟩:=hp.2 hc0
   refine bz (σ:=Unit) 3 (λz _=>[.i (mz k' z),.i (Int.ofNat z)]) (λ_ _=>h8) (λ_ _=>True) (j0:=0) (s0:=()) rfl rfl (by decide) trivial ?_
   rintro z _ hz _ self2 hself2
   by_cases hz3:z<3
   ·have hnb:Cc 13 [.i C.1,.i C.2.1,.i (.ofNat C.2.2),.i (.ofNat z)] (cll (nbC C z)):=rnbA (by omega) rC.2.2.2.2 hz3
    have hb01:0<=mz k' z/\mz k' z<=1:=by unfold mz;split<;>omega
    refine p_x ?_
    rw[n3_lss hz3]
    refine p_x ?_
    refine aQ LI rfl gc ?_
    unfold aB
    refine p_x ?_
    refine af hnb ?_
    unfold cll
    refine p_x ?_
    refine aQ LI rfl gn ?_
    unfold aB
    refine p_x ?_
    rw[eqsC]
    have q:=hself2 () hz3 trivial
    by_cases hz:nbC C z=nbC C k'
    ·have ez:=nbC_inj rC.2.2.2.2 hz3 hk3 hz
     rw[show mz k' (z+1)=mz k' z+1 by unfold mz;rw[qd7 (by omega),qd8 (by omega)];rfl]at q
     rw[qd6 hz]
     refine p_x ?_
     rw[bB (by omega)]
     exact q
    ·have ez:z≠k':=λe=>hz (by rw[e])
     rw[show mz k' (z+1)=mz k' z by unfold mz;by_cases h:k'<z<;>simp[h]<;>omega]at q
     rw[qd5 hz]
     refine p_x ?_
     rw[bB (by omega)]
     exact q
   ·obtain rfl:z=3:=by omega
    rw[show mz k' 3=1 by unfold mz;rw[qd7 hk3]]
    refine p_x ?_
    rw[p_lss_f (show(3:Int)<=Int.ofNat 3 by decide)]
    refine p_x ?_
    refine aQ LU rfl uc ?_
    unfold encT
    refine p_x ?_
    refine aQ LU rfl un ?_
    unfold encT
    refine p_x ?_
    rw[eqsBd,qd6 rfl]
    simp(disch:=omega)only[↓qXX,qaF]
    rw[bB (by omega)]
    exact fin
  ·rw[p_neq_t hk0]
   refine p_x ?_
   obtain⟨rfl,rfl⟩:=hp.1 (hki.1 hk0)
   refine aQ LI rfl gc ?_
   unfold aB
   refine p_x ?_
   refine aQ LI rfl gn ?_
   unfold aB
   simp(disch:=omega)only[↓qXX,qaF]
   refine aQ LU rfl uc ?_
   unfold encT
   refine p_x ?_
   refine aQ LU rfl un ?_
   unfold encT
   refine p_x ?_
   rw[eqsBd,qd5 (by cases B<;>simp)]
   refine p_x ?_
   rw[bB (by omega)]
   exact fin)
 exact⟨h',hc⟩
end Go.Am
namespace Go.Am
namespace Sx
def tD{α:Type}{ks:TI}{enc:α->Tl}{ok:α->Prop}(dec:∀cs,FitC ks cs->∃a,enc a=cs/\ok a):∀(n:Nat) (cells:Tl),cells.length=n*ks.length->(∀i,i<n->FitC ks ((cells.drop (i*ks.length)).take ks.length))->∃l:List α,l.length=n/\l.flatMap enc=cells/\∀a∈l,ok a
 |0,cells,hl,_=>⟨[],rfl,by
   simp only[qb0,qbi]at hl
   rw[hl];rfl,λ_ h=>by cases h⟩
 |n+1,cells,hl,hf=>by
  obtain⟨a,h1,h2⟩:=dec _ (by have:=hf 0 (by omega);rw[qb0,qbj]at this;exact this)
  obtain⟨l,h3,h4,h5⟩:=tD dec n (cells.drop ks.length) (by rw[qbI,hl,qbz];omega) (λi hi=>by
   have:=hf (i+1) (by omega)
   rw[qb4]
   rw[qbz,qch,Nat.add_comm]at this
   exact this)
  refine⟨a :: l,by simp[h3],?_,λb hb=>?_⟩
  ·rw[qby,h1,h4,qbG]
  ·rcases qak.1 hb with rfl|hb
   ·exact h2
   ·exact h5 b hb
def ls_of{α:Type}{ks:TI}{enc:α->Tl}{ok:α->Prop}(hlen:∀a,(enc a).length=ks.length)(dec:∀cs,FitC ks cs->∃a,enc a=cs/\ok a){h:HL}{x:Value}{n:Nat}{cells:Tl}(hs:SlC h x ks.length n cells)(hf:∀i,i<n->FitC ks ((cells.drop (i*ks.length)).take ks.length)) :
  ∃l:List α,LsH h x ks.length enc l/\l.length=n/\∀a∈l,ok a:=by
 obtain⟨l,h1,h2,h3⟩:=tD dec n cells hs.1 hf
 refine⟨l,⟨λa _=>hlen a,?_⟩,h1,h3⟩
 rw[h1,h2];exact hs
def bp.i{h:HL}{k:TH}{ks:List CK2}{ls:TE}(hf:bp h (.i k :: ks) ls):∃n r,ls = .i n :: r/\(Lit.int k n).wf=true/\bp h ks r:=by
 match ls,hf with
 | .i n :: r,hf=>exact⟨n,r,rfl,hf.1,hf.2⟩
def bp.b{h:HL}{ks:List CK2}{ls:TE}(hf:bp h (.b :: ks) ls):∃n r,ls = .b n :: r/\bp h ks r:=by
 match ls,hf with
 | .b n :: r,hf=>exact⟨n,r,rfl,hf⟩
def bp.s{h:HL}{es:TI}{ks:List CK2}{ls:TE}(hf:bp h (.s es :: ks) ls):∃x r n cells,ls = .v x :: r/\SlC h x es.length n cells/\n<=maxLen/\(∀i,i<n->FitC es ((cells.drop (i*es.length)).take es.length))/\bp h ks r:=by
 match ls,hf with
 | .v x :: r,⟨⟨n,cells,h1,h2,h3⟩,h4⟩=>exact⟨x,r,n,cells,rfl,h1,h2,h3,h4⟩
def bp.nil{h:HL}{ls:TE}(hf:bp h [] ls):ls=[]:=by
 match ls,hf with
 | [],_=>rfl
def hp_at(bl:List Blk2):HpAt (bl.map λb=>HO.o b.1) 0 bl:=λi b hb=>by
 rw[qaN,qan,hb];rfl
def absH_bl(T:Tt)(bl:List Blk2):absH T (bl.map λb=>HO.o b.1)=bl.map (·.1):=by
 induction bl with
 |nil=>rfl
 |cons b l ih=>show absO T (.o b.1) :: absH T (l.map λb=>HO.o b.1)=_;rw[ih];rfl
end Sx
end Go.Am
namespace Go.Am
open Sx Go.Proofs
def dec8'(cs:Tl)(h:FitC [.i .u8] cs):∃a:Int,enc8 a=cs/\(0<=a/\a<=255):=by
 obtain⟨v1,rfl⟩ : ∃v1,cs=[v1]:=by
  have hl:=FitC.len h
  match cs,hl with
  | [v1],_=>exact⟨v1,rfl⟩
 obtain⟨⟨a,rfl,ha⟩,_⟩:=h
 exact⟨a,rfl,wf_u8 ha⟩
def decFo(cs:Tl)(h:FitC [.i .u8,.i .i8,.b,.b] cs):∃f:Fo,encFo f=cs/\okFo f:=by
 obtain⟨v1,v2,v3,v4,rfl⟩ : ∃v1 v2 v3 v4,cs=[v1,v2,v3,v4]:=by
  have hl:=FitC.len h
  match cs,hl with
  | [v1,v2,v3,v4],_=>exact⟨v1,v2,v3,v4,rfl⟩
 obtain⟨⟨a,rfl,ha⟩,⟨b,rfl,hb⟩,⟨c,rfl⟩,⟨d,rfl⟩,_⟩:=h
 exact⟨(a,b,c,d),rfl,wf_u8 ha,wf_i8 hb⟩
def jG(ls:TE)(h:HL)(hf:bp h [.i .u8,.i .u8,.s [.i .u8,.i .i8,.b,.b],.s [.i .u8],.i .u8,.i .i8,.i .i8] ls):∃h',aw cc ac 3 ls (absH aa h) [.b true] (absH aa h'):=by
 obtain⟨w,ls,rfl,hw,hf⟩:=hf.i
 obtain⟨v,ls,rfl,hv,hf⟩:=hf.i
 obtain⟨s,ls,n,cells,rfl,h1,_,h3,hf⟩:=hf.s
 obtain⟨s',ls,n',cells',rfl,h1',hn',h3',hf⟩:=hf.s
 obtain⟨t,ls,rfl,ht,hf⟩:=hf.i
 obtain⟨x,ls,rfl,hx,hf⟩:=hf.i
 obtain⟨y,ls,rfl,hy,hf⟩:=hf.i
 obtain rfl:=hf.nil
 obtain⟨fs,hl,_,hk⟩:=ls_of (enc:=encFo) (ok:=okFo) (λ_=>rfl) decFo h1 h3
 obtain⟨an,hl',hlen,hk'⟩:=ls_of (enc:=enc8) (ok:=λa=>0<=a/\a<=255) (λ_=>rfl) dec8' h1' h3'
 exact mF (wf_u8 hw) (wf_u8 hv) (wf_u8 ht) (wf_i8 hx) (wf_i8 hy) hl hk hl' hk' (by rw[hlen];unfold maxLen at hn';omega)
end Go.Am
namespace Go.Proofs.YtfkllblnkmpklaaGreatDoor
open Go Go.Am Go.Am.Sx
open Go.ChangeShapes Go.WideShapes Go.ChangeAt Go.WideMaps Go.WideElems Go.RowKit
abbrev laidC:List (String×DataW Unit):= [("crimp/moves.turns",Rows.laid_crimp_moves_turns), ("crimp/cells.quarters",Rows.laid_crimp_cells_quarters), ("crimp/corners.ways",Rows.laid_crimp_corners_ways)]
def name0 : Tryz.prog.globalNamed "crimp/moves.turns" = some 0:=by kernel_rfl
def name1 : Tryz.prog.globalNamed "crimp/cells.quarters" = some 1:=by kernel_rfl
def name2 : Tryz.prog.globalNamed "crimp/corners.ways" = some 2:=by kernel_rfl
def of_laid{W:World}(h:laidMetH Tryz.prog laidC W):∃_:Unit,∀(g:Nat) (vs:Tl),cc.G g=some vs->
  gBlk g<W.heap.size/\vs.all be=true/\∃c e fr,W.heap[gBlk g]?=some (.cells c e fr)/\cg (λ_=>none) vs c (gOff g):=by
 rw[MakeChecks.laidMetH_plain _ _ _ (by kernel_rfl)]at h
 obtain⟨ps,h,_,_⟩:=h
 refine⟨(),λg vs hg=>?_⟩
 have hcell:=gl_cell g vs hg
 unfold cc at hg
 simp only at hg
 split at hg
 ·cases hg
  exact oc (by kernel_rfl) hcell (by kernel_rfl) (lr h "crimp/moves.turns" Rows.laid_crimp_moves_turns qay 0 180 8 gl0 name0 (by kernel_rfl) (by kernel_rfl))
 ·cases hg
  exact oc (by kernel_rfl) hcell (by kernel_rfl) (lr h "crimp/cells.quarters" Rows.laid_crimp_cells_quarters (qas _ qay) 1 217 8 gl1 name1 (by kernel_rfl) (by kernel_rfl))
 ·cases hg
  exact oc (by kernel_rfl) hcell (by kernel_rfl) (lr h "crimp/corners.ways" Rows.laid_crimp_corners_ways (qas _ (qas _ qay)) 2 243 8 gl2 name2 (by kernel_rfl) (by kernel_rfl))
 ·cases hg
def own:ownKnob Tryz.prog.godebug=none:=by kernel_rfl
def door_met(os:Os)(args:Tj):laidMetH Tryz.prog laidC ((World.doorLaid Tryz.prog 400 os).forCall (λ_ _=>0) ⟨#[],args,[]⟩).memory:=
 laidMetH_of_parts3 (fuel:=8) (laidMet_of_run' 8 (by kernel_rfl) (by kernel_rfl)) (by kernel_rfl) (by kernel_rfl)
end Go.Proofs.YtfkllblnkmpklaaGreatDoor
end

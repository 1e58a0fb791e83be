/-
  PART 6 OF THE PROOF: Gb Ph1 Ph2 Ph3 Pq Hx1 Hx2 Sx15 E0 E2 E18 E40 Gp E1 (no conditions).
-/
import Derived.Test.YtplljlaeahkchaaGreatDoorCP5
set_option linter.unusedSectionVars false
set_option linter.unusedSimpArgs false
set_option linter.unusedVariables false
set_option linter.constructorNameAsVariable false
set_option linter.defProp false
noncomputable section
/-
 THE FUNCTIONS IN THE DIRECT STYLE OF RUNS,BY PROGRAM;THE TABLE OF RUNS.
-/
set_option maxRecDepth 100000
namespace Go.Am
open Sx Go.Proofs
instance val0 : Val := ⟨λ_ => 0⟩
instance kno0:Kno:=KnoC cc neuN
theorem mixed:cc.P.follows .mixedOrders=true:=by kernel_rfl
theorem bv(g:Nat)(vs:List Value)(h:cc.G g=some vs):vs.all gfl=true:=by
 unfold cc at h
 simp only at h
 split at h<;>first|(cases h;done)|(obtain rfl:=qan h;kernel_rfl)
theorem pV:DrOk cc drN:=drOf_ok neuN_ok (λ_ _ _ _ _ (h:_/\_)=>h.1)
abbrev Ent(k:Nat)(g:FB):Prop:=nP cc ae aa k g
abbrev Cok(c:ac):Prop:=CallBOk cc ae aa c
theorem tG(f:FuncId)(sg:Sig)(ls rs:List Lf)(H':List HObj)(hs:ae f=some sg)(hp:sg.plain=true)(hc:aq cc ae f ls [] rs H'):∀H,aq cc ae f ls H rs H:=fz mixed bv hs hp hc
theorem ent_of{k:Nat}{g:ac->FB}{f:Alg RT HTr->FB}{ct:ac->ac}{fn:Fn1}(h0:g=λc=>f (BA ae aa (ct c)))(h2:f=λA ls h K=>ai A (xc k) ae drN fn ls h K)(h3:FnIs (xc k) ae k fn){c:ac}(hc:Cok (ct c)):Ent k (g c):=by
 intro ls h K w hls hk
 rw[h0,h2]at hk
 obtain⟨rs,h',a1,_,a3⟩:=ou (BA_ok (w:=w) hc) pV h3 hls hk
 exact⟨rs,h',a1,a3⟩
theorem am{k:Nat}{g:ac->FB}{f:Alg RT HTr->FB}{ct:ac->ac}{fn:Fn1}(h2:∀c ls h K,f (BA ae aa (ct c)) ls h K=g c ls h K)(h3:f=λA ls h K=>ai A (xc k) ae drN fn ls h K)(h4:FnIs (xc k) ae k fn){c:ac}(hc:Cok (ct c)):Ent k (g c):=
 ent_of (g:=g) (ct:=ct) (funext λc=>funext λls=>funext λh=>funext λK=>(h2 c ls h K).symm) h3 h4 hc
theorem aN:∀p∈([]:List (Nat×FB)),Ent p.1 p.2:=λ_ h=>by cases h
theorem aC{k:Nat}{g:FB}{l:List (Nat×FB)}(h:Ent k g)(t:∀p∈l,Ent p.1 p.2):∀p∈(k,g) :: l,Ent p.1 p.2:=λp hp=>by
 rcases qak.1 hp with rfl|hp
 ·exact h
 ·exact t p hp
theorem ent_ro{k:Nat}{g:FB}{sg:Sig}(h:Ent k g)(h4:ae k=some sg)(h5:sg.rs.all SK.plain=true)(h6:neuN k=none):Ent k (memoR g):=memoR_ok (λls0 rs H0 H' H σ hc hb hl=>call_ro mixed bv h4 h5 h6 σ hc hb hl) h
theorem aj{k:Nat}{g:FB}{sg:Sig}(h:Ent k g)(h4:ae k=some sg)(h5:sg.plain=true):Ent k (memo g):=memo_ok tG h h4 h5
/-- crimp/crimpref03.Corners -/
def ct48(c:ac):ac:=tblF [] c
def wr48(c:ac):FB:=f48 (BA ae aa (ct48 c))
def w48(c:ac):FB:=memo (wr48 c)
theorem ok48{c:ac}(hc:Cok c):Ent 48 (w48 c):=aj (am (f:=λA=>f48 A) (ct:=ct48) (λ_ _ _ _=>rfl) (congrFun (congrFun e48 RT) HTr) i48 (af hc aN)) rfl (by kernel_rfl)
/-- crimp/crimpref01.Across -/
def ct40(c:ac):ac:=tblF [] c
def wr40(c:ac):FB:=f40 (BA ae aa (ct40 c))
def w40(c:ac):FB:=memo (wr40 c)
theorem ok40{c:ac}(hc:Cok c):Ent 40 (w40 c):=aj (am (f:=λA=>f40 A) (ct:=ct40) (λ_ _ _ _=>rfl) (congrFun (congrFun e40 RT) HTr) i40 (af hc aN)) rfl (by kernel_rfl)
/-- crimp/crimpref03.Line -/
def ct67(c:ac):ac:=tblF [(40,w40 c),(48,w48 c)] c
def wr67(c:ac):FB:=f67 (BA ae aa (ct67 c))
def w67(c:ac):FB:=memo (wr67 c)
theorem ok67{c:ac}(hc:Cok c):Ent 67 (w67 c):=aj (am (f:=λA=>f67 A) (ct:=ct67) (λ_ _ _ _=>rfl) (congrFun (congrFun e67 RT) HTr) i67 (af hc (aC (ok40 hc) (aC (ok48 hc) aN)))) rfl (by kernel_rfl)
/-- crimp/crimpref01.Far -/
def ct102(c:ac):ac:=tblF [(40,w40 c)] c
def wr102(c:ac):FB:=f102 (BA ae aa (ct102 c))
def w102(c:ac):FB:=memo (wr102 c)
theorem ok102{c:ac}(hc:Cok c):Ent 102 (w102 c):=aj (am (f:=λA=>f102 A) (ct:=ct102) (λ_ _ _ _=>rfl) (congrFun (congrFun e102 RT) HTr) i102 (af hc (aC (ok40 hc) aN))) rfl (by kernel_rfl)
/-- crimp/crimpref01.Reflect -/
def ct68(c:ac):ac:=tblF [(40,w40 c),(102,w102 c)] c
def wr68(c:ac):FB:=f68 (BA ae aa (ct68 c))
def w68(c:ac):FB:=memo (wr68 c)
theorem ok68{c:ac}(hc:Cok c):Ent 68 (w68 c):=aj (am (f:=λA=>f68 A) (ct:=ct68) (λ_ _ _ _=>rfl) (congrFun (congrFun e68 RT) HTr) i68 (af hc (aC (ok40 hc) (aC (ok102 hc) aN)))) rfl (by kernel_rfl)
/-- crimp/crimpref03.With -/
def ct69(c:ac):ac:=tblF [(48,w48 c)] c
def wr69(c:ac):FB:=f69 (BA ae aa (ct69 c))
def w69(c:ac):FB:=memo (wr69 c)
theorem ok69{c:ac}(hc:Cok c):Ent 69 (w69 c):=aj (am (f:=λA=>f69 A) (ct:=ct69) (λ_ _ _ _=>rfl) (congrFun (congrFun e69 RT) HTr) i69 (af hc (aC (ok48 hc) aN))) rfl (by kernel_rfl)
/-- crimp/crimpref03.Neighbour -/
def ct31(c:ac):ac:=tblF [(48,w48 c),(67,w67 c),(68,w68 c),(69,w69 c)] c
def wr31(c:ac):FB:=f31 (BA ae aa (ct31 c))
def w31(c:ac):FB:=memo (wr31 c)
theorem ok31{c:ac}(hc:Cok c):Ent 31 (w31 c):=aj (am (f:=λA=>f31 A) (ct:=ct31) (λ_ _ _ _=>rfl) (congrFun (congrFun e31 RT) HTr) i31 (af hc (aC (ok48 hc) (aC (ok67 hc) (aC (ok68 hc) (aC (ok69 hc) aN)))))) rfl (by kernel_rfl)
/-- crimp/crimpref05.Id -/
def ct66(c:ac):ac:=tblF [] c
def wr66(c:ac):FB:=f66 (BA ae aa (ct66 c))
def w66(c:ac):FB:=memo (wr66 c)
theorem ok66{c:ac}(hc:Cok c):Ent 66 (w66 c):=aj (am (f:=λA=>f66 A) (ct:=ct66) (λ_ _ _ _=>rfl) (congrFun (congrFun e66 RT) HTr) i66 (af hc aN)) rfl (by kernel_rfl)
/-- crimp/crimpref05.Neighbour -/
def ct30(c:ac):ac:=tblF [(31,w31 c),(66,w66 c)] c
def wr30(c:ac):FB:=f30 (BA ae aa (ct30 c))
def w30(c:ac):FB:=memo (wr30 c)
theorem ok30{c:ac}(hc:Cok c):Ent 30 (w30 c):=aj (am (f:=λA=>f30 A) (ct:=ct30) (λ_ _ _ _=>rfl) (congrFun (congrFun e30 RT) HTr) i30 (af hc (aC (ok31 hc) (aC (ok66 hc) aN)))) rfl (by kernel_rfl)
/-- crimp/crimpref05.Units -/
def ct16(c:ac):ac:=tblF [(30,w30 c)] c
def wr16(c:ac):FB:=f16 (BA ae aa (ct16 c))
def w16(c:ac):FB:=wr16 c
theorem ok16{c:ac}(hc:Cok c):Ent 16 (w16 c):=am (f:=λA=>f16 A) (ct:=ct16) (λ_ _ _ _=>rfl) (congrFun (congrFun e16 RT) HTr) i16 (af hc (aC (ok30 hc) aN))
/-- crimp/crimpref06.With -/
def ct18(c:ac):ac:=tblF [(16,w16 c)] c
def wr18(c:ac):FB:=f18 (BA ae aa (ct18 c))
def w18(c:ac):FB:=wr18 c
theorem ok18{c:ac}(hc:Cok c):Ent 18 (w18 c):=am (f:=λA=>f18 A) (ct:=ct18) (λ_ _ _ _=>rfl) (congrFun (congrFun e18 RT) HTr) i18 (af hc (aC (ok16 hc) aN))
/-- (crimp/crimplaw06.P).Of -/
def ct9(c:ac):ac:=tblF [(18,w18 c)] c
def wr9(c:ac):FB:=f9 (BA ae aa (ct9 c))
def w9(c:ac):FB:=wr9 c
theorem ok9{c:ac}(hc:Cok c):Ent 9 (w9 c):=am (f:=λA=>f9 A) (ct:=ct9) (λ_ _ _ _=>rfl) (congrFun (congrFun e9 RT) HTr) i9 (af hc (aC (ok18 hc) aN))
/-- crimp/crimpref09.Is -/
def ct10(c:ac):ac:=tblF [] c
def wr10(c:ac):FB:=f10 (BA ae aa (ct10 c))
def w10(c:ac):FB:=memo (wr10 c)
theorem ok10{c:ac}(hc:Cok c):Ent 10 (w10 c):=aj (am (f:=λA=>f10 A) (ct:=ct10) (λ_ _ _ _=>rfl) (congrFun (congrFun e10 RT) HTr) i10 (af hc aN)) rfl (by kernel_rfl)
/-- crimp/crimpref05.Ends -/
def ct19(c:ac):ac:=tblF [(31,w31 c),(48,w48 c)] c
def wr19(c:ac):FB:=f19 (BA ae aa (ct19 c))
def w19(c:ac):FB:=memo (wr19 c)
theorem ok19{c:ac}(hc:Cok c):Ent 19 (w19 c):=aj (am (f:=λA=>f19 A) (ct:=ct19) (λ_ _ _ _=>rfl) (congrFun (congrFun e19 RT) HTr) i19 (af hc (aC (ok31 hc) (aC (ok48 hc) aN)))) rfl (by kernel_rfl)
/-- crimp/crimpref09.Dir -/
def ct36(c:ac):ac:=tblF [] c
def wr36(c:ac):FB:=f36 (BA ae aa (ct36 c))
def w36(c:ac):FB:=memo (wr36 c)
theorem ok36{c:ac}(hc:Cok c):Ent 36 (w36 c):=aj (am (f:=λA=>f36 A) (ct:=ct36) (λ_ _ _ _=>rfl) (congrFun (congrFun e36 RT) HTr) i36 (af hc aN)) rfl (by kernel_rfl)
/-- crimp/crimpref09.Creases -/
def ct11(c:ac):ac:=tblF [(19,w19 c),(36,w36 c)] c
def wr11(c:ac):FB:=f11 (BA ae aa (ct11 c))
def w11(c:ac):FB:=wr11 c
theorem ok11{c:ac}(hc:Cok c):Ent 11 (w11 c):=am (f:=λA=>f11 A) (ct:=ct11) (λ_ _ _ _=>rfl) (congrFun (congrFun e11 RT) HTr) i11 (af hc (aC (ok19 hc) (aC (ok36 hc) aN)))
/-- crimp/moves.Identity -/
def ct22(c:ac):ac:=tblF [] c
def wr22(c:ac):FB:=f22 (BA ae aa (ct22 c))
def w22(c:ac):FB:=memo (wr22 c)
theorem ok22{c:ac}(hc:Cok c):Ent 22 (w22 c):=aj (am (f:=λA=>f22 A) (ct:=ct22) (λ_ _ _ _=>rfl) (congrFun (congrFun e22 RT) HTr) i22 (af hc aN)) rfl (by kernel_rfl)
/-- crimp/sheets.Check -/
def ct86(c:ac):ac:=tblF [] c
def wr86(c:ac):FB:=f86 (BA ae aa (ct86 c))
def w86(c:ac):FB:=memo (wr86 c)
theorem ok86{c:ac}(hc:Cok c):Ent 86 (w86 c):=aj (am (f:=λA=>f86 A) (ct:=ct86) (λ_ _ _ _=>rfl) (congrFun (congrFun e86 RT) HTr) i86 (af hc aN)) rfl (by kernel_rfl)
/-- slices.IndexFunc[[]crimp/patterns.Crease,crimp/patterns.Crease] -/
def ct124(c:ac):ac:=tblF [] c
def wr124(c:ac):FB:=f124 (BA ae aa (ct124 c))
def w124(c:ac):FB:=wr124 c
theorem ok124{c:ac}(hc:Cok c):Ent 124 (w124 c):=am (f:=λA=>f124 A) (ct:=ct124) (λ_ _ _ _=>rfl) (congrFun (congrFun e124 RT) HTr) i124 (af hc aN)
/-- slices.ContainsFunc[[]crimp/patterns.Crease,crimp/patterns.Crease] -/
def ct87(c:ac):ac:=tblF [(124,w124 c)] c
def wr87(c:ac):FB:=f87 (BA ae aa (ct87 c))
def w87(c:ac):FB:=wr87 c
theorem ok87{c:ac}(hc:Cok c):Ent 87 (w87 c):=am (f:=λA=>f87 A) (ct:=ct87) (λ_ _ _ _=>rfl) (congrFun (congrFun e87 RT) HTr) i87 (af hc (aC (ok124 hc) aN))
/-- (crimp/sheets.Sheet).has -/
def ct131(c:ac):ac:=tblF [] c
def wr131(c:ac):FB:=f131 (BA ae aa (ct131 c))
def w131(c:ac):FB:=memo (wr131 c)
theorem ok131{c:ac}(hc:Cok c):Ent 131 (w131 c):=aj (am (f:=λA=>f131 A) (ct:=ct131) (λ_ _ _ _=>rfl) (congrFun (congrFun e131 RT) HTr) i131 (af hc aN)) rfl (by kernel_rfl)
/-- (crimp/sheets.Sheet).cell -/
def ct132(c:ac):ac:=tblF [] c
def wr132(c:ac):FB:=f132 (BA ae aa (ct132 c))
def w132(c:ac):FB:=memo (wr132 c)
theorem ok132{c:ac}(hc:Cok c):Ent 132 (w132 c):=aj (am (f:=λA=>f132 A) (ct:=ct132) (λ_ _ _ _=>rfl) (congrFun (congrFun e132 RT) HTr) i132 (af hc aN)) rfl (by kernel_rfl)
/-- crimp/sheets.Cell -/
def ct95(c:ac):ac:=tblF [(86,w86 c),(131,w131 c),(132,w132 c)] c
def wr95(c:ac):FB:=f95 (BA ae aa (ct95 c))
def w95(c:ac):FB:=memo (wr95 c)
theorem ok95{c:ac}(hc:Cok c):Ent 95 (w95 c):=aj (am (f:=λA=>f95 A) (ct:=ct95) (λ_ _ _ _=>rfl) (congrFun (congrFun e95 RT) HTr) i95 (af hc (aC (ok86 hc) (aC (ok131 hc) (aC (ok132 hc) aN))))) rfl (by kernel_rfl)
/-- crimp/cells.Check -/
def ct133(c:ac):ac:=tblF [] c
def wr133(c:ac):FB:=f133 (BA ae aa (ct133 c))
def w133(c:ac):FB:=memo (wr133 c)
theorem uK{c:ac}(hc:Cok c):Ent 133 (w133 c):=aj (am (f:=λA=>f133 A) (ct:=ct133) (λ_ _ _ _=>rfl) (congrFun (congrFun e133 RT) HTr) i133 (af hc aN)) rfl (by kernel_rfl)
/-- crimp/sheets.Id -/
def ct110(c:ac):ac:=tblF [(86,w86 c),(133,w133 c)] c
def wr110(c:ac):FB:=f110 (BA ae aa (ct110 c))
def w110(c:ac):FB:=memo (wr110 c)
theorem ok110{c:ac}(hc:Cok c):Ent 110 (w110 c):=aj (am (f:=λA=>f110 A) (ct:=ct110) (λ_ _ _ _=>rfl) (congrFun (congrFun e110 RT) HTr) i110 (af hc (aC (ok86 hc) (aC (uK hc) aN)))) rfl (by kernel_rfl)
/-- crimp/cells.Neighbour -/
def ct114(c:ac):ac:=tblF [(133,w133 c)] c
def wr114(c:ac):FB:=f114 (BA ae aa (ct114 c))
def w114(c:ac):FB:=memo (wr114 c)
theorem ok114{c:ac}(hc:Cok c):Ent 114 (w114 c):=aj (am (f:=λA=>f114 A) (ct:=ct114) (λ_ _ _ _=>rfl) (congrFun (congrFun e114 RT) HTr) i114 (af hc (aC (uK hc) aN))) rfl (by kernel_rfl)
/-- crimp/sheets.Neighbour -/
def ct125(c:ac):ac:=tblF [(95,w95 c),(110,w110 c),(114,w114 c)] c
def wr125(c:ac):FB:=f125 (BA ae aa (ct125 c))
def w125(c:ac):FB:=memo (wr125 c)
theorem ok125{c:ac}(hc:Cok c):Ent 125 (w125 c):=aj (am (f:=λA=>f125 A) (ct:=ct125) (λ_ _ _ _=>rfl) (congrFun (congrFun e125 RT) HTr) i125 (af hc (aC (ok95 hc) (aC (ok110 hc) (aC (ok114 hc) aN))))) rfl (by kernel_rfl)
/-- crimp/sheets.Name -/
def ct90(c:ac):ac:=tblF [(125,w125 c)] c
def wr90(c:ac):FB:=f90 (BA ae aa (ct90 c))
def w90(c:ac):FB:=memo (wr90 c)
theorem ok90{c:ac}(hc:Cok c):Ent 90 (w90 c):=aj (am (f:=λA=>f90 A) (ct:=ct90) (λ_ _ _ _=>rfl) (congrFun (congrFun e90 RT) HTr) i90 (af hc (aC (ok125 hc) aN))) rfl (by kernel_rfl)
/-- (crimp/patterns.Crease).unit -/
def ct91(c:ac):ac:=tblF [] c
def wr91(c:ac):FB:=f91 (BA ae aa (ct91 c))
def w91(c:ac):FB:=memo (wr91 c)
theorem ok91{c:ac}(hc:Cok c):Ent 91 (w91 c):=aj (am (f:=λA=>f91 A) (ct:=ct91) (λ_ _ _ _=>rfl) (congrFun (congrFun e91 RT) HTr) i91 (af hc aN)) rfl (by kernel_rfl)
/-- crimp/patterns.order -/
def ct92(c:ac):ac:=tblF [] c
def wr92(c:ac):FB:=f92 (BA ae aa (ct92 c))
def w92(c:ac):FB:=memo (wr92 c)
theorem ok92{c:ac}(hc:Cok c):Ent 92 (w92 c):=aj (am (f:=λA=>f92 A) (ct:=ct92) (λ_ _ _ _=>rfl) (congrFun (congrFun e92 RT) HTr) i92 (af hc aN)) rfl (by kernel_rfl)
/-- crimp/patterns.Check -/
def ct49(c:ac):ac:=tblF [(86,w86 c),(87,w87 c),(90,w90 c),(91,w91 c),(92,w92 c)] c
def wr49(c:ac):FB:=f49 (BA ae aa (ct49 c))
def w49(c:ac):FB:=memoR (wr49 c)
theorem ok49{c:ac}(hc:Cok c):Ent 49 (w49 c):=ent_ro (am (f:=λA=>f49 A) (ct:=ct49) (λ_ _ _ _=>rfl) (congrFun (congrFun e49 RT) HTr) i49 (af hc (aC (ok86 hc) (aC (ok87 hc) (aC (ok90 hc) (aC (ok91 hc) (aC (ok92 hc) aN))))))) rfl (by kernel_rfl) (by kernel_rfl)
/-- crimp/corners.corner -/
def ct71(c:ac):ac:=tblF [(86,w86 c)] c
def wr71(c:ac):FB:=f71 (BA ae aa (ct71 c))
def w71(c:ac):FB:=memo (wr71 c)
theorem ok71{c:ac}(hc:Cok c):Ent 71 (w71 c):=aj (am (f:=λA=>f71 A) (ct:=ct71) (λ_ _ _ _=>rfl) (congrFun (congrFun e71 RT) HTr) i71 (af hc (aC (ok86 hc) aN))) rfl (by kernel_rfl)
/-- crimp/corners.walk -/
def ct72(c:ac):ac:=tblF [] c
def wr72(c:ac):FB:=f72 (BA ae aa (ct72 c))
def w72(c:ac):FB:=wr72 c
theorem ok72{c:ac}(hc:Cok c):Ent 72 (w72 c):=am (f:=λA=>f72 A) (ct:=ct72) (λ_ _ _ _=>rfl) (congrFun (congrFun e72 RT) HTr) i72 (af hc aN)
/-- slices.insertionSortCmpFunc[crimp/corners.Ray] -/
def ct146(c:ac):ac:=tblF [] c
def wr146(c:ac):FB:=f146 (BA ae aa (ct146 c))
def w146(c:ac):FB:=wr146 c
theorem ok146{c:ac}(hc:Cok c):Ent 146 (w146 c):=am (f:=λA=>f146 A) (ct:=ct146) (λ_ _ _ _=>rfl) (congrFun (congrFun e146 RT) HTr) i146 (af hc aN)
/-- slices.pdqsortCmpFunc[crimp/corners.Ray] -/
def ct116(c:ac):ac:=tblF [(146,w146 c)] c
def wr116(c:ac):FB:=f116 (BA ae aa (ct116 c))
def w116(c:ac):FB:=wr116 c
theorem ok116{c:ac}(hc:Cok c):Ent 116 (w116 c):=am (f:=λA=>f116 A) (ct:=ct116) (λ_ _ _ _=>rfl) (congrFun (congrFun e116 RT) HTr) i116 (af hc (aC (ok146 hc) aN))
/-- math/bits.Len64 -/
def ct155(c:ac):ac:=tblF [] c
def wr155(c:ac):FB:=f155 (BA ae aa (ct155 c))
def w155(c:ac):FB:=memo (wr155 c)
theorem ok155{c:ac}(hc:Cok c):Ent 155 (w155 c):=aj (am (f:=λA=>f155 A) (ct:=ct155) (λ_ _ _ _=>rfl) (congrFun (congrFun e155 RT) HTr) i155 (af hc aN)) rfl (by kernel_rfl)
/-- math/bits.Len -/
def ct117(c:ac):ac:=tblF [(155,w155 c)] c
def wr117(c:ac):FB:=f117 (BA ae aa (ct117 c))
def w117(c:ac):FB:=memo (wr117 c)
theorem ok117{c:ac}(hc:Cok c):Ent 117 (w117 c):=aj (am (f:=λA=>f117 A) (ct:=ct117) (λ_ _ _ _=>rfl) (congrFun (congrFun e117 RT) HTr) i117 (af hc (aC (ok155 hc) aN))) rfl (by kernel_rfl)
/-- slices.SortFunc[[]crimp/corners.Ray,crimp/corners.Ray] -/
def ct74(c:ac):ac:=tblF [(116,w116 c),(117,w117 c)] c
def wr74(c:ac):FB:=f74 (BA ae aa (ct74 c))
def w74(c:ac):FB:=wr74 c
theorem ok74{c:ac}(hc:Cok c):Ent 74 (w74 c):=am (f:=λA=>f74 A) (ct:=ct74) (λ_ _ _ _=>rfl) (congrFun (congrFun e74 RT) HTr) i74 (af hc (aC (ok116 hc) (aC (ok117 hc) aN)))
/-- slices.Clip[[]crimp/corners.Ray,crimp/corners.Ray] -/
def ct76(c:ac):ac:=tblF [] c
def wr76(c:ac):FB:=f76 (BA ae aa (ct76 c))
def w76(c:ac):FB:=wr76 c
theorem ok76{c:ac}(hc:Cok c):Ent 76 (w76 c):=am (f:=λA=>f76 A) (ct:=ct76) (λ_ _ _ _=>rfl) (congrFun (congrFun e76 RT) HTr) i76 (af hc aN)
/-- crimp/corners.Creases -/
def ct37(c:ac):ac:=tblF [(49,w49 c),(71,w71 c),(72,w72 c),(74,w74 c),(76,w76 c)] c
def wr37(c:ac):FB:=f37 (BA ae aa (ct37 c))
def w37(c:ac):FB:=wr37 c
theorem ok37{c:ac}(hc:Cok c):Ent 37 (w37 c):=am (f:=λA=>f37 A) (ct:=ct37) (λ_ _ _ _=>rfl) (congrFun (congrFun e37 RT) HTr) i37 (af hc (aC (ok49 hc) (aC (ok71 hc) (aC (ok72 hc) (aC (ok74 hc) (aC (ok76 hc) aN))))))
/-- crimp/lines.CheckPoint -/
def ct78(c:ac):ac:=tblF [] c
def wr78(c:ac):FB:=f78 (BA ae aa (ct78 c))
def w78(c:ac):FB:=memo (wr78 c)
theorem ok78{c:ac}(hc:Cok c):Ent 78 (w78 c):=aj (am (f:=λA=>f78 A) (ct:=ct78) (λ_ _ _ _=>rfl) (congrFun (congrFun e78 RT) HTr) i78 (af hc aN)) rfl (by kernel_rfl)
/-- crimp/lines.along -/
def ct79(c:ac):ac:=tblF [] c
def wr79(c:ac):FB:=f79 (BA ae aa (ct79 c))
def w79(c:ac):FB:=memo (wr79 c)
theorem ok79{c:ac}(hc:Cok c):Ent 79 (w79 c):=aj (am (f:=λA=>f79 A) (ct:=ct79) (λ_ _ _ _=>rfl) (congrFun (congrFun e79 RT) HTr) i79 (af hc aN)) rfl (by kernel_rfl)
/-- crimp/lines.Check -/
def ct80(c:ac):ac:=tblF [] c
def wr80(c:ac):FB:=f80 (BA ae aa (ct80 c))
def w80(c:ac):FB:=memo (wr80 c)
theorem ok80{c:ac}(hc:Cok c):Ent 80 (w80 c):=aj (am (f:=λA=>f80 A) (ct:=ct80) (λ_ _ _ _=>rfl) (congrFun (congrFun e80 RT) HTr) i80 (af hc aN)) rfl (by kernel_rfl)
/-- crimp/lines.Through -/
def ct39(c:ac):ac:=tblF [(78,w78 c),(79,w79 c),(80,w80 c)] c
def wr39(c:ac):FB:=f39 (BA ae aa (ct39 c))
def w39(c:ac):FB:=memo (wr39 c)
theorem ok39{c:ac}(hc:Cok c):Ent 39 (w39 c):=aj (am (f:=λA=>f39 A) (ct:=ct39) (λ_ _ _ _=>rfl) (congrFun (congrFun e39 RT) HTr) i39 (af hc (aC (ok78 hc) (aC (ok79 hc) (aC (ok80 hc) aN))))) rfl (by kernel_rfl)
/-- crimp/places.Closes -/
def ct12(c:ac):ac:=tblF [(22,w22 c),(37,w37 c),(39,w39 c)] c
def wr12(c:ac):FB:=f12 (BA ae aa (ct12 c))
def w12(c:ac):FB:=wr12 c
theorem ok12{c:ac}(hc:Cok c):Ent 12 (w12 c):=am (f:=λA=>f12 A) (ct:=ct12) (λ_ _ _ _=>rfl) (congrFun (congrFun e12 RT) HTr) i12 (af hc (aC (ok22 hc) (aC (ok37 hc) (aC (ok39 hc) aN))))
/-- crimp/crimpref02.Point -/
def ct82(c:ac):ac:=tblF [] c
def wr82(c:ac):FB:=f82 (BA ae aa (ct82 c))
def w82(c:ac):FB:=memo (wr82 c)
theorem ok82{c:ac}(hc:Cok c):Ent 82 (w82 c):=aj (am (f:=λA=>f82 A) (ct:=ct82) (λ_ _ _ _=>rfl) (congrFun (congrFun e82 RT) HTr) i82 (af hc aN)) rfl (by kernel_rfl)
/-- crimp/crimpref02.Told -/
def ct81(c:ac):ac:=tblF [(82,w82 c)] c
def wr81(c:ac):FB:=f81 (BA ae aa (ct81 c))
def w81(c:ac):FB:=memo (wr81 c)
theorem ok81{c:ac}(hc:Cok c):Ent 81 (w81 c):=aj (am (f:=λA=>f81 A) (ct:=ct81) (λ_ _ _ _=>rfl) (congrFun (congrFun e81 RT) HTr) i81 (af hc (aC (ok82 hc) aN))) rfl (by kernel_rfl)
/-- crimp/crimpref02.Then -/
def ct41(c:ac):ac:=tblF [(81,w81 c),(82,w82 c)] c
def wr41(c:ac):FB:=f41 (BA ae aa (ct41 c))
def w41(c:ac):FB:=memo (wr41 c)
theorem ok41{c:ac}(hc:Cok c):Ent 41 (w41 c):=aj (am (f:=λA=>f41 A) (ct:=ct41) (λ_ _ _ _=>rfl) (congrFun (congrFun e41 RT) HTr) i41 (af hc (aC (ok81 hc) (aC (ok82 hc) aN)))) rfl (by kernel_rfl)
/-- crimp/crimpref02.Of -/
def ct42(c:ac):ac:=tblF [(68,w68 c),(81,w81 c)] c
def wr42(c:ac):FB:=f42 (BA ae aa (ct42 c))
def w42(c:ac):FB:=memo (wr42 c)
theorem ok42{c:ac}(hc:Cok c):Ent 42 (w42 c):=aj (am (f:=λA=>f42 A) (ct:=ct42) (λ_ _ _ _=>rfl) (congrFun (congrFun e42 RT) HTr) i42 (af hc (aC (ok68 hc) (aC (ok81 hc) aN)))) rfl (by kernel_rfl)
/-- crimp/crimpref10.Product -/
def ct13(c:ac):ac:=tblF [(40,w40 c),(41,w41 c),(42,w42 c)] c
def wr13(c:ac):FB:=f13 (BA ae aa (ct13 c))
def w13(c:ac):FB:=wr13 c
theorem ok13{c:ac}(hc:Cok c):Ent 13 (w13 c):=am (f:=λA=>f13 A) (ct:=ct13) (λ_ _ _ _=>rfl) (congrFun (congrFun e13 RT) HTr) i13 (af hc (aC (ok40 hc) (aC (ok41 hc) (aC (ok42 hc) aN))))
/-- slices.Clip[[]crimp/api.Point,crimp/api.Point] -/
def ct126(c:ac):ac:=tblF [] c
def wr126(c:ac):FB:=f126 (BA ae aa (ct126 c))
def w126(c:ac):FB:=wr126 c
theorem ok126{c:ac}(hc:Cok c):Ent 126 (w126 c):=am (f:=λA=>f126 A) (ct:=ct126) (λ_ _ _ _=>rfl) (congrFun (congrFun e126 RT) HTr) i126 (af hc aN)
/-- crimp/sheets.Points -/
def ct93(c:ac):ac:=tblF [(86,w86 c),(126,w126 c)] c
def wr93(c:ac):FB:=f93 (BA ae aa (ct93 c))
def w93(c:ac):FB:=wr93 c
theorem ok93{c:ac}(hc:Cok c):Ent 93 (w93 c):=am (f:=λA=>f93 A) (ct:=ct93) (λ_ _ _ _=>rfl) (congrFun (congrFun e93 RT) HTr) i93 (af hc (aC (ok86 hc) (aC (ok126 hc) aN)))
/-- crimp/corners.All -/
def ct50(c:ac):ac:=tblF [(93,w93 c)] c
def wr50(c:ac):FB:=f50 (BA ae aa (ct50 c))
def w50(c:ac):FB:=wr50 c
theorem ok50{c:ac}(hc:Cok c):Ent 50 (w50 c):=am (f:=λA=>f50 A) (ct:=ct50) (λ_ _ _ _=>rfl) (congrFun (congrFun e50 RT) HTr) i50 (af hc (aC (ok93 hc) aN))
/-- slices.IndexFunc[[]crimp/api.Point,crimp/api.Point] -/
def ct51(c:ac):ac:=tblF [] c
def wr51(c:ac):FB:=f51 (BA ae aa (ct51 c))
def w51(c:ac):FB:=wr51 c
theorem ok51{c:ac}(hc:Cok c):Ent 51 (w51 c):=am (f:=λA=>f51 A) (ct:=ct51) (λ_ _ _ _=>rfl) (congrFun (congrFun e51 RT) HTr) i51 (af hc aN)
/-- crimp/places.Open -/
def ct20(c:ac):ac:=tblF [(49,w49 c),(50,w50 c),(51,w51 c)] c
def wr20(c:ac):FB:=f20 (BA ae aa (ct20 c))
def w20(c:ac):FB:=wr20 c
theorem ok20{c:ac}(hc:Cok c):Ent 20 (w20 c):=am (f:=λA=>f20 A) (ct:=ct20) (λ_ _ _ _=>rfl) (congrFun (congrFun e20 RT) HTr) i20 (af hc (aC (ok49 hc) (aC (ok50 hc) (aC (ok51 hc) aN))))
/-- crimp/moves.beyond -/
def ct97(c:ac):ac:=tblF [] c
def wr97(c:ac):FB:=f97 (BA ae aa (ct97 c))
def w97(c:ac):FB:=memo (wr97 c)
theorem ok97{c:ac}(hc:Cok c):Ent 97 (w97 c):=aj (am (f:=λA=>f97 A) (ct:=ct97) (λ_ _ _ _=>rfl) (congrFun (congrFun e97 RT) HTr) i97 (af hc aN)) rfl (by kernel_rfl)
/-- crimp/moves.Check -/
def ct54(c:ac):ac:=tblF [(97,w97 c)] c
def wr54(c:ac):FB:=f54 (BA ae aa (ct54 c))
def w54(c:ac):FB:=memo (wr54 c)
theorem ok54{c:ac}(hc:Cok c):Ent 54 (w54 c):=aj (am (f:=λA=>f54 A) (ct:=ct54) (λ_ _ _ _=>rfl) (congrFun (congrFun e54 RT) HTr) i54 (af hc (aC (ok97 hc) aN))) rfl (by kernel_rfl)
/-- (crimp/moves.matrix).of -/
def ct55(c:ac):ac:=tblF [] c
def wr55(c:ac):FB:=f55 (BA ae aa (ct55 c))
def w55(c:ac):FB:=memo (wr55 c)
theorem ok55{c:ac}(hc:Cok c):Ent 55 (w55 c):=aj (am (f:=λA=>f55 A) (ct:=ct55) (λ_ _ _ _=>rfl) (congrFun (congrFun e55 RT) HTr) i55 (af hc aN)) rfl (by kernel_rfl)
/-- crimp/moves.limited -/
def ct56(c:ac):ac:=tblF [(54,w54 c)] c
def wr56(c:ac):FB:=f56 (BA ae aa (ct56 c))
def w56(c:ac):FB:=memo (wr56 c)
theorem ok56{c:ac}(hc:Cok c):Ent 56 (w56 c):=aj (am (f:=λA=>f56 A) (ct:=ct56) (λ_ _ _ _=>rfl) (congrFun (congrFun e56 RT) HTr) i56 (af hc (aC (ok54 hc) aN))) rfl (by kernel_rfl)
/-- crimp/moves.number -/
def ct57(c:ac):ac:=tblF [] c
def wr57(c:ac):FB:=f57 (BA ae aa (ct57 c))
def w57(c:ac):FB:=memo (wr57 c)
theorem ok57{c:ac}(hc:Cok c):Ent 57 (w57 c):=aj (am (f:=λA=>f57 A) (ct:=ct57) (λ_ _ _ _=>rfl) (congrFun (congrFun e57 RT) HTr) i57 (af hc aN)) rfl (by kernel_rfl)
/-- (crimp/moves.matrix).then -/
def ct58(c:ac):ac:=tblF [(55,w55 c)] c
def wr58(c:ac):FB:=f58 (BA ae aa (ct58 c))
def w58(c:ac):FB:=memo (wr58 c)
theorem ok58{c:ac}(hc:Cok c):Ent 58 (w58 c):=aj (am (f:=λA=>f58 A) (ct:=ct58) (λ_ _ _ _=>rfl) (congrFun (congrFun e58 RT) HTr) i58 (af hc (aC (ok55 hc) aN))) rfl (by kernel_rfl)
/-- crimp/moves.Then -/
def ct24(c:ac):ac:=tblF [(54,w54 c),(55,w55 c),(56,w56 c),(57,w57 c),(58,w58 c)] c
def wr24(c:ac):FB:=f24 (BA ae aa (ct24 c))
def w24(c:ac):FB:=memo (wr24 c)
theorem ok24{c:ac}(hc:Cok c):Ent 24 (w24 c):=aj (am (f:=λA=>f24 A) (ct:=ct24) (λ_ _ _ _=>rfl) (congrFun (congrFun e24 RT) HTr) i24 (af hc (aC (ok54 hc) (aC (ok55 hc) (aC (ok56 hc) (aC (ok57 hc) (aC (ok58 hc) aN))))))) rfl (by kernel_rfl)
/-- crimp/places.creased -/
def ct127(c:ac):ac:=tblF [] c
def wr127(c:ac):FB:=f127 (BA ae aa (ct127 c))
def w127(c:ac):FB:=wr127 c
theorem ok127{c:ac}(hc:Cok c):Ent 127 (w127 c):=am (f:=λA=>f127 A) (ct:=ct127) (λ_ _ _ _=>rfl) (congrFun (congrFun e127 RT) HTr) i127 (af hc aN)
/-- crimp/sheets.Count -/
def ct128(c:ac):ac:=tblF [(86,w86 c)] c
def wr128(c:ac):FB:=f128 (BA ae aa (ct128 c))
def w128(c:ac):FB:=memo (wr128 c)
theorem ok128{c:ac}(hc:Cok c):Ent 128 (w128 c):=aj (am (f:=λA=>f128 A) (ct:=ct128) (λ_ _ _ _=>rfl) (congrFun (congrFun e128 RT) HTr) i128 (af hc (aC (ok86 hc) aN))) rfl (by kernel_rfl)
/-- crimp/places.relative -/
def ct94(c:ac):ac:=tblF [(125,w125 c),(127,w127 c),(128,w128 c)] c
def wr94(c:ac):FB:=f94 (BA ae aa (ct94 c))
def w94(c:ac):FB:=wr94 c
theorem ok94{c:ac}(hc:Cok c):Ent 94 (w94 c):=am (f:=λA=>f94 A) (ct:=ct94) (λ_ _ _ _=>rfl) (congrFun (congrFun e94 RT) HTr) i94 (af hc (aC (ok125 hc) (aC (ok127 hc) (aC (ok128 hc) aN))))
/-- crimp/cells.middle -/
def ct164(c:ac):ac:=tblF [] c
def wr164(c:ac):FB:=f164 (BA ae aa (ct164 c))
def w164(c:ac):FB:=memo (wr164 c)
theorem ok164{c:ac}(hc:Cok c):Ent 164 (w164 c):=aj (am (f:=λA=>f164 A) (ct:=ct164) (λ_ _ _ _=>rfl) (congrFun (congrFun e164 RT) HTr) i164 (af hc aN)) rfl (by kernel_rfl)
/-- crimp/moves.Point -/
def ct165(c:ac):ac:=tblF [(54,w54 c),(55,w55 c),(78,w78 c)] c
def wr165(c:ac):FB:=f165 (BA ae aa (ct165 c))
def w165(c:ac):FB:=memo (wr165 c)
theorem ok165{c:ac}(hc:Cok c):Ent 165 (w165 c):=aj (am (f:=λA=>f165 A) (ct:=ct165) (λ_ _ _ _=>rfl) (congrFun (congrFun e165 RT) HTr) i165 (af hc (aC (ok54 hc) (aC (ok55 hc) (aC (ok78 hc) aN))))) rfl (by kernel_rfl)
/-- crimp/cells.moved -/
def ct134(c:ac):ac:=tblF [(164,w164 c),(165,w165 c)] c
def wr134(c:ac):FB:=f134 (BA ae aa (ct134 c))
def w134(c:ac):FB:=memo (wr134 c)
theorem ok134{c:ac}(hc:Cok c):Ent 134 (w134 c):=aj (am (f:=λA=>f134 A) (ct:=ct134) (λ_ _ _ _=>rfl) (congrFun (congrFun e134 RT) HTr) i134 (af hc (aC (ok164 hc) (aC (ok165 hc) aN)))) rfl (by kernel_rfl)
/-- crimp/cells.Move -/
def ct96(c:ac):ac:=tblF [(54,w54 c),(133,w133 c),(134,w134 c)] c
def wr96(c:ac):FB:=f96 (BA ae aa (ct96 c))
def w96(c:ac):FB:=memo (wr96 c)
theorem ok96{c:ac}(hc:Cok c):Ent 96 (w96 c):=aj (am (f:=λA=>f96 A) (ct:=ct96) (λ_ _ _ _=>rfl) (congrFun (congrFun e96 RT) HTr) i96 (af hc (aC (ok54 hc) (aC (uK hc) (aC (ok134 hc) aN))))) rfl (by kernel_rfl)
/-- crimp/places.both -/
def ct53(c:ac):ac:=tblF [(24,w24 c),(49,w49 c),(54,w54 c),(94,w94 c),(95,w95 c),(96,w96 c)] c
def wr53(c:ac):FB:=f53 (BA ae aa (ct53 c))
def w53(c:ac):FB:=wr53 c
theorem ok53{c:ac}(hc:Cok c):Ent 53 (w53 c):=am (f:=λA=>f53 A) (ct:=ct53) (λ_ _ _ _=>rfl) (congrFun (congrFun e53 RT) HTr) i53 (af hc (aC (ok24 hc) (aC (ok49 hc) (aC (ok54 hc) (aC (ok94 hc) (aC (ok95 hc) (aC (ok96 hc) aN)))))))
/-- crimp/places.Places -/
def ct21(c:ac):ac:=tblF [(53,w53 c)] c
def wr21(c:ac):FB:=f21 (BA ae aa (ct21 c))
def w21(c:ac):FB:=wr21 c
theorem ok21{c:ac}(hc:Cok c):Ent 21 (w21 c):=am (f:=λA=>f21 A) (ct:=ct21) (λ_ _ _ _=>rfl) (congrFun (congrFun e21 RT) HTr) i21 (af hc (aC (ok53 hc) aN))
/-- crimp/places.Images -/
def ct28(c:ac):ac:=tblF [(53,w53 c)] c
def wr28(c:ac):FB:=f28 (BA ae aa (ct28 c))
def w28(c:ac):FB:=wr28 c
theorem ok28{c:ac}(hc:Cok c):Ent 28 (w28 c):=am (f:=λA=>f28 A) (ct:=ct28) (λ_ _ _ _=>rfl) (congrFun (congrFun e28 RT) HTr) i28 (af hc (aC (ok53 hc) aN))
/-- crimp/places.Depth -/
def ct35(c:ac):ac:=tblF [(28,w28 c)] c
def wr35(c:ac):FB:=f35 (BA ae aa (ct35 c))
def w35(c:ac):FB:=wr35 c
theorem ok35{c:ac}(hc:Cok c):Ent 35 (w35 c):=am (f:=λA=>f35 A) (ct:=ct35) (λ_ _ _ _=>rfl) (congrFun (congrFun e35 RT) HTr) i35 (af hc (aC (ok28 hc) aN))
/-- slices.Clip[[]crimp/sheets.Unit,crimp/sheets.Unit] -/
def ct159(c:ac):ac:=tblF [] c
def wr159(c:ac):FB:=f159 (BA ae aa (ct159 c))
def w159(c:ac):FB:=wr159 c
theorem ok159{c:ac}(hc:Cok c):Ent 159 (w159 c):=am (f:=λA=>f159 A) (ct:=ct159) (λ_ _ _ _=>rfl) (congrFun (congrFun e159 RT) HTr) i159 (af hc aN)
/-- (crimp/sheets.Sheet).all -/
def ct182(c:ac):ac:=tblF [] c
def wr182(c:ac):FB:=f182 (BA ae aa (ct182 c))
def w182(c:ac):FB:=wr182 c
theorem ok182{c:ac}(hc:Cok c):Ent 182 (w182 c):=am (f:=λA=>f182 A) (ct:=ct182) (λ_ _ _ _=>rfl) (congrFun (congrFun e182 RT) HTr) i182 (af hc aN)
/-- crimp/sheets.Units -/
def ct156(c:ac):ac:=tblF [(86,w86 c),(159,w159 c),(182,w182 c)] c
def wr156(c:ac):FB:=f156 (BA ae aa (ct156 c))
def w156(c:ac):FB:=wr156 c
theorem ok156{c:ac}(hc:Cok c):Ent 156 (w156 c):=am (f:=λA=>f156 A) (ct:=ct156) (λ_ _ _ _=>rfl) (congrFun (congrFun e156 RT) HTr) i156 (af hc (aC (ok86 hc) (aC (ok159 hc) (aC (ok182 hc) aN))))
/-- crimp/sheets.named -/
def ct162(c:ac):ac:=tblF [(86,w86 c),(90,w90 c),(132,w132 c)] c
def wr162(c:ac):FB:=f162 (BA ae aa (ct162 c))
def w162(c:ac):FB:=memo (wr162 c)
theorem ok162{c:ac}(hc:Cok c):Ent 162 (w162 c):=aj (am (f:=λA=>f162 A) (ct:=ct162) (λ_ _ _ _=>rfl) (congrFun (congrFun e162 RT) HTr) i162 (af hc (aC (ok86 hc) (aC (ok90 hc) (aC (ok132 hc) aN))))) rfl (by kernel_rfl)
/-- crimp/cells.Line -/
def ct163(c:ac):ac:=tblF [(80,w80 c),(133,w133 c)] c
def wr163(c:ac):FB:=f163 (BA ae aa (ct163 c))
def w163(c:ac):FB:=memo (wr163 c)
theorem ok163{c:ac}(hc:Cok c):Ent 163 (w163 c):=aj (am (f:=λA=>f163 A) (ct:=ct163) (λ_ _ _ _=>rfl) (congrFun (congrFun e163 RT) HTr) i163 (af hc (aC (ok80 hc) (aC (uK hc) aN)))) rfl (by kernel_rfl)
/-- crimp/sheets.Line -/
def ct130(c:ac):ac:=tblF [(162,w162 c),(163,w163 c)] c
def wr130(c:ac):FB:=f130 (BA ae aa (ct130 c))
def w130(c:ac):FB:=memo (wr130 c)
theorem ok130{c:ac}(hc:Cok c):Ent 130 (w130 c):=aj (am (f:=λA=>f130 A) (ct:=ct130) (λ_ _ _ _=>rfl) (congrFun (congrFun e130 RT) HTr) i130 (af hc (aC (ok162 hc) (aC (ok163 hc) aN)))) rfl (by kernel_rfl)
/-- crimp/cells.Corners -/
def ct141(c:ac):ac:=tblF [(133,w133 c)] c
def wr141(c:ac):FB:=f141 (BA ae aa (ct141 c))
def w141(c:ac):FB:=memo (wr141 c)
theorem ok141{c:ac}(hc:Cok c):Ent 141 (w141 c):=aj (am (f:=λA=>f141 A) (ct:=ct141) (λ_ _ _ _=>rfl) (congrFun (congrFun e141 RT) HTr) i141 (af hc (aC (uK hc) aN))) rfl (by kernel_rfl)
/-- crimp/sheets.Ends -/
def ct142(c:ac):ac:=tblF [(141,w141 c),(162,w162 c)] c
def wr142(c:ac):FB:=f142 (BA ae aa (ct142 c))
def w142(c:ac):FB:=memo (wr142 c)
theorem ok142{c:ac}(hc:Cok c):Ent 142 (w142 c):=aj (am (f:=λA=>f142 A) (ct:=ct142) (λ_ _ _ _=>rfl) (congrFun (congrFun e142 RT) HTr) i142 (af hc (aC (ok141 hc) (aC (ok162 hc) aN)))) rfl (by kernel_rfl)
/-- crimp/segments.place -/
def ct183(c:ac):ac:=tblF [] c
def wr183(c:ac):FB:=f183 (BA ae aa (ct183 c))
def w183(c:ac):FB:=memo (wr183 c)
theorem ok183{c:ac}(hc:Cok c):Ent 183 (w183 c):=aj (am (f:=λA=>f183 A) (ct:=ct183) (λ_ _ _ _=>rfl) (congrFun (congrFun e183 RT) HTr) i183 (af hc aN)) rfl (by kernel_rfl)
/-- crimp/segments.lies -/
def ct157(c:ac):ac:=tblF [(130,w130 c),(142,w142 c),(183,w183 c)] c
def wr157(c:ac):FB:=f157 (BA ae aa (ct157 c))
def w157(c:ac):FB:=memo (wr157 c)
theorem ok157{c:ac}(hc:Cok c):Ent 157 (w157 c):=aj (am (f:=λA=>f157 A) (ct:=ct157) (λ_ _ _ _=>rfl) (congrFun (congrFun e157 RT) HTr) i157 (af hc (aC (ok130 hc) (aC (ok142 hc) (aC (ok183 hc) aN))))) rfl (by kernel_rfl)
/-- crimp/segments.pieces -/
def ct118(c:ac):ac:=tblF [(156,w156 c),(157,w157 c)] c
def wr118(c:ac):FB:=f118 (BA ae aa (ct118 c))
def w118(c:ac):FB:=wr118 c
theorem ok118{c:ac}(hc:Cok c):Ent 118 (w118 c):=am (f:=λA=>f118 A) (ct:=ct118) (λ_ _ _ _=>rfl) (congrFun (congrFun e118 RT) HTr) i118 (af hc (aC (ok156 hc) (aC (ok157 hc) aN)))
/-- crimp/segments.ordinary -/
def ct158(c:ac):ac:=tblF [(80,w80 c)] c
def wr158(c:ac):FB:=f158 (BA ae aa (ct158 c))
def w158(c:ac):FB:=memo (wr158 c)
theorem ok158{c:ac}(hc:Cok c):Ent 158 (w158 c):=aj (am (f:=λA=>f158 A) (ct:=ct158) (λ_ _ _ _=>rfl) (congrFun (congrFun e158 RT) HTr) i158 (af hc (aC (ok80 hc) aN))) rfl (by kernel_rfl)
/-- crimp/segments.units -/
def ct119(c:ac):ac:=tblF [(158,w158 c),(159,w159 c)] c
def wr119(c:ac):FB:=f119 (BA ae aa (ct119 c))
def w119(c:ac):FB:=wr119 c
theorem ok119{c:ac}(hc:Cok c):Ent 119 (w119 c):=am (f:=λA=>f119 A) (ct:=ct119) (λ_ _ _ _=>rfl) (congrFun (congrFun e119 RT) HTr) i119 (af hc (aC (ok158 hc) (aC (ok159 hc) aN)))
/-- slices.insertionSortCmpFunc[crimp/patterns.Crease] -/
def ct184(c:ac):ac:=tblF [] c
def wr184(c:ac):FB:=f184 (BA ae aa (ct184 c))
def w184(c:ac):FB:=wr184 c
theorem ok184{c:ac}(hc:Cok c):Ent 184 (w184 c):=am (f:=λA=>f184 A) (ct:=ct184) (λ_ _ _ _=>rfl) (congrFun (congrFun e184 RT) HTr) i184 (af hc aN)
/-- slices.pdqsortCmpFunc[crimp/patterns.Crease] -/
def ct160(c:ac):ac:=tblF [(184,w184 c)] c
def wr160(c:ac):FB:=f160 (BA ae aa (ct160 c))
def w160(c:ac):FB:=wr160 c
theorem ok160{c:ac}(hc:Cok c):Ent 160 (w160 c):=am (f:=λA=>f160 A) (ct:=ct160) (λ_ _ _ _=>rfl) (congrFun (congrFun e160 RT) HTr) i160 (af hc (aC (ok184 hc) aN))
/-- slices.SortFunc[[]crimp/patterns.Crease,crimp/patterns.Crease] -/
def ct120(c:ac):ac:=tblF [(117,w117 c),(160,w160 c)] c
def wr120(c:ac):FB:=f120 (BA ae aa (ct120 c))
def w120(c:ac):FB:=wr120 c
theorem ok120{c:ac}(hc:Cok c):Ent 120 (w120 c):=am (f:=λA=>f120 A) (ct:=ct120) (λ_ _ _ _=>rfl) (congrFun (congrFun e120 RT) HTr) i120 (af hc (aC (ok117 hc) (aC (ok160 hc) aN)))
/-- slices.Clip[[]crimp/patterns.Crease,crimp/patterns.Crease] -/
def ct123(c:ac):ac:=tblF [] c
def wr123(c:ac):FB:=f123 (BA ae aa (ct123 c))
def w123(c:ac):FB:=wr123 c
theorem ok123{c:ac}(hc:Cok c):Ent 123 (w123 c):=am (f:=λA=>f123 A) (ct:=ct123) (λ_ _ _ _=>rfl) (congrFun (congrFun e123 RT) HTr) i123 (af hc aN)
/-- crimp/segments.Pattern -/
def ct83(c:ac):ac:=tblF [(86,w86 c),(118,w118 c),(119,w119 c),(120,w120 c),(123,w123 c)] c
def wr83(c:ac):FB:=f83 (BA ae aa (ct83 c))
def w83(c:ac):FB:=wr83 c
theorem ok83{c:ac}(hc:Cok c):Ent 83 (w83 c):=am (f:=λA=>f83 A) (ct:=ct83) (λ_ _ _ _=>rfl) (congrFun (congrFun e83 RT) HTr) i83 (af hc (aC (ok86 hc) (aC (ok118 hc) (aC (ok119 hc) (aC (ok120 hc) (aC (ok123 hc) aN))))))
/-- crimp/crimplaw10.pattern -/
def ct43(c:ac):ac:=tblF [(83,w83 c)] c
def wr43(c:ac):FB:=f43 (BA ae aa (ct43 c))
def w43(c:ac):FB:=wr43 c
theorem ok43{c:ac}(hc:Cok c):Ent 43 (w43 c):=am (f:=λA=>f43 A) (ct:=ct43) (λ_ _ _ _=>rfl) (congrFun (congrFun e43 RT) HTr) i43 (af hc (aC (ok83 hc) aN))
/-- crimp/crimplaw10.segment -/
def ct44(c:ac):ac:=tblF [] c
def wr44(c:ac):FB:=f44 (BA ae aa (ct44 c))
def w44(c:ac):FB:=memo (wr44 c)
theorem ok44{c:ac}(hc:Cok c):Ent 44 (w44 c):=aj (am (f:=λA=>f44 A) (ct:=ct44) (λ_ _ _ _=>rfl) (congrFun (congrFun e44 RT) HTr) i44 (af hc aN)) rfl (by kernel_rfl)
/-- crimp/crimplaw10.lives -/
def ct14(c:ac):ac:=tblF [(12,w12 c),(20,w20 c),(21,w21 c),(22,w22 c),(28,w28 c),(35,w35 c),(43,w43 c),(44,w44 c)] c
def wr14(c:ac):FB:=f14 (BA ae aa (ct14 c))
def w14(c:ac):FB:=memo (wr14 c)
theorem ok14{c:ac}(hc:Cok c):Ent 14 (w14 c):=aj (am (f:=λA=>f14 A) (ct:=ct14) (λ_ _ _ _=>rfl) (congrFun (congrFun e14 RT) HTr) i14 (af hc (aC (ok12 hc) (aC (ok20 hc) (aC (ok21 hc) (aC (ok22 hc) (aC (ok28 hc) (aC (ok35 hc) (aC (ok43 hc) (aC (ok44 hc) aN)))))))))) rfl (by kernel_rfl)
/-- crimp/crimplaw10.PlacesCloses -/
def ct3(c:ac):ac:=tblF [(9,w9 c),(10,w10 c),(11,w11 c),(12,w12 c),(13,w13 c)] c
def wr3(c:ac):FB:=f3 (BA ae aa (ct3 c))
def w3(c:ac):FB:=wr3 c
theorem ok3{c:ac}(hc:Cok c):Ent 3 (w3 c):=am (f:=λA=>f3 A) (ct:=ct3) (λ_ _ _ _=>rfl) (congrFun (congrFun e3 RT) HTr) i3 (af hc (aC (ok9 hc) (aC (ok10 hc) (aC (ok11 hc) (aC (ok12 hc) (aC (ok13 hc) aN))))))
/-- crimp/moves.Of -/
def ct77(c:ac):ac:=tblF [(80,w80 c)] c
def wr77(c:ac):FB:=f77 (BA ae aa (ct77 c))
def w77(c:ac):FB:=memo (wr77 c)
theorem ok77{c:ac}(hc:Cok c):Ent 77 (w77 c):=aj (am (f:=λA=>f77 A) (ct:=ct77) (λ_ _ _ _=>rfl) (congrFun (congrFun e77 RT) HTr) i77 (af hc (aC (ok80 hc) aN))) rfl (by kernel_rfl)
/-- (*crimp/places.chain).add -/
def ct38(c:ac):ac:=tblF [(24,w24 c),(77,w77 c)] c
def wr38(c:ac):FB:=f38 (BA ae aa (ct38 c))
def w38(c:ac):FB:=wr38 c
theorem ok38{c:ac}(hc:Cok c):Ent 38 (w38 c):=am (f:=λA=>f38 A) (ct:=ct38) (λ_ _ _ _=>rfl) (congrFun (congrFun e38 RT) HTr) i38 (af hc (aC (ok24 hc) (aC (ok77 hc) aN)))
/-- crimp/places.Open$1 -/
def ct52(c:ac):ac:=tblF [(12,w12 c)] c
def wr52(c:ac):FB:=f52 (BA ae aa (ct52 c))
def w52(c:ac):FB:=wr52 c
theorem ok52{c:ac}(hc:Cok c):Ent 52 (w52 c):=am (f:=λA=>f52 A) (ct:=ct52) (λ_ _ _ _=>rfl) (congrFun (congrFun e52 RT) HTr) i52 (af hc (aC (ok12 hc) aN))
/-- slices.BinarySearchFunc[[]crimp/patterns.Crease,crimp/patterns.Crease,crimp/sheets.Unit] -/
def ct175(c:ac):ac:=tblF [] c
def wr175(c:ac):FB:=f175 (BA ae aa (ct175 c))
def w175(c:ac):FB:=wr175 c
theorem ok175{c:ac}(hc:Cok c):Ent 175 (w175 c):=am (f:=λA=>f175 A) (ct:=ct175) (λ_ _ _ _=>rfl) (congrFun (congrFun e175 RT) HTr) i175 (af hc aN)
/-- crimp/patterns.find -/
def ct145(c:ac):ac:=tblF [(175,w175 c)] c
def wr145(c:ac):FB:=f145 (BA ae aa (ct145 c))
def w145(c:ac):FB:=wr145 c
theorem ok145{c:ac}(hc:Cok c):Ent 145 (w145 c):=am (f:=λA=>f145 A) (ct:=ct145) (λ_ _ _ _=>rfl) (congrFun (congrFun e145 RT) HTr) i145 (af hc (aC (ok175 hc) aN))
/-- crimp/patterns.at -/
def ct115(c:ac):ac:=tblF [(49,w49 c),(90,w90 c),(145,w145 c)] c
def wr115(c:ac):FB:=f115 (BA ae aa (ct115 c))
def w115(c:ac):FB:=wr115 c
theorem ok115{c:ac}(hc:Cok c):Ent 115 (w115 c):=am (f:=λA=>f115 A) (ct:=ct115) (λ_ _ _ _=>rfl) (congrFun (congrFun e115 RT) HTr) i115 (af hc (aC (ok49 hc) (aC (ok90 hc) (aC (ok145 hc) aN))))
/-- crimp/patterns.Kind -/
def ct73(c:ac):ac:=tblF [(115,w115 c)] c
def wr73(c:ac):FB:=f73 (BA ae aa (ct73 c))
def w73(c:ac):FB:=memoR (wr73 c)
theorem ok73{c:ac}(hc:Cok c):Ent 73 (w73 c):=ent_ro (am (f:=λA=>f73 A) (ct:=ct73) (λ_ _ _ _=>rfl) (congrFun (congrFun e73 RT) HTr) i73 (af hc (aC (ok115 hc) aN))) rfl (by kernel_rfl) (by kernel_rfl)
/-- crimp/corners.Creases$1 -/
def ct75(c:ac):ac:=tblF [] c
def wr75(c:ac):FB:=f75 (BA ae aa (ct75 c))
def w75(c:ac):FB:=memo (wr75 c)
theorem ok75{c:ac}(hc:Cok c):Ent 75 (w75 c):=aj (am (f:=λA=>f75 A) (ct:=ct75) (λ_ _ _ _=>rfl) (congrFun (congrFun e75 RT) HTr) i75 (af hc aN)) rfl (by kernel_rfl)
/-- crimp/patterns.isKind -/
def ct89(c:ac):ac:=tblF [] c
def wr89(c:ac):FB:=f89 (BA ae aa (ct89 c))
def w89(c:ac):FB:=memo (wr89 c)
theorem ok89{c:ac}(hc:Cok c):Ent 89 (w89 c):=aj (am (f:=λA=>f89 A) (ct:=ct89) (λ_ _ _ _=>rfl) (congrFun (congrFun e89 RT) HTr) i89 (af hc aN)) rfl (by kernel_rfl)
/-- crimp/patterns.Check$1 -/
def ct88(c:ac):ac:=tblF [(89,w89 c)] c
def wr88(c:ac):FB:=f88 (BA ae aa (ct88 c))
def w88(c:ac):FB:=memo (wr88 c)
theorem ok88{c:ac}(hc:Cok c):Ent 88 (w88 c):=aj (am (f:=λA=>f88 A) (ct:=ct88) (λ_ _ _ _=>rfl) (congrFun (congrFun e88 RT) HTr) i88 (af hc (aC (ok89 hc) aN))) rfl (by kernel_rfl)
/-- crimp/corners.touches -/
def ct111(c:ac):ac:=tblF [(141,w141 c)] c
def wr111(c:ac):FB:=f111 (BA ae aa (ct111 c))
def w111(c:ac):FB:=memo (wr111 c)
theorem ok111{c:ac}(hc:Cok c):Ent 111 (w111 c):=aj (am (f:=λA=>f111 A) (ct:=ct111) (λ_ _ _ _=>rfl) (congrFun (congrFun e111 RT) HTr) i111 (af hc (aC (ok141 hc) aN))) rfl (by kernel_rfl)
/-- crimp/corners.leaves -/
def ct112(c:ac):ac:=tblF [] c
def wr112(c:ac):FB:=f112 (BA ae aa (ct112 c))
def w112(c:ac):FB:=memo (wr112 c)
theorem ok112{c:ac}(hc:Cok c):Ent 112 (w112 c):=aj (am (f:=λA=>f112 A) (ct:=ct112) (λ_ _ _ _=>rfl) (congrFun (congrFun e112 RT) HTr) i112 (af hc aN)) rfl (by kernel_rfl)
/-- crimp/corners.sign -/
def ct143(c:ac):ac:=tblF [] c
def wr143(c:ac):FB:=f143 (BA ae aa (ct143 c))
def w143(c:ac):FB:=memo (wr143 c)
theorem ok143{c:ac}(hc:Cok c):Ent 143 (w143 c):=aj (am (f:=λA=>f143 A) (ct:=ct143) (λ_ _ _ _=>rfl) (congrFun (congrFun e143 RT) HTr) i143 (af hc aN)) rfl (by kernel_rfl)
/-- slices.Index[[]crimp/api.Point,crimp/api.Point] -/
def ct144(c:ac):ac:=tblF [] c
def wr144(c:ac):FB:=f144 (BA ae aa (ct144 c))
def w144(c:ac):FB:=wr144 c
theorem ok144{c:ac}(hc:Cok c):Ent 144 (w144 c):=am (f:=λA=>f144 A) (ct:=ct144) (λ_ _ _ _=>rfl) (congrFun (congrFun e144 RT) HTr) i144 (af hc aN)
/-- crimp/corners.direction -/
def ct113(c:ac):ac:=tblF [(142,w142 c),(143,w143 c),(144,w144 c)] c
def wr113(c:ac):FB:=f113 (BA ae aa (ct113 c))
def w113(c:ac):FB:=memo (wr113 c)
theorem ok113{c:ac}(hc:Cok c):Ent 113 (w113 c):=aj (am (f:=λA=>f113 A) (ct:=ct113) (λ_ _ _ _=>rfl) (congrFun (congrFun e113 RT) HTr) i113 (af hc (aC (ok142 hc) (aC (ok143 hc) (aC (ok144 hc) aN))))) rfl (by kernel_rfl)
/-- crimp/corners.walk$1 -/
def ct109(c:ac):ac:=tblF [(90,w90 c),(110,w110 c),(111,w111 c),(112,w112 c),(113,w113 c),(114,w114 c)] c
def wr109(c:ac):FB:=f109 (BA ae aa (ct109 c))
def w109(c:ac):FB:=wr109 c
theorem ok109{c:ac}(hc:Cok c):Ent 109 (w109 c):=am (f:=λA=>f109 A) (ct:=ct109) (λ_ _ _ _=>rfl) (congrFun (congrFun e109 RT) HTr) i109 (af hc (aC (ok90 hc) (aC (ok110 hc) (aC (ok111 hc) (aC (ok112 hc) (aC (ok113 hc) (aC (ok114 hc) aN)))))))
def ct192(c:ac):ac:=tblF [] c
def wr192(c:ac):FB:=f192 (BA ae aa (ct192 c))
def w192(c:ac):FB:=memo (wr192 c)
theorem ok192{c:ac}(hc:Cok c):Ent 192 (w192 c):=aj (am (f:=λA=>f192 A) (ct:=ct192) (λ_ _ _ _=>rfl) (congrFun (congrFun e192 RT) HTr) i192 (af hc aN)) rfl (by kernel_rfl)
def ct161(c:ac):ac:=tblF [(192,w192 c)] c
def wr161(c:ac):FB:=f161 (BA ae aa (ct161 c))
def w161(c:ac):FB:=memo (wr161 c)
theorem ok161{c:ac}(hc:Cok c):Ent 161 (w161 c):=aj (am (f:=λA=>f161 A) (ct:=ct161) (λ_ _ _ _=>rfl) (congrFun (congrFun e161 RT) HTr) i161 (af hc (aC (ok192 hc) aN))) rfl (by kernel_rfl)
/-- crimp/segments.order[int] -/
def ct122(c:ac):ac:=tblF [(161,w161 c)] c
def wr122(c:ac):FB:=f122 (BA ae aa (ct122 c))
def w122(c:ac):FB:=wr122 c
theorem ok122{c:ac}(hc:Cok c):Ent 122 (w122 c):=am (f:=λA=>f122 A) (ct:=ct122) (λ_ _ _ _=>rfl) (congrFun (congrFun e122 RT) HTr) i122 (af hc (aC (ok161 hc) aN))
/-- crimp/segments.Pattern$1 -/
def ct121(c:ac):ac:=tblF [(122,w122 c)] c
def wr121(c:ac):FB:=f121 (BA ae aa (ct121 c))
def w121(c:ac):FB:=memo (wr121 c)
theorem ok121{c:ac}(hc:Cok c):Ent 121 (w121 c):=aj (am (f:=λA=>f121 A) (ct:=ct121) (λ_ _ _ _=>rfl) (congrFun (congrFun e121 RT) HTr) i121 (af hc (aC (ok122 hc) aN))) rfl (by kernel_rfl)
/-- crimp/places.relative$1 -/
def ct129(c:ac):ac:=tblF [(24,w24 c),(77,w77 c),(90,w90 c),(130,w130 c)] c
def wr129(c:ac):FB:=f129 (BA ae aa (ct129 c))
def w129(c:ac):FB:=wr129 c
theorem ok129{c:ac}(hc:Cok c):Ent 129 (w129 c):=am (f:=λA=>f129 A) (ct:=ct129) (λ_ _ _ _=>rfl) (congrFun (congrFun e129 RT) HTr) i129 (af hc (aC (ok24 hc) (aC (ok77 hc) (aC (ok90 hc) (aC (ok130 hc) aN)))))
/-- crimp/patterns.find$1 -/
def ct176(c:ac):ac:=tblF [(91,w91 c),(92,w92 c)] c
def wr176(c:ac):FB:=f176 (BA ae aa (ct176 c))
def w176(c:ac):FB:=memo (wr176 c)
theorem ok176{c:ac}(hc:Cok c):Ent 176 (w176 c):=aj (am (f:=λA=>f176 A) (ct:=ct176) (λ_ _ _ _=>rfl) (congrFun (congrFun e176 RT) HTr) i176 (af hc (aC (ok91 hc) (aC (ok92 hc) aN)))) rfl (by kernel_rfl)
/-- (crimp/sheets.Sheet).all$1 -/
def ct197(c:ac):ac:=tblF [(125,w125 c),(128,w128 c)] c
def wr197(c:ac):FB:=f197 (BA ae aa (ct197 c))
def w197(c:ac):FB:=wr197 c
theorem ok197{c:ac}(hc:Cok c):Ent 197 (w197 c):=am (f:=λA=>f197 A) (ct:=ct197) (λ_ _ _ _=>rfl) (congrFun (congrFun e197 RT) HTr) i197 (af hc (aC (ok125 hc) (aC (ok128 hc) aN)))
theorem y_of{κ:Nat}{g:ac->List Value->Nat->FB}{ct:ac->ac}{c:ac}(h0:∀vs l ls h K,ov (BA ae aa (ct c)) (xc 0) ae drN (aa κ) vs l ls h K=g c vs l ls h K)(hc:Cok (ct c)):YOk cc ae aa κ (g c):=by
 intro vs l ls h K w st pd xs e hy hk
 rw[←h0]at hk
 obtain⟨b,h',a1,a3⟩:=sI (X:=xc 0) (BA_ok (w:=w) hc) pV (ig e) rfl rfl rfl rfl hy hk
 exact⟨b,h',a1,a3⟩
def ctY592(c:ac):ac:=tblF [(73,w73 c)] c
def bY592(c:ac)(vs:List Value)(lp:Nat):FB:=λls h K=>ucVB vs (λa1 a9=>chkB a1 ( ucVB a9 (λa0 b0=>chkB a0 ( uc0B b0 ( unIB ls (λn12 b1=>unIB b1 (λn14 b2=>unIB b2 (λn16 b3=>unIB b3 (λn18 b4=>un0B b4 (newB (.cells [(.int .i64 (.ofNat (nat_lit 0))),(.int .i64 (.ofNat (nat_lit 0))),(.int .u8 (.ofNat (nat_lit 0)))] 3 true) h (λO b5=>stB (.pointer (some ⟨O,0,none⟩)) [(.int .i64 n14),(.int .i64 n16),(.int .u8 n18)] b5 (λf2 b6=>lp1B lp b6 (λU=>lgB cc 3 a1 U (λb7=>ucIB .i64 b7 (λb8 b9=>ucIB .i64 b9 (λn28 c0=>ucVB c0 (λa2 c1=>chkB a2 ( uc0B c1 ( optB (fdP 1 (.pointer (some ⟨O,0,none⟩))) (λa3=>chkB a3 ( optB (fdP 0 a3) (λa4=>chkB a4 ( lgB cc 1 a4 U (λd0=>ucIB .i64 d0 (λn35 d1=>uc0B d1 ( optB (fdP 1 (.pointer (some ⟨O,0,none⟩))) (λx37=>chkB x37 ( optB (fdP 1 x37) (λx38=>chkB x38 ( lgB cc 1 x38 U (λd2=>ucIB .u8 d2 (λn40 d3=>uc0B d3 ( ug (ctY592 c) 73 [.i b8,.i n28,.v a2,.i n35,.i n40] U (λd4 V=>unIB d4 (λn44 d5=>unIB d5 (λf4 d6=>un0B d6 (joinB (λd7 d8=>un0B d7 (lp2B lp none d8 (λd9=>K [.b true] d9))) (λa5=>cB ( a5 [] V) ( lgB cc 1 a0 V (λe0=>ucVB e0 (λa6 e1=>chkB a6 ( uc0B e1 ( optB (fdP 0 (.pointer (some ⟨O,0,none⟩))) (λa7=>chkB a7 ( lgB cc 1 a7 V (λe2=>ucIB .i64 e2 (λn58 e4=>uc0B e4 ( newB (.cells [(.int .i64 n58),(.int .u8 n44)] 2 true) V (λe5 e6=>apB aa cc 2 16 a6 (.slice (some ⟨e5,0,(some 12)⟩) 1 2) e6 (λe7 e8=>ucVB e7 (λa8 f0=>chkB a8 ( uc0B f0 ( stB a0 [a8] e8 (λf5 f1=>a5 [] f1)))))))))))))))) (notK (eqZK n44 (.ofNat (nat_lit 0))))))))))))))))))))))))))))))))))))))))))
theorem pfY592(c:ac)(vs:List Value)(lp:Nat)(ls:List Lf)(h:HTr)(K:List Lf->HTr->RT):y592 (BA ae aa (ctY592 c)) vs lp ls h K=bY592 c vs lp ls h K:=qI (λx8 l9=>jl (qI (λx10 l11=>jl (mb (qJ (λn12 l13=>qJ (λn14 l15=>qJ (λn16 l17=>qJ (λn18 l19=>q_un0 (q_new (λm20 h21=>q_st (λl22 h23=>q_lp1 (λh24=>q_lg (λl25=>rS (λn26 l27=>rS (λn28 l29=>qI (λx30 l31=>jl (mb (q_opt (λx32=>jl (q_opt (λx33=>jl (q_lg (λl34=>rS (λn35 l36=>mb (q_opt (λx37=>jl (q_opt (λx38=>jl (q_lg (λl39=>rS (λn40 l41=>mb (q_callD (λl42 h43=>qJ (λn44 l45=>qJ (λn46 l47=>q_un0 (q_neq (q_join (λl49 h50=>q_un0 (q_lp2 (λh51=>rfl))) (λj52=>q_cond (q_lg (λl53=>qI (λx54 l55=>jl (mb (q_opt (λx56=>jl (q_lg (λl57=>rS (λn58 l59=>mb (q_new (λm60 h61=>q_ap (λl62 h63=>qI (λx64 l65=>jl (mb (q_st (λl66 h67=>rfl)))))))))))))))) (rfl))))))))))))))))))))))))))))))))))))))))
theorem okY592{c:ac}(hc:Cok c):YOk cc ae aa 592 (bY592 c):=y_of (g:=bY592) (ct:=ctY592) (λvs l ls h K=>(congrFun (congrFun (congrFun (congrFun (congrFun (congrFun (congrFun (congrFun ey592 RT) HTr) _) vs) l) ls) h) K).symm.trans (pfY592 c vs l ls h K)) (af hc (by
  intro p hp
  simp only[qak,qbH,or_false]at hp
  subst hp
  exact ok73 hc))
def ctY2496(c:ac):ac:=tblF [] c
def pJ(c:ac)(vs:List Value)(lp:Nat):FB:=λls h K=>ucVB vs (λO a1=>chkB O ( uc0B a1 ( unIB ls (λn10 a2=>unIB a2 (λn12 a3=>un0B a3 (newB (.cells [(.int .i64 (.ofNat (nat_lit 0))),(.int .u8 (.ofNat (nat_lit 0)))] 2 true) h (λU a4=>stB (.pointer (some ⟨U,0,none⟩)) [(.int .i64 n10),(.int .u8 n12)] a4 (λc0 a5=>lp1B lp a5 (λh18=>lgB cc 1 O h18 (λa6=>ucVB a6 (λV a7=>chkB V ( uc0B a7 ( lgB cc 2 (.pointer (some ⟨U,0,none⟩)) h18 (λa8=>ucIB .i64 a8 (λa9 b0=>ucIB .u8 b0 (λb1 b2=>uc0B b2 ( newB (.cells [(.int .i64 a9),(.int .u8 b1)] 2 true) h18 (λb3 b4=>apB aa cc 2 16 V (.slice (some ⟨b3,0,(some 12)⟩) 1 2) b4 (λb5 b6=>ucVB b5 (λa0 b7=>chkB a0 ( uc0B b7 ( stB O [a0] b6 (λc1 b8=>lp2B lp none b8 (λb9=>K [.b true] b9))))))))))))))))))))))))
theorem pfY2496(c:ac)(vs:List Value)(lp:Nat)(ls:List Lf)(h:HTr)(K:List Lf->HTr->RT):y2496 (BA ae aa (ctY2496 c)) vs lp ls h K=pJ c vs lp ls h K:=qI (λx8 l9=>jl (mb (qJ (λn10 l11=>qJ (λn12 l13=>q_un0 (q_new (λm14 h15=>q_st (λl16 h17=>q_lp1 (λh18=>q_lg (λl19=>qI (λx20 l21=>jl (mb (q_lg (λl22=>rS (λn23 l24=>rS (λn25 l26=>mb (q_new (λm27 h28=>q_ap (λl29 h30=>qI (λx31 l32=>jl (mb (q_st (λl33 h34=>q_lp2 (λh35=>rfl))))))))))))))))))))))))
theorem okY2496{c:ac}(hc:Cok c):YOk cc ae aa 2496 (pJ c):=y_of (g:=pJ) (ct:=ctY2496) (λvs l ls h K=>(congrFun (congrFun (congrFun (congrFun (congrFun (congrFun (congrFun (congrFun ey2496 RT) HTr) _) vs) l) ls) h) K).symm.trans (pfY2496 c vs l ls h K)) (af hc (by
  intro p hp
  cases hp))
def tabW(c:ac):Tr FB:=(.node nf (.node nf (.node (w3 c) (.node nf (.node nf (.node (w31 c) (.node nf (.node (w127 c) .leaf .leaf) .leaf) (.node (w95 c) (.node (w159 c) .leaf .leaf) .leaf)) (.node nf (.node (w79 c) (.node (w143 c) .leaf .leaf) .leaf) (.node (w111 c) (.node (w175 c) .leaf .leaf) .leaf))) (.node nf (.node (w39 c) (.node (w71 c) .leaf .leaf) .leaf) (.node (w55 c) (.node (w87 c) .leaf .leaf) (.node (w119 c) (.node (w183 c) .leaf .leaf) .leaf)))) (.node (w11 c) (.node (w19 c) (.node (w35 c) (.node (w67 c) (.node (w131 c) .leaf .leaf) .leaf) (.node nf (.node (w163 c) .leaf .leaf) .leaf)) (.node (w51 c) (.node (w83 c) .leaf .leaf) (.node (w115 c) .leaf .leaf))) (.node nf (.node (w43 c) (.node (w75 c) .leaf .leaf) .leaf) (.node nf (.node (w91 c) (.node (w155 c) .leaf .leaf) .leaf) (.node (w123 c) .leaf .leaf))))) (.node nf (.node (w9 c) (.node nf (.node nf (.node nf (.node (w129 c) .leaf .leaf) .leaf) (.node (w97 c) (.node (w161 c) .leaf .leaf) .leaf)) (.node (w49 c) (.node (w81 c) (.node (w145 c) .leaf .leaf) .leaf) (.node (w113 c) .leaf .leaf))) (.node nf (.node (w41 c) (.node (w73 c) .leaf .leaf) .leaf) (.node (w57 c) (.node (w89 c) .leaf .leaf) (.node (w121 c) .leaf .leaf)))) (.node (w13 c) (.node (w21 c) (.node (w37 c) (.node (w69 c) (.node (w133 c) .leaf .leaf) (.node (w197 c) .leaf .leaf)) (.node nf (.node (w165 c) .leaf .leaf) .leaf)) (.node (w53 c) .leaf (.node (w117 c) .leaf .leaf))) (.node nf (.node nf (.node (w77 c) (.node (w141 c) .leaf .leaf) .leaf) (.node (w109 c) .leaf .leaf)) (.node nf (.node (w93 c) (.node (w157 c) .leaf .leaf) .leaf) (.node (w125 c) .leaf .leaf)))))) (.node nf (.node nf (.node nf (.node (w16 c) (.node nf (.node nf (.node (w128 c) .leaf .leaf) (.node (w192 c) .leaf .leaf)) (.node (w96 c) (.node (w160 c) .leaf .leaf) .leaf)) (.node (w48 c) (.node (w80 c) (.node (w144 c) .leaf .leaf) .leaf) (.node (w112 c) (.node (w176 c) .leaf .leaf) .leaf))) (.node (w24 c) (.node (w40 c) (.node (w72 c) .leaf .leaf) .leaf) (.node (w56 c) (.node (w88 c) .leaf .leaf) (.node (w120 c) (.node (w184 c) .leaf .leaf) .leaf)))) (.node (w12 c) (.node (w20 c) (.node (w36 c) (.node (w68 c) (.node (w132 c) .leaf .leaf) .leaf) (.node nf (.node (w164 c) .leaf .leaf) .leaf)) (.node (w52 c) .leaf (.node (w116 c) .leaf .leaf))) (.node (w28 c) (.node (w44 c) (.node (w76 c) .leaf .leaf) .leaf) (.node nf (.node (w92 c) (.node (w156 c) .leaf .leaf) .leaf) (.node (w124 c) .leaf .leaf))))) (.node nf (.node (w10 c) (.node (w18 c) (.node nf (.node (w66 c) (.node (w130 c) .leaf .leaf) .leaf) (.node nf (.node (w162 c) .leaf .leaf) .leaf)) (.node (w50 c) (.node (w82 c) (.node (w146 c) .leaf .leaf) .leaf) (.node (w114 c) .leaf .leaf))) (.node nf (.node (w42 c) (.node (w74 c) .leaf .leaf) .leaf) (.node (w58 c) (.node (w90 c) .leaf .leaf) (.node (w122 c) .leaf .leaf)))) (.node (w14 c) (.node (w22 c) (.node (w38 c) (.node nf (.node (w134 c) .leaf .leaf) .leaf) (.node (w102 c) .leaf .leaf)) (.node (w54 c) (.node (w86 c) .leaf .leaf) (.node (w118 c) (.node (w182 c) .leaf .leaf) .leaf))) (.node (w30 c) (.node nf (.node (w78 c) (.node (w142 c) .leaf .leaf) .leaf) (.node (w110 c) .leaf .leaf)) (.node nf (.node (w94 c) (.node (w158 c) .leaf .leaf) .leaf) (.node (w126 c) .leaf .leaf)))))))
def stepF(c:ac):ac:=λck=>match ck with
 | .f f=>match Nat.blt f 198 with
  |true=>(ba f).get nf (tabW c)
  |false=>nf
 | .y κ vs l=>lookY [(592,bY592 c),(2496,pJ c)] κ (λvs l ls h K=>ov (BA ae aa c) (xc 0) ae drN (aa κ) vs l ls h K) vs l
def runF(n:Nat):ac:=Nat.rec (motive:=λ_=>ac) (λ_ _ _ _=>none) (λ_ c=>stepF c) n
theorem aB{k:Nat}(h1:(λc=>(ba k).get nf (tabW c))=λ_=>nf)(c:ac):Ent k ((ba k).get nf (tabW c)):=by
 intro ls h K w hls hk
 rw[congrFun h1 c]at hk
 cases hk
theorem ao{k:Nat}{g:ac->FB}(h1:(λc=>(ba k).get nf (tabW c))=g){c:ac}(h:Ent k (g c)):Ent k ((ba k).get nf (tabW c)):=by
 rw[congrFun h1 c];exact h
theorem tabW_ok{c:ac}(hc:Cok c):∀f,Nat.blt f 198=true->Ent f ((ba f).get nf (tabW c))
 |0,_=>aB (by kernel_rfl) c
 |1,_=>aB (by kernel_rfl) c
 |2,_=>aB (by kernel_rfl) c
 |3,_=>ao (g:=λc=>w3 c) (by kernel_rfl) (ok3 hc)
 |4,_=>aB (by kernel_rfl) c
 |5,_=>aB (by kernel_rfl) c
 |6,_=>aB (by kernel_rfl) c
 |7,_=>aB (by kernel_rfl) c
 |8,_=>aB (by kernel_rfl) c
 |9,_=>ao (g:=λc=>w9 c) (by kernel_rfl) (ok9 hc)
 |10,_=>ao (g:=λc=>w10 c) (by kernel_rfl) (ok10 hc)
 |11,_=>ao (g:=λc=>w11 c) (by kernel_rfl) (ok11 hc)
 |12,_=>ao (g:=λc=>w12 c) (by kernel_rfl) (ok12 hc)
 |13,_=>ao (g:=λc=>w13 c) (by kernel_rfl) (ok13 hc)
 |14,_=>ao (g:=λc=>w14 c) (by kernel_rfl) (ok14 hc)
 |15,_=>aB (by kernel_rfl) c
 |16,_=>ao (g:=λc=>w16 c) (by kernel_rfl) (ok16 hc)
 |17,_=>aB (by kernel_rfl) c
 |18,_=>ao (g:=λc=>w18 c) (by kernel_rfl) (ok18 hc)
 |19,_=>ao (g:=λc=>w19 c) (by kernel_rfl) (ok19 hc)
 |20,_=>ao (g:=λc=>w20 c) (by kernel_rfl) (ok20 hc)
 |21,_=>ao (g:=λc=>w21 c) (by kernel_rfl) (ok21 hc)
 |22,_=>ao (g:=λc=>w22 c) (by kernel_rfl) (ok22 hc)
 |23,_=>aB (by kernel_rfl) c
 |24,_=>ao (g:=λc=>w24 c) (by kernel_rfl) (ok24 hc)
 |25,_=>aB (by kernel_rfl) c
 |26,_=>aB (by kernel_rfl) c
 |27,_=>aB (by kernel_rfl) c
 |28,_=>ao (g:=λc=>w28 c) (by kernel_rfl) (ok28 hc)
 |29,_=>aB (by kernel_rfl) c
 |30,_=>ao (g:=λc=>w30 c) (by kernel_rfl) (ok30 hc)
 |31,_=>ao (g:=λc=>w31 c) (by kernel_rfl) (ok31 hc)
 |32,_=>aB (by kernel_rfl) c
 |33,_=>aB (by kernel_rfl) c
 |34,_=>aB (by kernel_rfl) c
 |35,_=>ao (g:=λc=>w35 c) (by kernel_rfl) (ok35 hc)
 |36,_=>ao (g:=λc=>w36 c) (by kernel_rfl) (ok36 hc)
 |37,_=>ao (g:=λc=>w37 c) (by kernel_rfl) (ok37 hc)
 |38,_=>ao (g:=λc=>w38 c) (by kernel_rfl) (ok38 hc)
 |39,_=>ao (g:=λc=>w39 c) (by kernel_rfl) (ok39 hc)
 |40,_=>ao (g:=λc=>w40 c) (by kernel_rfl) (ok40 hc)
 |41,_=>ao (g:=λc=>w41 c) (by kernel_rfl) (ok41 hc)
 |42,_=>ao (g:=λc=>w42 c) (by kernel_rfl) (ok42 hc)
 |43,_=>ao (g:=λc=>w43 c) (by kernel_rfl) (ok43 hc)
 |44,_=>ao (g:=λc=>w44 c) (by kernel_rfl) (ok44 hc)
 |45,_=>aB (by kernel_rfl) c
 |46,_=>aB (by kernel_rfl) c
 |47,_=>aB (by kernel_rfl) c
 |48,_=>ao (g:=λc=>w48 c) (by kernel_rfl) (ok48 hc)
 |49,_=>ao (g:=λc=>w49 c) (by kernel_rfl) (ok49 hc)
 |50,_=>ao (g:=λc=>w50 c) (by kernel_rfl) (ok50 hc)
 |51,_=>ao (g:=λc=>w51 c) (by kernel_rfl) (ok51 hc)
 |52,_=>ao (g:=λc=>w52 c) (by kernel_rfl) (ok52 hc)
 |53,_=>ao (g:=λc=>w53 c) (by kernel_rfl) (ok53 hc)
 |54,_=>ao (g:=λc=>w54 c) (by kernel_rfl) (ok54 hc)
 |55,_=>ao (g:=λc=>w55 c) (by kernel_rfl) (ok55 hc)
 |56,_=>ao (g:=λc=>w56 c) (by kernel_rfl) (ok56 hc)
 |57,_=>ao (g:=λc=>w57 c) (by kernel_rfl) (ok57 hc)
 |58,_=>ao (g:=λc=>w58 c) (by kernel_rfl) (ok58 hc)
 |59,_=>aB (by kernel_rfl) c
 |60,_=>aB (by kernel_rfl) c
 |61,_=>aB (by kernel_rfl) c
 |62,_=>aB (by kernel_rfl) c
 |63,_=>aB (by kernel_rfl) c
 |64,_=>aB (by kernel_rfl) c
 |65,_=>aB (by kernel_rfl) c
 |66,_=>ao (g:=λc=>w66 c) (by kernel_rfl) (ok66 hc)
 |67,_=>ao (g:=λc=>w67 c) (by kernel_rfl) (ok67 hc)
 |68,_=>ao (g:=λc=>w68 c) (by kernel_rfl) (ok68 hc)
 |69,_=>ao (g:=λc=>w69 c) (by kernel_rfl) (ok69 hc)
 |70,_=>aB (by kernel_rfl) c
 |71,_=>ao (g:=λc=>w71 c) (by kernel_rfl) (ok71 hc)
 |72,_=>ao (g:=λc=>w72 c) (by kernel_rfl) (ok72 hc)
 |73,_=>ao (g:=λc=>w73 c) (by kernel_rfl) (ok73 hc)
 |74,_=>ao (g:=λc=>w74 c) (by kernel_rfl) (ok74 hc)
 |75,_=>ao (g:=λc=>w75 c) (by kernel_rfl) (ok75 hc)
 |76,_=>ao (g:=λc=>w76 c) (by kernel_rfl) (ok76 hc)
 |77,_=>ao (g:=λc=>w77 c) (by kernel_rfl) (ok77 hc)
 |78,_=>ao (g:=λc=>w78 c) (by kernel_rfl) (ok78 hc)
 |79,_=>ao (g:=λc=>w79 c) (by kernel_rfl) (ok79 hc)
 |80,_=>ao (g:=λc=>w80 c) (by kernel_rfl) (ok80 hc)
 |81,_=>ao (g:=λc=>w81 c) (by kernel_rfl) (ok81 hc)
 |82,_=>ao (g:=λc=>w82 c) (by kernel_rfl) (ok82 hc)
 |83,_=>ao (g:=λc=>w83 c) (by kernel_rfl) (ok83 hc)
 |84,_=>aB (by kernel_rfl) c
 |85,_=>aB (by kernel_rfl) c
 |86,_=>ao (g:=λc=>w86 c) (by kernel_rfl) (ok86 hc)
 |87,_=>ao (g:=λc=>w87 c) (by kernel_rfl) (ok87 hc)
 |88,_=>ao (g:=λc=>w88 c) (by kernel_rfl) (ok88 hc)
 |89,_=>ao (g:=λc=>w89 c) (by kernel_rfl) (ok89 hc)
 |90,_=>ao (g:=λc=>w90 c) (by kernel_rfl) (ok90 hc)
 |91,_=>ao (g:=λc=>w91 c) (by kernel_rfl) (ok91 hc)
 |92,_=>ao (g:=λc=>w92 c) (by kernel_rfl) (ok92 hc)
 |93,_=>ao (g:=λc=>w93 c) (by kernel_rfl) (ok93 hc)
 |94,_=>ao (g:=λc=>w94 c) (by kernel_rfl) (ok94 hc)
 |95,_=>ao (g:=λc=>w95 c) (by kernel_rfl) (ok95 hc)
 |96,_=>ao (g:=λc=>w96 c) (by kernel_rfl) (ok96 hc)
 |97,_=>ao (g:=λc=>w97 c) (by kernel_rfl) (ok97 hc)
 |98,_=>aB (by kernel_rfl) c
 |99,_=>aB (by kernel_rfl) c
 |100,_=>aB (by kernel_rfl) c
 |101,_=>aB (by kernel_rfl) c
 |102,_=>ao (g:=λc=>w102 c) (by kernel_rfl) (ok102 hc)
 |103,_=>aB (by kernel_rfl) c
 |104,_=>aB (by kernel_rfl) c
 |105,_=>aB (by kernel_rfl) c
 |106,_=>aB (by kernel_rfl) c
 |107,_=>aB (by kernel_rfl) c
 |108,_=>aB (by kernel_rfl) c
 |109,_=>ao (g:=λc=>w109 c) (by kernel_rfl) (ok109 hc)
 |110,_=>ao (g:=λc=>w110 c) (by kernel_rfl) (ok110 hc)
 |111,_=>ao (g:=λc=>w111 c) (by kernel_rfl) (ok111 hc)
 |112,_=>ao (g:=λc=>w112 c) (by kernel_rfl) (ok112 hc)
 |113,_=>ao (g:=λc=>w113 c) (by kernel_rfl) (ok113 hc)
 |114,_=>ao (g:=λc=>w114 c) (by kernel_rfl) (ok114 hc)
 |115,_=>ao (g:=λc=>w115 c) (by kernel_rfl) (ok115 hc)
 |116,_=>ao (g:=λc=>w116 c) (by kernel_rfl) (ok116 hc)
 |117,_=>ao (g:=λc=>w117 c) (by kernel_rfl) (ok117 hc)
 |118,_=>ao (g:=λc=>w118 c) (by kernel_rfl) (ok118 hc)
 |119,_=>ao (g:=λc=>w119 c) (by kernel_rfl) (ok119 hc)
 |120,_=>ao (g:=λc=>w120 c) (by kernel_rfl) (ok120 hc)
 |121,_=>ao (g:=λc=>w121 c) (by kernel_rfl) (ok121 hc)
 |122,_=>ao (g:=λc=>w122 c) (by kernel_rfl) (ok122 hc)
 |123,_=>ao (g:=λc=>w123 c) (by kernel_rfl) (ok123 hc)
 |124,_=>ao (g:=λc=>w124 c) (by kernel_rfl) (ok124 hc)
 |125,_=>ao (g:=λc=>w125 c) (by kernel_rfl) (ok125 hc)
 |126,_=>ao (g:=λc=>w126 c) (by kernel_rfl) (ok126 hc)
 |127,_=>ao (g:=λc=>w127 c) (by kernel_rfl) (ok127 hc)
 |128,_=>ao (g:=λc=>w128 c) (by kernel_rfl) (ok128 hc)
 |129,_=>ao (g:=λc=>w129 c) (by kernel_rfl) (ok129 hc)
 |130,_=>ao (g:=λc=>w130 c) (by kernel_rfl) (ok130 hc)
 |131,_=>ao (g:=λc=>w131 c) (by kernel_rfl) (ok131 hc)
 |132,_=>ao (g:=λc=>w132 c) (by kernel_rfl) (ok132 hc)
 |133,_=>ao (g:=λc=>w133 c) (by kernel_rfl) (uK hc)
 |134,_=>ao (g:=λc=>w134 c) (by kernel_rfl) (ok134 hc)
 |135,_=>aB (by kernel_rfl) c
 |136,_=>aB (by kernel_rfl) c
 |137,_=>aB (by kernel_rfl) c
 |138,_=>aB (by kernel_rfl) c
 |139,_=>aB (by kernel_rfl) c
 |140,_=>aB (by kernel_rfl) c
 |141,_=>ao (g:=λc=>w141 c) (by kernel_rfl) (ok141 hc)
 |142,_=>ao (g:=λc=>w142 c) (by kernel_rfl) (ok142 hc)
 |143,_=>ao (g:=λc=>w143 c) (by kernel_rfl) (ok143 hc)
 |144,_=>ao (g:=λc=>w144 c) (by kernel_rfl) (ok144 hc)
 |145,_=>ao (g:=λc=>w145 c) (by kernel_rfl) (ok145 hc)
 |146,_=>ao (g:=λc=>w146 c) (by kernel_rfl) (ok146 hc)
 |147,_=>aB (by kernel_rfl) c
 |148,_=>aB (by kernel_rfl) c
 |149,_=>aB (by kernel_rfl) c
 |150,_=>aB (by kernel_rfl) c
 |151,_=>aB (by kernel_rfl) c
 |152,_=>aB (by kernel_rfl) c
 |153,_=>aB (by kernel_rfl) c
 |154,_=>aB (by kernel_rfl) c
 |155,_=>ao (g:=λc=>w155 c) (by kernel_rfl) (ok155 hc)
 |156,_=>ao (g:=λc=>w156 c) (by kernel_rfl) (ok156 hc)
 |157,_=>ao (g:=λc=>w157 c) (by kernel_rfl) (ok157 hc)
 |158,_=>ao (g:=λc=>w158 c) (by kernel_rfl) (ok158 hc)
 |159,_=>ao (g:=λc=>w159 c) (by kernel_rfl) (ok159 hc)
 |160,_=>ao (g:=λc=>w160 c) (by kernel_rfl) (ok160 hc)
 |161,_=>ao (g:=λc=>w161 c) (by kernel_rfl) (ok161 hc)
 |162,_=>ao (g:=λc=>w162 c) (by kernel_rfl) (ok162 hc)
 |163,_=>ao (g:=λc=>w163 c) (by kernel_rfl) (ok163 hc)
 |164,_=>ao (g:=λc=>w164 c) (by kernel_rfl) (ok164 hc)
 |165,_=>ao (g:=λc=>w165 c) (by kernel_rfl) (ok165 hc)
 |166,_=>aB (by kernel_rfl) c
 |167,_=>aB (by kernel_rfl) c
 |168,_=>aB (by kernel_rfl) c
 |169,_=>aB (by kernel_rfl) c
 |170,_=>aB (by kernel_rfl) c
 |171,_=>aB (by kernel_rfl) c
 |172,_=>aB (by kernel_rfl) c
 |173,_=>aB (by kernel_rfl) c
 |174,_=>aB (by kernel_rfl) c
 |175,_=>ao (g:=λc=>w175 c) (by kernel_rfl) (ok175 hc)
 |176,_=>ao (g:=λc=>w176 c) (by kernel_rfl) (ok176 hc)
 |177,_=>aB (by kernel_rfl) c
 |178,_=>aB (by kernel_rfl) c
 |179,_=>aB (by kernel_rfl) c
 |180,_=>aB (by kernel_rfl) c
 |181,_=>aB (by kernel_rfl) c
 |182,_=>ao (g:=λc=>w182 c) (by kernel_rfl) (ok182 hc)
 |183,_=>ao (g:=λc=>w183 c) (by kernel_rfl) (ok183 hc)
 |184,_=>ao (g:=λc=>w184 c) (by kernel_rfl) (ok184 hc)
 |185,_=>aB (by kernel_rfl) c
 |186,_=>aB (by kernel_rfl) c
 |187,_=>aB (by kernel_rfl) c
 |188,_=>aB (by kernel_rfl) c
 |189,_=>aB (by kernel_rfl) c
 |190,_=>aB (by kernel_rfl) c
 |191,_=>aB (by kernel_rfl) c
 |192,_=>ao (g:=λc=>w192 c) (by kernel_rfl) (ok192 hc)
 |193,_=>aB (by kernel_rfl) c
 |194,_=>aB (by kernel_rfl) c
 |195,_=>aB (by kernel_rfl) c
 |196,_=>aB (by kernel_rfl) c
 |197,_=>ao (g:=λc=>w197 c) (by kernel_rfl) (ok197 hc)
 |n+198,h=>by rw[qaH]at h;omega
theorem stepF_ok{c:ac}(hc:Cok c):Cok (stepF c):=by
 refine⟨λf ls h K w hls hk=>?_,λκ vs l ls h K w st pd xs e hy hk=>?_⟩
 ·have hk:(match Nat.blt f 198 with|true=>(ba f).get nf (tabW c)|false=>nf) ls h K=some w:=hk
  cases e:Nat.blt f 198 with
  |true=>rw[e]at hk;exact tabW_ok hc f e ls h K w hls hk
  |false=>rw[e]at hk;cases hk
 ·have hd:YOk cc ae aa κ (λvs l ls h K=>ov (BA ae aa c) (xc 0) ae drN (aa κ) vs l ls h K):=y_of (g:=λc vs l ls h K=>ov (BA ae aa c) (xc 0) ae drN (aa κ) vs l ls h K) (ct:=λc=>c) (λ_ _ _ _ _=>rfl) hc
  refine ta hd (l:=[(592,bY592 c),(2496,pJ c)]) (λp hp=>?_) vs l ls h K w st pd xs e hy hk
  simp only[qak,qbH,or_false]at hp
  rcases hp with rfl|rfl
  ·exact okY592 hc
  ·exact okY2496 hc
theorem mf:∀n,Cok (runF n)
 |0=>⟨λ_ _ _ _ _ _ h=>by(cases h),λ_ _ _ _ _ _ _ _ _ _ _ _ h=>by(cases h)⟩
 |n+1=>stepF_ok (mf n)
end Go.Am

/-
 THE ALGEBRA OF PROPOSITIONS OVER THE HEAPS OF RUNS;what a run shows holds in it.
-/
namespace Go.Am
namespace Sx
section
variable [Val] [Kno]
def peekH(T:Nat->Site)(f:Pk)(h:HL)(K:List Value->Prop):Prop:=∃cs,f.run (getH T h)=some cs/\K cs
def heapH(T:Nat->Site)(f:Hp)(h:HL)(K:List Value->HL->Prop):Prop:=∃acts cs,f.run (getH T h) h.length=some (acts,cs)/\K cs (bY h acts)
def callH(C:Cfg)(Sg:FuncId->Option Sig)(T:Nat->Site)(g:FuncId)(ls:List Lf)(h:HL)(K:List Lf->HL->Prop):Prop:=∃rs h',aq C Sg g ls (absH T h) rs (absH T h')/\K rs h'
def callvH(C:Cfg)(T:Nat->Site)(v:Value)(args:List Value)(hs:List SK)(h:HL)(K:List Lf->HL->Prop):Prop:=∃rs h',ri C v args hs (absH T h) rs (absH T h')/\K rs h'
def itH(F:(List Lf->HL->Prop)->List Lf->HL->Prop)(n:Nat):List Lf->HL->Prop:=
 match n with
 |0=>λ_ _=>False
 |n+1=>F (itH F n)
def loopH(F:(List Lf->HL->Prop)->List Lf->HL->Prop)(ls:List Lf)(h:HL):Prop:=∃n,itH F n ls h
def rfunH(C:Cfg)(T:Nat->Site)(κ:Nat)(v:Value)(vals:List Value)(h:HL)(K:Option Code->HL->Prop):Prop:=
 ∃g first cap r H1 lp h2,v = .func (.func g) first cap/\
  gp C g (first.toList++[.func (.yield (absH T h).length) #[] #[]]++cap.toList) (absH T h++[.loop (lpOf (T κ) κ vals)]) r H1/\
  dm H1 (absH T h).length=some lp/\lp.state≠.busy/\absH T h2=H1.set (absH T h).length (.loop { lp with state:=.exhausted })/\K lp.pending h2
def lp1H(T:Nat->Site)(l:Nat)(h:HL)(K:HL->Prop):Prop:=∃lp h',dm (absH T h) l=some lp/\lp.state = .ready/\absH T h'=(absH T h).set l (.loop { lp with state:=.busy })/\K h'
def lp2H(T:Nat->Site)(l:Nat)(j:Option Code)(h:HL)(K:HL->Prop):Prop:=∃lp h',dm (absH T h) l=some lp/\absH T h'=(absH T h).set l (.loop { lp with state:=if j.isNone then .ready else .done,pending:=j })/\K h'
def PH(C:Cfg)(Sg:FuncId->Option Sig)(T:Nat->Site):Alg Prop HL where
 fail:=False
 cond:=condP
 ari:=ariP
 shf:=λop k a k' b K=>∃n,ShRun op k a k' b n/\K n
 cmp:=cmpP
 eqs:=λl K=>K (bZ l)
 conv:=λk a K=>K (k.wrap a)
 sel:=λt a b K=>K (if t then a else b)
 opt:=optP
 chk:=λv K=>aX v=true/\K
 unI:=unIP
 unB:=unBP
 unV:=unVP
 un0:=un0P
 ucI:=ucIP
 ucB:=ucBP
 ucV:=ucVP
 uc0:=uc0P
 peek:=peekH T
 heap:=heapH T
 new:=λo h K=>K h.length (h++[.o o])
 call:=callH C Sg T
 callv:=callvH C T
 join:=λb m=>m b
 loop:=loopH
 rfun:=rfunH C T
 pend:=pendP
 lp1:=lp1H T
 lp2:=lp2H T
theorem PH_ok(C:Cfg)(Sg:FuncId->Option Sig)(T:Nat->Site):AlgOk (PH C Sg T) C Sg T id (absH T) where
 fail:=(eH C Sg T).fail
 cond:=(eH C Sg T).cond
 ari:=(eH C Sg T).ari
 shf:=(eH C Sg T).shf
 cmp:=(eH C Sg T).cmp
 eqs:=(eH C Sg T).eqs
 conv:=(eH C Sg T).conv
 sel:=(eH C Sg T).sel
 opt:=(eH C Sg T).opt
 chk:=(eH C Sg T).chk
 unI:=(eH C Sg T).unI
 unB:=(eH C Sg T).unB
 unV:=(eH C Sg T).unV
 un0:=(eH C Sg T).un0
 ucI:=(eH C Sg T).ucI
 ucB:=(eH C Sg T).ucB
 ucV:=(eH C Sg T).ucV
 uc0:=(eH C Sg T).uc0
 peek:=by
  intro f h K hk
  obtain⟨cs,h1,h2⟩:=hk
  exact⟨cs,by rw[←iU];exact h1,h2⟩
 heap:=by
  intro f h K hk
  obtain⟨acts,cs,h1,h2⟩:=hk
  exact⟨acts,cs,_,by rw[←iU,ch];exact h1,iK T acts h,h2⟩
 new:=λo h K hk=>⟨_,fl T h _,by rw[ch];exact hk⟩
 call:=λg ls h K hk=>hk
 callv:=λv args hs h K hk=>hk
 join:=λb m h=>h
 loop:=by
  intro F ls h hk
  obtain⟨n,hk⟩:=hk
  exact⟨itH F,λls h=>(id:False->False),λn ls h=>rfl,n,hk⟩
 rfun:=λκ v vals h K hk=>hk
 pend:=(eH C Sg T).pend
 lp1:=λl h K hk=>hk
 lp2:=λl j h K hk=>hk
section
variable {C:Cfg} {Sg:FuncId->Option Sig} {T:Nat->Site} {call:ac} (hc:CallBOk C Sg T call)
include hc
theorem s_shf{op:BinOp}{k k':IntKind}{a b:Int}{K:Int->RT}{K':Int->Prop}(hk:∀n,K n=yes->K' n)(h:(BA Sg T call).shf op k a k' b K=yes):(PH C Sg T).shf op k a k' b K':=by
 obtain⟨n,h1,h2⟩:=shfB_ok (w:=[]) h
 exact⟨n,h1,hk _ h2⟩
inductive SL2:List (Nat×RT)->List (Nat×Prop)->Prop
 |nil:SL2 [] []
 |cons {id:Nat} {x:RT} {x':Prop} {l:List (Nat×RT)} {l':List (Nat×Prop)} (hx:x=yes->x') (hl:SL2 l l'):SL2 ((id,x) :: l) ((id,x') :: l')
omit hc in
end
theorem sW{F:(List Lf->HL->Prop)->List Lf->HL->Prop}(Inv:Nat->List Lf->HL->Prop)
  (step:∀m ls h,Inv m ls h->∀self:List Lf->HL->Prop,(∀m' ls h,m'<m->Inv m' ls h->self ls h)->F self ls h):∀n m ls h,m<n->Inv m ls h->itH F n ls h
 |0,_,_,_,hm,_=>absurd hm (qcF _)
 |n+1,m,ls,h,hm,hi=>step m ls h hi (itH F n) λm' ls h h' hi'=>sW Inv step n m' ls h (by omega) hi'
theorem db{F:(List Lf->HL->Prop)->List Lf->HL->Prop}(Inv:Nat->List Lf->HL->Prop){m:Nat}{ls:List Lf}{h:HL}(hi:Inv m ls h)
  (step:∀m ls h,Inv m ls h->∀self:List Lf->HL->Prop,(∀m' ls h,m'<m->Inv m' ls h->self ls h)->F self ls h):loopH F ls h:=
 ⟨m+1,sW Inv step (m+1) m ls h (Nat.lt_succ_self m) hi⟩
end
end Sx
end Go.Am

/-
 THE ALGEBRA OF PROPOSITIONS,its rules as equations: a step each.
-/
namespace Go.Am
namespace Sx
class Bx (α:Sort _) where
 v:α
def hid{α:Sort _} [b:Bx α]:α:=b.v
section
variable [Val] [Kno] {C:Cfg} {Sg:FuncId->Option Sig} {T:Nat->Site}
theorem b_unI{n:Int}{r:List Lf}{K:Int->List Lf->Prop}:(PH C Sg T).unI (.i n :: r) K=K n r:=rfl
theorem b_unB{n:Bool}{r:List Lf}{K:Bool->List Lf->Prop}:(PH C Sg T).unB (.b n :: r) K=K n r:=rfl
theorem b_unV{n:Value}{r:List Lf}{K:Value->List Lf->Prop}:(PH C Sg T).unV (.v n :: r) K=K n r:=rfl
theorem b_un0{K:Prop}:(PH C Sg T).un0 [] K=K:=rfl
theorem b_ucI{k:IntKind}{n:Int}{r:List Value}{K:Int->List Value->Prop}:(PH C Sg T).ucI k (.int k n :: r) K=K n r:=by
 show(k=k/\K n r)=K n r
 simp
theorem b_ucB{n:Bool}{r:List Value}{K:Bool->List Value->Prop}:(PH C Sg T).ucB (.bool n :: r) K=K n r:=rfl
theorem b_ucV{n:Value}{r:List Value}{K:Value->List Value->Prop}:(PH C Sg T).ucV (n :: r) K=K n r:=rfl
theorem b_uc0{K:Prop}:(PH C Sg T).uc0 [] K=K:=rfl
theorem b_cond_t{X Y:Prop}:(PH C Sg T).cond true X Y=X:=by
 show((true=true->X)/\(true=false->Y))=X
 simp
theorem b_cond_f{X Y:Prop}:(PH C Sg T).cond false X Y=Y:=by
 show((false=true->X)/\(false=false->Y))=Y
 simp
theorem b_lss_t{a b:Int}{K:Bool->Prop}(h:a<b):(PH C Sg T).cmp .lss a b K=K true:=by
 show K (decide (a<b))=_;rw[decide_eq_true h]
theorem b_lss_f{a b:Int}{K:Bool->Prop}(h:b<=a):(PH C Sg T).cmp .lss a b K=K false:=by
 show K (decide (a<b))=_;rw[decide_eq_false (by omega)]
theorem b_leq_t{a b:Int}{K:Bool->Prop}(h:a<=b):(PH C Sg T).cmp .leq a b K=K true:=by
 show K (decide (a<=b))=_;rw[decide_eq_true h]
theorem b_leq_f{a b:Int}{K:Bool->Prop}(h:b<a):(PH C Sg T).cmp .leq a b K=K false:=by
 show K (decide (a<=b))=_;rw[decide_eq_false (by omega)]
theorem b_gtr_t{a b:Int}{K:Bool->Prop}(h:b<a):(PH C Sg T).cmp .gtr a b K=K true:=by
 show K (decide (a > b))=_;rw[decide_eq_true h]
theorem b_gtr_f{a b:Int}{K:Bool->Prop}(h:a<=b):(PH C Sg T).cmp .gtr a b K=K false:=by
 show K (decide (a > b))=_;rw[decide_eq_false (by omega)]
theorem b_geq_t{a b:Int}{K:Bool->Prop}(h:b<=a):(PH C Sg T).cmp .geq a b K=K true:=by
 show K (decide (a ≥ b))=_;rw[decide_eq_true h]
theorem b_geq_f{a b:Int}{K:Bool->Prop}(h:a<b):(PH C Sg T).cmp .geq a b K=K false:=by
 show K (decide (a ≥ b))=_;rw[decide_eq_false (by omega)]
theorem b_eql_t{a b:Int}{K:Bool->Prop}(h:a=b):(PH C Sg T).cmp .eql a b K=K true:=by
 show K (a==b)=_;rw[beq_iff_eq.2 h]
theorem b_eql_f{a b:Int}{K:Bool->Prop}(h:a≠b):(PH C Sg T).cmp .eql a b K=K false:=by
 show K (a==b)=_;rw[beq_false_of_ne h]
theorem b_neq_t{a b:Int}{K:Bool->Prop}(h:a≠b):(PH C Sg T).cmp .neq a b K=K true:=by
 show K (a != b)=_;rw[bne_iff_ne.2 h]
theorem b_neq_f{a b:Int}{K:Bool->Prop}(h:a=b):(PH C Sg T).cmp .neq a b K=K false:=by
 show K (a != b)=_;subst h;simp
theorem b_add{a b:Int}{K:Int->Prop}(h1:-9223372036854775808<=a+b)(h2:a+b<=9223372036854775807):(PH C Sg T).ari .add .i64 a b K=K (a+b):=by
 show K (IntKind.wrap .i64 (a+b))=_;rw[cp h1 h2]
theorem b_sub{a b:Int}{K:Int->Prop}(h1:-9223372036854775808<=a - b)(h2:a - b<=9223372036854775807):(PH C Sg T).ari .sub .i64 a b K=K (a - b):=by
 show K (IntKind.wrap .i64 (a - b))=_;rw[cp h1 h2]
theorem b_mul{a b:Int}{K:Int->Prop}(h1:-9223372036854775808<=a*b)(h2:a*b<=9223372036854775807):(PH C Sg T).ari .mul .i64 a b K=K (a*b):=by
 show K (IntKind.wrap .i64 (a*b))=_;rw[cp h1 h2]
theorem b_add8{a b:Int}{K:Int->Prop}(h1:0<=a+b)(h2:a+b<=255):(PH C Sg T).ari .add .u8 a b K=K (a+b):=by
 show K (IntKind.wrap .u8 (a+b))=_;rw[pw h1 h2]
theorem b_sub8{a b:Int}{K:Int->Prop}(h1:0<=a - b)(h2:a - b<=255):(PH C Sg T).ari .sub .u8 a b K=K (a - b):=by
 show K (IntKind.wrap .u8 (a - b))=_;rw[pw h1 h2]
theorem b_mul8{a b:Int}{K:Int->Prop}(h1:0<=a*b)(h2:a*b<=255):(PH C Sg T).ari .mul .u8 a b K=K (a*b):=by
 show K (IntKind.wrap .u8 (a*b))=_;rw[pw h1 h2]
theorem tdiv_nn{a b:Int}(h:0<=a):a.tdiv b=a / b:=Int.tdiv_eq_ediv_of_nonneg h
theorem b_quo_nn{a b:Int}{K:Int->Prop}(h:0<=a)(hb:0<b)(h2:a<=9223372036854775807):(PH C Sg T).ari .quo .i64 a b K=K (a / b):=by
 show(b≠0/\K (IntKind.wrap .i64 (a.tdiv b)))=_
 have h3:a / b<=a:=Int.ediv_le_self b h
 have h4:0<=a / b:=Int.ediv_nonneg h (by omega)
 rw[tdiv_nn h,cp (by omega) (by omega)]
 simp;intro _ h;omega
theorem b_quo_dv{a b:Int}{K:Int->Prop}(h:a%b=0)(hb:0<b)(h1:-9223372036854775808<=a)(h2:a<=9223372036854775807):(PH C Sg T).ari .quo .i64 a b K=K (a / b):=by
 show(b≠0/\K (IntKind.wrap .i64 (a.tdiv b)))=_
 obtain⟨q,rfl⟩:=Int.dvd_of_emod_eq_zero h
 rw[Int.mul_tdiv_cancel_left q (by omega),Int.mul_ediv_cancel_left q (by omega)]
 have hq:-9223372036854775808<=q/\q<=9223372036854775807:=by
  rcases Int.le_total 0 q with hs|hs
  ·have:=qb2 (show(1:Int)<=b by omega) hs
   omega
  ·have:=qb2 (show(1:Int)<=b by omega) (show 0<=-q by omega)
   rw[Int.mul_neg b q]at this
   omega
 rw[cp hq.1 hq.2]
 simp;intro _ h;omega
theorem b_rem_nn{k:IntKind}{a b:Int}{K:Int->Prop}(h:0<=a)(hb:0<b):(PH C Sg T).ari .rem k a b K=K (a%b):=by
 show(b≠0/\K (a.tmod b))=_
 rw[qcI h]
 simp;intro _ h;omega
theorem b_rem_np{k:IntKind}{a b:Int}{K:Int->Prop}(h:a<=0)(hb:0<b):(PH C Sg T).ari .rem k a b K=K (-((-a)%b)):=by
 show(b≠0/\K (a.tmod b))=_
 have:a.tmod b = -((-a)%b):=by
  have h1:=Int.neg_tmod a b
  rw[qcI (a:=-a) (by omega)]at h1
  omega
 rw[this]
 simp;intro _ h;omega
theorem b_and1{a:Int}{K:Int->Prop}:(PH C Sg T).ari .and .i64 a 1 K=K (a%2):=by
 show(((1:Int)=1/\K (a%2))∨((1:Int)≠1/\∃n,nO .and .i64 a 1 n/\K n))=K (a%2)
 simp
theorem b_conv{a:Int}{K:Int->Prop}(h1:-9223372036854775808<=a)(h2:a<=9223372036854775807):(PH C Sg T).conv .i64 a K=K a:=by
 show K (IntKind.wrap .i64 a)=_;rw[cp h1 h2]
theorem b_conv8{a:Int}{K:Int->Prop}(h1:0<=a)(h2:a<=255):(PH C Sg T).conv .u8 a K=K a:=by
 show K (IntKind.wrap .u8 a)=_;rw[pw h1 h2]
theorem b_sel_t{a b:Int}{K:Int->Prop}:(PH C Sg T).sel true a b K=K a:=rfl
theorem b_sel_f{a b:Int}{K:Int->Prop}:(PH C Sg T).sel false a b K=K b:=rfl
theorem b_opt{α:Type}{x:α}{K:α->Prop}:(PH C Sg T).opt (some x) K=K x:=by
 show(∃y,some x=some y/\K y)=K x
 simp
theorem b_inB{n:Nat}{i:Int}{K:Unit->Prop}(h1:0<=i)(h2:i<(n:Int)):(PH C Sg T).opt (inB n i) K=K ():=by
 rw[show inB n i=some ()from(inB_eq n i).trans (if_pos ⟨h1,h2⟩),b_opt]
theorem b_join{b:List Lf->HL->Prop}{m:(List Lf->HL->Prop)->Prop}:(PH C Sg T).join b m=m b:=rfl
theorem b_eqs0{K:Bool->Prop}:(PH C Sg T).eqs [] K=K true:=rfl
theorem b_eqs_t{a b:Int}{l:List (Lf×Lf)}{K:Bool->Prop}(h:a=b):(PH C Sg T).eqs ((.i a,.i b) :: l) K=(PH C Sg T).eqs l K:=by
 show K (bZ _)=K (bZ l)
 subst h
 simp[bZ,gj]
theorem b_eqs_f{a b:Int}{l:List (Lf×Lf)}{K:Bool->Prop}(h:a≠b):(PH C Sg T).eqs ((.i a,.i b) :: l) K=K false:=by
 show K (bZ _)=K false
 have:(a==b)=false:=beq_false_of_ne h
 simp[bZ,gj,this]
theorem b_it{F:(List Lf->HL->Prop)->List Lf->HL->Prop}{n:Nat}{ls:List Lf}{h:HL}:itH F (n+1) ls h=F (itH F n) ls h:=rfl
theorem aE{g:FuncId}{ls rs:List Lf}{h:HL}{K:List Lf->HL->Prop}(hc:∀H,aq C Sg g ls H rs H)(hk:K rs h):(PH C Sg T).call g ls h (@hid _ ⟨K⟩):=⟨rs,h,hc _,hk⟩
theorem b_eqsb_t{a b:Bool}{l:List (Lf×Lf)}{K:Bool->Prop}(h:a=b):(PH C Sg T).eqs ((.b a,.b b) :: l) K=(PH C Sg T).eqs l K:=by
 show K (bZ _)=K (bZ l)
 subst h
 simp[bZ,gj]
theorem b_eqsb_tf{l:List (Lf×Lf)}{K:Bool->Prop}:(PH C Sg T).eqs ((.b true,.b false) :: l) K=K false:=rfl
theorem b_eqsb_ft{l:List (Lf×Lf)}{K:Bool->Prop}:(PH C Sg T).eqs ((.b false,.b true) :: l) K=K false:=rfl
theorem b_mul_1{b:Int}{K:Int->Prop}(h1:-9223372036854775808<=b)(h2:b<=9223372036854775807):(PH C Sg T).ari .mul .i64 1 b K=K b:=by
 show K (IntKind.wrap .i64 (1*b))=_;rw[Int.one_mul,cp h1 h2]
theorem b_mul_0{b:Int}{K:Int->Prop}:(PH C Sg T).ari .mul .i64 0 b K=K 0:=by
 show K (IntKind.wrap .i64 (0*b))=_;rw[Int.zero_mul];rfl
theorem b_mul_m{b:Int}{K:Int->Prop}(h1:-9223372036854775808<=-b)(h2:-b<=9223372036854775807):(PH C Sg T).ari .mul .i64 (-1) b K=K (-b):=by
 show K (IntKind.wrap .i64 (-1*b))=_
 have:(-1*b:Int) = -b:=by omega
 rw[this,cp h1 h2]
theorem b_mul_r1{b:Int}{K:Int->Prop}(h1:-9223372036854775808<=b)(h2:b<=9223372036854775807):(PH C Sg T).ari .mul .i64 b 1 K=K b:=by
 show K (IntKind.wrap .i64 (b*1))=_;rw[Int.mul_one,cp h1 h2]
theorem b_mul_r0{b:Int}{K:Int->Prop}:(PH C Sg T).ari .mul .i64 b 0 K=K 0:=by
 show K (IntKind.wrap .i64 (b*0))=_;rw[Int.mul_zero];rfl
theorem b_mul_rm{b:Int}{K:Int->Prop}(h1:-9223372036854775808<=-b)(h2:-b<=9223372036854775807):(PH C Sg T).ari .mul .i64 b (-1) K=K (-b):=by
 show K (IntKind.wrap .i64 (b * -1))=_
 have:(b * -1:Int) = -b:=by omega
 rw[this,cp h1 h2]
theorem b_add_0{b:Int}{K:Int->Prop}(h1:-9223372036854775808<=b)(h2:b<=9223372036854775807):(PH C Sg T).ari .add .i64 0 b K=K b:=by
 show K (IntKind.wrap .i64 (0+b))=_;rw[Int.zero_add,cp h1 h2]
theorem b_add_r0{b:Int}{K:Int->Prop}(h1:-9223372036854775808<=b)(h2:b<=9223372036854775807):(PH C Sg T).ari .add .i64 b 0 K=K b:=by
 show K (IntKind.wrap .i64 (b+0))=_;rw[Int.add_zero,cp h1 h2]
theorem b_add_11{K:Int->Prop}:(PH C Sg T).ari .add .i64 1 1 K=K 2:=by
 show K (IntKind.wrap .i64 (1+1))=_;rfl
theorem b_quo_1{a:Int}{K:Int->Prop}(h1:-9223372036854775808<=a)(h2:a<=9223372036854775807):(PH C Sg T).ari .quo .i64 a 1 K=K a:=by
 show((1:Int)≠0/\K (IntKind.wrap .i64 (a.tdiv 1)))=_
 rw[Int.tdiv_one,cp h1 h2];simp
theorem bw{α:Type}{o:Option α}{x:α}{K:α->Prop}(h:o=some x)(hk:K x):(PH C Sg T).opt o (@hid _ ⟨K⟩):=⟨x,h,hk⟩
theorem p_unI{n:Int}{r:List Lf}{K:Int->List Lf->Prop}:(PH C Sg T).unI (.i n :: r) (@hid _ ⟨K⟩)=K n r:=b_unI
theorem p_unB{n:Bool}{r:List Lf}{K:Bool->List Lf->Prop}:(PH C Sg T).unB (.b n :: r) (@hid _ ⟨K⟩)=K n r:=b_unB
theorem p_unV{n:Value}{r:List Lf}{K:Value->List Lf->Prop}:(PH C Sg T).unV (.v n :: r) (@hid _ ⟨K⟩)=K n r:=b_unV
theorem p_un0{K:Prop}:(PH C Sg T).un0 [] (@hid _ ⟨K⟩)=K:=b_un0
theorem p_ucI{k:IntKind}{n:Int}{r:List Value}{K:Int->List Value->Prop}:(PH C Sg T).ucI k (.int k n :: r) (@hid _ ⟨K⟩)=K n r:=b_ucI
theorem p_ucB{n:Bool}{r:List Value}{K:Bool->List Value->Prop}:(PH C Sg T).ucB (.bool n :: r) (@hid _ ⟨K⟩)=K n r:=b_ucB
theorem p_ucV{n:Value}{r:List Value}{K:Value->List Value->Prop}:(PH C Sg T).ucV (n :: r) (@hid _ ⟨K⟩)=K n r:=b_ucV
theorem p_uc0{K:Prop}:(PH C Sg T).uc0 [] (@hid _ ⟨K⟩)=K:=b_uc0
theorem p_cond_t{X Y:Prop}:(PH C Sg T).cond true (@hid _ ⟨X⟩) Y=X:=b_cond_t
theorem p_cond_f{X Y:Prop}:(PH C Sg T).cond false X (@hid _ ⟨Y⟩)=Y:=b_cond_f
theorem p_lss_t{a b:Int}{K:Bool->Prop}(h:a<b):(PH C Sg T).cmp .lss a b (@hid _ ⟨K⟩)=K true:=b_lss_t h
theorem p_lss_f{a b:Int}{K:Bool->Prop}(h:b<=a):(PH C Sg T).cmp .lss a b (@hid _ ⟨K⟩)=K false:=b_lss_f h
theorem p_leq_t{a b:Int}{K:Bool->Prop}(h:a<=b):(PH C Sg T).cmp .leq a b (@hid _ ⟨K⟩)=K true:=b_leq_t h
theorem p_leq_f{a b:Int}{K:Bool->Prop}(h:b<a):(PH C Sg T).cmp .leq a b (@hid _ ⟨K⟩)=K false:=b_leq_f h
theorem p_gtr_t{a b:Int}{K:Bool->Prop}(h:b<a):(PH C Sg T).cmp .gtr a b (@hid _ ⟨K⟩)=K true:=b_gtr_t h
theorem p_gtr_f{a b:Int}{K:Bool->Prop}(h:a<=b):(PH C Sg T).cmp .gtr a b (@hid _ ⟨K⟩)=K false:=b_gtr_f h
theorem p_geq_t{a b:Int}{K:Bool->Prop}(h:b<=a):(PH C Sg T).cmp .geq a b (@hid _ ⟨K⟩)=K true:=b_geq_t h
theorem p_geq_f{a b:Int}{K:Bool->Prop}(h:a<b):(PH C Sg T).cmp .geq a b (@hid _ ⟨K⟩)=K false:=b_geq_f h
theorem p_eql_t{a b:Int}{K:Bool->Prop}(h:a=b):(PH C Sg T).cmp .eql a b (@hid _ ⟨K⟩)=K true:=b_eql_t h
theorem p_eql_f{a b:Int}{K:Bool->Prop}(h:a≠b):(PH C Sg T).cmp .eql a b (@hid _ ⟨K⟩)=K false:=b_eql_f h
theorem p_neq_t{a b:Int}{K:Bool->Prop}(h:a≠b):(PH C Sg T).cmp .neq a b (@hid _ ⟨K⟩)=K true:=b_neq_t h
theorem p_neq_f{a b:Int}{K:Bool->Prop}(h:a=b):(PH C Sg T).cmp .neq a b (@hid _ ⟨K⟩)=K false:=b_neq_f h
theorem p_add{a b:Int}{K:Int->Prop}(h1:-9223372036854775808<=a+b)(h2:a+b<=9223372036854775807):(PH C Sg T).ari .add .i64 a b (@hid _ ⟨K⟩)=K (a+b):=b_add h1 h2
theorem p_sub{a b:Int}{K:Int->Prop}(h1:-9223372036854775808<=a - b)(h2:a - b<=9223372036854775807):(PH C Sg T).ari .sub .i64 a b (@hid _ ⟨K⟩)=K (a - b):=b_sub h1 h2
theorem p_mul{a b:Int}{K:Int->Prop}(h1:-9223372036854775808<=a*b)(h2:a*b<=9223372036854775807):(PH C Sg T).ari .mul .i64 a b (@hid _ ⟨K⟩)=K (a*b):=b_mul h1 h2
theorem p_add8{a b:Int}{K:Int->Prop}(h1:0<=a+b)(h2:a+b<=255):(PH C Sg T).ari .add .u8 a b (@hid _ ⟨K⟩)=K (a+b):=b_add8 h1 h2
theorem p_sub8{a b:Int}{K:Int->Prop}(h1:0<=a - b)(h2:a - b<=255):(PH C Sg T).ari .sub .u8 a b (@hid _ ⟨K⟩)=K (a - b):=b_sub8 h1 h2
theorem p_mul8{a b:Int}{K:Int->Prop}(h1:0<=a*b)(h2:a*b<=255):(PH C Sg T).ari .mul .u8 a b (@hid _ ⟨K⟩)=K (a*b):=b_mul8 h1 h2
theorem p_quo_nn{a b:Int}{K:Int->Prop}(h:0<=a)(hb:0<b)(h2:a<=9223372036854775807):(PH C Sg T).ari .quo .i64 a b (@hid _ ⟨K⟩)=K (a / b):=b_quo_nn h hb h2
theorem p_quo_dv{a b:Int}{K:Int->Prop}(h:a%b=0)(hb:0<b)(h1:-9223372036854775808<=a)(h2:a<=9223372036854775807):(PH C Sg T).ari .quo .i64 a b (@hid _ ⟨K⟩)=K (a / b):=b_quo_dv h hb h1 h2
theorem p_rem_nn{k:IntKind}{a b:Int}{K:Int->Prop}(h:0<=a)(hb:0<b):(PH C Sg T).ari .rem k a b (@hid _ ⟨K⟩)=K (a%b):=b_rem_nn h hb
theorem p_rem_np{k:IntKind}{a b:Int}{K:Int->Prop}(h:a<=0)(hb:0<b):(PH C Sg T).ari .rem k a b (@hid _ ⟨K⟩)=K (-((-a)%b)):=b_rem_np h hb
theorem p_and1{a:Int}{K:Int->Prop}:(PH C Sg T).ari .and .i64 a 1 (@hid _ ⟨K⟩)=K (a%2):=b_and1
theorem p_conv{a:Int}{K:Int->Prop}(h1:-9223372036854775808<=a)(h2:a<=9223372036854775807):(PH C Sg T).conv .i64 a (@hid _ ⟨K⟩)=K a:=b_conv h1 h2
theorem p_conv8{a:Int}{K:Int->Prop}(h1:0<=a)(h2:a<=255):(PH C Sg T).conv .u8 a (@hid _ ⟨K⟩)=K a:=b_conv8 h1 h2
theorem p_sel_t{a b:Int}{K:Int->Prop}:(PH C Sg T).sel true a b (@hid _ ⟨K⟩)=K a:=b_sel_t
theorem p_sel_f{a b:Int}{K:Int->Prop}:(PH C Sg T).sel false a b (@hid _ ⟨K⟩)=K b:=b_sel_f
theorem p_opt{α:Type}{x:α}{K:α->Prop}:(PH C Sg T).opt (some x) (@hid _ ⟨K⟩)=K x:=b_opt
theorem p_inB{n:Nat}{i:Int}{K:Unit->Prop}(h1:0<=i)(h2:i<(n:Int)):(PH C Sg T).opt (inB n i) (@hid _ ⟨K⟩)=K ():=b_inB h1 h2
theorem p_join{b:List Lf->HL->Prop}{m:(List Lf->HL->Prop)->Prop}:(PH C Sg T).join (@hid _ ⟨b⟩) (@hid _ ⟨m⟩)=m (@hid _ ⟨b⟩):=b_join
theorem p_eqs0{K:Bool->Prop}:(PH C Sg T).eqs [] (@hid _ ⟨K⟩)=K true:=b_eqs0
theorem p_eqs_t{a b:Int}{l:List (Lf×Lf)}{K:Bool->Prop}(h:a=b):(PH C Sg T).eqs ((.i a,.i b) :: l) (@hid _ ⟨K⟩)=(PH C Sg T).eqs l (@hid _ ⟨K⟩):=b_eqs_t h
theorem p_eqs_f{a b:Int}{l:List (Lf×Lf)}{K:Bool->Prop}(h:a≠b):(PH C Sg T).eqs ((.i a,.i b) :: l) (@hid _ ⟨K⟩)=K false:=b_eqs_f h
theorem p_it{F:(List Lf->HL->Prop)->List Lf->HL->Prop}{n:Nat}{ls:List Lf}{h:HL}:itH (@hid _ ⟨F⟩) (n+1) ls h=F (itH (@hid _ ⟨F⟩) n) ls h:=b_it
theorem p_eqsb_t{a b:Bool}{l:List (Lf×Lf)}{K:Bool->Prop}(h:a=b):(PH C Sg T).eqs ((.b a,.b b) :: l) (@hid _ ⟨K⟩)=(PH C Sg T).eqs l (@hid _ ⟨K⟩):=b_eqsb_t h
theorem p_eqsb_tf{l:List (Lf×Lf)}{K:Bool->Prop}:(PH C Sg T).eqs ((.b true,.b false) :: l) (@hid _ ⟨K⟩)=K false:=b_eqsb_tf
theorem p_eqsb_ft{l:List (Lf×Lf)}{K:Bool->Prop}:(PH C Sg T).eqs ((.b false,.b true) :: l) (@hid _ ⟨K⟩)=K false:=b_eqsb_ft
theorem p_mul_1{b:Int}{K:Int->Prop}(h1:-9223372036854775808<=b)(h2:b<=9223372036854775807):(PH C Sg T).ari .mul .i64 1 b (@hid _ ⟨K⟩)=K b:=b_mul_1 h1 h2
theorem p_mul_0{b:Int}{K:Int->Prop}:(PH C Sg T).ari .mul .i64 0 b (@hid _ ⟨K⟩)=K 0:=b_mul_0
theorem p_mul_m{b:Int}{K:Int->Prop}(h1:-9223372036854775808<=-b)(h2:-b<=9223372036854775807):(PH C Sg T).ari .mul .i64 (-1) b (@hid _ ⟨K⟩)=K (-b):=b_mul_m h1 h2
theorem p_mul_r1{b:Int}{K:Int->Prop}(h1:-9223372036854775808<=b)(h2:b<=9223372036854775807):(PH C Sg T).ari .mul .i64 b 1 (@hid _ ⟨K⟩)=K b:=b_mul_r1 h1 h2
theorem p_mul_r0{b:Int}{K:Int->Prop}:(PH C Sg T).ari .mul .i64 b 0 (@hid _ ⟨K⟩)=K 0:=b_mul_r0
theorem p_mul_rm{b:Int}{K:Int->Prop}(h1:-9223372036854775808<=-b)(h2:-b<=9223372036854775807):(PH C Sg T).ari .mul .i64 b (-1) (@hid _ ⟨K⟩)=K (-b):=b_mul_rm h1 h2
theorem p_add_0{b:Int}{K:Int->Prop}(h1:-9223372036854775808<=b)(h2:b<=9223372036854775807):(PH C Sg T).ari .add .i64 0 b (@hid _ ⟨K⟩)=K b:=b_add_0 h1 h2
theorem p_add_r0{b:Int}{K:Int->Prop}(h1:-9223372036854775808<=b)(h2:b<=9223372036854775807):(PH C Sg T).ari .add .i64 b 0 (@hid _ ⟨K⟩)=K b:=b_add_r0 h1 h2
theorem p_add_11{K:Int->Prop}:(PH C Sg T).ari .add .i64 1 1 (@hid _ ⟨K⟩)=K 2:=b_add_11
theorem p_quo_1{a:Int}{K:Int->Prop}(h1:-9223372036854775808<=a)(h2:a<=9223372036854775807):(PH C Sg T).ari .quo .i64 a 1 (@hid _ ⟨K⟩)=K a:=b_quo_1 h1 h2
theorem p_hid2{f:List Lf->HL->Prop}{a:List Lf}{b:HL}:@hid _ ⟨f⟩ a b=f a b:=rfl
theorem p_eqs2_f{a b c d:Int}{K:Bool->Prop}(h:¬(a=c/\b=d)):(PH C Sg T).eqs [(.i a,.i c),(.i b,.i d)] (@hid _ ⟨K⟩)=K false:=by
 show K (bZ _)=K false
 have:bZ [(.i a,.i c),(.i b,.i d)]=false:=by
  rw[Bool.eq_false_iff]
  simpa[bZ,gj]using h
 rw[this]
theorem p_eqs3_f{a b c d e f:Int}{K:Bool->Prop}(h:¬(a=d/\b=e/\c=f)):(PH C Sg T).eqs [(.i a,.i d),(.i b,.i e),(.i c,.i f)] (@hid _ ⟨K⟩)=K false:=by
 show K (bZ _)=K false
 have:bZ [(.i a,.i d),(.i b,.i e),(.i c,.i f)]=false:=by
  rw[Bool.eq_false_iff]
  simpa[bZ,gj]using h
 rw[this]
theorem aW{g:FuncId}{ls rs:List Lf}{h h':HL}{K:List Lf->HL->Prop}(hc:aq C Sg g ls (absH T h) rs (absH T h'))(hk:K rs h'):(PH C Sg T).call g ls h (@hid _ ⟨K⟩):=⟨rs,h',hc,hk⟩
theorem jZ{g:FuncId}{sg:Sig}{ls rs:List Lf}{H H':List HObj}(hc:aq C Sg g ls H rs H')(hs:Sg g=some sg)(xs:List S0)(h1:bm xs sg.ps=true)(h2:bn xs=ls) :
  ri C (.func (.func g) #[] #[]) (ah xs) sg.rs H rs H':=by
 obtain⟨sg',xs',ys,c1,c2,c3,c4⟩:=hc
 rw[hs]at c1
 cases c1
 obtain⟨w1,_⟩:=ca c2.1 h1 (c2.2.1.trans h2.symm)
 rw[w1]at c4
 exact⟨ys,c3,.inl ⟨g,#[],#[],rfl,by simpa using c4⟩⟩
theorem lT{v:Value}{args:List Value}{hs:List SK}{rs:List Lf}{h h':HL}{K:List Lf->HL->Prop}(hc:ri C v args hs (absH T h) rs (absH T h'))(hk:K rs h'):(PH C Sg T).callv v args hs h (@hid _ ⟨K⟩):=⟨rs,h',hc,hk⟩
theorem p_new{o:HObj}{h:HL}{K:Nat->HL->Prop}:(PH C Sg T).new o h (@hid _ ⟨K⟩)=K h.length (h++[.o o]):=rfl
theorem bi{v:Value}{K:Prop}(h:aX v=true)(hk:K):(PH C Sg T).chk v (@hid _ ⟨K⟩):=⟨h,hk⟩
theorem iq{f:Hp}{h:HL}{K:List Value->HL->Prop}{acts:List Act1}{cs:List Value}(e:f.run (getH T h) h.length=some (acts,cs))(hk:K cs (bY h acts)):(PH C Sg T).heap f h (@hid _ ⟨K⟩):=⟨acts,cs,e,hk⟩
theorem kC{f:Pk}{h:HL}{K:List Value->Prop}{cs:List Value}(e:f.run (getH T h)=some cs)(hk:K cs):(PH C Sg T).peek f h (@hid _ ⟨K⟩):=⟨cs,e,hk⟩
def pxs(C:Cfg)(Sg:FuncId->Option Sig)(T:Nat->Site):=And.intro @p_hid2 (And.intro (@p_new _ _ C Sg T) (And.intro (@p_unI _ _ C Sg T) (And.intro (@p_unB _ _ C Sg T) (And.intro (@p_unV _ _ C Sg T) (And.intro (@p_un0 _ _ C Sg T) (And.intro (@p_ucI _ _ C Sg T) (And.intro (@p_ucB _ _ C Sg T) (And.intro (@p_ucV _ _ C Sg T) (And.intro (@p_uc0 _ _ C Sg T) (And.intro (@p_cond_t _ _ C Sg T) (And.intro (@p_cond_f _ _ C Sg T) (And.intro (@p_opt _ _ C Sg T) (And.intro (@p_inB _ _ C Sg T) (And.intro (@p_join _ _ C Sg T) (And.intro (@p_sel_t _ _ C Sg T) (And.intro (@p_sel_f _ _ C Sg T) ((@p_it))))))))))))))))))
def pxc(C:Cfg)(Sg:FuncId->Option Sig)(T:Nat->Site):=And.intro (@p_lss_t _ _ C Sg T) (And.intro (@p_lss_f _ _ C Sg T) (And.intro (@p_leq_t _ _ C Sg T) (And.intro (@p_leq_f _ _ C Sg T) (And.intro (@p_gtr_t _ _ C Sg T) (And.intro (@p_gtr_f _ _ C Sg T) (And.intro (@p_geq_t _ _ C Sg T) (And.intro (@p_geq_f _ _ C Sg T) (And.intro (@p_eql_t _ _ C Sg T) (And.intro (@p_eql_f _ _ C Sg T) (And.intro (@p_neq_t _ _ C Sg T) (And.intro (@p_neq_f _ _ C Sg T) (And.intro (@p_eqs0 _ _ C Sg T) (And.intro (@p_eqs_t _ _ C Sg T) (And.intro (@p_eqs_f _ _ C Sg T) (And.intro (@p_eqs2_f _ _ C Sg T) (And.intro (@p_eqs3_f _ _ C Sg T) (And.intro (@p_eqsb_t _ _ C Sg T) (And.intro (@p_eqsb_tf _ _ C Sg T) ((@p_eqsb_ft _ _ C Sg T))))))))))))))))))))
def pxa(C:Cfg)(Sg:FuncId->Option Sig)(T:Nat->Site):=And.intro (@p_mul_1 _ _ C Sg T) (And.intro (@p_mul_0 _ _ C Sg T) (And.intro (@p_mul_m _ _ C Sg T) (And.intro (@p_mul_r1 _ _ C Sg T) (And.intro (@p_mul_r0 _ _ C Sg T) (And.intro (@p_mul_rm _ _ C Sg T) (And.intro (@p_add_0 _ _ C Sg T) (And.intro (@p_add_r0 _ _ C Sg T) (And.intro (@p_add_11 _ _ C Sg T) (And.intro (@p_quo_1 _ _ C Sg T) (And.intro (@p_add _ _ C Sg T) (And.intro (@p_sub _ _ C Sg T) (And.intro (@p_mul _ _ C Sg T) (And.intro (@p_add8 _ _ C Sg T) (And.intro (@p_sub8 _ _ C Sg T) (And.intro (@p_mul8 _ _ C Sg T) (And.intro (@p_quo_nn _ _ C Sg T) (And.intro (@p_quo_dv _ _ C Sg T) (And.intro (@p_rem_nn _ _ C Sg T) (And.intro (@p_rem_np _ _ C Sg T) (And.intro (@p_and1 _ _ C Sg T) (And.intro (@p_conv _ _ C Sg T) ((@p_conv8 _ _ C Sg T)))))))))))))))))))))))
end
end Sx
end Go.Am

/-
 LOOPS OVER ITERATORS IN THE ALGEBRA OF PROPOSITIONS: the call of the iterator;a round.
-/
namespace Go.Am
namespace Sx
section
variable [Val] [Kno]
variable {C:Cfg} {Sg:FuncId->Option Sig} {T:Nat->Site}
theorem sQ{h:HL}{l κ:Nat}{st:LoopState}{pd:Option Code}{vs:List Value}(e:h[l]? = some (.lp κ st pd vs)):dm (absH T h) l=some { lpOf (T κ) κ vs with state:=st,pending:=pd }:=by
 unfold dm absH
 rw[qav,e]
 rfl
theorem absH_app1(h:HL)(o:HO):absH T (h++[o])=absH T h++[absO T o]:=by simp[absH]
theorem p_rfun{g:FuncId}{first cap:Array Value}{κ:Nat}{vals:List Value}{h h1:HL}{ls rs:List Lf}{K:Option Code->HL->Prop}{κ':Nat}{st:LoopState}{pd:Option Code}{vs:List Value}{sg:Sig}{xs:List S0}
  (hc:aq C Sg g ls (absH T (h++[.lp κ .ready none vals])) rs (absH T h1)) (hs:Sg g=some sg) (h2:bm xs sg.ps=true) (h3:bn xs=ls) (h4:ah xs=first.toList++[.func (.yield h.length) #[] #[]]++cap.toList)
  (hl:h1[h.length]? = some (.lp κ' st pd vs)) (hst:st≠.busy) (hk:K pd (h1.set h.length (.lp κ' .exhausted pd vs))):(PH C Sg T).rfun κ (.func (.func g) first cap) vals h (@hid _ ⟨K⟩):=by
 obtain⟨sg',xs',ys,c1,c2,c3,c4⟩:=hc
 rw[hs]at c1
 cases c1
 have hlen:(absH T h).length=h.length:=ch T h
 obtain⟨w1,_⟩:=ca c2.1 h2 (c2.2.1.trans h3.symm)
 rw[w1,h4,absH_app1]at c4
 refine⟨g,first,cap,dU (ah ys),absH T h1,{ lpOf (T κ') κ' vs with state:=st,pending:=pd },h1.set h.length (.lp κ' .exhausted pd vs),rfl,?_,?_,hst,?_,hk⟩
 ·rw[hlen];exact c4
 ·rw[hlen];exact sQ hl
 ·rw[hlen]
  simp[absH,absO,List.map_set]
theorem pE{h:HL}{l:Nat}{o:HO}:absH T (h.set l o)=(absH T h).set l (absO T o):=by
 unfold absH
 rw[List.map_set]
theorem p_lp1{l κ:Nat}{pd:Option Code}{vs:List Value}{h:HL}{K:HL->Prop}(hl:h[l]? = some (.lp κ .ready pd vs))(hk:K (h.set l (.lp κ .busy pd vs))):(PH C Sg T).lp1 l h (@hid _ ⟨K⟩):=
 ⟨{ lpOf (T κ) κ vs with state:=.ready,pending:=pd },h.set l (.lp κ .busy pd vs),sQ hl,rfl,pE,hk⟩
theorem p_lp2{l κ:Nat}{st:LoopState}{pd:Option Code}{vs:List Value}{h:HL}{K:HL->Prop}(hl:h[l]? = some (.lp κ st pd vs))(hk:K (h.set l (.lp κ .ready none vs))):(PH C Sg T).lp2 l none h (@hid _ ⟨K⟩):=
 ⟨{ lpOf (T κ) κ vs with state:=st,pending:=pd },h.set l (.lp κ .ready none vs),sQ hl,pE,hk⟩
theorem p_callY{l:Nat}{ys:List S0}{b:Bool}{h h':HL}{K:List Lf->HL->Prop}(hu:eG C l (ah ys) (absH T h) (.bool b) (absH T h'))(hk:K [.b b] h'):(PH C Sg T).callv (.func (.yield l) #[] #[]) (ah ys) [.leaf .b] h (@hid _ ⟨K⟩):=
 ⟨[.b b],h',⟨[.leaf (.b b)],⟨rfl,rfl,λx hx=>by
  simp only[qax]at hx
  subst hx
  intro y hy
  simp only[S0.cells,qax]at hy
  subst hy;trivial⟩,.inr ⟨l,rfl,hu⟩⟩,hk⟩
end
end Sx
end Go.Am

/-
 THE SEAT'S CALLS: what is known of them,and how it is shown (over the heaps of runs).
-/
set_option maxRecDepth 100000
namespace Go.Am
open Sx Go.Proofs
theorem gl_cell(g:Nat)(vs:List Value)(h:cc.G g=some vs):vs.all aJ=true:=by
 unfold cc at h
 simp only at h
 split at h<;>first|(cases h;done)|(obtain rfl:=qan h;kernel_rfl)
abbrev P1:Alg Prop HL:=PH cc ae aa
abbrev Cc(g:FuncId)(ls rs:List Lf):Prop:=∀H,aq cc ae g ls H rs H
theorem fk{f:FuncId}{fn:Fn1}(hi:FnIs (xc f) ae f fn){ls:List Lf}{H:HL}{K:List Lf->HL->Prop}(hls:aO ls=true)
  (h:ai P1 (xc f) ae drN fn ls H K):∃rs H',aq cc ae f ls (absH aa H) rs (absH aa H')/\K rs H':=by
 obtain⟨rs,h',a1,_,a3⟩:=ou (X:=xc f) (holds:=id) (abs:=absH aa) (PH_ok cc ae aa) pV hi (dj hls) h
 exact⟨rs,h',a1,a3⟩
theorem cK{f:FuncId}{fn:Fn1}(hi:FnIs (xc f) ae f fn){ls:List Lf}{H:HL}{K:List Lf->HL->Prop}(hls:aY ls)
  (h:ai P1 (xc f) ae drN fn ls H K):∃rs H',aq cc ae f ls (absH aa H) rs (absH aa H')/\K rs H':=by
 obtain⟨rs,h',a1,_,a3⟩:=ou (X:=xc f) (holds:=id) (abs:=absH aa) (PH_ok cc ae aa) pV hi hls h
 exact⟨rs,h',a1,a3⟩
theorem gls0:aY []:=λ_ h=>by cases h
theorem glsI{n:Int}{ls:List Lf}(h:aY ls):aY (.i n :: ls):=λl hl=>by
 rcases qak.1 hl with rfl|hl
 ·trivial
 ·exact h l hl
theorem glsV{x:Value}{ls:List Lf}(hx:aX x=true)(h:aY ls):aY (.v x :: ls):=λl hl=>by
 rcases qak.1 hl with rfl|hl
 ·exact hx
 ·exact h l hl
def qxs:=pxs cc ae aa
def qxc:=pxc cc ae aa
def qxa:=pxa cc ae aa
def qXX:=And.intro qxs (And.intro qxc qxa)
end Go.Am

/-
 SLICES IN THE HEAP: what lies behind them,how they are read and lengthened.
-/
set_option maxRecDepth 100000
namespace Go.Am
namespace Sx
theorem gZ{vs:List Value}{off n:Nat}{cs:List Value}:cut vs off n=some cs↔off+n<=vs.length/\(vs.drop off).take n=cs:=by
 unfold cut
 split
 ·rename_i h;simp[h]
 ·rename_i h;simp[h]
theorem cut_len{vs:List Value}{off n:Nat}{cs:List Value}(h:cut vs off n=some cs):cs.length=n:=by
 obtain⟨h1,rfl⟩:=gZ.1 h
 rw[qaZ,qbQ];omega
theorem cut_cut{vs:List Value}{off n:Nat}{cs:List Value}(h:cut vs off n=some cs){o k:Nat}(hk:o+k<=n):cut vs (off+o) k=some ((cs.drop o).take k):=by
 obtain⟨h1,rfl⟩:=gZ.1 h
 refine gZ.2 ⟨by omega,?_⟩
 rw[List.drop_take,qbB,List.take_take,qco (by omega)]
theorem cut_all{vs:List Value}{n:Nat}(h:vs.length=n):cut vs 0 n=some vs:=gZ.2 ⟨by omega,by rw[qbs,qaU (by omega)]⟩
def Pre(h0 h:HL):Prop:=∃G,h=h0++G
theorem Pre.refl(h:HL):Pre h h:=⟨[],by simp⟩
theorem Pre.trans{a b c:HL}(h:Pre a b)(k:Pre b c):Pre a c:=by
 obtain⟨G,rfl⟩:=h
 obtain⟨G',rfl⟩:=k
 exact⟨G++G',by simp⟩
theorem Pre.app{a b:HL}(h:Pre a b)(G:HL):Pre a (b++G):=h.trans ⟨G,rfl⟩
theorem Pre.len{a b:HL}(h:Pre a b):a.length<=b.length:=by obtain⟨G,rfl⟩:=h;simp
theorem Pre.get{a b:HL}(h:Pre a b){i:Nat}{o:HO}(hi:a[i]? = some o):b[i]? = some o:=by
 obtain⟨G,rfl⟩:=h
 have:i<a.length:=by
  rcases qaw i a.length with h|h
  ·exact h
  ·rw[qae h]at hi;cases hi
 rw[qag this];exact hi
theorem Pre.set{a b:HL}(h:Pre a b){i:Nat}(hi:a.length<=i)(o:HO):Pre a (b.set i o):=by
 obtain⟨G,rfl⟩:=h
 rw[qbR _ _ hi]
 exact⟨_,rfl⟩
def Ptr(h:HL)(p:Value)(cs:List Value):Prop:=∃id o vs e rw,p = .pointer (some ⟨id,o,none⟩)/\h[id]? = some (.o (.cells vs e rw))/\cut vs o cs.length=some cs
def SlC(h:HL)(v:Value)(e n:Nat)(cs:List Value):Prop:=
 cs.length=n*e/\((v = .slice none 0 0/\n=0)∨∃id off cx vs rw,v = .slice (some ⟨id,off,tag e⟩) n cx/\h[id]? = some (.o (.cells vs e rw))/\cut vs off (n*e)=some cs)
def LsH{α:Type}(h:HL)(v:Value)(e:Nat)(enc:α->List Value)(l:List α):Prop:=(∀a∈l,(enc a).length=e)/\SlC h v e l.length (l.flatMap enc)
def Mk(n0:Nat)(h:HL)(v:Value)(e n:Nat)(cs:List Value):Prop:=
 cs.length=n*e/\((v = .slice none 0 0/\n=0)∨∃id,n0<=id/\v = .slice (some ⟨id,0,tag e⟩) n 0/\h[id]? = some (.o (.cells cs e true)))
def MkL{α:Type}(n0:Nat)(h:HL)(v:Value)(e:Nat)(enc:α->List Value)(l:List α):Prop:=(∀a∈l,(enc a).length=e)/\Mk n0 h v e l.length (l.flatMap enc)
def blk:Value->Option Nat
 | .slice (some a) _ _=>some a.block
 |_=>none
theorem Ptr.keep{h h':HL}{p:Value}{cs:List Value}(hp:Ptr h p cs)(hk:∀(j:Nat) o,h[j]? = some o->h'[j]? = some o):Ptr h' p cs:=by
 obtain⟨id,o,vs,e,rw',h1,h2,h3⟩:=hp
 exact⟨id,o,vs,e,rw',h1,hk _ _ h2,h3⟩
theorem SlC.keep{h h':HL}{v:Value}{e n:Nat}{cs:List Value}(hs:SlC h v e n cs)(hk:∀(j:Nat) o,h[j]? = some o->blk v=some j->h'[j]? = some o):SlC h' v e n cs:=by
 obtain⟨h0,h1|⟨id,off,cx,vs,rw',rfl,h2,h3⟩⟩:=hs
 ·exact⟨h0,.inl h1⟩
 ·exact⟨h0,.inr ⟨id,off,cx,vs,rw',rfl,hk _ _ h2 rfl,h3⟩⟩
theorem SlC.pre{h h':HL}{v:Value}{e n:Nat}{cs:List Value}(hs:SlC h v e n cs)(hp:Pre h h'):SlC h' v e n cs:=hs.keep λ_ _ h _=>hp.get h
theorem LsH.keep{α:Type}{h h':HL}{v:Value}{e:Nat}{enc:α->List Value}{l:List α}(hs:LsH h v e enc l)(hk:∀(j:Nat) o,h[j]? = some o->blk v=some j->h'[j]? = some o):LsH h' v e enc l:=⟨hs.1,hs.2.keep hk⟩
theorem LsH.pre{α:Type}{h h':HL}{v:Value}{e:Nat}{enc:α->List Value}{l:List α}(hs:LsH h v e enc l)(hp:Pre h h'):LsH h' v e enc l:=⟨hs.1,hs.2.pre hp⟩
theorem SlC.len{h:HL}{v:Value}{e n:Nat}{cs:List Value}(hs:SlC h v e n cs):lenS v=some (.ofNat n):=by
 obtain⟨_,⟨rfl,rfl⟩|⟨id,off,cx,vs,rw',rfl,_⟩⟩:=hs<;>rfl
theorem LsH.len{α:Type}{h:HL}{v:Value}{e:Nat}{enc:α->List Value}{l:List α}(hs:LsH h v e enc l):lenS v=some (.ofNat l.length):=hs.2.len
theorem Mk.sl{n0:Nat}{h:HL}{v:Value}{e n:Nat}{cs:List Value}(hs:Mk n0 h v e n cs):SlC h v e n cs:=by
 obtain⟨h0,h1|⟨id,_,rfl,h2⟩⟩:=hs
 ·exact⟨h0,.inl h1⟩
 ·exact⟨h0,.inr ⟨id,0,0,cs,true,rfl,h2,cut_all h0⟩⟩
theorem MkL.ls{α:Type}{n0:Nat}{h:HL}{v:Value}{e:Nat}{enc:α->List Value}{l:List α}(hs:MkL n0 h v e enc l):LsH h v e enc l:=⟨hs.1,hs.2.sl⟩
theorem Mk.nil(n0:Nat)(h:HL)(e:Nat):Mk n0 h (.slice none 0 0) e 0 []:=⟨by simp,.inl ⟨rfl,rfl⟩⟩
theorem MkL.nil{α:Type}(n0:Nat)(h:HL)(e:Nat)(enc:α->List Value):MkL n0 h (.slice none 0 0) e enc []:=⟨by simp,Mk.nil n0 h e⟩
theorem LsH.nil{α:Type}(h:HL)(e:Nat)(enc:α->List Value):LsH h (.slice none 0 0) e enc []:=(MkL.nil 0 h e enc).ls
theorem Mk.keep{n0:Nat}{h h':HL}{v:Value}{e n:Nat}{cs:List Value}(hs:Mk n0 h v e n cs)(hk:∀(j:Nat) o,h[j]? = some o->blk v=some j->h'[j]? = some o):Mk n0 h' v e n cs:=by
 obtain⟨h0,h1|⟨id,h1,rfl,h2⟩⟩:=hs
 ·exact⟨h0,.inl h1⟩
 ·exact⟨h0,.inr ⟨id,h1,rfl,hk _ _ h2 rfl⟩⟩
theorem Mk.pre{n0:Nat}{h h':HL}{v:Value}{e n:Nat}{cs:List Value}(hs:Mk n0 h v e n cs)(hp:Pre h h'):Mk n0 h' v e n cs:=hs.keep λ_ _ h _=>hp.get h
theorem MkL.keep{α:Type}{n0:Nat}{h h':HL}{v:Value}{e:Nat}{enc:α->List Value}{l:List α}(hs:MkL n0 h v e enc l)(hk:∀(j:Nat) o,h[j]? = some o->blk v=some j->h'[j]? = some o):MkL n0 h' v e enc l:=⟨hs.1,hs.2.keep hk⟩
theorem MkL.pre{α:Type}{n0:Nat}{h h':HL}{v:Value}{e:Nat}{enc:α->List Value}{l:List α}(hs:MkL n0 h v e enc l)(hp:Pre h h'):MkL n0 h' v e enc l:=⟨hs.1,hs.2.pre hp⟩
theorem gG{α:Type}{e:Nat}{enc:α->List Value}:∀ {l:List α},(∀a∈l,(enc a).length=e)->(l.flatMap enc).length=l.length*e
 | [],_=>by simp
 |a :: l,h=>by
  rw[qbo,qaD,h a qay,gG λb hb=>h b (qao _ hb),qaN,qbj,qb7,Nat.add_comm]
theorem mV{α:Type}{e:Nat}{enc:α->List Value}:∀ {l:List α},(∀a∈l,(enc a).length=e)->∀ {i:Nat} {a:α},l[i]? = some a->((l.flatMap enc).drop (i*e)).take e=enc a
 |b :: l,h,0,a,hi=>by
  simp only[qbc,qat]at hi
  subst hi
  have:=h b qay
  rw[qbS,qbs,qbo,List.take_append_of_le_length (by omega),qaU (by omega)]
 |b :: l,h,i+1,a,hi=>by
  simp only[qbJ]at hi
  have hb:=h b qay
  have:=mV (λb hb=>h b (qao _ hb)) hi
  rw[qbo,qbj,qb7,←this]
  have e1:i*e+e=(enc b).length+i*e:=by omega
  rw[e1,qcw,qct (by omega),qbq,qbK]
 | [],_,_,_,hi=>by simp at hi
theorem SlC.at{h:HL}{v:Value}{e n:Nat}{cs:List Value}(hs:SlC h v e n cs){i:Nat}(hi:i<n):∃p,idS e v (.ofNat i)=some p/\Ptr h p ((cs.drop (i*e)).take e):=by
 obtain⟨h0,⟨rfl,rfl⟩|⟨id,off,cx,vs,rw',rfl,h2,h3⟩⟩:=hs
 ·omega
 ·have hle:i*e+e<=n*e:=by
   have:=qa6 e (show i+1<=n by omega)
   rw[qbj,qb7]at this;exact this
  refine⟨.pointer (some ⟨id,off+i*e,none⟩),?_,id,off+i*e,vs,e,rw',rfl,h2,?_⟩
  ·rw[idS_eq]
   have hh:0<=Int.ofNat i/\Int.ofNat i<(n:Int):=⟨qa3 i,by show(i:Int)<n;omega⟩
   simp only[if_pos hh]
   have:¬(tag e=some 1):=by simp[tag]
   simp only[if_neg this]
   rfl
  ·have hc:=cut_cut h3 hle
   have hl:=cut_len hc
   rw[hl];exact hc
theorem LsH.at{α:Type}{h:HL}{v:Value}{e:Nat}{enc:α->List Value}{l:List α}(hs:LsH h v e enc l){i:Nat}{a:α}(hi:l[i]? = some a):∃p,idS e v (.ofNat i)=some p/\Ptr h p (enc a):=by
 have hlt:i<l.length:=by
  rcases qaw i l.length with h|h
  ·exact h
  ·rw[qae h]at hi;cases hi
 obtain⟨p,h1,h2⟩:=hs.2.at hlt
 rw[mV hs.1 hi]at h2
 exact⟨p,h1,h2⟩
theorem Ptr.fd{h:HL}{p:Value}{cs:List Value}(hp:Ptr h p cs)(o k:Nat)(hk:o+k<=cs.length):∃p',fdP o p=some p'/\Ptr h p' ((cs.drop o).take k):=by
 obtain⟨id,o',vs,e,rw',rfl,h2,h3⟩:=hp
 refine⟨_,rfl,id,o'+o,vs,e,rw',rfl,h2,?_⟩
 have hc:=cut_cut h3 hk
 rw[cut_len hc];exact hc
section
variable [Val] [Kno]
theorem eP{T:Nat->Site}{h:HL}{i:Nat}{o:HObj}(hi:h[i]? = some (.o o)):getH T h i=some o:=by
 unfold getH;rw[hi];rfl
theorem Ptr.ld{T:Nat->Site}{h:HL}{p:Value}{cs:List Value}(hp:Ptr h p cs){n:Nat}(hn:cs.length=n):(Pk.ld n p).run (getH T h)=some cs:=by
 obtain⟨id,o,vs,e,rw',rfl,h2,h3⟩:=hp
 subst hn
 show(match (none:Option Nat)with|none=>(fv (getH T h) id).bind λvs=>cut vs o cs.length|some _=>none)=_
 unfold fv
 rw[eP h2]
 exact h3
theorem Ptr.lg{C:Cfg}{T:Nat->Site}{h:HL}{p:Value}{cs:List Value}(hp:Ptr h p cs){n:Nat}(hn:cs.length=n):(Pk.lg C n p).run (getH T h)=some cs:=by
 obtain⟨id,o,vs,e,rw',rfl,h2,h3⟩:=hp
 subst hn
 show(fv (getH T h) id).bind (λvs=>cut vs o cs.length)=_
 unfold fv
 rw[eP h2]
 exact h3
theorem slG_sl{C:Cfg}{T:Nat->Site}{h:HL}{v:Value}{e n:Nat}{cs:List Value}(hs:SlC h v e n cs):slG C e (getH T h) v=some (cs,n):=by
 obtain⟨h0,⟨rfl,rfl⟩|⟨id,off,cx,vs,rw',rfl,h2,h3⟩⟩:=hs
 ·simp only[qbS,qa2]at h0
  subst h0;rfl
 ·unfold slG
  have:¬(tag e=some 1):=by simp[tag]
  simp only[if_neg this,if_true]
  rw[eP h2]
  simp only[if_true]
  rw[h3];rfl
variable {C:Cfg} {Sg:FuncId->Option Sig} {T:Nat->Site}
theorem ap_mk{n0:Nat}{h0 h:HL}{v x:Value}{e n k bytes:Nat}{cs new:List Value}(hp:Pre h0 h)(h0n:h0.length=n0)(hm:Mk n0 h v e n cs)(hx:SlC h x e k new)(hs:cf (n+k) bytes=true) :
  ∃acts v',(Hp.ap C e bytes v x).run (getH T h) h.length=some (acts,[v'])/\Pre h0 (bY h acts)/\Mk n0 (bY h acts) v' e (n+k) (cs++new)/\
   (∀(j:Nat) o,h[j]? = some o->blk v≠some j->(bY h acts)[j]? = some o)/\(blk v'=blk v∨blk v'=none∨∃j,blk v'=some j/\h.length<=j):=by
 obtain⟨c0,hm⟩:=hm
 have c1:=hx.1
 have c3:(cs++new).length=(n+k)*e:=by rw[qaD,c0,c1,qbj]
 have hslg:=slG_sl (C:=C) (T:=T) hx
 rcases hm with⟨rfl,rfl⟩|⟨id,hid,rfl,hg⟩
 ·simp only[qbS,qa2]at c0
  subst c0
  by_cases hk:k=0
  ·subst hk
   simp only[qbS,qa2]at c1
   subst c1
   refine⟨[],.slice none 0 0,?_,hp,Mk.nil _ _ _,λj o hj _=>hj,.inl rfl⟩
   show apG C e bytes (.slice none 0 0) x (getH T h) h.length=_
   unfold apG
   rw[hslg]
   rfl
  ·refine⟨[.push (.cells new e true)],.slice (some ⟨h.length,0,tag e⟩) k 0,?_,hp.app _,?_,λj o hj _=>?_,.inr (.inr ⟨h.length,rfl,qaz _⟩)⟩
   ·show apG C e bytes (.slice none 0 0) x (getH T h) h.length=_
    unfold apG
    rw[hslg]
    simp only[if_neg hk]
    rw[qaP]at hs
    rw[if_pos hs]
   ·rw[qaP,qbq]
    refine⟨by simpa using c1,.inr ⟨h.length,by have:=hp.len;omega,rfl,?_⟩⟩
    simp[bY,Act1.onH]
   ·exact Pre.get ⟨_,rfl⟩ hj
 ·by_cases hk:k=0
  ·subst hk
   simp only[qbS,qa2]at c1
   subst c1
   refine⟨[],.slice (some ⟨id,0,tag e⟩) n 0,?_,hp,⟨c3,.inr ⟨id,hid,rfl,by simpa[bY]using hg⟩⟩,λj o hj _=>hj,.inl rfl⟩
   show apG C e bytes (.slice (some ⟨id,0,tag e⟩) n 0) x (getH T h) h.length=_
   unfold apG
   rw[hslg]
   simp only[ne_eq,not_true_eq_false,if_false]
   rw[eP hg]
   simp only[ne_eq,not_true_eq_false,if_false]
   rw[cut_all c0]
   rfl
  ·have hlt:id<h.length:=by
    rcases qaw id h.length with h1|h1
    ·exact h1
    ·rw[qae h1]at hg;cases hg
   refine⟨[.set id .dead,.push (.cells (cs++new) e true)],.slice (some ⟨h.length,0,tag e⟩) (n+k) 0,?_,?_,?_,λj o hj hb=>?_,.inr (.inr ⟨h.length,rfl,qaz _⟩)⟩
   ·show apG C e bytes (.slice (some ⟨id,0,tag e⟩) n 0) x (getH T h) h.length=_
    unfold apG
    rw[hslg]
    simp only[ne_eq,not_true_eq_false,if_false]
    rw[eP hg]
    simp only[ne_eq,not_true_eq_false,if_false]
    rw[cut_all c0]
    simp only[if_neg hk,qc4]
    rw[if_pos hs]
   ·exact(hp.set (by omega) _).app _
   ·refine⟨c3,.inr ⟨h.length,by have:=hp.len;omega,rfl,?_⟩⟩
    simp[bY,Act1.onH]
   ·have hne:id≠j:=λhh=>hb (by subst hh;rfl)
    refine Pre.get (a:=h.set id (.o .dead)) ⟨_,rfl⟩ ?_
    rw[qap hne];exact hj
theorem ss{n0:Nat}{h:HL}{v:Value}{e n:Nat}{cs:List Value}(hm:Mk n0 h v e n cs){j:Nat}(hb:blk v=some j):n0<=j/\j<h.length:=by
 obtain⟨_,⟨rfl,_⟩|⟨id,h1,rfl,hg⟩⟩:=hm
 ·cases hb
 ·cases hb
  refine⟨h1,?_⟩
  rcases qaw id h.length with h2|h2
  ·exact h2
  ·rw[qae h2]at hg;cases hg
theorem tw{α:Type}{h0 h:HL}{v:Value}{e bytes:Nat}{enc:α->List Value}{l:List α}{a:α}{K:List Value->HL->Prop}{new:List Value}{m:Nat}{sp:Option Nat}(hp:Pre h0 h)(hm:MkL h0.length h v e enc l)(hn:new=enc a)(hl:(enc a).length=e)(hmm:m=h.length)(hsp:sp=some (e+10))
  (hs:cf (l.length+1) bytes=true)
  (hk:∀v' h',Pre h0 h'->MkL h0.length h' v' e enc (l++[a])->aX v'=true->(∀(j:Nat) o,h[j]? = some o->blk v≠some j->h'[j]? = some o)->(blk v'=blk v∨∃j,blk v'=some j/\h.length<=j)->K [v'] h') :
  (PH C Sg T).heap (.ap C e bytes v (.slice (some ⟨m,0,sp⟩) 1 2)) (h++[.o (.cells new e true)]) (@hid _ ⟨K⟩):=by
 subst hn hmm hsp
 have hx:SlC (h++[HO.o (.cells (enc a) e true)]) (.slice (some ⟨h.length,0,tag e⟩) 1 2) e 1 (enc a):=by
  refine⟨by omega,.inr ⟨h.length,0,2,enc a,true,rfl,by simp,cut_all (by omega)⟩⟩
 have hm':Mk h0.length (h++[HO.o (.cells (enc a) e true)]) v e l.length (l.flatMap enc):=hm.2.pre ⟨_,rfl⟩
 obtain⟨acts,v',a1,a2,a3,a4,a5⟩:=ap_mk (C:=C) (T:=T) (hp.app [HO.o (.cells (enc a) e true)]) rfl hm' hx hs
 refine iq a1 (hk v' _ a2 ⟨?_,?_⟩ ?_ ?_ ?_)
 ·intro b hb
  rcases qaK.1 hb with hb|hb
  ·exact hm.1 b hb
  ·simp only[qax]at hb;subst hb;exact hl
 ·rw[qcE,qaD]
  simpa using a3
 ·obtain⟨_,⟨rfl,_⟩|⟨id,_,rfl,_⟩⟩:=a3
  ·rfl
  ·simp[aX,noLoc,bh,cz,bO,aZ,aF,tag]
 ·intro j o hj hb
  exact a4 j o (Pre.get ⟨_,rfl⟩ hj) hb
 ·rcases a5 with h1|h1|⟨j,h1,h2⟩
  ·exact .inl h1
  ·obtain⟨q1,⟨_,q2⟩|⟨id,_,rfl,_⟩⟩:=a3
   ·omega
   ·cases h1
  ·exact .inr ⟨j,h1,by simp at h2;omega⟩
end
end Sx
end Go.Am

/-
 RULES FOR LOOPS AND SLICES.
-/
set_option maxRecDepth 100000
namespace Go.Am
namespace Sx
theorem Ptr.good{h:HL}{p:Value}{cs:List Value}(hp:Ptr h p cs):aX p=true:=by
 obtain⟨id,o,vs,e,rw',rfl,_⟩:=hp
 simp[aX,noLoc,bh,cz,bO,aZ,aF]
theorem SlC.good{h:HL}{v:Value}{e n:Nat}{cs:List Value}(hs:SlC h v e n cs):aX v=true:=by
 obtain⟨_,⟨rfl,_⟩|⟨id,off,cx,vs,rw',rfl,_⟩⟩:=hs
 ·rfl
 ·simp[aX,noLoc,bh,cz,bO,aZ,aF,tag]
theorem LsH.good{α:Type}{h:HL}{v:Value}{e:Nat}{enc:α->List Value}{l:List α}(hs:LsH h v e enc l):aX v=true:=hs.2.good
section
variable [Val] [Kno] {C:Cfg} {Sg:FuncId->Option Sig} {T:Nat->Site}
theorem hidL{F:(List Lf->HL->Prop)->List Lf->HL->Prop}{s:List Lf->HL->Prop}{l:List Lf}{h:HL}(hf:F s l h):@hid _ ⟨F⟩ s l h:=hf
theorem ew{σ:Type}{F:(List Lf->HL->Prop)->List Lf->HL->Prop}(n:Nat)(S:Nat->σ->List Lf)(HP:Nat->σ->HL)(Inv:Nat->σ->Prop){j0:Nat}{s0:σ}{ls:List Lf}{h:HL}(hls:ls=S j0 s0)(hh:h=HP j0 s0)(hj:j0<=n)(hi:Inv j0 s0)
  (step:∀j s,j<=n->Inv j s->∀self:List Lf->HL->Prop,(∀s',j<n->Inv (j+1) s'->self (S (j+1) s') (HP (j+1) s'))->F self (S j s) (HP j s)):(PH C Sg T).loop (@hid _ ⟨F⟩) ls h:=by
 subst hls hh
 refine db (m:=n - j0) (λm ls h=>∃j s,ls=S j s/\h=HP j s/\j<=n/\m=n - j/\Inv j s) ⟨j0,s0,rfl,rfl,hj,rfl,hi⟩ ?_
 rintro m ls h ⟨j,s,rfl,rfl,hj,rfl,hi⟩ self hself
 exact hidL (step j s hj hi self λs' hlt hi'=>hself (n - (j+1)) _ _ (by omega) ⟨j+1,s',rfl,rfl,by omega,rfl,hi'⟩)
theorem rI{F:(List Lf->HL->Prop)->List Lf->HL->Prop}(n:Nat)(Inv:Nat->Prop){j0:Nat}{h:HL}{ls:List Lf}(hls:ls=[.i (Int.ofNat j0)])(hj:j0<=n)(hi:Inv j0)
  (step:∀j,j<=n->Inv j->∀self:List Lf->HL->Prop,(j<n->Inv (j+1)->self [.i (Int.ofNat j+1)] h)->F self [.i (Int.ofNat j)] h):(PH C Sg T).loop (@hid _ ⟨F⟩) ls h:=
 ew (σ:=Unit) n (λj _=>[.i (Int.ofNat j)]) (λ_ _=>h) (λj _=>Inv j) (s0:=()) hls rfl hj hi λj _ hj hi self hs=>step j hj hi self (λa b=>hs () a b)
theorem gm{α:Type}{h:HL}{v:Value}{e:Nat}{enc:α->List Value}{l:List α}{K:Int->Prop}(hs:LsH h v e enc l)(hk:K (Int.ofNat l.length)):(PH C Sg T).opt (lenS v) (@hid _ ⟨K⟩):=bw hs.len hk
theorem fQ{α:Type}{h:HL}{v:Value}{e:Nat}{enc:α->List Value}{l:List α}{i:Nat}{a:α}{n:Int}{K:List Value->Prop}(hs:LsH h v e enc l)(hn:n=Int.ofNat i)(hi:l[i]? = some a)(hk:K (enc a)) :
  (PH C Sg T).opt (idS e v n) (@hid _ ⟨λx=>(PH C Sg T).peek (.lg C e x) h (@hid _ ⟨K⟩)⟩):=by
 subst hn
 obtain⟨p,h1,h2⟩:=hs.at hi
 exact bw h1 (kC (h2.lg (hs.1 a (qai hi))) hk)
theorem uM{α:Type}{h:HL}{v:Value}{e:Nat}{enc:α->List Value}{l:List α}{i:Nat}{a:α}{n:Int}{o k:Nat}{cs:List Value}{K:List Value->Prop}(hs:LsH h v e enc l)(hn:n=Int.ofNat i)(hi:l[i]? = some a)(hcs:cs=((enc a).drop o).take k)(hok:o+k<=e)(hk:K cs) :
  (PH C Sg T).opt (idS e v n) (@hid _ ⟨λx=>(PH C Sg T).opt (fdP o x) (@hid _ ⟨λy=>(PH C Sg T).chk y (@hid _ ⟨(PH C Sg T).peek (.lg C k y) h (@hid _ ⟨K⟩)⟩)⟩)⟩):=by
 subst hn hcs
 obtain⟨p,h1,h2⟩:=hs.at hi
 have he:=hs.1 a (qai hi)
 have hok:o+k<=(enc a).length:=by omega
 have hlen:(((enc a).drop o).take k).length=k:=by rw[qaZ,qbQ];omega
 obtain⟨q,h3,h4⟩:=h2.fd o k hok
 refine bw h1 (bw h3 ?_)
 show aX q=true/\_
 exact⟨h4.good,kC (h4.lg hlen) hk⟩
end
end Sx
end Go.Am

/-
 CALLS THAT MAKE BLOCKS: what a run over some blocks alone answers and makes,holds whatever else there is: the new blocks come behind.
-/
namespace Go.Am
namespace Sx
section
variable [Val]
def rE:HObj->HObj
 | .cells vs e true=>if vs.all flat then .cells vs e true else .dead
 |_=>.dead
theorem rF{o:HObj}(h:(rE o).alive=true):∃vs e,o = .cells vs e true/\vs.all flat=true/\rE o = .cells vs e true:=by
 match o,h with
 | .cells vs e true,h=>
  unfold rE at h
  by_cases hf:vs.all flat=true
  ·exact⟨vs,e,rfl,hf,by show(if vs.all flat=true then HObj.cells vs e true else .dead)=_;rw[if_pos hf]⟩
  ·simp only[if_neg hf]at h;cases h
 | .cells _ _ false,h=>cases h
 | .map ..,h=>cases h
 | .loop ..,h=>cases h
 | .siter ..,h=>cases h
 | .dead,h=>cases h
def iB(n0 n:Nat)(σ:Nat->Nat):Nat->Nat:=λj=>if j<n0 then σ j else n+(j - n0)
theorem vr_ren' [Glo]{n:Nat}{τ:Nat->Nat}{mu' mu'':HMap}(hmu:∀j,j<n->mu'' (τ j)=mu' j){v c:Value}(hv:OkV n v)(h:VR noL mu' v c):VR noL mu'' (renV τ v) c:=by
 rcases hv with⟨h1,h2⟩|⟨j,off,len,cx,e,hj,rfl⟩
 ·rw[h2,cb h1 h]
  exact .of_flat h1
 ·show VR noL mu'' (.slice (some ⟨τ j,off,tag e⟩) len cx) c
  generalize ht:tag e=t at h ⊢
  cases h with
  |hslice q1 q2 q3 q4=>exact .hslice ((hmu j hj).trans q1) q2 q3 q4
  |hslice0 q1=>exact .hslice0 q1
  |gslice _=>simp[tag]at ht
  |gslice0=>simp[tag]at ht
  |scalar q=>simp[scalar]at q
theorem vr_sl' [Glo]{n:Nat}{τ:Nat->Nat}{mu' mu'':HMap}(hmu:∀j,j<n->mu'' (τ j)=mu' j){l:SL}{c:Value}(hl:OkL n l.lf)(h:VR noL mu' l.val c):VR noL mu'' (jR τ l).val c:=by
 cases l with
 |v x=>exact vr_ren' hmu hl h
 |i k m=>
  have hf:flat (Value.int k m)=true:=rfl
  have h:VR noL mu' (.int k m) c:=h
  rw[cb hf h];exact .of_flat hf
 |b t=>
  have hf:flat (Value.bool t)=true:=rfl
  have h:VR noL mu' (.bool t) c:=h
  rw[cb hf h];exact .of_flat hf
 |l t=>
  have hf:flat (Value.bool t)=true:=rfl
  have h:VR noL mu' (.bool t) c:=h
  rw[cb hf h];exact .of_flat hf
theorem vr_s0' [Glo]{n:Nat}{τ:Nat->Nat}{mu' mu'':HMap}(hmu:∀j,j<n->mu'' (τ j)=mu' j){x:S0}{c:Value}(hx:∀l∈x.cells,OkL n l.lf)(h:VR noL mu' x.val c):VR noL mu'' (renS τ x).val c:=by
 cases x with
 |leaf l=>exact vr_sl' hmu (hx l (by simp[S0.cells])) h
 |agg cs=>
  have h:VR noL mu' (.agg ⟨cs.map SL.val⟩) c:=h
  generalize ha:(⟨cs.map SL.val⟩ : Array Value)=a at h
  cases h with
  |scalar q=>simp[scalar]at q
  |agg hs h=>
   subst ha
   refine .agg (by simpa using hs) λi x y hx' hy=>?_
   have hi:((cs.map (jR τ)).map SL.val)[i]? = some x:=by simpa using hx'
   rw[qav,qav]at hi
   cases e:cs[i]? with
   |none=>rw[e]at hi;cases hi
   |some l=>
    rw[e]at hi
    cases hi
    exact vr_sl' hmu (hx l (qai e)) (h i _ y (by simp[e]) hy)
theorem vr_pack' [Glo]{n:Nat}{τ:Nat->Nat}{mu' mu'':HMap}(hmu:∀j,j<n->mu'' (τ j)=mu' j){xs:List S0}{c:Value}(hx:∀x∈xs,∀l∈x.cells,OkL n l.lf)(h:VR noL mu' (dU (ah xs)) c):VR noL mu'' (dU (ah (xs.map (renS τ)))) c:=by
 match xs,hx,h with
 | [],_,h=>
  have h:VR noL mu' undef c:=h
  have hf:flat undef=true:=rfl
  rw[cb hf h]
  exact .of_flat hf
 | [x],hx,h=>exact vr_s0' hmu (hx x qay) h
 |x :: y :: l,hx,h=>
  have h:VR noL mu' (.tuple ⟨ah (x :: y :: l)⟩) c:=h
  show VR noL mu'' (.tuple ⟨ah ((x :: y :: l).map (renS τ))⟩) c
  generalize ha:(⟨ah (x :: y :: l)⟩ : Array Value)=a at h
  have hsz:a.size=l.length+2:=by subst ha;simp[ah]
  cases h with
  |scalar q=>simp[scalar]at q
  |poison _=>exact absurd hsz (by simp)
  |sym _=>exact absurd hsz (by simp)
  |tuple hn hs h=>
   subst ha
   refine .tuple (by simp[ah]) (by simpa[ah]using hs) λi x' y' hx' hy=>?_
   have hi:(ah ((x :: y :: l).map (renS τ)))[i]? = some x':=by simpa using hx'
   unfold ah at hi
   rw[qav,qav]at hi
   cases e:(x :: y :: l)[i]? with
   |none=>rw[e]at hi;cases hi
   |some s=>
    rw[e]at hi
    cases hi
    exact vr_s0' hmu (hx s (qai e)) (h i _ y' (by
     show(⟨(x :: y :: l).map S0.val⟩ : Array Value)[i]? = _
     rw[List.getElem?_toArray,qav,e];rfl) hy)
theorem objR_some [Glo]{mu:HMap}{p:Pl}{x:Option Obj}{o:HObj}(ha:o.alive=true)(h:objR mu p x o):∃y,x=some y:=by
 cases o with
 |cells vs e rw=>obtain⟨_,_,_,c,e,fr,h,_⟩:=h;exact⟨_,h⟩
 |map es c=>obtain⟨es',h,_⟩:=h;exact⟨_,h⟩
 |loop r=>obtain⟨L,h,_⟩:=h;exact⟨_,h⟩
 |siter s p=>exact⟨_,h⟩
 |dead=>cases ha
end
section
variable [Val]
theorem frame_alI(kp:Nat->HObj->HObj)(hkp:∀k o,(kp k o).alive=true->∃vs e,o = .cells vs e true/\vs.all flat=true/\kp k o = .cells vs e true){C:Cfg}(hG:∀g vs,C.G g=some vs->vs.all gfl=true){f:FuncId}{args0 args:List Value}{r0 r:Value}{H0 H' H:List HObj}(σ:Nat->Nat)(h:dg C f args0 H0 r0 H')
  (h0:∀(j:Nat) (o:HObj),H0[j]? = some o->∃vs e rw,o = .cells vs e false/\vs.all flat=true/\H[σ j]? = some (.cells vs e rw))
  (ha:∀ [Glo] (mu mu0:HMap) (cs:List Value),(∀j,j<H0.length->mu0 j=mu (σ j))->VRs noL mu args cs->VRs noL mu0 args0 cs)
  (hr:∀ [Glo] (mu' mu'':HMap) (c:Value),(∀j,j<H'.length->mu'' (iB H0.length H.length σ j)=mu' j)->VR noL mu' r0 c->VR noL mu'' r c):dg C f args H r (H++(H'.drop H0.length).mapIdx kp):=by
 intro _ base mu w args' hb hargs hW cs
 let mu0:HMap:=λj=>if j<H0.length then mu (σ j)else none
 have hno:∀b,¬Own mu0 H0 b:=by
  rintro b ⟨id,o,p,h1,h2,_⟩
  obtain⟨vs,e,rw',rfl,_⟩:=h0 id o h1
  cases h2
 have hmu:∀(id:Nat) (o:HObj),H0[id]? = some o->mu0 id=mu (σ id):=by
  intro id o h1
  have:id<H0.length:=by
   rcases qaw id H0.length with h|h
   ·exact h
   ·rw[qae h]at h1;cases h1
  simp only[mu0,if_pos this]
 have hobj:∀(id:Nat) (o:HObj),H0[id]? = some o->∃p,mu0 id=some p/\objR mu0 p w.heap[p.b]? o:=by
  intro id o h1
  obtain⟨vs,e,rw',rfl,hf,hH⟩:=h0 id o h1
  obtain⟨p,h3,h4⟩:=hW.obj (σ id) _ hH rfl
  obtain⟨g1,g2,g3,c,e',fr,g4,g5,g6,g7⟩:=h4
  refine⟨p,by rw[hmu id _ h1];exact h3,g1,g2,g3,c,e',fr,g4,g5,λe=>by(cases e),λi v hv=>?_⟩
  obtain⟨v',q1,q2⟩:=g7 i v hv
  have h2:flat v=true:=qab.1 hf v (qai hv)
  refine⟨v',q1,?_⟩
  rw[cb h2 q2]
  exact .of_flat h2
 have hin:∀(p:Pl) (o:HObj) (m:HMap),o.alive=true->objR m p w.heap[p.b]? o->p.b<w.heap.size:=by
  intro p o m ha h
  obtain⟨y,hy⟩:=objR_some ha h
  rcases qaw p.b w.heap.size with h|h
  ·exact h
  ·rw[qaT h]at hy;cases hy
 have hW0:WR C w.heap.size mu0 H0 w:=by
  refine⟨λid o h1 _=>hobj id o h1,λi j oi oj pi pj h1 h2 h3=>?_,λi o p h1 h2=>?_,λi o p h1 ha' _ h2=>?_,λid h1=>?_,λg vs hg=>?_⟩
  ·obtain⟨vs,e,rw',rfl,_⟩:=h0 i oi h1
   cases h3
  ·obtain⟨vs,e,rw',rfl,_⟩:=h0 i o h1
   cases h2
  ·obtain⟨p',h3,h4⟩:=hobj i o h1
   rw[h2]at h3
   cases h3
   exact hin _ _ _ ha' h4
  ·simp only[mu0,if_neg (qcZ.2 h1)]
  ·obtain⟨h1,h2,c,e,fr,h3,h4⟩:=hW.glob g vs hg
   exact⟨by omega,h2,c,e,fr,h3,ie (hG g vs hg) h4⟩
 have hargs0:VRs noL mu0 args0 args'.toList:=ha mu mu0 _ (λj hj=>by simp only[mu0,if_pos hj]) hargs
 obtain⟨v,mu',w',a1,a2,a3,a4,a5⟩:=h _ w.heap.size mu0 w args' (qaz _) hargs0 hW0 cs
 have hkeep:∀(b:Nat) x,w.heap[b]? = some x->w'.heap[b]? = some x:=by
  intro b x hx
  have hlt:b<w.heap.size:=by
   rcases qaw b w.heap.size with h|h
   ·exact h
   ·rw[qaT h]at hx;cases hx
  rw[a3.keep b hlt (hno b)];exact hx
 let mu2:HMap:=λid=>if id<H.length then mu id else mu' (H0.length+(id - H.length))
 have hold:∀id,id<H.length->mu2 id=mu id:=λid hi=>by simp only[mu2,if_pos hi]
 have hnew:∀k,mu2 (H.length+k)=mu' (H0.length+k):=λk=>by
  simp only[mu2,if_neg (qcZ.2 (Nat.le_add_right H.length k)),qbK]
 have hlen:=a3.len
 have hmono:∀i p,mu i=some p->mu2 i=some p:=by
  intro i p hp
  rw[hold i];exact hp
  rcases qaw i H.length with h|h
  ·exact h
  ·rw[hW.dom i h]at hp;cases hp
 have hbeh:∀(id:Nat) (o:HObj),(H++(H'.drop H0.length).mapIdx kp)[id]? = some o->¬id<H.length->o.alive=true->
   ∃k vs e,id=H.length+k/\H'[H0.length+k]? = some (.cells vs e true)/\vs.all flat=true/\o = .cells vs e true:=by
  intro id o ho hid hal
  rw[qam (by omega),List.getElem?_mapIdx,qa0]at ho
  obtain⟨o',h1,rfl⟩:=qac.1 ho
  obtain⟨vs,e,rfl,hf,e2⟩:=hkp _ _ hal
  exact⟨id - H.length,vs,e,by omega,h1,hf,e2⟩
 refine⟨v,mu2,w',?_,?_,?_,a4,a5⟩
 ·refine hr mu' mu2 v (λj hj=>?_) a1
  unfold iB
  by_cases hj0:j<H0.length
  ·rw[if_pos hj0]
   obtain⟨vs,e,rw',_,_,hH⟩:=h0 j _ (qaA hj0)
   have:σ j<H.length:=by
    rcases qaw (σ j) H.length with h|h
    ·exact h
    ·rw[qae h]at hH;cases hH
   rw[hold _ this,a3.same j hj0]
   simp only[mu0,if_pos hj0]
  ·rw[if_neg hj0,hnew,show H0.length+(j - H0.length)=j by omega]
 ·refine⟨λid o h1 h2=>?_,λi j oi oj pi pj h1 h2 h3 h4 h5 h6 h7=>?_,λi o p h1 h2 h3=>?_,λi o p h1 h2 h3 h4=>?_,λid h1=>?_,λg vs hg=>?_⟩
  ·by_cases hid:id<H.length
   ·rw[qag hid]at h1
    obtain⟨p,h3,h4⟩:=hW.obj id o h1 h2
    exact⟨p,hmono _ _ h3,(lL (hkeep p.b) h4).mono hmono⟩
   ·obtain⟨k,vs,e,rfl,h3,hf,rfl⟩:=hbeh id o h1 hid h2
    obtain⟨p,h4,g1,g2,g3,c,e',fr,g4,g5,g6,g7⟩:=a2.obj _ _ h3 rfl
    refine⟨p,by rw[hnew];exact h4,g1,g2,g3,c,e',fr,g4,g5,g6,λi v hv=>?_⟩
    obtain⟨v',q1,q2⟩:=g7 i v hv
    have hfv:flat v=true:=qab.1 hf v (qai hv)
    refine⟨v',q1,?_⟩
    rw[cb hfv q2]
    exact .of_flat hfv
  ·by_cases hi:i<H.length
   ·rw[qag hi]at h1
    rw[hold i hi]at h6
    by_cases hj:j<H.length
    ·rw[qag hj]at h2
     rw[hold j hj]at h7
     exact hW.inj i j oi oj pi pj h1 h2 h3 h4 h5 h6 h7
    ·obtain⟨k,vs,e,rfl,q1,hf,rfl⟩:=hbeh j oj h2 hj h4
     rw[hnew]at h7
     have hb2:=a2.own _ _ _ q1 rfl h7
     obtain⟨p,h8,h9⟩:=hW.obj i oi h1 (aH h3)
     rw[h6]at h8;cases h8
     have:=hin _ _ _ (aH h3) h9
     omega
   ·obtain⟨k,vs,e,rfl,q1,hf,rfl⟩:=hbeh i oi h1 hi (aH h3)
    rw[hnew]at h6
    have hb2:=a2.own _ _ _ q1 rfl h6
    by_cases hj:j<H.length
    ·rw[qag hj]at h2
     rw[hold j hj]at h7
     obtain⟨p,h8,h9⟩:=hW.obj j oj h2 h4
     rw[h7]at h8;cases h8
     have:=hin _ _ _ h4 h9
     omega
    ·obtain⟨k2,vs2,e2,rfl,q2,hf2,rfl⟩:=hbeh j oj h2 hj h4
     rw[hnew]at h7
     exact a2.inj _ _ _ _ _ _ q1 q2 rfl rfl (by omega) h6 h7
  ·by_cases hi:i<H.length
   ·rw[qag hi]at h1
    rw[hold i hi]at h3
    exact hW.own i o p h1 h2 h3
   ·obtain⟨k,vs,e,rfl,q1,hf,rfl⟩:=hbeh i o h1 hi (aH h2)
    rw[hnew]at h3
    have:=a2.own _ _ _ q1 rfl h3
    omega
  ·by_cases hi:i<H.length
   ·rw[qag hi]at h1
    rw[hold i hi]at h4
    exact hW.ro i o p h1 h2 h3 h4
   ·obtain⟨k,vs,e,rfl,q1,hf,rfl⟩:=hbeh i o h1 hi h2
    cases h3
  ·rw[qaD,List.length_mapIdx,qbQ]at h1
   have:¬id<H.length:=by omega
   simp only[mu2,if_neg this]
   exact a2.dom _ (by omega)
  ·obtain⟨h1,h2,c,e,fr,h3,h4⟩:=hW.glob g vs hg
   exact⟨h1,h2,c,e,fr,hkeep _ _ h3,ie (hG g vs hg) h4⟩
 ·refine⟨by simp,λid hid=>hold id hid,a3.size,λb hb _=>a3.keep b hb (hno b),λb hb=>?_,a3.os,a3.tape,a3.output⟩
  obtain⟨id,o,p,q1,q2,q3,rfl⟩:=hb
  by_cases hid:id<H.length
  ·rw[qag hid]at q1
   rw[hold id hid]at q3
   exact .inr ⟨id,o,p,q1,q2,q3,rfl⟩
  ·obtain⟨k,vs,e,rfl,q4,hf,rfl⟩:=hbeh id o q1 hid (aH q2)
   rw[hnew]at q3
   exact .inl (a2.own _ _ _ q4 rfl q3)
theorem call_alI(kp:Nat->HObj->HObj)(hkp:∀k o,(kp k o).alive=true->∃vs e,o = .cells vs e true/\vs.all flat=true/\kp k o = .cells vs e true){C:Cfg}{N:FuncId->Option Nat}{Sg:FuncId->Option Sig}(hm:C.P.follows .mixedOrders=true)(hG:∀g vs,C.G g=some vs->vs.all gfl=true){g:FuncId}(hn:N g=none){ls0 rs:List Lf}{H0 H' H:List HObj}(σ:Nat->Nat)
  (h:let _:Kno:=KnoC C N;aq C Sg g ls0 H0 rs H')
  (h0:∀(j:Nat) (o:HObj),H0[j]? = some o->∃vs e rw,o = .cells vs e false/\vs.all flat=true/\H[σ j]? = some (.cells vs e rw))
  (hl:∀l∈ls0,OkL H0.length l) (hrl:∀l∈rs,OkL H'.length l):let _:Kno:=KnoC C N;aq C Sg g (ls0.map (renL σ)) H (rs.map (renL (iB H0.length H.length σ))) (H++(H'.drop H0.length).mapIdx kp):=by
 let _:Kno:=KnoC C N
 obtain⟨sg,xs,ys,c1,c2,c3,c4⟩:=h
 have hx:∀x∈xs,∀l∈x.cells,OkL H0.length l.lf:=λx hx l hl'=>hl _ (by rw[←c2.2.1];exact lD hx hl')
 have hy:∀x∈ys,∀l∈x.cells,OkL H'.length l.lf:=λx hx l hl'=>hrl _ (by rw[←c3.2.1];exact lD hx hl')
 have gd:∀(τ:Nat->Nat) (zs:List S0),(∀x∈zs,x.good)->∀x∈zs.map (renS τ),x.good:=by
  intro τ zs hz x hx'
  obtain⟨y,hy,rfl⟩:=qaE.1 hx'
  intro l hl'
  rw[kQ]at hl'
  obtain⟨l',hl'',rfl⟩:=qaE.1 hl'
  exact sO (hz y hy l' hl'')
 refine⟨sg,xs.map (renS σ),ys.map (renS (iB H0.length H.length σ)),c1,⟨by rw[gV];exact c2.1,by rw[ij,c2.2.1],gd _ _ c2.2.2⟩,⟨by rw[gV];exact c3.1,by rw[ij,c3.2.1],gd _ _ c3.2.2⟩,⟨0,?_⟩⟩
 exact .inr ⟨.inl hn,frame_alI kp hkp hG σ (iF hm c4) h0 (λmu mu0 cs hmu h=>vrs_ren hmu hx h) λmu' mu'' c hmu h=>vr_pack' hmu hy h⟩
theorem uI{α β:Type}(f:α->β)(l:List α):l.mapIdx (λ_=>f)=l.map f:=by
 apply qaS
 intro i
 rw[List.getElem?_mapIdx,qav]
theorem call_alK(kp:HObj->HObj)(hkp:∀o,(kp o).alive=true->∃vs e,o = .cells vs e true/\vs.all flat=true/\kp o = .cells vs e true){C:Cfg}{N:FuncId->Option Nat}{Sg:FuncId->Option Sig}(hm:C.P.follows .mixedOrders=true)(hG:∀g vs,C.G g=some vs->vs.all gfl=true){g:FuncId}(hn:N g=none){ls0 rs:List Lf}{H0 H' H:List HObj}(σ:Nat->Nat)
  (h:let _:Kno:=KnoC C N;aq C Sg g ls0 H0 rs H')
  (h0:∀(j:Nat) (o:HObj),H0[j]? = some o->∃vs e rw,o = .cells vs e false/\vs.all flat=true/\H[σ j]? = some (.cells vs e rw))
  (hl:∀l∈ls0,OkL H0.length l) (hrl:∀l∈rs,OkL H'.length l):let _:Kno:=KnoC C N;aq C Sg g (ls0.map (renL σ)) H (rs.map (renL (iB H0.length H.length σ))) (H++(H'.drop H0.length).map kp):=by
 have:=call_alI (λ_=>kp) (λ_=>hkp) hm hG hn σ h h0 hl hrl
 rwa [uI]at this
theorem call_al{C:Cfg}{N:FuncId->Option Nat}{Sg:FuncId->Option Sig}(hm:C.P.follows .mixedOrders=true)(hG:∀g vs,C.G g=some vs->vs.all gfl=true){g:FuncId}(hn:N g=none){ls0 rs:List Lf}{H0 H' H:List HObj}(σ:Nat->Nat)
  (h:let _:Kno:=KnoC C N;aq C Sg g ls0 H0 rs H')
  (h0:∀(j:Nat) (o:HObj),H0[j]? = some o->∃vs e rw,o = .cells vs e false/\vs.all flat=true/\H[σ j]? = some (.cells vs e rw))
  (hl:∀l∈ls0,OkL H0.length l) (hrl:∀l∈rs,OkL H'.length l):let _:Kno:=KnoC C N;aq C Sg g (ls0.map (renL σ)) H (rs.map (renL (iB H0.length H.length σ))) (H++(H'.drop H0.length).map rE):=
 call_alK rE (λ_ h=>rF h) hm hG hn σ h h0 hl hrl
end
end Sx
end Go.Am

/-
 WHAT RUNS OVER AN EMPTY HEAP TELL: answers,and lists that are made.
-/
set_option maxRecDepth 100000
namespace Go.Am
open Sx Go.Proofs
theorem known_val{g n:Nat}{ls rs:List Lf}{sg:Sig}(hs:ae g=some sg)(hp:sg.plain=true)(hg:aO ls=true)(h:runF n (.f g) ls .empty tell=some rs):∀H,aq cc ae g ls H rs H:=by
 obtain⟨rs',h',a1,a2⟩:=(mf n).f g ls .empty tell rs (dj hg) h
 rw[sf]at a2
 cases a2
 exact tG g sg ls _ _ hs hp a1
def isAns(rs':List Lf):Option (List Lf)->Bool:=λo=>@Option.rec _ (λ_=>Bool) false (λrs=>eqLs rs rs') o
theorem fM{g n:Nat}{ls rs:List Lf}{sg:Sig}(hs:ae g=some sg)(hp:sg.plain=true)(hg:aO ls=true)(h:isAns rs (runF n (.f g) ls .empty tell)=true):∀H,aq cc ae g ls H rs H:=by
 cases e:runF n (.f g) ls .empty tell with
 |none=>rw[e]at h;cases h
 |some rs'=>
  rw[e]at h
  have h:eqLs rs' rs=true:=h
  rw[eA h]at e
  exact known_val hs hp hg e
def eqCell(a b:Value):Bool:=match a,b with
 | .int k n,.int k' n'=>eq k k'&&eqZK n n'
 | .bool t,.bool t'=>eqBK t t'
 |_,_=>false
theorem eqCell_ok{a b:Value}(h:eqCell a b=true):a=b/\flat b=true:=by
 unfold eqCell at h
 split at h
 ·simp only[qaa]at h
  have h2:=h.2
  rw[oq,beq_iff_eq]at h2
  rw[cP h.1,h2]
  exact⟨rfl,rfl⟩
 ·rename_i a b
  cases a<;>cases b<;>first|exact⟨rfl,rfl⟩|cases h
 ·cases h
def om(c:Tr Value):List Value->Nat->Bool
 | [],_=>true
 |v :: l,i=>eqCell ((ba i).get nilV c) v&&om c l (i+1)
theorem mS{c:Tr Value}:∀ {l:List Value} {i:Nat},om c l i=true->(∀j (h:j<l.length),(ba (i+j)).get nilV c=l[j])/\l.all flat=true
 | [],i,_=>⟨λj h=>by simp at h,rfl⟩
 |v :: l,i,h=>by
  simp only[om,qaa]at h
  obtain⟨h1,h2⟩:=eqCell_ok h.1
  obtain⟨h3,h4⟩:=mS h.2
  refine⟨λj hj=>?_,by simp[h2,h4]⟩
  cases j with
  |zero=>exact h1
  |succ j=>
   have:=h3 j (by simpa using hj)
   rw[show i+(j+1)=i+1+j by omega]
   simpa using this
def isSl(h:HTr)(x:Value)(e n:Nat)(cells:List Value):Bool:=match x with
 | .slice none 0 0=>Nat.beq n 0&&Nat.beq cells.length 0
 | .slice (some a) len _=>Nat.beq len n&&Nat.beq a.off 0&&Nat.beq cells.length (n*e)&&tagB a.spot e&&(match h.at a.block with
  |some (.t m e' true c)=>Nat.beq m (n*e)&&Nat.beq e' e&&om c cells 0
  |_=>false)
 |_=>false
theorem isSl_ok{h:HTr}{x:Value}{e n:Nat}{cells:List Value}(hx:isSl h x e n cells=true):cells.length=n*e/\cells.all flat=true/\((x = .slice none 0 0/\n=0)∨∃id cx,x = .slice (some ⟨id,0,tag e⟩) n cx/\id<h.n/\(toL h)[id]? = some (.o (.cells cells e true))):=by
 unfold isSl at hx
 split at hx
 ·simp only[qaa]at hx
  have h1:=qad hx.1
  have h2:=qad hx.2
  subst h1
  rw[qa2]at h2
  subst h2
  exact⟨by simp,rfl,.inl ⟨rfl,rfl⟩⟩
 ·rename_i a len cx
  simp only[qaa]at hx
  obtain⟨⟨⟨⟨h1,h2⟩,h3⟩,h4⟩,h5⟩:=hx
  have h1:=qad h1
  have h2:=qad h2
  have h3:=qad h3
  have h4:=kG.1 h4
  subst h1
  split at h5
  ·rename_i m e' c hat
   simp only[qaa]at h5
   obtain⟨⟨g1,g2⟩,g3⟩:=h5
   have g1:=qad g1
   have g2:=qad g2
   subst g1 g2
   obtain⟨g4,g5⟩:=mS g3
   have ha:a=⟨a.block,0,tag e'⟩:=by cases a;simp_all
   have hc:bj c (len*e')=cells:=by
    apply List.ext_getElem
    ·rw[aM,h3]
    ·intro i hi hi'
     have:=cX c (i:=i) (n:=len*e') (by rw[aM]at hi;exact hi)
     rw[qaA hi]at this
     have:=qan this
     rw[this,←g4 i hi',qaP]
   refine⟨h3,g5,.inr ⟨a.block,cx,by rw[ha],?_,?_⟩⟩
   ·unfold HTr.at at hat
    split at hat
    ·rename_i hb;rw[qaH]at hb;exact hb
    ·cases hat
   ·rw[gQ,hat]
    show some (HO.o (.cells (bj c (len*e')) e' true))=_
    rw[hc]
  ·cases h5
 ·cases hx
theorem sq(T:Nat->Site)(h G:HL):absH T (h++G)=absH T h++absH T G:=by simp[absH]
theorem absH_o(T:Nat->Site)(l:List HObj):absH T (l.map HO.o)=l:=by
 induction l with
 |nil=>rfl
 |cons a l ih=>show absO T (.o a) :: absH T (l.map HO.o)=_;rw[ih];rfl
theorem made{g n:Nat}{ls rest:List Lf}{e m:Nat}{cells:List Value}(hg:aO ls=true)(hno:neuN g=none)(hl:ls.all (λl=>match l with | .v _=>false|_=>true)=true)(hr:rest.all (λl=>match l with | .v _=>false|_=>true)=true)
  (h:runF n (.f g) ls .empty (λrs h=>match rs with
   | .v x :: r=>ans (eqLs r rest&&isSl h x e m cells)
   |_=>none)=yes) (H:HL):∃x G,aq cc ae g ls (absH aa H) (.v x :: rest) (absH aa (H++G))/\SlC (H++G) x e m cells:=by
 obtain⟨rs,h',a1,a2⟩:=(mf n).f g ls .empty _ [] (dj hg) h
 split at a2
 ·rename_i x r
  have a2:=ans_yes a2
  simp only[qaa]at a2
  obtain⟨a2,a3⟩:=a2
  have a2:=eA a2
  subst a2
  obtain⟨b1,b2,b3⟩:=isSl_ok a3
  have plainR:∀(l:List Lf) (σ:Nat->Nat),l.all (λl=>match l with | .v _=>false|_=>true)=true->l.map (renL σ)=l:=by
   intro l σ hl
   induction l with
   |nil=>rfl
   |cons a l ih=>
    simp only[qbm,qaa]at hl
    rw[qaq,ih hl.2]
    cases a<;>first|rfl|(simp at hl)
  have plainOk:∀(l:List Lf) (n:Nat),l.all (λl=>match l with | .v _=>false|_=>true)=true->∀a∈l,OkL n a:=by
   intro l n hl a ha
   have:=qab.1 hl a ha
   cases a<;>first|trivial|cases this
  have e0:absH aa (toL HTr.empty)=[]:=rfl
  rw[e0]at a1
  have key:=call_al (N:=neuN) mixed bv hno (H:=absH aa H) id a1 (λj o hj=>by simp at hj) (plainOk ls _ hl) (λl hl'=>by
   rcases qak.1 hl' with rfl|hl'
   ·rcases b3 with⟨rfl,_⟩|⟨id,cx,rfl,hid,_⟩
    ·exact .inl ⟨rfl,λ_=>rfl⟩
    ·exact .inr ⟨id,0,m,cx,e,by rw[ch,cJ];exact hid,rfl⟩
   ·exact plainOk _ _ hr l hl')
  rw[plainR ls id hl,qaq,plainR _ _ hr,qcr,qbs]at key
  refine⟨renV (iB 0 (absH aa H).length id) x,((absH aa (toL h')).map rE).map .o,?_,b1,?_⟩
  ·rw[sq,absH_o];exact key
  ·rcases b3 with⟨rfl,hm⟩|⟨id',cx,rfl,hid,hb⟩
   ·exact .inl ⟨rfl,hm⟩
   ·refine .inr ⟨_,0,cx,cells,true,rfl,?_,Sx.cut_all b1⟩
    unfold iB
    rw[if_neg (qcF _),Nat.sub_zero,ch,qam (by omega),qbK,qav,qav]
    have:(absH aa (toL h'))[id']? = some (.cells cells e true):=by
     unfold absH
     rw[qav,hb];rfl
    rw[this]
    show some (HO.o (if cells.all flat=true then HObj.cells cells e true else .dead))=_
    rw[if_pos b2]
 ·cases a2
end Go.Am

/-
 UNITS: tables by the kernel: names,cells,the list of units.
-/
set_option maxRecDepth 100000
namespace Go.Am
open Sx Go.Proofs
def nbr(w v c e:Nat):Option Nat:=
 match e,c%4 with
 |0,0=>if 0<c / 4 / w then some (c+2 - 4*w)else none
 |0,1=>if c / 4%w+1<w then some (c+6)else none
 |0,2=>if c / 4 / w+1<v then some (c+4*w - 2)else none
 |0,_=>if 0<c / 4%w then some (c - 6)else none
 |1,0=>some (c+1)
 |1,1=>some (c - 1)
 |1,2=>some (c+1)
 |1,_=>some (c - 1)
 |2,0=>some (c+3)
 |2,1=>some (c+1)
 |2,2=>some (c - 1)
 |2,_=>some (c - 3)
 |_,_=>none
def nameN(w v c e:Nat):List Lf:=match nbr w v c e with
 |some n=>[.i (.ofNat (min c n)),.i (.ofNat e),.i 0]
 |none=>[.i 0,.i 0,.i 7]
def cellN(w c:Nat):List Lf:=[.i (.ofNat (c / 4%w)),.i (.ofNat (c / 4 / w)),.i (.ofNat (c%4)),.i 0]
def tabName(w v:Nat):Bool:=(List.range (4*w*v)).all λc=>(List.range 3).all λe=>isAns (nameN w v c e) (runF 60 (.f 90) [.i (.ofNat w),.i (.ofNat v),.i (.ofNat c),.i (.ofNat e)] .empty tell)
def tabCell(w v:Nat):Bool:=(List.range (4*w*v)).all λc=>isAns (cellN w c) (runF 60 (.f 95) [.i (.ofNat w),.i (.ofNat v),.i (.ofNat c)] .empty tell)
def bd(w v:Nat):List (Nat×Nat):=(List.range (4*w*v)).flatMap λc=>(List.range 3).filterMap λe=>match nbr w v c e with
 |some n=>if c<n then some (c,e)else none
 |none=>none
def encU(u:Nat×Nat):List Value:=[.int .i64 (.ofNat u.1),.int .u8 (.ofNat u.2)]
def pq(w v:Nat):Bool:=match runF 60 (.f 16) [.i (.ofNat w),.i (.ofNat v)] .empty (λrs h=>match rs with
   | .v x :: r=>ans (eqLs r []&&isSl h x 2 (bd w v).length ((bd w v).flatMap encU))
   |_=>none)with
 |some []=>true
 |_=>false
def ltN(a b:Nat×Nat):Bool:=Nat.blt a.1 b.1||(Nat.beq a.1 b.1&&Nat.blt a.2 b.2)
def ascN:List (Nat×Nat)->Bool
 |a :: b :: l=>ltN a b&&ascN (b :: l)
 |_=>true
def tab5(w v:Nat):Bool:=tabName w v&&(tabCell w v&&(pq w v&&(ascN (bd w v)&&Nat.ble (bd w v).length 1000)))
theorem mo:∀w v:Nat,1<=w->w<=5->1<=v->v<=5->tab5 w v=true:=by
 have key:((List.range 5).all λw=>(List.range 5).all λv=>tab5 (w+1) (v+1))=true:=by kernel_rfl
 intro w v h1 h2 h3 h4
 have h5:=qab.1 key (w - 1) (qaj.2 (by omega))
 have h6:=qab.1 h5 (v - 1) (qaj.2 (by omega))
 have e1:w - 1+1=w:=by omega
 have e2:v - 1+1=v:=by omega
 rw[e1,e2]at h6
 exact h6
end Go.Am

/-
 AROUND A CORNER: tables by the kernel: the cells,the edges between them,the spokes.
-/
set_option maxRecDepth 100000
namespace Go.Am
open Sx Go.Proofs
abbrev Cel:=Nat×Nat×Nat
def ring(x y:Nat):List Cel:=
 if x%2=1 then [(x / 2,y / 2,2),(x / 2,y / 2,3),(x / 2,y / 2,0),(x / 2,y / 2,1)]
 else [(x / 2,y / 2,0),(x / 2,y / 2,3),(x / 2 - 1,y / 2,1),(x / 2 - 1,y / 2,0),(x / 2 - 1,y / 2 - 1,2),(x / 2 - 1,y / 2 - 1,1),(x / 2,y / 2 - 1,3),(x / 2,y / 2 - 1,2)]
def many(x:Nat):Nat:=if x%2=1 then 4 else 8
def aS(x y j:Nat):Cel:=(ring x y).getD (j%many x) (0,0,0)
def dh(x j:Nat):Nat:=if x%2=1 then(if j%2=0 then 1 else 2)else [2,0,1,0].getD (j%4) 0
def idOf(w:Nat)(c:Cel):Nat:=4*(c.2.1*w+c.1)+c.2.2
def od(x j:Nat):Nat:=if x%2=1 then(2*j+3)%8 else(j+1)%8
def jO(x j:Nat):Nat:=if j=0 then 3 else dh x (j - 1)
def told(f:FuncId)(ls rs:List Lf):Bool:=isAns rs (runF 60 (.f f) ls .empty tell)
def tchT(c:Cel)(e x y:Nat)(t:Bool):Bool:=told 111 [.i (.ofNat c.1),.i (.ofNat c.2.1),.i (.ofNat c.2.2),.i (.ofNat e),.i (.ofNat x),.i (.ofNat y)] [.b t]
def lvT(c:Cel)(e x y:Nat)(t:Bool):Bool:=told 112 [.i (.ofNat c.1),.i (.ofNat c.2.1),.i (.ofNat c.2.2),.i (.ofNat e),.i (.ofNat x),.i (.ofNat y)] [.b t]
def skipT(c:Cel)(l e x y:Nat):Bool:=tchT c e x y false||(tchT c e x y true&&(Nat.beq e l||(Nat.beq l 3&&lvT c e x y false)))
def takeT(c:Cel)(l e x y:Nat):Bool:=tchT c e x y true&&(!(Nat.beq e l)&&(!(Nat.beq l 3)||lvT c e x y true))
def stepT(w v x y j:Nat):Bool:=
 let c:=aS x y j
 let d:=aS x y (j+1)
 let e:=dh x j
 let u:=min (idOf w c) (idOf w d)
 told 110 [.i (.ofNat w),.i (.ofNat v),.i (.ofNat c.1),.i (.ofNat c.2.1),.i (.ofNat c.2.2)] [.i (.ofNat (idOf w c)),.i 0] &&
 ((List.range e).all (λk=>skipT c (jO x j) k x y)&&(takeT c (jO x j) e x y&&(Nat.ble e 2 &&
 (told 90 [.i (.ofNat w),.i (.ofNat v),.i (.ofNat (idOf w c)),.i (.ofNat e)] [.i (.ofNat u),.i (.ofNat e),.i 0] &&
 (told 113 [.i (.ofNat w),.i (.ofNat v),.i (.ofNat u),.i (.ofNat e),.i (.ofNat x),.i (.ofNat y)] [.i (.ofNat (od x j))] &&
 told 114 [.i (.ofNat c.1),.i (.ofNat c.2.1),.i (.ofNat c.2.2),.i (.ofNat e)] [.i (.ofNat d.1),.i (.ofNat d.2.1),.i (.ofNat d.2.2),.i 0])))))
def ed(w v x y:Nat):Bool:=Nat.blt 0 x&&(Nat.blt 0 y&&(Nat.blt x (2*w)&&(Nat.blt y (2*v)&&Nat.beq (x%2) (y%2))))
def cornT(w v:Nat):Bool:=(List.range (2*w)).all λx=>(List.range (2*v)).all λy=>!(ed w v x y)||(List.range (many x)).all λj=>stepT w v x y j
theorem corn_all:∀w v:Nat,1<=w->w<=4->1<=v->v<=4->cornT w v=true:=by
 have key:((List.range 4).all λw=>(List.range 4).all λv=>cornT (w+1) (v+1))=true:=by kernel_rfl
 intro w v h1 h2 h3 h4
 have h5:=qab.1 key (w - 1) (qaj.2 (by omega))
 have h6:=qab.1 h5 (v - 1) (qaj.2 (by omega))
 have e1:w - 1+1=w:=by omega
 have e2:v - 1+1=v:=by omega
 rw[e1,e2]at h6
 exact h6
theorem cW{f:FuncId}{ls rs:List Lf}{sg:Sig}(h:told f ls rs=true)(hs:ae f=some sg)(hp:sg.plain=true)(hg:aO ls=true):Cc f ls rs:=fM (n:=60) hs hp hg h
structure Step(w v x y j:Nat):Prop where
 id:Cc 110 [.i (.ofNat w),.i (.ofNat v),.i (.ofNat (aS x y j).1),.i (.ofNat (aS x y j).2.1),.i (.ofNat (aS x y j).2.2)] [.i (.ofNat (idOf w (aS x y j))),.i 0]
 skip:∀k,k<dh x j->Cc 111 [.i (.ofNat (aS x y j).1),.i (.ofNat (aS x y j).2.1),.i (.ofNat (aS x y j).2.2),.i (.ofNat k),.i (.ofNat x),.i (.ofNat y)] [.b false]∨
  (Cc 111 [.i (.ofNat (aS x y j).1),.i (.ofNat (aS x y j).2.1),.i (.ofNat (aS x y j).2.2),.i (.ofNat k),.i (.ofNat x),.i (.ofNat y)] [.b true]/\(k=jO x j∨
   (jO x j=3/\Cc 112 [.i (.ofNat (aS x y j).1),.i (.ofNat (aS x y j).2.1),.i (.ofNat (aS x y j).2.2),.i (.ofNat k),.i (.ofNat x),.i (.ofNat y)] [.b false])))
 take:Cc 111 [.i (.ofNat (aS x y j).1),.i (.ofNat (aS x y j).2.1),.i (.ofNat (aS x y j).2.2),.i (.ofNat (dh x j)),.i (.ofNat x),.i (.ofNat y)] [.b true]
 ne:dh x j≠jO x j
 lv:jO x j=3->Cc 112 [.i (.ofNat (aS x y j).1),.i (.ofNat (aS x y j).2.1),.i (.ofNat (aS x y j).2.2),.i (.ofNat (dh x j)),.i (.ofNat x),.i (.ofNat y)] [.b true]
 le:dh x j<=2
 name:Cc 90 [.i (.ofNat w),.i (.ofNat v),.i (.ofNat (idOf w (aS x y j))),.i (.ofNat (dh x j))] [.i (.ofNat (min (idOf w (aS x y j)) (idOf w (aS x y (j+1))))),.i (.ofNat (dh x j)),.i 0]
 dir:Cc 113 [.i (.ofNat w),.i (.ofNat v),.i (.ofNat (min (idOf w (aS x y j)) (idOf w (aS x y (j+1))))),.i (.ofNat (dh x j)),.i (.ofNat x),.i (.ofNat y)] [.i (.ofNat (od x j))]
 next:Cc 114 [.i (.ofNat (aS x y j).1),.i (.ofNat (aS x y j).2.1),.i (.ofNat (aS x y j).2.2),.i (.ofNat (dh x j))] [.i (.ofNat (aS x y (j+1)).1),.i (.ofNat (aS x y (j+1)).2.1),.i (.ofNat (aS x y (j+1)).2.2),.i 0]
theorem step_of{w v x y j:Nat}(h:stepT w v x y j=true):Step w v x y j:=by
 unfold stepT at h
 simp only[qaa]at h
 obtain⟨h1,h2,h3,h4,h5,h6,h7⟩:=h
 unfold takeT at h3
 simp only[qaa,qaG,qbz,Nat.beq_eq_true_eq]at h3
 obtain⟨t1,t2,t3⟩:=h3
 refine⟨cW h1 rfl (by kernel_rfl) rfl,λk hk=>?_,cW t1 rfl (by kernel_rfl) rfl,?_,λhl=>?_,Nat.le_of_ble_eq_true h4,cW h5 rfl (by kernel_rfl) rfl,cW h6 rfl (by kernel_rfl) rfl,cW h7 rfl (by kernel_rfl) rfl⟩
 ·have hs:=qab.1 h2 k (qaj.2 hk)
  unfold skipT at hs
  simp only[qaa,qaG]at hs
  rcases hs with hs|⟨q1,q2|⟨q2,q3⟩⟩
  ·exact .inl (cW hs rfl (by kernel_rfl) rfl)
  ·exact .inr ⟨cW q1 rfl (by kernel_rfl) rfl,.inl (qad q2)⟩
  ·exact .inr ⟨cW q1 rfl (by kernel_rfl) rfl,.inr ⟨qad q2,cW q3 rfl (by kernel_rfl) rfl⟩⟩
 ·intro e
  rw[e]at t2
  rw[qb6]at t2
  cases t2
 ·rcases t3 with t3|t3
  ·rw[hl]at t3;cases t3
  ·exact cW t3 rfl (by kernel_rfl) rfl
theorem tT{w v x y:Nat}(h1:1<=w/\w<=4/\1<=v/\v<=4)(h2:ed w v x y=true){j:Nat}(hj:j<many x):Step w v x y j:=by
 have h:=corn_all w v h1.1 h1.2.1 h1.2.2.1 h1.2.2.2
 have h3:=h2
 unfold ed at h3
 simp only[qaa,qaH]at h3
 have h4:=qab.1 (qab.1 h x (qaj.2 (by omega))) y (qaj.2 (by omega))
 rw[h2]at h4
 simp only[qaJ,qbC]at h4
 exact step_of (qab.1 h4 j (qaj.2 hj))
end Go.Am

/-
 MOVES THAT KEEP A CORNER: reflections in the lines through it,and what they make together: tables by the kernel.
-/
set_option maxRecDepth 100000
namespace Go.Am
open Sx Go.Proofs
def tn(t k:Nat):Nat:=if Nat.blt t 4 then 4+(2+k+3*t)%4 else(2+k+3*(t - 4))%4
theorem tn_lt(t k:Nat):tn t k<8:=by
 unfold tn
 split<;>omega
def mvX(t x y:Nat):Int:=match t with
 |0=>0
 |1=>((x:Int)+y) / 2
 |2=>x
 |3=>((x:Int) - y) / 2
 |4=>x
 |5=>((x:Int)+y) / 2
 |6=>0
 |_=>((x:Int) - y) / 2
def mvY(t x y:Nat):Int:=match t with
 |0=>0
 |1=>((y:Int) - x) / 2
 |2=>y
 |3=>((y:Int)+x) / 2
 |4=>0
 |5=>((y:Int)+x) / 2
 |6=>y
 |_=>((y:Int) - x) / 2
def lnK(k:Nat):Nat:=match k with
 |0=>2
 |1=>4
 |2=>1
 |_=>3
def lnC(k x y:Nat):Int:=match k with
 |0=>(y:Int) / 2
 |1=>((y:Int) - x) / 2
 |2=>(x:Int) / 2
 |_=>((x:Int)+y) / 2
def lnA(k:Nat):Int:=match k with
 |0=>0
 |1=>-1
 |2=>1
 |_=>1
def lnB(k:Nat):Int:=match k with
 |0=>1
 |1=>1
 |2=>0
 |_=>1
abbrev mvL(t x y:Nat):List Lf:=[.i (.ofNat t),.i (mvX t x y),.i (mvY t x y)]
def fO(x t:Nat):Bool:=Nat.beq (x%2) 0||(if Nat.blt t 4 then Nat.beq (t%2) 0 else Nat.beq (t%2) 1)
def refT(x y k:Nat):Bool:=
 told 39 [.i (.ofNat (lnK k)),.i (.ofNat x),.i (.ofNat y)] [.i (.ofNat (lnK k)),.i (lnC k x y),.i 0] &&
 (told 77 [.i (.ofNat (lnK k)),.i (lnC k x y)] [.i (.ofNat (tn 0 k)),.i (mvX (tn 0 k) x y),.i (mvY (tn 0 k) x y),.i 0] &&
 (told 40 [.i (.ofNat (lnK k))] [.i (lnA k),.i (lnB k)] &&
 (told 42 [.i (.ofNat (lnK k)),.i (lnC k x y)] (mvL (tn 0 k) x y) &&
 ((List.range 8).all λt=>!(fO x t)||(
  told 24 [.i (.ofNat t),.i (mvX t x y),.i (mvY t x y),.i (.ofNat (tn 0 k)),.i (mvX (tn 0 k) x y),.i (mvY (tn 0 k) x y)] [.i (.ofNat (tn t k)),.i (mvX (tn t k) x y),.i (mvY (tn t k) x y),.i 0] &&
  told 41 [.i (.ofNat t),.i (mvX t x y),.i (mvY t x y),.i (.ofNat (tn 0 k)),.i (mvX (tn 0 k) x y),.i (mvY (tn 0 k) x y)] (mvL (tn t k) x y))))))
def jP(x k:Nat):Bool:=Nat.beq (x%2) 0||Nat.beq (k%2) 1
def refAll(x y:Nat):Bool:=!(Nat.blt 0 x&&(Nat.blt 0 y&&Nat.beq (x%2) (y%2)))||(List.range 4).all λk=>!(jP x k)||refT x y k
theorem ref_all:((List.range 8).all λx=>(List.range 8).all λy=>refAll x y)=true:=by kernel_rfl
structure Refl(x y k:Nat):Prop where
 thr:Cc 39 [.i (.ofNat (lnK k)),.i (.ofNat x),.i (.ofNat y)] [.i (.ofNat (lnK k)),.i (lnC k x y),.i 0]
 mof:Cc 77 [.i (.ofNat (lnK k)),.i (lnC k x y)] [.i (.ofNat (tn 0 k)),.i (mvX (tn 0 k) x y),.i (mvY (tn 0 k) x y),.i 0]
 acr:Cc 40 [.i (.ofNat (lnK k))] [.i (lnA k),.i (lnB k)]
 rof:Cc 42 [.i (.ofNat (lnK k)),.i (lnC k x y)] (mvL (tn 0 k) x y)
 thn:∀t,t<8->fO x t=true->Cc 24 [.i (.ofNat t),.i (mvX t x y),.i (mvY t x y),.i (.ofNat (tn 0 k)),.i (mvX (tn 0 k) x y),.i (mvY (tn 0 k) x y)] [.i (.ofNat (tn t k)),.i (mvX (tn t k) x y),.i (mvY (tn t k) x y),.i 0]
 rth:∀t,t<8->fO x t=true->Cc 41 [.i (.ofNat t),.i (mvX t x y),.i (mvY t x y),.i (.ofNat (tn 0 k)),.i (mvX (tn 0 k) x y),.i (mvY (tn 0 k) x y)] (mvL (tn t k) x y)
theorem refl_of{x y k:Nat}(h:0<x/\x<8/\0<y/\y<8/\x%2=y%2)(hk:k<4)(hd:jP x k=true):Refl x y k:=by
 have h1:=qab.1 (qab.1 ref_all x (qaj.2 h.2.1)) y (qaj.2 h.2.2.2.1)
 unfold refAll at h1
 have h2:(Nat.blt 0 x&&(Nat.blt 0 y&&Nat.beq (x%2) (y%2)))=true:=by
  simp only[qaa,qaH,qbg]
  omega
 rw[h2]at h1
 simp only[qaJ,qbC]at h1
 have h3:=qab.1 h1 k (qaj.2 hk)
 rw[hd]at h3
 simp only[qaJ,qbC]at h3
 unfold refT at h3
 simp only[qaa]at h3
 obtain⟨a1,a2,a3,a4,a5⟩:=h3
 refine⟨cW a1 rfl (by kernel_rfl) rfl,cW a2 rfl (by kernel_rfl) rfl,cW a3 rfl (by kernel_rfl) rfl,cW a4 rfl (by kernel_rfl) rfl,λt ht hto=>?_,λt ht hto=>?_⟩
 ·have:=qab.1 a5 t (qaj.2 ht)
  rw[hto,qaJ,qbC,qaa]at this
  exact cW this.1 rfl (by kernel_rfl) rfl
 ·have:=qab.1 a5 t (qaj.2 ht)
  rw[hto,qaJ,qbC,qaa]at this
  exact cW this.2 rfl (by kernel_rfl) rfl
def cg(D:List Int):Nat:=D.foldl (λt d=>tn t (d.toNat%4)) 0
def sumD(D:List Int):Nat->Int
 |0=>0
 |j+1=>sumD D j+if j%2=0 then(D.getD ((j+1)%D.length) 0 - D.getD j 0+8)%8 else 0
def rg(D:List Int):Bool:=Nat.beq D.length 0||(Nat.beq (D.length%2) 0&&decide (sumD D D.length=4))
def bD(b:Bool)(d:Nat):List Int:=if b then [.ofNat d]else []
def chkD(D:List Int):Bool:=(Nat.beq (cg D) 0)==(rg D)
theorem memB(b:Bool):b∈[false,true]:=by cases b<;>simp
theorem chk_all:(([false,true].all λb0=>([false,true].all λb1=>([false,true].all λb2=>([false,true].all λb3=>([false,true].all λb4=>([false,true].all λb5=>([false,true].all λb6=>([false,true].all λb7=>chkD (bD b0 0++(bD b1 1++(bD b2 2++(bD b3 3++(bD b4 4++(bD b5 5++(bD b6 6++(bD b7 7)))))))))))))))))=true:=by kernel_rfl
theorem chk_of(b0 b1 b2 b3 b4 b5 b6 b7:Bool):chkD (bD b0 0++(bD b1 1++(bD b2 2++(bD b3 3++(bD b4 4++(bD b5 5++(bD b6 6++(bD b7 7))))))))=true:=
 qab.1 (qab.1 (qab.1 (qab.1 (qab.1 (qab.1 (qab.1 (qab.1 chk_all b0 (memB b0)) b1 (memB b1)) b2 (memB b2)) b3 (memB b3)) b4 (memB b4)) b5 (memB b5)) b6 (memB b6)) b7 (memB b7)
end Go.Am

/-
 THE FUNCTIONS OVER THE ALGEBRA OF PROPOSITIONS,BY PROGRAM.
-/
set_option maxRecDepth 100000
namespace Go.Am
open Sx Go.Proofs
/-- crimp/crimplaw10.PlacesCloses -/
def p3(A:Alg Prop (HL))(ls:List Lf)(h:HL)(K:List Lf->HL->Prop):Prop:=A.unI ls (@hid _ ⟨λb6 b7=>A.unI b7 (@hid _ ⟨λb8 b9=>A.unV b9 (@hid _ ⟨λc0 c1=>A.unI c1 (@hid _ ⟨λn12 d0=>A.unI d0 (@hid _ ⟨λn14 d1=>A.unI d1 (@hid _ ⟨λn16 d2=>A.un0 d2 (@hid _ ⟨A.call 9 [(.i b6),(.i b8),(.v c0)] h (@hid _ ⟨λd3 d4=>A.unI d3 (@hid _ ⟨λn20 d5=>A.unI d5 (@hid _ ⟨λn22 d6=>A.unV d6 (@hid _ ⟨λa4 d7=>A.un0 d7 (@hid _ ⟨A.loop (@hid _ ⟨λd8 d9 a8=>A.unI d9 (@hid _ ⟨λe0 e1=>A.unI e1 (@hid _ ⟨λn31 e2=>A.un0 e2 (@hid _ ⟨A.ari .mul .i64 2 n22 (@hid _ ⟨λe4=>A.cmp .lss n31 e4 (@hid _ ⟨λe5=>A.cond e5 (@hid _ ⟨A.loop (@hid _ ⟨λe6 e7 h37=>A.unI e7 (@hid _ ⟨λn38 e8=>A.unI e8 (@hid _ ⟨λn40 f0=>A.un0 f0 (@hid _ ⟨A.ari .mul .i64 2 n20 (@hid _ ⟨λn42=>A.cmp .lss n40 n42 (@hid _ ⟨λf1=>A.cond f1 (@hid _ ⟨A.join (@hid _ ⟨λf2 f4=>A.unI f2 (@hid _ ⟨λf5 f6=>A.un0 f6 (@hid _ ⟨A.ari .add .i64 n40 1 (@hid _ ⟨λn48=>e6 [(.i f5),(.i n48)] f4⟩)⟩)⟩)⟩) (@hid _ ⟨λa5=>A.call 10 [(.i n20),(.i n22),(.i n40),(.i n31)] h37 (@hid _ ⟨λf7 a6=>A.unI f7 (@hid _ ⟨λn52 f8=>A.un0 f8 (@hid _ ⟨A.cmp .eql n52 0 (@hid _ ⟨λg0=>A.cond g0 (@hid _ ⟨a5 [(.i n38)] a6⟩) (@hid _ ⟨A.ari .add .i64 n38 1 (@hid _ ⟨λn55=>A.ari .sub .i64 n55 1 (@hid _ ⟨λn56=>A.ari .rem .u8 n12 25 (@hid _ ⟨λn57=>A.conv .i64 n57 (@hid _ ⟨λn58=>A.cmp .neq n56 n58 (@hid _ ⟨λg1=>A.cond g1 (@hid _ ⟨a5 [(.i n55)] a6⟩) (@hid _ ⟨A.call 11 [(.i n20),(.i n22),(.v a4),(.i n40),(.i n31)] a6 (@hid _ ⟨λg2 g4=>A.unV g2 (@hid _ ⟨λO g5=>A.un0 g5 (@hid _ ⟨A.loop (@hid _ ⟨λg6 g7 U=>A.unV g7 (@hid _ ⟨λa9 g8=>A.unI g8 (@hid _ ⟨λn69 h0=>A.unI h0 (@hid _ ⟨λn71 h1=>A.un0 h1 (@hid _ ⟨A.opt (lenS O) (@hid _ ⟨λx73=>A.cmp .lss n71 x73 (@hid _ ⟨λh2=>A.cond h2 (@hid _ ⟨A.opt (idS 2 O n71) (@hid _ ⟨λh4=>A.opt (fdP 0 h4) (@hid _ ⟨λx76=>A.chk x76 (@hid _ ⟨A.peek (.lg cc 1 x76) U (@hid _ ⟨λh5=>A.ucI .i64 h5 (@hid _ ⟨λn78 h6=>A.uc0 h6 (@hid _ ⟨A.new (.cells [(.int .i64 n78)] 1 true) U (@hid _ ⟨λh7 h8=>A.heap (.ap cc 1 8 a9 (.slice (some ⟨h7,0,(some 11)⟩) 1 2)) h8 (@hid _ ⟨λi0 a1=>A.ucV i0 (@hid _ ⟨λb0 i1=>A.chk b0 (@hid _ ⟨A.uc0 i1 (@hid _ ⟨A.ari .rem .i64 n71 2 (@hid _ ⟨λn86=>A.cmp .eql n86 0 (@hid _ ⟨λi2=>A.join (@hid _ ⟨λi4 h89=>A.unI i4 (@hid _ ⟨λn90 i5=>A.un0 i5 (@hid _ ⟨A.ari .add .i64 n71 1 (@hid _ ⟨λn92=>g6 [(.v b0),(.i n90),(.i n92)] h89⟩)⟩)⟩)⟩) (@hid _ ⟨λb1=>A.cond i2 (@hid _ ⟨A.ari .add .i64 n71 1 (@hid _ ⟨λn94=>A.opt (lenS O) (@hid _ ⟨λi6=>A.ari .rem .i64 n94 i6 (@hid _ ⟨λn96=>A.opt (idS 2 O n96) (@hid _ ⟨λi7=>A.opt (fdP 0 i7) (@hid _ ⟨λb2=>A.chk b2 (@hid _ ⟨A.peek (.lg cc 1 b2) a1 (@hid _ ⟨λi8=>A.ucI .i64 i8 (@hid _ ⟨λj0 j1=>A.uc0 j1 (@hid _ ⟨A.opt (idS 2 O n71) (@hid _ ⟨λj2=>A.opt (fdP 0 j2) (@hid _ ⟨λb3=>A.chk b3 (@hid _ ⟨A.peek (.lg cc 1 b3) a1 (@hid _ ⟨λj3=>A.ucI .i64 j3 (@hid _ ⟨λj4 j5=>A.uc0 j5 (@hid _ ⟨A.ari .sub .i64 j0 j4 (@hid _ ⟨λj6=>A.ari .add .i64 j6 8 (@hid _ ⟨λj7=>A.ari .rem .i64 j7 8 (@hid _ ⟨λn109=>A.ari .add .i64 n69 n109 (@hid _ ⟨λn110=>b1 [(.i n110)] a1⟩)⟩)⟩)⟩)⟩)⟩)⟩)⟩)⟩)⟩)⟩)⟩)⟩)⟩)⟩)⟩)⟩)⟩)⟩)⟩) (@hid _ ⟨b1 [(.i n69)] a1⟩)⟩)⟩)⟩)⟩)⟩)⟩)⟩)⟩)⟩)⟩)⟩)⟩)⟩)⟩)⟩) (@hid _ ⟨A.join (@hid _ ⟨λj8 j9=>A.unB j8 (@hid _ ⟨λb4 k0=>A.un0 k0 (@hid _ ⟨A.call 12 [(.i n20),(.i n22),(.v a4),(.i n40),(.i n31)] j9 (@hid _ ⟨λk1 h116=>A.unB k1 (@hid _ ⟨λk2 k3=>A.unI k3 (@hid _ ⟨λn119 k4=>A.un0 k4 (@hid _ ⟨A.cmp .neq n119 0 (@hid _ ⟨λk5=>A.cond k5 (@hid _ ⟨K [(.b false)] h116⟩) (@hid _ ⟨A.eqs [((.b k2),(.b b4))] (@hid _ ⟨λk6=>A.cond (!k6) (@hid _ ⟨K [(.b false)] h116⟩) (@hid _ ⟨A.call 13 [(.i n40),(.i n31),(.v a9)] h116 (@hid _ ⟨λk7 h124=>A.unI k7 (@hid _ ⟨λn125 k8=>A.unI k8 (@hid _ ⟨λn127 k9=>A.unI k9 (@hid _ ⟨λn129 l0=>A.un0 l0 (@hid _ ⟨A.eqs [((.i n125),(.i 0)),((.i n127),(.i 0)),((.i n129),(.i 0))] (@hid _ ⟨λl1=>A.eqs [((.b b4),(.b l1))] (@hid _ ⟨λl2=>A.cond (!l2) (@hid _ ⟨K [(.b false)] h124⟩) (@hid _ ⟨a5 [(.i n55)] h124⟩)⟩)⟩)⟩)⟩)⟩)⟩)⟩)⟩)⟩)⟩)⟩)⟩)⟩)⟩)⟩)⟩)⟩)⟩) (@hid _ ⟨λa7=>A.opt (lenS O) (@hid _ ⟨λl3=>A.cmp .eql l3 0 (@hid _ ⟨λl4=>A.cond l4 (@hid _ ⟨a7 [(.b true)] U⟩) (@hid _ ⟨A.opt (lenS O) (@hid _ ⟨λl5=>A.ari .rem .i64 l5 2 (@hid _ ⟨λl6=>A.cmp .eql l6 0 (@hid _ ⟨λl7=>A.cond l7 (@hid _ ⟨A.cmp .eql n69 4 (@hid _ ⟨λl8=>a7 [(.b l8)] U⟩)⟩) (@hid _ ⟨a7 [(.b false)] U⟩)⟩)⟩)⟩)⟩)⟩)⟩)⟩)⟩)⟩)⟩)⟩)⟩)⟩)⟩)⟩) [(.v (.slice none 0 0)),(.i 0),(.i 0)] g4⟩)⟩)⟩)⟩)⟩)⟩)⟩)⟩)⟩)⟩)⟩)⟩)⟩)⟩)⟩)⟩) (@hid _ ⟨A.ari .add .i64 n31 1 (@hid _ ⟨λl9=>d8 [(.i n38),(.i l9)] h37⟩)⟩)⟩)⟩)⟩)⟩)⟩)⟩) [(.i e0),(.i 1)] a8⟩) (@hid _ ⟨A.call 12 [(.i n20),(.i n22),(.v a4),(.i n14),(.i n16)] a8 (@hid _ ⟨λm0 V=>A.unB m0 (@hid _ ⟨λm1 m2=>A.unI m2 (@hid _ ⟨λn145 m3=>A.un0 m3 (@hid _ ⟨A.join (@hid _ ⟨λm4 a2=>A.unB m4 (@hid _ ⟨λb5 m5=>A.un0 m5 (@hid _ ⟨A.join (@hid _ ⟨λm6 m7=>A.unB m6 (@hid _ ⟨λm8 m9=>A.un0 m9 (@hid _ ⟨K [(.b m8)] m7⟩)⟩)⟩) (@hid _ ⟨λa3=>A.cmp .eql n145 7 (@hid _ ⟨λn0=>A.eqs [((.b n0),(.b b5))] (@hid _ ⟨λn1=>A.cond n1 (@hid _ ⟨A.cond (!b5) (@hid _ ⟨A.call 14 [] a2 (@hid _ ⟨λn2 n4=>A.unB n2 (@hid _ ⟨λn5 n6=>A.un0 n6 (@hid _ ⟨a3 [(.b n5)] n4⟩)⟩)⟩)⟩) (@hid _ ⟨A.cond (!m1) (@hid _ ⟨A.call 14 [] a2 (@hid _ ⟨λn7 n8=>A.unB n7 (@hid _ ⟨λo0 o1=>A.un0 o1 (@hid _ ⟨a3 [(.b o0)] n8⟩)⟩)⟩)⟩) (@hid _ ⟨a3 [(.b false)] a2⟩)⟩)⟩) (@hid _ ⟨a3 [(.b false)] a2⟩)⟩)⟩)⟩)⟩)⟩)⟩) (@hid _ ⟨λa0=>A.cmp .leq n14 0 (@hid _ ⟨λo2=>A.cond o2 (@hid _ ⟨a0 [(.b true)] V⟩) (@hid _ ⟨A.cmp .leq n16 0 (@hid _ ⟨λo3=>A.cond o3 (@hid _ ⟨a0 [(.b true)] V⟩) (@hid _ ⟨A.ari .mul .i64 2 n20 (@hid _ ⟨λo4=>A.cmp .geq n14 o4 (@hid _ ⟨λo5=>A.cond o5 (@hid _ ⟨a0 [(.b true)] V⟩) (@hid _ ⟨A.ari .mul .i64 2 n22 (@hid _ ⟨λo6=>A.cmp .geq n16 o6 (@hid _ ⟨λo7=>A.cond o7 (@hid _ ⟨a0 [(.b true)] V⟩) (@hid _ ⟨A.call 10 [(.i n20),(.i n22),(.i n14),(.i n16)] V (@hid _ ⟨λo8 o9=>A.unI o8 (@hid _ ⟨λn175 p0=>A.un0 p0 (@hid _ ⟨A.cmp .eql n175 0 (@hid _ ⟨λp1=>a0 [(.b p1)] o9⟩)⟩)⟩)⟩)⟩)⟩)⟩)⟩)⟩)⟩)⟩)⟩)⟩)⟩)⟩)⟩)⟩)⟩)⟩)⟩)⟩)⟩)⟩)⟩)⟩)⟩) [(.i 0),(.i 1)] d4⟩)⟩)⟩)⟩)⟩)⟩)⟩)⟩)⟩)⟩)⟩)⟩)
theorem g3:(λA:Alg Prop (HL)=>p3 A)=λA=>f3 A:=by kernel_rfl
theorem h3(ls:List Lf)(H:HL)(K:List Lf->HL->Prop):p3 P1 ls H K=ai P1 (xc 3) ae drN n3 ls H K:=
 congrFun (congrFun (congrFun ((congrFun g3 P1).trans (congrFun (congrFun (congrFun e3 Prop) (HL)) P1)) ls) H) K
theorem u3{ls:List Lf}{H:HL}{K:List Lf->HL->Prop}(hls:aO ls=true)(h:p3 P1 ls H K):∃rs H',aq cc ae 3 ls (absH aa H) rs (absH aa H')/\K rs H':=
 fk i3 hls (h3 ls H K▸h)
theorem x3{ls:List Lf}{H:HL}{K:List Lf->HL->Prop}(hls:aY ls)(h:p3 P1 ls H K):∃rs H',aq cc ae 3 ls (absH aa H) rs (absH aa H')/\K rs H':=
 cK i3 hls (h3 ls H K▸h)
/-- (crimp/crimplaw06.P).Of -/
def p9(A:Alg Prop (HL))(ls:List Lf)(h:HL)(K:List Lf->HL->Prop):Prop:=A.unI ls (@hid _ ⟨λa2 a3=>A.unI a3 (@hid _ ⟨λa4 a5=>A.unV a5 (@hid _ ⟨λV a6=>A.un0 a6 (@hid _ ⟨A.ari .rem .u8 a2 4 (@hid _ ⟨λn12=>A.conv .i64 n12 (@hid _ ⟨λn13=>A.ari .add .i64 1 n13 (@hid _ ⟨λn14=>A.ari .rem .u8 a4 4 (@hid _ ⟨λa7=>A.conv .i64 a7 (@hid _ ⟨λn16=>A.ari .add .i64 1 n16 (@hid _ ⟨λa0=>A.ari .mul .i64 6 n14 (@hid _ ⟨λn18=>A.ari .mul .i64 n18 a0 (@hid _ ⟨λn19=>A.opt (mkOk n19 n19) (@hid _ ⟨λe0=>A.new (.cells (aU [(.int .u8 0)] (Int.toNat n19)) 1 true) h (@hid _ ⟨λU h22=>A.join (@hid _ ⟨λa8 a9=>A.un0 a8 (@hid _ ⟨A.call 18 [(.i n14),(.i a0),(.v (.slice (some ⟨U,0,(some 11)⟩) (Int.toNat n19) ((Int.toNat n19)+1)))] a9 (@hid _ ⟨λb0 b1=>A.unI b0 (@hid _ ⟨λb2 b3=>A.unI b3 (@hid _ ⟨λb4 b5=>A.unV b5 (@hid _ ⟨λb6 b7=>A.un0 b7 (@hid _ ⟨K [(.i b2),(.i b4),(.v b6)] b1⟩)⟩)⟩)⟩)⟩)⟩)⟩) (@hid _ ⟨λa1=>A.loop (@hid _ ⟨λb8 b9 O=>A.unI b9 (@hid _ ⟨λn37 c0=>A.un0 c0 (@hid _ ⟨A.opt (lenS (.slice (some ⟨U,0,(some 11)⟩) (Int.toNat n19) ((Int.toNat n19)+1))) (@hid _ ⟨λc1=>A.cmp .lss n37 c1 (@hid _ ⟨λd0=>A.cond d0 (@hid _ ⟨A.opt (lenS V) (@hid _ ⟨λd1=>A.cmp .lss n37 d1 (@hid _ ⟨λd2=>A.cond d2 (@hid _ ⟨A.opt (idS 1 V n37) (@hid _ ⟨λd3=>A.peek (.lg cc 1 d3) O (@hid _ ⟨λd4=>A.ucI .u8 d4 (@hid _ ⟨λd5 d6=>A.uc0 d6 (@hid _ ⟨A.ari .rem .u8 d5 4 (@hid _ ⟨λd7=>A.opt (idS 1 (.slice (some ⟨U,0,(some 11)⟩) (Int.toNat n19) ((Int.toNat n19)+1)) n37) (@hid _ ⟨λd8=>A.heap (.st d8 [(.int .u8 d7)]) O (@hid _ ⟨λe1 d9=>A.ari .add .i64 n37 1 (@hid _ ⟨λn51=>b8 [(.i n51)] d9⟩)⟩)⟩)⟩)⟩)⟩)⟩)⟩)⟩) (@hid _ ⟨a1 [] O⟩)⟩)⟩)⟩) (@hid _ ⟨a1 [] O⟩)⟩)⟩)⟩)⟩)⟩) [(.i 0)] h22⟩)⟩)⟩)⟩)⟩)⟩)⟩)⟩)⟩)⟩)⟩)⟩)⟩)⟩)⟩)
theorem g9:(λA:Alg Prop (HL)=>p9 A)=λA=>f9 A:=by kernel_rfl
theorem h9(ls:List Lf)(H:HL)(K:List Lf->HL->Prop):p9 P1 ls H K=ai P1 (xc 9) ae drN n9 ls H K:=
 congrFun (congrFun (congrFun ((congrFun g9 P1).trans (congrFun (congrFun (congrFun e9 Prop) (HL)) P1)) ls) H) K
theorem x9{ls:List Lf}{H:HL}{K:List Lf->HL->Prop}(hls:aY ls)(h:p9 P1 ls H K):∃rs H',aq cc ae 9 ls (absH aa H) rs (absH aa H')/\K rs H':=
 cK i9 hls (h9 ls H K▸h)
/-- crimp/crimpref09.Is -/
def p10(A:Alg Prop (HL))(ls:List Lf)(h:HL)(K:List Lf->HL->Prop):Prop:=A.unI ls (@hid _ ⟨λO U=>A.unI U (@hid _ ⟨λV a0=>A.unI a0 (@hid _ ⟨λn10 a1=>A.unI a1 (@hid _ ⟨λn12 a2=>A.un0 a2 (@hid _ ⟨A.cmp .gtr n10 0 (@hid _ ⟨λa3=>A.cond a3 (@hid _ ⟨A.cmp .gtr n12 0 (@hid _ ⟨λa4=>A.cond a4 (@hid _ ⟨A.ari .mul .i64 2 O (@hid _ ⟨λn16=>A.cmp .lss n10 n16 (@hid _ ⟨λa5=>A.cond a5 (@hid _ ⟨A.ari .mul .i64 2 V (@hid _ ⟨λn18=>A.cmp .lss n12 n18 (@hid _ ⟨λa6=>A.cond a6 (@hid _ ⟨A.ari .sub .i64 n10 n12 (@hid _ ⟨λn20=>A.ari .rem .i64 n20 2 (@hid _ ⟨λn21=>A.cmp .eql n21 0 (@hid _ ⟨λa7=>A.join (@hid _ ⟨λa8 a9=>A.un0 a8 (@hid _ ⟨K [(.i 0)] a9⟩)⟩) (@hid _ ⟨λb0=>A.cond a7 (@hid _ ⟨K [(.i 1)] h⟩) (@hid _ ⟨b0 [] h⟩)⟩)⟩)⟩)⟩)⟩) (@hid _ ⟨K [(.i 0)] h⟩)⟩)⟩)⟩) (@hid _ ⟨K [(.i 0)] h⟩)⟩)⟩)⟩) (@hid _ ⟨K [(.i 0)] h⟩)⟩)⟩) (@hid _ ⟨K [(.i 0)] h⟩)⟩)⟩)⟩)⟩)⟩)⟩)
theorem g10:(λA:Alg Prop (HL)=>p10 A)=λA=>f10 A:=by kernel_rfl
theorem h10(ls:List Lf)(H:HL)(K:List Lf->HL->Prop):p10 P1 ls H K=ai P1 (xc 10) ae drN n10 ls H K:=
 congrFun (congrFun (congrFun ((congrFun g10 P1).trans (congrFun (congrFun (congrFun e10 Prop) (HL)) P1)) ls) H) K
theorem u10{ls:List Lf}{H:HL}{K:List Lf->HL->Prop}(hls:aO ls=true)(h:p10 P1 ls H K):∃rs H',aq cc ae 10 ls (absH aa H) rs (absH aa H')/\K rs H':=
 fk i10 hls (h10 ls H K▸h)
theorem q10{ls rs:List Lf}(hls:aO ls=true)(h:p10 P1 ls [] λrs' _=>rs'=rs):Cc 10 ls rs:=by
 obtain⟨_,_,h1,rfl⟩:=u10 hls h
 exact fz mixed bv (sg:=⟨[.agg [.i .i64,.i .i64],.agg [.i .i64,.i .i64]],[li]⟩) rfl (by kernel_rfl) h1
/-- crimp/crimpref09.Creases -/
def p11(A:Alg Prop (HL))(ls:List Lf)(h:HL)(K:List Lf->HL->Prop):Prop:=A.unI ls (@hid _ ⟨λb4 b5=>A.unI b5 (@hid _ ⟨λb6 b7=>A.unV b7 (@hid _ ⟨λa5 b8=>A.unI b8 (@hid _ ⟨λn12 b9=>A.unI b9 (@hid _ ⟨λn14 c0=>A.un0 c0 (@hid _ ⟨A.loop (@hid _ ⟨λc1 d0 h18=>A.unV d0 (@hid _ ⟨λa6 d1=>A.unI d1 (@hid _ ⟨λn21 d2=>A.un0 d2 (@hid _ ⟨A.cmp .lss n21 8 (@hid _ ⟨λd3=>A.cond d3 (@hid _ ⟨A.loop (@hid _ ⟨λV d4 a0=>A.unV d4 (@hid _ ⟨λO d5=>A.unI d5 (@hid _ ⟨λU d6=>A.un0 d6 (@hid _ ⟨A.opt (lenS a5) (@hid _ ⟨λd7=>A.cmp .lss U d7 (@hid _ ⟨λd8=>A.cond d8 (@hid _ ⟨A.opt (idS 3 a5 U) (@hid _ ⟨λd9=>A.peek (.lg cc 3 d9) a0 (@hid _ ⟨λe0=>A.ucI .i64 e0 (@hid _ ⟨λn35 e1=>A.ucI .u8 e1 (@hid _ ⟨λn37 e2=>A.ucI .u8 e2 (@hid _ ⟨λn39 e4=>A.uc0 e4 (@hid _ ⟨A.call 19 [(.i b4),(.i b6),(.i n35),(.i n37)] a0 (@hid _ ⟨λe5 a1=>A.unI e5 (@hid _ ⟨λn43 e6=>A.unI e6 (@hid _ ⟨λa2 e7=>A.unI e7 (@hid _ ⟨λa3 e8=>A.unI e8 (@hid _ ⟨λn49 f0=>A.un0 f0 (@hid _ ⟨A.eqs [((.i n43),(.i n12)),((.i a2),(.i n14))] (@hid _ ⟨λf1=>A.cond f1 (@hid _ ⟨A.call 36 [(.i n12),(.i n14),(.i a3),(.i n49)] a1 (@hid _ ⟨λf2 a4=>A.unI f2 (@hid _ ⟨λn54 f4=>A.un0 f4 (@hid _ ⟨A.cmp .eql n54 n21 (@hid _ ⟨λf5=>A.cond f5 (@hid _ ⟨A.new (.cells [(.int .i64 n21),(.int .u8 n39)] 2 true) a4 (@hid _ ⟨λf6 f7=>A.heap (.ap cc 2 16 O (.slice (some ⟨f6,0,(some 12)⟩) 1 2)) f7 (@hid _ ⟨λf8 g0=>A.ucV f8 (@hid _ ⟨λa7 g1=>A.chk a7 (@hid _ ⟨A.uc0 g1 (@hid _ ⟨A.ari .add .i64 U 1 (@hid _ ⟨λg2=>V [(.v a7),(.i g2)] g0⟩)⟩)⟩)⟩)⟩)⟩)⟩) (@hid _ ⟨A.eqs [((.i a3),(.i n12)),((.i n49),(.i n14))] (@hid _ ⟨λg4=>A.cond g4 (@hid _ ⟨A.call 36 [(.i n12),(.i n14),(.i n43),(.i a2)] a4 (@hid _ ⟨λg5 a8=>A.unI g5 (@hid _ ⟨λn67 g6=>A.un0 g6 (@hid _ ⟨A.cmp .eql n67 n21 (@hid _ ⟨λg7=>A.join (@hid _ ⟨λg8 h71=>A.unV g8 (@hid _ ⟨λh0 h1=>A.un0 h1 (@hid _ ⟨A.ari .add .i64 U 1 (@hid _ ⟨λn74=>V [(.v h0),(.i n74)] h71⟩)⟩)⟩)⟩) (@hid _ ⟨λa9=>A.cond g7 (@hid _ ⟨A.new (.cells [(.int .i64 n21),(.int .u8 n39)] 2 true) a8 (@hid _ ⟨λh2 h4=>A.heap (.ap cc 2 16 O (.slice (some ⟨h2,0,(some 12)⟩) 1 2)) h4 (@hid _ ⟨λh5 h6=>A.ucV h5 (@hid _ ⟨λb0 h7=>A.chk b0 (@hid _ ⟨A.uc0 h7 (@hid _ ⟨a9 [(.v b0)] h6⟩)⟩)⟩)⟩)⟩)⟩) (@hid _ ⟨a9 [(.v O)] a8⟩)⟩)⟩)⟩)⟩)⟩)⟩) (@hid _ ⟨A.ari .add .i64 U 1 (@hid _ ⟨λn82=>V [(.v O),(.i n82)] a4⟩)⟩)⟩)⟩)⟩)⟩)⟩)⟩)⟩) (@hid _ ⟨A.eqs [((.i a3),(.i n12)),((.i n49),(.i n14))] (@hid _ ⟨λh8=>A.cond h8 (@hid _ ⟨A.call 36 [(.i n12),(.i n14),(.i n43),(.i a2)] a1 (@hid _ ⟨λi0 b1=>A.unI i0 (@hid _ ⟨λn86 i1=>A.un0 i1 (@hid _ ⟨A.cmp .eql n86 n21 (@hid _ ⟨λi2=>A.join (@hid _ ⟨λi4 h90=>A.unV i4 (@hid _ ⟨λi5 i6=>A.un0 i6 (@hid _ ⟨A.ari .add .i64 U 1 (@hid _ ⟨λn93=>V [(.v i5),(.i n93)] h90⟩)⟩)⟩)⟩) (@hid _ ⟨λb2=>A.cond i2 (@hid _ ⟨A.new (.cells [(.int .i64 n21),(.int .u8 n39)] 2 true) b1 (@hid _ ⟨λi7 i8=>A.heap (.ap cc 2 16 O (.slice (some ⟨i7,0,(some 12)⟩) 1 2)) i8 (@hid _ ⟨λj0 j1=>A.ucV j0 (@hid _ ⟨λb3 j2=>A.chk b3 (@hid _ ⟨A.uc0 j2 (@hid _ ⟨b2 [(.v b3)] j1⟩)⟩)⟩)⟩)⟩)⟩) (@hid _ ⟨b2 [(.v O)] b1⟩)⟩)⟩)⟩)⟩)⟩)⟩) (@hid _ ⟨A.ari .add .i64 U 1 (@hid _ ⟨λj3=>V [(.v O),(.i j3)] a1⟩)⟩)⟩)⟩)⟩)⟩)⟩)⟩)⟩)⟩)⟩)⟩)⟩)⟩)⟩)⟩)⟩)⟩) (@hid _ ⟨A.ari .add .i64 n21 1 (@hid _ ⟨λn102=>c1 [(.v O),(.i n102)] a0⟩)⟩)⟩)⟩)⟩)⟩)⟩)⟩) [(.v a6),(.i 0)] h18⟩) (@hid _ ⟨K [(.v a6)] h18⟩)⟩)⟩)⟩)⟩)⟩) [(.v (.slice none 0 0)),(.i 0)] h⟩)⟩)⟩)⟩)⟩)⟩)
theorem g11:(λA:Alg Prop (HL)=>p11 A)=λA=>f11 A:=by kernel_rfl
theorem h11(ls:List Lf)(H:HL)(K:List Lf->HL->Prop):p11 P1 ls H K=ai P1 (xc 11) ae drN n11 ls H K:=
 congrFun (congrFun (congrFun ((congrFun g11 P1).trans (congrFun (congrFun (congrFun e11 Prop) (HL)) P1)) ls) H) K
theorem x11{ls:List Lf}{H:HL}{K:List Lf->HL->Prop}(hls:aY ls)(h:p11 P1 ls H K):∃rs H',aq cc ae 11 ls (absH aa H) rs (absH aa H')/\K rs H':=
 cK i11 hls (h11 ls H K▸h)
/-- crimp/places.Closes -/
def p12(A:Alg Prop (HL))(ls:List Lf)(h:HL)(K:List Lf->HL->Prop):Prop:=A.unI ls (@hid _ ⟨λa2 a3=>A.unI a3 (@hid _ ⟨λa4 a5=>A.unV a5 (@hid _ ⟨λa6 a7=>A.unI a7 (@hid _ ⟨λn12 a8=>A.unI a8 (@hid _ ⟨λn14 a9=>A.un0 a9 (@hid _ ⟨A.call 37 [(.i a2),(.i a4),(.v a6),(.i n12),(.i n14)] h (@hid _ ⟨λb0 a0=>A.unV b0 (@hid _ ⟨λx18 b1=>A.unI b1 (@hid _ ⟨λn20 b2=>A.un0 b2 (@hid _ ⟨A.cmp .neq n20 0 (@hid _ ⟨λb3=>A.cond b3 (@hid _ ⟨K [(.b false),(.i n20)] a0⟩) (@hid _ ⟨A.new (.cells [(.int .u8 0),(.int .i64 0),(.int .i64 0)] 3 true) a0 (@hid _ ⟨λU b4=>A.chk (.func (.func 38) ⟨[(.pointer (some ⟨U,0,none⟩))]⟩ ⟨[]⟩) (@hid _ ⟨A.opt (lenS x18) (@hid _ ⟨λb5=>A.loop (@hid _ ⟨λb6 b7 O=>A.unI b7 (@hid _ ⟨λV b8=>A.un0 b8 (@hid _ ⟨A.cmp .lss V b5 (@hid _ ⟨λb9=>A.cond b9 (@hid _ ⟨A.opt (idS 2 x18 V) (@hid _ ⟨λc0=>A.peek (.lg cc 2 c0) O (@hid _ ⟨λc1=>A.ucI .i64 c1 (@hid _ ⟨λd0 d1=>A.ucI .u8 d1 (@hid _ ⟨λn36 d2=>A.uc0 d2 (@hid _ ⟨A.ari .rem .i64 d0 4 (@hid _ ⟨λn38=>A.opt (inB 4 n38) (@hid _ ⟨λg0=>A.opt (dn [(.i 2),(.i 4),(.i 1),(.i 3)] 0 [(n38,1)] 1) (@hid _ ⟨λd3=>A.unI d3 (@hid _ ⟨λn41 d4=>A.un0 d4 (@hid _ ⟨A.call 39 [(.i n41),(.i n12),(.i n14)] O (@hid _ ⟨λd5 d6=>A.unI d5 (@hid _ ⟨λd7 d8=>A.unI d8 (@hid _ ⟨λd9 e0=>A.unI e0 (@hid _ ⟨λn49 e1=>A.un0 e1 (@hid _ ⟨A.callv (.func (.func 38) ⟨[(.pointer (some ⟨U,0,none⟩))]⟩ ⟨[]⟩) [(.agg ⟨[(.int .u8 d7),(.int .i64 d9)]⟩)] [] d6 (@hid _ ⟨λe2 e4=>A.un0 e2 (@hid _ ⟨A.ari .add .i64 V 1 (@hid _ ⟨λn53=>b6 [(.i n53)] e4⟩)⟩)⟩)⟩)⟩)⟩)⟩)⟩)⟩)⟩)⟩)⟩)⟩)⟩)⟩)⟩)⟩)⟩)⟩) (@hid _ ⟨A.opt (fdP 0 (.pointer (some ⟨U,0,none⟩))) (@hid _ ⟨λa1=>A.chk a1 (@hid _ ⟨A.peek (.lg cc 3 a1) O (@hid _ ⟨λe5=>A.ucI .u8 e5 (@hid _ ⟨λn56 e6=>A.ucI .i64 e6 (@hid _ ⟨λn58 e7=>A.ucI .i64 e7 (@hid _ ⟨λe8 f0=>A.uc0 f0 (@hid _ ⟨A.call 22 [] O (@hid _ ⟨λf1 f2=>A.unI f1 (@hid _ ⟨λf4 f5=>A.unI f5 (@hid _ ⟨λn66 f6=>A.unI f6 (@hid _ ⟨λn68 f7=>A.un0 f7 (@hid _ ⟨A.eqs [((.i n56),(.i f4)),((.i n58),(.i n66)),((.i e8),(.i n68))] (@hid _ ⟨λf8=>K [(.b f8),(.i 0)] f2⟩)⟩)⟩)⟩)⟩)⟩)⟩)⟩)⟩)⟩)⟩)⟩)⟩)⟩)⟩)⟩)⟩)⟩) [(.i 0)] b4⟩)⟩)⟩)⟩)⟩)⟩)⟩)⟩)⟩)⟩)⟩)⟩)⟩)⟩)⟩)
theorem g12:(λA:Alg Prop (HL)=>p12 A)=λA=>f12 A:=by kernel_rfl
theorem h12(ls:List Lf)(H:HL)(K:List Lf->HL->Prop):p12 P1 ls H K=ai P1 (xc 12) ae drN n12 ls H K:=
 congrFun (congrFun (congrFun ((congrFun g12 P1).trans (congrFun (congrFun (congrFun e12 Prop) (HL)) P1)) ls) H) K
theorem x12{ls:List Lf}{H:HL}{K:List Lf->HL->Prop}(hls:aY ls)(h:p12 P1 ls H K):∃rs H',aq cc ae 12 ls (absH aa H) rs (absH aa H')/\K rs H':=
 cK i12 hls (h12 ls H K▸h)
/-- crimp/crimpref10.Product -/
def p13(A:Alg Prop (HL))(ls:List Lf)(h:HL)(K:List Lf->HL->Prop):Prop:=A.unI ls (@hid _ ⟨λa3 a4=>A.unI a4 (@hid _ ⟨λa5 a6=>A.unV a6 (@hid _ ⟨λV a7=>A.un0 a7 (@hid _ ⟨A.loop (@hid _ ⟨λa8 a9 a0=>A.unI a9 (@hid _ ⟨λO b0=>A.unI b0 (@hid _ ⟨λa1 b1=>A.unI b1 (@hid _ ⟨λn19 b2=>A.unI b2 (@hid _ ⟨λn21 b3=>A.un0 b3 (@hid _ ⟨A.opt (lenS V) (@hid _ ⟨λb4=>A.cmp .lss O b4 (@hid _ ⟨λb5=>A.cond b5 (@hid _ ⟨A.new (.cells [(.int .u8 2),(.int .u8 4),(.int .u8 1),(.int .u8 3)] 1 true) a0 (@hid _ ⟨λb6 U=>A.opt (idS 1 V O) (@hid _ ⟨λb7=>A.peek (.lg cc 1 b7) U (@hid _ ⟨λb8=>A.ucI .i64 b8 (@hid _ ⟨λb9 c0=>A.uc0 c0 (@hid _ ⟨A.ari .rem .i64 b9 4 (@hid _ ⟨λn31=>A.opt (idS 1 (.slice (some ⟨b6,0,(some 11)⟩) 4 5) n31) (@hid _ ⟨λc1=>A.peek (.lg cc 1 c1) U (@hid _ ⟨λd0=>A.ucI .u8 d0 (@hid _ ⟨λa2 d1=>A.uc0 d1 (@hid _ ⟨A.call 40 [(.i a2)] U (@hid _ ⟨λd2 h37=>A.unI d2 (@hid _ ⟨λn38 d3=>A.unI d3 (@hid _ ⟨λn40 d4=>A.un0 d4 (@hid _ ⟨A.ari .mul .i64 n38 a3 (@hid _ ⟨λn42=>A.ari .mul .i64 n40 a5 (@hid _ ⟨λn43=>A.ari .add .i64 n42 n43 (@hid _ ⟨λn44=>A.ari .quo .i64 n44 2 (@hid _ ⟨λd5=>A.call 42 [(.i a2),(.i d5)] h37 (@hid _ ⟨λd6 d7=>A.unI d6 (@hid _ ⟨λn48 d8=>A.unI d8 (@hid _ ⟨λn50 d9=>A.unI d9 (@hid _ ⟨λn52 e0=>A.un0 e0 (@hid _ ⟨A.call 41 [(.i a1),(.i n19),(.i n21),(.i n48),(.i n50),(.i n52)] d7 (@hid _ ⟨λe1 e2=>A.unI e1 (@hid _ ⟨λn56 e4=>A.unI e4 (@hid _ ⟨λn58 e5=>A.unI e5 (@hid _ ⟨λe6 e7=>A.un0 e7 (@hid _ ⟨A.ari .add .i64 O 1 (@hid _ ⟨λe8=>a8 [(.i e8),(.i n56),(.i n58),(.i e6)] e2⟩)⟩)⟩)⟩)⟩)⟩)⟩)⟩)⟩)⟩)⟩)⟩)⟩)⟩)⟩)⟩)⟩)⟩)⟩)⟩)⟩)⟩)⟩)⟩)⟩)⟩)⟩)⟩)⟩)⟩) (@hid _ ⟨K [(.i a1),(.i n19),(.i n21)] a0⟩)⟩)⟩)⟩)⟩)⟩)⟩)⟩)⟩) [(.i 0),(.i 0),(.i 0),(.i 0)] h⟩)⟩)⟩)⟩)
theorem g13:(λA:Alg Prop (HL)=>p13 A)=λA=>f13 A:=by kernel_rfl
theorem h13(ls:List Lf)(H:HL)(K:List Lf->HL->Prop):p13 P1 ls H K=ai P1 (xc 13) ae drN n13 ls H K:=
 congrFun (congrFun (congrFun ((congrFun g13 P1).trans (congrFun (congrFun (congrFun e13 Prop) (HL)) P1)) ls) H) K
theorem x13{ls:List Lf}{H:HL}{K:List Lf->HL->Prop}(hls:aY ls)(h:p13 P1 ls H K):∃rs H',aq cc ae 13 ls (absH aa H) rs (absH aa H')/\K rs H':=
 cK i13 hls (h13 ls H K▸h)
/-- crimp/crimpref06.With -/
def p18(A:Alg Prop (HL))(ls:List Lf)(h:HL)(K:List Lf->HL->Prop):Prop:=A.unI ls (@hid _ ⟨λa2 a8=>A.unI a8 (@hid _ ⟨λa3 a9=>A.unV a9 (@hid _ ⟨λa0 b0=>A.un0 b0 (@hid _ ⟨A.call 16 [(.i a2),(.i a3)] h (@hid _ ⟨λb1 h13=>A.unV b1 (@hid _ ⟨λa1 b2=>A.un0 b2 (@hid _ ⟨A.join (@hid _ ⟨λb3 b4=>A.unI b3 (@hid _ ⟨λn18 b5=>A.unI b5 (@hid _ ⟨λn20 b6=>A.unV b6 (@hid _ ⟨λb7 b8=>A.un0 b8 (@hid _ ⟨K [(.i n18),(.i n20),(.v b7)] b4⟩)⟩)⟩)⟩)⟩) (@hid _ ⟨λa4=>A.loop (@hid _ ⟨λb9 c0 O=>A.unI c0 (@hid _ ⟨λn28 c1=>A.unI c1 (@hid _ ⟨λn30 d0=>A.unI d0 (@hid _ ⟨λU d1=>A.unV d1 (@hid _ ⟨λV d2=>A.un0 d2 (@hid _ ⟨A.opt (lenS a1) (@hid _ ⟨λd3=>A.cmp .lss n28 d3 (@hid _ ⟨λd4=>A.cond d4 (@hid _ ⟨A.opt (lenS a0) (@hid _ ⟨λx38=>A.cmp .lss n28 x38 (@hid _ ⟨λd5=>A.cond d5 (@hid _ ⟨A.opt (idS 1 a0 n28) (@hid _ ⟨λd6=>A.peek (.lg cc 1 d6) O (@hid _ ⟨λd7=>A.ucI .u8 d7 (@hid _ ⟨λn42 d8=>A.uc0 d8 (@hid _ ⟨A.cmp .neq n42 0 (@hid _ ⟨λd9=>A.join (@hid _ ⟨λe0 e1=>A.unI e0 (@hid _ ⟨λe2 e4=>A.unI e4 (@hid _ ⟨λn49 e5=>A.unV e5 (@hid _ ⟨λe6 e7=>A.un0 e7 (@hid _ ⟨A.ari .add .i64 n28 1 (@hid _ ⟨λn53=>b9 [(.i n53),(.i e2),(.i n49),(.v e6)] e1⟩)⟩)⟩)⟩)⟩)⟩) (@hid _ ⟨λa5=>A.cond d9 (@hid _ ⟨A.opt (idS 2 a1 n28) (@hid _ ⟨λe8=>A.opt (fdP 0 e8) (@hid _ ⟨λa6=>A.chk a6 (@hid _ ⟨A.peek (.lg cc 1 a6) O (@hid _ ⟨λf0=>A.ucI .i64 f0 (@hid _ ⟨λn58 f1=>A.uc0 f1 (@hid _ ⟨A.opt (idS 2 a1 n28) (@hid _ ⟨λf2=>A.opt (fdP 1 f2) (@hid _ ⟨λa7=>A.chk a7 (@hid _ ⟨A.peek (.lg cc 1 a7) O (@hid _ ⟨λf4=>A.ucI .u8 f4 (@hid _ ⟨λf5 f6=>A.uc0 f6 (@hid _ ⟨A.opt (idS 1 a0 n28) (@hid _ ⟨λf7=>A.peek (.lg cc 1 f7) O (@hid _ ⟨λf8=>A.ucI .u8 f8 (@hid _ ⟨λn67 g0=>A.uc0 g0 (@hid _ ⟨A.new (.cells [(.int .i64 n58),(.int .u8 f5),(.int .u8 n67)] 3 true) O (@hid _ ⟨λg1 g2=>A.heap (.ap cc 3 16 V (.slice (some ⟨g1,0,(some 13)⟩) 1 2)) g2 (@hid _ ⟨λg4 h72=>A.ucV g4 (@hid _ ⟨λx73 g5=>A.chk x73 (@hid _ ⟨A.uc0 g5 (@hid _ ⟨a5 [(.i n30),(.i U),(.v x73)] h72⟩)⟩)⟩)⟩)⟩)⟩)⟩)⟩)⟩)⟩)⟩)⟩)⟩)⟩)⟩)⟩)⟩)⟩)⟩)⟩)⟩)⟩) (@hid _ ⟨a5 [(.i n30),(.i U),(.v V)] O⟩)⟩)⟩)⟩)⟩)⟩)⟩)⟩) (@hid _ ⟨a4 [(.i n30),(.i U),(.v V)] O⟩)⟩)⟩)⟩) (@hid _ ⟨a4 [(.i n30),(.i U),(.v V)] O⟩)⟩)⟩)⟩)⟩)⟩)⟩)⟩)⟩) [(.i 0),(.i a2),(.i a3),(.v (.slice none 0 0))] h13⟩)⟩)⟩)⟩)⟩)⟩)⟩)⟩)
theorem g18:(λA:Alg Prop (HL)=>p18 A)=λA=>f18 A:=by kernel_rfl
theorem h18(ls:List Lf)(H:HL)(K:List Lf->HL->Prop):p18 P1 ls H K=ai P1 (xc 18) ae drN n18 ls H K:=
 congrFun (congrFun (congrFun ((congrFun g18 P1).trans (congrFun (congrFun (congrFun e18 Prop) (HL)) P1)) ls) H) K
theorem x18{ls:List Lf}{H:HL}{K:List Lf->HL->Prop}(hls:aY ls)(h:p18 P1 ls H K):∃rs H',aq cc ae 18 ls (absH aa H) rs (absH aa H')/\K rs H':=
 cK i18 hls (h18 ls H K▸h)
/-- crimp/moves.Identity -/
def p22(A:Alg Prop (HL))(ls:List Lf)(h:HL)(K:List Lf->HL->Prop):Prop:=A.un0 ls (@hid _ ⟨K [(.i 0),(.i 0),(.i 0)] h⟩)
theorem g22:(λA:Alg Prop (HL)=>p22 A)=λA=>f22 A:=by kernel_rfl
theorem h22(ls:List Lf)(H:HL)(K:List Lf->HL->Prop):p22 P1 ls H K=ai P1 (xc 22) ae drN n22 ls H K:=
 congrFun (congrFun (congrFun ((congrFun g22 P1).trans (congrFun (congrFun (congrFun e22 Prop) (HL)) P1)) ls) H) K
theorem u22{ls:List Lf}{H:HL}{K:List Lf->HL->Prop}(hls:aO ls=true)(h:p22 P1 ls H K):∃rs H',aq cc ae 22 ls (absH aa H) rs (absH aa H')/\K rs H':=
 fk i22 hls (h22 ls H K▸h)
theorem q22{ls rs:List Lf}(hls:aO ls=true)(h:p22 P1 ls [] λrs' _=>rs'=rs):Cc 22 ls rs:=by
 obtain⟨_,_,h1,rfl⟩:=u22 hls h
 exact fz mixed bv (sg:=⟨[],[.agg [.i .u8,.i .i64,.i .i64]]⟩) rfl (by kernel_rfl) h1
/-- crimp/corners.Creases -/
def p37(A:Alg Prop (HL))(ls:List Lf)(h:HL)(K:List Lf->HL->Prop):Prop:=A.unI ls (@hid _ ⟨λb0 b1=>A.unI b1 (@hid _ ⟨λb2 b3=>A.unV b3 (@hid _ ⟨λb4 b5=>A.unI b5 (@hid _ ⟨λn12 b6=>A.unI b6 (@hid _ ⟨λn14 b7=>A.un0 b7 (@hid _ ⟨A.new (.cells [(.int .i64 b0),(.int .i64 b2),b4] 3 true) h (@hid _ ⟨λO a1=>A.peek (.lg cc 3 (.pointer (some ⟨O,0,none⟩))) a1 (@hid _ ⟨λb8=>A.ucI .i64 b8 (@hid _ ⟨λn19 b9=>A.ucI .i64 b9 (@hid _ ⟨λn21 c0=>A.ucV c0 (@hid _ ⟨λa2 c1=>A.chk a2 (@hid _ ⟨A.uc0 c1 (@hid _ ⟨A.call 49 [(.i n19),(.i n21),(.v a2)] a1 (@hid _ ⟨λd0 U=>A.unI d0 (@hid _ ⟨λa3 d1=>A.un0 d1 (@hid _ ⟨A.cmp .neq a3 0 (@hid _ ⟨λd2=>A.cond d2 (@hid _ ⟨K [(.v (.slice none 0 0)),(.i a3)] U⟩) (@hid _ ⟨A.opt (fdP 0 (.pointer (some ⟨O,0,none⟩))) (@hid _ ⟨λa4=>A.chk a4 (@hid _ ⟨A.peek (.lg cc 2 a4) U (@hid _ ⟨λd3=>A.ucI .i64 d3 (@hid _ ⟨λd4 d5=>A.ucI .i64 d5 (@hid _ ⟨λd6 d7=>A.uc0 d7 (@hid _ ⟨A.call 71 [(.i d4),(.i d6),(.i n12),(.i n14)] U (@hid _ ⟨λd8 h37=>A.unI d8 (@hid _ ⟨λn38 d9=>A.un0 d9 (@hid _ ⟨A.cmp .neq n38 0 (@hid _ ⟨λe0=>A.cond e0 (@hid _ ⟨K [(.v (.slice none 0 0)),(.i n38)] h37⟩) (@hid _ ⟨A.new (.cells [(.slice none 0 0)] 1 true) h37 (@hid _ ⟨λV a5=>A.opt (fdP 0 (.pointer (some ⟨O,0,none⟩))) (@hid _ ⟨λa6=>A.chk a6 (@hid _ ⟨A.peek (.lg cc 2 a6) a5 (@hid _ ⟨λe1=>A.ucI .i64 e1 (@hid _ ⟨λe2 e4=>A.ucI .i64 e4 (@hid _ ⟨λe5 e6=>A.uc0 e6 (@hid _ ⟨A.call 72 [(.i e2),(.i e5),(.i n12),(.i n14)] a5 (@hid _ ⟨λe7 e8=>A.unV e7 (@hid _ ⟨λf0 f1=>A.un0 f1 (@hid _ ⟨A.rfun 592 f0 [(.pointer (some ⟨O,0,none⟩)),(.pointer (some ⟨V,0,none⟩))] e8 (@hid _ ⟨λf2 a0=>A.pend f2 (@hid _ ⟨A.peek (.lg cc 1 (.pointer (some ⟨V,0,none⟩))) a0 (@hid _ ⟨λf4=>A.ucV f4 (@hid _ ⟨λa7 f5=>A.chk a7 (@hid _ ⟨A.uc0 f5 (@hid _ ⟨A.call 74 [(.v a7),(.v (.func (.func 75) ⟨[]⟩ ⟨[]⟩))] a0 (@hid _ ⟨λf6 a8=>A.un0 f6 (@hid _ ⟨A.peek (.lg cc 1 (.pointer (some ⟨V,0,none⟩))) a8 (@hid _ ⟨λf7=>A.ucV f7 (@hid _ ⟨λa9 f8=>A.chk a9 (@hid _ ⟨A.uc0 f8 (@hid _ ⟨A.call 76 [(.v a9)] a8 (@hid _ ⟨λg0 g1=>A.unV g0 (@hid _ ⟨λg2 g4=>A.un0 g4 (@hid _ ⟨K [(.v g2),(.i 0)] g1⟩)⟩)⟩)⟩)⟩)⟩)⟩)⟩)⟩)⟩)⟩)⟩)⟩)⟩) (@hid _ ⟨K [(.v (.slice none 0 0)),(.i 0)] a0⟩) []⟩)⟩)⟩)⟩)⟩)⟩)⟩)⟩)⟩)⟩)⟩)⟩)⟩)⟩)⟩)⟩)⟩)⟩)⟩)⟩)⟩)⟩)⟩)⟩)⟩)⟩)⟩)⟩)⟩)⟩)⟩)⟩)⟩)⟩)⟩)⟩)⟩)⟩)⟩)⟩)
theorem g37:(λA:Alg Prop (HL)=>p37 A)=λA=>f37 A:=by kernel_rfl
theorem h37(ls:List Lf)(H:HL)(K:List Lf->HL->Prop):p37 P1 ls H K=ai P1 (xc 37) ae drN n37 ls H K:=
 congrFun (congrFun (congrFun ((congrFun g37 P1).trans (congrFun (congrFun (congrFun e37 Prop) (HL)) P1)) ls) H) K
theorem x37{ls:List Lf}{H:HL}{K:List Lf->HL->Prop}(hls:aY ls)(h:p37 P1 ls H K):∃rs H',aq cc ae 37 ls (absH aa H) rs (absH aa H')/\K rs H':=
 cK i37 hls (h37 ls H K▸h)
/-- (*crimp/places.chain).add -/
def p38(A:Alg Prop (HL))(ls:List Lf)(h:HL)(K:List Lf->HL->Prop):Prop:=A.unV ls (@hid _ ⟨λO a2=>A.unI a2 (@hid _ ⟨λa3 a4=>A.unI a4 (@hid _ ⟨λn10 a5=>A.un0 a5 (@hid _ ⟨A.call 77 [(.i a3),(.i n10)] h (@hid _ ⟨λa6 h13=>A.unI a6 (@hid _ ⟨λn14 a7=>A.unI a7 (@hid _ ⟨λn16 a8=>A.unI a8 (@hid _ ⟨λn18 a9=>A.unI a9 (@hid _ ⟨λn20 b0=>A.un0 b0 (@hid _ ⟨A.opt (nilP O) (@hid _ ⟨λU=>A.chk U (@hid _ ⟨A.opt (fdP 0 U) (@hid _ ⟨λV=>A.chk V (@hid _ ⟨A.peek (.lg cc 3 V) h13 (@hid _ ⟨λb1=>A.ucI .u8 b1 (@hid _ ⟨λb2 b3=>A.ucI .i64 b3 (@hid _ ⟨λb4 b5=>A.ucI .i64 b5 (@hid _ ⟨λb6 b7=>A.uc0 b7 (@hid _ ⟨A.call 24 [(.i b2),(.i b4),(.i b6),(.i n14),(.i n16),(.i n18)] h13 (@hid _ ⟨λb8 b9=>A.unI b8 (@hid _ ⟨λc0 c1=>A.unI c1 (@hid _ ⟨λn35 d0=>A.unI d0 (@hid _ ⟨λn37 d1=>A.unI d1 (@hid _ ⟨λn39 d2=>A.un0 d2 (@hid _ ⟨A.opt (nilP O) (@hid _ ⟨λa0=>A.chk a0 (@hid _ ⟨A.opt (fdP 0 a0) (@hid _ ⟨λa1=>A.chk a1 (@hid _ ⟨A.heap (.st a1 [(.int .u8 c0),(.int .i64 n35),(.int .i64 n37)]) b9 (@hid _ ⟨λd4 d3=>K [] d3⟩)⟩)⟩)⟩)⟩)⟩)⟩)⟩)⟩)⟩)⟩)⟩)⟩)⟩)⟩)⟩)⟩)⟩)⟩)⟩)⟩)⟩)⟩)⟩)⟩)⟩)⟩)⟩)⟩)⟩)
theorem g38:(λA:Alg Prop (HL)=>p38 A)=λA=>f38 A:=by kernel_rfl
theorem h38(ls:List Lf)(H:HL)(K:List Lf->HL->Prop):p38 P1 ls H K=ai P1 (xc 38) ae drN n38 ls H K:=
 congrFun (congrFun (congrFun ((congrFun g38 P1).trans (congrFun (congrFun (congrFun e38 Prop) (HL)) P1)) ls) H) K
theorem x38{ls:List Lf}{H:HL}{K:List Lf->HL->Prop}(hls:aY ls)(h:p38 P1 ls H K):∃rs H',aq cc ae 38 ls (absH aa H) rs (absH aa H')/\K rs H':=
 cK i38 hls (h38 ls H K▸h)
/-- crimp/patterns.Check -/
def p49(A:Alg Prop (HL))(ls:List Lf)(h:HL)(K:List Lf->HL->Prop):Prop:=A.unI ls (@hid _ ⟨λa1 a6=>A.unI a6 (@hid _ ⟨λa2 a7=>A.unV a7 (@hid _ ⟨λO a8=>A.un0 a8 (@hid _ ⟨A.call 86 [(.i a1),(.i a2)] h (@hid _ ⟨λa9 h13=>A.unI a9 (@hid _ ⟨λn14 b0=>A.un0 b0 (@hid _ ⟨A.cmp .neq n14 0 (@hid _ ⟨λb1=>A.cond b1 (@hid _ ⟨K [(.i n14)] h13⟩) (@hid _ ⟨A.call 87 [(.v O),(.v (.func (.func 88) ⟨[]⟩ ⟨[]⟩))] h13 (@hid _ ⟨λb2 h18=>A.unB b2 (@hid _ ⟨λb3 b4=>A.un0 b4 (@hid _ ⟨A.cond b3 (@hid _ ⟨K [(.i 1)] h18⟩) (@hid _ ⟨A.opt (lenS O) (@hid _ ⟨λb5=>A.loop (@hid _ ⟨λb6 b7 U=>A.unI b7 (@hid _ ⟨λV b8=>A.un0 b8 (@hid _ ⟨A.cmp .lss V b5 (@hid _ ⟨λb9=>A.cond b9 (@hid _ ⟨A.opt (idS 3 O V) (@hid _ ⟨λc0=>A.peek (.lg cc 3 c0) U (@hid _ ⟨λc1=>A.ucI .i64 c1 (@hid _ ⟨λn30 d0=>A.ucI .u8 d0 (@hid _ ⟨λa3 d1=>A.ucI .u8 d1 (@hid _ ⟨λd2 d3=>A.uc0 d3 (@hid _ ⟨A.call 90 [(.i a1),(.i a2),(.i n30),(.i a3)] U (@hid _ ⟨λd4 h37=>A.unI d4 (@hid _ ⟨λn38 d5=>A.unI d5 (@hid _ ⟨λn40 d6=>A.unI d6 (@hid _ ⟨λn42 d7=>A.un0 d7 (@hid _ ⟨A.cmp .neq n42 0 (@hid _ ⟨λd8=>A.cond d8 (@hid _ ⟨K [(.i 7)] h37⟩) (@hid _ ⟨A.call 91 [(.i n30),(.i a3),(.i d2)] h37 (@hid _ ⟨λd9 a4=>A.unI d9 (@hid _ ⟨λe0 e1=>A.unI e1 (@hid _ ⟨λn49 e2=>A.un0 e2 (@hid _ ⟨A.eqs [((.i n38),(.i e0)),((.i n40),(.i n49))] (@hid _ ⟨λe4=>A.cond (!e4) (@hid _ ⟨K [(.i 7)] a4⟩) (@hid _ ⟨A.ari .add .i64 V 1 (@hid _ ⟨λn52=>b6 [(.i n52)] a4⟩)⟩)⟩)⟩)⟩)⟩)⟩)⟩)⟩)⟩)⟩)⟩)⟩)⟩)⟩)⟩)⟩)⟩)⟩)⟩)⟩) (@hid _ ⟨A.loop (@hid _ ⟨λe5 e6 a0=>A.unI e6 (@hid _ ⟨λn56 e7=>A.un0 e7 (@hid _ ⟨A.opt (lenS O) (@hid _ ⟨λe8=>A.cmp .lss n56 e8 (@hid _ ⟨λf0=>A.cond f0 (@hid _ ⟨A.ari .sub .i64 n56 1 (@hid _ ⟨λf1=>A.opt (idS 3 O f1) (@hid _ ⟨λf2=>A.peek (.lg cc 3 f2) a0 (@hid _ ⟨λf4=>A.ucI .i64 f4 (@hid _ ⟨λf5 f6=>A.ucI .u8 f6 (@hid _ ⟨λf7 f8=>A.ucI .u8 f8 (@hid _ ⟨λn67 g0=>A.uc0 g0 (@hid _ ⟨A.call 91 [(.i f5),(.i f7),(.i n67)] a0 (@hid _ ⟨λg1 a5=>A.unI g1 (@hid _ ⟨λn71 g2=>A.unI g2 (@hid _ ⟨λn73 g4=>A.un0 g4 (@hid _ ⟨A.opt (idS 3 O n56) (@hid _ ⟨λg5=>A.peek (.lg cc 3 g5) a5 (@hid _ ⟨λg6=>A.ucI .i64 g6 (@hid _ ⟨λn77 g7=>A.ucI .u8 g7 (@hid _ ⟨λn79 g8=>A.ucI .u8 g8 (@hid _ ⟨λn81 h0=>A.uc0 h0 (@hid _ ⟨A.call 91 [(.i n77),(.i n79),(.i n81)] a5 (@hid _ ⟨λh1 h2=>A.unI h1 (@hid _ ⟨λh4 h5=>A.unI h5 (@hid _ ⟨λn87 h6=>A.un0 h6 (@hid _ ⟨A.call 92 [(.i n71),(.i n73),(.i h4),(.i n87)] h2 (@hid _ ⟨λh7 h90=>A.unI h7 (@hid _ ⟨λn91 h8=>A.un0 h8 (@hid _ ⟨A.cmp .geq n91 0 (@hid _ ⟨λi0=>A.cond i0 (@hid _ ⟨K [(.i 6)] h90⟩) (@hid _ ⟨A.ari .add .i64 n56 1 (@hid _ ⟨λn94=>e5 [(.i n94)] h90⟩)⟩)⟩)⟩)⟩)⟩)⟩)⟩)⟩)⟩)⟩)⟩)⟩)⟩)⟩)⟩)⟩)⟩)⟩)⟩)⟩)⟩)⟩)⟩)⟩)⟩)⟩)⟩) (@hid _ ⟨K [(.i 0)] a0⟩)⟩)⟩)⟩)⟩)⟩) [(.i 1)] U⟩)⟩)⟩)⟩)⟩) [(.i 0)] h18⟩)⟩)⟩)⟩)⟩)⟩)⟩)⟩)⟩)⟩)⟩)⟩)⟩)⟩)
theorem g49:(λA:Alg Prop (HL)=>p49 A)=λA=>f49 A:=by kernel_rfl
theorem h49(ls:List Lf)(H:HL)(K:List Lf->HL->Prop):p49 P1 ls H K=ai P1 (xc 49) ae drN n49 ls H K:=
 congrFun (congrFun (congrFun ((congrFun g49 P1).trans (congrFun (congrFun (congrFun e49 Prop) (HL)) P1)) ls) H) K
theorem x49{ls:List Lf}{H:HL}{K:List Lf->HL->Prop}(hls:aY ls)(h:p49 P1 ls H K):∃rs H',aq cc ae 49 ls (absH aa H) rs (absH aa H')/\K rs H':=
 cK i49 hls (h49 ls H K▸h)
/-- crimp/corners.corner -/
def p71(A:Alg Prop (HL))(ls:List Lf)(h:HL)(K:List Lf->HL->Prop):Prop:=A.unI ls (@hid _ ⟨λU a0=>A.unI a0 (@hid _ ⟨λV a1=>A.unI a1 (@hid _ ⟨λn10 a2=>A.unI a2 (@hid _ ⟨λn12 a3=>A.un0 a3 (@hid _ ⟨A.call 86 [(.i U),(.i V)] h (@hid _ ⟨λa4 O=>A.unI a4 (@hid _ ⟨λn16 a5=>A.un0 a5 (@hid _ ⟨A.cmp .neq n16 0 (@hid _ ⟨λa6=>A.cond a6 (@hid _ ⟨K [(.i n16)] O⟩) (@hid _ ⟨A.cmp .leq n10 0 (@hid _ ⟨λa7=>A.cond a7 (@hid _ ⟨K [(.i 7)] O⟩) (@hid _ ⟨A.cmp .leq n12 0 (@hid _ ⟨λa8=>A.cond a8 (@hid _ ⟨K [(.i 7)] O⟩) (@hid _ ⟨A.ari .mul .i64 2 U (@hid _ ⟨λn21=>A.cmp .geq n10 n21 (@hid _ ⟨λa9=>A.cond a9 (@hid _ ⟨K [(.i 7)] O⟩) (@hid _ ⟨A.ari .mul .i64 2 V (@hid _ ⟨λb0=>A.cmp .geq n12 b0 (@hid _ ⟨λb1=>A.cond b1 (@hid _ ⟨K [(.i 7)] O⟩) (@hid _ ⟨A.ari .rem .i64 n10 2 (@hid _ ⟨λb2=>A.ari .rem .i64 n12 2 (@hid _ ⟨λb3=>A.cmp .neq b2 b3 (@hid _ ⟨λb4=>A.cond b4 (@hid _ ⟨K [(.i 7)] O⟩) (@hid _ ⟨K [(.i 0)] O⟩)⟩)⟩)⟩)⟩)⟩)⟩)⟩)⟩)⟩)⟩)⟩)⟩)⟩)⟩)⟩)⟩)⟩)⟩)⟩)⟩)⟩)⟩)⟩)
theorem g71:(λA:Alg Prop (HL)=>p71 A)=λA=>f71 A:=by kernel_rfl
theorem h71(ls:List Lf)(H:HL)(K:List Lf->HL->Prop):p71 P1 ls H K=ai P1 (xc 71) ae drN n71 ls H K:=
 congrFun (congrFun (congrFun ((congrFun g71 P1).trans (congrFun (congrFun (congrFun e71 Prop) (HL)) P1)) ls) H) K
theorem u71{ls:List Lf}{H:HL}{K:List Lf->HL->Prop}(hls:aO ls=true)(h:p71 P1 ls H K):∃rs H',aq cc ae 71 ls (absH aa H) rs (absH aa H')/\K rs H':=
 fk i71 hls (h71 ls H K▸h)
theorem q71{ls rs:List Lf}(hls:aO ls=true)(h:p71 P1 ls [] λrs' _=>rs'=rs):Cc 71 ls rs:=by
 obtain⟨_,_,h1,rfl⟩:=u71 hls h
 exact fz mixed bv (sg:=⟨[.agg [.i .i64,.i .i64],.agg [.i .i64,.i .i64]],[li]⟩) rfl (by kernel_rfl) h1
/-- crimp/corners.walk -/
def p72(A:Alg Prop (HL))(ls:List Lf)(h:HL)(K:List Lf->HL->Prop):Prop:=A.unI ls (@hid _ ⟨λV a0=>A.unI a0 (@hid _ ⟨λa1 a2=>A.unI a2 (@hid _ ⟨λn10 a3=>A.unI a3 (@hid _ ⟨λn12 a4=>A.un0 a4 (@hid _ ⟨A.new (.cells [(.int .i64 V),(.int .i64 a1)] 2 true) h (@hid _ ⟨λO a5=>A.new (.cells [(.int .i64 n10),(.int .i64 n12)] 2 true) a5 (@hid _ ⟨λU a6=>A.chk (.func (.func 109) ⟨[]⟩ ⟨[(.pointer (some ⟨U,0,none⟩)),(.pointer (some ⟨O,0,none⟩))]⟩) (@hid _ ⟨K [(.v (.func (.func 109) ⟨[]⟩ ⟨[(.pointer (some ⟨U,0,none⟩)),(.pointer (some ⟨O,0,none⟩))]⟩))] a6⟩)⟩)⟩)⟩)⟩)⟩)⟩)⟩)
theorem g72:(λA:Alg Prop (HL)=>p72 A)=λA=>f72 A:=by kernel_rfl
theorem h72(ls:List Lf)(H:HL)(K:List Lf->HL->Prop):p72 P1 ls H K=ai P1 (xc 72) ae drN n72 ls H K:=
 congrFun (congrFun (congrFun ((congrFun g72 P1).trans (congrFun (congrFun (congrFun e72 Prop) (HL)) P1)) ls) H) K
theorem u72{ls:List Lf}{H:HL}{K:List Lf->HL->Prop}(hls:aO ls=true)(h:p72 P1 ls H K):∃rs H',aq cc ae 72 ls (absH aa H) rs (absH aa H')/\K rs H':=
 fk i72 hls (h72 ls H K▸h)
/-- crimp/patterns.Kind -/
def p73(A:Alg Prop (HL))(ls:List Lf)(h:HL)(K:List Lf->HL->Prop):Prop:=A.unI ls (@hid _ ⟨λa1 a2=>A.unI a2 (@hid _ ⟨λa3 a4=>A.unV a4 (@hid _ ⟨λV a5=>A.unI a5 (@hid _ ⟨λn12 a6=>A.unI a6 (@hid _ ⟨λn14 a7=>A.un0 a7 (@hid _ ⟨A.call 115 [(.i a1),(.i a3),(.v V),(.i n12),(.i n14)] h (@hid _ ⟨λa8 O=>A.unI a8 (@hid _ ⟨λn18 a9=>A.unI a9 (@hid _ ⟨λn20 b0=>A.unI b0 (@hid _ ⟨λn22 b1=>A.unB b1 (@hid _ ⟨λb2 b3=>A.unI b3 (@hid _ ⟨λU b4=>A.un0 b4 (@hid _ ⟨A.cmp .neq U 0 (@hid _ ⟨λb5=>A.cond b5 (@hid _ ⟨K [(.i 0),(.i U)] O⟩) (@hid _ ⟨A.cond (!b2) (@hid _ ⟨K [(.i 0),(.i U)] O⟩) (@hid _ ⟨A.opt (idS 3 V n22) (@hid _ ⟨λb6=>A.opt (fdP 2 b6) (@hid _ ⟨λa0=>A.chk a0 (@hid _ ⟨A.peek (.lg cc 1 a0) O (@hid _ ⟨λb7=>A.ucI .u8 b7 (@hid _ ⟨λb8 b9=>A.uc0 b9 (@hid _ ⟨K [(.i b8),(.i 0)] O⟩)⟩)⟩)⟩)⟩)⟩)⟩)⟩)⟩)⟩)⟩)⟩)⟩)⟩)⟩)⟩)⟩)⟩)⟩)⟩)⟩)⟩)
theorem g73:(λA:Alg Prop (HL)=>p73 A)=λA=>f73 A:=by kernel_rfl
theorem h73(ls:List Lf)(H:HL)(K:List Lf->HL->Prop):p73 P1 ls H K=ai P1 (xc 73) ae drN n73 ls H K:=
 congrFun (congrFun (congrFun ((congrFun g73 P1).trans (congrFun (congrFun (congrFun e73 Prop) (HL)) P1)) ls) H) K
theorem x73{ls:List Lf}{H:HL}{K:List Lf->HL->Prop}(hls:aY ls)(h:p73 P1 ls H K):∃rs H',aq cc ae 73 ls (absH aa H) rs (absH aa H')/\K rs H':=
 cK i73 hls (h73 ls H K▸h)
/-- slices.SortFunc[[]crimp/corners.Ray,crimp/corners.Ray] -/
def p74(A:Alg Prop (HL))(ls:List Lf)(h:HL)(K:List Lf->HL->Prop):Prop:=A.unV ls (@hid _ ⟨λO V=>A.unV V (@hid _ ⟨λa0 a1=>A.un0 a1 (@hid _ ⟨A.opt (lenS O) (@hid _ ⟨λU=>A.conv .u64 U (@hid _ ⟨λn11=>A.call 117 [(.i n11)] h (@hid _ ⟨λa2 h13=>A.unI a2 (@hid _ ⟨λn14 a3=>A.un0 a3 (@hid _ ⟨A.call 116 [(.v O),(.i 0),(.i U),(.i n14),(.v a0)] h13 (@hid _ ⟨λa4 a5=>A.un0 a4 (@hid _ ⟨K [] a5⟩)⟩)⟩)⟩)⟩)⟩)⟩)⟩)⟩)⟩)
theorem g74:(λA:Alg Prop (HL)=>p74 A)=λA=>f74 A:=by kernel_rfl
theorem h74(ls:List Lf)(H:HL)(K:List Lf->HL->Prop):p74 P1 ls H K=ai P1 (xc 74) ae drN n74 ls H K:=
 congrFun (congrFun (congrFun ((congrFun g74 P1).trans (congrFun (congrFun (congrFun e74 Prop) (HL)) P1)) ls) H) K
theorem x74{ls:List Lf}{H:HL}{K:List Lf->HL->Prop}(hls:aY ls)(h:p74 P1 ls H K):∃rs H',aq cc ae 74 ls (absH aa H) rs (absH aa H')/\K rs H':=
 cK i74 hls (h74 ls H K▸h)
/-- crimp/corners.Creases$1 -/
def p75(A:Alg Prop (HL))(ls:List Lf)(h:HL)(K:List Lf->HL->Prop):Prop:=A.unI ls (@hid _ ⟨λO U=>A.unI U (@hid _ ⟨λa2 V=>A.unI V (@hid _ ⟨λn10 a0=>A.unI a0 (@hid _ ⟨λn12 a1=>A.un0 a1 (@hid _ ⟨A.ari .sub .i64 O n10 (@hid _ ⟨λn14=>K [(.i n14)] h⟩)⟩)⟩)⟩)⟩)⟩)
theorem g75:(λA:Alg Prop (HL)=>p75 A)=λA=>f75 A:=by kernel_rfl
theorem h75(ls:List Lf)(H:HL)(K:List Lf->HL->Prop):p75 P1 ls H K=ai P1 (xc 75) ae drN n75 ls H K:=
 congrFun (congrFun (congrFun ((congrFun g75 P1).trans (congrFun (congrFun (congrFun e75 Prop) (HL)) P1)) ls) H) K
theorem u75{ls:List Lf}{H:HL}{K:List Lf->HL->Prop}(hls:aO ls=true)(h:p75 P1 ls H K):∃rs H',aq cc ae 75 ls (absH aa H) rs (absH aa H')/\K rs H':=
 fk i75 hls (h75 ls H K▸h)
theorem q75{ls rs:List Lf}(hls:aO ls=true)(h:p75 P1 ls [] λrs' _=>rs'=rs):Cc 75 ls rs:=by
 obtain⟨_,_,h1,rfl⟩:=u75 hls h
 exact fz mixed bv (sg:=⟨[.agg [.i .i64,.i .u8],.agg [.i .i64,.i .u8]],[li]⟩) rfl (by kernel_rfl) h1
/-- slices.Clip[[]crimp/corners.Ray,crimp/corners.Ray] -/
def p76(A:Alg Prop (HL))(ls:List Lf)(h:HL)(K:List Lf->HL->Prop):Prop:=A.unV ls (@hid _ ⟨λO V=>A.un0 V (@hid _ ⟨A.opt (lenS O) (@hid _ ⟨λa0=>A.opt (lenS O) (@hid _ ⟨λx9=>A.opt (slS 2 O none (some a0) (some x9)) (@hid _ ⟨λU=>A.chk U (@hid _ ⟨K [(.v U)] h⟩)⟩)⟩)⟩)⟩)⟩)
theorem g76:(λA:Alg Prop (HL)=>p76 A)=λA=>f76 A:=by kernel_rfl
theorem h76(ls:List Lf)(H:HL)(K:List Lf->HL->Prop):p76 P1 ls H K=ai P1 (xc 76) ae drN n76 ls H K:=
 congrFun (congrFun (congrFun ((congrFun g76 P1).trans (congrFun (congrFun (congrFun e76 Prop) (HL)) P1)) ls) H) K
theorem x76{ls:List Lf}{H:HL}{K:List Lf->HL->Prop}(hls:aY ls)(h:p76 P1 ls H K):∃rs H',aq cc ae 76 ls (absH aa H) rs (absH aa H')/\K rs H':=
 cK i76 hls (h76 ls H K▸h)
/-- crimp/sheets.Check -/
def p86(A:Alg Prop (HL))(ls:List Lf)(h:HL)(K:List Lf->HL->Prop):Prop:=A.unI ls (@hid _ ⟨λO V=>A.unI V (@hid _ ⟨λU a0=>A.un0 a0 (@hid _ ⟨A.cmp .lss O 1 (@hid _ ⟨λa1=>A.cond a1 (@hid _ ⟨K [(.i 1)] h⟩) (@hid _ ⟨A.cmp .lss U 1 (@hid _ ⟨λa2=>A.cond a2 (@hid _ ⟨K [(.i 1)] h⟩) (@hid _ ⟨A.cmp .gtr O 256 (@hid _ ⟨λa3=>A.cond a3 (@hid _ ⟨K [(.i 1)] h⟩) (@hid _ ⟨A.cmp .gtr U 256 (@hid _ ⟨λa4=>A.cond a4 (@hid _ ⟨K [(.i 1)] h⟩) (@hid _ ⟨A.ari .mul .i64 O U (@hid _ ⟨λn14=>A.cmp .gtr n14 256 (@hid _ ⟨λa5=>A.cond a5 (@hid _ ⟨K [(.i 1)] h⟩) (@hid _ ⟨K [(.i 0)] h⟩)⟩)⟩)⟩)⟩)⟩)⟩)⟩)⟩)⟩)⟩)⟩)⟩)⟩)
theorem g86:(λA:Alg Prop (HL)=>p86 A)=λA=>f86 A:=by kernel_rfl
theorem h86(ls:List Lf)(H:HL)(K:List Lf->HL->Prop):p86 P1 ls H K=ai P1 (xc 86) ae drN n86 ls H K:=
 congrFun (congrFun (congrFun ((congrFun g86 P1).trans (congrFun (congrFun (congrFun e86 Prop) (HL)) P1)) ls) H) K
theorem u86{ls:List Lf}{H:HL}{K:List Lf->HL->Prop}(hls:aO ls=true)(h:p86 P1 ls H K):∃rs H',aq cc ae 86 ls (absH aa H) rs (absH aa H')/\K rs H':=
 fk i86 hls (h86 ls H K▸h)
theorem q86{ls rs:List Lf}(hls:aO ls=true)(h:p86 P1 ls [] λrs' _=>rs'=rs):Cc 86 ls rs:=by
 obtain⟨_,_,h1,rfl⟩:=u86 hls h
 exact fz mixed bv (sg:=⟨[.agg [.i .i64,.i .i64]],[li]⟩) rfl (by kernel_rfl) h1
/-- slices.ContainsFunc[[]crimp/patterns.Crease,crimp/patterns.Crease] -/
def p87(A:Alg Prop (HL))(ls:List Lf)(h:HL)(K:List Lf->HL->Prop):Prop:=A.unV ls (@hid _ ⟨λO U=>A.unV U (@hid _ ⟨λV a0=>A.un0 a0 (@hid _ ⟨A.call 124 [(.v O),(.v V)] h (@hid _ ⟨λa1 h11=>A.unI a1 (@hid _ ⟨λn12 a2=>A.un0 a2 (@hid _ ⟨A.cmp .geq n12 0 (@hid _ ⟨λa3=>K [(.b a3)] h11⟩)⟩)⟩)⟩)⟩)⟩)⟩)
theorem g87:(λA:Alg Prop (HL)=>p87 A)=λA=>f87 A:=by kernel_rfl
theorem h87(ls:List Lf)(H:HL)(K:List Lf->HL->Prop):p87 P1 ls H K=ai P1 (xc 87) ae drN n87 ls H K:=
 congrFun (congrFun (congrFun ((congrFun g87 P1).trans (congrFun (congrFun (congrFun e87 Prop) (HL)) P1)) ls) H) K
theorem x87{ls:List Lf}{H:HL}{K:List Lf->HL->Prop}(hls:aY ls)(h:p87 P1 ls H K):∃rs H',aq cc ae 87 ls (absH aa H) rs (absH aa H')/\K rs H':=
 cK i87 hls (h87 ls H K▸h)
/-- crimp/patterns.Check$1 -/
def p88(A:Alg Prop (HL))(ls:List Lf)(h:HL)(K:List Lf->HL->Prop):Prop:=A.unI ls (@hid _ ⟨λa3 O=>A.unI O (@hid _ ⟨λa4 U=>A.unI U (@hid _ ⟨λn10 V=>A.un0 V (@hid _ ⟨A.call 89 [(.i n10)] h (@hid _ ⟨λa0 h13=>A.unB a0 (@hid _ ⟨λa1 a2=>A.un0 a2 (@hid _ ⟨K [(.b (!a1))] h13⟩)⟩)⟩)⟩)⟩)⟩)⟩)
theorem g88:(λA:Alg Prop (HL)=>p88 A)=λA=>f88 A:=by kernel_rfl
theorem h88(ls:List Lf)(H:HL)(K:List Lf->HL->Prop):p88 P1 ls H K=ai P1 (xc 88) ae drN n88 ls H K:=
 congrFun (congrFun (congrFun ((congrFun g88 P1).trans (congrFun (congrFun (congrFun e88 Prop) (HL)) P1)) ls) H) K
theorem u88{ls:List Lf}{H:HL}{K:List Lf->HL->Prop}(hls:aO ls=true)(h:p88 P1 ls H K):∃rs H',aq cc ae 88 ls (absH aa H) rs (absH aa H')/\K rs H':=
 fk i88 hls (h88 ls H K▸h)
theorem q88{ls rs:List Lf}(hls:aO ls=true)(h:p88 P1 ls [] λrs' _=>rs'=rs):Cc 88 ls rs:=by
 obtain⟨_,_,h1,rfl⟩:=u88 hls h
 exact fz mixed bv (sg:=⟨[.agg [.i .i64,.i .u8,.i .u8]],[lb]⟩) rfl (by kernel_rfl) h1
/-- crimp/patterns.isKind -/
def p89(A:Alg Prop (HL))(ls:List Lf)(h:HL)(K:List Lf->HL->Prop):Prop:=A.unI ls (@hid _ ⟨λO V=>A.un0 V (@hid _ ⟨A.join (@hid _ ⟨λa0 h9=>A.unB a0 (@hid _ ⟨λa1 a2=>A.un0 a2 (@hid _ ⟨K [(.b a1)] h9⟩)⟩)⟩) (@hid _ ⟨λU=>A.cmp .geq O 1 (@hid _ ⟨λa3=>A.cond a3 (@hid _ ⟨A.cmp .leq O 3 (@hid _ ⟨λa4=>U [(.b a4)] h⟩)⟩) (@hid _ ⟨U [(.b false)] h⟩)⟩)⟩)⟩)⟩)
theorem g89:(λA:Alg Prop (HL)=>p89 A)=λA=>f89 A:=by kernel_rfl
theorem h89(ls:List Lf)(H:HL)(K:List Lf->HL->Prop):p89 P1 ls H K=ai P1 (xc 89) ae drN n89 ls H K:=
 congrFun (congrFun (congrFun ((congrFun g89 P1).trans (congrFun (congrFun (congrFun e89 Prop) (HL)) P1)) ls) H) K
theorem u89{ls:List Lf}{H:HL}{K:List Lf->HL->Prop}(hls:aO ls=true)(h:p89 P1 ls H K):∃rs H',aq cc ae 89 ls (absH aa H) rs (absH aa H')/\K rs H':=
 fk i89 hls (h89 ls H K▸h)
theorem q89{ls rs:List Lf}(hls:aO ls=true)(h:p89 P1 ls [] λrs' _=>rs'=rs):Cc 89 ls rs:=by
 obtain⟨_,_,h1,rfl⟩:=u89 hls h
 exact fz mixed bv (sg:=⟨[.leaf (.i .u8)],[lb]⟩) rfl (by kernel_rfl) h1
/-- crimp/sheets.Name -/
def p90(A:Alg Prop (HL))(ls:List Lf)(h:HL)(K:List Lf->HL->Prop):Prop:=A.unI ls (@hid _ ⟨λU V=>A.unI V (@hid _ ⟨λa0 a1=>A.unI a1 (@hid _ ⟨λn10 a2=>A.unI a2 (@hid _ ⟨λn12 a3=>A.un0 a3 (@hid _ ⟨A.call 125 [(.i U),(.i a0),(.i n10),(.i n12)] h (@hid _ ⟨λa4 O=>A.unI a4 (@hid _ ⟨λn16 a5=>A.unI a5 (@hid _ ⟨λn18 a6=>A.un0 a6 (@hid _ ⟨A.cmp .neq n18 0 (@hid _ ⟨λa7=>A.cond a7 (@hid _ ⟨K [(.i 0),(.i 0),(.i n18)] O⟩) (@hid _ ⟨A.cmp .lss n16 n10 (@hid _ ⟨λa8=>A.sel a8 n16 n10 (@hid _ ⟨λn22=>K [(.i n22),(.i n12),(.i 0)] O⟩)⟩)⟩)⟩)⟩)⟩)⟩)⟩)⟩)⟩)⟩)⟩)⟩)
theorem g90:(λA:Alg Prop (HL)=>p90 A)=λA=>f90 A:=by kernel_rfl
theorem h90(ls:List Lf)(H:HL)(K:List Lf->HL->Prop):p90 P1 ls H K=ai P1 (xc 90) ae drN n90 ls H K:=
 congrFun (congrFun (congrFun ((congrFun g90 P1).trans (congrFun (congrFun (congrFun e90 Prop) (HL)) P1)) ls) H) K
theorem u90{ls:List Lf}{H:HL}{K:List Lf->HL->Prop}(hls:aO ls=true)(h:p90 P1 ls H K):∃rs H',aq cc ae 90 ls (absH aa H) rs (absH aa H')/\K rs H':=
 fk i90 hls (h90 ls H K▸h)
theorem q90{ls rs:List Lf}(hls:aO ls=true)(h:p90 P1 ls [] λrs' _=>rs'=rs):Cc 90 ls rs:=by
 obtain⟨_,_,h1,rfl⟩:=u90 hls h
 exact fz mixed bv (sg:=⟨[.agg [.i .i64,.i .i64],li,.leaf (.i .u8)],[.agg [.i .i64,.i .u8],li]⟩) rfl (by kernel_rfl) h1
/-- (crimp/patterns.Crease).unit -/
def p91(A:Alg Prop (HL))(ls:List Lf)(h:HL)(K:List Lf->HL->Prop):Prop:=A.unI ls (@hid _ ⟨λO U=>A.unI U (@hid _ ⟨λV a0=>A.unI a0 (@hid _ ⟨λn10 a1=>A.un0 a1 (@hid _ ⟨K [(.i O),(.i V)] h⟩)⟩)⟩)⟩)
theorem g91:(λA:Alg Prop (HL)=>p91 A)=λA=>f91 A:=by kernel_rfl
theorem h91(ls:List Lf)(H:HL)(K:List Lf->HL->Prop):p91 P1 ls H K=ai P1 (xc 91) ae drN n91 ls H K:=
 congrFun (congrFun (congrFun ((congrFun g91 P1).trans (congrFun (congrFun (congrFun e91 Prop) (HL)) P1)) ls) H) K
theorem u91{ls:List Lf}{H:HL}{K:List Lf->HL->Prop}(hls:aO ls=true)(h:p91 P1 ls H K):∃rs H',aq cc ae 91 ls (absH aa H) rs (absH aa H')/\K rs H':=
 fk i91 hls (h91 ls H K▸h)
theorem q91{ls rs:List Lf}(hls:aO ls=true)(h:p91 P1 ls [] λrs' _=>rs'=rs):Cc 91 ls rs:=by
 obtain⟨_,_,h1,rfl⟩:=u91 hls h
 exact fz mixed bv (sg:=⟨[.agg [.i .i64,.i .u8,.i .u8]],[.agg [.i .i64,.i .u8]]⟩) rfl (by kernel_rfl) h1
/-- crimp/patterns.order -/
def p92(A:Alg Prop (HL))(ls:List Lf)(h:HL)(K:List Lf->HL->Prop):Prop:=A.unI ls (@hid _ ⟨λO U=>A.unI U (@hid _ ⟨λV a0=>A.unI a0 (@hid _ ⟨λn10 a1=>A.unI a1 (@hid _ ⟨λn12 a2=>A.un0 a2 (@hid _ ⟨A.cmp .neq O n10 (@hid _ ⟨λa3=>A.cond a3 (@hid _ ⟨A.ari .sub .i64 O n10 (@hid _ ⟨λa4=>K [(.i a4)] h⟩)⟩) (@hid _ ⟨A.conv .i64 V (@hid _ ⟨λn16=>A.conv .i64 n12 (@hid _ ⟨λa5=>A.ari .sub .i64 n16 a5 (@hid _ ⟨λn18=>K [(.i n18)] h⟩)⟩)⟩)⟩)⟩)⟩)⟩)⟩)⟩)⟩)
theorem g92:(λA:Alg Prop (HL)=>p92 A)=λA=>f92 A:=by kernel_rfl
theorem h92(ls:List Lf)(H:HL)(K:List Lf->HL->Prop):p92 P1 ls H K=ai P1 (xc 92) ae drN n92 ls H K:=
 congrFun (congrFun (congrFun ((congrFun g92 P1).trans (congrFun (congrFun (congrFun e92 Prop) (HL)) P1)) ls) H) K
theorem u92{ls:List Lf}{H:HL}{K:List Lf->HL->Prop}(hls:aO ls=true)(h:p92 P1 ls H K):∃rs H',aq cc ae 92 ls (absH aa H) rs (absH aa H')/\K rs H':=
 fk i92 hls (h92 ls H K▸h)
theorem q92{ls rs:List Lf}(hls:aO ls=true)(h:p92 P1 ls [] λrs' _=>rs'=rs):Cc 92 ls rs:=by
 obtain⟨_,_,h1,rfl⟩:=u92 hls h
 exact fz mixed bv (sg:=⟨[.agg [.i .i64,.i .u8],.agg [.i .i64,.i .u8]],[li]⟩) rfl (by kernel_rfl) h1
/-- crimp/sheets.Cell -/
def p95(A:Alg Prop (HL))(ls:List Lf)(h:HL)(K:List Lf->HL->Prop):Prop:=A.unI ls (@hid _ ⟨λO V=>A.unI V (@hid _ ⟨λU a0=>A.unI a0 (@hid _ ⟨λn10 a1=>A.un0 a1 (@hid _ ⟨A.call 86 [(.i O),(.i U)] h (@hid _ ⟨λa2 h13=>A.unI a2 (@hid _ ⟨λn14 a3=>A.un0 a3 (@hid _ ⟨A.cmp .neq n14 0 (@hid _ ⟨λa4=>A.cond a4 (@hid _ ⟨K [(.i 0),(.i 0),(.i 0),(.i n14)] h13⟩) (@hid _ ⟨A.call 131 [(.i O),(.i U),(.i n10)] h13 (@hid _ ⟨λa5 h18=>A.unB a5 (@hid _ ⟨λa6 a7=>A.un0 a7 (@hid _ ⟨A.cond (!a6) (@hid _ ⟨K [(.i 0),(.i 0),(.i 0),(.i 7)] h18⟩) (@hid _ ⟨A.call 132 [(.i O),(.i U),(.i n10)] h18 (@hid _ ⟨λa8 h22=>A.unI a8 (@hid _ ⟨λa9 b0=>A.unI b0 (@hid _ ⟨λb1 b2=>A.unI b2 (@hid _ ⟨λb3 b4=>A.un0 b4 (@hid _ ⟨K [(.i a9),(.i b1),(.i b3),(.i 0)] h22⟩)⟩)⟩)⟩)⟩)⟩)⟩)⟩)⟩)⟩)⟩)⟩)⟩)⟩)⟩)⟩)⟩)⟩)
theorem g95:(λA:Alg Prop (HL)=>p95 A)=λA=>f95 A:=by kernel_rfl
theorem h95(ls:List Lf)(H:HL)(K:List Lf->HL->Prop):p95 P1 ls H K=ai P1 (xc 95) ae drN n95 ls H K:=
 congrFun (congrFun (congrFun ((congrFun g95 P1).trans (congrFun (congrFun (congrFun e95 Prop) (HL)) P1)) ls) H) K
theorem u95{ls:List Lf}{H:HL}{K:List Lf->HL->Prop}(hls:aO ls=true)(h:p95 P1 ls H K):∃rs H',aq cc ae 95 ls (absH aa H) rs (absH aa H')/\K rs H':=
 fk i95 hls (h95 ls H K▸h)
theorem q95{ls rs:List Lf}(hls:aO ls=true)(h:p95 P1 ls [] λrs' _=>rs'=rs):Cc 95 ls rs:=by
 obtain⟨_,_,h1,rfl⟩:=u95 hls h
 exact fz mixed bv (sg:=⟨[.agg [.i .i64,.i .i64],li],[.agg [.i .i64,.i .i64,.i .u8],li]⟩) rfl (by kernel_rfl) h1
/-- crimp/corners.walk$1 -/
def p109(A:Alg Prop (HL))(ls:List Lf)(h:HL)(K:List Lf->HL->Prop):Prop:=A.unV ls (@hid _ ⟨λa8 d0=>A.unV d0 (@hid _ ⟨λU d1=>A.unV d1 (@hid _ ⟨λa0 d2=>A.un0 d2 (@hid _ ⟨A.opt (fdP 0 U) (@hid _ ⟨λx12=>A.chk x12 (@hid _ ⟨A.peek (.lg cc 1 x12) h (@hid _ ⟨λd3=>A.ucI .i64 d3 (@hid _ ⟨λn14 d4=>A.uc0 d4 (@hid _ ⟨A.ari .quo .i64 n14 2 (@hid _ ⟨λn16=>A.opt (fdP 1 U) (@hid _ ⟨λa9=>A.chk a9 (@hid _ ⟨A.peek (.lg cc 1 a9) h (@hid _ ⟨λd5=>A.ucI .i64 d5 (@hid _ ⟨λn19 d6=>A.uc0 d6 (@hid _ ⟨A.ari .quo .i64 n19 2 (@hid _ ⟨λn21=>A.opt (fdP 0 U) (@hid _ ⟨λb0=>A.chk b0 (@hid _ ⟨A.peek (.lg cc 1 b0) h (@hid _ ⟨λd7=>A.ucI .i64 d7 (@hid _ ⟨λn24 d8=>A.uc0 d8 (@hid _ ⟨A.ari .rem .i64 n24 2 (@hid _ ⟨λd9=>A.cmp .neq d9 0 (@hid _ ⟨λe0=>A.join (@hid _ ⟨λe1 e2=>A.unI e1 (@hid _ ⟨λn30 e4=>A.unI e4 (@hid _ ⟨λa2 e5=>A.unI e5 (@hid _ ⟨λa3 e6=>A.un0 e6 (@hid _ ⟨A.loop (@hid _ ⟨λb1 e7 h38=>A.unI e7 (@hid _ ⟨λn39 e8=>A.unI e8 (@hid _ ⟨λn41 f0=>A.unI f0 (@hid _ ⟨λn43 f1=>A.unI f1 (@hid _ ⟨λb2 f2=>A.un0 f2 (@hid _ ⟨A.peek (.lg cc 2 a0) h38 (@hid _ ⟨λf4=>A.ucI .i64 f4 (@hid _ ⟨λn48 f5=>A.ucI .i64 f5 (@hid _ ⟨λn50 f6=>A.uc0 f6 (@hid _ ⟨A.call 110 [(.i n48),(.i n50),(.i n41),(.i n43),(.i b2)] h38 (@hid _ ⟨λf7 f8=>A.unI f7 (@hid _ ⟨λn54 g0=>A.unI g0 (@hid _ ⟨λn56 g1=>A.un0 g1 (@hid _ ⟨A.loop (@hid _ ⟨λg2 g4 a4=>A.unI g4 (@hid _ ⟨λa1 g5=>A.unI g5 (@hid _ ⟨λO g6=>A.unI g6 (@hid _ ⟨λV g7=>A.unI g7 (@hid _ ⟨λn67 g8=>A.unI g8 (@hid _ ⟨λn69 h0=>A.un0 h0 (@hid _ ⟨A.cmp .lss O 3 (@hid _ ⟨λh1=>A.cond h1 (@hid _ ⟨A.join (@hid _ ⟨λh2 h73=>A.unI h2 (@hid _ ⟨λn74 h4=>A.unI h4 (@hid _ ⟨λn76 h5=>A.unI h5 (@hid _ ⟨λn78 h6=>A.unI h6 (@hid _ ⟨λn80 h7=>A.un0 h7 (@hid _ ⟨A.ari .add .u8 O 1 (@hid _ ⟨λn82=>g2 [(.i n74),(.i n82),(.i n76),(.i n78),(.i n80)] h73⟩)⟩)⟩)⟩)⟩)⟩)⟩) (@hid _ ⟨λa5=>A.peek (.lg cc 2 U) a4 (@hid _ ⟨λh8=>A.ucI .i64 h8 (@hid _ ⟨λi0 i1=>A.ucI .i64 i1 (@hid _ ⟨λn87 i2=>A.uc0 i2 (@hid _ ⟨A.call 111 [(.i V),(.i n67),(.i n69),(.i O),(.i i0),(.i n87)] a4 (@hid _ ⟨λi4 h90=>A.unB i4 (@hid _ ⟨λi5 i6=>A.un0 i6 (@hid _ ⟨A.cond (!i5) (@hid _ ⟨a5 [(.i a1),(.i V),(.i n67),(.i n69)] h90⟩) (@hid _ ⟨A.cmp .eql O a1 (@hid _ ⟨λi7=>A.cond i7 (@hid _ ⟨a5 [(.i a1),(.i V),(.i n67),(.i n69)] h90⟩) (@hid _ ⟨A.cmp .eql a1 3 (@hid _ ⟨λi8=>A.cond i8 (@hid _ ⟨A.peek (.lg cc 2 U) h90 (@hid _ ⟨λj0=>A.ucI .i64 j0 (@hid _ ⟨λn96 j1=>A.ucI .i64 j1 (@hid _ ⟨λj2 j3=>A.uc0 j3 (@hid _ ⟨A.call 112 [(.i V),(.i n67),(.i n69),(.i O),(.i n96),(.i j2)] h90 (@hid _ ⟨λj4 b3=>A.unB j4 (@hid _ ⟨λj5 j6=>A.un0 j6 (@hid _ ⟨A.join (@hid _ ⟨λj7 b4=>A.un0 j7 (@hid _ ⟨A.peek (.lg cc 2 a0) b4 (@hid _ ⟨λj8=>A.ucI .i64 j8 (@hid _ ⟨λj9 k0=>A.ucI .i64 k0 (@hid _ ⟨λn109 k1=>A.uc0 k1 (@hid _ ⟨A.call 90 [(.i j9),(.i n109),(.i n54),(.i O)] b4 (@hid _ ⟨λk2 a6=>A.unI k2 (@hid _ ⟨λn113 k3=>A.unI k3 (@hid _ ⟨λn115 k4=>A.unI k4 (@hid _ ⟨λn117 k5=>A.un0 k5 (@hid _ ⟨A.peek (.lg cc 2 a0) a6 (@hid _ ⟨λk6=>A.ucI .i64 k6 (@hid _ ⟨λn120 k7=>A.ucI .i64 k7 (@hid _ ⟨λn122 k8=>A.uc0 k8 (@hid _ ⟨A.peek (.lg cc 2 U) a6 (@hid _ ⟨λk9=>A.ucI .i64 k9 (@hid _ ⟨λn125 l0=>A.ucI .i64 l0 (@hid _ ⟨λn127 l1=>A.uc0 l1 (@hid _ ⟨A.call 113 [(.i n120),(.i n122),(.i n113),(.i n115),(.i n125),(.i n127)] a6 (@hid _ ⟨λl2 l3=>A.unI l2 (@hid _ ⟨λn131 l4=>A.un0 l4 (@hid _ ⟨A.callv a8 [(.int .i64 n54),(.agg ⟨[(.int .i64 n131),(.int .i64 n113),(.int .u8 n115)]⟩)] [(.leaf .b)] l3 (@hid _ ⟨λl5 b5=>A.unB l5 (@hid _ ⟨λl6 l7=>A.un0 l7 (@hid _ ⟨A.cond (!l6) (@hid _ ⟨K [] b5⟩) (@hid _ ⟨A.call 114 [(.i V),(.i n67),(.i n69),(.i O)] b5 (@hid _ ⟨λl8 b6=>A.unI l8 (@hid _ ⟨λb7 l9=>A.unI l9 (@hid _ ⟨λn141 m0=>A.unI m0 (@hid _ ⟨λn143 m1=>A.unI m1 (@hid _ ⟨λn145 m2=>A.un0 m2 (@hid _ ⟨A.eqs [((.i b7),(.i n30)),((.i n141),(.i a2)),((.i n143),(.i a3))] (@hid _ ⟨λm3=>A.cond m3 (@hid _ ⟨K [] b6⟩) (@hid _ ⟨b1 [(.i O),(.i b7),(.i n141),(.i n143)] b6⟩)⟩)⟩)⟩)⟩)⟩)⟩)⟩)⟩)⟩)⟩)⟩)⟩)⟩)⟩)⟩)⟩)⟩)⟩)⟩)⟩)⟩)⟩)⟩)⟩)⟩)⟩)⟩)⟩)⟩)⟩)⟩)⟩)⟩) (@hid _ ⟨λm4=>A.cond (!j5) (@hid _ ⟨a5 [(.i a1),(.i V),(.i n67),(.i n69)] b3⟩) (@hid _ ⟨m4 [] b3⟩)⟩)⟩)⟩)⟩)⟩)⟩)⟩)⟩)⟩) (@hid _ ⟨A.peek (.lg cc 2 a0) h90 (@hid _ ⟨λm5=>A.ucI .i64 m5 (@hid _ ⟨λm6 m7=>A.ucI .i64 m7 (@hid _ ⟨λm8 m9=>A.uc0 m9 (@hid _ ⟨A.call 90 [(.i m6),(.i m8),(.i n54),(.i O)] h90 (@hid _ ⟨λn0 a7=>A.unI n0 (@hid _ ⟨λn156 n1=>A.unI n1 (@hid _ ⟨λn158 n2=>A.unI n2 (@hid _ ⟨λn160 n4=>A.un0 n4 (@hid _ ⟨A.peek (.lg cc 2 a0) a7 (@hid _ ⟨λn5=>A.ucI .i64 n5 (@hid _ ⟨λn163 n6=>A.ucI .i64 n6 (@hid _ ⟨λn165 n7=>A.uc0 n7 (@hid _ ⟨A.peek (.lg cc 2 U) a7 (@hid _ ⟨λn8=>A.ucI .i64 n8 (@hid _ ⟨λo0 o1=>A.ucI .i64 o1 (@hid _ ⟨λo2 o3=>A.uc0 o3 (@hid _ ⟨A.call 113 [(.i n163),(.i n165),(.i n156),(.i n158),(.i o0),(.i o2)] a7 (@hid _ ⟨λo4 o5=>A.unI o4 (@hid _ ⟨λo6 o7=>A.un0 o7 (@hid _ ⟨A.callv a8 [(.int .i64 n54),(.agg ⟨[(.int .i64 o6),(.int .i64 n156),(.int .u8 n158)]⟩)] [(.leaf .b)] o5 (@hid _ ⟨λo8 b8=>A.unB o8 (@hid _ ⟨λo9 p0=>A.un0 p0 (@hid _ ⟨A.cond (!o9) (@hid _ ⟨K [] b8⟩) (@hid _ ⟨A.call 114 [(.i V),(.i n67),(.i n69),(.i O)] b8 (@hid _ ⟨λp1 b9=>A.unI p1 (@hid _ ⟨λn182 p2=>A.unI p2 (@hid _ ⟨λn184 p4=>A.unI p4 (@hid _ ⟨λc0 p5=>A.unI p5 (@hid _ ⟨λp8 p6=>A.un0 p6 (@hid _ ⟨A.eqs [((.i n182),(.i n30)),((.i n184),(.i a2)),((.i c0),(.i a3))] (@hid _ ⟨λp7=>A.cond p7 (@hid _ ⟨K [] b9⟩) (@hid _ ⟨b1 [(.i O),(.i n182),(.i n184),(.i c0)] b9⟩)⟩)⟩)⟩)⟩)⟩)⟩)⟩)⟩)⟩)⟩)⟩)⟩)⟩)⟩)⟩)⟩)⟩)⟩)⟩)⟩)⟩)⟩)⟩)⟩)⟩)⟩)⟩)⟩)⟩)⟩)⟩)⟩)⟩)⟩)⟩)⟩)⟩)⟩)⟩)⟩)⟩)⟩)⟩)⟩)⟩) (@hid _ ⟨K [] a4⟩)⟩)⟩)⟩)⟩)⟩)⟩)⟩)⟩) [(.i n39),(.i 0),(.i n41),(.i n43),(.i b2)] f8⟩)⟩)⟩)⟩)⟩)⟩)⟩)⟩)⟩)⟩)⟩)⟩)⟩)⟩) [(.i 3),(.i n30),(.i a2),(.i a3)] e2⟩)⟩)⟩)⟩)⟩) (@hid _ ⟨λc1=>A.cond e0 (@hid _ ⟨c1 [(.i n16),(.i n21),(.i 2)] h⟩) (@hid _ ⟨c1 [(.i n16),(.i n21),(.i 0)] h⟩)⟩)⟩)⟩)⟩)⟩)⟩)⟩)⟩)⟩)⟩)⟩)⟩)⟩)⟩)⟩)⟩)⟩)⟩)⟩)⟩)⟩)⟩)⟩)⟩)
theorem g109:(λA:Alg Prop (HL)=>p109 A)=λA=>f109 A:=by kernel_rfl
theorem h109(ls:List Lf)(H:HL)(K:List Lf->HL->Prop):p109 P1 ls H K=ai P1 (xc 109) ae drN n109 ls H K:=
 congrFun (congrFun (congrFun ((congrFun g109 P1).trans (congrFun (congrFun (congrFun e109 Prop) (HL)) P1)) ls) H) K
theorem x109{ls:List Lf}{H:HL}{K:List Lf->HL->Prop}(hls:aY ls)(h:p109 P1 ls H K):∃rs H',aq cc ae 109 ls (absH aa H) rs (absH aa H')/\K rs H':=
 cK i109 hls (h109 ls H K▸h)
/-- crimp/cells.Neighbour -/
def p114(A:Alg Prop (HL))(ls:List Lf)(h:HL)(K:List Lf->HL->Prop):Prop:=A.unI ls (@hid _ ⟨λU a3=>A.unI a3 (@hid _ ⟨λV a4=>A.unI a4 (@hid _ ⟨λn10 a5=>A.unI a5 (@hid _ ⟨λn12 a6=>A.un0 a6 (@hid _ ⟨A.call 133 [(.i U),(.i V),(.i n10)] h (@hid _ ⟨λa7 O=>A.unI a7 (@hid _ ⟨λn16 a8=>A.un0 a8 (@hid _ ⟨A.cmp .neq n16 0 (@hid _ ⟨λa9=>A.cond a9 (@hid _ ⟨K [(.i 0),(.i 0),(.i 0),(.i 1)] O⟩) (@hid _ ⟨A.cmp .gtr n12 2 (@hid _ ⟨λb0=>A.cond b0 (@hid _ ⟨K [(.i 0),(.i 0),(.i 0),(.i 1)] O⟩) (@hid _ ⟨A.opt (inB 4 n10) (@hid _ ⟨λc1=>A.opt (inB 3 n12) (@hid _ ⟨λd0=>A.opt (lW gl3 4 [(n10,17),(n12,3)] 3) (@hid _ ⟨λb1=>A.ucI .i64 b1 (@hid _ ⟨λb2 b3=>A.ucI .i64 b3 (@hid _ ⟨λb4 b5=>A.ucI .u8 b5 (@hid _ ⟨λa0 b6=>A.uc0 b6 (@hid _ ⟨A.ari .add .i64 b2 U (@hid _ ⟨λa1=>A.ari .add .i64 b4 V (@hid _ ⟨λn30=>A.call 133 [(.i a1),(.i n30),(.i a0)] O (@hid _ ⟨λb7 a2=>A.unI b7 (@hid _ ⟨λb8 b9=>A.un0 b9 (@hid _ ⟨A.cmp .neq b8 0 (@hid _ ⟨λc0=>A.cond c0 (@hid _ ⟨K [(.i 0),(.i 0),(.i 0),(.i 3)] a2⟩) (@hid _ ⟨K [(.i a1),(.i n30),(.i a0),(.i 0)] a2⟩)⟩)⟩)⟩)⟩)⟩)⟩)⟩)⟩)⟩)⟩)⟩)⟩)⟩)⟩)⟩)⟩)⟩)⟩)⟩)⟩)⟩)⟩)⟩)⟩)⟩)
theorem g114:(λA:Alg Prop (HL)=>p114 A)=λA=>f114 A:=by kernel_rfl
theorem h114(ls:List Lf)(H:HL)(K:List Lf->HL->Prop):p114 P1 ls H K=ai P1 (xc 114) ae drN n114 ls H K:=
 congrFun (congrFun (congrFun ((congrFun g114 P1).trans (congrFun (congrFun (congrFun e114 Prop) (HL)) P1)) ls) H) K
theorem u114{ls:List Lf}{H:HL}{K:List Lf->HL->Prop}(hls:aO ls=true)(h:p114 P1 ls H K):∃rs H',aq cc ae 114 ls (absH aa H) rs (absH aa H')/\K rs H':=
 fk i114 hls (h114 ls H K▸h)
theorem q114{ls rs:List Lf}(hls:aO ls=true)(h:p114 P1 ls [] λrs' _=>rs'=rs):Cc 114 ls rs:=by
 obtain⟨_,_,h1,rfl⟩:=u114 hls h
 exact fz mixed bv (sg:=⟨[.agg [.i .i64,.i .i64,.i .u8],.leaf (.i .u8)],[.agg [.i .i64,.i .i64,.i .u8],li]⟩) rfl (by kernel_rfl) h1
/-- crimp/patterns.at -/
def p115(A:Alg Prop (HL))(ls:List Lf)(h:HL)(K:List Lf->HL->Prop):Prop:=A.unI ls (@hid _ ⟨λO a4=>A.unI a4 (@hid _ ⟨λU a5=>A.unV a5 (@hid _ ⟨λV a6=>A.unI a6 (@hid _ ⟨λn12 a7=>A.unI a7 (@hid _ ⟨λn14 a8=>A.un0 a8 (@hid _ ⟨A.call 49 [(.i O),(.i U),(.v V)] h (@hid _ ⟨λa9 a0=>A.unI a9 (@hid _ ⟨λn18 b0=>A.un0 b0 (@hid _ ⟨A.cmp .neq n18 0 (@hid _ ⟨λb1=>A.cond b1 (@hid _ ⟨K [(.i 0),(.i 0),(.i 0),(.b false),(.i n18)] a0⟩) (@hid _ ⟨A.call 90 [(.i O),(.i U),(.i n12),(.i n14)] a0 (@hid _ ⟨λb2 h22=>A.unI b2 (@hid _ ⟨λa1 b3=>A.unI b3 (@hid _ ⟨λa2 b4=>A.unI b4 (@hid _ ⟨λa3 b5=>A.un0 b5 (@hid _ ⟨A.cmp .neq a3 0 (@hid _ ⟨λb6=>A.cond b6 (@hid _ ⟨K [(.i 0),(.i 0),(.i 0),(.b false),(.i a3)] h22⟩) (@hid _ ⟨A.call 145 [(.v V),(.i a1),(.i a2)] h22 (@hid _ ⟨λb7 b8=>A.unI b7 (@hid _ ⟨λb9 c0=>A.unB c0 (@hid _ ⟨λc1 d0=>A.un0 d0 (@hid _ ⟨K [(.i a1),(.i a2),(.i b9),(.b c1),(.i 0)] b8⟩)⟩)⟩)⟩)⟩)⟩)⟩)⟩)⟩)⟩)⟩)⟩)⟩)⟩)⟩)⟩)⟩)⟩)⟩)⟩)⟩)⟩)
theorem g115:(λA:Alg Prop (HL)=>p115 A)=λA=>f115 A:=by kernel_rfl
theorem h115(ls:List Lf)(H:HL)(K:List Lf->HL->Prop):p115 P1 ls H K=ai P1 (xc 115) ae drN n115 ls H K:=
 congrFun (congrFun (congrFun ((congrFun g115 P1).trans (congrFun (congrFun (congrFun e115 Prop) (HL)) P1)) ls) H) K
theorem x115{ls:List Lf}{H:HL}{K:List Lf->HL->Prop}(hls:aY ls)(h:p115 P1 ls H K):∃rs H',aq cc ae 115 ls (absH aa H) rs (absH aa H')/\K rs H':=
 cK i115 hls (h115 ls H K▸h)
/-- slices.pdqsortCmpFunc[crimp/corners.Ray] -/
def p116(A:Alg Prop (HL))(ls:List Lf)(h:HL)(K:List Lf->HL->Prop):Prop:=A.unV ls (@hid _ ⟨λU f7=>A.unI f7 (@hid _ ⟨λf8 g0=>A.unI g0 (@hid _ ⟨λn10 g1=>A.unI g1 (@hid _ ⟨λn12 g2=>A.unV g2 (@hid _ ⟨λV g4=>A.un0 g4 (@hid _ ⟨A.loop (@hid _ ⟨λg5 g6 h18=>A.unI g6 (@hid _ ⟨λn19 g7=>A.unI g7 (@hid _ ⟨λn21 g8=>A.unB g8 (@hid _ ⟨λa8 h0=>A.unB h0 (@hid _ ⟨λa7 h1=>A.unI h1 (@hid _ ⟨λO h2=>A.un0 h2 (@hid _ ⟨A.join (@hid _ ⟨λh4 h5=>A.unI h4 (@hid _ ⟨λn31 h6=>A.unI h6 (@hid _ ⟨λh7 h8=>A.unB h8 (@hid _ ⟨λi0 i1=>A.unB i1 (@hid _ ⟨λi2 i4=>A.unI i4 (@hid _ ⟨λn39 i5=>A.un0 i5 (@hid _ ⟨g5 [(.i n31),(.i h7),(.b i0),(.b i2),(.i n39)] h5⟩)⟩)⟩)⟩)⟩)⟩)⟩) (@hid _ ⟨λa2=>A.ari .sub .i64 O n21 (@hid _ ⟨λn42=>A.cmp .leq n42 12 (@hid _ ⟨λi6=>A.cond i6 (@hid _ ⟨A.call 146 [(.v U),(.i n21),(.i O),(.v V)] h18 (@hid _ ⟨λi7 i8=>A.un0 i7 (@hid _ ⟨K [] i8⟩)⟩)⟩) (@hid _ ⟨A.cmp .eql n19 0 (@hid _ ⟨λj0=>A.cond j0 (@hid _ ⟨A.call 147 [(.v U),(.i n21),(.i O),(.v V)] h18 (@hid _ ⟨λj1 j2=>A.un0 j1 (@hid _ ⟨K [] j2⟩)⟩)⟩) (@hid _ ⟨A.join (@hid _ ⟨λj3 j4=>A.unI j3 (@hid _ ⟨λn51 j5=>A.un0 j5 (@hid _ ⟨A.call 149 [(.v U),(.i n21),(.i O),(.v V)] j4 (@hid _ ⟨λj6 b2=>A.unI j6 (@hid _ ⟨λn55 j7=>A.unI j7 (@hid _ ⟨λn57 j8=>A.un0 j8 (@hid _ ⟨A.cmp .eql n57 2 (@hid _ ⟨λj9=>A.join (@hid _ ⟨λk0 a1=>A.unI k0 (@hid _ ⟨λa0 k1=>A.unI k1 (@hid _ ⟨λk2 k3=>A.un0 k3 (@hid _ ⟨A.cond a7 (@hid _ ⟨A.cond a8 (@hid _ ⟨A.cmp .eql k2 1 (@hid _ ⟨λk4=>A.join (@hid _ ⟨λk5 a9=>A.un0 k5 (@hid _ ⟨A.cmp .gtr n21 0 (@hid _ ⟨λk6=>A.cond k6 (@hid _ ⟨A.ari .sub .i64 n21 1 (@hid _ ⟨λk7=>A.opt (idS 2 U k7) (@hid _ ⟨λk8=>A.peek (.lg cc 2 k8) a9 (@hid _ ⟨λk9=>A.ucI .i64 k9 (@hid _ ⟨λn73 l0=>A.ucI .u8 l0 (@hid _ ⟨λn75 l1=>A.uc0 l1 (@hid _ ⟨A.opt (idS 2 U a0) (@hid _ ⟨λl2=>A.peek (.lg cc 2 l2) a9 (@hid _ ⟨λl3=>A.ucI .i64 l3 (@hid _ ⟨λn79 l4=>A.ucI .u8 l4 (@hid _ ⟨λn81 l5=>A.uc0 l5 (@hid _ ⟨A.callv V [(.agg ⟨[(.int .i64 n73),(.int .u8 n75)]⟩),(.agg ⟨[(.int .i64 n79),(.int .u8 n81)]⟩)] [(.leaf (.i .i64))] a9 (@hid _ ⟨λl6 b3=>A.unI l6 (@hid _ ⟨λl7 l8=>A.un0 l8 (@hid _ ⟨A.cmp .lss l7 0 (@hid _ ⟨λl9=>A.join (@hid _ ⟨λm0 h89=>A.unI m0 (@hid _ ⟨λn90 m1=>A.un0 m1 (@hid _ ⟨A.call 153 [(.v U),(.i n90),(.i O),(.i a0),(.v V)] h89 (@hid _ ⟨λm2 b4=>A.unI m2 (@hid _ ⟨λn94 m3=>A.unB m3 (@hid _ ⟨λm4 m5=>A.un0 m5 (@hid _ ⟨A.ari .sub .i64 n94 n90 (@hid _ ⟨λb5=>A.ari .sub .i64 O n94 (@hid _ ⟨λb6=>A.ari .quo .i64 n42 8 (@hid _ ⟨λb7=>A.cmp .lss b5 b6 (@hid _ ⟨λm6=>A.join (@hid _ ⟨λm7 m8=>A.unB m7 (@hid _ ⟨λm9 n0=>A.unI n0 (@hid _ ⟨λn1 n2=>A.unI n2 (@hid _ ⟨λn4 n5=>A.un0 n5 (@hid _ ⟨a2 [(.i n51),(.i n1),(.b m4),(.b m9),(.i n4)] m8⟩)⟩)⟩)⟩)⟩) (@hid _ ⟨λb8=>A.cond m6 (@hid _ ⟨A.cmp .geq b5 b7 (@hid _ ⟨λn6=>A.call 116 [(.v U),(.i n90),(.i n94),(.i n51),(.v V)] b4 (@hid _ ⟨λn7 n8=>A.un0 n7 (@hid _ ⟨A.ari .add .i64 n94 1 (@hid _ ⟨λn114=>b8 [(.b n6),(.i n114),(.i O)] n8⟩)⟩)⟩)⟩)⟩) (@hid _ ⟨A.cmp .geq b6 b7 (@hid _ ⟨λo0=>A.ari .add .i64 n94 1 (@hid _ ⟨λn116=>A.call 116 [(.v U),(.i n116),(.i O),(.i n51),(.v V)] b4 (@hid _ ⟨λo1 o2=>A.un0 o1 (@hid _ ⟨b8 [(.b o0),(.i n90),(.i n94)] o2⟩)⟩)⟩)⟩)⟩)⟩)⟩)⟩)⟩)⟩)⟩)⟩)⟩)⟩)⟩)⟩)⟩) (@hid _ ⟨λo3=>A.cond (!l9) (@hid _ ⟨A.call 152 [(.v U),(.i n21),(.i O),(.i a0),(.v V)] b3 (@hid _ ⟨λo4 o5=>A.unI o4 (@hid _ ⟨λn122 o6=>A.un0 o6 (@hid _ ⟨a2 [(.i n51),(.i n122),(.b a8),(.b a7),(.i O)] o5⟩)⟩)⟩)⟩) (@hid _ ⟨o3 [(.i n21)] b3⟩)⟩)⟩)⟩)⟩)⟩)⟩)⟩)⟩)⟩)⟩)⟩)⟩)⟩)⟩)⟩)⟩)⟩) (@hid _ ⟨A.call 153 [(.v U),(.i n21),(.i O),(.i a0),(.v V)] a9 (@hid _ ⟨λo7 h125=>A.unI o7 (@hid _ ⟨λn126 o8=>A.unB o8 (@hid _ ⟨λo9 p0=>A.un0 p0 (@hid _ ⟨A.ari .sub .i64 n126 n21 (@hid _ ⟨λn130=>A.ari .sub .i64 O n126 (@hid _ ⟨λn131=>A.ari .quo .i64 n42 8 (@hid _ ⟨λn132=>A.cmp .lss n130 n131 (@hid _ ⟨λp1=>A.join (@hid _ ⟨λp2 p4=>A.unB p2 (@hid _ ⟨λp5 p6=>A.unI p6 (@hid _ ⟨λp7 p8=>A.unI p8 (@hid _ ⟨λq0 q1=>A.un0 q1 (@hid _ ⟨a2 [(.i n51),(.i p7),(.b o9),(.b p5),(.i q0)] p4⟩)⟩)⟩)⟩)⟩) (@hid _ ⟨λb9=>A.cond p1 (@hid _ ⟨A.cmp .geq n130 n132 (@hid _ ⟨λq2=>A.call 116 [(.v U),(.i n21),(.i n126),(.i n51),(.v V)] h125 (@hid _ ⟨λq3 h145=>A.un0 q3 (@hid _ ⟨A.ari .add .i64 n126 1 (@hid _ ⟨λn146=>b9 [(.b q2),(.i n146),(.i O)] h145⟩)⟩)⟩)⟩)⟩) (@hid _ ⟨A.cmp .geq n131 n132 (@hid _ ⟨λq4=>A.ari .add .i64 n126 1 (@hid _ ⟨λq5=>A.call 116 [(.v U),(.i q5),(.i O),(.i n51),(.v V)] h125 (@hid _ ⟨λq6 q7=>A.un0 q6 (@hid _ ⟨b9 [(.b q4),(.i n21),(.i n126)] q7⟩)⟩)⟩)⟩)⟩)⟩)⟩)⟩)⟩)⟩)⟩)⟩)⟩)⟩)⟩)⟩)⟩)⟩) (@hid _ ⟨λc0=>A.cond k4 (@hid _ ⟨A.call 151 [(.v U),(.i n21),(.i O),(.v V)] a1 (@hid _ ⟨λq8 c1=>A.unB q8 (@hid _ ⟨λq9 r1=>A.un0 r1 (@hid _ ⟨A.cond q9 (@hid _ ⟨K [] c1⟩) (@hid _ ⟨c0 [] c1⟩)⟩)⟩)⟩)⟩) (@hid _ ⟨c0 [] a1⟩)⟩)⟩)⟩) (@hid _ ⟨A.cmp .gtr n21 0 (@hid _ ⟨λr2=>A.cond r2 (@hid _ ⟨A.ari .sub .i64 n21 1 (@hid _ ⟨λn157=>A.opt (idS 2 U n157) (@hid _ ⟨λr3=>A.peek (.lg cc 2 r3) a1 (@hid _ ⟨λr4=>A.ucI .i64 r4 (@hid _ ⟨λn160 r5=>A.ucI .u8 r5 (@hid _ ⟨λn162 r6=>A.uc0 r6 (@hid _ ⟨A.opt (idS 2 U a0) (@hid _ ⟨λr7=>A.peek (.lg cc 2 r7) a1 (@hid _ ⟨λr8=>A.ucI .i64 r8 (@hid _ ⟨λr9 s0=>A.ucI .u8 s0 (@hid _ ⟨λs1 s2=>A.uc0 s2 (@hid _ ⟨A.callv V [(.agg ⟨[(.int .i64 n160),(.int .u8 n162)]⟩),(.agg ⟨[(.int .i64 r9),(.int .u8 s1)]⟩)] [(.leaf (.i .i64))] a1 (@hid _ ⟨λs3 d0=>A.unI s3 (@hid _ ⟨λs4 s5=>A.un0 s5 (@hid _ ⟨A.cmp .lss s4 0 (@hid _ ⟨λs6=>A.join (@hid _ ⟨λs7 h176=>A.unI s7 (@hid _ ⟨λb0 s8=>A.un0 s8 (@hid _ ⟨A.call 153 [(.v U),(.i b0),(.i O),(.i a0),(.v V)] h176 (@hid _ ⟨λs9 d1=>A.unI s9 (@hid _ ⟨λa3 t0=>A.unB t0 (@hid _ ⟨λt1 t2=>A.un0 t2 (@hid _ ⟨A.ari .sub .i64 a3 b0 (@hid _ ⟨λd2=>A.ari .sub .i64 O a3 (@hid _ ⟨λd3=>A.ari .quo .i64 n42 8 (@hid _ ⟨λd4=>A.cmp .lss d2 d3 (@hid _ ⟨λt3=>A.join (@hid _ ⟨λt4 t5=>A.unB t4 (@hid _ ⟨λt6 t7=>A.unI t7 (@hid _ ⟨λt8 t9=>A.unI t9 (@hid _ ⟨λuc u0=>A.un0 u0 (@hid _ ⟨a2 [(.i n51),(.i t8),(.b t1),(.b t6),(.i uc)] t5⟩)⟩)⟩)⟩)⟩) (@hid _ ⟨λd5=>A.cond t3 (@hid _ ⟨A.cmp .geq d2 d4 (@hid _ ⟨λu1=>A.call 116 [(.v U),(.i b0),(.i a3),(.i n51),(.v V)] d1 (@hid _ ⟨λu2 u4=>A.un0 u2 (@hid _ ⟨A.ari .add .i64 a3 1 (@hid _ ⟨λu5=>d5 [(.b u1),(.i u5),(.i O)] u4⟩)⟩)⟩)⟩)⟩) (@hid _ ⟨A.cmp .geq d3 d4 (@hid _ ⟨λu6=>A.ari .add .i64 a3 1 (@hid _ ⟨λu7=>A.call 116 [(.v U),(.i u7),(.i O),(.i n51),(.v V)] d1 (@hid _ ⟨λu8 u9=>A.un0 u8 (@hid _ ⟨d5 [(.b u6),(.i b0),(.i a3)] u9⟩)⟩)⟩)⟩)⟩)⟩)⟩)⟩)⟩)⟩)⟩)⟩)⟩)⟩)⟩)⟩)⟩) (@hid _ ⟨λvd=>A.cond (!s6) (@hid _ ⟨A.call 152 [(.v U),(.i n21),(.i O),(.i a0),(.v V)] d0 (@hid _ ⟨λve vf=>A.unI ve (@hid _ ⟨λvg vh=>A.un0 vh (@hid _ ⟨a2 [(.i n51),(.i vg),(.b a8),(.b a7),(.i O)] vf⟩)⟩)⟩)⟩) (@hid _ ⟨vd [(.i n21)] d0⟩)⟩)⟩)⟩)⟩)⟩)⟩)⟩)⟩)⟩)⟩)⟩)⟩)⟩)⟩)⟩)⟩)⟩) (@hid _ ⟨A.call 153 [(.v U),(.i n21),(.i O),(.i a0),(.v V)] a1 (@hid _ ⟨λvi d6=>A.unI vi (@hid _ ⟨λa4 vj=>A.unB vj (@hid _ ⟨λvk vl=>A.un0 vl (@hid _ ⟨A.ari .sub .i64 a4 n21 (@hid _ ⟨λd7=>A.ari .sub .i64 O a4 (@hid _ ⟨λd8=>A.ari .quo .i64 n42 8 (@hid _ ⟨λd9=>A.cmp .lss d7 d8 (@hid _ ⟨λvm=>A.join (@hid _ ⟨λvn vo=>A.unB vn (@hid _ ⟨λvp vq=>A.unI vq (@hid _ ⟨λvr vt=>A.unI vt (@hid _ ⟨λvu vw=>A.un0 vw (@hid _ ⟨a2 [(.i n51),(.i vr),(.b vk),(.b vp),(.i vu)] vo⟩)⟩)⟩)⟩)⟩) (@hid _ ⟨λe0=>A.cond vm (@hid _ ⟨A.cmp .geq d7 d9 (@hid _ ⟨λvx=>A.call 116 [(.v U),(.i n21),(.i a4),(.i n51),(.v V)] d6 (@hid _ ⟨λvy vz=>A.un0 vy (@hid _ ⟨A.ari .add .i64 a4 1 (@hid _ ⟨λvA=>e0 [(.b vx),(.i vA),(.i O)] vz⟩)⟩)⟩)⟩)⟩) (@hid _ ⟨A.cmp .geq d8 d9 (@hid _ ⟨λvB=>A.ari .add .i64 a4 1 (@hid _ ⟨λvC=>A.call 116 [(.v U),(.i vC),(.i O),(.i n51),(.v V)] d6 (@hid _ ⟨λvD vE=>A.un0 vD (@hid _ ⟨e0 [(.b vB),(.i n21),(.i a4)] vE⟩)⟩)⟩)⟩)⟩)⟩)⟩)⟩)⟩)⟩)⟩)⟩)⟩)⟩)⟩)⟩)⟩)⟩) (@hid _ ⟨A.cmp .gtr n21 0 (@hid _ ⟨λvF=>A.cond vF (@hid _ ⟨A.ari .sub .i64 n21 1 (@hid _ ⟨λvG=>A.opt (idS 2 U vG) (@hid _ ⟨λvH=>A.peek (.lg cc 2 vH) a1 (@hid _ ⟨λvI=>A.ucI .i64 vI (@hid _ ⟨λvJ vK=>A.ucI .u8 vK (@hid _ ⟨λvL vM=>A.uc0 vM (@hid _ ⟨A.opt (idS 2 U a0) (@hid _ ⟨λvN=>A.peek (.lg cc 2 vN) a1 (@hid _ ⟨λvO=>A.ucI .i64 vO (@hid _ ⟨λvP vQ=>A.ucI .u8 vQ (@hid _ ⟨λvR vS=>A.uc0 vS (@hid _ ⟨A.callv V [(.agg ⟨[(.int .i64 vJ),(.int .u8 vL)]⟩),(.agg ⟨[(.int .i64 vP),(.int .u8 vR)]⟩)] [(.leaf (.i .i64))] a1 (@hid _ ⟨λvT e1=>A.unI vT (@hid _ ⟨λvU vV=>A.un0 vV (@hid _ ⟨A.cmp .lss vU 0 (@hid _ ⟨λvW=>A.join (@hid _ ⟨λvX vY=>A.unI vX (@hid _ ⟨λb1 vZ=>A.un0 vZ (@hid _ ⟨A.call 153 [(.v U),(.i b1),(.i O),(.i a0),(.v V)] vY (@hid _ ⟨λv0 e2=>A.unI v0 (@hid _ ⟨λa5 v1=>A.unB v1 (@hid _ ⟨λv2 v3=>A.un0 v3 (@hid _ ⟨A.ari .sub .i64 a5 b1 (@hid _ ⟨λe4=>A.ari .sub .i64 O a5 (@hid _ ⟨λe5=>A.ari .quo .i64 n42 8 (@hid _ ⟨λe6=>A.cmp .lss e4 e5 (@hid _ ⟨λv4=>A.join (@hid _ ⟨λv5 v6=>A.unB v5 (@hid _ ⟨λv7 v8=>A.unI v8 (@hid _ ⟨λv9 wc=>A.unI wc (@hid _ ⟨λwe wg=>A.un0 wg (@hid _ ⟨a2 [(.i n51),(.i v9),(.b v2),(.b v7),(.i we)] v6⟩)⟩)⟩)⟩)⟩) (@hid _ ⟨λe7=>A.cond v4 (@hid _ ⟨A.cmp .geq e4 e6 (@hid _ ⟨λwh=>A.call 116 [(.v U),(.i b1),(.i a5),(.i n51),(.v V)] e2 (@hid _ ⟨λwi wj=>A.un0 wi (@hid _ ⟨A.ari .add .i64 a5 1 (@hid _ ⟨λwk=>e7 [(.b wh),(.i wk),(.i O)] wj⟩)⟩)⟩)⟩)⟩) (@hid _ ⟨A.cmp .geq e5 e6 (@hid _ ⟨λwl=>A.ari .add .i64 a5 1 (@hid _ ⟨λwm=>A.call 116 [(.v U),(.i wm),(.i O),(.i n51),(.v V)] e2 (@hid _ ⟨λwn wo=>A.un0 wn (@hid _ ⟨e7 [(.b wl),(.i b1),(.i a5)] wo⟩)⟩)⟩)⟩)⟩)⟩)⟩)⟩)⟩)⟩)⟩)⟩)⟩)⟩)⟩)⟩)⟩) (@hid _ ⟨λwp=>A.cond (!vW) (@hid _ ⟨A.call 152 [(.v U),(.i n21),(.i O),(.i a0),(.v V)] e1 (@hid _ ⟨λwq wt=>A.unI wq (@hid _ ⟨λwu wv=>A.un0 wv (@hid _ ⟨a2 [(.i n51),(.i wu),(.b a8),(.b a7),(.i O)] wt⟩)⟩)⟩)⟩) (@hid _ ⟨wp [(.i n21)] e1⟩)⟩)⟩)⟩)⟩)⟩)⟩)⟩)⟩)⟩)⟩)⟩)⟩)⟩)⟩)⟩)⟩)⟩) (@hid _ ⟨A.call 153 [(.v U),(.i n21),(.i O),(.i a0),(.v V)] a1 (@hid _ ⟨λww e8=>A.unI ww (@hid _ ⟨λa6 wy=>A.unB wy (@hid _ ⟨λwz wA=>A.un0 wA (@hid _ ⟨A.ari .sub .i64 a6 n21 (@hid _ ⟨λf0=>A.ari .sub .i64 O a6 (@hid _ ⟨λf1=>A.ari .quo .i64 n42 8 (@hid _ ⟨λf2=>A.cmp .lss f0 f1 (@hid _ ⟨λwB=>A.join (@hid _ ⟨λwC wD=>A.unB wC (@hid _ ⟨λwE wF=>A.unI wF (@hid _ ⟨λwG wH=>A.unI wH (@hid _ ⟨λwI wJ=>A.un0 wJ (@hid _ ⟨a2 [(.i n51),(.i wG),(.b wz),(.b wE),(.i wI)] wD⟩)⟩)⟩)⟩)⟩) (@hid _ ⟨λf4=>A.cond wB (@hid _ ⟨A.cmp .geq f0 f2 (@hid _ ⟨λwK=>A.call 116 [(.v U),(.i n21),(.i a6),(.i n51),(.v V)] e8 (@hid _ ⟨λwL wM=>A.un0 wL (@hid _ ⟨A.ari .add .i64 a6 1 (@hid _ ⟨λwN=>f4 [(.b wK),(.i wN),(.i O)] wM⟩)⟩)⟩)⟩)⟩) (@hid _ ⟨A.cmp .geq f1 f2 (@hid _ ⟨λwO=>A.ari .add .i64 a6 1 (@hid _ ⟨λwP=>A.call 116 [(.v U),(.i wP),(.i O),(.i n51),(.v V)] e8 (@hid _ ⟨λwQ wR=>A.un0 wQ (@hid _ ⟨f4 [(.b wO),(.i n21),(.i a6)] wR⟩)⟩)⟩)⟩)⟩)⟩)⟩)⟩)⟩)⟩)⟩)⟩)⟩)⟩)⟩)⟩)⟩)⟩)⟩)⟩)⟩) (@hid _ ⟨λf5=>A.cond j9 (@hid _ ⟨A.call 150 [(.v U),(.i n21),(.i O),(.v V)] b2 (@hid _ ⟨λwS wT=>A.un0 wS (@hid _ ⟨A.ari .sub .i64 O 1 (@hid _ ⟨λwU=>A.ari .sub .i64 n55 n21 (@hid _ ⟨λwV=>A.ari .sub .i64 wU wV (@hid _ ⟨λwW=>f5 [(.i wW),(.i 1)] wT⟩)⟩)⟩)⟩)⟩)⟩) (@hid _ ⟨f5 [(.i n55),(.i n57)] b2⟩)⟩)⟩)⟩)⟩)⟩)⟩)⟩)⟩)⟩) (@hid _ ⟨λf6=>A.cond (!a7) (@hid _ ⟨A.call 148 [(.v U),(.i n21),(.i O),(.v V)] h18 (@hid _ ⟨λwX wY=>A.un0 wX (@hid _ ⟨A.ari .sub .i64 n19 1 (@hid _ ⟨λwZ=>f6 [(.i wZ)] wY⟩)⟩)⟩)⟩) (@hid _ ⟨f6 [(.i n19)] h18⟩)⟩)⟩)⟩)⟩)⟩)⟩)⟩)⟩)⟩)⟩)⟩)⟩)⟩)⟩) [(.i n12),(.i f8),(.b true),(.b true),(.i n10)] h⟩)⟩)⟩)⟩)⟩)⟩)
theorem g116:(λA:Alg Prop (HL)=>p116 A)=λA=>f116 A:=by kernel_rfl
theorem h116(ls:List Lf)(H:HL)(K:List Lf->HL->Prop):p116 P1 ls H K=ai P1 (xc 116) ae drN n116 ls H K:=
 congrFun (congrFun (congrFun ((congrFun g116 P1).trans (congrFun (congrFun (congrFun e116 Prop) (HL)) P1)) ls) H) K
theorem x116{ls:List Lf}{H:HL}{K:List Lf->HL->Prop}(hls:aY ls)(h:p116 P1 ls H K):∃rs H',aq cc ae 116 ls (absH aa H) rs (absH aa H')/\K rs H':=
 cK i116 hls (h116 ls H K▸h)
/-- slices.IndexFunc[[]crimp/patterns.Crease,crimp/patterns.Crease] -/
def p124(A:Alg Prop (HL))(ls:List Lf)(h:HL)(K:List Lf->HL->Prop):Prop:=A.unV ls (@hid _ ⟨λO V=>A.unV V (@hid _ ⟨λa0 a1=>A.un0 a1 (@hid _ ⟨A.opt (lenS O) (@hid _ ⟨λa2=>A.loop (@hid _ ⟨λa3 a4 h13=>A.unI a4 (@hid _ ⟨λn14 a5=>A.un0 a5 (@hid _ ⟨A.cmp .lss n14 a2 (@hid _ ⟨λa6=>A.cond a6 (@hid _ ⟨A.opt (idS 3 O n14) (@hid _ ⟨λa7=>A.peek (.lg cc 3 a7) h13 (@hid _ ⟨λa8=>A.ucI .i64 a8 (@hid _ ⟨λn19 a9=>A.ucI .u8 a9 (@hid _ ⟨λn21 b0=>A.ucI .u8 b0 (@hid _ ⟨λb1 b2=>A.uc0 b2 (@hid _ ⟨A.callv a0 [(.agg ⟨[(.int .i64 n19),(.int .u8 n21),(.int .u8 b1)]⟩)] [(.leaf .b)] h13 (@hid _ ⟨λb3 U=>A.unB b3 (@hid _ ⟨λb4 b5=>A.un0 b5 (@hid _ ⟨A.cond b4 (@hid _ ⟨K [(.i n14)] U⟩) (@hid _ ⟨A.ari .add .i64 n14 1 (@hid _ ⟨λb6=>a3 [(.i b6)] U⟩)⟩)⟩)⟩)⟩)⟩)⟩)⟩)⟩)⟩)⟩)⟩) (@hid _ ⟨K [(.i (-1))] h13⟩)⟩)⟩)⟩)⟩) [(.i 0)] h⟩)⟩)⟩)⟩)
theorem g124:(λA:Alg Prop (HL)=>p124 A)=λA=>f124 A:=by kernel_rfl
theorem h124(ls:List Lf)(H:HL)(K:List Lf->HL->Prop):p124 P1 ls H K=ai P1 (xc 124) ae drN n124 ls H K:=
 congrFun (congrFun (congrFun ((congrFun g124 P1).trans (congrFun (congrFun (congrFun e124 Prop) (HL)) P1)) ls) H) K
theorem x124{ls:List Lf}{H:HL}{K:List Lf->HL->Prop}(hls:aY ls)(h:p124 P1 ls H K):∃rs H',aq cc ae 124 ls (absH aa H) rs (absH aa H')/\K rs H':=
 cK i124 hls (h124 ls H K▸h)
/-- crimp/sheets.Neighbour -/
def p125(A:Alg Prop (HL))(ls:List Lf)(h:HL)(K:List Lf->HL->Prop):Prop:=A.unI ls (@hid _ ⟨λO a1=>A.unI a1 (@hid _ ⟨λU a2=>A.unI a2 (@hid _ ⟨λn10 a3=>A.unI a3 (@hid _ ⟨λn12 a4=>A.un0 a4 (@hid _ ⟨A.call 95 [(.i O),(.i U),(.i n10)] h (@hid _ ⟨λa5 V=>A.unI a5 (@hid _ ⟨λn16 a6=>A.unI a6 (@hid _ ⟨λn18 a7=>A.unI a7 (@hid _ ⟨λn20 a8=>A.unI a8 (@hid _ ⟨λn22 a9=>A.un0 a9 (@hid _ ⟨A.cmp .neq n22 0 (@hid _ ⟨λb0=>A.cond b0 (@hid _ ⟨K [(.i 0),(.i n22)] V⟩) (@hid _ ⟨A.call 114 [(.i n16),(.i n18),(.i n20),(.i n12)] V (@hid _ ⟨λb1 a0=>A.unI b1 (@hid _ ⟨λb2 b3=>A.unI b3 (@hid _ ⟨λb4 b5=>A.unI b5 (@hid _ ⟨λn31 b6=>A.unI b6 (@hid _ ⟨λb7 b8=>A.un0 b8 (@hid _ ⟨A.cmp .neq b7 0 (@hid _ ⟨λb9=>A.cond b9 (@hid _ ⟨K [(.i 0),(.i 1)] a0⟩) (@hid _ ⟨A.call 110 [(.i O),(.i U),(.i b2),(.i b4),(.i n31)] a0 (@hid _ ⟨λc0 h37=>A.unI c0 (@hid _ ⟨λn38 c1=>A.unI c1 (@hid _ ⟨λn40 d0=>A.un0 d0 (@hid _ ⟨K [(.i n38),(.i n40)] h37⟩)⟩)⟩)⟩)⟩)⟩)⟩)⟩)⟩)⟩)⟩)⟩)⟩)⟩)⟩)⟩)⟩)⟩)⟩)⟩)⟩)⟩)⟩)⟩)⟩)
theorem g125:(λA:Alg Prop (HL)=>p125 A)=λA=>f125 A:=by kernel_rfl
theorem h125(ls:List Lf)(H:HL)(K:List Lf->HL->Prop):p125 P1 ls H K=ai P1 (xc 125) ae drN n125 ls H K:=
 congrFun (congrFun (congrFun ((congrFun g125 P1).trans (congrFun (congrFun (congrFun e125 Prop) (HL)) P1)) ls) H) K
theorem u125{ls:List Lf}{H:HL}{K:List Lf->HL->Prop}(hls:aO ls=true)(h:p125 P1 ls H K):∃rs H',aq cc ae 125 ls (absH aa H) rs (absH aa H')/\K rs H':=
 fk i125 hls (h125 ls H K▸h)
theorem q125{ls rs:List Lf}(hls:aO ls=true)(h:p125 P1 ls [] λrs' _=>rs'=rs):Cc 125 ls rs:=by
 obtain⟨_,_,h1,rfl⟩:=u125 hls h
 exact fz mixed bv (sg:=⟨[.agg [.i .i64,.i .i64],li,.leaf (.i .u8)],[li,li]⟩) rfl (by kernel_rfl) h1
/-- (crimp/sheets.Sheet).has -/
def p131(A:Alg Prop (HL))(ls:List Lf)(h:HL)(K:List Lf->HL->Prop):Prop:=A.unI ls (@hid _ ⟨λU V=>A.unI V (@hid _ ⟨λa0 a1=>A.unI a1 (@hid _ ⟨λn10 a2=>A.un0 a2 (@hid _ ⟨A.join (@hid _ ⟨λa3 h13=>A.unB a3 (@hid _ ⟨λa4 a5=>A.un0 a5 (@hid _ ⟨K [(.b a4)] h13⟩)⟩)⟩) (@hid _ ⟨λO=>A.cmp .geq n10 0 (@hid _ ⟨λa6=>A.cond a6 (@hid _ ⟨A.ari .mul .i64 4 U (@hid _ ⟨λn18=>A.ari .mul .i64 n18 a0 (@hid _ ⟨λn19=>A.cmp .lss n10 n19 (@hid _ ⟨λa7=>O [(.b a7)] h⟩)⟩)⟩)⟩) (@hid _ ⟨O [(.b false)] h⟩)⟩)⟩)⟩)⟩)⟩)⟩)
theorem g131:(λA:Alg Prop (HL)=>p131 A)=λA=>f131 A:=by kernel_rfl
theorem h131(ls:List Lf)(H:HL)(K:List Lf->HL->Prop):p131 P1 ls H K=ai P1 (xc 131) ae drN n131 ls H K:=
 congrFun (congrFun (congrFun ((congrFun g131 P1).trans (congrFun (congrFun (congrFun e131 Prop) (HL)) P1)) ls) H) K
theorem u131{ls:List Lf}{H:HL}{K:List Lf->HL->Prop}(hls:aO ls=true)(h:p131 P1 ls H K):∃rs H',aq cc ae 131 ls (absH aa H) rs (absH aa H')/\K rs H':=
 fk i131 hls (h131 ls H K▸h)
theorem q131{ls rs:List Lf}(hls:aO ls=true)(h:p131 P1 ls [] λrs' _=>rs'=rs):Cc 131 ls rs:=by
 obtain⟨_,_,h1,rfl⟩:=u131 hls h
 exact fz mixed bv (sg:=⟨[.agg [.i .i64,.i .i64],li],[lb]⟩) rfl (by kernel_rfl) h1
/-- crimp/cells.Check -/
def p133(A:Alg Prop (HL))(ls:List Lf)(h:HL)(K:List Lf->HL->Prop):Prop:=A.unI ls (@hid _ ⟨λO V=>A.unI V (@hid _ ⟨λU a0=>A.unI a0 (@hid _ ⟨λn10 a1=>A.un0 a1 (@hid _ ⟨A.cmp .lss O (-4096) (@hid _ ⟨λa2=>A.cond a2 (@hid _ ⟨K [(.i 1)] h⟩) (@hid _ ⟨A.cmp .gtr O 4096 (@hid _ ⟨λa3=>A.cond a3 (@hid _ ⟨K [(.i 1)] h⟩) (@hid _ ⟨A.cmp .lss U (-4096) (@hid _ ⟨λa4=>A.cond a4 (@hid _ ⟨K [(.i 1)] h⟩) (@hid _ ⟨A.cmp .gtr U 4096 (@hid _ ⟨λa5=>A.cond a5 (@hid _ ⟨K [(.i 1)] h⟩) (@hid _ ⟨A.cmp .gtr n10 3 (@hid _ ⟨λa6=>A.cond a6 (@hid _ ⟨K [(.i 1)] h⟩) (@hid _ ⟨K [(.i 0)] h⟩)⟩)⟩)⟩)⟩)⟩)⟩)⟩)⟩)⟩)⟩)⟩)⟩)⟩)
theorem g133:(λA:Alg Prop (HL)=>p133 A)=λA=>f133 A:=by kernel_rfl
theorem h133(ls:List Lf)(H:HL)(K:List Lf->HL->Prop):p133 P1 ls H K=ai P1 (xc 133) ae drN n133 ls H K:=
 congrFun (congrFun (congrFun ((congrFun g133 P1).trans (congrFun (congrFun (congrFun e133 Prop) (HL)) P1)) ls) H) K
theorem u133{ls:List Lf}{H:HL}{K:List Lf->HL->Prop}(hls:aO ls=true)(h:p133 P1 ls H K):∃rs H',aq cc ae 133 ls (absH aa H) rs (absH aa H')/\K rs H':=
 fk i133 hls (h133 ls H K▸h)
theorem q133{ls rs:List Lf}(hls:aO ls=true)(h:p133 P1 ls [] λrs' _=>rs'=rs):Cc 133 ls rs:=by
 obtain⟨_,_,h1,rfl⟩:=u133 hls h
 exact fz mixed bv (sg:=⟨[.agg [.i .i64,.i .i64,.i .u8]],[li]⟩) rfl (by kernel_rfl) h1
/-- crimp/patterns.find -/
def p145(A:Alg Prop (HL))(ls:List Lf)(h:HL)(K:List Lf->HL->Prop):Prop:=A.unV ls (@hid _ ⟨λO U=>A.unI U (@hid _ ⟨λV a0=>A.unI a0 (@hid _ ⟨λn10 a1=>A.un0 a1 (@hid _ ⟨A.call 175 [(.v O),(.i V),(.i n10),(.v (.func (.func 176) ⟨[]⟩ ⟨[]⟩))] h (@hid _ ⟨λa2 h13=>A.unI a2 (@hid _ ⟨λn14 a3=>A.unB a3 (@hid _ ⟨λa4 a5=>A.un0 a5 (@hid _ ⟨K [(.i n14),(.b a4)] h13⟩)⟩)⟩)⟩)⟩)⟩)⟩)⟩)
theorem g145:(λA:Alg Prop (HL)=>p145 A)=λA=>f145 A:=by kernel_rfl
theorem h145(ls:List Lf)(H:HL)(K:List Lf->HL->Prop):p145 P1 ls H K=ai P1 (xc 145) ae drN n145 ls H K:=
 congrFun (congrFun (congrFun ((congrFun g145 P1).trans (congrFun (congrFun (congrFun e145 Prop) (HL)) P1)) ls) H) K
theorem x145{ls:List Lf}{H:HL}{K:List Lf->HL->Prop}(hls:aY ls)(h:p145 P1 ls H K):∃rs H',aq cc ae 145 ls (absH aa H) rs (absH aa H')/\K rs H':=
 cK i145 hls (h145 ls H K▸h)
/-- slices.insertionSortCmpFunc[crimp/corners.Ray] -/
def p146(A:Alg Prop (HL))(ls:List Lf)(h:HL)(K:List Lf->HL->Prop):Prop:=A.unV ls (@hid _ ⟨λO a3=>A.unI a3 (@hid _ ⟨λa0 a4=>A.unI a4 (@hid _ ⟨λn10 a5=>A.unV a5 (@hid _ ⟨λx12 a6=>A.un0 a6 (@hid _ ⟨A.ari .add .i64 a0 1 (@hid _ ⟨λn14=>A.loop (@hid _ ⟨λa7 a8 a1=>A.unI a8 (@hid _ ⟨λn18 a9=>A.un0 a9 (@hid _ ⟨A.cmp .lss n18 n10 (@hid _ ⟨λb0=>A.cond b0 (@hid _ ⟨A.join (@hid _ ⟨λb1 h22=>A.un0 b1 (@hid _ ⟨A.ari .add .i64 n18 1 (@hid _ ⟨λb2=>a7 [(.i b2)] h22⟩)⟩)⟩) (@hid _ ⟨λa2=>A.loop (@hid _ ⟨λb3 b4 U=>A.unI b4 (@hid _ ⟨λn28 b5=>A.un0 b5 (@hid _ ⟨A.cmp .gtr n28 a0 (@hid _ ⟨λb6=>A.cond b6 (@hid _ ⟨A.opt (idS 2 O n28) (@hid _ ⟨λb7=>A.peek (.lg cc 2 b7) U (@hid _ ⟨λb8=>A.ucI .i64 b8 (@hid _ ⟨λb9 c0=>A.ucI .u8 c0 (@hid _ ⟨λn35 c1=>A.uc0 c1 (@hid _ ⟨A.ari .sub .i64 n28 1 (@hid _ ⟨λn37=>A.opt (idS 2 O n37) (@hid _ ⟨λx38=>A.peek (.lg cc 2 x38) U (@hid _ ⟨λd0=>A.ucI .i64 d0 (@hid _ ⟨λn40 d1=>A.ucI .u8 d1 (@hid _ ⟨λn42 d2=>A.uc0 d2 (@hid _ ⟨A.callv x12 [(.agg ⟨[(.int .i64 b9),(.int .u8 n35)]⟩),(.agg ⟨[(.int .i64 n40),(.int .u8 n42)]⟩)] [(.leaf (.i .i64))] U (@hid _ ⟨λd3 V=>A.unI d3 (@hid _ ⟨λd4 d5=>A.un0 d5 (@hid _ ⟨A.cmp .lss d4 0 (@hid _ ⟨λd6=>A.cond d6 (@hid _ ⟨A.ari .sub .i64 n28 1 (@hid _ ⟨λn49=>A.ari .sub .i64 n28 1 (@hid _ ⟨λn50=>A.opt (idS 2 O n50) (@hid _ ⟨λd7=>A.peek (.lg cc 2 d7) V (@hid _ ⟨λd8=>A.ucI .i64 d8 (@hid _ ⟨λn53 d9=>A.ucI .u8 d9 (@hid _ ⟨λn55 e0=>A.uc0 e0 (@hid _ ⟨A.opt (idS 2 O n28) (@hid _ ⟨λe1=>A.peek (.lg cc 2 e1) V (@hid _ ⟨λe2=>A.ucI .i64 e2 (@hid _ ⟨λe4 e5=>A.ucI .u8 e5 (@hid _ ⟨λe6 e7=>A.uc0 e7 (@hid _ ⟨A.opt (idS 2 O n28) (@hid _ ⟨λe8=>A.heap (.st e8 [(.int .i64 n53),(.int .u8 n55)]) V (@hid _ ⟨λf4 f0=>A.opt (idS 2 O n49) (@hid _ ⟨λf1=>A.heap (.st f1 [(.int .i64 e4),(.int .u8 e6)]) f0 (@hid _ ⟨λf5 f2=>A.ari .sub .i64 n28 1 (@hid _ ⟨λn69=>b3 [(.i n69)] f2⟩)⟩)⟩)⟩)⟩)⟩)⟩)⟩)⟩)⟩)⟩)⟩)⟩)⟩)⟩)⟩)⟩)⟩) (@hid _ ⟨a2 [] V⟩)⟩)⟩)⟩)⟩)⟩)⟩)⟩)⟩)⟩)⟩)⟩)⟩)⟩)⟩)⟩)⟩) (@hid _ ⟨a2 [] U⟩)⟩)⟩)⟩)⟩) [(.i n18)] a1⟩)⟩) (@hid _ ⟨K [] a1⟩)⟩)⟩)⟩)⟩) [(.i n14)] h⟩)⟩)⟩)⟩)⟩)⟩)
theorem g146:(λA:Alg Prop (HL)=>p146 A)=λA=>f146 A:=by kernel_rfl
theorem h146(ls:List Lf)(H:HL)(K:List Lf->HL->Prop):p146 P1 ls H K=ai P1 (xc 146) ae drN n146 ls H K:=
 congrFun (congrFun (congrFun ((congrFun g146 P1).trans (congrFun (congrFun (congrFun e146 Prop) (HL)) P1)) ls) H) K
theorem x146{ls:List Lf}{H:HL}{K:List Lf->HL->Prop}(hls:aY ls)(h:p146 P1 ls H K):∃rs H',aq cc ae 146 ls (absH aa H) rs (absH aa H')/\K rs H':=
 cK i146 hls (h146 ls H K▸h)
/-- slices.BinarySearchFunc[[]crimp/patterns.Crease,crimp/patterns.Crease,crimp/sheets.Unit] -/
def p175(A:Alg Prop (HL))(ls:List Lf)(h:HL)(K:List Lf->HL->Prop):Prop:=A.unV ls (@hid _ ⟨λU a5=>A.unI a5 (@hid _ ⟨λa0 a6=>A.unI a6 (@hid _ ⟨λn10 a7=>A.unV a7 (@hid _ ⟨λx12 a8=>A.un0 a8 (@hid _ ⟨A.opt (lenS U) (@hid _ ⟨λa1=>A.loop (@hid _ ⟨λa9 b0 O=>A.unI b0 (@hid _ ⟨λn18 b1=>A.unI b1 (@hid _ ⟨λn20 b2=>A.un0 b2 (@hid _ ⟨A.cmp .lss n18 n20 (@hid _ ⟨λb3=>A.cond b3 (@hid _ ⟨A.ari .add .i64 n18 n20 (@hid _ ⟨λb4=>A.conv .u64 b4 (@hid _ ⟨λn24=>A.shf .shr .u64 n24 .u64 1 (@hid _ ⟨λb5=>A.conv .i64 b5 (@hid _ ⟨λV=>A.opt (idS 3 U V) (@hid _ ⟨λb6=>A.peek (.lg cc 3 b6) O (@hid _ ⟨λb7=>A.ucI .i64 b7 (@hid _ ⟨λb8 b9=>A.ucI .u8 b9 (@hid _ ⟨λn31 c0=>A.ucI .u8 c0 (@hid _ ⟨λc1 d0=>A.uc0 d0 (@hid _ ⟨A.callv x12 [(.agg ⟨[(.int .i64 b8),(.int .u8 n31),(.int .u8 c1)]⟩),(.agg ⟨[(.int .i64 a0),(.int .u8 n10)]⟩)] [(.leaf (.i .i64))] O (@hid _ ⟨λd1 a2=>A.unI d1 (@hid _ ⟨λn37 d2=>A.un0 d2 (@hid _ ⟨A.cmp .lss n37 0 (@hid _ ⟨λd3=>A.join (@hid _ ⟨λd4 d5=>A.unI d4 (@hid _ ⟨λn42 d6=>A.unI d6 (@hid _ ⟨λn44 d7=>A.un0 d7 (@hid _ ⟨a9 [(.i n42),(.i n44)] d5⟩)⟩)⟩)⟩) (@hid _ ⟨λa3=>A.cond d3 (@hid _ ⟨A.ari .add .i64 V 1 (@hid _ ⟨λd8=>a3 [(.i d8),(.i n20)] a2⟩)⟩) (@hid _ ⟨a3 [(.i n18),(.i V)] a2⟩)⟩)⟩)⟩)⟩)⟩)⟩)⟩)⟩)⟩)⟩)⟩)⟩)⟩)⟩)⟩)⟩) (@hid _ ⟨A.join (@hid _ ⟨λd9 h49=>A.unI d9 (@hid _ ⟨λn50 e0=>A.unB e0 (@hid _ ⟨λe1 e2=>A.un0 e2 (@hid _ ⟨K [(.i n50),(.b e1)] h49⟩)⟩)⟩)⟩) (@hid _ ⟨λa4=>A.cmp .lss n18 a1 (@hid _ ⟨λe4=>A.cond e4 (@hid _ ⟨A.opt (idS 3 U n18) (@hid _ ⟨λe5=>A.peek (.lg cc 3 e5) O (@hid _ ⟨λe6=>A.ucI .i64 e6 (@hid _ ⟨λn58 e7=>A.ucI .u8 e7 (@hid _ ⟨λe8 f0=>A.ucI .u8 f0 (@hid _ ⟨λf1 f2=>A.uc0 f2 (@hid _ ⟨A.callv x12 [(.agg ⟨[(.int .i64 n58),(.int .u8 e8),(.int .u8 f1)]⟩),(.agg ⟨[(.int .i64 a0),(.int .u8 n10)]⟩)] [(.leaf (.i .i64))] O (@hid _ ⟨λf4 f5=>A.unI f4 (@hid _ ⟨λn66 f6=>A.un0 f6 (@hid _ ⟨A.cmp .eql n66 0 (@hid _ ⟨λf7=>a4 [(.i n18),(.b f7)] f5⟩)⟩)⟩)⟩)⟩)⟩)⟩)⟩)⟩)⟩)⟩) (@hid _ ⟨a4 [(.i n18),(.b false)] O⟩)⟩)⟩)⟩)⟩)⟩)⟩)⟩)⟩) [(.i 0),(.i a1)] h⟩)⟩)⟩)⟩)⟩)⟩)
theorem g175:(λA:Alg Prop (HL)=>p175 A)=λA=>f175 A:=by kernel_rfl
theorem h175(ls:List Lf)(H:HL)(K:List Lf->HL->Prop):p175 P1 ls H K=ai P1 (xc 175) ae drN n175 ls H K:=
 congrFun (congrFun (congrFun ((congrFun g175 P1).trans (congrFun (congrFun (congrFun e175 Prop) (HL)) P1)) ls) H) K
theorem x175{ls:List Lf}{H:HL}{K:List Lf->HL->Prop}(hls:aY ls)(h:p175 P1 ls H K):∃rs H',aq cc ae 175 ls (absH aa H) rs (absH aa H')/\K rs H':=
 cK i175 hls (h175 ls H K▸h)
/-- crimp/patterns.find$1 -/
def p176(A:Alg Prop (HL))(ls:List Lf)(h:HL)(K:List Lf->HL->Prop):Prop:=A.unI ls (@hid _ ⟨λO U=>A.unI U (@hid _ ⟨λV a0=>A.unI a0 (@hid _ ⟨λn10 a1=>A.unI a1 (@hid _ ⟨λn12 a2=>A.unI a2 (@hid _ ⟨λn14 a3=>A.un0 a3 (@hid _ ⟨A.call 91 [(.i O),(.i V),(.i n10)] h (@hid _ ⟨λa4 a5=>A.unI a4 (@hid _ ⟨λn18 a6=>A.unI a6 (@hid _ ⟨λn20 a7=>A.un0 a7 (@hid _ ⟨A.call 92 [(.i n18),(.i n20),(.i n12),(.i n14)] a5 (@hid _ ⟨λa8 a9=>A.unI a8 (@hid _ ⟨λn24 b0=>A.un0 b0 (@hid _ ⟨K [(.i n24)] a9⟩)⟩)⟩)⟩)⟩)⟩)⟩)⟩)⟩)⟩)⟩)⟩)⟩)
theorem g176:(λA:Alg Prop (HL)=>p176 A)=λA=>f176 A:=by kernel_rfl
theorem h176(ls:List Lf)(H:HL)(K:List Lf->HL->Prop):p176 P1 ls H K=ai P1 (xc 176) ae drN n176 ls H K:=
 congrFun (congrFun (congrFun ((congrFun g176 P1).trans (congrFun (congrFun (congrFun e176 Prop) (HL)) P1)) ls) H) K
theorem u176{ls:List Lf}{H:HL}{K:List Lf->HL->Prop}(hls:aO ls=true)(h:p176 P1 ls H K):∃rs H',aq cc ae 176 ls (absH aa H) rs (absH aa H')/\K rs H':=
 fk i176 hls (h176 ls H K▸h)
theorem q176{ls rs:List Lf}(hls:aO ls=true)(h:p176 P1 ls [] λrs' _=>rs'=rs):Cc 176 ls rs:=by
 obtain⟨_,_,h1,rfl⟩:=u176 hls h
 exact fz mixed bv (sg:=⟨[.agg [.i .i64,.i .u8,.i .u8],.agg [.i .i64,.i .u8]],[li]⟩) rfl (by kernel_rfl) h1
def py592(A:Alg Prop HL)(vs:List Value)(lp:Nat)(ls:List Lf)(h:HL)(K:List Lf->HL->Prop):Prop:=A.ucV vs (@hid _ ⟨λa1 a9=>A.chk a1 (@hid _ ⟨A.ucV a9 (@hid _ ⟨λa0 b0=>A.chk a0 (@hid _ ⟨A.uc0 b0 (@hid _ ⟨A.unI ls (@hid _ ⟨λn12 b1=>A.unI b1 (@hid _ ⟨λn14 b2=>A.unI b2 (@hid _ ⟨λn16 b3=>A.unI b3 (@hid _ ⟨λn18 b4=>A.un0 b4 (@hid _ ⟨A.new (.cells [(.int .i64 0),(.int .i64 0),(.int .u8 0)] 3 true) h (@hid _ ⟨λO b5=>A.heap (.st (.pointer (some ⟨O,0,none⟩)) [(.int .i64 n14),(.int .i64 n16),(.int .u8 n18)]) b5 (@hid _ ⟨λf4 b6=>A.lp1 lp b6 (@hid _ ⟨λU=>A.peek (.lg cc 3 a1) U (@hid _ ⟨λb7=>A.ucI .i64 b7 (@hid _ ⟨λb8 b9=>A.ucI .i64 b9 (@hid _ ⟨λn28 c0=>A.ucV c0 (@hid _ ⟨λa2 c1=>A.chk a2 (@hid _ ⟨A.uc0 c1 (@hid _ ⟨A.opt (fdP 1 (.pointer (some ⟨O,0,none⟩))) (@hid _ ⟨λa3=>A.chk a3 (@hid _ ⟨A.opt (fdP 0 a3) (@hid _ ⟨λa4=>A.chk a4 (@hid _ ⟨A.peek (.lg cc 1 a4) U (@hid _ ⟨λd0=>A.ucI .i64 d0 (@hid _ ⟨λn35 d1=>A.uc0 d1 (@hid _ ⟨A.opt (fdP 1 (.pointer (some ⟨O,0,none⟩))) (@hid _ ⟨λx37=>A.chk x37 (@hid _ ⟨A.opt (fdP 1 x37) (@hid _ ⟨λx38=>A.chk x38 (@hid _ ⟨A.peek (.lg cc 1 x38) U (@hid _ ⟨λd2=>A.ucI .u8 d2 (@hid _ ⟨λn40 d3=>A.uc0 d3 (@hid _ ⟨A.call 73 [(.i b8),(.i n28),(.v a2),(.i n35),(.i n40)] U (@hid _ ⟨λd4 V=>A.unI d4 (@hid _ ⟨λn44 d5=>A.unI d5 (@hid _ ⟨λf5 d6=>A.un0 d6 (@hid _ ⟨A.cmp .neq n44 0 (@hid _ ⟨λd7=>A.join (@hid _ ⟨λd8 d9=>A.un0 d8 (@hid _ ⟨A.lp2 lp none d9 (@hid _ ⟨λe0=>K [(.b true)] e0⟩)⟩)⟩) (@hid _ ⟨λa5=>A.cond d7 (@hid _ ⟨A.peek (.lg cc 1 a0) V (@hid _ ⟨λe1=>A.ucV e1 (@hid _ ⟨λa6 e2=>A.chk a6 (@hid _ ⟨A.uc0 e2 (@hid _ ⟨A.opt (fdP 0 (.pointer (some ⟨O,0,none⟩))) (@hid _ ⟨λa7=>A.chk a7 (@hid _ ⟨A.peek (.lg cc 1 a7) V (@hid _ ⟨λe4=>A.ucI .i64 e4 (@hid _ ⟨λn58 e5=>A.uc0 e5 (@hid _ ⟨A.new (.cells [(.int .i64 n58),(.int .u8 n44)] 2 true) V (@hid _ ⟨λe6 e7=>A.heap (.ap cc 2 16 a6 (.slice (some ⟨e6,0,(some 12)⟩) 1 2)) e7 (@hid _ ⟨λe8 f0=>A.ucV e8 (@hid _ ⟨λa8 f1=>A.chk a8 (@hid _ ⟨A.uc0 f1 (@hid _ ⟨A.heap (.st a0 [a8]) f0 (@hid _ ⟨λf6 f2=>a5 [] f2⟩)⟩)⟩)⟩)⟩)⟩)⟩)⟩)⟩)⟩)⟩)⟩)⟩)⟩)⟩)⟩) (@hid _ ⟨a5 [] V⟩)⟩)⟩)⟩)⟩)⟩)⟩)⟩)⟩)⟩)⟩)⟩)⟩)⟩)⟩)⟩)⟩)⟩)⟩)⟩)⟩)⟩)⟩)⟩)⟩)⟩)⟩)⟩)⟩)⟩)⟩)⟩)⟩)⟩)⟩)⟩)⟩)⟩)⟩)⟩)
theorem gy592:(λA:Alg Prop HL=>py592 A)=λA=>y592 A:=by kernel_rfl
theorem hy592(vs:List Value)(lp:Nat)(ls:List Lf)(H:HL)(K:List Lf->HL->Prop):py592 P1 vs lp ls H K=ov P1 (xc 0) ae drN (aa 592) vs lp ls H K:=
 congrFun (congrFun (congrFun (congrFun (congrFun ((congrFun gy592 P1).trans (congrFun (congrFun (congrFun ey592 Prop) HL) P1)) vs) lp) ls) H) K
theorem xy592{vs:List Value}{lp:Nat}{ls:List Lf}{H:HL}{K:List Lf->HL->Prop}{st:LoopState}{pd:Option Code}{ys:List S0}(hl:H[lp]? = some (.lp 592 st pd vs))(hy:Told ((aa 592).params.map (·.2)) ls ys)(h:py592 P1 vs lp ls H K):∃b H',eG cc lp (ah ys) (absH aa H) (.bool b) (absH aa H')/\K [.b b] H':=
 sI (X:=xc 0) (PH_ok cc ae aa) pV (sQ hl) rfl rfl rfl rfl hy (hy592 vs lp ls H K▸h)
end Go.Am

/-
 CREASES: the tests of patterns,told of lists: kinds.
-/
set_option maxRecDepth 100000
set_option maxHeartbeats 4000000
namespace Go.Am
open Sx Go.Proofs
abbrev Crs:=Int×Int×Int
def encC(c:Crs):List Value:=[.int .i64 c.1,.int .u8 c.2.1,.int .u8 c.2.2]
def okC(c:Crs):Prop:=-9223372036854775808<=c.1/\c.1<=9223372036854775807/\0<=c.2.1/\c.2.1<=255/\0<=c.2.2/\c.2.2<=255
def isK(c:Crs):Bool:=decide (1<=c.2.2)&&decide (c.2.2<=3)
theorem isKind_c(k:Int):Cc 89 [.i k] [.b (decide (1<=k)&&decide (k<=3))]:=by
 refine q89 rfl ?_;unfold p89
 by_cases h1:1<=k
 ·by_cases h2:k<=3
  ·simp(disch:=omega)only[↓qXX];simp[h1,h2]
  ·simp(disch:=omega)only[↓qXX];simp[h1,h2]
 ·simp(disch:=omega)only[↓qXX];simp[h1]
theorem chk1_c(c:Crs):Cc 88 [.i c.1,.i c.2.1,.i c.2.2] [.b (!isK c)]:=by
 refine q88 rfl ?_;unfold p88
 simp(disch:=omega)only[↓qXX]
 refine aE (isKind_c c.2.2) ?_
 simp(disch:=omega)only[↓qXX]
 simp[isK]
abbrev clo1:Value:=.func (.func 88) ⟨[]⟩ ⟨[]⟩
theorem good1:aX clo1=true:=rfl
theorem index_c{h:HL}{x:Value}{l:List Crs}(hl:LsH h x 3 encC l)(hn:l.length<=4294967296):∃n:Int,aq cc ae 124 [.v x,.v clo1] (absH aa h) [.i n] (absH aa h)/\(0<=n↔∃c∈l,isK c=false):=by
 obtain⟨rs,h',h1,n,rfl,rfl,h2⟩:=x124 (K:=λrs h'=>∃n:Int,rs=[.i n]/\h'=h/\(0<=n↔∃c∈l,isK c=false)) (H:=h) (glsV hl.good (glsV good1 gls0)) (by
  unfold p124
  simp(disch:=omega)only[↓qXX]
  refine gm hl ?_
  refine rI l.length (λj=>∀i,i<j->∀c,l[i]? = some c->isK c=true) rfl (qbu _) (λi hi=>absurd hi (qcF _)) ?_
  intro j hj hi self hself
  simp(disch:=omega)only[↓qXX]
  by_cases hlt:j<l.length
  ·have e1:Int.ofNat j<Int.ofNat l.length:=by show(j:Int)<l.length;omega
   rw[p_lss_t e1]
   simp(disch:=omega)only[↓qXX]
   obtain⟨c,hc⟩ : ∃c,l[j]? = some c:=⟨_,qaA hlt⟩
   refine fQ hl rfl hc ?_
   unfold encC
   simp(disch:=omega)only[↓qXX]
   refine lT (jZ (chk1_c c _) rfl [.agg [.i .i64 c.1,.i .u8 c.2.1,.i .u8 c.2.2]] rfl rfl) ?_
   simp(disch:=omega)only[↓qXX]
   cases hk:isK c with
   |true=>
    show P1.cond false _ _
    simp(disch:=omega)only[↓qXX]
    rw[p_add (by show -9223372036854775808<=(j:Int)+1;omega) (by show(j:Int)+1<=9223372036854775807;omega)]
    refine hself hlt λi hi' c' hc'=>?_
    rcases qaw i j with h|h
    ·exact hi i h c' hc'
    ·obtain rfl:i=j:=by omega
     rw[hc]at hc';cases hc';exact hk
   |false=>
    show P1.cond true _ _
    simp(disch:=omega)only[↓qXX]
    exact⟨_,rfl,by trivial,λ_=>⟨c,qai hc,hk⟩,λ_=>qa3 j⟩
  ·have e1:Int.ofNat l.length<=Int.ofNat j:=by show(l.length:Int)<=j;omega
   rw[p_lss_f e1]
   simp(disch:=omega)only[↓qXX]
   refine⟨_,rfl,by trivial,λh=>by omega,λ⟨c,hc,hk⟩=>?_⟩
   obtain⟨i,hi'⟩:=qbi hc
   have hlt':i<l.length:=by
    rcases qaw i l.length with h|h
    ·exact h
    ·rw[qae h]at hi';cases hi'
   rw[hi i (by omega) c hi']at hk
   cases hk)
 exact⟨n,h1,h2⟩
theorem um{h:HL}{x:Value}{l:List Crs}(hl:LsH h x 3 encC l)(hn:l.length<=4294967296):aq cc ae 87 [.v x,.v clo1] (absH aa h) [.b (!l.all isK)] (absH aa h):=by
 obtain⟨n,h1,h2⟩:=index_c hl hn
 obtain⟨rs,h',h3,rfl,rfl⟩:=x87 (K:=λrs h'=>rs=[.b (!l.all isK)]/\h'=h) (H:=h) (glsV hl.good (glsV good1 gls0)) (by
  unfold p87
  simp(disch:=omega)only[↓qXX]
  refine aW h1 ?_
  simp(disch:=omega)only[↓qXX]
  cases hb:l.all isK with
  |true=>
   have:¬0<=n:=λh=>by
    obtain⟨c,hc,hk⟩:=h2.1 h
    rw[qab.1 hb c hc]at hk;cases hk
   simp(disch:=omega)only[↓qXX]
   exact⟨by trivial,by trivial⟩
  |false=>
   have:0<=n:=h2.2 (by
    obtain⟨c,hc,hk⟩:=List.all_eq_false.1 hb
    exact⟨c,hc,by simpa using hk⟩)
   simp(disch:=omega)only[↓qXX]
   exact⟨by trivial,by trivial⟩)
 exact h3
end Go.Am

end

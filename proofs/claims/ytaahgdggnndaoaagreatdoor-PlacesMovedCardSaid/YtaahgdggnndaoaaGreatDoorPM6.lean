/-
  PART 6 OF THE PROOF: Gb Ph1 Ph2 Ph3 Hx7 Pq Gp Hx1 Hx2 Sx15 E0 Hx3 Mv1 E70 E1 E2 E3 E4 Hx4 Hx5 Hx6 Mp2 E71 E72 E73 E74 (no conditions).
-/
import Derived.Test.YtaahgdggnndaoaaGreatDoorPM5
set_option linter.unusedSectionVars false
set_option linter.unusedSimpArgs false
set_option linter.unusedVariables false
set_option linter.constructorNameAsVariable false
set_option linter.defProp false
noncomputable section
/-
 THE FUNCTIONS IN THE DIRECT STYLE OF RUNS,BY PROGRAM;THE TABLE OF RUNS.
-/
set_option maxRecDepth 100000
namespace Go.Am
open Sx Go.Proofs
instance val0 : Val := ⟨λ_ => 0⟩
instance kno0:Kno:=KnoC cc neuN
theorem mixed:cc.P.follows .mixedOrders=true:=by kernel_rfl
theorem jE(g:Nat)(vs:List Value)(h:cc.G g=some vs):vs.all gfl=true:=by
 unfold cc at h
 simp only at h
 split at h<;>first|(cases h;done)|(obtain rfl:=qan h;kernel_rfl)
theorem ud:DrOk cc drN:=drOf_ok neuN_ok (λ_ _ _ _ _ (h:_/\_)=>h.1)
abbrev Ent(k:Nat)(g:FB):Prop:=oT cc ab ac k g
abbrev Cok(c:aa):Prop:=CallBOk cc ab ac c
theorem uZ(f:FuncId)(sg:Sig)(ls rs:List Lf)(H':List HObj)(hs:ab f=some sg)(hp:sg.plain=true)(hc:aW cc ab f ls [] rs H'):∀H,aW cc ab f ls H rs H:=ct_of mixed jE hs hp hc
theorem ent_of{k:Nat}{g:aa->FB}{f:Alg RT HTr->FB}{ct:aa->aa}{fn:Fn1}(h0:g=λc=>f (BA ab ac (ct c)))(h2:f=λA ls h K=>ao A (xc k) ab drN fn ls h K)(h3:FnIs (xc k) ab k fn){c:aa}(hc:Cok (ct c)):Ent k (g c):=by
 intro ls h K w hls hk
 rw[h0,h2]at hk
 obtain⟨rs,h',a1,_,a3⟩:=pC (BA_ok (w:=w) hc) ud h3 hls hk
 exact⟨rs,h',a1,a3⟩
theorem aq{k:Nat}{g:aa->FB}{f:Alg RT HTr->FB}{ct:aa->aa}{fn:Fn1}(h2:∀c ls h K,f (BA ab ac (ct c)) ls h K=g c ls h K)(h3:f=λA ls h K=>ao A (xc k) ab drN fn ls h K)(h4:FnIs (xc k) ab k fn){c:aa}(hc:Cok (ct c)):Ent k (g c):=
 ent_of (g:=g) (ct:=ct) (funext λc=>funext λls=>funext λh=>funext λK=>(h2 c ls h K).symm) h3 h4 hc
theorem aN:∀p∈([]:List (Nat×FB)),Ent p.1 p.2:=λ_ h=>by cases h
theorem aC{k:Nat}{g:FB}{l:List (Nat×FB)}(h:Ent k g)(t:∀p∈l,Ent p.1 p.2):∀p∈(k,g) :: l,Ent p.1 p.2:=λp hp=>by
 rcases qaj.1 hp with rfl|hp
 ·exact h
 ·exact t p hp
theorem ent_ro{k:Nat}{g:FB}{sg:Sig}(h:Ent k g)(h4:ab k=some sg)(h5:sg.rs.all SK.plain=true)(h6:neuN k=none):Ent k (memoR g):=memoR_ok (λls0 rs H0 H' H σ hc hb hl=>call_ro mixed jE h4 h5 h6 σ hc hb hl) h
theorem al{k:Nat}{g:FB}{sg:Sig}(h:Ent k g)(h4:ab k=some sg)(h5:sg.plain=true):Ent k (memo g):=memo_ok uZ h h4 h5
/-- crimp/crimpref05.Id -/
def ct59(c:aa):aa:=tblF [] c
def wr59(c:aa):FB:=f59 (BA ab ac (ct59 c))
def w59(c:aa):FB:=memo (wr59 c)
theorem ok59{c:aa}(hc:Cok c):Ent 59 (w59 c):=al (aq (f:=λA=>f59 A) (ct:=ct59) (λ_ _ _ _=>rfl) (congrFun (congrFun e59 RT) HTr) i59 (af hc aN)) rfl (by kernel_rfl)
/-- crimp/crimpref03.Corners -/
def ct53(c:aa):aa:=tblF [] c
def wr53(c:aa):FB:=f53 (BA ab ac (ct53 c))
def w53(c:aa):FB:=memo (wr53 c)
theorem ok53{c:aa}(hc:Cok c):Ent 53 (w53 c):=al (aq (f:=λA=>f53 A) (ct:=ct53) (λ_ _ _ _=>rfl) (congrFun (congrFun e53 RT) HTr) i53 (af hc aN)) rfl (by kernel_rfl)
/-- crimp/crimpref03.With -/
def ct56(c:aa):aa:=tblF [(53,w53 c)] c
def wr56(c:aa):FB:=f56 (BA ab ac (ct56 c))
def w56(c:aa):FB:=memo (wr56 c)
theorem ok56{c:aa}(hc:Cok c):Ent 56 (w56 c):=al (aq (f:=λA=>f56 A) (ct:=ct56) (λ_ _ _ _=>rfl) (congrFun (congrFun e56 RT) HTr) i56 (af hc (aC (ok53 hc) aN))) rfl (by kernel_rfl)
/-- crimp/crimpref01.Across -/
def ct88(c:aa):aa:=tblF [] c
def wr88(c:aa):FB:=f88 (BA ab ac (ct88 c))
def w88(c:aa):FB:=memo (wr88 c)
theorem ok88{c:aa}(hc:Cok c):Ent 88 (w88 c):=al (aq (f:=λA=>f88 A) (ct:=ct88) (λ_ _ _ _=>rfl) (congrFun (congrFun e88 RT) HTr) i88 (af hc aN)) rfl (by kernel_rfl)
/-- crimp/crimpref01.Far -/
def ct54(c:aa):aa:=tblF [(88,w88 c)] c
def wr54(c:aa):FB:=f54 (BA ab ac (ct54 c))
def w54(c:aa):FB:=memo (wr54 c)
theorem ok54{c:aa}(hc:Cok c):Ent 54 (w54 c):=al (aq (f:=λA=>f54 A) (ct:=ct54) (λ_ _ _ _=>rfl) (congrFun (congrFun e54 RT) HTr) i54 (af hc (aC (ok88 hc) aN))) rfl (by kernel_rfl)
/-- crimp/crimpref01.Reflect -/
def ct58(c:aa):aa:=tblF [(54,w54 c),(88,w88 c)] c
def wr58(c:aa):FB:=f58 (BA ab ac (ct58 c))
def w58(c:aa):FB:=memo (wr58 c)
theorem ok58{c:aa}(hc:Cok c):Ent 58 (w58 c):=al (aq (f:=λA=>f58 A) (ct:=ct58) (λ_ _ _ _=>rfl) (congrFun (congrFun e58 RT) HTr) i58 (af hc (aC (ok54 hc) (aC (ok88 hc) aN)))) rfl (by kernel_rfl)
/-- crimp/crimpref03.Line -/
def ct89(c:aa):aa:=tblF [(53,w53 c),(88,w88 c)] c
def wr89(c:aa):FB:=f89 (BA ab ac (ct89 c))
def w89(c:aa):FB:=memo (wr89 c)
theorem ok89{c:aa}(hc:Cok c):Ent 89 (w89 c):=al (aq (f:=λA=>f89 A) (ct:=ct89) (λ_ _ _ _=>rfl) (congrFun (congrFun e89 RT) HTr) i89 (af hc (aC (ok53 hc) (aC (ok88 hc) aN)))) rfl (by kernel_rfl)
/-- crimp/crimpref03.Neighbour -/
def ct60(c:aa):aa:=tblF [(53,w53 c),(56,w56 c),(58,w58 c),(89,w89 c)] c
def wr60(c:aa):FB:=f60 (BA ab ac (ct60 c))
def w60(c:aa):FB:=memo (wr60 c)
theorem ok60{c:aa}(hc:Cok c):Ent 60 (w60 c):=al (aq (f:=λA=>f60 A) (ct:=ct60) (λ_ _ _ _=>rfl) (congrFun (congrFun e60 RT) HTr) i60 (af hc (aC (ok53 hc) (aC (ok56 hc) (aC (ok58 hc) (aC (ok89 hc) aN)))))) rfl (by kernel_rfl)
/-- crimp/crimpref05.Neighbour -/
def ct34(c:aa):aa:=tblF [(59,w59 c),(60,w60 c)] c
def wr34(c:aa):FB:=f34 (BA ab ac (ct34 c))
def w34(c:aa):FB:=memo (wr34 c)
theorem ok34{c:aa}(hc:Cok c):Ent 34 (w34 c):=al (aq (f:=λA=>f34 A) (ct:=ct34) (λ_ _ _ _=>rfl) (congrFun (congrFun e34 RT) HTr) i34 (af hc (aC (ok59 hc) (aC (ok60 hc) aN)))) rfl (by kernel_rfl)
/-- crimp/crimpref05.Units -/
def ct28(c:aa):aa:=tblF [(34,w34 c)] c
def wr28(c:aa):FB:=f28 (BA ab ac (ct28 c))
def w28(c:aa):FB:=wr28 c
theorem ok28{c:aa}(hc:Cok c):Ent 28 (w28 c):=aq (f:=λA=>f28 A) (ct:=ct28) (λ_ _ _ _=>rfl) (congrFun (congrFun e28 RT) HTr) i28 (af hc (aC (ok34 hc) aN))
/-- crimp/crimpref05.Cells -/
def ct29(c:aa):aa:=tblF [] c
def wr29(c:aa):FB:=f29 (BA ab ac (ct29 c))
def w29(c:aa):FB:=wr29 c
theorem ok29{c:aa}(hc:Cok c):Ent 29 (w29 c):=aq (f:=λA=>f29 A) (ct:=ct29) (λ_ _ _ _=>rfl) (congrFun (congrFun e29 RT) HTr) i29 (af hc aN)
/-- crimp/crimpref03.Side -/
def ct30(c:aa):aa:=tblF [(53,w53 c),(54,w54 c)] c
def wr30(c:aa):FB:=f30 (BA ab ac (ct30 c))
def w30(c:aa):FB:=memo (wr30 c)
theorem ok30{c:aa}(hc:Cok c):Ent 30 (w30 c):=al (aq (f:=λA=>f30 A) (ct:=ct30) (λ_ _ _ _=>rfl) (congrFun (congrFun e30 RT) HTr) i30 (af hc (aC (ok53 hc) (aC (ok54 hc) aN)))) rfl (by kernel_rfl)
/-- crimp/crimpref02.Point -/
def ct55(c:aa):aa:=tblF [] c
def wr55(c:aa):FB:=f55 (BA ab ac (ct55 c))
def w55(c:aa):FB:=memo (wr55 c)
theorem ok55{c:aa}(hc:Cok c):Ent 55 (w55 c):=al (aq (f:=λA=>f55 A) (ct:=ct55) (λ_ _ _ _=>rfl) (congrFun (congrFun e55 RT) HTr) i55 (af hc aN)) rfl (by kernel_rfl)
/-- crimp/crimpref03.Move -/
def ct31(c:aa):aa:=tblF [(53,w53 c),(55,w55 c),(56,w56 c)] c
def wr31(c:aa):FB:=f31 (BA ab ac (ct31 c))
def w31(c:aa):FB:=memo (wr31 c)
theorem ok31{c:aa}(hc:Cok c):Ent 31 (w31 c):=al (aq (f:=λA=>f31 A) (ct:=ct31) (λ_ _ _ _=>rfl) (congrFun (congrFun e31 RT) HTr) i31 (af hc (aC (ok53 hc) (aC (ok55 hc) (aC (ok56 hc) aN))))) rfl (by kernel_rfl)
/-- crimp/crimpref02.Told -/
def ct57(c:aa):aa:=tblF [(55,w55 c)] c
def wr57(c:aa):FB:=f57 (BA ab ac (ct57 c))
def w57(c:aa):FB:=memo (wr57 c)
theorem ok57{c:aa}(hc:Cok c):Ent 57 (w57 c):=al (aq (f:=λA=>f57 A) (ct:=ct57) (λ_ _ _ _=>rfl) (congrFun (congrFun e57 RT) HTr) i57 (af hc (aC (ok55 hc) aN))) rfl (by kernel_rfl)
/-- crimp/crimpref02.Then -/
def ct32(c:aa):aa:=tblF [(55,w55 c),(57,w57 c)] c
def wr32(c:aa):FB:=f32 (BA ab ac (ct32 c))
def w32(c:aa):FB:=memo (wr32 c)
theorem ok32{c:aa}(hc:Cok c):Ent 32 (w32 c):=al (aq (f:=λA=>f32 A) (ct:=ct32) (λ_ _ _ _=>rfl) (congrFun (congrFun e32 RT) HTr) i32 (af hc (aC (ok55 hc) (aC (ok57 hc) aN)))) rfl (by kernel_rfl)
/-- crimp/crimpref02.Of -/
def ct33(c:aa):aa:=tblF [(57,w57 c),(58,w58 c)] c
def wr33(c:aa):FB:=f33 (BA ab ac (ct33 c))
def w33(c:aa):FB:=memo (wr33 c)
theorem ok33{c:aa}(hc:Cok c):Ent 33 (w33 c):=al (aq (f:=λA=>f33 A) (ct:=ct33) (λ_ _ _ _=>rfl) (congrFun (congrFun e33 RT) HTr) i33 (af hc (aC (ok57 hc) (aC (ok58 hc) aN)))) rfl (by kernel_rfl)
/-- crimp/crimpref10.Fold -/
def ct11(c:aa):aa:=tblF [(28,w28 c),(29,w29 c),(30,w30 c),(31,w31 c),(32,w32 c),(33,w33 c),(34,w34 c)] c
def wr11(c:aa):FB:=f11 (BA ab ac (ct11 c))
def w11(c:aa):FB:=wr11 c
theorem ok11{c:aa}(hc:Cok c):Ent 11 (w11 c):=aq (f:=λA=>f11 A) (ct:=ct11) (λ_ _ _ _=>rfl) (congrFun (congrFun e11 RT) HTr) i11 (af hc (aC (ok28 hc) (aC (ok29 hc) (aC (ok30 hc) (aC (ok31 hc) (aC (ok32 hc) (aC (ok33 hc) (aC (ok34 hc) aN))))))))
/-- crimp/crimpref10.Line -/
def ct12(c:aa):aa:=tblF [] c
def wr12(c:aa):FB:=f12 (BA ab ac (ct12 c))
def w12(c:aa):FB:=memo (wr12 c)
theorem ok12{c:aa}(hc:Cok c):Ent 12 (w12 c):=al (aq (f:=λA=>f12 A) (ct:=ct12) (λ_ _ _ _=>rfl) (congrFun (congrFun e12 RT) HTr) i12 (af hc aN)) rfl (by kernel_rfl)
/-- crimp/crimpref06.With -/
def ct13(c:aa):aa:=tblF [(28,w28 c)] c
def wr13(c:aa):FB:=f13 (BA ab ac (ct13 c))
def w13(c:aa):FB:=wr13 c
theorem ok13{c:aa}(hc:Cok c):Ent 13 (w13 c):=aq (f:=λA=>f13 A) (ct:=ct13) (λ_ _ _ _=>rfl) (congrFun (congrFun e13 RT) HTr) i13 (af hc (aC (ok28 hc) aN))
/-- (crimp/crimplaw10.F).Of -/
def ct4(c:aa):aa:=tblF [(11,w11 c),(12,w12 c),(13,w13 c)] c
def wr4(c:aa):FB:=f4 (BA ab ac (ct4 c))
def w4(c:aa):FB:=wr4 c
theorem ok4{c:aa}(hc:Cok c):Ent 4 (w4 c):=aq (f:=λA=>f4 A) (ct:=ct4) (λ_ _ _ _=>rfl) (congrFun (congrFun e4 RT) HTr) i4 (af hc (aC (ok11 hc) (aC (ok12 hc) (aC (ok13 hc) aN))))
/-- crimp/sheets.Check -/
def ct35(c:aa):aa:=tblF [] c
def wr35(c:aa):FB:=f35 (BA ab ac (ct35 c))
def w35(c:aa):FB:=memo (wr35 c)
theorem ok35{c:aa}(hc:Cok c):Ent 35 (w35 c):=al (aq (f:=λA=>f35 A) (ct:=ct35) (λ_ _ _ _=>rfl) (congrFun (congrFun e35 RT) HTr) i35 (af hc aN)) rfl (by kernel_rfl)
/-- slices.IndexFunc[[]crimp/patterns.Crease,crimp/patterns.Crease] -/
def ct61(c:aa):aa:=tblF [] c
def wr61(c:aa):FB:=f61 (BA ab ac (ct61 c))
def w61(c:aa):FB:=wr61 c
theorem ok61{c:aa}(hc:Cok c):Ent 61 (w61 c):=aq (f:=λA=>f61 A) (ct:=ct61) (λ_ _ _ _=>rfl) (congrFun (congrFun e61 RT) HTr) i61 (af hc aN)
/-- slices.ContainsFunc[[]crimp/patterns.Crease,crimp/patterns.Crease] -/
def ct36(c:aa):aa:=tblF [(61,w61 c)] c
def wr36(c:aa):FB:=f36 (BA ab ac (ct36 c))
def w36(c:aa):FB:=wr36 c
theorem ok36{c:aa}(hc:Cok c):Ent 36 (w36 c):=aq (f:=λA=>f36 A) (ct:=ct36) (λ_ _ _ _=>rfl) (congrFun (congrFun e36 RT) HTr) i36 (af hc (aC (ok61 hc) aN))
/-- (crimp/sheets.Sheet).has -/
def ct68(c:aa):aa:=tblF [] c
def wr68(c:aa):FB:=f68 (BA ab ac (ct68 c))
def w68(c:aa):FB:=memo (wr68 c)
theorem ok68{c:aa}(hc:Cok c):Ent 68 (w68 c):=al (aq (f:=λA=>f68 A) (ct:=ct68) (λ_ _ _ _=>rfl) (congrFun (congrFun e68 RT) HTr) i68 (af hc aN)) rfl (by kernel_rfl)
/-- (crimp/sheets.Sheet).cell -/
def ct69(c:aa):aa:=tblF [] c
def wr69(c:aa):FB:=f69 (BA ab ac (ct69 c))
def w69(c:aa):FB:=memo (wr69 c)
theorem ok69{c:aa}(hc:Cok c):Ent 69 (w69 c):=al (aq (f:=λA=>f69 A) (ct:=ct69) (λ_ _ _ _=>rfl) (congrFun (congrFun e69 RT) HTr) i69 (af hc aN)) rfl (by kernel_rfl)
/-- crimp/sheets.Cell -/
def ct44(c:aa):aa:=tblF [(35,w35 c),(68,w68 c),(69,w69 c)] c
def wr44(c:aa):FB:=f44 (BA ab ac (ct44 c))
def w44(c:aa):FB:=memo (wr44 c)
theorem ok44{c:aa}(hc:Cok c):Ent 44 (w44 c):=al (aq (f:=λA=>f44 A) (ct:=ct44) (λ_ _ _ _=>rfl) (congrFun (congrFun e44 RT) HTr) i44 (af hc (aC (ok35 hc) (aC (ok68 hc) (aC (ok69 hc) aN))))) rfl (by kernel_rfl)
/-- crimp/cells.Check -/
def ct70(c:aa):aa:=tblF [] c
def wr70(c:aa):FB:=f70 (BA ab ac (ct70 c))
def w70(c:aa):FB:=memo (wr70 c)
theorem ok70{c:aa}(hc:Cok c):Ent 70 (w70 c):=al (aq (f:=λA=>f70 A) (ct:=ct70) (λ_ _ _ _=>rfl) (congrFun (congrFun e70 RT) HTr) i70 (af hc aN)) rfl (by kernel_rfl)
/-- crimp/cells.Neighbour -/
def ct90(c:aa):aa:=tblF [(70,w70 c)] c
def wr90(c:aa):FB:=f90 (BA ab ac (ct90 c))
def w90(c:aa):FB:=memo (wr90 c)
theorem ok90{c:aa}(hc:Cok c):Ent 90 (w90 c):=al (aq (f:=λA=>f90 A) (ct:=ct90) (λ_ _ _ _=>rfl) (congrFun (congrFun e90 RT) HTr) i90 (af hc (aC (ok70 hc) aN))) rfl (by kernel_rfl)
/-- crimp/sheets.Id -/
def ct91(c:aa):aa:=tblF [(35,w35 c),(70,w70 c)] c
def wr91(c:aa):FB:=f91 (BA ab ac (ct91 c))
def w91(c:aa):FB:=memo (wr91 c)
theorem ok91{c:aa}(hc:Cok c):Ent 91 (w91 c):=al (aq (f:=λA=>f91 A) (ct:=ct91) (λ_ _ _ _=>rfl) (congrFun (congrFun e91 RT) HTr) i91 (af hc (aC (ok35 hc) (aC (ok70 hc) aN)))) rfl (by kernel_rfl)
/-- crimp/sheets.Neighbour -/
def ct62(c:aa):aa:=tblF [(44,w44 c),(90,w90 c),(91,w91 c)] c
def wr62(c:aa):FB:=f62 (BA ab ac (ct62 c))
def w62(c:aa):FB:=memo (wr62 c)
theorem ok62{c:aa}(hc:Cok c):Ent 62 (w62 c):=al (aq (f:=λA=>f62 A) (ct:=ct62) (λ_ _ _ _=>rfl) (congrFun (congrFun e62 RT) HTr) i62 (af hc (aC (ok44 hc) (aC (ok90 hc) (aC (ok91 hc) aN))))) rfl (by kernel_rfl)
/-- crimp/sheets.Name -/
def ct39(c:aa):aa:=tblF [(62,w62 c)] c
def wr39(c:aa):FB:=f39 (BA ab ac (ct39 c))
def w39(c:aa):FB:=memo (wr39 c)
theorem ok39{c:aa}(hc:Cok c):Ent 39 (w39 c):=al (aq (f:=λA=>f39 A) (ct:=ct39) (λ_ _ _ _=>rfl) (congrFun (congrFun e39 RT) HTr) i39 (af hc (aC (ok62 hc) aN))) rfl (by kernel_rfl)
/-- (crimp/patterns.Crease).unit -/
def ct40(c:aa):aa:=tblF [] c
def wr40(c:aa):FB:=f40 (BA ab ac (ct40 c))
def w40(c:aa):FB:=memo (wr40 c)
theorem ok40{c:aa}(hc:Cok c):Ent 40 (w40 c):=al (aq (f:=λA=>f40 A) (ct:=ct40) (λ_ _ _ _=>rfl) (congrFun (congrFun e40 RT) HTr) i40 (af hc aN)) rfl (by kernel_rfl)
/-- crimp/patterns.order -/
def ct41(c:aa):aa:=tblF [] c
def wr41(c:aa):FB:=f41 (BA ab ac (ct41 c))
def w41(c:aa):FB:=memo (wr41 c)
theorem ok41{c:aa}(hc:Cok c):Ent 41 (w41 c):=al (aq (f:=λA=>f41 A) (ct:=ct41) (λ_ _ _ _=>rfl) (congrFun (congrFun e41 RT) HTr) i41 (af hc aN)) rfl (by kernel_rfl)
/-- crimp/patterns.Check -/
def ct14(c:aa):aa:=tblF [(35,w35 c),(36,w36 c),(39,w39 c),(40,w40 c),(41,w41 c)] c
def wr14(c:aa):FB:=f14 (BA ab ac (ct14 c))
def w14(c:aa):FB:=memoR (wr14 c)
theorem ok14{c:aa}(hc:Cok c):Ent 14 (w14 c):=ent_ro (aq (f:=λA=>f14 A) (ct:=ct14) (λ_ _ _ _=>rfl) (congrFun (congrFun e14 RT) HTr) i14 (af hc (aC (ok35 hc) (aC (ok36 hc) (aC (ok39 hc) (aC (ok40 hc) (aC (ok41 hc) aN))))))) rfl (by kernel_rfl) (by kernel_rfl)
/-- crimp/patterns.Opposite -/
def ct5(c:aa):aa:=tblF [(14,w14 c)] c
def wr5(c:aa):FB:=f5 (BA ab ac (ct5 c))
def w5(c:aa):FB:=wr5 c
theorem ok5{c:aa}(hc:Cok c):Ent 5 (w5 c):=aq (f:=λA=>f5 A) (ct:=ct5) (λ_ _ _ _=>rfl) (congrFun (congrFun e5 RT) HTr) i5 (af hc (aC (ok14 hc) aN))
/-- crimp/moves.beyond -/
def ct42(c:aa):aa:=tblF [] c
def wr42(c:aa):FB:=f42 (BA ab ac (ct42 c))
def w42(c:aa):FB:=memo (wr42 c)
theorem ok42{c:aa}(hc:Cok c):Ent 42 (w42 c):=al (aq (f:=λA=>f42 A) (ct:=ct42) (λ_ _ _ _=>rfl) (congrFun (congrFun e42 RT) HTr) i42 (af hc aN)) rfl (by kernel_rfl)
/-- crimp/moves.Check -/
def ct15(c:aa):aa:=tblF [(42,w42 c)] c
def wr15(c:aa):FB:=f15 (BA ab ac (ct15 c))
def w15(c:aa):FB:=memo (wr15 c)
theorem ok15{c:aa}(hc:Cok c):Ent 15 (w15 c):=al (aq (f:=λA=>f15 A) (ct:=ct15) (λ_ _ _ _=>rfl) (congrFun (congrFun e15 RT) HTr) i15 (af hc (aC (ok42 hc) aN))) rfl (by kernel_rfl)
/-- (crimp/moves.matrix).of -/
def ct16(c:aa):aa:=tblF [] c
def wr16(c:aa):FB:=f16 (BA ab ac (ct16 c))
def w16(c:aa):FB:=memo (wr16 c)
theorem ok16{c:aa}(hc:Cok c):Ent 16 (w16 c):=al (aq (f:=λA=>f16 A) (ct:=ct16) (λ_ _ _ _=>rfl) (congrFun (congrFun e16 RT) HTr) i16 (af hc aN)) rfl (by kernel_rfl)
/-- crimp/moves.limited -/
def ct17(c:aa):aa:=tblF [(15,w15 c)] c
def wr17(c:aa):FB:=f17 (BA ab ac (ct17 c))
def w17(c:aa):FB:=memo (wr17 c)
theorem ok17{c:aa}(hc:Cok c):Ent 17 (w17 c):=al (aq (f:=λA=>f17 A) (ct:=ct17) (λ_ _ _ _=>rfl) (congrFun (congrFun e17 RT) HTr) i17 (af hc (aC (ok15 hc) aN))) rfl (by kernel_rfl)
/-- crimp/moves.number -/
def ct18(c:aa):aa:=tblF [] c
def wr18(c:aa):FB:=f18 (BA ab ac (ct18 c))
def w18(c:aa):FB:=memo (wr18 c)
theorem ok18{c:aa}(hc:Cok c):Ent 18 (w18 c):=al (aq (f:=λA=>f18 A) (ct:=ct18) (λ_ _ _ _=>rfl) (congrFun (congrFun e18 RT) HTr) i18 (af hc aN)) rfl (by kernel_rfl)
/-- (crimp/moves.matrix).then -/
def ct19(c:aa):aa:=tblF [(16,w16 c)] c
def wr19(c:aa):FB:=f19 (BA ab ac (ct19 c))
def w19(c:aa):FB:=memo (wr19 c)
theorem ok19{c:aa}(hc:Cok c):Ent 19 (w19 c):=al (aq (f:=λA=>f19 A) (ct:=ct19) (λ_ _ _ _=>rfl) (congrFun (congrFun e19 RT) HTr) i19 (af hc (aC (ok16 hc) aN))) rfl (by kernel_rfl)
/-- crimp/moves.Then -/
def ct6(c:aa):aa:=tblF [(15,w15 c),(16,w16 c),(17,w17 c),(18,w18 c),(19,w19 c)] c
def wr6(c:aa):FB:=f6 (BA ab ac (ct6 c))
def w6(c:aa):FB:=memo (wr6 c)
theorem ok6{c:aa}(hc:Cok c):Ent 6 (w6 c):=al (aq (f:=λA=>f6 A) (ct:=ct6) (λ_ _ _ _=>rfl) (congrFun (congrFun e6 RT) HTr) i6 (af hc (aC (ok15 hc) (aC (ok16 hc) (aC (ok17 hc) (aC (ok18 hc) (aC (ok19 hc) aN))))))) rfl (by kernel_rfl)
/-- (crimp/crimplaw02.M).Of -/
def ct7(c:aa):aa:=tblF [] c
def wr7(c:aa):FB:=f7 (BA ab ac (ct7 c))
def w7(c:aa):FB:=memo (wr7 c)
theorem ok7{c:aa}(hc:Cok c):Ent 7 (w7 c):=al (aq (f:=λA=>f7 A) (ct:=ct7) (λ_ _ _ _=>rfl) (congrFun (congrFun e7 RT) HTr) i7 (af hc aN)) rfl (by kernel_rfl)
/-- crimp/places.creased -/
def ct63(c:aa):aa:=tblF [] c
def wr63(c:aa):FB:=f63 (BA ab ac (ct63 c))
def w63(c:aa):FB:=wr63 c
theorem ok63{c:aa}(hc:Cok c):Ent 63 (w63 c):=aq (f:=λA=>f63 A) (ct:=ct63) (λ_ _ _ _=>rfl) (congrFun (congrFun e63 RT) HTr) i63 (af hc aN)
/-- crimp/sheets.Count -/
def ct64(c:aa):aa:=tblF [(35,w35 c)] c
def wr64(c:aa):FB:=f64 (BA ab ac (ct64 c))
def w64(c:aa):FB:=memo (wr64 c)
theorem ok64{c:aa}(hc:Cok c):Ent 64 (w64 c):=al (aq (f:=λA=>f64 A) (ct:=ct64) (λ_ _ _ _=>rfl) (congrFun (congrFun e64 RT) HTr) i64 (af hc (aC (ok35 hc) aN))) rfl (by kernel_rfl)
/-- crimp/places.relative -/
def ct43(c:aa):aa:=tblF [(62,w62 c),(63,w63 c),(64,w64 c)] c
def wr43(c:aa):FB:=f43 (BA ab ac (ct43 c))
def w43(c:aa):FB:=wr43 c
theorem ok43{c:aa}(hc:Cok c):Ent 43 (w43 c):=aq (f:=λA=>f43 A) (ct:=ct43) (λ_ _ _ _=>rfl) (congrFun (congrFun e43 RT) HTr) i43 (af hc (aC (ok62 hc) (aC (ok63 hc) (aC (ok64 hc) aN))))
/-- crimp/cells.middle -/
def ct94(c:aa):aa:=tblF [] c
def wr94(c:aa):FB:=f94 (BA ab ac (ct94 c))
def w94(c:aa):FB:=memo (wr94 c)
theorem ok94{c:aa}(hc:Cok c):Ent 94 (w94 c):=al (aq (f:=λA=>f94 A) (ct:=ct94) (λ_ _ _ _=>rfl) (congrFun (congrFun e94 RT) HTr) i94 (af hc aN)) rfl (by kernel_rfl)
/-- crimp/lines.CheckPoint -/
def ct85(c:aa):aa:=tblF [] c
def wr85(c:aa):FB:=f85 (BA ab ac (ct85 c))
def w85(c:aa):FB:=memo (wr85 c)
theorem ok85{c:aa}(hc:Cok c):Ent 85 (w85 c):=al (aq (f:=λA=>f85 A) (ct:=ct85) (λ_ _ _ _=>rfl) (congrFun (congrFun e85 RT) HTr) i85 (af hc aN)) rfl (by kernel_rfl)
/-- crimp/moves.Point -/
def ct95(c:aa):aa:=tblF [(15,w15 c),(16,w16 c),(85,w85 c)] c
def wr95(c:aa):FB:=f95 (BA ab ac (ct95 c))
def w95(c:aa):FB:=memo (wr95 c)
theorem ok95{c:aa}(hc:Cok c):Ent 95 (w95 c):=al (aq (f:=λA=>f95 A) (ct:=ct95) (λ_ _ _ _=>rfl) (congrFun (congrFun e95 RT) HTr) i95 (af hc (aC (ok15 hc) (aC (ok16 hc) (aC (ok85 hc) aN))))) rfl (by kernel_rfl)
/-- crimp/cells.moved -/
def ct71(c:aa):aa:=tblF [(94,w94 c),(95,w95 c)] c
def wr71(c:aa):FB:=f71 (BA ab ac (ct71 c))
def w71(c:aa):FB:=memo (wr71 c)
theorem ok71{c:aa}(hc:Cok c):Ent 71 (w71 c):=al (aq (f:=λA=>f71 A) (ct:=ct71) (λ_ _ _ _=>rfl) (congrFun (congrFun e71 RT) HTr) i71 (af hc (aC (ok94 hc) (aC (ok95 hc) aN)))) rfl (by kernel_rfl)
/-- crimp/cells.Move -/
def ct45(c:aa):aa:=tblF [(15,w15 c),(70,w70 c),(71,w71 c)] c
def wr45(c:aa):FB:=f45 (BA ab ac (ct45 c))
def w45(c:aa):FB:=memo (wr45 c)
theorem ok45{c:aa}(hc:Cok c):Ent 45 (w45 c):=al (aq (f:=λA=>f45 A) (ct:=ct45) (λ_ _ _ _=>rfl) (congrFun (congrFun e45 RT) HTr) i45 (af hc (aC (ok15 hc) (aC (ok70 hc) (aC (ok71 hc) aN))))) rfl (by kernel_rfl)
/-- crimp/places.both -/
def ct20(c:aa):aa:=tblF [(6,w6 c),(14,w14 c),(15,w15 c),(43,w43 c),(44,w44 c),(45,w45 c)] c
def wr20(c:aa):FB:=f20 (BA ab ac (ct20 c))
def w20(c:aa):FB:=wr20 c
theorem ok20{c:aa}(hc:Cok c):Ent 20 (w20 c):=aq (f:=λA=>f20 A) (ct:=ct20) (λ_ _ _ _=>rfl) (congrFun (congrFun e20 RT) HTr) i20 (af hc (aC (ok6 hc) (aC (ok14 hc) (aC (ok15 hc) (aC (ok43 hc) (aC (ok44 hc) (aC (ok45 hc) aN)))))))
/-- crimp/places.Places -/
def ct8(c:aa):aa:=tblF [(20,w20 c)] c
def wr8(c:aa):FB:=f8 (BA ab ac (ct8 c))
def w8(c:aa):FB:=wr8 c
theorem ok8{c:aa}(hc:Cok c):Ent 8 (w8 c):=aq (f:=λA=>f8 A) (ct:=ct8) (λ_ _ _ _=>rfl) (congrFun (congrFun e8 RT) HTr) i8 (af hc (aC (ok20 hc) aN))
/-- slices.Clip[[]crimp/sheets.Unit,crimp/sheets.Unit] -/
def ct99(c:aa):aa:=tblF [] c
def wr99(c:aa):FB:=f99 (BA ab ac (ct99 c))
def w99(c:aa):FB:=wr99 c
theorem ok99{c:aa}(hc:Cok c):Ent 99 (w99 c):=aq (f:=λA=>f99 A) (ct:=ct99) (λ_ _ _ _=>rfl) (congrFun (congrFun e99 RT) HTr) i99 (af hc aN)
/-- (crimp/sheets.Sheet).all -/
def ct110(c:aa):aa:=tblF [] c
def wr110(c:aa):FB:=f110 (BA ab ac (ct110 c))
def w110(c:aa):FB:=wr110 c
theorem ok110{c:aa}(hc:Cok c):Ent 110 (w110 c):=aq (f:=λA=>f110 A) (ct:=ct110) (λ_ _ _ _=>rfl) (congrFun (congrFun e110 RT) HTr) i110 (af hc aN)
/-- crimp/sheets.Units -/
def ct96(c:aa):aa:=tblF [(35,w35 c),(99,w99 c),(110,w110 c)] c
def wr96(c:aa):FB:=f96 (BA ab ac (ct96 c))
def w96(c:aa):FB:=wr96 c
theorem ok96{c:aa}(hc:Cok c):Ent 96 (w96 c):=aq (f:=λA=>f96 A) (ct:=ct96) (λ_ _ _ _=>rfl) (congrFun (congrFun e96 RT) HTr) i96 (af hc (aC (ok35 hc) (aC (ok99 hc) (aC (ok110 hc) aN))))
/-- crimp/sheets.named -/
def ct92(c:aa):aa:=tblF [(35,w35 c),(39,w39 c),(69,w69 c)] c
def wr92(c:aa):FB:=f92 (BA ab ac (ct92 c))
def w92(c:aa):FB:=memo (wr92 c)
theorem ok92{c:aa}(hc:Cok c):Ent 92 (w92 c):=al (aq (f:=λA=>f92 A) (ct:=ct92) (λ_ _ _ _=>rfl) (congrFun (congrFun e92 RT) HTr) i92 (af hc (aC (ok35 hc) (aC (ok39 hc) (aC (ok69 hc) aN))))) rfl (by kernel_rfl)
/-- crimp/lines.Check -/
def ct87(c:aa):aa:=tblF [] c
def wr87(c:aa):FB:=f87 (BA ab ac (ct87 c))
def w87(c:aa):FB:=memo (wr87 c)
theorem ok87{c:aa}(hc:Cok c):Ent 87 (w87 c):=al (aq (f:=λA=>f87 A) (ct:=ct87) (λ_ _ _ _=>rfl) (congrFun (congrFun e87 RT) HTr) i87 (af hc aN)) rfl (by kernel_rfl)
/-- crimp/cells.Line -/
def ct93(c:aa):aa:=tblF [(70,w70 c),(87,w87 c)] c
def wr93(c:aa):FB:=f93 (BA ab ac (ct93 c))
def w93(c:aa):FB:=memo (wr93 c)
theorem ok93{c:aa}(hc:Cok c):Ent 93 (w93 c):=al (aq (f:=λA=>f93 A) (ct:=ct93) (λ_ _ _ _=>rfl) (congrFun (congrFun e93 RT) HTr) i93 (af hc (aC (ok70 hc) (aC (ok87 hc) aN)))) rfl (by kernel_rfl)
/-- crimp/sheets.Line -/
def ct66(c:aa):aa:=tblF [(92,w92 c),(93,w93 c)] c
def wr66(c:aa):FB:=f66 (BA ab ac (ct66 c))
def w66(c:aa):FB:=memo (wr66 c)
theorem ok66{c:aa}(hc:Cok c):Ent 66 (w66 c):=al (aq (f:=λA=>f66 A) (ct:=ct66) (λ_ _ _ _=>rfl) (congrFun (congrFun e66 RT) HTr) i66 (af hc (aC (ok92 hc) (aC (ok93 hc) aN)))) rfl (by kernel_rfl)
/-- crimp/cells.Corners -/
def ct124(c:aa):aa:=tblF [(70,w70 c)] c
def wr124(c:aa):FB:=f124 (BA ab ac (ct124 c))
def w124(c:aa):FB:=memo (wr124 c)
theorem ok124{c:aa}(hc:Cok c):Ent 124 (w124 c):=al (aq (f:=λA=>f124 A) (ct:=ct124) (λ_ _ _ _=>rfl) (congrFun (congrFun e124 RT) HTr) i124 (af hc (aC (ok70 hc) aN))) rfl (by kernel_rfl)
/-- crimp/sheets.Ends -/
def ct111(c:aa):aa:=tblF [(92,w92 c),(124,w124 c)] c
def wr111(c:aa):FB:=f111 (BA ab ac (ct111 c))
def w111(c:aa):FB:=memo (wr111 c)
theorem ok111{c:aa}(hc:Cok c):Ent 111 (w111 c):=al (aq (f:=λA=>f111 A) (ct:=ct111) (λ_ _ _ _=>rfl) (congrFun (congrFun e111 RT) HTr) i111 (af hc (aC (ok92 hc) (aC (ok124 hc) aN)))) rfl (by kernel_rfl)
/-- crimp/segments.place -/
def ct112(c:aa):aa:=tblF [] c
def wr112(c:aa):FB:=f112 (BA ab ac (ct112 c))
def w112(c:aa):FB:=memo (wr112 c)
theorem ok112{c:aa}(hc:Cok c):Ent 112 (w112 c):=al (aq (f:=λA=>f112 A) (ct:=ct112) (λ_ _ _ _=>rfl) (congrFun (congrFun e112 RT) HTr) i112 (af hc aN)) rfl (by kernel_rfl)
/-- crimp/segments.lies -/
def ct97(c:aa):aa:=tblF [(66,w66 c),(111,w111 c),(112,w112 c)] c
def wr97(c:aa):FB:=f97 (BA ab ac (ct97 c))
def w97(c:aa):FB:=memo (wr97 c)
theorem ok97{c:aa}(hc:Cok c):Ent 97 (w97 c):=al (aq (f:=λA=>f97 A) (ct:=ct97) (λ_ _ _ _=>rfl) (congrFun (congrFun e97 RT) HTr) i97 (af hc (aC (ok66 hc) (aC (ok111 hc) (aC (ok112 hc) aN))))) rfl (by kernel_rfl)
/-- crimp/segments.pieces -/
def ct72(c:aa):aa:=tblF [(96,w96 c),(97,w97 c)] c
def wr72(c:aa):FB:=f72 (BA ab ac (ct72 c))
def w72(c:aa):FB:=wr72 c
theorem ok72{c:aa}(hc:Cok c):Ent 72 (w72 c):=aq (f:=λA=>f72 A) (ct:=ct72) (λ_ _ _ _=>rfl) (congrFun (congrFun e72 RT) HTr) i72 (af hc (aC (ok96 hc) (aC (ok97 hc) aN)))
/-- crimp/segments.ordinary -/
def ct98(c:aa):aa:=tblF [(87,w87 c)] c
def wr98(c:aa):FB:=f98 (BA ab ac (ct98 c))
def w98(c:aa):FB:=memo (wr98 c)
theorem ok98{c:aa}(hc:Cok c):Ent 98 (w98 c):=al (aq (f:=λA=>f98 A) (ct:=ct98) (λ_ _ _ _=>rfl) (congrFun (congrFun e98 RT) HTr) i98 (af hc (aC (ok87 hc) aN))) rfl (by kernel_rfl)
/-- crimp/segments.units -/
def ct73(c:aa):aa:=tblF [(98,w98 c),(99,w99 c)] c
def wr73(c:aa):FB:=f73 (BA ab ac (ct73 c))
def w73(c:aa):FB:=wr73 c
theorem ok73{c:aa}(hc:Cok c):Ent 73 (w73 c):=aq (f:=λA=>f73 A) (ct:=ct73) (λ_ _ _ _=>rfl) (congrFun (congrFun e73 RT) HTr) i73 (af hc (aC (ok98 hc) (aC (ok99 hc) aN)))
/-- slices.insertionSortCmpFunc[crimp/patterns.Crease] -/
def ct113(c:aa):aa:=tblF [] c
def wr113(c:aa):FB:=f113 (BA ab ac (ct113 c))
def w113(c:aa):FB:=wr113 c
theorem ok113{c:aa}(hc:Cok c):Ent 113 (w113 c):=aq (f:=λA=>f113 A) (ct:=ct113) (λ_ _ _ _=>rfl) (congrFun (congrFun e113 RT) HTr) i113 (af hc aN)
/-- slices.pdqsortCmpFunc[crimp/patterns.Crease] -/
def ct100(c:aa):aa:=tblF [(113,w113 c)] c
def wr100(c:aa):FB:=f100 (BA ab ac (ct100 c))
def w100(c:aa):FB:=wr100 c
theorem ok100{c:aa}(hc:Cok c):Ent 100 (w100 c):=aq (f:=λA=>f100 A) (ct:=ct100) (λ_ _ _ _=>rfl) (congrFun (congrFun e100 RT) HTr) i100 (af hc (aC (ok113 hc) aN))
/-- math/bits.Len64 -/
def ct122(c:aa):aa:=tblF [] c
def wr122(c:aa):FB:=f122 (BA ab ac (ct122 c))
def w122(c:aa):FB:=memo (wr122 c)
theorem ok122{c:aa}(hc:Cok c):Ent 122 (w122 c):=al (aq (f:=λA=>f122 A) (ct:=ct122) (λ_ _ _ _=>rfl) (congrFun (congrFun e122 RT) HTr) i122 (af hc aN)) rfl (by kernel_rfl)
/-- math/bits.Len -/
def ct101(c:aa):aa:=tblF [(122,w122 c)] c
def wr101(c:aa):FB:=f101 (BA ab ac (ct101 c))
def w101(c:aa):FB:=memo (wr101 c)
theorem ok101{c:aa}(hc:Cok c):Ent 101 (w101 c):=al (aq (f:=λA=>f101 A) (ct:=ct101) (λ_ _ _ _=>rfl) (congrFun (congrFun e101 RT) HTr) i101 (af hc (aC (ok122 hc) aN))) rfl (by kernel_rfl)
/-- slices.SortFunc[[]crimp/patterns.Crease,crimp/patterns.Crease] -/
def ct74(c:aa):aa:=tblF [(100,w100 c),(101,w101 c)] c
def wr74(c:aa):FB:=f74 (BA ab ac (ct74 c))
def w74(c:aa):FB:=wr74 c
theorem ok74{c:aa}(hc:Cok c):Ent 74 (w74 c):=aq (f:=λA=>f74 A) (ct:=ct74) (λ_ _ _ _=>rfl) (congrFun (congrFun e74 RT) HTr) i74 (af hc (aC (ok100 hc) (aC (ok101 hc) aN)))
/-- slices.Clip[[]crimp/patterns.Crease,crimp/patterns.Crease] -/
def ct77(c:aa):aa:=tblF [] c
def wr77(c:aa):FB:=f77 (BA ab ac (ct77 c))
def w77(c:aa):FB:=wr77 c
theorem ok77{c:aa}(hc:Cok c):Ent 77 (w77 c):=aq (f:=λA=>f77 A) (ct:=ct77) (λ_ _ _ _=>rfl) (congrFun (congrFun e77 RT) HTr) i77 (af hc aN)
/-- crimp/segments.Pattern -/
def ct46(c:aa):aa:=tblF [(35,w35 c),(72,w72 c),(73,w73 c),(74,w74 c),(77,w77 c)] c
def wr46(c:aa):FB:=f46 (BA ab ac (ct46 c))
def w46(c:aa):FB:=wr46 c
theorem ok46{c:aa}(hc:Cok c):Ent 46 (w46 c):=aq (f:=λA=>f46 A) (ct:=ct46) (λ_ _ _ _=>rfl) (congrFun (congrFun e46 RT) HTr) i46 (af hc (aC (ok35 hc) (aC (ok72 hc) (aC (ok73 hc) (aC (ok74 hc) (aC (ok77 hc) aN))))))
/-- crimp/crimplaw10.pattern -/
def ct21(c:aa):aa:=tblF [(46,w46 c)] c
def wr21(c:aa):FB:=f21 (BA ab ac (ct21 c))
def w21(c:aa):FB:=wr21 c
theorem ok21{c:aa}(hc:Cok c):Ent 21 (w21 c):=aq (f:=λA=>f21 A) (ct:=ct21) (λ_ _ _ _=>rfl) (congrFun (congrFun e21 RT) HTr) i21 (af hc (aC (ok46 hc) aN))
/-- crimp/crimplaw10.segment -/
def ct22(c:aa):aa:=tblF [] c
def wr22(c:aa):FB:=f22 (BA ab ac (ct22 c))
def w22(c:aa):FB:=memo (wr22 c)
theorem ok22{c:aa}(hc:Cok c):Ent 22 (w22 c):=al (aq (f:=λA=>f22 A) (ct:=ct22) (λ_ _ _ _=>rfl) (congrFun (congrFun e22 RT) HTr) i22 (af hc aN)) rfl (by kernel_rfl)
/-- crimp/moves.Identity -/
def ct23(c:aa):aa:=tblF [] c
def wr23(c:aa):FB:=f23 (BA ab ac (ct23 c))
def w23(c:aa):FB:=memo (wr23 c)
theorem ok23{c:aa}(hc:Cok c):Ent 23 (w23 c):=al (aq (f:=λA=>f23 A) (ct:=ct23) (λ_ _ _ _=>rfl) (congrFun (congrFun e23 RT) HTr) i23 (af hc aN)) rfl (by kernel_rfl)
/-- crimp/places.Images -/
def ct26(c:aa):aa:=tblF [(20,w20 c)] c
def wr26(c:aa):FB:=f26 (BA ab ac (ct26 c))
def w26(c:aa):FB:=wr26 c
theorem ok26{c:aa}(hc:Cok c):Ent 26 (w26 c):=aq (f:=λA=>f26 A) (ct:=ct26) (λ_ _ _ _=>rfl) (congrFun (congrFun e26 RT) HTr) i26 (af hc (aC (ok20 hc) aN))
/-- crimp/places.Depth -/
def ct24(c:aa):aa:=tblF [(26,w26 c)] c
def wr24(c:aa):FB:=f24 (BA ab ac (ct24 c))
def w24(c:aa):FB:=wr24 c
theorem ok24{c:aa}(hc:Cok c):Ent 24 (w24 c):=aq (f:=λA=>f24 A) (ct:=ct24) (λ_ _ _ _=>rfl) (congrFun (congrFun e24 RT) HTr) i24 (af hc (aC (ok26 hc) aN))
/-- slices.Clip[[]crimp/api.Point,crimp/api.Point] -/
def ct103(c:aa):aa:=tblF [] c
def wr103(c:aa):FB:=f103 (BA ab ac (ct103 c))
def w103(c:aa):FB:=wr103 c
theorem ok103{c:aa}(hc:Cok c):Ent 103 (w103 c):=aq (f:=λA=>f103 A) (ct:=ct103) (λ_ _ _ _=>rfl) (congrFun (congrFun e103 RT) HTr) i103 (af hc aN)
/-- crimp/sheets.Points -/
def ct78(c:aa):aa:=tblF [(35,w35 c),(103,w103 c)] c
def wr78(c:aa):FB:=f78 (BA ab ac (ct78 c))
def w78(c:aa):FB:=wr78 c
theorem ok78{c:aa}(hc:Cok c):Ent 78 (w78 c):=aq (f:=λA=>f78 A) (ct:=ct78) (λ_ _ _ _=>rfl) (congrFun (congrFun e78 RT) HTr) i78 (af hc (aC (ok35 hc) (aC (ok103 hc) aN)))
/-- crimp/corners.All -/
def ct47(c:aa):aa:=tblF [(78,w78 c)] c
def wr47(c:aa):FB:=f47 (BA ab ac (ct47 c))
def w47(c:aa):FB:=wr47 c
theorem ok47{c:aa}(hc:Cok c):Ent 47 (w47 c):=aq (f:=λA=>f47 A) (ct:=ct47) (λ_ _ _ _=>rfl) (congrFun (congrFun e47 RT) HTr) i47 (af hc (aC (ok78 hc) aN))
/-- slices.IndexFunc[[]crimp/api.Point,crimp/api.Point] -/
def ct48(c:aa):aa:=tblF [] c
def wr48(c:aa):FB:=f48 (BA ab ac (ct48 c))
def w48(c:aa):FB:=wr48 c
theorem ok48{c:aa}(hc:Cok c):Ent 48 (w48 c):=aq (f:=λA=>f48 A) (ct:=ct48) (λ_ _ _ _=>rfl) (congrFun (congrFun e48 RT) HTr) i48 (af hc aN)
/-- crimp/places.Open -/
def ct25(c:aa):aa:=tblF [(14,w14 c),(47,w47 c),(48,w48 c)] c
def wr25(c:aa):FB:=f25 (BA ab ac (ct25 c))
def w25(c:aa):FB:=wr25 c
theorem ok25{c:aa}(hc:Cok c):Ent 25 (w25 c):=aq (f:=λA=>f25 A) (ct:=ct25) (λ_ _ _ _=>rfl) (congrFun (congrFun e25 RT) HTr) i25 (af hc (aC (ok14 hc) (aC (ok47 hc) (aC (ok48 hc) aN))))
/-- crimp/corners.corner -/
def ct79(c:aa):aa:=tblF [(35,w35 c)] c
def wr79(c:aa):FB:=f79 (BA ab ac (ct79 c))
def w79(c:aa):FB:=memo (wr79 c)
theorem ok79{c:aa}(hc:Cok c):Ent 79 (w79 c):=al (aq (f:=λA=>f79 A) (ct:=ct79) (λ_ _ _ _=>rfl) (congrFun (congrFun e79 RT) HTr) i79 (af hc (aC (ok35 hc) aN))) rfl (by kernel_rfl)
/-- crimp/corners.walk -/
def ct80(c:aa):aa:=tblF [] c
def wr80(c:aa):FB:=f80 (BA ab ac (ct80 c))
def w80(c:aa):FB:=wr80 c
theorem ok80{c:aa}(hc:Cok c):Ent 80 (w80 c):=aq (f:=λA=>f80 A) (ct:=ct80) (λ_ _ _ _=>rfl) (congrFun (congrFun e80 RT) HTr) i80 (af hc aN)
/-- slices.insertionSortCmpFunc[crimp/corners.Ray] -/
def ct128(c:aa):aa:=tblF [] c
def wr128(c:aa):FB:=f128 (BA ab ac (ct128 c))
def w128(c:aa):FB:=wr128 c
theorem ok128{c:aa}(hc:Cok c):Ent 128 (w128 c):=aq (f:=λA=>f128 A) (ct:=ct128) (λ_ _ _ _=>rfl) (congrFun (congrFun e128 RT) HTr) i128 (af hc aN)
/-- slices.pdqsortCmpFunc[crimp/corners.Ray] -/
def ct109(c:aa):aa:=tblF [(128,w128 c)] c
def wr109(c:aa):FB:=f109 (BA ab ac (ct109 c))
def w109(c:aa):FB:=wr109 c
theorem ok109{c:aa}(hc:Cok c):Ent 109 (w109 c):=aq (f:=λA=>f109 A) (ct:=ct109) (λ_ _ _ _=>rfl) (congrFun (congrFun e109 RT) HTr) i109 (af hc (aC (ok128 hc) aN))
/-- slices.SortFunc[[]crimp/corners.Ray,crimp/corners.Ray] -/
def ct82(c:aa):aa:=tblF [(101,w101 c),(109,w109 c)] c
def wr82(c:aa):FB:=f82 (BA ab ac (ct82 c))
def w82(c:aa):FB:=wr82 c
theorem ok82{c:aa}(hc:Cok c):Ent 82 (w82 c):=aq (f:=λA=>f82 A) (ct:=ct82) (λ_ _ _ _=>rfl) (congrFun (congrFun e82 RT) HTr) i82 (af hc (aC (ok101 hc) (aC (ok109 hc) aN)))
/-- slices.Clip[[]crimp/corners.Ray,crimp/corners.Ray] -/
def ct84(c:aa):aa:=tblF [] c
def wr84(c:aa):FB:=f84 (BA ab ac (ct84 c))
def w84(c:aa):FB:=wr84 c
theorem ok84{c:aa}(hc:Cok c):Ent 84 (w84 c):=aq (f:=λA=>f84 A) (ct:=ct84) (λ_ _ _ _=>rfl) (congrFun (congrFun e84 RT) HTr) i84 (af hc aN)
/-- crimp/corners.Creases -/
def ct50(c:aa):aa:=tblF [(14,w14 c),(79,w79 c),(80,w80 c),(82,w82 c),(84,w84 c)] c
def wr50(c:aa):FB:=f50 (BA ab ac (ct50 c))
def w50(c:aa):FB:=wr50 c
theorem ok50{c:aa}(hc:Cok c):Ent 50 (w50 c):=aq (f:=λA=>f50 A) (ct:=ct50) (λ_ _ _ _=>rfl) (congrFun (congrFun e50 RT) HTr) i50 (af hc (aC (ok14 hc) (aC (ok79 hc) (aC (ok80 hc) (aC (ok82 hc) (aC (ok84 hc) aN))))))
/-- crimp/lines.along -/
def ct86(c:aa):aa:=tblF [] c
def wr86(c:aa):FB:=f86 (BA ab ac (ct86 c))
def w86(c:aa):FB:=memo (wr86 c)
theorem ok86{c:aa}(hc:Cok c):Ent 86 (w86 c):=al (aq (f:=λA=>f86 A) (ct:=ct86) (λ_ _ _ _=>rfl) (congrFun (congrFun e86 RT) HTr) i86 (af hc aN)) rfl (by kernel_rfl)
/-- crimp/lines.Through -/
def ct52(c:aa):aa:=tblF [(85,w85 c),(86,w86 c),(87,w87 c)] c
def wr52(c:aa):FB:=f52 (BA ab ac (ct52 c))
def w52(c:aa):FB:=memo (wr52 c)
theorem ok52{c:aa}(hc:Cok c):Ent 52 (w52 c):=al (aq (f:=λA=>f52 A) (ct:=ct52) (λ_ _ _ _=>rfl) (congrFun (congrFun e52 RT) HTr) i52 (af hc (aC (ok85 hc) (aC (ok86 hc) (aC (ok87 hc) aN))))) rfl (by kernel_rfl)
/-- crimp/places.Closes -/
def ct27(c:aa):aa:=tblF [(23,w23 c),(50,w50 c),(52,w52 c)] c
def wr27(c:aa):FB:=f27 (BA ab ac (ct27 c))
def w27(c:aa):FB:=wr27 c
theorem ok27{c:aa}(hc:Cok c):Ent 27 (w27 c):=aq (f:=λA=>f27 A) (ct:=ct27) (λ_ _ _ _=>rfl) (congrFun (congrFun e27 RT) HTr) i27 (af hc (aC (ok23 hc) (aC (ok50 hc) (aC (ok52 hc) aN))))
/-- crimp/crimplaw10.lives -/
def ct9(c:aa):aa:=tblF [(8,w8 c),(21,w21 c),(22,w22 c),(23,w23 c),(24,w24 c),(25,w25 c),(26,w26 c),(27,w27 c)] c
def wr9(c:aa):FB:=f9 (BA ab ac (ct9 c))
def w9(c:aa):FB:=memo (wr9 c)
theorem ok9{c:aa}(hc:Cok c):Ent 9 (w9 c):=al (aq (f:=λA=>f9 A) (ct:=ct9) (λ_ _ _ _=>rfl) (congrFun (congrFun e9 RT) HTr) i9 (af hc (aC (ok8 hc) (aC (ok21 hc) (aC (ok22 hc) (aC (ok23 hc) (aC (ok24 hc) (aC (ok25 hc) (aC (ok26 hc) (aC (ok27 hc) aN)))))))))) rfl (by kernel_rfl)
/-- crimp/crimplaw10.PlacesMoved -/
def ct3(c:aa):aa:=tblF [(4,w4 c),(5,w5 c),(6,w6 c),(7,w7 c),(8,w8 c),(9,w9 c)] c
def wr3(c:aa):FB:=f3 (BA ab ac (ct3 c))
def w3(c:aa):FB:=wr3 c
theorem ok3{c:aa}(hc:Cok c):Ent 3 (w3 c):=aq (f:=λA=>f3 A) (ct:=ct3) (λ_ _ _ _=>rfl) (congrFun (congrFun e3 RT) HTr) i3 (af hc (aC (ok4 hc) (aC (ok5 hc) (aC (ok6 hc) (aC (ok7 hc) (aC (ok8 hc) (aC (ok9 hc) aN)))))))
/-- crimp/patterns.isKind -/
def ct38(c:aa):aa:=tblF [] c
def wr38(c:aa):FB:=f38 (BA ab ac (ct38 c))
def w38(c:aa):FB:=memo (wr38 c)
theorem ok38{c:aa}(hc:Cok c):Ent 38 (w38 c):=al (aq (f:=λA=>f38 A) (ct:=ct38) (λ_ _ _ _=>rfl) (congrFun (congrFun e38 RT) HTr) i38 (af hc aN)) rfl (by kernel_rfl)
/-- crimp/patterns.Check$1 -/
def ct37(c:aa):aa:=tblF [(38,w38 c)] c
def wr37(c:aa):FB:=f37 (BA ab ac (ct37 c))
def w37(c:aa):FB:=memo (wr37 c)
theorem ok37{c:aa}(hc:Cok c):Ent 37 (w37 c):=al (aq (f:=λA=>f37 A) (ct:=ct37) (λ_ _ _ _=>rfl) (congrFun (congrFun e37 RT) HTr) i37 (af hc (aC (ok38 hc) aN))) rfl (by kernel_rfl)
/-- crimp/places.Open$1 -/
def ct49(c:aa):aa:=tblF [(27,w27 c)] c
def wr49(c:aa):FB:=f49 (BA ab ac (ct49 c))
def w49(c:aa):FB:=wr49 c
theorem ok49{c:aa}(hc:Cok c):Ent 49 (w49 c):=aq (f:=λA=>f49 A) (ct:=ct49) (λ_ _ _ _=>rfl) (congrFun (congrFun e49 RT) HTr) i49 (af hc (aC (ok27 hc) aN))
/-- crimp/moves.Of -/
def ct67(c:aa):aa:=tblF [(87,w87 c)] c
def wr67(c:aa):FB:=f67 (BA ab ac (ct67 c))
def w67(c:aa):FB:=memo (wr67 c)
theorem ok67{c:aa}(hc:Cok c):Ent 67 (w67 c):=al (aq (f:=λA=>f67 A) (ct:=ct67) (λ_ _ _ _=>rfl) (congrFun (congrFun e67 RT) HTr) i67 (af hc (aC (ok87 hc) aN))) rfl (by kernel_rfl)
/-- (*crimp/places.chain).add -/
def ct51(c:aa):aa:=tblF [(6,w6 c),(67,w67 c)] c
def wr51(c:aa):FB:=f51 (BA ab ac (ct51 c))
def w51(c:aa):FB:=wr51 c
theorem ok51{c:aa}(hc:Cok c):Ent 51 (w51 c):=aq (f:=λA=>f51 A) (ct:=ct51) (λ_ _ _ _=>rfl) (congrFun (congrFun e51 RT) HTr) i51 (af hc (aC (ok6 hc) (aC (ok67 hc) aN)))
/-- crimp/places.relative$1 -/
def ct65(c:aa):aa:=tblF [(6,w6 c),(39,w39 c),(66,w66 c),(67,w67 c)] c
def wr65(c:aa):FB:=f65 (BA ab ac (ct65 c))
def w65(c:aa):FB:=wr65 c
theorem ok65{c:aa}(hc:Cok c):Ent 65 (w65 c):=aq (f:=λA=>f65 A) (ct:=ct65) (λ_ _ _ _=>rfl) (congrFun (congrFun e65 RT) HTr) i65 (af hc (aC (ok6 hc) (aC (ok39 hc) (aC (ok66 hc) (aC (ok67 hc) aN)))))
def ct123(c:aa):aa:=tblF [] c
def wr123(c:aa):FB:=f123 (BA ab ac (ct123 c))
def w123(c:aa):FB:=memo (wr123 c)
theorem ok123{c:aa}(hc:Cok c):Ent 123 (w123 c):=al (aq (f:=λA=>f123 A) (ct:=ct123) (λ_ _ _ _=>rfl) (congrFun (congrFun e123 RT) HTr) i123 (af hc aN)) rfl (by kernel_rfl)
def ct102(c:aa):aa:=tblF [(123,w123 c)] c
def wr102(c:aa):FB:=f102 (BA ab ac (ct102 c))
def w102(c:aa):FB:=memo (wr102 c)
theorem ok102{c:aa}(hc:Cok c):Ent 102 (w102 c):=al (aq (f:=λA=>f102 A) (ct:=ct102) (λ_ _ _ _=>rfl) (congrFun (congrFun e102 RT) HTr) i102 (af hc (aC (ok123 hc) aN))) rfl (by kernel_rfl)
/-- crimp/segments.order[int] -/
def ct76(c:aa):aa:=tblF [(102,w102 c)] c
def wr76(c:aa):FB:=f76 (BA ab ac (ct76 c))
def w76(c:aa):FB:=wr76 c
theorem ok76{c:aa}(hc:Cok c):Ent 76 (w76 c):=aq (f:=λA=>f76 A) (ct:=ct76) (λ_ _ _ _=>rfl) (congrFun (congrFun e76 RT) HTr) i76 (af hc (aC (ok102 hc) aN))
/-- crimp/segments.Pattern$1 -/
def ct75(c:aa):aa:=tblF [(76,w76 c)] c
def wr75(c:aa):FB:=f75 (BA ab ac (ct75 c))
def w75(c:aa):FB:=memo (wr75 c)
theorem ok75{c:aa}(hc:Cok c):Ent 75 (w75 c):=al (aq (f:=λA=>f75 A) (ct:=ct75) (λ_ _ _ _=>rfl) (congrFun (congrFun e75 RT) HTr) i75 (af hc (aC (ok76 hc) aN))) rfl (by kernel_rfl)
/-- slices.BinarySearchFunc[[]crimp/patterns.Crease,crimp/patterns.Crease,crimp/sheets.Unit] -/
def ct142(c:aa):aa:=tblF [] c
def wr142(c:aa):FB:=f142 (BA ab ac (ct142 c))
def w142(c:aa):FB:=wr142 c
theorem ok142{c:aa}(hc:Cok c):Ent 142 (w142 c):=aq (f:=λA=>f142 A) (ct:=ct142) (λ_ _ _ _=>rfl) (congrFun (congrFun e142 RT) HTr) i142 (af hc aN)
/-- crimp/patterns.find -/
def ct127(c:aa):aa:=tblF [(142,w142 c)] c
def wr127(c:aa):FB:=f127 (BA ab ac (ct127 c))
def w127(c:aa):FB:=wr127 c
theorem ok127{c:aa}(hc:Cok c):Ent 127 (w127 c):=aq (f:=λA=>f127 A) (ct:=ct127) (λ_ _ _ _=>rfl) (congrFun (congrFun e127 RT) HTr) i127 (af hc (aC (ok142 hc) aN))
/-- crimp/patterns.at -/
def ct108(c:aa):aa:=tblF [(14,w14 c),(39,w39 c),(127,w127 c)] c
def wr108(c:aa):FB:=f108 (BA ab ac (ct108 c))
def w108(c:aa):FB:=wr108 c
theorem ok108{c:aa}(hc:Cok c):Ent 108 (w108 c):=aq (f:=λA=>f108 A) (ct:=ct108) (λ_ _ _ _=>rfl) (congrFun (congrFun e108 RT) HTr) i108 (af hc (aC (ok14 hc) (aC (ok39 hc) (aC (ok127 hc) aN))))
/-- crimp/patterns.Kind -/
def ct81(c:aa):aa:=tblF [(108,w108 c)] c
def wr81(c:aa):FB:=f81 (BA ab ac (ct81 c))
def w81(c:aa):FB:=memoR (wr81 c)
theorem ok81{c:aa}(hc:Cok c):Ent 81 (w81 c):=ent_ro (aq (f:=λA=>f81 A) (ct:=ct81) (λ_ _ _ _=>rfl) (congrFun (congrFun e81 RT) HTr) i81 (af hc (aC (ok108 hc) aN))) rfl (by kernel_rfl) (by kernel_rfl)
/-- crimp/corners.Creases$1 -/
def ct83(c:aa):aa:=tblF [] c
def wr83(c:aa):FB:=f83 (BA ab ac (ct83 c))
def w83(c:aa):FB:=memo (wr83 c)
theorem ok83{c:aa}(hc:Cok c):Ent 83 (w83 c):=al (aq (f:=λA=>f83 A) (ct:=ct83) (λ_ _ _ _=>rfl) (congrFun (congrFun e83 RT) HTr) i83 (af hc aN)) rfl (by kernel_rfl)
/-- crimp/corners.touches -/
def ct105(c:aa):aa:=tblF [(124,w124 c)] c
def wr105(c:aa):FB:=f105 (BA ab ac (ct105 c))
def w105(c:aa):FB:=memo (wr105 c)
theorem ok105{c:aa}(hc:Cok c):Ent 105 (w105 c):=al (aq (f:=λA=>f105 A) (ct:=ct105) (λ_ _ _ _=>rfl) (congrFun (congrFun e105 RT) HTr) i105 (af hc (aC (ok124 hc) aN))) rfl (by kernel_rfl)
/-- crimp/corners.leaves -/
def ct106(c:aa):aa:=tblF [] c
def wr106(c:aa):FB:=f106 (BA ab ac (ct106 c))
def w106(c:aa):FB:=memo (wr106 c)
theorem ok106{c:aa}(hc:Cok c):Ent 106 (w106 c):=al (aq (f:=λA=>f106 A) (ct:=ct106) (λ_ _ _ _=>rfl) (congrFun (congrFun e106 RT) HTr) i106 (af hc aN)) rfl (by kernel_rfl)
/-- crimp/corners.sign -/
def ct125(c:aa):aa:=tblF [] c
def wr125(c:aa):FB:=f125 (BA ab ac (ct125 c))
def w125(c:aa):FB:=memo (wr125 c)
theorem ok125{c:aa}(hc:Cok c):Ent 125 (w125 c):=al (aq (f:=λA=>f125 A) (ct:=ct125) (λ_ _ _ _=>rfl) (congrFun (congrFun e125 RT) HTr) i125 (af hc aN)) rfl (by kernel_rfl)
/-- slices.Index[[]crimp/api.Point,crimp/api.Point] -/
def ct126(c:aa):aa:=tblF [] c
def wr126(c:aa):FB:=f126 (BA ab ac (ct126 c))
def w126(c:aa):FB:=wr126 c
theorem ok126{c:aa}(hc:Cok c):Ent 126 (w126 c):=aq (f:=λA=>f126 A) (ct:=ct126) (λ_ _ _ _=>rfl) (congrFun (congrFun e126 RT) HTr) i126 (af hc aN)
/-- crimp/corners.direction -/
def ct107(c:aa):aa:=tblF [(111,w111 c),(125,w125 c),(126,w126 c)] c
def wr107(c:aa):FB:=f107 (BA ab ac (ct107 c))
def w107(c:aa):FB:=memo (wr107 c)
theorem ok107{c:aa}(hc:Cok c):Ent 107 (w107 c):=al (aq (f:=λA=>f107 A) (ct:=ct107) (λ_ _ _ _=>rfl) (congrFun (congrFun e107 RT) HTr) i107 (af hc (aC (ok111 hc) (aC (ok125 hc) (aC (ok126 hc) aN))))) rfl (by kernel_rfl)
/-- crimp/corners.walk$1 -/
def ct104(c:aa):aa:=tblF [(39,w39 c),(90,w90 c),(91,w91 c),(105,w105 c),(106,w106 c),(107,w107 c)] c
def wr104(c:aa):FB:=f104 (BA ab ac (ct104 c))
def w104(c:aa):FB:=wr104 c
theorem ok104{c:aa}(hc:Cok c):Ent 104 (w104 c):=aq (f:=λA=>f104 A) (ct:=ct104) (λ_ _ _ _=>rfl) (congrFun (congrFun e104 RT) HTr) i104 (af hc (aC (ok39 hc) (aC (ok90 hc) (aC (ok91 hc) (aC (ok105 hc) (aC (ok106 hc) (aC (ok107 hc) aN)))))))
/-- (crimp/sheets.Sheet).all$1 -/
def ct136(c:aa):aa:=tblF [(62,w62 c),(64,w64 c)] c
def wr136(c:aa):FB:=f136 (BA ab ac (ct136 c))
def w136(c:aa):FB:=wr136 c
theorem ok136{c:aa}(hc:Cok c):Ent 136 (w136 c):=aq (f:=λA=>f136 A) (ct:=ct136) (λ_ _ _ _=>rfl) (congrFun (congrFun e136 RT) HTr) i136 (af hc (aC (ok62 hc) (aC (ok64 hc) aN)))
/-- crimp/patterns.find$1 -/
def ct143(c:aa):aa:=tblF [(40,w40 c),(41,w41 c)] c
def wr143(c:aa):FB:=f143 (BA ab ac (ct143 c))
def w143(c:aa):FB:=memo (wr143 c)
theorem ok143{c:aa}(hc:Cok c):Ent 143 (w143 c):=al (aq (f:=λA=>f143 A) (ct:=ct143) (λ_ _ _ _=>rfl) (congrFun (congrFun e143 RT) HTr) i143 (af hc (aC (ok40 hc) (aC (ok41 hc) aN)))) rfl (by kernel_rfl)
theorem y_of{κ:Nat}{g:aa->List Value->Nat->FB}{ct:aa->aa}{c:aa}(h0:∀vs l ls h K,rg (BA ab ac (ct c)) (xc 0) ab drN (ac κ) vs l ls h K=g c vs l ls h K)(hc:Cok (ct c)):YOk cc ab ac κ (g c):=by
 intro vs l ls h K w st pd xs e hy hk
 rw[←h0]at hk
 obtain⟨b,h',a1,a3⟩:=execY_ok (X:=xc 0) (BA_ok (w:=w) hc) ud (iL e) rfl rfl rfl rfl hy hk
 exact⟨b,h',a1,a3⟩
def ctY800(c:aa):aa:=tblF [(81,w81 c)] c
def bY800(c:aa)(vs:List Value)(lp:Nat):FB:=λls h K=>ucVB vs (λx8 b1=>chkB x8 ( ucVB b1 (λa1 b2=>chkB a1 ( uc0B b2 ( unIB ls (λn12 b3=>unIB b3 (λn14 b4=>unIB b4 (λn16 b5=>unIB b5 (λn18 b6=>un0B b6 (newB (.cells [(.int .i64 (.ofNat (nat_lit 0))),(.int .i64 (.ofNat (nat_lit 0))),(.int .u8 (.ofNat (nat_lit 0)))] 3 true) h (λJ b7=>stB (.pointer (some ⟨J,0,none⟩)) [(.int .i64 n14),(.int .i64 n16),(.int .u8 n18)] b7 (λg4 b8=>lp1B lp b8 (λO=>lgB cc 3 x8 O (λb9=>ucIB .i64 b9 (λn26 c0=>ucIB .i64 c0 (λn28 c1=>ucVB c1 (λa2 d0=>chkB a2 ( uc0B d0 ( optB (fdP 1 (.pointer (some ⟨J,0,none⟩))) (λa3=>chkB a3 ( optB (fdP 0 a3) (λa4=>chkB a4 ( lgB cc 1 a4 O (λd1=>ucIB .i64 d1 (λn35 d2=>uc0B d2 ( optB (fdP 1 (.pointer (some ⟨J,0,none⟩))) (λa5=>chkB a5 ( optB (fdP 1 a5) (λa6=>chkB a6 ( lgB cc 1 a6 O (λd3=>ucIB .u8 d3 (λn40 d4=>uc0B d4 ( vz (ctY800 c) 81 [.i n26,.i n28,.v a2,.i n35,.i n40] O (λd5 a0=>unIB d5 (λn44 d6=>unIB d6 (λn46 d7=>un0B d7 (joinB (λd8 d9=>un0B d8 (lp2B lp none d9 (λe0=>K [.b true] e0))) (λa7=>cB ( a7 [] a0) ( lgB cc 1 a1 a0 (λe1=>ucVB e1 (λa8 e2=>chkB a8 ( uc0B e2 ( optB (fdP 0 (.pointer (some ⟨J,0,none⟩))) (λa9=>chkB a9 ( lgB cc 1 a9 a0 (λf0=>ucIB .i64 f0 (λn58 f1=>uc0B f1 ( newB (.cells [(.int .i64 n58),(.int .u8 n44)] 2 true) a0 (λf2 gl=>apB ac cc 2 16 a8 (.slice (some ⟨f2,0,(some 12)⟩) 1 2) gl (λg0 g1=>ucVB g0 (λb0 g2=>chkB b0 ( uc0B g2 ( stB a1 [b0] g1 (λg5 g3=>a7 [] g3)))))))))))))))) (notK (eqZK n44 (.ofNat (nat_lit 0))))))))))))))))))))))))))))))))))))))))))
theorem pfY800(c:aa)(vs:List Value)(lp:Nat)(ls:List Lf)(h:HTr)(K:List Lf->HTr->RT):y800 (BA ab ac (ctY800 c)) vs lp ls h K=bY800 c vs lp ls h K:=rV (λx8 l9=>jS (rV (λx10 l11=>jS (mQ (rW (λn12 l13=>rW (λn14 l15=>rW (λn16 l17=>rW (λn18 l19=>q_un0 (q_new (λm20 h21=>q_st (λl22 h23=>q_lp1 (λh24=>q_lg (λl25=>tv (λn26 l27=>tv (λn28 l29=>rV (λx30 l31=>jS (mQ (q_opt (λx32=>jS (q_opt (λx33=>jS (q_lg (λl34=>tv (λn35 l36=>mQ (q_opt (λx37=>jS (q_opt (λx38=>jS (q_lg (λl39=>tv (λn40 l41=>mQ (q_callD (λl42 h43=>rW (λn44 l45=>rW (λn46 l47=>q_un0 (q_neq (q_join (λl49 h50=>q_un0 (q_lp2 (λh51=>rfl))) (λj52=>q_cond (q_lg (λl53=>rV (λx54 l55=>jS (mQ (q_opt (λx56=>jS (q_lg (λl57=>tv (λn58 l59=>mQ (q_new (λm60 h61=>q_ap (λl62 h63=>rV (λx64 l65=>jS (mQ (q_st (λl66 h67=>rfl)))))))))))))))) (rfl))))))))))))))))))))))))))))))))))))))))
theorem okY800{c:aa}(hc:Cok c):YOk cc ab ac 800 (bY800 c):=y_of (g:=bY800) (ct:=ctY800) (λvs l ls h K=>(congrFun (congrFun (congrFun (congrFun (congrFun (congrFun (congrFun (congrFun ey800 RT) HTr) _) vs) l) ls) h) K).symm.trans (pfY800 c vs l ls h K)) (af hc (by
  intro p hp
  simp only[qaj,qaL,or_false]at hp
  subst hp
  exact ok81 hc))
def ctY1536(c:aa):aa:=tblF [] c
def qL(c:aa)(vs:List Value)(lp:Nat):FB:=λls h K=>ucVB vs (λx8 a1=>chkB x8 ( uc0B a1 ( unIB ls (λa2 a3=>unIB a3 (λn12 a4=>un0B a4 (newB (.cells [(.int .i64 (.ofNat (nat_lit 0))),(.int .u8 (.ofNat (nat_lit 0)))] 2 true) h (λO a5=>stB (.pointer (some ⟨O,0,none⟩)) [(.int .i64 a2),(.int .u8 n12)] a5 (λb9 a6=>lp1B lp a6 (λJ=>lgB cc 1 x8 J (λa7=>ucVB a7 (λx20 a8=>chkB x20 ( uc0B a8 ( lgB cc 2 (.pointer (some ⟨O,0,none⟩)) J (λa9=>ucIB .i64 a9 (λn23 b0=>ucIB .u8 b0 (λn25 b1=>uc0B b1 ( newB (.cells [(.int .i64 n23),(.int .u8 n25)] 2 true) J (λb2 b3=>apB ac cc 2 16 x20 (.slice (some ⟨b2,0,(some 12)⟩) 1 2) b3 (λb4 b5=>ucVB b4 (λa0 b6=>chkB a0 ( uc0B b6 ( stB x8 [a0] b5 (λc0 b7=>lp2B lp none b7 (λb8=>K [.b true] b8))))))))))))))))))))))))
theorem pfY1536(c:aa)(vs:List Value)(lp:Nat)(ls:List Lf)(h:HTr)(K:List Lf->HTr->RT):y1536 (BA ab ac (ctY1536 c)) vs lp ls h K=qL c vs lp ls h K:=rV (λx8 l9=>jS (mQ (rW (λn10 l11=>rW (λn12 l13=>q_un0 (q_new (λm14 h15=>q_st (λl16 h17=>q_lp1 (λh18=>q_lg (λl19=>rV (λx20 l21=>jS (mQ (q_lg (λl22=>tv (λn23 l24=>tv (λn25 l26=>mQ (q_new (λm27 h28=>q_ap (λl29 h30=>rV (λx31 l32=>jS (mQ (q_st (λl33 h34=>q_lp2 (λh35=>rfl))))))))))))))))))))))))
theorem okY1536{c:aa}(hc:Cok c):YOk cc ab ac 1536 (qL c):=y_of (g:=qL) (ct:=ctY1536) (λvs l ls h K=>(congrFun (congrFun (congrFun (congrFun (congrFun (congrFun (congrFun (congrFun ey1536 RT) HTr) _) vs) l) ls) h) K).symm.trans (pfY1536 c vs l ls h K)) (af hc (by
  intro p hp
  cases hp))
def tabW(c:aa):Tr FB:=(.node nf (.node nf (.node (w3 c) (.node (w7 c) (.node (w15 c) (.node (w31 c) (.node (w63 c) (.node (w127 c) .leaf .leaf) .leaf) (.node (w95 c) .leaf .leaf)) (.node (w47 c) (.node (w79 c) (.node (w143 c) .leaf .leaf) .leaf) (.node (w111 c) .leaf .leaf))) (.node (w23 c) (.node (w39 c) (.node (w71 c) .leaf .leaf) (.node (w103 c) .leaf .leaf)) (.node (w55 c) (.node (w87 c) .leaf .leaf) .leaf))) (.node (w11 c) (.node (w19 c) (.node (w35 c) (.node (w67 c) .leaf .leaf) (.node (w99 c) .leaf .leaf)) (.node (w51 c) (.node (w83 c) .leaf .leaf) .leaf)) (.node (w27 c) (.node (w43 c) (.node (w75 c) .leaf .leaf) (.node (w107 c) .leaf .leaf)) (.node (w59 c) (.node (w91 c) .leaf .leaf) (.node (w123 c) .leaf .leaf))))) (.node (w5 c) (.node (w9 c) (.node (w17 c) (.node (w33 c) (.node (w65 c) .leaf .leaf) (.node (w97 c) .leaf .leaf)) (.node (w49 c) (.node (w81 c) .leaf .leaf) (.node (w113 c) .leaf .leaf))) (.node (w25 c) (.node (w41 c) (.node (w73 c) .leaf .leaf) (.node (w105 c) .leaf .leaf)) (.node (w57 c) (.node (w89 c) .leaf .leaf) .leaf))) (.node (w13 c) (.node (w21 c) (.node (w37 c) (.node (w69 c) .leaf .leaf) (.node (w101 c) .leaf .leaf)) (.node (w53 c) (.node (w85 c) .leaf .leaf) .leaf)) (.node (w29 c) (.node (w45 c) (.node (w77 c) .leaf .leaf) (.node (w109 c) .leaf .leaf)) (.node (w61 c) (.node (w93 c) .leaf .leaf) (.node (w125 c) .leaf .leaf)))))) (.node nf (.node (w4 c) (.node (w8 c) (.node (w16 c) (.node (w32 c) (.node (w64 c) (.node (w128 c) .leaf .leaf) .leaf) (.node (w96 c) .leaf .leaf)) (.node (w48 c) (.node (w80 c) .leaf .leaf) (.node (w112 c) .leaf .leaf))) (.node (w24 c) (.node (w40 c) (.node (w72 c) (.node (w136 c) .leaf .leaf) .leaf) (.node (w104 c) .leaf .leaf)) (.node (w56 c) (.node (w88 c) .leaf .leaf) .leaf))) (.node (w12 c) (.node (w20 c) (.node (w36 c) (.node (w68 c) .leaf .leaf) (.node (w100 c) .leaf .leaf)) (.node (w52 c) (.node (w84 c) .leaf .leaf) .leaf)) (.node (w28 c) (.node (w44 c) (.node (w76 c) .leaf .leaf) (.node (w108 c) .leaf .leaf)) (.node (w60 c) (.node (w92 c) .leaf .leaf) (.node (w124 c) .leaf .leaf))))) (.node (w6 c) (.node nf (.node (w18 c) (.node (w34 c) (.node (w66 c) .leaf .leaf) (.node (w98 c) .leaf .leaf)) (.node (w50 c) (.node (w82 c) .leaf .leaf) .leaf)) (.node (w26 c) (.node (w42 c) (.node (w74 c) .leaf .leaf) (.node (w106 c) .leaf .leaf)) (.node (w58 c) (.node (w90 c) .leaf .leaf) (.node (w122 c) .leaf .leaf)))) (.node (w14 c) (.node (w22 c) (.node (w38 c) (.node (w70 c) .leaf .leaf) (.node (w102 c) .leaf .leaf)) (.node (w54 c) (.node (w86 c) .leaf .leaf) .leaf)) (.node (w30 c) (.node (w46 c) (.node (w78 c) (.node (w142 c) .leaf .leaf) .leaf) (.node (w110 c) .leaf .leaf)) (.node (w62 c) (.node (w94 c) .leaf .leaf) (.node (w126 c) .leaf .leaf)))))))
def stepF(c:aa):aa:=λck=>match ck with
 | .f f=>match Nat.blt f 144 with
  |true=>(bi f).get nf (tabW c)
  |false=>nf
 | .y κ vs l=>lookY [(800,bY800 c),(1536,qL c)] κ (λvs l ls h K=>rg (BA ab ac c) (xc 0) ab drN (ac κ) vs l ls h K) vs l
def runF(n:Nat):aa:=Nat.rec (motive:=λ_=>aa) (λ_ _ _ _=>none) (λ_ c=>stepF c) n
theorem dO{k:Nat}(h1:(λc=>(bi k).get nf (tabW c))=λ_=>nf)(c:aa):Ent k ((bi k).get nf (tabW c)):=by
 intro ls h K w hls hk
 rw[congrFun h1 c]at hk
 cases hk
theorem au{k:Nat}{g:aa->FB}(h1:(λc=>(bi k).get nf (tabW c))=g){c:aa}(h:Ent k (g c)):Ent k ((bi k).get nf (tabW c)):=by
 rw[congrFun h1 c];exact h
theorem tabW_ok{c:aa}(hc:Cok c):∀f,Nat.blt f 144=true->Ent f ((bi f).get nf (tabW c))
 |0,_=>dO (by kernel_rfl) c
 |1,_=>dO (by kernel_rfl) c
 |2,_=>dO (by kernel_rfl) c
 |3,_=>au (g:=λc=>w3 c) (by kernel_rfl) (ok3 hc)
 |4,_=>au (g:=λc=>w4 c) (by kernel_rfl) (ok4 hc)
 |5,_=>au (g:=λc=>w5 c) (by kernel_rfl) (ok5 hc)
 |6,_=>au (g:=λc=>w6 c) (by kernel_rfl) (ok6 hc)
 |7,_=>au (g:=λc=>w7 c) (by kernel_rfl) (ok7 hc)
 |8,_=>au (g:=λc=>w8 c) (by kernel_rfl) (ok8 hc)
 |9,_=>au (g:=λc=>w9 c) (by kernel_rfl) (ok9 hc)
 |10,_=>dO (by kernel_rfl) c
 |11,_=>au (g:=λc=>w11 c) (by kernel_rfl) (ok11 hc)
 |12,_=>au (g:=λc=>w12 c) (by kernel_rfl) (ok12 hc)
 |13,_=>au (g:=λc=>w13 c) (by kernel_rfl) (ok13 hc)
 |14,_=>au (g:=λc=>w14 c) (by kernel_rfl) (ok14 hc)
 |15,_=>au (g:=λc=>w15 c) (by kernel_rfl) (ok15 hc)
 |16,_=>au (g:=λc=>w16 c) (by kernel_rfl) (ok16 hc)
 |17,_=>au (g:=λc=>w17 c) (by kernel_rfl) (ok17 hc)
 |18,_=>au (g:=λc=>w18 c) (by kernel_rfl) (ok18 hc)
 |19,_=>au (g:=λc=>w19 c) (by kernel_rfl) (ok19 hc)
 |20,_=>au (g:=λc=>w20 c) (by kernel_rfl) (ok20 hc)
 |21,_=>au (g:=λc=>w21 c) (by kernel_rfl) (ok21 hc)
 |22,_=>au (g:=λc=>w22 c) (by kernel_rfl) (ok22 hc)
 |23,_=>au (g:=λc=>w23 c) (by kernel_rfl) (ok23 hc)
 |24,_=>au (g:=λc=>w24 c) (by kernel_rfl) (ok24 hc)
 |25,_=>au (g:=λc=>w25 c) (by kernel_rfl) (ok25 hc)
 |26,_=>au (g:=λc=>w26 c) (by kernel_rfl) (ok26 hc)
 |27,_=>au (g:=λc=>w27 c) (by kernel_rfl) (ok27 hc)
 |28,_=>au (g:=λc=>w28 c) (by kernel_rfl) (ok28 hc)
 |29,_=>au (g:=λc=>w29 c) (by kernel_rfl) (ok29 hc)
 |30,_=>au (g:=λc=>w30 c) (by kernel_rfl) (ok30 hc)
 |31,_=>au (g:=λc=>w31 c) (by kernel_rfl) (ok31 hc)
 |32,_=>au (g:=λc=>w32 c) (by kernel_rfl) (ok32 hc)
 |33,_=>au (g:=λc=>w33 c) (by kernel_rfl) (ok33 hc)
 |34,_=>au (g:=λc=>w34 c) (by kernel_rfl) (ok34 hc)
 |35,_=>au (g:=λc=>w35 c) (by kernel_rfl) (ok35 hc)
 |36,_=>au (g:=λc=>w36 c) (by kernel_rfl) (ok36 hc)
 |37,_=>au (g:=λc=>w37 c) (by kernel_rfl) (ok37 hc)
 |38,_=>au (g:=λc=>w38 c) (by kernel_rfl) (ok38 hc)
 |39,_=>au (g:=λc=>w39 c) (by kernel_rfl) (ok39 hc)
 |40,_=>au (g:=λc=>w40 c) (by kernel_rfl) (ok40 hc)
 |41,_=>au (g:=λc=>w41 c) (by kernel_rfl) (ok41 hc)
 |42,_=>au (g:=λc=>w42 c) (by kernel_rfl) (ok42 hc)
 |43,_=>au (g:=λc=>w43 c) (by kernel_rfl) (ok43 hc)
 |44,_=>au (g:=λc=>w44 c) (by kernel_rfl) (ok44 hc)
 |45,_=>au (g:=λc=>w45 c) (by kernel_rfl) (ok45 hc)
 |46,_=>au (g:=λc=>w46 c) (by kernel_rfl) (ok46 hc)
 |47,_=>au (g:=λc=>w47 c) (by kernel_rfl) (ok47 hc)
 |48,_=>au (g:=λc=>w48 c) (by kernel_rfl) (ok48 hc)
 |49,_=>au (g:=λc=>w49 c) (by kernel_rfl) (ok49 hc)
 |50,_=>au (g:=λc=>w50 c) (by kernel_rfl) (ok50 hc)
 |51,_=>au (g:=λc=>w51 c) (by kernel_rfl) (ok51 hc)
 |52,_=>au (g:=λc=>w52 c) (by kernel_rfl) (ok52 hc)
 |53,_=>au (g:=λc=>w53 c) (by kernel_rfl) (ok53 hc)
 |54,_=>au (g:=λc=>w54 c) (by kernel_rfl) (ok54 hc)
 |55,_=>au (g:=λc=>w55 c) (by kernel_rfl) (ok55 hc)
 |56,_=>au (g:=λc=>w56 c) (by kernel_rfl) (ok56 hc)
 |57,_=>au (g:=λc=>w57 c) (by kernel_rfl) (ok57 hc)
 |58,_=>au (g:=λc=>w58 c) (by kernel_rfl) (ok58 hc)
 |59,_=>au (g:=λc=>w59 c) (by kernel_rfl) (ok59 hc)
 |60,_=>au (g:=λc=>w60 c) (by kernel_rfl) (ok60 hc)
 |61,_=>au (g:=λc=>w61 c) (by kernel_rfl) (ok61 hc)
 |62,_=>au (g:=λc=>w62 c) (by kernel_rfl) (ok62 hc)
 |63,_=>au (g:=λc=>w63 c) (by kernel_rfl) (ok63 hc)
 |64,_=>au (g:=λc=>w64 c) (by kernel_rfl) (ok64 hc)
 |65,_=>au (g:=λc=>w65 c) (by kernel_rfl) (ok65 hc)
 |66,_=>au (g:=λc=>w66 c) (by kernel_rfl) (ok66 hc)
 |67,_=>au (g:=λc=>w67 c) (by kernel_rfl) (ok67 hc)
 |68,_=>au (g:=λc=>w68 c) (by kernel_rfl) (ok68 hc)
 |69,_=>au (g:=λc=>w69 c) (by kernel_rfl) (ok69 hc)
 |70,_=>au (g:=λc=>w70 c) (by kernel_rfl) (ok70 hc)
 |71,_=>au (g:=λc=>w71 c) (by kernel_rfl) (ok71 hc)
 |72,_=>au (g:=λc=>w72 c) (by kernel_rfl) (ok72 hc)
 |73,_=>au (g:=λc=>w73 c) (by kernel_rfl) (ok73 hc)
 |74,_=>au (g:=λc=>w74 c) (by kernel_rfl) (ok74 hc)
 |75,_=>au (g:=λc=>w75 c) (by kernel_rfl) (ok75 hc)
 |76,_=>au (g:=λc=>w76 c) (by kernel_rfl) (ok76 hc)
 |77,_=>au (g:=λc=>w77 c) (by kernel_rfl) (ok77 hc)
 |78,_=>au (g:=λc=>w78 c) (by kernel_rfl) (ok78 hc)
 |79,_=>au (g:=λc=>w79 c) (by kernel_rfl) (ok79 hc)
 |80,_=>au (g:=λc=>w80 c) (by kernel_rfl) (ok80 hc)
 |81,_=>au (g:=λc=>w81 c) (by kernel_rfl) (ok81 hc)
 |82,_=>au (g:=λc=>w82 c) (by kernel_rfl) (ok82 hc)
 |83,_=>au (g:=λc=>w83 c) (by kernel_rfl) (ok83 hc)
 |84,_=>au (g:=λc=>w84 c) (by kernel_rfl) (ok84 hc)
 |85,_=>au (g:=λc=>w85 c) (by kernel_rfl) (ok85 hc)
 |86,_=>au (g:=λc=>w86 c) (by kernel_rfl) (ok86 hc)
 |87,_=>au (g:=λc=>w87 c) (by kernel_rfl) (ok87 hc)
 |88,_=>au (g:=λc=>w88 c) (by kernel_rfl) (ok88 hc)
 |89,_=>au (g:=λc=>w89 c) (by kernel_rfl) (ok89 hc)
 |90,_=>au (g:=λc=>w90 c) (by kernel_rfl) (ok90 hc)
 |91,_=>au (g:=λc=>w91 c) (by kernel_rfl) (ok91 hc)
 |92,_=>au (g:=λc=>w92 c) (by kernel_rfl) (ok92 hc)
 |93,_=>au (g:=λc=>w93 c) (by kernel_rfl) (ok93 hc)
 |94,_=>au (g:=λc=>w94 c) (by kernel_rfl) (ok94 hc)
 |95,_=>au (g:=λc=>w95 c) (by kernel_rfl) (ok95 hc)
 |96,_=>au (g:=λc=>w96 c) (by kernel_rfl) (ok96 hc)
 |97,_=>au (g:=λc=>w97 c) (by kernel_rfl) (ok97 hc)
 |98,_=>au (g:=λc=>w98 c) (by kernel_rfl) (ok98 hc)
 |99,_=>au (g:=λc=>w99 c) (by kernel_rfl) (ok99 hc)
 |100,_=>au (g:=λc=>w100 c) (by kernel_rfl) (ok100 hc)
 |101,_=>au (g:=λc=>w101 c) (by kernel_rfl) (ok101 hc)
 |102,_=>au (g:=λc=>w102 c) (by kernel_rfl) (ok102 hc)
 |103,_=>au (g:=λc=>w103 c) (by kernel_rfl) (ok103 hc)
 |104,_=>au (g:=λc=>w104 c) (by kernel_rfl) (ok104 hc)
 |105,_=>au (g:=λc=>w105 c) (by kernel_rfl) (ok105 hc)
 |106,_=>au (g:=λc=>w106 c) (by kernel_rfl) (ok106 hc)
 |107,_=>au (g:=λc=>w107 c) (by kernel_rfl) (ok107 hc)
 |108,_=>au (g:=λc=>w108 c) (by kernel_rfl) (ok108 hc)
 |109,_=>au (g:=λc=>w109 c) (by kernel_rfl) (ok109 hc)
 |110,_=>au (g:=λc=>w110 c) (by kernel_rfl) (ok110 hc)
 |111,_=>au (g:=λc=>w111 c) (by kernel_rfl) (ok111 hc)
 |112,_=>au (g:=λc=>w112 c) (by kernel_rfl) (ok112 hc)
 |113,_=>au (g:=λc=>w113 c) (by kernel_rfl) (ok113 hc)
 |114,_=>dO (by kernel_rfl) c
 |115,_=>dO (by kernel_rfl) c
 |116,_=>dO (by kernel_rfl) c
 |117,_=>dO (by kernel_rfl) c
 |118,_=>dO (by kernel_rfl) c
 |119,_=>dO (by kernel_rfl) c
 |120,_=>dO (by kernel_rfl) c
 |121,_=>dO (by kernel_rfl) c
 |122,_=>au (g:=λc=>w122 c) (by kernel_rfl) (ok122 hc)
 |123,_=>au (g:=λc=>w123 c) (by kernel_rfl) (ok123 hc)
 |124,_=>au (g:=λc=>w124 c) (by kernel_rfl) (ok124 hc)
 |125,_=>au (g:=λc=>w125 c) (by kernel_rfl) (ok125 hc)
 |126,_=>au (g:=λc=>w126 c) (by kernel_rfl) (ok126 hc)
 |127,_=>au (g:=λc=>w127 c) (by kernel_rfl) (ok127 hc)
 |128,_=>au (g:=λc=>w128 c) (by kernel_rfl) (ok128 hc)
 |129,_=>dO (by kernel_rfl) c
 |130,_=>dO (by kernel_rfl) c
 |131,_=>dO (by kernel_rfl) c
 |132,_=>dO (by kernel_rfl) c
 |133,_=>dO (by kernel_rfl) c
 |134,_=>dO (by kernel_rfl) c
 |135,_=>dO (by kernel_rfl) c
 |136,_=>au (g:=λc=>w136 c) (by kernel_rfl) (ok136 hc)
 |137,_=>dO (by kernel_rfl) c
 |138,_=>dO (by kernel_rfl) c
 |139,_=>dO (by kernel_rfl) c
 |140,_=>dO (by kernel_rfl) c
 |141,_=>dO (by kernel_rfl) c
 |142,_=>au (g:=λc=>w142 c) (by kernel_rfl) (ok142 hc)
 |143,_=>au (g:=λc=>w143 c) (by kernel_rfl) (ok143 hc)
 |n+144,h=>by rw[qaV]at h;omega
theorem stepF_ok{c:aa}(hc:Cok c):Cok (stepF c):=by
 refine⟨λf ls h K w hls hk=>?_,λκ vs l ls h K w st pd xs e hy hk=>?_⟩
 ·have hk:(match Nat.blt f 144 with|true=>(bi f).get nf (tabW c)|false=>nf) ls h K=some w:=hk
  cases e:Nat.blt f 144 with
  |true=>rw[e]at hk;exact tabW_ok hc f e ls h K w hls hk
  |false=>rw[e]at hk;cases hk
 ·have hd:YOk cc ab ac κ (λvs l ls h K=>rg (BA ab ac c) (xc 0) ab drN (ac κ) vs l ls h K):=y_of (g:=λc vs l ls h K=>rg (BA ab ac c) (xc 0) ab drN (ac κ) vs l ls h K) (ct:=λc=>c) (λ_ _ _ _ _=>rfl) hc
  refine uA hd (l:=[(800,bY800 c),(1536,qL c)]) (λp hp=>?_) vs l ls h K w st pd xs e hy hk
  simp only[qaj,qaL,or_false]at hp
  rcases hp with rfl|rfl
  ·exact okY800 hc
  ·exact okY1536 hc
theorem qm:∀n,Cok (runF n)
 |0=>⟨λ_ _ _ _ _ _ h=>by(cases h),λ_ _ _ _ _ _ _ _ _ _ _ _ h=>by(cases h)⟩
 |n+1=>stepF_ok (qm n)
end Go.Am

/-
 THE ALGEBRA OF PROPOSITIONS OVER THE HEAPS OF RUNS;what a run shows holds in it.
-/
namespace Go.Am
namespace Sx
section
variable [Val] [Kno]
def peekH(T:Nat->Site)(f:Pk)(h:HL)(K:List Value->Prop):Prop:=∃cs,f.run (getH T h)=some cs/\K cs
def heapH(T:Nat->Site)(f:Hp)(h:HL)(K:List Value->HL->Prop):Prop:=∃acts cs,f.run (getH T h) h.length=some (acts,cs)/\K cs (bT h acts)
def callH(C:Cfg)(Sg:FuncId->Option Sig)(T:Nat->Site)(g:FuncId)(ls:List Lf)(h:HL)(K:List Lf->HL->Prop):Prop:=∃rs h',aW C Sg g ls (absH T h) rs (absH T h')/\K rs h'
def callvH(C:Cfg)(T:Nat->Site)(v:Value)(args:List Value)(hs:List SK)(h:HL)(K:List Lf->HL->Prop):Prop:=∃rs h',sw C v args hs (absH T h) rs (absH T h')/\K rs h'
def itH(F:(List Lf->HL->Prop)->List Lf->HL->Prop)(n:Nat):List Lf->HL->Prop:=
 match n with
 |0=>λ_ _=>False
 |n+1=>F (itH F n)
def loopH(F:(List Lf->HL->Prop)->List Lf->HL->Prop)(ls:List Lf)(h:HL):Prop:=∃n,itH F n ls h
def rfunH(C:Cfg)(T:Nat->Site)(κ:Nat)(v:Value)(vals:List Value)(h:HL)(K:Option Code->HL->Prop):Prop:=
 ∃g first cap r H1 lp h2,v = .func (.func g) first cap/\
  gu C g (first.toList++[.func (.yield (absH T h).length) #[] #[]]++cap.toList) (absH T h++[.loop (lpOf (T κ) κ vals)]) r H1/\
  dJ H1 (absH T h).length=some lp/\lp.state≠.busy/\absH T h2=H1.set (absH T h).length (.loop { lp with state:=.exhausted })/\K lp.pending h2
def lp1H(T:Nat->Site)(l:Nat)(h:HL)(K:HL->Prop):Prop:=∃lp h',dJ (absH T h) l=some lp/\lp.state = .ready/\absH T h'=(absH T h).set l (.loop { lp with state:=.busy })/\K h'
def lp2H(T:Nat->Site)(l:Nat)(j:Option Code)(h:HL)(K:HL->Prop):Prop:=∃lp h',dJ (absH T h) l=some lp/\absH T h'=(absH T h).set l (.loop { lp with state:=if j.isNone then .ready else .done,pending:=j })/\K h'
def PH(C:Cfg)(Sg:FuncId->Option Sig)(T:Nat->Site):Alg Prop HL where
 fail:=False
 cond:=condP
 ari:=ariP
 shf:=λop k a k' b K=>∃n,ShRun op k a k' b n/\K n
 cmp:=cmpP
 eqs:=λl K=>K (cf l)
 conv:=λk a K=>K (k.wrap a)
 sel:=λt a b K=>K (if t then a else b)
 opt:=optP
 chk:=λv K=>bc v=true/\K
 unI:=unIP
 unB:=unBP
 unV:=unVP
 un0:=un0P
 ucI:=ucIP
 ucB:=ucBP
 ucV:=ucVP
 uc0:=uc0P
 peek:=peekH T
 heap:=heapH T
 new:=λo h K=>K h.length (h++[.o o])
 call:=callH C Sg T
 callv:=callvH C T
 join:=λb m=>m b
 loop:=loopH
 rfun:=rfunH C T
 pend:=pendP
 lp1:=lp1H T
 lp2:=lp2H T
theorem PH_ok(C:Cfg)(Sg:FuncId->Option Sig)(T:Nat->Site):AlgOk (PH C Sg T) C Sg T id (absH T) where
 fail:=(eU C Sg T).fail
 cond:=(eU C Sg T).cond
 ari:=(eU C Sg T).ari
 shf:=(eU C Sg T).shf
 cmp:=(eU C Sg T).cmp
 eqs:=(eU C Sg T).eqs
 conv:=(eU C Sg T).conv
 sel:=(eU C Sg T).sel
 opt:=(eU C Sg T).opt
 chk:=(eU C Sg T).chk
 unI:=(eU C Sg T).unI
 unB:=(eU C Sg T).unB
 unV:=(eU C Sg T).unV
 un0:=(eU C Sg T).un0
 ucI:=(eU C Sg T).ucI
 ucB:=(eU C Sg T).ucB
 ucV:=(eU C Sg T).ucV
 uc0:=(eU C Sg T).uc0
 peek:=by
  intro f h K hk
  obtain⟨cs,h1,h2⟩:=hk
  exact⟨cs,by rw[←jD];exact h1,h2⟩
 heap:=by
  intro f h K hk
  obtain⟨acts,cs,h1,h2⟩:=hk
  exact⟨acts,cs,_,by rw[←jD,cp];exact h1,js T acts h,h2⟩
 new:=λo h K hk=>⟨_,fH T h _,by rw[cp];exact hk⟩
 call:=λg ls h K hk=>hk
 callv:=λv args hs h K hk=>hk
 join:=λb m h=>h
 loop:=by
  intro F ls h hk
  obtain⟨n,hk⟩:=hk
  exact⟨itH F,λls h=>(id:False->False),λn ls h=>rfl,n,hk⟩
 rfun:=λκ v vals h K hk=>hk
 pend:=(eU C Sg T).pend
 lp1:=λl h K hk=>hk
 lp2:=λl j h K hk=>hk
section
variable {C:Cfg} {Sg:FuncId->Option Sig} {T:Nat->Site} {call:aa} (hc:CallBOk C Sg T call)
include hc
inductive SL2:List (Nat×RT)->List (Nat×Prop)->Prop
 |nil:SL2 [] []
 |cons {id:Nat} {x:RT} {x':Prop} {l:List (Nat×RT)} {l':List (Nat×Prop)} (hx:x=yes->x') (hl:SL2 l l'):SL2 ((id,x) :: l) ((id,x') :: l')
omit hc in
end
theorem ux{F:(List Lf->HL->Prop)->List Lf->HL->Prop}(Inv:Nat->List Lf->HL->Prop)
  (step:∀m ls h,Inv m ls h->∀self:List Lf->HL->Prop,(∀m' ls h,m'<m->Inv m' ls h->self ls h)->F self ls h):∀n m ls h,m<n->Inv m ls h->itH F n ls h
 |0,_,_,_,hm,_=>absurd hm (qcp _)
 |n+1,m,ls,h,hm,hi=>step m ls h hi (itH F n) λm' ls h h' hi'=>ux Inv step n m' ls h (by omega) hi'
theorem nY{F:(List Lf->HL->Prop)->List Lf->HL->Prop}(Inv:Nat->List Lf->HL->Prop){m:Nat}{ls:List Lf}{h:HL}(hi:Inv m ls h)
  (step:∀m ls h,Inv m ls h->∀self:List Lf->HL->Prop,(∀m' ls h,m'<m->Inv m' ls h->self ls h)->F self ls h):loopH F ls h:=
 ⟨m+1,ux Inv step (m+1) m ls h (Nat.lt_succ_self m) hi⟩
end
end Sx
end Go.Am

/-
 THE ALGEBRA OF PROPOSITIONS,its rules as equations: a step each.
-/
namespace Go.Am
namespace Sx
class Bx (α:Sort _) where
 v:α
def hid{α:Sort _} [b:Bx α]:α:=b.v
section
variable [Val] [Kno] {C:Cfg} {Sg:FuncId->Option Sig} {T:Nat->Site}
theorem b_unI{n:Int}{r:List Lf}{K:Int->List Lf->Prop}:(PH C Sg T).unI (.i n :: r) K=K n r:=rfl
theorem b_unB{n:Bool}{r:List Lf}{K:Bool->List Lf->Prop}:(PH C Sg T).unB (.b n :: r) K=K n r:=rfl
theorem b_unV{n:Value}{r:List Lf}{K:Value->List Lf->Prop}:(PH C Sg T).unV (.v n :: r) K=K n r:=rfl
theorem b_un0{K:Prop}:(PH C Sg T).un0 [] K=K:=rfl
theorem b_ucI{k:IntKind}{n:Int}{r:List Value}{K:Int->List Value->Prop}:(PH C Sg T).ucI k (.int k n :: r) K=K n r:=by
 show(k=k/\K n r)=K n r
 simp
theorem b_ucB{n:Bool}{r:List Value}{K:Bool->List Value->Prop}:(PH C Sg T).ucB (.bool n :: r) K=K n r:=rfl
theorem b_ucV{n:Value}{r:List Value}{K:Value->List Value->Prop}:(PH C Sg T).ucV (n :: r) K=K n r:=rfl
theorem b_uc0{K:Prop}:(PH C Sg T).uc0 [] K=K:=rfl
theorem b_cond_t{X Y:Prop}:(PH C Sg T).cond true X Y=X:=by
 show((true=true->X)/\(true=false->Y))=X
 simp
theorem b_cond_f{X Y:Prop}:(PH C Sg T).cond false X Y=Y:=by
 show((false=true->X)/\(false=false->Y))=Y
 simp
theorem b_lss_t{a b:Int}{K:Bool->Prop}(h:a<b):(PH C Sg T).cmp .lss a b K=K true:=by
 show K (decide (a<b))=_;rw[decide_eq_true h]
theorem b_lss_f{a b:Int}{K:Bool->Prop}(h:b<=a):(PH C Sg T).cmp .lss a b K=K false:=by
 show K (decide (a<b))=_;rw[decide_eq_false (by omega)]
theorem b_leq_t{a b:Int}{K:Bool->Prop}(h:a<=b):(PH C Sg T).cmp .leq a b K=K true:=by
 show K (decide (a<=b))=_;rw[decide_eq_true h]
theorem b_leq_f{a b:Int}{K:Bool->Prop}(h:b<a):(PH C Sg T).cmp .leq a b K=K false:=by
 show K (decide (a<=b))=_;rw[decide_eq_false (by omega)]
theorem b_gtr_t{a b:Int}{K:Bool->Prop}(h:b<a):(PH C Sg T).cmp .gtr a b K=K true:=by
 show K (decide (a > b))=_;rw[decide_eq_true h]
theorem b_gtr_f{a b:Int}{K:Bool->Prop}(h:a<=b):(PH C Sg T).cmp .gtr a b K=K false:=by
 show K (decide (a > b))=_;rw[decide_eq_false (by omega)]
theorem b_geq_t{a b:Int}{K:Bool->Prop}(h:b<=a):(PH C Sg T).cmp .geq a b K=K true:=by
 show K (decide (a ≥ b))=_;rw[decide_eq_true h]
theorem b_geq_f{a b:Int}{K:Bool->Prop}(h:a<b):(PH C Sg T).cmp .geq a b K=K false:=by
 show K (decide (a ≥ b))=_;rw[decide_eq_false (by omega)]
theorem b_eql_t{a b:Int}{K:Bool->Prop}(h:a=b):(PH C Sg T).cmp .eql a b K=K true:=by
 show K (a==b)=_;rw[beq_iff_eq.2 h]
theorem b_eql_f{a b:Int}{K:Bool->Prop}(h:a≠b):(PH C Sg T).cmp .eql a b K=K false:=by
 show K (a==b)=_;rw[beq_false_of_ne h]
theorem b_neq_t{a b:Int}{K:Bool->Prop}(h:a≠b):(PH C Sg T).cmp .neq a b K=K true:=by
 show K (a != b)=_;rw[bne_iff_ne.2 h]
theorem b_neq_f{a b:Int}{K:Bool->Prop}(h:a=b):(PH C Sg T).cmp .neq a b K=K false:=by
 show K (a != b)=_;subst h;simp
theorem b_add{a b:Int}{K:Int->Prop}(h1:-9223372036854775808<=a+b)(h2:a+b<=9223372036854775807):(PH C Sg T).ari .add .i64 a b K=K (a+b):=by
 show K (IntKind.wrap .i64 (a+b))=_;rw[cw h1 h2]
theorem b_sub{a b:Int}{K:Int->Prop}(h1:-9223372036854775808<=a - b)(h2:a - b<=9223372036854775807):(PH C Sg T).ari .sub .i64 a b K=K (a - b):=by
 show K (IntKind.wrap .i64 (a - b))=_;rw[cw h1 h2]
theorem b_mul{a b:Int}{K:Int->Prop}(h1:-9223372036854775808<=a*b)(h2:a*b<=9223372036854775807):(PH C Sg T).ari .mul .i64 a b K=K (a*b):=by
 show K (IntKind.wrap .i64 (a*b))=_;rw[cw h1 h2]
theorem b_add8{a b:Int}{K:Int->Prop}(h1:0<=a+b)(h2:a+b<=255):(PH C Sg T).ari .add .u8 a b K=K (a+b):=by
 show K (IntKind.wrap .u8 (a+b))=_;rw[qB h1 h2]
theorem b_sub8{a b:Int}{K:Int->Prop}(h1:0<=a - b)(h2:a - b<=255):(PH C Sg T).ari .sub .u8 a b K=K (a - b):=by
 show K (IntKind.wrap .u8 (a - b))=_;rw[qB h1 h2]
theorem b_mul8{a b:Int}{K:Int->Prop}(h1:0<=a*b)(h2:a*b<=255):(PH C Sg T).ari .mul .u8 a b K=K (a*b):=by
 show K (IntKind.wrap .u8 (a*b))=_;rw[qB h1 h2]
theorem tdiv_nn{a b:Int}(h:0<=a):a.tdiv b=a / b:=Int.tdiv_eq_ediv_of_nonneg h
theorem b_quo_nn{a b:Int}{K:Int->Prop}(h:0<=a)(hb:0<b)(h2:a<=9223372036854775807):(PH C Sg T).ari .quo .i64 a b K=K (a / b):=by
 show(b≠0/\K (IntKind.wrap .i64 (a.tdiv b)))=_
 have h3:a / b<=a:=Int.ediv_le_self b h
 have h4:0<=a / b:=Int.ediv_nonneg h (by omega)
 rw[tdiv_nn h,cw (by omega) (by omega)]
 simp;intro _ h;omega
theorem b_quo_dv{a b:Int}{K:Int->Prop}(h:a%b=0)(hb:0<b)(h1:-9223372036854775808<=a)(h2:a<=9223372036854775807):(PH C Sg T).ari .quo .i64 a b K=K (a / b):=by
 show(b≠0/\K (IntKind.wrap .i64 (a.tdiv b)))=_
 obtain⟨q,rfl⟩:=Int.dvd_of_emod_eq_zero h
 rw[Int.mul_tdiv_cancel_left q (by omega),Int.mul_ediv_cancel_left q (by omega)]
 have hq:-9223372036854775808<=q/\q<=9223372036854775807:=by
  rcases qbj 0 q with hs|hs
  ·have:=qcg (show(1:Int)<=b by omega) hs
   omega
  ·have:=qcg (show(1:Int)<=b by omega) (show 0<=-q by omega)
   rw[Int.mul_neg b q]at this
   omega
 rw[cw hq.1 hq.2]
 simp;intro _ h;omega
theorem b_rem_nn{k:IntKind}{a b:Int}{K:Int->Prop}(h:0<=a)(hb:0<b):(PH C Sg T).ari .rem k a b K=K (a%b):=by
 show(b≠0/\K (a.tmod b))=_
 rw[qc3 h]
 simp;intro _ h;omega
theorem b_rem_np{k:IntKind}{a b:Int}{K:Int->Prop}(h:a<=0)(hb:0<b):(PH C Sg T).ari .rem k a b K=K (-((-a)%b)):=by
 show(b≠0/\K (a.tmod b))=_
 have:a.tmod b = -((-a)%b):=by
  have h1:=Int.neg_tmod a b
  rw[qc3 (a:=-a) (by omega)]at h1
  omega
 rw[this]
 simp;intro _ h;omega
theorem b_and1{a:Int}{K:Int->Prop}:(PH C Sg T).ari .and .i64 a 1 K=K (a%2):=by
 show(((1:Int)=1/\K (a%2))∨((1:Int)≠1/\∃n,oR .and .i64 a 1 n/\K n))=K (a%2)
 simp
theorem b_conv{a:Int}{K:Int->Prop}(h1:-9223372036854775808<=a)(h2:a<=9223372036854775807):(PH C Sg T).conv .i64 a K=K a:=by
 show K (IntKind.wrap .i64 a)=_;rw[cw h1 h2]
theorem b_conv8{a:Int}{K:Int->Prop}(h1:0<=a)(h2:a<=255):(PH C Sg T).conv .u8 a K=K a:=by
 show K (IntKind.wrap .u8 a)=_;rw[qB h1 h2]
theorem b_sel_t{a b:Int}{K:Int->Prop}:(PH C Sg T).sel true a b K=K a:=rfl
theorem b_sel_f{a b:Int}{K:Int->Prop}:(PH C Sg T).sel false a b K=K b:=rfl
theorem b_opt{α:Type}{x:α}{K:α->Prop}:(PH C Sg T).opt (some x) K=K x:=by
 show(∃y,some x=some y/\K y)=K x
 simp
theorem b_inB{n:Nat}{i:Int}{K:Unit->Prop}(h1:0<=i)(h2:i<(n:Int)):(PH C Sg T).opt (inB n i) K=K ():=by
 rw[show inB n i=some ()from(inB_eq n i).trans (if_pos ⟨h1,h2⟩),b_opt]
theorem b_join{b:List Lf->HL->Prop}{m:(List Lf->HL->Prop)->Prop}:(PH C Sg T).join b m=m b:=rfl
theorem b_eqs0{K:Bool->Prop}:(PH C Sg T).eqs [] K=K true:=rfl
theorem b_eqs_t{a b:Int}{l:List (Lf×Lf)}{K:Bool->Prop}(h:a=b):(PH C Sg T).eqs ((.i a,.i b) :: l) K=(PH C Sg T).eqs l K:=by
 show K (cf _)=K (cf l)
 subst h
 simp[cf,gK]
theorem b_eqs_f{a b:Int}{l:List (Lf×Lf)}{K:Bool->Prop}(h:a≠b):(PH C Sg T).eqs ((.i a,.i b) :: l) K=K false:=by
 show K (cf _)=K false
 have:(a==b)=false:=beq_false_of_ne h
 simp[cf,gK,this]
theorem gQ{F:(List Lf->HL->Prop)->List Lf->HL->Prop}{ls:List Lf}{h:HL}(n:Nat)(hn:itH F n ls h):(PH C Sg T).loop F ls h:=⟨n,hn⟩
theorem b_it{F:(List Lf->HL->Prop)->List Lf->HL->Prop}{n:Nat}{ls:List Lf}{h:HL}:itH F (n+1) ls h=F (itH F n) ls h:=rfl
theorem ah{g:FuncId}{ls rs:List Lf}{h:HL}{K:List Lf->HL->Prop}(hc:∀H,aW C Sg g ls H rs H)(hk:K rs h):(PH C Sg T).call g ls h (@hid _ ⟨K⟩):=⟨rs,h,hc _,hk⟩
theorem b_eqsb_t{a b:Bool}{l:List (Lf×Lf)}{K:Bool->Prop}(h:a=b):(PH C Sg T).eqs ((.b a,.b b) :: l) K=(PH C Sg T).eqs l K:=by
 show K (cf _)=K (cf l)
 subst h
 simp[cf,gK]
theorem b_eqsb_tf{l:List (Lf×Lf)}{K:Bool->Prop}:(PH C Sg T).eqs ((.b true,.b false) :: l) K=K false:=rfl
theorem b_eqsb_ft{l:List (Lf×Lf)}{K:Bool->Prop}:(PH C Sg T).eqs ((.b false,.b true) :: l) K=K false:=rfl
theorem b_mul_1{b:Int}{K:Int->Prop}(h1:-9223372036854775808<=b)(h2:b<=9223372036854775807):(PH C Sg T).ari .mul .i64 1 b K=K b:=by
 show K (IntKind.wrap .i64 (1*b))=_;rw[Int.one_mul,cw h1 h2]
theorem b_mul_0{b:Int}{K:Int->Prop}:(PH C Sg T).ari .mul .i64 0 b K=K 0:=by
 show K (IntKind.wrap .i64 (0*b))=_;rw[Int.zero_mul];rfl
theorem b_mul_m{b:Int}{K:Int->Prop}(h1:-9223372036854775808<=-b)(h2:-b<=9223372036854775807):(PH C Sg T).ari .mul .i64 (-1) b K=K (-b):=by
 show K (IntKind.wrap .i64 (-1*b))=_
 have:(-1*b:Int) = -b:=by omega
 rw[this,cw h1 h2]
theorem b_mul_r1{b:Int}{K:Int->Prop}(h1:-9223372036854775808<=b)(h2:b<=9223372036854775807):(PH C Sg T).ari .mul .i64 b 1 K=K b:=by
 show K (IntKind.wrap .i64 (b*1))=_;rw[Int.mul_one,cw h1 h2]
theorem b_mul_r0{b:Int}{K:Int->Prop}:(PH C Sg T).ari .mul .i64 b 0 K=K 0:=by
 show K (IntKind.wrap .i64 (b*0))=_;rw[Int.mul_zero];rfl
theorem b_mul_rm{b:Int}{K:Int->Prop}(h1:-9223372036854775808<=-b)(h2:-b<=9223372036854775807):(PH C Sg T).ari .mul .i64 b (-1) K=K (-b):=by
 show K (IntKind.wrap .i64 (b * -1))=_
 have:(b * -1:Int) = -b:=by omega
 rw[this,cw h1 h2]
theorem b_add_0{b:Int}{K:Int->Prop}(h1:-9223372036854775808<=b)(h2:b<=9223372036854775807):(PH C Sg T).ari .add .i64 0 b K=K b:=by
 show K (IntKind.wrap .i64 (0+b))=_;rw[qbq,cw h1 h2]
theorem b_add_r0{b:Int}{K:Int->Prop}(h1:-9223372036854775808<=b)(h2:b<=9223372036854775807):(PH C Sg T).ari .add .i64 b 0 K=K b:=by
 show K (IntKind.wrap .i64 (b+0))=_;rw[Int.add_zero,cw h1 h2]
theorem b_add_11{K:Int->Prop}:(PH C Sg T).ari .add .i64 1 1 K=K 2:=by
 show K (IntKind.wrap .i64 (1+1))=_;rfl
theorem b_quo_1{a:Int}{K:Int->Prop}(h1:-9223372036854775808<=a)(h2:a<=9223372036854775807):(PH C Sg T).ari .quo .i64 a 1 K=K a:=by
 show((1:Int)≠0/\K (IntKind.wrap .i64 (a.tdiv 1)))=_
 rw[Int.tdiv_one,cw h1 h2];simp
theorem qa{op:BinOp}{k:IntKind}{a b b':Int}{K:Int->Prop}(hb:b=b')(h:(PH C Sg T).ari op k a b' K):(PH C Sg T).ari op k a b K:=by rw[hb];exact h
theorem aE{α:Type}{o:Option α}{x:α}{K:α->Prop}(h:o=some x)(hk:K x):(PH C Sg T).opt o (@hid _ ⟨K⟩):=⟨x,h,hk⟩
theorem p_unI{n:Int}{r:List Lf}{K:Int->List Lf->Prop}:(PH C Sg T).unI (.i n :: r) (@hid _ ⟨K⟩)=K n r:=b_unI
theorem p_unB{n:Bool}{r:List Lf}{K:Bool->List Lf->Prop}:(PH C Sg T).unB (.b n :: r) (@hid _ ⟨K⟩)=K n r:=b_unB
theorem p_unV{n:Value}{r:List Lf}{K:Value->List Lf->Prop}:(PH C Sg T).unV (.v n :: r) (@hid _ ⟨K⟩)=K n r:=b_unV
theorem p_un0{K:Prop}:(PH C Sg T).un0 [] (@hid _ ⟨K⟩)=K:=b_un0
theorem p_ucI{k:IntKind}{n:Int}{r:List Value}{K:Int->List Value->Prop}:(PH C Sg T).ucI k (.int k n :: r) (@hid _ ⟨K⟩)=K n r:=b_ucI
theorem p_ucB{n:Bool}{r:List Value}{K:Bool->List Value->Prop}:(PH C Sg T).ucB (.bool n :: r) (@hid _ ⟨K⟩)=K n r:=b_ucB
theorem p_ucV{n:Value}{r:List Value}{K:Value->List Value->Prop}:(PH C Sg T).ucV (n :: r) (@hid _ ⟨K⟩)=K n r:=b_ucV
theorem p_uc0{K:Prop}:(PH C Sg T).uc0 [] (@hid _ ⟨K⟩)=K:=b_uc0
theorem p_cond_t{X Y:Prop}:(PH C Sg T).cond true (@hid _ ⟨X⟩) Y=X:=b_cond_t
theorem p_cond_f{X Y:Prop}:(PH C Sg T).cond false X (@hid _ ⟨Y⟩)=Y:=b_cond_f
theorem p_lss_t{a b:Int}{K:Bool->Prop}(h:a<b):(PH C Sg T).cmp .lss a b (@hid _ ⟨K⟩)=K true:=b_lss_t h
theorem p_lss_f{a b:Int}{K:Bool->Prop}(h:b<=a):(PH C Sg T).cmp .lss a b (@hid _ ⟨K⟩)=K false:=b_lss_f h
theorem p_leq_t{a b:Int}{K:Bool->Prop}(h:a<=b):(PH C Sg T).cmp .leq a b (@hid _ ⟨K⟩)=K true:=b_leq_t h
theorem p_leq_f{a b:Int}{K:Bool->Prop}(h:b<a):(PH C Sg T).cmp .leq a b (@hid _ ⟨K⟩)=K false:=b_leq_f h
theorem p_gtr_t{a b:Int}{K:Bool->Prop}(h:b<a):(PH C Sg T).cmp .gtr a b (@hid _ ⟨K⟩)=K true:=b_gtr_t h
theorem p_gtr_f{a b:Int}{K:Bool->Prop}(h:a<=b):(PH C Sg T).cmp .gtr a b (@hid _ ⟨K⟩)=K false:=b_gtr_f h
theorem p_geq_t{a b:Int}{K:Bool->Prop}(h:b<=a):(PH C Sg T).cmp .geq a b (@hid _ ⟨K⟩)=K true:=b_geq_t h
theorem p_geq_f{a b:Int}{K:Bool->Prop}(h:a<b):(PH C Sg T).cmp .geq a b (@hid _ ⟨K⟩)=K false:=b_geq_f h
theorem p_eql_t{a b:Int}{K:Bool->Prop}(h:a=b):(PH C Sg T).cmp .eql a b (@hid _ ⟨K⟩)=K true:=b_eql_t h
theorem p_eql_f{a b:Int}{K:Bool->Prop}(h:a≠b):(PH C Sg T).cmp .eql a b (@hid _ ⟨K⟩)=K false:=b_eql_f h
theorem p_neq_t{a b:Int}{K:Bool->Prop}(h:a≠b):(PH C Sg T).cmp .neq a b (@hid _ ⟨K⟩)=K true:=b_neq_t h
theorem p_neq_f{a b:Int}{K:Bool->Prop}(h:a=b):(PH C Sg T).cmp .neq a b (@hid _ ⟨K⟩)=K false:=b_neq_f h
theorem p_add{a b:Int}{K:Int->Prop}(h1:-9223372036854775808<=a+b)(h2:a+b<=9223372036854775807):(PH C Sg T).ari .add .i64 a b (@hid _ ⟨K⟩)=K (a+b):=b_add h1 h2
theorem p_sub{a b:Int}{K:Int->Prop}(h1:-9223372036854775808<=a - b)(h2:a - b<=9223372036854775807):(PH C Sg T).ari .sub .i64 a b (@hid _ ⟨K⟩)=K (a - b):=b_sub h1 h2
theorem p_mul{a b:Int}{K:Int->Prop}(h1:-9223372036854775808<=a*b)(h2:a*b<=9223372036854775807):(PH C Sg T).ari .mul .i64 a b (@hid _ ⟨K⟩)=K (a*b):=b_mul h1 h2
theorem p_add8{a b:Int}{K:Int->Prop}(h1:0<=a+b)(h2:a+b<=255):(PH C Sg T).ari .add .u8 a b (@hid _ ⟨K⟩)=K (a+b):=b_add8 h1 h2
theorem p_sub8{a b:Int}{K:Int->Prop}(h1:0<=a - b)(h2:a - b<=255):(PH C Sg T).ari .sub .u8 a b (@hid _ ⟨K⟩)=K (a - b):=b_sub8 h1 h2
theorem p_mul8{a b:Int}{K:Int->Prop}(h1:0<=a*b)(h2:a*b<=255):(PH C Sg T).ari .mul .u8 a b (@hid _ ⟨K⟩)=K (a*b):=b_mul8 h1 h2
theorem p_quo_nn{a b:Int}{K:Int->Prop}(h:0<=a)(hb:0<b)(h2:a<=9223372036854775807):(PH C Sg T).ari .quo .i64 a b (@hid _ ⟨K⟩)=K (a / b):=b_quo_nn h hb h2
theorem p_quo_dv{a b:Int}{K:Int->Prop}(h:a%b=0)(hb:0<b)(h1:-9223372036854775808<=a)(h2:a<=9223372036854775807):(PH C Sg T).ari .quo .i64 a b (@hid _ ⟨K⟩)=K (a / b):=b_quo_dv h hb h1 h2
theorem p_rem_nn{k:IntKind}{a b:Int}{K:Int->Prop}(h:0<=a)(hb:0<b):(PH C Sg T).ari .rem k a b (@hid _ ⟨K⟩)=K (a%b):=b_rem_nn h hb
theorem p_rem_np{k:IntKind}{a b:Int}{K:Int->Prop}(h:a<=0)(hb:0<b):(PH C Sg T).ari .rem k a b (@hid _ ⟨K⟩)=K (-((-a)%b)):=b_rem_np h hb
theorem p_and1{a:Int}{K:Int->Prop}:(PH C Sg T).ari .and .i64 a 1 (@hid _ ⟨K⟩)=K (a%2):=b_and1
theorem p_conv{a:Int}{K:Int->Prop}(h1:-9223372036854775808<=a)(h2:a<=9223372036854775807):(PH C Sg T).conv .i64 a (@hid _ ⟨K⟩)=K a:=b_conv h1 h2
theorem p_conv8{a:Int}{K:Int->Prop}(h1:0<=a)(h2:a<=255):(PH C Sg T).conv .u8 a (@hid _ ⟨K⟩)=K a:=b_conv8 h1 h2
theorem p_sel_t{a b:Int}{K:Int->Prop}:(PH C Sg T).sel true a b (@hid _ ⟨K⟩)=K a:=b_sel_t
theorem p_sel_f{a b:Int}{K:Int->Prop}:(PH C Sg T).sel false a b (@hid _ ⟨K⟩)=K b:=b_sel_f
theorem p_opt{α:Type}{x:α}{K:α->Prop}:(PH C Sg T).opt (some x) (@hid _ ⟨K⟩)=K x:=b_opt
theorem p_inB{n:Nat}{i:Int}{K:Unit->Prop}(h1:0<=i)(h2:i<(n:Int)):(PH C Sg T).opt (inB n i) (@hid _ ⟨K⟩)=K ():=b_inB h1 h2
theorem p_join{b:List Lf->HL->Prop}{m:(List Lf->HL->Prop)->Prop}:(PH C Sg T).join (@hid _ ⟨b⟩) (@hid _ ⟨m⟩)=m (@hid _ ⟨b⟩):=b_join
theorem p_eqs0{K:Bool->Prop}:(PH C Sg T).eqs [] (@hid _ ⟨K⟩)=K true:=b_eqs0
theorem p_eqs_t{a b:Int}{l:List (Lf×Lf)}{K:Bool->Prop}(h:a=b):(PH C Sg T).eqs ((.i a,.i b) :: l) (@hid _ ⟨K⟩)=(PH C Sg T).eqs l (@hid _ ⟨K⟩):=b_eqs_t h
theorem p_eqs_f{a b:Int}{l:List (Lf×Lf)}{K:Bool->Prop}(h:a≠b):(PH C Sg T).eqs ((.i a,.i b) :: l) (@hid _ ⟨K⟩)=K false:=b_eqs_f h
theorem p_it{F:(List Lf->HL->Prop)->List Lf->HL->Prop}{n:Nat}{ls:List Lf}{h:HL}:itH (@hid _ ⟨F⟩) (n+1) ls h=F (itH (@hid _ ⟨F⟩) n) ls h:=b_it
theorem p_eqsb_t{a b:Bool}{l:List (Lf×Lf)}{K:Bool->Prop}(h:a=b):(PH C Sg T).eqs ((.b a,.b b) :: l) (@hid _ ⟨K⟩)=(PH C Sg T).eqs l (@hid _ ⟨K⟩):=b_eqsb_t h
theorem p_eqsb_tf{l:List (Lf×Lf)}{K:Bool->Prop}:(PH C Sg T).eqs ((.b true,.b false) :: l) (@hid _ ⟨K⟩)=K false:=b_eqsb_tf
theorem p_eqsb_ft{l:List (Lf×Lf)}{K:Bool->Prop}:(PH C Sg T).eqs ((.b false,.b true) :: l) (@hid _ ⟨K⟩)=K false:=b_eqsb_ft
theorem p_mul_1{b:Int}{K:Int->Prop}(h1:-9223372036854775808<=b)(h2:b<=9223372036854775807):(PH C Sg T).ari .mul .i64 1 b (@hid _ ⟨K⟩)=K b:=b_mul_1 h1 h2
theorem p_mul_0{b:Int}{K:Int->Prop}:(PH C Sg T).ari .mul .i64 0 b (@hid _ ⟨K⟩)=K 0:=b_mul_0
theorem p_mul_m{b:Int}{K:Int->Prop}(h1:-9223372036854775808<=-b)(h2:-b<=9223372036854775807):(PH C Sg T).ari .mul .i64 (-1) b (@hid _ ⟨K⟩)=K (-b):=b_mul_m h1 h2
theorem p_mul_r1{b:Int}{K:Int->Prop}(h1:-9223372036854775808<=b)(h2:b<=9223372036854775807):(PH C Sg T).ari .mul .i64 b 1 (@hid _ ⟨K⟩)=K b:=b_mul_r1 h1 h2
theorem p_mul_r0{b:Int}{K:Int->Prop}:(PH C Sg T).ari .mul .i64 b 0 (@hid _ ⟨K⟩)=K 0:=b_mul_r0
theorem p_mul_rm{b:Int}{K:Int->Prop}(h1:-9223372036854775808<=-b)(h2:-b<=9223372036854775807):(PH C Sg T).ari .mul .i64 b (-1) (@hid _ ⟨K⟩)=K (-b):=b_mul_rm h1 h2
theorem p_add_0{b:Int}{K:Int->Prop}(h1:-9223372036854775808<=b)(h2:b<=9223372036854775807):(PH C Sg T).ari .add .i64 0 b (@hid _ ⟨K⟩)=K b:=b_add_0 h1 h2
theorem p_add_r0{b:Int}{K:Int->Prop}(h1:-9223372036854775808<=b)(h2:b<=9223372036854775807):(PH C Sg T).ari .add .i64 b 0 (@hid _ ⟨K⟩)=K b:=b_add_r0 h1 h2
theorem p_add_11{K:Int->Prop}:(PH C Sg T).ari .add .i64 1 1 (@hid _ ⟨K⟩)=K 2:=b_add_11
theorem p_quo_1{a:Int}{K:Int->Prop}(h1:-9223372036854775808<=a)(h2:a<=9223372036854775807):(PH C Sg T).ari .quo .i64 a 1 (@hid _ ⟨K⟩)=K a:=b_quo_1 h1 h2
theorem p_hid2{f:List Lf->HL->Prop}{a:List Lf}{b:HL}:@hid _ ⟨f⟩ a b=f a b:=rfl
theorem p_eqs2_f{a b c d:Int}{K:Bool->Prop}(h:¬(a=c/\b=d)):(PH C Sg T).eqs [(.i a,.i c),(.i b,.i d)] (@hid _ ⟨K⟩)=K false:=by
 show K (cf _)=K false
 have:cf [(.i a,.i c),(.i b,.i d)]=false:=by
  rw[qcO]
  simpa[cf,gK]using h
 rw[this]
theorem p_eqs3_f{a b c d e f:Int}{K:Bool->Prop}(h:¬(a=d/\b=e/\c=f)):(PH C Sg T).eqs [(.i a,.i d),(.i b,.i e),(.i c,.i f)] (@hid _ ⟨K⟩)=K false:=by
 show K (cf _)=K false
 have:cf [(.i a,.i d),(.i b,.i e),(.i c,.i f)]=false:=by
  rw[qcO]
  simpa[cf,gK]using h
 rw[this]
theorem bZ{g:FuncId}{ls rs:List Lf}{h h':HL}{K:List Lf->HL->Prop}(hc:aW C Sg g ls (absH T h) rs (absH T h'))(hk:K rs h'):(PH C Sg T).call g ls h (@hid _ ⟨K⟩):=⟨rs,h',hc,hk⟩
theorem callv_ct{g:FuncId}{sg:Sig}{ls rs:List Lf}{H H':List HObj}(hc:aW C Sg g ls H rs H')(hs:Sg g=some sg)(xs:List S0)(h1:bu xs sg.ps=true)(h2:bF xs=ls) :
  sw C (.func (.func g) #[] #[]) (ai xs) sg.rs H rs H':=by
 obtain⟨sg',xs',ys,c1,c2,c3,c4⟩:=hc
 rw[hs]at c1
 cases c1
 obtain⟨w1,_⟩:=cD c2.1 h1 (c2.2.1.trans h2.symm)
 rw[w1]at c4
 exact⟨ys,c3,.inl ⟨g,#[],#[],rfl,by simpa using c4⟩⟩
theorem p_callv{v:Value}{args:List Value}{hs:List SK}{rs:List Lf}{h h':HL}{K:List Lf->HL->Prop}(hc:sw C v args hs (absH T h) rs (absH T h'))(hk:K rs h'):(PH C Sg T).callv v args hs h (@hid _ ⟨K⟩):=⟨rs,h',hc,hk⟩
theorem p_new{o:HObj}{h:HL}{K:Nat->HL->Prop}:(PH C Sg T).new o h (@hid _ ⟨K⟩)=K h.length (h++[.o o]):=rfl
theorem cg{v:Value}{K:Prop}(h:bc v=true)(hk:K):(PH C Sg T).chk v (@hid _ ⟨K⟩):=⟨h,hk⟩
theorem dl{f:Hp}{h:HL}{K:List Value->HL->Prop}{acts:List Act1}{cs:List Value}(e:f.run (getH T h) h.length=some (acts,cs))(hk:K cs (bT h acts)):(PH C Sg T).heap f h (@hid _ ⟨K⟩):=⟨acts,cs,e,hk⟩
theorem iT{f:Pk}{h:HL}{K:List Value->Prop}{cs:List Value}(e:f.run (getH T h)=some cs)(hk:K cs):(PH C Sg T).peek f h (@hid _ ⟨K⟩):=⟨cs,e,hk⟩
def pxs(C:Cfg)(Sg:FuncId->Option Sig)(T:Nat->Site):=And.intro @p_hid2 (And.intro (@p_new _ _ C Sg T) (And.intro (@p_unI _ _ C Sg T) (And.intro (@p_unB _ _ C Sg T) (And.intro (@p_unV _ _ C Sg T) (And.intro (@p_un0 _ _ C Sg T) (And.intro (@p_ucI _ _ C Sg T) (And.intro (@p_ucB _ _ C Sg T) (And.intro (@p_ucV _ _ C Sg T) (And.intro (@p_uc0 _ _ C Sg T) (And.intro (@p_cond_t _ _ C Sg T) (And.intro (@p_cond_f _ _ C Sg T) (And.intro (@p_opt _ _ C Sg T) (And.intro (@p_inB _ _ C Sg T) (And.intro (@p_join _ _ C Sg T) (And.intro (@p_sel_t _ _ C Sg T) (And.intro (@p_sel_f _ _ C Sg T) ((@p_it))))))))))))))))))
def pxc(C:Cfg)(Sg:FuncId->Option Sig)(T:Nat->Site):=And.intro (@p_lss_t _ _ C Sg T) (And.intro (@p_lss_f _ _ C Sg T) (And.intro (@p_leq_t _ _ C Sg T) (And.intro (@p_leq_f _ _ C Sg T) (And.intro (@p_gtr_t _ _ C Sg T) (And.intro (@p_gtr_f _ _ C Sg T) (And.intro (@p_geq_t _ _ C Sg T) (And.intro (@p_geq_f _ _ C Sg T) (And.intro (@p_eql_t _ _ C Sg T) (And.intro (@p_eql_f _ _ C Sg T) (And.intro (@p_neq_t _ _ C Sg T) (And.intro (@p_neq_f _ _ C Sg T) (And.intro (@p_eqs0 _ _ C Sg T) (And.intro (@p_eqs_t _ _ C Sg T) (And.intro (@p_eqs_f _ _ C Sg T) (And.intro (@p_eqs2_f _ _ C Sg T) (And.intro (@p_eqs3_f _ _ C Sg T) (And.intro (@p_eqsb_t _ _ C Sg T) (And.intro (@p_eqsb_tf _ _ C Sg T) ((@p_eqsb_ft _ _ C Sg T))))))))))))))))))))
def pxa(C:Cfg)(Sg:FuncId->Option Sig)(T:Nat->Site):=And.intro (@p_mul_1 _ _ C Sg T) (And.intro (@p_mul_0 _ _ C Sg T) (And.intro (@p_mul_m _ _ C Sg T) (And.intro (@p_mul_r1 _ _ C Sg T) (And.intro (@p_mul_r0 _ _ C Sg T) (And.intro (@p_mul_rm _ _ C Sg T) (And.intro (@p_add_0 _ _ C Sg T) (And.intro (@p_add_r0 _ _ C Sg T) (And.intro (@p_add_11 _ _ C Sg T) (And.intro (@p_quo_1 _ _ C Sg T) (And.intro (@p_add _ _ C Sg T) (And.intro (@p_sub _ _ C Sg T) (And.intro (@p_mul _ _ C Sg T) (And.intro (@p_add8 _ _ C Sg T) (And.intro (@p_sub8 _ _ C Sg T) (And.intro (@p_mul8 _ _ C Sg T) (And.intro (@p_quo_nn _ _ C Sg T) (And.intro (@p_quo_dv _ _ C Sg T) (And.intro (@p_rem_nn _ _ C Sg T) (And.intro (@p_rem_np _ _ C Sg T) (And.intro (@p_and1 _ _ C Sg T) (And.intro (@p_conv _ _ C Sg T) ((@p_conv8 _ _ C Sg T)))))))))))))))))))))))
end
end Sx
end Go.Am

/-
 LOOPS OVER ITERATORS IN THE ALGEBRA OF PROPOSITIONS: the call of the iterator;a round.
-/
namespace Go.Am
namespace Sx
section
variable [Val] [Kno]
variable {C:Cfg} {Sg:FuncId->Option Sig} {T:Nat->Site}
end
end Sx
end Go.Am

/-
 THE ALGEBRA OF PROPOSITIONS WITH WHAT COMES BEHIND PUT AWAY.
-/
namespace Go.Am
namespace Sx
open Go.Proofs
def hA(A:Alg Prop HL):Alg Prop HL where
 fail:=A.fail
 cond b x y:=A.cond b (@hid _ ⟨x⟩) (@hid _ ⟨y⟩)
 ari o k a b K:=A.ari o k a b (@hid _ ⟨K⟩)
 shf o k a l b K:=A.shf o k a l b (@hid _ ⟨K⟩)
 cmp o a b K:=A.cmp o a b (@hid _ ⟨K⟩)
 eqs l K:=A.eqs l (@hid _ ⟨K⟩)
 conv k a K:=A.conv k a (@hid _ ⟨K⟩)
 sel t a b K:=A.sel t a b (@hid _ ⟨K⟩)
 opt o K:=A.opt o (@hid _ ⟨K⟩)
 chk v x:=A.chk v (@hid _ ⟨x⟩)
 unI l K:=A.unI l (@hid _ ⟨K⟩)
 unB l K:=A.unB l (@hid _ ⟨K⟩)
 unV l K:=A.unV l (@hid _ ⟨K⟩)
 un0 l x:=A.un0 l (@hid _ ⟨x⟩)
 ucI k l K:=A.ucI k l (@hid _ ⟨K⟩)
 ucB l K:=A.ucB l (@hid _ ⟨K⟩)
 ucV l K:=A.ucV l (@hid _ ⟨K⟩)
 uc0 l x:=A.uc0 l (@hid _ ⟨x⟩)
 peek f h K:=A.peek f h (@hid _ ⟨K⟩)
 heap f h K:=A.heap f h (@hid _ ⟨K⟩)
 new o h K:=A.new o h (@hid _ ⟨K⟩)
 call g l h K:=A.call g l h (@hid _ ⟨K⟩)
 callv v a s h K:=A.callv v a s h (@hid _ ⟨K⟩)
 join b m:=A.join (@hid _ ⟨b⟩) (@hid _ ⟨m⟩)
 loop F l h:=A.loop (@hid _ ⟨F⟩) l h
 rfun n v a h K:=A.rfun n v a h (@hid _ ⟨K⟩)
 pend o x y l:=A.pend o (@hid _ ⟨x⟩) (@hid _ ⟨y⟩) l
 lp1 n h K:=A.lp1 n h (@hid _ ⟨K⟩)
 lp2 n o h K:=A.lp2 n o h (@hid _ ⟨K⟩)
theorem hA_eq(A:Alg Prop HL):hA A=A:=rfl
section
variable {A:Alg Prop HL}
theorem h_cond{b:Bool}{x y:Prop}:(hA A).cond b x y=A.cond b (@hid _ ⟨x⟩) (@hid _ ⟨y⟩):=rfl
theorem h_ari{o:BinOp}{k:IntKind}{a b:Int}{K:Int->Prop}:(hA A).ari o k a b K=A.ari o k a b (@hid _ ⟨K⟩):=rfl
theorem h_shf{o:BinOp}{k l:IntKind}{a b:Int}{K:Int->Prop}:(hA A).shf o k a l b K=A.shf o k a l b (@hid _ ⟨K⟩):=rfl
theorem h_cmp{o:BinOp}{a b:Int}{K:Bool->Prop}:(hA A).cmp o a b K=A.cmp o a b (@hid _ ⟨K⟩):=rfl
theorem h_eqs{l:List (Lf×Lf)}{K:Bool->Prop}:(hA A).eqs l K=A.eqs l (@hid _ ⟨K⟩):=rfl
theorem h_conv{k:IntKind}{a:Int}{K:Int->Prop}:(hA A).conv k a K=A.conv k a (@hid _ ⟨K⟩):=rfl
theorem h_sel{t:Bool}{a b:Int}{K:Int->Prop}:(hA A).sel t a b K=A.sel t a b (@hid _ ⟨K⟩):=rfl
theorem h_opt{α:Type}{o:Option α}{K:α->Prop}:(hA A).opt o K=A.opt o (@hid _ ⟨K⟩):=rfl
theorem h_chk{v:Value}{x:Prop}:(hA A).chk v x=A.chk v (@hid _ ⟨x⟩):=rfl
theorem h_unI{l:List Lf}{K:Int->List Lf->Prop}:(hA A).unI l K=A.unI l (@hid _ ⟨K⟩):=rfl
theorem h_unB{l:List Lf}{K:Bool->List Lf->Prop}:(hA A).unB l K=A.unB l (@hid _ ⟨K⟩):=rfl
theorem h_unV{l:List Lf}{K:Value->List Lf->Prop}:(hA A).unV l K=A.unV l (@hid _ ⟨K⟩):=rfl
theorem h_un0{l:List Lf}{x:Prop}:(hA A).un0 l x=A.un0 l (@hid _ ⟨x⟩):=rfl
theorem h_ucI{k:IntKind}{l:List Value}{K:Int->List Value->Prop}:(hA A).ucI k l K=A.ucI k l (@hid _ ⟨K⟩):=rfl
theorem h_ucB{l:List Value}{K:Bool->List Value->Prop}:(hA A).ucB l K=A.ucB l (@hid _ ⟨K⟩):=rfl
theorem h_ucV{l:List Value}{K:Value->List Value->Prop}:(hA A).ucV l K=A.ucV l (@hid _ ⟨K⟩):=rfl
theorem h_uc0{l:List Value}{x:Prop}:(hA A).uc0 l x=A.uc0 l (@hid _ ⟨x⟩):=rfl
theorem h_peek{f:Pk}{h:HL}{K:List Value->Prop}:(hA A).peek f h K=A.peek f h (@hid _ ⟨K⟩):=rfl
theorem h_heap{f:Hp}{h:HL}{K:List Value->HL->Prop}:(hA A).heap f h K=A.heap f h (@hid _ ⟨K⟩):=rfl
theorem h_new{o:HObj}{h:HL}{K:Nat->HL->Prop}:(hA A).new o h K=A.new o h (@hid _ ⟨K⟩):=rfl
theorem h_call{g:FuncId}{l:List Lf}{h:HL}{K:List Lf->HL->Prop}:(hA A).call g l h K=A.call g l h (@hid _ ⟨K⟩):=rfl
theorem h_callv{v:Value}{a:List Value}{s:List SK}{h:HL}{K:List Lf->HL->Prop}:(hA A).callv v a s h K=A.callv v a s h (@hid _ ⟨K⟩):=rfl
theorem h_join{b:List Lf->HL->Prop}{m:(List Lf->HL->Prop)->Prop}:(hA A).join b m=A.join (@hid _ ⟨b⟩) (@hid _ ⟨m⟩):=rfl
theorem h_loop{F:(List Lf->HL->Prop)->List Lf->HL->Prop}{l:List Lf}{h:HL}:(hA A).loop F l h=A.loop (@hid _ ⟨F⟩) l h:=rfl
theorem h_rfun{n:Nat}{v:Value}{a:List Value}{h:HL}{K:Option Code->HL->Prop}:(hA A).rfun n v a h K=A.rfun n v a h (@hid _ ⟨K⟩):=rfl
theorem h_pend{o:Option Code}{x y:Prop}{l:List (Nat×Prop)}:(hA A).pend o x y l=A.pend o (@hid _ ⟨x⟩) (@hid _ ⟨y⟩) l:=rfl
theorem h_lp1{n:Nat}{h:HL}{K:HL->Prop}:(hA A).lp1 n h K=A.lp1 n h (@hid _ ⟨K⟩):=rfl
theorem h_lp2{n:Nat}{o:Option Code}{h:HL}{K:HL->Prop}:(hA A).lp2 n o h K=A.lp2 n o h (@hid _ ⟨K⟩):=rfl
end
def pxh(A:Alg Prop HL):=And.intro (@h_cond A) (And.intro (@h_ari A) (And.intro (@h_shf A) (And.intro (@h_cmp A) (And.intro (@h_eqs A) (And.intro (@h_conv A) (And.intro (@h_sel A) (And.intro (@h_opt A) (And.intro (@h_chk A) (And.intro (@h_unI A) (And.intro (@h_unB A) (And.intro (@h_unV A) (And.intro (@h_un0 A) (And.intro (@h_ucI A) (And.intro (@h_ucB A) (And.intro (@h_ucV A) (And.intro (@h_uc0 A) (And.intro (@h_peek A) (And.intro (@h_heap A) (And.intro (@h_new A) (And.intro (@h_call A) (And.intro (@h_callv A) (And.intro (@h_join A) (And.intro (@h_loop A) (And.intro (@h_rfun A) (And.intro (@h_pend A) (And.intro (@h_lp1 A) ((@h_lp2 A))))))))))))))))))))))))))))
end Sx
end Go.Am

/-
 THE SEAT'S CALLS: what is known of them,and how it is shown (over the heaps of runs).
-/
set_option maxRecDepth 100000
namespace Go.Am
open Sx Go.Proofs
theorem gl_cell(g:Nat)(vs:List Value)(h:cc.G g=some vs):vs.all aM=true:=by
 unfold cc at h
 simp only at h
 split at h<;>first|(cases h;done)|(obtain rfl:=qan h;kernel_rfl)
abbrev P1:Alg Prop HL:=PH cc ab ac
abbrev Cc(g:FuncId)(ls rs:List Lf):Prop:=∀H,aW cc ab g ls H rs H
theorem fn_ok{f:FuncId}{fn:Fn1}(hi:FnIs (xc f) ab f fn){ls:List Lf}{H:HL}{K:List Lf->HL->Prop}(hls:gf ls=true)
  (h:ao P1 (xc f) ab drN fn ls H K):∃rs H',aW cc ab f ls (absH ac H) rs (absH ac H')/\K rs H':=by
 obtain⟨rs,h',a1,_,a3⟩:=pC (X:=xc f) (holds:=id) (abs:=absH ac) (PH_ok cc ab ac) ud hi (du hls) h
 exact⟨rs,h',a1,a3⟩
theorem fn_okG{f:FuncId}{fn:Fn1}(hi:FnIs (xc f) ab f fn){ls:List Lf}{H:HL}{K:List Lf->HL->Prop}(hls:dE ls)
  (h:ao P1 (xc f) ab drN fn ls H K):∃rs H',aW cc ab f ls (absH ac H) rs (absH ac H')/\K rs H':=by
 obtain⟨rs,h',a1,_,a3⟩:=pC (X:=xc f) (holds:=id) (abs:=absH ac) (PH_ok cc ab ac) ud hi hls h
 exact⟨rs,h',a1,a3⟩
theorem gls0:dE []:=λ_ h=>by cases h
theorem glsI{n:Int}{ls:List Lf}(h:dE ls):dE (.i n :: ls):=λl hl=>by
 rcases qaj.1 hl with rfl|hl
 ·trivial
 ·exact h l hl
theorem glsV{x:Value}{ls:List Lf}(hx:bc x=true)(h:dE ls):dE (.v x :: ls):=λl hl=>by
 rcases qaj.1 hl with rfl|hl
 ·exact hx
 ·exact h l hl
abbrev FP:=List Lf->HL->(List Lf->HL->Prop)->Prop
abbrev UG(k:FuncId)(p:FP):Prop:=∀ {ls:List Lf} {H:HL} {K:List Lf->HL->Prop},gf ls=true->p ls H K->∃rs H',aW cc ab k ls (absH ac H) rs (absH ac H')/\K rs H'
abbrev XG(k:FuncId)(p:FP):Prop:=∀ {ls:List Lf} {H:HL} {K:List Lf->HL->Prop},dE ls->p ls H K->∃rs H',aW cc ab k ls (absH ac H) rs (absH ac H')/\K rs H'
abbrev QG(k:FuncId)(p:FP):Prop:=∀ {ls rs:List Lf},gf ls=true->p ls [] (λrs' _=>rs'=rs)->Cc k ls rs
theorem uu{k:FuncId}{fn:Fn1}{f:{R HT:Type}->Alg R HT->List Lf->HT->(List Lf->HT->R)->R}(hi:FnIs (xc k) ab k fn)(e:@f=λR HT A ls h K=>ao A (xc k) ab drN fn ls h K):UG k (f (hA P1)):=by
 intro ls H K hls h
 rw[hA_eq,e]at h
 exact fn_ok hi hls h
theorem xx{k:FuncId}{fn:Fn1}{f:{R HT:Type}->Alg R HT->List Lf->HT->(List Lf->HT->R)->R}(hi:FnIs (xc k) ab k fn)(e:@f=λR HT A ls h K=>ao A (xc k) ab drN fn ls h K):XG k (f (hA P1)):=by
 intro ls H K hls h
 rw[hA_eq,e]at h
 exact fn_okG hi hls h
theorem qq{k:FuncId}{sg:Sig}{p:FP}(hu:UG k p)(hs:ab k=some sg)(hf:sg.plain=true):QG k p:=λhls h=>by
 obtain⟨_,_,h1,rfl⟩:=hu hls h
 exact ct_of mixed jE hs hf h1
def qxs:=pxs cc ab ac
def qxh:=pxh P1
def qxc:=pxc cc ab ac
def qxa:=pxa cc ab ac
def qXX:=And.intro qxs (And.intro qxc qxa)
end Go.Am

/-
 THE FUNCTIONS OVER THE ALGEBRA OF PROPOSITIONS,BY PROGRAM.
-/
set_option maxRecDepth 100000
namespace Go.Am
open Sx Go.Proofs
/-- crimp/crimplaw10.PlacesMoved -/
theorem u3:UG 3 (f3 (hA P1)):=uu i3 e3
theorem x3:XG 3 (f3 (hA P1)):=xx i3 e3
/-- (crimp/crimplaw10.F).Of -/
theorem x4:XG 4 (f4 (hA P1)):=xx i4 e4
/-- crimp/patterns.Opposite -/
theorem x5:XG 5 (f5 (hA P1)):=xx i5 e5
/-- crimp/moves.Then -/
theorem u6:UG 6 (f6 (hA P1)):=uu i6 e6
theorem q6:QG 6 (f6 (hA P1)):=qq u6 rfl (by kernel_rfl)
/-- (crimp/crimplaw02.M).Of -/
theorem u7:UG 7 (f7 (hA P1)):=uu i7 e7
theorem q7:QG 7 (f7 (hA P1)):=qq u7 rfl (by kernel_rfl)
/-- crimp/places.Places -/
theorem u8:UG 8 (f8 (hA P1)):=uu i8 e8
theorem x8:XG 8 (f8 (hA P1)):=xx i8 e8
/-- crimp/crimpref10.Fold -/
theorem x11:XG 11 (f11 (hA P1)):=xx i11 e11
/-- crimp/crimpref10.Line -/
theorem u12:UG 12 (f12 (hA P1)):=uu i12 e12
theorem q12:QG 12 (f12 (hA P1)):=qq u12 rfl (by kernel_rfl)
/-- crimp/crimpref06.With -/
theorem x13:XG 13 (f13 (hA P1)):=xx i13 e13
/-- crimp/patterns.Check -/
theorem x14:XG 14 (f14 (hA P1)):=xx i14 e14
/-- crimp/moves.Check -/
theorem u15:UG 15 (f15 (hA P1)):=uu i15 e15
theorem q15:QG 15 (f15 (hA P1)):=qq u15 rfl (by kernel_rfl)
/-- (crimp/moves.matrix).of -/
theorem u16:UG 16 (f16 (hA P1)):=uu i16 e16
theorem q16:QG 16 (f16 (hA P1)):=qq u16 rfl (by kernel_rfl)
/-- crimp/moves.limited -/
theorem u17:UG 17 (f17 (hA P1)):=uu i17 e17
theorem q17:QG 17 (f17 (hA P1)):=qq u17 rfl (by kernel_rfl)
/-- crimp/places.both -/
theorem x20:XG 20 (f20 (hA P1)):=xx i20 e20
/-- crimp/crimpref03.Side -/
theorem u30:UG 30 (f30 (hA P1)):=uu i30 e30
theorem q30:QG 30 (f30 (hA P1)):=qq u30 rfl (by kernel_rfl)
/-- crimp/crimpref03.Move -/
theorem u31:UG 31 (f31 (hA P1)):=uu i31 e31
theorem q31:QG 31 (f31 (hA P1)):=qq u31 rfl (by kernel_rfl)
/-- crimp/crimpref02.Then -/
theorem u32:UG 32 (f32 (hA P1)):=uu i32 e32
theorem q32:QG 32 (f32 (hA P1)):=qq u32 rfl (by kernel_rfl)
/-- crimp/crimpref02.Of -/
theorem u33:UG 33 (f33 (hA P1)):=uu i33 e33
theorem q33:QG 33 (f33 (hA P1)):=qq u33 rfl (by kernel_rfl)
/-- crimp/sheets.Check -/
theorem u35:UG 35 (f35 (hA P1)):=uu i35 e35
theorem q35:QG 35 (f35 (hA P1)):=qq u35 rfl (by kernel_rfl)
/-- slices.ContainsFunc[[]crimp/patterns.Crease,crimp/patterns.Crease] -/
theorem x36:XG 36 (f36 (hA P1)):=xx i36 e36
/-- crimp/patterns.Check$1 -/
theorem u37:UG 37 (f37 (hA P1)):=uu i37 e37
theorem q37:QG 37 (f37 (hA P1)):=qq u37 rfl (by kernel_rfl)
/-- crimp/patterns.isKind -/
theorem u38:UG 38 (f38 (hA P1)):=uu i38 e38
theorem q38:QG 38 (f38 (hA P1)):=qq u38 rfl (by kernel_rfl)
/-- crimp/sheets.Name -/
theorem u39:UG 39 (f39 (hA P1)):=uu i39 e39
theorem q39:QG 39 (f39 (hA P1)):=qq u39 rfl (by kernel_rfl)
/-- (crimp/patterns.Crease).unit -/
theorem u40:UG 40 (f40 (hA P1)):=uu i40 e40
theorem q40:QG 40 (f40 (hA P1)):=qq u40 rfl (by kernel_rfl)
/-- crimp/patterns.order -/
theorem u41:UG 41 (f41 (hA P1)):=uu i41 e41
theorem q41:QG 41 (f41 (hA P1)):=qq u41 rfl (by kernel_rfl)
/-- crimp/moves.beyond -/
theorem u42:UG 42 (f42 (hA P1)):=uu i42 e42
theorem q42:QG 42 (f42 (hA P1)):=qq u42 rfl (by kernel_rfl)
/-- crimp/places.relative -/
theorem x43:XG 43 (f43 (hA P1)):=xx i43 e43
/-- crimp/sheets.Cell -/
theorem u44:UG 44 (f44 (hA P1)):=uu i44 e44
theorem q44:QG 44 (f44 (hA P1)):=qq u44 rfl (by kernel_rfl)
/-- crimp/cells.Move -/
theorem u45:UG 45 (f45 (hA P1)):=uu i45 e45
theorem q45:QG 45 (f45 (hA P1)):=qq u45 rfl (by kernel_rfl)
/-- crimp/crimpref03.Corners -/
theorem u53:UG 53 (f53 (hA P1)):=uu i53 e53
theorem q53:QG 53 (f53 (hA P1)):=qq u53 rfl (by kernel_rfl)
/-- crimp/crimpref01.Far -/
theorem u54:UG 54 (f54 (hA P1)):=uu i54 e54
theorem q54:QG 54 (f54 (hA P1)):=qq u54 rfl (by kernel_rfl)
/-- crimp/crimpref02.Point -/
theorem u55:UG 55 (f55 (hA P1)):=uu i55 e55
theorem q55:QG 55 (f55 (hA P1)):=qq u55 rfl (by kernel_rfl)
/-- crimp/crimpref03.With -/
theorem u56:UG 56 (f56 (hA P1)):=uu i56 e56
theorem q56:QG 56 (f56 (hA P1)):=qq u56 rfl (by kernel_rfl)
/-- crimp/crimpref02.Told -/
theorem u57:UG 57 (f57 (hA P1)):=uu i57 e57
theorem q57:QG 57 (f57 (hA P1)):=qq u57 rfl (by kernel_rfl)
/-- crimp/crimpref01.Reflect -/
theorem u58:UG 58 (f58 (hA P1)):=uu i58 e58
theorem q58:QG 58 (f58 (hA P1)):=qq u58 rfl (by kernel_rfl)
/-- slices.IndexFunc[[]crimp/patterns.Crease,crimp/patterns.Crease] -/
theorem x61:XG 61 (f61 (hA P1)):=xx i61 e61
/-- crimp/sheets.Neighbour -/
theorem u62:UG 62 (f62 (hA P1)):=uu i62 e62
theorem q62:QG 62 (f62 (hA P1)):=qq u62 rfl (by kernel_rfl)
/-- crimp/places.creased -/
theorem x63:XG 63 (f63 (hA P1)):=xx i63 e63
/-- crimp/places.relative$1 -/
theorem x65:XG 65 (f65 (hA P1)):=xx i65 e65
/-- crimp/moves.Of -/
theorem u67:UG 67 (f67 (hA P1)):=uu i67 e67
theorem q67:QG 67 (f67 (hA P1)):=qq u67 rfl (by kernel_rfl)
/-- (crimp/sheets.Sheet).has -/
theorem u68:UG 68 (f68 (hA P1)):=uu i68 e68
theorem q68:QG 68 (f68 (hA P1)):=qq u68 rfl (by kernel_rfl)
/-- crimp/cells.Check -/
theorem u70:UG 70 (f70 (hA P1)):=uu i70 e70
theorem q70:QG 70 (f70 (hA P1)):=qq u70 rfl (by kernel_rfl)
/-- crimp/cells.moved -/
theorem u71:UG 71 (f71 (hA P1)):=uu i71 e71
theorem q71:QG 71 (f71 (hA P1)):=qq u71 rfl (by kernel_rfl)
/-- crimp/lines.CheckPoint -/
theorem u85:UG 85 (f85 (hA P1)):=uu i85 e85
theorem q85:QG 85 (f85 (hA P1)):=qq u85 rfl (by kernel_rfl)
/-- crimp/lines.Check -/
theorem u87:UG 87 (f87 (hA P1)):=uu i87 e87
theorem q87:QG 87 (f87 (hA P1)):=qq u87 rfl (by kernel_rfl)
/-- crimp/crimpref01.Across -/
theorem u88:UG 88 (f88 (hA P1)):=uu i88 e88
theorem q88:QG 88 (f88 (hA P1)):=qq u88 rfl (by kernel_rfl)
/-- crimp/cells.Neighbour -/
theorem u90:UG 90 (f90 (hA P1)):=uu i90 e90
theorem q90:QG 90 (f90 (hA P1)):=qq u90 rfl (by kernel_rfl)
/-- crimp/cells.middle -/
theorem u94:UG 94 (f94 (hA P1)):=uu i94 e94
theorem q94:QG 94 (f94 (hA P1)):=qq u94 rfl (by kernel_rfl)
/-- crimp/moves.Point -/
theorem u95:UG 95 (f95 (hA P1)):=uu i95 e95
theorem q95:QG 95 (f95 (hA P1)):=qq u95 rfl (by kernel_rfl)
end Go.Am

/-
 SLICES IN THE HEAP: what lies behind them,how they are read and lengthened.
-/
set_option maxRecDepth 100000
namespace Go.Am
namespace Sx
theorem kV{vs:List Value}{off n:Nat}{cs:List Value}:cut vs off n=some cs↔off+n<=vs.length/\(vs.drop off).take n=cs:=by
 unfold cut
 split
 ·rename_i h;simp[h]
 ·rename_i h;simp[h]
theorem cut_len{vs:List Value}{off n:Nat}{cs:List Value}(h:cut vs off n=some cs):cs.length=n:=by
 obtain⟨h1,rfl⟩:=kV.1 h
 rw[qaY,qbY];omega
theorem sF{vs:List Value}{off n:Nat}{cs:List Value}(h:cut vs off n=some cs){o k:Nat}(hk:o+k<=n):cut vs (off+o) k=some ((cs.drop o).take k):=by
 obtain⟨h1,rfl⟩:=kV.1 h
 refine kV.2 ⟨by omega,?_⟩
 rw[List.drop_take,qbS,List.take_take,qce (by omega)]
theorem cut_all{vs:List Value}{n:Nat}(h:vs.length=n):cut vs 0 n=some vs:=kV.2 ⟨by omega,by rw[qaG,qaM (by omega)]⟩
def Pre(h0 h:HL):Prop:=∃G,h=h0++G
theorem Pre.refl(h:HL):Pre h h:=⟨[],by simp⟩
theorem Pre.trans{a b c:HL}(h:Pre a b)(k:Pre b c):Pre a c:=by
 obtain⟨G,rfl⟩:=h
 obtain⟨G',rfl⟩:=k
 exact⟨G++G',by simp⟩
theorem Pre.app{a b:HL}(h:Pre a b)(G:HL):Pre a (b++G):=h.trans ⟨G,rfl⟩
theorem Pre.len{a b:HL}(h:Pre a b):a.length<=b.length:=by obtain⟨G,rfl⟩:=h;simp
theorem Pre.get{a b:HL}(h:Pre a b){i:Nat}{o:HO}(hi:a[i]? = some o):b[i]? = some o:=by
 obtain⟨G,rfl⟩:=h
 have:i<a.length:=by
  rcases qaz i a.length with h|h
  ·exact h
  ·rw[qai h]at hi;cases hi
 rw[qae this];exact hi
theorem Pre.set{a b:HL}(h:Pre a b){i:Nat}(hi:a.length<=i)(o:HO):Pre a (b.set i o):=by
 obtain⟨G,rfl⟩:=h
 rw[qbL _ _ hi]
 exact⟨_,rfl⟩
def Ptr(h:HL)(p:Value)(cs:List Value):Prop:=∃id o vs e rw,p = .pointer (some ⟨id,o,none⟩)/\h[id]? = some (.o (.cells vs e rw))/\cut vs o cs.length=some cs
def SlC(h:HL)(v:Value)(e n:Nat)(cs:List Value):Prop:=
 cs.length=n*e/\((v = .slice none 0 0/\n=0)∨∃id off cx vs rw,v = .slice (some ⟨id,off,tag e⟩) n cx/\h[id]? = some (.o (.cells vs e rw))/\cut vs off (n*e)=some cs)
def LsH{α:Type}(h:HL)(v:Value)(e:Nat)(enc:α->List Value)(l:List α):Prop:=(∀a∈l,(enc a).length=e)/\SlC h v e l.length (l.flatMap enc)
def Mk(n0:Nat)(h:HL)(v:Value)(e n:Nat)(cs:List Value):Prop:=
 cs.length=n*e/\((v = .slice none 0 0/\n=0)∨∃id,n0<=id/\v = .slice (some ⟨id,0,tag e⟩) n 0/\h[id]? = some (.o (.cells cs e true)))
def MkL{α:Type}(n0:Nat)(h:HL)(v:Value)(e:Nat)(enc:α->List Value)(l:List α):Prop:=(∀a∈l,(enc a).length=e)/\Mk n0 h v e l.length (l.flatMap enc)
def blk:Value->Option Nat
 | .slice (some a) _ _=>some a.block
 |_=>none
theorem Ptr.keep{h h':HL}{p:Value}{cs:List Value}(hp:Ptr h p cs)(hk:∀(j:Nat) o,h[j]? = some o->h'[j]? = some o):Ptr h' p cs:=by
 obtain⟨id,o,vs,e,rw',h1,h2,h3⟩:=hp
 exact⟨id,o,vs,e,rw',h1,hk _ _ h2,h3⟩
theorem SlC.keep{h h':HL}{v:Value}{e n:Nat}{cs:List Value}(hs:SlC h v e n cs)(hk:∀(j:Nat) o,h[j]? = some o->blk v=some j->h'[j]? = some o):SlC h' v e n cs:=by
 obtain⟨h0,h1|⟨id,off,cx,vs,rw',rfl,h2,h3⟩⟩:=hs
 ·exact⟨h0,.inl h1⟩
 ·exact⟨h0,.inr ⟨id,off,cx,vs,rw',rfl,hk _ _ h2 rfl,h3⟩⟩
theorem SlC.pre{h h':HL}{v:Value}{e n:Nat}{cs:List Value}(hs:SlC h v e n cs)(hp:Pre h h'):SlC h' v e n cs:=hs.keep λ_ _ h _=>hp.get h
theorem LsH.keep{α:Type}{h h':HL}{v:Value}{e:Nat}{enc:α->List Value}{l:List α}(hs:LsH h v e enc l)(hk:∀(j:Nat) o,h[j]? = some o->blk v=some j->h'[j]? = some o):LsH h' v e enc l:=⟨hs.1,hs.2.keep hk⟩
theorem LsH.pre{α:Type}{h h':HL}{v:Value}{e:Nat}{enc:α->List Value}{l:List α}(hs:LsH h v e enc l)(hp:Pre h h'):LsH h' v e enc l:=⟨hs.1,hs.2.pre hp⟩
theorem SlC.len{h:HL}{v:Value}{e n:Nat}{cs:List Value}(hs:SlC h v e n cs):lenS v=some (.ofNat n):=by
 obtain⟨_,⟨rfl,rfl⟩|⟨id,off,cx,vs,rw',rfl,_⟩⟩:=hs<;>rfl
theorem LsH.len{α:Type}{h:HL}{v:Value}{e:Nat}{enc:α->List Value}{l:List α}(hs:LsH h v e enc l):lenS v=some (.ofNat l.length):=hs.2.len
theorem Mk.sl{n0:Nat}{h:HL}{v:Value}{e n:Nat}{cs:List Value}(hs:Mk n0 h v e n cs):SlC h v e n cs:=by
 obtain⟨h0,h1|⟨id,_,rfl,h2⟩⟩:=hs
 ·exact⟨h0,.inl h1⟩
 ·exact⟨h0,.inr ⟨id,0,0,cs,true,rfl,h2,cut_all h0⟩⟩
theorem MkL.ls{α:Type}{n0:Nat}{h:HL}{v:Value}{e:Nat}{enc:α->List Value}{l:List α}(hs:MkL n0 h v e enc l):LsH h v e enc l:=⟨hs.1,hs.2.sl⟩
theorem Mk.nil(n0:Nat)(h:HL)(e:Nat):Mk n0 h (.slice none 0 0) e 0 []:=⟨by simp,.inl ⟨rfl,rfl⟩⟩
theorem MkL.nil{α:Type}(n0:Nat)(h:HL)(e:Nat)(enc:α->List Value):MkL n0 h (.slice none 0 0) e enc []:=⟨by simp,Mk.nil n0 h e⟩
theorem LsH.nil{α:Type}(h:HL)(e:Nat)(enc:α->List Value):LsH h (.slice none 0 0) e enc []:=(MkL.nil 0 h e enc).ls
theorem Mk.keep{n0:Nat}{h h':HL}{v:Value}{e n:Nat}{cs:List Value}(hs:Mk n0 h v e n cs)(hk:∀(j:Nat) o,h[j]? = some o->blk v=some j->h'[j]? = some o):Mk n0 h' v e n cs:=by
 obtain⟨h0,h1|⟨id,h1,rfl,h2⟩⟩:=hs
 ·exact⟨h0,.inl h1⟩
 ·exact⟨h0,.inr ⟨id,h1,rfl,hk _ _ h2 rfl⟩⟩
theorem Mk.pre{n0:Nat}{h h':HL}{v:Value}{e n:Nat}{cs:List Value}(hs:Mk n0 h v e n cs)(hp:Pre h h'):Mk n0 h' v e n cs:=hs.keep λ_ _ h _=>hp.get h
theorem MkL.keep{α:Type}{n0:Nat}{h h':HL}{v:Value}{e:Nat}{enc:α->List Value}{l:List α}(hs:MkL n0 h v e enc l)(hk:∀(j:Nat) o,h[j]? = some o->blk v=some j->h'[j]? = some o):MkL n0 h' v e enc l:=⟨hs.1,hs.2.keep hk⟩
theorem MkL.pre{α:Type}{n0:Nat}{h h':HL}{v:Value}{e:Nat}{enc:α->List Value}{l:List α}(hs:MkL n0 h v e enc l)(hp:Pre h h'):MkL n0 h' v e enc l:=⟨hs.1,hs.2.pre hp⟩
theorem bb{α:Type}{e:Nat}{enc:α->List Value}:∀ {l:List α},(∀a∈l,(enc a).length=e)->(l.flatMap enc).length=l.length*e
 | [],_=>by simp
 |a :: l,h=>by
  rw[qby,qaO,h a qaK,bb λb hb=>h b (qaq _ hb),qay,qbu,qca,Nat.add_comm]
theorem nN{α:Type}{e:Nat}{enc:α->List Value}:∀ {l:List α},(∀a∈l,(enc a).length=e)->∀ {i:Nat} {a:α},l[i]? = some a->((l.flatMap enc).drop (i*e)).take e=enc a
 |b :: l,h,0,a,hi=>by
  simp only[qbl,qau]at hi
  subst hi
  have:=h b qaK
  rw[qa1,qaG,qby,List.take_append_of_le_length (by omega),qaM (by omega)]
 |b :: l,h,i+1,a,hi=>by
  simp only[qbM]at hi
  have hb:=h b qaK
  have:=nN (λb hb=>h b (qaq _ hb)) hi
  rw[qby,qbu,qca,←this]
  have e1:i*e+e=(enc b).length+i*e:=by omega
  rw[e1,qbZ,qbr (by omega),qam,qb2]
 | [],_,_,_,hi=>by simp at hi
theorem SlC.at{h:HL}{v:Value}{e n:Nat}{cs:List Value}(hs:SlC h v e n cs){i:Nat}(hi:i<n):∃p,idS e v (.ofNat i)=some p/\Ptr h p ((cs.drop (i*e)).take e):=by
 obtain⟨h0,⟨rfl,rfl⟩|⟨id,off,cx,vs,rw',rfl,h2,h3⟩⟩:=hs
 ·omega
 ·have hle:i*e+e<=n*e:=by
   have:=qbg e (show i+1<=n by omega)
   rw[qbu,qca]at this;exact this
  refine⟨.pointer (some ⟨id,off+i*e,none⟩),?_,id,off+i*e,vs,e,rw',rfl,h2,?_⟩
  ·rw[ru]
   have hh:0<=Int.ofNat i/\Int.ofNat i<(n:Int):=⟨qa0 i,by show(i:Int)<n;omega⟩
   simp only[if_pos hh]
   have:¬(tag e=some 1):=by simp[tag]
   simp only[if_neg this]
   rfl
  ·have hc:=sF h3 hle
   have hl:=cut_len hc
   rw[hl];exact hc
theorem LsH.at{α:Type}{h:HL}{v:Value}{e:Nat}{enc:α->List Value}{l:List α}(hs:LsH h v e enc l){i:Nat}{a:α}(hi:l[i]? = some a):∃p,idS e v (.ofNat i)=some p/\Ptr h p (enc a):=by
 have hlt:i<l.length:=by
  rcases qaz i l.length with h|h
  ·exact h
  ·rw[qai h]at hi;cases hi
 obtain⟨p,h1,h2⟩:=hs.2.at hlt
 rw[nN hs.1 hi]at h2
 exact⟨p,h1,h2⟩
theorem Ptr.fd{h:HL}{p:Value}{cs:List Value}(hp:Ptr h p cs)(o k:Nat)(hk:o+k<=cs.length):∃p',fdP o p=some p'/\Ptr h p' ((cs.drop o).take k):=by
 obtain⟨id,o',vs,e,rw',rfl,h2,h3⟩:=hp
 refine⟨_,rfl,id,o'+o,vs,e,rw',rfl,h2,?_⟩
 have hc:=sF h3 hk
 rw[cut_len hc];exact hc
section
variable [Val] [Kno]
theorem bW{T:Nat->Site}{h:HL}{i:Nat}{o:HObj}(hi:h[i]? = some (.o o)):getH T h i=some o:=by
 unfold getH;rw[hi];rfl
theorem Ptr.ld{T:Nat->Site}{h:HL}{p:Value}{cs:List Value}(hp:Ptr h p cs){n:Nat}(hn:cs.length=n):(Pk.ld n p).run (getH T h)=some cs:=by
 obtain⟨id,o,vs,e,rw',rfl,h2,h3⟩:=hp
 subst hn
 show(match (none:Option Nat)with|none=>(fP (getH T h) id).bind λvs=>cut vs o cs.length|some _=>none)=_
 unfold fP
 rw[bW h2]
 exact h3
theorem Ptr.lg{C:Cfg}{T:Nat->Site}{h:HL}{p:Value}{cs:List Value}(hp:Ptr h p cs){n:Nat}(hn:cs.length=n):(Pk.lg C n p).run (getH T h)=some cs:=by
 obtain⟨id,o,vs,e,rw',rfl,h2,h3⟩:=hp
 subst hn
 show(fP (getH T h) id).bind (λvs=>cut vs o cs.length)=_
 unfold fP
 rw[bW h2]
 exact h3
theorem sj{C:Cfg}{T:Nat->Site}{h:HL}{v:Value}{e n:Nat}{cs:List Value}(hs:SlC h v e n cs):slG C e (getH T h) v=some (cs,n):=by
 obtain⟨h0,⟨rfl,rfl⟩|⟨id,off,cx,vs,rw',rfl,h2,h3⟩⟩:=hs
 ·simp only[qa1,qbn]at h0
  subst h0;rfl
 ·unfold slG
  have:¬(tag e=some 1):=by simp[tag]
  simp only[if_neg this,if_true]
  rw[bW h2]
  simp only[if_true]
  rw[h3];rfl
variable {C:Cfg} {Sg:FuncId->Option Sig} {T:Nat->Site}
theorem ap_mk{n0:Nat}{h0 h:HL}{v x:Value}{e n k bytes:Nat}{cs new:List Value}(hp:Pre h0 h)(h0n:h0.length=n0)(hm:Mk n0 h v e n cs)(hx:SlC h x e k new)(hs:cj (n+k) bytes=true) :
  ∃acts v',(Hp.ap C e bytes v x).run (getH T h) h.length=some (acts,[v'])/\Pre h0 (bT h acts)/\Mk n0 (bT h acts) v' e (n+k) (cs++new)/\
   (∀(j:Nat) o,h[j]? = some o->blk v≠some j->(bT h acts)[j]? = some o)/\(blk v'=blk v∨blk v'=none∨∃j,blk v'=some j/\h.length<=j):=by
 obtain⟨c0,hm⟩:=hm
 have c1:=hx.1
 have c3:(cs++new).length=(n+k)*e:=by rw[qaO,c0,c1,qbu]
 have hslg:=sj (C:=C) (T:=T) hx
 rcases hm with⟨rfl,rfl⟩|⟨id,hid,rfl,hg⟩
 ·simp only[qa1,qbn]at c0
  subst c0
  by_cases hk:k=0
  ·subst hk
   simp only[qa1,qbn]at c1
   subst c1
   refine⟨[],.slice none 0 0,?_,hp,Mk.nil _ _ _,λj o hj _=>hj,.inl rfl⟩
   show apG C e bytes (.slice none 0 0) x (getH T h) h.length=_
   unfold apG
   rw[hslg]
   rfl
  ·refine⟨[.push (.cells new e true)],.slice (some ⟨h.length,0,tag e⟩) k 0,?_,hp.app _,?_,λj o hj _=>?_,.inr (.inr ⟨h.length,rfl,qaA _⟩)⟩
   ·show apG C e bytes (.slice none 0 0) x (getH T h) h.length=_
    unfold apG
    rw[hslg]
    simp only[if_neg hk]
    rw[qax]at hs
    rw[if_pos hs]
   ·rw[qax,qam]
    refine⟨by simpa using c1,.inr ⟨h.length,by have:=hp.len;omega,rfl,?_⟩⟩
    simp[bT,Act1.onH]
   ·exact Pre.get ⟨_,rfl⟩ hj
 ·by_cases hk:k=0
  ·subst hk
   simp only[qa1,qbn]at c1
   subst c1
   refine⟨[],.slice (some ⟨id,0,tag e⟩) n 0,?_,hp,⟨c3,.inr ⟨id,hid,rfl,by simpa[bT]using hg⟩⟩,λj o hj _=>hj,.inl rfl⟩
   show apG C e bytes (.slice (some ⟨id,0,tag e⟩) n 0) x (getH T h) h.length=_
   unfold apG
   rw[hslg]
   simp only[ne_eq,not_true_eq_false,if_false]
   rw[bW hg]
   simp only[ne_eq,not_true_eq_false,if_false]
   rw[cut_all c0]
   rfl
  ·have hlt:id<h.length:=by
    rcases qaz id h.length with h1|h1
    ·exact h1
    ·rw[qai h1]at hg;cases hg
   refine⟨[.set id .dead,.push (.cells (cs++new) e true)],.slice (some ⟨h.length,0,tag e⟩) (n+k) 0,?_,?_,?_,λj o hj hb=>?_,.inr (.inr ⟨h.length,rfl,qaA _⟩)⟩
   ·show apG C e bytes (.slice (some ⟨id,0,tag e⟩) n 0) x (getH T h) h.length=_
    unfold apG
    rw[hslg]
    simp only[ne_eq,not_true_eq_false,if_false]
    rw[bW hg]
    simp only[ne_eq,not_true_eq_false,if_false]
    rw[cut_all c0]
    simp only[if_neg hk,qc8]
    rw[if_pos hs]
   ·exact(hp.set (by omega) _).app _
   ·refine⟨c3,.inr ⟨h.length,by have:=hp.len;omega,rfl,?_⟩⟩
    simp[bT,Act1.onH]
   ·have hne:id≠j:=λhh=>hb (by subst hh;rfl)
    refine Pre.get (a:=h.set id (.o .dead)) ⟨_,rfl⟩ ?_
    rw[qaC hne];exact hj
theorem p_app1{α:Type}{h0 h:HL}{v:Value}{e bytes:Nat}{enc:α->List Value}{l:List α}{a:α}{K:List Value->HL->Prop}{new:List Value}{m:Nat}{sp:Option Nat}(hp:Pre h0 h)(hm:MkL h0.length h v e enc l)(hn:new=enc a)(hl:(enc a).length=e)(hmm:m=h.length)(hsp:sp=some (e+10))
  (hs:cj (l.length+1) bytes=true)
  (hk:∀v' h',Pre h0 h'->MkL h0.length h' v' e enc (l++[a])->bc v'=true->(∀(j:Nat) o,h[j]? = some o->blk v≠some j->h'[j]? = some o)->(blk v'=blk v∨∃j,blk v'=some j/\h.length<=j)->K [v'] h') :
  (PH C Sg T).heap (.ap C e bytes v (.slice (some ⟨m,0,sp⟩) 1 2)) (h++[.o (.cells new e true)]) (@hid _ ⟨K⟩):=by
 subst hn hmm hsp
 have hx:SlC (h++[HO.o (.cells (enc a) e true)]) (.slice (some ⟨h.length,0,tag e⟩) 1 2) e 1 (enc a):=by
  refine⟨by omega,.inr ⟨h.length,0,2,enc a,true,rfl,by simp,cut_all (by omega)⟩⟩
 have hm':Mk h0.length (h++[HO.o (.cells (enc a) e true)]) v e l.length (l.flatMap enc):=hm.2.pre ⟨_,rfl⟩
 obtain⟨acts,v',a1,a2,a3,a4,a5⟩:=ap_mk (C:=C) (T:=T) (hp.app [HO.o (.cells (enc a) e true)]) rfl hm' hx hs
 refine dl a1 (hk v' _ a2 ⟨?_,?_⟩ ?_ ?_ ?_)
 ·intro b hb
  rcases qaP.1 hb with hb|hb
  ·exact hm.1 b hb
  ·simp only[qaD]at hb;subst hb;exact hl
 ·rw[List.flatMap_append,qaO]
  simpa using a3
 ·obtain⟨_,⟨rfl,_⟩|⟨id,_,rfl,_⟩⟩:=a3
  ·rfl
  ·simp[bc,noLoc,aZ,bw,bh,aQ,aD,tag]
 ·intro j o hj hb
  exact a4 j o (Pre.get ⟨_,rfl⟩ hj) hb
 ·rcases a5 with h1|h1|⟨j,h1,h2⟩
  ·exact .inl h1
  ·obtain⟨q1,⟨_,q2⟩|⟨id,_,rfl,_⟩⟩:=a3
   ·omega
   ·cases h1
  ·exact .inr ⟨j,h1,by simp at h2;omega⟩
end
end Sx
end Go.Am

/-
 RULES FOR LOOPS AND SLICES.
-/
set_option maxRecDepth 100000
namespace Go.Am
namespace Sx
theorem Ptr.good{h:HL}{p:Value}{cs:List Value}(hp:Ptr h p cs):bc p=true:=by
 obtain⟨id,o,vs,e,rw',rfl,_⟩:=hp
 simp[bc,noLoc,aZ,bw,bh,aQ,aD]
theorem SlC.good{h:HL}{v:Value}{e n:Nat}{cs:List Value}(hs:SlC h v e n cs):bc v=true:=by
 obtain⟨_,⟨rfl,_⟩|⟨id,off,cx,vs,rw',rfl,_⟩⟩:=hs
 ·rfl
 ·simp[bc,noLoc,aZ,bw,bh,aQ,aD,tag]
theorem LsH.good{α:Type}{h:HL}{v:Value}{e:Nat}{enc:α->List Value}{l:List α}(hs:LsH h v e enc l):bc v=true:=hs.2.good
section
variable [Val] [Kno] {C:Cfg} {Sg:FuncId->Option Sig} {T:Nat->Site}
theorem hidL{F:(List Lf->HL->Prop)->List Lf->HL->Prop}{s:List Lf->HL->Prop}{l:List Lf}{h:HL}(hf:F s l h):@hid _ ⟨F⟩ s l h:=hf
theorem de{σ:Type}{F:(List Lf->HL->Prop)->List Lf->HL->Prop}(n:Nat)(S:Nat->σ->List Lf)(HP:Nat->σ->HL)(Inv:Nat->σ->Prop){j0:Nat}{s0:σ}{ls:List Lf}{h:HL}(hls:ls=S j0 s0)(hh:h=HP j0 s0)(hj:j0<=n)(hi:Inv j0 s0)
  (step:∀j s,j<=n->Inv j s->∀self:List Lf->HL->Prop,(∀s',j<n->Inv (j+1) s'->self (S (j+1) s') (HP (j+1) s'))->F self (S j s) (HP j s)):(PH C Sg T).loop (@hid _ ⟨F⟩) ls h:=by
 subst hls hh
 refine nY (m:=n - j0) (λm ls h=>∃j s,ls=S j s/\h=HP j s/\j<=n/\m=n - j/\Inv j s) ⟨j0,s0,rfl,rfl,hj,rfl,hi⟩ ?_
 rintro m ls h ⟨j,s,rfl,rfl,hj,rfl,hi⟩ self hself
 exact hidL (step j s hj hi self λs' hlt hi'=>hself (n - (j+1)) _ _ (by omega) ⟨j+1,s',rfl,rfl,by omega,rfl,hi'⟩)
theorem sW{F:(List Lf->HL->Prop)->List Lf->HL->Prop}(n:Nat)(Inv:Nat->Prop){j0:Nat}{h:HL}{ls:List Lf}(hls:ls=[.i (Int.ofNat j0)])(hj:j0<=n)(hi:Inv j0)
  (step:∀j,j<=n->Inv j->∀self:List Lf->HL->Prop,(j<n->Inv (j+1)->self [.i (Int.ofNat j+1)] h)->F self [.i (Int.ofNat j)] h):(PH C Sg T).loop (@hid _ ⟨F⟩) ls h:=
 de (σ:=Unit) n (λj _=>[.i (Int.ofNat j)]) (λ_ _=>h) (λj _=>Inv j) (s0:=()) hls rfl hj hi λj _ hj hi self hs=>step j hj hi self (λa b=>hs () a b)
theorem eC{α:Type}{h:HL}{v:Value}{e:Nat}{enc:α->List Value}{l:List α}{K:Int->Prop}(hs:LsH h v e enc l)(hk:K (Int.ofNat l.length)):(PH C Sg T).opt (lenS v) (@hid _ ⟨K⟩):=aE hs.len hk
theorem dg{α:Type}{h:HL}{v:Value}{e:Nat}{enc:α->List Value}{l:List α}{i:Nat}{a:α}{n:Int}{K:List Value->Prop}(hs:LsH h v e enc l)(hn:n=Int.ofNat i)(hi:l[i]? = some a)(hk:K (enc a)) :
  (PH C Sg T).opt (idS e v n) (@hid _ ⟨λx=>(PH C Sg T).peek (.lg C e x) h (@hid _ ⟨K⟩)⟩):=by
 subst hn
 obtain⟨p,h1,h2⟩:=hs.at hi
 exact aE h1 (iT (h2.lg (hs.1 a (qag hi))) hk)
theorem nn{α:Type}{h:HL}{v:Value}{e:Nat}{enc:α->List Value}{l:List α}{i:Nat}{a:α}{n:Int}{o k:Nat}{cs:List Value}{K:List Value->Prop}(hs:LsH h v e enc l)(hn:n=Int.ofNat i)(hi:l[i]? = some a)(hcs:cs=((enc a).drop o).take k)(hok:o+k<=e)(hk:K cs) :
  (PH C Sg T).opt (idS e v n) (@hid _ ⟨λx=>(PH C Sg T).opt (fdP o x) (@hid _ ⟨λy=>(PH C Sg T).chk y (@hid _ ⟨(PH C Sg T).peek (.lg C k y) h (@hid _ ⟨K⟩)⟩)⟩)⟩):=by
 subst hn hcs
 obtain⟨p,h1,h2⟩:=hs.at hi
 have he:=hs.1 a (qag hi)
 have hok:o+k<=(enc a).length:=by omega
 have hlen:(((enc a).drop o).take k).length=k:=by rw[qaY,qbY];omega
 obtain⟨q,h3,h4⟩:=h2.fd o k hok
 refine aE h1 (aE h3 ?_)
 show bc q=true/\_
 exact⟨h4.good,iT (h4.lg hlen) hk⟩
end
end Sx
end Go.Am

/-
 CALLS THAT MAKE BLOCKS: what a run over some blocks alone answers and makes,holds whatever else there is: the new blocks come behind.
-/
namespace Go.Am
namespace Sx
section
variable [Val]
def vN:HObj->HObj
 | .cells vs e true=>if vs.all flat then .cells vs e true else .dead
 |_=>.dead
theorem sR{o:HObj}(h:(vN o).alive=true):∃vs e,o = .cells vs e true/\vs.all flat=true/\vN o = .cells vs e true:=by
 match o,h with
 | .cells vs e true,h=>
  unfold vN at h
  by_cases hf:vs.all flat=true
  ·exact⟨vs,e,rfl,hf,by show(if vs.all flat=true then HObj.cells vs e true else .dead)=_;rw[if_pos hf]⟩
  ·simp only[if_neg hf]at h;cases h
 | .cells _ _ false,h=>cases h
 | .map ..,h=>cases h
 | .loop ..,h=>cases h
 | .siter ..,h=>cases h
 | .dead,h=>cases h
def gT(n0 n:Nat)(σ:Nat->Nat):Nat->Nat:=λj=>if j<n0 then σ j else n+(j - n0)
theorem vr_ren' [Glo]{n:Nat}{τ:Nat->Nat}{mu' mu'':HMap}(hmu:∀j,j<n->mu'' (τ j)=mu' j){v c:Value}(hv:OkV n v)(h:VR noL mu' v c):VR noL mu'' (renV τ v) c:=by
 rcases hv with⟨h1,h2⟩|⟨j,off,len,cx,e,hj,rfl⟩
 ·rw[h2,co h1 h]
  exact .of_flat h1
 ·show VR noL mu'' (.slice (some ⟨τ j,off,tag e⟩) len cx) c
  generalize ht:tag e=t at h ⊢
  cases h with
  |hslice q1 q2 q3 q4=>exact .hslice ((hmu j hj).trans q1) q2 q3 q4
  |hslice0 q1=>exact .hslice0 q1
  |gslice _=>simp[tag]at ht
  |gslice0=>simp[tag]at ht
  |scalar q=>simp[scalar]at q
theorem vr_sl' [Glo]{n:Nat}{τ:Nat->Nat}{mu' mu'':HMap}(hmu:∀j,j<n->mu'' (τ j)=mu' j){l:SL}{c:Value}(hl:OkL n l.lf)(h:VR noL mu' l.val c):VR noL mu'' (kL τ l).val c:=by
 cases l with
 |v x=>exact vr_ren' hmu hl h
 |i k m=>
  have hf:flat (Value.int k m)=true:=rfl
  have h:VR noL mu' (.int k m) c:=h
  rw[co hf h];exact .of_flat hf
 |b t=>
  have hf:flat (Value.bool t)=true:=rfl
  have h:VR noL mu' (.bool t) c:=h
  rw[co hf h];exact .of_flat hf
 |l t=>
  have hf:flat (Value.bool t)=true:=rfl
  have h:VR noL mu' (.bool t) c:=h
  rw[co hf h];exact .of_flat hf
theorem vr_s0' [Glo]{n:Nat}{τ:Nat->Nat}{mu' mu'':HMap}(hmu:∀j,j<n->mu'' (τ j)=mu' j){x:S0}{c:Value}(hx:∀l∈x.cells,OkL n l.lf)(h:VR noL mu' x.val c):VR noL mu'' (renS τ x).val c:=by
 cases x with
 |leaf l=>exact vr_sl' hmu (hx l (by simp[S0.cells])) h
 |agg cs=>
  have h:VR noL mu' (.agg ⟨cs.map SL.val⟩) c:=h
  generalize ha:(⟨cs.map SL.val⟩ : Array Value)=a at h
  cases h with
  |scalar q=>simp[scalar]at q
  |agg hs h=>
   subst ha
   refine .agg (by simpa using hs) λi x y hx' hy=>?_
   have hi:((cs.map (kL τ)).map SL.val)[i]? = some x:=by simpa using hx'
   rw[qaw,qaw]at hi
   cases e:cs[i]? with
   |none=>rw[e]at hi;cases hi
   |some l=>
    rw[e]at hi
    cases hi
    exact vr_sl' hmu (hx l (qag e)) (h i _ y (by simp[e]) hy)
theorem vr_pack' [Glo]{n:Nat}{τ:Nat->Nat}{mu' mu'':HMap}(hmu:∀j,j<n->mu'' (τ j)=mu' j){xs:List S0}{c:Value}(hx:∀x∈xs,∀l∈x.cells,OkL n l.lf)(h:VR noL mu' (en (ai xs)) c):VR noL mu'' (en (ai (xs.map (renS τ)))) c:=by
 match xs,hx,h with
 | [],_,h=>
  have h:VR noL mu' undef c:=h
  have hf:flat undef=true:=rfl
  rw[co hf h]
  exact .of_flat hf
 | [x],hx,h=>exact vr_s0' hmu (hx x qaK) h
 |x :: y :: l,hx,h=>
  have h:VR noL mu' (.tuple ⟨ai (x :: y :: l)⟩) c:=h
  show VR noL mu'' (.tuple ⟨ai ((x :: y :: l).map (renS τ))⟩) c
  generalize ha:(⟨ai (x :: y :: l)⟩ : Array Value)=a at h
  have hsz:a.size=l.length+2:=by subst ha;simp[ai]
  cases h with
  |scalar q=>simp[scalar]at q
  |poison _=>exact absurd hsz (by simp)
  |sym _=>exact absurd hsz (by simp)
  |tuple hn hs h=>
   subst ha
   refine .tuple (by simp[ai]) (by simpa[ai]using hs) λi x' y' hx' hy=>?_
   have hi:(ai ((x :: y :: l).map (renS τ)))[i]? = some x':=by simpa using hx'
   unfold ai at hi
   rw[qaw,qaw]at hi
   cases e:(x :: y :: l)[i]? with
   |none=>rw[e]at hi;cases hi
   |some s=>
    rw[e]at hi
    cases hi
    exact vr_s0' hmu (hx s (qag e)) (h i _ y' (by
     show(⟨(x :: y :: l).map S0.val⟩ : Array Value)[i]? = _
     rw[List.getElem?_toArray,qaw,e];rfl) hy)
theorem objR_some [Glo]{mu:HMap}{p:Pl}{x:Option Obj}{o:HObj}(ha:o.alive=true)(h:objR mu p x o):∃y,x=some y:=by
 cases o with
 |cells vs e rw=>obtain⟨_,_,_,c,e,fr,h,_⟩:=h;exact⟨_,h⟩
 |map es c=>obtain⟨es',h,_⟩:=h;exact⟨_,h⟩
 |loop r=>obtain⟨L,h,_⟩:=h;exact⟨_,h⟩
 |siter s p=>exact⟨_,h⟩
 |dead=>cases ha
end
section
variable [Val]
theorem frame_alI(kp:Nat->HObj->HObj)(hkp:∀k o,(kp k o).alive=true->∃vs e,o = .cells vs e true/\vs.all flat=true/\kp k o = .cells vs e true){C:Cfg}(hG:∀g vs,C.G g=some vs->vs.all gfl=true){f:FuncId}{args0 args:List Value}{r0 r:Value}{H0 H' H:List HObj}(σ:Nat->Nat)(h:cY C f args0 H0 r0 H')
  (h0:∀(j:Nat) (o:HObj),H0[j]? = some o->∃vs e rw,o = .cells vs e false/\vs.all flat=true/\H[σ j]? = some (.cells vs e rw))
  (ha:∀ [Glo] (mu mu0:HMap) (cs:List Value),(∀j,j<H0.length->mu0 j=mu (σ j))->VRs noL mu args cs->VRs noL mu0 args0 cs)
  (hr:∀ [Glo] (mu' mu'':HMap) (c:Value),(∀j,j<H'.length->mu'' (gT H0.length H.length σ j)=mu' j)->VR noL mu' r0 c->VR noL mu'' r c):cY C f args H r (H++(H'.drop H0.length).mapIdx kp):=by
 intro _ base mu w args' hb hargs hW cs
 let mu0:HMap:=λj=>if j<H0.length then mu (σ j)else none
 have hno:∀b,¬Own mu0 H0 b:=by
  rintro b ⟨id,o,p,h1,h2,_⟩
  obtain⟨vs,e,rw',rfl,_⟩:=h0 id o h1
  cases h2
 have hmu:∀(id:Nat) (o:HObj),H0[id]? = some o->mu0 id=mu (σ id):=by
  intro id o h1
  have:id<H0.length:=by
   rcases qaz id H0.length with h|h
   ·exact h
   ·rw[qai h]at h1;cases h1
  simp only[mu0,if_pos this]
 have hobj:∀(id:Nat) (o:HObj),H0[id]? = some o->∃p,mu0 id=some p/\objR mu0 p w.heap[p.b]? o:=by
  intro id o h1
  obtain⟨vs,e,rw',rfl,hf,hH⟩:=h0 id o h1
  obtain⟨p,h3,h4⟩:=hW.obj (σ id) _ hH rfl
  obtain⟨g1,g2,g3,c,e',fr,g4,g5,g6,g7⟩:=h4
  refine⟨p,by rw[hmu id _ h1];exact h3,g1,g2,g3,c,e',fr,g4,g5,λe=>by(cases e),λi v hv=>?_⟩
  obtain⟨v',q1,q2⟩:=g7 i v hv
  have h2:flat v=true:=qab.1 hf v (qag hv)
  refine⟨v',q1,?_⟩
  rw[co h2 q2]
  exact .of_flat h2
 have hin:∀(p:Pl) (o:HObj) (m:HMap),o.alive=true->objR m p w.heap[p.b]? o->p.b<w.heap.size:=by
  intro p o m ha h
  obtain⟨y,hy⟩:=objR_some ha h
  rcases qaz p.b w.heap.size with h|h
  ·exact h
  ·rw[qa5 h]at hy;cases hy
 have hW0:WR C w.heap.size mu0 H0 w:=by
  refine⟨λid o h1 _=>hobj id o h1,λi j oi oj pi pj h1 h2 h3=>?_,λi o p h1 h2=>?_,λi o p h1 ha' _ h2=>?_,λid h1=>?_,λg vs hg=>?_⟩
  ·obtain⟨vs,e,rw',rfl,_⟩:=h0 i oi h1
   cases h3
  ·obtain⟨vs,e,rw',rfl,_⟩:=h0 i o h1
   cases h2
  ·obtain⟨p',h3,h4⟩:=hobj i o h1
   rw[h2]at h3
   cases h3
   exact hin _ _ _ ha' h4
  ·simp only[mu0,if_neg (qdw.2 h1)]
  ·obtain⟨h1,h2,c,e,fr,h3,h4⟩:=hW.glob g vs hg
   exact⟨by omega,h2,c,e,fr,h3,iI (hG g vs hg) h4⟩
 have hargs0:VRs noL mu0 args0 args'.toList:=ha mu mu0 _ (λj hj=>by simp only[mu0,if_pos hj]) hargs
 obtain⟨v,mu',w',a1,a2,a3,a4,a5⟩:=h _ w.heap.size mu0 w args' (qaA _) hargs0 hW0 cs
 have hkeep:∀(b:Nat) x,w.heap[b]? = some x->w'.heap[b]? = some x:=by
  intro b x hx
  have hlt:b<w.heap.size:=by
   rcases qaz b w.heap.size with h|h
   ·exact h
   ·rw[qa5 h]at hx;cases hx
  rw[a3.keep b hlt (hno b)];exact hx
 let mu2:HMap:=λid=>if id<H.length then mu id else mu' (H0.length+(id - H.length))
 have hold:∀id,id<H.length->mu2 id=mu id:=λid hi=>by simp only[mu2,if_pos hi]
 have hnew:∀k,mu2 (H.length+k)=mu' (H0.length+k):=λk=>by
  simp only[mu2,if_neg (qdw.2 (Nat.le_add_right H.length k)),qb2]
 have hlen:=a3.len
 have hmono:∀i p,mu i=some p->mu2 i=some p:=by
  intro i p hp
  rw[hold i];exact hp
  rcases qaz i H.length with h|h
  ·exact h
  ·rw[hW.dom i h]at hp;cases hp
 have hbeh:∀(id:Nat) (o:HObj),(H++(H'.drop H0.length).mapIdx kp)[id]? = some o->¬id<H.length->o.alive=true->
   ∃k vs e,id=H.length+k/\H'[H0.length+k]? = some (.cells vs e true)/\vs.all flat=true/\o = .cells vs e true:=by
  intro id o ho hid hal
  rw[qak (by omega),List.getElem?_mapIdx,qbd]at ho
  obtain⟨o',h1,rfl⟩:=qad.1 ho
  obtain⟨vs,e,rfl,hf,e2⟩:=hkp _ _ hal
  exact⟨id - H.length,vs,e,by omega,h1,hf,e2⟩
 refine⟨v,mu2,w',?_,?_,?_,a4,a5⟩
 ·refine hr mu' mu2 v (λj hj=>?_) a1
  unfold gT
  by_cases hj0:j<H0.length
  ·rw[if_pos hj0]
   obtain⟨vs,e,rw',_,_,hH⟩:=h0 j _ (qaE hj0)
   have:σ j<H.length:=by
    rcases qaz (σ j) H.length with h|h
    ·exact h
    ·rw[qai h]at hH;cases hH
   rw[hold _ this,a3.same j hj0]
   simp only[mu0,if_pos hj0]
  ·rw[if_neg hj0,hnew,show H0.length+(j - H0.length)=j by omega]
 ·refine⟨λid o h1 h2=>?_,λi j oi oj pi pj h1 h2 h3 h4 h5 h6 h7=>?_,λi o p h1 h2 h3=>?_,λi o p h1 h2 h3 h4=>?_,λid h1=>?_,λg vs hg=>?_⟩
  ·by_cases hid:id<H.length
   ·rw[qae hid]at h1
    obtain⟨p,h3,h4⟩:=hW.obj id o h1 h2
    exact⟨p,hmono _ _ h3,(mw (hkeep p.b) h4).mono hmono⟩
   ·obtain⟨k,vs,e,rfl,h3,hf,rfl⟩:=hbeh id o h1 hid h2
    obtain⟨p,h4,g1,g2,g3,c,e',fr,g4,g5,g6,g7⟩:=a2.obj _ _ h3 rfl
    refine⟨p,by rw[hnew];exact h4,g1,g2,g3,c,e',fr,g4,g5,g6,λi v hv=>?_⟩
    obtain⟨v',q1,q2⟩:=g7 i v hv
    have hfv:flat v=true:=qab.1 hf v (qag hv)
    refine⟨v',q1,?_⟩
    rw[co hfv q2]
    exact .of_flat hfv
  ·by_cases hi:i<H.length
   ·rw[qae hi]at h1
    rw[hold i hi]at h6
    by_cases hj:j<H.length
    ·rw[qae hj]at h2
     rw[hold j hj]at h7
     exact hW.inj i j oi oj pi pj h1 h2 h3 h4 h5 h6 h7
    ·obtain⟨k,vs,e,rfl,q1,hf,rfl⟩:=hbeh j oj h2 hj h4
     rw[hnew]at h7
     have hb2:=a2.own _ _ _ q1 rfl h7
     obtain⟨p,h8,h9⟩:=hW.obj i oi h1 (aK h3)
     rw[h6]at h8;cases h8
     have:=hin _ _ _ (aK h3) h9
     omega
   ·obtain⟨k,vs,e,rfl,q1,hf,rfl⟩:=hbeh i oi h1 hi (aK h3)
    rw[hnew]at h6
    have hb2:=a2.own _ _ _ q1 rfl h6
    by_cases hj:j<H.length
    ·rw[qae hj]at h2
     rw[hold j hj]at h7
     obtain⟨p,h8,h9⟩:=hW.obj j oj h2 h4
     rw[h7]at h8;cases h8
     have:=hin _ _ _ h4 h9
     omega
    ·obtain⟨k2,vs2,e2,rfl,q2,hf2,rfl⟩:=hbeh j oj h2 hj h4
     rw[hnew]at h7
     exact a2.inj _ _ _ _ _ _ q1 q2 rfl rfl (by omega) h6 h7
  ·by_cases hi:i<H.length
   ·rw[qae hi]at h1
    rw[hold i hi]at h3
    exact hW.own i o p h1 h2 h3
   ·obtain⟨k,vs,e,rfl,q1,hf,rfl⟩:=hbeh i o h1 hi (aK h2)
    rw[hnew]at h3
    have:=a2.own _ _ _ q1 rfl h3
    omega
  ·by_cases hi:i<H.length
   ·rw[qae hi]at h1
    rw[hold i hi]at h4
    exact hW.ro i o p h1 h2 h3 h4
   ·obtain⟨k,vs,e,rfl,q1,hf,rfl⟩:=hbeh i o h1 hi h2
    cases h3
  ·rw[qaO,List.length_mapIdx,qbY]at h1
   have:¬id<H.length:=by omega
   simp only[mu2,if_neg this]
   exact a2.dom _ (by omega)
  ·obtain⟨h1,h2,c,e,fr,h3,h4⟩:=hW.glob g vs hg
   exact⟨h1,h2,c,e,fr,hkeep _ _ h3,iI (hG g vs hg) h4⟩
 ·refine⟨by simp,λid hid=>hold id hid,a3.size,λb hb _=>a3.keep b hb (hno b),λb hb=>?_,a3.os,a3.tape,a3.output⟩
  obtain⟨id,o,p,q1,q2,q3,rfl⟩:=hb
  by_cases hid:id<H.length
  ·rw[qae hid]at q1
   rw[hold id hid]at q3
   exact .inr ⟨id,o,p,q1,q2,q3,rfl⟩
  ·obtain⟨k,vs,e,rfl,q4,hf,rfl⟩:=hbeh id o q1 hid (aK q2)
   rw[hnew]at q3
   exact .inl (a2.own _ _ _ q4 rfl q3)
theorem call_alI(kp:Nat->HObj->HObj)(hkp:∀k o,(kp k o).alive=true->∃vs e,o = .cells vs e true/\vs.all flat=true/\kp k o = .cells vs e true){C:Cfg}{N:FuncId->Option Nat}{Sg:FuncId->Option Sig}(hm:C.P.follows .mixedOrders=true)(hG:∀g vs,C.G g=some vs->vs.all gfl=true){g:FuncId}(hn:N g=none){ls0 rs:List Lf}{H0 H' H:List HObj}(σ:Nat->Nat)
  (h:let _:Kno:=KnoC C N;aW C Sg g ls0 H0 rs H')
  (h0:∀(j:Nat) (o:HObj),H0[j]? = some o->∃vs e rw,o = .cells vs e false/\vs.all flat=true/\H[σ j]? = some (.cells vs e rw))
  (hl:∀l∈ls0,OkL H0.length l) (hrl:∀l∈rs,OkL H'.length l):let _:Kno:=KnoC C N;aW C Sg g (ls0.map (renL σ)) H (rs.map (renL (gT H0.length H.length σ))) (H++(H'.drop H0.length).mapIdx kp):=by
 let _:Kno:=KnoC C N
 obtain⟨sg,xs,ys,c1,c2,c3,c4⟩:=h
 have hx:∀x∈xs,∀l∈x.cells,OkL H0.length l.lf:=λx hx l hl'=>hl _ (by rw[←c2.2.1];exact mh hx hl')
 have hy:∀x∈ys,∀l∈x.cells,OkL H'.length l.lf:=λx hx l hl'=>hrl _ (by rw[←c3.2.1];exact mh hx hl')
 have gd:∀(τ:Nat->Nat) (zs:List S0),(∀x∈zs,x.good)->∀x∈zs.map (renS τ),x.good:=by
  intro τ zs hz x hx'
  obtain⟨y,hy,rfl⟩:=qaI.1 hx'
  intro l hl'
  rw[lL]at hl'
  obtain⟨l',hl'',rfl⟩:=qaI.1 hl'
  exact uo (hz y hy l' hl'')
 refine⟨sg,xs.map (renS σ),ys.map (renS (gT H0.length H.length σ)),c1,⟨by rw[iz];exact c2.1,by rw[iO,c2.2.1],gd _ _ c2.2.2⟩,⟨by rw[iz];exact c3.1,by rw[iO,c3.2.1],gd _ _ c3.2.2⟩,⟨0,?_⟩⟩
 exact .inr ⟨.inl hn,frame_alI kp hkp hG σ (gw hm c4) h0 (λmu mu0 cs hmu h=>vrs_ren hmu hx h) λmu' mu'' c hmu h=>vr_pack' hmu hy h⟩
theorem vU{α β:Type}(f:α->β)(l:List α):l.mapIdx (λ_=>f)=l.map f:=by
 apply qbc
 intro i
 rw[List.getElem?_mapIdx,qaw]
theorem tW(kp:HObj->HObj)(hkp:∀o,(kp o).alive=true->∃vs e,o = .cells vs e true/\vs.all flat=true/\kp o = .cells vs e true){C:Cfg}{N:FuncId->Option Nat}{Sg:FuncId->Option Sig}(hm:C.P.follows .mixedOrders=true)(hG:∀g vs,C.G g=some vs->vs.all gfl=true){g:FuncId}(hn:N g=none){ls0 rs:List Lf}{H0 H' H:List HObj}(σ:Nat->Nat)
  (h:let _:Kno:=KnoC C N;aW C Sg g ls0 H0 rs H')
  (h0:∀(j:Nat) (o:HObj),H0[j]? = some o->∃vs e rw,o = .cells vs e false/\vs.all flat=true/\H[σ j]? = some (.cells vs e rw))
  (hl:∀l∈ls0,OkL H0.length l) (hrl:∀l∈rs,OkL H'.length l):let _:Kno:=KnoC C N;aW C Sg g (ls0.map (renL σ)) H (rs.map (renL (gT H0.length H.length σ))) (H++(H'.drop H0.length).map kp):=by
 have:=call_alI (λ_=>kp) (λ_=>hkp) hm hG hn σ h h0 hl hrl
 rwa [vU]at this
theorem call_al{C:Cfg}{N:FuncId->Option Nat}{Sg:FuncId->Option Sig}(hm:C.P.follows .mixedOrders=true)(hG:∀g vs,C.G g=some vs->vs.all gfl=true){g:FuncId}(hn:N g=none){ls0 rs:List Lf}{H0 H' H:List HObj}(σ:Nat->Nat)
  (h:let _:Kno:=KnoC C N;aW C Sg g ls0 H0 rs H')
  (h0:∀(j:Nat) (o:HObj),H0[j]? = some o->∃vs e rw,o = .cells vs e false/\vs.all flat=true/\H[σ j]? = some (.cells vs e rw))
  (hl:∀l∈ls0,OkL H0.length l) (hrl:∀l∈rs,OkL H'.length l):let _:Kno:=KnoC C N;aW C Sg g (ls0.map (renL σ)) H (rs.map (renL (gT H0.length H.length σ))) (H++(H'.drop H0.length).map vN):=
 tW vN (λ_ h=>sR h) hm hG hn σ h h0 hl hrl
end
end Sx
end Go.Am

/-
 WHAT RUNS OVER AN EMPTY HEAP TELL: answers,and lists that are made.
-/
set_option maxRecDepth 100000
namespace Go.Am
open Sx Go.Proofs
theorem known_val{g n:Nat}{ls rs:List Lf}{sg:Sig}(hs:ab g=some sg)(hp:sg.plain=true)(hg:gf ls=true)(h:runF n (.f g) ls .empty tell=some rs):∀H,aW cc ab g ls H rs H:=by
 obtain⟨rs',h',a1,a2⟩:=(qm n).f g ls .empty tell rs (du hg) h
 rw[tN]at a2
 cases a2
 exact uZ g sg ls _ _ hs hp a1
def isAns(rs':List Lf):Option (List Lf)->Bool:=λo=>@Option.rec _ (λ_=>Bool) false (λrs=>eqLs rs rs') o
theorem iN{g n:Nat}{ls rs:List Lf}{sg:Sig}(hs:ab g=some sg)(hp:sg.plain=true)(hg:gf ls=true)(h:isAns rs (runF n (.f g) ls .empty tell)=true):∀H,aW cc ab g ls H rs H:=by
 cases e:runF n (.f g) ls .empty tell with
 |none=>rw[e]at h;cases h
 |some rs'=>
  rw[e]at h
  have h:eqLs rs' rs=true:=h
  rw[jy h]at e
  exact known_val hs hp hg e
def eqCell(a b:Value):Bool:=match a,b with
 | .int k n,.int k' n'=>dB k k'&&eqZK n n'
 | .bool t,.bool t'=>eqBK t t'
 |_,_=>false
theorem eqCell_ok{a b:Value}(h:eqCell a b=true):a=b/\flat b=true:=by
 unfold eqCell at h
 split at h
 ·simp only[qaa]at h
  have h2:=h.2
  rw[pA,beq_iff_eq]at h2
  rw[cz h.1,h2]
  exact⟨rfl,rfl⟩
 ·rename_i a b
  cases a<;>cases b<;>first|exact⟨rfl,rfl⟩|cases h
 ·cases h
def py(c:Tr Value):List Value->Nat->Bool
 | [],_=>true
 |v :: l,i=>eqCell ((bi i).get nilV c) v&&py c l (i+1)
theorem nK{c:Tr Value}:∀ {l:List Value} {i:Nat},py c l i=true->(∀j (h:j<l.length),(bi (i+j)).get nilV c=l[j])/\l.all flat=true
 | [],i,_=>⟨λj h=>by simp at h,rfl⟩
 |v :: l,i,h=>by
  simp only[py,qaa]at h
  obtain⟨h1,h2⟩:=eqCell_ok h.1
  obtain⟨h3,h4⟩:=nK h.2
  refine⟨λj hj=>?_,by simp[h2,h4]⟩
  cases j with
  |zero=>exact h1
  |succ j=>
   have:=h3 j (by simpa using hj)
   rw[show i+(j+1)=i+1+j by omega]
   simpa using this
def isSl(h:HTr)(x:Value)(e n:Nat)(cells:List Value):Bool:=match x with
 | .slice none 0 0=>Nat.beq n 0&&Nat.beq cells.length 0
 | .slice (some a) len _=>Nat.beq len n&&Nat.beq a.off 0&&Nat.beq cells.length (n*e)&&tagB a.spot e&&(match h.at a.block with
  |some (.t m e' true c)=>Nat.beq m (n*e)&&Nat.beq e' e&&py c cells 0
  |_=>false)
 |_=>false
theorem isSl_ok{h:HTr}{x:Value}{e n:Nat}{cells:List Value}(hx:isSl h x e n cells=true):cells.length=n*e/\cells.all flat=true/\((x = .slice none 0 0/\n=0)∨∃id cx,x = .slice (some ⟨id,0,tag e⟩) n cx/\id<h.n/\(toL h)[id]? = some (.o (.cells cells e true))):=by
 unfold isSl at hx
 split at hx
 ·simp only[qaa]at hx
  have h1:=qac hx.1
  have h2:=qac hx.2
  subst h1
  rw[qbn]at h2
  subst h2
  exact⟨by simp,rfl,.inl ⟨rfl,rfl⟩⟩
 ·rename_i a len cx
  simp only[qaa]at hx
  obtain⟨⟨⟨⟨h1,h2⟩,h3⟩,h4⟩,h5⟩:=hx
  have h1:=qac h1
  have h2:=qac h2
  have h3:=qac h3
  have h4:=jk.1 h4
  subst h1
  split at h5
  ·rename_i m e' c hat
   simp only[qaa]at h5
   obtain⟨⟨g1,g2⟩,g3⟩:=h5
   have g1:=qac g1
   have g2:=qac g2
   subst g1 g2
   obtain⟨g4,g5⟩:=nK g3
   have ha:a=⟨a.block,0,tag e'⟩:=by cases a;simp_all
   have hc:bq c (len*e')=cells:=by
    apply List.ext_getElem
    ·rw[aP,h3]
    ·intro i hi hi'
     have:=cZ c (i:=i) (n:=len*e') (by rw[aP]at hi;exact hi)
     rw[qaE hi]at this
     have:=qan this
     rw[this,←g4 i hi',qax]
   refine⟨h3,g5,.inr ⟨a.block,cx,by rw[ha],?_,?_⟩⟩
   ·unfold HTr.at at hat
    split at hat
    ·rename_i hb;rw[qaV]at hb;exact hb
    ·cases hat
   ·rw[iq,hat]
    show some (HO.o (.cells (bq c (len*e')) e' true))=_
    rw[hc]
  ·cases h5
 ·cases hx
theorem tU(T:Nat->Site)(h G:HL):absH T (h++G)=absH T h++absH T G:=by simp[absH]
theorem absH_o(T:Nat->Site)(l:List HObj):absH T (l.map HO.o)=l:=by
 induction l with
 |nil=>rfl
 |cons a l ih=>show absO T (.o a) :: absH T (l.map HO.o)=_;rw[ih];rfl
theorem made{g n:Nat}{ls rest:List Lf}{e m:Nat}{cells:List Value}(hg:gf ls=true)(hno:neuN g=none)(hl:ls.all (λl=>match l with | .v _=>false|_=>true)=true)(hr:rest.all (λl=>match l with | .v _=>false|_=>true)=true)
  (h:runF n (.f g) ls .empty (λrs h=>match rs with
   | .v x :: r=>ans (eqLs r rest&&isSl h x e m cells)
   |_=>none)=yes) (H:HL):∃x G,aW cc ab g ls (absH ac H) (.v x :: rest) (absH ac (H++G))/\SlC (H++G) x e m cells:=by
 obtain⟨rs,h',a1,a2⟩:=(qm n).f g ls .empty _ [] (du hg) h
 split at a2
 ·rename_i x r
  have a2:=ans_yes a2
  simp only[qaa]at a2
  obtain⟨a2,a3⟩:=a2
  have a2:=jy a2
  subst a2
  obtain⟨b1,b2,b3⟩:=isSl_ok a3
  have plainR:∀(l:List Lf) (σ:Nat->Nat),l.all (λl=>match l with | .v _=>false|_=>true)=true->l.map (renL σ)=l:=by
   intro l σ hl
   induction l with
   |nil=>rfl
   |cons a l ih=>
    simp only[qbI,qaa]at hl
    rw[qat,ih hl.2]
    cases a<;>first|rfl|(simp at hl)
  have plainOk:∀(l:List Lf) (n:Nat),l.all (λl=>match l with | .v _=>false|_=>true)=true->∀a∈l,OkL n a:=by
   intro l n hl a ha
   have:=qab.1 hl a ha
   cases a<;>first|trivial|cases this
  have e0:absH ac (toL HTr.empty)=[]:=rfl
  rw[e0]at a1
  have key:=call_al (N:=neuN) mixed jE hno (H:=absH ac H) id a1 (λj o hj=>by simp at hj) (plainOk ls _ hl) (λl hl'=>by
   rcases qaj.1 hl' with rfl|hl'
   ·rcases b3 with⟨rfl,_⟩|⟨id,cx,rfl,hid,_⟩
    ·exact .inl ⟨rfl,λ_=>rfl⟩
    ·exact .inr ⟨id,0,m,cx,e,by rw[cp,cN];exact hid,rfl⟩
   ·exact plainOk _ _ hr l hl')
  rw[plainR ls id hl,qat,plainR _ _ hr,qaU,qaG]at key
  refine⟨renV (gT 0 (absH ac H).length id) x,((absH ac (toL h')).map vN).map .o,?_,b1,?_⟩
  ·rw[tU,absH_o];exact key
  ·rcases b3 with⟨rfl,hm⟩|⟨id',cx,rfl,hid,hb⟩
   ·exact .inl ⟨rfl,hm⟩
   ·refine .inr ⟨_,0,cx,cells,true,rfl,?_,Sx.cut_all b1⟩
    unfold gT
    rw[if_neg (qcp _),qds,cp,qak (by omega),qb2,qaw,qaw]
    have:(absH ac (toL h'))[id']? = some (.cells cells e true):=by
     unfold absH
     rw[qaw,hb];rfl
    rw[this]
    show some (HO.o (if cells.all flat=true then HObj.cells cells e true else .dead))=_
    rw[if_pos b2]
 ·cases a2
end Go.Am

/-
 RULES FOR NUMBERS THAT COUNT.
-/
set_option maxRecDepth 100000
namespace Go.Am
namespace Sx
section
variable [Val] [Kno] {C:Cfg} {Sg:FuncId->Option Sig} {T:Nat->Site}
theorem ii{j:Nat}{K:Int->Prop}(h:j<=4294967296):(PH C Sg T).ari .add .i64 (Int.ofNat j) 1 (@hid _ ⟨K⟩)=K (Int.ofNat j+1):=
 p_add (by show -9223372036854775808<=(j:Int)+1;omega) (by show(j:Int)+1<=9223372036854775807;omega)
theorem n_sub{j:Nat}{K:Int->Prop}(h1:1<=j)(h:j<=4294967296):(PH C Sg T).ari .sub .i64 (Int.ofNat j) 1 (@hid _ ⟨K⟩)=K (Int.ofNat (j - 1)):=by
 rw[p_sub (by show -9223372036854775808<=(j:Int) - 1;omega) (by show(j:Int) - 1<=9223372036854775807;omega)]
 congr 1
 show(j:Int) - 1=((j - 1:Nat):Int)
 omega
theorem cS{j n:Nat}{K:Bool->Prop}(h:j<n):(PH C Sg T).cmp .lss (Int.ofNat j) (Int.ofNat n) (@hid _ ⟨K⟩)=K true:=p_lss_t (by show(j:Int)<n;omega)
theorem dC{j n:Nat}{K:Bool->Prop}(h:n<=j):(PH C Sg T).cmp .lss (Int.ofNat j) (Int.ofNat n) (@hid _ ⟨K⟩)=K false:=p_lss_f (by show(n:Int)<=j;omega)
end
theorem bJ{α:Type}{l:List α}{i:Nat}{a:α}(h:l[i]? = some a):i<l.length:=by
 rcases qaz i l.length with h1|h1
 ·exact h1
 ·rw[qai h1]at h;cases h
theorem bI{α:Type}{l:List α}{i:Nat}(h:i<l.length):∃a,l[i]? = some a:=⟨_,qaE h⟩
end Sx
end Go.Am

/-
 MOVES OF THE PLANE,in numbers: turns,products,reflections,cells,lines,sides.
-/
set_option maxRecDepth 100000
set_option maxHeartbeats 4000000
namespace Go.Am
open Sx
def mA(t:Nat):Int:=match t with
 |0=>1|1=>0|2=>-1|3=>0|4=>-1|5=>0|6=>1|_=>0
def mB(t:Nat):Int:=match t with
 |0=>0|1=>-1|2=>0|3=>1|4=>0|5=>-1|6=>0|_=>1
def mC(t:Nat):Int:=match t with
 |0=>0|1=>1|2=>0|3=>-1|4=>0|5=>-1|6=>0|_=>1
def mD(t:Nat):Int:=match t with
 |0=>1|1=>0|2=>-1|3=>0|4=>1|5=>0|6=>-1|_=>0
def mulT(s t:Nat):Nat:=if s<4 then(if t<4 then(s+t)%4 else 4+(t+4 - s)%4)else(if t<4 then 4+(s+t)%4 else(t+8 - s)%4)
abbrev Mv:=Nat×Int×Int
def bp(a b:Mv):Mv:=(mulT a.1 b.1,mA b.1*a.2.1+mB b.1*a.2.2+b.2.1,mC b.1*a.2.1+mD b.1*a.2.2+b.2.2)
def idM:Mv:=(0,0,0)
def okM(n:Int)(m:Mv):Prop:=m.1<8/\-n<=m.2.1/\m.2.1<=n/\-n<=m.2.2/\m.2.2<=n/\(m.2.1+m.2.2)%2=0
theorem t8{t:Nat}(h:t<8):t=0∨t=1∨t=2∨t=3∨t=4∨t=5∨t=6∨t=7:=by omega
theorem sZ{s t:Nat}:mulT s t<8:=by
 unfold mulT
 repeat' split
 all_goals omega
theorem vX{a b c:Nat}(ha:a<8)(hb:b<8)(hc:c<8):mulT (mulT a b) c=mulT a (mulT b c):=by
 have key:((List.range 8).all λa=>(List.range 8).all λb=>(List.range 8).all λc=>mulT (mulT a b) c==mulT a (mulT b c))=true:=by decide +kernel
 have h1:=qab.1 key a (qal.2 ha)
 have h2:=qab.1 h1 b (qal.2 hb)
 have h3:=qab.1 h2 c (qal.2 hc)
 simpa using h3
theorem ew{a b c:Mv}(ha:a.1<8)(hb:b.1<8)(hc:c.1<8):bp (bp a b) c=bp a (bp b c):=by
 obtain⟨at',ax,ay⟩:=a
 obtain⟨bt,bx,by'⟩:=b
 obtain⟨ct,cx,cy⟩:=c
 simp only at ha hb hc
 unfold bp
 refine qdy (vX ha hb hc) ?_
 simp only
 clear ha
 rcases t8 hb with rfl|rfl|rfl|rfl|rfl|rfl|rfl|rfl<;>rcases t8 hc with rfl|rfl|rfl|rfl|rfl|rfl|rfl|rfl<;>
  (refine qdy ?_ ?_<;>simp[mulT,mA,mB,mC,mD]<;>omega)
theorem ut{a:Mv}(ha:a.1<8):bp idM a=a:=by
 obtain⟨t,x,y⟩:=a
 have ha:t<8:=ha
 unfold bp idM
 refine qdy ?_ (qdy (by simp) (by simp))
 rcases t8 ha with rfl|rfl|rfl|rfl|rfl|rfl|rfl|rfl<;>simp[mulT]
def invT(t:Nat):Nat:=match t with
 |1=>3|3=>1|n=>n
def invM(m:Mv):Mv:=(invT m.1,-(mA (invT m.1)*m.2.1+mB (invT m.1)*m.2.2),-(mC (invT m.1)*m.2.1+mD (invT m.1)*m.2.2))
theorem inv_id{m:Mv}(h:m.1<8):bp m (invM m)=idM:=by
 obtain⟨t,x,y⟩:=m
 have h:t<8:=h
 unfold bp invM idM
 rcases t8 h with rfl|rfl|rfl|rfl|rfl|rfl|rfl|rfl<;>simp[mulT,mA,mB,mC,mD,invT]<;>omega
theorem bz{n k:Int}{m:Mv}(h:okM n m)(hk:n<=k):okM k m:=by
 unfold okM at *
 omega
theorem okM_id{n:Int}(h:0<=n):okM n idM:=by
 unfold okM idM
 simp only
 omega
theorem eH{n k:Int}{a b:Mv}(ha:okM n a)(hb:okM k b):okM (n+k) (bp a b):=by
 obtain⟨at',ax,ay⟩:=a
 obtain⟨bt,bx,by'⟩:=b
 unfold okM bp at *
 simp only at *
 obtain⟨a1,a2⟩:=ha
 obtain⟨b1,b2⟩:=hb
 refine⟨sZ,?_⟩
 clear a1
 rcases t8 b1 with rfl|rfl|rfl|rfl|rfl|rfl|rfl|rfl<;>simp only[mA,mB,mC,mD]<;>omega
theorem okM_inv{n:Int}{a:Mv}(ha:okM n a):okM n (invM a):=by
 obtain⟨at',ax,ay⟩:=a
 unfold okM invM at *
 simp only at *
 obtain⟨a1,a2⟩:=ha
 rcases t8 a1 with rfl|rfl|rfl|rfl|rfl|rfl|rfl|rfl<;>simp[mA,mB,mC,mD,invT]<;>omega
abbrev Ln:=Nat×Int
def ofM(l:Ln):Mv:=match l.1 with
 |1=>(4,2*l.2,0)
 |2=>(6,0,2*l.2)
 |3=>(5,l.2,l.2)
 |_=>(7,-l.2,l.2)
theorem rO{l:Ln}{n:Int}(h:-n<=l.2/\l.2<=n):okM (2*n) (ofM l):=by
 obtain⟨k,c⟩:=l
 unfold ofM okM
 simp only at h ⊢
 split<;>simp only<;>omega
theorem mE(l:Ln):(ofM l).1<8:=by
 unfold ofM
 split<;>simp
theorem rP(l:Ln):bp (ofM l) (ofM l)=idM:=by
 obtain⟨k,c⟩:=l
 unfold ofM bp idM
 simp only
 split<;>simp[mulT,mA,mB,mC,mD]<;>omega
abbrev Cl:=Int×Int×Nat
def lnC3(c:Cl)(e:Nat):Ln:=match e with
 |0=>(match c.2.2 with
  |0=>(2,c.2.1)
  |1=>(1,c.1+1)
  |2=>(2,c.2.1+1)
  |_=>(1,c.1))
 |1=>(3,c.1+c.2.1+1)
 |_=>(4,c.2.1 - c.1)
def nbC(c:Cl)(e:Nat):Cl:=match e with
 |0=>(match c.2.2 with
  |0=>(c.1,c.2.1 - 1,2)
  |1=>(c.1+1,c.2.1,3)
  |2=>(c.1,c.2.1+1,0)
  |_=>(c.1 - 1,c.2.1,1))
 |1=>(c.1,c.2.1,[1,0,3,2].getD c.2.2 0)
 |_=>(c.1,c.2.1,[3,2,1,0].getD c.2.2 0)
def qT(t q:Nat):Nat:=if t<4 then(q+t)%4 else([0,3,2,1].getD ((q+t)%4) 0+(if t%2=0 then 0 else 2))%4
def bf(m:Mv)(c:Cl):Cl:=(mA m.1*c.1+mB m.1*c.2.1+m.2.1 - (if mA m.1+mB m.1=1 then 0 else 1),mC m.1*c.1+mD m.1*c.2.1+m.2.2 - (if mC m.1+mD m.1=1 then 0 else 1),qT m.1 c.2.2)
def dw(l:Ln)(c:Cl):Bool:=match l.1 with
 |1=>decide (l.2<=c.1)
 |2=>decide (l.2<=c.2.1)
 |3=>decide (l.2<=c.1+c.2.1+(if c.2.2=1∨c.2.2=2 then 1 else 0))
 |_=>decide (l.2<=c.2.1 - c.1 - (if c.2.2=2∨c.2.2=3 then 0 else 1))
theorem part_ln{l:Ln}{c:Cl}{e:Nat}(hl:1<=l.1/\l.1<=4)(hq:c.2.2<4)(he:e<3)(h:dw l c≠dw l (nbC c e)):l=lnC3 c e:=by
 obtain⟨k,n⟩:=l
 obtain⟨x,y,q⟩:=c
 simp only at hl hq
 obtain rfl|rfl|rfl|rfl:q=0∨q=1∨q=2∨q=3:=by omega
 all_goals obtain rfl|rfl|rfl:e=0∨e=1∨e=2:=by omega
 all_goals obtain rfl|rfl|rfl|rfl:k=1∨k=2∨k=3∨k=4:=by omega
 all_goals
  simp[dw,nbC,lnC3]at h ⊢
 all_goals first|done|omega|(exfalso;omega)
def eT(t e:Nat):Nat:=if e=0 then 0 else if t%2=0/\t<4∨t=5∨t=7 then e else 3 - e
theorem move_nb{m:Mv}{c:Cl}{e:Nat}(hm:m.1<8)(hq:c.2.2<4)(he:e<3):bf m (nbC c e)=nbC (bf m c) (eT m.1 e):=by
 obtain⟨t,mx,my⟩:=m
 obtain⟨x,y,q⟩:=c
 simp only at hm hq
 rcases t8 hm with rfl|rfl|rfl|rfl|rfl|rfl|rfl|rfl
 all_goals obtain rfl|rfl|rfl|rfl:q=0∨q=1∨q=2∨q=3:=by omega
 all_goals obtain rfl|rfl|rfl:e=0∨e=1∨e=2:=by omega
 all_goals simp[bf,nbC,eT,qT,mA,mB,mC,mD]
 all_goals first|done|omega|(constructor<;>omega)
theorem move_ln{m:Mv}{c:Cl}{e:Nat}(hm:m.1<8)(hq:c.2.2<4)(he:e<3):bp m (ofM (lnC3 (bf m c) (eT m.1 e)))=bp (ofM (lnC3 c e)) m:=by
 obtain⟨t,mx,my⟩:=m
 obtain⟨x,y,q⟩:=c
 simp only at hm hq
 rcases t8 hm with rfl|rfl|rfl|rfl|rfl|rfl|rfl|rfl
 all_goals obtain rfl|rfl|rfl|rfl:q=0∨q=1∨q=2∨q=3:=by omega
 all_goals obtain rfl|rfl|rfl:e=0∨e=1∨e=2:=by omega
 all_goals simp[bf,eT,qT,mA,mB,mC,mD,bp,ofM,lnC3,mulT]
 all_goals first|done|omega|(constructor<;>omega)
theorem eT_lt{t e:Nat}(he:e<3):eT t e<3:=by
 unfold eT
 repeat' split
 all_goals omega
theorem qT_lt{t q:Nat}:qT t q<4:=by
 unfold qT
 split<;>omega
theorem part_fold{g:Mv}{l:Ln}{c:Cl}{e:Nat}(hg:g.1<8)(hl:1<=l.1/\l.1<=4)(hq:c.2.2<4)(he:e<3)(h:dw l (bf g c)≠dw l (bf g (nbC c e))):bp g (ofM l)=bp (ofM (lnC3 c e)) g:=by
 rw[move_nb hg hq he]at h
 have:=part_ln hl qT_lt (eT_lt he) h
 rw[this]
 exact move_ln hg hq he
theorem sY{g:Mv}{c:Cl}{e:Nat}(hg:g.1<8)(hq:c.2.2<4)(he:e<3):bf (bp (ofM (lnC3 c e)) g) (nbC c e)=bf g c:=by
 obtain⟨t,mx,my⟩:=g
 obtain⟨x,y,q⟩:=c
 simp only at hg hq
 rcases t8 hg with rfl|rfl|rfl|rfl|rfl|rfl|rfl|rfl
 all_goals obtain rfl|rfl|rfl|rfl:q=0∨q=1∨q=2∨q=3:=by omega
 all_goals obtain rfl|rfl|rfl:e=0∨e=1∨e=2:=by omega
 all_goals simp[bf,nbC,qT,mA,mB,mC,mD,bp,ofM,lnC3,mulT]
 all_goals first|done|omega|(constructor<;>omega)
end Go.Am

/-
 MOVES TOLD BY NUMBERS: products,reflections,where points and cells go.
-/
set_option maxRecDepth 100000
set_option maxHeartbeats 16000000
namespace Go.Am
open Sx Go.Proofs
def tO(f:FuncId)(ls rs:List Lf):Bool:=isAns rs (runF 60 (.f f) ls .empty tell)
theorem jX{f:FuncId}{ls rs:List Lf}{sg:Sig}(h:tO f ls rs=true)(hs:ab f=some sg)(hp:sg.plain=true)(hg:gf ls=true):Cc f ls rs:=iN (n:=60) hs hp hg h
abbrev mvl(m:Mv):List Lf:=[.i (Int.ofNat m.1),.i m.2.1,.i m.2.2]
abbrev cll(c:Cl):List Lf:=[.i c.1,.i c.2.1,.i (Int.ofNat c.2.2)]
theorem kQ{n:Int}(h:-16384<=n/\n<=16384):Cc 42 [.i n] [.b false]:=by
 refine q42 rfl ?_;unfold f42;simp only[qxh]
 repeat (first|simp(disch:=omega)only[↓qXX])
 try rfl
theorem mchk_c{t x y:Int}(ht:0<=t/\t<8)(hx:-16384<=x/\x<=16384)(hy:-16384<=y/\y<=16384)(hp:(x+y)%2=0):Cc 15 [.i t,.i x,.i y] [.i 0]:=by
 refine q15 rfl ?_;unfold f15;simp only[qxh]
 rcases qbj 0 (x+y)with hs|hs
 ·repeat (first|simp(disch:=omega)only[↓qXX]|refine ah (kQ hx) ?_|refine ah (kQ hy) ?_|rw[p_rem_nn hs (by omega)])
 ·have h0:-(-(x+y)%2)=0:=by omega
  repeat (first|simp(disch:=omega)only[↓qXX]|refine ah (kQ hx) ?_|refine ah (kQ hy) ?_|rw[p_rem_np hs (by omega)])
theorem vV{n:Int}{m:Mv}(h:okM n m)(hn:n<=16384):Cc 15 (mvl m) [.i 0]:=by
 obtain⟨h1,h2,h3,h4,h5,h6⟩:=h
 exact mchk_c ⟨qa0 _,by show(m.1:Int)<8;omega⟩ (by omega) (by omega) h6
theorem uT{t:Nat}(h:t<8):iU gl1 0 [(Int.ofNat t,4)] 4=some [.int .i64 (mA t),.int .i64 (mB t),.int .i64 (mC t),.int .i64 (mD t)]:=by
 rcases t8 h with rfl|rfl|rfl|rfl|rfl|rfl|rfl|rfl<;>kernel_rfl
theorem inB_t{n t:Nat}(h:t<n):inB n (Int.ofNat t)=some ():=by
 show(match Nat.blt t n with
  |true=>some ()
  |false=>none)=some ()
 rw[show Nat.blt t n=true by rw[qaV];exact h]
theorem mof_c{t:Nat}(ht:t<8){x y:Int}(h:-200000<=x/\x<=200000/\-200000<=y/\y<=200000):Cc 16 [.i (mA t),.i (mB t),.i (mC t),.i (mD t),.i x,.i y] [.i (mA t*x+mB t*y),.i (mC t*x+mD t*y)]:=by
 rcases t8 ht with rfl|rfl|rfl|rfl|rfl|rfl|rfl|rfl
 all_goals
  simp only[mA,mB,mC,mD]
  refine q16 rfl ?_;unfold f16;simp only[qxh]
  repeat (first|simp(disch:=omega)only[↓qXX])
  (try simp only[qas,Lf.i.injEq,and_true,true_and]);(try omega)
def thenT(s t:Nat):Bool:=tO 19 [.i (mA s),.i (mB s),.i (mC s),.i (mD s),.i (mA t),.i (mB t),.i (mC t),.i (mD t)] [.i (mA (mulT s t)),.i (mB (mulT s t)),.i (mC (mulT s t)),.i (mD (mulT s t))]
def numT(t:Nat):Bool:=tO 18 [.i (mA t),.i (mB t),.i (mC t),.i (mD t)] [.i (.ofNat t)]
theorem vo:((List.range 8).all λs=>numT s&&(List.range 8).all λt=>thenT s t)=true:=by kernel_rfl
theorem thenT_c{s t:Nat}(hs:s<8)(ht:t<8):Cc 19 [.i (mA s),.i (mB s),.i (mC s),.i (mD s),.i (mA t),.i (mB t),.i (mC t),.i (mD t)] [.i (mA (mulT s t)),.i (mB (mulT s t)),.i (mC (mulT s t)),.i (mD (mulT s t))]:=by
 have h:=qab.1 vo s (qal.2 hs)
 rw[qaa]at h
 exact jX (qab.1 h.2 t (qal.2 ht)) rfl (by kernel_rfl) rfl
theorem numT_c{t:Nat}(ht:t<8):Cc 18 [.i (mA t),.i (mB t),.i (mC t),.i (mD t)] [.i (.ofNat t)]:=by
 have h:=qab.1 vo t (qal.2 ht)
 rw[qaa]at h
 exact jX h.1 rfl (by kernel_rfl) rfl
theorem limited_c{m:Mv}{n:Int}(h:okM n m)(hn:n<=16384):Cc 17 (mvl m) (mvl m++[.i 0]):=by
 refine q17 rfl ?_;unfold f17;simp only[qxh]
 simp(disch:=omega)only[↓qXX]
 refine ah (vV h hn) ?_
 simp(disch:=omega)only[↓qXX]
 rfl
theorem vp{a b:Mv}{n k:Int}(ha:okM n a)(hb:okM k b)(hn:0<=n/\0<=k/\n+k<=16384):Cc 6 (mvl a++mvl b) (mvl (bp a b)++[.i 0]):=by
 have h0:=eH ha hb
 refine q6 rfl ?_;unfold f6;simp only[qxh]
 simp only[mvl,qao,qam]
 simp(disch:=omega)only[↓qXX]
 refine ah (vV ha (by omega)) ?_
 simp(disch:=omega)only[↓qXX]
 refine ah (vV hb (by omega)) ?_
 simp(disch:=omega)only[↓qXX]
 refine aE (inB_t hb.1) ?_
 refine aE (uT hb.1) ?_
 simp(disch:=omega)only[↓qXX]
 refine ah (mof_c hb.1 ⟨by have:=ha.2;omega,by have:=ha.2;omega,by have:=ha.2;omega,by have:=ha.2;omega⟩) ?_
 simp(disch:=omega)only[↓qXX]
 refine aE (inB_t ha.1) ?_
 refine aE (uT ha.1) ?_
 simp(disch:=omega)only[↓qXX]
 refine aE (inB_t hb.1) ?_
 refine aE (uT hb.1) ?_
 simp(disch:=omega)only[↓qXX]
 refine ah (thenT_c ha.1 hb.1) ?_
 simp(disch:=omega)only[↓qXX]
 refine ah (numT_c sZ) ?_
 simp(disch:=omega)only[↓qXX]
 have hz:∀z:Int,(-n<=z/\z<=n)∨True:=λ_=>.inr trivial
 obtain⟨h1,h2,h3,h4,h5,h6⟩:=h0
 unfold bp at h2 h3 h4 h5
 simp only at h2 h3 h4 h5
 rw[p_add (by omega) (by omega),p_add (by omega) (by omega)]
 refine ah (limited_c (m:=bp a b) ⟨h1,h2,h3,h4,h5,h6⟩ (by omega)) ?_
 simp only[mvl,qao,qam]
 simp(disch:=omega)only[↓qXX]
 rfl
theorem lchk_c{k c:Int}(hk:1<=k/\k<=4)(hc:-4096<=c/\c<=4096):Cc 87 [.i k,.i c] [.i 0]:=by
 refine q87 rfl ?_;unfold f87;simp only[qxh]
 repeat (first|simp(disch:=omega)only[↓qXX])
 try rfl
theorem of1_c{k c:Int}{m:Mv}(hk:1<=k/\k<=4)(hc:-4096<=c/\c<=4096)(hm:m=ofM (k.toNat,c)):Cc 67 [.i k,.i c] (mvl m++[.i 0]):=by
 subst hm
 obtain rfl|rfl|rfl|rfl:k=1∨k=2∨k=3∨k=4:=by omega
 all_goals
  refine q67 rfl ?_;unfold f67;simp only[qxh]
  repeat (first|simp(disch:=omega)only[↓qXX]|refine ah (lchk_c (by omega) (by omega)) ?_)
  simp[ofM]
theorem mlof_c{l:Ln}(hk:1<=l.1/\l.1<=4)(hc:-4096<=l.2/\l.2<=4096):Cc 67 [.i (Int.ofNat l.1),.i l.2] (mvl (ofM l)++[.i 0]):=
 of1_c (k:=Int.ofNat l.1) ⟨by show(1:Int)<=(l.1:Int);omega,by show(l.1:Int)<=4;omega⟩ hc rfl
theorem pchk_c{x y:Int}(h:-65536<=x/\x<=65536/\-65536<=y/\y<=65536):Cc 85 [.i x,.i y] [.i 0]:=by
 refine q85 rfl ?_;unfold f85;simp only[qxh]
 repeat (first|simp(disch:=omega)only[↓qXX])
 try rfl
def ptM(m:Mv)(x y:Int):Int×Int:=(mA m.1*x+mB m.1*y+2*m.2.1,mC m.1*x+mD m.1*y+2*m.2.2)
theorem sU{t:Nat}(ht:t<8){n x y:Int}(h:-n<=x/\x<=n/\-n<=y/\y<=n):-n<=mA t*x+mB t*y/\mA t*x+mB t*y<=n/\-n<=mC t*x+mD t*y/\mC t*x+mD t*y<=n:=by
 rcases t8 ht with rfl|rfl|rfl|rfl|rfl|rfl|rfl|rfl<;>simp only[mA,mB,mC,mD]<;>omega
theorem point_c{m:Mv}(hm:okM 8000 m){x y:Int}(h:-8000<=x/\x<=8000/\-8000<=y/\y<=8000):Cc 95 (mvl m++[.i x,.i y]) [.i (ptM m x y).1,.i (ptM m x y).2,.i 0]:=by
 have hr:=sU hm.1 h
 have hm2:=hm.2
 refine q95 rfl ?_;unfold f95;simp only[qxh]
 simp only[mvl,qao,qam]
 simp(disch:=omega)only[↓qXX]
 refine ah (vV hm (by omega)) ?_
 simp(disch:=omega)only[↓qXX]
 refine ah (pchk_c (by omega)) ?_
 simp(disch:=omega)only[↓qXX]
 refine aE (inB_t hm.1) ?_
 refine aE (uT hm.1) ?_
 simp(disch:=omega)only[↓qXX]
 refine ah (mof_c hm.1 (by omega)) ?_
 simp(disch:=omega)only[↓qXX]
 refine ah (pchk_c (by omega)) ?_
 simp(disch:=omega)only[↓qXX]
 rfl
theorem cchk_c{c:Cl}(h:-4096<=c.1/\c.1<=4096/\-4096<=c.2.1/\c.2.1<=4096/\c.2.2<4):Cc 70 (cll c) [.i 0]:=by
 have hq:(Int.ofNat c.2.2)<=3:=by show(c.2.2:Int)<=3;omega
 refine q70 rfl ?_;unfold f70;simp only[qxh]
 repeat (first|simp(disch:=omega)only[↓qXX])
 try rfl
theorem middle_c{x y q:Int}(h:-1000000<=x/\x<=1000000/\-1000000<=y/\y<=1000000):Cc 94 [.i x,.i y,.i q] [.i (2*x+1),.i (2*y+1)]:=by
 refine q94 rfl ?_;unfold f94;simp only[qxh]
 repeat (first|simp(disch:=omega)only[↓qXX])
 (try simp only[qas,Lf.i.injEq,and_true,true_and]);(try omega)
def sdX(q:Nat):Int:=[0,1,0,-1].getD q 0
def sdY(q:Nat):Int:=[-1,0,1,0].getD q 0
theorem pick_q{q:Nat}(h:q<4):iU gl2 0 [(Int.ofNat q,17)] 2=some [.int .i64 (sdX q),.int .i64 (sdY q)]:=by
 obtain rfl|rfl|rfl|rfl:q=0∨q=1∨q=2∨q=3:=by omega
 all_goals kernel_rfl
theorem moved_c{m:Mv}(hm:okM 3000 m){c:Cl}(hc:-1000<=c.1/\c.1<=1000/\-1000<=c.2.1/\c.2.1<=1000/\c.2.2<4):Cc 71 (mvl m++cll c) (cll (bf m c)):=by
 obtain⟨t,mx,my⟩:=m
 obtain⟨x,y,q⟩:=c
 have hm0:okM 3000 (t,0,0):=⟨hm.1,by simp,by simp,by simp,by simp,by simp⟩
 have hp1:=point_c (bz hm (by omega)) (x:=2*x+1) (y:=2*y+1) (by simp only at hc;omega)
 have hp2:=point_c (bz hm0 (by omega)) (x:=sdX q) (y:=sdY q) (by
  have hq:q<4:=hc.2.2.2.2
  obtain rfl|rfl|rfl|rfl:q=0∨q=1∨q=2∨q=3:=by omega
  all_goals simp[sdX,sdY])
 obtain⟨X,hX⟩ : ∃X,(ptM (t,mx,my) (2*x+1) (2*y+1)).1=X:=⟨_,rfl⟩
 obtain⟨Y,hY⟩ : ∃Y,(ptM (t,mx,my) (2*x+1) (2*y+1)).2=Y:=⟨_,rfl⟩
 obtain⟨U,hU⟩ : ∃U,(ptM (t,0,0) (sdX q) (sdY q)).1=U:=⟨_,rfl⟩
 obtain⟨V,hV⟩ : ∃V,(ptM (t,0,0) (sdX q) (sdY q)).2=V:=⟨_,rfl⟩
 rw[hX,hY]at hp1
 rw[hU,hV]at hp2
 have hm':=hm.2
 have ht:t<8:=hm.1
 have hq:q<4:=hc.2.2.2.2
 simp only at hm' hc
 refine q71 rfl ?_;unfold f71;simp only[qxh]
 simp only[mvl,cll,qao,qam]
 simp(disch:=omega)only[↓qXX]
 refine ah (middle_c (by omega)) ?_
 simp(disch:=omega)only[↓qXX]
 refine aE (inB_t hq) ?_
 refine aE (pick_q hq) ?_
 simp(disch:=omega)only[↓qXX]
 refine ah hp1 ?_
 simp(disch:=omega)only[↓qXX]
 refine ah hp2 ?_
 simp(disch:=omega)only[↓qXX]
 rcases t8 ht with rfl|rfl|rfl|rfl|rfl|rfl|rfl|rfl
 all_goals obtain rfl|rfl|rfl|rfl:q=0∨q=1∨q=2∨q=3:=by omega
 all_goals
  simp[ptM,mA,mB,mC,mD,sdX,sdY]at hX hY hU hV
  subst hU hV
  repeat (first|simp(disch:=omega)only[↓qXX]|refine aE (by simp only[cm,putL,offX,Int.reduceToNat,Int.reduceAdd,Int.reduceMul,Int.reduceMod,Int.reduceSub,Int.reduceNeg,Int.reduceDiv,Nat.reduceAdd,Nat.reduceMul,Nat.reduceLeDiff,qay,qaU,↓reduceIte,qaJ,qaG,qaH,qaX,qao,qam,qax,qbh,qa1,qba,qbq];exact rfl) ?_|refine gQ 6 ?_)
  try simp[bf,mA,mB,mC,mD,qT]
  try omega
end Go.Am

/-
 CREASES: the tests of patterns,told of lists: kinds.
-/
set_option maxRecDepth 100000
set_option maxHeartbeats 4000000
namespace Go.Am
open Sx Go.Proofs
abbrev Crs:=Int×Int×Int
def encC(c:Crs):List Value:=[.int .i64 c.1,.int .u8 c.2.1,.int .u8 c.2.2]
def okC(c:Crs):Prop:=-9223372036854775808<=c.1/\c.1<=9223372036854775807/\0<=c.2.1/\c.2.1<=255/\0<=c.2.2/\c.2.2<=255
def isK(c:Crs):Bool:=decide (1<=c.2.2)&&decide (c.2.2<=3)
theorem isKind_c(k:Int):Cc 38 [.i k] [.b (decide (1<=k)&&decide (k<=3))]:=by
 refine q38 rfl ?_;unfold f38;simp only[qxh]
 by_cases h1:1<=k
 ·by_cases h2:k<=3
  ·simp(disch:=omega)only[↓qXX];simp[h1,h2]
  ·simp(disch:=omega)only[↓qXX];simp[h1,h2]
 ·simp(disch:=omega)only[↓qXX];simp[h1]
theorem chk1_c(c:Crs):Cc 37 [.i c.1,.i c.2.1,.i c.2.2] [.b (!isK c)]:=by
 refine q37 rfl ?_;unfold f37;simp only[qxh]
 simp(disch:=omega)only[↓qXX]
 refine ah (isKind_c c.2.2) ?_
 simp(disch:=omega)only[↓qXX]
 simp[isK]
abbrev clo1:Value:=.func (.func 37) ⟨[]⟩ ⟨[]⟩
theorem good1:bc clo1=true:=rfl
theorem index_c{h:HL}{x:Value}{l:List Crs}(hl:LsH h x 3 encC l)(hn:l.length<=4294967296):∃n:Int,aW cc ab 61 [.v x,.v clo1] (absH ac h) [.i n] (absH ac h)/\(0<=n↔∃c∈l,isK c=false):=by
 obtain⟨rs,h',h1,n,rfl,rfl,h2⟩:=x61 (K:=λrs h'=>∃n:Int,rs=[.i n]/\h'=h/\(0<=n↔∃c∈l,isK c=false)) (H:=h) (glsV hl.good (glsV good1 gls0)) (by
  unfold f61;simp only[qxh]
  simp(disch:=omega)only[↓qXX]
  refine eC hl ?_
  refine sW l.length (λj=>∀i,i<j->∀c,l[i]? = some c->isK c=true) rfl (qbB _) (λi hi=>absurd hi (qcp _)) ?_
  intro j hj hi self hself
  simp(disch:=omega)only[↓qXX]
  by_cases hlt:j<l.length
  ·have e1:Int.ofNat j<Int.ofNat l.length:=by show(j:Int)<l.length;omega
   rw[p_lss_t e1]
   simp(disch:=omega)only[↓qXX]
   obtain⟨c,hc⟩ : ∃c,l[j]? = some c:=⟨_,qaE hlt⟩
   refine dg hl rfl hc ?_
   unfold encC
   simp(disch:=omega)only[↓qXX]
   refine p_callv (callv_ct (chk1_c c _) rfl [.agg [.i .i64 c.1,.i .u8 c.2.1,.i .u8 c.2.2]] rfl rfl) ?_
   simp(disch:=omega)only[↓qXX]
   cases hk:isK c with
   |true=>
    show P1.cond false _ _
    simp(disch:=omega)only[↓qXX]
    rw[p_add (by show -9223372036854775808<=(j:Int)+1;omega) (by show(j:Int)+1<=9223372036854775807;omega)]
    refine hself hlt λi hi' c' hc'=>?_
    rcases qaz i j with h|h
    ·exact hi i h c' hc'
    ·obtain rfl:i=j:=by omega
     rw[hc]at hc';cases hc';exact hk
   |false=>
    show P1.cond true _ _
    simp(disch:=omega)only[↓qXX]
    exact⟨_,rfl,by trivial,λ_=>⟨c,qag hc,hk⟩,λ_=>qa0 j⟩
  ·have e1:Int.ofNat l.length<=Int.ofNat j:=by show(l.length:Int)<=j;omega
   rw[p_lss_f e1]
   simp(disch:=omega)only[↓qXX]
   refine⟨_,rfl,by trivial,λh=>by omega,λ⟨c,hc,hk⟩=>?_⟩
   obtain⟨i,hi'⟩:=qbk hc
   have hlt':i<l.length:=by
    rcases qaz i l.length with h|h
    ·exact h
    ·rw[qai h]at hi';cases hi'
   rw[hi i (by omega) c hi']at hk
   cases hk)
 exact⟨n,h1,h2⟩
theorem vG{h:HL}{x:Value}{l:List Crs}(hl:LsH h x 3 encC l)(hn:l.length<=4294967296):aW cc ab 36 [.v x,.v clo1] (absH ac h) [.b (!l.all isK)] (absH ac h):=by
 obtain⟨n,h1,h2⟩:=index_c hl hn
 obtain⟨rs,h',h3,rfl,rfl⟩:=x36 (K:=λrs h'=>rs=[.b (!l.all isK)]/\h'=h) (H:=h) (glsV hl.good (glsV good1 gls0)) (by
  unfold f36;simp only[qxh]
  simp(disch:=omega)only[↓qXX]
  refine bZ h1 ?_
  simp(disch:=omega)only[↓qXX]
  cases hb:l.all isK with
  |true=>
   have:¬0<=n:=λh=>by
    obtain⟨c,hc,hk⟩:=h2.1 h
    rw[qab.1 hb c hc]at hk;cases hk
   simp(disch:=omega)only[↓qXX]
   exact⟨by trivial,by trivial⟩
  |false=>
   have:0<=n:=h2.2 (by
    obtain⟨c,hc,hk⟩:=List.all_eq_false.1 hb
    exact⟨c,hc,by simpa using hk⟩)
   simp(disch:=omega)only[↓qXX]
   exact⟨by trivial,by trivial⟩)
 exact h3
end Go.Am

/-
 UNITS: tables by the kernel: names,cells,the list of units.
-/
set_option maxRecDepth 100000
namespace Go.Am
open Sx Go.Proofs
def nbr(w v c e:Nat):Option Nat:=
 match e,c%4 with
 |0,0=>if 0<c / 4 / w then some (c+2 - 4*w)else none
 |0,1=>if c / 4%w+1<w then some (c+6)else none
 |0,2=>if c / 4 / w+1<v then some (c+4*w - 2)else none
 |0,_=>if 0<c / 4%w then some (c - 6)else none
 |1,0=>some (c+1)
 |1,1=>some (c - 1)
 |1,2=>some (c+1)
 |1,_=>some (c - 1)
 |2,0=>some (c+3)
 |2,1=>some (c+1)
 |2,2=>some (c - 1)
 |2,_=>some (c - 3)
 |_,_=>none
def nameN(w v c e:Nat):List Lf:=match nbr w v c e with
 |some n=>[.i (.ofNat (min c n)),.i (.ofNat e),.i 0]
 |none=>[.i 0,.i 0,.i 7]
def cellN(w c:Nat):List Lf:=[.i (.ofNat (c / 4%w)),.i (.ofNat (c / 4 / w)),.i (.ofNat (c%4)),.i 0]
def tabName(w v:Nat):Bool:=(List.range (4*w*v)).all λc=>(List.range 3).all λe=>isAns (nameN w v c e) (runF 60 (.f 39) [.i (.ofNat w),.i (.ofNat v),.i (.ofNat c),.i (.ofNat e)] .empty tell)
def tabCell(w v:Nat):Bool:=(List.range (4*w*v)).all λc=>isAns (cellN w c) (runF 60 (.f 44) [.i (.ofNat w),.i (.ofNat v),.i (.ofNat c)] .empty tell)
def aB(w v:Nat):List (Nat×Nat):=(List.range (4*w*v)).flatMap λc=>(List.range 3).filterMap λe=>match nbr w v c e with
 |some n=>if c<n then some (c,e)else none
 |none=>none
def encU(u:Nat×Nat):List Value:=[.int .i64 (.ofNat u.1),.int .u8 (.ofNat u.2)]
def qy(w v:Nat):Bool:=match runF 60 (.f 28) [.i (.ofNat w),.i (.ofNat v)] .empty (λrs h=>match rs with
   | .v x :: r=>ans (eqLs r []&&isSl h x 2 (aB w v).length ((aB w v).flatMap encU))
   |_=>none)with
 |some []=>true
 |_=>false
def ltN(a b:Nat×Nat):Bool:=Nat.blt a.1 b.1||(Nat.beq a.1 b.1&&Nat.blt a.2 b.2)
def ascN:List (Nat×Nat)->Bool
 |a :: b :: l=>ltN a b&&ascN (b :: l)
 |_=>true
def tab5(w v:Nat):Bool:=tabName w v&&(tabCell w v&&(qy w v&&(ascN (aB w v)&&Nat.ble (aB w v).length 1000)))
theorem ji:∀w v:Nat,1<=w->w<=5->1<=v->v<=5->tab5 w v=true:=by
 have key:((List.range 5).all λw=>(List.range 5).all λv=>tab5 (w+1) (v+1))=true:=by kernel_rfl
 intro w v h1 h2 h3 h4
 have h5:=qab.1 key (w - 1) (qal.2 (by omega))
 have h6:=qab.1 h5 (v - 1) (qal.2 (by omega))
 have e1:w - 1+1=w:=by omega
 have e2:v - 1+1=v:=by omega
 rw[e1,e2]at h6
 exact h6
end Go.Am

/-
 UNITS AND CREASES: names at whatever cell and edge;the test of patterns,told of lists.
-/
set_option maxRecDepth 100000
set_option maxHeartbeats 4000000
namespace Go.Am
open Sx Go.Proofs
theorem nbr_ne{w v c e n:Nat}(hw:1<=w)(h:nbr w v c e=some n):n≠c:=by
 have hx:c / 4%w<=c / 4:=qdv _ _
 have hy:c / 4 / w<=c / 4:=qc0 _ _
 have hq:c%4=0∨c%4=1∨c%4=2∨c%4=3:=by omega
 rcases e with _|_|_|e<;>rcases hq with h1|h1|h1|h1<;>simp only[nbr,h1]at h<;>
  first
  |(split at h<;>first|(simp only[qau]at h;omega)|(cases h;done))
  |(simp only[qau]at h;omega)
  |(cases h;done)
theorem ip{w v:Nat}(h:tab5 w v=true):tabName w v=true/\tabCell w v=true/\qy w v=true/\ascN (aB w v)=true/\(aB w v).length<=1000:=by
 unfold tab5 at h
 simp only[qaa,qbx]at h
 exact h
theorem nameIn{w v:Nat}(ht:tab5 w v=true){c e:Nat}(hc:c<4*w*v)(he:e<3):Cc 39 [.i (.ofNat w),.i (.ofNat v),.i (.ofNat c),.i (.ofNat e)] (nameN w v c e):=by
 have h1:=qab.1 (ip ht).1 c (qal.2 hc)
 exact iN (n:=60) rfl (by kernel_rfl) rfl (qab.1 h1 e (qal.2 he))
theorem cellIn{w v:Nat}(ht:tab5 w v=true){c:Nat}(hc:c<4*w*v):Cc 44 [.i (.ofNat w),.i (.ofNat v),.i (.ofNat c)] (cellN w c):=
 iN (n:=60) rfl (by kernel_rfl) rfl (qab.1 (ip ht).2.1 c (qal.2 hc))
def valS(w v:Int):Prop:=1<=w/\1<=v/\w<=256/\v<=256/\w*v<=256
instance (w v : Int) : Decidable (valS w v) := by unfold valS; infer_instance
theorem mul_bd{w v a b:Int}(h:0<=w/\w<=a/\0<=v/\v<=b):0<=w*v/\w*v<=a*b:=
 ⟨Int.mul_nonneg h.1 h.2.2.1,Int.mul_le_mul h.2.1 h.2.2.2 h.2.2.1 (by omega)⟩
theorem shCheck(w v:Int):Cc 35 [.i w,.i v] [.i (if valS w v then 0 else 1)]:=by
 refine q35 rfl ?_;unfold f35;simp only[qxh]
 by_cases h1:1<=w
 ·by_cases h2:1<=v
  ·by_cases h3:w<=256
   ·by_cases h4:v<=256
    ·have hm:=mul_bd (w:=w) (v:=v) (a:=256) (b:=256) (by omega)
     by_cases h5:w*v<=256
     ·simp(disch:=omega)only[↓qXX];simp[valS,h1,h2,h3,h4,h5]
     ·simp(disch:=omega)only[↓qXX];simp[valS,h5]
    ·simp(disch:=omega)only[↓qXX];simp[valS,h4]
   ·simp(disch:=omega)only[↓qXX];simp[valS,h3]
  ·simp(disch:=omega)only[↓qXX];simp[valS,h2]
 ·simp(disch:=omega)only[↓qXX];simp[valS,h1]
theorem oJ{w v:Int}(h:valS w v):Cc 35 [.i w,.i v] [.i 0]:=by
 have:=shCheck w v;rw[if_pos h]at this;exact this
def smS(w v:Int):Prop:=1<=w/\w<=5/\1<=v/\v<=5
theorem smS_val{w v:Int}(h:smS w v):valS w v:=by
 unfold smS at h;have:=mul_bd (w:=w) (v:=v) (a:=5) (b:=5) (by omega);unfold valS;omega
theorem sm4{w v:Int}(h:smS w v):4<=4*w*v/\4*w*v<=100:=by
 unfold smS at h
 have h1:=mul_bd (w:=4*w) (v:=v) (a:=20) (b:=5) (by omega)
 have h2:4*w<=4*w*v:=by
  have:=Int.mul_le_mul_of_nonneg_left h.2.2.1 (show 0<=4*w by omega)
  rw[Int.mul_one]at this;exact this
 omega
theorem has_c{w v:Int}(h:smS w v)(c:Int):Cc 68 [.i w,.i v,.i c] [.b (decide (0<=c)&&decide (c<4*w*v))]:=by
 have h4:=sm4 h
 unfold smS at h
 refine q68 rfl ?_;unfold f68;simp only[qxh]
 by_cases h1:0<=c
 ·by_cases h2:c<4*w*v
  ·simp(disch:=omega)only[↓qXX];simp[h1,h2]
  ·simp(disch:=omega)only[↓qXX];simp[h1,h2]
 ·simp(disch:=omega)only[↓qXX];simp[h1]
theorem wm{w v c:Int}(h:smS w v)(hc:¬(0<=c/\c<4*w*v)):Cc 44 [.i w,.i v,.i c] [.i 0,.i 0,.i 0,.i 7]:=by
 refine q44 rfl ?_;unfold f44;simp only[qxh]
 simp(disch:=omega)only[↓qXX]
 refine ah (oJ (smS_val h)) ?_
 simp(disch:=omega)only[↓qXX]
 have e:(decide (0<=c)&&decide (c<4*w*v))=false:=by simp;omega
 refine ah (e▸has_c h c) ?_
 simp(disch:=omega)only[↓qXX,qcj]
theorem tH{w v c e:Int}(h:smS w v)(hc:¬(0<=c/\c<4*w*v)):Cc 62 [.i w,.i v,.i c,.i e] [.i 0,.i 7]:=by
 refine q62 rfl ?_;unfold f62;simp only[qxh]
 simp(disch:=omega)only[↓qXX]
 refine ah (wm h hc) ?_
 simp(disch:=omega)only[↓qXX]
theorem wn{w v c e:Int}(h:smS w v)(hc:¬(0<=c/\c<4*w*v)):Cc 39 [.i w,.i v,.i c,.i e] [.i 0,.i 0,.i 7]:=by
 refine q39 rfl ?_;unfold f39;simp only[qxh]
 simp(disch:=omega)only[↓qXX]
 refine ah (tH h hc) ?_
 simp(disch:=omega)only[↓qXX]
theorem qP{x y q:Int}(h:-4096<=x/\x<=4096/\-4096<=y/\y<=4096/\q<=3):Cc 70 [.i x,.i y,.i q] [.i 0]:=by
 refine q70 rfl ?_;unfold f70;simp only[qxh]
 simp(disch:=omega)only[↓qXX]
theorem nl{x y q e:Int}(h:-4096<=x/\x<=4096/\-4096<=y/\y<=4096/\q<=3)(he:2<e):Cc 90 [.i x,.i y,.i q,.i e] [.i 0,.i 0,.i 0,.i 1]:=by
 refine q90 rfl ?_;unfold f90;simp only[qxh]
 simp(disch:=omega)only[↓qXX]
 refine ah (qP h) ?_
 simp(disch:=omega)only[↓qXX]
theorem toNat2{w v:Int}(h:smS w v):∃a b:Nat,w = .ofNat a/\v = .ofNat b/\1<=a/\a<=5/\1<=b/\b<=5:=by
 unfold smS at h
 obtain⟨a,rfl⟩:=qb1 (show 0<=w by omega)
 obtain⟨b,rfl⟩:=qb1 (show 0<=v by omega)
 exact⟨a,b,rfl,rfl,by omega,by omega,by omega,by omega⟩
theorem lt_nat{a b c:Nat}(h:(c:Int)<4*(a:Int)*(b:Int)):c<4*a*b:=by
 have:(4*(a:Int)*(b:Int))=((4*a*b:Nat):Int):=by simp
 rw[this]at h;omega
theorem sf{w v c e:Int}(h:smS w v)(hc:0<=c/\c<4*w*v)(he:2<e):Cc 62 [.i w,.i v,.i c,.i e] [.i 0,.i 1]:=by
 have h4:=sm4 h
 obtain⟨a,b,rfl,rfl,ha⟩:=toNat2 h
 obtain⟨k,rfl⟩:=qb1 hc.1
 have hk:k<4*a*b:=lt_nat hc.2
 have hk2:4*a*b<=100:=by
  have:(4*(a:Int)*(b:Int))=((4*a*b:Nat):Int):=by simp
  have h5:=h4.2
  change 4*(a:Int)*(b:Int)<=100 at h5
  rw[this]at h5;omega
 refine q62 rfl ?_;unfold f62;simp only[qxh]
 simp(disch:=omega)only[↓qXX]
 refine ah (cellIn (ji a b ha.1 ha.2.1 ha.2.2.1 ha.2.2.2) hk) ?_
 unfold cellN
 simp(disch:=omega)only[↓qXX]
 have h1:k / 4%a<=k / 4:=qdv _ _
 have h2:k / 4 / a<=k / 4:=qc0 _ _
 have h3:(0:Int)<=((k / 4 / a:Nat):Int):=qa0 _
 have h5:(0:Int)<=((k / 4%a:Nat):Int):=qa0 _
 refine ah (nl (x:=Int.ofNat (k / 4%a)) (y:=Int.ofNat (k / 4 / a)) (q:=Int.ofNat (k%4)) (by simp only[qaN];omega) he) ?_
 simp(disch:=omega)only[↓qXX]
theorem tG{w v c e:Int}(h:smS w v)(hc:0<=c/\c<4*w*v)(he:2<e):Cc 39 [.i w,.i v,.i c,.i e] [.i 0,.i 0,.i 1]:=by
 refine q39 rfl ?_;unfold f39;simp only[qxh]
 simp(disch:=omega)only[↓qXX]
 refine ah (sf h hc he) ?_
 simp(disch:=omega)only[↓qXX]
def isUn(w v c e:Int):Bool:=decide (0<=c)&&decide (c<4*w*v)&&decide (e<=2)&&(match nbr w.toNat v.toNat c.toNat e.toNat with
 |some n=>Nat.blt c.toNat n
 |none=>false)
theorem name_c{w v c e:Int}(h:smS w v)(he:0<=e):∃a b r:Int,Cc 39 [.i w,.i v,.i c,.i e] [.i a,.i b,.i r]/\(isUn w v c e=true↔r=0/\a=c/\b=e):=by
 by_cases hc:0<=c/\c<4*w*v
 ·by_cases h2:e<=2
  ·obtain⟨a,b,rfl,rfl,ha⟩:=toNat2 h
   obtain⟨k,rfl⟩:=qb1 hc.1
   obtain⟨j,rfl⟩:=qb1 he
   have hk:k<4*a*b:=lt_nat hc.2
   have hn:=nameIn (ji a b ha.1 ha.2.1 ha.2.2.1 ha.2.2.2) hk (e:=j) (by omega)
   unfold nameN at hn
   cases e:nbr a b k j with
   |none=>
    rw[e]at hn
    refine⟨_,_,_,hn,?_⟩
    have:isUn (.ofNat a) (.ofNat b) (k:Int) (j:Int)=false:=by
     unfold isUn
     have e':nbr (Int.ofNat a).toNat (Int.ofNat b).toNat (k:Int).toNat (j:Int).toNat=none:=e
     rw[e'];simp
    rw[this]
    simp
   |some n=>
    rw[e]at hn
    refine⟨_,_,_,hn,?_⟩
    have hne:=nbr_ne ha.1 e
    have e':nbr (Int.ofNat a).toNat (Int.ofNat b).toNat (k:Int).toNat (j:Int).toNat=some n:=e
    unfold isUn
    rw[e']
    simp only[qaa,decide_eq_true_eq,qaV,qcM]
    constructor
    ·rintro⟨_,h3⟩
     exact⟨by trivial,by show((min k n:Nat):Int)=k;omega,by trivial⟩
    ·rintro⟨_,h3,_⟩
     have h3:((min k n:Nat):Int)=k:=h3
     exact⟨⟨⟨hc.1,hc.2⟩,h2⟩,by omega⟩
  ·refine⟨_,_,_,tG h hc (by omega),?_⟩
   have:isUn w v c e=false:=by unfold isUn;simp[h2]
   rw[this];simp
 ·refine⟨_,_,_,wn h hc,?_⟩
  have:isUn w v c e=false:=by
   unfold isUn
   have:(decide (0<=c)&&decide (c<4*w*v))=false:=by simp;omega
   rw[this];simp
  rw[this];simp
theorem uw{w v c e:Int}(h:isUn w v c e=true):0<=c/\c<4*w*v/\e<=2:=by
 unfold isUn at h
 simp only[qaa,decide_eq_true_eq]at h
 exact⟨h.1.1.1,h.1.1.2,h.1.2⟩
end Go.Am

/-
 THE TEST OF PATTERNS,told of lists.
-/
set_option maxRecDepth 100000
set_option maxHeartbeats 4000000
namespace Go.Am
open Sx Go.Proofs
def ltC(a b:Crs):Bool:=decide (a.1<b.1)||(decide (a.1=b.1)&&decide (a.2.1<b.2.1))
def ascC:List Crs->Bool
 |a :: b :: l=>ltC a b&&ascC (b :: l)
 |_=>true
theorem pf:∀ {l:List Crs},ascC l=true↔∀(i:Nat) a b,l[i]? = some a->l[i+1]? = some b->ltC a b=true
 | []=>by simp[ascC]
 | [a]=>by simp[ascC]
 |a :: b :: l=>by
  simp only[ascC,qaa]
  rw[pf (l:=b :: l)]
  constructor
  ·rintro⟨h1,h2⟩ i x y hx hy
   cases i with
   |zero=>
    simp only[qbl,qau,qbM]at hx hy
    subst hx hy;exact h1
   |succ i=>exact h2 i x y (by simpa using hx) (by simpa using hy)
  ·intro h
   exact⟨h 0 a b rfl rfl,λi x y hx hy=>h (i+1) x y (by simpa using hx) (by simpa using hy)⟩
def unC(w v:Int)(c:Crs):Bool:=isUn w v c.1 c.2.1
def chkC(w v:Int)(l:List Crs):Int:=if l.all isK=false then 1 else if l.all (unC w v)=false then 7 else if ascC l=true then 0 else 6
theorem unit_c(c:Crs):Cc 40 [.i c.1,.i c.2.1,.i c.2.2] [.i c.1,.i c.2.1]:=by
 refine q40 rfl ?_;unfold f40;simp only[qxh]
 simp(disch:=omega)only[↓qXX]
theorem order_c{a b:Crs}(h:0<=a.1/\a.1<=1000/\0<=b.1/\b.1<=1000/\0<=a.2.1/\a.2.1<=255/\0<=b.2.1/\b.2.1<=255):∃d:Int,Cc 41 [.i a.1,.i a.2.1,.i b.1,.i b.2.1] [.i d]/\(d<0↔ltC a b=true):=by
 by_cases h1:a.1=b.1
 ·refine⟨a.2.1 - b.2.1,?_,by simp only[ltC,qbb,qaa,decide_eq_true_eq];omega⟩
  refine q41 rfl ?_;unfold f41;simp only[qxh]
  simp(disch:=omega)only[↓qXX]
 ·refine⟨a.1 - b.1,?_,by simp only[ltC,qbb,qaa,decide_eq_true_eq];omega⟩
  refine q41 rfl ?_;unfold f41;simp only[qxh]
  simp(disch:=omega)only[↓qXX]
theorem check_c{w v:Int}(hs:smS w v){h:HL}{x:Value}{l:List Crs}(hl:LsH h x 3 encC l)(hk:∀c∈l,okC c)(hn:l.length<=4294967296) :
  aW cc ab 14 [.i w,.i v,.v x] (absH ac h) [.i (chkC w v l)] (absH ac h):=by
 obtain⟨rs,h',h3,rfl,rfl⟩:=x14 (K:=λrs h'=>rs=[.i (chkC w v l)]/\h'=h) (H:=h) (glsI (glsI (glsV hl.good gls0))) (by
  unfold f14;simp only[qxh]
  simp(disch:=omega)only[↓qXX]
  refine ah (oJ (smS_val hs)) ?_
  simp(disch:=omega)only[↓qXX]
  refine bZ (vG hl hn) ?_
  simp(disch:=omega)only[↓qXX]
  cases hb:l.all isK with
  |false=>
   simp(disch:=omega)only[↓qXX,qcj]
   exact⟨by simp[chkC,hb],by trivial⟩
  |true=>
   simp(disch:=omega)only[↓qXX,qbi]
   refine eC hl ?_
   refine sW l.length (λj=>∀i,i<j->∀c,l[i]? = some c->unC w v c=true) rfl (qbB _) (λi hi=>absurd hi (qcp _)) ?_
   intro j hj hi self hself
   simp(disch:=omega)only[↓qXX]
   by_cases hlt:j<l.length
   ·rw[cS hlt]
    simp(disch:=omega)only[↓qXX]
    obtain⟨c,hc⟩:=bI hlt
    have hmem:=qag hc
    have hok:=hk c hmem
    unfold okC at hok
    have bad:unC w v c=false->chkC w v l=7:=λhu=>by
     have:l.all (unC w v)=false:=List.all_eq_false.2 ⟨c,hmem,by simp[hu]⟩
     simp[chkC,hb,this]
    refine dg hl rfl hc ?_
    unfold encC
    simp(disch:=omega)only[↓qXX]
    obtain⟨a,b,r,hnm,hiff⟩:=name_c (c:=c.1) (e:=c.2.1) hs (by omega)
    refine ah hnm ?_
    simp(disch:=omega)only[↓qXX]
    by_cases hr:r=0
    ·subst hr
     simp(disch:=omega)only[↓qXX]
     refine ah (unit_c c) ?_
     simp(disch:=omega)only[↓qXX]
     by_cases hab:a=c.1/\b=c.2.1
     ·have hu:unC w v c=true:=hiff.2 ⟨rfl,hab.1,hab.2⟩
      simp(disch:=omega)only[↓qXX,qbi]
      rw[ii (by omega)]
      refine hself hlt λi hi' c' hc'=>?_
      rcases qaz i j with h|h
      ·exact hi i h c' hc'
      ·obtain rfl:i=j:=by omega
       rw[hc]at hc';cases hc';exact hu
     ·have hu:unC w v c=false:=by
       rw[←qa4];intro hu
       have:=hiff.1 hu
       exact hab ⟨this.2.1,this.2.2⟩
      rw[p_eqs2_f hab]
      simp(disch:=omega)only[↓qXX,qcj]
      exact⟨by rw[bad hu],by trivial⟩
    ·have hu:unC w v c=false:=by
      rw[←qa4];intro hu
      exact hr (hiff.1 hu).1
     simp(disch:=omega)only[↓qXX]
     exact⟨by rw[bad hu],by trivial⟩
   ·obtain rfl:j=l.length:=by omega
    rw[dC (qaA _)]
    simp(disch:=omega)only[↓qXX]
    have hu:l.all (unC w v)=true:=qab.2 λc hc=>by
     obtain⟨i,hi'⟩:=qbk hc
     exact hi i (bJ hi') c hi'
    refine sW (j0:=1) (max 1 l.length) (λj=>1<=j/\∀(i:Nat) a b,i+1<j->l[i]? = some a->l[i+1]? = some b->ltC a b=true) rfl (qcG _ _) ⟨qaA _,λi a b hi=>by omega⟩ ?_
    intro j hj' ⟨h1,hi2⟩ self hself
    simp(disch:=omega)only[↓qXX]
    refine eC hl ?_
    by_cases hlt:j<l.length
    ·rw[cS hlt]
     simp(disch:=omega)only[↓qXX]
     rw[n_sub h1 (by omega)]
     obtain⟨c,hc⟩:=bI (l:=l) (i:=j - 1) (by omega)
     obtain⟨d,hd⟩:=bI hlt
     have hc1:=hk c (qag hc)
     have hd1:=hk d (qag hd)
     have hc2:=uw (qab.1 hu c (qag hc))
     have hd2:=uw (qab.1 hu d (qag hd))
     have h4:=sm4 hs
     unfold okC at hc1 hd1
     refine dg hl rfl hc ?_
     unfold encC
     simp(disch:=omega)only[↓qXX]
     refine ah (unit_c c) ?_
     simp(disch:=omega)only[↓qXX]
     refine dg hl rfl hd ?_
     unfold encC
     simp(disch:=omega)only[↓qXX]
     refine ah (unit_c d) ?_
     simp(disch:=omega)only[↓qXX]
     obtain⟨o,ho,hoi⟩:=order_c (a:=c) (b:=d) (by omega)
     refine ah ho ?_
     simp(disch:=omega)only[↓qXX]
     by_cases hlo:o<0
     ·simp(disch:=omega)only[↓qXX]
      rw[ii (by omega)]
      refine hself (by omega) ⟨by omega,λi a b hi' ha hb'=>?_⟩
      rcases qaz (i+1) j with h|h
      ·exact hi2 i a b h ha hb'
      ·have e1:i=j - 1:=by omega
       have e2:i+1=j:=by omega
       rw[e2,hd]at hb'
       rw[e1,hc]at ha
       cases ha;cases hb'
       exact hoi.1 hlo
     ·have hna:ascC l=false:=by
       rw[←qa4,pf]
       intro hall
       have:=hall (j - 1) c d hc (by rw[show j - 1+1=j by omega];exact hd)
       exact hlo (hoi.2 this)
      simp(disch:=omega)only[↓qXX]
      exact⟨by simp[chkC,hb,hu,hna],by trivial⟩
    ·rw[dC (by omega)]
     simp(disch:=omega)only[↓qXX]
     have ha:ascC l=true:=pf.2 λi a b ha hb'=>hi2 i a b (by have:=bJ hb';omega) ha hb'
     exact⟨by simp[chkC,hb,hu,ha],by trivial⟩)
 exact h3
end Go.Am

/-
 STORES INTO LISTS: a block that holds a list of elements,one of them written.
-/
namespace Go.Am
namespace Sx
section
variable [Val] [Kno]
variable {C:Cfg} {Sg:FuncId->Option Sig} {T:Nat->Site} {α:Type}
def putE(h:HL)(id e:Nat)(enc:α->List Value)(l:List α):HL:=h.set id (.o (.cells (l.flatMap enc) e true))
theorem cV{h:HL}{id e:Nat}{enc:α->List Value}{l:List α}(hlt:id<h.length):(putE h id e enc l)[id]? = some (.o (.cells (l.flatMap enc) e true)):=by
 unfold putE
 rw[qaW hlt]
theorem putE_put{h:HL}{id e:Nat}{enc:α->List Value}{l l':List α}:(putE h id e enc l).set id (.o (.cells (l'.flatMap enc) e true))=putE h id e enc l':=by
 unfold putE
 rw[List.set_set]
theorem putE_ls{h:HL}{id e cx:Nat}{enc:α->List Value}(henc:∀a,(enc a).length=e){l:List α}(hlt:id<h.length):LsH (putE h id e enc l) (.slice (some ⟨id,0,tag e⟩) l.length cx) e enc l:=by
 have hl:=bb (e:=e) (enc:=enc) (l:=l) λa _=>henc a
 exact⟨λa _=>henc a,hl,.inr ⟨id,0,cx,_,true,rfl,cV hlt,cut_all hl⟩⟩
theorem db{e:Nat}{enc:α->List Value}(henc:∀a,(enc a).length=e):∀ {l:List α} {i:Nat} (a:α),i<l.length->(l.flatMap enc).take (i*e)++enc a++(l.flatMap enc).drop (i*e+e)=(l.set i a).flatMap enc
 | [],_,_,h=>by simp at h
 |b :: l,0,a,_=>by
  have hb:=henc b
  simp only[qa1,qaX,qam,qax,qcF,qby]
  rw[qbZ,qbr (by omega),qam,show e - (enc b).length=0 by omega,qaG]
 |b :: l,i+1,a,h=>by
  have hb:=henc b
  have ih:=db henc (l:=l) (i:=i) a (by simpa using h)
  simp only[List.set_cons_succ,qby]
  rw[←ih,qbu,qca,qci,qbZ]
  rw[qaM (by omega),qbr (by omega),qam]
  rw[show i*e+e - (enc b).length=i*e by omega,show i*e+e+e - (enc b).length=i*e+e by omega]
  simp[qaB]
theorem r_set{h:HL}{id e cx len:Nat}{enc:α->List Value}(henc:∀a,(enc a).length=e){l:List α}{i:Nat}{a:α}{n:Int}{new:List Value}{K:List Value->HL->Prop}(hlt:id<h.length)(hn:n=Int.ofNat i)(hi:i<l.length)(hlen:l.length=len)(hnew:new=enc a)
  (hk:K [] (putE h id e enc (l.set i a))):(PH C Sg T).opt (idS e (.slice (some ⟨id,0,tag e⟩) len cx) n) (@hid _ ⟨λx=>(PH C Sg T).heap (.st x new) (putE h id e enc l) (@hid _ ⟨K⟩)⟩):=by
 subst hn hlen hnew
 have hx:idS e (.slice (some ⟨id,0,tag e⟩) l.length cx) (Int.ofNat i)=some (.pointer (some ⟨id,i*e,none⟩)):=by
  rw[ru]
  have hh:0<=Int.ofNat i/\Int.ofNat i<(l.length:Int):=⟨qa0 i,by show(i:Int)<l.length;omega⟩
  simp only[if_pos hh]
  have:¬(tag e=some 1):=by simp[tag]
  simp only[if_neg this,qax]
  rfl
 refine aE hx ?_
 have hl:=bb (e:=e) (enc:=enc) (l:=l) λa _=>henc a
 have hle:i*e+e<=l.length*e:=by
  have:=qbg e (show i+1<=l.length by omega)
  rw[qbu,qca]at this;exact this
 have hrun:(Hp.st (.pointer (some ⟨id,i*e,none⟩)) (enc a)).run (getH T (putE h id e enc l)) (putE h id e enc l).length=some ([.set id (.cells ((l.set i a).flatMap enc) e true)],[]):=by
  show stP (.pointer (some ⟨id,i*e,none⟩)) (enc a) (getH T (putE h id e enc l)) (putE h id e enc l).length=_
  unfold stP
  simp only
  rw[bW (cV hlt)]
  simp only
  unfold splice
  rw[henc a,hl,if_pos hle,db henc a hi]
  rfl
 refine dl hrun ?_
 show K [] (bT _ _)
 have:bT (putE h id e enc l) [.set id (.cells ((l.set i a).flatMap enc) e true)]=putE h id e enc (l.set i a):=putE_put
 rw[this]
 exact hk
end
end Sx
end Go.Am

/-
 LISTS THAT ARE MADE AND FILLED: a block of zeros behind the heap,written element by element.
-/
namespace Go.Am
namespace Sx
section
variable [Val] [Kno]
variable {C:Cfg} {Sg:FuncId->Option Sig} {T:Nat->Site} {α:Type}
theorem gH{enc:α->List Value}{z:α}{n:Nat}:aU (enc z) n=(List.replicate n z).flatMap enc:=by
 unfold aU
 rw[List.flatMap_def,List.map_replicate]
def newE(h:HL)(e:Nat)(enc:α->List Value)(l:List α):HL:=h++[.o (.cells (l.flatMap enc) e true)]
theorem newE_put{h:HL}{e:Nat}{enc:α->List Value}{l:List α}:putE (h++[.o .dead]) h.length e enc l=newE h e enc l:=by
 unfold putE newE
 rw[qbL _ _ (qaA _),qbp];rfl
theorem uG(h:HL)(e:Nat)(enc:α->List Value)(l:List α):Pre h (newE h e enc l):=⟨_,rfl⟩
theorem newE_ls{h:HL}{e cx:Nat}{enc:α->List Value}(henc:∀a,(enc a).length=e){l:List α}{n:Nat}(hn:n=l.length):LsH (newE h e enc l) (.slice (some ⟨h.length,0,tag e⟩) n cx) e enc l:=by
 subst hn
 rw[←newE_put]
 exact putE_ls henc (by simp)
theorem lq{n:Nat}(h:n<=1048576):mkOk (Int.ofNat n) (Int.ofNat n)=some ():=by
 unfold mkOk
 rw[if_pos]
 exact⟨qa0 n,Int.le_refl _,by show(n:Int)<=1048576;omega⟩
theorem new_zeros{h:HL}{e:Nat}{enc:α->List Value}{z:α}{n:Nat}{v:List Value}(hv:v=enc z):h++[HO.o (.cells (aU v n) e true)]=newE h e enc (List.replicate n z):=by
 subst hv
 unfold newE
 rw[gH]
end
end Sx
end Go.Am

/-
 LISTS THAT ARE FILLED,II: a part of an element is written;a list is copied.
-/
namespace Go.Am
namespace Sx
section
variable [Val] [Kno]
variable {C:Cfg} {Sg:FuncId->Option Sig} {T:Nat->Site} {α:Type}
theorem ep{l:List α}{i:Nat}{a:α}(h:l[i]? = some a):l.set i a=l:=by
 apply qbc
 intro k
 by_cases hk:i=k
 ·subst hk
  rw[qaW (bJ h),h]
 ·rw[qaC hk]
theorem r_setfN{h:HL}{e cx len:Nat}{enc:α->List Value}(henc:∀a,(enc a).length=e){l:List α}{i o:Nat}{a a':α}{n:Int}{new:List Value}{K:List Value->HL->Prop}(hn:n=Int.ofNat i)(hi:l[i]? = some a)(hlen:l.length=len)(ho:o+new.length<=e)
  (hnew:enc a'=(enc a).take o++new++(enc a).drop (o+new.length)) (hk:K [] (newE h e enc (l.set i a'))) :
  (PH C Sg T).opt (idS e (.slice (some ⟨h.length,0,tag e⟩) len cx) n) (@hid _ ⟨λx=>(PH C Sg T).opt (fdP o x) (@hid _ ⟨λy=>(PH C Sg T).chk y (@hid _ ⟨(PH C Sg T).heap (.st y new) (newE h e enc l) (@hid _ ⟨K⟩)⟩)⟩)⟩):=by
 subst hn hlen
 have hlt:=bJ hi
 have hx:idS e (.slice (some ⟨h.length,0,tag e⟩) l.length cx) (Int.ofNat i)=some (.pointer (some ⟨h.length,i*e,none⟩)):=by
  rw[ru]
  have hh:0<=Int.ofNat i/\Int.ofNat i<(l.length:Int):=⟨qa0 i,by show(i:Int)<l.length;omega⟩
  simp only[if_pos hh]
  have:¬(tag e=some 1):=by simp[tag]
  simp only[if_neg this,qax]
  rfl
 refine aE hx ?_
 refine aE (x:=.pointer (some ⟨h.length,i*e+o,none⟩)) rfl ?_
 refine cg (by simp[bc,noLoc,aZ,bw,bh,aQ,aD]) ?_
 have hl:=bb (e:=e) (enc:=enc) (l:=l) λa _=>henc a
 have hle:i*e+e<=l.length*e:=by
  have:=qbg e (show i+1<=l.length by omega)
  rw[qbu,qca]at this;exact this
 have e1:=db henc (l:=l) (i:=i) a hlt
 rw[ep hi]at e1
 have e2:=db henc (l:=l) (i:=i) a' hlt
 have hA:((l.flatMap enc).take (i*e)).length=i*e:=by rw[qaY];omega
 have hB:=henc a
 have key:(l.flatMap enc).take (i*e+o)++new++(l.flatMap enc).drop (i*e+o+new.length)=(l.set i a').flatMap enc:=by
  rw[←e2,hnew]
  have t1:(l.flatMap enc).take (i*e+o)=(l.flatMap enc).take (i*e)++(enc a).take o:=by
   conv=>lhs;rw[←e1,qaB]
   rw[qci,qaM (by omega),hA,show i*e+o - i*e=o by omega,qci,show o - (enc a).length=0 by omega,qaX,qaR]
  have t2:(l.flatMap enc).drop (i*e+o+new.length)=(enc a).drop (o+new.length)++(l.flatMap enc).drop (i*e+e):=by
   conv=>lhs;rw[←e1,qaB]
   rw[qbZ,qbr (by omega),qam,hA,show i*e+o+new.length - i*e=o+new.length by omega,qbZ,show o+new.length - (enc a).length=0 by omega,qaG]
  rw[t1,t2]
  simp only[qaB]
 have hg:(newE h e enc l)[h.length]? = some (.o (.cells (l.flatMap enc) e true)):=by simp[newE]
 have hrun:(Hp.st (.pointer (some ⟨h.length,i*e+o,none⟩)) new).run (getH T (newE h e enc l)) (newE h e enc l).length=some ([.set h.length (.cells ((l.set i a').flatMap enc) e true)],[]):=by
  show stP (.pointer (some ⟨h.length,i*e+o,none⟩)) new (getH T (newE h e enc l)) (newE h e enc l).length=_
  unfold stP
  simp only
  rw[bW hg]
  simp only
  unfold splice
  rw[hl,if_pos (by omega),key]
  rfl
 refine dl hrun ?_
 have:bT (newE h e enc l) [.set h.length (.cells ((l.set i a').flatMap enc) e true)]=newE h e enc (l.set i a'):=by
  show(newE h e enc l).set h.length _=_
  unfold newE
  simp
 rw[this]
 exact hk
theorem r_copyN{h:HL}{e cx:Nat}{enc:α->List Value}(henc:∀a,(enc a).length=e){l l0:List α}{v:Value}{K:List Value->HL->Prop}(hl:LsH (newE h e enc l0) v e enc l)(hlen:l0.length=l.length)(hk:K [.int .i64 (Int.ofNat l.length)] (newE h e enc l)) :
  (PH C Sg T).heap (.fn (cpG C e (.slice (some ⟨h.length,0,tag e⟩) l.length cx) v)) (newE h e enc l0) (@hid _ ⟨K⟩):=by
 have h1:=bb (e:=e) (enc:=enc) (l:=l) λa _=>henc a
 have h0:=bb (e:=e) (enc:=enc) (l:=l0) λa _=>henc a
 have hg:(newE h e enc l0)[h.length]? = some (.o (.cells (l0.flatMap enc) e true)):=by simp[newE]
 have hrun:(Hp.fn (cpG C e (.slice (some ⟨h.length,0,tag e⟩) l.length cx) v)).run (getH T (newE h e enc l0)) (newE h e enc l0).length=some ([.set h.length (.cells (l.flatMap enc) e true)],[.int .i64 (Int.ofNat l.length)]):=by
  show cpG C e (.slice (some ⟨h.length,0,tag e⟩) l.length cx) v (getH T (newE h e enc l0)) (newE h e enc l0).length=_
  unfold cpG
  simp only
  rw[sj hl.2,bW hg]
  simp only[ne_eq,not_true_eq_false,if_false]
  unfold splice
  rw[show Nat.min l.length l.length=l.length from Nat.min_self _,qaM (by rw[h1];exact qaA _),if_pos (by rw[h0,h1,hlen];omega)]
  rw[qaX,qam,qbr (by rw[h0,h1,hlen];omega),qaR]
  rfl
 refine dl hrun ?_
 have:bT (newE h e enc l0) [.set h.length (.cells (l.flatMap enc) e true)]=newE h e enc l:=by
  show(newE h e enc l0).set h.length _=_
  unfold newE
  simp
 rw[this]
 exact hk
end
end Sx
end Go.Am

/-
 MAPS IN THE HEAP: a set of keys (a number and a small one),told by its keys.
-/
set_option maxRecDepth 100000
namespace Go.Am
namespace Sx
section
variable [Val] [Kno] {C:Cfg} {T:Nat->Site}
abbrev Ku:=Int×Int
def kvU(k:Ku):Value:=.agg ⟨[.int .i64 k.1,.int .u8 k.2]⟩
def EntS(es:List MapEntry)(ks:List Ku):Prop:=es.map (·.key)=ks.map kvU/\∀e∈es,e.val = .bool true
abbrev kkU:List LK:=[.i .i64,.i .u8]
theorem eqZ_dec(a b:Int):eqZ a b=decide (a=b):=by
 have hb:∀m n:Nat,Nat.beq m n=decide (m=n):=λm n=>by
  by_cases h:m=n
  ·subst h;simp
  ·rw[decide_eq_false h]
   cases hq:Nat.beq m n with
   |true=>exact absurd (qac hq) h
   |false=>rfl
 cases a<;>cases b<;>simp[eqZ,hb]
 omega
theorem difK_kv(a b:Ku):difK kkU [.int .i64 a.1,.int .u8 a.2] [.int .i64 b.1,.int .u8 b.2]=some (decide (a=b)):=by
 have e1:dB .i64 .i64=true:=rfl
 have e2:dB .u8 .u8=true:=rfl
 obtain⟨a1,a2⟩:=a
 obtain⟨b1,b2⟩:=b
 simp only[difK,e1,e2,eqZ_dec,qcs]
 by_cases h1:a1=b1
 ·by_cases h2:a2=b2
  ·simp[h1,h2]
  ·simp[h1,h2]
 ·simp[h1]
theorem pH(k:Ku):∀ {es:List MapEntry} {ks:List Ku} (i:Nat),EntS es ks->(k∉ks->lY kkU [.int .i64 k.1,.int .u8 k.2] es i=some none)/\(k∈ks->∃j e,lY kkU [.int .i64 k.1,.int .u8 k.2] es i=some (some (i+j))/\es[j]? = some e/\e.val = .bool true)
 | [],[],i,_=>⟨λ_=>rfl,λh=>by cases h⟩
 | [],_ :: _,i,h=>by have:=h.1;simp at this
 |_ :: _,[],i,h=>by have:=h.1;simp at this
 |e :: es,q :: ks,i,h=>by
  obtain⟨h1,h2⟩:=h
  simp only[qat,qas]at h1
  obtain⟨ih1,ih2⟩:=pH k (i+1) (⟨h1.2,λx hx=>h2 x (qaq _ hx)⟩ : EntS es ks)
  have hq:lY kkU [.int .i64 k.1,.int .u8 k.2] (e :: es) i=if k=q then some (some i)else lY kkU [.int .i64 k.1,.int .u8 k.2] es (i+1):=by
   simp only[lY,h1.1,kvU]
   rw[difK_kv]
   by_cases hk:k=q<;>simp[hk]
  rw[hq]
  by_cases hk:k=q
  ·subst hk
   refine⟨λhn=>absurd qaK hn,λ_=>⟨0,e,by rw[if_pos rfl];rfl,rfl,h2 e qaK⟩⟩
  ·rw[if_neg hk]
   refine⟨λhn=>ih1 λhm=>hn (qaq _ hm),λhm=>?_⟩
   rcases qaj.1 hm with hm|hm
   ·exact absurd hm hk
   ·obtain⟨j,e',g1,g2,g3⟩:=ih2 hm
    exact⟨j+1,e',by rw[g1];congr 2;omega,by simpa using g2,g3⟩
variable {kt:TypeId}
theorem keyF_u(h1:aggT C.P kt=some true)(h2:hQ C.P 10000 kt=some kkU)(k:Ku):keyF C.P kt (kvU k)=true:=by
 have e1:dB .i64 .i64=true:=rfl
 have e2:dB .u8 .u8=true:=rfl
 unfold keyF kvU
 simp only[h1,h2,iE,e1,e2,eqZ_dec]
 simp
theorem sM(h1:aggT C.P kt=some true)(h2:hQ C.P 10000 kt=some kkU)(k:Ku){es:List MapEntry}{r:Option Nat}(hr:lY kkU [.int .i64 k.1,.int .u8 k.2] es 0=some r):rk C.P kt (kvU k) es=some r:=by
 unfold rk kvU
 simp only[h1,h2,pG,hr]
theorem lu_set(h1:aggT C.P kt=some true)(h2:hQ C.P 10000 kt=some kkU){h:HL}{id c:Nat}{es:List MapEntry}{ks:List Ku}(hm:h[id]? = some (.o (.map es c)))(he:EntS es ks)(k:Ku) :
  luG C kt false (.bool false) (.map (some id)) (kvU k) false (getH T h)=some [.bool (decide (k∈ks))]:=by
 unfold luG
 rw[keyF_u h1 h2]
 simp only[qbi,qar,if_false]
 have hg:mapG (getH T h) id=some (es,c):=by
  unfold mapG
  rw[bW hm]
 rw[hg]
 simp only
 obtain⟨f1,f2⟩:=pH k 0 he
 by_cases hk:k∈ks
 ·obtain⟨j,e,g1,g2,g3⟩:=f2 hk
  rw[sM h1 h2 k g1]
  have hv:ff es (0+j)=some (.bool true):=by
   rw[qax]
   unfold ff
   rw[g2]
   simp[g3]
  simp only[hv,qah]
  simp[fO,hk]
 ·rw[sM h1 h2 k (f1 hk)]
  simp[fO,hk]
theorem mu_set(h1:aggT C.P kt=some true)(h2:hQ C.P 10000 kt=some kkU){h:HL}{id c n:Nat}{es:List MapEntry}{ks:List Ku}(hm:h[id]? = some (.o (.map es c)))(he:EntS es ks){k:Ku}(hk:k∉ks) :
  muG C kt (.map (some id)) (kvU k) (.bool true) (getH T h) n=some ([.set id (.map (es++[{ key:=kvU k,val:=.bool true,born:=c }]) (c+1))],[]):=by
 unfold muG
 simp only
 rw[keyF_u h1 h2]
 simp only[qbi,qar,if_false]
 have hg:mapG (getH T h) id=some (es,c):=by
  unfold mapG
  rw[bW hm]
 rw[hg]
 simp only
 rw[sM h1 h2 k ((pH k 0 he).1 hk)]
theorem EntS.push{es:List MapEntry}{ks:List Ku}(he:EntS es ks)(k:Ku)(c:Nat):EntS (es++[{ key:=kvU k,val:=.bool true,born:=c }]) (ks++[k]):=by
 refine⟨by simp[he.1],λe hm=>?_⟩
 rcases qaP.1 hm with hm|hm
 ·exact he.2 e hm
 ·simp only[qaD]at hm
  subst hm;rfl
end
end Sx
end Go.Am

/-
 SHEETS IN NUMBERS: neighbours and lines by tables;what hangs together;creases as a set.
-/
set_option maxRecDepth 100000
set_option maxHeartbeats 8000000
namespace Go.Am
open Sx Go.Proofs
def clN(w n:Nat):Cl:=(Int.ofNat (n / 4%w),Int.ofNat (n / 4 / w),n%4)
def rkN(w n:Nat):Nat:=10*(n / 4%w+n / 4 / w)+(if n / 4 / w=0/\n / 4%w≠0 then [1,2,1,0]else [0,1,2,1]).getD (n%4) 0
def uE(w v c e:Nat):List Lf:=match nbr w v c e with
 |some n=>[.i (.ofNat n),.i 0]
 |none=>[.i 0,.i 7]
def tabNb(w v:Nat):Bool:=(List.range (4*w*v)).all λc=>(List.range 3).all λe=>tO 62 [.i (.ofNat w),.i (.ofNat v),.i (.ofNat c),.i (.ofNat e)] (uE w v c e)
def tabLn(w v:Nat):Bool:=(aB w v).all λu=>tO 66 [.i (.ofNat w),.i (.ofNat v),.i (.ofNat u.1),.i (.ofNat u.2)] [.i (.ofNat (lnC3 (clN w u.1) u.2).1),.i (lnC3 (clN w u.1) u.2).2,.i 0]
def eqLn(a b:Ln):Bool:=Nat.beq a.1 b.1&&decide (a.2=b.2)
theorem eqLn_iff{a b:Ln}:eqLn a b=true↔a=b:=by
 unfold eqLn
 rw[qaa,decide_eq_true_eq,qdf]
 exact⟨λh=>⟨qac h.1,h.2⟩,λh=>⟨by rw[h.1];exact qb4 _,h.2⟩⟩
def eqCl(a b:Cl):Bool:=decide (a.1=b.1)&&(decide (a.2.1=b.2.1)&&Nat.beq a.2.2 b.2.2)
theorem eqCl_iff{a b:Cl}:eqCl a b=true↔a=b:=by
 unfold eqCl
 rw[qaa,qaa,decide_eq_true_eq,decide_eq_true_eq,qdf,qdf]
 exact⟨λh=>⟨h.1,h.2.1,qac h.2.2⟩,λh=>⟨h.1,h.2.1,by rw[h.2.2];exact qb4 _⟩⟩
def nbT(w v c e:Nat):Bool:=match nbr w v c e with
 |some n=>Nat.blt n (4*w*v)&&((match nbr w v n e with
  |some m=>Nat.beq m c
  |none=>false)&&(eqLn (lnC3 (clN w c) e) (lnC3 (clN w n) e)&&(eqCl (clN w n) (nbC (clN w c) e) && !Nat.beq n c)))
 |none=>true
def lnRng(w c e:Nat):Bool:=Nat.ble 1 (lnC3 (clN w c) e).1&&(Nat.ble (lnC3 (clN w c) e).1 4&&(decide (-10<=(lnC3 (clN w c) e).2)&&decide ((lnC3 (clN w c) e).2<=10)))
def wayT(w v n:Nat):Bool:=Nat.beq n 0||(List.range 3).any λe=>match nbr w v n e with
 |some m=>Nat.blt (rkN w m) (rkN w n)
 |none=>false
def tabNet(w v:Nat):Bool:=(List.range (4*w*v)).all λc=>wayT w v c&&(List.range 3).all λe=>nbT w v c e&&lnRng w c e
def tab71(w v:Nat):Bool:=tabNb w v&&(tabLn w v&&tabNet w v)
theorem all71:∀w v:Nat,1<=w->w<=5->1<=v->v<=5->tab71 w v=true:=by
 have key:((List.range 5).all λw=>(List.range 5).all λv=>tab71 (w+1) (v+1))=true:=by kernel_rfl
 intro w v h1 h2 h3 h4
 have h5:=qab.1 key (w - 1) (qal.2 (by omega))
 have h6:=qab.1 h5 (v - 1) (qal.2 (by omega))
 rw[show w - 1+1=w by omega,show v - 1+1=v by omega]at h6
 exact h6
def Sh(w v:Nat):Prop:=1<=w/\w<=5/\1<=v/\v<=5
section
variable {w v:Nat}
theorem qw(h:Sh w v):tabNb w v=true/\tabLn w v=true/\tabNet w v=true:=by
 have:=all71 w v h.1 h.2.1 h.2.2.1 h.2.2.2
 unfold tab71 at this
 simpa only[qaa]using this
theorem nb_c(h:Sh w v){c e:Nat}(hc:c<4*w*v)(he:e<3):Cc 62 [.i (.ofNat w),.i (.ofNat v),.i (.ofNat c),.i (.ofNat e)] (uE w v c e):=
 jX (qab.1 (qab.1 (qw h).1 c (qal.2 hc)) e (qal.2 he)) rfl (by kernel_rfl) rfl
theorem ln_c(h:Sh w v){u e:Nat}(hu:(u,e)∈aB w v):Cc 66 [.i (.ofNat w),.i (.ofNat v),.i (.ofNat u),.i (.ofNat e)] [.i (.ofNat (lnC3 (clN w u) e).1),.i (lnC3 (clN w u) e).2,.i 0]:=
 jX (qab.1 (qw h).2.1 (u,e) hu) rfl (by kernel_rfl) rfl
theorem net_ok(h:Sh w v){c:Nat}(hc:c<4*w*v):wayT w v c=true/\∀e,e<3->nbT w v c e=true/\lnRng w c e=true:=by
 have:=qab.1 (qw h).2.2 c (qal.2 hc)
 rw[qaa]at this
 refine⟨this.1,λe he=>?_⟩
 have:=qab.1 this.2 e (qal.2 he)
 rwa [qaa]at this
theorem pW(h:Sh w v){c e n:Nat}(hc:c<4*w*v)(he:e<3)(hn:nbr w v c e=some n):n<4*w*v/\nbr w v n e=some c/\lnC3 (clN w c) e=lnC3 (clN w n) e/\clN w n=nbC (clN w c) e/\n≠c:=by
 have:=((net_ok h hc).2 e he).1
 unfold nbT at this
 rw[hn]at this
 simp only[qaa]at this
 obtain⟨h1,h2,h3,h4,h5⟩:=this
 refine⟨by simpa[qaV]using h1,?_,eqLn_iff.1 h3,eqCl_iff.1 h4,λe=>?_⟩
 ·split at h2
  ·rename_i m hm
   rw[hm,qac h2]
  ·cases h2
 ·subst e
  rw[show Nat.beq n n=true from qb4 n]at h5
  cases h5
theorem ln_ok(h:Sh w v){c e:Nat}(hc:c<4*w*v)(he:e<3):1<=(lnC3 (clN w c) e).1/\(lnC3 (clN w c) e).1<=4/\-10<=(lnC3 (clN w c) e).2/\(lnC3 (clN w c) e).2<=10:=by
 have:=((net_ok h hc).2 e he).2
 unfold lnRng at this
 simp only[qaa,qbx,decide_eq_true_eq]at this
 exact this
theorem tb(h:Sh w v){P:Nat->Prop}(h0:P 0)(hs:∀c e n,c<4*w*v->e<3->nbr w v c e=some n->P c->P n):∀n,n<4*w*v->P n:=by
 have main:∀k n,n<4*w*v->rkN w n<k->P n:=by
  intro k
  induction k with
  |zero=>intro n _ hk;omega
  |succ k ih=>
   intro n hn hk
   have hw:=(net_ok h hn).1
   unfold wayT at hw
   rw[qbb]at hw
   rcases hw with hw|hw
   ·rw[qac hw];exact h0
   ·obtain⟨e,he,hm⟩:=qdd.1 hw
    have he:=qal.1 he
    split at hm
    ·rename_i m hnm
     rw[qaV]at hm
     obtain⟨g1,g2,_⟩:=pW h hn he hnm
     exact hs m e n g1 he g2 (ih m g1 (by omega))
    ·cases hm
 intro n hn
 exact main (rkN w n+1) n hn (by omega)
theorem mem_un{c e n:Nat}(hc:c<4*w*v)(he:e<3)(hn:nbr w v c e=some n)(hlt:c<n):(c,e)∈aB w v:=by
 unfold aB
 rw[qbX]
 refine⟨c,qal.2 hc,qa6.2 ⟨e,qal.2 he,?_⟩⟩
 simp[hn,hlt]
theorem ta(h:Sh w v){c e n:Nat}(hc:c<4*w*v)(he:e<3)(hn:nbr w v c e=some n):(min c n,e)∈aB w v/\lnC3 (clN w (min c n)) e=lnC3 (clN w c) e:=by
 obtain⟨g1,g2,g3,_,g5⟩:=pW h hc he hn
 rcases qaz c n with hlt|hge
 ·rw[qce (by omega)]
  exact⟨mem_un hc he hn hlt,rfl⟩
 ·rw[qcy hge]
  exact⟨mem_un g1 he g2 (by omega),g3.symm⟩
end
def bX(c:Crs):Ku:=(c.1,c.2.1)
def isCr(l:List Crs)(u e:Nat):Bool:=decide (((Int.ofNat u,Int.ofNat e):Ku)∈l.map bX)
def SetM(H:HL)(id:Nat)(l:List Crs):Prop:=∃es c,H[id]? = some (.o (.map es c))/\EntS es (l.map bX)
theorem nU{l:List Crs}(h:l.Pairwise λa b=>ltC a b=true):(l.map bX).Nodup:=by
 rw[List.Nodup,qc7]
 refine h.imp λ{a b} hab e=>?_
 unfold ltC at hab
 simp only[qbb,qaa,decide_eq_true_eq]at hab
 unfold bX at e
 simp only[qcs]at e
 omega
theorem creased_c{H:HL}{w v:Int}{x:Value}{l:List Crs}(hl:LsH H x 3 encC l)(hn:(l.map bX).Nodup)(hb:l.length<=1000) :
  ∃G,aW cc ab 63 [.i w,.i v,.v x] (absH ac H) [.v (.map (some H.length))] (absH ac (H++[G]))/\SetM (H++[G]) H.length l:=by
 obtain⟨rs,h',h1,rfl,G,rfl,hS⟩:=x63 (K:=λrs h'=>rs=[.v (.map (some H.length))]/\∃G,h'=H++[G]/\SetM h' H.length l) (H:=H) (glsI (glsI (glsV hl.good gls0))) (by
  unfold f63;simp only[qxh]
  simp(disch:=omega)only[↓qXX]
  refine eC hl ?_
  simp(disch:=omega)only[↓qXX]
  refine eC hl ?_
  refine de (σ:=HO) l.length (λj _=>[.i (Int.ofNat j)]) (λ_ G=>H++[G]) (λj G=>SetM (H++[G]) H.length (l.take j)) (j0:=0) (s0:=.o (.map [] 0)) rfl rfl (qbB _) ⟨[],0,by simp,rfl,λe h=>(by cases h)⟩ ?_
  rintro j G hj ⟨es,c,g1,g2⟩ self hself
  simp(disch:=omega)only[↓qXX]
  by_cases hlt:j<l.length
  ·rw[cS hlt]
   simp(disch:=omega)only[↓qXX]
   obtain⟨a,ha⟩:=bI hlt
   have hl':=hl.pre (h':=H++[G]) ⟨[G],rfl⟩
   refine dg hl' rfl ha ?_
   unfold encC
   simp(disch:=omega)only[↓qXX]
   have hk:bX a∉(l.take j).map bX:=by
    intro hm
    rw[qch]at hm
    have hnd:=hn
    have h3:(l.map bX)[j]? = some (bX a):=by rw[qaw,ha];rfl
    have h4:l.map bX=(l.map bX).take j++bX a :: (l.map bX).drop (j+1):=by
     conv=>lhs;rw[←qcq j (l.map bX)]
     rw[qbz (by rw[qbm];exact hlt)]
     congr 2
     rw[qaE (by rw[qbm];exact hlt)]at h3
     exact qan h3
    rw[h4,List.nodup_append]at hnd
    exact hnd.2.2 _ hm _ qaK rfl
   refine dl (mu_set (C:=cc) (T:=ac) (n:=(H++[G]).length) (by kernel_rfl) (by kernel_rfl) g1 g2 hk) ?_
   rw[ii (by omega)]
   have e:bT (H++[G]) [.set H.length (.map (es++[{ key:=kvU (bX a),val:=.bool true,born:=c }]) (c+1))]=H++[.o (.map (es++[{ key:=kvU (bX a),val:=.bool true,born:=c }]) (c+1))]:=by
    show(H++[G]).set H.length _=_
    simp
   rw[e]
   refine hself _ hlt ⟨es++[{ key:=kvU (bX a),val:=.bool true,born:=c }],c+1,by simp,?_⟩
   have ht:(l.take (j+1)).map bX=(l.take j).map bX++[bX a]:=by
    rw[qcN,ha,qbT];rfl
   rw[ht]
   exact g2.push _ _
  ·obtain rfl:j=l.length:=by omega
   rw[dC (qaA _)]
   simp(disch:=omega)only[↓qXX]
   refine⟨by trivial,G,rfl,?_⟩
   rw[qcV]at g2
   exact⟨es,c,g1,g2⟩)
 exact⟨G,h1,hS⟩
end Go.Am

/-
 PLACES PASSED ON: from a cell to its neighbour.
-/
set_option maxRecDepth 100000
set_option maxHeartbeats 8000000
namespace Go.Am
open Sx Go.Proofs
def encM(m:Mv):List Value:=[.int .u8 (Int.ofNat m.1),.int .i64 m.2.1,.int .i64 m.2.2]
theorem dj(m:Mv):(encM m).length=3:=rfl
def acM(w:Nat)(l:List Crs)(g:Mv)(c n e:Nat):Mv:=if isCr l (min c n) e then bp (ofM (lnC3 (clN w (min c n)) e)) g else g
theorem acM_ok{w v:Nat}(h:Sh w v){l:List Crs}{c e n:Nat}(hc:c<4*w*v)(he:e<3)(hn:nbr w v c e=some n){k:Int}{g:Mv}(hg:okM k g)(hk:0<=k):okM (k+20) (acM w l g c n e):=by
 unfold acM
 obtain⟨_,h2⟩:=ta h hc he hn
 split
 ·rw[h2]
  have hl:=ln_ok h hc he
  have:=eH (rO (n:=10) ⟨hl.2.2.1,hl.2.2.2⟩) hg
  exact bz this (by omega)
 ·exact bz hg (by omega)
theorem qc{h:HL}{p:Value}{cs:List Value}{K:List Value->Prop}{n:Nat}(hp:Ptr h p cs)(hn:cs.length=n)(hk:K cs):P1.peek (.lg cc n p) h (@hid _ ⟨K⟩):=iT (hp.lg hn) hk
theorem uO{h:HL}{p:Value}{cs ds:List Value}{K:List Value->Prop}{o n:Nat}(hp:Ptr h p cs)(hn:o+n<=cs.length)(hd:ds=(cs.drop o).take n)(hk:K ds) :
  P1.opt (fdP o p) (@hid _ ⟨λy=>P1.chk y (@hid _ ⟨P1.peek (.lg cc n y) h (@hid _ ⟨K⟩)⟩)⟩):=by
 subst hd
 obtain⟨q,h3,h4⟩:=hp.fd o n hn
 refine aE h3 (cg h4.good (iT (h4.lg ?_) hk))
 rw[qaY,qbY];omega
theorem across_c{w v:Nat}(hs:Sh w v){l:List Crs}{h:HL}{x pp pm po sl:Value}{mid:Nat}{G:List Mv}(hP:Ptr h pp [.int .i64 (.ofNat w),.int .i64 (.ofNat v),x])(hM:Ptr h pm [.map (some mid)])(hS:SetM h mid l)(hO:Ptr h po [sl])(hG:LsH h sl 3 encM G)
  {c e n:Nat} (hc:c<4*w*v) (he:e<3) (hn:nbr w v c e=some n) {g:Mv} (hg:G[c]? = some g) {k:Int} (hk:okM k g) (hk0:0<=k/\k<=16000) :
  aW cc ab 65 [.i (.ofNat c),.i (.ofNat e),.v pp,.v pm,.v po] (absH ac h) (mvl (acM w l g c n e)) (absH ac h):=by
 obtain⟨es,c0,m1,m2⟩:=hS
 have ht:=ji w v hs.1 hs.2.1 hs.2.2.1 hs.2.2.2
 obtain⟨hu,hln⟩:=ta hs hc he hn
 have hlk:=ln_ok hs hc he
 rw[←hln]at hlk
 have hname:=nameIn ht hc he
 unfold nameN at hname
 rw[hn]at hname
 simp only at hname
 obtain⟨rs,h',h1,rfl,rfl⟩:=x65 (K:=λrs h'=>rs=mvl (acM w l g c n e)/\h'=h) (H:=h) (glsI (glsI (glsV hP.good (glsV hM.good (glsV hO.good gls0))))) (by
  unfold f65;simp only[qxh]
  simp(disch:=omega)only[↓qXX]
  refine uO (ds:=[.int .i64 (.ofNat w),.int .i64 (.ofNat v)]) hP (by simp) rfl ?_
  simp(disch:=omega)only[↓qXX]
  refine ah hname ?_
  simp(disch:=omega)only[↓qXX]
  refine qc hM rfl ?_
  simp(disch:=omega)only[↓qXX]
  refine cg rfl ?_
  simp(disch:=omega)only[↓qXX]
  refine iT (lu_set (C:=cc) (T:=ac) (by kernel_rfl) (by kernel_rfl) m1 m2 (Int.ofNat (min c n),Int.ofNat e)) ?_
  simp(disch:=omega)only[↓qXX]
  unfold acM isCr
  by_cases hcr:((Int.ofNat (min c n),Int.ofNat e):Ku)∈l.map bX
  ·rw[decide_eq_true hcr]
   simp(disch:=omega)only[↓qXX,qbi,if_true]
   refine uO (ds:=[.int .i64 (.ofNat w),.int .i64 (.ofNat v)]) hP (by simp) rfl ?_
   simp(disch:=omega)only[↓qXX]
   refine ah (ln_c hs hu) ?_
   simp(disch:=omega)only[↓qXX]
   refine ah (mlof_c ⟨hlk.1,hlk.2.1⟩ ⟨by omega,by omega⟩) ?_
   simp only[mvl,qao,qam]
   simp(disch:=omega)only[↓qXX]
   refine qc hO rfl ?_
   simp(disch:=omega)only[↓qXX]
   refine cg hG.good ?_
   simp(disch:=omega)only[↓qXX]
   refine dg hG rfl hg ?_
   unfold encM
   simp(disch:=omega)only[↓qXX]
   refine ah (vp (rO (n:=10) ⟨hlk.2.2.1,hlk.2.2.2⟩) hk (by omega)) ?_
   simp only[mvl,qao,qam]
   simp(disch:=omega)only[↓qXX]
   exact⟨by trivial,by trivial⟩
  ·rw[decide_eq_false hcr]
   simp(disch:=omega)only[↓qXX,qcj,qar,if_false]
   refine qc hO rfl ?_
   simp(disch:=omega)only[↓qXX]
   refine cg hG.good ?_
   simp(disch:=omega)only[↓qXX]
   refine dg hG rfl hg ?_
   unfold encM
   simp(disch:=omega)only[↓qXX]
   exact⟨by trivial,by trivial⟩)
 exact h1
end Go.Am

/-
 THE SEARCH OVER THE SHEET: places of all cells,if that of cell 0 is the identity.
-/
set_option maxRecDepth 100000
set_option maxHeartbeats 16000000
namespace Go.Am
open Sx Go.Proofs
theorem callv_cap{g:FuncId}{sg:Sig}{cap:List Value}{ls rs:List Lf}{H H':List HObj}{args:List Value}(hc:aW cc ab g ls H rs H')(hs:ab g=some sg)(xs:List S0)(h1:bu xs sg.ps=true)(h2:bF xs=ls)(h3:ai xs=args++cap) :
  sw cc (.func (.func g) ⟨[]⟩ ⟨cap⟩) args sg.rs H rs H':=by
 obtain⟨sg',xs',ys,c1,c2,c3,c4⟩:=hc
 rw[hs]at c1
 cases c1
 obtain⟨w1,_⟩:=cD c2.1 h1 (c2.2.1.trans h2.symm)
 rw[w1,h3]at c4
 exact⟨ys,c3,.inl ⟨g,⟨[]⟩,⟨cap⟩,rfl,by simpa using c4⟩⟩
theorem kD{α:Type}{e:Nat}{enc:α->List Value}(henc:∀a,(enc a).length=e){h:HL}{id cx len:Nat}{l:List α}{i:Nat}{a:α}{n:Int}{new:List Value}{K:List Value->HL->Prop}(hg:h[id]? = some (.o (.cells (l.flatMap enc) e true)))(hn:n=Int.ofNat i)(hi:i<l.length)(hlen:l.length=len)(hnew:new=enc a)(hk:K [] (putE h id e enc (l.set i a))) :
  P1.opt (idS e (.slice (some ⟨id,0,tag e⟩) len cx) n) (@hid _ ⟨λx=>P1.heap (.st x new) h (@hid _ ⟨K⟩)⟩):=by
 have hp:putE h id e enc l=h:=ep hg
 have:=r_set (C:=cc) (Sg:=ab) (T:=ac) (h:=h) (id:=id) (cx:=cx) (len:=len) (l:=l) henc (bJ hg) hn hi hlen hnew hk
 rw[hp]at this
 exact this
theorem cC{α:Type}{h:HL}{id e j:Nat}{enc:α->List Value}{l:List α}(hj:j≠id):(putE h id e enc l)[j]? = h[j]?:=by
 unfold putE
 rw[qaC (qck hj)]
def encN(n:Nat):List Value:=[.int .i64 (Int.ofNat n)]
theorem uh(n:Nat):(encN n).length=1:=rfl
def encT(t:Bool):List Value:=[.bool t]
theorem kX(t:Bool):(encT t).length=1:=rfl
theorem iG(q:List Nat):(q.flatMap encN).length=q.length:=by
 rw[bb (e:=1) (enc:=encN) λa _=>uh a,qcK]
def WQ(b:Nat)(h:HL)(v:Value)(q:List Nat):Prop:=∃id off cx vs,v = .slice (some ⟨id,off,tag 1⟩) q.length cx/\b<=id/\h[id]? = some (.o (.cells vs 1 true))/\cut vs off (q.length*1)=some (q.flatMap encN)/\(cx=0∨cx=q.length+1)
theorem WQ.ls{b:Nat}{h:HL}{v:Value}{q:List Nat}(hw:WQ b h v q):LsH h v 1 encN q:=by
 obtain⟨id,off,cx,vs,rfl,h1,h2,h3,_⟩:=hw
 exact⟨λa _=>uh a,by rw[iG,qcK],.inr ⟨id,off,cx,vs,true,rfl,h2,h3⟩⟩
theorem WQ.good{b:Nat}{h:HL}{v:Value}{q:List Nat}(hw:WQ b h v q):bc v=true:=hw.ls.good
theorem WQ.keep{b:Nat}{h h':HL}{v:Value}{q:List Nat}(hw:WQ b h v q)(hk:∀(j:Nat) o,b<=j->h[j]? = some o->h'[j]? = some o):WQ b h' v q:=by
 obtain⟨id,off,cx,vs,h0,h1,h2,h3⟩:=hw
 exact⟨id,off,cx,vs,h0,h1,hk _ _ h1 h2,h3⟩
theorem r_tail{b:Nat}{h:HL}{v:Value}{a:Nat}{q:List Nat}{K:Value->Prop}(hw:WQ b h v (a :: q))(hk:∀v',WQ b h v' q->bc v'=true->K v'):P1.opt (slS 1 v (some 1) none none) (@hid _ ⟨K⟩):=by
 obtain⟨id,off,cx,vs,rfl,h1,h2,h3,h4⟩:=hw
 have hr:slS 1 (.slice (some ⟨id,off,tag 1⟩) (a :: q).length cx) (some 1) none none=some (.slice (some ⟨id,off+1,tag 1⟩) q.length (cx - 1)):=by
  unfold slS
  have e1:¬(tag 1≠some 1/\tag 1≠tag 1):=by simp
  simp only[if_neg e1]
  have e2:(0:Int)<=(some (1:Int)).getD 0/\(some (1:Int)).getD 0<=(none:Option Int).getD ((a :: q).length:Int)/\dx (a :: q).length cx none none:=by
   refine⟨by simp,?_,?_⟩
   ·simp only[qbf,qdc,qay];omega
   ·unfold dx
    left;simp
  rw[if_pos e2]
  rw[eL,eL,eL]
  simp[cb]
 refine aE hr (hk _ ⟨id,off+1,cx - 1,vs,rfl,h1,h2,?_,?_⟩ ?_)
 ·have:=sF (h3:cut vs off ((a :: q).length*1)=some _) (o:=1) (k:=q.length*1) (by simp only[qay];omega)
  rw[this]
  simp only[qby,encN,qao,qam,qaJ,qaG,qcK]
  rw[←iG q]
  congr 1
  exact qcV
 ·rcases h4 with h4|h4
  ·left;omega
  ·right;simp only[qay]at h4;omega
 ·simp[bc,noLoc,aZ,bw,bh,aQ,aD,tag]
theorem r_apQ{b:Nat}{h:HL}{v:Value}{q:List Nat}{n m:Nat}{new:List Value}{K:List Value->HL->Prop}(hw:WQ b h v q)(hbh:b<=h.length)(hm:m=h.length)(hnew:new=encN n)(hq:q.length<=1000)
  (hk:∀v' h',WQ b h' v' (q++[n])->bc v'=true->(∀(j:Nat) o,j<b->h[j]? = some o->h'[j]? = some o)->h.length<=h'.length->K [v'] h') :
  P1.heap (.ap cc 1 8 v (.slice (some ⟨m,0,some 11⟩) 1 2)) (h++[.o (.cells new 1 true)]) (@hid _ ⟨K⟩):=by
 subst hm hnew
 obtain⟨id,off,cx,vs,rfl,h1,h2,h3,h4⟩:=hw
 have hlt:=bJ h2
 have hx:SlC (h++[HO.o (.cells (encN n) 1 true)]) (.slice (some ⟨h.length,0,tag 1⟩) 1 2) 1 1 (encN n):=⟨rfl,.inr ⟨h.length,0,2,encN n,true,rfl,by simp,Sx.cut_all rfl⟩⟩
 have hg:(h++[HO.o (.cells (encN n) 1 true)])[id]? = some (.o (.cells vs 1 true)):=by rw[qae hlt];exact h2
 have hsz:cj (q.length+1) 8=true:=by
  unfold cj
  rw[qbU (by omega),qbU (by omega)];rfl
 have gd:∀i,bc (.slice (some ⟨i,0,tag 1⟩) (q.length+1) 0)=true:=λi=>by simp[bc,noLoc,aZ,bw,bh,aQ,aD,tag]
 have hcl:(q.flatMap encN++encN n)=(q++[n]).flatMap encN:=by simp
 have hlen:(q++[n]).length=q.length+1:=by simp
 rcases h4 with rfl|rfl
 ·have hrun:apG cc 1 8 (.slice (some ⟨id,off,tag 1⟩) q.length 0) (.slice (some ⟨h.length,0,tag 1⟩) 1 2) (getH ac (h++[HO.o (.cells (encN n) 1 true)])) (h++[HO.o (.cells (encN n) 1 true)]).length=some ([.set id .dead,.push (.cells (q.flatMap encN++encN n) 1 true)],[.slice (some ⟨(h++[HO.o (.cells (encN n) 1 true)]).length,0,tag 1⟩) (q.length+1) 0]):=by
   unfold apG
   rw[sj hx]
   simp only[ne_eq,not_true_eq_false,if_false]
   rw[bW hg]
   simp only[ne_eq,not_true_eq_false,if_false]
   rw[h3]
   simp only[qc8]
   rw[if_neg (by omega),if_pos hsz]
  refine dl (show(Hp.ap cc 1 8 (.slice (some ⟨id,off,tag 1⟩) q.length 0) (.slice (some ⟨h.length,0,tag 1⟩) 1 2)).run _ _=_ from hrun) ?_
  refine hk _ _ ⟨(h++[HO.o (.cells (encN n) 1 true)]).length,0,0,q.flatMap encN++encN n,by rw[hlen],by simp;omega,?_,?_,.inl rfl⟩ (gd _) (λj o hj ho=>?_) ?_
  ·show(((h++[HO.o (.cells (encN n) 1 true)]).set id (.o .dead))++[HO.o (.cells (q.flatMap encN++encN n) 1 true)])[_]? = _
   rw[qak (by simp)]
   simp
  ·rw[hcl,hlen]
   exact Sx.cut_all (by rw[iG,hlen,qcK])
  ·show(((h++[HO.o (.cells (encN n) 1 true)]).set id (.o .dead))++[HO.o (.cells (q.flatMap encN++encN n) 1 true)])[j]? = _
   have:=bJ ho
   rw[qae (by simp;omega),qaC (by omega),qae this]
   exact ho
  ·show h.length<=(((h++[HO.o (.cells (encN n) 1 true)]).set id (.o .dead))++[HO.o (.cells (q.flatMap encN++encN n) 1 true)]).length
   simp;omega
 ·have hrun:apG cc 1 8 (.slice (some ⟨id,off,tag 1⟩) q.length (q.length+1)) (.slice (some ⟨h.length,0,tag 1⟩) 1 2) (getH ac (h++[HO.o (.cells (encN n) 1 true)])) (h++[HO.o (.cells (encN n) 1 true)]).length=some ([.push (.cells (q.flatMap encN++encN n) 1 true)],[.slice (some ⟨(h++[HO.o (.cells (encN n) 1 true)]).length,0,tag 1⟩) (q.length+1) 0]):=by
   unfold apG
   rw[sj hx]
   simp only[ne_eq,not_true_eq_false,if_false]
   rw[bW hg]
   simp only[ne_eq,not_true_eq_false,if_false]
   rw[h3]
   simp only
   rw[if_neg (by omega),if_pos hsz]
  refine dl (show(Hp.ap cc 1 8 (.slice (some ⟨id,off,tag 1⟩) q.length (q.length+1)) (.slice (some ⟨h.length,0,tag 1⟩) 1 2)).run _ _=_ from hrun) ?_
  refine hk _ _ ⟨(h++[HO.o (.cells (encN n) 1 true)]).length,0,0,q.flatMap encN++encN n,by rw[hlen],by simp;omega,?_,?_,.inl rfl⟩ (gd _) (λj o hj ho=>?_) ?_
  ·show((h++[HO.o (.cells (encN n) 1 true)])++[HO.o (.cells (q.flatMap encN++encN n) 1 true)])[_]? = _
   rw[qak (by simp)]
   simp
  ·rw[hcl,hlen]
   exact Sx.cut_all (by rw[iG,hlen,qcK])
  ·show((h++[HO.o (.cells (encN n) 1 true)])++[HO.o (.cells (q.flatMap encN++encN n) 1 true)])[j]? = _
   have:=bJ ho
   rw[qae (by simp;omega),qae this]
   exact ho
  ·show h.length<=((h++[HO.o (.cells (encN n) 1 true)])++[HO.o (.cells (q.flatMap encN++encN n) 1 true)]).length
   simp
structure RS(H h:HL)(w v:Nat)(x:Value)(l:List Crs)(A:List Mv)(B:List Bool):Prop where
 pre:Pre H h
 len:H.length+6<=h.length
 p:h[H.length]? = some (.o (.cells [.int .i64 (.ofNat w),.int .i64 (.ofNat v),x] 3 true))
 mp:SetM h (H.length+1) l
 mv:h[H.length+2]? = some (.o (.cells [.map (some (H.length+1))] 1 true))
 ol:h[H.length+3]? = some (.o (.cells (A.flatMap encM) 3 true))
 ov:h[H.length+4]? = some (.o (.cells [.slice (some ⟨H.length+3,0,tag 3⟩) (4*w*v) (4*w*v+1)] 1 true))
 kn:h[H.length+5]? = some (.o (.cells (B.flatMap encT) 1 true))
 la:A.length=4*w*v
 lb:B.length=4*w*v
section
variable {H h:HL} {w v:Nat} {x:Value} {l:List Crs} {A:List Mv} {B:List Bool}
abbrev ptrB(b:Nat):Value:=.pointer (some ⟨b,0,none⟩)
theorem gj{h:HL}{b e:Nat}{cs:List Value}(hb:h[b]? = some (.o (.cells cs e true))):Ptr h (ptrB b) cs:=⟨b,0,cs,e,true,rfl,hb,Sx.cut_all rfl⟩
theorem RS.lsA(hr:RS H h w v x l A B):LsH h (.slice (some ⟨H.length+3,0,tag 3⟩) (4*w*v) (4*w*v+1)) 3 encM A:=by
 have hl:=bb (e:=3) (enc:=encM) (l:=A) λa _=>dj a
 rw[←hr.la]
 exact⟨λa _=>dj a,hl,.inr ⟨_,0,_,_,true,rfl,hr.ol,Sx.cut_all hl⟩⟩
theorem RS.lsB(hr:RS H h w v x l A B):LsH h (.slice (some ⟨H.length+5,0,tag 1⟩) (4*w*v) (4*w*v+1)) 1 encT B:=by
 have hl:=bb (e:=1) (enc:=encT) (l:=B) λa _=>kX a
 rw[←hr.lb]
 exact⟨λa _=>kX a,hl,.inr ⟨_,0,_,_,true,rfl,hr.kn,Sx.cut_all hl⟩⟩
theorem RS.keep{h':HL}(hr:RS H h w v x l A B)(hk:∀(j:Nat) o,j<H.length+6->h[j]? = some o->h'[j]? = some o)(hl:h.length<=h'.length):RS H h' w v x l A B:=by
 obtain⟨es,c,m1,m2⟩:=hr.mp
 refine⟨?_,qbH hr.len hl,hk _ _ (by omega) hr.p,⟨es,c,hk _ _ (by omega) m1,m2⟩,hk _ _ (by omega) hr.mv,hk _ _ (by omega) hr.ol,hk _ _ (by omega) hr.ov,hk _ _ (by omega) hr.kn,hr.la,hr.lb⟩
 have hpre:=hr.pre
 refine⟨h'.drop H.length,?_⟩
 apply qbc
 intro i
 rcases qaz i H.length with hi|hi
 ·rw[qae hi]
  have e1:H[i]? = some H[i]:=qaE hi
  rw[e1]
  exact hk _ _ (by omega) (hpre.get e1)
 ·rw[qak hi,qbd,Nat.add_sub_cancel' hi]
theorem fq{α:Type}{id e:Nat}{enc:α->List Value}{L:List α}(hp:Pre H h)(hid:H.length<=id):Pre H (putE h id e enc L):=hp.set hid _
theorem vb{α:Type}{h:HL}{id e:Nat}{enc:α->List Value}{L:List α}:(putE h id e enc L).length=h.length:=by simp[putE]
theorem RS.putA(hr:RS H h w v x l A B){A':List Mv}(ha:A'.length=A.length):RS H (putE h (H.length+3) 3 encM A') w v x l A' B:=by
 obtain⟨es,c,m1,m2⟩:=hr.mp
 have hl:=hr.len
 exact⟨fq hr.pre (by omega),by rw[vb];exact hl,by rw[cC (by omega)];exact hr.p,⟨es,c,by rw[cC (by omega)];exact m1,m2⟩,by rw[cC (by omega)];exact hr.mv,cV (by omega),by rw[cC (by omega)];exact hr.ov,by rw[cC (by omega)];exact hr.kn,by rw[ha];exact hr.la,hr.lb⟩
theorem RS.putB(hr:RS H h w v x l A B){B':List Bool}(hb:B'.length=B.length):RS H (putE h (H.length+5) 1 encT B') w v x l A B':=by
 obtain⟨es,c,m1,m2⟩:=hr.mp
 have hl:=hr.len
 exact⟨fq hr.pre (by omega),by rw[vb];exact hl,by rw[cC (by omega)];exact hr.p,⟨es,c,by rw[cC (by omega)];exact m1,m2⟩,by rw[cC (by omega)];exact hr.mv,by rw[cC (by omega)];exact hr.ol,by rw[cC (by omega)];exact hr.ov,cV (by omega),hr.la,by rw[hb];exact hr.lb⟩
end
end Go.Am

/-
 PLACES.RELATIVE: the places that hang together,or the paper tears.
-/
set_option maxRecDepth 100000
set_option maxHeartbeats 16000000
namespace Go.Am
open Sx Go.Proofs
def gI(w v:Nat)(l:List Crs)(G:Nat->Mv):Prop:=∀c e n,c<4*w*v->e<3->nbr w v c e=some n->G n=acM w l (G c) c n e
def cntT:List Bool->Nat
 | []=>0
 |b :: l=>(if b then 1 else 0)+cntT l
theorem lN:∀l:List Bool,cntT l<=l.length
 | []=>qaA _
 |b :: l=>by
  have:=lN l
  simp only[cntT,qay]
  split<;>omega
theorem iA:∀ {l:List Bool} {n:Nat},l[n]? = some false->cntT (l.set n true)=cntT l+1
 | [],n,h=>by simp at h
 |b :: l,0,h=>by
  simp only[qbl,qau]at h
  subst h
  simp[cntT];omega
 |b :: l,n+1,h=>by
  simp only[qbM]at h
  have:=iA h
  simp only[List.set_cons_succ,cntT,this];omega
structure JS(w v:Nat)(l:List Crs)(A:List Mv)(B:List Bool)(q:List Nat)(D:Nat->Nat->Prop):Prop where
 a0:A[0]? = some idM
 b0:B[0]? = some true
 q1:∀c∈q,B[c]? = some true
 dn:∀c e n,D c e->c<4*w*v->e<3->nbr w v c e=some n->B[c]? = some true->c∉q->B[n]? = some true/\∃a,A[c]? = some a/\A[n]? = some (acM w l a c n e)
 bd:∀(c:Nat) a,B[c]? = some true->A[c]? = some a->okM (20*(cntT B:Int)) a
 un:∀G,gI w v l G->G 0=idM->∀(c:Nat) a,B[c]? = some true->A[c]? = some a->a=G c
structure GoodA(w v:Nat)(l:List Crs)(A:List Mv):Prop where
 len:A.length=4*w*v
 a0:A[0]? = some idM
 ok:∀a∈A,okM 2000 a
 cons:∀c e n a,c<4*w*v->e<3->nbr w v c e=some n->A[c]? = some a->A[n]? = some (acM w l a c n e)
section
variable {w v:Nat} {l:List Crs} {A:List Mv} {B:List Bool} {q:List Nat}
theorem JS.start(hs:Sh w v):JS w v l (List.replicate (4*w*v) idM) ((List.replicate (4*w*v) false).set 0 true) [0] λ_ _=>True:=by
 have hN:0<4*w*v:=by
  have h1:=hs.1
  have h2:=hs.2.2.1
  have:0<w*v:=Nat.mul_pos h1 h2
  rw[Nat.mul_assoc];omega
 have kn:∀c,((List.replicate (4*w*v) false).set 0 true)[c]? = some true->c=0:=by
  intro c hc
  by_cases h0:c=0
  ·exact h0
  ·rw[qaC (qck h0),qaZ]at hc
   split at hc<;>cases hc
 refine⟨by rw[qaZ,if_pos hN],by rw[qaW (by simpa using hN)],λc hc=>?_,λc e n _ _ _ _ hb hq=>?_,λc a hb ha=>?_,λG hG h0 c a hb ha=>?_⟩
 ·simp only[qaD]at hc
  subst hc
  rw[qaW (by simpa using hN)]
 ·exact absurd (by rw[kn c hb];simp) hq
 ·have:=kn c hb
  subst this
  rw[qaZ,if_pos hN]at ha
  cases ha
  exact okM_id (by omega)
 ·have:=kn c hb
  subst this
  rw[qaZ,if_pos hN]at ha
  cases ha
  exact h0.symm
theorem JS.pop{c0:Nat}(h:JS w v l A B (c0 :: q) λ_ _=>True):JS w v l A B q λc e=>c=c0->e<0:=by
 refine⟨h.a0,h.b0,λc hc=>h.q1 c (qaq _ hc),λc e n hd hc he hn hb hq=>?_,h.bd,h.un⟩
 by_cases hcc:c=c0
 ·have:=hd hcc;omega
 ·exact h.dn c e n trivial hc he hn hb λhm=>by
   rcases qaj.1 hm with hm|hm
   ·exact hcc hm
   ·exact hq hm
theorem JS.skip{c0 j:Nat}(h:JS w v l A B q λc e=>c=c0->e<j)(hn:nbr w v c0 j=none):JS w v l A B q λc e=>c=c0->e<j+1:=by
 refine⟨h.a0,h.b0,h.q1,λc e n hd hc he hn' hb hq=>?_,h.bd,h.un⟩
 refine h.dn c e n (λhcc=>?_) hc he hn' hb hq
 have:=hd hcc
 rcases qaz e j with hlt|hge
 ·exact hlt
 ·obtain rfl:e=j:=by omega
  subst hcc
  rw[hn]at hn';cases hn'
theorem JS.seen{c0 j n:Nat}{a:Mv}(h:JS w v l A B q λc e=>c=c0->e<j)(hn:nbr w v c0 j=some n)(hb:B[n]? = some true)(ha:A[c0]? = some a)(hm:A[n]? = some (acM w l a c0 n j)):JS w v l A B q λc e=>c=c0->e<j+1:=by
 refine⟨h.a0,h.b0,h.q1,λc e n' hd hc he hn' hb' hq=>?_,h.bd,h.un⟩
 by_cases hcc:c=c0/\e=j
 ·obtain⟨rfl,rfl⟩:=hcc
  rw[hn]at hn';cases hn'
  exact⟨hb,a,ha,hm⟩
 ·exact h.dn c e n' (λhc'=>by have:=hd hc';have:e≠j:=λhe'=>hcc ⟨hc',he'⟩;omega) hc he hn' hb' hq
theorem JS.fresh(hs:Sh w v){c0 j n:Nat}{a:Mv}(h:JS w v l A B q λc e=>c=c0->e<j)(hla:A.length=4*w*v)(hlb:B.length=4*w*v)(hc0:c0<4*w*v)(hj:j<3)(hn:nbr w v c0 j=some n)(hb0:B[c0]? = some true)(hb:B[n]? = some false)(ha:A[c0]? = some a) :
  JS w v l (A.set n (acM w l a c0 n j)) (B.set n true) (q++[n]) λc e=>c=c0->e<j+1:=by
 obtain⟨g1,_,_,_,g5⟩:=pW hs hc0 hj hn
 have hBn:(B.set n true)[n]? = some true:=qaW (by omega)
 have hAn:(A.set n (acM w l a c0 n j))[n]? = some (acM w l a c0 n j):=qaW (by omega)
 have hB:∀c,c≠n->(B.set n true)[c]? = B[c]?:=λc hc=>qaC (qck hc)
 have hA:∀c,c≠n->(A.set n (acM w l a c0 n j))[c]? = A[c]?:=λc hc=>qaC (qck hc)
 have h0n:(0:Nat)≠n:=λe=>by have:=h.b0;rw[e,hb]at this;cases this
 have hok:okM (20*(cntT B:Int)) a:=h.bd c0 a hb0 ha
 refine⟨by rw[hA 0 h0n];exact h.a0,by rw[hB 0 h0n];exact h.b0,λc hc=>?_,λc e n' hd hc he hn' hbc hq=>?_,λc a' hbc hac=>?_,λG hG hG0 c a' hbc hac=>?_⟩
 ·rcases qaP.1 hc with hc|hc
  ·have:=h.q1 c hc
   by_cases hcn:c=n
   ·rw[hcn];exact hBn
   ·rw[hB c hcn];exact this
  ·simp only[qaD]at hc
   rw[hc];exact hBn
 ·have hcn:c≠n:=λe=>hq (by rw[e];simp)
  have hcq:c∉q:=λhm=>hq (qaQ _ hm)
  rw[hB c hcn]at hbc
  by_cases hcc:c=c0/\e=j
  ·obtain⟨rfl,rfl⟩:=hcc
   rw[hn]at hn';cases hn'
   exact⟨hBn,a,by rw[hA c hcn];exact ha,hAn⟩
  ·obtain⟨d1,a1,d2,d3⟩:=h.dn c e n' (λhc'=>by have:=hd hc';have:e≠j:=λhe'=>hcc ⟨hc',he'⟩;omega) hc he hn' hbc hcq
   have hnn:n'≠n:=λe'=>by rw[e',hb]at d1;cases d1
   exact⟨by rw[hB n' hnn];exact d1,a1,by rw[hA c hcn];exact d2,by rw[hA n' hnn];exact d3⟩
 ·rw[iA hb]
  by_cases hcn:c=n
  ·rw[hcn,hAn]at hac
   cases hac
   exact bz (acM_ok hs hc0 hj hn hok (by omega)) (by omega)
  ·rw[hB c hcn]at hbc
   rw[hA c hcn]at hac
   exact bz (h.bd c a' hbc hac) (by omega)
 ·by_cases hcn:c=n
  ·rw[hcn,hAn]at hac
   cases hac
   rw[hcn,hG c0 j n hc0 hj hn,←h.un G hG hG0 c0 a hb0 ha]
  ·rw[hB c hcn]at hbc
   rw[hA c hcn]at hac
   exact h.un G hG hG0 c a' hbc hac
theorem JS.done{c0:Nat}(h:JS w v l A B q λc e=>c=c0->e<3):JS w v l A B q λ_ _=>True:=
 ⟨h.a0,h.b0,h.q1,λc e n _ hc he hn hb hq=>h.dn c e n (λ_=>he) hc he hn hb hq,h.bd,h.un⟩
theorem sh_N(hs:Sh w v):0<4*w*v/\4*w*v<=100:=by
 have h1:1*1<=w*v:=qc5 hs.1 hs.2.2.1
 have h2:w*v<=5*5:=qc5 hs.2.1 hs.2.2.2
 rw[Nat.mul_assoc];omega
theorem JS.good(hs:Sh w v)(h:JS w v l A B [] λ_ _=>True)(hla:A.length=4*w*v)(hlb:B.length=4*w*v):GoodA w v l A:=by
 have hall:∀n,n<4*w*v->B[n]? = some true:=tb hs h.b0 λc e n hc he hn hb=>(h.dn c e n trivial hc he hn hb (by simp)).1
 have hN:=sh_N hs
 have hcnt:=lN B
 refine⟨hla,h.a0,λa hm=>?_,λc e n a hc he hn ha=>?_⟩
 ·obtain⟨i,hi⟩:=qbk hm
  have:=bJ hi
  exact bz (h.bd i a (hall i (by omega)) hi) (by omega)
 ·obtain⟨_,a',g1,g2⟩:=h.dn c e n trivial hc he hn (hall c hc) (by simp)
  rw[ha]at g1;cases g1
  exact g2
theorem JS.tear(hs:Sh w v){c0 j n:Nat}{a b:Mv}{D:Nat->Nat->Prop}(h:JS w v l A B q D)(hc0:c0<4*w*v)(hj:j<3)(hn:nbr w v c0 j=some n)(hb0:B[c0]? = some true)(hb:B[n]? = some true)(ha:A[c0]? = some a)(hbn:A[n]? = some b)(hne:b≠acM w l a c0 n j):¬ ∃G,gI w v l G/\G 0=idM:=by
 rintro⟨G,hG,hG0⟩
 refine hne ?_
 rw[h.un G hG hG0 n b hb hbn,hG c0 j n hc0 hj hn,←h.un G hG hG0 c0 a hb0 ha]
end
def left(B:List Bool)(q:List Nat):Nat:=q.length+(B.length - cntT B)
end Go.Am

end

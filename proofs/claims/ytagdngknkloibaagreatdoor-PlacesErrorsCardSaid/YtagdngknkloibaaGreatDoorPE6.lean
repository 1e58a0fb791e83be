/-
  PART 6 OF THE PROOF (no conditions).
-/
import Derived.Test.YtagdngknkloibaaGreatDoorPE5
set_option linter.unusedSectionVars false
set_option linter.unusedSimpArgs false
set_option linter.unusedVariables false
set_option linter.constructorNameAsVariable false
set_option linter.defProp false
noncomputable section
set_option maxRecDepth 100000
namespace Go.Am
open Sx Go.Proofs
instance val0 : Val := ⟨λ_ => 0⟩
instance kno0:Kno:=KnoC cc neuN
theorem mixed:cc.P.follows .mixedOrders=true:=by kernel_rfl
theorem jx(g:Nat)(vs:List Value)(h:cc.G g=some vs):vs.all gfl=true:=by
 unfold cc at h
 simp only at h
 split at h<;>first|(cases h;done)|(obtain rfl:=qan h;kernel_rfl)
theorem uL:DrOk cc drN:=drOf_ok neuN_ok (λ_ _ _ _ _ (h:_/\_)=>h.1)
abbrev Ent(k:Nat)(g:FB):Prop:=pf cc ab aa k g
abbrev Cok(c:ac):Prop:=CallBOk cc ab aa c
theorem vE(f:FuncId)(sg:Sig)(ls rs:List Lf)(H':List HObj)(hs:ab f=some sg)(hp:sg.plain=true)(hc:aB cc ab f ls [] rs H'):∀H,aB cc ab f ls H rs H:=ct_of mixed jx hs hp hc
theorem oz{k:Nat}{F:(R HT:Type)->Alg R HT->List Lf->HT->(List Lf->HT->R)->R}{fn:Fn1}(h2:F=λR HT A ls h K=>ai A (xc k) ab drN fn ls h K)(h3:FnIs (xc k) ab k fn){c:ac}(hc:Cok c){l:List (Nat×FB)}(hl:∀p∈l,Ent p.1 p.2):Ent k (F RT HTr (BA ab aa (tblF l c))):=by
 intro ls h K w hls hk
 rw[h2]at hk
 obtain⟨rs,h',a1,_,a3⟩:=pR (BA_ok (w:=w) (ur hc hl)) uL h3 hls hk
 exact⟨rs,h',a1,a3⟩
theorem aN:∀p∈([]:List (Nat×FB)),Ent p.1 p.2:=λ_ h=>by cases h
theorem aC{k:Nat}{g:FB}{l:List (Nat×FB)}(h:Ent k g)(t:∀p∈l,Ent p.1 p.2):∀p∈(k,g) :: l,Ent p.1 p.2:=λp hp=>by
 rcases qam.1 hp with rfl|hp
 ·exact h
 ·exact t p hp
theorem ent_ro{k:Nat}{g:FB}{sg:Sig}(h:Ent k g)(h4:ab k=some sg)(h5:sg.rs.all SK.plain=true)(h6:neuN k=none):Ent k (memoR g):=memoR_ok (λls0 rs H0 H' H σ hc hb hl=>call_ro mixed jx h4 h5 h6 σ hc hb hl) h
theorem ah{k:Nat}{g:FB}{sg:Sig}(h:Ent k g)(h4:ab k=some sg)(h5:sg.plain=true):Ent k (memo g):=memo_ok vE h h4 h5
def w60(c:ac):FB:=memo (f60 (BA ab aa (tblF [] c)))
theorem ok60{c:ac}(hc:Cok c):Ent 60 (w60 c):=ah (oz e60 i60 hc aN) rfl (by kernel_rfl)
def w97(c:ac):FB:=f97 (BA ab aa (tblF [] c))
theorem ok97{c:ac}(hc:Cok c):Ent 97 (w97 c):=oz e97 i97 hc aN
def w61(c:ac):FB:=f61 (BA ab aa (tblF [(97,w97 c)] c))
theorem ok61{c:ac}(hc:Cok c):Ent 61 (w61 c):=oz e61 i61 hc (aC (ok97 hc) aN)
def w111(c:ac):FB:=memo (f111 (BA ab aa (tblF [] c)))
theorem ok111{c:ac}(hc:Cok c):Ent 111 (w111 c):=ah (oz e111 i111 hc aN) rfl (by kernel_rfl)
def w112(c:ac):FB:=memo (f112 (BA ab aa (tblF [] c)))
theorem ok112{c:ac}(hc:Cok c):Ent 112 (w112 c):=ah (oz e112 i112 hc aN) rfl (by kernel_rfl)
def w72(c:ac):FB:=memo (f72 (BA ab aa (tblF [(60,w60 c),(111,w111 c),(112,w112 c)] c)))
theorem ok72{c:ac}(hc:Cok c):Ent 72 (w72 c):=ah (oz e72 i72 hc (aC (ok60 hc) (aC (ok111 hc) (aC (ok112 hc) aN)))) rfl (by kernel_rfl)
def w117(c:ac):FB:=memo (f117 (BA ab aa (tblF [] c)))
theorem tN{c:ac}(hc:Cok c):Ent 117 (w117 c):=ah (oz e117 i117 hc aN) rfl (by kernel_rfl)
def w125(c:ac):FB:=memo (f125 (BA ab aa (tblF [(60,w60 c),(117,w117 c)] c)))
theorem ok125{c:ac}(hc:Cok c):Ent 125 (w125 c):=ah (oz e125 i125 hc (aC (ok60 hc) (aC (tN hc) aN))) rfl (by kernel_rfl)
def w129(c:ac):FB:=memo (f129 (BA ab aa (tblF [(117,w117 c)] c)))
theorem ok129{c:ac}(hc:Cok c):Ent 129 (w129 c):=ah (oz e129 i129 hc (aC (tN hc) aN)) rfl (by kernel_rfl)
def w98(c:ac):FB:=memo (f98 (BA ab aa (tblF [(72,w72 c),(125,w125 c),(129,w129 c)] c)))
theorem ok98{c:ac}(hc:Cok c):Ent 98 (w98 c):=ah (oz e98 i98 hc (aC (ok72 hc) (aC (ok125 hc) (aC (ok129 hc) aN)))) rfl (by kernel_rfl)
def w64(c:ac):FB:=memo (f64 (BA ab aa (tblF [(98,w98 c)] c)))
theorem ok64{c:ac}(hc:Cok c):Ent 64 (w64 c):=ah (oz e64 i64 hc (aC (ok98 hc) aN)) rfl (by kernel_rfl)
def w65(c:ac):FB:=memo (f65 (BA ab aa (tblF [] c)))
theorem ok65{c:ac}(hc:Cok c):Ent 65 (w65 c):=ah (oz e65 i65 hc aN) rfl (by kernel_rfl)
def w66(c:ac):FB:=memo (f66 (BA ab aa (tblF [] c)))
theorem ok66{c:ac}(hc:Cok c):Ent 66 (w66 c):=ah (oz e66 i66 hc aN) rfl (by kernel_rfl)
def w32(c:ac):FB:=memoR (f32 (BA ab aa (tblF [(60,w60 c),(61,w61 c),(64,w64 c),(65,w65 c),(66,w66 c)] c)))
theorem ok32{c:ac}(hc:Cok c):Ent 32 (w32 c):=ent_ro (oz e32 i32 hc (aC (ok60 hc) (aC (ok61 hc) (aC (ok64 hc) (aC (ok65 hc) (aC (ok66 hc) aN)))))) rfl (by kernel_rfl) (by kernel_rfl)
def w106(c:ac):FB:=memo (f106 (BA ab aa (tblF [] c)))
theorem ok106{c:ac}(hc:Cok c):Ent 106 (w106 c):=ah (oz e106 i106 hc aN) rfl (by kernel_rfl)
def w70(c:ac):FB:=memo (f70 (BA ab aa (tblF [(106,w106 c)] c)))
theorem ok70{c:ac}(hc:Cok c):Ent 70 (w70 c):=ah (oz e70 i70 hc (aC (ok106 hc) aN)) rfl (by kernel_rfl)
def w107(c:ac):FB:=f107 (BA ab aa (tblF [] c))
theorem ok107{c:ac}(hc:Cok c):Ent 107 (w107 c):=oz e107 i107 hc aN
def w108(c:ac):FB:=memo (f108 (BA ab aa (tblF [(60,w60 c)] c)))
theorem ok108{c:ac}(hc:Cok c):Ent 108 (w108 c):=ah (oz e108 i108 hc (aC (ok60 hc) aN)) rfl (by kernel_rfl)
def w71(c:ac):FB:=f71 (BA ab aa (tblF [(98,w98 c),(107,w107 c),(108,w108 c)] c))
theorem ok71{c:ac}(hc:Cok c):Ent 71 (w71 c):=oz e71 i71 hc (aC (ok98 hc) (aC (ok107 hc) (aC (ok108 hc) aN)))
def w113(c:ac):FB:=memo (f113 (BA ab aa (tblF [] c)))
theorem ok113{c:ac}(hc:Cok c):Ent 113 (w113 c):=ah (oz e113 i113 hc aN) rfl (by kernel_rfl)
def w114(c:ac):FB:=memo (f114 (BA ab aa (tblF [(70,w70 c)] c)))
theorem ok114{c:ac}(hc:Cok c):Ent 114 (w114 c):=ah (oz e114 i114 hc (aC (ok70 hc) aN)) rfl (by kernel_rfl)
def w115(c:ac):FB:=memo (f115 (BA ab aa (tblF [] c)))
theorem ok115{c:ac}(hc:Cok c):Ent 115 (w115 c):=ah (oz e115 i115 hc aN) rfl (by kernel_rfl)
def w116(c:ac):FB:=memo (f116 (BA ab aa (tblF [(113,w113 c)] c)))
theorem ok116{c:ac}(hc:Cok c):Ent 116 (w116 c):=ah (oz e116 i116 hc (aC (ok113 hc) aN)) rfl (by kernel_rfl)
def w73(c:ac):FB:=memo (f73 (BA ab aa (tblF [(70,w70 c),(113,w113 c),(114,w114 c),(115,w115 c),(116,w116 c)] c)))
theorem ok73{c:ac}(hc:Cok c):Ent 73 (w73 c):=ah (oz e73 i73 hc (aC (ok70 hc) (aC (ok113 hc) (aC (ok114 hc) (aC (ok115 hc) (aC (ok116 hc) aN)))))) rfl (by kernel_rfl)
def w140(c:ac):FB:=memo (f140 (BA ab aa (tblF [] c)))
theorem ok140{c:ac}(hc:Cok c):Ent 140 (w140 c):=ah (oz e140 i140 hc aN) rfl (by kernel_rfl)
def w90(c:ac):FB:=memo (f90 (BA ab aa (tblF [] c)))
theorem ok90{c:ac}(hc:Cok c):Ent 90 (w90 c):=ah (oz e90 i90 hc aN) rfl (by kernel_rfl)
def w141(c:ac):FB:=memo (f141 (BA ab aa (tblF [(70,w70 c),(90,w90 c),(113,w113 c)] c)))
theorem ok141{c:ac}(hc:Cok c):Ent 141 (w141 c):=ah (oz e141 i141 hc (aC (ok70 hc) (aC (ok90 hc) (aC (ok113 hc) aN)))) rfl (by kernel_rfl)
def w118(c:ac):FB:=memo (f118 (BA ab aa (tblF [(140,w140 c),(141,w141 c)] c)))
theorem ok118{c:ac}(hc:Cok c):Ent 118 (w118 c):=ah (oz e118 i118 hc (aC (ok140 hc) (aC (ok141 hc) aN))) rfl (by kernel_rfl)
def w74(c:ac):FB:=memo (f74 (BA ab aa (tblF [(70,w70 c),(117,w117 c),(118,w118 c)] c)))
theorem ok74{c:ac}(hc:Cok c):Ent 74 (w74 c):=ah (oz e74 i74 hc (aC (ok70 hc) (aC (tN hc) (aC (ok118 hc) aN)))) rfl (by kernel_rfl)
def w42(c:ac):FB:=f42 (BA ab aa (tblF [(32,w32 c),(70,w70 c),(71,w71 c),(72,w72 c),(73,w73 c),(74,w74 c)] c))
theorem ok42{c:ac}(hc:Cok c):Ent 42 (w42 c):=oz e42 i42 hc (aC (ok32 hc) (aC (ok70 hc) (aC (ok71 hc) (aC (ok72 hc) (aC (ok73 hc) (aC (ok74 hc) aN))))))
def w13(c:ac):FB:=f13 (BA ab aa (tblF [(42,w42 c)] c))
theorem ok13{c:ac}(hc:Cok c):Ent 13 (w13 c):=oz e13 i13 hc (aC (ok42 hc) aN)
def w43(c:ac):FB:=memo (f43 (BA ab aa (tblF [(70,w70 c)] c)))
theorem ok43{c:ac}(hc:Cok c):Ent 43 (w43 c):=ah (oz e43 i43 hc (aC (ok70 hc) aN)) rfl (by kernel_rfl)
def w14(c:ac):FB:=f14 (BA ab aa (tblF [(42,w42 c),(43,w43 c)] c))
theorem ok14{c:ac}(hc:Cok c):Ent 14 (w14 c):=oz e14 i14 hc (aC (ok42 hc) (aC (ok43 hc) aN))
def w21(c:ac):FB:=f21 (BA ab aa (tblF [(42,w42 c)] c))
theorem ok21{c:ac}(hc:Cok c):Ent 21 (w21 c):=oz e21 i21 hc (aC (ok42 hc) aN)
def w142(c:ac):FB:=f142 (BA ab aa (tblF [] c))
theorem ok142{c:ac}(hc:Cok c):Ent 142 (w142 c):=oz e142 i142 hc aN
def w119(c:ac):FB:=f119 (BA ab aa (tblF [(142,w142 c)] c))
theorem ok119{c:ac}(hc:Cok c):Ent 119 (w119 c):=oz e119 i119 hc (aC (ok142 hc) aN)
def w77(c:ac):FB:=f77 (BA ab aa (tblF [(119,w119 c)] c))
theorem ok77{c:ac}(hc:Cok c):Ent 77 (w77 c):=oz e77 i77 hc (aC (ok119 hc) aN)
def w78(c:ac):FB:=f78 (BA ab aa (tblF [] c))
theorem ok78{c:ac}(hc:Cok c):Ent 78 (w78 c):=oz e78 i78 hc aN
def w81(c:ac):FB:=f81 (BA ab aa (tblF [] c))
theorem ok81{c:ac}(hc:Cok c):Ent 81 (w81 c):=oz e81 i81 hc aN
def w82(c:ac):FB:=f82 (BA ab aa (tblF [] c))
theorem ok82{c:ac}(hc:Cok c):Ent 82 (w82 c):=oz e82 i82 hc aN
def w49(c:ac):FB:=f49 (BA ab aa (tblF [(77,w77 c),(78,w78 c),(81,w81 c),(82,w82 c)] c))
theorem ok49{c:ac}(hc:Cok c):Ent 49 (w49 c):=oz e49 i49 hc (aC (ok77 hc) (aC (ok78 hc) (aC (ok81 hc) (aC (ok82 hc) aN))))
def w22(c:ac):FB:=f22 (BA ab aa (tblF [(13,w13 c),(49,w49 c)] c))
theorem ok22{c:ac}(hc:Cok c):Ent 22 (w22 c):=oz e22 i22 hc (aC (ok13 hc) (aC (ok49 hc) aN))
def w23(c:ac):FB:=f23 (BA ab aa (tblF [(13,w13 c)] c))
theorem ok23{c:ac}(hc:Cok c):Ent 23 (w23 c):=oz e23 i23 hc (aC (ok13 hc) aN)
def w46(c:ac):FB:=memo (f46 (BA ab aa (tblF [] c)))
theorem ok46{c:ac}(hc:Cok c):Ent 46 (w46 c):=ah (oz e46 i46 hc aN) rfl (by kernel_rfl)
def w75(c:ac):FB:=memo (f75 (BA ab aa (tblF [] c)))
theorem ok75{c:ac}(hc:Cok c):Ent 75 (w75 c):=ah (oz e75 i75 hc aN) rfl (by kernel_rfl)
def w45(c:ac):FB:=memo (f45 (BA ab aa (tblF [(46,w46 c),(75,w75 c)] c)))
theorem ok45{c:ac}(hc:Cok c):Ent 45 (w45 c):=ah (oz e45 i45 hc (aC (ok46 hc) (aC (ok75 hc) aN))) rfl (by kernel_rfl)
def w76(c:ac):FB:=memo (f76 (BA ab aa (tblF [(75,w75 c)] c)))
theorem ok76{c:ac}(hc:Cok c):Ent 76 (w76 c):=ah (oz e76 i76 hc (aC (ok75 hc) aN)) rfl (by kernel_rfl)
def w47(c:ac):FB:=memo (f47 (BA ab aa (tblF [(75,w75 c),(76,w76 c)] c)))
theorem ok47{c:ac}(hc:Cok c):Ent 47 (w47 c):=ah (oz e47 i47 hc (aC (ok75 hc) (aC (ok76 hc) aN))) rfl (by kernel_rfl)
def w48(c:ac):FB:=memo (f48 (BA ab aa (tblF [(46,w46 c)] c)))
theorem ok48{c:ac}(hc:Cok c):Ent 48 (w48 c):=ah (oz e48 i48 hc (aC (ok46 hc) aN)) rfl (by kernel_rfl)
def w18(c:ac):FB:=memo (f18 (BA ab aa (tblF [(45,w45 c),(46,w46 c),(47,w47 c),(48,w48 c)] c)))
theorem ok18{c:ac}(hc:Cok c):Ent 18 (w18 c):=ah (oz e18 i18 hc (aC (ok45 hc) (aC (ok46 hc) (aC (ok47 hc) (aC (ok48 hc) aN))))) rfl (by kernel_rfl)
def w44(c:ac):FB:=memo (f44 (BA ab aa (tblF [] c)))
theorem ok44{c:ac}(hc:Cok c):Ent 44 (w44 c):=ah (oz e44 i44 hc aN) rfl (by kernel_rfl)
def w17(c:ac):FB:=memo (f17 (BA ab aa (tblF [(18,w18 c),(44,w44 c)] c)))
theorem ok17{c:ac}(hc:Cok c):Ent 17 (w17 c):=ah (oz e17 i17 hc (aC (ok18 hc) (aC (ok44 hc) aN))) rfl (by kernel_rfl)
def w15(c:ac):FB:=f15 (BA ab aa (tblF [(17,w17 c)] c))
theorem ok15{c:ac}(hc:Cok c):Ent 15 (w15 c):=oz e15 i15 hc (aC (ok17 hc) aN)
def w16(c:ac):FB:=f16 (BA ab aa (tblF [(15,w15 c)] c))
theorem ok16{c:ac}(hc:Cok c):Ent 16 (w16 c):=oz e16 i16 hc (aC (ok15 hc) aN)
def w30(c:ac):FB:=f30 (BA ab aa (tblF [] c))
theorem ok30{c:ac}(hc:Cok c):Ent 30 (w30 c):=oz e30 i30 hc aN
def w93(c:ac):FB:=memo (f93 (BA ab aa (tblF [] c)))
theorem ok93{c:ac}(hc:Cok c):Ent 93 (w93 c):=ah (oz e93 i93 hc aN) rfl (by kernel_rfl)
def w96(c:ac):FB:=memo (f96 (BA ab aa (tblF [(93,w93 c)] c)))
theorem ok96{c:ac}(hc:Cok c):Ent 96 (w96 c):=ah (oz e96 i96 hc (aC (ok93 hc) aN)) rfl (by kernel_rfl)
def w58(c:ac):FB:=memo (f58 (BA ab aa (tblF [(93,w93 c),(96,w96 c)] c)))
theorem ok58{c:ac}(hc:Cok c):Ent 58 (w58 c):=ah (oz e58 i58 hc (aC (ok93 hc) (aC (ok96 hc) aN))) rfl (by kernel_rfl)
def w59(c:ac):FB:=memo (f59 (BA ab aa (tblF [(47,w47 c),(96,w96 c)] c)))
theorem ok59{c:ac}(hc:Cok c):Ent 59 (w59 c):=ah (oz e59 i59 hc (aC (ok47 hc) (aC (ok96 hc) aN))) rfl (by kernel_rfl)
def w31(c:ac):FB:=memo (f31 (BA ab aa (tblF [(45,w45 c),(58,w58 c),(59,w59 c)] c)))
theorem ok31{c:ac}(hc:Cok c):Ent 31 (w31 c):=ah (oz e31 i31 hc (aC (ok45 hc) (aC (ok58 hc) (aC (ok59 hc) aN)))) rfl (by kernel_rfl)
def w8(c:ac):FB:=f8 (BA ab aa (tblF [(15,w15 c),(16,w16 c),(17,w17 c),(30,w30 c),(31,w31 c)] c))
theorem ok8{c:ac}(hc:Cok c):Ent 8 (w8 c):=oz e8 i8 hc (aC (ok15 hc) (aC (ok16 hc) (aC (ok17 hc) (aC (ok30 hc) (aC (ok31 hc) aN)))))
def w55(c:ac):FB:=memo (f55 (BA ab aa (tblF [(46,w46 c),(48,w48 c),(93,w93 c)] c)))
theorem ok55{c:ac}(hc:Cok c):Ent 55 (w55 c):=ah (oz e55 i55 hc (aC (ok46 hc) (aC (ok48 hc) (aC (ok93 hc) aN)))) rfl (by kernel_rfl)
def w27(c:ac):FB:=f27 (BA ab aa (tblF [(30,w30 c),(55,w55 c)] c))
theorem ok27{c:ac}(hc:Cok c):Ent 27 (w27 c):=oz e27 i27 hc (aC (ok30 hc) (aC (ok55 hc) aN))
def w53(c:ac):FB:=memo (f53 (BA ab aa (tblF [] c)))
theorem ok53{c:ac}(hc:Cok c):Ent 53 (w53 c):=ah (oz e53 i53 hc aN) rfl (by kernel_rfl)
def w54(c:ac):FB:=memo (f54 (BA ab aa (tblF [] c)))
theorem ok54{c:ac}(hc:Cok c):Ent 54 (w54 c):=ah (oz e54 i54 hc aN) rfl (by kernel_rfl)
def w26(c:ac):FB:=f26 (BA ab aa (tblF [(8,w8 c),(27,w27 c),(53,w53 c),(54,w54 c)] c))
theorem ok26{c:ac}(hc:Cok c):Ent 26 (w26 c):=oz e26 i26 hc (aC (ok8 hc) (aC (ok27 hc) (aC (ok53 hc) (aC (ok54 hc) aN))))
def w56(c:ac):FB:=f56 (BA ab aa (tblF [] c))
theorem ok56{c:ac}(hc:Cok c):Ent 56 (w56 c):=oz e56 i56 hc aN
def w28(c:ac):FB:=f28 (BA ab aa (tblF [(56,w56 c)] c))
theorem ok28{c:ac}(hc:Cok c):Ent 28 (w28 c):=oz e28 i28 hc (aC (ok56 hc) aN)
def w94(c:ac):FB:=f94 (BA ab aa (tblF [] c))
theorem ok94{c:ac}(hc:Cok c):Ent 94 (w94 c):=oz e94 i94 hc aN
def w95(c:ac):FB:=memo (f95 (BA ab aa (tblF [] c)))
theorem ok95{c:ac}(hc:Cok c):Ent 95 (w95 c):=ah (oz e95 i95 hc aN) rfl (by kernel_rfl)
def w57(c:ac):FB:=f57 (BA ab aa (tblF [(94,w94 c),(95,w95 c)] c))
theorem ok57{c:ac}(hc:Cok c):Ent 57 (w57 c):=oz e57 i57 hc (aC (ok94 hc) (aC (ok95 hc) aN))
def w29(c:ac):FB:=f29 (BA ab aa (tblF [(57,w57 c)] c))
theorem ok29{c:ac}(hc:Cok c):Ent 29 (w29 c):=oz e29 i29 hc (aC (ok57 hc) aN)
def w7(c:ac):FB:=f7 (BA ab aa (tblF [(13,w13 c),(14,w14 c),(21,w21 c),(22,w22 c),(23,w23 c),(26,w26 c),(27,w27 c),(28,w28 c),(29,w29 c)] c))
theorem ok7{c:ac}(hc:Cok c):Ent 7 (w7 c):=oz e7 i7 hc (aC (ok13 hc) (aC (ok14 hc) (aC (ok21 hc) (aC (ok22 hc) (aC (ok23 hc) (aC (ok26 hc) (aC (ok27 hc) (aC (ok28 hc) (aC (ok29 hc) aN)))))))))
def w99(c:ac):FB:=f99 (BA ab aa (tblF [] c))
theorem ok99{c:ac}(hc:Cok c):Ent 99 (w99 c):=oz e99 i99 hc aN
def w67(c:ac):FB:=f67 (BA ab aa (tblF [(60,w60 c),(99,w99 c)] c))
theorem ok67{c:ac}(hc:Cok c):Ent 67 (w67 c):=oz e67 i67 hc (aC (ok60 hc) (aC (ok99 hc) aN))
def w33(c:ac):FB:=f33 (BA ab aa (tblF [(67,w67 c)] c))
theorem ok33{c:ac}(hc:Cok c):Ent 33 (w33 c):=oz e33 i33 hc (aC (ok67 hc) aN)
def w34(c:ac):FB:=f34 (BA ab aa (tblF [] c))
theorem ok34{c:ac}(hc:Cok c):Ent 34 (w34 c):=oz e34 i34 hc aN
def w9(c:ac):FB:=f9 (BA ab aa (tblF [(32,w32 c),(33,w33 c),(34,w34 c)] c))
theorem ok9{c:ac}(hc:Cok c):Ent 9 (w9 c):=oz e9 i9 hc (aC (ok32 hc) (aC (ok33 hc) (aC (ok34 hc) aN)))
def w38(c:ac):FB:=memo (f38 (BA ab aa (tblF [] c)))
theorem ok38{c:ac}(hc:Cok c):Ent 38 (w38 c):=ah (oz e38 i38 hc aN) rfl (by kernel_rfl)
def w83(c:ac):FB:=memo (f83 (BA ab aa (tblF [(60,w60 c)] c)))
theorem ok83{c:ac}(hc:Cok c):Ent 83 (w83 c):=ah (oz e83 i83 hc (aC (ok60 hc) aN)) rfl (by kernel_rfl)
def w84(c:ac):FB:=f84 (BA ab aa (tblF [] c))
theorem ok84{c:ac}(hc:Cok c):Ent 84 (w84 c):=oz e84 i84 hc aN
def w152(c:ac):FB:=memo (f152 (BA ab aa (tblF [] c)))
theorem ok152{c:ac}(hc:Cok c):Ent 152 (w152 c):=ah (oz e152 i152 hc aN) rfl (by kernel_rfl)
def w122(c:ac):FB:=memo (f122 (BA ab aa (tblF [(152,w152 c)] c)))
theorem ok122{c:ac}(hc:Cok c):Ent 122 (w122 c):=ah (oz e122 i122 hc (aC (ok152 hc) aN)) rfl (by kernel_rfl)
def w158(c:ac):FB:=f158 (BA ab aa (tblF [] c))
theorem ok158{c:ac}(hc:Cok c):Ent 158 (w158 c):=oz e158 i158 hc aN
def w131(c:ac):FB:=f131 (BA ab aa (tblF [(158,w158 c)] c))
theorem ok131{c:ac}(hc:Cok c):Ent 131 (w131 c):=oz e131 i131 hc (aC (ok158 hc) aN)
def w86(c:ac):FB:=f86 (BA ab aa (tblF [(122,w122 c),(131,w131 c)] c))
theorem ok86{c:ac}(hc:Cok c):Ent 86 (w86 c):=oz e86 i86 hc (aC (ok122 hc) (aC (ok131 hc) aN))
def w88(c:ac):FB:=f88 (BA ab aa (tblF [] c))
theorem ok88{c:ac}(hc:Cok c):Ent 88 (w88 c):=oz e88 i88 hc aN
def w50(c:ac):FB:=f50 (BA ab aa (tblF [(32,w32 c),(83,w83 c),(84,w84 c),(86,w86 c),(88,w88 c)] c))
theorem ok50{c:ac}(hc:Cok c):Ent 50 (w50 c):=oz e50 i50 hc (aC (ok32 hc) (aC (ok83 hc) (aC (ok84 hc) (aC (ok86 hc) (aC (ok88 hc) aN)))))
def w91(c:ac):FB:=memo (f91 (BA ab aa (tblF [] c)))
theorem ok91{c:ac}(hc:Cok c):Ent 91 (w91 c):=ah (oz e91 i91 hc aN) rfl (by kernel_rfl)
def w92(c:ac):FB:=memo (f92 (BA ab aa (tblF [] c)))
theorem ok92{c:ac}(hc:Cok c):Ent 92 (w92 c):=ah (oz e92 i92 hc aN) rfl (by kernel_rfl)
def w52(c:ac):FB:=memo (f52 (BA ab aa (tblF [(90,w90 c),(91,w91 c),(92,w92 c)] c)))
theorem ok52{c:ac}(hc:Cok c):Ent 52 (w52 c):=ah (oz e52 i52 hc (aC (ok90 hc) (aC (ok91 hc) (aC (ok92 hc) aN)))) rfl (by kernel_rfl)
def w24(c:ac):FB:=f24 (BA ab aa (tblF [(38,w38 c),(50,w50 c),(52,w52 c)] c))
theorem ok24{c:ac}(hc:Cok c):Ent 24 (w24 c):=oz e24 i24 hc (aC (ok38 hc) (aC (ok50 hc) (aC (ok52 hc) aN)))
def w135(c:ac):FB:=f135 (BA ab aa (tblF [] c))
theorem ok135{c:ac}(hc:Cok c):Ent 135 (w135 c):=oz e135 i135 hc aN
def w166(c:ac):FB:=f166 (BA ab aa (tblF [] c))
theorem ok166{c:ac}(hc:Cok c):Ent 166 (w166 c):=oz e166 i166 hc aN
def w132(c:ac):FB:=f132 (BA ab aa (tblF [(60,w60 c),(135,w135 c),(166,w166 c)] c))
theorem ok132{c:ac}(hc:Cok c):Ent 132 (w132 c):=oz e132 i132 hc (aC (ok60 hc) (aC (ok135 hc) (aC (ok166 hc) aN)))
def w138(c:ac):FB:=memo (f138 (BA ab aa (tblF [(60,w60 c),(64,w64 c),(112,w112 c)] c)))
theorem ok138{c:ac}(hc:Cok c):Ent 138 (w138 c):=ah (oz e138 i138 hc (aC (ok60 hc) (aC (ok64 hc) (aC (ok112 hc) aN)))) rfl (by kernel_rfl)
def w139(c:ac):FB:=memo (f139 (BA ab aa (tblF [(92,w92 c),(117,w117 c)] c)))
theorem ok139{c:ac}(hc:Cok c):Ent 139 (w139 c):=ah (oz e139 i139 hc (aC (ok92 hc) (aC (tN hc) aN))) rfl (by kernel_rfl)
def w110(c:ac):FB:=memo (f110 (BA ab aa (tblF [(138,w138 c),(139,w139 c)] c)))
theorem ok110{c:ac}(hc:Cok c):Ent 110 (w110 c):=ah (oz e110 i110 hc (aC (ok138 hc) (aC (ok139 hc) aN))) rfl (by kernel_rfl)
def w153(c:ac):FB:=memo (f153 (BA ab aa (tblF [(117,w117 c)] c)))
theorem ok153{c:ac}(hc:Cok c):Ent 153 (w153 c):=ah (oz e153 i153 hc (aC (tN hc) aN)) rfl (by kernel_rfl)
def w154(c:ac):FB:=memo (f154 (BA ab aa (tblF [(138,w138 c),(153,w153 c)] c)))
theorem ok154{c:ac}(hc:Cok c):Ent 154 (w154 c):=ah (oz e154 i154 hc (aC (ok138 hc) (aC (ok153 hc) aN))) rfl (by kernel_rfl)
def w167(c:ac):FB:=memo (f167 (BA ab aa (tblF [] c)))
theorem ok167{c:ac}(hc:Cok c):Ent 167 (w167 c):=ah (oz e167 i167 hc aN) rfl (by kernel_rfl)
def w133(c:ac):FB:=memo (f133 (BA ab aa (tblF [(110,w110 c),(154,w154 c),(167,w167 c)] c)))
theorem ok133{c:ac}(hc:Cok c):Ent 133 (w133 c):=ah (oz e133 i133 hc (aC (ok110 hc) (aC (ok154 hc) (aC (ok167 hc) aN)))) rfl (by kernel_rfl)
def w100(c:ac):FB:=f100 (BA ab aa (tblF [(132,w132 c),(133,w133 c)] c))
theorem ok100{c:ac}(hc:Cok c):Ent 100 (w100 c):=oz e100 i100 hc (aC (ok132 hc) (aC (ok133 hc) aN))
def w134(c:ac):FB:=memo (f134 (BA ab aa (tblF [(92,w92 c)] c)))
theorem ok134{c:ac}(hc:Cok c):Ent 134 (w134 c):=ah (oz e134 i134 hc (aC (ok92 hc) aN)) rfl (by kernel_rfl)
def w101(c:ac):FB:=f101 (BA ab aa (tblF [(134,w134 c),(135,w135 c)] c))
theorem ok101{c:ac}(hc:Cok c):Ent 101 (w101 c):=oz e101 i101 hc (aC (ok134 hc) (aC (ok135 hc) aN))
def w168(c:ac):FB:=f168 (BA ab aa (tblF [] c))
theorem ok168{c:ac}(hc:Cok c):Ent 168 (w168 c):=oz e168 i168 hc aN
def w136(c:ac):FB:=f136 (BA ab aa (tblF [(168,w168 c)] c))
theorem ok136{c:ac}(hc:Cok c):Ent 136 (w136 c):=oz e136 i136 hc (aC (ok168 hc) aN)
def w102(c:ac):FB:=f102 (BA ab aa (tblF [(122,w122 c),(136,w136 c)] c))
theorem ok102{c:ac}(hc:Cok c):Ent 102 (w102 c):=oz e102 i102 hc (aC (ok122 hc) (aC (ok136 hc) aN))
def w105(c:ac):FB:=f105 (BA ab aa (tblF [] c))
theorem ok105{c:ac}(hc:Cok c):Ent 105 (w105 c):=oz e105 i105 hc aN
def w68(c:ac):FB:=f68 (BA ab aa (tblF [(60,w60 c),(100,w100 c),(101,w101 c),(102,w102 c),(105,w105 c)] c))
theorem ok68{c:ac}(hc:Cok c):Ent 68 (w68 c):=oz e68 i68 hc (aC (ok60 hc) (aC (ok100 hc) (aC (ok101 hc) (aC (ok102 hc) (aC (ok105 hc) aN)))))
def w36(c:ac):FB:=f36 (BA ab aa (tblF [(68,w68 c)] c))
theorem ok36{c:ac}(hc:Cok c):Ent 36 (w36 c):=oz e36 i36 hc (aC (ok68 hc) aN)
def w37(c:ac):FB:=memo (f37 (BA ab aa (tblF [] c)))
theorem ok37{c:ac}(hc:Cok c):Ent 37 (w37 c):=ah (oz e37 i37 hc aN) rfl (by kernel_rfl)
def w10(c:ac):FB:=memo (f10 (BA ab aa (tblF [(9,w9 c),(13,w13 c),(21,w21 c),(23,w23 c),(24,w24 c),(36,w36 c),(37,w37 c),(38,w38 c)] c)))
theorem ok10{c:ac}(hc:Cok c):Ent 10 (w10 c):=ah (oz e10 i10 hc (aC (ok9 hc) (aC (ok13 hc) (aC (ok21 hc) (aC (ok23 hc) (aC (ok24 hc) (aC (ok36 hc) (aC (ok37 hc) (aC (ok38 hc) aN))))))))) rfl (by kernel_rfl)
def w19(c:ac):FB:=memo (f19 (BA ab aa (tblF [] c)))
theorem ok19{c:ac}(hc:Cok c):Ent 19 (w19 c):=ah (oz e19 i19 hc aN) rfl (by kernel_rfl)
def w20(c:ac):FB:=f20 (BA ab aa (tblF [(15,w15 c),(19,w19 c)] c))
theorem ok20{c:ac}(hc:Cok c):Ent 20 (w20 c):=oz e20 i20 hc (aC (ok15 hc) (aC (ok19 hc) aN))
def w5(c:ac):FB:=f5 (BA ab aa (tblF [(7,w7 c),(9,w9 c),(10,w10 c),(13,w13 c),(14,w14 c),(19,w19 c),(20,w20 c),(21,w21 c),(22,w22 c),(23,w23 c),(24,w24 c)] c))
theorem ok5{c:ac}(hc:Cok c):Ent 5 (w5 c):=oz e5 i5 hc (aC (ok7 hc) (aC (ok9 hc) (aC (ok10 hc) (aC (ok13 hc) (aC (ok14 hc) (aC (ok19 hc) (aC (ok20 hc) (aC (ok21 hc) (aC (ok22 hc) (aC (ok23 hc) (aC (ok24 hc) aN)))))))))))
def w35(c:ac):FB:=f35 (BA ab aa (tblF [(24,w24 c)] c))
theorem ok35{c:ac}(hc:Cok c):Ent 35 (w35 c):=oz e35 i35 hc (aC (ok24 hc) aN)
def w89(c:ac):FB:=memo (f89 (BA ab aa (tblF [(92,w92 c)] c)))
theorem ok89{c:ac}(hc:Cok c):Ent 89 (w89 c):=ah (oz e89 i89 hc (aC (ok92 hc) aN)) rfl (by kernel_rfl)
def w51(c:ac):FB:=f51 (BA ab aa (tblF [(73,w73 c),(89,w89 c)] c))
theorem ok51{c:ac}(hc:Cok c):Ent 51 (w51 c):=oz e51 i51 hc (aC (ok73 hc) (aC (ok89 hc) aN))
def w63(c:ac):FB:=memo (f63 (BA ab aa (tblF [] c)))
theorem ok63{c:ac}(hc:Cok c):Ent 63 (w63 c):=ah (oz e63 i63 hc aN) rfl (by kernel_rfl)
def w62(c:ac):FB:=memo (f62 (BA ab aa (tblF [(63,w63 c)] c)))
theorem ok62{c:ac}(hc:Cok c):Ent 62 (w62 c):=ah (oz e62 i62 hc (aC (ok63 hc) aN)) rfl (by kernel_rfl)
def w176(c:ac):FB:=memo (f176 (BA ab aa (tblF [] c)))
theorem ok176{c:ac}(hc:Cok c):Ent 176 (w176 c):=ah (oz e176 i176 hc aN) rfl (by kernel_rfl)
def w137(c:ac):FB:=memo (f137 (BA ab aa (tblF [(176,w176 c)] c)))
theorem ok137{c:ac}(hc:Cok c):Ent 137 (w137 c):=ah (oz e137 i137 hc (aC (ok176 hc) aN)) rfl (by kernel_rfl)
def w123(c:ac):FB:=f123 (BA ab aa (tblF [(137,w137 c)] c))
theorem ok123{c:ac}(hc:Cok c):Ent 123 (w123 c):=oz e123 i123 hc (aC (ok137 hc) aN)
def w80(c:ac):FB:=memo (f80 (BA ab aa (tblF [(123,w123 c)] c)))
theorem ok80{c:ac}(hc:Cok c):Ent 80 (w80 c):=ah (oz e80 i80 hc (aC (ok123 hc) aN)) rfl (by kernel_rfl)
def w182(c:ac):FB:=f182 (BA ab aa (tblF [] c))
theorem ok182{c:ac}(hc:Cok c):Ent 182 (w182 c):=oz e182 i182 hc aN
def w157(c:ac):FB:=f157 (BA ab aa (tblF [(182,w182 c)] c))
theorem ok157{c:ac}(hc:Cok c):Ent 157 (w157 c):=oz e157 i157 hc (aC (ok182 hc) aN)
def w130(c:ac):FB:=f130 (BA ab aa (tblF [(32,w32 c),(64,w64 c),(157,w157 c)] c))
theorem ok130{c:ac}(hc:Cok c):Ent 130 (w130 c):=oz e130 i130 hc (aC (ok32 hc) (aC (ok64 hc) (aC (ok157 hc) aN)))
def w85(c:ac):FB:=memoR (f85 (BA ab aa (tblF [(130,w130 c)] c)))
theorem ok85{c:ac}(hc:Cok c):Ent 85 (w85 c):=ent_ro (oz e85 i85 hc (aC (ok130 hc) aN)) rfl (by kernel_rfl) (by kernel_rfl)
def w87(c:ac):FB:=memo (f87 (BA ab aa (tblF [] c)))
theorem ok87{c:ac}(hc:Cok c):Ent 87 (w87 c):=ah (oz e87 i87 hc aN) rfl (by kernel_rfl)
def w104(c:ac):FB:=f104 (BA ab aa (tblF [(137,w137 c)] c))
theorem ok104{c:ac}(hc:Cok c):Ent 104 (w104 c):=oz e104 i104 hc (aC (ok137 hc) aN)
def w103(c:ac):FB:=memo (f103 (BA ab aa (tblF [(104,w104 c)] c)))
theorem ok103{c:ac}(hc:Cok c):Ent 103 (w103 c):=ah (oz e103 i103 hc (aC (ok104 hc) aN)) rfl (by kernel_rfl)
def w109(c:ac):FB:=f109 (BA ab aa (tblF [(64,w64 c),(73,w73 c),(89,w89 c),(110,w110 c)] c))
theorem ok109{c:ac}(hc:Cok c):Ent 109 (w109 c):=oz e109 i109 hc (aC (ok64 hc) (aC (ok73 hc) (aC (ok89 hc) (aC (ok110 hc) aN))))
def w120(c:ac):FB:=memo (f120 (BA ab aa (tblF [(117,w117 c)] c)))
theorem ok120{c:ac}(hc:Cok c):Ent 120 (w120 c):=ah (oz e120 i120 hc (aC (tN hc) aN)) rfl (by kernel_rfl)
def w126(c:ac):FB:=memo (f126 (BA ab aa (tblF [(153,w153 c)] c)))
theorem ok126{c:ac}(hc:Cok c):Ent 126 (w126 c):=ah (oz e126 i126 hc (aC (ok153 hc) aN)) rfl (by kernel_rfl)
def w127(c:ac):FB:=memo (f127 (BA ab aa (tblF [] c)))
theorem ok127{c:ac}(hc:Cok c):Ent 127 (w127 c):=ah (oz e127 i127 hc aN) rfl (by kernel_rfl)
def w155(c:ac):FB:=memo (f155 (BA ab aa (tblF [] c)))
theorem ok155{c:ac}(hc:Cok c):Ent 155 (w155 c):=ah (oz e155 i155 hc aN) rfl (by kernel_rfl)
def w156(c:ac):FB:=f156 (BA ab aa (tblF [] c))
theorem ok156{c:ac}(hc:Cok c):Ent 156 (w156 c):=oz e156 i156 hc aN
def w128(c:ac):FB:=memo (f128 (BA ab aa (tblF [(154,w154 c),(155,w155 c),(156,w156 c)] c)))
theorem ok128{c:ac}(hc:Cok c):Ent 128 (w128 c):=ah (oz e128 i128 hc (aC (ok154 hc) (aC (ok155 hc) (aC (ok156 hc) aN)))) rfl (by kernel_rfl)
def w124(c:ac):FB:=f124 (BA ab aa (tblF [(64,w64 c),(125,w125 c),(126,w126 c),(127,w127 c),(128,w128 c),(129,w129 c)] c))
theorem ok124{c:ac}(hc:Cok c):Ent 124 (w124 c):=oz e124 i124 hc (aC (ok64 hc) (aC (ok125 hc) (aC (ok126 hc) (aC (ok127 hc) (aC (ok128 hc) (aC (ok129 hc) aN))))))
def w183(c:ac):FB:=memo (f183 (BA ab aa (tblF [(65,w65 c),(66,w66 c)] c)))
theorem ok183{c:ac}(hc:Cok c):Ent 183 (w183 c):=ah (oz e183 i183 hc (aC (ok65 hc) (aC (ok66 hc) aN))) rfl (by kernel_rfl)
def w187(c:ac):FB:=f187 (BA ab aa (tblF [(98,w98 c),(108,w108 c)] c))
theorem ok187{c:ac}(hc:Cok c):Ent 187 (w187 c):=oz e187 i187 hc (aC (ok98 hc) (aC (ok108 hc) aN))
theorem y_of{κ:Nat}{g:ac->List Value->Nat->FB}{ct:ac->ac}{c:ac}(h0:∀vs l ls h K,ru (BA ab aa (ct c)) (xc 0) ab drN (aa κ) vs l ls h K=g c vs l ls h K)(hc:Cok (ct c)):YOk cc ab aa κ (g c):=by
 intro vs l ls h K w st pd xs e hy hk
 rw[←h0]at hk
 obtain⟨b,h',a1,a3⟩:=execY_ok (X:=xc 0) (BA_ok (w:=w) hc) uL (iH e) rfl rfl rfl rfl hy hk
 exact⟨b,h',a1,a3⟩
def ctY800(c:ac):ac:=tblF [(85,w85 c)] c
def bY800(c:ac)(vs:List Value)(lp:Nat):FB:=λls h K=>ucVB vs (λx8 b1=>chkB x8 ( ucVB b1 (λa3 b2=>chkB a3 ( uc0B b2 ( unIB ls (λgl b3=>unIB b3 (λn14 b4=>unIB b4 (λn16 b5=>unIB b5 (λn18 b6=>un0B b6 (newB (.cells [(.int .i64 (.ofNat (nat_lit 0))),(.int .i64 (.ofNat (nat_lit 0))),(.int .u8 (.ofNat (nat_lit 0)))] 3 true) h (λa0 b7=>stB (.pointer (some ⟨a0,0,none⟩)) [(.int .i64 n14),(.int .i64 n16),(.int .u8 n18)] b7 (λg0 b8=>lp1B lp b8 (λa1=>lgB cc 3 x8 a1 (λb9=>ucIB .i64 b9 (λn26 c0=>ucIB .i64 c0 (λn28 c1=>ucVB c1 (λa4 d0=>chkB a4 ( uc0B d0 ( optB (fdP 1 (.pointer (some ⟨a0,0,none⟩))) (λx32=>chkB x32 ( optB (fdP 0 x32) (λa5=>chkB a5 ( lgB cc 1 a5 a1 (λd1=>ucIB .i64 d1 (λn35 d2=>uc0B d2 ( optB (fdP 1 (.pointer (some ⟨a0,0,none⟩))) (λa6=>chkB a6 ( optB (fdP 1 a6) (λa7=>chkB a7 ( lgB cc 1 a7 a1 (λd3=>ucIB .u8 d3 (λd4 d5=>uc0B d5 ( wn (ctY800 c) 85 [.i n26,.i n28,.v a4,.i n35,.i d4] a1 (λd6 a2=>unIB d6 (λn44 d7=>unIB d7 (λn46 d8=>un0B d8 (joinB (λd9 e0=>un0B d9 (lp2B lp none e0 (λe1=>K [.b true] e1))) (λa8=>cB ( a8 [] a2) ( lgB cc 1 a3 a2 (λe2=>ucVB e2 (λa9 e3=>chkB a9 ( uc0B e3 ( optB (fdP 0 (.pointer (some ⟨a0,0,none⟩))) (λx56=>chkB x56 ( lgB cc 1 x56 a2 (λe4=>ucIB .i64 e4 (λn58 e6=>uc0B e6 ( newB (.cells [(.int .i64 n58),(.int .u8 n44)] 2 true) a2 (λf0 f1=>apB aa cc 2 16 a9 (.slice (some ⟨f0,0,(some 12)⟩) 1 2) f1 (λf2 f3=>ucVB f2 (λb0 f4=>chkB b0 ( uc0B f4 ( stB a3 [b0] f3 (λg1 f6=>a8 [] f6)))))))))))))))) (notK (eqZK n44 (.ofNat (nat_lit 0))))))))))))))))))))))))))))))))))))))))))
theorem pfY800(c:ac)(vs:List Value)(lp:Nat)(ls:List Lf)(h:HTr)(K:List Lf->HTr->RT):y800 (BA ab aa (ctY800 c)) vs lp ls h K=bY800 c vs lp ls h K:=ss (λx8 l9=>jN (ss (λx10 l11=>jN (mV (sw (λn12 l13=>sw (λn14 l15=>sw (λn16 l17=>sw (λn18 l19=>q_un0 (q_new (λm20 h21=>q_st (λl22 h23=>q_lp1 (λh24=>q_lg (λl25=>tU (λn26 l27=>tU (λn28 l29=>ss (λx30 l31=>jN (mV (q_opt (λx32=>jN (q_opt (λx33=>jN (q_lg (λl34=>tU (λn35 l36=>mV (q_opt (λx37=>jN (q_opt (λx38=>jN (q_lg (λl39=>tU (λn40 l41=>mV (q_callD (λl42 h43=>sw (λn44 l45=>sw (λn46 l47=>q_un0 (q_neq (q_join (λl49 h50=>q_un0 (q_lp2 (λh51=>rfl))) (λj52=>q_cond (q_lg (λl53=>ss (λx54 l55=>jN (mV (q_opt (λx56=>jN (q_lg (λl57=>tU (λn58 l59=>mV (q_new (λm60 h61=>q_ap (λl62 h63=>ss (λx64 l65=>jN (mV (q_st (λl66 h67=>rfl)))))))))))))))) (rfl))))))))))))))))))))))))))))))))))))))))
theorem okY800{c:ac}(hc:Cok c):YOk cc ab aa 800 (bY800 c):=y_of (g:=bY800) (ct:=ctY800) (λvs l ls h K=>(congrFun (congrFun (congrFun (congrFun (congrFun (congrFun (congrFun (congrFun ey800 RT) HTr) _) vs) l) ls) h) K).symm.trans (pfY800 c vs l ls h K)) (ur hc (by
  intro p hp
  simp only[qam,qbW,or_false]at hp
  subst hp
  exact ok85 hc))
def ctY2112(c:ac):ac:=tblF [] c
def qZ(c:ac)(vs:List Value)(lp:Nat):FB:=λls h K=>ucVB vs (λx8 a3=>chkB x8 ( uc0B a3 ( unIB ls (λn10 a4=>unIB a4 (λa5 a6=>un0B a6 (newB (.cells [(.int .i64 (.ofNat (nat_lit 0))),(.int .u8 (.ofNat (nat_lit 0)))] 2 true) h (λa1 a7=>stB (.pointer (some ⟨a1,0,none⟩)) [(.int .i64 n10),(.int .u8 a5)] a7 (λd0 a8=>lp1B lp a8 (λa0=>lgB cc 1 x8 a0 (λa9=>ucVB a9 (λx20 b0=>chkB x20 ( uc0B b0 ( lgB cc 2 (.pointer (some ⟨a1,0,none⟩)) a0 (λb1=>ucIB .i64 b1 (λn23 b2=>ucIB .u8 b2 (λb3 b4=>uc0B b4 ( newB (.cells [(.int .i64 n23),(.int .u8 b3)] 2 true) a0 (λb5 b6=>apB aa cc 2 16 x20 (.slice (some ⟨b5,0,(some 12)⟩) 1 2) b6 (λb7 b8=>ucVB b7 (λa2 b9=>chkB a2 ( uc0B b9 ( stB x8 [a2] b8 (λd1 c0=>lp2B lp none c0 (λc1=>K [.b true] c1))))))))))))))))))))))))
theorem pfY2112(c:ac)(vs:List Value)(lp:Nat)(ls:List Lf)(h:HTr)(K:List Lf->HTr->RT):y2112 (BA ab aa (ctY2112 c)) vs lp ls h K=qZ c vs lp ls h K:=ss (λx8 l9=>jN (mV (sw (λn10 l11=>sw (λn12 l13=>q_un0 (q_new (λm14 h15=>q_st (λl16 h17=>q_lp1 (λh18=>q_lg (λl19=>ss (λx20 l21=>jN (mV (q_lg (λl22=>tU (λn23 l24=>tU (λn25 l26=>mV (q_new (λm27 h28=>q_ap (λl29 h30=>ss (λx31 l32=>jN (mV (q_st (λl33 h34=>q_lp2 (λh35=>rfl))))))))))))))))))))))))
theorem okY2112{c:ac}(hc:Cok c):YOk cc ab aa 2112 (qZ c):=y_of (g:=qZ) (ct:=ctY2112) (λvs l ls h K=>(congrFun (congrFun (congrFun (congrFun (congrFun (congrFun (congrFun (congrFun ey2112 RT) HTr) _) vs) l) ls) h) K).symm.trans (pfY2112 c vs l ls h K)) (ur hc (by
  intro p hp
  cases hp))
def tabW(c:ac):Tr FB:=(.node nf (.node nf (.node nf (.node (w7 c) (.node (w15 c) (.node (w31 c) (.node (w63 c) (.node (w127 c) .leaf .leaf) .leaf) (.node (w95 c) .leaf .leaf)) (.node (w47 c) .leaf (.node (w111 c) .leaf .leaf))) (.node (w23 c) (.node nf (.node (w71 c) (.node (w135 c) .leaf .leaf) .leaf) (.node (w103 c) (.node (w167 c) .leaf .leaf) .leaf)) (.node (w55 c) (.node (w87 c) .leaf .leaf) (.node (w119 c) (.node (w183 c) .leaf .leaf) .leaf)))) (.node nf (.node (w19 c) (.node (w35 c) (.node (w67 c) (.node (w131 c) .leaf .leaf) .leaf) (.node (w99 c) .leaf .leaf)) (.node (w51 c) (.node (w83 c) .leaf .leaf) (.node (w115 c) .leaf .leaf))) (.node (w27 c) (.node (w43 c) (.node (w75 c) (.node (w139 c) .leaf .leaf) .leaf) (.node (w107 c) .leaf .leaf)) (.node (w59 c) (.node (w91 c) (.node (w155 c) .leaf .leaf) .leaf) (.node (w123 c) (.node (w187 c) .leaf .leaf) .leaf))))) (.node (w5 c) (.node (w9 c) (.node (w17 c) (.node (w33 c) (.node (w65 c) (.node (w129 c) .leaf .leaf) .leaf) (.node (w97 c) .leaf .leaf)) (.node (w49 c) (.node (w81 c) .leaf .leaf) (.node (w113 c) .leaf .leaf))) (.node nf (.node nf (.node (w73 c) (.node (w137 c) .leaf .leaf) .leaf) (.node (w105 c) .leaf .leaf)) (.node (w57 c) (.node (w89 c) (.node (w153 c) .leaf .leaf) .leaf) .leaf))) (.node (w13 c) (.node (w21 c) (.node (w37 c) (.node nf (.node (w133 c) .leaf .leaf) .leaf) (.node (w101 c) .leaf .leaf)) (.node (w53 c) (.node (w85 c) .leaf .leaf) (.node (w117 c) .leaf .leaf))) (.node (w29 c) (.node (w45 c) (.node (w77 c) (.node (w141 c) .leaf .leaf) .leaf) (.node (w109 c) .leaf .leaf)) (.node (w61 c) (.node (w93 c) (.node (w157 c) .leaf .leaf) .leaf) (.node (w125 c) .leaf .leaf)))))) (.node nf (.node nf (.node (w8 c) (.node (w16 c) (.node (w32 c) (.node (w64 c) (.node (w128 c) .leaf .leaf) .leaf) (.node (w96 c) .leaf .leaf)) (.node (w48 c) (.node (w80 c) .leaf .leaf) (.node (w112 c) (.node (w176 c) .leaf .leaf) .leaf))) (.node (w24 c) (.node nf (.node (w72 c) (.node (w136 c) .leaf .leaf) .leaf) (.node (w104 c) (.node (w168 c) .leaf .leaf) .leaf)) (.node (w56 c) (.node (w88 c) (.node (w152 c) .leaf .leaf) .leaf) (.node (w120 c) .leaf .leaf)))) (.node nf (.node (w20 c) (.node (w36 c) (.node (w68 c) (.node (w132 c) .leaf .leaf) .leaf) (.node (w100 c) .leaf .leaf)) (.node (w52 c) (.node (w84 c) .leaf .leaf) (.node (w116 c) .leaf .leaf))) (.node (w28 c) (.node (w44 c) (.node (w76 c) (.node (w140 c) .leaf .leaf) .leaf) (.node (w108 c) .leaf .leaf)) (.node (w60 c) (.node (w92 c) (.node (w156 c) .leaf .leaf) .leaf) (.node (w124 c) .leaf .leaf))))) (.node nf (.node (w10 c) (.node (w18 c) (.node (w34 c) (.node (w66 c) (.node (w130 c) .leaf .leaf) .leaf) (.node (w98 c) .leaf .leaf)) (.node (w50 c) (.node (w82 c) .leaf .leaf) (.node (w114 c) .leaf .leaf))) (.node (w26 c) (.node (w42 c) (.node (w74 c) (.node (w138 c) .leaf .leaf) .leaf) (.node (w106 c) .leaf .leaf)) (.node (w58 c) (.node (w90 c) (.node (w154 c) .leaf .leaf) .leaf) (.node (w122 c) .leaf .leaf)))) (.node (w14 c) (.node (w22 c) (.node (w38 c) (.node (w70 c) (.node (w134 c) .leaf .leaf) .leaf) (.node (w102 c) (.node (w166 c) .leaf .leaf) .leaf)) (.node (w54 c) (.node (w86 c) .leaf .leaf) (.node (w118 c) (.node (w182 c) .leaf .leaf) .leaf))) (.node (w30 c) (.node (w46 c) (.node (w78 c) (.node (w142 c) .leaf .leaf) .leaf) (.node (w110 c) .leaf .leaf)) (.node (w62 c) (.node (w94 c) (.node (w158 c) .leaf .leaf) .leaf) (.node (w126 c) .leaf .leaf)))))))
def stepF(c:ac):ac:=λck=>match ck with
 | .f f=>match Nat.blt f 188 with
  |true=>(bm f).get nf (tabW c)
  |false=>nf
 | .y κ vs l=>lookY [(800,bY800 c),(2112,qZ c)] κ (λvs l ls h K=>ru (BA ab aa c) (xc 0) ab drN (aa κ) vs l ls h K) vs l
def runF(n:Nat):ac:=Nat.rec (motive:=λ_=>ac) (λ_ _ _ _=>none) (λ_ c=>stepF c) n
theorem bA{k:Nat}(h1:(λc=>(bm k).get nf (tabW c))=λ_=>nf)(c:ac):Ent k ((bm k).get nf (tabW c)):=by
 intro ls h K w hls hk
 rw[congrFun h1 c]at hk
 cases hk
theorem al{k:Nat}{g:ac->FB}(h1:(λc=>(bm k).get nf (tabW c))=g){c:ac}(h:Ent k (g c)):Ent k ((bm k).get nf (tabW c)):=by
 rw[congrFun h1 c];exact h
theorem tabW_ok{c:ac}(hc:Cok c):∀f,Nat.blt f 188=true->Ent f ((bm f).get nf (tabW c))
 |0,_=>bA (by kernel_rfl) c
 |1,_=>bA (by kernel_rfl) c
 |2,_=>bA (by kernel_rfl) c
 |3,_=>bA (by kernel_rfl) c
 |4,_=>bA (by kernel_rfl) c
 |5,_=>al (g:=λc=>w5 c) (by kernel_rfl) (ok5 hc)
 |6,_=>bA (by kernel_rfl) c
 |7,_=>al (g:=λc=>w7 c) (by kernel_rfl) (ok7 hc)
 |8,_=>al (g:=λc=>w8 c) (by kernel_rfl) (ok8 hc)
 |9,_=>al (g:=λc=>w9 c) (by kernel_rfl) (ok9 hc)
 |10,_=>al (g:=λc=>w10 c) (by kernel_rfl) (ok10 hc)
 |11,_=>bA (by kernel_rfl) c
 |12,_=>bA (by kernel_rfl) c
 |13,_=>al (g:=λc=>w13 c) (by kernel_rfl) (ok13 hc)
 |14,_=>al (g:=λc=>w14 c) (by kernel_rfl) (ok14 hc)
 |15,_=>al (g:=λc=>w15 c) (by kernel_rfl) (ok15 hc)
 |16,_=>al (g:=λc=>w16 c) (by kernel_rfl) (ok16 hc)
 |17,_=>al (g:=λc=>w17 c) (by kernel_rfl) (ok17 hc)
 |18,_=>al (g:=λc=>w18 c) (by kernel_rfl) (ok18 hc)
 |19,_=>al (g:=λc=>w19 c) (by kernel_rfl) (ok19 hc)
 |20,_=>al (g:=λc=>w20 c) (by kernel_rfl) (ok20 hc)
 |21,_=>al (g:=λc=>w21 c) (by kernel_rfl) (ok21 hc)
 |22,_=>al (g:=λc=>w22 c) (by kernel_rfl) (ok22 hc)
 |23,_=>al (g:=λc=>w23 c) (by kernel_rfl) (ok23 hc)
 |24,_=>al (g:=λc=>w24 c) (by kernel_rfl) (ok24 hc)
 |25,_=>bA (by kernel_rfl) c
 |26,_=>al (g:=λc=>w26 c) (by kernel_rfl) (ok26 hc)
 |27,_=>al (g:=λc=>w27 c) (by kernel_rfl) (ok27 hc)
 |28,_=>al (g:=λc=>w28 c) (by kernel_rfl) (ok28 hc)
 |29,_=>al (g:=λc=>w29 c) (by kernel_rfl) (ok29 hc)
 |30,_=>al (g:=λc=>w30 c) (by kernel_rfl) (ok30 hc)
 |31,_=>al (g:=λc=>w31 c) (by kernel_rfl) (ok31 hc)
 |32,_=>al (g:=λc=>w32 c) (by kernel_rfl) (ok32 hc)
 |33,_=>al (g:=λc=>w33 c) (by kernel_rfl) (ok33 hc)
 |34,_=>al (g:=λc=>w34 c) (by kernel_rfl) (ok34 hc)
 |35,_=>al (g:=λc=>w35 c) (by kernel_rfl) (ok35 hc)
 |36,_=>al (g:=λc=>w36 c) (by kernel_rfl) (ok36 hc)
 |37,_=>al (g:=λc=>w37 c) (by kernel_rfl) (ok37 hc)
 |38,_=>al (g:=λc=>w38 c) (by kernel_rfl) (ok38 hc)
 |39,_=>bA (by kernel_rfl) c
 |40,_=>bA (by kernel_rfl) c
 |41,_=>bA (by kernel_rfl) c
 |42,_=>al (g:=λc=>w42 c) (by kernel_rfl) (ok42 hc)
 |43,_=>al (g:=λc=>w43 c) (by kernel_rfl) (ok43 hc)
 |44,_=>al (g:=λc=>w44 c) (by kernel_rfl) (ok44 hc)
 |45,_=>al (g:=λc=>w45 c) (by kernel_rfl) (ok45 hc)
 |46,_=>al (g:=λc=>w46 c) (by kernel_rfl) (ok46 hc)
 |47,_=>al (g:=λc=>w47 c) (by kernel_rfl) (ok47 hc)
 |48,_=>al (g:=λc=>w48 c) (by kernel_rfl) (ok48 hc)
 |49,_=>al (g:=λc=>w49 c) (by kernel_rfl) (ok49 hc)
 |50,_=>al (g:=λc=>w50 c) (by kernel_rfl) (ok50 hc)
 |51,_=>al (g:=λc=>w51 c) (by kernel_rfl) (ok51 hc)
 |52,_=>al (g:=λc=>w52 c) (by kernel_rfl) (ok52 hc)
 |53,_=>al (g:=λc=>w53 c) (by kernel_rfl) (ok53 hc)
 |54,_=>al (g:=λc=>w54 c) (by kernel_rfl) (ok54 hc)
 |55,_=>al (g:=λc=>w55 c) (by kernel_rfl) (ok55 hc)
 |56,_=>al (g:=λc=>w56 c) (by kernel_rfl) (ok56 hc)
 |57,_=>al (g:=λc=>w57 c) (by kernel_rfl) (ok57 hc)
 |58,_=>al (g:=λc=>w58 c) (by kernel_rfl) (ok58 hc)
 |59,_=>al (g:=λc=>w59 c) (by kernel_rfl) (ok59 hc)
 |60,_=>al (g:=λc=>w60 c) (by kernel_rfl) (ok60 hc)
 |61,_=>al (g:=λc=>w61 c) (by kernel_rfl) (ok61 hc)
 |62,_=>al (g:=λc=>w62 c) (by kernel_rfl) (ok62 hc)
 |63,_=>al (g:=λc=>w63 c) (by kernel_rfl) (ok63 hc)
 |64,_=>al (g:=λc=>w64 c) (by kernel_rfl) (ok64 hc)
 |65,_=>al (g:=λc=>w65 c) (by kernel_rfl) (ok65 hc)
 |66,_=>al (g:=λc=>w66 c) (by kernel_rfl) (ok66 hc)
 |67,_=>al (g:=λc=>w67 c) (by kernel_rfl) (ok67 hc)
 |68,_=>al (g:=λc=>w68 c) (by kernel_rfl) (ok68 hc)
 |69,_=>bA (by kernel_rfl) c
 |70,_=>al (g:=λc=>w70 c) (by kernel_rfl) (ok70 hc)
 |71,_=>al (g:=λc=>w71 c) (by kernel_rfl) (ok71 hc)
 |72,_=>al (g:=λc=>w72 c) (by kernel_rfl) (ok72 hc)
 |73,_=>al (g:=λc=>w73 c) (by kernel_rfl) (ok73 hc)
 |74,_=>al (g:=λc=>w74 c) (by kernel_rfl) (ok74 hc)
 |75,_=>al (g:=λc=>w75 c) (by kernel_rfl) (ok75 hc)
 |76,_=>al (g:=λc=>w76 c) (by kernel_rfl) (ok76 hc)
 |77,_=>al (g:=λc=>w77 c) (by kernel_rfl) (ok77 hc)
 |78,_=>al (g:=λc=>w78 c) (by kernel_rfl) (ok78 hc)
 |79,_=>bA (by kernel_rfl) c
 |80,_=>al (g:=λc=>w80 c) (by kernel_rfl) (ok80 hc)
 |81,_=>al (g:=λc=>w81 c) (by kernel_rfl) (ok81 hc)
 |82,_=>al (g:=λc=>w82 c) (by kernel_rfl) (ok82 hc)
 |83,_=>al (g:=λc=>w83 c) (by kernel_rfl) (ok83 hc)
 |84,_=>al (g:=λc=>w84 c) (by kernel_rfl) (ok84 hc)
 |85,_=>al (g:=λc=>w85 c) (by kernel_rfl) (ok85 hc)
 |86,_=>al (g:=λc=>w86 c) (by kernel_rfl) (ok86 hc)
 |87,_=>al (g:=λc=>w87 c) (by kernel_rfl) (ok87 hc)
 |88,_=>al (g:=λc=>w88 c) (by kernel_rfl) (ok88 hc)
 |89,_=>al (g:=λc=>w89 c) (by kernel_rfl) (ok89 hc)
 |90,_=>al (g:=λc=>w90 c) (by kernel_rfl) (ok90 hc)
 |91,_=>al (g:=λc=>w91 c) (by kernel_rfl) (ok91 hc)
 |92,_=>al (g:=λc=>w92 c) (by kernel_rfl) (ok92 hc)
 |93,_=>al (g:=λc=>w93 c) (by kernel_rfl) (ok93 hc)
 |94,_=>al (g:=λc=>w94 c) (by kernel_rfl) (ok94 hc)
 |95,_=>al (g:=λc=>w95 c) (by kernel_rfl) (ok95 hc)
 |96,_=>al (g:=λc=>w96 c) (by kernel_rfl) (ok96 hc)
 |97,_=>al (g:=λc=>w97 c) (by kernel_rfl) (ok97 hc)
 |98,_=>al (g:=λc=>w98 c) (by kernel_rfl) (ok98 hc)
 |99,_=>al (g:=λc=>w99 c) (by kernel_rfl) (ok99 hc)
 |100,_=>al (g:=λc=>w100 c) (by kernel_rfl) (ok100 hc)
 |101,_=>al (g:=λc=>w101 c) (by kernel_rfl) (ok101 hc)
 |102,_=>al (g:=λc=>w102 c) (by kernel_rfl) (ok102 hc)
 |103,_=>al (g:=λc=>w103 c) (by kernel_rfl) (ok103 hc)
 |104,_=>al (g:=λc=>w104 c) (by kernel_rfl) (ok104 hc)
 |105,_=>al (g:=λc=>w105 c) (by kernel_rfl) (ok105 hc)
 |106,_=>al (g:=λc=>w106 c) (by kernel_rfl) (ok106 hc)
 |107,_=>al (g:=λc=>w107 c) (by kernel_rfl) (ok107 hc)
 |108,_=>al (g:=λc=>w108 c) (by kernel_rfl) (ok108 hc)
 |109,_=>al (g:=λc=>w109 c) (by kernel_rfl) (ok109 hc)
 |110,_=>al (g:=λc=>w110 c) (by kernel_rfl) (ok110 hc)
 |111,_=>al (g:=λc=>w111 c) (by kernel_rfl) (ok111 hc)
 |112,_=>al (g:=λc=>w112 c) (by kernel_rfl) (ok112 hc)
 |113,_=>al (g:=λc=>w113 c) (by kernel_rfl) (ok113 hc)
 |114,_=>al (g:=λc=>w114 c) (by kernel_rfl) (ok114 hc)
 |115,_=>al (g:=λc=>w115 c) (by kernel_rfl) (ok115 hc)
 |116,_=>al (g:=λc=>w116 c) (by kernel_rfl) (ok116 hc)
 |117,_=>al (g:=λc=>w117 c) (by kernel_rfl) (tN hc)
 |118,_=>al (g:=λc=>w118 c) (by kernel_rfl) (ok118 hc)
 |119,_=>al (g:=λc=>w119 c) (by kernel_rfl) (ok119 hc)
 |120,_=>al (g:=λc=>w120 c) (by kernel_rfl) (ok120 hc)
 |121,_=>bA (by kernel_rfl) c
 |122,_=>al (g:=λc=>w122 c) (by kernel_rfl) (ok122 hc)
 |123,_=>al (g:=λc=>w123 c) (by kernel_rfl) (ok123 hc)
 |124,_=>al (g:=λc=>w124 c) (by kernel_rfl) (ok124 hc)
 |125,_=>al (g:=λc=>w125 c) (by kernel_rfl) (ok125 hc)
 |126,_=>al (g:=λc=>w126 c) (by kernel_rfl) (ok126 hc)
 |127,_=>al (g:=λc=>w127 c) (by kernel_rfl) (ok127 hc)
 |128,_=>al (g:=λc=>w128 c) (by kernel_rfl) (ok128 hc)
 |129,_=>al (g:=λc=>w129 c) (by kernel_rfl) (ok129 hc)
 |130,_=>al (g:=λc=>w130 c) (by kernel_rfl) (ok130 hc)
 |131,_=>al (g:=λc=>w131 c) (by kernel_rfl) (ok131 hc)
 |132,_=>al (g:=λc=>w132 c) (by kernel_rfl) (ok132 hc)
 |133,_=>al (g:=λc=>w133 c) (by kernel_rfl) (ok133 hc)
 |134,_=>al (g:=λc=>w134 c) (by kernel_rfl) (ok134 hc)
 |135,_=>al (g:=λc=>w135 c) (by kernel_rfl) (ok135 hc)
 |136,_=>al (g:=λc=>w136 c) (by kernel_rfl) (ok136 hc)
 |137,_=>al (g:=λc=>w137 c) (by kernel_rfl) (ok137 hc)
 |138,_=>al (g:=λc=>w138 c) (by kernel_rfl) (ok138 hc)
 |139,_=>al (g:=λc=>w139 c) (by kernel_rfl) (ok139 hc)
 |140,_=>al (g:=λc=>w140 c) (by kernel_rfl) (ok140 hc)
 |141,_=>al (g:=λc=>w141 c) (by kernel_rfl) (ok141 hc)
 |142,_=>al (g:=λc=>w142 c) (by kernel_rfl) (ok142 hc)
 |143,_=>bA (by kernel_rfl) c
 |144,_=>bA (by kernel_rfl) c
 |145,_=>bA (by kernel_rfl) c
 |146,_=>bA (by kernel_rfl) c
 |147,_=>bA (by kernel_rfl) c
 |148,_=>bA (by kernel_rfl) c
 |149,_=>bA (by kernel_rfl) c
 |150,_=>bA (by kernel_rfl) c
 |151,_=>bA (by kernel_rfl) c
 |152,_=>al (g:=λc=>w152 c) (by kernel_rfl) (ok152 hc)
 |153,_=>al (g:=λc=>w153 c) (by kernel_rfl) (ok153 hc)
 |154,_=>al (g:=λc=>w154 c) (by kernel_rfl) (ok154 hc)
 |155,_=>al (g:=λc=>w155 c) (by kernel_rfl) (ok155 hc)
 |156,_=>al (g:=λc=>w156 c) (by kernel_rfl) (ok156 hc)
 |157,_=>al (g:=λc=>w157 c) (by kernel_rfl) (ok157 hc)
 |158,_=>al (g:=λc=>w158 c) (by kernel_rfl) (ok158 hc)
 |159,_=>bA (by kernel_rfl) c
 |160,_=>bA (by kernel_rfl) c
 |161,_=>bA (by kernel_rfl) c
 |162,_=>bA (by kernel_rfl) c
 |163,_=>bA (by kernel_rfl) c
 |164,_=>bA (by kernel_rfl) c
 |165,_=>bA (by kernel_rfl) c
 |166,_=>al (g:=λc=>w166 c) (by kernel_rfl) (ok166 hc)
 |167,_=>al (g:=λc=>w167 c) (by kernel_rfl) (ok167 hc)
 |168,_=>al (g:=λc=>w168 c) (by kernel_rfl) (ok168 hc)
 |169,_=>bA (by kernel_rfl) c
 |170,_=>bA (by kernel_rfl) c
 |171,_=>bA (by kernel_rfl) c
 |172,_=>bA (by kernel_rfl) c
 |173,_=>bA (by kernel_rfl) c
 |174,_=>bA (by kernel_rfl) c
 |175,_=>bA (by kernel_rfl) c
 |176,_=>al (g:=λc=>w176 c) (by kernel_rfl) (ok176 hc)
 |177,_=>bA (by kernel_rfl) c
 |178,_=>bA (by kernel_rfl) c
 |179,_=>bA (by kernel_rfl) c
 |180,_=>bA (by kernel_rfl) c
 |181,_=>bA (by kernel_rfl) c
 |182,_=>al (g:=λc=>w182 c) (by kernel_rfl) (ok182 hc)
 |183,_=>al (g:=λc=>w183 c) (by kernel_rfl) (ok183 hc)
 |184,_=>bA (by kernel_rfl) c
 |185,_=>bA (by kernel_rfl) c
 |186,_=>bA (by kernel_rfl) c
 |187,_=>al (g:=λc=>w187 c) (by kernel_rfl) (ok187 hc)
 |n+188,h=>by rw[qaT]at h;omega
theorem stepF_ok{c:ac}(hc:Cok c):Cok (stepF c):=by
 refine⟨λf ls h K w hls hk=>?_,λκ vs l ls h K w st pd xs e hy hk=>?_⟩
 ·have hk:(match Nat.blt f 188 with|true=>(bm f).get nf (tabW c)|false=>nf) ls h K=some w:=hk
  cases e:Nat.blt f 188 with
  |true=>rw[e]at hk;exact tabW_ok hc f e ls h K w hls hk
  |false=>rw[e]at hk;cases hk
 ·have hd:YOk cc ab aa κ (λvs l ls h K=>ru (BA ab aa c) (xc 0) ab drN (aa κ) vs l ls h K):=y_of (g:=λc vs l ls h K=>ru (BA ab aa c) (xc 0) ab drN (aa κ) vs l ls h K) (ct:=λc=>c) (λ_ _ _ _ _=>rfl) hc
  refine vg hd (l:=[(800,bY800 c),(2112,qZ c)]) (λp hp=>?_) vs l ls h K w st pd xs e hy hk
  simp only[qam,qbW,or_false]at hp
  rcases hp with rfl|rfl
  ·exact okY800 hc
  ·exact okY2112 hc
theorem tW:∀n,Cok (runF n)
 |0=>⟨λ_ _ _ _ _ _ h=>by(cases h),λ_ _ _ _ _ _ _ _ _ _ _ _ h=>by(cases h)⟩
 |n+1=>stepF_ok (tW n)
end Go.Am
namespace Go.Am
namespace Sx
section
variable [Val] [Kno]
def peekH(T:Nat->Site)(f:Pk)(h:HL)(K:List Value->Prop):Prop:=∃cs,f.run (getH T h)=some cs/\K cs
def heapH(T:Nat->Site)(f:Hp)(h:HL)(K:List Value->HL->Prop):Prop:=∃acts cs,f.run (getH T h) h.length=some (acts,cs)/\K cs (bR h acts)
def callH(C:Cfg)(Sg:FuncId->Option Sig)(T:Nat->Site)(g:FuncId)(ls:List Lf)(h:HL)(K:List Lf->HL->Prop):Prop:=∃rs h',aB C Sg g ls (absH T h) rs (absH T h')/\K rs h'
def callvH(C:Cfg)(T:Nat->Site)(v:Value)(args:List Value)(hs:List SK)(h:HL)(K:List Lf->HL->Prop):Prop:=∃rs h',sR C v args hs (absH T h) rs (absH T h')/\K rs h'
def itH(F:(List Lf->HL->Prop)->List Lf->HL->Prop)(n:Nat):List Lf->HL->Prop:=
 match n with
 |0=>λ_ _=>False
 |n+1=>F (itH F n)
def loopH(F:(List Lf->HL->Prop)->List Lf->HL->Prop)(ls:List Lf)(h:HL):Prop:=∃n,itH F n ls h
def rfunH(C:Cfg)(T:Nat->Site)(κ:Nat)(v:Value)(vals:List Value)(h:HL)(K:Option Code->HL->Prop):Prop:=
 ∃g first cap r H1 lp h2,v = .func (.func g) first cap/\
  gM C g (first.toList++[.func (.yield (absH T h).length) #[] #[]]++cap.toList) (absH T h++[.loop (lpOf (T κ) κ vals)]) r H1/\
  dQ H1 (absH T h).length=some lp/\lp.state≠.busy/\absH T h2=H1.set (absH T h).length (.loop { lp with state:=.exhausted })/\K lp.pending h2
def lp1H(T:Nat->Site)(l:Nat)(h:HL)(K:HL->Prop):Prop:=∃lp h',dQ (absH T h) l=some lp/\lp.state = .ready/\absH T h'=(absH T h).set l (.loop { lp with state:=.busy })/\K h'
def lp2H(T:Nat->Site)(l:Nat)(j:Option Code)(h:HL)(K:HL->Prop):Prop:=∃lp h',dQ (absH T h) l=some lp/\absH T h'=(absH T h).set l (.loop { lp with state:=if j.isNone then .ready else .done,pending:=j })/\K h'
def PH(C:Cfg)(Sg:FuncId->Option Sig)(T:Nat->Site):Alg Prop HL where
 fail:=False
 cond:=condP
 ari:=ariP
 shf:=λop k a k' b K=>∃n,ShRun op k a k' b n/\K n
 cmp:=cmpP
 eqs:=λl K=>K (ca l)
 conv:=λk a K=>K (k.wrap a)
 sel:=λt a b K=>K (if t then a else b)
 opt:=optP
 chk:=λv K=>aP v=true/\K
 unI:=unIP
 unB:=unBP
 unV:=unVP
 un0:=un0P
 ucI:=ucIP
 ucB:=ucBP
 ucV:=ucVP
 uc0:=uc0P
 peek:=peekH T
 heap:=heapH T
 new:=λo h K=>K h.length (h++[.o o])
 call:=callH C Sg T
 callv:=callvH C T
 join:=λb m=>m b
 loop:=loopH
 rfun:=rfunH C T
 pend:=pendP
 lp1:=lp1H T
 lp2:=lp2H T
theorem PH_ok(C:Cfg)(Sg:FuncId->Option Sig)(T:Nat->Site):AlgOk (PH C Sg T) C Sg T id (absH T) where
 fail:=(ff C Sg T).fail
 cond:=(ff C Sg T).cond
 ari:=(ff C Sg T).ari
 shf:=(ff C Sg T).shf
 cmp:=(ff C Sg T).cmp
 eqs:=(ff C Sg T).eqs
 conv:=(ff C Sg T).conv
 sel:=(ff C Sg T).sel
 opt:=(ff C Sg T).opt
 chk:=(ff C Sg T).chk
 unI:=(ff C Sg T).unI
 unB:=(ff C Sg T).unB
 unV:=(ff C Sg T).unV
 un0:=(ff C Sg T).un0
 ucI:=(ff C Sg T).ucI
 ucB:=(ff C Sg T).ucB
 ucV:=(ff C Sg T).ucV
 uc0:=(ff C Sg T).uc0
 peek:=by
  intro f h K hk
  obtain⟨cs,h1,h2⟩:=hk
  exact⟨cs,by rw[←jv];exact h1,h2⟩
 heap:=by
  intro f h K hk
  obtain⟨acts,cs,h1,h2⟩:=hk
  exact⟨acts,cs,_,by rw[←jv,db];exact h1,jg T acts h,h2⟩
 new:=λo h K hk=>⟨_,fM T h _,by rw[db];exact hk⟩
 call:=λg ls h K hk=>hk
 callv:=λv args hs h K hk=>hk
 join:=λb m h=>h
 loop:=by
  intro F ls h hk
  obtain⟨n,hk⟩:=hk
  exact⟨itH F,λls h=>(id:False->False),λn ls h=>rfl,n,hk⟩
 rfun:=λκ v vals h K hk=>hk
 pend:=(ff C Sg T).pend
 lp1:=λl h K hk=>hk
 lp2:=λl j h K hk=>hk
section
variable {C:Cfg} {Sg:FuncId->Option Sig} {T:Nat->Site} {call:ac} (hc:CallBOk C Sg T call)
include hc
inductive SL2:List (Nat×RT)->List (Nat×Prop)->Prop
 |nil:SL2 [] []
 |cons {id:Nat} {x:RT} {x':Prop} {l:List (Nat×RT)} {l':List (Nat×Prop)} (hx:x=yes->x') (hl:SL2 l l'):SL2 ((id,x) :: l) ((id,x') :: l')
omit hc in
end
theorem vd{F:(List Lf->HL->Prop)->List Lf->HL->Prop}(Inv:Nat->List Lf->HL->Prop)
  (step:∀m ls h,Inv m ls h->∀self:List Lf->HL->Prop,(∀m' ls h,m'<m->Inv m' ls h->self ls h)->F self ls h):∀n m ls h,m<n->Inv m ls h->itH F n ls h
 |0,_,_,_,hm,_=>absurd hm (qbC _)
 |n+1,m,ls,h,hm,hi=>step m ls h hi (itH F n) λm' ls h h' hi'=>vd Inv step n m' ls h (by omega) hi'
theorem jB{F:(List Lf->HL->Prop)->List Lf->HL->Prop}(Inv:Nat->List Lf->HL->Prop){m:Nat}{ls:List Lf}{h:HL}(hi:Inv m ls h)
  (step:∀m ls h,Inv m ls h->∀self:List Lf->HL->Prop,(∀m' ls h,m'<m->Inv m' ls h->self ls h)->F self ls h):loopH F ls h:=
 ⟨m+1,vd Inv step (m+1) m ls h (Nat.lt_succ_self m) hi⟩
end
end Sx
namespace Sx
class Bx (α:Sort _) where
 v:α
def hid{α:Sort _} [b:Bx α]:α:=b.v
section
variable [Val] [Kno] {C:Cfg} {Sg:FuncId->Option Sig} {T:Nat->Site}
theorem b_unI{n:Int}{r:List Lf}{K:Int->List Lf->Prop}:(PH C Sg T).unI (.i n :: r) K=K n r:=rfl
theorem b_unB{n:Bool}{r:List Lf}{K:Bool->List Lf->Prop}:(PH C Sg T).unB (.b n :: r) K=K n r:=rfl
theorem b_unV{n:Value}{r:List Lf}{K:Value->List Lf->Prop}:(PH C Sg T).unV (.v n :: r) K=K n r:=rfl
theorem b_un0{K:Prop}:(PH C Sg T).un0 [] K=K:=rfl
theorem b_ucI{k:IntKind}{n:Int}{r:List Value}{K:Int->List Value->Prop}:(PH C Sg T).ucI k (.int k n :: r) K=K n r:=by
 show(k=k/\K n r)=K n r
 simp
theorem b_ucB{n:Bool}{r:List Value}{K:Bool->List Value->Prop}:(PH C Sg T).ucB (.bool n :: r) K=K n r:=rfl
theorem b_ucV{n:Value}{r:List Value}{K:Value->List Value->Prop}:(PH C Sg T).ucV (n :: r) K=K n r:=rfl
theorem b_uc0{K:Prop}:(PH C Sg T).uc0 [] K=K:=rfl
theorem b_cond_t{X Y:Prop}:(PH C Sg T).cond true X Y=X:=by
 show((true=true->X)/\(true=false->Y))=X
 simp
theorem b_cond_f{X Y:Prop}:(PH C Sg T).cond false X Y=Y:=by
 show((false=true->X)/\(false=false->Y))=Y
 simp
theorem b_lss_t{a b:Int}{K:Bool->Prop}(h:a<b):(PH C Sg T).cmp .lss a b K=K true:=by
 show K (decide (a<b))=_;rw[decide_eq_true h]
theorem b_lss_f{a b:Int}{K:Bool->Prop}(h:b<=a):(PH C Sg T).cmp .lss a b K=K false:=by
 show K (decide (a<b))=_;rw[decide_eq_false (by omega)]
theorem b_leq_t{a b:Int}{K:Bool->Prop}(h:a<=b):(PH C Sg T).cmp .leq a b K=K true:=by
 show K (decide (a<=b))=_;rw[decide_eq_true h]
theorem b_leq_f{a b:Int}{K:Bool->Prop}(h:b<a):(PH C Sg T).cmp .leq a b K=K false:=by
 show K (decide (a<=b))=_;rw[decide_eq_false (by omega)]
theorem b_gtr_t{a b:Int}{K:Bool->Prop}(h:b<a):(PH C Sg T).cmp .gtr a b K=K true:=by
 show K (decide (a > b))=_;rw[decide_eq_true h]
theorem b_gtr_f{a b:Int}{K:Bool->Prop}(h:a<=b):(PH C Sg T).cmp .gtr a b K=K false:=by
 show K (decide (a > b))=_;rw[decide_eq_false (by omega)]
theorem b_geq_t{a b:Int}{K:Bool->Prop}(h:b<=a):(PH C Sg T).cmp .geq a b K=K true:=by
 show K (decide (a ≥ b))=_;rw[decide_eq_true h]
theorem b_geq_f{a b:Int}{K:Bool->Prop}(h:a<b):(PH C Sg T).cmp .geq a b K=K false:=by
 show K (decide (a ≥ b))=_;rw[decide_eq_false (by omega)]
theorem b_eql_t{a b:Int}{K:Bool->Prop}(h:a=b):(PH C Sg T).cmp .eql a b K=K true:=by
 show K (a==b)=_;rw[beq_iff_eq.2 h]
theorem b_eql_f{a b:Int}{K:Bool->Prop}(h:a≠b):(PH C Sg T).cmp .eql a b K=K false:=by
 show K (a==b)=_;rw[beq_false_of_ne h]
theorem b_neq_t{a b:Int}{K:Bool->Prop}(h:a≠b):(PH C Sg T).cmp .neq a b K=K true:=by
 show K (a != b)=_;rw[bne_iff_ne.2 h]
theorem b_neq_f{a b:Int}{K:Bool->Prop}(h:a=b):(PH C Sg T).cmp .neq a b K=K false:=by
 show K (a != b)=_;subst h;simp
theorem b_add{a b:Int}{K:Int->Prop}(h1:-9223372036854775808<=a+b)(h2:a+b<=9223372036854775807):(PH C Sg T).ari .add .i64 a b K=K (a+b):=by
 show K (IntKind.wrap .i64 (a+b))=_;rw[cH h1 h2]
theorem b_sub{a b:Int}{K:Int->Prop}(h1:-9223372036854775808<=a - b)(h2:a - b<=9223372036854775807):(PH C Sg T).ari .sub .i64 a b K=K (a - b):=by
 show K (IntKind.wrap .i64 (a - b))=_;rw[cH h1 h2]
theorem b_mul{a b:Int}{K:Int->Prop}(h1:-9223372036854775808<=a*b)(h2:a*b<=9223372036854775807):(PH C Sg T).ari .mul .i64 a b K=K (a*b):=by
 show K (IntKind.wrap .i64 (a*b))=_;rw[cH h1 h2]
theorem b_add8{a b:Int}{K:Int->Prop}(h1:0<=a+b)(h2:a+b<=255):(PH C Sg T).ari .add .u8 a b K=K (a+b):=by
 show K (IntKind.wrap .u8 (a+b))=_;rw[qP h1 h2]
theorem b_sub8{a b:Int}{K:Int->Prop}(h1:0<=a - b)(h2:a - b<=255):(PH C Sg T).ari .sub .u8 a b K=K (a - b):=by
 show K (IntKind.wrap .u8 (a - b))=_;rw[qP h1 h2]
theorem b_mul8{a b:Int}{K:Int->Prop}(h1:0<=a*b)(h2:a*b<=255):(PH C Sg T).ari .mul .u8 a b K=K (a*b):=by
 show K (IntKind.wrap .u8 (a*b))=_;rw[qP h1 h2]
theorem tdiv_nn{a b:Int}(h:0<=a):a.tdiv b=a / b:=Int.tdiv_eq_ediv_of_nonneg h
theorem b_quo_nn{a b:Int}{K:Int->Prop}(h:0<=a)(hb:0<b)(h2:a<=9223372036854775807):(PH C Sg T).ari .quo .i64 a b K=K (a / b):=by
 show(b≠0/\K (IntKind.wrap .i64 (a.tdiv b)))=_
 have h3:a / b<=a:=Int.ediv_le_self b h
 have h4:0<=a / b:=Int.ediv_nonneg h (by omega)
 rw[tdiv_nn h,cH (by omega) (by omega)]
 simp;intro _ h;omega
theorem b_quo_dv{a b:Int}{K:Int->Prop}(h:a%b=0)(hb:0<b)(h1:-9223372036854775808<=a)(h2:a<=9223372036854775807):(PH C Sg T).ari .quo .i64 a b K=K (a / b):=by
 show(b≠0/\K (IntKind.wrap .i64 (a.tdiv b)))=_
 obtain⟨q,rfl⟩:=Int.dvd_of_emod_eq_zero h
 rw[Int.mul_tdiv_cancel_left q (by omega),Int.mul_ediv_cancel_left q (by omega)]
 have hq:-9223372036854775808<=q/\q<=9223372036854775807:=by
  rcases qcK 0 q with hs|hs
  ·have:=qcf (show(1:Int)<=b by omega) hs
   omega
  ·have:=qcf (show(1:Int)<=b by omega) (show 0<=-q by omega)
   rw[Int.mul_neg b q]at this
   omega
 rw[cH hq.1 hq.2]
 simp;intro _ h;omega
theorem b_rem_nn{k:IntKind}{a b:Int}{K:Int->Prop}(h:0<=a)(hb:0<b):(PH C Sg T).ari .rem k a b K=K (a%b):=by
 show(b≠0/\K (a.tmod b))=_
 rw[qc1 h]
 simp;intro _ h;omega
theorem b_rem_np{k:IntKind}{a b:Int}{K:Int->Prop}(h:a<=0)(hb:0<b):(PH C Sg T).ari .rem k a b K=K (-((-a)%b)):=by
 show(b≠0/\K (a.tmod b))=_
 have:a.tmod b = -((-a)%b):=by
  have h1:=Int.neg_tmod a b
  rw[qc1 (a:=-a) (by omega)]at h1
  omega
 rw[this]
 simp;intro _ h;omega
theorem b_and1{a:Int}{K:Int->Prop}:(PH C Sg T).ari .and .i64 a 1 K=K (a%2):=by
 show(((1:Int)=1/\K (a%2))∨((1:Int)≠1/\∃n,pe .and .i64 a 1 n/\K n))=K (a%2)
 simp
theorem b_conv{a:Int}{K:Int->Prop}(h1:-9223372036854775808<=a)(h2:a<=9223372036854775807):(PH C Sg T).conv .i64 a K=K a:=by
 show K (IntKind.wrap .i64 a)=_;rw[cH h1 h2]
theorem b_conv8{a:Int}{K:Int->Prop}(h1:0<=a)(h2:a<=255):(PH C Sg T).conv .u8 a K=K a:=by
 show K (IntKind.wrap .u8 a)=_;rw[qP h1 h2]
theorem b_sel_t{a b:Int}{K:Int->Prop}:(PH C Sg T).sel true a b K=K a:=rfl
theorem b_sel_f{a b:Int}{K:Int->Prop}:(PH C Sg T).sel false a b K=K b:=rfl
theorem b_opt{α:Type}{x:α}{K:α->Prop}:(PH C Sg T).opt (some x) K=K x:=by
 show(∃y,some x=some y/\K y)=K x
 simp
theorem b_inB{n:Nat}{i:Int}{K:Unit->Prop}(h1:0<=i)(h2:i<(n:Int)):(PH C Sg T).opt (inB n i) K=K ():=by
 rw[show inB n i=some ()from(inB_eq n i).trans (if_pos ⟨h1,h2⟩),b_opt]
theorem b_join{b:List Lf->HL->Prop}{m:(List Lf->HL->Prop)->Prop}:(PH C Sg T).join b m=m b:=rfl
theorem b_eqs0{K:Bool->Prop}:(PH C Sg T).eqs [] K=K true:=rfl
theorem b_eqs_t{a b:Int}{l:List (Lf×Lf)}{K:Bool->Prop}(h:a=b):(PH C Sg T).eqs ((.i a,.i b) :: l) K=(PH C Sg T).eqs l K:=by
 show K (ca _)=K (ca l)
 subst h
 simp[ca,fY]
theorem b_eqs_f{a b:Int}{l:List (Lf×Lf)}{K:Bool->Prop}(h:a≠b):(PH C Sg T).eqs ((.i a,.i b) :: l) K=K false:=by
 show K (ca _)=K false
 have:(a==b)=false:=beq_false_of_ne h
 simp[ca,fY,this]
theorem p_loop{F:(List Lf->HL->Prop)->List Lf->HL->Prop}{ls:List Lf}{h:HL}(n:Nat)(hn:itH F n ls h):(PH C Sg T).loop F ls h:=⟨n,hn⟩
theorem b_it{F:(List Lf->HL->Prop)->List Lf->HL->Prop}{n:Nat}{ls:List Lf}{h:HL}:itH F (n+1) ls h=F (itH F n) ls h:=rfl
theorem ae{g:FuncId}{ls rs:List Lf}{h:HL}{K:List Lf->HL->Prop}(hc:∀H,aB C Sg g ls H rs H)(hk:K rs h):(PH C Sg T).call g ls h (@hid _ ⟨K⟩):=⟨rs,h,hc _,hk⟩
theorem b_eqsb_t{a b:Bool}{l:List (Lf×Lf)}{K:Bool->Prop}(h:a=b):(PH C Sg T).eqs ((.b a,.b b) :: l) K=(PH C Sg T).eqs l K:=by
 show K (ca _)=K (ca l)
 subst h
 simp[ca,fY]
theorem b_eqsb_tf{l:List (Lf×Lf)}{K:Bool->Prop}:(PH C Sg T).eqs ((.b true,.b false) :: l) K=K false:=rfl
theorem b_eqsb_ft{l:List (Lf×Lf)}{K:Bool->Prop}:(PH C Sg T).eqs ((.b false,.b true) :: l) K=K false:=rfl
theorem b_mul_1{b:Int}{K:Int->Prop}(h1:-9223372036854775808<=b)(h2:b<=9223372036854775807):(PH C Sg T).ari .mul .i64 1 b K=K b:=by
 show K (IntKind.wrap .i64 (1*b))=_;rw[Int.one_mul,cH h1 h2]
theorem b_mul_0{b:Int}{K:Int->Prop}:(PH C Sg T).ari .mul .i64 0 b K=K 0:=by
 show K (IntKind.wrap .i64 (0*b))=_;rw[Int.zero_mul];rfl
theorem b_mul_m{b:Int}{K:Int->Prop}(h1:-9223372036854775808<=-b)(h2:-b<=9223372036854775807):(PH C Sg T).ari .mul .i64 (-1) b K=K (-b):=by
 show K (IntKind.wrap .i64 (-1*b))=_
 have:(-1*b:Int) = -b:=by omega
 rw[this,cH h1 h2]
theorem b_mul_r1{b:Int}{K:Int->Prop}(h1:-9223372036854775808<=b)(h2:b<=9223372036854775807):(PH C Sg T).ari .mul .i64 b 1 K=K b:=by
 show K (IntKind.wrap .i64 (b*1))=_;rw[Int.mul_one,cH h1 h2]
theorem b_mul_r0{b:Int}{K:Int->Prop}:(PH C Sg T).ari .mul .i64 b 0 K=K 0:=by
 show K (IntKind.wrap .i64 (b*0))=_;rw[Int.mul_zero];rfl
theorem b_mul_rm{b:Int}{K:Int->Prop}(h1:-9223372036854775808<=-b)(h2:-b<=9223372036854775807):(PH C Sg T).ari .mul .i64 b (-1) K=K (-b):=by
 show K (IntKind.wrap .i64 (b * -1))=_
 have:(b * -1:Int) = -b:=by omega
 rw[this,cH h1 h2]
theorem b_add_0{b:Int}{K:Int->Prop}(h1:-9223372036854775808<=b)(h2:b<=9223372036854775807):(PH C Sg T).ari .add .i64 0 b K=K b:=by
 show K (IntKind.wrap .i64 (0+b))=_;rw[qcH,cH h1 h2]
theorem b_add_r0{b:Int}{K:Int->Prop}(h1:-9223372036854775808<=b)(h2:b<=9223372036854775807):(PH C Sg T).ari .add .i64 b 0 K=K b:=by
 show K (IntKind.wrap .i64 (b+0))=_;rw[Int.add_zero,cH h1 h2]
theorem b_add_11{K:Int->Prop}:(PH C Sg T).ari .add .i64 1 1 K=K 2:=by
 show K (IntKind.wrap .i64 (1+1))=_;rfl
theorem b_quo_1{a:Int}{K:Int->Prop}(h1:-9223372036854775808<=a)(h2:a<=9223372036854775807):(PH C Sg T).ari .quo .i64 a 1 K=K a:=by
 show((1:Int)≠0/\K (IntKind.wrap .i64 (a.tdiv 1)))=_
 rw[Int.tdiv_one,cH h1 h2];simp
theorem p_ari_2{op:BinOp}{k:IntKind}{a b b':Int}{K:Int->Prop}(hb:b=b')(h:(PH C Sg T).ari op k a b' K):(PH C Sg T).ari op k a b K:=by rw[hb];exact h
theorem aq{α:Type}{o:Option α}{x:α}{K:α->Prop}(h:o=some x)(hk:K x):(PH C Sg T).opt o (@hid _ ⟨K⟩):=⟨x,h,hk⟩
theorem p_unI{n:Int}{r:List Lf}{K:Int->List Lf->Prop}:(PH C Sg T).unI (.i n :: r) (@hid _ ⟨K⟩)=K n r:=b_unI
theorem p_unB{n:Bool}{r:List Lf}{K:Bool->List Lf->Prop}:(PH C Sg T).unB (.b n :: r) (@hid _ ⟨K⟩)=K n r:=b_unB
theorem p_unV{n:Value}{r:List Lf}{K:Value->List Lf->Prop}:(PH C Sg T).unV (.v n :: r) (@hid _ ⟨K⟩)=K n r:=b_unV
theorem p_un0{K:Prop}:(PH C Sg T).un0 [] (@hid _ ⟨K⟩)=K:=b_un0
theorem p_ucI{k:IntKind}{n:Int}{r:List Value}{K:Int->List Value->Prop}:(PH C Sg T).ucI k (.int k n :: r) (@hid _ ⟨K⟩)=K n r:=b_ucI
theorem p_ucB{n:Bool}{r:List Value}{K:Bool->List Value->Prop}:(PH C Sg T).ucB (.bool n :: r) (@hid _ ⟨K⟩)=K n r:=b_ucB
theorem p_ucV{n:Value}{r:List Value}{K:Value->List Value->Prop}:(PH C Sg T).ucV (n :: r) (@hid _ ⟨K⟩)=K n r:=b_ucV
theorem p_uc0{K:Prop}:(PH C Sg T).uc0 [] (@hid _ ⟨K⟩)=K:=b_uc0
theorem p_cond_t{X Y:Prop}:(PH C Sg T).cond true (@hid _ ⟨X⟩) Y=X:=b_cond_t
theorem p_cond_f{X Y:Prop}:(PH C Sg T).cond false X (@hid _ ⟨Y⟩)=Y:=b_cond_f
theorem p_lss_t{a b:Int}{K:Bool->Prop}(h:a<b):(PH C Sg T).cmp .lss a b (@hid _ ⟨K⟩)=K true:=b_lss_t h
theorem p_lss_f{a b:Int}{K:Bool->Prop}(h:b<=a):(PH C Sg T).cmp .lss a b (@hid _ ⟨K⟩)=K false:=b_lss_f h
theorem p_leq_t{a b:Int}{K:Bool->Prop}(h:a<=b):(PH C Sg T).cmp .leq a b (@hid _ ⟨K⟩)=K true:=b_leq_t h
theorem p_leq_f{a b:Int}{K:Bool->Prop}(h:b<a):(PH C Sg T).cmp .leq a b (@hid _ ⟨K⟩)=K false:=b_leq_f h
theorem p_gtr_t{a b:Int}{K:Bool->Prop}(h:b<a):(PH C Sg T).cmp .gtr a b (@hid _ ⟨K⟩)=K true:=b_gtr_t h
theorem p_gtr_f{a b:Int}{K:Bool->Prop}(h:a<=b):(PH C Sg T).cmp .gtr a b (@hid _ ⟨K⟩)=K false:=b_gtr_f h
theorem p_geq_t{a b:Int}{K:Bool->Prop}(h:b<=a):(PH C Sg T).cmp .geq a b (@hid _ ⟨K⟩)=K true:=b_geq_t h
theorem p_geq_f{a b:Int}{K:Bool->Prop}(h:a<b):(PH C Sg T).cmp .geq a b (@hid _ ⟨K⟩)=K false:=b_geq_f h
theorem p_eql_t{a b:Int}{K:Bool->Prop}(h:a=b):(PH C Sg T).cmp .eql a b (@hid _ ⟨K⟩)=K true:=b_eql_t h
theorem p_eql_f{a b:Int}{K:Bool->Prop}(h:a≠b):(PH C Sg T).cmp .eql a b (@hid _ ⟨K⟩)=K false:=b_eql_f h
theorem p_neq_t{a b:Int}{K:Bool->Prop}(h:a≠b):(PH C Sg T).cmp .neq a b (@hid _ ⟨K⟩)=K true:=b_neq_t h
theorem p_neq_f{a b:Int}{K:Bool->Prop}(h:a=b):(PH C Sg T).cmp .neq a b (@hid _ ⟨K⟩)=K false:=b_neq_f h
theorem p_add{a b:Int}{K:Int->Prop}(h1:-9223372036854775808<=a+b)(h2:a+b<=9223372036854775807):(PH C Sg T).ari .add .i64 a b (@hid _ ⟨K⟩)=K (a+b):=b_add h1 h2
theorem p_sub{a b:Int}{K:Int->Prop}(h1:-9223372036854775808<=a - b)(h2:a - b<=9223372036854775807):(PH C Sg T).ari .sub .i64 a b (@hid _ ⟨K⟩)=K (a - b):=b_sub h1 h2
theorem p_mul{a b:Int}{K:Int->Prop}(h1:-9223372036854775808<=a*b)(h2:a*b<=9223372036854775807):(PH C Sg T).ari .mul .i64 a b (@hid _ ⟨K⟩)=K (a*b):=b_mul h1 h2
theorem p_add8{a b:Int}{K:Int->Prop}(h1:0<=a+b)(h2:a+b<=255):(PH C Sg T).ari .add .u8 a b (@hid _ ⟨K⟩)=K (a+b):=b_add8 h1 h2
theorem p_sub8{a b:Int}{K:Int->Prop}(h1:0<=a - b)(h2:a - b<=255):(PH C Sg T).ari .sub .u8 a b (@hid _ ⟨K⟩)=K (a - b):=b_sub8 h1 h2
theorem p_mul8{a b:Int}{K:Int->Prop}(h1:0<=a*b)(h2:a*b<=255):(PH C Sg T).ari .mul .u8 a b (@hid _ ⟨K⟩)=K (a*b):=b_mul8 h1 h2
theorem p_quo_nn{a b:Int}{K:Int->Prop}(h:0<=a)(hb:0<b)(h2:a<=9223372036854775807):(PH C Sg T).ari .quo .i64 a b (@hid _ ⟨K⟩)=K (a / b):=b_quo_nn h hb h2
theorem p_quo_dv{a b:Int}{K:Int->Prop}(h:a%b=0)(hb:0<b)(h1:-9223372036854775808<=a)(h2:a<=9223372036854775807):(PH C Sg T).ari .quo .i64 a b (@hid _ ⟨K⟩)=K (a / b):=b_quo_dv h hb h1 h2
theorem p_rem_nn{k:IntKind}{a b:Int}{K:Int->Prop}(h:0<=a)(hb:0<b):(PH C Sg T).ari .rem k a b (@hid _ ⟨K⟩)=K (a%b):=b_rem_nn h hb
theorem p_rem_np{k:IntKind}{a b:Int}{K:Int->Prop}(h:a<=0)(hb:0<b):(PH C Sg T).ari .rem k a b (@hid _ ⟨K⟩)=K (-((-a)%b)):=b_rem_np h hb
theorem p_and1{a:Int}{K:Int->Prop}:(PH C Sg T).ari .and .i64 a 1 (@hid _ ⟨K⟩)=K (a%2):=b_and1
theorem p_conv{a:Int}{K:Int->Prop}(h1:-9223372036854775808<=a)(h2:a<=9223372036854775807):(PH C Sg T).conv .i64 a (@hid _ ⟨K⟩)=K a:=b_conv h1 h2
theorem p_conv8{a:Int}{K:Int->Prop}(h1:0<=a)(h2:a<=255):(PH C Sg T).conv .u8 a (@hid _ ⟨K⟩)=K a:=b_conv8 h1 h2
theorem p_sel_t{a b:Int}{K:Int->Prop}:(PH C Sg T).sel true a b (@hid _ ⟨K⟩)=K a:=b_sel_t
theorem p_sel_f{a b:Int}{K:Int->Prop}:(PH C Sg T).sel false a b (@hid _ ⟨K⟩)=K b:=b_sel_f
theorem p_opt{α:Type}{x:α}{K:α->Prop}:(PH C Sg T).opt (some x) (@hid _ ⟨K⟩)=K x:=b_opt
theorem p_inB{n:Nat}{i:Int}{K:Unit->Prop}(h1:0<=i)(h2:i<(n:Int)):(PH C Sg T).opt (inB n i) (@hid _ ⟨K⟩)=K ():=b_inB h1 h2
theorem p_join{b:List Lf->HL->Prop}{m:(List Lf->HL->Prop)->Prop}:(PH C Sg T).join (@hid _ ⟨b⟩) (@hid _ ⟨m⟩)=m (@hid _ ⟨b⟩):=b_join
theorem p_eqs0{K:Bool->Prop}:(PH C Sg T).eqs [] (@hid _ ⟨K⟩)=K true:=b_eqs0
theorem p_eqs_t{a b:Int}{l:List (Lf×Lf)}{K:Bool->Prop}(h:a=b):(PH C Sg T).eqs ((.i a,.i b) :: l) (@hid _ ⟨K⟩)=(PH C Sg T).eqs l (@hid _ ⟨K⟩):=b_eqs_t h
theorem p_eqs_f{a b:Int}{l:List (Lf×Lf)}{K:Bool->Prop}(h:a≠b):(PH C Sg T).eqs ((.i a,.i b) :: l) (@hid _ ⟨K⟩)=K false:=b_eqs_f h
theorem p_it{F:(List Lf->HL->Prop)->List Lf->HL->Prop}{n:Nat}{ls:List Lf}{h:HL}:itH (@hid _ ⟨F⟩) (n+1) ls h=F (itH (@hid _ ⟨F⟩) n) ls h:=b_it
theorem p_eqsb_t{a b:Bool}{l:List (Lf×Lf)}{K:Bool->Prop}(h:a=b):(PH C Sg T).eqs ((.b a,.b b) :: l) (@hid _ ⟨K⟩)=(PH C Sg T).eqs l (@hid _ ⟨K⟩):=b_eqsb_t h
theorem p_eqsb_tf{l:List (Lf×Lf)}{K:Bool->Prop}:(PH C Sg T).eqs ((.b true,.b false) :: l) (@hid _ ⟨K⟩)=K false:=b_eqsb_tf
theorem p_eqsb_ft{l:List (Lf×Lf)}{K:Bool->Prop}:(PH C Sg T).eqs ((.b false,.b true) :: l) (@hid _ ⟨K⟩)=K false:=b_eqsb_ft
theorem p_mul_1{b:Int}{K:Int->Prop}(h1:-9223372036854775808<=b)(h2:b<=9223372036854775807):(PH C Sg T).ari .mul .i64 1 b (@hid _ ⟨K⟩)=K b:=b_mul_1 h1 h2
theorem p_mul_0{b:Int}{K:Int->Prop}:(PH C Sg T).ari .mul .i64 0 b (@hid _ ⟨K⟩)=K 0:=b_mul_0
theorem p_mul_m{b:Int}{K:Int->Prop}(h1:-9223372036854775808<=-b)(h2:-b<=9223372036854775807):(PH C Sg T).ari .mul .i64 (-1) b (@hid _ ⟨K⟩)=K (-b):=b_mul_m h1 h2
theorem p_mul_r1{b:Int}{K:Int->Prop}(h1:-9223372036854775808<=b)(h2:b<=9223372036854775807):(PH C Sg T).ari .mul .i64 b 1 (@hid _ ⟨K⟩)=K b:=b_mul_r1 h1 h2
theorem p_mul_r0{b:Int}{K:Int->Prop}:(PH C Sg T).ari .mul .i64 b 0 (@hid _ ⟨K⟩)=K 0:=b_mul_r0
theorem p_mul_rm{b:Int}{K:Int->Prop}(h1:-9223372036854775808<=-b)(h2:-b<=9223372036854775807):(PH C Sg T).ari .mul .i64 b (-1) (@hid _ ⟨K⟩)=K (-b):=b_mul_rm h1 h2
theorem p_add_0{b:Int}{K:Int->Prop}(h1:-9223372036854775808<=b)(h2:b<=9223372036854775807):(PH C Sg T).ari .add .i64 0 b (@hid _ ⟨K⟩)=K b:=b_add_0 h1 h2
theorem p_add_r0{b:Int}{K:Int->Prop}(h1:-9223372036854775808<=b)(h2:b<=9223372036854775807):(PH C Sg T).ari .add .i64 b 0 (@hid _ ⟨K⟩)=K b:=b_add_r0 h1 h2
theorem p_add_11{K:Int->Prop}:(PH C Sg T).ari .add .i64 1 1 (@hid _ ⟨K⟩)=K 2:=b_add_11
theorem p_quo_1{a:Int}{K:Int->Prop}(h1:-9223372036854775808<=a)(h2:a<=9223372036854775807):(PH C Sg T).ari .quo .i64 a 1 (@hid _ ⟨K⟩)=K a:=b_quo_1 h1 h2
theorem p_hid2{f:List Lf->HL->Prop}{a:List Lf}{b:HL}:@hid _ ⟨f⟩ a b=f a b:=rfl
theorem p_eqs2_f{a b c d:Int}{K:Bool->Prop}(h:¬(a=c/\b=d)):(PH C Sg T).eqs [(.i a,.i c),(.i b,.i d)] (@hid _ ⟨K⟩)=K false:=by
 show K (ca _)=K false
 have:ca [(.i a,.i c),(.i b,.i d)]=false:=by
  rw[qcB]
  simpa[ca,fY]using h
 rw[this]
theorem p_eqs3_f{a b c d e f:Int}{K:Bool->Prop}(h:¬(a=d/\b=e/\c=f)):(PH C Sg T).eqs [(.i a,.i d),(.i b,.i e),(.i c,.i f)] (@hid _ ⟨K⟩)=K false:=by
 show K (ca _)=K false
 have:ca [(.i a,.i d),(.i b,.i e),(.i c,.i f)]=false:=by
  rw[qcB]
  simpa[ca,fY]using h
 rw[this]
theorem aj{g:FuncId}{ls rs:List Lf}{h h':HL}{K:List Lf->HL->Prop}(hc:aB C Sg g ls (absH T h) rs (absH T h'))(hk:K rs h'):(PH C Sg T).call g ls h (@hid _ ⟨K⟩):=⟨rs,h',hc,hk⟩
theorem uG{g:FuncId}{sg:Sig}{ls rs:List Lf}{H H':List HObj}(hc:aB C Sg g ls H rs H')(hs:Sg g=some sg)(xs:List S0)(h1:bJ xs sg.ps=true)(h2:bL xs=ls) :
  sR C (.func (.func g) #[] #[]) (af xs) sg.rs H rs H':=by
 obtain⟨sg',xs',ys,c1,c2,c3,c4⟩:=hc
 rw[hs]at c1
 cases c1
 obtain⟨w1,_⟩:=cL c2.1 h1 (c2.2.1.trans h2.symm)
 rw[w1]at c4
 exact⟨ys,c3,.inl ⟨g,#[],#[],rfl,by simpa using c4⟩⟩
theorem tQ{v:Value}{args:List Value}{hs:List SK}{rs:List Lf}{h h':HL}{K:List Lf->HL->Prop}(hc:sR C v args hs (absH T h) rs (absH T h'))(hk:K rs h'):(PH C Sg T).callv v args hs h (@hid _ ⟨K⟩):=⟨rs,h',hc,hk⟩
theorem p_new{o:HObj}{h:HL}{K:Nat->HL->Prop}:(PH C Sg T).new o h (@hid _ ⟨K⟩)=K h.length (h++[.o o]):=rfl
theorem bf{v:Value}{K:Prop}(h:aP v=true)(hk:K):(PH C Sg T).chk v (@hid _ ⟨K⟩):=⟨h,hk⟩
theorem dA{f:Hp}{h:HL}{K:List Value->HL->Prop}{acts:List Act1}{cs:List Value}(e:f.run (getH T h) h.length=some (acts,cs))(hk:K cs (bR h acts)):(PH C Sg T).heap f h (@hid _ ⟨K⟩):=⟨acts,cs,e,hk⟩
theorem fv{f:Pk}{h:HL}{K:List Value->Prop}{cs:List Value}(e:f.run (getH T h)=some cs)(hk:K cs):(PH C Sg T).peek f h (@hid _ ⟨K⟩):=⟨cs,e,hk⟩
def pxs(C:Cfg)(Sg:FuncId->Option Sig)(T:Nat->Site):=And.intro @p_hid2 (And.intro (@p_new _ _ C Sg T) (And.intro (@p_unI _ _ C Sg T) (And.intro (@p_unB _ _ C Sg T) (And.intro (@p_unV _ _ C Sg T) (And.intro (@p_un0 _ _ C Sg T) (And.intro (@p_ucI _ _ C Sg T) (And.intro (@p_ucB _ _ C Sg T) (And.intro (@p_ucV _ _ C Sg T) (And.intro (@p_uc0 _ _ C Sg T) (And.intro (@p_cond_t _ _ C Sg T) (And.intro (@p_cond_f _ _ C Sg T) (And.intro (@p_opt _ _ C Sg T) (And.intro (@p_inB _ _ C Sg T) (And.intro (@p_join _ _ C Sg T) (And.intro (@p_sel_t _ _ C Sg T) (And.intro (@p_sel_f _ _ C Sg T) ((@p_it))))))))))))))))))
def pxc(C:Cfg)(Sg:FuncId->Option Sig)(T:Nat->Site):=And.intro (@p_lss_t _ _ C Sg T) (And.intro (@p_lss_f _ _ C Sg T) (And.intro (@p_leq_t _ _ C Sg T) (And.intro (@p_leq_f _ _ C Sg T) (And.intro (@p_gtr_t _ _ C Sg T) (And.intro (@p_gtr_f _ _ C Sg T) (And.intro (@p_geq_t _ _ C Sg T) (And.intro (@p_geq_f _ _ C Sg T) (And.intro (@p_eql_t _ _ C Sg T) (And.intro (@p_eql_f _ _ C Sg T) (And.intro (@p_neq_t _ _ C Sg T) (And.intro (@p_neq_f _ _ C Sg T) (And.intro (@p_eqs0 _ _ C Sg T) (And.intro (@p_eqs_t _ _ C Sg T) (And.intro (@p_eqs_f _ _ C Sg T) (And.intro (@p_eqs2_f _ _ C Sg T) (And.intro (@p_eqs3_f _ _ C Sg T) (And.intro (@p_eqsb_t _ _ C Sg T) (And.intro (@p_eqsb_tf _ _ C Sg T) ((@p_eqsb_ft _ _ C Sg T))))))))))))))))))))
def pxa(C:Cfg)(Sg:FuncId->Option Sig)(T:Nat->Site):=And.intro (@p_mul_1 _ _ C Sg T) (And.intro (@p_mul_0 _ _ C Sg T) (And.intro (@p_mul_m _ _ C Sg T) (And.intro (@p_mul_r1 _ _ C Sg T) (And.intro (@p_mul_r0 _ _ C Sg T) (And.intro (@p_mul_rm _ _ C Sg T) (And.intro (@p_add_0 _ _ C Sg T) (And.intro (@p_add_r0 _ _ C Sg T) (And.intro (@p_add_11 _ _ C Sg T) (And.intro (@p_quo_1 _ _ C Sg T) (And.intro (@p_add _ _ C Sg T) (And.intro (@p_sub _ _ C Sg T) (And.intro (@p_mul _ _ C Sg T) (And.intro (@p_add8 _ _ C Sg T) (And.intro (@p_sub8 _ _ C Sg T) (And.intro (@p_mul8 _ _ C Sg T) (And.intro (@p_quo_nn _ _ C Sg T) (And.intro (@p_quo_dv _ _ C Sg T) (And.intro (@p_rem_nn _ _ C Sg T) (And.intro (@p_rem_np _ _ C Sg T) (And.intro (@p_and1 _ _ C Sg T) (And.intro (@p_conv _ _ C Sg T) ((@p_conv8 _ _ C Sg T)))))))))))))))))))))))
end
end Sx
namespace Sx
section
variable [Val] [Kno]
variable {C:Cfg} {Sg:FuncId->Option Sig} {T:Nat->Site}
theorem absH_setO{h:HL}{l:Nat}{o:HO}:absH T (h.set l o)=(absH T h).set l (absO T o):=by
 unfold absH
 rw[List.map_set]
end
end Sx
namespace Sx
open Go.Proofs
def hA(A:Alg Prop HL):Alg Prop HL where
 fail:=A.fail
 cond b x y:=A.cond b (@hid _ ⟨x⟩) (@hid _ ⟨y⟩)
 ari o k a b K:=A.ari o k a b (@hid _ ⟨K⟩)
 shf o k a l b K:=A.shf o k a l b (@hid _ ⟨K⟩)
 cmp o a b K:=A.cmp o a b (@hid _ ⟨K⟩)
 eqs l K:=A.eqs l (@hid _ ⟨K⟩)
 conv k a K:=A.conv k a (@hid _ ⟨K⟩)
 sel t a b K:=A.sel t a b (@hid _ ⟨K⟩)
 opt o K:=A.opt o (@hid _ ⟨K⟩)
 chk v x:=A.chk v (@hid _ ⟨x⟩)
 unI l K:=A.unI l (@hid _ ⟨K⟩)
 unB l K:=A.unB l (@hid _ ⟨K⟩)
 unV l K:=A.unV l (@hid _ ⟨K⟩)
 un0 l x:=A.un0 l (@hid _ ⟨x⟩)
 ucI k l K:=A.ucI k l (@hid _ ⟨K⟩)
 ucB l K:=A.ucB l (@hid _ ⟨K⟩)
 ucV l K:=A.ucV l (@hid _ ⟨K⟩)
 uc0 l x:=A.uc0 l (@hid _ ⟨x⟩)
 peek f h K:=A.peek f h (@hid _ ⟨K⟩)
 heap f h K:=A.heap f h (@hid _ ⟨K⟩)
 new o h K:=A.new o h (@hid _ ⟨K⟩)
 call g l h K:=A.call g l h (@hid _ ⟨K⟩)
 callv v a s h K:=A.callv v a s h (@hid _ ⟨K⟩)
 join b m:=A.join (@hid _ ⟨b⟩) (@hid _ ⟨m⟩)
 loop F l h:=A.loop (@hid _ ⟨F⟩) l h
 rfun n v a h K:=A.rfun n v a h (@hid _ ⟨K⟩)
 pend o x y l:=A.pend o (@hid _ ⟨x⟩) (@hid _ ⟨y⟩) l
 lp1 n h K:=A.lp1 n h (@hid _ ⟨K⟩)
 lp2 n o h K:=A.lp2 n o h (@hid _ ⟨K⟩)
theorem hA_eq(A:Alg Prop HL):hA A=A:=rfl
section
variable {A:Alg Prop HL}
theorem h_cond{b:Bool}{x y:Prop}:(hA A).cond b x y=A.cond b (@hid _ ⟨x⟩) (@hid _ ⟨y⟩):=rfl
theorem h_ari{o:BinOp}{k:IntKind}{a b:Int}{K:Int->Prop}:(hA A).ari o k a b K=A.ari o k a b (@hid _ ⟨K⟩):=rfl
theorem h_shf{o:BinOp}{k l:IntKind}{a b:Int}{K:Int->Prop}:(hA A).shf o k a l b K=A.shf o k a l b (@hid _ ⟨K⟩):=rfl
theorem h_cmp{o:BinOp}{a b:Int}{K:Bool->Prop}:(hA A).cmp o a b K=A.cmp o a b (@hid _ ⟨K⟩):=rfl
theorem h_eqs{l:List (Lf×Lf)}{K:Bool->Prop}:(hA A).eqs l K=A.eqs l (@hid _ ⟨K⟩):=rfl
theorem h_conv{k:IntKind}{a:Int}{K:Int->Prop}:(hA A).conv k a K=A.conv k a (@hid _ ⟨K⟩):=rfl
theorem h_sel{t:Bool}{a b:Int}{K:Int->Prop}:(hA A).sel t a b K=A.sel t a b (@hid _ ⟨K⟩):=rfl
theorem h_opt{α:Type}{o:Option α}{K:α->Prop}:(hA A).opt o K=A.opt o (@hid _ ⟨K⟩):=rfl
theorem h_chk{v:Value}{x:Prop}:(hA A).chk v x=A.chk v (@hid _ ⟨x⟩):=rfl
theorem h_unI{l:List Lf}{K:Int->List Lf->Prop}:(hA A).unI l K=A.unI l (@hid _ ⟨K⟩):=rfl
theorem h_unB{l:List Lf}{K:Bool->List Lf->Prop}:(hA A).unB l K=A.unB l (@hid _ ⟨K⟩):=rfl
theorem h_unV{l:List Lf}{K:Value->List Lf->Prop}:(hA A).unV l K=A.unV l (@hid _ ⟨K⟩):=rfl
theorem h_un0{l:List Lf}{x:Prop}:(hA A).un0 l x=A.un0 l (@hid _ ⟨x⟩):=rfl
theorem h_ucI{k:IntKind}{l:List Value}{K:Int->List Value->Prop}:(hA A).ucI k l K=A.ucI k l (@hid _ ⟨K⟩):=rfl
theorem h_ucB{l:List Value}{K:Bool->List Value->Prop}:(hA A).ucB l K=A.ucB l (@hid _ ⟨K⟩):=rfl
theorem h_ucV{l:List Value}{K:Value->List Value->Prop}:(hA A).ucV l K=A.ucV l (@hid _ ⟨K⟩):=rfl
theorem h_uc0{l:List Value}{x:Prop}:(hA A).uc0 l x=A.uc0 l (@hid _ ⟨x⟩):=rfl
theorem h_peek{f:Pk}{h:HL}{K:List Value->Prop}:(hA A).peek f h K=A.peek f h (@hid _ ⟨K⟩):=rfl
theorem h_heap{f:Hp}{h:HL}{K:List Value->HL->Prop}:(hA A).heap f h K=A.heap f h (@hid _ ⟨K⟩):=rfl
theorem h_new{o:HObj}{h:HL}{K:Nat->HL->Prop}:(hA A).new o h K=A.new o h (@hid _ ⟨K⟩):=rfl
theorem h_call{g:FuncId}{l:List Lf}{h:HL}{K:List Lf->HL->Prop}:(hA A).call g l h K=A.call g l h (@hid _ ⟨K⟩):=rfl
theorem h_callv{v:Value}{a:List Value}{s:List SK}{h:HL}{K:List Lf->HL->Prop}:(hA A).callv v a s h K=A.callv v a s h (@hid _ ⟨K⟩):=rfl
theorem h_join{b:List Lf->HL->Prop}{m:(List Lf->HL->Prop)->Prop}:(hA A).join b m=A.join (@hid _ ⟨b⟩) (@hid _ ⟨m⟩):=rfl
theorem h_loop{F:(List Lf->HL->Prop)->List Lf->HL->Prop}{l:List Lf}{h:HL}:(hA A).loop F l h=A.loop (@hid _ ⟨F⟩) l h:=rfl
theorem h_rfun{n:Nat}{v:Value}{a:List Value}{h:HL}{K:Option Code->HL->Prop}:(hA A).rfun n v a h K=A.rfun n v a h (@hid _ ⟨K⟩):=rfl
theorem h_pend{o:Option Code}{x y:Prop}{l:List (Nat×Prop)}:(hA A).pend o x y l=A.pend o (@hid _ ⟨x⟩) (@hid _ ⟨y⟩) l:=rfl
theorem h_lp1{n:Nat}{h:HL}{K:HL->Prop}:(hA A).lp1 n h K=A.lp1 n h (@hid _ ⟨K⟩):=rfl
theorem h_lp2{n:Nat}{o:Option Code}{h:HL}{K:HL->Prop}:(hA A).lp2 n o h K=A.lp2 n o h (@hid _ ⟨K⟩):=rfl
end
def pxh(A:Alg Prop HL):=And.intro (@h_cond A) (And.intro (@h_ari A) (And.intro (@h_shf A) (And.intro (@h_cmp A) (And.intro (@h_eqs A) (And.intro (@h_conv A) (And.intro (@h_sel A) (And.intro (@h_opt A) (And.intro (@h_chk A) (And.intro (@h_unI A) (And.intro (@h_unB A) (And.intro (@h_unV A) (And.intro (@h_un0 A) (And.intro (@h_ucI A) (And.intro (@h_ucB A) (And.intro (@h_ucV A) (And.intro (@h_uc0 A) (And.intro (@h_peek A) (And.intro (@h_heap A) (And.intro (@h_new A) (And.intro (@h_call A) (And.intro (@h_callv A) (And.intro (@h_join A) (And.intro (@h_loop A) (And.intro (@h_rfun A) (And.intro (@h_pend A) (And.intro (@h_lp1 A) ((@h_lp2 A))))))))))))))))))))))))))))
end Sx
end Go.Am
set_option maxRecDepth 100000
namespace Go.Am
open Sx Go.Proofs
theorem gl_cell(g:Nat)(vs:List Value)(h:cc.G g=some vs):vs.all aQ=true:=by
 unfold cc at h
 simp only at h
 split at h<;>first|(cases h;done)|(obtain rfl:=qan h;kernel_rfl)
abbrev P1:Alg Prop HL:=PH cc ab aa
abbrev Cc(g:FuncId)(ls rs:List Lf):Prop:=∀H,aB cc ab g ls H rs H
theorem fn_ok{f:FuncId}{fn:Fn1}(hi:FnIs (xc f) ab f fn){ls:List Lf}{H:HL}{K:List Lf->HL->Prop}(hls:gh ls=true)
  (h:ai P1 (xc f) ab drN fn ls H K):∃rs H',aB cc ab f ls (absH aa H) rs (absH aa H')/\K rs H':=by
 obtain⟨rs,h',a1,_,a3⟩:=pR (X:=xc f) (holds:=id) (abs:=absH aa) (PH_ok cc ab aa) uL hi (eo hls) h
 exact⟨rs,h',a1,a3⟩
theorem fn_okG{f:FuncId}{fn:Fn1}(hi:FnIs (xc f) ab f fn){ls:List Lf}{H:HL}{K:List Lf->HL->Prop}(hls:dJ ls)
  (h:ai P1 (xc f) ab drN fn ls H K):∃rs H',aB cc ab f ls (absH aa H) rs (absH aa H')/\K rs H':=by
 obtain⟨rs,h',a1,_,a3⟩:=pR (X:=xc f) (holds:=id) (abs:=absH aa) (PH_ok cc ab aa) uL hi hls h
 exact⟨rs,h',a1,a3⟩
theorem gls0:dJ []:=λ_ h=>by cases h
theorem glsI{n:Int}{ls:List Lf}(h:dJ ls):dJ (.i n :: ls):=λl hl=>by
 rcases qam.1 hl with rfl|hl
 ·trivial
 ·exact h l hl
theorem glsV{x:Value}{ls:List Lf}(hx:aP x=true)(h:dJ ls):dJ (.v x :: ls):=λl hl=>by
 rcases qam.1 hl with rfl|hl
 ·exact hx
 ·exact h l hl
abbrev FP:=List Lf->HL->(List Lf->HL->Prop)->Prop
abbrev UG(k:FuncId)(p:FP):Prop:=∀ {ls:List Lf} {H:HL} {K:List Lf->HL->Prop},gh ls=true->p ls H K->∃rs H',aB cc ab k ls (absH aa H) rs (absH aa H')/\K rs H'
abbrev XG(k:FuncId)(p:FP):Prop:=∀ {ls:List Lf} {H:HL} {K:List Lf->HL->Prop},dJ ls->p ls H K->∃rs H',aB cc ab k ls (absH aa H) rs (absH aa H')/\K rs H'
abbrev QG(k:FuncId)(p:FP):Prop:=∀ {ls rs:List Lf},gh ls=true->p ls [] (λrs' _=>rs'=rs)->Cc k ls rs
theorem uu{k:FuncId}{fn:Fn1}{f:{R HT:Type}->Alg R HT->List Lf->HT->(List Lf->HT->R)->R}(hi:FnIs (xc k) ab k fn)(e:@f=λR HT A ls h K=>ai A (xc k) ab drN fn ls h K):UG k (f (hA P1)):=by
 intro ls H K hls h
 rw[hA_eq,e]at h
 exact fn_ok hi hls h
theorem xx{k:FuncId}{fn:Fn1}{f:{R HT:Type}->Alg R HT->List Lf->HT->(List Lf->HT->R)->R}(hi:FnIs (xc k) ab k fn)(e:@f=λR HT A ls h K=>ai A (xc k) ab drN fn ls h K):XG k (f (hA P1)):=by
 intro ls H K hls h
 rw[hA_eq,e]at h
 exact fn_okG hi hls h
theorem qq{k:FuncId}{sg:Sig}{p:FP}(hu:UG k p)(hs:ab k=some sg)(hf:sg.plain=true):QG k p:=λhls h=>by
 obtain⟨_,_,h1,rfl⟩:=hu hls h
 exact ct_of mixed jx hs hf h1
def qxs:=pxs cc ab aa
def qxh:=And.intro (qeq (hA P1)) (pxh P1)
def qxc:=pxc cc ab aa
def qxa:=pxa cc ab aa
def qXX:=And.intro qxs (And.intro qxc qxa)
theorem x5:XG 5 (f5 (hA P1)):=xx i5 e5
theorem x7:XG 7 (f7 (hA P1)):=xx i7 e7
theorem u8:UG 8 (f8 (hA P1)):=uu i8 e8
theorem x8:XG 8 (f8 (hA P1)):=xx i8 e8
theorem x9:XG 9 (f9 (hA P1)):=xx i9 e9
theorem x13:XG 13 (f13 (hA P1)):=xx i13 e13
theorem x14:XG 14 (f14 (hA P1)):=xx i14 e14
theorem u16:UG 16 (f16 (hA P1)):=uu i16 e16
theorem x16:XG 16 (f16 (hA P1)):=xx i16 e16
theorem u19:UG 19 (f19 (hA P1)):=uu i19 e19
theorem q19:QG 19 (f19 (hA P1)):=qq u19 rfl (by kernel_rfl)
theorem x20:XG 20 (f20 (hA P1)):=xx i20 e20
theorem x21:XG 21 (f21 (hA P1)):=xx i21 e21
theorem x22:XG 22 (f22 (hA P1)):=xx i22 e22
theorem x23:XG 23 (f23 (hA P1)):=xx i23 e23
theorem x24:XG 24 (f24 (hA P1)):=xx i24 e24
theorem x26:XG 26 (f26 (hA P1)):=xx i26 e26
theorem x27:XG 27 (f27 (hA P1)):=xx i27 e27
theorem x28:XG 28 (f28 (hA P1)):=xx i28 e28
theorem x29:XG 29 (f29 (hA P1)):=xx i29 e29
theorem u31:UG 31 (f31 (hA P1)):=uu i31 e31
theorem q31:QG 31 (f31 (hA P1)):=qq u31 rfl (by kernel_rfl)
theorem u32:UG 32 (f32 (hA P1)):=uu i32 e32
theorem x32:XG 32 (f32 (hA P1)):=xx i32 e32
theorem x42:XG 42 (f42 (hA P1)):=xx i42 e42
theorem u43:UG 43 (f43 (hA P1)):=uu i43 e43
theorem q43:QG 43 (f43 (hA P1)):=qq u43 rfl (by kernel_rfl)
theorem u46:UG 46 (f46 (hA P1)):=uu i46 e46
theorem q46:QG 46 (f46 (hA P1)):=qq u46 rfl (by kernel_rfl)
theorem u47:UG 47 (f47 (hA P1)):=uu i47 e47
theorem q47:QG 47 (f47 (hA P1)):=qq u47 rfl (by kernel_rfl)
theorem u48:UG 48 (f48 (hA P1)):=uu i48 e48
theorem q48:QG 48 (f48 (hA P1)):=qq u48 rfl (by kernel_rfl)
theorem x49:XG 49 (f49 (hA P1)):=xx i49 e49
theorem x50:XG 50 (f50 (hA P1)):=xx i50 e50
theorem u53:UG 53 (f53 (hA P1)):=uu i53 e53
theorem q53:QG 53 (f53 (hA P1)):=qq u53 rfl (by kernel_rfl)
theorem u54:UG 54 (f54 (hA P1)):=uu i54 e54
theorem q54:QG 54 (f54 (hA P1)):=qq u54 rfl (by kernel_rfl)
theorem u55:UG 55 (f55 (hA P1)):=uu i55 e55
theorem q55:QG 55 (f55 (hA P1)):=qq u55 rfl (by kernel_rfl)
theorem x56:XG 56 (f56 (hA P1)):=xx i56 e56
theorem x57:XG 57 (f57 (hA P1)):=xx i57 e57
theorem u58:UG 58 (f58 (hA P1)):=uu i58 e58
theorem q58:QG 58 (f58 (hA P1)):=qq u58 rfl (by kernel_rfl)
theorem u59:UG 59 (f59 (hA P1)):=uu i59 e59
theorem q59:QG 59 (f59 (hA P1)):=qq u59 rfl (by kernel_rfl)
theorem u60:UG 60 (f60 (hA P1)):=uu i60 e60
theorem q60:QG 60 (f60 (hA P1)):=qq u60 rfl (by kernel_rfl)
theorem x61:XG 61 (f61 (hA P1)):=xx i61 e61
theorem u62:UG 62 (f62 (hA P1)):=uu i62 e62
theorem q62:QG 62 (f62 (hA P1)):=qq u62 rfl (by kernel_rfl)
theorem u63:UG 63 (f63 (hA P1)):=uu i63 e63
theorem q63:QG 63 (f63 (hA P1)):=qq u63 rfl (by kernel_rfl)
theorem u64:UG 64 (f64 (hA P1)):=uu i64 e64
theorem q64:QG 64 (f64 (hA P1)):=qq u64 rfl (by kernel_rfl)
theorem u65:UG 65 (f65 (hA P1)):=uu i65 e65
theorem q65:QG 65 (f65 (hA P1)):=qq u65 rfl (by kernel_rfl)
theorem u66:UG 66 (f66 (hA P1)):=uu i66 e66
theorem q66:QG 66 (f66 (hA P1)):=qq u66 rfl (by kernel_rfl)
theorem u70:UG 70 (f70 (hA P1)):=uu i70 e70
theorem q70:QG 70 (f70 (hA P1)):=qq u70 rfl (by kernel_rfl)
theorem x71:XG 71 (f71 (hA P1)):=xx i71 e71
theorem u72:UG 72 (f72 (hA P1)):=uu i72 e72
theorem q72:QG 72 (f72 (hA P1)):=qq u72 rfl (by kernel_rfl)
theorem u73:UG 73 (f73 (hA P1)):=uu i73 e73
theorem q73:QG 73 (f73 (hA P1)):=qq u73 rfl (by kernel_rfl)
theorem u74:UG 74 (f74 (hA P1)):=uu i74 e74
theorem q74:QG 74 (f74 (hA P1)):=qq u74 rfl (by kernel_rfl)
theorem u75:UG 75 (f75 (hA P1)):=uu i75 e75
theorem q75:QG 75 (f75 (hA P1)):=qq u75 rfl (by kernel_rfl)
theorem u76:UG 76 (f76 (hA P1)):=uu i76 e76
theorem q76:QG 76 (f76 (hA P1)):=qq u76 rfl (by kernel_rfl)
theorem x77:XG 77 (f77 (hA P1)):=xx i77 e77
theorem x78:XG 78 (f78 (hA P1)):=xx i78 e78
theorem u80:UG 80 (f80 (hA P1)):=uu i80 e80
theorem q80:QG 80 (f80 (hA P1)):=qq u80 rfl (by kernel_rfl)
theorem x81:XG 81 (f81 (hA P1)):=xx i81 e81
theorem x82:XG 82 (f82 (hA P1)):=xx i82 e82
theorem u89:UG 89 (f89 (hA P1)):=uu i89 e89
theorem q89:QG 89 (f89 (hA P1)):=qq u89 rfl (by kernel_rfl)
theorem u90:UG 90 (f90 (hA P1)):=uu i90 e90
theorem q90:QG 90 (f90 (hA P1)):=qq u90 rfl (by kernel_rfl)
theorem u92:UG 92 (f92 (hA P1)):=uu i92 e92
theorem q92:QG 92 (f92 (hA P1)):=qq u92 rfl (by kernel_rfl)
theorem u93:UG 93 (f93 (hA P1)):=uu i93 e93
theorem q93:QG 93 (f93 (hA P1)):=qq u93 rfl (by kernel_rfl)
theorem x94:XG 94 (f94 (hA P1)):=xx i94 e94
theorem u95:UG 95 (f95 (hA P1)):=uu i95 e95
theorem q95:QG 95 (f95 (hA P1)):=qq u95 rfl (by kernel_rfl)
theorem u96:UG 96 (f96 (hA P1)):=uu i96 e96
theorem q96:QG 96 (f96 (hA P1)):=qq u96 rfl (by kernel_rfl)
theorem x97:XG 97 (f97 (hA P1)):=xx i97 e97
theorem u98:UG 98 (f98 (hA P1)):=uu i98 e98
theorem q98:QG 98 (f98 (hA P1)):=qq u98 rfl (by kernel_rfl)
theorem u106:UG 106 (f106 (hA P1)):=uu i106 e106
theorem q106:QG 106 (f106 (hA P1)):=qq u106 rfl (by kernel_rfl)
theorem x107:XG 107 (f107 (hA P1)):=xx i107 e107
theorem x109:XG 109 (f109 (hA P1)):=xx i109 e109
theorem u111:UG 111 (f111 (hA P1)):=uu i111 e111
theorem q111:QG 111 (f111 (hA P1)):=qq u111 rfl (by kernel_rfl)
theorem u113:UG 113 (f113 (hA P1)):=uu i113 e113
theorem q113:QG 113 (f113 (hA P1)):=qq u113 rfl (by kernel_rfl)
theorem u114:UG 114 (f114 (hA P1)):=uu i114 e114
theorem q114:QG 114 (f114 (hA P1)):=qq u114 rfl (by kernel_rfl)
theorem u117:UG 117 (f117 (hA P1)):=uu i117 e117
theorem q117:QG 117 (f117 (hA P1)):=qq u117 rfl (by kernel_rfl)
theorem u118:UG 118 (f118 (hA P1)):=uu i118 e118
theorem q118:QG 118 (f118 (hA P1)):=qq u118 rfl (by kernel_rfl)
theorem x119:XG 119 (f119 (hA P1)):=xx i119 e119
theorem u120:UG 120 (f120 (hA P1)):=uu i120 e120
theorem q120:QG 120 (f120 (hA P1)):=qq u120 rfl (by kernel_rfl)
theorem x123:XG 123 (f123 (hA P1)):=xx i123 e123
theorem u129:UG 129 (f129 (hA P1)):=uu i129 e129
theorem q129:QG 129 (f129 (hA P1)):=qq u129 rfl (by kernel_rfl)
theorem u137:UG 137 (f137 (hA P1)):=uu i137 e137
theorem q137:QG 137 (f137 (hA P1)):=qq u137 rfl (by kernel_rfl)
theorem u140:UG 140 (f140 (hA P1)):=uu i140 e140
theorem q140:QG 140 (f140 (hA P1)):=qq u140 rfl (by kernel_rfl)
theorem u141:UG 141 (f141 (hA P1)):=uu i141 e141
theorem q141:QG 141 (f141 (hA P1)):=qq u141 rfl (by kernel_rfl)
theorem x142:XG 142 (f142 (hA P1)):=xx i142 e142
theorem u176:UG 176 (f176 (hA P1)):=uu i176 e176
theorem q176:QG 176 (f176 (hA P1)):=qq u176 rfl (by kernel_rfl)
end Go.Am
set_option maxRecDepth 100000
namespace Go.Am
namespace Sx
theorem cut_some{vs:List Value}{off n:Nat}{cs:List Value}:cut vs off n=some cs↔off+n<=vs.length/\(vs.drop off).take n=cs:=by
 unfold cut
 split
 ·rename_i h;simp[h]
 ·rename_i h;simp[h]
theorem cut_len{vs:List Value}{off n:Nat}{cs:List Value}(h:cut vs off n=some cs):cs.length=n:=by
 obtain⟨h1,rfl⟩:=cut_some.1 h
 rw[qaI,qbF];omega
theorem th{vs:List Value}{off n:Nat}{cs:List Value}(h:cut vs off n=some cs){o k:Nat}(hk:o+k<=n):cut vs (off+o) k=some ((cs.drop o).take k):=by
 obtain⟨h1,rfl⟩:=cut_some.1 h
 refine cut_some.2 ⟨by omega,?_⟩
 rw[List.drop_take,qbS,List.take_take,qb6 (by omega)]
theorem cut_all{vs:List Value}{n:Nat}(h:vs.length=n):cut vs 0 n=some vs:=cut_some.2 ⟨by omega,by rw[qbb,qaJ (by omega)]⟩
def Pre(h0 h:HL):Prop:=∃G,h=h0++G
theorem Pre.refl(h:HL):Pre h h:=⟨[],by simp⟩
theorem Pre.trans{a b c:HL}(h:Pre a b)(k:Pre b c):Pre a c:=by
 obtain⟨G,rfl⟩:=h
 obtain⟨G',rfl⟩:=k
 exact⟨G++G',by simp⟩
theorem Pre.app{a b:HL}(h:Pre a b)(G:HL):Pre a (b++G):=h.trans ⟨G,rfl⟩
theorem Pre.len{a b:HL}(h:Pre a b):a.length<=b.length:=by obtain⟨G,rfl⟩:=h;simp
theorem Pre.get{a b:HL}(h:Pre a b){i:Nat}{o:HO}(hi:a[i]? = some o):b[i]? = some o:=by
 obtain⟨G,rfl⟩:=h
 have:i<a.length:=by
  rcases qaw i a.length with h|h
  ·exact h
  ·rw[qaf h]at hi;cases hi
 rw[qae this];exact hi
theorem Pre.set{a b:HL}(h:Pre a b){i:Nat}(hi:a.length<=i)(o:HO):Pre a (b.set i o):=by
 obtain⟨G,rfl⟩:=h
 rw[qbU _ _ hi]
 exact⟨_,rfl⟩
def Ptr(h:HL)(p:Value)(cs:List Value):Prop:=∃id o vs e rw,p = .pointer (some ⟨id,o,none⟩)/\h[id]? = some (.o (.cells vs e rw))/\cut vs o cs.length=some cs
def SlC(h:HL)(v:Value)(e n:Nat)(cs:List Value):Prop:=
 cs.length=n*e/\((v = .slice none 0 0/\n=0)∨∃id off cx vs rw,v = .slice (some ⟨id,off,tag e⟩) n cx/\h[id]? = some (.o (.cells vs e rw))/\cut vs off (n*e)=some cs)
def LsH{α:Type}(h:HL)(v:Value)(e:Nat)(enc:α->List Value)(l:List α):Prop:=(∀a∈l,(enc a).length=e)/\SlC h v e l.length (l.flatMap enc)
def Mk(n0:Nat)(h:HL)(v:Value)(e n:Nat)(cs:List Value):Prop:=
 cs.length=n*e/\((v = .slice none 0 0/\n=0)∨∃id,n0<=id/\v = .slice (some ⟨id,0,tag e⟩) n 0/\h[id]? = some (.o (.cells cs e true)))
def MkL{α:Type}(n0:Nat)(h:HL)(v:Value)(e:Nat)(enc:α->List Value)(l:List α):Prop:=(∀a∈l,(enc a).length=e)/\Mk n0 h v e l.length (l.flatMap enc)
def blk:Value->Option Nat
 | .slice (some a) _ _=>some a.block
 |_=>none
theorem Ptr.keep{h h':HL}{p:Value}{cs:List Value}(hp:Ptr h p cs)(hk:∀(j:Nat) o,h[j]? = some o->h'[j]? = some o):Ptr h' p cs:=by
 obtain⟨id,o,vs,e,rw',h1,h2,h3⟩:=hp
 exact⟨id,o,vs,e,rw',h1,hk _ _ h2,h3⟩
theorem SlC.keep{h h':HL}{v:Value}{e n:Nat}{cs:List Value}(hs:SlC h v e n cs)(hk:∀(j:Nat) o,h[j]? = some o->blk v=some j->h'[j]? = some o):SlC h' v e n cs:=by
 obtain⟨h0,h1|⟨id,off,cx,vs,rw',rfl,h2,h3⟩⟩:=hs
 ·exact⟨h0,.inl h1⟩
 ·exact⟨h0,.inr ⟨id,off,cx,vs,rw',rfl,hk _ _ h2 rfl,h3⟩⟩
theorem SlC.pre{h h':HL}{v:Value}{e n:Nat}{cs:List Value}(hs:SlC h v e n cs)(hp:Pre h h'):SlC h' v e n cs:=hs.keep λ_ _ h _=>hp.get h
theorem LsH.keep{α:Type}{h h':HL}{v:Value}{e:Nat}{enc:α->List Value}{l:List α}(hs:LsH h v e enc l)(hk:∀(j:Nat) o,h[j]? = some o->blk v=some j->h'[j]? = some o):LsH h' v e enc l:=⟨hs.1,hs.2.keep hk⟩
theorem LsH.pre{α:Type}{h h':HL}{v:Value}{e:Nat}{enc:α->List Value}{l:List α}(hs:LsH h v e enc l)(hp:Pre h h'):LsH h' v e enc l:=⟨hs.1,hs.2.pre hp⟩
theorem SlC.len{h:HL}{v:Value}{e n:Nat}{cs:List Value}(hs:SlC h v e n cs):lenS v=some (.ofNat n):=by
 obtain⟨_,⟨rfl,rfl⟩|⟨id,off,cx,vs,rw',rfl,_⟩⟩:=hs<;>rfl
theorem LsH.len{α:Type}{h:HL}{v:Value}{e:Nat}{enc:α->List Value}{l:List α}(hs:LsH h v e enc l):lenS v=some (.ofNat l.length):=hs.2.len
theorem Mk.sl{n0:Nat}{h:HL}{v:Value}{e n:Nat}{cs:List Value}(hs:Mk n0 h v e n cs):SlC h v e n cs:=by
 obtain⟨h0,h1|⟨id,_,rfl,h2⟩⟩:=hs
 ·exact⟨h0,.inl h1⟩
 ·exact⟨h0,.inr ⟨id,0,0,cs,true,rfl,h2,cut_all h0⟩⟩
theorem MkL.ls{α:Type}{n0:Nat}{h:HL}{v:Value}{e:Nat}{enc:α->List Value}{l:List α}(hs:MkL n0 h v e enc l):LsH h v e enc l:=⟨hs.1,hs.2.sl⟩
theorem Mk.nil(n0:Nat)(h:HL)(e:Nat):Mk n0 h (.slice none 0 0) e 0 []:=⟨by simp,.inl ⟨rfl,rfl⟩⟩
theorem MkL.nil{α:Type}(n0:Nat)(h:HL)(e:Nat)(enc:α->List Value):MkL n0 h (.slice none 0 0) e enc []:=⟨by simp,Mk.nil n0 h e⟩
theorem LsH.nil{α:Type}(h:HL)(e:Nat)(enc:α->List Value):LsH h (.slice none 0 0) e enc []:=(MkL.nil 0 h e enc).ls
theorem Mk.keep{n0:Nat}{h h':HL}{v:Value}{e n:Nat}{cs:List Value}(hs:Mk n0 h v e n cs)(hk:∀(j:Nat) o,h[j]? = some o->blk v=some j->h'[j]? = some o):Mk n0 h' v e n cs:=by
 obtain⟨h0,h1|⟨id,h1,rfl,h2⟩⟩:=hs
 ·exact⟨h0,.inl h1⟩
 ·exact⟨h0,.inr ⟨id,h1,rfl,hk _ _ h2 rfl⟩⟩
theorem Mk.pre{n0:Nat}{h h':HL}{v:Value}{e n:Nat}{cs:List Value}(hs:Mk n0 h v e n cs)(hp:Pre h h'):Mk n0 h' v e n cs:=hs.keep λ_ _ h _=>hp.get h
theorem MkL.keep{α:Type}{n0:Nat}{h h':HL}{v:Value}{e:Nat}{enc:α->List Value}{l:List α}(hs:MkL n0 h v e enc l)(hk:∀(j:Nat) o,h[j]? = some o->blk v=some j->h'[j]? = some o):MkL n0 h' v e enc l:=⟨hs.1,hs.2.keep hk⟩
theorem MkL.pre{α:Type}{n0:Nat}{h h':HL}{v:Value}{e:Nat}{enc:α->List Value}{l:List α}(hs:MkL n0 h v e enc l)(hp:Pre h h'):MkL n0 h' v e enc l:=⟨hs.1,hs.2.pre hp⟩
theorem aL{α:Type}{e:Nat}{enc:α->List Value}:∀ {l:List α},(∀a∈l,(enc a).length=e)->(l.flatMap enc).length=l.length*e
 | [],_=>by simp
 |a :: l,h=>by
  rw[qbK,qaz,h a qaB,aL λb hb=>h b (qao _ hb),qaF,qbt,qck,Nat.add_comm]
theorem js{α:Type}{e:Nat}{enc:α->List Value}:∀ {l:List α},(∀a∈l,(enc a).length=e)->∀ {i:Nat} {a:α},l[i]? = some a->((l.flatMap enc).drop (i*e)).take e=enc a
 |b :: l,h,0,a,hi=>by
  simp only[qa6,qau]at hi
  subst hi
  have:=h b qaB
  rw[qbz,qbb,qbK,List.take_append_of_le_length (by omega),qaJ (by omega)]
 |b :: l,h,i+1,a,hi=>by
  simp only[qbN]at hi
  have hb:=h b qaB
  have:=js (λb hb=>h b (qao _ hb)) hi
  rw[qbK,qbt,qck,←this]
  have e1:i*e+e=(enc b).length+i*e:=by omega
  rw[e1,qcM,qbB (by omega),qaC,qbY]
 | [],_,_,_,hi=>by simp at hi
theorem SlC.at{h:HL}{v:Value}{e n:Nat}{cs:List Value}(hs:SlC h v e n cs){i:Nat}(hi:i<n):∃p,idS e v (.ofNat i)=some p/\Ptr h p ((cs.drop (i*e)).take e):=by
 obtain⟨h0,⟨rfl,rfl⟩|⟨id,off,cx,vs,rw',rfl,h2,h3⟩⟩:=hs
 ·omega
 ·have hle:i*e+e<=n*e:=by
   have:=qbl e (show i+1<=n by omega)
   rw[qbt,qck]at this;exact this
  refine⟨.pointer (some ⟨id,off+i*e,none⟩),?_,id,off+i*e,vs,e,rw',rfl,h2,?_⟩
  ·rw[idS_eq]
   have hh:0<=Int.ofNat i/\Int.ofNat i<(n:Int):=⟨qa7 i,by show(i:Int)<n;omega⟩
   simp only[if_pos hh]
   have:¬(tag e=some 1):=by simp[tag]
   simp only[if_neg this]
   rfl
  ·have hc:=th h3 hle
   have hl:=cut_len hc
   rw[hl];exact hc
theorem LsH.at{α:Type}{h:HL}{v:Value}{e:Nat}{enc:α->List Value}{l:List α}(hs:LsH h v e enc l){i:Nat}{a:α}(hi:l[i]? = some a):∃p,idS e v (.ofNat i)=some p/\Ptr h p (enc a):=by
 have hlt:i<l.length:=by
  rcases qaw i l.length with h|h
  ·exact h
  ·rw[qaf h]at hi;cases hi
 obtain⟨p,h1,h2⟩:=hs.2.at hlt
 rw[js hs.1 hi]at h2
 exact⟨p,h1,h2⟩
theorem Ptr.fd{h:HL}{p:Value}{cs:List Value}(hp:Ptr h p cs)(o k:Nat)(hk:o+k<=cs.length):∃p',fdP o p=some p'/\Ptr h p' ((cs.drop o).take k):=by
 obtain⟨id,o',vs,e,rw',rfl,h2,h3⟩:=hp
 refine⟨_,rfl,id,o'+o,vs,e,rw',rfl,h2,?_⟩
 have hc:=th h3 hk
 rw[cut_len hc];exact hc
section
variable [Val] [Kno]
theorem cw{T:Nat->Site}{h:HL}{i:Nat}{o:HObj}(hi:h[i]? = some (.o o)):getH T h i=some o:=by
 unfold getH;rw[hi];rfl
theorem Ptr.ld{T:Nat->Site}{h:HL}{p:Value}{cs:List Value}(hp:Ptr h p cs){n:Nat}(hn:cs.length=n):(Pk.ld n p).run (getH T h)=some cs:=by
 obtain⟨id,o,vs,e,rw',rfl,h2,h3⟩:=hp
 subst hn
 show(match (none:Option Nat)with|none=>(fS (getH T h) id).bind λvs=>cut vs o cs.length|some _=>none)=_
 unfold fS
 rw[cw h2]
 exact h3
theorem Ptr.lg{C:Cfg}{T:Nat->Site}{h:HL}{p:Value}{cs:List Value}(hp:Ptr h p cs){n:Nat}(hn:cs.length=n):(Pk.lg C n p).run (getH T h)=some cs:=by
 obtain⟨id,o,vs,e,rw',rfl,h2,h3⟩:=hp
 subst hn
 show(fS (getH T h) id).bind (λvs=>cut vs o cs.length)=_
 unfold fS
 rw[cw h2]
 exact h3
theorem vQ{C:Cfg}{T:Nat->Site}{h:HL}{v:Value}{e n:Nat}{cs:List Value}(hs:SlC h v e n cs):slG C e (getH T h) v=some (cs,n):=by
 obtain⟨h0,⟨rfl,rfl⟩|⟨id,off,cx,vs,rw',rfl,h2,h3⟩⟩:=hs
 ·simp only[qbz,qbp]at h0
  subst h0;rfl
 ·unfold slG
  have:¬(tag e=some 1):=by simp[tag]
  simp only[if_neg this,if_true]
  rw[cw h2]
  simp only[if_true]
  rw[h3];rfl
variable {C:Cfg} {Sg:FuncId->Option Sig} {T:Nat->Site}
theorem ap_mk{n0:Nat}{h0 h:HL}{v x:Value}{e n k bytes:Nat}{cs new:List Value}(hp:Pre h0 h)(h0n:h0.length=n0)(hm:Mk n0 h v e n cs)(hx:SlC h x e k new)(hs:bZ (n+k) bytes=true) :
  ∃acts v',(Hp.ap C e bytes v x).run (getH T h) h.length=some (acts,[v'])/\Pre h0 (bR h acts)/\Mk n0 (bR h acts) v' e (n+k) (cs++new)/\
   (∀(j:Nat) o,h[j]? = some o->blk v≠some j->(bR h acts)[j]? = some o)/\(blk v'=blk v∨blk v'=none∨∃j,blk v'=some j/\h.length<=j):=by
 obtain⟨c0,hm⟩:=hm
 have c1:=hx.1
 have c3:(cs++new).length=(n+k)*e:=by rw[qaz,c0,c1,qbt]
 have hslg:=vQ (C:=C) (T:=T) hx
 rcases hm with⟨rfl,rfl⟩|⟨id,hid,rfl,hg⟩
 ·simp only[qbz,qbp]at c0
  subst c0
  by_cases hk:k=0
  ·subst hk
   simp only[qbz,qbp]at c1
   subst c1
   refine⟨[],.slice none 0 0,?_,hp,Mk.nil _ _ _,λj o hj _=>hj,.inl rfl⟩
   show apG C e bytes (.slice none 0 0) x (getH T h) h.length=_
   unfold apG
   rw[hslg]
   rfl
  ·refine⟨[.push (.cells new e true)],.slice (some ⟨h.length,0,tag e⟩) k 0,?_,hp.app _,?_,λj o hj _=>?_,.inr (.inr ⟨h.length,rfl,qal _⟩)⟩
   ·show apG C e bytes (.slice none 0 0) x (getH T h) h.length=_
    unfold apG
    rw[hslg]
    simp only[if_neg hk]
    rw[qaH]at hs
    rw[if_pos hs]
   ·rw[qaH,qaC]
    refine⟨by simpa using c1,.inr ⟨h.length,by have:=hp.len;omega,rfl,?_⟩⟩
    simp[bR,Act1.onH]
   ·exact Pre.get ⟨_,rfl⟩ hj
 ·by_cases hk:k=0
  ·subst hk
   simp only[qbz,qbp]at c1
   subst c1
   refine⟨[],.slice (some ⟨id,0,tag e⟩) n 0,?_,hp,⟨c3,.inr ⟨id,hid,rfl,by simpa[bR]using hg⟩⟩,λj o hj _=>hj,.inl rfl⟩
   show apG C e bytes (.slice (some ⟨id,0,tag e⟩) n 0) x (getH T h) h.length=_
   unfold apG
   rw[hslg]
   simp only[ne_eq,not_true_eq_false,if_false]
   rw[cw hg]
   simp only[ne_eq,not_true_eq_false,if_false]
   rw[cut_all c0]
   rfl
  ·have hlt:id<h.length:=by
    rcases qaw id h.length with h1|h1
    ·exact h1
    ·rw[qaf h1]at hg;cases hg
   refine⟨[.set id .dead,.push (.cells (cs++new) e true)],.slice (some ⟨h.length,0,tag e⟩) (n+k) 0,?_,?_,?_,λj o hj hb=>?_,.inr (.inr ⟨h.length,rfl,qal _⟩)⟩
   ·show apG C e bytes (.slice (some ⟨id,0,tag e⟩) n 0) x (getH T h) h.length=_
    unfold apG
    rw[hslg]
    simp only[ne_eq,not_true_eq_false,if_false]
    rw[cw hg]
    simp only[ne_eq,not_true_eq_false,if_false]
    rw[cut_all c0]
    simp only[if_neg hk,qde]
    rw[if_pos hs]
   ·exact(hp.set (by omega) _).app _
   ·refine⟨c3,.inr ⟨h.length,by have:=hp.len;omega,rfl,?_⟩⟩
    simp[bR,Act1.onH]
   ·have hne:id≠j:=λhh=>hb (by subst hh;rfl)
    refine Pre.get (a:=h.set id (.o .dead)) ⟨_,rfl⟩ ?_
    rw[qat hne];exact hj
theorem mM{α:Type}{h0 h:HL}{v:Value}{e bytes:Nat}{enc:α->List Value}{l:List α}{a:α}{K:List Value->HL->Prop}{new:List Value}{m:Nat}{sp:Option Nat}(hp:Pre h0 h)(hm:MkL h0.length h v e enc l)(hn:new=enc a)(hl:(enc a).length=e)(hmm:m=h.length)(hsp:sp=some (e+10))
  (hs:bZ (l.length+1) bytes=true)
  (hk:∀v' h',Pre h0 h'->MkL h0.length h' v' e enc (l++[a])->aP v'=true->(∀(j:Nat) o,h[j]? = some o->blk v≠some j->h'[j]? = some o)->(blk v'=blk v∨∃j,blk v'=some j/\h.length<=j)->K [v'] h') :
  (PH C Sg T).heap (.ap C e bytes v (.slice (some ⟨m,0,sp⟩) 1 2)) (h++[.o (.cells new e true)]) (@hid _ ⟨K⟩):=by
 subst hn hmm hsp
 have hx:SlC (h++[HO.o (.cells (enc a) e true)]) (.slice (some ⟨h.length,0,tag e⟩) 1 2) e 1 (enc a):=by
  refine⟨by omega,.inr ⟨h.length,0,2,enc a,true,rfl,by simp,cut_all (by omega)⟩⟩
 have hm':Mk h0.length (h++[HO.o (.cells (enc a) e true)]) v e l.length (l.flatMap enc):=hm.2.pre ⟨_,rfl⟩
 obtain⟨acts,v',a1,a2,a3,a4,a5⟩:=ap_mk (C:=C) (T:=T) (hp.app [HO.o (.cells (enc a) e true)]) rfl hm' hx hs
 refine dA a1 (hk v' _ a2 ⟨?_,?_⟩ ?_ ?_ ?_)
 ·intro b hb
  rcases qaG.1 hb with hb|hb
  ·exact hm.1 b hb
  ·simp only[qay]at hb;subst hb;exact hl
 ·rw[qch,qaz]
  simpa using a3
 ·obtain⟨_,⟨rfl,_⟩|⟨id,_,rfl,_⟩⟩:=a3
  ·rfl
  ·simp[aP,noLoc,bb,bP,bo,aU,aD,tag]
 ·intro j o hj hb
  exact a4 j o (Pre.get ⟨_,rfl⟩ hj) hb
 ·rcases a5 with h1|h1|⟨j,h1,h2⟩
  ·exact .inl h1
  ·obtain⟨q1,⟨_,q2⟩|⟨id,_,rfl,_⟩⟩:=a3
   ·omega
   ·cases h1
  ·exact .inr ⟨j,h1,by simp at h2;omega⟩
end
end Sx
namespace Sx
theorem Ptr.good{h:HL}{p:Value}{cs:List Value}(hp:Ptr h p cs):aP p=true:=by
 obtain⟨id,o,vs,e,rw',rfl,_⟩:=hp
 simp[aP,noLoc,bb,bP,bo,aU,aD]
theorem SlC.good{h:HL}{v:Value}{e n:Nat}{cs:List Value}(hs:SlC h v e n cs):aP v=true:=by
 obtain⟨_,⟨rfl,_⟩|⟨id,off,cx,vs,rw',rfl,_⟩⟩:=hs
 ·rfl
 ·simp[aP,noLoc,bb,bP,bo,aU,aD,tag]
theorem LsH.good{α:Type}{h:HL}{v:Value}{e:Nat}{enc:α->List Value}{l:List α}(hs:LsH h v e enc l):aP v=true:=hs.2.good
section
variable [Val] [Kno] {C:Cfg} {Sg:FuncId->Option Sig} {T:Nat->Site}
theorem hidL{F:(List Lf->HL->Prop)->List Lf->HL->Prop}{s:List Lf->HL->Prop}{l:List Lf}{h:HL}(hf:F s l h):@hid _ ⟨F⟩ s l h:=hf
theorem cm{σ:Type}{F:(List Lf->HL->Prop)->List Lf->HL->Prop}(n:Nat)(S:Nat->σ->List Lf)(HP:Nat->σ->HL)(Inv:Nat->σ->Prop){j0:Nat}{s0:σ}{ls:List Lf}{h:HL}(hls:ls=S j0 s0)(hh:h=HP j0 s0)(hj:j0<=n)(hi:Inv j0 s0)
  (step:∀j s,j<=n->Inv j s->∀self:List Lf->HL->Prop,(∀s',j<n->Inv (j+1) s'->self (S (j+1) s') (HP (j+1) s'))->F self (S j s) (HP j s)):(PH C Sg T).loop (@hid _ ⟨F⟩) ls h:=by
 subst hls hh
 refine jB (m:=n - j0) (λm ls h=>∃j s,ls=S j s/\h=HP j s/\j<=n/\m=n - j/\Inv j s) ⟨j0,s0,rfl,rfl,hj,rfl,hi⟩ ?_
 rintro m ls h ⟨j,s,rfl,rfl,hj,rfl,hi⟩ self hself
 exact hidL (step j s hj hi self λs' hlt hi'=>hself (n - (j+1)) _ _ (by omega) ⟨j+1,s',rfl,rfl,by omega,rfl,hi'⟩)
theorem eu{F:(List Lf->HL->Prop)->List Lf->HL->Prop}(n:Nat)(Inv:Nat->Prop){j0:Nat}{h:HL}{ls:List Lf}(hls:ls=[.i (Int.ofNat j0)])(hj:j0<=n)(hi:Inv j0)
  (step:∀j,j<=n->Inv j->∀self:List Lf->HL->Prop,(j<n->Inv (j+1)->self [.i (Int.ofNat j+1)] h)->F self [.i (Int.ofNat j)] h):(PH C Sg T).loop (@hid _ ⟨F⟩) ls h:=
 cm (σ:=Unit) n (λj _=>[.i (Int.ofNat j)]) (λ_ _=>h) (λj _=>Inv j) (s0:=()) hls rfl hj hi λj _ hj hi self hs=>step j hj hi self (λa b=>hs () a b)
theorem bY{α:Type}{h:HL}{v:Value}{e:Nat}{enc:α->List Value}{l:List α}{K:Int->Prop}(hs:LsH h v e enc l)(hk:K (Int.ofNat l.length)):(PH C Sg T).opt (lenS v) (@hid _ ⟨K⟩):=aq hs.len hk
theorem bh{α:Type}{h:HL}{v:Value}{e:Nat}{enc:α->List Value}{l:List α}{i:Nat}{a:α}{n:Int}{K:List Value->Prop}(hs:LsH h v e enc l)(hn:n=Int.ofNat i)(hi:l[i]? = some a)(hk:K (enc a)) :
  (PH C Sg T).opt (idS e v n) (@hid _ ⟨λx=>(PH C Sg T).peek (.lg C e x) h (@hid _ ⟨K⟩)⟩):=by
 subst hn
 obtain⟨p,h1,h2⟩:=hs.at hi
 exact aq h1 (fv (h2.lg (hs.1 a (qag hi))) hk)
theorem gn{α:Type}{h:HL}{v:Value}{e:Nat}{enc:α->List Value}{l:List α}{i:Nat}{a:α}{n:Int}{o k:Nat}{cs:List Value}{K:List Value->Prop}(hs:LsH h v e enc l)(hn:n=Int.ofNat i)(hi:l[i]? = some a)(hcs:cs=((enc a).drop o).take k)(hok:o+k<=e)(hk:K cs) :
  (PH C Sg T).opt (idS e v n) (@hid _ ⟨λx=>(PH C Sg T).opt (fdP o x) (@hid _ ⟨λy=>(PH C Sg T).chk y (@hid _ ⟨(PH C Sg T).peek (.lg C k y) h (@hid _ ⟨K⟩)⟩)⟩)⟩):=by
 subst hn hcs
 obtain⟨p,h1,h2⟩:=hs.at hi
 have he:=hs.1 a (qag hi)
 have hok:o+k<=(enc a).length:=by omega
 have hlen:(((enc a).drop o).take k).length=k:=by rw[qaI,qbF];omega
 obtain⟨q,h3,h4⟩:=h2.fd o k hok
 refine aq h1 (aq h3 ?_)
 show aP q=true/\_
 exact⟨h4.good,fv (h4.lg hlen) hk⟩
end
end Sx
namespace Sx
section
variable [Val]
def wE:HObj->HObj
 | .cells vs e true=>if vs.all flat then .cells vs e true else .dead
 |_=>.dead
theorem tA{o:HObj}(h:(wE o).alive=true):∃vs e,o = .cells vs e true/\vs.all flat=true/\wE o = .cells vs e true:=by
 match o,h with
 | .cells vs e true,h=>
  unfold wE at h
  by_cases hf:vs.all flat=true
  ·exact⟨vs,e,rfl,hf,by show(if vs.all flat=true then HObj.cells vs e true else .dead)=_;rw[if_pos hf]⟩
  ·simp only[if_neg hf]at h;cases h
 | .cells _ _ false,h=>cases h
 | .map ..,h=>cases h
 | .loop ..,h=>cases h
 | .siter ..,h=>cases h
 | .dead,h=>cases h
def kE(n0 n:Nat)(σ:Nat->Nat):Nat->Nat:=λj=>if j<n0 then σ j else n+(j - n0)
theorem vr_ren' [Glo]{n:Nat}{τ:Nat->Nat}{mu' mu'':HMap}(hmu:∀j,j<n->mu'' (τ j)=mu' j){v c:Value}(hv:OkV n v)(h:VR noL mu' v c):VR noL mu'' (renV τ v) c:=by
 rcases hv with⟨h1,h2⟩|⟨j,off,len,cx,e,hj,rfl⟩
 ·rw[h2,cA h1 h]
  exact .of_flat h1
 ·show VR noL mu'' (.slice (some ⟨τ j,off,tag e⟩) len cx) c
  generalize ht:tag e=t at h ⊢
  cases h with
  |hslice q1 q2 q3 q4=>exact .hslice ((hmu j hj).trans q1) q2 q3 q4
  |hslice0 q1=>exact .hslice0 q1
  |gslice _=>simp[tag]at ht
  |gslice0=>simp[tag]at ht
  |scalar q=>simp[scalar]at q
theorem vr_sl' [Glo]{n:Nat}{τ:Nat->Nat}{mu' mu'':HMap}(hmu:∀j,j<n->mu'' (τ j)=mu' j){l:SL}{c:Value}(hl:OkL n l.lf)(h:VR noL mu' l.val c):VR noL mu'' (kO τ l).val c:=by
 cases l with
 |v x=>exact vr_ren' hmu hl h
 |i k m=>
  have hf:flat (Value.int k m)=true:=rfl
  have h:VR noL mu' (.int k m) c:=h
  rw[cA hf h];exact .of_flat hf
 |b t=>
  have hf:flat (Value.bool t)=true:=rfl
  have h:VR noL mu' (.bool t) c:=h
  rw[cA hf h];exact .of_flat hf
 |l t=>
  have hf:flat (Value.bool t)=true:=rfl
  have h:VR noL mu' (.bool t) c:=h
  rw[cA hf h];exact .of_flat hf
theorem vr_s0' [Glo]{n:Nat}{τ:Nat->Nat}{mu' mu'':HMap}(hmu:∀j,j<n->mu'' (τ j)=mu' j){x:S0}{c:Value}(hx:∀l∈x.cells,OkL n l.lf)(h:VR noL mu' x.val c):VR noL mu'' (renS τ x).val c:=by
 cases x with
 |leaf l=>exact vr_sl' hmu (hx l (by simp[S0.cells])) h
 |agg cs=>
  have h:VR noL mu' (.agg ⟨cs.map SL.val⟩) c:=h
  generalize ha:(⟨cs.map SL.val⟩ : Array Value)=a at h
  cases h with
  |scalar q=>simp[scalar]at q
  |agg hs h=>
   subst ha
   refine .agg (by simpa using hs) λi x y hx' hy=>?_
   have hi:((cs.map (kO τ)).map SL.val)[i]? = some x:=by simpa using hx'
   rw[qas,qas]at hi
   cases e:cs[i]? with
   |none=>rw[e]at hi;cases hi
   |some l=>
    rw[e]at hi
    cases hi
    exact vr_sl' hmu (hx l (qag e)) (h i _ y (by simp[e]) hy)
theorem vr_pack' [Glo]{n:Nat}{τ:Nat->Nat}{mu' mu'':HMap}(hmu:∀j,j<n->mu'' (τ j)=mu' j){xs:List S0}{c:Value}(hx:∀x∈xs,∀l∈x.cells,OkL n l.lf)(h:VR noL mu' (eI (af xs)) c):VR noL mu'' (eI (af (xs.map (renS τ)))) c:=by
 match xs,hx,h with
 | [],_,h=>
  have h:VR noL mu' undef c:=h
  have hf:flat undef=true:=rfl
  rw[cA hf h]
  exact .of_flat hf
 | [x],hx,h=>exact vr_s0' hmu (hx x qaB) h
 |x :: y :: l,hx,h=>
  have h:VR noL mu' (.tuple ⟨af (x :: y :: l)⟩) c:=h
  show VR noL mu'' (.tuple ⟨af ((x :: y :: l).map (renS τ))⟩) c
  generalize ha:(⟨af (x :: y :: l)⟩ : Array Value)=a at h
  have hsz:a.size=l.length+2:=by subst ha;simp[af]
  cases h with
  |scalar q=>simp[scalar]at q
  |poison _=>exact absurd hsz (by simp)
  |sym _=>exact absurd hsz (by simp)
  |tuple hn hs h=>
   subst ha
   refine .tuple (by simp[af]) (by simpa[af]using hs) λi x' y' hx' hy=>?_
   have hi:(af ((x :: y :: l).map (renS τ)))[i]? = some x':=by simpa using hx'
   unfold af at hi
   rw[qas,qas]at hi
   cases e:(x :: y :: l)[i]? with
   |none=>rw[e]at hi;cases hi
   |some s=>
    rw[e]at hi
    cases hi
    exact vr_s0' hmu (hx s (qag e)) (h i _ y' (by
     show(⟨(x :: y :: l).map S0.val⟩ : Array Value)[i]? = _
     rw[List.getElem?_toArray,qas,e];rfl) hy)
theorem objR_some [Glo]{mu:HMap}{p:Pl}{x:Option Obj}{o:HObj}(ha:o.alive=true)(h:objR mu p x o):∃y,x=some y:=by
 cases o with
 |cells vs e rw=>obtain⟨_,_,_,c,e,fr,h,_⟩:=h;exact⟨_,h⟩
 |map es c=>obtain⟨es',h,_⟩:=h;exact⟨_,h⟩
 |loop r=>obtain⟨L,h,_⟩:=h;exact⟨_,h⟩
 |siter s p=>exact⟨_,h⟩
 |dead=>cases ha
end
section
variable [Val]
theorem frame_alI(kp:Nat->HObj->HObj)(hkp:∀k o,(kp k o).alive=true->∃vs e,o = .cells vs e true/\vs.all flat=true/\kp k o = .cells vs e true){C:Cfg}(hG:∀g vs,C.G g=some vs->vs.all gfl=true){f:FuncId}{args0 args:List Value}{r0 r:Value}{H0 H' H:List HObj}(σ:Nat->Nat)(h:cK C f args0 H0 r0 H')
  (h0:∀(j:Nat) (o:HObj),H0[j]? = some o->∃vs e rw,o = .cells vs e false/\vs.all flat=true/\H[σ j]? = some (.cells vs e rw))
  (ha:∀ [Glo] (mu mu0:HMap) (cs:List Value),(∀j,j<H0.length->mu0 j=mu (σ j))->VRs noL mu args cs->VRs noL mu0 args0 cs)
  (hr:∀ [Glo] (mu' mu'':HMap) (c:Value),(∀j,j<H'.length->mu'' (kE H0.length H.length σ j)=mu' j)->VR noL mu' r0 c->VR noL mu'' r c):cK C f args H r (H++(H'.drop H0.length).mapIdx kp):=by
 intro _ base mu w args' hb hargs hW cs
 let mu0:HMap:=λj=>if j<H0.length then mu (σ j)else none
 have hno:∀b,¬Own mu0 H0 b:=by
  rintro b ⟨id,o,p,h1,h2,_⟩
  obtain⟨vs,e,rw',rfl,_⟩:=h0 id o h1
  cases h2
 have hmu:∀(id:Nat) (o:HObj),H0[id]? = some o->mu0 id=mu (σ id):=by
  intro id o h1
  have:id<H0.length:=by
   rcases qaw id H0.length with h|h
   ·exact h
   ·rw[qaf h]at h1;cases h1
  simp only[mu0,if_pos this]
 have hobj:∀(id:Nat) (o:HObj),H0[id]? = some o->∃p,mu0 id=some p/\objR mu0 p w.heap[p.b]? o:=by
  intro id o h1
  obtain⟨vs,e,rw',rfl,hf,hH⟩:=h0 id o h1
  obtain⟨p,h3,h4⟩:=hW.obj (σ id) _ hH rfl
  obtain⟨g1,g2,g3,c,e',fr,g4,g5,g6,g7⟩:=h4
  refine⟨p,by rw[hmu id _ h1];exact h3,g1,g2,g3,c,e',fr,g4,g5,λe=>by(cases e),λi v hv=>?_⟩
  obtain⟨v',q1,q2⟩:=g7 i v hv
  have h2:flat v=true:=qab.1 hf v (qag hv)
  refine⟨v',q1,?_⟩
  rw[cA h2 q2]
  exact .of_flat h2
 have hin:∀(p:Pl) (o:HObj) (m:HMap),o.alive=true->objR m p w.heap[p.b]? o->p.b<w.heap.size:=by
  intro p o m ha h
  obtain⟨y,hy⟩:=objR_some ha h
  rcases qaw p.b w.heap.size with h|h
  ·exact h
  ·rw[qa5 h]at hy;cases hy
 have hW0:WR C w.heap.size mu0 H0 w:=by
  refine⟨λid o h1 _=>hobj id o h1,λi j oi oj pi pj h1 h2 h3=>?_,λi o p h1 h2=>?_,λi o p h1 ha' _ h2=>?_,λid h1=>?_,λg vs hg=>?_⟩
  ·obtain⟨vs,e,rw',rfl,_⟩:=h0 i oi h1
   cases h3
  ·obtain⟨vs,e,rw',rfl,_⟩:=h0 i o h1
   cases h2
  ·obtain⟨p',h3,h4⟩:=hobj i o h1
   rw[h2]at h3
   cases h3
   exact hin _ _ _ ha' h4
  ·simp only[mu0,if_neg (qdC.2 h1)]
  ·obtain⟨h1,h2,c,e,fr,h3,h4⟩:=hW.glob g vs hg
   exact⟨by omega,h2,c,e,fr,h3,gD (hG g vs hg) h4⟩
 have hargs0:VRs noL mu0 args0 args'.toList:=ha mu mu0 _ (λj hj=>by simp only[mu0,if_pos hj]) hargs
 obtain⟨v,mu',w',a1,a2,a3,a4,a5⟩:=h _ w.heap.size mu0 w args' (qal _) hargs0 hW0 cs
 have hkeep:∀(b:Nat) x,w.heap[b]? = some x->w'.heap[b]? = some x:=by
  intro b x hx
  have hlt:b<w.heap.size:=by
   rcases qaw b w.heap.size with h|h
   ·exact h
   ·rw[qa5 h]at hx;cases hx
  rw[a3.keep b hlt (hno b)];exact hx
 let mu2:HMap:=λid=>if id<H.length then mu id else mu' (H0.length+(id - H.length))
 have hold:∀id,id<H.length->mu2 id=mu id:=λid hi=>by simp only[mu2,if_pos hi]
 have hnew:∀k,mu2 (H.length+k)=mu' (H0.length+k):=λk=>by
  simp only[mu2,if_neg (qdC.2 (qdh H.length k)),qbY]
 have hlen:=a3.len
 have hmono:∀i p,mu i=some p->mu2 i=some p:=by
  intro i p hp
  rw[hold i];exact hp
  rcases qaw i H.length with h|h
  ·exact h
  ·rw[hW.dom i h]at hp;cases hp
 have hbeh:∀(id:Nat) (o:HObj),(H++(H'.drop H0.length).mapIdx kp)[id]? = some o->¬id<H.length->o.alive=true->
   ∃k vs e,id=H.length+k/\H'[H0.length+k]? = some (.cells vs e true)/\vs.all flat=true/\o = .cells vs e true:=by
  intro id o ho hid hal
  rw[qak (by omega),qbO,qaZ]at ho
  obtain⟨o',h1,rfl⟩:=qad.1 ho
  obtain⟨vs,e,rfl,hf,e2⟩:=hkp _ _ hal
  exact⟨id - H.length,vs,e,by omega,h1,hf,e2⟩
 refine⟨v,mu2,w',?_,?_,?_,a4,a5⟩
 ·refine hr mu' mu2 v (λj hj=>?_) a1
  unfold kE
  by_cases hj0:j<H0.length
  ·rw[if_pos hj0]
   obtain⟨vs,e,rw',_,_,hH⟩:=h0 j _ (qax hj0)
   have:σ j<H.length:=by
    rcases qaw (σ j) H.length with h|h
    ·exact h
    ·rw[qaf h]at hH;cases hH
   rw[hold _ this,a3.same j hj0]
   simp only[mu0,if_pos hj0]
  ·rw[if_neg hj0,hnew,show H0.length+(j - H0.length)=j by omega]
 ·refine⟨λid o h1 h2=>?_,λi j oi oj pi pj h1 h2 h3 h4 h5 h6 h7=>?_,λi o p h1 h2 h3=>?_,λi o p h1 h2 h3 h4=>?_,λid h1=>?_,λg vs hg=>?_⟩
  ·by_cases hid:id<H.length
   ·rw[qae hid]at h1
    obtain⟨p,h3,h4⟩:=hW.obj id o h1 h2
    exact⟨p,hmono _ _ h3,(mG (hkeep p.b) h4).mono hmono⟩
   ·obtain⟨k,vs,e,rfl,h3,hf,rfl⟩:=hbeh id o h1 hid h2
    obtain⟨p,h4,g1,g2,g3,c,e',fr,g4,g5,g6,g7⟩:=a2.obj _ _ h3 rfl
    refine⟨p,by rw[hnew];exact h4,g1,g2,g3,c,e',fr,g4,g5,g6,λi v hv=>?_⟩
    obtain⟨v',q1,q2⟩:=g7 i v hv
    have hfv:flat v=true:=qab.1 hf v (qag hv)
    refine⟨v',q1,?_⟩
    rw[cA hfv q2]
    exact .of_flat hfv
  ·by_cases hi:i<H.length
   ·rw[qae hi]at h1
    rw[hold i hi]at h6
    by_cases hj:j<H.length
    ·rw[qae hj]at h2
     rw[hold j hj]at h7
     exact hW.inj i j oi oj pi pj h1 h2 h3 h4 h5 h6 h7
    ·obtain⟨k,vs,e,rfl,q1,hf,rfl⟩:=hbeh j oj h2 hj h4
     rw[hnew]at h7
     have hb2:=a2.own _ _ _ q1 rfl h7
     obtain⟨p,h8,h9⟩:=hW.obj i oi h1 (aM h3)
     rw[h6]at h8;cases h8
     have:=hin _ _ _ (aM h3) h9
     omega
   ·obtain⟨k,vs,e,rfl,q1,hf,rfl⟩:=hbeh i oi h1 hi (aM h3)
    rw[hnew]at h6
    have hb2:=a2.own _ _ _ q1 rfl h6
    by_cases hj:j<H.length
    ·rw[qae hj]at h2
     rw[hold j hj]at h7
     obtain⟨p,h8,h9⟩:=hW.obj j oj h2 h4
     rw[h7]at h8;cases h8
     have:=hin _ _ _ h4 h9
     omega
    ·obtain⟨k2,vs2,e2,rfl,q2,hf2,rfl⟩:=hbeh j oj h2 hj h4
     rw[hnew]at h7
     exact a2.inj _ _ _ _ _ _ q1 q2 rfl rfl (by omega) h6 h7
  ·by_cases hi:i<H.length
   ·rw[qae hi]at h1
    rw[hold i hi]at h3
    exact hW.own i o p h1 h2 h3
   ·obtain⟨k,vs,e,rfl,q1,hf,rfl⟩:=hbeh i o h1 hi (aM h2)
    rw[hnew]at h3
    have:=a2.own _ _ _ q1 rfl h3
    omega
  ·by_cases hi:i<H.length
   ·rw[qae hi]at h1
    rw[hold i hi]at h4
    exact hW.ro i o p h1 h2 h3 h4
   ·obtain⟨k,vs,e,rfl,q1,hf,rfl⟩:=hbeh i o h1 hi h2
    cases h3
  ·rw[qaz,List.length_mapIdx,qbF]at h1
   have:¬id<H.length:=by omega
   simp only[mu2,if_neg this]
   exact a2.dom _ (by omega)
  ·obtain⟨h1,h2,c,e,fr,h3,h4⟩:=hW.glob g vs hg
   exact⟨h1,h2,c,e,fr,hkeep _ _ h3,gD (hG g vs hg) h4⟩
 ·refine⟨by simp,λid hid=>hold id hid,a3.size,λb hb _=>a3.keep b hb (hno b),λb hb=>?_,a3.os,a3.tape,a3.output,a3.dr⟩
  obtain⟨id,o,p,q1,q2,q3,rfl⟩:=hb
  by_cases hid:id<H.length
  ·rw[qae hid]at q1
   rw[hold id hid]at q3
   exact .inr ⟨id,o,p,q1,q2,q3,rfl⟩
  ·obtain⟨k,vs,e,rfl,q4,hf,rfl⟩:=hbeh id o q1 hid (aM q2)
   rw[hnew]at q3
   exact .inl (a2.own _ _ _ q4 rfl q3)
theorem call_alI(kp:Nat->HObj->HObj)(hkp:∀k o,(kp k o).alive=true->∃vs e,o = .cells vs e true/\vs.all flat=true/\kp k o = .cells vs e true){C:Cfg}{N:FuncId->Option Nat}{Sg:FuncId->Option Sig}(hm:C.P.follows .mixedOrders=true)(hG:∀g vs,C.G g=some vs->vs.all gfl=true){g:FuncId}(hn:N g=none){ls0 rs:List Lf}{H0 H' H:List HObj}(σ:Nat->Nat)
  (h:let _:Kno:=KnoC C N;aB C Sg g ls0 H0 rs H')
  (h0:∀(j:Nat) (o:HObj),H0[j]? = some o->∃vs e rw,o = .cells vs e false/\vs.all flat=true/\H[σ j]? = some (.cells vs e rw))
  (hl:∀l∈ls0,OkL H0.length l) (hrl:∀l∈rs,OkL H'.length l):let _:Kno:=KnoC C N;aB C Sg g (ls0.map (renL σ)) H (rs.map (renL (kE H0.length H.length σ))) (H++(H'.drop H0.length).mapIdx kp):=by
 let _:Kno:=KnoC C N
 obtain⟨sg,xs,ys,c1,c2,c3,c4⟩:=h
 have hx:∀x∈xs,∀l∈x.cells,OkL H0.length l.lf:=λx hx l hl'=>hl _ (by rw[←c2.2.1];exact mn hx hl')
 have hy:∀x∈ys,∀l∈x.cells,OkL H'.length l.lf:=λx hx l hl'=>hrl _ (by rw[←c3.2.1];exact mn hx hl')
 have gd:∀(τ:Nat->Nat) (zs:List S0),(∀x∈zs,x.good)->∀x∈zs.map (renS τ),x.good:=by
  intro τ zs hz x hx'
  obtain⟨y,hy,rfl⟩:=qaL.1 hx'
  intro l hl'
  rw[lP]at hl'
  obtain⟨l',hl'',rfl⟩:=qaL.1 hl'
  exact uY (hz y hy l' hl'')
 refine⟨sg,xs.map (renS σ),ys.map (renS (kE H0.length H.length σ)),c1,⟨by rw[iz];exact c2.1,by rw[iK,c2.2.1],gd _ _ c2.2.2⟩,⟨by rw[iz];exact c3.1,by rw[iK,c3.2.1],gd _ _ c3.2.2⟩,⟨0,?_⟩⟩
 exact .inr ⟨.inl hn,frame_alI kp hkp hG σ (iZ hm c4) h0 (λmu mu0 cs hmu h=>vrs_ren hmu hx h) λmu' mu'' c hmu h=>vr_pack' hmu hy h⟩
theorem wM{α β:Type}(f:α->β)(l:List α):l.mapIdx (λ_=>f)=l.map f:=by
 apply qaU
 intro i
 rw[qbO,qas]
theorem call_alK(kp:HObj->HObj)(hkp:∀o,(kp o).alive=true->∃vs e,o = .cells vs e true/\vs.all flat=true/\kp o = .cells vs e true){C:Cfg}{N:FuncId->Option Nat}{Sg:FuncId->Option Sig}(hm:C.P.follows .mixedOrders=true)(hG:∀g vs,C.G g=some vs->vs.all gfl=true){g:FuncId}(hn:N g=none){ls0 rs:List Lf}{H0 H' H:List HObj}(σ:Nat->Nat)
  (h:let _:Kno:=KnoC C N;aB C Sg g ls0 H0 rs H')
  (h0:∀(j:Nat) (o:HObj),H0[j]? = some o->∃vs e rw,o = .cells vs e false/\vs.all flat=true/\H[σ j]? = some (.cells vs e rw))
  (hl:∀l∈ls0,OkL H0.length l) (hrl:∀l∈rs,OkL H'.length l):let _:Kno:=KnoC C N;aB C Sg g (ls0.map (renL σ)) H (rs.map (renL (kE H0.length H.length σ))) (H++(H'.drop H0.length).map kp):=by
 have:=call_alI (λ_=>kp) (λ_=>hkp) hm hG hn σ h h0 hl hrl
 rwa [wM]at this
theorem call_al{C:Cfg}{N:FuncId->Option Nat}{Sg:FuncId->Option Sig}(hm:C.P.follows .mixedOrders=true)(hG:∀g vs,C.G g=some vs->vs.all gfl=true){g:FuncId}(hn:N g=none){ls0 rs:List Lf}{H0 H' H:List HObj}(σ:Nat->Nat)
  (h:let _:Kno:=KnoC C N;aB C Sg g ls0 H0 rs H')
  (h0:∀(j:Nat) (o:HObj),H0[j]? = some o->∃vs e rw,o = .cells vs e false/\vs.all flat=true/\H[σ j]? = some (.cells vs e rw))
  (hl:∀l∈ls0,OkL H0.length l) (hrl:∀l∈rs,OkL H'.length l):let _:Kno:=KnoC C N;aB C Sg g (ls0.map (renL σ)) H (rs.map (renL (kE H0.length H.length σ))) (H++(H'.drop H0.length).map wE):=
 call_alK wE (λ_ h=>tA h) hm hG hn σ h h0 hl hrl
end
end Sx
end Go.Am
set_option maxRecDepth 100000
namespace Go.Am
open Sx Go.Proofs
theorem known_val{g n:Nat}{ls rs:List Lf}{sg:Sig}(hs:ab g=some sg)(hp:sg.plain=true)(hg:gh ls=true)(h:runF n (.f g) ls .empty tell=some rs):∀H,aB cc ab g ls H rs H:=by
 obtain⟨rs',h',a1,a2⟩:=(tW n).f g ls .empty tell rs (eo hg) h
 rw[ut]at a2
 cases a2
 exact vE g sg ls _ _ hs hp a1
def isAns(rs':List Lf):Option (List Lf)->Bool:=λo=>@Option.rec _ (λ_=>Bool) false (λrs=>eqLs rs rs') o
theorem iJ{g n:Nat}{ls rs:List Lf}{sg:Sig}(hs:ab g=some sg)(hp:sg.plain=true)(hg:gh ls=true)(h:isAns rs (runF n (.f g) ls .empty tell)=true):∀H,aB cc ab g ls H rs H:=by
 cases e:runF n (.f g) ls .empty tell with
 |none=>rw[e]at h;cases h
 |some rs'=>
  rw[e]at h
  have h:eqLs rs' rs=true:=h
  rw[jp h]at e
  exact known_val hs hp hg e
def eqCell(a b:Value):Bool:=match a,b with
 | .int k n,.int k' n'=>de k k'&&eqZK n n'
 | .bool t,.bool t'=>eqBK t t'
 |_,_=>false
theorem eqCell_ok{a b:Value}(h:eqCell a b=true):a=b/\flat b=true:=by
 unfold eqCell at h
 split at h
 ·simp only[qaa]at h
  have h2:=h.2
  rw[pO,beq_iff_eq]at h2
  rw[dd h.1,h2]
  exact⟨rfl,rfl⟩
 ·rename_i a b
  cases a<;>cases b<;>first|exact⟨rfl,rfl⟩|cases h
 ·cases h
def pM(c:Tr Value):List Value->Nat->Bool
 | [],_=>true
 |v :: l,i=>eqCell ((bm i).get nilV c) v&&pM c l (i+1)
theorem nV{c:Tr Value}:∀ {l:List Value} {i:Nat},pM c l i=true->(∀j (h:j<l.length),(bm (i+j)).get nilV c=l[j])/\l.all flat=true
 | [],i,_=>⟨λj h=>by simp at h,rfl⟩
 |v :: l,i,h=>by
  simp only[pM,qaa]at h
  obtain⟨h1,h2⟩:=eqCell_ok h.1
  obtain⟨h3,h4⟩:=nV h.2
  refine⟨λj hj=>?_,by simp[h2,h4]⟩
  cases j with
  |zero=>exact h1
  |succ j=>
   have:=h3 j (by simpa using hj)
   rw[show i+(j+1)=i+1+j by omega]
   simpa using this
def isSl(h:HTr)(x:Value)(e n:Nat)(cells:List Value):Bool:=match x with
 | .slice none 0 0=>Nat.beq n 0&&Nat.beq cells.length 0
 | .slice (some a) len _=>Nat.beq len n&&Nat.beq a.off 0&&Nat.beq cells.length (n*e)&&tagB a.spot e&&(match h.at a.block with
  |some (.t m e' true c)=>Nat.beq m (n*e)&&Nat.beq e' e&&pM c cells 0
  |_=>false)
 |_=>false
theorem isSl_ok{h:HTr}{x:Value}{e n:Nat}{cells:List Value}(hx:isSl h x e n cells=true):cells.length=n*e/\cells.all flat=true/\((x = .slice none 0 0/\n=0)∨∃id cx,x = .slice (some ⟨id,0,tag e⟩) n cx/\id<h.n/\(toL h)[id]? = some (.o (.cells cells e true))):=by
 unfold isSl at hx
 split at hx
 ·simp only[qaa]at hx
  have h1:=qac hx.1
  have h2:=qac hx.2
  subst h1
  rw[qbp]at h2
  subst h2
  exact⟨by simp,rfl,.inl ⟨rfl,rfl⟩⟩
 ·rename_i a len cx
  simp only[qaa]at hx
  obtain⟨⟨⟨⟨h1,h2⟩,h3⟩,h4⟩,h5⟩:=hx
  have h1:=qac h1
  have h2:=qac h2
  have h3:=qac h3
  have h4:=lF.1 h4
  subst h1
  split at h5
  ·rename_i m e' c hat
   simp only[qaa]at h5
   obtain⟨⟨g1,g2⟩,g3⟩:=h5
   have g1:=qac g1
   have g2:=qac g2
   subst g1 g2
   obtain⟨g4,g5⟩:=nV g3
   have ha:a=⟨a.block,0,tag e'⟩:=by cases a;simp_all
   have hc:bB c (len*e')=cells:=by
    apply List.ext_getElem
    ·rw[aS,h3]
    ·intro i hi hi'
     have:=dp c (i:=i) (n:=len*e') (by rw[aS]at hi;exact hi)
     rw[qax hi]at this
     have:=qan this
     rw[this,←g4 i hi',qaH]
   refine⟨h3,g5,.inr ⟨a.block,cx,by rw[ha],?_,?_⟩⟩
   ·unfold HTr.at at hat
    split at hat
    ·rename_i hb;rw[qaT]at hb;exact hb
    ·cases hat
   ·rw[ip,hat]
    show some (HO.o (.cells (bB c (len*e')) e' true))=_
    rw[hc]
  ·cases h5
 ·cases hx
theorem absH_app(T:Nat->Site)(h G:HL):absH T (h++G)=absH T h++absH T G:=by simp[absH]
theorem absH_o(T:Nat->Site)(l:List HObj):absH T (l.map HO.o)=l:=by
 induction l with
 |nil=>rfl
 |cons a l ih=>show absO T (.o a) :: absH T (l.map HO.o)=_;rw[ih];rfl
theorem made{g n:Nat}{ls rest:List Lf}{e m:Nat}{cells:List Value}(hg:gh ls=true)(hno:neuN g=none)(hl:ls.all (λl=>match l with | .v _=>false|_=>true)=true)(hr:rest.all (λl=>match l with | .v _=>false|_=>true)=true)
  (h:runF n (.f g) ls .empty (λrs h=>match rs with
   | .v x :: r=>ans (eqLs r rest&&isSl h x e m cells)
   |_=>none)=yes) (H:HL):∃x G,aB cc ab g ls (absH aa H) (.v x :: rest) (absH aa (H++G))/\SlC (H++G) x e m cells:=by
 obtain⟨rs,h',a1,a2⟩:=(tW n).f g ls .empty _ [] (eo hg) h
 split at a2
 ·rename_i x r
  have a2:=ans_yes a2
  simp only[qaa]at a2
  obtain⟨a2,a3⟩:=a2
  have a2:=jp a2
  subst a2
  obtain⟨b1,b2,b3⟩:=isSl_ok a3
  have plainR:∀(l:List Lf) (σ:Nat->Nat),l.all (λl=>match l with | .v _=>false|_=>true)=true->l.map (renL σ)=l:=by
   intro l σ hl
   induction l with
   |nil=>rfl
   |cons a l ih=>
    simp only[qbG,qaa]at hl
    rw[qar,ih hl.2]
    cases a<;>first|rfl|(simp at hl)
  have plainOk:∀(l:List Lf) (n:Nat),l.all (λl=>match l with | .v _=>false|_=>true)=true->∀a∈l,OkL n a:=by
   intro l n hl a ha
   have:=qab.1 hl a ha
   cases a<;>first|trivial|cases this
  have e0:absH aa (toL HTr.empty)=[]:=rfl
  rw[e0]at a1
  have key:=call_al (N:=neuN) mixed jx hno (H:=absH aa H) id a1 (λj o hj=>by simp at hj) (plainOk ls _ hl) (λl hl'=>by
   rcases qam.1 hl' with rfl|hl'
   ·rcases b3 with⟨rfl,_⟩|⟨id,cx,rfl,hid,_⟩
    ·exact .inl ⟨rfl,λ_=>rfl⟩
    ·exact .inr ⟨id,0,m,cx,e,by rw[db,di];exact hid,rfl⟩
   ·exact plainOk _ _ hr l hl')
  rw[plainR ls id hl,qar,plainR _ _ hr,qbf,qbb]at key
  refine⟨renV (kE 0 (absH aa H).length id) x,((absH aa (toL h')).map wE).map .o,?_,b1,?_⟩
  ·rw[absH_app,absH_o];exact key
  ·rcases b3 with⟨rfl,hm⟩|⟨id',cx,rfl,hid,hb⟩
   ·exact .inl ⟨rfl,hm⟩
   ·refine .inr ⟨_,0,cx,cells,true,rfl,?_,Sx.cut_all b1⟩
    unfold kE
    rw[if_neg (qbC _),Nat.sub_zero,db,qak (by omega),qbY,qas,qas]
    have:(absH aa (toL h'))[id']? = some (.cells cells e true):=by
     unfold absH
     rw[qas,hb];rfl
    rw[this]
    show some (HO.o (if cells.all flat=true then HObj.cells cells e true else .dead))=_
    rw[if_pos b2]
 ·cases a2
end Go.Am
set_option maxRecDepth 100000
namespace Go.Am
namespace Sx
section
variable [Val] [Kno] {C:Cfg} {Sg:FuncId->Option Sig} {T:Nat->Site}
theorem co{j:Nat}{K:Int->Prop}(h:j<=4294967296):(PH C Sg T).ari .add .i64 (Int.ofNat j) 1 (@hid _ ⟨K⟩)=K (Int.ofNat j+1):=
 p_add (by show -9223372036854775808<=(j:Int)+1;omega) (by show(j:Int)+1<=9223372036854775807;omega)
theorem n_sub{j:Nat}{K:Int->Prop}(h1:1<=j)(h:j<=4294967296):(PH C Sg T).ari .sub .i64 (Int.ofNat j) 1 (@hid _ ⟨K⟩)=K (Int.ofNat (j - 1)):=by
 rw[p_sub (by show -9223372036854775808<=(j:Int) - 1;omega) (by show(j:Int) - 1<=9223372036854775807;omega)]
 congr 1
 show(j:Int) - 1=((j - 1:Nat):Int)
 omega
theorem be{j n:Nat}{K:Bool->Prop}(h:j<n):(PH C Sg T).cmp .lss (Int.ofNat j) (Int.ofNat n) (@hid _ ⟨K⟩)=K true:=p_lss_t (by show(j:Int)<n;omega)
theorem bc{j n:Nat}{K:Bool->Prop}(h:n<=j):(PH C Sg T).cmp .lss (Int.ofNat j) (Int.ofNat n) (@hid _ ⟨K⟩)=K false:=p_lss_f (by show(n:Int)<=j;omega)
end
theorem bk{α:Type}{l:List α}{i:Nat}{a:α}(h:l[i]? = some a):i<l.length:=by
 rcases qaw i l.length with h1|h1
 ·exact h1
 ·rw[qaf h1]at h;cases h
theorem bg{α:Type}{l:List α}{i:Nat}(h:i<l.length):∃a,l[i]? = some a:=⟨_,qax h⟩
end Sx
end Go.Am
set_option maxRecDepth 100000
set_option maxHeartbeats 4000000
namespace Go.Am
open Sx
def mA(t:Nat):Int:=match t with
 |0=>1|1=>0|2=>-1|3=>0|4=>-1|5=>0|6=>1|_=>0
def mB(t:Nat):Int:=match t with
 |0=>0|1=>-1|2=>0|3=>1|4=>0|5=>-1|6=>0|_=>1
def mC(t:Nat):Int:=match t with
 |0=>0|1=>1|2=>0|3=>-1|4=>0|5=>-1|6=>0|_=>1
def mD(t:Nat):Int:=match t with
 |0=>1|1=>0|2=>-1|3=>0|4=>1|5=>0|6=>-1|_=>0
def mulT(s t:Nat):Nat:=if s<4 then(if t<4 then(s+t)%4 else 4+(t+4 - s)%4)else(if t<4 then 4+(s+t)%4 else(t+8 - s)%4)
abbrev Mv:=Nat×Int×Int
def aY(a b:Mv):Mv:=(mulT a.1 b.1,mA b.1*a.2.1+mB b.1*a.2.2+b.2.1,mC b.1*a.2.1+mD b.1*a.2.2+b.2.2)
def idM:Mv:=(0,0,0)
def okM(n:Int)(m:Mv):Prop:=m.1<8/\-n<=m.2.1/\m.2.1<=n/\-n<=m.2.2/\m.2.2<=n/\(m.2.1+m.2.2)%2=0
theorem t8{t:Nat}(h:t<8):t=0∨t=1∨t=2∨t=3∨t=4∨t=5∨t=6∨t=7:=by omega
theorem qn{s t:Nat}:mulT s t<8:=by
 unfold mulT
 repeat' split
 all_goals omega
theorem wO{a b c:Nat}(ha:a<8)(hb:b<8)(hc:c<8):mulT (mulT a b) c=mulT a (mulT b c):=by
 have key:((List.range 8).all λa=>(List.range 8).all λb=>(List.range 8).all λc=>mulT (mulT a b) c==mulT a (mulT b c))=true:=by decide +kernel
 have h1:=qab.1 key a (qai.2 ha)
 have h2:=qab.1 h1 b (qai.2 hb)
 have h3:=qab.1 h2 c (qai.2 hc)
 simpa using h3
theorem fD{a b c:Mv}(ha:a.1<8)(hb:b.1<8)(hc:c.1<8):aY (aY a b) c=aY a (aY b c):=by
 obtain⟨at',ax,ay⟩:=a
 obtain⟨bt,bx,by'⟩:=b
 obtain⟨ct,cx,cy⟩:=c
 simp only at ha hb hc
 unfold aY
 refine qdd (wO ha hb hc) ?_
 simp only
 clear ha
 rcases t8 hb with rfl|rfl|rfl|rfl|rfl|rfl|rfl|rfl<;>rcases t8 hc with rfl|rfl|rfl|rfl|rfl|rfl|rfl|rfl<;>
  (refine qdd ?_ ?_<;>simp[mulT,mA,mB,mC,mD]<;>omega)
theorem vY{a:Mv}(ha:a.1<8):aY a idM=a:=by
 obtain⟨t,x,y⟩:=a
 have ha:t<8:=ha
 unfold aY idM
 simp only[mA,mB,mC,mD]
 refine qdd ?_ (qdd (by simp) (by simp))
 rcases t8 ha with rfl|rfl|rfl|rfl|rfl|rfl|rfl|rfl<;>simp[mulT]
theorem vb{a:Mv}(ha:a.1<8):aY idM a=a:=by
 obtain⟨t,x,y⟩:=a
 have ha:t<8:=ha
 unfold aY idM
 refine qdd ?_ (qdd (by simp) (by simp))
 rcases t8 ha with rfl|rfl|rfl|rfl|rfl|rfl|rfl|rfl<;>simp[mulT]
def invT(t:Nat):Nat:=match t with
 |1=>3|3=>1|n=>n
def invM(m:Mv):Mv:=(invT m.1,-(mA (invT m.1)*m.2.1+mB (invT m.1)*m.2.2),-(mC (invT m.1)*m.2.1+mD (invT m.1)*m.2.2))
theorem inv_id{m:Mv}(h:m.1<8):aY m (invM m)=idM:=by
 obtain⟨t,x,y⟩:=m
 have h:t<8:=h
 unfold aY invM idM
 rcases t8 h with rfl|rfl|rfl|rfl|rfl|rfl|rfl|rfl<;>simp[mulT,mA,mB,mC,mD,invT]<;>omega
theorem cp{n k:Int}{m:Mv}(h:okM n m)(hk:n<=k):okM k m:=by
 unfold okM at *
 omega
theorem okM_id{n:Int}(h:0<=n):okM n idM:=by
 unfold okM idM
 simp only
 omega
theorem dg{n k:Int}{a b:Mv}(ha:okM n a)(hb:okM k b):okM (n+k) (aY a b):=by
 obtain⟨at',ax,ay⟩:=a
 obtain⟨bt,bx,by'⟩:=b
 unfold okM aY at *
 simp only at *
 obtain⟨a1,a2⟩:=ha
 obtain⟨b1,b2⟩:=hb
 refine⟨qn,?_⟩
 clear a1
 rcases t8 b1 with rfl|rfl|rfl|rfl|rfl|rfl|rfl|rfl<;>simp only[mA,mB,mC,mD]<;>omega
abbrev Ln:=Nat×Int
def ofM(l:Ln):Mv:=match l.1 with
 |1=>(4,2*l.2,0)
 |2=>(6,0,2*l.2)
 |3=>(5,l.2,l.2)
 |_=>(7,-l.2,l.2)
theorem vp{l:Ln}{n:Int}(h:-n<=l.2/\l.2<=n):okM (2*n) (ofM l):=by
 obtain⟨k,c⟩:=l
 unfold ofM okM
 simp only at h ⊢
 split<;>simp only<;>omega
theorem ofM_lt(l:Ln):(ofM l).1<8:=by
 unfold ofM
 split<;>simp
theorem ofM_twice(l:Ln):aY (ofM l) (ofM l)=idM:=by
 obtain⟨k,c⟩:=l
 unfold ofM aY idM
 simp only
 split<;>simp[mulT,mA,mB,mC,mD]<;>omega
abbrev Cl:=Int×Int×Nat
def lnC3(c:Cl)(e:Nat):Ln:=match e with
 |0=>(match c.2.2 with
  |0=>(2,c.2.1)
  |1=>(1,c.1+1)
  |2=>(2,c.2.1+1)
  |_=>(1,c.1))
 |1=>(3,c.1+c.2.1+1)
 |_=>(4,c.2.1 - c.1)
def nbC(c:Cl)(e:Nat):Cl:=match e with
 |0=>(match c.2.2 with
  |0=>(c.1,c.2.1 - 1,2)
  |1=>(c.1+1,c.2.1,3)
  |2=>(c.1,c.2.1+1,0)
  |_=>(c.1 - 1,c.2.1,1))
 |1=>(c.1,c.2.1,[1,0,3,2].getD c.2.2 0)
 |_=>(c.1,c.2.1,[3,2,1,0].getD c.2.2 0)
def qT(t q:Nat):Nat:=if t<4 then(q+t)%4 else([0,3,2,1].getD ((q+t)%4) 0+(if t%2=0 then 0 else 2))%4
def bF(m:Mv)(c:Cl):Cl:=(mA m.1*c.1+mB m.1*c.2.1+m.2.1 - (if mA m.1+mB m.1=1 then 0 else 1),mC m.1*c.1+mD m.1*c.2.1+m.2.2 - (if mC m.1+mD m.1=1 then 0 else 1),qT m.1 c.2.2)
theorem qT_lt{t q:Nat}:qT t q<4:=by
 unfold qT
 split<;>omega
end Go.Am
set_option maxRecDepth 100000
set_option maxHeartbeats 16000000
namespace Go.Am
open Sx Go.Proofs
def sO(f:FuncId)(ls rs:List Lf):Bool:=isAns rs (runF 60 (.f f) ls .empty tell)
theorem iq{f:FuncId}{ls rs:List Lf}{sg:Sig}(h:sO f ls rs=true)(hs:ab f=some sg)(hp:sg.plain=true)(hg:gh ls=true):Cc f ls rs:=iJ (n:=60) hs hp hg h
abbrev mvl(m:Mv):List Lf:=[.i (Int.ofNat m.1),.i m.2.1,.i m.2.2]
abbrev cll(c:Cl):List Lf:=[.i c.1,.i c.2.1,.i (Int.ofNat c.2.2)]
theorem kV{n:Int}(h:-16384<=n/\n<=16384):Cc 106 [.i n] [.b false]:=by
 refine q106 rfl ?_;unfold f106;simp only[qxh]
 repeat (first|simp(disch:=omega)only[↓qXX])
 try rfl
theorem mchk_c{t x y:Int}(ht:0<=t/\t<8)(hx:-16384<=x/\x<=16384)(hy:-16384<=y/\y<=16384)(hp:(x+y)%2=0):Cc 70 [.i t,.i x,.i y] [.i 0]:=by
 refine q70 rfl ?_;unfold f70;simp only[qxh]
 rcases qcK 0 (x+y)with hs|hs
 ·repeat (first|simp(disch:=omega)only[↓qXX]|refine ae (kV hx) ?_|refine ae (kV hy) ?_|rw[p_rem_nn hs (by omega)])
 ·have h0:-(-(x+y)%2)=0:=by omega
  repeat (first|simp(disch:=omega)only[↓qXX]|refine ae (kV hx) ?_|refine ae (kV hy) ?_|rw[p_rem_np hs (by omega)])
theorem ql{n:Int}{m:Mv}(h:okM n m)(hn:n<=16384):Cc 70 (mvl m) [.i 0]:=by
 obtain⟨h1,h2,h3,h4,h5,h6⟩:=h
 exact mchk_c ⟨qa7 _,by show(m.1:Int)<8;omega⟩ (by omega) (by omega) h6
theorem mP{t:Nat}(h:t<8):kM gl0 0 [(Int.ofNat t,4)] 4=some [.int .i64 (mA t),.int .i64 (mB t),.int .i64 (mC t),.int .i64 (mD t)]:=by
 rcases t8 h with rfl|rfl|rfl|rfl|rfl|rfl|rfl|rfl<;>kernel_rfl
theorem rL{n t:Nat}(h:t<n):inB n (Int.ofNat t)=some ():=by
 show(match Nat.blt t n with
  |true=>some ()
  |false=>none)=some ()
 rw[show Nat.blt t n=true by rw[qaT];exact h]
theorem mof_c{t:Nat}(ht:t<8){x y:Int}(h:-200000<=x/\x<=200000/\-200000<=y/\y<=200000):Cc 113 [.i (mA t),.i (mB t),.i (mC t),.i (mD t),.i x,.i y] [.i (mA t*x+mB t*y),.i (mC t*x+mD t*y)]:=by
 rcases t8 ht with rfl|rfl|rfl|rfl|rfl|rfl|rfl|rfl
 all_goals
  simp only[mA,mB,mC,mD]
  refine q113 rfl ?_;unfold f113;simp only[qxh]
  repeat (first|simp(disch:=omega)only[↓qXX])
  (try simp only[qaX,Lf.i.injEq,and_true,true_and]);(try omega)
def thenT(s t:Nat):Bool:=sO 116 [.i (mA s),.i (mB s),.i (mC s),.i (mD s),.i (mA t),.i (mB t),.i (mC t),.i (mD t)] [.i (mA (mulT s t)),.i (mB (mulT s t)),.i (mC (mulT s t)),.i (mD (mulT s t))]
def numT(t:Nat):Bool:=sO 115 [.i (mA t),.i (mB t),.i (mC t),.i (mD t)] [.i (.ofNat t)]
theorem vZ:((List.range 8).all λs=>numT s&&(List.range 8).all λt=>thenT s t)=true:=by kernel_rfl
theorem thenT_c{s t:Nat}(hs:s<8)(ht:t<8):Cc 116 [.i (mA s),.i (mB s),.i (mC s),.i (mD s),.i (mA t),.i (mB t),.i (mC t),.i (mD t)] [.i (mA (mulT s t)),.i (mB (mulT s t)),.i (mC (mulT s t)),.i (mD (mulT s t))]:=by
 have h:=qab.1 vZ s (qai.2 hs)
 rw[qaa]at h
 exact iq (qab.1 h.2 t (qai.2 ht)) rfl (by kernel_rfl) rfl
theorem numT_c{t:Nat}(ht:t<8):Cc 115 [.i (mA t),.i (mB t),.i (mC t),.i (mD t)] [.i (.ofNat t)]:=by
 have h:=qab.1 vZ t (qai.2 ht)
 rw[qaa]at h
 exact iq h.1 rfl (by kernel_rfl) rfl
theorem limited_c{m:Mv}{n:Int}(h:okM n m)(hn:n<=16384):Cc 114 (mvl m) (mvl m++[.i 0]):=by
 refine q114 rfl ?_;unfold f114;simp only[qxh]
 simp(disch:=omega)only[↓qXX]
 refine ae (ql h hn) ?_
 simp(disch:=omega)only[↓qXX]
 rfl
theorem then_c{a b:Mv}{n k:Int}(ha:okM n a)(hb:okM k b)(hn:0<=n/\0<=k/\n+k<=16384):Cc 73 (mvl a++mvl b) (mvl (aY a b)++[.i 0]):=by
 have h0:=dg ha hb
 refine q73 rfl ?_;unfold f73;simp only[qxh]
 simp only[mvl,qaD,qaC]
 simp(disch:=omega)only[↓qXX]
 refine ae (ql ha (by omega)) ?_
 simp(disch:=omega)only[↓qXX]
 refine ae (ql hb (by omega)) ?_
 simp(disch:=omega)only[↓qXX]
 refine aq (rL hb.1) ?_
 refine aq (mP hb.1) ?_
 simp(disch:=omega)only[↓qXX]
 refine ae (mof_c hb.1 ⟨by have:=ha.2;omega,by have:=ha.2;omega,by have:=ha.2;omega,by have:=ha.2;omega⟩) ?_
 simp(disch:=omega)only[↓qXX]
 refine aq (rL ha.1) ?_
 refine aq (mP ha.1) ?_
 simp(disch:=omega)only[↓qXX]
 refine aq (rL hb.1) ?_
 refine aq (mP hb.1) ?_
 simp(disch:=omega)only[↓qXX]
 refine ae (thenT_c ha.1 hb.1) ?_
 simp(disch:=omega)only[↓qXX]
 refine ae (numT_c qn) ?_
 simp(disch:=omega)only[↓qXX]
 have hz:∀z:Int,(-n<=z/\z<=n)∨True:=λ_=>.inr trivial
 obtain⟨h1,h2,h3,h4,h5,h6⟩:=h0
 unfold aY at h2 h3 h4 h5
 simp only at h2 h3 h4 h5
 rw[p_add (by omega) (by omega),p_add (by omega) (by omega)]
 refine ae (limited_c (m:=aY a b) ⟨h1,h2,h3,h4,h5,h6⟩ (by omega)) ?_
 simp only[mvl,qaD,qaC]
 simp(disch:=omega)only[↓qXX]
 rfl
theorem lchk_c{k c:Int}(hk:1<=k/\k<=4)(hc:-4096<=c/\c<=4096):Cc 92 [.i k,.i c] [.i 0]:=by
 refine q92 rfl ?_;unfold f92;simp only[qxh]
 repeat (first|simp(disch:=omega)only[↓qXX])
 try rfl
theorem of1_c{k c:Int}{m:Mv}(hk:1<=k/\k<=4)(hc:-4096<=c/\c<=4096)(hm:m=ofM (k.toNat,c)):Cc 89 [.i k,.i c] (mvl m++[.i 0]):=by
 subst hm
 obtain rfl|rfl|rfl|rfl:k=1∨k=2∨k=3∨k=4:=by omega
 all_goals
  refine q89 rfl ?_;unfold f89;simp only[qxh]
  repeat (first|simp(disch:=omega)only[↓qXX]|refine ae (lchk_c (by omega) (by omega)) ?_)
  simp[ofM]
theorem mlof_c{l:Ln}(hk:1<=l.1/\l.1<=4)(hc:-4096<=l.2/\l.2<=4096):Cc 89 [.i (Int.ofNat l.1),.i l.2] (mvl (ofM l)++[.i 0]):=
 of1_c (k:=Int.ofNat l.1) ⟨by show(1:Int)<=(l.1:Int);omega,by show(l.1:Int)<=4;omega⟩ hc rfl
theorem pchk_c{x y:Int}(h:-65536<=x/\x<=65536/\-65536<=y/\y<=65536):Cc 90 [.i x,.i y] [.i 0]:=by
 refine q90 rfl ?_;unfold f90;simp only[qxh]
 repeat (first|simp(disch:=omega)only[↓qXX])
 try rfl
def ptM(m:Mv)(x y:Int):Int×Int:=(mA m.1*x+mB m.1*y+2*m.2.1,mC m.1*x+mD m.1*y+2*m.2.2)
theorem tC{t:Nat}(ht:t<8){n x y:Int}(h:-n<=x/\x<=n/\-n<=y/\y<=n):-n<=mA t*x+mB t*y/\mA t*x+mB t*y<=n/\-n<=mC t*x+mD t*y/\mC t*x+mD t*y<=n:=by
 rcases t8 ht with rfl|rfl|rfl|rfl|rfl|rfl|rfl|rfl<;>simp only[mA,mB,mC,mD]<;>omega
theorem point_c{m:Mv}(hm:okM 16384 m){x y:Int}(h:-8000<=x/\x<=8000/\-8000<=y/\y<=8000):Cc 141 (mvl m++[.i x,.i y]) [.i (ptM m x y).1,.i (ptM m x y).2,.i 0]:=by
 have hr:=tC hm.1 h
 have hm2:=hm.2
 refine q141 rfl ?_;unfold f141;simp only[qxh]
 simp only[mvl,qaD,qaC]
 simp(disch:=omega)only[↓qXX]
 refine ae (ql hm (by omega)) ?_
 simp(disch:=omega)only[↓qXX]
 refine ae (pchk_c (by omega)) ?_
 simp(disch:=omega)only[↓qXX]
 refine aq (rL hm.1) ?_
 refine aq (mP hm.1) ?_
 simp(disch:=omega)only[↓qXX]
 refine ae (mof_c hm.1 (by omega)) ?_
 simp(disch:=omega)only[↓qXX]
 refine ae (pchk_c (by omega)) ?_
 simp(disch:=omega)only[↓qXX]
 rfl
theorem cchk_c{c:Cl}(h:-4096<=c.1/\c.1<=4096/\-4096<=c.2.1/\c.2.1<=4096/\c.2.2<4):Cc 117 (cll c) [.i 0]:=by
 have hq:(Int.ofNat c.2.2)<=3:=by show(c.2.2:Int)<=3;omega
 refine q117 rfl ?_;unfold f117;simp only[qxh]
 repeat (first|simp(disch:=omega)only[↓qXX])
 try rfl
theorem middle_c{x y q:Int}(h:-1000000<=x/\x<=1000000/\-1000000<=y/\y<=1000000):Cc 140 [.i x,.i y,.i q] [.i (2*x+1),.i (2*y+1)]:=by
 refine q140 rfl ?_;unfold f140;simp only[qxh]
 repeat (first|simp(disch:=omega)only[↓qXX])
 (try simp only[qaX,Lf.i.injEq,and_true,true_and]);(try omega)
def sdX(q:Nat):Int:=[0,1,0,-1].getD q 0
def sdY(q:Nat):Int:=[-1,0,1,0].getD q 0
theorem pick_q{q:Nat}(h:q<4):kM gl1 0 [(Int.ofNat q,17)] 2=some [.int .i64 (sdX q),.int .i64 (sdY q)]:=by
 obtain rfl|rfl|rfl|rfl:q=0∨q=1∨q=2∨q=3:=by omega
 all_goals kernel_rfl
theorem moved_c{m:Mv}(hm:okM 16384 m){c:Cl}(hc:-1000<=c.1/\c.1<=1000/\-1000<=c.2.1/\c.2.1<=1000/\c.2.2<4):Cc 118 (mvl m++cll c) (cll (bF m c)):=by
 obtain⟨t,mx,my⟩:=m
 obtain⟨x,y,q⟩:=c
 have hm0:okM 16384 (t,0,0):=⟨hm.1,by simp,by simp,by simp,by simp,by simp⟩
 have hp1:=point_c (cp hm (by omega)) (x:=2*x+1) (y:=2*y+1) (by simp only at hc;omega)
 have hp2:=point_c (cp hm0 (by omega)) (x:=sdX q) (y:=sdY q) (by
  have hq:q<4:=hc.2.2.2.2
  obtain rfl|rfl|rfl|rfl:q=0∨q=1∨q=2∨q=3:=by omega
  all_goals simp[sdX,sdY])
 obtain⟨X,hX⟩ : ∃X,(ptM (t,mx,my) (2*x+1) (2*y+1)).1=X:=⟨_,rfl⟩
 obtain⟨Y,hY⟩ : ∃Y,(ptM (t,mx,my) (2*x+1) (2*y+1)).2=Y:=⟨_,rfl⟩
 obtain⟨U,hU⟩ : ∃U,(ptM (t,0,0) (sdX q) (sdY q)).1=U:=⟨_,rfl⟩
 obtain⟨V,hV⟩ : ∃V,(ptM (t,0,0) (sdX q) (sdY q)).2=V:=⟨_,rfl⟩
 rw[hX,hY]at hp1
 rw[hU,hV]at hp2
 have hm':=hm.2
 have ht:t<8:=hm.1
 have hq:q<4:=hc.2.2.2.2
 simp only at hm' hc
 refine q118 rfl ?_;unfold f118;simp only[qxh]
 simp only[mvl,cll,qaD,qaC]
 simp(disch:=omega)only[↓qXX]
 refine ae (middle_c (by omega)) ?_
 simp(disch:=omega)only[↓qXX]
 refine aq (rL hq) ?_
 refine aq (pick_q hq) ?_
 simp(disch:=omega)only[↓qXX]
 refine ae hp1 ?_
 simp(disch:=omega)only[↓qXX]
 refine ae hp2 ?_
 simp(disch:=omega)only[↓qXX]
 rcases t8 ht with rfl|rfl|rfl|rfl|rfl|rfl|rfl|rfl
 all_goals obtain rfl|rfl|rfl|rfl:q=0∨q=1∨q=2∨q=3:=by omega
 all_goals
  simp[ptM,mA,mB,mC,mD,sdX,sdY]at hX hY hU hV
  subst hU hV
  repeat (first|simp(disch:=omega)only[↓qXX]|refine aq (by simp only[dF,putL,offX,Int.reduceToNat,Int.reduceAdd,Int.reduceMul,Int.reduceMod,Int.reduceSub,Int.reduceNeg,Int.reduceDiv,Nat.reduceAdd,Nat.reduceMul,Nat.reduceLeDiff,qaF,qbf,↓reduceIte,qbH,qbb,qbv,qca,qaD,qaC,qaH,qcF,qbz,qb9,qcH];exact rfl) ?_|refine p_loop 6 ?_)
  try simp[bF,mA,mB,mC,mD,qT]
  try omega
set_option maxHeartbeats 4000000
abbrev Crs:=Int×Int×Int
def encC(c:Crs):List Value:=[.int .i64 c.1,.int .u8 c.2.1,.int .u8 c.2.2]
def okC(c:Crs):Prop:=-9223372036854775808<=c.1/\c.1<=9223372036854775807/\0<=c.2.1/\c.2.1<=255/\0<=c.2.2/\c.2.2<=255
def isK(c:Crs):Bool:=decide (1<=c.2.2)&&decide (c.2.2<=3)
theorem isKind_c(k:Int):Cc 63 [.i k] [.b (decide (1<=k)&&decide (k<=3))]:=by
 refine q63 rfl ?_;unfold f63;simp only[qxh]
 by_cases h1:1<=k
 ·by_cases h2:k<=3
  ·simp(disch:=omega)only[↓qXX];simp[h1,h2]
  ·simp(disch:=omega)only[↓qXX];simp[h1,h2]
 ·simp(disch:=omega)only[↓qXX];simp[h1]
theorem chk1_c(c:Crs):Cc 62 [.i c.1,.i c.2.1,.i c.2.2] [.b (!isK c)]:=by
 refine q62 rfl ?_;unfold f62;simp only[qxh]
 simp(disch:=omega)only[↓qXX]
 refine ae (isKind_c c.2.2) ?_
 simp(disch:=omega)only[↓qXX]
 simp[isK]
abbrev clo1:Value:=.func (.func 62) ⟨[]⟩ ⟨[]⟩
theorem good1:aP clo1=true:=rfl
theorem index_c{h:HL}{x:Value}{l:List Crs}(hl:LsH h x 3 encC l)(hn:l.length<=4294967296):∃n:Int,aB cc ab 97 [.v x,.v clo1] (absH aa h) [.i n] (absH aa h)/\(0<=n↔∃c∈l,isK c=false):=by
 obtain⟨rs,h',h1,n,rfl,rfl,h2⟩:=x97 (K:=λrs h'=>∃n:Int,rs=[.i n]/\h'=h/\(0<=n↔∃c∈l,isK c=false)) (H:=h) (glsV hl.good (glsV good1 gls0)) (by
  unfold f97;simp only[qxh]
  simp(disch:=omega)only[↓qXX]
  refine bY hl ?_
  refine eu l.length (λj=>∀i,i<j->∀c,l[i]? = some c->isK c=true) rfl (qaV _) (λi hi=>absurd hi (qbC _)) ?_
  intro j hj hi self hself
  simp(disch:=omega)only[↓qXX]
  by_cases hlt:j<l.length
  ·have e1:Int.ofNat j<Int.ofNat l.length:=by show(j:Int)<l.length;omega
   rw[p_lss_t e1]
   simp(disch:=omega)only[↓qXX]
   obtain⟨c,hc⟩ : ∃c,l[j]? = some c:=⟨_,qax hlt⟩
   refine bh hl rfl hc ?_
   unfold encC
   simp(disch:=omega)only[↓qXX]
   refine tQ (uG (chk1_c c _) rfl [.agg [.i .i64 c.1,.i .u8 c.2.1,.i .u8 c.2.2]] rfl rfl) ?_
   simp(disch:=omega)only[↓qXX]
   cases hk:isK c with
   |true=>
    show P1.cond false _ _
    simp(disch:=omega)only[↓qXX]
    rw[p_add (by show -9223372036854775808<=(j:Int)+1;omega) (by show(j:Int)+1<=9223372036854775807;omega)]
    refine hself hlt λi hi' c' hc'=>?_
    rcases qaw i j with h|h
    ·exact hi i h c' hc'
    ·obtain rfl:i=j:=by omega
     rw[hc]at hc';cases hc';exact hk
   |false=>
    show P1.cond true _ _
    simp(disch:=omega)only[↓qXX]
    exact⟨_,rfl,by trivial,λ_=>⟨c,qag hc,hk⟩,λ_=>qa7 j⟩
  ·have e1:Int.ofNat l.length<=Int.ofNat j:=by show(l.length:Int)<=j;omega
   rw[p_lss_f e1]
   simp(disch:=omega)only[↓qXX]
   refine⟨_,rfl,by trivial,λh=>by omega,λ⟨c,hc,hk⟩=>?_⟩
   obtain⟨i,hi'⟩:=qaQ hc
   have hlt':i<l.length:=by
    rcases qaw i l.length with h|h
    ·exact h
    ·rw[qaf h]at hi';cases hi'
   rw[hi i (by omega) c hi']at hk
   cases hk)
 exact⟨n,h1,h2⟩
theorem ww{h:HL}{x:Value}{l:List Crs}(hl:LsH h x 3 encC l)(hn:l.length<=4294967296):aB cc ab 61 [.v x,.v clo1] (absH aa h) [.b (!l.all isK)] (absH aa h):=by
 obtain⟨n,h1,h2⟩:=index_c hl hn
 obtain⟨rs,h',h3,rfl,rfl⟩:=x61 (K:=λrs h'=>rs=[.b (!l.all isK)]/\h'=h) (H:=h) (glsV hl.good (glsV good1 gls0)) (by
  unfold f61;simp only[qxh]
  simp(disch:=omega)only[↓qXX]
  refine aj h1 ?_
  simp(disch:=omega)only[↓qXX]
  cases hb:l.all isK with
  |true=>
   have:¬0<=n:=λh=>by
    obtain⟨c,hc,hk⟩:=h2.1 h
    rw[qab.1 hb c hc]at hk;cases hk
   simp(disch:=omega)only[↓qXX]
   exact⟨by trivial,by trivial⟩
  |false=>
   have:0<=n:=h2.2 (by
    obtain⟨c,hc,hk⟩:=qcD.1 hb
    exact⟨c,hc,by simpa using hk⟩)
   simp(disch:=omega)only[↓qXX]
   exact⟨by trivial,by trivial⟩)
 exact h3
def nbr(w v c e:Nat):Option Nat:=
 match e,c%4 with
 |0,0=>if 0<c / 4 / w then some (c+2 - 4*w)else none
 |0,1=>if c / 4%w+1<w then some (c+6)else none
 |0,2=>if c / 4 / w+1<v then some (c+4*w - 2)else none
 |0,_=>if 0<c / 4%w then some (c - 6)else none
 |1,0=>some (c+1)
 |1,1=>some (c - 1)
 |1,2=>some (c+1)
 |1,_=>some (c - 1)
 |2,0=>some (c+3)
 |2,1=>some (c+1)
 |2,2=>some (c - 1)
 |2,_=>some (c - 3)
 |_,_=>none
def nameN(w v c e:Nat):List Lf:=match nbr w v c e with
 |some n=>[.i (.ofNat (min c n)),.i (.ofNat e),.i 0]
 |none=>[.i 0,.i 0,.i 7]
def cellN(w c:Nat):List Lf:=[.i (.ofNat (c / 4%w)),.i (.ofNat (c / 4 / w)),.i (.ofNat (c%4)),.i 0]
def tabName(w v:Nat):Bool:=(List.range (4*w*v)).all λc=>(List.range 3).all λe=>isAns (nameN w v c e) (runF 60 (.f 64) [.i (.ofNat w),.i (.ofNat v),.i (.ofNat c),.i (.ofNat e)] .empty tell)
def tabCell(w v:Nat):Bool:=(List.range (4*w*v)).all λc=>isAns (cellN w c) (runF 60 (.f 72) [.i (.ofNat w),.i (.ofNat v),.i (.ofNat c)] .empty tell)
def aF(w v:Nat):List (Nat×Nat):=(List.range (4*w*v)).flatMap λc=>(List.range 3).filterMap λe=>match nbr w v c e with
 |some n=>if c<n then some (c,e)else none
 |none=>none
def encU(u:Nat×Nat):List Value:=[.int .i64 (.ofNat u.1),.int .u8 (.ofNat u.2)]
def qM(w v:Nat):Bool:=match runF 60 (.f 15) [.i (.ofNat w),.i (.ofNat v)] .empty (λrs h=>match rs with
   | .v x :: r=>ans (eqLs r []&&isSl h x 2 (aF w v).length ((aF w v).flatMap encU))
   |_=>none)with
 |some []=>true
 |_=>false
def ltN(a b:Nat×Nat):Bool:=Nat.blt a.1 b.1||(Nat.beq a.1 b.1&&Nat.blt a.2 b.2)
def ascN:List (Nat×Nat)->Bool
 |a :: b :: l=>ltN a b&&ascN (b :: l)
 |_=>true
def tab5(w v:Nat):Bool:=tabName w v&&(tabCell w v&&(qM w v&&(ascN (aF w v)&&Nat.ble (aF w v).length 1000)))
theorem kF:∀w v:Nat,1<=w->w<=5->1<=v->v<=5->tab5 w v=true:=by
 have key:((List.range 5).all λw=>(List.range 5).all λv=>tab5 (w+1) (v+1))=true:=by kernel_rfl
 intro w v h1 h2 h3 h4
 have h5:=qab.1 key (w - 1) (qai.2 (by omega))
 have h6:=qab.1 h5 (v - 1) (qai.2 (by omega))
 have e1:w - 1+1=w:=by omega
 have e2:v - 1+1=v:=by omega
 rw[e1,e2]at h6
 exact h6
theorem nbr_ne{w v c e n:Nat}(hw:1<=w)(h:nbr w v c e=some n):n≠c:=by
 have hx:c / 4%w<=c / 4:=qdD _ _
 have hy:c / 4 / w<=c / 4:=qcY _ _
 have hq:c%4=0∨c%4=1∨c%4=2∨c%4=3:=by omega
 rcases e with _|_|_|e<;>rcases hq with h1|h1|h1|h1<;>simp only[nbr,h1]at h<;>
  first
  |(split at h<;>first|(simp only[qau]at h;omega)|(cases h;done))
  |(simp only[qau]at h;omega)
  |(cases h;done)
theorem jS{w v:Nat}(h:tab5 w v=true):tabName w v=true/\tabCell w v=true/\qM w v=true/\ascN (aF w v)=true/\(aF w v).length<=1000:=by
 unfold tab5 at h
 simp only[qaa,qbd]at h
 exact h
theorem nameIn{w v:Nat}(ht:tab5 w v=true){c e:Nat}(hc:c<4*w*v)(he:e<3):Cc 64 [.i (.ofNat w),.i (.ofNat v),.i (.ofNat c),.i (.ofNat e)] (nameN w v c e):=by
 have h1:=qab.1 (jS ht).1 c (qai.2 hc)
 exact iJ (n:=60) rfl (by kernel_rfl) rfl (qab.1 h1 e (qai.2 he))
theorem cellIn{w v:Nat}(ht:tab5 w v=true){c:Nat}(hc:c<4*w*v):Cc 72 [.i (.ofNat w),.i (.ofNat v),.i (.ofNat c)] (cellN w c):=
 iJ (n:=60) rfl (by kernel_rfl) rfl (qab.1 (jS ht).2.1 c (qai.2 hc))
def valS(w v:Int):Prop:=1<=w/\1<=v/\w<=256/\v<=256/\w*v<=256
instance (w v : Int) : Decidable (valS w v) := by unfold valS; infer_instance
theorem vk{w v a b:Int}(h:0<=w/\w<=a/\0<=v/\v<=b):0<=w*v/\w*v<=a*b:=
 ⟨Int.mul_nonneg h.1 h.2.2.1,Int.mul_le_mul h.2.1 h.2.2.2 h.2.2.1 (by omega)⟩
theorem shCheck(w v:Int):Cc 60 [.i w,.i v] [.i (if valS w v then 0 else 1)]:=by
 refine q60 rfl ?_;unfold f60;simp only[qxh]
 by_cases h1:1<=w
 ·by_cases h2:1<=v
  ·by_cases h3:w<=256
   ·by_cases h4:v<=256
    ·have hm:=vk (w:=w) (v:=v) (a:=256) (b:=256) (by omega)
     by_cases h5:w*v<=256
     ·simp(disch:=omega)only[↓qXX];simp[valS,h1,h2,h3,h4,h5]
     ·simp(disch:=omega)only[↓qXX];simp[valS,h5]
    ·simp(disch:=omega)only[↓qXX];simp[valS,h4]
   ·simp(disch:=omega)only[↓qXX];simp[valS,h3]
  ·simp(disch:=omega)only[↓qXX];simp[valS,h2]
 ·simp(disch:=omega)only[↓qXX];simp[valS,h1]
theorem oT{w v:Int}(h:valS w v):Cc 60 [.i w,.i v] [.i 0]:=by
 have:=shCheck w v;rw[if_pos h]at this;exact this
theorem xb{w v:Int}(h:¬valS w v):Cc 60 [.i w,.i v] [.i 1]:=by
 have:=shCheck w v;rw[if_neg h]at this;exact this
def smS(w v:Int):Prop:=1<=w/\w<=5/\1<=v/\v<=5
theorem uj{w v:Int}(h:smS w v):valS w v:=by
 unfold smS at h;have:=vk (w:=w) (v:=v) (a:=5) (b:=5) (by omega);unfold valS;omega
theorem sm4{w v:Int}(h:smS w v):4<=4*w*v/\4*w*v<=100:=by
 unfold smS at h
 have h1:=vk (w:=4*w) (v:=v) (a:=20) (b:=5) (by omega)
 have h2:4*w<=4*w*v:=by
  have:=Int.mul_le_mul_of_nonneg_left h.2.2.1 (show 0<=4*w by omega)
  rw[Int.mul_one]at this;exact this
 omega
theorem has_c{w v:Int}(h:smS w v)(c:Int):Cc 111 [.i w,.i v,.i c] [.b (decide (0<=c)&&decide (c<4*w*v))]:=by
 have h4:=sm4 h
 unfold smS at h
 refine q111 rfl ?_;unfold f111;simp only[qxh]
 by_cases h1:0<=c
 ·by_cases h2:c<4*w*v
  ·simp(disch:=omega)only[↓qXX];simp[h1,h2]
  ·simp(disch:=omega)only[↓qXX];simp[h1,h2]
 ·simp(disch:=omega)only[↓qXX];simp[h1]
theorem xa{w v c:Int}(h:smS w v)(hc:¬(0<=c/\c<4*w*v)):Cc 72 [.i w,.i v,.i c] [.i 0,.i 0,.i 0,.i 7]:=by
 refine q72 rfl ?_;unfold f72;simp only[qxh]
 simp(disch:=omega)only[↓qXX]
 refine ae (oT (uj h)) ?_
 simp(disch:=omega)only[↓qXX]
 have e:(decide (0<=c)&&decide (c<4*w*v))=false:=by simp;omega
 refine ae (e▸has_c h c) ?_
 simp(disch:=omega)only[↓qXX,qbE]
theorem ui{w v c e:Int}(h:smS w v)(hc:¬(0<=c/\c<4*w*v)):Cc 98 [.i w,.i v,.i c,.i e] [.i 0,.i 7]:=by
 refine q98 rfl ?_;unfold f98;simp only[qxh]
 simp(disch:=omega)only[↓qXX]
 refine ae (xa h hc) ?_
 simp(disch:=omega)only[↓qXX]
theorem xd{w v c e:Int}(h:smS w v)(hc:¬(0<=c/\c<4*w*v)):Cc 64 [.i w,.i v,.i c,.i e] [.i 0,.i 0,.i 7]:=by
 refine q64 rfl ?_;unfold f64;simp only[qxh]
 simp(disch:=omega)only[↓qXX]
 refine ae (ui h hc) ?_
 simp(disch:=omega)only[↓qXX]
theorem rg{x y q:Int}(h:-4096<=x/\x<=4096/\-4096<=y/\y<=4096/\q<=3):Cc 117 [.i x,.i y,.i q] [.i 0]:=by
 refine q117 rfl ?_;unfold f117;simp only[qxh]
 simp(disch:=omega)only[↓qXX]
theorem nA{x y q e:Int}(h:-4096<=x/\x<=4096/\-4096<=y/\y<=4096/\q<=3)(he:2<e):Cc 129 [.i x,.i y,.i q,.i e] [.i 0,.i 0,.i 0,.i 1]:=by
 refine q129 rfl ?_;unfold f129;simp only[qxh]
 simp(disch:=omega)only[↓qXX]
 refine ae (rg h) ?_
 simp(disch:=omega)only[↓qXX]
theorem wc{w v:Int}(h:smS w v):∃a b:Nat,w = .ofNat a/\v = .ofNat b/\1<=a/\a<=5/\1<=b/\b<=5:=by
 unfold smS at h
 obtain⟨a,rfl⟩:=qbo (show 0<=w by omega)
 obtain⟨b,rfl⟩:=qbo (show 0<=v by omega)
 exact⟨a,b,rfl,rfl,by omega,by omega,by omega,by omega⟩
theorem lt_nat{a b c:Nat}(h:(c:Int)<4*(a:Int)*(b:Int)):c<4*a*b:=by
 have:(4*(a:Int)*(b:Int))=((4*a*b:Nat):Int):=by simp
 rw[this]at h;omega
theorem sJ{w v c e:Int}(h:smS w v)(hc:0<=c/\c<4*w*v)(he:2<e):Cc 98 [.i w,.i v,.i c,.i e] [.i 0,.i 1]:=by
 have h4:=sm4 h
 obtain⟨a,b,rfl,rfl,ha⟩:=wc h
 obtain⟨k,rfl⟩:=qbo hc.1
 have hk:k<4*a*b:=lt_nat hc.2
 have hk2:4*a*b<=100:=by
  have:(4*(a:Int)*(b:Int))=((4*a*b:Nat):Int):=by simp
  have h5:=h4.2
  change 4*(a:Int)*(b:Int)<=100 at h5
  rw[this]at h5;omega
 refine q98 rfl ?_;unfold f98;simp only[qxh]
 simp(disch:=omega)only[↓qXX]
 refine ae (cellIn (kF a b ha.1 ha.2.1 ha.2.2.1 ha.2.2.2) hk) ?_
 unfold cellN
 simp(disch:=omega)only[↓qXX]
 have h1:k / 4%a<=k / 4:=qdD _ _
 have h2:k / 4 / a<=k / 4:=qcY _ _
 have h3:(0:Int)<=((k / 4 / a:Nat):Int):=qa7 _
 have h5:(0:Int)<=((k / 4%a:Nat):Int):=qa7 _
 refine ae (nA (x:=Int.ofNat (k / 4%a)) (y:=Int.ofNat (k / 4 / a)) (q:=Int.ofNat (k%4)) (by simp only[qaO];omega) he) ?_
 simp(disch:=omega)only[↓qXX]
theorem uh{w v c e:Int}(h:smS w v)(hc:0<=c/\c<4*w*v)(he:2<e):Cc 64 [.i w,.i v,.i c,.i e] [.i 0,.i 0,.i 1]:=by
 refine q64 rfl ?_;unfold f64;simp only[qxh]
 simp(disch:=omega)only[↓qXX]
 refine ae (sJ h hc he) ?_
 simp(disch:=omega)only[↓qXX]
def isUn(w v c e:Int):Bool:=decide (0<=c)&&decide (c<4*w*v)&&decide (e<=2)&&(match nbr w.toNat v.toNat c.toNat e.toNat with
 |some n=>Nat.blt c.toNat n
 |none=>false)
theorem name_c{w v c e:Int}(h:smS w v)(he:0<=e):∃a b r:Int,Cc 64 [.i w,.i v,.i c,.i e] [.i a,.i b,.i r]/\(isUn w v c e=true↔r=0/\a=c/\b=e):=by
 by_cases hc:0<=c/\c<4*w*v
 ·by_cases h2:e<=2
  ·obtain⟨a,b,rfl,rfl,ha⟩:=wc h
   obtain⟨k,rfl⟩:=qbo hc.1
   obtain⟨j,rfl⟩:=qbo he
   have hk:k<4*a*b:=lt_nat hc.2
   have hn:=nameIn (kF a b ha.1 ha.2.1 ha.2.2.1 ha.2.2.2) hk (e:=j) (by omega)
   unfold nameN at hn
   cases e:nbr a b k j with
   |none=>
    rw[e]at hn
    refine⟨_,_,_,hn,?_⟩
    have:isUn (.ofNat a) (.ofNat b) (k:Int) (j:Int)=false:=by
     unfold isUn
     have e':nbr (Int.ofNat a).toNat (Int.ofNat b).toNat (k:Int).toNat (j:Int).toNat=none:=e
     rw[e'];simp
    rw[this]
    simp
   |some n=>
    rw[e]at hn
    refine⟨_,_,_,hn,?_⟩
    have hne:=nbr_ne ha.1 e
    have e':nbr (Int.ofNat a).toNat (Int.ofNat b).toNat (k:Int).toNat (j:Int).toNat=some n:=e
    unfold isUn
    rw[e']
    simp only[qaa,decide_eq_true_eq,qaT,qcE]
    constructor
    ·rintro⟨_,h3⟩
     exact⟨by trivial,by show((min k n:Nat):Int)=k;omega,by trivial⟩
    ·rintro⟨_,h3,_⟩
     have h3:((min k n:Nat):Int)=k:=h3
     exact⟨⟨⟨hc.1,hc.2⟩,h2⟩,by omega⟩
  ·refine⟨_,_,_,uh h hc (by omega),?_⟩
   have:isUn w v c e=false:=by unfold isUn;simp[h2]
   rw[this];simp
 ·refine⟨_,_,_,xd h hc,?_⟩
  have:isUn w v c e=false:=by
   unfold isUn
   have:(decide (0<=c)&&decide (c<4*w*v))=false:=by simp;omega
   rw[this];simp
  rw[this];simp
theorem qd{w v c e:Int}(h:isUn w v c e=true):0<=c/\c<4*w*v/\e<=2:=by
 unfold isUn at h
 simp only[qaa,decide_eq_true_eq]at h
 exact⟨h.1.1.1,h.1.1.2,h.1.2⟩
def ltC(a b:Crs):Bool:=decide (a.1<b.1)||(decide (a.1=b.1)&&decide (a.2.1<b.2.1))
def ascC:List Crs->Bool
 |a :: b :: l=>ltC a b&&ascC (b :: l)
 |_=>true
theorem kU:∀ {l:List Crs},ascC l=true↔∀(i:Nat) a b,l[i]? = some a->l[i+1]? = some b->ltC a b=true
 | []=>by simp[ascC]
 | [a]=>by simp[ascC]
 |a :: b :: l=>by
  simp only[ascC,qaa]
  rw[kU (l:=b :: l)]
  constructor
  ·rintro⟨h1,h2⟩ i x y hx hy
   cases i with
   |zero=>
    simp only[qa6,qau,qbN]at hx hy
    subst hx hy;exact h1
   |succ i=>exact h2 i x y (by simpa using hx) (by simpa using hy)
  ·intro h
   exact⟨h 0 a b rfl rfl,λi x y hx hy=>h (i+1) x y (by simpa using hx) (by simpa using hy)⟩
def unC(w v:Int)(c:Crs):Bool:=isUn w v c.1 c.2.1
def chkC(w v:Int)(l:List Crs):Int:=if l.all isK=false then 1 else if l.all (unC w v)=false then 7 else if ascC l=true then 0 else 6
theorem unit_c(c:Crs):Cc 65 [.i c.1,.i c.2.1,.i c.2.2] [.i c.1,.i c.2.1]:=by
 refine q65 rfl ?_;unfold f65;simp only[qxh]
 simp(disch:=omega)only[↓qXX]
theorem order_c{a b:Crs}(h:0<=a.1/\a.1<=1000/\0<=b.1/\b.1<=1000/\0<=a.2.1/\a.2.1<=255/\0<=b.2.1/\b.2.1<=255):∃d:Int,Cc 66 [.i a.1,.i a.2.1,.i b.1,.i b.2.1] [.i d]/\(d<0↔ltC a b=true):=by
 by_cases h1:a.1=b.1
 ·refine⟨a.2.1 - b.2.1,?_,by simp only[ltC,qa4,qaa,decide_eq_true_eq];omega⟩
  refine q66 rfl ?_;unfold f66;simp only[qxh]
  simp(disch:=omega)only[↓qXX]
 ·refine⟨a.1 - b.1,?_,by simp only[ltC,qa4,qaa,decide_eq_true_eq];omega⟩
  refine q66 rfl ?_;unfold f66;simp only[qxh]
  simp(disch:=omega)only[↓qXX]
theorem check_c{w v:Int}(hs:smS w v){h:HL}{x:Value}{l:List Crs}(hl:LsH h x 3 encC l)(hk:∀c∈l,okC c)(hn:l.length<=4294967296) :
  aB cc ab 32 [.i w,.i v,.v x] (absH aa h) [.i (chkC w v l)] (absH aa h):=by
 obtain⟨rs,h',h3,rfl,rfl⟩:=x32 (K:=λrs h'=>rs=[.i (chkC w v l)]/\h'=h) (H:=h) (glsI (glsI (glsV hl.good gls0))) (by
  unfold f32;simp only[qxh]
  simp(disch:=omega)only[↓qXX]
  refine ae (oT (uj hs)) ?_
  simp(disch:=omega)only[↓qXX]
  refine aj (ww hl hn) ?_
  simp(disch:=omega)only[↓qXX]
  cases hb:l.all isK with
  |false=>
   simp(disch:=omega)only[↓qXX,qbE]
   exact⟨by simp[chkC,hb],by trivial⟩
  |true=>
   simp(disch:=omega)only[↓qXX,qaR]
   refine bY hl ?_
   refine eu l.length (λj=>∀i,i<j->∀c,l[i]? = some c->unC w v c=true) rfl (qaV _) (λi hi=>absurd hi (qbC _)) ?_
   intro j hj hi self hself
   simp(disch:=omega)only[↓qXX]
   by_cases hlt:j<l.length
   ·rw[be hlt]
    simp(disch:=omega)only[↓qXX]
    obtain⟨c,hc⟩:=bg hlt
    have hmem:=qag hc
    have hok:=hk c hmem
    unfold okC at hok
    have bad:unC w v c=false->chkC w v l=7:=λhu=>by
     have:l.all (unC w v)=false:=qcD.2 ⟨c,hmem,by simp[hu]⟩
     simp[chkC,hb,this]
    refine bh hl rfl hc ?_
    unfold encC
    simp(disch:=omega)only[↓qXX]
    obtain⟨a,b,r,hnm,hiff⟩:=name_c (c:=c.1) (e:=c.2.1) hs (by omega)
    refine ae hnm ?_
    simp(disch:=omega)only[↓qXX]
    by_cases hr:r=0
    ·subst hr
     simp(disch:=omega)only[↓qXX]
     refine ae (unit_c c) ?_
     simp(disch:=omega)only[↓qXX]
     by_cases hab:a=c.1/\b=c.2.1
     ·have hu:unC w v c=true:=hiff.2 ⟨rfl,hab.1,hab.2⟩
      simp(disch:=omega)only[↓qXX,qaR]
      rw[co (by omega)]
      refine hself hlt λi hi' c' hc'=>?_
      rcases qaw i j with h|h
      ·exact hi i h c' hc'
      ·obtain rfl:i=j:=by omega
       rw[hc]at hc';cases hc';exact hu
     ·have hu:unC w v c=false:=by
       rw[←qaY];intro hu
       have:=hiff.1 hu
       exact hab ⟨this.2.1,this.2.2⟩
      rw[p_eqs2_f hab]
      simp(disch:=omega)only[↓qXX,qbE]
      exact⟨by rw[bad hu],by trivial⟩
    ·have hu:unC w v c=false:=by
      rw[←qaY];intro hu
      exact hr (hiff.1 hu).1
     simp(disch:=omega)only[↓qXX]
     exact⟨by rw[bad hu],by trivial⟩
   ·obtain rfl:j=l.length:=by omega
    rw[bc (qal _)]
    simp(disch:=omega)only[↓qXX]
    have hu:l.all (unC w v)=true:=qab.2 λc hc=>by
     obtain⟨i,hi'⟩:=qaQ hc
     exact hi i (bk hi') c hi'
    refine eu (j0:=1) (max 1 l.length) (λj=>1<=j/\∀(i:Nat) a b,i+1<j->l[i]? = some a->l[i+1]? = some b->ltC a b=true) rfl (qcu _ _) ⟨qal _,λi a b hi=>by omega⟩ ?_
    intro j hj' ⟨h1,hi2⟩ self hself
    simp(disch:=omega)only[↓qXX]
    refine bY hl ?_
    by_cases hlt:j<l.length
    ·rw[be hlt]
     simp(disch:=omega)only[↓qXX]
     rw[n_sub h1 (by omega)]
     obtain⟨c,hc⟩:=bg (l:=l) (i:=j - 1) (by omega)
     obtain⟨d,hd⟩:=bg hlt
     have hc1:=hk c (qag hc)
     have hd1:=hk d (qag hd)
     have hc2:=qd (qab.1 hu c (qag hc))
     have hd2:=qd (qab.1 hu d (qag hd))
     have h4:=sm4 hs
     unfold okC at hc1 hd1
     refine bh hl rfl hc ?_
     unfold encC
     simp(disch:=omega)only[↓qXX]
     refine ae (unit_c c) ?_
     simp(disch:=omega)only[↓qXX]
     refine bh hl rfl hd ?_
     unfold encC
     simp(disch:=omega)only[↓qXX]
     refine ae (unit_c d) ?_
     simp(disch:=omega)only[↓qXX]
     obtain⟨o,ho,hoi⟩:=order_c (a:=c) (b:=d) (by omega)
     refine ae ho ?_
     simp(disch:=omega)only[↓qXX]
     by_cases hlo:o<0
     ·simp(disch:=omega)only[↓qXX]
      rw[co (by omega)]
      refine hself (by omega) ⟨by omega,λi a b hi' ha hb'=>?_⟩
      rcases qaw (i+1) j with h|h
      ·exact hi2 i a b h ha hb'
      ·have e1:i=j - 1:=by omega
       have e2:i+1=j:=by omega
       rw[e2,hd]at hb'
       rw[e1,hc]at ha
       cases ha;cases hb'
       exact hoi.1 hlo
     ·have hna:ascC l=false:=by
       rw[←qaY,kU]
       intro hall
       have:=hall (j - 1) c d hc (by rw[show j - 1+1=j by omega];exact hd)
       exact hlo (hoi.2 this)
      simp(disch:=omega)only[↓qXX]
      exact⟨by simp[chkC,hb,hu,hna],by trivial⟩
    ·rw[bc (by omega)]
     simp(disch:=omega)only[↓qXX]
     have ha:ascC l=true:=kU.2 λi a b ha hb'=>hi2 i a b (by have:=bk hb';omega) ha hb'
     exact⟨by simp[chkC,hb,hu,ha],by trivial⟩)
 exact h3
end Go.Am
namespace Go.Am
namespace Sx
section
variable [Val] [Kno]
variable {C:Cfg} {Sg:FuncId->Option Sig} {T:Nat->Site} {α:Type}
def putE(h:HL)(id e:Nat)(enc:α->List Value)(l:List α):HL:=h.set id (.o (.cells (l.flatMap enc) e true))
theorem cQ{h:HL}{id e:Nat}{enc:α->List Value}{l:List α}(hlt:id<h.length):(putE h id e enc l)[id]? = some (.o (.cells (l.flatMap enc) e true)):=by
 unfold putE
 rw[qaE hlt]
theorem vH{h:HL}{id e:Nat}{enc:α->List Value}{l l':List α}:(putE h id e enc l).set id (.o (.cells (l'.flatMap enc) e true))=putE h id e enc l':=by
 unfold putE
 rw[List.set_set]
theorem putE_ls{h:HL}{id e cx:Nat}{enc:α->List Value}(henc:∀a,(enc a).length=e){l:List α}(hlt:id<h.length):LsH (putE h id e enc l) (.slice (some ⟨id,0,tag e⟩) l.length cx) e enc l:=by
 have hl:=aL (e:=e) (enc:=enc) (l:=l) λa _=>henc a
 exact⟨λa _=>henc a,hl,.inr ⟨id,0,cx,_,true,rfl,cQ hlt,cut_all hl⟩⟩
theorem me{e:Nat}{enc:α->List Value}(henc:∀a,(enc a).length=e):∀ {l:List α} {i:Nat} (a:α),i<l.length->(l.flatMap enc).take (i*e)++enc a++(l.flatMap enc).drop (i*e+e)=(l.set i a).flatMap enc
 | [],_,_,h=>by simp at h
 |b :: l,0,a,_=>by
  have hb:=henc b
  simp only[qbz,qca,qaC,qaH,qcy,qbK]
  rw[qcM,qbB (by omega),qaC,show e - (enc b).length=0 by omega,qbb]
 |b :: l,i+1,a,h=>by
  have hb:=henc b
  have ih:=me henc (l:=l) (i:=i) a (by simpa using h)
  simp only[List.set_cons_succ,qbK]
  rw[←ih,qbt,qck,List.take_append,qcM]
  rw[qaJ (by omega),qbB (by omega),qaC]
  rw[show i*e+e - (enc b).length=i*e by omega,show i*e+e+e - (enc b).length=i*e+e by omega]
  simp[qaM]
theorem r_set{h:HL}{id e cx len:Nat}{enc:α->List Value}(henc:∀a,(enc a).length=e){l:List α}{i:Nat}{a:α}{n:Int}{new:List Value}{K:List Value->HL->Prop}(hlt:id<h.length)(hn:n=Int.ofNat i)(hi:i<l.length)(hlen:l.length=len)(hnew:new=enc a)
  (hk:K [] (putE h id e enc (l.set i a))):(PH C Sg T).opt (idS e (.slice (some ⟨id,0,tag e⟩) len cx) n) (@hid _ ⟨λx=>(PH C Sg T).heap (.st x new) (putE h id e enc l) (@hid _ ⟨K⟩)⟩):=by
 subst hn hlen hnew
 have hx:idS e (.slice (some ⟨id,0,tag e⟩) l.length cx) (Int.ofNat i)=some (.pointer (some ⟨id,i*e,none⟩)):=by
  rw[idS_eq]
  have hh:0<=Int.ofNat i/\Int.ofNat i<(l.length:Int):=⟨qa7 i,by show(i:Int)<l.length;omega⟩
  simp only[if_pos hh]
  have:¬(tag e=some 1):=by simp[tag]
  simp only[if_neg this,qaH]
  rfl
 refine aq hx ?_
 have hl:=aL (e:=e) (enc:=enc) (l:=l) λa _=>henc a
 have hle:i*e+e<=l.length*e:=by
  have:=qbl e (show i+1<=l.length by omega)
  rw[qbt,qck]at this;exact this
 have hrun:(Hp.st (.pointer (some ⟨id,i*e,none⟩)) (enc a)).run (getH T (putE h id e enc l)) (putE h id e enc l).length=some ([.set id (.cells ((l.set i a).flatMap enc) e true)],[]):=by
  show stP (.pointer (some ⟨id,i*e,none⟩)) (enc a) (getH T (putE h id e enc l)) (putE h id e enc l).length=_
  unfold stP
  simp only
  rw[cw (cQ hlt)]
  simp only
  unfold splice
  rw[henc a,hl,if_pos hle,me henc a hi]
  rfl
 refine dA hrun ?_
 show K [] (bR _ _)
 have:bR (putE h id e enc l) [.set id (.cells ((l.set i a).flatMap enc) e true)]=putE h id e enc (l.set i a):=vH
 rw[this]
 exact hk
end
end Sx
namespace Sx
section
variable [Val] [Kno]
variable {C:Cfg} {Sg:FuncId->Option Sig} {T:Nat->Site} {α:Type}
theorem da{enc:α->List Value}{z:α}{n:Nat}:aJ (enc z) n=(List.replicate n z).flatMap enc:=by
 unfold aJ
 rw[List.flatMap_def,List.map_replicate]
def kJ(z:α)(A:List α)(k:Nat):List α:=A.take k++List.replicate (A.length - k) z
theorem rB{z:α}{A:List α}{k:Nat}(h:k<=A.length):(kJ z A k).length=A.length:=by
 unfold kJ
 rw[qaz,qaI,qcm];omega
theorem fillZ_0{z:α}{A:List α}:kJ z A 0=List.replicate A.length z:=by simp[kJ]
theorem fillZ_all{z:α}{A:List α}:kJ z A A.length=A:=by simp[kJ]
theorem fillZ_set{z a:α}{A:List α}{k:Nat}(ha:A[k]? = some a):(kJ z A k).set k a=kJ z A (k+1):=by
 have hk:=bk ha
 unfold kJ
 obtain⟨m,hm⟩ : ∃m,A.length - k=m+1:=⟨A.length - k - 1,by omega⟩
 have hl:(A.take k).length=k:=by rw[qaI];omega
 rw[hm,qb3,qbU _ _ (by omega),hl,qbA,qcy,show A.length - (k+1)=m by omega]
 rw[show A.take (k+1)=A.take k++[a]by
  rw[qbc,ha];rfl]
 simp
def newE(h:HL)(e:Nat)(enc:α->List Value)(l:List α):HL:=h++[.o (.cells (l.flatMap enc) e true)]
theorem qp{h:HL}{e:Nat}{enc:α->List Value}{l:List α}:putE (h++[.o .dead]) h.length e enc l=newE h e enc l:=by
 unfold putE newE
 rw[qbU _ _ (qal _),qbA];rfl
theorem newE_pre(h:HL)(e:Nat)(enc:α->List Value)(l:List α):Pre h (newE h e enc l):=⟨_,rfl⟩
theorem newE_ls{h:HL}{e cx:Nat}{enc:α->List Value}(henc:∀a,(enc a).length=e){l:List α}{n:Nat}(hn:n=l.length):LsH (newE h e enc l) (.slice (some ⟨h.length,0,tag e⟩) n cx) e enc l:=by
 subst hn
 rw[←qp]
 exact putE_ls henc (by simp)
theorem r_setN{h:HL}{e cx len:Nat}{enc:α->List Value}(henc:∀a,(enc a).length=e){l:List α}{i:Nat}{a:α}{n:Int}{new:List Value}{K:List Value->HL->Prop}(hn:n=Int.ofNat i)(hi:i<l.length)(hlen:l.length=len)(hnew:new=enc a)
  (hk:K [] (newE h e enc (l.set i a))):(PH C Sg T).opt (idS e (.slice (some ⟨h.length,0,tag e⟩) len cx) n) (@hid _ ⟨λx=>(PH C Sg T).heap (.st x new) (newE h e enc l) (@hid _ ⟨K⟩)⟩):=by
 rw[←qp]at hk
 rw[←qp]
 exact r_set henc (by simp) hn hi hlen hnew hk
theorem fq{n:Nat}(h:n<=1048576):mkOk (Int.ofNat n) (Int.ofNat n)=some ():=by
 unfold mkOk
 rw[if_pos]
 exact⟨qa7 n,Int.le_refl _,by show(n:Int)<=1048576;omega⟩
theorem new_zeros{h:HL}{e:Nat}{enc:α->List Value}{z:α}{n:Nat}{v:List Value}(hv:v=enc z):h++[HO.o (.cells (aJ v n) e true)]=newE h e enc (List.replicate n z):=by
 subst hv
 unfold newE
 rw[da]
theorem cap_full{id n:Nat}{o:Nat}{sp:Option Nat}:capS (.slice (some ⟨id,o,sp⟩) n (n+1))=some (Int.ofNat n):=rfl
end
end Sx
namespace Sx
section
variable [Val] [Kno]
variable {C:Cfg} {Sg:FuncId->Option Sig} {T:Nat->Site} {α:Type}
theorem ng{l:List α}{i:Nat}{a:α}(h:l[i]? = some a):l.set i a=l:=by
 apply qaU
 intro k
 by_cases hk:i=k
 ·subst hk
  rw[qaE (bk h),h]
 ·rw[qat hk]
end
end Sx
namespace Sx
section
variable [Val] [Kno] {C:Cfg} {T:Nat->Site}
abbrev Ku:=Int×Int
def kvU(k:Ku):Value:=.agg ⟨[.int .i64 k.1,.int .u8 k.2]⟩
def EntS(es:List MapEntry)(ks:List Ku):Prop:=es.map (·.key)=ks.map kvU/\∀e∈es,e.val = .bool true
abbrev kkU:List LK:=[.i .i64,.i .u8]
theorem pP(a b:Int):eqZ a b=decide (a=b):=by
 have hb:∀m n:Nat,Nat.beq m n=decide (m=n):=λm n=>by
  by_cases h:m=n
  ·subst h;simp
  ·rw[decide_eq_false h]
   cases hq:Nat.beq m n with
   |true=>exact absurd (qac hq) h
   |false=>rfl
 cases a<;>cases b<;>simp[eqZ,hb]
 omega
theorem difK_kv(a b:Ku):difK kkU [.int .i64 a.1,.int .u8 a.2] [.int .i64 b.1,.int .u8 b.2]=some (decide (a=b)):=by
 have e1:de .i64 .i64=true:=rfl
 have e2:de .u8 .u8=true:=rfl
 obtain⟨a1,a2⟩:=a
 obtain⟨b1,b2⟩:=b
 simp only[difK,e1,e2,pP,qb8]
 by_cases h1:a1=b1
 ·by_cases h2:a2=b2
  ·simp[h1,h2]
  ·simp[h1,h2]
 ·simp[h1]
theorem pV(k:Ku):∀ {es:List MapEntry} {ks:List Ku} (i:Nat),EntS es ks->(k∉ks->gK kkU [.int .i64 k.1,.int .u8 k.2] es i=some none)/\(k∈ks->∃j e,gK kkU [.int .i64 k.1,.int .u8 k.2] es i=some (some (i+j))/\es[j]? = some e/\e.val = .bool true)
 | [],[],i,_=>⟨λ_=>rfl,λh=>by cases h⟩
 | [],_ :: _,i,h=>by have:=h.1;simp at this
 |_ :: _,[],i,h=>by have:=h.1;simp at this
 |e :: es,q :: ks,i,h=>by
  obtain⟨h1,h2⟩:=h
  simp only[qar,qaX]at h1
  obtain⟨ih1,ih2⟩:=pV k (i+1) (⟨h1.2,λx hx=>h2 x (qao _ hx)⟩ : EntS es ks)
  have hq:gK kkU [.int .i64 k.1,.int .u8 k.2] (e :: es) i=if k=q then some (some i)else gK kkU [.int .i64 k.1,.int .u8 k.2] es (i+1):=by
   simp only[gK,h1.1,kvU]
   rw[difK_kv]
   by_cases hk:k=q<;>simp[hk]
  rw[hq]
  by_cases hk:k=q
  ·subst hk
   refine⟨λhn=>absurd qaB hn,λ_=>⟨0,e,by rw[if_pos rfl];rfl,rfl,h2 e qaB⟩⟩
  ·rw[if_neg hk]
   refine⟨λhn=>ih1 λhm=>hn (qao _ hm),λhm=>?_⟩
   rcases qam.1 hm with hm|hm
   ·exact absurd hm hk
   ·obtain⟨j,e',g1,g2,g3⟩:=ih2 hm
    exact⟨j+1,e',by rw[g1];congr 2;omega,by simpa using g2,g3⟩
variable {kt:TypeId}
theorem keyF_u(h1:aggT C.P kt=some true)(h2:flatK C.P 10000 kt=some kkU)(k:Ku):keyF C.P kt (kvU k)=true:=by
 have e1:de .i64 .i64=true:=rfl
 have e2:de .u8 .u8=true:=rfl
 unfold keyF kvU
 simp only[h1,h2,gY,e1,e2,pP]
 simp
theorem tu(h1:aggT C.P kt=some true)(h2:flatK C.P 10000 kt=some kkU)(k:Ku){es:List MapEntry}{r:Option Nat}(hr:gK kkU [.int .i64 k.1,.int .u8 k.2] es 0=some r):nC C.P kt (kvU k) es=some r:=by
 unfold nC kvU
 simp only[h1,h2,lm,hr]
theorem lu_set(h1:aggT C.P kt=some true)(h2:flatK C.P 10000 kt=some kkU){h:HL}{id c:Nat}{es:List MapEntry}{ks:List Ku}(hm:h[id]? = some (.o (.map es c)))(he:EntS es ks)(k:Ku) :
  luG C kt false (.bool false) (.map (some id)) (kvU k) false (getH T h)=some [.bool (decide (k∈ks))]:=by
 unfold luG
 rw[keyF_u h1 h2]
 simp only[qaR,qaj,if_false]
 have hg:mapG (getH T h) id=some (es,c):=by
  unfold mapG
  rw[cw hm]
 rw[hg]
 simp only
 obtain⟨f1,f2⟩:=pV k 0 he
 by_cases hk:k∈ks
 ·obtain⟨j,e,g1,g2,g3⟩:=f2 hk
  rw[tu h1 h2 k g1]
  have hv:dM es (0+j)=some (.bool true):=by
   rw[qaH]
   unfold dM
   rw[g2]
   simp[g3]
  simp only[hv,qah]
  simp[ei,hk]
 ·rw[tu h1 h2 k (f1 hk)]
  simp[ei,hk]
theorem mu_set(h1:aggT C.P kt=some true)(h2:flatK C.P 10000 kt=some kkU){h:HL}{id c n:Nat}{es:List MapEntry}{ks:List Ku}(hm:h[id]? = some (.o (.map es c)))(he:EntS es ks){k:Ku}(hk:k∉ks) :
  muG C kt (.map (some id)) (kvU k) (.bool true) (getH T h) n=some ([.set id (.map (es++[{ key:=kvU k,val:=.bool true,born:=c }]) (c+1))],[]):=by
 unfold muG
 simp only
 rw[keyF_u h1 h2]
 simp only[qaR,qaj,if_false]
 have hg:mapG (getH T h) id=some (es,c):=by
  unfold mapG
  rw[cw hm]
 rw[hg]
 simp only
 rw[tu h1 h2 k ((pV k 0 he).1 hk)]
theorem EntS.push{es:List MapEntry}{ks:List Ku}(he:EntS es ks)(k:Ku)(c:Nat):EntS (es++[{ key:=kvU k,val:=.bool true,born:=c }]) (ks++[k]):=by
 refine⟨by simp[he.1],λe hm=>?_⟩
 rcases qaG.1 hm with hm|hm
 ·exact he.2 e hm
 ·simp only[qay]at hm
  subst hm;rfl
end
end Sx
end Go.Am
set_option maxRecDepth 100000
set_option maxHeartbeats 8000000
namespace Go.Am
open Sx Go.Proofs
def clN(w n:Nat):Cl:=(Int.ofNat (n / 4%w),Int.ofNat (n / 4 / w),n%4)
def rkN(w n:Nat):Nat:=10*(n / 4%w+n / 4 / w)+(if n / 4 / w=0/\n / 4%w≠0 then [1,2,1,0]else [0,1,2,1]).getD (n%4) 0
def vl(w v c e:Nat):List Lf:=match nbr w v c e with
 |some n=>[.i (.ofNat n),.i 0]
 |none=>[.i 0,.i 7]
def tabNb(w v:Nat):Bool:=(List.range (4*w*v)).all λc=>(List.range 3).all λe=>sO 98 [.i (.ofNat w),.i (.ofNat v),.i (.ofNat c),.i (.ofNat e)] (vl w v c e)
def tabLn(w v:Nat):Bool:=(aF w v).all λu=>sO 110 [.i (.ofNat w),.i (.ofNat v),.i (.ofNat u.1),.i (.ofNat u.2)] [.i (.ofNat (lnC3 (clN w u.1) u.2).1),.i (lnC3 (clN w u.1) u.2).2,.i 0]
def eqLn(a b:Ln):Bool:=Nat.beq a.1 b.1&&decide (a.2=b.2)
theorem eqLn_iff{a b:Ln}:eqLn a b=true↔a=b:=by
 unfold eqLn
 rw[qaa,decide_eq_true_eq,qc4]
 exact⟨λh=>⟨qac h.1,h.2⟩,λh=>⟨by rw[h.1];exact qb0 _,h.2⟩⟩
def eqCl(a b:Cl):Bool:=decide (a.1=b.1)&&(decide (a.2.1=b.2.1)&&Nat.beq a.2.2 b.2.2)
theorem eqCl_iff{a b:Cl}:eqCl a b=true↔a=b:=by
 unfold eqCl
 rw[qaa,qaa,decide_eq_true_eq,decide_eq_true_eq,qc4,qc4]
 exact⟨λh=>⟨h.1,h.2.1,qac h.2.2⟩,λh=>⟨h.1,h.2.1,by rw[h.2.2];exact qb0 _⟩⟩
def nbT(w v c e:Nat):Bool:=match nbr w v c e with
 |some n=>Nat.blt n (4*w*v)&&((match nbr w v n e with
  |some m=>Nat.beq m c
  |none=>false)&&(eqLn (lnC3 (clN w c) e) (lnC3 (clN w n) e)&&(eqCl (clN w n) (nbC (clN w c) e) && !Nat.beq n c)))
 |none=>true
def lnRng(w c e:Nat):Bool:=Nat.ble 1 (lnC3 (clN w c) e).1&&(Nat.ble (lnC3 (clN w c) e).1 4&&(decide (-10<=(lnC3 (clN w c) e).2)&&decide ((lnC3 (clN w c) e).2<=10)))
def wayT(w v n:Nat):Bool:=Nat.beq n 0||(List.range 3).any λe=>match nbr w v n e with
 |some m=>Nat.blt (rkN w m) (rkN w n)
 |none=>false
def tabNet(w v:Nat):Bool:=(List.range (4*w*v)).all λc=>wayT w v c&&(List.range 3).all λe=>nbT w v c e&&lnRng w c e
def tab71(w v:Nat):Bool:=tabNb w v&&(tabLn w v&&tabNet w v)
theorem all71:∀w v:Nat,1<=w->w<=5->1<=v->v<=5->tab71 w v=true:=by
 have key:((List.range 5).all λw=>(List.range 5).all λv=>tab71 (w+1) (v+1))=true:=by kernel_rfl
 intro w v h1 h2 h3 h4
 have h5:=qab.1 key (w - 1) (qai.2 (by omega))
 have h6:=qab.1 h5 (v - 1) (qai.2 (by omega))
 rw[show w - 1+1=w by omega,show v - 1+1=v by omega]at h6
 exact h6
def Sh(w v:Nat):Prop:=1<=w/\w<=5/\1<=v/\v<=5
section
variable {w v:Nat}
theorem qK(h:Sh w v):tabNb w v=true/\tabLn w v=true/\tabNet w v=true:=by
 have:=all71 w v h.1 h.2.1 h.2.2.1 h.2.2.2
 unfold tab71 at this
 simpa only[qaa]using this
theorem nb_c(h:Sh w v){c e:Nat}(hc:c<4*w*v)(he:e<3):Cc 98 [.i (.ofNat w),.i (.ofNat v),.i (.ofNat c),.i (.ofNat e)] (vl w v c e):=
 iq (qab.1 (qab.1 (qK h).1 c (qai.2 hc)) e (qai.2 he)) rfl (by kernel_rfl) rfl
theorem ln_c(h:Sh w v){u e:Nat}(hu:(u,e)∈aF w v):Cc 110 [.i (.ofNat w),.i (.ofNat v),.i (.ofNat u),.i (.ofNat e)] [.i (.ofNat (lnC3 (clN w u) e).1),.i (lnC3 (clN w u) e).2,.i 0]:=
 iq (qab.1 (qK h).2.1 (u,e) hu) rfl (by kernel_rfl) rfl
theorem net_ok(h:Sh w v){c:Nat}(hc:c<4*w*v):wayT w v c=true/\∀e,e<3->nbT w v c e=true/\lnRng w c e=true:=by
 have:=qab.1 (qK h).2.2 c (qai.2 hc)
 rw[qaa]at this
 refine⟨this.1,λe he=>?_⟩
 have:=qab.1 this.2 e (qai.2 he)
 rwa [qaa]at this
theorem mz(h:Sh w v){c e n:Nat}(hc:c<4*w*v)(he:e<3)(hn:nbr w v c e=some n):n<4*w*v/\nbr w v n e=some c/\lnC3 (clN w c) e=lnC3 (clN w n) e/\clN w n=nbC (clN w c) e/\n≠c:=by
 have:=((net_ok h hc).2 e he).1
 unfold nbT at this
 rw[hn]at this
 simp only[qaa]at this
 obtain⟨h1,h2,h3,h4,h5⟩:=this
 refine⟨by simpa[qaT]using h1,?_,eqLn_iff.1 h3,eqCl_iff.1 h4,λe=>?_⟩
 ·split at h2
  ·rename_i m hm
   rw[hm,qac h2]
  ·cases h2
 ·subst e
  rw[show Nat.beq n n=true from qb0 n]at h5
  cases h5
theorem ln_ok(h:Sh w v){c e:Nat}(hc:c<4*w*v)(he:e<3):1<=(lnC3 (clN w c) e).1/\(lnC3 (clN w c) e).1<=4/\-10<=(lnC3 (clN w c) e).2/\(lnC3 (clN w c) e).2<=10:=by
 have:=((net_ok h hc).2 e he).2
 unfold lnRng at this
 simp only[qaa,qbd,decide_eq_true_eq]at this
 exact this
theorem qo(h:Sh w v){P:Nat->Prop}(h0:P 0)(hs:∀c e n,c<4*w*v->e<3->nbr w v c e=some n->P c->P n):∀n,n<4*w*v->P n:=by
 have main:∀k n,n<4*w*v->rkN w n<k->P n:=by
  intro k
  induction k with
  |zero=>intro n _ hk;omega
  |succ k ih=>
   intro n hn hk
   have hw:=(net_ok h hn).1
   unfold wayT at hw
   rw[qa4]at hw
   rcases hw with hw|hw
   ·rw[qac hw];exact h0
   ·obtain⟨e,he,hm⟩:=qdg.1 hw
    have he:=qai.1 he
    split at hm
    ·rename_i m hnm
     rw[qaT]at hm
     obtain⟨g1,g2,_⟩:=mz h hn he hnm
     exact hs m e n g1 he g2 (ih m g1 (by omega))
    ·cases hm
 intro n hn
 exact main (rkN w n+1) n hn (by omega)
theorem oq{c e n:Nat}(hc:c<4*w*v)(he:e<3)(hn:nbr w v c e=some n)(hlt:c<n):(c,e)∈aF w v:=by
 unfold aF
 rw[qbw]
 refine⟨c,qai.2 hc,qbg.2 ⟨e,qai.2 he,?_⟩⟩
 simp[hn,hlt]
theorem tJ(h:Sh w v){c e n:Nat}(hc:c<4*w*v)(he:e<3)(hn:nbr w v c e=some n):(min c n,e)∈aF w v/\lnC3 (clN w (min c n)) e=lnC3 (clN w c) e:=by
 obtain⟨g1,g2,g3,_,g5⟩:=mz h hc he hn
 rcases qaw c n with hlt|hge
 ·rw[qb6 (by omega)]
  exact⟨oq hc he hn hlt,rfl⟩
 ·rw[qdf hge]
  exact⟨oq g1 he g2 (by omega),g3.symm⟩
end
def dE(c:Crs):Ku:=(c.1,c.2.1)
def isCr(l:List Crs)(u e:Nat):Bool:=decide (((Int.ofNat u,Int.ofNat e):Ku)∈l.map dE)
def SetM(H:HL)(id:Nat)(l:List Crs):Prop:=∃es c,H[id]? = some (.o (.map es c))/\EntS es (l.map dE)
theorem wF{l:List Crs}(h:l.Pairwise λa b=>ltC a b=true):(l.map dE).Nodup:=by
 rw[List.Nodup,List.pairwise_map]
 refine h.imp λ{a b} hab e=>?_
 unfold ltC at hab
 simp only[qa4,qaa,decide_eq_true_eq]at hab
 unfold dE at e
 simp only[qb8]at e
 omega
theorem creased_c{H:HL}{w v:Int}{x:Value}{l:List Crs}(hl:LsH H x 3 encC l)(hn:(l.map dE).Nodup)(hb:l.length<=1000) :
  ∃G,aB cc ab 107 [.i w,.i v,.v x] (absH aa H) [.v (.map (some H.length))] (absH aa (H++[G]))/\SetM (H++[G]) H.length l:=by
 obtain⟨rs,h',h1,rfl,G,rfl,hS⟩:=x107 (K:=λrs h'=>rs=[.v (.map (some H.length))]/\∃G,h'=H++[G]/\SetM h' H.length l) (H:=H) (glsI (glsI (glsV hl.good gls0))) (by
  unfold f107;simp only[qxh]
  simp(disch:=omega)only[↓qXX]
  refine bY hl ?_
  simp(disch:=omega)only[↓qXX]
  refine bY hl ?_
  refine cm (σ:=HO) l.length (λj _=>[.i (Int.ofNat j)]) (λ_ G=>H++[G]) (λj G=>SetM (H++[G]) H.length (l.take j)) (j0:=0) (s0:=.o (.map [] 0)) rfl rfl (qaV _) ⟨[],0,by simp,rfl,λe h=>(by cases h)⟩ ?_
  rintro j G hj ⟨es,c,g1,g2⟩ self hself
  simp(disch:=omega)only[↓qXX]
  by_cases hlt:j<l.length
  ·rw[be hlt]
   simp(disch:=omega)only[↓qXX]
   obtain⟨a,ha⟩:=bg hlt
   have hl':=hl.pre (h':=H++[G]) ⟨[G],rfl⟩
   refine bh hl' rfl ha ?_
   unfold encC
   simp(disch:=omega)only[↓qXX]
   have hk:dE a∉(l.take j).map dE:=by
    intro hm
    rw[qcg]at hm
    have hnd:=hn
    have h3:(l.map dE)[j]? = some (dE a):=by rw[qas,ha];rfl
    have h4:l.map dE=(l.map dE).take j++dE a :: (l.map dE).drop (j+1):=by
     conv=>lhs;rw[←qbJ j (l.map dE)]
     rw[qbi (by rw[qaW];exact hlt)]
     congr 2
     rw[qax (by rw[qaW];exact hlt)]at h3
     exact qan h3
    rw[h4,List.nodup_append]at hnd
    exact hnd.2.2 _ hm _ qaB rfl
   refine dA (mu_set (C:=cc) (T:=aa) (n:=(H++[G]).length) (by kernel_rfl) (by kernel_rfl) g1 g2 hk) ?_
   rw[co (by omega)]
   have e:bR (H++[G]) [.set H.length (.map (es++[{ key:=kvU (dE a),val:=.bool true,born:=c }]) (c+1))]=H++[.o (.map (es++[{ key:=kvU (dE a),val:=.bool true,born:=c }]) (c+1))]:=by
    show(H++[G]).set H.length _=_
    simp
   rw[e]
   refine hself _ hlt ⟨es++[{ key:=kvU (dE a),val:=.bool true,born:=c }],c+1,by simp,?_⟩
   have ht:(l.take (j+1)).map dE=(l.take j).map dE++[dE a]:=by
    rw[qbc,ha,qbM];rfl
   rw[ht]
   exact g2.push _ _
  ·obtain rfl:j=l.length:=by omega
   rw[bc (qal _)]
   simp(disch:=omega)only[↓qXX]
   refine⟨by trivial,G,rfl,?_⟩
   rw[qbr]at g2
   exact⟨es,c,g1,g2⟩)
 exact⟨G,h1,hS⟩
def encM(m:Mv):List Value:=[.int .u8 (Int.ofNat m.1),.int .i64 m.2.1,.int .i64 m.2.2]
theorem bD(m:Mv):(encM m).length=3:=rfl
def acM(w:Nat)(l:List Crs)(g:Mv)(c n e:Nat):Mv:=if isCr l (min c n) e then aY (ofM (lnC3 (clN w (min c n)) e)) g else g
theorem acM_ok{w v:Nat}(h:Sh w v){l:List Crs}{c e n:Nat}(hc:c<4*w*v)(he:e<3)(hn:nbr w v c e=some n){k:Int}{g:Mv}(hg:okM k g)(hk:0<=k):okM (k+20) (acM w l g c n e):=by
 unfold acM
 obtain⟨_,h2⟩:=tJ h hc he hn
 split
 ·rw[h2]
  have hl:=ln_ok h hc he
  have:=dg (vp (n:=10) ⟨hl.2.2.1,hl.2.2.2⟩) hg
  exact cp this (by omega)
 ·exact cp hg (by omega)
theorem mN{h:HL}{p:Value}{cs:List Value}{K:List Value->Prop}{n:Nat}(hp:Ptr h p cs)(hn:cs.length=n)(hk:K cs):P1.peek (.lg cc n p) h (@hid _ ⟨K⟩):=fv (hp.lg hn) hk
theorem vu{h:HL}{p:Value}{cs ds:List Value}{K:List Value->Prop}{o n:Nat}(hp:Ptr h p cs)(hn:o+n<=cs.length)(hd:ds=(cs.drop o).take n)(hk:K ds) :
  P1.opt (fdP o p) (@hid _ ⟨λy=>P1.chk y (@hid _ ⟨P1.peek (.lg cc n y) h (@hid _ ⟨K⟩)⟩)⟩):=by
 subst hd
 obtain⟨q,h3,h4⟩:=hp.fd o n hn
 refine aq h3 (bf h4.good (fv (h4.lg ?_) hk))
 rw[qaI,qbF];omega
theorem across_c{w v:Nat}(hs:Sh w v){l:List Crs}{h:HL}{x pp pm po sl:Value}{mid:Nat}{G:List Mv}(hP:Ptr h pp [.int .i64 (.ofNat w),.int .i64 (.ofNat v),x])(hM:Ptr h pm [.map (some mid)])(hS:SetM h mid l)(hO:Ptr h po [sl])(hG:LsH h sl 3 encM G)
  {c e n:Nat} (hc:c<4*w*v) (he:e<3) (hn:nbr w v c e=some n) {g:Mv} (hg:G[c]? = some g) {k:Int} (hk:okM k g) (hk0:0<=k/\k<=16000) :
  aB cc ab 109 [.i (.ofNat c),.i (.ofNat e),.v pp,.v pm,.v po] (absH aa h) (mvl (acM w l g c n e)) (absH aa h):=by
 obtain⟨es,c0,m1,m2⟩:=hS
 have ht:=kF w v hs.1 hs.2.1 hs.2.2.1 hs.2.2.2
 obtain⟨hu,hln⟩:=tJ hs hc he hn
 have hlk:=ln_ok hs hc he
 rw[←hln]at hlk
 have hname:=nameIn ht hc he
 unfold nameN at hname
 rw[hn]at hname
 simp only at hname
 obtain⟨rs,h',h1,rfl,rfl⟩:=x109 (K:=λrs h'=>rs=mvl (acM w l g c n e)/\h'=h) (H:=h) (glsI (glsI (glsV hP.good (glsV hM.good (glsV hO.good gls0))))) (by
  unfold f109;simp only[qxh]
  simp(disch:=omega)only[↓qXX]
  refine vu (ds:=[.int .i64 (.ofNat w),.int .i64 (.ofNat v)]) hP (by simp) rfl ?_
  simp(disch:=omega)only[↓qXX]
  refine ae hname ?_
  simp(disch:=omega)only[↓qXX]
  refine mN hM rfl ?_
  simp(disch:=omega)only[↓qXX]
  refine bf rfl ?_
  simp(disch:=omega)only[↓qXX]
  refine fv (lu_set (C:=cc) (T:=aa) (by kernel_rfl) (by kernel_rfl) m1 m2 (Int.ofNat (min c n),Int.ofNat e)) ?_
  simp(disch:=omega)only[↓qXX]
  unfold acM isCr
  by_cases hcr:((Int.ofNat (min c n),Int.ofNat e):Ku)∈l.map dE
  ·rw[decide_eq_true hcr]
   simp(disch:=omega)only[↓qXX,qaR,if_true]
   refine vu (ds:=[.int .i64 (.ofNat w),.int .i64 (.ofNat v)]) hP (by simp) rfl ?_
   simp(disch:=omega)only[↓qXX]
   refine ae (ln_c hs hu) ?_
   simp(disch:=omega)only[↓qXX]
   refine ae (mlof_c ⟨hlk.1,hlk.2.1⟩ ⟨by omega,by omega⟩) ?_
   simp only[mvl,qaD,qaC]
   simp(disch:=omega)only[↓qXX]
   refine mN hO rfl ?_
   simp(disch:=omega)only[↓qXX]
   refine bf hG.good ?_
   simp(disch:=omega)only[↓qXX]
   refine bh hG rfl hg ?_
   unfold encM
   simp(disch:=omega)only[↓qXX]
   refine ae (then_c (vp (n:=10) ⟨hlk.2.2.1,hlk.2.2.2⟩) hk (by omega)) ?_
   simp only[mvl,qaD,qaC]
   simp(disch:=omega)only[↓qXX]
   exact⟨by trivial,by trivial⟩
  ·rw[decide_eq_false hcr]
   simp(disch:=omega)only[↓qXX,qbE,qaj,if_false]
   refine mN hO rfl ?_
   simp(disch:=omega)only[↓qXX]
   refine bf hG.good ?_
   simp(disch:=omega)only[↓qXX]
   refine bh hG rfl hg ?_
   unfold encM
   simp(disch:=omega)only[↓qXX]
   exact⟨by trivial,by trivial⟩)
 exact h1
set_option maxHeartbeats 16000000
theorem callv_cap{g:FuncId}{sg:Sig}{cap:List Value}{ls rs:List Lf}{H H':List HObj}{args:List Value}(hc:aB cc ab g ls H rs H')(hs:ab g=some sg)(xs:List S0)(h1:bJ xs sg.ps=true)(h2:bL xs=ls)(h3:af xs=args++cap) :
  sR cc (.func (.func g) ⟨[]⟩ ⟨cap⟩) args sg.rs H rs H':=by
 obtain⟨sg',xs',ys,c1,c2,c3,c4⟩:=hc
 rw[hs]at c1
 cases c1
 obtain⟨w1,_⟩:=cL c2.1 h1 (c2.2.1.trans h2.symm)
 rw[w1,h3]at c4
 exact⟨ys,c3,.inl ⟨g,⟨[]⟩,⟨cap⟩,rfl,by simpa using c4⟩⟩
theorem fK{α:Type}{e:Nat}{enc:α->List Value}(henc:∀a,(enc a).length=e){h:HL}{id cx len:Nat}{l:List α}{i:Nat}{a:α}{n:Int}{new:List Value}{K:List Value->HL->Prop}(hg:h[id]? = some (.o (.cells (l.flatMap enc) e true)))(hn:n=Int.ofNat i)(hi:i<l.length)(hlen:l.length=len)(hnew:new=enc a)(hk:K [] (putE h id e enc (l.set i a))) :
  P1.opt (idS e (.slice (some ⟨id,0,tag e⟩) len cx) n) (@hid _ ⟨λx=>P1.heap (.st x new) h (@hid _ ⟨K⟩)⟩):=by
 have hp:putE h id e enc l=h:=ng hg
 have:=r_set (C:=cc) (Sg:=ab) (T:=aa) (h:=h) (id:=id) (cx:=cx) (len:=len) (l:=l) henc (bk hg) hn hi hlen hnew hk
 rw[hp]at this
 exact this
theorem cJ{α:Type}{h:HL}{id e j:Nat}{enc:α->List Value}{l:List α}(hj:j≠id):(putE h id e enc l)[j]? = h[j]?:=by
 unfold putE
 rw[qat (qbZ hj)]
def encN(n:Nat):List Value:=[.int .i64 (Int.ofNat n)]
theorem uQ(n:Nat):(encN n).length=1:=rfl
def encT(t:Bool):List Value:=[.bool t]
theorem gA(t:Bool):(encT t).length=1:=rfl
theorem iE(q:List Nat):(q.flatMap encN).length=q.length:=by
 rw[aL (e:=1) (enc:=encN) λa _=>uQ a,qcC]
def WQ(b:Nat)(h:HL)(v:Value)(q:List Nat):Prop:=∃id off cx vs,v = .slice (some ⟨id,off,tag 1⟩) q.length cx/\b<=id/\h[id]? = some (.o (.cells vs 1 true))/\cut vs off (q.length*1)=some (q.flatMap encN)/\(cx=0∨cx=q.length+1)
theorem WQ.ls{b:Nat}{h:HL}{v:Value}{q:List Nat}(hw:WQ b h v q):LsH h v 1 encN q:=by
 obtain⟨id,off,cx,vs,rfl,h1,h2,h3,_⟩:=hw
 exact⟨λa _=>uQ a,by rw[iE,qcC],.inr ⟨id,off,cx,vs,true,rfl,h2,h3⟩⟩
theorem WQ.good{b:Nat}{h:HL}{v:Value}{q:List Nat}(hw:WQ b h v q):aP v=true:=hw.ls.good
theorem WQ.keep{b:Nat}{h h':HL}{v:Value}{q:List Nat}(hw:WQ b h v q)(hk:∀(j:Nat) o,b<=j->h[j]? = some o->h'[j]? = some o):WQ b h' v q:=by
 obtain⟨id,off,cx,vs,h0,h1,h2,h3⟩:=hw
 exact⟨id,off,cx,vs,h0,h1,hk _ _ h1 h2,h3⟩
theorem r_tail{b:Nat}{h:HL}{v:Value}{a:Nat}{q:List Nat}{K:Value->Prop}(hw:WQ b h v (a :: q))(hk:∀v',WQ b h v' q->aP v'=true->K v'):P1.opt (slS 1 v (some 1) none none) (@hid _ ⟨K⟩):=by
 obtain⟨id,off,cx,vs,rfl,h1,h2,h3,h4⟩:=hw
 have hr:slS 1 (.slice (some ⟨id,off,tag 1⟩) (a :: q).length cx) (some 1) none none=some (.slice (some ⟨id,off+1,tag 1⟩) q.length (cx - 1)):=by
  unfold slS
  have e1:¬(tag 1≠some 1/\tag 1≠tag 1):=by simp
  simp only[if_neg e1]
  have e2:(0:Int)<=(some (1:Int)).getD 0/\(some (1:Int)).getD 0<=(none:Option Int).getD ((a :: q).length:Int)/\cC (a :: q).length cx none none:=by
   refine⟨by simp,?_,?_⟩
   ·simp only[qbm,qdi,qaF];omega
   ·unfold cC
    left;simp
  rw[if_pos e2]
  rw[dO,dO,dO]
  simp[bz]
 refine aq hr (hk _ ⟨id,off+1,cx - 1,vs,rfl,h1,h2,?_,?_⟩ ?_)
 ·have:=th (h3:cut vs off ((a :: q).length*1)=some _) (o:=1) (k:=q.length*1) (by simp only[qaF];omega)
  rw[this]
  simp only[qbK,encN,qaD,qaC,qbH,qbb,qcC]
  rw[←iE q]
  congr 1
  exact qbr
 ·rcases h4 with h4|h4
  ·left;omega
  ·right;simp only[qaF]at h4;omega
 ·simp[aP,noLoc,bb,bP,bo,aU,aD,tag]
theorem r_apQ{b:Nat}{h:HL}{v:Value}{q:List Nat}{n m:Nat}{new:List Value}{K:List Value->HL->Prop}(hw:WQ b h v q)(hbh:b<=h.length)(hm:m=h.length)(hnew:new=encN n)(hq:q.length<=1000)
  (hk:∀v' h',WQ b h' v' (q++[n])->aP v'=true->(∀(j:Nat) o,j<b->h[j]? = some o->h'[j]? = some o)->h.length<=h'.length->K [v'] h') :
  P1.heap (.ap cc 1 8 v (.slice (some ⟨m,0,some 11⟩) 1 2)) (h++[.o (.cells new 1 true)]) (@hid _ ⟨K⟩):=by
 subst hm hnew
 obtain⟨id,off,cx,vs,rfl,h1,h2,h3,h4⟩:=hw
 have hlt:=bk h2
 have hx:SlC (h++[HO.o (.cells (encN n) 1 true)]) (.slice (some ⟨h.length,0,tag 1⟩) 1 2) 1 1 (encN n):=⟨rfl,.inr ⟨h.length,0,2,encN n,true,rfl,by simp,Sx.cut_all rfl⟩⟩
 have hg:(h++[HO.o (.cells (encN n) 1 true)])[id]? = some (.o (.cells vs 1 true)):=by rw[qae hlt];exact h2
 have hsz:bZ (q.length+1) 8=true:=by
  unfold bZ
  rw[qbT (by omega),qbT (by omega)];rfl
 have gd:∀i,aP (.slice (some ⟨i,0,tag 1⟩) (q.length+1) 0)=true:=λi=>by simp[aP,noLoc,bb,bP,bo,aU,aD,tag]
 have hcl:(q.flatMap encN++encN n)=(q++[n]).flatMap encN:=by simp
 have hlen:(q++[n]).length=q.length+1:=by simp
 rcases h4 with rfl|rfl
 ·have hrun:apG cc 1 8 (.slice (some ⟨id,off,tag 1⟩) q.length 0) (.slice (some ⟨h.length,0,tag 1⟩) 1 2) (getH aa (h++[HO.o (.cells (encN n) 1 true)])) (h++[HO.o (.cells (encN n) 1 true)]).length=some ([.set id .dead,.push (.cells (q.flatMap encN++encN n) 1 true)],[.slice (some ⟨(h++[HO.o (.cells (encN n) 1 true)]).length,0,tag 1⟩) (q.length+1) 0]):=by
   unfold apG
   rw[vQ hx]
   simp only[ne_eq,not_true_eq_false,if_false]
   rw[cw hg]
   simp only[ne_eq,not_true_eq_false,if_false]
   rw[h3]
   simp only[qde]
   rw[if_neg (by omega),if_pos hsz]
  refine dA (show(Hp.ap cc 1 8 (.slice (some ⟨id,off,tag 1⟩) q.length 0) (.slice (some ⟨h.length,0,tag 1⟩) 1 2)).run _ _=_ from hrun) ?_
  refine hk _ _ ⟨(h++[HO.o (.cells (encN n) 1 true)]).length,0,0,q.flatMap encN++encN n,by rw[hlen],by simp;omega,?_,?_,.inl rfl⟩ (gd _) (λj o hj ho=>?_) ?_
  ·show(((h++[HO.o (.cells (encN n) 1 true)]).set id (.o .dead))++[HO.o (.cells (q.flatMap encN++encN n) 1 true)])[_]? = _
   rw[qak (by simp)]
   simp
  ·rw[hcl,hlen]
   exact Sx.cut_all (by rw[iE,hlen,qcC])
  ·show(((h++[HO.o (.cells (encN n) 1 true)]).set id (.o .dead))++[HO.o (.cells (q.flatMap encN++encN n) 1 true)])[j]? = _
   have:=bk ho
   rw[qae (by simp;omega),qat (by omega),qae this]
   exact ho
  ·show h.length<=(((h++[HO.o (.cells (encN n) 1 true)]).set id (.o .dead))++[HO.o (.cells (q.flatMap encN++encN n) 1 true)]).length
   simp;omega
 ·have hrun:apG cc 1 8 (.slice (some ⟨id,off,tag 1⟩) q.length (q.length+1)) (.slice (some ⟨h.length,0,tag 1⟩) 1 2) (getH aa (h++[HO.o (.cells (encN n) 1 true)])) (h++[HO.o (.cells (encN n) 1 true)]).length=some ([.push (.cells (q.flatMap encN++encN n) 1 true)],[.slice (some ⟨(h++[HO.o (.cells (encN n) 1 true)]).length,0,tag 1⟩) (q.length+1) 0]):=by
   unfold apG
   rw[vQ hx]
   simp only[ne_eq,not_true_eq_false,if_false]
   rw[cw hg]
   simp only[ne_eq,not_true_eq_false,if_false]
   rw[h3]
   simp only
   rw[if_neg (by omega),if_pos hsz]
  refine dA (show(Hp.ap cc 1 8 (.slice (some ⟨id,off,tag 1⟩) q.length (q.length+1)) (.slice (some ⟨h.length,0,tag 1⟩) 1 2)).run _ _=_ from hrun) ?_
  refine hk _ _ ⟨(h++[HO.o (.cells (encN n) 1 true)]).length,0,0,q.flatMap encN++encN n,by rw[hlen],by simp;omega,?_,?_,.inl rfl⟩ (gd _) (λj o hj ho=>?_) ?_
  ·show((h++[HO.o (.cells (encN n) 1 true)])++[HO.o (.cells (q.flatMap encN++encN n) 1 true)])[_]? = _
   rw[qak (by simp)]
   simp
  ·rw[hcl,hlen]
   exact Sx.cut_all (by rw[iE,hlen,qcC])
  ·show((h++[HO.o (.cells (encN n) 1 true)])++[HO.o (.cells (q.flatMap encN++encN n) 1 true)])[j]? = _
   have:=bk ho
   rw[qae (by simp;omega),qae this]
   exact ho
  ·show h.length<=((h++[HO.o (.cells (encN n) 1 true)])++[HO.o (.cells (q.flatMap encN++encN n) 1 true)]).length
   simp
structure RS(H h:HL)(w v:Nat)(x:Value)(l:List Crs)(A:List Mv)(B:List Bool):Prop where
 pre:Pre H h
 len:H.length+6<=h.length
 p:h[H.length]? = some (.o (.cells [.int .i64 (.ofNat w),.int .i64 (.ofNat v),x] 3 true))
 mp:SetM h (H.length+1) l
 mv:h[H.length+2]? = some (.o (.cells [.map (some (H.length+1))] 1 true))
 ol:h[H.length+3]? = some (.o (.cells (A.flatMap encM) 3 true))
 ov:h[H.length+4]? = some (.o (.cells [.slice (some ⟨H.length+3,0,tag 3⟩) (4*w*v) (4*w*v+1)] 1 true))
 kn:h[H.length+5]? = some (.o (.cells (B.flatMap encT) 1 true))
 la:A.length=4*w*v
 lb:B.length=4*w*v
section
variable {H h:HL} {w v:Nat} {x:Value} {l:List Crs} {A:List Mv} {B:List Bool}
abbrev ptrB(b:Nat):Value:=.pointer (some ⟨b,0,none⟩)
theorem eZ{h:HL}{b e:Nat}{cs:List Value}(hb:h[b]? = some (.o (.cells cs e true))):Ptr h (ptrB b) cs:=⟨b,0,cs,e,true,rfl,hb,Sx.cut_all rfl⟩
theorem RS.lsA(hr:RS H h w v x l A B):LsH h (.slice (some ⟨H.length+3,0,tag 3⟩) (4*w*v) (4*w*v+1)) 3 encM A:=by
 have hl:=aL (e:=3) (enc:=encM) (l:=A) λa _=>bD a
 rw[←hr.la]
 exact⟨λa _=>bD a,hl,.inr ⟨_,0,_,_,true,rfl,hr.ol,Sx.cut_all hl⟩⟩
theorem RS.lsB(hr:RS H h w v x l A B):LsH h (.slice (some ⟨H.length+5,0,tag 1⟩) (4*w*v) (4*w*v+1)) 1 encT B:=by
 have hl:=aL (e:=1) (enc:=encT) (l:=B) λa _=>gA a
 rw[←hr.lb]
 exact⟨λa _=>gA a,hl,.inr ⟨_,0,_,_,true,rfl,hr.kn,Sx.cut_all hl⟩⟩
theorem RS.keep{h':HL}(hr:RS H h w v x l A B)(hk:∀(j:Nat) o,j<H.length+6->h[j]? = some o->h'[j]? = some o)(hl:h.length<=h'.length):RS H h' w v x l A B:=by
 obtain⟨es,c,m1,m2⟩:=hr.mp
 refine⟨?_,qbP hr.len hl,hk _ _ (by omega) hr.p,⟨es,c,hk _ _ (by omega) m1,m2⟩,hk _ _ (by omega) hr.mv,hk _ _ (by omega) hr.ol,hk _ _ (by omega) hr.ov,hk _ _ (by omega) hr.kn,hr.la,hr.lb⟩
 have hpre:=hr.pre
 refine⟨h'.drop H.length,?_⟩
 apply qaU
 intro i
 rcases qaw i H.length with hi|hi
 ·rw[qae hi]
  have e1:H[i]? = some H[i]:=qax hi
  rw[e1]
  exact hk _ _ (by omega) (hpre.get e1)
 ·rw[qak hi,qaZ,Nat.add_sub_cancel' hi]
theorem dw{α:Type}{id e:Nat}{enc:α->List Value}{L:List α}(hp:Pre H h)(hid:H.length<=id):Pre H (putE h id e enc L):=hp.set hid _
theorem vG{α:Type}{h:HL}{id e:Nat}{enc:α->List Value}{L:List α}:(putE h id e enc L).length=h.length:=by simp[putE]
theorem RS.putA(hr:RS H h w v x l A B){A':List Mv}(ha:A'.length=A.length):RS H (putE h (H.length+3) 3 encM A') w v x l A' B:=by
 obtain⟨es,c,m1,m2⟩:=hr.mp
 have hl:=hr.len
 exact⟨dw hr.pre (by omega),by rw[vG];exact hl,by rw[cJ (by omega)];exact hr.p,⟨es,c,by rw[cJ (by omega)];exact m1,m2⟩,by rw[cJ (by omega)];exact hr.mv,cQ (by omega),by rw[cJ (by omega)];exact hr.ov,by rw[cJ (by omega)];exact hr.kn,by rw[ha];exact hr.la,hr.lb⟩
theorem RS.putB(hr:RS H h w v x l A B){B':List Bool}(hb:B'.length=B.length):RS H (putE h (H.length+5) 1 encT B') w v x l A B':=by
 obtain⟨es,c,m1,m2⟩:=hr.mp
 have hl:=hr.len
 exact⟨dw hr.pre (by omega),by rw[vG];exact hl,by rw[cJ (by omega)];exact hr.p,⟨es,c,by rw[cJ (by omega)];exact m1,m2⟩,by rw[cJ (by omega)];exact hr.mv,by rw[cJ (by omega)];exact hr.ol,by rw[cJ (by omega)];exact hr.ov,cQ (by omega),hr.la,by rw[hb];exact hr.lb⟩
end
def jf(w v:Nat)(l:List Crs)(G:Nat->Mv):Prop:=∀c e n,c<4*w*v->e<3->nbr w v c e=some n->G n=acM w l (G c) c n e
def cntT:List Bool->Nat
 | []=>0
 |b :: l=>(if b then 1 else 0)+cntT l
theorem jl:∀l:List Bool,cntT l<=l.length
 | []=>qal _
 |b :: l=>by
  have:=jl l
  simp only[cntT,qaF]
  split<;>omega
theorem fk:∀ {l:List Bool} {n:Nat},l[n]? = some false->cntT (l.set n true)=cntT l+1
 | [],n,h=>by simp at h
 |b :: l,0,h=>by
  simp only[qa6,qau]at h
  subst h
  simp[cntT];omega
 |b :: l,n+1,h=>by
  simp only[qbN]at h
  have:=fk h
  simp only[List.set_cons_succ,cntT,this];omega
structure JS(w v:Nat)(l:List Crs)(A:List Mv)(B:List Bool)(q:List Nat)(D:Nat->Nat->Prop):Prop where
 a0:A[0]? = some idM
 b0:B[0]? = some true
 q1:∀c∈q,B[c]? = some true
 dn:∀c e n,D c e->c<4*w*v->e<3->nbr w v c e=some n->B[c]? = some true->c∉q->B[n]? = some true/\∃a,A[c]? = some a/\A[n]? = some (acM w l a c n e)
 bd:∀(c:Nat) a,B[c]? = some true->A[c]? = some a->okM (20*(cntT B:Int)) a
 un:∀G,jf w v l G->G 0=idM->∀(c:Nat) a,B[c]? = some true->A[c]? = some a->a=G c
structure GoodA(w v:Nat)(l:List Crs)(A:List Mv):Prop where
 len:A.length=4*w*v
 a0:A[0]? = some idM
 ok:∀a∈A,okM 2000 a
 cons:∀c e n a,c<4*w*v->e<3->nbr w v c e=some n->A[c]? = some a->A[n]? = some (acM w l a c n e)
section
variable {w v:Nat} {l:List Crs} {A:List Mv} {B:List Bool} {q:List Nat}
theorem JS.start(hs:Sh w v):JS w v l (List.replicate (4*w*v) idM) ((List.replicate (4*w*v) false).set 0 true) [0] λ_ _=>True:=by
 have hN:0<4*w*v:=by
  have h1:=hs.1
  have h2:=hs.2.2.1
  have:0<w*v:=Nat.mul_pos h1 h2
  rw[qdA];omega
 have kn:∀c,((List.replicate (4*w*v) false).set 0 true)[c]? = some true->c=0:=by
  intro c hc
  by_cases h0:c=0
  ·exact h0
  ·rw[qat (qbZ h0),qaP]at hc
   split at hc<;>cases hc
 refine⟨by rw[qaP,if_pos hN],by rw[qaE (by simpa using hN)],λc hc=>?_,λc e n _ _ _ _ hb hq=>?_,λc a hb ha=>?_,λG hG h0 c a hb ha=>?_⟩
 ·simp only[qay]at hc
  subst hc
  rw[qaE (by simpa using hN)]
 ·exact absurd (by rw[kn c hb];simp) hq
 ·have:=kn c hb
  subst this
  rw[qaP,if_pos hN]at ha
  cases ha
  exact okM_id (by omega)
 ·have:=kn c hb
  subst this
  rw[qaP,if_pos hN]at ha
  cases ha
  exact h0.symm
theorem JS.pop{c0:Nat}(h:JS w v l A B (c0 :: q) λ_ _=>True):JS w v l A B q λc e=>c=c0->e<0:=by
 refine⟨h.a0,h.b0,λc hc=>h.q1 c (qao _ hc),λc e n hd hc he hn hb hq=>?_,h.bd,h.un⟩
 by_cases hcc:c=c0
 ·have:=hd hcc;omega
 ·exact h.dn c e n trivial hc he hn hb λhm=>by
   rcases qam.1 hm with hm|hm
   ·exact hcc hm
   ·exact hq hm
theorem JS.skip{c0 j:Nat}(h:JS w v l A B q λc e=>c=c0->e<j)(hn:nbr w v c0 j=none):JS w v l A B q λc e=>c=c0->e<j+1:=by
 refine⟨h.a0,h.b0,h.q1,λc e n hd hc he hn' hb hq=>?_,h.bd,h.un⟩
 refine h.dn c e n (λhcc=>?_) hc he hn' hb hq
 have:=hd hcc
 rcases qaw e j with hlt|hge
 ·exact hlt
 ·obtain rfl:e=j:=by omega
  subst hcc
  rw[hn]at hn';cases hn'
theorem JS.seen{c0 j n:Nat}{a:Mv}(h:JS w v l A B q λc e=>c=c0->e<j)(hn:nbr w v c0 j=some n)(hb:B[n]? = some true)(ha:A[c0]? = some a)(hm:A[n]? = some (acM w l a c0 n j)):JS w v l A B q λc e=>c=c0->e<j+1:=by
 refine⟨h.a0,h.b0,h.q1,λc e n' hd hc he hn' hb' hq=>?_,h.bd,h.un⟩
 by_cases hcc:c=c0/\e=j
 ·obtain⟨rfl,rfl⟩:=hcc
  rw[hn]at hn';cases hn'
  exact⟨hb,a,ha,hm⟩
 ·exact h.dn c e n' (λhc'=>by have:=hd hc';have:e≠j:=λhe'=>hcc ⟨hc',he'⟩;omega) hc he hn' hb' hq
theorem JS.fresh(hs:Sh w v){c0 j n:Nat}{a:Mv}(h:JS w v l A B q λc e=>c=c0->e<j)(hla:A.length=4*w*v)(hlb:B.length=4*w*v)(hc0:c0<4*w*v)(hj:j<3)(hn:nbr w v c0 j=some n)(hb0:B[c0]? = some true)(hb:B[n]? = some false)(ha:A[c0]? = some a) :
  JS w v l (A.set n (acM w l a c0 n j)) (B.set n true) (q++[n]) λc e=>c=c0->e<j+1:=by
 obtain⟨g1,_,_,_,g5⟩:=mz hs hc0 hj hn
 have hBn:(B.set n true)[n]? = some true:=qaE (by omega)
 have hAn:(A.set n (acM w l a c0 n j))[n]? = some (acM w l a c0 n j):=qaE (by omega)
 have hB:∀c,c≠n->(B.set n true)[c]? = B[c]?:=λc hc=>qat (qbZ hc)
 have hA:∀c,c≠n->(A.set n (acM w l a c0 n j))[c]? = A[c]?:=λc hc=>qat (qbZ hc)
 have h0n:(0:Nat)≠n:=λe=>by have:=h.b0;rw[e,hb]at this;cases this
 have hok:okM (20*(cntT B:Int)) a:=h.bd c0 a hb0 ha
 refine⟨by rw[hA 0 h0n];exact h.a0,by rw[hB 0 h0n];exact h.b0,λc hc=>?_,λc e n' hd hc he hn' hbc hq=>?_,λc a' hbc hac=>?_,λG hG hG0 c a' hbc hac=>?_⟩
 ·rcases qaG.1 hc with hc|hc
  ·have:=h.q1 c hc
   by_cases hcn:c=n
   ·rw[hcn];exact hBn
   ·rw[hB c hcn];exact this
  ·simp only[qay]at hc
   rw[hc];exact hBn
 ·have hcn:c≠n:=λe=>hq (by rw[e];simp)
  have hcq:c∉q:=λhm=>hq (qaN _ hm)
  rw[hB c hcn]at hbc
  by_cases hcc:c=c0/\e=j
  ·obtain⟨rfl,rfl⟩:=hcc
   rw[hn]at hn';cases hn'
   exact⟨hBn,a,by rw[hA c hcn];exact ha,hAn⟩
  ·obtain⟨d1,a1,d2,d3⟩:=h.dn c e n' (λhc'=>by have:=hd hc';have:e≠j:=λhe'=>hcc ⟨hc',he'⟩;omega) hc he hn' hbc hcq
   have hnn:n'≠n:=λe'=>by rw[e',hb]at d1;cases d1
   exact⟨by rw[hB n' hnn];exact d1,a1,by rw[hA c hcn];exact d2,by rw[hA n' hnn];exact d3⟩
 ·rw[fk hb]
  by_cases hcn:c=n
  ·rw[hcn,hAn]at hac
   cases hac
   exact cp (acM_ok hs hc0 hj hn hok (by omega)) (by omega)
  ·rw[hB c hcn]at hbc
   rw[hA c hcn]at hac
   exact cp (h.bd c a' hbc hac) (by omega)
 ·by_cases hcn:c=n
  ·rw[hcn,hAn]at hac
   cases hac
   rw[hcn,hG c0 j n hc0 hj hn,←h.un G hG hG0 c0 a hb0 ha]
  ·rw[hB c hcn]at hbc
   rw[hA c hcn]at hac
   exact h.un G hG hG0 c a' hbc hac
theorem JS.done{c0:Nat}(h:JS w v l A B q λc e=>c=c0->e<3):JS w v l A B q λ_ _=>True:=
 ⟨h.a0,h.b0,h.q1,λc e n _ hc he hn hb hq=>h.dn c e n (λ_=>he) hc he hn hb hq,h.bd,h.un⟩
theorem sh_N(hs:Sh w v):0<4*w*v/\4*w*v<=100:=by
 have h1:1*1<=w*v:=Nat.mul_le_mul hs.1 hs.2.2.1
 have h2:w*v<=5*5:=Nat.mul_le_mul hs.2.1 hs.2.2.2
 rw[qdA];omega
theorem JS.good(hs:Sh w v)(h:JS w v l A B [] λ_ _=>True)(hla:A.length=4*w*v)(hlb:B.length=4*w*v):GoodA w v l A:=by
 have hall:∀n,n<4*w*v->B[n]? = some true:=qo hs h.b0 λc e n hc he hn hb=>(h.dn c e n trivial hc he hn hb (by simp)).1
 have hN:=sh_N hs
 have hcnt:=jl B
 refine⟨hla,h.a0,λa hm=>?_,λc e n a hc he hn ha=>?_⟩
 ·obtain⟨i,hi⟩:=qaQ hm
  have:=bk hi
  exact cp (h.bd i a (hall i (by omega)) hi) (by omega)
 ·obtain⟨_,a',g1,g2⟩:=h.dn c e n trivial hc he hn (hall c hc) (by simp)
  rw[ha]at g1;cases g1
  exact g2
theorem JS.tear(hs:Sh w v){c0 j n:Nat}{a b:Mv}{D:Nat->Nat->Prop}(h:JS w v l A B q D)(hc0:c0<4*w*v)(hj:j<3)(hn:nbr w v c0 j=some n)(hb0:B[c0]? = some true)(hb:B[n]? = some true)(ha:A[c0]? = some a)(hbn:A[n]? = some b)(hne:b≠acM w l a c0 n j):¬ ∃G,jf w v l G/\G 0=idM:=by
 rintro⟨G,hG,hG0⟩
 refine hne ?_
 rw[h.un G hG hG0 n b hb hbn,hG c0 j n hc0 hj hn,←h.un G hG hG0 c0 a hb0 ha]
end
def left(B:List Bool)(q:List Nat):Nat:=q.length+(B.length - cntT B)
def tabCnt:Bool:=(List.range 5).all λw=>(List.range 5).all λv=>sO 108 [.i (.ofNat (w+1)),.i (.ofNat (v+1))] [.i (.ofNat (4*(w+1)*(v+1)))]
theorem cnt_all:tabCnt=true:=by kernel_rfl
theorem cnt_c{w v:Nat}(h:Sh w v):Cc 108 [.i (.ofNat w),.i (.ofNat v)] [.i (.ofNat (4*w*v))]:=by
 have h5:=qab.1 cnt_all (w - 1) (qai.2 (by have:=h.2.1;have:=h.1;omega))
 have h6:=qab.1 h5 (v - 1) (qai.2 (by have:=h.2.2.1;have:=h.2.2.2;omega))
 rw[show w - 1+1=w by have:=h.1;omega,show v - 1+1=v by have:=h.2.2.1;omega]at h6
 exact iq h6 rfl (by kernel_rfl) rfl
theorem r_st1{h:HL}{b e:Nat}{vs new:List Value}{K:List Value->HL->Prop}(hb:h[b]? = some (.o (.cells vs e true)))(hl:new.length=vs.length)(hk:K [] (h.set b (.o (.cells new e true)))):P1.heap (.st (ptrB b) new) h (@hid _ ⟨K⟩):=by
 have hrun:(Hp.st (ptrB b) new).run (getH aa h) h.length=some ([.set b (.cells new e true)],[]):=by
  show stP (ptrB b) new (getH aa h) h.length=_
  unfold stP
  simp only
  rw[cw hb]
  simp only
  unfold splice
  rw[if_pos (by omega)]
  simp[hl]
 exact dA hrun hk
theorem lE{h:HL}{a b:HO}:(h++[a]).set h.length b=h++[b]:=by simp
theorem bj{h:HL}{a:HO}:(h++[a])[h.length]? = some a:=by simp
theorem eqsM{a b:Mv}{K:Bool->Prop}:P1.eqs [(.i (Int.ofNat a.1),.i (Int.ofNat b.1)),(.i a.2.1,.i b.2.1),(.i a.2.2,.i b.2.2)] (@hid _ ⟨K⟩)=K (decide (a=b)):=by
 show K (ca _)=_
 have e:ca [(.i (Int.ofNat a.1),.i (Int.ofNat b.1)),(.i a.2.1,.i b.2.1),(.i a.2.2,.i b.2.2)]=decide (a=b):=by
  rw[qbD]
  simp[ca,fY,qc4]
  intro _ _
  omega
 rw[e]
def RelOk(w v:Nat)(l:List Crs)(H:HL)(rs:List Lf)(h':HL):Prop:=
 Pre H h'/\((∃A id,rs=[.v (.slice (some ⟨id,0,tag 3⟩) (4*w*v) (4*w*v+1)),.i 0]/\H.length<=id/\h'[id]? = some (.o (.cells (A.flatMap encM) 3 true))/\GoodA w v l A)∨
  (rs=[.v (.slice none 0 0),.i 11]/\¬ ∃G,jf w v l G/\G 0=idM))
theorem wU{w v:Nat}(hs:Sh w v){l:List Crs}(hk:(l.map dE).Nodup)(hl0:l.length<=1000){H:HL}{x:Value}(hl:LsH H x 3 encC l) :
  ∃rs h',aB cc ab 71 [.i (.ofNat w),.i (.ofNat v),.v x] (absH aa H) rs (absH aa h')/\RelOk w v l H rs h':=by
 have hN:=sh_N hs
 obtain⟨rs,h',h1,h2⟩:=x71 (K:=λrs h'=>RelOk w v l H rs h') (H:=H) (glsI (glsI (glsV hl.good gls0))) (by
  unfold f71;simp only[qxh]
  simp(disch:=omega)only[↓qXX]
  refine mN (eZ bj) rfl ?_
  simp(disch:=omega)only[↓qXX]
  refine bf hl.good ?_
  simp(disch:=omega)only[↓qXX]
  obtain⟨M,hcr,hSM⟩:=creased_c (w:=.ofNat w) (v:=.ofNat v) (hl.pre (h':=H++[HO.o (.cells [.int .i64 (.ofNat w),.int .i64 (.ofNat v),x] 3 true)]) ⟨_,rfl⟩) hk hl0
  rw[show(H++[HO.o (.cells [.int .i64 (.ofNat w),.int .i64 (.ofNat v),x] 3 true)]).length=H.length+1 by simp]at hcr hSM
  have k0:(H++[HO.o (.cells [.int .i64 (.ofNat w),.int .i64 (.ofNat v),x] 3 true)]++[M]).length=H.length+2:=by simp
  have kp:(H++[HO.o (.cells [.int .i64 (.ofNat w),.int .i64 (.ofNat v),x] 3 true)]++[M])[H.length]? = some (HO.o (.cells [.int .i64 (.ofNat w),.int .i64 (.ofNat v),x] 3 true)):=by simp
  have kH:Pre H (H++[HO.o (.cells [.int .i64 (.ofNat w),.int .i64 (.ofNat v),x] 3 true)]++[M]):=⟨_,qaM ..⟩
  refine aj hcr ?_
  clear hcr
  generalize H++[HO.o (.cells [.int .i64 (.ofNat w),.int .i64 (.ofNat v),x] 3 true)]++[M]=h2 at *
  simp(disch:=omega)only[↓qXX]
  refine r_st1 bj rfl ?_
  rw[lE]
  have m0:(h2++[HO.o (.cells [.map (some (H.length+1))] 1 true)]).length=H.length+3:=by simp[k0]
  have mp:=kp |> (Pre.get (b:=h2++[HO.o (.cells [.map (some (H.length+1))] 1 true)]) ⟨_,rfl⟩)
  have mv:(h2++[HO.o (.cells [.map (some (H.length+1))] 1 true)])[H.length+2]? = some (HO.o (.cells [.map (some (H.length+1))] 1 true)):=by rw[←k0];exact bj
  have mH:Pre H (h2++[HO.o (.cells [.map (some (H.length+1))] 1 true)]):=kH.app _
  have mS:SetM (h2++[HO.o (.cells [.map (some (H.length+1))] 1 true)]) (H.length+1) l:=by
   obtain⟨es,c,a1,a2⟩:=hSM
   exact⟨es,c,Pre.get ⟨_,rfl⟩ a1,a2⟩
  rw[k0]
  generalize h2++[HO.o (.cells [.map (some (H.length+1))] 1 true)]=h3 at *
  clear kp kH hSM k0
  refine vu (p:=ptrB H.length) (cs:=[.int .i64 (.ofNat w),.int .i64 (.ofNat v),x]) (ds:=[.int .i64 (.ofNat w),.int .i64 (.ofNat v)]) (eZ mp) (by simp) rfl ?_
  simp(disch:=omega)only[↓qXX]
  refine ae (cnt_c hs) ?_
  simp(disch:=omega)only[↓qXX]
  refine aq (fq (by omega)) ?_
  simp(disch:=omega)only[↓qXX]
  rw[show(Int.ofNat (4*w*v)).toNat=4*w*v from rfl]
  have z0:HO.o (.cells (aJ [.int .u8 0,.int .i64 0,.int .i64 0] (4*w*v)) 3 true)=HO.o (.cells ((List.replicate (4*w*v) idM).flatMap encM) 3 true):=by
   rw[←da (enc:=encM) (z:=idM) (n:=4*w*v)]
   rfl
  rw[z0,m0]
  have n0:(h3++[HO.o (.cells ((List.replicate (4*w*v) idM).flatMap encM) 3 true)]).length=H.length+4:=by simp[m0]
  have np:=mp |> (Pre.get (b:=h3++[HO.o (.cells ((List.replicate (4*w*v) idM).flatMap encM) 3 true)]) ⟨_,rfl⟩)
  have nv:=mv |> (Pre.get (b:=h3++[HO.o (.cells ((List.replicate (4*w*v) idM).flatMap encM) 3 true)]) ⟨_,rfl⟩)
  have na:(h3++[HO.o (.cells ((List.replicate (4*w*v) idM).flatMap encM) 3 true)])[H.length+3]? = some (HO.o (.cells ((List.replicate (4*w*v) idM).flatMap encM) 3 true)):=by rw[←m0];exact bj
  have nH:Pre H (h3++[HO.o (.cells ((List.replicate (4*w*v) idM).flatMap encM) 3 true)]):=mH.app _
  have nS:SetM (h3++[HO.o (.cells ((List.replicate (4*w*v) idM).flatMap encM) 3 true)]) (H.length+1) l:=by
   obtain⟨es,c,a1,a2⟩:=mS
   exact⟨es,c,Pre.get ⟨_,rfl⟩ a1,a2⟩
  generalize h3++[HO.o (.cells ((List.replicate (4*w*v) idM).flatMap encM) 3 true)]=h4 at *
  clear mp mv mH mS m0
  refine r_st1 bj rfl ?_
  rw[lE]
  try simp(disch:=omega)only[↓qXX]
  refine mN (eZ bj) rfl ?_
  simp(disch:=omega)only[↓qXX]
  refine bf (by simp[aP,noLoc,bb,bP,bo,aU,aD]) ?_
  simp(disch:=omega)only[↓qXX]
  refine aq (x:=Int.ofNat (4*w*v)) rfl ?_
  refine aq (fq (by omega)) ?_
  simp(disch:=omega)only[↓qXX]
  rw[n0,show(Int.ofNat (4*w*v)).toNat=4*w*v from rfl]
  refine bf (by simp[aP,noLoc,bb,bP,bo,aU,aD]) ?_
  have o0:(h4++[HO.o (.cells [.slice (some ⟨H.length+3,0,some 13⟩) (4*w*v) (4*w*v+1)] 1 true)]).length=H.length+5:=by simp[n0]
  have op:=np |> (Pre.get (b:=h4++[HO.o (.cells [.slice (some ⟨H.length+3,0,some 13⟩) (4*w*v) (4*w*v+1)] 1 true)]) ⟨_,rfl⟩)
  have om:=nv |> (Pre.get (b:=h4++[HO.o (.cells [.slice (some ⟨H.length+3,0,some 13⟩) (4*w*v) (4*w*v+1)] 1 true)]) ⟨_,rfl⟩)
  have oa:=na |> (Pre.get (b:=h4++[HO.o (.cells [.slice (some ⟨H.length+3,0,some 13⟩) (4*w*v) (4*w*v+1)] 1 true)]) ⟨_,rfl⟩)
  have ov:(h4++[HO.o (.cells [.slice (some ⟨H.length+3,0,some 13⟩) (4*w*v) (4*w*v+1)] 1 true)])[H.length+4]? = some (HO.o (.cells [.slice (some ⟨H.length+3,0,some 13⟩) (4*w*v) (4*w*v+1)] 1 true)):=by rw[←n0];exact bj
  have oH:Pre H (h4++[HO.o (.cells [.slice (some ⟨H.length+3,0,some 13⟩) (4*w*v) (4*w*v+1)] 1 true)]):=nH.app _
  have oS:SetM (h4++[HO.o (.cells [.slice (some ⟨H.length+3,0,some 13⟩) (4*w*v) (4*w*v+1)] 1 true)]) (H.length+1) l:=by
   obtain⟨es,c,a1,a2⟩:=nS
   exact⟨es,c,Pre.get ⟨_,rfl⟩ a1,a2⟩
  generalize h4++[HO.o (.cells [.slice (some ⟨H.length+3,0,some 13⟩) (4*w*v) (4*w*v+1)] 1 true)]=h5 at *
  clear np nv na nH nS n0
  have z1:HO.o (.cells (aJ [.bool false] (4*w*v)) 1 true)=HO.o (.cells ((List.replicate (4*w*v) false).flatMap encT) 1 true):=by
   rw[←da (enc:=encT) (z:=false) (n:=4*w*v)]
   rfl
  rw[z1,o0]
  have r0:RS H (h5++[HO.o (.cells ((List.replicate (4*w*v) false).flatMap encT) 1 true)]) w v x l (List.replicate (4*w*v) idM) (List.replicate (4*w*v) false):=by
   obtain⟨es,c,a1,a2⟩:=oS
   exact⟨oH.app _,by simp[o0],Pre.get ⟨_,rfl⟩ op,⟨es,c,Pre.get ⟨_,rfl⟩ a1,a2⟩,Pre.get ⟨_,rfl⟩ om,Pre.get ⟨_,rfl⟩ oa,Pre.get ⟨_,rfl⟩ ov,by rw[←o0];exact bj,by simp,by simp⟩
  generalize h5++[HO.o (.cells ((List.replicate (4*w*v) false).flatMap encT) 1 true)]=h6 at *
  clear op om oa ov oH oS o0
  refine fK (enc:=encT) (l:=List.replicate (4*w*v) false) (i:=0) (a:=true) gA r0.kn rfl (by simpa using hN.1) (by simp) rfl ?_
  have r1:=r0.putB (B':=(List.replicate (4*w*v) false).set 0 true) (by simp)
  generalize putE h6 (H.length+5) 1 encT ((List.replicate (4*w*v) false).set 0 true)=h7 at *
  try simp(disch:=omega)only[↓qXX]
  have r2:RS H (h7++[HO.o (.cells [.int .i64 0] 1 true)]) w v x l (List.replicate (4*w*v) idM) ((List.replicate (4*w*v) false).set 0 true):=r1.keep (λj o _ ho=>Pre.get ⟨_,rfl⟩ ho) (by simp)
  have hw0:WQ (H.length+6) (h7++[HO.o (.cells [.int .i64 0] 1 true)]) (.slice (some ⟨h7.length,0,some 11⟩) 1 2) [0]:=⟨h7.length,0,2,_,rfl,r1.len,bj,Sx.cut_all rfl,.inr rfl⟩
  have hj0:=JS.start (l:=l) hs
  have hc0:[0].length<=cntT ((List.replicate (4*w*v) false).set 0 true):=by
   rw[fk (by rw[qaP,if_pos hN.1])]
   simp
  generalize h7++[HO.o (.cells [.int .i64 0] 1 true)]=h8 at *
  generalize Value.slice (some ⟨h7.length,0,some 11⟩) 1 2=v8 at *
  generalize List.replicate (4*w*v) idM=A0 at *
  generalize (List.replicate (4*w*v) false).set 0 true=B0 at *
  clear r0 r1
  refine jB (m:=left B0 [0]) (λm ls h'=>∃A B q vv,ls=[.v vv]/\RS H h' w v x l A B/\WQ (H.length+6) h' vv q/\JS w v l A B q (λ_ _=>True)/\q.length<=cntT B/\m=left B q) ⟨A0,B0,[0],v8,rfl,r2,hw0,hj0,hc0,rfl⟩ ?_
  clear r2 hw0 hj0 hc0
  rintro m ls h' ⟨A,B,q,vv,rfl,hr,hw,hj,hql,rfl⟩ self hself
  refine hidL ?_
  simp(disch:=omega)only[↓qXX]
  refine bY hw.ls ?_
  cases q with
  |nil=>
   rw[p_gtr_f (by show((List.length ([]:List Nat):Nat):Int)<=0;simp)]
   simp(disch:=omega)only[↓qXX]
   refine mN (eZ hr.ov) rfl ?_
   simp(disch:=omega)only[↓qXX]
   refine bf hr.lsA.good ?_
   simp(disch:=omega)only[↓qXX]
   exact⟨hr.pre,.inl ⟨A,H.length+3,rfl,by omega,hr.ol,hj.good hs hr.la hr.lb⟩⟩
  |cons c0 q=>
   rw[p_gtr_t (by show(0:Int)<((List.length (c0 :: q):Nat):Int);simp only[qaF];omega)]
   simp(disch:=omega)only[↓qXX]
   refine bh hw.ls (i:=0) rfl rfl ?_
   unfold encN
   simp(disch:=omega)only[↓qXX]
   refine r_tail hw ?_
   intro v1 hw1 hv1
   refine bf hv1 ?_
   have hb0:B[c0]? = some true:=hj.q1 c0 qaB
   have hcN:c0<4*w*v:=by have:=bk hb0;have:=hr.lb;omega
   have hcl:=jl B
   refine cm (σ:=Value×HL×List Mv×List Bool×List Nat) 3 (λj s=>[.v s.1,.i (Int.ofNat j)]) (λ_ s=>s.2.1) (λj s=>RS H s.2.1 w v x l s.2.2.1 s.2.2.2.1/\WQ (H.length+6) s.2.1 s.1 s.2.2.2.2/\JS w v l s.2.2.1 s.2.2.2.1 s.2.2.2.2 (λc e=>c=c0->e<j)/\s.2.2.2.2.length<=cntT s.2.2.2.1/\left s.2.2.2.1 s.2.2.2.2=left B q/\s.2.2.2.1[c0]? = some true) (j0:=0) (s0:=(v1,h',A,B,q)) rfl rfl (by omega) ⟨hr,hw1,hj.pop,by show q.length<=cntT B;simp only[qaF]at hql;omega,rfl,hb0⟩ ?_
   clear hr hw hj hw1 hv1 hb0
   rintro j ⟨v2,h2',A2,B2,q2⟩ hj3 ⟨hr,hw,hj,hq2,hleft,hb0⟩ self2 hself2
   simp only at hr hw hj hq2 hleft hb0 hself2
   simp(disch:=omega)only[↓qXX]
   by_cases hlt:j<3
   case neg=>
    obtain rfl:j=3:=by omega
    rw[p_lss_f (by show(3:Int)<=((3:Nat):Int);omega)]
    simp(disch:=omega)only[↓qXX]
    refine hself (left B q) _ _ ?_ ⟨A2,B2,q2,v2,rfl,hr,hw,hj.done,hq2,hleft.symm⟩
    unfold left
    simp only[qaF];omega
   rw[p_lss_t (by show((j:Nat):Int)<3;omega)]
   simp(disch:=omega)only[↓qXX]
   have next:∀(v3:Value) (h3':HL) (A3:List Mv) (B3:List Bool) (q3:List Nat),RS H h3' w v x l A3 B3->WQ (H.length+6) h3' v3 q3->JS w v l A3 B3 q3 (λc e=>c=c0->e<j+1)->q3.length<=cntT B3->left B3 q3=left B q->B3[c0]? = some true->self2 [.v v3,.i (Int.ofNat j+1)] h3':=λv3 h3' A3 B3 q3 a1 a2 a3 a4 a5 a6=>hself2 (v3,h3',A3,B3,q3) hlt ⟨a1,a2,a3,a4,a5,a6⟩
   have hadd:∀K:Int->Prop,P1.ari .add .u8 (Int.ofNat j) 1 (@hid _ ⟨K⟩)=K (Int.ofNat j+1):=λK=>p_add8 (by show(0:Int)<=(j:Int)+1;omega) (by show(j:Int)+1<=255;omega)
   refine vu (p:=ptrB H.length) (cs:=[.int .i64 (.ofNat w),.int .i64 (.ofNat v),x]) (ds:=[.int .i64 (.ofNat w),.int .i64 (.ofNat v)]) (eZ hr.p) (by simp) rfl ?_
   simp(disch:=omega)only[↓qXX]
   refine ae (nb_c hs hcN hlt) ?_
   have hcl2:=jl B2
   have hlb2:=hr.lb
   cases hnb:nbr w v c0 j with
   |none=>
    unfold vl
    rw[hnb]
    simp(disch:=omega)only[↓qXX]
    rw[hadd]
    exact next _ _ _ _ _ hr hw (hj.skip hnb) hq2 hleft hb0
   |some n=>
    unfold vl
    rw[hnb]
    simp(disch:=omega)only[↓qXX]
    obtain⟨a,ha⟩:=bg (l:=A2) (i:=c0) (by rw[hr.la];exact hcN)
    have hok:=hj.bd c0 a hb0 ha
    have hac:=across_c hs (eZ hr.p) (eZ hr.mv) hr.mp (eZ hr.ov) hr.lsA hcN hlt hnb ha hok (by omega)
    refine tQ (callv_cap (args:=[.int .i64 (Int.ofNat c0),.int .u8 (Int.ofNat j)]) hac rfl [.leaf (.i .i64 (Int.ofNat c0)),.leaf (.i .u8 (Int.ofNat j)),.leaf (.v (ptrB H.length)),.leaf (.v (ptrB (H.length+2))),.leaf (.v (ptrB (H.length+4)))] rfl rfl rfl) ?_
    have hnN:=(mz hs hcN hlt hnb).1
    have hnc:=(mz hs hcN hlt hnb).2.2.2.2
    generalize hm:acM w l a c0 n j=m at *
    simp only[mvl]
    simp(disch:=omega)only[↓qXX]
    obtain⟨t,ht⟩:=bg (l:=B2) (i:=n) (by rw[hr.lb];exact hnN)
    refine bh hr.lsB rfl ht ?_
    unfold encT
    simp(disch:=omega)only[↓qXX]
    cases t with
    |true=>
     simp(disch:=omega)only[↓qXX,qaR]
     refine mN (eZ hr.ov) rfl ?_
     simp(disch:=omega)only[↓qXX]
     refine bf hr.lsA.good ?_
     simp(disch:=omega)only[↓qXX]
     obtain⟨b,hb⟩:=bg (l:=A2) (i:=n) (by rw[hr.la];exact hnN)
     refine bh hr.lsA rfl hb ?_
     unfold encM
     simp(disch:=omega)only[↓qXX]
     rw[eqsM]
     by_cases hbm:b=m
     ·rw[decide_eq_true hbm]
      simp(disch:=omega)only[↓qXX,qaR]
      rw[hadd]
      exact next _ _ _ _ _ hr hw (hj.seen hnb ht ha (by rw[hb,hbm,hm])) hq2 hleft hb0
     ·rw[decide_eq_false hbm]
      simp(disch:=omega)only[↓qXX,qbE]
      exact⟨hr.pre,.inr ⟨rfl,hj.tear hs hcN hlt hnb hb0 ht ha hb (by rw[hm];exact hbm)⟩⟩
    |false=>
     simp(disch:=omega)only[↓qXX,qbE]
     refine mN (eZ hr.ov) rfl ?_
     simp(disch:=omega)only[↓qXX]
     refine bf hr.lsA.good ?_
     simp(disch:=omega)only[↓qXX]
     refine fK (enc:=encM) (l:=A2) (i:=n) (a:=m) bD hr.ol rfl (by rw[hr.la];exact hnN) hr.la rfl ?_
     have hrA:=hr.putA (A':=A2.set n m) (by simp)
     have hwA:=hw.keep (h':=putE h2' (H.length+3) 3 encM (A2.set n m)) (λj o hjb ho=>by rw[cJ (by omega)];exact ho)
     generalize putE h2' (H.length+3) 3 encM (A2.set n m)=h3' at *
     try simp(disch:=omega)only[↓qXX]
     refine fK (enc:=encT) (l:=B2) (i:=n) (a:=true) gA hrA.kn rfl (by rw[hr.lb];exact hnN) hr.lb rfl ?_
     have hrB:=hrA.putB (B':=B2.set n true) (by simp)
     have hwB:=hwA.keep (h':=putE h3' (H.length+5) 1 encT (B2.set n true)) (λj o hjb ho=>by rw[cJ (by omega)];exact ho)
     generalize putE h3' (H.length+5) 1 encT (B2.set n true)=h4' at *
     try simp(disch:=omega)only[↓qXX]
     refine r_apQ (n:=n) hwB hrB.len rfl rfl (by omega) ?_
     intro v5 h5' hw5 hv5 hk5 hl5
     have hr5:=hrB.keep hk5 hl5
     simp(disch:=omega)only[↓qXX]
     refine bf hv5 ?_
     simp(disch:=omega)only[↓qXX]
     refine mN (eZ hr5.ov) rfl ?_
     simp(disch:=omega)only[↓qXX]
     refine bf hr5.lsA.good ?_
     simp(disch:=omega)only[↓qXX]
     refine bh hr5.lsA (a:=m) rfl (qaE (by rw[hr.la];exact hnN)) ?_
     unfold encM
     simp(disch:=omega)only[↓qXX]
     try rw[eqsM,decide_eq_true rfl]
     simp(disch:=omega)only[↓qXX,qaR]
     rw[hadd]
     refine next _ _ _ _ _ hr5 hw5 ?_ ?_ ?_ ?_
     ·rw[←hm]
      exact hj.fresh hs hr.la hr.lb hcN hlt hnb hb0 ht ha
     ·rw[fk ht];simp;omega
     ·rw[←hleft]
      have:=jl (B2.set n true)
      unfold left
      rw[fk ht]at this ⊢
      simp only[qaz,qaF,qbf,qc0]at this ⊢
      omega
     ·rw[qat hnc];exact hb0)
 exact⟨rs,h',h1,h2⟩
def az(c:Cl):List Value:=[.int .i64 c.1,.int .i64 c.2.1,.int .u8 (Int.ofNat c.2.2)]
theorem bw(c:Cl):(az c).length=3:=rfl
theorem iN{m:Mv}{n:Int}(hm:okM n m){c:Cl}{k:Int}(hc:-k<=c.1/\c.1<=k/\-k<=c.2.1/\c.2.1<=k):-(n+k+1)<=(bF m c).1/\(bF m c).1<=n+k+1/\-(n+k+1)<=(bF m c).2.1/\(bF m c).2.1<=n+k+1/\(bF m c).2.2<4:=by
 have h1:=tC hm.1 hc
 have h2:=hm.2
 unfold bF
 simp only
 refine⟨?_,?_,?_,?_,qT_lt⟩<;>split<;>omega
def vMv(m:Mv):Bool:=decide (-16384<=m.2.1/\m.2.1<=16384/\-16384<=m.2.2/\m.2.2<=16384)
def vCl(c:Cl):Bool:=decide (-4096<=c.1/\c.1<=4096/\-4096<=c.2.1/\c.2.1<=4096)
theorem vMv_ok{n:Int}{m:Mv}(h:okM n m)(hv:vMv m=true):okM 16384 m:=by
 unfold vMv at hv
 rw[decide_eq_true_eq]at hv
 exact⟨h.1,hv.1,hv.2.1,hv.2.2.1,hv.2.2.2,h.2.2.2.2.2⟩
def vMI(t x y:Int):Bool:=decide (t<8/\(-16384<=x/\x<=16384)/\(-16384<=y/\y<=16384)/\(x+y)%2=0)
theorem nM{n:Int}:Cc 106 [.i n] [.b (!decide (-16384<=n/\n<=16384))]:=by
 refine q106 rfl ?_;unfold f106;simp only[qxh]
 simp(disch:=omega)only[↓qXX]
 by_cases h1:n < -16384
 ·rw[p_lss_t (show n < -16384 by omega)]
  simp(disch:=omega)only[↓qXX]
  rw[decide_eq_false (by omega)]
  try rfl
 ·rw[p_lss_f (show(-16384:Int)<=n by omega)]
  simp(disch:=omega)only[↓qXX]
  by_cases h2:n<=16384
  ·rw[p_gtr_f (by omega)]
   simp(disch:=omega)only[↓qXX]
   rw[decide_eq_true (by omega)]
   try rfl
  ·rw[p_gtr_t (by omega)]
   simp(disch:=omega)only[↓qXX]
   rw[decide_eq_false (by omega)]
   try rfl
theorem vi{t x y:Int}(ht:0<=t/\t<=255):Cc 70 [.i t,.i x,.i y] [.i (if vMI t x y then 0 else 1)]:=by
 by_cases hv:vMI t x y=true
 ·rw[if_pos hv]
  unfold vMI at hv
  rw[decide_eq_true_eq]at hv
  exact mchk_c ⟨ht.1,hv.1⟩ hv.2.1 hv.2.2.1 hv.2.2.2
 ·rw[if_neg hv]
  unfold vMI at hv
  rw[decide_eq_true_eq]at hv
  refine q70 rfl ?_;unfold f70;simp only[qxh]
  simp(disch:=omega)only[↓qXX]
  by_cases h1:8<=t
  ·rw[p_geq_t h1]
   simp(disch:=omega)only[↓qXX]
   try rfl
  rw[p_geq_f (by omega)]
  simp(disch:=omega)only[↓qXX]
  refine ae nM ?_
  simp(disch:=omega)only[↓qXX]
  by_cases h2:-16384<=x/\x<=16384
  case neg=>
   rw[decide_eq_false h2]
   simp(disch:=omega)only[↓qXX,qbE]
   try rfl
  rw[decide_eq_true h2]
  simp(disch:=omega)only[↓qXX,qaR]
  refine ae nM ?_
  simp(disch:=omega)only[↓qXX]
  by_cases h3:-16384<=y/\y<=16384
  case neg=>
   rw[decide_eq_false h3]
   simp(disch:=omega)only[↓qXX,qbE]
   try rfl
  rw[decide_eq_true h3]
  simp(disch:=omega)only[↓qXX,qaR]
  have hp:(x+y)%2≠0:=λe=>hv ⟨by omega,h2,h3,e⟩
  rcases qcK 0 (x+y)with hs|hs
  ·repeat (first|simp(disch:=omega)only[↓qXX]|rw[p_rem_nn hs (by omega)])
   try rfl
  ·have h0:-(-(x+y)%2)≠0:=by omega
   repeat (first|simp(disch:=omega)only[↓qXX]|rw[p_rem_np hs (by omega)])
   try rfl
theorem limited_w{m:Mv}{n:Int}(h:okM n m)(hn:n<=100000):Cc 114 (mvl m) (if vMv m then mvl m++[.i 0]else [.i 0,.i 0,.i 0,.i 3]):=by
 refine q114 rfl ?_;unfold f114;simp only[qxh]
 simp(disch:=omega)only[↓qXX]
 refine ae (vi (by have:=h.1;show 0<=(m.1:Int)/\(m.1:Int)<=255;omega)) ?_
 simp(disch:=omega)only[↓qXX]
 have e:vMI (Int.ofNat m.1) m.2.1 m.2.2=vMv m:=by
  have h1:=h.1
  have h2:=h.2.2.2.2.2
  unfold vMI vMv
  rw[decide_eq_decide]
  show((m.1:Int)<8/\_)↔_
  omega
 rw[e]
 cases vMv m with
 |true=>
  simp only[if_true]
  simp(disch:=omega)only[↓qXX]
  try rfl
 |false=>
  simp only[qaj,if_false]
  simp(disch:=omega)only[↓qXX]
  try rfl
theorem then_w{a b:Mv}(ha:okM 2000 a)(hb:okM 16384 b):Cc 73 (mvl a++mvl b) (if vMv (aY a b)then mvl (aY a b)++[.i 0]else [.i 0,.i 0,.i 0,.i 3]):=by
 have h0:=dg ha hb
 refine q73 rfl ?_;unfold f73;simp only[qxh]
 simp only[mvl,qaD,qaC]
 simp(disch:=omega)only[↓qXX]
 refine ae (ql ha (by omega)) ?_
 simp(disch:=omega)only[↓qXX]
 refine ae (ql hb (by omega)) ?_
 simp(disch:=omega)only[↓qXX]
 refine aq (rL hb.1) ?_
 refine aq (mP hb.1) ?_
 simp(disch:=omega)only[↓qXX]
 refine ae (mof_c hb.1 ⟨by have:=ha.2;omega,by have:=ha.2;omega,by have:=ha.2;omega,by have:=ha.2;omega⟩) ?_
 simp(disch:=omega)only[↓qXX]
 refine aq (rL ha.1) ?_
 refine aq (mP ha.1) ?_
 simp(disch:=omega)only[↓qXX]
 refine aq (rL hb.1) ?_
 refine aq (mP hb.1) ?_
 simp(disch:=omega)only[↓qXX]
 refine ae (thenT_c ha.1 hb.1) ?_
 simp(disch:=omega)only[↓qXX]
 refine ae (numT_c qn) ?_
 simp(disch:=omega)only[↓qXX]
 have h1:=h0
 obtain⟨_,h2,h3,h4,h5,_⟩:=h1
 unfold aY at h2 h3 h4 h5
 simp only at h2 h3 h4 h5
 rw[p_add (by omega) (by omega),p_add (by omega) (by omega)]
 refine ae (limited_w (m:=aY a b) h0 (by omega)) ?_
 cases vMv (aY a b)with
 |true=>
  simp only[if_true]
  simp only[mvl,qaD,qaC]
  simp(disch:=omega)only[↓qXX]
  try rfl
 |false=>
  simp only[qaj,if_false]
  simp(disch:=omega)only[↓qXX]
  try rfl
theorem uH{c:Cl}(hq:c.2.2<4):Cc 117 (cll c) [.i (if vCl c then 0 else 1)]:=by
 by_cases hv:vCl c=true
 ·rw[if_pos hv]
  unfold vCl at hv
  rw[decide_eq_true_eq]at hv
  exact cchk_c ⟨hv.1,hv.2.1,hv.2.2.1,hv.2.2.2,hq⟩
 ·rw[if_neg hv]
  unfold vCl at hv
  rw[decide_eq_true_eq]at hv
  refine q117 rfl ?_;unfold f117;simp only[qxh]
  simp only[cll]
  simp(disch:=omega)only[↓qXX]
  by_cases h1:c.1 < -4096
  ·repeat (first|simp(disch:=omega)only[↓qXX])
   try rfl
  by_cases h2:4096<c.1
  ·repeat (first|simp(disch:=omega)only[↓qXX])
   try rfl
  by_cases h3:c.2.1 < -4096
  ·repeat (first|simp(disch:=omega)only[↓qXX])
   try rfl
  ·have h4:4096<c.2.1:=by omega
   repeat (first|simp(disch:=omega)only[↓qXX])
   try rfl
theorem move_w{m:Mv}(hm:okM 16384 m){c:Cl}(hc:-1000<=c.1/\c.1<=1000/\-1000<=c.2.1/\c.2.1<=1000/\c.2.2<4):Cc 74 (mvl m++cll c) (if vCl (bF m c)then cll (bF m c)++[.i 0]else [.i 0,.i 0,.i 0,.i 3]):=by
 have h1:=iN hm (k:=1000) ⟨hc.1,hc.2.1,hc.2.2.1,hc.2.2.2.1⟩
 refine q74 rfl ?_;unfold f74;simp only[qxh]
 simp only[mvl,cll,qaD,qaC]
 simp(disch:=omega)only[↓qXX]
 refine ae (ql hm (by omega)) ?_
 simp(disch:=omega)only[↓qXX]
 refine ae (cchk_c (c:=c) ⟨by omega,by omega,by omega,by omega,hc.2.2.2.2⟩) ?_
 simp(disch:=omega)only[↓qXX]
 refine ae (moved_c hm hc) ?_
 simp only[cll]
 simp(disch:=omega)only[↓qXX]
 refine ae (uH (c:=bF m c) h1.2.2.2.2) ?_
 cases vCl (bF m c)with
 |true=>
  simp only[if_true]
  simp(disch:=omega)only[↓qXX]
  try rfl
 |false=>
  simp only[qaj,if_false]
  simp(disch:=omega)only[↓qXX]
  try rfl
theorem GoodA.eq{w v:Nat}{l:List Crs}{A:List Mv}(hs:Sh w v)(hA:GoodA w v l A){G:Nat->Mv}(hG:jf w v l G)(h0:G 0=idM):∀c,c<4*w*v->A[c]? = some (G c):=
 qo hs (by rw[h0];exact hA.a0) λc e n hc he hn h=>by rw[hG c e n hc he hn];exact hA.cons c e n _ hc he hn h
def plL(w v:Nat)(G:Nat->Mv)(r:Mv):List Mv:=(List.range (4*w*v)).map λc=>aY (G c) r
def imL(w v:Nat)(G:Nat->Mv)(r:Mv):List Cl:=(List.range (4*w*v)).map λc=>bF (aY (G c) r) (clN w c)
theorem mQ{w v:Nat}{G:Nat->Mv}{r:Mv}{c:Nat}(h:c<4*w*v):(plL w v G r)[c]? = some (aY (G c) r):=by
 unfold plL
 rw[qas,qb5 h];rfl
theorem mi{w v:Nat}{G:Nat->Mv}{r:Mv}{c:Nat}(h:c<4*w*v):(imL w v G r)[c]? = some (bF (aY (G c) r) (clN w c)):=by
 unfold imL
 rw[qas,qb5 h];rfl
theorem take_set{α:Type}{L A:List α}{j:Nat}{a:α}(hL:L[j]? = some a)(hlen:L.length=A.length):(L.take j++A.drop j).set j a=L.take (j+1)++A.drop (j+1):=by
 have hj:=bk hL
 have h1:(L.take j).length=j:=by rw[qaI];omega
 rw[qbU _ _ (by omega),h1,qbA,qbi (by omega),qcy,qbc,hL]
 simp
theorem mid_get{α:Type}{L A:List α}{j:Nat}{a:α}(hA:A[j]? = some a)(hlen:L.length=A.length):(L.take j++A.drop j)[j]? = some a:=by
 have hj:=bk hA
 rw[qak (by rw[qaI];omega),qaI,qb6 (by omega),qbA,qaZ,qb9]
 exact hA
theorem tI{α:Type}{L A:List α}{j:Nat}(hlen:L.length=A.length)(hj:j<=L.length):(L.take j++A.drop j).length=A.length:=by
 rw[qaz,qaI,qbF];omega
theorem gj{α:Type}{e cx n:Nat}{enc:α->List Value}(henc:∀a,(enc a).length=e){h:HL}{id:Nat}{L:List α}(hg:h[id]? = some (.o (.cells (L.flatMap enc) e true)))(hn:n=L.length):LsH h (.slice (some ⟨id,0,tag e⟩) n cx) e enc L:=by
 subst hn
 have hl:=aL (e:=e) (enc:=enc) (l:=L) λa _=>henc a
 exact⟨λa _=>henc a,hl,.inr ⟨id,0,cx,_,true,rfl,hg,Sx.cut_all hl⟩⟩
end Go.Am
end

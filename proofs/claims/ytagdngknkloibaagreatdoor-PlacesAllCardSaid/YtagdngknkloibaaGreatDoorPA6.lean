/-
  PART 6 OF THE PROOF (no conditions).
-/
import Derived.Test.YtagdngknkloibaaGreatDoorPA5
set_option linter.unusedSectionVars false
set_option linter.unusedSimpArgs false
set_option linter.unusedVariables false
set_option linter.constructorNameAsVariable false
set_option linter.defProp false
noncomputable section
set_option maxRecDepth 100000
namespace Go.Am
open Sx Go.Proofs
instance val0 : Val := ⟨λ_ => 0⟩
instance kno0:Kno:=KnoC cc neuN
def mixed:cc.P.follows .mixedOrders=true:=by kernel_rfl
def ky(g:Nat)(vs:List Value)(h:cc.G g=some vs):vs.all gfl=true:=by
 unfold cc at h
 simp only at h
 split at h<;>first|(cases h;done)|(obtain rfl:=qap h;kernel_rfl)
def sQ:DrOk cc drN:=drOf_ok neuN_ok (λ_ _ _ _ _ (h:_/\_)=>h.1)
abbrev Ent(k:Nat)(g:FB):Prop:=qu cc ac aa k g
abbrev Cok(c:ae):Prop:=CallBOk cc ac aa c
def xp(f:FuncId)(sg:Sig)(ls rs:List Lf)(H':List HObj)(hs:ac f=some sg)(hp:sg.plain=true)(hc:aw cc ac f ls [] rs H'):∀H,aw cc ac f ls H rs H:=ct_of mixed ky hs hp hc
def oz{k:Nat}{F:(R HT:Type)->Alg R HT->List Lf->HT->(List Lf->HT->R)->R}{fn:Fn1}(h2:F=λR HT A ls h K=>aj A (xc k) ac drN fn ls h K)(h3:FnIs (xc k) ac k fn){c:ae}(hc:Cok c){l:List (Nat×FB)}(hl:∀p∈l,Ent p.1 p.2):Ent k (F RT HTr (BA ac aa (tblF l c))):=by
 intro ls h K w hls hk
 rw[h2]at hk
 obtain⟨rs,h',a1,_,a3⟩:=qX (BA_ok (w:=w) (vT hc hl)) sQ h3 hls hk
 exact⟨rs,h',a1,a3⟩
def aN:∀p∈([]:List (Nat×FB)),Ent p.1 p.2:=λ_ h=>by cases h
def aC{k:Nat}{g:FB}{l:List (Nat×FB)}(h:Ent k g)(t:∀p∈l,Ent p.1 p.2):∀p∈(k,g) :: l,Ent p.1 p.2:=λp hp=>by
 rcases qak.1 hp with rfl|hp
 ·exact h
 ·exact t p hp
def ent_ro{k:Nat}{g:FB}{sg:Sig}(h:Ent k g)(h4:ac k=some sg)(h5:sg.rs.all SK.plain=true)(h6:neuN k=none):Ent k (memoR g):=memoR_ok (λls0 rs H0 H' H σ hc hb hl=>call_ro mixed ky h4 h5 h6 σ hc hb hl) h
def ak{k:Nat}{g:FB}{sg:Sig}(h:Ent k g)(h4:ac k=some sg)(h5:sg.plain=true):Ent k (memo g):=memo_ok xp h h4 h5
abbrev o_k(k:Nat)(w:ae->FB):Prop:=∀{c:ae},Cok c->Ent k (w c)
def w46(c:ae):FB:=memo (f46 (BA ac aa (tblF [] c)))
def ok46:o_k 46 w46:=λhc=>ak (oz e46 i46 hc aN) rfl (by kernel_rfl)
def w75(c:ae):FB:=memo (f75 (BA ac aa (tblF [] c)))
def ok75:o_k 75 w75:=λhc=>ak (oz e75 i75 hc aN) rfl (by kernel_rfl)
def w45(c:ae):FB:=memo (f45 (BA ac aa (tblF [(46,w46 c),(75,w75 c)] c)))
def ok45:o_k 45 w45:=λhc=>ak (oz e45 i45 hc (aC (ok46 hc) (aC (ok75 hc) aN))) rfl (by kernel_rfl)
def w76(c:ae):FB:=memo (f76 (BA ac aa (tblF [(75,w75 c)] c)))
def ok76:o_k 76 w76:=λhc=>ak (oz e76 i76 hc (aC (ok75 hc) aN)) rfl (by kernel_rfl)
def w47(c:ae):FB:=memo (f47 (BA ac aa (tblF [(75,w75 c),(76,w76 c)] c)))
def ok47:o_k 47 w47:=λhc=>ak (oz e47 i47 hc (aC (ok75 hc) (aC (ok76 hc) aN))) rfl (by kernel_rfl)
def w48(c:ae):FB:=memo (f48 (BA ac aa (tblF [(46,w46 c)] c)))
def ok48:o_k 48 w48:=λhc=>ak (oz e48 i48 hc (aC (ok46 hc) aN)) rfl (by kernel_rfl)
def w18(c:ae):FB:=memo (f18 (BA ac aa (tblF [(45,w45 c),(46,w46 c),(47,w47 c),(48,w48 c)] c)))
def ok18:o_k 18 w18:=λhc=>ak (oz e18 i18 hc (aC (ok45 hc) (aC (ok46 hc) (aC (ok47 hc) (aC (ok48 hc) aN))))) rfl (by kernel_rfl)
def w44(c:ae):FB:=memo (f44 (BA ac aa (tblF [] c)))
def ok44:o_k 44 w44:=λhc=>ak (oz e44 i44 hc aN) rfl (by kernel_rfl)
def w17(c:ae):FB:=memo (f17 (BA ac aa (tblF [(18,w18 c),(44,w44 c)] c)))
def ok17:o_k 17 w17:=λhc=>ak (oz e17 i17 hc (aC (ok18 hc) (aC (ok44 hc) aN))) rfl (by kernel_rfl)
def w15(c:ae):FB:=f15 (BA ac aa (tblF [(17,w17 c)] c))
def ok15:o_k 15 w15:=λhc=>oz e15 i15 hc (aC (ok17 hc) aN)
def w25(c:ae):FB:=f25 (BA ac aa (tblF [(15,w15 c)] c))
def ok25:o_k 25 w25:=λhc=>oz e25 i25 hc (aC (ok15 hc) aN)
def w6(c:ae):FB:=f6 (BA ac aa (tblF [(25,w25 c)] c))
def ok6:o_k 6 w6:=λhc=>oz e6 i6 hc (aC (ok25 hc) aN)
def w60(c:ae):FB:=memo (f60 (BA ac aa (tblF [] c)))
def ok60:o_k 60 w60:=λhc=>ak (oz e60 i60 hc aN) rfl (by kernel_rfl)
def w97(c:ae):FB:=f97 (BA ac aa (tblF [] c))
def ok97:o_k 97 w97:=λhc=>oz e97 i97 hc aN
def w61(c:ae):FB:=f61 (BA ac aa (tblF [(97,w97 c)] c))
def ok61:o_k 61 w61:=λhc=>oz e61 i61 hc (aC (ok97 hc) aN)
def w111(c:ae):FB:=memo (f111 (BA ac aa (tblF [] c)))
def ok111:o_k 111 w111:=λhc=>ak (oz e111 i111 hc aN) rfl (by kernel_rfl)
def w112(c:ae):FB:=memo (f112 (BA ac aa (tblF [] c)))
def ok112:o_k 112 w112:=λhc=>ak (oz e112 i112 hc aN) rfl (by kernel_rfl)
def w72(c:ae):FB:=memo (f72 (BA ac aa (tblF [(60,w60 c),(111,w111 c),(112,w112 c)] c)))
def ok72:o_k 72 w72:=λhc=>ak (oz e72 i72 hc (aC (ok60 hc) (aC (ok111 hc) (aC (ok112 hc) aN)))) rfl (by kernel_rfl)
def w117(c:ae):FB:=memo (f117 (BA ac aa (tblF [] c)))
def vu{c:ae}(hc:Cok c):Ent 117 (w117 c):=ak (oz e117 i117 hc aN) rfl (by kernel_rfl)
def w125(c:ae):FB:=memo (f125 (BA ac aa (tblF [(60,w60 c),(117,w117 c)] c)))
def ok125:o_k 125 w125:=λhc=>ak (oz e125 i125 hc (aC (ok60 hc) (aC (vu hc) aN))) rfl (by kernel_rfl)
def w129(c:ae):FB:=memo (f129 (BA ac aa (tblF [(117,w117 c)] c)))
def ok129:o_k 129 w129:=λhc=>ak (oz e129 i129 hc (aC (vu hc) aN)) rfl (by kernel_rfl)
def w98(c:ae):FB:=memo (f98 (BA ac aa (tblF [(72,w72 c),(125,w125 c),(129,w129 c)] c)))
def ok98:o_k 98 w98:=λhc=>ak (oz e98 i98 hc (aC (ok72 hc) (aC (ok125 hc) (aC (ok129 hc) aN)))) rfl (by kernel_rfl)
def w64(c:ae):FB:=memo (f64 (BA ac aa (tblF [(98,w98 c)] c)))
def ok64:o_k 64 w64:=λhc=>ak (oz e64 i64 hc (aC (ok98 hc) aN)) rfl (by kernel_rfl)
def w65(c:ae):FB:=memo (f65 (BA ac aa (tblF [] c)))
def ok65:o_k 65 w65:=λhc=>ak (oz e65 i65 hc aN) rfl (by kernel_rfl)
def w66(c:ae):FB:=memo (f66 (BA ac aa (tblF [] c)))
def ok66:o_k 66 w66:=λhc=>ak (oz e66 i66 hc aN) rfl (by kernel_rfl)
def w32(c:ae):FB:=memoR (f32 (BA ac aa (tblF [(60,w60 c),(61,w61 c),(64,w64 c),(65,w65 c),(66,w66 c)] c)))
def ok32:o_k 32 w32:=λhc=>ent_ro (oz e32 i32 hc (aC (ok60 hc) (aC (ok61 hc) (aC (ok64 hc) (aC (ok65 hc) (aC (ok66 hc) aN)))))) rfl (by kernel_rfl) (by kernel_rfl)
def w106(c:ae):FB:=memo (f106 (BA ac aa (tblF [] c)))
def ok106:o_k 106 w106:=λhc=>ak (oz e106 i106 hc aN) rfl (by kernel_rfl)
def w70(c:ae):FB:=memo (f70 (BA ac aa (tblF [(106,w106 c)] c)))
def ok70:o_k 70 w70:=λhc=>ak (oz e70 i70 hc (aC (ok106 hc) aN)) rfl (by kernel_rfl)
def w107(c:ae):FB:=f107 (BA ac aa (tblF [] c))
def ok107:o_k 107 w107:=λhc=>oz e107 i107 hc aN
def w108(c:ae):FB:=memo (f108 (BA ac aa (tblF [(60,w60 c)] c)))
def ok108:o_k 108 w108:=λhc=>ak (oz e108 i108 hc (aC (ok60 hc) aN)) rfl (by kernel_rfl)
def w71(c:ae):FB:=f71 (BA ac aa (tblF [(98,w98 c),(107,w107 c),(108,w108 c)] c))
def ok71:o_k 71 w71:=λhc=>oz e71 i71 hc (aC (ok98 hc) (aC (ok107 hc) (aC (ok108 hc) aN)))
def w113(c:ae):FB:=memo (f113 (BA ac aa (tblF [] c)))
def ok113:o_k 113 w113:=λhc=>ak (oz e113 i113 hc aN) rfl (by kernel_rfl)
def w114(c:ae):FB:=memo (f114 (BA ac aa (tblF [(70,w70 c)] c)))
def ok114:o_k 114 w114:=λhc=>ak (oz e114 i114 hc (aC (ok70 hc) aN)) rfl (by kernel_rfl)
def w115(c:ae):FB:=memo (f115 (BA ac aa (tblF [] c)))
def ok115:o_k 115 w115:=λhc=>ak (oz e115 i115 hc aN) rfl (by kernel_rfl)
def w116(c:ae):FB:=memo (f116 (BA ac aa (tblF [(113,w113 c)] c)))
def ok116:o_k 116 w116:=λhc=>ak (oz e116 i116 hc (aC (ok113 hc) aN)) rfl (by kernel_rfl)
def w73(c:ae):FB:=memo (f73 (BA ac aa (tblF [(70,w70 c),(113,w113 c),(114,w114 c),(115,w115 c),(116,w116 c)] c)))
def ok73:o_k 73 w73:=λhc=>ak (oz e73 i73 hc (aC (ok70 hc) (aC (ok113 hc) (aC (ok114 hc) (aC (ok115 hc) (aC (ok116 hc) aN)))))) rfl (by kernel_rfl)
def w140(c:ae):FB:=memo (f140 (BA ac aa (tblF [] c)))
def ok140:o_k 140 w140:=λhc=>ak (oz e140 i140 hc aN) rfl (by kernel_rfl)
def w90(c:ae):FB:=memo (f90 (BA ac aa (tblF [] c)))
def ok90:o_k 90 w90:=λhc=>ak (oz e90 i90 hc aN) rfl (by kernel_rfl)
def w141(c:ae):FB:=memo (f141 (BA ac aa (tblF [(70,w70 c),(90,w90 c),(113,w113 c)] c)))
def ok141:o_k 141 w141:=λhc=>ak (oz e141 i141 hc (aC (ok70 hc) (aC (ok90 hc) (aC (ok113 hc) aN)))) rfl (by kernel_rfl)
def w118(c:ae):FB:=memo (f118 (BA ac aa (tblF [(140,w140 c),(141,w141 c)] c)))
def ok118:o_k 118 w118:=λhc=>ak (oz e118 i118 hc (aC (ok140 hc) (aC (ok141 hc) aN))) rfl (by kernel_rfl)
def w74(c:ae):FB:=memo (f74 (BA ac aa (tblF [(70,w70 c),(117,w117 c),(118,w118 c)] c)))
def ok74:o_k 74 w74:=λhc=>ak (oz e74 i74 hc (aC (ok70 hc) (aC (vu hc) (aC (ok118 hc) aN)))) rfl (by kernel_rfl)
def w42(c:ae):FB:=f42 (BA ac aa (tblF [(32,w32 c),(70,w70 c),(71,w71 c),(72,w72 c),(73,w73 c),(74,w74 c)] c))
def ok42:o_k 42 w42:=λhc=>oz e42 i42 hc (aC (ok32 hc) (aC (ok70 hc) (aC (ok71 hc) (aC (ok72 hc) (aC (ok73 hc) (aC (ok74 hc) aN))))))
def w13(c:ae):FB:=f13 (BA ac aa (tblF [(42,w42 c)] c))
def ok13:o_k 13 w13:=λhc=>oz e13 i13 hc (aC (ok42 hc) aN)
def w43(c:ae):FB:=memo (f43 (BA ac aa (tblF [(70,w70 c)] c)))
def ok43:o_k 43 w43:=λhc=>ak (oz e43 i43 hc (aC (ok70 hc) aN)) rfl (by kernel_rfl)
def w14(c:ae):FB:=f14 (BA ac aa (tblF [(42,w42 c),(43,w43 c)] c))
def ok14:o_k 14 w14:=λhc=>oz e14 i14 hc (aC (ok42 hc) (aC (ok43 hc) aN))
def w21(c:ae):FB:=f21 (BA ac aa (tblF [(42,w42 c)] c))
def ok21:o_k 21 w21:=λhc=>oz e21 i21 hc (aC (ok42 hc) aN)
def w142(c:ae):FB:=f142 (BA ac aa (tblF [] c))
def ok142:o_k 142 w142:=λhc=>oz e142 i142 hc aN
def w119(c:ae):FB:=f119 (BA ac aa (tblF [(142,w142 c)] c))
def ok119:o_k 119 w119:=λhc=>oz e119 i119 hc (aC (ok142 hc) aN)
def w77(c:ae):FB:=f77 (BA ac aa (tblF [(119,w119 c)] c))
def ok77:o_k 77 w77:=λhc=>oz e77 i77 hc (aC (ok119 hc) aN)
def w78(c:ae):FB:=f78 (BA ac aa (tblF [] c))
def ok78:o_k 78 w78:=λhc=>oz e78 i78 hc aN
def w81(c:ae):FB:=f81 (BA ac aa (tblF [] c))
def ok81:o_k 81 w81:=λhc=>oz e81 i81 hc aN
def w82(c:ae):FB:=f82 (BA ac aa (tblF [] c))
def ok82:o_k 82 w82:=λhc=>oz e82 i82 hc aN
def w49(c:ae):FB:=f49 (BA ac aa (tblF [(77,w77 c),(78,w78 c),(81,w81 c),(82,w82 c)] c))
def ok49:o_k 49 w49:=λhc=>oz e49 i49 hc (aC (ok77 hc) (aC (ok78 hc) (aC (ok81 hc) (aC (ok82 hc) aN))))
def w22(c:ae):FB:=f22 (BA ac aa (tblF [(13,w13 c),(49,w49 c)] c))
def ok22:o_k 22 w22:=λhc=>oz e22 i22 hc (aC (ok13 hc) (aC (ok49 hc) aN))
def w23(c:ae):FB:=f23 (BA ac aa (tblF [(13,w13 c)] c))
def ok23:o_k 23 w23:=λhc=>oz e23 i23 hc (aC (ok13 hc) aN)
def w16(c:ae):FB:=f16 (BA ac aa (tblF [(15,w15 c)] c))
def ok16:o_k 16 w16:=λhc=>oz e16 i16 hc (aC (ok15 hc) aN)
def w30(c:ae):FB:=f30 (BA ac aa (tblF [] c))
def ok30:o_k 30 w30:=λhc=>oz e30 i30 hc aN
def w93(c:ae):FB:=memo (f93 (BA ac aa (tblF [] c)))
def ok93:o_k 93 w93:=λhc=>ak (oz e93 i93 hc aN) rfl (by kernel_rfl)
def w96(c:ae):FB:=memo (f96 (BA ac aa (tblF [(93,w93 c)] c)))
def ok96:o_k 96 w96:=λhc=>ak (oz e96 i96 hc (aC (ok93 hc) aN)) rfl (by kernel_rfl)
def w58(c:ae):FB:=memo (f58 (BA ac aa (tblF [(93,w93 c),(96,w96 c)] c)))
def ok58:o_k 58 w58:=λhc=>ak (oz e58 i58 hc (aC (ok93 hc) (aC (ok96 hc) aN))) rfl (by kernel_rfl)
def w59(c:ae):FB:=memo (f59 (BA ac aa (tblF [(47,w47 c),(96,w96 c)] c)))
def ok59:o_k 59 w59:=λhc=>ak (oz e59 i59 hc (aC (ok47 hc) (aC (ok96 hc) aN))) rfl (by kernel_rfl)
def w31(c:ae):FB:=memo (f31 (BA ac aa (tblF [(45,w45 c),(58,w58 c),(59,w59 c)] c)))
def ok31:o_k 31 w31:=λhc=>ak (oz e31 i31 hc (aC (ok45 hc) (aC (ok58 hc) (aC (ok59 hc) aN)))) rfl (by kernel_rfl)
def w8(c:ae):FB:=f8 (BA ac aa (tblF [(15,w15 c),(16,w16 c),(17,w17 c),(30,w30 c),(31,w31 c)] c))
def ok8:o_k 8 w8:=λhc=>oz e8 i8 hc (aC (ok15 hc) (aC (ok16 hc) (aC (ok17 hc) (aC (ok30 hc) (aC (ok31 hc) aN)))))
def w55(c:ae):FB:=memo (f55 (BA ac aa (tblF [(46,w46 c),(48,w48 c),(93,w93 c)] c)))
def ok55:o_k 55 w55:=λhc=>ak (oz e55 i55 hc (aC (ok46 hc) (aC (ok48 hc) (aC (ok93 hc) aN)))) rfl (by kernel_rfl)
def w27(c:ae):FB:=f27 (BA ac aa (tblF [(30,w30 c),(55,w55 c)] c))
def ok27:o_k 27 w27:=λhc=>oz e27 i27 hc (aC (ok30 hc) (aC (ok55 hc) aN))
def w53(c:ae):FB:=memo (f53 (BA ac aa (tblF [] c)))
def ok53:o_k 53 w53:=λhc=>ak (oz e53 i53 hc aN) rfl (by kernel_rfl)
def w54(c:ae):FB:=memo (f54 (BA ac aa (tblF [] c)))
def ok54:o_k 54 w54:=λhc=>ak (oz e54 i54 hc aN) rfl (by kernel_rfl)
def w26(c:ae):FB:=f26 (BA ac aa (tblF [(8,w8 c),(27,w27 c),(53,w53 c),(54,w54 c)] c))
def ok26:o_k 26 w26:=λhc=>oz e26 i26 hc (aC (ok8 hc) (aC (ok27 hc) (aC (ok53 hc) (aC (ok54 hc) aN))))
def w56(c:ae):FB:=f56 (BA ac aa (tblF [] c))
def ok56:o_k 56 w56:=λhc=>oz e56 i56 hc aN
def w28(c:ae):FB:=f28 (BA ac aa (tblF [(56,w56 c)] c))
def ok28:o_k 28 w28:=λhc=>oz e28 i28 hc (aC (ok56 hc) aN)
def w94(c:ae):FB:=f94 (BA ac aa (tblF [] c))
def ok94:o_k 94 w94:=λhc=>oz e94 i94 hc aN
def w95(c:ae):FB:=memo (f95 (BA ac aa (tblF [] c)))
def ok95:o_k 95 w95:=λhc=>ak (oz e95 i95 hc aN) rfl (by kernel_rfl)
def w57(c:ae):FB:=f57 (BA ac aa (tblF [(94,w94 c),(95,w95 c)] c))
def ok57:o_k 57 w57:=λhc=>oz e57 i57 hc (aC (ok94 hc) (aC (ok95 hc) aN))
def w29(c:ae):FB:=f29 (BA ac aa (tblF [(57,w57 c)] c))
def ok29:o_k 29 w29:=λhc=>oz e29 i29 hc (aC (ok57 hc) aN)
def w7(c:ae):FB:=f7 (BA ac aa (tblF [(13,w13 c),(14,w14 c),(21,w21 c),(22,w22 c),(23,w23 c),(26,w26 c),(27,w27 c),(28,w28 c),(29,w29 c)] c))
def ok7:o_k 7 w7:=λhc=>oz e7 i7 hc (aC (ok13 hc) (aC (ok14 hc) (aC (ok21 hc) (aC (ok22 hc) (aC (ok23 hc) (aC (ok26 hc) (aC (ok27 hc) (aC (ok28 hc) (aC (ok29 hc) aN)))))))))
def w99(c:ae):FB:=f99 (BA ac aa (tblF [] c))
def ok99:o_k 99 w99:=λhc=>oz e99 i99 hc aN
def w67(c:ae):FB:=f67 (BA ac aa (tblF [(60,w60 c),(99,w99 c)] c))
def ok67:o_k 67 w67:=λhc=>oz e67 i67 hc (aC (ok60 hc) (aC (ok99 hc) aN))
def w33(c:ae):FB:=f33 (BA ac aa (tblF [(67,w67 c)] c))
def ok33:o_k 33 w33:=λhc=>oz e33 i33 hc (aC (ok67 hc) aN)
def w34(c:ae):FB:=f34 (BA ac aa (tblF [] c))
def ok34:o_k 34 w34:=λhc=>oz e34 i34 hc aN
def w9(c:ae):FB:=f9 (BA ac aa (tblF [(32,w32 c),(33,w33 c),(34,w34 c)] c))
def ok9:o_k 9 w9:=λhc=>oz e9 i9 hc (aC (ok32 hc) (aC (ok33 hc) (aC (ok34 hc) aN)))
def w38(c:ae):FB:=memo (f38 (BA ac aa (tblF [] c)))
def ok38:o_k 38 w38:=λhc=>ak (oz e38 i38 hc aN) rfl (by kernel_rfl)
def w83(c:ae):FB:=memo (f83 (BA ac aa (tblF [(60,w60 c)] c)))
def ok83:o_k 83 w83:=λhc=>ak (oz e83 i83 hc (aC (ok60 hc) aN)) rfl (by kernel_rfl)
def w84(c:ae):FB:=f84 (BA ac aa (tblF [] c))
def ok84:o_k 84 w84:=λhc=>oz e84 i84 hc aN
def w152(c:ae):FB:=memo (f152 (BA ac aa (tblF [] c)))
def ok152:o_k 152 w152:=λhc=>ak (oz e152 i152 hc aN) rfl (by kernel_rfl)
def w122(c:ae):FB:=memo (f122 (BA ac aa (tblF [(152,w152 c)] c)))
def ok122:o_k 122 w122:=λhc=>ak (oz e122 i122 hc (aC (ok152 hc) aN)) rfl (by kernel_rfl)
def w158(c:ae):FB:=f158 (BA ac aa (tblF [] c))
def ok158:o_k 158 w158:=λhc=>oz e158 i158 hc aN
def w131(c:ae):FB:=f131 (BA ac aa (tblF [(158,w158 c)] c))
def ok131:o_k 131 w131:=λhc=>oz e131 i131 hc (aC (ok158 hc) aN)
def w86(c:ae):FB:=f86 (BA ac aa (tblF [(122,w122 c),(131,w131 c)] c))
def ok86:o_k 86 w86:=λhc=>oz e86 i86 hc (aC (ok122 hc) (aC (ok131 hc) aN))
def w88(c:ae):FB:=f88 (BA ac aa (tblF [] c))
def ok88:o_k 88 w88:=λhc=>oz e88 i88 hc aN
def w50(c:ae):FB:=f50 (BA ac aa (tblF [(32,w32 c),(83,w83 c),(84,w84 c),(86,w86 c),(88,w88 c)] c))
def ok50:o_k 50 w50:=λhc=>oz e50 i50 hc (aC (ok32 hc) (aC (ok83 hc) (aC (ok84 hc) (aC (ok86 hc) (aC (ok88 hc) aN)))))
def w91(c:ae):FB:=memo (f91 (BA ac aa (tblF [] c)))
def ok91:o_k 91 w91:=λhc=>ak (oz e91 i91 hc aN) rfl (by kernel_rfl)
def w92(c:ae):FB:=memo (f92 (BA ac aa (tblF [] c)))
def ok92:o_k 92 w92:=λhc=>ak (oz e92 i92 hc aN) rfl (by kernel_rfl)
def w52(c:ae):FB:=memo (f52 (BA ac aa (tblF [(90,w90 c),(91,w91 c),(92,w92 c)] c)))
def ok52:o_k 52 w52:=λhc=>ak (oz e52 i52 hc (aC (ok90 hc) (aC (ok91 hc) (aC (ok92 hc) aN)))) rfl (by kernel_rfl)
def w24(c:ae):FB:=f24 (BA ac aa (tblF [(38,w38 c),(50,w50 c),(52,w52 c)] c))
def ok24:o_k 24 w24:=λhc=>oz e24 i24 hc (aC (ok38 hc) (aC (ok50 hc) (aC (ok52 hc) aN)))
def w135(c:ae):FB:=f135 (BA ac aa (tblF [] c))
def ok135:o_k 135 w135:=λhc=>oz e135 i135 hc aN
def w166(c:ae):FB:=f166 (BA ac aa (tblF [] c))
def ok166:o_k 166 w166:=λhc=>oz e166 i166 hc aN
def w132(c:ae):FB:=f132 (BA ac aa (tblF [(60,w60 c),(135,w135 c),(166,w166 c)] c))
def ok132:o_k 132 w132:=λhc=>oz e132 i132 hc (aC (ok60 hc) (aC (ok135 hc) (aC (ok166 hc) aN)))
def w138(c:ae):FB:=memo (f138 (BA ac aa (tblF [(60,w60 c),(64,w64 c),(112,w112 c)] c)))
def ok138:o_k 138 w138:=λhc=>ak (oz e138 i138 hc (aC (ok60 hc) (aC (ok64 hc) (aC (ok112 hc) aN)))) rfl (by kernel_rfl)
def w139(c:ae):FB:=memo (f139 (BA ac aa (tblF [(92,w92 c),(117,w117 c)] c)))
def ok139:o_k 139 w139:=λhc=>ak (oz e139 i139 hc (aC (ok92 hc) (aC (vu hc) aN))) rfl (by kernel_rfl)
def w110(c:ae):FB:=memo (f110 (BA ac aa (tblF [(138,w138 c),(139,w139 c)] c)))
def ok110:o_k 110 w110:=λhc=>ak (oz e110 i110 hc (aC (ok138 hc) (aC (ok139 hc) aN))) rfl (by kernel_rfl)
def w153(c:ae):FB:=memo (f153 (BA ac aa (tblF [(117,w117 c)] c)))
def ok153:o_k 153 w153:=λhc=>ak (oz e153 i153 hc (aC (vu hc) aN)) rfl (by kernel_rfl)
def w154(c:ae):FB:=memo (f154 (BA ac aa (tblF [(138,w138 c),(153,w153 c)] c)))
def ok154:o_k 154 w154:=λhc=>ak (oz e154 i154 hc (aC (ok138 hc) (aC (ok153 hc) aN))) rfl (by kernel_rfl)
def w167(c:ae):FB:=memo (f167 (BA ac aa (tblF [] c)))
def ok167:o_k 167 w167:=λhc=>ak (oz e167 i167 hc aN) rfl (by kernel_rfl)
def w133(c:ae):FB:=memo (f133 (BA ac aa (tblF [(110,w110 c),(154,w154 c),(167,w167 c)] c)))
def ok133:o_k 133 w133:=λhc=>ak (oz e133 i133 hc (aC (ok110 hc) (aC (ok154 hc) (aC (ok167 hc) aN)))) rfl (by kernel_rfl)
def w100(c:ae):FB:=f100 (BA ac aa (tblF [(132,w132 c),(133,w133 c)] c))
def ok100:o_k 100 w100:=λhc=>oz e100 i100 hc (aC (ok132 hc) (aC (ok133 hc) aN))
def w134(c:ae):FB:=memo (f134 (BA ac aa (tblF [(92,w92 c)] c)))
def ok134:o_k 134 w134:=λhc=>ak (oz e134 i134 hc (aC (ok92 hc) aN)) rfl (by kernel_rfl)
def w101(c:ae):FB:=f101 (BA ac aa (tblF [(134,w134 c),(135,w135 c)] c))
def ok101:o_k 101 w101:=λhc=>oz e101 i101 hc (aC (ok134 hc) (aC (ok135 hc) aN))
def w168(c:ae):FB:=f168 (BA ac aa (tblF [] c))
def ok168:o_k 168 w168:=λhc=>oz e168 i168 hc aN
def w136(c:ae):FB:=f136 (BA ac aa (tblF [(168,w168 c)] c))
def ok136:o_k 136 w136:=λhc=>oz e136 i136 hc (aC (ok168 hc) aN)
def w102(c:ae):FB:=f102 (BA ac aa (tblF [(122,w122 c),(136,w136 c)] c))
def ok102:o_k 102 w102:=λhc=>oz e102 i102 hc (aC (ok122 hc) (aC (ok136 hc) aN))
def w105(c:ae):FB:=f105 (BA ac aa (tblF [] c))
def ok105:o_k 105 w105:=λhc=>oz e105 i105 hc aN
def w68(c:ae):FB:=f68 (BA ac aa (tblF [(60,w60 c),(100,w100 c),(101,w101 c),(102,w102 c),(105,w105 c)] c))
def ok68:o_k 68 w68:=λhc=>oz e68 i68 hc (aC (ok60 hc) (aC (ok100 hc) (aC (ok101 hc) (aC (ok102 hc) (aC (ok105 hc) aN)))))
def w36(c:ae):FB:=f36 (BA ac aa (tblF [(68,w68 c)] c))
def ok36:o_k 36 w36:=λhc=>oz e36 i36 hc (aC (ok68 hc) aN)
def w37(c:ae):FB:=memo (f37 (BA ac aa (tblF [] c)))
def ok37:o_k 37 w37:=λhc=>ak (oz e37 i37 hc aN) rfl (by kernel_rfl)
def w10(c:ae):FB:=memo (f10 (BA ac aa (tblF [(9,w9 c),(13,w13 c),(21,w21 c),(23,w23 c),(24,w24 c),(36,w36 c),(37,w37 c),(38,w38 c)] c)))
def ok10:o_k 10 w10:=λhc=>ak (oz e10 i10 hc (aC (ok9 hc) (aC (ok13 hc) (aC (ok21 hc) (aC (ok23 hc) (aC (ok24 hc) (aC (ok36 hc) (aC (ok37 hc) (aC (ok38 hc) aN))))))))) rfl (by kernel_rfl)
def w3(c:ae):FB:=f3 (BA ac aa (tblF [(6,w6 c),(7,w7 c),(8,w8 c),(9,w9 c),(10,w10 c)] c))
def ok3:o_k 3 w3:=λhc=>oz e3 i3 hc (aC (ok6 hc) (aC (ok7 hc) (aC (ok8 hc) (aC (ok9 hc) (aC (ok10 hc) aN)))))
def w35(c:ae):FB:=f35 (BA ac aa (tblF [(24,w24 c)] c))
def ok35:o_k 35 w35:=λhc=>oz e35 i35 hc (aC (ok24 hc) aN)
def w89(c:ae):FB:=memo (f89 (BA ac aa (tblF [(92,w92 c)] c)))
def ok89:o_k 89 w89:=λhc=>ak (oz e89 i89 hc (aC (ok92 hc) aN)) rfl (by kernel_rfl)
def w51(c:ae):FB:=f51 (BA ac aa (tblF [(73,w73 c),(89,w89 c)] c))
def ok51:o_k 51 w51:=λhc=>oz e51 i51 hc (aC (ok73 hc) (aC (ok89 hc) aN))
def w63(c:ae):FB:=memo (f63 (BA ac aa (tblF [] c)))
def ok63:o_k 63 w63:=λhc=>ak (oz e63 i63 hc aN) rfl (by kernel_rfl)
def w62(c:ae):FB:=memo (f62 (BA ac aa (tblF [(63,w63 c)] c)))
def ok62:o_k 62 w62:=λhc=>ak (oz e62 i62 hc (aC (ok63 hc) aN)) rfl (by kernel_rfl)
def w176(c:ae):FB:=memo (f176 (BA ac aa (tblF [] c)))
def ok176:o_k 176 w176:=λhc=>ak (oz e176 i176 hc aN) rfl (by kernel_rfl)
def w137(c:ae):FB:=memo (f137 (BA ac aa (tblF [(176,w176 c)] c)))
def ok137:o_k 137 w137:=λhc=>ak (oz e137 i137 hc (aC (ok176 hc) aN)) rfl (by kernel_rfl)
def w123(c:ae):FB:=f123 (BA ac aa (tblF [(137,w137 c)] c))
def ok123:o_k 123 w123:=λhc=>oz e123 i123 hc (aC (ok137 hc) aN)
def w80(c:ae):FB:=memo (f80 (BA ac aa (tblF [(123,w123 c)] c)))
def ok80:o_k 80 w80:=λhc=>ak (oz e80 i80 hc (aC (ok123 hc) aN)) rfl (by kernel_rfl)
def w182(c:ae):FB:=f182 (BA ac aa (tblF [] c))
def ok182:o_k 182 w182:=λhc=>oz e182 i182 hc aN
def w157(c:ae):FB:=f157 (BA ac aa (tblF [(182,w182 c)] c))
def ok157:o_k 157 w157:=λhc=>oz e157 i157 hc (aC (ok182 hc) aN)
def w130(c:ae):FB:=f130 (BA ac aa (tblF [(32,w32 c),(64,w64 c),(157,w157 c)] c))
def ok130:o_k 130 w130:=λhc=>oz e130 i130 hc (aC (ok32 hc) (aC (ok64 hc) (aC (ok157 hc) aN)))
def w85(c:ae):FB:=memoR (f85 (BA ac aa (tblF [(130,w130 c)] c)))
def ok85:o_k 85 w85:=λhc=>ent_ro (oz e85 i85 hc (aC (ok130 hc) aN)) rfl (by kernel_rfl) (by kernel_rfl)
def w87(c:ae):FB:=memo (f87 (BA ac aa (tblF [] c)))
def ok87:o_k 87 w87:=λhc=>ak (oz e87 i87 hc aN) rfl (by kernel_rfl)
def w104(c:ae):FB:=f104 (BA ac aa (tblF [(137,w137 c)] c))
def ok104:o_k 104 w104:=λhc=>oz e104 i104 hc (aC (ok137 hc) aN)
def w103(c:ae):FB:=memo (f103 (BA ac aa (tblF [(104,w104 c)] c)))
def ok103:o_k 103 w103:=λhc=>ak (oz e103 i103 hc (aC (ok104 hc) aN)) rfl (by kernel_rfl)
def w109(c:ae):FB:=f109 (BA ac aa (tblF [(64,w64 c),(73,w73 c),(89,w89 c),(110,w110 c)] c))
def ok109:o_k 109 w109:=λhc=>oz e109 i109 hc (aC (ok64 hc) (aC (ok73 hc) (aC (ok89 hc) (aC (ok110 hc) aN))))
def w120(c:ae):FB:=memo (f120 (BA ac aa (tblF [(117,w117 c)] c)))
def ok120:o_k 120 w120:=λhc=>ak (oz e120 i120 hc (aC (vu hc) aN)) rfl (by kernel_rfl)
def w126(c:ae):FB:=memo (f126 (BA ac aa (tblF [(153,w153 c)] c)))
def ok126:o_k 126 w126:=λhc=>ak (oz e126 i126 hc (aC (ok153 hc) aN)) rfl (by kernel_rfl)
def w127(c:ae):FB:=memo (f127 (BA ac aa (tblF [] c)))
def ok127:o_k 127 w127:=λhc=>ak (oz e127 i127 hc aN) rfl (by kernel_rfl)
def w155(c:ae):FB:=memo (f155 (BA ac aa (tblF [] c)))
def ok155:o_k 155 w155:=λhc=>ak (oz e155 i155 hc aN) rfl (by kernel_rfl)
def w156(c:ae):FB:=f156 (BA ac aa (tblF [] c))
def ok156:o_k 156 w156:=λhc=>oz e156 i156 hc aN
def w128(c:ae):FB:=memo (f128 (BA ac aa (tblF [(154,w154 c),(155,w155 c),(156,w156 c)] c)))
def ok128:o_k 128 w128:=λhc=>ak (oz e128 i128 hc (aC (ok154 hc) (aC (ok155 hc) (aC (ok156 hc) aN)))) rfl (by kernel_rfl)
def w124(c:ae):FB:=f124 (BA ac aa (tblF [(64,w64 c),(125,w125 c),(126,w126 c),(127,w127 c),(128,w128 c),(129,w129 c)] c))
def ok124:o_k 124 w124:=λhc=>oz e124 i124 hc (aC (ok64 hc) (aC (ok125 hc) (aC (ok126 hc) (aC (ok127 hc) (aC (ok128 hc) (aC (ok129 hc) aN))))))
def w183(c:ae):FB:=memo (f183 (BA ac aa (tblF [(65,w65 c),(66,w66 c)] c)))
def ok183:o_k 183 w183:=λhc=>ak (oz e183 i183 hc (aC (ok65 hc) (aC (ok66 hc) aN))) rfl (by kernel_rfl)
def w187(c:ae):FB:=f187 (BA ac aa (tblF [(98,w98 c),(108,w108 c)] c))
def ok187:o_k 187 w187:=λhc=>oz e187 i187 hc (aC (ok98 hc) (aC (ok108 hc) aN))
def y_of{κ:Nat}{g:ae->List Value->Nat->FB}{ct:ae->ae}{c:ae}(h0:∀vs l ls h K,qY (BA ac aa (ct c)) (xc 0) ac drN (aa κ) vs l ls h K=g c vs l ls h K)(hc:Cok (ct c)):YOk cc ac aa κ (g c):=by
 intro vs l ls h K w st pd xs e hy hk
 rw[←h0]at hk
 obtain⟨b,h',a1,a3⟩:=wv (X:=xc 0) (BA_ok (w:=w) hc) sQ (ju e) rfl rfl rfl rfl hy hk
 exact⟨b,h',a1,a3⟩
def ctY800(c:ae):ae:=tblF [(85,w85 c)] c
def bY800(c:ae)(vs:List Value)(lp:Nat):FB:=λls h K=>ucVB vs (λx8 b1=>chkB x8 ( ucVB b1 (λa3 b2=>chkB a3 ( uc0B b2 ( unIB ls (λg2 b3=>unIB b3 (λn14 b4=>unIB b4 (λn16 b5=>unIB b5 (λn18 b6=>un0B b6 (newB (.cells [(.int .i64 (.ofNat (nat_lit 0))),(.int .i64 (.ofNat (nat_lit 0))),(.int .u8 (.ofNat (nat_lit 0)))] 3 true) h (λa0 b7=>stB (.pointer (some ⟨a0,0,none⟩)) [(.int .i64 n14),(.int .i64 n16),(.int .u8 n18)] b7 (λg3 b8=>lp1B lp b8 (λa1=>lgB cc 3 x8 a1 (λb9=>ucIB .i64 b9 (λn26 c0=>ucIB .i64 c0 (λn28 c1=>ucVB c1 (λa4 d0=>chkB a4 ( uc0B d0 ( optB (fdP 1 (.pointer (some ⟨a0,0,none⟩))) (λx32=>chkB x32 ( optB (fdP 0 x32) (λa5=>chkB a5 ( lgB cc 1 a5 a1 (λd1=>ucIB .i64 d1 (λn35 d2=>uc0B d2 ( optB (fdP 1 (.pointer (some ⟨a0,0,none⟩))) (λa6=>chkB a6 ( optB (fdP 1 a6) (λa7=>chkB a7 ( lgB cc 1 a7 a1 (λd3=>ucIB .u8 d3 (λd4 d5=>uc0B d5 ( yb (ctY800 c) 85 [.i n26,.i n28,.v a4,.i n35,.i d4] a1 (λd6 a2=>unIB d6 (λn44 d7=>unIB d7 (λn46 d8=>un0B d8 (joinB (λd9 e0=>un0B d9 (lp2B lp none e0 (λe1=>K [.b true] e1))) (λa8=>cB ( a8 [] a2) ( lgB cc 1 a3 a2 (λe2=>ucVB e2 (λa9 e4=>chkB a9 ( uc0B e4 ( optB (fdP 0 (.pointer (some ⟨a0,0,none⟩))) (λx56=>chkB x56 ( lgB cc 1 x56 a2 (λe5=>ucIB .i64 e5 (λn58 f0=>uc0B f0 ( newB (.cells [(.int .i64 n58),(.int .u8 n44)] 2 true) a2 (λf1 f2=>apB aa cc 2 16 a9 (.slice (some ⟨f1,0,(some 12)⟩) 1 2) f2 (λf4 f5=>ucVB f4 (λb0 g0=>chkB b0 ( uc0B g0 ( stB a3 [b0] f5 (λg4 g1=>a8 [] g1)))))))))))))))) (notK (eqZK n44 (.ofNat (nat_lit 0))))))))))))))))))))))))))))))))))))))))))
def pfY800(c:ae)(vs:List Value)(lp:Nat)(ls:List Lf)(h:HTr)(K:List Lf->HTr->RT):y800 (BA ac aa (ctY800 c)) vs lp ls h K=bY800 c vs lp ls h K:=uf (λx8 l9=>kS (uf (λx10 l11=>kS (ot (ug (λn12 l13=>ug (λn14 l15=>ug (λn16 l17=>ug (λn18 l19=>q_un0 (q_new (λm20 h21=>q_st (λl22 h23=>q_lp1 (λh24=>q_lg (λl25=>vC (λn26 l27=>vC (λn28 l29=>uf (λx30 l31=>kS (ot (q_opt (λx32=>kS (q_opt (λx33=>kS (q_lg (λl34=>vC (λn35 l36=>ot (q_opt (λx37=>kS (q_opt (λx38=>kS (q_lg (λl39=>vC (λn40 l41=>ot (q_callD (λl42 h43=>ug (λn44 l45=>ug (λn46 l47=>q_un0 (q_neq (q_join (λl49 h50=>q_un0 (q_lp2 (λh51=>rfl))) (λj52=>q_cond (q_lg (λl53=>uf (λx54 l55=>kS (ot (q_opt (λx56=>kS (q_lg (λl57=>vC (λn58 l59=>ot (q_new (λm60 h61=>q_ap (λl62 h63=>uf (λx64 l65=>kS (ot (q_st (λl66 h67=>rfl)))))))))))))))) (rfl))))))))))))))))))))))))))))))))))))))))
def okY800{c:ae}(hc:Cok c):YOk cc ac aa 800 (bY800 c):=y_of (g:=bY800) (ct:=ctY800) (λvs l ls h K=>(congrFun (congrFun (congrFun (congrFun (congrFun (congrFun (congrFun (congrFun ey800 RT) HTr) _) vs) l) ls) h) K).symm.trans (pfY800 c vs l ls h K)) (vT hc (by
  intro p hp
  simp only[qak,qbM,or_false]at hp
  subst hp
  exact ok85 hc))
def ctY2112(c:ae):ae:=tblF [] c
def sD(c:ae)(vs:List Value)(lp:Nat):FB:=λls h K=>ucVB vs (λx8 a4=>chkB x8 ( uc0B a4 ( unIB ls (λn10 a5=>unIB a5 (λa6 a7=>un0B a7 (newB (.cells [(.int .i64 (.ofNat (nat_lit 0))),(.int .u8 (.ofNat (nat_lit 0)))] 2 true) h (λa1 a8=>stB (.pointer (some ⟨a1,0,none⟩)) [(.int .i64 n10),(.int .u8 a6)] a8 (λd0 a9=>lp1B lp a9 (λa0=>lgB cc 1 x8 a0 (λb0=>ucVB b0 (λa2 b1=>chkB a2 ( uc0B b1 ( lgB cc 2 (.pointer (some ⟨a1,0,none⟩)) a0 (λb2=>ucIB .i64 b2 (λn23 b3=>ucIB .u8 b3 (λn25 b4=>uc0B b4 ( newB (.cells [(.int .i64 n23),(.int .u8 n25)] 2 true) a0 (λb5 b6=>apB aa cc 2 16 a2 (.slice (some ⟨b5,0,(some 12)⟩) 1 2) b6 (λb7 b8=>ucVB b7 (λa3 b9=>chkB a3 ( uc0B b9 ( stB x8 [a3] b8 (λd1 c0=>lp2B lp none c0 (λc1=>K [.b true] c1))))))))))))))))))))))))
def pfY2112(c:ae)(vs:List Value)(lp:Nat)(ls:List Lf)(h:HTr)(K:List Lf->HTr->RT):y2112 (BA ac aa (ctY2112 c)) vs lp ls h K=sD c vs lp ls h K:=uf (λx8 l9=>kS (ot (ug (λn10 l11=>ug (λn12 l13=>q_un0 (q_new (λm14 h15=>q_st (λl16 h17=>q_lp1 (λh18=>q_lg (λl19=>uf (λx20 l21=>kS (ot (q_lg (λl22=>vC (λn23 l24=>vC (λn25 l26=>ot (q_new (λm27 h28=>q_ap (λl29 h30=>uf (λx31 l32=>kS (ot (q_st (λl33 h34=>q_lp2 (λh35=>rfl))))))))))))))))))))))))
def okY2112{c:ae}(hc:Cok c):YOk cc ac aa 2112 (sD c):=y_of (g:=sD) (ct:=ctY2112) (λvs l ls h K=>(congrFun (congrFun (congrFun (congrFun (congrFun (congrFun (congrFun (congrFun ey2112 RT) HTr) _) vs) l) ls) h) K).symm.trans (pfY2112 c vs l ls h K)) (vT hc (by
  intro p hp
  cases hp))
def tabW(c:ae):Tr FB:=(.node nf (.node nf (.node (w3 c) (.node (w7 c) (.node (w15 c) (.node (w31 c) (.node (w63 c) (.node (w127 c) .leaf .leaf) .leaf) (.node (w95 c) .leaf .leaf)) (.node (w47 c) .leaf (.node (w111 c) .leaf .leaf))) (.node (w23 c) (.node nf (.node (w71 c) (.node (w135 c) .leaf .leaf) .leaf) (.node (w103 c) (.node (w167 c) .leaf .leaf) .leaf)) (.node (w55 c) (.node (w87 c) .leaf .leaf) (.node (w119 c) (.node (w183 c) .leaf .leaf) .leaf)))) (.node nf (.node nf (.node (w35 c) (.node (w67 c) (.node (w131 c) .leaf .leaf) .leaf) (.node (w99 c) .leaf .leaf)) (.node (w51 c) (.node (w83 c) .leaf .leaf) (.node (w115 c) .leaf .leaf))) (.node (w27 c) (.node (w43 c) (.node (w75 c) (.node (w139 c) .leaf .leaf) .leaf) (.node (w107 c) .leaf .leaf)) (.node (w59 c) (.node (w91 c) (.node (w155 c) .leaf .leaf) .leaf) (.node (w123 c) (.node (w187 c) .leaf .leaf) .leaf))))) (.node nf (.node (w9 c) (.node (w17 c) (.node (w33 c) (.node (w65 c) (.node (w129 c) .leaf .leaf) .leaf) (.node (w97 c) .leaf .leaf)) (.node (w49 c) (.node (w81 c) .leaf .leaf) (.node (w113 c) .leaf .leaf))) (.node (w25 c) (.node nf (.node (w73 c) (.node (w137 c) .leaf .leaf) .leaf) (.node (w105 c) .leaf .leaf)) (.node (w57 c) (.node (w89 c) (.node (w153 c) .leaf .leaf) .leaf) .leaf))) (.node (w13 c) (.node (w21 c) (.node (w37 c) (.node nf (.node (w133 c) .leaf .leaf) .leaf) (.node (w101 c) .leaf .leaf)) (.node (w53 c) (.node (w85 c) .leaf .leaf) (.node (w117 c) .leaf .leaf))) (.node (w29 c) (.node (w45 c) (.node (w77 c) (.node (w141 c) .leaf .leaf) .leaf) (.node (w109 c) .leaf .leaf)) (.node (w61 c) (.node (w93 c) (.node (w157 c) .leaf .leaf) .leaf) (.node (w125 c) .leaf .leaf)))))) (.node nf (.node nf (.node (w8 c) (.node (w16 c) (.node (w32 c) (.node (w64 c) (.node (w128 c) .leaf .leaf) .leaf) (.node (w96 c) .leaf .leaf)) (.node (w48 c) (.node (w80 c) .leaf .leaf) (.node (w112 c) (.node (w176 c) .leaf .leaf) .leaf))) (.node (w24 c) (.node nf (.node (w72 c) (.node (w136 c) .leaf .leaf) .leaf) (.node (w104 c) (.node (w168 c) .leaf .leaf) .leaf)) (.node (w56 c) (.node (w88 c) (.node (w152 c) .leaf .leaf) .leaf) (.node (w120 c) .leaf .leaf)))) (.node nf (.node nf (.node (w36 c) (.node (w68 c) (.node (w132 c) .leaf .leaf) .leaf) (.node (w100 c) .leaf .leaf)) (.node (w52 c) (.node (w84 c) .leaf .leaf) (.node (w116 c) .leaf .leaf))) (.node (w28 c) (.node (w44 c) (.node (w76 c) (.node (w140 c) .leaf .leaf) .leaf) (.node (w108 c) .leaf .leaf)) (.node (w60 c) (.node (w92 c) (.node (w156 c) .leaf .leaf) .leaf) (.node (w124 c) .leaf .leaf))))) (.node (w6 c) (.node (w10 c) (.node (w18 c) (.node (w34 c) (.node (w66 c) (.node (w130 c) .leaf .leaf) .leaf) (.node (w98 c) .leaf .leaf)) (.node (w50 c) (.node (w82 c) .leaf .leaf) (.node (w114 c) .leaf .leaf))) (.node (w26 c) (.node (w42 c) (.node (w74 c) (.node (w138 c) .leaf .leaf) .leaf) (.node (w106 c) .leaf .leaf)) (.node (w58 c) (.node (w90 c) (.node (w154 c) .leaf .leaf) .leaf) (.node (w122 c) .leaf .leaf)))) (.node (w14 c) (.node (w22 c) (.node (w38 c) (.node (w70 c) (.node (w134 c) .leaf .leaf) .leaf) (.node (w102 c) (.node (w166 c) .leaf .leaf) .leaf)) (.node (w54 c) (.node (w86 c) .leaf .leaf) (.node (w118 c) (.node (w182 c) .leaf .leaf) .leaf))) (.node (w30 c) (.node (w46 c) (.node (w78 c) (.node (w142 c) .leaf .leaf) .leaf) (.node (w110 c) .leaf .leaf)) (.node (w62 c) (.node (w94 c) (.node (w158 c) .leaf .leaf) .leaf) (.node (w126 c) .leaf .leaf)))))))
def stepF(c:ae):ae:=λck=>match ck with
 | .f f=>match Nat.blt f 188 with
  |true=>(bq f).get nf (tabW c)
  |false=>nf
 | .y κ vs l=>lookY [(800,bY800 c),(2112,sD c)] κ (λvs l ls h K=>qY (BA ac aa c) (xc 0) ac drN (aa κ) vs l ls h K) vs l
def runF(n:Nat):ae:=Nat.rec (motive:=λ_=>ae) (λ_ _ _ _=>none) (λ_ c=>stepF c) n
def bG{k:Nat}(h1:(λc=>(bq k).get nf (tabW c))=λ_=>nf)(c:ae):Ent k ((bq k).get nf (tabW c)):=by
 intro ls h K w hls hk
 rw[congrFun h1 c]at hk
 cases hk
def ao{k:Nat}{g:ae->FB}(h1:(λc=>(bq k).get nf (tabW c))=g){c:ae}(h:Ent k (g c)):Ent k ((bq k).get nf (tabW c)):=by
 rw[congrFun h1 c];exact h
def tabW_ok{c:ae}(hc:Cok c):∀f,Nat.blt f 188=true->Ent f ((bq f).get nf (tabW c))
 |0,_=>bG (by kernel_rfl) c
 |1,_=>bG (by kernel_rfl) c
 |2,_=>bG (by kernel_rfl) c
 |3,_=>ao (g:=λc=>w3 c) (by kernel_rfl) (ok3 hc)
 |4,_=>bG (by kernel_rfl) c
 |5,_=>bG (by kernel_rfl) c
 |6,_=>ao (g:=λc=>w6 c) (by kernel_rfl) (ok6 hc)
 |7,_=>ao (g:=λc=>w7 c) (by kernel_rfl) (ok7 hc)
 |8,_=>ao (g:=λc=>w8 c) (by kernel_rfl) (ok8 hc)
 |9,_=>ao (g:=λc=>w9 c) (by kernel_rfl) (ok9 hc)
 |10,_=>ao (g:=λc=>w10 c) (by kernel_rfl) (ok10 hc)
 |11,_=>bG (by kernel_rfl) c
 |12,_=>bG (by kernel_rfl) c
 |13,_=>ao (g:=λc=>w13 c) (by kernel_rfl) (ok13 hc)
 |14,_=>ao (g:=λc=>w14 c) (by kernel_rfl) (ok14 hc)
 |15,_=>ao (g:=λc=>w15 c) (by kernel_rfl) (ok15 hc)
 |16,_=>ao (g:=λc=>w16 c) (by kernel_rfl) (ok16 hc)
 |17,_=>ao (g:=λc=>w17 c) (by kernel_rfl) (ok17 hc)
 |18,_=>ao (g:=λc=>w18 c) (by kernel_rfl) (ok18 hc)
 |19,_=>bG (by kernel_rfl) c
 |20,_=>bG (by kernel_rfl) c
 |21,_=>ao (g:=λc=>w21 c) (by kernel_rfl) (ok21 hc)
 |22,_=>ao (g:=λc=>w22 c) (by kernel_rfl) (ok22 hc)
 |23,_=>ao (g:=λc=>w23 c) (by kernel_rfl) (ok23 hc)
 |24,_=>ao (g:=λc=>w24 c) (by kernel_rfl) (ok24 hc)
 |25,_=>ao (g:=λc=>w25 c) (by kernel_rfl) (ok25 hc)
 |26,_=>ao (g:=λc=>w26 c) (by kernel_rfl) (ok26 hc)
 |27,_=>ao (g:=λc=>w27 c) (by kernel_rfl) (ok27 hc)
 |28,_=>ao (g:=λc=>w28 c) (by kernel_rfl) (ok28 hc)
 |29,_=>ao (g:=λc=>w29 c) (by kernel_rfl) (ok29 hc)
 |30,_=>ao (g:=λc=>w30 c) (by kernel_rfl) (ok30 hc)
 |31,_=>ao (g:=λc=>w31 c) (by kernel_rfl) (ok31 hc)
 |32,_=>ao (g:=λc=>w32 c) (by kernel_rfl) (ok32 hc)
 |33,_=>ao (g:=λc=>w33 c) (by kernel_rfl) (ok33 hc)
 |34,_=>ao (g:=λc=>w34 c) (by kernel_rfl) (ok34 hc)
 |35,_=>ao (g:=λc=>w35 c) (by kernel_rfl) (ok35 hc)
 |36,_=>ao (g:=λc=>w36 c) (by kernel_rfl) (ok36 hc)
 |37,_=>ao (g:=λc=>w37 c) (by kernel_rfl) (ok37 hc)
 |38,_=>ao (g:=λc=>w38 c) (by kernel_rfl) (ok38 hc)
 |39,_=>bG (by kernel_rfl) c
 |40,_=>bG (by kernel_rfl) c
 |41,_=>bG (by kernel_rfl) c
 |42,_=>ao (g:=λc=>w42 c) (by kernel_rfl) (ok42 hc)
 |43,_=>ao (g:=λc=>w43 c) (by kernel_rfl) (ok43 hc)
 |44,_=>ao (g:=λc=>w44 c) (by kernel_rfl) (ok44 hc)
 |45,_=>ao (g:=λc=>w45 c) (by kernel_rfl) (ok45 hc)
 |46,_=>ao (g:=λc=>w46 c) (by kernel_rfl) (ok46 hc)
 |47,_=>ao (g:=λc=>w47 c) (by kernel_rfl) (ok47 hc)
 |48,_=>ao (g:=λc=>w48 c) (by kernel_rfl) (ok48 hc)
 |49,_=>ao (g:=λc=>w49 c) (by kernel_rfl) (ok49 hc)
 |50,_=>ao (g:=λc=>w50 c) (by kernel_rfl) (ok50 hc)
 |51,_=>ao (g:=λc=>w51 c) (by kernel_rfl) (ok51 hc)
 |52,_=>ao (g:=λc=>w52 c) (by kernel_rfl) (ok52 hc)
 |53,_=>ao (g:=λc=>w53 c) (by kernel_rfl) (ok53 hc)
 |54,_=>ao (g:=λc=>w54 c) (by kernel_rfl) (ok54 hc)
 |55,_=>ao (g:=λc=>w55 c) (by kernel_rfl) (ok55 hc)
 |56,_=>ao (g:=λc=>w56 c) (by kernel_rfl) (ok56 hc)
 |57,_=>ao (g:=λc=>w57 c) (by kernel_rfl) (ok57 hc)
 |58,_=>ao (g:=λc=>w58 c) (by kernel_rfl) (ok58 hc)
 |59,_=>ao (g:=λc=>w59 c) (by kernel_rfl) (ok59 hc)
 |60,_=>ao (g:=λc=>w60 c) (by kernel_rfl) (ok60 hc)
 |61,_=>ao (g:=λc=>w61 c) (by kernel_rfl) (ok61 hc)
 |62,_=>ao (g:=λc=>w62 c) (by kernel_rfl) (ok62 hc)
 |63,_=>ao (g:=λc=>w63 c) (by kernel_rfl) (ok63 hc)
 |64,_=>ao (g:=λc=>w64 c) (by kernel_rfl) (ok64 hc)
 |65,_=>ao (g:=λc=>w65 c) (by kernel_rfl) (ok65 hc)
 |66,_=>ao (g:=λc=>w66 c) (by kernel_rfl) (ok66 hc)
 |67,_=>ao (g:=λc=>w67 c) (by kernel_rfl) (ok67 hc)
 |68,_=>ao (g:=λc=>w68 c) (by kernel_rfl) (ok68 hc)
 |69,_=>bG (by kernel_rfl) c
 |70,_=>ao (g:=λc=>w70 c) (by kernel_rfl) (ok70 hc)
 |71,_=>ao (g:=λc=>w71 c) (by kernel_rfl) (ok71 hc)
 |72,_=>ao (g:=λc=>w72 c) (by kernel_rfl) (ok72 hc)
 |73,_=>ao (g:=λc=>w73 c) (by kernel_rfl) (ok73 hc)
 |74,_=>ao (g:=λc=>w74 c) (by kernel_rfl) (ok74 hc)
 |75,_=>ao (g:=λc=>w75 c) (by kernel_rfl) (ok75 hc)
 |76,_=>ao (g:=λc=>w76 c) (by kernel_rfl) (ok76 hc)
 |77,_=>ao (g:=λc=>w77 c) (by kernel_rfl) (ok77 hc)
 |78,_=>ao (g:=λc=>w78 c) (by kernel_rfl) (ok78 hc)
 |79,_=>bG (by kernel_rfl) c
 |80,_=>ao (g:=λc=>w80 c) (by kernel_rfl) (ok80 hc)
 |81,_=>ao (g:=λc=>w81 c) (by kernel_rfl) (ok81 hc)
 |82,_=>ao (g:=λc=>w82 c) (by kernel_rfl) (ok82 hc)
 |83,_=>ao (g:=λc=>w83 c) (by kernel_rfl) (ok83 hc)
 |84,_=>ao (g:=λc=>w84 c) (by kernel_rfl) (ok84 hc)
 |85,_=>ao (g:=λc=>w85 c) (by kernel_rfl) (ok85 hc)
 |86,_=>ao (g:=λc=>w86 c) (by kernel_rfl) (ok86 hc)
 |87,_=>ao (g:=λc=>w87 c) (by kernel_rfl) (ok87 hc)
 |88,_=>ao (g:=λc=>w88 c) (by kernel_rfl) (ok88 hc)
 |89,_=>ao (g:=λc=>w89 c) (by kernel_rfl) (ok89 hc)
 |90,_=>ao (g:=λc=>w90 c) (by kernel_rfl) (ok90 hc)
 |91,_=>ao (g:=λc=>w91 c) (by kernel_rfl) (ok91 hc)
 |92,_=>ao (g:=λc=>w92 c) (by kernel_rfl) (ok92 hc)
 |93,_=>ao (g:=λc=>w93 c) (by kernel_rfl) (ok93 hc)
 |94,_=>ao (g:=λc=>w94 c) (by kernel_rfl) (ok94 hc)
 |95,_=>ao (g:=λc=>w95 c) (by kernel_rfl) (ok95 hc)
 |96,_=>ao (g:=λc=>w96 c) (by kernel_rfl) (ok96 hc)
 |97,_=>ao (g:=λc=>w97 c) (by kernel_rfl) (ok97 hc)
 |98,_=>ao (g:=λc=>w98 c) (by kernel_rfl) (ok98 hc)
 |99,_=>ao (g:=λc=>w99 c) (by kernel_rfl) (ok99 hc)
 |100,_=>ao (g:=λc=>w100 c) (by kernel_rfl) (ok100 hc)
 |101,_=>ao (g:=λc=>w101 c) (by kernel_rfl) (ok101 hc)
 |102,_=>ao (g:=λc=>w102 c) (by kernel_rfl) (ok102 hc)
 |103,_=>ao (g:=λc=>w103 c) (by kernel_rfl) (ok103 hc)
 |104,_=>ao (g:=λc=>w104 c) (by kernel_rfl) (ok104 hc)
 |105,_=>ao (g:=λc=>w105 c) (by kernel_rfl) (ok105 hc)
 |106,_=>ao (g:=λc=>w106 c) (by kernel_rfl) (ok106 hc)
 |107,_=>ao (g:=λc=>w107 c) (by kernel_rfl) (ok107 hc)
 |108,_=>ao (g:=λc=>w108 c) (by kernel_rfl) (ok108 hc)
 |109,_=>ao (g:=λc=>w109 c) (by kernel_rfl) (ok109 hc)
 |110,_=>ao (g:=λc=>w110 c) (by kernel_rfl) (ok110 hc)
 |111,_=>ao (g:=λc=>w111 c) (by kernel_rfl) (ok111 hc)
 |112,_=>ao (g:=λc=>w112 c) (by kernel_rfl) (ok112 hc)
 |113,_=>ao (g:=λc=>w113 c) (by kernel_rfl) (ok113 hc)
 |114,_=>ao (g:=λc=>w114 c) (by kernel_rfl) (ok114 hc)
 |115,_=>ao (g:=λc=>w115 c) (by kernel_rfl) (ok115 hc)
 |116,_=>ao (g:=λc=>w116 c) (by kernel_rfl) (ok116 hc)
 |117,_=>ao (g:=λc=>w117 c) (by kernel_rfl) (vu hc)
 |118,_=>ao (g:=λc=>w118 c) (by kernel_rfl) (ok118 hc)
 |119,_=>ao (g:=λc=>w119 c) (by kernel_rfl) (ok119 hc)
 |120,_=>ao (g:=λc=>w120 c) (by kernel_rfl) (ok120 hc)
 |121,_=>bG (by kernel_rfl) c
 |122,_=>ao (g:=λc=>w122 c) (by kernel_rfl) (ok122 hc)
 |123,_=>ao (g:=λc=>w123 c) (by kernel_rfl) (ok123 hc)
 |124,_=>ao (g:=λc=>w124 c) (by kernel_rfl) (ok124 hc)
 |125,_=>ao (g:=λc=>w125 c) (by kernel_rfl) (ok125 hc)
 |126,_=>ao (g:=λc=>w126 c) (by kernel_rfl) (ok126 hc)
 |127,_=>ao (g:=λc=>w127 c) (by kernel_rfl) (ok127 hc)
 |128,_=>ao (g:=λc=>w128 c) (by kernel_rfl) (ok128 hc)
 |129,_=>ao (g:=λc=>w129 c) (by kernel_rfl) (ok129 hc)
 |130,_=>ao (g:=λc=>w130 c) (by kernel_rfl) (ok130 hc)
 |131,_=>ao (g:=λc=>w131 c) (by kernel_rfl) (ok131 hc)
 |132,_=>ao (g:=λc=>w132 c) (by kernel_rfl) (ok132 hc)
 |133,_=>ao (g:=λc=>w133 c) (by kernel_rfl) (ok133 hc)
 |134,_=>ao (g:=λc=>w134 c) (by kernel_rfl) (ok134 hc)
 |135,_=>ao (g:=λc=>w135 c) (by kernel_rfl) (ok135 hc)
 |136,_=>ao (g:=λc=>w136 c) (by kernel_rfl) (ok136 hc)
 |137,_=>ao (g:=λc=>w137 c) (by kernel_rfl) (ok137 hc)
 |138,_=>ao (g:=λc=>w138 c) (by kernel_rfl) (ok138 hc)
 |139,_=>ao (g:=λc=>w139 c) (by kernel_rfl) (ok139 hc)
 |140,_=>ao (g:=λc=>w140 c) (by kernel_rfl) (ok140 hc)
 |141,_=>ao (g:=λc=>w141 c) (by kernel_rfl) (ok141 hc)
 |142,_=>ao (g:=λc=>w142 c) (by kernel_rfl) (ok142 hc)
 |143,_=>bG (by kernel_rfl) c
 |144,_=>bG (by kernel_rfl) c
 |145,_=>bG (by kernel_rfl) c
 |146,_=>bG (by kernel_rfl) c
 |147,_=>bG (by kernel_rfl) c
 |148,_=>bG (by kernel_rfl) c
 |149,_=>bG (by kernel_rfl) c
 |150,_=>bG (by kernel_rfl) c
 |151,_=>bG (by kernel_rfl) c
 |152,_=>ao (g:=λc=>w152 c) (by kernel_rfl) (ok152 hc)
 |153,_=>ao (g:=λc=>w153 c) (by kernel_rfl) (ok153 hc)
 |154,_=>ao (g:=λc=>w154 c) (by kernel_rfl) (ok154 hc)
 |155,_=>ao (g:=λc=>w155 c) (by kernel_rfl) (ok155 hc)
 |156,_=>ao (g:=λc=>w156 c) (by kernel_rfl) (ok156 hc)
 |157,_=>ao (g:=λc=>w157 c) (by kernel_rfl) (ok157 hc)
 |158,_=>ao (g:=λc=>w158 c) (by kernel_rfl) (ok158 hc)
 |159,_=>bG (by kernel_rfl) c
 |160,_=>bG (by kernel_rfl) c
 |161,_=>bG (by kernel_rfl) c
 |162,_=>bG (by kernel_rfl) c
 |163,_=>bG (by kernel_rfl) c
 |164,_=>bG (by kernel_rfl) c
 |165,_=>bG (by kernel_rfl) c
 |166,_=>ao (g:=λc=>w166 c) (by kernel_rfl) (ok166 hc)
 |167,_=>ao (g:=λc=>w167 c) (by kernel_rfl) (ok167 hc)
 |168,_=>ao (g:=λc=>w168 c) (by kernel_rfl) (ok168 hc)
 |169,_=>bG (by kernel_rfl) c
 |170,_=>bG (by kernel_rfl) c
 |171,_=>bG (by kernel_rfl) c
 |172,_=>bG (by kernel_rfl) c
 |173,_=>bG (by kernel_rfl) c
 |174,_=>bG (by kernel_rfl) c
 |175,_=>bG (by kernel_rfl) c
 |176,_=>ao (g:=λc=>w176 c) (by kernel_rfl) (ok176 hc)
 |177,_=>bG (by kernel_rfl) c
 |178,_=>bG (by kernel_rfl) c
 |179,_=>bG (by kernel_rfl) c
 |180,_=>bG (by kernel_rfl) c
 |181,_=>bG (by kernel_rfl) c
 |182,_=>ao (g:=λc=>w182 c) (by kernel_rfl) (ok182 hc)
 |183,_=>ao (g:=λc=>w183 c) (by kernel_rfl) (ok183 hc)
 |184,_=>bG (by kernel_rfl) c
 |185,_=>bG (by kernel_rfl) c
 |186,_=>bG (by kernel_rfl) c
 |187,_=>ao (g:=λc=>w187 c) (by kernel_rfl) (ok187 hc)
 |n+188,h=>by rw[qaK]at h;omega
def stepF_ok{c:ae}(hc:Cok c):Cok (stepF c):=by
 refine⟨λf ls h K w hls hk=>?_,λκ vs l ls h K w st pd xs e hy hk=>?_⟩
 ·have hk:(match Nat.blt f 188 with|true=>(bq f).get nf (tabW c)|false=>nf) ls h K=some w:=hk
  cases e:Nat.blt f 188 with
  |true=>rw[e]at hk;exact tabW_ok hc f e ls h K w hls hk
  |false=>rw[e]at hk;cases hk
 ·have hd:YOk cc ac aa κ (λvs l ls h K=>qY (BA ac aa c) (xc 0) ac drN (aa κ) vs l ls h K):=y_of (g:=λc vs l ls h K=>qY (BA ac aa c) (xc 0) ac drN (aa κ) vs l ls h K) (ct:=λc=>c) (λ_ _ _ _ _=>rfl) hc
  refine wO hd (l:=[(800,bY800 c),(2112,sD c)]) (λp hp=>?_) vs l ls h K w st pd xs e hy hk
  simp only[qak,qbM,or_false]at hp
  rcases hp with rfl|rfl
  ·exact okY800 hc
  ·exact okY2112 hc
def rS:∀n,Cok (runF n)
 |0=>⟨λ_ _ _ _ _ _ h=>by(cases h),λ_ _ _ _ _ _ _ _ _ _ _ _ h=>by(cases h)⟩
 |n+1=>stepF_ok (rS n)
end Go.Am
namespace Go.Am
namespace Sx
section
variable [Val] [Kno]
def peekH(T:Nat->Site)(f:Pk)(h:HL)(K:List Value->Prop):Prop:=∃cs,f.run (getH T h)=some cs/\K cs
def heapH(T:Nat->Site)(f:Hp)(h:HL)(K:List Value->HL->Prop):Prop:=∃acts cs,f.run (getH T h) h.length=some (acts,cs)/\K cs (bI h acts)
def callH(C:Cfg)(Sg:FuncId->Option Sig)(T:Nat->Site)(g:FuncId)(ls:List Lf)(h:HL)(K:List Lf->HL->Prop):Prop:=∃rs h',aw C Sg g ls (absH T h) rs (absH T h')/\K rs h'
def callvH(C:Cfg)(T:Nat->Site)(v:Value)(args:List Value)(hs:List SK)(h:HL)(K:List Lf->HL->Prop):Prop:=∃rs h',ss C v args hs (absH T h) rs (absH T h')/\K rs h'
def itH(F:(List Lf->HL->Prop)->List Lf->HL->Prop)(n:Nat):List Lf->HL->Prop:=
 match n with
 |0=>λ_ _=>False
 |n+1=>F (itH F n)
def loopH(F:(List Lf->HL->Prop)->List Lf->HL->Prop)(ls:List Lf)(h:HL):Prop:=∃n,itH F n ls h
def rfunH(C:Cfg)(T:Nat->Site)(κ:Nat)(v:Value)(vals:List Value)(h:HL)(K:Option Code->HL->Prop):Prop:=
 ∃g first cap r H1 lp h2,v = .func (.func g) first cap/\
  iD C g (first.toList++[.func (.yield (absH T h).length) #[] #[]]++cap.toList) (absH T h++[.loop (lpOf (T κ) κ vals)]) r H1/\
  dW H1 (absH T h).length=some lp/\lp.state≠.busy/\absH T h2=H1.set (absH T h).length (.loop { lp with state:=.exhausted })/\K lp.pending h2
def lp1H(T:Nat->Site)(l:Nat)(h:HL)(K:HL->Prop):Prop:=∃lp h',dW (absH T h) l=some lp/\lp.state = .ready/\absH T h'=(absH T h).set l (.loop { lp with state:=.busy })/\K h'
def lp2H(T:Nat->Site)(l:Nat)(j:Option Code)(h:HL)(K:HL->Prop):Prop:=∃lp h',dW (absH T h) l=some lp/\absH T h'=(absH T h).set l (.loop { lp with state:=if j.isNone then .ready else .done,pending:=j })/\K h'
def PH(C:Cfg)(Sg:FuncId->Option Sig)(T:Nat->Site):Alg Prop HL where
 fail:=False
 cond:=condP
 ari:=ariP
 shf:=λop k a k' b K=>∃n,ShRun op k a k' b n/\K n
 cmp:=cmpP
 eqs:=λl K=>K (cb l)
 conv:=λk a K=>K (k.wrap a)
 sel:=λt a b K=>K (if t then a else b)
 opt:=optP
 chk:=λv K=>aP v=true/\K
 unI:=unIP
 unB:=unBP
 unV:=unVP
 un0:=un0P
 ucI:=ucIP
 ucB:=ucBP
 ucV:=ucVP
 uc0:=uc0P
 peek:=peekH T
 heap:=heapH T
 new:=λo h K=>K h.length (h++[.o o])
 call:=callH C Sg T
 callv:=callvH C T
 join:=λb m=>m b
 loop:=loopH
 rfun:=rfunH C T
 pend:=pendP
 lp1:=lp1H T
 lp2:=lp2H T
def PH_ok(C:Cfg)(Sg:FuncId->Option Sig)(T:Nat->Site):AlgOk (PH C Sg T) C Sg T id (absH T) where
 fail:=(fH C Sg T).fail
 cond:=(fH C Sg T).cond
 ari:=(fH C Sg T).ari
 shf:=(fH C Sg T).shf
 cmp:=(fH C Sg T).cmp
 eqs:=(fH C Sg T).eqs
 conv:=(fH C Sg T).conv
 sel:=(fH C Sg T).sel
 opt:=(fH C Sg T).opt
 chk:=(fH C Sg T).chk
 unI:=(fH C Sg T).unI
 unB:=(fH C Sg T).unB
 unV:=(fH C Sg T).unV
 un0:=(fH C Sg T).un0
 ucI:=(fH C Sg T).ucI
 ucB:=(fH C Sg T).ucB
 ucV:=(fH C Sg T).ucV
 uc0:=(fH C Sg T).uc0
 peek:=by
  intro f h K hk
  obtain⟨cs,h1,h2⟩:=hk
  exact⟨cs,by rw[←kw];exact h1,h2⟩
 heap:=by
  intro f h K hk
  obtain⟨acts,cs,h1,h2⟩:=hk
  exact⟨acts,cs,_,by rw[←kw,cZ];exact h1,jS T acts h,h2⟩
 new:=λo h K hk=>⟨_,gr T h _,by rw[cZ];exact hk⟩
 call:=λg ls h K hk=>hk
 callv:=λv args hs h K hk=>hk
 join:=λb m h=>h
 loop:=by
  intro F ls h hk
  obtain⟨n,hk⟩:=hk
  exact⟨itH F,λls h=>(id:False->False),λn ls h=>rfl,n,hk⟩
 rfun:=λκ v vals h K hk=>hk
 pend:=(fH C Sg T).pend
 lp1:=λl h K hk=>hk
 lp2:=λl j h K hk=>hk
section
variable {C:Cfg} {Sg:FuncId->Option Sig} {T:Nat->Site} {call:ae} (hc:CallBOk C Sg T call)
include hc
theorem s_shf{op:BinOp}{k k':IntKind}{a b:Int}{K:Int->RT}{K':Int->Prop}(hk:∀n,K n=yes->K' n)(h:(BA Sg T call).shf op k a k' b K=yes):(PH C Sg T).shf op k a k' b K':=by
 obtain⟨n,h1,h2⟩:=shfB_ok (w:=[]) h
 exact⟨n,h1,hk _ h2⟩
inductive SL2:List (Nat×RT)->List (Nat×Prop)->Prop
 |nil:SL2 [] []
 |cons {id:Nat} {x:RT} {x':Prop} {l:List (Nat×RT)} {l':List (Nat×Prop)} (hx:x=yes->x') (hl:SL2 l l'):SL2 ((id,x) :: l) ((id,x') :: l')
omit hc in
end
def wK{F:(List Lf->HL->Prop)->List Lf->HL->Prop}(Inv:Nat->List Lf->HL->Prop)
  (step:∀m ls h,Inv m ls h->∀self:List Lf->HL->Prop,(∀m' ls h,m'<m->Inv m' ls h->self ls h)->F self ls h):∀n m ls h,m<n->Inv m ls h->itH F n ls h
 |0,_,_,_,hm,_=>absurd hm (qca _)
 |n+1,m,ls,h,hm,hi=>step m ls h hi (itH F n) λm' ls h h' hi'=>wK Inv step n m' ls h (by omega) hi'
def cN{F:(List Lf->HL->Prop)->List Lf->HL->Prop}(Inv:Nat->List Lf->HL->Prop){m:Nat}{ls:List Lf}{h:HL}(hi:Inv m ls h)
  (step:∀m ls h,Inv m ls h->∀self:List Lf->HL->Prop,(∀m' ls h,m'<m->Inv m' ls h->self ls h)->F self ls h):loopH F ls h:=
 ⟨m+1,wK Inv step (m+1) m ls h (Nat.lt_succ_self m) hi⟩
end
end Sx
namespace Sx
class Bx (α:Sort _) where
 v:α
def hid{α:Sort _} [b:Bx α]:α:=b.v
section
variable [Val] [Kno] {C:Cfg} {Sg:FuncId->Option Sig} {T:Nat->Site}
def b_unI{n:Int}{r:List Lf}{K:Int->List Lf->Prop}:(PH C Sg T).unI (.i n :: r) K=K n r:=rfl
def b_unB{n:Bool}{r:List Lf}{K:Bool->List Lf->Prop}:(PH C Sg T).unB (.b n :: r) K=K n r:=rfl
def b_unV{n:Value}{r:List Lf}{K:Value->List Lf->Prop}:(PH C Sg T).unV (.v n :: r) K=K n r:=rfl
def b_un0{K:Prop}:(PH C Sg T).un0 [] K=K:=rfl
def b_ucI{k:IntKind}{n:Int}{r:List Value}{K:Int->List Value->Prop}:(PH C Sg T).ucI k (.int k n :: r) K=K n r:=by
 show(k=k/\K n r)=K n r
 simp
def b_ucB{n:Bool}{r:List Value}{K:Bool->List Value->Prop}:(PH C Sg T).ucB (.bool n :: r) K=K n r:=rfl
def b_ucV{n:Value}{r:List Value}{K:Value->List Value->Prop}:(PH C Sg T).ucV (n :: r) K=K n r:=rfl
def b_uc0{K:Prop}:(PH C Sg T).uc0 [] K=K:=rfl
def b_cond_t{X Y:Prop}:(PH C Sg T).cond true X Y=X:=by
 show((true=true->X)/\(true=false->Y))=X
 simp
def b_cond_f{X Y:Prop}:(PH C Sg T).cond false X Y=Y:=by
 show((false=true->X)/\(false=false->Y))=Y
 simp
def b_lss_t{a b:Int}{K:Bool->Prop}(h:a<b):(PH C Sg T).cmp .lss a b K=K true:=by
 show K (decide (a<b))=_;rw[decide_eq_true h]
def b_lss_f{a b:Int}{K:Bool->Prop}(h:b<=a):(PH C Sg T).cmp .lss a b K=K false:=by
 show K (decide (a<b))=_;rw[decide_eq_false (by omega)]
def b_leq_t{a b:Int}{K:Bool->Prop}(h:a<=b):(PH C Sg T).cmp .leq a b K=K true:=by
 show K (decide (a<=b))=_;rw[decide_eq_true h]
def b_leq_f{a b:Int}{K:Bool->Prop}(h:b<a):(PH C Sg T).cmp .leq a b K=K false:=by
 show K (decide (a<=b))=_;rw[decide_eq_false (by omega)]
def b_gtr_t{a b:Int}{K:Bool->Prop}(h:b<a):(PH C Sg T).cmp .gtr a b K=K true:=by
 show K (decide (a > b))=_;rw[decide_eq_true h]
def b_gtr_f{a b:Int}{K:Bool->Prop}(h:a<=b):(PH C Sg T).cmp .gtr a b K=K false:=by
 show K (decide (a > b))=_;rw[decide_eq_false (by omega)]
def b_geq_t{a b:Int}{K:Bool->Prop}(h:b<=a):(PH C Sg T).cmp .geq a b K=K true:=by
 show K (decide (a ≥ b))=_;rw[decide_eq_true h]
def b_geq_f{a b:Int}{K:Bool->Prop}(h:a<b):(PH C Sg T).cmp .geq a b K=K false:=by
 show K (decide (a ≥ b))=_;rw[decide_eq_false (by omega)]
def b_eql_t{a b:Int}{K:Bool->Prop}(h:a=b):(PH C Sg T).cmp .eql a b K=K true:=by
 show K (a==b)=_;rw[beq_iff_eq.2 h]
def b_eql_f{a b:Int}{K:Bool->Prop}(h:a≠b):(PH C Sg T).cmp .eql a b K=K false:=by
 show K (a==b)=_;rw[beq_false_of_ne h]
def b_neq_t{a b:Int}{K:Bool->Prop}(h:a≠b):(PH C Sg T).cmp .neq a b K=K true:=by
 show K (a != b)=_;rw[bne_iff_ne.2 h]
def b_neq_f{a b:Int}{K:Bool->Prop}(h:a=b):(PH C Sg T).cmp .neq a b K=K false:=by
 show K (a != b)=_;subst h;simp
def b_add{a b:Int}{K:Int->Prop}(h1:-9223372036854775808<=a+b)(h2:a+b<=9223372036854775807):(PH C Sg T).ari .add .i64 a b K=K (a+b):=by
 show K (IntKind.wrap .i64 (a+b))=_;rw[cS h1 h2]
def b_sub{a b:Int}{K:Int->Prop}(h1:-9223372036854775808<=a - b)(h2:a - b<=9223372036854775807):(PH C Sg T).ari .sub .i64 a b K=K (a - b):=by
 show K (IntKind.wrap .i64 (a - b))=_;rw[cS h1 h2]
def b_mul{a b:Int}{K:Int->Prop}(h1:-9223372036854775808<=a*b)(h2:a*b<=9223372036854775807):(PH C Sg T).ari .mul .i64 a b K=K (a*b):=by
 show K (IntKind.wrap .i64 (a*b))=_;rw[cS h1 h2]
def b_add8{a b:Int}{K:Int->Prop}(h1:0<=a+b)(h2:a+b<=255):(PH C Sg T).ari .add .u8 a b K=K (a+b):=by
 show K (IntKind.wrap .u8 (a+b))=_;rw[si h1 h2]
def b_sub8{a b:Int}{K:Int->Prop}(h1:0<=a - b)(h2:a - b<=255):(PH C Sg T).ari .sub .u8 a b K=K (a - b):=by
 show K (IntKind.wrap .u8 (a - b))=_;rw[si h1 h2]
def b_mul8{a b:Int}{K:Int->Prop}(h1:0<=a*b)(h2:a*b<=255):(PH C Sg T).ari .mul .u8 a b K=K (a*b):=by
 show K (IntKind.wrap .u8 (a*b))=_;rw[si h1 h2]
def tdiv_nn{a b:Int}(h:0<=a):a.tdiv b=a / b:=Int.tdiv_eq_ediv_of_nonneg h
def b_quo_nn{a b:Int}{K:Int->Prop}(h:0<=a)(hb:0<b)(h2:a<=9223372036854775807):(PH C Sg T).ari .quo .i64 a b K=K (a / b):=by
 show(b≠0/\K (IntKind.wrap .i64 (a.tdiv b)))=_
 have h3:a / b<=a:=Int.ediv_le_self b h
 have h4:0<=a / b:=Int.ediv_nonneg h (by omega)
 rw[tdiv_nn h,cS (by omega) (by omega)]
 simp;intro _ h;omega
def b_quo_dv{a b:Int}{K:Int->Prop}(h:a%b=0)(hb:0<b)(h1:-9223372036854775808<=a)(h2:a<=9223372036854775807):(PH C Sg T).ari .quo .i64 a b K=K (a / b):=by
 show(b≠0/\K (IntKind.wrap .i64 (a.tdiv b)))=_
 obtain⟨q,rfl⟩:=Int.dvd_of_emod_eq_zero h
 rw[Int.mul_tdiv_cancel_left q (by omega),Int.mul_ediv_cancel_left q (by omega)]
 have hq:-9223372036854775808<=q/\q<=9223372036854775807:=by
  rcases qcW 0 q with hs|hs
  ·have:=qck (show(1:Int)<=b by omega) hs
   omega
  ·have:=qck (show(1:Int)<=b by omega) (show 0<=-q by omega)
   rw[Int.mul_neg b q]at this
   omega
 rw[cS hq.1 hq.2]
 simp;intro _ h;omega
def b_rem_nn{k:IntKind}{a b:Int}{K:Int->Prop}(h:0<=a)(hb:0<b):(PH C Sg T).ari .rem k a b K=K (a%b):=by
 show(b≠0/\K (a.tmod b))=_
 rw[qdf h]
 simp;intro _ h;omega
def b_rem_np{k:IntKind}{a b:Int}{K:Int->Prop}(h:a<=0)(hb:0<b):(PH C Sg T).ari .rem k a b K=K (-((-a)%b)):=by
 show(b≠0/\K (a.tmod b))=_
 have:a.tmod b = -((-a)%b):=by
  have h1:=Int.neg_tmod a b
  rw[qdf (a:=-a) (by omega)]at h1
  omega
 rw[this]
 simp;intro _ h;omega
def b_and1{a:Int}{K:Int->Prop}:(PH C Sg T).ari .and .i64 a 1 K=K (a%2):=by
 show(((1:Int)=1/\K (a%2))∨((1:Int)≠1/\∃n,qt .and .i64 a 1 n/\K n))=K (a%2)
 simp
def b_conv{a:Int}{K:Int->Prop}(h1:-9223372036854775808<=a)(h2:a<=9223372036854775807):(PH C Sg T).conv .i64 a K=K a:=by
 show K (IntKind.wrap .i64 a)=_;rw[cS h1 h2]
def b_conv8{a:Int}{K:Int->Prop}(h1:0<=a)(h2:a<=255):(PH C Sg T).conv .u8 a K=K a:=by
 show K (IntKind.wrap .u8 a)=_;rw[si h1 h2]
def b_sel_t{a b:Int}{K:Int->Prop}:(PH C Sg T).sel true a b K=K a:=rfl
def b_sel_f{a b:Int}{K:Int->Prop}:(PH C Sg T).sel false a b K=K b:=rfl
def b_opt{α:Type}{x:α}{K:α->Prop}:(PH C Sg T).opt (some x) K=K x:=by
 show(∃y,some x=some y/\K y)=K x
 simp
def b_inB{n:Nat}{i:Int}{K:Unit->Prop}(h1:0<=i)(h2:i<(n:Int)):(PH C Sg T).opt (inB n i) K=K ():=by
 rw[show inB n i=some ()from(inB_eq n i).trans (if_pos ⟨h1,h2⟩),b_opt]
def b_join{b:List Lf->HL->Prop}{m:(List Lf->HL->Prop)->Prop}:(PH C Sg T).join b m=m b:=rfl
def b_eqs0{K:Bool->Prop}:(PH C Sg T).eqs [] K=K true:=rfl
def b_eqs_t{a b:Int}{l:List (Lf×Lf)}{K:Bool->Prop}(h:a=b):(PH C Sg T).eqs ((.i a,.i b) :: l) K=(PH C Sg T).eqs l K:=by
 show K (cb _)=K (cb l)
 subst h
 simp[cb,gp]
def b_eqs_f{a b:Int}{l:List (Lf×Lf)}{K:Bool->Prop}(h:a≠b):(PH C Sg T).eqs ((.i a,.i b) :: l) K=K false:=by
 show K (cb _)=K false
 have:(a==b)=false:=beq_false_of_ne h
 simp[cb,gp,this]
def p_loop{F:(List Lf->HL->Prop)->List Lf->HL->Prop}{ls:List Lf}{h:HL}(n:Nat)(hn:itH F n ls h):(PH C Sg T).loop F ls h:=⟨n,hn⟩
def b_it{F:(List Lf->HL->Prop)->List Lf->HL->Prop}{n:Nat}{ls:List Lf}{h:HL}:itH F (n+1) ls h=F (itH F n) ls h:=rfl
def af{g:FuncId}{ls rs:List Lf}{h:HL}{K:List Lf->HL->Prop}(hc:∀H,aw C Sg g ls H rs H)(hk:K rs h):(PH C Sg T).call g ls h (@hid _ ⟨K⟩):=⟨rs,h,hc _,hk⟩
def b_eqsb_t{a b:Bool}{l:List (Lf×Lf)}{K:Bool->Prop}(h:a=b):(PH C Sg T).eqs ((.b a,.b b) :: l) K=(PH C Sg T).eqs l K:=by
 show K (cb _)=K (cb l)
 subst h
 simp[cb,gp]
def b_eqsb_tf{l:List (Lf×Lf)}{K:Bool->Prop}:(PH C Sg T).eqs ((.b true,.b false) :: l) K=K false:=rfl
def b_eqsb_ft{l:List (Lf×Lf)}{K:Bool->Prop}:(PH C Sg T).eqs ((.b false,.b true) :: l) K=K false:=rfl
def b_mul_1{b:Int}{K:Int->Prop}(h1:-9223372036854775808<=b)(h2:b<=9223372036854775807):(PH C Sg T).ari .mul .i64 1 b K=K b:=by
 show K (IntKind.wrap .i64 (1*b))=_;rw[Int.one_mul,cS h1 h2]
def b_mul_0{b:Int}{K:Int->Prop}:(PH C Sg T).ari .mul .i64 0 b K=K 0:=by
 show K (IntKind.wrap .i64 (0*b))=_;rw[Int.zero_mul];rfl
def b_mul_m{b:Int}{K:Int->Prop}(h1:-9223372036854775808<=-b)(h2:-b<=9223372036854775807):(PH C Sg T).ari .mul .i64 (-1) b K=K (-b):=by
 show K (IntKind.wrap .i64 (-1*b))=_
 have:(-1*b:Int) = -b:=by omega
 rw[this,cS h1 h2]
def b_mul_r1{b:Int}{K:Int->Prop}(h1:-9223372036854775808<=b)(h2:b<=9223372036854775807):(PH C Sg T).ari .mul .i64 b 1 K=K b:=by
 show K (IntKind.wrap .i64 (b*1))=_;rw[Int.mul_one,cS h1 h2]
def b_mul_r0{b:Int}{K:Int->Prop}:(PH C Sg T).ari .mul .i64 b 0 K=K 0:=by
 show K (IntKind.wrap .i64 (b*0))=_;rw[Int.mul_zero];rfl
def b_mul_rm{b:Int}{K:Int->Prop}(h1:-9223372036854775808<=-b)(h2:-b<=9223372036854775807):(PH C Sg T).ari .mul .i64 b (-1) K=K (-b):=by
 show K (IntKind.wrap .i64 (b * -1))=_
 have:(b * -1:Int) = -b:=by omega
 rw[this,cS h1 h2]
def b_add_0{b:Int}{K:Int->Prop}(h1:-9223372036854775808<=b)(h2:b<=9223372036854775807):(PH C Sg T).ari .add .i64 0 b K=K b:=by
 show K (IntKind.wrap .i64 (0+b))=_;rw[qcX,cS h1 h2]
def b_add_r0{b:Int}{K:Int->Prop}(h1:-9223372036854775808<=b)(h2:b<=9223372036854775807):(PH C Sg T).ari .add .i64 b 0 K=K b:=by
 show K (IntKind.wrap .i64 (b+0))=_;rw[Int.add_zero,cS h1 h2]
def b_add_11{K:Int->Prop}:(PH C Sg T).ari .add .i64 1 1 K=K 2:=by
 show K (IntKind.wrap .i64 (1+1))=_;rfl
def b_quo_1{a:Int}{K:Int->Prop}(h1:-9223372036854775808<=a)(h2:a<=9223372036854775807):(PH C Sg T).ari .quo .i64 a 1 K=K a:=by
 show((1:Int)≠0/\K (IntKind.wrap .i64 (a.tdiv 1)))=_
 rw[Int.tdiv_one,cS h1 h2];simp
def p_ari_2{op:BinOp}{k:IntKind}{a b b':Int}{K:Int->Prop}(hb:b=b')(h:(PH C Sg T).ari op k a b' K):(PH C Sg T).ari op k a b K:=by rw[hb];exact h
def am{α:Type}{o:Option α}{x:α}{K:α->Prop}(h:o=some x)(hk:K x):(PH C Sg T).opt o (@hid _ ⟨K⟩):=⟨x,h,hk⟩
theorem p_unI{n:Int}{r:List Lf}{K:Int->List Lf->Prop}:(PH C Sg T).unI (.i n :: r) (@hid _ ⟨K⟩)=K n r:=b_unI
theorem p_unB{n:Bool}{r:List Lf}{K:Bool->List Lf->Prop}:(PH C Sg T).unB (.b n :: r) (@hid _ ⟨K⟩)=K n r:=b_unB
theorem p_unV{n:Value}{r:List Lf}{K:Value->List Lf->Prop}:(PH C Sg T).unV (.v n :: r) (@hid _ ⟨K⟩)=K n r:=b_unV
theorem p_un0{K:Prop}:(PH C Sg T).un0 [] (@hid _ ⟨K⟩)=K:=b_un0
theorem p_ucI{k:IntKind}{n:Int}{r:List Value}{K:Int->List Value->Prop}:(PH C Sg T).ucI k (.int k n :: r) (@hid _ ⟨K⟩)=K n r:=b_ucI
theorem p_ucB{n:Bool}{r:List Value}{K:Bool->List Value->Prop}:(PH C Sg T).ucB (.bool n :: r) (@hid _ ⟨K⟩)=K n r:=b_ucB
theorem p_ucV{n:Value}{r:List Value}{K:Value->List Value->Prop}:(PH C Sg T).ucV (n :: r) (@hid _ ⟨K⟩)=K n r:=b_ucV
theorem p_uc0{K:Prop}:(PH C Sg T).uc0 [] (@hid _ ⟨K⟩)=K:=b_uc0
theorem p_cond_t{X Y:Prop}:(PH C Sg T).cond true (@hid _ ⟨X⟩) Y=X:=b_cond_t
theorem p_cond_f{X Y:Prop}:(PH C Sg T).cond false X (@hid _ ⟨Y⟩)=Y:=b_cond_f
theorem p_lss_t{a b:Int}{K:Bool->Prop}(h:a<b):(PH C Sg T).cmp .lss a b (@hid _ ⟨K⟩)=K true:=b_lss_t h
theorem p_lss_f{a b:Int}{K:Bool->Prop}(h:b<=a):(PH C Sg T).cmp .lss a b (@hid _ ⟨K⟩)=K false:=b_lss_f h
theorem p_leq_t{a b:Int}{K:Bool->Prop}(h:a<=b):(PH C Sg T).cmp .leq a b (@hid _ ⟨K⟩)=K true:=b_leq_t h
theorem p_leq_f{a b:Int}{K:Bool->Prop}(h:b<a):(PH C Sg T).cmp .leq a b (@hid _ ⟨K⟩)=K false:=b_leq_f h
theorem p_gtr_t{a b:Int}{K:Bool->Prop}(h:b<a):(PH C Sg T).cmp .gtr a b (@hid _ ⟨K⟩)=K true:=b_gtr_t h
theorem p_gtr_f{a b:Int}{K:Bool->Prop}(h:a<=b):(PH C Sg T).cmp .gtr a b (@hid _ ⟨K⟩)=K false:=b_gtr_f h
theorem p_geq_t{a b:Int}{K:Bool->Prop}(h:b<=a):(PH C Sg T).cmp .geq a b (@hid _ ⟨K⟩)=K true:=b_geq_t h
theorem p_geq_f{a b:Int}{K:Bool->Prop}(h:a<b):(PH C Sg T).cmp .geq a b (@hid _ ⟨K⟩)=K false:=b_geq_f h
theorem p_eql_t{a b:Int}{K:Bool->Prop}(h:a=b):(PH C Sg T).cmp .eql a b (@hid _ ⟨K⟩)=K true:=b_eql_t h
theorem p_eql_f{a b:Int}{K:Bool->Prop}(h:a≠b):(PH C Sg T).cmp .eql a b (@hid _ ⟨K⟩)=K false:=b_eql_f h
theorem p_neq_t{a b:Int}{K:Bool->Prop}(h:a≠b):(PH C Sg T).cmp .neq a b (@hid _ ⟨K⟩)=K true:=b_neq_t h
theorem p_neq_f{a b:Int}{K:Bool->Prop}(h:a=b):(PH C Sg T).cmp .neq a b (@hid _ ⟨K⟩)=K false:=b_neq_f h
theorem p_add{a b:Int}{K:Int->Prop}(h1:-9223372036854775808<=a+b)(h2:a+b<=9223372036854775807):(PH C Sg T).ari .add .i64 a b (@hid _ ⟨K⟩)=K (a+b):=b_add h1 h2
theorem p_sub{a b:Int}{K:Int->Prop}(h1:-9223372036854775808<=a - b)(h2:a - b<=9223372036854775807):(PH C Sg T).ari .sub .i64 a b (@hid _ ⟨K⟩)=K (a - b):=b_sub h1 h2
theorem p_mul{a b:Int}{K:Int->Prop}(h1:-9223372036854775808<=a*b)(h2:a*b<=9223372036854775807):(PH C Sg T).ari .mul .i64 a b (@hid _ ⟨K⟩)=K (a*b):=b_mul h1 h2
theorem p_add8{a b:Int}{K:Int->Prop}(h1:0<=a+b)(h2:a+b<=255):(PH C Sg T).ari .add .u8 a b (@hid _ ⟨K⟩)=K (a+b):=b_add8 h1 h2
theorem p_sub8{a b:Int}{K:Int->Prop}(h1:0<=a - b)(h2:a - b<=255):(PH C Sg T).ari .sub .u8 a b (@hid _ ⟨K⟩)=K (a - b):=b_sub8 h1 h2
theorem p_mul8{a b:Int}{K:Int->Prop}(h1:0<=a*b)(h2:a*b<=255):(PH C Sg T).ari .mul .u8 a b (@hid _ ⟨K⟩)=K (a*b):=b_mul8 h1 h2
theorem p_quo_nn{a b:Int}{K:Int->Prop}(h:0<=a)(hb:0<b)(h2:a<=9223372036854775807):(PH C Sg T).ari .quo .i64 a b (@hid _ ⟨K⟩)=K (a / b):=b_quo_nn h hb h2
theorem p_quo_dv{a b:Int}{K:Int->Prop}(h:a%b=0)(hb:0<b)(h1:-9223372036854775808<=a)(h2:a<=9223372036854775807):(PH C Sg T).ari .quo .i64 a b (@hid _ ⟨K⟩)=K (a / b):=b_quo_dv h hb h1 h2
theorem p_rem_nn{k:IntKind}{a b:Int}{K:Int->Prop}(h:0<=a)(hb:0<b):(PH C Sg T).ari .rem k a b (@hid _ ⟨K⟩)=K (a%b):=b_rem_nn h hb
theorem p_rem_np{k:IntKind}{a b:Int}{K:Int->Prop}(h:a<=0)(hb:0<b):(PH C Sg T).ari .rem k a b (@hid _ ⟨K⟩)=K (-((-a)%b)):=b_rem_np h hb
theorem p_and1{a:Int}{K:Int->Prop}:(PH C Sg T).ari .and .i64 a 1 (@hid _ ⟨K⟩)=K (a%2):=b_and1
theorem p_conv{a:Int}{K:Int->Prop}(h1:-9223372036854775808<=a)(h2:a<=9223372036854775807):(PH C Sg T).conv .i64 a (@hid _ ⟨K⟩)=K a:=b_conv h1 h2
theorem p_conv8{a:Int}{K:Int->Prop}(h1:0<=a)(h2:a<=255):(PH C Sg T).conv .u8 a (@hid _ ⟨K⟩)=K a:=b_conv8 h1 h2
theorem p_sel_t{a b:Int}{K:Int->Prop}:(PH C Sg T).sel true a b (@hid _ ⟨K⟩)=K a:=b_sel_t
theorem p_sel_f{a b:Int}{K:Int->Prop}:(PH C Sg T).sel false a b (@hid _ ⟨K⟩)=K b:=b_sel_f
theorem p_opt{α:Type}{x:α}{K:α->Prop}:(PH C Sg T).opt (some x) (@hid _ ⟨K⟩)=K x:=b_opt
theorem p_inB{n:Nat}{i:Int}{K:Unit->Prop}(h1:0<=i)(h2:i<(n:Int)):(PH C Sg T).opt (inB n i) (@hid _ ⟨K⟩)=K ():=b_inB h1 h2
theorem p_join{b:List Lf->HL->Prop}{m:(List Lf->HL->Prop)->Prop}:(PH C Sg T).join (@hid _ ⟨b⟩) (@hid _ ⟨m⟩)=m (@hid _ ⟨b⟩):=b_join
theorem p_eqs0{K:Bool->Prop}:(PH C Sg T).eqs [] (@hid _ ⟨K⟩)=K true:=b_eqs0
theorem p_eqs_t{a b:Int}{l:List (Lf×Lf)}{K:Bool->Prop}(h:a=b):(PH C Sg T).eqs ((.i a,.i b) :: l) (@hid _ ⟨K⟩)=(PH C Sg T).eqs l (@hid _ ⟨K⟩):=b_eqs_t h
theorem p_eqs_f{a b:Int}{l:List (Lf×Lf)}{K:Bool->Prop}(h:a≠b):(PH C Sg T).eqs ((.i a,.i b) :: l) (@hid _ ⟨K⟩)=K false:=b_eqs_f h
theorem p_it{F:(List Lf->HL->Prop)->List Lf->HL->Prop}{n:Nat}{ls:List Lf}{h:HL}:itH (@hid _ ⟨F⟩) (n+1) ls h=F (itH (@hid _ ⟨F⟩) n) ls h:=b_it
theorem p_eqsb_t{a b:Bool}{l:List (Lf×Lf)}{K:Bool->Prop}(h:a=b):(PH C Sg T).eqs ((.b a,.b b) :: l) (@hid _ ⟨K⟩)=(PH C Sg T).eqs l (@hid _ ⟨K⟩):=b_eqsb_t h
theorem p_eqsb_tf{l:List (Lf×Lf)}{K:Bool->Prop}:(PH C Sg T).eqs ((.b true,.b false) :: l) (@hid _ ⟨K⟩)=K false:=b_eqsb_tf
theorem p_eqsb_ft{l:List (Lf×Lf)}{K:Bool->Prop}:(PH C Sg T).eqs ((.b false,.b true) :: l) (@hid _ ⟨K⟩)=K false:=b_eqsb_ft
theorem p_mul_1{b:Int}{K:Int->Prop}(h1:-9223372036854775808<=b)(h2:b<=9223372036854775807):(PH C Sg T).ari .mul .i64 1 b (@hid _ ⟨K⟩)=K b:=b_mul_1 h1 h2
theorem p_mul_0{b:Int}{K:Int->Prop}:(PH C Sg T).ari .mul .i64 0 b (@hid _ ⟨K⟩)=K 0:=b_mul_0
theorem p_mul_m{b:Int}{K:Int->Prop}(h1:-9223372036854775808<=-b)(h2:-b<=9223372036854775807):(PH C Sg T).ari .mul .i64 (-1) b (@hid _ ⟨K⟩)=K (-b):=b_mul_m h1 h2
theorem p_mul_r1{b:Int}{K:Int->Prop}(h1:-9223372036854775808<=b)(h2:b<=9223372036854775807):(PH C Sg T).ari .mul .i64 b 1 (@hid _ ⟨K⟩)=K b:=b_mul_r1 h1 h2
theorem p_mul_r0{b:Int}{K:Int->Prop}:(PH C Sg T).ari .mul .i64 b 0 (@hid _ ⟨K⟩)=K 0:=b_mul_r0
theorem p_mul_rm{b:Int}{K:Int->Prop}(h1:-9223372036854775808<=-b)(h2:-b<=9223372036854775807):(PH C Sg T).ari .mul .i64 b (-1) (@hid _ ⟨K⟩)=K (-b):=b_mul_rm h1 h2
theorem p_add_0{b:Int}{K:Int->Prop}(h1:-9223372036854775808<=b)(h2:b<=9223372036854775807):(PH C Sg T).ari .add .i64 0 b (@hid _ ⟨K⟩)=K b:=b_add_0 h1 h2
theorem p_add_r0{b:Int}{K:Int->Prop}(h1:-9223372036854775808<=b)(h2:b<=9223372036854775807):(PH C Sg T).ari .add .i64 b 0 (@hid _ ⟨K⟩)=K b:=b_add_r0 h1 h2
theorem p_add_11{K:Int->Prop}:(PH C Sg T).ari .add .i64 1 1 (@hid _ ⟨K⟩)=K 2:=b_add_11
theorem p_quo_1{a:Int}{K:Int->Prop}(h1:-9223372036854775808<=a)(h2:a<=9223372036854775807):(PH C Sg T).ari .quo .i64 a 1 (@hid _ ⟨K⟩)=K a:=b_quo_1 h1 h2
theorem p_hid2{f:List Lf->HL->Prop}{a:List Lf}{b:HL}:@hid _ ⟨f⟩ a b=f a b:=rfl
theorem p_eqs2_f{a b c d:Int}{K:Bool->Prop}(h:¬(a=c/\b=d)):(PH C Sg T).eqs [(.i a,.i c),(.i b,.i d)] (@hid _ ⟨K⟩)=K false:=by
 show K (cb _)=K false
 have:cb [(.i a,.i c),(.i b,.i d)]=false:=by
  rw[qcN]
  simpa[cb,gp]using h
 rw[this]
theorem p_eqs3_f{a b c d e f:Int}{K:Bool->Prop}(h:¬(a=d/\b=e/\c=f)):(PH C Sg T).eqs [(.i a,.i d),(.i b,.i e),(.i c,.i f)] (@hid _ ⟨K⟩)=K false:=by
 show K (cb _)=K false
 have:cb [(.i a,.i d),(.i b,.i e),(.i c,.i f)]=false:=by
  rw[qcN]
  simpa[cb,gp]using h
 rw[this]
def ai{g:FuncId}{ls rs:List Lf}{h h':HL}{K:List Lf->HL->Prop}(hc:aw C Sg g ls (absH T h) rs (absH T h'))(hk:K rs h'):(PH C Sg T).call g ls h (@hid _ ⟨K⟩):=⟨rs,h',hc,hk⟩
def jl{g:FuncId}{sg:Sig}{ls rs:List Lf}{H H':List HObj}(hc:aw C Sg g ls H rs H')(hs:Sg g=some sg)(xs:List S0)(h1:bJ xs sg.ps=true)(h2:bK xs=ls) :
  ss C (.func (.func g) #[] #[]) (ah xs) sg.rs H rs H':=by
 obtain⟨sg',xs',ys,c1,c2,c3,c4⟩:=hc
 rw[hs]at c1
 cases c1
 obtain⟨w1,_⟩:=cG c2.1 h1 (c2.2.1.trans h2.symm)
 rw[w1]at c4
 exact⟨ys,c3,.inl ⟨g,#[],#[],rfl,by simpa using c4⟩⟩
def gQ{v:Value}{args:List Value}{hs:List SK}{rs:List Lf}{h h':HL}{K:List Lf->HL->Prop}(hc:ss C v args hs (absH T h) rs (absH T h'))(hk:K rs h'):(PH C Sg T).callv v args hs h (@hid _ ⟨K⟩):=⟨rs,h',hc,hk⟩
theorem p_new{o:HObj}{h:HL}{K:Nat->HL->Prop}:(PH C Sg T).new o h (@hid _ ⟨K⟩)=K h.length (h++[.o o]):=rfl
def aH{v:Value}{K:Prop}(h:aP v=true)(hk:K):(PH C Sg T).chk v (@hid _ ⟨K⟩):=⟨h,hk⟩
def cO{f:Hp}{h:HL}{K:List Value->HL->Prop}{acts:List Act1}{cs:List Value}(e:f.run (getH T h) h.length=some (acts,cs))(hk:K cs (bI h acts)):(PH C Sg T).heap f h (@hid _ ⟨K⟩):=⟨acts,cs,e,hk⟩
def eu{f:Pk}{h:HL}{K:List Value->Prop}{cs:List Value}(e:f.run (getH T h)=some cs)(hk:K cs):(PH C Sg T).peek f h (@hid _ ⟨K⟩):=⟨cs,e,hk⟩
def pxs(C:Cfg)(Sg:FuncId->Option Sig)(T:Nat->Site):=And.intro @p_hid2 (And.intro (@p_new _ _ C Sg T) (And.intro (@p_unI _ _ C Sg T) (And.intro (@p_unB _ _ C Sg T) (And.intro (@p_unV _ _ C Sg T) (And.intro (@p_un0 _ _ C Sg T) (And.intro (@p_ucI _ _ C Sg T) (And.intro (@p_ucB _ _ C Sg T) (And.intro (@p_ucV _ _ C Sg T) (And.intro (@p_uc0 _ _ C Sg T) (And.intro (@p_cond_t _ _ C Sg T) (And.intro (@p_cond_f _ _ C Sg T) (And.intro (@p_opt _ _ C Sg T) (And.intro (@p_inB _ _ C Sg T) (And.intro (@p_join _ _ C Sg T) (And.intro (@p_sel_t _ _ C Sg T) (And.intro (@p_sel_f _ _ C Sg T) ((@p_it))))))))))))))))))
def pxc(C:Cfg)(Sg:FuncId->Option Sig)(T:Nat->Site):=And.intro (@p_lss_t _ _ C Sg T) (And.intro (@p_lss_f _ _ C Sg T) (And.intro (@p_leq_t _ _ C Sg T) (And.intro (@p_leq_f _ _ C Sg T) (And.intro (@p_gtr_t _ _ C Sg T) (And.intro (@p_gtr_f _ _ C Sg T) (And.intro (@p_geq_t _ _ C Sg T) (And.intro (@p_geq_f _ _ C Sg T) (And.intro (@p_eql_t _ _ C Sg T) (And.intro (@p_eql_f _ _ C Sg T) (And.intro (@p_neq_t _ _ C Sg T) (And.intro (@p_neq_f _ _ C Sg T) (And.intro (@p_eqs0 _ _ C Sg T) (And.intro (@p_eqs_t _ _ C Sg T) (And.intro (@p_eqs_f _ _ C Sg T) (And.intro (@p_eqs2_f _ _ C Sg T) (And.intro (@p_eqs3_f _ _ C Sg T) (And.intro (@p_eqsb_t _ _ C Sg T) (And.intro (@p_eqsb_tf _ _ C Sg T) ((@p_eqsb_ft _ _ C Sg T))))))))))))))))))))
def pxa(C:Cfg)(Sg:FuncId->Option Sig)(T:Nat->Site):=And.intro (@p_mul_1 _ _ C Sg T) (And.intro (@p_mul_0 _ _ C Sg T) (And.intro (@p_mul_m _ _ C Sg T) (And.intro (@p_mul_r1 _ _ C Sg T) (And.intro (@p_mul_r0 _ _ C Sg T) (And.intro (@p_mul_rm _ _ C Sg T) (And.intro (@p_add_0 _ _ C Sg T) (And.intro (@p_add_r0 _ _ C Sg T) (And.intro (@p_add_11 _ _ C Sg T) (And.intro (@p_quo_1 _ _ C Sg T) (And.intro (@p_add _ _ C Sg T) (And.intro (@p_sub _ _ C Sg T) (And.intro (@p_mul _ _ C Sg T) (And.intro (@p_add8 _ _ C Sg T) (And.intro (@p_sub8 _ _ C Sg T) (And.intro (@p_mul8 _ _ C Sg T) (And.intro (@p_quo_nn _ _ C Sg T) (And.intro (@p_quo_dv _ _ C Sg T) (And.intro (@p_rem_nn _ _ C Sg T) (And.intro (@p_rem_np _ _ C Sg T) (And.intro (@p_and1 _ _ C Sg T) (And.intro (@p_conv _ _ C Sg T) ((@p_conv8 _ _ C Sg T)))))))))))))))))))))))
end
end Sx
namespace Sx
section
variable [Val] [Kno]
variable {C:Cfg} {Sg:FuncId->Option Sig} {T:Nat->Site}
def wC{h:HL}{l κ:Nat}{st:LoopState}{pd:Option Code}{vs:List Value}(e:h[l]?=some (.lp κ st pd vs)):dW (absH T h) l=some { lpOf (T κ) κ vs with state:=st,pending:=pd }:=by
 unfold dW absH
 rw[qat,e]
 rfl
def absH_app1(h:HL)(o:HO):absH T (h++[o])=absH T h++[absO T o]:=by simp[absH]
def p_rfun{g:FuncId}{first cap:Array Value}{κ:Nat}{vals:List Value}{h h1:HL}{ls rs:List Lf}{K:Option Code->HL->Prop}{κ':Nat}{st:LoopState}{pd:Option Code}{vs:List Value}{sg:Sig}{xs:List S0}
  (hc:aw C Sg g ls (absH T (h++[.lp κ .ready none vals])) rs (absH T h1)) (hs:Sg g=some sg) (h2:bJ xs sg.ps=true) (h3:bK xs=ls) (h4:ah xs=first.toList++[.func (.yield h.length) #[] #[]]++cap.toList)
  (hl:h1[h.length]?=some (.lp κ' st pd vs)) (hst:st≠.busy) (hk:K pd (h1.set h.length (.lp κ' .exhausted pd vs))):(PH C Sg T).rfun κ (.func (.func g) first cap) vals h (@hid _ ⟨K⟩):=by
 obtain⟨sg',xs',ys,c1,c2,c3,c4⟩:=hc
 rw[hs]at c1
 cases c1
 have hlen:(absH T h).length=h.length:=cZ T h
 obtain⟨w1,_⟩:=cG c2.1 h2 (c2.2.1.trans h3.symm)
 rw[w1,h4,absH_app1]at c4
 refine⟨g,first,cap,eV (ah ys),absH T h1,{ lpOf (T κ') κ' vs with state:=st,pending:=pd },h1.set h.length (.lp κ' .exhausted pd vs),rfl,?_,?_,hst,?_,hk⟩
 ·rw[hlen];exact c4
 ·rw[hlen];exact wC hl
 ·rw[hlen]
  simp[absH,absO,qdD]
def mM{h:HL}{l:Nat}{o:HO}:absH T (h.set l o)=(absH T h).set l (absO T o):=by
 unfold absH
 rw[qdD]
def p_lp1{l κ:Nat}{pd:Option Code}{vs:List Value}{h:HL}{K:HL->Prop}(hl:h[l]?=some (.lp κ .ready pd vs))(hk:K (h.set l (.lp κ .busy pd vs))):(PH C Sg T).lp1 l h (@hid _ ⟨K⟩):=
 ⟨{ lpOf (T κ) κ vs with state:=.ready,pending:=pd },h.set l (.lp κ .busy pd vs),wC hl,rfl,mM,hk⟩
def p_lp2{l κ:Nat}{st:LoopState}{pd:Option Code}{vs:List Value}{h:HL}{K:HL->Prop}(hl:h[l]?=some (.lp κ st pd vs))(hk:K (h.set l (.lp κ .ready none vs))):(PH C Sg T).lp2 l none h (@hid _ ⟨K⟩):=
 ⟨{ lpOf (T κ) κ vs with state:=st,pending:=pd },h.set l (.lp κ .ready none vs),wC hl,mM,hk⟩
def p_callY{l:Nat}{ys:List S0}{b:Bool}{h h':HL}{K:List Lf->HL->Prop}(hu:fF C l (ah ys) (absH T h) (.bool b) (absH T h'))(hk:K [.b b] h'):(PH C Sg T).callv (.func (.yield l) #[] #[]) (ah ys) [.leaf .b] h (@hid _ ⟨K⟩):=
 ⟨[.b b],h',⟨[.leaf (.b b)],⟨rfl,rfl,λx hx=>by
  simp only[qau]at hx
  subst hx
  intro y hy
  simp only[S0.cells,qau]at hy
  subst hy;trivial⟩,.inr ⟨l,rfl,hu⟩⟩,hk⟩
end
end Sx
namespace Sx
open Go.Proofs
def hA(A:Alg Prop HL):Alg Prop HL where
 fail:=A.fail
 cond b x y:=A.cond b (@hid _ ⟨x⟩) (@hid _ ⟨y⟩)
 ari o k a b K:=A.ari o k a b (@hid _ ⟨K⟩)
 shf o k a l b K:=A.shf o k a l b (@hid _ ⟨K⟩)
 cmp o a b K:=A.cmp o a b (@hid _ ⟨K⟩)
 eqs l K:=A.eqs l (@hid _ ⟨K⟩)
 conv k a K:=A.conv k a (@hid _ ⟨K⟩)
 sel t a b K:=A.sel t a b (@hid _ ⟨K⟩)
 opt o K:=A.opt o (@hid _ ⟨K⟩)
 chk v x:=A.chk v (@hid _ ⟨x⟩)
 unI l K:=A.unI l (@hid _ ⟨K⟩)
 unB l K:=A.unB l (@hid _ ⟨K⟩)
 unV l K:=A.unV l (@hid _ ⟨K⟩)
 un0 l x:=A.un0 l (@hid _ ⟨x⟩)
 ucI k l K:=A.ucI k l (@hid _ ⟨K⟩)
 ucB l K:=A.ucB l (@hid _ ⟨K⟩)
 ucV l K:=A.ucV l (@hid _ ⟨K⟩)
 uc0 l x:=A.uc0 l (@hid _ ⟨x⟩)
 peek f h K:=A.peek f h (@hid _ ⟨K⟩)
 heap f h K:=A.heap f h (@hid _ ⟨K⟩)
 new o h K:=A.new o h (@hid _ ⟨K⟩)
 call g l h K:=A.call g l h (@hid _ ⟨K⟩)
 callv v a s h K:=A.callv v a s h (@hid _ ⟨K⟩)
 join b m:=A.join (@hid _ ⟨b⟩) (@hid _ ⟨m⟩)
 loop F l h:=A.loop (@hid _ ⟨F⟩) l h
 rfun n v a h K:=A.rfun n v a h (@hid _ ⟨K⟩)
 pend o x y l:=A.pend o (@hid _ ⟨x⟩) (@hid _ ⟨y⟩) l
 lp1 n h K:=A.lp1 n h (@hid _ ⟨K⟩)
 lp2 n o h K:=A.lp2 n o h (@hid _ ⟨K⟩)
def hA_eq(A:Alg Prop HL):hA A=A:=rfl
section
variable {A:Alg Prop HL}
theorem h_cond{b:Bool}{x y:Prop}:(hA A).cond b x y=A.cond b (@hid _ ⟨x⟩) (@hid _ ⟨y⟩):=rfl
theorem h_ari{o:BinOp}{k:IntKind}{a b:Int}{K:Int->Prop}:(hA A).ari o k a b K=A.ari o k a b (@hid _ ⟨K⟩):=rfl
theorem h_shf{o:BinOp}{k l:IntKind}{a b:Int}{K:Int->Prop}:(hA A).shf o k a l b K=A.shf o k a l b (@hid _ ⟨K⟩):=rfl
theorem h_cmp{o:BinOp}{a b:Int}{K:Bool->Prop}:(hA A).cmp o a b K=A.cmp o a b (@hid _ ⟨K⟩):=rfl
theorem h_eqs{l:List (Lf×Lf)}{K:Bool->Prop}:(hA A).eqs l K=A.eqs l (@hid _ ⟨K⟩):=rfl
theorem h_conv{k:IntKind}{a:Int}{K:Int->Prop}:(hA A).conv k a K=A.conv k a (@hid _ ⟨K⟩):=rfl
theorem h_sel{t:Bool}{a b:Int}{K:Int->Prop}:(hA A).sel t a b K=A.sel t a b (@hid _ ⟨K⟩):=rfl
theorem h_opt{α:Type}{o:Option α}{K:α->Prop}:(hA A).opt o K=A.opt o (@hid _ ⟨K⟩):=rfl
theorem h_chk{v:Value}{x:Prop}:(hA A).chk v x=A.chk v (@hid _ ⟨x⟩):=rfl
theorem h_unI{l:List Lf}{K:Int->List Lf->Prop}:(hA A).unI l K=A.unI l (@hid _ ⟨K⟩):=rfl
theorem h_unB{l:List Lf}{K:Bool->List Lf->Prop}:(hA A).unB l K=A.unB l (@hid _ ⟨K⟩):=rfl
theorem h_unV{l:List Lf}{K:Value->List Lf->Prop}:(hA A).unV l K=A.unV l (@hid _ ⟨K⟩):=rfl
theorem h_un0{l:List Lf}{x:Prop}:(hA A).un0 l x=A.un0 l (@hid _ ⟨x⟩):=rfl
theorem h_ucI{k:IntKind}{l:List Value}{K:Int->List Value->Prop}:(hA A).ucI k l K=A.ucI k l (@hid _ ⟨K⟩):=rfl
theorem h_ucB{l:List Value}{K:Bool->List Value->Prop}:(hA A).ucB l K=A.ucB l (@hid _ ⟨K⟩):=rfl
theorem h_ucV{l:List Value}{K:Value->List Value->Prop}:(hA A).ucV l K=A.ucV l (@hid _ ⟨K⟩):=rfl
theorem h_uc0{l:List Value}{x:Prop}:(hA A).uc0 l x=A.uc0 l (@hid _ ⟨x⟩):=rfl
theorem h_peek{f:Pk}{h:HL}{K:List Value->Prop}:(hA A).peek f h K=A.peek f h (@hid _ ⟨K⟩):=rfl
theorem h_heap{f:Hp}{h:HL}{K:List Value->HL->Prop}:(hA A).heap f h K=A.heap f h (@hid _ ⟨K⟩):=rfl
theorem h_new{o:HObj}{h:HL}{K:Nat->HL->Prop}:(hA A).new o h K=A.new o h (@hid _ ⟨K⟩):=rfl
theorem h_call{g:FuncId}{l:List Lf}{h:HL}{K:List Lf->HL->Prop}:(hA A).call g l h K=A.call g l h (@hid _ ⟨K⟩):=rfl
theorem h_callv{v:Value}{a:List Value}{s:List SK}{h:HL}{K:List Lf->HL->Prop}:(hA A).callv v a s h K=A.callv v a s h (@hid _ ⟨K⟩):=rfl
theorem h_join{b:List Lf->HL->Prop}{m:(List Lf->HL->Prop)->Prop}:(hA A).join b m=A.join (@hid _ ⟨b⟩) (@hid _ ⟨m⟩):=rfl
theorem h_loop{F:(List Lf->HL->Prop)->List Lf->HL->Prop}{l:List Lf}{h:HL}:(hA A).loop F l h=A.loop (@hid _ ⟨F⟩) l h:=rfl
theorem h_rfun{n:Nat}{v:Value}{a:List Value}{h:HL}{K:Option Code->HL->Prop}:(hA A).rfun n v a h K=A.rfun n v a h (@hid _ ⟨K⟩):=rfl
theorem h_pend{o:Option Code}{x y:Prop}{l:List (Nat×Prop)}:(hA A).pend o x y l=A.pend o (@hid _ ⟨x⟩) (@hid _ ⟨y⟩) l:=rfl
theorem h_lp1{n:Nat}{h:HL}{K:HL->Prop}:(hA A).lp1 n h K=A.lp1 n h (@hid _ ⟨K⟩):=rfl
theorem h_lp2{n:Nat}{o:Option Code}{h:HL}{K:HL->Prop}:(hA A).lp2 n o h K=A.lp2 n o h (@hid _ ⟨K⟩):=rfl
end
def pxh(A:Alg Prop HL):=And.intro (@h_cond A) (And.intro (@h_ari A) (And.intro (@h_shf A) (And.intro (@h_cmp A) (And.intro (@h_eqs A) (And.intro (@h_conv A) (And.intro (@h_sel A) (And.intro (@h_opt A) (And.intro (@h_chk A) (And.intro (@h_unI A) (And.intro (@h_unB A) (And.intro (@h_unV A) (And.intro (@h_un0 A) (And.intro (@h_ucI A) (And.intro (@h_ucB A) (And.intro (@h_ucV A) (And.intro (@h_uc0 A) (And.intro (@h_peek A) (And.intro (@h_heap A) (And.intro (@h_new A) (And.intro (@h_call A) (And.intro (@h_callv A) (And.intro (@h_join A) (And.intro (@h_loop A) (And.intro (@h_rfun A) (And.intro (@h_pend A) (And.intro (@h_lp1 A) ((@h_lp2 A))))))))))))))))))))))))))))
end Sx
end Go.Am
set_option maxRecDepth 100000
namespace Go.Am
open Sx Go.Proofs
def gl_cell(g:Nat)(vs:List Value)(h:cc.G g=some vs):vs.all aV=true:=by
 unfold cc at h
 simp only at h
 split at h<;>first|(cases h;done)|(obtain rfl:=qap h;kernel_rfl)
abbrev P1:Alg Prop HL:=PH cc ac aa
abbrev Cc(g:FuncId)(ls rs:List Lf):Prop:=∀H,aw cc ac g ls H rs H
def fn_ok{f:FuncId}{fn:Fn1}(hi:FnIs (xc f) ac f fn){ls:List Lf}{H:HL}{K:List Lf->HL->Prop}(hls:gj ls=true)
  (h:aj P1 (xc f) ac drN fn ls H K):∃rs H',aw cc ac f ls (absH aa H) rs (absH aa H')/\K rs H':=by
 obtain⟨rs,h',a1,_,a3⟩:=qX (X:=xc f) (holds:=id) (abs:=absH aa) (PH_ok cc ac aa) sQ hi (eO hls) h
 exact⟨rs,h',a1,a3⟩
def fn_okG{f:FuncId}{fn:Fn1}(hi:FnIs (xc f) ac f fn){ls:List Lf}{H:HL}{K:List Lf->HL->Prop}(hls:eh ls)
  (h:aj P1 (xc f) ac drN fn ls H K):∃rs H',aw cc ac f ls (absH aa H) rs (absH aa H')/\K rs H':=by
 obtain⟨rs,h',a1,_,a3⟩:=qX (X:=xc f) (holds:=id) (abs:=absH aa) (PH_ok cc ac aa) sQ hi hls h
 exact⟨rs,h',a1,a3⟩
def gls0:eh []:=λ_ h=>by cases h
def glsI{n:Int}{ls:List Lf}(h:eh ls):eh (.i n :: ls):=λl hl=>by
 rcases qak.1 hl with rfl|hl
 ·trivial
 ·exact h l hl
def glsV{x:Value}{ls:List Lf}(hx:aP x=true)(h:eh ls):eh (.v x :: ls):=λl hl=>by
 rcases qak.1 hl with rfl|hl
 ·exact hx
 ·exact h l hl
abbrev FP:=List Lf->HL->(List Lf->HL->Prop)->Prop
abbrev UG(k:FuncId)(p:FP):Prop:=∀ {ls:List Lf} {H:HL} {K:List Lf->HL->Prop},gj ls=true->p ls H K->∃rs H',aw cc ac k ls (absH aa H) rs (absH aa H')/\K rs H'
abbrev XG(k:FuncId)(p:FP):Prop:=∀ {ls:List Lf} {H:HL} {K:List Lf->HL->Prop},eh ls->p ls H K->∃rs H',aw cc ac k ls (absH aa H) rs (absH aa H')/\K rs H'
abbrev QG(k:FuncId)(p:FP):Prop:=∀ {ls rs:List Lf},gj ls=true->p ls [] (λrs' _=>rs'=rs)->Cc k ls rs
abbrev YG(k:Nat)(p:List Value->Nat->FP):Prop:=∀ {vs:List Value} {lp:Nat} {ls:List Lf} {H:HL} {K:List Lf->HL->Prop} {st:LoopState} {pd:Option Code} {ys:List S0},H[lp]?=some (.lp k st pd vs)->Told ((aa k).params.map (·.2)) ls ys->p vs lp ls H K->∃b H',fF cc lp (ah ys) (absH aa H) (.bool b) (absH aa H')/\K [.b b] H'
def uu{k:FuncId}{fn:Fn1}{f:{R HT:Type}->Alg R HT->List Lf->HT->(List Lf->HT->R)->R}(hi:FnIs (xc k) ac k fn)(e:@f=λR HT A ls h K=>aj A (xc k) ac drN fn ls h K):UG k (f (hA P1)):=by
 intro ls H K hls h
 rw[hA_eq,e]at h
 exact fn_ok hi hls h
def xx{k:FuncId}{fn:Fn1}{f:{R HT:Type}->Alg R HT->List Lf->HT->(List Lf->HT->R)->R}(hi:FnIs (xc k) ac k fn)(e:@f=λR HT A ls h K=>aj A (xc k) ac drN fn ls h K):XG k (f (hA P1)):=by
 intro ls H K hls h
 rw[hA_eq,e]at h
 exact fn_okG hi hls h
def qq{k:FuncId}{sg:Sig}{p:FP}(hu:UG k p)(hs:ac k=some sg)(hf:sg.plain=true):QG k p:=λhls h=>by
 obtain⟨_,_,h1,rfl⟩:=hu hls h
 exact ct_of mixed ky hs hf h1
def yy{k:Nat}{f:{R HT:Type}->Alg R HT->List Value->Nat->List Lf->HT->(List Lf->HT->R)->R}(e:@f=λR HT A vs lp ls h K=>qY A (xc 0) ac drN (aa k) vs lp ls h K):YG k (f (hA P1)):=by
 intro vs lp ls H K st pd ys hl hy h
 rw[hA_eq,e]at h
 exact wv (X:=xc 0) (PH_ok cc ac aa) sQ (wC hl) rfl rfl rfl rfl hy h
def qxs:=pxs cc ac aa
def qxh:=And.intro (qeq (hA P1)) (pxh P1)
def qxc:=pxc cc ac aa
def qxa:=pxa cc ac aa
def qXX:=And.intro qxs (And.intro qxc qxa)
def u3:UG 3 (f3 (hA P1)):=uu i3 e3
def x3:XG 3 (f3 (hA P1)):=xx i3 e3
def x6:XG 6 (f6 (hA P1)):=xx i6 e6
def x7:XG 7 (f7 (hA P1)):=xx i7 e7
def u8:UG 8 (f8 (hA P1)):=uu i8 e8
def x8:XG 8 (f8 (hA P1)):=xx i8 e8
def x9:XG 9 (f9 (hA P1)):=xx i9 e9
def x13:XG 13 (f13 (hA P1)):=xx i13 e13
def x14:XG 14 (f14 (hA P1)):=xx i14 e14
def u16:UG 16 (f16 (hA P1)):=uu i16 e16
def x16:XG 16 (f16 (hA P1)):=xx i16 e16
def x21:XG 21 (f21 (hA P1)):=xx i21 e21
def x22:XG 22 (f22 (hA P1)):=xx i22 e22
def x23:XG 23 (f23 (hA P1)):=xx i23 e23
def x24:XG 24 (f24 (hA P1)):=xx i24 e24
def x25:XG 25 (f25 (hA P1)):=xx i25 e25
def x26:XG 26 (f26 (hA P1)):=xx i26 e26
def x27:XG 27 (f27 (hA P1)):=xx i27 e27
def x28:XG 28 (f28 (hA P1)):=xx i28 e28
def x29:XG 29 (f29 (hA P1)):=xx i29 e29
def u31:UG 31 (f31 (hA P1)):=uu i31 e31
def q31:QG 31 (f31 (hA P1)):=qq u31 rfl (by kernel_rfl)
def u32:UG 32 (f32 (hA P1)):=uu i32 e32
def x32:XG 32 (f32 (hA P1)):=xx i32 e32
def x34:XG 34 (f34 (hA P1)):=xx i34 e34
def x35:XG 35 (f35 (hA P1)):=xx i35 e35
def u38:UG 38 (f38 (hA P1)):=uu i38 e38
def q38:QG 38 (f38 (hA P1)):=qq u38 rfl (by kernel_rfl)
def x42:XG 42 (f42 (hA P1)):=xx i42 e42
def u43:UG 43 (f43 (hA P1)):=uu i43 e43
def q43:QG 43 (f43 (hA P1)):=qq u43 rfl (by kernel_rfl)
def u46:UG 46 (f46 (hA P1)):=uu i46 e46
def q46:QG 46 (f46 (hA P1)):=qq u46 rfl (by kernel_rfl)
def u47:UG 47 (f47 (hA P1)):=uu i47 e47
def q47:QG 47 (f47 (hA P1)):=qq u47 rfl (by kernel_rfl)
def u48:UG 48 (f48 (hA P1)):=uu i48 e48
def q48:QG 48 (f48 (hA P1)):=qq u48 rfl (by kernel_rfl)
def x49:XG 49 (f49 (hA P1)):=xx i49 e49
def x50:XG 50 (f50 (hA P1)):=xx i50 e50
def x51:XG 51 (f51 (hA P1)):=xx i51 e51
def u53:UG 53 (f53 (hA P1)):=uu i53 e53
def q53:QG 53 (f53 (hA P1)):=qq u53 rfl (by kernel_rfl)
def u54:UG 54 (f54 (hA P1)):=uu i54 e54
def q54:QG 54 (f54 (hA P1)):=qq u54 rfl (by kernel_rfl)
def u55:UG 55 (f55 (hA P1)):=uu i55 e55
def q55:QG 55 (f55 (hA P1)):=qq u55 rfl (by kernel_rfl)
def x56:XG 56 (f56 (hA P1)):=xx i56 e56
def x57:XG 57 (f57 (hA P1)):=xx i57 e57
def u58:UG 58 (f58 (hA P1)):=uu i58 e58
def q58:QG 58 (f58 (hA P1)):=qq u58 rfl (by kernel_rfl)
def u59:UG 59 (f59 (hA P1)):=uu i59 e59
def q59:QG 59 (f59 (hA P1)):=qq u59 rfl (by kernel_rfl)
def u60:UG 60 (f60 (hA P1)):=uu i60 e60
def q60:QG 60 (f60 (hA P1)):=qq u60 rfl (by kernel_rfl)
def x61:XG 61 (f61 (hA P1)):=xx i61 e61
def u62:UG 62 (f62 (hA P1)):=uu i62 e62
def q62:QG 62 (f62 (hA P1)):=qq u62 rfl (by kernel_rfl)
def u63:UG 63 (f63 (hA P1)):=uu i63 e63
def q63:QG 63 (f63 (hA P1)):=qq u63 rfl (by kernel_rfl)
def u64:UG 64 (f64 (hA P1)):=uu i64 e64
def q64:QG 64 (f64 (hA P1)):=qq u64 rfl (by kernel_rfl)
def u65:UG 65 (f65 (hA P1)):=uu i65 e65
def q65:QG 65 (f65 (hA P1)):=qq u65 rfl (by kernel_rfl)
def u66:UG 66 (f66 (hA P1)):=uu i66 e66
def q66:QG 66 (f66 (hA P1)):=qq u66 rfl (by kernel_rfl)
def u70:UG 70 (f70 (hA P1)):=uu i70 e70
def q70:QG 70 (f70 (hA P1)):=qq u70 rfl (by kernel_rfl)
def x71:XG 71 (f71 (hA P1)):=xx i71 e71
def u72:UG 72 (f72 (hA P1)):=uu i72 e72
def q72:QG 72 (f72 (hA P1)):=qq u72 rfl (by kernel_rfl)
def u73:UG 73 (f73 (hA P1)):=uu i73 e73
def q73:QG 73 (f73 (hA P1)):=qq u73 rfl (by kernel_rfl)
def u74:UG 74 (f74 (hA P1)):=uu i74 e74
def q74:QG 74 (f74 (hA P1)):=qq u74 rfl (by kernel_rfl)
def u75:UG 75 (f75 (hA P1)):=uu i75 e75
def q75:QG 75 (f75 (hA P1)):=qq u75 rfl (by kernel_rfl)
def u76:UG 76 (f76 (hA P1)):=uu i76 e76
def q76:QG 76 (f76 (hA P1)):=qq u76 rfl (by kernel_rfl)
def x77:XG 77 (f77 (hA P1)):=xx i77 e77
def x78:XG 78 (f78 (hA P1)):=xx i78 e78
def u80:UG 80 (f80 (hA P1)):=uu i80 e80
def q80:QG 80 (f80 (hA P1)):=qq u80 rfl (by kernel_rfl)
def x81:XG 81 (f81 (hA P1)):=xx i81 e81
def x82:XG 82 (f82 (hA P1)):=xx i82 e82
def u83:UG 83 (f83 (hA P1)):=uu i83 e83
def q83:QG 83 (f83 (hA P1)):=qq u83 rfl (by kernel_rfl)
def u84:UG 84 (f84 (hA P1)):=uu i84 e84
def x85:XG 85 (f85 (hA P1)):=xx i85 e85
def x86:XG 86 (f86 (hA P1)):=xx i86 e86
def u87:UG 87 (f87 (hA P1)):=uu i87 e87
def q87:QG 87 (f87 (hA P1)):=qq u87 rfl (by kernel_rfl)
def x88:XG 88 (f88 (hA P1)):=xx i88 e88
def u89:UG 89 (f89 (hA P1)):=uu i89 e89
def q89:QG 89 (f89 (hA P1)):=qq u89 rfl (by kernel_rfl)
def u90:UG 90 (f90 (hA P1)):=uu i90 e90
def q90:QG 90 (f90 (hA P1)):=qq u90 rfl (by kernel_rfl)
def u92:UG 92 (f92 (hA P1)):=uu i92 e92
def q92:QG 92 (f92 (hA P1)):=qq u92 rfl (by kernel_rfl)
def u93:UG 93 (f93 (hA P1)):=uu i93 e93
def q93:QG 93 (f93 (hA P1)):=qq u93 rfl (by kernel_rfl)
def x94:XG 94 (f94 (hA P1)):=xx i94 e94
def u95:UG 95 (f95 (hA P1)):=uu i95 e95
def q95:QG 95 (f95 (hA P1)):=qq u95 rfl (by kernel_rfl)
def u96:UG 96 (f96 (hA P1)):=uu i96 e96
def q96:QG 96 (f96 (hA P1)):=qq u96 rfl (by kernel_rfl)
def x97:XG 97 (f97 (hA P1)):=xx i97 e97
def u98:UG 98 (f98 (hA P1)):=uu i98 e98
def q98:QG 98 (f98 (hA P1)):=qq u98 rfl (by kernel_rfl)
def u106:UG 106 (f106 (hA P1)):=uu i106 e106
def q106:QG 106 (f106 (hA P1)):=qq u106 rfl (by kernel_rfl)
def x107:XG 107 (f107 (hA P1)):=xx i107 e107
def x109:XG 109 (f109 (hA P1)):=xx i109 e109
def u111:UG 111 (f111 (hA P1)):=uu i111 e111
def q111:QG 111 (f111 (hA P1)):=qq u111 rfl (by kernel_rfl)
def u113:UG 113 (f113 (hA P1)):=uu i113 e113
def q113:QG 113 (f113 (hA P1)):=qq u113 rfl (by kernel_rfl)
def u114:UG 114 (f114 (hA P1)):=uu i114 e114
def q114:QG 114 (f114 (hA P1)):=qq u114 rfl (by kernel_rfl)
def u117:UG 117 (f117 (hA P1)):=uu i117 e117
def q117:QG 117 (f117 (hA P1)):=qq u117 rfl (by kernel_rfl)
def u118:UG 118 (f118 (hA P1)):=uu i118 e118
def q118:QG 118 (f118 (hA P1)):=qq u118 rfl (by kernel_rfl)
def x119:XG 119 (f119 (hA P1)):=xx i119 e119
def u120:UG 120 (f120 (hA P1)):=uu i120 e120
def q120:QG 120 (f120 (hA P1)):=qq u120 rfl (by kernel_rfl)
def x123:XG 123 (f123 (hA P1)):=xx i123 e123
def x124:XG 124 (f124 (hA P1)):=xx i124 e124
def u129:UG 129 (f129 (hA P1)):=uu i129 e129
def q129:QG 129 (f129 (hA P1)):=qq u129 rfl (by kernel_rfl)
def x130:XG 130 (f130 (hA P1)):=xx i130 e130
def x131:XG 131 (f131 (hA P1)):=xx i131 e131
def u137:UG 137 (f137 (hA P1)):=uu i137 e137
def q137:QG 137 (f137 (hA P1)):=qq u137 rfl (by kernel_rfl)
def u140:UG 140 (f140 (hA P1)):=uu i140 e140
def q140:QG 140 (f140 (hA P1)):=qq u140 rfl (by kernel_rfl)
def u141:UG 141 (f141 (hA P1)):=uu i141 e141
def q141:QG 141 (f141 (hA P1)):=qq u141 rfl (by kernel_rfl)
def x142:XG 142 (f142 (hA P1)):=xx i142 e142
def x157:XG 157 (f157 (hA P1)):=xx i157 e157
def x158:XG 158 (f158 (hA P1)):=xx i158 e158
def u176:UG 176 (f176 (hA P1)):=uu i176 e176
def q176:QG 176 (f176 (hA P1)):=qq u176 rfl (by kernel_rfl)
def x182:XG 182 (f182 (hA P1)):=xx i182 e182
def u183:UG 183 (f183 (hA P1)):=uu i183 e183
def q183:QG 183 (f183 (hA P1)):=qq u183 rfl (by kernel_rfl)
def xy800:YG 800 (y800 (hA P1)):=yy ey800
end Go.Am
set_option maxRecDepth 100000
namespace Go.Am
namespace Sx
def cut_some{vs:List Value}{off n:Nat}{cs:List Value}:cut vs off n=some cs↔off+n<=vs.length/\(vs.drop off).take n=cs:=by
 unfold cut
 split
 next h=>simp[h]
 next h=>simp[h]
def cut_len{vs:List Value}{off n:Nat}{cs:List Value}(h:cut vs off n=some cs):cs.length=n:=by
 obtain⟨h1,rfl⟩:=cut_some.1 h
 rw[qaJ,qbv];omega
def uW{vs:List Value}{off n:Nat}{cs:List Value}(h:cut vs off n=some cs){o k:Nat}(hk:o+k<=n):cut vs (off+o) k=some ((cs.drop o).take k):=by
 obtain⟨h1,rfl⟩:=cut_some.1 h
 refine cut_some.2 ⟨by omega,?_⟩
 rw[List.drop_take,qbY,List.take_take,qb0 (by omega)]
def cut_all{vs:List Value}{n:Nat}(h:vs.length=n):cut vs 0 n=some vs:=cut_some.2 ⟨by omega,by rw[qbg,qaO (by omega)]⟩
def Pre(h0 h:HL):Prop:=∃G,h=h0++G
def Pre.refl(h:HL):Pre h h:=⟨[],by simp⟩
def Pre.trans{a b c:HL}(h:Pre a b)(k:Pre b c):Pre a c:=by
 obtain⟨G,rfl⟩:=h
 obtain⟨G',rfl⟩:=k
 exact⟨G++G',by simp⟩
def Pre.app{a b:HL}(h:Pre a b)(G:HL):Pre a (b++G):=h.trans ⟨G,rfl⟩
def Pre.len{a b:HL}(h:Pre a b):a.length<=b.length:=by obtain⟨G,rfl⟩:=h;simp
def Pre.get{a b:HL}(h:Pre a b){i:Nat}{o:HO}(hi:a[i]?=some o):b[i]?=some o:=by
 obtain⟨G,rfl⟩:=h
 have:i<a.length:=by
  rcases qaB i a.length with h|h
  ·exact h
  ·rw[qah h]at hi;cases hi
 rw[qaf this];exact hi
def Pre.set{a b:HL}(h:Pre a b){i:Nat}(hi:a.length<=i)(o:HO):Pre a (b.set i o):=by
 obtain⟨G,rfl⟩:=h
 rw[qbR _ _ hi]
 exact⟨_,rfl⟩
def Ptr(h:HL)(p:Value)(cs:List Value):Prop:=∃id o vs e rw,p = .pointer (some ⟨id,o,none⟩)/\h[id]?=some (.o (.cells vs e rw))/\cut vs o cs.length=some cs
def SlC(h:HL)(v:Value)(e n:Nat)(cs:List Value):Prop:=
 cs.length=n*e/\((v = .slice none 0 0/\n=0)∨∃id off cx vs rw,v = .slice (some ⟨id,off,tag e⟩) n cx/\h[id]?=some (.o (.cells vs e rw))/\cut vs off (n*e)=some cs)
def LsH{α:Type}(h:HL)(v:Value)(e:Nat)(enc:α->List Value)(l:List α):Prop:=(∀a∈l,(enc a).length=e)/\SlC h v e l.length (l.flatMap enc)
def Mk(n0:Nat)(h:HL)(v:Value)(e n:Nat)(cs:List Value):Prop:=
 cs.length=n*e/\((v = .slice none 0 0/\n=0)∨∃id,n0<=id/\v = .slice (some ⟨id,0,tag e⟩) n 0/\h[id]?=some (.o (.cells cs e true)))
def MkL{α:Type}(n0:Nat)(h:HL)(v:Value)(e:Nat)(enc:α->List Value)(l:List α):Prop:=(∀a∈l,(enc a).length=e)/\Mk n0 h v e l.length (l.flatMap enc)
def blk:Value->Option Nat
 | .slice (some a) _ _=>some a.block
 |_=>none
def Ptr.keep{h h':HL}{p:Value}{cs:List Value}(hp:Ptr h p cs)(hk:∀(j:Nat) o,h[j]?=some o->h'[j]?=some o):Ptr h' p cs:=by
 obtain⟨id,o,vs,e,rw',h1,h2,h3⟩:=hp
 exact⟨id,o,vs,e,rw',h1,hk _ _ h2,h3⟩
def SlC.keep{h h':HL}{v:Value}{e n:Nat}{cs:List Value}(hs:SlC h v e n cs)(hk:∀(j:Nat) o,h[j]?=some o->blk v=some j->h'[j]?=some o):SlC h' v e n cs:=by
 obtain⟨h0,h1|⟨id,off,cx,vs,rw',rfl,h2,h3⟩⟩:=hs
 ·exact⟨h0,.inl h1⟩
 ·exact⟨h0,.inr ⟨id,off,cx,vs,rw',rfl,hk _ _ h2 rfl,h3⟩⟩
def SlC.pre{h h':HL}{v:Value}{e n:Nat}{cs:List Value}(hs:SlC h v e n cs)(hp:Pre h h'):SlC h' v e n cs:=hs.keep λ_ _ h _=>hp.get h
def LsH.keep{α:Type}{h h':HL}{v:Value}{e:Nat}{enc:α->List Value}{l:List α}(hs:LsH h v e enc l)(hk:∀(j:Nat) o,h[j]?=some o->blk v=some j->h'[j]?=some o):LsH h' v e enc l:=⟨hs.1,hs.2.keep hk⟩
def LsH.pre{α:Type}{h h':HL}{v:Value}{e:Nat}{enc:α->List Value}{l:List α}(hs:LsH h v e enc l)(hp:Pre h h'):LsH h' v e enc l:=⟨hs.1,hs.2.pre hp⟩
def SlC.len{h:HL}{v:Value}{e n:Nat}{cs:List Value}(hs:SlC h v e n cs):lenS v=some (.ofNat n):=by
 obtain⟨_,⟨rfl,rfl⟩|⟨id,off,cx,vs,rw',rfl,_⟩⟩:=hs<;>rfl
def LsH.len{α:Type}{h:HL}{v:Value}{e:Nat}{enc:α->List Value}{l:List α}(hs:LsH h v e enc l):lenS v=some (.ofNat l.length):=hs.2.len
def Mk.sl{n0:Nat}{h:HL}{v:Value}{e n:Nat}{cs:List Value}(hs:Mk n0 h v e n cs):SlC h v e n cs:=by
 obtain⟨h0,h1|⟨id,_,rfl,h2⟩⟩:=hs
 ·exact⟨h0,.inl h1⟩
 ·exact⟨h0,.inr ⟨id,0,0,cs,true,rfl,h2,cut_all h0⟩⟩
def MkL.ls{α:Type}{n0:Nat}{h:HL}{v:Value}{e:Nat}{enc:α->List Value}{l:List α}(hs:MkL n0 h v e enc l):LsH h v e enc l:=⟨hs.1,hs.2.sl⟩
def Mk.nil(n0:Nat)(h:HL)(e:Nat):Mk n0 h (.slice none 0 0) e 0 []:=⟨by simp,.inl ⟨rfl,rfl⟩⟩
def MkL.nil{α:Type}(n0:Nat)(h:HL)(e:Nat)(enc:α->List Value):MkL n0 h (.slice none 0 0) e enc []:=⟨by simp,Mk.nil n0 h e⟩
def LsH.nil{α:Type}(h:HL)(e:Nat)(enc:α->List Value):LsH h (.slice none 0 0) e enc []:=(MkL.nil 0 h e enc).ls
def Mk.keep{n0:Nat}{h h':HL}{v:Value}{e n:Nat}{cs:List Value}(hs:Mk n0 h v e n cs)(hk:∀(j:Nat) o,h[j]?=some o->blk v=some j->h'[j]?=some o):Mk n0 h' v e n cs:=by
 obtain⟨h0,h1|⟨id,h1,rfl,h2⟩⟩:=hs
 ·exact⟨h0,.inl h1⟩
 ·exact⟨h0,.inr ⟨id,h1,rfl,hk _ _ h2 rfl⟩⟩
def Mk.pre{n0:Nat}{h h':HL}{v:Value}{e n:Nat}{cs:List Value}(hs:Mk n0 h v e n cs)(hp:Pre h h'):Mk n0 h' v e n cs:=hs.keep λ_ _ h _=>hp.get h
def MkL.keep{α:Type}{n0:Nat}{h h':HL}{v:Value}{e:Nat}{enc:α->List Value}{l:List α}(hs:MkL n0 h v e enc l)(hk:∀(j:Nat) o,h[j]?=some o->blk v=some j->h'[j]?=some o):MkL n0 h' v e enc l:=⟨hs.1,hs.2.keep hk⟩
def MkL.pre{α:Type}{n0:Nat}{h h':HL}{v:Value}{e:Nat}{enc:α->List Value}{l:List α}(hs:MkL n0 h v e enc l)(hp:Pre h h'):MkL n0 h' v e enc l:=⟨hs.1,hs.2.pre hp⟩
def aR{α:Type}{e:Nat}{enc:α->List Value}:∀ {l:List α},(∀a∈l,(enc a).length=e)->(l.flatMap enc).length=l.length*e
 | [],_=>by simp
 |a :: l,h=>by
  rw[qbC,qay,h a qax,aR λb hb=>h b (qao _ hb),qaC,qbx,qcs,Nat.add_comm]
def ko{α:Type}{e:Nat}{enc:α->List Value}:∀ {l:List α},(∀a∈l,(enc a).length=e)->∀ {i:Nat} {a:α},l[i]?=some a->((l.flatMap enc).drop (i*e)).take e=enc a
 |b :: l,h,0,a,hi=>by
  simp only[qbj,qaA]at hi
  subst hi
  have:=h b qax
  rw[qbG,qbg,qbC,List.take_append_of_le_length (by omega),qaO (by omega)]
 |b :: l,h,i+1,a,hi=>by
  simp only[qbT]at hi
  have hb:=h b qax
  have:=ko (λb hb=>h b (qao _ hb)) hi
  rw[qbC,qbx,qcs,←this]
  have e1:i*e+e=(enc b).length+i*e:=by omega
  rw[e1,qc0,qbH (by omega),qaG,qb4]
 | [],_,_,_,hi=>by simp at hi
def SlC.at{h:HL}{v:Value}{e n:Nat}{cs:List Value}(hs:SlC h v e n cs){i:Nat}(hi:i<n):∃p,idS e v (.ofNat i)=some p/\Ptr h p ((cs.drop (i*e)).take e):=by
 obtain⟨h0,⟨rfl,rfl⟩|⟨id,off,cx,vs,rw',rfl,h2,h3⟩⟩:=hs
 ·omega
 ·have hle:i*e+e<=n*e:=by
   have:=qbq e (show i+1<=n by omega)
   rw[qbx,qcs]at this;exact this
  refine⟨.pointer (some ⟨id,off+i*e,none⟩),?_,id,off+i*e,vs,e,rw',rfl,h2,?_⟩
  ·rw[idS_eq]
   have hh:0<=Int.ofNat i/\Int.ofNat i<(n:Int):=⟨qaZ i,by show(i:Int)<n;omega⟩
   simp only[if_pos hh]
   have:¬(tag e=some 1):=by simp[tag]
   simp only[if_neg this]
   rfl
  ·have hc:=uW h3 hle
   have hl:=cut_len hc
   rw[hl];exact hc
def LsH.at{α:Type}{h:HL}{v:Value}{e:Nat}{enc:α->List Value}{l:List α}(hs:LsH h v e enc l){i:Nat}{a:α}(hi:l[i]?=some a):∃p,idS e v (.ofNat i)=some p/\Ptr h p (enc a):=by
 have hlt:i<l.length:=by
  rcases qaB i l.length with h|h
  ·exact h
  ·rw[qah h]at hi;cases hi
 obtain⟨p,h1,h2⟩:=hs.2.at hlt
 rw[ko hs.1 hi]at h2
 exact⟨p,h1,h2⟩
def Ptr.fd{h:HL}{p:Value}{cs:List Value}(hp:Ptr h p cs)(o k:Nat)(hk:o+k<=cs.length):∃p',fdP o p=some p'/\Ptr h p' ((cs.drop o).take k):=by
 obtain⟨id,o',vs,e,rw',rfl,h2,h3⟩:=hp
 refine⟨_,rfl,id,o'+o,vs,e,rw',rfl,h2,?_⟩
 have hc:=uW h3 hk
 rw[cut_len hc];exact hc
section
variable [Val] [Kno]
def cC{T:Nat->Site}{h:HL}{i:Nat}{o:HObj}(hi:h[i]?=some (.o o)):getH T h i=some o:=by
 unfold getH;rw[hi];rfl
def Ptr.ld{T:Nat->Site}{h:HL}{p:Value}{cs:List Value}(hp:Ptr h p cs){n:Nat}(hn:cs.length=n):(Pk.ld n p).run (getH T h)=some cs:=by
 obtain⟨id,o,vs,e,rw',rfl,h2,h3⟩:=hp
 subst hn
 show(match (none:Option Nat)with|none=>(gz (getH T h) id).bind λvs=>cut vs o cs.length|some _=>none)=_
 unfold gz
 rw[cC h2]
 exact h3
def Ptr.lg{C:Cfg}{T:Nat->Site}{h:HL}{p:Value}{cs:List Value}(hp:Ptr h p cs){n:Nat}(hn:cs.length=n):(Pk.lg C n p).run (getH T h)=some cs:=by
 obtain⟨id,o,vs,e,rw',rfl,h2,h3⟩:=hp
 subst hn
 show(gz (getH T h) id).bind (λvs=>cut vs o cs.length)=_
 unfold gz
 rw[cC h2]
 exact h3
def xD{C:Cfg}{T:Nat->Site}{h:HL}{v:Value}{e n:Nat}{cs:List Value}(hs:SlC h v e n cs):slG C e (getH T h) v=some (cs,n):=by
 obtain⟨h0,⟨rfl,rfl⟩|⟨id,off,cx,vs,rw',rfl,h2,h3⟩⟩:=hs
 ·simp only[qbG,qbf]at h0
  subst h0;rfl
 ·unfold slG
  have:¬(tag e=some 1):=by simp[tag]
  simp only[if_neg this,if_true]
  rw[cC h2]
  simp only[if_true]
  rw[h3];rfl
variable {C:Cfg} {Sg:FuncId->Option Sig} {T:Nat->Site}
def ap_mk{n0:Nat}{h0 h:HL}{v x:Value}{e n k bytes:Nat}{cs new:List Value}(hp:Pre h0 h)(h0n:h0.length=n0)(hm:Mk n0 h v e n cs)(hx:SlC h x e k new)(hs:bU (n+k) bytes=true) :
  ∃acts v',(Hp.ap C e bytes v x).run (getH T h) h.length=some (acts,[v'])/\Pre h0 (bI h acts)/\Mk n0 (bI h acts) v' e (n+k) (cs++new)/\
   (∀(j:Nat) o,h[j]?=some o->blk v≠some j->(bI h acts)[j]?=some o)/\(blk v'=blk v∨blk v'=none∨∃j,blk v'=some j/\h.length<=j):=by
 obtain⟨c0,hm⟩:=hm
 have c1:=hx.1
 have c3:(cs++new).length=(n+k)*e:=by rw[qay,c0,c1,qbx]
 have hslg:=xD (C:=C) (T:=T) hx
 rcases hm with⟨rfl,rfl⟩|⟨id,hid,rfl,hg⟩
 ·simp only[qbG,qbf]at c0
  subst c0
  by_cases hk:k=0
  ·subst hk
   simp only[qbG,qbf]at c1
   subst c1
   refine⟨[],.slice none 0 0,?_,hp,Mk.nil _ _ _,λj o hj _=>hj,.inl rfl⟩
   show apG C e bytes (.slice none 0 0) x (getH T h) h.length=_
   unfold apG
   rw[hslg]
   rfl
  ·refine⟨[.push (.cells new e true)],.slice (some ⟨h.length,0,tag e⟩) k 0,?_,hp.app _,?_,λj o hj _=>?_,.inr (.inr ⟨h.length,rfl,qan _⟩)⟩
   ·show apG C e bytes (.slice none 0 0) x (getH T h) h.length=_
    unfold apG
    rw[hslg]
    simp only[if_neg hk]
    rw[qaL]at hs
    rw[if_pos hs]
   ·rw[qaL,qaG]
    refine⟨by simpa using c1,.inr ⟨h.length,by have:=hp.len;omega,rfl,?_⟩⟩
    simp[bI,Act1.onH]
   ·exact Pre.get ⟨_,rfl⟩ hj
 ·by_cases hk:k=0
  ·subst hk
   simp only[qbG,qbf]at c1
   subst c1
   refine⟨[],.slice (some ⟨id,0,tag e⟩) n 0,?_,hp,⟨c3,.inr ⟨id,hid,rfl,by simpa[bI]using hg⟩⟩,λj o hj _=>hj,.inl rfl⟩
   show apG C e bytes (.slice (some ⟨id,0,tag e⟩) n 0) x (getH T h) h.length=_
   unfold apG
   rw[hslg]
   simp only[ne_eq,not_true_eq_false,if_false]
   rw[cC hg]
   simp only[ne_eq,not_true_eq_false,if_false]
   rw[cut_all c0]
   rfl
  ·have hlt:id<h.length:=by
    rcases qaB id h.length with h1|h1
    ·exact h1
    ·rw[qah h1]at hg;cases hg
   refine⟨[.set id .dead,.push (.cells (cs++new) e true)],.slice (some ⟨h.length,0,tag e⟩) (n+k) 0,?_,?_,?_,λj o hj hb=>?_,.inr (.inr ⟨h.length,rfl,qan _⟩)⟩
   ·show apG C e bytes (.slice (some ⟨id,0,tag e⟩) n 0) x (getH T h) h.length=_
    unfold apG
    rw[hslg]
    simp only[ne_eq,not_true_eq_false,if_false]
    rw[cC hg]
    simp only[ne_eq,not_true_eq_false,if_false]
    rw[cut_all c0]
    simp only[if_neg hk,qdo]
    rw[if_pos hs]
   ·exact(hp.set (by omega) _).app _
   ·refine⟨c3,.inr ⟨h.length,by have:=hp.len;omega,rfl,?_⟩⟩
    simp[bI,Act1.onH]
   ·have hne:id≠j:=λhh=>hb (by subst hh;rfl)
    refine Pre.get (a:=h.set id (.o .dead)) ⟨_,rfl⟩ ?_
    rw[qai hne];exact hj
def we{n0:Nat}{h:HL}{v:Value}{e n:Nat}{cs:List Value}(hm:Mk n0 h v e n cs){j:Nat}(hb:blk v=some j):n0<=j/\j<h.length:=by
 obtain⟨_,⟨rfl,_⟩|⟨id,h1,rfl,hg⟩⟩:=hm
 ·cases hb
 ·cases hb
  refine⟨h1,?_⟩
  rcases qaB id h.length with h2|h2
  ·exact h2
  ·rw[qah h2]at hg;cases hg
def jD{α:Type}{h0 h:HL}{v:Value}{e bytes:Nat}{enc:α->List Value}{l:List α}{a:α}{K:List Value->HL->Prop}{new:List Value}{m:Nat}{sp:Option Nat}(hp:Pre h0 h)(hm:MkL h0.length h v e enc l)(hn:new=enc a)(hl:(enc a).length=e)(hmm:m=h.length)(hsp:sp=some (e+10))
  (hs:bU (l.length+1) bytes=true)
  (hk:∀v' h',Pre h0 h'->MkL h0.length h' v' e enc (l++[a])->aP v'=true->(∀(j:Nat) o,h[j]?=some o->blk v≠some j->h'[j]?=some o)->(blk v'=blk v∨∃j,blk v'=some j/\h.length<=j)->K [v'] h') :
  (PH C Sg T).heap (.ap C e bytes v (.slice (some ⟨m,0,sp⟩) 1 2)) (h++[.o (.cells new e true)]) (@hid _ ⟨K⟩):=by
 subst hn hmm hsp
 have hx:SlC (h++[HO.o (.cells (enc a) e true)]) (.slice (some ⟨h.length,0,tag e⟩) 1 2) e 1 (enc a):=by
  refine⟨by omega,.inr ⟨h.length,0,2,enc a,true,rfl,by simp,cut_all (by omega)⟩⟩
 have hm':Mk h0.length (h++[HO.o (.cells (enc a) e true)]) v e l.length (l.flatMap enc):=hm.2.pre ⟨_,rfl⟩
 obtain⟨acts,v',a1,a2,a3,a4,a5⟩:=ap_mk (C:=C) (T:=T) (hp.app [HO.o (.cells (enc a) e true)]) rfl hm' hx hs
 refine cO a1 (hk v' _ a2 ⟨?_,?_⟩ ?_ ?_ ?_)
 ·intro b hb
  rcases qaH.1 hb with hb|hb
  ·exact hm.1 b hb
  ·simp only[qau]at hb;subst hb;exact hl
 ·rw[qcl,qay]
  simpa using a3
 ·obtain⟨_,⟨rfl,_⟩|⟨id,_,rfl,_⟩⟩:=a3
  ·rfl
  ·simp[aP,noLoc,bo,ca,bu,bc,aI,tag]
 ·intro j o hj hb
  exact a4 j o (Pre.get ⟨_,rfl⟩ hj) hb
 ·rcases a5 with h1|h1|⟨j,h1,h2⟩
  ·exact .inl h1
  ·obtain⟨q1,⟨_,q2⟩|⟨id,_,rfl,_⟩⟩:=a3
   ·omega
   ·cases h1
  ·exact .inr ⟨j,h1,by simp at h2;omega⟩
end
end Sx
namespace Sx
def Ptr.good{h:HL}{p:Value}{cs:List Value}(hp:Ptr h p cs):aP p=true:=by
 obtain⟨id,o,vs,e,rw',rfl,_⟩:=hp
 simp[aP,noLoc,bo,ca,bu,bc,aI]
def SlC.good{h:HL}{v:Value}{e n:Nat}{cs:List Value}(hs:SlC h v e n cs):aP v=true:=by
 obtain⟨_,⟨rfl,_⟩|⟨id,off,cx,vs,rw',rfl,_⟩⟩:=hs
 ·rfl
 ·simp[aP,noLoc,bo,ca,bu,bc,aI,tag]
def LsH.good{α:Type}{h:HL}{v:Value}{e:Nat}{enc:α->List Value}{l:List α}(hs:LsH h v e enc l):aP v=true:=hs.2.good
section
variable [Val] [Kno] {C:Cfg} {Sg:FuncId->Option Sig} {T:Nat->Site}
def hidL{F:(List Lf->HL->Prop)->List Lf->HL->Prop}{s:List Lf->HL->Prop}{l:List Lf}{h:HL}(hf:F s l h):@hid _ ⟨F⟩ s l h:=hf
def bW{σ:Type}{F:(List Lf->HL->Prop)->List Lf->HL->Prop}(n:Nat)(S:Nat->σ->List Lf)(HP:Nat->σ->HL)(Inv:Nat->σ->Prop){j0:Nat}{s0:σ}{ls:List Lf}{h:HL}(hls:ls=S j0 s0)(hh:h=HP j0 s0)(hj:j0<=n)(hi:Inv j0 s0)
  (step:∀j s,j<=n->Inv j s->∀self:List Lf->HL->Prop,(∀s',j<n->Inv (j+1) s'->self (S (j+1) s') (HP (j+1) s'))->F self (S j s) (HP j s)):(PH C Sg T).loop (@hid _ ⟨F⟩) ls h:=by
 subst hls hh
 refine cN (m:=n - j0) (λm ls h=>∃j s,ls=S j s/\h=HP j s/\j<=n/\m=n - j/\Inv j s) ⟨j0,s0,rfl,rfl,hj,rfl,hi⟩ ?_
 rintro m ls h ⟨j,s,rfl,rfl,hj,rfl,hi⟩ self hself
 exact hidL (step j s hj hi self λs' hlt hi'=>hself (n - (j+1)) _ _ (by omega) ⟨j+1,s',rfl,rfl,by omega,rfl,hi'⟩)
def fq{F:(List Lf->HL->Prop)->List Lf->HL->Prop}(n:Nat)(Inv:Nat->Prop){j0:Nat}{h:HL}{ls:List Lf}(hls:ls=[.i (Int.ofNat j0)])(hj:j0<=n)(hi:Inv j0)
  (step:∀j,j<=n->Inv j->∀self:List Lf->HL->Prop,(j<n->Inv (j+1)->self [.i (Int.ofNat j+1)] h)->F self [.i (Int.ofNat j)] h):(PH C Sg T).loop (@hid _ ⟨F⟩) ls h:=
 bW (σ:=Unit) n (λj _=>[.i (Int.ofNat j)]) (λ_ _=>h) (λj _=>Inv j) (s0:=()) hls rfl hj hi λj _ hj hi self hs=>step j hj hi self (λa b=>hs () a b)
def bM{α:Type}{h:HL}{v:Value}{e:Nat}{enc:α->List Value}{l:List α}{K:Int->Prop}(hs:LsH h v e enc l)(hk:K (Int.ofNat l.length)):(PH C Sg T).opt (lenS v) (@hid _ ⟨K⟩):=am hs.len hk
def bi{α:Type}{h:HL}{v:Value}{e:Nat}{enc:α->List Value}{l:List α}{i:Nat}{a:α}{n:Int}{K:List Value->Prop}(hs:LsH h v e enc l)(hn:n=Int.ofNat i)(hi:l[i]?=some a)(hk:K (enc a)) :
  (PH C Sg T).opt (idS e v n) (@hid _ ⟨λx=>(PH C Sg T).peek (.lg C e x) h (@hid _ ⟨K⟩)⟩):=by
 subst hn
 obtain⟨p,h1,h2⟩:=hs.at hi
 exact am h1 (eu (h2.lg (hs.1 a (qag hi))) hk)
def iC{α:Type}{h:HL}{v:Value}{e:Nat}{enc:α->List Value}{l:List α}{i:Nat}{a:α}{n:Int}{o k:Nat}{cs:List Value}{K:List Value->Prop}(hs:LsH h v e enc l)(hn:n=Int.ofNat i)(hi:l[i]?=some a)(hcs:cs=((enc a).drop o).take k)(hok:o+k<=e)(hk:K cs) :
  (PH C Sg T).opt (idS e v n) (@hid _ ⟨λx=>(PH C Sg T).opt (fdP o x) (@hid _ ⟨λy=>(PH C Sg T).chk y (@hid _ ⟨(PH C Sg T).peek (.lg C k y) h (@hid _ ⟨K⟩)⟩)⟩)⟩):=by
 subst hn hcs
 obtain⟨p,h1,h2⟩:=hs.at hi
 have he:=hs.1 a (qag hi)
 have hok:o+k<=(enc a).length:=by omega
 have hlen:(((enc a).drop o).take k).length=k:=by rw[qaJ,qbv];omega
 obtain⟨q,h3,h4⟩:=h2.fd o k hok
 refine am h1 (am h3 ?_)
 show aP q=true/\_
 exact⟨h4.good,eu (h4.lg hlen) hk⟩
end
end Sx
end Go.Am
set_option maxRecDepth 100000
set_option maxHeartbeats 4000000
namespace Go.Am
open Sx Go.Proofs
abbrev Crs:=Int×Int×Int
def encC(c:Crs):List Value:=[.int .i64 c.1,.int .u8 c.2.1,.int .u8 c.2.2]
def okC(c:Crs):Prop:=-9223372036854775808<=c.1/\c.1<=9223372036854775807/\0<=c.2.1/\c.2.1<=255/\0<=c.2.2/\c.2.2<=255
def isK(c:Crs):Bool:=decide (1<=c.2.2)&&decide (c.2.2<=3)
def isKind_c(k:Int):Cc 63 [.i k] [.b (decide (1<=k)&&decide (k<=3))]:=by
 refine q63 rfl ?_;unfold f63;simp only[qxh]
 by_cases h1:1<=k
 ·by_cases h2:k<=3
  ·simp(disch:=omega)only[↓qXX];simp[h1,h2]
  ·simp(disch:=omega)only[↓qXX];simp[h1,h2]
 ·simp(disch:=omega)only[↓qXX];simp[h1]
def chk1_c(c:Crs):Cc 62 [.i c.1,.i c.2.1,.i c.2.2] [.b (!isK c)]:=by
 refine q62 rfl ?_;unfold f62;simp only[qxh]
 simp(disch:=omega)only[↓qXX]
 refine af (isKind_c c.2.2) ?_
 simp(disch:=omega)only[↓qXX]
 simp[isK]
abbrev clo1:Value:=.func (.func 62) ⟨[]⟩ ⟨[]⟩
def good1:aP clo1=true:=rfl
def index_c{h:HL}{x:Value}{l:List Crs}(hl:LsH h x 3 encC l)(hn:l.length<=4294967296):∃n:Int,aw cc ac 97 [.v x,.v clo1] (absH aa h) [.i n] (absH aa h)/\(0<=n↔∃c∈l,isK c=false):=by
 obtain⟨rs,h',h1,n,rfl,rfl,h2⟩:=x97 (K:=λrs h'=>∃n:Int,rs=[.i n]/\h'=h/\(0<=n↔∃c∈l,isK c=false)) (H:=h) (glsV hl.good (glsV good1 gls0)) (by
  unfold f97;simp only[qxh]
  simp(disch:=omega)only[↓qXX]
  refine bM hl ?_
  refine fq l.length (λj=>∀i,i<j->∀c,l[i]?=some c->isK c=true) rfl (qaW _) (λi hi=>absurd hi (qca _)) ?_
  intro j hj hi self hself
  simp(disch:=omega)only[↓qXX]
  by_cases hlt:j<l.length
  ·have e1:Int.ofNat j<Int.ofNat l.length:=by show(j:Int)<l.length;omega
   rw[p_lss_t e1]
   simp(disch:=omega)only[↓qXX]
   obtain⟨c,hc⟩ : ∃c,l[j]?=some c:=⟨_,qar hlt⟩
   refine bi hl rfl hc ?_
   unfold encC
   simp(disch:=omega)only[↓qXX]
   refine gQ (jl (chk1_c c _) rfl [.agg [.i .i64 c.1,.i .u8 c.2.1,.i .u8 c.2.2]] rfl rfl) ?_
   simp(disch:=omega)only[↓qXX]
   cases hk:isK c with
   |true=>
    show P1.cond false _ _
    simp(disch:=omega)only[↓qXX]
    rw[p_add (by show -9223372036854775808<=(j:Int)+1;omega) (by show(j:Int)+1<=9223372036854775807;omega)]
    refine hself hlt λi hi' c' hc'=>?_
    rcases qaB i j with h|h
    ·exact hi i h c' hc'
    ·obtain rfl:i=j:=by omega
     rw[hc]at hc';cases hc';exact hk
   |false=>
    show P1.cond true _ _
    simp(disch:=omega)only[↓qXX]
    exact⟨_,rfl,by trivial,λ_=>⟨c,qag hc,hk⟩,λ_=>qaZ j⟩
  ·have e1:Int.ofNat l.length<=Int.ofNat j:=by show(l.length:Int)<=j;omega
   rw[p_lss_f e1]
   simp(disch:=omega)only[↓qXX]
   refine⟨_,rfl,by trivial,λh=>by omega,λ⟨c,hc,hk⟩=>?_⟩
   obtain⟨i,hi'⟩:=qaY hc
   have hlt':i<l.length:=by
    rcases qaB i l.length with h|h
    ·exact h
    ·rw[qah h]at hi';cases hi'
   rw[hi i (by omega) c hi']at hk
   cases hk)
 exact⟨n,h1,h2⟩
def yi{h:HL}{x:Value}{l:List Crs}(hl:LsH h x 3 encC l)(hn:l.length<=4294967296):aw cc ac 61 [.v x,.v clo1] (absH aa h) [.b (!l.all isK)] (absH aa h):=by
 obtain⟨n,h1,h2⟩:=index_c hl hn
 obtain⟨rs,h',h3,rfl,rfl⟩:=x61 (K:=λrs h'=>rs=[.b (!l.all isK)]/\h'=h) (H:=h) (glsV hl.good (glsV good1 gls0)) (by
  unfold f61;simp only[qxh]
  simp(disch:=omega)only[↓qXX]
  refine ai h1 ?_
  simp(disch:=omega)only[↓qXX]
  cases hb:l.all isK with
  |true=>
   have:¬0<=n:=λh=>by
    obtain⟨c,hc,hk⟩:=h2.1 h
    rw[qab.1 hb c hc]at hk;cases hk
   simp(disch:=omega)only[↓qXX]
   exact⟨by trivial,by trivial⟩
  |false=>
   have:0<=n:=h2.2 (by
    obtain⟨c,hc,hk⟩:=List.all_eq_false.1 hb
    exact⟨c,hc,by simpa using hk⟩)
   simp(disch:=omega)only[↓qXX]
   exact⟨by trivial,by trivial⟩)
 exact h3
end Go.Am
namespace Go.Am
namespace Sx
section
variable [Val]
def yv:HObj->HObj
 | .cells vs e true=>if vs.all flat then .cells vs e true else .dead
 |_=>.dead
def vh{o:HObj}(h:(yv o).alive=true):∃vs e,o = .cells vs e true/\vs.all flat=true/\yv o = .cells vs e true:=by
 match o,h with
 | .cells vs e true,h=>
  unfold yv at h
  by_cases hf:vs.all flat=true
  ·exact⟨vs,e,rfl,hf,by show(if vs.all flat=true then HObj.cells vs e true else .dead)=_;rw[if_pos hf]⟩
  ·simp only[if_neg hf]at h;cases h
 | .cells _ _ false,h=>cases h
 | .map ..,h=>cases h
 | .loop ..,h=>cases h
 | .siter ..,h=>cases h
 | .dead,h=>cases h
def lL(n0 n:Nat)(σ:Nat->Nat):Nat->Nat:=λj=>if j<n0 then σ j else n+(j - n0)
def vr_ren' [Glo]{n:Nat}{τ:Nat->Nat}{mu' mu'':HMap}(hmu:∀j,j<n->mu'' (τ j)=mu' j){v c:Value}(hv:OkV n v)(h:VR noL mu' v c):VR noL mu'' (renV τ v) c:=by
 rcases hv with⟨h1,h2⟩|⟨j,off,len,cx,e,hj,rfl⟩
 ·rw[h2,cL h1 h]
  exact .of_flat h1
 ·show VR noL mu'' (.slice (some ⟨τ j,off,tag e⟩) len cx) c
  generalize ht:tag e=t at h ⊢
  cases h with
  |hslice q1 q2 q3 q4=>exact .hslice ((hmu j hj).trans q1) q2 q3 q4
  |hslice0 q1=>exact .hslice0 q1
  |gslice _=>simp[tag]at ht
  |gslice0=>simp[tag]at ht
  |scalar q=>simp[scalar]at q
def vr_sl' [Glo]{n:Nat}{τ:Nat->Nat}{mu' mu'':HMap}(hmu:∀j,j<n->mu'' (τ j)=mu' j){l:SL}{c:Value}(hl:OkL n l.lf)(h:VR noL mu' l.val c):VR noL mu'' (lU τ l).val c:=by
 cases l with
 |v x=>exact vr_ren' hmu hl h
 |i k m=>
  have hf:flat (Value.int k m)=true:=rfl
  have h:VR noL mu' (.int k m) c:=h
  rw[cL hf h];exact .of_flat hf
 |b t=>
  have hf:flat (Value.bool t)=true:=rfl
  have h:VR noL mu' (.bool t) c:=h
  rw[cL hf h];exact .of_flat hf
 |l t=>
  have hf:flat (Value.bool t)=true:=rfl
  have h:VR noL mu' (.bool t) c:=h
  rw[cL hf h];exact .of_flat hf
def vr_s0' [Glo]{n:Nat}{τ:Nat->Nat}{mu' mu'':HMap}(hmu:∀j,j<n->mu'' (τ j)=mu' j){x:S0}{c:Value}(hx:∀l∈x.cells,OkL n l.lf)(h:VR noL mu' x.val c):VR noL mu'' (renS τ x).val c:=by
 cases x with
 |leaf l=>exact vr_sl' hmu (hx l (by simp[S0.cells])) h
 |agg cs=>
  have h:VR noL mu' (.agg ⟨cs.map SL.val⟩) c:=h
  generalize ha:(⟨cs.map SL.val⟩ : Array Value)=a at h
  cases h with
  |scalar q=>simp[scalar]at q
  |agg hs h=>
   subst ha
   refine .agg (by simpa using hs) λi x y hx' hy=>?_
   have hi:((cs.map (lU τ)).map SL.val)[i]?=some x:=by simpa using hx'
   rw[qat,qat]at hi
   cases e:cs[i]? with
   |none=>rw[e]at hi;cases hi
   |some l=>
    rw[e]at hi
    cases hi
    exact vr_sl' hmu (hx l (qag e)) (h i _ y (by simp[e]) hy)
def vr_pack' [Glo]{n:Nat}{τ:Nat->Nat}{mu' mu'':HMap}(hmu:∀j,j<n->mu'' (τ j)=mu' j){xs:List S0}{c:Value}(hx:∀x∈xs,∀l∈x.cells,OkL n l.lf)(h:VR noL mu' (eV (ah xs)) c):VR noL mu'' (eV (ah (xs.map (renS τ)))) c:=by
 match xs,hx,h with
 | [],_,h=>
  have h:VR noL mu' undef c:=h
  have hf:flat undef=true:=rfl
  rw[cL hf h]
  exact .of_flat hf
 | [x],hx,h=>exact vr_s0' hmu (hx x qax) h
 |x :: y :: l,hx,h=>
  have h:VR noL mu' (.tuple ⟨ah (x :: y :: l)⟩) c:=h
  show VR noL mu'' (.tuple ⟨ah ((x :: y :: l).map (renS τ))⟩) c
  generalize ha:(⟨ah (x :: y :: l)⟩ : Array Value)=a at h
  have hsz:a.size=l.length+2:=by subst ha;simp[ah]
  cases h with
  |scalar q=>simp[scalar]at q
  |poison _=>exact absurd hsz (by simp)
  |sym _=>exact absurd hsz (by simp)
  |tuple hn hs h=>
   subst ha
   refine .tuple (by simp[ah]) (by simpa[ah]using hs) λi x' y' hx' hy=>?_
   have hi:(ah ((x :: y :: l).map (renS τ)))[i]?=some x':=by simpa using hx'
   unfold ah at hi
   rw[qat,qat]at hi
   cases e:(x :: y :: l)[i]? with
   |none=>rw[e]at hi;cases hi
   |some s=>
    rw[e]at hi
    cases hi
    exact vr_s0' hmu (hx s (qag e)) (h i _ y' (by
     show(⟨(x :: y :: l).map S0.val⟩ : Array Value)[i]?=_
     rw[List.getElem?_toArray,qat,e];rfl) hy)
def objR_some [Glo]{mu:HMap}{p:Pl}{x:Option Obj}{o:HObj}(ha:o.alive=true)(h:objR mu p x o):∃y,x=some y:=by
 cases o with
 |cells vs e rw=>obtain⟨_,_,_,c,e,fr,h,_⟩:=h;exact⟨_,h⟩
 |map es c=>obtain⟨es',h,_⟩:=h;exact⟨_,h⟩
 |loop r=>obtain⟨L,h,_⟩:=h;exact⟨_,h⟩
 |siter s p=>exact⟨_,h⟩
 |dead=>cases ha
end
section
variable [Val]
def frame_alI(kp:Nat->HObj->HObj)(hkp:∀k o,(kp k o).alive=true->∃vs e,o = .cells vs e true/\vs.all flat=true/\kp k o = .cells vs e true){C:Cfg}(hG:∀g vs,C.G g=some vs->vs.all gfl=true){f:FuncId}{args0 args:List Value}{r0 r:Value}{H0 H' H:List HObj}(σ:Nat->Nat)(h:cX C f args0 H0 r0 H')
  (h0:∀(j:Nat) (o:HObj),H0[j]?=some o->∃vs e rw,o = .cells vs e false/\vs.all flat=true/\H[σ j]?=some (.cells vs e rw))
  (ha:∀ [Glo] (mu mu0:HMap) (cs:List Value),(∀j,j<H0.length->mu0 j=mu (σ j))->VRs noL mu args cs->VRs noL mu0 args0 cs)
  (hr:∀ [Glo] (mu' mu'':HMap) (c:Value),(∀j,j<H'.length->mu'' (lL H0.length H.length σ j)=mu' j)->VR noL mu' r0 c->VR noL mu'' r c):cX C f args H r (H++(H'.drop H0.length).mapIdx kp):=by
 intro _ base mu w args' hb hargs hW cs
 let mu0:HMap:=λj=>if j<H0.length then mu (σ j)else none
 have hno:∀b,¬Own mu0 H0 b:=by
  rintro b ⟨id,o,p,h1,h2,_⟩
  obtain⟨vs,e,rw',rfl,_⟩:=h0 id o h1
  cases h2
 have hmu:∀(id:Nat) (o:HObj),H0[id]?=some o->mu0 id=mu (σ id):=by
  intro id o h1
  have:id<H0.length:=by
   rcases qaB id H0.length with h|h
   ·exact h
   ·rw[qah h]at h1;cases h1
  simp only[mu0,if_pos this]
 have hobj:∀(id:Nat) (o:HObj),H0[id]?=some o->∃p,mu0 id=some p/\objR mu0 p w.heap[p.b]? o:=by
  intro id o h1
  obtain⟨vs,e,rw',rfl,hf,hH⟩:=h0 id o h1
  obtain⟨p,h3,h4⟩:=hW.obj (σ id) _ hH rfl
  obtain⟨g1,g2,g3,c,e',fr,g4,g5,g6,g7⟩:=h4
  refine⟨p,by rw[hmu id _ h1];exact h3,g1,g2,g3,c,e',fr,g4,g5,λe=>by(cases e),λi v hv=>?_⟩
  obtain⟨v',q1,q2⟩:=g7 i v hv
  have h2:flat v=true:=qab.1 hf v (qag hv)
  refine⟨v',q1,?_⟩
  rw[cL h2 q2]
  exact .of_flat h2
 have hin:∀(p:Pl) (o:HObj) (m:HMap),o.alive=true->objR m p w.heap[p.b]? o->p.b<w.heap.size:=by
  intro p o m ha h
  obtain⟨y,hy⟩:=objR_some ha h
  rcases qaB p.b w.heap.size with h|h
  ·exact h
  ·rw[qa9 h]at hy;cases hy
 have hW0:WR C w.heap.size mu0 H0 w:=by
  refine⟨λid o h1 _=>hobj id o h1,λi j oi oj pi pj h1 h2 h3=>?_,λi o p h1 h2=>?_,λi o p h1 ha' _ h2=>?_,λid h1=>?_,λg vs hg=>?_⟩
  ·obtain⟨vs,e,rw',rfl,_⟩:=h0 i oi h1
   cases h3
  ·obtain⟨vs,e,rw',rfl,_⟩:=h0 i o h1
   cases h2
  ·obtain⟨p',h3,h4⟩:=hobj i o h1
   rw[h2]at h3
   cases h3
   exact hin _ _ _ ha' h4
  ·simp only[mu0,if_neg (qdH.2 h1)]
  ·obtain⟨h1,h2,c,e,fr,h3,h4⟩:=hW.glob g vs hg
   exact⟨by omega,h2,c,e,fr,h3,ii (hG g vs hg) h4⟩
 have hargs0:VRs noL mu0 args0 args'.toList:=ha mu mu0 _ (λj hj=>by simp only[mu0,if_pos hj]) hargs
 obtain⟨v,mu',w',a1,a2,a3,a4,a5⟩:=h _ w.heap.size mu0 w args' (qan _) hargs0 hW0 cs
 have hkeep:∀(b:Nat) x,w.heap[b]?=some x->w'.heap[b]?=some x:=by
  intro b x hx
  have hlt:b<w.heap.size:=by
   rcases qaB b w.heap.size with h|h
   ·exact h
   ·rw[qa9 h]at hx;cases hx
  rw[a3.keep b hlt (hno b)];exact hx
 let mu2:HMap:=λid=>if id<H.length then mu id else mu' (H0.length+(id - H.length))
 have hold:∀id,id<H.length->mu2 id=mu id:=λid hi=>by simp only[mu2,if_pos hi]
 have hnew:∀k,mu2 (H.length+k)=mu' (H0.length+k):=λk=>by
  simp only[mu2,if_neg (qdH.2 (qdr H.length k)),qb4]
 have hlen:=a3.len
 have hmono:∀i p,mu i=some p->mu2 i=some p:=by
  intro i p hp
  rw[hold i];exact hp
  rcases qaB i H.length with h|h
  ·exact h
  ·rw[hW.dom i h]at hp;cases hp
 have hbeh:∀(id:Nat) (o:HObj),(H++(H'.drop H0.length).mapIdx kp)[id]?=some o->¬id<H.length->o.alive=true->
   ∃k vs e,id=H.length+k/\H'[H0.length+k]?=some (.cells vs e true)/\vs.all flat=true/\o = .cells vs e true:=by
  intro id o ho hid hal
  rw[qam (by omega),qbU,qa0]at ho
  obtain⟨o',h1,rfl⟩:=qae.1 ho
  obtain⟨vs,e,rfl,hf,e2⟩:=hkp _ _ hal
  exact⟨id - H.length,vs,e,by omega,h1,hf,e2⟩
 refine⟨v,mu2,w',?_,?_,?_,a4,a5⟩
 ·refine hr mu' mu2 v (λj hj=>?_) a1
  unfold lL
  by_cases hj0:j<H0.length
  ·rw[if_pos hj0]
   obtain⟨vs,e,rw',_,_,hH⟩:=h0 j _ (qar hj0)
   have:σ j<H.length:=by
    rcases qaB (σ j) H.length with h|h
    ·exact h
    ·rw[qah h]at hH;cases hH
   rw[hold _ this,a3.same j hj0]
   simp only[mu0,if_pos hj0]
  ·rw[if_neg hj0,hnew,show H0.length+(j - H0.length)=j by omega]
 ·refine⟨λid o h1 h2=>?_,λi j oi oj pi pj h1 h2 h3 h4 h5 h6 h7=>?_,λi o p h1 h2 h3=>?_,λi o p h1 h2 h3 h4=>?_,λid h1=>?_,λg vs hg=>?_⟩
  ·by_cases hid:id<H.length
   ·rw[qaf hid]at h1
    obtain⟨p,h3,h4⟩:=hW.obj id o h1 h2
    exact⟨p,hmono _ _ h3,(nU (hkeep p.b) h4).mono hmono⟩
   ·obtain⟨k,vs,e,rfl,h3,hf,rfl⟩:=hbeh id o h1 hid h2
    obtain⟨p,h4,g1,g2,g3,c,e',fr,g4,g5,g6,g7⟩:=a2.obj _ _ h3 rfl
    refine⟨p,by rw[hnew];exact h4,g1,g2,g3,c,e',fr,g4,g5,g6,λi v hv=>?_⟩
    obtain⟨v',q1,q2⟩:=g7 i v hv
    have hfv:flat v=true:=qab.1 hf v (qag hv)
    refine⟨v',q1,?_⟩
    rw[cL hfv q2]
    exact .of_flat hfv
  ·by_cases hi:i<H.length
   ·rw[qaf hi]at h1
    rw[hold i hi]at h6
    by_cases hj:j<H.length
    ·rw[qaf hj]at h2
     rw[hold j hj]at h7
     exact hW.inj i j oi oj pi pj h1 h2 h3 h4 h5 h6 h7
    ·obtain⟨k,vs,e,rfl,q1,hf,rfl⟩:=hbeh j oj h2 hj h4
     rw[hnew]at h7
     have hb2:=a2.own _ _ _ q1 rfl h7
     obtain⟨p,h8,h9⟩:=hW.obj i oi h1 (aT h3)
     rw[h6]at h8;cases h8
     have:=hin _ _ _ (aT h3) h9
     omega
   ·obtain⟨k,vs,e,rfl,q1,hf,rfl⟩:=hbeh i oi h1 hi (aT h3)
    rw[hnew]at h6
    have hb2:=a2.own _ _ _ q1 rfl h6
    by_cases hj:j<H.length
    ·rw[qaf hj]at h2
     rw[hold j hj]at h7
     obtain⟨p,h8,h9⟩:=hW.obj j oj h2 h4
     rw[h7]at h8;cases h8
     have:=hin _ _ _ h4 h9
     omega
    ·obtain⟨k2,vs2,e2,rfl,q2,hf2,rfl⟩:=hbeh j oj h2 hj h4
     rw[hnew]at h7
     exact a2.inj _ _ _ _ _ _ q1 q2 rfl rfl (by omega) h6 h7
  ·by_cases hi:i<H.length
   ·rw[qaf hi]at h1
    rw[hold i hi]at h3
    exact hW.own i o p h1 h2 h3
   ·obtain⟨k,vs,e,rfl,q1,hf,rfl⟩:=hbeh i o h1 hi (aT h2)
    rw[hnew]at h3
    have:=a2.own _ _ _ q1 rfl h3
    omega
  ·by_cases hi:i<H.length
   ·rw[qaf hi]at h1
    rw[hold i hi]at h4
    exact hW.ro i o p h1 h2 h3 h4
   ·obtain⟨k,vs,e,rfl,q1,hf,rfl⟩:=hbeh i o h1 hi h2
    cases h3
  ·rw[qay,List.length_mapIdx,qbv]at h1
   have:¬id<H.length:=by omega
   simp only[mu2,if_neg this]
   exact a2.dom _ (by omega)
  ·obtain⟨h1,h2,c,e,fr,h3,h4⟩:=hW.glob g vs hg
   exact⟨h1,h2,c,e,fr,hkeep _ _ h3,ii (hG g vs hg) h4⟩
 ·refine⟨by simp,λid hid=>hold id hid,a3.size,λb hb _=>a3.keep b hb (hno b),λb hb=>?_,a3.os,a3.tape,a3.output,a3.dr⟩
  obtain⟨id,o,p,q1,q2,q3,rfl⟩:=hb
  by_cases hid:id<H.length
  ·rw[qaf hid]at q1
   rw[hold id hid]at q3
   exact .inr ⟨id,o,p,q1,q2,q3,rfl⟩
  ·obtain⟨k,vs,e,rfl,q4,hf,rfl⟩:=hbeh id o q1 hid (aT q2)
   rw[hnew]at q3
   exact .inl (a2.own _ _ _ q4 rfl q3)
def call_alI(kp:Nat->HObj->HObj)(hkp:∀k o,(kp k o).alive=true->∃vs e,o = .cells vs e true/\vs.all flat=true/\kp k o = .cells vs e true){C:Cfg}{N:FuncId->Option Nat}{Sg:FuncId->Option Sig}(hm:C.P.follows .mixedOrders=true)(hG:∀g vs,C.G g=some vs->vs.all gfl=true){g:FuncId}(hn:N g=none){ls0 rs:List Lf}{H0 H' H:List HObj}(σ:Nat->Nat)
  (h:let _:Kno:=KnoC C N;aw C Sg g ls0 H0 rs H')
  (h0:∀(j:Nat) (o:HObj),H0[j]?=some o->∃vs e rw,o = .cells vs e false/\vs.all flat=true/\H[σ j]?=some (.cells vs e rw))
  (hl:∀l∈ls0,OkL H0.length l) (hrl:∀l∈rs,OkL H'.length l):let _:Kno:=KnoC C N;aw C Sg g (ls0.map (renL σ)) H (rs.map (renL (lL H0.length H.length σ))) (H++(H'.drop H0.length).mapIdx kp):=by
 let _:Kno:=KnoC C N
 obtain⟨sg,xs,ys,c1,c2,c3,c4⟩:=h
 have hx:∀x∈xs,∀l∈x.cells,OkL H0.length l.lf:=λx hx l hl'=>hl _ (by rw[←c2.2.1];exact nJ hx hl')
 have hy:∀x∈ys,∀l∈x.cells,OkL H'.length l.lf:=λx hx l hl'=>hrl _ (by rw[←c3.2.1];exact nJ hx hl')
 have gd:∀(τ:Nat->Nat) (zs:List S0),(∀x∈zs,x.good)->∀x∈zs.map (renS τ),x.good:=by
  intro τ zs hz x hx'
  obtain⟨y,hy,rfl⟩:=qaM.1 hx'
  intro l hl'
  rw[mY]at hl'
  obtain⟨l',hl'',rfl⟩:=qaM.1 hl'
  exact wA (hz y hy l' hl'')
 refine⟨sg,xs.map (renS σ),ys.map (renS (lL H0.length H.length σ)),c1,⟨by rw[ji];exact c2.1,by rw[jx,c2.2.1],gd _ _ c2.2.2⟩,⟨by rw[ji];exact c3.1,by rw[jx,c3.2.1],gd _ _ c3.2.2⟩,⟨0,?_⟩⟩
 exact .inr ⟨.inl hn,frame_alI kp hkp hG σ (jN hm c4) h0 (λmu mu0 cs hmu h=>vrs_ren hmu hx h) λmu' mu'' c hmu h=>vr_pack' hmu hy h⟩
def yE{α β:Type}(f:α->β)(l:List α):l.mapIdx (λ_=>f)=l.map f:=by
 apply qaR
 intro i
 rw[qbU,qat]
def call_alK(kp:HObj->HObj)(hkp:∀o,(kp o).alive=true->∃vs e,o = .cells vs e true/\vs.all flat=true/\kp o = .cells vs e true){C:Cfg}{N:FuncId->Option Nat}{Sg:FuncId->Option Sig}(hm:C.P.follows .mixedOrders=true)(hG:∀g vs,C.G g=some vs->vs.all gfl=true){g:FuncId}(hn:N g=none){ls0 rs:List Lf}{H0 H' H:List HObj}(σ:Nat->Nat)
  (h:let _:Kno:=KnoC C N;aw C Sg g ls0 H0 rs H')
  (h0:∀(j:Nat) (o:HObj),H0[j]?=some o->∃vs e rw,o = .cells vs e false/\vs.all flat=true/\H[σ j]?=some (.cells vs e rw))
  (hl:∀l∈ls0,OkL H0.length l) (hrl:∀l∈rs,OkL H'.length l):let _:Kno:=KnoC C N;aw C Sg g (ls0.map (renL σ)) H (rs.map (renL (lL H0.length H.length σ))) (H++(H'.drop H0.length).map kp):=by
 have:=call_alI (λ_=>kp) (λ_=>hkp) hm hG hn σ h h0 hl hrl
 rwa [yE]at this
def call_al{C:Cfg}{N:FuncId->Option Nat}{Sg:FuncId->Option Sig}(hm:C.P.follows .mixedOrders=true)(hG:∀g vs,C.G g=some vs->vs.all gfl=true){g:FuncId}(hn:N g=none){ls0 rs:List Lf}{H0 H' H:List HObj}(σ:Nat->Nat)
  (h:let _:Kno:=KnoC C N;aw C Sg g ls0 H0 rs H')
  (h0:∀(j:Nat) (o:HObj),H0[j]?=some o->∃vs e rw,o = .cells vs e false/\vs.all flat=true/\H[σ j]?=some (.cells vs e rw))
  (hl:∀l∈ls0,OkL H0.length l) (hrl:∀l∈rs,OkL H'.length l):let _:Kno:=KnoC C N;aw C Sg g (ls0.map (renL σ)) H (rs.map (renL (lL H0.length H.length σ))) (H++(H'.drop H0.length).map yv):=
 call_alK yv (λ_ h=>vh h) hm hG hn σ h h0 hl hrl
end
end Sx
end Go.Am
set_option maxRecDepth 100000
namespace Go.Am
open Sx Go.Proofs
def known_val{g n:Nat}{ls rs:List Lf}{sg:Sig}(hs:ac g=some sg)(hp:sg.plain=true)(hg:gj ls=true)(h:runF n (.f g) ls .empty tell=some rs):∀H,aw cc ac g ls H rs H:=by
 obtain⟨rs',h',a1,a2⟩:=(rS n).f g ls .empty tell rs (eO hg) h
 rw[vU]at a2
 cases a2
 exact xp g sg ls _ _ hs hp a1
def yu(rs':List Lf):Option (List Lf)->Bool:=λo=>@Option.rec _ (λ_=>Bool) false (λrs=>eqLs rs rs') o
def fC{g n:Nat}{ls rs:List Lf}{sg:Sig}(hs:ac g=some sg)(hp:sg.plain=true)(hg:gj ls=true)(h:yu rs (runF n (.f g) ls .empty tell)=true):∀H,aw cc ac g ls H rs H:=by
 cases e:runF n (.f g) ls .empty tell with
 |none=>rw[e]at h;cases h
 |some rs'=>
  rw[e]at h
  have h:eqLs rs' rs=true:=h
  rw[jZ h]at e
  exact known_val hs hp hg e
def eqCell(a b:Value):Bool:=match a,b with
 | .int k n,.int k' n'=>dy k k'&&eqZK n n'
 | .bool t,.bool t'=>eqBK t t'
 |_,_=>false
def eqCell_ok{a b:Value}(h:eqCell a b=true):a=b/\flat b=true:=by
 unfold eqCell at h
 split at h
 ·simp only[qaa]at h
  have h2:=h.2
  rw[qU,beq_iff_eq]at h2
  rw[dw h.1,h2]
  exact⟨rfl,rfl⟩
 next a b=>
  cases a<;>cases b<;>first|exact⟨rfl,rfl⟩|cases h
 ·cases h
def qR(c:Tr Value):List Value->Nat->Bool
 | [],_=>true
 |v :: l,i=>eqCell ((bq i).get nilV c) v&&qR c l (i+1)
def px{c:Tr Value}:∀ {l:List Value} {i:Nat},qR c l i=true->(∀j (h:j<l.length),(bq (i+j)).get nilV c=l[j])/\l.all flat=true
 | [],i,_=>⟨λj h=>by simp at h,rfl⟩
 |v :: l,i,h=>by
  simp only[qR,qaa]at h
  obtain⟨h1,h2⟩:=eqCell_ok h.1
  obtain⟨h3,h4⟩:=px h.2
  refine⟨λj hj=>?_,by simp[h2,h4]⟩
  cases j with
  |zero=>exact h1
  |succ j=>
   have:=h3 j (by simpa using hj)
   rw[show i+(j+1)=i+1+j by omega]
   simpa using this
def isSl(h:HTr)(x:Value)(e n:Nat)(cells:List Value):Bool:=match x with
 | .slice none 0 0=>Nat.beq n 0&&Nat.beq cells.length 0
 | .slice (some a) len _=>Nat.beq len n&&Nat.beq a.off 0&&Nat.beq cells.length (n*e)&&tagB a.spot e&&(match h.at a.block with
  |some (.t m e' true c)=>Nat.beq m (n*e)&&Nat.beq e' e&&qR c cells 0
  |_=>false)
 |_=>false
def isSl_ok{h:HTr}{x:Value}{e n:Nat}{cells:List Value}(hx:isSl h x e n cells=true):cells.length=n*e/\cells.all flat=true/\((x = .slice none 0 0/\n=0)∨∃id cx,x = .slice (some ⟨id,0,tag e⟩) n cx/\id<h.n/\(toL h)[id]?=some (.o (.cells cells e true))):=by
 unfold isSl at hx
 split at hx
 ·simp only[qaa]at hx
  have h1:=qac hx.1
  have h2:=qac hx.2
  subst h1
  rw[qbf]at h2
  subst h2
  exact⟨by simp,rfl,.inl ⟨rfl,rfl⟩⟩
 next a len cx=>
  simp only[qaa]at hx
  obtain⟨⟨⟨⟨h1,h2⟩,h3⟩,h4⟩,h5⟩:=hx
  have h1:=qac h1
  have h2:=qac h2
  have h3:=qac h3
  have h4:=mK.1 h4
  subst h1
  split at h5
  next m e' c hat=>
   simp only[qaa]at h5
   obtain⟨⟨g1,g2⟩,g3⟩:=h5
   have g1:=qac g1
   have g2:=qac g2
   subst g1 g2
   obtain⟨g4,g5⟩:=px g3
   have ha:a=⟨a.block,0,tag e'⟩:=by cases a;simp_all
   have hc:bH c (len*e')=cells:=by
    apply List.ext_getElem
    ·rw[aX,h3]
    ·intro i hi hi'
     have:=dJ c (i:=i) (n:=len*e') (by rw[aX]at hi;exact hi)
     rw[qar hi]at this
     have:=qap this
     rw[this,←g4 i hi',qaL]
   refine⟨h3,g5,.inr ⟨a.block,cx,by rw[ha],?_,?_⟩⟩
   ·unfold HTr.at at hat
    split at hat
    next hb=>rw[qaK]at hb;exact hb
    ·cases hat
   ·rw[jc,hat]
    show some (HO.o (.cells (bH c (len*e')) e' true))=_
    rw[hc]
  ·cases h5
 ·cases hx
def absH_app(T:Nat->Site)(h G:HL):absH T (h++G)=absH T h++absH T G:=by simp[absH]
def absH_o(T:Nat->Site)(l:List HObj):absH T (l.map HO.o)=l:=by
 induction l with
 |nil=>rfl
 |cons a l ih=>show absO T (.o a) :: absH T (l.map HO.o)=_;rw[ih];rfl
def made{g n:Nat}{ls rest:List Lf}{e m:Nat}{cells:List Value}(hg:gj ls=true)(hno:neuN g=none)(hl:ls.all (λl=>match l with | .v _=>false|_=>true)=true)(hr:rest.all (λl=>match l with | .v _=>false|_=>true)=true)
  (h:runF n (.f g) ls .empty (λrs h=>match rs with
   | .v x :: r=>ans (eqLs r rest&&isSl h x e m cells)
   |_=>none)=yes) (H:HL):∃x G,aw cc ac g ls (absH aa H) (.v x :: rest) (absH aa (H++G))/\SlC (H++G) x e m cells:=by
 obtain⟨rs,h',a1,a2⟩:=(rS n).f g ls .empty _ [] (eO hg) h
 split at a2
 next x r=>
  have a2:=ans_yes a2
  simp only[qaa]at a2
  obtain⟨a2,a3⟩:=a2
  have a2:=jZ a2
  subst a2
  obtain⟨b1,b2,b3⟩:=isSl_ok a3
  have plainR:∀(l:List Lf) (σ:Nat->Nat),l.all (λl=>match l with | .v _=>false|_=>true)=true->l.map (renL σ)=l:=by
   intro l σ hl
   induction l with
   |nil=>rfl
   |cons a l ih=>
    simp only[qbB,qaa]at hl
    rw[qav,ih hl.2]
    cases a<;>first|rfl|(simp at hl)
  have plainOk:∀(l:List Lf) (n:Nat),l.all (λl=>match l with | .v _=>false|_=>true)=true->∀a∈l,OkL n a:=by
   intro l n hl a ha
   have:=qab.1 hl a ha
   cases a<;>first|trivial|cases this
  have e0:absH aa (toL HTr.empty)=[]:=rfl
  rw[e0]at a1
  have key:=call_al (N:=neuN) mixed ky hno (H:=absH aa H) id a1 (λj o hj=>by simp at hj) (plainOk ls _ hl) (λl hl'=>by
   rcases qak.1 hl' with rfl|hl'
   ·rcases b3 with⟨rfl,_⟩|⟨id,cx,rfl,hid,_⟩
    ·exact .inl ⟨rfl,λ_=>rfl⟩
    ·exact .inr ⟨id,0,m,cx,e,by rw[cZ,dE];exact hid,rfl⟩
   ·exact plainOk _ _ hr l hl')
  rw[plainR ls id hl,qav,plainR _ _ hr,qbi,qbg]at key
  refine⟨renV (lL 0 (absH aa H).length id) x,((absH aa (toL h')).map yv).map .o,?_,b1,?_⟩
  ·rw[absH_app,absH_o];exact key
  ·rcases b3 with⟨rfl,hm⟩|⟨id',cx,rfl,hid,hb⟩
   ·exact .inl ⟨rfl,hm⟩
   ·refine .inr ⟨_,0,cx,cells,true,rfl,?_,Sx.cut_all b1⟩
    unfold lL
    rw[if_neg (qca _),Nat.sub_zero,cZ,qam (by omega),qb4,qat,qat]
    have:(absH aa (toL h'))[id']?=some (.cells cells e true):=by
     unfold absH
     rw[qat,hb];rfl
    rw[this]
    show some (HO.o (if cells.all flat=true then HObj.cells cells e true else .dead))=_
    rw[if_pos b2]
 ·cases a2
def nbr(w v c e:Nat):Option Nat:=
 match e,c%4 with
 |0,0=>if 0<c / 4 / w then some (c+2 - 4*w)else none
 |0,1=>if c / 4%w+1<w then some (c+6)else none
 |0,2=>if c / 4 / w+1<v then some (c+4*w - 2)else none
 |0,_=>if 0<c / 4%w then some (c - 6)else none
 |1,0=>some (c+1)
 |1,1=>some (c - 1)
 |1,2=>some (c+1)
 |1,_=>some (c - 1)
 |2,0=>some (c+3)
 |2,1=>some (c+1)
 |2,2=>some (c - 1)
 |2,_=>some (c - 3)
 |_,_=>none
def nameN(w v c e:Nat):List Lf:=match nbr w v c e with
 |some n=>[.i (.ofNat (min c n)),.i (.ofNat e),.i 0]
 |none=>[.i 0,.i 0,.i 7]
def cellN(w c:Nat):List Lf:=[.i (.ofNat (c / 4%w)),.i (.ofNat (c / 4 / w)),.i (.ofNat (c%4)),.i 0]
def tabName(w v:Nat):Bool:=(List.range (4*w*v)).all λc=>(List.range 3).all λe=>yu (nameN w v c e) (runF 60 (.f 64) [.i (.ofNat w),.i (.ofNat v),.i (.ofNat c),.i (.ofNat e)] .empty tell)
def tabCell(w v:Nat):Bool:=(List.range (4*w*v)).all λc=>yu (cellN w c) (runF 60 (.f 72) [.i (.ofNat w),.i (.ofNat v),.i (.ofNat c)] .empty tell)
def aF(w v:Nat):List (Nat×Nat):=(List.range (4*w*v)).flatMap λc=>(List.range 3).filterMap λe=>match nbr w v c e with
 |some n=>if c<n then some (c,e)else none
 |none=>none
def encU(u:Nat×Nat):List Value:=[.int .i64 (.ofNat u.1),.int .u8 (.ofNat u.2)]
def sd(w v:Nat):Bool:=match runF 60 (.f 15) [.i (.ofNat w),.i (.ofNat v)] .empty (λrs h=>match rs with
   | .v x :: r=>ans (eqLs r []&&isSl h x 2 (aF w v).length ((aF w v).flatMap encU))
   |_=>none)with
 |some []=>true
 |_=>false
def ltN(a b:Nat×Nat):Bool:=Nat.blt a.1 b.1||(Nat.beq a.1 b.1&&Nat.blt a.2 b.2)
def ascN:List (Nat×Nat)->Bool
 |a :: b :: l=>ltN a b&&ascN (b :: l)
 |_=>true
def tab5(w v:Nat):Bool:=tabName w v&&(tabCell w v&&(sd w v&&(ascN (aF w v)&&Nat.ble (aF w v).length 1000)))
def gY:∀w v:Nat,1<=w->w<=5->1<=v->v<=5->tab5 w v=true:=by
 have key:((List.range 5).all λw=>(List.range 5).all λv=>tab5 (w+1) (v+1))=true:=by kernel_rfl
 intro w v h1 h2 h3 h4
 have h5:=qab.1 key (w - 1) (qad.2 (by omega))
 have h6:=qab.1 h5 (v - 1) (qad.2 (by omega))
 have e1:w - 1+1=w:=by omega
 have e2:v - 1+1=v:=by omega
 rw[e1,e2]at h6
 exact h6
def nbr_ne{w v c e n:Nat}(hw:1<=w)(h:nbr w v c e=some n):n≠c:=by
 have hx:c / 4%w<=c / 4:=qdP _ _
 have hy:c / 4 / w<=c / 4:=qde _ _
 have hq:c%4=0∨c%4=1∨c%4=2∨c%4=3:=by omega
 rcases e with _|_|_|e<;>rcases hq with h1|h1|h1|h1<;>simp only[nbr,h1]at h<;>
  first
  |(split at h<;>first|(simp only[qaA]at h;omega)|(cases h;done))
  |(simp only[qaA]at h;omega)
  |(cases h;done)
def gX{w v:Nat}(h:tab5 w v=true):tabName w v=true/\tabCell w v=true/\sd w v=true/\ascN (aF w v)=true/\(aF w v).length<=1000:=by
 unfold tab5 at h
 simp only[qaa,qbb]at h
 exact h
def nameIn{w v:Nat}(ht:tab5 w v=true){c e:Nat}(hc:c<4*w*v)(he:e<3):Cc 64 [.i (.ofNat w),.i (.ofNat v),.i (.ofNat c),.i (.ofNat e)] (nameN w v c e):=by
 have h1:=qab.1 (gX ht).1 c (qad.2 hc)
 exact fC (n:=60) rfl (by kernel_rfl) rfl (qab.1 h1 e (qad.2 he))
def cellIn{w v:Nat}(ht:tab5 w v=true){c:Nat}(hc:c<4*w*v):Cc 72 [.i (.ofNat w),.i (.ofNat v),.i (.ofNat c)] (cellN w c):=
 fC (n:=60) rfl (by kernel_rfl) rfl (qab.1 (gX ht).2.1 c (qad.2 hc))
def valS(w v:Int):Prop:=1<=w/\1<=v/\w<=256/\v<=256/\w*v<=256
instance (w v : Int) : Decidable (valS w v) := by unfold valS; infer_instance
def wS{w v a b:Int}(h:0<=w/\w<=a/\0<=v/\v<=b):0<=w*v/\w*v<=a*b:=
 ⟨Int.mul_nonneg h.1 h.2.2.1,Int.mul_le_mul h.2.1 h.2.2.2 h.2.2.1 (by omega)⟩
def shCheck(w v:Int):Cc 60 [.i w,.i v] [.i (if valS w v then 0 else 1)]:=by
 refine q60 rfl ?_;unfold f60;simp only[qxh]
 by_cases h1:1<=w
 ·by_cases h2:1<=v
  ·by_cases h3:w<=256
   ·by_cases h4:v<=256
    ·have hm:=wS (w:=w) (v:=v) (a:=256) (b:=256) (by omega)
     by_cases h5:w*v<=256
     ·simp(disch:=omega)only[↓qXX];simp[valS,h1,h2,h3,h4,h5]
     ·simp(disch:=omega)only[↓qXX];simp[valS,h5]
    ·simp(disch:=omega)only[↓qXX];simp[valS,h4]
   ·simp(disch:=omega)only[↓qXX];simp[valS,h3]
  ·simp(disch:=omega)only[↓qXX];simp[valS,h2]
 ·simp(disch:=omega)only[↓qXX];simp[valS,h1]
def kX{w v:Int}(h:valS w v):Cc 60 [.i w,.i v] [.i 0]:=by
 have:=shCheck w v;rw[if_pos h]at this;exact this
def smS(w v:Int):Prop:=1<=w/\w<=5/\1<=v/\v<=5
def vN{w v:Int}(h:smS w v):valS w v:=by
 unfold smS at h;have:=wS (w:=w) (v:=v) (a:=5) (b:=5) (by omega);unfold valS;omega
def sm4{w v:Int}(h:smS w v):4<=4*w*v/\4*w*v<=100:=by
 unfold smS at h
 have h1:=wS (w:=4*w) (v:=v) (a:=20) (b:=5) (by omega)
 have h2:4*w<=4*w*v:=by
  have:=Int.mul_le_mul_of_nonneg_left h.2.2.1 (show 0<=4*w by omega)
  rw[Int.mul_one]at this;exact this
 omega
def has_c{w v:Int}(h:smS w v)(c:Int):Cc 111 [.i w,.i v,.i c] [.b (decide (0<=c)&&decide (c<4*w*v))]:=by
 have h4:=sm4 h
 unfold smS at h
 refine q111 rfl ?_;unfold f111;simp only[qxh]
 by_cases h1:0<=c
 ·by_cases h2:c<4*w*v
  ·simp(disch:=omega)only[↓qXX];simp[h1,h2]
  ·simp(disch:=omega)only[↓qXX];simp[h1,h2]
 ·simp(disch:=omega)only[↓qXX];simp[h1]
def yR{w v c:Int}(h:smS w v)(hc:¬(0<=c/\c<4*w*v)):Cc 72 [.i w,.i v,.i c] [.i 0,.i 0,.i 0,.i 7]:=by
 refine q72 rfl ?_;unfold f72;simp only[qxh]
 simp(disch:=omega)only[↓qXX]
 refine af (kX (vN h)) ?_
 simp(disch:=omega)only[↓qXX]
 have e:(decide (0<=c)&&decide (c<4*w*v))=false:=by simp;omega
 refine af (e▸has_c h c) ?_
 simp(disch:=omega)only[↓qXX,qbz]
def vM{w v c e:Int}(h:smS w v)(hc:¬(0<=c/\c<4*w*v)):Cc 98 [.i w,.i v,.i c,.i e] [.i 0,.i 7]:=by
 refine q98 rfl ?_;unfold f98;simp only[qxh]
 simp(disch:=omega)only[↓qXX]
 refine af (yR h hc) ?_
 simp(disch:=omega)only[↓qXX]
def yS{w v c e:Int}(h:smS w v)(hc:¬(0<=c/\c<4*w*v)):Cc 64 [.i w,.i v,.i c,.i e] [.i 0,.i 0,.i 7]:=by
 refine q64 rfl ?_;unfold f64;simp only[qxh]
 simp(disch:=omega)only[↓qXX]
 refine af (vM h hc) ?_
 simp(disch:=omega)only[↓qXX]
def sH{x y q:Int}(h:-4096<=x/\x<=4096/\-4096<=y/\y<=4096/\q<=3):Cc 117 [.i x,.i y,.i q] [.i 0]:=by
 refine q117 rfl ?_;unfold f117;simp only[qxh]
 simp(disch:=omega)only[↓qXX]
def oQ{x y q e:Int}(h:-4096<=x/\x<=4096/\-4096<=y/\y<=4096/\q<=3)(he:2<e):Cc 129 [.i x,.i y,.i q,.i e] [.i 0,.i 0,.i 0,.i 1]:=by
 refine q129 rfl ?_;unfold f129;simp only[qxh]
 simp(disch:=omega)only[↓qXX]
 refine af (sH h) ?_
 simp(disch:=omega)only[↓qXX]
def toNat2{w v:Int}(h:smS w v):∃a b:Nat,w = .ofNat a/\v = .ofNat b/\1<=a/\a<=5/\1<=b/\b<=5:=by
 unfold smS at h
 obtain⟨a,rfl⟩:=qbS (show 0<=w by omega)
 obtain⟨b,rfl⟩:=qbS (show 0<=v by omega)
 exact⟨a,b,rfl,rfl,by omega,by omega,by omega,by omega⟩
def lt_nat{a b c:Nat}(h:(c:Int)<4*(a:Int)*(b:Int)):c<4*a*b:=by
 have:(4*(a:Int)*(b:Int))=((4*a*b:Nat):Int):=by simp
 rw[this]at h;omega
def uy{w v c e:Int}(h:smS w v)(hc:0<=c/\c<4*w*v)(he:2<e):Cc 98 [.i w,.i v,.i c,.i e] [.i 0,.i 1]:=by
 have h4:=sm4 h
 obtain⟨a,b,rfl,rfl,ha⟩:=toNat2 h
 obtain⟨k,rfl⟩:=qbS hc.1
 have hk:k<4*a*b:=lt_nat hc.2
 have hk2:4*a*b<=100:=by
  have:(4*(a:Int)*(b:Int))=((4*a*b:Nat):Int):=by simp
  have h5:=h4.2
  change 4*(a:Int)*(b:Int)<=100 at h5
  rw[this]at h5;omega
 refine q98 rfl ?_;unfold f98;simp only[qxh]
 simp(disch:=omega)only[↓qXX]
 refine af (cellIn (gY a b ha.1 ha.2.1 ha.2.2.1 ha.2.2.2) hk) ?_
 unfold cellN
 simp(disch:=omega)only[↓qXX]
 have h1:k / 4%a<=k / 4:=qdP _ _
 have h2:k / 4 / a<=k / 4:=qde _ _
 have h3:(0:Int)<=((k / 4 / a:Nat):Int):=qaZ _
 have h5:(0:Int)<=((k / 4%a:Nat):Int):=qaZ _
 refine af (oQ (x:=Int.ofNat (k / 4%a)) (y:=Int.ofNat (k / 4 / a)) (q:=Int.ofNat (k%4)) (by simp only[qaq];omega) he) ?_
 simp(disch:=omega)only[↓qXX]
def vL{w v c e:Int}(h:smS w v)(hc:0<=c/\c<4*w*v)(he:2<e):Cc 64 [.i w,.i v,.i c,.i e] [.i 0,.i 0,.i 1]:=by
 refine q64 rfl ?_;unfold f64;simp only[qxh]
 simp(disch:=omega)only[↓qXX]
 refine af (uy h hc he) ?_
 simp(disch:=omega)only[↓qXX]
def isUn(w v c e:Int):Bool:=decide (0<=c)&&decide (c<4*w*v)&&decide (e<=2)&&(match nbr w.toNat v.toNat c.toNat e.toNat with
 |some n=>Nat.blt c.toNat n
 |none=>false)
def name_c{w v c e:Int}(h:smS w v)(he:0<=e):∃a b r:Int,Cc 64 [.i w,.i v,.i c,.i e] [.i a,.i b,.i r]/\(isUn w v c e=true↔r=0/\a=c/\b=e):=by
 by_cases hc:0<=c/\c<4*w*v
 ·by_cases h2:e<=2
  ·obtain⟨a,b,rfl,rfl,ha⟩:=toNat2 h
   obtain⟨k,rfl⟩:=qbS hc.1
   obtain⟨j,rfl⟩:=qbS he
   have hk:k<4*a*b:=lt_nat hc.2
   have hn:=nameIn (gY a b ha.1 ha.2.1 ha.2.2.1 ha.2.2.2) hk (e:=j) (by omega)
   unfold nameN at hn
   cases e:nbr a b k j with
   |none=>
    rw[e]at hn
    refine⟨_,_,_,hn,?_⟩
    have:isUn (.ofNat a) (.ofNat b) (k:Int) (j:Int)=false:=by
     unfold isUn
     have e':nbr (Int.ofNat a).toNat (Int.ofNat b).toNat (k:Int).toNat (j:Int).toNat=none:=e
     rw[e'];simp
    rw[this]
    simp
   |some n=>
    rw[e]at hn
    refine⟨_,_,_,hn,?_⟩
    have hne:=nbr_ne ha.1 e
    have e':nbr (Int.ofNat a).toNat (Int.ofNat b).toNat (k:Int).toNat (j:Int).toNat=some n:=e
    unfold isUn
    rw[e']
    simp only[qaa,decide_eq_true_eq,qaK,qcO]
    constructor
    ·rintro⟨_,h3⟩
     exact⟨by trivial,by show((min k n:Nat):Int)=k;omega,by trivial⟩
    ·rintro⟨_,h3,_⟩
     have h3:((min k n:Nat):Int)=k:=h3
     exact⟨⟨⟨hc.1,hc.2⟩,h2⟩,by omega⟩
  ·refine⟨_,_,_,vL h hc (by omega),?_⟩
   have:isUn w v c e=false:=by unfold isUn;simp[h2]
   rw[this];simp
 ·refine⟨_,_,_,yS h hc,?_⟩
  have:isUn w v c e=false:=by
   unfold isUn
   have:(decide (0<=c)&&decide (c<4*w*v))=false:=by simp;omega
   rw[this];simp
  rw[this];simp
def wI{w v c e:Int}(h:isUn w v c e=true):0<=c/\c<4*w*v/\e<=2:=by
 unfold isUn at h
 simp only[qaa,decide_eq_true_eq]at h
 exact⟨h.1.1.1,h.1.1.2,h.1.2⟩
end Go.Am
set_option maxRecDepth 100000
namespace Go.Am
namespace Sx
section
variable [Val] [Kno] {C:Cfg} {Sg:FuncId->Option Sig} {T:Nat->Site}
def ce{j:Nat}{K:Int->Prop}(h:j<=4294967296):(PH C Sg T).ari .add .i64 (Int.ofNat j) 1 (@hid _ ⟨K⟩)=K (Int.ofNat j+1):=
 p_add (by show -9223372036854775808<=(j:Int)+1;omega) (by show(j:Int)+1<=9223372036854775807;omega)
def n_sub{j:Nat}{K:Int->Prop}(h1:1<=j)(h:j<=4294967296):(PH C Sg T).ari .sub .i64 (Int.ofNat j) 1 (@hid _ ⟨K⟩)=K (Int.ofNat (j - 1)):=by
 rw[p_sub (by show -9223372036854775808<=(j:Int) - 1;omega) (by show(j:Int) - 1<=9223372036854775807;omega)]
 congr 1
 show(j:Int) - 1=((j - 1:Nat):Int)
 omega
def aS{j n:Nat}{K:Bool->Prop}(h:j<n):(PH C Sg T).cmp .lss (Int.ofNat j) (Int.ofNat n) (@hid _ ⟨K⟩)=K true:=p_lss_t (by show(j:Int)<n;omega)
def aY{j n:Nat}{K:Bool->Prop}(h:n<=j):(PH C Sg T).cmp .lss (Int.ofNat j) (Int.ofNat n) (@hid _ ⟨K⟩)=K false:=p_lss_f (by show(n:Int)<=j;omega)
end
def be{α:Type}{l:List α}{i:Nat}{a:α}(h:l[i]?=some a):i<l.length:=by
 rcases qaB i l.length with h1|h1
 ·exact h1
 ·rw[qah h1]at h;cases h
def bn{α:Type}{l:List α}{i:Nat}(h:i<l.length):∃a,l[i]?=some a:=⟨_,qar h⟩
end Sx
end Go.Am
set_option maxRecDepth 100000
set_option maxHeartbeats 4000000
namespace Go.Am
open Sx Go.Proofs
def ltC(a b:Crs):Bool:=decide (a.1<b.1)||(decide (a.1=b.1)&&decide (a.2.1<b.2.1))
def ascC:List Crs->Bool
 |a :: b :: l=>ltC a b&&ascC (b :: l)
 |_=>true
def jk:∀ {l:List Crs},ascC l=true↔∀(i:Nat) a b,l[i]?=some a->l[i+1]?=some b->ltC a b=true
 | []=>by simp[ascC]
 | [a]=>by simp[ascC]
 |a :: b :: l=>by
  simp only[ascC,qaa]
  rw[jk (l:=b :: l)]
  constructor
  ·rintro⟨h1,h2⟩ i x y hx hy
   cases i with
   |zero=>
    simp only[qbj,qaA,qbT]at hx hy
    subst hx hy;exact h1
   |succ i=>exact h2 i x y (by simpa using hx) (by simpa using hy)
  ·intro h
   exact⟨h 0 a b rfl rfl,λi x y hx hy=>h (i+1) x y (by simpa using hx) (by simpa using hy)⟩
def unC(w v:Int)(c:Crs):Bool:=isUn w v c.1 c.2.1
def chkC(w v:Int)(l:List Crs):Int:=if l.all isK=false then 1 else if l.all (unC w v)=false then 7 else if ascC l=true then 0 else 6
def xV(c:Crs):Cc 65 [.i c.1,.i c.2.1,.i c.2.2] [.i c.1,.i c.2.1]:=by
 refine q65 rfl ?_;unfold f65;simp only[qxh]
 simp(disch:=omega)only[↓qXX]
def order_c{a b:Crs}(h:0<=a.1/\a.1<=1000/\0<=b.1/\b.1<=1000/\0<=a.2.1/\a.2.1<=255/\0<=b.2.1/\b.2.1<=255):∃d:Int,Cc 66 [.i a.1,.i a.2.1,.i b.1,.i b.2.1] [.i d]/\(d<0↔ltC a b=true):=by
 by_cases h1:a.1=b.1
 ·refine⟨a.2.1 - b.2.1,?_,by simp only[ltC,qaP,qaa,decide_eq_true_eq];omega⟩
  refine q66 rfl ?_;unfold f66;simp only[qxh]
  simp(disch:=omega)only[↓qXX]
 ·refine⟨a.1 - b.1,?_,by simp only[ltC,qaP,qaa,decide_eq_true_eq];omega⟩
  refine q66 rfl ?_;unfold f66;simp only[qxh]
  simp(disch:=omega)only[↓qXX]
def check_c{w v:Int}(hs:smS w v){h:HL}{x:Value}{l:List Crs}(hl:LsH h x 3 encC l)(hk:∀c∈l,okC c)(hn:l.length<=4294967296) :
  aw cc ac 32 [.i w,.i v,.v x] (absH aa h) [.i (chkC w v l)] (absH aa h):=by
 obtain⟨rs,h',h3,rfl,rfl⟩:=x32 (K:=λrs h'=>rs=[.i (chkC w v l)]/\h'=h) (H:=h) (glsI (glsI (glsV hl.good gls0))) (by
  unfold f32;simp only[qxh]
  simp(disch:=omega)only[↓qXX]
  refine af (kX (vN hs)) ?_
  simp(disch:=omega)only[↓qXX]
  refine ai (yi hl hn) ?_
  simp(disch:=omega)only[↓qXX]
  cases hb:l.all isK with
  |false=>
   simp(disch:=omega)only[↓qXX,qbz]
   exact⟨by simp[chkC,hb],by trivial⟩
  |true=>
   simp(disch:=omega)only[↓qXX,qaF]
   refine bM hl ?_
   refine fq l.length (λj=>∀i,i<j->∀c,l[i]?=some c->unC w v c=true) rfl (qaW _) (λi hi=>absurd hi (qca _)) ?_
   intro j hj hi self hself
   simp(disch:=omega)only[↓qXX]
   by_cases hlt:j<l.length
   ·rw[aS hlt]
    simp(disch:=omega)only[↓qXX]
    obtain⟨c,hc⟩:=bn hlt
    have hmem:=qag hc
    have hok:=hk c hmem
    unfold okC at hok
    have bad:unC w v c=false->chkC w v l=7:=λhu=>by
     have:l.all (unC w v)=false:=List.all_eq_false.2 ⟨c,hmem,by simp[hu]⟩
     simp[chkC,hb,this]
    refine bi hl rfl hc ?_
    unfold encC
    simp(disch:=omega)only[↓qXX]
    obtain⟨a,b,r,hnm,hiff⟩:=name_c (c:=c.1) (e:=c.2.1) hs (by omega)
    refine af hnm ?_
    simp(disch:=omega)only[↓qXX]
    by_cases hr:r=0
    ·subst hr
     simp(disch:=omega)only[↓qXX]
     refine af (xV c) ?_
     simp(disch:=omega)only[↓qXX]
     by_cases hab:a=c.1/\b=c.2.1
     ·have hu:unC w v c=true:=hiff.2 ⟨rfl,hab.1,hab.2⟩
      simp(disch:=omega)only[↓qXX,qaF]
      rw[ce (by omega)]
      refine hself hlt λi hi' c' hc'=>?_
      rcases qaB i j with h|h
      ·exact hi i h c' hc'
      ·obtain rfl:i=j:=by omega
       rw[hc]at hc';cases hc';exact hu
     ·have hu:unC w v c=false:=by
       rw[←qaU];intro hu
       have:=hiff.1 hu
       exact hab ⟨this.2.1,this.2.2⟩
      rw[p_eqs2_f hab]
      simp(disch:=omega)only[↓qXX,qbz]
      exact⟨by rw[bad hu],by trivial⟩
    ·have hu:unC w v c=false:=by
      rw[←qaU];intro hu
      exact hr (hiff.1 hu).1
     simp(disch:=omega)only[↓qXX]
     exact⟨by rw[bad hu],by trivial⟩
   ·obtain rfl:j=l.length:=by omega
    rw[aY (qan _)]
    simp(disch:=omega)only[↓qXX]
    have hu:l.all (unC w v)=true:=qab.2 λc hc=>by
     obtain⟨i,hi'⟩:=qaY hc
     exact hi i (be hi') c hi'
    refine fq (j0:=1) (max 1 l.length) (λj=>1<=j/\∀(i:Nat) a b,i+1<j->l[i]?=some a->l[i+1]?=some b->ltC a b=true) rfl (qcK _ _) ⟨qan _,λi a b hi=>by omega⟩ ?_
    intro j hj' ⟨h1,hi2⟩ self hself
    simp(disch:=omega)only[↓qXX]
    refine bM hl ?_
    by_cases hlt:j<l.length
    ·rw[aS hlt]
     simp(disch:=omega)only[↓qXX]
     rw[n_sub h1 (by omega)]
     obtain⟨c,hc⟩:=bn (l:=l) (i:=j - 1) (by omega)
     obtain⟨d,hd⟩:=bn hlt
     have hc1:=hk c (qag hc)
     have hd1:=hk d (qag hd)
     have hc2:=wI (qab.1 hu c (qag hc))
     have hd2:=wI (qab.1 hu d (qag hd))
     have h4:=sm4 hs
     unfold okC at hc1 hd1
     refine bi hl rfl hc ?_
     unfold encC
     simp(disch:=omega)only[↓qXX]
     refine af (xV c) ?_
     simp(disch:=omega)only[↓qXX]
     refine bi hl rfl hd ?_
     unfold encC
     simp(disch:=omega)only[↓qXX]
     refine af (xV d) ?_
     simp(disch:=omega)only[↓qXX]
     obtain⟨o,ho,hoi⟩:=order_c (a:=c) (b:=d) (by omega)
     refine af ho ?_
     simp(disch:=omega)only[↓qXX]
     by_cases hlo:o<0
     ·simp(disch:=omega)only[↓qXX]
      rw[ce (by omega)]
      refine hself (by omega) ⟨by omega,λi a b hi' ha hb'=>?_⟩
      rcases qaB (i+1) j with h|h
      ·exact hi2 i a b h ha hb'
      ·have e1:i=j - 1:=by omega
       have e2:i+1=j:=by omega
       rw[e2,hd]at hb'
       rw[e1,hc]at ha
       cases ha;cases hb'
       exact hoi.1 hlo
     ·have hna:ascC l=false:=by
       rw[←qaU,jk]
       intro hall
       have:=hall (j - 1) c d hc (by rw[show j - 1+1=j by omega];exact hd)
       exact hlo (hoi.2 this)
      simp(disch:=omega)only[↓qXX]
      exact⟨by simp[chkC,hb,hu,hna],by trivial⟩
    ·rw[aY (by omega)]
     simp(disch:=omega)only[↓qXX]
     have ha:ascC l=true:=jk.2 λi a b ha hb'=>hi2 i a b (by have:=be hb';omega) ha hb'
     exact⟨by simp[chkC,hb,hu,ha],by trivial⟩)
 exact h3
def ltU(c:Crs)(a b:Int):Bool:=decide (c.1<a)||(decide (c.1=a)&&decide (c.2.1<b))
def kC{c:Crs}{a b:Int}:ltU c a b=true↔c.1<a∨(c.1=a/\c.2.1<b):=by
 simp only[ltU,qaP,qaa,decide_eq_true_eq]
def order_u{c:Crs}{a b:Int}(h:0<=c.1/\c.1<=1000/\0<=a/\a<=1000/\0<=c.2.1/\c.2.1<=255/\0<=b/\b<=255):∃d:Int,Cc 66 [.i c.1,.i c.2.1,.i a,.i b] [.i d]/\(d<0↔ltU c a b=true)/\(d=0↔c.1=a/\c.2.1=b):=by
 by_cases h1:c.1=a
 ·refine⟨c.2.1 - b,?_,by rw[kC];omega,by omega⟩
  refine q66 rfl ?_;unfold f66;simp only[qxh]
  simp(disch:=omega)only[↓qXX]
 ·refine⟨c.1 - a,?_,by rw[kC];omega,by omega⟩
  refine q66 rfl ?_;unfold f66;simp only[qxh]
  simp(disch:=omega)only[↓qXX]
def find1_c{c:Crs}{a b:Int}(h:0<=c.1/\c.1<=1000/\0<=a/\a<=1000/\0<=c.2.1/\c.2.1<=255/\0<=b/\b<=255):∃d:Int,Cc 183 [.i c.1,.i c.2.1,.i c.2.2,.i a,.i b] [.i d]/\(d<0↔ltU c a b=true)/\(d=0↔c.1=a/\c.2.1=b):=by
 obtain⟨d,hd,h1,h2⟩:=order_u h
 refine⟨d,?_,h1,h2⟩
 refine q183 rfl ?_;unfold f183;simp only[qxh]
 simp(disch:=omega)only[↓qXX]
 refine af (xV c) ?_
 simp(disch:=omega)only[↓qXX]
 refine af hd ?_
 simp(disch:=omega)only[↓qXX]
abbrev cloF:Value:=.func (.func 183) ⟨[]⟩ ⟨[]⟩
def goodF1:aP cloF=true:=rfl
def p_half{a:Int}{K:Int->Prop}(h0:0<=a)(hk:K (a / 2)):P1.shf .shr .u64 a .u64 1 (@hid _ ⟨K⟩):=by
 refine s_shf (rS 0) (K:=λn=>if n=a / 2 then yes else none) (λn hn=>?_) ?_
 ·by_cases e:n=a / 2
  ·rw[e];exact hk
  ·simp only[if_neg e]at hn;cases hn
 ·have e0:∀(K:Int->RT),(BA ac aa (runF 0)).shf .shr .u64 a .u64 1 K=shfB .shr .u64 a .u64 1 K:=λ_=>rfl
  rw[e0]
  have e1:leZ 0 1=true:=rfl
  unfold shfB
  rw[e1]
  simp only
  rw[iQ]
  have:a.fdiv (2 ^ min (1:Int).toNat IntKind.u64.bits)=a / 2:=by
   show a.fdiv 2=a / 2
   exact Int.fdiv_eq_ediv_of_nonneg a (by omega)
  rw[this,if_pos rfl]
def vy{a:Int}{K:Int->Prop}(h1:0<=a)(h2:a<=9223372036854775807)(hk:K a):P1.conv .u64 a (@hid _ ⟨K⟩):=by
 show K (IntKind.wrap .u64 a)
 have:IntKind.wrap .u64 a=a:=by
  simp only[IntKind.wrap,IntKind.bits,IntKind.signed,qdI,qal,if_false]
  omega
 rw[this];exact hk
def rngC(c:Crs):Prop:=0<=c.1/\c.1<=1000/\0<=c.2.1/\c.2.1<=255/\0<=c.2.2/\c.2.2<=255
def At(l:List Crs)(a b:Int)(i:Nat):Prop:=i<=l.length/\(∀(k:Nat) c,l[k]?=some c->k<i->ltU c a b=true)/\∀(k:Nat) c,l[k]?=some c->i<=k->ltU c a b=false
def isAt(l:List Crs)(a b:Int)(i:Nat):Bool:=match l[i]? with
 |some c=>decide (c.1=a)&&decide (c.2.1=b)
 |none=>false
def asc_le{l:List Crs}(h:ascC l=true):∀(n i:Nat) a b,l[i]?=some a->l[i+n+1]?=some b->ltC a b=true
 |0,i,a,b,ha,hb=>jk.1 h i a b ha hb
 |n+1,i,a,b,ha,hb=>by
  obtain⟨c,hc⟩:=bn (l:=l) (i:=i+n+1) (by have:=be hb;omega)
  have h1:=asc_le h n i a c ha hc
  have h2:=jk.1 h (i+n+1) c b hc (by rw[show i+n+1+1=i+(n+1)+1 by omega];exact hb)
  simp only[ltC,qaP,qaa,decide_eq_true_eq]at h1 h2 ⊢
  omega
def asc_lt{l:List Crs}(h:ascC l=true){i j:Nat}{a b:Crs}(hij:i<j)(ha:l[i]?=some a)(hb:l[j]?=some b):ltC a b=true:=
 asc_le h (j - i - 1) i a b ha (by rw[show i+(j - i - 1)+1=j by omega];exact hb)
def bin_c{h:HL}{x:Value}{l:List Crs}(hl:LsH h x 3 encC l)(hk:∀c∈l,rngC c)(hn:l.length<=1000)(hasc:ascC l=true){a b:Int}(hu:0<=a/\a<=1000/\0<=b/\b<=255) :
  ∃i:Nat,At l a b i/\aw cc ac 182 [.v x,.i a,.i b,.v cloF] (absH aa h) [.i (Int.ofNat i),.b (isAt l a b i)] (absH aa h):=by
 obtain⟨rs,h',h1,i,rfl,rfl,h2⟩:=x182 (K:=λrs h'=>∃i:Nat,rs=[.i (Int.ofNat i),.b (isAt l a b i)]/\h'=h/\At l a b i) (H:=h) (glsV hl.good (glsI (glsI (glsV goodF1 gls0)))) (by
  unfold f182;simp only[qxh]
  simp(disch:=omega)only[↓qXX]
  refine bM hl ?_
  refine cN (m:=l.length) (λm ls h'=>∃i j:Nat,ls=[.i (Int.ofNat i),.i (Int.ofNat j)]/\h'=h/\i<=j/\j<=l.length/\m=j - i/\(∀(k:Nat) c,l[k]?=some c->k<i->ltU c a b=true)/\∀(k:Nat) c,l[k]?=some c->j<=k->ltU c a b=false) ⟨0,l.length,rfl,rfl,by omega,by omega,by omega,λk c _ hk=>by omega,λk c hc hk=>by have:=be hc;omega⟩ ?_
  rintro m ls h' ⟨i,j,rfl,rfl,hij,hj,rfl,hlo,hhi⟩ self hself
  refine hidL ?_
  simp(disch:=omega)only[↓qXX]
  by_cases hlt:i<j
  ·rw[aS hlt]
   simp(disch:=omega)only[↓qXX]
   rw[p_add (by show -9223372036854775808<=(i:Int)+j;omega) (by show(i:Int)+j<=9223372036854775807;omega)]
   refine vy (by show 0<=(i:Int)+j;omega) (by show(i:Int)+j<=9223372036854775807;omega) ?_
   refine p_half (by show 0<=(i:Int)+j;omega) ?_
   have hmid:(Int.ofNat i+Int.ofNat j) / 2=Int.ofNat ((i+j) / 2):=by simp
   rw[hmid]
   rw[p_conv (by show -9223372036854775808<=(((i+j) / 2:Nat):Int);omega) (by show(((i+j) / 2:Nat):Int)<=9223372036854775807;omega)]
   obtain⟨c,hc⟩:=bn (l:=l) (i:=(i+j) / 2) (by omega)
   have hr:=hk c (qag hc)
   unfold rngC at hr
   refine bi hl rfl hc ?_
   unfold encC
   simp(disch:=omega)only[↓qXX]
   obtain⟨d,hd,d1,d2⟩:=find1_c (c:=c) (a:=a) (b:=b) (by omega)
   refine gQ (jl (hd _) rfl [.agg [.i .i64 c.1,.i .u8 c.2.1,.i .u8 c.2.2],.agg [.i .i64 a,.i .u8 b]] rfl rfl) ?_
   simp(disch:=omega)only[↓qXX]
   by_cases hd0:d<0
   ·have ht:=d1.1 hd0
    simp(disch:=omega)only[↓qXX]
    rw[ce (by omega)]
    simp(disch:=omega)only[↓qXX]
    refine hself (j - ((i+j) / 2+1)) _ _ (by omega) ⟨(i+j) / 2+1,j,rfl,rfl,by omega,hj,rfl,λk e he hk'=>?_,hhi⟩
    rcases qaB k ((i+j) / 2)with q|q
    ·have:=asc_lt hasc q he hc
     rw[kC]at ht ⊢
     simp only[ltC,qaP,qaa,decide_eq_true_eq]at this
     omega
    ·obtain rfl:k=(i+j) / 2:=by omega
     rw[hc]at he;cases he;exact ht
   ·have hf:ltU c a b=false:=by
     rw[←qaU];intro hh;exact hd0 (d1.2 hh)
    simp(disch:=omega)only[↓qXX]
    refine hself ((i+j) / 2 - i) _ _ (by omega) ⟨i,(i+j) / 2,rfl,rfl,by omega,by omega,rfl,hlo,λk e he hk'=>?_⟩
    rcases qaB ((i+j) / 2) k with q|q
    ·have:=asc_lt hasc q hc he
     rw[←qaU,kC]at hf ⊢
     simp only[ltC,qaP,qaa,decide_eq_true_eq]at this
     omega
    ·obtain rfl:k=(i+j) / 2:=by omega
     rw[hc]at he;cases he;exact hf
  ·obtain rfl:i=j:=by omega
   rw[aY (qan _)]
   simp(disch:=omega)only[↓qXX]
   by_cases hi:i<l.length
   ·rw[aS hi]
    simp(disch:=omega)only[↓qXX]
    obtain⟨c,hc⟩:=bn hi
    have hr:=hk c (qag hc)
    unfold rngC at hr
    refine bi hl rfl hc ?_
    unfold encC
    simp(disch:=omega)only[↓qXX]
    obtain⟨d,hd,d1,d2⟩:=find1_c (c:=c) (a:=a) (b:=b) (by omega)
    refine gQ (jl (hd _) rfl [.agg [.i .i64 c.1,.i .u8 c.2.1,.i .u8 c.2.2],.agg [.i .i64 a,.i .u8 b]] rfl rfl) ?_
    simp(disch:=omega)only[↓qXX]
    by_cases hz:d=0
    ·have:=d2.1 hz
     rw[p_eql_t hz]
     simp(disch:=omega)only[↓qXX]
     exact⟨i,by simp[isAt,hc,this.1,this.2],by trivial,hj,hlo,hhi⟩
    ·have h3:¬(c.1=a/\c.2.1=b):=λq=>hz (d2.2 q)
     rw[p_eql_f hz]
     simp(disch:=omega)only[↓qXX]
     refine⟨i,?_,by trivial,hj,hlo,hhi⟩
     have:isAt l a b i=false:=by
      simp only[isAt,hc]
      rw[←qaU]
      simpa using h3
     rw[this]
   ·rw[aY (by omega)]
    simp(disch:=omega)only[↓qXX]
    refine⟨i,?_,by trivial,hj,hlo,hhi⟩
    have:isAt l a b i=false:=by
     simp only[isAt,qah (qdH.1 hi)]
    rw[this])
 exact⟨i,h2,h1⟩
def find_c{h:HL}{x:Value}{l:List Crs}(hl:LsH h x 3 encC l)(hk:∀c∈l,rngC c)(hn:l.length<=1000)(hasc:ascC l=true){a b:Int}(hu:0<=a/\a<=1000/\0<=b/\b<=255) :
  ∃i:Nat,At l a b i/\aw cc ac 157 [.v x,.i a,.i b] (absH aa h) [.i (Int.ofNat i),.b (isAt l a b i)] (absH aa h):=by
 obtain⟨i,hi,hc⟩:=bin_c hl hk hn hasc hu
 obtain⟨rs,h',h1,rfl,rfl⟩:=x157 (K:=λrs h'=>rs=[.i (Int.ofNat i),.b (isAt l a b i)]/\h'=h) (H:=h) (glsV hl.good (glsI (glsI gls0))) (by
  unfold f157;simp only[qxh]
  simp(disch:=omega)only[↓qXX]
  refine ai hc ?_
  simp(disch:=omega)only[↓qXX]
  exact⟨by trivial,by trivial⟩)
 exact⟨i,hi,h1⟩
def eqU(a b:Int)(c:Crs):Bool:=decide (c.1=a)&&decide (c.2.1=b)
def iB(l:List Crs)(a b:Int):Int:=match l.find? (eqU a b)with
 |some c=>c.2.2
 |none=>0
def kind_at{l:List Crs}{a b:Int}{i:Nat}(h:At l a b i)(hasc:ascC l=true):(isAt l a b i=true->∃c,l[i]?=some c/\iB l a b=c.2.2)/\(isAt l a b i=false->iB l a b=0):=by
 obtain⟨h1,h2,h3⟩:=h
 have uniq:∀(k:Nat) c,l[k]?=some c->eqU a b c=true->k=i:=by
  intro k c hc he
  simp only[eqU,qaa,decide_eq_true_eq]at he
  rcases Nat.lt_trichotomy k i with q|q|q
  ·have:=h2 k c hc q
   rw[kC]at this
   omega
  ·exact q
  ·obtain⟨d,hd⟩:=bn (l:=l) (i:=i) (by have:=be hc;omega)
   have e1:=asc_lt hasc q hd hc
   have e2:=h3 i d hd (qan _)
   rw[←qaU,kC]at e2
   simp only[ltC,qaP,qaa,decide_eq_true_eq]at e1
   omega
 have isA:isAt l a b i=true↔∃c,l[i]?=some c/\eqU a b c=true:=by
  unfold isAt eqU
  cases e:l[i]? with
  |none=>simp
  |some c=>simp
 unfold iB
 cases hf:l.find? (eqU a b)with
 |none=>
  have hno:=qcG.1 hf
  constructor
  ·intro ha
   obtain⟨c,hc,he⟩:=isA.1 ha
   exact absurd he (hno c (qag hc))
  ·intro _;rfl
 |some c=>
  have hp:=List.find?_some hf
  obtain⟨k,hk⟩:=qaY (qce hf)
  have hki:=uniq k c hk hp
  subst hki
  constructor
  ·intro _;exact⟨c,hk,rfl⟩
  ·intro hn
   have:=isA.2 ⟨c,hk,hp⟩
   rw[hn]at this;cases this
structure Pat(w v:Nat)(l:List Crs):Prop where
 sheet:1<=w/\w<=5/\1<=v/\v<=5
 rng:∀c∈l,rngC c
 len:l.length<=1000
 ok:chkC (.ofNat w) (.ofNat v) l=0
def Pat.sm{w v:Nat}{l:List Crs}(h:Pat w v l):smS (.ofNat w) (.ofNat v):=by
 have:=h.sheet
 unfold smS
 simp only[qaq]
 omega
def Pat.asc{w v:Nat}{l:List Crs}(h:Pat w v l):ascC l=true:=by
 have:=h.ok
 unfold chkC at this
 split at this
 ·cases this
 ·split at this
  ·cases this
  ·split at this
   ·assumption
   ·cases this
def Pat.check{w v:Nat}{l:List Crs}(h:Pat w v l){H:HL}{x:Value}(hl:LsH H x 3 encC l):aw cc ac 32 [.i (.ofNat w),.i (.ofNat v),.v x] (absH aa H) [.i 0] (absH aa H):=by
 have:=check_c h.sm hl (λc hc=>by
  have:=h.rng c hc
  unfold rngC at this
  unfold okC
  omega) (by have:=h.len;omega)
 rw[h.ok]at this
 exact this
def kind_c{w v:Nat}{l:List Crs}(hp:Pat w v l){H:HL}{x:Value}(hl:LsH H x 3 encC l){c e n:Nat}(hc:c<4*w*v)(he:e<3)(hn:nbr w v c e=some n)(hn2:n<=1000) :
  aw cc ac 85 [.i (.ofNat w),.i (.ofNat v),.v x,.i (.ofNat c),.i (.ofNat e)] (absH aa H) [.i (iB l (.ofNat (min c n)) (.ofNat e)),.i 0] (absH aa H):=by
 have hsh:=hp.sheet
 have hnm:=nameIn (gY w v hsh.1 hsh.2.1 hsh.2.2.1 hsh.2.2.2) hc he
 unfold nameN at hnm
 rw[hn]at hnm
 simp only at hnm
 obtain⟨i,hi,hfi⟩:=find_c hl hp.rng hp.len hp.asc (a:=.ofNat (min c n)) (b:=.ofNat e) (by simp only[qaq];omega)
 obtain⟨k1,k2⟩:=kind_at hi hp.asc
 obtain⟨rs,h',h1,e1,e2⟩:=x130 (K:=λrs h'=>rs=[.i (.ofNat (min c n)),.i (.ofNat e),.i (.ofNat i),.b (isAt l (.ofNat (min c n)) (.ofNat e) i),.i 0]/\h'=H) (H:=H) (glsI (glsI (glsV hl.good (glsI (glsI gls0))))) (by
  unfold f130;simp only[qxh]
  simp(disch:=omega)only[↓qXX]
  refine ai (hp.check hl) ?_
  simp(disch:=omega)only[↓qXX]
  refine af hnm ?_
  simp(disch:=omega)only[↓qXX]
  refine ai hfi ?_
  simp(disch:=omega)only[↓qXX]
  exact⟨by trivial,by trivial⟩)
 rw[e1,e2]at h1
 obtain⟨rs2,h2,h3,e3,e4⟩:=x85 (K:=λrs h'=>rs=[.i (iB l (.ofNat (min c n)) (.ofNat e)),.i 0]/\h'=H) (H:=H) (glsI (glsI (glsV hl.good (glsI (glsI gls0))))) (by
  unfold f85;simp only[qxh]
  simp(disch:=omega)only[↓qXX]
  refine ai h1 ?_
  simp(disch:=omega)only[↓qXX]
  cases hb:isAt l (.ofNat (min c n)) (.ofNat e) i with
  |false=>
   simp(disch:=omega)only[↓qXX,qbz]
   rw[k2 hb]
   exact⟨by trivial,by trivial⟩
  |true=>
   obtain⟨c',hc',hkk⟩:=k1 hb
   simp(disch:=omega)only[↓qXX,qaF]
   refine iC (o:=2) (k:=1) (cs:=[.int .u8 c'.2.2]) hl rfl hc' rfl (by omega) ?_
   simp(disch:=omega)only[↓qXX]
   rw[hkk]
   exact⟨by trivial,by trivial⟩)
 rw[e3,e4]at h3
 exact h3
end Go.Am
namespace Go.Am
namespace Sx
section
variable [Val] [Kno]
variable {C:Cfg} {Sg:FuncId->Option Sig} {T:Nat->Site} {α:Type}
def putE(h:HL)(id e:Nat)(enc:α->List Value)(l:List α):HL:=h.set id (.o (.cells (l.flatMap enc) e true))
def dc{h:HL}{id e:Nat}{enc:α->List Value}{l:List α}(hlt:id<h.length):(putE h id e enc l)[id]?=some (.o (.cells (l.flatMap enc) e true)):=by
 unfold putE
 rw[qaD hlt]
def xt{h:HL}{id e:Nat}{enc:α->List Value}{l l':List α}:(putE h id e enc l).set id (.o (.cells (l'.flatMap enc) e true))=putE h id e enc l':=by
 unfold putE
 rw[List.set_set]
def kN{h:HL}{id e cx:Nat}{enc:α->List Value}(henc:∀a,(enc a).length=e){l:List α}(hlt:id<h.length):LsH (putE h id e enc l) (.slice (some ⟨id,0,tag e⟩) l.length cx) e enc l:=by
 have hl:=aR (e:=e) (enc:=enc) (l:=l) λa _=>henc a
 exact⟨λa _=>henc a,hl,.inr ⟨id,0,cx,_,true,rfl,dc hlt,cut_all hl⟩⟩
def nA{e:Nat}{enc:α->List Value}(henc:∀a,(enc a).length=e):∀ {l:List α} {i:Nat} (a:α),i<l.length->(l.flatMap enc).take (i*e)++enc a++(l.flatMap enc).drop (i*e+e)=(l.set i a).flatMap enc
 | [],_,_,h=>by simp at h
 |b :: l,0,a,_=>by
  have hb:=henc b
  simp only[qbG,qcf,qaG,qaL,qcI,qbC]
  rw[qc0,qbH (by omega),qaG,show e - (enc b).length=0 by omega,qbg]
 |b :: l,i+1,a,h=>by
  have hb:=henc b
  have ih:=nA henc (l:=l) (i:=i) a (by simpa using h)
  simp only[List.set_cons_succ,qbC]
  rw[←ih,qbx,qcs,List.take_append,qc0]
  rw[qaO (by omega),qbH (by omega),qaG]
  rw[show i*e+e - (enc b).length=i*e by omega,show i*e+e+e - (enc b).length=i*e+e by omega]
  simp[qaN]
def r_set{h:HL}{id e cx len:Nat}{enc:α->List Value}(henc:∀a,(enc a).length=e){l:List α}{i:Nat}{a:α}{n:Int}{new:List Value}{K:List Value->HL->Prop}(hlt:id<h.length)(hn:n=Int.ofNat i)(hi:i<l.length)(hlen:l.length=len)(hnew:new=enc a)
  (hk:K [] (putE h id e enc (l.set i a))):(PH C Sg T).opt (idS e (.slice (some ⟨id,0,tag e⟩) len cx) n) (@hid _ ⟨λx=>(PH C Sg T).heap (.st x new) (putE h id e enc l) (@hid _ ⟨K⟩)⟩):=by
 subst hn hlen hnew
 have hx:idS e (.slice (some ⟨id,0,tag e⟩) l.length cx) (Int.ofNat i)=some (.pointer (some ⟨id,i*e,none⟩)):=by
  rw[idS_eq]
  have hh:0<=Int.ofNat i/\Int.ofNat i<(l.length:Int):=⟨qaZ i,by show(i:Int)<l.length;omega⟩
  simp only[if_pos hh]
  have:¬(tag e=some 1):=by simp[tag]
  simp only[if_neg this,qaL]
  rfl
 refine am hx ?_
 have hl:=aR (e:=e) (enc:=enc) (l:=l) λa _=>henc a
 have hle:i*e+e<=l.length*e:=by
  have:=qbq e (show i+1<=l.length by omega)
  rw[qbx,qcs]at this;exact this
 have hrun:(Hp.st (.pointer (some ⟨id,i*e,none⟩)) (enc a)).run (getH T (putE h id e enc l)) (putE h id e enc l).length=some ([.set id (.cells ((l.set i a).flatMap enc) e true)],[]):=by
  show stP (.pointer (some ⟨id,i*e,none⟩)) (enc a) (getH T (putE h id e enc l)) (putE h id e enc l).length=_
  unfold stP
  simp only
  rw[cC (dc hlt)]
  simp only
  unfold splice
  rw[henc a,hl,if_pos hle,nA henc a hi]
  rfl
 refine cO hrun ?_
 show K [] (bI _ _)
 have:bI (putE h id e enc l) [.set id (.cells ((l.set i a).flatMap enc) e true)]=putE h id e enc (l.set i a):=xt
 rw[this]
 exact hk
end
end Sx
namespace Sx
section
variable [Val] [Kno]
variable {C:Cfg} {Sg:FuncId->Option Sig} {T:Nat->Site} {α:Type}
def dt{enc:α->List Value}{z:α}{n:Nat}:aM (enc z) n=(List.replicate n z).flatMap enc:=by
 unfold aM
 rw[List.flatMap_def,List.map_replicate]
def iy(z:α)(A:List α)(k:Nat):List α:=A.take k++List.replicate (A.length - k) z
def ns{z:α}{A:List α}{k:Nat}(h:k<=A.length):(iy z A k).length=A.length:=by
 unfold iy
 rw[qay,qaJ,qcr];omega
def fillZ_0{z:α}{A:List α}:iy z A 0=List.replicate A.length z:=by simp[iy]
def ta{z:α}{A:List α}:iy z A A.length=A:=by simp[iy]
def tb{z a:α}{A:List α}{k:Nat}(ha:A[k]?=some a):(iy z A k).set k a=iy z A (k+1):=by
 have hk:=be ha
 unfold iy
 obtain⟨m,hm⟩ : ∃m,A.length - k=m+1:=⟨A.length - k - 1,by omega⟩
 have hl:(A.take k).length=k:=by rw[qaJ];omega
 rw[hm,qb9,qbR _ _ (by omega),hl,qbF,qcI,show A.length - (k+1)=m by omega]
 rw[show A.take (k+1)=A.take k++[a]by
  rw[qa6,ha];rfl]
 simp
def newE(h:HL)(e:Nat)(enc:α->List Value)(l:List α):HL:=h++[.o (.cells (l.flatMap enc) e true)]
def rC{h:HL}{e:Nat}{enc:α->List Value}{l:List α}:putE (h++[.o .dead]) h.length e enc l=newE h e enc l:=by
 unfold putE newE
 rw[qbR _ _ (qan _),qbF];rfl
def mt(h:HL)(e:Nat)(enc:α->List Value)(l:List α):Pre h (newE h e enc l):=⟨_,rfl⟩
def newE_ls{h:HL}{e cx:Nat}{enc:α->List Value}(henc:∀a,(enc a).length=e){l:List α}{n:Nat}(hn:n=l.length):LsH (newE h e enc l) (.slice (some ⟨h.length,0,tag e⟩) n cx) e enc l:=by
 subst hn
 rw[←rC]
 exact kN henc (by simp)
def r_setN{h:HL}{e cx len:Nat}{enc:α->List Value}(henc:∀a,(enc a).length=e){l:List α}{i:Nat}{a:α}{n:Int}{new:List Value}{K:List Value->HL->Prop}(hn:n=Int.ofNat i)(hi:i<l.length)(hlen:l.length=len)(hnew:new=enc a)
  (hk:K [] (newE h e enc (l.set i a))):(PH C Sg T).opt (idS e (.slice (some ⟨h.length,0,tag e⟩) len cx) n) (@hid _ ⟨λx=>(PH C Sg T).heap (.st x new) (newE h e enc l) (@hid _ ⟨K⟩)⟩):=by
 rw[←rC]at hk
 rw[←rC]
 exact r_set henc (by simp) hn hi hlen hnew hk
def fj{n:Nat}(h:n<=1048576):mkOk (Int.ofNat n) (Int.ofNat n)=some ():=by
 unfold mkOk
 rw[if_pos]
 exact⟨qaZ n,Int.le_refl _,by show(n:Int)<=1048576;omega⟩
def tS{h:HL}{e:Nat}{enc:α->List Value}{z:α}{n:Nat}{v:List Value}(hv:v=enc z):h++[HO.o (.cells (aM v n) e true)]=newE h e enc (List.replicate n z):=by
 subst hv
 unfold newE
 rw[dt]
def cap_full{id n:Nat}{o:Nat}{sp:Option Nat}:capS (.slice (some ⟨id,o,sp⟩) n (n+1))=some (Int.ofNat n):=rfl
end
end Sx
end Go.Am
set_option maxRecDepth 100000
set_option maxHeartbeats 4000000
namespace Go.Am
open Sx Go.Proofs
def encU_len(u:Nat×Nat):(encU u).length=2:=rfl
def enc8(n:Int):List Value:=[.int .u8 n]
def mg(n:Int):(enc8 n).length=1:=rfl
def vV{a b:Nat}(h1:1<=a)(h2:a<=5)(h3:1<=b)(h4:b<=5)(h:HL):∃s G,aw cc ac 15 [.i (.ofNat a),.i (.ofNat b)] (absH aa h) [.v s] (absH aa (h++G))/\LsH (h++G) s 2 encU (aF a b):=by
 have ht:=(gX (gY a b h1 h2 h3 h4)).2.2.1
 unfold sd at ht
 split at ht
 next e=>
  obtain⟨s,G,c1,c2⟩:=made (g:=15) (rest:=[]) rfl (by kernel_rfl) rfl rfl e h
  exact⟨s,G,c1,λu _=>encU_len u,c2⟩
 ·cases ht
def nh(z:(Nat×Nat)×Int):Option Crs:=if z.2=0 then none else some (.ofNat z.1.1,.ofNat z.1.2,z.2)
def patL(us:List (Nat×Nat))(ks:List Int):List Crs:=(us.zip ks).filterMap nh
def with_c{w v:Nat}(h1:1<=w)(h2:w<=5)(h3:1<=v)(h4:v<=5){H:HL}{kx:Value}{ks:List Int}(hk:LsH H kx 1 enc8 ks)(hn:ks.length<=100000) :
  ∃G rx,aw cc ac 25 [.i (.ofNat w),.i (.ofNat v),.v kx] (absH aa H) [.i (.ofNat w),.i (.ofNat v),.v rx] (absH aa (H++G))/\MkL H.length (H++G) rx 3 encC (patL (aF w v) ks):=by
 obtain⟨sx,G1,hu,hux⟩:=vV h1 h2 h3 h4 H
 have hul:=(gX (gY w v h1 h2 h3 h4)).2.2.2.2
 obtain⟨rs,h',hc,rx,e1,⟨G,rfl⟩,hrx⟩:=x25 (ls:=[.i (.ofNat w),.i (.ofNat v),.v kx]) (K:=λrs h'=>∃rx,rs=[.i (.ofNat w),.i (.ofNat v),.v rx]/\Pre H h'/\MkL H.length h' rx 3 encC (patL (aF w v) ks)) (H:=H) (glsI (glsI (glsV hk.good gls0))) (by
  unfold f25;simp only[qxh]
  simp(disch:=omega)only[↓qXX]
  refine ai hu ?_
  simp(disch:=omega)only[↓qXX]
  generalize hzz:(aF w v).zip ks=zz
  have hzl:zz.length=min (aF w v).length ks.length:=by rw[←hzz,qdC]
  refine bW zz.length (λj (s:Value×HL)=>[.i (Int.ofNat j),.i (.ofNat w),.i (.ofNat v),.v s.1]) (λ_ s=>s.2) (λj s=>Pre (H++G1) s.2/\MkL (H++G1).length s.2 s.1 3 encC ((zz.take j).filterMap nh)/\aP s.1=true) (j0:=0) (s0:=(.slice none 0 0,H++G1)) rfl rfl (qaW _) ⟨Pre.refl _,MkL.nil _ _ _ _,rfl⟩ ?_
  rintro j ⟨sv,sh⟩ hj ⟨hpre,hmk,hgv⟩ self hself
  simp only at hpre hmk hgv ⊢
  have hU:=hux.pre hpre
  have hK:=(hk.pre ⟨G1,rfl⟩).pre hpre
  simp(disch:=omega)only[↓qXX]
  have fin:∀K0:List Lf->HL->Prop,K0=(λrs h'=>∃rx,rs=[.i (.ofNat w),.i (.ofNat v),.v rx]/\Pre H h'/\MkL H.length h' rx 3 encC (patL (aF w v) ks))->j=zz.length->K0 [.i (.ofNat w),.i (.ofNat v),.v sv] sh:=by
   rintro K0 rfl rfl
   refine⟨_,rfl,Pre.trans ⟨G1,rfl⟩ hpre,?_⟩
   have:MkL H.length sh sv 3 encC ((zz.take zz.length).filterMap nh):=⟨hmk.1,hmk.2.1,hmk.2.2.imp id λ⟨id,h1,h2⟩=>⟨id,qbw (by rw[qay];omega) h1,h2⟩⟩
   rw[qbh,←hzz]at this
   exact this
  refine bM hU ?_
  by_cases hlt:j<zz.length
  ·rw[aS (by omega)]
   simp(disch:=omega)only[↓qXX]
   refine bM hK ?_
   rw[aS (by omega)]
   simp(disch:=omega)only[↓qXX]
   obtain⟨u,hu⟩:=bn (l:=aF w v) (i:=j) (by omega)
   obtain⟨k,hkk⟩:=bn (l:=ks) (i:=j) (by omega)
   have hz:zz[j]?=some (u,k):=by rw[←hzz,qcy];exact⟨hu,hkk⟩
   have htk:(zz.take (j+1)).filterMap nh=(zz.take j).filterMap nh++(nh (u,k)).toList:=by
    rw[qa6,hz,List.filterMap_append]
    congr 1
   refine bi hK rfl hkk ?_
   unfold enc8
   simp(disch:=omega)only[↓qXX]
   by_cases hk0:k=0
   ·rw[p_neq_f hk0]
    simp(disch:=omega)only[↓qXX]
    rw[ce (by omega)]
    refine hself (sv,sh) hlt ⟨hpre,?_,hgv⟩
    rw[htk,show nh (u,k)=none from if_pos hk0]
    simpa using hmk
   ·rw[p_neq_t hk0]
    simp(disch:=omega)only[↓qXX]
    refine iC (o:=0) (k:=1) (cs:=[.int .i64 (.ofNat u.1)]) hU rfl hu rfl (by omega) ?_
    simp(disch:=omega)only[↓qXX]
    refine iC (o:=1) (k:=1) (cs:=[.int .u8 (.ofNat u.2)]) hU rfl hu rfl (by omega) ?_
    simp(disch:=omega)only[↓qXX]
    refine bi hK rfl hkk ?_
    unfold enc8
    simp(disch:=omega)only[↓qXX]
    have hfl:((zz.take j).filterMap nh).length<=j:=qbw (qcD _ _) (by rw[qaJ];omega)
    refine jD (h0:=H++G1) (a:=(.ofNat u.1,.ofNat u.2,k)) hpre hmk rfl rfl rfl rfl (by
     unfold bU
     rw[qaa,qbb,qbb]
     omega) λv' h' hp' hm' hg' _ _=>?_
    simp(disch:=omega)only[↓qXX]
    refine aH hg' ?_
    simp(disch:=omega)only[↓qXX]
    rw[ce (by omega)]
    refine hself (v',h') hlt ⟨hp',?_,hg'⟩
    rw[htk,show nh (u,k)=some (.ofNat u.1,.ofNat u.2,k)from if_neg hk0]
    exact hm'
  ·have hje:j=zz.length:=by omega
   by_cases hju:j<(aF w v).length
   ·rw[aS hju]
    simp(disch:=omega)only[↓qXX]
    refine bM hK ?_
    rw[aY (by omega)]
    simp(disch:=omega)only[↓qXX]
    exact fin _ rfl hje
   ·rw[aY (by omega)]
    simp(disch:=omega)only[↓qXX]
    exact fin _ rfl hje)
 rw[e1]at hc
 exact⟨G,rx,hc,hrx⟩
def kinL(N:Nat)(ks:List Int):List Int:=(List.range N).map λi=>ks.getD i 0%4
def fS(N:Nat)(ks:List Int):(kinL N ks).length=N:=by simp[kinL]
def wL{N:Nat}{ks:List Int}{i:Nat}(h:i<N):(kinL N ks)[i]?=some (ks.getD i 0%4):=by
 unfold kinL
 rw[qat,qbX h];rfl
def kinL_rng{N:Nat}{ks:List Int}{k:Int}(h:k∈kinL N ks):0<=k/\k<4:=by
 unfold kinL at h
 obtain⟨i,_,rfl⟩:=qaM.1 h
 omega
def yn{α:Type}{z:α}{A:List α}{i:Nat}(h:∀j a,i<=j->A[j]?=some a->a=z):iy z A i=A:=by
 unfold iy
 conv=>rhs;rw[←qbt i A]
 congr 1
 symm
 rw[List.eq_replicate_iff]
 refine⟨by rw[qbv],λb hb=>?_⟩
 obtain⟨j,hj⟩:=qaY hb
 rw[qa0]at hj
 exact h (i+j) b (by omega) hj
def ltN_iff{a b:Nat×Nat}:ltN a b=true↔a.1<b.1∨(a.1=b.1/\a.2<b.2):=by
 unfold ltN
 rw[qaP,qaa,qaK,qaK,qbV]
def tP{a b c e:Nat}:(c,e)∈aF a b↔c<4*a*b/\e<3/\∃n,nbr a b c e=some n/\c<n:=by
 unfold aF
 simp only[qbd,qad,qa4]
 constructor
 ·rintro⟨c',h1,e',h2,h3⟩
  split at h3
  next n hn=>
   split at h3
   next hlt=>
    cases h3
    exact⟨h1,h2,n,hn,hlt⟩
   ·cases h3
  ·cases h3
 ·rintro⟨h1,h2,n,h3,h4⟩
  refine⟨c,h1,e,h2,?_⟩
  rw[h3]
  simp only[if_pos h4]
def unC_of{a b x y:Nat}{k:Int}(hk:(x,y)∈aF a b):unC (.ofNat a) (.ofNat b) (.ofNat x,.ofNat y,k)=true:=by
 obtain⟨q1,q2,n,q3,q4⟩:=tP.1 hk
 unfold unC isUn
 have q3':nbr (Int.ofNat a).toNat (Int.ofNat b).toNat (Int.ofNat x).toNat (Int.ofNat y).toNat=some n:=q3
 simp only[qaa,decide_eq_true_eq]
 refine⟨⟨⟨qaZ x,?_⟩,by show(y:Int)<=2;omega⟩,?_⟩
 ·show(x:Int)<4*(a:Int)*(b:Int)
  have:(4*(a:Int)*(b:Int))=((4*a*b:Nat):Int):=by simp
  rw[this];omega
 ·rw[q3']
  simpa[qaK]using q4
def mF{us:List (Nat×Nat)}{ks:List Int}{c:Crs}(h:c∈patL us ks):∃u k,u∈us/\k∈ks/\k≠0/\c=(.ofNat u.1,.ofNat u.2,k):=by
 unfold patL at h
 obtain⟨⟨u,k⟩,h1,h2⟩:=qa4.1 h
 unfold nh at h2
 split at h2
 ·cases h2
 next hk=>
  cases h2
  have:=List.of_mem_zip h1
  exact⟨u,k,this.1,this.2,hk,rfl⟩
def mN:∀ {l:List (Nat×Nat)},ascN l=true->l.Pairwise λa b=>ltN a b=true
 | [],_=>.nil
 | [x],_=>qcn _ _
 |x :: y :: l,h=>by
  simp only[ascN,qaa]at h
  have ih:=mN h.2
  refine qba.2 ⟨λz hz=>?_,ih⟩
  rcases qak.1 hz with rfl|hz
  ·exact h.1
  ·have h2:=(qba.1 ih).1 z hz
   have h1:=h.1
   rw[ltN_iff]at h1 h2 ⊢
   omega
def mO:∀ {l:List Crs},(l.Pairwise λa b=>ltC a b=true)->ascC l=true
 | [],_=>rfl
 | [x],_=>rfl
 |x :: y :: l,h=>by
  obtain⟨h1,h2⟩:=qba.1 h
  simp only[ascC,qaa]
  exact⟨h1 y qax,mO h2⟩
def oc:∀ {us:List (Nat×Nat)} {ks:List Int},(us.Pairwise λa b=>ltN a b=true)->(patL us ks).Pairwise λa b=>ltC a b=true
 | [],ks,_=>by simp[patL]
 |u :: us,[],_=>by simp[patL]
 |u :: us,k :: ks,h=>by
  obtain⟨h1,h2⟩:=qba.1 h
  have ih:=oc (ks:=ks) h2
  unfold patL at ih ⊢
  rw[qcp,List.filterMap_cons]
  split
  ·exact ih
  next c hc=>
   refine qba.2 ⟨λb hb=>?_,ih⟩
   obtain⟨u',k',m1,_,_,rfl⟩:=mF (us:=us) (ks:=ks) hb
   unfold nh at hc
   split at hc
   ·cases hc
   ·cases hc
    have:=ltN_iff.1 (h1 u' m1)
    simp only[ltC,qaP,qaa,decide_eq_true_eq,qaq]
    omega
def pat_of{w v:Nat}(h1:1<=w)(h2:w<=5)(h3:1<=v)(h4:v<=5){ks:List Int}(hk:∀k∈ks,0<=k/\k<4):Pat w v (patL (aF w v) ks):=by
 have ht:=gX (gY w v h1 h2 h3 h4)
 have hwv:4*w*v<=100:=by
  have:=qdJ (show 4*w<=20 by omega) h4
  omega
 have key:∀c∈patL (aF w v) ks,rngC c/\isK c=true/\unC (.ofNat w) (.ofNat v) c=true:=λc hc=>by
  obtain⟨⟨x,y⟩,k,m1,m2,m3,rfl⟩:=mF hc
  have hm:=tP.1 m1
  have:=hk k m2
  refine⟨?_,?_,unC_of m1⟩
  ·unfold rngC
   simp only[qaq]
   omega
  ·unfold isK
   simp only[qaa,decide_eq_true_eq]
   omega
 refine⟨⟨h1,h2,h3,h4⟩,λc hc=>(key c hc).1,?_,?_⟩
 ·refine qbw (qcD _ _) ?_
  rw[qdC]
  have:=ht.2.2.2.2
  omega
 ·unfold chkC
  have a1:(patL (aF w v) ks).all isK=true:=qab.2 λc hc=>(key c hc).2.1
  have a2:(patL (aF w v) ks).all (unC (.ofNat w) (.ofNat v))=true:=qab.2 λc hc=>(key c hc).2.2
  rw[a1,a2,mO (oc (mN ht.2.2.2.1))]
  rfl
end Go.Am
set_option maxRecDepth 100000
set_option maxHeartbeats 4000000
namespace Go.Am
open Sx
def mA(t:Nat):Int:=match t with
 |0=>1|1=>0|2=>-1|3=>0|4=>-1|5=>0|6=>1|_=>0
def mB(t:Nat):Int:=match t with
 |0=>0|1=>-1|2=>0|3=>1|4=>0|5=>-1|6=>0|_=>1
def mC(t:Nat):Int:=match t with
 |0=>0|1=>1|2=>0|3=>-1|4=>0|5=>-1|6=>0|_=>1
def mD(t:Nat):Int:=match t with
 |0=>1|1=>0|2=>-1|3=>0|4=>1|5=>0|6=>-1|_=>0
def mulT(s t:Nat):Nat:=if s<4 then(if t<4 then(s+t)%4 else 4+(t+4 - s)%4)else(if t<4 then 4+(s+t)%4 else(t+8 - s)%4)
abbrev Mv:=Nat×Int×Int
def aZ(a b:Mv):Mv:=(mulT a.1 b.1,mA b.1*a.2.1+mB b.1*a.2.2+b.2.1,mC b.1*a.2.1+mD b.1*a.2.2+b.2.2)
def idM:Mv:=(0,0,0)
def okM(n:Int)(m:Mv):Prop:=m.1<8/\-n<=m.2.1/\m.2.1<=n/\-n<=m.2.2/\m.2.2<=n/\(m.2.1+m.2.2)%2=0
def t8{t:Nat}(h:t<8):t=0∨t=1∨t=2∨t=3∨t=4∨t=5∨t=6∨t=7:=by omega
def nP{s t:Nat}:mulT s t<8:=by
 unfold mulT
 repeat' split
 all_goals omega
def yG{a b c:Nat}(ha:a<8)(hb:b<8)(hc:c<8):mulT (mulT a b) c=mulT a (mulT b c):=by
 have key:((List.range 8).all λa=>(List.range 8).all λb=>(List.range 8).all λc=>mulT (mulT a b) c==mulT a (mulT b c))=true:=by decide +kernel
 have h1:=qab.1 key a (qad.2 ha)
 have h2:=qab.1 h1 b (qad.2 hb)
 have h3:=qab.1 h2 c (qad.2 hc)
 simpa using h3
def dj{a b c:Mv}(ha:a.1<8)(hb:b.1<8)(hc:c.1<8):aZ (aZ a b) c=aZ a (aZ b c):=by
 obtain⟨at',ax,ay⟩:=a
 obtain⟨bt,bx,by'⟩:=b
 obtain⟨ct,cx,cy⟩:=c
 simp only at ha hb hc
 unfold aZ
 refine qcM (yG ha hb hc) ?_
 simp only
 clear ha
 rcases t8 hb with rfl|rfl|rfl|rfl|rfl|rfl|rfl|rfl<;>rcases t8 hc with rfl|rfl|rfl|rfl|rfl|rfl|rfl|rfl<;>
  (refine qcM ?_ ?_<;>simp[mulT,mA,mB,mC,mD]<;>omega)
def xO{a:Mv}(ha:a.1<8):aZ a idM=a:=by
 obtain⟨t,x,y⟩:=a
 have ha:t<8:=ha
 unfold aZ idM
 simp only[mA,mB,mC,mD]
 refine qcM ?_ (qcM (by simp) (by simp))
 rcases t8 ha with rfl|rfl|rfl|rfl|rfl|rfl|rfl|rfl<;>simp[mulT]
def ij{a:Mv}(ha:a.1<8):aZ idM a=a:=by
 obtain⟨t,x,y⟩:=a
 have ha:t<8:=ha
 unfold aZ idM
 refine qcM ?_ (qcM (by simp) (by simp))
 rcases t8 ha with rfl|rfl|rfl|rfl|rfl|rfl|rfl|rfl<;>simp[mulT]
def invT(t:Nat):Nat:=match t with
 |1=>3|3=>1|n=>n
def invM(m:Mv):Mv:=(invT m.1,-(mA (invT m.1)*m.2.1+mB (invT m.1)*m.2.2),-(mC (invT m.1)*m.2.1+mD (invT m.1)*m.2.2))
def inv_id{m:Mv}(h:m.1<8):aZ m (invM m)=idM:=by
 obtain⟨t,x,y⟩:=m
 have h:t<8:=h
 unfold aZ invM idM
 rcases t8 h with rfl|rfl|rfl|rfl|rfl|rfl|rfl|rfl<;>simp[mulT,mA,mB,mC,mD,invT]<;>omega
def cE{n k:Int}{m:Mv}(h:okM n m)(hk:n<=k):okM k m:=by
 unfold okM at *
 omega
def okM_id{n:Int}(h:0<=n):okM n idM:=by
 unfold okM idM
 simp only
 omega
def dA{n k:Int}{a b:Mv}(ha:okM n a)(hb:okM k b):okM (n+k) (aZ a b):=by
 obtain⟨at',ax,ay⟩:=a
 obtain⟨bt,bx,by'⟩:=b
 unfold okM aZ at *
 simp only at *
 obtain⟨a1,a2⟩:=ha
 obtain⟨b1,b2⟩:=hb
 refine⟨nP,?_⟩
 clear a1
 rcases t8 b1 with rfl|rfl|rfl|rfl|rfl|rfl|rfl|rfl<;>simp only[mA,mB,mC,mD]<;>omega
abbrev Ln:=Nat×Int
def ofM(l:Ln):Mv:=match l.1 with
 |1=>(4,2*l.2,0)
 |2=>(6,0,2*l.2)
 |3=>(5,l.2,l.2)
 |_=>(7,-l.2,l.2)
def wY{l:Ln}{n:Int}(h:-n<=l.2/\l.2<=n):okM (2*n) (ofM l):=by
 obtain⟨k,c⟩:=l
 unfold ofM okM
 simp only at h ⊢
 split<;>simp only<;>omega
def lE(l:Ln):(ofM l).1<8:=by
 unfold ofM
 split<;>simp
def nV(l:Ln):aZ (ofM l) (ofM l)=idM:=by
 obtain⟨k,c⟩:=l
 unfold ofM aZ idM
 simp only
 split<;>simp[mulT,mA,mB,mC,mD]<;>omega
abbrev Cl:=Int×Int×Nat
def lnC3(c:Cl)(e:Nat):Ln:=match e with
 |0=>(match c.2.2 with
  |0=>(2,c.2.1)
  |1=>(1,c.1+1)
  |2=>(2,c.2.1+1)
  |_=>(1,c.1))
 |1=>(3,c.1+c.2.1+1)
 |_=>(4,c.2.1 - c.1)
def nbC(c:Cl)(e:Nat):Cl:=match e with
 |0=>(match c.2.2 with
  |0=>(c.1,c.2.1 - 1,2)
  |1=>(c.1+1,c.2.1,3)
  |2=>(c.1,c.2.1+1,0)
  |_=>(c.1 - 1,c.2.1,1))
 |1=>(c.1,c.2.1,[1,0,3,2].getD c.2.2 0)
 |_=>(c.1,c.2.1,[3,2,1,0].getD c.2.2 0)
def qT(t q:Nat):Nat:=if t<4 then(q+t)%4 else([0,3,2,1].getD ((q+t)%4) 0+(if t%2=0 then 0 else 2))%4
def bQ(m:Mv)(c:Cl):Cl:=(mA m.1*c.1+mB m.1*c.2.1+m.2.1 - (if mA m.1+mB m.1=1 then 0 else 1),mC m.1*c.1+mD m.1*c.2.1+m.2.2 - (if mC m.1+mD m.1=1 then 0 else 1),qT m.1 c.2.2)
def qT_lt{t q:Nat}:qT t q<4:=by
 unfold qT
 split<;>omega
end Go.Am
set_option maxRecDepth 100000
set_option maxHeartbeats 16000000
namespace Go.Am
open Sx Go.Proofs
def uI(f:FuncId)(ls rs:List Lf):Bool:=yu rs (runF 60 (.f f) ls .empty tell)
def jd{f:FuncId}{ls rs:List Lf}{sg:Sig}(h:uI f ls rs=true)(hs:ac f=some sg)(hp:sg.plain=true)(hg:gj ls=true):Cc f ls rs:=fC (n:=60) hs hp hg h
abbrev mvl(m:Mv):List Lf:=[.i (Int.ofNat m.1),.i m.2.1,.i m.2.2]
abbrev cll(c:Cl):List Lf:=[.i c.1,.i c.2.1,.i (Int.ofNat c.2.2)]
def lZ{n:Int}(h:-16384<=n/\n<=16384):Cc 106 [.i n] [.b false]:=by
 refine q106 rfl ?_;unfold f106;simp only[qxh]
 repeat (first|simp(disch:=omega)only[↓qXX])
 try rfl
def mchk_c{t x y:Int}(ht:0<=t/\t<8)(hx:-16384<=x/\x<=16384)(hy:-16384<=y/\y<=16384)(hp:(x+y)%2=0):Cc 70 [.i t,.i x,.i y] [.i 0]:=by
 refine q70 rfl ?_;unfold f70;simp only[qxh]
 rcases qcW 0 (x+y)with hs|hs
 ·repeat (first|simp(disch:=omega)only[↓qXX]|refine af (lZ hx) ?_|refine af (lZ hy) ?_|rw[p_rem_nn hs (by omega)])
 ·have h0:-(-(x+y)%2)=0:=by omega
  repeat (first|simp(disch:=omega)only[↓qXX]|refine af (lZ hx) ?_|refine af (lZ hy) ?_|rw[p_rem_np hs (by omega)])
def rA{n:Int}{m:Mv}(h:okM n m)(hn:n<=16384):Cc 70 (mvl m) [.i 0]:=by
 obtain⟨h1,h2,h3,h4,h5,h6⟩:=h
 exact mchk_c ⟨qaZ _,by show(m.1:Int)<8;omega⟩ (by omega) (by omega) h6
def oe{t:Nat}(h:t<8):lR gl0 0 [(Int.ofNat t,4)] 4=some [.int .i64 (mA t),.int .i64 (mB t),.int .i64 (mC t),.int .i64 (mD t)]:=by
 rcases t8 h with rfl|rfl|rfl|rfl|rfl|rfl|rfl|rfl<;>kernel_rfl
def tz{n t:Nat}(h:t<n):inB n (Int.ofNat t)=some ():=by
 show(match Nat.blt t n with
  |true=>some ()
  |false=>none)=some ()
 rw[show Nat.blt t n=true by rw[qaK];exact h]
def mof_c{t:Nat}(ht:t<8){x y:Int}(h:-200000<=x/\x<=200000/\-200000<=y/\y<=200000):Cc 113 [.i (mA t),.i (mB t),.i (mC t),.i (mD t),.i x,.i y] [.i (mA t*x+mB t*y),.i (mC t*x+mD t*y)]:=by
 rcases t8 ht with rfl|rfl|rfl|rfl|rfl|rfl|rfl|rfl
 all_goals
  simp only[mA,mB,mC,mD]
  refine q113 rfl ?_;unfold f113;simp only[qxh]
  repeat (first|simp(disch:=omega)only[↓qXX])
  (try simp only[qa2,Lf.i.injEq,and_true,true_and]);(try omega)
def thenT(s t:Nat):Bool:=uI 116 [.i (mA s),.i (mB s),.i (mC s),.i (mD s),.i (mA t),.i (mB t),.i (mC t),.i (mD t)] [.i (mA (mulT s t)),.i (mB (mulT s t)),.i (mC (mulT s t)),.i (mD (mulT s t))]
def numT(t:Nat):Bool:=uI 115 [.i (mA t),.i (mB t),.i (mC t),.i (mD t)] [.i (.ofNat t)]
def xP:((List.range 8).all λs=>numT s&&(List.range 8).all λt=>thenT s t)=true:=by kernel_rfl
def thenT_c{s t:Nat}(hs:s<8)(ht:t<8):Cc 116 [.i (mA s),.i (mB s),.i (mC s),.i (mD s),.i (mA t),.i (mB t),.i (mC t),.i (mD t)] [.i (mA (mulT s t)),.i (mB (mulT s t)),.i (mC (mulT s t)),.i (mD (mulT s t))]:=by
 have h:=qab.1 xP s (qad.2 hs)
 rw[qaa]at h
 exact jd (qab.1 h.2 t (qad.2 ht)) rfl (by kernel_rfl) rfl
def numT_c{t:Nat}(ht:t<8):Cc 115 [.i (mA t),.i (mB t),.i (mC t),.i (mD t)] [.i (.ofNat t)]:=by
 have h:=qab.1 xP t (qad.2 ht)
 rw[qaa]at h
 exact jd h.1 rfl (by kernel_rfl) rfl
def limited_c{m:Mv}{n:Int}(h:okM n m)(hn:n<=16384):Cc 114 (mvl m) (mvl m++[.i 0]):=by
 refine q114 rfl ?_;unfold f114;simp only[qxh]
 simp(disch:=omega)only[↓qXX]
 refine af (rA h hn) ?_
 simp(disch:=omega)only[↓qXX]
 rfl
def then_c{a b:Mv}{n k:Int}(ha:okM n a)(hb:okM k b)(hn:0<=n/\0<=k/\n+k<=16384):Cc 73 (mvl a++mvl b) (mvl (aZ a b)++[.i 0]):=by
 have h0:=dA ha hb
 refine q73 rfl ?_;unfold f73;simp only[qxh]
 simp only[mvl,qaI,qaG]
 simp(disch:=omega)only[↓qXX]
 refine af (rA ha (by omega)) ?_
 simp(disch:=omega)only[↓qXX]
 refine af (rA hb (by omega)) ?_
 simp(disch:=omega)only[↓qXX]
 refine am (tz hb.1) ?_
 refine am (oe hb.1) ?_
 simp(disch:=omega)only[↓qXX]
 refine af (mof_c hb.1 ⟨by have:=ha.2;omega,by have:=ha.2;omega,by have:=ha.2;omega,by have:=ha.2;omega⟩) ?_
 simp(disch:=omega)only[↓qXX]
 refine am (tz ha.1) ?_
 refine am (oe ha.1) ?_
 simp(disch:=omega)only[↓qXX]
 refine am (tz hb.1) ?_
 refine am (oe hb.1) ?_
 simp(disch:=omega)only[↓qXX]
 refine af (thenT_c ha.1 hb.1) ?_
 simp(disch:=omega)only[↓qXX]
 refine af (numT_c nP) ?_
 simp(disch:=omega)only[↓qXX]
 have hz:∀z:Int,(-n<=z/\z<=n)∨True:=λ_=>.inr trivial
 obtain⟨h1,h2,h3,h4,h5,h6⟩:=h0
 unfold aZ at h2 h3 h4 h5
 simp only at h2 h3 h4 h5
 rw[p_add (by omega) (by omega),p_add (by omega) (by omega)]
 refine af (limited_c (m:=aZ a b) ⟨h1,h2,h3,h4,h5,h6⟩ (by omega)) ?_
 simp only[mvl,qaI,qaG]
 simp(disch:=omega)only[↓qXX]
 rfl
def lchk_c{k c:Int}(hk:1<=k/\k<=4)(hc:-4096<=c/\c<=4096):Cc 92 [.i k,.i c] [.i 0]:=by
 refine q92 rfl ?_;unfold f92;simp only[qxh]
 repeat (first|simp(disch:=omega)only[↓qXX])
 try rfl
def of1_c{k c:Int}{m:Mv}(hk:1<=k/\k<=4)(hc:-4096<=c/\c<=4096)(hm:m=ofM (k.toNat,c)):Cc 89 [.i k,.i c] (mvl m++[.i 0]):=by
 subst hm
 obtain rfl|rfl|rfl|rfl:k=1∨k=2∨k=3∨k=4:=by omega
 all_goals
  refine q89 rfl ?_;unfold f89;simp only[qxh]
  repeat (first|simp(disch:=omega)only[↓qXX]|refine af (lchk_c (by omega) (by omega)) ?_)
  simp[ofM]
def mlof_c{l:Ln}(hk:1<=l.1/\l.1<=4)(hc:-4096<=l.2/\l.2<=4096):Cc 89 [.i (Int.ofNat l.1),.i l.2] (mvl (ofM l)++[.i 0]):=
 of1_c (k:=Int.ofNat l.1) ⟨by show(1:Int)<=(l.1:Int);omega,by show(l.1:Int)<=4;omega⟩ hc rfl
def pchk_c{x y:Int}(h:-65536<=x/\x<=65536/\-65536<=y/\y<=65536):Cc 90 [.i x,.i y] [.i 0]:=by
 refine q90 rfl ?_;unfold f90;simp only[qxh]
 repeat (first|simp(disch:=omega)only[↓qXX])
 try rfl
def ptM(m:Mv)(x y:Int):Int×Int:=(mA m.1*x+mB m.1*y+2*m.2.1,mC m.1*x+mD m.1*y+2*m.2.2)
def vj{t:Nat}(ht:t<8){n x y:Int}(h:-n<=x/\x<=n/\-n<=y/\y<=n):-n<=mA t*x+mB t*y/\mA t*x+mB t*y<=n/\-n<=mC t*x+mD t*y/\mC t*x+mD t*y<=n:=by
 rcases t8 ht with rfl|rfl|rfl|rfl|rfl|rfl|rfl|rfl<;>simp only[mA,mB,mC,mD]<;>omega
def point_c{m:Mv}(hm:okM 16384 m){x y:Int}(h:-8000<=x/\x<=8000/\-8000<=y/\y<=8000):Cc 141 (mvl m++[.i x,.i y]) [.i (ptM m x y).1,.i (ptM m x y).2,.i 0]:=by
 have hr:=vj hm.1 h
 have hm2:=hm.2
 refine q141 rfl ?_;unfold f141;simp only[qxh]
 simp only[mvl,qaI,qaG]
 simp(disch:=omega)only[↓qXX]
 refine af (rA hm (by omega)) ?_
 simp(disch:=omega)only[↓qXX]
 refine af (pchk_c (by omega)) ?_
 simp(disch:=omega)only[↓qXX]
 refine am (tz hm.1) ?_
 refine am (oe hm.1) ?_
 simp(disch:=omega)only[↓qXX]
 refine af (mof_c hm.1 (by omega)) ?_
 simp(disch:=omega)only[↓qXX]
 refine af (pchk_c (by omega)) ?_
 simp(disch:=omega)only[↓qXX]
 rfl
def cchk_c{c:Cl}(h:-4096<=c.1/\c.1<=4096/\-4096<=c.2.1/\c.2.1<=4096/\c.2.2<4):Cc 117 (cll c) [.i 0]:=by
 have hq:(Int.ofNat c.2.2)<=3:=by show(c.2.2:Int)<=3;omega
 refine q117 rfl ?_;unfold f117;simp only[qxh]
 repeat (first|simp(disch:=omega)only[↓qXX])
 try rfl
def middle_c{x y q:Int}(h:-1000000<=x/\x<=1000000/\-1000000<=y/\y<=1000000):Cc 140 [.i x,.i y,.i q] [.i (2*x+1),.i (2*y+1)]:=by
 refine q140 rfl ?_;unfold f140;simp only[qxh]
 repeat (first|simp(disch:=omega)only[↓qXX])
 (try simp only[qa2,Lf.i.injEq,and_true,true_and]);(try omega)
def sdX(q:Nat):Int:=[0,1,0,-1].getD q 0
def sdY(q:Nat):Int:=[-1,0,1,0].getD q 0
def pick_q{q:Nat}(h:q<4):lR gl1 0 [(Int.ofNat q,17)] 2=some [.int .i64 (sdX q),.int .i64 (sdY q)]:=by
 obtain rfl|rfl|rfl|rfl:q=0∨q=1∨q=2∨q=3:=by omega
 all_goals kernel_rfl
def moved_c{m:Mv}(hm:okM 16384 m){c:Cl}(hc:-1000<=c.1/\c.1<=1000/\-1000<=c.2.1/\c.2.1<=1000/\c.2.2<4):Cc 118 (mvl m++cll c) (cll (bQ m c)):=by
 obtain⟨t,mx,my⟩:=m
 obtain⟨x,y,q⟩:=c
 have hm0:okM 16384 (t,0,0):=⟨hm.1,by simp,by simp,by simp,by simp,by simp⟩
 have hp1:=point_c (cE hm (by omega)) (x:=2*x+1) (y:=2*y+1) (by simp only at hc;omega)
 have hp2:=point_c (cE hm0 (by omega)) (x:=sdX q) (y:=sdY q) (by
  have hq:q<4:=hc.2.2.2.2
  obtain rfl|rfl|rfl|rfl:q=0∨q=1∨q=2∨q=3:=by omega
  all_goals simp[sdX,sdY])
 obtain⟨X,hX⟩ : ∃X,(ptM (t,mx,my) (2*x+1) (2*y+1)).1=X:=⟨_,rfl⟩
 obtain⟨Y,hY⟩ : ∃Y,(ptM (t,mx,my) (2*x+1) (2*y+1)).2=Y:=⟨_,rfl⟩
 obtain⟨U,hU⟩ : ∃U,(ptM (t,0,0) (sdX q) (sdY q)).1=U:=⟨_,rfl⟩
 obtain⟨V,hV⟩ : ∃V,(ptM (t,0,0) (sdX q) (sdY q)).2=V:=⟨_,rfl⟩
 rw[hX,hY]at hp1
 rw[hU,hV]at hp2
 have hm':=hm.2
 have ht:t<8:=hm.1
 have hq:q<4:=hc.2.2.2.2
 simp only at hm' hc
 refine q118 rfl ?_;unfold f118;simp only[qxh]
 simp only[mvl,cll,qaI,qaG]
 simp(disch:=omega)only[↓qXX]
 refine af (middle_c (by omega)) ?_
 simp(disch:=omega)only[↓qXX]
 refine am (tz hq) ?_
 refine am (pick_q hq) ?_
 simp(disch:=omega)only[↓qXX]
 refine af hp1 ?_
 simp(disch:=omega)only[↓qXX]
 refine af hp2 ?_
 simp(disch:=omega)only[↓qXX]
 rcases t8 ht with rfl|rfl|rfl|rfl|rfl|rfl|rfl|rfl
 all_goals obtain rfl|rfl|rfl|rfl:q=0∨q=1∨q=2∨q=3:=by omega
 all_goals
  simp[ptM,mA,mB,mC,mD,sdX,sdY]at hX hY hU hV
  subst hU hV
  repeat (first|simp(disch:=omega)only[↓qXX]|refine am (by simp only[dO,putL,offX,Int.reduceToNat,Int.reduceAdd,Int.reduceMul,Int.reduceMod,Int.reduceSub,Int.reduceNeg,Int.reduceDiv,Nat.reduceAdd,Nat.reduceMul,Nat.reduceLeDiff,qaC,qbi,↓reduceIte,qbO,qbg,qby,qcf,qaI,qaG,qaL,qcR,qbG,qcd,qcX];exact rfl) ?_|refine p_loop 6 ?_)
  try simp[bQ,mA,mB,mC,mD,qT]
  try omega
end Go.Am
namespace Go.Am
namespace Sx
section
variable [Val] [Kno]
variable {C:Cfg} {Sg:FuncId->Option Sig} {T:Nat->Site} {α:Type}
def oB{l:List α}{i:Nat}{a:α}(h:l[i]?=some a):l.set i a=l:=by
 apply qaR
 intro k
 by_cases hk:i=k
 ·subst hk
  rw[qaD (be h),h]
 ·rw[qai hk]
end
end Sx
namespace Sx
section
variable [Val] [Kno] {C:Cfg} {T:Nat->Site}
abbrev Ku:=Int×Int
def kvU(k:Ku):Value:=.agg ⟨[.int .i64 k.1,.int .u8 k.2]⟩
def EntS(es:List MapEntry)(ks:List Ku):Prop:=es.map (·.key)=ks.map kvU/\∀e∈es,e.val = .bool true
abbrev kkU:List LK:=[.i .i64,.i .u8]
def qV(a b:Int):eqZ a b=decide (a=b):=by
 have hb:∀m n:Nat,Nat.beq m n=decide (m=n):=λm n=>by
  by_cases h:m=n
  ·subst h;simp
  ·rw[decide_eq_false h]
   cases hq:Nat.beq m n with
   |true=>exact absurd (qac hq) h
   |false=>rfl
 cases a<;>cases b<;>simp[eqZ,hb]
 omega
def difK_kv(a b:Ku):difK kkU [.int .i64 a.1,.int .u8 a.2] [.int .i64 b.1,.int .u8 b.2]=some (decide (a=b)):=by
 have e1:dy .i64 .i64=true:=rfl
 have e2:dy .u8 .u8=true:=rfl
 obtain⟨a1,a2⟩:=a
 obtain⟨b1,b2⟩:=b
 simp only[difK,e1,e2,qV,qb5]
 by_cases h1:a1=b1
 ·by_cases h2:a2=b2
  ·simp[h1,h2]
  ·simp[h1,h2]
 ·simp[h1]
def rg(k:Ku):∀ {es:List MapEntry} {ks:List Ku} (i:Nat),EntS es ks->(k∉ks->iz kkU [.int .i64 k.1,.int .u8 k.2] es i=some none)/\(k∈ks->∃j e,iz kkU [.int .i64 k.1,.int .u8 k.2] es i=some (some (i+j))/\es[j]?=some e/\e.val = .bool true)
 | [],[],i,_=>⟨λ_=>rfl,λh=>by cases h⟩
 | [],_ :: _,i,h=>by have:=h.1;simp at this
 |_ :: _,[],i,h=>by have:=h.1;simp at this
 |e :: es,q :: ks,i,h=>by
  obtain⟨h1,h2⟩:=h
  simp only[qav,qa2]at h1
  obtain⟨ih1,ih2⟩:=rg k (i+1) (⟨h1.2,λx hx=>h2 x (qao _ hx)⟩ : EntS es ks)
  have hq:iz kkU [.int .i64 k.1,.int .u8 k.2] (e :: es) i=if k=q then some (some i)else iz kkU [.int .i64 k.1,.int .u8 k.2] es (i+1):=by
   simp only[iz,h1.1,kvU]
   rw[difK_kv]
   by_cases hk:k=q<;>simp[hk]
  rw[hq]
  by_cases hk:k=q
  ·subst hk
   refine⟨λhn=>absurd qax hn,λ_=>⟨0,e,by rw[if_pos rfl];rfl,rfl,h2 e qax⟩⟩
  ·rw[if_neg hk]
   refine⟨λhn=>ih1 λhm=>hn (qao _ hm),λhm=>?_⟩
   rcases qak.1 hm with hm|hm
   ·exact absurd hm hk
   ·obtain⟨j,e',g1,g2,g3⟩:=ih2 hm
    exact⟨j+1,e',by rw[g1];congr 2;omega,by simpa using g2,g3⟩
variable {kt:TypeId}
def keyF_u(h1:aggT C.P kt=some true)(h2:flatK C.P 10000 kt=some kkU)(k:Ku):keyF C.P kt (kvU k)=true:=by
 have e1:dy .i64 .i64=true:=rfl
 have e2:dy .u8 .u8=true:=rfl
 unfold keyF kvU
 simp only[h1,h2,iR,e1,e2,qV]
 simp
def vd(h1:aggT C.P kt=some true)(h2:flatK C.P 10000 kt=some kkU)(k:Ku){es:List MapEntry}{r:Option Nat}(hr:iz kkU [.int .i64 k.1,.int .u8 k.2] es 0=some r):oU C.P kt (kvU k) es=some r:=by
 unfold oU kvU
 simp only[h1,h2,ml,hr]
def lu_set(h1:aggT C.P kt=some true)(h2:flatK C.P 10000 kt=some kkU){h:HL}{id c:Nat}{es:List MapEntry}{ks:List Ku}(hm:h[id]?=some (.o (.map es c)))(he:EntS es ks)(k:Ku) :
  luG C kt false (.bool false) (.map (some id)) (kvU k) false (getH T h)=some [.bool (decide (k∈ks))]:=by
 unfold luG
 rw[keyF_u h1 h2]
 simp only[qaF,qal,if_false]
 have hg:mapG (getH T h) id=some (es,c):=by
  unfold mapG
  rw[cC hm]
 rw[hg]
 simp only
 obtain⟨f1,f2⟩:=rg k 0 he
 by_cases hk:k∈ks
 ·obtain⟨j,e,g1,g2,g3⟩:=f2 hk
  rw[vd h1 h2 k g1]
  have hv:en es (0+j)=some (.bool true):=by
   rw[qaL]
   unfold en
   rw[g2]
   simp[g3]
  simp only[hv,qaj]
  simp[eK,hk]
 ·rw[vd h1 h2 k (f1 hk)]
  simp[eK,hk]
def mu_set(h1:aggT C.P kt=some true)(h2:flatK C.P 10000 kt=some kkU){h:HL}{id c n:Nat}{es:List MapEntry}{ks:List Ku}(hm:h[id]?=some (.o (.map es c)))(he:EntS es ks){k:Ku}(hk:k∉ks) :
  muG C kt (.map (some id)) (kvU k) (.bool true) (getH T h) n=some ([.set id (.map (es++[{ key:=kvU k,val:=.bool true,born:=c }]) (c+1))],[]):=by
 unfold muG
 simp only
 rw[keyF_u h1 h2]
 simp only[qaF,qal,if_false]
 have hg:mapG (getH T h) id=some (es,c):=by
  unfold mapG
  rw[cC hm]
 rw[hg]
 simp only
 rw[vd h1 h2 k ((rg k 0 he).1 hk)]
def EntS.push{es:List MapEntry}{ks:List Ku}(he:EntS es ks)(k:Ku)(c:Nat):EntS (es++[{ key:=kvU k,val:=.bool true,born:=c }]) (ks++[k]):=by
 refine⟨by simp[he.1],λe hm=>?_⟩
 rcases qaH.1 hm with hm|hm
 ·exact he.2 e hm
 ·simp only[qau]at hm
  subst hm;rfl
end
end Sx
end Go.Am
set_option maxRecDepth 100000
set_option maxHeartbeats 8000000
namespace Go.Am
open Sx Go.Proofs
def clN(w n:Nat):Cl:=(Int.ofNat (n / 4%w),Int.ofNat (n / 4 / w),n%4)
def rkN(w n:Nat):Nat:=10*(n / 4%w+n / 4 / w)+(if n / 4 / w=0/\n / 4%w≠0 then [1,2,1,0]else [0,1,2,1]).getD (n%4) 0
def wT(w v c e:Nat):List Lf:=match nbr w v c e with
 |some n=>[.i (.ofNat n),.i 0]
 |none=>[.i 0,.i 7]
def tabNb(w v:Nat):Bool:=(List.range (4*w*v)).all λc=>(List.range 3).all λe=>uI 98 [.i (.ofNat w),.i (.ofNat v),.i (.ofNat c),.i (.ofNat e)] (wT w v c e)
def tabLn(w v:Nat):Bool:=(aF w v).all λu=>uI 110 [.i (.ofNat w),.i (.ofNat v),.i (.ofNat u.1),.i (.ofNat u.2)] [.i (.ofNat (lnC3 (clN w u.1) u.2).1),.i (lnC3 (clN w u.1) u.2).2,.i 0]
def eqLn(a b:Ln):Bool:=Nat.beq a.1 b.1&&decide (a.2=b.2)
def eqLn_iff{a b:Ln}:eqLn a b=true↔a=b:=by
 unfold eqLn
 rw[qaa,decide_eq_true_eq,qcZ]
 exact⟨λh=>⟨qac h.1,h.2⟩,λh=>⟨by rw[h.1];exact qbE _,h.2⟩⟩
def eqCl(a b:Cl):Bool:=decide (a.1=b.1)&&(decide (a.2.1=b.2.1)&&Nat.beq a.2.2 b.2.2)
def eqCl_iff{a b:Cl}:eqCl a b=true↔a=b:=by
 unfold eqCl
 rw[qaa,qaa,decide_eq_true_eq,decide_eq_true_eq,qcZ,qcZ]
 exact⟨λh=>⟨h.1,h.2.1,qac h.2.2⟩,λh=>⟨h.1,h.2.1,by rw[h.2.2];exact qbE _⟩⟩
def nbT(w v c e:Nat):Bool:=match nbr w v c e with
 |some n=>Nat.blt n (4*w*v)&&((match nbr w v n e with
  |some m=>Nat.beq m c
  |none=>false)&&(eqLn (lnC3 (clN w c) e) (lnC3 (clN w n) e)&&(eqCl (clN w n) (nbC (clN w c) e) && !Nat.beq n c)))
 |none=>true
def lnRng(w c e:Nat):Bool:=Nat.ble 1 (lnC3 (clN w c) e).1&&(Nat.ble (lnC3 (clN w c) e).1 4&&(decide (-10<=(lnC3 (clN w c) e).2)&&decide ((lnC3 (clN w c) e).2<=10)))
def wayT(w v n:Nat):Bool:=Nat.beq n 0||(List.range 3).any λe=>match nbr w v n e with
 |some m=>Nat.blt (rkN w m) (rkN w n)
 |none=>false
def tabNet(w v:Nat):Bool:=(List.range (4*w*v)).all λc=>wayT w v c&&(List.range 3).all λe=>nbT w v c e&&lnRng w c e
def tab71(w v:Nat):Bool:=tabNb w v&&(tabLn w v&&tabNet w v)
def all71:∀w v:Nat,1<=w->w<=5->1<=v->v<=5->tab71 w v=true:=by
 have key:((List.range 5).all λw=>(List.range 5).all λv=>tab71 (w+1) (v+1))=true:=by kernel_rfl
 intro w v h1 h2 h3 h4
 have h5:=qab.1 key (w - 1) (qad.2 (by omega))
 have h6:=qab.1 h5 (v - 1) (qad.2 (by omega))
 rw[show w - 1+1=w by omega,show v - 1+1=v by omega]at h6
 exact h6
def Sh(w v:Nat):Prop:=1<=w/\w<=5/\1<=v/\v<=5
section
variable {w v:Nat}
def sb(h:Sh w v):tabNb w v=true/\tabLn w v=true/\tabNet w v=true:=by
 have:=all71 w v h.1 h.2.1 h.2.2.1 h.2.2.2
 unfold tab71 at this
 simpa only[qaa]using this
def nb_c(h:Sh w v){c e:Nat}(hc:c<4*w*v)(he:e<3):Cc 98 [.i (.ofNat w),.i (.ofNat v),.i (.ofNat c),.i (.ofNat e)] (wT w v c e):=
 jd (qab.1 (qab.1 (sb h).1 c (qad.2 hc)) e (qad.2 he)) rfl (by kernel_rfl) rfl
def ln_c(h:Sh w v){u e:Nat}(hu:(u,e)∈aF w v):Cc 110 [.i (.ofNat w),.i (.ofNat v),.i (.ofNat u),.i (.ofNat e)] [.i (.ofNat (lnC3 (clN w u) e).1),.i (lnC3 (clN w u) e).2,.i 0]:=
 jd (qab.1 (sb h).2.1 (u,e) hu) rfl (by kernel_rfl) rfl
def net_ok(h:Sh w v){c:Nat}(hc:c<4*w*v):wayT w v c=true/\∀e,e<3->nbT w v c e=true/\lnRng w c e=true:=by
 have:=qab.1 (sb h).2.2 c (qad.2 hc)
 rw[qaa]at this
 refine⟨this.1,λe he=>?_⟩
 have:=qab.1 this.2 e (qad.2 he)
 rwa [qaa]at this
def kE(h:Sh w v){c e n:Nat}(hc:c<4*w*v)(he:e<3)(hn:nbr w v c e=some n):n<4*w*v/\nbr w v n e=some c/\lnC3 (clN w c) e=lnC3 (clN w n) e/\clN w n=nbC (clN w c) e/\n≠c:=by
 have:=((net_ok h hc).2 e he).1
 unfold nbT at this
 rw[hn]at this
 simp only[qaa]at this
 obtain⟨h1,h2,h3,h4,h5⟩:=this
 refine⟨by simpa[qaK]using h1,?_,eqLn_iff.1 h3,eqCl_iff.1 h4,λe=>?_⟩
 ·split at h2
  next m hm=>
   rw[hm,qac h2]
  ·cases h2
 ·subst e
  rw[show Nat.beq n n=true from qbE n]at h5
  cases h5
def ln_ok(h:Sh w v){c e:Nat}(hc:c<4*w*v)(he:e<3):1<=(lnC3 (clN w c) e).1/\(lnC3 (clN w c) e).1<=4/\-10<=(lnC3 (clN w c) e).2/\(lnC3 (clN w c) e).2<=10:=by
 have:=((net_ok h hc).2 e he).2
 unfold lnRng at this
 simp only[qaa,qbb,decide_eq_true_eq]at this
 exact this
def nQ(h:Sh w v){P:Nat->Prop}(h0:P 0)(hs:∀c e n,c<4*w*v->e<3->nbr w v c e=some n->P c->P n):∀n,n<4*w*v->P n:=by
 have main:∀k n,n<4*w*v->rkN w n<k->P n:=by
  intro k
  induction k with
  |zero=>intro n _ hk;omega
  |succ k ih=>
   intro n hn hk
   have hw:=(net_ok h hn).1
   unfold wayT at hw
   rw[qaP]at hw
   rcases hw with hw|hw
   ·rw[qac hw];exact h0
   ·obtain⟨e,he,hm⟩:=qcz.1 hw
    have he:=qad.1 he
    split at hm
    next m hnm=>
     rw[qaK]at hm
     obtain⟨g1,g2,_⟩:=kE h hn he hnm
     exact hs m e n g1 he g2 (ih m g1 (by omega))
    ·cases hm
 intro n hn
 exact main (rkN w n+1) n hn (by omega)
def pN{c e n:Nat}(hc:c<4*w*v)(he:e<3)(hn:nbr w v c e=some n)(hlt:c<n):(c,e)∈aF w v:=by
 unfold aF
 rw[qbd]
 refine⟨c,qad.2 hc,qa4.2 ⟨e,qad.2 he,?_⟩⟩
 simp[hn,hlt]
def vo(h:Sh w v){c e n:Nat}(hc:c<4*w*v)(he:e<3)(hn:nbr w v c e=some n):(min c n,e)∈aF w v/\lnC3 (clN w (min c n)) e=lnC3 (clN w c) e:=by
 obtain⟨g1,g2,g3,_,g5⟩:=kE h hc he hn
 rcases qaB c n with hlt|hge
 ·rw[qb0 (by omega)]
  exact⟨pN hc he hn hlt,rfl⟩
 ·rw[qds hge]
  exact⟨pN g1 he g2 (by omega),g3.symm⟩
end
def dI(c:Crs):Ku:=(c.1,c.2.1)
def isCr(l:List Crs)(u e:Nat):Bool:=decide (((Int.ofNat u,Int.ofNat e):Ku)∈l.map dI)
def SetM(H:HL)(id:Nat)(l:List Crs):Prop:=∃es c,H[id]?=some (.o (.map es c))/\EntS es (l.map dI)
def yw{l:List Crs}(h:l.Pairwise λa b=>ltC a b=true):(l.map dI).Nodup:=by
 rw[List.Nodup,List.pairwise_map]
 refine h.imp λ{a b} hab e=>?_
 unfold ltC at hab
 simp only[qaP,qaa,decide_eq_true_eq]at hab
 unfold dI at e
 simp only[qb5]at e
 omega
def creased_c{H:HL}{w v:Int}{x:Value}{l:List Crs}(hl:LsH H x 3 encC l)(hn:(l.map dI).Nodup)(hb:l.length<=1000) :
  ∃G,aw cc ac 107 [.i w,.i v,.v x] (absH aa H) [.v (.map (some H.length))] (absH aa (H++[G]))/\SetM (H++[G]) H.length l:=by
 obtain⟨rs,h',h1,rfl,G,rfl,hS⟩:=x107 (K:=λrs h'=>rs=[.v (.map (some H.length))]/\∃G,h'=H++[G]/\SetM h' H.length l) (H:=H) (glsI (glsI (glsV hl.good gls0))) (by
  unfold f107;simp only[qxh]
  simp(disch:=omega)only[↓qXX]
  refine bM hl ?_
  simp(disch:=omega)only[↓qXX]
  refine bM hl ?_
  refine bW (σ:=HO) l.length (λj _=>[.i (Int.ofNat j)]) (λ_ G=>H++[G]) (λj G=>SetM (H++[G]) H.length (l.take j)) (j0:=0) (s0:=.o (.map [] 0)) rfl rfl (qaW _) ⟨[],0,by simp,rfl,λe h=>(by cases h)⟩ ?_
  rintro j G hj ⟨es,c,g1,g2⟩ self hself
  simp(disch:=omega)only[↓qXX]
  by_cases hlt:j<l.length
  ·rw[aS hlt]
   simp(disch:=omega)only[↓qXX]
   obtain⟨a,ha⟩:=bn hlt
   have hl':=hl.pre (h':=H++[G]) ⟨[G],rfl⟩
   refine bi hl' rfl ha ?_
   unfold encC
   simp(disch:=omega)only[↓qXX]
   have hk:dI a∉(l.take j).map dI:=by
    intro hm
    rw[qcm]at hm
    have hnd:=hn
    have h3:(l.map dI)[j]?=some (dI a):=by rw[qat,ha];rfl
    have h4:l.map dI=(l.map dI).take j++dI a :: (l.map dI).drop (j+1):=by
     conv=>lhs;rw[←qbt j (l.map dI)]
     rw[qbm (by rw[qa3];exact hlt)]
     congr 2
     rw[qar (by rw[qa3];exact hlt)]at h3
     exact qap h3
    rw[h4,List.nodup_append]at hnd
    exact hnd.2.2 _ hm _ qax rfl
   refine cO (mu_set (C:=cc) (T:=aa) (n:=(H++[G]).length) (by kernel_rfl) (by kernel_rfl) g1 g2 hk) ?_
   rw[ce (by omega)]
   have e:bI (H++[G]) [.set H.length (.map (es++[{ key:=kvU (dI a),val:=.bool true,born:=c }]) (c+1))]=H++[.o (.map (es++[{ key:=kvU (dI a),val:=.bool true,born:=c }]) (c+1))]:=by
    show(H++[G]).set H.length _=_
    simp
   rw[e]
   refine hself _ hlt ⟨es++[{ key:=kvU (dI a),val:=.bool true,born:=c }],c+1,by simp,?_⟩
   have ht:(l.take (j+1)).map dI=(l.take j).map dI++[dI a]:=by
    rw[qa6,ha,qbJ];rfl
   rw[ht]
   exact g2.push _ _
  ·obtain rfl:j=l.length:=by omega
   rw[aY (qan _)]
   simp(disch:=omega)only[↓qXX]
   refine⟨by trivial,G,rfl,?_⟩
   rw[qbh]at g2
   exact⟨es,c,g1,g2⟩)
 exact⟨G,h1,hS⟩
def encM(m:Mv):List Value:=[.int .u8 (Int.ofNat m.1),.int .i64 m.2.1,.int .i64 m.2.2]
def bO(m:Mv):(encM m).length=3:=rfl
def acM(w:Nat)(l:List Crs)(g:Mv)(c n e:Nat):Mv:=if isCr l (min c n) e then aZ (ofM (lnC3 (clN w (min c n)) e)) g else g
def acM_ok{w v:Nat}(h:Sh w v){l:List Crs}{c e n:Nat}(hc:c<4*w*v)(he:e<3)(hn:nbr w v c e=some n){k:Int}{g:Mv}(hg:okM k g)(hk:0<=k):okM (k+20) (acM w l g c n e):=by
 unfold acM
 obtain⟨_,h2⟩:=vo h hc he hn
 split
 ·rw[h2]
  have hl:=ln_ok h hc he
  have:=dA (wY (n:=10) ⟨hl.2.2.1,hl.2.2.2⟩) hg
  exact cE this (by omega)
 ·exact cE hg (by omega)
def ob{h:HL}{p:Value}{cs:List Value}{K:List Value->Prop}{n:Nat}(hp:Ptr h p cs)(hn:cs.length=n)(hk:K cs):P1.peek (.lg cc n p) h (@hid _ ⟨K⟩):=eu (hp.lg hn) hk
def tW{h:HL}{p:Value}{cs ds:List Value}{K:List Value->Prop}{o n:Nat}(hp:Ptr h p cs)(hn:o+n<=cs.length)(hd:ds=(cs.drop o).take n)(hk:K ds) :
  P1.opt (fdP o p) (@hid _ ⟨λy=>P1.chk y (@hid _ ⟨P1.peek (.lg cc n y) h (@hid _ ⟨K⟩)⟩)⟩):=by
 subst hd
 obtain⟨q,h3,h4⟩:=hp.fd o n hn
 refine am h3 (aH h4.good (eu (h4.lg ?_) hk))
 rw[qaJ,qbv];omega
def across_c{w v:Nat}(hs:Sh w v){l:List Crs}{h:HL}{x pp pm po sl:Value}{mid:Nat}{G:List Mv}(hP:Ptr h pp [.int .i64 (.ofNat w),.int .i64 (.ofNat v),x])(hM:Ptr h pm [.map (some mid)])(hS:SetM h mid l)(hO:Ptr h po [sl])(hG:LsH h sl 3 encM G)
  {c e n:Nat} (hc:c<4*w*v) (he:e<3) (hn:nbr w v c e=some n) {g:Mv} (hg:G[c]?=some g) {k:Int} (hk:okM k g) (hk0:0<=k/\k<=16000) :
  aw cc ac 109 [.i (.ofNat c),.i (.ofNat e),.v pp,.v pm,.v po] (absH aa h) (mvl (acM w l g c n e)) (absH aa h):=by
 obtain⟨es,c0,m1,m2⟩:=hS
 have ht:=gY w v hs.1 hs.2.1 hs.2.2.1 hs.2.2.2
 obtain⟨hu,hln⟩:=vo hs hc he hn
 have hlk:=ln_ok hs hc he
 rw[←hln]at hlk
 have hname:=nameIn ht hc he
 unfold nameN at hname
 rw[hn]at hname
 simp only at hname
 obtain⟨rs,h',h1,rfl,rfl⟩:=x109 (K:=λrs h'=>rs=mvl (acM w l g c n e)/\h'=h) (H:=h) (glsI (glsI (glsV hP.good (glsV hM.good (glsV hO.good gls0))))) (by
  unfold f109;simp only[qxh]
  simp(disch:=omega)only[↓qXX]
  refine tW (ds:=[.int .i64 (.ofNat w),.int .i64 (.ofNat v)]) hP (by simp) rfl ?_
  simp(disch:=omega)only[↓qXX]
  refine af hname ?_
  simp(disch:=omega)only[↓qXX]
  refine ob hM rfl ?_
  simp(disch:=omega)only[↓qXX]
  refine aH rfl ?_
  simp(disch:=omega)only[↓qXX]
  refine eu (lu_set (C:=cc) (T:=aa) (by kernel_rfl) (by kernel_rfl) m1 m2 (Int.ofNat (min c n),Int.ofNat e)) ?_
  simp(disch:=omega)only[↓qXX]
  unfold acM isCr
  by_cases hcr:((Int.ofNat (min c n),Int.ofNat e):Ku)∈l.map dI
  ·rw[decide_eq_true hcr]
   simp(disch:=omega)only[↓qXX,qaF,if_true]
   refine tW (ds:=[.int .i64 (.ofNat w),.int .i64 (.ofNat v)]) hP (by simp) rfl ?_
   simp(disch:=omega)only[↓qXX]
   refine af (ln_c hs hu) ?_
   simp(disch:=omega)only[↓qXX]
   refine af (mlof_c ⟨hlk.1,hlk.2.1⟩ ⟨by omega,by omega⟩) ?_
   simp only[mvl,qaI,qaG]
   simp(disch:=omega)only[↓qXX]
   refine ob hO rfl ?_
   simp(disch:=omega)only[↓qXX]
   refine aH hG.good ?_
   simp(disch:=omega)only[↓qXX]
   refine bi hG rfl hg ?_
   unfold encM
   simp(disch:=omega)only[↓qXX]
   refine af (then_c (wY (n:=10) ⟨hlk.2.2.1,hlk.2.2.2⟩) hk (by omega)) ?_
   simp only[mvl,qaI,qaG]
   simp(disch:=omega)only[↓qXX]
   exact⟨by trivial,by trivial⟩
  ·rw[decide_eq_false hcr]
   simp(disch:=omega)only[↓qXX,qbz,qal,if_false]
   refine ob hO rfl ?_
   simp(disch:=omega)only[↓qXX]
   refine aH hG.good ?_
   simp(disch:=omega)only[↓qXX]
   refine bi hG rfl hg ?_
   unfold encM
   simp(disch:=omega)only[↓qXX]
   exact⟨by trivial,by trivial⟩)
 exact h1
set_option maxHeartbeats 16000000
def sG{g:FuncId}{sg:Sig}{cap:List Value}{ls rs:List Lf}{H H':List HObj}{args:List Value}(hc:aw cc ac g ls H rs H')(hs:ac g=some sg)(xs:List S0)(h1:bJ xs sg.ps=true)(h2:bK xs=ls)(h3:ah xs=args++cap) :
  ss cc (.func (.func g) ⟨[]⟩ ⟨cap⟩) args sg.rs H rs H':=by
 obtain⟨sg',xs',ys,c1,c2,c3,c4⟩:=hc
 rw[hs]at c1
 cases c1
 obtain⟨w1,_⟩:=cG c2.1 h1 (c2.2.1.trans h2.symm)
 rw[w1,h3]at c4
 exact⟨ys,c3,.inl ⟨g,⟨[]⟩,⟨cap⟩,rfl,by simpa using c4⟩⟩
def gm{α:Type}{e:Nat}{enc:α->List Value}(henc:∀a,(enc a).length=e){h:HL}{id cx len:Nat}{l:List α}{i:Nat}{a:α}{n:Int}{new:List Value}{K:List Value->HL->Prop}(hg:h[id]?=some (.o (.cells (l.flatMap enc) e true)))(hn:n=Int.ofNat i)(hi:i<l.length)(hlen:l.length=len)(hnew:new=enc a)(hk:K [] (putE h id e enc (l.set i a))) :
  P1.opt (idS e (.slice (some ⟨id,0,tag e⟩) len cx) n) (@hid _ ⟨λx=>P1.heap (.st x new) h (@hid _ ⟨K⟩)⟩):=by
 have hp:putE h id e enc l=h:=oB hg
 have:=r_set (C:=cc) (Sg:=ac) (T:=aa) (h:=h) (id:=id) (cx:=cx) (len:=len) (l:=l) henc (be hg) hn hi hlen hnew hk
 rw[hp]at this
 exact this
def cV{α:Type}{h:HL}{id e j:Nat}{enc:α->List Value}{l:List α}(hj:j≠id):(putE h id e enc l)[j]?=h[j]?:=by
 unfold putE
 rw[qai (qbK hj)]
def encN(n:Nat):List Value:=[.int .i64 (Int.ofNat n)]
def wp(n:Nat):(encN n).length=1:=rfl
def encT(t:Bool):List Value:=[.bool t]
def ie(t:Bool):(encT t).length=1:=rfl
def js(q:List Nat):(q.flatMap encN).length=q.length:=by
 rw[aR (e:=1) (enc:=encN) λa _=>wp a,qcQ]
def WQ(b:Nat)(h:HL)(v:Value)(q:List Nat):Prop:=∃id off cx vs,v = .slice (some ⟨id,off,tag 1⟩) q.length cx/\b<=id/\h[id]?=some (.o (.cells vs 1 true))/\cut vs off (q.length*1)=some (q.flatMap encN)/\(cx=0∨cx=q.length+1)
def WQ.ls{b:Nat}{h:HL}{v:Value}{q:List Nat}(hw:WQ b h v q):LsH h v 1 encN q:=by
 obtain⟨id,off,cx,vs,rfl,h1,h2,h3,_⟩:=hw
 exact⟨λa _=>wp a,by rw[js,qcQ],.inr ⟨id,off,cx,vs,true,rfl,h2,h3⟩⟩
def WQ.good{b:Nat}{h:HL}{v:Value}{q:List Nat}(hw:WQ b h v q):aP v=true:=hw.ls.good
def WQ.keep{b:Nat}{h h':HL}{v:Value}{q:List Nat}(hw:WQ b h v q)(hk:∀(j:Nat) o,b<=j->h[j]?=some o->h'[j]?=some o):WQ b h' v q:=by
 obtain⟨id,off,cx,vs,h0,h1,h2,h3⟩:=hw
 exact⟨id,off,cx,vs,h0,h1,hk _ _ h1 h2,h3⟩
def r_tail{b:Nat}{h:HL}{v:Value}{a:Nat}{q:List Nat}{K:Value->Prop}(hw:WQ b h v (a :: q))(hk:∀v',WQ b h v' q->aP v'=true->K v'):P1.opt (slS 1 v (some 1) none none) (@hid _ ⟨K⟩):=by
 obtain⟨id,off,cx,vs,rfl,h1,h2,h3,h4⟩:=hw
 have hr:slS 1 (.slice (some ⟨id,off,tag 1⟩) (a :: q).length cx) (some 1) none none=some (.slice (some ⟨id,off+1,tag 1⟩) q.length (cx - 1)):=by
  unfold slS
  have e1:¬(tag 1≠some 1/\tag 1≠tag 1):=by simp
  simp only[if_neg e1]
  have e2:(0:Int)<=(some (1:Int)).getD 0/\(some (1:Int)).getD 0<=(none:Option Int).getD ((a :: q).length:Int)/\cJ (a :: q).length cx none none:=by
   refine⟨by simp,?_,?_⟩
   ·simp only[qbs,qdu,qaC];omega
   ·unfold cJ
    left;simp
  rw[if_pos e2]
  rw[ee,ee,ee]
  simp[bB]
 refine am hr (hk _ ⟨id,off+1,cx - 1,vs,rfl,h1,h2,?_,?_⟩ ?_)
 ·have:=uW (h3:cut vs off ((a :: q).length*1)=some _) (o:=1) (k:=q.length*1) (by simp only[qaC];omega)
  rw[this]
  simp only[qbC,encN,qaI,qaG,qbO,qbg,qcQ]
  rw[←js q]
  congr 1
  exact qbh
 ·rcases h4 with h4|h4
  ·left;omega
  ·right;simp only[qaC]at h4;omega
 ·simp[aP,noLoc,bo,ca,bu,bc,aI,tag]
def r_apQ{b:Nat}{h:HL}{v:Value}{q:List Nat}{n m:Nat}{new:List Value}{K:List Value->HL->Prop}(hw:WQ b h v q)(hbh:b<=h.length)(hm:m=h.length)(hnew:new=encN n)(hq:q.length<=1000)
  (hk:∀v' h',WQ b h' v' (q++[n])->aP v'=true->(∀(j:Nat) o,j<b->h[j]?=some o->h'[j]?=some o)->h.length<=h'.length->K [v'] h') :
  P1.heap (.ap cc 1 8 v (.slice (some ⟨m,0,some 11⟩) 1 2)) (h++[.o (.cells new 1 true)]) (@hid _ ⟨K⟩):=by
 subst hm hnew
 obtain⟨id,off,cx,vs,rfl,h1,h2,h3,h4⟩:=hw
 have hlt:=be h2
 have hx:SlC (h++[HO.o (.cells (encN n) 1 true)]) (.slice (some ⟨h.length,0,tag 1⟩) 1 2) 1 1 (encN n):=⟨rfl,.inr ⟨h.length,0,2,encN n,true,rfl,by simp,Sx.cut_all rfl⟩⟩
 have hg:(h++[HO.o (.cells (encN n) 1 true)])[id]?=some (.o (.cells vs 1 true)):=by rw[qaf hlt];exact h2
 have hsz:bU (q.length+1) 8=true:=by
  unfold bU
  rw[qbZ (by omega),qbZ (by omega)];rfl
 have gd:∀i,aP (.slice (some ⟨i,0,tag 1⟩) (q.length+1) 0)=true:=λi=>by simp[aP,noLoc,bo,ca,bu,bc,aI,tag]
 have hcl:(q.flatMap encN++encN n)=(q++[n]).flatMap encN:=by simp
 have hlen:(q++[n]).length=q.length+1:=by simp
 rcases h4 with rfl|rfl
 ·have hrun:apG cc 1 8 (.slice (some ⟨id,off,tag 1⟩) q.length 0) (.slice (some ⟨h.length,0,tag 1⟩) 1 2) (getH aa (h++[HO.o (.cells (encN n) 1 true)])) (h++[HO.o (.cells (encN n) 1 true)]).length=some ([.set id .dead,.push (.cells (q.flatMap encN++encN n) 1 true)],[.slice (some ⟨(h++[HO.o (.cells (encN n) 1 true)]).length,0,tag 1⟩) (q.length+1) 0]):=by
   unfold apG
   rw[xD hx]
   simp only[ne_eq,not_true_eq_false,if_false]
   rw[cC hg]
   simp only[ne_eq,not_true_eq_false,if_false]
   rw[h3]
   simp only[qdo]
   rw[if_neg (by omega),if_pos hsz]
  refine cO (show(Hp.ap cc 1 8 (.slice (some ⟨id,off,tag 1⟩) q.length 0) (.slice (some ⟨h.length,0,tag 1⟩) 1 2)).run _ _=_ from hrun) ?_
  refine hk _ _ ⟨(h++[HO.o (.cells (encN n) 1 true)]).length,0,0,q.flatMap encN++encN n,by rw[hlen],by simp;omega,?_,?_,.inl rfl⟩ (gd _) (λj o hj ho=>?_) ?_
  ·show(((h++[HO.o (.cells (encN n) 1 true)]).set id (.o .dead))++[HO.o (.cells (q.flatMap encN++encN n) 1 true)])[_]?=_
   rw[qam (by simp)]
   simp
  ·rw[hcl,hlen]
   exact Sx.cut_all (by rw[js,hlen,qcQ])
  ·show(((h++[HO.o (.cells (encN n) 1 true)]).set id (.o .dead))++[HO.o (.cells (q.flatMap encN++encN n) 1 true)])[j]?=_
   have:=be ho
   rw[qaf (by simp;omega),qai (by omega),qaf this]
   exact ho
  ·show h.length<=(((h++[HO.o (.cells (encN n) 1 true)]).set id (.o .dead))++[HO.o (.cells (q.flatMap encN++encN n) 1 true)]).length
   simp;omega
 ·have hrun:apG cc 1 8 (.slice (some ⟨id,off,tag 1⟩) q.length (q.length+1)) (.slice (some ⟨h.length,0,tag 1⟩) 1 2) (getH aa (h++[HO.o (.cells (encN n) 1 true)])) (h++[HO.o (.cells (encN n) 1 true)]).length=some ([.push (.cells (q.flatMap encN++encN n) 1 true)],[.slice (some ⟨(h++[HO.o (.cells (encN n) 1 true)]).length,0,tag 1⟩) (q.length+1) 0]):=by
   unfold apG
   rw[xD hx]
   simp only[ne_eq,not_true_eq_false,if_false]
   rw[cC hg]
   simp only[ne_eq,not_true_eq_false,if_false]
   rw[h3]
   simp only
   rw[if_neg (by omega),if_pos hsz]
  refine cO (show(Hp.ap cc 1 8 (.slice (some ⟨id,off,tag 1⟩) q.length (q.length+1)) (.slice (some ⟨h.length,0,tag 1⟩) 1 2)).run _ _=_ from hrun) ?_
  refine hk _ _ ⟨(h++[HO.o (.cells (encN n) 1 true)]).length,0,0,q.flatMap encN++encN n,by rw[hlen],by simp;omega,?_,?_,.inl rfl⟩ (gd _) (λj o hj ho=>?_) ?_
  ·show((h++[HO.o (.cells (encN n) 1 true)])++[HO.o (.cells (q.flatMap encN++encN n) 1 true)])[_]?=_
   rw[qam (by simp)]
   simp
  ·rw[hcl,hlen]
   exact Sx.cut_all (by rw[js,hlen,qcQ])
  ·show((h++[HO.o (.cells (encN n) 1 true)])++[HO.o (.cells (q.flatMap encN++encN n) 1 true)])[j]?=_
   have:=be ho
   rw[qaf (by simp;omega),qaf this]
   exact ho
  ·show h.length<=((h++[HO.o (.cells (encN n) 1 true)])++[HO.o (.cells (q.flatMap encN++encN n) 1 true)]).length
   simp
structure RS(H h:HL)(w v:Nat)(x:Value)(l:List Crs)(A:List Mv)(B:List Bool):Prop where
 pre:Pre H h
 len:H.length+6<=h.length
 p:h[H.length]?=some (.o (.cells [.int .i64 (.ofNat w),.int .i64 (.ofNat v),x] 3 true))
 mp:SetM h (H.length+1) l
 mv:h[H.length+2]?=some (.o (.cells [.map (some (H.length+1))] 1 true))
 ol:h[H.length+3]?=some (.o (.cells (A.flatMap encM) 3 true))
 ov:h[H.length+4]?=some (.o (.cells [.slice (some ⟨H.length+3,0,tag 3⟩) (4*w*v) (4*w*v+1)] 1 true))
 kn:h[H.length+5]?=some (.o (.cells (B.flatMap encT) 1 true))
 la:A.length=4*w*v
 lb:B.length=4*w*v
section
variable {H h:HL} {w v:Nat} {x:Value} {l:List Crs} {A:List Mv} {B:List Bool}
abbrev ptrB(b:Nat):Value:=.pointer (some ⟨b,0,none⟩)
def eW{h:HL}{b e:Nat}{cs:List Value}(hb:h[b]?=some (.o (.cells cs e true))):Ptr h (ptrB b) cs:=⟨b,0,cs,e,true,rfl,hb,Sx.cut_all rfl⟩
def RS.lsA(hr:RS H h w v x l A B):LsH h (.slice (some ⟨H.length+3,0,tag 3⟩) (4*w*v) (4*w*v+1)) 3 encM A:=by
 have hl:=aR (e:=3) (enc:=encM) (l:=A) λa _=>bO a
 rw[←hr.la]
 exact⟨λa _=>bO a,hl,.inr ⟨_,0,_,_,true,rfl,hr.ol,Sx.cut_all hl⟩⟩
def RS.lsB(hr:RS H h w v x l A B):LsH h (.slice (some ⟨H.length+5,0,tag 1⟩) (4*w*v) (4*w*v+1)) 1 encT B:=by
 have hl:=aR (e:=1) (enc:=encT) (l:=B) λa _=>ie a
 rw[←hr.lb]
 exact⟨λa _=>ie a,hl,.inr ⟨_,0,_,_,true,rfl,hr.kn,Sx.cut_all hl⟩⟩
def RS.keep{h':HL}(hr:RS H h w v x l A B)(hk:∀(j:Nat) o,j<H.length+6->h[j]?=some o->h'[j]?=some o)(hl:h.length<=h'.length):RS H h' w v x l A B:=by
 obtain⟨es,c,m1,m2⟩:=hr.mp
 refine⟨?_,qbw hr.len hl,hk _ _ (by omega) hr.p,⟨es,c,hk _ _ (by omega) m1,m2⟩,hk _ _ (by omega) hr.mv,hk _ _ (by omega) hr.ol,hk _ _ (by omega) hr.ov,hk _ _ (by omega) hr.kn,hr.la,hr.lb⟩
 have hpre:=hr.pre
 refine⟨h'.drop H.length,?_⟩
 apply qaR
 intro i
 rcases qaB i H.length with hi|hi
 ·rw[qaf hi]
  have e1:H[i]?=some H[i]:=qar hi
  rw[e1]
  exact hk _ _ (by omega) (hpre.get e1)
 ·rw[qam hi,qa0,Nat.add_sub_cancel' hi]
def dP{α:Type}{id e:Nat}{enc:α->List Value}{L:List α}(hp:Pre H h)(hid:H.length<=id):Pre H (putE h id e enc L):=hp.set hid _
def xr{α:Type}{h:HL}{id e:Nat}{enc:α->List Value}{L:List α}:(putE h id e enc L).length=h.length:=by simp[putE]
def RS.putA(hr:RS H h w v x l A B){A':List Mv}(ha:A'.length=A.length):RS H (putE h (H.length+3) 3 encM A') w v x l A' B:=by
 obtain⟨es,c,m1,m2⟩:=hr.mp
 have hl:=hr.len
 exact⟨dP hr.pre (by omega),by rw[xr];exact hl,by rw[cV (by omega)];exact hr.p,⟨es,c,by rw[cV (by omega)];exact m1,m2⟩,by rw[cV (by omega)];exact hr.mv,dc (by omega),by rw[cV (by omega)];exact hr.ov,by rw[cV (by omega)];exact hr.kn,by rw[ha];exact hr.la,hr.lb⟩
def RS.putB(hr:RS H h w v x l A B){B':List Bool}(hb:B'.length=B.length):RS H (putE h (H.length+5) 1 encT B') w v x l A B':=by
 obtain⟨es,c,m1,m2⟩:=hr.mp
 have hl:=hr.len
 exact⟨dP hr.pre (by omega),by rw[xr];exact hl,by rw[cV (by omega)];exact hr.p,⟨es,c,by rw[cV (by omega)];exact m1,m2⟩,by rw[cV (by omega)];exact hr.mv,by rw[cV (by omega)];exact hr.ol,by rw[cV (by omega)];exact hr.ov,dc (by omega),hr.la,by rw[hb];exact hr.lb⟩
end
def gq(w v:Nat)(l:List Crs)(G:Nat->Mv):Prop:=∀c e n,c<4*w*v->e<3->nbr w v c e=some n->G n=acM w l (G c) c n e
def cntT:List Bool->Nat
 | []=>0
 |b :: l=>(if b then 1 else 0)+cntT l
def jW:∀l:List Bool,cntT l<=l.length
 | []=>qan _
 |b :: l=>by
  have:=jW l
  simp only[cntT,qaC]
  split<;>omega
def fO:∀ {l:List Bool} {n:Nat},l[n]?=some false->cntT (l.set n true)=cntT l+1
 | [],n,h=>by simp at h
 |b :: l,0,h=>by
  simp only[qbj,qaA]at h
  subst h
  simp[cntT];omega
 |b :: l,n+1,h=>by
  simp only[qbT]at h
  have:=fO h
  simp only[List.set_cons_succ,cntT,this];omega
structure JS(w v:Nat)(l:List Crs)(A:List Mv)(B:List Bool)(q:List Nat)(D:Nat->Nat->Prop):Prop where
 a0:A[0]?=some idM
 b0:B[0]?=some true
 q1:∀c∈q,B[c]?=some true
 dn:∀c e n,D c e->c<4*w*v->e<3->nbr w v c e=some n->B[c]?=some true->c∉q->B[n]?=some true/\∃a,A[c]?=some a/\A[n]?=some (acM w l a c n e)
 bd:∀(c:Nat) a,B[c]?=some true->A[c]?=some a->okM (20*(cntT B:Int)) a
 un:∀G,gq w v l G->G 0=idM->∀(c:Nat) a,B[c]?=some true->A[c]?=some a->a=G c
structure GoodA(w v:Nat)(l:List Crs)(A:List Mv):Prop where
 len:A.length=4*w*v
 a0:A[0]?=some idM
 ok:∀a∈A,okM 2000 a
 cons:∀c e n a,c<4*w*v->e<3->nbr w v c e=some n->A[c]?=some a->A[n]?=some (acM w l a c n e)
section
variable {w v:Nat} {l:List Crs} {A:List Mv} {B:List Bool} {q:List Nat}
def JS.start(hs:Sh w v):JS w v l (List.replicate (4*w*v) idM) ((List.replicate (4*w*v) false).set 0 true) [0] λ_ _=>True:=by
 have hN:0<4*w*v:=by
  have h1:=hs.1
  have h2:=hs.2.2.1
  have:0<w*v:=Nat.mul_pos h1 h2
  rw[qdO];omega
 have kn:∀c,((List.replicate (4*w*v) false).set 0 true)[c]?=some true->c=0:=by
  intro c hc
  by_cases h0:c=0
  ·exact h0
  ·rw[qai (qbK h0),qaT]at hc
   split at hc<;>cases hc
 refine⟨by rw[qaT,if_pos hN],by rw[qaD (by simpa using hN)],λc hc=>?_,λc e n _ _ _ _ hb hq=>?_,λc a hb ha=>?_,λG hG h0 c a hb ha=>?_⟩
 ·simp only[qau]at hc
  subst hc
  rw[qaD (by simpa using hN)]
 ·exact absurd (by rw[kn c hb];simp) hq
 ·have:=kn c hb
  subst this
  rw[qaT,if_pos hN]at ha
  cases ha
  exact okM_id (by omega)
 ·have:=kn c hb
  subst this
  rw[qaT,if_pos hN]at ha
  cases ha
  exact h0.symm
def JS.pop{c0:Nat}(h:JS w v l A B (c0 :: q) λ_ _=>True):JS w v l A B q λc e=>c=c0->e<0:=by
 refine⟨h.a0,h.b0,λc hc=>h.q1 c (qao _ hc),λc e n hd hc he hn hb hq=>?_,h.bd,h.un⟩
 by_cases hcc:c=c0
 ·have:=hd hcc;omega
 ·exact h.dn c e n trivial hc he hn hb λhm=>by
   rcases qak.1 hm with hm|hm
   ·exact hcc hm
   ·exact hq hm
def JS.skip{c0 j:Nat}(h:JS w v l A B q λc e=>c=c0->e<j)(hn:nbr w v c0 j=none):JS w v l A B q λc e=>c=c0->e<j+1:=by
 refine⟨h.a0,h.b0,h.q1,λc e n hd hc he hn' hb hq=>?_,h.bd,h.un⟩
 refine h.dn c e n (λhcc=>?_) hc he hn' hb hq
 have:=hd hcc
 rcases qaB e j with hlt|hge
 ·exact hlt
 ·obtain rfl:e=j:=by omega
  subst hcc
  rw[hn]at hn';cases hn'
def JS.seen{c0 j n:Nat}{a:Mv}(h:JS w v l A B q λc e=>c=c0->e<j)(hn:nbr w v c0 j=some n)(hb:B[n]?=some true)(ha:A[c0]?=some a)(hm:A[n]?=some (acM w l a c0 n j)):JS w v l A B q λc e=>c=c0->e<j+1:=by
 refine⟨h.a0,h.b0,h.q1,λc e n' hd hc he hn' hb' hq=>?_,h.bd,h.un⟩
 by_cases hcc:c=c0/\e=j
 ·obtain⟨rfl,rfl⟩:=hcc
  rw[hn]at hn';cases hn'
  exact⟨hb,a,ha,hm⟩
 ·exact h.dn c e n' (λhc'=>by have:=hd hc';have:e≠j:=λhe'=>hcc ⟨hc',he'⟩;omega) hc he hn' hb' hq
def JS.fresh(hs:Sh w v){c0 j n:Nat}{a:Mv}(h:JS w v l A B q λc e=>c=c0->e<j)(hla:A.length=4*w*v)(hlb:B.length=4*w*v)(hc0:c0<4*w*v)(hj:j<3)(hn:nbr w v c0 j=some n)(hb0:B[c0]?=some true)(hb:B[n]?=some false)(ha:A[c0]?=some a) :
  JS w v l (A.set n (acM w l a c0 n j)) (B.set n true) (q++[n]) λc e=>c=c0->e<j+1:=by
 obtain⟨g1,_,_,_,g5⟩:=kE hs hc0 hj hn
 have hBn:(B.set n true)[n]?=some true:=qaD (by omega)
 have hAn:(A.set n (acM w l a c0 n j))[n]?=some (acM w l a c0 n j):=qaD (by omega)
 have hB:∀c,c≠n->(B.set n true)[c]?=B[c]?:=λc hc=>qai (qbK hc)
 have hA:∀c,c≠n->(A.set n (acM w l a c0 n j))[c]?=A[c]?:=λc hc=>qai (qbK hc)
 have h0n:(0:Nat)≠n:=λe=>by have:=h.b0;rw[e,hb]at this;cases this
 have hok:okM (20*(cntT B:Int)) a:=h.bd c0 a hb0 ha
 refine⟨by rw[hA 0 h0n];exact h.a0,by rw[hB 0 h0n];exact h.b0,λc hc=>?_,λc e n' hd hc he hn' hbc hq=>?_,λc a' hbc hac=>?_,λG hG hG0 c a' hbc hac=>?_⟩
 ·rcases qaH.1 hc with hc|hc
  ·have:=h.q1 c hc
   by_cases hcn:c=n
   ·rw[hcn];exact hBn
   ·rw[hB c hcn];exact this
  ·simp only[qau]at hc
   rw[hc];exact hBn
 ·have hcn:c≠n:=λe=>hq (by rw[e];simp)
  have hcq:c∉q:=λhm=>hq (qaS _ hm)
  rw[hB c hcn]at hbc
  by_cases hcc:c=c0/\e=j
  ·obtain⟨rfl,rfl⟩:=hcc
   rw[hn]at hn';cases hn'
   exact⟨hBn,a,by rw[hA c hcn];exact ha,hAn⟩
  ·obtain⟨d1,a1,d2,d3⟩:=h.dn c e n' (λhc'=>by have:=hd hc';have:e≠j:=λhe'=>hcc ⟨hc',he'⟩;omega) hc he hn' hbc hcq
   have hnn:n'≠n:=λe'=>by rw[e',hb]at d1;cases d1
   exact⟨by rw[hB n' hnn];exact d1,a1,by rw[hA c hcn];exact d2,by rw[hA n' hnn];exact d3⟩
 ·rw[fO hb]
  by_cases hcn:c=n
  ·rw[hcn,hAn]at hac
   cases hac
   exact cE (acM_ok hs hc0 hj hn hok (by omega)) (by omega)
  ·rw[hB c hcn]at hbc
   rw[hA c hcn]at hac
   exact cE (h.bd c a' hbc hac) (by omega)
 ·by_cases hcn:c=n
  ·rw[hcn,hAn]at hac
   cases hac
   rw[hcn,hG c0 j n hc0 hj hn,←h.un G hG hG0 c0 a hb0 ha]
  ·rw[hB c hcn]at hbc
   rw[hA c hcn]at hac
   exact h.un G hG hG0 c a' hbc hac
def JS.done{c0:Nat}(h:JS w v l A B q λc e=>c=c0->e<3):JS w v l A B q λ_ _=>True:=
 ⟨h.a0,h.b0,h.q1,λc e n _ hc he hn hb hq=>h.dn c e n (λ_=>he) hc he hn hb hq,h.bd,h.un⟩
def sh_N(hs:Sh w v):0<4*w*v/\4*w*v<=100:=by
 have h1:1*1<=w*v:=qdJ hs.1 hs.2.2.1
 have h2:w*v<=5*5:=qdJ hs.2.1 hs.2.2.2
 rw[qdO];omega
def JS.good(hs:Sh w v)(h:JS w v l A B [] λ_ _=>True)(hla:A.length=4*w*v)(hlb:B.length=4*w*v):GoodA w v l A:=by
 have hall:∀n,n<4*w*v->B[n]?=some true:=nQ hs h.b0 λc e n hc he hn hb=>(h.dn c e n trivial hc he hn hb (by simp)).1
 have hN:=sh_N hs
 have hcnt:=jW B
 refine⟨hla,h.a0,λa hm=>?_,λc e n a hc he hn ha=>?_⟩
 ·obtain⟨i,hi⟩:=qaY hm
  have:=be hi
  exact cE (h.bd i a (hall i (by omega)) hi) (by omega)
 ·obtain⟨_,a',g1,g2⟩:=h.dn c e n trivial hc he hn (hall c hc) (by simp)
  rw[ha]at g1;cases g1
  exact g2
def JS.tear(hs:Sh w v){c0 j n:Nat}{a b:Mv}{D:Nat->Nat->Prop}(h:JS w v l A B q D)(hc0:c0<4*w*v)(hj:j<3)(hn:nbr w v c0 j=some n)(hb0:B[c0]?=some true)(hb:B[n]?=some true)(ha:A[c0]?=some a)(hbn:A[n]?=some b)(hne:b≠acM w l a c0 n j):¬ ∃G,gq w v l G/\G 0=idM:=by
 rintro⟨G,hG,hG0⟩
 refine hne ?_
 rw[h.un G hG hG0 n b hb hbn,hG c0 j n hc0 hj hn,←h.un G hG hG0 c0 a hb0 ha]
end
def left(B:List Bool)(q:List Nat):Nat:=q.length+(B.length - cntT B)
end Go.Am
end
